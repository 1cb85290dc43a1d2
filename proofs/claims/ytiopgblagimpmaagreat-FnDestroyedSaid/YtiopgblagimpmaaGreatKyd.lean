/- When the parts of a heap are valid, as plain functions over its data. No condition. -/
import Derived.Test.YtiopgblagimpmaaGreatKyc
set_option linter.unusedVariables false
set_option linter.defProp false
set_option linter.unusedSimpArgs false
set_option linter.constructorNameAsVariable false
namespace Go.Proofs.YtiopgblagimpmaaGreat.Ab
section
variable{α:Type}{l:List α}{p:α->Bool}{i:Nat}{x:α}
theorem cX(h:l[i]? = some x)(a:(l.take i).all p=true)(b:p x=true):(l.take (i+1)).all p=true:=by grind [I6]
theorem gN(h:l[i]? = some x)(a:p x=false):l.all p=false:=ψ
theorem oh(a:l.length<=i)(b:(l.take i).all p=true):l.all p=true:=by grind [Z7]
end
variable{i:Nat}{α:Type}
theorem wM{β:Type}{a:List α}{b:List β}{x:α}{y:β}(h1:a[i]? = some x)(c:b[i]? = some y):(a.zip b)[i]? = some (x,y):=ψ
def nth[Inhabited α](xs:List α)(i:Nat):α:=xs.getD i default
theorem au[Inhabited α]{xs:List α}(h:i<xs.length):xs[i]? = some (nth xs i):=by grind [nth]
theorem bn[Inhabited α]{xs:List α}{y:α}(h:xs[i]? = some y):nth xs i=y:=by grind [nth]
theorem ar[Inhabited α]{xs:List α}(h:i<xs.length):nth xs i∈xs:=O2 (au h)
def dh(n:Nat)(p:Nat->Bool):Bool:=(List.range n).all p
variable{n:Nat}
theorem cC{p:Nat->Bool} : dh n p=true↔∀j,j<n->p j=true:=by
 unfold dh;simp
theorem bW{p:Nat->Bool}(h:dh n p=true)(a:p n=true):dh (n+1) p=true:=by grind [cC]
theorem cG{p:Nat->Bool}(a:i<n)(b:p i=false):dh n p=false:=by grind [cC]
theorem fB{p:Nat->Bool}(h:dh n p=true)(a:i<n):p i=true:=cC.1 h i a
def jm(u:Bool)(v:Int):Bool:=decide (0<=v/\v<=999)&&(u || decide (v=0))
def im(r:List Int)(u:Bool):Bool:=decide (r.length=16)&&r.all (jm u)
def db(f:aU):Bool:=decide (1<=f.T.length/\f.T.length<=32)&&(decide (f.a1.length=f.T.length)&&(f.T.zip f.a1).all λq=>im q.1 q.2)
def iO{f:aU}{r:List Int}{u:Bool}(h1:f.T[i]? = some r)(a:f.a1[i]? = some u)(b:im r u=false):db f=false:=by
 unfold db;rw[gN (p:=λq=>im q.1 q.2) (wM h1 a) b];simp
variable{k:Nat}
theorem tE{r:List Int}{u:Bool}{v:Int}(h1:r[k]? = some v)(a:jm u v=false):im r u=false:=by grind [im]
theorem EA{f:aU}(h:db f=true):1<=f.T.length/\f.T.length<=32/\f.a1.length=f.T.length:=by grind [db]
def lS(a:Int)(e:bh):Bool:=decide (0<=e.e/\e.e<=2/\(e.e=0->e.o=0)/\(e.e≠0->0<=e.o/\e.o<a))
def gF(t:aJ)(a:Int):Bool:=dh t.J.length (λi=>lS a (nth t.J i))&&decide (1<=t.J.length/\t.J.length<=32)
def MS(t:aJ)(f:Int)(i:Nat):Bool:=decide ((nth t.J i).e≠0/\(nth t.J i).o=f)
def j8(t:aJ)(f:Int)(n:Nat):List Int:=((List.range n).filter (MS t f)).map λ(i:Nat)=>(i:Int)
def pagesOn(t:aJ)(f:Int):List Int:=j8 t f t.J.length
theorem BR{t:aJ}{f:Int}(h:MS t f n=true):j8 t f (n+1)=j8 t f n++[(n:Int)]:=by grind [List.range_succ,j8]
theorem Hf{t:aJ}{f:Int}(h:MS t f n=false):j8 t f (n+1)=j8 t f n:=by grind [List.range_succ,j8]
theorem uD(t:aJ)(f:Int)(n:Nat):(j8 t f n).length<=n:=by grind [j8]
def af(t:aJ)(p:Int):bh:=if 0<=p/\p<t.J.length then nth t.J p.toNat else⟨0,0⟩
def pV(m:aY)(i:Nat):Bool:=nth m.W.a1 i == decide (0<(pagesOn m.Q (i:Int)).length)
def dB(m:aY):Bool:=(db m.W&&gF m.Q m.W.a1.length)&&dh m.W.a1.length (pV m)
def aC(k:ah):Bool:=(dh k.w.length (λi=>decide (0<=nth k.w i))&&dB k.F)&&decide (0<=k.Calls/\k.Calls<=100000/\k.w.length<=40)
def rangeIn(pages:Int)(r:aB):Bool:=decide (1<=r.a8/\r.a8<=pages/\0<=r.At/\r.At<=pages - r.a8)
def g9(pages:Int)(xs:List aB)(i:Nat):Bool:=rangeIn pages (nth xs i)&&decide (i=0\/(nth xs (i - 1)).At+(nth xs (i - 1)).a8<(nth xs i).At)
def bG(pages:Int)(xs:List aB):Bool:=dh xs.length (g9 pages xs)&&decide (1<=pages/\pages<=32)
def wj(page:Int)(r:aB):Bool:=decide (r.At<=page)&&decide (page<IntKind.i64.wrap (r.At+r.a8))
def lim(k:Int):Int:=if k=0 then 65535 else if k=1 then 255 else if k=2 then 15 else if k=3 then 3 else 0
def slots(k:Int):Int:=if k=0 then 16 else if k=1 then 8 else if k=2 then 4 else if k=3 then 2 else 0
def bi(s:aA):Bool:=decide (0<=s.R/\s.R<=31/\0<=s.d/\s.d<=3/\0<=s.a9/\s.a9<=lim s.d)
def fk(n:Int):Int:=if 9<=n/\n<=1000 then(n+15) / 16 else 0
def bR(l:aF):Bool:=decide (9<=l.q/\l.q<=1000/\l.a3=(l.q+15) / 16/\0<=l.R/\l.R<=32 - l.a3)
def lpgs(l:aF)(n:Nat):List Int:=(List.range n).map λ(i:Nat)=>l.R+i
def pgs(sp:List aA)(la:List aF):List Int:=sp.map (·.R)++la.flatMap λl=>lpgs l l.a3.toNat
def bq(sp:List aA)(la:List aF):Bool:=(sp.all bi&&la.all bR)&&decide (pgs sp la).Nodup
def d7(s:aA)(a:Int):Bool:=bi s&&decide (16*s.R<=a/\a<=16*s.R+15)
def bc(b i:Int):Bool:=decide (0<=b/\0<=i/\i<=15/\b / 2 ^ i.toNat % 2=1)
def bS(l:aF)(a:Int):Bool:=bR l&&decide (16*l.R<=a/\a<=16*l.R+l.q - 1)
def csz(k:Int):Int:=if 0<=k/\k<=3 then 2 ^ k.toNat else 0
def jb(s:aA)(a:Int):Int × Int:=if d7 s a then((a - 16*s.R) / csz s.d,(a - 16*s.R) % csz s.d) else(-1,-1)
def qK(i:Nat)(s:aA)(a:Int):jL:=⟨if bc s.a9 ((a - 16*s.R) / csz s.d) then 1 else 2,i,(a - 16*s.R) / csz s.d,(a - 16*s.R) % csz s.d⟩
def denotes(sp:List aA)(la:List aF)(a:Int):jL:=
 match sp.findIdx? (d7 · a) with
 | some i=>qK i (nth sp i) a
 | none=>match la.findIdx? (bS · a) with
  | some i=>⟨3,i,0,a - 16*(nth la i).R⟩
  | none=>⟨0,0,0,0⟩
theorem wH{pr:α->Bool}{xs:List α}{y:α}(a:xs[i]? = some y)(b:pr y=true)(c:∀(j:Nat)(z:α),j<i->xs[j]? = some z->pr z=false):xs.findIdx? pr=some i:=by grind [Y7]
theorem EH{pr:α->Bool}{xs:List α}(a:xs.length<=i)(b:∀(j:Nat)(z:α),j<i->xs[j]? = some z->pr z=false):xs.findIdx? pr=none:=
 List.findIdx?_eq_none_iff.2 λz c=>by grind [List.mem_iff_getElem?]
theorem eg{pr:α->Bool}{xs:List α}{y:α}(a:xs[i]? = some y)(b:pr y=false)(c:∀(j:Nat)(z:α),j<i->xs[j]? = some z->pr z=false):∀(j:Nat)(z:α),j<i+1->xs[j]? = some z->pr z=false:=ψ
def cZ(pr:α->Bool)(xs:List α):Int:=match xs.findIdx? pr with|some i=>(i:Nat)|none=>-1
theorem dQ{pr:α->Bool}{xs:List α}{y:α}(a:xs[i]? = some y)(b:pr y=true)(c:∀(j:Nat)(z:α),j<i->xs[j]? = some z->pr z=false):cZ pr xs=(i:Nat):=by
 unfold cZ;rw[wH a b c]
theorem gq{pr:α->Bool}{xs:List α}(a:xs.length<=i)(b:∀(j:Nat)(z:α),j<i->xs[j]? = some z->pr z=false):cZ pr xs = -1:=by grind [EH,cZ]
theorem nq(pr:α->Bool)(xs:List α):decide (cZ pr xs≥0)=xs.any pr:=by grind [cZ]
def meshable(s t:aA):Bool:=(bi s&&bi t)&&decide (s.d=t.d/\s.R≠t.R/\s.a9.toNat &&& t.a9.toNat=0)
def nJ(n:Int)(p:dx):Bool:=decide (0<=p.To/\p.To<=n - 1/\0<=p.Addr)
def RQ(z:Int):Bool:=decide (0<=z)
def hB(m:aP)(i:Nat):Bool:=(nth m.U i).all (nJ m.U.length)&&(nth m.a0 i).all RQ
def bD(m:aP):Nat->Int
 | 0=>0
 | i+1=>bD m i+((nth m.U i).length+(nth m.a0 i).length)
def bQ(m:aP):Bool:=(decide (1<=m.U.length/\m.U.length<=4/\m.a0.length=m.U.length)&&dh m.U.length (hB m))&&decide (bD m m.U.length<=30)
def aR(m:aP):List Int:=if bQ m then(m.U.flatMap λl=>l.map (·.Addr))++m.a0.flatten else []
def eX(a:Int)(y:aV):Bool:=decide (y.Addr=a)
def lg(xs:List aV)(i:Nat):Bool:=decide (0<=(nth xs i).d/\(nth xs i).d<=3/\0<=(nth xs i).Addr/\0<=(nth xs i).b7/\(i=0\/(nth xs (i - 1)).b7<=(nth xs i).b7))&&!(xs.take i).any (eX (nth xs i).Addr)
def quarCells(xs:List aV):Nat->Int
 | 0=>0
 | i+1=>quarCells xs i+csz (nth xs i).d
def gi(q:bO):Bool:=dh q.a6.length (lg q.a6)&&decide (0<=q.b8/\q.b8<=500/\quarCells q.a6 q.a6.length<=q.b8)
def mP(xs:List Int)(i:Nat):Bool:=decide (0<=nth xs i/\nth xs i<=15/\(i=0\/nth xs (i - 1)<nth xs i))
def fm(p:cE):Bool:=dh p.T.length (mP p.T)&&decide (0<=p.a4/\p.a4<=31/\0<=p.a2/\p.a2<=31/\p.a4≠p.a2)
def kj(j:cK):Bool:=fm j.X&&decide (0<=j.b0/\j.b0<=5/\0<=j.b/\j.b<=j.X.T.length)
def tl(j:cK):Bool:=decide (j.X.a4=0/\j.X.a2=0/\j.X.T.length=0/\j.b0=0/\j.b=0)
def aW(h:ac)(p:Int):List Int:=if(af h.G.F.Q p).e=0 then [] else pagesOn h.G.F.Q (af h.G.F.Q p).o
def mU(p:Int)(s:aA):Bool:=decide (s.R=p)
def gQ(h:ac)(p:Int):Int:=cZ (mU p) h.K
def aN(n:Int):Int:=if n<1 then -1 else if n<=1 then 0 else if n<=2 then 1 else if n<=4 then 2 else if n<=8 then 3 else -1
open Go.RowKit
set_option maxRecDepth 20000
set_option maxHeartbeats 2000000
def aK(n lo a:Int):zzA 110 false [.val none [I n],.val none [I lo],.val none [I a]] .one [B (decide (lo<=n/\n<=a))]:=by
 refine fO 15 [] Tryz.func110 rfl ?_
 repeat'(first|refine gP ?_|(conv=>whnf);first|with_reducible refine Bf.D (λb=>?_) (λb=>?_))
 all_goals exact Z0 (λz=>[B z]) (by simp;try omega)
def aO(n lo a:Int):zzA 63 false [.val none [I n],.val none [I lo],.val none [I a]] .one [B (decide (lo<=n/\n<=a))]:=by
 refine fO 15 [] Tryz.func63 rfl ?_
 repeat'(first|refine gP ?_|(conv=>whnf);first|with_reducible refine Bf.D (λb=>?_) (λb=>?_))
 all_goals exact Z0 (λz=>[B z]) (by simp;try omega)
def fF(k:Int):zzA 232 false [.val none [I k]] .one [B (decide (0<=k/\k<=3))]:=by
 refine fO 5 [] Tryz.func232 rfl ?_
 repeat'(first|refine gP ?_|(conv=>whnf);first|refine C9 (aO k 0 3) ?_)
 rfl
theorem fQ(k:Int):zzA 106 false [.val none [I k]] .one [I (csz k)]:=by
 by_cases b:0<=k/\k<=3
 ·obtain rfl|rfl|rfl|rfl:k=0\/k=1\/k=2\/k=3:=ω
  all_goals
   refine fO 8 [] Tryz.func106 rfl ?_
   repeat'(first|refine gE ?_|(conv=>whnf);first|with_reducible refine Bf.D (λa=>?_) (λa=>?_)|refine C9 (fF _) ?_|refine CP (by decide) ?_|refine CN rfl ?_)
   exact Z0 (λz=>[I z]) (by decide)
 refine fO 8 [] Tryz.func106 rfl ?_
 repeat'(first|refine gE ?_|(conv=>whnf);first|with_reducible refine Bf.D (λa=>?_) (λa=>?_)|refine C9 (fF _) ?_)
 exact Z0 (λz=>[I z]) (by grind [csz])
theorem eC(k:Int):zzA 361 false [.val none [I k]] .one [I (csz k)]:=by
 by_cases b:0<=k/\k<=3
 ·obtain rfl|rfl|rfl|rfl:k=0\/k=1\/k=2\/k=3:=ω
  all_goals
   refine fO 9 [] Tryz.func361 rfl ?_
   repeat'(first|refine gE ?_|(conv=>whnf);first|with_reducible refine Bf.D (λa=>?_) (λa=>?_)|refine C9 (aK _ 0 3) ?_|refine CP (by decide) ?_|refine CN rfl ?_)
   exact Z0 (λz=>[I z]) (by decide)
 refine fO 9 [] Tryz.func361 rfl ?_
 repeat'(first|refine gE ?_|(conv=>whnf);first|with_reducible refine Bf.D (λa=>?_) (λa=>?_)|refine C9 (aK _ 0 3) ?_)
 exact Z0 (λz=>[I z]) (by grind [csz])
theorem np(xs:List Int)(a:Int)(h:xs.length<=9223372036854775807):zzA 353 false [.val none (aH .V xs),.val none [I a]] .one [B (decide (a∈xs))]:=by
 refine fO 18 [] Tryz.func353 rfl ?_
 repeat'(first|refine gP ?_|fail)
 (conv=>whnf)
 refine CJ (ι:=Nat) (λi=>[(0,.H .one (aH .V xs)),(1,.H .one [I a]),(5,.H .one [I (i:Nat)])]) (λi=>i<=xs.length/\a∉xs.take i) (λi=>xs.length - i) 0 ?_ ψ λi c=>?_
 ·exact wB
 obtain⟨c,d⟩:=c;by_cases b:i<xs.length
 ·obtain⟨y,e⟩ : ∃y,xs[i]? = some y:=⟨_,X2 b⟩
  repeat'(first|refine gE ?_|(conv=>whnf);first|with_reducible (first|refine CE (aa e) ?_|refine Bf.E (λg=>?_) (λg=>?_)))
  ·exact Z0 (λz=>[B z]) ψ
  (conv=>whnf)
  refine CF (i+1) ⟨ω,?_⟩ ω ?_
  ·grind [I6]
  exact wB
 repeat'(first|refine gE ?_|fail)
 rw[Z7 ω]at d;exact Z0 (λz=>[B z]) ψ
set_option maxHeartbeats 4000000
def good(k:Int)(s:List Int)(a:Int):Prop:=0<=a/\a<=511/\a.tmod (csz k)=0/\a∉s
instance (k:Int) (s:List Int) (a:Int):Decidable (good k s a):=by unfold good;exact inferInstance
def sI(k:Int):List Int->List Int->Option (List Int)
 | s,[]=>some s
 | s,a::l=>if good k s a then sI k (s++[a]) l else none
def fG(k:Nat)(s l:List Int):Option (List Int):=if l.length<=8/\k<=3 then sI k s l else none
def gR:Nat->List Int->List (List Int)->Option (List Int)
 | _,s,[]=>some s
 | k,s,l::ls=>(fG k s l).bind λa=>gR (k+1) a ls
def bx(c:aE):Bool:=decide (c.a.length=4)&&(gR 0 [] c.a).isSome
theorem rK(k:Int):∀(a s b:List Int),sI k s (a++b)=(sI k s a).bind λc=>sI k c b
 | [],s,b=>rfl
 | x::a,s,b=>by
  simp only[List.cons_append,sI];split
  ·exact rK k a _ b
  rfl
theorem qe:∀(a:List (List Int))(k:Nat)(s:List Int)(b:List (List Int)),gR k s (a++b)=(gR k s a).bind λc=>gR (k+a.length) c b
 | [],k,s,b=>rfl
 | l::a,k,s,b=>by
  simp only[List.cons_append,gR,Option.bind_assoc,List.length_cons]
  congr 1;funext c
  rw[qe a (k+1) c b,show k+1+a.length=k+(a.length+1) by omega]
variable{a:Int}{l:List Int}
theorem KX{k:Int}{b s:List Int}{j:Nat}(c:l[j]? = some a)(h:sI k b (l.take j)=some s)(d:good k s a):sI k b (l.take (j+1))=some (s++[a]):=by grind [I6,rK,sI]
theorem PV{b s:List Int}{j:Nat}(c:l[j]? = some a)(h:sI k b (l.take j)=some s)(d:¬good k s a):fG k b l=none:=by
 unfold fG;split
 all_goals grind [List.drop_eq_getElem_cons,List.take_append_drop,rK,sI]
theorem DS{k:Int} : ∀{l s b:List Int},sI k s l=some b->b.length=s.length+l.length
 | [],s,b,h=>by grind [sI]
 | a::l,s,b,h=>by
  simp only[sI]at h;split at h
  ·have:=DS h;grind
  cases h
theorem ux{a:List (List Int)}{s:List Int}(b:a[i]? = some l)(h:gR 0 [] (a.take i)=some s):gR 0 [] (a.take (i+1))=fG i s l:=by
 have c:=(Z2.1 b).1;rw[I6,b,Option.toList_some,qe,h];simp only[Option.bind_some,gR,X7,C2,Nat.min_eq_left (Nat.le_of_lt c)]
 grind
variable{c:aE}
theorem lA{s:List Int}(a:c.a[i]? = some l)(h:gR 0 [] (c.a.take i)=some s)(b:fG i s l=none):bx c=false:=by
 have d:=ux a h
 grind [List.take_append_drop,qe,bx]
theorem Fg:∀{b:List (List Int)}{k:Nat}{s a:List Int},gR k s b=some a->a.length<=s.length+8*b.length
 | [],k,s,a,h=>by grind [gR]
 | l::b,k,s,a,h=>by
  simp only[gR]at h;unfold fG at h;split at h
  ·cases c:sI k s l with
   | none=>grind
   | some d=>
    rw[c]at h;have e:=DS c;have f:=Fg (show gR (k+1) d b=some a from h)
    grind
  cases h
def Nk(h:i<=3):csz (i:Int)≠0:=by
 obtain rfl|rfl|rfl|rfl:i=0\/i=1\/i=2\/i=3:=ω
 all_goals decide
def cS : ∀r∈l.map (rI .own),r.length=1:=by
 intro r a;obtain⟨z,-,rfl⟩:=Y4.1 a;rfl
theorem nR(c:aE)(t:aE.sml c):zzA 214 false [.val (some 1) (aE.enc .V c)] .one [B (bx c)]:=by
 have G:=t.1;refine fO 60 [] Tryz.func214 rfl ?_
 repeat'(first|refine gP ?_|(conv=>whnf);first|with_reducible refine Bf.N (λe=>?_) (λe=>?_))
 ·exact Z0 (λz=>[B z]) (by grind [bx])
 have H:c.a.length=4:=ω
 (conv=>whnf)
 refine CJ (ι:=Nat × List Int) (λi=>[(1,.H .box (aE.enc .V c)),(3,.H .one (aH .own i.2)),(4,.H .one [I (i.1:Nat)])]) (λi=>i.1<=4/\gR 0 [] (c.a.take i.1)=some i.2) (λi=>4 - i.1) (0,[]) ?_ ⟨X0 _,rfl⟩ λi k=>?_
 ·exact wB
 obtain⟨i,s⟩:=i;obtain⟨k,b⟩:=k;simp only at k b |-;have g:=Fg b;rw[C2]at g;simp only[List.length_nil]at g;by_cases u:i<4
 ·obtain⟨l,d⟩ : ∃l,c.a[i]? = some l:=(ψ)
  have w:l.length<=1048576:=t.2 l ψ
  repeat'(first|refine gE ?_|(conv=>whnf);first|with_reducible (first|refine CE (aa d) ?_|refine Bf.D (λe=>?_) (λe=>?_)))
  ·exact Z0 (λz=>[B z]) (lA d b (by grind [fG])).symm
  have E:l.length<=8:=ω
  (conv=>whnf)
  refine CJ (ι:=Nat × List Int) (λj=>[(1,.H .box (aE.enc .V c)),(3,.H .one (aH .own j.2)),(4,.H .one [I (i:Nat)]),(5,.H .one [I (j.1:Nat)])]) (λj=>j.1<=l.length/\sI i s (l.take j.1)=some j.2) (λj=>l.length - j.1) (0,s) ?_ ⟨X0 _,rfl⟩ λj n=>?_
  ·exact wB
  obtain⟨j,o⟩:=j;obtain⟨n,a⟩:=n;simp only at n a |-;have h:=DS a;rw[C2]at h;by_cases p:j<l.length
  ·obtain⟨y,q⟩ : ∃y,l[j]? = some y:=⟨_,X2 p⟩
   repeat'(first|refine gE ?_|(conv=>whnf);first|with_reducible (first|refine CE (aa d) ?_|refine CE (aa q) ?_|refine Bf.D (λe=>?_) (λe=>?_)|refine Bf.N (λe=>?_) (λe=>?_))|refine C9 (aK y 0 511) ?_|refine C9 (eC (i:Nat)) ?_|refine CP (Nk ω) ?_|refine CV rfl ?_|refine CG (np o y ω) ⟨⟨rfl,dK _⟩,⟨rfl,rfl⟩,trivial⟩ ?_|refine CU cS (λr F=>by rw[V1.1 F];rfl) (by simp[bk,eD]) (by simp;omega) (by simp only[I1];exact y4 (by simp;omega) (by decide)) rfl ?_)
   all_goals first
    | exact Z0 (λz=>[B z]) (lA d b (PV q a λ⟨J,K,L,M⟩=>by first|contradiction|omega)).symm
    | ((conv=>whnf)
       refine CF (j+1,o++[y]) ⟨(by simp only;omega),KX q a ⟨ω,ω,(by assumption),(by assumption)⟩⟩ (by simp only;omega) ?_
       (repeat'(first|exact trivial|rfl|exact CM rfl (CM (Z0 (C.s dY.own) (by simp[rI])) trivial)|refine CM ?_ ?_)))
  repeat'(first|refine gE ?_|(conv=>whnf);first|with_reducible refine CE (aa d) ?_)
  (conv=>whnf)
  rw[Z7 ω]at a;refine CF (i+1,o) ⟨(by simp only;omega),(by rw[ux d b];grind [fG])⟩ (by simp only;omega) ?_;exact wB
 repeat'(first|refine gE ?_|fail)
 rw[Z7 ω]at b;exact Z0 (λz=>[B z]) (by grind [bx])
def fW(s:List Int):List (Int × Value):=s.map λa=>(a,.bool true)
theorem ou(a:Int):∀(s:List Int),mlook (fW s) a (.bool false)=.bool (decide (a∈s))
 | []=>by simp[fW,mlook]
 | x::s=>by
  have b:=ou a s
  grind [fW,mlook]
theorem uN{a:Int} : ∀{s:List Int},a∉s->fW (s++[a])=mput (fW s) a (.bool true)
 | [],_=>rfl
 | x::s,h=>by
  simp only[List.mem_cons,not_or]at h;have b:=uN h.2
  grind [fW,mput]
theorem sP(c:aE)(p:aE.sml c):zzA 80 false [.val (some 1) (aE.enc .V c)] .one [B (bx c)]:=by
 have w:=p.1;refine fO 54 [] Tryz.func80 rfl ?_
 repeat'(first|refine gP ?_|fail)
 (conv=>whnf)
 refine CJ (ι:=Nat × List Int) (λi=>[(1,.H .box (aE.enc .V c)),(3,.H .one [.m (fW i.2)]),(10,.H .one (jF .V c.a)),(11,.H .one [I c.a.length]),(12,.H .one [I (i.1:Nat)])]) (λi=>i.1<=c.a.length/\gR 0 [] (c.a.take i.1)=some i.2) (λi=>c.a.length - i.1) (0,[]) ?_ ⟨X0 _,rfl⟩ λi g=>?_
 ·exact wB
 obtain⟨i,s⟩:=i;obtain⟨g,d⟩:=g;simp only at g d |-;by_cases q:i<c.a.length
 ·obtain⟨l,b⟩ : ∃l,c.a[i]? = some l:=(ψ)
  have r:l.length<=1048576:=p.2 l ψ
  repeat'(first|refine gE ?_|(conv=>whnf);first|with_reducible (first|refine CE (aa b) ?_|refine Bf.D (λe=>?_) (λe=>?_))|refine C9 (fF (i:Nat)) ?_)
  ·exact Z0 (λz=>[B z]) (lA b d (by grind [fG])).symm
  rotate_left
  ·exact Z0 (λz=>[B z]) (lA b d (by grind [fG])).symm
  have t:l.length<=8:=ω
  have u:i<=3:=ω
  (conv=>whnf)
  refine CJ (ι:=Nat × List Int) (λj=>[(1,.H .box (aE.enc .V c)),(3,.H .one [.m (fW j.2)]),(4,.H .one [I (i:Nat)]),(10,.H .one (jF .V c.a)),(11,.H .one [I c.a.length]),(12,.H .one [I (i:Nat)]),(25,.H .one (aH .V l)),(26,.H .one [I l.length]),(27,.H .one [I (j.1:Nat)])]) (λj=>j.1<=l.length/\sI i s (l.take j.1)=some j.2) (λj=>l.length - j.1) (0,s) ?_ ⟨X0 _,rfl⟩ λj h=>?_
  ·exact wB
  obtain⟨j,k⟩:=j;obtain⟨h,a⟩:=h;simp only at h a |-;by_cases n:j<l.length
  ·obtain⟨y,o⟩ : ∃y,l[j]? = some y:=⟨_,X2 n⟩
   repeat'(first|refine gE ?_|(conv=>whnf);first|with_reducible (first|refine CE (aa b) ?_|refine CE (aa o) ?_|refine Bf.D (λe=>?_) (λe=>?_)|refine Bf.N (λe=>?_) (λe=>?_))|refine C9 (aO y 0 511) ?_|refine C9 (fQ (i:Nat)) ?_|refine CP (Nk ω) ?_|refine CV rfl ?_|refine Ml.mk (ou y k) ?_|refine Mu.mk (uN (by assumption)) ?_)
   all_goals first
    | exact Z0 (λz=>[B z]) (lA b d (PV o a λ⟨C,E,F,G⟩=>by first|contradiction|omega)).symm
    | ((conv=>whnf)
       refine CF (j+1,k++[y]) ⟨(by simp only;omega),KX o a ⟨ω,ω,(by assumption),(by assumption)⟩⟩ (by simp only;omega) ?_
       (exact wA))
  repeat'(first|refine gE ?_|fail)
  (conv=>whnf)
  rw[Z7 ω]at a;refine CF (i+1,k) ⟨(by simp only;omega),(by rw[ux b d];grind [fG])⟩ (by simp only;omega) ?_;exact wB
 repeat'(first|refine gE ?_|fail)
 grind [W0,bx]
theorem Lh:∀{b:List (List Int)}{k:Nat}{s c:List Int},gR k s b=some c->∀l∈b,l.length<=8
 | [],k,s,c,h,l,a=>by simp at a
 | x::b,k,s,c,h,l,a=>by
  simp only[gR]at h;unfold fG at h;split at h
  ·rename_i d
   rcases List.mem_cons.1 a with rfl|a
   ·exact d.1
   cases e:sI k s x with
   | none=>grind
   | some f=>rw[e]at h;exact Lh (show gR (k+1) f b=some c from h) l a
  cases h
theorem vL(h:bx c=true):c.a.length=4/\∀l∈c.a,l.length<=8:=by grind [Option.isSome_iff_exists,Lh,bx]
theorem rc(f:aU)(h:aU.sml f):zzA 86 false [.val (some 2) (aU.enc .V f)] .one [B (db f)]:=by
 have C:=h.1.1;have E:f.a1.length<=1048576:=h.2;refine fO 61 [] Tryz.func86 rfl ?_
 repeat'(first|refine gP ?_|(conv=>whnf);first|with_reducible (first|refine Bf.D (λa=>?_) (λa=>?_)|refine Bf.N (λa=>?_) (λa=>?_))|refine C9 (aK f.T.length 1 32) ?_)
 ·exact Z0 (λz=>[B z]) (by grind [db])
 rotate_left
 ·exact Z0 (λz=>[B z]) (by grind [db])
 have t:1<=f.T.length/\f.T.length<=32:=ω
 have w:f.a1.length=f.T.length:=ω
 (conv=>whnf)
 refine CJ (ι:=Nat) (λi=>[(1,.H .box (aU.enc .V f)),(3,.H .one [I (i:Nat)])]) (λi=>i<=f.T.length/\((f.T.zip f.a1).take i).all (λq=>im q.1 q.2)=true) (λi=>f.T.length - i) 0 ?_ ψ λi j=>?_
 ·exact wB
 obtain⟨j,y⟩:=j;by_cases g:i<f.T.length
 ·obtain⟨r,c⟩ : ∃r,f.T[i]? = some r:=⟨_,X2 g⟩
  obtain⟨u,b⟩ : ∃u,f.a1[i]? = some u:=⟨_,X2 ω⟩
  repeat'(first|refine gE ?_|(conv=>whnf);first|with_reducible (first|refine CE (aa c) ?_|refine Bf.N (λa=>?_) (λa=>?_)))
  ·exact Z0 (λz=>[B z]) (iO c b (by grind [im])).symm
  have l:r.length=16:=ω
  (conv=>whnf)
  refine CJ (ι:=Nat) (λk=>[(1,.H .box (aU.enc .V f)),(3,.H .one [I (i:Nat)]),(4,.H .one [I (k:Nat)])]) (λk=>k<=16/\(r.take k).all (jm u)=true) (λk=>16 - k) 0 ?_ ψ λk n=>?_
  ·exact wB
  obtain⟨n,e⟩:=n;by_cases o:k<16
  ·obtain⟨v,d⟩ : ∃v,r[k]? = some v:=⟨_,X2 ω⟩
   cases u with
   | true=>
    repeat'(first|refine gE ?_|(conv=>whnf);first|with_reducible (first|refine CE (aa c) ?_|refine CE (aa b) ?_|refine CE (aa d) ?_|refine Bf.D (λa=>?_) (λa=>?_)|refine Bf.N (λa=>?_) (λa=>?_))|refine C9 (aK v 0 999) ?_)
    all_goals first
     | exact Z0 (λz=>[B z]) (iO c b (tE d (by first|(unfold jm;rw[W0 ω];rfl)|(unfold jm;rw[W0 (p:=v=0) ω];simp)))).symm
     | ((conv=>whnf)
        refine CF (ι:=Nat) (k+1) ⟨ω,cX d e (by unfold jm;first|(rw[O0 ω];rfl)|(rw[O0 (p:=0<=v/\v<=999) ω,O0 (p:=v=0) ω];rfl))⟩ ω ?_
        (exact wA))
   | false=>
    repeat'(first|refine gE ?_|(conv=>whnf);first|with_reducible (first|refine CE (aa c) ?_|refine CE (aa b) ?_|refine CE (aa d) ?_|refine Bf.D (λa=>?_) (λa=>?_)|refine Bf.N (λa=>?_) (λa=>?_))|refine C9 (aK v 0 999) ?_)
    all_goals first
     | exact Z0 (λz=>[B z]) (iO c b (tE d (by first|(unfold jm;rw[W0 ω];rfl)|(unfold jm;rw[W0 (p:=v=0) ω];simp)))).symm
     | ((conv=>whnf)
        refine CF (ι:=Nat) (k+1) ⟨ω,cX d e (by unfold jm;first|(rw[O0 ω];rfl)|(rw[O0 (p:=0<=v/\v<=999) ω,O0 (p:=v=0) ω];rfl))⟩ ω ?_
        (exact wA))
  repeat'(first|refine gE ?_|fail)
  (conv=>whnf)
  refine CF (i+1) ⟨ω,cX (wM c b) y (by grind [im])⟩ ω ?_;exact wB
 repeat'(first|refine gE ?_|fail)
 exact Z0 (λz=>[B z]) (by grind [List.length_zip,db])
theorem ri(f:aU)(g:aU.sml f):zzA 242 false [.val (some 2) (aU.enc .V f)] .one [B (db f)]:=by
 have C:=g.1.1;have E:f.a1.length<=1048576:=g.2;refine fO 55 [] Tryz.func242 rfl ?_
 repeat'(first|refine gP ?_|(conv=>whnf);first|with_reducible (first|refine Bf.D (λa=>?_) (λa=>?_)|refine Bf.N (λa=>?_) (λa=>?_))|refine C9 (aO f.T.length 1 32) ?_)
 ·exact Z0 (λz=>[B z]) (by grind [db])
 rotate_left
 ·exact Z0 (λz=>[B z]) (by grind [db])
 have p:1<=f.T.length/\f.T.length<=32:=ω
 have t:f.a1.length=f.T.length:=ω
 (conv=>whnf)
 refine CJ (ι:=Nat) (λi=>[(1,.H .box (aU.enc .V f)),(22,.H .one (jF .V f.T)),(23,.H .one [I (f.T.length)]),(24,.H .one [I ((i:Nat):Int)])]) (λi=>i<=f.T.length/\((f.T.zip f.a1).take i).all (λq=>im q.1 q.2)=true) (λi=>f.T.length - i) (0) ?_ ψ λi j=>?_
 ·exact wB
 obtain⟨j,w⟩:=j;by_cases h:i<f.T.length
 ·obtain⟨r,c⟩ : ∃r,f.T[i]? = some r:=⟨_,X2 h⟩
  obtain⟨u,b⟩ : ∃u,f.a1[i]? = some u:=⟨_,X2 ω⟩
  have y:r.length<=1048576:=g.1.2 r ψ
  repeat'(first|refine gE ?_|(conv=>whnf);first|with_reducible (first|refine CE (aa c) ?_|refine Bf.N (λa=>?_) (λa=>?_)))
  ·exact Z0 (λz=>[B z]) (iO c b (by grind [im])).symm
  have l:r.length=16:=ω
  (conv=>whnf)
  refine CJ (ι:=Nat) (λk=>[(1,.H .box (aU.enc .V f)),(3,.H .one [I ((i:Nat):Int)]),(22,.H .one (jF .V f.T)),(23,.H .one [I (f.T.length)]),(24,.H .one [I ((i:Nat):Int)]),(32,.H .one (aH .V r)),(33,.H .one [I (r.length)]),(34,.H .one [I ((k:Nat):Int)])]) (λk=>k<=r.length/\(r.take k).all (jm u)=true) (λk=>r.length - k) (0) ?_ ψ λk n=>?_
  ·exact wB
  obtain⟨n,e⟩:=n;by_cases o:k<r.length
  ·obtain⟨v,d⟩ : ∃v,r[k]? = some v:=⟨_,X2 ω⟩
   cases u with
   | true=>
    repeat'(first|refine gE ?_|(conv=>whnf);first|with_reducible (first|refine CE (aa c) ?_|refine CE (aa b) ?_|refine CE (aa d) ?_|refine Bf.D (λa=>?_) (λa=>?_)|refine Bf.N (λa=>?_) (λa=>?_))|refine C9 (aO v 0 999) ?_)
    all_goals first
     | exact Z0 (λz=>[B z]) (iO c b (tE d (by unfold jm;grind))).symm
     | ((conv=>whnf)
        refine CF (ι:=Nat) (k+1) ⟨ω,cX d e (by unfold jm;grind)⟩ ω ?_
        (exact wA))
   | false=>
    repeat'(first|refine gE ?_|(conv=>whnf);first|with_reducible (first|refine CE (aa c) ?_|refine CE (aa b) ?_|refine CE (aa d) ?_|refine Bf.D (λa=>?_) (λa=>?_)|refine Bf.N (λa=>?_) (λa=>?_))|refine C9 (aO v 0 999) ?_)
    all_goals first
     | exact Z0 (λz=>[B z]) (iO c b (tE d (by unfold jm;grind))).symm
     | ((conv=>whnf)
        refine CF (ι:=Nat) (k+1) ⟨ω,cX d e (by unfold jm;grind)⟩ ω ?_
        (exact wA))
  repeat'(first|refine gE ?_|fail)
  (conv=>whnf)
  refine CF (i+1) ⟨ω,cX (wM c b) w (by grind [im])⟩ ω ?_;exact wB
 repeat'(first|refine gE ?_|fail)
 exact Z0 (λz=>[B z]) (by grind [List.length_zip,db])
theorem E9(t:aJ)(b:Int)(e:aJ.sml t):zzA 469 false [.val (some 1) (aJ.enc .V t),.val none [I b]] .one [B (gF t b)]:=by
 have k:=e.1;refine fO 54 [] Tryz.func469 rfl ?_
 repeat'(first|refine gP ?_|fail)
 (conv=>whnf)
 refine CJ (ι:=Nat) (λi=>[(1,.H .one [I (b)]),(2,.H .box (aJ.enc .V t)),(5,.H .one [I ((i:Nat):Int)])]) (λi=>i<=t.J.length/\dh i (λj=>lS b (nth t.J j))=true) (λi=>t.J.length - i) 0 ?_ ⟨X0 _,rfl⟩ λi c=>?_
 ·exact wB
 obtain⟨c,g⟩:=c;by_cases d:i<t.J.length
 ·have h:=au d
  repeat'(first|refine gE ?_|(conv=>whnf);first|with_reducible (first|refine CE (aa h) ?_|refine Bf.D (λa=>?_) (λa=>?_)|refine Bf.N (λa=>?_) (λa=>?_)|refine Bf.E (λa=>?_) (λa=>?_))|refine C9 (aK _ 0 2) ?_)
  all_goals first
   | exact Z0 (λz=>[B z]) ((by symm;unfold gF;rw[cG d (W0 ψ)];rfl))
   | ((conv=>whnf);refine CF (i+1) ⟨ω,bW g (O0 ψ)⟩ ω ?_;(exact wB))
 repeat'(first|refine gE ?_|(conv=>whnf);first|refine C9 (aK _ 1 32) ?_)
 obtain rfl:i=t.J.length:=ω
 exact Z0 (λz=>[B z]) ((by grind [gF]))
theorem Eh(t:aJ)(b:Int)(e:aJ.sml t):zzA 243 false [.val (some 1) (aJ.enc .V t),.val none [I b]] .one [B (gF t b)]:=by
 have k:=e.1;refine fO 49 [] Tryz.func243 rfl ?_
 repeat'(first|refine gP ?_|fail)
 (conv=>whnf)
 refine CJ (ι:=Nat) (λi=>[(1,.H .one [I (b)]),(2,.H .box (aJ.enc .V t)),(8,.H .one (FT .V t.J)),(9,.H .one [I (t.J.length)]),(10,.H .one [I ((i:Nat):Int)])]) (λi=>i<=t.J.length/\dh i (λj=>lS b (nth t.J j))=true) (λi=>t.J.length - i) 0 ?_ ⟨X0 _,rfl⟩ λi c=>?_
 ·exact wB
 obtain⟨c,g⟩:=c;by_cases d:i<t.J.length
 ·have h:=au d
  repeat'(first|refine gE ?_|(conv=>whnf);first|with_reducible (first|refine CE (aa h) ?_|refine Bf.D (λa=>?_) (λa=>?_)|refine Bf.N (λa=>?_) (λa=>?_)|refine Bf.E (λa=>?_) (λa=>?_))|refine C9 (aO _ 0 2) ?_)
  all_goals first
   | exact Z0 (λz=>[B z]) ((by symm;unfold gF;rw[cG d (W0 ψ)];rfl))
   | ((conv=>whnf);refine CF (i+1) ⟨ω,bW g (O0 ψ)⟩ ω ?_;(exact wB))
 repeat'(first|refine gE ?_|(conv=>whnf);first|refine C9 (aO _ 1 32) ?_)
 obtain rfl:i=t.J.length:=ω
 exact Z0 (λz=>[B z]) ((by grind [gF]))
theorem gX(t:aJ)(f:Int)(c:aJ.sml t):zzA 470 false [.val (some 1) (aJ.enc .V t),.val none [I f]] .one (aH .own (pagesOn t f)):=by
 have j:=c.1;refine fO 37 [] Tryz.func470 rfl ?_ (.inr (bT _))
 repeat'(first|refine gP ?_|fail)
 (conv=>whnf)
 refine CJ (ι:=Nat) (λi=>[(1,.H .one [I (f)]),(2,.H .box (aJ.enc .V t)),(5,.H .one (aH .own (j8 t f i))),(6,.H .one [I ((i:Nat):Int)])]) (λi=>i<=t.J.length) (λi=>t.J.length - i) (0) ?_ (X0 _) λi k=>?_
 ·exact wB
 have d:=uD t f i;by_cases e:i<t.J.length
 ·have g:=au e
  repeat'(first|refine gE ?_|(conv=>whnf);first|with_reducible (first|refine CE (aa g) ?_|refine Bf.D (λb=>?_) (λb=>?_)|refine Bf.N (λb=>?_) (λb=>?_)|refine Bf.E (λb=>?_) (λb=>?_))|refine CU cS (λr h=>by rw[V1.1 h];rfl) (by simp[bk,eD]) (by simp;omega) (by simp only[I1];exact y4 (by simp;omega) (by decide)) rfl ?_)
  all_goals first
   |(have a:MS t f i=true:=O0 ψ
     (conv=>whnf)
     refine CF (i+1) ω ω ?_;rw[BR a]
     (repeat'(first|exact trivial|rfl|exact CM rfl (CM (Z0 (C.s dY.own) (by simp[rI])) trivial)|refine CM ?_ ?_)))
   |(have a:MS t f i=false:=W0 ψ
     (conv=>whnf)
     refine CF (i+1) ω ω ?_;rw[Hf a]
     (exact wA))
 repeat'(first|refine gE ?_|fail)
 obtain rfl:i=t.J.length:=ω
 rfl
theorem lh(t:aJ)(f:Int)(c:aJ.sml t):zzA 244 false [.val (some 1) (aJ.enc .V t),.val none [I f]] .one (aH .own (pagesOn t f)):=by
 have j:=c.1;refine fO 32 [] Tryz.func244 rfl ?_ (.inr (bT _))
 repeat'(first|refine gP ?_|fail)
 (conv=>whnf)
 refine CJ (ι:=Nat) (λi=>[(1,.H .one [I (f)]),(5,.H .one (aH .own (j8 t f i))),(10,.H .one (FT .V t.J)),(11,.H .one [I (t.J.length)]),(12,.H .one [I ((i:Nat):Int)])]) (λi=>i<=t.J.length) (λi=>t.J.length - i) (0) ?_ (X0 _) λi k=>?_
 ·exact wB
 have d:=uD t f i;by_cases e:i<t.J.length
 ·have g:=au e
  repeat'(first|refine gE ?_|(conv=>whnf);first|with_reducible (first|refine CE (aa g) ?_|refine Bf.D (λb=>?_) (λb=>?_)|refine Bf.N (λb=>?_) (λb=>?_)|refine Bf.E (λb=>?_) (λb=>?_))|refine CU cS (λr h=>by rw[V1.1 h];rfl) (by simp[bk,eD]) (by simp;omega) (by simp only[I1];exact y4 (by simp;omega) (by decide)) rfl ?_)
  all_goals first
   |(have a:MS t f i=true:=O0 ψ
     (conv=>whnf)
     refine CF (i+1) ω ω ?_;rw[BR a]
     (repeat'(first|exact trivial|rfl|exact CM rfl (CM (Z0 (C.s dY.own) (by simp[rI])) trivial)|refine CM ?_ ?_)))
   |(have a:MS t f i=false:=W0 ψ
     (conv=>whnf)
     refine CF (i+1) ω ω ?_;rw[Hf a]
     (exact wA))
 repeat'(first|refine gE ?_|fail)
 obtain rfl:i=t.J.length:=ω
 rfl
def dq(t:aJ)(p:Int)(b:aJ.sml t):zzA 34 false [.val (some 1) (aJ.enc .V t),.val none [I p]] .agg (bh.enc .own (af t p)):=by
 have d:=b.1;refine fO 18 [] Tryz.func34 rfl ?_ (.inr (bh.enc_fr _));by_cases a:0<=p/\p<t.J.length
 ·have c:=au (xs:=t.J) (i:=p.toNat) ω
  repeat'(first|refine gE ?_|(conv=>whnf);first|refine C9 (aK _ 0 _) ?_|refine CO a.1 (aa c) ?_)
  all_goals(unfold af;rw[CD a];rfl)
 repeat'(first|refine gE ?_|(conv=>whnf);first|refine C9 (aK _ 0 _) ?_)
 all_goals(unfold af;rw[CB a];rfl)
def ma(t:aJ)(p:Int)(b:aJ.sml t):zzA 104 false [.val (some 1) (aJ.enc .V t),.val none [I p]] .agg (bh.enc .own (af t p)):=by
 have d:=b.1;refine fO 18 [] Tryz.func104 rfl ?_ (.inr (bh.enc_fr _));by_cases a:0<=p/\p<t.J.length
 ·have c:=au (xs:=t.J) (i:=p.toNat) ω
  repeat'(first|refine gE ?_|(conv=>whnf);first|refine C9 (aO _ 0 _) ?_|refine CO a.1 (aa c) ?_)
  all_goals(unfold af;rw[CD a];rfl)
 repeat'(first|refine gE ?_|(conv=>whnf);first|refine C9 (aO _ 0 _) ?_)
 all_goals(unfold af;rw[CB a];rfl)
def rF(t:aJ)(f:Int):(pagesOn t f).length<=t.J.length:=uD ..
theorem qb(m:aY)(a:aY.sml m):zzA 350 false [.val (some 3) (aY.enc .V m)] .one [B (dB m)]:=by
 have q:m.W.a1.length<=1048576:=a.1.2;have k:m.W.T.length<=1048576:=a.1.1.1;have b:=rc m.W a.1;have c:=E9 m.Q m.W.T.length a.2;cases d:db m.W with
 | false=>
  rw[d]at b;refine fO 39 [(6,13,[26,27,28,29,30,31,32,33,34,35,36,37,38])] Tryz.func350 rfl ?_
  repeat'(first|refine gP ?_|(conv=>whnf);first|refine C9 b ?_)
  exact Z0 (λz=>[B z]) ((by grind [dB]))
 | true=>
  have g:=EA d;rw[d]at b;cases e:gF m.Q m.W.a1.length with
  | false=>
   rw[show(m.W.T.length:Int)=m.W.a1.length by omega,e]at c;refine fO 39 [(6,13,[26,27,28,29,30,31,32,33,34,35,36,37,38])] Tryz.func350 rfl ?_
   repeat'(first|refine gP ?_|(conv=>whnf);first|refine C9 b ?_|refine C9 ((show(m.W.T.length:Int)=m.W.a1.length by omega) ▸ c) ?_)
   exact Z0 (λz=>[B z]) ((by grind [dB]))
  | true=>
   rw[show(m.W.T.length:Int)=m.W.a1.length by omega,e]at c;refine fO 39 [(6,13,[26,27,28,29,30,31,32,33,34,35,36,37,38])] Tryz.func350 rfl ?_
   repeat'(first|refine gP ?_|(conv=>whnf);first|refine C9 b ?_|refine C9 ((show(m.W.T.length:Int)=m.W.a1.length by omega) ▸ c) ?_)
   (conv=>whnf)
   refine CJ (ι:=Nat) (λi=>[(1,.H .box (aY.enc .V m)),(3,.H .one [I ((i:Nat):Int)])]) (λi=>i<=m.W.a1.length/\dh i (pV m)=true) (λi=>m.W.a1.length - i) 0 ?_ ⟨X0 _,rfl⟩ λi h=>?_
   ·exact wB
   obtain⟨h,l⟩:=h;by_cases j:i<m.W.a1.length
   ·have n:=au j
    have o:=rF m.Q (i:Nat)
    repeat'(first|refine gE ?_|(conv=>whnf);first|with_reducible (first|refine CE (aa n) ?_|refine Bf.NB (λp=>?_) (λp=>?_))|refine C9 (gX m.Q (i:Nat) a.2) ?_)
    all_goals first
     | exact Z0 (λz=>[B z]) ((by symm;unfold dB;rw[d,e,cG j (by unfold pV;grind)];rfl))
     | ((conv=>whnf);refine CF (i+1) ⟨ω,bW l (by unfold pV;grind)⟩ ω ?_;(exact wB))
   repeat'(first|refine gE ?_|fail)
   obtain rfl:i=m.W.a1.length:=ω
   exact Z0 (λz=>[B z]) ((by grind [dB]))
theorem yC(m:aY)(b:aY.sml m):zzA 87 false [.val (some 3) (aY.enc .V m)] .one [B (dB m)]:=by
 have o:m.W.a1.length<=1048576:=b.1.2;have a:=ri m.W b.1;have c:=Eh m.Q m.W.a1.length b.2;cases d:db m.W with
 | false=>
  rw[d]at a;refine fO 37 [] Tryz.func87 rfl ?_
  repeat'(first|refine gP ?_|(conv=>whnf);first|refine C9 a ?_)
  exact Z0 (λz=>[B z]) ((by grind [dB]))
 | true=>
  rw[d]at a;cases e:gF m.Q m.W.a1.length with
  | false=>
   rw[e]at c;refine fO 37 [] Tryz.func87 rfl ?_
   repeat'(first|refine gP ?_|(conv=>whnf);first|refine C9 a ?_|refine C9 c ?_)
   exact Z0 (λz=>[B z]) ((by grind [dB]))
  | true=>
   rw[e]at c;refine fO 37 [] Tryz.func87 rfl ?_
   repeat'(first|refine gP ?_|(conv=>whnf);first|refine C9 a ?_|refine C9 c ?_)
   (conv=>whnf)
   refine CJ (ι:=Nat) (λi=>[(1,.H .box (aY.enc .V m)),(21,.H .one (wV .V m.W.a1)),(22,.H .one [I (m.W.a1.length)]),(23,.H .one [I ((i:Nat):Int)])]) (λi=>i<=m.W.a1.length/\dh i (pV m)=true) (λi=>m.W.a1.length - i) 0 ?_ ⟨X0 _,rfl⟩ λi g=>?_
   ·exact wB
   obtain⟨g,j⟩:=g;by_cases h:i<m.W.a1.length
   ·have k:=au h
    have l:=rF m.Q (i:Nat)
    repeat'(first|refine gE ?_|(conv=>whnf);first|with_reducible (first|refine CE (aa k) ?_|refine Bf.NB (λn=>?_) (λn=>?_))|refine C9 (lh m.Q (i:Nat) b.2) ?_)
    all_goals first
     | exact Z0 (λz=>[B z]) ((by symm;unfold dB;rw[d,e,cG h (by unfold pV;grind)];rfl))
     | ((conv=>whnf);refine CF (i+1) ⟨ω,bW j (by unfold pV;grind)⟩ ω ?_;(exact wB))
   repeat'(first|refine gE ?_|fail)
   obtain rfl:i=m.W.a1.length:=ω
   exact Z0 (λz=>[B z]) ((by grind [dB]))
def mJ(k:ah)(d:ah.sml k):zzA 208 false [.val (some 5) (ah.enc .V k)] .one [B (aC k)]:=by
 have n:k.w.length<=1048576:=d.2;have a:=qb k.F d.1;refine fO 31 [] Tryz.func208 rfl ?_
 repeat'(first|refine gP ?_|fail)
 (conv=>whnf)
 refine CJ (ι:=Nat) (λi=>[(1,.H .box (ah.enc .V k)),(3,.H .one [I ((i:Nat):Int)])]) (λi=>i<=k.w.length/\dh i (λj=>decide (0<=nth k.w j))=true) (λi=>k.w.length - i) 0 ?_ ⟨X0 _,rfl⟩ λi e=>?_
 ·exact wB
 obtain⟨e,g⟩:=e;by_cases h:i<k.w.length
 ·have l:=au h
  repeat'(first|refine gE ?_|(conv=>whnf);first|with_reducible (first|refine CE (aa l) ?_|refine Bf.D (λc=>?_) (λc=>?_)))
  all_goals first
   | exact Z0 (λz=>[B z]) ((by symm;unfold aC;rw[cG h (W0 ω)];rfl))
   | ((conv=>whnf);refine CF (i+1) ⟨ω,bW g (O0 ω)⟩ ω ?_;(exact wB))
 obtain rfl:i=k.w.length:=ω
 cases b:dB k.F with
 | false=>
  rw[b]at a
  repeat'(first|refine gE ?_|(conv=>whnf);first|refine C9 a ?_)
  all_goals exact Z0 (λz=>[B z]) ((by unfold aC;rw[b];simp))
 | true=>
  rw[b]at a
  repeat'(first|refine gE ?_|(conv=>whnf);first|with_reducible refine Bf.D (λc=>?_) (λc=>?_)|refine C9 a ?_|refine C9 (aK _ 0 100000) ?_)
  all_goals exact Z0 (λz=>[B z]) ((by unfold aC;rw[b,g];simp only[Bool.true_and];first|exact decide_eq_decide.2 ω|(symm;exact W0 ω)|(symm;exact O0 ω)))
def jR(k:ah)(b:ah.sml k):zzA 26 false [.val (some 5) (ah.enc .V k)] .one [B (aC k)]:=by
 have l:k.w.length<=1048576:=b.2;have g:=yC k.F b.1;refine fO 29 [] Tryz.func26 rfl ?_
 repeat'(first|refine gP ?_|fail)
 (conv=>whnf)
 refine CJ (ι:=Nat) (λi=>[(1,.H .box (ah.enc .V k)),(6,.H .one (aH .V k.w)),(7,.H .one [I (k.w.length)]),(8,.H .one [I ((i:Nat):Int)])]) (λi=>i<=k.w.length/\dh i (λj=>decide (0<=nth k.w j))=true) (λi=>k.w.length - i) 0 ?_ ⟨X0 _,rfl⟩ λi c=>?_
 ·exact wB
 obtain⟨c,d⟩:=c;by_cases e:i<k.w.length
 ·have h:=au e
  repeat'(first|refine gE ?_|(conv=>whnf);first|with_reducible (first|refine CE (aa h) ?_|refine Bf.D (λa=>?_) (λa=>?_)))
  all_goals first
   | exact Z0 (λz=>[B z]) ((by symm;unfold aC;rw[cG e (W0 ω)];rfl))
   | ((conv=>whnf);refine CF (i+1) ⟨ω,bW d (O0 ω)⟩ ω ?_;(exact wB))
 obtain rfl:i=k.w.length:=ω
 repeat'(first|refine gE ?_|(conv=>whnf);first|with_reducible refine Bf.D (λa=>?_) (λa=>?_)|refine C9 g ?_|refine C9 (aO _ 0 100000) ?_)
 all_goals exact Z0 (λz=>[B z]) ((by unfold aC;rw[d];cases dB k.F<;>simp only[Bool.true_and,Bool.false_and]<;>first|rfl|exact decide_eq_decide.2 ω|(symm;exact W0 ω)|(symm;exact O0 ω)))
def yN(pages:Int)(r:aB)(b:0<=pages/\pages<=1048576):zzA 351 false [.val none [I pages],.val (some 2) (aB.enc .V r)] .one [B (rangeIn pages r)]:=by
 refine fO 18 [] Tryz.func351 rfl ?_
 repeat'(first|refine gP ?_|(conv=>whnf);first|with_reducible refine Bf.D (λa=>?_) (λa=>?_)|refine C9 (aK _ 1 _) ?_|refine C9 (aK _ 0 _) ?_)
 all_goals exact Z0 (λz=>[B z]) ((by unfold rangeIn;first|(symm;exact W0 ω)|exact decide_eq_decide.2 ω))
def JD(pages:Int)(r:aB)(b:0<=pages/\pages<=1048576):zzA 223 false [.val none [I pages],.val (some 2) (aB.enc .V r)] .one [B (rangeIn pages r)]:=by
 refine fO 18 [] Tryz.func223 rfl ?_
 repeat'(first|refine gP ?_|(conv=>whnf);first|with_reducible refine Bf.D (λa=>?_) (λa=>?_)|refine C9 (aO _ 1 _) ?_|refine C9 (aO _ 0 _) ?_)
 all_goals exact Z0 (λz=>[B z]) ((by unfold rangeIn;first|(symm;exact W0 ω)|exact decide_eq_decide.2 ω))
theorem oM(k:Int):zzA 472 false [.val none [I k]] .one [I (slots k)]:=by
 by_cases b:0<=k/\k<=3
 ·obtain rfl|rfl|rfl|rfl:k=0\/k=1\/k=2\/k=3:=ω
  all_goals
   refine fO 9 [] Tryz.func472 rfl ?_
   repeat'(first|refine gE ?_|(conv=>whnf);first|with_reducible refine Bf.D (λa=>?_) (λa=>?_)|refine C9 (aK _ 0 3) ?_|refine CP (by decide) ?_|refine CN rfl ?_|refine CV rfl ?_)
   exact Z0 (λz=>[I z]) (by decide)
 refine fO 9 [] Tryz.func472 rfl ?_
 repeat'(first|refine gE ?_|(conv=>whnf);first|with_reducible refine Bf.D (λa=>?_) (λa=>?_)|refine C9 (aK _ 0 3) ?_)
 exact Z0 (λz=>[I z]) (by grind [slots])
theorem gh(k:Int):zzA 335 false [.val none [I k]] .one [I (slots k)]:=by
 by_cases b:0<=k/\k<=3
 ·obtain rfl|rfl|rfl|rfl:k=0\/k=1\/k=2\/k=3:=ω
  all_goals
   refine fO 9 [] Tryz.func335 rfl ?_
   repeat'(first|refine gE ?_|(conv=>whnf);first|with_reducible refine Bf.D (λa=>?_) (λa=>?_)|refine C9 (fF _) ?_|refine C9 (fQ _) ?_|refine CP (by decide) ?_|refine CN rfl ?_|refine CV rfl ?_)
   exact Z0 (λz=>[I z]) (by decide)
 refine fO 9 [] Tryz.func335 rfl ?_
 repeat'(first|refine gE ?_|(conv=>whnf);first|with_reducible refine Bf.D (λa=>?_) (λa=>?_)|refine C9 (fF _) ?_)
 exact Z0 (λz=>[I z]) (by grind [slots])
def L0(k b:Int):Bool:=decide (0<=k/\k<=3/\0<=b/\b<=lim k)
theorem qY(k b:Int):zzA 471 false [.val none [I (slots k)],.val none [I b]] .one [B (L0 k b)]:=by
 by_cases d:0<=k/\k<=3
 ·obtain rfl|rfl|rfl|rfl:k=0\/k=1\/k=2\/k=3:=ω
  all_goals
   first|rw[show slots 0=16 from rfl]|rw[show slots 1=8 from rfl]|rw[show slots 2=4 from rfl]|rw[show slots 3=2 from rfl]
   refine fO 15 [] Tryz.func471 rfl ?_
   repeat'(first|refine gE ?_|(conv=>whnf);first|with_reducible refine Bf.D (λa=>?_) (λa=>?_)|refine C9 (aK _ 1 16) ?_|refine C9 (aK _ 0 _) ?_|refine CP (by decide) ?_|refine CN (show _=(65536:Int) by decide) ?_|refine CN (show _=(65535:Int) by decide) ?_|refine CN (show _=(256:Int) by decide) ?_|refine CN (show _=(255:Int) by decide) ?_|refine CN (show _=(16:Int) by decide) ?_|refine CN (show _=(15:Int) by decide) ?_|refine CN (show _=(4:Int) by decide) ?_|refine CN (show _=(8:Int) by decide) ?_|refine CN (show _=(2:Int) by decide) ?_|refine CN (show _=(3:Int) by decide) ?_)
   all_goals exact Z0 (λz=>[B z]) ((decide_eq_decide.2 (by simp[lim])))
 have c:slots k=0:=by grind [slots]
 rw[c];refine fO 15 [] Tryz.func471 rfl ?_
 repeat'(first|refine gE ?_|(conv=>whnf);first|with_reducible refine Bf.D (λa=>?_) (λa=>?_)|refine C9 (aK _ 1 16) ?_)
 exact Z0 (λz=>[B z]) ((by symm;exact W0 ω))
theorem rx(k b:Int):zzA 375 false [.val none [I (slots k)],.val none [I b]] .one [B (L0 k b)]:=by
 by_cases d:0<=k/\k<=3
 ·obtain rfl|rfl|rfl|rfl:k=0\/k=1\/k=2\/k=3:=ω
  all_goals
   first|rw[show slots 0=16 from rfl]|rw[show slots 1=8 from rfl]|rw[show slots 2=4 from rfl]|rw[show slots 3=2 from rfl]
   refine fO 14 [] Tryz.func375 rfl ?_
   repeat'(first|refine gE ?_|(conv=>whnf);first|with_reducible refine Bf.D (λa=>?_) (λa=>?_)|refine C9 (aO _ 1 16) ?_|refine C9 (aO _ 0 _) ?_|refine CP (by decide) ?_|refine CN (gc (by decide) (by decide)) ?_)
   all_goals exact Z0 (λz=>[B z]) ((decide_eq_decide.2 (by simp[lim,IntKind.bits])))
 have c:slots k=0:=by grind [slots]
 rw[c];refine fO 14 [] Tryz.func375 rfl ?_
 repeat'(first|refine gE ?_|(conv=>whnf);first|with_reducible refine Bf.D (λa=>?_) (λa=>?_)|refine C9 (aO _ 1 16) ?_)
 exact Z0 (λz=>[B z]) ((by symm;exact W0 ω))
def gU(s:aA):zzA 352 false [.val (some 3) (aA.enc .V s)] .one [B (bi s)]:=by
 refine fO 14 [(1,12,[3,4,5,6,7,8,9,10,11,12,13,2])] Tryz.func352 rfl ?_
 repeat'(first|refine gP ?_|(conv=>whnf);first|with_reducible refine Bf.D (λa=>?_) (λa=>?_)|refine C9 (aK _ 0 31) ?_|refine C9 (oM _) ?_|refine C9 (qY _ _) ?_)
 all_goals exact Z0 (λz=>[B z]) ((by unfold bi;first|(symm;exact W0 ω)|exact decide_eq_decide.2 ω))
def ko(s:aA):zzA 225 false [.val (some 3) (aA.enc .V s)] .one [B (bi s)]:=by
 refine fO 19 [(1,17,[3,4,5,6,7,8,9,10,11,12,13,14,15,16,17,18,2])] Tryz.func225 rfl ?_
 repeat'(first|refine gP ?_|(conv=>whnf);first|with_reducible refine Bf.D (λa=>?_) (λa=>?_)|refine C9 (aO _ 0 31) ?_|refine C9 (fF _) ?_|refine C9 (gh _) ?_|refine C9 (rx _ _) ?_)
 all_goals exact Z0 (λz=>[B z]) ((by unfold bi;first|(symm;exact W0 ω)|exact decide_eq_decide.2 ω))
section
variable{α:Type}{xs:List α}{p:α->Bool}{i:Nat}{y:α}
theorem Ea(h:xs[i]? = some y)(a:p y=true):xs.any p=true:=I4.2 ψ
theorem xu(h:xs[i]? = some y)(a:(xs.take i).any p=false)(b:p y=false):(xs.take (i+1)).any p=false:=by grind [I6]
theorem UH(a:xs.length<=i)(b:(xs.take i).any p=false):xs.any p=false:=by grind [Z7]
theorem gC[Inhabited α](a:0<i)(b:i<xs.length):xs[((i:Int) - 1).toNat]? = some (nth xs (i - 1)):=by
 rw[show((i:Int) - 1).toNat=i - 1 by omega];grind [au]
end
theorem xI{pages:Int}{xs:List aB}(a:dh n (g9 pages xs)=true)(b:i<n):1<=(nth xs i).a8/\(nth xs i).a8<=pages/\0<=(nth xs i).At/\(nth xs i).At<=pages - (nth xs i).a8:=by grind [fB,g9,rangeIn]
theorem mQ(pages:Int)(xs:List aB)(d:0<=pages/\pages<=1048576)(k:gT xs):zzA 209 false [.val none [I pages],.val none (bw .V xs)] .one [B (bG pages xs)]:=by
 have n:=k.1;refine fO 46 [(4,32,[12,13,14,15,16,17,18,19,20,21,22,23,24,25,26,27,28,29,30,31,32,33,34,35,36,37,38,39,40,41,42,43])] Tryz.func209 rfl ?_
 repeat'(first|refine gP ?_|fail)
 (conv=>whnf)
 refine CJ (ι:=Nat) (λi=>[(0,.H .one [I (pages)]),(1,.H .one (bw .V xs)),(5,.H .one [I ((i:Nat):Int)])]) (λi=>i<=xs.length/\dh i (g9 pages xs)=true) (λi=>xs.length - i) 0 ?_ ⟨X0 _,rfl⟩ λi e=>?_
 ·exact wB
 obtain⟨e,g⟩:=e;by_cases c:i<xs.length
 ·have j:=au c
  have o:0<i->1<=(nth xs (i - 1)).a8/\(nth xs (i - 1)).a8<=pages/\0<=(nth xs (i - 1)).At/\(nth xs (i - 1)).At<=pages - (nth xs (i - 1)).a8:=λh=>xI g ω
  cases b:rangeIn pages (nth xs i) with
  | false=>
   have a:=yN pages (nth xs i) d;rw[b]at a
   repeat'(first|refine gE ?_|(conv=>whnf);first|with_reducible refine CE (aa j) ?_|refine C9 a ?_)
   exact Z0 (λz=>[B z]) ((by grind [cG,bG,g9]))
  | true=>
   have a:=yN pages (nth xs i) d;rw[b]at a
   repeat'(first|refine gE ?_|(conv=>whnf);first|with_reducible (first|refine CE (aa j) ?_|refine Bf.D (λl=>?_) (λl=>?_))|refine C9 a ?_|refine CO ω (aa (gC ω c)) ?_)
   all_goals first
    | exact Z0 (λz=>[B z]) ((by symm;unfold bG;rw[cG c (by unfold g9;rw[b,W0 ω];rfl)];rfl))
    | ((conv=>whnf);refine CF (i+1) ⟨ω,bW g (by unfold g9;rw[b,O0 ω];rfl)⟩ ω ?_;(exact wB))
 repeat'(first|refine gE ?_|(conv=>whnf);first|refine C9 (aK pages 1 32) ?_)
 grind [bG]
theorem qZ(pages:Int)(xs:List aB)(j:0<=pages/\pages<=1048576)(k:gT xs):zzA 75 false [.val none [I pages],.val none (bw .V xs)] .one [B (bG pages xs)]:=by
 have n:=k.1;refine fO 43 [(4,26,[14,15,16,17,18,19,20,21,22,23,24,25,26,27,28,29,30,31,32,33,34,35,36,37,38,39])] Tryz.func75 rfl ?_
 repeat'(first|refine gP ?_|fail)
 (conv=>whnf)
 refine CJ (ι:=Nat) (λi=>[(0,.H .one [I (pages)]),(1,.H .one (bw .V xs)),(7,.H .one (bw .V xs)),(8,.H .one [I (xs.length)]),(9,.H .one [I ((i:Nat):Int)])]) (λi=>i<=xs.length/\dh i (g9 pages xs)=true) (λi=>xs.length - i) 0 ?_ ⟨X0 _,rfl⟩ λi d=>?_
 ·exact wB
 obtain⟨d,e⟩:=d;by_cases c:i<xs.length
 ·have g:=au c
  have o:0<i->1<=(nth xs (i - 1)).a8/\(nth xs (i - 1)).a8<=pages/\0<=(nth xs (i - 1)).At/\(nth xs (i - 1)).At<=pages - (nth xs (i - 1)).a8:=λh=>xI e ω
  have a:=JD pages (nth xs i) j;cases b:rangeIn pages (nth xs i) with
  | false=>
   rw[b]at a
   repeat'(first|refine gE ?_|(conv=>whnf);first|with_reducible refine CE (aa g) ?_|refine C9 a ?_)
   exact Z0 (λz=>[B z]) ((by grind [cG,bG,g9]))
  | true=>
   rw[b]at a
   repeat'(first|refine gE ?_|(conv=>whnf);first|with_reducible (first|refine CE (aa g) ?_|refine Bf.D (λl=>?_) (λl=>?_))|refine C9 a ?_|refine CO ω (aa (gC ω c)) ?_)
   all_goals first
    | exact Z0 (λz=>[B z]) ((by symm;unfold bG;rw[cG c (by unfold g9;rw[b,W0 ω];rfl)];rfl))
    | ((conv=>whnf);refine CF (i+1) ⟨ω,bW e (by unfold g9;rw[b,O0 ω];rfl)⟩ ω ?_;(exact wB))
 repeat'(first|refine gE ?_|(conv=>whnf);first|refine C9 (aO pages 1 32) ?_)
 grind [bG]
theorem zQ(xs:List aB)(page:Int)(g:xs.length<=9223372036854775807):zzA 356 false [.val none (bw .V xs),.val none [I page]] .one [B (xs.any (wj page))]:=by
 refine fO 34 [(4,22,[12,13,14,15,16,17,18,19,20,21,22,23,24,25,26,27,28,29,30,31,32,33])] Tryz.func356 rfl ?_
 repeat'(first|refine gP ?_|fail)
 (conv=>whnf)
 refine CJ (ι:=Nat) (λi=>[(0,.H .one (bw .V xs)),(1,.H .one [I (page)]),(5,.H .one [I ((i:Nat):Int)])]) (λi=>i<=xs.length/\(xs.take i).any (wj page)=false) (λi=>xs.length - i) (0) ?_ ψ λi b=>?_
 ·exact wB
 obtain⟨b,c⟩:=b;by_cases d:i<xs.length
 ·have a:=au d
  repeat'(first|refine gE ?_|(conv=>whnf);first|with_reducible (first|refine CE (aa a) ?_|refine Bf.D (λe=>?_) (λe=>?_))|refine CN rfl ?_)
  all_goals first
   | exact Z0 (λz=>[B z]) ((Ea a (by unfold wj;rw[O0 (by assumption),O0 (by assumption)];rfl)).symm)
   | ((conv=>whnf);refine CF (i+1) ⟨ω,xu a c (by unfold wj;first|(rw[W0 (by assumption:¬(nth xs i).At<=page)];rfl)|(rw[W0 (by assumption:¬page<_)];simp))⟩ ω ?_;(exact wB))
 repeat'(first|refine gE ?_|fail)
 exact Z0 (λz=>[B z]) ψ
variable{z:Int}
def tdiv16(h:0<=z):z.tdiv 16=z / 16:=Int.tdiv_eq_ediv_of_nonneg h
theorem mK(z:Int):zzA 370 false [.val none [I z]] .one [I (fk z)]:=by
 refine fO 10 [] Tryz.func370 rfl ?_;by_cases b:9<=z/\z<=1000
 ·repeat'(first|refine gE ?_|(conv=>whnf);first|with_reducible refine Bf.D (λa=>?_) (λa=>?_)|refine C9 (aK z 9 1000) ?_|refine CP (by decide) ?_|refine CN ((Z0 _ (tdiv16 ω)).trans (gc ω ω)) ?_)
  grind [fk]
 repeat'(first|refine gE ?_|(conv=>whnf);first|with_reducible refine Bf.D (λa=>?_) (λa=>?_)|refine C9 (aK z 9 1000) ?_)
 all_goals exact Z0 (λz=>[I z]) (by unfold fk;rw[CB b])
theorem qR(z:Int):zzA 191 false [.val none [I z]] .one [I (fk z)]:=by
 refine fO 10 [] Tryz.func191 rfl ?_;by_cases b:9<=z/\z<=1000
 ·repeat'(first|refine gE ?_|(conv=>whnf);first|with_reducible refine Bf.D (λa=>?_) (λa=>?_)|refine C9 (aO z 9 1000) ?_|refine CP (by decide) ?_|refine CN ((Z0 _ (tdiv16 ω)).trans (gc ω ω)) ?_)
  grind [fk]
 repeat'(first|refine gE ?_|(conv=>whnf);first|with_reducible refine Bf.D (λa=>?_) (λa=>?_)|refine C9 (aO z 9 1000) ?_)
 all_goals exact Z0 (λz=>[I z]) (by unfold fk;rw[CB b])
def nQ(l:aF):zzA 354 false [.val (some 3) (aF.enc .V l)] .one [B (bR l)]:=by
 have b:=mK l.q;by_cases c:9<=l.q/\l.q<=1000
 ·rw[show fk l.q=(l.q+15) / 16 from CD c]at b
  refine fO 22 [] Tryz.func354 rfl ?_
  repeat'(first|refine gP ?_|(conv=>whnf);first|with_reducible (first|refine Bf.D (λa=>?_) (λa=>?_)|refine Bf.E (λa=>?_) (λa=>?_))|refine C9 b ?_|refine C9 (aK _ 0 _) ?_)
  all_goals exact Z0 (λz=>[B z]) ((by unfold bR;first|(symm;exact W0 ω)|exact decide_eq_decide.2 ω))
 rw[show fk l.q=0 from CB c]at b;refine fO 22 [] Tryz.func354 rfl ?_
 repeat'(first|refine gE ?_|(conv=>whnf);first|with_reducible refine Bf.D (λa=>?_) (λa=>?_)|refine C9 b ?_)
 all_goals exact Z0 (λz=>[B z]) ((by unfold bR;symm;exact W0 ω))
def uk(l:aF):zzA 226 false [.val (some 3) (aF.enc .V l)] .one [B (bR l)]:=by
 have b:=qR l.q;by_cases c:9<=l.q/\l.q<=1000
 ·rw[show fk l.q=(l.q+15) / 16 from CD c]at b
  refine fO 22 [(1,20,[3,4,5,6,7,8,9,10,11,12,13,14,15,16,17,18,19,20,21,2])] Tryz.func226 rfl ?_
  repeat'(first|refine gE ?_|(conv=>whnf);first|with_reducible (first|refine Bf.D (λa=>?_) (λa=>?_)|refine Bf.E (λa=>?_) (λa=>?_))|refine C9 b ?_|refine C9 (aO _ 9 1000) ?_|refine C9 (aO _ 0 _) ?_)
  all_goals exact Z0 (λz=>[B z]) ((by unfold bR;first|(symm;exact W0 ω)|exact decide_eq_decide.2 ω))
 refine fO 22 [(1,20,[3,4,5,6,7,8,9,10,11,12,13,14,15,16,17,18,19,20,21,2])] Tryz.func226 rfl ?_
 repeat'(first|refine gE ?_|(conv=>whnf);first|with_reducible refine Bf.D (λa=>?_) (λa=>?_)|refine C9 (aO _ 9 1000) ?_)
 all_goals exact Z0 (λz=>[B z]) ((by unfold bR;symm;exact W0 ω))
theorem qC(h:0<=z/\z<=9223372036854775807):(BitVec.ofInt IntKind.i64.bits z).toNat=z.toNat:=by
 show(BitVec.ofInt 64 z).toNat=z.toNat
 grind
theorem and64{z1 z2:Int}(h1:0<=z1/\z1<=9223372036854775807)(a:0<=z2/\z2<=9223372036854775807):IntKind.i64.wrap ((BitVec.ofInt IntKind.i64.bits z1 &&& BitVec.ofInt IntKind.i64.bits z2).toNat:Nat)=((z1.toNat &&& z2.toNat:Nat):Int):=by grind [qC,Nat.and_le_left,gc]
theorem Jj(k:Int):lim k<=65535:=by grind [lim]
variable{s:aA}
def fY(h:bi s=true):0<=s.a9/\s.a9<=9223372036854775807:=by
 unfold bi at h;simp only[C0]at h;have:=Jj s.d;omega
def mN(b c:aA):zzA 357 false [.val (some 3) (aA.enc .V b),.val (some 3) (aA.enc .V c)] .one [B (meshable b c)]:=by
 have g:=gU b;have h:=gU c;cases d:bi b<;>rw[d]at g<;>cases e:bi c<;>rw[e]at h
 all_goals
  refine fO 33 [] Tryz.func357 rfl ?_
  repeat'(first|refine gP ?_|(conv=>whnf);first|with_reducible (first|refine Bf.D (λa=>?_) (λa=>?_)|refine Bf.N (λa=>?_) (λa=>?_)|refine Bf.E (λa=>?_) (λa=>?_))|refine C9 g ?_|refine C9 h ?_|refine CN (and64 (fY d) (fY e)) ?_)
  all_goals exact Z0 (λz=>[B z]) ((by unfold meshable;rw[d,e];first|rfl|(symm;exact W0 ω)|(rw[C5];simp;omega)))
def A6(b c:aA):zzA 229 false [.val (some 3) (aA.enc .V b),.val (some 3) (aA.enc .V c)] .one [B (meshable b c)]:=by
 have g:=ko b;have h:=ko c;cases d:bi b<;>rw[d]at g<;>cases e:bi c<;>rw[e]at h
 all_goals
  refine fO 33 [] Tryz.func229 rfl ?_
  repeat'(first|refine gP ?_|(conv=>whnf);first|with_reducible (first|refine Bf.D (λa=>?_) (λa=>?_)|refine Bf.N (λa=>?_) (λa=>?_)|refine Bf.E (λa=>?_) (λa=>?_))|refine C9 g ?_|refine C9 h ?_|refine CN (and64 (fY d) (fY e)) ?_)
  all_goals exact Z0 (λz=>[B z]) ((by unfold meshable;rw[d,e];first|rfl|(symm;exact W0 ω)|(rw[C5];simp;omega)))
def ML(k:Int):zzA 384 false [.val none [I k]] .one [B (decide (0<=k/\k<=15))]:=by
 refine fO 5 [] Tryz.func384 rfl ?_
 repeat'(first|refine gP ?_|(conv=>whnf);first|refine C9 (aO k 0 15) ?_)
 rfl
def wi(p:cE)(e:cE.sml p):zzA 365 false [.val (some 3) (cE.enc .V p)] .one [B (fm p)]:=by
 have h:p.T.length<=1048576:=e;refine fO 51 [(4,25,[11,12,13,14,15,16,17,18,19,20,21,22,23,24,25,26,27,28,29,30,31,32,33,34,35])] Tryz.func365 rfl ?_
 repeat'(first|refine gP ?_|fail)
 (conv=>whnf)
 refine CJ (ι:=Nat) (λi=>[(1,.H .box (cE.enc .V p)),(3,.H .one [I ((i:Nat):Int)])]) (λi=>i<=p.T.length/\dh i (mP p.T)=true) (λi=>p.T.length - i) 0 ?_ ⟨X0 _,rfl⟩ λi c=>?_
 ·exact wB
 obtain⟨c,d⟩:=c;by_cases b:i<p.T.length
 ·have g:=au b
  repeat'(first|refine gE ?_|(conv=>whnf);first|with_reducible (first|refine CE (aa g) ?_|refine Bf.D (λa=>?_) (λa=>?_))|refine C9 (aK _ 0 15) ?_|refine CO ω (aa (gC ω b)) ?_)
  all_goals first
   | exact Z0 (λz=>[B z]) ((by symm;unfold fm;rw[cG b (W0 ω)];rfl))
   | ((conv=>whnf);refine CF (i+1) ⟨ω,bW d (O0 ω)⟩ ω ?_;(exact wB))
 obtain rfl:i=p.T.length:=ω
 repeat'(first|refine gE ?_|(conv=>whnf);first|with_reducible (first|refine Bf.D (λa=>?_) (λa=>?_)|refine Bf.NB (λa=>?_) (λa=>?_)|refine Bf.N (λa=>?_) (λa=>?_))|refine C9 (aK _ 0 31) ?_)
 all_goals exact Z0 (λz=>[B z]) ((by unfold fm;rw[d];simp only[Bool.true_and];first|(symm;exact W0 ω)|exact decide_eq_decide.2 ω|(rw[C5];simp;omega)))
def Hi(p:cE)(e:cE.sml p):zzA 239 false [.val (some 3) (cE.enc .V p)] .one [B (fm p)]:=by
 have h:p.T.length<=1048576:=e;refine fO 46 [] Tryz.func239 rfl ?_
 repeat'(first|refine gP ?_|fail)
 (conv=>whnf)
 refine CJ (ι:=Nat) (λi=>[(1,.H .box (cE.enc .V p)),(6,.H .one (aH .V p.T)),(7,.H .one [I (p.T.length)]),(8,.H .one [I ((i:Nat):Int)])]) (λi=>i<=p.T.length/\dh i (mP p.T)=true) (λi=>p.T.length - i) 0 ?_ ⟨X0 _,rfl⟩ λi c=>?_
 ·exact wB
 obtain⟨c,d⟩:=c;by_cases b:i<p.T.length
 ·have g:=au b
  repeat'(first|refine gE ?_|(conv=>whnf);first|with_reducible (first|refine CE (aa g) ?_|refine Bf.D (λa=>?_) (λa=>?_))|refine C9 (ML _) ?_|refine CO ω (aa (gC ω b)) ?_)
  all_goals first
   | exact Z0 (λz=>[B z]) ((by symm;unfold fm;rw[cG b (W0 ω)];rfl))
   | ((conv=>whnf);refine CF (i+1) ⟨ω,bW d (O0 ω)⟩ ω ?_;(exact wB))
 obtain rfl:i=p.T.length:=ω
 repeat'(first|refine gE ?_|(conv=>whnf);first|with_reducible (first|refine Bf.D (λa=>?_) (λa=>?_)|refine Bf.NB (λa=>?_) (λa=>?_)|refine Bf.N (λa=>?_) (λa=>?_))|refine C9 (aO _ 0 31) ?_)
 all_goals exact Z0 (λz=>[B z]) ((by unfold fm;rw[d];simp only[Bool.true_and];first|(symm;exact W0 ω)|exact decide_eq_decide.2 ω|(rw[C5];simp;omega)))
def y2(j:cK)(a:cK.sml j):zzA 218 false [.val (some 5) (cK.enc .V j)] .one [B (kj j)]:=by
 have e:j.X.T.length<=1048576:=a;have b:=wi j.X a;cases c:fm j.X<;>rw[c]at b
 all_goals
  refine fO 20 [] Tryz.func218 rfl ?_
  repeat'(first|refine gP ?_|(conv=>whnf);first|with_reducible refine Bf.D (λd=>?_) (λd=>?_)|refine C9 b ?_|refine C9 (aK _ 0 5) ?_|refine C9 (aK _ 0 _) ?_)
  all_goals exact Z0 (λz=>[B z]) ((by unfold kj;rw[c];first|rfl|(symm;exact W0 ω)|(rw[C5];simp;omega)))
def Hy(j:cK)(a:cK.sml j):zzA 84 false [.val (some 5) (cK.enc .V j)] .one [B (kj j)]:=by
 have e:j.X.T.length<=1048576:=a;have b:=Hi j.X a;cases c:fm j.X<;>rw[c]at b
 all_goals
  refine fO 20 [] Tryz.func84 rfl ?_
  repeat'(first|refine gP ?_|(conv=>whnf);first|with_reducible refine Bf.D (λd=>?_) (λd=>?_)|refine C9 b ?_|refine C9 (aO _ 0 5) ?_|refine C9 (aO _ 0 _) ?_)
  all_goals exact Z0 (λz=>[B z]) ((by unfold kj;rw[c];first|rfl|(symm;exact W0 ω)|(rw[C5];simp;omega)))
theorem lz(l:aF)(k:Nat):lpgs l (k+1)=lpgs l k++[l.R+(k:Nat)]:=by grind [List.range_succ,lpgs]
theorem ER(l:aF)(k:Nat):(lpgs l k).length=k:=by unfold lpgs;simp
theorem Qh(l:aF)(h:k<=n):lpgs l k <+: lpgs l n:=by
 induction n with
 | zero=>
  grind
 | succ n a=>
  grind [lz]
variable{la:List aF}
theorem pz(sp:List aA){l:aF}(h:la[i]? = some l):pgs sp (la.take (i+1))=pgs sp (la.take i)++lpgs l l.a3.toNat:=by grind [I6,pgs]
theorem R1(sp:List aA)(la:List aF)(i:Nat):pgs sp (la.take i) <+: pgs sp la:=by grind [List.take_append_drop,pgs]
variable{p:Int}{S:List Int}
theorem Q0{all:List Int}(h:(S++[p]) <+: all)(a:p∈S):decide all.Nodup=false:=by grind [List.nodup_append]
theorem lP(h:S.Nodup)(a:p∉S):(S++[p]).Nodup:=ψ
variable{sp:List aA}
theorem FE(h:sp[i]? = some s):((sp.take i).map (·.R)++[s.R]) <+: pgs sp la:=by
 have a:(sp.take i).map (·.R)++[s.R]=(sp.take (i+1)).map (·.R):=by grind [I6]
 rw[a];refine List.IsPrefix.trans ?_ (List.prefix_append ..)
 grind
theorem AK{l:aF}(h:la[i]? = some l)(a:k<l.a3.toNat):(pgs sp (la.take i)++lpgs l k++[l.R+(k:Nat)]) <+: pgs sp la:=by
 refine List.IsPrefix.trans ?_ (R1 sp la (i+1));rw[pz sp h,O6,<-lz]
 grind [List.prefix_append_right_inj,Qh]
theorem qT(h:sp[i]? = some s)(a:bi s=false):bq sp la=false:=by grind [bq]
theorem qj{l:aF}(h:la[i]? = some l)(a:bR l=false):bq sp la=false:=by grind [bq]
theorem lc(h:(S++[p]) <+: pgs sp la)(a:p∈S):bq sp la=false:=by grind [Q0,bq]
theorem sK(h1:sp.all bi=true)(a:la.all bR=true)(b:(pgs sp la).Nodup):bq sp la=true:=by grind [bq]
theorem aT{l:aF}(h:bR l=true):1<=l.a3/\l.a3<=63/\0<=l.R/\l.R<=31:=by grind [bR]
theorem mI(sp:List aA)(la:List aF)(t:dC sp)(u:dS la):zzA 210 false [.val none (cF .V sp),.val none (cA .V la)] .one [B (bq sp la)]:=by
 have J:=t.1;have K:=u.1;refine fO 79 [] Tryz.func210 rfl ?_
 repeat'(first|refine gP ?_|fail)
 (conv=>whnf)
 refine CJ (ι:=Nat × List Int) (λi=>[(0,.H .one (cF .V sp)),(1,.H .one (cA .V la)),(5,.H .one (aH .own i.2)),(6,.H .one [I ((i.1:Nat):Int)])]) (λi=>i.1<=sp.length/\i.2=(sp.take i.1).map (·.R)/\(sp.take i.1).all bi=true/\i.2.Nodup) (λi=>sp.length - i.1) ((0,[])) ?_ ψ λi o=>?_
 ·exact wB
 obtain⟨i,S⟩:=i;obtain⟨o,q,d,h⟩:=o;simp only at o q d h |-;have L:S.length=i:=ψ
 by_cases w:i<sp.length
 ·have a:=au w
  have j:=gU (nth sp i);cases e:bi (nth sp i)<;>rw[e]at j
  ·repeat'(first|refine gE ?_|(conv=>whnf);first|with_reducible refine CE (aa a) ?_|refine C9 j ?_)
   exact Z0 (λz=>[B z]) ((qT a e).symm)
  repeat'(first|refine gE ?_|(conv=>whnf);first|with_reducible (first|refine CE (aa a) ?_|refine Bf.D (λy=>?_) (λy=>?_))|refine C9 j ?_|refine CG (np S _ ω) ⟨⟨rfl,dK _⟩,⟨rfl,rfl⟩,trivial⟩ ?_|refine CU cS (λr E=>by rw[V1.1 E];rfl) (by simp[bk,eD]) (by simp;omega) (by simp only[I1];exact y4 (by simp;omega) (by decide)) rfl ?_)
  all_goals first
   | exact Z0 (λz=>[B z]) ((lc (S:=S) (by rw[q];exact FE a) (by assumption)).symm)
   | ((conv=>whnf)
      refine CF (i+1,S++[(nth sp i).R]) ⟨(by simp only;omega),(by simp only;rw[q,I6,a];simp),(cX a d e),lP h (by assumption)⟩ (by simp only;omega) ?_
      (repeat'(first|exact trivial|rfl|exact CM rfl (CM (Z0 (C.s dY.own) (by simp[rI])) trivial)|refine CM ?_ ?_)))
 obtain rfl:i=sp.length:=ω
 rw[X5]at d q
 repeat'(first|refine gE ?_|fail)
 (conv=>whnf)
 refine CJ (ι:=Nat × List Int) (λi=>[(1,.H .one (cA .V la)),(5,.H .one (aH .own i.2)),(7,.H .one [I ((i.1:Nat):Int)])]) (λi=>i.1<=la.length/\i.2=pgs sp (la.take i.1)/\(la.take i.1).all bR=true/\i.2.Nodup/\i.2.length<=1048576+64*i.1) (λi=>la.length - i.1) ((0,S)) ?_ (⟨X0 _,by grind [pgs],rfl,h,by simp only;omega⟩) λi o=>?_
 ·exact wB
 obtain⟨i,S2⟩:=i;obtain⟨F,l,b,g,G⟩:=o;simp only at F l b g G |-;by_cases w:i<la.length
 ·have a:=au w
  have j:=nQ (nth la i);cases e:bR (nth la i)<;>rw[e]at j
  ·repeat'(first|refine gE ?_|(conv=>whnf);first|with_reducible refine CE (aa a) ?_|refine C9 j ?_)
   exact Z0 (λz=>[B z]) ((qj a e).symm)
  have M:=aT e
  repeat'(first|refine gE ?_|(conv=>whnf);first|with_reducible refine CE (aa a) ?_|refine C9 j ?_)
  (conv=>whnf)
  refine CJ (ι:=Nat × List Int) (λk=>[(1,.H .one (cA .V la)),(5,.H .one (aH .own k.2)),(7,.H .one [I ((i:Nat):Int)]),(8,.H .one [I ((k.1:Nat):Int)])]) (λk=>k.1<=(nth la i).a3.toNat/\k.2=S2++lpgs (nth la i) k.1/\k.2.Nodup) (λk=>(nth la i).a3.toNat - k.1) ((0,S2)) ?_ (⟨X0 _,by simp[lpgs],g⟩) λk H=>?_
  ·exact wB
  obtain⟨k,p⟩:=k;obtain⟨H,n,c⟩:=H;simp only at H n c |-;have N:p.length=S2.length+k:=by grind [ER]
  by_cases O:k<(nth la i).a3.toNat
  ·repeat'(first|refine gE ?_|(conv=>whnf);first|with_reducible (first|refine CE (aa a) ?_|refine Bf.D (λy=>?_) (λy=>?_))|refine CG (np p _ ω) ⟨⟨rfl,dK _⟩,⟨rfl,rfl⟩,trivial⟩ ?_|refine CU cS (λr E=>by rw[V1.1 E];rfl) (by simp[bk,eD]) (by simp;omega) (by show _*8<=_;simp;omega) rfl ?_)
   all_goals first
    | exact Z0 (λz=>[B z]) ((lc (S:=p) (by rw[n,l];exact AK a O) (by assumption)).symm)
    | ((conv=>whnf)
       refine CF (k+1,p++[(nth la i).R+(k:Nat)]) ⟨(by simp only;omega),(by simp only;rw[n,lz,O6]),lP c (by assumption)⟩ (by simp only;omega) ?_
       (repeat'(first|exact trivial|rfl|exact CM rfl (CM (Z0 (C.s dY.own) (by simp[rI])) trivial)|refine CM ?_ ?_)))
  obtain rfl:k=(nth la i).a3.toNat:=ω
  repeat'(first|refine gE ?_|(conv=>whnf);first|with_reducible refine CE (aa a) ?_)
  ((conv=>whnf);refine CF (i+1,p) ⟨(by simp only;omega),(by grind [pz]),(cX a b e),c,(by simp only;omega)⟩ (by simp only;omega) ?_;(exact wB))
 obtain rfl:i=la.length:=ω
 rw[X5]at b l
 repeat'(first|refine gE ?_|fail)
 exact Z0 (λz=>[B z]) ((sK d b ψ).symm)
def ins(S:List Int)(p:Int):List Int:=if p∈S then S else S++[p]
theorem KZ{p:Int} : ∀{S:List Int},p∈S->mput (fW S) p (.bool true)=fW S
 | x::S,h=>by
  simp only[fW,X6,mput];by_cases a:x=p
  ·rw[CD a,a]
  rw[CB a];have:=KZ (S:=S) ((List.mem_cons.1 h).resolve_left λe=>a e.symm)
  grind [fW]
theorem xl(S:List Int)(p:Int):fW (ins S p)=mput (fW S) p (.bool true):=by grind [KZ,uN,ins]
theorem Qy(S:List Int)(p:Int):zzB 224 false [.val none [I p],.ptr [.m (fW S)]] [.val none [I p],.ptr [.m (fW (ins S p))]] .one [B (decide (p∉S))]:=by
 refine fM 12 [] [] [(0,0),(0,0)] Tryz.func224 rfl (λu q=>?_)
 repeat'(first|refine gP ?_|(conv=>whnf);first|refine Ml.mk (ou p S) ?_|refine Mu.mk (xl S p) ?_)
 refine CH rfl ?_ ?_
 ·grind
 exact wB
theorem qU(sp:List aA)(la:List aF)(t:dC sp)(u:dS la):zzA 76 false [.val none (cF .V sp),.val none (cA .V la)] .one [B (bq sp la)]:=by
 have F:=t.1;have G:=u.1;refine fP 54 [(224,[0,2])] [] Tryz.func76 rfl ?_
 repeat'(first|refine gP ?_|fail)
 (conv=>whnf)
 refine CJ (ι:=Nat × List Int) (λi=>[(1,.H .one (cA .V la)),(5,.H .box [.m (fW i.2)]),(6,.fn 224 [5]),(14,.H .one (cF .V sp)),(15,.H .one [I (sp.length)]),(16,.H .one [I ((i.1:Nat):Int)])]) (λi=>i.1<=sp.length/\i.2=(sp.take i.1).map (·.R)/\(sp.take i.1).all bi=true/\i.2.Nodup) (λi=>sp.length - i.1) ((0,[])) ?_ ψ λi p=>?_
 ·exact wB
 obtain⟨i,S⟩:=i;obtain⟨p,r,e,j⟩:=p;simp only at p r e j |-;by_cases w:i<sp.length
 ·have c:=au w
  have l:=ko (nth sp i);cases g:bi (nth sp i)<;>rw[g]at l
  ·repeat'(first|refine gE ?_|(conv=>whnf);first|with_reducible refine CE (aa c) ?_|refine C9 l ?_)
   exact Z0 (λz=>[B z]) ((qT c g).symm)
  repeat'(first|refine gE ?_|(conv=>whnf);first|with_reducible (first|refine CE (aa c) ?_|refine Bf.D (λy=>?_) (λy=>?_))|refine C9 l ?_|refine CL (Qy S _) (.inl rfl) ?_)
  all_goals first
   | exact Z0 (λz=>[B z]) ((lc (S:=S) (by rw[r];exact FE c) ψ).symm)
   |(have a:(nth sp i).R∉S:=by assumption
     (conv=>whnf)
     refine CF (i+1,ins S (nth sp i).R) ⟨(by simp only;omega),(by simp only;unfold ins;rw[CB a,r,I6,c];simp),(cX c e g),(by simp only;unfold ins;rw[CB a];exact lP j a)⟩ (by simp only;omega) ?_
     (exact wA))
 obtain rfl:i=sp.length:=ω
 rw[X5]at e r
 repeat'(first|refine gE ?_|fail)
 (conv=>whnf)
 refine CJ (ι:=Nat × List Int) (λi=>[(5,.H .box [.m (fW i.2)]),(6,.fn 224 [5]),(31,.H .one (cA .V la)),(32,.H .one [I (la.length)]),(33,.H .one [I ((i.1:Nat):Int)])]) (λi=>i.1<=la.length/\i.2=pgs sp (la.take i.1)/\(la.take i.1).all bR=true/\i.2.Nodup) (λi=>la.length - i.1) ((0,S)) ?_ (⟨X0 _,by grind [pgs],rfl,j⟩) λi p=>?_
 ·exact wB
 obtain⟨i,S2⟩:=i;obtain⟨C,n,b,h⟩:=p;simp only at C n b h |-;by_cases w:i<la.length
 ·have c:=au w
  have l:=uk (nth la i);cases g:bR (nth la i)<;>rw[g]at l
  ·repeat'(first|refine gE ?_|(conv=>whnf);first|with_reducible refine CE (aa c) ?_|refine C9 l ?_)
   exact Z0 (λz=>[B z]) ((qj c g).symm)
  have H:=aT g
  repeat'(first|refine gE ?_|(conv=>whnf);first|with_reducible refine CE (aa c) ?_|refine C9 l ?_)
  (conv=>whnf)
  refine CJ (ι:=Nat × List Int) (λk=>[(5,.H .box [.m (fW k.2)]),(6,.fn 224 [5]),(10,.H .box (aF.enc .V (nth la i))),(11,.H .one [I ((k.1:Nat):Int)]),(31,.H .one (cA .V la)),(32,.H .one [I (la.length)]),(33,.H .one [I ((i:Nat):Int)])]) (λk=>k.1<=(nth la i).a3.toNat/\k.2=S2++lpgs (nth la i) k.1/\k.2.Nodup) (λk=>(nth la i).a3.toNat - k.1) ((0,S2)) ?_ (⟨X0 _,by simp[lpgs],h⟩) λk E=>?_
  ·exact wB
  obtain⟨k,q⟩:=k;obtain⟨E,o,d⟩:=E;simp only at E o d |-;by_cases J:k<(nth la i).a3.toNat
  ·repeat'(first|refine gE ?_|(conv=>whnf);first|with_reducible refine Bf.D (λy=>?_) (λy=>?_)|refine CL (Qy q _) (.inl rfl) ?_)
   all_goals first
    | exact Z0 (λz=>[B z]) ((lc (S:=q) (by rw[o,n];exact AK c J) ψ).symm)
    |(have a:(nth la i).R+(k:Nat)∉q:=by assumption
      (conv=>whnf)
      refine CF (k+1,ins q ((nth la i).R+(k:Nat))) ⟨(by simp only;omega),(by simp only;unfold ins;rw[CB a,o,lz,O6]),(by simp only;unfold ins;rw[CB a];exact lP d a)⟩ (by simp only;omega) ?_
      (exact wA))
  obtain rfl:k=(nth la i).a3.toNat:=ω
  repeat'(first|refine gE ?_|fail)
  ((conv=>whnf);refine CF (i+1,q) ⟨(by simp only;omega),(by grind [pz]),(cX c b g),d⟩ (by simp only;omega) ?_;(exact wB))
 obtain rfl:i=la.length:=ω
 rw[X5]at b n
 repeat'(first|refine gE ?_|fail)
 exact Z0 (λz=>[B z]) ((sK e b ψ).symm)
theorem aI(h:bi s=true):0<=s.R/\s.R<=31/\0<=s.d/\s.d<=3:=by grind [bi]
theorem cg{k:Int}(h:0<=k/\k<=3):csz k=1\/csz k=2\/csz k=4\/csz k=8:=by
 obtain rfl|rfl|rfl|rfl:k=0\/k=1\/k=2\/k=3:=ω
 all_goals decide
def p7{x y:Int}(h:0<=x):x.tdiv y=x / y:=Int.tdiv_eq_ediv_of_nonneg h
def fR{x y:Int}(h:0<=x):x.tmod y=x % y:=Int.tmod_eq_emod_of_nonneg h
def S2(p:Int × Int):List C:=[I p.1,I p.2]
variable{b:Int}
theorem BW{p:Int × Int}(h:(a,b)=p):[I a,I b]=S2 p:=by subst h;rfl
theorem vG(s:aA)(a:Int)(k:nE a):zzA 473 false [.val (some 3) (aA.enc .V s),.val none [I a]] (.tup [none,none]) (S2 (jb s a)):=by
 have c:=gU s;have l:=eC s.d;obtain⟨n,o⟩:=k;cases d:bi s<;>rw[d]at c
 ·refine fO 33 [(4,12,[23,24,25,26,27,28,29,30,31,32,4,5])] Tryz.func473 rfl ?_ (.inr ⟨trivial,trivial,trivial⟩)
  repeat'(first|refine gP ?_|(conv=>whnf);first|refine C9 c ?_)
  exact BW (by grind [jb,d7])
 have h:=aI d;have i:=cg ⟨h.2.2.1,h.2.2.2⟩;by_cases g:16*s.R<=a/\a<=16*s.R+15
 ·have j:0<=a:=ω
  refine fO 33 [(4,12,[23,24,25,26,27,28,29,30,31,32,4,5])] Tryz.func473 rfl ?_ (.inr ⟨trivial,trivial,trivial⟩)
  repeat'(first|refine gE ?_|(conv=>whnf);first|with_reducible refine Bf.N (λb=>?_) (λb=>?_)|refine C9 c ?_|refine C9 l ?_|refine CP (by decide) ?_|refine CP ω ?_|refine CN ((Z0 _ (p7 j)).trans (gc ω ω)) ?_|refine CV (fR j) ?_|refine CN ((Z0 _ (p7 ω)).trans (gc (by rcases i with e|e|e|e<;>rw[e]<;>omega) (by rcases i with e|e|e|e<;>rw[e]<;>omega))) ?_|refine CV (fR ω) ?_)
  all_goals grind [BW,jb,d7]
 refine fO 33 [(4,12,[23,24,25,26,27,28,29,30,31,32,4,5])] Tryz.func473 rfl ?_ (.inr ⟨trivial,trivial,trivial⟩)
 repeat'(first|refine gP ?_|(conv=>whnf);first|with_reducible (first|refine Bf.D (λb=>?_) (λb=>?_)|refine Bf.N (λb=>?_) (λb=>?_))|refine C9 c ?_|refine CP (by decide) ?_|refine CN ((Z0 _ (p7 ω)).trans (gc ω ω)) ?_)
 all_goals first
  |exact BW (by unfold jb d7;rw[d,W0 g];rfl)
  |(exfalso;omega)
theorem GU(s:aA)(a:Int):zzA 379 false [.val (some 3) (aA.enc .V s),.val none [I a]] (.tup [none,none]) (S2 (jb s a)):=by
 have b:=ko s;have j:=fQ s.d;cases c:bi s<;>rw[c]at b
 ·refine fO 38 [(4,12,[28,29,30,31,32,33,34,35,36,37,4,5])] Tryz.func379 rfl ?_ (.inr ⟨trivial,trivial,trivial⟩)
  repeat'(first|refine gP ?_|(conv=>whnf);first|refine C9 b ?_)
  exact BW (by grind [jb,d7])
 have h:=aI c;have i:=cg ⟨h.2.2.1,h.2.2.2⟩;by_cases d:16*s.R<=a/\a<=16*s.R+15
 ·refine fO 38 [(4,12,[28,29,30,31,32,33,34,35,36,37,4,5])] Tryz.func379 rfl ?_ (.inr ⟨trivial,trivial,trivial⟩)
  repeat'(first|refine gE ?_|(conv=>whnf);first|with_reducible refine Bf.D (λg=>?_) (λg=>?_)|refine C9 b ?_|refine C9 j ?_|refine C9 (aO _ _ _) ?_|refine CP ω ?_|refine CN ((Z0 _ (p7 ω)).trans (gc (by rcases i with e|e|e|e<;>rw[e]<;>omega) (by rcases i with e|e|e|e<;>rw[e]<;>omega))) ?_|refine CV (fR ω) ?_)
  grind [BW,jb,d7]
 refine fO 38 [(4,12,[28,29,30,31,32,33,34,35,36,37,4,5])] Tryz.func379 rfl ?_ (.inr ⟨trivial,trivial,trivial⟩)
 repeat'(first|refine gE ?_|(conv=>whnf);first|with_reducible refine Bf.D (λg=>?_) (λg=>?_)|refine C9 b ?_|refine C9 (aO _ _ _) ?_)
 all_goals exact BW (by unfold jb d7;rw[c,W0 d];rfl)
def q9(b i:Int):zzA 547 false [.val none [I b],.val none [I i]] .one [B (decide (0<=b/\0<=i/\i<=15))]:=by
 refine fO 11 [] Tryz.func547 rfl ?_
 repeat'(first|refine gP ?_|(conv=>whnf);first|with_reducible refine Bf.D (λa=>?_) (λa=>?_)|refine C9 (aK _ 0 15) ?_)
 all_goals exact Z0 (λz=>[B z]) ((by first|(symm;exact W0 ω)|exact decide_eq_decide.2 ω))
def uK(b i:Int):zzA 457 false [.val none [I b],.val none [I i]] .one [B (decide (0<=b/\0<=i/\i<=15))]:=by
 refine fO 11 [] Tryz.func457 rfl ?_
 repeat'(first|refine gP ?_|(conv=>whnf);first|with_reducible refine Bf.D (λa=>?_) (λa=>?_)|refine C9 (aO _ 0 15) ?_)
 all_goals exact Z0 (λz=>[B z]) ((by first|(symm;exact W0 ω)|exact decide_eq_decide.2 ω))
theorem Nd{i:Int}(a:0<=b/\b<=9223372036854775807)(e:0<=i/\i<=15):b.fdiv (2 ^ min i.toNat IntKind.i64.bits)=b / 2 ^ i.toNat/\0<=b / 2 ^ i.toNat/\b / 2 ^ i.toNat<=9223372036854775807:=by
 have d:min i.toNat IntKind.i64.bits=i.toNat:=Nat.min_eq_left (show i.toNat<=64 by omega);rw[d];have c:(0:Int)<=2 ^ i.toNat:=ψ
 refine⟨Int.fdiv_eq_ediv_of_nonneg _ c,Int.ediv_nonneg a.1 c,?_⟩;have:=Int.ediv_le_self (2 ^ i.toNat:Int) a.1;omega
theorem wX{i:Int}(a:0<=b)(c:0<=i/\i<=15):((((b / 2 ^ i.toNat).toNat &&& (1:Int).toNat:Nat):Int) == 1)=bc b i:=by
 have d:(0:Int)<=b / 2 ^ i.toNat:=Int.ediv_nonneg a ψ
 grind [bc]
theorem iV(b i:Int)(c:b<=9223372036854775807):zzA 474 false [.val none [I b],.val none [I i]] .one [B (bc b i)]:=by
 by_cases h:0<=b/\0<=i/\i<=15
 ·obtain⟨d,g⟩:=Nd (b:=b) (i:=i) ⟨h.1,c⟩ h.2
  have j:IntKind.u64.wrap i=i:=by grind [Go.IntKind.wrap,Go.IntKind.bits]
  refine fO 16 [] Tryz.func474 rfl ?_
  repeat'(first|refine gE ?_|(conv=>whnf);first|with_reducible refine Bf.D (λa=>?_) (λa=>?_)|refine C9 (q9 _ _) ?_|refine CP ω ?_|refine CN j ?_|refine CV d ?_|refine CN (and64 g ⟨by decide,by decide⟩) ?_)
  grind [wX]
 refine fO 16 [] Tryz.func474 rfl ?_
 repeat'(first|refine gE ?_|(conv=>whnf);first|with_reducible refine Bf.D (λa=>?_) (λa=>?_)|refine C9 (q9 _ _) ?_)
 all_goals exact Z0 (λz=>[B z]) ((by unfold bc;symm;exact W0 λe=>h ⟨e.1,e.2.1,e.2.2.1⟩))
theorem ov(b i:Int)(c:b<=9223372036854775807):zzA 380 false [.val none [I b],.val none [I i]] .one [B (bc b i)]:=by
 by_cases h:0<=b/\0<=i/\i<=15
 ·obtain⟨d,g⟩:=Nd (b:=b) (i:=i) ⟨h.1,c⟩ h.2
  refine fO 15 [] Tryz.func380 rfl ?_
  repeat'(first|refine gE ?_|(conv=>whnf);first|with_reducible refine Bf.D (λa=>?_) (λa=>?_)|refine C9 (uK _ _) ?_|refine CP ω ?_|refine CV d ?_|refine CN (and64 g ⟨by decide,by decide⟩) ?_)
  grind [wX]
 refine fO 15 [] Tryz.func380 rfl ?_
 repeat'(first|refine gE ?_|(conv=>whnf);first|with_reducible refine Bf.D (λa=>?_) (λa=>?_)|refine C9 (uK _ _) ?_)
 all_goals exact Z0 (λz=>[B z]) ((by unfold bc;symm;exact W0 λe=>h ⟨e.1,e.2.1,e.2.2.1⟩))
theorem cV{l:aF}(h:bR l=true):9<=l.q/\l.q<=1000/\0<=l.R/\l.R<=31:=by grind [bR]
theorem ro(l:aF)(a:Int):zzA 475 false [.val (some 3) (aF.enc .V l),.val none [I a]] .one [B (bS l a)]:=by
 have b:=nQ l;cases c:bR l<;>rw[c]at b
 ·refine fO 24 [] Tryz.func475 rfl ?_
  repeat'(first|refine gP ?_|(conv=>whnf);first|refine C9 b ?_)
  exact Z0 (λz=>[B z]) ((by grind [bS]))
 have e:=cV c;refine fO 24 [] Tryz.func475 rfl ?_
 repeat'(first|refine gP ?_|(conv=>whnf);first|with_reducible refine Bf.D (λd=>?_) (λd=>?_)|refine C9 b ?_)
 all_goals exact Z0 (λz=>[B z]) ((by unfold bS;rw[c,Bool.true_and];first|(symm;exact W0 ω)|exact decide_eq_decide.2 ω))
theorem rh(l:aF)(a:Int):zzA 381 false [.val (some 3) (aF.enc .V l),.val none [I a]] .one [B (bS l a)]:=by
 have b:=uk l;cases c:bR l<;>rw[c]at b
 ·refine fO 21 [] Tryz.func381 rfl ?_
  repeat'(first|refine gP ?_|(conv=>whnf);first|refine C9 b ?_)
  exact Z0 (λz=>[B z]) ((by grind [bS]))
 have e:=cV c;refine fO 21 [] Tryz.func381 rfl ?_
 repeat'(first|refine gP ?_|(conv=>whnf);first|with_reducible refine Bf.D (λd=>?_) (λd=>?_)|refine C9 b ?_|refine C9 (aO _ _ _) ?_)
 grind [bS]
theorem ur(l:aF)(a:Int)(h:bS l a=true):zzA 476 false [.val (some 3) (aF.enc .V l),.val none [I a]] .one [I (a - 16*l.R)]:=by
 have b:=ro l a;rw[h]at b;unfold bS at h;simp only[I0,C0]at h;have c:=cV h.1;refine fO 14 [] Tryz.func476 rfl ?_
 repeat'(first|refine gP ?_|(conv=>whnf);first|refine C9 b ?_)
 grind
theorem uE(l:aF)(a:Int)(h:bS l a=true):zzA 382 false [.val (some 3) (aF.enc .V l),.val none [I a]] .one [I (a - 16*l.R)]:=by
 have b:=rh l a;rw[h]at b;unfold bS at h;simp only[I0,C0]at h;have c:=cV h.1;refine fO 14 [] Tryz.func382 rfl ?_
 repeat'(first|refine gP ?_|(conv=>whnf);first|refine C9 b ?_)
 grind
variable{m:aP}
theorem qq(a:i<m.U.length)(h:hB m i=false):bQ m=false:=by grind [cG,bQ]
theorem ya(h:¬(1<=m.U.length/\m.U.length<=4/\m.a0.length=m.U.length)):bQ m=false:=by grind [bQ]
theorem zd(h1:1<=m.U.length/\m.U.length<=4/\m.a0.length=m.U.length)(a:dh m.U.length (hB m)=true):bQ m=decide (bD m m.U.length<=30):=by grind [bQ]
theorem ml(m:aP)(h:aP.sml m):zzA 111 false [.val (some 2) (aP.enc .V m)] .one [B (bQ m)]:=by
 have r:m.U.length<=1048576:=h.1.1;have t:m.a0.length<=1048576:=h.2.1;by_cases u:1<=m.U.length/\m.U.length<=4/\m.a0.length=m.U.length
 ·refine fO 92 [(19,15,[75,76,77,78,79,80,81,82,83,84,85,86,87,88,89])] Tryz.func111 rfl ?_
  repeat'(first|refine gB ?_|(conv=>whnf);first|with_reducible (first|refine Bf.D (λa=>?_) (λa=>?_)|refine Bf.N (λa=>?_) (λa=>?_))|refine C9 (aK _ 1 4) ?_)
  (conv=>whnf)
  refine CJ (ι:=Nat) (λi=>[(1,.H .box (aP.enc .V m)),(3,.H .one [I (m.U.length)]),(4,.H .one [I (bD m i)]),(5,.H .one [I ((i:Nat):Int)])]) (λi=>i<=m.U.length/\dh i (hB m)=true/\0<=bD m i/\bD m i<=2097152*i) (λi=>m.U.length - i) (0) ?_ (⟨X0 _,rfl,by simp[bD],by simp[bD]⟩) λi n=>?_
  ·exact wB
  obtain⟨n,w,F,G⟩:=n;by_cases j:i<m.U.length
  ·have l:=au j
   have o:=au (xs:=m.a0) (i:=i) ω;have y:(nth m.U i).length<=1048576:=(h.1.2 _ (ar j)).1;have C:(nth m.a0 i).length<=1048576:=h.2.2 _ ψ
   repeat'(first|refine gE ?_|fail)
   (conv=>whnf)
   refine CJ (ι:=Nat) (λk=>[(1,.H .box (aP.enc .V m)),(3,.H .one [I (m.U.length)]),(4,.H .one [I (bD m i)]),(5,.H .one [I ((i:Nat):Int)]),(6,.H .one [I ((k:Nat):Int)])]) (λk=>k<=(nth m.U i).length/\((nth m.U i).take k).all (nJ m.U.length)=true) (λk=>(nth m.U i).length - k) (0) ?_ ψ λk p=>?_
   ·exact wB
   obtain⟨p,q⟩:=p;by_cases E:k<(nth m.U i).length
   ·have c:=au E
    repeat'(first|refine gE ?_|(conv=>whnf);first|with_reducible (first|refine CE (aa l) ?_|refine CE (aa c) ?_|refine Bf.D (λa=>?_) (λa=>?_))|refine C9 (aK _ 0 _) ?_)
    all_goals first
     | exact Z0 (λz=>[B z]) ((qq j (by unfold hB;rw[gN c (by unfold nJ;exact W0 ω)];rfl)).symm)
     | ((conv=>whnf);refine CF (k+1) ⟨ω,cX c q (by unfold nJ;exact O0 ω)⟩ ω ?_;(exact wB))
   have H:=oh ω q
   repeat'(first|refine gE ?_|(conv=>whnf);first|with_reducible refine CE (aa l) ?_)
   (conv=>whnf)
   refine CJ (ι:=Nat) (λb=>[(1,.H .box (aP.enc .V m)),(3,.H .one [I (m.U.length)]),(4,.H .one [I (bD m i)]),(5,.H .one [I ((i:Nat):Int)]),(8,.H .one [I ((b:Nat):Int)])]) (λb=>b<=(nth m.a0 i).length/\((nth m.a0 i).take b).all RQ=true) (λb=>(nth m.a0 i).length - b) (0) ?_ ψ λb e=>?_
   ·exact wB
   obtain⟨e,ak2⟩:=e;by_cases lk2:b<(nth m.a0 i).length
   ·have c:=au lk2
    repeat'(first|refine gE ?_|(conv=>whnf);first|with_reducible (first|refine CE (aa o) ?_|refine CE (aa c) ?_|refine Bf.D (λa=>?_) (λa=>?_)))
    all_goals first
     | exact Z0 (λz=>[B z]) ((qq j (by unfold hB;rw[gN c (by unfold RQ;exact W0 ω)];simp)).symm)
     | ((conv=>whnf);refine CF (b+1) ⟨ω,cX c ak2 (by unfold RQ;exact O0 ω)⟩ ω ?_;(exact wB))
   have ae2:=oh ω ak2;have g:bD m (i+1)=bD m i+((nth m.U i).length+(nth m.a0 i).length):=rfl;have d:bD m (i+1)=bD m i+(nth m.U i).length+(nth m.a0 i).length:=by rw[g];omega
   repeat'(first|refine gE ?_|(conv=>whnf);first|with_reducible (first|refine CE (aa l) ?_|refine CE (aa o) ?_))
   ((conv=>whnf);refine CF (i+1) ⟨ω,bW w (by grind [hB]),ω,ω⟩ ω ?_)
   rw[d];exact wB
  obtain rfl:i=m.U.length:=ω
  repeat'(first|refine gE ?_|fail)
  grind [zd]
 refine fO 92 [(19,15,[75,76,77,78,79,80,81,82,83,84,85,86,87,88,89])] Tryz.func111 rfl ?_
 repeat'(first|refine gP ?_|(conv=>whnf);first|with_reducible (first|refine Bf.D (λa=>?_) (λa=>?_)|refine Bf.N (λa=>?_) (λa=>?_))|refine C9 (aK _ 1 4) ?_)
 all_goals first
  | exact Z0 (λz=>[B z]) ((ya u).symm)
  |(exfalso;omega)
theorem wc(m:aP)(g:aP.sml m):zzA 78 false [.val (some 2) (aP.enc .V m)] .one [B (bQ m)]:=by
 have q:m.U.length<=1048576:=g.1.1;have r:m.a0.length<=1048576:=g.2.1;by_cases t:1<=m.U.length/\m.U.length<=4/\m.a0.length=m.U.length
 ·refine fO 82 [(20,15,[64,65,66,67,68,69,70,71,72,73,74,75,76,77,78])] Tryz.func78 rfl ?_
  repeat'(first|refine gB ?_|(conv=>whnf);first|with_reducible (first|refine Bf.D (λa=>?_) (λa=>?_)|refine Bf.N (λa=>?_) (λa=>?_))|refine C9 (aO _ 1 4) ?_)
  (conv=>whnf)
  refine CJ (ι:=Nat) (λi=>[(1,.H .box (aP.enc .V m)),(3,.H .one [I (m.U.length)]),(4,.H .one [I (bD m i)]),(25,.H .one [I (m.U.length)]),(26,.H .one [I ((i:Nat):Int)])]) (λi=>i<=m.U.length/\dh i (hB m)=true/\0<=bD m i/\bD m i<=2097152*i) (λi=>m.U.length - i) (0) ?_ (⟨X0 _,rfl,by simp[bD],by simp[bD]⟩) λi n=>?_
  ·exact wB
  obtain⟨n,u,E,F⟩:=n;by_cases h:i<m.U.length
  ·have j:=au h
   have l:=au (xs:=m.a0) (i:=i) ω;have w:(nth m.U i).length<=1048576:=(g.1.2 _ (ar h)).1;have y:(nth m.a0 i).length<=1048576:=g.2.2 _ ψ
   repeat'(first|refine gE ?_|(conv=>whnf);first|with_reducible refine CE (aa j) ?_)
   (conv=>whnf)
   refine CJ (ι:=Nat) (λk=>[(1,.H .box (aP.enc .V m)),(3,.H .one [I (m.U.length)]),(4,.H .one [I (bD m i)]),(5,.H .one [I ((i:Nat):Int)]),(25,.H .one [I (m.U.length)]),(26,.H .one [I ((i:Nat):Int)]),(33,.H .one (cL .V (nth m.U i))),(34,.H .one [I ((nth m.U i).length)]),(35,.H .one [I ((k:Nat):Int)])]) (λk=>k<=(nth m.U i).length/\((nth m.U i).take k).all (nJ m.U.length)=true) (λk=>(nth m.U i).length - k) (0) ?_ ψ λk o=>?_
   ·exact wB
   obtain⟨o,p⟩:=o;by_cases C:k<(nth m.U i).length
   ·have c:=au C
    repeat'(first|refine gE ?_|(conv=>whnf);first|with_reducible (first|refine CE (aa j) ?_|refine CE (aa c) ?_|refine Bf.D (λa=>?_) (λa=>?_))|refine C9 (aO _ 0 _) ?_)
    all_goals first
     | exact Z0 (λz=>[B z]) ((qq h (by unfold hB;rw[gN c (by unfold nJ;exact W0 ω)];rfl)).symm)
     | ((conv=>whnf);refine CF (k+1) ⟨ω,cX c p (by unfold nJ;exact O0 ω)⟩ ω ?_;(exact wB))
   have G:=oh ω p
   repeat'(first|refine gE ?_|(conv=>whnf);first|with_reducible (first|refine CE (aa j) ?_|refine CE (aa l) ?_))
   (conv=>whnf)
   refine CJ (ι:=Nat) (λb=>[(1,.H .box (aP.enc .V m)),(3,.H .one [I (m.U.length)]),(4,.H .one [I (bD m i)]),(5,.H .one [I ((i:Nat):Int)]),(25,.H .one [I (m.U.length)]),(26,.H .one [I ((i:Nat):Int)]),(55,.H .one (aH .V (nth m.a0 i))),(56,.H .one [I ((nth m.a0 i).length)]),(57,.H .one [I ((b:Nat):Int)])]) (λb=>b<=(nth m.a0 i).length/\((nth m.a0 i).take b).all RQ=true) (λb=>(nth m.a0 i).length - b) (0) ?_ ψ λb d=>?_
   ·exact wB
   obtain⟨d,ak2⟩:=d;by_cases lk2:b<(nth m.a0 i).length
   ·have c:=au lk2
    repeat'(first|refine gE ?_|(conv=>whnf);first|with_reducible (first|refine CE (aa l) ?_|refine CE (aa c) ?_|refine Bf.D (λa=>?_) (λa=>?_)))
    all_goals first
     | exact Z0 (λz=>[B z]) ((qq h (by unfold hB;rw[gN c (by unfold RQ;exact W0 ω)];simp)).symm)
     | ((conv=>whnf);refine CF (b+1) ⟨ω,cX c ak2 (by unfold RQ;exact O0 ω)⟩ ω ?_;(exact wB))
   have ae2:=oh ω ak2;have e:bD m (i+1)=bD m i+((nth m.U i).length+(nth m.a0 i).length):=rfl
   repeat'(first|refine gE ?_|(conv=>whnf);first|with_reducible (first|refine CE (aa j) ?_|refine CE (aa l) ?_))
   ((conv=>whnf);refine CF (i+1) ⟨ω,bW u (by grind [hB]),ω,ω⟩ ω ?_)
   rw[e];exact wB
  obtain rfl:i=m.U.length:=ω
  repeat'(first|refine gE ?_|fail)
  grind [zd]
 refine fO 82 [(20,15,[64,65,66,67,68,69,70,71,72,73,74,75,76,77,78])] Tryz.func78 rfl ?_
 repeat'(first|refine gP ?_|(conv=>whnf);first|with_reducible (first|refine Bf.D (λa=>?_) (λa=>?_)|refine Bf.N (λa=>?_) (λa=>?_))|refine C9 (aO _ 1 4) ?_)
 all_goals first
  | exact Z0 (λz=>[B z]) ((ya t).symm)
  |(exfalso;omega)
def Bb(h:d7 s a=false):S2 (jb s a)=[I (-1),I (-1)]:=by
 unfold jb;rw[h];rfl
def yo(h:d7 s a=true):S2 (jb s a)=[I ((a - 16*s.R) / csz s.d),I ((a - 16*s.R) % csz s.d)]:=by
 unfold jb;rw[h];rfl
theorem tf(h:d7 s a=true):bi s=true/\0<=(a - 16*s.R) / csz s.d/\(a - 16*s.R) / csz s.d<=15:=by
 unfold d7 at h;simp only[I0,C0]at h;have b:=aI h.1
 grind [cg]
def oD(b:i<sp.length)(h:d7 (nth sp i) a=true)(c:∀(j:Nat)(z:aA),j<i->sp[j]? = some z->d7 z a=false):denotes sp la a=qK i (nth sp i) a:=by
 unfold denotes;rw[wH (pr:=(d7 · a)) (au b) h c]
def mW(b:sp.length<=n)(c:∀(j:Nat)(z:aA),j<n->sp[j]? = some z->d7 z a=false)(d:i<la.length)(h:bS (nth la i) a=true)(e:∀(j:Nat)(z:aF),j<i->la[j]? = some z->bS z a=false) :
  denotes sp la a = ⟨3,i,0,a - 16*(nth la i).R⟩:=by
 unfold denotes;rw[EH (pr:=(d7 · a)) b c,wH (pr:=(bS · a)) (au d) h e]
theorem xw(b:sp.length<=n)(c:∀(j:Nat)(z:aA),j<n->sp[j]? = some z->d7 z a=false)(d:la.length<=k)(e:∀(j:Nat)(z:aF),j<k->la[j]? = some z->bS z a=false):denotes sp la a = ⟨0,0,0,0⟩:=by grind [EH,denotes]
theorem ot(sp:List aA)(la:List aF)(a:Int)(d:dC sp)(e:dS la)(g:bq sp la=true)(C:nE a):zzA 362 false [.val none (cF .V sp),.val none (cA .V la),.val none [I a]] .agg (jL.enc .own (denotes sp la a)):=by
 have E:=d.1;have F:=e.1;have p:=mI sp la d e;rw[g]at p;refine fO 67 [] Tryz.func362 rfl ?_ (.inr (jL.enc_fr _))
 repeat'(first|refine gP ?_|(conv=>whnf);first|refine C9 p ?_)
 (conv=>whnf)
 refine CJ (ι:=Nat) (λi=>[(0,.H .one (cF .V sp)),(1,.H .one (cA .V la)),(2,.H .one [I (a)]),(6,.H .box ([I 0,I 0,I 0,I 0])),(7,.H .one [I ((i:Nat):Int)])]) (λi=>i<=sp.length/\∀(j:Nat)(z:aA),j<i->sp[j]? = some z->d7 z a=false) (λi=>sp.length - i) (0) ?_ ψ λi q=>?_
 ·exact wB
 obtain⟨q,l⟩:=q;by_cases r:i<sp.length
 ·have h:=au r
  have b:=vG (nth sp i) a C;cases c:d7 (nth sp i) a with
  | false=>
   rw[Bb c]at b
   repeat'(first|refine gE ?_|(conv=>whnf);first|with_reducible (first|refine CE (aa h) ?_|refine Bf.D (λo=>?_) (λo=>?_))|refine C9 b ?_)
   ((conv=>whnf);refine CF (i+1) ψ ω ?_;(exact wB))
  | true=>
   rw[yo c]at b;obtain⟨G,H,J⟩:=tf c;have t:=iV (nth sp i).a9 ((a - 16*(nth sp i).R) / csz (nth sp i).d) (fY G).2;cases u:bc (nth sp i).a9 ((a - 16*(nth sp i).R) / csz (nth sp i).d)<;>rw[u]at t
   all_goals
    repeat'(first|refine gE ?_|(conv=>whnf);first|with_reducible (first|refine CE (aa h) ?_|refine Bf.D (λo=>?_) (λo=>?_))|refine C9 b ?_|refine C9 t ?_)
    all_goals(rw[oD r c l];unfold qK;rw[u];rfl)
 repeat'(first|refine gE ?_|fail)
 (conv=>whnf)
 refine CJ (ι:=Nat) (λk=>[(1,.H .one (cA .V la)),(2,.H .one [I (a)]),(6,.H .box ([I 0,I 0,I 0,I 0])),(11,.H .one [I ((k:Nat):Int)])]) (λk=>k<=la.length/\∀(j:Nat)(z:aF),j<k->la[j]? = some z->bS z a=false) (λk=>la.length - k) (0) ?_ ψ λk w=>?_
 ·exact wB
 obtain⟨w,y⟩:=w;by_cases B:k<la.length
 ·have h:=au B
  have b:=ro (nth la k) a;cases c:bS (nth la k) a<;>rw[c]at b
  ·repeat'(first|refine gE ?_|(conv=>whnf);first|with_reducible refine CE (aa h) ?_|refine C9 b ?_)
   ((conv=>whnf);refine CF (k+1) ψ ω ?_;(exact wB))
  repeat'(first|refine gE ?_|(conv=>whnf);first|with_reducible refine CE (aa h) ?_|refine C9 b ?_|refine C9 (ur (nth la k) a c) ?_)
  rw[mW (n:=i) ω l B c y];rfl
 repeat'(first|refine gE ?_|fail)
 rw[xw (n:=i) (k:=k) ω l ω y];rfl
theorem tC(sp:List aA)(la:List aF)(a:Int)(e:dC sp)(g:dS la):zzA 235 false [.val none (cF .V sp),.val none (cA .V la),.val none [I a]] .agg (jL.enc .own (denotes sp la a)):=by
 have y:=e.1;have B:=g.1;refine fO 56 [] Tryz.func235 rfl ?_ (.inr (jL.enc_fr _))
 repeat'(first|refine gP ?_|fail)
 (conv=>whnf)
 refine CJ (ι:=Nat) (λi=>[(1,.H .one (cA .V la)),(2,.H .one [I (a)]),(6,.H .box ([I 0,I 0,I 0,I 0])),(14,.H .one (cF .V sp)),(15,.H .one [I (sp.length)]),(16,.H .one [I ((i:Nat):Int)])]) (λi=>i<=sp.length/\∀(j:Nat)(z:aA),j<i->sp[j]? = some z->d7 z a=false) (λi=>sp.length - i) (0) ?_ ψ λi o=>?_
 ·exact wB
 obtain⟨o,h⟩:=o;by_cases p:i<sp.length
 ·have d:=au p
  have b:=GU (nth sp i) a;cases c:d7 (nth sp i) a with
  | false=>
   rw[Bb c]at b
   repeat'(first|refine gE ?_|(conv=>whnf);first|with_reducible (first|refine CE (aa d) ?_|refine Bf.D (λl=>?_) (λl=>?_))|refine C9 b ?_)
   ((conv=>whnf);refine CF (i+1) ψ ω ?_;(exact wB))
  | true=>
   rw[yo c]at b;obtain⟨C,E,F⟩:=tf c;have q:=ov (nth sp i).a9 ((a - 16*(nth sp i).R) / csz (nth sp i).d) (fY C).2;cases r:bc (nth sp i).a9 ((a - 16*(nth sp i).R) / csz (nth sp i).d)<;>rw[r]at q
   all_goals
    repeat'(first|refine gE ?_|(conv=>whnf);first|with_reducible (first|refine CE (aa d) ?_|refine Bf.D (λl=>?_) (λl=>?_))|refine C9 b ?_|refine C9 q ?_)
    all_goals(rw[oD p c h];unfold qK;rw[r];rfl)
 repeat'(first|refine gE ?_|fail)
 (conv=>whnf)
 refine CJ (ι:=Nat) (λk=>[(2,.H .one [I (a)]),(6,.H .box ([I 0,I 0,I 0,I 0])),(39,.H .one (cA .V la)),(40,.H .one [I (la.length)]),(41,.H .one [I ((k:Nat):Int)])]) (λk=>k<=la.length/\∀(j:Nat)(z:aF),j<k->la[j]? = some z->bS z a=false) (λk=>la.length - k) (0) ?_ ψ λk t=>?_
 ·exact wB
 obtain⟨t,u⟩:=t;by_cases w:k<la.length
 ·have d:=au w
  have b:=rh (nth la k) a;cases c:bS (nth la k) a<;>rw[c]at b
  ·repeat'(first|refine gE ?_|(conv=>whnf);first|with_reducible refine CE (aa d) ?_|refine C9 b ?_)
   ((conv=>whnf);refine CF (k+1) ψ ω ?_;(exact wB))
  repeat'(first|refine gE ?_|(conv=>whnf);first|with_reducible refine CE (aa d) ?_|refine C9 b ?_|refine C9 (uE (nth la k) a c) ?_)
  rw[mW (n:=i) ω h w c u];rfl
 repeat'(first|refine gE ?_|fail)
 rw[xw (n:=i) (k:=k) ω h ω u];rfl
section
variable{α:Type}
def Ho(ag:Option Nat)(e:α->List C)(pr:α->Bool)(xs:List α):List (Option Nat × List C)->Kd->List C->Prop:=λL k rcs=>∃x,x∈xs/\L=[(ag,e x)]/\k=.one/\rcs=[B (pr x)]
end
def wD(xs:List aB)(pr:aB->Bool)(n:xs.length<=9223372036854775807):zzA 487 false [.val none (bw .V xs),.fn (rA Tryz.prog (Ho (some 2) (aB.enc .V) pr xs))] .one [I (cZ pr xs)]:=by
 refine fO 19 [] Tryz.func487 rfl ?_
 repeat'(first|refine gP ?_|fail)
 (conv=>whnf)
 refine CJ (ι:=Nat) (λi=>[(0,.H .one (bw .V xs)),(1,.fv (rA Tryz.prog (Ho (some 2) (aB.enc .V) pr xs))),(7,.H .one [I xs.length]),(8,.H .one [I (i:Nat)])]) (λi=>i<=xs.length/\∀(j:Nat)(z:aB),j<i->xs[j]? = some z->pr z=false) (λi=>xs.length - i) 0 ?_ ⟨X0 _,λj z h=>ω⟩ λi e=>?_
 ·exact wB
 obtain⟨e,b⟩:=e;by_cases c:i<xs.length
 ·obtain⟨y,a⟩ : ∃y,xs[i]? = some y:=⟨_,X2 c⟩
  repeat'(first|refine gE ?_|(conv=>whnf);first|with_reducible refine CE (aa a) ?_|refine Fv.mk (k:=.one) (rcs:=[B (pr y)]) ⟨y,O2 a,rfl,rfl,rfl⟩ ?_|refine Bf.P (λl=>?_) (λl=>?_))
  ·exact Z0 (λz=>[I z]) (dQ a ‹_› b).symm
  (conv=>whnf)
  refine CF (i+1) ⟨ω,λj z h d=>?_⟩ ω ?_
  ·rcases Nat.lt_or_ge j i with g|g
   ·exact b j z g d
   obtain rfl:j=i:=ω
   rw[a]at d;cases d;assumption
  exact wB
 repeat'(first|refine gE ?_|fail)
 exact Z0 (λz=>[I z]) (gq ω b).symm
theorem sC(xs:List aB)(pr:aB->Bool)(a:xs.length<=9223372036854775807):zzA 376 false [.val none (bw .V xs),.fn (rA Tryz.prog (Ho (some 2) (aB.enc .V) pr xs))] .one [B (xs.any pr)]:=by
 refine fO 9 [] Tryz.func376 rfl ?_
 repeat'(first|refine gP ?_|(conv=>whnf);first|refine C9 (wD xs pr a) ?_)
 grind [nq]
def vT(r:aB)(page:Int):zzA 377 false [.val (some 2) (aB.enc .V r),.ptr [I page]] .one [B (wj page r)]:=by
 refine fO 17 [] Tryz.func377 rfl ?_
 repeat'(first|refine gP ?_|(conv=>whnf);first|with_reducible refine Bf.D (λa=>?_) (λa=>?_)|refine CN rfl ?_)
 all_goals exact Z0 (λz=>[B z]) (by unfold wj;first|(rw[O0 (by assumption:r.At<=page)];simp;done)|(rw[W0 (by assumption:¬r.At<=page)];rfl))
def AE(xs:List aB)(page:Int)(a:xs.length<=9223372036854775807):zzA 228 false [.val none (bw .V xs),.val none [I page]] .one [B (xs.any (wj page))]:=by
 refine fO 8 [] Tryz.func228 rfl ?_
 repeat'(first|refine gP ?_|(conv=>whnf);first|refine Cq.mk (Ho (some 2) (aB.enc .V) (wj page) xs) (vT default page).has (λL k rcs b=>?_) ?_|refine C9 (sC xs (wj page) a) ?_)
 ·obtain⟨x,-,rfl,rfl,rfl⟩:=b
  exact vT x page
 rfl
theorem w9(xs:List aV)(pr:aV->Bool)(g:xs.length<=9223372036854775807):zzA 549 false [.val none (cY .V xs),.fn (rA Tryz.prog (Ho (some 3) (aV.enc .V) pr xs))] .one [I (cZ pr xs)]:=by
 refine fO 19 [] Tryz.func549 rfl ?_
 repeat'(first|refine gP ?_|fail)
 (conv=>whnf)
 refine CJ (ι:=Nat) (λi=>[(0,.H .one (cY .V xs)),(1,.fv (rA Tryz.prog (Ho (some 3) (aV.enc .V) pr xs))),(7,.H .one [I xs.length]),(8,.H .one [I (i:Nat)])]) (λi=>i<=xs.length/\∀(j:Nat)(z:aV),j<i->xs[j]? = some z->pr z=false) (λi=>xs.length - i) 0 ?_ ψ λi b=>?_
 ·exact wB
 obtain⟨b,d⟩:=b;by_cases a:i<xs.length
 ·obtain⟨y,c⟩ : ∃y,xs[i]? = some y:=⟨_,X2 a⟩
  repeat'(first|refine gE ?_|(conv=>whnf);first|with_reducible refine CE (aa c) ?_|refine Fv.mk (k:=.one) (rcs:=[B (pr y)]) ⟨y,O2 c,rfl,rfl,rfl⟩ ?_|refine Bf.P (λe=>?_) (λe=>?_))
  ·grind [dQ]
  (conv=>whnf)
  refine CF (i+1) ψ ω ?_;exact wB
 repeat'(first|refine gE ?_|fail)
 exact Z0 (λz=>[I z]) (gq ω d).symm
theorem si(xs:List aV)(pr:aV->Bool)(a:xs.length<=9223372036854775807):zzA 488 false [.val none (cY .V xs),.fn (rA Tryz.prog (Ho (some 3) (aV.enc .V) pr xs))] .one [B (xs.any pr)]:=by
 refine fO 9 [] Tryz.func488 rfl ?_
 repeat'(first|refine gP ?_|(conv=>whnf);first|refine C9 (w9 xs pr a) ?_)
 grind [nq]
theorem yM(xs:List aA)(pr:aA->Bool)(g:xs.length<=9223372036854775807):zzA 240 false [.val none (cF .V xs),.fn (rA Tryz.prog (Ho (some 3) (aA.enc .V) pr xs))] .one [I (cZ pr xs)]:=by
 refine fO 19 [] Tryz.func240 rfl ?_
 repeat'(first|refine gP ?_|fail)
 (conv=>whnf)
 refine CJ (ι:=Nat) (λi=>[(0,.H .one (cF .V xs)),(1,.fv (rA Tryz.prog (Ho (some 3) (aA.enc .V) pr xs))),(7,.H .one [I xs.length]),(8,.H .one [I (i:Nat)])]) (λi=>i<=xs.length/\∀(j:Nat)(z:aA),j<i->xs[j]? = some z->pr z=false) (λi=>xs.length - i) 0 ?_ ψ λi b=>?_
 ·exact wB
 obtain⟨b,d⟩:=b;by_cases a:i<xs.length
 ·obtain⟨y,c⟩ : ∃y,xs[i]? = some y:=⟨_,X2 a⟩
  repeat'(first|refine gE ?_|(conv=>whnf);first|with_reducible refine CE (aa c) ?_|refine Fv.mk (k:=.one) (rcs:=[B (pr y)]) ⟨y,O2 c,rfl,rfl,rfl⟩ ?_|refine Bf.P (λe=>?_) (λe=>?_))
  ·grind [dQ]
  (conv=>whnf)
  refine CF (i+1) ψ ω ?_;exact wB
 repeat'(first|refine gE ?_|fail)
 exact Z0 (λz=>[I z]) (gq ω d).symm
theorem zO(xs:List bt)(pr:bt->Bool)(g:xs.length<=9223372036854775807):zzA 88 false [.val none (nL .V xs),.fn (rA Tryz.prog (Ho (some 4) (bt.enc .V) pr xs))] .one [I (cZ pr xs)]:=by
 refine fO 19 [] Tryz.func88 rfl ?_
 repeat'(first|refine gP ?_|fail)
 (conv=>whnf)
 refine CJ (ι:=Nat) (λi=>[(0,.H .one (nL .V xs)),(1,.fv (rA Tryz.prog (Ho (some 4) (bt.enc .V) pr xs))),(7,.H .one [I xs.length]),(8,.H .one [I (i:Nat)])]) (λi=>i<=xs.length/\∀(j:Nat)(z:bt),j<i->xs[j]? = some z->pr z=false) (λi=>xs.length - i) 0 ?_ ψ λi b=>?_
 ·exact wB
 obtain⟨b,d⟩:=b;by_cases a:i<xs.length
 ·obtain⟨y,c⟩ : ∃y,xs[i]? = some y:=⟨_,X2 a⟩
  repeat'(first|refine gE ?_|(conv=>whnf);first|with_reducible refine CE (aa c) ?_|refine Fv.mk (k:=.one) (rcs:=[B (pr y)]) ⟨y,O2 c,rfl,rfl,rfl⟩ ?_|refine Bf.P (λe=>?_) (λe=>?_))
  ·grind [dQ]
  (conv=>whnf)
  refine CF (i+1) ψ ω ?_;exact wB
 repeat'(first|refine gE ?_|fail)
 exact Z0 (λz=>[I z]) (gq ω d).symm
theorem vq(xs:List bt)(pr:bt->Bool)(a:xs.length<=9223372036854775807):zzA 233 false [.val none (nL .V xs),.fn (rA Tryz.prog (Ho (some 4) (bt.enc .V) pr xs))] .one [B (xs.any pr)]:=by
 refine fO 9 [] Tryz.func233 rfl ?_
 repeat'(first|refine gP ?_|(conv=>whnf);first|refine C9 (zO xs pr a) ?_)
 grind [nq]
def QM(a:k<=3):IntKind.i64.wrap (1*2 ^ min ((k:Nat):Int).toNat IntKind.i64.bits)=csz (k:Nat):=by
 obtain rfl|rfl|rfl|rfl:k=0\/k=1\/k=2\/k=3:=ω
 all_goals decide
theorem RK(a:k<=100):IntKind.u64.wrap (k:Nat)=(k:Nat):=by grind [Go.IntKind.wrap,Go.IntKind.bits]
theorem Dy(a:k<=3)(h:csz (k:Nat)<z)(b:z<=8):k<=2:=by
 have c:csz ((3:Nat):Int)=8:=by decide
 grind
theorem xY(a:k<=3)(h1:1<=z)(b:k=0\/csz ((k - 1:Nat):Int)<z)(c:¬csz (k:Nat)<z):aN z=(k:Nat):=by
 have d:csz ((0:Nat):Int)=1:=by decide
 have e:csz ((1:Nat):Int)=2:=by decide
 have f:csz ((2:Nat):Int)=4:=by decide
 have g:csz ((3:Nat):Int)=8:=by decide
 unfold aN;obtain rfl|rfl|rfl|rfl:k=0\/k=1\/k=2\/k=3:=ω
 all_goals grind
def lf(z:Int):zzA 220 false [.val none [I z]] .one [I (aN z)]:=by
 refine fO 15 [] Tryz.func220 rfl ?_;by_cases c:1<=z/\z<=8
 ·repeat'(first|refine gE ?_|(conv=>whnf);first|with_reducible refine Bf.D (λb=>?_) (λb=>?_)|refine C9 (aK z 1 8) ?_)
  (conv=>whnf)
  refine CJ (ι:=Nat) (λk=>[(0,.H .one [I (z)]),(3,.H .one [I ((k:Nat):Int)])]) (λk=>k<=3/\(k=0\/csz ((k - 1:Nat):Int)<z)) (λk=>4 - k) (0) ?_ ω λk a=>?_
  ·exact wB
  obtain⟨a,d⟩:=a
  repeat'(first|refine gP ?_|(conv=>whnf);first|with_reducible refine Bf.D (λb=>?_) (λb=>?_)|refine CN (RK ω) ?_|refine CN (QM a) ?_|refine CP ω ?_)
  all_goals first
   | exact Z0 (λz=>[I z]) (xY a c.1 d (by assumption)).symm
   | ((conv=>whnf);refine CF (k+1) ⟨by have:=Dy a (by assumption) c.2;omega,.inr (by simpa using (by assumption:csz (k:Nat)<z))⟩ (by have:=Dy a (by assumption) c.2;omega) ?_;(exact wB))
 repeat'(first|refine gE ?_|(conv=>whnf);first|with_reducible refine Bf.D (λb=>?_) (λb=>?_)|refine C9 (aK z 1 8) ?_)
 all_goals exact Z0 (λz=>[I z]) (by unfold aN;(repeat' split)<;>omega)
def sZ(z:Int):zzA 64 false [.val none [I z]] .one [I (aN z)]:=by
 refine fO 14 [] Tryz.func64 rfl ?_;by_cases c:1<=z/\z<=8
 ·repeat'(first|refine gE ?_|(conv=>whnf);first|with_reducible refine Bf.D (λa=>?_) (λa=>?_)|refine C9 (aO z 1 8) ?_)
  (conv=>whnf)
  refine CJ (ι:=Nat) (λk=>[(0,.H .one [I (z)]),(3,.H .one [I ((k:Nat):Int)])]) (λk=>k<=3/\(k=0\/csz ((k - 1:Nat):Int)<z)) (λk=>4 - k) (0) ?_ ω λk b=>?_
  ·exact wB
  obtain⟨b,d⟩:=b
  repeat'(first|refine gP ?_|(conv=>whnf);first|with_reducible refine Bf.D (λa=>?_) (λa=>?_)|refine C9 (fQ _) ?_)
  all_goals first
   | exact Z0 (λz=>[I z]) (xY b c.1 d (by assumption)).symm
   | ((conv=>whnf);refine CF (k+1) ⟨by have:=Dy b (by assumption) c.2;omega,.inr (by simpa using (by assumption:csz (k:Nat)<z))⟩ (by have:=Dy b (by assumption) c.2;omega) ?_;(exact wB))
 repeat'(first|refine gE ?_|(conv=>whnf);first|with_reducible refine Bf.D (λa=>?_) (λa=>?_)|refine C9 (aO z 1 8) ?_)
 all_goals exact Z0 (λz=>[I z]) (by unfold aN;(repeat' split)<;>omega)
theorem sU(q:bO)(a:Int)(d:bO.sml q):zzA 359 false [.val (some 2) (bO.enc .V q),.val none [I a]] .one [B (q.a6.any (eX a))]:=by
 have j:q.a6.length<=1048576:=d.1;refine fO 21 [] Tryz.func359 rfl ?_
 repeat'(first|refine gP ?_|fail)
 (conv=>whnf)
 refine CJ (ι:=Nat) (λi=>[(1,.H .one [I (a)]),(2,.H .box (bO.enc .V q)),(5,.H .one [I ((i:Nat):Int)])]) (λi=>i<=q.a6.length/\(q.a6.take i).any (eX a)=false) (λi=>q.a6.length - i) (0) ?_ ψ λi c=>?_
 ·exact wB
 obtain⟨c,e⟩:=c;by_cases g:i<q.a6.length
 ·have b:=au g
  repeat'(first|refine gE ?_|(conv=>whnf);first|with_reducible (first|refine CE (aa b) ?_|refine Bf.E (λh=>?_) (λh=>?_)))
  all_goals first
   | exact Z0 (λz=>[B z]) ((Ea b (O0 (by assumption))).symm)
   | ((conv=>whnf);refine CF (i+1) ⟨ω,xu b e (W0 (by assumption))⟩ ω ?_;(exact wB))
 repeat'(first|refine gE ?_|fail)
 exact Z0 (λz=>[B z]) ψ
def iX(xs:List aV)(i:Nat):quarCells xs (i+1)=quarCells xs i+csz (nth xs i).d:=rfl
theorem P6(k:Int):0<=csz k/\csz k<=8:=by grind [cg,csz]
theorem vY(xs:List aV)(c:lH xs):zzA 360 false [.val none (cY .V xs)] .one [I (quarCells xs xs.length)]:=by
 have g:=c.1;refine fO 20 [] Tryz.func360 rfl ?_
 repeat'(first|refine gP ?_|fail)
 (conv=>whnf)
 refine CJ (ι:=Nat) (λi=>[(0,.H .one (cY .V xs)),(3,.H .one [I (quarCells xs i)]),(4,.H .one [I ((i:Nat):Int)])]) (λi=>i<=xs.length/\0<=quarCells xs i/\quarCells xs i<=8*i) (λi=>xs.length - i) (0) ?_ (⟨X0 _,by simp[quarCells],by simp[quarCells]⟩) λi b=>?_
 ·exact wB
 obtain⟨b,h,j⟩:=b;by_cases d:i<xs.length
 ·have e:=au d
  have k:=P6 (nth xs i).d;have a:=iX xs i
  repeat'(first|refine gE ?_|(conv=>whnf);first|with_reducible refine CE (aa e) ?_|refine C9 (eC _) ?_)
  ((conv=>whnf);refine CF (i+1) ω ω ?_)
  rw[a];exact wB
 repeat'(first|refine gE ?_|fail)
 grind
theorem xM(xs:List aV)(c:lH xs):zzA 231 false [.val none (cY .V xs)] .one [I (quarCells xs xs.length)]:=by
 have g:=c.1;refine fO 19 [] Tryz.func231 rfl ?_
 repeat'(first|refine gP ?_|fail)
 (conv=>whnf)
 refine CJ (ι:=Nat) (λi=>[(3,.H .one [I (quarCells xs i)]),(6,.H .one (cY .V xs)),(7,.H .one [I (xs.length)]),(8,.H .one [I ((i:Nat):Int)])]) (λi=>i<=xs.length/\0<=quarCells xs i/\quarCells xs i<=8*i) (λi=>xs.length - i) (0) ?_ (⟨X0 _,by simp[quarCells],by simp[quarCells]⟩) λi b=>?_
 ·exact wB
 obtain⟨b,h,j⟩:=b;by_cases d:i<xs.length
 ·have e:=au d
  have k:=P6 (nth xs i).d;have a:=iX xs i
  repeat'(first|refine gE ?_|(conv=>whnf);first|with_reducible refine CE (aa e) ?_|refine C9 (fQ _) ?_)
  ((conv=>whnf);refine CF (i+1) ω ω ?_)
  rw[a];exact wB
 repeat'(first|refine gE ?_|fail)
 grind
def AQ(a:aV):zzA 358 false [.val (some 3) (aV.enc .V a)] .one [B (decide (0<=a.d/\a.d<=3/\0<=a.Addr/\0<=a.b7))]:=by
 refine fO 16 [] Tryz.func358 rfl ?_
 repeat'(first|refine gP ?_|(conv=>whnf);first|with_reducible refine Bf.D (λb=>?_) (λb=>?_)|refine C9 (aK _ 0 3) ?_)
 all_goals exact Z0 (λz=>[B z]) ((by first|(symm;exact W0 ω)|exact decide_eq_decide.2 ω))
variable{xs:List aV}
theorem Pd(a:lH xs)(i:Nat):lH (xs.take i):=⟨by have:=a.1;grind,λ_ _=>trivial⟩
def pA(q:bO)(a:bO.sml q):zzA 213 false [.val (some 2) (bO.enc .V q)] .one [B (gi q)]:=by
 have l:q.a6.length<=1048576:=a.1;refine fO 57 [(5,29,[17,18,19,20,21,22,23,24,25,26,27,28,29,30,31,32,33,34,35,36,37,38,39,40,41,42,43,44,45]),(7,11,[46,47,48,49,50,51,52,53,54,55,56])] Tryz.func213 rfl ?_
 repeat'(first|refine gP ?_|fail)
 (conv=>whnf)
 refine CJ (ι:=Nat) (λi=>[(1,.H .box (bO.enc .V q)),(3,.H .one [I ((i:Nat):Int)])]) (λi=>i<=q.a6.length/\dh i (lg q.a6)=true) (λi=>q.a6.length - i) 0 ?_ ⟨X0 _,rfl⟩ λi e=>?_
 ·exact wB
 obtain⟨e,g⟩:=e;by_cases b:i<q.a6.length
 ·have j:=au b
  have h:=sU ⟨0,q.a6.take i⟩ (nth q.a6 i).Addr (Pd a i);cases c:(q.a6.take i).any (eX (nth q.a6 i).Addr)<;>rw[show(bO.mk 0 (q.a6.take i)).a6.any (eX (nth q.a6 i).Addr)=_ from c]at h
  all_goals
   repeat'(first|refine gE ?_|(conv=>whnf);first|with_reducible (first|refine CE (aa j) ?_|refine Bf.D (λd=>?_) (λd=>?_))|refine C9 (AQ _) ?_|refine CO ω (aa (gC ω b)) ?_|refine CZ i rfl (by simp;omega) (λr k=>by obtain⟨z,-,rfl⟩:=Y4.1 k;rfl) (W4 ..) ?_|refine C9 h ?_)
   all_goals first
    | exact Z0 (λz=>[B z]) ((by symm;unfold gi;rw[cG b (by unfold lg;first|(rw[c];simp;done)|(rw[W0 ω];rfl))];rfl))
    | ((conv=>whnf);refine CF (i+1) ⟨ω,bW g (by unfold lg;rw[c,O0 ω];rfl)⟩ ω ?_;(exact wB))
 obtain rfl:i=q.a6.length:=ω
 repeat'(first|refine gE ?_|(conv=>whnf);first|with_reducible refine Bf.D (λd=>?_) (λd=>?_)|refine C9 (aK _ 0 500) ?_|refine C9 (vY q.a6 a) ?_)
 all_goals exact Z0 (λz=>[B z]) ((by unfold gi;rw[g];simp only[Bool.true_and];first|(symm;exact W0 ω)|exact decide_eq_decide.2 ω))
theorem v8(b:aV)(a:Int):zzA 489 false [.val (some 3) (aV.enc .V b),.ptr [I a]] .one [B (eX a b)]:=by
 refine fO 8 [] Tryz.func489 rfl ?_
 repeat'(first|refine gP ?_|fail)
 grind [eX]
def Av(xs:List aV)(a:Int)(b:xs.length<=9223372036854775807):zzA 378 false [.val none (cY .V xs),.val none [I a]] .one [B (xs.any (eX a))]:=by
 refine fO 8 [] Tryz.func378 rfl ?_
 repeat'(first|refine gP ?_|(conv=>whnf);first|refine Cq.mk (Ho (some 3) (aV.enc .V) (eX a) xs) (v8 default a).has (λL k rcs c=>?_) ?_|refine C9 (si xs (eX a) b) ?_)
 ·obtain⟨y,-,rfl,rfl,rfl⟩:=c
  exact v8 y a
 rfl
def qD(xs:List aV)(a:aV):Bool:=decide (0<=a.d/\a.d<=3/\0<=a.Addr/\0<=a.b7/\(xs.length=0\/(nth xs (xs.length - 1)).b7<=a.b7))&&!xs.any (eX a.Addr)
theorem E6(xs:List aV)(b:aV)(g:xs.length<=1048576):zzA 230 false [.val none (cY .V xs),.val (some 3) (aV.enc .V b)] .one [B (qD xs b)]:=by
 have c:=Av xs b.Addr ω;cases d:xs.any (eX b.Addr)<;>rw[d]at c
 ·by_cases h:xs.length=0
  ·refine fO 40 [(3,15,[25,26,27,28,29,30,31,32,33,34,35,36,37,38,39])] Tryz.func230 rfl ?_
   repeat'(first|refine gP ?_|(conv=>whnf);first|with_reducible (first|refine Bf.D (λa=>?_) (λa=>?_)|refine Bf.E (λa=>?_) (λa=>?_))|refine C9 (fF _) ?_|refine C9 c ?_)
   all_goals first
    | exact Z0 (λz=>[B z]) ((by unfold qD;rw[d,Bool.not_false,Bool.and_true];first|(symm;exact W0 ω)|(symm;exact O0 ω)|exact decide_eq_decide.2 ω))
    |(exfalso;omega)
    |trace_state
  have e:xs[((xs.length:Int) - 1).toNat]? = some (nth xs (xs.length - 1)):=by rw[show((xs.length:Int) - 1).toNat=xs.length - 1 by omega];grind [au]
  refine fO 40 [(3,15,[25,26,27,28,29,30,31,32,33,34,35,36,37,38,39])] Tryz.func230 rfl ?_
  repeat'(first|refine gP ?_|(conv=>whnf);first|with_reducible (first|refine Bf.D (λa=>?_) (λa=>?_)|refine Bf.E (λa=>?_) (λa=>?_))|refine C9 (fF _) ?_|refine C9 c ?_|refine CO ω (aa e) ?_)
  all_goals first
   | exact Z0 (λz=>[B z]) ((by unfold qD;rw[d,Bool.not_false,Bool.and_true];first|(symm;exact W0 ω)|(symm;exact O0 ω)|exact decide_eq_decide.2 ω))
   |(exfalso;omega)
   |trace_state
 refine fO 40 [(3,15,[25,26,27,28,29,30,31,32,33,34,35,36,37,38,39])] Tryz.func230 rfl ?_
 repeat'(first|refine gP ?_|(conv=>whnf);first|with_reducible refine Bf.D (λa=>?_) (λa=>?_)|refine C9 (fF _) ?_|refine C9 c ?_)
 all_goals exact Z0 (λz=>[B z]) ((by unfold qD;rw[d];simp))
theorem HN(d:i<xs.length):qD (xs.take i) (nth xs i)=lg xs i:=by
 unfold qD lg;have a:(xs.take i).length=i:=ψ
 rw[a]
 congr 1
 refine decide_eq_decide.2 ?_;by_cases b:i=0
 ·subst b;simp
 have c:nth (xs.take i) (i - 1)=nth xs (i - 1):=by
  have:=au (xs:=xs) (i:=i - 1) ω
  grind [bn]
 rw[c]
theorem GV(q:bO)(d:bO.sml q):zzA 79 false [.val (some 2) (bO.enc .V q)] .one [B (gi q)]:=by
 have l:q.a6.length<=1048576:=d.1;refine fO 32 [(4,7,[13,14,15,16,17,18,19]),(7,11,[21,22,23,24,25,26,27,28,29,30,31])] Tryz.func79 rfl ?_
 repeat'(first|refine gP ?_|fail)
 (conv=>whnf)
 refine CJ (ι:=Nat) (λi=>[(1,.H .box (bO.enc .V q)),(6,.H .one (cY .V q.a6)),(7,.H .one [I (q.a6.length)]),(8,.H .one [I ((i:Nat):Int)])]) (λi=>i<=q.a6.length/\dh i (lg q.a6)=true) (λi=>q.a6.length - i) 0 ?_ ⟨X0 _,rfl⟩ λi e=>?_
 ·exact wB
 obtain⟨e,g⟩:=e;by_cases a:i<q.a6.length
 ·have h:=au a
  have b:=E6 (q.a6.take i) (nth q.a6 i) ψ;rw[HN a]at b;cases c:lg q.a6 i<;>rw[c]at b
  all_goals
   repeat'(first|refine gE ?_|(conv=>whnf);first|with_reducible refine CE (aa h) ?_|refine CZ i rfl (by simp;omega) (λr j=>by obtain⟨z,-,rfl⟩:=Y4.1 j;rfl) (W4 ..) ?_|refine C9 b ?_)
   all_goals first
    | exact Z0 (λz=>[B z]) ((by symm;unfold gi;rw[cG a c];rfl))
    | ((conv=>whnf);refine CF (i+1) ⟨ω,bW g c⟩ ω ?_;(exact wB))
 obtain rfl:i=q.a6.length:=ω
 repeat'(first|refine gE ?_|(conv=>whnf);first|with_reducible refine Bf.D (λk=>?_) (λk=>?_)|refine C9 (aO _ 0 500) ?_|refine C9 (xM q.a6 d) ?_)
 all_goals exact Z0 (λz=>[B z]) ((by unfold gi;rw[g];simp only[Bool.true_and];first|(symm;exact W0 ω)|exact decide_eq_decide.2 ω))
def lL(a:List Bool):Nat->Int
 | 0=>0
 | i+1=>lL a i+(if nth a i then 1 else 0)
def gg(f:aU):Int:=if db f then lL f.a1 f.a1.length else 0
def MB{a:List Bool}(h:nth a i=true):lL a (i+1)=lL a i+1:=by show lL a i+(if nth a i then 1 else 0)=_;rw[h];rfl
def Fj{a:List Bool}(h:nth a i=false):lL a (i+1)=lL a i:=by show lL a i+(if nth a i then 1 else 0)=_;rw[h];simp
theorem wn(f:aU)(g:aU.sml f):zzA 25 false [.val (some 2) (aU.enc .V f)] .one [I (gg f)]:=by
 have l:f.a1.length<=1048576:=g.2;have b:=rc f g;cases h:db f<;>rw[h]at b
 ·refine fO 24 [] Tryz.func25 rfl ?_
  repeat'(first|refine gP ?_|fail)
  (conv=>whnf)
  refine CJ (ι:=Nat) (λi=>[(1,.H .box (aU.enc .V f)),(3,.H .one [I ((0:Int))]),(4,.H .one [I ((i:Nat):Int)])]) (λi=>i=0) (λi=>i) (0) ?_ (rfl) λi c=>?_
  ·exact wB
  subst c
  repeat'(first|refine gP ?_|(conv=>whnf);first|with_reducible refine Bf.D (λj=>?_) (λj=>?_)|refine C9 b ?_)
  all_goals grind [gg]
 refine fO 24 [] Tryz.func25 rfl ?_
 repeat'(first|refine gP ?_|fail)
 (conv=>whnf)
 refine CJ (ι:=Nat) (λi=>[(1,.H .box (aU.enc .V f)),(3,.H .one [I (lL f.a1 i)]),(4,.H .one [I ((i:Nat):Int)])]) (λi=>i<=f.a1.length/\0<=lL f.a1 i/\lL f.a1 i<=i) (λi=>f.a1.length - i) (0) ?_ (⟨X0 _,by simp[lL],by simp[lL]⟩) λi c=>?_
 ·exact wB
 obtain⟨c,n,o⟩:=c;by_cases k:i<f.a1.length
 ·have d:=au k
  cases e:nth f.a1 i<;>rw[e]at d
  ·have a:=Fj e
   repeat'(first|refine gE ?_|(conv=>whnf);first|with_reducible refine CE (aa d) ?_|refine C9 b ?_)
   ((conv=>whnf);refine CF (i+1) ω ω ?_)
   rw[a];exact wB
  have a:=MB e
  repeat'(first|refine gE ?_|(conv=>whnf);first|with_reducible refine CE (aa d) ?_|refine C9 b ?_)
  ((conv=>whnf);refine CF (i+1) ω ω ?_)
  rw[a];exact wB
 obtain rfl:i=f.a1.length:=ω
 repeat'(first|refine gE ?_|(conv=>whnf);first|refine C9 b ?_)
 grind [gg]
def zo(h:ac):Prop:=aJ.sml h.G.F.Q
def i7(h:ac)(p:Int)(a:zo h):zzA 355 false [.val (some 24) (ac.enc .V h),.val none [I p]] .one (aH .own (aW h p)):=by
 refine fO 23 [] Tryz.func355 rfl ?_ (.inr (bT _))
 repeat'((conv=>whnf);first|with_reducible (first|refine Lm ?_|refine Wm ω ?_|refine Bf.E (λb=>?_) (λb=>?_)|refine Bn ?_|refine jt.wk rfl ?_)|refine Bt ?_|refine Bu ?_|refine C9 (dq h.G.F.Q p a) ?_|refine C9 (gX h.G.F.Q _ a) ?_)
 all_goals(unfold aW;first|rw[CD (by assumption)]|rw[CB (by assumption)])
 all_goals exact⟨rfl,trivial⟩
def oT(h:ac)(p:Int)(a:zo h):zzA 227 false [.val (some 24) (ac.enc .V h),.val none [I p]] .one (aH .own (aW h p)):=by
 refine fO 22 [] Tryz.func227 rfl ?_ (.inr (bT _))
 repeat'((conv=>whnf);first|with_reducible (first|refine Lm ?_|refine Wm ω ?_|refine Bf.E (λb=>?_) (λb=>?_)|refine Bn ?_|refine jt.wk rfl ?_)|refine Bt ?_|refine Bu ?_|refine C9 (ma h.G.F.Q p a) ?_|refine C9 (lh h.G.F.Q _ a) ?_)
 all_goals(unfold aW;first|rw[CD (by assumption)]|rw[CB (by assumption)])
 all_goals exact⟨rfl,trivial⟩
theorem pp(k:ah)(p:Int)(a:aJ.sml k.F.Q):zzA 127 false [.val (some 5) (ah.enc .V k),.val none [I p]] .one [B (decide ((af k.F.Q p).e≠0))]:=by
 refine fO 12 [] Tryz.func127 rfl ?_
 repeat'(first|refine gP ?_|(conv=>whnf);first|refine C9 (ma k.F.Q p a) ?_)
 grind
def pN(z:Int):zzA 83 false [.val none [I z]] .one [B (decide (0<=z/\z<=1073741823))]:=by
 refine fO 5 [] Tryz.func83 rfl ?_
 repeat'(first|refine gP ?_|(conv=>whnf);first|refine C9 (aO z 0 1073741823) ?_)
 rfl
theorem kq(h:ac)(p:Int)(g:h.K.length<=1048576):zzA 219 false [.val (some 24) (ac.enc .V h),.val none [I p]] .one [I (gQ h p)]:=by
 refine fO 22 [] Tryz.func219 rfl ?_
 repeat'(first|refine gP ?_|fail)
 (conv=>whnf)
 refine CJ (ι:=Nat) (λi=>[(1,.H .one [I (p)]),(2,.H .box (ac.enc .V h)),(5,.H .one [I ((i:Nat):Int)])]) (λi=>i<=h.K.length/\∀(j:Nat)(z:aA),j<i->h.K[j]? = some z->mU p z=false) (λi=>h.K.length - i) (0) ?_ ψ λi c=>?_
 ·exact wB
 obtain⟨c,a⟩:=c;by_cases d:i<h.K.length
 ·have b:=au d
  repeat'(first|refine gE ?_|(conv=>whnf);first|with_reducible (first|refine CE (aa b) ?_|refine Bf.E (λe=>?_) (λe=>?_)))
  all_goals first
   | exact Z0 (λz=>[I z]) (dQ b (O0 (by assumption)) a).symm
   | ((conv=>whnf);refine CF (i+1) ⟨ω,eg b (W0 (by assumption)) a⟩ ω ?_;(exact wB))
 repeat'(first|refine gE ?_|fail)
 exact Z0 (λz=>[I z]) (gq ω a).symm
theorem Bv(s:aA)(p:Int):zzA 241 false [.val (some 3) (aA.enc .V s),.ptr [I p]] .one [B (mU p s)]:=by
 refine fO 8 [] Tryz.func241 rfl ?_
 repeat'(first|refine gP ?_|fail)
 grind [mU]
def we(h:ac)(p:Int)(b:h.K.length<=1048576):zzA 85 false [.val (some 24) (ac.enc .V h),.val none [I p]] .one [I (gQ h p)]:=by
 refine fO 9 [] Tryz.func85 rfl ?_
 repeat'(first|refine gP ?_|(conv=>whnf);first|refine Cq.mk (Ho (some 3) (aA.enc .V) (mU p) h.K) (Bv default p).has (λL k rcs a=>?_) ?_|refine C9 (yM h.K (mU p) ω) ?_)
 ·obtain⟨y,-,rfl,rfl,rfl⟩:=a
  exact Bv y p
 rfl
def flight1(m:aP)(i:Nat):List Int:=(m.U.take i).flatMap λl=>l.map (·.Addr)
def flight2(m:aP)(i:Nat):List Int:=(m.a0.take i).flatten
theorem oK{l:List dx}(h:m.U[i]? = some l):flight1 m (i+1)=flight1 m i++l.map (·.Addr):=by grind [I6,flight1]
theorem oe(h:m.a0[i]? = some l):flight2 m (i+1)=flight2 m i++l:=by grind [I6,flight2]
theorem pE(h:bQ m=true):aR m=flight1 m m.U.length++flight2 m m.a0.length:=by grind [aR,flight1,flight2]
theorem vI(h:bQ m=false):aR m=[]:=by grind [aR]
theorem nI(h:bQ m=true):1<=m.U.length/\m.U.length<=4/\m.a0.length=m.U.length:=by grind [bQ]
def EY : ∀r∈l.map (rI .V),r.length=1:=by
 intro r a;obtain⟨z,-,rfl⟩:=Y4.1 a;rfl
def Kt : ∀r∈l.map (rI .V),bk r=true:=by
 intro r a;obtain⟨z,-,rfl⟩:=Y4.1 a;rfl
theorem zX(m:aP)(g:aP.sml m):zzA 35 false [.val (some 2) (aP.enc .V m)] .one (aH .own (aR m)):=by
 have h:=ml m g;cases d:bQ m<;>rw[d]at h
 ·refine fO 56 [] Tryz.func35 rfl ?_ (.inr (bT _))
  repeat'((conv=>whnf);first|with_reducible (first|refine Lm ?_|refine Wm ω ?_|refine Bn ?_|refine jt.wk rfl ?_)|refine Bt ?_|refine Bu ?_|refine C9 h ?_)
  all_goals(rw[vI d];exact⟨rfl,trivial⟩)
 obtain⟨D,E,F⟩:=nI d;refine fO 56 [] Tryz.func35 rfl ?_ (.inr (bT _))
 repeat'(first|refine gP ?_|(conv=>whnf);first|refine C9 h ?_)
 (conv=>whnf)
 refine CJ (ι:=Nat × List Int) (λi=>[(1,.H .box (aP.enc .V m)),(3,.H .one (aH .own i.2)),(4,.H .one [I ((i.1:Nat):Int)])]) (λi=>i.1<=m.U.length/\i.2=flight1 m i.1/\i.2.length<=1048576*i.1) (λi=>m.U.length - i.1) ((0,[])) ?_ (⟨X0 _,rfl,X0 _⟩) λi j=>?_
 ·exact wB
 obtain⟨i,S⟩:=i;obtain⟨j,p,t⟩:=j;simp only at j p t |-;by_cases q:i<m.U.length
 ·have l:=au q
  have u:(nth m.U i).length<=1048576:=(g.1.2 _ (ar q)).1
  repeat'(first|refine gE ?_|(conv=>whnf);first|with_reducible refine CE (aa l) ?_)
  (conv=>whnf)
  refine CJ (ι:=Nat × List Int) (λk=>[(1,.H .box (aP.enc .V m)),(3,.H .one (aH .own k.2)),(4,.H .one [I ((i:Nat):Int)]),(5,.H .one [I ((k.1:Nat):Int)])]) (λk=>k.1<=(nth m.U i).length/\k.2=S++((nth m.U i).take k.1).map (·.Addr)) (λk=>(nth m.U i).length - k.1) ((0,S)) ?_ ψ λk b=>?_
  ·exact wB
  obtain⟨k,c⟩:=k;obtain⟨b,a⟩:=b;simp only at b a |-;have w:c.length=S.length+k:=ψ
  by_cases e:k<(nth m.U i).length
  ·have n:=au e
   repeat'(first|refine gE ?_|(conv=>whnf);first|with_reducible (first|refine CE (aa l) ?_|refine CE (aa n) ?_)|refine CU cS (λr y=>by rw[V1.1 y];rfl) (by simp[bk,eD]) (by simp;omega) (by show _*8<=_;simp;omega) rfl ?_)
   ((conv=>whnf)
    refine CF (k+1,c++[(nth (nth m.U i) k).Addr]) ⟨(by simp only;omega),(by grind [I6])⟩ (by simp only;omega) ?_
    (repeat'(first|exact trivial|rfl|exact CM rfl (CM (Z0 (C.s dY.own) (by simp[rI])) trivial)|refine CM ?_ ?_)))
  obtain rfl:k=(nth m.U i).length:=ω
  rw[X5]at a
  repeat'(first|refine gE ?_|(conv=>whnf);first|with_reducible refine CE (aa l) ?_)
  ((conv=>whnf);refine CF (i+1,c) ⟨(by simp only;omega),(by grind [oK]),(by simp only;omega)⟩ (by simp only;omega) ?_;(exact wB))
 obtain rfl:i=m.U.length:=ω
 repeat'(first|refine gE ?_|fail)
 (conv=>whnf)
 refine CJ (ι:=Nat × List Int) (λk=>[(1,.H .box (aP.enc .V m)),(3,.H .one (aH .own k.2)),(6,.H .one [I ((k.1:Nat):Int)])]) (λk=>k.1<=m.a0.length/\k.2=S++flight2 m k.1/\k.2.length<=S.length+1048576*k.1) (λk=>m.a0.length - k.1) ((0,S)) ?_ (⟨X0 _,by simp[flight2],by simp⟩) λk b=>?_
 ·exact wB
 obtain⟨k,c⟩:=k;obtain⟨b,a,o⟩:=b;simp only at b a o |-;by_cases e:k<m.a0.length
 ·have n:=au e
  have B:(nth m.a0 k).length<=1048576:=g.2.2 _ (ar e)
  repeat'(first|refine gE ?_|(conv=>whnf);first|with_reducible refine CE (aa n) ?_|refine CU cS EY (λ_=>Kt) (by simp;omega) (by show _*8<=_;simp;omega) rfl ?_)
  ((conv=>whnf)
   refine CF (k+1,c++nth m.a0 k) ⟨(by simp only;omega),(by grind [oe]),ψ⟩ (by simp only;omega) ?_
   (repeat'(first|exact trivial|rfl|exact CM rfl (CM (Z0 (C.s dY.own) (by simp[rI])) trivial)|refine CM ?_ ?_)))
 obtain rfl:k=m.a0.length:=ω
 repeat'(first|refine gE ?_|fail)
 rw[pE d,<-p,<-a];rfl
theorem Ay(m:aP)(g:aP.sml m):zzA 237 false [.val (some 2) (aP.enc .V m)] .one (aH .own (aR m)):=by
 have h:=wc m g;cases d:bQ m<;>rw[d]at h
 ·refine fO 46 [] Tryz.func237 rfl ?_ (.inr (bT _))
  repeat'((conv=>whnf);first|with_reducible (first|refine Lm ?_|refine Wm ω ?_|refine Bn ?_|refine jt.wk rfl ?_)|refine Bt ?_|refine Bu ?_|refine C9 h ?_)
  all_goals(rw[vI d];exact⟨rfl,trivial⟩)
 obtain⟨D,E,F⟩:=nI d;refine fO 46 [] Tryz.func237 rfl ?_ (.inr (bT _))
 repeat'(first|refine gP ?_|(conv=>whnf);first|refine C9 h ?_)
 (conv=>whnf)
 refine CJ (ι:=Nat × List Int) (λi=>[(1,.H .box (aP.enc .V m)),(3,.H .one (aH .own i.2)),(15,.H .one (x8 .V m.U)),(16,.H .one [I (m.U.length)]),(17,.H .one [I ((i.1:Nat):Int)])]) (λi=>i.1<=m.U.length/\i.2=flight1 m i.1/\i.2.length<=1048576*i.1) (λi=>m.U.length - i.1) ((0,[])) ?_ (⟨X0 _,rfl,X0 _⟩) λi j=>?_
 ·exact wB
 obtain⟨i,S⟩:=i;obtain⟨j,o,q⟩:=j;simp only at j o q |-;by_cases p:i<m.U.length
 ·have t:=au p
  have u:(nth m.U i).length<=1048576:=(g.1.2 _ (ar p)).1
  repeat'(first|refine gE ?_|(conv=>whnf);first|with_reducible refine CE (aa t) ?_)
  (conv=>whnf)
  refine CJ (ι:=Nat × List Int) (λk=>[(1,.H .box (aP.enc .V m)),(3,.H .one (aH .own k.2)),(15,.H .one (x8 .V m.U)),(16,.H .one [I (m.U.length)]),(17,.H .one [I ((i:Nat):Int)]),(21,.H .one (cL .V (nth m.U i))),(22,.H .one [I ((nth m.U i).length)]),(23,.H .one [I ((k.1:Nat):Int)])]) (λk=>k.1<=(nth m.U i).length/\k.2=S++((nth m.U i).take k.1).map (·.Addr)) (λk=>(nth m.U i).length - k.1) ((0,S)) ?_ ψ λk b=>?_
  ·exact wB
  obtain⟨k,c⟩:=k;obtain⟨b,a⟩:=b;simp only at b a |-;have w:c.length=S.length+k:=ψ
  by_cases e:k<(nth m.U i).length
  ·have l:=au e
   repeat'(first|refine gE ?_|(conv=>whnf);first|with_reducible refine CE (aa l) ?_|refine CU cS (λr y=>by rw[V1.1 y];rfl) (by simp[bk,eD]) (by simp;omega) (by show _*8<=_;simp;omega) rfl ?_)
   ((conv=>whnf)
    refine CF (k+1,c++[(nth (nth m.U i) k).Addr]) ⟨(by simp only;omega),(by grind [I6])⟩ (by simp only;omega) ?_
    (repeat'(first|exact trivial|rfl|exact CM rfl (CM (Z0 (C.s dY.own) (by simp[rI])) trivial)|refine CM ?_ ?_)))
  obtain rfl:k=(nth m.U i).length:=ω
  rw[X5]at a
  repeat'(first|refine gE ?_|fail)
  ((conv=>whnf);refine CF (i+1,c) ⟨(by simp only;omega),(by grind [oK]),(by simp only;omega)⟩ (by simp only;omega) ?_;(exact wB))
 obtain rfl:i=m.U.length:=ω
 repeat'(first|refine gE ?_|fail)
 (conv=>whnf)
 refine CJ (ι:=Nat × List Int) (λk=>[(3,.H .one (aH .own k.2)),(35,.H .one (jF .V m.a0)),(36,.H .one [I (m.a0.length)]),(37,.H .one [I ((k.1:Nat):Int)])]) (λk=>k.1<=m.a0.length/\k.2=S++flight2 m k.1/\k.2.length<=S.length+1048576*k.1) (λk=>m.a0.length - k.1) ((0,S)) ?_ (⟨X0 _,by simp[flight2],by simp⟩) λk b=>?_
 ·exact wB
 obtain⟨k,c⟩:=k;obtain⟨b,a,n⟩:=b;simp only at b a n |-;by_cases e:k<m.a0.length
 ·have l:=au e
  have B:(nth m.a0 k).length<=1048576:=g.2.2 _ (ar e)
  repeat'(first|refine gE ?_|(conv=>whnf);first|with_reducible refine CE (aa l) ?_|refine CU cS EY (λ_=>Kt) (by simp;omega) (by show _*8<=_;simp;omega) rfl ?_)
  ((conv=>whnf)
   refine CF (k+1,c++nth m.a0 k) ⟨(by simp only;omega),(by grind [oe]),ψ⟩ (by simp only;omega) ?_
   (repeat'(first|exact trivial|rfl|exact CM rfl (CM (Z0 (C.s dY.own) (by simp[rI])) trivial)|refine CM ?_ ?_)))
 obtain rfl:k=m.a0.length:=ω
 repeat'(first|refine gE ?_|fail)
 rw[pE d,<-o,<-a];rfl
def tbl(h:ac):aJ:=h.G.F.Q
def eU(h:ac):Nat:=h.G.F.Q.J.length
def y5(xs:List aA)(i:Nat):Bool:=decide (i=0\/(nth xs (i - 1)).R<(nth xs i).R)
def yz(xs:List aF)(i:Nat):Bool:=decide (i=0\/(nth xs (i - 1)).R<(nth xs i).R)
def xS(h:ac)(l:aF)(k:Nat):Bool:=decide ((aW h (l.R+(k:Nat))).length=1)
def sX(h:ac)(i:Nat):Bool:=yz h.M i&&dh (nth h.M i).a3.toNat (xS h (nth h.M i))
def ww(h:ac)(p:Nat):Bool:=decide ((nth (tbl h).J p).e≠0↔(p:Int)∈pgs h.K h.M)&&(decide ((nth (tbl h).J p).e≠0) != h.j.any (wj (p:Nat)))
def pages0(h:ac):Bool:=((dh h.K.length (y5 h.K)&&dh h.M.length (sX h))&&(pgs h.K h.M).all λp=>decide (p<eU h))&&dh (eU h) (ww h)
def mH(h:ac)(i:Nat)(q:Int):Bool:=decide (gQ h q=(i:Nat)) || (decide (0<=gQ h q)&&meshable (nth h.K i) (nth h.K (gQ h q).toNat))
def tD(h:ac):Bool:=dh h.K.length λi=>(aW h (nth h.K i).R).all (mH h i)
def mL(h:ac)(i j:Nat):Bool:=decide ((af (tbl h) (nth h.K i).R).o≠(af (tbl h) (nth h.K j).R).o) || meshable (nth h.K i) (nth h.K j)
def pW(h:ac):Bool:=dh h.K.length λi=>dh i (mL h i)
def lO(z:Int)(o:bt):Bool:=decide (o.Id=z)
def kV(h:ac)(o:bt):Bool:=
 let w:=denotes h.K h.M o.Addr
 decide (w.c1=0)&&((decide (w.b6=1)&&decide ((nth h.K w.c0.toNat).d=aN o.q)) || (decide (w.b6=3)&&decide ((nth h.M w.c0.toNat).q=o.q)))
def iy(a:Int)(h:ac)(i:Nat):Bool:=decide ((i=0\/(nth h.O (i - 1)).Addr<(nth h.O i).Addr)/\1<=(nth h.O i).Id/\(nth h.O i).Id<=a/\0<=(nth h.O i).a5/\(nth h.O i).a5<=h.S.length - 1)
def objAt(a:Int)(h:ac)(i:Nat):Bool:=(iy a h i&&!(h.O.take i).any (lO (nth h.O i).Id))&&kV h (nth h.O i)
def gj(h:ac):Bool:=dh h.O.length (objAt (IntKind.i64.wrap (h.b - 1)) h)
def d3(h:ac)(a c:Int):Bool:=
 let w:=denotes h.K h.M a
 (decide (w.b6=1)&&decide (w.c1=0))&&(decide (c<0) || decide ((nth h.K w.c0.toNat).d=c))
def tq(h:ac)(c:aE)(k:Nat):Bool:=(nth c.a k).all λa=>d3 h a (k:Nat)
def fp(h:ac)(c:aE):Bool:=dh c.a.length (tq h c)
def iu(h:ac)(x:aV):Bool:=d3 h x.Addr x.d
def kZ(h:ac)(a:Int):Bool:=d3 h a (-1)
def cJ(h:ac):List Int:=h.S.flatMap λc=>c.a.flatten
def js(h:ac):Bool:=((h.S.all (fp h))&&h.a7.a6.all (iu h))&&(aR h.y).all (kZ h)
def holders(h:ac):List Int:=((h.O.map (·.Addr)++cJ h)++h.a7.a6.map (·.Addr))++aR h.y
def kN(sp:List aA)(la:List aF)(a:Nat):Bool:=
 let w:=denotes sp la (a:Nat)
 decide (w.c1=0)&&(decide (w.b6=1) || decide (w.b6=3))
def m6(sp:List aA)(la:List aF)(n:Nat):List Int:=((List.range n).filter (kN sp la)).map λ(i:Nat)=>(i:Int)
def ku(sp:List aA)(la:List aF):List Int:=m6 sp la 512
def jx(h:ac):Bool:=(js h&&decide (holders h).Nodup)&&decide ((holders h).length=(ku h.K h.M).length)
def mF(h:ac):Bool:=h.a7.a6.all λx=>decide (x.b7<=h.b2)
def cq(h:ac):Bool:=decide (0<=h.b3/\h.b3<=1073741823/\0<=h.b2/\h.b2<=1000000/\0<=h.b1/\h.b1<=1000/\1<=h.b/\h.b<=1000000)
def tF(h:ac):Bool:=if h.u then(kj h.Z&&decide (0<=gQ h h.Z.X.a4))&&decide (0<=gQ h h.Z.X.a2) else tl h.Z
def kM(h:ac):Bool:=((aC h.G&&bG (eU h) h.j)&&bq h.K h.M)&&pages0 h
set_option maxHeartbeats 8000000
theorem eA(h:bq sp la=true):sp.all bi=true/\la.all bR=true/\(pgs sp la).Nodup:=by grind [bq]
def R5[Inhabited α]{xs:List α}{p:α->Bool}(h:xs.all p=true)(a:i<xs.length):p (nth xs i)=true:=O4.1 h _ (ar a)
variable{h:ac}
theorem G8(h1:dh h.K.length (y5 h.K)=false):pages0 h=false:=by grind [pages0]
theorem tP(h1:dh h.M.length (sX h)=false):pages0 h=false:=by grind [pages0]
theorem Hm(h1:p∈pgs h.K h.M)(a:¬p<eU h):pages0 h=false:=by grind [pages0]
theorem G6(h1:dh (eU h) (ww h)=false):pages0 h=false:=by grind [pages0]
theorem xz(h1:dh h.K.length (y5 h.K)=true)(a:dh h.M.length (sX h)=true)(b:∀p∈pgs h.K h.M,p<eU h)(c:dh (eU h) (ww h)=true):pages0 h=true:=by grind [pages0]
theorem N0(h1:yz h.M i=false):sX h i=false:=by grind [sX]
theorem NY(a:k<(nth h.M i).a3.toNat)(h1:xS h (nth h.M i) k=false):sX h i=false:=by grind [cG,sX]
theorem GX(h1:yz h.M i=true)(a:dh (nth h.M i).a3.toNat (xS h (nth h.M i))=true):sX h i=true:=by grind [sX]
def gv(h:ac)(p:Int):(aW h p).length<=eU h:=by
 unfold aW;split
 ·simp
 exact rF ..
theorem vz(h:bq sp la=true){l:aF}(a:la[i]? = some l):1<=l.a3/\l.a3<=63/\0<=l.R/\l.R<=31:=
 aT (O4.1 (eA h).2.1 l ψ)
theorem G4(h:ac)(y:dC h.K)(E:dS h.M)(g:zo h)(F:gT h.j)(l:bq h.K h.M=true):zzA 211 false [.val (some 24) (ac.enc .V h)] .one [B (pages0 h)]:=by
 have Y:=y.1;have Z:=E.1;have hl3:eU h<=1048576:=g.1;have hl4:=F.1;refine fO 144 [(7,18,[28,29,30,31,32,33,34,35,36,37,38,39,40,41,42,43,44,45]),(13,18,[62,63,64,65,66,67,68,69,70,71,72,73,74,75,76,77,78,79])] Tryz.func211 rfl ?_
 repeat'(first|refine gP ?_|fail)
 (conv=>whnf)
 refine CJ (ι:=Nat × List Int) (λi=>[(1,.H .box (ac.enc .V h)),(3,.H .box (aJ.enc .V (tbl h))),(4,.H .one [I (eU h)]),(5,.H .one (aH .own i.2)),(6,.H .one [I ((i.1:Nat):Int)])]) (λi=>i.1<=h.K.length/\i.2=(h.K.take i.1).map (·.R)/\dh i.1 (y5 h.K)=true) (λi=>h.K.length - i.1) ((0,[])) ?_ (⟨X0 _,rfl,rfl⟩) λi G=>?_
 ·exact wB
 obtain⟨i,S⟩:=i;obtain⟨G,H,J⟩:=G;simp only at G H J |-;have hSl:S.length=i:=ψ
 by_cases K:i<h.K.length
 ·have b:=au K
  repeat'(first|refine gE ?_|(conv=>whnf);first|with_reducible (first|refine CE (aa b) ?_|refine Bf.D (λa=>?_) (λa=>?_))|refine CO ω (aa (gC ω K)) ?_|refine CU cS (λr n=>by rw[V1.1 n];rfl) (by simp[bk,eD]) (by simp;omega) (by simp only[I1];exact y4 (by simp;omega) (by decide)) rfl ?_)
  all_goals first
   | exact Z0 (λz=>[B z]) ((G8 (cG K (W0 ω))).symm)
   | ((conv=>whnf)
      refine CF (i+1,S++[(nth h.K i).R]) ⟨(by simp only;omega),(by simp only;rw[H,I6,b];simp),bW J (O0 ω)⟩ (by simp only;omega) ?_
      (repeat'(first|exact trivial|rfl|exact CM rfl (CM (Z0 (C.s dY.own) (by simp[rI])) trivial)|refine CM ?_ ?_)))
 obtain rfl:i=h.K.length:=ω
 rw[X5]at H
 repeat'(first|refine gE ?_|fail)
 (conv=>whnf)
 refine CJ (ι:=Nat × List Int) (λk=>[(1,.H .box (ac.enc .V h)),(3,.H .box (aJ.enc .V (tbl h))),(4,.H .one [I (eU h)]),(5,.H .one (aH .own k.2)),(7,.H .one [I ((k.1:Nat):Int)])]) (λk=>k.1<=h.M.length/\k.2=pgs h.K (h.M.take k.1)/\dh k.1 (sX h)=true/\k.2.length<=1048576+64*k.1) (λk=>h.M.length - k.1) ((0,S)) ?_ (⟨X0 _,by grind [pgs],rfl,by simp only;omega⟩) λk L=>?_
 ·exact wB
 obtain⟨k,S2⟩:=k;obtain⟨L,c,M,O⟩:=L;simp only at L c M O |-;by_cases u:k<h.M.length
 ·have b:=au u
  have hpg:=vz l b
  repeat'(first|refine gE ?_|(conv=>whnf);first|with_reducible (first|refine CE (aa b) ?_|refine Bf.D (λa=>?_) (λa=>?_))|refine CO ω (aa (gC ω u)) ?_)
  all_goals first
   | exact Z0 (λz=>[B z]) ((tP (cG u (N0 (W0 ω)))).symm)
   |have e:yz h.M k=true:=O0 ω
    (conv=>whnf)
    refine CJ (ι:=Nat × List Int) (λq=>[(1,.H .box (ac.enc .V h)),(3,.H .box (aJ.enc .V (tbl h))),(4,.H .one [I (eU h)]),(5,.H .one (aH .own q.2)),(7,.H .one [I ((k:Nat):Int)]),(8,.H .one [I ((q.1:Nat):Int)])]) (λq=>q.1<=(nth h.M k).a3.toNat/\q.2=S2++lpgs (nth h.M k) q.1/\dh q.1 (xS h (nth h.M k))=true) (λq=>(nth h.M k).a3.toNat - q.1) ((0,S2)) ?_ (⟨X0 _,by simp[lpgs],rfl⟩) λq a=>?_
    ·exact wB
    obtain⟨q,Q⟩:=q;obtain⟨R,d,o⟩:=a;simp only at R d o |-;have U:Q.length=S2.length+q:=by rw[d,Y3,ER]
    by_cases w:q<(nth h.M k).a3.toNat
    ·have hfl:=gv h ((nth h.M k).R+(q:Nat))
     repeat'(first|refine gE ?_|(conv=>whnf);first|with_reducible (first|refine CE (aa b) ?_|refine Bf.N (λa=>?_) (λa=>?_))|refine C9 (i7 h _ g) ?_|refine CU cS (λr n=>by rw[V1.1 n];rfl) (by simp[bk,eD]) (by simp;omega) (by show _*8<=_;simp;omega) rfl ?_)
     all_goals first
      | exact Z0 (λz=>[B z]) ((tP (cG u (NY w (W0 ω)))).symm)
      | ((conv=>whnf)
         refine CF (q+1,Q++[(nth h.M k).R+(q:Nat)]) ⟨(by simp only;omega),(by simp only;rw[d,lz,O6]),bW o (O0 ω)⟩ (by simp only;omega) ?_
         (repeat'(first|exact trivial|rfl|exact CM rfl (CM (Z0 (C.s dY.own) (by simp[rI])) trivial)|refine CM ?_ ?_)))
    obtain rfl:q=(nth h.M k).a3.toNat:=ω
    repeat'(first|refine gE ?_|(conv=>whnf);first|with_reducible refine CE (aa b) ?_)
    ((conv=>whnf);refine CF (k+1,Q) ⟨(by simp only;omega),(by simp only;rw[d,c,<-pz _ b]),bW M (GX e o),(by simp only;omega)⟩ (by simp only;omega) ?_;(exact wB))
 obtain rfl:k=h.M.length:=ω
 rw[X5]at c
 repeat'(first|refine gE ?_|fail)
 (conv=>whnf)
 refine CJ (ι:=Nat) (λq=>[(1,.H .box (ac.enc .V h)),(3,.H .box (aJ.enc .V (tbl h))),(4,.H .one [I (eU h)]),(5,.H .one (aH .own S2)),(10,.H .one [I ((q:Nat):Int)])]) (λq=>q<=S2.length/\∀j,j<q->nth S2 j<eU h) (λq=>S2.length - q) (0) ?_ ψ λq a=>?_
 ·exact wB
 obtain⟨a,o⟩:=a;by_cases w:q<S2.length
 ·have b:=au w
  repeat'(first|refine gE ?_|(conv=>whnf);first|with_reducible (first|refine CE (aa b) ?_|refine Bf.D (λa=>?_) (λa=>?_))|refine CK rfl (aa b) rfl ?_)
  all_goals first
   | exact Z0 (λz=>[B z]) ((Hm (by rw[<-c];exact ar w) ω).symm)
   | ((conv=>whnf);refine CF (q+1) ⟨ω,λj hj=>by rcases Nat.lt_or_ge j q with V|V;exact o j V;(obtain rfl:j=q:=ω);omega⟩ ω ?_;(exact wB))
 have t:∀p∈pgs h.K h.M,p<eU h:=λp T=>by grind [List.mem_iff_getElem?,bn]
 repeat'(first|refine gE ?_|fail)
 (conv=>whnf)
 refine CJ (ι:=Nat) (λp=>[(1,.H .box (ac.enc .V h)),(3,.H .box (aJ.enc .V (tbl h))),(4,.H .one [I (eU h)]),(5,.H .one (aH .own S2)),(11,.H .one [I ((p:Nat):Int)])]) (λp=>p<=eU h/\dh p (ww h)=true) (λp=>eU h - p) 0 ?_ ⟨X0 _,rfl⟩ λp T=>?_
 ·exact wB
 obtain⟨T,W⟩:=T;by_cases X:p<eU h
 ·have b:=au (xs:=(tbl h).J) X
  have n:=zQ h.j (p:Nat) ω
  repeat'(first|refine gE ?_|(conv=>whnf);first|with_reducible (first|refine CE (aa b) ?_|refine Bf.D (λa=>?_) (λa=>?_)|refine Bf.NB (λa=>?_) (λa=>?_))|refine CG (np S2 _ ω) ⟨⟨rfl,dK _⟩,⟨rfl,rfl⟩,trivial⟩ ?_|refine C9 n ?_|refine Bf.P (λa=>?_) (λa=>?_))
  all_goals first
   | exact Z0 (λz=>[B z]) ((G6 (cG X (by unfold ww;rw[<-c];grind))).symm)
   | ((conv=>whnf);refine CF (p+1) ⟨ω,bW W (by unfold ww;rw[<-c];grind)⟩ ω ?_;(exact wB))
 repeat'(first|refine gE ?_|fail)
 obtain rfl:p=eU h:=ω
 exact Z0 (λz=>[B z]) ((xz J M t W).symm)
set_option maxHeartbeats 8000000
def EO{z1 z2:Int}(h:z1=z2):Ro (I z1) (I z2):=by subst h;rfl
theorem KO : z∈ins S p↔z∈S\/z=p:=by grind [ins]
theorem zr(S:List Int):(fW S).map (·.1)=S:=by unfold fW;rw[List.map_map];simp[W6]
theorem mR{t:aJ}{p:Nat}(a:p<t.J.length):af t (p:Nat)=nth t.J p:=by grind [af]
theorem Dp(h:ac)(G:dC h.K)(H:dS h.M)(d:zo h)(J:gT h.j)(u:bq h.K h.M=true):zzA 77 false [.val (some 24) (ac.enc .V h)] .one [B (pages0 h&&pW h)]:=by
 have hl1:=G.1;have hl2:=H.1;have hl3:eU h<=1048576:=d.1;have hl4:=J.1;have b:pages0 h=false->[B false]=[B (pages0 h&&pW h)]:=ψ
 refine fO 177 [(4,14,[25,26,27,28,29,30,31,32,33,34,35,36,37,38]),(16,14,[60,61,62,63,64,65,66,67,68,69,70,71,72,73]),(28,18,[102,103,104,105,106,107,108,109,110,111,112,113,114,115,116,117,118,119]),(42,23,[152,153,154,155,156,157,158,159,160,161,162,163,164,165,166,167,168,169,170,171,172,173,174])] Tryz.func77 rfl ?_
 repeat'(first|refine gP ?_|fail)
 (conv=>whnf)
 refine CJ (ι:=Nat) (λi=>[(1,.H .box (ac.enc .V h)),(18,.H .one (cF .V h.K)),(19,.H .one [I (h.K.length)]),(20,.H .one [I ((i:Nat):Int)])]) (λi=>i<=h.K.length/\dh i (y5 h.K)=true) (λi=>h.K.length - i) 0 ?_ ⟨X0 _,rfl⟩ λi g=>?_
 ·exact wB
 obtain⟨g,C⟩:=g;by_cases o:i<h.K.length
 ·have e:=au o
  repeat'(first|refine gE ?_|(conv=>whnf);first|with_reducible (first|refine CE (aa e) ?_|refine Bf.D (λa=>?_) (λa=>?_))|refine CO ω (aa (gC ω o)) ?_)
  all_goals first
   |exact b (G8 (cG o (W0 ω)))
   | ((conv=>whnf);refine CF (i+1) ⟨ω,bW C (O0 ω)⟩ ω ?_;(exact wB))
 obtain rfl:i=h.K.length:=ω
 repeat'(first|refine gE ?_|fail)
 (conv=>whnf)
 refine CJ (ι:=Nat × List Int) (λi=>[(1,.H .box (ac.enc .V h)),(5,.H .one [.m (fW i.2)]),(42,.H .one (cF .V h.K)),(43,.H .one [I (h.K.length)]),(44,.H .one [I ((i.1:Nat):Int)])]) (λi=>i.1<=h.K.length/\∀z,z∈i.2↔z∈(h.K.take i.1).map (·.R)) (λi=>h.K.length - i.1) ((0,[])) ?_ ψ λi g=>?_
 ·exact wB
 obtain⟨i,S⟩:=i;obtain⟨K,Z⟩:=g;simp only at K Z |-;by_cases li2:i<h.K.length
 ·have e:=au li2
  repeat'(first|refine gE ?_|(conv=>whnf);first|with_reducible refine CE (aa e) ?_|refine Mu.mk (xl S _) ?_)
  ((conv=>whnf);refine CF (i+1,ins S (nth h.K i).R) ⟨(by simp only;omega),λz=>by grind [KO,I6]⟩ (by simp only;omega) ?_;(exact wB))
 obtain rfl:i=h.K.length:=ω
 rw[X5]at Z
 repeat'(first|refine gE ?_|fail)
 (conv=>whnf)
 refine CJ (ι:=Nat × List Int) (λk=>[(1,.H .box (ac.enc .V h)),(5,.H .one [.m (fW k.2)]),(53,.H .one (cA .V h.M)),(54,.H .one [I (h.M.length)]),(55,.H .one [I ((k.1:Nat):Int)])]) (λk=>k.1<=h.M.length/\(∀z,z∈k.2↔z∈pgs h.K (h.M.take k.1))/\dh k.1 (sX h)=true) (λk=>h.M.length - k.1) ((0,S)) ?_ (⟨X0 _,λz=>by grind [pgs],rfl⟩) λk L=>?_
 ·exact wB
 obtain⟨k,S2⟩:=k;obtain⟨L,c,M⟩:=L;simp only at L c M |-;by_cases F:k<h.M.length
 ·have e:=au F
  have hpg:=vz u e
  repeat'(first|refine gE ?_|(conv=>whnf);first|with_reducible (first|refine CE (aa e) ?_|refine Bf.D (λa=>?_) (λa=>?_))|refine CO ω (aa (gC ω F)) ?_)
  all_goals first
   |exact b (tP (cG F (N0 (W0 ω))))
   |have l:yz h.M k=true:=O0 ω
    (conv=>whnf)
    refine CJ (ι:=Nat × List Int) (λq=>[(1,.H .box (ac.enc .V h)),(5,.H .one [.m (fW q.2)]),(9,.H .box (aF.enc .V (nth h.M k))),(10,.H .one [I ((nth h.M k).R+(q.1:Nat))]),(53,.H .one (cA .V h.M)),(54,.H .one [I (h.M.length)]),(55,.H .one [I ((k:Nat):Int)])]) (λq=>q.1<=(nth h.M k).a3.toNat/\(∀z,z∈q.2↔z∈S2++lpgs (nth h.M k) q.1)/\dh q.1 (xS h (nth h.M k))=true) (λq=>(nth h.M k).a3.toNat - q.1) ((0,S2)) ?_ (⟨X0 _,λz=>by simp[lpgs],rfl⟩) λq a=>?_
    ·exact wB
    obtain⟨q,O⟩:=q;obtain⟨Q,n,R⟩:=a;simp only at Q n R |-;by_cases lq:q<(nth h.M k).a3.toNat
    ·have hfl:=gv h ((nth h.M k).R+(q:Nat))
     repeat'(first|refine gE ?_|(conv=>whnf);first|with_reducible refine Bf.N (λa=>?_) (λa=>?_)|refine C9 (oT h _ d) ?_|refine Mu.mk (xl O _) ?_)
     all_goals first
      |exact b (tP (cG F (NY lq (W0 ω))))
      | ((conv=>whnf)
         refine CF (q+1,ins O ((nth h.M k).R+(q:Nat))) ⟨(by simp only;omega),λz=>by simp only[KO,n];rw[lz];simp[or_assoc],bW R (O0 ω)⟩ (by simp only;omega) ?_
         (repeat'(first|exact trivial|rfl|refine CM ?_ ?_|exact EO (by simp;omega))))
    obtain rfl:q=(nth h.M k).a3.toNat:=ω
    repeat'(first|refine gE ?_|fail)
    ((conv=>whnf);refine CF (k+1,O) ⟨(by simp only;omega),(λz=>by simp only[n];rw[pz _ e];simp[c]),bW M (GX l R)⟩ (by simp only;omega) ?_;(exact wB))
 obtain rfl:k=h.M.length:=ω
 rw[X5]at c
 repeat'(first|refine gE ?_|fail)
 (conv=>whnf)
 refine CJ (ι:=Nat) (λp=>[(1,.H .box (ac.enc .V h)),(5,.H .one [.m (fW S2)]),(98,.H .one [I (eU h)]),(99,.H .one [I ((p:Nat):Int)])]) (λp=>p<=eU h/\dh p (ww h)=true) (λp=>eU h - p) 0 ?_ ⟨X0 _,rfl⟩ λp hp=>?_
 ·exact wB
 obtain⟨hp,ap⟩:=hp;by_cases lp:p<eU h
 ·have T:=AE h.j (p:Nat) ω
  have w:=pp h.G (p:Nat) d;rw[mR lp]at w
  repeat'(first|refine gE ?_|(conv=>whnf);first|with_reducible (first|refine Bf.D (λa=>?_) (λa=>?_)|refine Bf.NB (λa=>?_) (λa=>?_))|refine C9 w ?_|refine Ml.mk (ou (p:Nat) S2) ?_|refine C9 T ?_|refine Bf.P (λa=>?_) (λa=>?_))
  all_goals first
   |exact b (G6 (cG lp (by unfold ww tbl;have:=c (p:Nat);grind)))
   | ((conv=>whnf);refine CF (p+1) ⟨ω,bW ap (by unfold ww tbl;have:=c (p:Nat);grind)⟩ ω ?_;(exact wB))
 obtain rfl:p=eU h:=ω
 repeat'(first|refine gE ?_|fail)
 have hpn:eU h=h.G.F.Q.J.length:=rfl
 (conv=>whnf)
 refine CJ (ι:=Option Int × List Int) (λt=>[(1,.H .box (ac.enc .V h)),(122,.H .one [.it t.1 t.2])]) (λt=>(∀z∈S2,z∈t.2\/z<eU h)/\∀z∈t.2,z∈S2) (λt=>t.2.length) ((none,(fW S2).map (·.1))) ?_ (⟨λz hz=>.inl (by grind [zr]),λz hz=>by grind [zr]⟩) λt ht=>?_
 ·exact wB
 obtain⟨cur,left⟩:=t;obtain⟨U,V⟩:=ht;simp only at U V |-
 repeat'(first|refine gP ?_|(conv=>whnf);first|with_reducible refine Bf.D (λa=>?_) (λa=>?_)|refine Nt.mk (λa=>?_) (λl1 k l2 a=>?_))
 rotate_left
 ·exact b (Hm (p:=k) ψ ω)
 ·((conv=>whnf);refine CF (some k,l1++l2) ψ (by subst left;simp) ?_;(exact wB))
 have y:∀p∈pgs h.K h.M,p<eU h:=ψ
 have h0:pages0 h=true:=xz C M y ap;rw[h0,Bool.true_and]
 (conv=>whnf)
 refine CJ (ι:=Nat) (λi=>[(1,.H .box (ac.enc .V h)),(136,.H .one (cF .V h.K)),(137,.H .one [I (h.K.length)]),(138,.H .one [I ((i:Nat):Int)])]) (λi=>i<=h.K.length/\dh i (λi=>dh i (mL h i))=true) (λi=>h.K.length - i) 0 ?_ ⟨X0 _,rfl⟩ λi g=>?_
 ·exact wB
 obtain⟨g,C⟩:=g;by_cases o:i<h.K.length
 ·have e:=au o
  have W:(h.K.take i).length=i:=ψ
  repeat'(first|refine gE ?_|(conv=>whnf);first|with_reducible refine CE (aa e) ?_|refine CZ i rfl (by simp;omega) (λr T=>by obtain⟨z,-,rfl⟩:=Y4.1 T;rfl) (W4 ..) ?_)
  (conv=>whnf)
  refine CJ (ι:=Nat) (λj=>[(1,.H .box (ac.enc .V h)),(14,.H .box (aA.enc .V (nth h.K i))),(136,.H .one (cF .V h.K)),(137,.H .one [I (h.K.length)]),(138,.H .one [I ((i:Nat):Int)]),(146,.H .one (cF .V (h.K.take i))),(147,.H .one [I ((h.K.take i).length)]),(148,.H .one [I ((j:Nat):Int)])]) (λj=>j<=(h.K.take i).length/\dh j (mL h i)=true) (λj=>(h.K.take i).length - j) 0 ?_ ⟨X0 _,rfl⟩ λj hj=>?_
  ·exact wB
  obtain⟨hj,X⟩:=hj;by_cases lj:j<(h.K.take i).length
  ·have hy:=au lj
   have he:nth (h.K.take i) j=nth h.K j:=bn (by grind [au]);rw[he]at hy;have w:=A6 (nth h.K i) (nth h.K j);cases Y:meshable (nth h.K i) (nth h.K j)<;>rw[Y]at w
   all_goals
    repeat'(first|refine gE ?_|(conv=>whnf);first|with_reducible (first|refine CE (aa hy) ?_|refine Bf.E (λa=>?_) (λa=>?_))|refine C9 (ma (tbl h) _ d) ?_|refine C9 w ?_)
    all_goals first
     | exact Z0 (λz=>[B z]) ((by symm;exact cG o (cG (i:=j) ω (by unfold mL;rw[Y];grind))))
     | ((conv=>whnf);refine CF (j+1) ⟨ω,bW X (by unfold mL;rw[Y];grind)⟩ ω ?_;(exact wB))
  obtain rfl:j=(h.K.take i).length:=ω
  rw[W]at X
  repeat'(first|refine gE ?_|fail)
  ((conv=>whnf);refine CF (i+1) ⟨ω,bW C X⟩ ω ?_;(exact wB))
 obtain rfl:i=h.K.length:=ω
 repeat'(first|refine gE ?_|fail)
 exact Z0 (λz=>[B z]) ((by grind [pW]))
set_option maxHeartbeats 8000000
def qi[Inhabited α](pr:α->Bool)(xs:List α):cZ pr xs = -1\/∃n,n<xs.length/\cZ pr xs=(n:Nat)/\pr (nth xs n)=true:=by
 unfold cZ;cases h:xs.findIdx? pr with
 | none=>exact .inl rfl
 | some i=>
  obtain⟨a,b,-⟩:=Y7.1 h;exact .inr ⟨i,a,rfl,by rw[bn (X2 a)];exact b⟩
def F6(a:i<h.K.length)(b:k<(aW h (nth h.K i).R).length)(c:mH h i (nth (aW h (nth h.K i).R) k)=false):tD h=false:=by
 unfold tD;exact cG a (gN (au b) c)
theorem EJ(h:ac)(j:dC h.K)(c:zo h):zzA 212 false [.val (some 24) (ac.enc .V h)] .one [B (tD h)]:=by
 have l:=j.1;have E:eU h<=1048576:=c.1;refine fO 55 [(4,8,[14,15,16,17,18,19,20,21]),(8,6,[28,29,30,31,32,33]),(9,21,[34,35,36,37,38,39,40,41,42,43,44,45,46,47,48,49,50,51,52,53,54])] Tryz.func212 rfl ?_
 repeat'(first|refine gP ?_|fail)
 (conv=>whnf)
 refine CJ (ι:=Nat) (λi=>[(1,.H .box (ac.enc .V h)),(3,.H .one [I ((i:Nat):Int)])]) (λi=>i<=h.K.length/\dh i (λi=>(aW h (nth h.K i).R).all (mH h i))=true) (λi=>h.K.length - i) 0 ?_ ⟨X0 _,rfl⟩ λi w=>?_
 ·exact wB
 obtain⟨w,F⟩:=w;by_cases o:i<h.K.length
 ·have q:=au o
  have G:=gv h (nth h.K i).R
  repeat'(first|refine gE ?_|(conv=>whnf);first|with_reducible refine CE (aa q) ?_|refine C9 (i7 h _ c) ?_)
  (conv=>whnf)
  refine CJ (ι:=Nat) (λk=>[(1,.H .box (ac.enc .V h)),(3,.H .one [I ((i:Nat):Int)]),(4,.H .one (aH .own (aW h (nth h.K i).R))),(5,.H .one [I ((k:Nat):Int)])]) (λk=>k<=(aW h (nth h.K i).R).length/\((aW h (nth h.K i).R).take k).all (mH h i)=true) (λk=>(aW h (nth h.K i).R).length - k) (0) ?_ ψ λk y=>?_
  ·exact wB
  obtain⟨y,H⟩:=y;by_cases r:k<(aW h (nth h.K i).R).length
  ·have d:=au r
   have a:=kq h (nth (aW h (nth h.K i).R) k) l;rcases qi (mU (nth (aW h (nth h.K i).R) k)) h.K with g|⟨n,J,g,-⟩
   ·rw[show gQ h (nth (aW h (nth h.K i).R) k) = -1 from g]at a
    have t:mH h i (nth (aW h (nth h.K i).R) k)=false:=by grind [mH,gQ]
    repeat'(first|refine gE ?_|(conv=>whnf);first|with_reducible (first|refine CE (aa q) ?_|refine CE (aa d) ?_|refine Bf.D (λb=>?_) (λb=>?_)|refine Bf.N (λb=>?_) (λb=>?_))|refine CK rfl (aa d) rfl ?_|refine C9 a ?_)
    all_goals first
     | exact Z0 (λz=>[B z]) ((F6 o r t).symm)
     |(exfalso;omega)
   rw[show gQ h (nth (aW h (nth h.K i).R) k)=(n:Nat) from g]at a;have K:=au J;have C:=mN (nth h.K i) (nth h.K n);have e:mH h i (nth (aW h (nth h.K i).R) k)=(decide ((n:Int)=(i:Nat)) || meshable (nth h.K i) (nth h.K n)):=by
    unfold mH;rw[show gQ h (nth (aW h (nth h.K i).R) k)=(n:Nat) from g,O0 (p:=(0:Int)<=(n:Nat)) ω];simp
   cases u:meshable (nth h.K i) (nth h.K n)<;>rw[u]at C
   all_goals
    repeat'(first|refine gE ?_|(conv=>whnf);first|with_reducible (first|refine CE (aa q) ?_|refine CE (aa K) ?_|refine CE (aa d) ?_|refine Bf.D (λb=>?_) (λb=>?_)|refine Bf.N (λb=>?_) (λb=>?_))|refine CK rfl (aa d) rfl ?_|refine C9 a ?_|refine C9 C ?_)
    all_goals first
     | exact Z0 (λz=>[B z]) ((F6 o r (by rw[e,u];grind)).symm)
     | ((conv=>whnf);refine CF (k+1) ⟨ω,cX d H (by rw[e,u];grind)⟩ ω ?_;(exact wB))
     |(exfalso;omega)
  repeat'(first|refine gE ?_|fail)
  ((conv=>whnf);refine CF (i+1) ⟨ω,bW F ψ⟩ ω ?_;(exact wB))
 obtain rfl:i=h.K.length:=ω
 repeat'(first|refine gE ?_|fail)
 exact Z0 (λz=>[B z]) ((by grind [tD]))
def MO(j:cK)(b:cK.sml j):zzA 217 false [.val (some 5) (cK.enc .V j)] .one [B (tl j)]:=by
 have c:j.X.T.length<=1048576:=b;refine fO 30 [] Tryz.func217 rfl ?_
 repeat'(first|refine gP ?_|(conv=>whnf);first|with_reducible (first|refine Bf.E (λa=>?_) (λa=>?_)|refine Bf.D (λa=>?_) (λa=>?_)))
 all_goals exact Z0 (λz=>[B z]) ((by unfold tl;first|(symm;exact W0 ω)|(rw[C5,beq_iff_eq,C0];omega)))
theorem nN(sp:List aA)(la:List aF)(a:Int):((denotes sp la a).b6=1->0<=(denotes sp la a).c0/\(denotes sp la a).c0.toNat<sp.length)/\((denotes sp la a).b6=3->0<=(denotes sp la a).c0/\(denotes sp la a).c0.toNat<la.length):=by grind [Y7,denotes,qK]
theorem Jy(h:ac)(a c:Int)(d:dC h.K)(e:dS h.M)(b:bq h.K h.M=true)(k:nE a):zzA 363 false [.val (some 24) (ac.enc .V h),.val none [I a],.val none [I c]] .one [B (d3 h a c)]:=by
 have j:=ot h.K h.M a d e b k;obtain⟨g,-⟩:=nN h.K h.M a;unfold d3;generalize denotes h.K h.M a=w at j g |-;refine fO 37 [] Tryz.func363 rfl ?_
 repeat'(first|refine gP ?_|(conv=>whnf);first|with_reducible (first|refine Bf.D (λi=>?_) (λi=>?_)|refine Bf.E (λi=>?_) (λi=>?_))|refine C9 j ?_|refine CO (g (by assumption)).1 (aa (au (g (by assumption)).2)) ?_)
 all_goals exact Z0 (λz=>[B z]) (ψ)
theorem Ba(h:ac)(o:bt)(w:jL)(a:denotes h.K h.M o.Addr=w):kV h o=(decide (w.c1=0)&&((decide (w.b6=1)&&decide ((nth h.K w.c0.toNat).d=aN o.q)) || (decide (w.b6=3)&&decide ((nth h.M w.c0.toNat).q=o.q)))):=by grind [kV]
def jM(a:i<h.O.length)(b:objAt (IntKind.i64.wrap (h.b - 1)) h i=false):gj h=false:=cG a b
theorem Lj(h1:iy a h i=false):objAt a h i=false:=by grind [objAt]
theorem K9(h1:(h.O.take i).any (lO (nth h.O i).Id)=true):objAt a h i=false:=by grind [objAt]
theorem KV(h1:kV h (nth h.O i)=false):objAt a h i=false:=by grind [objAt]
theorem BX(h1:iy a h i=true)(b:(h.O.take i).any (lO (nth h.O i).Id)=false)(c:kV h (nth h.O i)=true):objAt a h i=true:=by grind [objAt]
theorem HZ(h:ac)(l:dC h.K)(n:dS h.M)(g:bq h.K h.M=true)(K:h.O.length<=1048576)(L:h.S.length<=1048576)(H:∀o∈h.O,nE o.Addr):zzA 215 false [.val (some 24) (ac.enc .V h)] .one [B (gj h)]:=by
 refine fO 117 [(5,33,[21,22,23,24,25,26,27,28,29,30,31,32,33,34,35,36,37,38,39,40,41,42,43,44,45,46,47,48,49,50,51,52,53]),(10,9,[59,60,61,62,63,64,65,66,67]),(13,16,[75,76,77,78,79,80,81,82,83,84,85,86,87,88,89,90]),(14,15,[91,92,93,94,95,96,97,98,99,100,101,102,103,104,105])] Tryz.func215 rfl ?_
 repeat'(first|refine gP ?_|fail)
 (conv=>whnf)
 refine CJ (ι:=Nat) (λi=>[(1,.H .box (ac.enc .V h)),(3,.H .one [I ((i:Nat):Int)])]) (λi=>i<=h.O.length/\dh i (objAt (IntKind.i64.wrap (h.b - 1)) h)=true) (λi=>h.O.length - i) 0 ?_ ⟨X0 _,rfl⟩ λi t=>?_
 ·exact wB
 obtain⟨t,u⟩:=t;by_cases e:i<h.O.length
 ·have y:=au e
  have C:=ot h.K h.M (nth h.O i).Addr l n g (H _ (ar e));obtain⟨p,q⟩:=nN h.K h.M (nth h.O i).Addr;have b:=Ba h (nth h.O i) _ rfl;generalize denotes h.K h.M (nth h.O i).Addr=w at C p q b;by_cases c:iy (IntKind.i64.wrap (h.b - 1)) h i=true
  ·have a:=c
   unfold iy at a;rw[C0]at a
   repeat'(first|refine gE ?_|(conv=>whnf);first|with_reducible (first|refine CE (aa y) ?_|refine Bf.D (λd=>?_) (λd=>?_))|refine CO ω (aa (gC ω e)) ?_|refine C9 (aK _ _ _) ?_|refine CN rfl ?_)
   all_goals
    (conv=>whnf)
    refine CJ (ι:=Nat) (λk=>[(1,.H .box (ac.enc .V h)),(3,.H .one [I ((i:Nat):Int)]),(4,.H .box (bt.enc .V (nth h.O i))),(5,.H .one [I ((k:Nat):Int)])]) (λk=>k<=i/\(h.O.take k).any (lO (nth h.O i).Id)=false) (λk=>i - k) (0) ?_ (⟨X0 _,rfl⟩) λk F=>?_
    ·exact wB
    obtain⟨F,G⟩:=F;by_cases J:k<i
    ·have r:=au (xs:=h.O) (i:=k) ω
     repeat'(first|refine gE ?_|(conv=>whnf);first|with_reducible (first|refine CE (aa r) ?_|refine Bf.E (λd=>?_) (λd=>?_)))
     all_goals first
      | exact Z0 (λz=>[B z]) ((jM e (K9 (Ea (i:=k) (by rw[List.getElem?_take_of_lt J];exact r) (O0 (by assumption))))).symm)
      | ((conv=>whnf);refine CF (k+1) ⟨ω,xu r G (W0 (by assumption))⟩ ω ?_;(exact wB))
    obtain rfl:k=i:=ω
    repeat'(first|refine gE ?_|(conv=>whnf);first|with_reducible (first|refine Bf.D (λd=>?_) (λd=>?_)|refine Bf.E (λd=>?_) (λd=>?_)|refine Bf.N (λd=>?_) (λd=>?_))|refine C9 C ?_|refine CO (p (by assumption)).1 (aa (au (p (by assumption)).2)) ?_|refine CO (q (by assumption)).1 (aa (au (q (by assumption)).2)) ?_|refine C9 (lf _) ?_)
    all_goals first
     | exact Z0 (λz=>[B z]) ((jM e (KV (by rw[b];grind))).symm)
     | ((conv=>whnf);refine CF (k+1) ⟨ω,bW u (BX c G (by rw[b];grind))⟩ ω ?_;(exact wB))
     |(exfalso;omega)
  have j:iy (IntKind.i64.wrap (h.b - 1)) h i=false:=by simpa using c
  have a:=j;unfold iy at a;rw[z5]at a
  repeat'(first|refine gE ?_|(conv=>whnf);first|with_reducible (first|refine CE (aa y) ?_|refine Bf.D (λd=>?_) (λd=>?_))|refine CO ω (aa (gC ω e)) ?_|refine C9 (aK _ _ _) ?_|refine CN rfl ?_)
  all_goals first
   | exact Z0 (λz=>[B z]) ((jM e (Lj j)).symm)
   |(exfalso;omega)
 obtain rfl:i=h.O.length:=ω
 repeat'(first|refine gE ?_|fail)
 exact Z0 (λz=>[B z]) ((show true=gj h from u.symm))
theorem qn(o a:bt):zzA 234 false [.val (some 4) (bt.enc .V o),.ptr (bt.enc .V a)] .one [B (lO a.Id o)]:=by
 refine fO 9 [] Tryz.func234 rfl ?_
 repeat'(first|refine gP ?_|fail)
 grind [lO]
theorem Gc(h:ac)(n:dC h.K)(o:dS h.M)(J:h.O.length<=1048576)(K:h.S.length<=1048576):zzA 81 false [.val (some 24) (ac.enc .V h)] .one [B (gj h)]:=by
 refine fO 105 [(4,33,[16,17,18,19,20,21,22,23,24,25,26,27,28,29,30,31,32,33,34,35,36,37,38,39,40,41,42,43,44,45,46,47,48]),(9,16,[62,63,64,65,66,67,68,69,70,71,72,73,74,75,76,77]),(10,15,[78,79,80,81,82,83,84,85,86,87,88,89,90,91,92])] Tryz.func81 rfl ?_
 repeat'(first|refine gP ?_|fail)
 (conv=>whnf)
 refine CJ (ι:=Nat) (λi=>[(1,.H .box (ac.enc .V h)),(9,.H .one (nL .V h.O)),(10,.H .one [I (h.O.length)]),(11,.H .one [I ((i:Nat):Int)])]) (λi=>i<=h.O.length/\dh i (objAt (IntKind.i64.wrap (h.b - 1)) h)=true) (λi=>h.O.length - i) 0 ?_ ⟨X0 _,rfl⟩ λi F=>?_
 ·exact wB
 obtain⟨F,G⟩:=F;by_cases g:i<h.O.length
 ·have p:=au g
  have H:=tC h.K h.M (nth h.O i).Addr n o;obtain⟨q,t⟩:=nN h.K h.M (nth h.O i).Addr;have b:=Ba h (nth h.O i) _ rfl;generalize denotes h.K h.M (nth h.O i).Addr=w at H q t b;have j:=vq (h.O.take i) (lO (nth h.O i).Id) ψ;by_cases c:iy (IntKind.i64.wrap (h.b - 1)) h i=true
  ·have a:=c
   unfold iy at a;rw[C0]at a;cases d:(h.O.take i).any (lO (nth h.O i).Id)<;>rw[d]at j
   ·repeat'(first|refine gE ?_|(conv=>whnf);first|with_reducible (first|refine CE (aa p) ?_|refine Bf.D (λe=>?_) (λe=>?_)|refine Bf.E (λe=>?_) (λe=>?_)|refine Bf.N (λe=>?_) (λe=>?_))|refine CO ω (aa (gC ω g)) ?_|refine C9 (aO _ _ _) ?_|refine CZ i rfl (by simp;omega) (λr u=>by obtain⟨z,-,rfl⟩:=Y4.1 u;rfl) (W4 ..) ?_|refine Cq.mk (Ho (some 4) (bt.enc .V) (lO (nth h.O i).Id) (h.O.take i)) (qn default (nth h.O i)).has (λL k rcs C=>by obtain⟨y,-,rfl,rfl,rfl⟩:=C;exact qn y (nth h.O i)) ?_|refine C9 j ?_|refine C9 H ?_|refine CO (q (by assumption)).1 (aa (au (q (by assumption)).2)) ?_|refine CO (t (by assumption)).1 (aa (au (t (by assumption)).2)) ?_|refine C9 (sZ _) ?_|refine CN rfl ?_)
    all_goals first
     | exact Z0 (λz=>[B z]) ((jM g (KV (by rw[b];grind))).symm)
     | ((conv=>whnf);refine CF (i+1) ⟨ω,bW G (BX c d (by rw[b];grind))⟩ ω ?_;(exact wB))
     |(exfalso;omega)
   repeat'(first|refine gE ?_|(conv=>whnf);first|with_reducible (first|refine CE (aa p) ?_|refine Bf.D (λe=>?_) (λe=>?_))|refine CO ω (aa (gC ω g)) ?_|refine C9 (aO _ _ _) ?_|refine CZ i rfl (by simp;omega) (λr u=>by obtain⟨z,-,rfl⟩:=Y4.1 u;rfl) (W4 ..) ?_|refine Cq.mk (Ho (some 4) (bt.enc .V) (lO (nth h.O i).Id) (h.O.take i)) (qn default (nth h.O i)).has (λL k rcs C=>by obtain⟨y,-,rfl,rfl,rfl⟩:=C;exact qn y (nth h.O i)) ?_|refine C9 j ?_|refine CN rfl ?_)
   all_goals first
    | exact Z0 (λz=>[B z]) ((jM g (K9 d)).symm)
    |(exfalso;omega)
  have l:iy (IntKind.i64.wrap (h.b - 1)) h i=false:=by simpa using c
  have a:=l;unfold iy at a;rw[z5]at a
  repeat'(first|refine gE ?_|(conv=>whnf);first|with_reducible (first|refine CE (aa p) ?_|refine Bf.D (λe=>?_) (λe=>?_))|refine CO ω (aa (gC ω g)) ?_|refine C9 (aO _ _ _) ?_|refine CN rfl ?_)
  all_goals first
   | exact Z0 (λz=>[B z]) ((jM g (Lj l)).symm)
   |(exfalso;omega)
 obtain rfl:i=h.O.length:=ω
 repeat'(first|refine gE ?_|fail)
 exact Z0 (λz=>[B z]) ((show true=gj h from G.symm))
set_option maxHeartbeats 8000000
theorem MH(h:kN sp la n=true):m6 sp la (n+1)=m6 sp la n++[(n:Int)]:=by grind [List.range_succ,m6]
theorem Py(h:kN sp la n=false):m6 sp la (n+1)=m6 sp la n:=by grind [List.range_succ,m6]
theorem B5(sp:List aA)(la:List aF)(n:Nat):(m6 sp la n).length<=n:=by grind [m6]
theorem tn{w:jL}(a:denotes sp la (n:Nat)=w):kN sp la n=(decide (w.c1=0)&&(decide (w.b6=1) || decide (w.b6=3))):=by grind [kN]
def QE(h:n<=1048576):nE (n:Nat):=⟨ω,ω⟩
theorem xD(sp:List aA)(la:List aF)(c:dC sp)(d:dS la)(a:bq sp la=true):zzA 364 false [.val none (cF .V sp),.val none (cA .V la)] .one (aH .own (ku sp la)):=by
 have g:=mI sp la c d;rw[a]at g;refine fO 40 [] Tryz.func364 rfl ?_ (.inr (bT _))
 repeat'(first|refine gP ?_|fail)
 (conv=>whnf)
 refine CJ (ι:=Nat) (λn=>[(0,.H .one (cF .V sp)),(1,.H .one (cA .V la)),(5,.H .one (aH .own (m6 sp la n))),(6,.H .one [I ((n:Nat):Int)])]) (λn=>n<=512) (λn=>512 - n) (0) ?_ (X0 _) λn o=>?_
 ·exact wB
 have i:=B5 sp la n;by_cases p:n<512
 ·have h:=ot sp la (n:Nat) c d a (QE ω)
  generalize j:denotes sp la (n:Nat)=w at h;have e:=tn j
  repeat'(first|refine gE ?_|(conv=>whnf);first|with_reducible refine Bf.E (λk=>?_) (λk=>?_)|refine C9 g ?_|refine C9 h ?_|refine CU cS (λr l=>by rw[V1.1 l];rfl) (by simp[bk,eD]) (by simp;omega) (by simp only[I1];exact y4 (by simp;omega) (by decide)) rfl ?_)
  all_goals first
   |(have b:kN sp la n=true:=by rw[e];grind
     (conv=>whnf)
     refine CF (n+1) ω ω ?_;rw[MH b]
     (repeat'(first|exact trivial|rfl|exact CM rfl (CM (Z0 (C.s dY.own) (by simp[rI])) trivial)|refine CM ?_ ?_)))
   |(have b:kN sp la n=false:=by rw[e];grind
     (conv=>whnf)
     refine CF (n+1) ω ω ?_;rw[Py b]
     (exact wA))
 obtain rfl:n=512:=ω
 repeat'(first|refine gE ?_|(conv=>whnf);first|refine C9 g ?_)
 rfl
theorem yv(m:aP)(a:m.a0.length=m.U.length):∀i,i<=m.U.length->(((flight1 m i).length+(flight2 m i).length:Nat):Int)=bD m i
 | 0,_=>rfl
 | i+1,h=>by
  have d:=yv m a i ω;have b:=au (xs:=m.U) (i:=i) ω;have c:=au (xs:=m.a0) (i:=i) ω;rw[oK b,oe c];simp only[Y3,I1];show _=bD m i+((nth m.U i).length+(nth m.a0 i).length);omega
theorem tY(h:bQ m=true):(aR m).length<=30:=by grind [yv,pE,bQ]
def Gk(d:aP.wf m):∀a∈aR m,nE a:=by
 intro a b;unfold aR at b;split at b
 ·rcases V3.1 b with h|h
  ·obtain⟨l,c,h⟩:=List.mem_flatMap.1 h
   obtain⟨p,e,rfl⟩:=Y4.1 h;exact((d.1.2 l c).2 p e).2
  obtain⟨l,c,h⟩:=List.mem_flatten.1 h;exact(d.2.2 l c).2 a h
 cases b
theorem LN(h1:h.S.all (fp h)=false):jx h=false:=by grind [jx,js]
theorem LD(h1:h.a7.a6.all (iu h)=false):jx h=false:=by grind [jx,js]
theorem M5(h1:(aR h.y).all (kZ h)=false):jx h=false:=by grind [jx,js]
theorem MC(a:i<(holders h).length)(b:nth (holders h) i∈(holders h).take i):jx h=false:=by
 have c:decide (holders h).Nodup=false:=Q0 (S:=(holders h).take i) (p:=nth (holders h) i) (by
   have:=au a;have e:(holders h).take i++[nth (holders h) i]=(holders h).take (i+1):=by grind [I6]
   grind) b
 grind [jx]
theorem vJ(a:h.S[i]? = some c):((h.S.take (i+1)).flatMap λc=>c.a.flatten)=((h.S.take i).flatMap λc=>c.a.flatten)++c.a.flatten:=by grind [I6]
theorem xK(a:c.a[k]? = some l):(c.a.take (k+1)).flatten=(c.a.take k).flatten++l:=by grind [I6]
theorem HS(h:ac)(hs:ac.sml h)(hw:ac.wf h)(t:bq h.K h.M=true)(w:bQ h.y=true)(W:∀c∈h.S,bx c=true):zzA 216 false [.val (some 24) (ac.enc .V h)] .one [B (jx h)]:=by
 obtain⟨-,-,G,H,X,Y,Z,hsq,-⟩:=hs;obtain⟨-,-,-,-,-,hwc,hwm,hwq,-⟩:=hw;have hlo:h.O.length<=1048576:=X.1;have hlc:h.S.length<=1048576:=Y.1;have hlq:h.a7.a6.length<=1048576:=hsq.1;have hfl:=tY w;have hfw:=Gk hwm;have y:∀a c,nE a->zzA 363 false [.val (some 24) (ac.enc .V h),.val none [I a],.val none [I c]] .one [B (d3 h a c)]:=λa c ha=>Jy h a c G H t ha
 refine fO 159 [(16,8,[63,64,65,66,67,68,69,70]),(22,17,[86,87,88,89,90,91,92,93,94,95,96,97,98,99,100,101,102]),(29,7,[122,123,124,125,126,127,128]),(35,8,[142,143,144,145,146,147,148,149])] Tryz.func216 rfl ?_
 repeat'(first|refine gP ?_|fail)
 (conv=>whnf)
 refine CJ (ι:=Nat × List Int) (λi=>[(1,.H .box (ac.enc .V h)),(3,.H .one (aH .own i.2)),(4,.H .one [I ((i.1:Nat):Int)])]) (λi=>i.1<=h.O.length/\i.2=(h.O.take i.1).map (·.Addr)) (λi=>h.O.length - i.1) ((0,[])) ?_ ψ λi u=>?_
 ·exact wB
 obtain⟨i,S⟩:=i;obtain⟨u,Q⟩:=u;simp only at u Q |-;have hSl:S.length=i:=ψ
 by_cases li:i<h.O.length
 ·have E:=au li
  repeat'(first|refine gE ?_|(conv=>whnf);first|with_reducible refine CE (aa E) ?_|refine CU cS (λr l=>by rw[V1.1 l];rfl) (by simp[bk,eD]) (by simp;omega) (by simp only[I1];exact y4 (by simp;omega) (by decide)) rfl ?_)
  ((conv=>whnf)
   refine CF (i+1,S++[(nth h.O i).Addr]) ⟨(by simp only;omega),(by grind [I6])⟩ (by simp only;omega) ?_
   (repeat'(first|exact trivial|rfl|exact CM rfl (CM (Z0 (C.s dY.own) (by simp[rI])) trivial)|refine CM ?_ ?_)))
 obtain rfl:i=h.O.length:=ω
 rw[X5]at Q
 repeat'(first|refine gE ?_|fail)
 (conv=>whnf)
 refine CJ (ι:=Nat × List Int) (λi=>[(1,.H .box (ac.enc .V h)),(3,.H .one (aH .own i.2)),(5,.H .one [I ((i.1:Nat):Int)])]) (λi=>i.1<=h.S.length/\i.2=S++((h.S.take i.1).flatMap λc=>c.a.flatten)/\(h.S.take i.1).all (fp h)=true/\i.2.length<=1048576+32*i.1) (λi=>h.S.length - i.1) ((0,S)) ?_ ψ λi u=>?_
 ·exact wB
 obtain⟨i,S2⟩:=i;obtain⟨hi2,n,ai,J⟩:=u;simp only at hi2 n ai J |-;by_cases li2:i<h.S.length
 ·have E:=au li2
  obtain⟨h4,h8⟩:=vL (W _ (ar li2));have hwl:=hwc.2 _ (ar li2)
  repeat'(first|refine gE ?_|(conv=>whnf);first|with_reducible refine CE (aa E) ?_)
  (conv=>whnf)
  refine CJ (ι:=Nat × List Int) (λk=>[(1,.H .box (ac.enc .V h)),(3,.H .one (aH .own k.2)),(5,.H .one [I ((i:Nat):Int)]),(6,.H .one [I ((k.1:Nat):Int)])]) (λk=>k.1<=(nth h.S i).a.length/\k.2=S2++((nth h.S i).a.take k.1).flatten/\dh k.1 (tq h (nth h.S i))=true/\k.2.length<=S2.length+8*k.1) (λk=>(nth h.S i).a.length - k.1) ((0,S2)) ?_ (⟨X0 _,by simp,rfl,by simp⟩) λk hk=>?_
  ·exact wB
  obtain⟨k,R⟩:=k;obtain⟨hk,K,ak,hb3⟩:=hk;simp only at hk K ak hb3 |-;by_cases T:k<(nth h.S i).a.length
  ·have hy:=au T
   have hl8:=h8 _ (ar T);have hwa:=(hwl.2 _ (ar T)).2
   repeat'(first|refine gE ?_|(conv=>whnf);first|with_reducible (first|refine CE (aa E) ?_|refine CE (aa hy) ?_))
   (conv=>whnf)
   refine CJ (ι:=Nat × List Int) (λj=>[(1,.H .box (ac.enc .V h)),(3,.H .one (aH .own j.2)),(5,.H .one [I ((i:Nat):Int)]),(6,.H .one [I ((k:Nat):Int)]),(7,.H .one (aH .V (nth (nth h.S i).a k))),(8,.H .one [I ((j.1:Nat):Int)])]) (λj=>j.1<=(nth (nth h.S i).a k).length/\j.2=R++(nth (nth h.S i).a k).take j.1/\((nth (nth h.S i).a k).take j.1).all (λa=>d3 h a (k:Nat))=true) (λj=>(nth (nth h.S i).a k).length - j.1) ((0,R)) ?_ ψ λj hj=>?_
   ·exact wB
   obtain⟨j,S4⟩:=j;obtain⟨hj,L,U⟩:=hj;simp only at hj L U |-;have hl4:S4.length=R.length+j:=ψ
   by_cases lj:j<(nth (nth h.S i).a k).length
   ·have d:=au lj
    have b:=y (nth (nth (nth h.S i).a k) j) (k:Nat) ψ;cases g:d3 h (nth (nth (nth h.S i).a k) j) (k:Nat)<;>rw[g]at b
    ·repeat'(first|refine gE ?_|(conv=>whnf);first|with_reducible refine CE (aa d) ?_|refine C9 b ?_)
     exact Z0 (λz=>[B z]) ((LN (gN E (by unfold fp;exact cG T (gN d g)))).symm)
    repeat'(first|refine gE ?_|(conv=>whnf);first|with_reducible refine CE (aa d) ?_|refine C9 b ?_|refine CU cS (λr l=>by rw[V1.1 l];rfl) (by simp[bk,eD]) (by simp;omega) (by show _*8<=_;simp;omega) rfl ?_)
    ((conv=>whnf)
     refine CF (j+1,S4++[nth (nth (nth h.S i).a k) j]) ⟨(by simp only;omega),(by grind [I6]),cX d U g⟩ (by simp only;omega) ?_
     (repeat'(first|exact trivial|rfl|exact CM rfl (CM (Z0 (C.s dY.own) (by simp[rI])) trivial)|refine CM ?_ ?_)))
   obtain rfl:j=(nth (nth h.S i).a k).length:=ω
   rw[X5]at L U
   repeat'(first|refine gE ?_|fail)
   ((conv=>whnf);refine CF (k+1,S4) ⟨(by simp only;omega),(by grind [xK]),bW ak U,(by simp only;omega)⟩ (by simp only;omega) ?_;(exact wB))
  obtain rfl:k=(nth h.S i).a.length:=ω
  rw[X5]at K
  repeat'(first|refine gE ?_|(conv=>whnf);first|with_reducible refine CE (aa E) ?_)
  ((conv=>whnf);refine CF (i+1,R) ⟨(by simp only;omega),(by grind [vJ]),cX E ai ak,(by simp only;omega)⟩ (by simp only;omega) ?_;(exact wB))
 obtain rfl:i=h.S.length:=ω
 rw[X5]at n ai
 repeat'(first|refine gE ?_|fail)
 (conv=>whnf)
 refine CJ (ι:=Nat × List Int) (λq=>[(1,.H .box (ac.enc .V h)),(3,.H .one (aH .own q.2)),(9,.H .one [I ((q.1:Nat):Int)])]) (λq=>q.1<=h.a7.a6.length/\q.2=S2++(h.a7.a6.take q.1).map (·.Addr)/\(h.a7.a6.take q.1).all (iu h)=true) (λq=>h.a7.a6.length - q.1) ((0,S2)) ?_ ψ λq M=>?_
 ·exact wB
 obtain⟨q,N⟩:=q;obtain⟨F,o,aq⟩:=M;simp only at F o aq |-;have hl5:N.length=S2.length+q:=ψ
 by_cases V:q<h.a7.a6.length
 ·have d:=au V
  have b:=y (nth h.a7.a6 q).Addr (nth h.a7.a6 q).d (hwq.2.2 _ (ar V)).1;cases g:d3 h (nth h.a7.a6 q).Addr (nth h.a7.a6 q).d<;>rw[g]at b
  ·repeat'(first|refine gE ?_|(conv=>whnf);first|with_reducible refine CE (aa d) ?_|refine C9 b ?_)
   exact Z0 (λz=>[B z]) ((LD (gN d g)).symm)
  repeat'(first|refine gE ?_|(conv=>whnf);first|with_reducible refine CE (aa d) ?_|refine C9 b ?_|refine CU cS (λr l=>by rw[V1.1 l];rfl) (by simp[bk,eD]) (by simp;omega) (by show _*8<=_;simp;omega) rfl ?_)
  ((conv=>whnf)
   refine CF (q+1,N++[(nth h.a7.a6 q).Addr]) ⟨(by simp only;omega),(by grind [I6]),cX d aq g⟩ (by simp only;omega) ?_
   (repeat'(first|exact trivial|rfl|exact CM rfl (CM (Z0 (C.s dY.own) (by simp[rI])) trivial)|refine CM ?_ ?_)))
 obtain rfl:q=h.a7.a6.length:=ω
 rw[X5]at o aq
 repeat'(first|refine gE ?_|(conv=>whnf);first|refine C9 (zX h.y Z) ?_)
 (conv=>whnf)
 refine CJ (ι:=Nat × List Int) (λq=>[(1,.H .box (ac.enc .V h)),(3,.H .one (aH .own q.2)),(10,.H .one (aH .own (aR h.y))),(11,.H .one [I ((q.1:Nat):Int)])]) (λq=>q.1<=(aR h.y).length/\q.2=N++(aR h.y).take q.1/\((aR h.y).take q.1).all (kZ h)=true) (λq=>(aR h.y).length - q.1) ((0,N)) ?_ ψ λq M=>?_
 ·exact wB
 obtain⟨q,e⟩:=q;obtain⟨F,p,aq6⟩:=M;simp only at F p aq6 |-;have hl6:e.length=N.length+q:=ψ
 by_cases V:q<(aR h.y).length
 ·have d:=au V
  have b:=y (nth (aR h.y) q) (-1) ψ;cases g:d3 h (nth (aR h.y) q) (-1)<;>rw[g]at b
  ·repeat'(first|refine gE ?_|(conv=>whnf);first|with_reducible refine CE (aa d) ?_|refine CK rfl (aa d) rfl ?_|refine C9 b ?_)
   exact Z0 (λz=>[B z]) ((M5 (gN d g)).symm)
  repeat'(first|refine gE ?_|(conv=>whnf);first|with_reducible refine CE (aa d) ?_|refine CK rfl (aa d) rfl ?_|refine C9 b ?_|refine CU cS (λr l=>by rw[V1.1 l];rfl) (by simp[bk,eD]) (by simp;omega) (by show _*8<=_;simp;omega) rfl ?_)
  ((conv=>whnf)
   refine CF (q+1,e++[nth (aR h.y) q]) ⟨(by simp only;omega),(by grind [I6]),cX d aq6 g⟩ (by simp only;omega) ?_
   (repeat'(first|exact trivial|rfl|exact CM rfl (CM (Z0 (C.s dY.own) (by simp[rI])) trivial)|refine CM ?_ ?_)))
 obtain rfl:q=(aR h.y).length:=ω
 rw[X5]at p aq6;have O:e=holders h:=by rw[p,o,n,Q];rfl
 have hheld:js h=true:=by grind [js]
 have hbig:e.length<=100000000:=ω
 clear p o n Q hSl hl5 J hl6
 repeat'(first|refine gE ?_|fail)
 (conv=>whnf)
 refine Lp.fz 3 (ι:=Nat) (λi=>[(1,.H .box (ac.enc .V h)),(3,.H .one (aH .V e)),(12,.H .one [I ((i:Nat):Int)])]) (λi=>i<=e.length/\(e.take i).Nodup) (λi=>e.length - i) 0 ?_ ψ λi u=>?_
 ·(repeat'(first|exact trivial|rfl|exact CM rfl (show PQ (dG (aH .own e)) (aH .V e) by rw[dK];exact n6 _)|refine CM ?_ ?_))
 obtain⟨u,P⟩:=u;by_cases lj:i<e.length
 ·have d:=au lj
  have htl:(e.take i).length=i:=ψ
  repeat'(first|refine gE ?_|(conv=>whnf);first|with_reducible (first|refine CE (aa d) ?_|refine Bf.D (λM=>?_) (λM=>?_))|refine CZ i rfl (by simp;omega) (λr l=>by obtain⟨z,-,rfl⟩:=Y4.1 l;rfl) (W4 ..) ?_|refine C9 (np (e.take i) _ ω) ?_)
  all_goals first
   | exact Z0 (λz=>[B z]) ((by rw[O]at *;exact(MC (by assumption) (by assumption)).symm))
   | ((conv=>whnf);refine CF (i+1) ⟨ω,by rw[I6,d];exact lP P (by assumption)⟩ ω ?_;(exact wB))
 obtain rfl:i=e.length:=ω
 rw[X5]at P;have hlv:=B5 h.K h.M 512
 repeat'(first|refine gE ?_|(conv=>whnf);first|refine C9 (xD h.K h.M G H t) ?_)
 exact Z0 (λz=>[B z]) ((by grind [jx]))
set_option maxHeartbeats 8000000
def du(h:ac):Bool:=(bQ h.y&&decide (h.S.length=h.y.U.length))&&gi h.a7
def dM(h:ac):Bool:=((((((kM h&&tD h)&&du h)&&mF h)&&h.S.all bx)&&cq h)&&(gj h&&jx h))&&tF h
theorem vW(h:ac)(X:ac.sml h)(Y:ac.wf h):zzA 73 false [.val (some 24) (ac.enc .V h)] .one [B (dM h)]:=by
 have M:=X;have O:=Y;obtain⟨u,w,b,j,P,y,C,E,F⟩:=X;obtain⟨-,-,-,-,Q,hwc,hwm,hwq,-⟩:=Y;have l:zo h:=u.1.2;have hpn:eU h<=1048576:=l.1;have R:h.O.length<=1048576:=P.1;have S:h.S.length<=1048576:=y.1;have hlq:h.a7.a6.length<=1048576:=E.1;have hlb:h.y.U.length<=1048576:=C.1.1;have d:=mJ h.G u;have e:=mQ (eU h) h.j ω w;have g:=mI h.K h.M b j;have r:=EJ h b l;have G:=ml h.y C;have T:=pA h.a7 E;cases Z:aC h.G<;>rw[Z]at d
 ·refine fO 150 [(8,10,[67,68,69,70,71,72,73,74,75,76])] Tryz.func73 rfl ?_
  repeat'(first|refine gP ?_|(conv=>whnf);first|with_reducible refine Bf.N (λa=>?_) (λa=>?_)|refine C9 d ?_)
  all_goals first
   | exact Z0 (λz=>[B z]) ((by unfold dM kM;rw[Z];simp))
   |(exfalso;omega)
 cases e2:bG (eU h) h.j<;>rw[e2]at e
 ·refine fO 150 [(8,10,[67,68,69,70,71,72,73,74,75,76])] Tryz.func73 rfl ?_
  repeat'(first|refine gP ?_|(conv=>whnf);first|with_reducible refine Bf.N (λa=>?_) (λa=>?_)|refine C9 d ?_|refine C9 e ?_)
  all_goals first
   | exact Z0 (λz=>[B z]) ((by unfold dM kM;rw[e2];simp))
   |(exfalso;omega)
 cases H:bq h.K h.M<;>rw[H]at g
 ·refine fO 150 [(8,10,[67,68,69,70,71,72,73,74,75,76])] Tryz.func73 rfl ?_
  repeat'(first|refine gP ?_|(conv=>whnf);first|with_reducible refine Bf.N (λa=>?_) (λa=>?_)|refine C9 d ?_|refine C9 e ?_|refine C9 g ?_)
  all_goals first
   | exact Z0 (λz=>[B z]) ((by unfold dM kM;rw[H];simp))
   |(exfalso;omega)
 have n:=G4 h b j l w H;cases e4:pages0 h<;>rw[e4]at n
 ·refine fO 150 [(8,10,[67,68,69,70,71,72,73,74,75,76])] Tryz.func73 rfl ?_
  repeat'(first|refine gP ?_|(conv=>whnf);first|with_reducible refine Bf.N (λa=>?_) (λa=>?_)|refine C9 d ?_|refine C9 e ?_|refine C9 g ?_|refine C9 n ?_)
  all_goals first
   | exact Z0 (λz=>[B z]) ((by unfold dM kM;rw[e4];simp))
   |(exfalso;omega)
 cases e5:tD h<;>rw[e5]at r
 ·refine fO 150 [(8,10,[67,68,69,70,71,72,73,74,75,76])] Tryz.func73 rfl ?_
  repeat'(first|refine gP ?_|(conv=>whnf);first|with_reducible refine Bf.N (λa=>?_) (λa=>?_)|refine C9 d ?_|refine C9 e ?_|refine C9 g ?_|refine C9 n ?_|refine C9 r ?_)
  all_goals first
   | exact Z0 (λz=>[B z]) ((by unfold dM ;rw[e5];simp))
   |(exfalso;omega)
 cases U:bQ h.y<;>rw[U]at G
 ·refine fO 150 [(8,10,[67,68,69,70,71,72,73,74,75,76])] Tryz.func73 rfl ?_
  repeat'(first|refine gP ?_|(conv=>whnf);first|with_reducible refine Bf.N (λa=>?_) (λa=>?_)|refine C9 d ?_|refine C9 e ?_|refine C9 g ?_|refine C9 n ?_|refine C9 r ?_|refine C9 G ?_)
  all_goals first
   | exact Z0 (λz=>[B z]) ((by unfold dM du;rw[U];simp))
   |(exfalso;omega)
 by_cases V:h.S.length=h.y.U.length;rotate_left
 ·refine fO 150 [(8,10,[67,68,69,70,71,72,73,74,75,76])] Tryz.func73 rfl ?_
  repeat'(first|refine gP ?_|(conv=>whnf);first|with_reducible refine Bf.N (λa=>?_) (λa=>?_)|refine C9 d ?_|refine C9 e ?_|refine C9 g ?_|refine C9 n ?_|refine C9 r ?_|refine C9 G ?_)
  all_goals first
   | exact Z0 (λz=>[B z]) ((by unfold dM du;rw[W0 V];simp))
   |(exfalso;omega)
 cases e7:gi h.a7<;>rw[e7]at T
 ·refine fO 150 [(8,10,[67,68,69,70,71,72,73,74,75,76])] Tryz.func73 rfl ?_
  repeat'(first|refine gP ?_|(conv=>whnf);first|with_reducible refine Bf.N (λa=>?_) (λa=>?_)|refine C9 d ?_|refine C9 e ?_|refine C9 g ?_|refine C9 n ?_|refine C9 r ?_|refine C9 G ?_|refine C9 T ?_)
  all_goals first
   | exact Z0 (λz=>[B z]) ((by unfold dM du;rw[e7];simp))
   |(exfalso;omega)
 have hlay:kM h=true:=by grind [kM]
 have hmc:du h=true:=by grind [du]
 refine fO 150 [(8,10,[67,68,69,70,71,72,73,74,75,76])] Tryz.func73 rfl ?_
 repeat'(first|refine gB ?_|(conv=>whnf);first|with_reducible refine Bf.N (λa=>?_) (λa=>?_)|refine C9 d ?_|refine C9 e ?_|refine C9 g ?_|refine C9 n ?_|refine C9 r ?_|refine C9 G ?_|refine C9 T ?_)
 all_goals try(exfalso;omega)
 (conv=>whnf)
 refine CJ (ι:=Nat) (λi=>[(1,.H .box (ac.enc .V h)),(3,.H .one [I ((i:Nat):Int)])]) (λi=>i<=h.a7.a6.length/\(h.a7.a6.take i).all (λx=>decide (x.b7<=h.b2))=true) (λi=>h.a7.a6.length - i) (0) ?_ ψ λi hi=>?_
 ·exact wB
 obtain⟨hi,ai⟩:=hi;by_cases li:i<h.a7.a6.length
 ·have p:=au li
  repeat'(first|refine gE ?_|(conv=>whnf);first|with_reducible (first|refine CE (aa p) ?_|refine Bf.D (λa=>?_) (λa=>?_)))
  all_goals first
   | exact Z0 (λz=>[B z]) ((by unfold dM mF;rw[gN p (W0 ω)];simp))
   | ((conv=>whnf);refine CF (i+1) ⟨ω,cX p ai (O0 ω)⟩ ω ?_;(exact wB))
 have hsi:mF h=true:=oh ω ai
 repeat'(first|refine gE ?_|fail)
 (conv=>whnf)
 refine CJ (ι:=Nat) (λk=>[(1,.H .box (ac.enc .V h)),(4,.H .one [I ((k:Nat):Int)])]) (λk=>k<=h.S.length/\(h.S.take k).all bx=true) (λk=>h.S.length - k) (0) ?_ ψ λk hk=>?_
 ·exact wB
 obtain⟨hk,ak⟩:=hk;by_cases lk:k<h.S.length
 ·have p:=au lk
  have W:=nR (nth h.S k) (y.2 _ (ar lk));cases e8:bx (nth h.S k)<;>rw[e8]at W
  ·repeat'(first|refine gE ?_|(conv=>whnf);first|with_reducible refine CE (aa p) ?_|refine C9 W ?_)
   exact Z0 (λz=>[B z]) ((by grind [dM]))
  repeat'(first|refine gE ?_|(conv=>whnf);first|with_reducible refine CE (aa p) ?_|refine C9 W ?_)
  ((conv=>whnf);refine CF (k+1) ⟨ω,cX p ak e8⟩ ω ?_;(exact wB))
 have hca:h.S.all bx=true:=oh ω ak;have q:=HZ h b j H R S (λo ho=>(Q.2 o ho).2.1);have c10:=HS h M O H U ψ;have c11:=MO h.Z F;have c12:=y2 h.Z F;have c13:=kq h h.Z.X.a4 b.1;have c14:=kq h h.Z.X.a2 b.1;by_cases hn:cq h=true;rotate_left
 ·have J:cq h=false:=by simpa using hn
  have c:=J;unfold cq at c;rw[z5]at c;cases L:gj h<;>rw[L]at q<;>cases e10:jx h<;>rw[e10]at c10
  all_goals
   repeat'(first|refine gE ?_|(conv=>whnf);first|with_reducible refine Bf.D (λa=>?_) (λa=>?_)|refine C9 (aK _ _ _) ?_|refine C9 q ?_|refine C9 c10 ?_)
   all_goals first
    | exact Z0 (λz=>[B z]) ((by unfold dM;rw[J];simp))
    |(exfalso;omega)
 have c:=hn;unfold cq at c;rw[C0]at c;cases L:gj h<;>rw[L]at q
 ·repeat'(first|refine gE ?_|(conv=>whnf);first|with_reducible refine Bf.D (λa=>?_) (λa=>?_)|refine C9 (aK _ _ _) ?_|refine C9 q ?_)
  all_goals first
   | exact Z0 (λz=>[B z]) ((by unfold dM;rw[L];simp))
   |(exfalso;omega)
 cases e10:jx h<;>rw[e10]at c10
 ·repeat'(first|refine gE ?_|(conv=>whnf);first|with_reducible refine Bf.D (λa=>?_) (λa=>?_)|refine C9 (aK _ _ _) ?_|refine C9 q ?_|refine C9 c10 ?_)
  all_goals first
   | exact Z0 (λz=>[B z]) ((by unfold dM;rw[e10];simp))
   |(exfalso;omega)
 have K:dM h=tF h:=by grind [dM]
 rw[K];unfold tF;cases em:h.u
 ·repeat'(first|refine gE ?_|(conv=>whnf);first|with_reducible refine Bf.D (λa=>?_) (λa=>?_)|refine C9 (aK _ _ _) ?_|refine C9 q ?_|refine C9 c10 ?_|refine C9 c11 ?_|refine Bf.f em ?_)
  grind
 cases e12:kj h.Z<;>rw[e12]at c12
 all_goals
  repeat'(first|refine gE ?_|(conv=>whnf);first|with_reducible (first|refine Bf.D (λa=>?_) (λa=>?_)|refine Bf.D (λa=>?_) (λa=>?_))|refine C9 (aK _ _ _) ?_|refine C9 q ?_|refine C9 c10 ?_|refine C9 c12 ?_|refine C9 c13 ?_|refine C9 c14 ?_|refine Bf.t em ?_)
  all_goals first
   | exact Z0 (λz=>[B z]) (ψ)
   |(exfalso;omega)
end Go.Proofs.YtiopgblagimpmaaGreat.Ab
