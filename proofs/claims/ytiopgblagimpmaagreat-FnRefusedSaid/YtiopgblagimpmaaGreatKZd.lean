/- When the parts of a heap are valid, as plain functions over its data. No condition. -/
import Derived.Test.YtiopgblagimpmaaGreatKZc
import Derived.Test.YtiopgblagimpmaaGreatKZShelf
set_option linter.unusedVariables false
set_option linter.defProp false
set_option linter.unusedSimpArgs false
set_option linter.constructorNameAsVariable false
namespace Go.Proofs.YtiopgblagimpmaaGreat.Ab
section
variable{α:Type}{l:List α}{p:α->Bool}{i:Nat}{x:α}
theorem dL(h:l[i]? = some x)(a:(l.take i).all p=true)(b:p x=true):(l.take (i+1)).all p=true:=by grind [CB]
theorem iY(h:l[i]? = some x)(a:p x=false):l.all p=false:=ψ
theorem qq(a:l.length<=i)(b:(l.take i).all p=true):l.all p=true:=by grind [CF]
end
variable{i:Nat}{α:Type}
theorem zD{β:Type}{a:List α}{b:List β}{x:α}{y:β}(h1:a[i]? = some x)(h2:b[i]? = some y):(a.zip b)[i]? = some (x,y):=ψ
def nth[Inhabited α](xs:List α)(i:Nat):α:=xs.getD i default
theorem ar[Inhabited α]{xs:List α}(h:i<xs.length):xs[i]? = some (nth xs i):=by grind [nth]
theorem br[Inhabited α]{xs:List α}{y:α}(h:xs[i]? = some y):nth xs i=y:=by grind [nth]
theorem ax[Inhabited α]{xs:List α}(h:i<xs.length):nth xs i∈xs:=t4 (ar h)
def dq(n:Nat)(p:Nat->Bool):Bool:=(List.range n).all p
variable{n:Nat}
theorem cK{p:Nat->Bool} : dq n p=true↔∀j,j<n->p j=true:=by
 unfold dq;simp
theorem bF{p:Nat->Bool}(h:dq n p=true)(a:p n=true):dq (n+1) p=true:=by grind [cK]
theorem cC{p:Nat->Bool}(a:i<n)(b:p i=false):dq n p=false:=by grind [cK]
theorem fS{p:Nat->Bool}(h:dq n p=true)(a:i<n):p i=true:=cK.1 h i a
def kw(u:Bool)(v:Int):Bool:=decide (0<=v/\v<=999)&&(u || decide (v=0))
def jw(r:List Int)(u:Bool):Bool:=decide (r.length=16)&&r.all (kw u)
def dE(f:aZ):Bool:=decide (1<=f.T.length/\f.T.length<=32)&&(decide (f.a6.length=f.T.length)&&(f.T.zip f.a6).all λq=>jw q.1 q.2)
def kr{f:aZ}{r:List Int}{u:Bool}(h1:f.T[i]? = some r)(h2:f.a6[i]? = some u)(a:jw r u=false):dE f=false:=by
 unfold dE;rw[iY (p:=λq=>jw q.1 q.2) (zD h1 h2) a];simp
variable{k:Nat}
theorem wb{r:List Int}{u:Bool}{v:Int}(h1:r[k]? = some v)(h2:kw u v=false):jw r u=false:=by grind [jw]
theorem HI{f:aZ}(h:dE f=true):1<=f.T.length/\f.T.length<=32/\f.a6.length=f.T.length:=by grind [dE]
def nK(a:Int)(e:bo):Bool:=decide (0<=e.e/\e.e<=2/\(e.e=0->e.j=0)/\(e.e≠0->0<=e.j/\e.j<a))
def iH(t:aO)(a:Int):Bool:=dq t.M.length (λi=>nK a (nth t.M i))&&decide (1<=t.M.length/\t.M.length<=32)
def Tg(t:aO)(f:Int)(i:Nat):Bool:=decide ((nth t.M i).e≠0/\(nth t.M i).j=f)
def m0(t:aO)(f:Int)(n:Nat):List Int:=((List.range n).filter (Tg t f)).map λ(i:Nat)=>(i:Int)
def pagesOn(t:aO)(f:Int):List Int:=m0 t f t.M.length
theorem FS{t:aO}{f:Int}(h:Tg t f n=true):m0 t f (n+1)=m0 t f n++[(n:Int)]:=by grind [List.range_succ,m0]
theorem KV{t:aO}{f:Int}(h:Tg t f n=false):m0 t f (n+1)=m0 t f n:=by grind [List.range_succ,m0]
theorem xi(t:aO)(f:Int)(n:Nat):(m0 t f n).length<=n:=by grind [m0]
def af(t:aO)(p:Int):bo:=if 0<=p/\p<t.M.length then nth t.M p.toNat else⟨0,0⟩
def rN(m:aT)(i:Nat):Bool:=nth m.V.a6 i == decide (0<(pagesOn m.O (i:Int)).length)
def dB(m:aT):Bool:=(dE m.V&&iH m.O m.V.a6.length)&&dq m.V.a6.length (rN m)
def aI(k:ah):Bool:=(dq k.a3.length (λi=>decide (0<=nth k.a3 i))&&dB k.F)&&decide (0<=k.Calls/\k.Calls<=100000/\k.a3.length<=40)
def rangeIn(pages:Int)(r:aG):Bool:=decide (1<=r.a8/\r.a8<=pages/\0<=r.At/\r.At<=pages - r.a8)
def iJ(pages:Int)(xs:List aG)(i:Nat):Bool:=rangeIn pages (nth xs i)&&decide (i=0\/(nth xs (i - 1)).At+(nth xs (i - 1)).a8<(nth xs i).At)
def bN(pages:Int)(xs:List aG):Bool:=dq xs.length (iJ pages xs)&&decide (1<=pages/\pages<=32)
def zj(page:Int)(r:aG):Bool:=decide (r.At<=page)&&decide (page<IntKind.i64.wrap (r.At+r.a8))
def lim(k:Int):Int:=if k=0 then 65535 else if k=1 then 255 else if k=2 then 15 else if k=3 then 3 else 0
def slots(k:Int):Int:=if k=0 then 16 else if k=1 then 8 else if k=2 then 4 else if k=3 then 2 else 0
def bk(s:aB):Bool:=decide (0<=s.Q/\s.Q<=31/\0<=s.d/\s.d<=3/\0<=s.a9/\s.a9<=lim s.d)
def fF(n:Int):Int:=if 9<=n/\n<=1000 then(n+15) / 16 else 0
def bI(l:aC):Bool:=decide (9<=l.k/\l.k<=1000/\l.a1=(l.k+15) / 16/\0<=l.Q/\l.Q<=32 - l.a1)
def lpgs(l:aC)(n:Nat):List Int:=(List.range n).map λ(i:Nat)=>l.Q+i
def pgs(sp:List aB)(la:List aC):List Int:=sp.map (·.Q)++la.flatMap λl=>lpgs l l.a1.toNat
def b8(sp:List aB)(la:List aC):Bool:=(sp.all bk&&la.all bI)&&decide (pgs sp la).Nodup
def dP(s:aB)(a:Int):Bool:=bk s&&decide (16*s.Q<=a/\a<=16*s.Q+15)
def bc(b i:Int):Bool:=decide (0<=b/\0<=i/\i<=15/\b / 2 ^ i.toNat % 2=1)
def b9(l:aC)(a:Int):Bool:=bI l&&decide (16*l.Q<=a/\a<=16*l.Q+l.k - 1)
def csz(k:Int):Int:=if 0<=k/\k<=3 then 2 ^ k.toNat else 0
def kP(s:aB)(a:Int):Int × Int:=if dP s a then((a - 16*s.Q) / csz s.d,(a - 16*s.Q) % csz s.d) else(-1,-1)
def qv(i:Nat)(s:aB)(a:Int):lG:=⟨if bc s.a9 ((a - 16*s.Q) / csz s.d) then 1 else 2,i,(a - 16*s.Q) / csz s.d,(a - 16*s.Q) % csz s.d⟩
def denotes(sp:List aB)(la:List aC)(a:Int):lG:=
 match sp.findIdx? (dP · a) with
 | some i=>qv i (nth sp i) a
 | none=>match la.findIdx? (b9 · a) with
  | some i=>⟨3,i,0,a - 16*(nth la i).Q⟩
  | none=>⟨0,0,0,0⟩
theorem zF{pr:α->Bool}{xs:List α}{y:α}(a:xs[i]? = some y)(b:pr y=true)(c:∀(j:Nat)(z:α),j<i->xs[j]? = some z->pr z=false):xs.findIdx? pr=some i:=by grind [SE]
theorem GA{pr:α->Bool}{xs:List α}(a:xs.length<=i)(b:∀(j:Nat)(z:α),j<i->xs[j]? = some z->pr z=false):xs.findIdx? pr=none:=
 List.findIdx?_eq_none_iff.2 λz c=>by grind [List.mem_iff_getElem?]
theorem fh{pr:α->Bool}{xs:List α}{y:α}(a:xs[i]? = some y)(b:pr y=false)(c:∀(j:Nat)(z:α),j<i->xs[j]? = some z->pr z=false):∀(j:Nat)(z:α),j<i+1->xs[j]? = some z->pr z=false:=ψ
def bU(pr:α->Bool)(xs:List α):Int:=match xs.findIdx? pr with|some i=>(i:Nat)|none=>-1
theorem df{pr:α->Bool}{xs:List α}{y:α}(a:xs[i]? = some y)(b:pr y=true)(c:∀(j:Nat)(z:α),j<i->xs[j]? = some z->pr z=false):bU pr xs=(i:Nat):=by
 unfold bU;rw[zF a b c]
theorem eY{pr:α->Bool}{xs:List α}(a:xs.length<=i)(b:∀(j:Nat)(z:α),j<i->xs[j]? = some z->pr z=false):bU pr xs = -1:=by grind [GA,bU]
theorem iD(pr:α->Bool)(xs:List α):decide (bU pr xs≥0)=xs.any pr:=by grind [bU]
def meshable(s t:aB):Bool:=(bk s&&bk t)&&decide (s.d=t.d/\s.Q≠t.Q/\s.a9.toNat &&& t.a9.toNat=0)
def qW(n:Int)(p:dA):Bool:=decide (0<=p.To/\p.To<=n - 1/\0<=p.Addr)
def VX(z:Int):Bool:=decide (0<=z)
def jo(m:aP)(i:Nat):Bool:=(nth m.U i).all (qW m.U.length)&&(nth m.a0 i).all VX
def bQ(m:aP):Nat->Int
 | 0=>0
 | i+1=>bQ m i+((nth m.U i).length+(nth m.a0 i).length)
def bG(m:aP):Bool:=(decide (1<=m.U.length/\m.U.length<=4/\m.a0.length=m.U.length)&&dq m.U.length (jo m))&&decide (bQ m m.U.length<=30)
def aL(m:aP):List Int:=if bG m then(m.U.flatMap λl=>l.map (·.Addr))++m.a0.flatten else []
def eL(a:Int)(y:aV):Bool:=decide (y.Addr=a)
def lZ(xs:List aV)(i:Nat):Bool:=decide (0<=(nth xs i).d/\(nth xs i).d<=3/\0<=(nth xs i).Addr/\0<=(nth xs i).b5/\(i=0\/(nth xs (i - 1)).b5<=(nth xs i).b5))&&!(xs.take i).any (eL (nth xs i).Addr)
def quarCells(xs:List aV):Nat->Int
 | 0=>0
 | i+1=>quarCells xs i+csz (nth xs i).d
def gu(q:bv):Bool:=dq q.y.length (lZ q.y)&&decide (0<=q.b7/\q.b7<=500/\quarCells q.y q.y.length<=q.b7)
def po(xs:List Int)(i:Nat):Bool:=decide (0<=nth xs i/\nth xs i<=15/\(i=0\/nth xs (i - 1)<nth xs i))
def gc(p:cL):Bool:=dq p.T.length (po p.T)&&decide (0<=p.a4/\p.a4<=31/\0<=p.a5/\p.a5<=31/\p.a4≠p.a5)
def lB(j:cY):Bool:=gc j.X&&decide (0<=j.b0/\j.b0<=5/\0<=j.b/\j.b<=j.X.T.length)
def w6(j:cY):Bool:=decide (j.X.a4=0/\j.X.a5=0/\j.X.T.length=0/\j.b0=0/\j.b=0)
def aX(h:ac)(p:Int):List Int:=if(af h.G.F.O p).e=0 then [] else pagesOn h.G.F.O (af h.G.F.O p).j
def nG(p:Int)(s:aB):Bool:=decide (s.Q=p)
def gk(h:ac)(p:Int):Int:=bU (nG p) h.K
def aN(n:Int):Int:=if n<1 then -1 else if n<=1 then 0 else if n<=2 then 1 else if n<=4 then 2 else if n<=8 then 3 else -1
open Go.RowKit
set_option maxRecDepth 20000
set_option maxHeartbeats 2000000
def aQ(n lo a:Int):zzA 110 false [.vI n,.vI lo,.vI a] .one [B (decide (lo<=n/\n<=a))]:=by
 refine fO 15 [] Tryz.func110 rfl ?_
 repeat'(first|refine gP ?_|refine gS (λb=>?_) (λb=>?_)|fail)
 all_goals exact bZ (by simp;try omega)
def aK(n lo a:Int):zzA 63 false [.vI n,.vI lo,.vI a] .one [B (decide (lo<=n/\n<=a))]:=by
 refine fO 15 [] Tryz.func63 rfl ?_
 repeat'(first|refine gP ?_|refine gS (λb=>?_) (λb=>?_)|fail)
 all_goals exact bZ (by simp;try omega)
def gQ(k:Int):zzA 232 false [.vI k] .one [B (decide (0<=k/\k<=3))]:=by
 refine fO 5 [] Tryz.func232 rfl ?_
 repeat'(first|refine gP ?_|refine CG (aK k 0 3) ?_)
 rfl
theorem cq(k:Int):zzA 106 false [.vI k] .one [I (csz k)]:=by
 by_cases b:0<=k/\k<=3
 ·obtain rfl|rfl|rfl|rfl:k=0\/k=1\/k=2\/k=3:=ω
  all_goals
   refine fO 8 [] Tryz.func106 rfl ?_
   repeat'(first|refine gE ?_|refine gS (λa=>?_) (λa=>?_)|refine CG (gQ _) ?_|refine CT qs ?_|refine CS rfl ?_)
   exact nO qs
 refine fO 8 [] Tryz.func106 rfl ?_
 repeat'(first|refine gE ?_|refine gS (λa=>?_) (λa=>?_)|refine CG (gQ _) ?_)
 exact nO (by grind [csz])
theorem ef(k:Int):zzA 361 false [.vI k] .one [I (csz k)]:=by
 by_cases b:0<=k/\k<=3
 ·obtain rfl|rfl|rfl|rfl:k=0\/k=1\/k=2\/k=3:=ω
  all_goals
   refine fO 9 [] Tryz.func361 rfl ?_
   repeat'(first|refine gE ?_|refine gS (λa=>?_) (λa=>?_)|refine CG (aQ _ 0 3) ?_|refine CT qs ?_|refine CS rfl ?_)
   exact nO qs
 refine fO 9 [] Tryz.func361 rfl ?_
 repeat'(first|refine gE ?_|refine gS (λa=>?_) (λa=>?_)|refine CG (aQ _ 0 3) ?_)
 exact nO (by grind [csz])
theorem ql(xs:List Int)(a:Int)(h:xs.length<=9223372036854775807):zzA 353 false [.val none (aF .S xs),.vI a] .one [B (decide (a∈xs))]:=by
 refine fO 18 [] Tryz.func353 rfl ?_
 refine σP ?_
 refine gK xs.length (λi=>[(0,bJ (aF .S xs)),(1,fI a),(5,fN i)]) (λi=>a∉xs.take i) ψ λi c=>?_
 obtain⟨c,d⟩:=c;by_cases b:i<xs.length
 ·obtain⟨y,e⟩ : ∃y,xs[i]? = some y:=⟨_,z4 b⟩
  repeat'(first|refine gE ?_|refine gS (λg=>?_) (λg=>?_)|fail)
  ·exact bZ ψ
  (conv=>whnf)
  refine CR (i+1) ⟨ω,?_⟩ ω ?_
  ·grind [CB]
  exact wB
 refine σE ?_
 rw[CF ω]at d;exact bZ ψ
set_option maxHeartbeats 4000000
def good(k:Int)(s:List Int)(a:Int):Prop:=0<=a/\a<=511/\a.tmod (csz k)=0/\a∉s
instance (k:Int) (s:List Int) (a:Int):Decidable (good k s a):=by unfold good;exact inferInstance
def wP(k:Int):List Int->List Int->Option (List Int)
 | s,[]=>some s
 | s,a::l=>if good k s a then wP k (s++[a]) l else none
def gM(k:Nat)(s l:List Int):Option (List Int):=if l.length<=8/\k<=3 then wP k s l else none
def jj:Nat->List Int->List (List Int)->Option (List Int)
 | _,s,[]=>some s
 | k,s,l::ls=>(gM k s l).bind λa=>jj (k+1) a ls
def bx(c:aE):Bool:=decide (c.Y.length=4)&&(jj 0 [] c.Y).isSome
theorem uO(k:Int):∀(a s b:List Int),wP k s (a++b)=(wP k s a).bind λc=>wP k c b
 | [],s,b=>rfl
 | x::a,s,b=>by
  simp only[List.cons_append,wP];split
  ·exact uO k a _ b
  rfl
theorem sv:∀(a:List (List Int))(k:Nat)(s:List Int)(b:List (List Int)),jj k s (a++b)=(jj k s a).bind λc=>jj (k+a.length) c b
 | [],k,s,b=>rfl
 | l::a,k,s,b=>by
  simp only[List.cons_append,jj,Option.bind_assoc,List.length_cons]
  congr 1;funext c
  rw[sv a (k+1) c b,show k+1+a.length=k+(a.length+1) by omega]
variable{a:Int}{j:Nat}{l:List Int}
theorem Qh{k:Int}{b s:List Int}(c:l[j]? = some a)(h:wP k b (l.take j)=some s)(d:good k s a):wP k b (l.take (j+1))=some (s++[a]):=by grind [CB,uO,wP]
theorem Uw{b s:List Int}(c:l[j]? = some a)(h:wP k b (l.take j)=some s)(d:¬good k s a):gM k b l=none:=by
 unfold gM;split
 all_goals grind [List.drop_eq_getElem_cons,List.take_append_drop,uO,wP]
theorem J1{k:Int} : ∀{l s b:List Int},wP k s l=some b->b.length=s.length+l.length
 | [],s,b,h=>by grind [wP]
 | a::l,s,b,h=>by
  simp only[wP]at h;split at h
  ·have:=J1 h;grind
  cases h
theorem xp{a:List (List Int)}{s:List Int}(b:a[i]? = some l)(h:jj 0 [] (a.take i)=some s):jj 0 [] (a.take (i+1))=gM i s l:=by
 have c:=(C4.1 b).1;rw[CB,b,Option.toList_some,sv,h];simp only[Option.bind_some,jj,OE,I3,Nat.min_eq_left (Nat.le_of_lt c)]
 grind
variable{c:aE}
theorem ov{s:List Int}(a:c.Y[i]? = some l)(h:jj 0 [] (c.Y.take i)=some s)(b:gM i s l=none):bx c=false:=by
 have d:=xp a h
 grind [List.take_append_drop,sv,bx]
theorem Mo:∀{b:List (List Int)}{k:Nat}{s a:List Int},jj k s b=some a->a.length<=s.length+8*b.length
 | [],k,s,a,h=>by grind [jj]
 | l::b,k,s,a,h=>by
  simp only[jj]at h;unfold gM at h;split at h
  ·cases c:wP k s l with
   | none=>grind
   | some d=>
    rw[c]at h;have e:=J1 c;have f:=Mo (show jj (k+1) d b=some a from h)
    grind
  cases h
def Uo(h:i<=3):csz (i:Int)≠0:=by
 obtain rfl|rfl|rfl|rfl:i=0\/i=1\/i=2\/i=3:=ω
 all_goals decide
def cA : ∀r∈l.map (rI .own),r.length=1:=by
 intro r a;obtain⟨z,-,rfl⟩:=O8.1 a;rfl
theorem qp(c:aE)(t:aE.sml c):zzA 214 false [.val (some 1) (aE.enc .S c)] .one [B (bx c)]:=by
 have E:=t.1;refine fO 60 [] Tryz.func214 rfl ?_
 repeat'(first|refine gP ?_|refine gS (λe=>?_) (λe=>?_)|fail)
 ·exact bZ (by grind [bx])
 have F:c.Y.length=4:=ω
 (conv=>whnf)
 refine mD (ι:=Nat × List Int) (λi=>[(1,bB (aE.enc .S c)),(3,bJ (aF .own i.2)),(4,fI (i.1:Nat))]) (λi=>i.1<=4/\jj 0 [] (c.Y.take i.1)=some i.2) (λi=>4 - i.1) (0,[]) ⟨I1 _,rfl⟩ λi k=>?_
 obtain⟨i,s⟩:=i;obtain⟨k,b⟩:=k;simp only at k b |-;have g:=Mo b;rw[I3]at g;simp only[List.length_nil]at g;by_cases u:i<4
 ·obtain⟨l,d⟩ : ∃l,c.Y[i]? = some l:=(ψ)
  have w:l.length<=1048576:=t.2 l ψ
  repeat'(first|refine gE ?_|refine gS (λe=>?_) (λe=>?_)|fail)
  ·exact bZ (ov d b (by grind [gM])).symm
  have C:l.length<=8:=ω
  (conv=>whnf)
  refine mD (ι:=Nat × List Int) (λj=>[(1,bB (aE.enc .S c)),(3,bJ (aF .own j.2)),(4,fN i),(5,fI (j.1:Nat))]) (λj=>j.1<=l.length/\wP i s (l.take j.1)=some j.2) (λj=>l.length - j.1) (0,s) ⟨I1 _,rfl⟩ λj n=>?_
  obtain⟨j,o⟩:=j;obtain⟨n,a⟩:=n;simp only at n a |-;have h:=J1 a;rw[I3]at h;by_cases p:j<l.length
  ·obtain⟨y,q⟩ : ∃y,l[j]? = some y:=⟨_,z4 p⟩
   repeat'(first|refine gE ?_|refine gS (λe=>?_) (λe=>?_)|refine CG (aQ y 0 511) ?_|refine CG (ef (i:Nat)) ?_|refine CT (Uo ω) ?_|refine CX rfl ?_|refine CN (ql o y ω) ⟨⟨rfl,cR _⟩,⟨rfl,rfl⟩,tV1⟩ ?_|refine Ca cA (λr D=>by rw[z3.1 D];rfl) (by simp[bp,eO]) jp (by simp only[I2];exact vm jp qs) rfl ?_)
   all_goals first
    | exact bZ (ov d b (Uw q a λ⟨G,H,J,K⟩=>by first|contradiction|omega)).symm
    | ((conv=>whnf)
       refine CR (j+1,o++[y]) ⟨(by simp only;omega),Qh q a ⟨ω,ω,(by assumption),(by assumption)⟩⟩ (by simp only;omega) ?_
       (exact wD))
  refine σE ?_
  rw[CF ω]at a;exact cV (i+1,o) ⟨(by simp only;omega),(by rw[xp d b];grind [gM])⟩
 refine σE ?_
 rw[CF ω]at b;exact bZ (by grind [bx])
def ig(s:List Int):List (Int × Value):=s.map λa=>(a,.bool true)
theorem qo(a:Int):∀(s:List Int),mlook (ig s) a (.bool false)=.bool (decide (a∈s))
 | []=>by simp[ig,mlook]
 | x::s=>by
  have b:=qo a s
  grind [ig,mlook]
theorem ya{a:Int} : ∀{s:List Int},a∉s->ig (s++[a])=mput (ig s) a (.bool true)
 | [],_=>rfl
 | x::s,h=>by
  simp only[List.mem_cons,not_or]at h;have b:=ya h.2
  grind [ig,mput]
theorem kL(c:aE)(p:aE.sml c):zzA 80 false [.val (some 1) (aE.enc .S c)] .one [B (bx c)]:=by
 have w:=p.1;refine fO 54 [] Tryz.func80 rfl ?_
 refine σP ?_
 refine mD (ι:=Nat × List Int) (λi=>[(1,bB (aE.enc .S c)),(3,bJ [.m (ig i.2)]),(10,bJ (iR .S c.Y)),(11,fI c.Y.length),(12,fI (i.1:Nat))]) (λi=>i.1<=c.Y.length/\jj 0 [] (c.Y.take i.1)=some i.2) (λi=>c.Y.length - i.1) (0,[]) ⟨I1 _,rfl⟩ λi e=>?_
 obtain⟨i,s⟩:=i;obtain⟨e,d⟩:=e;simp only at e d |-;by_cases q:i<c.Y.length
 ·obtain⟨l,b⟩ : ∃l,c.Y[i]? = some l:=(ψ)
  have r:l.length<=1048576:=p.2 l ψ
  repeat'(first|refine gE ?_|refine gS (λg=>?_) (λg=>?_)|refine CG (gQ (i:Nat)) ?_)
  ·exact bZ (ov b d (by grind [gM])).symm
  rotate_left
  ·exact bZ (ov b d (by grind [gM])).symm
  have t:l.length<=8:=ω
  have u:i<=3:=ω
  (conv=>whnf)
  refine mD (ι:=Nat × List Int) (λj=>[(1,bB (aE.enc .S c)),(3,bJ [.m (ig j.2)]),(4,fN i),(10,bJ (iR .S c.Y)),(11,fI c.Y.length),(12,fN i),(25,bJ (aF .S l)),(26,fI l.length),(27,fI (j.1:Nat))]) (λj=>j.1<=l.length/\wP i s (l.take j.1)=some j.2) (λj=>l.length - j.1) (0,s) ⟨I1 _,rfl⟩ λj h=>?_
  obtain⟨j,k⟩:=j;obtain⟨h,a⟩:=h;simp only at h a |-;by_cases n:j<l.length
  ·obtain⟨y,o⟩ : ∃y,l[j]? = some y:=⟨_,z4 n⟩
   repeat'(first|refine gE ?_|refine gS (λg=>?_) (λg=>?_)|refine CG (aK y 0 511) ?_|refine CG (cq (i:Nat)) ?_|refine CT (Uo ω) ?_|refine CX rfl ?_|refine Ml.mk (qo y k) ?_|refine Mu.mk (ya (by assumption)) ?_)
   all_goals first
    | exact bZ (ov b d (Uw o a λ⟨C,D,E,F⟩=>by first|contradiction|omega)).symm
    | ((conv=>whnf)
       refine CR (j+1,k++[y]) ⟨(by simp only;omega),Qh o a ⟨ω,ω,(by assumption),(by assumption)⟩⟩ (by simp only;omega) ?_
       (exact wA))
  refine σE ?_
  rw[CF ω]at a;exact cV (i+1,k) ⟨(by simp only;omega),(by rw[xp b d];grind [gM])⟩
 refine σE ?_
 grind [C1,bx]
def dY:Nat->List (List Int)->Int
 | _,[]=>0
 | k,l::ls=>l.length*csz k+dY (k+1) ls
def dn(c:aE):Int:=if bx c then dY 0 c.Y else 0
theorem rn:∀(a:List (List Int))(k:Nat)(l:List Int),dY k (a++[l])=dY k a+l.length*csz (k+a.length:Nat)
 | [],k,l=>by simp[dY]
 | x::a,k,l=>by
  simp only[List.cons_append,dY,List.length_cons];rw[rn a (k+1) l,show k+1+a.length=k+(a.length+1) by omega];omega
theorem pq{a:List (List Int)}(b:a[i]? = some l):dY 0 (a.take (i+1))=dY 0 (a.take i)+l.length*csz i:=by grind [CB,rn]
theorem Q3:∀{b:List (List Int)}{k:Nat}{s c:List Int},jj k s b=some c->∀l∈b,l.length<=8
 | [],k,s,c,h,l,a=>by simp at a
 | x::b,k,s,c,h,l,a=>by
  simp only[jj]at h;unfold gM at h;split at h
  ·rename_i d
   rcases List.mem_cons.1 a with rfl|a
   ·exact d.1
   cases e:wP k s x with
   | none=>grind
   | some f=>rw[e]at h;exact Q3 (show jj (k+1) f b=some c from h) l a
  cases h
theorem oG(h:bx c=true):c.Y.length=4/\∀l∈c.Y,l.length<=8:=by grind [Option.isSome_iff_exists,Q3,bx]
theorem UT(i:Nat):0<=csz (i:Int)/\csz (i:Int)<=8:=by
 by_cases h:i<=3
 ·obtain rfl|rfl|rfl|rfl:i=0\/i=1\/i=2\/i=3:=ω
  all_goals decide
 grind [csz]
def P3{k:Int}(b:n<=8)(a:0<=k)(c:k<=8):0<=(n:Int)*k/\(n:Int)*k<=64:=by
 refine⟨Int.mul_nonneg ω a,?_⟩;have d:(n:Int)*k<=8*k:=Int.mul_le_mul_of_nonneg_right ω a;omega
theorem uk(f:aZ)(h:aZ.sml f):zzA 86 false [.val (some 2) (aZ.enc .S f)] .one [B (dE f)]:=by
 have C:=h.1.1;have D:f.a6.length<=1048576:=h.2;refine fO 61 [] Tryz.func86 rfl ?_
 repeat'(first|refine gP ?_|refine gS (λb=>?_) (λb=>?_)|refine CG (aQ f.T.length 1 32) ?_)
 ·exact bZ (by grind [dE])
 rotate_left
 ·exact bZ (by grind [dE])
 have t:1<=f.T.length/\f.T.length<=32:=ω
 have w:f.a6.length=f.T.length:=ω
 (conv=>whnf)
 refine gK f.T.length (λi=>[(1,bB (aZ.enc .S f)),(3,fN i)]) (λi=>((f.T.zip f.a6).take i).all (λq=>jw q.1 q.2)=true) ψ λi j=>?_
 obtain⟨j,y⟩:=j;by_cases g:i<f.T.length
 ·obtain⟨r,c⟩ : ∃r,f.T[i]? = some r:=⟨_,z4 g⟩
  obtain⟨u,a⟩ : ∃u,f.a6[i]? = some u:=⟨_,z4 ω⟩
  repeat'(first|refine gE ?_|refine gS (λb=>?_) (λb=>?_)|fail)
  ·exact bZ (kr c a (by grind [jw])).symm
  have l:r.length=16:=ω
  (conv=>whnf)
  refine gK 16 (λk=>[(1,bB (aZ.enc .S f)),(3,fN i),(4,fN k)]) (λk=>(r.take k).all (kw u)=true) ψ λk n=>?_
  obtain⟨n,e⟩:=n;by_cases o:k<16
  ·obtain⟨v,d⟩ : ∃v,r[k]? = some v:=⟨_,z4 ω⟩
   cases u with
   | true=>
    repeat'(first|refine gE ?_|refine gS (λb=>?_) (λb=>?_)|refine CG (aQ v 0 999) ?_)
    all_goals first
     | exact bZ (kr c a (wb d (by first|(unfold kw;rw[C1 ω];rfl)|(unfold kw;rw[C1 (p:=v=0) ω];simp)))).symm
     | ((conv=>whnf)
        refine CR (ι:=Nat) (k+1) ⟨ω,dL d e (by unfold kw;first|(rw[O0 ω];rfl)|(rw[O0 (p:=0<=v/\v<=999) ω,O0 (p:=v=0) ω];rfl))⟩ ω ?_
        (exact wA))
   | false=>
    repeat'(first|refine gE ?_|refine gS (λb=>?_) (λb=>?_)|refine CG (aQ v 0 999) ?_)
    all_goals first
     | exact bZ (kr c a (wb d (by first|(unfold kw;rw[C1 ω];rfl)|(unfold kw;rw[C1 (p:=v=0) ω];simp)))).symm
     | ((conv=>whnf)
        refine CR (ι:=Nat) (k+1) ⟨ω,dL d e (by unfold kw;first|(rw[O0 ω];rfl)|(rw[O0 (p:=0<=v/\v<=999) ω,O0 (p:=v=0) ω];rfl))⟩ ω ?_
        (exact wA))
  refine σE ?_
  exact cV (i+1) ⟨ω,dL (zD c a) y (by grind [jw])⟩
 refine σE ?_
 exact bZ (by grind [List.length_zip,dE])
theorem pi(f:aZ)(g:aZ.sml f):zzA 242 false [.val (some 2) (aZ.enc .S f)] .one [B (dE f)]:=by
 have C:=g.1.1;have D:f.a6.length<=1048576:=g.2;refine fO 55 [] Tryz.func242 rfl ?_
 repeat'(first|refine gP ?_|refine gS (λb=>?_) (λb=>?_)|refine CG (aK f.T.length 1 32) ?_)
 ·exact bZ (by grind [dE])
 rotate_left
 ·exact bZ (by grind [dE])
 have p:1<=f.T.length/\f.T.length<=32:=ω
 have t:f.a6.length=f.T.length:=ω
 (conv=>whnf)
 refine gK f.T.length (λi=>[(1,bB (aZ.enc .S f)),(22,bJ (iR .S f.T)),(23,fI f.T.length),(24,fN i)]) (λi=>((f.T.zip f.a6).take i).all (λq=>jw q.1 q.2)=true) ψ λi j=>?_
 obtain⟨j,w⟩:=j;by_cases h:i<f.T.length
 ·obtain⟨r,c⟩ : ∃r,f.T[i]? = some r:=⟨_,z4 h⟩
  obtain⟨u,a⟩ : ∃u,f.a6[i]? = some u:=⟨_,z4 ω⟩
  have y:r.length<=1048576:=g.1.2 r ψ
  repeat'(first|refine gE ?_|refine gS (λb=>?_) (λb=>?_)|fail)
  ·exact bZ (kr c a (by grind [jw])).symm
  have l:r.length=16:=ω
  (conv=>whnf)
  refine gK r.length (λk=>[(1,bB (aZ.enc .S f)),(3,fN i),(22,bJ (iR .S f.T)),(23,fI f.T.length),(24,fN i),(32,bJ (aF .S r)),(33,fI r.length),(34,fN k)]) (λk=>(r.take k).all (kw u)=true) ψ λk n=>?_
  obtain⟨n,e⟩:=n;by_cases o:k<r.length
  ·obtain⟨v,d⟩ : ∃v,r[k]? = some v:=⟨_,z4 ω⟩
   cases u with
   | true=>
    repeat'(first|refine gE ?_|refine gS (λb=>?_) (λb=>?_)|refine CG (aK v 0 999) ?_)
    all_goals first
     | exact bZ (kr c a (wb d (by unfold kw;grind))).symm
     | ((conv=>whnf)
        refine CR (ι:=Nat) (k+1) ⟨ω,dL d e (by unfold kw;grind)⟩ ω ?_
        (exact wA))
   | false=>
    repeat'(first|refine gE ?_|refine gS (λb=>?_) (λb=>?_)|refine CG (aK v 0 999) ?_)
    all_goals first
     | exact bZ (kr c a (wb d (by unfold kw;grind))).symm
     | ((conv=>whnf)
        refine CR (ι:=Nat) (k+1) ⟨ω,dL d e (by unfold kw;grind)⟩ ω ?_
        (exact wA))
  refine σE ?_
  exact cV (i+1) ⟨ω,dL (zD c a) w (by grind [jw])⟩
 refine σE ?_
 exact bZ (by grind [List.length_zip,dE])
theorem Hh(t:aO)(a:Int)(d:aO.sml t):zzA 469 false [.val (some 1) (aO.enc .S t),.vI a] .one [B (iH t a)]:=by
 have k:=d.1;refine fO 54 [] Tryz.func469 rfl ?_
 refine σP ?_
 refine gK t.M.length (λi=>[(1,fI a),(2,bB (aO.enc .S t)),(5,fN i)]) (λi=>dq i (λj=>nK a (nth t.M j))=true) rfl λi b=>?_
 obtain⟨b,e⟩:=b;by_cases c:i<t.M.length
 ·have g:=ar c
  repeat'(first|refine gE ?_|refine gS (λh=>?_) (λh=>?_)|refine CG (aQ _ 0 2) ?_)
  all_goals first
   | exact bZ ((by symm;unfold iH;rw[cC c (C1 ψ)];rfl))
   | ((conv=>whnf);exact cV (i+1) ⟨ω,bF e (O0 ψ)⟩)
 repeat'(first|refine gE ?_|refine CG (aQ _ 1 32) ?_)
 obtain rfl:i=t.M.length:=ω
 exact bZ ((by grind [iH]))
theorem GT(t:aO)(a:Int)(d:aO.sml t):zzA 243 false [.val (some 1) (aO.enc .S t),.vI a] .one [B (iH t a)]:=by
 have k:=d.1;refine fO 49 [] Tryz.func243 rfl ?_
 refine σP ?_
 refine gK t.M.length (λi=>[(1,fI a),(2,bB (aO.enc .S t)),(8,bJ (DH .S t.M)),(9,fI t.M.length),(10,fN i)]) (λi=>dq i (λj=>nK a (nth t.M j))=true) rfl λi b=>?_
 obtain⟨b,e⟩:=b;by_cases c:i<t.M.length
 ·have g:=ar c
  repeat'(first|refine gE ?_|refine gS (λh=>?_) (λh=>?_)|refine CG (aK _ 0 2) ?_)
  all_goals first
   | exact bZ ((by symm;unfold iH;rw[cC c (C1 ψ)];rfl))
   | ((conv=>whnf);exact cV (i+1) ⟨ω,bF e (O0 ψ)⟩)
 repeat'(first|refine gE ?_|refine CG (aK _ 1 32) ?_)
 obtain rfl:i=t.M.length:=ω
 exact bZ ((by grind [iH]))
theorem js(t:aO)(f:Int)(b:aO.sml t):zzA 470 false [.val (some 1) (aO.enc .S t),.vI f] .one (aF .own (pagesOn t f)):=by
 have j:=b.1;refine fO 37 [] Tryz.func470 rfl ?_ (.inr (bC _))
 refine σP ?_
 refine lp0 t.M.length (λi=>[(1,fI f),(2,bB (aO.enc .S t)),(5,bJ (aF .own (m0 t f i))),(6,fN i)]) λi k=>?_
 have c:=xi t f i;by_cases d:i<t.M.length
 ·have e:=ar d
  repeat'(first|refine gE ?_|refine gS (λg=>?_) (λg=>?_)|refine Ca cA (λr h=>by rw[z3.1 h];rfl) (by simp[bp,eO]) jp (by simp only[I2];exact vm jp qs) rfl ?_)
  all_goals first
   |(have a:Tg t f i=true:=O0 ψ
     (conv=>whnf)
     refine CR (i+1) ω ω ?_;rw[FS a]
     (exact wD))
   |(have a:Tg t f i=false:=C1 ψ
     (conv=>whnf)
     refine CR (i+1) ω ω ?_;rw[KV a]
     (exact wA))
 refine σE ?_
 obtain rfl:i=t.M.length:=ω
 rfl
theorem nl(t:aO)(f:Int)(b:aO.sml t):zzA 244 false [.val (some 1) (aO.enc .S t),.vI f] .one (aF .own (pagesOn t f)):=by
 have j:=b.1;refine fO 32 [] Tryz.func244 rfl ?_ (.inr (bC _))
 refine σP ?_
 refine lp0 t.M.length (λi=>[(1,fI f),(5,bJ (aF .own (m0 t f i))),(10,bJ (DH .S t.M)),(11,fI t.M.length),(12,fN i)]) λi k=>?_
 have c:=xi t f i;by_cases d:i<t.M.length
 ·have e:=ar d
  repeat'(first|refine gE ?_|refine gS (λg=>?_) (λg=>?_)|refine Ca cA (λr h=>by rw[z3.1 h];rfl) (by simp[bp,eO]) jp (by simp only[I2];exact vm jp qs) rfl ?_)
  all_goals first
   |(have a:Tg t f i=true:=O0 ψ
     (conv=>whnf)
     refine CR (i+1) ω ω ?_;rw[FS a]
     (exact wD))
   |(have a:Tg t f i=false:=C1 ψ
     (conv=>whnf)
     refine CR (i+1) ω ω ?_;rw[KV a]
     (exact wA))
 refine σE ?_
 obtain rfl:i=t.M.length:=ω
 rfl
def ee(t:aO)(p:Int)(b:aO.sml t):zzA 34 false [.val (some 1) (aO.enc .S t),.vI p] .agg (bo.enc .own (af t p)):=by
 have d:=b.1;refine fO 18 [] Tryz.func34 rfl ?_ (.inr (bo.enc_fr _));by_cases a:0<=p/\p<t.M.length
 ·have c:=ar (xs:=t.M) (i:=p.toNat) ω
  repeat'(first|refine gE ?_|refine CG (aQ _ 0 _) ?_|refine CQ a.1 (aa c) ?_)
  all_goals(unfold af;rw[CL a];rfl)
 repeat'(first|refine gE ?_|refine CG (aQ _ 0 _) ?_)
 all_goals(unfold af;rw[CJ a];rfl)
def cT(t:aO)(p:Int)(b:aO.sml t):zzA 104 false [.val (some 1) (aO.enc .S t),.vI p] .agg (bo.enc .own (af t p)):=by
 have d:=b.1;refine fO 18 [] Tryz.func104 rfl ?_ (.inr (bo.enc_fr _));by_cases a:0<=p/\p<t.M.length
 ·have c:=ar (xs:=t.M) (i:=p.toNat) ω
  repeat'(first|refine gE ?_|refine CG (aK _ 0 _) ?_|refine CQ a.1 (aa c) ?_)
  all_goals(unfold af;rw[CL a];rfl)
 repeat'(first|refine gE ?_|refine CG (aK _ 0 _) ?_)
 all_goals(unfold af;rw[CJ a];rfl)
def uL(t:aO)(f:Int):(pagesOn t f).length<=t.M.length:=xi ..
theorem sK(m:aT)(a:aT.sml m):zzA 350 false [.val (some 3) (aT.enc .S m)] .one [B (dB m)]:=by
 have q:m.V.a6.length<=1048576:=a.1.2;have k:m.V.T.length<=1048576:=a.1.1.1;have b:=uk m.V a.1;have c:=Hh m.O m.V.T.length a.2;cases d:dE m.V with
 | false=>
  rw[d]at b;refine fO 39 [(6,13,[26,27,28,29,30,31,32,33,34,35,36,37,38])] Tryz.func350 rfl ?_
  refine σP ?_
  exact bZ ((by grind [dB]))
 | true=>
  have g:=HI d;rw[d]at b;cases e:iH m.O m.V.a6.length with
  | false=>
   rw[show(m.V.T.length:Int)=m.V.a6.length by omega,e]at c;refine fO 39 [(6,13,[26,27,28,29,30,31,32,33,34,35,36,37,38])] Tryz.func350 rfl ?_
   repeat'(first|refine gP ?_|refine CG ((show(m.V.T.length:Int)=m.V.a6.length by omega) ▸ c) ?_)
   exact bZ ((by grind [dB]))
  | true=>
   rw[show(m.V.T.length:Int)=m.V.a6.length by omega,e]at c;refine fO 39 [(6,13,[26,27,28,29,30,31,32,33,34,35,36,37,38])] Tryz.func350 rfl ?_
   repeat'(first|refine gP ?_|refine CG ((show(m.V.T.length:Int)=m.V.a6.length by omega) ▸ c) ?_)
   refine gK m.V.a6.length (λi=>[(1,bB (aT.enc .S m)),(3,fN i)]) (λi=>dq i (rN m)=true) rfl λi h=>?_
   obtain⟨h,l⟩:=h;by_cases j:i<m.V.a6.length
   ·have n:=ar j
    have o:=uL m.O (i:Nat)
    repeat'(first|refine gE ?_|refine gS (λp=>?_) (λp=>?_)|refine CG (js m.O (i:Nat) a.2) ?_)
    all_goals first
     | exact bZ ((by symm;unfold dB;rw[d,e,cC j (by unfold rN;grind)];rfl))
     | ((conv=>whnf);exact cV (i+1) ⟨ω,bF l (by unfold rN;grind)⟩)
   refine σE ?_
   obtain rfl:i=m.V.a6.length:=ω
   exact bZ ((by grind [dB]))
theorem nJ(m:aT)(b:aT.sml m):zzA 87 false [.val (some 3) (aT.enc .S m)] .one [B (dB m)]:=by
 have o:m.V.a6.length<=1048576:=b.1.2;have a:=pi m.V b.1;have c:=GT m.O m.V.a6.length b.2;cases d:dE m.V with
 | false=>
  rw[d]at a;refine fO 37 [] Tryz.func87 rfl ?_
  refine σP ?_
  exact bZ ((by grind [dB]))
 | true=>
  rw[d]at a;cases e:iH m.O m.V.a6.length with
  | false=>
   rw[e]at c;refine fO 37 [] Tryz.func87 rfl ?_
   refine σP ?_
   exact bZ ((by grind [dB]))
  | true=>
   rw[e]at c;refine fO 37 [] Tryz.func87 rfl ?_
   refine σP ?_
   refine gK m.V.a6.length (λi=>[(1,bB (aT.enc .S m)),(21,bJ (lH .S m.V.a6)),(22,fI m.V.a6.length),(23,fN i)]) (λi=>dq i (rN m)=true) rfl λi g=>?_
   obtain⟨g,j⟩:=g;by_cases h:i<m.V.a6.length
   ·have k:=ar h
    have l:=uL m.O (i:Nat)
    repeat'(first|refine gE ?_|refine gS (λn=>?_) (λn=>?_)|refine CG (nl m.O (i:Nat) b.2) ?_)
    all_goals first
     | exact bZ ((by symm;unfold dB;rw[d,e,cC h (by unfold rN;grind)];rfl))
     | ((conv=>whnf);exact cV (i+1) ⟨ω,bF j (by unfold rN;grind)⟩)
   refine σE ?_
   obtain rfl:i=m.V.a6.length:=ω
   exact bZ ((by grind [dB]))
def pc(k:ah)(d:ah.sml k):zzA 208 false [.val (some 5) (ah.enc .S k)] .one [B (aI k)]:=by
 have n:k.a3.length<=1048576:=d.2;have a:=sK k.F d.1;refine fO 31 [] Tryz.func208 rfl ?_
 refine σP ?_
 refine gK k.a3.length (λi=>[(1,bB (ah.enc .S k)),(3,fN i)]) (λi=>dq i (λj=>decide (0<=nth k.a3 j))=true) rfl λi e=>?_
 obtain⟨e,g⟩:=e;by_cases h:i<k.a3.length
 ·have l:=ar h
  repeat'(first|refine gE ?_|refine gS (λc=>?_) (λc=>?_)|fail)
  all_goals first
   | exact bZ ((by symm;unfold aI;rw[cC h (C1 ω)];rfl))
   | ((conv=>whnf);exact cV (i+1) ⟨ω,bF g (O0 ω)⟩)
 obtain rfl:i=k.a3.length:=ω
 cases b:dB k.F with
 | false=>
  rw[b]at a
  refine σE ?_
  all_goals exact bZ ((by unfold aI;rw[b];simp))
 | true=>
  rw[b]at a
  repeat'(first|refine gE ?_|refine gS (λc=>?_) (λc=>?_)|refine CG (aQ _ 0 100000) ?_)
  all_goals exact bZ ((by unfold aI;rw[b,g];simp only[Bool.true_and];first|exact decide_eq_decide.2 ω|(symm;exact C1 ω)|(symm;exact O0 ω)))
def pp(k:ah)(b:ah.sml k):zzA 26 false [.val (some 5) (ah.enc .S k)] .one [B (aI k)]:=by
 have l:k.a3.length<=1048576:=b.2;have g:=nJ k.F b.1;refine fO 29 [] Tryz.func26 rfl ?_
 refine σP ?_
 refine gK k.a3.length (λi=>[(1,bB (ah.enc .S k)),(6,bJ (aF .S k.a3)),(7,fI k.a3.length),(8,fN i)]) (λi=>dq i (λj=>decide (0<=nth k.a3 j))=true) rfl λi c=>?_
 obtain⟨c,d⟩:=c;by_cases e:i<k.a3.length
 ·have h:=ar e
  repeat'(first|refine gE ?_|refine gS (λa=>?_) (λa=>?_)|fail)
  all_goals first
   | exact bZ ((by symm;unfold aI;rw[cC e (C1 ω)];rfl))
   | ((conv=>whnf);exact cV (i+1) ⟨ω,bF d (O0 ω)⟩)
 obtain rfl:i=k.a3.length:=ω
 repeat'(first|refine gE ?_|refine gS (λa=>?_) (λa=>?_)|refine CG (aK _ 0 100000) ?_)
 all_goals exact bZ ((by unfold aI;rw[d];cases dB k.F<;>simp only[Bool.true_and,Bool.false_and]<;>first|rfl|exact decide_eq_decide.2 ω|(symm;exact C1 ω)|(symm;exact O0 ω)))
def Bp(pages:Int)(r:aG)(b:0<=pages/\pages<=1048576):zzA 351 false [.vI pages,.val (some 2) (aG.enc .S r)] .one [B (rangeIn pages r)]:=by
 refine fO 18 [] Tryz.func351 rfl ?_
 repeat'(first|refine gP ?_|refine gS (λa=>?_) (λa=>?_)|refine CG (aQ _ 1 _) ?_|refine CG (aQ _ 0 _) ?_)
 all_goals exact bZ ((by unfold rangeIn;first|(symm;exact C1 ω)|exact decide_eq_decide.2 ω))
def DL(pages:Int)(r:aG)(b:0<=pages/\pages<=1048576):zzA 223 false [.vI pages,.val (some 2) (aG.enc .S r)] .one [B (rangeIn pages r)]:=by
 refine fO 18 [] Tryz.func223 rfl ?_
 repeat'(first|refine gP ?_|refine gS (λa=>?_) (λa=>?_)|refine CG (aK _ 1 _) ?_|refine CG (aK _ 0 _) ?_)
 all_goals exact bZ ((by unfold rangeIn;first|(symm;exact C1 ω)|exact decide_eq_decide.2 ω))
theorem rc(k:Int):zzA 472 false [.vI k] .one [I (slots k)]:=by
 by_cases b:0<=k/\k<=3
 ·obtain rfl|rfl|rfl|rfl:k=0\/k=1\/k=2\/k=3:=ω
  all_goals
   refine fO 9 [] Tryz.func472 rfl ?_
   repeat'(first|refine gE ?_|refine gS (λa=>?_) (λa=>?_)|refine CG (aQ _ 0 3) ?_|refine CT qs ?_|refine CS rfl ?_|refine CX rfl ?_)
   exact nO qs
 refine fO 9 [] Tryz.func472 rfl ?_
 repeat'(first|refine gE ?_|refine gS (λa=>?_) (λa=>?_)|refine CG (aQ _ 0 3) ?_)
 exact nO (by grind [slots])
theorem ir(k:Int):zzA 335 false [.vI k] .one [I (slots k)]:=by
 by_cases b:0<=k/\k<=3
 ·obtain rfl|rfl|rfl|rfl:k=0\/k=1\/k=2\/k=3:=ω
  all_goals
   refine fO 9 [] Tryz.func335 rfl ?_
   repeat'(first|refine gE ?_|refine gS (λa=>?_) (λa=>?_)|refine CG (gQ _) ?_|refine CG (cq _) ?_|refine CT qs ?_|refine CS rfl ?_|refine CX rfl ?_)
   exact nO qs
 refine fO 9 [] Tryz.func335 rfl ?_
 repeat'(first|refine gE ?_|refine gS (λa=>?_) (λa=>?_)|refine CG (gQ _) ?_)
 exact nO (by grind [slots])
def Rf(k b:Int):Bool:=decide (0<=k/\k<=3/\0<=b/\b<=lim k)
theorem uh(k b:Int):zzA 471 false [.vI (slots k),.vI b] .one [B (Rf k b)]:=by
 by_cases d:0<=k/\k<=3
 ·obtain rfl|rfl|rfl|rfl:k=0\/k=1\/k=2\/k=3:=ω
  all_goals
   first|rw[show slots 0=16 from rfl]|rw[show slots 1=8 from rfl]|rw[show slots 2=4 from rfl]|rw[show slots 3=2 from rfl]
   refine fO 15 [] Tryz.func471 rfl ?_
   repeat'(first|refine gE ?_|refine gS (λa=>?_) (λa=>?_)|refine CG (aQ _ 1 16) ?_|refine CG (aQ _ 0 _) ?_|refine CT qs ?_|refine CS (show _=(65536:Int) by decide) ?_|refine CS (show _=(65535:Int) by decide) ?_|refine CS (show _=(256:Int) by decide) ?_|refine CS (show _=(255:Int) by decide) ?_|refine CS (show _=(16:Int) by decide) ?_|refine CS (show _=(15:Int) by decide) ?_|refine CS (show _=(4:Int) by decide) ?_|refine CS (show _=(8:Int) by decide) ?_|refine CS (show _=(2:Int) by decide) ?_|refine CS (show _=(3:Int) by decide) ?_)
   all_goals exact bZ ((decide_eq_decide.2 (by simp[lim])))
 have c:slots k=0:=by grind [slots]
 rw[c];refine fO 15 [] Tryz.func471 rfl ?_
 repeat'(first|refine gE ?_|refine gS (λa=>?_) (λa=>?_)|refine CG (aQ _ 1 16) ?_)
 exact bZ ((by symm;exact C1 ω))
theorem tW(k b:Int):zzA 375 false [.vI (slots k),.vI b] .one [B (Rf k b)]:=by
 by_cases d:0<=k/\k<=3
 ·obtain rfl|rfl|rfl|rfl:k=0\/k=1\/k=2\/k=3:=ω
  all_goals
   first|rw[show slots 0=16 from rfl]|rw[show slots 1=8 from rfl]|rw[show slots 2=4 from rfl]|rw[show slots 3=2 from rfl]
   refine fO 14 [] Tryz.func375 rfl ?_
   repeat'(first|refine gE ?_|refine gS (λa=>?_) (λa=>?_)|refine CG (aK _ 1 16) ?_|refine CG (aK _ 0 _) ?_|refine CT qs ?_|refine CS (gf qs qs) ?_)
   all_goals exact bZ ((decide_eq_decide.2 (by simp[lim,IntKind.bits])))
 have c:slots k=0:=by grind [slots]
 rw[c];refine fO 14 [] Tryz.func375 rfl ?_
 repeat'(first|refine gE ?_|refine gS (λa=>?_) (λa=>?_)|refine CG (aK _ 1 16) ?_)
 exact bZ ((by symm;exact C1 ω))
def im(s:aB):zzA 352 false [.val (some 3) (aB.enc .S s)] .one [B (bk s)]:=by
 refine fO 14 [(1,12,[3,4,5,6,7,8,9,10,11,12,13,2])] Tryz.func352 rfl ?_
 repeat'(first|refine gP ?_|refine gS (λa=>?_) (λa=>?_)|refine CG (aQ _ 0 31) ?_|refine CG (rc _) ?_|refine CG (uh _ _) ?_)
 all_goals exact bZ ((by unfold bk;first|(symm;exact C1 ω)|exact decide_eq_decide.2 ω))
def ik(s:aB):zzA 225 false [.val (some 3) (aB.enc .S s)] .one [B (bk s)]:=by
 refine fO 19 [(1,17,[3,4,5,6,7,8,9,10,11,12,13,14,15,16,17,18,2])] Tryz.func225 rfl ?_
 repeat'(first|refine gP ?_|refine gS (λa=>?_) (λa=>?_)|refine CG (aK _ 0 31) ?_|refine CG (gQ _) ?_|refine CG (ir _) ?_|refine CG (tW _ _) ?_)
 all_goals exact bZ ((by unfold bk;first|(symm;exact C1 ω)|exact decide_eq_decide.2 ω))
section
variable{α:Type}{xs:List α}{p:α->Bool}{i:Nat}{y:α}
theorem Jo(h:xs[i]? = some y)(a:p y=true):xs.any p=true:=I7.2 ψ
theorem Bd(h:xs[i]? = some y)(a:(xs.take i).any p=false)(b:p y=false):(xs.take (i+1)).any p=false:=by grind [CB]
theorem Zf(a:xs.length<=i)(b:(xs.take i).any p=false):xs.any p=false:=by grind [CF]
theorem iM[Inhabited α](a:0<i)(b:i<xs.length):xs[((i:Int) - 1).toNat]? = some (nth xs (i - 1)):=by
 rw[show((i:Int) - 1).toNat=i - 1 by omega];grind [ar]
end
theorem B1{pages:Int}{xs:List aG}(a:dq n (iJ pages xs)=true)(b:i<n):1<=(nth xs i).a8/\(nth xs i).a8<=pages/\0<=(nth xs i).At/\(nth xs i).At<=pages - (nth xs i).a8:=by grind [fS,iJ,rangeIn]
theorem pO(pages:Int)(xs:List aG)(d:0<=pages/\pages<=1048576)(k:iy xs):zzA 209 false [.vI pages,.val none (bw .S xs)] .one [B (bN pages xs)]:=by
 have n:=k.1;refine fO 46 [(4,32,[12,13,14,15,16,17,18,19,20,21,22,23,24,25,26,27,28,29,30,31,32,33,34,35,36,37,38,39,40,41,42,43])] Tryz.func209 rfl ?_
 refine σP ?_
 refine gK xs.length (λi=>[(0,fI pages),(1,bJ (bw .S xs)),(5,fN i)]) (λi=>dq i (iJ pages xs)=true) rfl λi e=>?_
 obtain⟨e,g⟩:=e;by_cases c:i<xs.length
 ·have j:=ar c
  have o:0<i->1<=(nth xs (i - 1)).a8/\(nth xs (i - 1)).a8<=pages/\0<=(nth xs (i - 1)).At/\(nth xs (i - 1)).At<=pages - (nth xs (i - 1)).a8:=λh=>B1 g ω
  cases b:rangeIn pages (nth xs i) with
  | false=>
   have a:=Bp pages (nth xs i) d;rw[b]at a
   refine σE ?_
   exact bZ ((by grind [cC,bN,iJ]))
  | true=>
   have a:=Bp pages (nth xs i) d;rw[b]at a
   repeat'(first|refine gE ?_|refine gS (λl=>?_) (λl=>?_)|refine CQ ω (aa (iM ω c)) ?_)
   all_goals first
    | exact bZ ((by symm;unfold bN;rw[cC c (by unfold iJ;rw[b,C1 ω];rfl)];rfl))
    | ((conv=>whnf);exact cV (i+1) ⟨ω,bF g (by unfold iJ;rw[b,O0 ω];rfl)⟩)
 repeat'(first|refine gE ?_|refine CG (aQ pages 1 32) ?_)
 grind [bN]
theorem pH(pages:Int)(xs:List aG)(j:0<=pages/\pages<=1048576)(k:iy xs):zzA 75 false [.vI pages,.val none (bw .S xs)] .one [B (bN pages xs)]:=by
 have n:=k.1;refine fO 43 [(4,26,[14,15,16,17,18,19,20,21,22,23,24,25,26,27,28,29,30,31,32,33,34,35,36,37,38,39])] Tryz.func75 rfl ?_
 refine σP ?_
 refine gK xs.length (λi=>[(0,fI pages),(1,bJ (bw .S xs)),(7,bJ (bw .S xs)),(8,fI xs.length),(9,fN i)]) (λi=>dq i (iJ pages xs)=true) rfl λi d=>?_
 obtain⟨d,e⟩:=d;by_cases c:i<xs.length
 ·have g:=ar c
  have o:0<i->1<=(nth xs (i - 1)).a8/\(nth xs (i - 1)).a8<=pages/\0<=(nth xs (i - 1)).At/\(nth xs (i - 1)).At<=pages - (nth xs (i - 1)).a8:=λh=>B1 e ω
  have a:=DL pages (nth xs i) j;cases b:rangeIn pages (nth xs i) with
  | false=>
   rw[b]at a
   refine σE ?_
   exact bZ ((by grind [cC,bN,iJ]))
  | true=>
   rw[b]at a
   repeat'(first|refine gE ?_|refine gS (λl=>?_) (λl=>?_)|refine CQ ω (aa (iM ω c)) ?_)
   all_goals first
    | exact bZ ((by symm;unfold bN;rw[cC c (by unfold iJ;rw[b,C1 ω];rfl)];rfl))
    | ((conv=>whnf);exact cV (i+1) ⟨ω,bF e (by unfold iJ;rw[b,O0 ω];rfl)⟩)
 repeat'(first|refine gE ?_|refine CG (aK pages 1 32) ?_)
 grind [bN]
theorem Et(xs:List aG)(page:Int)(g:xs.length<=9223372036854775807):zzA 356 false [.val none (bw .S xs),.vI page] .one [B (xs.any (zj page))]:=by
 refine fO 34 [(4,22,[12,13,14,15,16,17,18,19,20,21,22,23,24,25,26,27,28,29,30,31,32,33])] Tryz.func356 rfl ?_
 refine σP ?_
 refine gK xs.length (λi=>[(0,bJ (bw .S xs)),(1,fI page),(5,fN i)]) (λi=>(xs.take i).any (zj page)=false) ψ λi b=>?_
 obtain⟨b,c⟩:=b;by_cases d:i<xs.length
 ·have a:=ar d
  repeat'(first|refine gE ?_|refine gS (λe=>?_) (λe=>?_)|refine CS rfl ?_)
  all_goals first
   | exact bZ ((Jo a (by unfold zj;rw[O0 (by assumption),O0 (by assumption)];rfl)).symm)
   | ((conv=>whnf);exact cV (i+1) ⟨ω,Bd a c (by unfold zj;first|(rw[C1 (by assumption:¬(nth xs i).At<=page)];rfl)|(rw[C1 (by assumption:¬page<_)];simp))⟩)
 refine σE ?_
 exact bZ ψ
variable{z:Int}
def tdiv16(h:0<=z):z.tdiv 16=z / 16:=Int.tdiv_eq_ediv_of_nonneg h
theorem pM(z:Int):zzA 370 false [.vI z] .one [I (fF z)]:=by
 refine fO 10 [] Tryz.func370 rfl ?_;by_cases b:9<=z/\z<=1000
 ·repeat'(first|refine gE ?_|refine gS (λa=>?_) (λa=>?_)|refine CG (aQ z 9 1000) ?_|refine CT qs ?_|refine CS ((O1 _ (tdiv16 ω)).trans (gf ω ω)) ?_)
  grind [fF]
 repeat'(first|refine gE ?_|refine gS (λa=>?_) (λa=>?_)|refine CG (aQ z 9 1000) ?_)
 all_goals exact nO (by unfold fF;rw[CJ b])
theorem p8(z:Int):zzA 191 false [.vI z] .one [I (fF z)]:=by
 refine fO 10 [] Tryz.func191 rfl ?_;by_cases b:9<=z/\z<=1000
 ·repeat'(first|refine gE ?_|refine gS (λa=>?_) (λa=>?_)|refine CG (aK z 9 1000) ?_|refine CT qs ?_|refine CS ((O1 _ (tdiv16 ω)).trans (gf ω ω)) ?_)
  grind [fF]
 repeat'(first|refine gE ?_|refine gS (λa=>?_) (λa=>?_)|refine CG (aK z 9 1000) ?_)
 all_goals exact nO (by unfold fF;rw[CJ b])
def qx(l:aC):zzA 354 false [.val (some 3) (aC.enc .S l)] .one [B (bI l)]:=by
 have a:=pM l.k;by_cases c:9<=l.k/\l.k<=1000
 ·rw[show fF l.k=(l.k+15) / 16 from CL c]at a
  refine fO 22 [] Tryz.func354 rfl ?_
  repeat'(first|refine gP ?_|refine gS (λb=>?_) (λb=>?_)|refine CG (aQ _ 0 _) ?_)
  all_goals exact bZ ((by unfold bI;first|(symm;exact C1 ω)|exact decide_eq_decide.2 ω))
 rw[show fF l.k=0 from CJ c]at a;refine fO 22 [] Tryz.func354 rfl ?_
 repeat'(first|refine gE ?_|refine gS (λb=>?_) (λb=>?_)|fail)
 all_goals exact bZ ((by unfold bI;symm;exact C1 ω))
def qK(l:aC):zzA 226 false [.val (some 3) (aC.enc .S l)] .one [B (bI l)]:=by
 have b:=p8 l.k;by_cases c:9<=l.k/\l.k<=1000
 ·rw[show fF l.k=(l.k+15) / 16 from CL c]at b
  refine fO 22 [(1,20,[3,4,5,6,7,8,9,10,11,12,13,14,15,16,17,18,19,20,21,2])] Tryz.func226 rfl ?_
  repeat'(first|refine gE ?_|refine gS (λa=>?_) (λa=>?_)|refine CG (aK _ 9 1000) ?_|refine CG (aK _ 0 _) ?_)
  all_goals exact bZ ((by unfold bI;first|(symm;exact C1 ω)|exact decide_eq_decide.2 ω))
 refine fO 22 [(1,20,[3,4,5,6,7,8,9,10,11,12,13,14,15,16,17,18,19,20,21,2])] Tryz.func226 rfl ?_
 repeat'(first|refine gE ?_|refine gS (λa=>?_) (λa=>?_)|refine CG (aK _ 9 1000) ?_)
 all_goals exact bZ ((by unfold bI;symm;exact C1 ω))
theorem sR(h:0<=z/\z<=9223372036854775807):(BitVec.ofInt IntKind.i64.bits z).toNat=z.toNat:=by
 show(BitVec.ofInt 64 z).toNat=z.toNat
 grind
theorem and64{z1 z2:Int}(h1:0<=z1/\z1<=9223372036854775807)(h2:0<=z2/\z2<=9223372036854775807):IntKind.i64.wrap ((BitVec.ofInt IntKind.i64.bits z1 &&& BitVec.ofInt IntKind.i64.bits z2).toNat:Nat)=((z1.toNat &&& z2.toNat:Nat):Int):=by grind [sR,Nat.and_le_left,gf]
theorem N7(k:Int):lim k<=65535:=by grind [lim]
variable{s:aB}
def fK(h:bk s=true):0<=s.a9/\s.a9<=9223372036854775807:=by
 unfold bk at h;simp only[C0]at h;have:=N7 s.d;omega
def pF(a b:aB):zzA 357 false [.val (some 3) (aB.enc .S a),.val (some 3) (aB.enc .S b)] .one [B (meshable a b)]:=by
 have e:=im a;have g:=im b;cases c:bk a<;>rw[c]at e<;>cases d:bk b<;>rw[d]at g
 all_goals
  refine fO 33 [] Tryz.func357 rfl ?_
  repeat'(first|refine gP ?_|refine gS (λh=>?_) (λh=>?_)|refine CS (and64 (fK c) (fK d)) ?_)
  all_goals exact bZ ((by unfold meshable;rw[c,d];first|rfl|(symm;exact C1 ω)|(rw[C9];simp;omega)))
def pL(a b:aB):zzA 229 false [.val (some 3) (aB.enc .S a),.val (some 3) (aB.enc .S b)] .one [B (meshable a b)]:=by
 have e:=ik a;have g:=ik b;cases c:bk a<;>rw[c]at e<;>cases d:bk b<;>rw[d]at g
 all_goals
  refine fO 33 [] Tryz.func229 rfl ?_
  repeat'(first|refine gP ?_|refine gS (λh=>?_) (λh=>?_)|refine CS (and64 (fK c) (fK d)) ?_)
  all_goals exact bZ ((by unfold meshable;rw[c,d];first|rfl|(symm;exact C1 ω)|(rw[C9];simp;omega)))
def Ft(k:Int):zzA 384 false [.vI k] .one [B (decide (0<=k/\k<=15))]:=by
 refine fO 5 [] Tryz.func384 rfl ?_
 repeat'(first|refine gP ?_|refine CG (aK k 0 15) ?_)
 rfl
def yD(p:cL)(e:cL.sml p):zzA 365 false [.val (some 3) (cL.enc .S p)] .one [B (gc p)]:=by
 have h:p.T.length<=1048576:=e;refine fO 51 [(4,25,[11,12,13,14,15,16,17,18,19,20,21,22,23,24,25,26,27,28,29,30,31,32,33,34,35])] Tryz.func365 rfl ?_
 refine σP ?_
 refine gK p.T.length (λi=>[(1,bB (cL.enc .S p)),(3,fN i)]) (λi=>dq i (po p.T)=true) rfl λi c=>?_
 obtain⟨c,d⟩:=c;by_cases a:i<p.T.length
 ·have g:=ar a
  repeat'(first|refine gE ?_|refine gS (λb=>?_) (λb=>?_)|refine CG (aQ _ 0 15) ?_|refine CQ ω (aa (iM ω a)) ?_)
  all_goals first
   | exact bZ ((by symm;unfold gc;rw[cC a (C1 ω)];rfl))
   | ((conv=>whnf);exact cV (i+1) ⟨ω,bF d (O0 ω)⟩)
 obtain rfl:i=p.T.length:=ω
 repeat'(first|refine gE ?_|refine gS (λb=>?_) (λb=>?_)|refine CG (aQ _ 0 31) ?_)
 all_goals exact bZ ((by unfold gc;rw[d];simp only[Bool.true_and];first|(symm;exact C1 ω)|exact decide_eq_decide.2 ω|(rw[C9];simp;omega)))
def yu(p:cL)(e:cL.sml p):zzA 239 false [.val (some 3) (cL.enc .S p)] .one [B (gc p)]:=by
 have h:p.T.length<=1048576:=e;refine fO 46 [] Tryz.func239 rfl ?_
 refine σP ?_
 refine gK p.T.length (λi=>[(1,bB (cL.enc .S p)),(6,bJ (aF .S p.T)),(7,fI p.T.length),(8,fN i)]) (λi=>dq i (po p.T)=true) rfl λi c=>?_
 obtain⟨c,d⟩:=c;by_cases a:i<p.T.length
 ·have g:=ar a
  repeat'(first|refine gE ?_|refine gS (λb=>?_) (λb=>?_)|refine CG (Ft _) ?_|refine CQ ω (aa (iM ω a)) ?_)
  all_goals first
   | exact bZ ((by symm;unfold gc;rw[cC a (C1 ω)];rfl))
   | ((conv=>whnf);exact cV (i+1) ⟨ω,bF d (O0 ω)⟩)
 obtain rfl:i=p.T.length:=ω
 repeat'(first|refine gE ?_|refine gS (λb=>?_) (λb=>?_)|refine CG (aK _ 0 31) ?_)
 all_goals exact bZ ((by unfold gc;rw[d];simp only[Bool.true_and];first|(symm;exact C1 ω)|exact decide_eq_decide.2 ω|(rw[C9];simp;omega)))
def BE(j:cY)(a:cY.sml j):zzA 218 false [.val (some 5) (cY.enc .S j)] .one [B (lB j)]:=by
 have e:j.X.T.length<=1048576:=a;have b:=yD j.X a;cases c:gc j.X<;>rw[c]at b
 all_goals
  refine fO 20 [] Tryz.func218 rfl ?_
  repeat'(first|refine gP ?_|refine gS (λd=>?_) (λd=>?_)|refine CG (aQ _ 0 5) ?_|refine CG (aQ _ 0 _) ?_)
  all_goals exact bZ ((by unfold lB;rw[c];first|rfl|(symm;exact C1 ω)|(rw[C9];simp;omega)))
def AS(j:cY)(a:cY.sml j):zzA 84 false [.val (some 5) (cY.enc .S j)] .one [B (lB j)]:=by
 have e:j.X.T.length<=1048576:=a;have b:=yu j.X a;cases c:gc j.X<;>rw[c]at b
 all_goals
  refine fO 20 [] Tryz.func84 rfl ?_
  repeat'(first|refine gP ?_|refine gS (λd=>?_) (λd=>?_)|refine CG (aK _ 0 5) ?_|refine CG (aK _ 0 _) ?_)
  all_goals exact bZ ((by unfold lB;rw[c];first|rfl|(symm;exact C1 ω)|(rw[C9];simp;omega)))
theorem nA(l:aC)(k:Nat):lpgs l (k+1)=lpgs l k++[l.Q+(k:Nat)]:=by grind [List.range_succ,lpgs]
theorem Mv(l:aC)(k:Nat):(lpgs l k).length=k:=by unfold lpgs;simp
theorem Vz(l:aC)(h:k<=n):lpgs l k <+: lpgs l n:=by
 induction n with
 | zero=>
  grind
 | succ n a=>
  grind [nA]
variable{la:List aC}
theorem sj(sp:List aB){l:aC}(h:la[i]? = some l):pgs sp (la.take (i+1))=pgs sp (la.take i)++lpgs l l.a1.toNat:=by grind [CB,pgs]
theorem Wj(sp:List aB)(la:List aC)(i:Nat):pgs sp (la.take i) <+: pgs sp la:=by grind [List.take_append_drop,pgs]
variable{p:Int}{S:List Int}
theorem UI{all:List Int}(h:(S++[p]) <+: all)(a:p∈S):decide all.Nodup=false:=by grind [List.nodup_append]
theorem ow(h:S.Nodup)(a:p∉S):(S++[p]).Nodup:=ψ
variable{sp:List aB}
theorem Kq(h:sp[i]? = some s):((sp.take i).map (·.Q)++[s.Q]) <+: pgs sp la:=by
 have a:(sp.take i).map (·.Q)++[s.Q]=(sp.take (i+1)).map (·.Q):=by grind [CB]
 rw[a];refine List.IsPrefix.trans ?_ (List.prefix_append ..)
 grind
theorem Fs{l:aC}(h:la[i]? = some l)(a:k<l.a1.toNat):(pgs sp (la.take i)++lpgs l k++[l.Q+(k:Nat)]) <+: pgs sp la:=by
 refine List.IsPrefix.trans ?_ (Wj sp la (i+1));rw[sj sp h,IB,<-nA]
 grind [List.prefix_append_right_inj,Vz]
theorem um(h:sp[i]? = some s)(a:bk s=false):b8 sp la=false:=by grind [b8]
theorem rS{l:aC}(h:la[i]? = some l)(a:bI l=false):b8 sp la=false:=by grind [b8]
theorem ng(h:(S++[p]) <+: pgs sp la)(a:p∈S):b8 sp la=false:=by grind [UI,b8]
theorem v7(h1:sp.all bk=true)(h2:la.all bI=true)(a:(pgs sp la).Nodup):b8 sp la=true:=by grind [b8]
theorem aR{l:aC}(h:bI l=true):1<=l.a1/\l.a1<=63/\0<=l.Q/\l.Q<=31:=by grind [bI]
theorem pn(sp:List aB)(la:List aC)(t:eN sp)(u:eU la):zzA 210 false [.val none (bY .S sp),.val none (ce .S la)] .one [B (b8 sp la)]:=by
 have G:=t.1;have H:=u.1;refine fO 79 [] Tryz.func210 rfl ?_
 refine σP ?_
 refine mD (ι:=Nat × List Int) (λi=>[(0,bJ (bY .S sp)),(1,bJ (ce .S la)),(5,bJ (aF .own i.2)),(6,fN (i.1))]) (λi=>i.1<=sp.length/\i.2=(sp.take i.1).map (·.Q)/\(sp.take i.1).all bk=true/\i.2.Nodup) (λi=>sp.length - i.1) ((0,[])) ψ λi o=>?_
 obtain⟨i,S⟩:=i;obtain⟨o,q,d,h⟩:=o;simp only at o q d h |-;have J:S.length=i:=ψ
 by_cases w:i<sp.length
 ·have a:=ar w
  have j:=im (nth sp i);cases e:bk (nth sp i)<;>rw[e]at j
  ·refine σE ?_
   exact bZ ((um a e).symm)
  repeat'(first|refine gE ?_|refine gS (λy=>?_) (λy=>?_)|refine CN (ql S _ ω) ⟨⟨rfl,cR _⟩,⟨rfl,rfl⟩,tV1⟩ ?_|refine Ca cA (λr C=>by rw[z3.1 C];rfl) (by simp[bp,eO]) jp (by simp only[I2];exact vm jp qs) rfl ?_)
  all_goals first
   | exact bZ ((ng (S:=S) (by rw[q];exact Kq a) (by assumption)).symm)
   | ((conv=>whnf)
      refine CR (i+1,S++[(nth sp i).Q]) ⟨(by simp only;omega),(by simp only;rw[q,CB,a];simp),(dL a d e),ow h (by assumption)⟩ (by simp only;omega) ?_
      (exact wD))
 obtain rfl:i=sp.length:=ω
 rw[S9]at d q
 refine σE ?_
 refine mD (ι:=Nat × List Int) (λi=>[(1,bJ (ce .S la)),(5,bJ (aF .own i.2)),(7,fN (i.1))]) (λi=>i.1<=la.length/\i.2=pgs sp (la.take i.1)/\(la.take i.1).all bI=true/\i.2.Nodup/\i.2.length<=1048576+64*i.1) (λi=>la.length - i.1) ((0,S)) (⟨I1 _,by grind [pgs],rfl,h,by simp only;omega⟩) λi o=>?_
 obtain⟨i,S2⟩:=i;obtain⟨D,l,b,g,E⟩:=o;simp only at D l b g E |-;by_cases w:i<la.length
 ·have a:=ar w
  have j:=qx (nth la i);cases e:bI (nth la i)<;>rw[e]at j
  ·refine σE ?_
   exact bZ ((rS a e).symm)
  have K:=aR e
  refine σE ?_
  refine mD (ι:=Nat × List Int) (λk=>[(1,bJ (ce .S la)),(5,bJ (aF .own k.2)),(7,fN i),(8,fN (k.1))]) (λk=>k.1<=(nth la i).a1.toNat/\k.2=S2++lpgs (nth la i) k.1/\k.2.Nodup) (λk=>(nth la i).a1.toNat - k.1) ((0,S2)) (⟨I1 _,by simp[lpgs],g⟩) λk F=>?_
  obtain⟨k,p⟩:=k;obtain⟨F,n,c⟩:=F;simp only at F n c |-;have L:p.length=S2.length+k:=by grind [Mv]
  by_cases M:k<(nth la i).a1.toNat
  ·repeat'(first|refine gE ?_|refine gS (λy=>?_) (λy=>?_)|refine CN (ql p _ ω) ⟨⟨rfl,cR _⟩,⟨rfl,rfl⟩,tV1⟩ ?_|refine Ca cA (λr C=>by rw[z3.1 C];rfl) (by simp[bp,eO]) jp (by show _*8<=_;simp;omega) rfl ?_)
   all_goals first
    | exact bZ ((ng (S:=p) (by rw[n,l];exact Fs a M) (by assumption)).symm)
    | ((conv=>whnf)
       refine CR (k+1,p++[(nth la i).Q+(k:Nat)]) ⟨(by simp only;omega),(by simp only;rw[n,nA,IB]),ow c (by assumption)⟩ (by simp only;omega) ?_
       (exact wD))
  obtain rfl:k=(nth la i).a1.toNat:=ω
  refine σE ?_
  (exact cV (i+1,p) ⟨(by simp only;omega),(by grind [sj]),(dL a b e),c,(by simp only;omega)⟩)
 obtain rfl:i=la.length:=ω
 rw[S9]at b l
 refine σE ?_
 exact bZ ((v7 d b ψ).symm)
def ins(S:List Int)(p:Int):List Int:=if p∈S then S else S++[p]
theorem PF{p:Int} : ∀{S:List Int},p∈S->mput (ig S) p (.bool true)=ig S
 | x::S,h=>by
  simp only[ig,IC,mput];by_cases a:x=p
  ·rw[CL a,a]
  rw[CJ a];have:=PF (S:=S) ((List.mem_cons.1 h).resolve_left λe=>a e.symm)
  grind [ig]
theorem BY(S:List Int)(p:Int):ig (ins S p)=mput (ig S) p (.bool true):=by grind [PF,ya,ins]
theorem Ul(S:List Int)(p:Int):zzB 224 false [.vI p,.ptr [.m (ig S)]] [.vI p,.ptr [.m (ig (ins S p))]] .one [B (decide (p∉S))]:=by
 refine fM 12 [] [] [(0,0),(0,0)] Tryz.func224 rfl (λu q=>?_)
 repeat'(first|refine gP ?_|refine Ml.mk (qo p S) ?_|refine Mu.mk (BY S p) ?_)
 refine CP rfl ?_ ?_
 ·grind
 exact wB
theorem pu(sp:List aB)(la:List aC)(t:eN sp)(u:eU la):zzA 76 false [.val none (bY .S sp),.val none (ce .S la)] .one [B (b8 sp la)]:=by
 have E:=t.1;have F:=u.1;refine fP 54 [(224,[0,2])] [] Tryz.func76 rfl ?_
 refine σP ?_
 refine mD (ι:=Nat × List Int) (λi=>[(1,bJ (ce .S la)),(5,bB [.m (ig i.2)]),(6,.fn 224 [5]),(14,bJ (bY .S sp)),(15,fI sp.length),(16,fN (i.1))]) (λi=>i.1<=sp.length/\i.2=(sp.take i.1).map (·.Q)/\(sp.take i.1).all bk=true/\i.2.Nodup) (λi=>sp.length - i.1) ((0,[])) ψ λi p=>?_
 obtain⟨i,S⟩:=i;obtain⟨p,r,e,j⟩:=p;simp only at p r e j |-;by_cases w:i<sp.length
 ·have c:=ar w
  have l:=ik (nth sp i);cases g:bk (nth sp i)<;>rw[g]at l
  ·refine σE ?_
   exact bZ ((um c g).symm)
  repeat'(first|refine gE ?_|refine gS (λy=>?_) (λy=>?_)|refine CO (Ul S _) (.inl rfl) ?_)
  all_goals first
   | exact bZ ((ng (S:=S) (by rw[r];exact Kq c) ψ).symm)
   |(have a:(nth sp i).Q∉S:=by assumption
     (conv=>whnf)
     refine CR (i+1,ins S (nth sp i).Q) ⟨(by simp only;omega),(by simp only;unfold ins;rw[CJ a,r,CB,c];simp),(dL c e g),(by simp only;unfold ins;rw[CJ a];exact ow j a)⟩ (by simp only;omega) ?_
     (exact wA))
 obtain rfl:i=sp.length:=ω
 rw[S9]at e r
 refine σE ?_
 refine mD (ι:=Nat × List Int) (λi=>[(5,bB [.m (ig i.2)]),(6,.fn 224 [5]),(31,bJ (ce .S la)),(32,fI la.length),(33,fN (i.1))]) (λi=>i.1<=la.length/\i.2=pgs sp (la.take i.1)/\(la.take i.1).all bI=true/\i.2.Nodup) (λi=>la.length - i.1) ((0,S)) (⟨I1 _,by grind [pgs],rfl,j⟩) λi p=>?_
 obtain⟨i,S2⟩:=i;obtain⟨C,n,b,h⟩:=p;simp only at C n b h |-;by_cases w:i<la.length
 ·have c:=ar w
  have l:=qK (nth la i);cases g:bI (nth la i)<;>rw[g]at l
  ·refine σE ?_
   exact bZ ((rS c g).symm)
  have G:=aR g
  refine σE ?_
  refine mD (ι:=Nat × List Int) (λk=>[(5,bB [.m (ig k.2)]),(6,.fn 224 [5]),(10,bB (aC.enc .S (nth la i))),(11,fN (k.1)),(31,bJ (ce .S la)),(32,fI la.length),(33,fN i)]) (λk=>k.1<=(nth la i).a1.toNat/\k.2=S2++lpgs (nth la i) k.1/\k.2.Nodup) (λk=>(nth la i).a1.toNat - k.1) ((0,S2)) (⟨I1 _,by simp[lpgs],h⟩) λk D=>?_
  obtain⟨k,q⟩:=k;obtain⟨D,o,d⟩:=D;simp only at D o d |-;by_cases H:k<(nth la i).a1.toNat
  ·repeat'(first|refine gE ?_|refine gS (λy=>?_) (λy=>?_)|refine CO (Ul q _) (.inl rfl) ?_)
   all_goals first
    | exact bZ ((ng (S:=q) (by rw[o,n];exact Fs c H) ψ).symm)
    |(have a:(nth la i).Q+(k:Nat)∉q:=by assumption
      (conv=>whnf)
      refine CR (k+1,ins q ((nth la i).Q+(k:Nat))) ⟨(by simp only;omega),(by simp only;unfold ins;rw[CJ a,o,nA,IB]),(by simp only;unfold ins;rw[CJ a];exact ow d a)⟩ (by simp only;omega) ?_
      (exact wA))
  obtain rfl:k=(nth la i).a1.toNat:=ω
  refine σE ?_
  (exact cV (i+1,q) ⟨(by simp only;omega),(by grind [sj]),(dL c b g),d⟩)
 obtain rfl:i=la.length:=ω
 rw[S9]at b n
 refine σE ?_
 exact bZ ((v7 e b ψ).symm)
theorem aJ(h:bk s=true):0<=s.Q/\s.Q<=31/\0<=s.d/\s.d<=3:=by grind [bk]
theorem bT{k:Int}(h:0<=k/\k<=3):csz k=1\/csz k=2\/csz k=4\/csz k=8:=by
 obtain rfl|rfl|rfl|rfl:k=0\/k=1\/k=2\/k=3:=ω
 all_goals decide
def om{x y:Int}(h:0<=x):x.tdiv y=x / y:=Int.tdiv_eq_ediv_of_nonneg h
def eR{x y:Int}(h:0<=x):x.tmod y=x % y:=Int.tmod_eq_emod_of_nonneg h
def S2(p:Int × Int):List C:=[I p.1,I p.2]
variable{b:Int}
theorem FJ{p:Int × Int}(h:(a,b)=p):[I a,I b]=S2 p:=by subst h;rfl
theorem y5(s:aB)(a:Int)(k:rx a):zzA 473 false [.val (some 3) (aB.enc .S s),.vI a] (.tup [none,none]) (S2 (kP s a)):=by
 have b:=im s;have l:=ef s.d;obtain⟨n,o⟩:=k;cases c:bk s<;>rw[c]at b
 ·refine fO 33 [(4,12,[23,24,25,26,27,28,29,30,31,32,4,5])] Tryz.func473 rfl ?_ (.inr ⟨tV1,tV1,tV1⟩)
  refine σP ?_
  exact FJ (by grind [kP,dP])
 have h:=aJ c;have i:=bT ⟨h.2.2.1,h.2.2.2⟩;by_cases d:16*s.Q<=a/\a<=16*s.Q+15
 ·have j:0<=a:=ω
  refine fO 33 [(4,12,[23,24,25,26,27,28,29,30,31,32,4,5])] Tryz.func473 rfl ?_ (.inr ⟨tV1,tV1,tV1⟩)
  repeat'(first|refine gE ?_|refine gS (λg=>?_) (λg=>?_)|refine CT qs ?_|refine CT ω ?_|refine CS ((O1 _ (om j)).trans (gf ω ω)) ?_|refine CX (eR j) ?_|refine CS ((O1 _ (om ω)).trans (gf (by rcases i with e|e|e|e<;>rw[e]<;>omega) (by rcases i with e|e|e|e<;>rw[e]<;>omega))) ?_|refine CX (eR ω) ?_)
  all_goals grind [FJ,kP,dP]
 refine fO 33 [(4,12,[23,24,25,26,27,28,29,30,31,32,4,5])] Tryz.func473 rfl ?_ (.inr ⟨tV1,tV1,tV1⟩)
 repeat'(first|refine gP ?_|refine gS (λg=>?_) (λg=>?_)|refine CT qs ?_|refine CS ((O1 _ (om ω)).trans (gf ω ω)) ?_)
 all_goals first
  |exact FJ (by unfold kP dP;rw[c,C1 d];rfl)
  |(exfalso;omega)
theorem Ks(s:aB)(a:Int):zzA 379 false [.val (some 3) (aB.enc .S s),.vI a] (.tup [none,none]) (S2 (kP s a)):=by
 have b:=ik s;have j:=cq s.d;cases c:bk s<;>rw[c]at b
 ·refine fO 38 [(4,12,[28,29,30,31,32,33,34,35,36,37,4,5])] Tryz.func379 rfl ?_ (.inr ⟨tV1,tV1,tV1⟩)
  refine σP ?_
  exact FJ (by grind [kP,dP])
 have h:=aJ c;have i:=bT ⟨h.2.2.1,h.2.2.2⟩;by_cases d:16*s.Q<=a/\a<=16*s.Q+15
 ·refine fO 38 [(4,12,[28,29,30,31,32,33,34,35,36,37,4,5])] Tryz.func379 rfl ?_ (.inr ⟨tV1,tV1,tV1⟩)
  repeat'(first|refine gE ?_|refine gS (λg=>?_) (λg=>?_)|refine CG (aK _ _ _) ?_|refine CT ω ?_|refine CS ((O1 _ (om ω)).trans (gf (by rcases i with e|e|e|e<;>rw[e]<;>omega) (by rcases i with e|e|e|e<;>rw[e]<;>omega))) ?_|refine CX (eR ω) ?_)
  grind [FJ,kP,dP]
 refine fO 38 [(4,12,[28,29,30,31,32,33,34,35,36,37,4,5])] Tryz.func379 rfl ?_ (.inr ⟨tV1,tV1,tV1⟩)
 repeat'(first|refine gE ?_|refine gS (λg=>?_) (λg=>?_)|refine CG (aK _ _ _) ?_)
 all_goals exact FJ (by unfold kP dP;rw[c,C1 d];rfl)
def sU(b i:Int):zzA 547 false [.vI b,.vI i] .one [B (decide (0<=b/\0<=i/\i<=15))]:=by
 refine fO 11 [] Tryz.func547 rfl ?_
 repeat'(first|refine gP ?_|refine gS (λa=>?_) (λa=>?_)|refine CG (aQ _ 0 15) ?_)
 all_goals exact bZ ((by first|(symm;exact C1 ω)|exact decide_eq_decide.2 ω))
def th(b i:Int):zzA 457 false [.vI b,.vI i] .one [B (decide (0<=b/\0<=i/\i<=15))]:=by
 refine fO 11 [] Tryz.func457 rfl ?_
 repeat'(first|refine gP ?_|refine gS (λa=>?_) (λa=>?_)|refine CG (aK _ 0 15) ?_)
 all_goals exact bZ ((by first|(symm;exact C1 ω)|exact decide_eq_decide.2 ω))
theorem UO{i:Int}(a:0<=b/\b<=9223372036854775807)(e:0<=i/\i<=15):b.fdiv (2 ^ min i.toNat IntKind.i64.bits)=b / 2 ^ i.toNat/\0<=b / 2 ^ i.toNat/\b / 2 ^ i.toNat<=9223372036854775807:=by
 have d:min i.toNat IntKind.i64.bits=i.toNat:=Nat.min_eq_left (show i.toNat<=64 by omega);rw[d];have c:(0:Int)<=2 ^ i.toNat:=ψ
 refine⟨Int.fdiv_eq_ediv_of_nonneg _ c,Int.ediv_nonneg a.1 c,?_⟩;have:=Int.ediv_le_self (2 ^ i.toNat:Int) a.1;omega
theorem B7{i:Int}(a:0<=b)(c:0<=i/\i<=15):((((b / 2 ^ i.toNat).toNat &&& (1:Int).toNat:Nat):Int) == 1)=bc b i:=by
 have d:(0:Int)<=b / 2 ^ i.toNat:=Int.ediv_nonneg a ψ
 grind [bc]
theorem jt(b i:Int)(c:b<=9223372036854775807):zzA 474 false [.vI b,.vI i] .one [B (bc b i)]:=by
 by_cases h:0<=b/\0<=i/\i<=15
 ·obtain⟨d,g⟩:=UO (b:=b) (i:=i) ⟨h.1,c⟩ h.2
  have j:IntKind.u64.wrap i=i:=by grind [Go.IntKind.wrap,Go.IntKind.bits]
  refine fO 16 [] Tryz.func474 rfl ?_
  repeat'(first|refine gE ?_|refine gS (λa=>?_) (λa=>?_)|refine CG (sU _ _) ?_|refine CT ω ?_|refine CS j ?_|refine CX d ?_|refine CS (and64 g ⟨by decide,by decide⟩) ?_)
  grind [B7]
 refine fO 16 [] Tryz.func474 rfl ?_
 repeat'(first|refine gE ?_|refine gS (λa=>?_) (λa=>?_)|refine CG (sU _ _) ?_)
 all_goals exact bZ ((by unfold bc;symm;exact C1 λe=>h ⟨e.1,e.2.1,e.2.2.1⟩))
theorem iu(b i:Int)(c:b<=9223372036854775807):zzA 380 false [.vI b,.vI i] .one [B (bc b i)]:=by
 by_cases h:0<=b/\0<=i/\i<=15
 ·obtain⟨d,g⟩:=UO (b:=b) (i:=i) ⟨h.1,c⟩ h.2
  refine fO 15 [] Tryz.func380 rfl ?_
  repeat'(first|refine gE ?_|refine gS (λa=>?_) (λa=>?_)|refine CG (th _ _) ?_|refine CT ω ?_|refine CX d ?_|refine CS (and64 g ⟨by decide,by decide⟩) ?_)
  grind [B7]
 refine fO 15 [] Tryz.func380 rfl ?_
 repeat'(first|refine gE ?_|refine gS (λa=>?_) (λa=>?_)|refine CG (th _ _) ?_)
 all_goals exact bZ ((by unfold bc;symm;exact C1 λe=>h ⟨e.1,e.2.1,e.2.2.1⟩))
theorem ch{l:aC}(h:bI l=true):9<=l.k/\l.k<=1000/\0<=l.Q/\l.Q<=31:=by grind [bI]
theorem tO(l:aC)(a:Int):zzA 475 false [.val (some 3) (aC.enc .S l),.vI a] .one [B (b9 l a)]:=by
 have b:=qx l;cases c:bI l<;>rw[c]at b
 ·refine fO 24 [] Tryz.func475 rfl ?_
  refine σP ?_
  exact bZ ((by grind [b9]))
 have e:=ch c;refine fO 24 [] Tryz.func475 rfl ?_
 repeat'(first|refine gP ?_|refine gS (λd=>?_) (λd=>?_)|fail)
 all_goals exact bZ ((by unfold b9;rw[c,Bool.true_and];first|(symm;exact C1 ω)|exact decide_eq_decide.2 ω))
theorem pk(l:aC)(a:Int):zzA 381 false [.val (some 3) (aC.enc .S l),.vI a] .one [B (b9 l a)]:=by
 have b:=qK l;cases c:bI l<;>rw[c]at b
 ·refine fO 21 [] Tryz.func381 rfl ?_
  refine σP ?_
  exact bZ ((by grind [b9]))
 have e:=ch c;refine fO 21 [] Tryz.func381 rfl ?_
 repeat'(first|refine gP ?_|refine gS (λd=>?_) (λd=>?_)|refine CG (aK _ _ _) ?_)
 grind [b9]
theorem xh(l:aC)(a:Int)(h:b9 l a=true):zzA 476 false [.val (some 3) (aC.enc .S l),.vI a] .one [I (a - 16*l.Q)]:=by
 have b:=tO l a;rw[h]at b;unfold b9 at h;simp only[I0,C0]at h;have c:=ch h.1;refine fO 14 [] Tryz.func476 rfl ?_
 refine σP ?_
 grind
theorem xJ(l:aC)(a:Int)(h:b9 l a=true):zzA 382 false [.val (some 3) (aC.enc .S l),.vI a] .one [I (a - 16*l.Q)]:=by
 have b:=pk l a;rw[h]at b;unfold b9 at h;simp only[I0,C0]at h;have c:=ch h.1;refine fO 14 [] Tryz.func382 rfl ?_
 refine σP ?_
 grind
variable{m:aP}
theorem tz(a:i<m.U.length)(h:jo m i=false):bG m=false:=by grind [cC,bG]
theorem A6(h:¬(1<=m.U.length/\m.U.length<=4/\m.a0.length=m.U.length)):bG m=false:=by grind [bG]
theorem zY(h1:1<=m.U.length/\m.U.length<=4/\m.a0.length=m.U.length)(h2:dq m.U.length (jo m)=true):bG m=decide (bQ m m.U.length<=30):=by grind [bG]
theorem oT(m:aP)(h:aP.sml m):zzA 111 false [.val (some 2) (aP.enc .S m)] .one [B (bG m)]:=by
 have r:m.U.length<=1048576:=h.1.1;have t:m.a0.length<=1048576:=h.2.1;by_cases u:1<=m.U.length/\m.U.length<=4/\m.a0.length=m.U.length
 ·refine fO 92 [(19,15,[75,76,77,78,79,80,81,82,83,84,85,86,87,88,89])] Tryz.func111 rfl ?_
  repeat'(first|refine gB ?_|refine gS (λa=>?_) (λa=>?_)|refine CG (aQ _ 1 4) ?_)
  refine gK m.U.length (λi=>[(1,bB (aP.enc .S m)),(3,fI m.U.length),(4,fI (bQ m i)),(5,fN i)]) (λi=>dq i (jo m)=true/\0<=bQ m i/\bQ m i<=2097152*i) ⟨rfl,by simp[bQ],by simp[bQ]⟩ λi n=>?_
  obtain⟨n,w,E,F⟩:=n;by_cases j:i<m.U.length
  ·have l:=ar j
   have o:=ar (xs:=m.a0) (i:=i) ω;have y:(nth m.U i).length<=1048576:=(h.1.2 _ (ax j)).1;have C:(nth m.a0 i).length<=1048576:=h.2.2 _ ψ
   refine σE ?_
   refine gK ((nth m.U i).length) (λk=>[(1,bB (aP.enc .S m)),(3,fI m.U.length),(4,fI (bQ m i)),(5,fN i),(6,fN k)]) (λk=>((nth m.U i).take k).all (qW m.U.length)=true) ψ λk p=>?_
   obtain⟨p,q⟩:=p;by_cases D:k<(nth m.U i).length
   ·have b:=ar D
    repeat'(first|refine gE ?_|refine gS (λa=>?_) (λa=>?_)|refine CG (aQ _ 0 _) ?_)
    all_goals first
     | exact bZ ((tz j (by unfold jo;rw[iY b (by unfold qW;exact C1 ω)];rfl)).symm)
     | ((conv=>whnf);exact cV (k+1) ⟨ω,dL b q (by unfold qW;exact O0 ω)⟩)
   have G:=qq ω q
   refine σE ?_
   refine gK ((nth m.a0 i).length) (λd=>[(1,bB (aP.enc .S m)),(3,fI m.U.length),(4,fI (bQ m i)),(5,fN i),(8,fN d)]) (λd=>((nth m.a0 i).take d).all VX=true) ψ λd e=>?_
   obtain⟨e,ak2⟩:=e;by_cases lk2:d<(nth m.a0 i).length
   ·have b:=ar lk2
    repeat'(first|refine gE ?_|refine gS (λa=>?_) (λa=>?_)|fail)
    all_goals first
     | exact bZ ((tz j (by unfold jo;rw[iY b (by unfold VX;exact C1 ω)];simp)).symm)
     | ((conv=>whnf);exact cV (d+1) ⟨ω,dL b ak2 (by unfold VX;exact O0 ω)⟩)
   have ae2:=qq ω ak2;have g:bQ m (i+1)=bQ m i+((nth m.U i).length+(nth m.a0 i).length):=rfl;have c:bQ m (i+1)=bQ m i+(nth m.U i).length+(nth m.a0 i).length:=by rw[g];omega
   refine σE ?_
   (refine CR (i+1) ⟨ω,bF w (by grind [jo]),ω,ω⟩ ω ?_)
   rw[c];exact wB
  obtain rfl:i=m.U.length:=ω
  refine σE ?_
  grind [zY]
 refine fO 92 [(19,15,[75,76,77,78,79,80,81,82,83,84,85,86,87,88,89])] Tryz.func111 rfl ?_
 repeat'(first|refine gP ?_|refine gS (λa=>?_) (λa=>?_)|refine CG (aQ _ 1 4) ?_)
 all_goals first
  | exact bZ ((A6 u).symm)
  |(exfalso;omega)
theorem oI(m:aP)(g:aP.sml m):zzA 78 false [.val (some 2) (aP.enc .S m)] .one [B (bG m)]:=by
 have q:m.U.length<=1048576:=g.1.1;have r:m.a0.length<=1048576:=g.2.1;by_cases t:1<=m.U.length/\m.U.length<=4/\m.a0.length=m.U.length
 ·refine fO 82 [(20,15,[64,65,66,67,68,69,70,71,72,73,74,75,76,77,78])] Tryz.func78 rfl ?_
  repeat'(first|refine gB ?_|refine gS (λa=>?_) (λa=>?_)|refine CG (aK _ 1 4) ?_)
  refine gK m.U.length (λi=>[(1,bB (aP.enc .S m)),(3,fI m.U.length),(4,fI (bQ m i)),(25,fI m.U.length),(26,fN i)]) (λi=>dq i (jo m)=true/\0<=bQ m i/\bQ m i<=2097152*i) ⟨rfl,by simp[bQ],by simp[bQ]⟩ λi n=>?_
  obtain⟨n,u,D,E⟩:=n;by_cases h:i<m.U.length
  ·have j:=ar h
   have l:=ar (xs:=m.a0) (i:=i) ω;have w:(nth m.U i).length<=1048576:=(g.1.2 _ (ax h)).1;have y:(nth m.a0 i).length<=1048576:=g.2.2 _ ψ
   refine σE ?_
   refine gK ((nth m.U i).length) (λk=>[(1,bB (aP.enc .S m)),(3,fI m.U.length),(4,fI (bQ m i)),(5,fN i),(25,fI m.U.length),(26,fN i),(33,bJ (bP .S (nth m.U i))),(34,fI ((nth m.U i).length)),(35,fN k)]) (λk=>((nth m.U i).take k).all (qW m.U.length)=true) ψ λk o=>?_
   obtain⟨o,p⟩:=o;by_cases C:k<(nth m.U i).length
   ·have b:=ar C
    repeat'(first|refine gE ?_|refine gS (λa=>?_) (λa=>?_)|refine CG (aK _ 0 _) ?_)
    all_goals first
     | exact bZ ((tz h (by unfold jo;rw[iY b (by unfold qW;exact C1 ω)];rfl)).symm)
     | ((conv=>whnf);exact cV (k+1) ⟨ω,dL b p (by unfold qW;exact O0 ω)⟩)
   have F:=qq ω p
   refine σE ?_
   refine gK ((nth m.a0 i).length) (λc=>[(1,bB (aP.enc .S m)),(3,fI m.U.length),(4,fI (bQ m i)),(5,fN i),(25,fI m.U.length),(26,fN i),(55,bJ (aF .S (nth m.a0 i))),(56,fI ((nth m.a0 i).length)),(57,fN c)]) (λc=>((nth m.a0 i).take c).all VX=true) ψ λc d=>?_
   obtain⟨d,ak2⟩:=d;by_cases lk2:c<(nth m.a0 i).length
   ·have b:=ar lk2
    repeat'(first|refine gE ?_|refine gS (λa=>?_) (λa=>?_)|fail)
    all_goals first
     | exact bZ ((tz h (by unfold jo;rw[iY b (by unfold VX;exact C1 ω)];simp)).symm)
     | ((conv=>whnf);exact cV (c+1) ⟨ω,dL b ak2 (by unfold VX;exact O0 ω)⟩)
   have ae2:=qq ω ak2;have e:bQ m (i+1)=bQ m i+((nth m.U i).length+(nth m.a0 i).length):=rfl
   refine σE ?_
   (refine CR (i+1) ⟨ω,bF u (by grind [jo]),ω,ω⟩ ω ?_)
   rw[e];exact wB
  obtain rfl:i=m.U.length:=ω
  refine σE ?_
  grind [zY]
 refine fO 82 [(20,15,[64,65,66,67,68,69,70,71,72,73,74,75,76,77,78])] Tryz.func78 rfl ?_
 repeat'(first|refine gP ?_|refine gS (λa=>?_) (λa=>?_)|refine CG (aK _ 1 4) ?_)
 all_goals first
  | exact bZ ((A6 t).symm)
  |(exfalso;omega)
def Fo(h:dP s a=false):S2 (kP s a)=[I (-1),I (-1)]:=by
 unfold kP;rw[h];rfl
def BW(h:dP s a=true):S2 (kP s a)=[I ((a - 16*s.Q) / csz s.d),I ((a - 16*s.Q) % csz s.d)]:=by
 unfold kP;rw[h];rfl
theorem wn(h:dP s a=true):bk s=true/\0<=(a - 16*s.Q) / csz s.d/\(a - 16*s.Q) / csz s.d<=15:=by
 unfold dP at h;simp only[I0,C0]at h;have b:=aJ h.1
 grind [bT]
def qA(b:i<sp.length)(h:dP (nth sp i) a=true)(c:∀(j:Nat)(z:aB),j<i->sp[j]? = some z->dP z a=false):denotes sp la a=qv i (nth sp i) a:=by
 unfold denotes;rw[zF (pr:=(dP · a)) (ar b) h c]
def pK(b:sp.length<=n)(c:∀(j:Nat)(z:aB),j<n->sp[j]? = some z->dP z a=false)(d:i<la.length)(h:b9 (nth la i) a=true)(e:∀(j:Nat)(z:aC),j<i->la[j]? = some z->b9 z a=false) :
  denotes sp la a = ⟨3,i,0,a - 16*(nth la i).Q⟩:=by
 unfold denotes;rw[GA (pr:=(dP · a)) b c,zF (pr:=(b9 · a)) (ar d) h e]
theorem DJ(b:sp.length<=n)(c:∀(j:Nat)(z:aB),j<n->sp[j]? = some z->dP z a=false)(d:la.length<=k)(e:∀(j:Nat)(z:aC),j<k->la[j]? = some z->b9 z a=false):denotes sp la a = ⟨0,0,0,0⟩:=by grind [GA,denotes]
theorem qT(sp:List aB)(la:List aC)(a:Int)(d:eN sp)(e:eU la)(g:b8 sp la=true)(C:rx a):zzA 362 false [.val none (bY .S sp),.val none (ce .S la),.vI a] .agg (lG.enc .own (denotes sp la a)):=by
 have D:=d.1;have E:=e.1;have p:=pn sp la d e;rw[g]at p;refine fO 67 [] Tryz.func362 rfl ?_ (.inr (lG.enc_fr _))
 refine σP ?_
 refine gK sp.length (λi=>[(0,bJ (bY .S sp)),(1,bJ (ce .S la)),(2,fI a),(6,bB ([I 0,I 0,I 0,I 0])),(7,fN i)]) (λi=>∀(j:Nat)(z:aB),j<i->sp[j]? = some z->dP z a=false) ψ λi q=>?_
 obtain⟨q,l⟩:=q;by_cases r:i<sp.length
 ·have h:=ar r
  have b:=y5 (nth sp i) a C;cases c:dP (nth sp i) a with
  | false=>
   rw[Fo c]at b
   repeat'(first|refine gE ?_|refine gS (λo=>?_) (λo=>?_)|fail)
   (exact cV (i+1) ψ)
  | true=>
   rw[BW c]at b;obtain⟨F,G,H⟩:=wn c;have t:=jt (nth sp i).a9 ((a - 16*(nth sp i).Q) / csz (nth sp i).d) (fK F).2;cases u:bc (nth sp i).a9 ((a - 16*(nth sp i).Q) / csz (nth sp i).d)<;>rw[u]at t
   all_goals
    repeat'(first|refine gE ?_|refine gS (λo=>?_) (λo=>?_)|fail)
    all_goals(rw[qA r c l];unfold qv;rw[u];rfl)
 refine σE ?_
 refine gK la.length (λk=>[(1,bJ (ce .S la)),(2,fI a),(6,bB ([I 0,I 0,I 0,I 0])),(11,fN k)]) (λk=>∀(j:Nat)(z:aC),j<k->la[j]? = some z->b9 z a=false) ψ λk w=>?_
 obtain⟨w,y⟩:=w;by_cases B:k<la.length
 ·have h:=ar B
  have b:=tO (nth la k) a;cases c:b9 (nth la k) a<;>rw[c]at b
  ·refine σE ?_
   (exact cV (k+1) ψ)
  repeat'(first|refine gE ?_|refine CG (xh (nth la k) a c) ?_)
  rw[pK (n:=i) ω l B c y];rfl
 refine σE ?_
 rw[DJ (n:=i) (k:=k) ω l ω y];rfl
theorem kT(sp:List aB)(la:List aC)(a:Int)(e:eN sp)(g:eU la):zzA 235 false [.val none (bY .S sp),.val none (ce .S la),.vI a] .agg (lG.enc .own (denotes sp la a)):=by
 have y:=e.1;have B:=g.1;refine fO 56 [] Tryz.func235 rfl ?_ (.inr (lG.enc_fr _))
 refine σP ?_
 refine gK sp.length (λi=>[(1,bJ (ce .S la)),(2,fI a),(6,bB ([I 0,I 0,I 0,I 0])),(14,bJ (bY .S sp)),(15,fI sp.length),(16,fN i)]) (λi=>∀(j:Nat)(z:aB),j<i->sp[j]? = some z->dP z a=false) ψ λi o=>?_
 obtain⟨o,h⟩:=o;by_cases p:i<sp.length
 ·have d:=ar p
  have b:=Ks (nth sp i) a;cases c:dP (nth sp i) a with
  | false=>
   rw[Fo c]at b
   repeat'(first|refine gE ?_|refine gS (λl=>?_) (λl=>?_)|fail)
   (exact cV (i+1) ψ)
  | true=>
   rw[BW c]at b;obtain⟨C,D,E⟩:=wn c;have q:=iu (nth sp i).a9 ((a - 16*(nth sp i).Q) / csz (nth sp i).d) (fK C).2;cases r:bc (nth sp i).a9 ((a - 16*(nth sp i).Q) / csz (nth sp i).d)<;>rw[r]at q
   all_goals
    repeat'(first|refine gE ?_|refine gS (λl=>?_) (λl=>?_)|fail)
    all_goals(rw[qA p c h];unfold qv;rw[r];rfl)
 refine σE ?_
 refine gK la.length (λk=>[(2,fI a),(6,bB ([I 0,I 0,I 0,I 0])),(39,bJ (ce .S la)),(40,fI la.length),(41,fN k)]) (λk=>∀(j:Nat)(z:aC),j<k->la[j]? = some z->b9 z a=false) ψ λk t=>?_
 obtain⟨t,u⟩:=t;by_cases w:k<la.length
 ·have d:=ar w
  have b:=pk (nth la k) a;cases c:b9 (nth la k) a<;>rw[c]at b
  ·refine σE ?_
   (exact cV (k+1) ψ)
  repeat'(first|refine gE ?_|refine CG (xJ (nth la k) a c) ?_)
  rw[pK (n:=i) ω h w c u];rfl
 refine σE ?_
 rw[DJ (n:=i) (k:=k) ω h ω u];rfl
section
variable{α:Type}
def mC(ag:Option Nat)(e:α->List C)(pr:α->Bool)(xs:List α):List (Option Nat × List C)->Kd->List C->Prop:=λL k rcs=>∃x,x∈xs/\L=[(ag,e x)]/\k=.one/\rcs=[B (pr x)]
end
def zi(xs:List aG)(pr:aG->Bool)(n:xs.length<=9223372036854775807):zzA 487 false [.val none (bw .S xs),.fn (l9 Tryz.prog (mC (some 2) (aG.enc .S) pr xs))] .one [I (bU pr xs)]:=by
 refine fO 19 [] Tryz.func487 rfl ?_
 refine σP ?_
 refine gK xs.length (λi=>[(0,bJ (bw .S xs)),(1,.fv (l9 Tryz.prog (mC (some 2) (aG.enc .S) pr xs))),(7,fI xs.length),(8,fN i)]) (λi=>∀(j:Nat)(z:aG),j<i->xs[j]? = some z->pr z=false) (λj z h=>ω) λi e=>?_
 obtain⟨e,b⟩:=e;by_cases c:i<xs.length
 ·obtain⟨y,a⟩ : ∃y,xs[i]? = some y:=⟨_,z4 c⟩
  repeat'(first|refine gE ?_|refine Fv.mk (k:=.one) (rcs:=[B (pr y)]) ⟨y,t4 a,rfl,rfl,rfl⟩ ?_|refine Bf.P (λl=>?_) (λl=>?_))
  ·exact nO (df a ‹_› b).symm
  (conv=>whnf)
  refine CR (i+1) ⟨ω,λj z h d=>?_⟩ ω ?_
  ·rcases Nat.lt_or_ge j i with g|g
   ·exact b j z g d
   obtain rfl:j=i:=ω
   rw[a]at d;cases d;assumption
  exact wB
 refine σE ?_
 exact nO (eY ω b).symm
theorem uI(xs:List aG)(pr:aG->Bool)(a:xs.length<=9223372036854775807):zzA 376 false [.val none (bw .S xs),.fn (l9 Tryz.prog (mC (some 2) (aG.enc .S) pr xs))] .one [B (xs.any pr)]:=by
 refine fO 9 [] Tryz.func376 rfl ?_
 repeat'(first|refine gP ?_|refine CG (zi xs pr a) ?_)
 grind [iD]
def yj(r:aG)(page:Int):zzA 377 false [.val (some 2) (aG.enc .S r),.ptr [I page]] .one [B (zj page r)]:=by
 refine fO 17 [] Tryz.func377 rfl ?_
 repeat'(first|refine gP ?_|refine gS (λa=>?_) (λa=>?_)|refine CS rfl ?_)
 all_goals exact bZ (by unfold zj;first|(rw[O0 (by assumption:r.At<=page)];simp;done)|(rw[C1 (by assumption:¬r.At<=page)];rfl))
def E0(xs:List aG)(page:Int)(a:xs.length<=9223372036854775807):zzA 228 false [.val none (bw .S xs),.vI page] .one [B (xs.any (zj page))]:=by
 refine fO 8 [] Tryz.func228 rfl ?_
 repeat'(first|refine gP ?_|refine Ce (mC (some 2) (aG.enc .S) (zj page) xs) (yj default page).has (λL k rcs b=>?_) ?_|refine CG (uI xs (zj page) a) ?_)
 ·obtain⟨x,-,rfl,rfl,rfl⟩:=b
  exact yj x page
 rfl
theorem zb(xs:List aV)(pr:aV->Bool)(g:xs.length<=9223372036854775807):zzA 549 false [.val none (de .S xs),.fn (l9 Tryz.prog (mC (some 3) (aV.enc .S) pr xs))] .one [I (bU pr xs)]:=by
 refine fO 19 [] Tryz.func549 rfl ?_
 refine σP ?_
 refine gK xs.length (λi=>[(0,bJ (de .S xs)),(1,.fv (l9 Tryz.prog (mC (some 3) (aV.enc .S) pr xs))),(7,fI xs.length),(8,fN i)]) (λi=>∀(j:Nat)(z:aV),j<i->xs[j]? = some z->pr z=false) ψ λi b=>?_
 obtain⟨b,d⟩:=b;by_cases a:i<xs.length
 ·obtain⟨y,c⟩ : ∃y,xs[i]? = some y:=⟨_,z4 a⟩
  repeat'(first|refine gE ?_|refine Fv.mk (k:=.one) (rcs:=[B (pr y)]) ⟨y,t4 c,rfl,rfl,rfl⟩ ?_|refine Bf.P (λe=>?_) (λe=>?_))
  ·grind [df]
  (conv=>whnf)
  exact cV (i+1) ψ
 refine σE ?_
 exact nO (eY ω d).symm
theorem vd(xs:List aV)(pr:aV->Bool)(a:xs.length<=9223372036854775807):zzA 488 false [.val none (de .S xs),.fn (l9 Tryz.prog (mC (some 3) (aV.enc .S) pr xs))] .one [B (xs.any pr)]:=by
 refine fO 9 [] Tryz.func488 rfl ?_
 repeat'(first|refine gP ?_|refine CG (zb xs pr a) ?_)
 grind [iD]
theorem Du(xs:List aB)(pr:aB->Bool)(g:xs.length<=9223372036854775807):zzA 240 false [.val none (bY .S xs),.fn (l9 Tryz.prog (mC (some 3) (aB.enc .S) pr xs))] .one [I (bU pr xs)]:=by
 refine fO 19 [] Tryz.func240 rfl ?_
 refine σP ?_
 refine gK xs.length (λi=>[(0,bJ (bY .S xs)),(1,.fv (l9 Tryz.prog (mC (some 3) (aB.enc .S) pr xs))),(7,fI xs.length),(8,fN i)]) (λi=>∀(j:Nat)(z:aB),j<i->xs[j]? = some z->pr z=false) ψ λi b=>?_
 obtain⟨b,d⟩:=b;by_cases a:i<xs.length
 ·obtain⟨y,c⟩ : ∃y,xs[i]? = some y:=⟨_,z4 a⟩
  repeat'(first|refine gE ?_|refine Fv.mk (k:=.one) (rcs:=[B (pr y)]) ⟨y,t4 c,rfl,rfl,rfl⟩ ?_|refine Bf.P (λe=>?_) (λe=>?_))
  ·grind [df]
  (conv=>whnf)
  exact cV (i+1) ψ
 refine σE ?_
 exact nO (eY ω d).symm
theorem gL(xs:List bg)(pr:bg->Bool)(g:xs.length<=9223372036854775807):zzA 88 false [.val none (pG .S xs),.fn (l9 Tryz.prog (mC (some 4) (bg.enc .S) pr xs))] .one [I (bU pr xs)]:=by
 refine fO 19 [] Tryz.func88 rfl ?_
 refine σP ?_
 refine gK xs.length (λi=>[(0,bJ (pG .S xs)),(1,.fv (l9 Tryz.prog (mC (some 4) (bg.enc .S) pr xs))),(7,fI xs.length),(8,fN i)]) (λi=>∀(j:Nat)(z:bg),j<i->xs[j]? = some z->pr z=false) ψ λi b=>?_
 obtain⟨b,d⟩:=b;by_cases a:i<xs.length
 ·obtain⟨y,c⟩ : ∃y,xs[i]? = some y:=⟨_,z4 a⟩
  repeat'(first|refine gE ?_|refine Fv.mk (k:=.one) (rcs:=[B (pr y)]) ⟨y,t4 c,rfl,rfl,rfl⟩ ?_|refine Bf.P (λe=>?_) (λe=>?_))
  ·grind [df]
  (conv=>whnf)
  exact cV (i+1) ψ
 refine σE ?_
 exact nO (eY ω d).symm
theorem xk(xs:List bg)(pr:bg->Bool)(a:xs.length<=9223372036854775807):zzA 233 false [.val none (pG .S xs),.fn (l9 Tryz.prog (mC (some 4) (bg.enc .S) pr xs))] .one [B (xs.any pr)]:=by
 refine fO 9 [] Tryz.func233 rfl ?_
 repeat'(first|refine gP ?_|refine CG (gL xs pr a) ?_)
 grind [iD]
def Wd(a:k<=3):IntKind.i64.wrap (1*2 ^ min ((k:Nat):Int).toNat IntKind.i64.bits)=csz (k:Nat):=by
 obtain rfl|rfl|rfl|rfl:k=0\/k=1\/k=2\/k=3:=ω
 all_goals decide
theorem WO(a:k<=100):IntKind.u64.wrap (k:Nat)=(k:Nat):=by grind [Go.IntKind.wrap,Go.IntKind.bits]
theorem Hp(a:k<=3)(h:csz (k:Nat)<z)(b:z<=8):k<=2:=by
 have c:csz ((3:Nat):Int)=8:=by decide
 grind
theorem Bq(a:k<=3)(h1:1<=z)(h2:k=0\/csz ((k - 1:Nat):Int)<z)(b:¬csz (k:Nat)<z):aN z=(k:Nat):=by
 have c:csz ((0:Nat):Int)=1:=by decide
 have d:csz ((1:Nat):Int)=2:=by decide
 have e:csz ((2:Nat):Int)=4:=by decide
 have f:csz ((3:Nat):Int)=8:=by decide
 unfold aN;obtain rfl|rfl|rfl|rfl:k=0\/k=1\/k=2\/k=3:=ω
 all_goals grind
def nk(z:Int):zzA 220 false [.vI z] .one [I (aN z)]:=by
 refine fO 15 [] Tryz.func220 rfl ?_;by_cases c:1<=z/\z<=8
 ·repeat'(first|refine gE ?_|refine gS (λb=>?_) (λb=>?_)|refine CG (aQ z 1 8) ?_)
  refine mD (λk:Nat=>[(0,fI z),(3,fN k)]) (λk=>k<=3/\(k=0\/csz ((k - 1:Nat):Int)<z)) (λk=>4 - k) (0) ω λk a=>?_
  obtain⟨a,h2⟩:=a
  repeat'(first|refine gP ?_|refine gS (λb=>?_) (λb=>?_)|refine CS (WO ω) ?_|refine CS (Wd a) ?_|refine CT ω ?_)
  all_goals first
   | exact nO (Bq a c.1 h2 (by assumption)).symm
   | ((conv=>whnf);exact cV (k+1) ⟨by have:=Hp a (by assumption) c.2;omega,.inr (by simpa using (by assumption:csz (k:Nat)<z))⟩ (h2:=(by have:=Hp a (by assumption) c.2;omega)))
 repeat'(first|refine gE ?_|refine gS (λb=>?_) (λb=>?_)|refine CG (aQ z 1 8) ?_)
 all_goals exact nO (by unfold aN;(repeat' split)<;>omega)
def jg(z:Int):zzA 64 false [.vI z] .one [I (aN z)]:=by
 refine fO 14 [] Tryz.func64 rfl ?_;by_cases c:1<=z/\z<=8
 ·repeat'(first|refine gE ?_|refine gS (λa=>?_) (λa=>?_)|refine CG (aK z 1 8) ?_)
  refine mD (λk:Nat=>[(0,fI z),(3,fN k)]) (λk=>k<=3/\(k=0\/csz ((k - 1:Nat):Int)<z)) (λk=>4 - k) (0) ω λk b=>?_
  obtain⟨b,h2⟩:=b
  repeat'(first|refine gP ?_|refine gS (λa=>?_) (λa=>?_)|refine CG (cq _) ?_)
  all_goals first
   | exact nO (Bq b c.1 h2 (by assumption)).symm
   | ((conv=>whnf);exact cV (k+1) ⟨by have:=Hp b (by assumption) c.2;omega,.inr (by simpa using (by assumption:csz (k:Nat)<z))⟩ (h2:=(by have:=Hp b (by assumption) c.2;omega)))
 repeat'(first|refine gE ?_|refine gS (λa=>?_) (λa=>?_)|refine CG (aK z 1 8) ?_)
 all_goals exact nO (by unfold aN;(repeat' split)<;>omega)
theorem wl(q:bv)(a:Int)(d:bv.sml q):zzA 359 false [.val (some 2) (bv.enc .S q),.vI a] .one [B (q.y.any (eL a))]:=by
 have j:q.y.length<=1048576:=d.1;refine fO 21 [] Tryz.func359 rfl ?_
 refine σP ?_
 refine gK q.y.length (λi=>[(1,fI a),(2,bB (bv.enc .S q)),(5,fN i)]) (λi=>(q.y.take i).any (eL a)=false) ψ λi c=>?_
 obtain⟨c,e⟩:=c;by_cases g:i<q.y.length
 ·have b:=ar g
  repeat'(first|refine gE ?_|refine gS (λh=>?_) (λh=>?_)|fail)
  all_goals first
   | exact bZ ((Jo b (O0 (by assumption))).symm)
   | ((conv=>whnf);exact cV (i+1) ⟨ω,Bd b e (C1 (by assumption))⟩)
 refine σE ?_
 exact bZ ψ
def lf(xs:List aV)(i:Nat):quarCells xs (i+1)=quarCells xs i+csz (nth xs i).d:=rfl
theorem xA(k:Int):0<=csz k/\csz k<=8:=by grind [bT,csz]
theorem yq(xs:List aV)(c:og xs):zzA 360 false [.val none (de .S xs)] .one [I (quarCells xs xs.length)]:=by
 have g:=c.1;refine fO 20 [] Tryz.func360 rfl ?_
 refine σP ?_
 refine gK xs.length (λi=>[(0,bJ (de .S xs)),(3,fI (quarCells xs i)),(4,fN i)]) (λi=>0<=quarCells xs i/\quarCells xs i<=8*i) ⟨by simp[quarCells],by simp[quarCells]⟩ λi b=>?_
 obtain⟨b,h,j⟩:=b;by_cases d:i<xs.length
 ·have e:=ar d
  have k:=xA (nth xs i).d;have a:=lf xs i
  repeat'(first|refine gE ?_|refine CG (ef _) ?_)
  (refine CR (i+1) ω ω ?_)
  rw[a];exact wB
 refine σE ?_
 grind
theorem nX(xs:List aV)(c:og xs):zzA 231 false [.val none (de .S xs)] .one [I (quarCells xs xs.length)]:=by
 have g:=c.1;refine fO 19 [] Tryz.func231 rfl ?_
 refine σP ?_
 refine gK xs.length (λi=>[(3,fI (quarCells xs i)),(6,bJ (de .S xs)),(7,fI xs.length),(8,fN i)]) (λi=>0<=quarCells xs i/\quarCells xs i<=8*i) ⟨by simp[quarCells],by simp[quarCells]⟩ λi b=>?_
 obtain⟨b,h,j⟩:=b;by_cases d:i<xs.length
 ·have e:=ar d
  have k:=xA (nth xs i).d;have a:=lf xs i
  repeat'(first|refine gE ?_|refine CG (cq _) ?_)
  (refine CR (i+1) ω ω ?_)
  rw[a];exact wB
 refine σE ?_
 grind
def FN(a:aV):zzA 358 false [.val (some 3) (aV.enc .S a)] .one [B (decide (0<=a.d/\a.d<=3/\0<=a.Addr/\0<=a.b5))]:=by
 refine fO 16 [] Tryz.func358 rfl ?_
 repeat'(first|refine gP ?_|refine gS (λb=>?_) (λb=>?_)|refine CG (aQ _ 0 3) ?_)
 all_goals exact bZ ((by first|(symm;exact C1 ω)|exact decide_eq_decide.2 ω))
variable{xs:List aV}
theorem Tp(a:og xs)(i:Nat):og (xs.take i):=⟨by have:=a.1;grind,λ_ _=>tV1⟩
def rX(q:bv)(a:bv.sml q):zzA 213 false [.val (some 2) (bv.enc .S q)] .one [B (gu q)]:=by
 have l:q.y.length<=1048576:=a.1;refine fO 57 [(5,29,[17,18,19,20,21,22,23,24,25,26,27,28,29,30,31,32,33,34,35,36,37,38,39,40,41,42,43,44,45]),(7,11,[46,47,48,49,50,51,52,53,54,55,56])] Tryz.func213 rfl ?_
 refine σP ?_
 refine gK q.y.length (λi=>[(1,bB (bv.enc .S q)),(3,fN i)]) (λi=>dq i (lZ q.y)=true) rfl λi e=>?_
 obtain⟨e,g⟩:=e;by_cases b:i<q.y.length
 ·have j:=ar b
  have h:=wl ⟨0,q.y.take i⟩ (nth q.y i).Addr (Tp a i);cases c:(q.y.take i).any (eL (nth q.y i).Addr)<;>rw[show(bv.mk 0 (q.y.take i)).y.any (eL (nth q.y i).Addr)=_ from c]at h
  all_goals
   repeat'(first|refine gE ?_|refine gS (λd=>?_) (λd=>?_)|refine CG (FN _) ?_|refine CQ ω (aa (iM ω b)) ?_|refine Cc i rfl jp (λr k=>by obtain⟨z,-,rfl⟩:=O8.1 k;rfl) (C8 ..) ?_)
   all_goals first
    | exact bZ ((by symm;unfold gu;rw[cC b (by unfold lZ;first|(rw[c];simp;done)|(rw[C1 ω];rfl))];rfl))
    | ((conv=>whnf);exact cV (i+1) ⟨ω,bF g (by unfold lZ;rw[c,O0 ω];rfl)⟩)
 obtain rfl:i=q.y.length:=ω
 repeat'(first|refine gE ?_|refine gS (λd=>?_) (λd=>?_)|refine CG (aQ _ 0 500) ?_|refine CG (yq q.y a) ?_)
 all_goals exact bZ ((by unfold gu;rw[g];simp only[Bool.true_and];first|(symm;exact C1 ω)|exact decide_eq_decide.2 ω))
theorem yI(b:aV)(a:Int):zzA 489 false [.val (some 3) (aV.enc .S b),.ptr [I a]] .one [B (eL a b)]:=by
 refine fO 8 [] Tryz.func489 rfl ?_
 refine σP ?_
 grind [eL]
def tP(xs:List aV)(a:Int)(b:xs.length<=9223372036854775807):zzA 378 false [.val none (de .S xs),.vI a] .one [B (xs.any (eL a))]:=by
 refine fO 8 [] Tryz.func378 rfl ?_
 repeat'(first|refine gP ?_|refine Ce (mC (some 3) (aV.enc .S) (eL a) xs) (yI default a).has (λL k rcs c=>?_) ?_|refine CG (vd xs (eL a) b) ?_)
 ·obtain⟨y,-,rfl,rfl,rfl⟩:=c
  exact yI y a
 rfl
def oX(xs:List aV)(a:aV):Bool:=decide (0<=a.d/\a.d<=3/\0<=a.Addr/\0<=a.b5/\(xs.length=0\/(nth xs (xs.length - 1)).b5<=a.b5))&&!xs.any (eL a.Addr)
theorem vR(xs:List aV)(b:aV)(g:xs.length<=1048576):zzA 230 false [.val none (de .S xs),.val (some 3) (aV.enc .S b)] .one [B (oX xs b)]:=by
 have c:=tP xs b.Addr ω;cases d:xs.any (eL b.Addr)<;>rw[d]at c
 ·by_cases h:xs.length=0
  ·refine fO 40 [(3,15,[25,26,27,28,29,30,31,32,33,34,35,36,37,38,39])] Tryz.func230 rfl ?_
   repeat'(first|refine gP ?_|refine gS (λa=>?_) (λa=>?_)|refine CG (gQ _) ?_)
   all_goals first
    | exact bZ ((by unfold oX;rw[d,Bool.not_false,Bool.and_true];first|(symm;exact C1 ω)|(symm;exact O0 ω)|exact decide_eq_decide.2 ω))
    |(exfalso;omega)
    |trace_state
  have e:xs[((xs.length:Int) - 1).toNat]? = some (nth xs (xs.length - 1)):=by rw[show((xs.length:Int) - 1).toNat=xs.length - 1 by omega];grind [ar]
  refine fO 40 [(3,15,[25,26,27,28,29,30,31,32,33,34,35,36,37,38,39])] Tryz.func230 rfl ?_
  repeat'(first|refine gP ?_|refine gS (λa=>?_) (λa=>?_)|refine CG (gQ _) ?_|refine CQ ω (aa e) ?_)
  all_goals first
   | exact bZ ((by unfold oX;rw[d,Bool.not_false,Bool.and_true];first|(symm;exact C1 ω)|(symm;exact O0 ω)|exact decide_eq_decide.2 ω))
   |(exfalso;omega)
   |trace_state
 refine fO 40 [(3,15,[25,26,27,28,29,30,31,32,33,34,35,36,37,38,39])] Tryz.func230 rfl ?_
 repeat'(first|refine gP ?_|refine gS (λa=>?_) (λa=>?_)|refine CG (gQ _) ?_)
 all_goals exact bZ ((by unfold oX;rw[d];simp))
theorem Nw(d:i<xs.length):oX (xs.take i) (nth xs i)=lZ xs i:=by
 unfold oX lZ;have a:(xs.take i).length=i:=ψ
 rw[a]
 congr 1
 refine decide_eq_decide.2 ?_;by_cases b:i=0
 ·subst b;simp
 have c:nth (xs.take i) (i - 1)=nth xs (i - 1):=by
  have:=ar (xs:=xs) (i:=i - 1) ω
  grind [br]
 rw[c]
theorem sC(q:bv)(d:bv.sml q):zzA 79 false [.val (some 2) (bv.enc .S q)] .one [B (gu q)]:=by
 have l:q.y.length<=1048576:=d.1;refine fO 32 [(4,7,[13,14,15,16,17,18,19]),(7,11,[21,22,23,24,25,26,27,28,29,30,31])] Tryz.func79 rfl ?_
 refine σP ?_
 refine gK q.y.length (λi=>[(1,bB (bv.enc .S q)),(6,bJ (de .S q.y)),(7,fI q.y.length),(8,fN i)]) (λi=>dq i (lZ q.y)=true) rfl λi e=>?_
 obtain⟨e,g⟩:=e;by_cases a:i<q.y.length
 ·have h:=ar a
  have b:=vR (q.y.take i) (nth q.y i) ψ;rw[Nw a]at b;cases c:lZ q.y i<;>rw[c]at b
  all_goals
   repeat'(first|refine gE ?_|refine Cc i rfl jp (λr j=>by obtain⟨z,-,rfl⟩:=O8.1 j;rfl) (C8 ..) ?_)
   all_goals first
    | exact bZ ((by symm;unfold gu;rw[cC a c];rfl))
    | ((conv=>whnf);exact cV (i+1) ⟨ω,bF g c⟩)
 obtain rfl:i=q.y.length:=ω
 repeat'(first|refine gE ?_|refine gS (λk=>?_) (λk=>?_)|refine CG (aK _ 0 500) ?_|refine CG (nX q.y d) ?_)
 all_goals exact bZ ((by unfold gu;rw[g];simp only[Bool.true_and];first|(symm;exact C1 ω)|exact decide_eq_decide.2 ω))
def jE(a:List Bool):Nat->Int
 | 0=>0
 | i+1=>jE a i+(if nth a i then 1 else 0)
def fU(f:aZ):Int:=if dE f then jE f.a6 f.a6.length else 0
def Ge{a:List Bool}(h:nth a i=true):jE a (i+1)=jE a i+1:=by show jE a i+(if nth a i then 1 else 0)=_;rw[h];rfl
def Mw{a:List Bool}(h:nth a i=false):jE a (i+1)=jE a i:=by show jE a i+(if nth a i then 1 else 0)=_;rw[h];simp
theorem Tb(f:aZ)(g:aZ.sml f):zzA 25 false [.val (some 2) (aZ.enc .S f)] .one [I (fU f)]:=by
 have l:f.a6.length<=1048576:=g.2;have b:=uk f g;cases h:dE f<;>rw[h]at b
 ·refine fO 24 [] Tryz.func25 rfl ?_
  refine σP ?_
  refine mD (λi:Nat=>[(1,bB (aZ.enc .S f)),(3,fI (0:Int)),(4,fN i)]) (λi=>i=0) (λi=>i) (0) (rfl) λi c=>?_
  subst c
  repeat'(first|refine gP ?_|refine gS (λj=>?_) (λj=>?_)|fail)
  all_goals grind [fU]
 refine fO 24 [] Tryz.func25 rfl ?_
 refine σP ?_
 refine gK f.a6.length (λi=>[(1,bB (aZ.enc .S f)),(3,fI (jE f.a6 i)),(4,fN i)]) (λi=>0<=jE f.a6 i/\jE f.a6 i<=i) ⟨by simp[jE],by simp[jE]⟩ λi c=>?_
 obtain⟨c,n,o⟩:=c;by_cases k:i<f.a6.length
 ·have d:=ar k
  cases e:nth f.a6 i<;>rw[e]at d
  ·have a:=Mw e
   refine σE ?_
   (refine CR (i+1) ω ω ?_)
   rw[a];exact wB
  have a:=Ge e
  refine σE ?_
  (refine CR (i+1) ω ω ?_)
  rw[a];exact wB
 obtain rfl:i=f.a6.length:=ω
 refine σE ?_
 grind [fU]
theorem zl(f:aZ)(e:aZ.sml f):zzA 93 false [.val (some 2) (aZ.enc .S f)] .one [I (fU f)]:=by
 have k:f.a6.length<=1048576:=e.2;have b:=pi f e;cases g:dE f<;>rw[g]at b
 ·refine fO 21 [] Tryz.func93 rfl ?_
  refine σP ?_
  all_goals exact nO (by unfold fU;rw[g];rfl)
 refine fO 21 [] Tryz.func93 rfl ?_
 refine σP ?_
 refine gK f.a6.length (λi=>[(3,fI (jE f.a6 i)),(10,bJ (lH .S f.a6)),(11,fI f.a6.length),(12,fN i)]) (λi=>0<=jE f.a6 i/\jE f.a6 i<=i) ⟨by simp[jE],by simp[jE]⟩ λi h=>?_
 obtain⟨h,l,n⟩:=h;by_cases j:i<f.a6.length
 ·have c:=ar j
  cases d:nth f.a6 i<;>rw[d]at c
  ·have a:=Mw d
   refine σE ?_
   (refine CR (i+1) ω ω ?_)
   rw[a];exact wB
  have a:=Ge d
  refine σE ?_
  (refine CR (i+1) ω ω ?_)
  rw[a];exact wB
 obtain rfl:i=f.a6.length:=ω
 refine σE ?_
 grind [fU]
def wu(h:ac):Prop:=aO.sml h.G.F.O
def jM(h:ac)(p:Int)(a:wu h):zzA 355 false [.val (some 24) (ac.enc .S h),.vI p] .one (aF .own (aX h p)):=by
 refine fO 23 [] Tryz.func355 rfl ?_ (.inr (bC _))
 repeat'((conv=>whnf);first|with_reducible (first|refine Lm ?_|refine Wm ω ?_|refine Bf.E (λb=>?_) (λb=>?_)|refine Bn ?_|refine j8.wk rfl ?_)|refine Bt ?_|refine Bu ?_|refine CG (ee h.G.F.O p a) ?_|refine CG (js h.G.F.O _ a) ?_)
 all_goals(unfold aX;first|rw[CL (by assumption)]|rw[CJ (by assumption)])
 all_goals exact⟨rfl,tV1⟩
def jO(h:ac)(p:Int)(a:wu h):zzA 227 false [.val (some 24) (ac.enc .S h),.vI p] .one (aF .own (aX h p)):=by
 refine fO 22 [] Tryz.func227 rfl ?_ (.inr (bC _))
 repeat'((conv=>whnf);first|with_reducible (first|refine Lm ?_|refine Wm ω ?_|refine Bf.E (λb=>?_) (λb=>?_)|refine Bn ?_|refine j8.wk rfl ?_)|refine Bt ?_|refine Bu ?_|refine CG (cT h.G.F.O p a) ?_|refine CG (nl h.G.F.O _ a) ?_)
 all_goals(unfold aX;first|rw[CL (by assumption)]|rw[CJ (by assumption)])
 all_goals exact⟨rfl,tV1⟩
theorem fQ(k:ah)(p:Int)(a:aO.sml k.F.O):zzA 127 false [.val (some 5) (ah.enc .S k),.vI p] .one [B (decide ((af k.F.O p).e≠0))]:=by
 refine fO 12 [] Tryz.func127 rfl ?_
 repeat'(first|refine gP ?_|refine CG (cT k.F.O p a) ?_)
 grind
def rT(z:Int):zzA 83 false [.vI z] .one [B (decide (0<=z/\z<=1073741823))]:=by
 refine fO 5 [] Tryz.func83 rfl ?_
 repeat'(first|refine gP ?_|refine CG (aK z 0 1073741823) ?_)
 rfl
theorem my(h:ac)(p:Int)(g:h.K.length<=1048576):zzA 219 false [.val (some 24) (ac.enc .S h),.vI p] .one [I (gk h p)]:=by
 refine fO 22 [] Tryz.func219 rfl ?_
 refine σP ?_
 refine gK h.K.length (λi=>[(1,fI p),(2,bB (ac.enc .S h)),(5,fN i)]) (λi=>∀(j:Nat)(z:aB),j<i->h.K[j]? = some z->nG p z=false) ψ λi c=>?_
 obtain⟨c,a⟩:=c;by_cases d:i<h.K.length
 ·have b:=ar d
  repeat'(first|refine gE ?_|refine gS (λe=>?_) (λe=>?_)|fail)
  all_goals first
   | exact nO (df b (O0 (by assumption)) a).symm
   | ((conv=>whnf);exact cV (i+1) ⟨ω,fh b (C1 (by assumption)) a⟩)
 refine σE ?_
 exact nO (eY ω a).symm
theorem FP(s:aB)(p:Int):zzA 241 false [.val (some 3) (aB.enc .S s),.ptr [I p]] .one [B (nG p s)]:=by
 refine fO 8 [] Tryz.func241 rfl ?_
 refine σP ?_
 grind [nG]
def yO(h:ac)(p:Int)(b:h.K.length<=1048576):zzA 85 false [.val (some 24) (ac.enc .S h),.vI p] .one [I (gk h p)]:=by
 refine fO 9 [] Tryz.func85 rfl ?_
 repeat'(first|refine gP ?_|refine Ce (mC (some 3) (aB.enc .S) (nG p) h.K) (FP default p).has (λL k rcs a=>?_) ?_|refine CG (Du h.K (nG p) ω) ?_)
 ·obtain⟨y,-,rfl,rfl,rfl⟩:=a
  exact FP y p
 rfl
def flight1(m:aP)(i:Nat):List Int:=(m.U.take i).flatMap λl=>l.map (·.Addr)
def flight2(m:aP)(i:Nat):List Int:=(m.a0.take i).flatten
theorem qJ{l:List dA}(h:m.U[i]? = some l):flight1 m (i+1)=flight1 m i++l.map (·.Addr):=by grind [CB,flight1]
theorem qC(h:m.a0[i]? = some l):flight2 m (i+1)=flight2 m i++l:=by grind [CB,flight2]
theorem rH(h:bG m=true):aL m=flight1 m m.U.length++flight2 m m.a0.length:=by grind [aL,flight1,flight2]
theorem yP(h:bG m=false):aL m=[]:=by grind [aL]
theorem qP(h:bG m=true):1<=m.U.length/\m.U.length<=4/\m.a0.length=m.U.length:=by grind [bG]
def J9 : ∀r∈l.map (rI .S),r.length=1:=by
 intro r a;obtain⟨z,-,rfl⟩:=O8.1 a;rfl
def P8 : ∀r∈l.map (rI .S),bp r=true:=by
 intro r a;obtain⟨z,-,rfl⟩:=O8.1 a;rfl
theorem Ey(m:aP)(g:aP.sml m):zzA 35 false [.val (some 2) (aP.enc .S m)] .one (aF .own (aL m)):=by
 have h:=oT m g;cases d:bG m<;>rw[d]at h
 ·refine fO 56 [] Tryz.func35 rfl ?_ (.inr (bC _))
  repeat'((conv=>whnf);first|with_reducible (first|refine Lm ?_|refine Wm ω ?_|refine Bn ?_|refine j8.wk rfl ?_)|refine Bt ?_|refine Bu ?_|refine CG h ?_)
  all_goals(rw[yP d];exact⟨rfl,tV1⟩)
 obtain⟨C,D,E⟩:=qP d;refine fO 56 [] Tryz.func35 rfl ?_ (.inr (bC _))
 refine σP ?_
 refine mD (ι:=Nat × List Int) (λi=>[(1,bB (aP.enc .S m)),(3,bJ (aF .own i.2)),(4,fN (i.1))]) (λi=>i.1<=m.U.length/\i.2=flight1 m i.1/\i.2.length<=1048576*i.1) (λi=>m.U.length - i.1) ((0,[])) (⟨I1 _,rfl,I1 _⟩) λi j=>?_
 obtain⟨i,S⟩:=i;obtain⟨j,p,t⟩:=j;simp only at j p t |-;by_cases q:i<m.U.length
 ·have l:=ar q
  have u:(nth m.U i).length<=1048576:=(g.1.2 _ (ax q)).1
  refine σE ?_
  refine mD (ι:=Nat × List Int) (λk=>[(1,bB (aP.enc .S m)),(3,bJ (aF .own k.2)),(4,fN i),(5,fN (k.1))]) (λk=>k.1<=(nth m.U i).length/\k.2=S++((nth m.U i).take k.1).map (·.Addr)) (λk=>(nth m.U i).length - k.1) ((0,S)) ψ λk b=>?_
  obtain⟨k,c⟩:=k;obtain⟨b,a⟩:=b;simp only at b a |-;have w:c.length=S.length+k:=ψ
  by_cases e:k<(nth m.U i).length
  ·have n:=ar e
   repeat'(first|refine gE ?_|refine Ca cA (λr y=>by rw[z3.1 y];rfl) (by simp[bp,eO]) jp (by show _*8<=_;simp;omega) rfl ?_)
   ((conv=>whnf)
    refine CR (k+1,c++[(nth (nth m.U i) k).Addr]) ⟨(by simp only;omega),(by grind [CB])⟩ (by simp only;omega) ?_
    (exact wD))
  obtain rfl:k=(nth m.U i).length:=ω
  rw[S9]at a
  refine σE ?_
  (exact cV (i+1,c) ⟨(by simp only;omega),(by grind [qJ]),(by simp only;omega)⟩)
 obtain rfl:i=m.U.length:=ω
 refine σE ?_
 refine mD (ι:=Nat × List Int) (λk=>[(1,bB (aP.enc .S m)),(3,bJ (aF .own k.2)),(6,fN (k.1))]) (λk=>k.1<=m.a0.length/\k.2=S++flight2 m k.1/\k.2.length<=S.length+1048576*k.1) (λk=>m.a0.length - k.1) ((0,S)) (⟨I1 _,by simp[flight2],by simp⟩) λk b=>?_
 obtain⟨k,c⟩:=k;obtain⟨b,a,o⟩:=b;simp only at b a o |-;by_cases e:k<m.a0.length
 ·have n:=ar e
  have B:(nth m.a0 k).length<=1048576:=g.2.2 _ (ax e)
  repeat'(first|refine gE ?_|refine Ca cA J9 (λ_=>P8) jp (by show _*8<=_;simp;omega) rfl ?_)
  ((conv=>whnf)
   refine CR (k+1,c++nth m.a0 k) ⟨(by simp only;omega),(by grind [qC]),ψ⟩ (by simp only;omega) ?_
   (exact wD))
 obtain rfl:k=m.a0.length:=ω
 refine σE ?_
 rw[rH d,<-p,<-a];rfl
theorem pE(m:aP)(g:aP.sml m):zzA 237 false [.val (some 2) (aP.enc .S m)] .one (aF .own (aL m)):=by
 have h:=oI m g;cases d:bG m<;>rw[d]at h
 ·refine fO 46 [] Tryz.func237 rfl ?_ (.inr (bC _))
  repeat'((conv=>whnf);first|with_reducible (first|refine Lm ?_|refine Wm ω ?_|refine Bn ?_|refine j8.wk rfl ?_)|refine Bt ?_|refine Bu ?_|refine CG h ?_)
  all_goals(rw[yP d];exact⟨rfl,tV1⟩)
 obtain⟨C,D,E⟩:=qP d;refine fO 46 [] Tryz.func237 rfl ?_ (.inr (bC _))
 refine σP ?_
 refine mD (ι:=Nat × List Int) (λi=>[(1,bB (aP.enc .S m)),(3,bJ (aF .own i.2)),(15,bJ (zW .S m.U)),(16,fI m.U.length),(17,fN (i.1))]) (λi=>i.1<=m.U.length/\i.2=flight1 m i.1/\i.2.length<=1048576*i.1) (λi=>m.U.length - i.1) ((0,[])) (⟨I1 _,rfl,I1 _⟩) λi j=>?_
 obtain⟨i,S⟩:=i;obtain⟨j,o,q⟩:=j;simp only at j o q |-;by_cases p:i<m.U.length
 ·have t:=ar p
  have u:(nth m.U i).length<=1048576:=(g.1.2 _ (ax p)).1
  refine σE ?_
  refine mD (ι:=Nat × List Int) (λk=>[(1,bB (aP.enc .S m)),(3,bJ (aF .own k.2)),(15,bJ (zW .S m.U)),(16,fI m.U.length),(17,fN i),(21,bJ (bP .S (nth m.U i))),(22,fI ((nth m.U i).length)),(23,fN (k.1))]) (λk=>k.1<=(nth m.U i).length/\k.2=S++((nth m.U i).take k.1).map (·.Addr)) (λk=>(nth m.U i).length - k.1) ((0,S)) ψ λk b=>?_
  obtain⟨k,c⟩:=k;obtain⟨b,a⟩:=b;simp only at b a |-;have w:c.length=S.length+k:=ψ
  by_cases e:k<(nth m.U i).length
  ·have l:=ar e
   repeat'(first|refine gE ?_|refine Ca cA (λr y=>by rw[z3.1 y];rfl) (by simp[bp,eO]) jp (by show _*8<=_;simp;omega) rfl ?_)
   ((conv=>whnf)
    refine CR (k+1,c++[(nth (nth m.U i) k).Addr]) ⟨(by simp only;omega),(by grind [CB])⟩ (by simp only;omega) ?_
    (exact wD))
  obtain rfl:k=(nth m.U i).length:=ω
  rw[S9]at a
  refine σE ?_
  (exact cV (i+1,c) ⟨(by simp only;omega),(by grind [qJ]),(by simp only;omega)⟩)
 obtain rfl:i=m.U.length:=ω
 refine σE ?_
 refine mD (ι:=Nat × List Int) (λk=>[(3,bJ (aF .own k.2)),(35,bJ (iR .S m.a0)),(36,fI m.a0.length),(37,fN (k.1))]) (λk=>k.1<=m.a0.length/\k.2=S++flight2 m k.1/\k.2.length<=S.length+1048576*k.1) (λk=>m.a0.length - k.1) ((0,S)) (⟨I1 _,by simp[flight2],by simp⟩) λk b=>?_
 obtain⟨k,c⟩:=k;obtain⟨b,a,n⟩:=b;simp only at b a n |-;by_cases e:k<m.a0.length
 ·have l:=ar e
  have B:(nth m.a0 k).length<=1048576:=g.2.2 _ (ax e)
  repeat'(first|refine gE ?_|refine Ca cA J9 (λ_=>P8) jp (by show _*8<=_;simp;omega) rfl ?_)
  ((conv=>whnf)
   refine CR (k+1,c++nth m.a0 k) ⟨(by simp only;omega),(by grind [qC]),ψ⟩ (by simp only;omega) ?_
   (exact wD))
 obtain rfl:k=m.a0.length:=ω
 refine σE ?_
 rw[rH d,<-o,<-a];rfl
def tbl(h:ac):aO:=h.G.F.O
def eQ(h:ac):Nat:=h.G.F.O.M.length
def BG(xs:List aB)(i:Nat):Bool:=decide (i=0\/(nth xs (i - 1)).Q<(nth xs i).Q)
def D8(xs:List aC)(i:Nat):Bool:=decide (i=0\/(nth xs (i - 1)).Q<(nth xs i).Q)
def Ai(h:ac)(l:aC)(k:Nat):Bool:=decide ((aX h (l.Q+(k:Nat))).length=1)
def vq(h:ac)(i:Nat):Bool:=D8 h.H i&&dq (nth h.H i).a1.toNat (Ai h (nth h.H i))
def zw(h:ac)(p:Nat):Bool:=decide ((nth (tbl h).M p).e≠0↔(p:Int)∈pgs h.K h.H)&&(decide ((nth (tbl h).M p).e≠0) != h.o.any (zj (p:Nat)))
def pages0(h:ac):Bool:=((dq h.K.length (BG h.K)&&dq h.H.length (vq h))&&(pgs h.K h.H).all λp=>decide (p<eQ h))&&dq (eQ h) (zw h)
def pI(h:ac)(i:Nat)(q:Int):Bool:=decide (gk h q=(i:Nat)) || (decide (0<=gk h q)&&meshable (nth h.K i) (nth h.K (gk h q).toNat))
def wS(h:ac):Bool:=dq h.K.length λi=>(aX h (nth h.K i).Q).all (pI h i)
def oZ(h:ac)(i j:Nat):Bool:=decide ((af (tbl h) (nth h.K i).Q).j≠(af (tbl h) (nth h.K j).Q).j) || meshable (nth h.K i) (nth h.K j)
def rM(h:ac):Bool:=dq h.K.length λi=>dq i (oZ h i)
def cM(z:Int)(o:bg):Bool:=decide (o.Id=z)
def kK(h:ac)(o:bg):Bool:=
 let w:=denotes h.K h.H o.Addr
 decide (w.c8=0)&&((decide (w.b2=1)&&decide ((nth h.K w.c3.toNat).d=aN o.k)) || (decide (w.b2=3)&&decide ((nth h.H w.c3.toNat).k=o.k)))
def jl(a:Int)(h:ac)(i:Nat):Bool:=decide ((i=0\/(nth h.J (i - 1)).Addr<(nth h.J i).Addr)/\1<=(nth h.J i).Id/\(nth h.J i).Id<=a/\0<=(nth h.J i).a2/\(nth h.J i).a2<=h.R.length - 1)
def objAt(a:Int)(h:ac)(i:Nat):Bool:=(jl a h i&&!(h.J.take i).any (cM (nth h.J i).Id))&&kK h (nth h.J i)
def gV(h:ac):Bool:=dq h.J.length (objAt (IntKind.i64.wrap (h.b - 1)) h)
def ed(h:ac)(a c:Int):Bool:=
 let w:=denotes h.K h.H a
 (decide (w.b2=1)&&decide (w.c8=0))&&(decide (c<0) || decide ((nth h.K w.c3.toNat).d=c))
def v8(h:ac)(c:aE)(k:Nat):Bool:=(nth c.Y k).all λa=>ed h a (k:Nat)
def gw(h:ac)(c:aE):Bool:=dq c.Y.length (v8 h c)
def jH(h:ac)(x:aV):Bool:=ed h x.Addr x.d
def mc(h:ac)(a:Int):Bool:=ed h a (-1)
def cU(h:ac):List Int:=h.R.flatMap λc=>c.Y.flatten
def l8(h:ac):Bool:=((h.R.all (gw h))&&h.a7.y.all (jH h))&&(aL h.w).all (mc h)
def holders(h:ac):List Int:=((h.J.map (·.Addr)++cU h)++h.a7.y.map (·.Addr))++aL h.w
def mR(sp:List aB)(la:List aC)(a:Nat):Bool:=
 let w:=denotes sp la (a:Nat)
 decide (w.c8=0)&&(decide (w.b2=1) || decide (w.b2=3))
def oR(sp:List aB)(la:List aC)(n:Nat):List Int:=((List.range n).filter (mR sp la)).map λ(i:Nat)=>(i:Int)
def kF(sp:List aB)(la:List aC):List Int:=oR sp la 512
def lC(h:ac):Bool:=(l8 h&&decide (holders h).Nodup)&&decide ((holders h).length=(kF h.K h.H).length)
def oY(h:ac):Bool:=h.a7.y.all λx=>decide (x.b5<=h.b1)
def cI(h:ac):Bool:=decide (0<=h.c0/\h.c0<=1073741823/\0<=h.b1/\h.b1<=1000000/\0<=h.c1/\h.c1<=1000/\1<=h.b/\h.b<=1000000)
def wQ(h:ac):Bool:=if h.q then(lB h.a&&decide (0<=gk h h.a.X.a4))&&decide (0<=gk h h.a.X.a5) else w6 h.a
def mM(h:ac):Bool:=((aI h.G&&bN (eQ h) h.o)&&b8 h.K h.H)&&pages0 h
set_option maxHeartbeats 8000000
theorem fJ(h:b8 sp la=true):sp.all bk=true/\la.all bI=true/\(pgs sp la).Nodup:=by grind [b8]
def VO[Inhabited α]{xs:List α}{p:α->Bool}(h:xs.all p=true)(a:i<xs.length):p (nth xs i)=true:=O7.1 h _ (ax a)
variable{h:ac}
theorem Lf(h1:dq h.K.length (BG h.K)=false):pages0 h=false:=by grind [pages0]
theorem wj(h1:dq h.H.length (vq h)=false):pages0 h=false:=by grind [pages0]
theorem LV(h1:p∈pgs h.K h.H)(h2:¬p<eQ h):pages0 h=false:=by grind [pages0]
theorem JF(h1:dq (eQ h) (zw h)=false):pages0 h=false:=by grind [pages0]
theorem Db(h1:dq h.K.length (BG h.K)=true)(h2:dq h.H.length (vq h)=true)(a:∀p∈pgs h.K h.H,p<eQ h)(b:dq (eQ h) (zw h)=true):pages0 h=true:=by grind [pages0]
theorem Vk(h1:D8 h.H i=false):vq h i=false:=by grind [vq]
theorem Tq(a:k<(nth h.H i).a1.toNat)(h1:Ai h (nth h.H i) k=false):vq h i=false:=by grind [cC,vq]
theorem JL(h1:D8 h.H i=true)(h2:dq (nth h.H i).a1.toNat (Ai h (nth h.H i))=true):vq h i=true:=by grind [vq]
def gh(h:ac)(p:Int):(aX h p).length<=eQ h:=by
 unfold aX;split
 ·simp
 exact uL ..
theorem ye(h:b8 sp la=true){l:aC}(a:la[i]? = some l):1<=l.a1/\l.a1<=63/\0<=l.Q/\l.Q<=31:=
 aR (O7.1 (fJ h).2.1 l ψ)
theorem Mr(h:ac)(y:eN h.K)(C:eU h.H)(g:wu h)(D:iy h.o)(l:b8 h.K h.H=true):zzA 211 false [.val (some 24) (ac.enc .S h)] .one [B (pages0 h)]:=by
 have V:=y.1;have W:=C.1;have X:eQ h<=1048576:=g.1;have Y:=D.1;refine fO 144 [(7,18,[28,29,30,31,32,33,34,35,36,37,38,39,40,41,42,43,44,45]),(13,18,[62,63,64,65,66,67,68,69,70,71,72,73,74,75,76,77,78,79])] Tryz.func211 rfl ?_
 refine σP ?_
 refine mD (ι:=Nat × List Int) (λi=>[(1,bB (ac.enc .S h)),(3,bB (aO.enc .S (tbl h))),(4,fI (eQ h)),(5,bJ (aF .own i.2)),(6,fN (i.1))]) (λi=>i.1<=h.K.length/\i.2=(h.K.take i.1).map (·.Q)/\dq i.1 (BG h.K)=true) (λi=>h.K.length - i.1) ((0,[])) (⟨I1 _,rfl,rfl⟩) λi E=>?_
 obtain⟨i,S⟩:=i;obtain⟨E,F,G⟩:=E;simp only at E F G |-;have Z:S.length=i:=ψ
 by_cases H:i<h.K.length
 ·have b:=ar H
  repeat'(first|refine gE ?_|refine gS (λa=>?_) (λa=>?_)|refine CQ ω (aa (iM ω H)) ?_|refine Ca cA (λr n=>by rw[z3.1 n];rfl) (by simp[bp,eO]) jp (by simp only[I2];exact vm jp qs) rfl ?_)
  all_goals first
   | exact bZ ((Lf (cC H (C1 ω))).symm)
   | ((conv=>whnf)
      refine CR (i+1,S++[(nth h.K i).Q]) ⟨(by simp only;omega),(by simp only;rw[F,CB,b];simp),bF G (O0 ω)⟩ (by simp only;omega) ?_
      (exact wD))
 obtain rfl:i=h.K.length:=ω
 rw[S9]at F
 refine σE ?_
 refine mD (ι:=Nat × List Int) (λk=>[(1,bB (ac.enc .S h)),(3,bB (aO.enc .S (tbl h))),(4,fI (eQ h)),(5,bJ (aF .own k.2)),(7,fN (k.1))]) (λk=>k.1<=h.H.length/\k.2=pgs h.K (h.H.take k.1)/\dq k.1 (vq h)=true/\k.2.length<=1048576+64*k.1) (λk=>h.H.length - k.1) ((0,S)) (⟨I1 _,by grind [pgs],rfl,by simp only;omega⟩) λk J=>?_
 obtain⟨k,S2⟩:=k;obtain⟨J,c,K,L⟩:=J;simp only at J c K L |-;by_cases u:k<h.H.length
 ·have b:=ar u
  have hpg:=ye l b
  repeat'(first|refine gE ?_|refine gS (λa=>?_) (λa=>?_)|refine CQ ω (aa (iM ω u)) ?_)
  all_goals first
   | exact bZ ((wj (cC u (Vk (C1 ω)))).symm)
   |have e:D8 h.H k=true:=O0 ω
    (conv=>whnf)
    refine mD (ι:=Nat × List Int) (λq=>[(1,bB (ac.enc .S h)),(3,bB (aO.enc .S (tbl h))),(4,fI (eQ h)),(5,bJ (aF .own q.2)),(7,fN k),(8,fN (q.1))]) (λq=>q.1<=(nth h.H k).a1.toNat/\q.2=S2++lpgs (nth h.H k) q.1/\dq q.1 (Ai h (nth h.H k))=true) (λq=>(nth h.H k).a1.toNat - q.1) ((0,S2)) (⟨I1 _,by simp[lpgs],rfl⟩) λq a=>?_
    obtain⟨q,M⟩:=q;obtain⟨N,d,o⟩:=a;simp only at N d o |-;have Q:M.length=S2.length+q:=by rw[d,O5,Mv]
    by_cases w:q<(nth h.H k).a1.toNat
    ·have hfl:=gh h ((nth h.H k).Q+(q:Nat))
     repeat'(first|refine gE ?_|refine gS (λa=>?_) (λa=>?_)|refine CG (jM h _ g) ?_|refine Ca cA (λr n=>by rw[z3.1 n];rfl) (by simp[bp,eO]) jp (by show _*8<=_;simp;omega) rfl ?_)
     all_goals first
      | exact bZ ((wj (cC u (Tq w (C1 ω)))).symm)
      | ((conv=>whnf)
         refine CR (q+1,M++[(nth h.H k).Q+(q:Nat)]) ⟨(by simp only;omega),(by simp only;rw[d,nA,IB]),bF o (O0 ω)⟩ (by simp only;omega) ?_
         (exact wD))
    obtain rfl:q=(nth h.H k).a1.toNat:=ω
    refine σE ?_
    (exact cV (k+1,M) ⟨(by simp only;omega),(by simp only;rw[d,c,<-sj _ b]),bF K (JL e o),(by simp only;omega)⟩)
 obtain rfl:k=h.H.length:=ω
 rw[S9]at c
 refine σE ?_
 refine gK S2.length (λq=>[(1,bB (ac.enc .S h)),(3,bB (aO.enc .S (tbl h))),(4,fI (eQ h)),(5,bJ (aF .own S2)),(10,fN q)]) (λq=>∀j,j<q->nth S2 j<eQ h) ψ λq a=>?_
 obtain⟨a,o⟩:=a;by_cases w:q<S2.length
 ·have b:=ar w
  repeat'(first|refine gE ?_|refine gS (λa=>?_) (λa=>?_)|fail)
  all_goals first
   | exact bZ ((LV (by rw[<-c];exact ax w) ω).symm)
   | ((conv=>whnf);exact cV (q+1) ⟨ω,λj hj=>by rcases Nat.lt_or_ge j q with R|R;exact o j R;(obtain rfl:j=q:=ω);omega⟩)
 have t:∀p∈pgs h.K h.H,p<eQ h:=λp O=>by grind [List.mem_iff_getElem?,br]
 refine σE ?_
 refine gK (eQ h) (λp=>[(1,bB (ac.enc .S h)),(3,bB (aO.enc .S (tbl h))),(4,fI (eQ h)),(5,bJ (aF .own S2)),(11,fN p)]) (λp=>dq p (zw h)=true) rfl λp O=>?_
 obtain⟨O,T⟩:=O;by_cases U:p<eQ h
 ·have b:=ar (xs:=(tbl h).M) U
  have n:=Et h.o (p:Nat) ω
  repeat'(first|refine gE ?_|refine gS (λa=>?_) (λa=>?_)|refine CN (ql S2 _ ω) ⟨⟨rfl,cR _⟩,⟨rfl,rfl⟩,tV1⟩ ?_|refine Bf.P (λa=>?_) (λa=>?_))
  all_goals first
   | exact bZ ((JF (cC U (by unfold zw;rw[<-c];grind))).symm)
   | ((conv=>whnf);exact cV (p+1) ⟨ω,bF T (by unfold zw;rw[<-c];grind)⟩)
 refine σE ?_
 obtain rfl:p=eQ h:=ω
 exact bZ ((Db G K t T).symm)
set_option maxHeartbeats 8000000
def Ui{z1 z2:Int}(h:z1=z2):VF (I z1) (I z2):=by subst h;rfl
theorem Qt : z∈ins S p↔z∈S\/z=p:=by grind [ins]
theorem Ad(S:List Int):(ig S).map (·.1)=S:=by unfold ig;rw[List.map_map];simp[SB]
theorem gR{t:aO}{p:Nat}(a:p<t.M.length):af t (p:Nat)=nth t.M p:=by grind [af]
theorem Jp(h:ac)(E:eN h.K)(F:eU h.H)(d:wu h)(G:iy h.o)(u:b8 h.K h.H=true):zzA 77 false [.val (some 24) (ac.enc .S h)] .one [B (pages0 h&&rM h)]:=by
 have hl1:=E.1;have hl2:=F.1;have hl3:eQ h<=1048576:=d.1;have hl4:=G.1;have b:pages0 h=false->[B false]=[B (pages0 h&&rM h)]:=ψ
 refine fO 177 [(4,14,[25,26,27,28,29,30,31,32,33,34,35,36,37,38]),(16,14,[60,61,62,63,64,65,66,67,68,69,70,71,72,73]),(28,18,[102,103,104,105,106,107,108,109,110,111,112,113,114,115,116,117,118,119]),(42,23,[152,153,154,155,156,157,158,159,160,161,162,163,164,165,166,167,168,169,170,171,172,173,174])] Tryz.func77 rfl ?_
 refine σP ?_
 refine gK h.K.length (λi=>[(1,bB (ac.enc .S h)),(18,bJ (bY .S h.K)),(19,fI h.K.length),(20,fN i)]) (λi=>dq i (BG h.K)=true) rfl λi g=>?_
 obtain⟨g,C⟩:=g;by_cases o:i<h.K.length
 ·have e:=ar o
  repeat'(first|refine gE ?_|refine gS (λa=>?_) (λa=>?_)|refine CQ ω (aa (iM ω o)) ?_)
  all_goals first
   |exact b (Lf (cC o (C1 ω)))
   | ((conv=>whnf);exact cV (i+1) ⟨ω,bF C (O0 ω)⟩)
 obtain rfl:i=h.K.length:=ω
 refine σE ?_
 refine mD (ι:=Nat × List Int) (λi=>[(1,bB (ac.enc .S h)),(5,bJ [.m (ig i.2)]),(42,bJ (bY .S h.K)),(43,fI h.K.length),(44,fN (i.1))]) (λi=>i.1<=h.K.length/\∀z,z∈i.2↔z∈(h.K.take i.1).map (·.Q)) (λi=>h.K.length - i.1) ((0,[])) ψ λi g=>?_
 obtain⟨i,S⟩:=i;obtain⟨H,W⟩:=g;simp only at H W |-;by_cases li2:i<h.K.length
 ·have e:=ar li2
  repeat'(first|refine gE ?_|refine Mu.mk (BY S _) ?_)
  (exact cV (i+1,ins S (nth h.K i).Q) ⟨(by simp only;omega),λz=>by grind [Qt,CB]⟩)
 obtain rfl:i=h.K.length:=ω
 rw[S9]at W
 refine σE ?_
 refine mD (ι:=Nat × List Int) (λk=>[(1,bB (ac.enc .S h)),(5,bJ [.m (ig k.2)]),(53,bJ (ce .S h.H)),(54,fI h.H.length),(55,fN (k.1))]) (λk=>k.1<=h.H.length/\(∀z,z∈k.2↔z∈pgs h.K (h.H.take k.1))/\dq k.1 (vq h)=true) (λk=>h.H.length - k.1) ((0,S)) (⟨I1 _,λz=>by grind [pgs],rfl⟩) λk J=>?_
 obtain⟨k,S2⟩:=k;obtain⟨J,c,K⟩:=J;simp only at J c K |-;by_cases D:k<h.H.length
 ·have e:=ar D
  have hpg:=ye u e
  repeat'(first|refine gE ?_|refine gS (λa=>?_) (λa=>?_)|refine CQ ω (aa (iM ω D)) ?_)
  all_goals first
   |exact b (wj (cC D (Vk (C1 ω))))
   |have l:D8 h.H k=true:=O0 ω
    (conv=>whnf)
    refine mD (ι:=Nat × List Int) (λq=>[(1,bB (ac.enc .S h)),(5,bJ [.m (ig q.2)]),(9,bB (aC.enc .S (nth h.H k))),(10,fI ((nth h.H k).Q+(q.1:Nat))),(53,bJ (ce .S h.H)),(54,fI h.H.length),(55,fN k)]) (λq=>q.1<=(nth h.H k).a1.toNat/\(∀z,z∈q.2↔z∈S2++lpgs (nth h.H k) q.1)/\dq q.1 (Ai h (nth h.H k))=true) (λq=>(nth h.H k).a1.toNat - q.1) ((0,S2)) (⟨I1 _,λz=>by simp[lpgs],rfl⟩) λq a=>?_
    obtain⟨q,L⟩:=q;obtain⟨M,n,N⟩:=a;simp only at M n N |-;by_cases lq:q<(nth h.H k).a1.toNat
    ·have hfl:=gh h ((nth h.H k).Q+(q:Nat))
     repeat'(first|refine gE ?_|refine gS (λa=>?_) (λa=>?_)|refine CG (jO h _ d) ?_|refine Mu.mk (BY L _) ?_)
     all_goals first
      |exact b (wj (cC D (Tq lq (C1 ω))))
      | ((conv=>whnf)
         refine CR (q+1,ins L ((nth h.H k).Q+(q:Nat))) ⟨(by simp only;omega),λz=>by simp only[Qt,n];rw[nA];simp[or_assoc],bF N (O0 ω)⟩ (by simp only;omega) ?_
         (repeat'(first|exact tV1|rfl|refine CV ?_ ?_|exact Ui jp)))
    obtain rfl:q=(nth h.H k).a1.toNat:=ω
    refine σE ?_
    (exact cV (k+1,L) ⟨(by simp only;omega),(λz=>by simp only[n];rw[sj _ e];simp[c]),bF K (JL l N)⟩)
 obtain rfl:k=h.H.length:=ω
 rw[S9]at c
 refine σE ?_
 refine gK (eQ h) (λp=>[(1,bB (ac.enc .S h)),(5,bJ [.m (ig S2)]),(98,fI (eQ h)),(99,fN p)]) (λp=>dq p (zw h)=true) rfl λp X=>?_
 obtain⟨X,Y⟩:=X;by_cases Z:p<eQ h
 ·have O:=E0 h.o (p:Nat) ω
  have w:=fQ h.G (p:Nat) d;rw[gR Z]at w
  repeat'(first|refine gE ?_|refine gS (λa=>?_) (λa=>?_)|refine Ml.mk (qo (p:Nat) S2) ?_|refine Bf.P (λa=>?_) (λa=>?_))
  all_goals first
   |exact b (JF (cC Z (by unfold zw tbl;have:=c (p:Nat);grind)))
   | ((conv=>whnf);exact cV (p+1) ⟨ω,bF Y (by unfold zw tbl;have:=c (p:Nat);grind)⟩)
 obtain rfl:p=eQ h:=ω
 refine σE ?_
 have hpn:eQ h=h.G.F.O.M.length:=rfl
 (conv=>whnf)
 refine mD (ι:=Option Int × List Int) (λt=>[(1,bB (ac.enc .S h)),(122,bJ [.it t.1 t.2])]) (λt=>(∀z∈S2,z∈t.2\/z<eQ h)/\∀z∈t.2,z∈S2) (λt=>t.2.length) ((none,(ig S2).map (·.1))) (⟨λz hz=>.inl (by grind [Ad]),λz hz=>by grind [Ad]⟩) λt ht=>?_
 obtain⟨cur,left⟩:=t;obtain⟨Q,R⟩:=ht;simp only at Q R |-
 repeat'(first|refine gP ?_|refine gS (λa=>?_) (λa=>?_)|refine Nt.mk (λa=>?_) (λl1 k l2 a=>?_))
 rotate_left
 ·exact b (LV (p:=k) ψ ω)
 ·((conv=>whnf);exact cV (some k,l1++l2) ψ (h2:=(by subst left;simp)))
 have y:∀p∈pgs h.K h.H,p<eQ h:=ψ
 have h0:pages0 h=true:=Db C K y Y;rw[h0,Bool.true_and]
 (conv=>whnf)
 refine gK h.K.length (λi=>[(1,bB (ac.enc .S h)),(136,bJ (bY .S h.K)),(137,fI h.K.length),(138,fN i)]) (λi=>dq i (λi=>dq i (oZ h i))=true) rfl λi g=>?_
 obtain⟨g,C⟩:=g;by_cases o:i<h.K.length
 ·have e:=ar o
  have T:(h.K.take i).length=i:=ψ
  repeat'(first|refine gE ?_|refine Cc i rfl jp (λr O=>by obtain⟨z,-,rfl⟩:=O8.1 O;rfl) (C8 ..) ?_)
  refine gK ((h.K.take i).length) (λj=>[(1,bB (ac.enc .S h)),(14,bB (aB.enc .S (nth h.K i))),(136,bJ (bY .S h.K)),(137,fI h.K.length),(138,fN i),(146,bJ (bY .S (h.K.take i))),(147,fI ((h.K.take i).length)),(148,fN j)]) (λj=>dq j (oZ h i)=true) rfl λj hj=>?_
  obtain⟨hj,U⟩:=hj;by_cases lj:j<(h.K.take i).length
  ·have hy:=ar lj
   have he:nth (h.K.take i) j=nth h.K j:=br (by grind [ar]);rw[he]at hy;have w:=pL (nth h.K i) (nth h.K j);cases V:meshable (nth h.K i) (nth h.K j)<;>rw[V]at w
   all_goals
    repeat'(first|refine gE ?_|refine gS (λa=>?_) (λa=>?_)|refine CG (cT (tbl h) _ d) ?_)
    all_goals first
     | exact bZ ((by symm;exact cC o (cC (i:=j) ω (by unfold oZ;rw[V];grind))))
     | ((conv=>whnf);exact cV (j+1) ⟨ω,bF U (by unfold oZ;rw[V];grind)⟩)
  obtain rfl:j=(h.K.take i).length:=ω
  rw[T]at U
  refine σE ?_
  (exact cV (i+1) ⟨ω,bF C U⟩)
 obtain rfl:i=h.K.length:=ω
 refine σE ?_
 exact bZ ((by grind [rM]))
set_option maxHeartbeats 8000000
theorem mq[Inhabited α](pr:α->Bool)(xs:List α):bU pr xs = -1\/∃n,n<xs.length/\bU pr xs=(n:Nat)/\pr (nth xs n)=true:=by
 unfold bU;cases h:xs.findIdx? pr with
 | none=>exact .inl rfl
 | some i=>
  obtain⟨a,b,-⟩:=SE.1 h;exact .inr ⟨i,a,rfl,by rw[br (z4 a)];exact b⟩
def Ko(a:i<h.K.length)(b:k<(aX h (nth h.K i).Q).length)(c:pI h i (nth (aX h (nth h.K i).Q) k)=false):wS h=false:=by
 unfold wS;exact cC a (iY (ar b) c)
theorem GP(h:ac)(g:eN h.K)(b:wu h):zzA 212 false [.val (some 24) (ac.enc .S h)] .one [B (wS h)]:=by
 have j:=g.1;have D:eQ h<=1048576:=b.1;refine fO 55 [(4,8,[14,15,16,17,18,19,20,21]),(8,6,[28,29,30,31,32,33]),(9,21,[34,35,36,37,38,39,40,41,42,43,44,45,46,47,48,49,50,51,52,53,54])] Tryz.func212 rfl ?_
 refine σP ?_
 refine gK h.K.length (λi=>[(1,bB (ac.enc .S h)),(3,fN i)]) (λi=>dq i (λi=>(aX h (nth h.K i).Q).all (pI h i))=true) rfl λi w=>?_
 obtain⟨w,E⟩:=w;by_cases l:i<h.K.length
 ·have o:=ar l
  have F:=gh h (nth h.K i).Q
  repeat'(first|refine gE ?_|refine CG (jM h _ b) ?_)
  refine gK ((aX h (nth h.K i).Q).length) (λk=>[(1,bB (ac.enc .S h)),(3,fN i),(4,bJ (aF .own (aX h (nth h.K i).Q))),(5,fN k)]) (λk=>((aX h (nth h.K i).Q).take k).all (pI h i)=true) ψ λk y=>?_
  obtain⟨y,G⟩:=y;by_cases q:k<(aX h (nth h.K i).Q).length
  ·have c:=ar q
   have a:=my h (nth (aX h (nth h.K i).Q) k) j;rcases mq (nG (nth (aX h (nth h.K i).Q) k)) h.K with e|⟨n,H,e,-⟩
   ·rw[show gk h (nth (aX h (nth h.K i).Q) k) = -1 from e]at a
    have r:pI h i (nth (aX h (nth h.K i).Q) k)=false:=by grind [pI,gk]
    repeat'(first|refine gE ?_|refine gS (λt=>?_) (λt=>?_)|fail)
    all_goals first
     | exact bZ ((Ko l q r).symm)
     |(exfalso;omega)
   rw[show gk h (nth (aX h (nth h.K i).Q) k)=(n:Nat) from e]at a;have J:=ar H;have C:=pF (nth h.K i) (nth h.K n);have d:pI h i (nth (aX h (nth h.K i).Q) k)=(decide ((n:Int)=(i:Nat)) || meshable (nth h.K i) (nth h.K n)):=by
    unfold pI;rw[show gk h (nth (aX h (nth h.K i).Q) k)=(n:Nat) from e,O0 (p:=(0:Int)<=(n:Nat)) ω];simp
   cases u:meshable (nth h.K i) (nth h.K n)<;>rw[u]at C
   all_goals
    repeat'(first|refine gE ?_|refine gS (λt=>?_) (λt=>?_)|fail)
    all_goals first
     | exact bZ ((Ko l q (by rw[d,u];grind)).symm)
     | ((conv=>whnf);exact cV (k+1) ⟨ω,dL c G (by rw[d,u];grind)⟩)
     |(exfalso;omega)
  refine σE ?_
  (exact cV (i+1) ⟨ω,bF E ψ⟩)
 obtain rfl:i=h.K.length:=ω
 refine σE ?_
 exact bZ ((by grind [wS]))
def RX(j:cY)(a:cY.sml j):zzA 217 false [.val (some 5) (cY.enc .S j)] .one [B (w6 j)]:=by
 have c:j.X.T.length<=1048576:=a;refine fO 30 [] Tryz.func217 rfl ?_
 repeat'(first|refine gP ?_|refine gS (λb=>?_) (λb=>?_)|fail)
 all_goals exact bZ ((by unfold w6;first|(symm;exact C1 ω)|(rw[C9,beq_iff_eq,C0];omega)))
theorem qS(sp:List aB)(la:List aC)(a:Int):((denotes sp la a).b2=1->0<=(denotes sp la a).c3/\(denotes sp la a).c3.toNat<sp.length)/\((denotes sp la a).b2=3->0<=(denotes sp la a).c3/\(denotes sp la a).c3.toNat<la.length):=by grind [SE,denotes,qv]
theorem ME(h:ac)(a c:Int)(d:eN h.K)(e:eU h.H)(b:b8 h.K h.H=true)(j:rx a):zzA 363 false [.val (some 24) (ac.enc .S h),.vI a,.vI c] .one [B (ed h a c)]:=by
 have i:=qT h.K h.H a d e b j;obtain⟨g,-⟩:=qS h.K h.H a;unfold ed;generalize denotes h.K h.H a=w at i g |-;refine fO 37 [] Tryz.func363 rfl ?_
 repeat'(first|refine gP ?_|refine gS (λk=>?_) (λk=>?_)|refine CQ (g (by assumption)).1 (aa (ar (g (by assumption)).2)) ?_)
 all_goals exact bZ (ψ)
theorem Fj(h:ac)(o:bg)(w:lG)(a:denotes h.K h.H o.Addr=w):kK h o=(decide (w.c8=0)&&((decide (w.b2=1)&&decide ((nth h.K w.c3.toNat).d=aN o.k)) || (decide (w.b2=3)&&decide ((nth h.H w.c3.toNat).k=o.k)))):=by grind [kK]
def lU(a:i<h.J.length)(b:objAt (IntKind.i64.wrap (h.b - 1)) h i=false):gV h=false:=cC a b
theorem Qn(h1:jl a h i=false):objAt a h i=false:=by grind [objAt]
theorem Qa(h1:(h.J.take i).any (cM (nth h.J i).Id)=true):objAt a h i=false:=by grind [objAt]
theorem Qb(h1:kK h (nth h.J i)=false):objAt a h i=false:=by grind [objAt]
theorem Gz(h1:jl a h i=true)(h2:(h.J.take i).any (cM (nth h.J i).Id)=false)(b:kK h (nth h.J i)=true):objAt a h i=true:=by grind [objAt]
theorem MQ(h:ac)(l:eN h.K)(n:eU h.H)(g:b8 h.K h.H=true)(H:h.J.length<=1048576)(J:h.R.length<=1048576)(F:∀o∈h.J,rx o.Addr):zzA 215 false [.val (some 24) (ac.enc .S h)] .one [B (gV h)]:=by
 refine fO 117 [(5,33,[21,22,23,24,25,26,27,28,29,30,31,32,33,34,35,36,37,38,39,40,41,42,43,44,45,46,47,48,49,50,51,52,53]),(10,9,[59,60,61,62,63,64,65,66,67]),(13,16,[75,76,77,78,79,80,81,82,83,84,85,86,87,88,89,90]),(14,15,[91,92,93,94,95,96,97,98,99,100,101,102,103,104,105])] Tryz.func215 rfl ?_
 refine σP ?_
 refine gK h.J.length (λi=>[(1,bB (ac.enc .S h)),(3,fN i)]) (λi=>dq i (objAt (IntKind.i64.wrap (h.b - 1)) h)=true) rfl λi t=>?_
 obtain⟨t,u⟩:=t;by_cases d:i<h.J.length
 ·have y:=ar d
  have C:=qT h.K h.H (nth h.J i).Addr l n g (F _ (ax d));obtain⟨p,q⟩:=qS h.K h.H (nth h.J i).Addr;have b:=Fj h (nth h.J i) _ rfl;generalize denotes h.K h.H (nth h.J i).Addr=w at C p q b;by_cases c:jl (IntKind.i64.wrap (h.b - 1)) h i=true
  ·have a:=c
   unfold jl at a;rw[C0]at a
   repeat'(first|refine gE ?_|refine gS (λe=>?_) (λe=>?_)|refine CQ ω (aa (iM ω d)) ?_|refine CG (aQ _ _ _) ?_|refine CS rfl ?_)
   all_goals
    (conv=>whnf)
    refine gK i (λk=>[(1,bB (ac.enc .S h)),(3,fN i),(4,bB (bg.enc .S (nth h.J i))),(5,fN k)]) (λk=>(h.J.take k).any (cM (nth h.J i).Id)=false) rfl λk D=>?_
    obtain⟨D,E⟩:=D;by_cases G:k<i
    ·have r:=ar (xs:=h.J) (i:=k) ω
     repeat'(first|refine gE ?_|refine gS (λe=>?_) (λe=>?_)|fail)
     all_goals first
      | exact bZ ((lU d (Qa (Jo (i:=k) (by rw[List.getElem?_take_of_lt G];exact r) (O0 (by assumption))))).symm)
      | ((conv=>whnf);exact cV (k+1) ⟨ω,Bd r E (C1 (by assumption))⟩)
    obtain rfl:k=i:=ω
    repeat'(first|refine gE ?_|refine gS (λe=>?_) (λe=>?_)|refine CQ (p (by assumption)).1 (aa (ar (p (by assumption)).2)) ?_|refine CQ (q (by assumption)).1 (aa (ar (q (by assumption)).2)) ?_|refine CG (nk _) ?_)
    all_goals first
     | exact bZ ((lU d (Qb (by rw[b];grind))).symm)
     | ((conv=>whnf);exact cV (k+1) ⟨ω,bF u (Gz c E (by rw[b];grind))⟩)
     |(exfalso;omega)
  have j:jl (IntKind.i64.wrap (h.b - 1)) h i=false:=by simpa using c
  have a:=j;unfold jl at a;rw[z9]at a
  repeat'(first|refine gE ?_|refine gS (λe=>?_) (λe=>?_)|refine CQ ω (aa (iM ω d)) ?_|refine CG (aQ _ _ _) ?_|refine CS rfl ?_)
  all_goals first
   | exact bZ ((lU d (Qn j)).symm)
   |(exfalso;omega)
 obtain rfl:i=h.J.length:=ω
 refine σE ?_
 exact bZ ((show true=gV h from u.symm))
theorem tC(o a:bg):zzA 234 false [.val (some 4) (bg.enc .S o),.ptr (bg.enc .S a)] .one [B (cM a.Id o)]:=by
 refine fO 9 [] Tryz.func234 rfl ?_
 refine σP ?_
 grind [cM]
theorem LT(h:ac)(n:eN h.K)(o:eU h.H)(G:h.J.length<=1048576)(H:h.R.length<=1048576):zzA 81 false [.val (some 24) (ac.enc .S h)] .one [B (gV h)]:=by
 refine fO 105 [(4,33,[16,17,18,19,20,21,22,23,24,25,26,27,28,29,30,31,32,33,34,35,36,37,38,39,40,41,42,43,44,45,46,47,48]),(9,16,[62,63,64,65,66,67,68,69,70,71,72,73,74,75,76,77]),(10,15,[78,79,80,81,82,83,84,85,86,87,88,89,90,91,92])] Tryz.func81 rfl ?_
 refine σP ?_
 refine gK h.J.length (λi=>[(1,bB (ac.enc .S h)),(9,bJ (pG .S h.J)),(10,fI h.J.length),(11,fN i)]) (λi=>dq i (objAt (IntKind.i64.wrap (h.b - 1)) h)=true) rfl λi D=>?_
 obtain⟨D,E⟩:=D;by_cases e:i<h.J.length
 ·have p:=ar e
  have F:=kT h.K h.H (nth h.J i).Addr n o;obtain⟨q,t⟩:=qS h.K h.H (nth h.J i).Addr;have b:=Fj h (nth h.J i) _ rfl;generalize denotes h.K h.H (nth h.J i).Addr=w at F q t b;have g:=xk (h.J.take i) (cM (nth h.J i).Id) ψ;by_cases c:jl (IntKind.i64.wrap (h.b - 1)) h i=true
  ·have a:=c
   unfold jl at a;rw[C0]at a;cases d:(h.J.take i).any (cM (nth h.J i).Id)<;>rw[d]at g
   ·repeat'(first|refine gE ?_|refine gS (λj=>?_) (λj=>?_)|refine CQ ω (aa (iM ω e)) ?_|refine CG (aK _ _ _) ?_|refine Cc i rfl jp (λr u=>by obtain⟨z,-,rfl⟩:=O8.1 u;rfl) (C8 ..) ?_|refine Ce (mC (some 4) (bg.enc .S) (cM (nth h.J i).Id) (h.J.take i)) (tC default (nth h.J i)).has (λL k rcs C=>by obtain⟨y,-,rfl,rfl,rfl⟩:=C;exact tC y (nth h.J i)) ?_|refine CQ (q (by assumption)).1 (aa (ar (q (by assumption)).2)) ?_|refine CQ (t (by assumption)).1 (aa (ar (t (by assumption)).2)) ?_|refine CG (jg _) ?_|refine CS rfl ?_)
    all_goals first
     | exact bZ ((lU e (Qb (by rw[b];grind))).symm)
     | ((conv=>whnf);exact cV (i+1) ⟨ω,bF E (Gz c d (by rw[b];grind))⟩)
     |(exfalso;omega)
   repeat'(first|refine gE ?_|refine gS (λj=>?_) (λj=>?_)|refine CQ ω (aa (iM ω e)) ?_|refine CG (aK _ _ _) ?_|refine Cc i rfl jp (λr u=>by obtain⟨z,-,rfl⟩:=O8.1 u;rfl) (C8 ..) ?_|refine Ce (mC (some 4) (bg.enc .S) (cM (nth h.J i).Id) (h.J.take i)) (tC default (nth h.J i)).has (λL k rcs C=>by obtain⟨y,-,rfl,rfl,rfl⟩:=C;exact tC y (nth h.J i)) ?_|refine CS rfl ?_)
   all_goals first
    | exact bZ ((lU e (Qa d)).symm)
    |(exfalso;omega)
  have l:jl (IntKind.i64.wrap (h.b - 1)) h i=false:=by simpa using c
  have a:=l;unfold jl at a;rw[z9]at a
  repeat'(first|refine gE ?_|refine gS (λj=>?_) (λj=>?_)|refine CQ ω (aa (iM ω e)) ?_|refine CG (aK _ _ _) ?_|refine CS rfl ?_)
  all_goals first
   | exact bZ ((lU e (Qn l)).symm)
   |(exfalso;omega)
 obtain rfl:i=h.J.length:=ω
 refine σE ?_
 exact bZ ((show true=gV h from E.symm))
set_option maxHeartbeats 8000000
theorem Rv(h:mR sp la n=true):oR sp la (n+1)=oR sp la n++[(n:Int)]:=by grind [List.range_succ,oR]
theorem Uv(h:mR sp la n=false):oR sp la (n+1)=oR sp la n:=by grind [List.range_succ,oR]
theorem FH(sp:List aB)(la:List aC)(n:Nat):(oR sp la n).length<=n:=by grind [oR]
theorem vF{w:lG}(a:denotes sp la (n:Nat)=w):mR sp la n=(decide (w.c8=0)&&(decide (w.b2=1) || decide (w.b2=3))):=by grind [mR]
def VN(h:n<=1048576):rx (n:Nat):=⟨ω,ω⟩
theorem Ay(sp:List aB)(la:List aC)(c:eN sp)(d:eU la)(a:b8 sp la=true):zzA 364 false [.val none (bY .S sp),.val none (ce .S la)] .one (aF .own (kF sp la)):=by
 have g:=pn sp la c d;rw[a]at g;refine fO 40 [] Tryz.func364 rfl ?_ (.inr (bC _))
 refine σP ?_
 refine lp0 512 (λn=>[(0,bJ (bY .S sp)),(1,bJ (ce .S la)),(5,bJ (aF .own (oR sp la n))),(6,fN n)]) λn o=>?_
 have i:=FH sp la n;by_cases p:n<512
 ·have h:=qT sp la (n:Nat) c d a (VN ω)
  generalize j:denotes sp la (n:Nat)=w at h;have e:=vF j
  repeat'(first|refine gE ?_|refine gS (λk=>?_) (λk=>?_)|refine Ca cA (λr l=>by rw[z3.1 l];rfl) (by simp[bp,eO]) jp (by simp only[I2];exact vm jp qs) rfl ?_)
  all_goals first
   |(have b:mR sp la n=true:=by rw[e];grind
     (conv=>whnf)
     refine CR (n+1) ω ω ?_;rw[Rv b]
     (exact wD))
   |(have b:mR sp la n=false:=by rw[e];grind
     (conv=>whnf)
     refine CR (n+1) ω ω ?_;rw[Uv b]
     (exact wA))
 obtain rfl:n=512:=ω
 refine σE ?_
 rfl
theorem BO(m:aP)(a:m.a0.length=m.U.length):∀i,i<=m.U.length->(((flight1 m i).length+(flight2 m i).length:Nat):Int)=bQ m i
 | 0,_=>rfl
 | i+1,h=>by
  have d:=BO m a i ω;have b:=ar (xs:=m.U) (i:=i) ω;have c:=ar (xs:=m.a0) (i:=i) ω;rw[qJ b,qC c];simp only[O5,I2];show _=bQ m i+((nth m.U i).length+(nth m.a0 i).length);omega
theorem ni(h:bG m=true):(aL m).length<=30:=by grind [BO,rH,bG]
def KU(d:aP.wf m):∀a∈aL m,rx a:=by
 intro a b;unfold aL at b;split at b
 ·rcases z5.1 b with h|h
  ·obtain⟨l,c,h⟩:=List.mem_flatMap.1 h
   obtain⟨p,e,rfl⟩:=O8.1 h;exact((d.1.2 l c).2 p e).2
  obtain⟨l,c,h⟩:=List.mem_flatten.1 h;exact(d.2.2 l c).2 a h
 cases b
theorem R6(h1:h.R.all (gw h)=false):lC h=false:=by grind [lC,l8]
theorem Rn(h1:h.a7.y.all (jH h)=false):lC h=false:=by grind [lC,l8]
theorem RC(h1:(aL h.w).all (mc h)=false):lC h=false:=by grind [lC,l8]
theorem QU(a:i<(holders h).length)(b:nth (holders h) i∈(holders h).take i):lC h=false:=by
 have c:decide (holders h).Nodup=false:=UI (S:=(holders h).take i) (p:=nth (holders h) i) (by
   have:=ar a;have e:(holders h).take i++[nth (holders h) i]=(holders h).take (i+1):=by grind [CB]
   grind) b
 grind [lC]
theorem ym(a:h.R[i]? = some c):((h.R.take (i+1)).flatMap λc=>c.Y.flatten)=((h.R.take i).flatMap λc=>c.Y.flatten)++c.Y.flatten:=by grind [CB]
theorem Bx(a:c.Y[k]? = some l):(c.Y.take (k+1)).flatten=(c.Y.take k).flatten++l:=by grind [CB]
theorem Ph(h:ac)(hs:ac.sml h)(hw:ac.wf h)(t:b8 h.K h.H=true)(w:bG h.w=true)(U:∀c∈h.R,bx c=true):zzA 216 false [.val (some 24) (ac.enc .S h)] .one [B (lC h)]:=by
 obtain⟨-,-,E,F,V,W,X,Y,-⟩:=hs;obtain⟨-,-,-,-,-,Z,hwm,hwq,-⟩:=hw;have hlo:h.J.length<=1048576:=V.1;have hlc:h.R.length<=1048576:=W.1;have hlq:h.a7.y.length<=1048576:=Y.1;have hfl:=ni w;have hfw:=KU hwm;have y:∀a c,rx a->zzA 363 false [.val (some 24) (ac.enc .S h),.vI a,.vI c] .one [B (ed h a c)]:=λa c ha=>ME h a c E F t ha
 refine fO 159 [(16,8,[63,64,65,66,67,68,69,70]),(22,17,[86,87,88,89,90,91,92,93,94,95,96,97,98,99,100,101,102]),(29,7,[122,123,124,125,126,127,128]),(35,8,[142,143,144,145,146,147,148,149])] Tryz.func216 rfl ?_
 refine σP ?_
 refine mD (ι:=Nat × List Int) (λi=>[(1,bB (ac.enc .S h)),(3,bJ (aF .own i.2)),(4,fN (i.1))]) (λi=>i.1<=h.J.length/\i.2=(h.J.take i.1).map (·.Addr)) (λi=>h.J.length - i.1) ((0,[])) ψ λi u=>?_
 obtain⟨i,S⟩:=i;obtain⟨u,O⟩:=u;simp only at u O |-;have hSl:S.length=i:=ψ
 by_cases li:i<h.J.length
 ·have C:=ar li
  repeat'(first|refine gE ?_|refine Ca cA (λr l=>by rw[z3.1 l];rfl) (by simp[bp,eO]) jp (by simp only[I2];exact vm jp qs) rfl ?_)
  ((conv=>whnf)
   refine CR (i+1,S++[(nth h.J i).Addr]) ⟨(by simp only;omega),(by grind [CB])⟩ (by simp only;omega) ?_
   (exact wD))
 obtain rfl:i=h.J.length:=ω
 rw[S9]at O
 refine σE ?_
 refine mD (ι:=Nat × List Int) (λi=>[(1,bB (ac.enc .S h)),(3,bJ (aF .own i.2)),(5,fN (i.1))]) (λi=>i.1<=h.R.length/\i.2=S++((h.R.take i.1).flatMap λc=>c.Y.flatten)/\(h.R.take i.1).all (gw h)=true/\i.2.length<=1048576+32*i.1) (λi=>h.R.length - i.1) ((0,S)) ψ λi u=>?_
 obtain⟨i,S2⟩:=i;obtain⟨hi2,n,ai,G⟩:=u;simp only at hi2 n ai G |-;by_cases li2:i<h.R.length
 ·have C:=ar li2
  obtain⟨h4,h8⟩:=oG (U _ (ax li2));have hwl:=Z.2 _ (ax li2)
  refine σE ?_
  refine mD (ι:=Nat × List Int) (λk=>[(1,bB (ac.enc .S h)),(3,bJ (aF .own k.2)),(5,fN i),(6,fN (k.1))]) (λk=>k.1<=(nth h.R i).Y.length/\k.2=S2++((nth h.R i).Y.take k.1).flatten/\dq k.1 (v8 h (nth h.R i))=true/\k.2.length<=S2.length+8*k.1) (λk=>(nth h.R i).Y.length - k.1) ((0,S2)) (⟨I1 _,by simp,rfl,by simp⟩) λk hk=>?_
  obtain⟨k,P⟩:=k;obtain⟨hk,H,ak,hb3⟩:=hk;simp only at hk H ak hb3 |-;by_cases Q:k<(nth h.R i).Y.length
  ·have hy:=ar Q
   have hl8:=h8 _ (ax Q);have hwa:=(hwl.2 _ (ax Q)).2
   refine σE ?_
   refine mD (ι:=Nat × List Int) (λj=>[(1,bB (ac.enc .S h)),(3,bJ (aF .own j.2)),(5,fN i),(6,fN k),(7,bJ (aF .S (nth (nth h.R i).Y k))),(8,fN (j.1))]) (λj=>j.1<=(nth (nth h.R i).Y k).length/\j.2=P++(nth (nth h.R i).Y k).take j.1/\((nth (nth h.R i).Y k).take j.1).all (λa=>ed h a (k:Nat))=true) (λj=>(nth (nth h.R i).Y k).length - j.1) ((0,P)) ψ λj hj=>?_
   obtain⟨j,S4⟩:=j;obtain⟨hj,J,R⟩:=hj;simp only at hj J R |-;have hl4:S4.length=P.length+j:=ψ
   by_cases lj:j<(nth (nth h.R i).Y k).length
   ·have d:=ar lj
    have b:=y (nth (nth (nth h.R i).Y k) j) (k:Nat) ψ;cases g:ed h (nth (nth (nth h.R i).Y k) j) (k:Nat)<;>rw[g]at b
    ·refine σE ?_
     exact bZ ((R6 (iY C (by unfold gw;exact cC Q (iY d g)))).symm)
    repeat'(first|refine gE ?_|refine Ca cA (λr l=>by rw[z3.1 l];rfl) (by simp[bp,eO]) jp (by show _*8<=_;simp;omega) rfl ?_)
    ((conv=>whnf)
     refine CR (j+1,S4++[nth (nth (nth h.R i).Y k) j]) ⟨(by simp only;omega),(by grind [CB]),dL d R g⟩ (by simp only;omega) ?_
     (exact wD))
   obtain rfl:j=(nth (nth h.R i).Y k).length:=ω
   rw[S9]at J R
   refine σE ?_
   (exact cV (k+1,S4) ⟨(by simp only;omega),(by grind [Bx]),bF ak R,(by simp only;omega)⟩)
  obtain rfl:k=(nth h.R i).Y.length:=ω
  rw[S9]at H
  refine σE ?_
  (exact cV (i+1,P) ⟨(by simp only;omega),(by grind [ym]),dL C ai ak,(by simp only;omega)⟩)
 obtain rfl:i=h.R.length:=ω
 rw[S9]at n ai
 refine σE ?_
 refine mD (ι:=Nat × List Int) (λq=>[(1,bB (ac.enc .S h)),(3,bJ (aF .own q.2)),(9,fN (q.1))]) (λq=>q.1<=h.a7.y.length/\q.2=S2++(h.a7.y.take q.1).map (·.Addr)/\(h.a7.y.take q.1).all (jH h)=true) (λq=>h.a7.y.length - q.1) ((0,S2)) ψ λq K=>?_
 obtain⟨q,L⟩:=q;obtain⟨D,o,aq⟩:=K;simp only at D o aq |-;have hl5:L.length=S2.length+q:=ψ
 by_cases T:q<h.a7.y.length
 ·have d:=ar T
  have b:=y (nth h.a7.y q).Addr (nth h.a7.y q).d (hwq.2.2 _ (ax T)).1;cases g:ed h (nth h.a7.y q).Addr (nth h.a7.y q).d<;>rw[g]at b
  ·refine σE ?_
   exact bZ ((Rn (iY d g)).symm)
  repeat'(first|refine gE ?_|refine Ca cA (λr l=>by rw[z3.1 l];rfl) (by simp[bp,eO]) jp (by show _*8<=_;simp;omega) rfl ?_)
  ((conv=>whnf)
   refine CR (q+1,L++[(nth h.a7.y q).Addr]) ⟨(by simp only;omega),(by grind [CB]),dL d aq g⟩ (by simp only;omega) ?_
   (exact wD))
 obtain rfl:q=h.a7.y.length:=ω
 rw[S9]at o aq
 repeat'(first|refine gE ?_|refine CG (Ey h.w X) ?_)
 refine mD (ι:=Nat × List Int) (λq=>[(1,bB (ac.enc .S h)),(3,bJ (aF .own q.2)),(10,bJ (aF .own (aL h.w))),(11,fN (q.1))]) (λq=>q.1<=(aL h.w).length/\q.2=L++(aL h.w).take q.1/\((aL h.w).take q.1).all (mc h)=true) (λq=>(aL h.w).length - q.1) ((0,L)) ψ λq K=>?_
 obtain⟨q,e⟩:=q;obtain⟨D,p,aq6⟩:=K;simp only at D p aq6 |-;have hl6:e.length=L.length+q:=ψ
 by_cases T:q<(aL h.w).length
 ·have d:=ar T
  have b:=y (nth (aL h.w) q) (-1) ψ;cases g:ed h (nth (aL h.w) q) (-1)<;>rw[g]at b
  ·refine σE ?_
   exact bZ ((RC (iY d g)).symm)
  repeat'(first|refine gE ?_|refine Ca cA (λr l=>by rw[z3.1 l];rfl) (by simp[bp,eO]) jp (by show _*8<=_;simp;omega) rfl ?_)
  ((conv=>whnf)
   refine CR (q+1,e++[nth (aL h.w) q]) ⟨(by simp only;omega),(by grind [CB]),dL d aq6 g⟩ (by simp only;omega) ?_
   (exact wD))
 obtain rfl:q=(aL h.w).length:=ω
 rw[S9]at p aq6;have M:e=holders h:=by rw[p,o,n,O];rfl
 have hheld:l8 h=true:=by grind [l8]
 have hbig:e.length<=100000000:=ω
 clear p o n O hSl hl5 G hl6
 refine σE ?_
 refine Lp.fz 3 (ι:=Nat) (λi=>[(1,bB (ac.enc .S h)),(3,bJ (aF .S e)),(12,fN i)]) (λi=>i<=e.length/\(e.take i).Nodup) (λi=>e.length - i) 0 ?_ ψ λi u=>?_
 ·(repeat'(first|exact tV1|rfl|exact CV rfl (show Rr (eJ (aF .own e)) (aF .S e) by rw[cR];exact m9 _)|refine CV ?_ ?_))
 obtain⟨u,N⟩:=u;by_cases lj:i<e.length
 ·have d:=ar lj
  have htl:(e.take i).length=i:=ψ
  repeat'(first|refine gE ?_|refine gS (λK=>?_) (λK=>?_)|refine Cc i rfl jp (λr l=>by obtain⟨z,-,rfl⟩:=O8.1 l;rfl) (C8 ..) ?_|refine CG (ql (e.take i) _ ω) ?_)
  all_goals first
   | exact bZ ((by rw[M]at *;exact(QU (by assumption) (by assumption)).symm))
   | ((conv=>whnf);exact cV (i+1) ⟨ω,by rw[CB,d];exact ow N (by assumption)⟩)
 obtain rfl:i=e.length:=ω
 rw[S9]at N;have hlv:=FH h.K h.H 512
 repeat'(first|refine gE ?_|refine CG (Ay h.K h.H E F t) ?_)
 exact bZ ((by grind [lC]))
set_option maxHeartbeats 8000000
def eH(h:ac):Bool:=(bG h.w&&decide (h.R.length=h.w.U.length))&&gu h.a7
def cw(h:ac):Bool:=((((((mM h&&wS h)&&eH h)&&oY h)&&h.R.all bx)&&cI h)&&(gV h&&lC h))&&wQ h
theorem KW(h:ac)(V:ac.sml h)(W:ac.wf h):zzA 73 false [.val (some 24) (ac.enc .S h)] .one [B (cw h)]:=by
 have L:=V;have M:=W;obtain⟨u,w,b,j,N,y,C,D,E⟩:=V;obtain⟨-,-,-,-,O,hwc,hwm,hwq,-⟩:=W;have l:wu h:=u.1.2;have hpn:eQ h<=1048576:=l.1;have P:h.J.length<=1048576:=N.1;have Q:h.R.length<=1048576:=y.1;have hlq:h.a7.y.length<=1048576:=D.1;have hlb:h.w.U.length<=1048576:=C.1.1;have d:=pc h.G u;have e:=pO (eQ h) h.o ω w;have g:=pn h.K h.H b j;have r:=GP h b l;have F:=oT h.w C;have R:=rX h.a7 D;cases X:aI h.G<;>rw[X]at d
 ·refine fO 150 [(8,10,[67,68,69,70,71,72,73,74,75,76])] Tryz.func73 rfl ?_
  repeat'(first|refine gP ?_|refine gS (λa=>?_) (λa=>?_)|fail)
  all_goals first
   | exact bZ ((by unfold cw mM;rw[X];simp))
   |(exfalso;omega)
 cases Y:bN (eQ h) h.o<;>rw[Y]at e
 ·refine fO 150 [(8,10,[67,68,69,70,71,72,73,74,75,76])] Tryz.func73 rfl ?_
  repeat'(first|refine gP ?_|refine gS (λa=>?_) (λa=>?_)|fail)
  all_goals first
   | exact bZ ((by unfold cw mM;rw[Y];simp))
   |(exfalso;omega)
 cases G:b8 h.K h.H<;>rw[G]at g
 ·refine fO 150 [(8,10,[67,68,69,70,71,72,73,74,75,76])] Tryz.func73 rfl ?_
  repeat'(first|refine gP ?_|refine gS (λa=>?_) (λa=>?_)|fail)
  all_goals first
   | exact bZ ((by unfold cw mM;rw[G];simp))
   |(exfalso;omega)
 have n:=Mr h b j l w G;cases Z:pages0 h<;>rw[Z]at n
 ·refine fO 150 [(8,10,[67,68,69,70,71,72,73,74,75,76])] Tryz.func73 rfl ?_
  repeat'(first|refine gP ?_|refine gS (λa=>?_) (λa=>?_)|fail)
  all_goals first
   | exact bZ ((by unfold cw mM;rw[Z];simp))
   |(exfalso;omega)
 cases e5:wS h<;>rw[e5]at r
 ·refine fO 150 [(8,10,[67,68,69,70,71,72,73,74,75,76])] Tryz.func73 rfl ?_
  repeat'(first|refine gP ?_|refine gS (λa=>?_) (λa=>?_)|fail)
  all_goals first
   | exact bZ ((by unfold cw ;rw[e5];simp))
   |(exfalso;omega)
 cases S:bG h.w<;>rw[S]at F
 ·refine fO 150 [(8,10,[67,68,69,70,71,72,73,74,75,76])] Tryz.func73 rfl ?_
  repeat'(first|refine gP ?_|refine gS (λa=>?_) (λa=>?_)|fail)
  all_goals first
   | exact bZ ((by unfold cw eH;rw[S];simp))
   |(exfalso;omega)
 by_cases T:h.R.length=h.w.U.length;rotate_left
 ·refine fO 150 [(8,10,[67,68,69,70,71,72,73,74,75,76])] Tryz.func73 rfl ?_
  repeat'(first|refine gP ?_|refine gS (λa=>?_) (λa=>?_)|fail)
  all_goals first
   | exact bZ ((by unfold cw eH;rw[C1 T];simp))
   |(exfalso;omega)
 cases e7:gu h.a7<;>rw[e7]at R
 ·refine fO 150 [(8,10,[67,68,69,70,71,72,73,74,75,76])] Tryz.func73 rfl ?_
  repeat'(first|refine gP ?_|refine gS (λa=>?_) (λa=>?_)|fail)
  all_goals first
   | exact bZ ((by unfold cw eH;rw[e7];simp))
   |(exfalso;omega)
 have hlay:mM h=true:=by grind [mM]
 have hmc:eH h=true:=by grind [eH]
 refine fO 150 [(8,10,[67,68,69,70,71,72,73,74,75,76])] Tryz.func73 rfl ?_
 repeat'(first|refine gB ?_|refine gS (λa=>?_) (λa=>?_)|fail)
 all_goals try(exfalso;omega)
 (conv=>whnf)
 refine gK h.a7.y.length (λi=>[(1,bB (ac.enc .S h)),(3,fN i)]) (λi=>(h.a7.y.take i).all (λx=>decide (x.b5<=h.b1))=true) ψ λi hi=>?_
 obtain⟨hi,ai⟩:=hi;by_cases li:i<h.a7.y.length
 ·have p:=ar li
  repeat'(first|refine gE ?_|refine gS (λa=>?_) (λa=>?_)|fail)
  all_goals first
   | exact bZ ((by unfold cw oY;rw[iY p (C1 ω)];simp))
   | ((conv=>whnf);exact cV (i+1) ⟨ω,dL p ai (O0 ω)⟩)
 have hsi:oY h=true:=qq ω ai
 refine σE ?_
 refine gK h.R.length (λk=>[(1,bB (ac.enc .S h)),(4,fN k)]) (λk=>(h.R.take k).all bx=true) ψ λk hk=>?_
 obtain⟨hk,ak⟩:=hk;by_cases lk:k<h.R.length
 ·have p:=ar lk
  have U:=qp (nth h.R k) (y.2 _ (ax lk));cases e8:bx (nth h.R k)<;>rw[e8]at U
  ·refine σE ?_
   exact bZ ((by grind [cw]))
  refine σE ?_
  (exact cV (k+1) ⟨ω,dL p ak e8⟩)
 have hca:h.R.all bx=true:=qq ω ak;have q:=MQ h b j G P Q (λo ho=>(O.2 o ho).2.1);have c10:=Ph h L M G S ψ;have c11:=RX h.a E;have c12:=BE h.a E;have c13:=my h h.a.X.a4 b.1;have c14:=my h h.a.X.a5 b.1;by_cases hn:cI h=true;rotate_left
 ·have H:cI h=false:=by simpa using hn
  have c:=H;unfold cI at c;rw[z9]at c;cases K:gV h<;>rw[K]at q<;>cases e10:lC h<;>rw[e10]at c10
  all_goals
   repeat'(first|refine gE ?_|refine gS (λa=>?_) (λa=>?_)|refine CG (aQ _ _ _) ?_)
   all_goals first
    | exact bZ ((by unfold cw;rw[H];simp))
    |(exfalso;omega)
 have c:=hn;unfold cI at c;rw[C0]at c;cases K:gV h<;>rw[K]at q
 ·repeat'(first|refine gE ?_|refine gS (λa=>?_) (λa=>?_)|refine CG (aQ _ _ _) ?_)
  all_goals first
   | exact bZ ((by unfold cw;rw[K];simp))
   |(exfalso;omega)
 cases e10:lC h<;>rw[e10]at c10
 ·repeat'(first|refine gE ?_|refine gS (λa=>?_) (λa=>?_)|refine CG (aQ _ _ _) ?_)
  all_goals first
   | exact bZ ((by unfold cw;rw[e10];simp))
   |(exfalso;omega)
 have J:cw h=wQ h:=by grind [cw]
 rw[J];unfold wQ;cases em:h.q
 ·repeat'(first|refine gE ?_|refine gS (λa=>?_) (λa=>?_)|refine CG (aQ _ _ _) ?_|refine Bf.f em ?_)
  grind
 cases e12:lB h.a<;>rw[e12]at c12
 all_goals
  repeat'(first|refine gE ?_|refine gS (λa=>?_) (λa=>?_)|refine CG (aQ _ _ _) ?_|refine Bf.t em ?_)
  all_goals first
   | exact bZ (ψ)
   |(exfalso;omega)
def sorted(xs:List Int):List Int:=xs.mergeSort λx y=>decide (x<=y)
theorem BS(xs:List Int):(sorted xs).length=xs.length:=List.length_mergeSort ..
theorem M4{w a:World}{g:Nat}{d:Array Int}{h:Array Obj}{c:Array Value}{e:TypeId}{i:Nat × Nat}(j:w.heap[g]? = some (.cells c e i))(k:a=Sort.grow (Sort.putRow (Value.int .i64) (Sort.ahead w n) g 0 d) h) :
  a.os=w.os/\a.tape=w.tape/\a.output=w.output/\w.heap.size<=a.heap.size/\(∀b,b<w.heap.size->b≠g->a.heap[b]? = w.heap[b]?)/\a.heap[g]? = some (.cells (Sort.putCells (Value.int .i64) 0 d c) e i):=by
 subst k;have f:g<w.heap.size:=ψ
 have l:∀b,b<w.heap.size->(Sort.grow (Sort.putRow (Value.int .i64) (Sort.ahead w n) g 0 d) h).heap[b]? = if g=b then(w.heap[b]?).map (Sort.onCells (Sort.putCells (Value.int .i64) 0 d)) else w.heap[b]?:=λb o=>by grind [Go.Sort.heap_grow_old,Go.Sort.putRow,Go.Sort.mapBlock,Go.Sort.ahead]
 refine⟨rfl,rfl,rfl,?_,λb o p=>?_,?_⟩
 ·grind
 ·grind
 rw[l g f,CL rfl,j];rfl
theorem Wo(d:Array Int)(c:Array Value)(q:Nat):(Sort.putCells (Value.int .i64) 0 d c)[q]? = if q<d.size then(c[q]?).map (λ_=>.int .i64 d[q]!) else c[q]?:=by grind [Go.Sort.putCells]
theorem row1{w:World}{S Y:am}{c:C}{v:Value}(h:fj w S Y c v):dz w S Y [c] (λ_=>v):=by
 refine⟨λ_=>Y,λj a b=>?_,λ_ _ _ _ h=>h,ψ⟩
 all_goals grind
def ZA(Y:am):Nat->am
 | 0=>Y
 | _+1=>NO
theorem V4(xs:List Int)(a:j<xs.length):xs.toArray[j]! = xs[j]:=ψ
theorem VU(xs:List Int)(hl:xs.length<=1048576*64):zzB 383 false [.mut none (aF .own xs)] [.mut none (aF .own (sorted xs))] (.tup []) []:=by
 refine⟨⟨_,Tryz.func383,by kernel_rfl,by kernel_rfl⟩,λw S V vs hS hV hVV N=>?_⟩
 match vs,N with
 | [v],⟨N,_⟩=>
  have t:=bL.rep1 (show bL w S (V 0) none [C.s .own (xs.map (rI .own))] v from N);generalize F:C.s .own (xs.map (rI .own))=cc at t;cases t with
  | nil _ o a ho=>
   cases hcc0:xs with
   | cons x xs'=>grind
   | nil=>
    refine(Tryz.slices_Sort_int_none a 0 w).mono λe p ⟨O,B⟩=>?_
    subst B;refine⟨.tuple #[],O,Cr _ _,NO,λ_=>NO,NO,λ_ _ h=>h.elim,λ_ _ _ h=>h.elim,λ_ _ h=>h.elim,λ_ _ _ _ _ h=>h.elim,λ_ _ _ h=>h.elim,λ_ _ h=>h.elim,λ_ _ _ h=>h.elim,⟨#[],rfl,tV1,rfl⟩,dz.nil _ _ _ _,⟨⟨rfl,λ_=>.slice a 0 0,rfl,row1 (by rw[show sorted []=[] from List.mergeSort_nil ..];exact .nil _ .own _ tV1)⟩,tV1⟩⟩
  | own _ o g k n D rows u f ho hn hk G H hF hu hf hd hc=>
   cases F;have P:n=xs.length:=ψ
   have Q:0<xs.length:=ω
   have R:k=1:=by
    have:=hk (rI .own xs[0]) ψ;exact this.symm
   subst R P;have y:∀j (l:j<xs.length),cel w g j=some (.int .i64 xs[j]):=λj l=>by
    have h1:=hu j ω;have T:=hc j 0 (rI .own xs[j]) (I xs[j]) ψ rfl;rw[Nat.mul_one,Nat.add_zero]at T;rw[h1];generalize u j=z at T;cases T
    rfl
   have U:g<w.heap.size:=ψ
   obtain⟨c,e0,fr,hg,-⟩:=Sort.cells_of_cell? (y 0 Q);have hH:Sort.Holds (Value.int .i64) w g 0 xs.toArray:=λj l=>by
    have J:j<xs.length:=by simpa using l
    refine⟨?_,?_⟩
    ·rw[V4 xs J,OE];exact y j J
    rw[OE];exact O1 Prod.fst (hF j ω).2.2
   refine(Tryz.slices_Sort_int g 0 D xs w hH U ω).mono λe p ⟨O,m,os,B⟩=>?_
   obtain⟨q1,q2,q3,q4,q5,q6⟩:=M4 hg B;have hsl:=BS xs;have hcel:∀q,cel w g q=c[q]?:=λq=>by grind [Go.World.cell?]
   have W:∀q,cel p g q=if q<xs.length then(c[q]?).map (λ_=>.int .i64 (sorted xs).toArray[q]!) else c[q]?:=λq=>by grind [Wo,Go.World.cell?,sorted]
   have d:∀q (X:q<xs.length),cel p g q=some (.int .i64 ((sorted xs)[q]'(ω))):=ψ
   have K:∀q,fro p g q=fro w g q:=λq=>by
    refine Prod.ext ?_ ?_
    ·grind [Go.World.frozen?]
    grind [mp,Go.Sort.putCells]
   have hother:∀b,b<w.heap.size->b≠g->∀o,cel p b o=cel w b o/\fro p b o=fro w b o:=λb hb L o=>by grind [Go.World.cell?,Go.World.frozen?,mp]
   have E:bH (λb o=>∃i,V i b o) w p:=by
    refine⟨q1,q2,q3,q4,ψ,λb o hb hn=>?_,λb o hb hn=>?_⟩
    all_goals grind
   refine⟨.tuple #[],O,E,NO,ZA (V 0),NO,λ_ _ h=>h.elim,λi b o h=>?_,λ_ _ h=>h.elim,λi i' L b o h h'=>?_,λ_ _ _ h=>h.elim,λ_ _ h=>h.elim,λ_ _ _ _ h=>h.elim,⟨#[],rfl,tV1,rfl⟩,dz.nil _ _ _ _,⟨⟨rfl,λ_=>.slice (some ⟨g,0,none⟩) xs.length D,rfl,row1 ?_⟩,tV1⟩⟩
   ·cases i with
    | zero=>exact .inl ⟨0,h⟩
    | succ i=>exact h.elim
   ·cases i with
    | zero=>
     cases i' with
     | zero=>exact L rfl
     | succ i'=>exact h'.elim
    | succ i=>exact h.elim
   show fj p _ (V 0) _ _;refine .own _ .own g 1 xs.length D _ (λq=>(cel p g q).getD undef) (λ_=>NO) tV1 ψ (λr hr=>by obtain⟨z,-,rfl⟩:=O8.1 hr;rfl) G H (λq X=>?_) (λq X=>?_) (λ_ _ _ _ h=>h.elim) (λ_ _ _ _ _ _ _ h=>h.elim) (λi j r c2 M l=>?_)
   ·obtain⟨a1,⟨z,a2,a3⟩,a4⟩:=hF q X
    refine⟨a1,?_,(K q).trans a4⟩;by_cases Y:q<xs.length
    ·exact⟨_,d q Y,rfl⟩
    grind
   ·grind
   rw[I5]at M;have Z:i<(sorted xs).length:=ψ
   rw[z4 Z]at M;simp only[IA,C2]at M;subst M
   match j,l with
   | 0,l=>
    simp only[rI,List.getElem?_cons_zero,C2]at l;subst l;simp only[Nat.mul_one,Nat.add_zero,d i ω,Option.getD_some];exact .v _ _ rfl
   | j+1,l=>simp[rI]at l
  | _=>cases F
set_option maxHeartbeats 8000000
def m7(s:aB)(k:Nat):Int:=16*s.Q+(k:Nat)*csz s.d
def fX(s:aB)(n:Nat):List Int:=((List.range n).filter λk=>bc s.a9 (k:Nat)).map (m7 s)
theorem Ha(h:bc s.a9 (n:Nat)=true):fX s (n+1)=fX s n++[m7 s n]:=by grind [List.range_succ,fX]
theorem JO(h:bc s.a9 (n:Nat)=false):fX s (n+1)=fX s n:=by grind [List.range_succ,fX]
theorem vp(s:aB)(n:Nat):(fX s n).length<=n:=by grind [fX]
def ib(sp:List aB):List Int:=sp.flatMap λs=>fX s (slots s.d).toNat
def live0(sp:List aB)(la:List aC):List Int:=ib sp++la.map λl=>16*l.Q
def kR(sp:List aB)(la:List aC):List Int:=sorted (live0 sp la)
theorem wx(k:Int):0<=slots k/\slots k<=16:=by grind [slots]
def Fp{k:Int}(h:0<=k/\k<=3):slots k*csz k=16:=by
 obtain rfl|rfl|rfl|rfl:k=0\/k=1\/k=2\/k=3:=ω
 all_goals decide
theorem Ah(h:sp[i]? = some s):ib (sp.take (i+1))=ib (sp.take i)++fX s (slots s.d).toNat:=by grind [CB,ib]
def ul(s:aB)(k:Nat)(a:bk s=true)(i:(k:Int)<slots s.d):zzA 339 false [.val (some 3) (aB.enc .S s),.vI (k:Nat)] .one [I (m7 s k)]:=by
 have b:=ik s;have c:=cq s.d;have g:=ir s.d;rw[a]at b;have d:=aJ a;have j:=wx s.d;rcases bT ⟨d.2.2.1,d.2.2.2⟩ with e|e|e|e<;>rw[e]at c
 all_goals
  refine fO 26 [(3,9,[17,18,19,20,21,22,23,24,25])] Tryz.func339 rfl ?_
  repeat'(first|refine gE ?_|refine gS (λh=>?_) (λh=>?_)|refine CG (aK _ 0 _) ?_)
  all_goals exact nO (by unfold m7;rw[e];omega)
theorem rO(sp:List aB)(la:List aC)(c:eN sp)(d:eU la)(a:b8 sp la=true):zzA 238 false [.val none (bY .S sp),.val none (ce .S la)] .one (aF .own (kR sp la)):=by
 have D:=c.1;have E:=d.1;have B:=pu sp la c d;rw[a]at B;obtain⟨o,F,-⟩:=fJ a;refine fP 56 [(383,[1])] [] Tryz.func238 rfl ?_ (.inr (bC _))
 refine σP ?_
 refine mD (ι:=Nat × List Int) (λi=>[(1,bJ (ce .S la)),(5,bJ (aF .own i.2)),(16,bJ (bY .S sp)),(17,fI sp.length),(18,fN (i.1))]) (λi=>i.1<=sp.length/\i.2=ib (sp.take i.1)/\i.2.length<=16*i.1) (λi=>sp.length - i.1) ((0,[])) (⟨I1 _,rfl,I1 _⟩) λi e=>?_
 obtain⟨i,S⟩:=i;obtain⟨e,p,G⟩:=e;simp only at e p G |-;by_cases j:i<sp.length
 ·have n:=ar j
  have g:bk (nth sp i)=true:=VO o j;have H:=wx (nth sp i).d;have q:=fK g
  refine σE ?_
  refine mD (ι:=Nat × List Int) (λk=>[(1,bJ (ce .S la)),(5,bJ (aF .own k.2)),(7,bB (aB.enc .S (nth sp i))),(8,fN (k.1)),(16,bJ (bY .S sp)),(17,fI sp.length),(18,fN i)]) (λk=>k.1<=(slots (nth sp i).d).toNat/\k.2=S++fX (nth sp i) k.1) (λk=>(slots (nth sp i).d).toNat - k.1) ((0,S)) (⟨I1 _,by simp[fX]⟩) λk t=>?_
  obtain⟨k,S2⟩:=k;obtain⟨t,b⟩:=t;simp only at t b |-;have J:=vp (nth sp i) k;have h:S2.length=S.length+(fX (nth sp i) k).length:=ψ
  by_cases M:k<(slots (nth sp i).d).toNat
  ·have u:=iu (nth sp i).a9 (k:Nat) q.2
   cases K:bc (nth sp i).a9 (k:Nat)<;>rw[K]at u
   ·repeat'(first|refine gE ?_|refine CG (ir _) ?_)
    (exact cV (k+1,S2) ⟨(by simp only;omega),(by grind [JO])⟩)
   repeat'(first|refine gE ?_|refine CG (ir _) ?_|refine CG (ul (nth sp i) k g ω) ?_|refine Ca cA (λr w=>by rw[z3.1 w];rfl) (by simp[bp,eO]) jp (by show _*8<=_;simp;omega) rfl ?_)
   ((conv=>whnf)
    refine CR (k+1,S2++[m7 (nth sp i) k]) ⟨(by simp only;omega),(by grind [Ha])⟩ (by simp only;omega) ?_
    (exact wD))
  obtain rfl:k=(slots (nth sp i).d).toNat:=ω
  repeat'(first|refine gE ?_|refine CG (ir _) ?_)
  (exact cV (i+1,S2) ⟨(by simp only;omega),(by grind [Ah]),(by simp only;omega)⟩)
 obtain rfl:i=sp.length:=ω
 rw[S9]at p
 refine σE ?_
 refine mD (ι:=Nat × List Int) (λi=>[(5,bJ (aF .own i.2)),(40,bJ (ce .S la)),(41,fI la.length),(42,fN (i.1))]) (λi=>i.1<=la.length/\i.2=S++(la.take i.1).map (λl=>16*l.Q)) (λi=>la.length - i.1) ((0,S)) ψ λi e=>?_
 obtain⟨i,S2⟩:=i;obtain⟨y,b⟩:=e;simp only at y b |-;have h:S2.length=S.length+i:=ψ
 by_cases j:i<la.length
 ·have n:=ar j
  have L:=ye a n
  repeat'(first|refine gE ?_|refine Ca cA (λr w=>by rw[z3.1 w];rfl) (by simp[bp,eO]) jp (by show _*8<=_;simp;omega) rfl ?_)
  ((conv=>whnf)
   refine CR (i+1,S2++[16*(nth la i).Q]) ⟨(by simp only;omega),(by grind [CB])⟩ (by simp only;omega) ?_
   (repeat'(first|exact tV1|rfl|exact CV rfl (CV (O1 (C.s fE.own) (by simp[rI];omega)) tV1)|refine CV ?_ ?_)))
 obtain rfl:i=la.length:=ω
 rw[S9]at b
 repeat'(first|refine gE ?_|refine CO (VU S2 ω) (.inl rfl) ?_)
 show _=aF .own (sorted (ib sp++la.map λl=>16*l.Q));rw[<-p,<-b];rfl
def tX(b:List (Int × Value))(L:List Int):Prop:=∀a,mlook b a (.int .i64 0)=.int .i64 (L.count a:Nat)
theorem RM(c:List (Int × Value))(a b:Int)(v d:Value):mlook (mput c a v) b d=if a=b then v else mlook c b d:=by
 induction c with
 | nil=>grind [mput,mlook]
 | cons p c e=>
  grind [mput,mlook]
def inc(b:List (Int × Value))(L:List Int)(a:Int):List (Int × Value):=mput b a (.int .i64 ((L.count a:Nat)+1))
def Ra:tX [] []:=λ_=>rfl
theorem te{d:List (Int × Value)}{L:List Int}(h:tX d L)(a:Int):tX (inc d L a) (L++[a]):=λb=>by
 unfold inc;rw[RM,OC];by_cases c:a=b
 ·grind
 rw[CJ c,h b,List.count_singleton,CJ (by simpa using c)];rfl
theorem GF(h:ac)(d:eN h.K)(e:eU h.H)(b:List (Int × Value))(L:List Int)(a c:Int)(g:tX b L)(n:L.length<=1000000000) :
  zzB 236 false [.vI a,.vI c,.ptr [.m b],.ptr (ac.enc .S h)] [.vI a,.vI c,.ptr [.m (inc b L a)],.ptr (ac.enc .S h)] .one [B (ed h a c)]:=by
 have j:=kT h.K h.H a d e;obtain⟨i,-⟩:=qS h.K h.H a;have k:L.count a<=L.length:=List.count_le_length;unfold ed;generalize denotes h.K h.H a=w at j i |-;refine fM 41 [] [] [(0,0),(0,0),(0,0),(0,0)] Tryz.func236 rfl (λu q=>?_)
 repeat'(first|refine gP ?_|refine gS (λl=>?_) (λl=>?_)|refine Ml.mk (g a) ?_|refine Mu.mk (es':=inc b L a) rfl ?_|refine CQ (i (by assumption)).1 (aa (ar (i (by assumption)).2)) ?_)
 all_goals
  refine CP rfl ?_ ?_
  ·exact bZ (ψ)
  exact wB
end Go.Proofs.YtiopgblagimpmaaGreat.Ab
