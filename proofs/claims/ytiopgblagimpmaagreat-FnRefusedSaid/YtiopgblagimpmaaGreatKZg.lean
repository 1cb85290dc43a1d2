/- Messages, quarantine and clock: a heap stays whole. No condition. -/
import Derived.Test.YtiopgblagimpmaaGreatKZc
import Derived.Test.YtiopgblagimpmaaGreatKZf
import Derived.Test.YtiopgblagimpmaaGreatKZe
import Derived.Test.YtiopgblagimpmaaGreatKZd
set_option linter.unusedVariables false
set_option linter.defProp false
set_option linter.unusedSimpArgs false
set_option linter.constructorNameAsVariable false
namespace Go.Proofs.YtiopgblagimpmaaGreat.Ab
def gr(m:aP)(f:Nat):aP:=⟨m.U.set f ((nth m.U f).drop 1),m.a0.set (nth (nth m.U f) 0).To.toNat (nth m.a0 (nth (nth m.U f) 0).To.toNat++[(nth (nth m.U f) 0).Addr])⟩
def jB(m:aP)(t:Nat):aP:=⟨m.U,m.a0.set t []⟩
def gF(m:aP)(f:Nat)(p:dA):aP:=⟨m.U.set f (nth m.U f++[p]),m.a0⟩
theorem eC{m:aP} : bG m=true↔(1<=m.U.length/\m.U.length<=4/\m.a0.length=m.U.length)/\(∀i,i<m.U.length->(∀p∈nth m.U i,0<=p.To/\p.To<=(m.U.length:Int) - 1/\0<=p.Addr)/\∀a∈nth m.a0 i,0<=a)/\bQ m m.U.length<=30:=by grind [cK,bG,jo,qW,VX]
theorem sg(m:aP)(f t:Nat)(x:List dA)(y:List Int)(a:f<m.U.length)(b:t<m.a0.length):∀n:Nat,bQ ⟨m.U.set f x,m.a0.set t y⟩ n=bQ m n+(if f<n then(x.length:Int) - ((nth m.U f).length:Nat) else 0)+(if t<n then(y.length:Int) - ((nth m.a0 t).length:Nat) else 0)
 | 0=>by simp[bQ]
 | n+1=>by
  have c:=sg m f t x y a b n
  grind [bW,bQ]
variable{i:Nat}{α:Type}
theorem Jf[Inhabited α]{xs:List α}(h:i<xs.length):xs.set i (nth xs i)=xs:=by
 rw[<-C4.1 (ar h) |>.2]
 simp_all
variable{f:Nat}
theorem L9{m:aP}(h:bG m=true)(a:f<m.U.length)(b:0<(nth m.U f).length):bG (gr m f)=true:=by
 obtain⟨⟨e,g,j⟩,c,k⟩:=eC.1 h;obtain⟨d,l⟩:=c f a;have n:=d _ (ax b);have o:(nth (nth m.U f) 0).To.toNat<m.a0.length:=ω
 refine eC.2 ⟨⟨?_,?_,?_⟩,λi p=>?_,?_⟩
 ·grind [gr]
 ·grind [gr]
 ·grind [gr]
 ·grind [bW,gr]
 grind [sg,gr]
variable{t:Nat}
theorem Xp{m:aP}(h:bG m=true)(a:t<m.a0.length):bG (jB m t)=true:=by
 obtain⟨⟨b,c,e⟩,f,g⟩:=eC.1 h;refine eC.2 ⟨⟨b,c,?_⟩,λi j=>?_,?_⟩
 ·grind [jB]
 ·grind [bW,jB]
 have d:=sg m t t (nth m.U t) [] ω a m.U.length;rw[Jf ω]at d;show bQ ⟨m.U,m.a0.set t []⟩ m.U.length<=30
 grind
theorem qd{m:aP}(h:bG m=true)(b:Int):(aL m).count b=(m.U.flatMap λl=>l.map (·.Addr)).count b+(m.a0.flatMap λx=>x).count b:=by grind [nZ,aL]
variable{E:List Int}{h:ac}
theorem aY.mailed{c:List Int}{m:aP}(d:aY h E)(e:bG m=true)(f:m.U.length=h.w.U.length)(i:∀b,c.count b+(aL m).count b=E.count b+(aL h.w).count b)(j:∀a,a∈c\/a∈aL m->k7 h.K a (-1)):aY {h with w:=m} c:=by
 have g:(E++holders h).Perm (c++holders {h with w:=m}):=by grind [holders,cU]
 exact {d with
   mail:=e
   nc:=d.nc.trans f.symm
   hfl:=(ψ)
   hin:=(ψ)
   nd:=g.nodup_iff.1 d.nd
   mem:=λb=>by grind [aY.mem]}
theorem MH{c:List Int}{m:aP}(e:aY h E)(d:∀b,c.count b+(aL m).count b=E.count b+(aL h.w).count b):∀a,a∈c\/a∈aL m->k7 h.K a (-1):=λa f=>by
 have g:=d a
 grind [aY.hin,aY.hfl]
theorem aY.deliv(c:aY h E)(d:f<h.w.U.length)(a:0<(nth h.w.U f).length):aY {h with w:=gr h.w f} E:=by
 have e:=L9 c.mail d a;obtain⟨⟨j,k,n⟩,g,o⟩:=eC.1 c.mail;have i:=(g f d).1 _ (ax a);have q:∀b,E.count b+(aL (gr h.w f)).count b=E.count b+(aL h.w).count b:=λb=>by
  rw[qd e,qd c.mail];have r:=kV (λl:List dA=>l.map (·.Addr)) b h.w.U f ((nth h.w.U f).drop 1) d;have t:=kV (λx:List Int=>x) b h.w.a0 (nth (nth h.w.U f) 0).To.toNat (nth h.w.a0 (nth (nth h.w.U f) 0).To.toNat++[(nth (nth h.w.U f) 0).Addr]) ω;have u:(nth h.w.U f).map (·.Addr)=(nth (nth h.w.U f) 0).Addr::((nth h.w.U f).drop 1).map (·.Addr):=by
   generalize nth h.w.U f=l at a
   match l,a with
   | p::l,_=>rfl
  grind [gr]
 grind [aY.mailed,MH,gr]
theorem aY.coll(a:aY h E)(e:t<h.w.a0.length):aY {h with w:=jB h.w t} (nth h.w.a0 t++E):=by
 have c:=Xp a.mail e;have d:∀b,(nth h.w.a0 t++E).count b+(aL (jB h.w t)).count b=E.count b+(aL h.w).count b:=λb=>by grind [qd,aY.mail,kV,jB]
 exact a.mailed c rfl d (MH a d)
theorem aY.send{p:dA}(c:aY h (p.Addr::E))(d:f<h.w.U.length)(a:bG (gF h.w f p)=true):aY {h with w:=gF h.w f p} E:=by
 have e:∀b,E.count b+(aL (gF h.w f p)).count b=(p.Addr::E).count b+(aL h.w).count b:=λb=>by
  rw[qd a,qd c.mail];have g:=kV (λl:List dA=>l.map (·.Addr)) b h.w.U f (nth h.w.U f++[p]) d
  grind [gF]
 grind [aY.mailed,MH,gF]
def qO(now:Int):List aV->Nat
 | []=>0
 | x::xs=>if x.b5<now - 100 then qO now xs+1 else 0
def aged(h:ac)(n:Int):ac:={h with b1:=h.b1+n,a7:=⟨h.a7.b7,h.a7.y.drop (qO (h.b1+n) h.a7.y)⟩}
def ns(h:ac)(n:Int):List Int:=(h.a7.y.take (qO (h.b1+n) h.a7.y)).map (·.Addr)
def tick(h:ac)(n:Int):ac:=freeAs (aged h n) (ns h n)
def su(x:aV)(xs:List aV):∀n,quarCells (x::xs) (n+1)=csz x.d+quarCells xs n
 | 0=>by simp only[quarCells];show 0+csz x.d=csz x.d+0;omega
 | n+1=>by
  rw[lf,su x xs n,lf];show csz x.d+quarCells xs n+csz (nth xs n).d=_;omega
theorem Yy(k:Int):0<=csz k:=by grind [csz]
theorem Qd:∀(l:List aV)(k:Nat),qc (l.drop k)<=qc l
 | [],k=>by simp
 | x::xs,0=>O9 _
 | x::xs,k+1=>by
  have a:=Qd xs k;have b:=Yy x.d;have c:qc (x::xs)=csz x.d+qc xs:=su x xs xs.length
  grind
theorem aY.aged{h:ac}{E:List Int}{n:Int}(a:aY h E)(t:0<=n)(u:h.b1+n<=1000000):aY (aged h n) (ns h n++E):=by
 obtain⟨i,j,k,o,p,q⟩:=jD.1 a.quar;have c:=a.nums;unfold cI at c;rw[C0]at c;have e:=List.drop_sublist (qO (h.b1+n) h.a7.y) h.a7.y;have g:(E++holders h).Perm ((ns h n++E)++holders (Ab.aged h n)):=by
  refine List.perm_iff_count.2 λb=>?_
  have r:=O1 (λl:List aV=>(l.map (·.Addr)).count b) (List.take_append_drop (qO (h.b1+n) h.a7.y) h.a7.y);simp only[OB,OC]at r;simp only[holders,cU,Ab.aged,ns,OC];omega
 exact {a with
   nums:=by unfold cI;rw[C0];simp only[Ab.aged];omega
   quar:=jD.2 ⟨λy d=>i y (e.subset d),j.sublist e,k.sublist (e.map _),o,p,Int.le_trans (Qd _ _) q⟩
   snc:=λy d=>by
     have:=a.snc y (e.subset d);show y.b5<=h.b1+n;omega
   hqu:=λy d=>a.hqu y (e.subset d)
   hin:=λb f=>by
     rcases z5.1 f with f|f
     · obtain⟨y,d,rfl⟩:=O8.1 f
       exact(a.hqu y ψ).any
     exact a.hin b f
   nd:=g.nodup_iff.1 a.nd
   mem:=λb=>by rw[<-g.mem_iff];exact a.mem b}
theorem aY.tick{h:ac}{n:Int}(a:aY h [])(b:0<=n)(c:h.b1+n<=1000000):aY (tick h n) []/\JK h (tick h n):=by
 have h1:=a.aged b c;exact⟨aY.freeAs h1,JK.trans (h1:=Ab.aged h n) (JK.eq rfl rfl rfl rfl) (JK.freeAs h1)⟩
def collect(h:ac)(t:Nat):ac:=recycs t {h with w:=jB h.w t} (nth h.w.a0 t)
theorem aY.collect{h:ac}{t:Nat}(b:aY h [])(a:t<h.R.length):aY (collect h t) []/\JK h (collect h t):=by
 have h1:=b.coll (t:=t) (by grind [eC,aY.mail,aY.nc]);exact⟨aY.recycs h1 a,JK.trans (h1:={h with w:=jB h.w t}) (JK.eq rfl rfl rfl rfl) (JK.recycs h1 a)⟩
def Au(h:ac)(t i:Nat):ac:={h with G:=eI h.G (nth h.J i).Addr (csz (aN (nth h.J i).k)).toNat,J:=dele h.J i,w:=gF h.w t ⟨(nth h.J i).a2,(nth h.J i).Addr⟩}
def freeT(h:ac)(t i:Nat):ac × Int:=
 if aN (nth h.J i).k<0 then(freeL h i (tG h (nth h.J i).Addr),0)
 else if(af (tbl h) ((nth h.J i).Addr / 16)).e=1 then(h,5)
 else if(nth h.J i).a2=t then(Fa h t i,0)
 else if bG (gF h.w t ⟨(nth h.J i).a2,(nth h.J i).Addr⟩)=true then(Au h t i,0) else(h,5)
theorem xw(e:(nth h.J i).a2=t):freeT h t i=freeOb h t i:=by grind [freeT,freeOb]
theorem aY.freeT{h:ac}{t i:Nat}(a:aY h [])(b:i<h.J.length)(c:t<h.R.length):aY (freeT h t i).1 []/\JK h (freeT h t i).1:=by
 by_cases e:(nth h.J i).a2=t
 ·grind [xw,aY.freeOb,JK.freeOb]
 have d:=a.freeOb b c;have f:=JK.freeOb a b c;unfold Ab.freeOb at d f;unfold Ab.freeT;split
 ·grind
 rename_i g;rw[CJ g]at d f;split
 ·grind
 split
 ·rename_i j
  obtain⟨⟨s,l,n,o⟩,u⟩:=(dJ a (ax b)).2 g;have q:=a.dropO b (k7.any ⟨s,l,n,.inr o⟩);have r:=q.cells (k:=eI h.G (nth h.J i).Addr (csz (aN (nth h.J i).k)).toNat) (Lj a.ker _ _) rfl;exact⟨aY.send (p:=⟨(nth h.J i).a2,(nth h.J i).Addr⟩) r (by grind [aY.nc]) j,JK.eq rfl rfl rfl rfl⟩
 grind [JK.refl]
def dN(k:ah)(a v:Int):ah:=setCell k (cW k a) (a % 16) v
variable{a:Int}
def DG{k:ah}(h:aI k=true){v:Int}(b:(af k.F.O (a / 16)).e≠0)(c:0<=v/\v<=999):aI (dN k a v)=true:=by
 obtain⟨d,e,-⟩:=jb h b;exact u6 h (f:=cW k a) d e c
def aY.store{v:Int}(b:aY h [])(c:(af h.G.F.O (a / 16)).e≠0)(d:0<=v/\v<=999):aY {h with G:=dN h.G a v} []/\JK h {h with G:=dN h.G a v}:=
 ⟨b.cells (DG b.ker c d) rfl,JK.eq rfl rfl rfl rfl⟩
open Go.RowKit
set_option maxRecDepth 20000
set_option maxHeartbeats 4000000
def Qc[Inhabited α]{a b:List α}(d:a.length=b.length)(h:∀j,j<a.length->nth a j=nth b j):a=b:=by
 refine List.ext_getElem d λj c e=>?_
 have:=h j c
 rwa [br (z4 c),br (z4 e)]at this
def Ny(a b:List Int)(p:a.length<=1048576):zzA 282 false [.val none (aF .S a),.val none (aF .S b)] .one [B (decide (a=b))]:=by
 refine fO 26 [(6,8,[16,17,18,19,20,21,22,23])] Tryz.func282 rfl ?_;by_cases c:a.length=b.length
 ·refine σB ?_
  refine gK a.length (λi=>[(0,bJ (aF .S a)),(1,bJ (aF .S b)),(12,fI a.length),(13,fN i)]) (λi=>dq i (λj=>decide (nth a j=nth b j))=true) rfl λi d=>?_
  obtain⟨d,g⟩:=d;by_cases n:i<a.length
  ·have k:=ar n
   have l:=ar (xs:=b) (i:=i) ω;by_cases e:nth a i=nth b i
   ·refine σB ?_
    (exact cV (i+1) ⟨ω,bF g (O0 e)⟩)
   refine σB ?_
   exact bZ ((by symm;exact C1 λh=>e (by rw[h])))
  refine σE ?_
  obtain rfl:i=a.length:=ω
  exact bZ ((by symm;exact O0 (Qc c λj o=>by have:=fS g o;simpa using this)))
 refine σB ?_
 exact bZ ((by symm;exact C1 λh=>c (by rw[h])))
def WT{xs:List Int}{x:Int}(h:dq xs.length (λj=>decide (nth xs j≠x))=true):x∉xs:=λb=>by
 obtain⟨j,a⟩:=List.mem_iff_getElem?.1 b;have:=fS h (C4.1 a).1;rw[br a]at this;simp at this
def K3(xs:List Int)(x:Int)(g:xs.length<=4611686018427387904):zzA 353 false [.val none (aF .S xs),.vI x] .one [B (decide (x∈xs))]:=by
 refine fO 18 [] Tryz.func353 rfl ?_
 refine σP ?_
 refine gK xs.length (λi=>[(0,bJ (aF .S xs)),(1,fI x),(5,fN i)]) (λi=>dq i (λj=>decide (nth xs j≠x))=true) rfl λi a=>?_
 obtain⟨a,b⟩:=a;by_cases c:i<xs.length
 ·have d:=ar c
  by_cases e:nth xs i=x
  ·refine σB ?_
   exact bZ ((by symm;exact O0 (by rw[<-e];exact ax c)))
  refine σB ?_
  (exact cV (i+1) ⟨ω,bF b (O0 e)⟩)
 refine σE ?_
 obtain rfl:i=xs.length:=ω
 exact bZ ((by symm;exact C1 (WT b)))
def LA(xs:List Int)(x:Int)(h:xs.length<=4611686018427387904):zzA 435 false [.val none (aF .S xs),.vI x] .one [I (bU (λy=>decide (y=x)) xs)]:=by
 refine fO 19 [] Tryz.func435 rfl ?_
 refine σP ?_
 refine gK xs.length (λi=>[(0,bJ (aF .S xs)),(1,fI x),(7,fI xs.length),(8,fN i)]) (λi=>∀(j:Nat)(z:Int),j<i->xs[j]? = some z->decide (z=x)=false) (λj z d _=>absurd d (Nat.not_lt_zero _)) λi c=>?_
 obtain⟨c,b⟩:=c;by_cases g:i<xs.length
 ·have a:=ar g
  by_cases e:nth xs i=x
  ·repeat'(first|refine gE ?_|refine Bf.t (by simp[e]) ?_)
   exact nO (df a (O0 e) b).symm
  repeat'(first|refine gE ?_|refine Bf.f (by simp[Ne.symm e]) ?_)
  (exact cV (i+1) ⟨ω,fh a (C1 e) b⟩)
 refine σE ?_
 exact nO (eY ω b).symm
def oe(xs:List Int)(x:Int)(a:xs.length<=4611686018427387904):zzA 287 false [.val none (aF .S xs),.vI x] .one [B (decide (x∈xs))]:=by
 refine fO 9 [] Tryz.func287 rfl ?_
 repeat'(first|refine gP ?_|refine CG (LA xs x a) ?_)
 exact bZ ((by rw[iD];rw[C9];simp))
theorem bH.more{M c:am}{w d:World}(h:bH M w d)(f:∀b o,M b o->c b o):bH c w d:=
 ⟨h.os,h.tape,h.output,h.size,λb a e=>h.blk b a ψ,λb o a e=>h.cel b o a ψ,λb o a e=>h.fro b o a ψ⟩
variable{rcs:List C}
theorem aU.wk{P:Program}{sh:Bool}{c u:List C}{A B:List MA}{k:Kd}(h:aU P f sh A (.ptr c::B) k rcs)(D:Rr c u):aU P f sh A (.ptr u::B) k rcs:=by
 refine⟨h.has,λw S V i E F l G=>(h.run w S V i E F l G).mono λe w1 H=>?_⟩;obtain⟨v,J,K,X,L,S1,M,n,p,a,q,r,b,N,O,y⟩:=H;refine⟨v,J,K,X,L,S1,M,n,p,a,q,r,b,N,O,?_⟩;cases i with
 | nil=>exact y.elim
 | cons v0 i=>
  obtain⟨⟨Q,Y,R,T,U,⟨g,o,W,Z⟩,d⟩,t⟩:=y;refine⟨⟨Q,Y,R,T,U,⟨g,o,W,λj hj=>Z j (by grind [wV])⟩,Hv D d⟩,t⟩
def aU.frame{P:Program}{sh:Bool}{c c' r:List C}{A B:List MA}{k:Kd}(h:aU P f sh (.ptr c::A) (.ptr c'::B) k rcs)(hl:c'.length=c.length):aU P f sh (.ptr (c++r)::A) (.ptr (c'++r)::B) k rcs:=by
 refine⟨h.has,λw S V vs hS hV hVd hA=>?_⟩;cases vs with
 | nil=>exact hA.elim
 | cons v0 vs=>
 obtain⟨⟨X1,Y,hX1,hY,O,⟨g,q,rfl,u⟩,ff,hf1,J,hf3⟩,hA'⟩:=hA;have hlen:(c++r).length=c.length+r.length:=O5
 let V0:am:=piece g q ff 0 c.length
 let W:Nat->am:=UE V0 (λi=>V (i+1))
 have hcX:∀o,q<=o->o<q+(c++r).length->X1 g o:=λo l a=>by
  have:=(u (o - q) ω).1
  rwa [show q+(o - q)=o by omega]at this
 have hV0:∀b o,V0 b o->V 0 b o:=λb o p=>by
  rcases p with⟨rfl,l,a⟩|⟨j,-,a,Q⟩
  ·exact hX1 _ _ (hcX o ω ω)
  exact hY _ _ (J j ω b o Q)
 have K:∀i b o,W i b o->V i b o:=λi b o p=>by
  cases i with
  | zero=>exact hV0 b o p
  | succ i=>exact p
 have hA2:RZ w S W (.ptr c::A) (.pointer (some ⟨g,q,none⟩)::vs):=by
  refine⟨?_,hA'⟩;have:=xO (lo:=0) (n:=c.length) (cs:=c++r) ω u hf1 J hf3 O;rw[show bS (c++r) 0 c.length=c by simp[bS]]at this;simp only[OE,Nat.add_zero]at this;exact this
 refine(h.run w S W _ hS (λi b o p=>hV i b o (K i b o p)) (λi i' D b o l a=>hVd i i' D b o (K i b o l) (K i' b o a)) hA2).mono λe w1 hv=>?_
 obtain⟨v,he,hk,X,V',S1,hX,E,hS1,hVd',hXV,hXS,hVS1,hh,hr,hm⟩:=hv;have H:∀b o,(∃i,W i b o)->∃i,V i b o:=λb o ⟨i,Z⟩=>⟨i,K i b o Z⟩
 let R:am:=λb o=>V 0 b o/\¬V0 b o
 have hRW:∀b o,R b o->¬∃i,W i b o:=λb o y ⟨i,Z⟩=>by
  cases i with
  | zero=>exact y.2 Z
  | succ i=>exact hVd 0 (i+1) ω b o y.1 Z
 have F:∀b o,R b o->b<w.heap.size:=λb o y=>(hV 0 b o y.1).1
 have t:∀b o,R b o->¬((∃i,W i b o)\/(b<w1.heap.size/\w.heap.size<=b)):=λb o y p=>by
  rcases p with p|p
  ·exact hRW b o y p
  have:=F b o y;omega
 have hRsame:bA R w w1:=λb o y=>⟨hk.cel b o (F b o y) (hRW b o y),hk.fro b o (F b o y) (hRW b o y)⟩
 have hRS1:∀b o,R b o->¬S1 b o:=λb o y hs=>by
  rcases hS1 b o hs with⟨-,l⟩|l
  ·exact(hV 0 b o y.1).2 l
  exact t b o y l
 have hSsame:bA S w w1:=λb o hb=>⟨hk.cel b o (hS b o hb) (λ⟨i,Z⟩=>(hV i b o (K i b o Z)).2 hb),hk.fro b o (hS b o hb) (λ⟨i,Z⟩=>(hV i b o (K i b o Z)).2 hb)⟩
 have hRc:∀j,c.length<=j->j<(c++r).length->R g (q+j):=λj l a=>by
  refine⟨hX1 _ _ (u j a).1,λp=>?_⟩;rcases p with⟨-,Q,h4⟩|⟨N,Q,h4,h5⟩
  ·omega
  exact O _ _ (u j a).1 (J N ω _ _ h5)
 have L:∀j,c.length<=j->j<(c++r).length->∀b o,ff j b o->R b o:=λj l a b o p=>by
  refine⟨hY _ _ (J j a b o p),λhp=>?_⟩;rcases hp with⟨rfl,Q,h4⟩|⟨N,Q,h4,h5⟩
  ·exact O _ _ (hcX o ω ω) (J j a _ _ p)
  exact hf3 j N a ω ω b o p h5
 let U:Nat->am:=UE (λb o=>V' 0 b o\/R b o) (λi=>V' (i+1))
 have hU:∀i b o,U i b o->V' i b o\/(i=0/\R b o):=λi b o p=>by
  cases i with
  | zero=>exact p.imp id (λh=>⟨rfl,h⟩)
  | succ i=>exact .inl p
 refine⟨v,he,hk.more H,X,U,S1,λb o p=>(hX b o p).imp (H b o) id,λi b o p=>?_,λb o p=>(hS1 b o p).imp id (Or.imp (H b o) id),λi i' D b o l a=>?_,λi b o l a=>?_,hXS,λi b o l a=>?_,hh,hr,?_,hm.2⟩
 ·rcases hU i b o p with l|⟨-,l⟩
  ·exact(E i b o l).imp (H b o) id
  exact .inl ⟨0,l.1⟩
 ·rcases hU i b o l with l|⟨e1,l⟩
  ·rcases hU i' b o a with a|⟨e2,a⟩
   ·exact hVd' i i' D b o l a
   exact t b o a (E i b o l)
  rcases hU i' b o a with a|⟨e2,a⟩
  ·exact t b o l (E i' b o a)
  exact D ω
 ·rcases hU i b o a with a|⟨-,a⟩
  ·exact hXV i b o l a
  exact t b o a (hX b o l)
 ·rcases hU i b o l with l|⟨-,l⟩
  ·exact hVS1 i b o l a
  exact hRS1 b o l a
 obtain⟨Xa,Ya,ha1,ha2,ha3,⟨ga,oa,hea,ha4⟩,fa,ha5,ha6,ha7⟩:=(show tH w1 (λb o=>S b o\/S1 b o) (V' 0) (.ptr c') (.pointer (some ⟨g,q,none⟩)) from hm.1)
 obtain⟨rfl,rfl⟩ : g=ga/\q=oa:=by simpa using hea
 have G:(c'++r).length=c.length+r.length:=by rw[O5,hl]
 show tH w1 (λb o=>S b o\/S1 b o) (λb o=>V' 0 b o\/R b o) (.ptr (c'++r)) (.pointer (some ⟨g,q,none⟩));have faV:∀j,j<c.length->∀b o,fa j b o->V' 0 b o:=λj M b o p=>ha2 _ _ (ha6 j ω b o p)
 refine⟨λb o=>Xa b o\/(R b o/\∃j,c.length<=j/\j<(c++r).length/\b=g/\o=q+j),λb o=>Ya b o\/∃j,c.length<=j/\j<(c++r).length/\ff j b o,λb o p=>?_,λb o p=>?_,λb o l a=>?_,⟨g,q,rfl,λj M=>?_⟩,λj=>if j<c.length then fa j else ff j,λj d M=>?_,λj M b o p=>?_,λj N M hj' D b o l a=>?_⟩
 ·exact p.imp (ha1 b o) (·.1)
 ·rcases p with p|⟨j,l,a,Q⟩
  ·exact .inl (ha2 b o p)
  exact .inr (L j l a b o Q)
 ·rcases l with l|⟨l,j,j1,j2,rfl,rfl⟩
  ·rcases a with a|⟨j,j1,j2,j3⟩
   ·exact ha3 b o l a
   exact t b o (L j j1 j2 b o j3) (E 0 b o (ha1 b o l))
  rcases a with a|⟨N,j3,j4,j5⟩
  ·exact t _ _ l (E 0 _ _ (ha2 _ _ a))
  exact O _ _ (u j j2).1 (J N j4 _ _ j5)
 ·rw[G]at M
  by_cases hc:j<c.length
  ·have:=ha4 j ω
   exact⟨.inl this.1,this.2⟩
  have y:=hRc j ω ω;have hs:=hRsame _ _ y;have T:=u j ω;refine⟨.inr ⟨y,j,ω,ω,rfl,rfl⟩,?_,?_⟩
  ·rw[hs.1];exact T.2.1
  rw[hs.2];exact T.2.2
 ·dsimp only
  by_cases hc:j<c.length
  ·rw[CL hc]
   rw[t9 ω]at M;exact ha5 j d M
  rw[CJ hc];rw[v9 ω,hl]at M;have hj2:(c++r)[j]? = some d:=by rw[v9 ω];exact M
  have hjl:=(C4.1 hj2).1;have Q:=(hf1 j d hj2).keep hSsame (λb o p=>hRsame b o (L j ω hjl b o p));have T:=(hRsame _ _ (hRc j ω hjl)).1;have:cZ w1 .box (.pointer (some ⟨g,q,none⟩)) j=cZ w .box (.pointer (some ⟨g,q,none⟩)) j:=by
   simp only[cZ];rw[T]
  rw[this];exact Q.mono (λ_ _ h=>.inl h) (λ_ _ h=>h)
 ·rw[G]at M
  split at p
  ·rename_i hc;exact .inl (ha6 j ω b o p)
  exact .inr ⟨j,ω,ω,p⟩
 rw[G]at M hj';split at l
 ·rename_i c1
  split at a
  ·exact ha7 j N ω ω D b o l a
  exact t b o (L N ω ω b o a) (E 0 b o (faV j c1 b o l))
 split at a
 ·rename_i c1;exact t b o (L j ω ω b o l) (E 0 b o (faV N c1 b o a))
 exact hf3 j N ω ω D b o l a
mutual
def YU:∀c:C,fz (fz c)=fz c
 | .v x=>by simp[fz]
 | .s o rows=>by simp only[fz];rw[PN rows]
 | .x=>by simp[fz]
 | .z=>by simp[fz]
 | .m _=>by simp[fz]
 | .it _ _=>by simp[fz]
def PN:∀a:List (List C),fzR (fzR a)=fzR a
 | []=>rfl
 | r::a=>by simp only[fzR];rw[wL r,PN a]
def wL:∀cs:List C,eJ (eJ cs)=eJ cs
 | []=>rfl
 | c::cs=>by simp only[eJ];rw[YU c,wL cs]
end
def qI(k:ah)(a:aI k=true)(e:k.Calls≠100000):zzB 484 false [.ptr (ah.enc .own k)] [.ptr (ah.enc .own (cN k))] .one [B (!refd k)]:=by
 have b:=bj a;have c:=(aH.1 a).2.2.2.2;have d:=K3 k.a3 k.Calls (by have:=b.2;omega);refine fM 22 [] [(2,9,[11,12,13,14,15,16,17,18,19])] [(0,0)] Tryz.func484 rfl (λu q=>?_)
 repeat'(first|refine gP ?_|refine CN (d) ⟨⟨rfl,cR _⟩,⟨rfl,nO ω⟩,tV1⟩ ?_)
 refine CP rfl ?_ ?_
 ·rfl
 exact wB
def rv(k:ah)(p m:Int)(a:aI k=true)(j:k.Calls≠100000)(d:(af k.F.O p).e≠0)(l:m=1\/m=2):zzB 575 false [.ptr (ah.enc .own k),.vI p,.vI m] [.ptr (ah.enc .own (jx k p m).1),.vI p,.vI m] .one [B (jx k p m).2]:=by
 have n:=bj a;have b:=qI k a j;have g:=ge (cN k) p n.1.2;have c:=aQ m 1 2;rw[O0 ω]at c;obtain⟨o,t,w,-⟩:=bD a d;have h:=ar (xs:=k.F.O.M) (i:=p.toNat) ω;have r:¬(af (cN k).F.O p).e=0:=d;unfold jx;cases e:refd k<;>rw[e]at b
 ·rw[CJ (by simp),xE]
  refine fM 31 [(484,[2])] [] [(0,0),(0,0),(0,0)] Tryz.func575 rfl (λu q=>?_)
  repeat'(first|refine gB ?_|refine CN (g) ⟨CY (cN k),⟨rfl,rfl⟩,tV1⟩ ?_|refine CQ o (aa h) ?_|refine CU rfl rfl (aa h) rfl (O2 rfl) rfl ?_)
  refine CP rfl ?_ ?_
  ·rfl
  exact wB
 rw[CL rfl];refine fM 31 [(484,[2])] [] [(0,0),(0,0),(0,0)] Tryz.func575 rfl (λu q=>?_)
 repeat'(first|refine gB ?_|refine CN (g) ⟨CY (cN k),⟨rfl,rfl⟩,tV1⟩ ?_)
 refine CP rfl ?_ ?_
 ·rfl
 exact wB
variable{k:Nat}
def Rw.two{c:List C}{off j d e b:Nat}{K:List C->Nat->Prop}{o f:fE}{rows rows2:List (List C)}{r a:List C}(h1:c[off]? = some (.s o rows))(h2:rows[i]? = some r)(g:r.length=k)(h:r[j]? = some (.s f rows2))(l:rows2[d]? = some a)(n:a.length=e)(p:K a b):Rw c off [(i,k,j),(d,e,b)] K:=
 Rw.mk (r:=a) (j:=b) (by simp[db,h1,h2,g,h,l,n]) p
def Em(k:ah)(a b c:Int)(h:aI k=true)(F:(af k.F.O a).e≠0)(G:(af k.F.O b).e≠0)(g:0<=c/\c<=15):zzB 576 false [.ptr (ah.enc .own k),.vI a,.vI b,.val none (aF .S [c])] [.ptr (ah.enc .own (r8 k a b c)),.vI a,.vI b,.val none (aF .S [c])] .one [B true]:=by
 have w:=bj h;have H:=ge k a w.1.2;have J:=ge k b w.1.2;have y:=aQ c 0 15;rw[O0 g]at y;obtain⟨K,O,L,C,P⟩:=bD h F;obtain⟨M,Q,D,E,R⟩:=bD h G;have N:=(bi.1 (aH.1 h).2.1).2.2.1;have S:=row16 h (f:=bV k a) (by unfold bV;omega);have T:=row16 h (f:=bV k b) (by unfold bV;omega);have d:k.F.V.T[(af k.F.O a).j.toNat]? = some (nth k.F.V.T (bV k a)):=ar ω;have e:k.F.V.T[(af k.F.O b).j.toNat]? = some (nth k.F.V.T (bV k b)):=ar ω;have l:=ar (xs:=nth k.F.V.T (bV k a)) (i:=c.toNat) ω;have o:=ar (xs:=nth k.F.V.T (bV k b)) (i:=c.toNat) ω;have p:=ar (xs:=k.F.O.M) (i:=a.toNat) ω;have r:=ar (xs:=k.F.O.M) (i:=b.toNat) ω;rw[L]at C d;rw[D]at E e;have t:[c][0]? = some c:=rfl;refine fM 90 [] [(13,28,[61,62,63,64,65,66,67,68,69,70,71,72,73,74,75,76,77,78,79,80,81,82,83,84,85,86,87,88])] [(0,0),(0,0),(0,0),(0,0)] Tryz.func576 rfl (λu q=>?_)
 repeat'(first|refine gB ?_|refine CN (H) ⟨CY k,⟨rfl,rfl⟩,tV1⟩ ?_|refine CN (J) ⟨CY k,⟨rfl,rfl⟩,tV1⟩ ?_)
 refine lp0 1 (λn=>[(0,bB (ah.enc .own k)),(1,fI a),(2,fI b),(3,bJ (aF .S [c])),(9,fN n)]) λn U=>?_
 by_cases V:n<1
 ·obtain rfl:n=0:=ω
  repeat'(first|refine gE ?_|refine CQ qs (aa t) ?_)
  (exact cV 1 ω)
 obtain rfl:n=1:=ω
 repeat'(first|refine gE ?_|refine CQ K (aa p) ?_|refine CQ M (aa r) ?_)
 refine lp0 1 (λj=>[(0,bB (ah.enc .own (Pv k a b c j))),(3,bJ (aF .S [c])),(10,fI ((nth k.F.O.M a.toNat).j)),(11,fI ((nth k.F.O.M b.toNat).j)),(12,fN j)]) λj W=>?_
 by_cases X:j<1
 ·obtain rfl:j=0:=ω
  repeat'(first|refine gE ?_|refine CQ qs (aa t) ?_|refine CQ C (aa d) ?_|refine CQ E (aa e) ?_|refine CQ g.1 (aa l) ?_|refine CQ g.1 (aa o) ?_|refine Rw.two rfl (aa d) rfl rfl (aa l) rfl ?_|refine Pu.two rfl rfl (aa e) rfl rfl rfl (aa o) rfl (C5 _) rfl ?_)
  (refine CR 1 ω ω ?_)
  rw[show Pv k a b c 1=r8 k a b c from rfl];unfold r8;rw[yH,show bV k b=(nth k.F.O.M b.toNat).j.toNat by unfold bV;rw[D]];exact wB
 obtain rfl:j=1:=ω
 refine σE ?_
 refine CP rfl ?_ ?_
 ·rfl
 exact wB
def Pi(k:ah)(p o:Int)(a:aI k=true)(y:k.Calls≠100000)(g:(af k.F.O p).e≠0)(h:(af k.F.O o).e≠0)(C:p≠o):zzB 577 false [.ptr (ah.enc .own k),.vI p,.vI o] [.ptr (ah.enc .own (w8 k p o).1),.vI p,.vI o] .one [B (w8 k p o).2]:=by
 have b:=bj a;have c:=qI k a y;have j:=ge (cN k) p b.1.2;have l:=ge (cN k) o b.1.2;obtain⟨D,K,E,n,r⟩:=bD a g;obtain⟨F,L,M,N,O⟩:=bD a h;have G:=(bi.1 (aH.1 a).2.1).2.2.1;have d:=ar (xs:=k.F.O.M) (i:=p.toNat) ω;have t:=ar (xs:=k.F.O.M) (i:=o.toNat) ω;have H:¬(af (cN k).F.O p).e=0:=g;have J:¬(af (cN k).F.O o).e=0:=h;rw[E]at n r;have w:=wc (xM (cN k) p.toNat ⟨2,(nth k.F.O.M o.toNat).j⟩) (nth k.F.O.M p.toNat).j (JM _ _ b.1.2) ⟨n,by show _<((k.F.V.T.length:Nat):Int);omega,r⟩;rw[JG]at w;unfold w8;cases e:refd k<;>rw[e]at c
 ·rw[CJ (by simp)]
  refine fM 60 [(484,[2]),(486,[2,0])] [(4,274,[38,39,40,41,42,43,44,45,46,47,48,49,50,51,52,53,54,56,0,1,2,3,4,5,6,7,8,9,10,11,12,13,14,15,16,17,1000,1001,1002,1003,1004,1005,1006,18,19])] [(0,0),(0,0),(0,0)] Tryz.func577 rfl (λu q=>?_)
  repeat'(first|refine gB ?_|refine CN (j) ⟨CY (cN k),⟨rfl,rfl⟩,tV1⟩ ?_|refine CN (l) ⟨CY (cN k),⟨rfl,rfl⟩,tV1⟩ ?_|refine CQ D (aa d) ?_|refine CQ F (aa t) ?_|refine CU rfl rfl (aa d) rfl (O2 rfl) rfl ?_)
  refine CP rfl ?_ ?_
  ·rfl
  exact wB
 rw[CL rfl];refine fM 60 [(484,[2]),(486,[2,0])] [(4,274,[38,39,40,41,42,43,44,45,46,47,48,49,50,51,52,53,54,56,0,1,2,3,4,5,6,7,8,9,10,11,12,13,14,15,16,17,1000,1001,1002,1003,1004,1005,1006,18,19])] [(0,0),(0,0),(0,0)] Tryz.func577 rfl (λu q=>?_)
 repeat'(first|refine gB ?_|refine CN (j) ⟨CY (cN k),⟨rfl,rfl⟩,tV1⟩ ?_|refine CN (l) ⟨CY (cN k),⟨rfl,rfl⟩,tV1⟩ ?_)
 refine CP rfl ?_ ?_
 ·rfl
 exact wB
def Eg(m:aT)(a:Int)(d:aT.sml m)(c:0<=a/\a<512):zzA 590 false [.val (some 3) (aT.enc .S m),.vI a] (.tup [some 2,none]) (bo.enc .own (af m.O (a / 16))++[I (a % 16)]):=by
 have e:=ee m.O (a / 16) d.2;have b:a.tmod 16=a % 16:=eR c.1;refine fO 16 [] Tryz.func590 rfl ?_ (.inr ⟨tV1,tV1,tV1,tV1⟩)
 repeat'(first|refine gE ?_|refine CS (mh c) ?_|refine CT qs ?_|refine CX b ?_)
 rfl
def Nq(m:aT)(a v:Int)(o:dB m=true)(e:aT.sml m)(p:0<=a/\a<512)(q:0<=v/\v<=999)(r:(af m.O (a / 16)).e≠0->0<=(af m.O (a / 16)).j/\(af m.O (a / 16)).j<m.V.T.length/\(nth m.V.T (af m.O (a / 16)).j.toNat).length=16):zzA 588 false [.val (some 3) (aT.enc .S m),.vI a,.vI v] (.tup [some 3,none]) (aT.enc .own (gN m a v).1++[I (gN m a v).2]):=by
 have c:=sK m e;rw[o]at c;have g:=wT m e;have h:=Eg m a e p;have d:=aQ v 0 999;rw[O0 q]at d;have b:=aT.enc_fr (gN m a v).1;unfold gN at b |-;by_cases j:(af m.O (a / 16)).e=0
 ·rw[CL j]at b |-
  refine fO 47 [] Tryz.func588 rfl ?_ (.inr (aD b ⟨tV1,tV1⟩))
  refine σB ?_
  rfl
 rw[CJ j]at b |-;by_cases l:(af m.O (a / 16)).e=1
 ·rw[CL l]at b |-
  refine fO 47 [] Tryz.func588 rfl ?_ (.inr (aD b ⟨tV1,tV1⟩))
  refine σB ?_
  rfl
 rw[CJ l]at b |-;obtain⟨t,u,w⟩:=r j;have k:=ar (xs:=m.V.T) (i:=(af m.O (a / 16)).j.toNat) ω;have n:=ar (xs:=nth m.V.T (af m.O (a / 16)).j.toNat) (i:=(a % 16).toNat) ω;simp only at b |-;rw[DK]at b |-;refine fO 47 [] Tryz.func588 rfl ?_ (.inr (aD b ⟨tV1,tV1⟩))
 repeat'(first|refine gB ?_|refine CQ t (aa k) ?_|refine CQ ω (aa n) ?_|refine Pu.two rfl rfl (aa k) rfl rfl rfl (aa n) rfl (C5 _) rfl ?_)
 rfl
def iQ{k:ah}{j:cY} : jmay k j=true↔(aI k=true/\k.Calls≠100000)/\lB j=true/\(af k.F.O j.X.a4).e≠0/\(af k.F.O j.X.a5).e≠0/\(af k.F.O j.X.a4).j≠(af k.F.O j.X.a5).j:=by
 unfold jmay;simp only[I0,C0]
def oo{p:cL}(h:gc p=true):p.T.length<=16:=by
 unfold gc at h;simp only[I0]at h;have a:∀i,i<p.T.length->(i:Int)<=nth p.T i:=λi=>by
  induction i with
  | zero=>
   intro a;have:=fS h.1 a;unfold po at this;rw[C0]at this;exact this.1
  | succ i b=>
   intro a;have c:=b ω;have:=fS h.1 a;unfold po at this;rw[C0]at this;have d:=this.2.2.resolve_left ω;rw[Nat.add_sub_cancel]at d;omega
 by_cases e:p.T.length<=16
 ·exact e
 exfalso;have c:=a 16 ω;have:=fS h.1 (show 16<p.T.length by omega);unfold po at this;rw[C0]at this;omega
def x7{j:cY}(h:lB j=true):cY.sml j:=by
 have:=oo (dX.1 h).1;show j.X.T.length<=1048576;omega
def je{k:ah}(h:aI k=true):dB k.F=true:=by
 unfold aI at h;simp only[I0]at h;exact h.1.2
def GZ(k:ah)(j:cY)(p:jmay k j=true)(g:j.b0=3):zzB 578 false [.ptr (ah.enc .own k),.ptr (BH j)] [.ptr (ah.enc .own (jstep k j).1),.ptr (BH (jstep k j).2)] (.tup []) []:=by
 obtain⟨⟨a,r⟩,t,c,d,w⟩:=iQ.1 p;obtain⟨h,H,J,K,L⟩:=dX.1 t;have y:=bj a;obtain⟨M,N,O,B,P⟩:=bD a c;have l:=(bu.1 (aH.1 a).2.2.1).2.2;have C:=oo h;have D:=(bi.1 (aH.1 a).2.1).2.2.1;unfold jstep;rw[CJ ω,CJ ω,CJ ω,CL g];by_cases n:0<j.b
 ·rw[CL n]
  have o:=gx h (i:=(j.b - 1).toNat) ω;have E:=ar (xs:=j.X.T) (i:=(j.b - 1).toNat) ω;have F:0<=j.X.a4*16+nth j.X.T (j.b - 1).toNat/\j.X.a4*16+nth j.X.T (j.b - 1).toNat<512:=ω
  have G:(j.X.a4*16+nth j.X.T (j.b - 1).toNat) / 16=j.X.a4:=ω
  have b:=Nq k.F (j.X.a4*16+nth j.X.T (j.b - 1).toNat) 0 (je a) y.1 F ω (λ_=>by rw[G];exact⟨B,ω,row16 a (f:=bV k j.X.a4) (by unfold bV;omega)⟩);generalize (gN k.F (j.X.a4*16+nth j.X.T (j.b - 1).toNat) 0).1=m at b |-;generalize (gN k.F (j.X.a4*16+nth j.X.T (j.b - 1).toNat) 0).2=e at b;refine fM 59 [(575,[2,0,0])] [(2,283,[20,21,22,23,24,25,26,27,28,29,30,31,32,33,34,35,36,37,38,39,40,41,42,19,43,44,4,0,1,2,3,4,5,6,7,8,9,10,11,12,13,14,15,16,17,18,19,20,21,22,23,24,25,26,27,1025,28])] [(0,0),(1,0)] Tryz.func578 rfl (λu q=>?_) (.inr tV1)
  repeat'(first|refine gE ?_|refine CN (b) ⟨⟨rfl,aT.enc_fz k.F⟩,⟨rfl,rfl⟩,⟨rfl,rfl⟩,tV1⟩ ?_|refine CQ ω (aa E) ?_)
  exact ka
 rw[CJ n];have b:=rv k j.X.a5 2 a r d (.inr rfl);cases e:(jx k j.X.a5 2).2<;>rw[e]at b
 ·refine fM 59 [(575,[2,0,0])] [(2,283,[20,21,22,23,24,25,26,27,28,29,30,31,32,33,34,35,36,37,38,39,40,41,42,19,43,44,4,0,1,2,3,4,5,6,7,8,9,10,11,12,13,14,15,16,17,18,19,20,21,22,23,24,25,26,27,1025,28])] [(0,0),(1,0)] Tryz.func578 rfl (λu q=>?_) (.inr tV1)
  refine σE ?_
  refine CP rfl rfl ?_;rw[<-g];exact wC
 refine fM 59 [(575,[2,0,0])] [(2,283,[20,21,22,23,24,25,26,27,28,29,30,31,32,33,34,35,36,37,38,39,40,41,42,19,43,44,4,0,1,2,3,4,5,6,7,8,9,10,11,12,13,14,15,16,17,18,19,20,21,22,23,24,25,26,27,1025,28])] [(0,0),(1,0)] Tryz.func578 rfl (λu q=>?_) (.inr tV1)
 refine σE ?_
 exact ka
def GR(k:ah)(j:cY)(g:jmay k j=true):zzB 529 false [.ptr (ah.enc .own k),.ptr (BH j)] [.ptr (ah.enc .own (jstep k j).1),.ptr (BH (jstep k j).2)] (.tup []) []:=by
 obtain⟨⟨h,p⟩,B,c,b,l⟩:=iQ.1 g;obtain⟨r,F,G,H,J⟩:=dX.1 B;have n:j.X.a5≠j.X.a4:=λe=>l (by rw[e])
 have C:=oo r;by_cases d:j.b0=0
 ·have a:=rv k j.X.a5 1 h p b (.inl rfl)
  unfold jstep;rw[CL d];cases e:(jx k j.X.a5 1).2<;>rw[e]at a
  ·refine fM 80 [(575,[2,0,0]),(576,[2,0,0,0]),(577,[2,0,0]),(578,[2,2])] [(7,7,[27,28,29,30,31,32,33]),(9,14,[38,39,40,41,42,43,44,45,46,47,48,49,50,51])] [(0,0),(1,0)] Tryz.func529 rfl (λu q=>?_) (.inr tV1)
   refine σB ?_
   exact ka
  refine fM 80 [(575,[2,0,0]),(576,[2,0,0,0]),(577,[2,0,0]),(578,[2,2])] [(7,7,[27,28,29,30,31,32,33]),(9,14,[38,39,40,41,42,43,44,45,46,47,48,49,50,51])] [(0,0),(1,0)] Tryz.func529 rfl (λu q=>?_) (.inr tV1)
  refine σB ?_
  exact ka
 by_cases o:j.b0=1
 ·unfold jstep
  rw[CJ d,CL o];by_cases t:j.b=j.X.T.length
  ·rw[CL t]
   refine fM 80 [(575,[2,0,0]),(576,[2,0,0,0]),(577,[2,0,0]),(578,[2,2])] [(7,7,[27,28,29,30,31,32,33]),(9,14,[38,39,40,41,42,43,44,45,46,47,48,49,50,51])] [(0,0),(1,0)] Tryz.func529 rfl (λu q=>?_) (.inr tV1)
   refine σB ?_
   exact ka
  rw[CJ t];have D:=ar (xs:=j.X.T) (i:=j.b.toNat) ω;have a:=Em k j.X.a5 j.X.a4 (nth j.X.T j.b.toNat) h b c (gx r ω);have E:=(iQ.1 g).2.1;refine fM 80 [(575,[2,0,0]),(576,[2,0,0,0]),(577,[2,0,0]),(578,[2,2])] [(7,7,[27,28,29,30,31,32,33]),(9,14,[38,39,40,41,42,43,44,45,46,47,48,49,50,51])] [(0,0),(1,0)] Tryz.func529 rfl (λu q=>?_) (.inr tV1)
  repeat'(first|refine gB ?_|refine CO a (.inr ⟨rfl,Ck _,tV1⟩) ?_|refine CQ ω (aa D) ?_)
  exact ka
 by_cases w:j.b0=2
 ·have a:=Pi k j.X.a5 j.X.a4 h p b c n
  unfold jstep;rw[CJ d,CJ o,CL w];cases e:(w8 k j.X.a5 j.X.a4).2<;>rw[e]at a
  ·refine fM 80 [(575,[2,0,0]),(576,[2,0,0,0]),(577,[2,0,0]),(578,[2,2])] [(7,7,[27,28,29,30,31,32,33]),(9,14,[38,39,40,41,42,43,44,45,46,47,48,49,50,51])] [(0,0),(1,0)] Tryz.func529 rfl (λu q=>?_) (.inr tV1)
   refine σB ?_
   exact ka
  refine fM 80 [(575,[2,0,0]),(576,[2,0,0,0]),(577,[2,0,0]),(578,[2,2])] [(7,7,[27,28,29,30,31,32,33]),(9,14,[38,39,40,41,42,43,44,45,46,47,48,49,50,51])] [(0,0),(1,0)] Tryz.func529 rfl (λu q=>?_) (.inr tV1)
  refine σB ?_
  exact ka
 by_cases y:j.b0=3
 ·have a:=GZ k j g y
  refine fM 80 [(575,[2,0,0]),(576,[2,0,0,0]),(577,[2,0,0]),(578,[2,2])] [(7,7,[27,28,29,30,31,32,33]),(9,14,[38,39,40,41,42,43,44,45,46,47,48,49,50,51])] [(0,0),(1,0)] Tryz.func529 rfl (λu q=>?_) (.inr tV1)
  refine σB ?_
  exact ka
 unfold jstep;rw[CJ d,CJ o,CJ w,CJ y];refine fM 80 [(575,[2,0,0]),(576,[2,0,0,0]),(577,[2,0,0]),(578,[2,2])] [(7,7,[27,28,29,30,31,32,33]),(9,14,[38,39,40,41,42,43,44,45,46,47,48,49,50,51])] [(0,0),(1,0)] Tryz.func529 rfl (λu q=>?_) (.inr tV1)
 refine σB ?_
 exact ka
def LS(k:ah)(j:cY)(e:aI k=true)(i:lB j=true):zzA 528 false [.val (some 5) (ah.enc .S k),.val (some 5) (cY.enc .S j)] .one [B (jmay k j)]:=by
 have c:=bj e;have b:eJ (ah.enc .S k)=ah.enc .S k:=by rw[<-CY k,wL]
 have r:=(aH.1 e).2.2.2.2;have a:=oW k c;rw[e]at a;have d:=BE j (x7 i);rw[i]at d;have l:=ge k j.X.a4 c.1.2;have n:=ge k j.X.a5 c.1.2;have t:=ee k.F.O j.X.a4 c.1.2;have u:=ee k.F.O j.X.a5 c.1.2;by_cases o:k.Calls=100000
 ·rw[C1 ω]at a
  rw[show jmay k j=false by rw[<-SA,iQ];exact λh=>h.1.2 o];refine fO 44 [(3,16,[27,28,29,30,31,32,33,34,35,36,37,38,39,40,41,42])] Tryz.func528 rfl ?_
  refine σP ?_
  rfl
 rw[O0 ω]at a;by_cases p:(af k.F.O j.X.a4).e=0
 ·rw[show jmay k j=false by rw[<-SA,iQ];exact λh=>h.2.2.1 p]
  refine fO 44 [(3,16,[27,28,29,30,31,32,33,34,35,36,37,38,39,40,41,42])] Tryz.func528 rfl ?_
  repeat'(first|refine gB ?_|refine CN (l) ⟨b,⟨rfl,rfl⟩,tV1⟩ ?_|refine CN (n) ⟨b,⟨rfl,rfl⟩,tV1⟩ ?_)
  rfl
 by_cases q:(af k.F.O j.X.a5).e=0
 ·rw[show jmay k j=false by rw[<-SA,iQ];exact λh=>h.2.2.2.1 q]
  refine fO 44 [(3,16,[27,28,29,30,31,32,33,34,35,36,37,38,39,40,41,42])] Tryz.func528 rfl ?_
  repeat'(first|refine gB ?_|refine CN (l) ⟨b,⟨rfl,rfl⟩,tV1⟩ ?_|refine CN (n) ⟨b,⟨rfl,rfl⟩,tV1⟩ ?_)
  rfl
 refine fO 44 [(3,16,[27,28,29,30,31,32,33,34,35,36,37,38,39,40,41,42])] Tryz.func528 rfl ?_
 repeat'(first|refine gB ?_|refine CN (l) ⟨b,⟨rfl,rfl⟩,tV1⟩ ?_|refine CN (n) ⟨b,⟨rfl,rfl⟩,tV1⟩ ?_)
 exact bZ (by
   unfold jmay;rw[e,i,O0 o];by_cases g:(af k.F.O j.X.a4).j=(af k.F.O j.X.a5).j
   · rw[C1 (λh=>h.2.2 g)];simp[g]
   rw[O0 ⟨p,q,g⟩];simp[g])
def H6(j:cY):zzA 530 false [.val (some 5) (cY.enc .S j)] .one [B (over j)]:=by
 by_cases a:j.b0=4
 ·rw[show over j=true from O0 (.inl a)]
  refine fO 11 [] Tryz.func530 rfl ?_
  refine σB ?_
  rfl
 rw[show over j=decide (j.b0=5) from decide_eq_decide.2 ω];refine fO 11 [] Tryz.func530 rfl ?_
 refine σB ?_
 exact bZ (by rw[C9];simp)
def Qr(x:ac):List C:=(bR x).set 21 .z
def KC{x:ac}(h:x.a.X.T=[]):Rr (Qr x) (bR x):=by
 unfold Qr bR;simp only[List.set,h,List.map_nil]
 repeat'(first|exact tV1|exact kI _|refine CV ?_ ?_|rfl)
def GH(h:ac)(j:aY h [])(k:h.q=true):zzB 431 false [.ptr (bR h)] [.ptr (bR (mStep h))] .one [B (Kl h)]:=by
 obtain⟨l,-,-⟩:=j.job k;have b:=LS h.G h.a j.ker l;have a:=H6 (gC h.G h.a).2;unfold Kl mStep;cases e:jmay h.G h.a with
 | false=>
  rw[e]at b;have d:gC h.G h.a=(h.G,h.a):=by unfold gC;rw[e];rfl
  rw[d]at a |-;simp only at a |-;cases g:over h.a<;>rw[g]at a
  ·refine fM 39 [(529,[3,5,5])] [(1,8,[4,5,6,7,8,9,10,11]),(2,6,[13,14,15,16,17,18])] [(0,0)] Tryz.func431 rfl (λu q=>?_)
   repeat'(first|refine gP ?_|refine CN (b) ⟨⟨rfl,CY h.G⟩,⟨rfl,rfl⟩,tV1⟩ ?_)
   refine CP rfl ?_ ?_
   ·exact bZ (by rw[C9];simp)
   exact wC
  refine aU.wk (c:=Qr _) ?_ (KC rfl);refine fM 39 [(529,[3,5,5])] [(1,8,[4,5,6,7,8,9,10,11]),(2,6,[13,14,15,16,17,18])] [(0,0)] Tryz.func431 rfl (λu q=>?_)
  repeat'(first|refine gP ?_|refine CN (b) ⟨⟨rfl,CY h.G⟩,⟨rfl,rfl⟩,tV1⟩ ?_)
  refine CP rfl ?_ ?_
  ·exact bZ (by rw[C9];simp)
  exact wC
 | true=>
  rw[e]at b;have d:gC h.G h.a=jstep h.G h.a:=by unfold gC;rw[e];rfl
  have i:=GR h.G h.a e;rw[d]at a |-;generalize jstep h.G h.a=r at i a |-;cases g:over r.2<;>rw[g]at a
  ·refine fM 39 [(529,[3,5,5])] [(1,8,[4,5,6,7,8,9,10,11]),(2,6,[13,14,15,16,17,18])] [(0,0)] Tryz.func431 rfl (λu q=>?_)
   repeat'(first|refine gP ?_|refine CN (b) ⟨⟨rfl,CY h.G⟩,⟨rfl,rfl⟩,tV1⟩ ?_)
   refine CP rfl ?_ ?_
   ·exact bZ (by rw[C9];simp)
   exact wC
  refine aU.wk (c:=Qr _) ?_ (KC rfl);refine fM 39 [(529,[3,5,5])] [(1,8,[4,5,6,7,8,9,10,11]),(2,6,[13,14,15,16,17,18])] [(0,0)] Tryz.func431 rfl (λu q=>?_)
  repeat'(first|refine gP ?_|refine CN (b) ⟨⟨rfl,CY h.G⟩,⟨rfl,rfl⟩,tV1⟩ ?_)
  refine CP rfl ?_ ?_
  ·exact bZ (by rw[C9];simp)
  exact wC
theorem Px{k:Int} : ∀{l s s2 b:List Int}(n:Nat),(∀x∈s2,x∈s)->wP k s l=some b->∃c,wP k s2 (l.take n)=some c/\∀x∈c,x∈b
 | [],s,s2,b,n,h,e=>by grind [wP]
 | a::l,s,s2,b,0,h,e=>⟨s2,rfl,λx d=>(rJ (λ_ y=>y) e).1 x (h x d)⟩
 | a::l,s,s2,b,n+1,h,e=>by
  simp only[List.take_succ_cons,wP]at e |-;split at e
  ·rename_i g
   rw[CL (show good k s2 a from⟨g.1,g.2.1,g.2.2.1,λx=>g.2.2.2 (h a x)⟩)];exact Px (l:=l) (s:=s++[a]) (s2:=s2++[a]) n ψ e
  cases e
theorem KB:∀{a:List (List Int)}{k:Nat}{s s2:List Int}(i n:Nat),(∀x∈s2,x∈s)->(jj k s a).isSome=true->(jj k s2 (a.set i ((nth a i).take n))).isSome=true
 | [],_,_,_,_,_,_,_=>rfl
 | l::a,k,s,s2,i,n,h,e=>by
  simp only[jj,gM]at e;split at e
  ·rename_i g
   cases b:wP k s l with
   | none=>grind
   | some j=>
    rw[b]at e;cases i with
    | zero=>
     obtain⟨c,d,f⟩:=Px n h b
     grind [I3,x4,jj,gM,nth]
    | succ i=>
     obtain⟨o,c,d,f⟩:=rJ h b;simp only[List.set_cons_succ,jj,gM];rw[CL g,d];exact KB i n f e
  cases e
theorem Pr{c:aE}(h:bx c=true)(k:Nat):bx (wz c k)=true:=by grind [KB,bx,wz]
def nU(b:Int):Nat->List Int
 | 0=>[]
 | j+1=>if bc b (j:Nat)=true then nU b j else nU b j++[((j:Nat):Int)]
theorem xg{b:Int} : ∀{n:Nat}{z:Int},z∈nU b n->0<=z/\z<n/\bc b z=false
 | 0,_,h=>by cases h
 | n+1,z,h=>by
  unfold nU at h;split at h
  ·have:=xg h;grind
  rename_i e;rcases z5.1 h with h|h
  ·have:=xg h;grind
  grind
theorem td(b:Int):∀n,(nU b n).length<=n
 | 0=>C5 _
 | n+1=>by have:=td b n;grind [nU]
def qF(k b:Int):List Int:=if Rf k b=true then nU b (slots k).toNat else []
def iX(h:ac)(i:Nat):List Int:=qF (nth h.K i).d (f6 h i)
theorem vg{k b z:Int}(h:z∈qF k b):0<=z/\z<slots k/\bc b z=false:=by
 unfold qF at h;split at h
 ·have:=xg h;grind
 cases h
theorem BA(k b:Int):(qF k b).length<=16:=by grind [iE,td,qF,Rf]
def pP(h:ac)(i:Nat):Int:=nth (iX h i) (J5 h.c0 ((iX h i).length:Nat)).toNat
def slotT(h:ac)(i:Nat):ac:={h with c0:=DP h.c0,K:=h.K.set i (tL (nth h.K i) (pP h i))}
def rQ(h:ac)(i:Nat):Int:=16*(nth h.K i).Q+pP h i*csz (nth h.K i).d
def xU(a:0<(iX h i).length):pP h i∈iX h i:=by
 have:=rY h.c0 (n:=((iX h i).length:Nat)) ω;exact ax ω
def aY.slotT{h:ac}{E:List Int}{i:Nat}(a:aY h E)(b:i<h.K.length)(e:0<(iX h i).length):aY (slotT h i) (rQ h i::E)/\k7 (slotT h i).K (rQ h i) (nth h.K i).d:=by
 obtain⟨c,d,f⟩:=vg (xU e);exact⟨a.take b ⟨c,d⟩ f (GU _),(k7.setS a.L b ⟨c,d⟩ _ _).2 (.inr ⟨rfl,.inr rfl⟩)⟩
def qQ(h:ac)(c:Int)(i:Nat):Bool:=decide ((nth h.K i).d=c)&&(!gq h (nth h.K i).Q&&decide (0<(iX h i).length))
def qt(h:ac)(c:Int):Option Nat:=(List.range h.K.length).find? (qQ h c)
def oz(h:ac)(c:Int):ac:=addS h (newK h.G (ay h.o 1).2.1).1 (ay h.o 1).1 (ay h.o 1).2.1 c
def o8(h:ac):Nat:=mt (J4 (ay h.o 1).2.1) h.K
def mr(h:ac)(i:Nat):ac × Int:=if(iX h i).length=0 then(h,-1) else(slotT h i,rQ h i)
def smallA(h:ac)(t c:Nat):ac × Int:=
 if 0<(nth (nth h.R t).Y c).length then({h with R:=h.R.set t (wz (nth h.R t) c)},nth (nth (nth h.R t).Y c) ((nth (nth h.R t).Y c).length - 1))
 else match qt h c with
 | some i=>(slotT h i,rQ h i)
 | none=>if(ay h.o 1).2.2=false then(h,-1)
  else if(newK h.G (ay h.o 1).2.1).2=false then({h with G:=(newK h.G (ay h.o 1).2.1).1},-1)
  else mr (oz h c) (o8 h)
theorem HW[Inhabited α](p:α->Bool)(xs:List α)(y:α):mt p xs<(lA p xs y).length/\nth (lA p xs y) (mt p xs)=y:=by
 have a:=WG p xs;have b:(xs.take (mt p xs)).length=mt p xs:=ψ
 refine⟨by grind [List.Perm.length_eq,nD,List.length_cons],br ?_⟩
 grind [lA]
theorem aY.tEq{h:ac}{E:List Int}(a:aY h E){k:ah}(c:aI k=true)(b:tEq (tbl h) k.F.O):aY {h with G:=k} E/\JK h {h with G:=k}:=
 ⟨a.step (j:=h.a) (m:=h.q) c b.1 (a.pg.tEq b) a.job a.noj,⟨rfl,rfl,ψ,λq d=>.inl ⟨(b.2 q).1.1 d,(b.2 q).2⟩⟩⟩
structure XA(h:ac)(c:Int)(r:ac × Int):Prop where
 no:r.2<0->aY r.1 []
 yes:0<=r.2->aY r.1 [r.2]/\k7 r.1.K r.2 c
 jk:JK h r.1
 nx:r.1.b=h.b
 cl:r.1.R.length=h.R.length
variable{c:Int}
def k7.nn(b:aY h E)(d:k7 h.K a c):0<=a:=(k7.bd b d).1
theorem XA.slot{h':ac}(b:aY h' [])(d:i<h'.K.length)(e:0<(iX h' i).length)(l:(nth h'.K i).d=c)(f:JK h h')(a:gq h' (nth h'.K i).Q=false)(h1:h'.b=h.b)(h2:h'.R.length=h.R.length):XA h c (slotT h' i,rQ h' i):=by
 obtain⟨g,j⟩:=b.slotT d e;have k:=k7.nn g j;exact⟨ω,ψ,f.trans (JK.take a),h1,h2⟩
theorem qk{c:Nat}(a:aY h [])(l:t<h.R.length)(J:c<=3)(r:h.G.Calls<=90000):XA h c (smallA h t c):=by
 have f:=a.cach _ (ax l);have u:=oN f;unfold smallA;split
 ·rename_i w
  obtain⟨d,b⟩:=a.pop l ω w (Pr f c);have A:=k7.nn a b;exact⟨ω,λ_=>⟨d,b⟩,JK.eq rfl rfl rfl rfl,rfl,C3 ..⟩
 split
 ·rename_i i n
  have K:=List.find?_some n;have L:=List.mem_range.1 (List.mem_of_find?_eq_some n)
  grind [XA.slot,JK.refl,qQ]
 split
 ·exact⟨λ_=>a,ω,JK.refl h,rfl,rfl⟩
 rename_i B;have g:(ay h.o 1).2.2=true:=by simpa using B
 obtain⟨C,D,E,o⟩:=jQ a (O9 1) g;have s:=vk.of (p:=(ay h.o 1).2.1) a.ker ω ⟨C,by have:(ay h.o 1).2.1+1<=(h.G.F.O.M.length:Nat):=D;omega⟩ (E _ ω ω);split
 ·rename_i k
  rw[s.no k];obtain⟨d,b⟩:=a.tEq (qi a.ker ω) (tEq.refl _);exact⟨λ_=>d,ω,b,rfl,rfl⟩
 rename_i k;have F:(newK h.G (ay h.o 1).2.1).2=true:=by simpa using k
 have q:vk h.G (ay h.o 1).2.1 ((newK h.G (ay h.o 1).2.1).1,true):=ψ
 have d:=a.addS (c:=c) ω g q;have b:JK h (oz h c):=JK.addS q;obtain⟨G,H⟩:=HW (J4 (ay h.o 1).2.1) h.K ⟨(ay h.o 1).2.1,c,0⟩;unfold mr;split
 ·exact⟨λ_=>d,ω,b,rfl,rfl⟩
 refine XA.slot (h':=oz h c) (i:=o8 h) d G ω (by show(nth (lA (J4 (ay h.o 1).2.1) h.K ⟨(ay h.o 1).2.1,c,0⟩) (o8 h)).d=_;grind [o8]) b ?_ rfl rfl;show gq (oz h c) (nth (lA (J4 (ay h.o 1).2.1) h.K ⟨(ay h.o 1).2.1,c,0⟩) (o8 h)).Q=false;unfold o8;rw[H,b.pg];rw[<-SA];intro j;unfold gq at j;simp only[I0,CD,C0]at j;obtain⟨-,⟨y,M,N⟩,⟨z,O,P⟩⟩:=a.job j.1;rcases j.2 with e|e
 ·exact o _ (O9 _) ω (by grind [fw])
 exact o _ (O9 _) ω (by grind [fw])
def iO(size:Int):Nat:=((size+15) / 16).toNat
def fp(h:ac)(size:Int):ah × Nat:=newsK h.G (ay h.o (iO size:Nat)).2.1 (iO size)
def largeA(h:ac)(t size:Int):ac × Int × Int:=
 if(ay h.o (iO size:Nat)).2.2=false then(h,-1,4)
 else if(fp h size).2=iO size then(addL h (fp h size).1 (ay h.o (iO size:Nat)).1 (ay h.o (iO size:Nat)).2.1 (iO size:Nat) size t,16*(ay h.o (iO size:Nat)).2.1,0)
 else({h with G:=unmN (fp h size).1 (ay h.o (iO size:Nat)).2.1 (fp h size).2},-1,4)
def uK(xs:List bg):Nat->Int
 | 0=>0
 | i+1=>uK xs i+(nth xs i).k
def pB(h:ac):Int:=uK h.J h.J.length
def allocH(h:ac)(t size:Int):ac × Int × Int:=
 if 1000000<=h.b\/90000<h.G.Calls then(h,-1,5)
 else if ¬(0<=t/\t<=h.R.length - 1) then(h,-1,1)
 else if ¬(1<=size/\size<=1000) then(h,-1,2)
 else if h.c1<pB h+size then(h,-1,3)
 else if 0<=aN size then(if(smallA h t.toNat (aN size).toNat).2<0 then((smallA h t.toNat (aN size).toNat).1,-1,4) else(addO (smallA h t.toNat (aN size).toNat).1 (smallA h t.toNat (aN size).toNat).2 size t,(smallA h t.toNat (aN size).toNat).2,0))
 else largeA h t size
variable{size:Int}
theorem Gm{t:Int}(a:aY h [])(l:9<=size/\size<=1000)(o:h.b<1000000)(f:h.G.Calls<=90000)(q:0<=t/\t<=h.R.length - 1):aY (largeA h t size).1 []/\JK h (largeA h t size).1:=by
 have r:(iO size:Int)=(size+15) / 16:=by unfold iO;omega
 unfold largeA;split
 ·grind [JK.refl]
 rename_i g;have b:(ay h.o (iO size:Nat)).2.2=true:=by simpa using g
 obtain⟨c,d,e,u⟩:=jQ a ω b;have s:=gI.of (p:=(ay h.o (iO size:Nat)).2.1) (n:=iO size) a.ker ω ⟨c,d⟩ e (iO size) (C5 _);split
 ·rename_i i
  have w:gI h.G (ay h.o (iO size:Nat)).2.1 (iO size) ((fp h size).1,iO size):=by
   have:((fp h size).1,iO size)=fp h size:=by rw[<-i]
   rw[this];exact s
  grind [aY.addL,JK.addL]
 obtain⟨j,k⟩:=s.undo a.ker ⟨c,d⟩ e;exact a.tEq j k
theorem G5{t:Int}(a:aY h []):aY (allocH h t size).1 []/\JK h (allocH h t size).1:=by
 unfold allocH;split
 ·grind [JK.refl]
 rename_i b;rw[not_or]at b;split
 ·grind [JK.refl]
 rename_i i;split
 ·grind [JK.refl]
 rename_i j;split
 ·grind [JK.refl]
 split
 ·rename_i k
  have d:aN size<=3:=by grind [aN]
  have s:=qk (t:=t.toNat) (c:=(aN size).toNat) a ω ω ω;generalize smallA h t.toNat (aN size).toNat=r at s;split
  ·grind [XA.no,XA.jk]
  rename_i e;obtain⟨f,g⟩:=s.yes ω;refine⟨f.addO (.inl ?_) (by rw[s.nx];omega) (by rw[s.cl];omega),s.jk.trans (JK.eq rfl rfl rfl rfl)⟩;obtain⟨z,l,n,o⟩:=g
  grind
 grind [Gm,aN]
def nr{β:Type}[Inhabited α]{f:α->β}{xs:List α}{y:α}(a:i<xs.length)(e:f y=f (nth xs i)):(xs.set i y).map f=xs.map f:=by
 rw[SC];refine List.ext_getElem (by simp) λj b c=>?_
 rw[List.getElem_set];split
 ·rename_i g;subst g
  rw[List.getElem_map,e,br (z4 a)]
 rfl
theorem rA{α β:Type}[Inhabited α](f:α->List β):∀(xs:List α)(i:Nat)(y:α),i<xs.length->(f y).Sublist (f (nth xs i))->((xs.set i y).flatMap f).Sublist (xs.flatMap f)
 | [],_,_,h,_=>absurd h (Nat.not_lt_zero _)
 | x::xs,0,y,_,a=>by
  rw[List.set_cons_zero,CE,CE];exact List.Sublist.append a ψ
 | x::xs,i+1,y,h,a=>by
  rw[List.set_cons_succ,CE,CE];exact List.Sublist.append ψ (rA f xs i y (by simpa using h) a)
def zK(k:ah)(a:Int):Nat->ah
 | 0=>k
 | m+1=>dN (zK k a m) (a+m) 0
theorem rd(k:ah)(a:Int):∀m,(zK k a m).F.O=k.F.O/\(zK k a m).Calls=k.Calls/\(zK k a m).a3=k.a3
 | 0=>⟨rfl,rfl,rfl⟩
 | m+1=>rd k a m
theorem U0{k:ah}(h:aI k=true){a:Int} : ∀{m:Nat},(∀j:Nat,j<m->(af k.F.O ((a+j) / 16)).e≠0)->aI (zK k a m)=true
 | 0,_=>h
 | m+1,b=>DG (U0 h ψ) (by grind [rd]) ω
variable{n:Nat}
theorem NC(f:aY h E){sp:List aB}{la:List aC}{o:List aG}{p:Int}(w:p+n<=h.G.F.O.M.length)(G:sp.Sublist h.K)(H:∀l∈la,∀q∈lpgs l l.a1.toNat,∃t∈h.H,q∈lpgs t t.a1.toNat)(J:0<=p)(y:∀q,q∈pgs sp la↔q∈pgs h.K h.H/\¬(p<=q/\q<p+n))(K:∀q,RH o q↔RH h.o q\/(p<=q/\q<p+n)) :
  Pg (unmN h.G p n).F.O o sp la:=by
 have b:=(fY h.G p n).1;have d:=qa f.ker J n w;have g:∀q:Nat,(q:Int)∈pgs sp la->nth (unmN h.G p n).F.O.M q=nth (tbl h).M q:=λq c=>by rw[d,CJ ((y q).1 c).2];rfl
 have a:∀q:Nat,(nth (unmN h.G p n).F.O.M q).e≠0↔(nth (tbl h).M q).e≠0/\¬(p<=q/\(q:Int)<p+n):=λq=>by
  rw[d];by_cases e:p<=q/\(q:Int)<p+n
  ·grind
  rw[CJ e];exact⟨λx=>⟨x,e⟩,λx=>x.1⟩
 refine⟨λl i q c r D A j=>?_,λq c=>?_,λq c=>?_,λq c=>?_,λs i u N M O=>?_⟩
 ·have k:=(a r).1 A
  rw[b]at D;rw[g q (i7 i c),d,CJ k.2]at j;obtain⟨t,B,C⟩:=H l i _ c;exact f.pg.one t B q C r D k.1 j
 ·rw[b];exact f.pg.bnd q ((y q).1 c).1
 ·rw[b]at c
  rw[a,y,f.pg.own q c]
 ·rw[b]at c
  rw[a,K,f.pg.fre q c]
  grind
 have F:∀s∈sp,0<=s.Q:=λs i=>(aJ (f.L.sok s (G.subset i))).1
 grind [fw,Pg.mesh,aY.pg]
def trimL(l:aC)(size:Int):aC:=⟨l.Q,(size+15) / 16,size⟩
def dD(l:aC)(size:Int):Nat:=(l.a1 - (size+15) / 16).toNat
def aY.trimL{h:ac}{E:List Int}{i k:Nat}{size:Int}(t:aY h E)(T:i<h.J.length)(H:k<h.H.length)(Y:(nth h.J i).Addr=16*(nth h.H k).Q)(N:9<=size/\size<=(nth h.H k).k) :
  ∃o,(dD (nth h.H k) size=0->o=h.o)/\(0<dD (nth h.H k) size->cQ (eQ h) h.o ⟨(nth h.H k).Q+(size+15) / 16,(dD (nth h.H k) size:Nat)⟩ = some o)/\
   aY {h with G:=unmN h.G ((nth h.H k).Q+(size+15) / 16) (dD (nth h.H k) size),H:=h.H.set k (trimL (nth h.H k) size),J:=h.J.set i {nth h.J i with k:=size},o:=o} E:=by
 have U:=t.L;have C:=U.lok _ (ax H);have hf:=aR C;unfold bI at C;rw[C0]at C;obtain⟨b1,b2⟩:=xT t H;have O:=U.dis;have G:=λj n=>U.one j k n H
 have y:=(ax H:nth h.H k∈h.H)
 have d:∀z∈h.H.set k (Ab.trimL (nth h.H k) size),z=Ab.trimL (nth h.H k) size\/∃j,j<h.H.length/\j≠k/\nth h.H j=z:=λz N=>g9 N
 have p:Ab.trimL (nth h.H k) size∈h.H.set k (Ab.trimL (nth h.H k) size):=lh _ H;have u:∀j,j<h.H.length->j≠k->nth h.H j∈h.H.set k (Ab.trimL (nth h.H k) size):=λj n e=>me _ n e
 have hpageM:(h.H.set k (Ab.trimL (nth h.H k) size)).map (·.Q)=h.H.map (·.Q):=nr H rfl;have w:(pgs h.K (h.H.set k (Ab.trimL (nth h.H k) size))).Sublist (pgs h.K h.H):=by
  unfold pgs;refine List.Sublist.append (List.Sublist.refl _) (rA _ _ _ _ H ?_);unfold lpgs;exact(List.range_sublist.2 (by simp only[Ab.trimL];omega)).map _
 obtain⟨l,V⟩ : ∃l,nth h.H k=l:=⟨_,rfl⟩
 rw[V]at C hf b1 b2 G y d p u hpageM w Y N |-;generalize hla:h.H.set k (Ab.trimL l size)=la at d p u hpageM w |-;have hn1:(1:Int)<=(size+15) / 16/\(size+15) / 16+(dD l size:Nat)=l.a1:=by unfold dD;omega
 have D:∀q,q∈lpgs l l.a1.toNat↔l.Q<=q/\q<l.Q+l.a1:=λq=>by
  rw[eM];constructor
  ·rintro⟨j,n,rfl⟩;omega
  rintro⟨Z,q2⟩;exact⟨(q - l.Q).toNat,ω,ω⟩
 have J:∀q,q∈lpgs (Ab.trimL l size) (Ab.trimL l size).a1.toNat↔l.Q<=q/\q<l.Q+(size+15) / 16:=λq=>by
  rw[eM];simp only[Ab.trimL];constructor
  ·rintro⟨j,n,rfl⟩;omega
  rintro⟨Z,q2⟩;exact⟨(q - l.Q).toNat,ω,ω⟩
 have hpe:l.Q+(size+15) / 16+(dD l size:Nat)=l.Q+l.a1:=ω
 have P:∀q,q∈pgs h.K la↔q∈pgs h.K h.H/\¬(l.Q+(size+15) / 16<=q/\q<l.Q+(size+15) / 16+(dD l size:Nat)):=λq=>by
  rw[tl,tl,hpe];constructor
  ·rintro(⟨s,W,rfl⟩|⟨z,c,B⟩)
   ·exact⟨.inl ⟨s,W,rfl⟩,λe=>O s W l y (s.Q - l.Q).toNat ω ω⟩
   rcases d z c with rfl|⟨j,n,hjk,rfl⟩
   ·have:=(J q).1 B
    exact⟨.inr ⟨l,y,(D q).2 ⟨ω,ω⟩⟩,ω⟩
   refine⟨.inr ⟨_,ax n,B⟩,λe=>?_⟩;obtain⟨m,hm,rfl⟩:=eM.1 B;exact hjk (G j n m ((nth h.H j).Q+(m:Int) - l.Q).toNat hm ω ω)
  rintro⟨⟨s,W,rfl⟩|⟨z,c,B⟩,hne⟩
  ·exact .inl ⟨s,W,rfl⟩
  obtain⟨j,n,rfl⟩:=aW c;by_cases e:j=k
  ·subst e
   rw[V]at B;have:=(D q).1 B;exact .inr ⟨_,p,(J q).2 ⟨ω,ω⟩⟩
  exact .inr ⟨_,u j n e,B⟩
 have K:∃o,(dD l size=0->o=h.o)/\(0<dD l size->cQ (eQ h) h.o ⟨l.Q+(size+15) / 16,(dD l size:Nat)⟩ = some o)/\bN (eQ h) o=true/\∀q,RH o q↔RH h.o q\/(l.Q+(size+15) / 16<=q/\q<l.Q+(size+15) / 16+(dD l size:Nat)):=by
  by_cases e:dD l size=0
  ·refine⟨h.o,λ_=>rfl,λg=>absurd g ω,t.rng,λq=>⟨.inl,λg=>g.resolve_right ω⟩⟩
  obtain⟨o,o1,o2,o3⟩:=yJ (r:=⟨l.Q+(size+15) / 16,(dD l size:Nat)⟩) t.rng ⟨by simp only;omega,by simp only;omega,by show l.Q+(size+15) / 16+(dD l size:Nat)<=(eQ h:Int);have:((tbl h).M.length:Int)=(eQ h:Int):=rfl;omega⟩ λq Z q2=>by
   simp only at Z q2;obtain⟨m,rfl⟩:=v5 (show 0<=q by omega);have Q:m<(tbl h).M.length:=ω
   exact(t.pg.fre m Q).1 ((t.pg.own m Q).2 (i7 y ((D _).2 ⟨ω,ω⟩)))
  exact⟨o,λg=>absurd g e,λ_=>o1,o2,o3⟩
 obtain⟨o,o0,o1,o2,o3⟩:=K;have R:=(fY h.G (l.Q+(size+15) / 16) (dD l size)).1;have M:∀z∈h.J.set i {nth h.J i with k:=size},z = {nth h.J i with k:=size}\/∃j,j<h.J.length/\j≠i/\nth h.J j=z:=λz N=>g9 N
 have F:(h.J.set i {nth h.J i with k:=size}).map (·.Addr)=h.J.map (·.Addr):=nr T rfl;have S:(h.J.set i {nth h.J i with k:=size}).map (·.Id)=h.J.map (·.Id):=nr T rfl;have hli:=(ax T:nth h.J i∈h.J)
 generalize h.J.set i {nth h.J i with k:=size} = ob at M F S |-;refine⟨o,o0,o1,{t with
   ker:=iI t.ker _ _
   rng:=by show bN (((unmN h.G (l.Q+(size+15) / 16) (dD l size)).F.O.M.length:Nat):Int) o=true;rw[R];exact o2
   lay:=?_
   srl:=?_
   pg:=NC t (by have:((tbl h).M.length:Int)=(h.G.F.O.M.length:Int):=rfl;omega) (List.Sublist.refl _) (λz c q B=>?_) ω P o3
   osr:=?_
   onu:=λz c=>?_
   oid:=by show(ob.map (·.Id)).Nodup;rw[S];exact t.oid
   oow:=λz c=>?_
   nd:=?_
   mem:=λb=>?_}⟩
 ·obtain⟨l1,l2,l3⟩:=fJ t.lay
  unfold b8;simp only[I0,C0];refine⟨⟨l1,O7.2 λz c=>?_⟩,l3.sublist w⟩;rcases d z c with rfl|⟨j,n,-,rfl⟩
  ·exact O0 ⟨N.1,by show size<=1000;omega,rfl,by show 0<=l.Q;omega,by show l.Q<=32 - (size+15) / 16;omega⟩
  exact U.lok _ (ax n)
 ·have A:(h.H.map (·.Q)).Pairwise (λa b=>a<b):=List.pairwise_map.2 t.srl
  rw[<-hpageM]at A;exact List.pairwise_map.1 A
 ·rcases d z c with rfl|⟨j,n,-,rfl⟩
  ·have:=(J q).1 B
   exact⟨l,y,(D q).2 ⟨ω,ω⟩⟩
  exact⟨_,ax n,B⟩
 ·have A:(h.J.map (·.Addr)).Pairwise (λa b=>a<b):=List.pairwise_map.2 t.osr
  rw[<-F]at A;exact List.pairwise_map.1 A
 ·rcases M z c with rfl|⟨j,n,-,rfl⟩
  ·exact t.onu (nth h.J i) hli
  exact t.onu _ (ax n)
 ·rcases M z c with rfl|⟨j,n,hji,rfl⟩
  ·exact .inr ⟨_,p,Y,rfl⟩
  rcases t.oow _ (ax n) with A|⟨l',hl',e1,X⟩
  ·exact .inl A
  obtain⟨m,hm,rfl⟩:=aW hl';by_cases e:m=k
  ·subst e
   rw[V]at e1;exact absurd (du (f:=(·.Addr)) (dv t.osr) n T (e1.trans Y.symm)) hji
  exact .inr ⟨_,u m hm e,e1,X⟩
 ·have hh:holders {h with G:=unmN h.G (l.Q+(size+15) / 16) (dD l size),H:=la,J:=ob,o:=o} = holders h:=by
   show((ob.map (·.Addr)++cU h)++h.a7.y.map (·.Addr))++aL h.w=_;rw[F];rfl
  rw[hh];exact t.nd
 have hh:holders {h with G:=unmN h.G (l.Q+(size+15) / 16) (dD l size),H:=la,J:=ob,o:=o} = holders h:=by
  show((ob.map (·.Addr)++cU h)++h.a7.y.map (·.Addr))++aL h.w=_;rw[F];rfl
 rw[hh,t.mem b];show Live h.K h.H b↔Live h.K la b;unfold Live;constructor
 ·rintro(A|⟨z,c,e⟩)
  ·exact .inl A
  obtain⟨j,n,rfl⟩:=aW c;by_cases X:j=k
  ·subst X
   rw[V]at e;exact .inr ⟨_,p,e⟩
  exact .inr ⟨_,u j n X,e⟩
 rintro(A|⟨z,c,e⟩)
 ·exact .inl A
 rcases d z c with rfl|⟨j,n,-,rfl⟩
 ·exact .inr ⟨l,y,e⟩
 exact .inr ⟨_,ax n,e⟩
def kq(h:ac)(k:Nat)(size:Int):ah:=zK h.G (16*(nth h.H k).Q+size) (16*((size+15) / 16) - size).toNat
def yR(h:ac)(k:Nat)(size:Int):List aG:=if 0<dD (nth h.H k) size then(cQ (eQ h) h.o ⟨(nth h.H k).Q+(size+15) / 16,(dD (nth h.H k) size:Nat)⟩).getD h.o else h.o
def trimH(h:ac)(i k:Nat)(size:Int):ac:={h with G:=unmN (kq h k size) ((nth h.H k).Q+(size+15) / 16) (dD (nth h.H k) size),H:=h.H.set k (trimL (nth h.H k) size),J:=h.J.set i {nth h.J i with k:=size},o:=yR h k size}
theorem kg(b:aY h E)(c:k<h.H.length)(g:16*(nth h.H k).Q<=a/\a<16*(nth h.H k).Q+16*(nth h.H k).a1):(af h.G.F.O (a / 16)).e≠0:=by
 obtain⟨i,j⟩:=xT b c;have l:=aR (b.L.lok _ (ax c));have d:(a / 16)∈pgs h.K h.H:=i7 (ax c) (eM.2 ⟨(a / 16 - (nth h.H k).Q).toNat,ω,ω⟩);have e:=b.pg.bnd _ d;have f:=(b.pg.own (a / 16).toNat ω).2 ψ;unfold af;rw[CL ⟨ω,e⟩];exact f
theorem wI(a:aY h E)(b:k<h.H.length)(d:9<=size/\size<=(nth h.H k).k):∀{m:Nat},m<=(16*((size+15) / 16) - size).toNat->aI (zK h.G (16*(nth h.H k).Q+size) m)=true:=fun {m} hm=>by
 have c:=a.L.lok _ (ax b)
 grind [U0,aY.ker,kg,bI]
theorem aY.trimH{h:ac}{i k:Nat}{size:Int}(b:aY h [])(n:i<h.J.length)(c:k<h.H.length)(r:(nth h.J i).Addr=16*(nth h.H k).Q)(e:9<=size/\size<=(nth h.H k).k):aY (trimH h i k size) []/\JK h (trimH h i k size):=by
 have f:=wI b c e (C5 _);have g:=(rd h.G (16*(nth h.H k).Q+size) (16*((size+15) / 16) - size).toNat).1;have t:=b.cells f g;obtain⟨o,u,w,j⟩:=t.trimL (i:=i) (k:=k) (size:=size) n c r e;simp only at u w j;have y:eQ {h with G:=zK h.G (16*(nth h.H k).Q+size) (16*((size+15) / 16) - size).toNat} = eQ h:=by grind [eQ]
 have A:yR h k size=o:=by grind [yR]
 have B:Ab.trimH h i k size = {h with G:=unmN (kq h k size) ((nth h.H k).Q+(size+15) / 16) (dD (nth h.H k) size),H:=h.H.set k (Ab.trimL (nth h.H k) size),J:=h.J.set i {nth h.J i with k:=size},o:=o}:=by unfold Ab.trimH;rw[A]
 refine⟨by rw[B];exact j,JK.less rfl rfl rfl λq C=>?_⟩;have a:=b.L.lok _ (ax c);unfold bI at a;rw[C0]at a;obtain⟨D,E⟩:=xT b c;have d:(kq h k size).F.O=h.G.F.O:=g;have l:=qa (k:=kq h k size) f (p:=(nth h.H k).Q+(size+15) / 16) ω (dD (nth h.H k) size) (by rw[d];have:((tbl h).M.length:Int)=(h.G.F.O.M.length:Int):=rfl;unfold dD;omega) q;change (nth (unmN (kq h k size) ((nth h.H k).Q+(size+15) / 16) (dD (nth h.H k) size)).F.O.M q).e≠0 at C;show nth (unmN (kq h k size) ((nth h.H k).Q+(size+15) / 16) (dD (nth h.H k) size)).F.O.M q=nth h.G.F.O.M q
 grind
theorem N8(e:1<=t/\t<=4):bG (fT t)=true:=by
 have f:∀n,n<=t->bQ (fT t) n=0:=λn=>by
  induction n with
  | zero=>intro _;rfl
  | succ n g=>
   intro h;have b:nth (fT t).U n=[]:=gi ω;have c:nth (fT t).a0 n=[]:=gi ω
   grind [bQ]
 have d:(fT t).U.length=t:=List.length_replicate ..;refine eC.2 ⟨⟨ω,ω,by simp[fT]⟩,λi a=>?_,ψ⟩;rw[d]at a;have b:nth (fT t).U i=[]:=gi a;have c:nth (fT t).a0 i=[]:=gi a
 grind
theorem yS(t:Nat):aL (fT t)=[]:=by
 unfold aL;split
 ·simp[fT]
 rfl
def vf(k:ah)(t:Nat)(sd ck lim:Int):ac:=⟨k,[⟨0,(k.F.O.M.length:Nat)⟩],[],[],[],List.replicate t gm,fT t,⟨16,[]⟩,sd,ck,lim,1,false,⟨⟨0,0,[]⟩,0,0⟩⟩
def LP:bx gm=true:=by decide
theorem aY.fresh{k:ah}{lim sd ck:Int}(w:aI k=true)(A:∀q,q<k.F.O.M.length->(nth k.F.O.M q).e=0)(C:1<=t/\t<=4)(f:0<=lim/\lim<=1000)(g:0<=sd/\sd<=1073741823)(b:0<=ck/\ck<=1000000):aY (vf k t sd ck lim) []:=by
 obtain⟨F,G,H⟩:=bu.1 (aH.1 w).2.2.1;have hca:cU (vf k t sd ck lim)=[]:=by
  unfold cU;refine List.flatMap_eq_nil_iff.2 λc b=>?_
  rw[(List.mem_replicate.1 b).2]
  rfl
 have J:holders (vf k t sd ck lim)=[]:=by
  unfold holders;rw[hca];show(([]++[])++[])++aL (fT t)=[]
  grind [yS]
 have D:∀a,¬Live (vf k t sd ck lim).K (vf k t sd ck lim).H a:=λa=>by
  rintro(⟨s,g,-⟩|⟨l,f,-⟩)
  ·cases g
  cases f
 exact {
   ker:=w
   rng:=ix.2 ⟨⟨List.pairwise_singleton ..,λy h=>by rw[z3.1 h];grind⟩,λy h=>by
       rw[z3.1 h];refine⟨O9 _,ψ,?_⟩;show(0:Int)+(k.F.O.M.length:Nat)<=(k.F.O.M.length:Nat);omega,by show(1:Int)<=(k.F.O.M.length:Nat);omega,by show((k.F.O.M.length:Nat):Int)<=32;omega⟩
   lay:=by show b8 [] []=true;decide
   srs:=List.Pairwise.nil
   srl:=List.Pairwise.nil
   pg:=⟨λl f=>(by cases f),λp d=>(by cases d),λp d=>⟨λe=>absurd (A p d) e,λe=>by cases e⟩,λp d=>⟨λe=>absurd (A p d) e,λe=>absurd ⟨_,z3.2 rfl,ψ,by
       show(p:Int)<0+(k.F.O.M.length:Nat);have E:p<k.F.O.M.length:=d;omega⟩ e⟩,λs g=>by cases g⟩
   mail:=N8 C
   nc:=by show(List.replicate t gm).length=(List.replicate t _).length;simp
   quar:=by show gu ⟨16,[]⟩ = true;decide
   snc:=λx i=>by cases i
   cach:=λc b=>by rw[(List.mem_replicate.1 b).2];exact LP
   nums:=by grind [cI,vf]
   osr:=List.Pairwise.nil
   onu:=λo n=>by cases n
   oid:=List.nodup_nil
   oow:=λo n=>by cases n
   hca:=λc b j B a r=>by
     rw[(List.mem_replicate.1 b).2]at B r;have u:j<4:=B;have:nth gm.Y j=[]:=gi u
     grind
   hqu:=λx i=>by cases i
   hfl:=λa r=>by
     have:aL (fT t)=[]:=yS t;change a∈aL (fT t) at r
     grind
   hin:=(ψ)
   nd:=ψ
   mem:=(ψ)
   job:=λe=>by cases e
   noj:=λ_=>by show w6 ⟨⟨0,0,[]⟩,0,0⟩ = true;decide}
theorem JI.no(a:h.q=false):JI h:=⟨ψ,ψ,ψ,ψ⟩
def pw{p:Nat}{a:List Int}(d:1<=p/\p<=32)(e:1<=f/\f<=32)(b:a.length<=40/\∀x∈a,0<=x):aI (cy p f a)=true:=by
 obtain⟨-,g,h,i,c⟩:=aH.1 (Ht d e);exact aH.2 ⟨λj k=>b.2 _ (ax k),g,h,i,c.1,c.2.1,b.1⟩
theorem Kb{p:Nat}{lim:Int}{a:List Int}(b:1<=p/\p<=32)(c:1<=f/\f<=32)(d:1<=t/\t<=4)(g:0<=lim/\lim<=1000)(i:a.length<=40/\∀x∈a,0<=x):aY (newHeap p f t lim a) []:=by
 have h:=aY.fresh (k:=cy p f a) (t:=t) (lim:=lim) (sd:=0) (ck:=0) (pw b c i) (λq j=>by grind [cy,f7,nth]) d g ω ω;have e:(cy p f a).F.O.M.length=p:=by grind [cy,f7]
 unfold vf at h;rw[e]at h;exact h
structure fg where
 b2:Int
 a2:Int
 N:Int
 At:Int
 Value:Int
deriving DecidableEq,Inhabited
def fg.enc(_:fE)(x:fg):List C:=[I x.b2,I x.a2,I x.N,I x.At,I x.Value]
def iL(id:Int)(o:aS):Bool:=decide (o.Id=id)
def oy(r:aA)(id:Int):Int:=bU (iL id) r.J
def i9(r:aA)(n:Int):aA:=if 1<=n/\n<=1000 then {r with b:=r.b+1,J:=r.J++[⟨r.b,List.replicate n.toNat 0⟩]} else r
def jf(r:aA)(id:Int):aA:=if oy r id<0 then r else {r with J:=dele r.J (oy r id).toNat}
def dI(r:aA)(id at_ v:Int):aA:=if 0<=oy r id/\(0<=at_/\at_<=(nth r.J (oy r id).toNat).T.length - 1)/\0<=v/\v<=999 then {r with J:=r.J.set (oy r id).toNat ⟨(nth r.J (oy r id).toNat).Id,(nth r.J (oy r id).toNat).T.set at_.toNat v⟩} else r
def fe(r:aA)(id n:Int):aA:=if 0<=oy r id/\1<=n/\n<=(nth r.J (oy r id).toNat).T.length then {r with J:=r.J.set (oy r id).toNat ⟨(nth r.J (oy r id).toNat).Id,(nth r.J (oy r id).toNat).T.take n.toNat⟩} else r
structure rE(r:aA)(m:Nat):Prop where
 len:r.J.length<=m
 cel:∀o∈r.J,o.T.length<=1000
 nx:0<=r.b/\r.b<=m+1
variable{m:Nat}{r:aA}
theorem rE.more(h:rE r m)(a:m<=n):rE r n:=⟨by have:=h.len;omega,h.cel,h.nx.1,by have:=h.nx.2;omega⟩
def rE.sml(h:rE r m)(b:m<=1000):aA.sml r:=⟨by have:=h.len;omega,λo a=>by have:=h.cel o a;show o.T.length<=1048576;omega⟩
theorem rE.alloc(h:rE r m)(n:Int):rE (i9 r n) (m+1):=by
 unfold i9;split
 ·refine⟨by have:=h.len;grind,λo a=>?_,by have:=h.nx.1;simp only;omega,by have:=h.nx.2;simp only;omega⟩
  grind [rE.cel]
 grind [rE.more]
theorem rE.free(h:rE r m)(id:Int):rE (jf r id) m:=by
 unfold jf;split
 ·exact h
 have a:=gl r.J (oy r id).toNat;exact⟨I9 a.length_le h.len,λo b=>h.cel o (a.subset b),h.nx⟩
theorem rE.set{x:aS}(h:rE r m)(a:x.T.length<=1000):rE {r with J:=r.J.set i x} m:=
 ⟨by simp only[C3];exact h.len,λo b=>by grind [rE.cel],h.nx⟩
theorem eZ[Inhabited α](p:α->Bool)(xs:List α)(h:0<=bU p xs):(bU p xs).toNat<xs.length/\p (nth xs (bU p xs).toNat)=true/\bU p xs=((bU p xs).toNat:Nat):=by grind [mq]
def rE.store(h:rE r m)(id a v:Int):rE (dI r id a v) m:=by
 unfold dI;split
 ·rename_i e
  refine h.set ?_;simp only[C3];exact h.cel (nth r.J (oy r id).toNat) (ax (eZ _ _ e.1).1)
 exact h
theorem rE.trim(h:rE r m)(id n:Int):rE (fe r id n) m:=by
 unfold fe;split
 ·rename_i e
  refine h.set ?_;have:=h.cel (nth r.J (oy r id).toNat) (ax (eZ _ _ e.1).1)
  grind
 exact h
def P5(id:Int)(o:bg):Bool:=decide (o.Id=id)
def mX(h:ac)(id:Int):Int:=bU (P5 id) h.J
def mT(a:Int)(l:aC):Bool:=decide (l.Q*16=a)
def si(h:ac)(a:Int):Int:=bU (mT a) h.H
def mH(h:ac)(a:fg):Prop:=0<=a.a2/\a.a2<=h.R.length - 1
instance (h:ac) (a:fg):Decidable (mH h a):=by unfold mH;infer_instance
def t8(w:bh)(a:fg)(i:Nat):bh × Int:=
 if w.W.G.Calls=100000 then(w,6)
 else if mH w.W a then(⟨(freeT w.W a.a2.toNat i).1,if(freeT w.W a.a2.toNat i).2=0 then jf w.b3 (nth w.W.J i).Id else w.b3⟩,(freeT w.W a.a2.toNat i).2)
 else(w,1)
def pT(w:bh)(a:fg)(i:Nat):bh × Int:=
 if ¬(0<=a.At/\a.At<=(nth w.W.J i).k - 1) then(w,90)
 else if(af w.W.G.F.O (((nth w.W.J i).Addr+a.At) / 16)).e=1 then(w,2)
 else if ¬(0<=a.Value/\a.Value<=999) then(w,3)
 else(⟨{w.W with G:=dN w.W.G ((nth w.W.J i).Addr+a.At) a.Value},dI w.b3 (nth w.W.J i).Id a.At a.Value⟩,0)
def jh(h:ac)(i:Nat)(n:Int):Prop:=0<=si h (nth h.J i).Addr/\9<=n/\n<=(nth h.H (si h (nth h.J i).Addr).toNat).k
instance (h:ac) (i:Nat) (n:Int):Decidable (jh h i n):=by unfold jh;infer_instance
def tf(w:bh)(a:fg)(i:Nat):bh × Int:=
 if w.W.G.Calls≠100000/\jh w.W i a.Value then(⟨trimH w.W i (si w.W (nth w.W.J i).Addr).toNat a.Value,fe w.b3 (nth w.W.J i).Id a.Value⟩,0) else(w,90)
def lK(w:bh)(a:fg)(i:Nat):bh × Int:=if a.b2=2 then t8 w a i else if a.b2=3 then pT w a i else tf w a i
def hB(h:ac)(a:fg):ac × Int:=
 if a.b2=5 then(if mH h a/\0<(nth h.w.U a.a2.toNat).length then({h with w:=gr h.w a.a2.toNat},0) else(h,90))
 else if ¬(h.G.Calls≠100000/\mH h a) then(h,0)
 else if a.b2=6 then(collect h a.a2.toNat,((nth h.w.a0 a.a2.toNat).length:Nat))
 else((flushN a.a2.toNat h 4).1,((flushN a.a2.toNat h 4).2:Nat))
def qU(h:ac)(n:Int):ac × Int:=if h.G.Calls≠100000/\(0<=n/\n<=1000)/\h.b1+n<=1000000 then(tick h n,((ns h n).length:Nat)) else(h,0)
def pJ(h:ac):Bool:=h.q&&decide (h.G.Calls<=99000)
def stN(h:ac):Nat->ac × Nat
 | 0=>(h,0)
 | i+1=>if pJ (stN h i).1=true then(mStep (stN h i).1,(stN h i).2+1) else stN h i
def qB(h:ac):ac × Int:=if h.q=true then(h,90) else((started h).1,if(started h).2=true then 0 else 90)
def mY(w:bh)(a:fg):bh × Int:=
 if a.b2=1 then(⟨(allocH w.W a.a2 a.N).1,if(allocH w.W a.a2 a.N).2.2=0 then i9 w.b3 a.N else w.b3⟩,(allocH w.W a.a2 a.N).2.2)
 else if a.b2=2\/a.b2=3\/a.b2=4 then(if mX w.W a.N<0 then(w,90) else lK w a (mX w.W a.N).toNat)
 else if a.b2=5\/a.b2=6\/a.b2=7 then(⟨(hB w.W a).1,w.b3⟩,(hB w.W a).2)
 else if a.b2=8 then(⟨(qU w.W a.N).1,w.b3⟩,(qU w.W a.N).2)
 else if a.b2=9 then(⟨(qB w.W).1,w.b3⟩,(qB w.W).2)
 else if a.b2=10/\0<=a.N/\a.N<=50 then(⟨(stN w.W a.N.toNat).1,w.b3⟩,((stN w.W a.N.toNat).2:Nat))
 else(w,90)
structure mW(w:bh)(m:Nat):Prop where
 inv:aY w.W []
 ji:JI w.W
 ref:rE w.b3 m
variable{w:bh}
def mW.more(h:mW w m)(a:m<=n):mW w n:=⟨h.inv,h.ji,h.ref.more a⟩
theorem mW.jk(h:mW w m){g:ac}(a:aY g []/\JK w.W g)(b:rE r m):mW ⟨g,r⟩ m:=⟨a.1,h.ji.keep a.1 a.2,b⟩
theorem di(b:aY h E){o:bg}(i:o∈h.J){k:Int}(C:0<=k/\k<=o.k - 1):(af h.G.F.O ((o.Addr+k) / 16)).e≠0/\0<=o.Addr/\o.Addr+k<512:=by
 rcases b.oow o i with⟨s,f,p,q⟩|⟨l,g,D,F⟩
 ·have a:=b.L.sok s f
  have r:=aJ a;obtain⟨t,u,w⟩:=b.mapped f;have c:=bT r.2.2;obtain⟨G,H,y,-⟩:=p;have d:o.k<=csz s.d:=by
   have J:=iv (n:=o.k) ω;rw[q];have:o.k=1\/o.k=2\/o.k=3\/o.k=4\/o.k=5\/o.k=6\/o.k=7\/o.k=8:=ω
   rcases this with e|e|e|e|e|e|e|e<;>rw[e]<;>decide
  have A:(o.Addr+k) / 16=s.Q:=by
   rcases c with e|e|e|e<;>rw[e]at y d<;>omega
  rw[A];refine⟨?_,ω,ω⟩;unfold af;rw[CL ⟨t,u⟩];exact w
 obtain⟨j,K,rfl⟩:=aW g;have B:=b.L.lok _ g
 grind [kg,bI]
theorem mW.obj(h:mW w m)(a:fg)(c:i<w.W.J.length):mW (lK w a i).1 m:=by
 unfold lK;split
 ·grind [mW.jk,aY.freeT,mW.inv,rE.free,mW.ref,t8,mH]
 split
 ·unfold pT
  split
  ·exact h
  rename_i k;split
  ·exact h
  split
  ·exact h
  rename_i l;exact h.jk (h.inv.store (di h.inv (ax c) ω).1 ω) (h.ref.store _ _ _)
 unfold tf;split
 ·rename_i e
  obtain⟨-,d,f⟩:=e;obtain⟨g,j,n⟩:=eZ _ _ d;have b:=of_decide_eq_true j;exact h.jk (h.inv.trimH c g (b.symm.trans (Int.mul_comm _ _)) f) (h.ref.trim _ _)
 exact h
theorem mW.thread(h:mW w m)(a:fg):mW ⟨(hB w.W a).1,w.b3⟩ m:=by
 unfold hB;split
 ·split
  ·rename_i e
   obtain⟨b,c⟩:=e;unfold mH at b;exact h.jk (g:={w.W with w:=gr w.W.w a.a2.toNat}) ⟨h.inv.deliv (by grind [aY.nc,mW.inv]) c,JK.eq rfl rfl rfl rfl⟩ h.ref
  exact h
 split
 ·exact h
 grind [mW.jk,aY.collect,mW.inv,mW.ref,jT,JK.flushN,mH]
theorem xv{h:ac}(a:aY h [])(b:JI h):∀n,aY (stN h n).1 []/\JI (stN h n).1
 | 0=>⟨a,b⟩
 | n+1=>by
  obtain⟨c,d⟩:=xv a b n
  grind [aY.mStep,stN,pJ]
theorem mW.act(h:mW w m)(a:fg):mW (mY w a).1 (m+1):=by
 unfold mY;split
 ·have b:=G5 (t:=a.a2) (size:=a.N) h.inv
  refine⟨b.1,h.ji.keep b.1 b.2,?_⟩;show rE (if _ then _ else _) (m+1);split
  ·exact h.ref.alloc _
  exact h.ref.more ω
 refine mW.more (m:=m) ?_ ω;split
 ·grind [mW.obj,eZ,mX]
 split
 ·exact h.thread a
 split
 ·unfold qU
  split
  ·grind [mW.jk,aY.tick,mW.inv,mW.ref]
  exact h
 split
 ·unfold qB
  split
  ·exact h
  rename_i e;have b:=Nz h.inv (by simpa using e);exact⟨b.1,b.2,h.ref⟩
 split
 ·have b:=xv h.inv h.ji a.N.toNat
  exact⟨b.1,b.2,h.ref⟩
 exact h
structure cr where
 a1:Nat
 V:Nat
 c4:Nat
 c1:Int
 a3:List Int
deriving Inhabited
structure Ea(c:cr):Prop where
 p:1<=c.a1/\c.a1<=32
 f:1<=c.V/\c.V<=32
 t:1<=c.c4/\c.c4<=4
 l:0<=c.c1/\c.c1<=1000
 r:c.a3.length<=40/\∀x∈c.a3,0<=x
def world0(c:cr):bh:=⟨newHeap c.a1 c.V c.c4 c.c1 c.a3,{b:=1,J:=[]}⟩
def xc(c:cr)(acts:List fg):Nat->bh × List Int
 | 0=>(world0 c,[])
 | i+1=>((mY (xc c acts i).1 (nth acts i)).1,(xc c acts i).2++[(mY (xc c acts i).1 (nth acts i)).2])
def QC{c:cr}(h:Ea c):mW (world0 c) 0:=
 ⟨Kb h.p h.f h.t h.l h.r,JI.no rfl,⟨C5 _,λo a=>(by cases a),by show(0:Int)<=1;omega,by show(1:Int)<=((0:Nat):Int)+1;omega⟩⟩
def xG{c:cr}(h:Ea c)(acts:List fg):∀n,mW (xc c acts n).1 n
 | 0=>QC h
 | n+1=>(xG h acts n).act _
def QN(t:aO)(d:aO.sml t):zzA 24 false [.val (some 1) (aO.enc .S t)] .one [I (io t)]:=by
 have k:t.M.length<=1048576:=d.1;refine fO 22 [] Tryz.func24 rfl ?_
 refine σP ?_
 refine lp0 t.M.length (λi=>[(1,bB (aO.enc .S t)),(3,fI (fC dd t.M i)),(4,fN i)]) λi g=>?_
 have h:=mb (f:=dd) (xs:=t.M) (b:=1) (λe _=>yA e) i g;by_cases j:i<t.M.length
 ·have c:=ar j
  have a:fC dd t.M (i+1)=fC dd t.M i+dd (nth t.M i):=rfl;by_cases e:(nth t.M i).e=0
  ·rw[show dd (nth t.M i)=0 by unfold dd;rw[CJ (by simpa using e)]]at a
   refine σB ?_
   (exact cV (i+1) ω)
  rw[show dd (nth t.M i)=1 by unfold dd;rw[CL e]]at a
  refine σB ?_
  (exact cV (i+1) ω)
 obtain rfl:i=t.M.length:=ω
 refine σE ?_
 rfl
def xW(t:aO)(d:aO.sml t):zzA 288 false [.val (some 1) (aO.enc .S t)] .one [I (io t)]:=by
 have k:t.M.length<=1048576:=d.1;refine fO 20 [] Tryz.func288 rfl ?_
 refine σP ?_
 refine lp0 t.M.length (λi=>[(3,fI (fC dd t.M i)),(7,bJ (DH .S t.M)),(8,fI t.M.length),(9,fN i)]) λi g=>?_
 have h:=mb (f:=dd) (xs:=t.M) (b:=1) (λe _=>yA e) i g;by_cases j:i<t.M.length
 ·have c:=ar j
  have a:fC dd t.M (i+1)=fC dd t.M i+dd (nth t.M i):=rfl;by_cases e:(nth t.M i).e=0
  ·rw[show dd (nth t.M i)=0 by unfold dd;rw[CJ (by simpa using e)]]at a
   refine σB ?_
   (exact cV (i+1) ω)
  rw[show dd (nth t.M i)=1 by unfold dd;rw[CL e]]at a
  refine σB ?_
  (exact cV (i+1) ω)
 obtain rfl:i=t.M.length:=ω
 refine σE ?_
 rfl
def Tc(s:aB)(a:bk s=true):zzA 527 false [.val (some 3) (aB.enc .S s)] .one (aF .own (lr s 16)):=by
 have b:=im s;rw[a]at b;have g:=aJ a;have n:=bT g.2.2;refine fO 27 [(5,7,[14,15,16,17,18,19,20])] Tryz.func527 rfl ?_ (.inr (bC _))
 refine σP ?_
 refine lp0 16 (λi=>[(1,bB (aB.enc .S s)),(3,bJ (aF .own (lr s i))),(4,fN i)]) λi o=>?_
 have h:=rP s i;by_cases j:i<16
 ·have k:=JJ a j
  have d:IntKind.i64.wrap (((i:Nat):Int).tdiv (csz s.d))=((i:Nat):Int) / csz s.d:=by rw[om ω];exact gf ω ω
  have c:=jt s.a9 (((i:Nat):Int) / csz s.d) (fK a).2;cases e:kM s i
  ·rw[show bc s.a9 (((i:Nat):Int) / csz s.d)=false from e]at c
   repeat'(first|refine gE ?_|refine CG (ef _) ?_|refine CT ω ?_|refine CS d ?_)
   (refine CR (i+1) ω ω ?_)
   rw[PT e];exact wB
  rw[show bc s.a9 (((i:Nat):Int) / csz s.d)=true from e]at c
  repeat'(first|refine gE ?_|refine CG (ef _) ?_|refine CT ω ?_|refine CS d ?_|refine Ca cA (λr l=>by rw[z3.1 l];rfl) (by simp[bp,eO]) jp (by simp only[I2];exact vm jp qs) rfl ?_)
  (refine CR (i+1) ω ω ?_)
  rw[J6 e]
  (exact wD)
 obtain rfl:i=16:=ω
 refine σE ?_
 rfl
def rr(s:aB)(a:bk s=true):zzA 436 false [.val (some 3) (aB.enc .S s)] .one (aF .own (lr s 16)):=by
 have c:=ik s;rw[a]at c;have g:=aJ a;have n:=bT g.2.2;refine fO 26 [(7,7,[13,14,15,16,17,18,19])] Tryz.func436 rfl ?_ (.inr (bC _))
 refine σP ?_
 refine lp0 16 (λi=>[(1,bB (aB.enc .S s)),(3,bJ (aF .own (lr s i))),(4,fN i)]) λi o=>?_
 have h:=rP s i;by_cases j:i<16
 ·have k:=JJ a j
  have d:IntKind.i64.wrap (((i:Nat):Int).tdiv (csz s.d))=((i:Nat):Int) / csz s.d:=by rw[om ω];exact gf ω ω
  have b:=iu s.a9 (((i:Nat):Int) / csz s.d) (fK a).2;cases e:kM s i
  ·rw[show bc s.a9 (((i:Nat):Int) / csz s.d)=false from e]at b
   repeat'(first|refine gE ?_|refine CG (cq _) ?_|refine CT ω ?_|refine CS d ?_)
   (refine CR (i+1) ω ω ?_)
   rw[PT e];exact wB
  rw[show bc s.a9 (((i:Nat):Int) / csz s.d)=true from e]at b
  repeat'(first|refine gE ?_|refine CG (cq _) ?_|refine CT ω ?_|refine CS d ?_|refine Ca cA (λr l=>by rw[z3.1 l];rfl) (by simp[bp,eO]) jp (by simp only[I2];exact vm jp qs) rfl ?_)
  (refine CR (i+1) ω ω ?_)
  rw[J6 e]
  (exact wD)
 obtain rfl:i=16:=ω
 refine σE ?_
 rfl
def BR(sp:List aB)(la:List aC)(c:eN sp)(d:eU la)(a:b8 sp la=true):zzA 289 false [.val none (bY .S sp),.val none (ce .S la)] .one [I (ny sp la)]:=by
 have o:=c.1;have p:=d.1;have j:=pu sp la c d;rw[a]at j;have q:=nu.of a;have e:=Wq (fJ a).2.1;refine fO 38 [] Tryz.func289 rfl ?_
 refine σP ?_
 refine lp0 sp.length (λi=>[(1,bJ (ce .S la)),(5,fI (fC QF sp i)),(14,bJ (bY .S sp)),(15,fI sp.length),(16,fN i)]) λi r=>?_
 have t:=mb (f:=QF) (xs:=sp) (b:=16) (λs _=>Vn s) i r;by_cases l:i<sp.length
 ·have g:=ar l
  have h:fC QF sp (i+1)=fC QF sp i+((lr (nth sp i) 16).length:Nat):=rfl;have u:=rP (nth sp i) 16
  repeat'(first|refine gE ?_|refine CG (rr (nth sp i) (q.sok _ (ax l))) ?_)
  (exact cV (i+1) ω)
 obtain rfl:i=sp.length:=ω
 have w:fC (·.k) la 0=0:=rfl
 refine σE ?_
 refine lp0 la.length (λk=>[(5,fI (fC QF sp sp.length+fC (·.k) la k)),(26,bJ (ce .S la)),(27,fI la.length),(28,fN k)]) λk y=>?_
 have B:=mb (f:=(·.k)) (xs:=la) (b:=1000) e k y;by_cases n:k<la.length
 ·have g:=ar n
  have C:=e _ (ax n);have h:fC (·.k) la (k+1)=fC (·.k) la k+(nth la k).k:=rfl
  refine σE ?_
  (exact cV (k+1) ω)
 obtain rfl:k=la.length:=ω
 refine σE ?_
 rfl
def DZ(h:ac):zzA 71 false [.val (some 24) (ac.enc .S h)] .one [I (eQ h:Nat)]:=by
 refine fO 9 [] Tryz.func71 rfl ?_
 refine σP ?_
 rfl
def XN(f:cw h=true){z:Int}(b:k<h.J.length):(nth h.J k).Id=z↔bU (cM z) h.J=(k:Nat):=by
 constructor
 ·rintro rfl
  refine df (ar b) (by unfold cM;simp) λj y i c=>?_
  have a:=(C4.1 c).1;have:=Yi f a b ω;rw[br c]at this;unfold cM;exact C1 this
 intro e;rcases mq (cM z) h.J with g|⟨n,l,g,d⟩
 ·omega
 obtain rfl:n=k:=ω
 unfold cM at d;simpa using d
def Vb(h:ac)(z:Int):bU (cM z) h.J = -1\/∃n:Nat,n<h.J.length/\bU (cM z) h.J=(n:Nat):=by
 rcases mq (cM z) h.J with a|⟨n,b,a,-⟩
 ·exact .inl a
 exact .inr ⟨n,b,a⟩
def Gl(a:cw h=true)(b:i<h.J.length):0<=(nth h.J i).Addr/\(nth h.J i).Addr<=2000/\1<=(nth h.J i).k/\(nth h.J i).k<=1000:=by
 obtain⟨g,j,c,d,e,f,-⟩:=zB a b;exact⟨c,d,e,f⟩
def nS(h:ac)(k:Nat):List Int:=cellsOf h.G (nth h.J k).Addr (nth h.J k).k.toNat
def H8(a:cw h=true)(b:k<h.J.length):(nS h k).length<=1000:=by
 have:=Gl a b;unfold nS;rw[iW];omega
def Vm{r:aS}(e:bU (cM r.Id) h.J = -1):Dg h r=false:=by unfold Dg;rw[e];rfl
def JR{r:aS}(e:bU (cM r.Id) h.J=(n:Nat)):Dg h r=decide (nS h n=r.T):=by
 unfold Dg nS;rw[e,t5,O0 (show(0:Int)<=(n:Nat) by omega)];rfl
def qZ(o:bg)(z:Int):zzA 89 false [.val (some 4) (bg.enc .S o),.ptr [I z]] .one [B (cM z o)]:=by
 refine fO 8 [] Tryz.func89 rfl ?_
 refine σP ?_
 exact bZ ((by unfold cM;rw[C9];simp))
def yX(h:ac)(z:Int)(n:Nat)(b:ac.sml h)(a:cw h=true)(c:n<h.J.length)(g:bU (cM z) h.J=(n:Nat)):zzA 28 false [.val (some 24) (ac.enc .S h),.vI z] (.tup [none,none]) [.s .own ((nS h n).map (rI .own)),B true]:=by
 have d:=cJ h b;rw[dM,a]at d;have i:h.J.length<=1048576:=b.2.2.2.2.1.1;have p:=Gl a c;have j:=HU h (nth h.J n).Addr (nth h.J n).k (Ji a) ω ω;have l:=ar c;have e:=gL h.J (cM z) ω;rw[g]at e;refine fO 32 [(4,13,[18,19,20,21,22,23,24,25,26,27,28,29,30])] Tryz.func28 rfl ?_ (.inr ⟨⟨.inl λh=>(by cases h),bm _ _ λy _=>rR y⟩,tV1,tV1⟩)
 repeat'(first|refine gE ?_|refine Ce (mC (some 4) (bg.enc .S) (cM z) h.J) (qZ default z).has (λL k rcs o=>?_) ?_)
 ·obtain⟨y,-,rfl,rfl,rfl⟩:=o
  exact qZ y z
 rfl
def Ma(h:ac)(z:Int)(b:ac.sml h)(c:bU (cM z) h.J = -1):zzA 28 false [.val (some 24) (ac.enc .S h),.vI z] (.tup [none,none]) [.s .own [],B false]:=by
 have d:h.J.length<=1048576:=b.2.2.2.2.1.1;have a:=gL h.J (cM z) ω;rw[c]at a;refine fO 32 [(4,13,[18,19,20,21,22,23,24,25,26,27,28,29,30])] Tryz.func28 rfl ?_ (.inr ⟨⟨.inl λh=>(by cases h),tV1⟩,tV1,tV1⟩)
 repeat'((conv=>whnf);first|with_reducible (first|refine Lm ?_|refine Wm ω ?_|refine dT ω (λg=>?_)|refine Bn ?_|refine j8.wk rfl ?_)|refine Bt ?_|refine Bu ?_|refine Ce (mC (some 4) (bg.enc .S) (cM z) h.J) (qZ default z).has (λL k rcs e=>?_) ?_|refine CG (a) ?_)
 ·obtain⟨y,-,rfl,rfl,rfl⟩:=e
  exact qZ y z
 exact⟨rfl,rfl,tV1⟩
def y9(a:cw h=true)(h1:h.b=r.b)(h2:h.J.length=r.J.length):jm h r=dq r.J.length λi=>Dg h (nth r.J i):=by
 unfold jm;rw[a,O0 ⟨h1,h2⟩];rfl
def Hf(h:ac)(r:aA)(d:ac.sml h)(y:aA.sml r):zzA 123 false [.val (some 24) (ac.enc .S h),.val (some 2) (aA.enc .S r)] .one [B (jm h r)]:=by
 have b:=cJ h d;rw[dM]at b;have C:h.J.length<=1048576:=d.2.2.2.2.1.1;have D:r.J.length<=1048576:=y.1;cases c:cw h<;>rw[c]at b
 ·refine fO 52 [] Tryz.func123 rfl ?_
  refine σP ?_
  exact bZ ((by unfold jm;rw[c];rfl))
 by_cases p:h.b=r.b
 case neg=>
  refine fO 52 [] Tryz.func123 rfl ?_
  refine σB ?_
  exact bZ ((by unfold jm;rw[C1 λh=>p h.1];simp))
 by_cases q:h.J.length=r.J.length
 case neg=>
  refine fO 52 [] Tryz.func123 rfl ?_
  refine σB ?_
  exact bZ ((by unfold jm;rw[C1 λh=>q h.2];simp))
 rw[y9 c p q];refine fO 52 [] Tryz.func123 rfl ?_
 refine σB ?_
 refine gK r.J.length (λi=>[(2,bB (ac.enc .S h)),(29,bJ (RP .S r.J)),(30,fI r.J.length),(31,fN i)]) (λi=>dq i (λi=>Dg h (nth r.J i))=true) rfl λi t=>?_
 obtain⟨t,u⟩:=t;by_cases j:i<r.J.length
 ·have k:=ar j
  rcases Vb h (nth r.J i).Id with e|⟨n,l,e⟩
  ·have o:=Vm (r:=nth r.J i) e
   repeat'(first|refine gE ?_|refine CG (Ma h (nth r.J i).Id d e) ?_)
   exact bZ ((cC j o).symm)
  have a:=JR (r:=nth r.J i) e;have E:=H8 c l;have g:=Ny (nS h n) (nth r.J i).T ω;by_cases w:nS h n=(nth r.J i).T
  ·rw[O0 w]at a g
   repeat'(first|refine gE ?_|refine CG (yX h (nth r.J i).Id n d c l e) ?_|refine CN (g) ⟨⟨rfl,cR _⟩,⟨rfl,rfl⟩,tV1⟩ ?_)
   (exact cV (i+1) ⟨ω,bF u a⟩)
  rw[C1 w]at a g
  repeat'(first|refine gE ?_|refine CG (yX h (nth r.J i).Id n d c l e) ?_|refine CN (g) ⟨⟨rfl,cR _⟩,⟨rfl,rfl⟩,tV1⟩ ?_)
  exact bZ ((cC j a).symm)
 obtain rfl:i=r.J.length:=ω
 refine σE ?_
 exact bZ (u.symm)
def nq(a:Int)(o:bg):Bool:=decide (o.Addr=a)
def Xs(a:Int)(l:List Int):Bool:=decide (a∈l)
def lg(a:Int)(c:aE):Bool:=c.Y.any (Xs a)
def F4(o:bg)(a:Int):zzA 252 false [.val (some 4) (bg.enc .S o),.ptr [I a]] .one [B (nq a o)]:=by
 refine fO 8 [] Tryz.func252 rfl ?_
 refine σP ?_
 exact bZ ((by unfold nq;rw[C9];simp))
def Lv(h:ac)(a:Int)(c:h.J.length<=1048576):zzA 97 false [.val (some 24) (ac.enc .S h),.vI a] .one [I (bU (nq a) h.J)]:=by
 refine fO 9 [] Tryz.func97 rfl ?_
 repeat'(first|refine gP ?_|refine Ce (mC (some 4) (bg.enc .S) (nq a) h.J) (F4 default a).has (λL k rcs b=>?_) ?_|refine CG (gL h.J (nq a) ω) ?_)
 ·obtain⟨y,-,rfl,rfl,rfl⟩:=b
  exact F4 y a
 rfl
def Hs(q:bv)(a:Int)(b:q.y.length<=1048576):zzA 286 false [.val (some 2) (bv.enc .S q),.vI a] .one [B (q.y.any (eL a))]:=by
 refine fO 9 [] Tryz.func286 rfl ?_
 repeat'(first|refine gP ?_|refine CG (tP q.y a ω) ?_)
 rfl
def BT(xs:List (List Int))(pr:List Int->Bool)(g:xs.length<=9223372036854775807):zzA 531 false [.val none (iR .S xs),.fn (l9 Tryz.prog (mC none (aF .S) pr xs))] .one [I (bU pr xs)]:=by
 refine fO 19 [] Tryz.func531 rfl ?_
 refine σP ?_
 refine gK xs.length (λi=>[(0,bJ (iR .S xs)),(1,.fv (l9 Tryz.prog (mC none (aF .S) pr xs))),(7,fI xs.length),(8,fN i)]) (λi=>∀(j:Nat)(z:List Int),j<i->xs[j]? = some z->pr z=false) (λj z h=>ω) λi d=>?_
 obtain⟨d,b⟩:=d;by_cases c:i<xs.length
 ·obtain⟨y,a⟩ : ∃y,xs[i]? = some y:=⟨_,z4 c⟩
  repeat'(first|refine gE ?_|refine Fv.mk (k:=.one) (rcs:=[B (pr y)]) ⟨y,t4 a,rfl,rfl,rfl⟩ ?_|refine Bf.P (λe=>?_) (λe=>?_))
  ·exact nO (df a ‹_› b).symm
  (conv=>whnf)
  exact cV (i+1) ⟨ω,fh a (by assumption) b⟩
 refine σE ?_
 exact nO (eY ω b).symm
def vw(xs:List (List Int))(pr:List Int->Bool)(a:xs.length<=9223372036854775807):zzA 433 false [.val none (iR .S xs),.fn (l9 Tryz.prog (mC none (aF .S) pr xs))] .one [B (xs.any pr)]:=by
 refine fO 9 [] Tryz.func433 rfl ?_
 repeat'(first|refine gP ?_|refine CG (BT xs pr a) ?_)
 exact bZ (iD pr xs)
def zx(xs:List aE)(pr:aE->Bool)(g:xs.length<=9223372036854775807):zzA 432 false [.val none (kQ .S xs),.fn (l9 Tryz.prog (mC (some 1) (aE.enc .S) pr xs))] .one [I (bU pr xs)]:=by
 refine fO 19 [] Tryz.func432 rfl ?_
 refine σP ?_
 refine gK xs.length (λi=>[(0,bJ (kQ .S xs)),(1,.fv (l9 Tryz.prog (mC (some 1) (aE.enc .S) pr xs))),(7,fI xs.length),(8,fN i)]) (λi=>∀(j:Nat)(z:aE),j<i->xs[j]? = some z->pr z=false) (λj z h=>ω) λi d=>?_
 obtain⟨d,b⟩:=d;by_cases c:i<xs.length
 ·obtain⟨y,a⟩ : ∃y,xs[i]? = some y:=⟨_,z4 c⟩
  repeat'(first|refine gE ?_|refine Fv.mk (k:=.one) (rcs:=[B (pr y)]) ⟨y,t4 a,rfl,rfl,rfl⟩ ?_|refine Bf.P (λe=>?_) (λe=>?_))
  ·exact nO (df a ‹_› b).symm
  (conv=>whnf)
  exact cV (i+1) ⟨ω,fh a (by assumption) b⟩
 refine σE ?_
 exact nO (eY ω b).symm
def uB(xs:List aE)(pr:aE->Bool)(a:xs.length<=9223372036854775807):zzA 283 false [.val none (kQ .S xs),.fn (l9 Tryz.prog (mC (some 1) (aE.enc .S) pr xs))] .one [B (xs.any pr)]:=by
 refine fO 9 [] Tryz.func283 rfl ?_
 repeat'(first|refine gP ?_|refine CG (zx xs pr a) ?_)
 exact bZ (iD pr xs)
def yB(l:List Int)(a:Int)(b:l.length<=1048576):zzA 434 false [.val none (aF .S l),.ptr [I a]] .one [B (Xs a l)]:=by
 refine fO 7 [] Tryz.func434 rfl ?_
 repeat'(first|refine gP ?_|refine CG (oe l a ω) ?_)
 rfl
def Ec(c:aE)(a:Int)(b:aE.sml c):zzA 285 false [.val (some 1) (aE.enc .S c),.vI a] .one [B (lg a c)]:=by
 have g:=b.1;refine fO 9 [] Tryz.func285 rfl ?_
 repeat'(first|refine gP ?_|refine Ce (mC none (aF .S) (Xs a) c.Y) (yB [] a (I1 _)).has (λL k rcs d=>?_) ?_|refine CG (vw c.Y (Xs a) ω) ?_)
 ·obtain⟨y,e,rfl,rfl,rfl⟩:=d
  exact yB y a (b.2 y e)
 rfl
def mg(c:aE)(a:Int)(b:aE.sml c):zzA 284 false [.val (some 1) (aE.enc .S c),.ptr [I a]] .one [B (lg a c)]:=by
 refine fO 7 [] Tryz.func284 rfl ?_
 repeat'(first|refine gP ?_|refine CG (Ec c a b) ?_)
 rfl
def Wg(f:cw h=true)(d:a∈kR h.K h.H)(h1:bU (nq a) h.J<0)(h2:h.R.any (lg a)=false)(g:h.a7.y.any (eL a)=false):a∈aL h.w:=by
 obtain⟨-,i,-⟩:=ku f;have j:=nu.of i;have k:a∈kF h.K h.H:=by
  unfold kR sorted at d;rw[List.mem_mergeSort,Kk j]at d;exact d
 have b:=QR f k;unfold holders at b;simp only[z5]at b;rcases b with((b|b)|b)|b
 ·obtain⟨o,n,rfl⟩:=O8.1 b
  have e:=iD (nq o.Addr) h.J;rw[C1 ω]at e;have:=List.any_eq_false.1 e.symm o n;unfold nq at this;simp at this
 ·unfold cU at b
  obtain⟨c,p,b⟩:=List.mem_flatMap.1 b;obtain⟨l,r,b⟩:=List.mem_flatten.1 b;have e:=List.any_eq_false.1 h2 c p;exact absurd (I7.2 ⟨l,r,O0 b⟩) e
 ·obtain⟨q,t,rfl⟩:=O8.1 b
  have e:=List.any_eq_false.1 g q t;unfold eL at e;simp at e
 exact b
def MY(h:ac)(E:ac.sml h)(B:cw h=true):zzA 124 false [.val (some 24) (ac.enc .S h)] .one (aF .own []):=by
 obtain⟨-,F,-,-,G,-⟩:=ku B;have H:=ni G;obtain⟨-,-,l,n,⟨q,-⟩,⟨J,b⟩,r,t,-⟩:=E;have u:h.a7.y.length<=1048576:=t.1;have K:=rO h.K h.H l n F;have M:=Fb l.1 n.1;refine fO 53 [] Tryz.func124 rfl ?_ (.inr (bC _))
 repeat'(first|refine gP ?_|refine CG (pE h.w r) ?_)
 refine lp0 ((kR h.K h.H).length) (λi=>[(1,bB (ac.enc .S h)),(3,bJ (aF .own [])),(4,bJ (aF .own (aL h.w))),(16,bJ (aF .own (kR h.K h.H))),(17,fI ((kR h.K h.H).length)),(18,fN i)]) λi R=>?_
 by_cases C:i<(kR h.K h.H).length
 ·have c:=ar C
  have d:=Wg B (ax C);generalize nth (kR h.K h.H) i=a at c d;have p:=Lv h a q;have o:=uB h.R (lg a) ω;have w:=Hs h.a7 a u;have D:=oe (aL h.w) a ω;by_cases N:bU (nq a) h.J<0
  ·cases O:h.R.any (lg a)<;>rw[O]at o d
   ·cases P:h.a7.y.any (eL a)<;>rw[P]at w d
    ·rw[O0 (d N rfl rfl)]at D
     repeat'(first|refine gE ?_|refine Ce (mC (some 1) (aE.enc .S) (lg a) h.R) (mg default a ⟨I1 _,λ_ e=>by cases e⟩).has (λL k rcs g=>?_) ?_|refine CN (D) ⟨⟨rfl,cR _⟩,⟨rfl,rfl⟩,tV1⟩ ?_)
     ·obtain⟨y,j,rfl,rfl,rfl⟩:=g
      exact mg y a (b y j)
     ((conv=>whnf);exact cV (i+1) ω)
    repeat'(first|refine gE ?_|refine Ce (mC (some 1) (aE.enc .S) (lg a) h.R) (mg default a ⟨I1 _,λ_ e=>by cases e⟩).has (λL k rcs g=>?_) ?_)
    ·obtain⟨y,j,rfl,rfl,rfl⟩:=g
     exact mg y a (b y j)
    ((conv=>whnf);exact cV (i+1) ω)
   repeat'(first|refine gE ?_|refine Ce (mC (some 1) (aE.enc .S) (lg a) h.R) (mg default a ⟨I1 _,λ_ e=>by cases e⟩).has (λL k rcs g=>?_) ?_)
   ·obtain⟨y,j,rfl,rfl,rfl⟩:=g
    exact mg y a (b y j)
   ((conv=>whnf);exact cV (i+1) ω)
  repeat'(first|refine gE ?_|refine gS (λQ=>?_) (λQ=>?_)|refine Ce (mC (some 1) (aE.enc .S) (lg a) h.R) (mg default a ⟨I1 _,λ_ e=>by cases e⟩).has (λL k rcs g=>?_) ?_)
  ·obtain⟨y,j,rfl,rfl,rfl⟩:=g
   exact mg y a (b y j)
  ((conv=>whnf);exact cV (i+1) ω)
 obtain rfl:i=(kR h.K h.H).length:=ω
 refine σE ?_
 rfl
def zq(c:aE)(e:aE.sml c):zzA 290 false [.val (some 1) (aE.enc .S c)] .one [I (dn c)]:=by
 have r:=e.1;cases d:bx c with
 | false=>
  have a:=kL c e;rw[d]at a;refine fO 26 [] Tryz.func290 rfl ?_
  refine σP ?_
  exact nO (by unfold dn;rw[d];rfl)
 | true=>
  obtain⟨o,g⟩:=oG d;have a:=kL c e;rw[d]at a;refine fO 26 [] Tryz.func290 rfl ?_
  refine σP ?_
  refine gK c.Y.length (λi=>[(1,bB (aE.enc .S c)),(3,fI (dY 0 (c.Y.take i))),(10,bJ (iR .S c.Y)),(11,fI c.Y.length),(12,fN i)]) (λi=>0<=dY 0 (c.Y.take i)/\dY 0 (c.Y.take i)<=64*(i:Nat)) ⟨by simp[dY],by simp[dY]⟩ λi k=>?_
  obtain⟨k,p,q⟩:=k;by_cases h:i<c.Y.length
  ·obtain⟨l,b⟩ : ∃l,c.Y[i]? = some l:=⟨_,z4 h⟩
   have j:=g l (t4 b);have n:=UT i;have t:=P3 j n.1 n.2
   repeat'(first|refine gE ?_|refine CG (cq (i:Nat)) ?_)
   refine CR (i+1) ⟨ω,by rw[pq b];omega,by rw[pq b];omega⟩ ω ?_;rw[pq b];exact wB
  refine σE ?_
  rw[CF ω];exact nO (by unfold dn;rw[d];rfl)
def ww(a:fW):List Int:=[a.a1,a.c6,a.V,a.c9,a.d0,a.c5,a.b6,a.c7]
def AZ(a:fW)(i:Nat):Bool:=decide (0<=nth (ww a) i/\nth (ww a) i<=100000)
def Qz(a:fW):dq (ww a).length (AZ a)=true↔(0<=a.a1/\a.a1<=100000)/\(0<=a.c6/\a.c6<=100000)/\(0<=a.V/\a.V<=100000)/\(0<=a.c9/\a.c9<=100000)/\(0<=a.d0/\a.d0<=100000)/\(0<=a.c5/\a.c5<=100000)/\(0<=a.b6/\a.b6<=100000)/\(0<=a.c7/\a.c7<=100000):=by
 rw[cK];constructor
 ·intro h
  have f:∀i,i<8->0<=nth (ww a) i/\nth (ww a) i<=100000:=λi b=>by simpa[AZ] using h i b
  exact⟨f 0 ω,f 1 ω,f 2 ω,f 3 ω,f 4 ω,f 5 ω,f 6 ω,f 7 ω⟩
 rintro⟨d,e,g,j,k,l,n,o⟩ i b
 have c:i<8:=b;unfold AZ;rw[C0];obtain rfl|rfl|rfl|rfl|rfl|rfl|rfl|rfl:i=0\/i=1\/i=2\/i=3\/i=4\/i=5\/i=6\/i=7:=ω
 all_goals assumption
def MF{a:fW}(h:dq (ww a).length (AZ a)=false):lW a=false:=by
 unfold lW;refine C1 λe=>?_
 have:=(Qz a).2 ⟨e.1,e.2.1,e.2.2.1,e.2.2.2.1,e.2.2.2.2.1,e.2.2.2.2.2.1,e.2.2.2.2.2.2.1,e.2.2.2.2.2.2.2.1⟩;rw[h]at this;cases this
def xn(a:fW):zzA 125 false [.val (some 8) (fW.enc .S a)] .one [B (lW a)]:=by
 have j:(ww a).length=8:=rfl;refine fO 59 [] Tryz.func125 rfl ?_
 repeat'(first|refine gP ?_|refine Ln.mk (show List.length _=8 from rfl) ?_)
 refine gK ((ww a).length) (λi=>[(1,bB (fW.enc .S a)),(21,bJ (aF .own (ww a))),(22,fI 8),(23,fN i)]) (λi=>dq i (AZ a)=true) rfl λi d=>?_
 obtain⟨d,g⟩:=d;by_cases h:i<(ww a).length
 ·have b:=ar h
  have c:=aK (nth (ww a) i) 0 100000;rw[show decide (0<=nth (ww a) i/\nth (ww a) i<=100000)=AZ a i from rfl]at c;cases e:AZ a i<;>rw[e]at c
  ·refine σE ?_
   exact bZ ((MF (cC h e)).symm)
  refine σE ?_
  (exact cV (i+1) ⟨ω,bF g e⟩)
 obtain rfl:i=(ww a).length:=ω
 have l:=(Qz a).1 g
 repeat'(first|refine gE ?_|refine gS (λk=>?_) (λk=>?_)|fail)
 all_goals exact bZ ((by unfold lW;first|(symm;exact C1 ω)|(symm;exact O0 ω)|exact decide_eq_decide.2 ω))
def Lr{o:bg}(h:0<=aN o.k):fD o=csz (aN o.k):=by unfold fD;rw[CL h]
def MK{o:bg}(h:¬0<=aN o.k):fD o=o.k:=by unfold fD;rw[CJ h]
def AD(h:ac)(F:ac.sml h)(l:cw h=true):zzA 126 false [.val (some 24) (ac.enc .S h)] .agg (fW.enc .own (dw h)):=by
 have cH:=cJ h F;rw[dM,l]at cH;obtain⟨k1,P,-,-,G,⟨k6,k6b⟩,-⟩:=ku l;have R:=qP G;have S:=ni G;have u:=Bz l;have w:=NW l;obtain⟨n,-,o,p,⟨T,-⟩,⟨V,q⟩,y,r,-⟩:=F;have W:h.a7.y.length<=1048576:=r.1;have H:=xW h.G.F.O n.1.2;have J:=zl h.G.F.V n.1.1;have K:=BR h.K h.H o p P;have N:=nX h.a7.y r;have X:=pE h.w y;have Y:fC fD h.J 0=0:=rfl;have Z:fC dn h.R 0=0:=rfl;have hp0:fC (fZ h) (aL h.w) 0=0:=rfl;generalize hM:io h.G.F.O=M at H;generalize hU:fU h.G.F.V=U at J;generalize hL:ny h.K h.H=L at K;generalize hQ:quarCells h.a7.y h.a7.y.length=Q at N;refine fO 103 [(3,23,[15,16,17,18,19,20,21,22,23,24,25,26,27,28,29,30,31,32,33,34,35,36,3]),(9,4,[49,50,51,52]),(15,4,[69,70,71,72]),(20,15,[84,85,86,87,88,89,90,91,92,93,94,95,96,97,98])] Tryz.func126 rfl ?_ (.inr (fW.enc_fr _))
 repeat'(first|refine gP ?_|refine CG (DZ h) ?_)
 refine lp0 h.J.length (λi=>[(1,bB (ac.enc .S h)),(2,bB ([I 0,I 0,I 0,I 0,I 0,I 0,I 0,I 0])),(3,bB ([I (eQ h:Nat),I M,I U,I L,I (fC fD h.J i),I 0,I Q,I 0])),(38,bJ (pG .S h.J)),(39,fI h.J.length),(40,fN i)]) λi t=>?_
 have hb:=mb (f:=fD) (xs:=h.J) (b:=1000) w i t;by_cases g:i<h.J.length
 ·have k:=ar g
  have hsz:=u _ (ax g);have d:fC fD h.J (i+1)=fC fD h.J i+fD (nth h.J i):=rfl;have B:=xA (aN (nth h.J i).k);by_cases e:0<=aN (nth h.J i).k
  ·rw[Lr e]at d
   repeat'(first|refine gE ?_|refine CG (jg _) ?_|refine CG (cq _) ?_)
   (exact cV (i+1) ω)
  rw[MK e]at d
  repeat'(first|refine gE ?_|refine gS (λhq=>?_) (λhq=>?_)|refine CG (jg _) ?_)
  (exact cV (i+1) ω)
 obtain rfl:i=h.J.length:=ω
 generalize hO:fC fD h.J h.J.length=O at hb
 refine σE ?_
 refine lp0 h.R.length (λi=>[(1,bB (ac.enc .S h)),(2,bB ([I 0,I 0,I 0,I 0,I 0,I 0,I 0,I 0])),(3,bB ([I (eQ h:Nat),I M,I U,I L,I O,I (fC dn h.R i),I Q,I 0])),(63,bJ (kQ .S h.R)),(64,fI h.R.length),(65,fN i)]) λi t=>?_
 have C:=mb (f:=dn) (xs:=h.R) (b:=256) (λc _=>tY c) i t;by_cases g:i<h.R.length
 ·have k:=ar g
  have hcb:=tY (nth h.R i);have d:fC dn h.R (i+1)=fC dn h.R i+dn (nth h.R i):=rfl
  repeat'(first|refine gE ?_|refine CG (zq (nth h.R i) (q _ (ax g))) ?_)
  (exact cV (i+1) ω)
 obtain rfl:i=h.R.length:=ω
 generalize hC:fC dn h.R h.R.length=CC at C
 refine σE ?_
 refine lp0 ((aL h.w).length) (λi=>[(1,bB (ac.enc .S h)),(2,bB ([I 0,I 0,I 0,I 0,I 0,I 0,I 0,I 0])),(3,bB ([I (eQ h:Nat),I M,I U,I L,I O,I CC,I Q,I (fC (fZ h) (aL h.w) i)])),(78,bJ (aF .own (aL h.w))),(79,fI ((aL h.w).length)),(80,fN i)]) λi t=>?_
 have hb3:=mb (f:=fZ h) (xs:=aL h.w) (b:=8) (λa _=>xA _) i t;by_cases g:i<(aL h.w).length
 ·have k:=ar g
  obtain⟨j,hj,D,E,ha0,ha1⟩:=Yj l (ax g);have d:fC (fZ h) (aL h.w) (i+1)=fC (fZ h) (aL h.w) i+fZ h (nth (aL h.w) i):=rfl;rw[show fZ h (nth (aL h.w) i)=csz (nth h.K j).d by unfold fZ;rw[E,t5]]at d;have hy:h.K[(denotes h.K h.H (nth (aL h.w) i)).c3.toNat]? = some (nth h.K j):=by rw[D,t5];exact ar hj
  have B:=xA (nth h.K j).d
  repeat'(first|refine gE ?_|refine CG (kT h.K h.H (nth (aL h.w) i) o p) ?_|refine CQ ω (aa hy) ?_|refine CG (cq _) ?_)
  (exact cV (i+1) ω)
 obtain rfl:i=(aL h.w).length:=ω
 refine σE ?_
 unfold dw;rw[hM,hU,hL,hO,hC,hQ]
 rfl
def or64{z1 z2:Int}(h1:0<=z1/\z1<=65535)(h2:0<=z2/\z2<=65535):IntKind.i64.wrap ((BitVec.ofInt IntKind.i64.bits z1 ||| BitVec.ofInt IntKind.i64.bits z2).toNat:Nat)=bor z1 z2:=by
 rw[BitVec.toNat_or,sR ω,sR ω];have a:=Ng h1 h2;unfold bor at a |-;exact gf ω ω
def Ee(h:ac)(i:Nat)(n:eN h.K)(d:wu h)(a:∀s∈h.K,bk s=true)(y:i<h.K.length):zzA 479 false [.val (some 24) (ac.enc .S h),.vI (i:Nat)] .one [I (f6 h i)]:=by
 have F:=n.1;have G:=ar y;have g:=oU a y;have B:=aQ ((i:Nat):Int) 0 ((h.K.length:Int) - 1);rw[O0 (show(0:Int)<=(i:Nat)/\((i:Nat):Int)<=(h.K.length:Int) - 1 by omega)]at B;have C:=jM h (nth h.K i).Q d;have o:=gh h (nth h.K i).Q;have H:eQ h<=1048576:=d.1;have c:f6 h i=jK h.K (aX h (nth h.K i).Q) (nth h.K i).a9 (aX h (nth h.K i).Q).length:=rfl;obtain⟨ps,q⟩ : ∃ps,aX h (nth h.K i).Q=ps:=⟨_,rfl⟩
 obtain⟨b,r⟩ : ∃b,(nth h.K i).a9=b:=⟨_,rfl⟩
 rw[q]at C o c;rw[r]at c g;rw[c];have J:jK h.K ps b 0=b:=rfl;refine fO 63 [(4,7,[22,23,24,25,26,27,28]),(11,10,[43,44,45,46,47,48,49,50,51,52])] Tryz.func479 rfl ?_
 refine σP ?_
 refine lp0 ps.length (λu=>[(2,bB (ac.enc .S h)),(5,fI (jK h.K ps b u)),(6,bJ (aF .own ps)),(7,fN u)]) λu M=>?_
 by_cases K:u<ps.length
 ·have l:=ar K
  have t:=oh a (ps:=ps) g u
  refine σE ?_
  refine lp0 h.K.length (λj=>[(2,bB (ac.enc .S h)),(5,fI (sE h.K (nth ps u) (jK h.K ps b u) j)),(6,bJ (aF .own ps)),(7,fN u),(8,fN j)]) λj L=>?_
  by_cases D:j<h.K.length
  ·have E:=ar D
   have w:=z7 a (p:=nth ps u) t j L;by_cases e:(nth h.K j).Q=nth ps u
   ·have k:sE h.K (nth ps u) (jK h.K ps b u) (j+1)=bor (sE h.K (nth ps u) (jK h.K ps b u) j) (nth h.K j).a9:=CL e
    repeat'(first|refine gB ?_|refine CS (or64 w (oU a D)) ?_)
    (exact cV (j+1) ω)
   have k:sE h.K (nth ps u) (jK h.K ps b u) (j+1)=sE h.K (nth ps u) (jK h.K ps b u) j:=CJ e
   refine σB ?_
   (exact cV (j+1) ω)
  obtain rfl:j=h.K.length:=ω
  refine σE ?_
  (exact cV (u+1) ω)
 obtain rfl:u=ps.length:=ω
 refine σE ?_
 rfl
def pW{xs:List bg}(h:∀o∈xs,0<=o.k/\o.k<=1000):∀k:Nat,k<=xs.length->0<=uK xs k/\uK xs k<=1000*k
 | 0,_=>⟨O9 _,O9 _⟩
 | k+1,a=>by
  have b:=pW h k ω;have c:=h _ (ax (xs:=xs) (i:=k) ω);simp only[uK];omega
def DO(h:ac)(a:∀o∈h.J,0<=o.k/\o.k<=1000)(e:h.J.length<=1048576):zzA 19 false [.val (some 24) (ac.enc .S h)] .one [I (pB h)]:=by
 refine fO 21 [] Tryz.func19 rfl ?_
 refine σP ?_
 refine lp0 h.J.length (λk=>[(1,bB (ac.enc .S h)),(3,fI (uK h.J k)),(4,fN k)]) λk c=>?_
 have g:=pW a k c;by_cases b:k<h.J.length
 ·have d:=ar b
  have i:=a _ (ax b)
  refine σE ?_
  (exact cV (k+1) ω)
 obtain rfl:k=h.J.length:=ω
 refine σE ?_
 rfl
def D5(k b:Int)(h:b<=9223372036854775807):zzA 478 false [.vI (slots k),.vI b] .one (aF .own (qF k b)):=by
 have c:=uh k b;have p:0<=slots k/\slots k<=16:=by unfold slots;repeat' split<;>omega
 unfold qF;cases e:Rf k b<;>rw[e]at c
 ·rw[CJ (by simp)]
  refine fO 27 [] Tryz.func478 rfl ?_ (.inr (bC _))
  refine σP ?_
  refine mD (λj:Nat=>[(0,fI (slots k)),(1,fI b),(5,bJ (aF .own [])),(6,fN j)]) (λj=>j=0) (λj=>1 - j) (0) (rfl) λj g=>?_
  subst g
  repeat'(first|refine gE ?_|refine gS (λi=>?_) (λi=>?_)|fail)
  all_goals rfl
 rw[CL rfl];refine fO 27 [] Tryz.func478 rfl ?_ (.inr (bC _))
 refine σP ?_
 refine lp0 ((slots k).toNat) (λj=>[(0,fI (slots k)),(1,fI b),(5,bJ (aF .own (nU b j))),(6,fN j)]) λj g=>?_
 have l:=td b j;by_cases q:j<(slots k).toNat
 ·have d:=jt b (j:Nat) h
  have a:nU b (j+1)=if bc b (j:Nat)=true then nU b j else nU b j++[((j:Nat):Int)]:=rfl
  cases n:bc b (j:Nat)<;>rw[n]at d a
  ·rw[CJ (by simp)]at a
   repeat'(first|refine gE ?_|refine Ca cA (λr o=>by rw[z3.1 o];rfl) (by simp[bp,eO]) jp (by simp only[I2];exact vm jp qs) rfl ?_)
   (refine CR (j+1) ω ω ?_)
   rw[a]
   repeat'(first|exact tV1|rfl|exact CV rfl (CV (O1 (C.s fE.own) (by simp[rI])) tV1)|refine CV ?_ ?_|(exact Ui (by first|omega|(simp only;omega)|(simp;omega))))
  rw[CL rfl]at a
  refine σE ?_
  (refine CR (j+1) ω ω ?_)
  rw[a];exact wB
 obtain rfl:j=(slots k).toNat:=ω
 refine σE ?_
 rfl
def Gd(b i:Int):bor b (2 ^ i.toNat)=iP b i:=by
 unfold bor iP;have:((2 ^ i.toNat:Nat):Int)=(2:Int) ^ i.toNat:=Int.natCast_pow 2 i.toNat;rw[<-this,t5]
def Ed(b i:Int)(d:0<=b/\b<=65535)(a:0<=i/\i<=15):zzA 481 false [.vI b,.vI i] .one [I (iP b i)]:=by
 have c:=sU b i;rw[O0 ω]at c;have e:IntKind.u64.wrap i=i:=by unfold IntKind.wrap;simp[IntKind.signed,IntKind.bits];omega
 have h:=(shl64 a).2;have g:=(or64 (z1:=b) (z2:=2 ^ i.toNat) d ω).trans (Gd b i);refine fO 15 [] Tryz.func481 rfl ?_
 repeat'(first|refine gP ?_|refine CT ω ?_|refine CS e ?_|refine CS (shl64 a).1 ?_|refine CS g ?_)
 rfl
def Ux{s:aB}(b:bk s=true){k:Int}(d:0<=k/\k<slots s.d):0<=k*csz s.d/\k*csz s.d<=15:=by
 have a:=aJ b;have c:=iE a.2.2;rcases bT a.2.2 with e|e|e|e<;>rw[e]at c |-<;>omega
def Ef(s:aB)(k:Int)(a:bk s=true)(d:0<=k/\k<slots s.d):zzA 482 false [.val (some 3) (aB.enc .S s),.vI k] .one [I (16*s.Q+k*csz s.d)]:=by
 have e:=aJ a;have i:=Ux a d;have j:=iE e.2.2;have b:=im s;rw[a]at b;have g:=rc s.d;have c:=aQ k 0 (slots s.d - 1);rw[O0 ω]at c;have h:=ef s.d;refine fO 26 [(3,8,[17,18,19,20,21,22,23,24])] Tryz.func482 rfl ?_
 refine σP ?_
 exact nO ω
def HC(f:aZ)(g:f.a6.length<=1048576):zzA 483 false [.val (some 2) (aZ.enc .S f)] .one [I (bU (λu=>!u) f.a6)]:=by
 refine fO 18 [] Tryz.func483 rfl ?_
 refine σP ?_
 refine gK f.a6.length (λi=>[(1,bB (aZ.enc .S f)),(3,fN i)]) (λi=>∀(j:Nat)(z:Bool),j<i->f.a6[j]? = some z->(!z)=false) (λj z h=>ω) λi c=>?_
 obtain⟨c,b⟩:=c;by_cases d:i<f.a6.length
 ·have a:=ar d
  cases e:nth f.a6 i<;>rw[e]at a
  ·refine σE ?_
   exact nO (df a rfl b).symm
  refine σE ?_
  (exact cV (i+1) ⟨ω,fh a rfl b⟩)
 refine σE ?_
 exact nO (eY ω b).symm
def qY(m:aP):∀(n i:Nat),i<n->((nth m.U i).length:Int)+(nth m.a0 i).length<=bQ m n/\0<=bQ m n
 | 0,i,h=>absurd h (Nat.not_lt_zero i)
 | n+1,i,h=>by
  have a:0<=bQ m n:=by
   cases n with
   | zero=>exact O9 _
   | succ k=>exact(qY m (k+1) 0 ω).2
  simp only[bQ];by_cases e:i=n
  ·subst e;omega
  have:=(qY m n i ω).1;omega
structure kS(m:aP):Prop where
 b4:1<=m.U.length/\m.U.length<=4
 i4:m.a0.length=m.U.length
 bl:∀i,i<m.U.length->(nth m.U i).length<=30
 il:∀i,i<m.U.length->(nth m.a0 i).length<=30
def kS.of{m:aP}(h:bG m=true):kS m:=by
 obtain⟨⟨b,c,d⟩,-,e⟩:=eC.1 h;exact⟨⟨b,c⟩,d,λi a=>by have:=(qY m m.U.length i a).1;omega,λi a=>by have:=(qY m m.U.length i a).1;omega⟩
def kS.sml{m:aP}(h:kS m):aP.sml m:=by
 have c:=h.b4;have d:=h.i4;refine⟨⟨ω,λl a=>?_⟩,⟨ω,λl a=>?_⟩⟩
 ·obtain⟨i,b,rfl⟩:=aW a
  have:=h.bl i b;exact⟨ω,λ_ _=>tV1⟩
 obtain⟨i,b,rfl⟩:=aW a;have:=h.il i ω;show(nth m.a0 i).length<=1048576;omega
def vA(m:aP)(k:Int)(a:aP.sml m):zzA 520 false [.val (some 2) (aP.enc .S m),.vI k] .one [B (bG m&&decide (0<=k/\k<=m.U.length - 1))]:=by
 have b:=oT m a;have c:m.U.length<=1048576:=a.1.1;cases e:bG m<;>rw[e]at b
 all_goals
  refine fO 15 [] Tryz.func520 rfl ?_
  repeat'(first|refine gP ?_|refine CG (aQ k 0 (m.U.length - 1:Int)) ?_)
  all_goals rfl
def Wn{m:aP}(a:f<m.U.length):m.U[f]? = some (nth m.U f):=ar a
def xK(m:aP)(f:Nat)(p:dA):aP.enc .own (gF m f p)=[.s .own ((m.U.map (bP .own)).set f (bP .own (nth m.U f++[p]))),.s .own (m.a0.map (aF .own))]:=by simp[aP.enc,gF,SC]
def Fe{m:aP}(h:kS m)(c:f<m.U.length)(p:dA):aP.sml (gF m f p):=by
 have d:=h.b4;have b:=h.sml;refine⟨⟨by simp only[gF,C3];omega,λl a=>?_⟩,b.2⟩;rcases OD a with a|rfl
 ·exact b.1.2 l a
 have:=h.bl f c;exact⟨by simp;omega,λ_ _=>tV1⟩
def QP(m:aP)(f:Nat)(p:dA)(j:bG m=true)(g:f<m.U.length):zzA 512 false [.val (some 2) (aP.enc .S m),.vI (f:Nat),.val (some 2) (dA.enc .S p)] (.tup [some 2,none]) (aP.enc .own (if bG (gF m f p)=true then gF m f p else m)++[B (bG (gF m f p))]):=by
 have c:=kS.of j;have k:=c.sml;have q:=c.b4;have h:=vA m f k;rw[j,O0 ω]at h;have l:=iq m k;have b:=Fe c g p;have i:=oT (gF m f p) b;have n:=iq (gF m f p) b;have a:=Wn g;have o:=c.bl f g;have d:=Cu (gF m f p);rw[xK]at d;cases e:bG (gF m f p)<;>rw[e]at i
 ·rw[CJ (by simp)]
  refine fO 35 [(4,267,[16,17,18,19,20,21,22,23,24,25,27,0,1,2,3,4,5,6,7,8,9,10,1000,1001,1002,11,12])] Tryz.func512 rfl ?_ (.inr (aD (Ct _) ⟨tV1,tV1⟩))
  repeat'(first|refine gP ?_|refine CK (dt a) ?_|refine CM rfl (dt a) rfl ?_|refine Lq.one rfl rfl (aa a) rfl (O2 rfl) rfl rfl ?_|refine CU rfl rfl (dt a) rfl (O2 rfl) (show [C.s fE.own ((m.U.map (bP .own)).set f (bP .own (nth m.U f++[p]))),C.s .own (m.a0.map (aF .own))]=_ from by simp only[List.set_cons_zero,List.set_set,t5];rfl) ?_|refine Cf (aM λ_=>rfl) rfl jp qs (f8 _ _ _) ?_|refine CN (i) ⟨⟨rfl,d⟩,tV1⟩ ?_)
  rfl
 rw[CL rfl];refine fO 35 [(4,267,[16,17,18,19,20,21,22,23,24,25,27,0,1,2,3,4,5,6,7,8,9,10,1000,1001,1002,11,12])] Tryz.func512 rfl ?_ (.inr (aD (Ct _) ⟨tV1,tV1⟩))
 repeat'(first|refine gP ?_|refine CK (dt a) ?_|refine CM rfl (dt a) rfl ?_|refine Lq.one rfl rfl (aa a) rfl (O2 rfl) rfl rfl ?_|refine CU rfl rfl (dt a) rfl (O2 rfl) (show [C.s fE.own ((m.U.map (bP .own)).set f (bP .own (nth m.U f++[p]))),C.s .own (m.a0.map (aF .own))]=_ from by simp only[List.set_cons_zero,List.set_set,t5];rfl) ?_|refine Cf (aM λ_=>rfl) rfl jp qs (f8 _ _ _) ?_|refine CN (i) ⟨⟨rfl,d⟩,tV1⟩ ?_|refine CN (n) ⟨⟨rfl,d⟩,tV1⟩ ?_)
 rfl
def MG(m:aP)(f:Int)(a:bG m=true)(d:¬(0<=f/\f<=m.U.length - 1)):zzA 422 false [.val (some 2) (aP.enc .S m),.vI f] (.tup [some 2,none]) (aP.enc .own m++[B false]):=by
 have e:=kS.of a;have b:=e.sml;have c:=vA m f b;rw[a,C1 d]at c;have g:=iq m b;refine fO 60 [(5,267,[31,32,33,34,35,36,37,38,39,40,42,0,1,2,3,4,5,6,7,8,9,10,1000,1001,1002,11,12]),(6,270,[43,44,45,46,47,48,49,50,51,52,53,54,55,57,0,1,2,3,4,5,6,7,8,9,10,11,12,13,1000,1001,1002,1003,14,15])] Tryz.func422 rfl ?_ (.inr (aD (Ct _) ⟨tV1,tV1⟩))
 refine σP ?_
 rfl
def BI(m:aP)(f t:Nat)(a:(nth (nth m.U f) 0).To=t):aP.enc .own (gr m f)=[.s .own ((m.U.map (bP .own)).set f [.s .own (((nth m.U f).drop 1).map (dA.enc .S))]),.s .own ((m.a0.map (aF .own)).set t (aF .own (nth m.a0 t++[(nth (nth m.U f) 0).Addr])))]:=by
 unfold aP.enc gr;simp only[SC,a,t5]
 rfl
def Ly(m:aP)(f:Nat)(h:bG m=true)(i:f<m.U.length):zzA 422 false [.val (some 2) (aP.enc .S m),.vI (f:Nat)] (.tup [some 2,none]) (aP.enc .own (if 0<(nth m.U f).length then gr m f else m)++[B (decide (0<(nth m.U f).length))]):=by
 have d:=kS.of h;have u:=d.sml;have J:=d.b4;have D:=d.i4;have j:=vA m f u;rw[h,O0 ω]at j;have w:=iq m u;have a:=Wn i;have E:=d.bl f i;by_cases e:0<(nth m.U f).length
 ·rw[CL e,O0 e]
  have g:=((eC.1 h).2.1 f i).1 _ (ax e);obtain⟨t,k⟩:=v5 g.1;have l:t<m.a0.length:=ω
  have y:=ar e;have c:=ar l;have F:=d.il t ω;have n:=(kS.of (L9 h i e)).sml;have G:=iq (gr m f) n;have o:=Cu (gr m f);rw[BI m f t k]at o;have q:=aD (b:=[B true]) (Ct (gr m f)) ⟨tV1,tV1⟩;generalize K:nth (nth m.U f) 0=p at *;obtain⟨L,H⟩:=p;simp only at k g o;subst k;refine fO 60 [(5,267,[31,32,33,34,35,36,37,38,39,40,42,0,1,2,3,4,5,6,7,8,9,10,1000,1001,1002,11,12]),(6,270,[43,44,45,46,47,48,49,50,51,52,53,54,55,57,0,1,2,3,4,5,6,7,8,9,10,11,12,13,1000,1001,1002,1003,14,15])] Tryz.func422 rfl ?_ (.inr q)
  repeat'(first|refine gB ?_|refine gS (λr=>?_) (λr=>?_)|refine CQ qs (aa y) ?_|refine CK (dt a) ?_|refine CK (dt c) ?_|refine CM rfl (dt a) rfl ?_|refine CM rfl (dt c) rfl ?_|refine Lq.one rfl rfl (aa c) rfl (O2 rfl) rfl rfl ?_|refine Cj 1 rfl (by rw[I2];omega) (aM λ_=>rfl) I8 ?_|refine Cg (λ_=>rfl) (λ_=>rfl) (by rw[C6];omega) qs ?_|refine CZ (λ_=>rfl) (λ_=>rfl) (by rw[C6];omega) qs ?_|refine CU rfl rfl (aa a) rfl (O2 rfl) rfl ?_|refine CU rfl rfl (dt c) rfl (O2 rfl) (show [C.s fE.own ((m.U.map (bP .own)).set f [.s .own (((nth m.U f).drop 1).map (dA.enc .S))]),C.s .own ((m.a0.map (aF .own)).set t (aF .own (nth m.a0 t++[H])))]=_ from by simp only[List.set_cons_zero,List.set_cons_succ,List.set_set,t5];rfl) ?_|refine Cf (aM λ_=>rfl) rfl jp qs (f8 _ _ _) ?_|refine CN (G) ⟨⟨rfl,o⟩,tV1⟩ ?_)
  rfl
 rw[CJ e,C1 e];refine fO 60 [(5,267,[31,32,33,34,35,36,37,38,39,40,42,0,1,2,3,4,5,6,7,8,9,10,1000,1001,1002,11,12]),(6,270,[43,44,45,46,47,48,49,50,51,52,53,54,55,57,0,1,2,3,4,5,6,7,8,9,10,11,12,13,1000,1001,1002,1003,14,15])] Tryz.func422 rfl ?_ (.inr (aD (Ct _) ⟨tV1,tV1⟩))
 repeat'(first|refine gB ?_|refine gS (λr=>?_) (λr=>?_)|fail)
 rfl
def QI.set(rows:List (List C))(i:Nat){r r':List C}(h:Ts r r'):QI (.s .own (rows.set i r)) (.s .own (rows.set i r')):=by
 refine .own_ _ _ (by simp) (λj a b d f=>?_) (λj l a b c o d f n g=>?_)
 ·by_cases e:i=j
  ·subst e
   have k:i<rows.length:=by have:=(C4.1 d).1;simpa using this
   rw[O6 k]at d f;cases d;cases f;exact h.1
  rw[List.getElem?_set_ne e]at d f;rw[d]at f;cases f;rfl
 by_cases e:i=j
 ·subst e
  have k:i<rows.length:=by have:=(C4.1 d).1;simpa using this
  rw[O6 k]at d f;cases d;cases f;exact h.2 l c o n g
 rw[List.getElem?_set_ne e]at d f;rw[d]at f;cases f;rw[n]at g;cases g;exact .rfl_ _
def J3(m:aP)(t:Nat)(d:bG m=true)(h:t<m.U.length):zzA 521 false [.val (some 2) (aP.enc .S m),.vI (t:Nat)] (.tup [some 2,none]) (aP.enc .own (jB m t)++aF .own (nth m.a0 t)):=by
 have b:=kS.of d;have e:=b.sml;have o:=b.b4;have j:=b.i4;have g:=vA m t e;rw[d,O0 ω]at g;have k:=iq m e;have c:=ar (xs:=m.a0) (i:=t) ω;have l:=b.il t h;have a:=aD (Ct (jB m t)) (bC (nth m.a0 t));have n:aP.enc .own (jB m t)=[.s .own (m.U.map (bP .own)),.s .own ((m.a0.map (aF .own)).set t [.s .own []])]:=by simp[aP.enc,jB,SC];rfl
 rw[n]at a |-;refine fO 28 [(5,263,[20,21,22,23,24,25,26,0,1,2,3,4,5,6,7,1000,8,9])] Tryz.func521 rfl ?_ (.inr a)
 repeat'((conv=>whnf);first|with_reducible (first|refine Lm ?_|refine Wm ω ?_|refine CK (aa c) ?_|refine Bn ?_|refine j8.dk rfl ?_)|refine Bt ?_|refine Bu ?_|refine CH ?_|refine CG (g) ?_|refine CG (k) ?_|refine CM rfl (aa c) rfl ?_|refine CU rfl rfl (aa c) rfl (O2 rfl) rfl ?_|refine Cg (λ_=>rfl) (λ_=>rfl) ω qs ?_|refine CZ (λ_=>rfl) (λ_=>rfl) ω qs ?_|refine CH ?_)
 exact .cons (.rfl_ _) (.cons (QI.set _ _ (.cons .z_ .nil)) (.cons (.rfl_ _) .nil))
def Ho(now:Int):∀{l:List aV}{i:Nat},i<=l.length->(∀j,j<i->(nth l j).b5<now - 100)->(i<l.length->¬(nth l i).b5<now - 100)->qO now l=i
 | [],i,h,_,_=>by simp at h;subst h;rfl
 | x::xs,0,_,_,h=>by
  unfold qO;exact CJ (h (by simp))
 | x::xs,i+1,b,a,c=>by
  unfold qO;refine(CL (a 0 ω)).trans ?_;rw[Ho now (l:=xs) (i:=i) (by simp at b;omega) (λj d=>a (j+1) ω) (λe=>c jp)]
def KR(q:bv)(now:Int):List C:=bv.enc .own ⟨q.b7,q.y.drop (qO now q.y)⟩++de .own (q.y.take (qO now q.y))
def zz(q:bv)(now:Int)(g:gu q=true)(F:q.y.length<=4096)(u:0<=now/\now<=1000000):zzA 425 false [.val (some 2) (bv.enc .S q),.vI now,.vI 100] (.tup [some 2,none]) (KR q now):=by
 have w:bv.sml q:=⟨ω,λ_ _=>tV1⟩
 have n:=rX q w;rw[g]at n;have o:=aQ now 0 1000000;rw[O0 u]at o;have p:=aQ 100 0 1000000;rw[O0 qs]at p;have h:=(jD.1 g).1;have a:iN (KR q now):=aD (bv.enc_fr _) (oM _);have y:∀i,i<q.y.length->0<=(nth q.y i).b5:=λi b=>(h _ (ax b)).2.2.2
 unfold KR at a |-;generalize B:qO now q.y=k at a |-;refine fO 59 [(6,270,[44,45,46,47,48,49,50,51,53,54,55,56,57,58,0,1,2,3,4,5,6,7,9,10,11,12,13,14,8,1009,1010,1011,1012,1013,1014,15,16])] Tryz.func425 rfl ?_ (.inr a)
 refine σP ?_
 refine gK q.y.length (λi=>[(1,fI now),(2,fI 100),(3,bB (bv.enc .S q)),(6,bB [I 0,.z]),(8,fN i)]) (λi=>∀j,j<i->(nth q.y j).b5<now - 100) (λj C=>ω) λi b=>?_
 obtain⟨b,r⟩:=b;by_cases l:i<q.y.length/\(nth q.y i).b5<now - 100
 ·have c:=ar l.1
  refine σE ?_
  (exact cV (i+1) ⟨ω,λj C=>by by_cases e:j=i;(subst e;exact l.2);exact r j ω⟩)
 have d:=Ho now (i:=i) b r (λD E=>l ⟨D,E⟩);rw[B]at d;subst d;by_cases t:k<q.y.length
 ·have c:=ar t
  have:=y k t
  repeat'(first|refine gE ?_|refine gS (λg=>?_) (λg=>?_)|refine Cc k rfl (by rw[I2];omega) (aM λ_=>rfl) C8 ?_|refine Cj k rfl (by rw[I2];omega) (aM λ_=>rfl) I8 ?_|refine Cg (λ_=>rfl) (λ_=>rfl) (by rw[I3];omega) qs ?_|refine Cg (λ_=>rfl) (λ_=>rfl) (by rw[C6];omega) qs ?_|refine CZ (λ_=>rfl) (λ_=>rfl) (by rw[C6];omega) qs ?_)
  rfl
 repeat'(first|refine gE ?_|refine Cc k rfl (by rw[I2];omega) (aM λ_=>rfl) C8 ?_|refine Cj k rfl (by rw[I2];omega) (aM λ_=>rfl) I8 ?_|refine Cg (λ_=>rfl) (λ_=>rfl) (by rw[I3];omega) qs ?_|refine Cg (λ_=>rfl) (λ_=>rfl) (by rw[C6];omega) qs ?_|refine CZ (λ_=>rfl) (λ_=>rfl) (by rw[C6];omega) qs ?_)
 rfl
def HB(h:ac)(n:Int)(g:aY h [])(r:0<=n/\n<=1000)(p:h.b1+n<=1000000):zzB 278 false [.ptr (bR h),.vI n] [.ptr (bR (tick h n)),.vI n] .one [I ((ns h n).length:Nat)]:=by
 have a:=g.nums;unfold cI at a;rw[C0]at a;have t:=g.lens.quar;have i:=zz h.a7 (h.b1+n) g.quar ω ⟨ω,p⟩;have j:=g.aged r.1 p;unfold KR at i;unfold tick ns aged at *;have l:(h.a7.y.take (qO (h.b1+n) h.a7.y)).length<=4096:=by rw[I3];omega
 rw[I2];generalize h.a7.y.take (qO (h.b1+n) h.a7.y)=out at i j l |-;generalize h.a7.y.drop (qO (h.b1+n) h.a7.y)=rest at i j |-;refine fM 48 [(426,[2,0])] [(2,269,[18,19,20,21,22,23,24,25,26,17,27,28,5,0,1,2,3,4,5,6,7,8,9,10,11,12,13,1011,14])] [(0,0),(0,0)] Tryz.func278 rfl (λu q=>?_)
 repeat'(first|refine gP ?_|refine CN (i) ⟨⟨rfl,bv.enc_fz h.a7⟩,⟨rfl,rfl⟩,⟨rfl,rfl⟩,tV1⟩ ?_)
 refine lp0 out.length (λk=>[(0,bB (bR (freeAs {h with b1:=h.b1+n,a7:=⟨h.a7.b7,rest⟩} ((out.map (·.Addr)).take k)))),(6,bJ (de .own out)),(7,fN k)]) λk y=>?_
 by_cases o:k<out.length
 ·have b:=ar o
  have c:k<(out.map (·.Addr)).length:=by rw[I2];exact o
  have d:nth (out.map (·.Addr)) k=(nth out k).Addr:=br (by rw[I5,ar o];rfl);have e:aY (freeAs {h with b1:=h.b1+n,a7:=⟨h.a7.b7,rest⟩} ((out.map (·.Addr)).take k)) (nth (out.map (·.Addr)) k::(out.map (·.Addr)).drop (k+1)):=by
   refine aY.freeAs ?_;rw[<-gZ c,List.take_append_drop];rw[List.append_nil]at j;exact j
  rw[d]at e;have w:=qn _ _ _ e
  refine σE ?_
  (refine CR (k+1) ω ω ?_)
  rw[sP _ _ _ c,d];exact wC
 obtain rfl:k=out.length:=ω
 rw[CF (by rw[I2];omega)]
 refine σE ?_
 exact ka
def yh(t:Nat)(h:ac)(az:List Int)(k:Nat)(a:k<az.length):recycs t h (az.take (k+1))=recyc t (recycs t h (az.take k)) (nth az k):=by
 unfold recycs;rw[CB,ar a,Option.toList_some,List.foldl_append];rfl
def zv(h:ac)(t:Nat)(a:aY h [])(i:t<h.R.length):zzB 423 false [.ptr (bR h),.vI (t:Nat)] [.ptr (bR (collect h t)),.vI (t:Nat)] .one [I ((nth h.w.a0 t).length:Nat)]:=by
 have l:=a.nc;have n:=(eC.1 a.mail).1.2.2;have j:=J3 h.w t a.mail ω;have c:=(kS.of a.mail).il t ω;have d:=a.coll (t:=t) ω;rw[List.append_nil]at d;unfold collect;generalize nth h.w.a0 t=out at j d c |-;refine fM 36 [(515,[2,0,0])] [] [(0,0),(0,0)] Tryz.func423 rfl (λu q=>?_)
 repeat'(first|refine gP ?_|refine CN (j) ⟨⟨rfl,Cu h.w⟩,⟨rfl,rfl⟩,tV1⟩ ?_)
 refine lp0 out.length (λk=>[(0,bB (bR (recycs t {h with w:=jB h.w t} (out.take k)))),(1,fN t),(6,bJ (aF .own out)),(7,fN k)]) λk p=>?_
 by_cases e:k<out.length
 ·have b:=ar e
  have g:aY (recycs t {h with w:=jB h.w t} (out.take k)) (nth out k::out.drop (k+1)):=by
   refine aY.recycs ?_ i;rw[<-gZ e,List.take_append_drop];exact d
  have o:=r7 _ _ t _ g (by rw[(fH t _ _).1];exact i)
  refine σE ?_
  (refine CR (k+1) ω ω ?_)
  rw[yh _ _ _ _ e];exact wC
 obtain rfl:k=out.length:=ω
 rw[S9]
 refine σE ?_
 exact ka
def vJ(a:Int)(o:bg):Bool:=decide (o.Addr<=a/\a<o.Addr+o.k)
def NE(h:ac)(E:List Int)(a:Int)(d:aY h E):zzB 517 false [.ptr (bR h),.vI a] [.ptr (bR h),.vI a] .one [I (bU (vJ a) h.J)]:=by
 have r:=d.lens.objs;refine fM 47 [] [(4,29,[15,16,17,18,19,20,21,22,23,24,25,26,27,28,29,30,31,32,33,34,35,36,37,38,39,40,41,42,43])] [(0,0),(0,0)] Tryz.func517 rfl (λu q=>?_)
 refine σP ?_
 refine gK h.J.length (λi=>[(0,bB (bR h)),(1,fI a),(5,fN i)]) (λi=>∀(j:Nat)(z:bg),j<i->h.J[j]? = some z->vJ a z=false) (λj z C=>ω) λi d=>?_
 obtain⟨t,c⟩:=d;by_cases e:i<h.J.length
 ·have b:=ar e
  have w:=pN ‹aY h E› (ax e);have y:0<=(nth h.J i).k/\(nth h.J i).k<=1000:=by
   rcases aY.oow ‹aY h E› _ (ax e) with⟨s,B,D,F⟩|⟨l,g,k,o⟩
   ·have G:=aJ ((aY.L ‹aY h E›).sok s B)
    have:=iv (n:=(nth h.J i).k) ω;omega
   have H:=ch ((aY.L ‹aY h E›).lok l g);omega
  by_cases k:(nth h.J i).Addr<=a
  ·by_cases o:a<(nth h.J i).Addr+(nth h.J i).k
   ·refine σE ?_
    refine CP rfl (nO (df b (O0 ⟨k,o⟩) c).symm) ?_;exact wC
   repeat'(first|refine gE ?_|refine gS (λp=>?_) (λp=>?_)|fail)
   (exact cV (i+1) ⟨ω,fh b (C1 λx=>o x.2) c⟩)
  repeat'(first|refine gE ?_|refine gS (λp=>?_) (λp=>?_)|fail)
  (exact cV (i+1) ⟨ω,fh b (C1 λx=>k x.1) c⟩)
 refine σE ?_
 refine CP rfl (nO (eY ω c).symm) ?_;exact wC
def Pn(h:ac)(a v:Int):bR {h with G:=dN h.G a v} = (bR h).set 0 (.s .own ((h.G.F.V.T.map (aF .own)).set (af h.G.F.O (a / 16)).j.toNat ((aF .own (nth h.G.F.V.T (cW h.G a))).set 0 (.s .own (((nth h.G.F.V.T (cW h.G a)).map (rI .own)).set (a % 16).toNat (splice (rI .own (nth (nth h.G.F.V.T (cW h.G a)) (a % 16).toNat)) 0 [I v])))))):=by
 simp[bR,dN,setCell,SC,aF,splice,cW,rI]
def Bi{p:α->Bool}{xs:List α}{x:α}(a:x∈xs)(b:p x=true):0<=bU p xs:=by
 have:=iD p xs;rw[show xs.any p=true from I7.2 ⟨x,a,b⟩,C0]at this;exact this
def E4(h:ac)(i:Nat)(j v:Int)(e:aY h [])(C:i<h.J.length)(D:0<=j/\j<=(nth h.J i).k - 1):zzB 418 false [.ptr (bR h),.vI ((nth h.J i).Addr+j),.vI v]
  [.ptr (bR (if(af h.G.F.O (((nth h.J i).Addr+j) / 16)).e=1\/¬(0<=v/\v<=999) then h else {h with G:=dN h.G ((nth h.J i).Addr+j) v})),.vI ((nth h.J i).Addr+j),.vI v] .one [I (if(af h.G.F.O (((nth h.J i).Addr+j) / 16)).e=1 then 2 else if ¬(0<=v/\v<=999) then 3 else 0)]:=by
 obtain⟨E,J,K⟩:=di e (ax C) D;have F:0<=bU (vJ ((nth h.J i).Addr+j)) h.J:=Bi (ax C) (O0 ω);have p:=NE h [] ((nth h.J i).Addr+j) e;have r:=bj e.ker;have t:=ee h.G.F.O (((nth h.J i).Addr+j) / 16) r.1.2;have n:=aQ v 0 999;generalize L:(nth h.J i).Addr+j=a at *;have b:0<=a/\a<512:=ω
 obtain⟨-,-,-,G,M⟩:=bD e.ker E;have H:=(bi.1 (aH.1 e.ker).2.1).2.2.1;have k:cW h.G a<h.G.F.V.T.length:=by unfold cW;omega
 have d:h.G.F.V.T[(af h.G.F.O (a / 16)).j.toNat]? = some (nth h.G.F.V.T (cW h.G a)):=ar k;have w:=e.lens.row _ (ax k);have l:=ar (xs:=nth h.G.F.V.T (cW h.G a)) (i:=(a % 16).toNat) (by rw[w];omega);have B:a.tmod 16=a % 16:=eR b.1;refine fM 42 [(517,[2,0])] [(8,14,[27,28,29,30,31,32,33,34,35,36,37,38,39,40])] [(0,0),(0,0),(0,0)] Tryz.func418 rfl (λu q=>?_);by_cases o:(af h.G.F.O (a / 16)).e=1
 ·rw[CL (Or.inl o),CL o]
  repeat'(first|refine gB ?_|refine CN (t) ⟨⟨rfl,Cp _⟩,⟨rfl,rfl⟩,tV1⟩ ?_|refine CT qs ?_|refine CS (mh b) ?_)
  exact ka
 rw[CJ (c:=_=(1:Int)) o];by_cases g:0<=v/\v<=999
 ·rw[O0 g]at n
  rw[CJ (c:=¬(0<=v/\v<=999)) (S7 g),CJ (c:=_\/¬(0<=v/\v<=999)) (λy=>y.elim o λy=>y g)]
  repeat'(first|refine gB ?_|refine CN (t) ⟨⟨rfl,Cp _⟩,⟨rfl,rfl⟩,tV1⟩ ?_|refine CT qs ?_|refine CS (mh b) ?_|refine CX B ?_|refine CQ G (aa d) ?_|refine CQ ω (aa l) ?_|refine Pu.two rfl rfl (aa d) rfl rfl rfl (aa l) rfl (C5 _) (Pn h a v) ?_)
  exact ka
 rw[C1 g]at n;rw[CL (Or.inr g),CL g]
 repeat'(first|refine gB ?_|refine CN (t) ⟨⟨rfl,Cp _⟩,⟨rfl,rfl⟩,tV1⟩ ?_|refine CT qs ?_|refine CS (mh b) ?_)
 exact ka
def lw(l:aC)(n:Int):aG:=if(n+15) / 16<l.a1 then⟨l.Q+(n+15) / 16,l.a1 - (n+15) / 16⟩ else⟨0,0⟩
def zP(l:aC)(n:Int)(d:bI l=true):zzA 518 false [.val (some 3) (aC.enc .S l),.vI n] (.tup [some 3,some 2,none]) (if 9<=n/\n<=l.k then aC.enc .own (trimL l n)++aG.enc .own (lw l n)++[B true] else aC.enc .own l++[I 0,I 0]++[B false]):=by
 have b:=qx l;rw[d]at b;have a:=aQ n 9 l.k;have g:=d;unfold bI at g;rw[C0]at g;by_cases e:9<=n/\n<=l.k
 ·rw[O0 e]at a
  rw[CL e];have c:=pM n;rw[show fF n=(n+15) / 16 by unfold fF;rw[CL ω]]at c;unfold lw;by_cases h:(n+15) / 16<l.a1
  ·rw[CL h]
   refine fO 43 [(7,261,[37,38,39,40,42,0,1,2,3,5,4,1005,6,1005,7,8])] Tryz.func518 rfl ?_ (.inr ⟨tV1,tV1,tV1,tV1,tV1,tV1,tV1⟩)
   refine σE ?_
   rfl
  rw[CJ h];refine fO 43 [(7,261,[37,38,39,40,42,0,1,2,3,5,4,1005,6,1005,7,8])] Tryz.func518 rfl ?_ (.inr ⟨tV1,tV1,tV1,tV1,tV1,tV1,tV1⟩)
  refine σE ?_
  rfl
 rw[C1 e]at a;rw[CJ e];refine fO 43 [(7,261,[37,38,39,40,42,0,1,2,3,5,4,1005,6,1005,7,8])] Tryz.func518 rfl ?_ (.inr ⟨tV1,tV1,tV1,tV1,tV1,tV1,tV1⟩)
 refine σP ?_
 rfl
def Hg(h:ac)(t a:Int)(c:h.R.length<=4)(d:¬(0<=t/\t<=h.R.length - 1)):zzB 416 false [.ptr (bR h),.vI t,.vI a] [.ptr (bR h),.vI t,.vI a] .one [I 1]:=by
 have b:=aQ t 0 (h.R.length - 1:Int);rw[C1 d]at b;refine fM 148 [(511,[2,0]),(513,[2,0]),(515,[2,0,0]),(510,[2,0])] [(15,269,[68,69,70,71,72,73,74,75,77,67,78,79,11,0,1,2,3,4,5,6,7,13,8,1000,1001,1002,1003,1004,1013,9,10,11,12,14,1012,15]),(22,15,[92,93,94,95,96,97,98,99,100,101,102,103,104,105,106]),(25,271,[116,117,118,119,120,121,122,123,124,125,127,115,128,129,14,0,1,2,3,4,5,6,7,8,9,15,10,1000,1001,1002,1003,1015,11,12,13,14,16,1014,17])] [(0,0),(0,0),(0,0)] Tryz.func416 rfl (λu q=>?_)
 refine σP ?_
 exact ka
def Kh(h:ac)(i t:Nat)(a:aY h [])(j:i<h.J.length)(S:t<h.R.length)(J:(nth h.J i).a2≠t):zzB 416 false [.ptr (bR h),.vI (t:Nat),.val none [I (nth h.J i).Addr]] [.ptr (bR (freeT h t i).1),.vI (t:Nat),.val none [I (nth h.J i).Addr]] .one [I (freeT h t i).2]:=by
 have E:=ax j;obtain⟨-,K,d⟩:=a.objAt E;have L:lD h (nth h.J i).Addr=i:=by
  have T:=(a.objAt E).1;exact du (f:=(·.Addr)) (dv a.osr) T j (by rw[K])
 rw[L]at d;have b:=pN a E;have U:=a.onu _ E;have n:=a.lens;have V:=n.objs;have W:=a.nc;have X:=kS.of a.mail;have Y:=X.b4;have o:=aQ (t:Nat) 0 (h.R.length - 1:Int);rw[O0 ω]at o;have p:=uV h (nth h.J i).Addr ω;rw[d]at p;have e:=ar j;have F:=nk (nth h.J i).k;have N:=bj a.ker;have O:=ee h.G.F.O ((nth h.J i).Addr / 16) N.1.2;unfold freeT;by_cases G:aN (nth h.J i).k<0
 ·rw[CL G]
  have Z:=uw h i a j G;refine fM 148 [(511,[2,0]),(513,[2,0]),(515,[2,0,0]),(510,[2,0])] [(15,269,[68,69,70,71,72,73,74,75,77,67,78,79,11,0,1,2,3,4,5,6,7,13,8,1000,1001,1002,1003,1004,1013,9,10,11,12,14,1012,15]),(22,15,[92,93,94,95,96,97,98,99,100,101,102,103,104,105,106]),(25,271,[116,117,118,119,120,121,122,123,124,125,127,115,128,129,14,0,1,2,3,4,5,6,7,8,9,15,10,1000,1001,1002,1003,1015,11,12,13,14,16,1014,17])] [(0,0),(0,0),(0,0)] Tryz.func416 rfl (λu q=>?_)
  repeat'(first|refine gE ?_|refine gS (λc=>?_) (λc=>?_)|refine CN (p) ⟨⟨rfl,bX h⟩,⟨rfl,rfl⟩,tV1⟩ ?_)
  exact ka
 rw[CJ G];obtain⟨s1,s2,s3,s4⟩:=YB.of a (ax j) G;by_cases H:(af (tbl h) ((nth h.J i).Addr / 16)).e=1
 ·rw[CL H]
  unfold tbl at H;refine fM 148 [(511,[2,0]),(513,[2,0]),(515,[2,0,0]),(510,[2,0])] [(15,269,[68,69,70,71,72,73,74,75,77,67,78,79,11,0,1,2,3,4,5,6,7,13,8,1000,1001,1002,1003,1004,1013,9,10,11,12,14,1012,15]),(22,15,[92,93,94,95,96,97,98,99,100,101,102,103,104,105,106]),(25,271,[116,117,118,119,120,121,122,123,124,125,127,115,128,129,14,0,1,2,3,4,5,6,7,8,9,15,10,1000,1001,1002,1003,1015,11,12,13,14,16,1014,17])] [(0,0),(0,0),(0,0)] Tryz.func416 rfl (λu q=>?_)
  repeat'(first|refine gB ?_|refine gS (λc=>?_) (λc=>?_)|refine CT qs ?_|refine CS (mh b) ?_|refine CN (p) ⟨⟨rfl,bX h⟩,⟨rfl,rfl⟩,tV1⟩ ?_|refine CN (O) ⟨⟨rfl,Cp _⟩,⟨rfl,rfl⟩,tV1⟩ ?_)
  exact ka
 rw[CJ H,CJ J];unfold tbl at H;have r:=QP h.w t ⟨(nth h.J i).a2,(nth h.J i).Addr⟩ a.mail ω;by_cases l:bG (gF h.w t ⟨(nth h.J i).a2,(nth h.J i).Addr⟩)=true;rotate_left
 ·rw[CJ l]
  rw[CJ l,show bG (gF h.w t ⟨(nth h.J i).a2,(nth h.J i).Addr⟩)=false by simpa using l]at r;refine fM 148 [(511,[2,0]),(513,[2,0]),(515,[2,0,0]),(510,[2,0])] [(15,269,[68,69,70,71,72,73,74,75,77,67,78,79,11,0,1,2,3,4,5,6,7,13,8,1000,1001,1002,1003,1004,1013,9,10,11,12,14,1012,15]),(22,15,[92,93,94,95,96,97,98,99,100,101,102,103,104,105,106]),(25,271,[116,117,118,119,120,121,122,123,124,125,127,115,128,129,14,0,1,2,3,4,5,6,7,8,9,15,10,1000,1001,1002,1003,1015,11,12,13,14,16,1014,17])] [(0,0),(0,0),(0,0)] Tryz.func416 rfl (λu q=>?_)
  repeat'(first|refine gB ?_|refine gS (λc=>?_) (λc=>?_)|refine CT qs ?_|refine CS (mh b) ?_|refine CN (p) ⟨⟨rfl,bX h⟩,⟨rfl,rfl⟩,tV1⟩ ?_|refine CN (O) ⟨⟨rfl,Cp _⟩,⟨rfl,rfl⟩,tV1⟩ ?_|refine CN (r) ⟨⟨rfl,Cu h.w⟩,⟨rfl,rfl⟩,⟨rfl,rfl⟩,tV1⟩ ?_)
  exact ka
 rw[CL l];rw[CL l,l]at r;have w:cW h.G (nth h.J i).Addr<h.G.F.V.T.length:=by unfold cW;omega
 have hcz:=GV s1;have B:=ef (aN (nth h.J i).k);unfold Au;generalize gF h.w t ⟨(nth h.J i).a2,(nth h.J i).Addr⟩ = M at r;refine fM 148 [(511,[2,0]),(513,[2,0]),(515,[2,0,0]),(510,[2,0])] [(15,269,[68,69,70,71,72,73,74,75,77,67,78,79,11,0,1,2,3,4,5,6,7,13,8,1000,1001,1002,1003,1004,1013,9,10,11,12,14,1012,15]),(22,15,[92,93,94,95,96,97,98,99,100,101,102,103,104,105,106]),(25,271,[116,117,118,119,120,121,122,123,124,125,127,115,128,129,14,0,1,2,3,4,5,6,7,8,9,15,10,1000,1001,1002,1003,1015,11,12,13,14,16,1014,17])] [(0,0),(0,0),(0,0)] Tryz.func416 rfl (λu q=>?_)
 repeat'(first|refine gB ?_|refine gS (λc=>?_) (λc=>?_)|refine CT qs ?_|refine CS (mh b) ?_|refine CN (p) ⟨⟨rfl,bX h⟩,⟨rfl,rfl⟩,tV1⟩ ?_|refine CN (O) ⟨⟨rfl,Cp _⟩,⟨rfl,rfl⟩,tV1⟩ ?_|refine CN (r) ⟨⟨rfl,Cu h.w⟩,⟨rfl,rfl⟩,⟨rfl,rfl⟩,tV1⟩ ?_)
 have P:({{h with w:=M} with G:=eI h.G (nth h.J i).Addr 0} : ac) = {h with w:=M}:=HZ {h with w:=M} _ w;have hoo:=O1 (λy:ac=>C.s .own (y.G.F.V.T.map (aF .own))) P
 (conv=>whnf)
 refine Lp.mk (ι:=Nat) (λk=>[(0,bB (bR {{h with w:=M} with G:=eI h.G (nth h.J i).Addr k})),(1,fN t),(2,fI ((nth h.J i).Addr)),(7,fN i),(8,bB (bg.enc .own (nth h.J i))),(9,fI (aN (nth h.J i).k)),(10,bB (bo.enc .own (af h.G.F.O ((nth h.J i).Addr / 16)))),(13,fN k)]) (λk=>k<=(csz (aN (nth h.J i).k)).toNat) (λk=>(csz (aN (nth h.J i).k)).toNat - k) (0) ?_ (I1 _) λk hk=>?_
 ·exact wE
 have R:IntKind.i64.wrap 0=0:=rfl;have Q:(nth h.J i).Addr.tmod 16=(nth h.J i).Addr % 16:=eR b.1;have g:(eI h.G (nth h.J i).Addr k).F.V.T[(af h.G.F.O ((nth h.J i).Addr / 16)).j.toNat]? = some (ju (nth h.G.F.V.T (cW h.G (nth h.J i).Addr)) ((nth h.J i).Addr % 16).toNat k):=O6 w;by_cases lk:k<(csz (aN (nth h.J i).k)).toNat
 ·have D:=ar (xs:=ju (nth h.G.F.V.T (cW h.G (nth h.J i).Addr)) ((nth h.J i).Addr % 16).toNat k) (i:=((nth h.J i).Addr % 16+k).toNat) (by rw[n9,s4];omega)
  repeat'(first|refine gE ?_|refine CT qs ?_|refine CX Q ?_|refine CQ s2.1 (aa g) ?_|refine CQ ω (aa D) ?_|refine Pu.two rfl rfl (aa g) rfl rfl rfl (aa D) rfl (C5 _) (Ll {h with w:=M} _ k _ b.1) ?_)
  (exact cV (k+1) ω)
 obtain rfl:k=(csz (aN (nth h.J i).k)).toNat:=ω
 have c6:=q9 {{h with w:=M} with G:=eI h.G (nth h.J i).Addr (csz (aN (nth h.J i).k)).toNat} i j (by show h.J.length<=_;omega)
 repeat'(first|refine gB ?_|refine gS (λc=>?_) (λc=>?_)|fail)
 exact ka
def VK(h:ac)(i:Nat)(t:Int)(a:aY h [])(d:i<h.J.length):zzB 416 false [.ptr (bR h),.vI t,.val none [I (nth h.J i).Addr]] [.ptr (bR (if 0<=t/\t<=h.R.length - 1 then(freeT h t.toNat i).1 else h)),.vI t,.val none [I (nth h.J i).Addr]] .one [I (if 0<=t/\t<=h.R.length - 1 then(freeT h t.toNat i).2 else 1)]:=by
 have c:h.R.length<=4:=by have:=(eC.1 a.mail).1.2.1;have:=a.nc;omega
 by_cases b:0<=t/\t<=h.R.length - 1
 ·rw[CL b,CL b]
  obtain⟨n,rfl⟩:=v5 b.1;simp only[t5];by_cases e:(nth h.J i).a2=n
  ·have:=Nc h (nth h.J i) n a (ax d) e c
   have g:lD h (nth h.J i).Addr=i:=by
    obtain⟨k,j,-⟩:=a.objAt (ax d);exact du (f:=(·.Addr)) (dv a.osr) k d (by rw[j])
   rw[g,<-xw e]at this;exact this
  exact Kh h i n a d ω e
 rw[CJ b,CJ b];exact Hg h t _ c b
def LD(c:aE)(k:Nat):aE.enc .own (wz c k)=[.s .own ((c.Y.map (aF .own)).set k (aF .own ((nth c.Y k).take ((nth c.Y k).length - 1))))]:=by simp[aE.enc,wz,SC]
def TG(xs:List Int)(n:Nat):(xs.take n).map (rI .S)=(xs.map (rI .S)).take n:=C8
def YW(c:aE)(k:Nat):List C:=if 0<(nth c.Y k).length then aE.enc .own (wz c k)++[I (nth (nth c.Y k) ((nth c.Y k).length - 1)),B true] else aE.enc .own c++[I (-1),B false]
def Yp(c:aE)(k:Nat):iN (YW c k):=by
 unfold YW;split
 ·exact aD (Cv _) ⟨tV1,tV1,tV1⟩
 exact aD (Cv _) ⟨tV1,tV1,tV1⟩
def AJ(c:aE)(k:Nat)(h:bx c=true)(u:k<=3):zzA 366 false [.val (some 1) (aE.enc .S c),.vI (k:Nat)] (.tup [some 1,none,none]) (YW c k):=by
 obtain⟨w,j⟩:=eX h;have n:aE.sml c:=⟨ω,λl r=>by have:=j l r;show l.length<=1048576;omega⟩
 have d:=BM c k n;rw[h,O0 ω]at d;have o:=ll c n;have b:=nB (c:=c) (k:=k) ω;have t:=j _ (ax (xs:=c.Y) (i:=k) ω);have a:=Yp c k;unfold YW at a |-;by_cases p:0<(nth c.Y k).length
 ·rw[CL p]at a |-
  have q:=ar (xs:=nth c.Y k) (i:=(nth c.Y k).length - 1) ω;have e:(nth c.Y k)[(((nth c.Y k).length:Int) - 1).toNat]? = some (nth (nth c.Y k) ((nth c.Y k).length - 1)):=by rw[show(((nth c.Y k).length:Int) - 1).toNat=(nth c.Y k).length - 1 by omega];exact q
  have g:((((nth c.Y k).length:Nat):Int) - 1)=(((nth c.Y k).length - 1:Nat):Int):=ω
  rw[LD]at a |-;refine fO 54 [(5,268,[32,33,34,35,36,37,38,39,40,41,42,44,0,1,2,3,4,5,6,7,8,9,10,11,1000,1001,1002,12,13]),(6,265,[45,46,47,48,49,50,51,52,53,0,1,2,3,4,5,6,7,8,9,1001,1002,1003,1004,1005,1006,1007,1008,10,11])] Tryz.func366 rfl ?_ (.inr a)
  repeat'(first|refine gB ?_|refine CQ ω (aa e) ?_|refine Cc ((nth c.Y k).length - 1) g (by rw[I2];omega) (aM λ_=>rfl) (TG _ _) ?_|refine Cg (λ_=>rfl) (λ_=>rfl) (by rw[I3];omega) qs ?_|refine CZ (λ_=>rfl) (λ_=>rfl) (by rw[I3];omega) qs ?_|refine CU rfl rfl (aa b) rfl (O2 rfl) rfl ?_)
  rfl
 rw[CJ p]at a |-;refine fO 54 [(5,268,[32,33,34,35,36,37,38,39,40,41,42,44,0,1,2,3,4,5,6,7,8,9,10,11,1000,1001,1002,12,13]),(6,265,[45,46,47,48,49,50,51,52,53,0,1,2,3,4,5,6,7,8,9,1001,1002,1003,1004,1005,1006,1007,1008,10,11])] Tryz.func366 rfl ?_ (.inr a)
 refine σB ?_
 rfl
def Zb(xs:List aG)(n:Int):List C:=bw .own (ay xs n).1++[I (ay xs n).2.1,B (ay xs n).2.2]
def XV(xs:List aG)(n:Int):iN (Zb xs n):=aD (ko _) ⟨tV1,tV1,tV1⟩
def se(pages:Int)(xs:List aG)(n:Int)(w:0<=pages/\pages<=1048576)(l:bN pages xs=true)(H:1<=n/\n<=1000)(J:xs.length<=4096):zzA 371 false [.vI pages,.val none (bw .S xs),.vI n] (.tup [none,none,none]) (Zb xs n):=by
 have o:=pO pages xs w ⟨ω,λ_ _=>tV1⟩;rw[l]at o;have p:=(vG l).2;refine fO 98 [(8,21,[31,32,33,34,35,36,37,38,39,40,41,42,43,44,45,46,47,48,49,50,51]),(14,265,[71,72,73,74,76,77,78,79,81,0,1,2,3,5,6,7,8,10,4,1005,1006,1007,1008,1010,9,1010,11,1010,12,13])] Tryz.func371 rfl ?_ (.inr (XV xs n))
 repeat'(first|refine gE ?_|refine CZ (λ_=>rfl) (λ_=>rfl) ω qs ?_)
 refine lp0 xs.length (λi=>[(1,bJ (bw .S xs)),(2,fI n),(9,bJ (bw .own xs)),(10,fI (ia xs n i)),(11,fN i)]) λi y=>?_
 have h:=vM xs n i y;by_cases q:i<xs.length
 ·have j:=ar q
  have D:=p _ (ax q);have a:ia xs n (i+1)=if n<=(nth xs i).a8/\(ia xs n i<0\/(nth xs i).a8<(nth xs (ia xs n i).toNat).a8) then((i:Nat):Int) else ia xs n i:=rfl
  by_cases r:n<=(nth xs i).a8
  ·by_cases E:ia xs n i<0
   ·rw[CL ⟨r,.inl E⟩]at a
    repeat'(first|refine gE ?_|refine gS (λc=>?_) (λc=>?_)|fail)
    (refine CR (i+1) ω ω ?_)
    rw[a];exact wC
   have d:=ar (xs:=xs) (i:=(ia xs n i).toNat) ω;by_cases F:(nth xs i).a8<(nth xs (ia xs n i).toNat).a8
   ·rw[CL ⟨r,.inr F⟩]at a
    repeat'(first|refine gE ?_|with_reducible refine CQ ω (aa d) ?_|refine gS (λc=>?_) (λc=>?_)|fail)
    (refine CR (i+1) ω ω ?_)
    rw[a];exact wC
   rw[CJ ω]at a
   repeat'(first|refine gE ?_|with_reducible refine CQ ω (aa d) ?_|refine gS (λc=>?_) (λc=>?_)|fail)
   (refine CR (i+1) ω ω ?_)
   rw[a];exact wC
  rw[CJ ω]at a
  repeat'(first|refine gE ?_|refine gS (λc=>?_) (λc=>?_)|fail)
  (refine CR (i+1) ω ω ?_)
  rw[a];exact wC
 obtain rfl:i=xs.length:=ω
 change gH xs n = -1\/_ at h;unfold Zb ay;rw[show ia xs n xs.length=gH xs n from rfl];by_cases e:gH xs n<0
 ·rw[CL e]
  rw[show gH xs n = -1 from h.resolve_right λg=>by have K:0<=gH xs n:=g.1;omega]
  repeat'(first|refine gE ?_|refine gS (λc=>?_) (λc=>?_)|fail)
  rfl
 rw[CJ e];obtain⟨G,t,L⟩:=h.resolve_left ω;change 0<=gH xs n at G;change gH xs n<xs.length at t;obtain⟨b,k⟩:=v5 (show 0<=gH xs n by omega);rw[k]at t |-;simp only[t5];have d:=ar (xs:=xs) (i:=b) ω;have D:=p _ (ax (xs:=xs) (i:=b) ω);by_cases u:(nth xs b).a8=n
 ·rw[CL u]
  repeat'(first|refine gB ?_|refine gS (λc=>?_) (λc=>?_)|refine Cc b rfl (by rw[I2];omega) (aM λ_=>rfl) C8 ?_|refine Cj (b+1) rfl (by rw[I2];omega) (aM λ_=>rfl) I8 ?_|refine Cg (λ_=>rfl) (λ_=>rfl) (by rw[I3];omega) qs ?_|refine Ap.dele (λ_=>rfl) (λ_=>rfl) ω qs ?_|refine CZ (λ_=>rfl) (λ_=>rfl) (by rw[I3];omega) qs ?_)
  rfl
 rw[CJ u]
 repeat'(first|refine gB ?_|refine gS (λc=>?_) (λc=>?_)|refine CU rfl rfl (aa d) rfl (O2 rfl) rfl ?_)
 exact O1 (λz=>z++[I (nth xs b).At,B true]) (show [C.s fE.own _]=_ from by simp[bw,SC];rfl)
def Bj(k:ah)(p:Int)(f:Nat):ah.enc .own (xd k p f)=((ah.enc .own k).set 1 (.s .own ((k.F.V.a6.map (rB .own)).set f (rB .own true)))).set 2 (.s .own ((k.F.O.M.map (bo.enc .own)).set p.toNat (bo.enc .own ⟨2,(f:Nat)⟩))):=by
 simp[ah.enc,xd,SC]
def J8(k:ah)(p:Int)(c:aI k=true)(y:k.Calls≠100000)(o:0<=p/\p<k.F.O.M.length)(C:(nth k.F.O.M p.toNat).e=0):zzB 373 false [.ptr (ah.enc .own k),.vI p] [.ptr (ah.enc .own (newK k p).1),.vI p] .one [B (newK k p).2]:=by
 have D:=bj c;have E:=bi.1 (aH.1 c).2.1;have F:=(bu.1 (aH.1 c).2.2.1).2.2;have G:(cN k).F.O.M.length<=32:=F;have a:=HC k.F.V ω;have d:=qI k c y;have g:=ge (cN k) p D.1.2;have l:af (cN k).F.O p=nth k.F.O.M p.toNat:=by unfold af;exact CL o
 rw[l,C]at g;have h:=aQ p 0 ((k.F.O.M.length:Int) - 1);rw[O0 ω]at h;have r:=ar (xs:=k.F.O.M) (i:=p.toNat) ω;change au _ _ _ _ _ [I (rz k)]at a;unfold newK;cases e:refd k<;>rw[e]at d
 ·by_cases j:rz k<0
  ·rw[CL (.inr j)]
   refine fM 56 [(484,[2])] [] [(0,0),(0,0)] Tryz.func373 rfl (λu q=>?_)
   repeat'(first|refine gB ?_|refine gS (λb=>?_) (λb=>?_)|refine CN (a) ⟨⟨rfl,aZ.enc_fz _⟩,tV1⟩ ?_|refine CN (g) ⟨CY (cN k),⟨rfl,rfl⟩,tV1⟩ ?_)
   refine CP rfl ?_ ?_
   ·rfl
   exact wC
  rw[CJ (by simp[j])];obtain⟨n,t⟩:=Lg j;obtain⟨f,H⟩:=v5 (show 0<=rz k by omega);rw[H]at a n t j |-;simp only[t5]at n t |-;have w:=ar (xs:=k.F.V.a6) (i:=f) n;rw[Bj];refine fM 56 [(484,[2])] [] [(0,0),(0,0)] Tryz.func373 rfl (λu q=>?_)
  repeat'(first|refine gB ?_|refine gS (λb=>?_) (λb=>?_)|refine CN (a) ⟨⟨rfl,aZ.enc_fz _⟩,tV1⟩ ?_|refine CN (g) ⟨CY (cN k),⟨rfl,rfl⟩,tV1⟩ ?_|refine CQ o.1 (aa r) ?_|refine CU rfl rfl (aa w) rfl (O2 rfl) rfl ?_|refine CU rfl rfl (aa r) rfl (O2 rfl) rfl ?_)
  refine CP rfl ?_ ?_
  ·rfl
  exact wC
 rw[CL (.inl rfl)];refine fM 56 [(484,[2])] [] [(0,0),(0,0)] Tryz.func373 rfl (λu q=>?_)
 repeat'(first|refine gB ?_|refine gS (λb=>?_) (λb=>?_)|refine CN (a) ⟨⟨rfl,aZ.enc_fz _⟩,tV1⟩ ?_|refine CN (g) ⟨CY (cN k),⟨rfl,rfl⟩,tV1⟩ ?_)
 refine CP rfl ?_ ?_
 ·rfl
 exact wC
def YX(h:ac):List C:=(bR h).drop 5
def Lk(h:ac)(p:Int)(a:aI h.G=true)(b:h.G.Calls≠100000)(c:0<=p/\p<h.G.F.O.M.length)(d:(nth h.G.F.O.M p.toNat).e=0):zzB 373 false [.ptr (bR h),.vI p] [.ptr (bR {h with G:=(newK h.G p).1}),.vI p] .one [B (newK h.G p).2]:=
 (J8 h.G p a b c d).frame (r:=YX h) rfl
def Rp(h:ac)(i:Nat):bR (slotT h i)=((bR h).set 14 (I (DP h.c0))).set 6 (.s .own ((h.K.map (aB.enc .own)).set i [I (nth h.K i).Q,I (nth h.K i).d,I (iP (nth h.K i).a9 (pP h i))])):=by
 simp[bR,slotT,tL,SC,aB.enc]
def wo(h:ac)(E:List Int)(i:Nat)(c:aY h E)(k:i<h.K.length):zzB 368 false [.ptr (bR h),.vI (i:Nat)] [.ptr (bR (mr h i).1),.vI (i:Nat)] .one [I (mr h i).2]:=by
 have F:=c.lens;have G:=F.spans;have d:=ar k;have b:=c.L.sok _ (ax k);have e:=eS b;have a:=c.nums;unfold cI at a;rw[C0]at a;have t:=(bu.1 (aH.1 c.ker).2.2.1).2.2;have l:=oh c.L.sok (ps:=aX h (nth h.K i).Q) e (aX h (nth h.K i).Q).length;change 0<=f6 h i/\f6 h i<=65535 at l;have w:=rc (nth h.K i).d;have y:=Ee h i ⟨ω,λ_ _=>tV1⟩ ⟨by show h.G.F.O.M.length<=_;omega,λ_ _=>tV1⟩ c.L.sok k;have o:=D5 (nth h.K i).d (f6 h i) ω;change au _ _ _ _ _ (aF .own (iX h i)) at o;have p:=BA (nth h.K i).d (f6 h i);change (iX h i).length<=16 at p;unfold mr;by_cases B:(iX h i).length=0
 ·rw[CL B]
  refine fM 68 [] [(2,7,[16,17,18,19,20,21,22]),(7,12,[42,43,44,45,46,47,48,49,50,51,52,53]),(8,11,[56,57,58,59,60,61,62,63,64,65,66])] [(0,0),(0,0)] Tryz.func368 rfl (λu q=>?_)
  repeat'(first|refine gB ?_|refine CN (y) ⟨⟨rfl,bX h⟩,⟨rfl,rfl⟩,tV1⟩ ?_)
  exact ka
 rw[CJ B];have H:=xU (h:=h) (i:=i) ω;obtain⟨C,D,O⟩:=vg H;have J:=(iE (aJ b).2.2).2.2.1;have r:=rY h.c0 (n:=((iX h i).length:Nat)) ω;have K:=yl h.c0 ((iX h i).length:Nat) ω ω;have M:=Ed (nth h.K i).a9 (pP h i) e ω;have N:=Ef (tL (nth h.K i) (pP h i)) (pP h i) (GB b ⟨C,D⟩) ⟨C,D⟩;have g:(iX h i)[(J5 h.c0 ((iX h i).length:Nat)).toNat]? = some (pP h i):=ar ω;have j:((h.K.map (aB.enc .own)).set i [I (nth h.K i).Q,I (nth h.K i).d,I (iP (nth h.K i).a9 (pP h i))])[i]? = some [I (nth h.K i).Q,I (nth h.K i).d,I (iP (nth h.K i).a9 (pP h i))]:=kY k;unfold rQ;rw[Rp];refine fM 68 [] [(2,7,[16,17,18,19,20,21,22]),(7,12,[42,43,44,45,46,47,48,49,50,51,52,53]),(8,11,[56,57,58,59,60,61,62,63,64,65,66])] [(0,0),(0,0)] Tryz.func368 rfl (λu q=>?_)
 repeat'(first|refine gB ?_|refine CK j ?_|refine CM rfl j rfl ?_|refine CN (y) ⟨⟨rfl,bX h⟩,⟨rfl,rfl⟩,tV1⟩ ?_|refine CQ r.1 (aa g) ?_|refine CU rfl rfl (aa d) rfl (O2 rfl) rfl ?_)
 refine CP rfl ?_ ?_
 ·rfl
 exact wC
def Ap.ins{e:α->List C}{xs:List α}{y:α}{r:List C}{sz by_:Nat}{K:List (List C)->Prop}(a:r=e y)(h2:∀y,(e y).length=sz)(b:∀y,bp (e y)=true)(g:xs.length<=1048576)(c:by_<=1000)(d:K ((xs.take i++y::xs.drop i).map e)):Ap true ((xs.take i).map e++[r]) ((xs.drop i).map e) sz by_ K:=by
 subst a;have f:(xs.take i).length+1+(xs.drop i).length<=3145728:=by rw[I3,C6];omega
 refine Ca (λr a=>?_) (aM h2) (λ_ r a=>by obtain⟨y,-,rfl⟩:=O8.1 a;exact b y) (by simp only[O5,I2,List.length_singleton];omega) (by simp only[O5,I2,List.length_singleton];exact I9 (Nat.mul_le_mul f c) qs) ?_ d
 ·rcases z5.1 a with a|a
  ·exact aM h2 r a
  rw[z3.1 a];exact h2 y
 rw[OB,IC,IB];rfl
def oC{p:α->Bool}{xs:List α}{y:α}(h:mt p xs=i):lA p xs y=xs.take i++y::xs.drop i:=by unfold lA;rw[h]
def PL(h:ac)(c:Int):ac × Int:=
 if(ay h.o 1).2.2=false then(h,-1)
 else if(newK h.G (ay h.o 1).2.1).2=false then({h with G:=(newK h.G (ay h.o 1).2.1).1},-1)
 else(oz h c,(o8 h:Nat))
def GI(h:ac)(E:List Int)(c:Nat)(g:aY h E)(H:h.G.Calls<=90000):zzB 369 false [.ptr (bR h),.vI (c:Nat)] [.ptr (bR (PL h c).1),.vI (c:Nat)] .one [I (PL h c).2]:=by
 have B:=g.lens;have J:=B.spans;have K:eQ h<=32:=B.ents;have C:=jF h;have l:=se (eQ h:Nat) h.o 1 ⟨ω,ω⟩ g.rng qs (by have:=B.free;omega);unfold Zb at l;have d:=jQ g (O9 1);unfold PL oz o8;generalize ay h.o 1=r at l d |-;obtain⟨o,p,ok⟩:=r;simp only at l d |-;cases ok with
 | false=>
  rw[CL rfl];refine fM 79 [(373,[2,0]),(2000010,[0,6])] [(1,267,[11,12,13,14,15,16,17,10,18,19,20,0,1,2,3,4,5,6,7,8,9,10,11,1009,1010,12,1010,13])] [(0,0),(0,0)] Tryz.func369 rfl (λu q=>?_)
  repeat'(first|refine gP ?_|refine CN (C) ⟨bX h,tV1⟩ ?_|refine CN (l) ⟨⟨rfl,rfl⟩,⟨rfl,fm h.o⟩,⟨rfl,rfl⟩,tV1⟩ ?_)
  exact ka
 | true=>
  rw[CJ (by simp)];obtain⟨L,M,N,U⟩:=d rfl;have D:0<=p/\p<h.G.F.O.M.length:=⟨L,by have:p+1<=((tbl h).M.length:Nat):=M;unfold tbl at this;omega⟩
  have t:=Lk h p g.ker ω D (N p.toNat ω ω);generalize newK h.G p=w at t |-;obtain⟨k,b⟩:=w;simp only at t |-;cases b with
  | false=>
   rw[CL rfl];refine fM 79 [(373,[2,0]),(2000010,[0,6])] [(1,267,[11,12,13,14,15,16,17,10,18,19,20,0,1,2,3,4,5,6,7,8,9,10,11,1009,1010,12,1010,13])] [(0,0),(0,0)] Tryz.func369 rfl (λu q=>?_)
   repeat'(first|refine gP ?_|refine CN (C) ⟨bX h,tV1⟩ ?_|refine CN (l) ⟨⟨rfl,rfl⟩,⟨rfl,fm h.o⟩,⟨rfl,rfl⟩,tV1⟩ ?_)
   exact ka
  | true=>
   rw[CJ (by simp)];refine fM 79 [(373,[2,0]),(2000010,[0,6])] [(1,267,[11,12,13,14,15,16,17,10,18,19,20,0,1,2,3,4,5,6,7,8,9,10,11,1009,1010,12,1010,13])] [(0,0),(0,0)] Tryz.func369 rfl (λu q=>?_)
   repeat'(first|refine gP ?_|refine CN (C) ⟨bX h,tV1⟩ ?_|refine CN (l) ⟨⟨rfl,rfl⟩,⟨rfl,fm h.o⟩,⟨rfl,rfl⟩,tV1⟩ ?_)
   refine gK h.K.length (λi=>[(0,bB (bR {h with G:=k,o:=o})),(1,fN c),(6,fI p),(8,fN i)]) (λi=>∀(j:Nat)(z:aB),j<i->h.K[j]? = some z->J4 p z=false) (λj z V=>ω) λi g=>?_
   obtain⟨O,F⟩:=g;have P:({h with G:=k,o:=o} : ac).K.length=h.K.length:=rfl;by_cases Q:i<h.K.length/\(nth h.K i).Q<p
   ·have n:=ar Q.1
    refine σE ?_
    (exact cV (i+1) ⟨ω,fh n (C1 ω) F⟩)
   have a:mt (J4 p) h.K=i:=oQ ω F λz G=>by
    have R:=(C4.1 G).1;have:z=nth h.K i:=(br G).symm;subst this;exact O0 ω
   have n:i<h.K.length->h.K[i]? = some (nth h.K i):=λS=>ar S
   rw[show addS h k o p (c:Nat) = {h with G:=k,o:=o,K:=h.K.take i++⟨p,(c:Nat),0⟩::h.K.drop i} by unfold addS;rw[oC a],a]
   repeat'(first|refine gE ?_|with_reducible refine CK (aa (n ω)) ?_|refine gS (λT=>?_) (λT=>?_)|refine CM rfl (aa (n ω)) rfl ?_|refine Le.mk rfl (Bc h.K) rfl ?_|refine Cc i rfl (by rw[I2];omega) (aM λ_=>rfl) C8 ?_|refine Cj i rfl (by rw[I2];omega) (aM λ_=>rfl) I8 ?_|refine CZ (λ_=>rfl) (λ_=>rfl) (by rw[I3];omega) qs ?_|refine Ci (aM λ_=>rfl) rfl (by rw[I2,I3];omega) qs rfl ?_|refine Ap.ins (e:=aB.enc .S) (y:=⟨p,(c:Nat),0⟩) rfl (λ_=>rfl) (λ_=>rfl) ω qs ?_)
   all_goals
    exact ka
def yz(a:i<h.K.length)(b:qQ h c i=true)(d:∀j,j<i->qQ h c j=false):qt h c=some i:=
 List.find?_range_eq_some.2 ⟨b,List.mem_range.2 a,λj e=>by rw[d j e];rfl⟩
def yU(a:∀j,j<h.K.length->qQ h c j=false):qt h c=none:=
 List.find?_range_eq_none.2 λj b=>by rw[a j b];rfl
def n7(a:qQ h c i=false)(b:∀j,j<i->qQ h c j=false):∀j,j<i+1->qQ h c j=false:=λj d=>by
 by_cases e:j=i
 ·rw[e];exact a
 exact b j ω
def Re(h:ac)(t:Nat)(c:aE):bR {h with R:=h.R.set t c} = (bR h).set 9 (.s .own ((h.R.map (aE.enc .own)).set t (aE.enc .own c))):=by
 simp[bR,SC]
def Mp{c:Nat}(b:aY h [])(k:c<=3)(e:h.G.Calls<=90000)(h1:¬(ay h.o 1).2.2=false)(h2:¬(newK h.G (ay h.o 1).2.1).2=false):aY (oz h c) []/\o8 h<(oz h c).K.length:=by
 have a:(ay h.o 1).2.2=true:=by simpa using h1
 obtain⟨f,g,i,l⟩:=jQ b (O9 1) a;have s:=vk.of (p:=(ay h.o 1).2.1) b.ker ω ⟨f,by have:(ay h.o 1).2.1+1<=(h.G.F.O.M.length:Nat):=g;omega⟩ (i _ ω ω);have d:(newK h.G (ay h.o 1).2.1).2=true:=by simpa using h2
 have j:vk h.G (ay h.o 1).2.1 ((newK h.G (ay h.o 1).2.1).1,true):=by rw[<-d];exact s
 exact⟨b.addS (c:=c) ⟨ω,ω⟩ a j,(HW (J4 (ay h.o 1).2.1) h.K ⟨(ay h.o 1).2.1,c,0⟩).1⟩
def EA(h:ac)(t c:Nat)(o:aY h [])(M:t<h.R.length)(N:c<=3)(p:h.G.Calls<=90000):zzB 221 false [.ptr (bR h),.vI (t:Nat),.vI (c:Nat)] [.ptr (bR (smallA h t c).1),.vI (t:Nat),.vI (c:Nat)] .one [I (smallA h t c).2]:=by
 have E:=o.cach _ (ax M);have e:=ar M;have r:=AJ (nth h.R t) c E N;have Q:=o.lens.spans;have B:=o;unfold YW at r;by_cases F:0<(nth (nth h.R t).Y c).length
 ·unfold smallA
  rw[CL F]at r |-;simp only;rw[Re];refine fM 80 [(368,[2,0]),(369,[2,0])] [(3,6,[27,28,29,30,31,32])] [(0,0),(0,0),(0,0)] Tryz.func221 rfl (λu q=>?_)
  repeat'(first|refine gP ?_|refine CN (r) ⟨⟨rfl,Cm _⟩,⟨rfl,rfl⟩,tV1⟩ ?_|refine CU rfl rfl (aa e) rfl (O2 rfl) rfl ?_)
  exact ka
 rw[CJ F]at r;have d:smallA h t c=match qt h c with
  | some i=>(slotT h i,rQ h i)
  | none=>if(ay h.o 1).2.2=false then(h,-1)
   else if(newK h.G (ay h.o 1).2.1).2=false then({h with G:=(newK h.G (ay h.o 1).2.1).1},-1)
   else mr (oz h c) (o8 h):=by unfold smallA;exact CJ F
 refine fM 80 [(368,[2,0]),(369,[2,0])] [(3,6,[27,28,29,30,31,32])] [(0,0),(0,0),(0,0)] Tryz.func221 rfl (λu q=>?_)
 repeat'(first|refine gP ?_|refine CN (r) ⟨⟨rfl,Cm _⟩,⟨rfl,rfl⟩,tV1⟩ ?_)
 refine gK h.K.length (λi=>[(0,bB (bR h)),(1,fN t),(2,fN c),(10,fN i)]) (λi=>∀j,j<i->qQ h c j=false) (λj W=>ω) λi o=>?_
 obtain⟨R,w⟩:=o;by_cases C:i<h.K.length
 ·have l:=ar C
  by_cases O:(nth h.K i).d=c
  ·have y:=yr h (nth h.K i).Q
   cases D:gq h (nth h.K i).Q with
   | true=>
    rw[D]at y
    repeat'(first|refine gB ?_|refine CN (y) ⟨bX h,⟨rfl,rfl⟩,tV1⟩ ?_)
    (exact cV (i+1) ⟨ω,n7 (by unfold qQ;rw[D];simp) w⟩)
   | false=>
    rw[D]at y;have n:=wo h [] i B C;unfold mr at n;by_cases P:(iX h i).length=0
    ·rw[CL P]at n
     repeat'(first|refine gB ?_|refine CN (y) ⟨bX h,⟨rfl,rfl⟩,tV1⟩ ?_)
     (exact cV (i+1) ⟨ω,n7 (by unfold qQ;rw[C1 (by omega:¬0<(iX h i).length)];simp) w⟩)
    rw[CJ P]at n;have G:qt h c=some i:=yz C (by unfold qQ;rw[O0 O,D,O0 ω];rfl) w;rw[G]at d;simp only at d;obtain⟨S,T⟩:=B.slotT C (by omega:0<(iX h i).length);have H:=k7.nn S T;rw[d];generalize slotT h i=g at n |-;generalize rQ h i=a at n H |-
    repeat'(first|refine gB ?_|refine CN (y) ⟨bX h,⟨rfl,rfl⟩,tV1⟩ ?_)
    exact ka
  refine σB ?_
  (exact cV (i+1) ⟨ω,n7 (by unfold qQ;rw[C1 O];rfl) w⟩)
 obtain rfl:i=h.K.length:=ω
 have G:qt h c=none:=yU w;rw[G]at d;simp only at d;have k:=GI h [] c B p;rw[d];unfold PL at k;by_cases J:(ay h.o 1).2.2=false
 ·rw[CL J]at k |-
  refine σE ?_
  exact ka
 rw[CJ J]at k |-;by_cases K:(newK h.G (ay h.o 1).2.1).2=false
 ·rw[CL K]at k |-
  refine σE ?_
  exact ka
 rw[CJ K]at k |-;obtain⟨U,V⟩:=Mp B N p J K;have L:=wo (oz h c) [] (o8 h) U V;generalize oz h c=g at k L |-;generalize o8 h=b at k L |-
 refine σE ?_
 exact ka
def EG(h:ac)(size:Int):ac × Int:=
 if(ay h.o (iO size:Nat)).2.2=false then(h,-1)
 else if(fp h size).2=iO size then({h with G:=(fp h size).1,o:=(ay h.o (iO size:Nat)).1,H:=lA (VE (ay h.o (iO size:Nat)).2.1) h.H ⟨(ay h.o (iO size:Nat)).2.1,(iO size:Nat),size⟩},16*(ay h.o (iO size:Nat)).2.1)
 else({h with G:=unmN (fp h size).1 (ay h.o (iO size:Nat)).2.1 (fp h size).2},-1)
def Af(k:ah)(p:Int)(i:Nat):newsK k p (i+1)=if(newsK k p i).2=i then((newK (newsK k p i).1 (p+(i:Nat))).1,if(newK (newsK k p i).1 (p+(i:Nat))).2=true then i+1 else i) else newsK k p i:=rfl
def KX(k:ah)(p:Int):∀i,(newsK k p i).2<=i
 | 0=>C5 _
 | i+1=>by
  have b:=KX k p i;rw[Af];by_cases e:(newsK k p i).2=i
  ·rw[CL e]
   show(if _ then i+1 else i)<=i+1;by_cases a:(newK (newsK k p i).1 (p+(i:Nat))).2=true
   ·rw[CL a];exact C5 _
   rw[CJ a];exact Nat.le_succ _
  rw[CJ e];omega
def lI{k:ah}{p:Int}{i:Nat}(h:(newsK k p i).2≠i):∀j,newsK k p (i+j)=newsK k p i/\(newsK k p (i+j)).2<i+j
 | 0=>⟨rfl,by show(newsK k p i).2<i;have:=KX k p i;omega⟩
 | j+1=>by
  have a:=lI h j;have e:newsK k p (i+(j+1))=newsK k p (i+j):=by
   show newsK k p (i+j+1)=_;rw[Af,CJ ω]
  exact⟨e.trans a.1,by rw[e];omega⟩
def E2(h:ac)(size:Int)(l:aY h [])(C:9<=size/\size<=1000)(U:h.G.Calls<=90000):zzB 222 false [.ptr (bR h),.vI size] [.ptr (bR (EG h size).1),.vI size] .one [I (EG h size).2]:=by
 have D:=l.lens;have V:=D.larges;have P:=l;have E:eQ h<=32:=D.ents;have F:fF size=((iO size:Nat):Int):=by unfold fF iO;split<;>omega
 have hN:1<=iO size/\iO size<=63:=by unfold iO;omega
 have G:=pM size;rw[F]at G;have Q:=jF h;have t:=se (eQ h:Nat) h.o (iO size:Nat) ⟨ω,ω⟩ l.rng ⟨ω,ω⟩ (by have:=D.free;omega);unfold Zb at t;have b:=jQ l (show(1:Int)<=(iO size:Nat) by omega);unfold EG fp;generalize iO size=N at *;generalize ay h.o (N:Nat)=r at t b |-;obtain⟨H,p,ok⟩:=r;simp only at t b |-;refine fM 105 [(373,[2,0]),(374,[2,0]),(2000018,[0,7])] [(2,268,[16,17,18,19,20,21,22,23,15,24,25,26,0,1,2,3,4,5,6,7,8,9,10,11,12,1010,1011,13,1011,14])] [(0,0),(0,0)] Tryz.func222 rfl (λu q=>?_);cases ok with
 | false=>
  rw[CL rfl]
  repeat'(first|refine gP ?_|refine CN (Q) ⟨bX h,tV1⟩ ?_|refine CN (t) ⟨⟨rfl,rfl⟩,⟨rfl,fm h.o⟩,⟨rfl,rfl⟩,tV1⟩ ?_)
  exact ka
 | true=>
  rw[CJ (by simp)];obtain⟨R,J,B,u4⟩:=b rfl;change p+(N:Nat)<=(h.G.F.O.M.length:Nat) at J;change ∀q:Nat,p<=q->(q:Int)<p+(N:Nat)->(nth h.G.F.O.M q).e=0 at B
  have W:h.G.F.O.M.length<=32:=E
  repeat'(first|refine gP ?_|refine CN (Q) ⟨bX h,tV1⟩ ?_|refine CN (t) ⟨⟨rfl,rfl⟩,⟨rfl,fm h.o⟩,⟨rfl,rfl⟩,tV1⟩ ?_)
  refine gK N (λi=>[(0,bB (bR {h with G:=(newsK h.G p i).1})),(1,fI size),(5,fN N),(6,bJ (bw .own H)),(7,fI p),(9,fN i)]) (λi=>(newsK h.G p i).2=i) rfl λi l=>?_
  obtain⟨K,L⟩:=l;have s:=gI.of (p:=p) (n:=N) P.ker ω ⟨R,J⟩ B i K;have X:=s.calls;have Y:=s.len;by_cases li:i<N
  ·have M:(nth (newsK h.G p i).1.F.O.M (p+(i:Nat)).toNat).e=0:=by
    rw[s.out _ (by rw[L];omega)];exact B _ ω ω
   have c:=Lk {h with G:=(newsK h.G p i).1} (p+(i:Nat)) s.ker (by show(newsK h.G p i).1.Calls≠100000;omega) ⟨ω,by show p+(i:Nat)<((newsK h.G p i).1.F.O.M.length:Nat);omega⟩ M;have a:newsK h.G p (i+1)=((newK (newsK h.G p i).1 (p+(i:Nat))).1,if(newK (newsK h.G p i).1 (p+(i:Nat))).2=true then i+1 else i):=by
    show(if(newsK h.G p i).2=i then _ else _)=_;rw[CL L]
   simp only at c;cases e:(newK (newsK h.G p i).1 (p+(i:Nat))).2 with
   | true=>
    rw[e]at c a;rw[CL rfl]at a;have O:(newK (newsK h.G p i).1 (p+(i:Nat))).1=(newsK h.G p (i+1)).1:=by rw[a]
    rw[O]at c
    refine σE ?_
    (exact cV (i+1) ⟨ω,by rw[a]⟩)
   | false=>
    rw[e]at c a;rw[CJ (by simp)]at a;have d:=lI (k:=h.G) (p:=p) (i:=i+1) (by rw[a];simp only;omega) (N - (i+1));rw[show i+1+(N - (i+1))=N by omega]at d;rw[d.1]at d;have S:=gI.of (p:=p) (n:=N) P.ker ω ⟨R,J⟩ B (i+1) ω;rw[CJ (by have:=lI (k:=h.G) (p:=p) (i:=i+1) (by rw[a];simp only;omega) (N - (i+1));rw[show i+1+(N - (i+1))=N by omega]at this;omega)];rw[show newsK h.G p N=newsK h.G p (i+1) by have:=lI (k:=h.G) (p:=p) (i:=i+1) (by rw[a];simp only;omega) (N - (i+1));rw[show i+1+(N - (i+1))=N by omega]at this;exact this.1];rw[a]at S |-;have g:=S.ker;simp only at g |-;generalize (newK (newsK h.G p i).1 (p+(i:Nat))).1=k at c g |-
    refine σE ?_
    refine lp0 i (λj=>[(0,bB (bR {h with G:=unmN k p j})),(1,fI size),(5,fN N),(7,fI p),(9,fN i),(10,fN j)]) λj Z=>?_
    have c4:=qR {h with G:=unmN k p j} (p+(j:Nat)) (iI g p j);by_cases lj:j<i
    ·refine σE ?_
     (exact cV (j+1) ω)
    obtain rfl:j=i:=ω
    refine σE ?_
    exact ka
  obtain rfl:i=N:=ω
  rw[CL L];generalize (newsK h.G p i).1=k
  refine σE ?_
  refine gK h.H.length (λm=>[(0,bB (bR {h with G:=k,o:=H})),(1,fI size),(5,fN i),(7,fI p),(11,fN m)]) (λm=>∀(j:Nat)(z:aC),j<m->h.H[j]? = some z->VE p z=false) (λj z Z=>ω) λm hm=>?_
  obtain⟨hm',T⟩:=hm;have hl2:({h with G:=k,o:=H} : ac).H.length=h.H.length:=rfl;by_cases go:m<h.H.length/\(nth h.H m).Q<p
  ·have o:=ar go.1
   refine σE ?_
   (exact cV (m+1) ⟨ω,fh o (C1 ω) T⟩)
  have w:mt (VE p) h.H=m:=oQ ω T λz C=>by
   have hlt:=(C4.1 C).1;have:z=nth h.H m:=(br C).symm;subst this;exact O0 ω
  have o:m<h.H.length->h.H[m]? = some (nth h.H m):=λhh=>ar hh
  rw[oC w]
  repeat'(first|refine gE ?_|with_reducible refine CK (aa (o ω)) ?_|refine gS (λhq=>?_) (λhq=>?_)|refine CM rfl (aa (o ω)) rfl ?_|refine Le.mk rfl (xS h.H) rfl ?_|refine Cc m rfl (by rw[I2];omega) (aM λ_=>rfl) C8 ?_|refine Cj m rfl (by rw[I2];omega) (aM λ_=>rfl) I8 ?_|refine CZ (λ_=>rfl) (λ_=>rfl) (by rw[I3];omega) qs ?_|refine Ci (aM λ_=>rfl) rfl (by rw[I2,I3];omega) qs rfl ?_|refine Ap.ins (e:=aC.enc .S) (y:=⟨p,(i:Nat),size⟩) rfl (λ_=>rfl) (λ_=>rfl) ω qs ?_)
  all_goals
   refine CP rfl ?_ ?_
   ·exact nO ω
   exact wC
end Go.Proofs.YtiopgblagimpmaaGreat.Ab
