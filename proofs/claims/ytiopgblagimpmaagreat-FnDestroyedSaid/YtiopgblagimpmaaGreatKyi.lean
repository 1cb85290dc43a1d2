/- Pages taken, a span begun, a slot taken: the program's, over a heap that is lent. No condition. -/
import Derived.Test.YtiopgblagimpmaaGreatKyc
import Derived.Test.YtiopgblagimpmaaGreatKyh
import Derived.Test.YtiopgblagimpmaaGreatKye
import Derived.Test.YtiopgblagimpmaaGreatKyg
import Derived.Test.YtiopgblagimpmaaGreatKyf
import Derived.ProofKit
import Derived.OpenShut
import Derived.Deep.Slices
import Derived.Deep.Fields
import Derived.ChangeSame
import Derived.WideShapes
set_option linter.unusedVariables false
set_option linter.defProp false
set_option linter.unusedSimpArgs false
set_option linter.constructorNameAsVariable false
namespace Go.Proofs.YtiopgblagimpmaaGreat.Ab
open Go.RowKit
set_option maxRecDepth 20000
set_option maxHeartbeats 4000000
def oF(h:ac):C:=oE (h.j.map (aB.enc .own))
def gI(h:ac):List C:=[.s .own (h.G.F.W.T.map (aH .own)),.s .own (h.G.F.W.a1.map (rB .own)),.s .own (h.G.F.Q.J.map (bh.enc .own)),I h.G.Calls,.s .own (h.G.w.map (rI .own)),oF h,.s .own (h.K.map (aA.enc .own)),.s .own (h.M.map (aF.enc .own)),.s .own (h.O.map (bt.enc .own)),.s .own (h.S.map (aE.enc .own)),.s .own (h.y.U.map (cL .own)),.s .own (h.y.a0.map (aH .own)),I h.a7.b8,.s .own (h.a7.a6.map (aV.enc .own)),I h.b3,I h.b2,I h.b1,I h.b,B h.u,I h.Z.X.a4,I h.Z.X.a2,.s .own (h.Z.X.T.map (rI .own)),I h.Z.b0,I h.Z.b]
def KM(h:ac):List C:=[.x,.x,.x,.x,.x,oF h,.s .own (h.K.map (aA.enc .own)),.s .own (h.M.map (aF.enc .own)),.s .own (h.O.map (bt.enc .own)),.s .own (h.S.map (aE.enc .own)),.s .own (h.y.U.map (cL .own)),.s .own (h.y.a0.map (aH .own)),I h.a7.b8,.s .own (h.a7.a6.map (aV.enc .own)),I h.b3,I h.b2,I h.b1,I h.b,B h.u,I h.Z.X.a4,I h.Z.X.a2,.s .own (h.Z.X.T.map (rI .own)),I h.Z.b0,I h.Z.b]
def RZ(h:ac):fz (oF h)=.s .V (h.j.map (aB.enc .V)):=(UB _).trans (List.cons.inj (ew h.j)).1
def iz(h:ac):dG (gI h)=ac.enc .V h:=by
 have a:=CX h;have b:dG (gI h)=(dG (ac.enc .own h)).set 5 (fz (oF h)):=rfl;rw[b,a,RZ];rfl
variable{h:ac}
def Qi{w:World}{S Y:am}{u:Nat->Value}(d:cP w S Y (ac.enc .own h) u):cP w S Y (gI h) u:=by
 obtain⟨f,b,e,g⟩:=d;refine⟨f,λj c a=>?_,e,g⟩;have i:gI h=(ac.enc .own h).set 5 (oF h):=rfl;rw[i]at a;by_cases k:j=5
 ·subst k
  have:c=oF h:=by simpa[ac.enc] using a.symm
  rw[this];exact T4 (b 5 _ rfl)
 rw[List.getElem?_set_ne ω]at a;exact b j c a
def HQ(h:ac)(a:ac.sml h):zzA 62 false [.val (some 24) (ac.enc .V h)] .agg (gI h):=by
 obtain⟨b,c⟩:=ry h a;refine⟨b,λw S d g i=>(c w S d g i).mono λe w1 j=>?_⟩;obtain⟨v,k,l,X,n,o,p,q,r,t⟩:=j;exact⟨v,k,l,X,n,o,p,q,r,Qi t⟩
def TZ{b:Bool}{X Y:Prop}(h:b=true)(a:X):cond b X Y:=by subst h;exact a
def Ju{b:Bool}{X Y:Prop}(h:b=false)(a:Y):cond b X Y:=by subst h;exact a
def U7(h:ac):bk [oF h]=false\/(bk [oF h]=true/\h.j=[]):=by
 unfold oF;cases a:h.j with
 | nil=>exact .inr ⟨rfl,rfl⟩
 | cons y b=>exact .inl rfl
def Uk(a:bk [oF h]=true):[oF h]=bw .V h.j:=by
 unfold oF at a |-;cases b:h.j with
 | nil=>rfl
 | cons y c=>rw[b]at a;simp[oE,bk,eD]at a
def yJ(h:ac)(n:Nat):ac × Int × Bool:=
 if(ax h.j (n:Nat)).2.2=false then(h,-1,false)
 else if(newsK h.G (ax h.j (n:Nat)).2.1 n).2=n then({h with G:=(newsK h.G (ax h.j (n:Nat)).2.1 n).1,j:=(ax h.j (n:Nat)).1},(ax h.j (n:Nat)).2.1,true)
 else({h with G:=unmN (newsK h.G (ax h.j (n:Nat)).2.1 n).1 (ax h.j (n:Nat)).2.1 (newsK h.G (ax h.j (n:Nat)).2.1 n).2},-1,false)
def pI(h:ac)(n:Nat)(w:aZ h [])(U:h.G.Calls<=90000)(hn:1<=n/\n<=63):zzB 189 false [.ptr (gI h),.val none [I (n:Nat)]] [.ptr (gI (yJ h n).1),.val none [I (n:Nat)]] (.tup [none,none]) [I (yJ h n).2.1,B (yJ h n).2.2]:=by
 have P:eU h<=32:=w.lens.ents;have M:=w;have C:dG [oF h]=bw .V h.j:=Z0 (λy=>[y]) (RZ h);have N:=DG h;have t:=xj (eU h:Nat) h.j (n:Nat) ⟨ω,ω⟩ w.rng ⟨ω,ω⟩ (by have:=w.lens.free;omega);unfold U3 at t;have D:=ix w (show(1:Int)<=(n:Nat) by omega);unfold yJ;have c:bk [oF h]=false\/(bk [oF h]=true/\(ax h.j (n:Nat)).2.2=false):=(U7 h).imp id λg=>⟨g.1,by rw[g.2];rfl⟩
 generalize ax h.j (n:Nat)=r at t D c |-;obtain⟨V,p,ok⟩:=r;simp only at t D c |-;refine fM 76 [] [(1,270,[15,16,17,18,19,20,21,22,23,24,14,25,26,27,0,1,2,3,4,5,6,7,8,9,10,11,12,13,14,1012,1013,15,1013,16])] [(0,0),(0,0)] Tryz.func189 rfl (λu q=>?_) (.inr ⟨trivial,trivial,trivial⟩);rcases c with c|⟨c,Q⟩
 ·cases ok with
   | false=>
    rw[CD rfl];rw[CB (by simp)]at t
    repeat'(first|refine gP ?_|(conv=>whnf);first|refine CC ?_|refine CG (N) ⟨⟨rfl,iz h⟩,trivial⟩ ?_|refine CG (t) ⟨⟨rfl,rfl⟩,⟨rfl,C⟩,⟨rfl,rfl⟩,trivial⟩ ?_|refine CC ?_|refine Ju c ?_)
    refine CH rfl rfl ?_;exact wC
   | true=>
    rw[CB (by simp)];rw[CD rfl]at t;obtain⟨O,L,E,u4⟩:=D rfl;change p+(n:Nat)<=(h.G.F.Q.J.length:Nat) at L;change ∀q:Nat,p<=q->(q:Int)<p+(n:Nat)->(nth h.G.F.Q.J q).e=0 at E
    have W:h.G.F.Q.J.length<=32:=P;cases V with
    | nil=>
      repeat'(first|refine gP ?_|(conv=>whnf);first|refine CC ?_|refine CG (N) ⟨⟨rfl,iz h⟩,trivial⟩ ?_|refine CG (t) ⟨⟨rfl,rfl⟩,⟨rfl,C⟩,⟨rfl,rfl⟩,trivial⟩ ?_|refine CC ?_|refine Ju c ?_)
      (conv=>whnf)
      refine CJ (ι:=Nat) (λi=>[(0,.H .box (KM h)),(1,.H .one [I ((n:Nat):Int)]),(6,.H .one ([oE (([]:List aB).map (aB.enc .own))])),(7,.H .one [I (p)]),(9,.H .box (ah.enc .own (newsK h.G p i).1)),(10,.H .one [I ((i:Nat):Int)])]) (λi=>i<=n/\(newsK h.G p i).2=i) (λi=>n - i) (0) ?_ (⟨X0 _,rfl⟩) λi w=>?_
      ·exact wC
      obtain⟨F,G⟩:=w;have s:=jz.of (p:=p) (n:=n) M.ker ω ⟨O,L⟩ E i F;have R:=s.calls;have S:=s.len;by_cases X:i<n
      ·have H:(nth (newsK h.G p i).1.F.Q.J (p+(i:Nat)).toNat).e=0:=by
        rw[s.out _ (by rw[G];omega)];exact E _ ω ω
       have l:=sW (newsK h.G p i).1 (p+(i:Nat)) s.ker ω ⟨ω,ω⟩ H;have a:newsK h.G p (i+1)=((newK (newsK h.G p i).1 (p+(i:Nat))).1,if(newK (newsK h.G p i).1 (p+(i:Nat))).2=true then i+1 else i):=by
        show(if(newsK h.G p i).2=i then _ else _)=_;rw[CD G]
       cases e:(newK (newsK h.G p i).1 (p+(i:Nat))).2 with
       | true=>
        rw[e]at l a;rw[CD rfl]at a;have J:(newK (newsK h.G p i).1 (p+(i:Nat))).1=(newsK h.G p (i+1)).1:=by rw[a]
        rw[J]at l
        repeat'(first|refine gE ?_|(conv=>whnf);first|refine CC ?_|refine CG (l) ⟨⟨rfl,CR _⟩,⟨rfl,rfl⟩,trivial⟩ ?_)
        ((conv=>whnf);refine CF (i+1) ⟨ω,by rw[a]⟩ ω ?_;(exact wC))
       | false=>
        rw[e]at l a;rw[CB (by simp)]at a;have o:=jK (k:=h.G) (p:=p) (i:=i+1) (by rw[a];simp only;omega) (n - (i+1));rw[show i+1+(n - (i+1))=n by omega]at o;have K:=jz.of (p:=p) (n:=n) M.ker ω ⟨O,L⟩ E (i+1) ω;rw[CB ω,o.1];have b:=K.calls;rw[a]at K b |-;have d:=K.ker;simp only at d b |-;generalize (newK (newsK h.G p i).1 (p+(i:Nat))).1=k at l d b |-
        repeat'(first|refine gE ?_|(conv=>whnf);first|refine CC ?_|refine CG (l) ⟨⟨rfl,CR _⟩,⟨rfl,rfl⟩,trivial⟩ ?_)
        (conv=>whnf)
        refine CJ (ι:=Nat) (λj=>[(0,.H .box (KM h)),(7,.H .one [I (p)]),(9,.H .box (ah.enc .own (unmN k p j))),(10,.H .one [I ((i:Nat):Int)]),(13,.H .one [I (p+(j:Nat))])]) (λj=>j<=i) (λj=>i - j) (0) ?_ (X0 _) λj Y=>?_
        ·exact wC
        have T:=pT (unmN k p j) (p+(j:Nat)) (gZ d p j) (by rw[(fj k p j).2.1];omega);by_cases Z:j<i
        ·repeat'(first|refine gE ?_|(conv=>whnf);first|refine CC ?_|refine CG (T) ⟨⟨rfl,CR _⟩,⟨rfl,rfl⟩,trivial⟩ ?_)
         ((conv=>whnf);refine CF (j+1) ω ω ?_;(exact wC))
        obtain rfl:j=i:=ω
        repeat'(first|refine gE ?_|(conv=>whnf);first|refine CC ?_)
        refine CH rfl rfl ?_;exact wC
      obtain rfl:i=n:=ω
      rw[CD G];generalize (newsK h.G p i).1=k
      repeat'(first|refine gE ?_|(conv=>whnf);first|refine CC ?_)
      refine CH rfl rfl ?_;exact wC
    | cons y ys=>
      repeat'(first|refine gP ?_|(conv=>whnf);first|refine CC ?_|refine CG (N) ⟨⟨rfl,iz h⟩,trivial⟩ ?_|refine CG (t) ⟨⟨rfl,rfl⟩,⟨rfl,C⟩,⟨rfl,rfl⟩,trivial⟩ ?_|refine CC ?_|refine Ju c ?_)
      (conv=>whnf)
      refine CJ (ι:=Nat) (λi=>[(0,.H .box (KM h)),(1,.H .one [I ((n:Nat):Int)]),(6,.H .one ([oE ((y::ys).map (aB.enc .own))])),(7,.H .one [I (p)]),(9,.H .box (ah.enc .own (newsK h.G p i).1)),(10,.H .one [I ((i:Nat):Int)])]) (λi=>i<=n/\(newsK h.G p i).2=i) (λi=>n - i) (0) ?_ (⟨X0 _,rfl⟩) λi w=>?_
      ·exact wC
      obtain⟨F,G⟩:=w;have s:=jz.of (p:=p) (n:=n) M.ker ω ⟨O,L⟩ E i F;have R:=s.calls;have S:=s.len;by_cases X:i<n
      ·have H:(nth (newsK h.G p i).1.F.Q.J (p+(i:Nat)).toNat).e=0:=by
        rw[s.out _ (by rw[G];omega)];exact E _ ω ω
       have l:=sW (newsK h.G p i).1 (p+(i:Nat)) s.ker ω ⟨ω,ω⟩ H;have a:newsK h.G p (i+1)=((newK (newsK h.G p i).1 (p+(i:Nat))).1,if(newK (newsK h.G p i).1 (p+(i:Nat))).2=true then i+1 else i):=by
        show(if(newsK h.G p i).2=i then _ else _)=_;rw[CD G]
       cases e:(newK (newsK h.G p i).1 (p+(i:Nat))).2 with
       | true=>
        rw[e]at l a;rw[CD rfl]at a;have J:(newK (newsK h.G p i).1 (p+(i:Nat))).1=(newsK h.G p (i+1)).1:=by rw[a]
        rw[J]at l
        repeat'(first|refine gE ?_|(conv=>whnf);first|refine CC ?_|refine CG (l) ⟨⟨rfl,CR _⟩,⟨rfl,rfl⟩,trivial⟩ ?_)
        ((conv=>whnf);refine CF (i+1) ⟨ω,by rw[a]⟩ ω ?_;(exact wC))
       | false=>
        rw[e]at l a;rw[CB (by simp)]at a;have o:=jK (k:=h.G) (p:=p) (i:=i+1) (by rw[a];simp only;omega) (n - (i+1));rw[show i+1+(n - (i+1))=n by omega]at o;have K:=jz.of (p:=p) (n:=n) M.ker ω ⟨O,L⟩ E (i+1) ω;rw[CB ω,o.1];have b:=K.calls;rw[a]at K b |-;have d:=K.ker;simp only at d b |-;generalize (newK (newsK h.G p i).1 (p+(i:Nat))).1=k at l d b |-
        repeat'(first|refine gE ?_|(conv=>whnf);first|refine CC ?_|refine CG (l) ⟨⟨rfl,CR _⟩,⟨rfl,rfl⟩,trivial⟩ ?_)
        (conv=>whnf)
        refine CJ (ι:=Nat) (λj=>[(0,.H .box (KM h)),(7,.H .one [I (p)]),(9,.H .box (ah.enc .own (unmN k p j))),(10,.H .one [I ((i:Nat):Int)]),(13,.H .one [I (p+(j:Nat))])]) (λj=>j<=i) (λj=>i - j) (0) ?_ (X0 _) λj Y=>?_
        ·exact wC
        have T:=pT (unmN k p j) (p+(j:Nat)) (gZ d p j) (by rw[(fj k p j).2.1];omega);by_cases Z:j<i
        ·repeat'(first|refine gE ?_|(conv=>whnf);first|refine CC ?_|refine CG (T) ⟨⟨rfl,CR _⟩,⟨rfl,rfl⟩,trivial⟩ ?_)
         ((conv=>whnf);refine CF (j+1) ω ω ?_;(exact wC))
        obtain rfl:j=i:=ω
        repeat'(first|refine gE ?_|(conv=>whnf);first|refine CC ?_)
        refine CH rfl rfl ?_;exact wC
      obtain rfl:i=n:=ω
      rw[CD G];generalize (newsK h.G p i).1=k
      repeat'(first|refine gE ?_|(conv=>whnf);first|refine CC ?_)
      refine CH rfl rfl ?_;exact wC
 subst Q;rw[CD rfl];rw[CB (by simp)]at t
 repeat'(first|refine gP ?_|(conv=>whnf);first|refine CC ?_|refine CG (N) ⟨⟨rfl,iz h⟩,trivial⟩ ?_|refine CG (t) ⟨⟨rfl,rfl⟩,⟨rfl,Uk c⟩,⟨rfl,rfl⟩,trivial⟩ ?_|refine CC ?_|refine TZ c ?_)
 refine CH rfl rfl ?_;exact wC
def wx(h:ac)(p c:Int)(w:h.K.length<=4096):zzB 190 false [.ptr (gI h),.val (some 3) [I p,I c,I 0]] [.ptr (gI {h with K:=ju (D8 p) h.K ⟨p,c,0⟩}),.val (some 3) [I p,I c,I 0]] .one [I (jg (D8 p) h.K:Nat)]:=by
 refine fM 40 [(342,[1,0,1])] [(2,18,[6,7,8,9,10,11,12,13,14,15,16,17,18,19,20,21,22,23]),(4,264,[28,29,30,31,32,33,34,35,0,1,2,3,4,5,6,7,8,1000,9,10,11])] [(0,0),(0,0)] Tryz.func190 rfl (λu q=>?_)
 repeat'(first|refine gP ?_|(conv=>whnf);first|refine CC ?_)
 (conv=>whnf)
 refine CJ (ι:=Nat) (λi=>[(0,.H .box (gI h)),(3,.H .box ([I p,I c,I 0])),(5,.H .one [I ((i:Nat):Int)])]) (λi=>i<=h.K.length/\∀(j:Nat)(z:aA),j<i->h.K[j]? = some z->D8 p z=false) (λi=>h.K.length - i) (0) ?_ (⟨X0 _,λj z y=>ω⟩) λi g=>?_
 ·exact wC
 obtain⟨k,d⟩:=g;by_cases l:i<h.K.length/\(nth h.K i).R<p
 ·have b:=au l.1
  repeat'(first|refine gE ?_|(conv=>whnf);first|with_reducible refine CE (aa b) ?_|refine CC ?_|refine CK rfl (aa b) rfl ?_)
  ((conv=>whnf);refine CF (i+1) ⟨ω,eg b (W0 ω) d⟩ ω ?_;(exact wC))
 have a:jg (D8 p) h.K=i:=m7 ω d λz e=>by
  have n:=(Z2.1 e).1;have:z=nth h.K i:=(bn e).symm;subst this;exact O0 ω
 have b:i<h.K.length->h.K[i]? = some (nth h.K i):=λo=>au o
 have r:=GD h.K i ⟨p,c,0⟩ ω ω;rw[mz a,a]
 repeat'(first|refine gE ?_|(conv=>whnf);first|with_reducible (first|refine CE (aa (b ω)) ?_|refine Bf.D (λt=>?_) (λt=>?_))|refine CC ?_|refine CK rfl (aa (b ω)) rfl ?_|refine CL (r) (.inl rfl) ?_)
 all_goals
  refine CH rfl rfl ?_;exact wC
def HY(h:ac)(i:Nat):gI (slotT h i)=((gI h).set 14 (I (Aw h.b3))).set 6 (.s .own ((h.K.map (aA.enc .own)).set i [I (nth h.K i).R,I (nth h.K i).d,I (gx (nth h.K i).a9 (nt h i))])):=by
 simp[gI,slotT,qL,Z6,aA.enc,oF]
def zN(h:ac)(E:List Int)(i:Nat)(a:aZ h E)(b:i<h.K.length)(p:(gL h i).length=0):zzA 188 false [.ptr (ac.enc .V h),.val none [I (i:Nat)]] (.tup [none,none]) [I (-1),B false]:=by
 have g:=au b;have c:=a.L.sok _ (ar b);have d:=dP c;have j:=(br.1 (aG.1 a.ker).2.2.1).2.2;have n:=a.lens.spans;have e:=lG a.L.sok (ps:=aW h (nth h.K i).R) d (aW h (nth h.K i).R).length;change 0<=dL h i/\dL h i<=65535 at e;have o:=gh (nth h.K i).d;have k:=rn h i ⟨ω,λ_ _=>trivial⟩ ⟨by show h.G.F.Q.J.length<=_;omega,λ_ _=>trivial⟩ a.L.sok b;rw[vE a.L.sok b]at k;have l:=qf (nth h.K i).d (dL h i) ω;change ay _ _ _ _ _ (aH .own (gL h i)) at l;refine fO 63 [(2,7,[17,18,19,20,21,22,23]),(7,12,[43,44,45,46,47,48,49,50,51,52,53,54]),(8,5,[57,58,59,60,61])] Tryz.func188 rfl ?_ (.inr ⟨trivial,trivial,trivial⟩)
 repeat'(first|refine gB ?_|(conv=>whnf);first|refine CC ?_|refine CE (aa g) ?_|refine CK rfl (aa g) rfl ?_|refine C9 (o) ?_|refine C9 (k) ?_|refine C9 (l) ?_|refine CC ?_)
 rfl
def oU(h:ac)(E:List Int)(i:Nat)(b:aZ h E)(j:i<h.K.length):zzB 188 false [.ptr (gI h),.val none [I (i:Nat)]] [.ptr (gI (iN h i).1),.val none [I (i:Nat)]] (.tup [none,none]) [I (iN h i).2,B (decide (0<(gL h i).length))]:=by
 have F:=b.lens.spans;have d:=au j;have c:=b.L.sok _ (ar j);have e:=dP c;have a:=b.nums;unfold cq at a;rw[C0]at a;have y:=(br.1 (aG.1 b.ker).2.2.1).2.2;have k:=lG b.L.sok (ps:=aW h (nth h.K i).R) e (aW h (nth h.K i).R).length;change 0<=dL h i/\dL h i<=65535 at k;have C:=gh (nth h.K i).d;have l:=rn h i ⟨ω,λ_ _=>trivial⟩ ⟨by show h.G.F.Q.J.length<=_;omega,λ_ _=>trivial⟩ b.L.sok j;rw[vE b.L.sok j]at l;have o:=qf (nth h.K i).d (dL h i) ω;change ay _ _ _ _ _ (aH .own (gL h i)) at o;have p:=y7 (nth h.K i).d (dL h i);change (gL h i).length<=16 at p;unfold iN;by_cases D:(gL h i).length=0
 ·rw[CD D,W0 ω]
  refine fM 63 [] [(2,7,[17,18,19,20,21,22,23]),(7,12,[43,44,45,46,47,48,49,50,51,52,53,54]),(8,5,[57,58,59,60,61])] [(0,0),(0,0)] Tryz.func188 rfl (λu q=>?_) (.inr ⟨trivial,trivial,trivial⟩)
  repeat'(first|refine gB ?_|(conv=>whnf);first|refine CC ?_|refine CE (aa d) ?_|refine CK rfl (aa d) rfl ?_|refine C9 (C) ?_|refine CG (l) ⟨⟨rfl,iz h⟩,⟨rfl,rfl⟩,trivial⟩ ?_|refine C9 (o) ?_|refine CC ?_)
  refine CH rfl rfl ?_;exact wC
 rw[CB D,O0 ω];have G:=ve (h:=h) (i:=i) ω;obtain⟨H,O,P⟩:=rH G;have J:=(gr (aI c).2.2).2.2.1;have r:=sq h.b3 (n:=((gL h i).length:Nat)) ω;have K:=FL h.b3 ((gL h i).length:Nat) ω ω;have M:=A3 (nth h.K i).a9 (nt h i) e ω;obtain⟨N,t⟩:=O3 H;have w:=rq (nth h.K i) N c ω;unfold k7 at w;rw[<-t]at w;have g:(gL h i)[(KN h.b3 ((gL h i).length:Nat)).toNat]? = some (nt h i):=au ω;unfold pB;rw[HY];refine fM 63 [] [(2,7,[17,18,19,20,21,22,23]),(7,12,[43,44,45,46,47,48,49,50,51,52,53,54]),(8,5,[57,58,59,60,61])] [(0,0),(0,0)] Tryz.func188 rfl (λu q=>?_) (.inr ⟨trivial,trivial,trivial⟩)
 repeat'(first|refine gB ?_|(conv=>whnf);first|refine CC ?_|refine CE (aa d) ?_|refine CK rfl (aa g) rfl ?_|refine CK rfl (aa d) rfl ?_|refine C9 (C) ?_|refine CG (l) ⟨⟨rfl,iz h⟩,⟨rfl,rfl⟩,trivial⟩ ?_|refine C9 (o) ?_|refine C9 (K) ?_|refine C9 (M) ?_|refine C9 (w) ?_|refine CO r.1 (aa g) ?_|refine CC ?_|refine CQ rfl rfl (aa d) rfl (O1 rfl) rfl ?_)
 refine CH rfl ?_ ?_
 ·rfl
 exact wC
def MJ(k:ah)(p:Int):newsK k p 1=((newK k p).1,if(newK k p).2=true then 1 else 0):=by
 show(if(0:Nat)=0 then((newK k (p+((0:Nat):Int))).1,if(newK k (p+((0:Nat):Int))).2=true then 0+1 else 0) else(k,0))=_;rw[CD rfl,show p+((0:Nat):Int)=p by omega]
def Ms(h:ac):yJ h 1=if(ax h.j 1).2.2=false then(h,-1,false)
  else if(newK h.G (ax h.j 1).2.1).2=false then({h with G:=(newK h.G (ax h.j 1).2.1).1},-1,false)
  else({h with G:=(newK h.G (ax h.j 1).2.1).1,j:=(ax h.j 1).1},(ax h.j 1).2.1,true):=by
 unfold yJ;rw[show((1:Nat):Int)=1 from rfl,MJ];cases e:(newK h.G (ax h.j 1).2.1).2
 ·simp[unmN]
 simp
def PH(h:ac)(a:C):List C:=(gI h).set 9 a
def qN(h:ac)(a:C):Prop:=fz a=.s .V (h.S.map (aE.enc .V))
def Ra{a:C}(b:qN h a):dG (PH h a)=ac.enc .V h:=by
 have c:dG (PH h a)=(dG (gI h)).set 9 (fz a):=rfl;rw[c,iz,b];rfl
def qN.own(h:ac):qN h (.s .own (h.S.map (aE.enc .own))):=by
 have a:=Z0 (λl:List C=>l[9]?) (iz h);have b:(dG (gI h))[9]? = some (fz (.s .own (h.S.map (aE.enc .own)))):=rfl;have c:(ac.enc .V h)[9]? = some (.s .V (h.S.map (aE.enc .V))):=rfl;simp only[b,c,C1]at a;exact a
def UK(h:ac)(t c:Nat):C:=.s .own ((h.S.map (aE.enc .own)).set t [.s .own (((nth h.S t).a.map (aH .own)).set c (aH .V ((nth (nth h.S t).a c).take ((nth (nth h.S t).a c).length - 1))))])
def TA(h:ac)(t c:Nat):qN {h with S:=h.S.set t (qM (nth h.S t) c)} (UK h t c):=by
 have b:fz (.s .own (h.S.map (aE.enc .own)))=.s .V (h.S.map (aE.enc .V)):=qN.own h;have e:∀a:List (List C),fz (.s .own a)=.s .V (a.map dG):=λa=>by rw[TJ];congr 1;apply List.map_congr_left;intro r _;rw[ch]
 unfold qN UK;rw[e]at b |-;simp only[C.s.injEq,true_and]at b |-;rw[Z6,b,Z6]
 congr 1
 have d:=Cg (qM (nth h.S t) c);rw[FD]at d;rw[<-d];simp only[dG,e,Z6]
 congr 3
def LB(h:ac){t:Nat}(a:t<h.S.length)(r:List C):gI h=((gI h).set 9 (.s .own ((h.S.map (aE.enc .own)).set t r))).set 9 (.s .own (((h.S.map (aE.enc .own)).set t r).set t (aE.enc .own (nth h.S t)))):=by
 have e:(h.S.map (aE.enc .own)).set t (aE.enc .own (nth h.S t))=h.S.map (aE.enc .own):=by
  rw[<-Z6,Kn a]
 rw[List.set_set,List.set_set,e];rfl
def zf(h:ac)(t c:Nat)(o:aZ h [])(E:t<h.S.length)(T:c<=3)(r:h.G.Calls<=90000):∃W,qN (smallA h t c).1 W/\zzB 65 false [.ptr (gI h),.val none [I (t:Nat)],.val none [I (c:Nat)]] [.ptr (PH (smallA h t c).1 W),.val none [I (t:Nat)],.val none [I (c:Nat)]] (.tup [none,none]) [I (smallA h t c).2,B (decide (0<=(smallA h t c).2))]:=by
 have w:=o.cach _ (ar E);have hl4:=m8 w;have d:=au E;have F:=yj (nth h.S t) c w T;have hls:=o.lens.spans;have C:=o;have G:=LB h E;unfold UU at F;by_cases N:0<(nth (nth h.S t).a c).length
 ·obtain⟨O,H⟩:=o.pop E ω N (KG w c)
  have k:=j9.nn o H;unfold smallA;rw[CD N]at F |-;refine⟨UK h t c,TA h t c,?_⟩;simp only;rw[O0 k];refine fM 86 [(186,[1,0]),(188,[2,0]),(189,[2,0]),(190,[2,0]),(4000062,[]),(5000077,[])] [(3,6,[31,32,33,34,35,36]),(8,10,[49,50,51,52,53,54,55,56,57,58])] [(0,0),(0,0),(0,0)] Tryz.func65 rfl (λu q=>?_) (.inr ⟨trivial,trivial,trivial⟩)
  repeat'(first|refine gP ?_|(conv=>whnf);first|with_reducible refine CE (aa d) ?_|refine CC ?_|refine CE (eZ d) ?_|refine CK rfl (aa d) rfl ?_|refine CK rfl (eZ d) rfl ?_|refine Lq.one rfl rfl (aa d) rfl (O1 rfl) rfl rfl ?_|refine CL (F) (.inl rfl) ?_|refine CC ?_|refine CQ rfl rfl (eZ d) rfl (O1 rfl) (G _) ?_|refine CQ rfl rfl (aa d) rfl (O1 rfl) rfl ?_)
  refine CH rfl rfl ?_;exact wC
 rw[CB N]at F;refine⟨_,qN.own _,?_⟩;change aM _ _ _ _ [.ptr (gI (smallA h t c).1),_,_] _ _;have e:smallA h t c=match og h c with
  | some i=>(slotT h i,pB h i)
  | none=>if(ax h.j 1).2.2=false then(h,-1)
   else if(newK h.G (ax h.j 1).2.1).2=false then({h with G:=(newK h.G (ax h.j 1).2.1).1},-1)
   else iN (mg h c) (mc h):=by unfold smallA;exact CB N
 refine fM 86 [(186,[1,0]),(188,[2,0]),(189,[2,0]),(190,[2,0]),(4000062,[]),(5000077,[])] [(3,6,[31,32,33,34,35,36]),(8,10,[49,50,51,52,53,54,55,56,57,58])] [(0,0),(0,0),(0,0)] Tryz.func65 rfl (λu q=>?_) (.inr ⟨trivial,trivial,trivial⟩)
 repeat'(first|refine gP ?_|(conv=>whnf);first|with_reducible refine CE (aa d) ?_|refine CC ?_|refine CE (eZ d) ?_|refine CK rfl (aa d) rfl ?_|refine CK rfl (eZ d) rfl ?_|refine Lq.one rfl rfl (aa d) rfl (O1 rfl) rfl rfl ?_|refine CL (F) (.inl rfl) ?_|refine CC ?_|refine CQ rfl rfl (eZ d) rfl (O1 rfl) (G _) ?_)
 (conv=>whnf)
 refine CJ (ι:=Nat) (λi=>[(0,.H .box (gI h)),(2,.H .one [I ((c:Nat):Int)]),(42,.b9 0 6 [] none),(43,.H .one [I (h.K.length)]),(44,.H .one [I ((i:Nat):Int)])]) (λi=>i<=h.K.length/\∀j,j<i->nU h c j=false) (λi=>h.K.length - i) (0) ?_ (⟨X0 _,λj hj=>ω⟩) λi o=>?_
 ·exact wC
 obtain⟨hi1,J⟩:=o;by_cases K:i<h.K.length
 ·have n:=au K
  by_cases X:(nth h.K i).d=c
  ·have L:=LC h (nth h.K i).R
   cases P:fH h (nth h.K i).R with
   | true=>
    rw[P]at L
    repeat'(first|refine gB ?_|(conv=>whnf);first|with_reducible refine CE (aa n) ?_|refine CC ?_|refine CK rfl (aa n) rfl ?_|refine CG (L) ⟨⟨rfl,iz h⟩,⟨rfl,rfl⟩,trivial⟩ ?_|refine CC ?_)
    ((conv=>whnf);refine CF (i+1) ⟨ω,lr (by unfold nU;rw[P];simp) J⟩ ω ?_;(exact wC))
   | false=>
    rw[P]at L;by_cases M:(gL h i).length=0
    ·have y:=zN h [] i C K M
     repeat'(first|refine gB ?_|(conv=>whnf);first|with_reducible refine CE (aa n) ?_|refine CC ?_|refine CK rfl (aa n) rfl ?_|refine CG (L) ⟨⟨rfl,iz h⟩,⟨rfl,rfl⟩,trivial⟩ ?_|refine Ch.pl ?_|refine CG (y) ⟨iz h,⟨rfl,rfl⟩,trivial⟩ ?_|refine CC ?_)
     ((conv=>whnf);refine CF (i+1) ⟨ω,lr (by unfold nU;rw[W0 (by omega:¬0<(gL h i).length)];simp) J⟩ ω ?_;(exact wC))
    have y:=oU h [] i C K;unfold iN at y;rw[CB M,O0 (by omega:0<(gL h i).length)]at y;have U:og h c=some i:=vS K (by unfold nU;rw[O0 X,P,O0 ω];rfl) J;rw[U]at e;simp only at e;obtain⟨O,H⟩:=C.slotT K (by omega:0<(gL h i).length);have k:=j9.nn O H;rw[e];generalize slotT h i=g at y |-;generalize pB h i=a at y k |-;rw[O0 k]
    repeat'(first|refine gB ?_|(conv=>whnf);first|with_reducible refine CE (aa n) ?_|refine CC ?_|refine CK rfl (aa n) rfl ?_|refine CG (L) ⟨⟨rfl,iz h⟩,⟨rfl,rfl⟩,trivial⟩ ?_|refine Ch.lt ?_|refine CL (y) (.inl rfl) ?_|refine CC ?_)
    refine CH rfl rfl ?_;exact wC
  repeat'(first|refine gB ?_|(conv=>whnf);first|with_reducible refine CE (aa n) ?_|refine CC ?_|refine CK rfl (aa n) rfl ?_|refine CC ?_)
  ((conv=>whnf);refine CF (i+1) ⟨ω,lr (by unfold nU;rw[W0 X];rfl) J⟩ ω ?_;(exact wC))
 obtain rfl:i=h.K.length:=ω
 have U:og h c=none:=vP J;rw[U]at e;simp only at e;have l:=pI h 1 C r ⟨ω,ω⟩;rw[Ms]at l;rw[e];by_cases Q:(ax h.j 1).2.2=false
 ·rw[CD Q]at l |-
  repeat'(first|refine gE ?_|(conv=>whnf);first|refine CC ?_|refine CL (l) (.inl rfl) ?_)
  refine CH rfl rfl ?_;exact wC
 rw[CB Q]at l |-;by_cases R:(newK h.G (ax h.j 1).2.1).2=false
 ·rw[CD R]at l |-
  repeat'(first|refine gE ?_|(conv=>whnf);first|refine CC ?_|refine CL (l) (.inl rfl) ?_)
  refine CH rfl rfl ?_;exact wC
 rw[CB R]at l |-;obtain⟨Y,Z⟩:=FY C T r Q R;have D:=wx {h with G:=(newK h.G (ax h.j 1).2.1).1,j:=(ax h.j 1).1} (ax h.j 1).2.1 (c:Nat) (by show h.K.length<=4096;omega);have S:=oU (mg h c) [] (mc h) Y Z;have V:=ny C E T r;rw[e,CB Q,CB R]at V;have k:decide (0<(gL (mg h c) (mc h)).length)=decide (0<=(iN (mg h c) (mc h)).2):=by
  unfold iN;by_cases M:(gL (mg h c) (mc h)).length=0
  ·rw[CD M,W0 ω];rfl
  rw[CB M,O0 ω];obtain⟨O,H⟩:=Y.slotT Z ω;exact(O0 (j9.nn O H)).symm
 rw[k]at S;change aM _ _ _ _ [.ptr (gI (mg h c)),_] _ [I ((mc h:Nat):Int)]at D;generalize (ax h.j 1).2.1=p at l D;generalize mg h c=g at D S |-;generalize mc h=b at D S |-;generalize ({h with G:=(newK h.G p).1,j:=(ax h.j 1).1} : ac)=h1 at l D
 repeat'(first|refine gE ?_|(conv=>whnf);first|refine CC ?_|refine CL (l) (.inl rfl) ?_|refine CL (D) (.inl rfl) ?_|refine CL (S) (.inl rfl) ?_)
 refine CH rfl rfl ?_;exact wC
def xP(h:ac)(size:Int)(e:aZ h [])(l:9<=size/\size<=1000)(n:h.G.Calls<=90000):zzB 66 false [.ptr (gI h),.val none [I size]] [.ptr (gI (AC h size).1),.val none [I size]] (.tup [none,none]) [I (AC h size).2,B (decide (0<=(AC h size).2))]:=by
 have E:=e.lens.larges;have R:=e;have o:fk size=((gk size:Nat):Int):=by unfold fk gk;split<;>omega
 have F:1<=gk size/\gk size<=63:=by unfold gk;omega
 have g:=qR size;rw[o]at g;have a:=pI h (gk size) e n F;have c:=ix e (show(1:Int)<=(gk size:Nat) by omega);unfold yJ at a;unfold AC dE;generalize gk size=N at *;generalize ax h.j (N:Nat)=r at a c |-;obtain⟨G,p,ok⟩:=r;simp only at a c |-;refine fM 56 [(189,[2,0]),(192,[1,0,1])] [(7,268,[39,40,41,42,43,44,45,46,47,48,49,50,0,1,2,3,4,5,6,7,8,9,10,11,12,1000,13,14,15])] [(0,0),(0,0)] Tryz.func66 rfl (λu q=>?_) (.inr ⟨trivial,trivial,trivial⟩);cases ok with
 | false=>
  rw[CD rfl]at a |-
  repeat'(first|refine gP ?_|(conv=>whnf);first|refine CC ?_|refine C9 (g) ?_|refine CL (a) (.inl rfl) ?_)
  refine CH rfl rfl ?_;exact wC
 | true=>
  rw[CB (by simp)]at a |-;obtain⟨S,H,-,-⟩:=c rfl;have J:h.G.F.Q.J.length<=32:=e.lens.ents;have t:p+(N:Nat)<=(h.G.F.Q.J.length:Nat):=H;by_cases w:(newsK h.G p N).2=N
  ·rw[CD w]at a |-
   rw[O0 (show(0:Int)<=16*p by omega)];generalize (newsK h.G p N).1=k at a |-
   repeat'(first|refine gP ?_|(conv=>whnf);first|refine CC ?_|refine C9 (g) ?_|refine CL (a) (.inl rfl) ?_)
   (conv=>whnf)
   refine CJ (ι:=Nat) (λm=>[(0,.H .box (gI {h with G:=k,j:=G})),(1,.H .one [I (size)]),(6,.H .one [I (p)]),(8,.H .one [I ((m:Nat):Int)])]) (λm=>m<=h.M.length/\∀(j:Nat)(z:aF),j<m->h.M[j]? = some z->Q6 p z=false) (λm=>h.M.length - m) (0) ?_ (⟨X0 _,λj z T=>ω⟩) λm K=>?_
   ·exact wC
   obtain⟨L,C⟩:=K;by_cases M:m<h.M.length/\(nth h.M m).R<p
   ·have d:=au M.1
    repeat'(first|refine gP ?_|(conv=>whnf);first|refine CC ?_|refine Bf.D (λb=>?_) (λb=>absurd b (by first|omega|(simp only at *;omega)))|refine CE (aa d) ?_|refine CK rfl (aa d) rfl ?_)
    ((conv=>whnf);refine CF (m+1) ⟨ω,eg d (W0 ω) C⟩ ω ?_;(exact wC))
   have i:jg (Q6 p) h.M=m:=m7 ω C λz l=>by
    have O:=(Z2.1 l).1;have:z=nth h.M m:=(bn l).symm;subst this;exact O0 ω
   have d:m<h.M.length->h.M[m]? = some (nth h.M m):=λP=>au P
   have Q:=DI h.M m ⟨p,(N:Nat),size⟩ ω ω;rw[mz i]
   repeat'(first|refine gP ?_|(conv=>whnf);first|refine CC ?_|refine Bf.D (λb=>?_) (λb=>absurd b (by first|omega|(simp only at *;omega)))|refine Bf.D (λb=>absurd b (by first|omega|(simp only at *;omega))) (λb=>?_)|refine Bf.D (λb=>?_) (λb=>?_)|refine CE (aa (d (by first|omega|(simp only at *;omega)))) ?_|refine CK rfl (aa (d (by first|omega|(simp only at *;omega)))) rfl ?_|refine C9 (g) ?_|refine CL (Q) (.inl rfl) ?_|refine CC ?_)
   all_goals
    refine CH rfl ?_ ?_
    ·exact Z0 (λy=>[I y,B true]) (show p*16=16*p by omega)
    exact wC
  rw[CB w]at a |-
  repeat'(first|refine gP ?_|(conv=>whnf);first|refine CC ?_|refine C9 (g) ?_|refine CL (a) (.inl rfl) ?_)
  refine CH rfl rfl ?_;exact wC
def zk(h:ac)(t size:Int)(hs:ac.sml h)(l:aZ h [])(W:kh h=true):∃H,qN (allocH h t size).1 H/\zzB 17 false [.mut (some 24) (ac.enc .own h),.val none [I t],.val none [I size]] [.mut (some 24) (ac.enc .own h),.val none [I t],.val none [I size]] (.tup [some 24,none,none]) (PH (allocH h t size).1 H++[I (allocH h t size).2.1,I (allocH h t size).2.2]):=by
 have hl:=l.lens;have hlc:=hl.caches;have X:=hl.objs;have B:=l.nums;unfold cq at B;rw[C0]at B;have Y:=n7 l.objSz h.O.length (W3 _);change 0<=iS h/\iS h<=_ at Y;have r:=HQ h hs;have p:=kn h hs;rw[W]at p;have y:=aO t 0 ((h.S.length:Int) - 1);have C:=aO size 1 1000;have J:=xn h l.objSz ω;have L:=sZ size;have n:∀(w:World)(S:am)(V:Nat->am)(U:List Value),KP w S V [.mut (some 24) (ac.enc .own h),.val none [I t],.val none [I size]] U->KP w NO V [.mut (some 24) (ac.enc .own h),.val none [I t],.val none [I size]] U:=λw S V U n=>by
  match U,n with
  | [v,v2,v3],⟨⟨e1,u,e2,e3⟩,⟨e4,u2,e5,e6⟩,⟨e7,u3,e8,e9⟩,_⟩=>
   exact⟨⟨e1,u,e2,e3.fresh (ac.enc_fr h)⟩,⟨e4,u2,e5,e6.fresh ⟨trivial,trivial⟩⟩,⟨e7,u3,e8,e9.fresh ⟨trivial,trivial⟩⟩,trivial⟩
 unfold allocH;by_cases h1:1000000<=h.b
 ·rw[CD (.inl h1)]
  refine⟨_,qN.own _,aM.noS ?_ n⟩;change aM _ _ _ _ _ _ (gI _++_);refine fM 108 [(65,[2,0,0]),(66,[2,0]),(67,[1,0,1])] [(8,6,[47,48,49,50,51,52])] [(3,0),(0,0),(0,0)] Tryz.func17 rfl (λu q=>?_) (.inl rfl)
  repeat'(first|refine gB ?_|(conv=>whnf);first|refine CC ?_|refine CG (r) ⟨⟨rfl,CX h⟩,trivial⟩ ?_|refine CG (p) ⟨⟨rfl,CX h⟩,trivial⟩ ?_)
  refine CH rfl rfl ?_;exact wC
 by_cases h2:90000<h.G.Calls
 ·rw[CD (.inr h2)]
  refine⟨_,qN.own _,aM.noS ?_ n⟩;change aM _ _ _ _ _ _ (gI _++_);refine fM 108 [(65,[2,0,0]),(66,[2,0]),(67,[1,0,1])] [(8,6,[47,48,49,50,51,52])] [(3,0),(0,0),(0,0)] Tryz.func17 rfl (λu q=>?_) (.inl rfl)
  repeat'(first|refine gB ?_|(conv=>whnf);first|with_reducible refine Bf.D (λb=>?_) (λb=>?_)|refine CC ?_|refine CG (r) ⟨⟨rfl,CX h⟩,trivial⟩ ?_|refine CG (p) ⟨⟨rfl,CX h⟩,trivial⟩ ?_)
  refine CH rfl rfl ?_;exact wC
 rw[CB ω];by_cases F:¬(0<=t/\t<=h.S.length - 1)
 ·rw[CD F]
  rw[W0 F]at y;refine⟨_,qN.own _,aM.noS ?_ n⟩;change aM _ _ _ _ _ _ (gI _++_);refine fM 108 [(65,[2,0,0]),(66,[2,0]),(67,[1,0,1])] [(8,6,[47,48,49,50,51,52])] [(3,0),(0,0),(0,0)] Tryz.func17 rfl (λu q=>?_) (.inl rfl)
  repeat'(first|refine gB ?_|(conv=>whnf);first|with_reducible refine Bf.D (λb=>?_) (λb=>?_)|refine CC ?_|refine CG (r) ⟨⟨rfl,CX h⟩,trivial⟩ ?_|refine CG (p) ⟨⟨rfl,CX h⟩,trivial⟩ ?_|refine C9 (y) ?_)
  refine CH rfl rfl ?_;exact wC
 rw[CB F];replace F:=Decidable.not_not.1 F;rw[O0 F]at y;by_cases E:¬(1<=size/\size<=1000)
 ·rw[CD E]
  rw[W0 E]at C;refine⟨_,qN.own _,aM.noS ?_ n⟩;change aM _ _ _ _ _ _ (gI _++_);refine fM 108 [(65,[2,0,0]),(66,[2,0]),(67,[1,0,1])] [(8,6,[47,48,49,50,51,52])] [(3,0),(0,0),(0,0)] Tryz.func17 rfl (λu q=>?_) (.inl rfl)
  repeat'(first|refine gB ?_|(conv=>whnf);first|with_reducible refine Bf.D (λb=>?_) (λb=>?_)|refine CC ?_|refine CG (r) ⟨⟨rfl,CX h⟩,trivial⟩ ?_|refine CG (p) ⟨⟨rfl,CX h⟩,trivial⟩ ?_|refine C9 (y) ?_|refine C9 (C) ?_)
  refine CH rfl rfl ?_;exact wC
 rw[CB E];replace E:=Decidable.not_not.1 E;rw[O0 E]at C;by_cases h5:h.b1<iS h+size
 ·rw[CD h5]
  refine⟨_,qN.own _,aM.noS ?_ n⟩;change aM _ _ _ _ _ _ (gI _++_);refine fM 108 [(65,[2,0,0]),(66,[2,0]),(67,[1,0,1])] [(8,6,[47,48,49,50,51,52])] [(3,0),(0,0),(0,0)] Tryz.func17 rfl (λu q=>?_) (.inl rfl)
  repeat'(first|refine gB ?_|(conv=>whnf);first|with_reducible refine Bf.D (λb=>?_) (λb=>?_)|refine CC ?_|refine CG (r) ⟨⟨rfl,CX h⟩,trivial⟩ ?_|refine CG (p) ⟨⟨rfl,CX h⟩,trivial⟩ ?_|refine C9 (y) ?_|refine C9 (C) ?_|refine CG (J) ⟨⟨rfl,CX h⟩,trivial⟩ ?_|refine CC ?_)
  refine CH rfl rfl ?_;exact wC
 rw[CB h5];by_cases M:0<=aN size
 ·rw[CD M]
  have hc3:aN size<=3:=by unfold aN;repeat' split<;>omega
  obtain⟨T,rfl⟩:=O3 F.1;obtain⟨K,hK⟩:=O3 M;obtain⟨H,G,d⟩:=zf h T K l ω ω ω;have s:=ny (t:=T) (c:=K) l ω ω ω;rw[hK]at L |-;simp only[I3];generalize smallA h T K=w at d s G |-;obtain⟨g,a⟩:=w;have e:g.b=h.b:=s.nx;simp only at d |-;by_cases N:a<0
  ·rw[CD N]
   rw[W0 ω]at d;refine⟨H,G,aM.noS ?_ n⟩;refine fM 108 [(65,[2,0,0]),(66,[2,0]),(67,[1,0,1])] [(8,6,[47,48,49,50,51,52])] [(3,0),(0,0),(0,0)] Tryz.func17 rfl (λu q=>?_) (.inl rfl)
   repeat'(first|refine gB ?_|(conv=>whnf);first|with_reducible refine Bf.D (λb=>?_) (λb=>?_)|refine CC ?_|refine CG (r) ⟨⟨rfl,CX h⟩,trivial⟩ ?_|refine CG (p) ⟨⟨rfl,CX h⟩,trivial⟩ ?_|refine C9 (y) ?_|refine C9 (C) ?_|refine CG (J) ⟨⟨rfl,CX h⟩,trivial⟩ ?_|refine CC ?_|refine C9 (L) ?_|refine CL (d) (.inl rfl) ?_)
   refine CH rfl rfl ?_;exact wC
  rw[CB N];rw[O0 ω]at d;obtain⟨k1,k2⟩:=s.yes (show(0:Int)<=a by omega);have Z:g.O.length<=512:=k1.lens.objs;have hgx:1<=g.b/\g.b<=1000000:=ω
  refine⟨H,G,aM.noS ?_ n⟩;refine fM 108 [(65,[2,0,0]),(66,[2,0]),(67,[1,0,1])] [(8,6,[47,48,49,50,51,52])] [(3,0),(0,0),(0,0)] Tryz.func17 rfl (λu q=>?_) (.inl rfl)
  repeat'(first|refine gB ?_|(conv=>whnf);first|with_reducible refine Bf.D (λb=>?_) (λb=>?_)|refine CC ?_|refine CG (r) ⟨⟨rfl,CX h⟩,trivial⟩ ?_|refine CG (p) ⟨⟨rfl,CX h⟩,trivial⟩ ?_|refine C9 (y) ?_|refine C9 (C) ?_|refine CG (J) ⟨⟨rfl,CX h⟩,trivial⟩ ?_|refine CC ?_|refine C9 (L) ?_|refine CL (d) (.inl rfl) ?_)
  (conv=>whnf)
  refine CJ (ι:=Nat) (λi=>[(1,.H .one [I ((T:Nat):Int)]),(2,.H .one [I (size)]),(3,.H .box (wG (u 0) 0 (ac.enc .own h))),(6,.H .box (K6)),(9,.H .box (PH g H)),(10,.H .one [I (a)]),(13,.H .one [I ((i:Nat):Int)])]) (λi=>i<=g.O.length/\∀(j:Nat)(z:bt),j<i->g.O[j]? = some z->Li a z=false) (λi=>g.O.length - i) (0) ?_ (⟨X0 _,λj z hj=>ω⟩) λi l=>?_
  ·exact wC
  obtain⟨hi',O⟩:=l;by_cases go:i<g.O.length/\(nth g.O i).Addr<a
  ·have k:=au go.1
   repeat'(first|refine gE ?_|(conv=>whnf);first|with_reducible refine CE (aa k) ?_|refine CC ?_|refine CK rfl (aa k) rfl ?_)
   ((conv=>whnf);refine CF (i+1) ⟨ω,eg k (W0 ω) O⟩ ω ?_;(exact wC))
  have o:jg (Li a) g.O=i:=m7 ω O λz P=>by
   have hlt:=(Z2.1 P).1;have:z=nth g.O i:=(bn P).symm;subst this;exact O0 ω
  have k:i<g.O.length->g.O[i]? = some (nth g.O i):=λhh=>au hh
  have c8:=xJ g.O i ⟨h.b,a,size,(T:Nat)⟩ ω ω;rw[show addO g a size (T:Nat) = {g with O:=g.O.take i++⟨g.b,a,size,(T:Nat)⟩::g.O.drop i,b:=g.b+1} by unfold addO;rw[mz o],e]
  repeat'(first|refine gE ?_|(conv=>whnf);first|with_reducible (first|refine CE (aa (k ω)) ?_|refine Bf.D (λb=>?_) (λb=>?_))|refine CC ?_|refine CK rfl (aa (k ω)) rfl ?_|refine CL (c8) (.inl rfl) ?_|refine CC ?_)
  all_goals
   refine CH rfl (by rw[e];rfl) ?_;exact wC
 rw[CB M];have Q:9<=size:=by unfold aN at M;repeat' split at M<;>omega
 have d:=xP h size l ⟨Q,E.2⟩ ω;rw[Da t l ⟨Q,E.2⟩];have hg:(AC h size).1.b=h.b/\(AC h size).1.O=h.O:=by
  unfold AC;split
  ·exact⟨rfl,rfl⟩
  split<;>exact⟨rfl,rfl⟩
 generalize AC h size=w at d hg |-;obtain⟨g,a⟩:=w;obtain⟨e,R⟩:=hg;simp only at d e R |-;have Z:g.O.length<=512:=by rw[R];exact X
 have hgx:1<=g.b/\g.b<=1000000:=ω
 by_cases N:a<0
 ·rw[CD N]
  rw[W0 ω]at d;refine⟨_,qN.own _,aM.noS ?_ n⟩;change aM _ _ _ _ _ _ (gI _++_);refine fM 108 [(65,[2,0,0]),(66,[2,0]),(67,[1,0,1])] [(8,6,[47,48,49,50,51,52])] [(3,0),(0,0),(0,0)] Tryz.func17 rfl (λu q=>?_) (.inl rfl)
  repeat'(first|refine gB ?_|(conv=>whnf);first|with_reducible refine Bf.D (λb=>?_) (λb=>?_)|refine CC ?_|refine CG (r) ⟨⟨rfl,CX h⟩,trivial⟩ ?_|refine CG (p) ⟨⟨rfl,CX h⟩,trivial⟩ ?_|refine C9 (y) ?_|refine C9 (C) ?_|refine CG (J) ⟨⟨rfl,CX h⟩,trivial⟩ ?_|refine CC ?_|refine C9 (L) ?_|refine CL (d) (.inl rfl) ?_)
  refine CH rfl rfl ?_;exact wC
 rw[CB N];rw[O0 ω]at d;refine⟨_,qN.own _,aM.noS ?_ n⟩;change aM _ _ _ _ _ _ (gI _++_);refine fM 108 [(65,[2,0,0]),(66,[2,0]),(67,[1,0,1])] [(8,6,[47,48,49,50,51,52])] [(3,0),(0,0),(0,0)] Tryz.func17 rfl (λu q=>?_) (.inl rfl)
 repeat'(first|refine gB ?_|(conv=>whnf);first|with_reducible refine Bf.D (λb=>?_) (λb=>?_)|refine CC ?_|refine CG (r) ⟨⟨rfl,CX h⟩,trivial⟩ ?_|refine CG (p) ⟨⟨rfl,CX h⟩,trivial⟩ ?_|refine C9 (y) ?_|refine C9 (C) ?_|refine CG (J) ⟨⟨rfl,CX h⟩,trivial⟩ ?_|refine CC ?_|refine C9 (L) ?_|refine CL (d) (.inl rfl) ?_)
 (conv=>whnf)
 refine CJ (ι:=Nat) (λi=>[(1,.H .one [I (t)]),(2,.H .one [I (size)]),(3,.H .box (wG (u 0) 0 (ac.enc .own h))),(6,.H .box (K6)),(9,.H .box (gI g)),(10,.H .one [I (a)]),(13,.H .one [I ((i:Nat):Int)])]) (λi=>i<=g.O.length/\∀(j:Nat)(z:bt),j<i->g.O[j]? = some z->Li a z=false) (λi=>g.O.length - i) (0) ?_ (⟨X0 _,λj z hj=>ω⟩) λi l=>?_
 ·exact wC
 obtain⟨hi',O⟩:=l;by_cases go:i<g.O.length/\(nth g.O i).Addr<a
 ·have k:=au go.1
  repeat'(first|refine gE ?_|(conv=>whnf);first|with_reducible refine CE (aa k) ?_|refine CC ?_|refine CK rfl (aa k) rfl ?_)
  ((conv=>whnf);refine CF (i+1) ⟨ω,eg k (W0 ω) O⟩ ω ?_;(exact wC))
 have o:jg (Li a) g.O=i:=m7 ω O λz P=>by
  have hlt:=(Z2.1 P).1;have:z=nth g.O i:=(bn P).symm;subst this;exact O0 ω
 have k:i<g.O.length->g.O[i]? = some (nth g.O i):=λhh=>au hh
 have c8:=xJ g.O i ⟨h.b,a,size,t⟩ ω ω;rw[show addO g a size t = {g with O:=g.O.take i++⟨g.b,a,size,t⟩::g.O.drop i,b:=g.b+1} by unfold addO;rw[mz o],e]
 repeat'(first|refine gE ?_|(conv=>whnf);first|with_reducible (first|refine CE (aa (k ω)) ?_|refine Bf.D (λb=>?_) (λb=>?_))|refine CC ?_|refine CK rfl (aa (k ω)) rfl ?_|refine CL (c8) (.inl rfl) ?_|refine CC ?_)
 all_goals
  refine CH rfl (by rw[e];rfl) ?_;exact wC
def pK(h:ac)(t size:Int):ac × Int × Int:=if dM h=true then allocH h t size else(h,-1,5)
def HT(d:ac.sml h)(b:ac.wf h)(t size:Int):ac.sml (pK h t size).1/\ac.wf (pK h t size).1:=by
 unfold pK;split
 ·rename_i e
  have f:=aZ.of e;have a:=(qH (t:=t) (size:=size) f).1;have c:iA (allocH h t size).1.G.w:=by
   have:=uS h t size;unfold rfs at this;rw[this];exact b.1.2.2
  exact⟨(a.fit c (jZ.of a.mail).sml).sml,a.wf c⟩
 exact⟨d,b⟩
def xi(h:ac)(t size:Int)(b:ac.sml h)(d:ac.wf h):zzA 22 false [.val (some 24) (ac.enc .V h),.val none [I t],.val none [I size]] (.tup [some 24,none,none]) (ac.enc .own (pK h t size).1++[I (pK h t size).2.1,I (pK h t size).2.2]):=by
 have a:=vW h b d;have g:=nS h b;have c:=(HT b d t size).1;unfold pK at c |-;cases e:dM h with
 | false=>
  rw[e]at a;rw[CB (by simp)];refine fP 28 [(2000004,[9,21]),(74,[2,0,0])] [] Tryz.func22 rfl ?_ (.inr (aL (ac.enc_fr _) ⟨trivial,trivial,trivial⟩))
  repeat'(first|refine gP ?_|(conv=>whnf);first|refine C9 (a) ?_|refine C9 (g) ?_|refine CC ?_)
  rfl
 | true=>
  rw[e]at a;rw[CD e]at c;rw[CD rfl];have i:=re h t size (aZ.of e);have j:=nS _ c;generalize allocH h t size=r at i j |-;refine fP 28 [(2000004,[9,21]),(74,[2,0,0])] [] Tryz.func22 rfl ?_ (.inr (aL (ac.enc_fr _) ⟨trivial,trivial,trivial⟩))
  repeat'(first|refine gP ?_|(conv=>whnf);first|refine C9 (a) ?_|refine C9 (g) ?_|refine CL (i) (.inl rfl) ?_|refine CG (j) ⟨⟨rfl,bL _⟩,trivial⟩ ?_|refine Hq.mk rfl (List.cons.inj (dK _)).1 rfl ?_|refine CC ?_)
  rfl
def cl(k:ah)(f c:Nat):Int:=nth (nth k.F.W.T f) c
structure At(k:ah)(a:Int)(f c:Nat):Prop where
 m:(af k.F.Q (a / 16)).e≠0
 f:(af k.F.Q (a / 16)).o=f
 c:a % 16=c
variable{f c:Nat}{a:Int}{k:ah}
def At.cell(h:At k a f c):fK k a=cl k f c:=by
 unfold fK cl;rw[h.f,h.c,I3,I3]
def At.mk'(c:aC k=true)(b:(af k.F.Q (a / 16)).e≠0):At k a (cW k a) (a % 16).toNat:=by
 obtain⟨-,-,-,d,-⟩:=bY c b;exact⟨b,by unfold cW;omega,ω⟩
def At.uniq{b d:Nat}(h:At k a f c)(h':At k a b d):f=b/\c=d:=by
 have e:=h.f;have g:=h'.f;have i:=h.c;have j:=h'.c;omega
def NZ(h:ac)(a:Int)(f c:Nat):Prop:=
 (∃s∈h.K,eO s a/\(af (tbl h) s.R).o=f/\(c:Int) / csz s.d=d5 s a/\c<16)\/
 ∃l∈h.M,a=16*l.R/\∃b:Int,16*l.R<=b/\b<16*(l.R+l.a3)/\At h.G b f c
variable{s:aA}{E:List Int}
def aZ.pe(a:aZ h E)(b:s∈h.K):af (tbl h) s.R=nth (tbl h).J s.R.toNat:=by
 obtain⟨c,d,-⟩:=a.mapped b;unfold af;rw[CD ⟨c,d⟩]
variable{b:Int}
def tT{l:aF}(a:bR l=true)(h1:16*l.R<=b)(c:b<16*(l.R+l.a3)):∃k:Nat,k<l.a3.toNat/\b / 16=l.R+(k:Nat):=by
 have:=aT a;exact⟨(b / 16 - l.R).toNat,ω,ω⟩
def mi(e:aZ h E){l:aF}(i:l∈h.M)(h1:16*l.R<=b)(o:b<16*(l.R+l.a3))(j:At h.G b f c){q:Int}(n:(af (tbl h) q).e≠0)(g:(af (tbl h) q).o=f):q=b / 16:=by
 obtain⟨k,p,u⟩:=tT (e.L.lok l i) h1 o;obtain⟨w,y,r,-⟩:=bY e.ker j.m;obtain⟨A,B,t,-⟩:=bY e.ker n;have d:=j.f;rw[r]at d;have a:=n;change (af h.G.F.Q q).e≠0 at a;change (af h.G.F.Q q).o=f at g;rw[t]at a g;have:=e.pg.one l i (b / 16).toNat (d4.2 ⟨k,p,ω⟩) q.toNat (by show q.toNat<h.G.F.Q.J.length;omega) a (by show _=(nth h.G.F.Q.J _).o;rw[d];exact g);omega
def wS(d:aZ h E)(T:NZ h a f c)(U:NZ h b f c):a=b:=by
 have G:∀s∈h.K,(af (tbl h) s.R).o=f->∀l∈h.M,∀x:Int,16*l.R<=x->x<16*(l.R+l.a3)->At h.G x f c->False:=λs g V l o x H J W=>by
  obtain⟨K,t,q⟩:=d.mapped g;obtain⟨k,w,X⟩:=tT (d.L.lok l o) H J;have:=mi d o H J W (by rw[d.pe g];exact q) V;exact d.L.dis s g l o k w ω
 rcases T with⟨s,g,M,N,O,s4⟩|⟨l,o,Y,x,A,B,P⟩<;>rcases U with⟨u,r,Q,R,S,u4⟩|⟨m,p,K,y,t,q,C⟩
 ·by_cases e:s.R=u.R
  ·obtain⟨i,D,rfl⟩:=aQ g
   obtain⟨j,F,rfl⟩:=aQ r;have:=cQ (f:=(·.R)) d.L.nd D F e;subst this;exact yL (d.L.sok _ g) M.2.2.1 Q.2.2.1 (O.symm.trans S)
  exfalso;have p:=d.pg.mesh s g u r e (by rw[<-d.pe g,<-d.pe r,N,R]);unfold meshable at p;simp only[I0,C0]at p;obtain⟨⟨o1,o2⟩,Z,-,e3⟩:=p;have b1:=(eS _ _).1 M.2.2.2;have b2:=(eS _ _).1 Q.2.2.2;have hn:(a - 16*s.R) / csz s.d=(b - 16*u.R) / csz u.d:=by
   have z1:d5 s a=d5 u b:=by rw[<-O,<-S,Z]
   exact z1
  have:=Z0 (λn=>Nat.testBit n ((a - 16*s.R) / csz s.d).toNat) e3;simp only[Nat.testBit_and,Nat.zero_testBit]at this;rw[b1.2.2.2,hn,b2.2.2.2]at this;cases this
 ·exact(G s g N m p y t q C).elim
 ·exact(G u r R l o x A B P).elim
 have hq:=mi d o A B P C.m C.f;obtain⟨i,D,rfl⟩:=aQ o;obtain⟨j,F,rfl⟩:=aQ p;obtain⟨k,w,X⟩:=tT (d.L.lok _ o) A B;obtain⟨k',k3,k4⟩:=tT (d.L.lok _ p) t q;have:=d.L.one i j D F k k' w k3 ω;subst this;rw[Y,K]
def ru(h:ac)(o:bt)(f c:Nat):Prop:=∃j:Int,0<=j/\j<o.q/\At h.G (o.Addr+j) f c
variable{o:bt}
def jQ(i:aZ h E)(B:o∈h.O)(C:ru h o f c):NZ h o.Addr f c:=by
 obtain⟨k,J,K,a⟩:=C;rcases i.oow o B with⟨s,r,t,D⟩|⟨l,u,F,M⟩
 ·have b:=i.L.sok s r
  have j:=aI b;have d:=cg j.2.2;have p:=t;obtain⟨N,O,w,-⟩:=t;have g:o.q<=csz s.d:=by
   have P:=jI (n:=o.q) ω;rw[D];have:o.q=1\/o.q=2\/o.q=3\/o.q=4\/o.q=5\/o.q=6\/o.q=7\/o.q=8:=ω
   rcases this with e|e|e|e|e|e|e|e<;>rw[e]<;>decide
  have G:(o.Addr+k) / 16=s.R:=by rcases d with e|e|e|e<;>rw[e]at w g<;>omega
  have y:=a.f;have H:=a.c;rw[G]at y;refine .inl ⟨s,r,p,y,?_,ω⟩;unfold d5;rcases d with e|e|e|e<;>rw[e]at w g |-<;>omega
 have q:=i.L.lok l u;have A:=q;unfold bR at A;rw[C0]at A;exact .inr ⟨l,u,F,o.Addr+k,ω,ω,a⟩
def JN(a:aZ h E){u:bt}(b:o∈h.O)(d:u∈h.O)(h1:ru h o f c)(g:ru h u f c):o=u:=by
 have e:=wS a (jQ a b h1) (jQ a d g);obtain⟨i,k,rfl⟩:=aQ b;obtain⟨j,l,rfl⟩:=aQ d;rw[cQ (f:=(·.Addr)) (di a.osr) k l e]
def JX(h:ac)(f c:Nat):Prop:=h.u=true/\(af (tbl h) h.Z.X.a4).o=f/\(c:Int)∈h.Z.X.T.take h.Z.b.toNat
structure CI(h:ac):Prop where
 z:∀f c:Nat,c<16->cl h.G f c≠0->(∃o∈h.O,ru h o f c)\/JX h f c
 jv:h.u=true->∀c:Nat,(c:Int)∈h.Z.X.T.take h.Z.b.toNat->cl h.G (bP h.G h.Z.X.a4) c=cl h.G (bP h.G h.Z.X.a2) c
 jd:h.u=true->∀s∈h.K,s.R=h.Z.X.a4->∀c:Nat,c<16->(c:Int)∈h.Z.X.T->bc s.a9 ((c:Int) / csz s.d)=false
 jc:h.u=true->∀s∈h.K,s.R=h.Z.X.a2->∀c:Nat,c<16->bc s.a9 ((c:Int) / csz s.d)=true->(c:Int)∈h.Z.X.T
 jn:h.u=true->(h.Z.b0=0->h.Z.b=0)/\(h.Z.b0=2->h.Z.b=h.Z.X.T.length)
 m1:∀q:Nat,(nth (tbl h).J q).e=1->h.u=true/\(q:Int)=h.Z.X.a2/\h.Z.b0≠0
 m2:h.u=true->h.Z.b0≠0->(af (tbl h) h.Z.X.a2).e=1
variable{h':ac}
theorem CI.keep(j:CI h)(g:h'.Z=h.Z)(k:h'.u=h.u)(r:∀q:Nat,(nth (tbl h').J q).e=1->(nth (tbl h).J q).e=1)(l:h.u=true->af (tbl h') h.Z.X.a4=af (tbl h) h.Z.X.a4/\af (tbl h') h.Z.X.a2=af (tbl h) h.Z.X.a2)(t:∀f c:Nat,c<16->cl h'.G f c≠0->cl h.G f c=cl h'.G f c\/∃o∈h'.O,ru h' o f c)(n:∀o∈h.O,∀f c:Nat,c<16->ru h o f c->cl h'.G f c≠0->∃F∈h'.O,ru h' F f c)(u:h.u=true->∀c:Nat,(c:Int)∈h.Z.X.T.take h.Z.b.toNat->cl h'.G (bP h.G h.Z.X.a4) c=cl h.G (bP h.G h.Z.X.a4) c/\cl h'.G (bP h.G h.Z.X.a2) c=cl h.G (bP h.G h.Z.X.a2) c)(p:h.u=true->∀d∈h'.K,d.R=h.Z.X.a4\/d.R=h.Z.X.a2->∃s∈h.K,s.R=d.R/\s.d=d.d/\∀i,bc d.a9 i=true->bc s.a9 i=true):CI h' where
 z f c b w:=by
  rcases t f c b w with e|e
  ·rcases j.z f c b (by rw[e];exact w) with⟨o,G,y⟩|⟨E,H,J⟩
   ·exact .inl (n o G f c b y w)
   exact .inr ⟨by rw[k];exact E,by rw[g,(l E).1];exact H,by rw[g];exact J⟩
  exact .inl e
 jv a c h2:=by
  rw[k]at a;rw[g]at h2 |-;obtain⟨K,L⟩:=u a c h2;obtain⟨M,N⟩:=l a;have O:bP h'.G h.Z.X.a4=bP h.G h.Z.X.a4:=Z0 (λe:bh=>e.o.toNat) M;have P:bP h'.G h.Z.X.a2=bP h.G h.Z.X.a2:=Z0 (λe:bh=>e.o.toNat) N;rw[O,P,K,L];exact j.jv a c h2
 jd a d hs' hp c b hcm:=by
  rw[k]at a;rw[g]at hp hcm;obtain⟨s,A,B,C,D⟩:=p a d hs' (.inl hp);have:=j.jd a s A (B.trans hp) c b hcm;rw[<-C];rw[<-C6]at this |-;exact λe=>this (D _ e)
 jc a d hs' hp c b hb:=by
  rw[k]at a;rw[g]at hp |-;obtain⟨s,A,B,C,D⟩:=p a d hs' (.inr hp);exact j.jc a s A (B.trans hp) c b (by rw[C];exact D _ hb)
 jn a:=by rw[k]at a;rw[g];exact j.jn a
 m1 q Q:=by rw[k,g];exact j.m1 q (r q Q)
 m2 a h2:=by
  rw[k]at a;rw[g]at h2 |-;rw[(l a).2];exact j.m2 a h2
def Kp(h h':ac):Prop:=∀o∈h'.O,o∈h.O/\∀j:Int,0<=j->j<o.q->fK h'.G (o.Addr+j)=fK h.G (o.Addr+j)
def Kp.refl(h:ac):Kp h h:=λ_ a=>⟨a,λ_ _ _=>rfl⟩
def Ca:type_of% @Kp.refl:=@Kp.refl
def Kp.trans{h1 c:ac}(a:Kp h h1)(b:Kp h1 c):Kp h c:=λo f=>by
 obtain⟨g,i⟩:=b o f;obtain⟨k,l⟩:=a o g;exact⟨k,λj d e=>(i j d e).trans (l j d e)⟩
def aZ.jobM(c:aZ h E)(f:h.u=true):(af (tbl h) h.Z.X.a4).e≠0/\(af (tbl h) h.Z.X.a2).e≠0:=by
 obtain⟨-,⟨a,d,g⟩,b,e,i⟩:=c.job f;rw[<-g,<-i,c.pe d,c.pe e];exact⟨(c.mapped d).2.2,(c.mapped e).2.2⟩
variable{p:Int}
def lK(a:aC k=true)(b:(af k.F.Q p).e≠0):(af k.F.Q p).o=(bP k p:Nat):=by
 obtain⟨-,-,-,c,-⟩:=bY a b;unfold bP;omega
def CI.kern(A:aZ h E)(M:CI h)(n:∀o∈h'.O,o∈h.O)(N:h'.Z=h.Z)(B:h'.u=h.u)(b:∀o∈h.O,o∉h'.O->∀f c:Nat,c<16->ru h o f c->cl h'.G f c=0)(F:∀q:Nat,(nth (tbl h').J q).e=1->(nth (tbl h).J q).e=1)(d:h.u=true->af (tbl h') h.Z.X.a4=af (tbl h) h.Z.X.a4/\af (tbl h') h.Z.X.a2=af (tbl h) h.Z.X.a2)(r:∀o∈h'.O,∀j:Int,0<=j->j<o.q->af (tbl h') ((o.Addr+j) / 16)=af (tbl h) ((o.Addr+j) / 16))(t:∀f c:Nat,cl h'.G f c=cl h.G f c\/(cl h'.G f c=0/\∀p:Int,(af (tbl h') p).e≠0->(af (tbl h') p).o≠f))(G:h.u=true->∀u∈h'.K,u.R=h.Z.X.a4\/u.R=h.Z.X.a2->∃s∈h.K,s.R=u.R/\s.d=u.d/\∀i,bc u.a9 i=true->bc s.a9 i=true):CI h'/\Kp h h':=by
 have cov:∀o∈h'.O,∀f c:Nat,ru h o f c->ru h' o f c:=λo O f c ⟨j,w,C,l⟩=>by
  have e:=r o O j w C;unfold tbl at e;exact⟨j,w,C,by rw[e];exact l.m,by rw[e];exact l.f,l.c⟩
 have H:∀{p:Int},af (tbl h') p=af (tbl h) p->(af (tbl h) p).e≠0->∀c,cl h'.G (bP h.G p) c=cl h.G (bP h.G p) c:=fun {p} e B c=>by
  rcases t (bP h.G p) c with g|⟨-,g⟩
  ·exact g
  refine absurd ?_ (g p (by rw[e];exact B));rw[e];exact lK A.ker B
 refine⟨M.keep N B F d (λf c _ J=>.inl ?_) (λo a f c K y J=>?_) (λD c _=>⟨H (d D).1 (A.jobM D).1 c,H (d D).2 (A.jobM D).2 c⟩) G,λo a=>⟨n o a,λj w C=>?_⟩⟩
 ·rcases t f c with g|g
  ·exact g.symm
  exact absurd g.1 J
 ·by_cases e:o∈h'.O
  ·exact⟨o,e,cov o e f c y⟩
  exact absurd (b o a e f c K y) J
 have e:=r o a j w C;have L:=(cR A (n o a) (k:=j) ⟨w,ω⟩).1;have:=H e L ((o.Addr+j) % 16).toNat;unfold fK;unfold tbl at e;rw[e];exact this
def zj(d:aZ h E)(y:NZ h a f c)(n:s∈h.K)(g:pc (tbl h) s.R)(r:(af (tbl h) s.R).o=f):eO s a/\(c:Int) / csz s.d=d5 s a/\a / 16=s.R:=by
 obtain⟨K,M,A⟩:=d.mapped n;rcases y with⟨u,o,p,B,C,N⟩|⟨l,q,-,b,t,w,D⟩
 ·obtain⟨O,P,F⟩:=d.mapped o
  have:=g u.R.toNat F (by rw[<-d.pe o,<-d.pe n,B,r]);obtain⟨i,G,rfl⟩:=aQ n;obtain⟨j,H,rfl⟩:=aQ o;have e:=cQ (f:=(·.R)) d.L.nd G H ω;subst e;exact⟨p,C,by have:=p.1;have:=p.2.1;omega⟩
 exfalso;obtain⟨k,J,Q⟩:=tT (d.L.lok l q) t w;have:=mi d q t w D (by rw[d.pe n];exact A) r;exact d.L.dis s n l q k J ω
def t7(n:aZ h E)(d:JI h)(o:CI h)(e:h.u=true)(p:NZ h a f c)(g:c<16)(i:(c:Int)∈h.Z.X.T):(af (tbl h) h.Z.X.a4).o≠f:=λq=>by
 obtain⟨s,k,b,-,j,-,-⟩:=d.sp e;obtain⟨r,t,-⟩:=zj n p k (by rw[j];exact d.sk e) (by rw[j];exact q);have:=o.jd e s k j c g i;rw[t]at this;have l:=r.2.2.2;unfold d5 at this;rw[this]at l;cases l
def Hj(n:aZ h E)(d:JI h)(j:CI h)(g:h.u=true)(o:NZ h a f c)(k:(af (tbl h) (a / 16)).e≠1)(e:(c:Int)∈h.Z.X.T.take h.Z.b.toNat):(af (tbl h) h.Z.X.a2).o≠f:=λp=>by
 obtain⟨-,-,b,q,-,i,-⟩:=d.sp g;obtain⟨-,-,r⟩:=zj n o q (by rw[i];exact d.sm g) (by rw[i];exact p);by_cases l:h.Z.b0=0
 ·rw[(j.jn g).1 l]at e;cases e
 have:=j.m2 g l;rw[r,i]at k;exact k this
def B6(n c:Nat):nth (List.replicate n (0:Int)) c=0:=by
 unfold nth;rw[C3,List.getElem?_replicate];split<;>rfl
structure KL(k k':ah)(lo n:Int):Prop where
 out:∀q:Int,¬(lo<=q/\q<lo+n)->af k'.F.Q q=af k.F.Q q
 ins:∀q:Int,lo<=q->q<lo+n->(af k'.F.Q q).e=0
 cel:∀f c:Nat,cl k' f c=cl k f c\/(cl k' f c=0/\∀p:Int,(af k'.F.Q p).e≠0->(af k'.F.Q p).o≠f)
def KE(k:ah)(F:Int)(f c:Nat):cl (gn k F) f c=cl k f c\/(cl (gn k F) f c=0/\F.toNat=f/\(pagesOn k.F.Q F).length=0):=by
 unfold gn;split
 ·rename_i e
  unfold cl;simp only[bI];split
  ·rename_i a;exact .inr ⟨B6 _ _,a.1,e⟩
  exact .inl rfl
 exact .inl rfl
def nr{t:aJ}(h:(af t p).e≠0):0<=p/\p<t.J.length/\af t p=nth t.J p.toNat:=by
 unfold af at h |-;split
 ·rename_i e;exact⟨e.1,e.2,rfl⟩
 rename_i e;rw[CB e]at h;exact absurd rfl h
def Qf{t:aJ}{F:Int}(h:(pagesOn t F).length=0)(a:(af t p).e≠0):(af t p).o≠F:=λe=>by
 obtain⟨c,d,b⟩:=nr a;rw[b]at a e;have:0<(pagesOn t F).length:=eB.2 ⟨p.toNat,ω,a,e⟩;omega
def KL.refl(k:ah)(lo:Int):KL k k lo 0:=⟨λ_ _=>rfl,λq a b=>ω,λ_ _=>.inl rfl⟩
def KL.unmap(h:aC k=true)(j:0<=p/\p<k.F.Q.J.length):KL k (cj k p) p 1:=by
 have b:=lF h j;have d:=(jH k p).1;have i:∀q:Int,af (cj k p).F.Q q=if q=p then⟨0,0⟩ else af k.F.Q q:=λq=>by
  unfold af;rw[d];by_cases e:0<=q/\q<k.F.Q.J.length
  ·rw[CD e,CD e,b q.toNat]
   by_cases a:q=p
   ·rw[CD a,CD ω]
   rw[CB a,CB ω]
  rw[CB e,CB e];by_cases a:q=p
  ·rw[CD a]
  rw[CB a]
 refine⟨λq g=>by rw[i,CB ω],λq t u=>by rw[i,CD ω],λf c=>?_⟩;unfold cj;split
 ·exact .inl rfl
 rename_i l;rcases KE (mb k p) (af k.F.Q p).o f c with e|⟨n,a,o⟩
 ·exact .inl e
 refine .inr ⟨n,λq g=>?_⟩;rw[(ni _ _).1]at g |-;have:=Qf o g;have r:=lK h l;unfold bP at r;rw[<-a];omega
variable{lo n:Int}
def KL.trans{i j:ah}{m:Int}(t:0<=n/\0<=m)(a:KL k i lo n)(b:KL i j (lo+n) m):KL k j lo (n+m):=by
 refine⟨λq u=>(b.out q ω).trans (a.out q ω),λq l w=>?_,λf c=>?_⟩
 ·by_cases e:lo+n<=q
  ·exact b.ins q e ω
  rw[b.out q ω];exact a.ins q l ω
 rcases b.cel f c with e|e
 ·rcases a.cel f c with g|⟨o,r⟩
  ·exact .inl (e.trans g)
  refine .inr ⟨e.trans o,λp d=>?_⟩;by_cases h:lo+n<=p/\p<lo+n+m
  ·exact absurd (b.ins p h.1 h.2) d
  rw[b.out p h]at d |-;exact r p d
 exact .inr e
def KL.unmN{k:ah}(a:aC k=true){p:Int}(b:0<=p):∀n:Nat,p+n<=k.F.Q.J.length->KL k (unmN k p n) p n
 | 0,_=>KL.refl k p
 | n+1,h=>by
  have c:=KL.unmN a b n ω;have d:=KL.unmap (gZ a p n) (p:=p+n) ⟨ω,by rw[(fj k p n).1];omega⟩;have:=KL.trans ⟨ω,ω⟩ c d;rw[show((n:Nat):Int)+1=((n+1:Nat):Int) by omega]at this;exact this
def KL.md{b:ah}(a:KL k b lo n)(f:b.F.Q.J.length=k.F.Q.J.length)(q:Nat)(h:(nth b.F.Q.J q).e≠0):nth b.F.Q.J q=nth k.F.Q.J q:=by
 have g:=qp h;have c:af b.F.Q (q:Nat)=nth b.F.Q.J q:=by unfold af;rw[CD ⟨ω,ω⟩];rfl
 have d:af k.F.Q (q:Nat)=nth k.F.Q.J q:=by unfold af;rw[CD ⟨ω,ω⟩];rfl
 by_cases e:lo<=q/\(q:Int)<lo+n
 ·rw[<-c,a.ins q e.1 e.2]at h;exact absurd rfl h
 rw[<-c,<-d,a.out q e]
def DO(h:0<=aN n):n<=csz (aN n):=by
 have a:=jI h;have:n=1\/n=2\/n=3\/n=4\/n=5\/n=6\/n=7\/n=8:=ω
 rcases this with e|e|e|e|e|e|e|e<;>rw[e]<;>decide
def Nw(k:aZ h E)(p:o∈h.O)(g:¬aN o.q<0)(i:ru h o f c):f=cW h.G o.Addr/\(o.Addr % 16).toNat<=c/\c<(o.Addr % 16).toNat+(csz (aN o.q)).toNat:=by
 obtain⟨⟨s,q,r,t⟩,-⟩:=(dU k p).2 g;obtain⟨A,B,l,-⟩:=r;have a:=DO (n:=o.q) ω;have b:=cg (aI (k.L.sok s q)).2.2;rw[<-t]at a |-;obtain⟨j,C,D,d⟩:=i;have u:=d.c;have w:=d.f;have y:(o.Addr+j) / 16=o.Addr / 16:=by rcases b with e|e|e|e<;>rw[e]at l a<;>omega
 rw[y]at w;refine⟨by unfold cW;omega,?_⟩;rcases b with e|e|e|e<;>rw[e]at l a |-<;>omega
def CI.clrS{h:ac}{E:List Int}(n:aZ h E)(p:CI h){i:Nat}{a:Int}(g:i<h.K.length)(l:eO (nth h.K i) a):CI (clrS h i a):=by
 have b:=n.L.sok _ (ar g);refine p.keep rfl rfl (λq h=>h) (λ_=>⟨rfl,rfl⟩) (λf c _ _=>.inl rfl) (λo r f c _ d _=>⟨o,r,d⟩) (λ_ c _=>⟨rfl,rfl⟩) λ_ w e _=>?_
 rcases ee e with rfl|⟨j,t,-,rfl⟩
 ·refine⟨_,ar g,rfl,rfl,λk u=>((GR (dP b) (q8 b ⟨l.1,l.2.1⟩) k).1 u).1⟩
 exact⟨_,ar t,rfl,rfl,λ_ h=>h⟩
variable{j:Int}
def Pz(a:aZ h E)(p:o∈h.O)(h1:0<=j)(J:j<o.q)(r:s∈h.K)(T:(o.Addr+j) / 16=s.R):eO s o.Addr:=by
 obtain⟨U,V,W⟩:=a.mapped r;have t:=(cR a p (k:=j) ⟨h1,ω⟩).1;have w:=At.mk' a.ker t;rcases jQ a p ⟨j,h1,J,w⟩ with⟨u,K,G,-,-,-⟩|⟨l,b,X,-⟩
 ·rcases a.oow o p with⟨v,q,c,M⟩|⟨l,b,N,O⟩
  ·have y:=a.L.sok v q
   have A:=aI y;have B:=cg A.2.2;have C:=c;obtain⟨Y,Z,P,-⟩:=c;have D:o.q<=csz v.d:=by
    have hb:=jI (n:=o.q) ω;rw[M];have:o.q=1\/o.q=2\/o.q=3\/o.q=4\/o.q=5\/o.q=6\/o.q=7\/o.q=8:=ω
    rcases this with e|e|e|e|e|e|e|e<;>rw[e]<;>decide
   have Q:(o.Addr+j) / 16=v.R:=by rcases B with e|e|e|e<;>rw[e]at P D<;>omega
   obtain⟨i,R,rfl⟩:=aQ r;obtain⟨k,S,rfl⟩:=aQ q;have:=cQ (f:=(·.R)) a.L.nd R S (by show(nth h.K i).R=(nth h.K k).R;omega);subst this;exact C
  exfalso;have:=aT (a.L.lok l b);exact a.L.dis u K l b 0 ω (by have:=G.1;have:=G.2.1;omega)
 exfalso;have H:=a.L.lok l b;unfold bR at H;rw[C0]at H;rcases a.oow o p with⟨v,q,c,-⟩|⟨F,d,N,O⟩
 ·exact a.L.dis v q l b 0 ω (by have:=c.1;have:=c.2.1;omega)
 have g:=a.L.lok F d;unfold bR at g;rw[C0]at g;exact a.L.dis s r F d ((o.Addr+j) / 16 - F.R).toNat ω ω
def CI.giveP{h:ac}{E:List Int}(b:aZ h E)(f:CI h){i:Nat}(e:i<h.K.length)(g:(nth h.K i).a9=0)(c:fH h (nth h.K i).R=false):CI (giveP h i)/\Kp h (giveP h i):=by
 obtain⟨k,l,A⟩:=b.mapped (ar e);have kl:=KL.unmap b.ker (p:=(nth h.K i).R) ⟨k,l⟩;refine CI.kern b f (λo a=>a) rfl rfl (λo a n=>absurd a n) (λq r=>?_) (λt=>?_) (λo a j u w=>?_) kl.cel (λ_ B d _=>?_)
 ·have:=kl.md (jH _ _).1 q (by show(nth (tbl (Ab.giveP h i)).J q).e≠0;omega)
  show(nth h.G.F.Q.J q).e=1;rw[<-this];exact r
 ·obtain⟨C,D⟩:=y9 c t
  exact⟨kl.out _ ω,kl.out _ ω⟩
 ·refine kl.out _ λF=>?_
  exact wI g _ (Pz b a u w (ar e) ω)
 obtain⟨j,y,-,rfl⟩:=dn.1 d;exact⟨_,ar y,rfl,rfl,λ_ h=>h⟩
def CI.freeS{h:ac}{E:List Int}{a:Int}{i:Nat}(c:aZ h (a::E))(j:CI h)(b:i<h.K.length)(d:eO (nth h.K i) a):CI (freeS h i a)/\Kp h (freeS h i a):=by
 have k:=c.give b d;have f:=CI.clrS c j b d;unfold Ab.freeS;split
 ·rename_i e
  have g:nth (Ab.clrS h i a).K i=nk (nth h.K i) (d5 (nth h.K i) a):=by unfold Ab.clrS;simp only[bI,true_and];rw[CD b]
  obtain⟨l,n⟩:=CI.giveP (h:=Ab.clrS h i a) k f (i:=i) (by unfold Ab.clrS;simp only[Z1];exact b) (by rw[g];exact e.1) (by rw[g];exact e.2);exact⟨l,n⟩
 exact⟨f,Ca h⟩
def CI.freeA{h:ac}{E:List Int}{a:Int}(b:aZ h (a::E))(c:CI h):CI (freeA h a)/\Kp h (freeA h a):=by
 obtain⟨d,e,-⟩:=b.at (b.hin a (I2 ..));exact CI.freeS b c d e
def CI.recyc{h:ac}{E:List Int}{a:Int}{t:Nat}(c:aZ h (a::E))(b:CI h):CI (recyc t h a)/\Kp h (recyc t h a):=by
 unfold Ab.recyc;split
 ·exact⟨⟨b.z,b.jv,b.jd,b.jc,b.jn,b.m1,b.m2⟩,Ca h⟩
 exact CI.freeA c b
def CI.recycs{t:Nat}{E:List Int} : ∀{az:List Int}{h:ac},aZ h (az++E)->t<h.S.length->CI h->CI (recycs t h az)/\Kp h (recycs t h az)
 | [],h,_,_,b=>⟨b,Ca h⟩
 | a::az,h,c,d,b=>by
  obtain⟨e,f⟩:=CI.recyc (t:=t) c b;obtain⟨g,i⟩:=CI.recycs (az:=az) (h:=Ab.recyc t h a) (c.recyc d) (by rw[(nY t h a).1];exact d) e;exact⟨g,f.trans i⟩
def CI.freeAs{E:List Int} : ∀{az:List Int}{h:ac},aZ h (az++E)->CI h->CI (freeAs h az)/\Kp h (freeAs h az)
 | [],h,_,b=>⟨b,Ca h⟩
 | a::az,h,c,b=>by
  obtain⟨d,e⟩:=CI.freeA c b;obtain⟨f,g⟩:=CI.freeAs (az:=az) (h:=Ab.freeA h a) c.freeA d;exact⟨f,e.trans g⟩
def CI.flushN{t:Nat}{h:ac}(c:aZ h [])(d:t<h.S.length)(e:CI h):∀{k:Nat},k<=4->CI (flushN t h k).1/\Kp h (flushN t h k).1
 | 0,_=>⟨e,Ca h⟩
 | k+1,p=>by
  obtain⟨a,g⟩:=CI.flushN c d e (k:=k) ω;obtain⟨f,q,-⟩:=jB c d (k:=k) ω;have b:t<(Ab.flushN t h k).1.S.length:=ω
  have i:=m8 (f.cach _ (ar b));have j:=f.spilt b (k:=k) ω;have l:CI (spilt (Ab.flushN t h k).1 t k):=⟨a.z,a.jv,a.jd,a.jc,a.jn,a.m1,a.m2⟩
  obtain⟨n,o⟩:=CI.freeAs j l;exact⟨n,g.trans o⟩
def CI.tick{h:ac}{n:Int}(c:aZ h [])(a:CI h)(d:0<=n)(b:h.b2+n<=1000000):CI (tick h n)/\Kp h (tick h n):=by
 have e:=c.aged d b;have f:CI (aged h n):=⟨a.z,a.jv,a.jd,a.jc,a.jn,a.m1,a.m2⟩
 exact CI.freeAs e f
def CI.collect{h:ac}{t:Nat}(b:aZ h [])(a:CI h)(c:t<h.S.length):CI (collect h t)/\Kp h (collect h t):=by
 have g:=(d8.1 b.mail).1;have d:=b.nc;have e:=b.coll (t:=t) ω;have f:CI {h with y:=l9 h.y t}:=⟨a.z,a.jv,a.jd,a.jc,a.jn,a.m1,a.m2⟩
 exact CI.recycs e c f
def vh(r:List Int)(o:Nat):∀(n c:Nat),nth (lU r o n) c=if o<=c/\c<o+n then 0 else nth r c
 | 0,c=>by rw[CB ω];rfl
 | n+1,c=>by
  unfold lU;rw[bI,vh r o n c,nl];by_cases e:o+n=c
  ·rw[CD (show o<=c/\c<o+(n+1) by omega)]
   by_cases a:c<r.length
   ·rw[CD ⟨e,a⟩]
   rw[CB ω,CB ω];unfold nth;rw[C3,z3 ω];rfl
  rw[CB ω];by_cases a:o<=c/\c<o+n
  ·rw[CD a,CD ω]
  rw[CB a,CB ω]
def yu(k:ah)(a:Int)(n f c:Nat):cl (fA k a n) f c=cl k f c\/(cl (fA k a n) f c=0/\f=cW k a/\(a % 16).toNat<=c/\c<(a % 16).toNat+n):=by
 unfold cl fA;simp only[bI];split
 ·rename_i e
  rw[vh];split
  ·rename_i b;exact .inr ⟨rfl,e.1.symm,b.1,b.2⟩
  rw[e.1];exact .inl rfl
 exact .inl rfl
def G1{n:Nat}(h1:(a % 16).toNat<=c)(b:c<(a % 16).toNat+n):cl (fA k a n) (cW k a) c=0:=by
 unfold cl fA;simp only[bI];by_cases e:cW k a<k.F.W.T.length
 ·rw[CD ⟨trivial,e⟩,vh,CD ⟨h1,b⟩]
 rw[CB (λx=>e x.2)];have:nth k.F.W.T (cW k a)=[]:=by
  unfold nth;rw[C3,z3 ω];rfl
 rw[this];rfl
variable{i:Nat}
def CI.clearO(b:aZ h E)(u:JI h)(O:CI h)(P:i<h.O.length)(w:¬aN (nth h.O i).q<0)(hw:(af (tbl h) ((nth h.O i).Addr / 16)).e≠1)(y:h'.G=fA h.G (nth h.O i).Addr (csz (aN (nth h.O i).q)).toNat)(e2:h'.O=dele h.O i)(e3:h'.K=h.K)(e4:h'.Z=h.Z)(e5:h'.u=h.u):CI h'/\Kp h h':=by
 obtain⟨⟨s,H,s1,s2⟩,hc3⟩:=(dU b (ar P)).2 w;have Q:=s1;obtain⟨g1,g2,g3,-⟩:=s1;have A:=b.L.sok s H;have B:=cg (aI A).2.2;obtain⟨m1,m2,m3⟩:=b.mapped H;have R:(nth h.O i).Addr / 16=s.R:=ω
 have J:tbl h'=tbl h:=by unfold tbl;rw[y];rfl
 have S:(af (tbl h) s.R).o=(cW h.G (nth h.O i).Addr:Nat):=by
  unfold cW;rw[R];exact lK b.ker (by show(af (tbl h) s.R).e≠0;rw[b.pe H];exact m3)
 have ex:∀c:Nat,((nth h.O i).Addr % 16).toNat<=c->c<((nth h.O i).Addr % 16).toNat+(csz (aN (nth h.O i).q)).toNat->NZ h (nth h.O i).Addr (cW h.G (nth h.O i).Addr) c/\c<16:=λc h1 T=>by
  rw[<-s2]at T;have r:c<16:=by rcases B with e|e|e|e<;>rw[e]at g3 T<;>omega
  refine⟨.inl ⟨s,H,Q,S,?_,r⟩,r⟩;unfold d5;rcases B with e|e|e|e<;>rw[e]at g3 T |-<;>omega
 have cv:∀o∈h.O,∀f c:Nat,ru h o f c->ru h' o f c:=λo d f c ⟨j,K,U,a⟩=>by
  have e:h'.G.F.Q=h.G.F.Q:=J;exact⟨j,K,U,by rw[e];exact a.m,by rw[e];exact a.f,a.c⟩
 have same:∀o∈h.O,o≠nth h.O i->∀f c:Nat,ru h o f c->cl h'.G f c=cl h.G f c:=λo d V f c l=>by
  rw[y];rcases yu h.G (nth h.O i).Addr (csz (aN (nth h.O i).q)).toNat f c with g|⟨-,W,X,Y⟩
  ·exact g
  exfalso;have hx:=(ex c X Y).1;rw[<-W]at hx;have ea:=wS b (jQ b d l) hx;obtain⟨k,n,rfl⟩:=aQ d;have:=cQ (f:=(·.Addr)) (di b.osr) n P ea;subst this;exact V rfl
 have notO:∀o∈h'.O,o≠nth h.O i/\o∈h.O:=λo d=>by
  rw[e2]at d;obtain⟨k,n,Z,rfl⟩:=dn.1 d;refine⟨λe=>Z ?_,ar n⟩;exact cQ (f:=(·.Addr)) (di b.osr) n P (by rw[e])
 refine⟨O.keep e4 e5 (by rw[J];exact λq h=>h) (λ_=>by rw[J];exact⟨rfl,rfl⟩) (λf c _ M=>.inl ?_) (λo d f c r l M=>?_) (λN c C=>?_) (λ_ s' hs' _=>⟨s',by rw[<-e3];exact hs',rfl,rfl,λ_ h=>h⟩),λo d=>⟨(notO o d).2,λj K U=>?_⟩⟩
 ·rw[y]at M |-
  rcases yu h.G (nth h.O i).Addr (csz (aN (nth h.O i).q)).toNat f c with g|g
  ·exact g.symm
  exact absurd g.1 M
 ·by_cases e:o=nth h.O i
  ·exfalso
   subst e;obtain⟨t,D,F⟩:=Nw b d w l;exact M (by rw[y,t];exact G1 D F)
  refine⟨o,?_,cv o d f c l⟩;rw[e2];obtain⟨k,n,rfl⟩:=aQ d;exact dn.2 ⟨k,n,λx=>e (by rw[x]),rfl⟩
 ·have hc16:c<16:=by
   have hm2:=List.mem_of_mem_take C;obtain⟨k,n,e⟩:=aQ hm2;have:=gt (dz.1 (b.job N).1).1 n;omega
  have key:∀p:Int,(af (tbl h) p).e≠0->(∀c:Nat,NZ h (nth h.O i).Addr (cW h.G (nth h.O i).Addr) c->c<16->(c:Int)∈h.Z.X.T.take h.Z.b.toNat->(af (tbl h) p).o≠(cW h.G (nth h.O i).Addr:Nat))->cl h'.G (bP h.G p) c=cl h.G (bP h.G p) c:=λp hp Z=>by
   rw[y];rcases yu h.G (nth h.O i).Addr (csz (aN (nth h.O i).q)).toNat (bP h.G p) c with g|⟨-,W,X,Y⟩
   ·exact g
   exfalso;obtain⟨t,D⟩:=ex c X Y;refine Z c t D C ?_;rw[<-W];exact lK b.ker hp
  obtain⟨jm1,jm2⟩:=b.jobM N;exact⟨key _ jm1 λc t D F=>t7 b u O N t D (List.mem_of_mem_take F),key _ jm2 λc t _ F=>Hj b u O N t hw F⟩
 obtain⟨o1,o2⟩:=notO o d;have a:=At.mk' b.ker (cR b o2 (k:=j) ⟨K,ω⟩).1;have G:At h'.G (o.Addr+j) (cW h.G (o.Addr+j)) ((o.Addr+j) % 16).toNat:=by
  have e:h'.G.F.Q=h.G.F.Q:=J;exact⟨by rw[e];exact a.m,by rw[e];exact a.f,a.c⟩
 rw[G.cell,a.cell];exact same o o2 o1 _ _ ⟨j,K,U,a⟩
def m0(h:aC k=true)(d:∀p:Int,(af k.F.Q p).e≠0->(af k.F.Q p).o≠f)(c:Nat):cl k f c=0:=by
 obtain⟨-,i,-,j,-⟩:=aG.1 h;obtain⟨-,-,w,n⟩:=bf.1 i;unfold cl;by_cases o:f<k.F.W.T.length
 ·have r:nth k.F.W.a1 f=false:=by
   rw[j f ω,z5];intro a;obtain⟨q,y,t,u⟩:=eB.1 a;have e:af k.F.Q (q:Nat)=nth k.F.Q.J q:=by unfold af;rw[CD ⟨ω,ω⟩];rfl
   exact d (q:Nat) (by rw[e];exact t) (by rw[e];exact u)
  have b:=n f o;unfold im at b;rw[r]at b;simp only[I0,C0,O4]at b;by_cases g:c<(nth k.F.W.T f).length
  ·have:=b.2 _ (ar g)
   unfold jm at this;rw[I0,Bool.false_or,C0,C0]at this;exact this.2
  unfold nth;rw[C3 (l:=List.getD _ _ _),z3 (by unfold nth at g;omega)];rfl
 have:nth k.F.W.T f=[]:=by
  unfold nth;rw[C3,z3 ω];rfl
 rw[this];rfl
def CI.freeL{h:ac}{E:List Int}(d:aZ h E)(T:CI h){i k:Nat}(O:i<h.O.length)(r:k<h.M.length)(U:(nth h.O i).Addr=16*(nth h.M k).R):CI (freeL h i k)/\Kp h (freeL h i k):=by
 obtain⟨V,W⟩:=uX d r;have t:=d.L.lok _ (ar r);have X:=aT t;have kl:=KL.unmN d.ker V _ W;have ker:=gZ d.ker (nth h.M k).R (nth h.M k).a3.toNat;have u:=(fj h.G (nth h.M k).R (nth h.M k).a3.toNat).1;have notO:∀o∈dele h.O i,o≠nth h.O i/\o∈h.O:=λo n=>by
  obtain⟨j,y,Y,rfl⟩:=dn.1 n;exact⟨λe=>Y (cQ (f:=(·.Addr)) (di d.osr) y O (by rw[e])),ar y⟩
 have onL:∀b:Int,(nth h.M k).R<=b / 16->b / 16<(nth h.M k).R+((nth h.M k).a3.toNat:Nat)->∀f c:Nat,At h.G b f c->NZ h (nth h.O i).Addr f c:=λb h1 h2 f c g=>.inr ⟨_,ar r,U,b,ω,ω,g⟩
 refine CI.kern d T (λo n=>(notO o n).2) rfl rfl (λo n Z f c h16 C=>?_) (λq hq=>?_) (λhm=>?_) (λo n j D P=>?_) kl.cel (λ_ s' F _=>⟨s',F,rfl,rfl,λ_ h=>h⟩)
 ·-- the object itself
  have G:o=nth h.O i:=by
   refine Classical.byContradiction λe=>Z ?_
   obtain⟨j,y,rfl⟩:=aQ n;exact dn.2 ⟨j,y,λx=>e (by rw[x]),rfl⟩
  subst G;rcases kl.cel f c with e|e
  ·refine m0 ker (λp A H=>?_) c
   obtain⟨j,D,P,g⟩:=C;have hsz:(nth h.O i).q<=16*(nth h.M k).a3:=by
    rcases d.oow _ n with⟨s,J,Q,-⟩|⟨l,R,e1,e2⟩
    ·exact absurd (show s.R=(nth h.M k).R+((0:Nat):Int) by have:=Q.1;have:=Q.2.1;omega) (d.L.dis s J _ (ar r) 0 ω)
    obtain⟨m,K,rfl⟩:=aQ R;have:=d.L.one m k K r 0 0 (by have:=aT (d.L.lok _ R);omega) ω ω;subst this;unfold bR at t;rw[C0]at t;omega
   by_cases B:(nth h.M k).R<=p/\p<(nth h.M k).R+((nth h.M k).a3.toNat:Nat)
   ·exact A (kl.ins p B.1 B.2)
   have w:=kl.out p B;change af (unmN h.G (nth h.M k).R (nth h.M k).a3.toNat).F.Q p=_ at w;change (af (unmN h.G (nth h.M k).R (nth h.M k).a3.toNat).F.Q p).e≠0 at A;change (af (unmN h.G (nth h.M k).R (nth h.M k).a3.toNat).F.Q p).o=_ at H;rw[w]at A H;have:=mi d (ar r) (b:=(nth h.O i).Addr+j) ω ω g A H;omega
  exact e.1
 ·have:=kl.md u q (by show(nth (tbl (Ab.freeL h i k)).J q).e≠0;omega)
  show(nth h.G.F.Q.J q).e=1;rw[<-this];exact hq
 ·obtain⟨-,⟨a,ha,M⟩,b,hb,eb⟩:=d.job hm
  have no:∀s∈h.K,¬((nth h.M k).R<=s.R/\s.R<(nth h.M k).R+((nth h.M k).a3.toNat:Nat)):=λs J B=>d.L.dis s J _ (ar r) (s.R - (nth h.M k).R).toNat ω ω
  exact⟨by rw[<-M];exact kl.out _ (no a ha),by rw[<-eb];exact kl.out _ (no b hb)⟩
 obtain⟨o1,N⟩:=notO o n;refine kl.out _ λS=>o1 ?_
 have g:=At.mk' d.ker (cR d N (k:=j) ⟨D,ω⟩).1;have e:=wS d (jQ d N ⟨j,D,P,g⟩) (onL _ S.1 S.2 _ _ g);obtain⟨m,K,rfl⟩:=aQ N;rw[cQ (f:=(·.Addr)) (di d.osr) K O e]
def CI.freeT{h:ac}{t i:Nat}(b:aZ h [])(c:JI h)(d:CI h)(e:i<h.O.length)(n:t<h.S.length):CI (freeT h t i).1/\Kp h (freeT h t i).1:=by
 unfold Ab.freeT;split
 ·rename_i a
  obtain⟨l,o,f,-⟩:=(dU b (ar e)).1 a;obtain⟨g,j,-⟩:=wU o f;exact CI.freeL b d e g j
 rename_i a;split
 ·exact⟨d,Ca h⟩
 rename_i k;split
 ·obtain⟨p,g⟩:=CI.clearO (h':=inQuar h i) b c d e a k rfl rfl rfl rfl rfl
  have f:=b.inQuar e a;obtain⟨q,j⟩:=CI.recycs (t:=t) (E:=[]) (az:=(zV h.a7 (lD h (nth h.O i))).map (·.Addr)) (h:=inQuar h i) (by rw[List.append_nil];exact f) n p;exact⟨q,g.trans j⟩
 split
 ·exact CI.clearO (h':=MV h t i) b c d e a k rfl rfl rfl rfl rfl
 exact⟨d,Ca h⟩
structure KA(k k':ah)(lo n:Int):Prop where
 out:∀q:Int,¬(lo<=q/\q<lo+n)->af k'.F.Q q=af k.F.Q q
 md:∀q:Nat,(nth k'.F.Q.J q).e=1->(nth k.F.Q.J q).e=1
 cel:∀f c:Nat,cl k' f c=cl k f c
def NK{a:ah}(b:a.F.Q.J.length=k.F.Q.J.length)(h:∀q:Nat,¬(lo<=q/\(q:Int)<lo+n)->nth a.F.Q.J q=nth k.F.Q.J q)(q:Int)(c:¬(lo<=q/\q<lo+n)):af a.F.Q q=af k.F.Q q:=by
 unfold af;rw[b];by_cases e:0<=q/\q<k.F.Q.J.length
 ·rw[CD e,CD e];exact h q.toNat ω
 rw[CB e,CB e]
def KA.newK{r:ah × Bool}(s:wm k p r):KA k r.1 p 1:=by
 cases e:r.2 with
 | false=>rw[s.no e];exact⟨λ_ _=>rfl,λ_ h=>h,λ_ _=>rfl⟩
 | true=>
  obtain⟨f,-,-,b,-⟩:=s.yes e;refine⟨NK s.len λq a=>by rw[b,CB ω],λq a=>?_,λf c=>by unfold cl;rw[s.cells]⟩;rw[b]at a;split at a
  ·exact absurd a (by show ¬(2:Int)=1;decide)
  exact a
def KA.newsK{n:Nat}{r:ah × Nat}(s:jz k p n r):KA k r.1 p r.2:=by
 refine⟨NK s.len s.out,λq a=>?_,λf c=>by unfold cl;rw[s.cells]⟩;by_cases e:p<=q/\(q:Int)<p+r.2
 ·rw[(s.new q e.1 e.2).1]at a;exact absurd a (by decide)
 rw[s.out q e]at a;exact a
def oy(d:aZ h E)(b:∀q:Nat,lo<=q->(q:Int)<lo+n->(nth (tbl h).J q).e=0)(a:(af (tbl h) p).e≠0):¬(lo<=p/\p<lo+n):=λe=>by
 obtain⟨f,-,c⟩:=nr a;rw[c]at a;exact a (b p.toNat ω ω)
def CI.mapped(b:aZ h E)(t:CI h)(e:KA h.G h'.G lo n)(g:∀q:Nat,lo<=q->(q:Int)<lo+n->(nth (tbl h).J q).e=0)(i:h'.O=h.O)(u:h'.Z=h.Z)(l:h'.u=h.u)(p:h.u=true->∀d∈h'.K,d.R=h.Z.X.a4\/d.R=h.Z.X.a2->d∈h.K):CI h'/\Kp h h':=by
 refine CI.kern b t (λo a=>by rw[<-i];exact a) u l (λo a r=>absurd (by rw[i];exact a) r) e.md (λa=>?_) (λo a j w C=>?_) (λf c=>.inl (e.cel f c)) (λa d r y=>⟨d,p a d r y,rfl,rfl,λ_ h=>h⟩)
 ·obtain⟨A,B⟩:=b.jobM a
  exact⟨e.out _ (oy b g A),e.out _ (oy b g B)⟩
 rw[i]at a;exact e.out _ (oy b g (cR b a (k:=j) ⟨w,ω⟩).1)
structure CA(h:ac)(r:ac):Prop where
 ci:CI r
 kp:Kp h r
 ob:r.O=h.O
def CI.slotT{h:ac}(e:CI h){i:Nat}(t:i<h.K.length)(a:fH h (nth h.K i).R=false):CI (slotT h i):=by
 refine e.keep rfl rfl (λq h=>h) (λ_=>⟨rfl,rfl⟩) (λf c _ _=>.inl rfl) (λo g f c _ b _=>⟨o,g,b⟩) (λ_ c _=>⟨rfl,rfl⟩) λk u d l=>?_
 rcases ee d with rfl|⟨j,n,-,rfl⟩
 ·obtain⟨p,r⟩:=y9 a k
  exact(l.elim p r).elim
 exact⟨_,ar n,rfl,rfl,λ_ h=>h⟩
def CI.smallA{h:ac}{t c:Nat}(d:aZ h [])(a:CI h)(V:t<h.S.length)(G:c<=3)(H:h.G.Calls<=90000):CA h (smallA h t c).1:=by
 unfold Ab.smallA;split
 ·exact⟨⟨a.z,a.jv,a.jd,a.jc,a.jn,a.m1,a.m2⟩,Ca h,rfl⟩
 split
 ·rename_i i D
  have o:=List.find?_some D;have b:=List.mem_range.1 (List.mem_of_find?_eq_some D);unfold nU at o;simp only[I0,C0,Bool.not_eq_true']at o;exact⟨CI.slotT a b o.2.1,Ca h,rfl⟩
 split
 ·exact⟨a,Ca h,rfl⟩
 rename_i J;have f:(ax h.j 1).2.2=true:=by simpa using J
 obtain⟨K,L,r,E⟩:=ix d (V5 1) f;have s:=wm.of (p:=(ax h.j 1).2.1) d.ker ω ⟨K,by have:(ax h.j 1).2.1+1<=(h.G.F.Q.J.length:Nat):=L;omega⟩ (r _ ω ω);have F:=KA.newK s;split
 ·obtain⟨g,j⟩:=CI.mapped (h':={h with G:=(newK h.G (ax h.j 1).2.1).1}) d a F (λq u w=>r q u w) rfl rfl rfl (λ_ k b _=>b)
  exact⟨g,j,rfl⟩
 rename_i M;have A:(newK h.G (ax h.j 1).2.1).2=true:=by simpa using M
 have k:wm h.G (ax h.j 1).2.1 ((newK h.G (ax h.j 1).2.1).1,true):=by rw[<-A];exact s
 have W:=d.addS (c:=c) ⟨ω,ω⟩ f k;have N:JK h (mg h c):=JK.addS k;have jno:∀l:h.u=true,(ax h.j 1).2.1≠h.Z.X.a4/\(ax h.j 1).2.1≠h.Z.X.a2:=λl=>by
  obtain⟨-,⟨y,O,P⟩,⟨z,Q,R⟩⟩:=d.job l;exact⟨λe=>E _ (V5 _) ω (by rw[e,<-P];exact d9 O),λe=>E _ (V5 _) ω (by rw[e,<-R];exact d9 Q)⟩
 obtain⟨g,j⟩:=CI.mapped (h':=mg h c) d a F (λq u w=>r q u w) rfl rfl rfl (λl k b S=>by
   rcases cM.1 b with rfl|b
   · obtain⟨B,C⟩:=jno l
     exact(S.elim B C).elim
   exact b)
 obtain⟨T,U⟩:=Db (D8 (ax h.j 1).2.1) h.K ⟨(ax h.j 1).2.1,c,0⟩;unfold iN;split
 ·exact⟨g,j,rfl⟩
 refine⟨CI.slotT (h:=mg h c) g (i:=mc h) T ?_,j,rfl⟩;show fH (mg h c) (nth (ju (D8 (ax h.j 1).2.1) h.K ⟨(ax h.j 1).2.1,c,0⟩) (mc h)).R=false;unfold mc;rw[U,N.pg,<-C6];intro n;unfold fH at n;simp only[I0,C7,C0]at n;obtain⟨B,C⟩:=jno n.1;exact n.2.elim B C
structure Ud(h h':ac)(x:bt):Prop where
 mem:∀o,o∈h'.O↔o=x\/o∈h.O
 ze:∀j:Int,0<=j->j<x.q->fK h'.G (x.Addr+j)=0
 ke:∀o∈h.O,∀j:Int,0<=j->j<o.q->fK h'.G (o.Addr+j)=fK h.G (o.Addr+j)
def Ud.of{g:ac}{L:List Int}{x:bt}(A:aZ g E)(M:CI g)(b:aZ h' L)(r:JI h')(B:CI h')(C:∀p:Int,(af (tbl g) p).e≠0->af (tbl h') p=af (tbl g) p)(d:∀f c,cl h'.G f c=cl g.G f c)(l:∀o,o∈h'.O↔o=x\/o∈g.O)(N:x∉g.O)(G:h'.Z=g.Z)(O:h'.u=g.u)(D:g.O=h.O)(P:Kp h g):Ud h h' x:=by
 have Q:∀o∈g.O,∀f c:Nat,ru g o f c->ru h' o f c:=λo D f c ⟨j,n,t,a⟩=>by
  have e:=C _ a.m;unfold tbl at e;exact⟨j,n,t,by rw[e];exact a.m,by rw[e];exact a.f,a.c⟩
 refine⟨λo=>by rw[l,D],λj n t=>?_,λo u j n t=>?_⟩
 ·have q:=(l x).2 (.inl rfl)
  have a:=At.mk' b.ker (cR b q (k:=j) ⟨n,ω⟩).1;rw[a.cell];refine Classical.byContradiction λH=>?_
  have w:((x.Addr+j) % 16).toNat<16:=ω
  rw[d]at H;have i:ru h' x _ _:=⟨j,n,t,a⟩
  rcases M.z _ _ w H with⟨o,u,F⟩|⟨J,R,S⟩
  ·have:=JN b ((l o).2 (.inr u)) q (Q o u _ _ F) i
   subst this;exact N u
  refine t7 b r B (by rw[O];exact J) (jQ b q i) w (by rw[G];exact List.mem_of_mem_take S) ?_;rw[G,C _ (A.jobM J).1];exact R
 have K:o∈g.O:=by rw[D];exact u
 refine Eq.trans ?_ ((P o K).2 j n t);have a:=At.mk' A.ker (cR A K (k:=j) ⟨n,ω⟩).1;have e:=C _ a.m;have y:At h'.G (o.Addr+j) (cW g.G (o.Addr+j)) ((o.Addr+j) % 16).toNat:=by
  unfold tbl at e;exact⟨by rw[e];exact a.m,by rw[e];exact a.f,a.c⟩
 rw[y.cell,a.cell,d]
def CI.addO{h:ac}(e:CI h)(a size t:Int):CI (addO h a size t):=
 e.keep rfl rfl (λq h=>h) (λ_=>⟨rfl,rfl⟩) (λf c _ _=>.inl rfl) (λo g f c _ b _=>⟨o,cM.2 (.inr g),b⟩) (λ_ c _=>⟨rfl,rfl⟩) λ_ i d _=>⟨i,d,rfl,rfl,λ_ h=>h⟩
structure AL(h:ac)(t size:Int)(r:ac × Int × Int):Prop where
 ci:CI r.1
 no:r.2.2≠0->r.1.O=h.O/\Kp h r.1/\r.1.b=h.b/\r.2.1 = -1
 yes:r.2.2=0->Ud h r.1 ⟨h.b,r.2.1,size,t⟩/\r.1.b=h.b+1/\1<=size/\size<=1000/\0<=r.2.1
variable{size:Int}
def NE(b:aZ h E){t:Int} : (⟨h.b,a,size,t⟩ : bt)∉h.O:=λc=>by
 have:=(b.onu _ c).2.1;simp only at this;omega
def CI.largeA{h:ac}{t size:Int}(b:aZ h [])(C:JI h)(y:CI h)(L:9<=size/\size<=1000)(D:h.b<1000000)(E:h.G.Calls<=90000)(U:0<=t/\t<=h.S.length - 1):AL h t size (largeA h t size):=by
 have hl:(gk size:Int)=(size+15) / 16:=by unfold gk;omega
 have a:=Bo b L D E U;unfold Ab.largeA at a |-;by_cases F:(ax h.j (gk size:Nat)).2.2=false
 ·rw[CD F]
  exact⟨y,λ_=>⟨rfl,Ca h,rfl,rfl⟩,λe=>by cases e⟩
 rw[CB F]at a |-;have G:(ax h.j (gk size:Nat)).2.2=true:=by simpa using F
 obtain⟨M,N,O,u4⟩:=ix b (show(1:Int)<=(gk size:Nat) by omega) G;have s:jz h.G (ax h.j (gk size:Nat)).2.1 (gk size) (dE h size):=jz.of (p:=(ax h.j (gk size:Nat)).2.1) (n:=gk size) b.ker ω ⟨M,N⟩ O (gk size) (W3 _);have d:=KA.newsK s;have V:=s.le;have i:∀q:Nat,(ax h.j (gk size:Nat)).2.1<=q->(q:Int)<(ax h.j (gk size:Nat)).2.1+(dE h size).2->(nth (tbl h).J q).e=0:=λq W q2=>O q W ω
 by_cases P:(dE h size).2=gk size
 ·rw[CD P]at a |-
  obtain⟨Q,H⟩:=a;have ji1:=C.keep Q H;have w:∀o,o∈(addL h (dE h size).1 (ax h.j (gk size:Nat)).1 (ax h.j (gk size:Nat)).2.1 (gk size:Nat) size t).O↔o = ⟨h.b,16*(ax h.j (gk size:Nat)).2.1,size,t⟩\/o∈h.O:=λo=>cM
  have X:=CI.mapped (h':={h with G:=(dE h size).1}) b y d i rfl rfl rfl (λ_ A Y _=>Y);have B:CI (addL h (dE h size).1 (ax h.j (gk size:Nat)).1 (ax h.j (gk size:Nat)).2.1 (gk size:Nat) size t):=
   X.1.keep rfl rfl (λq h=>h) (λ_=>⟨rfl,rfl⟩) (λf c _ _=>.inl rfl) (λo l f c _ J _=>⟨o,cM.2 (.inr l),J⟩) (λ_ c _=>⟨rfl,rfl⟩) λ_ A r _=>⟨A,r,rfl,rfl,λ_ h=>h⟩
  refine⟨B,λe=>absurd rfl e,λ_=>⟨?_,rfl,ω,L.2,by show 0<=16*_;omega⟩⟩;exact Ud.of (g:=h) b y Q ji1 B (λp Z=>d.out p (oy b i Z)) d.cel w (NE b) rfl rfl rfl (Ca h)
 rw[CB P]at a |-;have K:=s.len;have kl:=KL.unmN s.ker M (dE h size).2 (by rw[K];have:(ax h.j (gk size:Nat)).2.1+((gk size:Nat):Int)<=(h.G.F.Q.J.length:Nat):=N;omega);have u:=((fj (dE h size).1 (ax h.j (gk size:Nat)).2.1 (dE h size).2).1)
 obtain⟨B,k1⟩:=CI.kern (h':={h with G:=unmN (dE h size).1 (ax h.j (gk size:Nat)).2.1 (dE h size).2}) b y (λo l=>l) rfl rfl (λo l D=>absurd l D) (λq R=>d.md q (by rw[<-kl.md u q (by show(nth (unmN (dE h size).1 _ _).F.Q.J q).e≠0;have:(nth (unmN (dE h size).1 (ax h.j (gk size:Nat)).2.1 (dE h size).2).F.Q.J q).e=1:=R;omega)];exact R)) (λhm=>by
     obtain⟨S,T⟩:=b.jobM hm;exact⟨(kl.out _ (oy b i S)).trans (d.out _ (oy b i S)),(kl.out _ (oy b i T)).trans (d.out _ (oy b i T))⟩) (λo l j H j2=>by
     have:=oy b i (cR b l (k:=j) ⟨H,ω⟩).1;exact(kl.out _ this).trans (d.out _ this)) (λf c=>by
     rcases kl.cel f c with e|e
     · exact .inl (e.trans (d.cel f c))
     exact .inr e) (λ_ A r _=>⟨A,r,rfl,rfl,λ_ h=>h⟩)
 exact⟨B,λ_=>⟨rfl,k1,rfl,rfl⟩,λe=>by cases e⟩
def CI.allocH{h:ac}{t size:Int}(i:aZ h [])(f:JI h)(j:CI h):AL h t size (allocH h t size):=by
 have a:=qH (t:=t) (size:=size) i;have no:∀n:Int,n≠0->AL h t size (h,-1,n):=λn B=>⟨j,λ_=>⟨rfl,Ca h,rfl,rfl⟩,λe=>absurd e B⟩
 unfold Ab.allocH at a |-;by_cases k:1000000<=h.b\/90000<h.G.Calls
 ·rw[CD k];exact no 5 (by decide)
 rw[CB k]at a |-;by_cases l:¬(0<=t/\t<=h.S.length - 1)
 ·rw[CD l];exact no 1 (by decide)
 rw[CB l]at a |-;by_cases q:¬(1<=size/\size<=1000)
 ·rw[CD q];exact no 2 (by decide)
 rw[CB q]at a |-;by_cases u:h.b1<iS h+size
 ·rw[CD u];exact no 3 (by decide)
 rw[CB u]at a |-;by_cases b:0<=aN size
 ·rw[CD b]at a |-
  have C:aN size<=3:=by unfold aN;repeat' split<;>omega
  have s:=ny (t:=t.toNat) (c:=(aN size).toNat) i ω ω ω;have d:=CI.smallA (t:=t.toNat) (c:=(aN size).toNat) i j ω ω ω;generalize Ab.smallA h t.toNat (aN size).toNat=r at s d a |-;by_cases e:r.2<0
  ·rw[CD e]at a |-
   exact⟨d.ci,λ_=>⟨d.ob,d.kp,s.nx,rfl⟩,λe=>by cases e⟩
  rw[CB e]at a |-;obtain⟨w,D⟩:=a;obtain⟨y,-⟩:=s.yes ω;have A:=CI.addO d.ci r.2 size t;refine⟨A,λe=>absurd rfl e,λ_=>⟨?_,by show r.1.b+1=h.b+1;rw[s.nx],ω,ω,by show 0<=r.2;omega⟩⟩;have:=Ud.of (h:=h) (g:=r.1) (x:=⟨r.1.b,r.2,size,t⟩) y d.ci w (f.keep w D) A (λp _=>rfl) (λ_ _=>rfl) (λo=>cM) (NE y) rfl rfl d.ob d.kp;rw[s.nx]at this;exact this
 rw[CB b];have E:9<=size:=by
  unfold aN at b
  repeat' split at b<;>omega
 exact CI.largeA i f j ⟨E,ω⟩ ω ω ω
def rY(k:ah)(a v:Int)(f c:Nat):cl (dI k a v) f c=cl k f c\/(cl (dI k a v) f c=v/\f=cW k a/\c=(a % 16).toNat):=by
 unfold cl dI setCell;simp only[bI];by_cases e:cW k a=f/\f<k.F.W.T.length
 ·rw[CD e,bI]
  by_cases b:(a % 16).toNat=c/\c<(nth k.F.W.T (cW k a)).length
  ·rw[CD b];exact .inr ⟨rfl,e.1.symm,b.1.symm⟩
  rw[CB b,e.1];exact .inl rfl
 rw[CB e];exact .inl rfl
variable{v:Int}
def Bq(c:aC k=true)(e:(af k.F.Q (a / 16)).e≠0):cl (dI k a v) (cW k a) (a % 16).toNat=v:=by
 have d:=(gS c e).1;have b:=(uH c (f:=cW k a) d).1;unfold cl dI setCell;show nth (nth (List.set _ _ _) _) _=v;rw[bI,CD ⟨rfl,d⟩,bI,CD ⟨rfl,by rw[b];omega⟩]
def Kb(d:ru h o f c):ru {h with G:=dI h.G a v} o f c:=by
 obtain⟨j,e,g,b⟩:=d;exact⟨j,e,g,⟨b.m,b.f,b.c⟩⟩
def R2(d:aZ h E)(q:o∈h.O){x:Int}(y:0<=x/\x<o.q)(A:0<=j/\j<o.q)(h1:At h.G (o.Addr+x) f c)(g:At h.G (o.Addr+j) f c):x=j:=by
 have B:=h1.c;have C:=g.c;rcases d.oow o q with⟨s,r,t,u⟩|⟨l,k,D,F⟩
 ·have i:=aI (d.L.sok s r)
  have a:=DO (n:=o.q) ω;rw[<-u]at a;obtain⟨G,H,w,-⟩:=t;rcases cg i.2.2 with e|e|e|e<;>rw[e]at w a<;>omega
 have p:=d.L.lok l k;unfold bR at p;rw[C0]at p;have:=mi d k (b:=o.Addr+x) ω ω h1 g.m g.f;omega
def CI.store(b:aZ h E)(A:JI h)(N:CI h)(O:i<h.O.length)(P:0<=j/\j<=(nth h.O i).q - 1)(Y:(af (tbl h) (((nth h.O i).Addr+j) / 16)).e≠1):CI {h with G:=dI h.G ((nth h.O i).Addr+j) v}/\
  ∀o∈h.O,∀x:Int,0<=x->x<o.q->fK (dI h.G ((nth h.O i).Addr+j) v) (o.Addr+x)=if o=nth h.O i/\x=j then v else fK h.G (o.Addr+x):=by
 have g:=ar O;have F:=(cR b g P).1;have G:=At.mk' b.ker F;have d:ru h (nth h.O i) _ _:=⟨j,P.1,ω,G⟩
 have r:=jQ b g d;have Z:(((nth h.O i).Addr+j) % 16).toNat<16:=ω
 have key:∀p:Int,(af (tbl h) p).e≠0->(af (tbl h) p).o≠(cW h.G ((nth h.O i).Addr+j):Nat)->∀c,cl (dI h.G ((nth h.O i).Addr+j) v) (bP h.G p) c=cl h.G (bP h.G p) c:=λp Q B c=>by
  rcases rY h.G ((nth h.O i).Addr+j) v (bP h.G p) c with e|⟨-,e,-⟩
  ·exact e
  refine absurd ?_ B;rw[<-e];exact lK b.ker Q
 refine⟨N.keep rfl rfl (λq h=>h) (λ_=>⟨rfl,rfl⟩) (λf c _ _=>?_) (λo g f c _ d _=>⟨o,g,Kb d⟩) (λH c C=>?_) (λ_ s' R _=>⟨s',R,rfl,rfl,λ_ h=>h⟩),λo g x S W=>?_⟩
 ·rcases rY h.G ((nth h.O i).Addr+j) v f c with e|⟨-,u,w⟩
  ·exact .inl e.symm
  refine .inr ⟨_,g,?_⟩;rw[u,w];exact Kb d
 ·obtain⟨jm1,jm2⟩:=b.jobM H
  have J:c<16:=by
   obtain⟨k,lk,e⟩:=aQ (List.mem_of_mem_take C);have:=gt (dz.1 (b.job H).1).1 lk;omega
  constructor
  ·rcases rY h.G ((nth h.O i).Addr+j) v (bP h.G h.Z.X.a4) c with e|⟨-,u,w⟩
   ·exact e
   exfalso;rw[<-u,<-w]at r;exact t7 b A N H r J (List.mem_of_mem_take C) (lK b.ker jm1)
  rcases rY h.G ((nth h.O i).Addr+j) v (bP h.G h.Z.X.a2) c with e|⟨-,u,w⟩
  ·exact e
  exfalso;rw[<-u,<-w]at r;refine Hj b A N H r ?_ C (lK b.ker jm2);rcases b.oow _ g with⟨s,hs,s1,s2⟩|⟨l,X,l1,-⟩
  ·have T:=aI (b.L.sok s hs)
   have K:=DO (n:=(nth h.O i).q) ω;rw[<-s2]at K;obtain⟨g1,g2,g3,-⟩:=s1;have Q:((nth h.O i).Addr+j) / 16=(nth h.O i).Addr / 16:=by rcases cg T.2.2 with e|e|e|e<;>rw[e]at g3 K<;>omega
   rw[<-Q];exact Y
  intro M;obtain⟨a1,a2,a3⟩:=nr (t:=tbl h) (p:=(nth h.O i).Addr / 16) ω;rw[a3]at M;have h3:=(N.m1 _ M).2.1;obtain⟨-,-,y,hy,-,ey,-⟩:=A.sp H;have hpl:=aT (b.L.lok l X);exact b.L.dis y hy l X 0 ω ω
 have U:=(cR b g (k:=x) ⟨S,ω⟩).1;have a:=At.mk' b.ker U;have D:At (dI h.G ((nth h.O i).Addr+j) v) (o.Addr+x) (cW h.G (o.Addr+x)) ((o.Addr+x) % 16).toNat:=⟨a.m,a.f,a.c⟩
 rw[D.cell,a.cell];split
 ·rename_i e
  obtain⟨u,w⟩:=e;subst u w;exact Bq b.ker F
 rename_i B;rcases rY h.G ((nth h.O i).Addr+j) v (cW h.G (o.Addr+x)) ((o.Addr+x) % 16).toNat with e|⟨-,u,w⟩
 ·exact e
 exfalso;rw[u,w]at a;have V:ru h o _ _:=⟨x,S,W,a⟩
 have eo:=JN b g (ar O) V d;subst eo;refine B ⟨rfl,?_⟩;exact R2 b (ar O) ⟨S,W⟩ ⟨P.1,ω⟩ a G
structure JP(h:ac):Prop where
 km:(af (tbl h) h.Z.X.a4).e≠0
 mm:(af (tbl h) h.Z.X.a2).e≠0
 kf:(af (tbl h) h.Z.X.a4).o=(bP h.G h.Z.X.a4:Nat)
 mf:(af (tbl h) h.Z.X.a2).o=(bP h.G h.Z.X.a2:Nat)
 ne:bP h.G h.Z.X.a4≠bP h.G h.Z.X.a2
 pe:h.Z.X.a4≠h.Z.X.a2
 k2:CI h->(af (tbl h) h.Z.X.a4).e≠1
def JP.of(g:aZ h E)(i:JI h)(j:h.u=true):JP h:=by
 obtain⟨k,b⟩:=g.jobM j;have a:=(dz.1 (g.job j).1).1;unfold fm at a;simp only[I0,C0]at a;have c:=a.2.2.2.2.2;have l:=lK g.ker k;have n:=lK g.ker b;obtain⟨t,u,o⟩:=nr k;obtain⟨w,y,q⟩:=nr b;refine⟨k,b,l,n,λe=>c ?_,c,λr p=>?_⟩
 ·have d:(af (tbl h) h.Z.X.a4).o=(bP h.G h.Z.X.a4:Nat):=l
  have f:(af (tbl h) h.Z.X.a2).o=(bP h.G h.Z.X.a2:Nat):=n;rw[o]at d;rw[q]at f b;have:=i.sk j h.Z.X.a2.toNat b (by rw[d,f,e]);omega
 rw[o]at p;have:=(r.m1 _ p).2.1;omega
def hJ(h:ac)(k:ah)(j:cK):ac:={h with G:=k,u:=true,Z:=j}
def hE(h:ac)(k:ah):ac:={h with G:=k,u:=false,Z:=⟨⟨0,0,[]⟩,0,0⟩}
def P8(a:h.u=true):mStep h=if over (hO h.G h.Z).2=true then hE h (hO h.G h.Z).1 else hJ h (hO h.G h.Z).1 (hO h.G h.Z).2:=by
 unfold mStep hE hJ;split
 ·rfl
 rw[a]
def wO(g:aZ h E)(l:h'.O=h.O)(n:∀p,(af (tbl h) p).e≠0->(af (tbl h') p).e≠0/\(af (tbl h') p).o=(af (tbl h) p).o)(q:∀o∈h.O,∀f c,ru h o f c->cl h'.G f c=cl h.G f c):Kp h h':=λo e=>by
 rw[l]at e;refine⟨e,λj i r=>?_⟩;have b:=(cR g e (k:=j) ⟨i,ω⟩).1;have a:=At.mk' g.ker b;obtain⟨t,u⟩:=n _ b;have d:At h'.G (o.Addr+j) (cW h.G (o.Addr+j)) ((o.Addr+j) % 16).toNat:=⟨t,u.trans a.f,a.c⟩
 rw[d.cell,a.cell];exact q o e _ _ ⟨j,i,r,a⟩
def xb(b:∀p,(af (tbl h) p).e≠0->(af (tbl h') p).e≠0/\(af (tbl h') p).o=(af (tbl h) p).o)(d:ru h o f c):ru h' o f c:=by
 obtain⟨j,e,g,a⟩:=d;obtain⟨i,k⟩:=b _ a.m;exact⟨j,e,g,i,k.trans a.f,a.c⟩
def tQ{m:Int}(b:(af k.F.Q p).e≠0)(q:Int):af (j7 k p m).F.Q q=if q=p then {af k.F.Q p with e:=m} else af k.F.Q q:=by
 obtain⟨c,d,g⟩:=nr b;have f:(j7 k p m).F.Q.J.length=k.F.Q.J.length:=by unfold j7;simp
 unfold af;rw[f];by_cases e:0<=q/\q<k.F.Q.J.length
 ·rw[CD e,CD e]
  unfold j7;simp only[bI];by_cases a:q=p
  ·rw[CD a,CD ⟨ω,ω⟩,CD ⟨c,d⟩]
  rw[CB a,CB ω]
 rw[CB e,CB e,CB ω]
def JL{t:aJ}{q:Nat}(h:(nth t.J q).e≠0):af t (q:Int)=nth t.J q:=by
 have:=qp h;unfold af;rw[CD ⟨ω,ω⟩];rfl
def CI.ended(l:aZ h E)(n:CI h)(u:h.u=true)(r:h.Z.b=0)(g:∀f c,cl k f c=cl h.G f c)(i:∀p,(af (tbl h) p).e≠0->(af k.F.Q p).e≠0/\(af k.F.Q p).o=(af (tbl h) p).o)(h1:∀q:Nat,(nth k.F.Q.J q).e≠1):CI (hE h k)/\Kp h (hE h k):=by
 refine⟨⟨λf c a b=>?_,λe=>(by cases e),λe=>(by cases e),λe=>(by cases e),λe=>(by cases e),λq t=>absurd t (h1 q),λe=>(by cases e)⟩,wO l rfl i λo j f c _=>g f c⟩;change cl k f c≠0 at b;rw[g]at b;rcases n.z f c a b with⟨o,j,d⟩|⟨-,-,e⟩
 ·exact .inl ⟨o,j,xb i d⟩
 rw[r]at e;cases e
def Ke{p:cE}(h:fm p=true){i:Nat} : ∀{j:Nat},i<j->j<p.T.length->nth p.T i<nth p.T j
 | 0,a,_=>absurd a (Nat.not_lt_zero i)
 | j+1,a,d=>by
  have b:=h;unfold fm at b;simp only[I0]at b;have c:=fB b.1 d;unfold mP at c;rw[C0]at c;have f:nth p.T j<nth p.T (j+1):=c.2.2.resolve_left ω;by_cases e:i=j
  ·rw[e];exact f
  have:=Ke h (i:=i) (j:=j) ω ω;omega
def rW(k:ah)(a:Nat)(b v:Int)(f c:Nat):cl (setCell k a b v) f c=cl k f c\/(cl (setCell k a b v) f c=v/\f=a/\c=b.toNat):=by
 unfold cl setCell;simp only[bI];by_cases e:a=f/\f<k.F.W.T.length
 ·rw[CD e,bI]
  by_cases d:b.toNat=c/\c<(nth k.F.W.T a).length
  ·rw[CD d];exact .inr ⟨rfl,e.1.symm,d.1.symm⟩
  rw[CB d,e.1];exact .inl rfl
 rw[CB e];exact .inl rfl
def qS(c:aC k=true)(e:(af k.F.Q p).e≠0)(g:0<=a/\a<=15):cl (setCell k (bP k p) a v) (bP k p) a.toNat=v:=by
 have d:=(gS c e).1;have b:=(uH c (f:=bP k p) d).1;unfold cl setCell;show nth (nth (List.set _ _ _) _) _=v;rw[bI];rw[CD ⟨rfl,d⟩,bI,CD ⟨rfl,by rw[b];omega⟩]
def FM{j:cK}(d:ru h o f c):ru (hJ h (setCell h.G (bP h.G p) b v) j) o f c:=by
 obtain⟨x,e,g,a⟩:=d;exact⟨x,e,g,⟨a.m,a.f,a.c⟩⟩
def La{j:cK}(a:aZ h [])(b:JI h)(q:CI h)(l:h.u=true)(r:JP h){d:Int}(n:d∈h.Z.X.T)(v:Int):Kp h (hJ h (setCell h.G (bP h.G h.Z.X.a4) d v) j):=by
 obtain⟨k,t,e⟩:=aQ n;have u:=gt (dz.1 (a.job l).1).1 t;refine wO a rfl (λp w=>⟨w,rfl⟩) λo y f c i=>?_
 rcases rW h.G (bP h.G h.Z.X.a4) d v f c with g|⟨-,A,B⟩
 ·exact g
 exfalso;refine t7 a b q l (jQ a y i) ω ?_ (by rw[A];exact r.kf);rw[B,Int.toNat_of_nonneg ω];exact n
def CI.copied(r:aZ h [])(t:JI h)(b:CI h)(k:h.u=true)(n:JP h)(N:h.Z.b0=1)(O:0<=h.Z.b/\h.Z.b<h.Z.X.T.length):CI (hJ h (tO h.G h.Z.X.a2 h.Z.X.a4 (nth h.Z.X.T h.Z.b.toNat)) {h.Z with b:=h.Z.b+1})/\Kp h (hJ h (tO h.G h.Z.X.a2 h.Z.X.a4 (nth h.Z.X.T h.Z.b.toNat)) {h.Z with b:=h.Z.b+1}):=by
 have d:h.Z.b.toNat<h.Z.X.T.length:=ω
 have l:=ar d;have u:=gt (dz.1 (r.job k).1).1 d;have i:h.Z.X.T.take (h.Z.b+1).toNat=h.Z.X.T.take h.Z.b.toNat++[nth h.Z.X.T h.Z.b.toNat]:=by
  rw[show(h.Z.b+1).toNat=h.Z.b.toNat+1 by omega,I6,au d];rfl
 unfold tO;have w:=qS r.ker (p:=h.Z.X.a4) (v:=nth (nth h.G.F.W.T (bP h.G h.Z.X.a2)) (nth h.Z.X.T h.Z.b.toNat).toNat) n.km u;have j:=rW h.G (bP h.G h.Z.X.a4) (nth h.Z.X.T h.Z.b.toNat) (nth (nth h.G.F.W.T (bP h.G h.Z.X.a2)) (nth h.Z.X.T h.Z.b.toNat).toNat);refine⟨⟨λf c y H=>?_,λ_ c a=>?_,λ_=>b.jd k,λ_=>b.jc k,λ_=>⟨λe=>absurd e (by show ¬h.Z.b0=0;omega),λe=>absurd e (by show ¬h.Z.b0=2;omega)⟩,λq J=>?_,λ_ _=>b.m2 k ω⟩,La r t b k n l _⟩
 ·rcases j f c with g|⟨-,A,B⟩
  ·have C:cl h.G f c≠0:=by rw[<-g];exact H
   rcases b.z f c y C with⟨o,K,L⟩|⟨M,D,E⟩
   ·exact .inl ⟨o,K,FM L⟩
   refine .inr ⟨rfl,D,?_⟩;show(c:Int)∈h.Z.X.T.take (h.Z.b+1).toNat;rw[i];exact V3.2 (.inl E)
  refine .inr ⟨rfl,?_,?_⟩
  ·show(af (tbl h) h.Z.X.a4).o=f;rw[A];exact n.kf
  show(c:Int)∈h.Z.X.T.take (h.Z.b+1).toNat;rw[i,B,Int.toNat_of_nonneg ω];exact V3.2 (.inr (V1.2 rfl))
 ·change (c:Int)∈h.Z.X.T.take (h.Z.b+1).toNat at a
  show cl (setCell h.G (bP h.G h.Z.X.a4) _ _) (bP h.G h.Z.X.a4) c=cl (setCell h.G (bP h.G h.Z.X.a4) _ _) (bP h.G h.Z.X.a2) c;have F:cl (setCell h.G (bP h.G h.Z.X.a4) (nth h.Z.X.T h.Z.b.toNat) (nth (nth h.G.F.W.T (bP h.G h.Z.X.a2)) (nth h.Z.X.T h.Z.b.toNat).toNat)) (bP h.G h.Z.X.a2) c=cl h.G (bP h.G h.Z.X.a2) c:=by
   rcases j (bP h.G h.Z.X.a2) c with g|⟨-,A,-⟩
   ·exact g
   exact absurd A.symm n.ne
  rw[F];by_cases G:(c:Int)=nth h.Z.X.T h.Z.b.toNat
  ·have:c=(nth h.Z.X.T h.Z.b.toNat).toNat:=ω
   rw[this,w];rfl
  rw[i]at a;rcases V3.1 a with a|a
  ·rcases j (bP h.G h.Z.X.a4) c with g|⟨-,-,B⟩
   ·rw[g];exact b.jv k c a
   exact absurd (by rw[B,Int.toNat_of_nonneg ω]) G
  exact absurd (V1.1 a) G
 obtain⟨M,D,E⟩:=b.m1 q J;exact⟨rfl,D,E⟩
def CI.undone(y:aZ h [])(A:JI h)(b:CI h)(r:h.u=true)(l:JP h)(p3:h.Z.b0=3)(hp:0<h.Z.b):CI (hJ h {h.G with F:=(jo h.G.F (h.Z.X.a4*16+nth h.Z.X.T (h.Z.b - 1).toNat) 0).1} {h.Z with b:=h.Z.b - 1})/\Kp h (hJ h {h.G with F:=(jo h.G.F (h.Z.X.a4*16+nth h.Z.X.T (h.Z.b - 1).toNat) 0).1} {h.Z with b:=h.Z.b - 1}):=by
 obtain⟨t,-,-,n0,n1⟩:=dz.1 (y.job r).1;have a:(h.Z.b - 1).toNat<h.Z.X.T.length:=ω
 have u:=ar a;have B:=gt t a;have O:=(nr l.km).1;have P:(h.Z.X.a4*16+nth h.Z.X.T (h.Z.b - 1).toNat) / 16=h.Z.X.a4:=ω
 have Q:(h.Z.X.a4*16+nth h.Z.X.T (h.Z.b - 1).toNat) % 16=nth h.Z.X.T (h.Z.b - 1).toNat:=ω
 have C:(af h.G.F.Q h.Z.X.a4).e≠0:=l.km;have D:(af h.G.F.Q h.Z.X.a4).e≠1:=l.k2 b;have R:({h.G with F:=(jo h.G.F (h.Z.X.a4*16+nth h.Z.X.T (h.Z.b - 1).toNat) 0).1} : ah)=setCell h.G (bP h.G h.Z.X.a4) (nth h.Z.X.T (h.Z.b - 1).toNat) 0:=by
  unfold jo;rw[P,Q,CB C,CB D]
  rfl
 rw[R];have n:=rW h.G (bP h.G h.Z.X.a4) (nth h.Z.X.T (h.Z.b - 1).toNat) 0;have w:h.Z.X.T.take h.Z.b.toNat=h.Z.X.T.take (h.Z.b - 1).toNat++[nth h.Z.X.T (h.Z.b - 1).toNat]:=by
  rw[show h.Z.b.toNat=(h.Z.b - 1).toNat+1 by omega,I6,au a];rfl
 have E:nth h.Z.X.T (h.Z.b - 1).toNat∉h.Z.X.T.take (h.Z.b - 1).toNat:=λF=>by
  obtain⟨k,S,T⟩:=aQ F;rw[C2]at S;have G:nth (h.Z.X.T.take (h.Z.b - 1).toNat) k=nth h.Z.X.T k:=by
   refine bn ?_;rw[List.getElem?_take,CD ω];exact au ω
  rw[G]at T;have:=Ke t (i:=k) (j:=(h.Z.b - 1).toNat) ω a;omega
 refine⟨⟨λf c H J=>?_,λ_ c p=>?_,λ_=>b.jd r,λ_=>b.jc r,λ_=>⟨λe=>absurd e (by show ¬h.Z.b0=0;omega),λe=>absurd e (by show ¬h.Z.b0=2;omega)⟩,λq U=>?_,λ_ _=>b.m2 r ω⟩,La y A b r l u _⟩
 ·rcases n f c with g|⟨V,-,-⟩
  ·have K:cl h.G f c≠0:=by rw[<-g];exact J
   rcases b.z f c H K with⟨o,W,X⟩|⟨Y,L,d⟩
   ·exact .inl ⟨o,W,FM X⟩
   rw[w]at d;rcases V3.1 d with d|d
   ·exact .inr ⟨rfl,L,d⟩
   exfalso;have ec:=V1.1 d;have M:f=bP h.G h.Z.X.a4:=by have:=l.kf;omega
   refine J ?_;show cl (setCell h.G (bP h.G h.Z.X.a4) _ 0) f c=0;rw[M,show c=(nth h.Z.X.T (h.Z.b - 1).toNat).toNat by omega];exact qS y.ker l.km B
  exact absurd V J
 ·change (c:Int)∈h.Z.X.T.take (h.Z.b - 1).toNat at p
  show cl (setCell h.G (bP h.G h.Z.X.a4) _ 0) (bP h.G h.Z.X.a4) c=cl (setCell h.G (bP h.G h.Z.X.a4) _ 0) (bP h.G h.Z.X.a2) c;have N:cl (setCell h.G (bP h.G h.Z.X.a4) (nth h.Z.X.T (h.Z.b - 1).toNat) 0) (bP h.G h.Z.X.a2) c=cl h.G (bP h.G h.Z.X.a2) c:=by
   rcases n (bP h.G h.Z.X.a2) c with g|⟨-,Z,-⟩
   ·exact g
   exact absurd Z.symm l.ne
  rw[N];rcases n (bP h.G h.Z.X.a4) c with g|⟨-,-,g2⟩
  ·rw[g]
   exact b.jv r c (by rw[w];exact V3.2 (.inl p))
  exact absurd (by rw[show nth h.Z.X.T (h.Z.b - 1).toNat=(c:Int) by omega];exact p) E
 obtain⟨Y,L,d⟩:=b.m1 q U;exact⟨rfl,L,d⟩
def CI.meshed(F:aZ h [])(D:JI h)(G:CI h)(H:h.u=true)(d:JP h)(hn:h.Z.b=h.Z.X.T.length)(L:h.G.Calls≠100000)(R:(w8 h.G h.Z.X.a2 h.Z.X.a4).2=true):CI (hE h (w8 h.G h.Z.X.a2 h.Z.X.a4).1)/\Kp h (hE h (w8 h.G h.Z.X.a2 h.Z.X.a4).1):=by
 have A:=Kk F.ker (p:=h.Z.X.a2) (o:=h.Z.X.a4) d.mm R;obtain⟨m1,m2,m3⟩:=nr d.mm;obtain⟨k1,k2,k3⟩:=nr d.km;have M:=(A 0).1;generalize N:(w8 h.G h.Z.X.a2 h.Z.X.a4).1=K at *;have J:∀q:Int,af K.F.Q q=if q=h.Z.X.a2 then⟨2,(af (tbl h) h.Z.X.a4).o⟩ else af (tbl h) q:=λq=>by
  unfold af;rw[M];by_cases e:0<=q/\q<h.G.F.Q.J.length
  ·rw[CD e,(A q.toNat).2]
   by_cases B:q=h.Z.X.a2
   ·rw[CD B,CD ω,CD ⟨k1,k2⟩];rfl
   rw[CB B,CB ω,CD (show 0<=q/\q<(tbl h).J.length from e)];rfl
  rw[CB e,CB (show ¬q=h.Z.X.a2 by unfold tbl at m2;omega),CB (show ¬(0<=q/\q<(tbl h).J.length) from e)]
 have l:∀f c,cl K f c=cl h.G f c\/(cl K f c=0/\f=bP h.G h.Z.X.a2):=λf c=>by
  unfold w8 at N R;by_cases e:refd h.G=true
  ·rw[CD e]at R;cases R
  rw[CB e]at N;simp only at N;rw[<-N];rcases KE (wq (cn h.G) h.Z.X.a2.toNat ⟨2,(nth (cn h.G).F.Q.J h.Z.X.a4.toNat).o⟩) (nth (cn h.G).F.Q.J h.Z.X.a2.toNat).o f c with g|⟨S,T,-⟩
  ·exact .inl g
  refine .inr ⟨S,?_⟩;rw[<-T];have h3:nth (cn h.G).F.Q.J h.Z.X.a2.toNat=af h.G.F.Q h.Z.X.a2:=m3.symm;rw[h3];rfl
 have n:h.Z.X.T.take h.Z.b.toNat=h.Z.X.T:=Z7 ω;have O:∀p:Int,(af (tbl h) p).e≠0->(af (tbl h) p).o=(bP h.G h.Z.X.a2:Nat)->p=h.Z.X.a2:=λp j C=>by
  obtain⟨p1,p2,p3⟩:=nr j;have P:=d.mf;rw[p3]at j C;rw[m3]at P;have:=D.sm H p.toNat j (by rw[C,P]);omega
 have U:∀c,cl K (bP h.G h.Z.X.a4) c=cl h.G (bP h.G h.Z.X.a4) c:=λc=>by
  rcases l (bP h.G h.Z.X.a4) c with g|⟨-,g⟩
  ·exact g
  exact absurd g d.ne
 have place:∀o∈h.O,∀x:Int,0<=x->x<o.q->∀f c:Nat,At h.G (o.Addr+x) f c->(f≠bP h.G h.Z.X.a2->At K (o.Addr+x) f c)/\(f=bP h.G h.Z.X.a2->At K (o.Addr+x) (bP h.G h.Z.X.a4) c/\(c:Int)∈h.Z.X.T):=λo r x u w f c a=>by
  constructor
  ·intro hne
   have j:(o.Addr+x) / 16≠h.Z.X.a2:=λe=>by
    have:=a.f;rw[e]at this;have h3:(af h.G.F.Q h.Z.X.a2).o=_:=d.mf;omega
   exact⟨by rw[J,CB j];exact a.m,by rw[J,CB j];exact a.f,a.c⟩
  intro he;have j:=O _ a.m (by rw[<-he];exact a.f);refine⟨⟨by rw[J,CD j];show(2:Int)≠0;decide,by rw[J,CD j];exact d.kf,a.c⟩,?_⟩;obtain⟨-,-,b,hb,-,V,-⟩:=D.sp H;have y:c<16:=by have:=a.c;omega
  obtain⟨e1,B,-⟩:=zj F (jQ F r ⟨x,u,w,a⟩) hb (by rw[V];exact D.sm H) (by rw[V,he];exact d.mf);refine G.jc H b hb V c y ?_;rw[B];exact e1.2.2.2
 refine⟨⟨λf c y E=>?_,λe=>(by cases e),λe=>(by cases e),λe=>(by cases e),λe=>(by cases e),λq hq=>?_,λe=>(by cases e)⟩,λo r=>⟨r,λx u w=>?_⟩⟩
 ·change cl K f c≠0 at E
  rcases l f c with g|⟨g,-⟩
  rotate_left
  ·exact absurd g E
  rw[g]at E;have W:f≠bP h.G h.Z.X.a2:=λe=>by
   refine E ?_;rw[<-g,e];have X:aC K=true:=by
    rw[<-N];exact Ph F.ker L d.mm d.km (Ne.symm d.pe)
   refine m0 X (λp j C=>?_) c;rw[J]at j C;by_cases B:p=h.Z.X.a2
   ·rw[CD B]at C
    have h1:(af (tbl h) h.Z.X.a4).o=(bP h.G h.Z.X.a2:Nat):=C;have h2:=d.kf;exact d.ne ω
   rw[CB B]at j C;exact B (O p j C)
  rcases G.z f c y E with⟨o,r,x,u,w,a⟩|⟨-,q2,q3⟩
  ·exact .inl ⟨o,r,x,u,w,(place o r x u w f c a).1 W⟩
  rw[n]at q3;have Q:f=bP h.G h.Z.X.a4:=by have:=d.kf;omega
  rw[Q,G.jv H c (by rw[n];exact q3)]at E;rcases G.z _ c y E with⟨o,r,x,u,w,a⟩|⟨-,r2,-⟩
  ·exact .inl ⟨o,r,x,u,w,by rw[Q];exact((place o r x u w _ c a).2 rfl).1⟩
  exact absurd (by have:=d.kf;omega) d.ne
 ·have i:(nth K.F.Q.J q).e=1:=hq
  have:=JL (t:=K.F.Q) (q:=q) (by rw[i];decide);rw[J]at this;by_cases e:(q:Int)=h.Z.X.a2
  ·rw[CD e]at this
   rw[<-this]at i;exact absurd i (by show ¬(2:Int)=1;decide)
  rw[CB e]at this;rw[<-this]at i;obtain⟨a1,a2,a3⟩:=nr (t:=tbl h) (p:=(q:Int)) (by rw[i];decide);rw[a3]at i;exact absurd (by have:=(G.m1 _ i).2.1;omega) e
 have Y:=(cR F r (k:=x) ⟨u,ω⟩).1;have a:=At.mk' F.ker Y;obtain⟨S,T⟩:=place o r x u w _ _ a;show fK K (o.Addr+x)=fK h.G (o.Addr+x);by_cases e:cW h.G (o.Addr+x)=bP h.G h.Z.X.a2
 ·obtain⟨Z,g4⟩:=T e
  rw[Z.cell,a.cell,U,e];exact G.jv H _ (by rw[n];exact g4)
 have Z:=S e;rw[Z.cell,a.cell];rcases l (cW h.G (o.Addr+x)) ((o.Addr+x) % 16).toNat with g|⟨-,g⟩
 ·exact g
 exact absurd g e
def CI.mStep{h:ac}(w:aZ h [])(l:JI h)(a:CI h)(d:h.u=true):CI (mStep h)/\Kp h (mStep h):=by
 have C:=JP.of w l d;have Z:=l.ph d;obtain⟨jn0,jn2⟩:=a.jn d;obtain⟨-,-,-,n0,n1⟩:=dz.1 (w.job d).1;rw[P8 d];have stay:∀(k:ah)(j:cK),k.F=h.G.F->j.X=h.Z.X->j.b=h.Z.b->(j.b0=0↔h.Z.b0=0)->(j.b0=2->j.b=j.X.T.length)->CI (hJ h k j)/\Kp h (hJ h k j):=λk j M u N O e5=>by
  have J:tbl (hJ h k j)=tbl h:=by unfold tbl hJ;rw[M]
  have L:∀f c,cl k f c=cl h.G f c:=λf c=>by unfold cl;rw[M]
  have D:∀o f c,ru h o f c->ru (hJ h k j) o f c:=λo f c=>xb (λp E=>by rw[J];exact⟨E,rfl⟩)
  refine⟨⟨λf c F K=>?_,λ_ c g=>?_,λ_=>?_,λ_=>?_,λ_=>⟨λe=>?_,e5⟩,λq i=>?_,λ_ e=>?_⟩,wO w rfl (λp E=>by rw[J];exact⟨E,rfl⟩) λo _ f c _=>L f c⟩
  ·change cl k f c≠0 at K
   rw[L]at K;rcases a.z f c F K with⟨o,P,Q⟩|⟨q1,R,G⟩
   ·exact .inl ⟨o,P,D o f c Q⟩
   refine .inr ⟨rfl,?_,?_⟩
   ·rw[J];show(af (tbl h) j.X.a4).o=f;rw[u];exact R
   show(c:Int)∈j.X.T.take j.b.toNat;rw[u,N];exact G
  ·change (c:Int)∈j.X.T.take j.b.toNat at g
   show cl k (bP k j.X.a4) c=cl k (bP k j.X.a2) c;rw[u,N]at g;rw[u,L,L];unfold bP;rw[M];exact a.jv d c g
  ·show ∀s∈h.K,s.R=j.X.a4->_
   rw[show(hJ h k j).Z.X=h.Z.X from u,u];exact a.jd d
  ·show ∀s∈h.K,s.R=j.X.a2->_
   rw[show(hJ h k j).Z.X=h.Z.X from u,u];exact a.jc d
  ·exact(show j.b=h.Z.b from N).trans (jn0 (O.1 e))
  ·rw[J]at i
   obtain⟨q1,R,G⟩:=a.m1 q i;exact⟨rfl,by show(q:Int)=j.X.a2;rw[u];exact R,λe=>G (O.1 e)⟩
  rw[J];show(af (tbl h) j.X.a2).e=1;rw[u];exact a.m2 d λx=>e (O.2 x)
 have prot:∀H:Int,H=1\/H=2->∀p,(af (tbl h) p).e≠0->(af (j7 (cn h.G) h.Z.X.a2 H).F.Q p).e≠0/\(af (j7 (cn h.G) h.Z.X.a2 H).F.Q p).o=(af (tbl h) p).o:=λH hmo p E=>by
  rw[tQ (k:=cn h.G) C.mm];by_cases e:p=h.Z.X.a2
  ·rw[CD e,e]
   exact⟨by show H≠0;omega,rfl⟩
  rw[CB e];exact⟨E,rfl⟩
 unfold hO;by_cases b:jmay h.G h.Z=true;rotate_left
 ·rw[CB b]
  rw[CB (by rw[show over (h.G,h.Z).2=over h.Z from rfl,show over h.Z=false from W0 ω];decide)];exact stay h.G h.Z rfl rfl rfl Iff.rfl jn2
 rw[CD b];unfold jstep;by_cases A:h.Z.b0=0
 ·rw[CD A]
  have n:=jn0 A;simp only;unfold jX;by_cases B:refd h.G=true
  ·rw[CD B]
   simp only[Bool.false_eq_true,if_false];rw[CD (show over {h.Z with b0:=5} = true from O0 (.inr rfl))];refine CI.ended w a d n (λ_ _=>rfl) (λp E=>⟨E,rfl⟩) λq i=>(a.m1 q i).2.2 A
  rw[CB B];simp only[if_true];rw[CB (by rw[show over {h.Z with b0:=1} = false from W0 (by show ¬((1:Int)=4\/(1:Int)=5);decide)];decide)];have D:∀o f c,ru h o f c->ru (hJ h (j7 (cn h.G) h.Z.X.a2 1) {h.Z with b0:=1}) o f c:=λo f c=>xb (prot 1 (.inl rfl))
  refine⟨⟨λf c F K=>?_,λ_ c g=>?_,λ_=>a.jd d,λ_=>a.jc d,λ_=>⟨λe=>absurd e (by show ¬(1:Int)=0;decide),λe=>absurd e (by show ¬(1:Int)=2;decide)⟩,λq i=>?_,λ_ _=>?_⟩,wO w rfl (prot 1 (.inl rfl)) λ_ _ _ _ _=>rfl⟩
  ·rcases a.z f c F K with⟨o,P,Q⟩|⟨-,-,G⟩
   ·exact .inl ⟨o,P,D o f c Q⟩
   rw[n]at G;cases G
  ·change (c:Int)∈h.Z.X.T.take h.Z.b.toNat at g
   rw[n]at g;cases g
  ·refine⟨rfl,?_,by show ¬(1:Int)=0;decide⟩
   show(q:Int)=h.Z.X.a2;refine Classical.byContradiction λS=>?_
   have y:(nth (j7 (cn h.G) h.Z.X.a2 1).F.Q.J q).e=1:=i;have:=JL (t:=(j7 (cn h.G) h.Z.X.a2 1).F.Q) (q:=q) (by rw[y];decide);rw[tQ (k:=cn h.G) C.mm,CB S]at this;rw[<-this]at y;obtain⟨a1,a2,T⟩:=nr (t:=tbl h) (p:=(q:Int)) (by show(af h.G.F.Q q).e≠0;have:(af h.G.F.Q q).e=1:=y;rw[this];decide);have r:(af (tbl h) q).e=1:=y;rw[T]at r;exact(a.m1 _ r).2.2 A
  show(af (j7 (cn h.G) h.Z.X.a2 1).F.Q h.Z.X.a2).e=1;rw[tQ (k:=cn h.G) C.mm,CD rfl]
 rw[CB A];by_cases U:h.Z.b0=1
 ·rw[CD U]
  by_cases V:h.Z.b=h.Z.X.T.length
  ·rw[CD V]
   simp only;rw[CB (by rw[show over {h.Z with b0:=2} = false from W0 (by show ¬((2:Int)=4\/(2:Int)=5);decide)];decide)];exact stay h.G {h.Z with b0:=2} rfl rfl rfl ⟨λe=>absurd e (by show ¬(2:Int)=0;decide),λe=>absurd e A⟩ λ_=>V
  rw[CB V];simp only;rw[CB (by rw[show over {h.Z with b:=h.Z.b+1} = false from W0 (by show ¬(h.Z.b0=4\/h.Z.b0=5);omega)];decide)];exact CI.copied w l a d C U ω
 rw[CB U];by_cases W:h.Z.b0=2
 ·rw[CD W]
  simp only;cases B:(w8 h.G h.Z.X.a2 h.Z.X.a4).2 with
  | false=>
   simp only[Bool.false_eq_true,if_false];rw[CB (by rw[show over {h.Z with b0:=3} = false from W0 (by show ¬((3:Int)=4\/(3:Int)=5);decide)];decide)];rw[Pk B];exact stay (cn h.G) {h.Z with b0:=3} rfl rfl rfl ⟨λe=>absurd e (by show ¬(3:Int)=0;decide),λe=>absurd e A⟩ λe=>absurd e (by show ¬(3:Int)=2;decide)
  | true=>
   rw[CD rfl];rw[CD (show over {h.Z with b0:=4} = true from O0 (.inl rfl))];exact CI.meshed w l a d C (jn2 W) (by unfold jmay at b;simp only[I0,C0]at b;exact b.1.2) B
 rw[CB W];have Y:h.Z.b0=3:=ω
 rw[CD Y];by_cases X:0<h.Z.b
 ·rw[CD X]
  simp only;rw[CB (by rw[show over {h.Z with b:=h.Z.b - 1} = false from W0 (by show ¬(h.Z.b0=4\/h.Z.b0=5);omega)];decide)];exact CI.undone w l a d C Y X
 rw[CB X];have n:h.Z.b=0:=ω
 simp only;unfold jX;by_cases B:refd h.G=true
 ·rw[CD B]
  simp only[Bool.false_eq_true,if_false];rw[CB (by rw[show over {h.Z with b0:=3} = false from W0 (by show ¬((3:Int)=4\/(3:Int)=5);decide)];decide)];exact stay (cn h.G) {h.Z with b0:=3} rfl rfl rfl ⟨λe=>absurd e (by show ¬(3:Int)=0;decide),λe=>absurd e A⟩ λe=>absurd e (by show ¬(3:Int)=2;decide)
 rw[CB B];simp only[if_true];rw[CD (show over {h.Z with b0:=5} = true from O0 (.inr rfl))];refine CI.ended w a d n (λ_ _=>rfl) (prot 2 (.inr rfl)) λq i=>?_
 have:=JL (t:=(j7 (cn h.G) h.Z.X.a2 2).F.Q) (q:=q) (by rw[i];decide);rw[tQ (k:=cn h.G) C.mm]at this;by_cases e:(q:Int)=h.Z.X.a2
 ·rw[CD e]at this
  rw[<-this]at i;exact absurd i (by show ¬(2:Int)=1;decide)
 rw[CB e]at this;rw[<-this]at i;obtain⟨a1,a2,T⟩:=nr (t:=tbl h) (p:=(q:Int)) (by have:(af (tbl h) q).e=1:=i;rw[this];decide);have r:(af (tbl h) q).e=1:=i;rw[T]at r;exact e (by have:=(a.m1 _ r).2.1;omega)
def AZ{n:Nat} : (c:Int)∈vr s n↔c<n/\uJ s c=true:=by
 unfold vr;simp only[Y4,Z4,List.mem_range];constructor
 ·rintro⟨a,⟨b,d⟩,e⟩
  have:a=c:=ω
  subst this;exact⟨b,d⟩
 rintro⟨b,d⟩;exact⟨c,⟨b,d⟩,rfl⟩
def R4{a b:aA}(c:meshable a b=true){i:Int}(h:bc a.a9 i=true):bc b.a9 i=false:=by
 unfold meshable at c;simp only[I0,C0]at c;obtain⟨-,-,-,d⟩:=c;rw[<-C6];intro e;have f:=(eS _ _).1 h;have g:=(eS _ _).1 e;have:=Z0 (λn=>Nat.testBit n i.toNat) d;simp only[Nat.testBit_and,Nat.zero_testBit]at this;rw[f.2.2.2,g.2.2.2]at this;cases this
def JT(a:aZ h E){u:aA}(b:s∈h.K)(c:u∈h.K)(e:s.R=u.R):s=u:=by
 obtain⟨i,d,rfl⟩:=aQ b;obtain⟨j,g,rfl⟩:=aQ c;rw[cQ (f:=(·.R)) a.L.nd d g e]
def CI.begun(B:aZ h E)(C:CI h)(D:h.u=false){a b:aA}(F:a∈h.K)(G:b∈h.K)(l:meshable a b=true)(sd:Int):CI {h with b3:=sd,u:=true,Z:=u7 (dl a b)}:=by
 have n:∃x∈h.K,∃y∈h.K,(dl a b).a4=x.R/\(dl a b).a2=y.R/\(dl a b).T=vr y 16/\meshable x y=true:=by
  unfold dl;split
  ·exact⟨b,G,a,F,rfl,rfl,rfl,by rw[gW];exact l⟩
  exact⟨a,F,b,G,rfl,rfl,rfl,l⟩
 obtain⟨x,M,y,N,H,J,r,d⟩:=n;generalize dl a b=p at H J r;have ecl:x.d=y.d:=by
  unfold meshable at d;simp only[I0,C0]at d;exact d.2.1
 refine⟨λf c g O=>?_,λ_ c j=>absurd j (by show ¬(c:Int)∈p.T.take (0:Int).toNat;simp),λ_ s t n c g j=>?_,λ_ s t n c g u=>?_,λ_=>⟨λ_=>rfl,λe=>absurd e (by show ¬(0:Int)=2;decide)⟩,λq P=>?_,λ_ e=>absurd rfl e⟩
 ·rcases C.z f c g O with⟨o,Q,w⟩|⟨K,-⟩
  ·exact .inl ⟨o,Q,w⟩
  rw[D]at K;cases K
 ·have k:=JT B t M (n.trans H)
  subst k;have i:(c:Int)∈p.T:=j;rw[r]at i;have A:=(AZ.1 i).2;unfold uJ at A;rw[<-ecl]at A;rw[gW]at d;exact R4 d A
 ·have k:=JT B t N (n.trans J)
  subst k;show(c:Int)∈p.T;rw[r];exact AZ.2 ⟨g,u⟩
 have L:=(C.m1 q P).1;rw[D]at L;cases L
def CI.started{h:ac}(f:aZ h [])(a:CI h)(j:h.u=false):CI (started h).1/\Kp h (started h).1:=by
 have g:=f.nums;unfold cq at g;rw[C0]at g;have d:=nK (bJ h) (show 0<=h.b3/\h.b3<=1073741823 by omega);cases e:mq (bJ h) h.b3 with
 | nil=>
  have c:Ab.started h=({h with b3:=(shuf (bJ h).length h.b3).2},false):=by unfold Ab.started;rw[e]
  rw[c];exact⟨⟨a.z,a.jv,a.jd,a.jc,a.jn,a.m1,a.m2⟩,Ca h⟩
 | cons q n=>
  obtain⟨o,p,k⟩:=d q (by rw[e];exact I2 ..);have c:Ab.started h=({h with b3:=(shuf (bJ h).length h.b3).2,u:=true,Z:=u7 (dl (nth (bJ h) q.A.toNat) (nth (bJ h) q.B.toNat))},true):=by unfold Ab.started;rw[e]
  rw[c];have b:∀s∈bJ h,s∈h.K:=λs l=>nD h (W3 _) s (List.mem_of_mem_take l)
  exact⟨CI.begun f a j (b _ (ar (xs:=bJ h) (i:=q.A.toNat) ω)) (b _ (ar (xs:=bJ h) (i:=q.B.toNat) ω)) k _,Ca h⟩
def Tb(k:ah)(a:Int)(f c:Nat):∀m,cl (zK k a m) f c=cl k f c\/(cl (zK k a m) f c=0/\∃j:Nat,j<m/\f=cW k (a+j)/\c=((a+j) % 16).toNat)
 | 0=>.inl rfl
 | m+1=>by
  have e:cW (zK k a m) (a+m)=cW k (a+m):=by unfold cW;rw[(ox k a m).1]
  rcases rY (zK k a m) (a+m) 0 f c with g|⟨b,h,d⟩
  ·rcases Tb k a f c m with i|⟨b,j,h,d⟩
   ·exact .inl (g.trans i)
   exact .inr ⟨g.trans b,j,ω,d⟩
  exact .inr ⟨b,m,ω,by rw[<-e];exact h,d⟩
def EW{k:ah}(h:aC k=true){a:Int} : ∀{m:Nat},(∀j:Nat,j<m->(af k.F.Q ((a+j) / 16)).e≠0)->∀j:Nat,j<m->cl (zK k a m) (cW k (a+j)) ((a+j) % 16).toNat=0
 | 0,_,_,c=>absurd c (Nat.not_lt_zero _)
 | m+1,d,j,c=>by
  have f:=NH h (a:=a) (m:=m) λj c=>d j ω
  have i:=(ox k a m).1;have e:∀b,cW (zK k a m) b=cW k b:=λb=>by unfold cW;rw[i]
  rcases rY (zK k a m) (a+m) 0 (cW k (a+j)) ((a+j) % 16).toNat with g|⟨l,-⟩
  ·by_cases n:j=m
   ·subst n
    have:=Bq f (a:=a+j) (v:=0) (by rw[i];exact d j ω);rw[e]at this;exact this
   exact g.trans (EW h (λj c=>d j ω) j ω)
  exact l
def B3(a:aZ h E)(e:o∈h.O){k:Nat}(b:k<h.M.length)(n:o.Addr=16*(nth h.M k).R):o.q=(nth h.M k).q:=by
 have f:=aT (a.L.lok _ (ar b));rcases a.oow _ e with⟨s,g,c,-⟩|⟨l,d,p,i⟩
 ·exact absurd (show s.R=(nth h.M k).R+((0:Nat):Int) by have:=c.1;have:=c.2.1;omega) (a.L.dis s g _ (ar b) 0 ω)
 obtain⟨m,j,rfl⟩:=aQ d;have:=a.L.one m k j b 0 0 (by have:=aT (a.L.lok _ d);omega) ω ω;subst this;exact i.symm
variable{α:Type}
def uj[Inhabited α]{xs:List α}{y z:α}(c:i<xs.length):z∈xs.set i y↔z=y\/∃j,j<xs.length/\j≠i/\nth xs j=z:=by
 refine⟨ee,?_⟩
 rintro(rfl|⟨j,d,b,rfl⟩)
 ·have a:=ar (xs:=xs.set i z) (i:=i) (by rw[Z1];exact c)
  rw[bI,CD ⟨rfl,c⟩]at a;exact a
 have a:=ar (xs:=xs.set i y) (i:=j) (by rw[Z1];exact d);rw[bI,CB (λx=>b x.1.symm)]at a;exact a
def CI.trimH{h:ac}{i k:Nat}{size:Int}(l:aZ h [])(hc:CI h)(V:i<h.O.length)(r:k<h.M.length)(W:(nth h.O i).Addr=16*(nth h.M k).R)(hz:9<=size/\size<=(nth h.M k).q):CI (trimH h i k size)/\∀o∈h.O,∀j:Int,0<=j->j<o.q->(o=nth h.O i->j<size)->fK (trimH h i k size).G (o.Addr+j)=fK h.G (o.Addr+j):=by
 obtain⟨b1,b2⟩:=uX l r;have M:=l.L.lok _ (ar r);have hlp:=aT M;have hsz:=B3 l (ar V) r W;have h8:=M;unfold bR at h8;rw[C0]at h8;have N:aC (kQ h k size)=true:=zm l r hz (W3 _);have D:(kQ h k size).F.Q=h.G.F.Q:=(ox h.G _ _).1;have hN:((dA (nth h.M k) size:Nat):Int)=(nth h.M k).a3 - (size+15) / 16:=by unfold dA;omega
 have hte:((tbl h).J.length:Int)=(h.G.F.Q.J.length:Int):=rfl;have kl:=KL.unmN N (p:=(nth h.M k).R+(size+15) / 16) ω (dA (nth h.M k) size) (by rw[D];omega);have ker:=gZ N ((nth h.M k).R+(size+15) / 16) (dA (nth h.M k) size);have A:=(fj (kQ h k size) ((nth h.M k).R+(size+15) / 16) (dA (nth h.M k) size)).1;have hcz:=Tb h.G (16*(nth h.M k).R+size);have hca:=EW l.ker (a:=16*(nth h.M k).R+size) (m:=(16*((size+15) / 16) - size).toNat) λj O=>kw l r ⟨ω,ω⟩
 have E:(Ab.trimH h i k size).G=unmN (kQ h k size) ((nth h.M k).R+(size+15) / 16) (dA (nth h.M k) size):=rfl;have F:(Ab.trimH h i k size).O=h.O.set i {nth h.O i with q:=size}:=rfl;have P:(Ab.trimH h i k size).K=h.K:=rfl;have Q:(Ab.trimH h i k size).Z=h.Z:=rfl;have R:(Ab.trimH h i k size).u=h.u:=rfl;generalize Ab.trimH h i k size=h' at E F P Q R |-;have G:∀f c,cl (kQ h k size) f c=cl h.G f c\/(cl (kQ h k size) f c=0/\∃b:Int,16*(nth h.M k).R+size<=b/\b<16*((nth h.M k).R+(size+15) / 16)/\At h.G b f c):=λf c=>by
  rcases hcz f c (16*((size+15) / 16) - size).toNat with g|⟨g,j,w,B,j3⟩
  ·exact .inl g
  refine .inr ⟨g,16*(nth h.M k).R+size+j,ω,ω,?_⟩;have:=At.mk' l.ker (kw l r (a:=16*(nth h.M k).R+size+j) ⟨ω,ω⟩);rw[B,j3];exact this
 have hzv:∀(f c:Nat)(b:Int),16*(nth h.M k).R+size<=b->b<16*((nth h.M k).R+(size+15) / 16)->At h.G b f c->cl (kQ h k size) f c=0:=λf c b H X d=>by
  have:=hca (b - (16*(nth h.M k).R+size)).toNat ω;rw[show 16*(nth h.M k).R+size+((b - (16*(nth h.M k).R+size)).toNat:Nat)=b by omega]at this;have e:=At.mk' l.ker d.m;obtain⟨u1,u2⟩:=e.uniq d;rw[u1,u2]at this;exact this
 have pout:∀q:Int,¬((nth h.M k).R+(size+15) / 16<=q/\q<(nth h.M k).R+(nth h.M k).a3)->af h'.G.F.Q q=af h.G.F.Q q:=λq Y=>by
  rw[E,kl.out q ω,D]
 rw[<-E]at kl ker A;generalize kQ h k size=kz at *;have onL:∀b:Int,16*(nth h.M k).R<=b->b<16*((nth h.M k).R+(nth h.M k).a3)->∀f c:Nat,At h.G b f c->NZ h (nth h.O i).Addr f c:=λb H X f c d=>.inr ⟨_,ar r,W,b,H,X,d⟩
 have only:∀o∈h.O,∀f c:Nat,ru h o f c->NZ h (nth h.O i).Addr f c->o=nth h.O i:=λo t f c H X=>by
  have e:=wS l (jQ l t H) X;obtain⟨m,lm,rfl⟩:=aQ t;rw[cQ (f:=(·.Addr)) (di l.osr) lm V e]
 have noS:∀s∈h.K,¬((nth h.M k).R<=s.R/\s.R<(nth h.M k).R+(nth h.M k).a3):=λs J hr=>l.L.dis s J _ (ar r) (s.R - (nth h.M k).R).toNat ω ω
 have same:∀f c:Nat,cl h'.G f c≠0->cl h.G f c=cl h'.G f c:=λf c C=>by
  rcases kl.cel f c with e|e
  ·rcases G f c with g|⟨g,-⟩
   ·rw[e,g]
   exact absurd (e.trans g) C
  exact absurd e.1 C
 have stay:∀o∈h.O,∀j:Int,0<=j->j<o.q->(o=nth h.O i->j<size)->∀f c:Nat,At h.G (o.Addr+j) f c->At h'.G (o.Addr+j) f c/\cl h'.G f c=cl h.G f c:=λo t j w B O f c d=>by
  have y:ru h o f c:=⟨j,w,B,d⟩
  have n:af h'.G.F.Q ((o.Addr+j) / 16)=af h.G.F.Q ((o.Addr+j) / 16):=by
   refine pout _ λZ=>?_
   have e:=only o t f c y (onL _ ω ω f c d);have:=O e;rw[e,W]at Z;omega
  have u:At h'.G (o.Addr+j) f c:=⟨by rw[n];exact d.m,by rw[n];exact d.f,d.c⟩
  refine⟨u,?_⟩;rcases kl.cel f c with e|⟨-,e⟩
  ·rcases G f c with g|⟨-,b,g1,g2,S⟩
   ·rw[e,g]
   exfalso;have eo:=only o t f c y (onL b ω ω f c S);have hjs:=O eo;have Y:=mi l (ar r) (b:=b) ω ω S d.m d.f;have c1:=d.c;have c2:=S.c;rw[eo,W]at Y c1;omega
  exact absurd u.f (e _ u.m)
 refine⟨hc.keep Q R (λq Y=>?_) (λhm=>?_) (λf c _ C=>.inl (same f c C)) (λo t f c h16 y C=>?_) (λhm c _=>?_) (λ_ s' hs' _=>⟨s',by rw[<-P];exact hs',rfl,rfl,λ_ h=>h⟩),λo t j w B O=>?_⟩
 ·have hq':(nth h'.G.F.Q.J q).e=1:=Y
  have:=kl.md A q ω;rw[D]at this;show(nth h.G.F.Q.J q).e=1;rw[<-this];exact hq'
 ·obtain⟨-,⟨a,ha,T⟩,b,hb,eb⟩:=l.job hm
  exact⟨pout _ λZ=>noS a ha ω,pout _ λZ=>noS b hb ω⟩
 ·obtain⟨j,w,B,d⟩:=y
  by_cases e:o=nth h.O i/\size<=j
  ·exfalso
   obtain⟨e,ej⟩:=e;subst e;by_cases ej2:j<16*((size+15) / 16)
   ·have:=hzv f c ((nth h.O i).Addr+j) ω ω d
    rcases kl.cel f c with g|g
    ·exact C (g.trans this)
    exact C g.1
   refine C (m0 ker (λp K hf=>?_) c);by_cases er:(nth h.M k).R+(size+15) / 16<=p/\p<(nth h.M k).R+(nth h.M k).a3
   ·exact K (kl.ins p er.1 ω)
   rw[pout p er]at K hf;have:=mi l (ar r) (b:=(nth h.O i).Addr+j) ω ω d K hf;omega
  have st:=stay o t j w B (λU=>by have:¬size<=j:=λx=>e ⟨U,x⟩;omega) f c d;by_cases U:o=nth h.O i
  ·refine⟨{nth h.O i with q:=size},by rw[F];exact(uj V).2 (.inl rfl),j,w,?_,?_⟩
   ·have:¬size<=j:=λx=>e ⟨U,x⟩
    show j<size;omega
   have H:=st.1;rw[U]at H;exact H
  refine⟨o,?_,j,w,B,st.1⟩;rw[F];obtain⟨m,lm,rfl⟩:=aQ t;exact(uj V).2 (.inr ⟨m,lm,λx=>U (by rw[x]),rfl⟩)
 ·have key:∀s∈h.K,cl h'.G (bP h.G s.R) c=cl h.G (bP h.G s.R) c:=λs J=>by
   have n:(af (tbl h) s.R).e≠0:=by rw[l.pe J];exact(l.mapped J).2.2
   rcases kl.cel (bP h.G s.R) c with e|⟨-,e⟩
   ·rcases G (bP h.G s.R) c with g|⟨-,b,g1,g2,S⟩
    ·rw[e,g]
    have:=mi l (ar r) (b:=b) ω ω S (q:=s.R) n (lK l.ker n);exact absurd (show(nth h.M k).R<=s.R/\s.R<(nth h.M k).R+(nth h.M k).a3 by omega) (noS s J)
   have K:=pout s.R λZ=>noS s J ω
   refine absurd ?_ (e s.R (by rw[K];exact n));rw[K];exact lK l.ker n
  obtain⟨-,⟨a,ha,T⟩,b,hb,eb⟩:=l.job hm;rw[<-T,<-eb];exact⟨key a ha,key b hb⟩
 have d:=At.mk' l.ker (cR l t (k:=j) ⟨w,ω⟩).1;obtain⟨s1,s2⟩:=stay o t j w B O _ _ d;rw[s1.cell,d.cell,s2]
def Fx[Inhabited α](n j:Nat)(y:α):nth (List.replicate n y) j=y\/nth (List.replicate n y) j=default:=by
 by_cases h:j<n
 ·exact .inl (d6 h)
 right
 unfold nth;rw[C3,z3 (by rw[z4];omega)];rfl
def CI.newHeap(p f t:Nat)(lim:Int)(a:List Int):CI (newHeap p f t lim a):=by
 refine⟨λg c b d=>absurd ?_ d,λe=>(by cases e),λe=>(by cases e),λe=>(by cases e),λe=>(by cases e),λq h=>absurd h ?_,λe=>(by cases e)⟩
 ·show nth (nth (List.replicate f (List.replicate 16 (0:Int))) g) c=0
  rcases Fx f g (List.replicate 16 (0:Int)) with e|e<;>rw[e]
  ·exact B6 _ _
  rfl
 show ¬(nth (List.replicate p (⟨0,0⟩ : bh)) q).e=1;rcases Fx p q (⟨0,0⟩ : bh) with e|e<;>rw[e]
 ·decide
 decide
def ik(k:ah)(o:bt):bH:=⟨o.Id,cellsOf k o.Addr o.q.toNat⟩
structure RS(w:bo):Prop where
 nx:w.b5.b=w.Y.b
 asc:w.b5.O.Pairwise λa b=>a.Id<b.Id
 mem:∀y,y∈w.b5.O↔∃o∈w.Y.O,y=ik w.Y.G o
def rg{b:ah}{n:Nat}(h:∀j:Int,0<=j->j<n->fK b (a+j)=fK k (a+j)):cellsOf b a n=cellsOf k a n:=by
 unfold cellsOf;refine List.map_congr_left λj c=>?_
 have:=List.mem_range.1 c;exact h j ω ω
def fZ{a:ah}(h:∀j:Int,0<=j->j<o.q->fK a (o.Addr+j)=fK k (o.Addr+j)):ik a o=ik k o:=by
 unfold ik;rw[rg λj b c=>h j b ω]
def T5[Inhabited α]{R:α->α->Prop}{xs:List α}(h:xs.Pairwise R){j:Nat}(a:i<j)(b:j<xs.length):R (nth xs i) (nth xs j):=by
 have:=List.pairwise_iff_getElem.1 h i j ω b a;rw[show nth xs i=xs[i] from bn (X2 ω),show nth xs j=xs[j] from bn (X2 b)];exact this
def RS.at{w:bo}(b:RS w){o:bt}(c:o∈w.Y.O):∃j:Nat,j<w.b5.O.length/\pk w.b5 o.Id=(j:Nat)/\nth w.b5.O j=ik w.Y.G o:=by
 obtain⟨j,a,e⟩:=aQ ((b.mem _).2 ⟨o,c,rfl⟩);refine⟨j,a,dQ (au a) (O0 (by rw[e];rfl)) λm z d f=>W0 ?_,e⟩;have g:=T5 b.asc d a;rw[bn f,e]at g;have h:(ik w.Y.G o).Id=o.Id:=rfl;omega
variable{w:bo}
def RS.lt(a:RS w)(b:aZ w.Y []):∀y∈w.b5.O,1<=y.Id/\y.Id<w.b5.b:=λy c=>by
 obtain⟨o,d,rfl⟩:=(a.mem y).1 c;have:=b.onu o d;rw[a.nx];show 1<=o.Id/\o.Id<w.Y.b;omega
def RS.keep(b:RS w)(d:h'.O=w.Y.O)(c:Kp w.Y h')(e:h'.b=w.Y.b):RS ⟨h',w.b5⟩:=by
 refine⟨b.nx.trans e.symm,b.asc,λy=>(b.mem y).trans ?_⟩;show _↔∃o∈h'.O,y=ik h'.G o
 constructor
 ·rintro⟨o,f,rfl⟩
  have a:o∈h'.O:=by rw[d];exact f
  exact⟨o,a,(fZ (c o a).2).symm⟩
 rintro⟨o,a,rfl⟩
 exact⟨o,(c o a).1,fZ (c o a).2⟩
def RS.alloc(e:RS w)(i:aZ w.Y []){x:bt}(d:Ud w.Y h' x)(k:x.Id=w.Y.b)(g:h'.b=w.Y.b+1)(l:1<=x.q/\x.q<=1000):RS ⟨h',iW w.b5 x.q⟩:=by
 unfold iW;rw[CD l];have h:ik h'.G x = ⟨w.b5.b,List.replicate x.q.toNat 0⟩:=by
  unfold ik;rw[k,e.nx]
  congr 1
  refine List.eq_replicate_iff.2 ⟨mE ..,λb f=>?_⟩;unfold cellsOf at f;obtain⟨j,n,rfl⟩:=Y4.1 f;have:=List.mem_range.1 n;exact d.ze j ω ω
 refine⟨by show w.b5.b+1=h'.b;rw[g,e.nx],?_,λy=>?_⟩
 ·refine List.pairwise_append.2 ⟨e.asc,List.pairwise_singleton _ _,λa p b f=>?_⟩
  rw[V1.1 f];exact(e.lt i a p).2
 show y∈w.b5.O++[_]↔∃o∈h'.O,y=ik h'.G o
 rw[V3,V1,e.mem];constructor
 ·rintro(⟨o,c,rfl⟩|rfl)
  ·exact⟨o,(d.mem o).2 (.inr c),(fZ (d.ke o c)).symm⟩
  exact⟨x,(d.mem x).2 (.inl rfl),h.symm⟩
 rintro⟨o,c,rfl⟩
 rcases(d.mem o).1 c with rfl|c
 ·exact .inr h
 exact .inl ⟨o,c,fZ (d.ke o c)⟩
def RS.free(a:RS w)(p:aZ w.Y [])(h:i<w.Y.O.length)(k:h'.O=dele w.Y.O i)(l:Kp w.Y h')(r:h'.b=w.Y.b):RS ⟨h',jS w.b5 (nth w.Y.O i).Id⟩:=by
 obtain⟨j,t,u,n⟩:=a.at (ar h);unfold jS;rw[u,CB ω];simp only[I3];refine⟨a.nx.trans r.symm,a.asc.sublist (eY _ _),λy=>?_⟩;show y∈dele w.b5.O j↔∃o∈h'.O,y=ik h'.G o
 rw[dn];constructor
 ·rintro⟨m,c,A,rfl⟩
  obtain⟨o,d,e⟩:=(a.mem _).1 (ar c);have b:o∈h'.O:=by
   rw[k];obtain⟨q,g,rfl⟩:=aQ d;refine dn.2 ⟨q,g,λx=>A ?_,rfl⟩;subst x;exact cQ (f:=(·.Id)) (di a.asc) c t (by rw[e,n])
  exact⟨o,b,e.trans (fZ (l o b).2).symm⟩
 rintro⟨o,b,rfl⟩
 obtain⟨d,B⟩:=l o b;rw[fZ B];obtain⟨m,c,e⟩:=aQ ((a.mem _).2 ⟨o,d,rfl⟩);refine⟨m,c,λx=>?_,e⟩;subst x;rw[k]at b;obtain⟨q,g,C,rfl⟩:=dn.1 b;exact C (cQ (f:=(·.Id)) p.oid g h (Z0 bH.Id (e.symm.trans n)))
def RS.upd(d:RS w)(A:aZ w.Y [])(B:i<w.Y.O.length){x':bt}(C:x'.Id=(nth w.Y.O i).Id)(k:∀o,o∈h'.O↔o=x'\/∃m,m<w.Y.O.length/\m≠i/\nth w.Y.O m=o)(t:∀m,m<w.Y.O.length->m≠i->ik h'.G (nth w.Y.O m)=ik w.Y.G (nth w.Y.O m))(D:h'.b=w.Y.b){j:Nat}(l:j<w.b5.O.length)(n:nth w.b5.O j=ik w.Y.G (nth w.Y.O i)):RS ⟨h',{w.b5 with O:=w.b5.O.set j (ik h'.G x')}⟩:=by
 refine⟨d.nx.trans D.symm,?_,λy=>?_⟩
 ·have u:(w.b5.O.map (·.Id)).Pairwise (λa b=>a<b):=List.pairwise_map.2 d.asc
  rw[<-kW (f:=(·.Id)) (y:=ik h'.G x') l (by rw[n];exact C)]at u;exact List.pairwise_map.1 u
 show y∈w.b5.O.set j _↔∃o∈h'.O,y=ik h'.G o
 rw[uj l];constructor
 ·rintro(rfl|⟨m,h,p,rfl⟩)
  ·exact⟨x',(k x').2 (.inl rfl),rfl⟩
  obtain⟨o,r,e⟩:=(d.mem _).1 (ar h);obtain⟨q,c,rfl⟩:=aQ r;have g:q≠i:=λx=>p (by subst x;exact cQ (f:=(·.Id)) (di d.asc) h l (by rw[e,n]))
  exact⟨_,(k _).2 (.inr ⟨q,c,g,rfl⟩),e.trans (t q c g).symm⟩
 rintro⟨o,r,rfl⟩
 rcases(k o).1 r with rfl|⟨q,c,g,rfl⟩
 ·exact .inl rfl
 rw[t q c g];obtain⟨m,h,e⟩:=aQ ((d.mem _).2 ⟨_,ar c,rfl⟩);refine .inr ⟨m,h,λx=>g ?_,e⟩;subst x;exact cQ (f:=(·.Id)) A.oid c B (Z0 bH.Id (e.symm.trans n))
def RS.store(l:RS w)(g:aZ w.Y [])(h:JI w.Y)(n:CI w.Y)(a:i<w.Y.O.length)(p:0<=j/\j<=(nth w.Y.O i).q - 1)(r:0<=v/\v<=999)(t:(af (tbl w.Y) (((nth w.Y.O i).Addr+j) / 16)).e≠1):RS ⟨{w.Y with G:=dI w.Y.G ((nth w.Y.O i).Addr+j) v},eM w.b5 (nth w.Y.O i).Id j v⟩:=by
 obtain⟨-,d⟩:=CI.store (v:=v) g h n a p t;obtain⟨b,u,A,k⟩:=l.at (ar a);have B:(nth w.b5.O b).T.length=(nth w.Y.O i).q.toNat:=by rw[k];exact mE ..
 have C:eM w.b5 (nth w.Y.O i).Id j v = {w.b5 with O:=w.b5.O.set b ⟨(nth w.b5.O b).Id,(nth w.b5.O b).T.set j.toNat v⟩}:=by
  unfold eM;rw[A];simp only[I3];rw[CD ⟨ω,ω,r⟩]
 have D:(⟨(nth w.b5.O b).Id,(nth w.b5.O b).T.set j.toNat v⟩ : bH)=ik (dI w.Y.G ((nth w.Y.O i).Addr+j) v) (nth w.Y.O i):=by
  rw[k];unfold ik;simp only
  congr 1
  refine List.ext_getElem (by simp[cellsOf]) λq K E=>?_
  rw[mE]at E;rw[List.getElem_set];simp only[cellsOf,List.getElem_map,List.getElem_range];have:=d _ (ar a) q ω ω;rw[this];by_cases e:j.toNat=q
  ·rw[CD e,CD ⟨rfl,ω⟩]
  rw[CB e,CB (λx=>e ω)]
 rw[C,D];refine RS.upd l g a (h':={w.Y with G:=dI w.Y.G ((nth w.Y.O i).Addr+j) v}) rfl (λo=>?_) (λm c F=>?_) rfl u k
 ·show o∈w.Y.O↔_
  constructor
  ·intro G
   obtain⟨m,c,rfl⟩:=aQ G;by_cases e:m=i
   ·subst e;exact .inl rfl
   exact .inr ⟨m,c,e,rfl⟩
  rintro(rfl|⟨m,c,-,rfl⟩)
  ·exact ar a
  exact ar c
 refine fZ λx H J=>?_
 show fK (dI w.Y.G _ v) _=_;rw[d _ (ar c) x H J,CB (λy=>F (cQ (f:=(·.Addr)) (di g.osr) c a (by rw[y.1])))]
variable{m:Nat}
def EK(k:ah)(a:Int){n:Nat}(h:m<=n):(cellsOf k a n).take m=cellsOf k a m:=by
 unfold cellsOf;rw[<-W4,List.take_range,Nat.min_eq_left h]
def RS.trim(g:RS w)(d:aZ w.Y [])(p:CI w.Y){k:Nat}(a:i<w.Y.O.length)(h:k<w.Y.M.length)(l:(nth w.Y.O i).Addr=16*(nth w.Y.M k).R)(q:9<=size/\size<=(nth w.Y.M k).q):RS ⟨trimH w.Y i k size,fJ w.b5 (nth w.Y.O i).Id size⟩:=by
 obtain⟨-,c⟩:=CI.trimH d p a h l q;have r:=B3 d (ar a) h l;obtain⟨b,t,u,e⟩:=g.at (ar a);have A:(nth w.b5.O b).T.length=(nth w.Y.O i).q.toNat:=by rw[e];exact mE ..
 have B:fJ w.b5 (nth w.Y.O i).Id size = {w.b5 with O:=w.b5.O.set b ⟨(nth w.b5.O b).Id,(nth w.b5.O b).T.take size.toNat⟩}:=by
  unfold fJ;rw[u];simp only[I3];rw[CD ⟨ω,ω,ω⟩]
 have C:(⟨(nth w.b5.O b).Id,(nth w.b5.O b).T.take size.toNat⟩ : bH)=ik (trimH w.Y i k size).G {nth w.Y.O i with q:=size}:=by
  rw[e];unfold ik;simp only;rw[EK _ _ ω]
  congr 1
  refine(rg λj D H=>?_).symm;exact c _ (ar a) j D ω λ_=>ω
 rw[B,C];refine RS.upd g d a (h':=trimH w.Y i k size) (x':={nth w.Y.O i with q:=size}) rfl (λo=>uj a) (λm n E=>?_) rfl t e;refine fZ λx F G=>c _ (ar n) x F G λy=>absurd (cQ (f:=(·.Addr)) (di d.osr) n a (by rw[y])) E
def Gl(h:ac)(i:Nat)(a:Int):(freeS h i a).b=h.b:=by unfold freeS;split<;>rfl
def Qm(t:Nat)(h:ac)(a:Int):(recyc t h a).b=h.b:=by
 unfold recyc;split
 ·rfl
 exact Gl h (tJ h a) a
def u6(t:Nat):∀(az:List Int)(h:ac),(recycs t h az).b=h.b
 | [],_=>rfl
 | a::az,h=>(u6 t az (recyc t h a)).trans (Qm t h a)
def uI:∀(az:List Int)(h:ac),(freeAs h az).b=h.b
 | [],_=>rfl
 | a::az,h=>(uI az (freeA h a)).trans (Gl h (tJ h a) a)
def AW(t:Nat)(h:ac):∀k,(flushN t h k).1.b=h.b/\(flushN t h k).1.O=h.O
 | 0=>⟨rfl,rfl⟩
 | k+1=>by
  obtain⟨a,b⟩:=AW t h k;exact⟨(uI _ _).trans a,(fX _ _).2.1.trans b⟩
def GJ(h:ac)(t i:Nat):(G5 h t i).b=h.b/\(G5 h t i).O=dele h.O i:=⟨u6 _ _ _,(f6 _ _ _).2.1⟩
def JE(h:ac)(t i:Nat):(freeT h t i).1.b=h.b/\(((freeT h t i).2=0/\(freeT h t i).1.O=dele h.O i)\/((freeT h t i).2=5/\(freeT h t i).1=h)):=by
 unfold freeT
 repeat' split
 ·exact⟨rfl,.inl ⟨rfl,rfl⟩⟩
 ·exact⟨rfl,.inr ⟨rfl,rfl⟩⟩
 ·exact⟨(GJ h t i).1,.inl ⟨rfl,(GJ h t i).2⟩⟩
 ·exact⟨rfl,.inl ⟨rfl,rfl⟩⟩
 exact⟨rfl,.inr ⟨rfl,rfl⟩⟩
def HK(h:ac):∀n,(stN h n).1.b=h.b/\(stN h n).1.O=h.O
 | 0=>⟨rfl,rfl⟩
 | n+1=>by
  obtain⟨a,b⟩:=HK h n;unfold stN;split
  ·exact⟨a,b⟩
  exact⟨a,b⟩
def CI.stN{h:ac}(a:aZ h [])(b:JI h)(c:CI h):∀n,CI (stN h n).1/\Kp h (stN h n).1
 | 0=>⟨c,Ca h⟩
 | n+1=>by
  obtain⟨g,i⟩:=uM a b n;obtain⟨d,f⟩:=CI.stN a b c n;unfold Ab.stN;split
  ·rename_i e
   unfold td at e;rw[I0]at e;obtain⟨j,k⟩:=CI.mStep g i d e.1;exact⟨j,f.trans k⟩
  exact⟨d,f⟩
def yc(h:ac):(started h).1.b=h.b/\(started h).1.O=h.O:=by
 unfold started;split<;>exact⟨rfl,rfl⟩
structure CW(w:bo):Prop where
 ci:CI w.Y
 rs:RS w
def CW.keep(h:CW w){g:ac}(a:CI g/\Kp w.Y g)(b:g.O=w.Y.O)(c:g.b=w.Y.b):CW ⟨g,w.b5⟩:=⟨a.1,h.rs.keep b a.2 c⟩
def CW.obj(h:sH w m)(c:CW w)(a:eI)(b:i<w.Y.O.length):CW (lZ w a i).1:=by
 unfold lZ;split
 ·unfold o7
  split
  ·exact c
  split
  ·rename_i q
   unfold oA at q;have l:=CI.freeT (t:=a.a5.toNat) h.inv h.ji c.ci b ω;obtain⟨r,u⟩:=JE w.Y a.a5.toNat i;refine⟨l.1,?_⟩;show RS ⟨(freeT w.Y a.a5.toNat i).1,if _ then _ else _⟩;rcases u with⟨f,d⟩|⟨f,d⟩
   ·rw[CD f];exact c.rs.free h.inv b d l.2 r
   rw[CB (by rw[f];decide),d];exact c.rs
  exact c
 split
 ·unfold lI
  split
  ·exact c
  rename_i g;split
  ·exact c
  rename_i n;split
  ·exact c
  rename_i j;have g:=Classical.not_not.1 g;have j:=Classical.not_not.1 j;exact⟨(CI.store h.inv h.ji c.ci b g n).1,RS.store c.rs h.inv h.ji c.ci b g j n⟩
 unfold o9;split
 ·rename_i e
  obtain⟨-,f,d⟩:=e;obtain⟨o,y,A⟩:=fN _ _ f;have k:=of_decide_eq_true y;have p:=k.symm.trans (Int.mul_comm _ _);exact⟨(CI.trimH h.inv c.ci b o p d).1,RS.trim c.rs h.inv c.ci b o p d⟩
 exact c
def CW.thread(h:sH w m)(c:CW w)(a:eI):CW ⟨(fo w.Y a).1,w.b5⟩:=by
 have b:=c.ci;unfold fo;split
 ·split
  ·exact CW.keep (g:={w.Y with y:=gf w.Y.y a.a5.toNat}) c ⟨⟨b.z,b.jv,b.jd,b.jc,b.jn,b.m1,b.m2⟩,Ca w.Y⟩ rfl rfl
  exact c
 split
 ·exact c
 rename_i e;have e:=Classical.not_not.1 e;obtain⟨-,i⟩:=e;unfold oA at i;split
 ·exact c.keep (CI.collect (t:=a.a5.toNat) h.inv b ω) (f6 _ _ _).2.1 (u6 _ _ _)
 have j:a.a5.toNat<w.Y.S.length:=ω
 have f:=CI.flushN h.inv j b (W3 4);have d:=AW a.a5.toNat w.Y 4;generalize flushN a.a5.toNat w.Y 4=r at f d |-;exact CW.keep (g:=r.1) c f d.2 d.1
def CW.act(h:sH w m)(c:CW w)(a:eI):CW (kR w a).1:=by
 unfold kR;split
 ·have b:=CI.allocH (t:=a.a5) (size:=a.N) h.inv h.ji c.ci
  refine⟨b.ci,?_⟩;show RS ⟨(allocH w.Y a.a5 a.N).1,if _ then _ else _⟩;split
  ·rename_i e
   obtain⟨d,f,g,i,-⟩:=b.yes e;exact RS.alloc (x:=⟨w.Y.b,(allocH w.Y a.a5 a.N).2.1,a.N,a.a5⟩) c.rs h.inv d rfl f ⟨g,i⟩
  rename_i e;obtain⟨j,k,l,-⟩:=b.no e;exact c.rs.keep j k l
 split
 ·split
  ·exact c
  rename_i e;exact c.obj h a (fN _ _ (by unfold rk at e;omega)).1
 split
 ·exact c.thread h a
 split
 ·unfold mu
  split
  ·rename_i e
   exact c.keep (CI.tick h.inv c.ci e.2.1.1 e.2.2) (fX _ _).2.1 (uI _ _)
  exact c
 split
 ·unfold mt
  split
  ·exact c
  rename_i e;exact c.keep (CI.started h.inv c.ci (by simpa using e)) (yc _).2 (yc _).1
 split
 ·exact c.keep (CI.stN h.inv h.ji c.ci _) (HK _ _).2 (HK _ _).1
 exact c
def Mf(c:cH):CW (world0 c):=⟨CI.newHeap ..,rfl,List.Pairwise.nil,λy=>⟨λh=>(by cases h),λ⟨_,h,_⟩=>(by cases h)⟩⟩
def P0{c:cH}(h:GT c)(acts:List eI):∀n,CW (xa c acts n).1
 | 0=>Mf c
 | n+1=>(P0 h acts n).act (vm h acts n) _
def Nq(zs:List Int):CW (drawn zs):=P0 (pq (X0 _)).1 _ _
def cells1(xs:List Int)(i:Nat)(h:i<xs.length):[rI .V (nth xs i)]=((xs.map (rI .V)).take (i+1)).drop i:=by
 rw[List.drop_take,<-X4,iR h,show i+1 - i=1 by omega]
 rfl
def HR(h:ac)(t n:Int):cls (allocH h t n).1<=cls h+63:=by
 have a:cls h<=cls h+63:=ω
 unfold allocH;split
 ·exact a
 split
 ·exact a
 split
 ·exact a
 rename_i c;split
 ·exact a
 split
 ·have:=LG h t.toNat (aN n).toNat
  split
  ·show cls (smallA h t.toNat (aN n).toNat).1<=_;omega
  show cls (smallA h t.toNat (aN n).toNat).1<=_;omega
 have d:(gk n:Int)<=63:=by unfold gk;omega
 unfold largeA;split
 ·exact a
 have b:=Gx h.G (ax h.j (gk n:Nat)).2.1 (gk n);unfold cls;split
 ·exact O5 b ω
 exact O5 (W5 (ll _ _ _).1) (O5 b ω)
def Kl{h:ac}(a:aZ h [])(b:JI h):∀n:Nat,cls (stN h n).1<=cls h+n
 | 0=>by show cls h<=cls h+((0:Nat):Int);omega
 | n+1=>by
  obtain⟨c,f⟩:=uM a b n;have d:=Kl a b n;unfold stN;split
  ·rename_i e
   unfold td at e;rw[I0,C0]at e;have:=(yn c e.1).2.1;unfold cls at d |-;simp only;omega
  omega
def LO(h:sH w m)(a:eI):cls (kR w a).1.Y<=cls w.Y+63:=by
 have b:cls w.Y<=cls w.Y+63:=ω
 unfold kR;split
 ·exact HR _ _ _
 split
 ·split
  ·exact b
  unfold lZ;split
  ·unfold o7
   split
   ·exact b
   split
   ·exact O5 (W5 (MW _ _ _)) b
   exact b
  split
  ·unfold lI
   split
   ·exact b
   split
   ·exact b
   split<;>exact b
  unfold o9;split
  ·exact O5 (W5 (((ll _ _ _).1).trans (ox _ _ _).2.1)) b
  exact b
 split
 ·unfold fo
  split
  ·split<;>exact b
  split
  ·exact b
  split
  ·exact O5 (W5 (f6 _ _ _).2.2.1) b
  exact O5 (W5 (Bl _ _ _)) b
 split
 ·unfold mu
  split
  ·exact O5 (W5 (fX _ _).2.2.1) b
  exact b
 split
 ·unfold mt
  split
  ·exact b
  show cls (started w.Y).1<=_;unfold cls;rw[(vZ h.inv).2.1];exact b
 split
 ·rename_i e
  have:=Kl h.inv h.ji a.N.toNat;show cls (stN w.Y a.N.toNat).1<=_;omega
 exact b
def KJ{c:cH}(h:GT c)(acts:List eI):∀n:Nat,cls (xa c acts n).1.Y<=63*n
 | 0=>by show(0:Int)<=63*((0:Nat):Int);decide
 | n+1=>by
  have a:=KJ h acts n;have b:=LO (vm h acts n) (nth acts n);show cls (kR (xa c acts n).1 (nth acts n)).1.Y<=_;omega
def Ly(zs:List Int):(drawn zs).Y.G.Calls<=2520/\(drawn zs).Y.b<=41:=by
 have a:(pm zs).i<=zs.length:=X0 _;obtain⟨b,d⟩:=pq a;have g:=bM zs (ed zs) (n:=41) (by decide);obtain⟨e,-,-⟩:=pY (zs:=zs) (c:=ed zs) d (n:=(bB zs (ed zs) 41).1.toNat) ω;have f:=KJ b (lV zs (ed zs)).1 (lV zs (ed zs)).1.length;have h:(lV zs (ed zs)).1.length<=40:=by
  show(lC zs (ed zs) _).1.length<=40;rw[e];omega
 have j:=(zp zs).ref.nx.2;have k:=(Nq zs).rs.nx;refine⟨?_,ω⟩;show cls (xa _ _ _).1.Y<=_;exact O5 f ω
def GO{t:Int}(d:h.b<1000000)(e:h.G.Calls<=90000)(b:0<=t/\t<=h.S.length - 1)(c:1<=size/\size<=1000):(h.b1<iS h+size/\allocH h t size=(h,-1,3))\/(¬h.b1<iS h+size/\((allocH h t size).2.2=0\/(allocH h t size).2.2=4)):=by
 unfold allocH;rw[CB ω,CB (V4 b),CB (V4 c)];by_cases a:h.b1<iS h+size
 ·rw[CD a];exact .inl ⟨a,rfl⟩
 rw[CB a];refine .inr ⟨a,?_⟩;split
 ·split
  ·exact .inr rfl
  exact .inl rfl
 unfold largeA;split
 ·exact .inr rfl
 split
 ·exact .inl rfl
 exact .inr rfl
def sm{α:Type}(f:α->Int):List α->Int
 | []=>0
 | a::l=>f a+sm f l
set_option maxHeartbeats 2000000
def Rj(a:aC k=true):gg k.F.W=lL k.F.W.a1 k.F.W.a1.length:=by
 unfold gg;rw[CD (aG.1 a).2.1]
def AI(h:ac)(i:Nat)(a:Int):(freeS h i a).b1=h.b1:=by unfold freeS;split<;>rfl
def MN(t:Nat)(h:ac)(a:Int):(recyc t h a).b1=h.b1:=by
 unfold recyc;split
 ·rfl
 exact AI h (tJ h a) a
def rT(t:Nat):∀(az:List Int)(h:ac),(recycs t h az).b1=h.b1
 | [],_=>rfl
 | a::az,h=>(rT t az (recyc t h a)).trans (MN t h a)
def rD:∀(az:List Int)(h:ac),(freeAs h az).b1=h.b1
 | [],_=>rfl
 | a::az,h=>(rD az (freeA h a)).trans (AI h (tJ h a) a)
def zw(t:Nat)(h:ac):∀k,(flushN t h k).1.b1=h.b1
 | 0=>rfl
 | k+1=>(rD _ _).trans (zw t h k)
def EX(h:ac):(started h).1.b1=h.b1:=by unfold started;split<;>rfl
def J9(h:ac)(t c:Nat):(smallA h t c).1.b1=h.b1:=by
 unfold smallA
 repeat' split
 all_goals first|rfl|(unfold iN;split<;>rfl)
def H7(h:ac)(t n:Int):(allocH h t n).1.b1=h.b1:=by
 unfold allocH largeA
 repeat' split
 all_goals first|rfl|exact J9 _ _ _
def LJ(h:ac)(t i:Nat):(freeT h t i).1.b1=h.b1:=by
 unfold freeT
 repeat' split
 all_goals first|rfl|exact rT _ _ _
def K8(h:ac):∀n,(stN h n).1.b1=h.b1
 | 0=>rfl
 | n+1=>by
  have a:=K8 h n;unfold stN;split<;>exact a
def Mm(w:bo)(a:eI):(kR w a).1.Y.b1=w.Y.b1:=by
 unfold kR;split
 ·exact H7 _ _ _
 split
 ·split
  ·rfl
  unfold lZ;split
  ·unfold o7
   split
   ·rfl
   split
   ·exact LJ _ _ _
   rfl
  split
  ·unfold lI
   repeat' split
   all_goals rfl
  unfold o9;split<;>rfl
 split
 ·unfold fo
  split
  ·split<;>rfl
  split
  ·rfl
  split
  ·exact rT _ _ _
  exact zw _ _ _
 split
 ·unfold mu
  split
  ·exact rD _ _
  rfl
 split
 ·unfold mt
  split
  ·rfl
  exact EX _
 split
 ·exact K8 _ _
 rfl
def Km(c:cH)(acts:List eI):∀n,(xa c acts n).1.Y.b1=c.b1
 | 0=>rfl
 | n+1=>(Mm _ _).trans (Km c acts n)
def Md(zs:List Int):40<=(drawn zs).Y.b1:=by
 have a:(drawn zs).Y.b1=(pF zs (pm zs)).b1:=Km _ _ _;have b:=bM zs (EN zs (pm zs)).2 (n:=100) (by decide);rw[a];show 40<=40+(G2 zs (pm zs)).1;have c:0<=(G2 zs (pm zs)).1:=b.1;omega
def H8(a:aZ h []):0<h.S.length:=by
 obtain⟨⟨b,-,-⟩,-⟩:=d8.1 a.mail;have:=a.nc;omega
def BS{k:ah}(a:aC k=true):∀n,n<=k.F.Q.J.length->∀q,n<=q->nth (destr k n).1.F.Q.J q=nth k.F.Q.J q
 | 0,_,_,_=>rfl
 | n+1,c,q,d=>by
  have b:=BS a n ω q ω;unfold destr;split
  ·exact b
  show nth (cj (destr k n).1 n).F.Q.J q=_;rw[lF (fg a n) (by rw[(gV k n).1];omega) q,CB ω];exact b
def B1{k:ah}(b:aC k=true):∀n,n<=k.F.Q.J.length->(destr k n).2=z6 dZ k.F.Q.J n
 | 0,_=>rfl
 | n+1,h=>by
  have c:=B1 b n ω;have f:=BS b n ω n (W3 _);have g:=(gV k n).1;have e:af (destr k n).1.F.Q n=nth k.F.Q.J n:=by
   unfold af;rw[CD (by rw[g];omega)];exact f
  show _=z6 dZ k.F.Q.J n+dZ (nth k.F.Q.J n);unfold destr;rw[e];have d:dZ (nth k.F.Q.J n)=if(nth k.F.Q.J n).e≠0 then 1 else 0:=rfl
  by_cases a:(nth k.F.Q.J n).e=0
  ·rw[CD a,c,d,CB (λx=>x a)];omega
  rw[CB a,d,CD a];simp only;rw[c]
structure Dz(h:ac):Prop where
 inv:aZ (dR h) []
 ji:JI (dR h)
 ci:CI (dR h)
 us:gg (destroyed h).1.F.W=0
 ker:aC (destroyed h).1=true
 num:(destroyed h).2=mn (tbl h)
 cal:(dR h).G.Calls=h.G.Calls
 ref:(dR h).G.w=h.G.w
def Dz.of(d:aZ h [])(n:h.G.Calls≠100000):Dz h:=by
 have r:=d.to;obtain⟨t,-⟩:=HU d n;have b:destroyed h=destr h.G h.G.F.Q.J.length:=by unfold destroyed;rw[CD ⟨r,n⟩]
 have g:aC (destroyed h).1=true:=by rw[b];exact fg d.ker _
 have u:(destroyed h).1.F.Q.J.length=eU h:=by rw[b];exact(gV _ _).1
 have k:∀q,q<(destroyed h).1.F.Q.J.length->(nth (destroyed h).1.F.Q.J q).e=0:=by
  intro q i;rw[u]at i;rw[b];exact mB d.ker _ (W3 _) q i
 have l:∀p:Int,(af (destroyed h).1.F.Q p).e=0:=λp=>by
  unfold af;split
  ·exact k _ ω
  rfl
 refine⟨t,JI.no rfl,⟨λf c _ w=>absurd (m0 g (f:=f) (λp y=>absurd (l p) y) c) w,λe=>(by cases e),λe=>(by cases e),λe=>(by cases e),λe=>(by cases e),λq i=>?_,λe=>(by cases e)⟩,?_,g,?_,?_,?_⟩
 ·have a:(nth (destroyed h).1.F.Q.J q).e=1:=i
  have:=k q (qp (by rw[a];decide));rw[this]at a;cases a
 ·rw[Rj g]
  refine so _ λj A=>?_
  have o:=(aG.1 g).2.2.2.1 j A;rw[t6 k]at o;exact o
 ·rw[b];exact B1 d.ker _ (W3 _)
 ·show(destroyed h).1.Calls=_
  rw[b];exact(gV _ _).2.1
 show(destroyed h).1.w=_;rw[b];exact(gV _ _).2.2.1
def Destroyed_law(zs:List Int)(U:zs.length<=9223372036854775807/\∀y∈zs,0<=y/\y<=255):zzA 4 false [.val none (Ux zs)] .one [B true]:=by
 have i:=T8 zs U.1;by_cases V:(zs.length:Int) > 1048576
 ·rw[O0 V]at i
  refine fP 106 [(17,[1,0,0])] [] Tryz.func4 rfl ?_
  repeat'(first|refine gP ?_|(conv=>whnf);first|refine C9 (i) ?_)
  rfl
 rw[W0 V]at i;have hz:kL zs:=⟨ω,U.2⟩
 have cD:=xU zs hz;have C:=zp zs;obtain⟨hcl,hnx⟩:=Ly zs;have D:=G7 zs;have W:=Md zs;obtain⟨E,hwf⟩:=Mn zs;generalize drawn zs=w at *;have Z:=C.inv;have hh:=Z.to;have b:=Dz.of Z (show w.Y.G.Calls≠100000 by omega);have j:iw w.Y=true:=by unfold iw;rw[hh,O0 (show w.Y.G.Calls≠100000 by omega)];rfl
 have F:reset w.Y=dR w.Y:=by unfold reset;rw[CD j]
 have G:=n8 w.Y E;have H:=yk w.Y E;rw[j,F]at H;have xr:iA (dR w.Y).G.w:=by rw[b.ref];exact D
 have p:=b.inv.fit xr (jZ.of b.inv.mail).sml;obtain⟨cc,J,L⟩:=zk (dR w.Y) 0 1 p.sml b.inv (by rw[n9];exact b.inv.to);have q:=xi (dR w.Y) 0 1 p.sml p.wf;unfold pK at q;rw[CD b.inv.to]at q;have al:=CI.allocH (t:=0) (size:=1) b.inv b.ji b.ci;obtain⟨u,-⟩:=qH (t:=0) (size:=1) b.inv;have yr:(allocH (dR w.Y) 0 1).1.G.w=(dR w.Y).G.w:=uS _ _ _;have hcp:=H8 b.inv;have d:=GO (h:=dR w.Y) (t:=0) (size:=1) (by show(1:Int)<1000000;decide) (by rw[b.cal];omega) ω (by decide);have N:iS (dR w.Y)=0:=rfl;have O:(dR w.Y).b1=w.Y.b1:=rfl;rw[N,O]at d;replace d:=(d.resolve_left λg=>ω).2;have c5:=vn w.Y.G.F.Q E.1.1.2;have k:(destroyed w.Y).2=mn w.Y.G.F.Q:=b.num;rw[k]at G;have ksm:=bv b.ker;have c6:=wn (destroyed w.Y).1.F.W ksm.1.1;rw[b.us]at c6;have c7:=jR (destroyed w.Y).1 ksm;rw[b.ker]at c7;have P:=kn (dR w.Y) p.sml;rw[n9,b.inv.to]at P;have xo:(dR w.Y).O=[]:=rfl;have l:=Ra J;have Q:=CR (destroyed w.Y).1;have R:=aU.enc_fz (destroyed w.Y).1.F.W;have n:=Cb w.Y.G.F.Q;generalize allocH (dR w.Y) 0 1=r at *;obtain⟨Y,a,c⟩:=r;simp only at L q u yr d l;have fy:=(u.fit (by rw[yr];exact xr) (jZ.of u.mail).sml).sml;have c9:=kn Y fy;rw[n9,u.to]at c9;generalize (destroyed w.Y).1=K at *;generalize mn w.Y.G.F.Q=M at *;have e:=CX (dR w.Y);have S:(dR w.Y).O.length=0:=rfl;generalize dR w.Y=X at *;have T:∀o:dY,(X.O.map (bt.enc o)).length=0:=λo=>by rw[I1];exact S
 rcases d with rfl|rfl
 ·have ha:=(al.yes rfl).2.2.2.2
  simp only at ha;refine fP 106 [(17,[1,0,0])] [] Tryz.func4 rfl ?_
  repeat'(first|refine gB ?_|(conv=>whnf);first|refine Ln.mk (T _) ?_|refine C9 (i) ?_|refine C9 (cD) ?_|refine CG (G) ⟨⟨rfl,CX _⟩,trivial⟩ ?_|refine CG (H) ⟨⟨rfl,CX _⟩,trivial⟩ ?_|refine CL (L) (.inl rfl) ?_|refine CG (c5) ⟨⟨rfl,n⟩,trivial⟩ ?_|refine CG (c6) ⟨⟨rfl,R⟩,trivial⟩ ?_|refine CG (c7) ⟨⟨rfl,Q⟩,trivial⟩ ?_|refine CG (P) ⟨⟨rfl,e⟩,trivial⟩ ?_|refine CG (c9) ⟨⟨rfl,l⟩,trivial⟩ ?_)
  all_goals first|rfl|exact Z0 (λz=>[B z]) (O0 ω)
 refine fP 106 [(17,[1,0,0])] [] Tryz.func4 rfl ?_
 repeat'(first|refine gB ?_|(conv=>whnf);first|refine C9 (i) ?_|refine C9 (cD) ?_|refine CG (G) ⟨⟨rfl,CX _⟩,trivial⟩ ?_|refine CG (H) ⟨⟨rfl,CX _⟩,trivial⟩ ?_|refine CL (L) (.inl rfl) ?_|refine CG (q) ⟨⟨rfl,e⟩,⟨rfl,rfl⟩,⟨rfl,rfl⟩,trivial⟩ ?_|refine CG (c5) ⟨⟨rfl,n⟩,trivial⟩ ?_|refine CG (P) ⟨⟨rfl,e⟩,trivial⟩ ?_)
 all_goals first|rfl|exact Z0 (λz=>[B z]) (O0 ω)
open Go.RowKit Go.ChangeShapes Go.WideShapes Go.Deep
def ALL(w:World):am:=λb _=>b<w.heap.size
def UI{H:Type}(e:TypeId × Value->H)(P:Program)(w:World)(t n:Nat)(enc:α->List C)(c:α->Prop):Prop:=
 ∀(fuel:Nat)(b:List Value)(x:DataW H × List MemPlace),DataW.trod e P w 0 (λ_=>true) true fuel t b=some x->b.length=n/\∃a,c a/\(enc a).length=n/\cP w (ALL w) NO (enc a) (λj=>b.getD j undef)
section
variable{H:Type}{e:TypeId × Value->H}{P:Program}{w:World}
variable{u:Nat->Value}
def Eo{S F:am}{c:C}(h:dJ w S F c (u 0)):cP w S F [c] u:=
 ⟨λ_=>F,λj e a=>by cases j with
   | zero=>simp at a;subst a;exact h
   | succ j=>simp at a,λ_ _ _ _ h=>h,λj f a b d=>by simp at a b;omega⟩
def pick{α β:Type}(n:Nat){Q:Nat->β->Prop}(h:∀i,i<n->∃b,Q i b):∃l:List β,l.length=n/\∀i b,l[i]? = some b->Q i b:=by
 induction n with
 | zero=>exact⟨[],rfl,λi b h=>by simp at h⟩
 | succ n c=>
  obtain⟨l,d,e⟩:=c λi a=>h i ω
  obtain⟨b,f⟩:=h n ω;refine⟨l++[b],by simp[d],λi g a=>?_⟩;by_cases j:i<n
  ·rw[t5 ω]at a;exact e i g a
  rw[v5 ω]at a;have:i - l.length=0:=by
   have:=(Z2.1 a).1;simp at this;omega
  rw[this]at a;simp at a;subst a;rw[show i=n by omega];exact f
theorem Qg{t T n:Nat}{α:Type}{enc:α->List C}{U:α->Prop}(V:UI e P w T n enc U)(ht:P.underlying t=some (.slice T))(hn:P.cellsOf T=n)(p:0<n) :
  UI e P w t 1 (λxs:List α=>[.s .V (xs.map enc)]) (λxs=>xs.length<=9223372036854775807/\∀y∈xs,U y):=by
 intro fuel cs x h;rcases open_slice ht h with⟨rfl,-⟩|⟨k,len,cap,m,n',D,Pl,rfl,-,hl,hm,K,-,u⟩
 ·exact⟨rfl,[],⟨by simp,by simp⟩,rfl,Eo (.nil _ _ _ trivial)⟩
 simp only[if_true]at K;subst K;have L:0<m->k.spot=none:=λW=>by
  obtain⟨E,M,N⟩:=u 0 W;rw[hn]at M;obtain⟨_,X,F⟩:=World.cells?_some M;have:=F 0 p;rw[X2 ω]at this;have:=World.cell?_spot this;simpa[Addr.add] using this
 have key:∀i,i<len->∃a,U a/\(enc a).length=n/\(∀d,d<n->∃z,cel w k.block (k.off+(i*n+d))=some z)/\k.spot=none/\cP w (ALL w) NO (enc a) (λd=>(cel w k.block (k.off+(i*n+d))).getD undef):=λi hil=>by
  have g:=L ω;obtain⟨E,M,N⟩:=u i ω;rw[hn]at M;obtain⟨h1,a,h3,h4,h5⟩:=V _ _ _ N;obtain⟨_,X,F⟩:=World.cells?_some M;have O:∀d,k.add d = ⟨k.block,k.off+d,none⟩:=λd=>by
   obtain⟨b,o,sp⟩:=k;simp only at g;subst g;unfold Addr.add;split<;>simp_all
  have A:∀d,d<n->cel w k.block (k.off+(i*n+d))=E[d]?:=λd J=>by
   have:=F d J;rw[Go.Deep.add_add,O]at this;exact this
  refine⟨a,h3,h4,λd J=>⟨_,by rw[A d J,X2 ω]⟩,g,h5.congr λd J=>?_⟩;show(cel w k.block (k.off+(i*n+d))).getD undef=E.getD d undef;rw[A d ω,List.getD]
 obtain⟨l,Q,B⟩:=pick (α:=α) len key;refine⟨rfl,l,⟨by simp only[maxLen]at hm;omega,λy R=>?_⟩,rfl,Eo ?_⟩
 ·obtain⟨i,G⟩:=List.mem_iff_getElem?.1 R
  exact(B i y G).1
 show dJ w (ALL w) NO (.s .V (l.map enc)) (.slice (some k) len m);by_cases h0:len=0
 ·subst h0
  have:l=[]:=I8 Q;subst this;by_cases Y:m=0
  ·subst Y;exact .nil _ _ _ trivial
  have g:=L ω;obtain⟨b,o,sp⟩:=k;simp only at g;subst g;exact .V _ b o n 0 m [] (λ_=>undef) rfl (λr Z=>by simp at Z) hl (λq hq=>by simp at hq) (λi j r c u=>by simp at u)
 obtain⟨y0,hy0⟩ : ∃y,l[0]? = some y:=⟨_,X2 ω⟩
 have g:=(B 0 y0 hy0).2.2.2.1;obtain⟨b,o,sp⟩:=k;simp only at g;subst g;refine .V _ b o n len m (l.map enc) (λq=>(cel w b (o+q)).getD undef) (by simpa using Q) (λr Z=>?_) hl (λq hq=>?_) (λi j r c u hj=>?_)
 ·obtain⟨y,R,rfl⟩:=Y4.1 Z
  obtain⟨i,G⟩:=List.mem_iff_getElem?.1 R;exact(B i y G).2.1
 ·have hqd:q / n<len:=(Nat.div_lt_iff_lt_mul p).2 hq
  obtain⟨y,R⟩ : ∃y,l[q / n]? = some y:=⟨_,X2 ω⟩
  obtain⟨z,S⟩:=(B _ y R).2.2.1 (q % n) (Nat.mod_lt _ p);have J:q / n*n+q % n=q:=by rw[Nat.mul_comm];exact Nat.div_add_mod q n
  rw[J]at S;exact⟨TG S,by simp only at S |-;rw[S];rfl⟩
 rw[X3]at u;cases H:l[i]? with
 | none=>rw[H]at u;cases u
 | some y=>
  rw[H]at u;simp only[Y5,C1]at u;subst u;obtain⟨f,h1,h2,-⟩:=(B i y H).2.2.2.2;have hjl:=(Z2.1 hj).1;exact(h1 j c hj).mono (λ_ _ h=>h) (h2 j hjl)
def row_val{S F:am}{x:Value}(h:cP w S F [.v x] u):u 0=x:=by
 obtain⟨f,a,-⟩:=h;have:=a 0 _ rfl;cases this
 rfl
end
open Go.RowKit Go.ChangeShapes Go.WideShapes
section
variable{H:Type}{e:TypeId × Value->H}{P:Program}{w:World}
def RU{t:Nat}(b:P.underlying t=some (.int .u8)):UI e P w t 1 rU (λz=>0<=z/\z<=255):=by
 intro fuel c x h;obtain⟨n,rfl,-,a⟩:=DataW.trod_int b h;refine⟨rfl,n,?_,rfl,Eo (.v _ _ rfl)⟩;simp only[Lit.wf,I0,C0]at a;exact a
def op_ByteS:UI e Tryz.prog w 22 1 (λzs:List Int=>[.s .V (zs.map rU)]) (λzs=>zs.length<=9223372036854775807/\∀y∈zs,0<=y/\y<=255):=Qg (RU Tryz.underlying5) Tryz.underlying22 (by kernel_rfl) (by decide)
end
end Go.Proofs.YtiopgblagimpmaaGreat.Ab
