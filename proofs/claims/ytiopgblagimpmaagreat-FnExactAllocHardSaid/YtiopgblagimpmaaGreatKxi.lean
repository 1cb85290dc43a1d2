/- Pages taken, a span begun, a slot taken: the program's, over a heap that is lent. No condition. -/
import Derived.Test.YtiopgblagimpmaaGreatKxd
import Derived.Test.YtiopgblagimpmaaGreatKxh
import Derived.Test.YtiopgblagimpmaaGreatKxe
import Derived.Test.YtiopgblagimpmaaGreatKxf
import Derived.Test.YtiopgblagimpmaaGreatKxg
import Derived.Test.YtiopgblagimpmaaGreatKxc
import Derived.ProofKit
import Derived.OpenShut
import Derived.Deep.Slices
import Derived.Deep.Fields
import Derived.ChangeSame
import Derived.WideShapes
set_option linter.unusedVariables false
set_option linter.defProp false
set_option linter.unusedSimpArgs false
set_option linter.constructorNameAsVariable false
namespace Go.Proofs.YtiopgblagimpmaaGreat.Ab
open Go.RowKit
set_option maxRecDepth 20000
set_option maxHeartbeats 4000000
def oF(h:ac):C:=oE (h.a.map (ay.enc .own))
def gI(h:ac):List C:=[.s .own (h.K.G.U.W.map (aH .own)),.s .own (h.K.G.U.c.map (rB .own)),.s .own (h.K.G.Q.J.map (aN.enc .own)),I h.K.Calls,.s .own (h.K.b.map (rI .own)),oF h,.s .own (h.H.map (au.enc .own)),.s .own (h.S.map (aB.enc .own)),.s .own (h.X.map (bf.enc .own)),.s .own (h.M.map (ax.enc .own)),.s .own (h.e.V.map (bK .own)),.s .own (h.e.k.map (aH .own)),I h.q.b1,.s .own (h.q.u.map (aL.enc .own)),I h.a4,I h.a5,I h.a9,I h.g,B h.j,I h.p.Y.w,I h.p.Y.y,.s .own (h.p.Y.W.map (rI .own)),I h.p.a1,I h.p.g]
def MD(h:ac):List C:=[.x,.x,.x,.x,.x,oF h,.s .own (h.H.map (au.enc .own)),.s .own (h.S.map (aB.enc .own)),.s .own (h.X.map (bf.enc .own)),.s .own (h.M.map (ax.enc .own)),.s .own (h.e.V.map (bK .own)),.s .own (h.e.k.map (aH .own)),I h.q.b1,.s .own (h.q.u.map (aL.enc .own)),I h.a4,I h.a5,I h.a9,I h.g,B h.j,I h.p.Y.w,I h.p.Y.y,.s .own (h.p.Y.W.map (rI .own)),I h.p.a1,I h.p.g]
def Uv(h:ac):fz (oF h)=.s .O (h.a.map (ay.enc .O)):=(LM _).trans (List.cons.inj (eY h.a)).1
def iS(h:ac):fo (gI h)=ac.enc .O h:=by
 have a:=ac.enc_fz h;have b:fo (gI h)=(fo (ac.enc .own h)).set 5 (fz (oF h)):=rfl;rw[b,a,Uv];rfl
def lx(h:ac):gk (gI h):=by
 have a:=Cb h;simp only[ac.enc,gk]at a;unfold gI;simp only[gk];refine⟨a.1,a.2.1,a.2.2.1,a.2.2.2.1,a.2.2.2.2.1,A7 ?_,a.2.2.2.2.2.2⟩;exact a.2.2.2.2.2.1.2
variable{u:Nat->Value}{h:ac}
def QI{w:World}{S Y:ah}(d:cy w S Y (ac.enc .own h) u):cy w S Y (gI h) u:=by
 obtain⟨f,b,e,g⟩:=d;refine⟨f,λj c a=>?_,e,g⟩;have i:gI h=(ac.enc .own h).set 5 (oF h):=rfl;rw[i]at a;by_cases k:j=5
 ·subst k
  have:c=oF h:=by simpa[ac.enc] using a.symm
  rw[this];exact tf (b 5 _ rfl)
 rw[List.getElem?_set_ne ω]at a;exact b j c a
def yD(h:ac)(a:ac.sml h):zzA 62 false [.val (some 24) (ac.enc .O h)] .agg (gI h):=by
 obtain⟨b,c⟩:=nu h a;refine⟨b,λw S d g i=>(c w S d g i).mono λe w1 j=>?_⟩;obtain⟨v,k,l,X,n,o,p,q,r,t⟩:=j;exact⟨v,k,l,X,n,o,p,q,r,QI t⟩
def UB{b:Bool}{X Y:Prop}(h:b=true)(a:X):cond b X Y:=by subst h;exact a
def Lx{b:Bool}{X Y:Prop}(h:b=false)(a:Y):cond b X Y:=by subst h;exact a
def Wa(h:ac):bm [oF h]=false\/(bm [oF h]=true/\h.a=[]):=by
 unfold oF;cases a:h.a with
 | nil=>exact .inr ⟨rfl,rfl⟩
 | cons y b=>exact .inl rfl
def V9(a:bm [oF h]=true):[oF h]=aU .O h.a:=by
 unfold oF at a |-;cases b:h.a with
 | nil=>rfl
 | cons y c=>rw[b]at a;simp[oE,bm,eX]at a
def Ah(h:ac)(n:Nat):ac × Int × Bool:=
 if(aA h.a (n:Nat)).2.2=false then(h,-1,false)
 else if(bB h.K (aA h.a (n:Nat)).2.1 n).2=n then({h with K:=(bB h.K (aA h.a (n:Nat)).2.1 n).1,a:=(aA h.a (n:Nat)).1},(aA h.a (n:Nat)).2.1,true)
 else({h with K:=gH (bB h.K (aA h.a (n:Nat)).2.1 n).1 (aA h.a (n:Nat)).2.1 (bB h.K (aA h.a (n:Nat)).2.1 n).2},-1,false)
def qQ(h:ac)(n:Nat)(w:cm h [])(U:h.K.Calls<=90000)(hn:1<=n/\n<=63):zzB 189 false [.ptr (gI h),.val none [I (n:Nat)]] [.ptr (gI (Ah h n).1),.val none [I (n:Nat)]] (.tup [none,none]) [I (Ah h n).2.1,B (Ah h n).2.2]:=by
 have P:gr h<=32:=w.lens.ents;have M:=w;have C:fo [oF h]=aU .O h.a:=I1 (λy=>[y]) (Uv h);have N:=tX h;have t:=AB (gr h:Nat) h.a (n:Nat) ⟨ω,ω⟩ w.rng ⟨ω,ω⟩ (by have:=w.lens.free;omega);unfold Wp at t;have D:=jY w (show(1:Int)<=(n:Nat) by omega);unfold Ah;have c:bm [oF h]=false\/(bm [oF h]=true/\(aA h.a (n:Nat)).2.2=false):=(Wa h).imp id λg=>⟨g.1,by rw[g.2];rfl⟩
 generalize aA h.a (n:Nat)=r at t D c |-;obtain⟨V,p,ok⟩:=r;simp only at t D c |-;refine fM 76 [] [(1,270,[15,16,17,18,19,20,21,22,23,24,14,25,26,27,0,1,2,3,4,5,6,7,8,9,10,11,12,13,14,1012,1013,15,1013,16])] [(0,0),(0,0)] Tryz.func189 rfl (λu q=>?_) (.inr ⟨trivial,trivial,trivial⟩);rcases c with c|⟨c,Q⟩
 ·cases ok with
   | false=>
    rw[CG rfl];rw[CD (by simp)]at t
    repeat'(first|refine gP ?_|refine CJ (N) ⟨⟨rfl,iS h⟩,trivial⟩ ?_|refine CJ (t) ⟨⟨rfl,rfl⟩,⟨rfl,C⟩,⟨rfl,rfl⟩,trivial⟩ ?_|refine Lx c ?_)
    refine CL rfl rfl ?_;exact wC
   | true=>
    rw[CD (by simp)];rw[CG rfl]at t;obtain⟨O,L,E,u4⟩:=D rfl;change p+(n:Nat)<=(h.K.G.Q.J.length:Nat) at L;change ∀q:Nat,p<=q->(q:Int)<p+(n:Nat)->(nth h.K.G.Q.J q).l=0 at E
    have W:h.K.G.Q.J.length<=32:=P;cases V with
    | nil=>
      repeat'(first|refine gP ?_|refine CJ (N) ⟨⟨rfl,iS h⟩,trivial⟩ ?_|refine CJ (t) ⟨⟨rfl,rfl⟩,⟨rfl,C⟩,⟨rfl,rfl⟩,trivial⟩ ?_|refine Lx c ?_)
      refine CH (ι:=Nat) (λi=>[(0,.F .box (MD h)),(1,.F .one [I ((n:Nat):Int)]),(6,.F .one ([oE (([]:List ay).map (ay.enc .own))])),(7,.F .one [I (p)]),(9,.F .box (af.enc .own (bB h.K p i).1)),(10,.F .one [I ((i:Nat):Int)])]) (λi=>i<=n/\(bB h.K p i).2=i) (λi=>n - i) (0) ?_ (⟨C1 _,rfl⟩) λi w=>?_
      ·exact wC
      obtain⟨F,G⟩:=w;have s:=m6.of (p:=p) (n:=n) M.ker ω ⟨O,L⟩ E i F;have R:=s.calls;have S:=s.len;by_cases X:i<n
      ·have H:(nth (bB h.K p i).1.G.Q.J (p+(i:Nat)).toNat).l=0:=by
        rw[s.out _ (by rw[G];omega)];exact E _ ω ω
       have l:=uF (bB h.K p i).1 (p+(i:Nat)) s.ker ω ⟨ω,ω⟩ H;have a:bB h.K p (i+1)=((dB (bB h.K p i).1 (p+(i:Nat))).1,if(dB (bB h.K p i).1 (p+(i:Nat))).2=true then i+1 else i):=by
        show(if(bB h.K p i).2=i then _ else _)=_;rw[CG G]
       cases e:(dB (bB h.K p i).1 (p+(i:Nat))).2 with
       | true=>
        rw[e]at l a;rw[CG rfl]at a;have J:(dB (bB h.K p i).1 (p+(i:Nat))).1=(bB h.K p (i+1)).1:=by rw[a]
        rw[J]at l
        repeat'(first|refine gE ?_|refine CJ (l) ⟨⟨rfl,CW _⟩,⟨rfl,rfl⟩,trivial⟩ ?_)
        (refine CF (i+1) ⟨ω,by rw[a]⟩ ω ?_;(exact wC))
       | false=>
        rw[e]at l a;rw[CD (by simp)]at a;have o:=jE (k:=h.K) (p:=p) (i:=i+1) (by rw[a];simp only;omega) (n - (i+1));rw[show i+1+(n - (i+1))=n by omega]at o;have K:=m6.of (p:=p) (n:=n) M.ker ω ⟨O,L⟩ E (i+1) ω;rw[CD ω,o.1];have b:=K.calls;rw[a]at K b |-;have d:=K.ker;simp only at d b |-;generalize (dB (bB h.K p i).1 (p+(i:Nat))).1=k at l d b |-
        repeat'(first|refine gE ?_|refine CJ (l) ⟨⟨rfl,CW _⟩,⟨rfl,rfl⟩,trivial⟩ ?_)
        refine CH (ι:=Nat) (λj=>[(0,.F .box (MD h)),(7,.F .one [I (p)]),(9,.F .box (af.enc .own (gH k p j))),(10,.F .one [I ((i:Nat):Int)]),(13,.F .one [I (p+(j:Nat))])]) (λj=>j<=i) (λj=>i - j) (0) ?_ (C1 _) λj Y=>?_
        ·exact wC
        have T:=qC (gH k p j) (p+(j:Nat)) (mX d p j) (by rw[(kj k p j).2.1];omega);by_cases Z:j<i
        ·repeat'(first|refine gE ?_|refine CJ (T) ⟨⟨rfl,CW _⟩,⟨rfl,rfl⟩,trivial⟩ ?_)
         (refine CF (j+1) ω ω ?_;(exact wC))
        obtain rfl:j=i:=ω
        refine ZE ?_
        refine CL rfl rfl ?_;exact wC
      obtain rfl:i=n:=ω
      rw[CG G];generalize (bB h.K p i).1=k
      refine ZE ?_
      refine CL rfl rfl ?_;exact wC
    | cons y ys=>
      repeat'(first|refine gP ?_|refine CJ (N) ⟨⟨rfl,iS h⟩,trivial⟩ ?_|refine CJ (t) ⟨⟨rfl,rfl⟩,⟨rfl,C⟩,⟨rfl,rfl⟩,trivial⟩ ?_|refine Lx c ?_)
      refine CH (ι:=Nat) (λi=>[(0,.F .box (MD h)),(1,.F .one [I ((n:Nat):Int)]),(6,.F .one ([oE ((y::ys).map (ay.enc .own))])),(7,.F .one [I (p)]),(9,.F .box (af.enc .own (bB h.K p i).1)),(10,.F .one [I ((i:Nat):Int)])]) (λi=>i<=n/\(bB h.K p i).2=i) (λi=>n - i) (0) ?_ (⟨C1 _,rfl⟩) λi w=>?_
      ·exact wC
      obtain⟨F,G⟩:=w;have s:=m6.of (p:=p) (n:=n) M.ker ω ⟨O,L⟩ E i F;have R:=s.calls;have S:=s.len;by_cases X:i<n
      ·have H:(nth (bB h.K p i).1.G.Q.J (p+(i:Nat)).toNat).l=0:=by
        rw[s.out _ (by rw[G];omega)];exact E _ ω ω
       have l:=uF (bB h.K p i).1 (p+(i:Nat)) s.ker ω ⟨ω,ω⟩ H;have a:bB h.K p (i+1)=((dB (bB h.K p i).1 (p+(i:Nat))).1,if(dB (bB h.K p i).1 (p+(i:Nat))).2=true then i+1 else i):=by
        show(if(bB h.K p i).2=i then _ else _)=_;rw[CG G]
       cases e:(dB (bB h.K p i).1 (p+(i:Nat))).2 with
       | true=>
        rw[e]at l a;rw[CG rfl]at a;have J:(dB (bB h.K p i).1 (p+(i:Nat))).1=(bB h.K p (i+1)).1:=by rw[a]
        rw[J]at l
        repeat'(first|refine gE ?_|refine CJ (l) ⟨⟨rfl,CW _⟩,⟨rfl,rfl⟩,trivial⟩ ?_)
        (refine CF (i+1) ⟨ω,by rw[a]⟩ ω ?_;(exact wC))
       | false=>
        rw[e]at l a;rw[CD (by simp)]at a;have o:=jE (k:=h.K) (p:=p) (i:=i+1) (by rw[a];simp only;omega) (n - (i+1));rw[show i+1+(n - (i+1))=n by omega]at o;have K:=m6.of (p:=p) (n:=n) M.ker ω ⟨O,L⟩ E (i+1) ω;rw[CD ω,o.1];have b:=K.calls;rw[a]at K b |-;have d:=K.ker;simp only at d b |-;generalize (dB (bB h.K p i).1 (p+(i:Nat))).1=k at l d b |-
        repeat'(first|refine gE ?_|refine CJ (l) ⟨⟨rfl,CW _⟩,⟨rfl,rfl⟩,trivial⟩ ?_)
        refine CH (ι:=Nat) (λj=>[(0,.F .box (MD h)),(7,.F .one [I (p)]),(9,.F .box (af.enc .own (gH k p j))),(10,.F .one [I ((i:Nat):Int)]),(13,.F .one [I (p+(j:Nat))])]) (λj=>j<=i) (λj=>i - j) (0) ?_ (C1 _) λj Y=>?_
        ·exact wC
        have T:=qC (gH k p j) (p+(j:Nat)) (mX d p j) (by rw[(kj k p j).2.1];omega);by_cases Z:j<i
        ·repeat'(first|refine gE ?_|refine CJ (T) ⟨⟨rfl,CW _⟩,⟨rfl,rfl⟩,trivial⟩ ?_)
         (refine CF (j+1) ω ω ?_;(exact wC))
        obtain rfl:j=i:=ω
        refine ZE ?_
        refine CL rfl rfl ?_;exact wC
      obtain rfl:i=n:=ω
      rw[CG G];generalize (bB h.K p i).1=k
      refine ZE ?_
      refine CL rfl rfl ?_;exact wC
 subst Q;rw[CG rfl];rw[CD (by simp)]at t
 repeat'(first|refine gP ?_|refine CJ (N) ⟨⟨rfl,iS h⟩,trivial⟩ ?_|refine CJ (t) ⟨⟨rfl,rfl⟩,⟨rfl,V9 c⟩,⟨rfl,rfl⟩,trivial⟩ ?_|refine UB c ?_)
 refine CL rfl rfl ?_;exact wC
def xG(h:ac)(p c:Int)(w:h.H.length<=4096):zzB 190 false [.ptr (gI h),.val (some 3) [I p,I c,I 0]] [.ptr (gI {h with H:=jD (Gg p) h.H ⟨p,c,0⟩}),.val (some 3) [I p,I c,I 0]] .one [I (j8 (Gg p) h.H:Nat)]:=by
 refine fM 40 [(342,[1,0,1])] [(2,18,[6,7,8,9,10,11,12,13,14,15,16,17,18,19,20,21,22,23]),(4,264,[28,29,30,31,32,33,34,35,0,1,2,3,4,5,6,7,8,1000,9,10,11])] [(0,0),(0,0)] Tryz.func190 rfl (λu q=>?_)
 refine ZP ?_
 refine CH (ι:=Nat) (λi=>[(0,.F .box (gI h)),(3,.F .box ([I p,I c,I 0])),(5,.F .one [I ((i:Nat):Int)])]) (λi=>i<=h.H.length/\∀(j:Nat)(z:au),j<i->h.H[j]? = some z->Gg p z=false) (λi=>h.H.length - i) (0) ?_ (⟨C1 _,λj z y=>ω⟩) λi g=>?_
 ·exact wC
 obtain⟨k,d⟩:=g;by_cases l:i<h.H.length/\(nth h.H i).R<p
 ·have b:=ar l.1
  refine ZE ?_
  (refine CF (i+1) ⟨ω,fC b (Z0 ω) d⟩ ω ?_;(exact wC))
 have a:j8 (Gg p) h.H=i:=mO ω d λz e=>by
  have n:=(Y3.1 e).1;have:z=nth h.H i:=(b6 e).symm;subst this;exact O0 ω
 have b:i<h.H.length->h.H[i]? = some (nth h.H i):=λo=>ar o
 have r:=H2 h.H i ⟨p,c,0⟩ ω ω;rw[nh a,a]
 repeat'(first|refine gE ?_|with_reducible (first|refine CB (aa (b ω)) ?_|refine Bf.D (λt=>?_) (λt=>?_))|refine CK rfl (aa (b ω)) rfl ?_)
 all_goals
  refine CL rfl rfl ?_;exact wC
def JU(h:ac)(i:Nat):gI (slotT h i)=((gI h).set 14 (I (AF h.a4))).set 6 (.s .own ((h.H.map (au.enc .own)).set i [I (nth h.H i).R,I (nth h.H i).Z,I (gL (nth h.H i).r (oe h i))])):=by
 simp[gI,slotT,rU,S8,au.enc,oF]
def B3(h:ac)(E:List Int)(i:Nat)(a:cm h E)(b:i<h.H.length)(p:(gX h i).length=0):zzA 188 false [.ptr (ac.enc .O h),.val none [I (i:Nat)]] (.tup [none,none]) [I (-1),B false]:=by
 have g:=ar b;have c:=a.L.sok _ (aE b);have d:=ek c;have j:=(br.1 (aI.1 a.ker).2.2.1).2.2;have n:=a.lens.spans;have e:=mC a.L.sok (ps:=aQ h (nth h.H i).R) d (aQ h (nth h.H i).R).length;change 0<=ee h i/\ee h i<=65535 at e;have o:=gm (nth h.H i).Z;have k:=si h i ⟨ω,λ_ _=>trivial⟩ ⟨by show h.K.G.Q.J.length<=_;omega,λ_ _=>trivial⟩ a.L.sok b;rw[xe a.L.sok b]at k;have l:=qJ (nth h.H i).Z (ee h i) ω;change am _ _ _ _ _ (aH .own (gX h i)) at l;refine fO 63 [(2,7,[17,18,19,20,21,22,23]),(7,12,[43,44,45,46,47,48,49,50,51,52,53,54]),(8,5,[57,58,59,60,61])] Tryz.func188 rfl ?_ (.inr ⟨trivial,trivial,trivial⟩)
 refine ZB ?_
 rfl
def pW(h:ac)(E:List Int)(i:Nat)(b:cm h E)(j:i<h.H.length):zzB 188 false [.ptr (gI h),.val none [I (i:Nat)]] [.ptr (gI (km h i).1),.val none [I (i:Nat)]] (.tup [none,none]) [I (km h i).2,B (decide (0<(gX h i).length))]:=by
 have F:=b.lens.spans;have d:=ar j;have c:=b.L.sok _ (aE j);have e:=ek c;have a:=b.nums;unfold dU at a;rw[C0]at a;have y:=(br.1 (aI.1 b.ker).2.2.1).2.2;have k:=mC b.L.sok (ps:=aQ h (nth h.H i).R) e (aQ h (nth h.H i).R).length;change 0<=ee h i/\ee h i<=65535 at k;have C:=gm (nth h.H i).Z;have l:=si h i ⟨ω,λ_ _=>trivial⟩ ⟨by show h.K.G.Q.J.length<=_;omega,λ_ _=>trivial⟩ b.L.sok j;rw[xe b.L.sok j]at l;have o:=qJ (nth h.H i).Z (ee h i) ω;change am _ _ _ _ _ (aH .own (gX h i)) at o;have p:=Aj (nth h.H i).Z (ee h i);change (gX h i).length<=16 at p;unfold km;by_cases D:(gX h i).length=0
 ·rw[CG D,Z0 ω]
  refine fM 63 [] [(2,7,[17,18,19,20,21,22,23]),(7,12,[43,44,45,46,47,48,49,50,51,52,53,54]),(8,5,[57,58,59,60,61])] [(0,0),(0,0)] Tryz.func188 rfl (λu q=>?_) (.inr ⟨trivial,trivial,trivial⟩)
  repeat'(first|refine gB ?_|refine CJ (l) ⟨⟨rfl,iS h⟩,⟨rfl,rfl⟩,trivial⟩ ?_)
  refine CL rfl rfl ?_;exact wC
 rw[CD D,O0 ω];have G:=wq (h:=h) (i:=i) ω;obtain⟨H,O,P⟩:=tj G;have J:=(gC (aP c).2.2).2.2.1;have r:=qf h.a4 (n:=((gX h i).length:Nat)) ω;have K:=wz h.a4 ((gX h i).length:Nat) ω ω;have M:=Bd (nth h.H i).r (oe h i) e ω;obtain⟨N,t⟩:=v4 H;have w:=sD (nth h.H i) N c ω;unfold kh at w;rw[<-t]at w;have g:(gX h i)[(Gf h.a4 ((gX h i).length:Nat)).toNat]? = some (oe h i):=ar ω;unfold qL;rw[JU];refine fM 63 [] [(2,7,[17,18,19,20,21,22,23]),(7,12,[43,44,45,46,47,48,49,50,51,52,53,54]),(8,5,[57,58,59,60,61])] [(0,0),(0,0)] Tryz.func188 rfl (λu q=>?_) (.inr ⟨trivial,trivial,trivial⟩)
 repeat'(first|refine gB ?_|refine CJ (l) ⟨⟨rfl,iS h⟩,⟨rfl,rfl⟩,trivial⟩ ?_|refine CM r.1 (aa g) ?_|refine CN rfl rfl (aa d) rfl (C2 rfl) rfl ?_)
 refine CL rfl ?_ ?_
 ·rfl
 exact wC
def Nf(k:af)(p:Int):bB k p 1=((dB k p).1,if(dB k p).2=true then 1 else 0):=by
 show(if(0:Nat)=0 then((dB k (p+((0:Nat):Int))).1,if(dB k (p+((0:Nat):Int))).2=true then 0+1 else 0) else(k,0))=_;rw[CG rfl,show p+((0:Nat):Int)=p by omega]
def N7(h:ac):Ah h 1=if(aA h.a 1).2.2=false then(h,-1,false)
  else if(dB h.K (aA h.a 1).2.1).2=false then({h with K:=(dB h.K (aA h.a 1).2.1).1},-1,false)
  else({h with K:=(dB h.K (aA h.a 1).2.1).1,a:=(aA h.a 1).1},(aA h.a 1).2.1,true):=by
 unfold Ah;rw[show((1:Nat):Int)=1 from rfl,Nf];cases e:(dB h.K (aA h.a 1).2.1).2
 ·simp[gH]
 simp
def zb(h:ac)(a:C):List C:=(gI h).set 9 a
def Lo(h:ac)(a:C):Prop:=fz a=.s .O (h.M.map (ax.enc .O))
variable{a:C}
def FM(b:Lo h a):fo (zb h a)=ac.enc .O h:=by
 have c:fo (zb h a)=(fo (gI h)).set 9 (fz a):=rfl;rw[c,iS,b];rfl
def Lo.own(h:ac):Lo h (.s .own (h.M.map (ax.enc .own))):=by
 have a:=I1 (λl:List C=>l[9]?) (iS h);have b:(fo (gI h))[9]? = some (fz (.s .own (h.M.map (ax.enc .own)))):=rfl;have c:(ac.enc .O h)[9]? = some (.s .O (h.M.map (ax.enc .O))):=rfl;simp only[b,c,O1]at a;exact a
def yt(h:ac)(size:Int)(e:cm h [])(l:9<=size/\size<=1000)(n:h.K.Calls<=90000):zzB 66 false [.ptr (gI h),.val none [I size]] [.ptr (gI (BF h size).1),.val none [I size]] (.tup [none,none]) [I (BF h size).2,B (decide (0<=(BF h size).2))]:=by
 have E:=e.lens.larges;have R:=e;have o:fT size=((lC size:Nat):Int):=by unfold fT lC;split<;>omega
 have F:1<=lC size/\lC size<=63:=by unfold lC;omega
 have g:=su size;rw[o]at g;have a:=qQ h (lC size) e n F;have c:=jY e (show(1:Int)<=(lC size:Nat) by omega);unfold Ah at a;unfold BF jw;generalize lC size=N at *;generalize aA h.a (N:Nat)=r at a c |-;obtain⟨G,p,ok⟩:=r;simp only at a c |-;refine fM 56 [(189,[2,0]),(192,[1,0,1])] [(7,268,[39,40,41,42,43,44,45,46,47,48,49,50,0,1,2,3,4,5,6,7,8,9,10,11,12,1000,13,14,15])] [(0,0),(0,0)] Tryz.func66 rfl (λu q=>?_) (.inr ⟨trivial,trivial,trivial⟩);cases ok with
 | false=>
  rw[CG rfl]at a |-
  refine ZP ?_
  refine CL rfl rfl ?_;exact wC
 | true=>
  rw[CD (by simp)]at a |-;obtain⟨S,H,-,-⟩:=c rfl;have J:h.K.G.Q.J.length<=32:=e.lens.ents;have t:p+(N:Nat)<=(h.K.G.Q.J.length:Nat):=H;by_cases w:(bB h.K p N).2=N
  ·rw[CG w]at a |-
   rw[O0 (show(0:Int)<=16*p by omega)];generalize (bB h.K p N).1=k at a |-
   refine ZP ?_
   refine CH (ι:=Nat) (λm=>[(0,.F .box (gI {h with K:=k,a:=G})),(1,.F .one [I (size)]),(6,.F .one [I (p)]),(8,.F .one [I ((m:Nat):Int)])]) (λm=>m<=h.S.length/\∀(j:Nat)(z:aB),j<m->h.S[j]? = some z->RT p z=false) (λm=>h.S.length - m) (0) ?_ (⟨C1 _,λj z T=>ω⟩) λm K=>?_
   ·exact wC
   obtain⟨L,C⟩:=K;by_cases M:m<h.S.length/\(nth h.S m).R<p
   ·have d:=ar M.1
    repeat'(first|refine gP ?_|refine Bf.D (λb=>?_) (λb=>absurd b (by first|omega|(simp only at *;omega))))
    (refine CF (m+1) ⟨ω,fC d (Z0 ω) C⟩ ω ?_;(exact wC))
   have i:j8 (RT p) h.S=m:=mO ω C λz l=>by
    have O:=(Y3.1 l).1;have:z=nth h.S m:=(b6 l).symm;subst this;exact O0 ω
   have d:m<h.S.length->h.S[m]? = some (nth h.S m):=λP=>ar P
   have Q:=EY h.S m ⟨p,(N:Nat),size⟩ ω ω;rw[nh i]
   repeat'(first|refine gP ?_|refine Bf.D (λb=>?_) (λb=>absurd b (by first|omega|(simp only at *;omega)))|refine Bf.D (λb=>absurd b (by first|omega|(simp only at *;omega))) (λb=>?_)|refine Bf.D (λb=>?_) (λb=>?_)|refine CB (aa (d (by first|omega|(simp only at *;omega)))) ?_|refine CK rfl (aa (d (by first|omega|(simp only at *;omega)))) rfl ?_)
   all_goals
    refine CL rfl ?_ ?_
    ·exact I1 (λy=>[I y,B true]) (show p*16=16*p by omega)
    exact wC
  rw[CD w]at a |-
  refine ZP ?_
  refine CL rfl rfl ?_;exact wC
def eQ(h:ac)(t size:Int):ac × Int × Int:=if ec h=true then fp h t size else(h,-1,5)
def oY(d:ac.sml h)(b:ac.wf h)(t size:Int):ac.sml (eQ h t size).1/\ac.wf (eQ h t size).1:=by
 unfold eQ;split
 ·rename_i e
  have f:=cm.of e;have a:=(Dq (t:=t) (size:=size) f).1;have c:fE (fp h t size).1.K.b:=by
   have:=Po h t size;unfold rfs at this;rw[this];exact b.1.2.2
  exact⟨(a.fit c (G6.of a.mail).sml).sml,a.wf c⟩
 exact⟨d,b⟩
def qn(h:ac)(t size:Int)(b:ac.sml h)(d:ac.wf h):zzA 22 false [.val (some 24) (ac.enc .O h),.val none [I t],.val none [I size]] (.tup [some 24,none,none]) (ac.enc .own (eQ h t size).1++[I (eQ h t size).2.1,I (eQ h t size).2.2]):=by
 have a:=qg h b d;have g:=lD h b;have c:=(oY b d t size).1;unfold eQ at c |-;cases e:ec h with
 | false=>
  rw[e]at a;rw[CD (by simp)];refine fP 28 [(2000004,[9,21]),(74,[2,0,0])] [] Tryz.func22 rfl ?_ (.inr (aJ (Cb _) ⟨trivial,trivial,trivial⟩))
  refine ZP ?_
  rfl
 | true=>
  rw[e]at a;rw[CG e]at c;rw[CG rfl];have i:=B1 h t size (cm.of e);have j:=lD _ c;generalize fp h t size=r at i j |-;refine fP 28 [(2000004,[9,21]),(74,[2,0,0])] [] Tryz.func22 rfl ?_ (.inr (aJ (Cb _) ⟨trivial,trivial,trivial⟩))
  repeat'(first|refine gP ?_|refine CJ (j) ⟨⟨rfl,cw _⟩,trivial⟩ ?_|refine Me.mk rfl (List.cons.inj (dK _)).1 rfl ?_)
  rfl
def cells1(xs:List Int)(i:Nat)(h:i<xs.length):[rI .O (nth xs i)]=((xs.map (rI .O)).take (i+1)).drop i:=by
 rw[List.drop_take,<-X5,nZ h,show i+1 - i=1 by omega]
 rfl
def El(k:af)(j:bk)(c:aK k=true)(D:kg j=true):zzA 493 false [.val (some 5) (af.enc .O k),.val (some 5) (bk.enc .O j)] (.tup [some 5,some 5]) (af.enc .own (gw k j).1++bk.enc .own (gw k j).2):=by
 obtain⟨F,Y,Z,Q,j6⟩:=gx.1 D;have R:=mE F;have y:=bS c;have g:=gn k y;have l:=tT j (v6 D);have b:=ir k y;rw[c,Bool.and_true]at b;have o:=z7 j (v6 D);rw[D]at o;have d:=eU k j.Y.w y.1.2;have p:=eU k j.Y.y y.1.2;have r:=eE k.G.Q j.Y.w y.1.2;have t:=eE k.G.Q j.Y.y y.1.2;have L:=(br.1 (aI.1 c).2.2.1).2.2;have S:=(bh.1 (aI.1 c).2.1).2.2.1;have q:jmay k j=false->gw k j=(k,j):=λe=>by unfold gw;rw[e];rfl
 refine fO 149 [(1,262,[11,12,13,14,15,16,0,1,2,3,4,5,6,1003,1004,1005,7]),(2,6,[17,18,19,20,8,9]),(3,33,[21,22,23,24,25,26,27,28,29,30,31,32,33,34,35,36,37,38,39,40,41,42,43,44,45,46,47,48,49,50,51,52,53]),(4,258,[56,57,0,1,2,1001,3]),(15,272,[82,83,84,85,86,87,88,89,90,91,92,93,94,81,95,96,0,1,2,3,4,5,6,7,8,9,10,11,12,13,14,15,16,1015]),(25,273,[123,124,125,126,127,128,129,130,131,132,133,134,135,122,136,137,138,0,1,2,3,4,5,6,7,8,9,10,11,12,13,14,15,16,17,1015]),(29,258,[147,148,0,1,2,1001,3])] Tryz.func493 rfl ?_ (.inr (aJ (CY _) (bk.enc_fr _)));by_cases u:k.Calls=100000
 ·rw[Z0 (λn=>n u)]at b
  rw[q (by rw[<-S7,ia];exact λh=>h.1.2 u)]
  refine ZP ?_
  rfl
 rw[O0 u]at b;by_cases B:(aC k.G.Q j.Y.w).l=0
 ·rw[Z0 (λn=>n B)]at d
  rw[q (by rw[<-S7,ia];exact λh=>h.2.2.1 B)]
  refine ZP ?_
  rfl
 rw[O0 B]at d;by_cases w:(aC k.G.Q j.Y.y).l=0
 ·rw[Z0 (λn=>n w)]at p
  rw[q (by rw[<-S7,ia];exact λh=>h.2.2.2.1 w)]
  refine ZP ?_
  rfl
 rw[O0 w]at p;by_cases G:(aC k.G.Q j.Y.w).d=(aC k.G.Q j.Y.y).d
 ·rw[q (by rw[<-S7,ia];exact λh=>h.2.2.2.2 G)]
  refine ZB ?_
  rfl
 have T:jmay k j=true:=ia.2 ⟨⟨c,u⟩,D,B,w,G⟩;rw[show gw k j=jstep k j by unfold gw;rw[T];rfl];have H:j.Y.y≠j.Y.w:=λe=>G (by rw[e])
 unfold jstep;by_cases M:j.a1=0
 ·rw[CG M]
  have a:=sF k j.Y.y 1 c u w (.inl rfl);cases e:(ji k j.Y.y 1).2<;>rw[e]at a
  all_goals
   refine ZB ?_
   rfl
 rw[CD M];by_cases N:j.a1=1
 ·rw[CG N]
  by_cases E:j.g=j.Y.W.length
  ·rw[CG E]
   refine ZB ?_
   rfl
  rw[CD E];obtain⟨n,C⟩:=v4 Q;have a:=JX k j.Y.y j.Y.w (nth j.Y.W j.g.toNat) c u w B (jN F ω);rw[C,t4]at a;have J:n<j.Y.W.length:=ω
  rw[show nth j.Y.W j.g.toNat=nth j.Y.W n by rw[C];rfl]
  repeat'(first|refine gB ?_|refine Sl.mid (rows':=[rI .O (nth j.Y.W n)]) n (n+1) C ω ω (by rw[Z1];omega) (aW λ_=>rfl) (cells1 _ _ J) ?_)
  rfl
 rw[CD N];by_cases O:j.a1=2
 ·rw[CG O]
  have a:=Jv k j.Y.y j.Y.w c u w B H;cases e:(zr k j.Y.y j.Y.w).2<;>rw[e]at a
  all_goals
   refine ZB ?_
   rfl
 rw[CD O];by_cases K:j.a1=3
 ·rw[CG K]
  obtain⟨p1,p2,p3,U,p5⟩:=bY c B;by_cases E:0<j.g
  ·rw[CG E]
   have P:=jN F (i:=(j.g - 1).toNat) ω;have V:=ar (xs:=j.Y.W) (i:=(j.g - 1).toNat) ω;have W:0<=j.Y.w*16+nth j.Y.W (j.g - 1).toNat/\j.Y.w*16+nth j.Y.W (j.g - 1).toNat<512:=ω
   have X:(j.Y.w*16+nth j.Y.W (j.g - 1).toNat) / 16=j.Y.w:=ω
   have a:=KO k.G (j.Y.w*16+nth j.Y.W (j.g - 1).toNat) 0 (o6 c) y.1 W ω (λ_=>by rw[X];exact⟨U,ω,row16 c (f:=jt k j.Y.w) (by unfold jt;omega)⟩);generalize (iy k.G (j.Y.w*16+nth j.Y.W (j.g - 1).toNat) 0).1=m at a |-;generalize (iy k.G (j.Y.w*16+nth j.Y.W (j.g - 1).toNat) 0).2=e at a
   repeat'(first|refine gB ?_|refine CM ω (aa V) ?_)
   rfl
  rw[CD E];have a:=sF k j.Y.y 2 c u w (.inr rfl);cases e:(ji k j.Y.y 2).2<;>rw[e]at a
  all_goals
   refine ZB ?_
   first|rfl|(rw[<-K];rfl)
 rw[CD K]
 refine ZB ?_
 rfl
def Wg(h:ac):Int:=(gw h.K h.p).2.a1
def AX(h:ac)(l:cm h [])(n:h.j=true)(o:ac.sml h)(t:h.K.Calls<=99000):zzA 387 false [.val (some 24) (ac.enc .O h)] (.tup [some 24,none,none]) (ac.enc .own (mStep h)++[I (Wg h),B true]):=by
 obtain⟨q,-,-⟩:=l.job n;have i:=nu h o;have c:=gh h o;rw[jd,l.to]at c;have j:=El h.K h.p l.ker q;have a:=aJ (b:=[I (Wg h),B true]) (Cb (mStep h)) ⟨trivial,trivial,trivial⟩;unfold Wg mStep at a |-;generalize gw h.K h.p=r at j a |-;have d:(ac.enc .O h)=(ac.enc .O h).set 18 (B true):=by rw[<-n];rfl
 rw[d];rw[d]at i c;by_cases e:r.2.a1=4
 ·rw[CG (show over r.2=true from O0 (.inl e)),CG (show over r.2=true from O0 (.inl e))]at a |-
  refine fO 51 [(3,260,[23,24,25,26,0,1,2,3,4,1001,1002,1003,5,6])] Tryz.func387 rfl ?_ (.inr a)
  repeat'((conv=>whnf);first|with_reducible (first|refine Lm ?_|refine Wm ω ?_|refine dF ω (λg=>?_)|refine eT ω (λg=>?_)|refine eF ω (λg=>?_)|refine Bn ?_|refine qr.wk rfl ?_)|refine Bt ?_|refine Bu ?_|refine CE ?_|refine CA (i) ?_|refine CA (c) ?_|refine CA (j) ?_|refine CE ?_)
  rw[e];exact wC
 by_cases k:r.2.a1=5
 ·rw[CG (show over r.2=true from O0 (.inr k)),CG (show over r.2=true from O0 (.inr k))]at a |-
  refine fO 51 [(3,260,[23,24,25,26,0,1,2,3,4,1001,1002,1003,5,6])] Tryz.func387 rfl ?_ (.inr a)
  repeat'((conv=>whnf);first|with_reducible (first|refine Lm ?_|refine Wm ω ?_|refine dF ω (λg=>?_)|refine eT ω (λg=>?_)|refine eF ω (λg=>?_)|refine Bn ?_|refine qr.wk rfl ?_)|refine Bt ?_|refine Bu ?_|refine CE ?_|refine CA (i) ?_|refine CA (c) ?_|refine CA (j) ?_|refine CE ?_)
  rw[k];exact wC
 have p:¬over r.2=true:=by unfold over;simp[e,k]
 rw[CD p,CD p]at a |-;refine fO 51 [(3,260,[23,24,25,26,0,1,2,3,4,1001,1002,1003,5,6])] Tryz.func387 rfl ?_ (.inr a)
 refine ZB ?_
 rw[n]
 rfl
variable{i:Nat}
def BZ(a:(eN h i).1.j=true):eN h (i+1)=(mStep (eN h i).1,pL (eN h i).1):=by
 show(if(eN h i).1.j=true then _ else _)=_;rw[CG a]
def ze{t:Nat}{h:ac} : ∀k,(bi t h k).1.K.b=h.K.b
 | 0=>rfl
 | k+1=>((ng (nth (nth (bi t h k).1.M t).T k) (spilt (bi t h k).1 t k)).2.2.2.2.2.2.2).trans (ze k)
def vi(h:ac):Nat->ac
 | 0=>h
 | t+1=>(bi t (vi h t) 4).1
structure WX(h g:ac):Prop where
 inv:cm g []
 caches:g.M.length=h.M.length
 calls:g.K.Calls=h.K.Calls
 ref:g.K.b=h.K.b
 mail:g.e=h.e
def Ad{h:ac}(a:cm h []):∀t,t<=h.M.length->WX h (vi h t)
 | 0,_=>⟨a,rfl,rfl,rfl,rfl⟩
 | t+1,f=>by
  have s:=Ad a t ω;obtain⟨b,c,d,g,e,i,j⟩:=mD s.inv (t:=t) (by rw[s.caches];omega) (k:=4) (I4 4);exact⟨b,c.trans s.caches,d.trans s.calls,(ze 4).trans s.ref,e.trans s.mail⟩
def tY(h:ac)(most:Int):Bool:=ec h&&(decide (h.K.Calls<=90000)&&decide (0<=most/\most<=20))
def relieve(h:ac)(most:Int):ac × Int:=
 if tY h most=true then((cN (vi h h.M.length) most.toNat).1,dC h.K.G.U - dC (cN (vi h h.M.length) most.toNat).1.K.G.U) else(h,0)
def jV(f:aF)(h:f.c.length<=32):0<=dC f/\dC f<=32:=by
 have a:∀n:Nat,0<=iI f.c n/\iI f.c n<=n:=λn=>by
  induction n with
  | zero=>exact⟨Z6 _,Z6 _⟩
  | succ n b=>simp only[iI];split<;>omega
 have:=a f.c.length;unfold dC;split<;>omega
def Mp(a:h.j=true):cU h=(cU h).set 18 (B true):=by rw[<-a];rfl
def vf(a:h.j=false):cU h=(cU h).set 18 (B false):=by rw[<-a];rfl
def rg(h:ac)(g:cm h [])(l:fE h.K.b)(c:aM.sml h.e):zzB 534 false [.ptr (cU h)] [.ptr (cU (fin h).1)] .one [I ((fin h).2.toNat:Nat)]:=by
 refine fM 20 [(431,[2])] [] [(0,0)] Tryz.func534 rfl (λu q=>?_)
 refine ZP ?_
 refine CH (ι:=Nat) (λi=>[(0,.F .box (cU (eN h i).1)),(3,.F .one [I (((eN h i).2.toNat:Nat):Int)]),(4,.F .one [I ((i:Nat):Int)])]) (λi=>i<=100) (λi=>100 - i) (0) ?_ (C1 _) λi g=>?_
 ·exact wC
 have n:=g;have s:=tU (by assumption) l c i;by_cases t:i<100
 ·cases a:(eN h i).1.j with
  | false=>
   have o:=Lf a ω;rw[o];rw[vf a]
   refine ZE ?_
   refine CL rfl ?_ ?_
   ·rfl
   exact wC
  | true=>
   have j:=BZ a;have k:(eN h i).2=false:=by
    cases p:(eN h i).2 with
    | false=>rfl
    | true=>rw[s.done p]at a;cases a
   have d:=Gc (eN h i).1 (s.inv k) a;have e:(eN h (i+1)).1=mStep (eN h i).1:=by rw[j]
   have b:(eN h (i+1)).2=pL (eN h i).1:=by rw[j]
   rw[k,Bool.toNat_false];rw[Mp a]at d |-;cases r:pL (eN h i).1<;>rw[r]at d b
   all_goals
    refine ZE ?_
    (refine CF (i+1) ω ω ?_)
    rw[e,b];exact wC
 obtain rfl:i=100:=ω
 refine ZE ?_
 refine CL rfl ?_ ?_
 ·rfl
 exact wC
def D0(i:Nat):cN h (i+1)=if(dq (cN h i).1).2=true then((fin (dq (cN h i).1).1).1,(cN h i).2+(fin (dq (cN h i).1).1).2.toNat) else((dq (cN h i).1).1,(cN h i).2):=rfl
def Du{h:ac}{i:Nat}(a:(cN h i).1.j=true):∀k,cN h (i+k)=cN h i
 | 0=>rfl
 | k+1=>by
  have b:=Du a k;have e:dq (cN h i).1=((cN h i).1,false):=by unfold dq;rw[CD (by rw[a];simp)]
  rw[<-Nat.add_assoc,D0,b,e]
  rfl
def Tp{n:Nat}(a:(cN h i).1.j=true)(b:i<=n):cN h n=cN h i:=by
 have:=Du a (n - i)
 rwa [show i+(n - i)=n by omega]at this
def Jx(h:ac)(most:Nat)(k:cm h [])(l:fE h.K.b)(b:aM.sml h.e)(o:most<=20):zzB 440 false [.ptr (cU h),.val none [I (most:Nat)]] [.ptr (cU (cN h most).1),.val none [I (most:Nat)]] .one [I ((cN h most).2:Nat)]:=by
 have t:=rg h k l b;refine fM 34 [(534,[2]),(279,[2])] [] [(0,0),(0,0)] Tryz.func440 rfl (λu q=>?_)
 refine ZP ?_
 refine CH (ι:=Nat) (λi=>[(0,.F .box (cU (cN h i).1)),(1,.F .one [I ((most:Nat):Int)]),(5,.F .one [I (((cN h i).2:Nat):Int)]),(6,.F .one [I ((i:Nat):Int)])]) (λi=>i<=most) (λi=>most - i) (0) ?_ (C1 _) λi k=>?_
 ·exact wC
 have w:=k;have s:=pF (by assumption) l b i;have F:=s.cnt;by_cases y:i<most
 ·cases c:(cN h i).1.j with
  | true=>
   rw[Tp c (Nat.le_of_lt y)];rw[Mp c]
   refine ZE ?_
   refine CL rfl ?_ ?_
   ·rfl
   exact wC
  | false=>
   have g:=qg (cN h i).1 s.fit.sml s.fit.wf;have a:=D0 (h:=h) i;cases j:ec (cN h i).1 with
   | false=>
    rw[show dq (cN h i).1=((cN h i).1,false) by unfold dq;rw[CD (by rw[j];simp)]]at a;rw[CD (by simp)]at a;rw[j]at g;have d:=cw (cN h i).1;rw[vf c]at d |-
    repeat'(first|refine gE ?_|refine CJ (g) ⟨⟨rfl,d⟩,trivial⟩ ?_)
    (refine CF (i+1) ω ω ?_)
    rw[a];simp only;rw[vf c];exact wC
   | true=>
    have p:=cm.of j;rw[j]at g;have e:=Be (cN h i).1 p;have n:dq (cN h i).1=started (cN h i).1:=by unfold dq;rw[CG ⟨c,j⟩]
    rw[n]at a;obtain⟨B,C,D⟩:=xj p;have d:=cw (cN h i).1;cases r:(started (cN h i).1).2 with
    | false=>
     rw[r]at e a;rw[CD (by simp)]at a;rw[vf c]at d e |-
     repeat'(first|refine gE ?_|refine CJ (g) ⟨⟨rfl,d⟩,trivial⟩ ?_)
     (refine CF (i+1) ω ω ?_)
     rw[a];exact wC
    | true=>
     rw[r]at e a;rw[CG rfl]at a;have E:=rg (started (cN h i).1).1 B (by rw[C,s.ref];exact l) (by rw[D,s.mail];exact b);have G:(fin (started (cN h i).1).1).2.toNat<=1:=by cases(fin (started (cN h i).1).1).2<;>decide
     rw[vf c]at d e |-
     repeat'(first|refine gE ?_|refine CJ (g) ⟨⟨rfl,d⟩,trivial⟩ ?_)
     (refine CF (i+1) ω ω ?_)
     rw[a];exact wC
 obtain rfl:i=most:=ω
 refine ZE ?_
 refine CL rfl ?_ ?_
 ·rfl
 exact wC
def x3(h:ac)(m:Nat)(c:cm h [])(d:fE h.K.b)(a:aM.sml h.e)(e:aF.sml h.K.G.U)(b:m<=20):zzB 299 false [.ptr (cU h),.val none [I (m:Nat)]] [.ptr (cU (cN (vi h h.M.length) m).1),.val none [I (m:Nat)]] .one [I (dC h.K.G.U - dC (cN (vi h h.M.length) m).1.K.G.U)]:=by
 have k:=pN h.K.G.U e;have w:=jV h.K.G.U c.lens.used;obtain⟨v,y⟩ : ∃v,dC h.K.G.U=v:=⟨_,rfl⟩
 rw[y]at k w |-;have B:=c.lens.caches;refine fM 38 [(424,[2,0]),(440,[2,0])] [] [(0,0),(0,0)] Tryz.func299 rfl (λu q=>?_)
 repeat'(first|refine gP ?_|refine CJ (k) ⟨⟨rfl,aF.enc_fz _⟩,trivial⟩ ?_)
 refine CH (ι:=Nat) (λt=>[(0,.F .box (cU (vi h t))),(1,.F .one [I ((m:Nat):Int)]),(5,.F .one [I (v)]),(6,.F .one [I ((t:Nat):Int)])]) (λt=>t<=h.M.length) (λt=>h.M.length - t) (0) ?_ (C1 _) λt H=>?_
 ·exact wC
 have i:=c;have C:=d;have l:=a;have s:=Ad i t (by assumption);have D:=s.caches;by_cases E:t<h.M.length
 ·have n:=Bb (vi h t) t s.inv (by rw[s.caches];exact E)
  obtain⟨g,o⟩ : ∃g,bi t (vi h t) 4=g:=⟨_,rfl⟩
  have F:vi h (t+1)=g.1:=I1 Prod.fst o;rw[o]at n
  refine ZE ?_
  (refine CF (t+1) ω ω ?_)
  rw[F];exact wC
 obtain rfl:t=h.M.length:=ω
 have j:=Jx (vi h h.M.length) m s.inv (by rw[s.ref];exact d) (by rw[s.mail];exact a) b;have p:=pF s.inv (by rw[s.ref];exact d) (by rw[s.mail];exact a) m;have r:=pN (cN (vi h h.M.length) m).1.K.G.U p.fit.sml.1.1.1;have G:=jV (cN (vi h h.M.length) m).1.K.G.U (by have:=bh.1 (aI.1 p.fit.ker).2.1;omega);generalize cN (vi h h.M.length) m=g at j r G |-;generalize vi h h.M.length=f at j D |-
 repeat'(first|refine gE ?_|refine CJ (r) ⟨⟨rfl,aF.enc_fz _⟩,trivial⟩ ?_)
 refine CL rfl ?_ ?_
 ·rfl
 exact wC
def E7(h:ac)(most:Int)(c:ac.sml h)(k:ac.wf h):zzA 138 false [.val (some 24) (ac.enc .O h),.val none [I most]] (.tup [some 24,none]) (ac.enc .own (relieve h most).1++[I (relieve h most).2]):=by
 have a:=qg h c k;have d:=lD h c;have i:=aS most 0 20;unfold relieve;cases e:tY h most with
 | false=>
  rw[CD (by simp)];unfold tY at e;refine fP 30 [(2000004,[6,21]),(299,[2,0])] [] Tryz.func138 rfl ?_ (.inr (aJ (Cb _) ⟨trivial,trivial⟩));cases j:ec h<;>rw[j]at a e
  ·refine ZP ?_
   rfl
  by_cases l:h.K.Calls<=90000
  ·rw[O0 l,Bool.true_and,Bool.true_and]at e
   rw[e]at i
   refine ZE ?_
   rfl
  refine ZE ?_
  rfl
 | true=>
  rw[CG rfl];unfold tY at e;simp only[I0,C0]at e;obtain⟨j,l,n,t⟩:=e;rw[j]at a;rw[O0 ⟨n,t⟩]at i;have o:=cm.of j;have p:fE h.K.b:=k.1.2.2;have b:aM.sml h.e:=c.2.2.2.2.2.2.1;obtain⟨m,rfl⟩:=v4 n;simp only[t4];have q:=x3 h m o p b c.1.1.1 ω;have s:=Ad o h.M.length (I4 _);have u:=pF s.inv (by rw[s.ref];exact p) (by rw[s.mail];exact b) m;have r:=lD _ u.fit.sml;generalize cN (vi h h.M.length) m=g at q r |-;refine fP 30 [(2000004,[6,21]),(299,[2,0])] [] Tryz.func138 rfl ?_ (.inr (aJ (Cb _) ⟨trivial,trivial⟩))
  repeat'(first|refine gE ?_|refine CJ (r) ⟨⟨rfl,cw _⟩,trivial⟩ ?_|refine Me.mk rfl (List.cons.inj (dK _)).1 rfl ?_)
  rfl
def ME:List MA->Bool
 | []=>true
 | .ptr _::_=>false
 | _::A=>ME A
def Mg:MA->MA
 | .mut ag cs=>.mut ag (List.replicate cs.length .x)
 | m=>m
def AH:Nat->List MA->List (Nat × AV)
 | _,[]=>[]
 | i,.val a cs::A=>(i,.F (kv a) cs)::AH (i+1) A
 | i,.mut a cs::A=>(i,.F (kv a) cs)::AH (i+1) A
 | i,.ptr cs::A=>(i,.F .box cs)::AH (i+1) A
def Uw:MA->AV
 | .val a cs=>.F (kv a) cs
 | .mut a cs=>.F (kv a) cs
 | .ptr cs=>.F .box cs
def Wy(TE:Nat->Option TI)(c:List ResultVar)(k:Kd)(rcs:List C):Exit->(Nat->AV)->Prop:=λe F=>
 match e with
 | .normal=>resA TE F c [] λa b=>bj (gK a) k b rcs True
 | .ret=>resA TE F c [] λa b=>bj (gK a) k b rcs True
 | _=>False
section
variable{P:Program}{w0 w w1:World}{M S0 S:ah}{N:fm}{φ:Nat->ah}{F:Nat->AV}{a:Act}{TE:Nat->Option TI}
def Dr:∀{A:List MA}{vs:List Value}{V:Nat->ah}(i:Nat),P4 w S V A vs->∀t,(lay (AH i A) t=.dead)\/(∃m v,i<=t/\vs[t - i]? = some v/\A[t - i]? = some m/\lay (AH i A) t=Uw m/\qo w S (V (t - i)) m v)
 | [],_,_,i,_,t=>.inl rfl
 | m::A,[],_,i,h,t=>h.elim
 | m::A,v::vs,V,i,h,t=>by
  have c:lay (AH i (m::A)) t=bif Nat.beq t i then Uw m else lay (AH (i+1) A) t:=by cases m<;>rfl
  rw[c];cases a:Nat.beq t i with
  | true=>
   have:=O3 a;subst this;exact .inr ⟨m,v,I4 _,by simp,by simp,rfl,by rw[Nat.sub_self];exact h.1⟩
  | false=>
   have d:t≠i:=λe=>by subst e;rw[Nat.beq_refl]at a;cases a
   rcases Dr (i+1) h.2 t with b|⟨f,g,b,j,k,l,n⟩
   ·exact .inl b
   refine .inr ⟨f,g,ω,?_,?_,l,?_⟩
   ·rw[show t - i=(t - (i+1))+1 by omega];simpa using j
   ·rw[show t - i=(t - (i+1))+1 by omega];simpa using k
   rw[show t - i=(t - (i+1))+1 by omega];exact n
def yl{d:World}{S':ah} : ∀{A:List MA}{vs:List Value}{V:Nat->ah},ME A=true->P4 w S V A vs->BM d S' (λ_=>NO) (A.map Mg) vs
 | [],[],_,_,_=>trivial
 | [],_::_,_,_,h=>h.elim
 | _::_,[],_,_,h=>h.elim
 | .ptr _::_,_::_,_,a,_=>by cases a
 | .val ag cs::A,v::vs,V,a,h=>⟨trivial,yl (A:=A) a h.2⟩
 | .mut ag cs::A,v::vs,V,a,h=>by
  refine⟨?_,yl (A:=A) a h.2⟩;obtain⟨e,f,g⟩:=bw.celF (show bw w S (V 0) ag cs v from h.1);refine⟨by rw[List.length_replicate];exact e,celF v,f,λ_=>NO,λj c i=>?_,λ_ _ _ _ h=>h.elim,λ_ _ _ _ _ _ _ h=>h.elim⟩;obtain⟨b,rfl⟩:=List.getElem?_replicate.symm.trans i |> λh=>by
   rw[<-List.getElem?_replicate]at h;have b:=(Y3.1 h).1;rw[List.length_replicate]at b;rw[List.getElem?_replicate,CG b]at h;exact CC b (Option.some.inj h).symm
  exact .x _ _ (g.one b)
def Nd{f : Nat}{g : Func}{c : Code}{A : List MA}{k : Kd}{rcs : List C}{mo : List (Nat × List Nat)}{n : Nat}(L : ∀t i, TE t = some i -> i7 P t i)(hf : P.funcs[f]? = some g)(hn : (g.name == "runtime.NumGoroutine") = false)(B:g.body=some c){ck:Nat->Array Oper->Bool}{D:fm->Nat->Array Oper->((Nat->AV)->Prop)->(Nat->AV)->Prop}(hD:∀N,yu P N ck (D N))(hc:gJ ck c=true)(hN:A.length+(g.ntmps - A.length)=n)(U:ME A=true)(W:gk rcs)(hp:aw P TE ⟨n,[],mo⟩ (D ⟨n,[],mo⟩) c (Wy TE g.results.toList k rcs) (lay (AH 0 A))):aR P f false A (A.map Mg) k rcs:=by
 refine⟨⟨g,hf,hn,by rw[B];rfl⟩,λw S V p hS hV Z hA=>?_⟩;have hlen:=Ga hA;refine calls_of_wp hf B ?_;have htv:∀t v,p[t]? = some v->tvs {tmps:=p.toArray++Array.replicate (g.ntmps - p.toArray.size) undef,defers:=[]} t=v:=λt v E=>by
  have hlt:=(Y3.1 E).1;simp only[tvs,t9];rw[Array.getElem?_append_left (by simpa using hlt)];simp only[List.getElem?_toArray];rw[E];rfl
 have hst:St w (λb o=>∃i,V i b o) S ⟨n,[],mo⟩ (lay (AH 0 A)) {tmps:=p.toArray++Array.replicate (g.ntmps - p.toArray.size) undef,defers:=[]} w:=by
  refine⟨S,V,λt=>?_,Z,λt b o h=>(hV t b o h).2,λt b o h=>⟨(hV t b o h).1,.inr ⟨t,h⟩⟩,λ_ _ h=>h,λb o h=>⟨hS b o h,.inl h⟩,CZ _ _,by simp;omega,rfl,λq hq=>by simp at hq⟩;rcases Dr 0 hA t with h1|⟨m,v,-,E,h2',h3,H⟩
  ·rw[h1];trivial
  rw[h3];rw[Nat.sub_zero]at E H;rw[htv t v E];cases m with
  | val y r=>exact(bw.mono (show bw w S NO y r v from H) (λ_ _ h=>h) (λ_ _ h=>h.elim)).slot
  | «mut» y r=>exact bw.slot (show bw w S (V t) y r v from H)
  | ptr r=>exact H
 refine jq L (hD _) c hc _ _ _ _ w hp hst λe F' J d he hs'=>?_
 obtain⟨S',φ',h⟩:=hs';have fin:resA TE F' g.results.toList [] (λsh r=>bj (gK sh) k r rcs True)->J.defers=[]/\∃v,(results g J.tmps).run P d=.ok v d/\(∃v',Ending.returned v=.returned v'/\bC (λb o=>∃i,V i b o) w d/\∃(X:ah)(K:Nat->ah)(M:ah),
     (∀b o,X b o->(∃i,V i b o)\/(b<d.heap.size/\w.heap.size<=b))/\(∀i b o,K i b o->(∃i,V i b o)\/(b<d.heap.size/\w.heap.size<=b))/\
     (∀b o,M b o->(false=true/\S b o)\/(∃i,V i b o)\/(b<d.heap.size/\w.heap.size<=b))/\
     (∀i i',i≠i'->∀b o,K i b o->¬K i' b o)/\(∀i b o,X b o->¬K i b o)/\(∀b o,X b o->¬M b o)/\(∀i b o,K i b o->¬M b o)/\
     fL d NO k rcs.length v'/\cy d M X rcs (bZ d k v')/\BM d (λb o=>S b o\/M b o) K (A.map Mg) p):=by
  intro hr;obtain⟨shs,r,a,u',O,Q,u,hln,R,hcells,l,T⟩:=h.resA L hr;obtain⟨rfl,rfl,-⟩:=O.out;refine⟨h.defers,?_⟩;have G:(results g J.tmps).run P d=.ok (if h:a.toArray.size=1 then a.toArray[0] else .tuple a.toArray) d:=by
   have e:results g J.tmps=(do let p <-g.results.mapM (D7 J.tmps);pure (if h:p.size=1 then p[0] else .tuple p)):=by
    unfold results
    congr 1
   rw[e,<-Array.toArray_toList (xs:=g.results),List.mapM_toArray];simp only[Sem.run_bind,Sem.run_map,Q,Result.andThen_ok,Sem.run_pure]
  have hex:∀t b o,φ' t b o->(∃i,V i b o)\/(b<d.heap.size/\w.heap.size<=b):=λt b o B=>(h.ex t b o B).2.elim (λh'=>.inr ⟨(h.ex t b o B).1,h'⟩) .inl
  refine⟨_,G,_,rfl,h.old,λb o=>∃t,t∉([]:List Nat)/\φ' t b o,λ_=>NO,NO,λb o ⟨t,_,B⟩=>hex t b o B,λ_ _ _ h=>h.elim,λ_ _ h=>h.elim,λ_ _ _ _ _ h=>h.elim,λ_ _ _ _ h=>h.elim,λ_ _ _ h=>h.elim,λ_ _ _ h=>h.elim,?_⟩;have hk:fL d NO (gK shs) r.length (if h:a.toArray.size=1 then a.toArray[0] else .tuple a.toArray)/\cy d S' (λb o=>∃t,t∉([]:List Nat)/\φ' t b o) r (bZ d (gK shs) (if h:a.toArray.size=1 then a.toArray[0] else .tuple a.toArray)):=by
   match shs,u,l,R with
   | [],u,_,R=>
    cases a with
    | cons _ _=>exact u.elim
    | nil=>
     have:r=[]:=S9 (by simpa[xl] using R.symm);subst this;exact⟨⟨_,rfl,trivial,rfl⟩,cy.nil _ _ _ _⟩
   | [y],_,l,_=>
    obtain⟨v,rfl,hv⟩:=l y rfl;have:=hv.slot (F:=F') (tv:=tvs J);obtain⟨X1,Y,h1,E,h3,H,h5⟩:=this;refine⟨?_,h5.mono (λ_ _ h=>h) E⟩;cases y<;>exact H
   | y::ag2::sh,u,_,R=>
    have hsz:¬a.toArray.size=1:=by
     match a,u with
     | [],u=>simp
     | [v],u=>cases y<;>cases ag2<;>exact u.2.elim
     | _::_::_,_=>simp
    rw[dif_neg hsz];refine⟨⟨_,rfl,u,R⟩,T.congr λj hj=>?_⟩;simp only[bZ,gK,m7,hcells];simp[List.getD,hj]
  exact⟨hk.1,(hk.2.fresh W).mono (λ_ _ h=>h.elim) (λ_ _ h=>h),yl U hA⟩
 cases e with
 | normal=>exact fin he
 | ret=>exact fin he
 | _=>exact he.elim
end
def W7{n f : Nat}{mo : List (Nat × List Nat)}{a : Func}{c : Code}{A : List MA}{k : Kd}{rcs : List C}(e : Tryz.prog.funcs[f]? = some a)(g : (a.name == "runtime.NumGoroutine") = false)(h : a.body = some c){tb : List (Nat × Nat × List Nat)}(i : gJ (pb tb) c = true)(j:A.length+(a.ntmps - A.length)=n)(b:ME A=true)(d:gk rcs)(l:aw Tryz.prog TE ⟨n,[],mo⟩ (DF Tryz.prog TE ⟨n,[],mo⟩ tb) c (Wy TE a.results.toList k rcs) (lay (AH 0 A))):zzB f false A (A.map Mg) k rcs:=
 Nd od e g h (λN=>tI od td N tb) i j b d l
def Nc{w:World}{S Y:ah}{t:List C}(d:cy w S Y (ac.enc .own h++t) u):cy w S Y (ge h++t) u:=by
 obtain⟨f,b,e,g⟩:=d;refine⟨f,λj c a=>?_,e,g⟩;have i:ge h++t=(((ac.enc .own h++t).set 6 (oS h)).set 7 (oL h)).set 8 (oO h):=rfl;rw[i]at a;by_cases k:j=8
 ·subst k
  have:c=oO h:=by simpa[ac.enc] using a.symm
  rw[this];exact tf (b 8 _ rfl)
 by_cases l:j=7
 ·subst l
  have:c=oL h:=by simpa[ac.enc] using a.symm
  rw[this];exact tf (b 7 _ rfl)
 by_cases n:j=6
 ·subst n
  have:c=oS h:=by simpa[ac.enc] using a.symm
  rw[this];exact tf (b 6 _ rfl)
 rw[List.getElem?_set_ne ω,List.getElem?_set_ne ω,List.getElem?_set_ne ω]at a;exact b j c a
def am.E{P:Program}{f:Nat}{sh:Bool}{A:List RA}{k:Kd}{t:List C}(c:am P f sh A k (ac.enc .own h++t)):am P f sh A k (ge h++t):=by
 obtain⟨a,b⟩:=c;refine⟨a,λw S d g i=>(b w S d g i).mono λe w1 j=>?_⟩;obtain⟨v,l,n,X,o,p,q,r,u,y⟩:=j;exact⟨v,l,n,X,o,p,q,r,u,Nc y⟩
def T7(a:h.j=true):ge h=(ge h).set 18 (B true):=by rw[<-a];rfl
def M5(a:h.j=false):ge h=(ge h).set 18 (B false):=by rw[<-a];rfl
def H5(h:ac)(o:cm h [])(p:fE h.K.b)(c:aM.sml h.e)(u:h.K.Calls<=98000):zzB 248 false [.mut (some 24) (ge h)] [.mut (some 24) (List.replicate 24 .x)] (.tup [some 24,none]) (ge (fin h).1++[B (fin h).2]):=by
 refine W7 (n:=29) (mo:=[]) (tb:=[]) Tryz.func248 (by kernel_rfl) rfl (by kernel_rfl) (by rfl) rfl (aJ (na _) ⟨trivial,trivial⟩) ?_
 refine ZP ?_
 refine CH (ι:=Nat) (λi=>[(1,.F .box (ge (eN h i).1)),(2,.F .box uP),(4,.F .one [I ((i:Nat):Int)])]) (λi=>i<=100/\(eN h i).2=false) (λi=>100 - i) (0) ?_ (⟨C1 _,rfl⟩) λi o=>?_
 ·exact wC
 obtain⟨e,g⟩:=o;have s:=tU (by assumption) p c i;by_cases w:i<100
 ·cases b:(eN h i).1.j with
  | false=>
   have j:=Lf b e;rw[M5 b]
   refine ZE ?_
   refine CL rfl ?_ trivial;rw[j,g,M5 b]
   rfl
  | true=>
   have a:=BZ b;have y:=s.calls;have q:=(AX (eN h i).1 (s.inv g) b s.fit.sml ω).E;have k:=mP (eN h i).1;rw[T7 b]at k |-;cases d:pL (eN h i).1 with
   | true=>
    rw[d]at a;have t:Wg (eN h i).1=4:=of_decide_eq_true d;have j:=Lf (h:=h) (i:=i+1) (by rw[a];have r:=tU (by assumption) p c (i+1);rw[a]at r;exact r.done rfl) ω;rw[j,a]
    repeat'(first|refine gB ?_|refine CJ (q) ⟨⟨rfl,k⟩,trivial⟩ ?_)
    exact CL rfl rfl trivial
   | false=>
    rw[d]at a;have t:¬Wg (eN h i).1=4:=of_decide_eq_false d;have l:mStep (eN h i).1=(eN h (i+1)).1:=by rw[a]
    repeat'(first|refine gB ?_|refine CJ (q) ⟨⟨rfl,k⟩,trivial⟩ ?_)
    (refine CF (i+1) ⟨ω,by rw[a]⟩ ω ?_)
    rw[<-l];exact wC
 obtain rfl:i=100:=ω
 refine ZE ?_
 refine CL rfl ?_ trivial;rw[<-g]
 rfl
def Kh(rows:List (List C)):UJ (oE rows)=oE rows:=by cases rows<;>rfl
def Xw(h:ac):WO (.mut (some 24) (ge h))=.mut (some 24) (ge h):=by
 show MA.mut (some 24) (cE h (UJ (oS h)) (UJ (oL h)) (UJ (oO h)))=_;unfold oS oL oO;rw[Kh,Kh,Kh]
 rfl
def wE(h:ac)(b:cm h [])(c:fE h.K.b)(a:aM.sml h.e)(d:h.K.Calls<=98000):zzB 248 false [WO (.mut (some 24) (ge h))] [.mut (some 24) (List.replicate 24 .x)] (.tup [some 24,none]) (ge (fin h).1++[B (fin h).2]):=by
 rw[Xw];exact H5 h b c a d
def NU(h:ac)(most:Nat)(g:cm h [])(c:fE h.K.b)(b:aM.sml h.e)(C:h.K.Calls<=90000)(D:most<=20):zzA 92 false [.val (some 24) (ac.enc .O h),.val none [I (most:Nat)]] (.tup [some 24,none]) (ge (cN h most).1++[I ((cN h most).2:Nat)]):=by
 have d:=g.fit c b;have u:=mI h d.sml;have l:=gh h d.sml;rw[jd,g.to]at l;have n:=wE h g c b ω;have o:=aO ((most:Nat):Int) 0 20;rw[O0 ω]at o;refine fP 58 [(248,[1])] [] Tryz.func92 rfl ?_ (.inr (aJ (na _) ⟨trivial,trivial⟩));cases p:(fin h).2<;>rw[p]at n
 all_goals
  have q:cN h 0=((fin h).1,(fin h).2.toNat):=rfl;rw[p]at q
  refine ZE ?_
  refine CH (ι:=Nat) (λi=>[(1,.F .one [I (((most:Nat):Int) - (i:Nat))]),(4,.F .box uP),(6,.F .box (ge (cN h i).1)),(7,.F .one [I ((cN h i).2:Nat)])]) (λi=>i<=most) (λi=>most - i) 0 ?_ (C1 _) λi w=>?_
  ·rw[q]
   exact wC
  have s:=pF g c b i;have E:=s.calls;have F:=s.cnt;obtain⟨G,r,y,B⟩:=Eb s.fit (by rw[s.ref];exact c) (by rw[s.mail];exact b);by_cases H:i<most
  ·have j:=Ai (cN h i).1 s.fit.sml
   have a:cN h (i+1)=if(dq (cN h i).1).2=true then((fin (dq (cN h i).1).1).1,(cN h i).2+(fin (dq (cN h i).1).1).2.toNat) else((dq (cN h i).1).1,(cN h i).2):=rfl
   cases e:(dq (cN h i).1).2 with
   | false=>
    rw[e]at j a;rw[CD (by simp)]at a
    repeat'(first|refine gE ?_|refine CJ (j) ⟨⟨rfl,mP _⟩,trivial⟩ ?_)
    (refine CF (i+1) ω ω ?_)
    rw[a];exact wC
   | true=>
    rw[e]at j a;rw[CG rfl]at a;have t:=wE (dq (cN h i).1).1 (B e) (by rw[r,s.ref];exact c) (by rw[y,s.mail];exact b) (by rw[r];omega);cases k:(fin (dq (cN h i).1).1).2<;>rw[k]at t a
    all_goals
     repeat'(first|refine gE ?_|refine CJ (j) ⟨⟨rfl,mP _⟩,trivial⟩ ?_)
     (refine CF (i+1) ω ω ?_)
     rw[a];exact wC
  obtain rfl:i=most:=ω
  refine ZE ?_
  rfl
def Pb(h:ac)(most:Int)(c:ac.sml h)(B:ac.wf h):zzA 29 false [.val (some 24) (ac.enc .O h),.val none [I most]] (.tup [some 24,none]) (ge (relieve h most).1++[I (relieve h most).2]):=by
 have d:=mI h c;have a:=gh h c;rw[jd]at a;have i:=aO most 0 20;refine fO 56 [(10,268,[44,45,46,47,48,49,50,51,52,53,54,55,0,1,2,3,4,5,6,7,8,9,10,11,12,1011,13])] Tryz.func29 rfl ?_ (.inr (aJ (na _) ⟨trivial,trivial⟩));unfold relieve;cases e:tY h most with
 | false=>
  rw[CD (by simp)];unfold tY at e;cases j:ec h<;>rw[j]at a e
  ·refine ZP ?_
   rfl
  by_cases k:h.K.Calls<=90000
  ·rw[O0 k,Bool.true_and,Bool.true_and]at e
   rw[e]at i
   refine ZE ?_
   rfl
  refine ZE ?_
  rfl
 | true=>
  rw[CG rfl];unfold tY at e;simp only[I0,C0]at e;obtain⟨j,k,q,C⟩:=e;rw[j]at a;rw[O0 ⟨q,C⟩]at i;have l:=cm.of j;have n:fE h.K.b:=B.1.2.2;have b:aM.sml h.e:=c.2.2.2.2.2.2.1;obtain⟨m,rfl⟩:=v4 q;simp only[t4];have D:=l.lens.caches
  refine ZE ?_
  refine CH (ι:=Nat) (λt=>[(1,.F .one [I ((m:Nat):Int)]),(2,.F .box (ac.enc .O h)),(4,.F .box uP),(6,.F .box (ge (vi h t))),(27,.F .one [I ((h.M.length:Nat):Int)]),(28,.F .one [I ((t:Nat):Int)])]) (λt=>t<=h.M.length) (λt=>h.M.length - t) (0) ?_ (C1 _) λt E=>?_
  ·exact wC
  have s:=Ad l t E;have o:=s.inv.fit (by rw[s.ref];exact n) (by rw[s.mail];exact b);by_cases F:t<h.M.length
  ·have r:=An (vi h t) t o.sml s.inv.to (by rw[s.calls];omega) (by rw[s.caches];exact F)
   obtain⟨g,u⟩ : ∃g,bi t (vi h t) 4=g:=⟨_,rfl⟩
   have G:vi h (t+1)=g.1:=I1 Prod.fst u;rw[u]at r
   repeat'(first|refine gE ?_|refine CJ (r) ⟨⟨rfl,mP _⟩,⟨rfl,rfl⟩,trivial⟩ ?_)
   (refine CF (t+1) ω ω ?_)
   rw[G];exact wC
  obtain rfl:t=h.M.length:=ω
  have p:=NU (vi h h.M.length) m s.inv (by rw[s.ref];exact n) (by rw[s.mail];exact b) (by rw[s.calls];exact k) ω;have w:=pF s.inv (by rw[s.ref];exact n) (by rw[s.mail];exact b) m;have H:=pS h.K.G.U c.1.1.1;have y:=pS (cN (vi h h.M.length) m).1.K.G.U w.fit.sml.1.1.1;have K:=jV h.K.G.U l.lens.used;have J:=jV (cN (vi h h.M.length) m).1.K.G.U (by have:=bh.1 (aI.1 w.fit.ker).2.1;omega);generalize cN (vi h h.M.length) m=g at p y J |-;generalize vi h h.M.length=f at p |-
  repeat'(first|refine gE ?_|refine CJ (p) ⟨⟨rfl,mP _⟩,⟨rfl,rfl⟩,trivial⟩ ?_|refine CJ (y) ⟨⟨rfl,aF.enc_fz _⟩,trivial⟩ ?_)
  rfl
def th{m:Int}(a:ac.sml h)(b:ac.wf h)(e:tY h m=true):Rz (vi h h.M.length) m.toNat (cN (vi h h.M.length) m.toNat)/\(vi h h.M.length).e=h.e:=by
 unfold tY at e;simp only[I0,C0]at e;have c:=cm.of e.1;have s:=Ad c h.M.length (I4 _);exact⟨pF s.inv (by rw[s.ref];exact b.1.2.2) (by rw[s.mail];exact a.2.2.2.2.2.2.1) _,s.mail⟩
def wX{m:Int}(a:ac.sml h)(b:ac.wf h):ac.sml (relieve h m).1:=by
 unfold relieve;split
 ·rename_i e;exact(th a b e).1.fit.sml
 exact a
structure FT(m:aM)(g:ac):Prop where
 sml:ac.sml g
 wf:ac.wf g
 lens:pa g
 mail:g.e=m
def GZ(h:ac)(t n:Int):(fp h t n).1.e=h.e:=by
 have a:∀t c:Nat,(en h t c).1.e=h.e:=λt c=>by
  unfold en
  repeat' split
  all_goals first|rfl|(unfold km;split<;>rfl)
 unfold fp qN
 repeat' split
 all_goals first|rfl|exact a _ _
def FT.alloc{m:aM}{g:ac}(f:FT m g)(t n:Int):FT m (eQ g t n).1:=by
 obtain⟨a,b⟩:=oY f.sml f.wf t n;unfold eQ at a b |-;split
 ·rename_i e
  rw[CG e]at a b;exact⟨a,b,(Dq (cm.of e)).1.lens,(GZ g t n).trans f.mail⟩
 exact f
def FT.rel{m:aM}{g:ac}(f:FT m g)(k:Int):FT m (relieve g k).1:=by
 unfold relieve;split
 ·rename_i e
  obtain⟨s,a⟩:=th f.sml f.wf e;exact⟨s.fit.sml,s.fit.wf,s.fit.lens,(s.mail.trans a).trans f.mail⟩
 exact f
def FT.cnt{m:aM}{g:ac}(f:FT m g)(b:aM.cnt m<=8388608):ac.cnt g<=20000000:=by
 have a:=f.lens.cnt;rw[f.mail]at a;have c:g.p.Y.W.length<=1048576:=f.sml.2.2.2.2.2.2.2.2;unfold bk.cnt aV.cnt er at a;omega
def mR(h:ac)(t n:Int):ac × Int × Int:=if(eQ h t n).2.2=4 then eQ (relieve (eQ h t n).1 3).1 t n else eQ h t n
def yg(h:ac)(t n:Int)(j:ac.sml h)(l:ac.wf h):zzA 47 false [.val (some 24) (ac.enc .O h),.val none [I t],.val none [I n]] (.tup [some 24,none,none]) (ac.enc .own (mR h t n).1++[I (mR h t n).2.1,I (mR h t n).2.2]):=by
 have i:=qn h t n j l;obtain⟨d,b⟩:=oY j l t n;unfold mR;generalize eQ h t n=r at *;obtain⟨g,a,c⟩:=r;simp only at i d b |-;by_cases e:c=4
 ·subst e
  rw[CG rfl];have o:=E7 g 3 d b;have p:=wX (m:=3) d b;have u:ac.wf (relieve g 3).1:=by
   unfold relieve;split
   ·rename_i e;exact(th d b e).1.fit.wf
   exact b
  generalize relieve g 3=q at *;obtain⟨w,k⟩:=q;simp only at o p u |-;have y:=qn w t n p u;generalize eQ w t n=r2 at *;refine fO 38 [] Tryz.func47 rfl ?_ (.inr (aJ (Cb _) ⟨trivial,trivial,trivial⟩))
  repeat'(first|refine gB ?_|refine CJ (o) ⟨⟨rfl,ac.enc_fz _⟩,⟨rfl,rfl⟩,trivial⟩ ?_|refine CJ (y) ⟨⟨rfl,ac.enc_fz _⟩,⟨rfl,rfl⟩,⟨rfl,rfl⟩,trivial⟩ ?_)
  rfl
 rw[CD e];refine fO 38 [] Tryz.func47 rfl ?_ (.inr (aJ (Cb _) ⟨trivial,trivial,trivial⟩))
 refine ZB ?_
 rfl
def Wj(c:ax)(k:Nat):List C:=if 0<(nth c.T k).length then [.s .own ((c.T.map (aH .own)).set k [oP (((nth c.T k).take ((nth c.T k).length - 1)).map (rI .own))]),I (nth (nth c.T k) ((nth c.T k).length - 1)),B true] else ax.enc .own c++[I (-1),B false]
def UC{rows:List (List C)}(h:JD rows):P2 (oP rows):=by
 cases rows with
 | nil=>exact⟨.inr rfl,trivial⟩
 | cons r a=>exact⟨.inl (λe=>by cases e),h⟩
def Ez{rows:List (List C)}{k:Nat}{r:List C}(h:JD rows)(b:gk r):JD (rows.set k r):=by
 induction rows generalizing k with
 | nil=>exact h
 | cons a d c=>
  simp only[JD]at h;cases k with
  | zero=>simp only[List.set_cons_zero,JD];exact⟨b,h.2⟩
  | succ k=>simp only[List.set_cons_succ,JD];exact⟨h.1,c h.2⟩
def UL(c:ax)(k:Nat):gk (Wj c k):=by
 unfold Wj;split
 ·refine⟨⟨.inl (λe=>by cases e),Ez (bu _ _ λx _=>bM x) ⟨UC (bu _ _ λx _=>zt x),trivial⟩⟩,trivial,trivial,trivial⟩
 exact aJ (Cc _) ⟨trivial,trivial,trivial⟩
def Bj(c:ax)(k:Nat)(p:bH c=true)(B:k<=3):zzA 186 false [.val (some 1) (ax.enc .O c),.val none [I (k:Nat)]] (.tup [some 1,none,none]) (Wj c k):=by
 obtain⟨D,q⟩:=gi p;have t:ax.sml c:=⟨ω,λl w=>by have:=q l w;show l.length<=1048576;omega⟩
 have j:=zB c k t;rw[p,O0 ω]at j;have n:=me c t;have a:=rK (c:=c) (k:=k) ω;have y:=q _ (aE (xs:=c.T) (i:=k) ω);have b:=UL c k;unfold Wj at b |-;by_cases u:0<(nth c.T k).length
 ·rw[CG u]at b |-
  have o:=ar (xs:=nth c.T k) (i:=(nth c.T k).length - 1) ω;have d:(nth c.T k)[(((nth c.T k).length:Int) - 1).toNat]? = some (nth (nth c.T k) ((nth c.T k).length - 1)):=by rw[show(((nth c.T k).length:Int) - 1).toNat=(nth c.T k).length - 1 by omega];exact o
  have e:((((nth c.T k).length:Nat):Int) - 1)=(((nth c.T k).length - 1:Nat):Int):=ω
  have g:∀x:List C,((c.T.map (aH .own)).set k x).set k [oP (((nth c.T k).take ((nth c.T k).length - 1)).map (rI .own))]=(c.T.map (aH .own)).set k [oP (((nth c.T k).take ((nth c.T k).length - 1)).map (rI .own))]:=λx=>List.set_set ..
  have h:((nth c.T k).map (rI .own)).take ((nth c.T k).length - 1)=((nth c.T k).take ((nth c.T k).length - 1)).map (rI .own):=O5.symm;generalize ((nth c.T k).take ((nth c.T k).length - 1)).map (rI .own)=R at *;cases R with
  | nil=>
   refine fP 54 [(7000050,[])] [(6,266,[41,42,43,44,45,46,47,48,49,51,0,1,2,3,4,5,6,7,8,9,1000,1001,1002,10,11])] Tryz.func186 rfl ?_ (.inr b)
   repeat'(first|refine gB ?_|refine CK rfl (nQ a) rfl ?_|refine CB (nQ a) ?_|refine CM ω (aa d) ?_|refine Lq.one rfl rfl (aa a) rfl (C2 rfl) rfl rfl ?_|refine CX ((nth c.T k).length - 1) e (by rw[Z1];omega) (aW λ_=>rfl) h.symm ?_|refine CN rfl rfl (nQ a) rfl (C2 rfl) (I1 (λz=>[C.s dY.own z]) (g _).symm) ?_)
   rfl
  | cons r E=>
   refine fP 54 [(7000050,[])] [(6,266,[41,42,43,44,45,46,47,48,49,51,0,1,2,3,4,5,6,7,8,9,1000,1001,1002,10,11])] Tryz.func186 rfl ?_ (.inr b)
   repeat'(first|refine gB ?_|refine CK rfl (nQ a) rfl ?_|refine CB (nQ a) ?_|refine CM ω (aa d) ?_|refine Lq.one rfl rfl (aa a) rfl (C2 rfl) rfl rfl ?_|refine CX ((nth c.T k).length - 1) e (by rw[Z1];omega) (aW λ_=>rfl) h.symm ?_|refine CN rfl rfl (nQ a) rfl (C2 rfl) (I1 (λz=>[C.s dY.own z]) (g _).symm) ?_)
   rfl
 rw[CD u]at b |-;refine fP 54 [(7000050,[])] [(6,266,[41,42,43,44,45,46,47,48,49,51,0,1,2,3,4,5,6,7,8,9,1000,1001,1002,10,11])] Tryz.func186 rfl ?_ (.inr b)
 refine ZB ?_
 rfl
def Ue{cs:List C}{k:Nat}{c:C}(h:gk cs)(b:P2 c):gk (cs.set k c):=by
 induction cs generalizing k with
 | nil=>exact h
 | cons a e d=>
  simp only[gk]at h;cases k with
  | zero=>simp only[List.set_cons_zero,gk];exact⟨b,h.2⟩
  | succ k=>simp only[List.set_cons_succ,gk];exact⟨h.1,d h.2⟩
def xE(h:ac)(a:C):Prop:=a=.s .own (h.M.map (ax.enc .own))\/∃t c,t<h.M.length/\(nth h.M t).T[c]? = some []/\a=.s .own ((h.M.map (ax.enc .own)).set t [.s .own (((nth h.M t).T.map (aH .own)).set c [.s .O []])])
def xE.own(h:ac):xE h (.s .own (h.M.map (ax.enc .own))):=.inl rfl
def xE.rows(b:xE h a):∃R,a=.s .own R:=by
 rcases b with e|⟨t,c,-,-,e⟩
 ·exact⟨_,e⟩
 exact⟨_,e⟩
def zD{α:Type}{l:List α}{x:α}(h:l[i]? = some x):l.set i x=l:=by
 refine List.ext_getElem? λj=>?_
 rw[List.getElem?_set];split
 ·rename_i e
  subst e;rw[h,CG (Y3.1 h).1]
 rfl
def PZ(rows:List (List C)):fz (.s .own rows)=.s .O (rows.map fo):=by rw[Vz];congr 1;apply List.map_congr_left;intro r _;rw[dh]
def xE.ok{d:C}(a:xE h d):Lo h d:=by
 rcases a with e|⟨t,c,f,a,e⟩
 ·subst e;exact Lo.own h
 subst e;have b:fz (.s .own (h.M.map (ax.enc .own)))=.s .O (h.M.map (ax.enc .O)):=Lo.own h;unfold Lo;rw[PZ]at b |-;simp only[C.s.injEq,true_and]at b |-;rw[S8,b];refine zD ?_;rw[O4,ar f];have g:=ax.enc_fz (nth h.M t);have i:((nth h.M t).T.map (aH .own)).set c [.s .own []]=(nth h.M t).T.map (aH .own):=zD (by rw[O4,a];rfl);refine I1 some (g.symm.trans ?_);show fo [.s .own ((nth h.M t).T.map (aH .own))]=_;rw[<-i];simp only[fo,PZ,S8,List.set_set]
 rfl
def xE.fr(b:xE h a):P2 a:=by
 rcases b with e|⟨t,c,d,b,e⟩
 ·subst e;exact⟨.inl (λe=>by cases e),bu _ _ λx _=>Cc x⟩
 subst e;refine⟨.inl (λe=>by cases e),Ez (bu _ _ λx _=>Cc x) ⟨⟨.inl (λe=>by cases e),Ez (bu _ _ λx _=>bM x) ⟨⟨.inr rfl,trivial⟩,trivial⟩⟩,trivial⟩⟩
def xU(b:P2 a):gk (zb h a):=Ue (lx h) b
def WS(h:ac)(t c:Nat):C:=.s .own ((h.M.map (ax.enc .own)).set t [.s .own (((nth h.M t).T.map (aH .own)).set c [oP (((nth (nth h.M t).T c).take ((nth (nth h.M t).T c).length - 1)).map (rI .own))])])
def Vb(h:ac){t c:Nat}(d:t<h.M.length)(e:c<(nth h.M t).T.length):xE {h with M:=h.M.set t (rT (nth h.M t) c)} (WS h t c):=by
 have f:rT (nth h.M t) c = ⟨(nth h.M t).T.set c ((nth (nth h.M t).T c).take ((nth (nth h.M t).T c).length - 1))⟩:=rfl;rw[f];unfold WS;generalize (nth (nth h.M t).T c).take ((nth (nth h.M t).T c).length - 1)=R;cases R with
 | cons a R=>
  refine .inl ?_;show _=C.s .own ((h.M.set t _).map _);rw[S8];show _=C.s .own ((h.M.map (ax.enc .own)).set t [.s .own (((nth h.M t).T.set c (a::R)).map (aH .own))]);rw[S8]
  rfl
 | nil=>
  have b:nth (h.M.set t (⟨(nth h.M t).T.set c []⟩ : ax)) t = ⟨(nth h.M t).T.set c []⟩:=b6 (t5 ω);refine .inr ⟨t,c,by simpa using d,?_,?_⟩
  ·show(nth (h.M.set t (⟨(nth h.M t).T.set c []⟩ : ax)) t).T[c]? = _
   rw[b];exact t5 e
  show _=C.s .own (((h.M.set t (⟨(nth h.M t).T.set c []⟩ : ax)).map (ax.enc .own)).set t [.s .own (((nth (h.M.set t (⟨(nth h.M t).T.set c []⟩ : ax)) t).T.map (aH .own)).set c [.s .O []])]);rw[b,S8,List.set_set];show _=C.s .own ((h.M.map (ax.enc .own)).set t [.s .own ((((nth h.M t).T.set c []).map (aH .own)).set c [.s .O []])]);rw[S8,List.set_set]
  rfl
def AP(h:ac)(t c:Nat)(o:cm h [])(E:t<h.M.length)(S:c<=3)(r:h.K.Calls<=90000):∃V,xE (en h t c).1 V/\zzB 65 false [.ptr (gI h),.val none [I (t:Nat)],.val none [I (c:Nat)]] [.ptr (zb (en h t c).1 V),.val none [I (t:Nat)],.val none [I (c:Nat)]] (.tup [none,none]) [I (en h t c).2,B (decide (0<=(en h t c).2))]:=by
 have w:=o.cach _ (aE E);have Z:=wG w;have d:=ar E;have F:=Bj (nth h.M t) c w S;have hls:=o.lens.spans;have C:=o;unfold Wj at F;by_cases M:0<(nth (nth h.M t).T c).length
 ·obtain⟨N,G⟩:=o.pop E ω M (LC w c)
  have k:=lr.nn o G;unfold en;rw[CG M]at F |-;refine⟨WS h t c,Vb h E ω,?_⟩;simp only;rw[O0 k];refine fM 86 [(188,[2,0]),(189,[2,0]),(190,[2,0]),(4000062,[]),(5000077,[])] [(3,6,[31,32,33,34,35,36]),(8,10,[49,50,51,52,53,54,55,56,57,58])] [(0,0),(0,0),(0,0)] Tryz.func65 rfl (λu q=>?_) (.inr ⟨trivial,trivial,trivial⟩)
  repeat'(first|refine gP ?_|refine CB (nQ d) ?_|refine CK rfl (nQ d) rfl ?_|refine CJ (F) ⟨⟨rfl,ax.enc_fz _⟩,⟨rfl,rfl⟩,trivial⟩ ?_|refine CN rfl rfl (aa d) rfl (C2 rfl) rfl ?_)
  refine CL rfl rfl ?_;exact wC
 rw[CD M]at F;refine⟨_,xE.own _,?_⟩;change aR _ _ _ _ [.ptr (gI (en h t c).1),_,_] _ _;have e:en h t c=match pH h c with
  | some i=>(slotT h i,qL h i)
  | none=>if(aA h.a 1).2.2=false then(h,-1)
   else if(dB h.K (aA h.a 1).2.1).2=false then({h with K:=(dB h.K (aA h.a 1).2.1).1},-1)
   else km (pX h c) (pD h):=by unfold en;exact CD M
 refine fM 86 [(188,[2,0]),(189,[2,0]),(190,[2,0]),(4000062,[]),(5000077,[])] [(3,6,[31,32,33,34,35,36]),(8,10,[49,50,51,52,53,54,55,56,57,58])] [(0,0),(0,0),(0,0)] Tryz.func65 rfl (λu q=>?_) (.inr ⟨trivial,trivial,trivial⟩)
 repeat'(first|refine gP ?_|refine CB (nQ d) ?_|refine CK rfl (nQ d) rfl ?_|refine CJ (F) ⟨⟨rfl,ax.enc_fz _⟩,⟨rfl,rfl⟩,trivial⟩ ?_)
 refine CH (ι:=Nat) (λi=>[(0,.F .box (gI h)),(2,.F .one [I ((c:Nat):Int)]),(42,.a7 0 6 [] none),(43,.F .one [I (h.H.length)]),(44,.F .one [I ((i:Nat):Int)])]) (λi=>i<=h.H.length/\∀j,j<i->qb h c j=false) (λi=>h.H.length - i) (0) ?_ (⟨C1 _,λj hj=>ω⟩) λi o=>?_
 ·exact wC
 obtain⟨hi1,H⟩:=o;by_cases J:i<h.H.length
 ·have n:=ar J
  by_cases W:(nth h.H i).Z=c
  ·have K:=DJ h (nth h.H i).R
   cases O:gS h (nth h.H i).R with
   | true=>
    rw[O]at K
    repeat'(first|refine gB ?_|refine CJ (K) ⟨⟨rfl,iS h⟩,⟨rfl,rfl⟩,trivial⟩ ?_)
    (refine CF (i+1) ⟨ω,lN (by unfold qb;rw[O];simp) H⟩ ω ?_;(exact wC))
   | false=>
    rw[O]at K;by_cases L:(gX h i).length=0
    ·have y:=B3 h [] i C J L
     repeat'(first|refine gB ?_|refine CJ (K) ⟨⟨rfl,iS h⟩,⟨rfl,rfl⟩,trivial⟩ ?_|refine Ch.pl ?_|refine CJ (y) ⟨iS h,⟨rfl,rfl⟩,trivial⟩ ?_)
     (refine CF (i+1) ⟨ω,lN (by unfold qb;rw[Z0 (by omega:¬0<(gX h i).length)];simp) H⟩ ω ?_;(exact wC))
    have y:=pW h [] i C J;unfold km at y;rw[CD L,O0 (by omega:0<(gX h i).length)]at y;have T:pH h c=some i:=wy J (by unfold qb;rw[O0 W,O,O0 ω];rfl) H;rw[T]at e;simp only at e;obtain⟨N,G⟩:=C.slotT J (by omega:0<(gX h i).length);have k:=lr.nn N G;rw[e];generalize slotT h i=g at y |-;generalize qL h i=a at y k |-;rw[O0 k]
    repeat'(first|refine gB ?_|refine CJ (K) ⟨⟨rfl,iS h⟩,⟨rfl,rfl⟩,trivial⟩ ?_|refine Ch.lt ?_)
    refine CL rfl rfl ?_;exact wC
  refine ZB ?_
  (refine CF (i+1) ⟨ω,lN (by unfold qb;rw[Z0 W];rfl) H⟩ ω ?_;(exact wC))
 obtain rfl:i=h.H.length:=ω
 have T:pH h c=none:=xc H;rw[T]at e;simp only at e;have l:=qQ h 1 C r ⟨ω,ω⟩;rw[N7]at l;rw[e];by_cases P:(aA h.a 1).2.2=false
 ·rw[CG P]at l |-
  refine ZE ?_
  refine CL rfl rfl ?_;exact wC
 rw[CD P]at l |-;by_cases Q:(dB h.K (aA h.a 1).2.1).2=false
 ·rw[CG Q]at l |-
  refine ZE ?_
  refine CL rfl rfl ?_;exact wC
 rw[CD Q]at l |-;obtain⟨X,Y⟩:=Hi C S r P Q;have D:=xG {h with K:=(dB h.K (aA h.a 1).2.1).1,a:=(aA h.a 1).1} (aA h.a 1).2.1 (c:Nat) (by show h.H.length<=4096;omega);have R:=pW (pX h c) [] (pD h) X Y;have U:=rN C E S r;rw[e,CD P,CD Q]at U;have k:decide (0<(gX (pX h c) (pD h)).length)=decide (0<=(km (pX h c) (pD h)).2):=by
  unfold km;by_cases L:(gX (pX h c) (pD h)).length=0
  ·rw[CG L,Z0 ω];rfl
  rw[CD L,O0 ω];obtain⟨N,G⟩:=X.slotT Y ω;exact(O0 (lr.nn N G)).symm
 rw[k]at R;change aR _ _ _ _ [.ptr (gI (pX h c)),_] _ [I ((pD h:Nat):Int)]at D;generalize (aA h.a 1).2.1=p at l D;generalize pX h c=g at D R |-;generalize pD h=b at D R |-;generalize ({h with K:=(dB h.K p).1,a:=(aA h.a 1).1} : ac)=h1 at l D
 refine ZE ?_
 refine CL rfl rfl ?_;exact wC
def Ja(h:ac)(t size:Int)(hs:ac.sml h)(l:cm h [])(P:ko h=true):∃E,xE (fp h t size).1 E/\zzA 17 false [.val (some 24) (ac.enc .O h),.val none [I t],.val none [I size]] (.tup [some 24,none,none]) (zb (fp h t size).1 E++[I (fp h t size).2.1,I (fp h t size).2.2]):=by
 have hl:=l.lens;have hlc:=hl.caches;have Q:=hl.objs;have u:=l.nums;unfold dU at u;rw[C0]at u;have R:=oB l.objSz h.X.length (I4 _);change 0<=oV h/\oV h<=_ at R;have q:=yD h hs;have p:=gh h hs;rw[P]at p;have r:=aO t 0 ((h.M.length:Int) - 1);have y:=aO size 1 1000;have F:=yQ h l.objSz ω;have G:=uW size;unfold fp;by_cases h1:1000000<=h.g
 ·rw[CG (.inl h1)]
  refine⟨_,xE.own _,?_⟩;change am _ _ _ _ _ (gI _++_);refine fP 108 [(65,[2,0,0]),(66,[2,0]),(67,[1,0,1])] [(8,6,[47,48,49,50,51,52])] Tryz.func17 rfl ?_ (.inr (aJ (lx _) ⟨trivial,trivial,trivial⟩))
  refine ZB ?_
  rfl
 by_cases h2:90000<h.K.Calls
 ·rw[CG (.inr h2)]
  refine⟨_,xE.own _,?_⟩;change am _ _ _ _ _ (gI _++_);refine fP 108 [(65,[2,0,0]),(66,[2,0]),(67,[1,0,1])] [(8,6,[47,48,49,50,51,52])] Tryz.func17 rfl ?_ (.inr (aJ (lx _) ⟨trivial,trivial,trivial⟩))
  repeat'(first|refine gB ?_|with_reducible refine Bf.D (λb=>?_) (λb=>?_))
  rfl
 rw[CD ω];by_cases C:¬(0<=t/\t<=h.M.length - 1)
 ·rw[CG C]
  rw[Z0 C]at r;refine⟨_,xE.own _,?_⟩;change am _ _ _ _ _ (gI _++_);refine fP 108 [(65,[2,0,0]),(66,[2,0]),(67,[1,0,1])] [(8,6,[47,48,49,50,51,52])] Tryz.func17 rfl ?_ (.inr (aJ (lx _) ⟨trivial,trivial,trivial⟩))
  repeat'(first|refine gB ?_|with_reducible refine Bf.D (λb=>?_) (λb=>?_))
  rfl
 rw[CD C];replace C:=Decidable.not_not.1 C;rw[O0 C]at r;by_cases B:¬(1<=size/\size<=1000)
 ·rw[CG B]
  rw[Z0 B]at y;refine⟨_,xE.own _,?_⟩;change am _ _ _ _ _ (gI _++_);refine fP 108 [(65,[2,0,0]),(66,[2,0]),(67,[1,0,1])] [(8,6,[47,48,49,50,51,52])] Tryz.func17 rfl ?_ (.inr (aJ (lx _) ⟨trivial,trivial,trivial⟩))
  repeat'(first|refine gB ?_|with_reducible refine Bf.D (λb=>?_) (λb=>?_))
  rfl
 rw[CD B];replace B:=Decidable.not_not.1 B;rw[O0 B]at y;by_cases h5:h.a9<oV h+size
 ·rw[CG h5]
  refine⟨_,xE.own _,?_⟩;change am _ _ _ _ _ (gI _++_);refine fP 108 [(65,[2,0,0]),(66,[2,0]),(67,[1,0,1])] [(8,6,[47,48,49,50,51,52])] Tryz.func17 rfl ?_ (.inr (aJ (lx _) ⟨trivial,trivial,trivial⟩))
  repeat'(first|refine gB ?_|with_reducible refine Bf.D (λb=>?_) (λb=>?_))
  rfl
 rw[CD h5];by_cases H:0<=bQ size
 ·rw[CG H]
  have hc3:bQ size<=3:=by unfold bQ;repeat' split<;>omega
  obtain⟨T,rfl⟩:=v4 C.1;obtain⟨K,hK⟩:=v4 H;obtain⟨E,n,d⟩:=AP h T K l ω ω ω;have s:=rN (t:=T) (c:=K) l ω ω ω;rw[hK]at G |-;simp only[t4];generalize en h T K=w at d s n |-;obtain⟨g,a⟩:=w;have e:g.g=h.g:=s.nx;simp only at d |-;by_cases J:a<0
  ·rw[CG J]
   rw[Z0 ω]at d;refine⟨E,n,?_⟩;refine fP 108 [(65,[2,0,0]),(66,[2,0]),(67,[1,0,1])] [(8,6,[47,48,49,50,51,52])] Tryz.func17 rfl ?_ (.inr (aJ (xU n.fr) ⟨trivial,trivial,trivial⟩))
   repeat'(first|refine gB ?_|with_reducible refine Bf.D (λb=>?_) (λb=>?_))
   rfl
  rw[CD J];rw[O0 ω]at d;obtain⟨k1,k2⟩:=s.yes (show(0:Int)<=a by omega);have S:g.X.length<=512:=k1.lens.objs;have U:1<=g.g/\g.g<=1000000:=ω
  refine⟨E,n,?_⟩;refine fP 108 [(65,[2,0,0]),(66,[2,0]),(67,[1,0,1])] [(8,6,[47,48,49,50,51,52])] Tryz.func17 rfl ?_ (.inr (aJ (xU n.fr) ⟨trivial,trivial,trivial⟩))
  repeat'(first|refine gB ?_|with_reducible refine Bf.D (λb=>?_) (λb=>?_))
  refine CH (ι:=Nat) (λi=>[(1,.F .one [I ((T:Nat):Int)]),(2,.F .one [I (size)]),(3,.F .box (ac.enc .O h)),(6,.F .box (uP)),(9,.F .box (zb g E)),(10,.F .one [I (a)]),(13,.F .one [I ((i:Nat):Int)])]) (λi=>i<=g.X.length/\∀(j:Nat)(z:bf),j<i->g.X[j]? = some z->Mz a z=false) (λi=>g.X.length - i) (0) ?_ (⟨C1 _,λj z hj=>ω⟩) λi l=>?_
  ·exact wC
  obtain⟨V,L⟩:=l;by_cases W:i<g.X.length/\(nth g.X i).Addr<a
  ·have k:=ar W.1
   refine ZE ?_
   (refine CF (i+1) ⟨ω,fC k (Z0 ω) L⟩ ω ?_;(exact wC))
  have o:j8 (Mz a) g.X=i:=mO ω L λz M=>by
   have X:=(Y3.1 M).1;have:z=nth g.X i:=(b6 M).symm;subst this;exact O0 ω
  have k:i<g.X.length->g.X[i]? = some (nth g.X i):=λY=>ar Y
  have Z:=A4 g.X i ⟨h.g,a,size,(T:Nat)⟩ ω ω;rw[show addO g a size (T:Nat) = {g with X:=g.X.take i++⟨g.g,a,size,(T:Nat)⟩::g.X.drop i,g:=g.g+1} by unfold addO;rw[nh o],e]
  repeat'(first|refine gE ?_|with_reducible (first|refine CB (aa (k ω)) ?_|refine Bf.D (λb=>?_) (λb=>?_))|refine CK rfl (aa (k ω)) rfl ?_)
  all_goals
   rw[e];rfl
 rw[CD H];have N:9<=size:=by unfold bQ at H;repeat' split at H<;>omega
 have d:=yt h size l ⟨N,B.2⟩ ω;rw[Do t l ⟨N,B.2⟩];have hg:(BF h size).1.g=h.g/\(BF h size).1.X=h.X:=by
  unfold BF;split
  ·exact⟨rfl,rfl⟩
  split<;>exact⟨rfl,rfl⟩
 generalize BF h size=w at d hg |-;obtain⟨g,a⟩:=w;obtain⟨e,O⟩:=hg;simp only at d e O |-;have S:g.X.length<=512:=by rw[O];exact Q
 have U:1<=g.g/\g.g<=1000000:=ω
 by_cases J:a<0
 ·rw[CG J]
  rw[Z0 ω]at d;refine⟨_,xE.own _,?_⟩;change am _ _ _ _ _ (gI _++_);refine fP 108 [(65,[2,0,0]),(66,[2,0]),(67,[1,0,1])] [(8,6,[47,48,49,50,51,52])] Tryz.func17 rfl ?_ (.inr (aJ (lx _) ⟨trivial,trivial,trivial⟩))
  repeat'(first|refine gB ?_|with_reducible refine Bf.D (λb=>?_) (λb=>?_))
  rfl
 rw[CD J];rw[O0 ω]at d;refine⟨_,xE.own _,?_⟩;change am _ _ _ _ _ (gI _++_);refine fP 108 [(65,[2,0,0]),(66,[2,0]),(67,[1,0,1])] [(8,6,[47,48,49,50,51,52])] Tryz.func17 rfl ?_ (.inr (aJ (lx _) ⟨trivial,trivial,trivial⟩))
 repeat'(first|refine gB ?_|with_reducible refine Bf.D (λb=>?_) (λb=>?_))
 refine CH (ι:=Nat) (λi=>[(1,.F .one [I (t)]),(2,.F .one [I (size)]),(3,.F .box (ac.enc .O h)),(6,.F .box (uP)),(9,.F .box (gI g)),(10,.F .one [I (a)]),(13,.F .one [I ((i:Nat):Int)])]) (λi=>i<=g.X.length/\∀(j:Nat)(z:bf),j<i->g.X[j]? = some z->Mz a z=false) (λi=>g.X.length - i) (0) ?_ (⟨C1 _,λj z hj=>ω⟩) λi l=>?_
 ·exact wC
 obtain⟨V,L⟩:=l;by_cases W:i<g.X.length/\(nth g.X i).Addr<a
 ·have k:=ar W.1
  refine ZE ?_
  (refine CF (i+1) ⟨ω,fC k (Z0 ω) L⟩ ω ?_;(exact wC))
 have o:j8 (Mz a) g.X=i:=mO ω L λz M=>by
  have X:=(Y3.1 M).1;have:z=nth g.X i:=(b6 M).symm;subst this;exact O0 ω
 have k:i<g.X.length->g.X[i]? = some (nth g.X i):=λY=>ar Y
 have Z:=A4 g.X i ⟨h.g,a,size,t⟩ ω ω;rw[show addO g a size t = {g with X:=g.X.take i++⟨g.g,a,size,t⟩::g.X.drop i,g:=g.g+1} by unfold addO;rw[nh o],e]
 repeat'(first|refine gE ?_|with_reducible (first|refine CB (aa (k ω)) ?_|refine Bf.D (λb=>?_) (λb=>?_))|refine CK rfl (aa (k ω)) rfl ?_)
 all_goals
  rw[e];rfl
def wT(h:ac)(t size:Int)(a:ac.sml h):∃b,xE (eQ h t size).1 b/\zzA 17 false [.val (some 24) (ac.enc .O h),.val none [I t],.val none [I size]] (.tup [some 24,none,none]) (zb (eQ h t size).1 b++[I (eQ h t size).2.1,I (eQ h t size).2.2]):=by
 unfold eQ;cases e:ec h with
 | true=>
  rw[CG rfl];exact Ja h t size a (cm.of e) (by rw[jd];exact e)
 | false=>
  rw[CD (by simp)];have d:=yD h a;have c:=gh h a;rw[jd,e]at c;refine⟨_,xE.own _,?_⟩;change am _ _ _ _ _ (gI _++_);refine fP 108 [(65,[2,0,0]),(66,[2,0]),(67,[1,0,1])] [(8,6,[47,48,49,50,51,52])] Tryz.func17 rfl ?_ (.inr (aJ (lx _) ⟨trivial,trivial,trivial⟩))
  refine ZP ?_
  rfl
def HB(h:ac)(t n:Int)(y:ac.sml h)(D:ac.wf h):∃i,xE (mR h t n).1 i/\zzA 27 false [.val (some 24) (ac.enc .O h),.val none [I t],.val none [I n]] (.tup [some 24,none,none]) (zb (mR h t n).1 i++[I (mR h t n).2.1,I (mR h t n).2.2]):=by
 obtain⟨i,d,j⟩:=wT h t n y;obtain⟨l,o⟩:=oY y D t n;unfold mR;generalize eQ h t n=r at *;obtain⟨g,a,c⟩:=r;simp only at j l o |-;by_cases e:c=4
 ·subst e
  rw[CG rfl];have B:=Pb g 3 l o;have C:=wX (m:=3) l o;generalize relieve g 3=q at *;obtain⟨p,k⟩:=q;simp only at B C |-;obtain⟨cc2,b,E⟩:=wT p t n C;generalize eQ p t n=r2 at *;have u:=FM d.ok;have w:=mP p;refine⟨cc2,b,?_⟩;refine fO 37 [] Tryz.func27 rfl ?_ (.inr (aJ (xU b.fr) ⟨trivial,trivial,trivial⟩))
  repeat'(first|refine gB ?_|refine CJ (B) ⟨⟨rfl,u⟩,⟨rfl,rfl⟩,trivial⟩ ?_|refine CJ (E) ⟨⟨rfl,w⟩,⟨rfl,rfl⟩,⟨rfl,rfl⟩,trivial⟩ ?_)
  rfl
 rw[CD e];refine⟨i,d,?_⟩;refine fO 37 [] Tryz.func27 rfl ?_ (.inr (aJ (xU d.fr) ⟨trivial,trivial,trivial⟩))
 refine ZB ?_
 rfl
def VE(h:ac):oF h=.s .own (h.a.map (ay.enc .own))\/oF h=.s .O []:=by rcases Q8 (rows:=h.a.map (ay.enc .own)) with e|⟨b,a⟩;exact .inl e;exact .inr a
def qS(k:Int):zzB 158 false [.mut none [.s .O []],.val none [I k]] [.mut none [.s .O []],.val none []] .one [I (k+(bL []:Nat))]:=by
 refine fM 27 [] [] [(0,0),(0,0)] Tryz.func158 rfl (λu p=>?_)
 refine ZP ?_
 refine CH (ι:=Unit) (λ_=>[(0,.F .one [.s .O []]),(1,.F .one [I k]),(5,.F .one [I 0])]) (λ_=>True) (λ_=>0) () ?_ trivial λ_ _=>?_
 ·exact wC
 repeat'(first|refine gE ?_|refine CQ (show List.length []=0 from rfl) ?_)
 refine CL rfl ?_ ?_
 ·exact I1 (λz=>[I z]) (by simp[bL])
 exact wC
def ET(k:Int):zzB 321 false [.mut none [.s .O []],.val none [I k]] [.mut none [.s .O []],.val none []] .one [I (k+(er []:Nat))]:=by
 refine fM 19 [] [] [(0,0),(0,0)] Tryz.func321 rfl (λu p=>?_)
 refine ZP ?_
 refine CH (ι:=Unit) (λ_=>[(0,.F .one [.s .O []]),(1,.F .one [I k]),(5,.F .one [I 0])]) (λ_=>True) (λ_=>0) () ?_ trivial λ_ _=>?_
 ·exact wC
 repeat'(first|refine gE ?_|refine CQ (show List.length []=0 from rfl) ?_)
 refine CL rfl ?_ ?_
 ·exact I1 (λz=>[I z]) (by simp[er])
 exact wC
def J4(x:List (List Int))(c:Nat)(r:x[c]? = some [])(k:Int)(q:j7 x)(B:0<=k)(D:k+(de x:Nat)<=1099511627776):zzB 322 false [.mut none [.s .own ((x.map (aH .own)).set c [.s .O []])],.val none [I k]] [.mut none [.s .own (((markIntSS x k).map (aH .own)).set c [.s .O []])],.val none []] .one [I (k+(de x:Nat))]:=by
 have E:x.length<=1048576:=q.1;have a:(((markIntSS x k).map (aH .own)).set c [.s .O []]).length=((x.map (aH .own)).set c [.s .O []]).length:=by simp[iB]
 refine fM 19 [(321,[1,0])] [] [(0,0),(0,0)] Tryz.func322 rfl (λu p=>?_)
 refine ZP ?_
 refine CH (ι:=Nat) (λi=>[(0,.F .one [.s (.tag (u 0 0)) (gM (((markIntSS x k).map (aH .own)).set c [.s .O []]) ((x.map (aH .own)).set c [.s .O []]) i)]),(1,.F .one [I (k+(dI x i:Nat))]),(5,.F .one [I (i:Nat)])]) (λi=>i<=x.length) (λi=>x.length - i) 0 ?_ (C1 _) λi F=>?_
 ·rw[cj,kb]
  repeat'(first|exact trivial|rfl|exact CC rfl (CC (I1 I ω) trivial)|refine CC ?_ ?_)
 have g:=(gR a i).trans (show((x.map (aH .own)).set c [.s .O []]).length=x.length by simp);by_cases j:i<x.length
 ·obtain⟨y,h⟩ : ∃y,x[i]? = some y:=⟨_,X3 j⟩
  have b:=cW a i (by simp;omega);have t:=iL x k i y h;have l:=jW x i y h;have n:=nk x (i+1);rw[l]at n;by_cases e:i=c
  ·subst e
   obtain rfl:[]=y:=Option.some.inj (r.symm.trans h);have d:(((markIntSS x k).map (aH .own)).set i [.s .O []])[i]? = some [.s .O []]:=t5 (by rw[Z1,iB];omega);rw[t5 (by rw[Z1];omega)]at b
   repeat'(first|refine gE ?_|with_reducible (first|refine CQ g ?_|refine CB b ?_)|refine CK rfl b rfl ?_|refine Lq.one rfl rfl b rfl (I4 _) rfl rfl ?_|refine CI (ET _) (.inl rfl) ?_|refine CN rfl rfl (bo b) rfl (I4 _) rfl ?_|refine CB (bo b) ?_|refine CF (i+1) ω ω ?_)
   repeat'(first|exact trivial|rfl|exact CC rfl (CC (I1 (C.s _) (by first|exact bE a d|exact(zD b).symm.trans (bE a d)|(simp only[List.set_set];exact bE a d))) trivial)|exact CC rfl (CC (I1 I ω) trivial)|refine CC ?_ ?_)
  have d:(((markIntSS x k).map (aH .own)).set c [.s .O []])[i]? = some (aH .own (markIntS y (k+(dI x i:Nat)))):=(List.getElem?_set_ne (λo=>e o.symm)).trans (aa t);rw[List.getElem?_set_ne (λo=>e o.symm),aa h]at b
  repeat'(first|refine gE ?_|with_reducible (first|refine CQ g ?_|refine CB b ?_)|refine CK rfl b rfl ?_|refine Lq.one rfl rfl b rfl (I4 _) rfl rfl ?_|refine CI (mQ y _ (q.2 y (I3 h)) ω ω) (.inl rfl) ?_|refine CN rfl rfl (bo b) rfl (I4 _) rfl ?_|refine CB (bo b) ?_|refine CF (i+1) ω ω ?_)
  repeat'(first|exact trivial|rfl|exact CC rfl (CC (I1 (C.s _) (by first|exact bE a d|(simp only[List.set_set];exact bE a d))) trivial)|exact CC rfl (CC (I1 I ω) trivial)|refine CC ?_ ?_)
 repeat'(first|refine gE ?_|with_reducible refine CQ g ?_|refine CL rfl ?_ ?_)
 ·have w:i=x.length:=ω
  subst w;exact I1 (λz=>[I z]) (by rw[lz])
 rw[cY _ a (by simp;omega)]
 repeat'(first|exact trivial|exact rfl|refine CC ?_ ?_)
def E4(x:List ax)(t c:Nat)(E:t<x.length)(B:(nth x t).T[c]? = some [])(k:Int)(n:iX x)(F:0<=k)(G:k+(bW x:Nat)<=1099511627776):zzB 162 false [.mut none [.s .own ((x.map (ax.enc .own)).set t [.s .own (((nth x t).T.map (aH .own)).set c [.s .O []])])],.val none [I k]] [.mut none [.s .own (((b9 x k).map (ax.enc .own)).set t [.s .own (((nth (b9 x k) t).T.map (aH .own)).set c [.s .O []])])],.val none []] .one [I (k+(bW x:Nat))]:=by
 have H:x.length<=1048576:=n.1;have a:(((b9 x k).map (ax.enc .own)).set t [.s .own (((nth (b9 x k) t).T.map (aH .own)).set c [.s .O []])]).length=((x.map (ax.enc .own)).set t [.s .own (((nth x t).T.map (aH .own)).set c [.s .O []])]).length:=by simp[fy]
 refine fM 20 [(322,[1,0])] [] [(0,0),(0,0)] Tryz.func162 rfl (λu p=>?_)
 refine ZP ?_
 refine CH (ι:=Nat) (λi=>[(0,.F .one [.s (.tag (u 0 0)) (gM (((b9 x k).map (ax.enc .own)).set t [.s .own (((nth (b9 x k) t).T.map (aH .own)).set c [.s .O []])]) ((x.map (ax.enc .own)).set t [.s .own (((nth x t).T.map (aH .own)).set c [.s .O []])]) i)]),(1,.F .one [I (k+(bX x i:Nat))]),(5,.F .one [I (i:Nat)])]) (λi=>i<=x.length) (λi=>x.length - i) 0 ?_ (C1 _) λi J=>?_
 ·rw[cj,iO]
  repeat'(first|exact trivial|rfl|exact CC rfl (CC (I1 I ω) trivial)|refine CC ?_ ?_)
 have d:=(gR a i).trans (show((x.map (ax.enc .own)).set t [.s .own (((nth x t).T.map (aH .own)).set c [.s .O []])]).length=x.length by simp);by_cases o:i<x.length
 ·obtain⟨y,l⟩ : ∃y,x[i]? = some y:=⟨_,X3 o⟩
  have b:=cW a i (by simp;omega);have w:=gu x k i y l;have h:=iR x i y l;have j:=ka x (i+1);rw[h]at j;by_cases e:i=t
  ·subst e
   obtain rfl:nth x i=y:=b6 l;have q:nth (b9 x k) i=ax.mark (nth x i) (k+(bX x i:Nat)):=b6 w;have g:(((b9 x k).map (ax.enc .own)).set i [.s .own (((nth (b9 x k) i).T.map (aH .own)).set c [.s .O []])])[i]? = some [.s .own (((markIntSS (nth x i).T (k+(bX x i:Nat))).map (aH .own)).set c [.s .O []])]:=by rw[q];exact t5 (by rw[Z1,fy];omega)
   rw[t5 (by rw[Z1];omega)]at b
   repeat'(first|refine gE ?_|with_reducible (first|refine CQ d ?_|refine CB b ?_)|refine CK rfl b rfl ?_|refine Lq.one rfl rfl b rfl (I4 _) rfl rfl ?_|refine CI (J4 (nth x i).T c B _ (n.2 _ (I3 l)) ω (by simp only[ax.cnt]at j;omega)) (.inl rfl) ?_|refine CN rfl rfl (bo b) rfl (I4 _) rfl ?_|refine CB (bo b) ?_|refine CF (i+1) ω ω ?_)
   repeat'(first|exact trivial|rfl|exact CC rfl (CC (I1 (C.s _) (by first|exact bE a g|(simp only[List.set_set];exact bE a g))) trivial)|exact CC rfl (CC (I1 I (by first|omega|(simp only[ax.cnt]at h;omega))) trivial)|refine CC ?_ ?_)
  have g:(((b9 x k).map (ax.enc .own)).set t [.s .own (((nth (b9 x k) t).T.map (aH .own)).set c [.s .O []])])[i]? = some (ax.enc .own (ax.mark y (k+(bX x i:Nat)))):=(List.getElem?_set_ne (λr=>e r.symm)).trans (aa w);rw[List.getElem?_set_ne (λr=>e r.symm),aa l]at b
  repeat'(first|refine gE ?_|with_reducible (first|refine CQ d ?_|refine CB b ?_)|refine CK rfl b rfl ?_|refine Lq.one rfl rfl b rfl (I4 _) rfl rfl ?_|refine CI (lF y.T _ (n.2 y (I3 l)) ω (by simp only[ax.cnt]at j;omega)) (.inl rfl) ?_|refine CN rfl rfl (bo b) rfl (I4 _) rfl ?_|refine CB (bo b) ?_|refine CF (i+1) ω ω ?_)
  repeat'(first|exact trivial|rfl|exact CC rfl (CC (I1 (C.s _) (by first|exact bE a g|(simp only[List.set_set];exact bE a g))) trivial)|exact CC rfl (CC (I1 I (by first|omega|(simp only[ax.cnt]at h;omega))) trivial)|refine CC ?_ ?_)
 repeat'(first|refine gE ?_|with_reducible refine CQ d ?_|refine CL rfl ?_ ?_)
 ·have D:i=x.length:=ω
  subst D;exact I1 (λz=>[I z]) (by rw[jy])
 rw[cY _ a (by simp;omega)]
 repeat'(first|exact trivial|exact rfl|refine CC ?_ ?_)
def Ld(x:ac)(B:C)(d:xE x B)(k:Int)(D:ac.sml x)(F:0<=k)(E:k+(ac.cnt x:Nat)<=1099511627776):∃a,xE (x.mark k) a/\zzB 50 false [.mut (some 24) (zb x B),.val none [I k]] [.mut (some 24) (zb (x.mark k) a),.val none []] .one [I (k+(ac.cnt x:Nat))]:=by
 obtain⟨g,h,i,j,l,n,o,q,r⟩:=D;obtain⟨xK,xF,xS,xL,xO,xC,xM,xQ,G,H,J,K,L,xJ⟩:=x;simp only[ac.cnt]at E;simp only at g h i j l n o q r;rcases d with e|⟨t,c,b,w,e⟩
 ·subst e
  refine⟨_,xE.own _,?_⟩;rcases xF with _|⟨y,xF⟩
  all_goals
   refine fM 42 [(165,[1,0]),(157,[1,0]),(163,[1,0]),(164,[1,0]),(162,[1,0]),(160,[1,0]),(161,[1,0]),(158,[1,0]),(159,[1,0])] [] [(2,0),(0,0)] Tryz.func50 rfl (λu p=>?_)
   repeat'(first|refine gP ?_|refine CI (nq xK _ g ω ω) (.inl rfl) ?_|refine CI (qS _) (.inl rfl) ?_|refine CI (n9 (y::xF) _ h ω ω) (.inl rfl) ?_|refine CI (oT xS _ i ω ω) (.inl rfl) ?_|refine CI (nB xL _ j ω ω) (.inl rfl) ?_|refine CI (qw xO _ l ω ω) (.inl rfl) ?_|refine CI (sA xC _ n ω ω) (.inl rfl) ?_|refine CI (qY xM _ o ω ω) (.inl rfl) ?_|refine CI (rn xQ _ q ω ω) (.inl rfl) ?_|refine CI (tn xJ _ r ω ω) (.inl rfl) ?_|refine CL rfl ?_ ?_)
   ·exact I1 (λz=>[I z]) (by simp only[ac.cnt];omega)
   repeat'(first|exact trivial|exact rfl|refine CC ?_ ?_)
 subst e;simp only at b w;refine⟨_,.inr ⟨t,c,?_,?_,rfl⟩,?_⟩
 ·show t<(b9 xC _).length
  rw[fy];exact b
 ·show(nth (b9 xC _) t).T[c]? = some []
  rw[b6 (gu xC _ t _ (ar b))];exact iL _ _ c [] w
 rcases xF with _|⟨y,xF⟩
 all_goals
  refine fM 42 [(165,[1,0]),(157,[1,0]),(163,[1,0]),(164,[1,0]),(162,[1,0]),(160,[1,0]),(161,[1,0]),(158,[1,0]),(159,[1,0])] [] [(2,0),(0,0)] Tryz.func50 rfl (λu p=>?_)
  repeat'(first|refine gP ?_|refine CI (nq xK _ g ω ω) (.inl rfl) ?_|refine CI (qS _) (.inl rfl) ?_|refine CI (n9 (y::xF) _ h ω ω) (.inl rfl) ?_|refine CI (oT xS _ i ω ω) (.inl rfl) ?_|refine CI (nB xL _ j ω ω) (.inl rfl) ?_|refine CI (qw xO _ l ω ω) (.inl rfl) ?_|refine CI (E4 xC t c b w _ n ω ω) (.inl rfl) ?_|refine CI (qY xM _ o ω ω) (.inl rfl) ?_|refine CI (rn xQ _ q ω ω) (.inl rfl) ?_|refine CI (tn xJ _ r ω ω) (.inl rfl) ?_|refine CL rfl ?_ ?_)
  ·exact I1 (λz=>[I z]) (by simp only[ac.cnt];omega)
  repeat'(first|exact trivial|exact rfl|refine CC ?_ ?_)
def cP(h:ac)(f:C)(R:List (List C)):List C:=((gI h).set 5 f).set 9 (.s .own R)
def RC(b:ac.sml h)(g:ac.wf h)(i:ac.cnt h<=8388608)(t n:Int):ac.sml (mR h t n).1/\ac.cnt (mR h t n).1<=20000000:=by
 cases e:ec h with
 | false=>
  have j:eQ h t n=(h,-1,5):=by unfold eQ;rw[e];rfl
  unfold mR;rw[j,CD (show ¬(5:Int)=4 by decide)];exact⟨b,by show ac.cnt h<=_;omega⟩
 | true=>
  have f:FT h.e h:=⟨b,g,(cm.of e).lens,rfl⟩
  have c:aM.cnt h.e<=8388608:=by unfold ac.cnt at i;omega
  have a:=f.alloc t n;unfold mR;split
  ·have d:=(a.rel 3).alloc t n
   exact⟨d.sml,d.cnt c⟩
  exact⟨a.sml,a.cnt c⟩
def AllocHard_law(h:ac)(t n:Int)(j:ac.wf h):zzA 12 false [.val (some 24) (ac.enc .O h),.val none [I t],.val none [I n]] .one [B true]:=by
 by_cases C:(ac.sz h:Int)<=1048576
 ·have i:=ac.sml_of (x:=h) ω
  have E:=ac.cnt_le h;obtain⟨ds,u⟩:=RC i j ω t n;have l:=yg h t n i j;obtain⟨y,b,k⟩:=HB h t n i j;generalize mR h t n=d at ds u l k b;obtain⟨d,a,c⟩:=d;simp only at ds u l k b;obtain⟨F,o,p⟩:=Ld d y b 1 ds ω ω;have g:=FM b.ok;have q:=FM o.ok;obtain⟨R,rfl⟩:=b.rows;have r:zb d (.s .own R)=cP d (oF d) R:=rfl;rw[r]at p g k;rcases VE d with w|w
  all_goals
   rw[w]at p g k;refine fP 127 [(50,[1,0])] [(10,3,[59,60,61])] Tryz.func12 rfl ?_
   repeat'(first|refine gE ?_|with_reducible (first|refine Bf.D (λe=>?_) (λe=>absurd rfl e)|refine Bf.N (λe=>absurd rfl e) (λe=>?_))|refine CV (Dy h _ ω ω j) (λe=>absurd e ω) (λe=>?_)|refine CA (Nu h i) ?_|refine CJ (l) ⟨⟨rfl,ac.enc_fz h⟩,⟨rfl,rfl⟩,⟨rfl,rfl⟩,trivial⟩ ?_|refine CJ (k) ⟨⟨rfl,ac.enc_fz h⟩,⟨rfl,rfl⟩,⟨rfl,rfl⟩,trivial⟩ ?_|refine CJ (DZ d d ds) ⟨⟨rfl,g⟩,⟨rfl,ac.enc_fz d⟩,trivial⟩ ?_|refine CJ (DZ h h i) ⟨⟨rfl,ac.enc_fz h⟩,⟨rfl,ac.enc_fz h⟩,trivial⟩ ?_|refine CI (Gp h 1 i ω ω) (.inl rfl) ?_|refine CJ (Jk d 1 ds ω ω) ⟨⟨rfl,q⟩,⟨rfl,rfl⟩,trivial⟩ ?_)
   all_goals rfl
 refine fP 127 [(50,[1,0])] [(10,3,[59,60,61])] Tryz.func12 rfl ?_
 repeat'(first|refine gE ?_|refine CV (Dy h _ ω ω j) (λe=>?_) (λe=>absurd e ω))
 rfl
open Go.RowKit Go.ChangeShapes Go.WideShapes Go.Deep
def ALL(w:World):ah:=λb _=>b<w.heap.size
def qe{H:Type}(e:TypeId × Value->H)(P:Program)(w:World)(t n:Nat){α:Type}(enc:α->List C)(c:α->Prop):Prop:=
 ∀(fuel:Nat)(b:List Value)(x:DataW H × List MemPlace),DataW.trod e P w 0 (λ_=>true) true fuel t b=some x->b.length=n/\∃a,c a/\(enc a).length=n/\cy w (ALL w) NO (enc a) (λj=>b.getD j undef)
section
variable{H:Type}{e:TypeId × Value->H}{P:Program}{w:World}
variable{u:Nat->Value}
def row_one{S F:ah}{c:C}(h:ef w S F c (u 0)):cy w S F [c] u:=
 ⟨λ_=>F,λj e a=>by cases j with
   | zero=>simp at a;subst a;exact h
   | succ j=>simp at a,λ_ _ _ _ h=>h,λj f a b d=>by simp at a b;omega⟩
variable{t:Nat}
def Ve(b:P.underlying t=some (.int .i64)):qe e P w t 1 (rI .O) oh:=by
 intro fuel c x h;obtain⟨n,rfl,-,a⟩:=DataW.trod_int b h;refine⟨rfl,n,?_,rfl,row_one (.v _ _ rfl)⟩;unfold oh;simp only[Lit.wf,I0,C0]at a;exact a
def Tz(a:P.underlying t=some .bool):qe e P w t 1 (rB .O) WE:=by
 intro fuel c x h;obtain⟨b,rfl,-⟩:=DataW.trod_bool a h;exact⟨rfl,b,trivial,rfl,row_one (.v _ _ rfl)⟩
variable{α:Type}
def pick{β:Type}(n:Nat){Q:Nat->β->Prop}(h:∀i,i<n->∃b,Q i b):∃l:List β,l.length=n/\∀i b,l[i]? = some b->Q i b:=by
 induction n with
 | zero=>exact⟨[],rfl,λi b h=>by simp at h⟩
 | succ n c=>
  obtain⟨l,d,e⟩:=c λi a=>h i ω
  obtain⟨b,f⟩:=h n ω;refine⟨l++[b],by simp[d],λi g a=>?_⟩;by_cases j:i<n
  ·rw[C6 ω]at a;exact e i g a
  rw[I6 ω]at a;have:i - l.length=0:=by
   have:=(Y3.1 a).1;simp at this;omega
  rw[this]at a;simp at a;subst a;rw[show i=n by omega];exact f
variable{n:Nat}
theorem gv{T:Nat}{enc:α->List C}{U:α->Prop}(V:qe e P w T n enc U)(ht:P.underlying t=some (.slice T))(hn:P.cellsOf T=n)(p:0<n) :
  qe e P w t 1 (λxs:List α=>[.s .O (xs.map enc)]) (λxs=>xs.length<=9223372036854775807/\∀y∈xs,U y):=by
 intro fuel cs x h;rcases open_slice ht h with⟨rfl,-⟩|⟨k,len,cap,m,n',D,Pl,rfl,-,hl,hm,K,-,u⟩
 ·exact⟨rfl,[],⟨by simp,by simp⟩,rfl,row_one (.nil _ _ _ trivial)⟩
 simp only[if_true]at K;subst K;have L:0<m->k.spot=none:=λW=>by
  obtain⟨E,M,N⟩:=u 0 W;rw[hn]at M;obtain⟨_,X,F⟩:=World.cells?_some M;have:=F 0 p;rw[X3 ω]at this;have:=World.cell?_spot this;simpa[Addr.add] using this
 have key:∀i,i<len->∃a,U a/\(enc a).length=n/\(∀d,d<n->∃z,cel w k.block (k.off+(i*n+d))=some z)/\k.spot=none/\cy w (ALL w) NO (enc a) (λd=>(cel w k.block (k.off+(i*n+d))).getD undef):=λi hil=>by
  have g:=L ω;obtain⟨E,M,N⟩:=u i ω;rw[hn]at M;obtain⟨h1,a,h3,h4,h5⟩:=V _ _ _ N;obtain⟨_,X,F⟩:=World.cells?_some M;have O:∀d,k.add d = ⟨k.block,k.off+d,none⟩:=λd=>by
   obtain⟨b,o,sp⟩:=k;simp only at g;subst g;unfold Addr.add;split<;>simp_all
  have A:∀d,d<n->cel w k.block (k.off+(i*n+d))=E[d]?:=λd J=>by
   have:=F d J;rw[Go.Deep.add_add,O]at this;exact this
  refine⟨a,h3,h4,λd J=>⟨_,by rw[A d J,X3 ω]⟩,g,h5.congr λd J=>?_⟩;show(cel w k.block (k.off+(i*n+d))).getD undef=E.getD d undef;rw[A d ω,List.getD]
 obtain⟨l,Q,B⟩:=pick len key;refine⟨rfl,l,⟨by simp only[maxLen]at hm;omega,λy R=>?_⟩,rfl,row_one ?_⟩
 ·obtain⟨i,G⟩:=List.mem_iff_getElem?.1 R
  exact(B i y G).1
 show ef w (ALL w) NO (.s .O (l.map enc)) (.slice (some k) len m);by_cases h0:len=0
 ·subst h0
  have:l=[]:=S9 Q;subst this;by_cases Y:m=0
  ·subst Y;exact .nil _ _ _ trivial
  have g:=L ω;obtain⟨b,o,sp⟩:=k;simp only at g;subst g;exact .O _ b o n 0 m [] (λ_=>undef) rfl (λr Z=>by simp at Z) hl (λq hq=>by simp at hq) (λi j r c u=>by simp at u)
 obtain⟨y0,hy0⟩ : ∃y,l[0]? = some y:=⟨_,X3 ω⟩
 have g:=(B 0 y0 hy0).2.2.2.1;obtain⟨b,o,sp⟩:=k;simp only at g;subst g;refine .O _ b o n len m (l.map enc) (λq=>(cel w b (o+q)).getD undef) (by simpa using Q) (λr Z=>?_) hl (λq hq=>?_) (λi j r c u hj=>?_)
 ·obtain⟨y,R,rfl⟩:=Y5.1 Z
  obtain⟨i,G⟩:=List.mem_iff_getElem?.1 R;exact(B i y G).2.1
 ·have hqd:q / n<len:=(Nat.div_lt_iff_lt_mul p).2 hq
  obtain⟨y,R⟩ : ∃y,l[q / n]? = some y:=⟨_,X3 ω⟩
  obtain⟨z,S⟩:=(B _ y R).2.2.1 (q % n) (Nat.mod_lt _ p);have J:q / n*n+q % n=q:=by rw[Nat.mul_comm];exact Nat.div_add_mod q n
  rw[J]at S;exact⟨Vo S,by simp only at S |-;rw[S];rfl⟩
 rw[O4]at u;cases H:l[i]? with
 | none=>rw[H]at u;cases u
 | some y=>
  rw[H]at u;simp only[I7,O1]at u;subst u;obtain⟨f,h1,h2,-⟩:=(B i y H).2.2.2.2;have hjl:=(Y3.1 hj).1;exact(h1 j c hj).mono (λ_ _ h=>h) (h2 j hjl)
variable{cs:List Value}
def bn{fs:Array Field}{fuel:Nat}{x:DataW H × List MemPlace}(l:P.underlying t=some (.struct fs))(h:DataW.trod e P w 0 (λ_=>true) true fuel t cs=some x)(i:Nat)(f:Field)(d:fs[i]? = some f){enc:α->List C}{g:α->Prop}(o:qe e P w f.type n enc g)(p:P.cellsOf f.type=n):∃a,g a/\(enc a).length=n/\cy w (ALL w) NO (enc a) (λj=>cs.getD (f.offset+j) undef):=by
 obtain⟨B,D,q,E,k,r,b⟩:=DataW.trod_struct l h;have c:=b i f d;have F:=(Z4.1 d).1;rw[X3 ω]at c;rw[p]at c;obtain⟨G,a,u,y,A⟩:=o _ _ _ c;refine⟨a,u,y,A.congr λj J=>?_⟩;simp only[List.getD];rw[List.getElem?_take_of_lt ω,List.getElem?_drop]
def cI{a b:List C}{o:Nat}(d:cy w (ALL w) NO a (λj=>cs.getD (o+j) undef))(e:cy w (ALL w) NO b (λj=>cs.getD (o+a.length+j) undef)):cy w (ALL w) NO (a++b) (λj=>cs.getD (o+j) undef):=by
 refine((yX d e λ_ _ h=>h.elim).mono (λ_ _ h=>h) (λ_ _ h=>h.elim id id)).congr λj f=>?_
 by_cases c:j<a.length
 ·rw[CG c]
 rw[CD c];show cs.getD (o+j) undef=cs.getD (o+a.length+(j - a.length)) undef
 congr 1;omega
def valOk_agg{S:ah}{cs:Array Value}{xs:List C}(a:cs.toList.length=n)(b:xs.length=n)(c:cy w S NO xs (λj=>cs.toList.getD j undef)):bw w S NO (some n) xs (.agg cs):=by
 refine⟨b,_,?_,c⟩;have:=oU cs;rw[show cs.size=n by simpa using a]at this;exact this
def row_val{S F:ah}{x:Value}(h:cy w S F [.v x] u):u 0=x:=by
 obtain⟨f,a,-⟩:=h;have:=a 0 _ rfl;cases this
 rfl
end
set_option maxHeartbeats 1000000
section
variable{H:Type}{e:TypeId × Value->H}{w:World}
def d9:qe e Tryz.prog w 3 1 (rI .O) oh:=Ve Tryz.underlying3
def M9:qe e Tryz.prog w 4 1 (rB .O) WE:=Tz Tryz.underlying4
def Fc:qe e Tryz.prog w 33 1 (aH .O) fE:=gv d9 Tryz.underlying33 (by kernel_rfl) (by decide)
def y2:qe e Tryz.prog w 24 1 (dX .O) uJ:=gv Fc Tryz.underlying24 (by kernel_rfl) (by decide)
def Q0:qe e Tryz.prog w 25 1 (fX .O) EK:=gv M9 Tryz.underlying25 (by kernel_rfl) (by decide)
def JF:qe e Tryz.prog w 97 2 (aF.enc .O) aF.wf:=by
 intro fuel c x h;obtain⟨k,l,-,-,a,-⟩:=DataW.trod_struct Tryz.underlying97 h;obtain⟨d,w0,n,f⟩:=bn Tryz.underlying97 h 0 _ rfl y2 (by kernel_rfl);obtain⟨g,w1,o,i⟩:=bn Tryz.underlying97 h 1 _ rfl Q0 (by kernel_rfl);have b:=(cI f i)
 exact⟨a.trans (by kernel_rfl),⟨d,g⟩,⟨w0,w1⟩,rfl,b.congr λj _=>by show c.getD j undef=c.getD (0+j) undef;rw[z9]⟩
def ND:qe e Tryz.prog w 515 2 (aN.enc .O) aN.wf:=by
 intro fuel c x h;obtain⟨k,l,-,-,a,-⟩:=DataW.trod_struct Tryz.underlying515 h;obtain⟨d,w0,n,f⟩:=bn Tryz.underlying515 h 0 _ rfl d9 (by kernel_rfl);obtain⟨g,w1,o,i⟩:=bn Tryz.underlying515 h 1 _ rfl d9 (by kernel_rfl);have b:=(cI f i)
 exact⟨a.trans (by kernel_rfl),⟨d,g⟩,⟨w0,w1⟩,rfl,b.congr λj _=>by show c.getD j undef=c.getD (0+j) undef;rw[z9]⟩
def KE:qe e Tryz.prog w 98 1 (eO .O) vR:=gv ND Tryz.underlying98 (by kernel_rfl) (by decide)
def MS:qe e Tryz.prog w 100 1 (aG.enc .O) aG.wf:=by
 intro fuel c x h;obtain⟨g,i,-,-,a,-⟩:=DataW.trod_struct Tryz.underlying100 h;obtain⟨d,w0,k,f⟩:=bn Tryz.underlying100 h 0 _ rfl KE (by kernel_rfl);have b:=f;exact⟨a.trans (by kernel_rfl),⟨d⟩,w0,rfl,b.congr λj _=>by show c.getD j undef=c.getD (0+j) undef;rw[z9]⟩
def G7:qe e Tryz.prog w 102 3 (aD.enc .O) aD.wf:=by
 intro fuel c x h;obtain⟨k,l,-,-,a,-⟩:=DataW.trod_struct Tryz.underlying102 h;obtain⟨d,w0,n,f⟩:=bn Tryz.underlying102 h 0 _ rfl JF (by kernel_rfl);obtain⟨g,w1,o,i⟩:=bn Tryz.underlying102 h 1 _ rfl MS (by kernel_rfl);have b:=(cI f i)
 exact⟨a.trans (by kernel_rfl),⟨d,g⟩,⟨w0,w1⟩,rfl,b.congr λj _=>by show c.getD j undef=c.getD (0+j) undef;rw[z9]⟩
def K6:qe e Tryz.prog w 104 5 (af.enc .O) af.wf:=by
 intro fuel c x h;obtain⟨o,p,-,-,a,-⟩:=DataW.trod_struct Tryz.underlying104 h;obtain⟨d,w0,q,f⟩:=bn Tryz.underlying104 h 0 _ rfl G7 (by kernel_rfl);obtain⟨g,w1,r,i⟩:=bn Tryz.underlying104 h 1 _ rfl d9 (by kernel_rfl);obtain⟨k,l,u,n⟩:=bn Tryz.underlying104 h 2 _ rfl Fc (by kernel_rfl);have b:=(cI f (cI i n))
 exact⟨a.trans (by kernel_rfl),⟨d,g,k⟩,⟨w0,w1,l⟩,rfl,b.congr λj _=>by show c.getD j undef=c.getD (0+j) undef;rw[z9]⟩
def NX:qe e Tryz.prog w 343 2 (ay.enc .O) ay.wf:=by
 intro fuel c x h;obtain⟨k,l,-,-,a,-⟩:=DataW.trod_struct Tryz.underlying343 h;obtain⟨d,w0,n,f⟩:=bn Tryz.underlying343 h 0 _ rfl d9 (by kernel_rfl);obtain⟨g,w1,o,i⟩:=bn Tryz.underlying343 h 1 _ rfl d9 (by kernel_rfl);have b:=(cI f i)
 exact⟨a.trans (by kernel_rfl),⟨d,g⟩,⟨w0,w1⟩,rfl,b.congr λj _=>by show c.getD j undef=c.getD (0+j) undef;rw[z9]⟩
def Kj:qe e Tryz.prog w 105 1 (aU .O) vT:=gv NX Tryz.underlying105 (by kernel_rfl) (by decide)
def QC:qe e Tryz.prog w 345 3 (au.enc .O) au.wf:=by
 intro fuel c x h;obtain⟨o,p,-,-,a,-⟩:=DataW.trod_struct Tryz.underlying345 h;obtain⟨d,w0,q,f⟩:=bn Tryz.underlying345 h 0 _ rfl d9 (by kernel_rfl);obtain⟨g,w1,r,i⟩:=bn Tryz.underlying345 h 1 _ rfl d9 (by kernel_rfl);obtain⟨k,l,u,n⟩:=bn Tryz.underlying345 h 2 _ rfl d9 (by kernel_rfl);have b:=(cI f (cI i n))
 exact⟨a.trans (by kernel_rfl),⟨d,g,k⟩,⟨w0,w1,l⟩,rfl,b.congr λj _=>by show c.getD j undef=c.getD (0+j) undef;rw[z9]⟩
def Pv:qe e Tryz.prog w 106 1 (bt .O) yW:=gv QC Tryz.underlying106 (by kernel_rfl) (by decide)
def MQ:qe e Tryz.prog w 347 3 (aB.enc .O) aB.wf:=by
 intro fuel c x h;obtain⟨o,p,-,-,a,-⟩:=DataW.trod_struct Tryz.underlying347 h;obtain⟨d,w0,q,f⟩:=bn Tryz.underlying347 h 0 _ rfl d9 (by kernel_rfl);obtain⟨g,w1,r,i⟩:=bn Tryz.underlying347 h 1 _ rfl d9 (by kernel_rfl);obtain⟨k,l,u,n⟩:=bn Tryz.underlying347 h 2 _ rfl d9 (by kernel_rfl);have b:=(cI f (cI i n))
 exact⟨a.trans (by kernel_rfl),⟨d,g,k⟩,⟨w0,w1,l⟩,rfl,b.congr λj _=>by show c.getD j undef=c.getD (0+j) undef;rw[z9]⟩
def Lh:qe e Tryz.prog w 107 1 (bz .O) vJ:=gv MQ Tryz.underlying107 (by kernel_rfl) (by decide)
def TY:qe e Tryz.prog w 349 4 (bf.enc .O) bf.wf:=by
 intro fuel c x h;obtain⟨r,u,-,-,a,-⟩:=DataW.trod_struct Tryz.underlying349 h;obtain⟨d,w0,y,f⟩:=bn Tryz.underlying349 h 0 _ rfl d9 (by kernel_rfl);obtain⟨g,w1,B,i⟩:=bn Tryz.underlying349 h 1 _ rfl d9 (by kernel_rfl);obtain⟨k,l,C,n⟩:=bn Tryz.underlying349 h 2 _ rfl d9 (by kernel_rfl);obtain⟨o,p,D,q⟩:=bn Tryz.underlying349 h 3 _ rfl d9 (by kernel_rfl);have b:=(cI f (cI i (cI n q)))
 exact⟨a.trans (by kernel_rfl),⟨d,g,k,o⟩,⟨w0,w1,l,p⟩,rfl,b.congr λj _=>by show c.getD j undef=c.getD (0+j) undef;rw[z9]⟩
def Qn:qe e Tryz.prog w 108 1 (fg .O) Ft:=gv TY Tryz.underlying108 (by kernel_rfl) (by decide)
def Nm:qe e Tryz.prog w 336 1 (ax.enc .O) ax.wf:=by
 intro fuel c x h;obtain⟨g,i,-,-,a,-⟩:=DataW.trod_struct Tryz.underlying336 h;obtain⟨d,w0,k,f⟩:=bn Tryz.underlying336 h 0 _ rfl y2 (by kernel_rfl);have b:=f;exact⟨a.trans (by kernel_rfl),⟨d⟩,w0,rfl,b.congr λj _=>by show c.getD j undef=c.getD (0+j) undef;rw[z9]⟩
def KF:qe e Tryz.prog w 109 1 (dv .O) vS:=gv Nm Tryz.underlying109 (by kernel_rfl) (by decide)
def QH:qe e Tryz.prog w 491 2 (aT.enc .O) aT.wf:=by
 intro fuel c x h;obtain⟨k,l,-,-,a,-⟩:=DataW.trod_struct Tryz.underlying491 h;obtain⟨d,w0,n,f⟩:=bn Tryz.underlying491 h 0 _ rfl d9 (by kernel_rfl);obtain⟨g,w1,o,i⟩:=bn Tryz.underlying491 h 1 _ rfl d9 (by kernel_rfl);have b:=(cI f i)
 exact⟨a.trans (by kernel_rfl),⟨d,g⟩,⟨w0,w1⟩,rfl,b.congr λj _=>by show c.getD j undef=c.getD (0+j) undef;rw[z9]⟩
def NJ:qe e Tryz.prog w 436 1 (bK .O) zk:=gv QH Tryz.underlying436 (by kernel_rfl) (by decide)
def KV:qe e Tryz.prog w 110 1 (dZ .O) we:=gv NJ Tryz.underlying110 (by kernel_rfl) (by decide)
def Rs:qe e Tryz.prog w 112 2 (aM.enc .O) aM.wf:=by
 intro fuel c x h;obtain⟨k,l,-,-,a,-⟩:=DataW.trod_struct Tryz.underlying112 h;obtain⟨d,w0,n,f⟩:=bn Tryz.underlying112 h 0 _ rfl KV (by kernel_rfl);obtain⟨g,w1,o,i⟩:=bn Tryz.underlying112 h 1 _ rfl y2 (by kernel_rfl);have b:=(cI f i)
 exact⟨a.trans (by kernel_rfl),⟨d,g⟩,⟨w0,w1⟩,rfl,b.congr λj _=>by show c.getD j undef=c.getD (0+j) undef;rw[z9]⟩
def Nh:qe e Tryz.prog w 441 3 (aL.enc .O) aL.wf:=by
 intro fuel c x h;obtain⟨o,p,-,-,a,-⟩:=DataW.trod_struct Tryz.underlying441 h;obtain⟨d,w0,q,f⟩:=bn Tryz.underlying441 h 0 _ rfl d9 (by kernel_rfl);obtain⟨g,w1,r,i⟩:=bn Tryz.underlying441 h 1 _ rfl d9 (by kernel_rfl);obtain⟨k,l,u,n⟩:=bn Tryz.underlying441 h 2 _ rfl d9 (by kernel_rfl);have b:=(cI f (cI i n))
 exact⟨a.trans (by kernel_rfl),⟨d,g,k⟩,⟨w0,w1,l⟩,rfl,b.congr λj _=>by show c.getD j undef=c.getD (0+j) undef;rw[z9]⟩
def JT:qe e Tryz.prog w 113 1 (ct .O) wn:=gv Nh Tryz.underlying113 (by kernel_rfl) (by decide)
def Re:qe e Tryz.prog w 115 2 (aZ.enc .O) aZ.wf:=by
 intro fuel c x h;obtain⟨k,l,-,-,a,-⟩:=DataW.trod_struct Tryz.underlying115 h;obtain⟨d,w0,n,f⟩:=bn Tryz.underlying115 h 0 _ rfl d9 (by kernel_rfl);obtain⟨g,w1,o,i⟩:=bn Tryz.underlying115 h 1 _ rfl JT (by kernel_rfl);have b:=(cI f i)
 exact⟨a.trans (by kernel_rfl),⟨d,g⟩,⟨w0,w1⟩,rfl,b.congr λj _=>by show c.getD j undef=c.getD (0+j) undef;rw[z9]⟩
def QQ:qe e Tryz.prog w 116 3 (aV.enc .O) aV.wf:=by
 intro fuel c x h;obtain⟨o,p,-,-,a,-⟩:=DataW.trod_struct Tryz.underlying116 h;obtain⟨d,w0,q,f⟩:=bn Tryz.underlying116 h 0 _ rfl d9 (by kernel_rfl);obtain⟨g,w1,r,i⟩:=bn Tryz.underlying116 h 1 _ rfl d9 (by kernel_rfl);obtain⟨k,l,u,n⟩:=bn Tryz.underlying116 h 2 _ rfl Fc (by kernel_rfl);have b:=(cI f (cI i n))
 exact⟨a.trans (by kernel_rfl),⟨d,g,k⟩,⟨w0,w1,l⟩,rfl,b.congr λj _=>by show c.getD j undef=c.getD (0+j) undef;rw[z9]⟩
def TG:qe e Tryz.prog w 118 5 (bk.enc .O) bk.wf:=by
 intro fuel c x h;obtain⟨o,p,-,-,a,-⟩:=DataW.trod_struct Tryz.underlying118 h;obtain⟨d,w0,q,f⟩:=bn Tryz.underlying118 h 0 _ rfl QQ (by kernel_rfl);obtain⟨g,w1,r,i⟩:=bn Tryz.underlying118 h 1 _ rfl d9 (by kernel_rfl);obtain⟨k,l,u,n⟩:=bn Tryz.underlying118 h 2 _ rfl d9 (by kernel_rfl);have b:=(cI f (cI i n))
 exact⟨a.trans (by kernel_rfl),⟨d,g,k⟩,⟨w0,w1,l⟩,rfl,b.congr λj _=>by show c.getD j undef=c.getD (0+j) undef;rw[z9]⟩
def op_DHeap:qe e Tryz.prog w 120 24 (ac.enc .O) ac.wf:=by
 intro fuel c x h;obtain⟨R,S,-,-,a,-⟩:=DataW.trod_struct Tryz.underlying120 h;obtain⟨d,w0,T,f⟩:=bn Tryz.underlying120 h 0 _ rfl K6 (by kernel_rfl);obtain⟨g,w1,U,i⟩:=bn Tryz.underlying120 h 1 _ rfl Kj (by kernel_rfl);obtain⟨k,l,V,n⟩:=bn Tryz.underlying120 h 2 _ rfl Pv (by kernel_rfl);obtain⟨o,p,W,q⟩:=bn Tryz.underlying120 h 3 _ rfl Lh (by kernel_rfl);obtain⟨r,u,X,y⟩:=bn Tryz.underlying120 h 4 _ rfl Qn (by kernel_rfl);obtain⟨B,C,Y,D⟩:=bn Tryz.underlying120 h 5 _ rfl KF (by kernel_rfl);obtain⟨E,F,Z,G⟩:=bn Tryz.underlying120 h 6 _ rfl Rs (by kernel_rfl);obtain⟨H,J,l7,K⟩:=bn Tryz.underlying120 h 7 _ rfl Re (by kernel_rfl);obtain⟨L,M,l8,N⟩:=bn Tryz.underlying120 h 8 _ rfl d9 (by kernel_rfl);obtain⟨O,P,l9,Q⟩:=bn Tryz.underlying120 h 9 _ rfl d9 (by kernel_rfl);obtain⟨a10,w10,l10,r10⟩:=bn Tryz.underlying120 h 10 _ rfl d9 (by kernel_rfl);obtain⟨a11,w11,l11,r11⟩:=bn Tryz.underlying120 h 11 _ rfl d9 (by kernel_rfl);obtain⟨a12,w12,l12,r12⟩:=bn Tryz.underlying120 h 12 _ rfl M9 (by kernel_rfl);obtain⟨a13,w13,l13,r13⟩:=bn Tryz.underlying120 h 13 _ rfl TG (by kernel_rfl);have b:=(cI f (cI i (cI n (cI q (cI y (cI D (cI G (cI K (cI N (cI Q (cI r10 (cI r11 (cI r12 r13)))))))))))))
 exact⟨a.trans (by kernel_rfl),⟨d,g,k,o,r,B,E,H,L,O,a10,a11,a12,a13⟩,⟨w0,w1,l,p,u,C,F,J,M,P,w10,w11,w12,w13⟩,rfl,b.congr λj _=>by show c.getD j undef=c.getD (0+j) undef;rw[z9]⟩
end
end Go.Proofs.YtiopgblagimpmaaGreat.Ab
