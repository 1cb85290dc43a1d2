/- A job's steps: the reference's, all of a step. No condition. -/
import Derived.Test.YtiopgblagimpmaaGreatKxd
import Derived.Test.YtiopgblagimpmaaGreatKxf
import Derived.Test.YtiopgblagimpmaaGreatKxe
set_option linter.unusedVariables false
set_option linter.defProp false
set_option linter.unusedSimpArgs false
set_option linter.constructorNameAsVariable false
namespace Go.Proofs.YtiopgblagimpmaaGreat.Ab
open Go.RowKit
set_option maxRecDepth 20000
set_option maxHeartbeats 4000000
variable{k:af}
def ia{j:bk} : jmay k j=true↔(aK k=true/\k.Calls≠100000)/\kg j=true/\(aC k.G.Q j.Y.w).l≠0/\(aC k.G.Q j.Y.y).l≠0/\(aC k.G.Q j.Y.w).d≠(aC k.G.Q j.Y.y).d:=by
 unfold jmay;simp only[I0,C0]
def mE{p:aV}(h:fH p=true):p.W.length<=16:=by
 unfold fH at h;simp only[I0]at h;have a:∀i,i<p.W.length->(i:Int)<=nth p.W i:=λi=>by
  induction i with
  | zero=>
   intro a;have:=fS h.1 a;unfold pq at this;rw[C0]at this;exact this.1
  | succ i b=>
   intro a;have c:=b ω;have:=fS h.1 a;unfold pq at this;rw[C0]at this;have d:=this.2.2.resolve_left ω;rw[Nat.add_sub_cancel]at d;omega
 by_cases e:p.W.length<=16
 ·exact e
 exfalso;have c:=a 16 ω;have:=fS h.1 (show 16<p.W.length by omega);unfold pq at this;rw[C0]at this;omega
def v6{j:bk}(h:kg j=true):bk.sml j:=by
 have:=mE (gx.1 h).1;show j.Y.W.length<=1048576;omega
def o6(h:aK k=true):dd k.G=true:=by
 unfold aK at h;simp only[I0]at h;exact h.1.2
def Fi(k:af)(j:bk)(p:jmay k j=true)(g:j.a1=3):zzB 578 false [.ptr (af.enc .own k),.ptr (zQ j)] [.ptr (af.enc .own (jstep k j).1),.ptr (zQ (jstep k j).2)] (.tup []) []:=by
 obtain⟨⟨a,r⟩,t,c,d,w⟩:=ia.1 p;obtain⟨h,H,J,K,L⟩:=gx.1 t;have y:=bS a;obtain⟨M,N,O,B,P⟩:=bY a c;have l:=(br.1 (aI.1 a).2.2.1).2.2;have C:=mE h;have D:=(bh.1 (aI.1 a).2.1).2.2.1;unfold jstep;rw[CD ω,CD ω,CD ω,CG g];by_cases n:0<j.g
 ·rw[CG n]
  have o:=jN h (i:=(j.g - 1).toNat) ω;have E:=ar (xs:=j.Y.W) (i:=(j.g - 1).toNat) ω;have F:0<=j.Y.w*16+nth j.Y.W (j.g - 1).toNat/\j.Y.w*16+nth j.Y.W (j.g - 1).toNat<512:=ω
  have G:(j.Y.w*16+nth j.Y.W (j.g - 1).toNat) / 16=j.Y.w:=ω
  have b:=KR k.G (j.Y.w*16+nth j.Y.W (j.g - 1).toNat) 0 (o6 a) y.1 F ω (λ_=>by rw[G];exact⟨B,ω,row16 a (f:=jt k j.Y.w) (by unfold jt;omega)⟩);generalize (iy k.G (j.Y.w*16+nth j.Y.W (j.g - 1).toNat) 0).1=m at b |-;generalize (iy k.G (j.Y.w*16+nth j.Y.W (j.g - 1).toNat) 0).2=e at b;refine fM 59 [(575,[2,0,0])] [(2,283,[20,21,22,23,24,25,26,27,28,29,30,31,32,33,34,35,36,37,38,39,40,41,42,19,43,44,4,0,1,2,3,4,5,6,7,8,9,10,11,12,13,14,15,16,17,18,19,20,21,22,23,24,25,26,27,1025,28])] [(0,0),(1,0)] Tryz.func578 rfl (λu q=>?_) (.inr trivial)
  repeat'(first|refine gE ?_|refine CJ (b) ⟨⟨rfl,aD.enc_fz k.G⟩,⟨rfl,rfl⟩,⟨rfl,rfl⟩,trivial⟩ ?_|refine CM ω (aa E) ?_)
  refine CL rfl rfl ?_;exact wC
 rw[CD n];have b:=pQ k j.Y.y 2 a r d (.inr rfl);cases e:(ji k j.Y.y 2).2<;>rw[e]at b
 ·refine fM 59 [(575,[2,0,0])] [(2,283,[20,21,22,23,24,25,26,27,28,29,30,31,32,33,34,35,36,37,38,39,40,41,42,19,43,44,4,0,1,2,3,4,5,6,7,8,9,10,11,12,13,14,15,16,17,18,19,20,21,22,23,24,25,26,27,1025,28])] [(0,0),(1,0)] Tryz.func578 rfl (λu q=>?_) (.inr trivial)
  refine ZE ?_
  refine CL rfl rfl ?_;rw[<-g];exact wC
 refine fM 59 [(575,[2,0,0])] [(2,283,[20,21,22,23,24,25,26,27,28,29,30,31,32,33,34,35,36,37,38,39,40,41,42,19,43,44,4,0,1,2,3,4,5,6,7,8,9,10,11,12,13,14,15,16,17,18,19,20,21,22,23,24,25,26,27,1025,28])] [(0,0),(1,0)] Tryz.func578 rfl (λu q=>?_) (.inr trivial)
 refine ZE ?_
 refine CL rfl rfl ?_;exact wC
def Eu(k:af)(j:bk)(g:jmay k j=true):zzB 529 false [.ptr (af.enc .own k),.ptr (zQ j)] [.ptr (af.enc .own (jstep k j).1),.ptr (zQ (jstep k j).2)] (.tup []) []:=by
 obtain⟨⟨h,p⟩,B,c,b,l⟩:=ia.1 g;obtain⟨r,F,G,H,J⟩:=gx.1 B;have n:j.Y.y≠j.Y.w:=λe=>l (by rw[e])
 have C:=mE r;by_cases d:j.a1=0
 ·have a:=pQ k j.Y.y 1 h p b (.inl rfl)
  unfold jstep;rw[CG d];cases e:(ji k j.Y.y 1).2<;>rw[e]at a
  ·refine fM 80 [(575,[2,0,0]),(576,[2,0,0,0]),(577,[2,0,0]),(578,[2,2])] [(7,7,[27,28,29,30,31,32,33]),(9,14,[38,39,40,41,42,43,44,45,46,47,48,49,50,51])] [(0,0),(1,0)] Tryz.func529 rfl (λu q=>?_) (.inr trivial)
   refine ZB ?_
   refine CL rfl rfl ?_;exact wC
  refine fM 80 [(575,[2,0,0]),(576,[2,0,0,0]),(577,[2,0,0]),(578,[2,2])] [(7,7,[27,28,29,30,31,32,33]),(9,14,[38,39,40,41,42,43,44,45,46,47,48,49,50,51])] [(0,0),(1,0)] Tryz.func529 rfl (λu q=>?_) (.inr trivial)
  refine ZB ?_
  refine CL rfl rfl ?_;exact wC
 by_cases o:j.a1=1
 ·unfold jstep
  rw[CD d,CG o];by_cases t:j.g=j.Y.W.length
  ·rw[CG t]
   refine fM 80 [(575,[2,0,0]),(576,[2,0,0,0]),(577,[2,0,0]),(578,[2,2])] [(7,7,[27,28,29,30,31,32,33]),(9,14,[38,39,40,41,42,43,44,45,46,47,48,49,50,51])] [(0,0),(1,0)] Tryz.func529 rfl (λu q=>?_) (.inr trivial)
   refine ZB ?_
   refine CL rfl rfl ?_;exact wC
  rw[CD t];have D:=ar (xs:=j.Y.W) (i:=j.g.toNat) ω;have a:=BD k j.Y.y j.Y.w (nth j.Y.W j.g.toNat) h b c (jN r ω);have E:=(ia.1 g).2.1;refine fM 80 [(575,[2,0,0]),(576,[2,0,0,0]),(577,[2,0,0]),(578,[2,2])] [(7,7,[27,28,29,30,31,32,33]),(9,14,[38,39,40,41,42,43,44,45,46,47,48,49,50,51])] [(0,0),(1,0)] Tryz.func529 rfl (λu q=>?_) (.inr trivial)
  repeat'(first|refine gB ?_|refine CI a (.inr ⟨rfl,CY _,trivial⟩) ?_|refine CM ω (aa D) ?_)
  refine CL rfl rfl ?_;exact wC
 by_cases w:j.a1=2
 ·have a:=KW k j.Y.y j.Y.w h p b c n
  unfold jstep;rw[CD d,CD o,CG w];cases e:(zr k j.Y.y j.Y.w).2<;>rw[e]at a
  ·refine fM 80 [(575,[2,0,0]),(576,[2,0,0,0]),(577,[2,0,0]),(578,[2,2])] [(7,7,[27,28,29,30,31,32,33]),(9,14,[38,39,40,41,42,43,44,45,46,47,48,49,50,51])] [(0,0),(1,0)] Tryz.func529 rfl (λu q=>?_) (.inr trivial)
   refine ZB ?_
   refine CL rfl rfl ?_;exact wC
  refine fM 80 [(575,[2,0,0]),(576,[2,0,0,0]),(577,[2,0,0]),(578,[2,2])] [(7,7,[27,28,29,30,31,32,33]),(9,14,[38,39,40,41,42,43,44,45,46,47,48,49,50,51])] [(0,0),(1,0)] Tryz.func529 rfl (λu q=>?_) (.inr trivial)
  refine ZB ?_
  refine CL rfl rfl ?_;exact wC
 by_cases y:j.a1=3
 ·have a:=Fi k j g y
  refine fM 80 [(575,[2,0,0]),(576,[2,0,0,0]),(577,[2,0,0]),(578,[2,2])] [(7,7,[27,28,29,30,31,32,33]),(9,14,[38,39,40,41,42,43,44,45,46,47,48,49,50,51])] [(0,0),(1,0)] Tryz.func529 rfl (λu q=>?_) (.inr trivial)
  refine ZB ?_
  refine CL rfl rfl ?_;exact wC
 unfold jstep;rw[CD d,CD o,CD w,CD y];refine fM 80 [(575,[2,0,0]),(576,[2,0,0,0]),(577,[2,0,0]),(578,[2,2])] [(7,7,[27,28,29,30,31,32,33]),(9,14,[38,39,40,41,42,43,44,45,46,47,48,49,50,51])] [(0,0),(1,0)] Tryz.func529 rfl (λu q=>?_) (.inr trivial)
 refine ZB ?_
 refine CL rfl rfl ?_;exact wC
def JC(k:af)(j:bk)(e:aK k=true)(i:kg j=true):zzA 528 false [.val (some 5) (af.enc .O k),.val (some 5) (bk.enc .O j)] .one [B (jmay k j)]:=by
 have c:=bS e;have b:fo (af.enc .O k)=af.enc .O k:=by rw[<-CW k,EU]
 have r:=(aI.1 e).2.2.2.2;have a:=HK k c;rw[e]at a;have d:=Aa j (v6 i);rw[i]at d;have l:=eS k j.Y.w c.1.2;have n:=eS k j.Y.y c.1.2;have t:=fZ k.G.Q j.Y.w c.1.2;have u:=fZ k.G.Q j.Y.y c.1.2;by_cases o:k.Calls=100000
 ·rw[Z0 ω]at a
  rw[show jmay k j=false by rw[<-S7,ia];exact λh=>h.1.2 o];refine fO 44 [(3,16,[27,28,29,30,31,32,33,34,35,36,37,38,39,40,41,42])] Tryz.func528 rfl ?_
  refine ZP ?_
  rfl
 rw[O0 ω]at a;by_cases p:(aC k.G.Q j.Y.w).l=0
 ·rw[show jmay k j=false by rw[<-S7,ia];exact λh=>h.2.2.1 p]
  refine fO 44 [(3,16,[27,28,29,30,31,32,33,34,35,36,37,38,39,40,41,42])] Tryz.func528 rfl ?_
  repeat'(first|refine gB ?_|refine CJ (l) ⟨b,⟨rfl,rfl⟩,trivial⟩ ?_|refine CJ (n) ⟨b,⟨rfl,rfl⟩,trivial⟩ ?_)
  rfl
 by_cases q:(aC k.G.Q j.Y.y).l=0
 ·rw[show jmay k j=false by rw[<-S7,ia];exact λh=>h.2.2.2.1 q]
  refine fO 44 [(3,16,[27,28,29,30,31,32,33,34,35,36,37,38,39,40,41,42])] Tryz.func528 rfl ?_
  repeat'(first|refine gB ?_|refine CJ (l) ⟨b,⟨rfl,rfl⟩,trivial⟩ ?_|refine CJ (n) ⟨b,⟨rfl,rfl⟩,trivial⟩ ?_)
  rfl
 refine fO 44 [(3,16,[27,28,29,30,31,32,33,34,35,36,37,38,39,40,41,42])] Tryz.func528 rfl ?_
 repeat'(first|refine gB ?_|refine CJ (l) ⟨b,⟨rfl,rfl⟩,trivial⟩ ?_|refine CJ (n) ⟨b,⟨rfl,rfl⟩,trivial⟩ ?_)
 exact I1 (λz=>[B z]) (by
   unfold jmay;rw[e,i,O0 o];by_cases g:(aC k.G.Q j.Y.w).d=(aC k.G.Q j.Y.y).d
   · rw[Z0 (λh=>h.2.2 g)];simp[g]
   rw[O0 ⟨p,q,g⟩];simp[g])
def F9(j:bk):zzA 530 false [.val (some 5) (bk.enc .O j)] .one [B (over j)]:=by
 by_cases a:j.a1=4
 ·rw[show over j=true from O0 (.inl a)]
  refine fO 11 [] Tryz.func530 rfl ?_
  refine ZB ?_
  rfl
 rw[show over j=decide (j.a1=5) from decide_eq_decide.2 ω];refine fO 11 [] Tryz.func530 rfl ?_
 refine ZB ?_
 exact I1 (λz=>[B z]) (by rw[X6];simp)
def LU(x:ac):List C:=(cU x).set 21 .z
def GH{x:ac}(h:x.p.Y.W=[]):RP (LU x) (cU x):=by
 unfold LU cU;simp only[List.set,h,List.map_nil]
 repeat'(first|exact trivial|exact mJ _|refine CC ?_ ?_|rfl)
def Gc(h:ac)(j:cm h [])(k:h.j=true):zzB 431 false [.ptr (cU h)] [.ptr (cU (mStep h))] .one [B (pL h)]:=by
 obtain⟨l,-,-⟩:=j.job k;have b:=JC h.K h.p j.ker l;have a:=F9 (gw h.K h.p).2;unfold pL mStep;cases e:jmay h.K h.p with
 | false=>
  rw[e]at b;have d:gw h.K h.p=(h.K,h.p):=by unfold gw;rw[e];rfl
  rw[d]at a |-;simp only at a |-;cases g:over h.p<;>rw[g]at a
  ·refine fM 39 [(529,[3,5,5])] [(1,8,[4,5,6,7,8,9,10,11]),(2,6,[13,14,15,16,17,18])] [(0,0)] Tryz.func431 rfl (λu q=>?_)
   repeat'(first|refine gP ?_|refine CJ (b) ⟨⟨rfl,CW h.K⟩,⟨rfl,rfl⟩,trivial⟩ ?_)
   refine CL rfl ?_ ?_
   ·exact I1 (λz=>[B z]) (by rw[X6];simp)
   exact wC
  refine aR.wk (c:=LU _) ?_ (GH rfl);refine fM 39 [(529,[3,5,5])] [(1,8,[4,5,6,7,8,9,10,11]),(2,6,[13,14,15,16,17,18])] [(0,0)] Tryz.func431 rfl (λu q=>?_)
  repeat'(first|refine gP ?_|refine CJ (b) ⟨⟨rfl,CW h.K⟩,⟨rfl,rfl⟩,trivial⟩ ?_)
  refine CL rfl ?_ ?_
  ·exact I1 (λz=>[B z]) (by rw[X6];simp)
  exact wC
 | true=>
  rw[e]at b;have d:gw h.K h.p=jstep h.K h.p:=by unfold gw;rw[e];rfl
  have i:=Eu h.K h.p e;rw[d]at a |-;generalize jstep h.K h.p=r at i a |-;cases g:over r.2<;>rw[g]at a
  ·refine fM 39 [(529,[3,5,5])] [(1,8,[4,5,6,7,8,9,10,11]),(2,6,[13,14,15,16,17,18])] [(0,0)] Tryz.func431 rfl (λu q=>?_)
   repeat'(first|refine gP ?_|refine CJ (b) ⟨⟨rfl,CW h.K⟩,⟨rfl,rfl⟩,trivial⟩ ?_)
   refine CL rfl ?_ ?_
   ·exact I1 (λz=>[B z]) (by rw[X6];simp)
   exact wC
  refine aR.wk (c:=LU _) ?_ (GH rfl);refine fM 39 [(529,[3,5,5])] [(1,8,[4,5,6,7,8,9,10,11]),(2,6,[13,14,15,16,17,18])] [(0,0)] Tryz.func431 rfl (λu q=>?_)
  repeat'(first|refine gP ?_|refine CJ (b) ⟨⟨rfl,CW h.K⟩,⟨rfl,rfl⟩,trivial⟩ ?_)
  refine CL rfl ?_ ?_
  ·exact I1 (λz=>[B z]) (by rw[X6];simp)
  exact wC
def Xf{α:Type}[Inhabited α](f:α->Int)(xs:List α):Nat->Int
 | 0=>0
 | i+1=>Xf f xs i+f (nth xs i)
def bor(n m:Int):Int:=((n.toNat ||| m.toNat:Nat):Int)
def qK(sp:List au)(p:Int)(b:Int):Nat->Int
 | 0=>b
 | j+1=>if(nth sp j).R=p then bor (qK sp p b j) (nth sp j).r else qK sp p b j
def iH(sp:List au)(ps:List Int)(b:Int):Nat->Int
 | 0=>b
 | k+1=>qK sp (nth ps k) (iH sp ps b k) sp.length
def ee(h:ac)(i:Nat):Int:=iH h.H (aQ h (nth h.H i).R) (nth h.H i).r (aQ h (nth h.H i).R).length
variable{n:Int}
def JY{m:Int}(a:0<=n/\n<=65535)(b:0<=m/\m<=65535):0<=bor n m/\bor n m<=65535:=by
 have c:n.toNat ||| m.toNat<2 ^ 16:=Nat.or_lt_two_pow ω ω
 unfold bor;omega
variable{sp:List au}
def mY(h:∀s∈sp,bc s=true){j:Nat}(b:j<sp.length):0<=(nth sp j).r/\(nth sp j).r<=65535:=by
 have a:=h _ (aE b);have c:=Lr (nth sp j).Z;unfold bc at a;rw[C0]at a;omega
def xN{sp:List au}(h:∀s∈sp,bc s=true){p b:Int}(a:0<=b/\b<=65535):∀j,j<=sp.length->0<=qK sp p b j/\qK sp p b j<=65535
 | 0,_=>a
 | j+1,d=>by
  have c:=xN h (p:=p) a j ω;simp only[qK];split
  ·exact JY c (mY h ω)
  exact c
def mC{sp:List au}(h:∀s∈sp,bc s=true){ps:List Int}{b:Int}(a:0<=b/\b<=65535):∀k,0<=iH sp ps b k/\iH sp ps b k<=65535
 | 0=>a
 | k+1=>by simp only[iH];exact xN h (mC h a k) _ (I4 _)
variable{b:Int}
def pE{i:Int}(a:0<=b)(c:0<=i/\i<=15):aX b i=b.toNat.testBit i.toNat:=by
 unfold aX;rw[Nat.testBit_eq_decide_div_mod_eq];refine decide_eq_decide.2 ?_;obtain⟨n,rfl⟩ : ∃n:Nat,b=n:=⟨b.toNat,ω⟩
 rw[t4];have d:((n / 2 ^ i.toNat:Nat):Int)=(n:Int) / 2 ^ i.toNat:=by simp
 omega
def KS{m i:Int}(b:0<=n)(c:0<=m)(a:0<=i/\i<=15):aX (bor n m) i=(aX n i || aX m i):=by
 rw[pE (by unfold bor;omega) a,pE b a,pE c a];unfold bor;rw[t4,Nat.testBit_or]
def Gj{sp:List au}(h:∀s∈sp,bc s=true){p b i:Int}(k:0<=b/\b<=65535)(l:0<=i/\i<=15):∀j,j<=sp.length->(aX (qK sp p b j) i=true↔aX b i=true\/∃q,q<j/\(nth sp q).R=p/\aX (nth sp q).r i=true)
 | 0,_=>by simp[qK]
 | j+1,t=>by
  have n:=Gj h (p:=p) k l j ω;have o:=xN h (p:=p) k j ω;have r:=mY h (j:=j) ω;simp only[qK];split
  ·rename_i d
   rw[KS o.1 r.1 l,X8,n];constructor
   ·rintro((e|⟨q,f,a⟩)|e)
    ·exact .inl e
    ·exact .inr ⟨q,ω,a⟩
    exact .inr ⟨j,ω,d,e⟩
   rintro(e|⟨q,f,a,c⟩)
   ·exact .inl (.inl e)
   by_cases g:q=j
   ·subst g;exact .inr c
   exact .inl (.inr ⟨q,ω,a,c⟩)
  rename_i d;rw[n];constructor
  ·rintro(e|⟨q,f,a⟩)
   ·exact .inl e
   exact .inr ⟨q,ω,a⟩
  rintro(e|⟨q,f,a,c⟩)
  ·exact .inl e
  by_cases g:q=j
  ·subst g;exact absurd a d
  exact .inr ⟨q,ω,a,c⟩
def Ds{sp:List au}(h:∀s∈sp,bc s=true){ps:List Int}{b i:Int}(d:0<=b/\b<=65535)(f:0<=i/\i<=15):∀k,(aX (iH sp ps b k) i=true↔aX b i=true\/∃u,u<k/\∃q,q<sp.length/\(nth sp q).R=nth ps u/\aX (nth sp q).r i=true)
 | 0=>by simp[iH]
 | k+1=>by
  have g:=Ds h (ps:=ps) d f k;have j:=mC h (ps:=ps) d k;simp only[iH];rw[Gj h j f _ (I4 _),g];constructor
  ·rintro((e|⟨u,c,a⟩)|⟨q,c,a⟩)
   ·exact .inl e
   ·exact .inr ⟨u,ω,a⟩
   exact .inr ⟨k,ω,q,c,a⟩
  rintro(e|⟨u,c,a⟩)
  ·exact .inl (.inl e)
  by_cases l:u=k
  ·subst l;exact .inr a
  exact .inl (.inr ⟨u,ω,a⟩)
variable{α:Type}
def j8(p:α->Bool)(xs:List α):Nat:=(xs.findIdx? p).getD xs.length
def jD(p:α->Bool)(xs:List α)(y:α):List α:=xs.take (j8 p xs)++y::xs.drop (j8 p xs)
def TO(p:α->Bool)(xs:List α):j8 p xs<=xs.length:=by
 unfold j8;cases e:xs.findIdx? p with
 | none=>exact I4 _
 | some i=>exact Nat.le_of_lt (C9.1 e).1
def lQ(p:α->Bool)(xs:List α)(y:α):(jD p xs y).Perm (y::xs):=by
 unfold jD;refine List.perm_middle.trans ?_;rw[List.take_append_drop]
def dH{p:α->Bool}{xs:List α}{y z:α} : z∈jD p xs y↔z=y\/z∈xs:=by
 rw[(lQ p xs y).mem_iff,List.mem_cons]
variable{i:Nat}
def mO{p:α->Bool}{xs:List α}(c:i<=xs.length)(a:∀(j:Nat)(z:α),j<i->xs[j]? = some z->p z=false)(b:∀z,xs[i]? = some z->p z=true):j8 p xs=i:=by
 unfold j8;by_cases e:i<xs.length
 ·rw[yc (X3 e) (b _ (X3 e)) a];rfl
 rw[FO ω a];show xs.length=i;omega
def mW{f:α->Int}{xs:List α}{y:α}(h:xs.Pairwise λa b=>f a<f b)(p:∀z∈xs,f z≠f y):(jD (λz=>decide (f y<=f z)) xs y).Pairwise λa b=>f a<f b:=by
 have q:∀z∈xs.drop (j8 (λz=>decide (f y<=f z)) xs),f y<f z:=λz g=>by
  obtain⟨j,k,rfl⟩:=List.mem_drop_iff_getElem.1 g;have C:=p _ (List.getElem_mem k);cases e:xs.findIdx? (λz=>decide (f y<=f z)) with
  | none=>
   have l:j8 (λz=>decide (f y<=f z)) xs=xs.length:=by unfold j8;rw[e];rfl
   rw[l]at k;omega
  | some i=>
   have l:j8 (λz=>decide (f y<=f z)) xs=i:=by unfold j8;rw[e];rfl
   obtain⟨r,t,-⟩:=C9.1 e;rw[C0]at t;have c:i+j<xs.length:=by rw[<-l];omega
   have n:f xs[i+j]≠f y:=p _ (List.getElem_mem c);have d:f y<f xs[i+j]:=by
    cases j with
    | zero=>simp only[Nat.add_zero]at n |-;omega
    | succ j=>
     have:=List.pairwise_iff_getElem.1 h i (i+(j+1)) r c ω;omega
   have w:xs[j8 (λz=>decide (f y<=f z)) xs+j]? = xs[i+j]?:=by rw[l]
   rw[X3 ω,X3 c]at w;rw[Option.some.inj w];exact d
 have A:∀z∈xs.take (j8 (λz=>decide (f y<=f z)) xs),f z<f y:=λz g=>by
  obtain⟨j,k,rfl⟩:=List.mem_take_iff_getElem.1 g;unfold j8 at k;cases e:xs.findIdx? (λz=>decide (f y<=f z)) with
  | none=>
   have:=List.findIdx?_eq_none_iff.1 e _ (List.getElem_mem (show j<xs.length by omega));simp only[O6]at this;omega
  | some i=>
   obtain⟨r,t,B⟩:=C9.1 e;simp only[e,Option.getD_some]at k;have:=B j ω;simp only[C0]at this;omega
 unfold jD;refine List.pairwise_append.2 ⟨h.sublist (List.take_sublist ..),List.pairwise_cons.2 ⟨q,h.sublist (List.drop_sublist ..)⟩,λz g u o=>?_⟩;rcases List.mem_cons.1 o with rfl|o
 ·exact A z g
 exact Int.lt_trans (A z g) (q u o)
def gL(b i:Int):Int:=((b.toNat ||| 2 ^ i.toNat:Nat):Int)
def rU(s:au)(i:Int):au:={s with r:=gL s.r i}
def yd(b i:Int)(j:Nat):(gL b i).toNat.testBit j=(b.toNat.testBit j || decide (i.toNat=j)):=by
 unfold gL;rw[t4,Nat.testBit_or,Nat.testBit_two_pow]
def Le{i:Int}(g:0<=b)(e:0<=i/\i<=15)(j:Int):aX (gL b i) j=true↔aX b j=true\/j=i:=by
 rw[jb,jb,yd,X8,C0];have f:0<=gL b i:=by unfold gL;omega
 constructor
 ·rintro⟨h,c,d,a|a⟩
  ·exact .inl ⟨g,c,d,a⟩
  exact .inr ω
 rintro(⟨h,c,d,a⟩|rfl)
 ·exact⟨f,c,d,.inl a⟩
 exact⟨f,e.1,e.2,.inr rfl⟩
def gC{k:Int}(h:0<=k/\k<=3):lim k=2 ^ (slots k).toNat - 1/\0<=slots k/\slots k<=16/\slots k*csz k=16:=by
 obtain rfl|rfl|rfl|rfl:k=0\/k=1\/k=2\/k=3:=ω
 all_goals decide
variable{s:au}
def FI(h:bc s=true){i:Int}(k:0<=i/\i<slots s.Z):bc (rU s i)=true:=by
 have b:=aP h;obtain⟨c,l,o,-⟩:=gC b.2.2;unfold bc at h;rw[C0]at h;obtain⟨d,e,f,g,p,a⟩:=h;refine O0 ⟨d,e,f,g,by show 0<=gL s.r i;unfold gL;omega,?_⟩;show gL s.r i<=lim s.Z;rw[c]at a |-;have j:((2 ^ (slots s.Z).toNat:Nat):Int)=(2:Int) ^ (slots s.Z).toNat:=by norm_cast
 rw[<-j]at a |-;have:=Nat.or_lt_two_pow (x:=s.r.toNat) (y:=2 ^ i.toNat) (n:=(slots s.Z).toNat) ω (Nat.pow_lt_pow_right ω ω);unfold gL;omega
def Da{u:au}{i:Int}(b:0<=i/\i<slots s.Z)(c:aX u.r i=false)(h:meshable s u=true):meshable (rU s i) u=true:=by
 unfold meshable at h |-;simp only[I0,C0]at h |-;obtain⟨⟨d,f⟩,k,l,o⟩:=h;have p:=aP d;obtain⟨r,t,w,-⟩:=gC p.2.2;have a:=ek f;refine⟨⟨FI d b,f⟩,k,l,?_⟩;refine Nat.eq_of_testBit_eq λj=>?_
 have g:=I1 (λn=>Nat.testBit n j) o;simp only[Nat.testBit_and,Nat.zero_testBit,rU,yd]at g |-;by_cases e:i.toNat=j
 ·have:u.r.toNat.testBit j=false:=by
   rw[<-S7];intro q;have:=(jb u.r i).2 ⟨a.1,b.1,ω,by rw[e];exact q⟩;rw[this]at c;cases c
  rw[this];simp
 rw[Z0 e,Bool.or_false];exact g
def vC(h:bc s=true){i:Int}(n:0<=i/\i<slots s.Z)(b:Int):ik (rU s i) b↔ik s b\/b=16*s.R+i*csz s.Z:=by
 have g:=aP h;obtain⟨o,p,k,l⟩:=gC g.2.2;have j:=dN g.2.2;unfold ik;simp only[rU];rw[Le (ek h).1 ω];constructor
 ·rintro⟨d,f,c,a|a⟩
  ·exact .inl ⟨d,f,c,a⟩
  right
  rcases j with e|e|e|e<;>rw[e]at c a |-<;>omega
 rintro(⟨d,f,c,a⟩|rfl)
 ·exact⟨d,f,c,.inl a⟩
 have q:slots s.Z<=16:=k;rcases j with e|e|e|e<;>rw[e]at l |-<;>refine⟨?_,?_,?_,.inr ?_⟩<;>omega
def Pz(k:Int)(a:i<sp.length):(sp.set i (rU (nth sp i) k)).map (·.R)=sp.map (·.R):=by
 rw[S8];refine List.ext_getElem (by simp) λj b c=>?_
 rw[List.getElem_set];split
 ·rename_i e;subst e
  rw[List.getElem_map];show(nth sp i).R=_;rw[b6 (X3 a)]
 rfl
variable{la:List aB}
def lr.setS(p:qd sp la)(g:i<sp.length){k:Int}(h:0<=k/\k<slots (nth sp i).Z)(b c:Int):lr (sp.set i (rU (nth sp i) k)) b c↔lr sp b c\/(b=16*(nth sp i).R+k*csz (nth sp i).Z/\(c<0\/(nth sp i).Z=c)):=by
 have d:=p.sok _ (aE g);constructor
 ·rintro⟨s,l,f,a⟩
  rcases je l with rfl|⟨j,n,q,rfl⟩
  ·rcases(vC d h b).1 f with o|o
   ·exact .inl ⟨_,aE g,o,a⟩
   exact .inr ⟨o,a⟩
  exact .inl ⟨_,aE n,f,a⟩
 rintro(⟨s,l,f,a⟩|⟨f,a⟩)
 ·obtain⟨j,n,rfl⟩:=bJ l
  by_cases e:j=i
  ·subst e
   exact⟨_,pA _ g,(vC d h b).2 (.inl f),a⟩
  exact⟨_,qO _ n e,f,a⟩
 exact⟨_,pA _ g,(vC d h b).2 (.inr f),a⟩
variable{E:List Int}{h:ac}
def TQ(d:cm h E)(l:i<h.H.length){k:Int}(p:0<=k/\k<=15)(b:aX (ee h i) k=false):aX (nth h.H i).r k=false/\∀u∈h.H,(nth (tbl h).J u.R.toNat).d=(nth (tbl h).J (nth h.H i).R.toNat).d->aX u.r k=false:=by
 have e:=d.L;have q:=ek (e.sok _ (aE l));unfold ee at b;rw[<-S7,Ds e.sok q p]at b;rw[not_or]at b;have r:aX (nth h.H i).r k=false:=by simpa using b.1
 have a:∀s∈h.H,s.R.toNat<gr h/\(nth (tbl h).J s.R.toNat).l≠0/\((s.R.toNat:Nat):Int)=s.R:=λs f=>by
  have K:=aP (e.sok s f);have M:=d.pg.bnd s.R (f9 f);have n:s.R.toNat<(tbl h).J.length:=ω
  have o:((s.R.toNat:Nat):Int)=s.R:=ω
  exact⟨n,(d.pg.own _ n).2 (by rw[o];exact f9 f),o⟩
 refine⟨r,λu c t=>?_⟩;rw[<-S7];intro w;obtain⟨y,A,B⟩:=a _ (aE l);obtain⟨C,D,F⟩:=a u c;have G:u.R∈aQ h (nth h.H i).R:=by
  rw[<-B,g9 y A,<-F];exact gf.2 ⟨C,D,t⟩
 obtain⟨v,H,g⟩:=bJ G;obtain⟨j,J,rfl⟩:=bJ c;exact b.2 ⟨v,H,j,J,g.symm,w⟩
def cm.take{k T:Int}(g:cm h E)(C:i<h.H.length)(D:0<=k/\k<slots (nth h.H i).Z)(r:aX (ee h i) k=false)(M:0<=T/\T<=1073741823) :
  cm {h with a4:=T,H:=h.H.set i (rU (nth h.H i) k)} ((16*(nth h.H i).R+k*csz (nth h.H i).Z)::E):=by
 have F:=g.L;have U:=F.sok _ (aE C);have Q:=aP U;obtain⟨l1,l2,l3,l4⟩:=gC Q.2.2;have hz:=dN Q.2.2;obtain⟨u1,u2⟩:=TQ g C ⟨D.1,ω⟩ r;have n:=λb c=>lr.setS F C D b c
 have w:=Pz k C;generalize ha:16*(nth h.H i).R+k*csz (nth h.H i).Z=a at n |-;have G:¬ik (nth h.H i) a:=by
  rintro⟨-,-,-,h4⟩
  have:(a - 16*(nth h.H i).R) / csz (nth h.H i).Z=k:=by
   rw[<-ha];rcases hz with e|e|e|e<;>rw[e]<;>omega
  rw[this,u1]at h4;cases h4
 have hrange:16*(nth h.H i).R<=a/\a<=16*(nth h.H i).R+15:=by
  rcases hz with e|e|e|e<;>rw[e]at ha l4<;>omega
 have V:¬sY h.H h.S a:=by
  rintro(⟨s,p,d,-⟩|⟨l,hl,e⟩)
  ·obtain⟨j,W,rfl⟩:=bJ p
   have:=pc (f:=(·.R)) F.nd W C (by have a1:=d.1;have a2:=d.2.1;omega);subst this;exact G d
  exact(FK F hl).1 _ (aE C) ω
 have X:a∉E++holders h:=λY=>V ((g.mem a).1 Y)
 have q:∀s∈h.H.set i (rU (nth h.H i) k),∃u∈h.H,u.R=s.R/\(s=u\/(u=nth h.H i/\s=rU u k)):=λs p=>by
  rcases je p with rfl|⟨j,W,hji,rfl⟩
  ·exact⟨_,aE C,rfl,.inr ⟨rfl,rfl⟩⟩
  exact⟨_,aE W,rfl,.inl rfl⟩
 generalize hsp:h.H.set i (rU (nth h.H i) k)=sp at n w q |-;have t:pgs sp h.S=pgs h.H h.S:=by unfold pgs;rw[w]
 have N:∀u∈h.H,∃s∈sp,s.R=u.R:=λu r=>by
  have:u.R∈sp.map (·.R):=by rw[w];exact Y5.2 ⟨u,r,rfl⟩
  obtain⟨s,p,e⟩:=Y5.1 this;exact⟨s,p,e⟩
 exact {g with
   lay:=by
     obtain⟨l1,l2,l3⟩:=fe g.lay;unfold bA;simp only[I0,C0];refine⟨⟨I5.2 λs p=>?_,l2⟩,by rw[t];exact l3⟩;obtain⟨u,r,-,rfl|⟨rfl,rfl⟩⟩:=q s p
     · exact F.sok _ r
     exact FI (F.sok _ r) D
   srs:=by
     have d:(h.H.map (·.R)).Pairwise (λa b=>a<b):=List.pairwise_map.2 g.srs;rw[<-w]at d;exact List.pairwise_map.1 d
   pg:=⟨g.pg.one,by rw[t];exact g.pg.bnd,by rw[t];exact g.pg.own,g.pg.fre,λs p u r O hf=>by
     obtain⟨R,A,Z,hs2⟩:=q s p;obtain⟨S,B,eu,P⟩:=q u r;have H:(nth (tbl h).J R.R.toNat).d=(nth (tbl h).J S.R.toNat).d:=by rw[Z,eu];exact hf
     have d:=g.pg.mesh R A S B (by rw[Z,eu];exact O) H;rcases hs2 with rfl|⟨rfl,rfl⟩
     · rcases P with rfl|⟨rfl,rfl⟩
       · exact d
       rw[oo]at d |-;exact Da D (u2 _ A H) d
     rcases P with rfl|⟨rfl,rfl⟩
     · exact Da D (u2 _ B H.symm) d
     exact absurd (Z.symm.trans eu) O⟩
   nums:=by
     have:=g.nums;unfold dU at this |-;rw[C0]at this |-;exact⟨M.1,M.2,this.2.2⟩
   oow:=λo ho=>by
     rcases g.oow o ho with⟨s,p,d,h2⟩|d
     · obtain⟨u,r,g1,K⟩:=(n o.Addr (bQ o.a3)).2 (.inl ⟨s,p,d,.inr h2⟩)
       refine .inl ⟨u,r,g1,?_⟩;rcases K with K|K
       · have:=aP (F.sok _ p);omega
       exact K
     exact .inr d
   hca:=λc Q k D b J=>(n b k).2 (.inl (g.hca c Q k D b J))
   hqu:=λy hy=>(n _ _).2 (.inl (g.hqu y hy))
   hfl:=λb J=>(n _ _).2 (.inl (g.hfl b J))
   hin:=λb J=>by
     rcases List.mem_cons.1 J with rfl|J
     · exact(n _ _).2 (.inr ⟨rfl,.inl (by decide)⟩)
     exact(n _ _).2 (.inl (g.hin b J))
   nd:=by
     rw[List.cons_append];exact List.nodup_cons.2 ⟨X,g.nd⟩
   mem:=λb=>by
     show b∈a::E++holders h↔sY sp h.S b;rw[List.cons_append,List.mem_cons,g.mem b];unfold sY;rw[n];constructor
     · rintro(rfl|d|d)
       · exact .inl (.inr ⟨rfl,.inl (by decide)⟩)
       · exact .inl (.inl d)
       exact .inr d
     rintro((d|⟨d,-⟩)|d)
     · exact .inr (.inl d)
     · exact .inl d
     exact .inr (.inr d)
   job:=λY=>by
     obtain⟨j1,⟨s,p,e1⟩,⟨u,r,e2⟩⟩:=g.job Y;obtain⟨R,A,g1⟩:=N s p;obtain⟨S,B,K⟩:=N u r;exact⟨j1,⟨R,A,g1.trans e1⟩,⟨S,B,K.trans e2⟩⟩}
def rT(c:ax)(k:Nat):ax:=⟨c.T.set k ((nth c.T k).take ((nth c.T k).length - 1))⟩
def PA{l:List Int}(h:0<l.length):l=l.take (l.length - 1)++[nth l (l.length - 1)]:=by
 have a:l.drop (l.length - 1)=[nth l (l.length - 1)]:=by
  rw[nZ ω,show l.length - 1+1=l.length by omega,List.drop_length]
 rw[<-a,List.take_append_drop]
def cm.pop{t k:Nat}(f:cm h E)(l:t<h.M.length)(p:k<(nth h.M t).T.length)(u:0<(nth (nth h.M t).T k).length)(w:bH (rT (nth h.M t) k)=true) :
  cm {h with M:=h.M.set t (rT (nth h.M t) k)} (nth (nth (nth h.M t).T k) ((nth (nth h.M t).T k).length - 1)::E)/\lr h.H (nth (nth (nth h.M t).T k) ((nth (nth h.M t).T k).length - 1)) k:=by
 have q:=PA u;have n:=f.hca _ (aE l) k p (nth (nth (nth h.M t).T k) ((nth (nth h.M t).T k).length - 1)) (aE ω);refine⟨?_,n⟩;generalize D:nth (nth (nth h.M t).T k) ((nth (nth h.M t).T k).length - 1)=a at q n |-;have r:(E++holders h).Perm (a::E++holders {h with M:=h.M.set t (rT (nth h.M t) k)}):=by
  refine List.perm_iff_count.2 λb=>?_
  have A:=ux (λc:ax=>c.T.flatten) b h.M t (rT (nth h.M t) k) l;have B:=ux (λy:List Int=>y) b (nth h.M t).T k ((nth (nth h.M t).T k).take ((nth (nth h.M t).T k).length - 1)) p;rw[<-uj,<-uj]at B;have C:=I1 (List.count b) q;simp only[O8,List.count_singleton]at C;simp only[rT]at A;simp only[holders,gj,rT,O8,List.cons_append,List.count_cons];omega
 exact {f with
   nc:=by show(h.M.set ..).length=_;rw[O2];exact f.nc
   cach:=λc d=>by
     rcases Z8 d with d|rfl
     · exact f.cach c d
     exact w
   onu:=by show ∀o∈h.X,1<=o.Id/\o.Id<=h.g - 1/\0<=o.a2/\o.a2<=(h.M.set t _).length - 1;rw[O2];exact f.onu
   hca:=λc d j i b g=>by
     rcases Z8 d with d|rfl
     · exact f.hca c d j i b g
     simp only[rT,O2]at i;simp only[rT,eB]at g;by_cases e:k=j
     · subst e
       rw[CG ⟨rfl,i⟩]at g;exact f.hca _ (aE l) _ i b (List.mem_of_mem_take g)
     rw[CD λy=>e y.1]at g;exact f.hca _ (aE l) _ i b g
   hin:=λb g=>by
     rcases List.mem_cons.1 g with rfl|g
     · exact n.any
     exact f.hin b g
   nd:=r.nodup_iff.1 f.nd
   mem:=λb=>by rw[<-r.mem_iff];exact f.mem b}
def Mz(a:Int)(o:bf):Bool:=decide (a<=o.Addr)
def addO(h:ac)(a size t:Int):ac:={h with X:=jD (Mz a) h.X ⟨h.g,a,size,t⟩,g:=h.g+1}
def Dg(a:dU h=true)(b:h.g<1000000):decide (0<=h.a4/\h.a4<=1073741823/\0<=h.a5/\h.a5<=1000000/\0<=h.a9/\h.a9<=1000/\1<=h.g+1/\h.g+1<=1000000)=true:=by
 unfold dU at a;rw[C0]at a |-;omega
def cm.addO{h:ac}{E:List Int}{a size t:Int}(c:cm h (a::E))(d:Q7 h.H h.S ⟨h.g,a,size,t⟩)(p:h.g<1000000)(q:0<=t/\t<=h.M.length - 1):cm (addO h a size t) E:=by
 have i:=lQ (Mz a) h.X ⟨h.g,a,size,t⟩;have n:(a::E++holders h).Perm (E++holders (Ab.addO h a size t)):=by
  have r:=i.map (·.Addr);refine List.perm_iff_count.2 λb=>?_
  have u:=r.count_eq b;simp only[I8,List.count_cons]at u;simp only[holders,gj,Ab.addO,O8,List.cons_append,List.count_cons];omega
 have j:=c.nd;rw[List.cons_append]at j;obtain⟨k,-⟩:=List.nodup_cons.1 j;have l:∀o∈h.X,o.Addr≠a:=λo d e=>k (C4.2 (.inr (by unfold holders;simp only[C4];exact .inl (.inl (.inl (Y5.2 ⟨o,d,e⟩))))))
 exact {c with
   nums:=Dg c.nums p
   osr:=mW (f:=λo:bf=>o.Addr) (y:=⟨h.g,a,size,t⟩) c.osr l
   onu:=λo d=>by
     rcases dH.1 d with rfl|d
     · have:=c.nums
       unfold dU at this;rw[C0]at this;exact⟨by show 1<=h.g;omega,by show h.g<=h.g+1 - 1;omega,q⟩
     have:=c.onu o d;exact⟨this.1,by show o.Id<=h.g+1 - 1;omega,this.2.2⟩
   oid:=by
     show((jD (Mz a) h.X ⟨h.g,a,size,t⟩).map (·.Id)).Nodup;rw[(i.map _).nodup_iff,I8];refine List.nodup_cons.2 ⟨λw=>?_,c.oid⟩;obtain⟨o,d,e⟩:=Y5.1 w;have:=(c.onu o d).2.1;simp only at e;omega
   oow:=λo g=>by
     rcases dH.1 g with rfl|g
     · exact d
     exact c.oow o g
   hin:=λb A=>c.hin b (O7 _ A)
   nd:=n.nodup_iff.1 c.nd
   mem:=λb=>by rw[<-n.mem_iff];exact c.mem b}
def fV(xs:List ay)(n:Int):Nat->Int
 | 0=>-1
 | i+1=>if n<=(nth xs i).o/\(fV xs n i<0\/(nth xs i).o<(nth xs (fV xs n i).toNat).o) then(i:Nat) else fV xs n i
def fB(xs:List ay)(n:Int):Int:=fV xs n xs.length
def aA(xs:List ay)(n:Int):List ay × Int × Bool:=
 if fB xs n<0 then(xs,-1,false)
 else if(nth xs (fB xs n).toNat).o=n then(dele xs (fB xs n).toNat,(nth xs (fB xs n).toNat).At,true)
 else(xs.set (fB xs n).toNat ⟨(nth xs (fB xs n).toNat).At+n,(nth xs (fB xs n).toNat).o - n⟩,(nth xs (fB xs n).toNat).At,true)
def un(xs:List ay)(n:Int):∀i,i<=xs.length->fV xs n i = -1\/(0<=fV xs n i/\fV xs n i<i/\n<=(nth xs (fV xs n i).toNat).o)
 | 0,_=>.inl rfl
 | i+1,b=>by
  have a:=un xs n i ω;unfold fV;split
  ·rename_i h;right;rw[t4];exact⟨ω,ω,h.1⟩
  rcases a with h|h
  ·exact .inl h
  exact .inr ⟨h.1,ω,h.2.2⟩
variable{xs:List ay}
def AC(h:jS xs){j:Nat}(a:i<j)(b:j<xs.length):(nth xs i).At+(nth xs i).o<(nth xs j).At:=by
 have:=List.pairwise_iff_getElem.1 h.1 i j ω b a
 rwa [<-b6 (X3 (show i<xs.length by omega)),<-b6 (X3 b)]at this
variable{p:Int}
def yn : RH xs p↔∃j,j<xs.length/\(nth xs j).At<=p/\p<(nth xs j).At+(nth xs j).o:=by
 unfold RH;constructor
 ·rintro⟨r,b,h⟩
  obtain⟨j,a,rfl⟩:=bJ b;exact⟨j,a,h⟩
 rintro⟨j,a,h⟩
 exact⟨_,aE a,h⟩
def pB{pages:Int}(h:bI pages xs=true)(T:1<=n)(t:(aA xs n).2.2=true) :
  bI pages (aA xs n).1=true/\0<=(aA xs n).2.1/\(aA xs n).2.1+n<=pages/\(∀p,RH (aA xs n).1 p↔RH xs p/\¬((aA xs n).2.1<=p/\p<(aA xs n).2.1+n))/\∀p,(aA xs n).2.1<=p->p<(aA xs n).2.1+n->RH xs p:=by
 obtain⟨o,u,J⟩:=ig.1 h;have K:=un xs n xs.length (I4 _);unfold aA at t |-;change fB xs n = -1\/_ at K;split at t
 ·cases t
 rename_i w;rw[CD w];obtain⟨O,P,L⟩:=K.resolve_left ω;change 0<=fB xs n at O;change fB xs n<xs.length at P;change n<=(nth xs (fB xs n).toNat).o at L;generalize Q:(fB xs n).toNat=b at L |-;have g:b<xs.length:=ω
 have M:=u _ (aE g);have q:∀j,j<xs.length->j≠b->(nth xs j).At+(nth xs j).o<(nth xs b).At\/(nth xs b).At+(nth xs b).o<(nth xs j).At:=λj a k=>by
  rcases Nat.lt_or_gt_of_ne k with A|B
  ·exact .inl (AC o A g)
  exact .inr (AC o B a)
 split
 ·rename_i R
  have C:(dele xs b).Sublist xs:=oC ..;refine⟨ig.2 ⟨⟨o.1.sublist C,λy l=>o.2 y (C.subset l)⟩,λy l=>u y (C.subset l),J⟩,M.1,by show(nth xs b).At+n<=pages;omega,λp=>?_,λp D E=>yn.2 ⟨b,g,D,by show p<_;simp only at E;omega⟩⟩;simp only;rw[yn (xs:=xs)];constructor
  ·rintro⟨r,F,f,d⟩
   obtain⟨j,a,k,rfl⟩:=mj.1 F;refine⟨⟨j,a,f,d⟩,λe=>?_⟩;have:=q j a k;omega
  rintro⟨⟨j,a,f,d⟩,G⟩
  exact⟨_,mj.2 ⟨j,a,λe=>by subst e;omega,rfl⟩,f,d⟩
 rename_i R;have c:∀j,nth (xs.set b ⟨(nth xs b).At+n,(nth xs b).o - n⟩) j=if j=b then⟨(nth xs b).At+n,(nth xs b).o - n⟩ else nth xs j:=λj=>by
  rw[eB];by_cases e:j=b
  ·rw[CG ⟨e.symm,ω⟩,CG e]
  rw[CD λz=>e z.1.symm,CD e]
 refine⟨ig.2 ⟨⟨?_,λy l=>?_⟩,λy l=>?_,J⟩,M.1,by show(nth xs b).At+n<=pages;omega,λp=>?_,λp D E=>yn.2 ⟨b,g,D,by simp only at E;omega⟩⟩
 ·rw[List.pairwise_iff_getElem]
  intro i j N a H;rw[<-b6 (X3 N),<-b6 (X3 a),c,c];simp only[O2]at N a;have S:=AC o H a;split
  ·rename_i e;subst e
   rw[CD ω];simp only;omega
  split
  ·rename_i e;subst e
   simp only;omega
  exact S
 ·rcases je l with rfl|⟨j,a,-,rfl⟩
  ·simp only;omega
  exact o.2 _ (aE a)
 ·rcases je l with rfl|⟨j,a,-,rfl⟩
  ·simp only;omega
  exact u _ (aE a)
 simp only;rw[yn,yn,O2];constructor
 ·rintro⟨j,a,f,d⟩
  rw[c]at f d;split at f
  ·rename_i e;subst e
   rw[CG rfl]at d;simp only at f d;exact⟨⟨j,a,ω,ω⟩,ω⟩
  rename_i e;rw[CD e]at d;have:=q j a e;exact⟨⟨j,a,f,d⟩,ω⟩
 rintro⟨⟨j,a,f,d⟩,G⟩
 refine⟨j,a,?_⟩;rw[c];split
 ·rename_i e;subst e
  simp only;omega
 exact⟨f,d⟩
def pP(k:af):Int:=eP (λu=>!u) k.G.U.c
def sS(k:af)(p:Int)(f:Nat):af:={k with G:=⟨⟨k.G.U.W,k.G.U.c.set f true⟩,⟨k.G.Q.J.set p.toNat ⟨2,(f:Nat)⟩⟩⟩}
def dB(k:af)(p:Int):af × Bool:=if refd k=true\/pP k<0 then(dA k,false) else(sS (dA k) p (pP k).toNat,true)
def GB(h:¬pP k<0):(pP k).toNat<k.G.U.c.length/\nth k.G.U.c (pP k).toNat=false:=by
 unfold pP at h |-;rcases wP (λu=>!u) k.G.U.c with e|⟨n,a,e,b⟩
 ·omega
 rw[e,t4];exact⟨a,by simpa using b⟩
def D4(h:aK k=true){f:Nat}(b:f<k.G.U.c.length)(c:nth k.G.U.c f=false)(q:Nat)(d:q<k.G.Q.J.length)(g:(nth k.G.Q.J q).l≠0):(nth k.G.Q.J q).d≠(f:Nat):=by
 obtain⟨j,l,n,i,o⟩:=aI.1 h;intro e;have a:=i f b;rw[c]at a;have:=of_decide_eq_false a.symm;exact this (fA.2 ⟨q,d,g,e⟩)
def TN{f:Nat}(h:aK k=true)(L:0<=p/\p<k.G.Q.J.length)(n:(nth k.G.Q.J p.toNat).l=0)(o:f<k.G.U.c.length)(r:nth k.G.U.c f=false):aK (sS k p f)=true:=by
 have t:=D4 h o r;obtain⟨u,w,y,A,B⟩:=aI.1 h;obtain⟨C,D,E,F⟩:=bh.1 w;obtain⟨G,H,J⟩:=br.1 y;have a:∀q,nth (k.G.Q.J.set p.toNat ⟨2,(f:Nat)⟩) q=if p.toNat=q then⟨2,(f:Nat)⟩ else nth k.G.Q.J q:=λq=>by
  rw[eB];by_cases i:p.toNat=q
  ·rw[CG ⟨i,ω⟩,CG i]
  rw[CD (λe=>i e.1),CD i]
 refine aI.2 ⟨u,bh.2 ⟨C,D,by simp only[sS,O2];exact E,λj b=>?_⟩,br.2 ⟨λj b=>?_,?_,?_⟩,λj b=>?_,B⟩
 ·replace b:j<k.G.U.W.length:=b
  show jh (nth k.G.U.W j) (nth (k.G.U.c.set f true) j)=true;have d:=F j b;rw[eB];split
  ·unfold jh at d |-
   simp only[I0,C0,I5]at d |-;refine⟨d.1,λv K=>?_⟩;have:=d.2 v K;unfold ky at this |-;simp only[I0]at this;rw[this.1];rfl
  exact d
 ·simp only[sS,O2]at b |-
  rw[a];split
  ·unfold mS;rw[C0];simp only;omega
  exact G j b
 ·simp only[sS,O2];exact H
 ·simp only[sS,O2];exact J
 simp only[sS,O2]at b;show nth (k.G.U.c.set f true) j=_;rw[eB];by_cases e:f=j
 ·subst e
  rw[CG ⟨rfl,b⟩];refine(O0 (fA.2 ⟨p.toNat,?_,?_,?_⟩)).symm
  ·simp only[sS,O2];omega
  ·simp only[sS,a,CG];decide
  simp only[sS,a,CG]
 rw[CD λz=>e z.1,A j b];refine decide_eq_decide.2 ?_;rw[fA,fA];simp only[sS,O2,a];constructor
 ·rintro⟨q,l,g,c⟩
  refine⟨q,l,?_⟩;rw[CD λz=>g (by rw[<-z];exact n)];exact⟨g,c⟩
 rintro⟨q,l,g,c⟩
 by_cases z:p.toNat=q
 ·rw[CG z]at c
  simp only at c;omega
 rw[CD z]at g c;exact⟨q,l,g,c⟩
structure FZ(k:af)(p:Int)(r:af × Bool):Prop where
 ker:aK r.1=true
 len:r.1.G.Q.J.length=k.G.Q.J.length
 calls:r.1.Calls=k.Calls+1
 ref:r.1.b=k.b
 cells:r.1.G.U.W=k.G.U.W
 no:r.2=false->r.1=dA k
 yes:r.2=true->∃f:Nat,f<k.G.U.c.length/\nth k.G.U.c f=false/\(∀q:Nat,nth r.1.G.Q.J q=if(q:Int)=p then⟨2,(f:Nat)⟩ else nth k.G.Q.J q)/\∀q,q<k.G.Q.J.length->(nth k.G.Q.J q).l≠0->(nth k.G.Q.J q).d≠(f:Nat)
def FZ.of(h:aK k=true)(c:k.Calls≠100000)(f:0<=p/\p<k.G.Q.J.length)(g:(nth k.G.Q.J p.toNat).l=0):FZ k p (dB k p):=by
 unfold dB;split
 ·exact⟨ox h c,rfl,rfl,rfl,rfl,λ_=>rfl,λe=>by cases e⟩
 rename_i d;rw[not_or]at d;obtain⟨a,b⟩:=GB d.2;refine⟨TN (ox h c) f g a b,by simp[sS,dA],rfl,rfl,rfl,λe=>(by cases e),λ_=>⟨_,a,b,λq=>?_,λq=>D4 h a b q⟩⟩;simp only[sS,dA,eB];by_cases e:(q:Int)=p
 ·rw[CG ⟨ω,ω⟩,CG e]
 rw[CD λz=>e ω,CD e]
def bB(k:af)(p:Int):Nat->af × Nat
 | 0=>(k,0)
 | i+1=>if(bB k p i).2=i then((dB (bB k p i).1 (p+(i:Nat))).1,if(dB (bB k p i).1 (p+(i:Nat))).2=true then i+1 else i) else bB k p i
structure m6(k:af)(p:Int)(i:Nat)(r:af × Nat):Prop where
 ker:aK r.1=true
 len:r.1.G.Q.J.length=k.G.Q.J.length
 calls:k.Calls<=r.1.Calls/\r.1.Calls<=k.Calls+i
 ref:r.1.b=k.b
 cells:r.1.G.U.W=k.G.U.W
 le:r.2<=i
 out:∀q:Nat,¬(p<=q/\(q:Int)<p+r.2)->nth r.1.G.Q.J q=nth k.G.Q.J q
 new:∀q:Nat,p<=q->(q:Int)<p+r.2->(nth r.1.G.Q.J q).l=2/\∀u:Nat,u<k.G.Q.J.length->(nth r.1.G.Q.J u).l≠0->(nth r.1.G.Q.J u).d=(nth r.1.G.Q.J q).d->u=q
def m6.of{k:af}{p:Int}{n:Nat}(h:aK k=true)(G:k.Calls+n<=100000)(H:0<=p/\p+n<=k.G.Q.J.length)(C:∀q:Nat,p<=q->(q:Int)<p+n->(nth k.G.Q.J q).l=0):∀i,i<=n->m6 k p i (bB k p i)
 | 0,_=>⟨h,rfl,⟨Z6 _,by show k.Calls<=k.Calls+((0:Nat):Int);omega⟩,rfl,rfl,I4 _,λ_ _=>rfl,λq o d=>by simp only[bB]at d;omega⟩
 | i+1,L=>by
  have a:=m6.of h G H C i ω;unfold bB;split
  case isFalse=>exact⟨a.ker,a.len,⟨a.calls.1,by have:=a.calls.2;omega⟩,a.ref,a.cells,by have:=a.le;omega,a.out,a.new⟩
  rename_i t;generalize bB k p i=r at a t |-;have J:=a.calls;have y:(nth r.1.G.Q.J (p+(i:Nat)).toNat).l=0:=by
   rw[a.out _ ω];exact C _ ω ω
  have s:=FZ.of (p:=p+(i:Nat)) a.ker ω ⟨ω,by rw[a.len];omega⟩ y;generalize dB r.1 (p+(i:Nat))=w at s |-;refine⟨s.ker,s.len.trans a.len,⟨by simp only[s.calls];omega,by simp only[s.calls];omega⟩,s.ref.trans a.ref,s.cells.trans a.cells,by simp only;split<;>omega,λq j=>?_,λq o d=>?_⟩
  ·simp only at j |-
   cases e:w.2 with
   | false=>
    rw[s.no e];rw[e]at j;exact a.out q (by rw[t];simpa using j)
   | true=>
    obtain⟨f,-,-,g,-⟩:=s.yes e;rw[e,CG rfl]at j;rw[g,CD ω];exact a.out q ω
  simp only at d |-;cases e:w.2 with
  | false=>
   rw[s.no e];rw[e]at d;exact a.new q o (by rw[t];simpa using d)
  | true=>
   obtain⟨f,-,-,g,D⟩:=s.yes e;rw[e,CG rfl]at d;have A:q<k.G.Q.J.length:=ω
   rw[g];by_cases E:(q:Int)=p+(i:Nat)
   ·rw[CG E]
    refine⟨rfl,λu B c b=>?_⟩;rw[g]at c b;by_cases l:(u:Int)=p+(i:Nat)
    ·omega
    rw[CD l]at c b;exact absurd b (D u (by rw[a.len];exact B) c)
   rw[CD E];obtain⟨F,K⟩:=a.new q o ω;refine⟨F,λu B c b=>?_⟩;rw[g]at c b;by_cases l:(u:Int)=p+(i:Nat)
   ·rw[CG l]at b
    exact absurd b.symm (D q (by rw[a.len];exact A) (by rw[F];decide))
   rw[CD l]at c b;exact K u B c b
def m6.undo{r:af × Nat}(s:m6 k p i r)(h:aK k=true)(d:0<=p/\p+i<=k.G.Q.J.length)(e:∀q:Nat,p<=q->(q:Int)<p+i->(nth k.G.Q.J q).l=0):aK (gH r.1 p r.2)=true/\tEq k.G.Q (gH r.1 p r.2).G.Q:=by
 have f:=s.le;have g:=za s.ker d.1 r.2 (by rw[s.len];omega);refine⟨mX s.ker p r.2,((kj r.1 p r.2).1).trans s.len,λq=>?_⟩;rw[g];split
 ·rename_i a
  have c:=e q a.1 ω;obtain⟨-,-,j,-⟩:=aI.1 h;have b:=(br.1 j).1 q ω;unfold mS at b;rw[C0]at b;exact⟨⟨λz=>absurd rfl z,λz=>absurd c z⟩,(b.2.2.1 c).symm⟩
 rename_i a;rw[s.out q a];exact⟨Iff.rfl,rfl⟩
def Pg.add{t h:aG}{O r:List ay}{b:List au}{d:List aB}{n:Nat}(i:Pg t O sp la)(E:h.J.length=t.J.length)(S:p+n<=t.J.length)(hp:0<=p)(j:∀q:Nat,¬(p<=q/\(q:Int)<p+n)->nth h.J q=nth t.J q)(a:∀q:Nat,p<=q->(q:Int)<p+n->(nth h.J q).l=2/\∀u:Nat,u<t.J.length->(nth h.J u).l≠0->(nth h.J u).d=(nth h.J q).d->u=q)(J:∀q,RH r q↔RH O q/\¬(p<=q/\q<p+n))(F:∀q,q∈pgs b d↔q∈pgs sp la\/(p<=q/\q<p+n))(w:∀s∈b,0<=s.R/\(s∈sp\/(p<=s.R/\s.R<p+n)))(K:∀l∈d,l∈la\/∀q∈lpgs l l.a0.toNat,p<=q/\q<p+n):Pg h r b d:=by
 have f:∀q:Nat,q<t.J.length->((nth h.J q).l≠0↔(q:Int)∈pgs b d):=λq c=>by
  rw[F];by_cases e:p<=q/\(q:Int)<p+n
  ·have:=(a q e.1 e.2).1
   exact⟨λ_=>.inr e,λ_=>by rw[this];decide⟩
  rw[j q e,i.own q c];exact⟨.inl,λz=>z.resolve_right e⟩
 refine⟨λl A q c u k L G=>?_,λq c=>?_,λq c=>f q (by rw[<-E];exact c),λq c=>?_,λs P u k M H=>?_⟩
 ·rw[E]at k
  have B:=mb (sp:=b) A c;have C:q<t.J.length:=by
   rcases(F _).1 B with g|g
   ·have:=i.bnd _ g;omega
   omega
  by_cases e:p<=q/\(q:Int)<p+n
  ·exact(a q e.1 e.2).2 u k L G
  have N:=(K l A).resolve_right λg=>e (g _ c)
  by_cases o:p<=u/\(u:Int)<p+n
  ·exact((a u o.1 o.2).2 q C ((f q C).2 B) G.symm).symm
  rw[j q e,j u o]at G;rw[j u o]at L;exact i.one l N q c u k L G
 ·rw[E]
  rcases(F _).1 c with g|g
  ·exact i.bnd _ g
  omega
 ·rw[E]at c
  rw[J];by_cases e:p<=q/\(q:Int)<p+n
  ·have:=(a q e.1 e.2).1
   exact⟨λ_ z=>z.2 e,λ_=>by rw[this];decide⟩
  rw[j q e,i.fre q c];exact⟨λz y=>z y.1,λz y=>z ⟨y,e⟩⟩
 obtain⟨T,U⟩:=w s P;obtain⟨V,W⟩:=w u k;have D:∀y∈b,0<=y.R->y.R.toNat<t.J.length/\((y.R.toNat:Nat):Int)=y.R/\(nth h.J y.R.toNat).l≠0:=λy X Y=>by
  have g:=f9 (la:=d) X;have Q:y.R.toNat<t.J.length:=by
   rcases(F _).1 g with R|R
   ·have:=i.bnd _ R;omega
   omega
  exact⟨Q,ω,(f _ Q).2 (by rw[show((y.R.toNat:Nat):Int)=y.R by omega];exact g)⟩
 obtain⟨Z,sc,sd⟩:=D s P T;obtain⟨ub,uc,ud⟩:=D u k V;by_cases es:p<=s.R/\s.R<p+n
 ·have:=(a s.R.toNat ω ω).2 _ ub ud H.symm
  omega
 by_cases o:p<=u.R/\u.R<p+n
 ·have:=(a u.R.toNat ω ω).2 _ Z sd H
  omega
 rw[j _ ω,j _ ω]at H;exact i.mesh s (U.resolve_right es) u (W.resolve_right o) M H
def Hn{a:List au}{b:List aB}(c:a.Perm sp)(d:b.Perm la):(pgs a b).Perm (pgs sp la):=by
 unfold pgs;exact(c.map _).append (d.flatMap_right _)
def Gg(p:Int)(s:au):Bool:=decide (p<=s.R)
def RT(p:Int)(l:aB):Bool:=decide (p<=l.R)
def addS(h:ac)(k:af)(a:List ay)(p c:Int):ac:={h with K:=k,a:=a,H:=jD (Gg p) h.H ⟨p,c,0⟩}
def jY(a:cm h E)(j:1<=n)(k:(aA h.a n).2.2=true):0<=(aA h.a n).2.1/\(aA h.a n).2.1+n<=(tbl h).J.length/\(∀q:Nat,(aA h.a n).2.1<=q->(q:Int)<(aA h.a n).2.1+n->(nth (tbl h).J q).l=0)/\∀q:Int,(aA h.a n).2.1<=q->q<(aA h.a n).2.1+n->q∉pgs h.H h.S:=by
 obtain⟨r,l,f,t,o⟩:=pB a.rng j k;have g:∀q:Nat,(aA h.a n).2.1<=q->(q:Int)<(aA h.a n).2.1+n->(nth (tbl h).J q).l=0:=λq b c=>by
  have d:q<(tbl h).J.length:=by
   have:(aA h.a n).2.1+n<=((tbl h).J.length:Nat):=f;omega
  by_cases e:(nth (tbl h).J q).l=0
  ·exact e
  exact absurd (o q b c) ((a.pg.fre q d).1 e)
 refine⟨l,f,g,λq b c i=>?_⟩;have u:=a.pg.bnd q i;obtain⟨m,rfl⟩:=v4 (show 0<=q by omega);have p:=(a.pg.own m ω).2 i;exact p (g m b c)
def cm.addS{h:ac}{E:List Int}{c:Int}(a:cm h E)(H:0<=c/\c<=3)(F:(aA h.a 1).2.2=true){k:af}(s:FZ h.K (aA h.a 1).2.1 (k,true)):cm (addS h k (aA h.a 1).1 (aA h.a 1).2.1 c) E:=by
 obtain⟨U,G,r3,J,r5⟩:=pB a.rng (Z6 _) F;obtain⟨-,V,u3,W⟩:=jY a (Z6 _) F;generalize (aA h.a 1).2.1=p at G r3 J r5 V u3 W s |-;generalize (aA h.a 1).1=fr at U J |-;obtain⟨f,f1,f2,K,f4⟩:=s.yes rfl;have M:=(br.1 (aI.1 a.ker).2.2.1).2.2;change (tbl h).J.length<=32 at M;have X:=a.L;have N:=lQ (Gg p) h.H ⟨p,c,0⟩;have O:=Hn N (List.Perm.refl h.S);have w:(pgs (jD (Gg p) h.H ⟨p,c,0⟩) h.S).Perm (p::pgs h.H h.S):=O;have B:p∉pgs h.H h.S:=W p (Z6 _) ω;have P:∀z∈h.H,z.R≠p:=λz g e=>B (by rw[<-e];exact f9 g)
 have i:∀b d,lr (jD (Gg p) h.H ⟨p,c,0⟩) b d↔lr h.H b d:=λb d=>by
  constructor
  ·rintro⟨s,C,A,Q⟩
   rcases dH.1 C with rfl|C
   ·exact absurd A (Er rfl b)
   exact⟨s,C,A,Q⟩
  rintro⟨s,C,A⟩
  exact⟨s,dH.2 (.inr C),A⟩
 exact {a with
   ker:=s.ker
   rng:=by show bI ((k.G.Q.J.length:Nat):Int) fr=true;rw[s.len];exact U
   lay:=by
     obtain⟨l1,l2,l3⟩:=fe a.lay;unfold bA;simp only[I0,C0];refine⟨⟨I5.2 λz g=>?_,l2⟩,w.nodup_iff.2 (List.nodup_cons.2 ⟨B,l3⟩)⟩;rcases dH.1 g with rfl|g
     · have R:0<=lim c:=by
         have:=(gC H).1;obtain rfl|rfl|rfl|rfl:c=0\/c=1\/c=2\/c=3:=ω
         all_goals decide
       exact O0 ⟨G,by show p<=31;omega,H.1,H.2,Z6 _,R⟩
     exact X.sok z g
   srs:=mW (f:=λz:au=>z.R) (y:=⟨p,c,0⟩) a.srs P
   pg:=by
     refine a.pg.add (p:=p) (n:=1) s.len (by exact V) G (λq Y=>?_) (λq q1 q2=>?_) (λq=>J q) (λq=>?_) (λz g=>?_) (λl hl=>.inl hl)
     · exact(K q).trans (CD ω)
     · have Y:(q:Int)=p:=ω
       have Z:nth k.G.Q.J q = ⟨2,(f:Nat)⟩:=(K q).trans (CG Y);refine⟨I1 aN.l Z,λu S t r=>?_⟩;have fu:nth k.G.Q.J u=if(u:Int)=p then⟨2,(f:Nat)⟩ else nth h.K.G.Q.J u:=K u
       change (nth k.G.Q.J u).l≠0 at t;change (nth k.G.Q.J u).d=(nth k.G.Q.J q).d at r;rw[fu]at t r;rw[Z]at r;by_cases eu:(u:Int)=p
       · omega
       rw[CD eu]at t r;exact absurd r (f4 u S t)
     · show q∈pgs (jD (Gg p) h.H ⟨p,c,0⟩) h.S↔_
       rw[w.mem_iff,List.mem_cons];constructor
       · rintro(e|e)
         · exact .inr ⟨ω,ω⟩
         exact .inl e
       rintro(e|e)
       · exact .inr e
       exact .inl ω
     rcases dH.1 g with rfl|g
     · exact⟨G,.inr ⟨Z6 _,by show p<p+((1:Nat):Int);omega⟩⟩
     exact⟨(aP (X.sok z g)).1,.inl g⟩
   oow:=λo F=>by
     rcases a.oow o F with⟨z,g,A,Q⟩|A
     · exact .inl ⟨z,dH.2 (.inr g),A,Q⟩
     exact .inr A
   hca:=λd hd j hj b D=>(i b j).2 (a.hca d hd j hj b D)
   hqu:=λy T=>(i _ _).2 (a.hqu y T)
   hfl:=λb D=>(i _ _).2 (a.hfl b D)
   hin:=λb D=>(i _ _).2 (a.hin b D)
   mem:=λb=>(a.mem b).trans (by
     show sY h.H h.S b↔sY (jD (Gg p) h.H ⟨p,c,0⟩) h.S b;unfold sY;rw[i])
   job:=λhm=>by
     obtain⟨j1,⟨y,T,e1⟩,⟨u,S,e2⟩⟩:=a.job hm;exact⟨j1,⟨y,dH.2 (.inr T),e1⟩,⟨u,dH.2 (.inr S),e2⟩⟩}
def addL(h:ac)(k:af)(a:List ay)(p n size t:Int):ac:={h with K:=k,a:=a,S:=jD (RT p) h.S ⟨p,n,size⟩,X:=jD (Mz (16*p)) h.X ⟨h.g,16*p,size,t⟩,g:=h.g+1}
def cm.addL{h:ac}{E:List Int}{size t:Int}{n:Nat}(a:cm h E)(g:9<=size/\size<=1000)(J:(n:Int)=(size+15) / 16)(i:(aA h.a n).2.2=true){k:af}(s:m6 h.K (aA h.a n).2.1 n (k,n))(hn:h.g<1000000)(ht:0<=t/\t<=h.M.length - 1) :
  cm (addL h k (aA h.a n).1 (aA h.a n).2.1 n size t) E:=by
 have B:(1:Int)<=n:=ω
 obtain⟨V,K,r3,M,r5⟩:=pB a.rng B i;obtain⟨-,W,u3,H⟩:=jY a B i;generalize (aA h.a n).2.1=p at K r3 M r5 W u3 H s |-;generalize (aA h.a n).1=fr at V M |-;have N:=(br.1 (aI.1 a.ker).2.2.1).2.2;change (tbl h).J.length<=32 at N;have O:=a.L;have P:=lQ (RT p) h.S ⟨p,n,size⟩;have C:=lQ (Mz (16*p)) h.X ⟨h.g,16*p,size,t⟩;have Q:lpgs ⟨p,n,size⟩ ((n:Nat):Int).toNat=lpgs ⟨p,n,size⟩ n:=by rw[t4]
 have D:(pgs h.H (jD (RT p) h.S ⟨p,n,size⟩)).Perm (lpgs ⟨p,n,size⟩ n++pgs h.H h.S):=by
  refine(Hn (List.Perm.refl h.H) P).trans ?_;unfold pgs;rw[List.flatMap_cons];simp only[Q];rw[<-Y7,<-Y7];exact List.perm_append_comm.append_right _
 have u:∀q,q∈lpgs ⟨p,n,size⟩ n↔p<=q/\q<p+n:=λq=>by
  rw[hP];constructor
  ·rintro⟨j,hj,rfl⟩;exact⟨by show p<=p+(j:Int);omega,by show p+(j:Int)<_;omega⟩
  rintro⟨X,Y⟩;exact⟨(q - p).toNat,ω,by show q=p+_;omega⟩
 have R:(lpgs ⟨p,n,size⟩ n).Nodup:=by
  unfold lpgs List.Nodup;rw[List.pairwise_map];exact List.nodup_range.imp λr e=>r (by simp only at e;omega)
 have r:∀z∈h.S,z.R≠p:=λz g e=>H p (Z6 _) ω (by rw[<-e];exact mb g (hP.2 ⟨0,by have:=cf (O.lok z g);omega,ω⟩))
 have S:¬sY h.H h.S (16*p):=by
  rintro(⟨z,g,d,-⟩|⟨l,c,e⟩)
  ·exact H p (Z6 _) ω (by rw[show p=z.R by have a1:=d.1;have a2:=d.2.1;omega];exact f9 g)
  exact r l c ω
 have F:(16*p)∉E++holders h:=λT=>S ((a.mem _).1 T)
 have U:∀o∈h.X,o.Addr≠16*p:=λo i e=>F (C4.2 (.inr (by unfold holders;simp only[C4];exact .inl (.inl (.inl (Y5.2 ⟨o,i,e⟩))))))
 have Z:(E++holders (Ab.addL h k fr p n size t)).Perm ((16*p)::(E++holders h)):=by
  have h0:=C.map (·.Addr);refine List.perm_iff_count.2 λb=>?_
  have d:=h0.count_eq b;simp only[I8,List.count_cons]at d;simp only[holders,gj,Ab.addL,O8,List.count_cons];omega
 exact {a with
   ker:=s.ker
   rng:=by show bI ((k.G.Q.J.length:Nat):Int) fr=true;rw[s.len];exact V
   lay:=by
     obtain⟨l1,l2,l3⟩:=fe a.lay;unfold bA;simp only[I0,C0];refine⟨⟨l1,I5.2 λz w=>?_⟩,D.nodup_iff.2 (List.nodup_append.2 ⟨R,l3,λq G b hb e=>?_⟩)⟩
     · rcases dH.1 w with rfl|w
       · exact O0 ⟨g.1,g.2,J,K,by show p<=32 - (n:Int);omega⟩
       exact O.lok z w
     subst e;have:=(u q).1 G;exact H q this.1 this.2 hb
   srl:=mW (f:=λz:aB=>z.R) (y:=⟨p,n,size⟩) a.srl r
   pg:=by
     refine a.pg.add (p:=p) (n:=n) s.len (by exact W) K (λq G=>s.out q G) (λq X Y=>s.new q X Y) (λq=>M q) (λq=>?_) (λz g=>⟨(aP (O.sok z g)).1,.inl g⟩) (λl c=>?_)
     · show q∈pgs h.H (jD (RT p) h.S ⟨p,n,size⟩)↔_
       rw[D.mem_iff,C4,u];exact Or.comm
     rcases dH.1 c with rfl|c
     · exact .inr λq G=>(u q).1 (by simpa using G)
     exact .inl c
   nums:=Dg a.nums hn
   osr:=mW (f:=λo:bf=>o.Addr) (y:=⟨h.g,16*p,size,t⟩) a.osr U
   onu:=λo i=>by
     rcases dH.1 i with rfl|i
     · have:=a.nums
       unfold dU at this;rw[C0]at this;exact⟨by show 1<=h.g;omega,by show h.g<=h.g+1 - 1;omega,ht⟩
     have:=a.onu o i;exact⟨this.1,by show o.Id<=h.g+1 - 1;omega,this.2.2⟩
   oid:=by
     show((jD (Mz (16*p)) h.X ⟨h.g,16*p,size,t⟩).map (·.Id)).Nodup;rw[(C.map _).nodup_iff,I8];refine List.nodup_cons.2 ⟨λT=>?_,a.oid⟩;obtain⟨o,i,e⟩:=Y5.1 T;have:=(a.onu o i).2.1;simp only at e;omega
   oow:=λo A=>by
     rcases dH.1 A with rfl|A
     · exact .inr ⟨_,dH.2 (.inl rfl),rfl,rfl⟩
     rcases a.oow o A with d|⟨l,c,d⟩
     · exact .inl d
     exact .inr ⟨l,dH.2 (.inr c),d⟩
   nd:=Z.nodup_iff.2 (List.nodup_cons.2 ⟨F,a.nd⟩)
   mem:=λb=>by
     rw[Z.mem_iff,List.mem_cons,a.mem b];show _↔sY h.H (jD (RT p) h.S ⟨p,n,size⟩) b;unfold sY;constructor
     · rintro(rfl|d|⟨l,c,e⟩)
       · exact .inr ⟨_,dH.2 (.inl rfl),rfl⟩
       · exact .inl d
       exact .inr ⟨l,dH.2 (.inr c),e⟩
     rintro(d|⟨l,c,e⟩)
     · exact .inr (.inl d)
     rcases dH.1 c with rfl|c
     · exact .inl e
     exact .inr (.inr ⟨l,c,e⟩)}
structure JK(h h':ac):Prop where
 job:h'.p=h.p
 msh:h'.j=h.j
 sp:∀s∈h.H,gS h s.R=true->∃s'∈h'.H,s'.R=s.R/\∀u,meshable s u=true->meshable s' u=true
 ent:∀q:Nat,(nth (tbl h').J q).l≠0->((nth (tbl h).J q).l≠0/\(nth (tbl h').J q).d=(nth (tbl h).J q).d)\/∀u:Nat,(nth (tbl h').J u).l≠0->(nth (tbl h').J u).d=(nth (tbl h').J q).d->u=q
def JK.refl(h:ac):JK h h:=⟨rfl,rfl,λs a _=>⟨s,a,rfl,λ_ z=>z⟩,λ_ b=>.inl ⟨b,rfl⟩⟩
variable{h':ac}
def JK.pg(k:JK h h')(p:Int):gS h' p=gS h p:=by unfold gS;rw[k.job,k.msh]
def JK.trans{g i:ac}(a:JK h g)(b:JK g i):JK h i:=by
 refine⟨b.job.trans a.job,b.msh.trans a.msh,λs p j=>?_,λq k=>?_⟩
 ·obtain⟨r,t,l,w⟩:=a.sp s p j
  obtain⟨y,A,B,C⟩:=b.sp r t (by rw[a.pg,l];exact j);exact⟨y,A,B.trans l,λu c=>C u (w u c)⟩
 rcases b.ent q k with⟨d,n⟩|d
 ·rcases a.ent q d with⟨e,D⟩|e
  ·exact .inl ⟨e,n.trans D⟩
  refine .inr λu c o=>?_
  rcases b.ent u c with⟨f,E⟩|f
  ·exact e u f (by rw[<-E,<-n];exact o)
  exact(f q k o.symm).symm
 exact .inr d
def cm.mapped(a:cm h E)(b:s∈h.H):0<=s.R/\s.R<(tbl h).J.length/\(nth (tbl h).J s.R.toNat).l≠0:=by
 have c:=(aP (a.L.sok s b)).1;have d:=a.pg.bnd _ (f9 (la:=h.S) b);refine⟨c,d,(a.pg.own s.R.toNat ω).2 ?_⟩;rw[show((s.R.toNat:Nat):Int)=s.R by omega];exact f9 b
def JK.less(c:h'.p=h.p)(d:h'.j=h.j)(e:h'.H=h.H)(b:∀q:Nat,(nth (tbl h').J q).l≠0->nth (tbl h').J q=nth (tbl h).J q):JK h h':=
 ⟨c,d,λs f _=>⟨s,by rw[e];exact f,rfl,λ_ z=>z⟩,λq a=>.inl ⟨by rw[<-b q a];exact a,by rw[b q a]⟩⟩
def JK.eq(a:h'.p=h.p)(b:h'.j=h.j)(c:h'.H=h.H)(d:tbl h'=tbl h):JK h h':=.less a b c λq _=>by rw[d]
variable{c:Int}
def JK.take{k:Int}(b:gS h (nth h.H i).R=false):JK h {h with a4:=c,H:=h.H.set i (rU (nth h.H i) k)}:=by
 refine⟨rfl,rfl,λs d a=>?_,λq f=>.inl ⟨f,rfl⟩⟩;obtain⟨j,g,rfl⟩:=bJ d;exact⟨_,qO _ g λe=>(by subst e;rw[b]at a;cases a),rfl,λ_ z=>z⟩
def ML{t:aG}{q:Nat}(h:(nth t.J q).l≠0):q<t.J.length:=by
 by_cases e:q<t.J.length
 ·exact e
 exfalso;apply h;unfold nth;rw[List.getD_eq_getElem?_getD,Z3 ω]
 rfl
def JK.addS{h:ac}{k:af}{l:List ay}{p c:Int}(s:FZ h.K p (k,true)):JK h (addS h k l p c):=by
 obtain⟨f,t,w,d,n⟩:=s.yes rfl;have b:k.G.Q.J.length=h.K.G.Q.J.length:=s.len;refine⟨rfl,rfl,λz o _=>⟨z,dH.2 (.inr o),rfl,λ_ y=>y⟩,λq g=>?_⟩;change (nth k.G.Q.J q).l≠0 at g;show((nth h.K.G.Q.J q).l≠0/\(nth k.G.Q.J q).d=(nth h.K.G.Q.J q).d)\/∀u:Nat,(nth k.G.Q.J u).l≠0->(nth k.G.Q.J u).d=(nth k.G.Q.J q).d->u=q
 by_cases e:(q:Int)=p
 ·refine .inr λu i a=>?_
  have j:=ML i;have f3u:=d u;have f3q:=d q;simp only at f3u f3q;rw[CG e]at f3q;rw[f3q]at a;by_cases r:(u:Int)=p
  ·omega
  rw[CD r]at f3u;rw[f3u]at i a;exact absurd a (n u (by rw[<-b];exact j) i)
 have f3q:=d q;simp only at f3q;rw[CD e]at f3q;rw[f3q]at g |-;exact .inl ⟨g,rfl⟩
def JK.addL{h:ac}{k:af}{g:List ay}{p size t:Int}{n:Nat}(s:m6 h.K p n (k,n)):JK h (addL h k g p n size t):=by
 have a:k.G.Q.J.length=h.K.G.Q.J.length:=s.len;refine⟨rfl,rfl,λz i _=>⟨z,i,rfl,λ_ y=>y⟩,λq b=>?_⟩;change (nth k.G.Q.J q).l≠0 at b;show((nth h.K.G.Q.J q).l≠0/\(nth k.G.Q.J q).d=(nth h.K.G.Q.J q).d)\/∀u:Nat,(nth k.G.Q.J u).l≠0->(nth k.G.Q.J u).d=(nth k.G.Q.J q).d->u=q
 by_cases e:p<=q/\(q:Int)<p+n
 ·exact .inr λu d c=>(s.new q e.1 e.2).2 u (by rw[<-a];exact ML d) d c
 have f:=s.out q e;simp only at f;rw[f]at b |-;exact .inl ⟨b,rfl⟩
def UT(m:aM)(f:Nat):aM:=⟨m.V.set f ((nth m.V f).drop 1),m.k.set (nth (nth m.V f) 0).To.toNat (nth m.k (nth (nth m.V f) 0).To.toNat++[(nth (nth m.V f) 0).Addr])⟩
def W3(m:aM)(t:Nat):aM:=⟨m.V,m.k.set t []⟩
def Ul(m:aM)(f:Nat)(p:aT):aM:=⟨m.V.set f (nth m.V f++[p]),m.k⟩
def KD{m:aM} : dE m=true↔(1<=m.V.length/\m.V.length<=4/\m.k.length=m.V.length)/\(∀i,i<m.V.length->(∀p∈nth m.V i,0<=p.To/\p.To<=(m.V.length:Int) - 1/\0<=p.Addr)/\∀a∈nth m.k i,0<=a)/\bP m m.V.length<=30:=by
 unfold dE;simp only[I0,C0,cq,iq,I5,oQ,Uf];exact and_assoc
def UZ(now:Int):List aL->Nat
 | []=>0
 | x::xs=>if x.a8<now - 100 then UZ now xs+1 else 0
def aged(h:ac)(n:Int):ac:={h with a5:=h.a5+n,q:=⟨h.q.b1,h.q.u.drop (UZ (h.a5+n) h.q.u)⟩}
def L9(h:ac)(n:Int):List Int:=(h.q.u.take (UZ (h.a5+n) h.q.u)).map (·.Addr)
def tick(h:ac)(n:Int):ac:=freeAs (aged h n) (L9 h n)
def collect(h:ac)(t:Nat):ac:=recycs t {h with e:=W3 h.e t} (nth h.e.k t)
def VT(h:ac)(t i:Nat):ac:={h with K:=U0 h.K (nth h.X i).Addr (csz (bQ (nth h.X i).a3)).toNat,X:=dele h.X i,e:=Ul h.e t ⟨(nth h.X i).a2,(nth h.X i).Addr⟩}
def PQ(h:ac)(t i:Nat):ac × Int:=
 if bQ (nth h.X i).a3<0 then(Wn h i (Xe h (nth h.X i).Addr),0)
 else if(aC (tbl h) ((nth h.X i).Addr / 16)).l=1 then(h,5)
 else if(nth h.X i).a2=t then(VO h t i,0)
 else if dE (Ul h.e t ⟨(nth h.X i).a2,(nth h.X i).Addr⟩)=true then(VT h t i,0) else(h,5)
def M0(k:af)(a v:Int):af:=setCell k (US k a) (a % 16) v
def M3{k:Int} : ∀{l s s2 c:List Int}(n:Nat),(∀x∈s2,x∈s)->tM k s l=some c->∃d,tM k s2 (l.take n)=some d/\∀x∈d,x∈c
 | [],s,s2,c,n,h,e=>by
  simp only[tM,O1,List.take_nil]at e |-;subst e;exact⟨s2,rfl,h⟩
 | a::l,s,s2,c,0,h,e=>⟨s2,rfl,λx b=>(rc (λ_ y=>y) e).1 x (h x b)⟩
 | a::l,s,s2,c,n+1,h,e=>by
  simp only[List.take_succ_cons,tM]at e |-;split at e
  ·rename_i g
   rw[CG (show good k s2 a from⟨g.1,g.2.1,g.2.2.1,λx=>g.2.2.2 (h a x)⟩)];exact M3 (l:=l) (s:=s++[a]) (s2:=s2++[a]) n (λx b=>by
     rcases C4.1 b with b|b
     · exact C4.2 (.inl (h x b))
     exact C4.2 (.inr b)) e
  cases e
def Hf:∀{a:List (List Int)}{k:Nat}{s s2:List Int}(i n:Nat),(∀x∈s2,x∈s)->(hB k s a).isSome=true->(hB k s2 (a.set i ((nth a i).take n))).isSome=true
 | [],_,_,_,_,_,_,_=>rfl
 | l::a,k,s,s2,i,n,h,e=>by
  simp only[hB,fN]at e;split at e
  ·rename_i g
   cases b:tM k s l with
   | none=>rw[b]at e;cases e
   | some j=>
    rw[b]at e;cases i with
    | zero=>
     obtain⟨c,d,f⟩:=M3 n h b;simp only[List.set_cons_zero,hB,fN];rw[CG ⟨by have:=g.1;simp only[nth,List.getD_cons_zero,Z2];omega,g.2⟩];show((tM (k:Nat) s2 (l.take n)).bind λj=>hB (k+1) j a).isSome=true;rw[d];exact vr f e
    | succ i=>
     obtain⟨o,c,d,f⟩:=rc h b;simp only[List.set_cons_succ,hB,fN];rw[CG g,d];exact Hf i n f e
  cases e
def LC{c:ax}(h:bH c=true)(k:Nat):bH (rT c k)=true:=by
 unfold bH at h |-;simp only[I0,C0]at h |-;exact⟨by simp only[rT,O2];exact h.1,Hf k _ (λ_ h=>h) h.2⟩
def mi(b:Int):Nat->List Int
 | 0=>[]
 | j+1=>if aX b (j:Nat)=true then mi b j else mi b j++[((j:Nat):Int)]
def wc{b:Int} : ∀{n:Nat}{z:Int},z∈mi b n->0<=z/\z<n/\aX b z=false
 | 0,_,h=>by cases h
 | n+1,z,h=>by
  unfold mi at h;split at h
  ·have:=wc h;exact⟨this.1,ω,this.2.2⟩
  rename_i e;rcases C4.1 h with h|h
  ·have:=wc h;exact⟨this.1,ω,this.2.2⟩
  rw[I2.1 h];exact⟨ω,ω,by simpa using e⟩
def rL(b:Int):∀n,(mi b n).length<=n
 | 0=>I4 _
 | n+1=>by have:=rL b n;unfold mi;split<;>simp<;>omega
def p6(k b:Int):List Int:=if N8 k b=true then mi b (slots k).toNat else []
def gX(h:ac)(i:Nat):List Int:=p6 (nth h.H i).Z (ee h i)
def tj{k z:Int}(h:z∈p6 k b):0<=z/\z<slots k/\aX b z=false:=by
 unfold p6 at h;split at h
 ·have:=wc h;exact⟨this.1,ω,this.2.2⟩
 cases h
def Aj(k b:Int):(p6 k b).length<=16:=by
 unfold p6;split
 ·rename_i h
  unfold N8 at h;rw[C0]at h;have:=(gC (k:=k) ⟨h.1,h.2.1⟩).2.2.1;have:=rL b (slots k).toNat;omega
 exact C1 _
def oe(h:ac)(i:Nat):Int:=nth (gX h i) (Gf h.a4 ((gX h i).length:Nat)).toNat
def slotT(h:ac)(i:Nat):ac:={h with a4:=AF h.a4,H:=h.H.set i (rU (nth h.H i) (oe h i))}
def qL(h:ac)(i:Nat):Int:=16*(nth h.H i).R+oe h i*csz (nth h.H i).Z
def wq(a:0<(gX h i).length):oe h i∈gX h i:=by
 have:=qf h.a4 (n:=((gX h i).length:Nat)) ω;exact aE ω
def cm.slotT{h:ac}{E:List Int}{i:Nat}(a:cm h E)(b:i<h.H.length)(e:0<(gX h i).length):cm (slotT h i) (qL h i::E)/\lr (slotT h i).H (qL h i) (nth h.H i).Z:=by
 obtain⟨c,d,f⟩:=tj (wq e);exact⟨a.take b ⟨c,d⟩ f (FN _),(lr.setS a.L b ⟨c,d⟩ _ _).2 (.inr ⟨rfl,.inr rfl⟩)⟩
def qb(h:ac)(c:Int)(i:Nat):Bool:=decide ((nth h.H i).Z=c)&&(!gS h (nth h.H i).R&&decide (0<(gX h i).length))
def pH(h:ac)(c:Int):Option Nat:=(List.range h.H.length).find? (qb h c)
def pX(h:ac)(c:Int):ac:=addS h (dB h.K (aA h.a 1).2.1).1 (aA h.a 1).1 (aA h.a 1).2.1 c
def pD(h:ac):Nat:=j8 (Gg (aA h.a 1).2.1) h.H
def km(h:ac)(i:Nat):ac × Int:=if(gX h i).length=0 then(h,-1) else(slotT h i,qL h i)
def en(h:ac)(t c:Nat):ac × Int:=
 if 0<(nth (nth h.M t).T c).length then({h with M:=h.M.set t (rT (nth h.M t) c)},nth (nth (nth h.M t).T c) ((nth (nth h.M t).T c).length - 1))
 else match pH h c with
 | some i=>(slotT h i,qL h i)
 | none=>if(aA h.a 1).2.2=false then(h,-1)
  else if(dB h.K (aA h.a 1).2.1).2=false then({h with K:=(dB h.K (aA h.a 1).2.1).1},-1)
  else km (pX h c) (pD h)
def MN[Inhabited α](p:α->Bool)(xs:List α)(y:α):j8 p xs<(jD p xs y).length/\nth (jD p xs y) (j8 p xs)=y:=by
 have b:=TO p xs;have a:(xs.take (j8 p xs)).length=j8 p xs:=by rw[Z2];omega
 refine⟨by rw[(lQ p xs y).length_eq,List.length_cons];omega,b6 ?_⟩;unfold jD;rw[I6 ω,a,Nat.sub_self]
 rfl
def cm.tEq{h:ac}{E:List Int}(a:cm h E){k:af}(c:aK k=true)(b:tEq (tbl h) k.G.Q):cm {h with K:=k} E/\JK h {h with K:=k}:=
 ⟨a.step (j:=h.p) (m:=h.j) c b.1 (a.pg.tEq b) a.job a.noj,⟨rfl,rfl,λs d _=>⟨s,d,rfl,λ_ z=>z⟩,λq e=>.inl ⟨(b.2 q).1.1 e,(b.2 q).2⟩⟩⟩
structure Wf(h:ac)(c:Int)(r:ac × Int):Prop where
 no:r.2<0->cm r.1 []
 yes:0<=r.2->cm r.1 [r.2]/\lr r.1.H r.2 c
 jk:JK h r.1
 nx:r.1.g=h.g
 cl:r.1.M.length=h.M.length
def lr.nn(b:cm h E){a:Int}(d:lr h.H a c):0<=a:=(lr.bd b d).1
def Wf.slot(g:cm h' [])(j:i<h'.H.length)(k:0<(gX h' i).length)(l:(nth h'.H i).Z=c)(n:JK h h')(a:gS h' (nth h'.H i).R=false)(o:h'.g=h.g)(p:h'.M.length=h.M.length):Wf h c (slotT h' i,qL h' i):=by
 obtain⟨d,f⟩:=g.slotT j k;have b:=lr.nn d f;exact⟨λe=>absurd b (by simp only at e;omega),λ_=>⟨d,by rw[<-l];exact f⟩,n.trans (JK.take a),o,p⟩
def rN{t c:Nat}(a:cm h [])(q:t<h.M.length)(P:c<=3)(B:h.K.Calls<=90000):Wf h c (en h t c):=by
 have f:=a.cach _ (aE q);have C:=wG f;unfold en;split
 ·rename_i D
  obtain⟨d,b⟩:=a.pop q ω D (LC f c);have l:=lr.nn a b;exact⟨λe=>absurd l (by simp only at e;omega),λ_=>⟨d,b⟩,JK.eq rfl rfl rfl rfl,rfl,O2 ..⟩
 split
 ·rename_i i r
  have g:=List.find?_some r;have E:=List.mem_range.1 (List.mem_of_find?_eq_some r);unfold qb at g;simp only[I0,C0,Bool.not_eq_true']at g;exact Wf.slot a E g.2.2 g.1 (JK.refl h) g.2.1 rfl rfl
 split
 ·exact⟨λ_=>a,λe=>absurd e (by show ¬(0:Int)<=-1;decide),JK.refl h,rfl,rfl⟩
 rename_i F;have j:(aA h.a 1).2.2=true:=by simpa using F
 obtain⟨G,H,J,u⟩:=jY a (Z6 1) j;have s:=FZ.of (p:=(aA h.a 1).2.1) a.ker ω ⟨G,by have:(aA h.a 1).2.1+1<=(h.K.G.Q.J.length:Nat):=H;omega⟩ (J _ ω ω);split
 ·rename_i n
  rw[s.no n];obtain⟨d,b⟩:=a.tEq (ox a.ker ω) (tEq.refl _);exact⟨λ_=>d,λe=>absurd e (by show ¬(0:Int)<=-1;decide),b,rfl,rfl⟩
 rename_i n;have o:(dB h.K (aA h.a 1).2.1).2=true:=by simpa using n
 have w:FZ h.K (aA h.a 1).2.1 ((dB h.K (aA h.a 1).2.1).1,true):=by rw[<-o];exact s
 have d:=a.addS (c:=c) ⟨ω,ω⟩ j w;have b:JK h (pX h c):=JK.addS w;obtain⟨K,A⟩:=MN (Gg (aA h.a 1).2.1) h.H ⟨(aA h.a 1).2.1,c,0⟩;unfold km;split
 ·exact⟨λ_=>d,λe=>absurd e (by show ¬(0:Int)<=-1;decide),b,rfl,rfl⟩
 refine Wf.slot (h':=pX h c) (i:=pD h) d K ω (by show(nth (jD (Gg (aA h.a 1).2.1) h.H ⟨(aA h.a 1).2.1,c,0⟩) (pD h)).Z=_;unfold pD;rw[A]) b ?_ rfl rfl;show gS (pX h c) (nth (jD (Gg (aA h.a 1).2.1) h.H ⟨(aA h.a 1).2.1,c,0⟩) (pD h)).R=false;unfold pD;rw[A,b.pg];rw[<-S7];intro k;unfold gS at k;simp only[I0,X8,C0]at k;obtain⟨-,⟨y,L,M⟩,⟨z,N,O⟩⟩:=a.job k.1;rcases k.2 with e|e
 ·exact u _ (Z6 _) ω (by rw[e,<-M];exact f9 L)
 exact u _ (Z6 _) ω (by rw[e,<-O];exact f9 N)
def lC(size:Int):Nat:=((size+15) / 16).toNat
def jw(h:ac)(size:Int):af × Nat:=bB h.K (aA h.a (lC size:Nat)).2.1 (lC size)
def qN(h:ac)(t size:Int):ac × Int × Int:=
 if(aA h.a (lC size:Nat)).2.2=false then(h,-1,4)
 else if(jw h size).2=lC size then(addL h (jw h size).1 (aA h.a (lC size:Nat)).1 (aA h.a (lC size:Nat)).2.1 (lC size:Nat) size t,16*(aA h.a (lC size:Nat)).2.1,0)
 else({h with K:=gH (jw h size).1 (aA h.a (lC size:Nat)).2.1 (jw h size).2},-1,4)
def tH(xs:List bf):Nat->Int
 | 0=>0
 | i+1=>tH xs i+(nth xs i).a3
def oV(h:ac):Int:=tH h.X h.X.length
def fp(h:ac)(t size:Int):ac × Int × Int:=
 if 1000000<=h.g\/90000<h.K.Calls then(h,-1,5)
 else if ¬(0<=t/\t<=h.M.length - 1) then(h,-1,1)
 else if ¬(1<=size/\size<=1000) then(h,-1,2)
 else if h.a9<oV h+size then(h,-1,3)
 else if 0<=bQ size then(if(en h t.toNat (bQ size).toNat).2<0 then((en h t.toNat (bQ size).toNat).1,-1,4) else(addO (en h t.toNat (bQ size).toNat).1 (en h t.toNat (bQ size).toNat).2 size t,(en h t.toNat (bQ size).toNat).2,0))
 else qN h t size
variable{size:Int}
def Nz{t:Int}(a:cm h [])(g:9<=size/\size<=1000)(i:h.g<1000000)(j:h.K.Calls<=90000)(k:0<=t/\t<=h.M.length - 1):cm (qN h t size).1 []/\JK h (qN h t size).1:=by
 have l:(lC size:Int)=(size+15) / 16:=by unfold lC;omega
 unfold qN;split
 ·exact⟨a,JK.refl h⟩
 rename_i o;have b:(aA h.a (lC size:Nat)).2.2=true:=by simpa using o
 obtain⟨c,d,e,w⟩:=jY a (show(1:Int)<=(lC size:Nat) by omega) b;have s:=m6.of (p:=(aA h.a (lC size:Nat)).2.1) (n:=lC size) a.ker ω ⟨c,d⟩ e (lC size) (I4 _);split
 ·rename_i q
  have f:m6 h.K (aA h.a (lC size:Nat)).2.1 (lC size) ((jw h size).1,lC size):=by
   have:((jw h size).1,lC size)=jw h size:=by rw[<-q]
   rw[this];exact s
  exact⟨a.addL g l b f i k,JK.addL f⟩
 obtain⟨r,u⟩:=s.undo a.ker ⟨c,d⟩ e;exact a.tEq r u
def Dq{t:Int}(a:cm h []):cm (fp h t size).1 []/\JK h (fp h t size).1:=by
 unfold fp;split
 ·exact⟨a,JK.refl h⟩
 rename_i d;rw[not_or]at d;split
 ·exact⟨a,JK.refl h⟩
 rename_i n;split
 ·exact⟨a,JK.refl h⟩
 rename_i o;split
 ·exact⟨a,JK.refl h⟩
 split
 ·rename_i b
  have f:bQ size<=3:=by unfold bQ;repeat' split<;>omega
  have s:=rN (t:=t.toNat) (c:=(bQ size).toNat) a ω ω ω;generalize en h t.toNat (bQ size).toNat=r at s;split
  ·rename_i e;exact⟨s.no e,s.jk⟩
  rename_i e;obtain⟨g,i⟩:=s.yes ω;refine⟨g.addO (.inl ?_) (by rw[s.nx];omega) (by rw[s.cl];omega),s.jk.trans (JK.eq rfl rfl rfl rfl)⟩;obtain⟨z,j,k,p⟩:=i;exact⟨z,j,k,by show z.Z=bQ size;omega⟩
 rename_i b;have l:9<=size:=by
  unfold bQ at b
  repeat' split at b<;>omega
 exact Nz a ⟨l,ω⟩ ω ω ω
def zK(k:af)(a:Int):Nat->af
 | 0=>k
 | m+1=>M0 (zK k a m) (a+m) 0
def VN(l:aB)(size:Int):aB:=⟨l.R,(size+15) / 16,size⟩
def Qz(l:aB)(size:Int):Nat:=(l.a0 - (size+15) / 16).toNat
def Wx(h:ac)(k:Nat)(size:Int):af:=zK h.K (16*(nth h.S k).R+size) (16*((size+15) / 16) - size).toNat
def VA(h:ac)(k:Nat)(size:Int):List ay:=if 0<Qz (nth h.S k) size then(cS (gr h) h.a ⟨(nth h.S k).R+(size+15) / 16,(Qz (nth h.S k) size:Nat)⟩).getD h.a else h.a
def Wi(h:ac)(i k:Nat)(size:Int):ac:={h with K:=gH (Wx h k size) ((nth h.S k).R+(size+15) / 16) (Qz (nth h.S k) size),S:=h.S.set k (VN (nth h.S k) size),X:=h.X.set i {nth h.X i with a3:=size},a:=VA h k size}
structure xv where
 a6:Int
 a2:Int
 N:Int
 At:Int
 Value:Int
deriving DecidableEq,Inhabited
def TW(id:Int)(o:Mv):Bool:=decide (o.Id=id)
def P3(r:iE)(id:Int):Int:=eP (TW id) r.X
def Rv(r:iE)(n:Int):iE:=if 1<=n/\n<=1000 then {r with g:=r.g+1,X:=r.X++[⟨r.g,List.replicate n.toNat 0⟩]} else r
def Tq(r:iE)(id:Int):iE:=if P3 r id<0 then r else {r with X:=dele r.X (P3 r id).toNat}
def PX(r:iE)(id at_ v:Int):iE:=if 0<=P3 r id/\(0<=at_/\at_<=(nth r.X (P3 r id).toNat).W.length - 1)/\0<=v/\v<=999 then {r with X:=r.X.set (P3 r id).toNat ⟨(nth r.X (P3 r id).toNat).Id,(nth r.X (P3 r id).toNat).W.set at_.toNat v⟩} else r
def Uj(r:iE)(id n:Int):iE:=if 0<=P3 r id/\1<=n/\n<=(nth r.X (P3 r id).toNat).W.length then {r with X:=r.X.set (P3 r id).toNat ⟨(nth r.X (P3 r id).toNat).Id,(nth r.X (P3 r id).toNat).W.take n.toNat⟩} else r
def VJ(id:Int)(o:bf):Bool:=decide (o.Id=id)
def U6(h:ac)(id:Int):Int:=eP (VJ id) h.X
def W5(a:Int)(l:aB):Bool:=decide (l.R*16=a)
def UU(h:ac)(a:Int):Int:=eP (W5 a) h.S
def Rr(h:ac)(a:xv):Prop:=0<=a.a2/\a.a2<=h.M.length - 1
instance (h:ac) (a:xv):Decidable (Rr h a):=by unfold Rr;infer_instance
def Uc(w:jO)(a:xv)(i:Nat):jO × Int:=
 if w.Heap.K.Calls=100000 then(w,6)
 else if Rr w.Heap a then(⟨(PQ w.Heap a.a2.toNat i).1,if(PQ w.Heap a.a2.toNat i).2=0 then Tq w.b5 (nth w.Heap.X i).Id else w.b5⟩,(PQ w.Heap a.a2.toNat i).2)
 else(w,1)
def R4(w:jO)(a:xv)(i:Nat):jO × Int:=
 if ¬(0<=a.At/\a.At<=(nth w.Heap.X i).a3 - 1) then(w,90)
 else if(aC w.Heap.K.G.Q (((nth w.Heap.X i).Addr+a.At) / 16)).l=1 then(w,2)
 else if ¬(0<=a.Value/\a.Value<=999) then(w,3)
 else(⟨{w.Heap with K:=M0 w.Heap.K ((nth w.Heap.X i).Addr+a.At) a.Value},PX w.b5 (nth w.Heap.X i).Id a.At a.Value⟩,0)
def F4(h:ac)(i:Nat)(n:Int):Prop:=0<=UU h (nth h.X i).Addr/\9<=n/\n<=(nth h.S (UU h (nth h.X i).Addr).toNat).a3
instance (h:ac) (i:Nat) (n:Int):Decidable (F4 h i n):=by unfold F4;infer_instance
def Te(w:jO)(a:xv)(i:Nat):jO × Int:=
 if w.Heap.K.Calls≠100000/\F4 w.Heap i a.Value then(⟨Wi w.Heap i (UU w.Heap (nth w.Heap.X i).Addr).toNat a.Value,Uj w.b5 (nth w.Heap.X i).Id a.Value⟩,0) else(w,90)
def Vc(w:jO)(a:xv)(i:Nat):jO × Int:=if a.a6=2 then Uc w a i else if a.a6=3 then R4 w a i else Te w a i
def DY(h:ac)(a:xv):ac × Int:=
 if a.a6=5 then(if Rr h a/\0<(nth h.e.V a.a2.toNat).length then({h with e:=UT h.e a.a2.toNat},0) else(h,90))
 else if ¬(h.K.Calls≠100000/\Rr h a) then(h,0)
 else if a.a6=6 then(collect h a.a2.toNat,((nth h.e.k a.a2.toNat).length:Nat))
 else((bi a.a2.toNat h 4).1,((bi a.a2.toNat h 4).2:Nat))
def LY(h:ac)(n:Int):ac × Int:=if h.K.Calls≠100000/\(0<=n/\n<=1000)/\h.a5+n<=1000000 then(tick h n,((L9 h n).length:Nat)) else(h,0)
def WU(h:ac):Bool:=h.j&&decide (h.K.Calls<=99000)
def V3(h:ac):Nat->ac × Nat
 | 0=>(h,0)
 | i+1=>if WU (V3 h i).1=true then(mStep (V3 h i).1,(V3 h i).2+1) else V3 h i
def M1(h:ac):ac × Int:=if h.j=true then(h,90) else((started h).1,if(started h).2=true then 0 else 90)
def U1(w:jO)(a:xv):jO × Int:=
 if a.a6=1 then(⟨(fp w.Heap a.a2 a.N).1,if(fp w.Heap a.a2 a.N).2.2=0 then Rv w.b5 a.N else w.b5⟩,(fp w.Heap a.a2 a.N).2.2)
 else if a.a6=2\/a.a6=3\/a.a6=4 then(if U6 w.Heap a.N<0 then(w,90) else Vc w a (U6 w.Heap a.N).toNat)
 else if a.a6=5\/a.a6=6\/a.a6=7 then(⟨(DY w.Heap a).1,w.b5⟩,(DY w.Heap a).2)
 else if a.a6=8 then(⟨(LY w.Heap a.N).1,w.b5⟩,(LY w.Heap a.N).2)
 else if a.a6=9 then(⟨(M1 w.Heap).1,w.b5⟩,(M1 w.Heap).2)
 else if a.a6=10/\0<=a.N/\a.N<=50 then(⟨(V3 w.Heap a.N.toNat).1,w.b5⟩,((V3 w.Heap a.N.toNat).2:Nat))
 else(w,90)
structure EO where
 a0:Nat
 U:Nat
 b7:Nat
 a9:Int
 b:List Int
deriving Inhabited
def world0(c:EO):jO:=⟨Tg c.a0 c.U c.b7 c.a9 c.b,{g:=1,X:=[]}⟩
def WC(c:EO)(acts:List xv):Nat->jO × List Int
 | 0=>(world0 c,[])
 | i+1=>((U1 (WC c acts i).1 (nth acts i)).1,(WC c acts i).2++[(U1 (WC c acts i).1 (nth acts i)).2])
def or64{z1 z2:Int}(a:0<=z1/\z1<=65535)(b:0<=z2/\z2<=65535):IntKind.i64.wrap ((BitVec.ofInt IntKind.i64.bits z1 ||| BitVec.ofInt IntKind.i64.bits z2).toNat:Nat)=bor z1 z2:=by
 rw[BitVec.toNat_or,rR ω,rR ω];have c:=JY a b;unfold bor at c |-;exact gV ω ω
def AU(h:ac)(i:Nat)(n:cx h.H)(d:x8 h)(a:∀s∈h.H,bc s=true)(y:i<h.H.length):zzA 479 false [.val (some 24) (ac.enc .O h),.val none [I (i:Nat)]] .one [I (ee h i)]:=by
 have F:=n.1;have G:=ar y;have g:=mY a y;have B:=aS ((i:Nat):Int) 0 ((h.H.length:Int) - 1);rw[O0 (show(0:Int)<=(i:Nat)/\((i:Nat):Int)<=(h.H.length:Int) - 1 by omega)]at B;have C:=iN h (nth h.H i).R d;have o:=fG h (nth h.H i).R;have H:gr h<=1048576:=d.1;have c:ee h i=iH h.H (aQ h (nth h.H i).R) (nth h.H i).r (aQ h (nth h.H i).R).length:=rfl;obtain⟨ps,q⟩ : ∃ps,aQ h (nth h.H i).R=ps:=⟨_,rfl⟩
 obtain⟨b,r⟩ : ∃b,(nth h.H i).r=b:=⟨_,rfl⟩
 rw[q]at C o c;rw[r]at c g;rw[c];have J:iH h.H ps b 0=b:=rfl;refine fO 63 [(4,7,[22,23,24,25,26,27,28]),(11,10,[43,44,45,46,47,48,49,50,51,52])] Tryz.func479 rfl ?_
 refine ZP ?_
 refine CH (ι:=Nat) (λu=>[(2,.F .box (ac.enc .O h)),(5,.F .one [I (iH h.H ps b u)]),(6,.F .one (aH .own ps)),(7,.F .one [I ((u:Nat):Int)])]) (λu=>u<=ps.length) (λu=>ps.length - u) (0) ?_ (C1 _) λu M=>?_
 ·exact wB
 by_cases K:u<ps.length
 ·have l:=ar K
  have t:=mC a (ps:=ps) g u
  refine ZE ?_
  refine CH (ι:=Nat) (λj=>[(2,.F .box (ac.enc .O h)),(5,.F .one [I (qK h.H (nth ps u) (iH h.H ps b u) j)]),(6,.F .one (aH .own ps)),(7,.F .one [I ((u:Nat):Int)]),(8,.F .one [I ((j:Nat):Int)])]) (λj=>j<=h.H.length) (λj=>h.H.length - j) (0) ?_ (C1 _) λj L=>?_
  ·exact wB
  by_cases D:j<h.H.length
  ·have E:=ar D
   have w:=xN a (p:=nth ps u) t j L;by_cases e:(nth h.H j).R=nth ps u
   ·have k:qK h.H (nth ps u) (iH h.H ps b u) (j+1)=bor (qK h.H (nth ps u) (iH h.H ps b u) j) (nth h.H j).r:=CG e
    repeat'(first|refine gB ?_|refine CO (or64 w (mY a D)) ?_)
    (refine CF (j+1) ω ω ?_;(exact wB))
   have k:qK h.H (nth ps u) (iH h.H ps b u) (j+1)=qK h.H (nth ps u) (iH h.H ps b u) j:=CD e
   refine ZB ?_
   (refine CF (j+1) ω ω ?_;(exact wB))
  obtain rfl:j=h.H.length:=ω
  refine ZE ?_
  (refine CF (u+1) ω ω ?_;(exact wB))
 obtain rfl:u=ps.length:=ω
 refine ZE ?_
 rfl
def oB{xs:List bf}(h:∀o∈xs,0<=o.a3/\o.a3<=1000):∀k:Nat,k<=xs.length->0<=tH xs k/\tH xs k<=1000*k
 | 0,_=>⟨Z6 _,Z6 _⟩
 | k+1,a=>by
  have b:=oB h k ω;have c:=h _ (aE (xs:=xs) (i:=k) ω);simp only[tH];omega
def yL(h:ac)(a:∀o∈h.X,0<=o.a3/\o.a3<=1000)(e:h.X.length<=1048576):zzA 19 false [.val (some 24) (ac.enc .O h)] .one [I (oV h)]:=by
 refine fO 21 [] Tryz.func19 rfl ?_
 refine ZP ?_
 refine CH (ι:=Nat) (λk=>[(1,.F .box (ac.enc .O h)),(3,.F .one [I (tH h.X k)]),(4,.F .one [I ((k:Nat):Int)])]) (λk=>k<=h.X.length) (λk=>h.X.length - k) (0) ?_ (C1 _) λk c=>?_
 ·exact wB
 have g:=oB a k c;by_cases b:k<h.X.length
 ·have d:=ar b
  have i:=a _ (aE b)
  refine ZE ?_
  (refine CF (k+1) ω ω ?_;(exact wB))
 obtain rfl:k=h.X.length:=ω
 refine ZE ?_
 rfl
def Aq(k b:Int)(h:b<=9223372036854775807):zzA 478 false [.val none [I (slots k)],.val none [I b]] .one (aH .own (p6 k b)):=by
 have c:=sg k b;have p:0<=slots k/\slots k<=16:=by unfold slots;repeat' split<;>omega
 unfold p6;cases e:N8 k b<;>rw[e]at c
 ·rw[CD (by simp)]
  refine fO 27 [] Tryz.func478 rfl ?_ (.inr (bM _))
  refine ZP ?_
  refine CH (ι:=Nat) (λj=>[(0,.F .one [I (slots k)]),(1,.F .one [I (b)]),(5,.F .one (aH .own [])),(6,.F .one [I ((j:Nat):Int)])]) (λj=>j=0) (λj=>1 - j) (0) ?_ (rfl) λj g=>?_
  ·exact wB
  subst g
  repeat'(first|refine gE ?_|with_reducible refine Bf.D (λi=>?_) (λi=>?_))
  all_goals rfl
 rw[CG rfl];refine fO 27 [] Tryz.func478 rfl ?_ (.inr (bM _))
 refine ZP ?_
 refine CH (ι:=Nat) (λj=>[(0,.F .one [I (slots k)]),(1,.F .one [I (b)]),(5,.F .one (aH .own (mi b j))),(6,.F .one [I ((j:Nat):Int)])]) (λj=>j<=(slots k).toNat) (λj=>(slots k).toNat - j) (0) ?_ (C1 _) λj g=>?_
 ·exact wB
 have l:=rL b j;by_cases q:j<(slots k).toNat
 ·have d:=jm b (j:Nat) h
  have a:mi b (j+1)=if aX b (j:Nat)=true then mi b j else mi b j++[((j:Nat):Int)]:=rfl
  cases n:aX b (j:Nat)<;>rw[n]at d a
  ·rw[CD (by simp)]at a
   repeat'(first|refine gE ?_|refine CS cR (λr o=>by rw[I2.1 o];rfl) (by simp[bm,eX]) (by simp;omega) (by simp only[Z1];exact v8 (by simp;omega) (by decide)) rfl ?_)
   (refine CF (j+1) ω ω ?_)
   rw[a]
   repeat'(first|exact trivial|rfl|exact CC rfl (CC (I1 (C.s dY.own) (by simp[rI])) trivial)|refine CC ?_ ?_|(exact TF (by first|omega|(simp only;omega)|(simp;omega))))
  rw[CG rfl]at a
  refine ZE ?_
  (refine CF (j+1) ω ω ?_)
  rw[a];exact wB
 obtain rfl:j=(slots k).toNat:=ω
 refine ZE ?_
 rfl
def Ed(b i:Int):bor b (2 ^ i.toNat)=gL b i:=by
 unfold bor gL;have:((2 ^ i.toNat:Nat):Int)=(2:Int) ^ i.toNat:=Int.natCast_pow 2 i.toNat;rw[<-this,t4]
def BJ(b i:Int)(d:0<=b/\b<=65535)(a:0<=i/\i<=15):zzA 481 false [.val none [I b],.val none [I i]] .one [I (gL b i)]:=by
 have c:=rv b i;rw[O0 ω]at c;have e:IntKind.u64.wrap i=i:=by unfold IntKind.wrap;simp[IntKind.signed,IntKind.bits];omega
 have h:=(shl64 a).2;have g:=(or64 (z1:=b) (z2:=2 ^ i.toNat) d ω).trans (Ed b i);refine fO 15 [] Tryz.func481 rfl ?_
 repeat'(first|refine gP ?_|refine CP ω ?_|refine CO e ?_|refine CO (shl64 a).1 ?_|refine CO g ?_)
 rfl
def Qb(b:bc s=true){k:Int}(d:0<=k/\k<slots s.Z):0<=k*csz s.Z/\k*csz s.Z<=15:=by
 have a:=aP b;have c:=gC a.2.2;rcases dN a.2.2 with e|e|e|e<;>rw[e]at c |-<;>omega
def AY(s:au)(k:Int)(a:bc s=true)(d:0<=k/\k<slots s.Z):zzA 482 false [.val (some 3) (au.enc .O s),.val none [I k]] .one [I (16*s.R+k*csz s.Z)]:=by
 have e:=aP a;have i:=Qb a d;have j:=gC e.2.2;have b:=hO s;rw[a]at b;have g:=pu s.Z;have c:=aS k 0 (slots s.Z - 1);rw[O0 ω]at c;have h:=gc s.Z;refine fO 26 [(3,8,[17,18,19,20,21,22,23,24])] Tryz.func482 rfl ?_
 refine ZP ?_
 exact I1 (λz=>[I z]) ω
def F8(f:aF)(g:f.c.length<=1048576):zzA 483 false [.val (some 2) (aF.enc .O f)] .one [I (eP (λu=>!u) f.c)]:=by
 refine fO 18 [] Tryz.func483 rfl ?_
 refine ZP ?_
 refine CH (ι:=Nat) (λi=>[(1,.F .box (aF.enc .O f)),(3,.F .one [I ((i:Nat):Int)])]) (λi=>i<=f.c.length/\∀(j:Nat)(z:Bool),j<i->f.c[j]? = some z->(!z)=false) (λi=>f.c.length - i) (0) ?_ (⟨C1 _,λj z h=>ω⟩) λi c=>?_
 ·exact wB
 obtain⟨c,b⟩:=c;by_cases d:i<f.c.length
 ·have a:=ar d
  cases e:nth f.c i<;>rw[e]at a
  ·refine ZE ?_
   exact I1 (λz=>[I z]) (gd a rfl b).symm
  refine ZE ?_
  (refine CF (i+1) ⟨ω,fC a rfl b⟩ ω ?_;(exact wB))
 refine ZE ?_
 exact I1 (λz=>[I z]) (iA ω b).symm
def QE(c:ax)(k:Nat):ax.enc .own (rT c k)=[.s .own ((c.T.map (aH .own)).set k (aH .own ((nth c.T k).take ((nth c.T k).length - 1))))]:=by simp[ax.enc,rT,S8]
def UW(xs:List Int)(n:Nat):(xs.take n).map (rI .O)=(xs.map (rI .O)).take n:=O5
def Wd(c:ax)(k:Nat):List C:=if 0<(nth c.T k).length then ax.enc .own (rT c k)++[I (nth (nth c.T k) ((nth c.T k).length - 1)),B true] else ax.enc .own c++[I (-1),B false]
def Vt(c:ax)(k:Nat):gk (Wd c k):=by
 unfold Wd;split
 ·exact aJ (Cc _) ⟨trivial,trivial,trivial⟩
 exact aJ (Cc _) ⟨trivial,trivial,trivial⟩
def yS(c:ax)(k:Nat)(h:bH c=true)(u:k<=3):zzA 366 false [.val (some 1) (ax.enc .O c),.val none [I (k:Nat)]] (.tup [some 1,none,none]) (Wd c k):=by
 obtain⟨w,j⟩:=gi h;have n:ax.sml c:=⟨ω,λl r=>by have:=j l r;show l.length<=1048576;omega⟩
 have d:=GP c k n;rw[h,O0 ω]at d;have o:=pI c n;have b:=rK (c:=c) (k:=k) ω;have t:=j _ (aE (xs:=c.T) (i:=k) ω);have a:=Vt c k;unfold Wd at a |-;by_cases p:0<(nth c.T k).length
 ·rw[CG p]at a |-
  have q:=ar (xs:=nth c.T k) (i:=(nth c.T k).length - 1) ω;have e:(nth c.T k)[(((nth c.T k).length:Int) - 1).toNat]? = some (nth (nth c.T k) ((nth c.T k).length - 1)):=by rw[show(((nth c.T k).length:Int) - 1).toNat=(nth c.T k).length - 1 by omega];exact q
  have g:((((nth c.T k).length:Nat):Int) - 1)=(((nth c.T k).length - 1:Nat):Int):=ω
  rw[QE]at a |-;refine fO 54 [(5,268,[32,33,34,35,36,37,38,39,40,41,42,44,0,1,2,3,4,5,6,7,8,9,10,11,1000,1001,1002,12,13]),(6,265,[45,46,47,48,49,50,51,52,53,0,1,2,3,4,5,6,7,8,9,1001,1002,1003,1004,1005,1006,1007,1008,10,11])] Tryz.func366 rfl ?_ (.inr a)
  repeat'(first|refine gB ?_|refine CM ω (aa e) ?_|refine CX ((nth c.T k).length - 1) g (by rw[Z1];omega) (aW λ_=>rfl) (UW _ _) ?_|refine Fl.cp (λ_=>rfl) (λ_=>rfl) (by rw[Z2];omega) (by decide) ?_|refine CT (λ_=>rfl) (λ_=>rfl) (by rw[Z2];omega) (by decide) ?_|refine CN rfl rfl (aa b) rfl (C2 rfl) rfl ?_)
  rfl
 rw[CD p]at a |-;refine fO 54 [(5,268,[32,33,34,35,36,37,38,39,40,41,42,44,0,1,2,3,4,5,6,7,8,9,10,11,1000,1001,1002,12,13]),(6,265,[45,46,47,48,49,50,51,52,53,0,1,2,3,4,5,6,7,8,9,1001,1002,1003,1004,1005,1006,1007,1008,10,11])] Tryz.func366 rfl ?_ (.inr a)
 refine ZB ?_
 rfl
def Ws(xs:List ay)(n:Int):List C:=aU .own (aA xs n).1++[I (aA xs n).2.1,B (aA xs n).2.2]
def UY(xs:List ay)(n:Int):gk (Ws xs n):=aJ (hC _) ⟨trivial,trivial,trivial⟩
def qD(pages:Int)(xs:List ay)(n:Int)(w:0<=pages/\pages<=1048576)(l:bI pages xs=true)(J:1<=n/\n<=1000)(K:xs.length<=4096):zzA 371 false [.val none [I pages],.val none (aU .O xs),.val none [I n]] (.tup [none,none,none]) (Ws xs n):=by
 have o:=n6 pages xs w ⟨ω,λ_ _=>trivial⟩;rw[l]at o;have p:=(tO l).2;refine fO 98 [(8,21,[31,32,33,34,35,36,37,38,39,40,41,42,43,44,45,46,47,48,49,50,51]),(14,265,[71,72,73,74,76,77,78,79,81,0,1,2,3,5,6,7,8,10,4,1005,1006,1007,1008,1010,9,1010,11,1010,12,13])] Tryz.func371 rfl ?_ (.inr (UY xs n))
 repeat'(first|refine gE ?_|refine CT (λ_=>rfl) (λ_=>rfl) ω (by decide) ?_)
 refine CH (ι:=Nat) (λi=>[(1,.F .one (aU .O xs)),(2,.F .one [I (n)]),(9,.F .one (aU .own xs)),(10,.F .one [I (fV xs n i)]),(11,.F .one [I ((i:Nat):Int)])]) (λi=>i<=xs.length) (λi=>xs.length - i) (0) ?_ (C1 _) λi y=>?_
 ·exact wC
 have h:=un xs n i y;by_cases q:i<xs.length
 ·have j:=ar q
  have E:=p _ (aE q);have a:fV xs n (i+1)=if n<=(nth xs i).o/\(fV xs n i<0\/(nth xs i).o<(nth xs (fV xs n i).toNat).o) then((i:Nat):Int) else fV xs n i:=rfl
  by_cases r:n<=(nth xs i).o
  ·by_cases F:fV xs n i<0
   ·rw[CG ⟨r,.inl F⟩]at a
    repeat'(first|refine gE ?_|with_reducible refine Bf.D (λc=>?_) (λc=>?_))
    (refine CF (i+1) ω ω ?_)
    rw[a];exact wC
   have d:=ar (xs:=xs) (i:=(fV xs n i).toNat) ω;by_cases G:(nth xs i).o<(nth xs (fV xs n i).toNat).o
   ·rw[CG ⟨r,.inr G⟩]at a
    repeat'(first|refine gE ?_|with_reducible (first|refine CM ω (aa d) ?_|refine Bf.D (λc=>?_) (λc=>?_)))
    (refine CF (i+1) ω ω ?_)
    rw[a];exact wC
   rw[CD ω]at a
   repeat'(first|refine gE ?_|with_reducible (first|refine CM ω (aa d) ?_|refine Bf.D (λc=>?_) (λc=>?_)))
   (refine CF (i+1) ω ω ?_)
   rw[a];exact wC
  rw[CD ω]at a
  repeat'(first|refine gE ?_|with_reducible refine Bf.D (λc=>?_) (λc=>?_))
  (refine CF (i+1) ω ω ?_)
  rw[a];exact wC
 obtain rfl:i=xs.length:=ω
 change fB xs n = -1\/_ at h;unfold Ws aA;rw[show fV xs n xs.length=fB xs n from rfl];by_cases e:fB xs n<0
 ·rw[CG e]
  rw[show fB xs n = -1 from h.resolve_right λg=>by have L:0<=fB xs n:=g.1;omega]
  repeat'(first|refine gE ?_|with_reducible refine Bf.D (λc=>?_) (λc=>?_))
  rfl
 rw[CD e];obtain⟨H,t,M⟩:=h.resolve_left ω;change 0<=fB xs n at H;change fB xs n<xs.length at t;obtain⟨b,k⟩:=v4 (show 0<=fB xs n by omega);rw[k]at t |-;simp only[t4];have d:=ar (xs:=xs) (i:=b) ω;have E:=p _ (aE (xs:=xs) (i:=b) ω);by_cases u:(nth xs b).o=n
 ·rw[CG u]
  repeat'(first|refine gB ?_|with_reducible refine Bf.D (λc=>?_) (λc=>?_)|refine CX b rfl (by rw[Z1];omega) (aW λ_=>rfl) O5 ?_|refine Sl.suf (b+1) rfl (by rw[Z1];omega) (aW λ_=>rfl) X5 ?_|refine Fl.cp (λ_=>rfl) (λ_=>rfl) (by rw[Z2];omega) (by decide) ?_|refine Ap.dele (λ_=>rfl) (λ_=>rfl) ω (by decide) ?_|refine CT (λ_=>rfl) (λ_=>rfl) (by rw[Z2];omega) (by decide) ?_)
  rfl
 rw[CD u]
 repeat'(first|refine gB ?_|with_reducible refine Bf.D (λc=>?_) (λc=>?_)|refine CN rfl rfl (aa d) rfl (C2 rfl) rfl ?_)
 exact I1 (λz=>z++[I (nth xs b).At,B true]) (show [C.s dY.own _]=_ from by simp[aU,S8];rfl)
def yA(k:af)(p:Int)(f:Nat):af.enc .own (sS k p f)=((af.enc .own k).set 1 (.s .own ((k.G.U.c.map (rB .own)).set f (rB .own true)))).set 2 (.s .own ((k.G.Q.J.map (aN.enc .own)).set p.toNat (aN.enc .own ⟨2,(f:Nat)⟩))):=by
 simp[af.enc,sS,S8]
def GY(k:af)(p:Int)(c:aK k=true)(y:k.Calls≠100000)(o:0<=p/\p<k.G.Q.J.length)(C:(nth k.G.Q.J p.toNat).l=0):zzB 373 false [.ptr (af.enc .own k),.val none [I p]] [.ptr (af.enc .own (dB k p).1),.val none [I p]] .one [B (dB k p).2]:=by
 have E:=bS c;have F:=bh.1 (aI.1 c).2.1;have G:=(br.1 (aI.1 c).2.2.1).2.2;have H:(dA k).G.Q.J.length<=32:=G;have a:=F8 k.G.U ω;have d:=po k c y;have g:=eS (dA k) p E.1.2;have l:aC (dA k).G.Q p=nth k.G.Q.J p.toNat:=by unfold aC;exact CG o
 rw[l,C]at g;have h:=aS p 0 ((k.G.Q.J.length:Int) - 1);rw[O0 ω]at h;have r:=ar (xs:=k.G.Q.J) (i:=p.toNat) ω;change am _ _ _ _ _ [I (pP k)]at a;unfold dB;cases e:refd k<;>rw[e]at d
 ·by_cases j:pP k<0
  ·rw[CG (.inr j)]
   refine fM 56 [(484,[2])] [] [(0,0),(0,0)] Tryz.func373 rfl (λu q=>?_)
   repeat'(first|refine gB ?_|with_reducible refine Bf.D (λb=>?_) (λb=>?_)|refine CJ (a) ⟨⟨rfl,aF.enc_fz _⟩,trivial⟩ ?_|refine CJ (g) ⟨CW (dA k),⟨rfl,rfl⟩,trivial⟩ ?_)
   refine CL rfl ?_ ?_
   ·rfl
   exact wC
  rw[CD (by simp[j])];obtain⟨n,t⟩:=GB j;obtain⟨f,J⟩:=v4 (show 0<=pP k by omega);rw[J]at a n t j |-;simp only[t4]at n t |-;have w:=ar (xs:=k.G.U.c) (i:=f) n;rw[yA];refine fM 56 [(484,[2])] [] [(0,0),(0,0)] Tryz.func373 rfl (λu q=>?_)
  repeat'(first|refine gB ?_|with_reducible refine Bf.D (λb=>?_) (λb=>?_)|refine CJ (a) ⟨⟨rfl,aF.enc_fz _⟩,trivial⟩ ?_|refine CJ (g) ⟨CW (dA k),⟨rfl,rfl⟩,trivial⟩ ?_|refine CM o.1 (aa r) ?_|refine CN rfl rfl (aa w) rfl (C2 rfl) rfl ?_|refine CN rfl rfl (aa r) rfl (C2 rfl) rfl ?_)
  refine CL rfl ?_ ?_
  ·rfl
  exact wC
 rw[CG (.inl rfl)];refine fM 56 [(484,[2])] [] [(0,0),(0,0)] Tryz.func373 rfl (λu q=>?_)
 repeat'(first|refine gB ?_|with_reducible refine Bf.D (λb=>?_) (λb=>?_)|refine CJ (a) ⟨⟨rfl,aF.enc_fz _⟩,trivial⟩ ?_|refine CJ (g) ⟨CW (dA k),⟨rfl,rfl⟩,trivial⟩ ?_)
 refine CL rfl ?_ ?_
 ·rfl
 exact wC
def VF(h:ac):List C:=(cU h).drop 5
def Gu(h:ac)(p:Int)(a:aK h.K=true)(b:h.K.Calls≠100000)(c:0<=p/\p<h.K.G.Q.J.length)(d:(nth h.K.G.Q.J p.toNat).l=0):zzB 373 false [.ptr (cU h),.val none [I p]] [.ptr (cU {h with K:=(dB h.K p).1}),.val none [I p]] .one [B (dB h.K p).2]:=
 (GY h.K p a b c d).frame (r:=VF h) rfl
def Ni(h:ac)(i:Nat):cU (slotT h i)=((cU h).set 14 (I (AF h.a4))).set 6 (.s .own ((h.H.map (au.enc .own)).set i [I (nth h.H i).R,I (nth h.H i).Z,I (gL (nth h.H i).r (oe h i))])):=by
 simp[cU,slotT,rU,S8,au.enc]
def uq(h:ac)(E:List Int)(i:Nat)(c:cm h E)(k:i<h.H.length):zzB 368 false [.ptr (cU h),.val none [I (i:Nat)]] [.ptr (cU (km h i).1),.val none [I (i:Nat)]] .one [I (km h i).2]:=by
 have F:=c.lens;have G:=F.spans;have d:=ar k;have b:=c.L.sok _ (aE k);have e:=ek b;have a:=c.nums;unfold dU at a;rw[C0]at a;have t:=(br.1 (aI.1 c.ker).2.2.1).2.2;have l:=mC c.L.sok (ps:=aQ h (nth h.H i).R) e (aQ h (nth h.H i).R).length;change 0<=ee h i/\ee h i<=65535 at l;have w:=pu (nth h.H i).Z;have y:=AU h i ⟨ω,λ_ _=>trivial⟩ ⟨by show h.K.G.Q.J.length<=_;omega,λ_ _=>trivial⟩ c.L.sok k;have o:=Aq (nth h.H i).Z (ee h i) ω;change am _ _ _ _ _ (aH .own (gX h i)) at o;have p:=Aj (nth h.H i).Z (ee h i);change (gX h i).length<=16 at p;unfold km;by_cases B:(gX h i).length=0
 ·rw[CG B]
  refine fM 68 [] [(2,7,[16,17,18,19,20,21,22]),(7,12,[42,43,44,45,46,47,48,49,50,51,52,53]),(8,11,[56,57,58,59,60,61,62,63,64,65,66])] [(0,0),(0,0)] Tryz.func368 rfl (λu q=>?_)
  repeat'(first|refine gB ?_|refine CJ (y) ⟨⟨rfl,cw h⟩,⟨rfl,rfl⟩,trivial⟩ ?_)
  refine CL rfl rfl ?_;exact wC
 rw[CD B];have H:=wq (h:=h) (i:=i) ω;obtain⟨C,D,O⟩:=tj H;have J:=(gC (aP b).2.2).2.2.1;have r:=qf h.a4 (n:=((gX h i).length:Nat)) ω;have K:=xo h.a4 ((gX h i).length:Nat) ω ω;have M:=BJ (nth h.H i).r (oe h i) e ω;have N:=AY (rU (nth h.H i) (oe h i)) (oe h i) (FI b ⟨C,D⟩) ⟨C,D⟩;have g:(gX h i)[(Gf h.a4 ((gX h i).length:Nat)).toNat]? = some (oe h i):=ar ω;have j:((h.H.map (au.enc .own)).set i [I (nth h.H i).R,I (nth h.H i).Z,I (gL (nth h.H i).r (oe h i))])[i]? = some [I (nth h.H i).R,I (nth h.H i).Z,I (gL (nth h.H i).r (oe h i))]:=jr k;unfold qL;rw[Ni];refine fM 68 [] [(2,7,[16,17,18,19,20,21,22]),(7,12,[42,43,44,45,46,47,48,49,50,51,52,53]),(8,11,[56,57,58,59,60,61,62,63,64,65,66])] [(0,0),(0,0)] Tryz.func368 rfl (λu q=>?_)
 repeat'(first|refine gB ?_|refine CB j ?_|refine CK rfl j rfl ?_|refine CJ (y) ⟨⟨rfl,cw h⟩,⟨rfl,rfl⟩,trivial⟩ ?_|refine CM r.1 (aa g) ?_|refine CN rfl rfl (aa d) rfl (C2 rfl) rfl ?_)
 refine CL rfl ?_ ?_
 ·rfl
 exact wC
def Ap.ins{e:α->List C}{xs:List α}{y:α}{r:List C}{sz by_:Nat}{K:List (List C)->Prop}(a:r=e y)(b:∀y,(e y).length=sz)(c:∀y,bm (e y)=true)(h:xs.length<=1048576)(d:by_<=1000)(f:K ((xs.take i++y::xs.drop i).map e)):Ap true ((xs.take i).map e++[r]) ((xs.drop i).map e) sz by_ K:=by
 subst a;have g:(xs.take i).length+1+(xs.drop i).length<=3145728:=by rw[Z2,Y4];omega
 refine CS (λr a=>?_) (aW b) (λ_ r a=>by obtain⟨y,-,rfl⟩:=Y5.1 a;exact c y) (by simp only[X4,Z1,List.length_singleton];omega) (by simp only[X4,Z1,List.length_singleton];exact Y6 (Nat.mul_le_mul g d) (by decide)) ?_ f
 ·rcases C4.1 a with a|a
  ·exact aW b r a
  rw[I2.1 a];exact b y
 rw[Z7,I8,Y7];rfl
def nh{p:α->Bool}{xs:List α}{y:α}(h:j8 p xs=i):jD p xs y=xs.take i++y::xs.drop i:=by unfold jD;rw[h]
def Mf(h:ac)(c:Int):ac × Int:=
 if(aA h.a 1).2.2=false then(h,-1)
 else if(dB h.K (aA h.a 1).2.1).2=false then({h with K:=(dB h.K (aA h.a 1).2.1).1},-1)
 else(pX h c,(pD h:Nat))
def Ex(h:ac)(E:List Int)(c:Nat)(g:cm h E)(J:h.K.Calls<=90000):zzB 369 false [.ptr (cU h),.val none [I (c:Nat)]] [.ptr (cU (Mf h c).1),.val none [I (c:Nat)]] .one [I (Mf h c).2]:=by
 have B:=g.lens;have K:=B.spans;have L:gr h<=32:=B.ents;have C:=nU h;have l:=qD (gr h:Nat) h.a 1 ⟨ω,ω⟩ g.rng (by decide) (by have:=B.free;omega);unfold Ws at l;have d:=jY g (Z6 1);unfold Mf pX pD;generalize aA h.a 1=r at l d |-;obtain⟨o,p,ok⟩:=r;simp only at l d |-;cases ok with
 | false=>
  rw[CG rfl];refine fM 79 [(373,[2,0]),(2000010,[0,6])] [(1,267,[11,12,13,14,15,16,17,10,18,19,20,0,1,2,3,4,5,6,7,8,9,10,11,1009,1010,12,1010,13])] [(0,0),(0,0)] Tryz.func369 rfl (λu q=>?_)
  repeat'(first|refine gP ?_|refine CJ (C) ⟨cw h,trivial⟩ ?_|refine CJ (l) ⟨⟨rfl,rfl⟩,⟨rfl,eY h.a⟩,⟨rfl,rfl⟩,trivial⟩ ?_)
  refine CL rfl rfl ?_;exact wC
 | true=>
  rw[CD (by simp)];obtain⟨M,N,O,V⟩:=d rfl;have F:0<=p/\p<h.K.G.Q.J.length:=⟨M,by have:p+1<=((tbl h).J.length:Nat):=N;unfold tbl at this;omega⟩
  have t:=Gu h p g.ker ω F (O p.toNat ω ω);generalize dB h.K p=w at t |-;obtain⟨k,b⟩:=w;simp only at t |-;cases b with
  | false=>
   rw[CG rfl];refine fM 79 [(373,[2,0]),(2000010,[0,6])] [(1,267,[11,12,13,14,15,16,17,10,18,19,20,0,1,2,3,4,5,6,7,8,9,10,11,1009,1010,12,1010,13])] [(0,0),(0,0)] Tryz.func369 rfl (λu q=>?_)
   repeat'(first|refine gP ?_|refine CJ (C) ⟨cw h,trivial⟩ ?_|refine CJ (l) ⟨⟨rfl,rfl⟩,⟨rfl,eY h.a⟩,⟨rfl,rfl⟩,trivial⟩ ?_)
   refine CL rfl rfl ?_;exact wC
  | true=>
   rw[CD (by simp)];refine fM 79 [(373,[2,0]),(2000010,[0,6])] [(1,267,[11,12,13,14,15,16,17,10,18,19,20,0,1,2,3,4,5,6,7,8,9,10,11,1009,1010,12,1010,13])] [(0,0),(0,0)] Tryz.func369 rfl (λu q=>?_)
   repeat'(first|refine gP ?_|refine CJ (C) ⟨cw h,trivial⟩ ?_|refine CJ (l) ⟨⟨rfl,rfl⟩,⟨rfl,eY h.a⟩,⟨rfl,rfl⟩,trivial⟩ ?_)
   refine CH (ι:=Nat) (λi=>[(0,.F .box (cU {h with K:=k,a:=o})),(1,.F .one [I ((c:Nat):Int)]),(6,.F .one [I (p)]),(8,.F .one [I ((i:Nat):Int)])]) (λi=>i<=h.H.length/\∀(j:Nat)(z:au),j<i->h.H[j]? = some z->Gg p z=false) (λi=>h.H.length - i) (0) ?_ (⟨C1 _,λj z W=>ω⟩) λi g=>?_
   ·exact wC
   obtain⟨P,G⟩:=g;have Q:({h with K:=k,a:=o} : ac).H.length=h.H.length:=rfl;by_cases R:i<h.H.length/\(nth h.H i).R<p
   ·have n:=ar R.1
    refine ZE ?_
    (refine CF (i+1) ⟨ω,fC n (Z0 ω) G⟩ ω ?_;(exact wC))
   have a:j8 (Gg p) h.H=i:=mO ω G λz H=>by
    have S:=(Y3.1 H).1;have:z=nth h.H i:=(b6 H).symm;subst this;exact O0 ω
   have n:i<h.H.length->h.H[i]? = some (nth h.H i):=λT=>ar T
   rw[show addS h k o p (c:Nat) = {h with K:=k,a:=o,H:=h.H.take i++⟨p,(c:Nat),0⟩::h.H.drop i} by unfold addS;rw[nh a],a]
   repeat'(first|refine gE ?_|with_reducible (first|refine CB (aa (n ω)) ?_|refine Bf.D (λU=>?_) (λU=>?_))|refine CK rfl (aa (n ω)) rfl ?_|refine Me.mk rfl (zc h.H) rfl ?_|refine CX i rfl (by rw[Z1];omega) (aW λ_=>rfl) O5 ?_|refine Sl.suf i rfl (by rw[Z1];omega) (aW λ_=>rfl) X5 ?_|refine CT (λ_=>rfl) (λ_=>rfl) (by rw[Z2];omega) (by decide) ?_|refine Ap.sn (aW λ_=>rfl) rfl (by rw[Z1,Z2];omega) (by decide) rfl ?_|refine Ap.ins (e:=au.enc .O) (y:=⟨p,(c:Nat),0⟩) rfl (λ_=>rfl) (λ_=>rfl) ω (by decide) ?_)
   all_goals
    refine CL rfl rfl ?_;exact wC
def wy(a:i<h.H.length)(b:qb h c i=true)(d:∀j,j<i->qb h c j=false):pH h c=some i:=
 List.find?_range_eq_some.2 ⟨b,List.mem_range.2 a,λj e=>by rw[d j e];rfl⟩
def xc(a:∀j,j<h.H.length->qb h c j=false):pH h c=none:=
 List.find?_range_eq_none.2 λj b=>by rw[a j b];rfl
def lN(a:qb h c i=false)(b:∀j,j<i->qb h c j=false):∀j,j<i+1->qb h c j=false:=λj d=>by
 by_cases e:j=i
 ·rw[e];exact a
 exact b j ω
def Nr(h:ac)(t:Nat)(c:ax):cU {h with M:=h.M.set t c} = (cU h).set 9 (.s .own ((h.M.map (ax.enc .own)).set t (ax.enc .own c))):=by
 simp[cU,S8]
def Hi{c:Nat}(b:cm h [])(n:c<=3)(e:h.K.Calls<=90000)(f:¬(aA h.a 1).2.2=false)(g:¬(dB h.K (aA h.a 1).2.1).2=false):cm (pX h c) []/\pD h<(pX h c).H.length:=by
 have a:(aA h.a 1).2.2=true:=by simpa using f
 obtain⟨i,j,k,o⟩:=jY b (Z6 1) a;have s:=FZ.of (p:=(aA h.a 1).2.1) b.ker ω ⟨i,by have:(aA h.a 1).2.1+1<=(h.K.G.Q.J.length:Nat):=j;omega⟩ (k _ ω ω);have d:(dB h.K (aA h.a 1).2.1).2=true:=by simpa using g
 have l:FZ h.K (aA h.a 1).2.1 ((dB h.K (aA h.a 1).2.1).1,true):=by rw[<-d];exact s
 exact⟨b.addS (c:=c) ⟨ω,ω⟩ a l,(MN (Gg (aA h.a 1).2.1) h.H ⟨(aA h.a 1).2.1,c,0⟩).1⟩
def Bh(h:ac)(t c:Nat)(o:cm h [])(M:t<h.M.length)(N:c<=3)(p:h.K.Calls<=90000):zzB 221 false [.ptr (cU h),.val none [I (t:Nat)],.val none [I (c:Nat)]] [.ptr (cU (en h t c).1),.val none [I (t:Nat)],.val none [I (c:Nat)]] .one [I (en h t c).2]:=by
 have E:=o.cach _ (aE M);have e:=ar M;have r:=yS (nth h.M t) c E N;have Q:=o.lens.spans;have B:=o;unfold Wd at r;by_cases F:0<(nth (nth h.M t).T c).length
 ·unfold en
  rw[CG F]at r |-;simp only;rw[Nr];refine fM 80 [(368,[2,0]),(369,[2,0])] [(3,6,[27,28,29,30,31,32])] [(0,0),(0,0),(0,0)] Tryz.func221 rfl (λu q=>?_)
  repeat'(first|refine gP ?_|refine CJ (r) ⟨⟨rfl,ax.enc_fz _⟩,⟨rfl,rfl⟩,trivial⟩ ?_|refine CN rfl rfl (aa e) rfl (C2 rfl) rfl ?_)
  refine CL rfl rfl ?_;exact wC
 rw[CD F]at r;have d:en h t c=match pH h c with
  | some i=>(slotT h i,qL h i)
  | none=>if(aA h.a 1).2.2=false then(h,-1)
   else if(dB h.K (aA h.a 1).2.1).2=false then({h with K:=(dB h.K (aA h.a 1).2.1).1},-1)
   else km (pX h c) (pD h):=by unfold en;exact CD F
 refine fM 80 [(368,[2,0]),(369,[2,0])] [(3,6,[27,28,29,30,31,32])] [(0,0),(0,0),(0,0)] Tryz.func221 rfl (λu q=>?_)
 repeat'(first|refine gP ?_|refine CJ (r) ⟨⟨rfl,ax.enc_fz _⟩,⟨rfl,rfl⟩,trivial⟩ ?_)
 refine CH (ι:=Nat) (λi=>[(0,.F .box (cU h)),(1,.F .one [I ((t:Nat):Int)]),(2,.F .one [I ((c:Nat):Int)]),(10,.F .one [I ((i:Nat):Int)])]) (λi=>i<=h.H.length/\∀j,j<i->qb h c j=false) (λi=>h.H.length - i) (0) ?_ (⟨C1 _,λj W=>ω⟩) λi o=>?_
 ·exact wC
 obtain⟨R,w⟩:=o;by_cases C:i<h.H.length
 ·have l:=ar C
  by_cases O:(nth h.H i).Z=c
  ·have y:=wY h (nth h.H i).R
   cases D:gS h (nth h.H i).R with
   | true=>
    rw[D]at y
    repeat'(first|refine gB ?_|refine CJ (y) ⟨cw h,⟨rfl,rfl⟩,trivial⟩ ?_)
    (refine CF (i+1) ⟨ω,lN (by unfold qb;rw[D];simp) w⟩ ω ?_;(exact wC))
   | false=>
    rw[D]at y;have n:=uq h [] i B C;unfold km at n;by_cases P:(gX h i).length=0
    ·rw[CG P]at n
     repeat'(first|refine gB ?_|refine CJ (y) ⟨cw h,⟨rfl,rfl⟩,trivial⟩ ?_)
     (refine CF (i+1) ⟨ω,lN (by unfold qb;rw[Z0 (by omega:¬0<(gX h i).length)];simp) w⟩ ω ?_;(exact wC))
    rw[CD P]at n;have G:pH h c=some i:=wy C (by unfold qb;rw[O0 O,D,O0 ω];rfl) w;rw[G]at d;simp only at d;obtain⟨S,T⟩:=B.slotT C (by omega:0<(gX h i).length);have H:=lr.nn S T;rw[d];generalize slotT h i=g at n |-;generalize qL h i=a at n H |-
    repeat'(first|refine gB ?_|refine CJ (y) ⟨cw h,⟨rfl,rfl⟩,trivial⟩ ?_)
    refine CL rfl rfl ?_;exact wC
  refine ZB ?_
  (refine CF (i+1) ⟨ω,lN (by unfold qb;rw[Z0 O];rfl) w⟩ ω ?_;(exact wC))
 obtain rfl:i=h.H.length:=ω
 have G:pH h c=none:=xc w;rw[G]at d;simp only at d;have k:=Ex h [] c B p;rw[d];unfold Mf at k;by_cases J:(aA h.a 1).2.2=false
 ·rw[CG J]at k |-
  refine ZE ?_
  refine CL rfl rfl ?_;exact wC
 rw[CD J]at k |-;by_cases K:(dB h.K (aA h.a 1).2.1).2=false
 ·rw[CG K]at k |-
  refine ZE ?_
  refine CL rfl rfl ?_;exact wC
 rw[CD K]at k |-;obtain⟨U,V⟩:=Hi B N p J K;have L:=uq (pX h c) [] (pD h) U V;generalize pX h c=g at k L |-;generalize pD h=b at k L |-
 refine ZE ?_
 refine CL rfl rfl ?_;exact wC
def BF(h:ac)(size:Int):ac × Int:=
 if(aA h.a (lC size:Nat)).2.2=false then(h,-1)
 else if(jw h size).2=lC size then({h with K:=(jw h size).1,a:=(aA h.a (lC size:Nat)).1,S:=jD (RT (aA h.a (lC size:Nat)).2.1) h.S ⟨(aA h.a (lC size:Nat)).2.1,(lC size:Nat),size⟩},16*(aA h.a (lC size:Nat)).2.1)
 else({h with K:=gH (jw h size).1 (aA h.a (lC size:Nat)).2.1 (jw h size).2},-1)
def yY(k:af)(p:Int)(i:Nat):bB k p (i+1)=if(bB k p i).2=i then((dB (bB k p i).1 (p+(i:Nat))).1,if(dB (bB k p i).1 (p+(i:Nat))).2=true then i+1 else i) else bB k p i:=rfl
def G8(k:af)(p:Int):∀i,(bB k p i).2<=i
 | 0=>I4 _
 | i+1=>by
  have b:=G8 k p i;rw[yY];by_cases e:(bB k p i).2=i
  ·rw[CG e]
   show(if _ then i+1 else i)<=i+1;by_cases a:(dB (bB k p i).1 (p+(i:Nat))).2=true
   ·rw[CG a];exact I4 _
   rw[CD a];exact Nat.le_succ _
  rw[CD e];omega
def jE{k:af}{p:Int}{i:Nat}(h:(bB k p i).2≠i):∀j,bB k p (i+j)=bB k p i/\(bB k p (i+j)).2<i+j
 | 0=>⟨rfl,by show(bB k p i).2<i;have:=G8 k p i;omega⟩
 | j+1=>by
  have a:=jE h j;have e:bB k p (i+(j+1))=bB k p (i+j):=by
   show bB k p (i+j+1)=_;rw[yY,CD ω]
  exact⟨e.trans a.1,by rw[e];omega⟩
def AZ(h:ac)(size:Int)(l:cm h [])(C:9<=size/\size<=1000)(V:h.K.Calls<=90000):zzB 222 false [.ptr (cU h),.val none [I size]] [.ptr (cU (BF h size).1),.val none [I size]] .one [I (BF h size).2]:=by
 have E:=l.lens;have W:=E.larges;have Q:=l;have F:gr h<=32:=E.ents;have G:fT size=((lC size:Nat):Int):=by unfold fT lC;split<;>omega
 have hN:1<=lC size/\lC size<=63:=by unfold lC;omega
 have H:=sL size;rw[G]at H;have R:=nU h;have t:=qD (gr h:Nat) h.a (lC size:Nat) ⟨ω,ω⟩ l.rng ⟨ω,ω⟩ (by have:=E.free;omega);unfold Ws at t;have b:=jY l (show(1:Int)<=(lC size:Nat) by omega);unfold BF jw;generalize lC size=N at *;generalize aA h.a (N:Nat)=r at t b |-;obtain⟨J,p,ok⟩:=r;simp only at t b |-;refine fM 105 [(373,[2,0]),(374,[2,0]),(2000018,[0,7])] [(2,268,[16,17,18,19,20,21,22,23,15,24,25,26,0,1,2,3,4,5,6,7,8,9,10,11,12,1010,1011,13,1011,14])] [(0,0),(0,0)] Tryz.func222 rfl (λu q=>?_);cases ok with
 | false=>
  rw[CG rfl]
  repeat'(first|refine gP ?_|refine CJ (R) ⟨cw h,trivial⟩ ?_|refine CJ (t) ⟨⟨rfl,rfl⟩,⟨rfl,eY h.a⟩,⟨rfl,rfl⟩,trivial⟩ ?_)
  refine CL rfl rfl ?_;exact wC
 | true=>
  rw[CD (by simp)];obtain⟨S,K,B,u4⟩:=b rfl;change p+(N:Nat)<=(h.K.G.Q.J.length:Nat) at K;change ∀q:Nat,p<=q->(q:Int)<p+(N:Nat)->(nth h.K.G.Q.J q).l=0 at B
  have X:h.K.G.Q.J.length<=32:=F
  repeat'(first|refine gP ?_|refine CJ (R) ⟨cw h,trivial⟩ ?_|refine CJ (t) ⟨⟨rfl,rfl⟩,⟨rfl,eY h.a⟩,⟨rfl,rfl⟩,trivial⟩ ?_)
  refine CH (ι:=Nat) (λi=>[(0,.F .box (cU {h with K:=(bB h.K p i).1})),(1,.F .one [I (size)]),(5,.F .one [I ((N:Nat):Int)]),(6,.F .one (aU .own J)),(7,.F .one [I (p)]),(9,.F .one [I ((i:Nat):Int)])]) (λi=>i<=N/\(bB h.K p i).2=i) (λi=>N - i) (0) ?_ (⟨C1 _,rfl⟩) λi l=>?_
  ·exact wC
  obtain⟨L,M⟩:=l;have s:=m6.of (p:=p) (n:=N) Q.ker ω ⟨S,K⟩ B i L;have Y:=s.calls;have Z:=s.len;by_cases li:i<N
  ·have O:(nth (bB h.K p i).1.G.Q.J (p+(i:Nat)).toNat).l=0:=by
    rw[s.out _ (by rw[M];omega)];exact B _ ω ω
   have c:=Gu {h with K:=(bB h.K p i).1} (p+(i:Nat)) s.ker (by show(bB h.K p i).1.Calls≠100000;omega) ⟨ω,by show p+(i:Nat)<((bB h.K p i).1.G.Q.J.length:Nat);omega⟩ O;have a:bB h.K p (i+1)=((dB (bB h.K p i).1 (p+(i:Nat))).1,if(dB (bB h.K p i).1 (p+(i:Nat))).2=true then i+1 else i):=by
    show(if(bB h.K p i).2=i then _ else _)=_;rw[CG M]
   simp only at c;cases e:(dB (bB h.K p i).1 (p+(i:Nat))).2 with
   | true=>
    rw[e]at c a;rw[CG rfl]at a;have P:(dB (bB h.K p i).1 (p+(i:Nat))).1=(bB h.K p (i+1)).1:=by rw[a]
    rw[P]at c
    refine ZE ?_
    (refine CF (i+1) ⟨ω,by rw[a]⟩ ω ?_;(exact wC))
   | false=>
    rw[e]at c a;rw[CD (by simp)]at a;have d:=jE (k:=h.K) (p:=p) (i:=i+1) (by rw[a];simp only;omega) (N - (i+1));rw[show i+1+(N - (i+1))=N by omega]at d;rw[d.1]at d;have T:=m6.of (p:=p) (n:=N) Q.ker ω ⟨S,K⟩ B (i+1) ω;rw[CD (by have:=jE (k:=h.K) (p:=p) (i:=i+1) (by rw[a];simp only;omega) (N - (i+1));rw[show i+1+(N - (i+1))=N by omega]at this;omega)];rw[show bB h.K p N=bB h.K p (i+1) by have:=jE (k:=h.K) (p:=p) (i:=i+1) (by rw[a];simp only;omega) (N - (i+1));rw[show i+1+(N - (i+1))=N by omega]at this;exact this.1];rw[a]at T |-;have g:=T.ker;simp only at g |-;generalize (dB (bB h.K p i).1 (p+(i:Nat))).1=k at c g |-
    refine ZE ?_
    refine CH (ι:=Nat) (λj=>[(0,.F .box (cU {h with K:=gH k p j})),(1,.F .one [I (size)]),(5,.F .one [I ((N:Nat):Int)]),(7,.F .one [I (p)]),(9,.F .one [I ((i:Nat):Int)]),(10,.F .one [I ((j:Nat):Int)])]) (λj=>j<=i) (λj=>i - j) (0) ?_ (C1 _) λj hj=>?_
    ·exact wC
    have c4:=yx {h with K:=gH k p j} (p+(j:Nat)) (mX g p j);by_cases lj:j<i
    ·refine ZE ?_
     (refine CF (j+1) ω ω ?_;(exact wC))
    obtain rfl:j=i:=ω
    refine ZE ?_
    refine CL rfl rfl ?_;exact wC
  obtain rfl:i=N:=ω
  rw[CG M];generalize (bB h.K p i).1=k
  refine ZE ?_
  refine CH (ι:=Nat) (λm=>[(0,.F .box (cU {h with K:=k,a:=J})),(1,.F .one [I (size)]),(5,.F .one [I ((i:Nat):Int)]),(7,.F .one [I (p)]),(11,.F .one [I ((m:Nat):Int)])]) (λm=>m<=h.S.length/\∀(j:Nat)(z:aB),j<m->h.S[j]? = some z->RT p z=false) (λm=>h.S.length - m) (0) ?_ (⟨C1 _,λj z hj=>ω⟩) λm hm=>?_
  ·exact wC
  obtain⟨hm',U⟩:=hm;have hl2:({h with K:=k,a:=J} : ac).S.length=h.S.length:=rfl;by_cases go:m<h.S.length/\(nth h.S m).R<p
  ·have o:=ar go.1
   refine ZE ?_
   (refine CF (m+1) ⟨ω,fC o (Z0 ω) U⟩ ω ?_;(exact wC))
  have w:j8 (RT p) h.S=m:=mO ω U λz C=>by
   have hlt:=(Y3.1 C).1;have:z=nth h.S m:=(b6 C).symm;subst this;exact O0 ω
  have o:m<h.S.length->h.S[m]? = some (nth h.S m):=λhh=>ar hh
  rw[nh w]
  repeat'(first|refine gE ?_|with_reducible (first|refine CB (aa (o ω)) ?_|refine Bf.D (λhq=>?_) (λhq=>?_))|refine CK rfl (aa (o ω)) rfl ?_|refine Me.mk rfl (D3 h.S) rfl ?_|refine CX m rfl (by rw[Z1];omega) (aW λ_=>rfl) O5 ?_|refine Sl.suf m rfl (by rw[Z1];omega) (aW λ_=>rfl) X5 ?_|refine CT (λ_=>rfl) (λ_=>rfl) (by rw[Z2];omega) (by decide) ?_|refine Ap.sn (aW λ_=>rfl) rfl (by rw[Z1,Z2];omega) (by decide) rfl ?_|refine Ap.ins (e:=aB.enc .O) (y:=⟨p,(i:Nat),size⟩) rfl (λ_=>rfl) (λ_=>rfl) ω (by decide) ?_)
  all_goals
   refine CL rfl ?_ ?_
   ·exact I1 (λz=>[I z]) ω
   exact wC
def xh(h:aK k=true)(b:fE k.b):af.wf k:=by
 obtain⟨p,f,g,q,t⟩:=aI.1 h;obtain⟨u,w,y,A⟩:=bh.1 f;obtain⟨i,B,C⟩:=br.1 g;refine⟨⟨⟨⟨ω,λr b=>?_⟩,⟨ω,λ_ _=>trivial⟩⟩,⟨ω,λe l=>?_⟩⟩,⟨ω,ω⟩,b⟩
 ·obtain⟨j,c,rfl⟩:=bJ b
  obtain⟨D,n⟩:=K4 h c;exact⟨ω,λv o=>by have:=n v o;exact⟨ω,ω⟩⟩
 obtain⟨j,c,rfl⟩:=bJ l;have a:=i j c;unfold mS at a;rw[C0]at a;by_cases d:(nth k.G.Q.J j).l=0
 ·have:=a.2.2.1 d;exact⟨⟨ω,ω⟩,⟨ω,ω⟩⟩
 have:=a.2.2.2 d;exact⟨⟨ω,ω⟩,⟨ω,ω⟩⟩
def LO{p:aV}(h:fH p=true):aV.wf p:=by
 have a:=λi b=>jN h (i:=i) b
 have e:p.W.length<=16:=mE h;unfold fH at h;simp only[I0,C0]at h;exact⟨⟨ω,ω⟩,⟨ω,ω⟩,⟨ω,λv c=>by
   obtain⟨j,d,rfl⟩:=bJ c;have:=a j d;exact⟨ω,ω⟩⟩⟩
def cm.jobWf(a:cm h E):bk.wf h.p/\bk.sml h.p:=by
 cases b:h.j with
 | true=>
  obtain⟨c,f,g,i,j⟩:=gx.1 (a.job b).1;have k:=mE c;exact⟨⟨LO c,⟨ω,ω⟩,⟨ω,ω⟩⟩,by show h.p.Y.W.length<=1048576;omega⟩
 | false=>
  have:=a.noj b;unfold xa at this;rw[C0]at this;obtain⟨l,n,e,o,p⟩:=this;refine⟨⟨⟨⟨ω,ω⟩,⟨ω,ω⟩,⟨ω,λv d=>?_⟩⟩,⟨ω,ω⟩,⟨ω,ω⟩⟩,by show h.p.Y.W.length<=1048576;omega⟩;rw[S9 e]at d;cases d
def Aw(h:0<=bQ n):1<=n/\n<=8:=by
 unfold bQ at h
 repeat' split at h
 all_goals omega
def lr.wf(b:cm h E){a:Int}(d:lr h.H a c):oh a:=by
 have:=d.bd b;exact⟨ω,ω⟩
def cm.wf(d:cm h E)(M:fE h.K.b):ac.wf h:=by
 have q:=d.lens;have r:=d.L;have D:=d.nums;unfold dU at D;rw[C0]at D;obtain⟨X,N,Y⟩:=ig.1 d.rng;obtain⟨O,-,-,Z,q5,-⟩:=Hd.1 d.quar;have w:=d.mail;have k:=d.hfl;unfold bp at k;rw[CG w]at k;unfold dE at w;simp only[I0,C0,cq,iq,I5,oQ,Uf]at w;obtain⟨⟨⟨m1,m2,m3⟩,P⟩,m5⟩:=w;have A:=q.free;have Q:=q.spans;have h3:=q.larges;have h4:=q.objs;have h5:=q.caches;have h6:=q.quar;have t:∀n:Nat,bP h.e n<=bP h.e (n+1):=λn=>by simp only[bP];omega
 have g:∀a b:Nat,a<=b->bP h.e a<=bP h.e b:=λa b u=>by
  induction u with
  | refl=>exact Z6 _
  | step _ R=>exact Int.le_trans R (t _)
 have B:∀n:Nat,0<=bP h.e n:=λn=>g 0 n (C1 _)
 have o:∀i,i<h.e.V.length->(nth h.e.V i).length<=30/\(nth h.e.k i).length<=30:=λi f=>by
  have F:=g (i+1) h.e.V.length ω;have S:=B i;simp only[bP]at F;omega
 refine⟨xh d.ker M,⟨ω,λx e=>?_⟩,⟨ω,λx e=>?_⟩,⟨ω,λx e=>?_⟩,⟨ω,λx e=>?_⟩,⟨ω,λx e=>?_⟩,⟨⟨ω,λl c=>?_⟩,⟨ω,λl c=>?_⟩⟩,⟨⟨ω,ω⟩,⟨ω,λx e=>?_⟩⟩,⟨ω,ω⟩,⟨ω,ω⟩,⟨ω,ω⟩,⟨ω,ω⟩,trivial,d.jobWf.1⟩
 ·have:=N x e;exact⟨⟨ω,ω⟩,⟨ω,ω⟩⟩
 ·have y:=r.sok x e
  have G:=ek y;have T:=aP y;exact⟨⟨ω,ω⟩,⟨ω,ω⟩,⟨ω,ω⟩⟩
 ·have H:=cf (r.lok x e)
  have J:=eA (r.lok x e);exact⟨⟨ω,ω⟩,⟨ω,ω⟩,⟨ω,ω⟩⟩
 ·obtain⟨o1,o2,o3,o4⟩:=d.onu x e
  have u:0<=x.Addr/\x.Addr<512/\-1000<=x.a3/\x.a3<=1000:=by
   rcases d.oow x e with⟨s,y,A,Q⟩|⟨l,c,F,S⟩
   ·have T:=aP (r.sok s y)
    have:=Aw (n:=x.a3) ω;exact⟨by have:=A.1;omega,by have:=A.2.1;omega,ω,ω⟩
   have H:=cf (r.lok l c);have J:=eA (r.lok l c);omega
  exact⟨⟨ω,ω⟩,⟨ω,ω⟩,⟨ω,ω⟩,⟨ω,ω⟩⟩
 ·obtain⟨c1,U⟩:=q.lists x e
  refine⟨ω,λl c=>⟨by have:=U l c;omega,λa C=>?_⟩⟩;obtain⟨j,V,rfl⟩:=bJ c;exact lr.wf d (d.hca x e j V a C)
 ·obtain⟨i,f,rfl⟩:=bJ c
  have G:=o i f;refine⟨ω,λp K=>?_⟩;have W:=(P i f).1 p K;exact⟨⟨ω,ω⟩,lr.wf d (k p.Addr (C4.2 (.inl (List.mem_flatMap.2 ⟨_,aE f,Y5.2 ⟨p,K,rfl⟩⟩))))⟩
 ·obtain⟨i,f,rfl⟩:=bJ c
  have G:=o i ω;exact⟨ω,λa C=>lr.wf d (k a (C4.2 (.inr (List.mem_flatten.2 ⟨_,aE f,C⟩))))⟩
 have H:=O x e;have J:=d.snc x e;exact⟨lr.wf d (d.hqu x e),⟨ω,ω⟩,⟨ω,ω⟩⟩
structure Ww(h:ac):Prop where
 ker:aK h.K=true
 wf:ac.wf h
 sml:ac.sml h
 lens:pa h
def cm.fit(a:cm h E)(b:fE h.K.b)(c:aM.sml h.e):Ww h:=⟨a.ker,a.wf b,a.lens.sml a.ker c a.jobWf.2,a.lens⟩
def cm.mStep0(b:cm h [])(c:h.j=true)(a:pL h=false):cm (Ab.mStep h) []:=by
 have s:=JS.of b c;unfold pL at a;rw[O6]at a;unfold Ab.mStep;generalize (gw h.K h.p).1=k at s a |-;generalize (gw h.K h.p).2=j at s a |-;cases e:over j with
 | true=>exact b.step s.ker s.len (s.pg (.inl a)) (λh=>by simp at h) (λ_=>by simp[xa])
 | false=>
  simp only[Bool.false_eq_true,if_false];exact b.step s.ker s.len (s.pg (.inl a)) (λ_=>⟨gx.2 ⟨by rw[s.plan];exact(gx.1 (b.job c).1).1,s.ph.1,s.ph.2,s.nxt⟩,by rw[s.plan];exact(b.job c).2⟩) (λh=>by rw[c]at h;cases h)
def JH(b:cm h [])(c:h.j=true):aK (mStep h).K=true/\(mStep h).K.Calls<=h.K.Calls+1/\(mStep h).K.b=h.K.b/\(mStep h).e=h.e/\(pL h=true->(mStep h).j=false)/\bk.wf (mStep h).p/\bk.sml (mStep h).p:=by
 have s:=JS.of b c;refine⟨s.ker,s.calls.2.1,s.calls.2.2,rfl,λa=>?_,?_⟩
 ·unfold pL at a
  rw[C0]at a;show(if over _=true then false else h.j)=false;rw[CG (show over (gw h.K h.p).2=true from O0 (.inl a))]
 show bk.wf (if over _=true then _ else _)/\bk.sml (if over _=true then _ else _);split
 ·exact⟨⟨⟨⟨by decide,by decide⟩,⟨by decide,by decide⟩,⟨by decide,λv f=>by cases f⟩⟩,⟨by decide,by decide⟩,⟨by decide,by decide⟩⟩,by show(0:Nat)<=1048576;omega⟩
 have d:=(gx.1 (b.job c).1).1;have g:=mE d;obtain⟨j,k⟩:=s.ph;obtain⟨l,i⟩:=s.nxt;have e:=s.plan;refine⟨⟨by rw[e];exact LO d,⟨ω,ω⟩,⟨ω,by rw[e]at i;omega⟩⟩,by show((gw h.K h.p).2.Y.W).length<=1048576;rw[e];omega⟩
def K9(a:pa h)(b:aK (mStep h).K=true):pa (mStep h):=by
 obtain⟨n,c,d,o,p,q,e⟩:=aI.1 b;obtain⟨t,f,u,g⟩:=bh.1 c;obtain⟨w,y,i⟩:=br.1 d;refine⟨f,λr k=>?_,ω,i,e,a.free,a.spans,a.larges,a.objs,a.caches,a.lists,a.quar⟩;obtain⟨j,l,rfl⟩:=bJ k;have:=g j l;unfold jh at this;simp only[I0,C0]at this;exact this.1
def eN(h:ac):Nat->ac × Bool
 | 0=>(h,false)
 | i+1=>if(eN h i).1.j=true then(mStep (eN h i).1,pL (eN h i).1) else eN h i
def fin(h:ac):ac × Bool:=eN h 100
structure U3(h:ac)(c:Int)(g:ac × Bool):Prop where
 inv:g.2=false->cm g.1 []
 done:g.2=true->g.1.j=false
 fit:Ww g.1
 calls:g.1.K.Calls<=h.K.Calls+c
 ref:g.1.K.b=h.K.b
 mail:g.1.e=h.e
def tU{h:ac}(f:cm h [])(g:fE h.K.b)(j:aM.sml h.e):∀i:Nat,U3 h i (eN h i)
 | 0=>⟨λ_=>f,λe=>(by cases e),f.fit g j,by show h.K.Calls<=h.K.Calls+((0:Nat):Int);omega,rfl,rfl⟩
 | i+1=>by
  have b:=tU f g j i;unfold eN;split
  ·rename_i e
   have n:(eN h i).2=false:=by
    cases o:(eN h i).2 with
    | false=>rfl
    | true=>rw[b.done o]at e;cases e
   have k:=b.inv n;obtain⟨d,w,l,p,q,r,t⟩:=JH k e;have y:=b.calls;have a:=b.fit.wf;have c:=b.fit.sml;refine⟨λu=>k.mStep0 e u,q,⟨d,?_,?_,K9 b.fit.lens d⟩,by simp only;omega,l.trans b.ref,p.trans b.mail⟩
   ·exact⟨xh d (by rw[l,b.ref];exact g),a.2.1,a.2.2.1,a.2.2.2.1,a.2.2.2.2.1,a.2.2.2.2.2.1,a.2.2.2.2.2.2.1,a.2.2.2.2.2.2.2.1,a.2.2.2.2.2.2.2.2.1,a.2.2.2.2.2.2.2.2.2.1,a.2.2.2.2.2.2.2.2.2.2.1,a.2.2.2.2.2.2.2.2.2.2.2.1,trivial,r⟩
   exact⟨bS d,c.2.1,c.2.2.1,c.2.2.2.1,c.2.2.2.2.1,c.2.2.2.2.2.1,c.2.2.2.2.2.2.1,c.2.2.2.2.2.2.2.1,t⟩
  exact⟨b.inv,b.done,b.fit,by have:=b.calls;omega,b.ref,b.mail⟩
def QB(a:cm h [])(b:fE h.K.b)(c:aM.sml h.e):U3 h (100:Nat) (fin h):=tU a b c 100
def DV{h:ac}{i:Nat}(a:(eN h i).1.j=false):∀k,eN h (i+k)=eN h i
 | 0=>rfl
 | k+1=>by
  have b:=DV a k;have c:eN h (i+(k+1))=if(eN h (i+k)).1.j=true then(mStep (eN h (i+k)).1,pL (eN h (i+k)).1) else eN h (i+k):=rfl
  rw[c,b,CD (by rw[a];simp)]
def Lf(a:(eN h i).1.j=false)(b:i<=100):fin h=eN h i:=by
 have:=DV a (100 - i)
 rwa [show i+(100 - i)=100 by omega]at this
def xj(hi:cm h []):cm (started h).1 []/\(started h).1.K=h.K/\(started h).1.e=h.e:=by
 have r:=hi.nums;unfold dU at r;rw[C0]at r;have t:=(ml (bU h).length (show 0<=h.a4/\h.a4<=1073741823 by omega) ((bU h).length - 1)).2;have g:=tL (bU h) (show 0<=h.a4/\h.a4<=1073741823 by omega);have c:dU {h with a4:=(shuf (bU h).length h.a4).2} = true:=by
  unfold dU;rw[C0];unfold shuf;simp only;omega
 cases j:lI (bU h) h.a4 with
 | nil=>
  have f:Ab.started h=({h with a4:=(shuf (bU h).length h.a4).2},false):=by unfold Ab.started;rw[j]
  rw[f];exact⟨{hi with nums:=c},rfl,rfl⟩
 | cons q y=>
  obtain⟨C,D,k⟩:=g q (by rw[j];exact C3 ..);have f:Ab.started h=({h with a4:=(shuf (bU h).length h.a4).2,j:=true,p:=Bc (iY (nth (bU h) q.A.toNat) (nth (bU h) q.B.toNat))},true):=by unfold Ab.started;rw[j]
  rw[f];have d:∀s∈bU h,s∈h.H:=λs u=>vm h (I4 _) s (List.mem_of_mem_take u)
  have l:=d _ (aE (xs:=bU h) (i:=q.A.toNat) ω);have n:=d _ (aE (xs:=bU h) (i:=q.B.toNat) ω);generalize nth (bU h) q.A.toNat=a at k l |-;generalize nth (bU h) q.B.toNat=b at k n |-;obtain⟨w,E,F⟩:=vN k;have o:kg (Bc (iY a b))=true:=gx.2 ⟨w,by show(0:Int)<=0;omega,by show(0:Int)<=5;omega,by show(0:Int)<=0;omega,by show(0:Int)<=(((iY a b).W.length:Nat):Int);omega⟩;have p:(∃s∈h.H,s.R=(iY a b).w)/\∃s∈h.H,s.R=(iY a b).y:=by
   unfold iY;split
   ·exact⟨⟨b,n,rfl⟩,⟨a,l,rfl⟩⟩
   exact⟨⟨a,l,rfl⟩,⟨b,n,rfl⟩⟩
  exact⟨{hi with nums:=c,job:=λ_=>⟨o,p⟩,noj:=λe=>by cases e},rfl,rfl⟩
def cN(h:ac):Nat->ac × Nat
 | 0=>((fin h).1,(fin h).2.toNat)
 | i+1=>if(dq (cN h i).1).2=true then((fin (dq (cN h i).1).1).1,(cN h i).2+(fin (dq (cN h i).1).1).2.toNat) else((dq (cN h i).1).1,(cN h i).2)
structure Rz(h:ac)(i:Nat)(g:ac × Nat):Prop where
 fit:Ww g.1
 calls:g.1.K.Calls<=h.K.Calls+100*(i+1)
 ref:g.1.K.b=h.K.b
 mail:g.1.e=h.e
 cnt:g.2<=i+1
def Eb(d:Ww h)(f:fE h.K.b)(g:aM.sml h.e):Ww (dq h).1/\(dq h).1.K=h.K/\(dq h).1.e=h.e/\((dq h).2=true->cm (dq h).1 []):=by
 unfold dq;split
 ·rename_i e
  obtain⟨a,b,c⟩:=xj (cm.of e.2);exact⟨a.fit (by rw[b];exact f) (by rw[c];exact g),b,c,λ_=>a⟩
 exact⟨d,rfl,rfl,λe=>by cases e⟩
def pF{h:ac}(k:cm h [])(c:fE h.K.b)(d:aM.sml h.e):∀i:Nat,Rz h i (cN h i)
 | 0=>by
  have s:=QB k c d;show Rz h 0 ((fin h).1,(fin h).2.toNat);generalize fin h=f at s |-;have l:f.2.toNat<=1:=by cases f.2<;>decide
  exact⟨s.fit,by have:=s.calls;show f.1.K.Calls<=_;omega,s.ref,s.mail,l⟩
 | i+1=>by
  have a:=pF k c d i;obtain⟨n,b,g,o⟩:=Eb a.fit (by rw[a.ref];exact c) (by rw[a.mail];exact d);have p:=a.calls;have q:=a.cnt;unfold cN;split
  ·rename_i e
   have s:=QB (o e) (by rw[b,a.ref];exact c) (by rw[g,a.mail];exact d);generalize fin (dq (cN h i).1).1=f at s |-;have l:f.2.toNat<=1:=by cases f.2<;>decide
   have j:=s.calls;rw[b]at j;exact⟨s.fit,by show f.1.K.Calls<=_;omega,s.ref.trans (by rw[b];exact a.ref),s.mail.trans (g.trans a.mail),by simp only;omega⟩
  exact⟨n,by simp only[b];omega,by simp only[b];exact a.ref,g.trans a.mail,by simp only;omega⟩
def cm.objSz(a:cm h E):∀o∈h.X,0<=o.a3/\o.a3<=1000:=λx c=>by
 rcases a.oow x c with⟨s,d,e,f⟩|⟨l,b,g,i⟩
 ·have j:=aP (a.L.sok s d)
  have:=Aw (n:=x.a3) ω;omega
 have k:=eA (a.L.lok l b);omega
def Do(t:Int)(c:cm h [])(d:9<=size/\size<=1000):qN h t size=if(BF h size).2<0 then((BF h size).1,-1,4) else(addO (BF h size).1 (BF h size).2 size t,(BF h size).2,0):=by
 unfold qN BF;by_cases a:(aA h.a (lC size:Nat)).2.2=false
 ·rw[CG a,CG a]
  exact(CG (show(-1:Int)<0 by decide)).symm
 rw[CD a,CD a];obtain⟨e,-⟩:=jY c (show(1:Int)<=(lC size:Nat) by unfold lC;omega) (by simpa using a);by_cases b:(jw h size).2=lC size
 ·rw[CG b,CG b]
  exact(CD (show ¬16*(aA h.a (lC size:Nat)).2.1<0 by omega)).symm
 rw[CD b,CD b];exact(CG (show(-1:Int)<0 by decide)).symm
def B1(h:ac)(t size:Int)(k:cm h []):zzB 74 false [.ptr (cU h),.val none [I t],.val none [I size]] [.ptr (cU (fp h t size).1),.val none [I t],.val none [I size]] (.tup [none,none]) [I (fp h t size).2.1,I (fp h t size).2.2]:=by
 have X:=k.lens;have hlc:=X.caches;have P:=X.objs;have p:=k.nums;unfold dU at p;rw[C0]at p;have Q:=oB k.objSz h.X.length (I4 _);change 0<=oV h/\oV h<=_ at Q;have n:=aS t 0 ((h.M.length:Int) - 1);have r:=aS size 1 1000;have E:=yL h k.objSz ω;have F:=ve size;refine fM 119 [(221,[2,0,0]),(222,[2,0])] [(7,10,[36,37,38,39,40,41,42,43,44,45]),(18,272,[81,82,83,84,85,86,87,89,90,91,92,93,94,95,96,97,0,1,2,3,4,5,6,8,9,10,11,12,13,14,15,16,1016,7,1008,1009,1010,1011,1012,1013,1014,1015,1016,17,18]),(1048594,0,[8])] [(0,0),(0,0),(0,0)] Tryz.func74 rfl (λu q=>?_) (.inr ⟨trivial,trivial,trivial⟩);unfold fp;by_cases h1:1000000<=h.g
 ·rw[CG (.inl h1)]
  refine ZE ?_
  refine CL rfl rfl ?_;exact wC
 by_cases h2:90000<h.K.Calls
 ·rw[CG (.inr h2)]
  repeat'(first|refine gE ?_|with_reducible refine Bf.D (λb=>?_) (λb=>?_))
  refine CL rfl rfl ?_;exact wC
 rw[CD ω];by_cases C:¬(0<=t/\t<=h.M.length - 1)
 ·rw[CG C]
  rw[Z0 C]at n
  repeat'(first|refine gE ?_|with_reducible refine Bf.D (λb=>?_) (λb=>?_))
  refine CL rfl rfl ?_;exact wC
 rw[CD C];replace C:=Decidable.not_not.1 C;rw[O0 C]at n;by_cases B:¬(1<=size/\size<=1000)
 ·rw[CG B]
  rw[Z0 B]at r
  repeat'(first|refine gE ?_|with_reducible refine Bf.D (λb=>?_) (λb=>?_))
  refine CL rfl rfl ?_;exact wC
 rw[CD B];replace B:=Decidable.not_not.1 B;rw[O0 B]at r;by_cases Y:h.a9<oV h+size
 ·rw[CG Y]
  repeat'(first|refine gE ?_|with_reducible refine Bf.D (λb=>?_) (λb=>?_)|refine CJ (E) ⟨⟨rfl,cw h⟩,trivial⟩ ?_)
  refine CL rfl rfl ?_;exact wC
 rw[CD Y];by_cases G:0<=bQ size
 ·rw[CG G]
  have hc3:bQ size<=3:=by unfold bQ;repeat' split<;>omega
  obtain⟨T,rfl⟩:=v4 C.1;obtain⟨K,hK⟩:=v4 G;have o:=Bh h T K k ω ω ω;have s:=rN (t:=T) (c:=K) k ω ω ω;rw[hK]at F |-;simp only[t4];generalize en h T K=w at o s |-;obtain⟨g,a⟩:=w;have H:g.g=h.g:=s.nx;simp only at o |-;by_cases J:a<0
  ·rw[CG J]
   repeat'(first|refine gE ?_|with_reducible refine Bf.D (λb=>?_) (λb=>?_)|refine CJ (E) ⟨⟨rfl,cw h⟩,trivial⟩ ?_)
   refine CL rfl rfl ?_;exact wC
  rw[CD J];obtain⟨k1,k2⟩:=s.yes (show(0:Int)<=a by omega);have R:g.X.length<=512:=k1.lens.objs
  repeat'(first|refine gE ?_|with_reducible refine Bf.D (λb=>?_) (λb=>?_)|refine CJ (E) ⟨⟨rfl,cw h⟩,trivial⟩ ?_)
  refine CH (ι:=Nat) (λi=>[(0,.F .box (cU g)),(1,.F .one [I ((T:Nat):Int)]),(2,.F .one [I (size)]),(8,.F .one [I (a)]),(9,.F .one [I ((i:Nat):Int)])]) (λi=>i<=g.X.length/\∀(j:Nat)(z:bf),j<i->g.X[j]? = some z->Mz a z=false) (λi=>g.X.length - i) (0) ?_ (⟨C1 _,λj z hj=>ω⟩) λi k=>?_
  ·exact wC
  obtain⟨S,L⟩:=k;by_cases U:i<g.X.length/\(nth g.X i).Addr<a
  ·have d:=ar U.1
   refine ZE ?_
   (refine CF (i+1) ⟨ω,fC d (Z0 ω) L⟩ ω ?_;(exact wC))
  have l:j8 (Mz a) g.X=i:=mO ω L λz M=>by
   have V:=(Y3.1 M).1;have:z=nth g.X i:=(b6 M).symm;subst this;exact O0 ω
  have d:i<g.X.length->g.X[i]? = some (nth g.X i):=λW=>ar W
  rw[show addO g a size (T:Nat) = {g with X:=g.X.take i++⟨g.g,a,size,(T:Nat)⟩::g.X.drop i,g:=g.g+1} by unfold addO;rw[nh l]]
  repeat'(first|refine gE ?_|with_reducible (first|refine CB (aa (d ω)) ?_|refine Bf.D (λb=>?_) (λb=>?_))|refine CK rfl (aa (d ω)) rfl ?_|refine Me.mk rfl (FX g.X) rfl ?_|refine CX i rfl (by rw[Z1];omega) (aW λ_=>rfl) O5 ?_|refine Sl.suf i rfl (by rw[Z1];omega) (aW λ_=>rfl) X5 ?_|refine CT (λ_=>rfl) (λ_=>rfl) (by rw[Z2];omega) (by decide) ?_|refine Ap.sn (aW λ_=>rfl) rfl (by rw[Z1,Z2];omega) (by decide) rfl ?_|refine Ap.ins (e:=bf.enc .O) (y:=⟨g.g,a,size,(T:Nat)⟩) rfl (λ_=>rfl) (λ_=>rfl) ω (by decide) ?_)
  all_goals
   refine CL rfl rfl ?_;exact wC
 rw[CD G];have N:9<=size:=by unfold bQ at G;repeat' split at G<;>omega
 have o:=AZ h size k ⟨N,B.2⟩ ω;rw[Do t k ⟨N,B.2⟩];have Z:(BF h size).1.g=h.g/\(BF h size).1.X=h.X:=by
  unfold BF;split
  ·exact⟨rfl,rfl⟩
  split<;>exact⟨rfl,rfl⟩
 generalize BF h size=w at o Z |-;obtain⟨g,a⟩:=w;obtain⟨H,O⟩:=Z;simp only at o H O |-;have R:g.X.length<=512:=by rw[O];exact P
 by_cases J:a<0
 ·rw[CG J]
  repeat'(first|refine gE ?_|with_reducible refine Bf.D (λb=>?_) (λb=>?_)|refine CJ (E) ⟨⟨rfl,cw h⟩,trivial⟩ ?_)
  refine CL rfl rfl ?_;exact wC
 rw[CD J]
 repeat'(first|refine gE ?_|with_reducible refine Bf.D (λb=>?_) (λb=>?_)|refine CJ (E) ⟨⟨rfl,cw h⟩,trivial⟩ ?_)
 refine CH (ι:=Nat) (λi=>[(0,.F .box (cU g)),(1,.F .one [I (t)]),(2,.F .one [I (size)]),(8,.F .one [I (a)]),(9,.F .one [I ((i:Nat):Int)])]) (λi=>i<=g.X.length/\∀(j:Nat)(z:bf),j<i->g.X[j]? = some z->Mz a z=false) (λi=>g.X.length - i) (0) ?_ (⟨C1 _,λj z hj=>ω⟩) λi k=>?_
 ·exact wC
 obtain⟨S,L⟩:=k;by_cases U:i<g.X.length/\(nth g.X i).Addr<a
 ·have d:=ar U.1
  refine ZE ?_
  (refine CF (i+1) ⟨ω,fC d (Z0 ω) L⟩ ω ?_;(exact wC))
 have l:j8 (Mz a) g.X=i:=mO ω L λz M=>by
  have V:=(Y3.1 M).1;have:z=nth g.X i:=(b6 M).symm;subst this;exact O0 ω
 have d:i<g.X.length->g.X[i]? = some (nth g.X i):=λW=>ar W
 rw[show addO g a size t = {g with X:=g.X.take i++⟨g.g,a,size,t⟩::g.X.drop i,g:=g.g+1} by unfold addO;rw[nh l]]
 repeat'(first|refine gE ?_|with_reducible (first|refine CB (aa (d ω)) ?_|refine Bf.D (λb=>?_) (λb=>?_))|refine CK rfl (aa (d ω)) rfl ?_|refine Me.mk rfl (FX g.X) rfl ?_|refine CX i rfl (by rw[Z1];omega) (aW λ_=>rfl) O5 ?_|refine Sl.suf i rfl (by rw[Z1];omega) (aW λ_=>rfl) X5 ?_|refine CT (λ_=>rfl) (λ_=>rfl) (by rw[Z2];omega) (by decide) ?_|refine Ap.sn (aW λ_=>rfl) rfl (by rw[Z1,Z2];omega) (by decide) rfl ?_|refine Ap.ins (e:=bf.enc .O) (y:=⟨g.g,a,size,t⟩) rfl (λ_=>rfl) (λ_=>rfl) ω (by decide) ?_)
 all_goals
  refine CL rfl rfl ?_;exact wC
def pC(m:aM):∀(n i:Nat),i<n->((nth m.V i).length:Int)+(nth m.k i).length<=bP m n/\0<=bP m n
 | 0,i,h=>absurd h (Nat.not_lt_zero i)
 | n+1,i,h=>by
  have a:0<=bP m n:=by
   cases n with
   | zero=>exact Z6 _
   | succ k=>exact(pC m (k+1) 0 ω).2
  simp only[bP];by_cases e:i=n
  ·subst e;omega
  have:=(pC m n i ω).1;omega
structure G6(m:aM):Prop where
 b4:1<=m.V.length/\m.V.length<=4
 i4:m.k.length=m.V.length
 bl:∀i,i<m.V.length->(nth m.V i).length<=30
 il:∀i,i<m.V.length->(nth m.k i).length<=30
def G6.of{m:aM}(h:dE m=true):G6 m:=by
 obtain⟨⟨b,c,d⟩,-,e⟩:=KD.1 h;exact⟨⟨b,c⟩,d,λi a=>by have:=(pC m m.V.length i a).1;omega,λi a=>by have:=(pC m m.V.length i a).1;omega⟩
def G6.sml{m:aM}(h:G6 m):aM.sml m:=by
 have c:=h.b4;have d:=h.i4;refine⟨⟨ω,λl a=>?_⟩,⟨ω,λl a=>?_⟩⟩
 ·obtain⟨i,b,rfl⟩:=bJ a
  have:=h.bl i b;exact⟨ω,λ_ _=>trivial⟩
 obtain⟨i,b,rfl⟩:=bJ a;have:=h.il i ω;show(nth m.k i).length<=1048576;omega
def caps(h:ac)(k:Nat):ac:={h with M:=List.replicate k HO}
structure pJ where
 i:Nat
 h:Int
deriving Inhabited
def w64(x:Int):Int:=IntKind.i64.wrap x
def WA(h:Int):Int:=w64 (w64 (h*6364136223846793005)+1442695040888963407)
def WN(a b:Int):Int:=w64 ((BitVec.ofInt IntKind.i64.bits a ^^^ BitVec.ofInt IntKind.i64.bits b).toNat:Nat)
def and255(a:Int):Int:=w64 ((BitVec.ofInt IntKind.i64.bits a &&& BitVec.ofInt IntKind.i64.bits 255).toNat:Nat)
def Xn(h:Int)(n:Nat):Int:=h.fdiv (2 ^ (min n IntKind.i64.bits))
def U5(h:Int):Int:=and255 (WN (Xn h 33) (Xn h 45))
def lg(a:List Int)(c:pJ):Int × pJ:=if c.i<a.length then(and255 (U5 (WA c.h)+nth a c.i),⟨c.i+1,WA c.h⟩) else(U5 (WA c.h),⟨c.i,WA c.h⟩)
def Ur(a:List Int)(c:pJ):Int × pJ:=
 ((lg a c).1*16777216+(lg a (lg a c).2).1*65536+(lg a (lg a (lg a c).2).2).1*256+(lg a (lg a (lg a (lg a c).2).2).2).1,(lg a (lg a (lg a (lg a c).2).2).2).2)
def eI(a:List Int)(c:pJ)(n:Int):Int × pJ:=if n<=256 then((lg a c).1 % n,(lg a c).2) else((Ur a c).1 % n,(Ur a c).2)
def xk(a:List Int)(c:pJ)(l:List Int):Int × pJ:=(nth l (eI a c (l.length:Nat)).1.toNat,(eI a c (l.length:Nat)).2)
def VL(a:List Int):Nat->Nat->List Int->pJ->List Int × pJ
 | 0,_,out,c=>(out,(eI a c 4).2)
 | f+1,i,out,c=>if(i:Int)<(eI a c 4).1 then VL a f (i+1) (out++[(eI a (eI a c 4).2 12).1]) (eI a (eI a c 4).2 12).2 else(out,(eI a c 4).2)
def WZ(a:List Int)(c:pJ):List Int × pJ:=VL a 4 0 [] c
def WY(a:List Int)(c:pJ):Int × pJ:=eI a c 7
def Xq(a:List Int)(c:pJ):Int × pJ:=eI a (WY a c).2 3
def Xr(a:List Int)(c:pJ):Int × pJ:=eI a (Xq a c).2 100
def Xo(a:List Int)(c:pJ):Int × pJ:=eI a (Xr a c).2 4
def Xk(a:List Int)(c:pJ):List Int × pJ:=WZ a (Xo a c).2
def Wt(a:List Int)(c:pJ):EO:=⟨(6+(WY a c).1).toNat,(6+(WY a c).1 - (Xo a c).1).toNat,(1+(Xq a c).1).toNat,40+(Xr a c).1,(Xk a c).1⟩
def RU(a:List Int)(c:pJ):Int × pJ:=eI a c 3
def Vj(a:List Int)(c:pJ)(ids:Int):Int × pJ:=eI a (RU a c).2 ids
def xY(a:List Int)(c:pJ)(ids:Int):Int × pJ:=eI a (Vj a c ids).2 20
def szs:List Int:=[1,1,2,2,3,4,4,5,8,9,20]
def Ut(a:List Int)(c:pJ)(ids:Int):xv × pJ:=
 if(xY a c ids).1<=6 then(⟨1,(RU a c).1,(xk a (xY a c ids).2 szs).1,0,0⟩,(xk a (xY a c ids).2 szs).2)
 else if(xY a c ids).1<=9 then(⟨2,(RU a c).1,1+(Vj a c ids).1,0,0⟩,(xY a c ids).2)
 else if(xY a c ids).1<=12 then(⟨3,(RU a c).1,1+(Vj a c ids).1,(eI a (xY a c ids).2 4).1,1+(eI a (eI a (xY a c ids).2 4).2 999).1⟩,(eI a (eI a (xY a c ids).2 4).2 999).2)
 else if(xY a c ids).1=13 then(⟨4,(RU a c).1,1+(Vj a c ids).1,0,9+(eI a (xY a c ids).2 10).1⟩,(eI a (xY a c ids).2 10).2)
 else if(xY a c ids).1=14 then(⟨(xk a (xY a c ids).2 [5,6]).1,(RU a c).1,1+(Vj a c ids).1,0,0⟩,(xk a (xY a c ids).2 [5,6]).2)
 else if(xY a c ids).1=15 then(⟨7,(RU a c).1,1+(Vj a c ids).1,0,0⟩,(xY a c ids).2)
 else if(xY a c ids).1=16 then(⟨8,(RU a c).1,(xk a (xY a c ids).2 [1,30,60,120]).1,0,0⟩,(xk a (xY a c ids).2 [1,30,60,120]).2)
 else if(xY a c ids).1=17 then(⟨9,(RU a c).1,1+(Vj a c ids).1,0,0⟩,(xY a c ids).2)
 else(⟨10,(RU a c).1,(xk a (xY a c ids).2 [1,2,3,10,30]).1,0,0⟩,(xk a (xY a c ids).2 [1,2,3,10,30]).2)
def Mq(a:List Int)(c:pJ):Nat->List xv × pJ
 | 0=>([],(eI a c 41).2)
 | i+1=>((Mq a c i).1++[(Ut a (Mq a c i).2 (1+(i:Int) / 2)).1],(Ut a (Mq a c i).2 (1+(i:Int) / 2)).2)
def Uy(a:List Int)(c:pJ):List xv × pJ:=Mq a c (eI a c 41).1.toNat
def W6(a:List Int):Nat->Int
 | 0=>w64 (98801+(a.length:Nat))
 | i+1=>w64 ((BitVec.ofInt IntKind.i64.bits (w64 (w64 (w64 (W6 a i*131)+nth a i)+7)) &&& BitVec.ofInt IntKind.i64.bits 1073741823).toNat:Nat)
def VC(a:List Int):pJ:=⟨0,W6 a (min a.length 4000)⟩
def PY(a:List Int):pJ:=(Xk a (VC a)).2
def drawn(a:List Int):jO:=(WC (Wt a (VC a)) (Uy a (PY a)).1 (Uy a (PY a)).1.length).1
structure Rq where
 i:Nat
 out:List Int
 c:pJ
def rfs(h:ac):List Int:=h.K.b
def EN(k:af)(p:Int):(dB k p).1.b=k.b:=by unfold dB;split<;>rfl
def u5(k:af)(p:Int):∀n,(bB k p n).1.b=k.b
 | 0=>rfl
 | n+1=>by
  unfold bB;split
  ·exact(EN _ _).trans (u5 k p n)
  exact u5 k p n
def R7(h:ac)(i:Nat):rfs (km h i).1=rfs h:=by unfold km;split<;>rfl
def Dz(h:ac)(t c:Nat):rfs (en h t c).1=rfs h:=by
 unfold en;split
 ·rfl
 split
 ·rfl
 split
 ·rfl
 split
 ·exact EN _ _
 exact(R7 _ _).trans (EN _ _)
def Po(h:ac)(t n:Int):rfs (fp h t n).1=rfs h:=by
 unfold fp;split
 ·rfl
 split
 ·rfl
 split
 ·rfl
 split
 ·rfl
 split
 ·split
  ·exact Dz _ _ _
  exact Dz _ _ _
 unfold qN;split
 ·rfl
 split
 ·exact u5 _ _ _
 exact((Eg _ _ _).2).trans (u5 _ _ _)
set_option maxHeartbeats 2000000
def vH(x:List Int)(e:lw x):zzA 176 false [.val none (aH .O x)] .one (aH .own x):=by
 refine fO 22 [] Tryz.func176 rfl ?_ (.inr (bM x));have g:x.length<=1048576:=e;have a:(x.map (rI .own)).length=(List.replicate x.length ([I 0]:List C)).length:=by simp
 repeat'(first|refine gP ?_|refine Mk.mk _ rfl rfl ω (v8 g (by decide)) rfl ?_)
 refine CH (ι:=Nat) (λi=>[(0,.F .one (aH .O x)),(3,.F .one [.s .own (gM (x.map (rI .own)) (List.replicate x.length [I 0]) i)]),(4,.F .one [I (i:Nat)])]) (λi=>i<=x.length) (λi=>x.length - i) 0 ?_ (C1 _) λi h=>?_
 ·rw[cj]
  exact wA
 by_cases b:i<x.length
 ·obtain⟨y,d⟩ : ∃y,x[i]? = some y:=⟨_,X3 b⟩
  have c:=cW a i (by simp;omega);rw[iP b]at c
  repeat'(first|refine gE ?_|with_reducible refine CB c ?_|refine CN rfl rfl c rfl (I4 _) rfl ?_|refine CF (i+1) ω ω ?_)
  repeat'(first|exact trivial|rfl|exact CC rfl (CC (I1 (C.s dY.own) (bE a (aa d))) trivial)|refine CC ?_ ?_)
 refine ZE ?_
 rw[cY _ a (by simp;omega)]
 rfl
def tE(x:List (List Int))(e:j7 x):zzA 307 false [.val none (dX .O x)] .one (dX .own x):=by
 refine fO 23 [] Tryz.func307 rfl ?_ (.inr (N9 x));have g:x.length<=1048576:=e.1;have a:(x.map (aH .own)).length=(List.replicate x.length ([.z]:List C)).length:=by simp
 repeat'(first|refine gP ?_|refine Mk.mk _ rfl rfl ω (v8 g (by decide)) rfl ?_)
 refine CH (ι:=Nat) (λi=>[(0,.F .one (dX .O x)),(3,.F .one [.s .own (gM (x.map (aH .own)) (List.replicate x.length [.z]) i)]),(4,.F .one [I (i:Nat)])]) (λi=>i<=x.length) (λi=>x.length - i) 0 ?_ (C1 _) λi h=>?_
 ·rw[cj]
  exact wA
 by_cases b:i<x.length
 ·obtain⟨y,c⟩ : ∃y,x[i]? = some y:=⟨_,X3 b⟩
  have d:=cW a i (by simp;omega);rw[iP b]at d
  repeat'(first|refine gE ?_|with_reducible refine CB d ?_|refine CA (vH y (e.2 y (I3 c))) ?_|refine CN rfl rfl d rfl (I4 _) rfl ?_|refine CF (i+1) ω ω ?_)
  repeat'(first|exact trivial|rfl|exact CC rfl (CC (I1 (C.s dY.own) (bE a (aa c))) trivial)|refine CC ?_ ?_)
 refine ZE ?_
 rw[cY _ a (by simp;omega)]
 rfl
def KA(x:List Bool)(e:ow x):zzA 535 false [.val none (fX .O x)] .one (fX .own x):=by
 refine fO 22 [] Tryz.func535 rfl ?_ (.inr (N6 x));have g:x.length<=1048576:=e;have a:(x.map (rB .own)).length=(List.replicate x.length ([B false]:List C)).length:=by simp
 repeat'(first|refine gP ?_|refine Mk.mk _ rfl rfl ω (v8 g (by decide)) rfl ?_)
 refine CH (ι:=Nat) (λi=>[(0,.F .one (fX .O x)),(3,.F .one [.s .own (gM (x.map (rB .own)) (List.replicate x.length [B false]) i)]),(4,.F .one [I (i:Nat)])]) (λi=>i<=x.length) (λi=>x.length - i) 0 ?_ (C1 _) λi h=>?_
 ·rw[cj]
  exact wA
 by_cases b:i<x.length
 ·obtain⟨y,d⟩ : ∃y,x[i]? = some y:=⟨_,X3 b⟩
  have c:=cW a i (by simp;omega);rw[iP b]at c
  repeat'(first|refine gE ?_|with_reducible refine CB c ?_|refine CN rfl rfl c rfl (I4 _) rfl ?_|refine CF (i+1) ω ω ?_)
  repeat'(first|exact trivial|rfl|exact CC rfl (CC (I1 (C.s dY.own) (bE a (aa d))) trivial)|refine CC ?_ ?_)
 refine ZE ?_
 rw[cY _ a (by simp;omega)]
 rfl
def G2(x:aF)(a:aF.sml x):zzA 441 false [.val (some 2) (aF.enc .O x)] .agg (aF.enc .own x):=by
 obtain⟨b,c⟩:=a;refine fO 13 [] Tryz.func441 rfl ?_ (.inr (aF.enc_fr x))
 repeat'(first|refine gP ?_|refine CA (tE x.W b) ?_|refine CA (KA x.c c) ?_)
 rfl
def Kt(x:aN)(a:aN.sml x):zzA 579 false [.val (some 2) (aN.enc .O x)] .agg (aN.enc .own x):=by
 refine fO 11 [] Tryz.func579 rfl ?_ (.inr (aN.enc_fr x))
 refine ZP ?_
 rfl
def GF(x:List aN)(e:jG x):zzA 536 false [.val none (eO .O x)] .one (eO .own x):=by
 refine fO 23 [] Tryz.func536 rfl ?_ (.inr (J7 x));have g:x.length<=1048576:=e.1;have a:(x.map (aN.enc .own)).length=(List.replicate x.length ([I 0,I 0]:List C)).length:=by simp
 repeat'(first|refine gP ?_|refine Mk.mk _ rfl rfl ω (v8 g (by decide)) rfl ?_)
 refine CH (ι:=Nat) (λi=>[(0,.F .one (eO .O x)),(3,.F .one [.s .own (gM (x.map (aN.enc .own)) (List.replicate x.length [I 0,I 0]) i)]),(4,.F .one [I (i:Nat)])]) (λi=>i<=x.length) (λi=>x.length - i) 0 ?_ (C1 _) λi h=>?_
 ·rw[cj]
  exact wA
 by_cases b:i<x.length
 ·obtain⟨y,d⟩ : ∃y,x[i]? = some y:=⟨_,X3 b⟩
  have c:=cW a i (by simp;omega);rw[iP b]at c
  repeat'(first|refine gE ?_|with_reducible refine CB c ?_|refine CA (Kt y trivial) ?_|refine CN rfl rfl c rfl (I4 _) rfl ?_|refine CF (i+1) ω ω ?_)
  repeat'(first|exact trivial|rfl|exact CC rfl (CC (I1 (C.s dY.own) (bE a (aa d))) trivial)|refine CC ?_ ?_)
 refine ZE ?_
 rw[cY _ a (by simp;omega)]
 rfl
def Ly(x:aG)(a:aG.sml x):zzA 442 false [.val (some 1) (aG.enc .O x)] .agg (aG.enc .own x):=by
 have b:=a;refine fO 9 [] Tryz.func442 rfl ?_ (.inr (aG.enc_fr x))
 repeat'(first|refine gP ?_|refine CA (GF x.J b) ?_)
 rfl
def FE(x:aD)(a:aD.sml x):zzA 300 false [.val (some 3) (aD.enc .O x)] .agg (aD.enc .own x):=by
 obtain⟨b,c⟩:=a;refine fO 13 [] Tryz.func300 rfl ?_ (.inr (aD.enc_fr x))
 repeat'(first|refine gP ?_|refine CA (G2 x.U b) ?_|refine CA (Ly x.Q c) ?_)
 rfl
def HH(x:af)(a:af.sml x):zzA 139 false [.val (some 5) (af.enc .O x)] .agg (af.enc .own x):=by
 obtain⟨b,c⟩:=a;refine fO 16 [] Tryz.func139 rfl ?_ (.inr (CY x))
 repeat'(first|refine gP ?_|refine CA (FE x.G b) ?_|refine CA (vH x.b c) ?_)
 rfl
def KG(x:ay)(a:ay.sml x):zzA 301 false [.val (some 2) (ay.enc .O x)] .agg (ay.enc .own x):=by
 refine fO 11 [] Tryz.func301 rfl ?_ (.inr (ay.enc_fr x))
 refine ZP ?_
 rfl
def HA(x:List ay)(e:dD x):zzA 140 false [.val none (aU .O x)] .one (aU .own x):=by
 refine fO 23 [] Tryz.func140 rfl ?_ (.inr (hC x));have g:x.length<=1048576:=e.1;have a:(x.map (ay.enc .own)).length=(List.replicate x.length ([I 0,I 0]:List C)).length:=by simp
 repeat'(first|refine gP ?_|refine Mk.mk _ rfl rfl ω (v8 g (by decide)) rfl ?_)
 refine CH (ι:=Nat) (λi=>[(0,.F .one (aU .O x)),(3,.F .one [.s .own (gM (x.map (ay.enc .own)) (List.replicate x.length [I 0,I 0]) i)]),(4,.F .one [I (i:Nat)])]) (λi=>i<=x.length) (λi=>x.length - i) 0 ?_ (C1 _) λi h=>?_
 ·rw[cj]
  exact wA
 by_cases b:i<x.length
 ·obtain⟨y,d⟩ : ∃y,x[i]? = some y:=⟨_,X3 b⟩
  have c:=cW a i (by simp;omega);rw[iP b]at c
  repeat'(first|refine gE ?_|with_reducible refine CB c ?_|refine CA (KG y trivial) ?_|refine CN rfl rfl c rfl (I4 _) rfl ?_|refine CF (i+1) ω ω ?_)
  repeat'(first|exact trivial|rfl|exact CC rfl (CC (I1 (C.s dY.own) (bE a (aa d))) trivial)|refine CC ?_ ?_)
 refine ZE ?_
 rw[cY _ a (by simp;omega)]
 rfl
def Nk(x:au)(a:au.sml x):zzA 302 false [.val (some 3) (au.enc .O x)] .agg (au.enc .own x):=by
 refine fO 14 [] Tryz.func302 rfl ?_ (.inr (au.enc_fr x))
 refine ZP ?_
 rfl
def JR(x:List au)(e:cx x):zzA 141 false [.val none (bt .O x)] .one (bt .own x):=by
 refine fO 23 [] Tryz.func141 rfl ?_ (.inr (tg x));have g:x.length<=1048576:=e.1;have a:(x.map (au.enc .own)).length=(List.replicate x.length ([I 0,I 0,I 0]:List C)).length:=by simp
 repeat'(first|refine gP ?_|refine Mk.mk _ rfl rfl ω (v8 g (by decide)) rfl ?_)
 refine CH (ι:=Nat) (λi=>[(0,.F .one (bt .O x)),(3,.F .one [.s .own (gM (x.map (au.enc .own)) (List.replicate x.length [I 0,I 0,I 0]) i)]),(4,.F .one [I (i:Nat)])]) (λi=>i<=x.length) (λi=>x.length - i) 0 ?_ (C1 _) λi h=>?_
 ·rw[cj]
  exact wA
 by_cases b:i<x.length
 ·obtain⟨y,d⟩ : ∃y,x[i]? = some y:=⟨_,X3 b⟩
  have c:=cW a i (by simp;omega);rw[iP b]at c
  repeat'(first|refine gE ?_|with_reducible refine CB c ?_|refine CA (Nk y trivial) ?_|refine CN rfl rfl c rfl (I4 _) rfl ?_|refine CF (i+1) ω ω ?_)
  repeat'(first|exact trivial|rfl|exact CC rfl (CC (I1 (C.s dY.own) (bE a (aa d))) trivial)|refine CC ?_ ?_)
 refine ZE ?_
 rw[cY _ a (by simp;omega)]
 rfl
def Kn(x:aB)(a:aB.sml x):zzA 303 false [.val (some 3) (aB.enc .O x)] .agg (aB.enc .own x):=by
 refine fO 14 [] Tryz.func303 rfl ?_ (.inr (aB.enc_fr x))
 refine ZP ?_
 rfl
def GX(x:List aB)(e:cB x):zzA 142 false [.val none (bz .O x)] .one (bz .own x):=by
 refine fO 23 [] Tryz.func142 rfl ?_ (.inr (GS x));have g:x.length<=1048576:=e.1;have a:(x.map (aB.enc .own)).length=(List.replicate x.length ([I 0,I 0,I 0]:List C)).length:=by simp
 repeat'(first|refine gP ?_|refine Mk.mk _ rfl rfl ω (v8 g (by decide)) rfl ?_)
 refine CH (ι:=Nat) (λi=>[(0,.F .one (bz .O x)),(3,.F .one [.s .own (gM (x.map (aB.enc .own)) (List.replicate x.length [I 0,I 0,I 0]) i)]),(4,.F .one [I (i:Nat)])]) (λi=>i<=x.length) (λi=>x.length - i) 0 ?_ (C1 _) λi h=>?_
 ·rw[cj]
  exact wA
 by_cases b:i<x.length
 ·obtain⟨y,d⟩ : ∃y,x[i]? = some y:=⟨_,X3 b⟩
  have c:=cW a i (by simp;omega);rw[iP b]at c
  repeat'(first|refine gE ?_|with_reducible refine CB c ?_|refine CA (Kn y trivial) ?_|refine CN rfl rfl c rfl (I4 _) rfl ?_|refine CF (i+1) ω ω ?_)
  repeat'(first|exact trivial|rfl|exact CC rfl (CC (I1 (C.s dY.own) (bE a (aa d))) trivial)|refine CC ?_ ?_)
 refine ZE ?_
 rw[cY _ a (by simp;omega)]
 rfl
def Rt(x:bf)(a:bf.sml x):zzA 304 false [.val (some 4) (bf.enc .O x)] .agg (bf.enc .own x):=by
 refine fO 17 [] Tryz.func304 rfl ?_ (.inr (bf.enc_fr x))
 refine ZP ?_
 rfl
def Np(x:List bf)(e:ov x):zzA 143 false [.val none (fg .O x)] .one (fg .own x):=by
 refine fO 23 [] Tryz.func143 rfl ?_ (.inr (N0 x));have g:x.length<=1048576:=e.1;have a:(x.map (bf.enc .own)).length=(List.replicate x.length ([I 0,I 0,I 0,I 0]:List C)).length:=by simp
 repeat'(first|refine gP ?_|refine Mk.mk _ rfl rfl ω (v8 g (by decide)) rfl ?_)
 refine CH (ι:=Nat) (λi=>[(0,.F .one (fg .O x)),(3,.F .one [.s .own (gM (x.map (bf.enc .own)) (List.replicate x.length [I 0,I 0,I 0,I 0]) i)]),(4,.F .one [I (i:Nat)])]) (λi=>i<=x.length) (λi=>x.length - i) 0 ?_ (C1 _) λi h=>?_
 ·rw[cj]
  exact wA
 by_cases b:i<x.length
 ·obtain⟨y,d⟩ : ∃y,x[i]? = some y:=⟨_,X3 b⟩
  have c:=cW a i (by simp;omega);rw[iP b]at c
  repeat'(first|refine gE ?_|with_reducible refine CB c ?_|refine CA (Rt y trivial) ?_|refine CN rfl rfl c rfl (I4 _) rfl ?_|refine CF (i+1) ω ω ?_)
  repeat'(first|exact trivial|rfl|exact CC rfl (CC (I1 (C.s dY.own) (bE a (aa d))) trivial)|refine CC ?_ ?_)
 refine ZE ?_
 rw[cY _ a (by simp;omega)]
 rfl
def JZ(x:ax)(a:ax.sml x):zzA 305 false [.val (some 1) (ax.enc .O x)] .agg (ax.enc .own x):=by
 have b:=a;refine fO 9 [] Tryz.func305 rfl ?_ (.inr (Cc x))
 repeat'(first|refine gP ?_|refine CA (tE x.T b) ?_)
 rfl
def Hh(x:List ax)(e:iX x):zzA 144 false [.val none (dv .O x)] .one (dv .own x):=by
 refine fO 23 [] Tryz.func144 rfl ?_ (.inr (Gs x));have g:x.length<=1048576:=e.1;have a:(x.map (ax.enc .own)).length=(List.replicate x.length ([.z]:List C)).length:=by simp
 repeat'(first|refine gP ?_|refine Mk.mk _ rfl rfl ω (v8 g (by decide)) rfl ?_)
 refine CH (ι:=Nat) (λi=>[(0,.F .one (dv .O x)),(3,.F .one [.s .own (gM (x.map (ax.enc .own)) (List.replicate x.length [.z]) i)]),(4,.F .one [I (i:Nat)])]) (λi=>i<=x.length) (λi=>x.length - i) 0 ?_ (C1 _) λi h=>?_
 ·rw[cj]
  exact wA
 by_cases b:i<x.length
 ·obtain⟨y,c⟩ : ∃y,x[i]? = some y:=⟨_,X3 b⟩
  have d:=cW a i (by simp;omega);rw[iP b]at d
  repeat'(first|refine gE ?_|with_reducible refine CB d ?_|refine CA (JZ y (e.2 y (I3 c))) ?_|refine CN rfl rfl d rfl (I4 _) rfl ?_|refine CF (i+1) ω ω ?_)
  repeat'(first|exact trivial|rfl|exact CC rfl (CC (I1 (C.s dY.own) (bE a (aa c))) trivial)|refine CC ?_ ?_)
 refine ZE ?_
 rw[cY _ a (by simp;omega)]
 rfl
def Pw(x:aT)(a:aT.sml x):zzA 537 false [.val (some 2) (aT.enc .O x)] .agg (aT.enc .own x):=by
 refine fO 11 [] Tryz.func537 rfl ?_ (.inr (aT.enc_fr x))
 refine ZP ?_
 rfl
def Kx(x:List aT)(e:lR x):zzA 443 false [.val none (bK .O x)] .one (bK .own x):=by
 refine fO 23 [] Tryz.func443 rfl ?_ (.inr (oN x));have g:x.length<=1048576:=e.1;have a:(x.map (aT.enc .own)).length=(List.replicate x.length ([I 0,I 0]:List C)).length:=by simp
 repeat'(first|refine gP ?_|refine Mk.mk _ rfl rfl ω (v8 g (by decide)) rfl ?_)
 refine CH (ι:=Nat) (λi=>[(0,.F .one (bK .O x)),(3,.F .one [.s .own (gM (x.map (aT.enc .own)) (List.replicate x.length [I 0,I 0]) i)]),(4,.F .one [I (i:Nat)])]) (λi=>i<=x.length) (λi=>x.length - i) 0 ?_ (C1 _) λi h=>?_
 ·rw[cj]
  exact wA
 by_cases b:i<x.length
 ·obtain⟨y,d⟩ : ∃y,x[i]? = some y:=⟨_,X3 b⟩
  have c:=cW a i (by simp;omega);rw[iP b]at c
  repeat'(first|refine gE ?_|with_reducible refine CB c ?_|refine CA (Pw y trivial) ?_|refine CN rfl rfl c rfl (I4 _) rfl ?_|refine CF (i+1) ω ω ?_)
  repeat'(first|exact trivial|rfl|exact CC rfl (CC (I1 (C.s dY.own) (bE a (aa d))) trivial)|refine CC ?_ ?_)
 refine ZE ?_
 rw[cY _ a (by simp;omega)]
 rfl
def GD(x:List (List aT))(e:jI x):zzA 306 false [.val none (dZ .O x)] .one (dZ .own x):=by
 refine fO 23 [] Tryz.func306 rfl ?_ (.inr (HD x));have g:x.length<=1048576:=e.1;have a:(x.map (bK .own)).length=(List.replicate x.length ([.z]:List C)).length:=by simp
 repeat'(first|refine gP ?_|refine Mk.mk _ rfl rfl ω (v8 g (by decide)) rfl ?_)
 refine CH (ι:=Nat) (λi=>[(0,.F .one (dZ .O x)),(3,.F .one [.s .own (gM (x.map (bK .own)) (List.replicate x.length [.z]) i)]),(4,.F .one [I (i:Nat)])]) (λi=>i<=x.length) (λi=>x.length - i) 0 ?_ (C1 _) λi h=>?_
 ·rw[cj]
  exact wA
 by_cases b:i<x.length
 ·obtain⟨y,c⟩ : ∃y,x[i]? = some y:=⟨_,X3 b⟩
  have d:=cW a i (by simp;omega);rw[iP b]at d
  repeat'(first|refine gE ?_|with_reducible refine CB d ?_|refine CA (Kx y (e.2 y (I3 c))) ?_|refine CN rfl rfl d rfl (I4 _) rfl ?_|refine CF (i+1) ω ω ?_)
  repeat'(first|exact trivial|rfl|exact CC rfl (CC (I1 (C.s dY.own) (bE a (aa c))) trivial)|refine CC ?_ ?_)
 refine ZE ?_
 rw[cY _ a (by simp;omega)]
 rfl
def NI(x:aM)(a:aM.sml x):zzA 145 false [.val (some 2) (aM.enc .O x)] .agg (aM.enc .own x):=by
 obtain⟨b,c⟩:=a;refine fO 13 [] Tryz.func145 rfl ?_ (.inr (aM.enc_fr x))
 repeat'(first|refine gP ?_|refine CA (GD x.V b) ?_|refine CA (tE x.k c) ?_)
 rfl
def Kf(x:aL)(a:aL.sml x):zzA 444 false [.val (some 3) (aL.enc .O x)] .agg (aL.enc .own x):=by
 refine fO 14 [] Tryz.func444 rfl ?_ (.inr (aL.enc_fr x))
 refine ZP ?_
 rfl
def Ji(x:List aL)(e:fF x):zzA 308 false [.val none (ct .O x)] .one (ct .own x):=by
 refine fO 23 [] Tryz.func308 rfl ?_ (.inr (HC x));have g:x.length<=1048576:=e.1;have a:(x.map (aL.enc .own)).length=(List.replicate x.length ([I 0,I 0,I 0]:List C)).length:=by simp
 repeat'(first|refine gP ?_|refine Mk.mk _ rfl rfl ω (v8 g (by decide)) rfl ?_)
 refine CH (ι:=Nat) (λi=>[(0,.F .one (ct .O x)),(3,.F .one [.s .own (gM (x.map (aL.enc .own)) (List.replicate x.length [I 0,I 0,I 0]) i)]),(4,.F .one [I (i:Nat)])]) (λi=>i<=x.length) (λi=>x.length - i) 0 ?_ (C1 _) λi h=>?_
 ·rw[cj]
  exact wA
 by_cases b:i<x.length
 ·obtain⟨y,d⟩ : ∃y,x[i]? = some y:=⟨_,X3 b⟩
  have c:=cW a i (by simp;omega);rw[iP b]at c
  repeat'(first|refine gE ?_|with_reducible refine CB c ?_|refine CA (Kf y trivial) ?_|refine CN rfl rfl c rfl (I4 _) rfl ?_|refine CF (i+1) ω ω ?_)
  repeat'(first|exact trivial|rfl|exact CC rfl (CC (I1 (C.s dY.own) (bE a (aa d))) trivial)|refine CC ?_ ?_)
 refine ZE ?_
 rw[cY _ a (by simp;omega)]
 rfl
def MV(x:aZ)(a:aZ.sml x):zzA 146 false [.val (some 2) (aZ.enc .O x)] .agg (aZ.enc .own x):=by
 have b:=a;refine fO 12 [] Tryz.func146 rfl ?_ (.inr (aZ.enc_fr x))
 repeat'(first|refine gP ?_|refine CA (Ji x.u b) ?_)
 rfl
def N1(x:aV)(a:aV.sml x):zzA 309 false [.val (some 3) (aV.enc .O x)] .agg (aV.enc .own x):=by
 have b:=a;refine fO 15 [] Tryz.func309 rfl ?_ (.inr (aV.enc_fr x))
 repeat'(first|refine gP ?_|refine CA (vH x.W b) ?_)
 rfl
def Qm(x:bk)(a:bk.sml x):zzA 147 false [.val (some 5) (bk.enc .O x)] .agg (bk.enc .own x):=by
 have b:=a;refine fO 15 [] Tryz.func147 rfl ?_ (.inr (bk.enc_fr x))
 repeat'(first|refine gP ?_|refine CA (N1 x.Y b) ?_)
 rfl
def Nu(x:ac)(a:ac.sml x):zzA 48 false [.val (some 24) (ac.enc .O x)] .agg (ac.enc .own x):=by
 obtain⟨b,c,d,e,g,h,i,j,k⟩:=a;refine fO 56 [] Tryz.func48 rfl ?_ (.inr (Cb x))
 repeat'(first|refine gP ?_|refine CA (HH x.K b) ?_|refine CA (HA x.a c) ?_|refine CA (JR x.H d) ?_|refine CA (GX x.S e) ?_|refine CA (Np x.X g) ?_|refine CA (Hh x.M h) ?_|refine CA (NI x.e i) ?_|refine CA (MV x.q j) ?_|refine CA (Qm x.p k) ?_)
 rfl
set_option maxHeartbeats 2000000
def vD(x:List Int)(left:Int)(b:0<=left)(c:left<=1048576)(a:fE x):zzA 175 false [.val none (aH .O x),.val none [I left]] .one [I (k5 (szIntS x) left)]:=by
 refine fO 12 [] Tryz.func175 rfl ?_;have d:=a.1
 repeat'(first|refine gE ?_|with_reducible refine Bf.D (λh=>?_) (λh=>?_))
 all_goals exact I1 (λz=>[I z]) (by unfold k5 szIntS;split<;>omega)
def tD(x:List (List Int))(left:Int)(n:0<=left)(o:left<=1048576)(e:uJ x):zzA 296 false [.val none (dX .O x),.val none [I left]] .one [I (k5 (szIntSS x) left)]:=by
 refine fO 27 [] Tryz.func296 rfl ?_;have p:=e.1
 repeat'(first|refine gE ?_|with_reducible refine Bf.D (λh=>?_) (λh=>?_))
 ·exact I1 (λz=>[I z]) (by unfold k5 szIntSS;split<;>omega)
 (conv=>whnf)
 refine CH (ι:=Nat) (λi=>[(0,.F .one (dX .O x)),(1,.F .one [I (left - x.length - (eH x i:Nat))]),(5,.F .one [I (i:Nat)])]) (λi=>i<=x.length/\(x.length+eH x i:Int)<=left) (λi=>x.length - i) 0 ?_ ⟨C1 _,by rw[mf];omega⟩ λi g=>?_
 ·rw[mf]
  repeat'(first|exact trivial|rfl|exact CC rfl (CC (I1 I ω) trivial)|refine CC ?_ ?_)
 obtain⟨g,a⟩:=g;have k:=pi x i;by_cases b:i<x.length
 ·obtain⟨y,c⟩ : ∃y,x[i]? = some y:=⟨_,X3 b⟩
  have d:=qZ x i y c;have j:=pi x (i+1)
  repeat'(first|refine gE ?_|with_reducible refine Bf.D (λh=>?_) (λh=>?_)|refine CV (vD y _ ω ω (e.2 y (I3 c))) (λh=>?_) (λh=>?_)|refine CF (i+1) ⟨ω,ω⟩ ω ?_)
  ·exact I1 (λz=>[I z]) (by unfold k5 szIntSS;split<;>omega)
  rw[d]
  repeat'(first|exact trivial|rfl|exact CC rfl (CC (I1 I ω) trivial)|refine CC ?_ ?_)
 repeat'(first|refine gE ?_|with_reducible refine Bf.D (λh=>?_) (λh=>?_))
 have l:i=x.length:=ω
 subst l;rw[sf]at a |-;exact I1 (λz=>[I z]) (by unfold k5 szIntSS;split<;>omega)
def JO(x:List Bool)(left:Int)(b:0<=left)(c:left<=1048576)(a:EK x):zzA 532 false [.val none (fX .O x),.val none [I left]] .one [I (k5 (szBoolS x) left)]:=by
 refine fO 12 [] Tryz.func532 rfl ?_;have d:=a.1
 repeat'(first|refine gE ?_|with_reducible refine Bf.D (λh=>?_) (λh=>?_))
 all_goals exact I1 (λz=>[I z]) (by unfold k5 szBoolS;split<;>omega)
def HG(x:aF)(left:Int)(b:0<=left)(c:left<=1048576)(a:aF.wf x):zzA 437 false [.val (some 2) (aF.enc .O x),.val none [I left]] .one [I (k5 (aF.sz x) left)]:=by
 obtain⟨wCells,wUsed⟩:=a;refine fO 18 [] Tryz.func437 rfl ?_
 repeat'(first|refine gE ?_|with_reducible refine Bf.D (λh=>?_) (λh=>?_)|refine CV (tD x.W _ ω ω wCells) (λh=>?_) (λh=>?_)|refine CV (JO x.c _ ω ω wUsed) (λh=>?_) (λh=>?_))
 all_goals exact I1 (λz=>[I z]) (by unfold k5 aF.sz;split<;>omega)
def H1(x:List aN)(left:Int)(b:0<=left)(c:left<=1048576)(a:vR x):zzA 533 false [.val none (eO .O x),.val none [I left]] .one [I (k5 (lL x) left)]:=by
 refine fO 12 [] Tryz.func533 rfl ?_;have d:=a.1
 repeat'(first|refine gE ?_|with_reducible refine Bf.D (λh=>?_) (λh=>?_))
 all_goals exact I1 (λz=>[I z]) (by unfold k5 lL;split<;>omega)
def Lv(x:aG)(left:Int)(b:0<=left)(c:left<=1048576)(a:aG.wf x):zzA 438 false [.val (some 1) (aG.enc .O x),.val none [I left]] .one [I (k5 (aG.sz x) left)]:=by
 refine fO 12 [] Tryz.func438 rfl ?_
 repeat'(first|refine gE ?_|with_reducible refine Bf.D (λh=>?_) (λh=>?_)|refine CV (H1 x.J _ ω ω a) (λh=>?_) (λh=>?_))
 all_goals exact I1 (λz=>[I z]) (by unfold k5 aG.sz;split<;>omega)
def FS(x:aD)(left:Int)(b:0<=left)(c:left<=1048576)(a:aD.wf x):zzA 293 false [.val (some 3) (aD.enc .O x),.val none [I left]] .one [I (k5 (aD.sz x) left)]:=by
 obtain⟨wFrames,wTable⟩:=a;refine fO 18 [] Tryz.func293 rfl ?_
 repeat'(first|refine gE ?_|with_reducible refine Bf.D (λh=>?_) (λh=>?_)|refine CV (HG x.U _ ω ω wFrames) (λh=>?_) (λh=>?_)|refine CV (Lv x.Q _ ω ω wTable) (λh=>?_) (λh=>?_))
 all_goals exact I1 (λz=>[I z]) (by unfold k5 aD.sz;split<;>omega)
def Ha(x:af)(left:Int)(b:0<=left)(c:left<=1048576)(a:af.wf x):zzA 129 false [.val (some 5) (af.enc .O x),.val none [I left]] .one [I (k5 (af.sz x) left)]:=by
 obtain⟨wMachine,wCalls,wRefuse⟩:=a;refine fO 18 [] Tryz.func129 rfl ?_
 repeat'(first|refine gE ?_|with_reducible refine Bf.D (λh=>?_) (λh=>?_)|refine CV (FS x.G _ ω ω wMachine) (λh=>?_) (λh=>?_)|refine CV (vD x.b _ ω ω wRefuse) (λh=>?_) (λh=>?_))
 all_goals exact I1 (λz=>[I z]) (by unfold k5 af.sz;split<;>omega)
def Jl(x:List ay)(left:Int)(b:0<=left)(c:left<=1048576)(a:vT x):zzA 130 false [.val none (aU .O x),.val none [I left]] .one [I (k5 (lP x) left)]:=by
 refine fO 12 [] Tryz.func130 rfl ?_;have d:=a.1
 repeat'(first|refine gE ?_|with_reducible refine Bf.D (λh=>?_) (λh=>?_))
 all_goals exact I1 (λz=>[I z]) (by unfold k5 lP;split<;>omega)
def L1(x:List au)(left:Int)(b:0<=left)(c:left<=1048576)(a:yW x):zzA 131 false [.val none (bt .O x),.val none [I left]] .one [I (k5 (oq x) left)]:=by
 refine fO 12 [] Tryz.func131 rfl ?_;have d:=a.1
 repeat'(first|refine gE ?_|with_reducible refine Bf.D (λh=>?_) (λh=>?_))
 all_goals exact I1 (λz=>[I z]) (by unfold k5 oq;split<;>omega)
def Jc(x:List aB)(left:Int)(b:0<=left)(c:left<=1048576)(a:vJ x):zzA 132 false [.val none (bz .O x),.val none [I left]] .one [I (k5 (lS x) left)]:=by
 refine fO 12 [] Tryz.func132 rfl ?_;have d:=a.1
 repeat'(first|refine gE ?_|with_reducible refine Bf.D (λh=>?_) (λh=>?_))
 all_goals exact I1 (λz=>[I z]) (by unfold k5 lS;split<;>omega)
def MZ(x:List bf)(left:Int)(b:0<=left)(c:left<=1048576)(a:Ft x):zzA 133 false [.val none (fg .O x),.val none [I left]] .one [I (k5 (rr x) left)]:=by
 refine fO 12 [] Tryz.func133 rfl ?_;have d:=a.1
 repeat'(first|refine gE ?_|with_reducible refine Bf.D (λh=>?_) (λh=>?_))
 all_goals exact I1 (λz=>[I z]) (by unfold k5 rr;split<;>omega)
def Kq(x:ax)(left:Int)(b:0<=left)(c:left<=1048576)(a:ax.wf x):zzA 294 false [.val (some 1) (ax.enc .O x),.val none [I left]] .one [I (k5 (ax.sz x) left)]:=by
 refine fO 12 [] Tryz.func294 rfl ?_
 repeat'(first|refine gE ?_|with_reducible refine Bf.D (λh=>?_) (λh=>?_)|refine CV (tD x.T _ ω ω a) (λh=>?_) (λh=>?_))
 all_goals exact I1 (λz=>[I z]) (by unfold k5 ax.sz;split<;>omega)
def Hw(x:List ax)(left:Int)(n:0<=left)(o:left<=1048576)(e:vS x):zzA 134 false [.val none (dv .O x),.val none [I left]] .one [I (k5 (gF x) left)]:=by
 refine fO 27 [] Tryz.func134 rfl ?_;have p:=e.1
 repeat'(first|refine gE ?_|with_reducible refine Bf.D (λh=>?_) (λh=>?_))
 ·exact I1 (λz=>[I z]) (by unfold k5 gF;split<;>omega)
 (conv=>whnf)
 refine CH (ι:=Nat) (λi=>[(0,.F .one (dv .O x)),(1,.F .one [I (left - x.length - (cZ x i:Nat))]),(5,.F .one [I (i:Nat)])]) (λi=>i<=x.length/\(x.length+cZ x i:Int)<=left) (λi=>x.length - i) 0 ?_ ⟨C1 _,by rw[jF];omega⟩ λi g=>?_
 ·rw[jF]
  repeat'(first|exact trivial|rfl|exact CC rfl (CC (I1 I ω) trivial)|refine CC ?_ ?_)
 obtain⟨g,a⟩:=g;have k:=mA x i;by_cases b:i<x.length
 ·obtain⟨y,c⟩ : ∃y,x[i]? = some y:=⟨_,X3 b⟩
  have d:=oG x i y c;have j:=mA x (i+1)
  repeat'(first|refine gE ?_|with_reducible refine Bf.D (λh=>?_) (λh=>?_)|refine CV (Kq y _ ω ω (e.2 y (I3 c))) (λh=>?_) (λh=>?_)|refine CF (i+1) ⟨ω,ω⟩ ω ?_)
  ·exact I1 (λz=>[I z]) (by unfold k5 gF;split<;>omega)
  rw[d]
  repeat'(first|exact trivial|rfl|exact CC rfl (CC (I1 I ω) trivial)|refine CC ?_ ?_)
 repeat'(first|refine gE ?_|with_reducible refine Bf.D (λh=>?_) (λh=>?_))
 have l:i=x.length:=ω
 subst l;rw[pM]at a |-;exact I1 (λz=>[I z]) (by unfold k5 gF;split<;>omega)
def Km(x:List aT)(left:Int)(b:0<=left)(c:left<=1048576)(a:zk x):zzA 439 false [.val none (bK .O x),.val none [I left]] .one [I (k5 (jz x) left)]:=by
 refine fO 12 [] Tryz.func439 rfl ?_;have d:=a.1
 repeat'(first|refine gE ?_|with_reducible refine Bf.D (λh=>?_) (λh=>?_))
 all_goals exact I1 (λz=>[I z]) (by unfold k5 jz;split<;>omega)
def G4(x:List (List aT))(left:Int)(n:0<=left)(o:left<=1048576)(e:we x):zzA 295 false [.val none (dZ .O x),.val none [I left]] .one [I (k5 (gG x) left)]:=by
 refine fO 27 [] Tryz.func295 rfl ?_;have p:=e.1
 repeat'(first|refine gE ?_|with_reducible refine Bf.D (λh=>?_) (λh=>?_))
 ·exact I1 (λz=>[I z]) (by unfold k5 gG;split<;>omega)
 (conv=>whnf)
 refine CH (ι:=Nat) (λi=>[(0,.F .one (dZ .O x)),(1,.F .one [I (left - x.length - (cV x i:Nat))]),(5,.F .one [I (i:Nat)])]) (λi=>i<=x.length/\(x.length+cV x i:Int)<=left) (λi=>x.length - i) 0 ?_ ⟨C1 _,by rw[jM];omega⟩ λi g=>?_
 ·rw[jM]
  repeat'(first|exact trivial|rfl|exact CC rfl (CC (I1 I ω) trivial)|refine CC ?_ ?_)
 obtain⟨g,a⟩:=g;have k:=mh x i;by_cases b:i<x.length
 ·obtain⟨y,c⟩ : ∃y,x[i]? = some y:=⟨_,X3 b⟩
  have d:=oc x i y c;have j:=mh x (i+1)
  repeat'(first|refine gE ?_|with_reducible refine Bf.D (λh=>?_) (λh=>?_)|refine CV (Km y _ ω ω (e.2 y (I3 c))) (λh=>?_) (λh=>?_)|refine CF (i+1) ⟨ω,ω⟩ ω ?_)
  ·exact I1 (λz=>[I z]) (by unfold k5 gG;split<;>omega)
  rw[d]
  repeat'(first|exact trivial|rfl|exact CC rfl (CC (I1 I ω) trivial)|refine CC ?_ ?_)
 repeat'(first|refine gE ?_|with_reducible refine Bf.D (λh=>?_) (λh=>?_))
 have l:i=x.length:=ω
 subst l;rw[pR]at a |-;exact I1 (λz=>[I z]) (by unfold k5 gG;split<;>omega)
def Pa(x:aM)(left:Int)(b:0<=left)(c:left<=1048576)(a:aM.wf x):zzA 135 false [.val (some 2) (aM.enc .O x),.val none [I left]] .one [I (k5 (aM.sz x) left)]:=by
 obtain⟨wBuffers,wInbox⟩:=a;refine fO 18 [] Tryz.func135 rfl ?_
 repeat'(first|refine gE ?_|with_reducible refine Bf.D (λh=>?_) (λh=>?_)|refine CV (G4 x.V _ ω ω wBuffers) (λh=>?_) (λh=>?_)|refine CV (tD x.k _ ω ω wInbox) (λh=>?_) (λh=>?_))
 all_goals exact I1 (λz=>[I z]) (by unfold k5 aM.sz;split<;>omega)
def Hb(x:List aL)(left:Int)(b:0<=left)(c:left<=1048576)(a:wn x):zzA 297 false [.val none (ct .O x),.val none [I left]] .one [I (k5 (lJ x) left)]:=by
 refine fO 12 [] Tryz.func297 rfl ?_;have d:=a.1
 repeat'(first|refine gE ?_|with_reducible refine Bf.D (λh=>?_) (λh=>?_))
 all_goals exact I1 (λz=>[I z]) (by unfold k5 lJ;split<;>omega)
def N2(x:aZ)(left:Int)(b:0<=left)(c:left<=1048576)(a:aZ.wf x):zzA 136 false [.val (some 2) (aZ.enc .O x),.val none [I left]] .one [I (k5 (aZ.sz x) left)]:=by
 obtain⟨wRoom,wLst⟩:=a;refine fO 12 [] Tryz.func136 rfl ?_
 repeat'(first|refine gE ?_|with_reducible refine Bf.D (λh=>?_) (λh=>?_)|refine CV (Hb x.u _ ω ω wLst) (λh=>?_) (λh=>?_))
 all_goals exact I1 (λz=>[I z]) (by unfold k5 aZ.sz;split<;>omega)
def Ps(x:aV)(left:Int)(b:0<=left)(c:left<=1048576)(a:aV.wf x):zzA 298 false [.val (some 3) (aV.enc .O x),.val none [I left]] .one [I (k5 (aV.sz x) left)]:=by
 obtain⟨wKeep,wMove,wCells⟩:=a;refine fO 12 [] Tryz.func298 rfl ?_
 repeat'(first|refine gE ?_|with_reducible refine Bf.D (λh=>?_) (λh=>?_)|refine CV (vD x.W _ ω ω wCells) (λh=>?_) (λh=>?_))
 all_goals exact I1 (λz=>[I z]) (by unfold k5 aV.sz;split<;>omega)
def Qp(x:bk)(left:Int)(b:0<=left)(c:left<=1048576)(a:bk.wf x):zzA 137 false [.val (some 5) (bk.enc .O x),.val none [I left]] .one [I (k5 (bk.sz x) left)]:=by
 obtain⟨wPlan,wPhase,wNext⟩:=a;refine fO 12 [] Tryz.func137 rfl ?_
 repeat'(first|refine gE ?_|with_reducible refine Bf.D (λh=>?_) (λh=>?_)|refine CV (Ps x.Y _ ω ω wPlan) (λh=>?_) (λh=>?_))
 all_goals exact I1 (λz=>[I z]) (by unfold k5 bk.sz;split<;>omega)
def Dy(x:ac)(left:Int)(b:0<=left)(c:left<=1048576)(a:ac.wf x):zzA 46 false [.val (some 24) (ac.enc .O x),.val none [I left]] .one [I (k5 (ac.sz x) left)]:=by
 obtain⟨wKernel,wFree,wSpans,wLarges,wObjs,wCaches,wMail,wQuar,wSeed,wClock,wLimit,wNext,wMeshing,wJob⟩:=a;refine fO 60 [] Tryz.func46 rfl ?_
 repeat'(first|refine gE ?_|with_reducible refine Bf.D (λh=>?_) (λh=>?_)|refine CV (Ha x.K _ ω ω wKernel) (λh=>?_) (λh=>?_)|refine CV (Jl x.a _ ω ω wFree) (λh=>?_) (λh=>?_)|refine CV (L1 x.H _ ω ω wSpans) (λh=>?_) (λh=>?_)|refine CV (Jc x.S _ ω ω wLarges) (λh=>?_) (λh=>?_)|refine CV (MZ x.X _ ω ω wObjs) (λh=>?_) (λh=>?_)|refine CV (Hw x.M _ ω ω wCaches) (λh=>?_) (λh=>?_)|refine CV (Pa x.e _ ω ω wMail) (λh=>?_) (λh=>?_)|refine CV (N2 x.q _ ω ω wQuar) (λh=>?_) (λh=>?_)|refine CV (Qp x.p _ ω ω wJob) (λh=>?_) (λh=>?_))
 all_goals exact I1 (λz=>[I z]) (by unfold k5 ac.sz;split<;>omega)
end Go.Proofs.YtiopgblagimpmaaGreat.Ab
