/- A job's steps: the reference's, all of a step. No condition. -/
import Derived.Test.YtiopgblagimpmaaGreatKbc
import Derived.Test.YtiopgblagimpmaaGreatKbf
import Derived.Test.YtiopgblagimpmaaGreatKbe
import Derived.Test.YtiopgblagimpmaaGreatKbd
set_option linter.unusedVariables false
set_option linter.defProp false
set_option linter.unusedSimpArgs false
set_option linter.constructorNameAsVariable false
namespace Go.Proofs.YtiopgblagimpmaaGreat.Ab
open Go.RowKit
set_option maxRecDepth 20000
set_option maxHeartbeats 4000000
variable{k:ah}
def mU{j:cJ} : jmay k j=true↔(aF k=true/\k.Calls≠100000)/\jR j=true/\(af k.F.R j.X.a3).e≠0/\(af k.F.R j.X.a1).e≠0/\(af k.F.R j.X.a3).j≠(af k.F.R j.X.a1).j:=by
 unfold jmay;simp only[I0,C0]
def mR{p:cA}(h:eR p=true):p.T.length<=16:=by
 unfold eR at h;simp only[I0]at h;have a:∀i,i<p.T.length->(i:Int)<=nth p.T i:=λi=>by
  induction i with
  | zero=>
   intro a;have:=eZ h.1 a;unfold mF at this;rw[C0]at this;exact this.1
  | succ i b=>
   intro a;have c:=b ω;have:=eZ h.1 a;unfold mF at this;rw[C0]at this;have d:=this.2.2.resolve_left ω;rw[Nat.add_sub_cancel]at d;omega
 by_cases e:p.T.length<=16
 ·exact e
 exfalso;have c:=a 16 ω;have:=eZ h.1 (show 16<p.T.length by omega);unfold mF at this;rw[C0]at this;omega
def Mj{j:cJ}(h:jR j=true):cJ.sml j:=by
 have:=mR (dw.1 h).1;show j.X.T.length<=1048576;omega
def uq(h:aF k=true):dC k.F=true:=by
 unfold aF at h;simp only[I0]at h;exact h.1.2
def BL(k:ah)(j:cJ)(p:jmay k j=true)(g:j.b0=3):zzB 578 false [.ptr (ah.enc .own k),.ptr (xm j)] [.ptr (ah.enc .own (jstep k j).1),.ptr (xm (jstep k j).2)] (.tup []) []:=by
 obtain⟨⟨a,r⟩,t,c,d,w⟩:=mU.1 p;obtain⟨h,H,J,K,L⟩:=dw.1 t;have y:=b8 a;obtain⟨M,N,O,B,P⟩:=bW a c;have l:=(br.1 (aG.1 a).2.2.1).2.2;have C:=mR h;have D:=(bf.1 (aG.1 a).2.1).2.2.1;unfold jstep;rw[CB ω,CB ω,CB ω,CD g];by_cases n:0<j.b
 ·rw[CD n]
  have o:=gn h (i:=(j.b - 1).toNat) ω;have E:=au (xs:=j.X.T) (i:=(j.b - 1).toNat) ω;have F:0<=j.X.a3*16+nth j.X.T (j.b - 1).toNat/\j.X.a3*16+nth j.X.T (j.b - 1).toNat<512:=ω
  have G:(j.X.a3*16+nth j.X.T (j.b - 1).toNat) / 16=j.X.a3:=ω
  have b:=Ja k.F (j.X.a3*16+nth j.X.T (j.b - 1).toNat) 0 (uq a) y.1 F ω (λ_=>by rw[G];exact⟨B,ω,row16 a (f:=bP k j.X.a3) (by unfold bP;omega)⟩);generalize (iQ k.F (j.X.a3*16+nth j.X.T (j.b - 1).toNat) 0).1=m at b |-;generalize (iQ k.F (j.X.a3*16+nth j.X.T (j.b - 1).toNat) 0).2=e at b;refine fM 59 [(575,[2,0,0])] [(2,283,[20,21,22,23,24,25,26,27,28,29,30,31,32,33,34,35,36,37,38,39,40,41,42,19,43,44,4,0,1,2,3,4,5,6,7,8,9,10,11,12,13,14,15,16,17,18,19,20,21,22,23,24,25,26,27,1025,28])] [(0,0),(1,0)] Tryz.func578 rfl (λu q=>?_) (.inr trivial)
  repeat'(first|refine gE ?_|(conv=>whnf);first|refine CC ?_|refine CK (b) ⟨⟨rfl,aY.enc_fz k.F⟩,⟨rfl,rfl⟩,⟨rfl,rfl⟩,trivial⟩ ?_|refine CO ω (aa E) ?_|refine CC ?_)
  refine CH rfl rfl ?_;exact wC
 rw[CB n];have b:=oI k j.X.a1 2 a r d (.inr rfl);cases e:(jW k j.X.a1 2).2<;>rw[e]at b
 ·refine fM 59 [(575,[2,0,0])] [(2,283,[20,21,22,23,24,25,26,27,28,29,30,31,32,33,34,35,36,37,38,39,40,41,42,19,43,44,4,0,1,2,3,4,5,6,7,8,9,10,11,12,13,14,15,16,17,18,19,20,21,22,23,24,25,26,27,1025,28])] [(0,0),(1,0)] Tryz.func578 rfl (λu q=>?_) (.inr trivial)
  repeat'(first|refine gE ?_|(conv=>whnf);first|refine CC ?_|refine CL (b) (.inl rfl) ?_)
  refine CH rfl rfl ?_;rw[<-g];exact wC
 refine fM 59 [(575,[2,0,0])] [(2,283,[20,21,22,23,24,25,26,27,28,29,30,31,32,33,34,35,36,37,38,39,40,41,42,19,43,44,4,0,1,2,3,4,5,6,7,8,9,10,11,12,13,14,15,16,17,18,19,20,21,22,23,24,25,26,27,1025,28])] [(0,0),(1,0)] Tryz.func578 rfl (λu q=>?_) (.inr trivial)
 repeat'(first|refine gE ?_|(conv=>whnf);first|refine CC ?_|refine CL (b) (.inl rfl) ?_)
 refine CH rfl rfl ?_;exact wC
def DW(k:ah)(j:cJ)(g:jmay k j=true):zzB 529 false [.ptr (ah.enc .own k),.ptr (xm j)] [.ptr (ah.enc .own (jstep k j).1),.ptr (xm (jstep k j).2)] (.tup []) []:=by
 obtain⟨⟨h,p⟩,B,c,b,l⟩:=mU.1 g;obtain⟨r,F,G,H,J⟩:=dw.1 B;have n:j.X.a1≠j.X.a3:=λe=>l (by rw[e])
 have C:=mR r;by_cases d:j.b0=0
 ·have a:=oI k j.X.a1 1 h p b (.inl rfl)
  unfold jstep;rw[CD d];cases e:(jW k j.X.a1 1).2<;>rw[e]at a
  ·refine fM 80 [(575,[2,0,0]),(576,[2,0,0,0]),(577,[2,0,0]),(578,[2,2])] [(7,7,[27,28,29,30,31,32,33]),(9,14,[38,39,40,41,42,43,44,45,46,47,48,49,50,51])] [(0,0),(1,0)] Tryz.func529 rfl (λu q=>?_) (.inr trivial)
   repeat'(first|refine gB ?_|(conv=>whnf);first|refine CC ?_|refine CL (a) (.inl rfl) ?_)
   refine CH rfl rfl ?_;exact wC
  refine fM 80 [(575,[2,0,0]),(576,[2,0,0,0]),(577,[2,0,0]),(578,[2,2])] [(7,7,[27,28,29,30,31,32,33]),(9,14,[38,39,40,41,42,43,44,45,46,47,48,49,50,51])] [(0,0),(1,0)] Tryz.func529 rfl (λu q=>?_) (.inr trivial)
  repeat'(first|refine gB ?_|(conv=>whnf);first|refine CC ?_|refine CL (a) (.inl rfl) ?_)
  refine CH rfl rfl ?_;exact wC
 by_cases o:j.b0=1
 ·unfold jstep
  rw[CB d,CD o];by_cases t:j.b=j.X.T.length
  ·rw[CD t]
   refine fM 80 [(575,[2,0,0]),(576,[2,0,0,0]),(577,[2,0,0]),(578,[2,2])] [(7,7,[27,28,29,30,31,32,33]),(9,14,[38,39,40,41,42,43,44,45,46,47,48,49,50,51])] [(0,0),(1,0)] Tryz.func529 rfl (λu q=>?_) (.inr trivial)
   repeat'(first|refine gB ?_|(conv=>whnf);first|refine CC ?_|refine CC ?_)
   refine CH rfl rfl ?_;exact wC
  rw[CB t];have D:=au (xs:=j.X.T) (i:=j.b.toNat) ω;have a:=Ai k j.X.a1 j.X.a3 (nth j.X.T j.b.toNat) h b c (gn r ω);have E:=(mU.1 g).2.1;refine fM 80 [(575,[2,0,0]),(576,[2,0,0,0]),(577,[2,0,0]),(578,[2,2])] [(7,7,[27,28,29,30,31,32,33]),(9,14,[38,39,40,41,42,43,44,45,46,47,48,49,50,51])] [(0,0),(1,0)] Tryz.func529 rfl (λu q=>?_) (.inr trivial)
  repeat'(first|refine gB ?_|(conv=>whnf);first|refine CC ?_|refine CL a (.inr ⟨rfl,Cf _,trivial⟩) ?_|refine CO ω (aa D) ?_|refine CC ?_)
  refine CH rfl rfl ?_;exact wC
 by_cases w:j.b0=2
 ·have a:=HU k j.X.a1 j.X.a3 h p b c n
  unfold jstep;rw[CB d,CB o,CD w];cases e:(vV k j.X.a1 j.X.a3).2<;>rw[e]at a
  ·refine fM 80 [(575,[2,0,0]),(576,[2,0,0,0]),(577,[2,0,0]),(578,[2,2])] [(7,7,[27,28,29,30,31,32,33]),(9,14,[38,39,40,41,42,43,44,45,46,47,48,49,50,51])] [(0,0),(1,0)] Tryz.func529 rfl (λu q=>?_) (.inr trivial)
   repeat'(first|refine gB ?_|(conv=>whnf);first|refine CC ?_|refine CL (a) (.inl rfl) ?_)
   refine CH rfl rfl ?_;exact wC
  refine fM 80 [(575,[2,0,0]),(576,[2,0,0,0]),(577,[2,0,0]),(578,[2,2])] [(7,7,[27,28,29,30,31,32,33]),(9,14,[38,39,40,41,42,43,44,45,46,47,48,49,50,51])] [(0,0),(1,0)] Tryz.func529 rfl (λu q=>?_) (.inr trivial)
  repeat'(first|refine gB ?_|(conv=>whnf);first|refine CC ?_|refine CL (a) (.inl rfl) ?_)
  refine CH rfl rfl ?_;exact wC
 by_cases y:j.b0=3
 ·have a:=BL k j g y
  refine fM 80 [(575,[2,0,0]),(576,[2,0,0,0]),(577,[2,0,0]),(578,[2,2])] [(7,7,[27,28,29,30,31,32,33]),(9,14,[38,39,40,41,42,43,44,45,46,47,48,49,50,51])] [(0,0),(1,0)] Tryz.func529 rfl (λu q=>?_) (.inr trivial)
  repeat'(first|refine gB ?_|(conv=>whnf);first|refine CC ?_|refine CL (a) (.inl rfl) ?_)
  refine CH rfl rfl ?_;exact wC
 unfold jstep;rw[CB d,CB o,CB w,CB y];refine fM 80 [(575,[2,0,0]),(576,[2,0,0,0]),(577,[2,0,0]),(578,[2,2])] [(7,7,[27,28,29,30,31,32,33]),(9,14,[38,39,40,41,42,43,44,45,46,47,48,49,50,51])] [(0,0),(1,0)] Tryz.func529 rfl (λu q=>?_) (.inr trivial)
 repeat'(first|refine gB ?_|(conv=>whnf);first|refine CC ?_)
 refine CH rfl rfl ?_;exact wC
def EP(k:ah)(j:cJ)(e:aF k=true)(i:jR j=true):zzA 528 false [.val (some 5) (ah.enc .V k),.val (some 5) (cJ.enc .V j)] .one [B (jmay k j)]:=by
 have c:=b8 e;have b:dE (ah.enc .V k)=ah.enc .V k:=by rw[<-CR k,sw]
 have r:=(aG.1 e).2.2.2.2;have a:=lU k c;rw[e]at a;have d:=xk j (Mj i);rw[i]at d;have l:=eJ k j.X.a3 c.1.2;have n:=eJ k j.X.a1 c.1.2;have t:=dl k.F.R j.X.a3 c.1.2;have u:=dl k.F.R j.X.a1 c.1.2;by_cases o:k.Calls=100000
 ·rw[W0 ω]at a
  rw[show jmay k j=false by rw[<-C6,mU];exact λh=>h.1.2 o];refine fO 44 [(3,16,[27,28,29,30,31,32,33,34,35,36,37,38,39,40,41,42])] Tryz.func528 rfl ?_
  repeat'(first|refine gP ?_|(conv=>whnf);first|refine CC ?_|refine C9 (a) ?_|refine C9 (d) ?_)
  rfl
 rw[O0 ω]at a;by_cases p:(af k.F.R j.X.a3).e=0
 ·rw[show jmay k j=false by rw[<-C6,mU];exact λh=>h.2.2.1 p]
  refine fO 44 [(3,16,[27,28,29,30,31,32,33,34,35,36,37,38,39,40,41,42])] Tryz.func528 rfl ?_
  repeat'(first|refine gB ?_|(conv=>whnf);first|refine CC ?_|refine C9 (a) ?_|refine C9 (d) ?_|refine CK (l) ⟨b,⟨rfl,rfl⟩,trivial⟩ ?_|refine CK (n) ⟨b,⟨rfl,rfl⟩,trivial⟩ ?_)
  rfl
 by_cases q:(af k.F.R j.X.a1).e=0
 ·rw[show jmay k j=false by rw[<-C6,mU];exact λh=>h.2.2.2.1 q]
  refine fO 44 [(3,16,[27,28,29,30,31,32,33,34,35,36,37,38,39,40,41,42])] Tryz.func528 rfl ?_
  repeat'(first|refine gB ?_|(conv=>whnf);first|refine CC ?_|refine C9 (a) ?_|refine C9 (d) ?_|refine CK (l) ⟨b,⟨rfl,rfl⟩,trivial⟩ ?_|refine CK (n) ⟨b,⟨rfl,rfl⟩,trivial⟩ ?_)
  rfl
 refine fO 44 [(3,16,[27,28,29,30,31,32,33,34,35,36,37,38,39,40,41,42])] Tryz.func528 rfl ?_
 repeat'(first|refine gB ?_|(conv=>whnf);first|refine CC ?_|refine C9 (a) ?_|refine C9 (d) ?_|refine CK (l) ⟨b,⟨rfl,rfl⟩,trivial⟩ ?_|refine CK (n) ⟨b,⟨rfl,rfl⟩,trivial⟩ ?_|refine C9 (t) ?_|refine C9 (u) ?_|refine CC ?_)
 exact Z0 (λz=>[B z]) (by
   unfold jmay;rw[e,i,O0 o];by_cases g:(af k.F.R j.X.a3).j=(af k.F.R j.X.a1).j
   · rw[W0 (λh=>h.2.2 g)];simp[g]
   rw[O0 ⟨p,q,g⟩];simp[g])
def BD(j:cJ):zzA 530 false [.val (some 5) (cJ.enc .V j)] .one [B (over j)]:=by
 by_cases a:j.b0=4
 ·rw[show over j=true from O0 (.inl a)]
  refine fO 11 [] Tryz.func530 rfl ?_
  repeat'(first|refine gB ?_|(conv=>whnf);first|refine CC ?_)
  rfl
 rw[show over j=decide (j.b0=5) from decide_eq_decide.2 ω];refine fO 11 [] Tryz.func530 rfl ?_
 repeat'(first|refine gB ?_|(conv=>whnf);first|refine CC ?_)
 exact Z0 (λz=>[B z]) (by rw[C5];simp)
def JW(x:ac):List C:=(bE x).set 21 .z
def FL{x:ac}(h:x.Y.X.T=[]):P9 (JW x) (bE x):=by
 unfold JW bE;simp only[List.set,h,List.map_nil]
 repeat'(first|exact trivial|exact dL _|refine CM ?_ ?_|rfl)
def Er(h:ac)(j:bc h [])(k:h.u=true):zzB 431 false [.ptr (bE h)] [.ptr (bE (mStep h))] .one [B (Gj h)]:=by
 obtain⟨l,-,-⟩:=j.job k;have b:=EP h.G h.Y j.ker l;have a:=BD (gY h.G h.Y).2;unfold Gj mStep;cases e:jmay h.G h.Y with
 | false=>
  rw[e]at b;have d:gY h.G h.Y=(h.G,h.Y):=by unfold gY;rw[e];rfl
  rw[d]at a |-;simp only at a |-;cases g:over h.Y<;>rw[g]at a
  ·refine fM 39 [(529,[3,5,5])] [(1,8,[4,5,6,7,8,9,10,11]),(2,6,[13,14,15,16,17,18])] [(0,0)] Tryz.func431 rfl (λu q=>?_)
   repeat'(first|refine gP ?_|(conv=>whnf);first|refine CK (b) ⟨⟨rfl,CR h.G⟩,⟨rfl,rfl⟩,trivial⟩ ?_|refine C9 (a) ?_|refine CC ?_)
   refine CH rfl ?_ ?_
   ·exact Z0 (λz=>[B z]) (by rw[C5];simp)
   exact wC
  refine aP.wk (c:=JW _) ?_ (FL rfl);refine fM 39 [(529,[3,5,5])] [(1,8,[4,5,6,7,8,9,10,11]),(2,6,[13,14,15,16,17,18])] [(0,0)] Tryz.func431 rfl (λu q=>?_)
  repeat'(first|refine gP ?_|(conv=>whnf);first|refine CK (b) ⟨⟨rfl,CR h.G⟩,⟨rfl,rfl⟩,trivial⟩ ?_|refine C9 (a) ?_|refine CC ?_)
  refine CH rfl ?_ ?_
  ·exact Z0 (λz=>[B z]) (by rw[C5];simp)
  exact wC
 | true=>
  rw[e]at b;have d:gY h.G h.Y=jstep h.G h.Y:=by unfold gY;rw[e];rfl
  have i:=DW h.G h.Y e;rw[d]at a |-;generalize jstep h.G h.Y=r at i a |-;cases g:over r.2<;>rw[g]at a
  ·refine fM 39 [(529,[3,5,5])] [(1,8,[4,5,6,7,8,9,10,11]),(2,6,[13,14,15,16,17,18])] [(0,0)] Tryz.func431 rfl (λu q=>?_)
   repeat'(first|refine gP ?_|(conv=>whnf);first|refine CK (b) ⟨⟨rfl,CR h.G⟩,⟨rfl,rfl⟩,trivial⟩ ?_|refine C9 (a) ?_|refine CL (i) (.inl rfl) ?_|refine CC ?_)
   refine CH rfl ?_ ?_
   ·exact Z0 (λz=>[B z]) (by rw[C5];simp)
   exact wC
  refine aP.wk (c:=JW _) ?_ (FL rfl);refine fM 39 [(529,[3,5,5])] [(1,8,[4,5,6,7,8,9,10,11]),(2,6,[13,14,15,16,17,18])] [(0,0)] Tryz.func431 rfl (λu q=>?_)
  repeat'(first|refine gP ?_|(conv=>whnf);first|refine CK (b) ⟨⟨rfl,CR h.G⟩,⟨rfl,rfl⟩,trivial⟩ ?_|refine C9 (a) ?_|refine CL (i) (.inl rfl) ?_|refine CC ?_)
  refine CH rfl ?_ ?_
  ·exact Z0 (λz=>[B z]) (by rw[C5];simp)
  exact wC
def Kk{k:Int} : ∀{l s s2 c:List Int}(n:Nat),(∀x∈s2,x∈s)->se k s l=some c->∃d,se k s2 (l.take n)=some d/\∀x∈d,x∈c
 | [],s,s2,c,n,h,e=>by
  simp only[se,C1,List.take_nil]at e |-;subst e;exact⟨s2,rfl,h⟩
 | a::l,s,s2,c,0,h,e=>⟨s2,rfl,λx b=>(pq (λ_ y=>y) e).1 x (h x b)⟩
 | a::l,s,s2,c,n+1,h,e=>by
  simp only[List.take_succ_cons,se]at e |-;split at e
  ·rename_i g
   rw[CD (show good k s2 a from⟨g.1,g.2.1,g.2.2.1,λx=>g.2.2.2 (h a x)⟩)];exact Kk (l:=l) (s:=s++[a]) (s2:=s2++[a]) n (λx b=>by
     rcases V3.1 b with b|b
     · exact V3.2 (.inl (h x b))
     exact V3.2 (.inr b)) e
  cases e
def Ft:∀{a:List (List Int)}{k:Nat}{s s2:List Int}(i n:Nat),(∀x∈s2,x∈s)->(gC k s a).isSome=true->(gC k s2 (a.set i ((nth a i).take n))).isSome=true
 | [],_,_,_,_,_,_,_=>rfl
 | l::a,k,s,s2,i,n,h,e=>by
  simp only[gC,f7]at e;split at e
  ·rename_i g
   cases b:se k s l with
   | none=>rw[b]at e;cases e
   | some j=>
    rw[b]at e;cases i with
    | zero=>
     obtain⟨c,d,f⟩:=Kk n h b;simp only[List.set_cons_zero,gC,f7];rw[CD ⟨by have:=g.1;simp only[nth,List.getD_cons_zero,C2];omega,g.2⟩];show((se (k:Nat) s2 (l.take n)).bind λj=>gC (k+1) j a).isSome=true;rw[d];exact ux f e
    | succ i=>
     obtain⟨o,c,d,f⟩:=pq h b;simp only[List.set_cons_succ,gC,f7];rw[CD g,d];exact Ft i n f e
  cases e
def JL{c:aE}(h:b9 c=true)(k:Nat):b9 (q7 c k)=true:=by
 unfold b9 at h |-;simp only[I0,C0]at h |-;exact⟨by simp only[q7,Z1];exact h.1,Ft k _ (λ_ h=>h) h.2⟩
def lJ(b:Int):Nat->List Int
 | 0=>[]
 | j+1=>if aZ b (j:Nat)=true then lJ b j else lJ b j++[((j:Nat):Int)]
def uz{b:Int} : ∀{n:Nat}{z:Int},z∈lJ b n->0<=z/\z<n/\aZ b z=false
 | 0,_,h=>by cases h
 | n+1,z,h=>by
  unfold lJ at h;split at h
  ·have:=uz h;exact⟨this.1,ω,this.2.2⟩
  rename_i e;rcases V3.1 h with h|h
  ·have:=uz h;exact⟨this.1,ω,this.2.2⟩
  rw[V1.1 h];exact⟨ω,ω,by simpa using e⟩
def qm(b:Int):∀n,(lJ b n).length<=n
 | 0=>W3 _
 | n+1=>by have:=qm b n;unfold lJ;split<;>simp<;>omega
def oc(k b:Int):List Int:=if LC k b=true then lJ b (slots k).toNat else []
def gM(h:ac)(i:Nat):List Int:=oc (nth h.J i).d (dK h i)
def r8{k b z:Int}(h:z∈oc k b):0<=z/\z<slots k/\aZ b z=false:=by
 unfold oc at h;split at h
 ·have:=uz h;exact⟨this.1,ω,this.2.2⟩
 cases h
def yj(k b:Int):(oc k b).length<=16:=by
 unfold oc;split
 ·rename_i h
  unfold LC at h;rw[C0]at h;have:=(gm (k:=k) ⟨h.1,h.2.1⟩).2.2.1;have:=qm b (slots k).toNat;omega
 exact X0 _
def mS(h:ac)(i:Nat):Int:=nth (gM h i) (Ki h.b5 ((gM h i).length:Nat)).toNat
def slotT(h:ac)(i:Nat):ac:={h with b5:=zB h.b5,J:=h.J.set i (qy (nth h.J i) (mS h i))}
def oX(h:ac)(i:Nat):Int:=16*(nth h.J i).Q+mS h i*csz (nth h.J i).d
variable{i:Nat}{h:ac}
def uh(a:0<(gM h i).length):mS h i∈gM h i:=by
 have:=rV h.b5 (n:=((gM h i).length:Nat)) ω;exact ar ω
def bc.slotT{h:ac}{E:List Int}{i:Nat}(a:bc h E)(b:i<h.J.length)(e:0<(gM h i).length):bc (slotT h i) (oX h i::E)/\jo (slotT h i).J (oX h i) (nth h.J i).d:=by
 obtain⟨c,d,f⟩:=r8 (uh e);exact⟨a.take b ⟨c,d⟩ f (D7 _),(jo.setS a.L b ⟨c,d⟩ _ _).2 (.inr ⟨rfl,.inr rfl⟩)⟩
def nY(h:ac)(c:Int)(i:Nat):Bool:=decide ((nth h.J i).d=c)&&(!fD h (nth h.J i).Q&&decide (0<(gM h i).length))
def ox(h:ac)(c:Int):Option Nat:=(List.range h.J.length).find? (nY h c)
def lP(h:ac)(c:Int):ac:=addS h (newK h.G (ax h.o 1).2.1).1 (ax h.o 1).1 (ax h.o 1).2.1 c
def lR(h:ac):Nat:=hC (DJ (ax h.o 1).2.1) h.J
def iS(h:ac)(i:Nat):ac × Int:=if(gM h i).length=0 then(h,-1) else(slotT h i,oX h i)
def smallA(h:ac)(t c:Nat):ac × Int:=
 if 0<(nth (nth h.S t).a c).length then({h with S:=h.S.set t (q7 (nth h.S t) c)},nth (nth (nth h.S t).a c) ((nth (nth h.S t).a c).length - 1))
 else match ox h c with
 | some i=>(slotT h i,oX h i)
 | none=>if(ax h.o 1).2.2=false then(h,-1)
  else if(newK h.G (ax h.o 1).2.1).2=false then({h with G:=(newK h.G (ax h.o 1).2.1).1},-1)
  else iS (lP h c) (lR h)
variable{α:Type}
def DO[Inhabited α](p:α->Bool)(xs:List α)(y:α):hC p xs<(im p xs y).length/\nth (im p xs y) (hC p xs)=y:=by
 have b:=Qd p xs;have a:(xs.take (hC p xs)).length=hC p xs:=by rw[C2];omega
 refine⟨by rw[(kV p xs y).length_eq,List.length_cons];omega,bk ?_⟩;unfold im;rw[v5 ω,a,Nat.sub_self]
 rfl
def bc.tEq{h:ac}{E:List Int}(a:bc h E){k:ah}(c:aF k=true)(b:tEq (tbl h) k.F.R):bc {h with G:=k} E/\JK h {h with G:=k}:=
 ⟨a.step (j:=h.Y) (m:=h.u) c b.1 (a.pg.tEq b) a.job a.noj,⟨rfl,rfl,λs d _=>⟨s,d,rfl,λ_ z=>z⟩,λq e=>.inl ⟨(b.2 q).1.1 e,(b.2 q).2⟩⟩⟩
structure TO(h:ac)(c:Int)(r:ac × Int):Prop where
 no:r.2<0->bc r.1 []
 yes:0<=r.2->bc r.1 [r.2]/\jo r.1.J r.2 c
 jk:JK h r.1
 nx:r.1.b=h.b
 cl:r.1.S.length=h.S.length
variable{a c:Int}{E:List Int}
def jo.nn(b:bc h E)(d:jo h.J a c):0<=a:=(jo.bd b d).1
def TO.slot{h':ac}(g:bc h' [])(j:i<h'.J.length)(k:0<(gM h' i).length)(l:(nth h'.J i).d=c)(n:JK h h')(a:fD h' (nth h'.J i).Q=false)(h1:h'.b=h.b)(o:h'.S.length=h.S.length):TO h c (slotT h' i,oX h' i):=by
 obtain⟨d,f⟩:=g.slotT j k;have b:=jo.nn d f;exact⟨λe=>absurd b (by simp only at e;omega),λ_=>⟨d,by rw[<-l];exact f⟩,n.trans (JK.take a),h1,o⟩
variable{t:Nat}
def ni{c:Nat}(a:bc h [])(q:t<h.S.length)(P:c<=3)(B:h.G.Calls<=90000):TO h c (smallA h t c):=by
 have f:=a.cach _ (ar q);have C:=mb f;unfold smallA;split
 ·rename_i D
  obtain⟨d,b⟩:=a.pop q ω D (JL f c);have l:=jo.nn a b;exact⟨λe=>absurd l (by simp only at e;omega),λ_=>⟨d,b⟩,JK.eq rfl rfl rfl rfl,rfl,Z1 ..⟩
 split
 ·rename_i i r
  have g:=List.find?_some r;have E:=List.mem_range.1 (List.mem_of_find?_eq_some r);unfold nY at g;simp only[I0,C0,Bool.not_eq_true']at g;exact TO.slot a E g.2.2 g.1 (JK.refl h) g.2.1 rfl rfl
 split
 ·exact⟨λ_=>a,λe=>absurd e (by show ¬(0:Int)<=-1;decide),JK.refl h,rfl,rfl⟩
 rename_i F;have j:(ax h.o 1).2.2=true:=by simpa using F
 obtain⟨G,H,J,u⟩:=iu a (V5 1) j;have s:=wb.of (p:=(ax h.o 1).2.1) a.ker ω ⟨G,by have:(ax h.o 1).2.1+1<=(h.G.F.R.K.length:Nat):=H;omega⟩ (J _ ω ω);split
 ·rename_i n
  rw[s.no n];obtain⟨d,b⟩:=a.tEq (mN a.ker ω) (tEq.refl _);exact⟨λ_=>d,λe=>absurd e (by show ¬(0:Int)<=-1;decide),b,rfl,rfl⟩
 rename_i n;have o:(newK h.G (ax h.o 1).2.1).2=true:=by simpa using n
 have w:wb h.G (ax h.o 1).2.1 ((newK h.G (ax h.o 1).2.1).1,true):=by rw[<-o];exact s
 have d:=a.addS (c:=c) ⟨ω,ω⟩ j w;have b:JK h (lP h c):=JK.addS w;obtain⟨K,A⟩:=DO (DJ (ax h.o 1).2.1) h.J ⟨(ax h.o 1).2.1,c,0⟩;unfold iS;split
 ·exact⟨λ_=>d,λe=>absurd e (by show ¬(0:Int)<=-1;decide),b,rfl,rfl⟩
 refine TO.slot (h':=lP h c) (i:=lR h) d K ω (by show(nth (im (DJ (ax h.o 1).2.1) h.J ⟨(ax h.o 1).2.1,c,0⟩) (lR h)).d=_;unfold lR;rw[A]) b ?_ rfl rfl;show fD (lP h c) (nth (im (DJ (ax h.o 1).2.1) h.J ⟨(ax h.o 1).2.1,c,0⟩) (lR h)).Q=false;unfold lR;rw[A,b.pg];rw[<-C6];intro k;unfold fD at k;simp only[I0,C7,C0]at k;obtain⟨-,⟨y,L,M⟩,⟨z,N,O⟩⟩:=a.job k.1;rcases k.2 with e|e
 ·exact u _ (V5 _) ω (by rw[e,<-M];exact d7 L)
 exact u _ (V5 _) ω (by rw[e,<-O];exact d7 N)
def gd(size:Int):Nat:=((size+15) / 16).toNat
def dH(h:ac)(size:Int):ah × Nat:=newsK h.G (ax h.o (gd size:Nat)).2.1 (gd size)
def largeA(h:ac)(t size:Int):ac × Int × Int:=
 if(ax h.o (gd size:Nat)).2.2=false then(h,-1,4)
 else if(dH h size).2=gd size then(addL h (dH h size).1 (ax h.o (gd size:Nat)).1 (ax h.o (gd size:Nat)).2.1 (gd size:Nat) size t,16*(ax h.o (gd size:Nat)).2.1,0)
 else({h with G:=unmN (dH h size).1 (ax h.o (gd size:Nat)).2.1 (dH h size).2},-1,4)
def nt(xs:List bo):Nat->Int
 | 0=>0
 | i+1=>nt xs i+(nth xs i).q
def fy(h:ac):Int:=nt h.O h.O.length
def allocH(h:ac)(t size:Int):ac × Int × Int:=
 if 1000000<=h.b\/90000<h.G.Calls then(h,-1,5)
 else if ¬(0<=t/\t<=h.S.length - 1) then(h,-1,1)
 else if ¬(1<=size/\size<=1000) then(h,-1,2)
 else if h.c0<fy h+size then(h,-1,3)
 else if 0<=aK size then(if(smallA h t.toNat (aK size).toNat).2<0 then((smallA h t.toNat (aK size).toNat).1,-1,4) else(addO (smallA h t.toNat (aK size).toNat).1 (smallA h t.toNat (aK size).toNat).2 size t,(smallA h t.toNat (aK size).toNat).2,0))
 else largeA h t size
variable{size:Int}
def AR{t:Int}(a:bc h [])(g:9<=size/\size<=1000)(i:h.b<1000000)(j:h.G.Calls<=90000)(k:0<=t/\t<=h.S.length - 1):bc (largeA h t size).1 []/\JK h (largeA h t size).1:=by
 have l:(gd size:Int)=(size+15) / 16:=by unfold gd;omega
 unfold largeA;split
 ·exact⟨a,JK.refl h⟩
 rename_i o;have b:(ax h.o (gd size:Nat)).2.2=true:=by simpa using o
 obtain⟨c,d,e,w⟩:=iu a (show(1:Int)<=(gd size:Nat) by omega) b;have s:=jm.of (p:=(ax h.o (gd size:Nat)).2.1) (n:=gd size) a.ker ω ⟨c,d⟩ e (gd size) (W3 _);split
 ·rename_i q
  have f:jm h.G (ax h.o (gd size:Nat)).2.1 (gd size) ((dH h size).1,gd size):=by
   have:((dH h size).1,gd size)=dH h size:=by rw[<-q]
   rw[this];exact s
  exact⟨a.addL g l b f i k,JK.addL f⟩
 obtain⟨r,u⟩:=s.undo a.ker ⟨c,d⟩ e;exact a.tEq r u
def qa{t:Int}(a:bc h []):bc (allocH h t size).1 []/\JK h (allocH h t size).1:=by
 unfold allocH;split
 ·exact⟨a,JK.refl h⟩
 rename_i d;rw[not_or]at d;split
 ·exact⟨a,JK.refl h⟩
 rename_i n;split
 ·exact⟨a,JK.refl h⟩
 rename_i o;split
 ·exact⟨a,JK.refl h⟩
 split
 ·rename_i b
  have f:aK size<=3:=by unfold aK;repeat' split<;>omega
  have s:=ni (t:=t.toNat) (c:=(aK size).toNat) a ω ω ω;generalize smallA h t.toNat (aK size).toNat=r at s;split
  ·rename_i e;exact⟨s.no e,s.jk⟩
  rename_i e;obtain⟨g,i⟩:=s.yes ω;refine⟨g.addO (.inl ?_) (by rw[s.nx];omega) (by rw[s.cl];omega),s.jk.trans (JK.eq rfl rfl rfl rfl)⟩;obtain⟨z,j,k,p⟩:=i;exact⟨z,j,k,by show z.d=aK size;omega⟩
 rename_i b;have l:9<=size:=by
  unfold aK at b
  repeat' split at b<;>omega
 exact AR a ⟨l,ω⟩ ω ω ω
def kO{β:Type}[Inhabited α]{f:α->β}{xs:List α}{y:α}(a:i<xs.length)(e:f y=f (nth xs i)):(xs.set i y).map f=xs.map f:=by
 rw[Z6];refine List.ext_getElem (by simp) λj b c=>?_
 rw[List.getElem_set];split
 ·rename_i g;subst g
  rw[List.getElem_map,e,bk (X2 a)]
 rfl
def oJ{α β:Type}[Inhabited α](f:α->List β):∀(xs:List α)(i:Nat)(y:α),i<xs.length->(f y).Sublist (f (nth xs i))->((xs.set i y).flatMap f).Sublist (xs.flatMap f)
 | [],_,_,h,_=>absurd h (Nat.not_lt_zero _)
 | x::xs,0,y,_,a=>by
  rw[List.set_cons_zero,V7,V7];exact List.Sublist.append a (List.Sublist.refl _)
 | x::xs,i+1,y,h,a=>by
  rw[List.set_cons_succ,V7,V7];exact List.Sublist.append (List.Sublist.refl _) (oJ f xs i y (by simpa using h) a)
def zK(k:ah)(a:Int):Nat->ah
 | 0=>k
 | m+1=>dJ (zK k a m) (a+m) 0
def nr(k:ah)(a:Int):∀m,(zK k a m).F.R=k.F.R/\(zK k a m).Calls=k.Calls/\(zK k a m).a0=k.a0
 | 0=>⟨rfl,rfl,rfl⟩
 | m+1=>nr k a m
def NX{k:ah}(h:aF k=true){a:Int} : ∀{m:Nat},(∀j:Nat,j<m->(af k.F.R ((a+j) / 16)).e≠0)->aF (zK k a m)=true
 | 0,_=>h
 | m+1,b=>yI (NX h λj c=>b j ω) (by rw[(nr k a m).1];exact b m ω) ⟨ω,ω⟩
variable{n:Nat}
theorem Jf(j:bc h E){sp:List aA}{la:List aC}{o:List aB}{p:Int}(y:p+n<=h.G.F.R.K.length)(A:sp.Sublist h.J)(M:∀l∈la,∀q∈lpgs l l.a2.toNat,∃w∈h.M,q∈lpgs w w.a2.toNat)(N:0<=p)(B:∀q,q∈pgs sp la↔q∈pgs h.J h.M/\¬(p<=q/\q<p+n))(O:∀q,RH o q↔RH h.o q\/(p<=q/\q<p+n)) :
  Pg (unmN h.G p n).F.R o sp la:=by
 have b:=(eP h.G p n).1;have d:=mI j.ker N n y;have f:∀q:Nat,(q:Int)∈pgs sp la->nth (unmN h.G p n).F.R.K q=nth (tbl h).K q:=λq c=>by rw[d,CB ((B q).1 c).2];rfl
 have a:∀q:Nat,(nth (unmN h.G p n).F.R.K q).e≠0↔(nth (tbl h).K q).e≠0/\¬(p<=q/\(q:Int)<p+n):=λq=>by
  rw[d];by_cases e:p<=q/\(q:Int)<p+n
  ·rw[CD e];exact⟨λx=>absurd rfl x,λx=>absurd e x.2⟩
  rw[CB e];exact⟨λx=>⟨x,e⟩,λx=>x.1⟩
 refine⟨λl g q c r J C k=>?_,λq c=>?_,λq c=>?_,λq c=>?_,λs g u D F K=>?_⟩
 ·have t:=(a r).1 C
  rw[b]at J;rw[f q (gi g c),d,CB t.2]at k;obtain⟨w,G,H⟩:=M l g _ c;exact j.pg.one w G q H r J t.1 k
 ·rw[b];exact j.pg.bnd q ((B q).1 c).1
 ·rw[b]at c
  rw[a,B,j.pg.own q c]
 ·rw[b]at c
  rw[a,O,j.pg.fre q c]
  grind
 have i:∀s∈sp,0<=s.Q:=λs g=>(aI (j.L.sok s (A.subset g))).1
 have P:=f s.Q.toNat (by rw[Int.toNat_of_nonneg (i s g)];exact d7 g);have Q:=f u.Q.toNat (by rw[Int.toNat_of_nonneg (i u D)];exact d7 D);rw[P,Q]at K;exact j.pg.mesh s (A.subset g) u (A.subset D) F K
def trimL(l:aC)(size:Int):aC:=⟨l.Q,(size+15) / 16,size⟩
def d9(l:aC)(size:Int):Nat:=(l.a2 - (size+15) / 16).toNat
def bc.trimL{h:ac}{E:List Int}{i k:Nat}{size:Int}(t:bc h E)(T:i<h.O.length)(H:k<h.M.length)(Y:(nth h.O i).Addr=16*(nth h.M k).Q)(N:9<=size/\size<=(nth h.M k).q) :
  ∃o,(d9 (nth h.M k) size=0->o=h.o)/\(0<d9 (nth h.M k) size->dN (fk h) h.o ⟨(nth h.M k).Q+(size+15) / 16,(d9 (nth h.M k) size:Nat)⟩ = some o)/\
   bc {h with G:=unmN h.G ((nth h.M k).Q+(size+15) / 16) (d9 (nth h.M k) size),M:=h.M.set k (trimL (nth h.M k) size),O:=h.O.set i {nth h.O i with q:=size},o:=o} E:=by
 have U:=t.L;have C:=U.lok _ (ar H);have hf:=aS C;unfold bN at C;rw[C0]at C;obtain⟨b1,b2⟩:=uv t H;have O:=U.dis;have G:=λj n=>U.one j k n H
 have y:=(ar H:nth h.M k∈h.M)
 have d:∀z∈h.M.set k (Ab.trimL (nth h.M k) size),z=Ab.trimL (nth h.M k) size\/∃j,j<h.M.length/\j≠k/\nth h.M j=z:=λz N=>ef N
 have p:Ab.trimL (nth h.M k) size∈h.M.set k (Ab.trimL (nth h.M k) size):=iP _ H;have u:∀j,j<h.M.length->j≠k->nth h.M j∈h.M.set k (Ab.trimL (nth h.M k) size):=λj n e=>jO _ n e
 have hpageM:(h.M.set k (Ab.trimL (nth h.M k) size)).map (·.Q)=h.M.map (·.Q):=kO H rfl;have w:(pgs h.J (h.M.set k (Ab.trimL (nth h.M k) size))).Sublist (pgs h.J h.M):=by
  unfold pgs;refine List.Sublist.append (List.Sublist.refl _) (oJ _ _ _ _ H ?_);unfold lpgs;exact(List.range_sublist.2 (by simp only[Ab.trimL];omega)).map _
 obtain⟨l,V⟩ : ∃l,nth h.M k=l:=⟨_,rfl⟩
 rw[V]at C hf b1 b2 G y d p u hpageM w Y N |-;generalize hla:h.M.set k (Ab.trimL l size)=la at d p u hpageM w |-;have hn1:(1:Int)<=(size+15) / 16/\(size+15) / 16+(d9 l size:Nat)=l.a2:=by unfold d9;omega
 have D:∀q,q∈lpgs l l.a2.toNat↔l.Q<=q/\q<l.Q+l.a2:=λq=>by
  rw[dv];constructor
  ·rintro⟨j,n,rfl⟩;omega
  rintro⟨Z,q2⟩;exact⟨(q - l.Q).toNat,ω,ω⟩
 have J:∀q,q∈lpgs (Ab.trimL l size) (Ab.trimL l size).a2.toNat↔l.Q<=q/\q<l.Q+(size+15) / 16:=λq=>by
  rw[dv];simp only[Ab.trimL];constructor
  ·rintro⟨j,n,rfl⟩;omega
  rintro⟨Z,q2⟩;exact⟨(q - l.Q).toNat,ω,ω⟩
 have hpe:l.Q+(size+15) / 16+(d9 l size:Nat)=l.Q+l.a2:=ω
 have P:∀q,q∈pgs h.J la↔q∈pgs h.J h.M/\¬(l.Q+(size+15) / 16<=q/\q<l.Q+(size+15) / 16+(d9 l size:Nat)):=λq=>by
  rw[qd,qd,hpe];constructor
  ·rintro(⟨s,W,rfl⟩|⟨z,c,B⟩)
   ·exact⟨.inl ⟨s,W,rfl⟩,λe=>O s W l y (s.Q - l.Q).toNat ω ω⟩
   rcases d z c with rfl|⟨j,n,hjk,rfl⟩
   ·have:=(J q).1 B
    exact⟨.inr ⟨l,y,(D q).2 ⟨ω,ω⟩⟩,ω⟩
   refine⟨.inr ⟨_,ar n,B⟩,λe=>?_⟩;obtain⟨m,hm,rfl⟩:=dv.1 B;exact hjk (G j n m ((nth h.M j).Q+(m:Int) - l.Q).toNat hm ω ω)
  rintro⟨⟨s,W,rfl⟩|⟨z,c,B⟩,hne⟩
  ·exact .inl ⟨s,W,rfl⟩
  obtain⟨j,n,rfl⟩:=aO c;by_cases e:j=k
  ·subst e
   rw[V]at B;have:=(D q).1 B;exact .inr ⟨_,p,(J q).2 ⟨ω,ω⟩⟩
  exact .inr ⟨_,u j n e,B⟩
 have K:∃o,(d9 l size=0->o=h.o)/\(0<d9 l size->dN (fk h) h.o ⟨l.Q+(size+15) / 16,(d9 l size:Nat)⟩ = some o)/\bF (fk h) o=true/\∀q,RH o q↔RH h.o q\/(l.Q+(size+15) / 16<=q/\q<l.Q+(size+15) / 16+(d9 l size:Nat)):=by
  by_cases e:d9 l size=0
  ·refine⟨h.o,λ_=>rfl,λg=>absurd g ω,t.rng,λq=>⟨.inl,λg=>g.resolve_right ω⟩⟩
  obtain⟨o,o1,o2,o3⟩:=vr (r:=⟨l.Q+(size+15) / 16,(d9 l size:Nat)⟩) t.rng ⟨by simp only;omega,by simp only;omega,by show l.Q+(size+15) / 16+(d9 l size:Nat)<=(fk h:Int);have:((tbl h).K.length:Int)=(fk h:Int):=rfl;omega⟩ λq Z q2=>by
   simp only at Z q2;obtain⟨m,rfl⟩:=O3 (show 0<=q by omega);have Q:m<(tbl h).K.length:=ω
   exact(t.pg.fre m Q).1 ((t.pg.own m Q).2 (gi y ((D _).2 ⟨ω,ω⟩)))
  exact⟨o,λg=>absurd g e,λ_=>o1,o2,o3⟩
 obtain⟨o,o0,o1,o2,o3⟩:=K;have R:=(eP h.G (l.Q+(size+15) / 16) (d9 l size)).1;have M:∀z∈h.O.set i {nth h.O i with q:=size},z = {nth h.O i with q:=size}\/∃j,j<h.O.length/\j≠i/\nth h.O j=z:=λz N=>ef N
 have F:(h.O.set i {nth h.O i with q:=size}).map (·.Addr)=h.O.map (·.Addr):=kO T rfl;have S:(h.O.set i {nth h.O i with q:=size}).map (·.Id)=h.O.map (·.Id):=kO T rfl;have hli:=(ar T:nth h.O i∈h.O)
 generalize h.O.set i {nth h.O i with q:=size} = ob at M F S |-;refine⟨o,o0,o1,{t with
   ker:=gV t.ker _ _
   rng:=by show bF (((unmN h.G (l.Q+(size+15) / 16) (d9 l size)).F.R.K.length:Nat):Int) o=true;rw[R];exact o2
   lay:=?_
   srl:=?_
   pg:=Jf t (by have:((tbl h).K.length:Int)=(h.G.F.R.K.length:Int):=rfl;omega) (List.Sublist.refl _) (λz c q B=>?_) ω P o3
   osr:=?_
   onu:=λz c=>?_
   oid:=by show(ob.map (·.Id)).Nodup;rw[S];exact t.oid
   oow:=λz c=>?_
   nd:=?_
   mem:=λb=>?_}⟩
 ·obtain⟨l1,l2,l3⟩:=ew t.lay
  unfold bt;simp only[I0,C0];refine⟨⟨l1,O4.2 λz c=>?_⟩,l3.sublist w⟩;rcases d z c with rfl|⟨j,n,-,rfl⟩
  ·exact O0 ⟨N.1,by show size<=1000;omega,rfl,by show 0<=l.Q;omega,by show l.Q<=32 - (size+15) / 16;omega⟩
  exact U.lok _ (ar n)
 ·have A:(h.M.map (·.Q)).Pairwise (λa b=>a<b):=List.pairwise_map.2 t.srl
  rw[<-hpageM]at A;exact List.pairwise_map.1 A
 ·rcases d z c with rfl|⟨j,n,-,rfl⟩
  ·have:=(J q).1 B
   exact⟨l,y,(D q).2 ⟨ω,ω⟩⟩
  exact⟨_,ar n,B⟩
 ·have A:(h.O.map (·.Addr)).Pairwise (λa b=>a<b):=List.pairwise_map.2 t.osr
  rw[<-F]at A;exact List.pairwise_map.1 A
 ·rcases M z c with rfl|⟨j,n,-,rfl⟩
  ·exact t.onu (nth h.O i) hli
  exact t.onu _ (ar n)
 ·rcases M z c with rfl|⟨j,n,hji,rfl⟩
  ·exact .inr ⟨_,p,Y,rfl⟩
  rcases t.oow _ (ar n) with A|⟨l',hl',e1,X⟩
  ·exact .inl A
  obtain⟨m,hm,rfl⟩:=aO hl';by_cases e:m=k
  ·subst e
   rw[V]at e1;exact absurd (cS (f:=(·.Addr)) (dh t.osr) n T (e1.trans Y.symm)) hji
  exact .inr ⟨_,u m hm e,e1,X⟩
 ·have hh:holders {h with G:=unmN h.G (l.Q+(size+15) / 16) (d9 l size),M:=la,O:=ob,o:=o} = holders h:=by
   show((ob.map (·.Addr)++cH h)++h.a7.a6.map (·.Addr))++aQ h.w=_;rw[F];rfl
  rw[hh];exact t.nd
 have hh:holders {h with G:=unmN h.G (l.Q+(size+15) / 16) (d9 l size),M:=la,O:=ob,o:=o} = holders h:=by
  show((ob.map (·.Addr)++cH h)++h.a7.a6.map (·.Addr))++aQ h.w=_;rw[F];rfl
 rw[hh,t.mem b];show mK h.J h.M b↔mK h.J la b;unfold mK;constructor
 ·rintro(A|⟨z,c,e⟩)
  ·exact .inl A
  obtain⟨j,n,rfl⟩:=aO c;by_cases X:j=k
  ·subst X
   rw[V]at e;exact .inr ⟨_,p,e⟩
  exact .inr ⟨_,u j n X,e⟩
 rintro(A|⟨z,c,e⟩)
 ·exact .inl A
 rcases d z c with rfl|⟨j,n,-,rfl⟩
 ·exact .inr ⟨l,y,e⟩
 exact .inr ⟨_,ar n,e⟩
def kD(h:ac)(k:Nat)(size:Int):ah:=zK h.G (16*(nth h.M k).Q+size) (16*((size+15) / 16) - size).toNat
def Kl(h:ac)(k:Nat)(size:Int):List aB:=if 0<d9 (nth h.M k) size then(dN (fk h) h.o ⟨(nth h.M k).Q+(size+15) / 16,(d9 (nth h.M k) size:Nat)⟩).getD h.o else h.o
def trimH(h:ac)(i k:Nat)(size:Int):ac:={h with G:=unmN (kD h k size) ((nth h.M k).Q+(size+15) / 16) (d9 (nth h.M k) size),M:=h.M.set k (trimL (nth h.M k) size),O:=h.O.set i {nth h.O i with q:=size},o:=Kl h k size}
def jM(b:bc h E){k:Nat}(c:k<h.M.length)(g:16*(nth h.M k).Q<=a/\a<16*(nth h.M k).Q+16*(nth h.M k).a2):(af h.G.F.R (a / 16)).e≠0:=by
 obtain⟨i,j⟩:=uv b c;have l:=aS (b.L.lok _ (ar c));have d:(a / 16)∈pgs h.J h.M:=gi (ar c) (dv.2 ⟨(a / 16 - (nth h.M k).Q).toNat,ω,ω⟩);have e:=b.pg.bnd _ d;have f:=(b.pg.own (a / 16).toNat ω).2 (by rw[show(((a / 16).toNat:Nat):Int)=a / 16 by omega];exact d);unfold af;rw[CD ⟨ω,e⟩];exact f
def xC(b:bc h E){k:Nat}(c:k<h.M.length)(d:9<=size/\size<=(nth h.M k).q):∀{m:Nat},m<=(16*((size+15) / 16) - size).toNat->aF (zK h.G (16*(nth h.M k).Q+size) m)=true:=fun {m} hm=>by
 have a:=b.L.lok _ (ar c);unfold bN at a;rw[C0]at a;exact NX b.ker λj e=>jM b c ⟨ω,ω⟩
def bc.trimH{h:ac}{i k:Nat}{size:Int}(d:bc h [])(A:i<h.O.length)(f:k<h.M.length)(B:(nth h.O i).Addr=16*(nth h.M k).Q)(r:9<=size/\size<=(nth h.M k).q):bc (trimH h i k size) []/\JK h (trimH h i k size):=by
 have t:=xC d f r (W3 _);have l:=(nr h.G (16*(nth h.M k).Q+size) (16*((size+15) / 16) - size).toNat).1;have C:=d.cells t l;obtain⟨o,u,w,y⟩:=C.trimL (i:=i) (k:=k) (size:=size) A f B r;simp only at u w y;have n:fk {h with G:=zK h.G (16*(nth h.M k).Q+size) (16*((size+15) / 16) - size).toNat} = fk h:=by
  unfold fk;simp only[l]
 have D:Kl h k size=o:=by
  unfold Kl;split
  ·rename_i g;have:=w g;rw[n]at this;rw[this];rfl
  exact(u ω).symm
 have E:Ab.trimH h i k size = {h with G:=unmN (kD h k size) ((nth h.M k).Q+(size+15) / 16) (d9 (nth h.M k) size),M:=h.M.set k (Ab.trimL (nth h.M k) size),O:=h.O.set i {nth h.O i with q:=size},o:=o}:=by unfold Ab.trimH;rw[D]
 refine⟨by rw[E];exact y,JK.less rfl rfl rfl λq j=>?_⟩;have a:=d.L.lok _ (ar f);unfold bN at a;rw[C0]at a;obtain⟨F,G⟩:=uv d f;have b:(kD h k size).F.R=h.G.F.R:=l;have c:=mI (k:=kD h k size) t (p:=(nth h.M k).Q+(size+15) / 16) ω (d9 (nth h.M k) size) (by rw[b];have:((tbl h).K.length:Int)=(h.G.F.R.K.length:Int):=rfl;unfold d9;omega) q;change (nth (unmN (kD h k size) ((nth h.M k).Q+(size+15) / 16) (d9 (nth h.M k) size)).F.R.K q).e≠0 at j;show nth (unmN (kD h k size) ((nth h.M k).Q+(size+15) / 16) (d9 (nth h.M k) size)).F.R.K q=nth h.G.F.R.K q;rw[c]at j |-;split at j
 ·exact absurd rfl j
 rename_i e;rw[CB e,b]
def Hy(h:1<=t/\t<=4):bR (eB t)=true:=by
 have f:∀n,n<=t->bC (eB t) n=0:=λn=>by
  induction n with
  | zero=>intro _;rfl
  | succ n g=>
   intro j;have a:nth (eB t).U n=[]:=d5 ω;have b:nth (eB t).y n=[]:=d5 ω;simp only[bC,g ω,a,b,List.length_nil]
   decide
 have e:(eB t).U.length=t:=z4 ..;refine d8.2 ⟨⟨ω,ω,by simp[eB]⟩,λi c=>?_,by rw[e,f t (W3 _)];omega⟩;rw[e]at c;have a:nth (eB t).U i=[]:=d5 c;have b:nth (eB t).y i=[]:=d5 c;rw[a,b];exact⟨λp d=>(by cases d),λp d=>(by cases d)⟩
def vA(t:Nat):aQ (eB t)=[]:=by
 unfold aQ;split
 ·simp[eB]
 rfl
def rA(k:ah)(t:Nat)(sd ck lim:Int):ac:=⟨k,[⟨0,(k.F.R.K.length:Nat)⟩],[],[],[],List.replicate t fF,eB t,⟨16,[]⟩,sd,ck,lim,1,false,⟨⟨0,0,[]⟩,0,0⟩⟩
def FT:b9 fF=true:=by decide
def bc.fresh{lim sd ck:Int}(A:aF k=true)(B:∀q,q<k.F.R.K.length->(nth k.F.R.K q).e=0)(E:1<=t/\t<=4)(g:0<=lim/\lim<=1000)(h:0<=sd/\sd<=1073741823)(d:0<=ck/\ck<=1000000):bc (rA k t sd ck lim) []:=by
 obtain⟨G,H,J⟩:=br.1 (aG.1 A).2.2.1;have hca:cH (rA k t sd ck lim)=[]:=by
  unfold cH;refine List.flatMap_eq_nil_iff.2 λc d=>?_
  rw[(List.mem_replicate.1 d).2]
  rfl
 have C:holders (rA k t sd ck lim)=[]:=by
  unfold holders;rw[hca];show(([]++[])++[])++aQ (eB t)=[];rw[vA];rfl
 have i:∀a,¬mK (rA k t sd ck lim).J (rA k t sd ck lim).M a:=λa=>by
  rintro(⟨s,h,-⟩|⟨l,g,-⟩)
  ·cases h
  cases g
 exact {
   ker:=A
   rng:=gc.2 ⟨⟨List.pairwise_singleton ..,λy n=>by rw[V1.1 n];show(1:Int)<=(k.F.R.K.length:Nat);omega⟩,λy n=>by
       rw[V1.1 n];refine⟨V5 _,by show(1:Int)<=(k.F.R.K.length:Nat);omega,?_⟩;show(0:Int)+(k.F.R.K.length:Nat)<=(k.F.R.K.length:Nat);omega,by show(1:Int)<=(k.F.R.K.length:Nat);omega,by show((k.F.R.K.length:Nat):Int)<=32;omega⟩
   lay:=by show bt [] []=true;decide
   srs:=List.Pairwise.nil
   srl:=List.Pairwise.nil
   pg:=⟨λl g=>(by cases g),λp f=>(by cases f),λp f=>⟨λe=>absurd (B p f) e,λe=>by cases e⟩,λp f=>⟨λe=>absurd (B p f) e,λe=>absurd ⟨_,V1.2 rfl,by show(0:Int)<=p;omega,by
       show(p:Int)<0+(k.F.R.K.length:Nat);have F:p<k.F.R.K.length:=f;omega⟩ e⟩,λs h=>by cases h⟩
   mail:=Hy E
   nc:=by show(List.replicate t fF).length=(List.replicate t _).length;simp
   quar:=by show gq ⟨16,[]⟩ = true;decide
   snc:=λx r=>by cases r
   cach:=λc d=>by rw[(List.mem_replicate.1 d).2];exact FT
   nums:=by unfold cn;rw[C0];simp only[rA];omega
   osr:=List.Pairwise.nil
   onu:=λo u=>by cases u
   oid:=List.nodup_nil
   oow:=λo u=>by cases u
   hca:=λc d j D a b=>by
     rw[(List.mem_replicate.1 d).2]at D b;have w:j<4:=D;have:nth fF.a j=[]:=d5 w;rw[this]at b;cases b
   hqu:=λx r=>by cases r
   hfl:=λa b=>by
     have:aQ (eB t)=[]:=vA t;change a∈aQ (eB t) at b;rw[this]at b;cases b
   hin:=λa b=>by cases b
   nd:=by rw[C];exact List.nodup_nil
   mem:=λa=>by rw[C];exact⟨λe=>(by cases e),λe=>absurd e (i a)⟩
   job:=λe=>by cases e
   noj:=λ_=>by show sR ⟨⟨0,0,[]⟩,0,0⟩ = true;decide}
def JI.no(a:h.u=false):JI h:=⟨λe=>(by rw[a]at e;cases e),λe=>(by rw[a]at e;cases e),λe=>(by rw[a]at e;cases e),λe=>(by rw[a]at e;cases e)⟩
variable{f:Nat}
def qB{p:Nat}{a:List Int}(d:1<=p/\p<=32)(e:1<=f/\f<=32)(b:a.length<=40/\∀x∈a,0<=x):aF (bZ p f a)=true:=by
 obtain⟨-,g,h,i,c⟩:=aG.1 (BO d e);exact aG.2 ⟨λj k=>b.2 _ (ar k),g,h,i,c.1,c.2.1,b.1⟩
def FE{p:Nat}{lim:Int}{a:List Int}(c:1<=p/\p<=32)(d:1<=f/\f<=32)(g:1<=t/\t<=4)(i:0<=lim/\lim<=1000)(j:a.length<=40/\∀x∈a,0<=x):bc (newHeap p f t lim a) []:=by
 have h:=bc.fresh (k:=bZ p f a) (t:=t) (lim:=lim) (sd:=0) (ck:=0) (qB c d j) (λq l=>by
   have b:q<p:=by simpa[bZ,fQ] using l
   rw[show nth (bZ p f a).F.R.K q = ⟨0,0⟩ from d5 b]) g i ω ω
 have e:(bZ p f a).F.R.K.length=p:=by simp[bZ,fQ]
 unfold rA at h;rw[e]at h;exact h
structure eL where
 b3:Int
 a4:Int
 N:Int
 At:Int
 Value:Int
deriving DecidableEq,Inhabited
def eL.enc(_:dR)(x:eL):List C:=[I x.b3,I x.a4,I x.N,I x.At,I x.Value]
def nP(id:Int)(o:bD):Bool:=decide (o.Id=id)
def oS(r:aD)(id:Int):Int:=cU (nP id) r.O
def iR(r:aD)(n:Int):aD:=if 1<=n/\n<=1000 then {r with b:=r.b+1,O:=r.O++[⟨r.b,List.replicate n.toNat 0⟩]} else r
def jI(r:aD)(id:Int):aD:=if oS r id<0 then r else {r with O:=dele r.O (oS r id).toNat}
def eH(r:aD)(id at_ v:Int):aD:=if 0<=oS r id/\(0<=at_/\at_<=(nth r.O (oS r id).toNat).T.length - 1)/\0<=v/\v<=999 then {r with O:=r.O.set (oS r id).toNat ⟨(nth r.O (oS r id).toNat).Id,(nth r.O (oS r id).toNat).T.set at_.toNat v⟩} else r
def fE(r:aD)(id n:Int):aD:=if 0<=oS r id/\1<=n/\n<=(nth r.O (oS r id).toNat).T.length then {r with O:=r.O.set (oS r id).toNat ⟨(nth r.O (oS r id).toNat).Id,(nth r.O (oS r id).toNat).T.take n.toNat⟩} else r
structure sD(r:aD)(m:Nat):Prop where
 len:r.O.length<=m
 cel:∀o∈r.O,o.T.length<=1000
 nx:0<=r.b/\r.b<=m+1
variable{m:Nat}{r:aD}
def sD.more(h:sD r m)(a:m<=n):sD r n:=⟨by have:=h.len;omega,h.cel,h.nx.1,by have:=h.nx.2;omega⟩
def sD.sml(h:sD r m)(b:m<=1000):aD.sml r:=⟨by have:=h.len;omega,λo a=>by have:=h.cel o a;show o.T.length<=1048576;omega⟩
def sD.alloc(h:sD r m)(n:Int):sD (iR r n) (m+1):=by
 unfold iR;split
 ·refine⟨by have:=h.len;simp only[Y3,List.length_singleton];omega,λo a=>?_,by have:=h.nx.1;simp only;omega,by have:=h.nx.2;simp only;omega⟩
  rcases V3.1 a with a|a
  ·exact h.cel o a
  rw[V1.1 a];simp only[z4];omega
 exact h.more ω
def sD.free(h:sD r m)(id:Int):sD (jI r id) m:=by
 unfold jI;split
 ·exact h
 have a:=eY r.O (oS r id).toNat;exact⟨I5 a.length_le h.len,λo b=>h.cel o (a.subset b),h.nx⟩
def sD.set{x:bD}(h:sD r m)(b:x.T.length<=1000):sD {r with O:=r.O.set i x} m:=
 ⟨by simp only[Z1];exact h.len,λo a=>by
   rcases O7 a with a|rfl
   · exact h.cel o a
   exact b,h.nx⟩
def fR[Inhabited α](p:α->Bool)(xs:List α)(h:0<=cU p xs):(cU p xs).toNat<xs.length/\p (nth xs (cU p xs).toNat)=true/\cU p xs=((cU p xs).toNat:Nat):=by
 rcases lZ p xs with e|⟨n,a,e,b⟩
 ·omega
 rw[e,I3];exact⟨a,b,rfl⟩
def sD.store(h:sD r m)(id a v:Int):sD (eH r id a v) m:=by
 unfold eH;split
 ·rename_i e
  refine h.set ?_;simp only[Z1];exact h.cel (nth r.O (oS r id).toNat) (ar (fR _ _ e.1).1)
 exact h
def sD.trim(h:sD r m)(id n:Int):sD (fE r id n) m:=by
 unfold fE;split
 ·rename_i e
  refine h.set ?_;have:=h.cel (nth r.O (oS r id).toNat) (ar (fR _ _ e.1).1);simp only[C2];omega
 exact h
def M3(id:Int)(o:bo):Bool:=decide (o.Id=id)
def qJ(h:ac)(id:Int):Int:=cU (M3 id) h.O
def Ke(a:Int)(l:aC):Bool:=decide (l.Q*16=a)
def zu(h:ac)(a:Int):Int:=cU (Ke a) h.M
def nX(h:ac)(a:eL):Prop:=0<=a.a4/\a.a4<=h.S.length - 1
instance (h:ac) (a:eL):Decidable (nX h a):=by unfold nX;infer_instance
def qq(w:bn)(a:eL)(i:Nat):bn × Int:=
 if w.Z.G.Calls=100000 then(w,6)
 else if nX w.Z a then(⟨(freeT w.Z a.a4.toNat i).1,if(freeT w.Z a.a4.toNat i).2=0 then jI w.b2 (nth w.Z.O i).Id else w.b2⟩,(freeT w.Z a.a4.toNat i).2)
 else(w,1)
def mV(w:bn)(a:eL)(i:Nat):bn × Int:=
 if ¬(0<=a.At/\a.At<=(nth w.Z.O i).q - 1) then(w,90)
 else if(af w.Z.G.F.R (((nth w.Z.O i).Addr+a.At) / 16)).e=1 then(w,2)
 else if ¬(0<=a.Value/\a.Value<=999) then(w,3)
 else(⟨{w.Z with G:=dJ w.Z.G ((nth w.Z.O i).Addr+a.At) a.Value},eH w.b2 (nth w.Z.O i).Id a.At a.Value⟩,0)
def mc(h:ac)(i:Nat)(n:Int):Prop:=0<=zu h (nth h.O i).Addr/\9<=n/\n<=(nth h.M (zu h (nth h.O i).Addr).toNat).q
instance (h:ac) (i:Nat) (n:Int):Decidable (mc h i n):=by unfold mc;infer_instance
def pY(w:bn)(a:eL)(i:Nat):bn × Int:=
 if w.Z.G.Calls≠100000/\mc w.Z i a.Value then(⟨trimH w.Z i (zu w.Z (nth w.Z.O i).Addr).toNat a.Value,fE w.b2 (nth w.Z.O i).Id a.Value⟩,0) else(w,90)
def m9(w:bn)(a:eL)(i:Nat):bn × Int:=if a.b3=2 then qq w a i else if a.b3=3 then mV w a i else pY w a i
def fK(h:ac)(a:eL):ac × Int:=
 if a.b3=5 then(if nX h a/\0<(nth h.w.U a.a4.toNat).length then({h with w:=fX h.w a.a4.toNat},0) else(h,90))
 else if ¬(h.G.Calls≠100000/\nX h a) then(h,0)
 else if a.b3=6 then(collect h a.a4.toNat,((nth h.w.y a.a4.toNat).length:Nat))
 else((flushN a.a4.toNat h 4).1,((flushN a.a4.toNat h 4).2:Nat))
def ov(h:ac)(n:Int):ac × Int:=if h.G.Calls≠100000/\(0<=n/\n<=1000)/\h.b1+n<=1000000 then(tick h n,((n6 h n).length:Nat)) else(h,0)
def sL(h:ac):Bool:=h.u&&decide (h.G.Calls<=99000)
def stN(h:ac):Nat->ac × Nat
 | 0=>(h,0)
 | i+1=>if sL (stN h i).1=true then(mStep (stN h i).1,(stN h i).2+1) else stN h i
def oe(h:ac):ac × Int:=if h.u=true then(h,90) else((started h).1,if(started h).2=true then 0 else 90)
def ma(w:bn)(a:eL):bn × Int:=
 if a.b3=1 then(⟨(allocH w.Z a.a4 a.N).1,if(allocH w.Z a.a4 a.N).2.2=0 then iR w.b2 a.N else w.b2⟩,(allocH w.Z a.a4 a.N).2.2)
 else if a.b3=2\/a.b3=3\/a.b3=4 then(if qJ w.Z a.N<0 then(w,90) else m9 w a (qJ w.Z a.N).toNat)
 else if a.b3=5\/a.b3=6\/a.b3=7 then(⟨(fK w.Z a).1,w.b2⟩,(fK w.Z a).2)
 else if a.b3=8 then(⟨(ov w.Z a.N).1,w.b2⟩,(ov w.Z a.N).2)
 else if a.b3=9 then(⟨(oe w.Z).1,w.b2⟩,(oe w.Z).2)
 else if a.b3=10/\0<=a.N/\a.N<=50 then(⟨(stN w.Z a.N.toNat).1,w.b2⟩,((stN w.Z a.N.toNat).2:Nat))
 else(w,90)
structure rZ(w:bn)(m:Nat):Prop where
 inv:bc w.Z []
 ji:JI w.Z
 ref:sD w.b2 m
variable{w:bn}
def rZ.more(h:rZ w m)(a:m<=n):rZ w n:=⟨h.inv,h.ji,h.ref.more a⟩
def rZ.jk(h:rZ w m){g:ac}(a:bc g []/\JK w.Z g)(b:sD r m):rZ ⟨g,r⟩ m:=⟨a.1,h.ji.keep a.1 a.2,b⟩
def cI(a:bc h E){o:bo}(p:o∈h.O){k:Int}(D:0<=k/\k<=o.q - 1):(af h.G.F.R ((o.Addr+k) / 16)).e≠0/\0<=o.Addr/\o.Addr+k<512:=by
 rcases a.oow o p with⟨s,g,q,r⟩|⟨l,i,F,G⟩
 ·have b:=a.L.sok s g
  have t:=aI b;obtain⟨u,w,y⟩:=a.mapped g;have d:=ce t.2.2;obtain⟨H,J,A,-⟩:=q;have f:o.q<=csz s.d:=by
   have K:=gK (n:=o.q) ω;rw[r];have:o.q=1\/o.q=2\/o.q=3\/o.q=4\/o.q=5\/o.q=6\/o.q=7\/o.q=8:=ω
   rcases this with e|e|e|e|e|e|e|e<;>rw[e]<;>decide
  have B:(o.Addr+k) / 16=s.Q:=by
   rcases d with e|e|e|e<;>rw[e]at A f<;>omega
  rw[B];refine⟨?_,ω,ω⟩;unfold af;rw[CD ⟨u,w⟩];exact y
 obtain⟨j,C,rfl⟩:=aO i;have c:=a.L.lok _ i;unfold bN at c;rw[C0]at c;exact⟨jM a C ⟨ω,ω⟩,ω,ω⟩
def rZ.obj(h:rZ w m)(a:eL)(b:i<w.Z.O.length):rZ (m9 w a i).1 m:=by
 unfold m9;split
 ·unfold qq
  split
  ·exact h
  split
  ·rename_i d
   unfold nX at d;refine h.jk (h.inv.freeT b ω) ?_;split
   ·exact h.ref.free _
   exact h.ref
  exact h
 split
 ·unfold mV
  split
  ·exact h
  rename_i l;split
  ·exact h
  split
  ·exact h
  rename_i n;exact h.jk (h.inv.store (cI h.inv (ar b) ω).1 ω) (h.ref.store _ _ _)
 unfold pY;split
 ·rename_i e
  obtain⟨-,f,g⟩:=e;obtain⟨j,k,o⟩:=fR _ _ f;have c:=of_decide_eq_true k;exact h.jk (h.inv.trimH b j (c.symm.trans (Int.mul_comm _ _)) g) (h.ref.trim _ _)
 exact h
def rZ.thread(h:rZ w m)(a:eL):rZ ⟨(fK w.Z a).1,w.b2⟩ m:=by
 unfold fK;split
 ·split
  ·rename_i e
   obtain⟨b,i⟩:=e;unfold nX at b;exact h.jk (g:={w.Z with w:=fX w.Z.w a.a4.toNat}) ⟨h.inv.deliv (by rw[<-h.inv.nc];omega) i,JK.eq rfl rfl rfl rfl⟩ h.ref
  exact h
 split
 ·exact h
 rename_i e;have e:=Classical.not_not.1 e;obtain⟨-,b⟩:=e;unfold nX at b;split
 ·exact h.jk (g:=collect w.Z a.a4.toNat) (h.inv.collect ω) h.ref
 have c:a.a4.toNat<w.Z.S.length:=ω
 have d:=(ju h.inv c (W3 4)).1;have f:=JK.flushN h.inv c (W3 4);generalize flushN a.a4.toNat w.Z 4=r at d f |-;exact h.jk (g:=r.1) ⟨d,f⟩ h.ref
def uj{h:ac}(a:bc h [])(b:JI h):∀n,bc (stN h n).1 []/\JI (stN h n).1
 | 0=>⟨a,b⟩
 | n+1=>by
  obtain⟨c,d⟩:=uj a b n;unfold stN;split
  ·rename_i e
   unfold sL at e;rw[I0]at e;exact c.mStep d e.1
  exact⟨c,d⟩
def rZ.act(h:rZ w m)(a:eL):rZ (ma w a).1 (m+1):=by
 unfold ma;split
 ·have b:=qa (t:=a.a4) (size:=a.N) h.inv
  refine⟨b.1,h.ji.keep b.1 b.2,?_⟩;show sD (if _ then _ else _) (m+1);split
  ·exact h.ref.alloc _
  exact h.ref.more ω
 refine rZ.more (m:=m) ?_ ω;split
 ·split
  ·exact h
  rename_i e;exact h.obj a (fR _ _ (by unfold qJ at e;omega)).1
 split
 ·exact h.thread a
 split
 ·unfold ov
  split
  ·rename_i e
   exact h.jk (h.inv.tick e.2.1.1 e.2.2) h.ref
  exact h
 split
 ·unfold oe
  split
  ·exact h
  rename_i e;have b:=H4 h.inv (by simpa using e);exact⟨b.1,b.2,h.ref⟩
 split
 ·have b:=uj h.inv h.ji a.N.toNat
  exact⟨b.1,b.2,h.ref⟩
 exact h
structure cM where
 a2:Nat
 W:Nat
 c5:Nat
 c0:Int
 a0:List Int
deriving Inhabited
structure GM(c:cM):Prop where
 p:1<=c.a2/\c.a2<=32
 f:1<=c.W/\c.W<=32
 t:1<=c.c5/\c.c5<=4
 l:0<=c.c0/\c.c0<=1000
 r:c.a0.length<=40/\∀x∈c.a0,0<=x
def world0(c:cM):bn:=⟨newHeap c.a2 c.W c.c5 c.c0 c.a0,{b:=1,O:=[]}⟩
def zi(c:cM)(acts:List eL):Nat->bn × List Int
 | 0=>(world0 c,[])
 | i+1=>((ma (zi c acts i).1 (nth acts i)).1,(zi c acts i).2++[(ma (zi c acts i).1 (nth acts i)).2])
def Lf{c:cM}(h:GM c):rZ (world0 c) 0:=
 ⟨FE h.p h.f h.t h.l h.r,JI.no rfl,⟨W3 _,λo a=>(by cases a),by show(0:Int)<=1;omega,by show(1:Int)<=((0:Nat):Int)+1;omega⟩⟩
def uD{c:cM}(h:GM c)(acts:List eL):∀n,rZ (zi c acts n).1 n
 | 0=>Lf h
 | n+1=>(uD h acts n).act _
def Tb(f:dU h=true){z:Int}{k:Nat}(b:k<h.O.length):(nth h.O k).Id=z↔cU (fg z) h.O=(k:Nat):=by
 constructor
 ·rintro rfl
  refine dD (au b) (by unfold fg;simp) λj y i c=>?_
  have a:=(Z2.1 c).1;have:=Th f a b ω;rw[bk c]at this;unfold fg;exact W0 this
 intro e;rcases lZ (fg z) h.O with g|⟨n,l,g,d⟩
 ·omega
 obtain rfl:n=k:=ω
 unfold fg at d;simpa using d
def LG(a:dU h=true)(b:i<h.O.length):0<=(nth h.O i).Addr/\(nth h.O i).Addr<=2000/\1<=(nth h.O i).q/\(nth h.O i).q<=1000:=by
 obtain⟨g,j,c,d,e,f,-⟩:=DP a b;exact⟨c,d,e,f⟩
def xa(h:ac)(k:Nat):List Int:=cellsOf h.G (nth h.O k).Addr (nth h.O k).q.toNat
def xd(o:bo)(z:Int):zzA 89 false [.val (some 4) (bo.enc .V o),.ptr [I z]] .one [B (fg z o)]:=by
 refine fO 8 [] Tryz.func89 rfl ?_
 repeat'(first|refine gP ?_|fail)
 exact Z0 (λz=>[B z]) ((by unfold fg;rw[C5];simp))
def Gp(h:ac)(z:Int)(n:Nat)(b:ac.sml h)(a:dU h=true)(c:n<h.O.length)(g:cU (fg z) h.O=(n:Nat)):zzA 28 false [.val (some 24) (ac.enc .V h),.val none [I z]] (.tup [none,none]) [.s .own ((xa h n).map (rI .own)),B true]:=by
 have d:=pk h b;rw[tV,a]at d;have i:h.O.length<=1048576:=b.2.2.2.2.1.1;have p:=LG a c;have j:=BJ h (nth h.O n).Addr (nth h.O n).q (Dq a) ω ω;have l:=au c;have e:=qU h.O (fg z) ω;rw[g]at e;refine fO 32 [(4,13,[18,19,20,21,22,23,24,25,26,27,28,29,30])] Tryz.func28 rfl ?_ (.inr ⟨⟨.inl λh=>(by cases h),bh _ _ λy _=>pQ y⟩,trivial,trivial⟩)
 repeat'(first|refine gE ?_|(conv=>whnf);first|with_reducible refine CE (aa l) ?_|refine Cq.mk (G4 (some 4) (bo.enc .V) (fg z) h.O) (xd default z).has (λL k rcs o=>?_) ?_|refine C9 (e) ?_|refine C9 (d) ?_|refine C9 (j) ?_)
 ·obtain⟨y,-,rfl,rfl,rfl⟩:=o
  exact xd y z
 rfl
def or64{z1 z2:Int}(h1:0<=z1/\z1<=65535)(a:0<=z2/\z2<=65535):IntKind.i64.wrap ((BitVec.ofInt IntKind.i64.bits z1 ||| BitVec.ofInt IntKind.i64.bits z2).toNat:Nat)=bor z1 z2:=by
 rw[BitVec.toNat_or,qr ω,qr ω];have b:=HG h1 a;unfold bor at b |-;exact fC ω ω
def Ad(h:ac)(i:Nat)(n:dB h.J)(d:yw h)(a:∀s∈h.J,bi s=true)(y:i<h.J.length):zzA 479 false [.val (some 24) (ac.enc .V h),.val none [I (i:Nat)]] .one [I (dK h i)]:=by
 have F:=n.1;have G:=au y;have g:=lX a y;have B:=aJ ((i:Nat):Int) 0 ((h.J.length:Int) - 1);rw[O0 (show(0:Int)<=(i:Nat)/\((i:Nat):Int)<=(h.J.length:Int) - 1 by omega)]at B;have C:=iw h (nth h.J i).Q d;have o:=gk h (nth h.J i).Q;have H:fk h<=1048576:=d.1;have c:dK h i=ip h.J (aT h (nth h.J i).Q) (nth h.J i).a9 (aT h (nth h.J i).Q).length:=rfl;obtain⟨ps,q⟩ : ∃ps,aT h (nth h.J i).Q=ps:=⟨_,rfl⟩
 obtain⟨b,r⟩ : ∃b,(nth h.J i).a9=b:=⟨_,rfl⟩
 rw[q]at C o c;rw[r]at c g;rw[c];have J:ip h.J ps b 0=b:=rfl;refine fO 63 [(4,7,[22,23,24,25,26,27,28]),(11,10,[43,44,45,46,47,48,49,50,51,52])] Tryz.func479 rfl ?_
 repeat'(first|refine gP ?_|(conv=>whnf);first|with_reducible refine CE (aa G) ?_|refine C9 (B) ?_|refine C9 (C) ?_)
 (conv=>whnf)
 refine CJ (ι:=Nat) (λu=>[(2,.H .box (ac.enc .V h)),(5,.H .one [I (ip h.J ps b u)]),(6,.H .one (aH .own ps)),(7,.H .one [I ((u:Nat):Int)])]) (λu=>u<=ps.length) (λu=>ps.length - u) (0) ?_ (X0 _) λu M=>?_
 ·exact wB
 by_cases K:u<ps.length
 ·have l:=au K
  have t:=lH a (ps:=ps) g u
  repeat'(first|refine gE ?_|fail)
  (conv=>whnf)
  refine CJ (ι:=Nat) (λj=>[(2,.H .box (ac.enc .V h)),(5,.H .one [I (oZ h.J (nth ps u) (ip h.J ps b u) j)]),(6,.H .one (aH .own ps)),(7,.H .one [I ((u:Nat):Int)]),(8,.H .one [I ((j:Nat):Int)])]) (λj=>j<=h.J.length) (λj=>h.J.length - j) (0) ?_ (X0 _) λj L=>?_
  ·exact wB
  by_cases D:j<h.J.length
  ·have E:=au D
   have w:=wz a (p:=nth ps u) t j L;by_cases e:(nth h.J j).Q=nth ps u
   ·have k:oZ h.J (nth ps u) (ip h.J ps b u) (j+1)=bor (oZ h.J (nth ps u) (ip h.J ps b u) j) (nth h.J j).a9:=CD e
    repeat'(first|refine gB ?_|(conv=>whnf);first|with_reducible (first|refine CE (aa l) ?_|refine CE (aa E) ?_)|refine CG rfl (aa l) rfl ?_|refine CN (or64 w (lX a D)) ?_)
    ((conv=>whnf);refine CF (j+1) ω ω ?_;(exact wB))
   have k:oZ h.J (nth ps u) (ip h.J ps b u) (j+1)=oZ h.J (nth ps u) (ip h.J ps b u) j:=CB e
   repeat'(first|refine gB ?_|(conv=>whnf);first|with_reducible (first|refine CE (aa l) ?_|refine CE (aa E) ?_)|refine CG rfl (aa l) rfl ?_)
   ((conv=>whnf);refine CF (j+1) ω ω ?_;(exact wB))
  obtain rfl:j=h.J.length:=ω
  repeat'(first|refine gE ?_|fail)
  ((conv=>whnf);refine CF (u+1) ω ω ?_;(exact wB))
 obtain rfl:u=ps.length:=ω
 repeat'(first|refine gE ?_|fail)
 rfl
def kZ{xs:List bo}(h:∀o∈xs,0<=o.q/\o.q<=1000):∀k:Nat,k<=xs.length->0<=nt xs k/\nt xs k<=1000*k
 | 0,_=>⟨V5 _,V5 _⟩
 | k+1,a=>by
  have b:=kZ h k ω;have c:=h _ (ar (xs:=xs) (i:=k) ω);simp only[nt];omega
def wY(h:ac)(a:∀o∈h.O,0<=o.q/\o.q<=1000)(e:h.O.length<=1048576):zzA 19 false [.val (some 24) (ac.enc .V h)] .one [I (fy h)]:=by
 refine fO 21 [] Tryz.func19 rfl ?_
 repeat'(first|refine gP ?_|fail)
 (conv=>whnf)
 refine CJ (ι:=Nat) (λk=>[(1,.H .box (ac.enc .V h)),(3,.H .one [I (nt h.O k)]),(4,.H .one [I ((k:Nat):Int)])]) (λk=>k<=h.O.length) (λk=>h.O.length - k) (0) ?_ (X0 _) λk c=>?_
 ·exact wB
 have g:=kZ a k c;by_cases b:k<h.O.length
 ·have d:=au b
  have i:=a _ (ar b)
  repeat'(first|refine gE ?_|(conv=>whnf);first|refine CE (aa d) ?_)
  ((conv=>whnf);refine CF (k+1) ω ω ?_;(exact wB))
 obtain rfl:k=h.O.length:=ω
 repeat'(first|refine gE ?_|fail)
 rfl
def ye(k b:Int)(h:b<=9223372036854775807):zzA 478 false [.val none [I (slots k)],.val none [I b]] .one (aH .own (oc k b)):=by
 have c:=rd k b;have p:0<=slots k/\slots k<=16:=by unfold slots;repeat' split<;>omega
 unfold oc;cases e:LC k b<;>rw[e]at c
 ·rw[CB (by simp)]
  refine fO 27 [] Tryz.func478 rfl ?_ (.inr (bO _))
  repeat'(first|refine gP ?_|fail)
  (conv=>whnf)
  refine CJ (ι:=Nat) (λj=>[(0,.H .one [I (slots k)]),(1,.H .one [I (b)]),(5,.H .one (aH .own [])),(6,.H .one [I ((j:Nat):Int)])]) (λj=>j=0) (λj=>1 - j) (0) ?_ (rfl) λj g=>?_
  ·exact wB
  subst g
  repeat'(first|refine gE ?_|(conv=>whnf);first|with_reducible refine Bf.D (λi=>?_) (λi=>?_)|refine C9 (c) ?_)
  all_goals rfl
 rw[CD rfl];refine fO 27 [] Tryz.func478 rfl ?_ (.inr (bO _))
 repeat'(first|refine gP ?_|fail)
 (conv=>whnf)
 refine CJ (ι:=Nat) (λj=>[(0,.H .one [I (slots k)]),(1,.H .one [I (b)]),(5,.H .one (aH .own (lJ b j))),(6,.H .one [I ((j:Nat):Int)])]) (λj=>j<=(slots k).toNat) (λj=>(slots k).toNat - j) (0) ?_ (X0 _) λj g=>?_
 ·exact wB
 have l:=qm b j;by_cases q:j<(slots k).toNat
 ·have d:=iM b (j:Nat) h
  have a:lJ b (j+1)=if aZ b (j:Nat)=true then lJ b j else lJ b j++[((j:Nat):Int)]:=rfl
  cases n:aZ b (j:Nat)<;>rw[n]at d a
  ·rw[CB (by simp)]at a
   repeat'(first|refine gE ?_|(conv=>whnf);first|refine C9 (c) ?_|refine C9 (d) ?_|refine CV cB (λr o=>by rw[V1.1 o];rfl) (by simp[bj,ed]) (by simp;omega) (by simp only[I1];exact zh (by simp;omega) (by decide)) rfl ?_)
   ((conv=>whnf);refine CF (j+1) ω ω ?_)
   rw[a]
   repeat'(first|exact trivial|rfl|exact CM rfl (CM (Z0 (C.s dR.own) (by simp[rI])) trivial)|refine CM ?_ ?_|(exact B9 (by first|omega|(simp only;omega)|(simp;omega))))
  rw[CD rfl]at a
  repeat'(first|refine gE ?_|(conv=>whnf);first|refine C9 (c) ?_|refine C9 (d) ?_)
  ((conv=>whnf);refine CF (j+1) ω ω ?_)
  rw[a];exact wB
 obtain rfl:j=(slots k).toNat:=ω
 repeat'(first|refine gE ?_|fail)
 rfl
def AI(b i:Int):bor b (2 ^ i.toNat)=gp b i:=by
 unfold bor gp;have:((2 ^ i.toNat:Nat):Int)=(2:Int) ^ i.toNat:=Int.natCast_pow 2 i.toNat;rw[<-this,I3]
def zj(b i:Int)(d:0<=b/\b<=65535)(a:0<=i/\i<=15):zzA 481 false [.val none [I b],.val none [I i]] .one [I (gp b i)]:=by
 have c:=qb b i;rw[O0 ω]at c;have e:IntKind.u64.wrap i=i:=by unfold IntKind.wrap;simp[IntKind.signed,IntKind.bits];omega
 have h:=(shl64 a).2;have g:=(or64 (z1:=b) (z2:=2 ^ i.toNat) d ω).trans (AI b i);refine fO 15 [] Tryz.func481 rfl ?_
 repeat'(first|refine gP ?_|(conv=>whnf);first|refine C9 (c) ?_|refine CP ω ?_|refine CN e ?_|refine CN (shl64 a).1 ?_|refine CN g ?_)
 rfl
def P5{s:aA}(b:bi s=true){k:Int}(d:0<=k/\k<slots s.d):0<=k*csz s.d/\k*csz s.d<=15:=by
 have a:=aI b;have c:=gm a.2.2;rcases ce a.2.2 with e|e|e|e<;>rw[e]at c |-<;>omega
def zy(s:aA)(k:Int)(a:bi s=true)(d:0<=k/\k<slots s.d):zzA 482 false [.val (some 3) (aA.enc .V s),.val none [I k]] .one [I (16*s.Q+k*csz s.d)]:=by
 have e:=aI a;have i:=P5 a d;have j:=gm e.2.2;have b:=gN s;rw[a]at b;have g:=nH s.d;have c:=aJ k 0 (slots s.d - 1);rw[O0 ω]at c;have h:=ee s.d;refine fO 26 [(3,8,[17,18,19,20,21,22,23,24])] Tryz.func482 rfl ?_
 repeat'(first|refine gP ?_|(conv=>whnf);first|refine C9 (b) ?_|refine C9 (g) ?_|refine C9 (c) ?_|refine C9 (h) ?_|refine CC ?_)
 exact Z0 (λz=>[I z]) ω
def DX(f:aX)(g:f.a5.length<=1048576):zzA 483 false [.val (some 2) (aX.enc .V f)] .one [I (cU (λu=>!u) f.a5)]:=by
 refine fO 18 [] Tryz.func483 rfl ?_
 repeat'(first|refine gP ?_|fail)
 (conv=>whnf)
 refine CJ (ι:=Nat) (λi=>[(1,.H .box (aX.enc .V f)),(3,.H .one [I ((i:Nat):Int)])]) (λi=>i<=f.a5.length/\∀(j:Nat)(z:Bool),j<i->f.a5[j]? = some z->(!z)=false) (λi=>f.a5.length - i) (0) ?_ (⟨X0 _,λj z h=>ω⟩) λi c=>?_
 ·exact wB
 obtain⟨c,b⟩:=c;by_cases d:i<f.a5.length
 ·have a:=au d
  cases e:nth f.a5 i<;>rw[e]at a
  ·repeat'(first|refine gE ?_|(conv=>whnf);first|with_reducible refine CE (aa a) ?_)
   exact Z0 (λz=>[I z]) (dD a rfl b).symm
  repeat'(first|refine gE ?_|(conv=>whnf);first|with_reducible refine CE (aa a) ?_)
  ((conv=>whnf);refine CF (i+1) ⟨ω,dY a rfl b⟩ ω ?_;(exact wB))
 repeat'(first|refine gE ?_|fail)
 exact Z0 (λz=>[I z]) (gh ω b).symm
def nJ(m:aM):∀(n i:Nat),i<n->((nth m.U i).length:Int)+(nth m.y i).length<=bC m n/\0<=bC m n
 | 0,i,h=>absurd h (Nat.not_lt_zero i)
 | n+1,i,h=>by
  have a:0<=bC m n:=by
   cases n with
   | zero=>exact V5 _
   | succ k=>exact(nJ m (k+1) 0 ω).2
  simp only[bC];by_cases e:i=n
  ·subst e;omega
  have:=(nJ m n i ω).1;omega
structure kG(m:aM):Prop where
 b4:1<=m.U.length/\m.U.length<=4
 i4:m.y.length=m.U.length
 bl:∀i,i<m.U.length->(nth m.U i).length<=30
 il:∀i,i<m.U.length->(nth m.y i).length<=30
def kG.of{m:aM}(h:bR m=true):kG m:=by
 obtain⟨⟨b,c,d⟩,-,e⟩:=d8.1 h;exact⟨⟨b,c⟩,d,λi a=>by have:=(nJ m m.U.length i a).1;omega,λi a=>by have:=(nJ m m.U.length i a).1;omega⟩
def kG.sml{m:aM}(h:kG m):aM.sml m:=by
 have c:=h.b4;have d:=h.i4;refine⟨⟨ω,λl a=>?_⟩,⟨ω,λl a=>?_⟩⟩
 ·obtain⟨i,b,rfl⟩:=aO a
  have:=h.bl i b;exact⟨ω,λ_ _=>trivial⟩
 obtain⟨i,b,rfl⟩:=aO a;have:=h.il i ω;show(nth m.y i).length<=1048576;omega
def tE(m:aM)(k:Int)(a:aM.sml m):zzA 520 false [.val (some 2) (aM.enc .V m),.val none [I k]] .one [B (bR m&&decide (0<=k/\k<=m.U.length - 1))]:=by
 have b:=lV m a;have c:m.U.length<=1048576:=a.1.1;cases e:bR m<;>rw[e]at b
 all_goals
  refine fO 15 [] Tryz.func520 rfl ?_
  repeat'(first|refine gP ?_|(conv=>whnf);first|refine CC ?_|refine C9 (b) ?_|refine C9 (aJ k 0 (m.U.length - 1:Int)) ?_)
  all_goals rfl
def TN{m:aM}(a:f<m.U.length):m.U[f]? = some (nth m.U f):=au a
def Mm(m:aM)(f:Nat)(p:dx):aM.enc .own (io m f p)=[.s .own ((m.U.map (cL .own)).set f (cL .own (nth m.U f++[p]))),.s .own (m.y.map (aH .own))]:=by simp[aM.enc,io,Z6]
def Lk{m:aM}(h:kG m)(c:f<m.U.length)(p:dx):aM.sml (io m f p):=by
 have d:=h.b4;have b:=h.sml;refine⟨⟨by simp only[io,Z1];omega,λl a=>?_⟩,b.2⟩;rcases O7 a with a|rfl
 ·exact b.1.2 l a
 have:=h.bl f c;exact⟨by simp;omega,λ_ _=>trivial⟩
def KI(m:aM)(f:Nat)(p:dx)(j:bR m=true)(g:f<m.U.length):zzA 512 false [.val (some 2) (aM.enc .V m),.val none [I (f:Nat)],.val (some 2) (dx.enc .V p)] (.tup [some 2,none]) (aM.enc .own (if bR (io m f p)=true then io m f p else m)++[B (bR (io m f p))]):=by
 have c:=kG.of j;have k:=c.sml;have q:=c.b4;have h:=tE m f k;rw[j,O0 ω]at h;have l:=fW m k;have b:=Lk c g p;have i:=lV (io m f p) b;have n:=fW (io m f p) b;have a:=TN g;have o:=c.bl f g;have d:=aM.enc_fz (io m f p);rw[Mm]at d;cases e:bR (io m f p)<;>rw[e]at i
 ·rw[CB (by simp)]
  refine fO 35 [(4,267,[16,17,18,19,20,21,22,23,24,25,27,0,1,2,3,4,5,6,7,8,9,10,1000,1001,1002,11,12])] Tryz.func512 rfl ?_ (.inr (aU (aM.enc_fr _) ⟨trivial,trivial⟩))
  repeat'(first|refine gP ?_|(conv=>whnf);first|with_reducible refine CE (aa a) ?_|refine CC ?_|refine CE (eU a) ?_|refine CG rfl (eU a) rfl ?_|refine C9 (h) ?_|refine C9 (l) ?_|refine Lq.one rfl rfl (aa a) rfl (O1 rfl) rfl rfl ?_|refine CG rfl (aa a) rfl ?_|refine CQ rfl rfl (eU a) rfl (O1 rfl) (show [C.s dR.own ((m.U.map (cL .own)).set f (cL .own (nth m.U f++[p]))),C.s .own (m.y.map (aH .own))]=_ from by simp only[List.set_cons_zero,List.set_set,I3];rfl) ?_|refine Ap.sm (aV λ_=>rfl) rfl (by simp;omega) (by decide) (iW _ _ _) ?_|refine CK (i) ⟨⟨rfl,d⟩,trivial⟩ ?_)
  rfl
 rw[CD rfl];refine fO 35 [(4,267,[16,17,18,19,20,21,22,23,24,25,27,0,1,2,3,4,5,6,7,8,9,10,1000,1001,1002,11,12])] Tryz.func512 rfl ?_ (.inr (aU (aM.enc_fr _) ⟨trivial,trivial⟩))
 repeat'(first|refine gP ?_|(conv=>whnf);first|with_reducible refine CE (aa a) ?_|refine CC ?_|refine CE (eU a) ?_|refine CG rfl (eU a) rfl ?_|refine C9 (h) ?_|refine C9 (l) ?_|refine Lq.one rfl rfl (aa a) rfl (O1 rfl) rfl rfl ?_|refine CG rfl (aa a) rfl ?_|refine CQ rfl rfl (eU a) rfl (O1 rfl) (show [C.s dR.own ((m.U.map (cL .own)).set f (cL .own (nth m.U f++[p]))),C.s .own (m.y.map (aH .own))]=_ from by simp only[List.set_cons_zero,List.set_set,I3];rfl) ?_|refine Ap.sm (aV λ_=>rfl) rfl (by simp;omega) (by decide) (iW _ _ _) ?_|refine CK (i) ⟨⟨rfl,d⟩,trivial⟩ ?_|refine CK (n) ⟨⟨rfl,d⟩,trivial⟩ ?_)
 rfl
def HO(m:aM)(f:Int)(a:bR m=true)(d:¬(0<=f/\f<=m.U.length - 1)):zzA 422 false [.val (some 2) (aM.enc .V m),.val none [I f]] (.tup [some 2,none]) (aM.enc .own m++[B false]):=by
 have e:=kG.of a;have b:=e.sml;have c:=tE m f b;rw[a,W0 d]at c;have g:=fW m b;refine fO 60 [(5,267,[31,32,33,34,35,36,37,38,39,40,42,0,1,2,3,4,5,6,7,8,9,10,1000,1001,1002,11,12]),(6,270,[43,44,45,46,47,48,49,50,51,52,53,54,55,57,0,1,2,3,4,5,6,7,8,9,10,11,12,13,1000,1001,1002,1003,14,15])] Tryz.func422 rfl ?_ (.inr (aU (aM.enc_fr _) ⟨trivial,trivial⟩))
 repeat'(first|refine gP ?_|(conv=>whnf);first|refine CC ?_|refine C9 (c) ?_|refine C9 (g) ?_)
 rfl
def Js(m:aM)(f t:Nat)(a:(nth (nth m.U f) 0).To=t):aM.enc .own (fX m f)=[.s .own ((m.U.map (cL .own)).set f [.s .own (((nth m.U f).drop 1).map (dx.enc .V))]),.s .own ((m.y.map (aH .own)).set t (aH .own (nth m.y t++[(nth (nth m.U f) 0).Addr])))]:=by
 unfold aM.enc fX;simp only[Z6,a,I3]
 rfl
def E1(m:aM)(f:Nat)(h:bR m=true)(i:f<m.U.length):zzA 422 false [.val (some 2) (aM.enc .V m),.val none [I (f:Nat)]] (.tup [some 2,none]) (aM.enc .own (if 0<(nth m.U f).length then fX m f else m)++[B (decide (0<(nth m.U f).length))]):=by
 have d:=kG.of h;have u:=d.sml;have K:=d.b4;have D:=d.i4;have j:=tE m f u;rw[h,O0 ω]at j;have w:=fW m u;have a:=TN i;have F:=d.bl f i;by_cases e:0<(nth m.U f).length
 ·rw[CD e,O0 e]
  have g:=((d8.1 h).2.1 f i).1 _ (ar e);obtain⟨t,k⟩:=O3 g.1;have l:t<m.y.length:=ω
  have y:=au e;have c:=au l;have G:=d.il t ω;have n:=(kG.of (FQ h i e)).sml;have H:=fW (fX m f) n;have o:=aM.enc_fz (fX m f);rw[Js m f t k]at o;have q:=aU (b:=[B true]) (aM.enc_fr (fX m f)) ⟨trivial,trivial⟩;generalize L:nth (nth m.U f) 0=p at *;obtain⟨M,J⟩:=p;simp only at k g o;subst k;refine fO 60 [(5,267,[31,32,33,34,35,36,37,38,39,40,42,0,1,2,3,4,5,6,7,8,9,10,1000,1001,1002,11,12]),(6,270,[43,44,45,46,47,48,49,50,51,52,53,54,55,57,0,1,2,3,4,5,6,7,8,9,10,11,12,13,1000,1001,1002,1003,14,15])] Tryz.func422 rfl ?_ (.inr q)
  repeat'(first|refine gB ?_|(conv=>whnf);first|with_reducible (first|refine CE (aa a) ?_|refine CE (aa c) ?_|refine Bf.E (λr=>?_) (λr=>?_))|refine CC ?_|refine CO (by decide) (aa y) ?_|refine CE (eU a) ?_|refine CE (eU c) ?_|refine CG rfl (eU a) rfl ?_|refine CG rfl (eU c) rfl ?_|refine C9 (j) ?_|refine C9 (w) ?_|refine CG rfl (aa a) rfl ?_|refine CG rfl (aa c) rfl ?_|refine CG rfl (aa y) rfl ?_|refine Lq.one rfl rfl (aa c) rfl (O1 rfl) rfl rfl ?_|refine Sl.suf 1 rfl (by rw[I1];omega) (aV λ_=>rfl) X4 ?_|refine CX (λ_=>rfl) (λ_=>rfl) (by rw[Z3];omega) (by decide) ?_|refine CS (λ_=>rfl) (λ_=>rfl) (by rw[Z3];omega) (by decide) ?_|refine CQ rfl rfl (aa a) rfl (O1 rfl) rfl ?_|refine CQ rfl rfl (eU c) rfl (O1 rfl) (show [C.s dR.own ((m.U.map (cL .own)).set f [.s .own (((nth m.U f).drop 1).map (dx.enc .V))]),C.s .own ((m.y.map (aH .own)).set t (aH .own (nth m.y t++[J])))]=_ from by simp only[List.set_cons_zero,List.set_cons_succ,List.set_set,I3];rfl) ?_|refine Ap.sm (aV λ_=>rfl) rfl (by simp;omega) (by decide) (iW _ _ _) ?_|refine CC ?_|refine CK (H) ⟨⟨rfl,o⟩,trivial⟩ ?_)
  rfl
 rw[CB e,W0 e];refine fO 60 [(5,267,[31,32,33,34,35,36,37,38,39,40,42,0,1,2,3,4,5,6,7,8,9,10,1000,1001,1002,11,12]),(6,270,[43,44,45,46,47,48,49,50,51,52,53,54,55,57,0,1,2,3,4,5,6,7,8,9,10,11,12,13,1000,1001,1002,1003,14,15])] Tryz.func422 rfl ?_ (.inr (aU (aM.enc_fr _) ⟨trivial,trivial⟩))
 repeat'(first|refine gB ?_|(conv=>whnf);first|with_reducible (first|refine CE (aa a) ?_|refine Bf.E (λr=>?_) (λr=>?_))|refine CC ?_|refine C9 (j) ?_|refine C9 (w) ?_|refine CG rfl (aa a) rfl ?_)
 rfl
def Mp.set(rows:List (List C))(i:Nat){r n:List C}(h:N0 r n):Mp (.s .own (rows.set i r)) (.s .own (rows.set i n)):=by
 refine .own_ _ _ (by simp) (λj a b d f=>?_) (λj l a b c p d f o g=>?_)
 ·by_cases e:i=j
  ·subst e
   have k:i<rows.length:=by have:=(Z2.1 d).1;simpa using this
   rw[v4 k]at d f;cases d;cases f;exact h.1
  rw[List.getElem?_set_ne e]at d f;rw[d]at f;cases f;rfl
 by_cases e:i=j
 ·subst e
  have k:i<rows.length:=by have:=(Z2.1 d).1;simpa using this
  rw[v4 k]at d f;cases d;cases f;exact h.2 l c p o g
 rw[List.getElem?_set_ne e]at d f;rw[d]at f;cases f;rw[o]at g;cases g;exact .rfl_ _
def DM(m:aM)(t:Nat)(d:bR m=true)(h:t<m.U.length):zzA 521 false [.val (some 2) (aM.enc .V m),.val none [I (t:Nat)]] (.tup [some 2,none]) (aM.enc .own (lI m t)++aH .own (nth m.y t)):=by
 have b:=kG.of d;have e:=b.sml;have o:=b.b4;have j:=b.i4;have g:=tE m t e;rw[d,O0 ω]at g;have k:=fW m e;have c:=au (xs:=m.y) (i:=t) ω;have l:=b.il t h;have a:=aU (aM.enc_fr (lI m t)) (bO (nth m.y t));have n:aM.enc .own (lI m t)=[.s .own (m.U.map (cL .own)),.s .own ((m.y.map (aH .own)).set t [.s .own []])]:=by simp[aM.enc,lI,Z6];rfl
 rw[n]at a |-;refine fO 28 [(5,263,[20,21,22,23,24,25,26,0,1,2,3,4,5,6,7,1000,8,9])] Tryz.func521 rfl ?_ (.inr a)
 repeat'((conv=>whnf);first|with_reducible (first|refine Lm ?_|refine Wm ω ?_|refine CE (aa c) ?_|refine Bn ?_|refine jX.dk rfl ?_)|refine Bt ?_|refine Bu ?_|refine CC ?_|refine C9 (g) ?_|refine C9 (k) ?_|refine CG rfl (aa c) rfl ?_|refine CQ rfl rfl (aa c) rfl (O1 rfl) rfl ?_|refine CX (λ_=>rfl) (λ_=>rfl) ω (by decide) ?_|refine CS (λ_=>rfl) (λ_=>rfl) ω (by decide) ?_|refine CC ?_)
 exact .cons (.rfl_ _) (.cons (Mp.set _ _ (.cons .z_ .nil)) (.cons (.rfl_ _) .nil))
def JM(now:Int):∀{l:List aR}{i:Nat},i<=l.length->(∀j,j<i->(nth l j).b6<now - 100)->(i<l.length->¬(nth l i).b6<now - 100)->sH now l=i
 | [],i,h,_,_=>by simp at h;subst h;rfl
 | x::xs,0,_,_,h=>by
  unfold sH;exact CB (h (by simp))
 | x::xs,i+1,b,a,c=>by
  unfold sH;refine(CD (a 0 ω)).trans ?_;rw[JM now (l:=xs) (i:=i) (by simp at b;omega) (λj d=>a (j+1) ω) (λe=>c (by simp;omega))]
def Qp(q:bQ)(now:Int):List C:=bQ.enc .own ⟨q.b7,q.a6.drop (sH now q.a6)⟩++cY .own (q.a6.take (sH now q.a6))
def wg(q:bQ)(now:Int)(g:gq q=true)(G:q.a6.length<=4096)(u:0<=now/\now<=1000000):zzA 425 false [.val (some 2) (bQ.enc .V q),.val none [I now],.val none [I 100]] (.tup [some 2,none]) (Qp q now):=by
 have w:bQ.sml q:=⟨ω,λ_ _=>trivial⟩
 have n:=pc q w;rw[g]at n;have o:=aJ now 0 1000000;rw[O0 u]at o;have p:=aJ 100 0 1000000;rw[O0 (by decide)]at p;have h:=(kn.1 g).1;have a:ij (Qp q now):=aU (bQ.enc_fr _) (vq _);have y:∀i,i<q.a6.length->0<=(nth q.a6 i).b6:=λi b=>(h _ (ar b)).2.2.2
 unfold Qp at a |-;generalize B:sH now q.a6=k at a |-;refine fO 59 [(6,270,[44,45,46,47,48,49,50,51,53,54,55,56,57,58,0,1,2,3,4,5,6,7,9,10,11,12,13,14,8,1009,1010,1011,1012,1013,1014,15,16])] Tryz.func425 rfl ?_ (.inr a)
 repeat'(first|refine gP ?_|(conv=>whnf);first|refine CC ?_|refine C9 (n) ?_|refine C9 (o) ?_|refine C9 (p) ?_)
 (conv=>whnf)
 refine CJ (ι:=Nat) (λi=>[(1,.H .one [I (now)]),(2,.H .one [I (100)]),(3,.H .box (bQ.enc .V q)),(6,.H .box [I 0,.z]),(8,.H .one [I ((i:Nat):Int)])]) (λi=>i<=q.a6.length/\∀j,j<i->(nth q.a6 j).b6<now - 100) (λi=>q.a6.length - i) (0) ?_ (⟨X0 _,λj C=>ω⟩) λi b=>?_
 ·exact wC
 obtain⟨b,r⟩:=b;by_cases l:i<q.a6.length/\(nth q.a6 i).b6<now - 100
 ·have c:=au l.1
  repeat'(first|refine gE ?_|(conv=>whnf);first|with_reducible refine CE (aa c) ?_|refine CC ?_|refine CG rfl (aa c) rfl ?_)
  ((conv=>whnf);refine CF (i+1) ⟨ω,λj C=>by by_cases e:j=i;(subst e;exact l.2);exact r j ω⟩ ω ?_;(exact wC))
 have d:=JM now (i:=i) b r (λE F=>l ⟨E,F⟩);rw[B]at d;subst d;by_cases t:k<q.a6.length
 ·have c:=au t
  have:=y k t
  repeat'(first|refine gE ?_|(conv=>whnf);first|with_reducible (first|refine CE (aa c) ?_|refine Bf.D (λg=>?_) (λg=>?_))|refine CC ?_|refine CG rfl (aa c) rfl ?_|refine CY k rfl (by rw[I1];omega) (aV λ_=>rfl) W4 ?_|refine Sl.suf k rfl (by rw[I1];omega) (aV λ_=>rfl) X4 ?_|refine CX (λ_=>rfl) (λ_=>rfl) (by rw[C2];omega) (by decide) ?_|refine CX (λ_=>rfl) (λ_=>rfl) (by rw[Z3];omega) (by decide) ?_|refine CS (λ_=>rfl) (λ_=>rfl) (by rw[Z3];omega) (by decide) ?_|refine CC ?_)
  rfl
 repeat'(first|refine gE ?_|(conv=>whnf);first|refine CC ?_|refine CY k rfl (by rw[I1];omega) (aV λ_=>rfl) W4 ?_|refine Sl.suf k rfl (by rw[I1];omega) (aV λ_=>rfl) X4 ?_|refine CX (λ_=>rfl) (λ_=>rfl) (by rw[C2];omega) (by decide) ?_|refine CX (λ_=>rfl) (λ_=>rfl) (by rw[Z3];omega) (by decide) ?_|refine CS (λ_=>rfl) (λ_=>rfl) (by rw[Z3];omega) (by decide) ?_|refine CC ?_)
 rfl
def BU(h:ac)(n:Int)(g:bc h [])(r:0<=n/\n<=1000)(p:h.b1+n<=1000000):zzB 278 false [.ptr (bE h),.val none [I n]] [.ptr (bE (tick h n)),.val none [I n]] .one [I ((n6 h n).length:Nat)]:=by
 have a:=g.nums;unfold cn at a;rw[C0]at a;have t:=g.lens.quar;have i:=wg h.a7 (h.b1+n) g.quar ω ⟨ω,p⟩;have j:=g.aged r.1 p;unfold Qp at i;unfold tick n6 aged at *;have l:(h.a7.a6.take (sH (h.b1+n) h.a7.a6)).length<=4096:=by rw[C2];omega
 rw[I1];generalize h.a7.a6.take (sH (h.b1+n) h.a7.a6)=out at i j l |-;generalize h.a7.a6.drop (sH (h.b1+n) h.a7.a6)=rest at i j |-;refine fM 48 [(426,[2,0])] [(2,269,[18,19,20,21,22,23,24,25,26,17,27,28,5,0,1,2,3,4,5,6,7,8,9,10,11,12,13,1011,14])] [(0,0),(0,0)] Tryz.func278 rfl (λu q=>?_)
 repeat'(first|refine gP ?_|(conv=>whnf);first|refine CC ?_|refine CK (i) ⟨⟨rfl,bQ.enc_fz h.a7⟩,⟨rfl,rfl⟩,⟨rfl,rfl⟩,trivial⟩ ?_|refine CC ?_)
 (conv=>whnf)
 refine CJ (ι:=Nat) (λk=>[(0,.H .box (bE (freeAs {h with b1:=h.b1+n,a7:=⟨h.a7.b7,rest⟩} ((out.map (·.Addr)).take k)))),(6,.H .one (cY .own out)),(7,.H .one [I ((k:Nat):Int)])]) (λk=>k<=out.length) (λk=>out.length - k) (0) ?_ (X0 _) λk y=>?_
 ·exact wC
 by_cases o:k<out.length
 ·have b:=au o
  have c:k<(out.map (·.Addr)).length:=by rw[I1];exact o
  have d:nth (out.map (·.Addr)) k=(nth out k).Addr:=bk (by rw[X3,au o];rfl);have e:bc (freeAs {h with b1:=h.b1+n,a7:=⟨h.a7.b7,rest⟩} ((out.map (·.Addr)).take k)) (nth (out.map (·.Addr)) k::(out.map (·.Addr)).drop (k+1)):=by
   refine bc.freeAs ?_;rw[<-jl c,List.take_append_drop];rw[List.append_nil]at j;exact j
  rw[d]at e;have w:=om _ _ _ e
  repeat'(first|refine gE ?_|(conv=>whnf);first|refine CC ?_|refine CE (aa b) ?_|refine CG rfl (aa b) rfl ?_|refine CL (w) (.inl rfl) ?_)
  ((conv=>whnf);refine CF (k+1) ω ω ?_)
  rw[vi _ _ _ c,d];exact wC
 obtain rfl:k=out.length:=ω
 rw[Z7 (by rw[I1];omega)]
 repeat'(first|refine gE ?_|(conv=>whnf);first|refine CC ?_)
 refine CH rfl rfl ?_;exact wC
def F5(t:Nat)(h:ac)(az:List Int)(k:Nat)(a:k<az.length):recycs t h (az.take (k+1))=recyc t (recycs t h (az.take k)) (nth az k):=by
 unfold recycs;rw[I6,au a,Option.toList_some,List.foldl_append];rfl
def vT(h:ac)(t:Nat)(a:bc h [])(i:t<h.S.length):zzB 423 false [.ptr (bE h),.val none [I (t:Nat)]] [.ptr (bE (collect h t)),.val none [I (t:Nat)]] .one [I ((nth h.w.y t).length:Nat)]:=by
 have l:=a.nc;have n:=(d8.1 a.mail).1.2.2;have j:=DM h.w t a.mail ω;have c:=(kG.of a.mail).il t ω;have d:=a.coll (t:=t) ω;rw[List.append_nil]at d;unfold collect;generalize nth h.w.y t=out at j d c |-;refine fM 36 [(515,[2,0,0])] [] [(0,0),(0,0)] Tryz.func423 rfl (λu q=>?_)
 repeat'(first|refine gP ?_|(conv=>whnf);first|refine CC ?_|refine CK (j) ⟨⟨rfl,aM.enc_fz h.w⟩,⟨rfl,rfl⟩,trivial⟩ ?_)
 (conv=>whnf)
 refine CJ (ι:=Nat) (λk=>[(0,.H .box (bE (recycs t {h with w:=lI h.w t} (out.take k)))),(1,.H .one [I ((t:Nat):Int)]),(6,.H .one (aH .own out)),(7,.H .one [I ((k:Nat):Int)])]) (λk=>k<=out.length) (λk=>out.length - k) (0) ?_ (X0 _) λk p=>?_
 ·exact wC
 by_cases e:k<out.length
 ·have b:=au e
  have g:bc (recycs t {h with w:=lI h.w t} (out.take k)) (nth out k::out.drop (k+1)):=by
   refine bc.recycs ?_ i;rw[<-jl e,List.take_append_drop];exact d
  have o:=o7 _ _ t _ g (by rw[(fw t _ _).1];exact i)
  repeat'(first|refine gE ?_|(conv=>whnf);first|refine CC ?_|refine CE (aa b) ?_|refine CG rfl (aa b) rfl ?_|refine CL (o) (.inl rfl) ?_)
  ((conv=>whnf);refine CF (k+1) ω ω ?_)
  rw[F5 _ _ _ _ e];exact wC
 obtain rfl:k=out.length:=ω
 rw[X5]
 repeat'(first|refine gE ?_|(conv=>whnf);first|refine CC ?_)
 refine CH rfl rfl ?_;exact wC
def P4(a:Int)(o:bo):Bool:=decide (o.Addr<=a/\a<o.Addr+o.q)
def HW(h:ac)(E:List Int)(a:Int)(d:bc h E):zzB 517 false [.ptr (bE h),.val none [I a]] [.ptr (bE h),.val none [I a]] .one [I (cU (P4 a) h.O)]:=by
 have r:=d.lens.objs;refine fM 47 [] [(4,29,[15,16,17,18,19,20,21,22,23,24,25,26,27,28,29,30,31,32,33,34,35,36,37,38,39,40,41,42,43])] [(0,0),(0,0)] Tryz.func517 rfl (λu q=>?_)
 repeat'(first|refine gP ?_|(conv=>whnf);first|refine CC ?_)
 (conv=>whnf)
 refine CJ (ι:=Nat) (λi=>[(0,.H .box (bE h)),(1,.H .one [I (a)]),(5,.H .one [I ((i:Nat):Int)])]) (λi=>i<=h.O.length/\∀(j:Nat)(z:bo),j<i->h.O[j]? = some z->P4 a z=false) (λi=>h.O.length - i) (0) ?_ (⟨X0 _,λj z C=>ω⟩) λi d=>?_
 ·exact wC
 obtain⟨t,c⟩:=d;by_cases e:i<h.O.length
 ·have b:=au e
  have w:=pH ‹bc h E› (ar e);have y:0<=(nth h.O i).q/\(nth h.O i).q<=1000:=by
   rcases bc.oow ‹bc h E› _ (ar e) with⟨s,B,F,G⟩|⟨l,g,k,o⟩
   ·have H:=aI ((bc.L ‹bc h E›).sok s B)
    have:=gK (n:=(nth h.O i).q) ω;omega
   have J:=cF ((bc.L ‹bc h E›).lok l g);omega
  by_cases k:(nth h.O i).Addr<=a
  ·by_cases o:a<(nth h.O i).Addr+(nth h.O i).q
   ·repeat'(first|refine gE ?_|(conv=>whnf);first|with_reducible refine CE (aa b) ?_|refine CC ?_|refine CG rfl (aa b) rfl ?_|refine CC ?_)
    refine CH rfl (Z0 (λz=>[I z]) (dD b (O0 ⟨k,o⟩) c).symm) ?_;exact wC
   repeat'(first|refine gE ?_|(conv=>whnf);first|with_reducible (first|refine CE (aa b) ?_|refine Bf.D (λp=>?_) (λp=>?_))|refine CC ?_|refine CG rfl (aa b) rfl ?_|refine CC ?_)
   ((conv=>whnf);refine CF (i+1) ⟨ω,dY b (W0 λx=>o x.2) c⟩ ω ?_;(exact wC))
  repeat'(first|refine gE ?_|(conv=>whnf);first|with_reducible (first|refine CE (aa b) ?_|refine Bf.D (λp=>?_) (λp=>?_))|refine CC ?_|refine CG rfl (aa b) rfl ?_|refine CC ?_)
  ((conv=>whnf);refine CF (i+1) ⟨ω,dY b (W0 λx=>k x.1) c⟩ ω ?_;(exact wC))
 repeat'(first|refine gE ?_|(conv=>whnf);first|refine CC ?_)
 refine CH rfl (Z0 (λz=>[I z]) (gh ω c).symm) ?_;exact wC
def JJ(h:ac)(a v:Int):bE {h with G:=dJ h.G a v} = (bE h).set 0 (.s .own ((h.G.F.W.T.map (aH .own)).set (af h.G.F.R (a / 16)).j.toNat ((aH .own (nth h.G.F.W.T (cW h.G a))).set 0 (.s .own (((nth h.G.F.W.T (cW h.G a)).map (rI .own)).set (a % 16).toNat (splice (rI .own (nth (nth h.G.F.W.T (cW h.G a)) (a % 16).toNat)) 0 [I v])))))):=by
 simp[bE,dJ,setCell,Z6,aH,splice,cW,rI]
def Gy{p:α->Bool}{xs:List α}{x:α}(a:x∈xs)(b:p x=true):0<=cU p xs:=by
 have:=mT p xs;rw[show xs.any p=true from I4.2 ⟨x,a,b⟩,C0]at this;exact this
def zT(h:ac)(i:Nat)(j v:Int)(e:bc h [])(C:i<h.O.length)(D:0<=j/\j<=(nth h.O i).q - 1):zzB 418 false [.ptr (bE h),.val none [I ((nth h.O i).Addr+j)],.val none [I v]]
  [.ptr (bE (if(af h.G.F.R (((nth h.O i).Addr+j) / 16)).e=1\/¬(0<=v/\v<=999) then h else {h with G:=dJ h.G ((nth h.O i).Addr+j) v})),.val none [I ((nth h.O i).Addr+j)],.val none [I v]] .one [I (if(af h.G.F.R (((nth h.O i).Addr+j) / 16)).e=1 then 2 else if ¬(0<=v/\v<=999) then 3 else 0)]:=by
 obtain⟨E,J,K⟩:=cI e (ar C) D;have F:0<=cU (P4 ((nth h.O i).Addr+j)) h.O:=Gy (ar C) (O0 ω);have p:=HW h [] ((nth h.O i).Addr+j) e;have r:=b8 e.ker;have t:=dl h.G.F.R (((nth h.O i).Addr+j) / 16) r.1.2;have n:=aJ v 0 999;generalize L:(nth h.O i).Addr+j=a at *;have b:0<=a/\a<512:=ω
 obtain⟨-,-,-,G,M⟩:=bW e.ker E;have H:=(bf.1 (aG.1 e.ker).2.1).2.2.1;have k:cW h.G a<h.G.F.W.T.length:=by unfold cW;omega
 have d:h.G.F.W.T[(af h.G.F.R (a / 16)).j.toNat]? = some (nth h.G.F.W.T (cW h.G a)):=au k;have w:=e.lens.row _ (ar k);have l:=au (xs:=nth h.G.F.W.T (cW h.G a)) (i:=(a % 16).toNat) (by rw[w];omega);have B:a.tmod 16=a % 16:=eE b.1;refine fM 42 [(517,[2,0])] [(8,14,[27,28,29,30,31,32,33,34,35,36,37,38,39,40])] [(0,0),(0,0),(0,0)] Tryz.func418 rfl (λu q=>?_);by_cases o:(af h.G.F.R (a / 16)).e=1
 ·rw[CD (Or.inl o),CD o]
  repeat'(first|refine gB ?_|(conv=>whnf);first|refine CC ?_|refine CL (p) (.inl rfl) ?_|refine CK (t) ⟨⟨rfl,Cb _⟩,⟨rfl,rfl⟩,trivial⟩ ?_|refine CP (by decide) ?_|refine CN (qM b) ?_)
  refine CH rfl rfl ?_;exact wC
 rw[CB (c:=_=(1:Int)) o];by_cases g:0<=v/\v<=999
 ·rw[O0 g]at n
  rw[CB (c:=¬(0<=v/\v<=999)) (V4 g),CB (c:=_\/¬(0<=v/\v<=999)) (λy=>y.elim o λy=>y g)]
  repeat'(first|refine gB ?_|(conv=>whnf);first|refine CC ?_|refine CL (p) (.inl rfl) ?_|refine CK (t) ⟨⟨rfl,Cb _⟩,⟨rfl,rfl⟩,trivial⟩ ?_|refine C9 (n) ?_|refine CP (by decide) ?_|refine CN (qM b) ?_|refine CT B ?_|refine CO G (aa d) ?_|refine CG rfl (aa d) rfl ?_|refine CO ω (aa l) ?_|refine Pu.two rfl rfl (aa d) rfl rfl rfl (aa l) rfl (W3 _) (JJ h a v) ?_|refine CC ?_)
  refine CH rfl rfl ?_;exact wC
 rw[W0 g]at n;rw[CD (Or.inr g),CD g]
 repeat'(first|refine gB ?_|(conv=>whnf);first|refine CC ?_|refine CL (p) (.inl rfl) ?_|refine CK (t) ⟨⟨rfl,Cb _⟩,⟨rfl,rfl⟩,trivial⟩ ?_|refine C9 (n) ?_|refine CP (by decide) ?_|refine CN (qM b) ?_)
 refine CH rfl rfl ?_;exact wC
def xE(l:aC)(n:Int):aB:=if(n+15) / 16<l.a2 then⟨l.Q+(n+15) / 16,l.a2 - (n+15) / 16⟩ else⟨0,0⟩
def x7(l:aC)(n:Int)(d:bN l=true):zzA 518 false [.val (some 3) (aC.enc .V l),.val none [I n]] (.tup [some 3,some 2,none]) (if 9<=n/\n<=l.q then aC.enc .own (trimL l n)++aB.enc .own (xE l n)++[B true] else aC.enc .own l++[I 0,I 0]++[B false]):=by
 have b:=nZ l;rw[d]at b;have a:=aJ n 9 l.q;have g:=d;unfold bN at g;rw[C0]at g;by_cases e:9<=n/\n<=l.q
 ·rw[O0 e]at a
  rw[CD e];have c:=my n;rw[show eX n=(n+15) / 16 by unfold eX;rw[CD ω]]at c;unfold xE;by_cases h:(n+15) / 16<l.a2
  ·rw[CD h]
   refine fO 43 [(7,261,[37,38,39,40,42,0,1,2,3,5,4,1005,6,1005,7,8])] Tryz.func518 rfl ?_ (.inr ⟨trivial,trivial,trivial,trivial,trivial,trivial,trivial⟩)
   repeat'(first|refine gE ?_|(conv=>whnf);first|refine CC ?_|refine C9 (b) ?_|refine C9 (a) ?_|refine C9 (c) ?_|refine CC ?_)
   rfl
  rw[CB h];refine fO 43 [(7,261,[37,38,39,40,42,0,1,2,3,5,4,1005,6,1005,7,8])] Tryz.func518 rfl ?_ (.inr ⟨trivial,trivial,trivial,trivial,trivial,trivial,trivial⟩)
  repeat'(first|refine gE ?_|(conv=>whnf);first|refine CC ?_|refine C9 (b) ?_|refine C9 (a) ?_|refine C9 (c) ?_|refine CC ?_)
  rfl
 rw[W0 e]at a;rw[CB e];refine fO 43 [(7,261,[37,38,39,40,42,0,1,2,3,5,4,1005,6,1005,7,8])] Tryz.func518 rfl ?_ (.inr ⟨trivial,trivial,trivial,trivial,trivial,trivial,trivial⟩)
 repeat'(first|refine gP ?_|(conv=>whnf);first|refine CC ?_|refine C9 (b) ?_|refine C9 (a) ?_|refine CC ?_)
 rfl
def BV(h:ac)(t a:Int)(c:h.S.length<=4)(d:¬(0<=t/\t<=h.S.length - 1)):zzB 416 false [.ptr (bE h),.val none [I t],.val none [I a]] [.ptr (bE h),.val none [I t],.val none [I a]] .one [I 1]:=by
 have b:=aJ t 0 (h.S.length - 1:Int);rw[W0 d]at b;refine fM 148 [(511,[2,0]),(513,[2,0]),(515,[2,0,0]),(510,[2,0])] [(15,269,[68,69,70,71,72,73,74,75,77,67,78,79,11,0,1,2,3,4,5,6,7,13,8,1000,1001,1002,1003,1004,1013,9,10,11,12,14,1012,15]),(22,15,[92,93,94,95,96,97,98,99,100,101,102,103,104,105,106]),(25,271,[116,117,118,119,120,121,122,123,124,125,127,115,128,129,14,0,1,2,3,4,5,6,7,8,9,15,10,1000,1001,1002,1003,1015,11,12,13,14,16,1014,17])] [(0,0),(0,0),(0,0)] Tryz.func416 rfl (λu q=>?_)
 repeat'(first|refine gP ?_|(conv=>whnf);first|refine CC ?_|refine C9 (b) ?_)
 refine CH rfl rfl ?_;exact wC
def Fh(h:ac)(i t:Nat)(a:bc h [])(j:i<h.O.length)(U:t<h.S.length)(K:(nth h.O i).a4≠t):zzB 416 false [.ptr (bE h),.val none [I (t:Nat)],.val none [I (nth h.O i).Addr]] [.ptr (bE (freeT h t i).1),.val none [I (t:Nat)],.val none [I (nth h.O i).Addr]] .one [I (freeT h t i).2]:=by
 have F:=ar j;obtain⟨-,L,d⟩:=a.objAt F;have N:qZ h (nth h.O i).Addr=i:=by
  have V:=(a.objAt F).1;exact cS (f:=(·.Addr)) (dh a.osr) V j (by rw[L])
 rw[N]at d;have b:=pH a F;have W:=a.onu _ F;have n:=a.lens;have X:=n.objs;have Y:=a.nc;have Z:=kG.of a.mail;have hb4:=Z.b4;have o:=aJ (t:Nat) 0 (h.S.length - 1:Int);rw[O0 ω]at o;have p:=rY h (nth h.O i).Addr ω;rw[d]at p;have e:=au j;have G:=kM (nth h.O i).q;have O:=b8 a.ker;have P:=dl h.G.F.R ((nth h.O i).Addr / 16) O.1.2;unfold freeT;by_cases H:aK (nth h.O i).q<0
 ·rw[CD H]
  have c3:=qX h i a j H;refine fM 148 [(511,[2,0]),(513,[2,0]),(515,[2,0,0]),(510,[2,0])] [(15,269,[68,69,70,71,72,73,74,75,77,67,78,79,11,0,1,2,3,4,5,6,7,13,8,1000,1001,1002,1003,1004,1013,9,10,11,12,14,1012,15]),(22,15,[92,93,94,95,96,97,98,99,100,101,102,103,104,105,106]),(25,271,[116,117,118,119,120,121,122,123,124,125,127,115,128,129,14,0,1,2,3,4,5,6,7,8,9,15,10,1000,1001,1002,1003,1015,11,12,13,14,16,1014,17])] [(0,0),(0,0),(0,0)] Tryz.func416 rfl (λu q=>?_)
  repeat'(first|refine gE ?_|(conv=>whnf);first|with_reducible refine Bf.D (λc=>?_) (λc=>?_)|refine CC ?_|refine C9 (o) ?_|refine CK (p) ⟨⟨rfl,bK h⟩,⟨rfl,rfl⟩,trivial⟩ ?_|refine CE (aa e) ?_|refine CG rfl (aa e) rfl ?_|refine C9 (G) ?_|refine CL (c3) (.inl rfl) ?_)
  refine CH rfl rfl ?_;exact wC
 rw[CB H];obtain⟨s1,s2,s3,s4⟩:=Ul.of a (ar j) H;by_cases J:(af (tbl h) ((nth h.O i).Addr / 16)).e=1
 ·rw[CD J]
  unfold tbl at J;refine fM 148 [(511,[2,0]),(513,[2,0]),(515,[2,0,0]),(510,[2,0])] [(15,269,[68,69,70,71,72,73,74,75,77,67,78,79,11,0,1,2,3,4,5,6,7,13,8,1000,1001,1002,1003,1004,1013,9,10,11,12,14,1012,15]),(22,15,[92,93,94,95,96,97,98,99,100,101,102,103,104,105,106]),(25,271,[116,117,118,119,120,121,122,123,124,125,127,115,128,129,14,0,1,2,3,4,5,6,7,8,9,15,10,1000,1001,1002,1003,1015,11,12,13,14,16,1014,17])] [(0,0),(0,0),(0,0)] Tryz.func416 rfl (λu q=>?_)
  repeat'(first|refine gB ?_|(conv=>whnf);first|with_reducible refine Bf.D (λc=>?_) (λc=>?_)|refine CC ?_|refine CP (by decide) ?_|refine CN (qM b) ?_|refine C9 (o) ?_|refine CK (p) ⟨⟨rfl,bK h⟩,⟨rfl,rfl⟩,trivial⟩ ?_|refine CE (aa e) ?_|refine CG rfl (aa e) rfl ?_|refine C9 (G) ?_|refine CK (P) ⟨⟨rfl,Cb _⟩,⟨rfl,rfl⟩,trivial⟩ ?_)
  refine CH rfl rfl ?_;exact wC
 rw[CB J,CB K];unfold tbl at J;have r:=KI h.w t ⟨(nth h.O i).a4,(nth h.O i).Addr⟩ a.mail ω;by_cases l:bR (io h.w t ⟨(nth h.O i).a4,(nth h.O i).Addr⟩)=true;rotate_left
 ·rw[CB l]
  rw[CB l,show bR (io h.w t ⟨(nth h.O i).a4,(nth h.O i).Addr⟩)=false by simpa using l]at r;refine fM 148 [(511,[2,0]),(513,[2,0]),(515,[2,0,0]),(510,[2,0])] [(15,269,[68,69,70,71,72,73,74,75,77,67,78,79,11,0,1,2,3,4,5,6,7,13,8,1000,1001,1002,1003,1004,1013,9,10,11,12,14,1012,15]),(22,15,[92,93,94,95,96,97,98,99,100,101,102,103,104,105,106]),(25,271,[116,117,118,119,120,121,122,123,124,125,127,115,128,129,14,0,1,2,3,4,5,6,7,8,9,15,10,1000,1001,1002,1003,1015,11,12,13,14,16,1014,17])] [(0,0),(0,0),(0,0)] Tryz.func416 rfl (λu q=>?_)
  repeat'(first|refine gB ?_|(conv=>whnf);first|with_reducible refine Bf.D (λc=>?_) (λc=>?_)|refine CC ?_|refine CP (by decide) ?_|refine CN (qM b) ?_|refine C9 (o) ?_|refine CK (p) ⟨⟨rfl,bK h⟩,⟨rfl,rfl⟩,trivial⟩ ?_|refine CE (aa e) ?_|refine CG rfl (aa e) rfl ?_|refine C9 (G) ?_|refine CK (P) ⟨⟨rfl,Cb _⟩,⟨rfl,rfl⟩,trivial⟩ ?_|refine CK (r) ⟨⟨rfl,aM.enc_fz h.w⟩,⟨rfl,rfl⟩,⟨rfl,rfl⟩,trivial⟩ ?_|refine CC ?_)
  refine CH rfl rfl ?_;exact wC
 rw[CD l];rw[CD l,l]at r;have w:cW h.G (nth h.O i).Addr<h.G.F.W.T.length:=by unfold cW;omega
 have hcz:=Pf s1;have B:=ee (aK (nth h.O i).q);unfold NE;generalize io h.w t ⟨(nth h.O i).a4,(nth h.O i).Addr⟩ = M at r;refine fM 148 [(511,[2,0]),(513,[2,0]),(515,[2,0,0]),(510,[2,0])] [(15,269,[68,69,70,71,72,73,74,75,77,67,78,79,11,0,1,2,3,4,5,6,7,13,8,1000,1001,1002,1003,1004,1013,9,10,11,12,14,1012,15]),(22,15,[92,93,94,95,96,97,98,99,100,101,102,103,104,105,106]),(25,271,[116,117,118,119,120,121,122,123,124,125,127,115,128,129,14,0,1,2,3,4,5,6,7,8,9,15,10,1000,1001,1002,1003,1015,11,12,13,14,16,1014,17])] [(0,0),(0,0),(0,0)] Tryz.func416 rfl (λu q=>?_)
 repeat'(first|refine gB ?_|(conv=>whnf);first|with_reducible refine Bf.D (λc=>?_) (λc=>?_)|refine CC ?_|refine CP (by decide) ?_|refine CN (qM b) ?_|refine C9 (o) ?_|refine CK (p) ⟨⟨rfl,bK h⟩,⟨rfl,rfl⟩,trivial⟩ ?_|refine CE (aa e) ?_|refine CG rfl (aa e) rfl ?_|refine C9 (G) ?_|refine CK (P) ⟨⟨rfl,Cb _⟩,⟨rfl,rfl⟩,trivial⟩ ?_|refine CK (r) ⟨⟨rfl,aM.enc_fz h.w⟩,⟨rfl,rfl⟩,⟨rfl,rfl⟩,trivial⟩ ?_|refine CC ?_)
 have Q:({{h with w:=M} with G:=fo h.G (nth h.O i).Addr 0} : ac) = {h with w:=M}:=Jw {h with w:=M} _ w;have R:=Z0 (λy:ac=>C.s .own (y.G.F.W.T.map (aH .own))) Q
 (conv=>whnf)
 refine CJ (ι:=Nat) (λk=>[(0,.H .box (bE {{h with w:=M} with G:=fo h.G (nth h.O i).Addr k})),(1,.H .one [I ((t:Nat):Int)]),(2,.H .one [I ((nth h.O i).Addr)]),(7,.H .one [I ((i:Nat):Int)]),(8,.H .box (bo.enc .own (nth h.O i))),(9,.H .one [I (aK (nth h.O i).q)]),(10,.H .box (bm.enc .own (af h.G.F.R ((nth h.O i).Addr / 16)))),(13,.H .one [I ((k:Nat):Int)])]) (λk=>k<=(csz (aK (nth h.O i).q)).toNat) (λk=>(csz (aK (nth h.O i).q)).toNat - k) (0) ?_ (X0 _) λk hk=>?_
 ·repeat'(first|exact trivial|rfl |exact o6 R|exact dL _|refine CM ?_ ?_|(exact B9 (by first|omega|(simp only;omega)|(simp;omega))))
 have T:IntKind.i64.wrap 0=0:=rfl;have S:(nth h.O i).Addr.tmod 16=(nth h.O i).Addr % 16:=eE b.1;have g:(fo h.G (nth h.O i).Addr k).F.W.T[(af h.G.F.R ((nth h.O i).Addr / 16)).j.toNat]? = some (lK (nth h.G.F.W.T (cW h.G (nth h.O i).Addr)) ((nth h.O i).Addr % 16).toNat k):=v4 w;by_cases lk:k<(csz (aK (nth h.O i).q)).toNat
 ·have E:=au (xs:=lK (nth h.G.F.W.T (cW h.G (nth h.O i).Addr)) ((nth h.O i).Addr % 16).toNat k) (i:=((nth h.O i).Addr % 16+k).toNat) (by rw[mL,s4];omega)
  repeat'(first|refine gE ?_|(conv=>whnf);first|refine CC ?_|refine CP (by decide) ?_|refine CT S ?_|refine C9 (B) ?_|refine CO s2.1 (aa g) ?_|refine CG rfl (aa g) rfl ?_|refine CO ω (aa E) ?_|refine Pu.two rfl rfl (aa g) rfl rfl rfl (aa E) rfl (W3 _) (EN {h with w:=M} _ k _ b.1) ?_)
  ((conv=>whnf);refine CF (k+1) ω ω ?_;(exact wC))
 obtain rfl:k=(csz (aK (nth h.O i).q)).toNat:=ω
 have c6:=nz {{h with w:=M} with G:=fo h.G (nth h.O i).Addr (csz (aK (nth h.O i).q)).toNat} i j (by show h.O.length<=_;omega)
 repeat'(first|refine gB ?_|(conv=>whnf);first|with_reducible refine Bf.D (λc=>?_) (λc=>?_)|refine CC ?_|refine C9 (B) ?_|refine CL (c6) (.inl rfl) ?_)
 refine CH rfl rfl ?_;exact wC
def QG(h:ac)(i:Nat)(t:Int)(a:bc h [])(d:i<h.O.length):zzB 416 false [.ptr (bE h),.val none [I t],.val none [I (nth h.O i).Addr]] [.ptr (bE (if 0<=t/\t<=h.S.length - 1 then(freeT h t.toNat i).1 else h)),.val none [I t],.val none [I (nth h.O i).Addr]] .one [I (if 0<=t/\t<=h.S.length - 1 then(freeT h t.toNat i).2 else 1)]:=by
 have c:h.S.length<=4:=by have:=(d8.1 a.mail).1.2.1;have:=a.nc;omega
 by_cases b:0<=t/\t<=h.S.length - 1
 ·rw[CD b,CD b]
  obtain⟨n,rfl⟩:=O3 b.1;simp only[I3];by_cases e:(nth h.O i).a4=n
  ·have:=Hs h (nth h.O i) n a (ar d) e c
   have g:qZ h (nth h.O i).Addr=i:=by
    obtain⟨k,j,-⟩:=a.objAt (ar d);exact cS (f:=(·.Addr)) (dh a.osr) k d (by rw[j])
   rw[g,<-BB e]at this;exact this
  exact Fh h i n a d ω e
 rw[CB b,CB b];exact BV h t _ c b
def Fo(c:aE)(k:Nat):aE.enc .own (q7 c k)=[.s .own ((c.a.map (aH .own)).set k (aH .own ((nth c.a k).take ((nth c.a k).length - 1))))]:=by simp[aE.enc,q7,Z6]
def Mv(xs:List Int)(n:Nat):(xs.take n).map (rI .V)=(xs.map (rI .V)).take n:=W4
def Uc(c:aE)(k:Nat):List C:=if 0<(nth c.a k).length then aE.enc .own (q7 c k)++[I (nth (nth c.a k) ((nth c.a k).length - 1)),B true] else aE.enc .own c++[I (-1),B false]
def Te(c:aE)(k:Nat):ij (Uc c k):=by
 unfold Uc;split
 ·exact aU (aE.enc_fr _) ⟨trivial,trivial,trivial⟩
 exact aU (aE.enc_fr _) ⟨trivial,trivial,trivial⟩
def ya(c:aE)(k:Nat)(h:b9 c=true)(u:k<=3):zzA 366 false [.val (some 1) (aE.enc .V c),.val none [I (k:Nat)]] (.tup [some 1,none,none]) (Uc c k):=by
 obtain⟨w,j⟩:=eI h;have n:aE.sml c:=⟨ω,λl r=>by have:=j l r;show l.length<=1048576;omega⟩
 have d:=yx c k n;rw[h,O0 ω]at d;have o:=iZ c n;have b:=pX (c:=c) (k:=k) ω;have t:=j _ (ar (xs:=c.a) (i:=k) ω);have a:=Te c k;unfold Uc at a |-;by_cases p:0<(nth c.a k).length
 ·rw[CD p]at a |-
  have q:=au (xs:=nth c.a k) (i:=(nth c.a k).length - 1) ω;have e:(nth c.a k)[(((nth c.a k).length:Int) - 1).toNat]? = some (nth (nth c.a k) ((nth c.a k).length - 1)):=by rw[show(((nth c.a k).length:Int) - 1).toNat=(nth c.a k).length - 1 by omega];exact q
  have g:((((nth c.a k).length:Nat):Int) - 1)=(((nth c.a k).length - 1:Nat):Int):=ω
  rw[Fo]at a |-;refine fO 54 [(5,268,[32,33,34,35,36,37,38,39,40,41,42,44,0,1,2,3,4,5,6,7,8,9,10,11,1000,1001,1002,12,13]),(6,265,[45,46,47,48,49,50,51,52,53,0,1,2,3,4,5,6,7,8,9,1001,1002,1003,1004,1005,1006,1007,1008,10,11])] Tryz.func366 rfl ?_ (.inr a)
  repeat'(first|refine gB ?_|(conv=>whnf);first|with_reducible refine CE (aa b) ?_|refine CC ?_|refine CG rfl (aa b) rfl ?_|refine C9 (d) ?_|refine C9 (o) ?_|refine CO ω (aa e) ?_|refine CE (aa q) ?_|refine CY ((nth c.a k).length - 1) g (by rw[I1];omega) (aV λ_=>rfl) (Mv _ _) ?_|refine CC ?_|refine CX (λ_=>rfl) (λ_=>rfl) (by rw[C2];omega) (by decide) ?_|refine CS (λ_=>rfl) (λ_=>rfl) (by rw[C2];omega) (by decide) ?_|refine CQ rfl rfl (aa b) rfl (O1 rfl) rfl ?_)
  rfl
 rw[CB p]at a |-;refine fO 54 [(5,268,[32,33,34,35,36,37,38,39,40,41,42,44,0,1,2,3,4,5,6,7,8,9,10,11,1000,1001,1002,12,13]),(6,265,[45,46,47,48,49,50,51,52,53,0,1,2,3,4,5,6,7,8,9,1001,1002,1003,1004,1005,1006,1007,1008,10,11])] Tryz.func366 rfl ?_ (.inr a)
 repeat'(first|refine gB ?_|(conv=>whnf);first|with_reducible refine CE (aa b) ?_|refine CC ?_|refine CG rfl (aa b) rfl ?_|refine C9 (d) ?_|refine C9 (o) ?_)
 rfl
def TC(xs:List aB)(n:Int):List C:=bv .own (ax xs n).1++[I (ax xs n).2.1,B (ax xs n).2.2]
def Td(xs:List aB)(n:Int):ij (TC xs n):=aU (iG _) ⟨trivial,trivial,trivial⟩
def pE(pages:Int)(xs:List aB)(n:Int)(w:0<=pages/\pages<=1048576)(l:bF pages xs=true)(J:1<=n/\n<=1000)(K:xs.length<=4096):zzA 371 false [.val none [I pages],.val none (bv .V xs),.val none [I n]] (.tup [none,none,none]) (TC xs n):=by
 have o:=m7 pages xs w ⟨ω,λ_ _=>trivial⟩;rw[l]at o;have p:=(wu l).2;refine fO 98 [(8,21,[31,32,33,34,35,36,37,38,39,40,41,42,43,44,45,46,47,48,49,50,51]),(14,265,[71,72,73,74,76,77,78,79,81,0,1,2,3,5,6,7,8,10,4,1005,1006,1007,1008,1010,9,1010,11,1010,12,13])] Tryz.func371 rfl ?_ (.inr (Td xs n))
 repeat'(first|refine gE ?_|(conv=>whnf);first|refine CC ?_|refine C9 (o) ?_|refine CS (λ_=>rfl) (λ_=>rfl) ω (by decide) ?_)
 (conv=>whnf)
 refine CJ (ι:=Nat) (λi=>[(1,.H .one (bv .V xs)),(2,.H .one [I (n)]),(9,.H .one (bv .own xs)),(10,.H .one [I (fH xs n i)]),(11,.H .one [I ((i:Nat):Int)])]) (λi=>i<=xs.length) (λi=>xs.length - i) (0) ?_ (X0 _) λi y=>?_
 ·exact wC
 have h:=sA xs n i y;by_cases q:i<xs.length
 ·have j:=au q
  have E:=p _ (ar q);have a:fH xs n (i+1)=if n<=(nth xs i).a8/\(fH xs n i<0\/(nth xs i).a8<(nth xs (fH xs n i).toNat).a8) then((i:Nat):Int) else fH xs n i:=rfl
  by_cases r:n<=(nth xs i).a8
  ·by_cases F:fH xs n i<0
   ·rw[CD ⟨r,.inl F⟩]at a
    repeat'(first|refine gE ?_|(conv=>whnf);first|with_reducible (first|refine CE (aa j) ?_|refine Bf.D (λc=>?_) (λc=>?_))|refine CC ?_)
    ((conv=>whnf);refine CF (i+1) ω ω ?_)
    rw[a];exact wC
   have d:=au (xs:=xs) (i:=(fH xs n i).toNat) ω;by_cases G:(nth xs i).a8<(nth xs (fH xs n i).toNat).a8
   ·rw[CD ⟨r,.inr G⟩]at a
    repeat'(first|refine gE ?_|(conv=>whnf);first|with_reducible (first|refine CE (aa j) ?_|refine CO ω (aa d) ?_|refine Bf.D (λc=>?_) (λc=>?_))|refine CC ?_)
    ((conv=>whnf);refine CF (i+1) ω ω ?_)
    rw[a];exact wC
   rw[CB ω]at a
   repeat'(first|refine gE ?_|(conv=>whnf);first|with_reducible (first|refine CE (aa j) ?_|refine CO ω (aa d) ?_|refine Bf.D (λc=>?_) (λc=>?_))|refine CC ?_)
   ((conv=>whnf);refine CF (i+1) ω ω ?_)
   rw[a];exact wC
  rw[CB ω]at a
  repeat'(first|refine gE ?_|(conv=>whnf);first|with_reducible (first|refine CE (aa j) ?_|refine Bf.D (λc=>?_) (λc=>?_))|refine CC ?_)
  ((conv=>whnf);refine CF (i+1) ω ω ?_)
  rw[a];exact wC
 obtain rfl:i=xs.length:=ω
 change fx xs n = -1\/_ at h;unfold TC ax;rw[show fH xs n xs.length=fx xs n from rfl];by_cases e:fx xs n<0
 ·rw[CD e]
  rw[show fx xs n = -1 from h.resolve_right λg=>by have L:0<=fx xs n:=g.1;omega]
  repeat'(first|refine gE ?_|(conv=>whnf);first|with_reducible refine Bf.D (λc=>?_) (λc=>?_)|refine CC ?_)
  rfl
 rw[CB e];obtain⟨H,t,M⟩:=h.resolve_left ω;change 0<=fx xs n at H;change fx xs n<xs.length at t;obtain⟨b,k⟩:=O3 (show 0<=fx xs n by omega);rw[k]at t |-;simp only[I3];have d:=au (xs:=xs) (i:=b) ω;have E:=p _ (ar (xs:=xs) (i:=b) ω);by_cases u:(nth xs b).a8=n
 ·rw[CD u]
  repeat'(first|refine gB ?_|(conv=>whnf);first|with_reducible (first|refine CE (aa d) ?_|refine Bf.D (λc=>?_) (λc=>?_))|refine CC ?_|refine CY b rfl (by rw[I1];omega) (aV λ_=>rfl) W4 ?_|refine Sl.suf (b+1) rfl (by rw[I1];omega) (aV λ_=>rfl) X4 ?_|refine CX (λ_=>rfl) (λ_=>rfl) (by rw[C2];omega) (by decide) ?_|refine Ap.dele (λ_=>rfl) (λ_=>rfl) ω (by decide) ?_|refine CS (λ_=>rfl) (λ_=>rfl) (by rw[C2];omega) (by decide) ?_|refine CC ?_)
  rfl
 rw[CB u]
 repeat'(first|refine gB ?_|(conv=>whnf);first|with_reducible (first|refine CE (aa d) ?_|refine Bf.D (λc=>?_) (λc=>?_))|refine CC ?_|refine CQ rfl rfl (aa d) rfl (O1 rfl) rfl ?_)
 exact Z0 (λz=>z++[I (nth xs b).At,B true]) (show [C.s dR.own _]=_ from by simp[bv,Z6];rfl)
def x9(k:ah)(p:Int)(f:Nat):ah.enc .own (rP k p f)=((ah.enc .own k).set 1 (.s .own ((k.F.W.a5.map (rB .own)).set f (rB .own true)))).set 2 (.s .own ((k.F.R.K.map (bm.enc .own)).set p.toNat (bm.enc .own ⟨2,(f:Nat)⟩))):=by
 simp[ah.enc,rP,Z6]
def FZ(k:ah)(p:Int)(c:aF k=true)(y:k.Calls≠100000)(o:0<=p/\p<k.F.R.K.length)(C:(nth k.F.R.K p.toNat).e=0):zzB 373 false [.ptr (ah.enc .own k),.val none [I p]] [.ptr (ah.enc .own (newK k p).1),.val none [I p]] .one [B (newK k p).2]:=by
 have E:=b8 c;have F:=bf.1 (aG.1 c).2.1;have G:=(br.1 (aG.1 c).2.2.1).2.2;have H:(cg k).F.R.K.length<=32:=G;have a:=DX k.F.W ω;have d:=nu k c y;have g:=eJ (cg k) p E.1.2;have l:af (cg k).F.R p=nth k.F.R.K p.toNat:=by unfold af;exact CD o
 rw[l,C]at g;have h:=aJ p 0 ((k.F.R.K.length:Int) - 1);rw[O0 ω]at h;have r:=au (xs:=k.F.R.K) (i:=p.toNat) ω;change ay _ _ _ _ _ [I (oB k)]at a;unfold newK;cases e:refd k<;>rw[e]at d
 ·by_cases j:oB k<0
  ·rw[CD (.inr j)]
   refine fM 56 [(484,[2])] [] [(0,0),(0,0)] Tryz.func373 rfl (λu q=>?_)
   repeat'(first|refine gB ?_|(conv=>whnf);first|with_reducible refine Bf.D (λb=>?_) (λb=>?_)|refine CK (a) ⟨⟨rfl,aX.enc_fz _⟩,trivial⟩ ?_|refine CL (d) (.inl rfl) ?_|refine C9 (h) ?_|refine CK (g) ⟨CR (cg k),⟨rfl,rfl⟩,trivial⟩ ?_)
   refine CH rfl ?_ ?_
   ·rfl
   exact wC
  rw[CB (by simp[j])];obtain⟨n,t⟩:=Gx j;obtain⟨f,J⟩:=O3 (show 0<=oB k by omega);rw[J]at a n t j |-;simp only[I3]at n t |-;have w:=au (xs:=k.F.W.a5) (i:=f) n;rw[x9];refine fM 56 [(484,[2])] [] [(0,0),(0,0)] Tryz.func373 rfl (λu q=>?_)
  repeat'(first|refine gB ?_|(conv=>whnf);first|with_reducible refine Bf.D (λb=>?_) (λb=>?_)|refine CK (a) ⟨⟨rfl,aX.enc_fz _⟩,trivial⟩ ?_|refine CL (d) (.inl rfl) ?_|refine C9 (h) ?_|refine CK (g) ⟨CR (cg k),⟨rfl,rfl⟩,trivial⟩ ?_|refine CE (aa w) ?_|refine CO o.1 (aa r) ?_|refine CQ rfl rfl (aa w) rfl (O1 rfl) rfl ?_|refine CQ rfl rfl (aa r) rfl (O1 rfl) rfl ?_)
  refine CH rfl ?_ ?_
  ·rfl
  exact wC
 rw[CD (.inl rfl)];refine fM 56 [(484,[2])] [] [(0,0),(0,0)] Tryz.func373 rfl (λu q=>?_)
 repeat'(first|refine gB ?_|(conv=>whnf);first|with_reducible refine Bf.D (λb=>?_) (λb=>?_)|refine CK (a) ⟨⟨rfl,aX.enc_fz _⟩,trivial⟩ ?_|refine CL (d) (.inl rfl) ?_|refine C9 (h) ?_|refine CK (g) ⟨CR (cg k),⟨rfl,rfl⟩,trivial⟩ ?_)
 refine CH rfl ?_ ?_
 ·rfl
 exact wC
def TJ(h:ac):List C:=(bE h).drop 5
def FS(h:ac)(p:Int)(a:aF h.G=true)(b:h.G.Calls≠100000)(c:0<=p/\p<h.G.F.R.K.length)(d:(nth h.G.F.R.K p.toNat).e=0):zzB 373 false [.ptr (bE h),.val none [I p]] [.ptr (bE {h with G:=(newK h.G p).1}),.val none [I p]] .one [B (newK h.G p).2]:=
 (FZ h.G p a b c d).frame (r:=TJ h) rfl
def Mi(h:ac)(i:Nat):bE (slotT h i)=((bE h).set 14 (I (zB h.b5))).set 6 (.s .own ((h.J.map (aA.enc .own)).set i [I (nth h.J i).Q,I (nth h.J i).d,I (gp (nth h.J i).a9 (mS h i))])):=by
 simp[bE,slotT,qy,Z6,aA.enc]
def tz(h:ac)(E:List Int)(i:Nat)(c:bc h E)(k:i<h.J.length):zzB 368 false [.ptr (bE h),.val none [I (i:Nat)]] [.ptr (bE (iS h i).1),.val none [I (i:Nat)]] .one [I (iS h i).2]:=by
 have F:=c.lens;have G:=F.spans;have d:=au k;have b:=c.L.sok _ (ar k);have e:=dO b;have a:=c.nums;unfold cn at a;rw[C0]at a;have t:=(br.1 (aG.1 c.ker).2.2.1).2.2;have l:=lH c.L.sok (ps:=aT h (nth h.J i).Q) e (aT h (nth h.J i).Q).length;change 0<=dK h i/\dK h i<=65535 at l;have w:=nH (nth h.J i).d;have y:=Ad h i ⟨ω,λ_ _=>trivial⟩ ⟨by show h.G.F.R.K.length<=_;omega,λ_ _=>trivial⟩ c.L.sok k;have o:=ye (nth h.J i).d (dK h i) ω;change ay _ _ _ _ _ (aH .own (gM h i)) at o;have p:=yj (nth h.J i).d (dK h i);change (gM h i).length<=16 at p;unfold iS;by_cases B:(gM h i).length=0
 ·rw[CD B]
  refine fM 68 [] [(2,7,[16,17,18,19,20,21,22]),(7,12,[42,43,44,45,46,47,48,49,50,51,52,53]),(8,11,[56,57,58,59,60,61,62,63,64,65,66])] [(0,0),(0,0)] Tryz.func368 rfl (λu q=>?_)
  repeat'(first|refine gB ?_|(conv=>whnf);first|refine CE (aa d) ?_|refine CG rfl (aa d) rfl ?_|refine C9 (w) ?_|refine CK (y) ⟨⟨rfl,bK h⟩,⟨rfl,rfl⟩,trivial⟩ ?_|refine C9 (o) ?_|refine CC ?_)
  refine CH rfl rfl ?_;exact wC
 rw[CB B];have H:=uh (h:=h) (i:=i) ω;obtain⟨C,D,O⟩:=r8 H;have J:=(gm (aI b).2.2).2.2.1;have r:=rV h.b5 (n:=((gM h i).length:Nat)) ω;have K:=vI h.b5 ((gM h i).length:Nat) ω ω;have M:=zj (nth h.J i).a9 (mS h i) e ω;have N:=zy (qy (nth h.J i) (mS h i)) (mS h i) (Dh b ⟨C,D⟩) ⟨C,D⟩;have g:(gM h i)[(Ki h.b5 ((gM h i).length:Nat)).toNat]? = some (mS h i):=au ω;have j:((h.J.map (aA.enc .own)).set i [I (nth h.J i).Q,I (nth h.J i).d,I (gp (nth h.J i).a9 (mS h i))])[i]? = some [I (nth h.J i).Q,I (nth h.J i).d,I (gp (nth h.J i).a9 (mS h i))]:=kP k;unfold oX;rw[Mi];refine fM 68 [] [(2,7,[16,17,18,19,20,21,22]),(7,12,[42,43,44,45,46,47,48,49,50,51,52,53]),(8,11,[56,57,58,59,60,61,62,63,64,65,66])] [(0,0),(0,0)] Tryz.func368 rfl (λu q=>?_)
 repeat'(first|refine gB ?_|(conv=>whnf);first|refine CE (aa d) ?_|refine CE j ?_|refine CG rfl (aa g) rfl ?_|refine CG rfl (aa d) rfl ?_|refine CG rfl j rfl ?_|refine C9 (w) ?_|refine CK (y) ⟨⟨rfl,bK h⟩,⟨rfl,rfl⟩,trivial⟩ ?_|refine C9 (o) ?_|refine C9 (K) ?_|refine C9 (M) ?_|refine C9 (N) ?_|refine CO r.1 (aa g) ?_|refine CC ?_|refine CQ rfl rfl (aa d) rfl (O1 rfl) rfl ?_)
 refine CH rfl ?_ ?_
 ·rfl
 exact wC
def Ap.ins{e:α->List C}{xs:List α}{y:α}{r:List C}{sz by_:Nat}{K:List (List C)->Prop}(a:r=e y)(b:∀y,(e y).length=sz)(c:∀y,bj (e y)=true)(h:xs.length<=1048576)(d:by_<=1000)(f:K ((xs.take i++y::xs.drop i).map e)):Ap true ((xs.take i).map e++[r]) ((xs.drop i).map e) sz by_ K:=by
 subst a;have g:(xs.take i).length+1+(xs.drop i).length<=3145728:=by rw[C2,Z3];omega
 refine CV (λr a=>?_) (aV b) (λ_ r a=>by obtain⟨y,-,rfl⟩:=Y4.1 a;exact c y) (by simp only[Y3,I1,List.length_singleton];omega) (by simp only[Y3,I1,List.length_singleton];exact I5 (Nat.mul_le_mul g d) (by decide)) ?_ f
 ·rcases V3.1 a with a|a
  ·exact aV b r a
  rw[V1.1 a];exact b y
 rw[V6,X6,O6];rfl
def kK{p:α->Bool}{xs:List α}{y:α}(h:hC p xs=i):im p xs y=xs.take i++y::xs.drop i:=by unfold im;rw[h]
def KB(h:ac)(c:Int):ac × Int:=
 if(ax h.o 1).2.2=false then(h,-1)
 else if(newK h.G (ax h.o 1).2.1).2=false then({h with G:=(newK h.G (ax h.o 1).2.1).1},-1)
 else(lP h c,(lR h:Nat))
def Eu(h:ac)(E:List Int)(c:Nat)(g:bc h E)(J:h.G.Calls<=90000):zzB 369 false [.ptr (bE h),.val none [I (c:Nat)]] [.ptr (bE (KB h c).1),.val none [I (c:Nat)]] .one [I (KB h c).2]:=by
 have B:=g.lens;have K:=B.spans;have L:fk h<=32:=B.ents;have C:=ik h;have l:=pE (fk h:Nat) h.o 1 ⟨ω,ω⟩ g.rng (by decide) (by have:=B.free;omega);unfold TC at l;have d:=iu g (V5 1);unfold KB lP lR;generalize ax h.o 1=r at l d |-;obtain⟨o,p,ok⟩:=r;simp only at l d |-;cases ok with
 | false=>
  rw[CD rfl];refine fM 79 [(373,[2,0]),(2000010,[0,6])] [(1,267,[11,12,13,14,15,16,17,10,18,19,20,0,1,2,3,4,5,6,7,8,9,10,11,1009,1010,12,1010,13])] [(0,0),(0,0)] Tryz.func369 rfl (λu q=>?_)
  repeat'(first|refine gP ?_|(conv=>whnf);first|refine CC ?_|refine CK (C) ⟨bK h,trivial⟩ ?_|refine CK (l) ⟨⟨rfl,rfl⟩,⟨rfl,dX h.o⟩,⟨rfl,rfl⟩,trivial⟩ ?_|refine CC ?_)
  refine CH rfl rfl ?_;exact wC
 | true=>
  rw[CB (by simp)];obtain⟨M,N,O,V⟩:=d rfl;have F:0<=p/\p<h.G.F.R.K.length:=⟨M,by have:p+1<=((tbl h).K.length:Nat):=N;unfold tbl at this;omega⟩
  have t:=FS h p g.ker ω F (O p.toNat ω ω);generalize newK h.G p=w at t |-;obtain⟨k,b⟩:=w;simp only at t |-;cases b with
  | false=>
   rw[CD rfl];refine fM 79 [(373,[2,0]),(2000010,[0,6])] [(1,267,[11,12,13,14,15,16,17,10,18,19,20,0,1,2,3,4,5,6,7,8,9,10,11,1009,1010,12,1010,13])] [(0,0),(0,0)] Tryz.func369 rfl (λu q=>?_)
   repeat'(first|refine gP ?_|(conv=>whnf);first|refine CC ?_|refine CK (C) ⟨bK h,trivial⟩ ?_|refine CK (l) ⟨⟨rfl,rfl⟩,⟨rfl,dX h.o⟩,⟨rfl,rfl⟩,trivial⟩ ?_|refine CL (t) (.inl rfl) ?_|refine CC ?_)
   refine CH rfl rfl ?_;exact wC
  | true=>
   rw[CB (by simp)];refine fM 79 [(373,[2,0]),(2000010,[0,6])] [(1,267,[11,12,13,14,15,16,17,10,18,19,20,0,1,2,3,4,5,6,7,8,9,10,11,1009,1010,12,1010,13])] [(0,0),(0,0)] Tryz.func369 rfl (λu q=>?_)
   repeat'(first|refine gP ?_|(conv=>whnf);first|refine CC ?_|refine CK (C) ⟨bK h,trivial⟩ ?_|refine CK (l) ⟨⟨rfl,rfl⟩,⟨rfl,dX h.o⟩,⟨rfl,rfl⟩,trivial⟩ ?_|refine CL (t) (.inl rfl) ?_|refine CC ?_)
   (conv=>whnf)
   refine CJ (ι:=Nat) (λi=>[(0,.H .box (bE {h with G:=k,o:=o})),(1,.H .one [I ((c:Nat):Int)]),(6,.H .one [I (p)]),(8,.H .one [I ((i:Nat):Int)])]) (λi=>i<=h.J.length/\∀(j:Nat)(z:aA),j<i->h.J[j]? = some z->DJ p z=false) (λi=>h.J.length - i) (0) ?_ (⟨X0 _,λj z W=>ω⟩) λi g=>?_
   ·exact wC
   obtain⟨P,G⟩:=g;have Q:({h with G:=k,o:=o} : ac).J.length=h.J.length:=rfl;by_cases R:i<h.J.length/\(nth h.J i).Q<p
   ·have n:=au R.1
    repeat'(first|refine gE ?_|(conv=>whnf);first|with_reducible refine CE (aa n) ?_|refine CC ?_|refine CG rfl (aa n) rfl ?_)
    ((conv=>whnf);refine CF (i+1) ⟨ω,dY n (W0 ω) G⟩ ω ?_;(exact wC))
   have a:hC (DJ p) h.J=i:=mg ω G λz H=>by
    have S:=(Z2.1 H).1;have:z=nth h.J i:=(bk H).symm;subst this;exact O0 ω
   have n:i<h.J.length->h.J[i]? = some (nth h.J i):=λT=>au T
   rw[show addS h k o p (c:Nat) = {h with G:=k,o:=o,J:=h.J.take i++⟨p,(c:Nat),0⟩::h.J.drop i} by unfold addS;rw[kK a],a]
   repeat'(first|refine gE ?_|(conv=>whnf);first|with_reducible (first|refine CE (aa (n ω)) ?_|refine Bf.D (λU=>?_) (λU=>?_))|refine CC ?_|refine CG rfl (aa (n ω)) rfl ?_|refine GQ.mk rfl (E3 h.J) rfl ?_|refine CY i rfl (by rw[I1];omega) (aV λ_=>rfl) W4 ?_|refine Sl.suf i rfl (by rw[I1];omega) (aV λ_=>rfl) X4 ?_|refine CS (λ_=>rfl) (λ_=>rfl) (by rw[C2];omega) (by decide) ?_|refine Ap.sn (aV λ_=>rfl) rfl (by rw[I1,C2];omega) (by decide) rfl ?_|refine Ap.ins (e:=aA.enc .V) (y:=⟨p,(c:Nat),0⟩) rfl (λ_=>rfl) (λ_=>rfl) ω (by decide) ?_)
   all_goals
    refine CH rfl rfl ?_;exact wC
def uY(a:i<h.J.length)(b:nY h c i=true)(d:∀j,j<i->nY h c j=false):ox h c=some i:=
 List.find?_range_eq_some.2 ⟨b,List.mem_range.2 a,λj e=>by rw[d j e];rfl⟩
def ve(a:∀j,j<h.J.length->nY h c j=false):ox h c=none:=
 List.find?_range_eq_none.2 λj b=>by rw[a j b];rfl
def kW(a:nY h c i=false)(b:∀j,j<i->nY h c j=false):∀j,j<i+1->nY h c j=false:=λj d=>by
 by_cases e:j=i
 ·rw[e];exact a
 exact b j ω
def Lb(h:ac)(t:Nat)(c:aE):bE {h with S:=h.S.set t c} = (bE h).set 9 (.s .own ((h.S.map (aE.enc .own)).set t (aE.enc .own c))):=by
 simp[bE,Z6]
def Gu{c:Nat}(b:bc h [])(l:c<=3)(e:h.G.Calls<=90000)(h1:¬(ax h.o 1).2.2=false)(f:¬(newK h.G (ax h.o 1).2.1).2=false):bc (lP h c) []/\lR h<(lP h c).J.length:=by
 have a:(ax h.o 1).2.2=true:=by simpa using h1
 obtain⟨g,i,j,n⟩:=iu b (V5 1) a;have s:=wb.of (p:=(ax h.o 1).2.1) b.ker ω ⟨g,by have:(ax h.o 1).2.1+1<=(h.G.F.R.K.length:Nat):=i;omega⟩ (j _ ω ω);have d:(newK h.G (ax h.o 1).2.1).2=true:=by simpa using f
 have k:wb h.G (ax h.o 1).2.1 ((newK h.G (ax h.o 1).2.1).1,true):=by rw[<-d];exact s
 exact⟨b.addS (c:=c) ⟨ω,ω⟩ a k,(DO (DJ (ax h.o 1).2.1) h.J ⟨(ax h.o 1).2.1,c,0⟩).1⟩
def Ac(h:ac)(t c:Nat)(o:bc h [])(M:t<h.S.length)(N:c<=3)(p:h.G.Calls<=90000):zzB 221 false [.ptr (bE h),.val none [I (t:Nat)],.val none [I (c:Nat)]] [.ptr (bE (smallA h t c).1),.val none [I (t:Nat)],.val none [I (c:Nat)]] .one [I (smallA h t c).2]:=by
 have E:=o.cach _ (ar M);have e:=au M;have r:=ya (nth h.S t) c E N;have Q:=o.lens.spans;have B:=o;unfold Uc at r;by_cases F:0<(nth (nth h.S t).a c).length
 ·unfold smallA
  rw[CD F]at r |-;simp only;rw[Lb];refine fM 80 [(368,[2,0]),(369,[2,0])] [(3,6,[27,28,29,30,31,32])] [(0,0),(0,0),(0,0)] Tryz.func221 rfl (λu q=>?_)
  repeat'(first|refine gP ?_|(conv=>whnf);first|with_reducible refine CE (aa e) ?_|refine CG rfl (aa e) rfl ?_|refine CK (r) ⟨⟨rfl,Ce _⟩,⟨rfl,rfl⟩,trivial⟩ ?_|refine CC ?_|refine CQ rfl rfl (aa e) rfl (O1 rfl) rfl ?_)
  refine CH rfl rfl ?_;exact wC
 rw[CB F]at r;have d:smallA h t c=match ox h c with
  | some i=>(slotT h i,oX h i)
  | none=>if(ax h.o 1).2.2=false then(h,-1)
   else if(newK h.G (ax h.o 1).2.1).2=false then({h with G:=(newK h.G (ax h.o 1).2.1).1},-1)
   else iS (lP h c) (lR h):=by unfold smallA;exact CB F
 refine fM 80 [(368,[2,0]),(369,[2,0])] [(3,6,[27,28,29,30,31,32])] [(0,0),(0,0),(0,0)] Tryz.func221 rfl (λu q=>?_)
 repeat'(first|refine gP ?_|(conv=>whnf);first|with_reducible refine CE (aa e) ?_|refine CG rfl (aa e) rfl ?_|refine CK (r) ⟨⟨rfl,Ce _⟩,⟨rfl,rfl⟩,trivial⟩ ?_|refine CC ?_)
 (conv=>whnf)
 refine CJ (ι:=Nat) (λi=>[(0,.H .box (bE h)),(1,.H .one [I ((t:Nat):Int)]),(2,.H .one [I ((c:Nat):Int)]),(10,.H .one [I ((i:Nat):Int)])]) (λi=>i<=h.J.length/\∀j,j<i->nY h c j=false) (λi=>h.J.length - i) (0) ?_ (⟨X0 _,λj W=>ω⟩) λi o=>?_
 ·exact wC
 obtain⟨R,w⟩:=o;by_cases C:i<h.J.length
 ·have l:=au C
  by_cases O:(nth h.J i).d=c
  ·have y:=vK h (nth h.J i).Q
   cases D:fD h (nth h.J i).Q with
   | true=>
    rw[D]at y
    repeat'(first|refine gB ?_|(conv=>whnf);first|with_reducible refine CE (aa l) ?_|refine CG rfl (aa l) rfl ?_|refine CK (y) ⟨bK h,⟨rfl,rfl⟩,trivial⟩ ?_)
    ((conv=>whnf);refine CF (i+1) ⟨ω,kW (by unfold nY;rw[D];simp) w⟩ ω ?_;(exact wC))
   | false=>
    rw[D]at y;have n:=tz h [] i B C;unfold iS at n;by_cases P:(gM h i).length=0
    ·rw[CD P]at n
     repeat'(first|refine gB ?_|(conv=>whnf);first|with_reducible refine CE (aa l) ?_|refine CG rfl (aa l) rfl ?_|refine CK (y) ⟨bK h,⟨rfl,rfl⟩,trivial⟩ ?_|refine CL (n) (.inl rfl) ?_)
     ((conv=>whnf);refine CF (i+1) ⟨ω,kW (by unfold nY;rw[W0 (by omega:¬0<(gM h i).length)];simp) w⟩ ω ?_;(exact wC))
    rw[CB P]at n;have G:ox h c=some i:=uY C (by unfold nY;rw[O0 O,D,O0 ω];rfl) w;rw[G]at d;simp only at d;obtain⟨S,T⟩:=B.slotT C (by omega:0<(gM h i).length);have H:=jo.nn S T;rw[d];generalize slotT h i=g at n |-;generalize oX h i=a at n H |-
    repeat'(first|refine gB ?_|(conv=>whnf);first|with_reducible refine CE (aa l) ?_|refine CG rfl (aa l) rfl ?_|refine CK (y) ⟨bK h,⟨rfl,rfl⟩,trivial⟩ ?_|refine CL (n) (.inl rfl) ?_)
    refine CH rfl rfl ?_;exact wC
  repeat'(first|refine gB ?_|(conv=>whnf);first|with_reducible refine CE (aa l) ?_|refine CG rfl (aa l) rfl ?_)
  ((conv=>whnf);refine CF (i+1) ⟨ω,kW (by unfold nY;rw[W0 O];rfl) w⟩ ω ?_;(exact wC))
 obtain rfl:i=h.J.length:=ω
 have G:ox h c=none:=ve w;rw[G]at d;simp only at d;have k:=Eu h [] c B p;rw[d];unfold KB at k;by_cases J:(ax h.o 1).2.2=false
 ·rw[CD J]at k |-
  repeat'(first|refine gE ?_|(conv=>whnf);first|refine CL (k) (.inl rfl) ?_)
  refine CH rfl rfl ?_;exact wC
 rw[CB J]at k |-;by_cases K:(newK h.G (ax h.o 1).2.1).2=false
 ·rw[CD K]at k |-
  repeat'(first|refine gE ?_|(conv=>whnf);first|refine CL (k) (.inl rfl) ?_)
  refine CH rfl rfl ?_;exact wC
 rw[CB K]at k |-;obtain⟨U,V⟩:=Gu B N p J K;have L:=tz (lP h c) [] (lR h) U V;generalize lP h c=g at k L |-;generalize lR h=b at k L |-
 repeat'(first|refine gE ?_|(conv=>whnf);first|refine CL (k) (.inl rfl) ?_|refine CL (L) (.inl rfl) ?_)
 refine CH rfl rfl ?_;exact wC
def z6(h:ac)(size:Int):ac × Int:=
 if(ax h.o (gd size:Nat)).2.2=false then(h,-1)
 else if(dH h size).2=gd size then({h with G:=(dH h size).1,o:=(ax h.o (gd size:Nat)).1,M:=im (PW (ax h.o (gd size:Nat)).2.1) h.M ⟨(ax h.o (gd size:Nat)).2.1,(gd size:Nat),size⟩},16*(ax h.o (gd size:Nat)).2.1)
 else({h with G:=unmN (dH h size).1 (ax h.o (gd size:Nat)).2.1 (dH h size).2},-1)
def yX(k:ah)(p:Int)(i:Nat):newsK k p (i+1)=if(newsK k p i).2=i then((newK (newsK k p i).1 (p+(i:Nat))).1,if(newK (newsK k p i).1 (p+(i:Nat))).2=true then i+1 else i) else newsK k p i:=rfl
def Gh(k:ah)(p:Int):∀i,(newsK k p i).2<=i
 | 0=>W3 _
 | i+1=>by
  have b:=Gh k p i;rw[yX];by_cases e:(newsK k p i).2=i
  ·rw[CD e]
   show(if _ then i+1 else i)<=i+1;by_cases a:(newK (newsK k p i).1 (p+(i:Nat))).2=true
   ·rw[CD a];exact W3 _
   rw[CB a];exact Nat.le_succ _
  rw[CB e];omega
def jD{k:ah}{p:Int}{i:Nat}(h:(newsK k p i).2≠i):∀j,newsK k p (i+j)=newsK k p i/\(newsK k p (i+j)).2<i+j
 | 0=>⟨rfl,by show(newsK k p i).2<i;have:=Gh k p i;omega⟩
 | j+1=>by
  have a:=jD h j;have e:newsK k p (i+(j+1))=newsK k p (i+j):=by
   show newsK k p (i+j+1)=_;rw[yX,CB ω]
  exact⟨e.trans a.1,by rw[e];omega⟩
def zP(h:ac)(size:Int)(l:bc h [])(C:9<=size/\size<=1000)(V:h.G.Calls<=90000):zzB 222 false [.ptr (bE h),.val none [I size]] [.ptr (bE (z6 h size).1),.val none [I size]] .one [I (z6 h size).2]:=by
 have E:=l.lens;have W:=E.larges;have Q:=l;have F:fk h<=32:=E.ents;have G:eX size=((gd size:Nat):Int):=by unfold eX gd;split<;>omega
 have hN:1<=gd size/\gd size<=63:=by unfold gd;omega
 have H:=my size;rw[G]at H;have R:=ik h;have t:=pE (fk h:Nat) h.o (gd size:Nat) ⟨ω,ω⟩ l.rng ⟨ω,ω⟩ (by have:=E.free;omega);unfold TC at t;have b:=iu l (show(1:Int)<=(gd size:Nat) by omega);unfold z6 dH;generalize gd size=N at *;generalize ax h.o (N:Nat)=r at t b |-;obtain⟨J,p,ok⟩:=r;simp only at t b |-;refine fM 105 [(373,[2,0]),(374,[2,0]),(2000018,[0,7])] [(2,268,[16,17,18,19,20,21,22,23,15,24,25,26,0,1,2,3,4,5,6,7,8,9,10,11,12,1010,1011,13,1011,14])] [(0,0),(0,0)] Tryz.func222 rfl (λu q=>?_);cases ok with
 | false=>
  rw[CD rfl]
  repeat'(first|refine gP ?_|(conv=>whnf);first|refine CC ?_|refine C9 (H) ?_|refine CK (R) ⟨bK h,trivial⟩ ?_|refine CK (t) ⟨⟨rfl,rfl⟩,⟨rfl,dX h.o⟩,⟨rfl,rfl⟩,trivial⟩ ?_|refine CC ?_)
  refine CH rfl rfl ?_;exact wC
 | true=>
  rw[CB (by simp)];obtain⟨S,K,B,u4⟩:=b rfl;change p+(N:Nat)<=(h.G.F.R.K.length:Nat) at K;change ∀q:Nat,p<=q->(q:Int)<p+(N:Nat)->(nth h.G.F.R.K q).e=0 at B
  have X:h.G.F.R.K.length<=32:=F
  repeat'(first|refine gP ?_|(conv=>whnf);first|refine CC ?_|refine C9 (H) ?_|refine CK (R) ⟨bK h,trivial⟩ ?_|refine CK (t) ⟨⟨rfl,rfl⟩,⟨rfl,dX h.o⟩,⟨rfl,rfl⟩,trivial⟩ ?_|refine CC ?_)
  (conv=>whnf)
  refine CJ (ι:=Nat) (λi=>[(0,.H .box (bE {h with G:=(newsK h.G p i).1})),(1,.H .one [I (size)]),(5,.H .one [I ((N:Nat):Int)]),(6,.H .one (bv .own J)),(7,.H .one [I (p)]),(9,.H .one [I ((i:Nat):Int)])]) (λi=>i<=N/\(newsK h.G p i).2=i) (λi=>N - i) (0) ?_ (⟨X0 _,rfl⟩) λi l=>?_
  ·exact wC
  obtain⟨L,M⟩:=l;have s:=jm.of (p:=p) (n:=N) Q.ker ω ⟨S,K⟩ B i L;have Y:=s.calls;have Z:=s.len;by_cases li:i<N
  ·have O:(nth (newsK h.G p i).1.F.R.K (p+(i:Nat)).toNat).e=0:=by
    rw[s.out _ (by rw[M];omega)];exact B _ ω ω
   have c:=FS {h with G:=(newsK h.G p i).1} (p+(i:Nat)) s.ker (by show(newsK h.G p i).1.Calls≠100000;omega) ⟨ω,by show p+(i:Nat)<((newsK h.G p i).1.F.R.K.length:Nat);omega⟩ O;have a:newsK h.G p (i+1)=((newK (newsK h.G p i).1 (p+(i:Nat))).1,if(newK (newsK h.G p i).1 (p+(i:Nat))).2=true then i+1 else i):=by
    show(if(newsK h.G p i).2=i then _ else _)=_;rw[CD M]
   simp only at c;cases e:(newK (newsK h.G p i).1 (p+(i:Nat))).2 with
   | true=>
    rw[e]at c a;rw[CD rfl]at a;have P:(newK (newsK h.G p i).1 (p+(i:Nat))).1=(newsK h.G p (i+1)).1:=by rw[a]
    rw[P]at c
    repeat'(first|refine gE ?_|(conv=>whnf);first|refine CC ?_|refine CL (c) (.inl rfl) ?_)
    ((conv=>whnf);refine CF (i+1) ⟨ω,by rw[a]⟩ ω ?_;(exact wC))
   | false=>
    rw[e]at c a;rw[CB (by simp)]at a;have d:=jD (k:=h.G) (p:=p) (i:=i+1) (by rw[a];simp only;omega) (N - (i+1));rw[show i+1+(N - (i+1))=N by omega]at d;rw[d.1]at d;have T:=jm.of (p:=p) (n:=N) Q.ker ω ⟨S,K⟩ B (i+1) ω;rw[CB (by have:=jD (k:=h.G) (p:=p) (i:=i+1) (by rw[a];simp only;omega) (N - (i+1));rw[show i+1+(N - (i+1))=N by omega]at this;omega)];rw[show newsK h.G p N=newsK h.G p (i+1) by have:=jD (k:=h.G) (p:=p) (i:=i+1) (by rw[a];simp only;omega) (N - (i+1));rw[show i+1+(N - (i+1))=N by omega]at this;exact this.1];rw[a]at T |-;have g:=T.ker;simp only at g |-;generalize (newK (newsK h.G p i).1 (p+(i:Nat))).1=k at c g |-
    repeat'(first|refine gE ?_|(conv=>whnf);first|refine CC ?_|refine CL (c) (.inl rfl) ?_)
    (conv=>whnf)
    refine CJ (ι:=Nat) (λj=>[(0,.H .box (bE {h with G:=unmN k p j})),(1,.H .one [I (size)]),(5,.H .one [I ((N:Nat):Int)]),(7,.H .one [I (p)]),(9,.H .one [I ((i:Nat):Int)]),(10,.H .one [I ((j:Nat):Int)])]) (λj=>j<=i) (λj=>i - j) (0) ?_ (X0 _) λj hj=>?_
    ·exact wC
    have c4:=ot {h with G:=unmN k p j} (p+(j:Nat)) (gV g p j);by_cases lj:j<i
    ·repeat'(first|refine gE ?_|(conv=>whnf);first|refine CC ?_|refine CL (c4) (.inl rfl) ?_)
     ((conv=>whnf);refine CF (j+1) ω ω ?_;(exact wC))
    obtain rfl:j=i:=ω
    repeat'(first|refine gE ?_|(conv=>whnf);first|refine CC ?_)
    refine CH rfl rfl ?_;exact wC
  obtain rfl:i=N:=ω
  rw[CD M];generalize (newsK h.G p i).1=k
  repeat'(first|refine gE ?_|(conv=>whnf);first|refine CC ?_)
  (conv=>whnf)
  refine CJ (ι:=Nat) (λm=>[(0,.H .box (bE {h with G:=k,o:=J})),(1,.H .one [I (size)]),(5,.H .one [I ((i:Nat):Int)]),(7,.H .one [I (p)]),(11,.H .one [I ((m:Nat):Int)])]) (λm=>m<=h.M.length/\∀(j:Nat)(z:aC),j<m->h.M[j]? = some z->PW p z=false) (λm=>h.M.length - m) (0) ?_ (⟨X0 _,λj z hj=>ω⟩) λm hm=>?_
  ·exact wC
  obtain⟨hm',U⟩:=hm;have hl2:({h with G:=k,o:=J} : ac).M.length=h.M.length:=rfl;by_cases go:m<h.M.length/\(nth h.M m).Q<p
  ·have o:=au go.1
   repeat'(first|refine gE ?_|(conv=>whnf);first|with_reducible refine CE (aa o) ?_|refine CC ?_|refine CG rfl (aa o) rfl ?_)
   ((conv=>whnf);refine CF (m+1) ⟨ω,dY o (W0 ω) U⟩ ω ?_;(exact wC))
  have w:hC (PW p) h.M=m:=mg ω U λz C=>by
   have hlt:=(Z2.1 C).1;have:z=nth h.M m:=(bk C).symm;subst this;exact O0 ω
  have o:m<h.M.length->h.M[m]? = some (nth h.M m):=λhh=>au hh
  rw[kK w]
  repeat'(first|refine gE ?_|(conv=>whnf);first|with_reducible (first|refine CE (aa (o ω)) ?_|refine Bf.D (λhq=>?_) (λhq=>?_))|refine CC ?_|refine CG rfl (aa (o ω)) rfl ?_|refine GQ.mk rfl (Bw h.M) rfl ?_|refine CY m rfl (by rw[I1];omega) (aV λ_=>rfl) W4 ?_|refine Sl.suf m rfl (by rw[I1];omega) (aV λ_=>rfl) X4 ?_|refine CS (λ_=>rfl) (λ_=>rfl) (by rw[C2];omega) (by decide) ?_|refine Ap.sn (aV λ_=>rfl) rfl (by rw[I1,C2];omega) (by decide) rfl ?_|refine Ap.ins (e:=aC.enc .V) (y:=⟨p,(i:Nat),size⟩) rfl (λ_=>rfl) (λ_=>rfl) ω (by decide) ?_)
  all_goals
   refine CH rfl ?_ ?_
   ·exact Z0 (λz=>[I z]) ω
   exact wC
def F4(h:aF k=true)(b:jh k.a0):ah.wf k:=by
 obtain⟨p,f,g,q,t⟩:=aG.1 h;obtain⟨u,w,y,A⟩:=bf.1 f;obtain⟨i,B,C⟩:=br.1 g;refine⟨⟨⟨⟨ω,λr b=>?_⟩,⟨ω,λ_ _=>trivial⟩⟩,⟨ω,λe l=>?_⟩⟩,⟨ω,ω⟩,b⟩
 ·obtain⟨j,c,rfl⟩:=aO b
  obtain⟨D,n⟩:=ul h c;exact⟨ω,λv o=>by have:=n v o;exact⟨ω,ω⟩⟩
 obtain⟨j,c,rfl⟩:=aO l;have a:=i j c;unfold kH at a;rw[C0]at a;by_cases d:(nth k.F.R.K j).e=0
 ·have:=a.2.2.1 d;exact⟨⟨ω,ω⟩,⟨ω,ω⟩⟩
 have:=a.2.2.2 d;exact⟨⟨ω,ω⟩,⟨ω,ω⟩⟩
def JD{p:cA}(h:eR p=true):cA.wf p:=by
 have a:=λi b=>gn h (i:=i) b
 have e:p.T.length<=16:=mR h;unfold eR at h;simp only[I0,C0]at h;exact⟨⟨ω,ω⟩,⟨ω,ω⟩,⟨ω,λv c=>by
   obtain⟨j,d,rfl⟩:=aO c;have:=a j d;exact⟨ω,ω⟩⟩⟩
def bc.jobWf(a:bc h E):cJ.wf h.Y/\cJ.sml h.Y:=by
 cases b:h.u with
 | true=>
  obtain⟨c,f,g,i,j⟩:=dw.1 (a.job b).1;have k:=mR c;exact⟨⟨JD c,⟨ω,ω⟩,⟨ω,ω⟩⟩,by show h.Y.X.T.length<=1048576;omega⟩
 | false=>
  have:=a.noj b;unfold sR at this;rw[C0]at this;obtain⟨l,n,e,o,p⟩:=this;refine⟨⟨⟨⟨ω,ω⟩,⟨ω,ω⟩,⟨ω,λv d=>?_⟩⟩,⟨ω,ω⟩,⟨ω,ω⟩⟩,by show h.Y.X.T.length<=1048576;omega⟩;rw[I8 e]at d;cases d
def yq{n:Int}(h:0<=aK n):1<=n/\n<=8:=by
 unfold aK at h
 repeat' split at h
 all_goals omega
def jo.wf(b:bc h E)(d:jo h.J a c):np a:=by
 have:=d.bd b;exact⟨ω,ω⟩
def bc.wf(d:bc h E)(M:jh h.G.a0):ac.wf h:=by
 have q:=d.lens;have r:=d.L;have D:=d.nums;unfold cn at D;rw[C0]at D;obtain⟨X,N,Y⟩:=gc.1 d.rng;obtain⟨O,-,-,Z,q5,-⟩:=kn.1 d.quar;have w:=d.mail;have k:=d.hfl;unfold aQ at k;rw[CD w]at k;unfold bR at w;simp only[I0,C0,cy,gU,O4,oq,Qu]at w;obtain⟨⟨⟨m1,m2,m3⟩,P⟩,m5⟩:=w;have A:=q.free;have Q:=q.spans;have h3:=q.larges;have h4:=q.objs;have h5:=q.caches;have h6:=q.quar;have t:∀n:Nat,bC h.w n<=bC h.w (n+1):=λn=>by simp only[bC];omega
 have g:∀a b:Nat,a<=b->bC h.w a<=bC h.w b:=λa b u=>by
  induction u with
  | refl=>exact V5 _
  | step _ R=>exact O5 R (t _)
 have B:∀n:Nat,0<=bC h.w n:=λn=>g 0 n (X0 _)
 have o:∀i,i<h.w.U.length->(nth h.w.U i).length<=30/\(nth h.w.y i).length<=30:=λi f=>by
  have F:=g (i+1) h.w.U.length ω;have S:=B i;simp only[bC]at F;omega
 refine⟨F4 d.ker M,⟨ω,λx e=>?_⟩,⟨ω,λx e=>?_⟩,⟨ω,λx e=>?_⟩,⟨ω,λx e=>?_⟩,⟨ω,λx e=>?_⟩,⟨⟨ω,λl c=>?_⟩,⟨ω,λl c=>?_⟩⟩,⟨⟨ω,ω⟩,⟨ω,λx e=>?_⟩⟩,⟨ω,ω⟩,⟨ω,ω⟩,⟨ω,ω⟩,⟨ω,ω⟩,trivial,d.jobWf.1⟩
 ·have:=N x e;exact⟨⟨ω,ω⟩,⟨ω,ω⟩⟩
 ·have y:=r.sok x e
  have G:=dO y;have T:=aI y;exact⟨⟨ω,ω⟩,⟨ω,ω⟩,⟨ω,ω⟩⟩
 ·have H:=aS (r.lok x e)
  have J:=cF (r.lok x e);exact⟨⟨ω,ω⟩,⟨ω,ω⟩,⟨ω,ω⟩⟩
 ·obtain⟨o1,o2,o3,o4⟩:=d.onu x e
  have u:0<=x.Addr/\x.Addr<512/\-1000<=x.q/\x.q<=1000:=by
   rcases d.oow x e with⟨s,y,A,Q⟩|⟨l,c,F,S⟩
   ·have T:=aI (r.sok s y)
    have:=yq (n:=x.q) ω;exact⟨by have:=A.1;omega,by have:=A.2.1;omega,ω,ω⟩
   have H:=aS (r.lok l c);have J:=cF (r.lok l c);omega
  exact⟨⟨ω,ω⟩,⟨ω,ω⟩,⟨ω,ω⟩,⟨ω,ω⟩⟩
 ·obtain⟨c1,U⟩:=q.lists x e
  refine⟨ω,λl c=>⟨by have:=U l c;omega,λa C=>?_⟩⟩;obtain⟨j,V,rfl⟩:=aO c;exact jo.wf d (d.hca x e j V a C)
 ·obtain⟨i,f,rfl⟩:=aO c
  have G:=o i f;refine⟨ω,λp K=>?_⟩;have W:=(P i f).1 p K;exact⟨⟨ω,ω⟩,jo.wf d (k p.Addr (V3.2 (.inl (List.mem_flatMap.2 ⟨_,ar f,Y4.2 ⟨p,K,rfl⟩⟩))))⟩
 ·obtain⟨i,f,rfl⟩:=aO c
  have G:=o i ω;exact⟨ω,λa C=>jo.wf d (k a (V3.2 (.inr (List.mem_flatten.2 ⟨_,ar f,C⟩))))⟩
 have H:=O x e;have J:=d.snc x e;exact⟨jo.wf d (d.hqu x e),⟨ω,ω⟩,⟨ω,ω⟩⟩
structure UI(h:ac):Prop where
 ker:aF h.G=true
 wf:ac.wf h
 sml:ac.sml h
 lens:rC h
def bc.fit(a:bc h E)(b:jh h.G.a0)(c:aM.sml h.w):UI h:=⟨a.ker,a.wf b,a.lens.sml a.ker c a.jobWf.2,a.lens⟩
def x6(b:bc h [])(c:h.u=true):aF (mStep h).G=true/\(mStep h).G.Calls<=h.G.Calls+1/\(mStep h).G.a0=h.G.a0/\(mStep h).w=h.w/\(Gj h=true->(mStep h).u=false)/\cJ.wf (mStep h).Y/\cJ.sml (mStep h).Y:=by
 have s:=JS.of b c;refine⟨s.ker,s.calls.2.1,s.calls.2.2,rfl,λa=>?_,?_⟩
 ·unfold Gj at a
  rw[C0]at a;show(if over _=true then false else h.u)=false;rw[CD (show over (gY h.G h.Y).2=true from O0 (.inl a))]
 show cJ.wf (if over _=true then _ else _)/\cJ.sml (if over _=true then _ else _);split
 ·exact⟨⟨⟨⟨by decide,by decide⟩,⟨by decide,by decide⟩,⟨by decide,λv f=>by cases f⟩⟩,⟨by decide,by decide⟩,⟨by decide,by decide⟩⟩,by show(0:Nat)<=1048576;omega⟩
 have d:=(dw.1 (b.job c).1).1;have g:=mR d;obtain⟨j,k⟩:=s.ph;obtain⟨l,i⟩:=s.nxt;have e:=s.plan;refine⟨⟨by rw[e];exact JD d,⟨ω,ω⟩,⟨ω,by rw[e]at i;omega⟩⟩,by show((gY h.G h.Y).2.X.T).length<=1048576;rw[e];omega⟩
def zI(h:ac):Nat->ac × Bool
 | 0=>(h,false)
 | i+1=>if(zI h i).1.u=true then(mStep (zI h i).1,Gj (zI h i).1) else zI h i
def fin(h:ac):ac × Bool:=zI h 100
def vf(hi:bc h []):bc (started h).1 []/\(started h).1.G=h.G/\(started h).1.w=h.w:=by
 have r:=hi.nums;unfold cn at r;rw[C0]at r;have t:=(mO (bI h).length (show 0<=h.b5/\h.b5<=1073741823 by omega) ((bI h).length - 1)).2;have g:=nO (bI h) (show 0<=h.b5/\h.b5<=1073741823 by omega);have c:cn {h with b5:=(shuf (bI h).length h.b5).2} = true:=by
  unfold cn;rw[C0];unfold shuf;simp only;omega
 cases j:mi (bI h) h.b5 with
 | nil=>
  have f:Ab.started h=({h with b5:=(shuf (bI h).length h.b5).2},false):=by unfold Ab.started;rw[j]
  rw[f];exact⟨{hi with nums:=c},rfl,rfl⟩
 | cons q y=>
  obtain⟨C,D,k⟩:=g q (by rw[j];exact I2 ..);have f:Ab.started h=({h with b5:=(shuf (bI h).length h.b5).2,u:=true,Y:=uB (dn (nth (bI h) q.A.toNat) (nth (bI h) q.B.toNat))},true):=by unfold Ab.started;rw[j]
  rw[f];have d:∀s∈bI h,s∈h.J:=λs u=>mX h (W3 _) s (List.mem_of_mem_take u)
  have l:=d _ (ar (xs:=bI h) (i:=q.A.toNat) ω);have n:=d _ (ar (xs:=bI h) (i:=q.B.toNat) ω);generalize nth (bI h) q.A.toNat=a at k l |-;generalize nth (bI h) q.B.toNat=b at k n |-;obtain⟨w,E,F⟩:=uF k;have o:jR (uB (dn a b))=true:=dw.2 ⟨w,by show(0:Int)<=0;omega,by show(0:Int)<=5;omega,by show(0:Int)<=0;omega,by show(0:Int)<=(((dn a b).T.length:Nat):Int);omega⟩;have p:(∃s∈h.J,s.Q=(dn a b).a3)/\∃s∈h.J,s.Q=(dn a b).a1:=by
   unfold dn;split
   ·exact⟨⟨b,n,rfl⟩,⟨a,l,rfl⟩⟩
   exact⟨⟨a,l,rfl⟩,⟨b,n,rfl⟩⟩
  exact⟨{hi with nums:=c,job:=λ_=>⟨o,p⟩,noj:=λe=>by cases e},rfl,rfl⟩
def bc.objSz(a:bc h E):∀o∈h.O,0<=o.q/\o.q<=1000:=λx c=>by
 rcases a.oow x c with⟨s,d,e,f⟩|⟨l,b,g,i⟩
 ·have j:=aI (a.L.sok s d)
  have:=yq (n:=x.q) ω;omega
 have k:=cF (a.L.lok l b);omega
def Bb(t:Int)(c:bc h [])(d:9<=size/\size<=1000):largeA h t size=if(z6 h size).2<0 then((z6 h size).1,-1,4) else(addO (z6 h size).1 (z6 h size).2 size t,(z6 h size).2,0):=by
 unfold largeA z6;by_cases a:(ax h.o (gd size:Nat)).2.2=false
 ·rw[CD a,CD a]
  exact(CD (show(-1:Int)<0 by decide)).symm
 rw[CB a,CB a];obtain⟨e,-⟩:=iu c (show(1:Int)<=(gd size:Nat) by unfold gd;omega) (by simpa using a);by_cases b:(dH h size).2=gd size
 ·rw[CD b,CD b]
  exact(CB (show ¬16*(ax h.o (gd size:Nat)).2.1<0 by omega)).symm
 rw[CB b,CB b];exact(CD (show(-1:Int)<0 by decide)).symm
def qC(h:ac)(t size:Int)(k:bc h []):zzB 74 false [.ptr (bE h),.val none [I t],.val none [I size]] [.ptr (bE (allocH h t size).1),.val none [I t],.val none [I size]] (.tup [none,none]) [I (allocH h t size).2.1,I (allocH h t size).2.2]:=by
 have X:=k.lens;have hlc:=X.caches;have P:=X.objs;have p:=k.nums;unfold cn at p;rw[C0]at p;have Q:=kZ k.objSz h.O.length (W3 _);change 0<=fy h/\fy h<=_ at Q;have n:=aJ t 0 ((h.S.length:Int) - 1);have r:=aJ size 1 1000;have E:=wY h k.objSz ω;have F:=kM size;refine fM 119 [(221,[2,0,0]),(222,[2,0])] [(7,10,[36,37,38,39,40,41,42,43,44,45]),(18,272,[81,82,83,84,85,86,87,89,90,91,92,93,94,95,96,97,0,1,2,3,4,5,6,8,9,10,11,12,13,14,15,16,1016,7,1008,1009,1010,1011,1012,1013,1014,1015,1016,17,18]),(1048594,0,[8])] [(0,0),(0,0),(0,0)] Tryz.func74 rfl (λu q=>?_) (.inr ⟨trivial,trivial,trivial⟩);unfold allocH;by_cases h1:1000000<=h.b
 ·rw[CD (.inl h1)]
  repeat'(first|refine gE ?_|(conv=>whnf);first|refine CC ?_)
  refine CH rfl rfl ?_;exact wC
 by_cases h2:90000<h.G.Calls
 ·rw[CD (.inr h2)]
  repeat'(first|refine gE ?_|(conv=>whnf);first|with_reducible refine Bf.D (λb=>?_) (λb=>?_)|refine CC ?_)
  refine CH rfl rfl ?_;exact wC
 rw[CB ω];by_cases C:¬(0<=t/\t<=h.S.length - 1)
 ·rw[CD C]
  rw[W0 C]at n
  repeat'(first|refine gE ?_|(conv=>whnf);first|with_reducible refine Bf.D (λb=>?_) (λb=>?_)|refine CC ?_|refine C9 (n) ?_)
  refine CH rfl rfl ?_;exact wC
 rw[CB C];replace C:=Decidable.not_not.1 C;rw[O0 C]at n;by_cases B:¬(1<=size/\size<=1000)
 ·rw[CD B]
  rw[W0 B]at r
  repeat'(first|refine gE ?_|(conv=>whnf);first|with_reducible refine Bf.D (λb=>?_) (λb=>?_)|refine CC ?_|refine C9 (n) ?_|refine C9 (r) ?_)
  refine CH rfl rfl ?_;exact wC
 rw[CB B];replace B:=Decidable.not_not.1 B;rw[O0 B]at r;by_cases Y:h.c0<fy h+size
 ·rw[CD Y]
  repeat'(first|refine gE ?_|(conv=>whnf);first|with_reducible refine Bf.D (λb=>?_) (λb=>?_)|refine CC ?_|refine C9 (n) ?_|refine C9 (r) ?_|refine CK (E) ⟨⟨rfl,bK h⟩,trivial⟩ ?_|refine CC ?_)
  refine CH rfl rfl ?_;exact wC
 rw[CB Y];by_cases G:0<=aK size
 ·rw[CD G]
  have hc3:aK size<=3:=by unfold aK;repeat' split<;>omega
  obtain⟨T,rfl⟩:=O3 C.1;obtain⟨K,hK⟩:=O3 G;have o:=Ac h T K k ω ω ω;have s:=ni (t:=T) (c:=K) k ω ω ω;rw[hK]at F |-;simp only[I3];generalize smallA h T K=w at o s |-;obtain⟨g,a⟩:=w;have H:g.b=h.b:=s.nx;simp only at o |-;by_cases J:a<0
  ·rw[CD J]
   repeat'(first|refine gE ?_|(conv=>whnf);first|with_reducible refine Bf.D (λb=>?_) (λb=>?_)|refine CC ?_|refine C9 (n) ?_|refine C9 (r) ?_|refine CK (E) ⟨⟨rfl,bK h⟩,trivial⟩ ?_|refine CC ?_|refine C9 (F) ?_|refine CL (o) (.inl rfl) ?_)
   refine CH rfl rfl ?_;exact wC
  rw[CB J];obtain⟨k1,k2⟩:=s.yes (show(0:Int)<=a by omega);have R:g.O.length<=512:=k1.lens.objs
  repeat'(first|refine gE ?_|(conv=>whnf);first|with_reducible refine Bf.D (λb=>?_) (λb=>?_)|refine CC ?_|refine C9 (n) ?_|refine C9 (r) ?_|refine CK (E) ⟨⟨rfl,bK h⟩,trivial⟩ ?_|refine CC ?_|refine C9 (F) ?_|refine CL (o) (.inl rfl) ?_)
  (conv=>whnf)
  refine CJ (ι:=Nat) (λi=>[(0,.H .box (bE g)),(1,.H .one [I ((T:Nat):Int)]),(2,.H .one [I (size)]),(8,.H .one [I (a)]),(9,.H .one [I ((i:Nat):Int)])]) (λi=>i<=g.O.length/\∀(j:Nat)(z:bo),j<i->g.O[j]? = some z->Ku a z=false) (λi=>g.O.length - i) (0) ?_ (⟨X0 _,λj z hj=>ω⟩) λi k=>?_
  ·exact wC
  obtain⟨S,L⟩:=k;by_cases U:i<g.O.length/\(nth g.O i).Addr<a
  ·have d:=au U.1
   repeat'(first|refine gE ?_|(conv=>whnf);first|with_reducible refine CE (aa d) ?_|refine CC ?_|refine CG rfl (aa d) rfl ?_)
   ((conv=>whnf);refine CF (i+1) ⟨ω,dY d (W0 ω) L⟩ ω ?_;(exact wC))
  have l:hC (Ku a) g.O=i:=mg ω L λz M=>by
   have V:=(Z2.1 M).1;have:z=nth g.O i:=(bk M).symm;subst this;exact O0 ω
  have d:i<g.O.length->g.O[i]? = some (nth g.O i):=λW=>au W
  rw[show addO g a size (T:Nat) = {g with O:=g.O.take i++⟨g.b,a,size,(T:Nat)⟩::g.O.drop i,b:=g.b+1} by unfold addO;rw[kK l]]
  repeat'(first|refine gE ?_|(conv=>whnf);first|with_reducible (first|refine CE (aa (d ω)) ?_|refine Bf.D (λb=>?_) (λb=>?_))|refine CC ?_|refine CG rfl (aa (d ω)) rfl ?_|refine GQ.mk rfl (Dk g.O) rfl ?_|refine CY i rfl (by rw[I1];omega) (aV λ_=>rfl) W4 ?_|refine Sl.suf i rfl (by rw[I1];omega) (aV λ_=>rfl) X4 ?_|refine CS (λ_=>rfl) (λ_=>rfl) (by rw[C2];omega) (by decide) ?_|refine Ap.sn (aV λ_=>rfl) rfl (by rw[I1,C2];omega) (by decide) rfl ?_|refine Ap.ins (e:=bo.enc .V) (y:=⟨g.b,a,size,(T:Nat)⟩) rfl (λ_=>rfl) (λ_=>rfl) ω (by decide) ?_|refine CC ?_)
  all_goals
   refine CH rfl rfl ?_;exact wC
 rw[CB G];have N:9<=size:=by unfold aK at G;repeat' split at G<;>omega
 have o:=zP h size k ⟨N,B.2⟩ ω;rw[Bb t k ⟨N,B.2⟩];have Z:(z6 h size).1.b=h.b/\(z6 h size).1.O=h.O:=by
  unfold z6;split
  ·exact⟨rfl,rfl⟩
  split<;>exact⟨rfl,rfl⟩
 generalize z6 h size=w at o Z |-;obtain⟨g,a⟩:=w;obtain⟨H,O⟩:=Z;simp only at o H O |-;have R:g.O.length<=512:=by rw[O];exact P
 by_cases J:a<0
 ·rw[CD J]
  repeat'(first|refine gE ?_|(conv=>whnf);first|with_reducible refine Bf.D (λb=>?_) (λb=>?_)|refine CC ?_|refine C9 (n) ?_|refine C9 (r) ?_|refine CK (E) ⟨⟨rfl,bK h⟩,trivial⟩ ?_|refine CC ?_|refine C9 (F) ?_|refine CL (o) (.inl rfl) ?_)
  refine CH rfl rfl ?_;exact wC
 rw[CB J]
 repeat'(first|refine gE ?_|(conv=>whnf);first|with_reducible refine Bf.D (λb=>?_) (λb=>?_)|refine CC ?_|refine C9 (n) ?_|refine C9 (r) ?_|refine CK (E) ⟨⟨rfl,bK h⟩,trivial⟩ ?_|refine CC ?_|refine C9 (F) ?_|refine CL (o) (.inl rfl) ?_)
 (conv=>whnf)
 refine CJ (ι:=Nat) (λi=>[(0,.H .box (bE g)),(1,.H .one [I (t)]),(2,.H .one [I (size)]),(8,.H .one [I (a)]),(9,.H .one [I ((i:Nat):Int)])]) (λi=>i<=g.O.length/\∀(j:Nat)(z:bo),j<i->g.O[j]? = some z->Ku a z=false) (λi=>g.O.length - i) (0) ?_ (⟨X0 _,λj z hj=>ω⟩) λi k=>?_
 ·exact wC
 obtain⟨S,L⟩:=k;by_cases U:i<g.O.length/\(nth g.O i).Addr<a
 ·have d:=au U.1
  repeat'(first|refine gE ?_|(conv=>whnf);first|with_reducible refine CE (aa d) ?_|refine CC ?_|refine CG rfl (aa d) rfl ?_)
  ((conv=>whnf);refine CF (i+1) ⟨ω,dY d (W0 ω) L⟩ ω ?_;(exact wC))
 have l:hC (Ku a) g.O=i:=mg ω L λz M=>by
  have V:=(Z2.1 M).1;have:z=nth g.O i:=(bk M).symm;subst this;exact O0 ω
 have d:i<g.O.length->g.O[i]? = some (nth g.O i):=λW=>au W
 rw[show addO g a size t = {g with O:=g.O.take i++⟨g.b,a,size,t⟩::g.O.drop i,b:=g.b+1} by unfold addO;rw[kK l]]
 repeat'(first|refine gE ?_|(conv=>whnf);first|with_reducible (first|refine CE (aa (d ω)) ?_|refine Bf.D (λb=>?_) (λb=>?_))|refine CC ?_|refine CG rfl (aa (d ω)) rfl ?_|refine GQ.mk rfl (Dk g.O) rfl ?_|refine CY i rfl (by rw[I1];omega) (aV λ_=>rfl) W4 ?_|refine Sl.suf i rfl (by rw[I1];omega) (aV λ_=>rfl) X4 ?_|refine CS (λ_=>rfl) (λ_=>rfl) (by rw[C2];omega) (by decide) ?_|refine Ap.sn (aV λ_=>rfl) rfl (by rw[I1,C2];omega) (by decide) rfl ?_|refine Ap.ins (e:=bo.enc .V) (y:=⟨g.b,a,size,t⟩) rfl (λ_=>rfl) (λ_=>rfl) ω (by decide) ?_|refine CC ?_)
 all_goals
  refine CH rfl rfl ?_;exact wC
def HX(h:ac)(a n:Int)(t:h.M.length<=4096)(j:∀l∈h.M,bN l=true)(o:zu h a<0):zzB 420 false [.ptr (bE h),.val none [I a],.val none [I n]] [.ptr (bE h),.val none [I a],.val none [I n]] .one [B false]:=by
 have b:∀l∈h.M,l.Q*16≠a:=λl c e=>by
  have:=Gy (p:=Ke a) c (O0 e);unfold zu at o;omega
 refine fM 136 [(374,[2,0])] [(8,6,[49,50,51,52,53,54]),(9,10,[56,57,58,59,60,61,62,63,64,65]),(20,270,[123,124,125,126,127,128,129,130,131,122,132,133,134,135,0,1,2,3,4,5,6,7,8,9,10,11,12,13,14,1011])] [(0,0),(0,0),(0,0)] Tryz.func420 rfl (λu q=>?_)
 repeat'(first|refine gP ?_|(conv=>whnf);first|refine CC ?_)
 (conv=>whnf)
 refine CJ (ι:=Nat) (λk=>[(0,.H .box (bE h)),(1,.H .one [I (a)]),(2,.H .one [I (n)]),(7,.H .one [I ((k:Nat):Int)])]) (λk=>k<=h.M.length) (λk=>h.M.length - k) (0) ?_ (X0 _) λk w=>?_
 ·repeat'(first|exact trivial|rfl |exact o6 r|exact o6 g|exact dL _|refine CM ?_ ?_|(exact B9 (by first|omega|(simp only;omega)|(simp;omega))))
 by_cases d:k<h.M.length
 ·have i:=au d
  have y:=b _ (ar d);have C:=aS (j _ (ar d))
  repeat'(first|refine gB ?_|(conv=>whnf);first|with_reducible refine CE (aa i) ?_|refine CC ?_|refine CG rfl (aa i) rfl ?_)
  ((conv=>whnf);refine CF (k+1) ω ω ?_;(exact wC))
 repeat'(first|refine gE ?_|(conv=>whnf);first|refine CC ?_)
 refine CH rfl rfl ?_;exact wC
def Tw(h:ac)(a:Int)(m:Nat):bE {h with G:=zK h.G a (m+1)} = (bE {h with G:=zK h.G a m}).set 0 (.s .own (((zK h.G a m).F.W.T.map (aH .own)).set (af (zK h.G a m).F.R ((a+m) / 16)).j.toNat ((aH .own (nth (zK h.G a m).F.W.T (cW (zK h.G a m) (a+m)))).set 0 (.s .own (((nth (zK h.G a m).F.W.T (cW (zK h.G a m) (a+m))).map (rI .own)).set ((a+m) % 16).toNat (splice (rI .own (nth (nth (zK h.G a m).F.W.T (cW (zK h.G a m) (a+m))) ((a+m) % 16).toNat)) 0 [I 0])))))):=
 JJ {h with G:=zK h.G a m} (a+m) 0
def me(h:ac)(i k:Nat)(n:Int)(K:ah):ac:={h with G:=K,M:=h.M.set k (trimL (nth h.M k) n),O:=h.O.set i {nth h.O i with q:=n}}
def Mh(h:ac)(i k:Nat)(n:Int)(K:ah):(me h i k n K).O.map (bo.enc .own)=(h.O.map (bo.enc .own)).set i (splice (bo.enc .own (nth h.O i)) 2 [I n]):=by
 simp[me,Z6,bo.enc,splice]
def tI(h:ac)(i:Nat)(n:Int)(j:bc h [])(H:i<h.O.length)(hg:0<=zu h (nth h.O i).Addr):zzB 420 false [.ptr (bE h),.val none [I (nth h.O i).Addr],.val none [I n]] [.ptr (bE (if mc h i n then trimH h i (zu h (nth h.O i).Addr).toNat n else h)),.val none [I (nth h.O i).Addr],.val none [I n]] .one [B (decide (mc h i n))]:=by
 have c:=j.lens;have hnl:=c.larges;have hno:=c.objs;have hpg:fk h<=32:=c.ents;obtain⟨f1,f2,f3⟩:=fR (Ke (nth h.O i).Addr) h.M hg;obtain⟨g,o⟩:=O3 hg;have b:g<h.M.length:=by unfold zu at o;omega
 have Y:(nth h.M g).Q*16=(nth h.O i).Addr:=by
  have:=of_decide_eq_true f2;rw[show(cU (Ke (nth h.O i).Addr) h.M).toNat=g by unfold zu at o;omega]at this;exact this
 have J:∀k,k<g->(nth h.M k).Q*16≠(nth h.O i).Addr:=λk hk e=>by
  have N:k<h.M.length:=ω
  have hok1:=aS (j.L.lok _ (ar N));have hok2:=aS (j.L.lok _ (ar b));have:=j.L.one k g N b 0 0 ω ω ω;omega
 have p:mc h i n↔9<=n/\n<=(nth h.M g).q:=by
  unfold mc;rw[o,I3];exact⟨λx=>x.2,λx=>⟨ω,x⟩⟩
 rw[o,I3];have hbd:=pH j (ar H);obtain⟨-,Z,w⟩:=j.objAt (ar H);have hii:qZ h (nth h.O i).Addr=i:=by
  have h2:=(j.objAt (ar H)).1;exact cS (f:=(·.Addr)) (dh j.osr) h2 H (by rw[Z])
 rw[hii]at w;have E:=au H;have hxg:=au b;have V:=x7 (nth h.M g) n (j.L.lok _ (ar b));have h8:=j.L.lok _ (ar b);unfold bN at h8;rw[C0]at h8;refine fM 136 [(374,[2,0])] [(8,6,[49,50,51,52,53,54]),(9,10,[56,57,58,59,60,61,62,63,64,65]),(20,270,[123,124,125,126,127,128,129,130,131,122,132,133,134,135,0,1,2,3,4,5,6,7,8,9,10,11,12,13,14,1011])] [(0,0),(0,0),(0,0)] Tryz.func420 rfl (λu q=>?_)
 repeat'(first|refine gP ?_|(conv=>whnf);first|refine CC ?_)
 (conv=>whnf)
 refine CJ (ι:=Nat) (λk=>[(0,.H .box (bE h)),(1,.H .one [I ((nth h.O i).Addr)]),(2,.H .one [I (n)]),(7,.H .one [I ((k:Nat):Int)])]) (λk=>k<=g) (λk=>g - k) (0) ?_ (X0 _) λk hk=>?_
 ·repeat'(first|exact trivial|rfl |exact o6 r|exact o6 d|exact dL _|refine CM ?_ ?_|(exact B9 (by first|omega|(simp only;omega)|(simp;omega))))
 have l:=au (xs:=h.M) (i:=k) ω;have hfk:=aS (j.L.lok _ (ar (xs:=h.M) (i:=k) ω));by_cases e:k=g;rotate_left
 ·have hne:=J k ω
  repeat'(first|refine gB ?_|(conv=>whnf);first|with_reducible refine CE (aa l) ?_|refine CC ?_|refine CG rfl (aa l) rfl ?_)
  ((conv=>whnf);refine CF (k+1) ω ω ?_;(exact wC))
 subst e;by_cases F:9<=n/\n<=(nth h.M k).q;rotate_left
 ·rw[CB (by rw[p];exact F),W0 (by rw[p];exact F)]
  rw[CB F]at V
  repeat'(first|refine gB ?_|(conv=>whnf);first|with_reducible refine CE (aa l) ?_|refine CC ?_|refine CG rfl (aa l) rfl ?_|refine C9 (V) ?_)
  refine CH rfl rfl ?_;exact wC
 rw[CD (by rw[p];exact F),O0 (by rw[p];exact F)];rw[CD F]at V;have y:=λm hm=>xC j b F (m:=m) hm
 have D:=λm=>(nr h.G (16*(nth h.M k).Q+n) m).1
 have O:=λa W=>jM j b (a:=a) W
 have hsz:n<=16*(nth h.M k).a2:=ω
 generalize hM:(16*((n+15) / 16) - n).toNat=M at *;have hfl:∀m,(zK h.G (16*(nth h.M k).Q+n) m).F.W.T.length=h.G.F.W.T.length:=λm=>by
  induction m with
  | zero=>rfl
  | succ m ih=>show(List.set _ _ _).length=_;rw[Z1];exact ih
 have cO:=rY {h with M:=h.M.set k (trimL (nth h.M k) n)} (nth h.O i).Addr (by show h.O.length<=_;omega);change ay _ _ _ [.val (some 24) (ac.enc .V {h with M:=h.M.set k (trimL (nth h.M k) n)}),_] _ [I (cU (mC (nth h.O i).Addr) h.O)]at cO;rw[w]at cO;have Q:=bK {h with M:=h.M.set k (trimL (nth h.M k) n)};have heL:bE {h with M:=h.M.set k (trimL (nth h.M k) n)} = (bE h).set 7 (.s .own ((h.M.map (aC.enc .own)).set k (aC.enc .own (trimL (nth h.M k) n)))):=by simp[bE,Z6]
 rw[heL]at Q
 repeat'(first|refine gB ?_|(conv=>whnf);first|with_reducible (first|refine CE (aa l) ?_|refine CE (aa E) ?_)|refine CC ?_|refine CG rfl (aa l) rfl ?_|refine C9 (V) ?_|refine CQ rfl rfl (aa l) rfl (O1 rfl) rfl ?_|refine CK (cO) ⟨⟨rfl,Q⟩,⟨rfl,rfl⟩,trivial⟩ ?_|refine CQ rfl rfl (aa E) rfl (O1 rfl) rfl ?_|refine CG rfl (aa E) rfl ?_|refine CC ?_)
 rw[<-Y];have e0:me h i k n h.G=me h i k n (zK h.G (16*(nth h.M k).Q+n) 0):=rfl;have r:C.s .own ((me h i k n (zK h.G (16*(nth h.M k).Q+n) 0)).M.map (aC.enc .own))=C.s .own ((h.M.map (aC.enc .own)).set k (aC.enc .own (trimL (nth h.M k) n))):=by simp[me,Z6]
 have d:C.s .own ((me h i k n (zK h.G (16*(nth h.M k).Q+n) 0)).O.map (bo.enc .own))=C.s .own ((h.O.map (bo.enc .own)).set i (splice (bo.enc .own (nth h.O i)) 2 [I n])):=Z0 _ (Mh h i k n _)
 (conv=>whnf)
 refine CJ (ι:=Nat) (λm=>[(0,.H .box (bE (me h i k n (zK h.G (16*(nth h.M k).Q+n) m)))),(1,.H .one [I (((nth h.M k).Q*16))]),(8,.H .box (aC.enc .own (trimL (nth h.M k) n))),(9,.H .box (aB.enc .own (xE (nth h.M k) n))),(11,.H .one [I (((16*(nth h.M k).Q+n)+(m:Nat)))])]) (λm=>m<=M) (λm=>M - m) (0) ?_ (X0 _) λm hm=>?_
 ·repeat'(first|exact trivial|rfl |exact o6 r|exact o6 d|exact dL _|refine CM ?_ ?_|(exact B9 (by first|omega|(simp only;omega)|(simp;omega))))
 have hmod:IntKind.i64.wrap 0=0:=rfl;by_cases lm:m<M
 ·have W:0<=(16*(nth h.M k).Q+n)+(m:Nat)/\(16*(nth h.M k).Q+n)+(m:Nat)<512:=ω
  have R:=O ((16*(nth h.M k).Q+n)+(m:Nat)) ω;have t:=y m hm;rw[<-D m]at R;have hks:=b8 t;have c2:=dl (zK h.G (16*(nth h.M k).Q+n) m).F.R (((16*(nth h.M k).Q+n)+(m:Nat)) / 16) hks.1.2;obtain⟨-,-,-,q0,q1⟩:=bW t R;have hul:=(bf.1 (aG.1 t).2.1).2.2.1;have S:cW (zK h.G (16*(nth h.M k).Q+n) m) ((16*(nth h.M k).Q+n)+(m:Nat))<(zK h.G (16*(nth h.M k).Q+n) m).F.W.T.length:=by unfold cW;omega
  have G:(zK h.G (16*(nth h.M k).Q+n) m).F.W.T[(af (zK h.G (16*(nth h.M k).Q+n) m).F.R (((16*(nth h.M k).Q+n)+(m:Nat)) / 16)).j.toNat]? = some _:=au S;have h16:=(ul t S).1;have T:=au (xs:=nth (zK h.G (16*(nth h.M k).Q+n) m).F.W.T (cW (zK h.G (16*(nth h.M k).Q+n) m) ((16*(nth h.M k).Q+n)+(m:Nat)))) (i:=(((16*(nth h.M k).Q+n)+(m:Nat)) % 16).toNat) (by rw[h16];omega);have htm:((16*(nth h.M k).Q+n)+(m:Nat)).tmod 16=((16*(nth h.M k).Q+n)+(m:Nat)) % 16:=eE W.1;have hpu:=Tw (me h i k n h.G) (16*(nth h.M k).Q+n) m;have hwr:=qM W;have hst:(trimL (nth h.M k) n).a2=(n+15) / 16:=rfl
  repeat'(first|refine gE ?_|(conv=>whnf);first|refine CC ?_|refine CP (by decide) ?_|refine CN hwr ?_|refine CT htm ?_|refine CK (c2) ⟨⟨rfl,Cb _⟩,⟨rfl,rfl⟩,trivial⟩ ?_|refine CO q0 (aa G) ?_|refine CG rfl (aa G) rfl ?_|refine CO ω (aa T) ?_|refine Pu.two rfl rfl (aa G) rfl rfl rfl (aa T) rfl (W3 _) hpu ?_)
  ((conv=>whnf);refine CF (m+1) ω ω ?_;(exact wC))
 obtain rfl:m=M:=ω
 have hst:(trimL (nth h.M k) n).a2=(n+15) / 16:=rfl;have hkM:=y m (W3 _);have U:(zK h.G (16*(nth h.M k).Q+n) m).F.R.K.length=fk h:=by rw[D];rfl
 have hTK:kD h k n=zK h.G (16*(nth h.M k).Q+n) m:=by unfold kD;rw[hM]
 unfold trimH Kl;rw[hTK];generalize zK h.G (16*(nth h.M k).Q+n) m=K at *;have hN:((d9 (nth h.M k) n:Nat):Int)=(nth h.M k).a2 - (n+15) / 16:=by unfold d9;omega
 have hrA:0<d9 (nth h.M k) n->xE (nth h.M k) n = ⟨(nth h.M k).Q+(n+15) / 16,(d9 (nth h.M k) n:Nat)⟩:=λhp=>by unfold xE;rw[CD ω,hN]
 have hrB:¬0<d9 (nth h.M k) n->xE (nth h.M k) n = ⟨0,0⟩:=λhp=>by unfold xE;rw[CB ω]
 generalize d9 (nth h.M k) n=P at *;by_cases X:0<P
 ·rw[CD X]
  have hr:=hrA X;rw[hr]
  repeat'(first|refine gE ?_|(conv=>whnf);first|refine CC ?_)
  (conv=>whnf)
  refine CJ (ι:=Nat) (λx=>[(0,.H .box (bE (me h i k n (unmN K ((nth h.M k).Q+(n+15) / 16) x)))),(9,.H .box ([I ((nth h.M k).Q+(n+15) / 16),I (P:Nat)])),(13,.H .one [I (((nth h.M k).Q+(n+15) / 16+(x:Nat)))])]) (λx=>x<=P) (λx=>P - x) (0) ?_ (X0 _) λx l=>?_
  ·repeat'(first|exact trivial|rfl |exact o6 r|exact o6 d|exact dL _|refine CM ?_ ?_|(exact B9 (by first|omega|(simp only;omega)|(simp;omega))))
  by_cases lx:x<P
  ·have c3:=ot (me h i k n (unmN K ((nth h.M k).Q+(n+15) / 16) x)) ((nth h.M k).Q+(n+15) / 16+(x:Nat)) (gV hkM _ _)
   repeat'(first|refine gE ?_|(conv=>whnf);first|refine CC ?_|refine CL (c3) (.inl rfl) ?_)
   ((conv=>whnf);refine CF (x+1) ω ω ?_;(exact wC))
  obtain rfl:x=P:=ω
  have c4:=ik (me h i k n (unmN K ((nth h.M k).Q+(n+15) / 16) x));rw[show fk (me h i k n (unmN K ((nth h.M k).Q+(n+15) / 16) x))=fk h from(eP _ _ _).1.trans U]at c4;have c5:=mH (fk h:Nat) h.o ⟨(nth h.M k).Q+(n+15) / 16,(x:Nat)⟩ ⟨ω,ω⟩ ⟨by have:=c.free;omega,λ_ _=>trivial⟩
  repeat'(first|refine gE ?_|(conv=>whnf);first|refine CC ?_|refine CK (c4) ⟨bK _,trivial⟩ ?_|refine CK (c5) ⟨⟨rfl,rfl⟩,⟨rfl,dX h.o⟩,⟨rfl,rfl⟩,trivial⟩ ?_|refine CC ?_)
  refine CH rfl rfl ?_;exact wC
 rw[CB X];obtain rfl:P=0:=ω
 have hr:=hrB X;rw[hr]
 repeat'(first|refine gE ?_|(conv=>whnf);first|refine CC ?_)
 (conv=>whnf)
 refine CJ (ι:=Nat) (λx=>[(0,.H .box (bE (me h i k n K))),(9,.H .box ([I 0,I 0])),(13,.H .one [I (0)])]) (λx=>x=0) (λx=>0) (0) ?_ (rfl) λx l=>?_
 ·repeat'(first|exact trivial|rfl |exact o6 r|exact o6 d|exact dL _|refine CM ?_ ?_|(exact B9 (by first|omega|(simp only;omega)|(simp;omega))))
 subst l
 repeat'(first|refine gE ?_|(conv=>whnf);first|refine CC ?_)
 refine CH rfl rfl ?_;exact wC
def EJ(a:α)(k:Nat):List.replicate (k+1) a=List.replicate k a++[a]:=List.replicate_succ' ..
def HY(n k:Nat):aX.enc .own ⟨List.replicate k (List.replicate 16 0),List.replicate n false⟩ = [.s .own (List.replicate k [.s .own (List.replicate 16 [I 0])]),.s .own (List.replicate n [B false])]:=by
 simp[aX.enc,aH,rI,rB,List.map_replicate]
def JR(n:Nat):N0 [.s .own (List.replicate n [.z]),.s .own (List.replicate n [.z]),B true] (aM.enc .own (eB n)++[B true]):=by
 have e:aM.enc .own (eB n)++[B true]=[.s .own (List.replicate n [.s .own []]),.s .own (List.replicate n [.s .own []]),B true]:=by simp[aM.enc,eB,cL,aH,List.map_replicate]
 rw[e];exact .cons (.rep (.cons .z_ .nil)) (.cons (.rep (.cons .z_ .nil)) (.cons (.rfl_ _) .nil))
def Ri(n:Nat)(b:1<=n/\n<=4):zzA 200 false [.val none [I (n:Nat)]] (.tup [some 2,none]) (aM.enc .own (eB n)++[B true]):=by
 have a:=aN ((n:Nat):Int) 1 4;rw[O0 ω]at a;refine fO 13 [(3,4,[8,9,10,11])] Tryz.func200 rfl ?_ (.inr (aU (aM.enc_fr _) ⟨trivial,trivial⟩))
 repeat'((conv=>whnf);first|with_reducible (first|refine Lm ?_|refine Wm ω ?_|refine Bn ?_|refine jX.dk rfl ?_)|refine Bt ?_|refine Bu ?_|refine CC ?_|refine C9 (a) ?_|refine Mk.mk n rfl rfl ω (zh ω (by decide)) rfl ?_)
 exact JR n
def D4(n:Nat)(b:1<=n/\n<=4):zzA 413 false [.val none [I (n:Nat)]] (.tup [some 2,none]) (aM.enc .own (eB n)++[B true]):=by
 have a:=aJ ((n:Nat):Int) 1 4;rw[O0 ω]at a;refine fO 13 [(3,4,[8,9,10,11])] Tryz.func413 rfl ?_ (.inr (aU (aM.enc_fr _) ⟨trivial,trivial⟩))
 repeat'((conv=>whnf);first|with_reducible (first|refine Lm ?_|refine Wm ω ?_|refine Bn ?_|refine jX.dk rfl ?_)|refine Bt ?_|refine Bu ?_|refine CC ?_|refine C9 (a) ?_|refine Mk.mk n rfl rfl ω (zh ω (by decide)) rfl ?_)
 exact JR n
def PL:N0 [.s .own (List.replicate 4 [.z])] (aE.enc .own fF):=.cons (.rep (.cons .z_ .nil)) .nil
def Ae:zzA 414 false [] .agg (aE.enc .own fF):=by
 refine fO 3 [] Tryz.func414 rfl ?_ (.inr (aE.enc_fr _))
 repeat'((conv=>whnf);first|with_reducible (first|refine Lm ?_|refine Wm ω ?_|refine Bn ?_|refine jX.dk rfl ?_)|refine Bt ?_|refine Bu ?_|refine CC ?_|refine Mk.mk 4 rfl rfl (by decide) (by decide) rfl ?_)
 exact PL
def tl:zzA 415 false [.val none [I 16]] (.tup [some 2,none]) (bQ.enc .own ⟨16,[]⟩++[B true]):=by
 refine fO 10 [] Tryz.func415 rfl ?_ (.inr (aU (bQ.enc_fr _) ⟨trivial,trivial⟩))
 repeat'((conv=>whnf);first|with_reducible (first|refine Lm ?_|refine Wm ω ?_|refine Bn ?_|refine jX.wk rfl ?_)|refine Bt ?_|refine Bu ?_|refine CC ?_|refine C9 (aJ 16 0 500) ?_)
 exact⟨rfl,rfl,rfl,trivial⟩
def caps(h:ac)(k:Nat):ac:={h with S:=List.replicate k fF}
def Lj(k:Nat):(List.replicate (k+1) fF).map (aE.enc .own)=(List.replicate k fF).map (aE.enc .own)++[aE.enc .own fF]:=by rw[EJ,V6];rfl
def MP{k:Nat} : ∀r∈(List.replicate k fF).map (aE.enc .own),r.length=1:=aV λ_=>rfl
def Rc(x:List bD):fz (.s .own (x.map (bD.enc .own)))=.s .V (x.map (bD.enc .V)):=(List.cons.inj (List.cons.inj (Cg ⟨0,x⟩)).2).1
def f6:∀a b:List C,dE (a++b)=dE a++dE b
 | [],_=>rfl
 | x::xs,b=>by show fz x::dE (xs++b)=fz x::(dE xs++dE b);rw[f6 xs b]
def eM(r:aD)(c:aD.sml r):zzA 281 false [.val (some 2) (aD.enc .V r)] .agg (aD.enc .own r):=by
 have e:r.O.length<=1048576:=c.1;refine fO 36 [(5,272,[15,16,17,18,19,20,21,22,23,24,25,26,27,28,29,34,0,1,2,3,4,5,6,7,8,9,10,11,12,13,14,15,1000,1001,1002,1003,1004,1005,1006,1007,16,1000,1001,17,1000,1001,18,19,20])] Tryz.func281 rfl ?_ (.inr (aD.enc_fr _))
 repeat'(first|refine gP ?_|(conv=>whnf);first|refine CC ?_)
 (conv=>whnf)
 refine CJ (ι:=Nat) (λi=>[(1,.H .box (aD.enc .V r)),(2,.H .box [I 0,.z]),(3,.H .box [I r.b,.s .own ((r.O.take i).map (bD.enc .own))]),(4,.H .one [I ((i:Nat):Int)])]) (λi=>i<=r.O.length) (λi=>r.O.length - i) (0) ?_ (X0 _) λi g=>?_
 ·exact wC
 by_cases b:i<r.O.length
 ·have d:=au b
  have a:(nth r.O i).T.length<=1048576:=c.2 _ (ar b)
  repeat'(first|refine gE ?_|(conv=>whnf);first|with_reducible refine CE (aa d) ?_|refine CC ?_|refine CG rfl (aa d) rfl ?_|refine CX (λ_=>rfl) (λ_=>rfl) a (by decide) ?_|refine CS (λ_=>rfl) (λ_=>rfl) a (by decide) ?_|refine CC ?_|refine Ap.sn (aV λ_=>rfl) rfl (by simp;omega) (by decide) (fJ b) ?_)
  ((conv=>whnf);refine CF (i+1) ω ω ?_;(exact wC))
 repeat'(first|refine gE ?_|(conv=>whnf);first|refine CC ?_)
 obtain rfl:i=r.O.length:=ω
 rw[X5]
 rfl
def iB(r:aD)(id:Int)(g:r.O.length<=1048576):zzA 516 false [.val (some 2) (aD.enc .V r),.val none [I id]] .one [I (oS r id)]:=by
 refine fO 22 [] Tryz.func516 rfl ?_
 repeat'(first|refine gP ?_|(conv=>whnf);first|refine CC ?_)
 (conv=>whnf)
 refine CJ (ι:=Nat) (λi=>[(1,.H .one [I (id)]),(2,.H .box (aD.enc .V r)),(5,.H .one [I ((i:Nat):Int)])]) (λi=>i<=r.O.length/\∀(j:Nat)(z:bD),j<i->r.O[j]? = some z->nP id z=false) (λi=>r.O.length - i) (0) ?_ (⟨X0 _,λj z h=>ω⟩) λi c=>?_
 ·exact wC
 obtain⟨c,b⟩:=c;by_cases d:i<r.O.length
 ·have a:=au d
  by_cases e:(nth r.O i).Id=id
  ·repeat'(first|refine gB ?_|(conv=>whnf);first|with_reducible refine CE (aa a) ?_|refine CC ?_|refine CG rfl (aa a) rfl ?_)
   exact Z0 (λz=>[I z]) (dD a (O0 e) b).symm
  repeat'(first|refine gB ?_|(conv=>whnf);first|with_reducible refine CE (aa a) ?_|refine CC ?_|refine CG rfl (aa a) rfl ?_)
  ((conv=>whnf);refine CF (i+1) ⟨ω,dY a (W0 e) b⟩ ω ?_;(exact wC))
 repeat'(first|refine gE ?_|(conv=>whnf);first|refine CC ?_)
 exact Z0 (λz=>[I z]) (gh ω b).symm
def nI(r:aD)(c:C)(h:Q6 c):ij (aD.enc .own r++[c]):=aU (aD.enc_fr _) ⟨h,trivial⟩
def zR(r:aD)(n:Int)(m:Nat)(b:sD r m)(h:m<=1000)(c:1<=n/\n<=1000):zzA 273 false [.val (some 2) (aD.enc .V r),.val none [I n]] (.tup [some 2,none]) (aD.enc .V (iR r n)++[I r.b]):=by
 have i:=b.sml h;have d:=b.len;have j:=b.nx;have k:=eM r i;have e:=aJ n 1 1000;rw[O0 c]at e;have key:zzA 273 false [.val (some 2) (aD.enc .V r),.val none [I n]] (.tup [some 2,none]) (aD.enc .own (iR r n)++[I r.b]):=by
  have a:=nI (iR r n) (I r.b) trivial;unfold iR at a |-;rw[CD c]at a |-;have l:aD.enc .own {r with b:=r.b+1,O:=r.O++[⟨r.b,List.replicate n.toNat 0⟩]} = [I (r.b+1),.s .own (r.O.map (bD.enc .own)++[[I r.b,.s .own (List.replicate n.toNat [I 0])]])]:=by
   simp[aD.enc,bD.enc,rI]
  rw[l]at a |-;refine fO 30 [(4,263,[13,14,15,16,17,18,22,0,1,2,3,4,5,6,1000,1001,7,1000,1001,8,9,10]),(6,259,[27,28,29,0,1,2,3,1001,1002,4])] Tryz.func273 rfl ?_ (.inr a)
  repeat'(first|refine gP ?_|(conv=>whnf);first|refine CC ?_|refine C9 (k) ?_|refine C9 (e) ?_|refine Mk.mk n.toNat ω ω ω (zh ω (by decide)) rfl ?_|refine CC ?_|refine Ap.sn (aV λ_=>rfl) rfl (by simp;omega) (by decide) rfl ?_)
  (conv=>whnf)
  rfl
 have g:=key.fzR;rw[f6,Cg]at g;exact g
def Dn(r:aD)(id:Int)(m:Nat)(d:sD r m)(k:m<=1000):zzA 417 true [.val (some 2) (aD.enc .V r),.val none [I id]] (.tup [some 2,none]) (aD.enc .V (jI r id)++[B (!decide (oS r id<0))]):=by
 have g:=d.sml k;have h:=d.len;have i:=eM r g;have b:=iB r id g.1;by_cases e:oS r id<0
 ·have key:zzA 417 true [.val (some 2) (aD.enc .V r),.val none [I id]] (.tup [some 2,none]) (aD.enc .own r++[B false]):=by
   refine fO 30 [(5,267,[16,17,18,19,20,22,23,24,25,26,28,0,1,2,3,4,6,7,8,9,10,5,1006,1007,1008,1009,1010,11,12,13]),(1048581,6,[1])] Tryz.func417 rfl ?_ (.inl rfl)
   repeat'(first|refine gE ?_|(conv=>whnf);first|refine CC ?_|refine C9 (i) ?_|refine C9 (b) ?_)
   rfl
  have a:=key.fzR;rw[f6,Cg]at a;unfold jI;rw[CD e,O0 e];exact a
 have n:jI r id = {r with O:=dele r.O (oS r id).toNat}:=by unfold jI;rw[CB e]
 obtain⟨t,u,w⟩:=fR (nP id) r.O (by unfold oS at e;omega);obtain⟨j,c⟩:=O3 (show 0<=oS r id by omega);have o:j<r.O.length:=by unfold oS at c;omega
 have key:zzA 417 true [.val (some 2) (aD.enc .V r),.val none [I id]] (.tup [some 2,none]) ([I r.b,.s .own ((dele r.O j).map (bD.enc .V))]++[B true]):=by
  rw[c]at b;refine fO 30 [(5,267,[16,17,18,19,20,22,23,24,25,26,28,0,1,2,3,4,6,7,8,9,10,5,1006,1007,1008,1009,1010,11,12,13]),(1048581,6,[1])] Tryz.func417 rfl ?_ (.inl rfl)
  repeat'(first|refine gE ?_|(conv=>whnf);first|refine CC ?_|refine C9 (i) ?_|refine C9 (b) ?_|refine GQ.mk rfl (Rc r.O) rfl ?_|refine CY j rfl (by rw[I1];omega) (aV λ_=>rfl) W4 ?_|refine Sl.suf (j+1) ω (by rw[I1];omega) (aV λ_=>rfl) X4 ?_|refine CS (λ_=>rfl) (λ_=>rfl) (by rw[C2];omega) (by decide) ?_|refine CX (λ_=>rfl) (λ_=>rfl) (by rw[C2];omega) (by decide) ?_|refine Ap.dele (λ_=>rfl) (λ_=>rfl) ω (by decide) ?_|refine CC ?_)
  rfl
 have a:=key.fzR;have p:dE ([I r.b,.s .own ((dele r.O j).map (bD.enc .V))]++[B true])=aD.enc .V (jI r id)++[B (!decide (oS r id<0))]:=by
  have:∀l:List bD,fzR (l.map (bD.enc .V))=l.map (bD.enc .V):=λl=>by
   induction l with
   | nil=>rfl
   | cons x xs q=>rw[X6,fzR,q,<-bD.enc_fz,sw]
  rw[n,c,W0 ω];simp[dE,fz,aD.enc,this]
 rw[p]at a;exact a
def zr(r:aD)(id a v:Int)(m:Nat)(o:sD r m)(D:m<=1000)(h:0<=oS r id)(c:0<=a/\a<=(nth r.O (oS r id).toNat).T.length - 1)(p:0<=v/\v<=999):zzA 419 false [.val (some 2) (aD.enc .V r),.val none [I id],.val none [I a],.val none [I v]] (.tup [some 2,none]) (aD.enc .V (eH r id a v)++[B true]):=by
 have k:=o.sml D;have q:=o.len;have E:=eM r k;have t:=iB r id k.1;obtain⟨J,K,L⟩:=fR (nP id) r.O h;obtain⟨j,l⟩:=O3 h;have d:j<r.O.length:=by unfold oS at l;omega
 have e:=au d;have F:(nth r.O j).T.length<=1048576:=k.2 _ (ar d);obtain⟨b,g⟩:=O3 c.1;have G:eH r id a v = {r with O:=r.O.set j ⟨(nth r.O j).Id,(nth r.O j).T.set b v⟩}:=by
  unfold eH;rw[CD ⟨h,c,p⟩,l,g];rfl
 rw[l]at t c;rw[g]at c |-;simp only[I3]at c;have u:=au (xs:=(nth r.O j).T) (i:=b) ω;have w:=aJ (b:Nat) 0 (((nth r.O j).T.length:Nat) - 1:Int);rw[O0 ω]at w;have y:=aJ v 0 999;rw[O0 p]at y;have key:zzA 419 false [.val (some 2) (aD.enc .V r),.val none [I id],.val none [I (b:Nat)],.val none [I v]] (.tup [some 2,none]) (aD.enc .own (eH r id (b:Nat) v)++[B true]):=by
  have n:=nI (eH r id (b:Nat) v) (B true) trivial;rw[<-g,G]at n |-;have H:aD.enc .own {r with O:=r.O.set j ⟨(nth r.O j).Id,(nth r.O j).T.set b v⟩} = [I r.b,.s .own ((r.O.map (bD.enc .own)).set j [I (nth r.O j).Id,.s .own (((nth r.O j).T.map (rI .own)).set b [I v])])]:=by
   simp[aD.enc,bD.enc,rI,Z6]
  rw[H]at n |-;rw[g];refine fO 48 [] Tryz.func419 rfl ?_ (.inr n)
  repeat'(first|refine gE ?_|(conv=>whnf);first|with_reducible (first|refine CE (aa e) ?_|refine CE (aa u) ?_|refine CO ω (aa e) ?_)|refine CC ?_|refine C9 (E) ?_|refine C9 (t) ?_|refine C9 (w) ?_|refine C9 (y) ?_|refine CG rfl (aa e) rfl ?_|refine Pu.two rfl rfl (aa e) rfl rfl rfl (aa u) rfl (W3 _) rfl ?_)
  rfl
 have C:=key.fzR;rw[f6,Cg]at C;exact C
def BQ(r:aD)(id n:Int)(m:Nat)(l:sD r m)(u:m<=1000)(g:0<=oS r id)(c:1<=n/\n<=(nth r.O (oS r id).toNat).T.length):zzA 421 false [.val (some 2) (aD.enc .V r),.val none [I id],.val none [I n]] (.tup [some 2,none]) (aD.enc .V (fE r id n)++[B true]):=by
 have h:=l.sml u;have o:=l.len;have w:=eM r h;have p:=iB r id h.1;obtain⟨E,F,G⟩:=fR (nP id) r.O g;obtain⟨j,i⟩:=O3 g;have a:j<r.O.length:=by unfold oS at i;omega
 have d:=au a;have y:(nth r.O j).T.length<=1048576:=h.2 _ (ar a);obtain⟨b,e⟩:=O3 (show 0<=n by omega);have C:fE r id n = {r with O:=r.O.set j ⟨(nth r.O j).Id,(nth r.O j).T.take b⟩}:=by
  unfold fE;rw[CD ⟨g,c⟩,i,e];rfl
 rw[i]at p c;rw[e]at c |-;simp only[I3]at c;have q:=aJ (b:Nat) 1 (((nth r.O j).T.length:Nat):Int);rw[O0 ω]at q;have key:zzA 421 false [.val (some 2) (aD.enc .V r),.val none [I id],.val none [I (b:Nat)]] (.tup [some 2,none]) (aD.enc .own (fE r id (b:Nat))++[B true]):=by
  have k:=nI (fE r id (b:Nat)) (B true) trivial;rw[<-e,C]at k |-;have D:aD.enc .own {r with O:=r.O.set j ⟨(nth r.O j).Id,(nth r.O j).T.take b⟩} = [I r.b,.s .own ((r.O.map (bD.enc .own)).set j [I (nth r.O j).Id,.s .own (((nth r.O j).T.take b).map (rI .V))])]:=by
   simp only[aD.enc,Z6]
   rfl
  rw[D]at k |-;rw[e];refine fO 46 [(5,270,[30,31,32,33,34,35,36,37,38,39,40,41,43,44,0,1,2,3,4,5,6,7,8,9,10,11,12,1000,1001,1002,13,14,15])] Tryz.func421 rfl ?_ (.inr k)
  repeat'(first|refine gE ?_|(conv=>whnf);first|with_reducible (first|refine CE (aa d) ?_|refine CO ω (aa d) ?_)|refine CC ?_|refine C9 (w) ?_|refine C9 (p) ?_|refine C9 (q) ?_|refine CG rfl (aa d) rfl ?_|refine CY b rfl (by rw[I1];omega) (aV λ_=>rfl) W4 ?_|refine CX (λ_=>rfl) (λ_=>rfl) (by rw[C2];omega) (by decide) ?_|refine CS (λ_=>rfl) (λ_=>rfl) (by rw[C2];omega) (by decide) ?_|refine CC ?_|refine CQ rfl rfl (aa d) rfl (O1 rfl) rfl ?_)
  rfl
 have t:=key.fzR;rw[f6,Cg]at t;exact t
def Dx(r:aD)(id a v:Int)(m:Nat)(h:sD r m)(l:m<=1000)(u:0<=v/\v<=999):∃b:Bool,zzA 419 false [.val (some 2) (aD.enc .V r),.val none [I id],.val none [I a],.val none [I v]] (.tup [some 2,none]) (aD.enc .V (eH r id a v)++[B b]):=by
 by_cases i:0<=oS r id
 ·by_cases d:0<=a/\a<=(nth r.O (oS r id).toNat).T.length - 1
  ·exact⟨true,zr r id a v m h l i d u⟩
  refine⟨false,?_⟩;have c:=h.sml l;have o:=h.len;have n:=eM r c;have k:=iB r id c.1;obtain⟨C,D,E⟩:=fR (nP id) r.O i;obtain⟨j,p⟩:=O3 i;have e:j<r.O.length:=by unfold oS at p;omega
  have q:=au e;have w:(nth r.O j).T.length<=1048576:=c.2 _ (ar e);have y:eH r id a v=r:=by unfold eH;rw[CB (λx=>d x.2.1)]
  rw[p]at k d;simp only[I3]at d;have t:=aJ a 0 (((nth r.O j).T.length:Nat) - 1:Int);rw[W0 d]at t;rw[y];have key:zzA 419 false [.val (some 2) (aD.enc .V r),.val none [I id],.val none [I a],.val none [I v]] (.tup [some 2,none]) (aD.enc .own r++[B false]):=by
   refine fO 48 [] Tryz.func419 rfl ?_ (.inr (nI r (B false) trivial))
   repeat'(first|refine gE ?_|(conv=>whnf);first|with_reducible refine CE (aa q) ?_|refine CC ?_|refine C9 (n) ?_|refine C9 (k) ?_|refine C9 (t) ?_|refine CG rfl (aa q) rfl ?_)
   rfl
  have g:=key.fzR;rw[f6,Cg]at g;exact g
 refine⟨false,?_⟩;have c:=h.sml l;have n:=eM r c;have k:=iB r id c.1;rw[show eH r id a v=r by unfold eH;rw[CB (λx=>i x.1)]];have key:zzA 419 false [.val (some 2) (aD.enc .V r),.val none [I id],.val none [I a],.val none [I v]] (.tup [some 2,none]) (aD.enc .own r++[B false]):=by
  refine fO 48 [] Tryz.func419 rfl ?_ (.inr (nI r (B false) trivial))
  repeat'(first|refine gE ?_|(conv=>whnf);first|refine CC ?_|refine C9 (n) ?_|refine C9 (k) ?_)
  rfl
 have g:=key.fzR;rw[f6,Cg]at g;exact g
def GA(r:aD)(id n:Int)(m:Nat)(g:sD r m)(k:m<=1000):∃b:Bool,zzA 421 false [.val (some 2) (aD.enc .V r),.val none [I id],.val none [I n]] (.tup [some 2,none]) (aD.enc .V (fE r id n)++[B b]):=by
 by_cases h:0<=oS r id
 ·by_cases c:1<=n/\n<=(nth r.O (oS r id).toNat).T.length
  ·exact⟨true,BQ r id n m g k h c⟩
  refine⟨false,?_⟩;have a:=g.sml k;have o:=g.len;have l:=eM r a;have i:=iB r id a.1;obtain⟨y,C,D⟩:=fR (nP id) r.O h;obtain⟨j,p⟩:=O3 h;have d:j<r.O.length:=by unfold oS at p;omega
  have q:=au d;have u:(nth r.O j).T.length<=1048576:=a.2 _ (ar d);have w:fE r id n=r:=by unfold fE;rw[CB (λx=>c x.2)]
  rw[p]at i c;simp only[I3]at c;have t:=aJ n 1 (((nth r.O j).T.length:Nat):Int);rw[W0 c]at t;rw[w];have key:zzA 421 false [.val (some 2) (aD.enc .V r),.val none [I id],.val none [I n]] (.tup [some 2,none]) (aD.enc .own r++[B false]):=by
   refine fO 46 [(5,270,[30,31,32,33,34,35,36,37,38,39,40,41,43,44,0,1,2,3,4,5,6,7,8,9,10,11,12,1000,1001,1002,13,14,15])] Tryz.func421 rfl ?_ (.inr (nI r (B false) trivial))
   repeat'(first|refine gE ?_|(conv=>whnf);first|with_reducible refine CE (aa q) ?_|refine CC ?_|refine C9 (l) ?_|refine C9 (i) ?_|refine C9 (t) ?_|refine CG rfl (aa q) rfl ?_)
   rfl
  have e:=key.fzR;rw[f6,Cg]at e;exact e
 refine⟨false,?_⟩;have a:=g.sml k;have l:=eM r a;have i:=iB r id a.1;rw[show fE r id n=r by unfold fE;rw[CB (λx=>h x.1)]];have key:zzA 421 false [.val (some 2) (aD.enc .V r),.val none [I id],.val none [I n]] (.tup [some 2,none]) (aD.enc .own r++[B false]):=by
  refine fO 46 [(5,270,[30,31,32,33,34,35,36,37,38,39,40,41,43,44,0,1,2,3,4,5,6,7,8,9,10,11,12,1000,1001,1002,13,14,15])] Tryz.func421 rfl ?_ (.inr (nI r (B false) trivial))
  repeat'(first|refine gE ?_|(conv=>whnf);first|refine CC ?_|refine C9 (l) ?_|refine C9 (i) ?_)
  rfl
 have e:=key.fzR;rw[f6,Cg]at e;exact e
end Go.Proofs.YtiopgblagimpmaaGreat.Ab
