/- A job's steps: the reference's, all of a step. No condition. -/
import Derived.Test.YtiopgblagimpmaaGreatKyc
import Derived.Test.YtiopgblagimpmaaGreatKyf
import Derived.Test.YtiopgblagimpmaaGreatKye
import Derived.Test.YtiopgblagimpmaaGreatKyd
set_option linter.unusedVariables false
set_option linter.defProp false
set_option linter.unusedSimpArgs false
set_option linter.constructorNameAsVariable false
namespace Go.Proofs.YtiopgblagimpmaaGreat.Ab
open Go.RowKit
set_option maxRecDepth 20000
set_option maxHeartbeats 4000000
variable{k:ah}
def ng{j:cK} : jmay k j=true↔(aC k=true/\k.Calls≠100000)/\kj j=true/\(af k.F.Q j.X.a4).e≠0/\(af k.F.Q j.X.a2).e≠0/\(af k.F.Q j.X.a4).o≠(af k.F.Q j.X.a2).o:=by
 unfold jmay;simp only[I0,C0]
def na{p:cE}(h:fm p=true):p.T.length<=16:=by
 unfold fm at h;simp only[I0]at h;have a:∀i,i<p.T.length->(i:Int)<=nth p.T i:=λi=>by
  induction i with
  | zero=>
   intro a;have:=fB h.1 a;unfold mP at this;rw[C0]at this;exact this.1
  | succ i b=>
   intro a;have c:=b ω;have:=fB h.1 a;unfold mP at this;rw[C0]at this;have d:=this.2.2.resolve_left ω;rw[Nat.add_sub_cancel]at d;omega
 by_cases e:p.T.length<=16
 ·exact e
 exfalso;have c:=a 16 ω;have:=fB h.1 (show 16<p.T.length by omega);unfold mP at this;rw[C0]at this;omega
def Mq{j:cK}(h:kj j=true):cK.sml j:=by
 have:=na (dz.1 h).1;show j.X.T.length<=1048576;omega
def uY(h:aC k=true):dB k.F=true:=by
 unfold aC at h;simp only[I0]at h;exact h.1.2
def Em(k:ah)(j:cK)(p:jmay k j=true)(g:j.b0=3):zzB 578 false [.ptr (ah.enc .own k),.ptr (zz j)] [.ptr (ah.enc .own (jstep k j).1),.ptr (zz (jstep k j).2)] (.tup []) []:=by
 obtain⟨⟨a,r⟩,t,c,d,w⟩:=ng.1 p;obtain⟨h,H,J,K,L⟩:=dz.1 t;have y:=bv a;obtain⟨M,N,O,B,P⟩:=bY a c;have l:=(br.1 (aG.1 a).2.2.1).2.2;have C:=na h;have D:=(bf.1 (aG.1 a).2.1).2.2.1;unfold jstep;rw[CB ω,CB ω,CB ω,CD g];by_cases n:0<j.b
 ·rw[CD n]
  have o:=gt h (i:=(j.b - 1).toNat) ω;have E:=au (xs:=j.X.T) (i:=(j.b - 1).toNat) ω;have F:0<=j.X.a4*16+nth j.X.T (j.b - 1).toNat/\j.X.a4*16+nth j.X.T (j.b - 1).toNat<512:=ω
  have G:(j.X.a4*16+nth j.X.T (j.b - 1).toNat) / 16=j.X.a4:=ω
  have b:=HB k.F (j.X.a4*16+nth j.X.T (j.b - 1).toNat) 0 (uY a) y.1 F ω (λ_=>by rw[G];exact⟨B,ω,row16 a (f:=bP k j.X.a4) (by unfold bP;omega)⟩);generalize (jo k.F (j.X.a4*16+nth j.X.T (j.b - 1).toNat) 0).1=m at b |-;generalize (jo k.F (j.X.a4*16+nth j.X.T (j.b - 1).toNat) 0).2=e at b;refine fM 59 [(575,[2,0,0])] [(2,283,[20,21,22,23,24,25,26,27,28,29,30,31,32,33,34,35,36,37,38,39,40,41,42,19,43,44,4,0,1,2,3,4,5,6,7,8,9,10,11,12,13,14,15,16,17,18,19,20,21,22,23,24,25,26,27,1025,28])] [(0,0),(1,0)] Tryz.func578 rfl (λu q=>?_) (.inr trivial)
  repeat'(first|refine gE ?_|(conv=>whnf);first|refine CC ?_|refine CG (b) ⟨⟨rfl,aY.enc_fz k.F⟩,⟨rfl,rfl⟩,⟨rfl,rfl⟩,trivial⟩ ?_|refine CO ω (aa E) ?_|refine CC ?_)
  refine CH rfl rfl ?_;exact wC
 rw[CB n];have b:=oO k j.X.a2 2 a r d (.inr rfl);cases e:(jX k j.X.a2 2).2<;>rw[e]at b
 ·refine fM 59 [(575,[2,0,0])] [(2,283,[20,21,22,23,24,25,26,27,28,29,30,31,32,33,34,35,36,37,38,39,40,41,42,19,43,44,4,0,1,2,3,4,5,6,7,8,9,10,11,12,13,14,15,16,17,18,19,20,21,22,23,24,25,26,27,1025,28])] [(0,0),(1,0)] Tryz.func578 rfl (λu q=>?_) (.inr trivial)
  repeat'(first|refine gE ?_|(conv=>whnf);first|refine CC ?_|refine CL (b) (.inl rfl) ?_)
  refine CH rfl rfl ?_;rw[<-g];exact wC
 refine fM 59 [(575,[2,0,0])] [(2,283,[20,21,22,23,24,25,26,27,28,29,30,31,32,33,34,35,36,37,38,39,40,41,42,19,43,44,4,0,1,2,3,4,5,6,7,8,9,10,11,12,13,14,15,16,17,18,19,20,21,22,23,24,25,26,27,1025,28])] [(0,0),(1,0)] Tryz.func578 rfl (λu q=>?_) (.inr trivial)
 repeat'(first|refine gE ?_|(conv=>whnf);first|refine CC ?_|refine CL (b) (.inl rfl) ?_)
 refine CH rfl rfl ?_;exact wC
def ED(k:ah)(j:cK)(g:jmay k j=true):zzB 529 false [.ptr (ah.enc .own k),.ptr (zz j)] [.ptr (ah.enc .own (jstep k j).1),.ptr (zz (jstep k j).2)] (.tup []) []:=by
 obtain⟨⟨h,p⟩,B,c,b,l⟩:=ng.1 g;obtain⟨r,F,G,H,J⟩:=dz.1 B;have n:j.X.a2≠j.X.a4:=λe=>l (by rw[e])
 have C:=na r;by_cases d:j.b0=0
 ·have a:=oO k j.X.a2 1 h p b (.inl rfl)
  unfold jstep;rw[CD d];cases e:(jX k j.X.a2 1).2<;>rw[e]at a
  ·refine fM 80 [(575,[2,0,0]),(576,[2,0,0,0]),(577,[2,0,0]),(578,[2,2])] [(7,7,[27,28,29,30,31,32,33]),(9,14,[38,39,40,41,42,43,44,45,46,47,48,49,50,51])] [(0,0),(1,0)] Tryz.func529 rfl (λu q=>?_) (.inr trivial)
   repeat'(first|refine gB ?_|(conv=>whnf);first|refine CC ?_|refine CL (a) (.inl rfl) ?_)
   refine CH rfl rfl ?_;exact wC
  refine fM 80 [(575,[2,0,0]),(576,[2,0,0,0]),(577,[2,0,0]),(578,[2,2])] [(7,7,[27,28,29,30,31,32,33]),(9,14,[38,39,40,41,42,43,44,45,46,47,48,49,50,51])] [(0,0),(1,0)] Tryz.func529 rfl (λu q=>?_) (.inr trivial)
  repeat'(first|refine gB ?_|(conv=>whnf);first|refine CC ?_|refine CL (a) (.inl rfl) ?_)
  refine CH rfl rfl ?_;exact wC
 by_cases o:j.b0=1
 ·unfold jstep
  rw[CB d,CD o];by_cases t:j.b=j.X.T.length
  ·rw[CD t]
   refine fM 80 [(575,[2,0,0]),(576,[2,0,0,0]),(577,[2,0,0]),(578,[2,2])] [(7,7,[27,28,29,30,31,32,33]),(9,14,[38,39,40,41,42,43,44,45,46,47,48,49,50,51])] [(0,0),(1,0)] Tryz.func529 rfl (λu q=>?_) (.inr trivial)
   repeat'(first|refine gB ?_|(conv=>whnf);first|refine CC ?_|refine CC ?_)
   refine CH rfl rfl ?_;exact wC
  rw[CB t];have D:=au (xs:=j.X.T) (i:=j.b.toNat) ω;have a:=Ar k j.X.a2 j.X.a4 (nth j.X.T j.b.toNat) h b c (gt r ω);have E:=(ng.1 g).2.1;refine fM 80 [(575,[2,0,0]),(576,[2,0,0,0]),(577,[2,0,0]),(578,[2,2])] [(7,7,[27,28,29,30,31,32,33]),(9,14,[38,39,40,41,42,43,44,45,46,47,48,49,50,51])] [(0,0),(1,0)] Tryz.func529 rfl (λu q=>?_) (.inr trivial)
  repeat'(first|refine gB ?_|(conv=>whnf);first|refine CC ?_|refine CL a (.inr ⟨rfl,Ce _,trivial⟩) ?_|refine CO ω (aa D) ?_|refine CC ?_)
  refine CH rfl rfl ?_;exact wC
 by_cases w:j.b0=2
 ·have a:=Js k j.X.a2 j.X.a4 h p b c n
  unfold jstep;rw[CB d,CB o,CD w];cases e:(w8 k j.X.a2 j.X.a4).2<;>rw[e]at a
  ·refine fM 80 [(575,[2,0,0]),(576,[2,0,0,0]),(577,[2,0,0]),(578,[2,2])] [(7,7,[27,28,29,30,31,32,33]),(9,14,[38,39,40,41,42,43,44,45,46,47,48,49,50,51])] [(0,0),(1,0)] Tryz.func529 rfl (λu q=>?_) (.inr trivial)
   repeat'(first|refine gB ?_|(conv=>whnf);first|refine CC ?_|refine CL (a) (.inl rfl) ?_)
   refine CH rfl rfl ?_;exact wC
  refine fM 80 [(575,[2,0,0]),(576,[2,0,0,0]),(577,[2,0,0]),(578,[2,2])] [(7,7,[27,28,29,30,31,32,33]),(9,14,[38,39,40,41,42,43,44,45,46,47,48,49,50,51])] [(0,0),(1,0)] Tryz.func529 rfl (λu q=>?_) (.inr trivial)
  repeat'(first|refine gB ?_|(conv=>whnf);first|refine CC ?_|refine CL (a) (.inl rfl) ?_)
  refine CH rfl rfl ?_;exact wC
 by_cases y:j.b0=3
 ·have a:=Em k j g y
  refine fM 80 [(575,[2,0,0]),(576,[2,0,0,0]),(577,[2,0,0]),(578,[2,2])] [(7,7,[27,28,29,30,31,32,33]),(9,14,[38,39,40,41,42,43,44,45,46,47,48,49,50,51])] [(0,0),(1,0)] Tryz.func529 rfl (λu q=>?_) (.inr trivial)
  repeat'(first|refine gB ?_|(conv=>whnf);first|refine CC ?_|refine CL (a) (.inl rfl) ?_)
  refine CH rfl rfl ?_;exact wC
 unfold jstep;rw[CB d,CB o,CB w,CB y];refine fM 80 [(575,[2,0,0]),(576,[2,0,0,0]),(577,[2,0,0]),(578,[2,2])] [(7,7,[27,28,29,30,31,32,33]),(9,14,[38,39,40,41,42,43,44,45,46,47,48,49,50,51])] [(0,0),(1,0)] Tryz.func529 rfl (λu q=>?_) (.inr trivial)
 repeat'(first|refine gB ?_|(conv=>whnf);first|refine CC ?_)
 refine CH rfl rfl ?_;exact wC
def EP(k:ah)(j:cK)(e:aC k=true)(i:kj j=true):zzA 528 false [.val (some 5) (ah.enc .V k),.val (some 5) (cK.enc .V j)] .one [B (jmay k j)]:=by
 have c:=bv e;have b:dG (ah.enc .V k)=ah.enc .V k:=by rw[<-CR k,tV]
 have r:=(aG.1 e).2.2.2.2;have a:=my k c;rw[e]at a;have d:=y2 j (Mq i);rw[i]at d;have l:=eP k j.X.a4 c.1.2;have n:=eP k j.X.a2 c.1.2;have t:=dq k.F.Q j.X.a4 c.1.2;have u:=dq k.F.Q j.X.a2 c.1.2;by_cases o:k.Calls=100000
 ·rw[W0 ω]at a
  rw[show jmay k j=false by rw[<-C6,ng];exact λh=>h.1.2 o];refine fO 44 [(3,16,[27,28,29,30,31,32,33,34,35,36,37,38,39,40,41,42])] Tryz.func528 rfl ?_
  repeat'(first|refine gP ?_|(conv=>whnf);first|refine CC ?_|refine C9 (a) ?_|refine C9 (d) ?_)
  rfl
 rw[O0 ω]at a;by_cases p:(af k.F.Q j.X.a4).e=0
 ·rw[show jmay k j=false by rw[<-C6,ng];exact λh=>h.2.2.1 p]
  refine fO 44 [(3,16,[27,28,29,30,31,32,33,34,35,36,37,38,39,40,41,42])] Tryz.func528 rfl ?_
  repeat'(first|refine gB ?_|(conv=>whnf);first|refine CC ?_|refine C9 (a) ?_|refine C9 (d) ?_|refine CG (l) ⟨b,⟨rfl,rfl⟩,trivial⟩ ?_|refine CG (n) ⟨b,⟨rfl,rfl⟩,trivial⟩ ?_)
  rfl
 by_cases q:(af k.F.Q j.X.a2).e=0
 ·rw[show jmay k j=false by rw[<-C6,ng];exact λh=>h.2.2.2.1 q]
  refine fO 44 [(3,16,[27,28,29,30,31,32,33,34,35,36,37,38,39,40,41,42])] Tryz.func528 rfl ?_
  repeat'(first|refine gB ?_|(conv=>whnf);first|refine CC ?_|refine C9 (a) ?_|refine C9 (d) ?_|refine CG (l) ⟨b,⟨rfl,rfl⟩,trivial⟩ ?_|refine CG (n) ⟨b,⟨rfl,rfl⟩,trivial⟩ ?_)
  rfl
 refine fO 44 [(3,16,[27,28,29,30,31,32,33,34,35,36,37,38,39,40,41,42])] Tryz.func528 rfl ?_
 repeat'(first|refine gB ?_|(conv=>whnf);first|refine CC ?_|refine C9 (a) ?_|refine C9 (d) ?_|refine CG (l) ⟨b,⟨rfl,rfl⟩,trivial⟩ ?_|refine CG (n) ⟨b,⟨rfl,rfl⟩,trivial⟩ ?_|refine C9 (t) ?_|refine C9 (u) ?_|refine CC ?_)
 exact Z0 (λz=>[B z]) (by
   unfold jmay;rw[e,i,O0 o];by_cases g:(af k.F.Q j.X.a4).o=(af k.F.Q j.X.a2).o
   · rw[W0 (λh=>h.2.2 g)];simp[g]
   rw[O0 ⟨p,q,g⟩];simp[g])
def Ei(j:cK):zzA 530 false [.val (some 5) (cK.enc .V j)] .one [B (over j)]:=by
 by_cases a:j.b0=4
 ·rw[show over j=true from O0 (.inl a)]
  refine fO 11 [] Tryz.func530 rfl ?_
  repeat'(first|refine gB ?_|(conv=>whnf);first|refine CC ?_)
  rfl
 rw[show over j=decide (j.b0=5) from decide_eq_decide.2 ω];refine fO 11 [] Tryz.func530 rfl ?_
 repeat'(first|refine gB ?_|(conv=>whnf);first|refine CC ?_)
 exact Z0 (λz=>[B z]) (by rw[C5];simp)
def Lf(x:ac):List C:=(bF x).set 21 .z
def GB{x:ac}(h:x.Z.X.T=[]):PQ (Lf x) (bF x):=by
 unfold Lf bF;simp only[List.set,h,List.map_nil]
 repeat'(first|exact trivial|exact eK _|refine CM ?_ ?_|rfl)
def Ew(h:ac)(j:aZ h [])(k:h.u=true):zzB 431 false [.ptr (bF h)] [.ptr (bF (mStep h))] .one [B (GF h)]:=by
 obtain⟨l,-,-⟩:=j.job k;have b:=EP h.G h.Z j.ker l;have a:=Ei (hO h.G h.Z).2;unfold GF mStep;cases e:jmay h.G h.Z with
 | false=>
  rw[e]at b;have d:hO h.G h.Z=(h.G,h.Z):=by unfold hO;rw[e];rfl
  rw[d]at a |-;simp only at a |-;cases g:over h.Z<;>rw[g]at a
  ·refine fM 39 [(529,[3,5,5])] [(1,8,[4,5,6,7,8,9,10,11]),(2,6,[13,14,15,16,17,18])] [(0,0)] Tryz.func431 rfl (λu q=>?_)
   repeat'(first|refine gP ?_|(conv=>whnf);first|refine CG (b) ⟨⟨rfl,CR h.G⟩,⟨rfl,rfl⟩,trivial⟩ ?_|refine C9 (a) ?_|refine CC ?_)
   refine CH rfl ?_ ?_
   ·exact Z0 (λz=>[B z]) (by rw[C5];simp)
   exact wC
  refine aM.wk (c:=Lf _) ?_ (GB rfl);refine fM 39 [(529,[3,5,5])] [(1,8,[4,5,6,7,8,9,10,11]),(2,6,[13,14,15,16,17,18])] [(0,0)] Tryz.func431 rfl (λu q=>?_)
  repeat'(first|refine gP ?_|(conv=>whnf);first|refine CG (b) ⟨⟨rfl,CR h.G⟩,⟨rfl,rfl⟩,trivial⟩ ?_|refine C9 (a) ?_|refine CC ?_)
  refine CH rfl ?_ ?_
  ·exact Z0 (λz=>[B z]) (by rw[C5];simp)
  exact wC
 | true=>
  rw[e]at b;have d:hO h.G h.Z=jstep h.G h.Z:=by unfold hO;rw[e];rfl
  have i:=ED h.G h.Z e;rw[d]at a |-;generalize jstep h.G h.Z=r at i a |-;cases g:over r.2<;>rw[g]at a
  ·refine fM 39 [(529,[3,5,5])] [(1,8,[4,5,6,7,8,9,10,11]),(2,6,[13,14,15,16,17,18])] [(0,0)] Tryz.func431 rfl (λu q=>?_)
   repeat'(first|refine gP ?_|(conv=>whnf);first|refine CG (b) ⟨⟨rfl,CR h.G⟩,⟨rfl,rfl⟩,trivial⟩ ?_|refine C9 (a) ?_|refine CL (i) (.inl rfl) ?_|refine CC ?_)
   refine CH rfl ?_ ?_
   ·exact Z0 (λz=>[B z]) (by rw[C5];simp)
   exact wC
  refine aM.wk (c:=Lf _) ?_ (GB rfl);refine fM 39 [(529,[3,5,5])] [(1,8,[4,5,6,7,8,9,10,11]),(2,6,[13,14,15,16,17,18])] [(0,0)] Tryz.func431 rfl (λu q=>?_)
  repeat'(first|refine gP ?_|(conv=>whnf);first|refine CG (b) ⟨⟨rfl,CR h.G⟩,⟨rfl,rfl⟩,trivial⟩ ?_|refine C9 (a) ?_|refine CL (i) (.inl rfl) ?_|refine CC ?_)
  refine CH rfl ?_ ?_
  ·exact Z0 (λz=>[B z]) (by rw[C5];simp)
  exact wC
def Ld{k:Int} : ∀{l s s2 c:List Int}(n:Nat),(∀x∈s2,x∈s)->sI k s l=some c->∃d,sI k s2 (l.take n)=some d/\∀x∈d,x∈c
 | [],s,s2,c,n,h,e=>by
  simp only[sI,C1,List.take_nil]at e |-;subst e;exact⟨s2,rfl,h⟩
 | a::l,s,s2,c,0,h,e=>⟨s2,rfl,λx b=>(pC (λ_ y=>y) e).1 x (h x b)⟩
 | a::l,s,s2,c,n+1,h,e=>by
  simp only[List.take_succ_cons,sI]at e |-;split at e
  ·rename_i g
   rw[CD (show good k s2 a from⟨g.1,g.2.1,g.2.2.1,λx=>g.2.2.2 (h a x)⟩)];exact Ld (l:=l) (s:=s++[a]) (s2:=s2++[a]) n (λx b=>by
     rcases V3.1 b with b|b
     · exact V3.2 (.inl (h x b))
     exact V3.2 (.inr b)) e
  cases e
def GP:∀{a:List (List Int)}{k:Nat}{s s2:List Int}(i n:Nat),(∀x∈s2,x∈s)->(gR k s a).isSome=true->(gR k s2 (a.set i ((nth a i).take n))).isSome=true
 | [],_,_,_,_,_,_,_=>rfl
 | l::a,k,s,s2,i,n,h,e=>by
  simp only[gR,fG]at e;split at e
  ·rename_i g
   cases b:sI k s l with
   | none=>rw[b]at e;cases e
   | some j=>
    rw[b]at e;cases i with
    | zero=>
     obtain⟨c,d,f⟩:=Ld n h b;simp only[List.set_cons_zero,gR,fG];rw[CD ⟨by have:=g.1;simp only[nth,List.getD_cons_zero,C2];omega,g.2⟩];show((sI (k:Nat) s2 (l.take n)).bind λj=>gR (k+1) j a).isSome=true;rw[d];exact uo f e
    | succ i=>
     obtain⟨o,c,d,f⟩:=pC h b;simp only[List.set_cons_succ,gR,fG];rw[CD g,d];exact GP i n f e
  cases e
def KG{c:aE}(h:bx c=true)(k:Nat):bx (qM c k)=true:=by
 unfold bx at h |-;simp only[I0,C0]at h |-;exact⟨by simp only[qM,Z1];exact h.1,GP k _ (λ_ h=>h) h.2⟩
def lN(b:Int):Nat->List Int
 | 0=>[]
 | j+1=>if bc b (j:Nat)=true then lN b j else lN b j++[((j:Nat):Int)]
def uz{b:Int} : ∀{n:Nat}{z:Int},z∈lN b n->0<=z/\z<n/\bc b z=false
 | 0,_,h=>by cases h
 | n+1,z,h=>by
  unfold lN at h;split at h
  ·have:=uz h;exact⟨this.1,ω,this.2.2⟩
  rename_i e;rcases V3.1 h with h|h
  ·have:=uz h;exact⟨this.1,ω,this.2.2⟩
  rw[V1.1 h];exact⟨ω,ω,by simpa using e⟩
def qG(b:Int):∀n,(lN b n).length<=n
 | 0=>W3 _
 | n+1=>by have:=qG b n;unfold lN;split<;>simp<;>omega
def oI(k b:Int):List Int:=if L0 k b=true then lN b (slots k).toNat else []
def gL(h:ac)(i:Nat):List Int:=oI (nth h.K i).d (dL h i)
def rH{k b z:Int}(h:z∈oI k b):0<=z/\z<slots k/\bc b z=false:=by
 unfold oI at h;split at h
 ·have:=uz h;exact⟨this.1,ω,this.2.2⟩
 cases h
def y7(k b:Int):(oI k b).length<=16:=by
 unfold oI;split
 ·rename_i h
  unfold L0 at h;rw[C0]at h;have:=(gr (k:=k) ⟨h.1,h.2.1⟩).2.2.1;have:=qG b (slots k).toNat;omega
 exact X0 _
def nt(h:ac)(i:Nat):Int:=nth (gL h i) (KN h.b3 ((gL h i).length:Nat)).toNat
def slotT(h:ac)(i:Nat):ac:={h with b3:=Aw h.b3,K:=h.K.set i (qL (nth h.K i) (nt h i))}
def pB(h:ac)(i:Nat):Int:=16*(nth h.K i).R+nt h i*csz (nth h.K i).d
variable{i:Nat}{h:ac}
def ve(a:0<(gL h i).length):nt h i∈gL h i:=by
 have:=sq h.b3 (n:=((gL h i).length:Nat)) ω;exact ar ω
def aZ.slotT{h:ac}{E:List Int}{i:Nat}(a:aZ h E)(b:i<h.K.length)(e:0<(gL h i).length):aZ (slotT h i) (pB h i::E)/\j9 (slotT h i).K (pB h i) (nth h.K i).d:=by
 obtain⟨c,d,f⟩:=rH (ve e);exact⟨a.take b ⟨c,d⟩ f (D7 _),(j9.setS a.L b ⟨c,d⟩ _ _).2 (.inr ⟨rfl,.inr rfl⟩)⟩
def nU(h:ac)(c:Int)(i:Nat):Bool:=decide ((nth h.K i).d=c)&&(!fH h (nth h.K i).R&&decide (0<(gL h i).length))
def og(h:ac)(c:Int):Option Nat:=(List.range h.K.length).find? (nU h c)
def mg(h:ac)(c:Int):ac:=addS h (newK h.G (ax h.j 1).2.1).1 (ax h.j 1).1 (ax h.j 1).2.1 c
def mc(h:ac):Nat:=jg (D8 (ax h.j 1).2.1) h.K
def iN(h:ac)(i:Nat):ac × Int:=if(gL h i).length=0 then(h,-1) else(slotT h i,pB h i)
def smallA(h:ac)(t c:Nat):ac × Int:=
 if 0<(nth (nth h.S t).a c).length then({h with S:=h.S.set t (qM (nth h.S t) c)},nth (nth (nth h.S t).a c) ((nth (nth h.S t).a c).length - 1))
 else match og h c with
 | some i=>(slotT h i,pB h i)
 | none=>if(ax h.j 1).2.2=false then(h,-1)
  else if(newK h.G (ax h.j 1).2.1).2=false then({h with G:=(newK h.G (ax h.j 1).2.1).1},-1)
  else iN (mg h c) (mc h)
variable{α:Type}
def Db[Inhabited α](p:α->Bool)(xs:List α)(y:α):jg p xs<(ju p xs y).length/\nth (ju p xs y) (jg p xs)=y:=by
 have b:=QG p xs;have a:(xs.take (jg p xs)).length=jg p xs:=by rw[C2];omega
 refine⟨by rw[(lw p xs y).length_eq,List.length_cons];omega,bn ?_⟩;unfold ju;rw[v5 ω,a,Nat.sub_self]
 rfl
def aZ.tEq{h:ac}{E:List Int}(a:aZ h E){k:ah}(c:aC k=true)(b:tEq (tbl h) k.F.Q):aZ {h with G:=k} E/\JK h {h with G:=k}:=
 ⟨a.step (j:=h.Z) (m:=h.u) c b.1 (a.pg.tEq b) a.job a.noj,⟨rfl,rfl,λs d _=>⟨s,d,rfl,λ_ z=>z⟩,λq e=>.inl ⟨(b.2 q).1.1 e,(b.2 q).2⟩⟩⟩
structure U4(h:ac)(c:Int)(r:ac × Int):Prop where
 no:r.2<0->aZ r.1 []
 yes:0<=r.2->aZ r.1 [r.2]/\j9 r.1.K r.2 c
 jk:JK h r.1
 nx:r.1.b=h.b
 cl:r.1.S.length=h.S.length
variable{a c:Int}{E:List Int}
def j9.nn(b:aZ h E)(d:j9 h.K a c):0<=a:=(j9.bd b d).1
def U4.slot{h':ac}(g:aZ h' [])(j:i<h'.K.length)(k:0<(gL h' i).length)(l:(nth h'.K i).d=c)(n:JK h h')(a:fH h' (nth h'.K i).R=false)(h1:h'.b=h.b)(o:h'.S.length=h.S.length):U4 h c (slotT h' i,pB h' i):=by
 obtain⟨d,f⟩:=g.slotT j k;have b:=j9.nn d f;exact⟨λe=>absurd b (by simp only at e;omega),λ_=>⟨d,by rw[<-l];exact f⟩,n.trans (JK.take a),h1,o⟩
variable{t:Nat}
def ny{c:Nat}(a:aZ h [])(q:t<h.S.length)(P:c<=3)(B:h.G.Calls<=90000):U4 h c (smallA h t c):=by
 have f:=a.cach _ (ar q);have C:=m8 f;unfold smallA;split
 ·rename_i D
  obtain⟨d,b⟩:=a.pop q ω D (KG f c);have l:=j9.nn a b;exact⟨λe=>absurd l (by simp only at e;omega),λ_=>⟨d,b⟩,JK.eq rfl rfl rfl rfl,rfl,Z1 ..⟩
 split
 ·rename_i i r
  have g:=List.find?_some r;have E:=List.mem_range.1 (List.mem_of_find?_eq_some r);unfold nU at g;simp only[I0,C0,Bool.not_eq_true']at g;exact U4.slot a E g.2.2 g.1 (JK.refl h) g.2.1 rfl rfl
 split
 ·exact⟨λ_=>a,λe=>absurd e (by show ¬(0:Int)<=-1;decide),JK.refl h,rfl,rfl⟩
 rename_i F;have j:(ax h.j 1).2.2=true:=by simpa using F
 obtain⟨G,H,J,u⟩:=ix a (V5 1) j;have s:=wm.of (p:=(ax h.j 1).2.1) a.ker ω ⟨G,by have:(ax h.j 1).2.1+1<=(h.G.F.Q.J.length:Nat):=H;omega⟩ (J _ ω ω);split
 ·rename_i n
  rw[s.no n];obtain⟨d,b⟩:=a.tEq (nu a.ker ω) (tEq.refl _);exact⟨λ_=>d,λe=>absurd e (by show ¬(0:Int)<=-1;decide),b,rfl,rfl⟩
 rename_i n;have o:(newK h.G (ax h.j 1).2.1).2=true:=by simpa using n
 have w:wm h.G (ax h.j 1).2.1 ((newK h.G (ax h.j 1).2.1).1,true):=by rw[<-o];exact s
 have d:=a.addS (c:=c) ⟨ω,ω⟩ j w;have b:JK h (mg h c):=JK.addS w;obtain⟨K,A⟩:=Db (D8 (ax h.j 1).2.1) h.K ⟨(ax h.j 1).2.1,c,0⟩;unfold iN;split
 ·exact⟨λ_=>d,λe=>absurd e (by show ¬(0:Int)<=-1;decide),b,rfl,rfl⟩
 refine U4.slot (h':=mg h c) (i:=mc h) d K ω (by show(nth (ju (D8 (ax h.j 1).2.1) h.K ⟨(ax h.j 1).2.1,c,0⟩) (mc h)).d=_;unfold mc;rw[A]) b ?_ rfl rfl;show fH (mg h c) (nth (ju (D8 (ax h.j 1).2.1) h.K ⟨(ax h.j 1).2.1,c,0⟩) (mc h)).R=false;unfold mc;rw[A,b.pg];rw[<-C6];intro k;unfold fH at k;simp only[I0,C7,C0]at k;obtain⟨-,⟨y,L,M⟩,⟨z,N,O⟩⟩:=a.job k.1;rcases k.2 with e|e
 ·exact u _ (V5 _) ω (by rw[e,<-M];exact d9 L)
 exact u _ (V5 _) ω (by rw[e,<-O];exact d9 N)
def gk(size:Int):Nat:=((size+15) / 16).toNat
def dE(h:ac)(size:Int):ah × Nat:=newsK h.G (ax h.j (gk size:Nat)).2.1 (gk size)
def largeA(h:ac)(t size:Int):ac × Int × Int:=
 if(ax h.j (gk size:Nat)).2.2=false then(h,-1,4)
 else if(dE h size).2=gk size then(addL h (dE h size).1 (ax h.j (gk size:Nat)).1 (ax h.j (gk size:Nat)).2.1 (gk size:Nat) size t,16*(ax h.j (gk size:Nat)).2.1,0)
 else({h with G:=unmN (dE h size).1 (ax h.j (gk size:Nat)).2.1 (dE h size).2},-1,4)
def rE(xs:List bt):Nat->Int
 | 0=>0
 | i+1=>rE xs i+(nth xs i).q
def iS(h:ac):Int:=rE h.O h.O.length
def allocH(h:ac)(t size:Int):ac × Int × Int:=
 if 1000000<=h.b\/90000<h.G.Calls then(h,-1,5)
 else if ¬(0<=t/\t<=h.S.length - 1) then(h,-1,1)
 else if ¬(1<=size/\size<=1000) then(h,-1,2)
 else if h.b1<iS h+size then(h,-1,3)
 else if 0<=aN size then(if(smallA h t.toNat (aN size).toNat).2<0 then((smallA h t.toNat (aN size).toNat).1,-1,4) else(addO (smallA h t.toNat (aN size).toNat).1 (smallA h t.toNat (aN size).toNat).2 size t,(smallA h t.toNat (aN size).toNat).2,0))
 else largeA h t size
variable{size:Int}
def Bo{t:Int}(a:aZ h [])(g:9<=size/\size<=1000)(i:h.b<1000000)(j:h.G.Calls<=90000)(k:0<=t/\t<=h.S.length - 1):aZ (largeA h t size).1 []/\JK h (largeA h t size).1:=by
 have l:(gk size:Int)=(size+15) / 16:=by unfold gk;omega
 unfold largeA;split
 ·exact⟨a,JK.refl h⟩
 rename_i o;have b:(ax h.j (gk size:Nat)).2.2=true:=by simpa using o
 obtain⟨c,d,e,w⟩:=ix a (show(1:Int)<=(gk size:Nat) by omega) b;have s:=jz.of (p:=(ax h.j (gk size:Nat)).2.1) (n:=gk size) a.ker ω ⟨c,d⟩ e (gk size) (W3 _);split
 ·rename_i q
  have f:jz h.G (ax h.j (gk size:Nat)).2.1 (gk size) ((dE h size).1,gk size):=by
   have:((dE h size).1,gk size)=dE h size:=by rw[<-q]
   rw[this];exact s
  exact⟨a.addL g l b f i k,JK.addL f⟩
 obtain⟨r,u⟩:=s.undo a.ker ⟨c,d⟩ e;exact a.tEq r u
def qH{t:Int}(a:aZ h []):aZ (allocH h t size).1 []/\JK h (allocH h t size).1:=by
 unfold allocH;split
 ·exact⟨a,JK.refl h⟩
 rename_i d;rw[not_or]at d;split
 ·exact⟨a,JK.refl h⟩
 rename_i n;split
 ·exact⟨a,JK.refl h⟩
 rename_i o;split
 ·exact⟨a,JK.refl h⟩
 split
 ·rename_i b
  have f:aN size<=3:=by unfold aN;repeat' split<;>omega
  have s:=ny (t:=t.toNat) (c:=(aN size).toNat) a ω ω ω;generalize smallA h t.toNat (aN size).toNat=r at s;split
  ·rename_i e;exact⟨s.no e,s.jk⟩
  rename_i e;obtain⟨g,i⟩:=s.yes ω;refine⟨g.addO (.inl ?_) (by rw[s.nx];omega) (by rw[s.cl];omega),s.jk.trans (JK.eq rfl rfl rfl rfl)⟩;obtain⟨z,j,k,p⟩:=i;exact⟨z,j,k,by show z.d=aN size;omega⟩
 rename_i b;have l:9<=size:=by
  unfold aN at b
  repeat' split at b<;>omega
 exact Bo a ⟨l,ω⟩ ω ω ω
def kW{β:Type}[Inhabited α]{f:α->β}{xs:List α}{y:α}(a:i<xs.length)(e:f y=f (nth xs i)):(xs.set i y).map f=xs.map f:=by
 rw[Z6];refine List.ext_getElem (by simp) λj b c=>?_
 rw[List.getElem_set];split
 ·rename_i g;subst g
  rw[List.getElem_map,e,bn (X2 a)]
 rfl
def oZ{α β:Type}[Inhabited α](f:α->List β):∀(xs:List α)(i:Nat)(y:α),i<xs.length->(f y).Sublist (f (nth xs i))->((xs.set i y).flatMap f).Sublist (xs.flatMap f)
 | [],_,_,h,_=>absurd h (Nat.not_lt_zero _)
 | x::xs,0,y,_,a=>by
  rw[List.set_cons_zero,V7,V7];exact List.Sublist.append a (List.Sublist.refl _)
 | x::xs,i+1,y,h,a=>by
  rw[List.set_cons_succ,V7,V7];exact List.Sublist.append (List.Sublist.refl _) (oZ f xs i y (by simpa using h) a)
def zK(k:ah)(a:Int):Nat->ah
 | 0=>k
 | m+1=>dI (zK k a m) (a+m) 0
def ox(k:ah)(a:Int):∀m,(zK k a m).F.Q=k.F.Q/\(zK k a m).Calls=k.Calls/\(zK k a m).w=k.w
 | 0=>⟨rfl,rfl,rfl⟩
 | m+1=>ox k a m
def NH{k:ah}(h:aC k=true){a:Int} : ∀{m:Nat},(∀j:Nat,j<m->(af k.F.Q ((a+j) / 16)).e≠0)->aC (zK k a m)=true
 | 0,_=>h
 | m+1,b=>xc (NH h λj c=>b j ω) (by rw[(ox k a m).1];exact b m ω) ⟨ω,ω⟩
variable{n:Nat}
theorem Jr(j:aZ h E){sp:List aA}{la:List aF}{o:List aB}{p:Int}(y:p+n<=h.G.F.Q.J.length)(A:sp.Sublist h.K)(M:∀l∈la,∀q∈lpgs l l.a3.toNat,∃w∈h.M,q∈lpgs w w.a3.toNat)(N:0<=p)(B:∀q,q∈pgs sp la↔q∈pgs h.K h.M/\¬(p<=q/\q<p+n))(O:∀q,RH o q↔RH h.j q\/(p<=q/\q<p+n)) :
  Pg (unmN h.G p n).F.Q o sp la:=by
 have b:=(fj h.G p n).1;have d:=nw j.ker N n y;have f:∀q:Nat,(q:Int)∈pgs sp la->nth (unmN h.G p n).F.Q.J q=nth (tbl h).J q:=λq c=>by rw[d,CB ((B q).1 c).2];rfl
 have a:∀q:Nat,(nth (unmN h.G p n).F.Q.J q).e≠0↔(nth (tbl h).J q).e≠0/\¬(p<=q/\(q:Int)<p+n):=λq=>by
  rw[d];by_cases e:p<=q/\(q:Int)<p+n
  ·rw[CD e];exact⟨λx=>absurd rfl x,λx=>absurd e x.2⟩
  rw[CB e];exact⟨λx=>⟨x,e⟩,λx=>x.1⟩
 refine⟨λl g q c r J C k=>?_,λq c=>?_,λq c=>?_,λq c=>?_,λs g u D F K=>?_⟩
 ·have t:=(a r).1 C
  rw[b]at J;rw[f q (gl g c),d,CB t.2]at k;obtain⟨w,G,H⟩:=M l g _ c;exact j.pg.one w G q H r J t.1 k
 ·rw[b];exact j.pg.bnd q ((B q).1 c).1
 ·rw[b]at c
  rw[a,B,j.pg.own q c]
 ·rw[b]at c
  rw[a,O,j.pg.fre q c]
  grind
 have i:∀s∈sp,0<=s.R:=λs g=>(aI (j.L.sok s (A.subset g))).1
 have P:=f s.R.toNat (by rw[Int.toNat_of_nonneg (i s g)];exact d9 g);have Q:=f u.R.toNat (by rw[Int.toNat_of_nonneg (i u D)];exact d9 D);rw[P,Q]at K;exact j.pg.mesh s (A.subset g) u (A.subset D) F K
def trimL(l:aF)(size:Int):aF:=⟨l.R,(size+15) / 16,size⟩
def dA(l:aF)(size:Int):Nat:=(l.a3 - (size+15) / 16).toNat
def aZ.trimL{h:ac}{E:List Int}{i k:Nat}{size:Int}(t:aZ h E)(T:i<h.O.length)(H:k<h.M.length)(Y:(nth h.O i).Addr=16*(nth h.M k).R)(N:9<=size/\size<=(nth h.M k).q) :
  ∃o,(dA (nth h.M k) size=0->o=h.j)/\(0<dA (nth h.M k) size->dO (eU h) h.j ⟨(nth h.M k).R+(size+15) / 16,(dA (nth h.M k) size:Nat)⟩ = some o)/\
   aZ {h with G:=unmN h.G ((nth h.M k).R+(size+15) / 16) (dA (nth h.M k) size),M:=h.M.set k (trimL (nth h.M k) size),O:=h.O.set i {nth h.O i with q:=size},j:=o} E:=by
 have U:=t.L;have C:=U.lok _ (ar H);have hf:=aT C;unfold bR at C;rw[C0]at C;obtain⟨b1,b2⟩:=uX t H;have O:=U.dis;have G:=λj n=>U.one j k n H
 have y:=(ar H:nth h.M k∈h.M)
 have d:∀z∈h.M.set k (Ab.trimL (nth h.M k) size),z=Ab.trimL (nth h.M k) size\/∃j,j<h.M.length/\j≠k/\nth h.M j=z:=λz N=>ee N
 have p:Ab.trimL (nth h.M k) size∈h.M.set k (Ab.trimL (nth h.M k) size):=jl _ H;have u:∀j,j<h.M.length->j≠k->nth h.M j∈h.M.set k (Ab.trimL (nth h.M k) size):=λj n e=>jY _ n e
 have hpageM:(h.M.set k (Ab.trimL (nth h.M k) size)).map (·.R)=h.M.map (·.R):=kW H rfl;have w:(pgs h.K (h.M.set k (Ab.trimL (nth h.M k) size))).Sublist (pgs h.K h.M):=by
  unfold pgs;refine List.Sublist.append (List.Sublist.refl _) (oZ _ _ _ _ H ?_);unfold lpgs;exact(List.range_sublist.2 (by simp only[Ab.trimL];omega)).map _
 obtain⟨l,V⟩ : ∃l,nth h.M k=l:=⟨_,rfl⟩
 rw[V]at C hf b1 b2 G y d p u hpageM w Y N |-;generalize hla:h.M.set k (Ab.trimL l size)=la at d p u hpageM w |-;have hn1:(1:Int)<=(size+15) / 16/\(size+15) / 16+(dA l size:Nat)=l.a3:=by unfold dA;omega
 have D:∀q,q∈lpgs l l.a3.toNat↔l.R<=q/\q<l.R+l.a3:=λq=>by
  rw[d4];constructor
  ·rintro⟨j,n,rfl⟩;omega
  rintro⟨Z,q2⟩;exact⟨(q - l.R).toNat,ω,ω⟩
 have J:∀q,q∈lpgs (Ab.trimL l size) (Ab.trimL l size).a3.toNat↔l.R<=q/\q<l.R+(size+15) / 16:=λq=>by
  rw[d4];simp only[Ab.trimL];constructor
  ·rintro⟨j,n,rfl⟩;omega
  rintro⟨Z,q2⟩;exact⟨(q - l.R).toNat,ω,ω⟩
 have hpe:l.R+(size+15) / 16+(dA l size:Nat)=l.R+l.a3:=ω
 have P:∀q,q∈pgs h.K la↔q∈pgs h.K h.M/\¬(l.R+(size+15) / 16<=q/\q<l.R+(size+15) / 16+(dA l size:Nat)):=λq=>by
  rw[qo,qo,hpe];constructor
  ·rintro(⟨s,W,rfl⟩|⟨z,c,B⟩)
   ·exact⟨.inl ⟨s,W,rfl⟩,λe=>O s W l y (s.R - l.R).toNat ω ω⟩
   rcases d z c with rfl|⟨j,n,hjk,rfl⟩
   ·have:=(J q).1 B
    exact⟨.inr ⟨l,y,(D q).2 ⟨ω,ω⟩⟩,ω⟩
   refine⟨.inr ⟨_,ar n,B⟩,λe=>?_⟩;obtain⟨m,hm,rfl⟩:=d4.1 B;exact hjk (G j n m ((nth h.M j).R+(m:Int) - l.R).toNat hm ω ω)
  rintro⟨⟨s,W,rfl⟩|⟨z,c,B⟩,hne⟩
  ·exact .inl ⟨s,W,rfl⟩
  obtain⟨j,n,rfl⟩:=aQ c;by_cases e:j=k
  ·subst e
   rw[V]at B;have:=(D q).1 B;exact .inr ⟨_,p,(J q).2 ⟨ω,ω⟩⟩
  exact .inr ⟨_,u j n e,B⟩
 have K:∃o,(dA l size=0->o=h.j)/\(0<dA l size->dO (eU h) h.j ⟨l.R+(size+15) / 16,(dA l size:Nat)⟩ = some o)/\bG (eU h) o=true/\∀q,RH o q↔RH h.j q\/(l.R+(size+15) / 16<=q/\q<l.R+(size+15) / 16+(dA l size:Nat)):=by
  by_cases e:dA l size=0
  ·refine⟨h.j,λ_=>rfl,λg=>absurd g ω,t.rng,λq=>⟨.inl,λg=>g.resolve_right ω⟩⟩
  obtain⟨o,o1,o2,o3⟩:=vO (r:=⟨l.R+(size+15) / 16,(dA l size:Nat)⟩) t.rng ⟨by simp only;omega,by simp only;omega,by show l.R+(size+15) / 16+(dA l size:Nat)<=(eU h:Int);have:((tbl h).J.length:Int)=(eU h:Int):=rfl;omega⟩ λq Z q2=>by
   simp only at Z q2;obtain⟨m,rfl⟩:=O3 (show 0<=q by omega);have Q:m<(tbl h).J.length:=ω
   exact(t.pg.fre m Q).1 ((t.pg.own m Q).2 (gl y ((D _).2 ⟨ω,ω⟩)))
  exact⟨o,λg=>absurd g e,λ_=>o1,o2,o3⟩
 obtain⟨o,o0,o1,o2,o3⟩:=K;have R:=(fj h.G (l.R+(size+15) / 16) (dA l size)).1;have M:∀z∈h.O.set i {nth h.O i with q:=size},z = {nth h.O i with q:=size}\/∃j,j<h.O.length/\j≠i/\nth h.O j=z:=λz N=>ee N
 have F:(h.O.set i {nth h.O i with q:=size}).map (·.Addr)=h.O.map (·.Addr):=kW T rfl;have S:(h.O.set i {nth h.O i with q:=size}).map (·.Id)=h.O.map (·.Id):=kW T rfl;have hli:=(ar T:nth h.O i∈h.O)
 generalize h.O.set i {nth h.O i with q:=size} = ob at M F S |-;refine⟨o,o0,o1,{t with
   ker:=gZ t.ker _ _
   rng:=by show bG (((unmN h.G (l.R+(size+15) / 16) (dA l size)).F.Q.J.length:Nat):Int) o=true;rw[R];exact o2
   lay:=?_
   srl:=?_
   pg:=Jr t (by have:((tbl h).J.length:Int)=(h.G.F.Q.J.length:Int):=rfl;omega) (List.Sublist.refl _) (λz c q B=>?_) ω P o3
   osr:=?_
   onu:=λz c=>?_
   oid:=by show(ob.map (·.Id)).Nodup;rw[S];exact t.oid
   oow:=λz c=>?_
   nd:=?_
   mem:=λb=>?_}⟩
 ·obtain⟨l1,l2,l3⟩:=eA t.lay
  unfold bq;simp only[I0,C0];refine⟨⟨l1,O4.2 λz c=>?_⟩,l3.sublist w⟩;rcases d z c with rfl|⟨j,n,-,rfl⟩
  ·exact O0 ⟨N.1,by show size<=1000;omega,rfl,by show 0<=l.R;omega,by show l.R<=32 - (size+15) / 16;omega⟩
  exact U.lok _ (ar n)
 ·have A:(h.M.map (·.R)).Pairwise (λa b=>a<b):=List.pairwise_map.2 t.srl
  rw[<-hpageM]at A;exact List.pairwise_map.1 A
 ·rcases d z c with rfl|⟨j,n,-,rfl⟩
  ·have:=(J q).1 B
   exact⟨l,y,(D q).2 ⟨ω,ω⟩⟩
  exact⟨_,ar n,B⟩
 ·have A:(h.O.map (·.Addr)).Pairwise (λa b=>a<b):=List.pairwise_map.2 t.osr
  rw[<-F]at A;exact List.pairwise_map.1 A
 ·rcases M z c with rfl|⟨j,n,-,rfl⟩
  ·exact t.onu (nth h.O i) hli
  exact t.onu _ (ar n)
 ·rcases M z c with rfl|⟨j,n,hji,rfl⟩
  ·exact .inr ⟨_,p,Y,rfl⟩
  rcases t.oow _ (ar n) with A|⟨l',hl',e1,X⟩
  ·exact .inl A
  obtain⟨m,hm,rfl⟩:=aQ hl';by_cases e:m=k
  ·subst e
   rw[V]at e1;exact absurd (cQ (f:=(·.Addr)) (di t.osr) n T (e1.trans Y.symm)) hji
  exact .inr ⟨_,u m hm e,e1,X⟩
 ·have hh:holders {h with G:=unmN h.G (l.R+(size+15) / 16) (dA l size),M:=la,O:=ob,j:=o} = holders h:=by
   show((ob.map (·.Addr)++cJ h)++h.a7.a6.map (·.Addr))++aR h.y=_;rw[F];rfl
  rw[hh];exact t.nd
 have hh:holders {h with G:=unmN h.G (l.R+(size+15) / 16) (dA l size),M:=la,O:=ob,j:=o} = holders h:=by
  show((ob.map (·.Addr)++cJ h)++h.a7.a6.map (·.Addr))++aR h.y=_;rw[F];rfl
 rw[hh,t.mem b];show nB h.K h.M b↔nB h.K la b;unfold nB;constructor
 ·rintro(A|⟨z,c,e⟩)
  ·exact .inl A
  obtain⟨j,n,rfl⟩:=aQ c;by_cases X:j=k
  ·subst X
   rw[V]at e;exact .inr ⟨_,p,e⟩
  exact .inr ⟨_,u j n X,e⟩
 rintro(A|⟨z,c,e⟩)
 ·exact .inl A
 rcases d z c with rfl|⟨j,n,-,rfl⟩
 ·exact .inr ⟨l,y,e⟩
 exact .inr ⟨_,ar n,e⟩
def kQ(h:ac)(k:Nat)(size:Int):ah:=zK h.G (16*(nth h.M k).R+size) (16*((size+15) / 16) - size).toNat
def JV(h:ac)(k:Nat)(size:Int):List aB:=if 0<dA (nth h.M k) size then(dO (eU h) h.j ⟨(nth h.M k).R+(size+15) / 16,(dA (nth h.M k) size:Nat)⟩).getD h.j else h.j
def trimH(h:ac)(i k:Nat)(size:Int):ac:={h with G:=unmN (kQ h k size) ((nth h.M k).R+(size+15) / 16) (dA (nth h.M k) size),M:=h.M.set k (trimL (nth h.M k) size),O:=h.O.set i {nth h.O i with q:=size},j:=JV h k size}
def kw(b:aZ h E){k:Nat}(c:k<h.M.length)(g:16*(nth h.M k).R<=a/\a<16*(nth h.M k).R+16*(nth h.M k).a3):(af h.G.F.Q (a / 16)).e≠0:=by
 obtain⟨i,j⟩:=uX b c;have l:=aT (b.L.lok _ (ar c));have d:(a / 16)∈pgs h.K h.M:=gl (ar c) (d4.2 ⟨(a / 16 - (nth h.M k).R).toNat,ω,ω⟩);have e:=b.pg.bnd _ d;have f:=(b.pg.own (a / 16).toNat ω).2 (by rw[show(((a / 16).toNat:Nat):Int)=a / 16 by omega];exact d);unfold af;rw[CD ⟨ω,e⟩];exact f
def zm(b:aZ h E){k:Nat}(c:k<h.M.length)(d:9<=size/\size<=(nth h.M k).q):∀{m:Nat},m<=(16*((size+15) / 16) - size).toNat->aC (zK h.G (16*(nth h.M k).R+size) m)=true:=fun {m} hm=>by
 have a:=b.L.lok _ (ar c);unfold bR at a;rw[C0]at a;exact NH b.ker λj e=>kw b c ⟨ω,ω⟩
def aZ.trimH{h:ac}{i k:Nat}{size:Int}(d:aZ h [])(A:i<h.O.length)(f:k<h.M.length)(B:(nth h.O i).Addr=16*(nth h.M k).R)(r:9<=size/\size<=(nth h.M k).q):aZ (trimH h i k size) []/\JK h (trimH h i k size):=by
 have t:=zm d f r (W3 _);have l:=(ox h.G (16*(nth h.M k).R+size) (16*((size+15) / 16) - size).toNat).1;have C:=d.cells t l;obtain⟨o,u,w,y⟩:=C.trimL (i:=i) (k:=k) (size:=size) A f B r;simp only at u w y;have n:eU {h with G:=zK h.G (16*(nth h.M k).R+size) (16*((size+15) / 16) - size).toNat} = eU h:=by
  unfold eU;simp only[l]
 have D:JV h k size=o:=by
  unfold JV;split
  ·rename_i g;have:=w g;rw[n]at this;rw[this];rfl
  exact(u ω).symm
 have E:Ab.trimH h i k size = {h with G:=unmN (kQ h k size) ((nth h.M k).R+(size+15) / 16) (dA (nth h.M k) size),M:=h.M.set k (Ab.trimL (nth h.M k) size),O:=h.O.set i {nth h.O i with q:=size},j:=o}:=by unfold Ab.trimH;rw[D]
 refine⟨by rw[E];exact y,JK.less rfl rfl rfl λq j=>?_⟩;have a:=d.L.lok _ (ar f);unfold bR at a;rw[C0]at a;obtain⟨F,G⟩:=uX d f;have b:(kQ h k size).F.Q=h.G.F.Q:=l;have c:=nw (k:=kQ h k size) t (p:=(nth h.M k).R+(size+15) / 16) ω (dA (nth h.M k) size) (by rw[b];have:((tbl h).J.length:Int)=(h.G.F.Q.J.length:Int):=rfl;unfold dA;omega) q;change (nth (unmN (kQ h k size) ((nth h.M k).R+(size+15) / 16) (dA (nth h.M k) size)).F.Q.J q).e≠0 at j;show nth (unmN (kQ h k size) ((nth h.M k).R+(size+15) / 16) (dA (nth h.M k) size)).F.Q.J q=nth h.G.F.Q.J q;rw[c]at j |-;split at j
 ·exact absurd rfl j
 rename_i e;rw[CB e,b]
def Jm(h:1<=t/\t<=4):bQ (eG t)=true:=by
 have f:∀n,n<=t->bD (eG t) n=0:=λn=>by
  induction n with
  | zero=>intro _;rfl
  | succ n g=>
   intro j;have a:nth (eG t).U n=[]:=d6 ω;have b:nth (eG t).a0 n=[]:=d6 ω;simp only[bD,g ω,a,b,List.length_nil]
   decide
 have e:(eG t).U.length=t:=z4 ..;refine d8.2 ⟨⟨ω,ω,by simp[eG]⟩,λi c=>?_,by rw[e,f t (W3 _)];omega⟩;rw[e]at c;have a:nth (eG t).U i=[]:=d6 c;have b:nth (eG t).a0 i=[]:=d6 c;rw[a,b];exact⟨λp d=>(by cases d),λp d=>(by cases d)⟩
def vH(t:Nat):aR (eG t)=[]:=by
 unfold aR;split
 ·simp[eG]
 rfl
def qd(k:ah)(t:Nat)(sd ck lim:Int):ac:=⟨k,[⟨0,(k.F.Q.J.length:Nat)⟩],[],[],[],List.replicate t fe,eG t,⟨16,[]⟩,sd,ck,lim,1,false,⟨⟨0,0,[]⟩,0,0⟩⟩
def Hd:bx fe=true:=by decide
def aZ.fresh{lim sd ck:Int}(A:aC k=true)(B:∀q,q<k.F.Q.J.length->(nth k.F.Q.J q).e=0)(E:1<=t/\t<=4)(g:0<=lim/\lim<=1000)(h:0<=sd/\sd<=1073741823)(d:0<=ck/\ck<=1000000):aZ (qd k t sd ck lim) []:=by
 obtain⟨G,H,J⟩:=br.1 (aG.1 A).2.2.1;have hca:cJ (qd k t sd ck lim)=[]:=by
  unfold cJ;refine List.flatMap_eq_nil_iff.2 λc d=>?_
  rw[(List.mem_replicate.1 d).2]
  rfl
 have C:holders (qd k t sd ck lim)=[]:=by
  unfold holders;rw[hca];show(([]++[])++[])++aR (eG t)=[];rw[vH];rfl
 have i:∀a,¬nB (qd k t sd ck lim).K (qd k t sd ck lim).M a:=λa=>by
  rintro(⟨s,h,-⟩|⟨l,g,-⟩)
  ·cases h
  cases g
 exact {
   ker:=A
   rng:=gd.2 ⟨⟨List.pairwise_singleton ..,λy n=>by rw[V1.1 n];show(1:Int)<=(k.F.Q.J.length:Nat);omega⟩,λy n=>by
       rw[V1.1 n];refine⟨V5 _,by show(1:Int)<=(k.F.Q.J.length:Nat);omega,?_⟩;show(0:Int)+(k.F.Q.J.length:Nat)<=(k.F.Q.J.length:Nat);omega,by show(1:Int)<=(k.F.Q.J.length:Nat);omega,by show((k.F.Q.J.length:Nat):Int)<=32;omega⟩
   lay:=by show bq [] []=true;decide
   srs:=List.Pairwise.nil
   srl:=List.Pairwise.nil
   pg:=⟨λl g=>(by cases g),λp f=>(by cases f),λp f=>⟨λe=>absurd (B p f) e,λe=>by cases e⟩,λp f=>⟨λe=>absurd (B p f) e,λe=>absurd ⟨_,V1.2 rfl,by show(0:Int)<=p;omega,by
       show(p:Int)<0+(k.F.Q.J.length:Nat);have F:p<k.F.Q.J.length:=f;omega⟩ e⟩,λs h=>by cases h⟩
   mail:=Jm E
   nc:=by show(List.replicate t fe).length=(List.replicate t _).length;simp
   quar:=by show gi ⟨16,[]⟩ = true;decide
   snc:=λx r=>by cases r
   cach:=λc d=>by rw[(List.mem_replicate.1 d).2];exact Hd
   nums:=by unfold cq;rw[C0];simp only[qd];omega
   osr:=List.Pairwise.nil
   onu:=λo u=>by cases u
   oid:=List.nodup_nil
   oow:=λo u=>by cases u
   hca:=λc d j D a b=>by
     rw[(List.mem_replicate.1 d).2]at D b;have w:j<4:=D;have:nth fe.a j=[]:=d6 w;rw[this]at b;cases b
   hqu:=λx r=>by cases r
   hfl:=λa b=>by
     have:aR (eG t)=[]:=vH t;change a∈aR (eG t) at b;rw[this]at b;cases b
   hin:=λa b=>by cases b
   nd:=by rw[C];exact List.nodup_nil
   mem:=λa=>by rw[C];exact⟨λe=>(by cases e),λe=>absurd e (i a)⟩
   job:=λe=>by cases e
   noj:=λ_=>by show tl ⟨⟨0,0,[]⟩,0,0⟩ = true;decide}
def JI.no(a:h.u=false):JI h:=⟨λe=>(by rw[a]at e;cases e),λe=>(by rw[a]at e;cases e),λe=>(by rw[a]at e;cases e),λe=>(by rw[a]at e;cases e)⟩
variable{f:Nat}
def rp{p:Nat}{a:List Int}(d:1<=p/\p<=32)(e:1<=f/\f<=32)(b:a.length<=40/\∀x∈a,0<=x):aC (bU p f a)=true:=by
 obtain⟨-,g,h,i,c⟩:=aG.1 (sR d e);exact aG.2 ⟨λj k=>b.2 _ (ar k),g,h,i,c.1,c.2.1,b.1⟩
def Ha{p:Nat}{lim:Int}{a:List Int}(c:1<=p/\p<=32)(d:1<=f/\f<=32)(g:1<=t/\t<=4)(i:0<=lim/\lim<=1000)(j:a.length<=40/\∀x∈a,0<=x):aZ (newHeap p f t lim a) []:=by
 have h:=aZ.fresh (k:=bU p f a) (t:=t) (lim:=lim) (sd:=0) (ck:=0) (rp c d j) (λq l=>by
   have b:q<p:=by simpa[bU,dN] using l
   rw[show nth (bU p f a).F.Q.J q = ⟨0,0⟩ from d6 b]) g i ω ω
 have e:(bU p f a).F.Q.J.length=p:=by simp[bU,dN]
 unfold qd at h;rw[e]at h;exact h
structure eI where
 b6:Int
 a5:Int
 N:Int
 At:Int
 Value:Int
deriving DecidableEq,Inhabited
def eI.enc(_:dY)(x:eI):List C:=[I x.b6,I x.a5,I x.N,I x.At,I x.Value]
def nP(id:Int)(o:bH):Bool:=decide (o.Id=id)
def pk(r:aD)(id:Int):Int:=cZ (nP id) r.O
def iW(r:aD)(n:Int):aD:=if 1<=n/\n<=1000 then {r with b:=r.b+1,O:=r.O++[⟨r.b,List.replicate n.toNat 0⟩]} else r
def jS(r:aD)(id:Int):aD:=if pk r id<0 then r else {r with O:=dele r.O (pk r id).toNat}
def eM(r:aD)(id at_ v:Int):aD:=if 0<=pk r id/\(0<=at_/\at_<=(nth r.O (pk r id).toNat).T.length - 1)/\0<=v/\v<=999 then {r with O:=r.O.set (pk r id).toNat ⟨(nth r.O (pk r id).toNat).Id,(nth r.O (pk r id).toNat).T.set at_.toNat v⟩} else r
def fJ(r:aD)(id n:Int):aD:=if 0<=pk r id/\1<=n/\n<=(nth r.O (pk r id).toNat).T.length then {r with O:=r.O.set (pk r id).toNat ⟨(nth r.O (pk r id).toNat).Id,(nth r.O (pk r id).toNat).T.take n.toNat⟩} else r
structure sO(r:aD)(m:Nat):Prop where
 len:r.O.length<=m
 cel:∀o∈r.O,o.T.length<=1000
 nx:0<=r.b/\r.b<=m+1
variable{m:Nat}{r:aD}
def sO.more(h:sO r m)(a:m<=n):sO r n:=⟨by have:=h.len;omega,h.cel,h.nx.1,by have:=h.nx.2;omega⟩
def sO.sml(h:sO r m)(b:m<=1000):aD.sml r:=⟨by have:=h.len;omega,λo a=>by have:=h.cel o a;show o.T.length<=1048576;omega⟩
def sO.alloc(h:sO r m)(n:Int):sO (iW r n) (m+1):=by
 unfold iW;split
 ·refine⟨by have:=h.len;simp only[Y3,List.length_singleton];omega,λo a=>?_,by have:=h.nx.1;simp only;omega,by have:=h.nx.2;simp only;omega⟩
  rcases V3.1 a with a|a
  ·exact h.cel o a
  rw[V1.1 a];simp only[z4];omega
 exact h.more ω
def sO.free(h:sO r m)(id:Int):sO (jS r id) m:=by
 unfold jS;split
 ·exact h
 have a:=eY r.O (pk r id).toNat;exact⟨I5 a.length_le h.len,λo b=>h.cel o (a.subset b),h.nx⟩
def sO.set{x:bH}(h:sO r m)(b:x.T.length<=1000):sO {r with O:=r.O.set i x} m:=
 ⟨by simp only[Z1];exact h.len,λo a=>by
   rcases O7 a with a|rfl
   · exact h.cel o a
   exact b,h.nx⟩
def fN[Inhabited α](p:α->Bool)(xs:List α)(h:0<=cZ p xs):(cZ p xs).toNat<xs.length/\p (nth xs (cZ p xs).toNat)=true/\cZ p xs=((cZ p xs).toNat:Nat):=by
 rcases qi p xs with e|⟨n,a,e,b⟩
 ·omega
 rw[e,I3];exact⟨a,b,rfl⟩
def sO.store(h:sO r m)(id a v:Int):sO (eM r id a v) m:=by
 unfold eM;split
 ·rename_i e
  refine h.set ?_;simp only[Z1];exact h.cel (nth r.O (pk r id).toNat) (ar (fN _ _ e.1).1)
 exact h
def sO.trim(h:sO r m)(id n:Int):sO (fJ r id n) m:=by
 unfold fJ;split
 ·rename_i e
  refine h.set ?_;have:=h.cel (nth r.O (pk r id).toNat) (ar (fN _ _ e.1).1);simp only[C2];omega
 exact h
def Pi(id:Int)(o:bt):Bool:=decide (o.Id=id)
def rk(h:ac)(id:Int):Int:=cZ (Pi id) h.O
def KH(a:Int)(l:aF):Bool:=decide (l.R*16=a)
def A5(h:ac)(a:Int):Int:=cZ (KH a) h.M
def oA(h:ac)(a:eI):Prop:=0<=a.a5/\a.a5<=h.S.length - 1
instance (h:ac) (a:eI):Decidable (oA h a):=by unfold oA;infer_instance
def o7(w:bo)(a:eI)(i:Nat):bo × Int:=
 if w.Y.G.Calls=100000 then(w,6)
 else if oA w.Y a then(⟨(freeT w.Y a.a5.toNat i).1,if(freeT w.Y a.a5.toNat i).2=0 then jS w.b5 (nth w.Y.O i).Id else w.b5⟩,(freeT w.Y a.a5.toNat i).2)
 else(w,1)
def lI(w:bo)(a:eI)(i:Nat):bo × Int:=
 if ¬(0<=a.At/\a.At<=(nth w.Y.O i).q - 1) then(w,90)
 else if(af w.Y.G.F.Q (((nth w.Y.O i).Addr+a.At) / 16)).e=1 then(w,2)
 else if ¬(0<=a.Value/\a.Value<=999) then(w,3)
 else(⟨{w.Y with G:=dI w.Y.G ((nth w.Y.O i).Addr+a.At) a.Value},eM w.b5 (nth w.Y.O i).Id a.At a.Value⟩,0)
def mA(h:ac)(i:Nat)(n:Int):Prop:=0<=A5 h (nth h.O i).Addr/\9<=n/\n<=(nth h.M (A5 h (nth h.O i).Addr).toNat).q
instance (h:ac) (i:Nat) (n:Int):Decidable (mA h i n):=by unfold mA;infer_instance
def o9(w:bo)(a:eI)(i:Nat):bo × Int:=
 if w.Y.G.Calls≠100000/\mA w.Y i a.Value then(⟨trimH w.Y i (A5 w.Y (nth w.Y.O i).Addr).toNat a.Value,fJ w.b5 (nth w.Y.O i).Id a.Value⟩,0) else(w,90)
def lZ(w:bo)(a:eI)(i:Nat):bo × Int:=if a.b6=2 then o7 w a i else if a.b6=3 then lI w a i else o9 w a i
def fo(h:ac)(a:eI):ac × Int:=
 if a.b6=5 then(if oA h a/\0<(nth h.y.U a.a5.toNat).length then({h with y:=gf h.y a.a5.toNat},0) else(h,90))
 else if ¬(h.G.Calls≠100000/\oA h a) then(h,0)
 else if a.b6=6 then(collect h a.a5.toNat,((nth h.y.a0 a.a5.toNat).length:Nat))
 else((flushN a.a5.toNat h 4).1,((flushN a.a5.toNat h 4).2:Nat))
def mu(h:ac)(n:Int):ac × Int:=if h.G.Calls≠100000/\(0<=n/\n<=1000)/\h.b2+n<=1000000 then(tick h n,((ow h n).length:Nat)) else(h,0)
def td(h:ac):Bool:=h.u&&decide (h.G.Calls<=99000)
def stN(h:ac):Nat->ac × Nat
 | 0=>(h,0)
 | i+1=>if td (stN h i).1=true then(mStep (stN h i).1,(stN h i).2+1) else stN h i
def mt(h:ac):ac × Int:=if h.u=true then(h,90) else((started h).1,if(started h).2=true then 0 else 90)
def kR(w:bo)(a:eI):bo × Int:=
 if a.b6=1 then(⟨(allocH w.Y a.a5 a.N).1,if(allocH w.Y a.a5 a.N).2.2=0 then iW w.b5 a.N else w.b5⟩,(allocH w.Y a.a5 a.N).2.2)
 else if a.b6=2\/a.b6=3\/a.b6=4 then(if rk w.Y a.N<0 then(w,90) else lZ w a (rk w.Y a.N).toNat)
 else if a.b6=5\/a.b6=6\/a.b6=7 then(⟨(fo w.Y a).1,w.b5⟩,(fo w.Y a).2)
 else if a.b6=8 then(⟨(mu w.Y a.N).1,w.b5⟩,(mu w.Y a.N).2)
 else if a.b6=9 then(⟨(mt w.Y).1,w.b5⟩,(mt w.Y).2)
 else if a.b6=10/\0<=a.N/\a.N<=50 then(⟨(stN w.Y a.N.toNat).1,w.b5⟩,((stN w.Y a.N.toNat).2:Nat))
 else(w,90)
structure sH(w:bo)(m:Nat):Prop where
 inv:aZ w.Y []
 ji:JI w.Y
 ref:sO w.b5 m
variable{w:bo}
def sH.more(h:sH w m)(a:m<=n):sH w n:=⟨h.inv,h.ji,h.ref.more a⟩
def sH.jk(h:sH w m){g:ac}(a:aZ g []/\JK w.Y g)(b:sO r m):sH ⟨g,r⟩ m:=⟨a.1,h.ji.keep a.1 a.2,b⟩
def cR(a:aZ h E){o:bt}(p:o∈h.O){k:Int}(D:0<=k/\k<=o.q - 1):(af h.G.F.Q ((o.Addr+k) / 16)).e≠0/\0<=o.Addr/\o.Addr+k<512:=by
 rcases a.oow o p with⟨s,g,q,r⟩|⟨l,i,F,G⟩
 ·have b:=a.L.sok s g
  have t:=aI b;obtain⟨u,w,y⟩:=a.mapped g;have d:=cg t.2.2;obtain⟨H,J,A,-⟩:=q;have f:o.q<=csz s.d:=by
   have K:=jI (n:=o.q) ω;rw[r];have:o.q=1\/o.q=2\/o.q=3\/o.q=4\/o.q=5\/o.q=6\/o.q=7\/o.q=8:=ω
   rcases this with e|e|e|e|e|e|e|e<;>rw[e]<;>decide
  have B:(o.Addr+k) / 16=s.R:=by
   rcases d with e|e|e|e<;>rw[e]at A f<;>omega
  rw[B];refine⟨?_,ω,ω⟩;unfold af;rw[CD ⟨u,w⟩];exact y
 obtain⟨j,C,rfl⟩:=aQ i;have c:=a.L.lok _ i;unfold bR at c;rw[C0]at c;exact⟨kw a C ⟨ω,ω⟩,ω,ω⟩
def sH.obj(h:sH w m)(a:eI)(b:i<w.Y.O.length):sH (lZ w a i).1 m:=by
 unfold lZ;split
 ·unfold o7
  split
  ·exact h
  split
  ·rename_i d
   unfold oA at d;refine h.jk (h.inv.freeT b ω) ?_;split
   ·exact h.ref.free _
   exact h.ref
  exact h
 split
 ·unfold lI
  split
  ·exact h
  rename_i l;split
  ·exact h
  split
  ·exact h
  rename_i n;exact h.jk (h.inv.store (cR h.inv (ar b) ω).1 ω) (h.ref.store _ _ _)
 unfold o9;split
 ·rename_i e
  obtain⟨-,f,g⟩:=e;obtain⟨j,k,o⟩:=fN _ _ f;have c:=of_decide_eq_true k;exact h.jk (h.inv.trimH b j (c.symm.trans (Int.mul_comm _ _)) g) (h.ref.trim _ _)
 exact h
def sH.thread(h:sH w m)(a:eI):sH ⟨(fo w.Y a).1,w.b5⟩ m:=by
 unfold fo;split
 ·split
  ·rename_i e
   obtain⟨b,i⟩:=e;unfold oA at b;exact h.jk (g:={w.Y with y:=gf w.Y.y a.a5.toNat}) ⟨h.inv.deliv (by rw[<-h.inv.nc];omega) i,JK.eq rfl rfl rfl rfl⟩ h.ref
  exact h
 split
 ·exact h
 rename_i e;have e:=Classical.not_not.1 e;obtain⟨-,b⟩:=e;unfold oA at b;split
 ·exact h.jk (g:=collect w.Y a.a5.toNat) (h.inv.collect ω) h.ref
 have c:a.a5.toNat<w.Y.S.length:=ω
 have d:=(jB h.inv c (W3 4)).1;have f:=JK.flushN h.inv c (W3 4);generalize flushN a.a5.toNat w.Y 4=r at d f |-;exact h.jk (g:=r.1) ⟨d,f⟩ h.ref
def uM{h:ac}(a:aZ h [])(b:JI h):∀n,aZ (stN h n).1 []/\JI (stN h n).1
 | 0=>⟨a,b⟩
 | n+1=>by
  obtain⟨c,d⟩:=uM a b n;unfold stN;split
  ·rename_i e
   unfold td at e;rw[I0]at e;exact c.mStep d e.1
  exact⟨c,d⟩
def sH.act(h:sH w m)(a:eI):sH (kR w a).1 (m+1):=by
 unfold kR;split
 ·have b:=qH (t:=a.a5) (size:=a.N) h.inv
  refine⟨b.1,h.ji.keep b.1 b.2,?_⟩;show sO (if _ then _ else _) (m+1);split
  ·exact h.ref.alloc _
  exact h.ref.more ω
 refine sH.more (m:=m) ?_ ω;split
 ·split
  ·exact h
  rename_i e;exact h.obj a (fN _ _ (by unfold rk at e;omega)).1
 split
 ·exact h.thread a
 split
 ·unfold mu
  split
  ·rename_i e
   exact h.jk (h.inv.tick e.2.1.1 e.2.2) h.ref
  exact h
 split
 ·unfold mt
  split
  ·exact h
  rename_i e;have b:=Jh h.inv (by simpa using e);exact⟨b.1,b.2,h.ref⟩
 split
 ·have b:=uM h.inv h.ji a.N.toNat
  exact⟨b.1,b.2,h.ref⟩
 exact h
structure cH where
 a3:Nat
 W:Nat
 c3:Nat
 b1:Int
 w:List Int
deriving Inhabited
structure GT(c:cH):Prop where
 p:1<=c.a3/\c.a3<=32
 f:1<=c.W/\c.W<=32
 t:1<=c.c3/\c.c3<=4
 l:0<=c.b1/\c.b1<=1000
 r:c.w.length<=40/\∀x∈c.w,0<=x
def world0(c:cH):bo:=⟨newHeap c.a3 c.W c.c3 c.b1 c.w,{b:=1,O:=[]}⟩
def xa(c:cH)(acts:List eI):Nat->bo × List Int
 | 0=>(world0 c,[])
 | i+1=>((kR (xa c acts i).1 (nth acts i)).1,(xa c acts i).2++[(kR (xa c acts i).1 (nth acts i)).2])
def LS{c:cH}(h:GT c):sH (world0 c) 0:=
 ⟨Ha h.p h.f h.t h.l h.r,JI.no rfl,⟨W3 _,λo a=>(by cases a),by show(0:Int)<=1;omega,by show(1:Int)<=((0:Nat):Int)+1;omega⟩⟩
def vm{c:cH}(h:GT c)(acts:List eI):∀n,sH (xa c acts n).1 n
 | 0=>LS h
 | n+1=>(vm h acts n).act _
def vn(t:aJ)(d:aJ.sml t):zzA 24 false [.val (some 1) (aJ.enc .V t)] .one [I (mn t)]:=by
 have k:t.J.length<=1048576:=d.1;refine fO 22 [] Tryz.func24 rfl ?_
 repeat'(first|refine gP ?_|fail)
 (conv=>whnf)
 refine CJ (ι:=Nat) (λi=>[(1,.H .box (aJ.enc .V t)),(3,.H .one [I (z6 dZ t.J i)]),(4,.H .one [I ((i:Nat):Int)])]) (λi=>i<=t.J.length) (λi=>t.J.length - i) (0) ?_ (X0 _) λi g=>?_
 ·exact wB
 have h:=Le (f:=dZ) (xs:=t.J) (b:=1) (λe _=>FN e) i g;by_cases j:i<t.J.length
 ·have c:=au j
  have a:z6 dZ t.J (i+1)=z6 dZ t.J i+dZ (nth t.J i):=rfl;by_cases e:(nth t.J i).e=0
  ·rw[show dZ (nth t.J i)=0 by unfold dZ;rw[CB (by simpa using e)]]at a
   repeat'(first|refine gB ?_|(conv=>whnf);first|with_reducible refine CE (aa c) ?_)
   ((conv=>whnf);refine CF (i+1) ω ω ?_;(exact wB))
  rw[show dZ (nth t.J i)=1 by unfold dZ;rw[CD e]]at a
  repeat'(first|refine gB ?_|(conv=>whnf);first|with_reducible refine CE (aa c) ?_)
  ((conv=>whnf);refine CF (i+1) ω ω ?_;(exact wB))
 obtain rfl:i=t.J.length:=ω
 repeat'(first|refine gE ?_|fail)
 rfl
def or64{z1 z2:Int}(h1:0<=z1/\z1<=65535)(a:0<=z2/\z2<=65535):IntKind.i64.wrap ((BitVec.ofInt IntKind.i64.bits z1 ||| BitVec.ofInt IntKind.i64.bits z2).toNat:Nat)=bor z1 z2:=by
 rw[BitVec.toNat_or,qC ω,qC ω];have b:=H1 h1 a;unfold bor at b |-;exact gc ω ω
def Ax(h:ac)(i:Nat)(n:dC h.K)(d:zo h)(a:∀s∈h.K,bi s=true)(y:i<h.K.length):zzA 479 false [.val (some 24) (ac.enc .V h),.val none [I (i:Nat)]] .one [I (dL h i)]:=by
 have F:=n.1;have G:=au y;have g:=mr a y;have B:=aK ((i:Nat):Int) 0 ((h.K.length:Int) - 1);rw[O0 (show(0:Int)<=(i:Nat)/\((i:Nat):Int)<=(h.K.length:Int) - 1 by omega)]at B;have C:=i7 h (nth h.K i).R d;have o:=gv h (nth h.K i).R;have H:eU h<=1048576:=d.1;have c:dL h i=iq h.K (aW h (nth h.K i).R) (nth h.K i).a9 (aW h (nth h.K i).R).length:=rfl;obtain⟨ps,q⟩ : ∃ps,aW h (nth h.K i).R=ps:=⟨_,rfl⟩
 obtain⟨b,r⟩ : ∃b,(nth h.K i).a9=b:=⟨_,rfl⟩
 rw[q]at C o c;rw[r]at c g;rw[c];have J:iq h.K ps b 0=b:=rfl;refine fO 63 [(4,7,[22,23,24,25,26,27,28]),(11,10,[43,44,45,46,47,48,49,50,51,52])] Tryz.func479 rfl ?_
 repeat'(first|refine gP ?_|(conv=>whnf);first|with_reducible refine CE (aa G) ?_|refine C9 (B) ?_|refine C9 (C) ?_)
 (conv=>whnf)
 refine CJ (ι:=Nat) (λu=>[(2,.H .box (ac.enc .V h)),(5,.H .one [I (iq h.K ps b u)]),(6,.H .one (aH .own ps)),(7,.H .one [I ((u:Nat):Int)])]) (λu=>u<=ps.length) (λu=>ps.length - u) (0) ?_ (X0 _) λu M=>?_
 ·exact wB
 by_cases K:u<ps.length
 ·have l:=au K
  have t:=lG a (ps:=ps) g u
  repeat'(first|refine gE ?_|fail)
  (conv=>whnf)
  refine CJ (ι:=Nat) (λj=>[(2,.H .box (ac.enc .V h)),(5,.H .one [I (po h.K (nth ps u) (iq h.K ps b u) j)]),(6,.H .one (aH .own ps)),(7,.H .one [I ((u:Nat):Int)]),(8,.H .one [I ((j:Nat):Int)])]) (λj=>j<=h.K.length) (λj=>h.K.length - j) (0) ?_ (X0 _) λj L=>?_
  ·exact wB
  by_cases D:j<h.K.length
  ·have E:=au D
   have w:=wK a (p:=nth ps u) t j L;by_cases e:(nth h.K j).R=nth ps u
   ·have k:po h.K (nth ps u) (iq h.K ps b u) (j+1)=bor (po h.K (nth ps u) (iq h.K ps b u) j) (nth h.K j).a9:=CD e
    repeat'(first|refine gB ?_|(conv=>whnf);first|with_reducible (first|refine CE (aa l) ?_|refine CE (aa E) ?_)|refine CK rfl (aa l) rfl ?_|refine CN (or64 w (mr a D)) ?_)
    ((conv=>whnf);refine CF (j+1) ω ω ?_;(exact wB))
   have k:po h.K (nth ps u) (iq h.K ps b u) (j+1)=po h.K (nth ps u) (iq h.K ps b u) j:=CB e
   repeat'(first|refine gB ?_|(conv=>whnf);first|with_reducible (first|refine CE (aa l) ?_|refine CE (aa E) ?_)|refine CK rfl (aa l) rfl ?_)
   ((conv=>whnf);refine CF (j+1) ω ω ?_;(exact wB))
  obtain rfl:j=h.K.length:=ω
  repeat'(first|refine gE ?_|fail)
  ((conv=>whnf);refine CF (u+1) ω ω ?_;(exact wB))
 obtain rfl:u=ps.length:=ω
 repeat'(first|refine gE ?_|fail)
 rfl
def n7{xs:List bt}(h:∀o∈xs,0<=o.q/\o.q<=1000):∀k:Nat,k<=xs.length->0<=rE xs k/\rE xs k<=1000*k
 | 0,_=>⟨V5 _,V5 _⟩
 | k+1,a=>by
  have b:=n7 h k ω;have c:=h _ (ar (xs:=xs) (i:=k) ω);simp only[rE];omega
def zc(h:ac)(a:∀o∈h.O,0<=o.q/\o.q<=1000)(e:h.O.length<=1048576):zzA 19 false [.val (some 24) (ac.enc .V h)] .one [I (iS h)]:=by
 refine fO 21 [] Tryz.func19 rfl ?_
 repeat'(first|refine gP ?_|fail)
 (conv=>whnf)
 refine CJ (ι:=Nat) (λk=>[(1,.H .box (ac.enc .V h)),(3,.H .one [I (rE h.O k)]),(4,.H .one [I ((k:Nat):Int)])]) (λk=>k<=h.O.length) (λk=>h.O.length - k) (0) ?_ (X0 _) λk c=>?_
 ·exact wB
 have g:=n7 a k c;by_cases b:k<h.O.length
 ·have d:=au b
  have i:=a _ (ar b)
  repeat'(first|refine gE ?_|(conv=>whnf);first|refine CE (aa d) ?_)
  ((conv=>whnf);refine CF (k+1) ω ω ?_;(exact wB))
 obtain rfl:k=h.O.length:=ω
 repeat'(first|refine gE ?_|fail)
 rfl
def yH(k b:Int)(h:b<=9223372036854775807):zzA 478 false [.val none [I (slots k)],.val none [I b]] .one (aH .own (oI k b)):=by
 have c:=qY k b;have p:0<=slots k/\slots k<=16:=by unfold slots;repeat' split<;>omega
 unfold oI;cases e:L0 k b<;>rw[e]at c
 ·rw[CB (by simp)]
  refine fO 27 [] Tryz.func478 rfl ?_ (.inr (bT _))
  repeat'(first|refine gP ?_|fail)
  (conv=>whnf)
  refine CJ (ι:=Nat) (λj=>[(0,.H .one [I (slots k)]),(1,.H .one [I (b)]),(5,.H .one (aH .own [])),(6,.H .one [I ((j:Nat):Int)])]) (λj=>j=0) (λj=>1 - j) (0) ?_ (rfl) λj g=>?_
  ·exact wB
  subst g
  repeat'(first|refine gE ?_|(conv=>whnf);first|with_reducible refine Bf.D (λi=>?_) (λi=>?_)|refine C9 (c) ?_)
  all_goals rfl
 rw[CD rfl];refine fO 27 [] Tryz.func478 rfl ?_ (.inr (bT _))
 repeat'(first|refine gP ?_|fail)
 (conv=>whnf)
 refine CJ (ι:=Nat) (λj=>[(0,.H .one [I (slots k)]),(1,.H .one [I (b)]),(5,.H .one (aH .own (lN b j))),(6,.H .one [I ((j:Nat):Int)])]) (λj=>j<=(slots k).toNat) (λj=>(slots k).toNat - j) (0) ?_ (X0 _) λj g=>?_
 ·exact wB
 have l:=qG b j;by_cases q:j<(slots k).toNat
 ·have d:=iV b (j:Nat) h
  have a:lN b (j+1)=if bc b (j:Nat)=true then lN b j else lN b j++[((j:Nat):Int)]:=rfl
  cases n:bc b (j:Nat)<;>rw[n]at d a
  ·rw[CB (by simp)]at a
   repeat'(first|refine gE ?_|(conv=>whnf);first|refine C9 (c) ?_|refine C9 (d) ?_|refine CU cS (λr o=>by rw[V1.1 o];rfl) (by simp[bk,eD]) (by simp;omega) (by simp only[I1];exact y4 (by simp;omega) (by decide)) rfl ?_)
   ((conv=>whnf);refine CF (j+1) ω ω ?_)
   rw[a]
   repeat'(first|exact trivial|rfl|exact CM rfl (CM (Z0 (C.s dY.own) (by simp[rI])) trivial)|refine CM ?_ ?_|(exact EO (by first|omega|(simp only;omega)|(simp;omega))))
  rw[CD rfl]at a
  repeat'(first|refine gE ?_|(conv=>whnf);first|refine C9 (c) ?_|refine C9 (d) ?_)
  ((conv=>whnf);refine CF (j+1) ω ω ?_)
  rw[a];exact wB
 obtain rfl:j=(slots k).toNat:=ω
 repeat'(first|refine gE ?_|fail)
 rfl
def BV(b i:Int):bor b (2 ^ i.toNat)=gx b i:=by
 unfold bor gx;have:((2 ^ i.toNat:Nat):Int)=(2:Int) ^ i.toNat:=Int.natCast_pow 2 i.toNat;rw[<-this,I3]
def Aa(b i:Int)(d:0<=b/\b<=65535)(a:0<=i/\i<=15):zzA 481 false [.val none [I b],.val none [I i]] .one [I (gx b i)]:=by
 have c:=q9 b i;rw[O0 ω]at c;have e:IntKind.u64.wrap i=i:=by unfold IntKind.wrap;simp[IntKind.signed,IntKind.bits];omega
 have h:=(shl64 a).2;have g:=(or64 (z1:=b) (z2:=2 ^ i.toNat) d ω).trans (BV b i);refine fO 15 [] Tryz.func481 rfl ?_
 repeat'(first|refine gP ?_|(conv=>whnf);first|refine C9 (c) ?_|refine CP ω ?_|refine CN e ?_|refine CN (shl64 a).1 ?_|refine CN g ?_)
 rfl
def PG{s:aA}(b:bi s=true){k:Int}(d:0<=k/\k<slots s.d):0<=k*csz s.d/\k*csz s.d<=15:=by
 have a:=aI b;have c:=gr a.2.2;rcases cg a.2.2 with e|e|e|e<;>rw[e]at c |-<;>omega
def zZ(s:aA)(k:Int)(a:bi s=true)(d:0<=k/\k<slots s.d):zzA 482 false [.val (some 3) (aA.enc .V s),.val none [I k]] .one [I (16*s.R+k*csz s.d)]:=by
 have e:=aI a;have i:=PG a d;have j:=gr e.2.2;have b:=gU s;rw[a]at b;have g:=oM s.d;have c:=aK k 0 (slots s.d - 1);rw[O0 ω]at c;have h:=eC s.d;refine fO 26 [(3,8,[17,18,19,20,21,22,23,24])] Tryz.func482 rfl ?_
 repeat'(first|refine gP ?_|(conv=>whnf);first|refine C9 (b) ?_|refine C9 (g) ?_|refine C9 (c) ?_|refine C9 (h) ?_|refine CC ?_)
 exact Z0 (λz=>[I z]) ω
def Du(f:aU)(g:f.a1.length<=1048576):zzA 483 false [.val (some 2) (aU.enc .V f)] .one [I (cZ (λu=>!u) f.a1)]:=by
 refine fO 18 [] Tryz.func483 rfl ?_
 repeat'(first|refine gP ?_|fail)
 (conv=>whnf)
 refine CJ (ι:=Nat) (λi=>[(1,.H .box (aU.enc .V f)),(3,.H .one [I ((i:Nat):Int)])]) (λi=>i<=f.a1.length/\∀(j:Nat)(z:Bool),j<i->f.a1[j]? = some z->(!z)=false) (λi=>f.a1.length - i) (0) ?_ (⟨X0 _,λj z h=>ω⟩) λi c=>?_
 ·exact wB
 obtain⟨c,b⟩:=c;by_cases d:i<f.a1.length
 ·have a:=au d
  cases e:nth f.a1 i<;>rw[e]at a
  ·repeat'(first|refine gE ?_|(conv=>whnf);first|with_reducible refine CE (aa a) ?_)
   exact Z0 (λz=>[I z]) (dQ a rfl b).symm
  repeat'(first|refine gE ?_|(conv=>whnf);first|with_reducible refine CE (aa a) ?_)
  ((conv=>whnf);refine CF (i+1) ⟨ω,eg a rfl b⟩ ω ?_;(exact wB))
 repeat'(first|refine gE ?_|fail)
 exact Z0 (λz=>[I z]) (gq ω b).symm
def nX(m:aP):∀(n i:Nat),i<n->((nth m.U i).length:Int)+(nth m.a0 i).length<=bD m n/\0<=bD m n
 | 0,i,h=>absurd h (Nat.not_lt_zero i)
 | n+1,i,h=>by
  have a:0<=bD m n:=by
   cases n with
   | zero=>exact V5 _
   | succ k=>exact(nX m (k+1) 0 ω).2
  simp only[bD];by_cases e:i=n
  ·subst e;omega
  have:=(nX m n i ω).1;omega
structure jZ(m:aP):Prop where
 b4:1<=m.U.length/\m.U.length<=4
 i4:m.a0.length=m.U.length
 bl:∀i,i<m.U.length->(nth m.U i).length<=30
 il:∀i,i<m.U.length->(nth m.a0 i).length<=30
def jZ.of{m:aP}(h:bQ m=true):jZ m:=by
 obtain⟨⟨b,c,d⟩,-,e⟩:=d8.1 h;exact⟨⟨b,c⟩,d,λi a=>by have:=(nX m m.U.length i a).1;omega,λi a=>by have:=(nX m m.U.length i a).1;omega⟩
def jZ.sml{m:aP}(h:jZ m):aP.sml m:=by
 have c:=h.b4;have d:=h.i4;refine⟨⟨ω,λl a=>?_⟩,⟨ω,λl a=>?_⟩⟩
 ·obtain⟨i,b,rfl⟩:=aQ a
  have:=h.bl i b;exact⟨ω,λ_ _=>trivial⟩
 obtain⟨i,b,rfl⟩:=aQ a;have:=h.il i ω;show(nth m.a0 i).length<=1048576;omega
def tG(m:aP)(k:Int)(a:aP.sml m):zzA 520 false [.val (some 2) (aP.enc .V m),.val none [I k]] .one [B (bQ m&&decide (0<=k/\k<=m.U.length - 1))]:=by
 have b:=ml m a;have c:m.U.length<=1048576:=a.1.1;cases e:bQ m<;>rw[e]at b
 all_goals
  refine fO 15 [] Tryz.func520 rfl ?_
  repeat'(first|refine gP ?_|(conv=>whnf);first|refine CC ?_|refine C9 (b) ?_|refine C9 (aK k 0 (m.U.length - 1:Int)) ?_)
  all_goals rfl
def U5{m:aP}(a:f<m.U.length):m.U[f]? = some (nth m.U f):=au a
def Lw(m:aP)(f:Nat)(p:dx):aP.enc .own (ij m f p)=[.s .own ((m.U.map (cL .own)).set f (cL .own (nth m.U f++[p]))),.s .own (m.a0.map (aH .own))]:=by simp[aP.enc,ij,Z6]
def LR{m:aP}(h:jZ m)(c:f<m.U.length)(p:dx):aP.sml (ij m f p):=by
 have d:=h.b4;have b:=h.sml;refine⟨⟨by simp only[ij,Z1];omega,λl a=>?_⟩,b.2⟩;rcases O7 a with a|rfl
 ·exact b.1.2 l a
 have:=h.bl f c;exact⟨by simp;omega,λ_ _=>trivial⟩
def M3(m:aP)(f:Nat)(p:dx)(j:bQ m=true)(g:f<m.U.length):zzA 512 false [.val (some 2) (aP.enc .V m),.val none [I (f:Nat)],.val (some 2) (dx.enc .V p)] (.tup [some 2,none]) (aP.enc .own (if bQ (ij m f p)=true then ij m f p else m)++[B (bQ (ij m f p))]):=by
 have c:=jZ.of j;have k:=c.sml;have q:=c.b4;have h:=tG m f k;rw[j,O0 ω]at h;have l:=ge m k;have b:=LR c g p;have i:=ml (ij m f p) b;have n:=ge (ij m f p) b;have a:=U5 g;have o:=c.bl f g;have d:=aP.enc_fz (ij m f p);rw[Lw]at d;cases e:bQ (ij m f p)<;>rw[e]at i
 ·rw[CB (by simp)]
  refine fO 35 [(4,267,[16,17,18,19,20,21,22,23,24,25,27,0,1,2,3,4,5,6,7,8,9,10,1000,1001,1002,11,12])] Tryz.func512 rfl ?_ (.inr (aL (aP.enc_fr _) ⟨trivial,trivial⟩))
  repeat'(first|refine gP ?_|(conv=>whnf);first|with_reducible refine CE (aa a) ?_|refine CC ?_|refine CE (eZ a) ?_|refine CK rfl (eZ a) rfl ?_|refine C9 (h) ?_|refine C9 (l) ?_|refine Lq.one rfl rfl (aa a) rfl (O1 rfl) rfl rfl ?_|refine CK rfl (aa a) rfl ?_|refine CQ rfl rfl (eZ a) rfl (O1 rfl) (show [C.s dY.own ((m.U.map (cL .own)).set f (cL .own (nth m.U f++[p]))),C.s .own (m.a0.map (aH .own))]=_ from by simp only[List.set_cons_zero,List.set_set,I3];rfl) ?_|refine Ap.sm (aX λ_=>rfl) rfl (by simp;omega) (by decide) (iY _ _ _) ?_|refine CG (i) ⟨⟨rfl,d⟩,trivial⟩ ?_)
  rfl
 rw[CD rfl];refine fO 35 [(4,267,[16,17,18,19,20,21,22,23,24,25,27,0,1,2,3,4,5,6,7,8,9,10,1000,1001,1002,11,12])] Tryz.func512 rfl ?_ (.inr (aL (aP.enc_fr _) ⟨trivial,trivial⟩))
 repeat'(first|refine gP ?_|(conv=>whnf);first|with_reducible refine CE (aa a) ?_|refine CC ?_|refine CE (eZ a) ?_|refine CK rfl (eZ a) rfl ?_|refine C9 (h) ?_|refine C9 (l) ?_|refine Lq.one rfl rfl (aa a) rfl (O1 rfl) rfl rfl ?_|refine CK rfl (aa a) rfl ?_|refine CQ rfl rfl (eZ a) rfl (O1 rfl) (show [C.s dY.own ((m.U.map (cL .own)).set f (cL .own (nth m.U f++[p]))),C.s .own (m.a0.map (aH .own))]=_ from by simp only[List.set_cons_zero,List.set_set,I3];rfl) ?_|refine Ap.sm (aX λ_=>rfl) rfl (by simp;omega) (by decide) (iY _ _ _) ?_|refine CG (i) ⟨⟨rfl,d⟩,trivial⟩ ?_|refine CG (n) ⟨⟨rfl,d⟩,trivial⟩ ?_)
 rfl
def HD(m:aP)(f:Int)(a:bQ m=true)(d:¬(0<=f/\f<=m.U.length - 1)):zzA 422 false [.val (some 2) (aP.enc .V m),.val none [I f]] (.tup [some 2,none]) (aP.enc .own m++[B false]):=by
 have e:=jZ.of a;have b:=e.sml;have c:=tG m f b;rw[a,W0 d]at c;have g:=ge m b;refine fO 60 [(5,267,[31,32,33,34,35,36,37,38,39,40,42,0,1,2,3,4,5,6,7,8,9,10,1000,1001,1002,11,12]),(6,270,[43,44,45,46,47,48,49,50,51,52,53,54,55,57,0,1,2,3,4,5,6,7,8,9,10,11,12,13,1000,1001,1002,1003,14,15])] Tryz.func422 rfl ?_ (.inr (aL (aP.enc_fr _) ⟨trivial,trivial⟩))
 repeat'(first|refine gP ?_|(conv=>whnf);first|refine CC ?_|refine C9 (c) ?_|refine C9 (g) ?_)
 rfl
def Hz(m:aP)(f t:Nat)(a:(nth (nth m.U f) 0).To=t):aP.enc .own (gf m f)=[.s .own ((m.U.map (cL .own)).set f [.s .own (((nth m.U f).drop 1).map (dx.enc .V))]),.s .own ((m.a0.map (aH .own)).set t (aH .own (nth m.a0 t++[(nth (nth m.U f) 0).Addr])))]:=by
 unfold aP.enc gf;simp only[Z6,a,I3]
 rfl
def FG(m:aP)(f:Nat)(h:bQ m=true)(i:f<m.U.length):zzA 422 false [.val (some 2) (aP.enc .V m),.val none [I (f:Nat)]] (.tup [some 2,none]) (aP.enc .own (if 0<(nth m.U f).length then gf m f else m)++[B (decide (0<(nth m.U f).length))]):=by
 have d:=jZ.of h;have u:=d.sml;have K:=d.b4;have D:=d.i4;have j:=tG m f u;rw[h,O0 ω]at j;have w:=ge m u;have a:=U5 i;have F:=d.bl f i;by_cases e:0<(nth m.U f).length
 ·rw[CD e,O0 e]
  have g:=((d8.1 h).2.1 f i).1 _ (ar e);obtain⟨t,k⟩:=O3 g.1;have l:t<m.a0.length:=ω
  have y:=au e;have c:=au l;have G:=d.il t ω;have n:=(jZ.of (Hb h i e)).sml;have H:=ge (gf m f) n;have o:=aP.enc_fz (gf m f);rw[Hz m f t k]at o;have q:=aL (b:=[B true]) (aP.enc_fr (gf m f)) ⟨trivial,trivial⟩;generalize L:nth (nth m.U f) 0=p at *;obtain⟨M,J⟩:=p;simp only at k g o;subst k;refine fO 60 [(5,267,[31,32,33,34,35,36,37,38,39,40,42,0,1,2,3,4,5,6,7,8,9,10,1000,1001,1002,11,12]),(6,270,[43,44,45,46,47,48,49,50,51,52,53,54,55,57,0,1,2,3,4,5,6,7,8,9,10,11,12,13,1000,1001,1002,1003,14,15])] Tryz.func422 rfl ?_ (.inr q)
  repeat'(first|refine gB ?_|(conv=>whnf);first|with_reducible (first|refine CE (aa a) ?_|refine CE (aa c) ?_|refine Bf.E (λr=>?_) (λr=>?_))|refine CC ?_|refine CO (by decide) (aa y) ?_|refine CE (eZ a) ?_|refine CE (eZ c) ?_|refine CK rfl (eZ a) rfl ?_|refine CK rfl (eZ c) rfl ?_|refine C9 (j) ?_|refine C9 (w) ?_|refine CK rfl (aa a) rfl ?_|refine CK rfl (aa c) rfl ?_|refine CK rfl (aa y) rfl ?_|refine Lq.one rfl rfl (aa c) rfl (O1 rfl) rfl rfl ?_|refine Sl.suf 1 rfl (by rw[I1];omega) (aX λ_=>rfl) X4 ?_|refine CY (λ_=>rfl) (λ_=>rfl) (by rw[Z3];omega) (by decide) ?_|refine CS (λ_=>rfl) (λ_=>rfl) (by rw[Z3];omega) (by decide) ?_|refine CQ rfl rfl (aa a) rfl (O1 rfl) rfl ?_|refine CQ rfl rfl (eZ c) rfl (O1 rfl) (show [C.s dY.own ((m.U.map (cL .own)).set f [.s .own (((nth m.U f).drop 1).map (dx.enc .V))]),C.s .own ((m.a0.map (aH .own)).set t (aH .own (nth m.a0 t++[J])))]=_ from by simp only[List.set_cons_zero,List.set_cons_succ,List.set_set,I3];rfl) ?_|refine Ap.sm (aX λ_=>rfl) rfl (by simp;omega) (by decide) (iY _ _ _) ?_|refine CC ?_|refine CG (H) ⟨⟨rfl,o⟩,trivial⟩ ?_)
  rfl
 rw[CB e,W0 e];refine fO 60 [(5,267,[31,32,33,34,35,36,37,38,39,40,42,0,1,2,3,4,5,6,7,8,9,10,1000,1001,1002,11,12]),(6,270,[43,44,45,46,47,48,49,50,51,52,53,54,55,57,0,1,2,3,4,5,6,7,8,9,10,11,12,13,1000,1001,1002,1003,14,15])] Tryz.func422 rfl ?_ (.inr (aL (aP.enc_fr _) ⟨trivial,trivial⟩))
 repeat'(first|refine gB ?_|(conv=>whnf);first|with_reducible (first|refine CE (aa a) ?_|refine Bf.E (λr=>?_) (λr=>?_))|refine CC ?_|refine C9 (j) ?_|refine C9 (w) ?_|refine CK rfl (aa a) rfl ?_)
 rfl
def MT.set(rows:List (List C))(i:Nat){r n:List C}(h:P2 r n):MT (.s .own (rows.set i r)) (.s .own (rows.set i n)):=by
 refine .own_ _ _ (by simp) (λj a b d f=>?_) (λj l a b c p d f o g=>?_)
 ·by_cases e:i=j
  ·subst e
   have k:i<rows.length:=by have:=(Z2.1 d).1;simpa using this
   rw[v4 k]at d f;cases d;cases f;exact h.1
  rw[List.getElem?_set_ne e]at d f;rw[d]at f;cases f;rfl
 by_cases e:i=j
 ·subst e
  have k:i<rows.length:=by have:=(Z2.1 d).1;simpa using this
  rw[v4 k]at d f;cases d;cases f;exact h.2 l c p o g
 rw[List.getElem?_set_ne e]at d f;rw[d]at f;cases f;rw[o]at g;cases g;exact .rfl_ _
def E1(m:aP)(t:Nat)(d:bQ m=true)(h:t<m.U.length):zzA 521 false [.val (some 2) (aP.enc .V m),.val none [I (t:Nat)]] (.tup [some 2,none]) (aP.enc .own (l9 m t)++aH .own (nth m.a0 t)):=by
 have b:=jZ.of d;have e:=b.sml;have o:=b.b4;have j:=b.i4;have g:=tG m t e;rw[d,O0 ω]at g;have k:=ge m e;have c:=au (xs:=m.a0) (i:=t) ω;have l:=b.il t h;have a:=aL (aP.enc_fr (l9 m t)) (bT (nth m.a0 t));have n:aP.enc .own (l9 m t)=[.s .own (m.U.map (cL .own)),.s .own ((m.a0.map (aH .own)).set t [.s .own []])]:=by simp[aP.enc,l9,Z6];rfl
 rw[n]at a |-;refine fO 28 [(5,263,[20,21,22,23,24,25,26,0,1,2,3,4,5,6,7,1000,8,9])] Tryz.func521 rfl ?_ (.inr a)
 repeat'((conv=>whnf);first|with_reducible (first|refine Lm ?_|refine Wm ω ?_|refine CE (aa c) ?_|refine Bn ?_|refine jt.dk rfl ?_)|refine Bt ?_|refine Bu ?_|refine CC ?_|refine C9 (g) ?_|refine C9 (k) ?_|refine CK rfl (aa c) rfl ?_|refine CQ rfl rfl (aa c) rfl (O1 rfl) rfl ?_|refine CY (λ_=>rfl) (λ_=>rfl) ω (by decide) ?_|refine CS (λ_=>rfl) (λ_=>rfl) ω (by decide) ?_|refine CC ?_)
 exact .cons (.rfl_ _) (.cons (MT.set _ _ (.cons .z_ .nil)) (.cons (.rfl_ _) .nil))
def KU(now:Int):∀{l:List aV}{i:Nat},i<=l.length->(∀j,j<i->(nth l j).b7<now - 100)->(i<l.length->¬(nth l i).b7<now - 100)->tz now l=i
 | [],i,h,_,_=>by simp at h;subst h;rfl
 | x::xs,0,_,_,h=>by
  unfold tz;exact CB (h (by simp))
 | x::xs,i+1,b,a,c=>by
  unfold tz;refine(CD (a 0 ω)).trans ?_;rw[KU now (l:=xs) (i:=i) (by simp at b;omega) (λj d=>a (j+1) ω) (λe=>c (by simp;omega))]
def Re(q:bO)(now:Int):List C:=bO.enc .own ⟨q.b8,q.a6.drop (tz now q.a6)⟩++cY .own (q.a6.take (tz now q.a6))
def w5(q:bO)(now:Int)(g:gi q=true)(G:q.a6.length<=4096)(u:0<=now/\now<=1000000):zzA 425 false [.val (some 2) (bO.enc .V q),.val none [I now],.val none [I 100]] (.tup [some 2,none]) (Re q now):=by
 have w:bO.sml q:=⟨ω,λ_ _=>trivial⟩
 have n:=pA q w;rw[g]at n;have o:=aK now 0 1000000;rw[O0 u]at o;have p:=aK 100 0 1000000;rw[O0 (by decide)]at p;have h:=(jW.1 g).1;have a:iv (Re q now):=aL (bO.enc_fr _) (vA _);have y:∀i,i<q.a6.length->0<=(nth q.a6 i).b7:=λi b=>(h _ (ar b)).2.2.2
 unfold Re at a |-;generalize B:tz now q.a6=k at a |-;refine fO 59 [(6,270,[44,45,46,47,48,49,50,51,53,54,55,56,57,58,0,1,2,3,4,5,6,7,9,10,11,12,13,14,8,1009,1010,1011,1012,1013,1014,15,16])] Tryz.func425 rfl ?_ (.inr a)
 repeat'(first|refine gP ?_|(conv=>whnf);first|refine CC ?_|refine C9 (n) ?_|refine C9 (o) ?_|refine C9 (p) ?_)
 (conv=>whnf)
 refine CJ (ι:=Nat) (λi=>[(1,.H .one [I (now)]),(2,.H .one [I (100)]),(3,.H .box (bO.enc .V q)),(6,.H .box [I 0,.z]),(8,.H .one [I ((i:Nat):Int)])]) (λi=>i<=q.a6.length/\∀j,j<i->(nth q.a6 j).b7<now - 100) (λi=>q.a6.length - i) (0) ?_ (⟨X0 _,λj C=>ω⟩) λi b=>?_
 ·exact wC
 obtain⟨b,r⟩:=b;by_cases l:i<q.a6.length/\(nth q.a6 i).b7<now - 100
 ·have c:=au l.1
  repeat'(first|refine gE ?_|(conv=>whnf);first|with_reducible refine CE (aa c) ?_|refine CC ?_|refine CK rfl (aa c) rfl ?_)
  ((conv=>whnf);refine CF (i+1) ⟨ω,λj C=>by by_cases e:j=i;(subst e;exact l.2);exact r j ω⟩ ω ?_;(exact wC))
 have d:=KU now (i:=i) b r (λE F=>l ⟨E,F⟩);rw[B]at d;subst d;by_cases t:k<q.a6.length
 ·have c:=au t
  have:=y k t
  repeat'(first|refine gE ?_|(conv=>whnf);first|with_reducible (first|refine CE (aa c) ?_|refine Bf.D (λg=>?_) (λg=>?_))|refine CC ?_|refine CK rfl (aa c) rfl ?_|refine CZ k rfl (by rw[I1];omega) (aX λ_=>rfl) W4 ?_|refine Sl.suf k rfl (by rw[I1];omega) (aX λ_=>rfl) X4 ?_|refine CY (λ_=>rfl) (λ_=>rfl) (by rw[C2];omega) (by decide) ?_|refine CY (λ_=>rfl) (λ_=>rfl) (by rw[Z3];omega) (by decide) ?_|refine CS (λ_=>rfl) (λ_=>rfl) (by rw[Z3];omega) (by decide) ?_|refine CC ?_)
  rfl
 repeat'(first|refine gE ?_|(conv=>whnf);first|refine CC ?_|refine CZ k rfl (by rw[I1];omega) (aX λ_=>rfl) W4 ?_|refine Sl.suf k rfl (by rw[I1];omega) (aX λ_=>rfl) X4 ?_|refine CY (λ_=>rfl) (λ_=>rfl) (by rw[C2];omega) (by decide) ?_|refine CY (λ_=>rfl) (λ_=>rfl) (by rw[Z3];omega) (by decide) ?_|refine CS (λ_=>rfl) (λ_=>rfl) (by rw[Z3];omega) (by decide) ?_|refine CC ?_)
 rfl
def Dw(h:ac)(n:Int)(g:aZ h [])(r:0<=n/\n<=1000)(p:h.b2+n<=1000000):zzB 278 false [.ptr (bF h),.val none [I n]] [.ptr (bF (tick h n)),.val none [I n]] .one [I ((ow h n).length:Nat)]:=by
 have a:=g.nums;unfold cq at a;rw[C0]at a;have t:=g.lens.quar;have i:=w5 h.a7 (h.b2+n) g.quar ω ⟨ω,p⟩;have j:=g.aged r.1 p;unfold Re at i;unfold tick ow aged at *;have l:(h.a7.a6.take (tz (h.b2+n) h.a7.a6)).length<=4096:=by rw[C2];omega
 rw[I1];generalize h.a7.a6.take (tz (h.b2+n) h.a7.a6)=out at i j l |-;generalize h.a7.a6.drop (tz (h.b2+n) h.a7.a6)=rest at i j |-;refine fM 48 [(426,[2,0])] [(2,269,[18,19,20,21,22,23,24,25,26,17,27,28,5,0,1,2,3,4,5,6,7,8,9,10,11,12,13,1011,14])] [(0,0),(0,0)] Tryz.func278 rfl (λu q=>?_)
 repeat'(first|refine gP ?_|(conv=>whnf);first|refine CC ?_|refine CG (i) ⟨⟨rfl,bO.enc_fz h.a7⟩,⟨rfl,rfl⟩,⟨rfl,rfl⟩,trivial⟩ ?_|refine CC ?_)
 (conv=>whnf)
 refine CJ (ι:=Nat) (λk=>[(0,.H .box (bF (freeAs {h with b2:=h.b2+n,a7:=⟨h.a7.b8,rest⟩} ((out.map (·.Addr)).take k)))),(6,.H .one (cY .own out)),(7,.H .one [I ((k:Nat):Int)])]) (λk=>k<=out.length) (λk=>out.length - k) (0) ?_ (X0 _) λk y=>?_
 ·exact wC
 by_cases o:k<out.length
 ·have b:=au o
  have c:k<(out.map (·.Addr)).length:=by rw[I1];exact o
  have d:nth (out.map (·.Addr)) k=(nth out k).Addr:=bn (by rw[X3,au o];rfl);have e:aZ (freeAs {h with b2:=h.b2+n,a7:=⟨h.a7.b8,rest⟩} ((out.map (·.Addr)).take k)) (nth (out.map (·.Addr)) k::(out.map (·.Addr)).drop (k+1)):=by
   refine aZ.freeAs ?_;rw[<-iR c,List.take_append_drop];rw[List.append_nil]at j;exact j
  rw[d]at e;have w:=oB _ _ _ e
  repeat'(first|refine gE ?_|(conv=>whnf);first|refine CC ?_|refine CE (aa b) ?_|refine CK rfl (aa b) rfl ?_|refine CL (w) (.inl rfl) ?_)
  ((conv=>whnf);refine CF (k+1) ω ω ?_)
  rw[vR _ _ _ c,d];exact wC
 obtain rfl:k=out.length:=ω
 rw[Z7 (by rw[I1];omega)]
 repeat'(first|refine gE ?_|(conv=>whnf);first|refine CC ?_)
 refine CH rfl rfl ?_;exact wC
def FP(t:Nat)(h:ac)(az:List Int)(k:Nat)(a:k<az.length):recycs t h (az.take (k+1))=recyc t (recycs t h (az.take k)) (nth az k):=by
 unfold recycs;rw[I6,au a,Option.toList_some,List.foldl_append];rfl
def wv(h:ac)(t:Nat)(a:aZ h [])(i:t<h.S.length):zzB 423 false [.ptr (bF h),.val none [I (t:Nat)]] [.ptr (bF (collect h t)),.val none [I (t:Nat)]] .one [I ((nth h.y.a0 t).length:Nat)]:=by
 have l:=a.nc;have n:=(d8.1 a.mail).1.2.2;have j:=E1 h.y t a.mail ω;have c:=(jZ.of a.mail).il t ω;have d:=a.coll (t:=t) ω;rw[List.append_nil]at d;unfold collect;generalize nth h.y.a0 t=out at j d c |-;refine fM 36 [(515,[2,0,0])] [] [(0,0),(0,0)] Tryz.func423 rfl (λu q=>?_)
 repeat'(first|refine gP ?_|(conv=>whnf);first|refine CC ?_|refine CG (j) ⟨⟨rfl,aP.enc_fz h.y⟩,⟨rfl,rfl⟩,trivial⟩ ?_)
 (conv=>whnf)
 refine CJ (ι:=Nat) (λk=>[(0,.H .box (bF (recycs t {h with y:=l9 h.y t} (out.take k)))),(1,.H .one [I ((t:Nat):Int)]),(6,.H .one (aH .own out)),(7,.H .one [I ((k:Nat):Int)])]) (λk=>k<=out.length) (λk=>out.length - k) (0) ?_ (X0 _) λk p=>?_
 ·exact wC
 by_cases e:k<out.length
 ·have b:=au e
  have g:aZ (recycs t {h with y:=l9 h.y t} (out.take k)) (nth out k::out.drop (k+1)):=by
   refine aZ.recycs ?_ i;rw[<-iR e,List.take_append_drop];exact d
  have o:=oS _ _ t _ g (by rw[(f6 t _ _).1];exact i)
  repeat'(first|refine gE ?_|(conv=>whnf);first|refine CC ?_|refine CE (aa b) ?_|refine CK rfl (aa b) rfl ?_|refine CL (o) (.inl rfl) ?_)
  ((conv=>whnf);refine CF (k+1) ω ω ?_)
  rw[FP _ _ _ _ e];exact wC
 obtain rfl:k=out.length:=ω
 rw[X5]
 repeat'(first|refine gE ?_|(conv=>whnf);first|refine CC ?_)
 refine CH rfl rfl ?_;exact wC
def Pp(a:Int)(o:bt):Bool:=decide (o.Addr<=a/\a<o.Addr+o.q)
def Jo(h:ac)(E:List Int)(a:Int)(d:aZ h E):zzB 517 false [.ptr (bF h),.val none [I a]] [.ptr (bF h),.val none [I a]] .one [I (cZ (Pp a) h.O)]:=by
 have r:=d.lens.objs;refine fM 47 [] [(4,29,[15,16,17,18,19,20,21,22,23,24,25,26,27,28,29,30,31,32,33,34,35,36,37,38,39,40,41,42,43])] [(0,0),(0,0)] Tryz.func517 rfl (λu q=>?_)
 repeat'(first|refine gP ?_|(conv=>whnf);first|refine CC ?_)
 (conv=>whnf)
 refine CJ (ι:=Nat) (λi=>[(0,.H .box (bF h)),(1,.H .one [I (a)]),(5,.H .one [I ((i:Nat):Int)])]) (λi=>i<=h.O.length/\∀(j:Nat)(z:bt),j<i->h.O[j]? = some z->Pp a z=false) (λi=>h.O.length - i) (0) ?_ (⟨X0 _,λj z C=>ω⟩) λi d=>?_
 ·exact wC
 obtain⟨t,c⟩:=d;by_cases e:i<h.O.length
 ·have b:=au e
  have w:=uT ‹aZ h E› (ar e);have y:0<=(nth h.O i).q/\(nth h.O i).q<=1000:=by
   rcases aZ.oow ‹aZ h E› _ (ar e) with⟨s,B,F,G⟩|⟨l,g,k,o⟩
   ·have H:=aI ((aZ.L ‹aZ h E›).sok s B)
    have:=jI (n:=(nth h.O i).q) ω;omega
   have J:=cV ((aZ.L ‹aZ h E›).lok l g);omega
  by_cases k:(nth h.O i).Addr<=a
  ·by_cases o:a<(nth h.O i).Addr+(nth h.O i).q
   ·repeat'(first|refine gE ?_|(conv=>whnf);first|with_reducible refine CE (aa b) ?_|refine CC ?_|refine CK rfl (aa b) rfl ?_|refine CC ?_)
    refine CH rfl (Z0 (λz=>[I z]) (dQ b (O0 ⟨k,o⟩) c).symm) ?_;exact wC
   repeat'(first|refine gE ?_|(conv=>whnf);first|with_reducible (first|refine CE (aa b) ?_|refine Bf.D (λp=>?_) (λp=>?_))|refine CC ?_|refine CK rfl (aa b) rfl ?_|refine CC ?_)
   ((conv=>whnf);refine CF (i+1) ⟨ω,eg b (W0 λx=>o x.2) c⟩ ω ?_;(exact wC))
  repeat'(first|refine gE ?_|(conv=>whnf);first|with_reducible (first|refine CE (aa b) ?_|refine Bf.D (λp=>?_) (λp=>?_))|refine CC ?_|refine CK rfl (aa b) rfl ?_|refine CC ?_)
  ((conv=>whnf);refine CF (i+1) ⟨ω,eg b (W0 λx=>k x.1) c⟩ ω ?_;(exact wC))
 repeat'(first|refine gE ?_|(conv=>whnf);first|refine CC ?_)
 refine CH rfl (Z0 (λz=>[I z]) (gq ω c).symm) ?_;exact wC
def KD(h:ac)(a v:Int):bF {h with G:=dI h.G a v} = (bF h).set 0 (.s .own ((h.G.F.W.T.map (aH .own)).set (af h.G.F.Q (a / 16)).o.toNat ((aH .own (nth h.G.F.W.T (cW h.G a))).set 0 (.s .own (((nth h.G.F.W.T (cW h.G a)).map (rI .own)).set (a % 16).toNat (splice (rI .own (nth (nth h.G.F.W.T (cW h.G a)) (a % 16).toNat)) 0 [I v])))))):=by
 simp[bF,dI,setCell,Z6,aH,splice,cW,rI]
def Gr{p:α->Bool}{xs:List α}{x:α}(a:x∈xs)(b:p x=true):0<=cZ p xs:=by
 have:=nq p xs;rw[show xs.any p=true from I4.2 ⟨x,a,b⟩,C0]at this;exact this
def zI(h:ac)(i:Nat)(j v:Int)(e:aZ h [])(C:i<h.O.length)(D:0<=j/\j<=(nth h.O i).q - 1):zzB 418 false [.ptr (bF h),.val none [I ((nth h.O i).Addr+j)],.val none [I v]]
  [.ptr (bF (if(af h.G.F.Q (((nth h.O i).Addr+j) / 16)).e=1\/¬(0<=v/\v<=999) then h else {h with G:=dI h.G ((nth h.O i).Addr+j) v})),.val none [I ((nth h.O i).Addr+j)],.val none [I v]] .one [I (if(af h.G.F.Q (((nth h.O i).Addr+j) / 16)).e=1 then 2 else if ¬(0<=v/\v<=999) then 3 else 0)]:=by
 obtain⟨E,J,K⟩:=cR e (ar C) D;have F:0<=cZ (Pp ((nth h.O i).Addr+j)) h.O:=Gr (ar C) (O0 ω);have p:=Jo h [] ((nth h.O i).Addr+j) e;have r:=bv e.ker;have t:=dq h.G.F.Q (((nth h.O i).Addr+j) / 16) r.1.2;have n:=aK v 0 999;generalize L:(nth h.O i).Addr+j=a at *;have b:0<=a/\a<512:=ω
 obtain⟨-,-,-,G,M⟩:=bY e.ker E;have H:=(bf.1 (aG.1 e.ker).2.1).2.2.1;have k:cW h.G a<h.G.F.W.T.length:=by unfold cW;omega
 have d:h.G.F.W.T[(af h.G.F.Q (a / 16)).o.toNat]? = some (nth h.G.F.W.T (cW h.G a)):=au k;have w:=e.lens.row _ (ar k);have l:=au (xs:=nth h.G.F.W.T (cW h.G a)) (i:=(a % 16).toNat) (by rw[w];omega);have B:a.tmod 16=a % 16:=fR b.1;refine fM 42 [(517,[2,0])] [(8,14,[27,28,29,30,31,32,33,34,35,36,37,38,39,40])] [(0,0),(0,0),(0,0)] Tryz.func418 rfl (λu q=>?_);by_cases o:(af h.G.F.Q (a / 16)).e=1
 ·rw[CD (Or.inl o),CD o]
  repeat'(first|refine gB ?_|(conv=>whnf);first|refine CC ?_|refine CL (p) (.inl rfl) ?_|refine CG (t) ⟨⟨rfl,Cb _⟩,⟨rfl,rfl⟩,trivial⟩ ?_|refine CP (by decide) ?_|refine CN (r9 b) ?_)
  refine CH rfl rfl ?_;exact wC
 rw[CB (c:=_=(1:Int)) o];by_cases g:0<=v/\v<=999
 ·rw[O0 g]at n
  rw[CB (c:=¬(0<=v/\v<=999)) (V4 g),CB (c:=_\/¬(0<=v/\v<=999)) (λy=>y.elim o λy=>y g)]
  repeat'(first|refine gB ?_|(conv=>whnf);first|refine CC ?_|refine CL (p) (.inl rfl) ?_|refine CG (t) ⟨⟨rfl,Cb _⟩,⟨rfl,rfl⟩,trivial⟩ ?_|refine C9 (n) ?_|refine CP (by decide) ?_|refine CN (r9 b) ?_|refine CV B ?_|refine CO G (aa d) ?_|refine CK rfl (aa d) rfl ?_|refine CO ω (aa l) ?_|refine Pu.two rfl rfl (aa d) rfl rfl rfl (aa l) rfl (W3 _) (KD h a v) ?_|refine CC ?_)
  refine CH rfl rfl ?_;exact wC
 rw[W0 g]at n;rw[CD (Or.inr g),CD g]
 repeat'(first|refine gB ?_|(conv=>whnf);first|refine CC ?_|refine CL (p) (.inl rfl) ?_|refine CG (t) ⟨⟨rfl,Cb _⟩,⟨rfl,rfl⟩,trivial⟩ ?_|refine C9 (n) ?_|refine CP (by decide) ?_|refine CN (r9 b) ?_)
 refine CH rfl rfl ?_;exact wC
def wW(l:aF)(n:Int):aB:=if(n+15) / 16<l.a3 then⟨l.R+(n+15) / 16,l.a3 - (n+15) / 16⟩ else⟨0,0⟩
def yB(l:aF)(n:Int)(d:bR l=true):zzA 518 false [.val (some 3) (aF.enc .V l),.val none [I n]] (.tup [some 3,some 2,none]) (if 9<=n/\n<=l.q then aF.enc .own (trimL l n)++aB.enc .own (wW l n)++[B true] else aF.enc .own l++[I 0,I 0]++[B false]):=by
 have b:=nQ l;rw[d]at b;have a:=aK n 9 l.q;have g:=d;unfold bR at g;rw[C0]at g;by_cases e:9<=n/\n<=l.q
 ·rw[O0 e]at a
  rw[CD e];have c:=mK n;rw[show fk n=(n+15) / 16 by unfold fk;rw[CD ω]]at c;unfold wW;by_cases h:(n+15) / 16<l.a3
  ·rw[CD h]
   refine fO 43 [(7,261,[37,38,39,40,42,0,1,2,3,5,4,1005,6,1005,7,8])] Tryz.func518 rfl ?_ (.inr ⟨trivial,trivial,trivial,trivial,trivial,trivial,trivial⟩)
   repeat'(first|refine gE ?_|(conv=>whnf);first|refine CC ?_|refine C9 (b) ?_|refine C9 (a) ?_|refine C9 (c) ?_|refine CC ?_)
   rfl
  rw[CB h];refine fO 43 [(7,261,[37,38,39,40,42,0,1,2,3,5,4,1005,6,1005,7,8])] Tryz.func518 rfl ?_ (.inr ⟨trivial,trivial,trivial,trivial,trivial,trivial,trivial⟩)
  repeat'(first|refine gE ?_|(conv=>whnf);first|refine CC ?_|refine C9 (b) ?_|refine C9 (a) ?_|refine C9 (c) ?_|refine CC ?_)
  rfl
 rw[W0 e]at a;rw[CB e];refine fO 43 [(7,261,[37,38,39,40,42,0,1,2,3,5,4,1005,6,1005,7,8])] Tryz.func518 rfl ?_ (.inr ⟨trivial,trivial,trivial,trivial,trivial,trivial,trivial⟩)
 repeat'(first|refine gP ?_|(conv=>whnf);first|refine CC ?_|refine C9 (b) ?_|refine C9 (a) ?_|refine CC ?_)
 rfl
def DX(h:ac)(t a:Int)(c:h.S.length<=4)(d:¬(0<=t/\t<=h.S.length - 1)):zzB 416 false [.ptr (bF h),.val none [I t],.val none [I a]] [.ptr (bF h),.val none [I t],.val none [I a]] .one [I 1]:=by
 have b:=aK t 0 (h.S.length - 1:Int);rw[W0 d]at b;refine fM 148 [(511,[2,0]),(513,[2,0]),(515,[2,0,0]),(510,[2,0])] [(15,269,[68,69,70,71,72,73,74,75,77,67,78,79,11,0,1,2,3,4,5,6,7,13,8,1000,1001,1002,1003,1004,1013,9,10,11,12,14,1012,15]),(22,15,[92,93,94,95,96,97,98,99,100,101,102,103,104,105,106]),(25,271,[116,117,118,119,120,121,122,123,124,125,127,115,128,129,14,0,1,2,3,4,5,6,7,8,9,15,10,1000,1001,1002,1003,1015,11,12,13,14,16,1014,17])] [(0,0),(0,0),(0,0)] Tryz.func416 rfl (λu q=>?_)
 repeat'(first|refine gP ?_|(conv=>whnf);first|refine CC ?_|refine C9 (b) ?_)
 refine CH rfl rfl ?_;exact wC
def GW(h:ac)(i t:Nat)(a:aZ h [])(j:i<h.O.length)(U:t<h.S.length)(K:(nth h.O i).a5≠t):zzB 416 false [.ptr (bF h),.val none [I (t:Nat)],.val none [I (nth h.O i).Addr]] [.ptr (bF (freeT h t i).1),.val none [I (t:Nat)],.val none [I (nth h.O i).Addr]] .one [I (freeT h t i).2]:=by
 have F:=ar j;obtain⟨-,L,d⟩:=a.objAt F;have N:rd h (nth h.O i).Addr=i:=by
  have V:=(a.objAt F).1;exact cQ (f:=(·.Addr)) (di a.osr) V j (by rw[L])
 rw[N]at d;have b:=uT a F;have W:=a.onu _ F;have n:=a.lens;have X:=n.objs;have Y:=a.nc;have Z:=jZ.of a.mail;have hb4:=Z.b4;have o:=aK (t:Nat) 0 (h.S.length - 1:Int);rw[O0 ω]at o;have p:=rS h (nth h.O i).Addr ω;rw[d]at p;have e:=au j;have G:=lf (nth h.O i).q;have O:=bv a.ker;have P:=dq h.G.F.Q ((nth h.O i).Addr / 16) O.1.2;unfold freeT;by_cases H:aN (nth h.O i).q<0
 ·rw[CD H]
  have c3:=qV h i a j H;refine fM 148 [(511,[2,0]),(513,[2,0]),(515,[2,0,0]),(510,[2,0])] [(15,269,[68,69,70,71,72,73,74,75,77,67,78,79,11,0,1,2,3,4,5,6,7,13,8,1000,1001,1002,1003,1004,1013,9,10,11,12,14,1012,15]),(22,15,[92,93,94,95,96,97,98,99,100,101,102,103,104,105,106]),(25,271,[116,117,118,119,120,121,122,123,124,125,127,115,128,129,14,0,1,2,3,4,5,6,7,8,9,15,10,1000,1001,1002,1003,1015,11,12,13,14,16,1014,17])] [(0,0),(0,0),(0,0)] Tryz.func416 rfl (λu q=>?_)
  repeat'(first|refine gE ?_|(conv=>whnf);first|with_reducible refine Bf.D (λc=>?_) (λc=>?_)|refine CC ?_|refine C9 (o) ?_|refine CG (p) ⟨⟨rfl,bL h⟩,⟨rfl,rfl⟩,trivial⟩ ?_|refine CE (aa e) ?_|refine CK rfl (aa e) rfl ?_|refine C9 (G) ?_|refine CL (c3) (.inl rfl) ?_)
  refine CH rfl rfl ?_;exact wC
 rw[CB H];obtain⟨s1,s2,s3,s4⟩:=UE.of a (ar j) H;by_cases J:(af (tbl h) ((nth h.O i).Addr / 16)).e=1
 ·rw[CD J]
  unfold tbl at J;refine fM 148 [(511,[2,0]),(513,[2,0]),(515,[2,0,0]),(510,[2,0])] [(15,269,[68,69,70,71,72,73,74,75,77,67,78,79,11,0,1,2,3,4,5,6,7,13,8,1000,1001,1002,1003,1004,1013,9,10,11,12,14,1012,15]),(22,15,[92,93,94,95,96,97,98,99,100,101,102,103,104,105,106]),(25,271,[116,117,118,119,120,121,122,123,124,125,127,115,128,129,14,0,1,2,3,4,5,6,7,8,9,15,10,1000,1001,1002,1003,1015,11,12,13,14,16,1014,17])] [(0,0),(0,0),(0,0)] Tryz.func416 rfl (λu q=>?_)
  repeat'(first|refine gB ?_|(conv=>whnf);first|with_reducible refine Bf.D (λc=>?_) (λc=>?_)|refine CC ?_|refine CP (by decide) ?_|refine CN (r9 b) ?_|refine C9 (o) ?_|refine CG (p) ⟨⟨rfl,bL h⟩,⟨rfl,rfl⟩,trivial⟩ ?_|refine CE (aa e) ?_|refine CK rfl (aa e) rfl ?_|refine C9 (G) ?_|refine CG (P) ⟨⟨rfl,Cb _⟩,⟨rfl,rfl⟩,trivial⟩ ?_)
  refine CH rfl rfl ?_;exact wC
 rw[CB J,CB K];unfold tbl at J;have r:=M3 h.y t ⟨(nth h.O i).a5,(nth h.O i).Addr⟩ a.mail ω;by_cases l:bQ (ij h.y t ⟨(nth h.O i).a5,(nth h.O i).Addr⟩)=true;rotate_left
 ·rw[CB l]
  rw[CB l,show bQ (ij h.y t ⟨(nth h.O i).a5,(nth h.O i).Addr⟩)=false by simpa using l]at r;refine fM 148 [(511,[2,0]),(513,[2,0]),(515,[2,0,0]),(510,[2,0])] [(15,269,[68,69,70,71,72,73,74,75,77,67,78,79,11,0,1,2,3,4,5,6,7,13,8,1000,1001,1002,1003,1004,1013,9,10,11,12,14,1012,15]),(22,15,[92,93,94,95,96,97,98,99,100,101,102,103,104,105,106]),(25,271,[116,117,118,119,120,121,122,123,124,125,127,115,128,129,14,0,1,2,3,4,5,6,7,8,9,15,10,1000,1001,1002,1003,1015,11,12,13,14,16,1014,17])] [(0,0),(0,0),(0,0)] Tryz.func416 rfl (λu q=>?_)
  repeat'(first|refine gB ?_|(conv=>whnf);first|with_reducible refine Bf.D (λc=>?_) (λc=>?_)|refine CC ?_|refine CP (by decide) ?_|refine CN (r9 b) ?_|refine C9 (o) ?_|refine CG (p) ⟨⟨rfl,bL h⟩,⟨rfl,rfl⟩,trivial⟩ ?_|refine CE (aa e) ?_|refine CK rfl (aa e) rfl ?_|refine C9 (G) ?_|refine CG (P) ⟨⟨rfl,Cb _⟩,⟨rfl,rfl⟩,trivial⟩ ?_|refine CG (r) ⟨⟨rfl,aP.enc_fz h.y⟩,⟨rfl,rfl⟩,⟨rfl,rfl⟩,trivial⟩ ?_|refine CC ?_)
  refine CH rfl rfl ?_;exact wC
 rw[CD l];rw[CD l,l]at r;have w:cW h.G (nth h.O i).Addr<h.G.F.W.T.length:=by unfold cW;omega
 have hcz:=P3 s1;have B:=eC (aN (nth h.O i).q);unfold MV;generalize ij h.y t ⟨(nth h.O i).a5,(nth h.O i).Addr⟩ = M at r;refine fM 148 [(511,[2,0]),(513,[2,0]),(515,[2,0,0]),(510,[2,0])] [(15,269,[68,69,70,71,72,73,74,75,77,67,78,79,11,0,1,2,3,4,5,6,7,13,8,1000,1001,1002,1003,1004,1013,9,10,11,12,14,1012,15]),(22,15,[92,93,94,95,96,97,98,99,100,101,102,103,104,105,106]),(25,271,[116,117,118,119,120,121,122,123,124,125,127,115,128,129,14,0,1,2,3,4,5,6,7,8,9,15,10,1000,1001,1002,1003,1015,11,12,13,14,16,1014,17])] [(0,0),(0,0),(0,0)] Tryz.func416 rfl (λu q=>?_)
 repeat'(first|refine gB ?_|(conv=>whnf);first|with_reducible refine Bf.D (λc=>?_) (λc=>?_)|refine CC ?_|refine CP (by decide) ?_|refine CN (r9 b) ?_|refine C9 (o) ?_|refine CG (p) ⟨⟨rfl,bL h⟩,⟨rfl,rfl⟩,trivial⟩ ?_|refine CE (aa e) ?_|refine CK rfl (aa e) rfl ?_|refine C9 (G) ?_|refine CG (P) ⟨⟨rfl,Cb _⟩,⟨rfl,rfl⟩,trivial⟩ ?_|refine CG (r) ⟨⟨rfl,aP.enc_fz h.y⟩,⟨rfl,rfl⟩,⟨rfl,rfl⟩,trivial⟩ ?_|refine CC ?_)
 have Q:({{h with y:=M} with G:=fA h.G (nth h.O i).Addr 0} : ac) = {h with y:=M}:=Ks {h with y:=M} _ w;have R:=Z0 (λy:ac=>C.s .own (y.G.F.W.T.map (aH .own))) Q
 (conv=>whnf)
 refine CJ (ι:=Nat) (λk=>[(0,.H .box (bF {{h with y:=M} with G:=fA h.G (nth h.O i).Addr k})),(1,.H .one [I ((t:Nat):Int)]),(2,.H .one [I ((nth h.O i).Addr)]),(7,.H .one [I ((i:Nat):Int)]),(8,.H .box (bt.enc .own (nth h.O i))),(9,.H .one [I (aN (nth h.O i).q)]),(10,.H .box (bh.enc .own (af h.G.F.Q ((nth h.O i).Addr / 16)))),(13,.H .one [I ((k:Nat):Int)])]) (λk=>k<=(csz (aN (nth h.O i).q)).toNat) (λk=>(csz (aN (nth h.O i).q)).toNat - k) (0) ?_ (X0 _) λk hk=>?_
 ·repeat'(first|exact trivial|rfl |exact pM R|exact eK _|refine CM ?_ ?_|(exact EO (by first|omega|(simp only;omega)|(simp;omega))))
 have T:IntKind.i64.wrap 0=0:=rfl;have S:(nth h.O i).Addr.tmod 16=(nth h.O i).Addr % 16:=fR b.1;have g:(fA h.G (nth h.O i).Addr k).F.W.T[(af h.G.F.Q ((nth h.O i).Addr / 16)).o.toNat]? = some (lU (nth h.G.F.W.T (cW h.G (nth h.O i).Addr)) ((nth h.O i).Addr % 16).toNat k):=v4 w;by_cases lk:k<(csz (aN (nth h.O i).q)).toNat
 ·have E:=au (xs:=lU (nth h.G.F.W.T (cW h.G (nth h.O i).Addr)) ((nth h.O i).Addr % 16).toNat k) (i:=((nth h.O i).Addr % 16+k).toNat) (by rw[nl,s4];omega)
  repeat'(first|refine gE ?_|(conv=>whnf);first|refine CC ?_|refine CP (by decide) ?_|refine CV S ?_|refine C9 (B) ?_|refine CO s2.1 (aa g) ?_|refine CK rfl (aa g) rfl ?_|refine CO ω (aa E) ?_|refine Pu.two rfl rfl (aa g) rfl rfl rfl (aa E) rfl (W3 _) (Hg {h with y:=M} _ k _ b.1) ?_)
  ((conv=>whnf);refine CF (k+1) ω ω ?_;(exact wC))
 obtain rfl:k=(csz (aN (nth h.O i).q)).toNat:=ω
 have c6:=oH {{h with y:=M} with G:=fA h.G (nth h.O i).Addr (csz (aN (nth h.O i).q)).toNat} i j (by show h.O.length<=_;omega)
 repeat'(first|refine gB ?_|(conv=>whnf);first|with_reducible refine Bf.D (λc=>?_) (λc=>?_)|refine CC ?_|refine C9 (B) ?_|refine CL (c6) (.inl rfl) ?_)
 refine CH rfl rfl ?_;exact wC
def R7(h:ac)(i:Nat)(t:Int)(a:aZ h [])(d:i<h.O.length):zzB 416 false [.ptr (bF h),.val none [I t],.val none [I (nth h.O i).Addr]] [.ptr (bF (if 0<=t/\t<=h.S.length - 1 then(freeT h t.toNat i).1 else h)),.val none [I t],.val none [I (nth h.O i).Addr]] .one [I (if 0<=t/\t<=h.S.length - 1 then(freeT h t.toNat i).2 else 1)]:=by
 have c:h.S.length<=4:=by have:=(d8.1 a.mail).1.2.1;have:=a.nc;omega
 by_cases b:0<=t/\t<=h.S.length - 1
 ·rw[CD b,CD b]
  obtain⟨n,rfl⟩:=O3 b.1;simp only[I3];by_cases e:(nth h.O i).a5=n
  ·have:=Hr h (nth h.O i) n a (ar d) e c
   have g:rd h (nth h.O i).Addr=i:=by
    obtain⟨k,j,-⟩:=a.objAt (ar d);exact cQ (f:=(·.Addr)) (di a.osr) k d (by rw[j])
   rw[g,<-BF e]at this;exact this
  exact GW h i n a d ω e
 rw[CB b,CB b];exact DX h t _ c b
def FD(c:aE)(k:Nat):aE.enc .own (qM c k)=[.s .own ((c.a.map (aH .own)).set k (aH .own ((nth c.a k).take ((nth c.a k).length - 1))))]:=by simp[aE.enc,qM,Z6]
def Qq(xs:List Int)(n:Nat):(xs.take n).map (rI .V)=(xs.map (rI .V)).take n:=W4
def UD(c:aE)(k:Nat):List C:=if 0<(nth c.a k).length then aE.enc .own (qM c k)++[I (nth (nth c.a k) ((nth c.a k).length - 1)),B true] else aE.enc .own c++[I (-1),B false]
def TH(c:aE)(k:Nat):iv (UD c k):=by
 unfold UD;split
 ·exact aL (Ci _) ⟨trivial,trivial,trivial⟩
 exact aL (Ci _) ⟨trivial,trivial,trivial⟩
def yD(c:aE)(k:Nat)(h:bx c=true)(u:k<=3):zzA 366 false [.val (some 1) (aE.enc .V c),.val none [I (k:Nat)]] (.tup [some 1,none,none]) (UD c k):=by
 obtain⟨w,j⟩:=eQ h;have n:aE.sml c:=⟨ω,λl r=>by have:=j l r;show l.length<=1048576;omega⟩
 have d:=yp c k n;rw[h,O0 ω]at d;have o:=iZ c n;have b:=q7 (c:=c) (k:=k) ω;have t:=j _ (ar (xs:=c.a) (i:=k) ω);have a:=TH c k;unfold UD at a |-;by_cases p:0<(nth c.a k).length
 ·rw[CD p]at a |-
  have q:=au (xs:=nth c.a k) (i:=(nth c.a k).length - 1) ω;have e:(nth c.a k)[(((nth c.a k).length:Int) - 1).toNat]? = some (nth (nth c.a k) ((nth c.a k).length - 1)):=by rw[show(((nth c.a k).length:Int) - 1).toNat=(nth c.a k).length - 1 by omega];exact q
  have g:((((nth c.a k).length:Nat):Int) - 1)=(((nth c.a k).length - 1:Nat):Int):=ω
  rw[FD]at a |-;refine fO 54 [(5,268,[32,33,34,35,36,37,38,39,40,41,42,44,0,1,2,3,4,5,6,7,8,9,10,11,1000,1001,1002,12,13]),(6,265,[45,46,47,48,49,50,51,52,53,0,1,2,3,4,5,6,7,8,9,1001,1002,1003,1004,1005,1006,1007,1008,10,11])] Tryz.func366 rfl ?_ (.inr a)
  repeat'(first|refine gB ?_|(conv=>whnf);first|with_reducible refine CE (aa b) ?_|refine CC ?_|refine CK rfl (aa b) rfl ?_|refine C9 (d) ?_|refine C9 (o) ?_|refine CO ω (aa e) ?_|refine CE (aa q) ?_|refine CZ ((nth c.a k).length - 1) g (by rw[I1];omega) (aX λ_=>rfl) (Qq _ _) ?_|refine CC ?_|refine CY (λ_=>rfl) (λ_=>rfl) (by rw[C2];omega) (by decide) ?_|refine CS (λ_=>rfl) (λ_=>rfl) (by rw[C2];omega) (by decide) ?_|refine CQ rfl rfl (aa b) rfl (O1 rfl) rfl ?_)
  rfl
 rw[CB p]at a |-;refine fO 54 [(5,268,[32,33,34,35,36,37,38,39,40,41,42,44,0,1,2,3,4,5,6,7,8,9,10,11,1000,1001,1002,12,13]),(6,265,[45,46,47,48,49,50,51,52,53,0,1,2,3,4,5,6,7,8,9,1001,1002,1003,1004,1005,1006,1007,1008,10,11])] Tryz.func366 rfl ?_ (.inr a)
 repeat'(first|refine gB ?_|(conv=>whnf);first|with_reducible refine CE (aa b) ?_|refine CC ?_|refine CK rfl (aa b) rfl ?_|refine C9 (d) ?_|refine C9 (o) ?_)
 rfl
def U0(xs:List aB)(n:Int):List C:=bw .own (ax xs n).1++[I (ax xs n).2.1,B (ax xs n).2.2]
def TW(xs:List aB)(n:Int):iv (U0 xs n):=aL (iM _) ⟨trivial,trivial,trivial⟩
def pU(pages:Int)(xs:List aB)(n:Int)(w:0<=pages/\pages<=1048576)(l:bG pages xs=true)(J:1<=n/\n<=1000)(K:xs.length<=4096):zzA 371 false [.val none [I pages],.val none (bw .V xs),.val none [I n]] (.tup [none,none,none]) (U0 xs n):=by
 have o:=mQ pages xs w ⟨ω,λ_ _=>trivial⟩;rw[l]at o;have p:=(wT l).2;refine fO 98 [(8,21,[31,32,33,34,35,36,37,38,39,40,41,42,43,44,45,46,47,48,49,50,51]),(14,265,[71,72,73,74,76,77,78,79,81,0,1,2,3,5,6,7,8,10,4,1005,1006,1007,1008,1010,9,1010,11,1010,12,13])] Tryz.func371 rfl ?_ (.inr (TW xs n))
 repeat'(first|refine gE ?_|(conv=>whnf);first|refine CC ?_|refine C9 (o) ?_|refine CS (λ_=>rfl) (λ_=>rfl) ω (by decide) ?_)
 (conv=>whnf)
 refine CJ (ι:=Nat) (λi=>[(1,.H .one (bw .V xs)),(2,.H .one [I (n)]),(9,.H .one (bw .own xs)),(10,.H .one [I (fV xs n i)]),(11,.H .one [I ((i:Nat):Int)])]) (λi=>i<=xs.length) (λi=>xs.length - i) (0) ?_ (X0 _) λi y=>?_
 ·exact wC
 have h:=tw xs n i y;by_cases q:i<xs.length
 ·have j:=au q
  have E:=p _ (ar q);have a:fV xs n (i+1)=if n<=(nth xs i).a8/\(fV xs n i<0\/(nth xs i).a8<(nth xs (fV xs n i).toNat).a8) then((i:Nat):Int) else fV xs n i:=rfl
  by_cases r:n<=(nth xs i).a8
  ·by_cases F:fV xs n i<0
   ·rw[CD ⟨r,.inl F⟩]at a
    repeat'(first|refine gE ?_|(conv=>whnf);first|with_reducible (first|refine CE (aa j) ?_|refine Bf.D (λc=>?_) (λc=>?_))|refine CC ?_)
    ((conv=>whnf);refine CF (i+1) ω ω ?_)
    rw[a];exact wC
   have d:=au (xs:=xs) (i:=(fV xs n i).toNat) ω;by_cases G:(nth xs i).a8<(nth xs (fV xs n i).toNat).a8
   ·rw[CD ⟨r,.inr G⟩]at a
    repeat'(first|refine gE ?_|(conv=>whnf);first|with_reducible (first|refine CE (aa j) ?_|refine CO ω (aa d) ?_|refine Bf.D (λc=>?_) (λc=>?_))|refine CC ?_)
    ((conv=>whnf);refine CF (i+1) ω ω ?_)
    rw[a];exact wC
   rw[CB ω]at a
   repeat'(first|refine gE ?_|(conv=>whnf);first|with_reducible (first|refine CE (aa j) ?_|refine CO ω (aa d) ?_|refine Bf.D (λc=>?_) (λc=>?_))|refine CC ?_)
   ((conv=>whnf);refine CF (i+1) ω ω ?_)
   rw[a];exact wC
  rw[CB ω]at a
  repeat'(first|refine gE ?_|(conv=>whnf);first|with_reducible (first|refine CE (aa j) ?_|refine Bf.D (λc=>?_) (λc=>?_))|refine CC ?_)
  ((conv=>whnf);refine CF (i+1) ω ω ?_)
  rw[a];exact wC
 obtain rfl:i=xs.length:=ω
 change f8 xs n = -1\/_ at h;unfold U0 ax;rw[show fV xs n xs.length=f8 xs n from rfl];by_cases e:f8 xs n<0
 ·rw[CD e]
  rw[show f8 xs n = -1 from h.resolve_right λg=>by have L:0<=f8 xs n:=g.1;omega]
  repeat'(first|refine gE ?_|(conv=>whnf);first|with_reducible refine Bf.D (λc=>?_) (λc=>?_)|refine CC ?_)
  rfl
 rw[CB e];obtain⟨H,t,M⟩:=h.resolve_left ω;change 0<=f8 xs n at H;change f8 xs n<xs.length at t;obtain⟨b,k⟩:=O3 (show 0<=f8 xs n by omega);rw[k]at t |-;simp only[I3];have d:=au (xs:=xs) (i:=b) ω;have E:=p _ (ar (xs:=xs) (i:=b) ω);by_cases u:(nth xs b).a8=n
 ·rw[CD u]
  repeat'(first|refine gB ?_|(conv=>whnf);first|with_reducible (first|refine CE (aa d) ?_|refine Bf.D (λc=>?_) (λc=>?_))|refine CC ?_|refine CZ b rfl (by rw[I1];omega) (aX λ_=>rfl) W4 ?_|refine Sl.suf (b+1) rfl (by rw[I1];omega) (aX λ_=>rfl) X4 ?_|refine CY (λ_=>rfl) (λ_=>rfl) (by rw[C2];omega) (by decide) ?_|refine Ap.dele (λ_=>rfl) (λ_=>rfl) ω (by decide) ?_|refine CS (λ_=>rfl) (λ_=>rfl) (by rw[C2];omega) (by decide) ?_|refine CC ?_)
  rfl
 rw[CB u]
 repeat'(first|refine gB ?_|(conv=>whnf);first|with_reducible (first|refine CE (aa d) ?_|refine Bf.D (λc=>?_) (λc=>?_))|refine CC ?_|refine CQ rfl rfl (aa d) rfl (O1 rfl) rfl ?_)
 exact Z0 (λz=>z++[I (nth xs b).At,B true]) (show [C.s dY.own _]=_ from by simp[bw,Z6];rfl)
def yh(k:ah)(p:Int)(f:Nat):ah.enc .own (sA k p f)=((ah.enc .own k).set 1 (.s .own ((k.F.W.a1.map (rB .own)).set f (rB .own true)))).set 2 (.s .own ((k.F.Q.J.map (bh.enc .own)).set p.toNat (bh.enc .own ⟨2,(f:Nat)⟩))):=by
 simp[ah.enc,sA,Z6]
def Gh(k:ah)(p:Int)(c:aC k=true)(y:k.Calls≠100000)(o:0<=p/\p<k.F.Q.J.length)(C:(nth k.F.Q.J p.toNat).e=0):zzB 373 false [.ptr (ah.enc .own k),.val none [I p]] [.ptr (ah.enc .own (newK k p).1),.val none [I p]] .one [B (newK k p).2]:=by
 have E:=bv c;have F:=bf.1 (aG.1 c).2.1;have G:=(br.1 (aG.1 c).2.2.1).2.2;have H:(cn k).F.Q.J.length<=32:=G;have a:=Du k.F.W ω;have d:=oq k c y;have g:=eP (cn k) p E.1.2;have l:af (cn k).F.Q p=nth k.F.Q.J p.toNat:=by unfold af;exact CD o
 rw[l,C]at g;have h:=aK p 0 ((k.F.Q.J.length:Int) - 1);rw[O0 ω]at h;have r:=au (xs:=k.F.Q.J) (i:=p.toNat) ω;change ay _ _ _ _ _ [I (oY k)]at a;unfold newK;cases e:refd k<;>rw[e]at d
 ·by_cases j:oY k<0
  ·rw[CD (.inr j)]
   refine fM 56 [(484,[2])] [] [(0,0),(0,0)] Tryz.func373 rfl (λu q=>?_)
   repeat'(first|refine gB ?_|(conv=>whnf);first|with_reducible refine Bf.D (λb=>?_) (λb=>?_)|refine CG (a) ⟨⟨rfl,aU.enc_fz _⟩,trivial⟩ ?_|refine CL (d) (.inl rfl) ?_|refine C9 (h) ?_|refine CG (g) ⟨CR (cn k),⟨rfl,rfl⟩,trivial⟩ ?_)
   refine CH rfl ?_ ?_
   ·rfl
   exact wC
  rw[CB (by simp[j])];obtain⟨n,t⟩:=Fh j;obtain⟨f,J⟩:=O3 (show 0<=oY k by omega);rw[J]at a n t j |-;simp only[I3]at n t |-;have w:=au (xs:=k.F.W.a1) (i:=f) n;rw[yh];refine fM 56 [(484,[2])] [] [(0,0),(0,0)] Tryz.func373 rfl (λu q=>?_)
  repeat'(first|refine gB ?_|(conv=>whnf);first|with_reducible refine Bf.D (λb=>?_) (λb=>?_)|refine CG (a) ⟨⟨rfl,aU.enc_fz _⟩,trivial⟩ ?_|refine CL (d) (.inl rfl) ?_|refine C9 (h) ?_|refine CG (g) ⟨CR (cn k),⟨rfl,rfl⟩,trivial⟩ ?_|refine CE (aa w) ?_|refine CO o.1 (aa r) ?_|refine CQ rfl rfl (aa w) rfl (O1 rfl) rfl ?_|refine CQ rfl rfl (aa r) rfl (O1 rfl) rfl ?_)
  refine CH rfl ?_ ?_
  ·rfl
  exact wC
 rw[CD (.inl rfl)];refine fM 56 [(484,[2])] [] [(0,0),(0,0)] Tryz.func373 rfl (λu q=>?_)
 repeat'(first|refine gB ?_|(conv=>whnf);first|with_reducible refine Bf.D (λb=>?_) (λb=>?_)|refine CG (a) ⟨⟨rfl,aU.enc_fz _⟩,trivial⟩ ?_|refine CL (d) (.inl rfl) ?_|refine C9 (h) ?_|refine CG (g) ⟨CR (cn k),⟨rfl,rfl⟩,trivial⟩ ?_)
 refine CH rfl ?_ ?_
 ·rfl
 exact wC
def UA(h:ac):List C:=(bF h).drop 5
def FZ(h:ac)(p:Int)(a:aC h.G=true)(b:h.G.Calls≠100000)(c:0<=p/\p<h.G.F.Q.J.length)(d:(nth h.G.F.Q.J p.toNat).e=0):zzB 373 false [.ptr (bF h),.val none [I p]] [.ptr (bF {h with G:=(newK h.G p).1}),.val none [I p]] .one [B (newK h.G p).2]:=
 (Gh h.G p a b c d).frame (r:=UA h) rfl
def Mj(h:ac)(i:Nat):bF (slotT h i)=((bF h).set 14 (I (Aw h.b3))).set 6 (.s .own ((h.K.map (aA.enc .own)).set i [I (nth h.K i).R,I (nth h.K i).d,I (gx (nth h.K i).a9 (nt h i))])):=by
 simp[bF,slotT,qL,Z6,aA.enc]
def ui(h:ac)(E:List Int)(i:Nat)(c:aZ h E)(k:i<h.K.length):zzB 368 false [.ptr (bF h),.val none [I (i:Nat)]] [.ptr (bF (iN h i).1),.val none [I (i:Nat)]] .one [I (iN h i).2]:=by
 have F:=c.lens;have G:=F.spans;have d:=au k;have b:=c.L.sok _ (ar k);have e:=dP b;have a:=c.nums;unfold cq at a;rw[C0]at a;have t:=(br.1 (aG.1 c.ker).2.2.1).2.2;have l:=lG c.L.sok (ps:=aW h (nth h.K i).R) e (aW h (nth h.K i).R).length;change 0<=dL h i/\dL h i<=65535 at l;have w:=oM (nth h.K i).d;have y:=Ax h i ⟨ω,λ_ _=>trivial⟩ ⟨by show h.G.F.Q.J.length<=_;omega,λ_ _=>trivial⟩ c.L.sok k;have o:=yH (nth h.K i).d (dL h i) ω;change ay _ _ _ _ _ (aH .own (gL h i)) at o;have p:=y7 (nth h.K i).d (dL h i);change (gL h i).length<=16 at p;unfold iN;by_cases B:(gL h i).length=0
 ·rw[CD B]
  refine fM 68 [] [(2,7,[16,17,18,19,20,21,22]),(7,12,[42,43,44,45,46,47,48,49,50,51,52,53]),(8,11,[56,57,58,59,60,61,62,63,64,65,66])] [(0,0),(0,0)] Tryz.func368 rfl (λu q=>?_)
  repeat'(first|refine gB ?_|(conv=>whnf);first|refine CE (aa d) ?_|refine CK rfl (aa d) rfl ?_|refine C9 (w) ?_|refine CG (y) ⟨⟨rfl,bL h⟩,⟨rfl,rfl⟩,trivial⟩ ?_|refine C9 (o) ?_|refine CC ?_)
  refine CH rfl rfl ?_;exact wC
 rw[CB B];have H:=ve (h:=h) (i:=i) ω;obtain⟨C,D,O⟩:=rH H;have J:=(gr (aI b).2.2).2.2.1;have r:=sq h.b3 (n:=((gL h i).length:Nat)) ω;have K:=v7 h.b3 ((gL h i).length:Nat) ω ω;have M:=Aa (nth h.K i).a9 (nt h i) e ω;have N:=zZ (qL (nth h.K i) (nt h i)) (nt h i) (DV b ⟨C,D⟩) ⟨C,D⟩;have g:(gL h i)[(KN h.b3 ((gL h i).length:Nat)).toNat]? = some (nt h i):=au ω;have j:((h.K.map (aA.enc .own)).set i [I (nth h.K i).R,I (nth h.K i).d,I (gx (nth h.K i).a9 (nt h i))])[i]? = some [I (nth h.K i).R,I (nth h.K i).d,I (gx (nth h.K i).a9 (nt h i))]:=kU k;unfold pB;rw[Mj];refine fM 68 [] [(2,7,[16,17,18,19,20,21,22]),(7,12,[42,43,44,45,46,47,48,49,50,51,52,53]),(8,11,[56,57,58,59,60,61,62,63,64,65,66])] [(0,0),(0,0)] Tryz.func368 rfl (λu q=>?_)
 repeat'(first|refine gB ?_|(conv=>whnf);first|refine CE (aa d) ?_|refine CE j ?_|refine CK rfl (aa g) rfl ?_|refine CK rfl (aa d) rfl ?_|refine CK rfl j rfl ?_|refine C9 (w) ?_|refine CG (y) ⟨⟨rfl,bL h⟩,⟨rfl,rfl⟩,trivial⟩ ?_|refine C9 (o) ?_|refine C9 (K) ?_|refine C9 (M) ?_|refine C9 (N) ?_|refine CO r.1 (aa g) ?_|refine CC ?_|refine CQ rfl rfl (aa d) rfl (O1 rfl) rfl ?_)
 refine CH rfl ?_ ?_
 ·rfl
 exact wC
def Ap.ins{e:α->List C}{xs:List α}{y:α}{r:List C}{sz by_:Nat}{K:List (List C)->Prop}(a:r=e y)(b:∀y,(e y).length=sz)(c:∀y,bk (e y)=true)(h:xs.length<=1048576)(d:by_<=1000)(f:K ((xs.take i++y::xs.drop i).map e)):Ap true ((xs.take i).map e++[r]) ((xs.drop i).map e) sz by_ K:=by
 subst a;have g:(xs.take i).length+1+(xs.drop i).length<=3145728:=by rw[C2,Z3];omega
 refine CU (λr a=>?_) (aX b) (λ_ r a=>by obtain⟨y,-,rfl⟩:=Y4.1 a;exact c y) (by simp only[Y3,I1,List.length_singleton];omega) (by simp only[Y3,I1,List.length_singleton];exact I5 (Nat.mul_le_mul g d) (by decide)) ?_ f
 ·rcases V3.1 a with a|a
  ·exact aX b r a
  rw[V1.1 a];exact b y
 rw[V6,X6,O6];rfl
def mz{p:α->Bool}{xs:List α}{y:α}(h:jg p xs=i):ju p xs y=xs.take i++y::xs.drop i:=by unfold ju;rw[h]
def KB(h:ac)(c:Int):ac × Int:=
 if(ax h.j 1).2.2=false then(h,-1)
 else if(newK h.G (ax h.j 1).2.1).2=false then({h with G:=(newK h.G (ax h.j 1).2.1).1},-1)
 else(mg h c,(mc h:Nat))
def DT(h:ac)(E:List Int)(c:Nat)(g:aZ h E)(J:h.G.Calls<=90000):zzB 369 false [.ptr (bF h),.val none [I (c:Nat)]] [.ptr (bF (KB h c).1),.val none [I (c:Nat)]] .one [I (KB h c).2]:=by
 have B:=g.lens;have K:=B.spans;have L:eU h<=32:=B.ents;have C:=io h;have l:=pU (eU h:Nat) h.j 1 ⟨ω,ω⟩ g.rng (by decide) (by have:=B.free;omega);unfold U0 at l;have d:=ix g (V5 1);unfold KB mg mc;generalize ax h.j 1=r at l d |-;obtain⟨o,p,ok⟩:=r;simp only at l d |-;cases ok with
 | false=>
  rw[CD rfl];refine fM 79 [(373,[2,0]),(2000010,[0,6])] [(1,267,[11,12,13,14,15,16,17,10,18,19,20,0,1,2,3,4,5,6,7,8,9,10,11,1009,1010,12,1010,13])] [(0,0),(0,0)] Tryz.func369 rfl (λu q=>?_)
  repeat'(first|refine gP ?_|(conv=>whnf);first|refine CC ?_|refine CG (C) ⟨bL h,trivial⟩ ?_|refine CG (l) ⟨⟨rfl,rfl⟩,⟨rfl,ew h.j⟩,⟨rfl,rfl⟩,trivial⟩ ?_|refine CC ?_)
  refine CH rfl rfl ?_;exact wC
 | true=>
  rw[CB (by simp)];obtain⟨M,N,O,V⟩:=d rfl;have F:0<=p/\p<h.G.F.Q.J.length:=⟨M,by have:p+1<=((tbl h).J.length:Nat):=N;unfold tbl at this;omega⟩
  have t:=FZ h p g.ker ω F (O p.toNat ω ω);generalize newK h.G p=w at t |-;obtain⟨k,b⟩:=w;simp only at t |-;cases b with
  | false=>
   rw[CD rfl];refine fM 79 [(373,[2,0]),(2000010,[0,6])] [(1,267,[11,12,13,14,15,16,17,10,18,19,20,0,1,2,3,4,5,6,7,8,9,10,11,1009,1010,12,1010,13])] [(0,0),(0,0)] Tryz.func369 rfl (λu q=>?_)
   repeat'(first|refine gP ?_|(conv=>whnf);first|refine CC ?_|refine CG (C) ⟨bL h,trivial⟩ ?_|refine CG (l) ⟨⟨rfl,rfl⟩,⟨rfl,ew h.j⟩,⟨rfl,rfl⟩,trivial⟩ ?_|refine CL (t) (.inl rfl) ?_|refine CC ?_)
   refine CH rfl rfl ?_;exact wC
  | true=>
   rw[CB (by simp)];refine fM 79 [(373,[2,0]),(2000010,[0,6])] [(1,267,[11,12,13,14,15,16,17,10,18,19,20,0,1,2,3,4,5,6,7,8,9,10,11,1009,1010,12,1010,13])] [(0,0),(0,0)] Tryz.func369 rfl (λu q=>?_)
   repeat'(first|refine gP ?_|(conv=>whnf);first|refine CC ?_|refine CG (C) ⟨bL h,trivial⟩ ?_|refine CG (l) ⟨⟨rfl,rfl⟩,⟨rfl,ew h.j⟩,⟨rfl,rfl⟩,trivial⟩ ?_|refine CL (t) (.inl rfl) ?_|refine CC ?_)
   (conv=>whnf)
   refine CJ (ι:=Nat) (λi=>[(0,.H .box (bF {h with G:=k,j:=o})),(1,.H .one [I ((c:Nat):Int)]),(6,.H .one [I (p)]),(8,.H .one [I ((i:Nat):Int)])]) (λi=>i<=h.K.length/\∀(j:Nat)(z:aA),j<i->h.K[j]? = some z->D8 p z=false) (λi=>h.K.length - i) (0) ?_ (⟨X0 _,λj z W=>ω⟩) λi g=>?_
   ·exact wC
   obtain⟨P,G⟩:=g;have Q:({h with G:=k,j:=o} : ac).K.length=h.K.length:=rfl;by_cases R:i<h.K.length/\(nth h.K i).R<p
   ·have n:=au R.1
    repeat'(first|refine gE ?_|(conv=>whnf);first|with_reducible refine CE (aa n) ?_|refine CC ?_|refine CK rfl (aa n) rfl ?_)
    ((conv=>whnf);refine CF (i+1) ⟨ω,eg n (W0 ω) G⟩ ω ?_;(exact wC))
   have a:jg (D8 p) h.K=i:=m7 ω G λz H=>by
    have S:=(Z2.1 H).1;have:z=nth h.K i:=(bn H).symm;subst this;exact O0 ω
   have n:i<h.K.length->h.K[i]? = some (nth h.K i):=λT=>au T
   rw[show addS h k o p (c:Nat) = {h with G:=k,j:=o,K:=h.K.take i++⟨p,(c:Nat),0⟩::h.K.drop i} by unfold addS;rw[mz a],a]
   repeat'(first|refine gE ?_|(conv=>whnf);first|with_reducible (first|refine CE (aa (n ω)) ?_|refine Bf.D (λU=>?_) (λU=>?_))|refine CC ?_|refine CK rfl (aa (n ω)) rfl ?_|refine Hq.mk rfl (FW h.K) rfl ?_|refine CZ i rfl (by rw[I1];omega) (aX λ_=>rfl) W4 ?_|refine Sl.suf i rfl (by rw[I1];omega) (aX λ_=>rfl) X4 ?_|refine CS (λ_=>rfl) (λ_=>rfl) (by rw[C2];omega) (by decide) ?_|refine Ap.sn (aX λ_=>rfl) rfl (by rw[I1,C2];omega) (by decide) rfl ?_|refine Ap.ins (e:=aA.enc .V) (y:=⟨p,(c:Nat),0⟩) rfl (λ_=>rfl) (λ_=>rfl) ω (by decide) ?_)
   all_goals
    refine CH rfl rfl ?_;exact wC
def vS(a:i<h.K.length)(b:nU h c i=true)(d:∀j,j<i->nU h c j=false):og h c=some i:=
 List.find?_range_eq_some.2 ⟨b,List.mem_range.2 a,λj e=>by rw[d j e];rfl⟩
def vP(a:∀j,j<h.K.length->nU h c j=false):og h c=none:=
 List.find?_range_eq_none.2 λj b=>by rw[a j b];rfl
def lr(a:nU h c i=false)(b:∀j,j<i->nU h c j=false):∀j,j<i+1->nU h c j=false:=λj d=>by
 by_cases e:j=i
 ·rw[e];exact a
 exact b j ω
def Mr(h:ac)(t:Nat)(c:aE):bF {h with S:=h.S.set t c} = (bF h).set 9 (.s .own ((h.S.map (aE.enc .own)).set t (aE.enc .own c))):=by
 simp[bF,Z6]
def FY{c:Nat}(b:aZ h [])(l:c<=3)(e:h.G.Calls<=90000)(h1:¬(ax h.j 1).2.2=false)(f:¬(newK h.G (ax h.j 1).2.1).2=false):aZ (mg h c) []/\mc h<(mg h c).K.length:=by
 have a:(ax h.j 1).2.2=true:=by simpa using h1
 obtain⟨g,i,j,n⟩:=ix b (V5 1) a;have s:=wm.of (p:=(ax h.j 1).2.1) b.ker ω ⟨g,by have:(ax h.j 1).2.1+1<=(h.G.F.Q.J.length:Nat):=i;omega⟩ (j _ ω ω);have d:(newK h.G (ax h.j 1).2.1).2=true:=by simpa using f
 have k:wm h.G (ax h.j 1).2.1 ((newK h.G (ax h.j 1).2.1).1,true):=by rw[<-d];exact s
 exact⟨b.addS (c:=c) ⟨ω,ω⟩ a k,(Db (D8 (ax h.j 1).2.1) h.K ⟨(ax h.j 1).2.1,c,0⟩).1⟩
def Aq(h:ac)(t c:Nat)(o:aZ h [])(M:t<h.S.length)(N:c<=3)(p:h.G.Calls<=90000):zzB 221 false [.ptr (bF h),.val none [I (t:Nat)],.val none [I (c:Nat)]] [.ptr (bF (smallA h t c).1),.val none [I (t:Nat)],.val none [I (c:Nat)]] .one [I (smallA h t c).2]:=by
 have E:=o.cach _ (ar M);have e:=au M;have r:=yD (nth h.S t) c E N;have Q:=o.lens.spans;have B:=o;unfold UD at r;by_cases F:0<(nth (nth h.S t).a c).length
 ·unfold smallA
  rw[CD F]at r |-;simp only;rw[Mr];refine fM 80 [(368,[2,0]),(369,[2,0])] [(3,6,[27,28,29,30,31,32])] [(0,0),(0,0),(0,0)] Tryz.func221 rfl (λu q=>?_)
  repeat'(first|refine gP ?_|(conv=>whnf);first|with_reducible refine CE (aa e) ?_|refine CK rfl (aa e) rfl ?_|refine CG (r) ⟨⟨rfl,Cg _⟩,⟨rfl,rfl⟩,trivial⟩ ?_|refine CC ?_|refine CQ rfl rfl (aa e) rfl (O1 rfl) rfl ?_)
  refine CH rfl rfl ?_;exact wC
 rw[CB F]at r;have d:smallA h t c=match og h c with
  | some i=>(slotT h i,pB h i)
  | none=>if(ax h.j 1).2.2=false then(h,-1)
   else if(newK h.G (ax h.j 1).2.1).2=false then({h with G:=(newK h.G (ax h.j 1).2.1).1},-1)
   else iN (mg h c) (mc h):=by unfold smallA;exact CB F
 refine fM 80 [(368,[2,0]),(369,[2,0])] [(3,6,[27,28,29,30,31,32])] [(0,0),(0,0),(0,0)] Tryz.func221 rfl (λu q=>?_)
 repeat'(first|refine gP ?_|(conv=>whnf);first|with_reducible refine CE (aa e) ?_|refine CK rfl (aa e) rfl ?_|refine CG (r) ⟨⟨rfl,Cg _⟩,⟨rfl,rfl⟩,trivial⟩ ?_|refine CC ?_)
 (conv=>whnf)
 refine CJ (ι:=Nat) (λi=>[(0,.H .box (bF h)),(1,.H .one [I ((t:Nat):Int)]),(2,.H .one [I ((c:Nat):Int)]),(10,.H .one [I ((i:Nat):Int)])]) (λi=>i<=h.K.length/\∀j,j<i->nU h c j=false) (λi=>h.K.length - i) (0) ?_ (⟨X0 _,λj W=>ω⟩) λi o=>?_
 ·exact wC
 obtain⟨R,w⟩:=o;by_cases C:i<h.K.length
 ·have l:=au C
  by_cases O:(nth h.K i).d=c
  ·have y:=wd h (nth h.K i).R
   cases D:fH h (nth h.K i).R with
   | true=>
    rw[D]at y
    repeat'(first|refine gB ?_|(conv=>whnf);first|with_reducible refine CE (aa l) ?_|refine CK rfl (aa l) rfl ?_|refine CG (y) ⟨bL h,⟨rfl,rfl⟩,trivial⟩ ?_)
    ((conv=>whnf);refine CF (i+1) ⟨ω,lr (by unfold nU;rw[D];simp) w⟩ ω ?_;(exact wC))
   | false=>
    rw[D]at y;have n:=ui h [] i B C;unfold iN at n;by_cases P:(gL h i).length=0
    ·rw[CD P]at n
     repeat'(first|refine gB ?_|(conv=>whnf);first|with_reducible refine CE (aa l) ?_|refine CK rfl (aa l) rfl ?_|refine CG (y) ⟨bL h,⟨rfl,rfl⟩,trivial⟩ ?_|refine CL (n) (.inl rfl) ?_)
     ((conv=>whnf);refine CF (i+1) ⟨ω,lr (by unfold nU;rw[W0 (by omega:¬0<(gL h i).length)];simp) w⟩ ω ?_;(exact wC))
    rw[CB P]at n;have G:og h c=some i:=vS C (by unfold nU;rw[O0 O,D,O0 ω];rfl) w;rw[G]at d;simp only at d;obtain⟨S,T⟩:=B.slotT C (by omega:0<(gL h i).length);have H:=j9.nn S T;rw[d];generalize slotT h i=g at n |-;generalize pB h i=a at n H |-
    repeat'(first|refine gB ?_|(conv=>whnf);first|with_reducible refine CE (aa l) ?_|refine CK rfl (aa l) rfl ?_|refine CG (y) ⟨bL h,⟨rfl,rfl⟩,trivial⟩ ?_|refine CL (n) (.inl rfl) ?_)
    refine CH rfl rfl ?_;exact wC
  repeat'(first|refine gB ?_|(conv=>whnf);first|with_reducible refine CE (aa l) ?_|refine CK rfl (aa l) rfl ?_)
  ((conv=>whnf);refine CF (i+1) ⟨ω,lr (by unfold nU;rw[W0 O];rfl) w⟩ ω ?_;(exact wC))
 obtain rfl:i=h.K.length:=ω
 have G:og h c=none:=vP w;rw[G]at d;simp only at d;have k:=DT h [] c B p;rw[d];unfold KB at k;by_cases J:(ax h.j 1).2.2=false
 ·rw[CD J]at k |-
  repeat'(first|refine gE ?_|(conv=>whnf);first|refine CL (k) (.inl rfl) ?_)
  refine CH rfl rfl ?_;exact wC
 rw[CB J]at k |-;by_cases K:(newK h.G (ax h.j 1).2.1).2=false
 ·rw[CD K]at k |-
  repeat'(first|refine gE ?_|(conv=>whnf);first|refine CL (k) (.inl rfl) ?_)
  refine CH rfl rfl ?_;exact wC
 rw[CB K]at k |-;obtain⟨U,V⟩:=FY B N p J K;have L:=ui (mg h c) [] (mc h) U V;generalize mg h c=g at k L |-;generalize mc h=b at k L |-
 repeat'(first|refine gE ?_|(conv=>whnf);first|refine CL (k) (.inl rfl) ?_|refine CL (L) (.inl rfl) ?_)
 refine CH rfl rfl ?_;exact wC
def AC(h:ac)(size:Int):ac × Int:=
 if(ax h.j (gk size:Nat)).2.2=false then(h,-1)
 else if(dE h size).2=gk size then({h with G:=(dE h size).1,j:=(ax h.j (gk size:Nat)).1,M:=ju (Q6 (ax h.j (gk size:Nat)).2.1) h.M ⟨(ax h.j (gk size:Nat)).2.1,(gk size:Nat),size⟩},16*(ax h.j (gk size:Nat)).2.1)
 else({h with G:=unmN (dE h size).1 (ax h.j (gk size:Nat)).2.1 (dE h size).2},-1)
def wY(k:ah)(p:Int)(i:Nat):newsK k p (i+1)=if(newsK k p i).2=i then((newK (newsK k p i).1 (p+(i:Nat))).1,if(newK (newsK k p i).1 (p+(i:Nat))).2=true then i+1 else i) else newsK k p i:=rfl
def GA(k:ah)(p:Int):∀i,(newsK k p i).2<=i
 | 0=>W3 _
 | i+1=>by
  have b:=GA k p i;rw[wY];by_cases e:(newsK k p i).2=i
  ·rw[CD e]
   show(if _ then i+1 else i)<=i+1;by_cases a:(newK (newsK k p i).1 (p+(i:Nat))).2=true
   ·rw[CD a];exact W3 _
   rw[CB a];exact Nat.le_succ _
  rw[CB e];omega
def jK{k:ah}{p:Int}{i:Nat}(h:(newsK k p i).2≠i):∀j,newsK k p (i+j)=newsK k p i/\(newsK k p (i+j)).2<i+j
 | 0=>⟨rfl,by show(newsK k p i).2<i;have:=GA k p i;omega⟩
 | j+1=>by
  have a:=jK h j;have e:newsK k p (i+(j+1))=newsK k p (i+j):=by
   show newsK k p (i+j+1)=_;rw[wY,CB ω]
  exact⟨e.trans a.1,by rw[e];omega⟩
def A2(h:ac)(size:Int)(l:aZ h [])(C:9<=size/\size<=1000)(V:h.G.Calls<=90000):zzB 222 false [.ptr (bF h),.val none [I size]] [.ptr (bF (AC h size).1),.val none [I size]] .one [I (AC h size).2]:=by
 have E:=l.lens;have W:=E.larges;have Q:=l;have F:eU h<=32:=E.ents;have G:fk size=((gk size:Nat):Int):=by unfold fk gk;split<;>omega
 have hN:1<=gk size/\gk size<=63:=by unfold gk;omega
 have H:=mK size;rw[G]at H;have R:=io h;have t:=pU (eU h:Nat) h.j (gk size:Nat) ⟨ω,ω⟩ l.rng ⟨ω,ω⟩ (by have:=E.free;omega);unfold U0 at t;have b:=ix l (show(1:Int)<=(gk size:Nat) by omega);unfold AC dE;generalize gk size=N at *;generalize ax h.j (N:Nat)=r at t b |-;obtain⟨J,p,ok⟩:=r;simp only at t b |-;refine fM 105 [(373,[2,0]),(374,[2,0]),(2000018,[0,7])] [(2,268,[16,17,18,19,20,21,22,23,15,24,25,26,0,1,2,3,4,5,6,7,8,9,10,11,12,1010,1011,13,1011,14])] [(0,0),(0,0)] Tryz.func222 rfl (λu q=>?_);cases ok with
 | false=>
  rw[CD rfl]
  repeat'(first|refine gP ?_|(conv=>whnf);first|refine CC ?_|refine C9 (H) ?_|refine CG (R) ⟨bL h,trivial⟩ ?_|refine CG (t) ⟨⟨rfl,rfl⟩,⟨rfl,ew h.j⟩,⟨rfl,rfl⟩,trivial⟩ ?_|refine CC ?_)
  refine CH rfl rfl ?_;exact wC
 | true=>
  rw[CB (by simp)];obtain⟨S,K,B,u4⟩:=b rfl;change p+(N:Nat)<=(h.G.F.Q.J.length:Nat) at K;change ∀q:Nat,p<=q->(q:Int)<p+(N:Nat)->(nth h.G.F.Q.J q).e=0 at B
  have X:h.G.F.Q.J.length<=32:=F
  repeat'(first|refine gP ?_|(conv=>whnf);first|refine CC ?_|refine C9 (H) ?_|refine CG (R) ⟨bL h,trivial⟩ ?_|refine CG (t) ⟨⟨rfl,rfl⟩,⟨rfl,ew h.j⟩,⟨rfl,rfl⟩,trivial⟩ ?_|refine CC ?_)
  (conv=>whnf)
  refine CJ (ι:=Nat) (λi=>[(0,.H .box (bF {h with G:=(newsK h.G p i).1})),(1,.H .one [I (size)]),(5,.H .one [I ((N:Nat):Int)]),(6,.H .one (bw .own J)),(7,.H .one [I (p)]),(9,.H .one [I ((i:Nat):Int)])]) (λi=>i<=N/\(newsK h.G p i).2=i) (λi=>N - i) (0) ?_ (⟨X0 _,rfl⟩) λi l=>?_
  ·exact wC
  obtain⟨L,M⟩:=l;have s:=jz.of (p:=p) (n:=N) Q.ker ω ⟨S,K⟩ B i L;have Y:=s.calls;have Z:=s.len;by_cases li:i<N
  ·have O:(nth (newsK h.G p i).1.F.Q.J (p+(i:Nat)).toNat).e=0:=by
    rw[s.out _ (by rw[M];omega)];exact B _ ω ω
   have c:=FZ {h with G:=(newsK h.G p i).1} (p+(i:Nat)) s.ker (by show(newsK h.G p i).1.Calls≠100000;omega) ⟨ω,by show p+(i:Nat)<((newsK h.G p i).1.F.Q.J.length:Nat);omega⟩ O;have a:newsK h.G p (i+1)=((newK (newsK h.G p i).1 (p+(i:Nat))).1,if(newK (newsK h.G p i).1 (p+(i:Nat))).2=true then i+1 else i):=by
    show(if(newsK h.G p i).2=i then _ else _)=_;rw[CD M]
   simp only at c;cases e:(newK (newsK h.G p i).1 (p+(i:Nat))).2 with
   | true=>
    rw[e]at c a;rw[CD rfl]at a;have P:(newK (newsK h.G p i).1 (p+(i:Nat))).1=(newsK h.G p (i+1)).1:=by rw[a]
    rw[P]at c
    repeat'(first|refine gE ?_|(conv=>whnf);first|refine CC ?_|refine CL (c) (.inl rfl) ?_)
    ((conv=>whnf);refine CF (i+1) ⟨ω,by rw[a]⟩ ω ?_;(exact wC))
   | false=>
    rw[e]at c a;rw[CB (by simp)]at a;have d:=jK (k:=h.G) (p:=p) (i:=i+1) (by rw[a];simp only;omega) (N - (i+1));rw[show i+1+(N - (i+1))=N by omega]at d;rw[d.1]at d;have T:=jz.of (p:=p) (n:=N) Q.ker ω ⟨S,K⟩ B (i+1) ω;rw[CB (by have:=jK (k:=h.G) (p:=p) (i:=i+1) (by rw[a];simp only;omega) (N - (i+1));rw[show i+1+(N - (i+1))=N by omega]at this;omega)];rw[show newsK h.G p N=newsK h.G p (i+1) by have:=jK (k:=h.G) (p:=p) (i:=i+1) (by rw[a];simp only;omega) (N - (i+1));rw[show i+1+(N - (i+1))=N by omega]at this;exact this.1];rw[a]at T |-;have g:=T.ker;simp only at g |-;generalize (newK (newsK h.G p i).1 (p+(i:Nat))).1=k at c g |-
    repeat'(first|refine gE ?_|(conv=>whnf);first|refine CC ?_|refine CL (c) (.inl rfl) ?_)
    (conv=>whnf)
    refine CJ (ι:=Nat) (λj=>[(0,.H .box (bF {h with G:=unmN k p j})),(1,.H .one [I (size)]),(5,.H .one [I ((N:Nat):Int)]),(7,.H .one [I (p)]),(9,.H .one [I ((i:Nat):Int)]),(10,.H .one [I ((j:Nat):Int)])]) (λj=>j<=i) (λj=>i - j) (0) ?_ (X0 _) λj hj=>?_
    ·exact wC
    have c4:=nH {h with G:=unmN k p j} (p+(j:Nat)) (gZ g p j);by_cases lj:j<i
    ·repeat'(first|refine gE ?_|(conv=>whnf);first|refine CC ?_|refine CL (c4) (.inl rfl) ?_)
     ((conv=>whnf);refine CF (j+1) ω ω ?_;(exact wC))
    obtain rfl:j=i:=ω
    repeat'(first|refine gE ?_|(conv=>whnf);first|refine CC ?_)
    refine CH rfl rfl ?_;exact wC
  obtain rfl:i=N:=ω
  rw[CD M];generalize (newsK h.G p i).1=k
  repeat'(first|refine gE ?_|(conv=>whnf);first|refine CC ?_)
  (conv=>whnf)
  refine CJ (ι:=Nat) (λm=>[(0,.H .box (bF {h with G:=k,j:=J})),(1,.H .one [I (size)]),(5,.H .one [I ((i:Nat):Int)]),(7,.H .one [I (p)]),(11,.H .one [I ((m:Nat):Int)])]) (λm=>m<=h.M.length/\∀(j:Nat)(z:aF),j<m->h.M[j]? = some z->Q6 p z=false) (λm=>h.M.length - m) (0) ?_ (⟨X0 _,λj z hj=>ω⟩) λm hm=>?_
  ·exact wC
  obtain⟨hm',U⟩:=hm;have hl2:({h with G:=k,j:=J} : ac).M.length=h.M.length:=rfl;by_cases go:m<h.M.length/\(nth h.M m).R<p
  ·have o:=au go.1
   repeat'(first|refine gE ?_|(conv=>whnf);first|with_reducible refine CE (aa o) ?_|refine CC ?_|refine CK rfl (aa o) rfl ?_)
   ((conv=>whnf);refine CF (m+1) ⟨ω,eg o (W0 ω) U⟩ ω ?_;(exact wC))
  have w:jg (Q6 p) h.M=m:=m7 ω U λz C=>by
   have hlt:=(Z2.1 C).1;have:z=nth h.M m:=(bn C).symm;subst this;exact O0 ω
  have o:m<h.M.length->h.M[m]? = some (nth h.M m):=λhh=>au hh
  rw[mz w]
  repeat'(first|refine gE ?_|(conv=>whnf);first|with_reducible (first|refine CE (aa (o ω)) ?_|refine Bf.D (λhq=>?_) (λhq=>?_))|refine CC ?_|refine CK rfl (aa (o ω)) rfl ?_|refine Hq.mk rfl (B0 h.M) rfl ?_|refine CZ m rfl (by rw[I1];omega) (aX λ_=>rfl) W4 ?_|refine Sl.suf m rfl (by rw[I1];omega) (aX λ_=>rfl) X4 ?_|refine CS (λ_=>rfl) (λ_=>rfl) (by rw[C2];omega) (by decide) ?_|refine Ap.sn (aX λ_=>rfl) rfl (by rw[I1,C2];omega) (by decide) rfl ?_|refine Ap.ins (e:=aF.enc .V) (y:=⟨p,(i:Nat),size⟩) rfl (λ_=>rfl) (λ_=>rfl) ω (by decide) ?_)
  all_goals
   refine CH rfl ?_ ?_
   ·exact Z0 (λz=>[I z]) ω
   exact wC
def F4(h:aC k=true)(b:iA k.w):ah.wf k:=by
 obtain⟨p,f,g,q,t⟩:=aG.1 h;obtain⟨u,w,y,A⟩:=bf.1 f;obtain⟨i,B,C⟩:=br.1 g;refine⟨⟨⟨⟨ω,λr b=>?_⟩,⟨ω,λ_ _=>trivial⟩⟩,⟨ω,λe l=>?_⟩⟩,⟨ω,ω⟩,b⟩
 ·obtain⟨j,c,rfl⟩:=aQ b
  obtain⟨D,n⟩:=uH h c;exact⟨ω,λv o=>by have:=n v o;exact⟨ω,ω⟩⟩
 obtain⟨j,c,rfl⟩:=aQ l;have a:=i j c;unfold lS at a;rw[C0]at a;by_cases d:(nth k.F.Q.J j).e=0
 ·have:=a.2.2.1 d;exact⟨⟨ω,ω⟩,⟨ω,ω⟩⟩
 have:=a.2.2.2 d;exact⟨⟨ω,ω⟩,⟨ω,ω⟩⟩
def JO{p:cE}(h:fm p=true):cE.wf p:=by
 have a:=λi b=>gt h (i:=i) b
 have e:p.T.length<=16:=na h;unfold fm at h;simp only[I0,C0]at h;exact⟨⟨ω,ω⟩,⟨ω,ω⟩,⟨ω,λv c=>by
   obtain⟨j,d,rfl⟩:=aQ c;have:=a j d;exact⟨ω,ω⟩⟩⟩
def aZ.jobWf(a:aZ h E):cK.wf h.Z/\cK.sml h.Z:=by
 cases b:h.u with
 | true=>
  obtain⟨c,f,g,i,j⟩:=dz.1 (a.job b).1;have k:=na c;exact⟨⟨JO c,⟨ω,ω⟩,⟨ω,ω⟩⟩,by show h.Z.X.T.length<=1048576;omega⟩
 | false=>
  have:=a.noj b;unfold tl at this;rw[C0]at this;obtain⟨l,n,e,o,p⟩:=this;refine⟨⟨⟨⟨ω,ω⟩,⟨ω,ω⟩,⟨ω,λv d=>?_⟩⟩,⟨ω,ω⟩,⟨ω,ω⟩⟩,by show h.Z.X.T.length<=1048576;omega⟩;rw[I8 e]at d;cases d
def wZ{n:Int}(h:0<=aN n):1<=n/\n<=8:=by
 unfold aN at h
 repeat' split at h
 all_goals omega
def j9.wf(b:aZ h E)(d:j9 h.K a c):nE a:=by
 have:=d.bd b;exact⟨ω,ω⟩
def aZ.wf(d:aZ h E)(M:iA h.G.w):ac.wf h:=by
 have q:=d.lens;have r:=d.L;have D:=d.nums;unfold cq at D;rw[C0]at D;obtain⟨X,N,Y⟩:=gd.1 d.rng;obtain⟨O,-,-,Z,q5,-⟩:=jW.1 d.quar;have w:=d.mail;have k:=d.hfl;unfold aR at k;rw[CD w]at k;unfold bQ at w;simp only[I0,C0,cC,hB,O4,nJ,RQ]at w;obtain⟨⟨⟨m1,m2,m3⟩,P⟩,m5⟩:=w;have A:=q.free;have Q:=q.spans;have h3:=q.larges;have h4:=q.objs;have h5:=q.caches;have h6:=q.quar;have t:∀n:Nat,bD h.y n<=bD h.y (n+1):=λn=>by simp only[bD];omega
 have g:∀a b:Nat,a<=b->bD h.y a<=bD h.y b:=λa b u=>by
  induction u with
  | refl=>exact V5 _
  | step _ R=>exact O5 R (t _)
 have B:∀n:Nat,0<=bD h.y n:=λn=>g 0 n (X0 _)
 have o:∀i,i<h.y.U.length->(nth h.y.U i).length<=30/\(nth h.y.a0 i).length<=30:=λi f=>by
  have F:=g (i+1) h.y.U.length ω;have S:=B i;simp only[bD]at F;omega
 refine⟨F4 d.ker M,⟨ω,λx e=>?_⟩,⟨ω,λx e=>?_⟩,⟨ω,λx e=>?_⟩,⟨ω,λx e=>?_⟩,⟨ω,λx e=>?_⟩,⟨⟨ω,λl c=>?_⟩,⟨ω,λl c=>?_⟩⟩,⟨⟨ω,ω⟩,⟨ω,λx e=>?_⟩⟩,⟨ω,ω⟩,⟨ω,ω⟩,⟨ω,ω⟩,⟨ω,ω⟩,trivial,d.jobWf.1⟩
 ·have:=N x e;exact⟨⟨ω,ω⟩,⟨ω,ω⟩⟩
 ·have y:=r.sok x e
  have G:=dP y;have T:=aI y;exact⟨⟨ω,ω⟩,⟨ω,ω⟩,⟨ω,ω⟩⟩
 ·have H:=aT (r.lok x e)
  have J:=cV (r.lok x e);exact⟨⟨ω,ω⟩,⟨ω,ω⟩,⟨ω,ω⟩⟩
 ·obtain⟨o1,o2,o3,o4⟩:=d.onu x e
  have u:0<=x.Addr/\x.Addr<512/\-1000<=x.q/\x.q<=1000:=by
   rcases d.oow x e with⟨s,y,A,Q⟩|⟨l,c,F,S⟩
   ·have T:=aI (r.sok s y)
    have:=wZ (n:=x.q) ω;exact⟨by have:=A.1;omega,by have:=A.2.1;omega,ω,ω⟩
   have H:=aT (r.lok l c);have J:=cV (r.lok l c);omega
  exact⟨⟨ω,ω⟩,⟨ω,ω⟩,⟨ω,ω⟩,⟨ω,ω⟩⟩
 ·obtain⟨c1,U⟩:=q.lists x e
  refine⟨ω,λl c=>⟨by have:=U l c;omega,λa C=>?_⟩⟩;obtain⟨j,V,rfl⟩:=aQ c;exact j9.wf d (d.hca x e j V a C)
 ·obtain⟨i,f,rfl⟩:=aQ c
  have G:=o i f;refine⟨ω,λp K=>?_⟩;have W:=(P i f).1 p K;exact⟨⟨ω,ω⟩,j9.wf d (k p.Addr (V3.2 (.inl (List.mem_flatMap.2 ⟨_,ar f,Y4.2 ⟨p,K,rfl⟩⟩))))⟩
 ·obtain⟨i,f,rfl⟩:=aQ c
  have G:=o i ω;exact⟨ω,λa C=>j9.wf d (k a (V3.2 (.inr (List.mem_flatten.2 ⟨_,ar f,C⟩))))⟩
 have H:=O x e;have J:=d.snc x e;exact⟨j9.wf d (d.hqu x e),⟨ω,ω⟩,⟨ω,ω⟩⟩
structure Vk(h:ac):Prop where
 ker:aC h.G=true
 wf:ac.wf h
 sml:ac.sml h
 lens:sB h
def aZ.fit(a:aZ h E)(b:iA h.G.w)(c:aP.sml h.y):Vk h:=⟨a.ker,a.wf b,a.lens.sml a.ker c a.jobWf.2,a.lens⟩
def yn(b:aZ h [])(c:h.u=true):aC (mStep h).G=true/\(mStep h).G.Calls<=h.G.Calls+1/\(mStep h).G.w=h.G.w/\(mStep h).y=h.y/\(GF h=true->(mStep h).u=false)/\cK.wf (mStep h).Z/\cK.sml (mStep h).Z:=by
 have s:=JS.of b c;refine⟨s.ker,s.calls.2.1,s.calls.2.2,rfl,λa=>?_,?_⟩
 ·unfold GF at a
  rw[C0]at a;show(if over _=true then false else h.u)=false;rw[CD (show over (hO h.G h.Z).2=true from O0 (.inl a))]
 show cK.wf (if over _=true then _ else _)/\cK.sml (if over _=true then _ else _);split
 ·exact⟨⟨⟨⟨by decide,by decide⟩,⟨by decide,by decide⟩,⟨by decide,λv f=>by cases f⟩⟩,⟨by decide,by decide⟩,⟨by decide,by decide⟩⟩,by show(0:Nat)<=1048576;omega⟩
 have d:=(dz.1 (b.job c).1).1;have g:=na d;obtain⟨j,k⟩:=s.ph;obtain⟨l,i⟩:=s.nxt;have e:=s.plan;refine⟨⟨by rw[e];exact JO d,⟨ω,ω⟩,⟨ω,by rw[e]at i;omega⟩⟩,by show((hO h.G h.Z).2.X.T).length<=1048576;rw[e];omega⟩
def Ag(h:ac):Nat->ac × Bool
 | 0=>(h,false)
 | i+1=>if(Ag h i).1.u=true then(mStep (Ag h i).1,GF (Ag h i).1) else Ag h i
def fin(h:ac):ac × Bool:=Ag h 100
def vZ(hi:aZ h []):aZ (started h).1 []/\(started h).1.G=h.G/\(started h).1.y=h.y:=by
 have r:=hi.nums;unfold cq at r;rw[C0]at r;have t:=(nA (bJ h).length (show 0<=h.b3/\h.b3<=1073741823 by omega) ((bJ h).length - 1)).2;have g:=nK (bJ h) (show 0<=h.b3/\h.b3<=1073741823 by omega);have c:cq {h with b3:=(shuf (bJ h).length h.b3).2} = true:=by
  unfold cq;rw[C0];unfold shuf;simp only;omega
 cases j:mq (bJ h) h.b3 with
 | nil=>
  have f:Ab.started h=({h with b3:=(shuf (bJ h).length h.b3).2},false):=by unfold Ab.started;rw[j]
  rw[f];exact⟨{hi with nums:=c},rfl,rfl⟩
 | cons q y=>
  obtain⟨C,D,k⟩:=g q (by rw[j];exact I2 ..);have f:Ab.started h=({h with b3:=(shuf (bJ h).length h.b3).2,u:=true,Z:=u7 (dl (nth (bJ h) q.A.toNat) (nth (bJ h) q.B.toNat))},true):=by unfold Ab.started;rw[j]
  rw[f];have d:∀s∈bJ h,s∈h.K:=λs u=>nD h (W3 _) s (List.mem_of_mem_take u)
  have l:=d _ (ar (xs:=bJ h) (i:=q.A.toNat) ω);have n:=d _ (ar (xs:=bJ h) (i:=q.B.toNat) ω);generalize nth (bJ h) q.A.toNat=a at k l |-;generalize nth (bJ h) q.B.toNat=b at k n |-;obtain⟨w,E,F⟩:=uA k;have o:kj (u7 (dl a b))=true:=dz.2 ⟨w,by show(0:Int)<=0;omega,by show(0:Int)<=5;omega,by show(0:Int)<=0;omega,by show(0:Int)<=(((dl a b).T.length:Nat):Int);omega⟩;have p:(∃s∈h.K,s.R=(dl a b).a4)/\∃s∈h.K,s.R=(dl a b).a2:=by
   unfold dl;split
   ·exact⟨⟨b,n,rfl⟩,⟨a,l,rfl⟩⟩
   exact⟨⟨a,l,rfl⟩,⟨b,n,rfl⟩⟩
  exact⟨{hi with nums:=c,job:=λ_=>⟨o,p⟩,noj:=λe=>by cases e},rfl,rfl⟩
def aZ.objSz(a:aZ h E):∀o∈h.O,0<=o.q/\o.q<=1000:=λx c=>by
 rcases a.oow x c with⟨s,d,e,f⟩|⟨l,b,g,i⟩
 ·have j:=aI (a.L.sok s d)
  have:=wZ (n:=x.q) ω;omega
 have k:=cV (a.L.lok l b);omega
def Da(t:Int)(c:aZ h [])(d:9<=size/\size<=1000):largeA h t size=if(AC h size).2<0 then((AC h size).1,-1,4) else(addO (AC h size).1 (AC h size).2 size t,(AC h size).2,0):=by
 unfold largeA AC;by_cases a:(ax h.j (gk size:Nat)).2.2=false
 ·rw[CD a,CD a]
  exact(CD (show(-1:Int)<0 by decide)).symm
 rw[CB a,CB a];obtain⟨e,-⟩:=ix c (show(1:Int)<=(gk size:Nat) by unfold gk;omega) (by simpa using a);by_cases b:(dE h size).2=gk size
 ·rw[CD b,CD b]
  exact(CB (show ¬16*(ax h.j (gk size:Nat)).2.1<0 by omega)).symm
 rw[CB b,CB b];exact(CD (show(-1:Int)<0 by decide)).symm
def re(h:ac)(t size:Int)(k:aZ h []):zzB 74 false [.ptr (bF h),.val none [I t],.val none [I size]] [.ptr (bF (allocH h t size).1),.val none [I t],.val none [I size]] (.tup [none,none]) [I (allocH h t size).2.1,I (allocH h t size).2.2]:=by
 have X:=k.lens;have hlc:=X.caches;have P:=X.objs;have p:=k.nums;unfold cq at p;rw[C0]at p;have Q:=n7 k.objSz h.O.length (W3 _);change 0<=iS h/\iS h<=_ at Q;have n:=aK t 0 ((h.S.length:Int) - 1);have r:=aK size 1 1000;have E:=zc h k.objSz ω;have F:=lf size;refine fM 119 [(221,[2,0,0]),(222,[2,0])] [(7,10,[36,37,38,39,40,41,42,43,44,45]),(18,272,[81,82,83,84,85,86,87,89,90,91,92,93,94,95,96,97,0,1,2,3,4,5,6,8,9,10,11,12,13,14,15,16,1016,7,1008,1009,1010,1011,1012,1013,1014,1015,1016,17,18]),(1048594,0,[8])] [(0,0),(0,0),(0,0)] Tryz.func74 rfl (λu q=>?_) (.inr ⟨trivial,trivial,trivial⟩);unfold allocH;by_cases h1:1000000<=h.b
 ·rw[CD (.inl h1)]
  repeat'(first|refine gE ?_|(conv=>whnf);first|refine CC ?_)
  refine CH rfl rfl ?_;exact wC
 by_cases h2:90000<h.G.Calls
 ·rw[CD (.inr h2)]
  repeat'(first|refine gE ?_|(conv=>whnf);first|with_reducible refine Bf.D (λb=>?_) (λb=>?_)|refine CC ?_)
  refine CH rfl rfl ?_;exact wC
 rw[CB ω];by_cases C:¬(0<=t/\t<=h.S.length - 1)
 ·rw[CD C]
  rw[W0 C]at n
  repeat'(first|refine gE ?_|(conv=>whnf);first|with_reducible refine Bf.D (λb=>?_) (λb=>?_)|refine CC ?_|refine C9 (n) ?_)
  refine CH rfl rfl ?_;exact wC
 rw[CB C];replace C:=Decidable.not_not.1 C;rw[O0 C]at n;by_cases B:¬(1<=size/\size<=1000)
 ·rw[CD B]
  rw[W0 B]at r
  repeat'(first|refine gE ?_|(conv=>whnf);first|with_reducible refine Bf.D (λb=>?_) (λb=>?_)|refine CC ?_|refine C9 (n) ?_|refine C9 (r) ?_)
  refine CH rfl rfl ?_;exact wC
 rw[CB B];replace B:=Decidable.not_not.1 B;rw[O0 B]at r;by_cases Y:h.b1<iS h+size
 ·rw[CD Y]
  repeat'(first|refine gE ?_|(conv=>whnf);first|with_reducible refine Bf.D (λb=>?_) (λb=>?_)|refine CC ?_|refine C9 (n) ?_|refine C9 (r) ?_|refine CG (E) ⟨⟨rfl,bL h⟩,trivial⟩ ?_|refine CC ?_)
  refine CH rfl rfl ?_;exact wC
 rw[CB Y];by_cases G:0<=aN size
 ·rw[CD G]
  have hc3:aN size<=3:=by unfold aN;repeat' split<;>omega
  obtain⟨T,rfl⟩:=O3 C.1;obtain⟨K,hK⟩:=O3 G;have o:=Aq h T K k ω ω ω;have s:=ny (t:=T) (c:=K) k ω ω ω;rw[hK]at F |-;simp only[I3];generalize smallA h T K=w at o s |-;obtain⟨g,a⟩:=w;have H:g.b=h.b:=s.nx;simp only at o |-;by_cases J:a<0
  ·rw[CD J]
   repeat'(first|refine gE ?_|(conv=>whnf);first|with_reducible refine Bf.D (λb=>?_) (λb=>?_)|refine CC ?_|refine C9 (n) ?_|refine C9 (r) ?_|refine CG (E) ⟨⟨rfl,bL h⟩,trivial⟩ ?_|refine CC ?_|refine C9 (F) ?_|refine CL (o) (.inl rfl) ?_)
   refine CH rfl rfl ?_;exact wC
  rw[CB J];obtain⟨k1,k2⟩:=s.yes (show(0:Int)<=a by omega);have R:g.O.length<=512:=k1.lens.objs
  repeat'(first|refine gE ?_|(conv=>whnf);first|with_reducible refine Bf.D (λb=>?_) (λb=>?_)|refine CC ?_|refine C9 (n) ?_|refine C9 (r) ?_|refine CG (E) ⟨⟨rfl,bL h⟩,trivial⟩ ?_|refine CC ?_|refine C9 (F) ?_|refine CL (o) (.inl rfl) ?_)
  (conv=>whnf)
  refine CJ (ι:=Nat) (λi=>[(0,.H .box (bF g)),(1,.H .one [I ((T:Nat):Int)]),(2,.H .one [I (size)]),(8,.H .one [I (a)]),(9,.H .one [I ((i:Nat):Int)])]) (λi=>i<=g.O.length/\∀(j:Nat)(z:bt),j<i->g.O[j]? = some z->Li a z=false) (λi=>g.O.length - i) (0) ?_ (⟨X0 _,λj z hj=>ω⟩) λi k=>?_
  ·exact wC
  obtain⟨S,L⟩:=k;by_cases U:i<g.O.length/\(nth g.O i).Addr<a
  ·have d:=au U.1
   repeat'(first|refine gE ?_|(conv=>whnf);first|with_reducible refine CE (aa d) ?_|refine CC ?_|refine CK rfl (aa d) rfl ?_)
   ((conv=>whnf);refine CF (i+1) ⟨ω,eg d (W0 ω) L⟩ ω ?_;(exact wC))
  have l:jg (Li a) g.O=i:=m7 ω L λz M=>by
   have V:=(Z2.1 M).1;have:z=nth g.O i:=(bn M).symm;subst this;exact O0 ω
  have d:i<g.O.length->g.O[i]? = some (nth g.O i):=λW=>au W
  rw[show addO g a size (T:Nat) = {g with O:=g.O.take i++⟨g.b,a,size,(T:Nat)⟩::g.O.drop i,b:=g.b+1} by unfold addO;rw[mz l]]
  repeat'(first|refine gE ?_|(conv=>whnf);first|with_reducible (first|refine CE (aa (d ω)) ?_|refine Bf.D (λb=>?_) (λb=>?_))|refine CC ?_|refine CK rfl (aa (d ω)) rfl ?_|refine Hq.mk rfl (Ez g.O) rfl ?_|refine CZ i rfl (by rw[I1];omega) (aX λ_=>rfl) W4 ?_|refine Sl.suf i rfl (by rw[I1];omega) (aX λ_=>rfl) X4 ?_|refine CS (λ_=>rfl) (λ_=>rfl) (by rw[C2];omega) (by decide) ?_|refine Ap.sn (aX λ_=>rfl) rfl (by rw[I1,C2];omega) (by decide) rfl ?_|refine Ap.ins (e:=bt.enc .V) (y:=⟨g.b,a,size,(T:Nat)⟩) rfl (λ_=>rfl) (λ_=>rfl) ω (by decide) ?_|refine CC ?_)
  all_goals
   refine CH rfl rfl ?_;exact wC
 rw[CB G];have N:9<=size:=by unfold aN at G;repeat' split at G<;>omega
 have o:=A2 h size k ⟨N,B.2⟩ ω;rw[Da t k ⟨N,B.2⟩];have Z:(AC h size).1.b=h.b/\(AC h size).1.O=h.O:=by
  unfold AC;split
  ·exact⟨rfl,rfl⟩
  split<;>exact⟨rfl,rfl⟩
 generalize AC h size=w at o Z |-;obtain⟨g,a⟩:=w;obtain⟨H,O⟩:=Z;simp only at o H O |-;have R:g.O.length<=512:=by rw[O];exact P
 by_cases J:a<0
 ·rw[CD J]
  repeat'(first|refine gE ?_|(conv=>whnf);first|with_reducible refine Bf.D (λb=>?_) (λb=>?_)|refine CC ?_|refine C9 (n) ?_|refine C9 (r) ?_|refine CG (E) ⟨⟨rfl,bL h⟩,trivial⟩ ?_|refine CC ?_|refine C9 (F) ?_|refine CL (o) (.inl rfl) ?_)
  refine CH rfl rfl ?_;exact wC
 rw[CB J]
 repeat'(first|refine gE ?_|(conv=>whnf);first|with_reducible refine Bf.D (λb=>?_) (λb=>?_)|refine CC ?_|refine C9 (n) ?_|refine C9 (r) ?_|refine CG (E) ⟨⟨rfl,bL h⟩,trivial⟩ ?_|refine CC ?_|refine C9 (F) ?_|refine CL (o) (.inl rfl) ?_)
 (conv=>whnf)
 refine CJ (ι:=Nat) (λi=>[(0,.H .box (bF g)),(1,.H .one [I (t)]),(2,.H .one [I (size)]),(8,.H .one [I (a)]),(9,.H .one [I ((i:Nat):Int)])]) (λi=>i<=g.O.length/\∀(j:Nat)(z:bt),j<i->g.O[j]? = some z->Li a z=false) (λi=>g.O.length - i) (0) ?_ (⟨X0 _,λj z hj=>ω⟩) λi k=>?_
 ·exact wC
 obtain⟨S,L⟩:=k;by_cases U:i<g.O.length/\(nth g.O i).Addr<a
 ·have d:=au U.1
  repeat'(first|refine gE ?_|(conv=>whnf);first|with_reducible refine CE (aa d) ?_|refine CC ?_|refine CK rfl (aa d) rfl ?_)
  ((conv=>whnf);refine CF (i+1) ⟨ω,eg d (W0 ω) L⟩ ω ?_;(exact wC))
 have l:jg (Li a) g.O=i:=m7 ω L λz M=>by
  have V:=(Z2.1 M).1;have:z=nth g.O i:=(bn M).symm;subst this;exact O0 ω
 have d:i<g.O.length->g.O[i]? = some (nth g.O i):=λW=>au W
 rw[show addO g a size t = {g with O:=g.O.take i++⟨g.b,a,size,t⟩::g.O.drop i,b:=g.b+1} by unfold addO;rw[mz l]]
 repeat'(first|refine gE ?_|(conv=>whnf);first|with_reducible (first|refine CE (aa (d ω)) ?_|refine Bf.D (λb=>?_) (λb=>?_))|refine CC ?_|refine CK rfl (aa (d ω)) rfl ?_|refine Hq.mk rfl (Ez g.O) rfl ?_|refine CZ i rfl (by rw[I1];omega) (aX λ_=>rfl) W4 ?_|refine Sl.suf i rfl (by rw[I1];omega) (aX λ_=>rfl) X4 ?_|refine CS (λ_=>rfl) (λ_=>rfl) (by rw[C2];omega) (by decide) ?_|refine Ap.sn (aX λ_=>rfl) rfl (by rw[I1,C2];omega) (by decide) rfl ?_|refine Ap.ins (e:=bt.enc .V) (y:=⟨g.b,a,size,t⟩) rfl (λ_=>rfl) (λ_=>rfl) ω (by decide) ?_|refine CC ?_)
 all_goals
  refine CH rfl rfl ?_;exact wC
def Jz(h:ac)(a n:Int)(t:h.M.length<=4096)(j:∀l∈h.M,bR l=true)(o:A5 h a<0):zzB 420 false [.ptr (bF h),.val none [I a],.val none [I n]] [.ptr (bF h),.val none [I a],.val none [I n]] .one [B false]:=by
 have b:∀l∈h.M,l.R*16≠a:=λl c e=>by
  have:=Gr (p:=KH a) c (O0 e);unfold A5 at o;omega
 refine fM 136 [(374,[2,0])] [(8,6,[49,50,51,52,53,54]),(9,10,[56,57,58,59,60,61,62,63,64,65]),(20,270,[123,124,125,126,127,128,129,130,131,122,132,133,134,135,0,1,2,3,4,5,6,7,8,9,10,11,12,13,14,1011])] [(0,0),(0,0),(0,0)] Tryz.func420 rfl (λu q=>?_)
 repeat'(first|refine gP ?_|(conv=>whnf);first|refine CC ?_)
 (conv=>whnf)
 refine CJ (ι:=Nat) (λk=>[(0,.H .box (bF h)),(1,.H .one [I (a)]),(2,.H .one [I (n)]),(7,.H .one [I ((k:Nat):Int)])]) (λk=>k<=h.M.length) (λk=>h.M.length - k) (0) ?_ (X0 _) λk w=>?_
 ·repeat'(first|exact trivial|rfl |exact pM r|exact pM g|exact eK _|refine CM ?_ ?_|(exact EO (by first|omega|(simp only;omega)|(simp;omega))))
 by_cases d:k<h.M.length
 ·have i:=au d
  have y:=b _ (ar d);have C:=aT (j _ (ar d))
  repeat'(first|refine gB ?_|(conv=>whnf);first|with_reducible refine CE (aa i) ?_|refine CC ?_|refine CK rfl (aa i) rfl ?_)
  ((conv=>whnf);refine CF (k+1) ω ω ?_;(exact wC))
 repeat'(first|refine gE ?_|(conv=>whnf);first|refine CC ?_)
 refine CH rfl rfl ?_;exact wC
def Tr(h:ac)(a:Int)(m:Nat):bF {h with G:=zK h.G a (m+1)} = (bF {h with G:=zK h.G a m}).set 0 (.s .own (((zK h.G a m).F.W.T.map (aH .own)).set (af (zK h.G a m).F.Q ((a+m) / 16)).o.toNat ((aH .own (nth (zK h.G a m).F.W.T (cW (zK h.G a m) (a+m)))).set 0 (.s .own (((nth (zK h.G a m).F.W.T (cW (zK h.G a m) (a+m))).map (rI .own)).set ((a+m) % 16).toNat (splice (rI .own (nth (nth (zK h.G a m).F.W.T (cW (zK h.G a m) (a+m))) ((a+m) % 16).toNat)) 0 [I 0])))))):=
 KD {h with G:=zK h.G a m} (a+m) 0
def m9(h:ac)(i k:Nat)(n:Int)(K:ah):ac:={h with G:=K,M:=h.M.set k (trimL (nth h.M k) n),O:=h.O.set i {nth h.O i with q:=n}}
def Mo(h:ac)(i k:Nat)(n:Int)(K:ah):(m9 h i k n K).O.map (bt.enc .own)=(h.O.map (bt.enc .own)).set i (splice (bt.enc .own (nth h.O i)) 2 [I n]):=by
 simp[m9,Z6,bt.enc,splice]
def tU(h:ac)(i:Nat)(n:Int)(j:aZ h [])(H:i<h.O.length)(hg:0<=A5 h (nth h.O i).Addr):zzB 420 false [.ptr (bF h),.val none [I (nth h.O i).Addr],.val none [I n]] [.ptr (bF (if mA h i n then trimH h i (A5 h (nth h.O i).Addr).toNat n else h)),.val none [I (nth h.O i).Addr],.val none [I n]] .one [B (decide (mA h i n))]:=by
 have c:=j.lens;have hnl:=c.larges;have hno:=c.objs;have hpg:eU h<=32:=c.ents;obtain⟨f1,f2,f3⟩:=fN (KH (nth h.O i).Addr) h.M hg;obtain⟨g,o⟩:=O3 hg;have b:g<h.M.length:=by unfold A5 at o;omega
 have Y:(nth h.M g).R*16=(nth h.O i).Addr:=by
  have:=of_decide_eq_true f2;rw[show(cZ (KH (nth h.O i).Addr) h.M).toNat=g by unfold A5 at o;omega]at this;exact this
 have J:∀k,k<g->(nth h.M k).R*16≠(nth h.O i).Addr:=λk hk e=>by
  have N:k<h.M.length:=ω
  have hok1:=aT (j.L.lok _ (ar N));have hok2:=aT (j.L.lok _ (ar b));have:=j.L.one k g N b 0 0 ω ω ω;omega
 have p:mA h i n↔9<=n/\n<=(nth h.M g).q:=by
  unfold mA;rw[o,I3];exact⟨λx=>x.2,λx=>⟨ω,x⟩⟩
 rw[o,I3];have hbd:=uT j (ar H);obtain⟨-,Z,w⟩:=j.objAt (ar H);have hii:rd h (nth h.O i).Addr=i:=by
  have h2:=(j.objAt (ar H)).1;exact cQ (f:=(·.Addr)) (di j.osr) h2 H (by rw[Z])
 rw[hii]at w;have E:=au H;have hxg:=au b;have V:=yB (nth h.M g) n (j.L.lok _ (ar b));have h8:=j.L.lok _ (ar b);unfold bR at h8;rw[C0]at h8;refine fM 136 [(374,[2,0])] [(8,6,[49,50,51,52,53,54]),(9,10,[56,57,58,59,60,61,62,63,64,65]),(20,270,[123,124,125,126,127,128,129,130,131,122,132,133,134,135,0,1,2,3,4,5,6,7,8,9,10,11,12,13,14,1011])] [(0,0),(0,0),(0,0)] Tryz.func420 rfl (λu q=>?_)
 repeat'(first|refine gP ?_|(conv=>whnf);first|refine CC ?_)
 (conv=>whnf)
 refine CJ (ι:=Nat) (λk=>[(0,.H .box (bF h)),(1,.H .one [I ((nth h.O i).Addr)]),(2,.H .one [I (n)]),(7,.H .one [I ((k:Nat):Int)])]) (λk=>k<=g) (λk=>g - k) (0) ?_ (X0 _) λk hk=>?_
 ·repeat'(first|exact trivial|rfl |exact pM r|exact pM d|exact eK _|refine CM ?_ ?_|(exact EO (by first|omega|(simp only;omega)|(simp;omega))))
 have l:=au (xs:=h.M) (i:=k) ω;have hfk:=aT (j.L.lok _ (ar (xs:=h.M) (i:=k) ω));by_cases e:k=g;rotate_left
 ·have hne:=J k ω
  repeat'(first|refine gB ?_|(conv=>whnf);first|with_reducible refine CE (aa l) ?_|refine CC ?_|refine CK rfl (aa l) rfl ?_)
  ((conv=>whnf);refine CF (k+1) ω ω ?_;(exact wC))
 subst e;by_cases F:9<=n/\n<=(nth h.M k).q;rotate_left
 ·rw[CB (by rw[p];exact F),W0 (by rw[p];exact F)]
  rw[CB F]at V
  repeat'(first|refine gB ?_|(conv=>whnf);first|with_reducible refine CE (aa l) ?_|refine CC ?_|refine CK rfl (aa l) rfl ?_|refine C9 (V) ?_)
  refine CH rfl rfl ?_;exact wC
 rw[CD (by rw[p];exact F),O0 (by rw[p];exact F)];rw[CD F]at V;have y:=λm hm=>zm j b F (m:=m) hm
 have D:=λm=>(ox h.G (16*(nth h.M k).R+n) m).1
 have O:=λa W=>kw j b (a:=a) W
 have hsz:n<=16*(nth h.M k).a3:=ω
 generalize hM:(16*((n+15) / 16) - n).toNat=M at *;have hfl:∀m,(zK h.G (16*(nth h.M k).R+n) m).F.W.T.length=h.G.F.W.T.length:=λm=>by
  induction m with
  | zero=>rfl
  | succ m ih=>show(List.set _ _ _).length=_;rw[Z1];exact ih
 have cO:=rS {h with M:=h.M.set k (trimL (nth h.M k) n)} (nth h.O i).Addr (by show h.O.length<=_;omega);change ay _ _ _ [.val (some 24) (ac.enc .V {h with M:=h.M.set k (trimL (nth h.M k) n)}),_] _ [I (cZ (mV (nth h.O i).Addr) h.O)]at cO;rw[w]at cO;have Q:=bL {h with M:=h.M.set k (trimL (nth h.M k) n)};have heL:bF {h with M:=h.M.set k (trimL (nth h.M k) n)} = (bF h).set 7 (.s .own ((h.M.map (aF.enc .own)).set k (aF.enc .own (trimL (nth h.M k) n)))):=by simp[bF,Z6]
 rw[heL]at Q
 repeat'(first|refine gB ?_|(conv=>whnf);first|with_reducible (first|refine CE (aa l) ?_|refine CE (aa E) ?_)|refine CC ?_|refine CK rfl (aa l) rfl ?_|refine C9 (V) ?_|refine CQ rfl rfl (aa l) rfl (O1 rfl) rfl ?_|refine CG (cO) ⟨⟨rfl,Q⟩,⟨rfl,rfl⟩,trivial⟩ ?_|refine CQ rfl rfl (aa E) rfl (O1 rfl) rfl ?_|refine CK rfl (aa E) rfl ?_|refine CC ?_)
 rw[<-Y];have e0:m9 h i k n h.G=m9 h i k n (zK h.G (16*(nth h.M k).R+n) 0):=rfl;have r:C.s .own ((m9 h i k n (zK h.G (16*(nth h.M k).R+n) 0)).M.map (aF.enc .own))=C.s .own ((h.M.map (aF.enc .own)).set k (aF.enc .own (trimL (nth h.M k) n))):=by simp[m9,Z6]
 have d:C.s .own ((m9 h i k n (zK h.G (16*(nth h.M k).R+n) 0)).O.map (bt.enc .own))=C.s .own ((h.O.map (bt.enc .own)).set i (splice (bt.enc .own (nth h.O i)) 2 [I n])):=Z0 _ (Mo h i k n _)
 (conv=>whnf)
 refine CJ (ι:=Nat) (λm=>[(0,.H .box (bF (m9 h i k n (zK h.G (16*(nth h.M k).R+n) m)))),(1,.H .one [I (((nth h.M k).R*16))]),(8,.H .box (aF.enc .own (trimL (nth h.M k) n))),(9,.H .box (aB.enc .own (wW (nth h.M k) n))),(11,.H .one [I (((16*(nth h.M k).R+n)+(m:Nat)))])]) (λm=>m<=M) (λm=>M - m) (0) ?_ (X0 _) λm hm=>?_
 ·repeat'(first|exact trivial|rfl |exact pM r|exact pM d|exact eK _|refine CM ?_ ?_|(exact EO (by first|omega|(simp only;omega)|(simp;omega))))
 have hmod:IntKind.i64.wrap 0=0:=rfl;by_cases lm:m<M
 ·have W:0<=(16*(nth h.M k).R+n)+(m:Nat)/\(16*(nth h.M k).R+n)+(m:Nat)<512:=ω
  have R:=O ((16*(nth h.M k).R+n)+(m:Nat)) ω;have t:=y m hm;rw[<-D m]at R;have hks:=bv t;have c2:=dq (zK h.G (16*(nth h.M k).R+n) m).F.Q (((16*(nth h.M k).R+n)+(m:Nat)) / 16) hks.1.2;obtain⟨-,-,-,q0,q1⟩:=bY t R;have hul:=(bf.1 (aG.1 t).2.1).2.2.1;have S:cW (zK h.G (16*(nth h.M k).R+n) m) ((16*(nth h.M k).R+n)+(m:Nat))<(zK h.G (16*(nth h.M k).R+n) m).F.W.T.length:=by unfold cW;omega
  have G:(zK h.G (16*(nth h.M k).R+n) m).F.W.T[(af (zK h.G (16*(nth h.M k).R+n) m).F.Q (((16*(nth h.M k).R+n)+(m:Nat)) / 16)).o.toNat]? = some _:=au S;have h16:=(uH t S).1;have T:=au (xs:=nth (zK h.G (16*(nth h.M k).R+n) m).F.W.T (cW (zK h.G (16*(nth h.M k).R+n) m) ((16*(nth h.M k).R+n)+(m:Nat)))) (i:=(((16*(nth h.M k).R+n)+(m:Nat)) % 16).toNat) (by rw[h16];omega);have htm:((16*(nth h.M k).R+n)+(m:Nat)).tmod 16=((16*(nth h.M k).R+n)+(m:Nat)) % 16:=fR W.1;have hpu:=Tr (m9 h i k n h.G) (16*(nth h.M k).R+n) m;have hwr:=r9 W;have hst:(trimL (nth h.M k) n).a3=(n+15) / 16:=rfl
  repeat'(first|refine gE ?_|(conv=>whnf);first|refine CC ?_|refine CP (by decide) ?_|refine CN hwr ?_|refine CV htm ?_|refine CG (c2) ⟨⟨rfl,Cb _⟩,⟨rfl,rfl⟩,trivial⟩ ?_|refine CO q0 (aa G) ?_|refine CK rfl (aa G) rfl ?_|refine CO ω (aa T) ?_|refine Pu.two rfl rfl (aa G) rfl rfl rfl (aa T) rfl (W3 _) hpu ?_)
  ((conv=>whnf);refine CF (m+1) ω ω ?_;(exact wC))
 obtain rfl:m=M:=ω
 have hst:(trimL (nth h.M k) n).a3=(n+15) / 16:=rfl;have hkM:=y m (W3 _);have U:(zK h.G (16*(nth h.M k).R+n) m).F.Q.J.length=eU h:=by rw[D];rfl
 have hTK:kQ h k n=zK h.G (16*(nth h.M k).R+n) m:=by unfold kQ;rw[hM]
 unfold trimH JV;rw[hTK];generalize zK h.G (16*(nth h.M k).R+n) m=K at *;have hN:((dA (nth h.M k) n:Nat):Int)=(nth h.M k).a3 - (n+15) / 16:=by unfold dA;omega
 have hrA:0<dA (nth h.M k) n->wW (nth h.M k) n = ⟨(nth h.M k).R+(n+15) / 16,(dA (nth h.M k) n:Nat)⟩:=λhp=>by unfold wW;rw[CD ω,hN]
 have hrB:¬0<dA (nth h.M k) n->wW (nth h.M k) n = ⟨0,0⟩:=λhp=>by unfold wW;rw[CB ω]
 generalize dA (nth h.M k) n=P at *;by_cases X:0<P
 ·rw[CD X]
  have hr:=hrA X;rw[hr]
  repeat'(first|refine gE ?_|(conv=>whnf);first|refine CC ?_)
  (conv=>whnf)
  refine CJ (ι:=Nat) (λx=>[(0,.H .box (bF (m9 h i k n (unmN K ((nth h.M k).R+(n+15) / 16) x)))),(9,.H .box ([I ((nth h.M k).R+(n+15) / 16),I (P:Nat)])),(13,.H .one [I (((nth h.M k).R+(n+15) / 16+(x:Nat)))])]) (λx=>x<=P) (λx=>P - x) (0) ?_ (X0 _) λx l=>?_
  ·repeat'(first|exact trivial|rfl |exact pM r|exact pM d|exact eK _|refine CM ?_ ?_|(exact EO (by first|omega|(simp only;omega)|(simp;omega))))
  by_cases lx:x<P
  ·have c3:=nH (m9 h i k n (unmN K ((nth h.M k).R+(n+15) / 16) x)) ((nth h.M k).R+(n+15) / 16+(x:Nat)) (gZ hkM _ _)
   repeat'(first|refine gE ?_|(conv=>whnf);first|refine CC ?_|refine CL (c3) (.inl rfl) ?_)
   ((conv=>whnf);refine CF (x+1) ω ω ?_;(exact wC))
  obtain rfl:x=P:=ω
  have c4:=io (m9 h i k n (unmN K ((nth h.M k).R+(n+15) / 16) x));rw[show eU (m9 h i k n (unmN K ((nth h.M k).R+(n+15) / 16) x))=eU h from(fj _ _ _).1.trans U]at c4;have c5:=mT (eU h:Nat) h.j ⟨(nth h.M k).R+(n+15) / 16,(x:Nat)⟩ ⟨ω,ω⟩ ⟨by have:=c.free;omega,λ_ _=>trivial⟩
  repeat'(first|refine gE ?_|(conv=>whnf);first|refine CC ?_|refine CG (c4) ⟨bL _,trivial⟩ ?_|refine CG (c5) ⟨⟨rfl,rfl⟩,⟨rfl,ew h.j⟩,⟨rfl,rfl⟩,trivial⟩ ?_|refine CC ?_)
  refine CH rfl rfl ?_;exact wC
 rw[CB X];obtain rfl:P=0:=ω
 have hr:=hrB X;rw[hr]
 repeat'(first|refine gE ?_|(conv=>whnf);first|refine CC ?_)
 (conv=>whnf)
 refine CJ (ι:=Nat) (λx=>[(0,.H .box (bF (m9 h i k n K))),(9,.H .box ([I 0,I 0])),(13,.H .one [I (0)])]) (λx=>x=0) (λx=>0) (0) ?_ (rfl) λx l=>?_
 ·repeat'(first|exact trivial|rfl |exact pM r|exact pM d|exact eK _|refine CM ?_ ?_|(exact EO (by first|omega|(simp only;omega)|(simp;omega))))
 subst l
 repeat'(first|refine gE ?_|(conv=>whnf);first|refine CC ?_)
 refine CH rfl rfl ?_;exact wC
def yQ(a:α)(k:Nat):List.replicate (k+1) a=List.replicate k a++[a]:=List.replicate_succ' ..
def yY(n k:Nat):aU.enc .own ⟨List.replicate k (List.replicate 16 0),List.replicate n false⟩ = [.s .own (List.replicate k [.s .own (List.replicate 16 [I 0])]),.s .own (List.replicate n [B false])]:=by
 simp[aU.enc,aH,rI,rB,List.map_replicate]
def xA(n:Nat)(e:1<=n/\n<=32):zzA 465 false [.val none [I (n:Nat)]] (.tup [some 2,none]) (aU.enc .own (eE n)++[B true]):=by
 have c:=aO ((n:Nat):Int) 1 32;rw[O0 ω]at c;have a:=aL (b:=[B true]) (aU.enc_fr (eE n)) ⟨trivial,trivial⟩;rw[show aU.enc .own (eE n)=_ from yY n n]at a |-;refine fO 25 [(7,4,[18,19,20,21])] Tryz.func465 rfl ?_ (.inr a)
 repeat'(first|refine gP ?_|(conv=>whnf);first|refine CC ?_|refine C9 (c) ?_|refine Mk.mk n rfl rfl ω (y4 ω (by decide)) rfl ?_)
 (conv=>whnf)
 refine CJ (ι:=Nat) (λk=>[(0,.H .one [I ((n:Nat))]),(2,.H .box [.z,.z]),(4,.H .box [.s .own (List.replicate k [.s .own (List.replicate 16 [I 0])]),.s .own (List.replicate n [B false])]),(5,.H .one [I ((k:Nat):Int)])]) (λk=>k<=n) (λk=>n - k) (0) ?_ (X0 _) λk g=>?_
 ·exact wB
 by_cases h:k<n
 ·repeat'(first|refine gE ?_|(conv=>whnf);first|refine CC ?_|refine Mk.mk 16 rfl rfl (by decide) (by decide) rfl ?_|refine Ap.sn (λr d=>by rw[(List.mem_replicate.1 d).2];rfl) rfl (by simp;omega) (by decide) (yQ _ k) ?_)
  ((conv=>whnf);refine CF (k+1) ω ω ?_;(exact wB))
 obtain rfl:k=n:=ω
 repeat'(first|refine gE ?_|(conv=>whnf);first|refine CC ?_)
 rfl
def zM(n:Nat)(e:1<=n/\n<=32):zzA 466 false [.val none [I (n:Nat)]] (.tup [some 1,none]) (aJ.enc .own (dN n)++[B true]):=by
 have c:=aO ((n:Nat):Int) 1 32;rw[O0 ω]at c;have a:=aL (b:=[B true]) (aJ.enc_fr (dN n)) ⟨trivial,trivial⟩;have d:aJ.enc .own (dN n)=[.s .own (List.replicate n [I 0,I 0])]:=by simp[aJ.enc,dN,bh.enc,List.map_replicate]
 rw[d]at a |-;refine fO 11 [] Tryz.func466 rfl ?_ (.inr a)
 repeat'(first|refine gP ?_|(conv=>whnf);first|refine CC ?_|refine C9 (c) ?_|refine Mk.mk n rfl rfl ω (y4 ω (by decide)) rfl ?_)
 rfl
def wE(p f:Nat)(a:1<=p/\p<=32)(b:1<=f/\f<=32):zzA 348 false [.val none [I (p:Nat)],.val none [I (f:Nat)]] (.tup [some 3,none]) (aY.enc .own ⟨eE f,dN p⟩++[B true]):=by
 refine fO 30 [] Tryz.func348 rfl ?_ (.inr (aL (aY.enc_fr _) ⟨trivial,trivial⟩))
 repeat'(first|refine gP ?_|(conv=>whnf);first|refine CC ?_|refine C9 (xA f b) ?_|refine C9 (zM p a) ?_)
 rfl
def Dr:zzA 196 false [.val none [.z]] .one (aH .own []):=by
 refine fO 6 [] Tryz.func196 rfl ?_ (.inr (bT _))
 repeat'(first|refine gP ?_|(conv=>whnf);first|refine CC ?_|refine CU (λr a=>by cases a) (λr a=>by cases a) (λ_ r a=>by cases a) (by simp) (by simp) rfl ?_)
 rfl
def xx(p f:Nat)(a:1<=p/\p<=32)(b:1<=f/\f<=32):zzA 199 false [.val none [I (p:Nat)],.val none [I (f:Nat)],.val none [.z]] (.tup [some 5,none]) (ah.enc .own (bU p f [])++[B true]):=by
 have c:=sR a b;have d:=jR (bU p f []) (bv c);rw[c]at d;refine fO 30 [(2,260,[17,18,19,10,0,1,2,4,3,1004,5])] Tryz.func199 rfl ?_ (.inr (aL (Ce _) ⟨trivial,trivial⟩))
 repeat'(first|refine gP ?_|(conv=>whnf);first|refine CC ?_|refine C9 (wE p f a b) ?_|refine C9 (Dr) ?_|refine CG (d) ⟨⟨rfl,CR (bU p f [])⟩,trivial⟩ ?_)
 rfl
def Kw(n:Nat):P2 [.s .own (List.replicate n [.z]),.s .own (List.replicate n [.z]),B true] (aP.enc .own (eG n)++[B true]):=by
 have e:aP.enc .own (eG n)++[B true]=[.s .own (List.replicate n [.s .own []]),.s .own (List.replicate n [.s .own []]),B true]:=by simp[aP.enc,eG,cL,aH,List.map_replicate]
 rw[e];exact .cons (.rep (.cons .z_ .nil)) (.cons (.rep (.cons .z_ .nil)) (.cons (.rfl_ _) .nil))
def D4(n:Nat)(b:1<=n/\n<=4):zzA 200 false [.val none [I (n:Nat)]] (.tup [some 2,none]) (aP.enc .own (eG n)++[B true]):=by
 have a:=aO ((n:Nat):Int) 1 4;rw[O0 ω]at a;refine fO 13 [(3,4,[8,9,10,11])] Tryz.func200 rfl ?_ (.inr (aL (aP.enc_fr _) ⟨trivial,trivial⟩))
 repeat'((conv=>whnf);first|with_reducible (first|refine Lm ?_|refine Wm ω ?_|refine Bn ?_|refine jt.dk rfl ?_)|refine Bt ?_|refine Bu ?_|refine CC ?_|refine C9 (a) ?_|refine Mk.mk n rfl rfl ω (y4 ω (by decide)) rfl ?_)
 exact Kw n
def Dv(n:Nat)(b:1<=n/\n<=4):zzA 413 false [.val none [I (n:Nat)]] (.tup [some 2,none]) (aP.enc .own (eG n)++[B true]):=by
 have a:=aK ((n:Nat):Int) 1 4;rw[O0 ω]at a;refine fO 13 [(3,4,[8,9,10,11])] Tryz.func413 rfl ?_ (.inr (aL (aP.enc_fr _) ⟨trivial,trivial⟩))
 repeat'((conv=>whnf);first|with_reducible (first|refine Lm ?_|refine Wm ω ?_|refine Bn ?_|refine jt.dk rfl ?_)|refine Bt ?_|refine Bu ?_|refine CC ?_|refine C9 (a) ?_|refine Mk.mk n rfl rfl ω (y4 ω (by decide)) rfl ?_)
 exact Kw n
def EV:P2 [.s .own (List.replicate 4 [.z])] (aE.enc .own fe):=.cons (.rep (.cons .z_ .nil)) .nil
def A7:zzA 202 false [] .agg (aE.enc .own fe):=by
 refine fO 3 [] Tryz.func202 rfl ?_ (.inr (Ci _))
 repeat'((conv=>whnf);first|with_reducible (first|refine Lm ?_|refine Wm ω ?_|refine Bn ?_|refine jt.dk rfl ?_)|refine Bt ?_|refine Bu ?_|refine CC ?_|refine Mk.mk 4 rfl rfl (by decide) (by decide) rfl ?_)
 exact EV
def A4:zzA 414 false [] .agg (aE.enc .own fe):=by
 refine fO 3 [] Tryz.func414 rfl ?_ (.inr (Ci _))
 repeat'((conv=>whnf);first|with_reducible (first|refine Lm ?_|refine Wm ω ?_|refine Bn ?_|refine jt.dk rfl ?_)|refine Bt ?_|refine Bu ?_|refine CC ?_|refine Mk.mk 4 rfl rfl (by decide) (by decide) rfl ?_)
 exact EV
def DL:zzA 201 false [.val none [I 16]] (.tup [some 2,none]) (bO.enc .own ⟨16,[]⟩++[B true]):=by
 refine fO 10 [] Tryz.func201 rfl ?_ (.inr (aL (bO.enc_fr _) ⟨trivial,trivial⟩))
 repeat'((conv=>whnf);first|with_reducible (first|refine Lm ?_|refine Wm ω ?_|refine Bn ?_|refine jt.wk rfl ?_)|refine Bt ?_|refine Bu ?_|refine CC ?_|refine C9 (aO 16 0 500) ?_)
 exact⟨rfl,rfl,rfl,trivial⟩
def tL:zzA 415 false [.val none [I 16]] (.tup [some 2,none]) (bO.enc .own ⟨16,[]⟩++[B true]):=by
 refine fO 10 [] Tryz.func415 rfl ?_ (.inr (aL (bO.enc_fr _) ⟨trivial,trivial⟩))
 repeat'((conv=>whnf);first|with_reducible (first|refine Lm ?_|refine Wm ω ?_|refine Bn ?_|refine jt.wk rfl ?_)|refine Bt ?_|refine Bu ?_|refine CC ?_|refine C9 (aK 16 0 500) ?_)
 exact⟨rfl,rfl,rfl,trivial⟩
def caps(h:ac)(k:Nat):ac:={h with S:=List.replicate k fe}
def BC(k:Nat):(List.replicate (k+1) fe).map (aE.enc .own)=(List.replicate k fe).map (aE.enc .own)++[aE.enc .own fe]:=by rw[yQ,V6];rfl
def ES{k:Nat} : ∀r∈(List.replicate k fe).map (aE.enc .own),r.length=1:=aX λ_=>rfl
def DM(p f t:Nat)(lim:Int)(b:1<=p/\p<=32)(c:1<=f/\f<=32)(d:1<=t/\t<=4)(e:0<=lim/\lim<=1000):zzA 70 false [.val none [I (p:Nat)],.val none [I (f:Nat)],.val none [I (t:Nat)],.val none [I lim],.val none [.z]] (.tup [some 24,none]) (ac.enc .own (newHeap p f t lim [])++[B true]):=by
 have a:=aO lim 0 1000;rw[O0 e]at a;refine fO 68 [(10,4,[61,62,63,64])] Tryz.func70 rfl ?_ (.inr (aL (ac.enc_fr _) ⟨trivial,trivial⟩))
 repeat'(first|refine gP ?_|(conv=>whnf);first|refine CC ?_|refine C9 (xx p f b c) ?_|refine C9 (D4 t d) ?_|refine C9 (a) ?_|refine C9 (DL) ?_)
 (conv=>whnf)
 refine CJ (ι:=Nat) (λk=>[(2,.H .one [I ((t:Nat))]),(10,.H .box [.z,.z,.z,I 0,.z,.z,.z,.z,.z,.z,.z,.z,I 0,.z,I 0,I 0,I 0,I 0,B false,I 0,I 0,.z,I 0,I 0]),(18,.H .box (ac.enc .own (caps (newHeap p f t lim []) k))),(19,.H .one [I ((k:Nat):Int)])]) (λk=>k<=t) (λk=>t - k) (0) ?_ (X0 _) λk g=>?_
 ·exact wB
 by_cases h:k<t
 ·repeat'(first|refine gE ?_|(conv=>whnf);first|refine CC ?_|refine C9 (A7) ?_|refine Ap.sn ES rfl (by rw[I1];show(List.replicate _ fe).length+1<=_;rw[z4];omega) (by decide) (BC k) ?_)
  ((conv=>whnf);refine CF (k+1) ω ω ?_;(exact wB))
 obtain rfl:k=t:=ω
 repeat'(first|refine gE ?_|(conv=>whnf);first|refine CC ?_)
 rfl
def RG(x:List bH):fz (.s .own (x.map (bH.enc .own)))=.s .V (x.map (bH.enc .V)):=(List.cons.inj (List.cons.inj (Cj ⟨0,x⟩)).2).1
def fE:∀a b:List C,dG (a++b)=dG a++dG b
 | [],_=>rfl
 | x::xs,b=>by show fz x::dG (xs++b)=fz x::(dG xs++dG b);rw[fE xs b]
def eN(r:aD)(c:aD.sml r):zzA 281 false [.val (some 2) (aD.enc .V r)] .agg (aD.enc .own r):=by
 have e:r.O.length<=1048576:=c.1;refine fO 36 [(5,272,[15,16,17,18,19,20,21,22,23,24,25,26,27,28,29,34,0,1,2,3,4,5,6,7,8,9,10,11,12,13,14,15,1000,1001,1002,1003,1004,1005,1006,1007,16,1000,1001,17,1000,1001,18,19,20])] Tryz.func281 rfl ?_ (.inr (aD.enc_fr _))
 repeat'(first|refine gP ?_|(conv=>whnf);first|refine CC ?_)
 (conv=>whnf)
 refine CJ (ι:=Nat) (λi=>[(1,.H .box (aD.enc .V r)),(2,.H .box [I 0,.z]),(3,.H .box [I r.b,.s .own ((r.O.take i).map (bH.enc .own))]),(4,.H .one [I ((i:Nat):Int)])]) (λi=>i<=r.O.length) (λi=>r.O.length - i) (0) ?_ (X0 _) λi g=>?_
 ·exact wC
 by_cases b:i<r.O.length
 ·have d:=au b
  have a:(nth r.O i).T.length<=1048576:=c.2 _ (ar b)
  repeat'(first|refine gE ?_|(conv=>whnf);first|with_reducible refine CE (aa d) ?_|refine CC ?_|refine CK rfl (aa d) rfl ?_|refine CY (λ_=>rfl) (λ_=>rfl) a (by decide) ?_|refine CS (λ_=>rfl) (λ_=>rfl) a (by decide) ?_|refine CC ?_|refine Ap.sn (aX λ_=>rfl) rfl (by simp;omega) (by decide) (fU b) ?_)
  ((conv=>whnf);refine CF (i+1) ω ω ?_;(exact wC))
 repeat'(first|refine gE ?_|(conv=>whnf);first|refine CC ?_)
 obtain rfl:i=r.O.length:=ω
 rw[X5]
 rfl
def iC(r:aD)(id:Int)(g:r.O.length<=1048576):zzA 516 false [.val (some 2) (aD.enc .V r),.val none [I id]] .one [I (pk r id)]:=by
 refine fO 22 [] Tryz.func516 rfl ?_
 repeat'(first|refine gP ?_|(conv=>whnf);first|refine CC ?_)
 (conv=>whnf)
 refine CJ (ι:=Nat) (λi=>[(1,.H .one [I (id)]),(2,.H .box (aD.enc .V r)),(5,.H .one [I ((i:Nat):Int)])]) (λi=>i<=r.O.length/\∀(j:Nat)(z:bH),j<i->r.O[j]? = some z->nP id z=false) (λi=>r.O.length - i) (0) ?_ (⟨X0 _,λj z h=>ω⟩) λi c=>?_
 ·exact wC
 obtain⟨c,b⟩:=c;by_cases d:i<r.O.length
 ·have a:=au d
  by_cases e:(nth r.O i).Id=id
  ·repeat'(first|refine gB ?_|(conv=>whnf);first|with_reducible refine CE (aa a) ?_|refine CC ?_|refine CK rfl (aa a) rfl ?_)
   exact Z0 (λz=>[I z]) (dQ a (O0 e) b).symm
  repeat'(first|refine gB ?_|(conv=>whnf);first|with_reducible refine CE (aa a) ?_|refine CC ?_|refine CK rfl (aa a) rfl ?_)
  ((conv=>whnf);refine CF (i+1) ⟨ω,eg a (W0 e) b⟩ ω ?_;(exact wC))
 repeat'(first|refine gE ?_|(conv=>whnf);first|refine CC ?_)
 exact Z0 (λz=>[I z]) (gq ω b).symm
def oJ(r:aD)(c:C)(h:QP c):iv (aD.enc .own r++[c]):=aL (aD.enc_fr _) ⟨h,trivial⟩
def zS(r:aD)(n:Int)(m:Nat)(b:sO r m)(h:m<=1000)(c:1<=n/\n<=1000):zzA 273 false [.val (some 2) (aD.enc .V r),.val none [I n]] (.tup [some 2,none]) (aD.enc .V (iW r n)++[I r.b]):=by
 have i:=b.sml h;have d:=b.len;have j:=b.nx;have k:=eN r i;have e:=aK n 1 1000;rw[O0 c]at e;have key:zzA 273 false [.val (some 2) (aD.enc .V r),.val none [I n]] (.tup [some 2,none]) (aD.enc .own (iW r n)++[I r.b]):=by
  have a:=oJ (iW r n) (I r.b) trivial;unfold iW at a |-;rw[CD c]at a |-;have l:aD.enc .own {r with b:=r.b+1,O:=r.O++[⟨r.b,List.replicate n.toNat 0⟩]} = [I (r.b+1),.s .own (r.O.map (bH.enc .own)++[[I r.b,.s .own (List.replicate n.toNat [I 0])]])]:=by
   simp[aD.enc,bH.enc,rI]
  rw[l]at a |-;refine fO 30 [(4,263,[13,14,15,16,17,18,22,0,1,2,3,4,5,6,1000,1001,7,1000,1001,8,9,10]),(6,259,[27,28,29,0,1,2,3,1001,1002,4])] Tryz.func273 rfl ?_ (.inr a)
  repeat'(first|refine gP ?_|(conv=>whnf);first|refine CC ?_|refine C9 (k) ?_|refine C9 (e) ?_|refine Mk.mk n.toNat ω ω ω (y4 ω (by decide)) rfl ?_|refine CC ?_|refine Ap.sn (aX λ_=>rfl) rfl (by simp;omega) (by decide) rfl ?_)
  (conv=>whnf)
  rfl
 have g:=key.fzR;rw[fE,Cj]at g;exact g
def DA(r:aD)(id:Int)(m:Nat)(d:sO r m)(k:m<=1000):zzA 417 true [.val (some 2) (aD.enc .V r),.val none [I id]] (.tup [some 2,none]) (aD.enc .V (jS r id)++[B (!decide (pk r id<0))]):=by
 have g:=d.sml k;have h:=d.len;have i:=eN r g;have b:=iC r id g.1;by_cases e:pk r id<0
 ·have key:zzA 417 true [.val (some 2) (aD.enc .V r),.val none [I id]] (.tup [some 2,none]) (aD.enc .own r++[B false]):=by
   refine fO 30 [(5,267,[16,17,18,19,20,22,23,24,25,26,28,0,1,2,3,4,6,7,8,9,10,5,1006,1007,1008,1009,1010,11,12,13]),(1048581,6,[1])] Tryz.func417 rfl ?_ (.inl rfl)
   repeat'(first|refine gE ?_|(conv=>whnf);first|refine CC ?_|refine C9 (i) ?_|refine C9 (b) ?_)
   rfl
  have a:=key.fzR;rw[fE,Cj]at a;unfold jS;rw[CD e,O0 e];exact a
 have n:jS r id = {r with O:=dele r.O (pk r id).toNat}:=by unfold jS;rw[CB e]
 obtain⟨t,u,w⟩:=fN (nP id) r.O (by unfold pk at e;omega);obtain⟨j,c⟩:=O3 (show 0<=pk r id by omega);have o:j<r.O.length:=by unfold pk at c;omega
 have key:zzA 417 true [.val (some 2) (aD.enc .V r),.val none [I id]] (.tup [some 2,none]) ([I r.b,.s .own ((dele r.O j).map (bH.enc .V))]++[B true]):=by
  rw[c]at b;refine fO 30 [(5,267,[16,17,18,19,20,22,23,24,25,26,28,0,1,2,3,4,6,7,8,9,10,5,1006,1007,1008,1009,1010,11,12,13]),(1048581,6,[1])] Tryz.func417 rfl ?_ (.inl rfl)
  repeat'(first|refine gE ?_|(conv=>whnf);first|refine CC ?_|refine C9 (i) ?_|refine C9 (b) ?_|refine Hq.mk rfl (RG r.O) rfl ?_|refine CZ j rfl (by rw[I1];omega) (aX λ_=>rfl) W4 ?_|refine Sl.suf (j+1) ω (by rw[I1];omega) (aX λ_=>rfl) X4 ?_|refine CS (λ_=>rfl) (λ_=>rfl) (by rw[C2];omega) (by decide) ?_|refine CY (λ_=>rfl) (λ_=>rfl) (by rw[C2];omega) (by decide) ?_|refine Ap.dele (λ_=>rfl) (λ_=>rfl) ω (by decide) ?_|refine CC ?_)
  rfl
 have a:=key.fzR;have p:dG ([I r.b,.s .own ((dele r.O j).map (bH.enc .V))]++[B true])=aD.enc .V (jS r id)++[B (!decide (pk r id<0))]:=by
  have:∀l:List bH,fzR (l.map (bH.enc .V))=l.map (bH.enc .V):=λl=>by
   induction l with
   | nil=>rfl
   | cons x xs q=>rw[X6,fzR,q,<-bH.enc_fz,tV]
  rw[n,c,W0 ω];simp[dG,fz,aD.enc,this]
 rw[p]at a;exact a
def AA(r:aD)(id a v:Int)(m:Nat)(o:sO r m)(D:m<=1000)(h:0<=pk r id)(c:0<=a/\a<=(nth r.O (pk r id).toNat).T.length - 1)(p:0<=v/\v<=999):zzA 419 false [.val (some 2) (aD.enc .V r),.val none [I id],.val none [I a],.val none [I v]] (.tup [some 2,none]) (aD.enc .V (eM r id a v)++[B true]):=by
 have k:=o.sml D;have q:=o.len;have E:=eN r k;have t:=iC r id k.1;obtain⟨J,K,L⟩:=fN (nP id) r.O h;obtain⟨j,l⟩:=O3 h;have d:j<r.O.length:=by unfold pk at l;omega
 have e:=au d;have F:(nth r.O j).T.length<=1048576:=k.2 _ (ar d);obtain⟨b,g⟩:=O3 c.1;have G:eM r id a v = {r with O:=r.O.set j ⟨(nth r.O j).Id,(nth r.O j).T.set b v⟩}:=by
  unfold eM;rw[CD ⟨h,c,p⟩,l,g];rfl
 rw[l]at t c;rw[g]at c |-;simp only[I3]at c;have u:=au (xs:=(nth r.O j).T) (i:=b) ω;have w:=aK (b:Nat) 0 (((nth r.O j).T.length:Nat) - 1:Int);rw[O0 ω]at w;have y:=aK v 0 999;rw[O0 p]at y;have key:zzA 419 false [.val (some 2) (aD.enc .V r),.val none [I id],.val none [I (b:Nat)],.val none [I v]] (.tup [some 2,none]) (aD.enc .own (eM r id (b:Nat) v)++[B true]):=by
  have n:=oJ (eM r id (b:Nat) v) (B true) trivial;rw[<-g,G]at n |-;have H:aD.enc .own {r with O:=r.O.set j ⟨(nth r.O j).Id,(nth r.O j).T.set b v⟩} = [I r.b,.s .own ((r.O.map (bH.enc .own)).set j [I (nth r.O j).Id,.s .own (((nth r.O j).T.map (rI .own)).set b [I v])])]:=by
   simp[aD.enc,bH.enc,rI,Z6]
  rw[H]at n |-;rw[g];refine fO 48 [] Tryz.func419 rfl ?_ (.inr n)
  repeat'(first|refine gE ?_|(conv=>whnf);first|with_reducible (first|refine CE (aa e) ?_|refine CE (aa u) ?_|refine CO ω (aa e) ?_)|refine CC ?_|refine C9 (E) ?_|refine C9 (t) ?_|refine C9 (w) ?_|refine C9 (y) ?_|refine CK rfl (aa e) rfl ?_|refine Pu.two rfl rfl (aa e) rfl rfl rfl (aa u) rfl (W3 _) rfl ?_)
  rfl
 have C:=key.fzR;rw[fE,Cj]at C;exact C
def Ey(r:aD)(id n:Int)(m:Nat)(l:sO r m)(u:m<=1000)(g:0<=pk r id)(c:1<=n/\n<=(nth r.O (pk r id).toNat).T.length):zzA 421 false [.val (some 2) (aD.enc .V r),.val none [I id],.val none [I n]] (.tup [some 2,none]) (aD.enc .V (fJ r id n)++[B true]):=by
 have h:=l.sml u;have o:=l.len;have w:=eN r h;have p:=iC r id h.1;obtain⟨E,F,G⟩:=fN (nP id) r.O g;obtain⟨j,i⟩:=O3 g;have a:j<r.O.length:=by unfold pk at i;omega
 have d:=au a;have y:(nth r.O j).T.length<=1048576:=h.2 _ (ar a);obtain⟨b,e⟩:=O3 (show 0<=n by omega);have C:fJ r id n = {r with O:=r.O.set j ⟨(nth r.O j).Id,(nth r.O j).T.take b⟩}:=by
  unfold fJ;rw[CD ⟨g,c⟩,i,e];rfl
 rw[i]at p c;rw[e]at c |-;simp only[I3]at c;have q:=aK (b:Nat) 1 (((nth r.O j).T.length:Nat):Int);rw[O0 ω]at q;have key:zzA 421 false [.val (some 2) (aD.enc .V r),.val none [I id],.val none [I (b:Nat)]] (.tup [some 2,none]) (aD.enc .own (fJ r id (b:Nat))++[B true]):=by
  have k:=oJ (fJ r id (b:Nat)) (B true) trivial;rw[<-e,C]at k |-;have D:aD.enc .own {r with O:=r.O.set j ⟨(nth r.O j).Id,(nth r.O j).T.take b⟩} = [I r.b,.s .own ((r.O.map (bH.enc .own)).set j [I (nth r.O j).Id,.s .own (((nth r.O j).T.take b).map (rI .V))])]:=by
   simp only[aD.enc,Z6]
   rfl
  rw[D]at k |-;rw[e];refine fO 46 [(5,270,[30,31,32,33,34,35,36,37,38,39,40,41,43,44,0,1,2,3,4,5,6,7,8,9,10,11,12,1000,1001,1002,13,14,15])] Tryz.func421 rfl ?_ (.inr k)
  repeat'(first|refine gE ?_|(conv=>whnf);first|with_reducible (first|refine CE (aa d) ?_|refine CO ω (aa d) ?_)|refine CC ?_|refine C9 (w) ?_|refine C9 (p) ?_|refine C9 (q) ?_|refine CK rfl (aa d) rfl ?_|refine CZ b rfl (by rw[I1];omega) (aX λ_=>rfl) W4 ?_|refine CY (λ_=>rfl) (λ_=>rfl) (by rw[C2];omega) (by decide) ?_|refine CS (λ_=>rfl) (λ_=>rfl) (by rw[C2];omega) (by decide) ?_|refine CC ?_|refine CQ rfl rfl (aa d) rfl (O1 rfl) rfl ?_)
  rfl
 have t:=key.fzR;rw[fE,Cj]at t;exact t
def Dk(r:aD)(id a v:Int)(m:Nat)(h:sO r m)(l:m<=1000)(u:0<=v/\v<=999):∃b:Bool,zzA 419 false [.val (some 2) (aD.enc .V r),.val none [I id],.val none [I a],.val none [I v]] (.tup [some 2,none]) (aD.enc .V (eM r id a v)++[B b]):=by
 by_cases i:0<=pk r id
 ·by_cases d:0<=a/\a<=(nth r.O (pk r id).toNat).T.length - 1
  ·exact⟨true,AA r id a v m h l i d u⟩
  refine⟨false,?_⟩;have c:=h.sml l;have o:=h.len;have n:=eN r c;have k:=iC r id c.1;obtain⟨C,D,E⟩:=fN (nP id) r.O i;obtain⟨j,p⟩:=O3 i;have e:j<r.O.length:=by unfold pk at p;omega
  have q:=au e;have w:(nth r.O j).T.length<=1048576:=c.2 _ (ar e);have y:eM r id a v=r:=by unfold eM;rw[CB (λx=>d x.2.1)]
  rw[p]at k d;simp only[I3]at d;have t:=aK a 0 (((nth r.O j).T.length:Nat) - 1:Int);rw[W0 d]at t;rw[y];have key:zzA 419 false [.val (some 2) (aD.enc .V r),.val none [I id],.val none [I a],.val none [I v]] (.tup [some 2,none]) (aD.enc .own r++[B false]):=by
   refine fO 48 [] Tryz.func419 rfl ?_ (.inr (oJ r (B false) trivial))
   repeat'(first|refine gE ?_|(conv=>whnf);first|with_reducible refine CE (aa q) ?_|refine CC ?_|refine C9 (n) ?_|refine C9 (k) ?_|refine C9 (t) ?_|refine CK rfl (aa q) rfl ?_)
   rfl
  have g:=key.fzR;rw[fE,Cj]at g;exact g
 refine⟨false,?_⟩;have c:=h.sml l;have n:=eN r c;have k:=iC r id c.1;rw[show eM r id a v=r by unfold eM;rw[CB (λx=>i x.1)]];have key:zzA 419 false [.val (some 2) (aD.enc .V r),.val none [I id],.val none [I a],.val none [I v]] (.tup [some 2,none]) (aD.enc .own r++[B false]):=by
  refine fO 48 [] Tryz.func419 rfl ?_ (.inr (oJ r (B false) trivial))
  repeat'(first|refine gE ?_|(conv=>whnf);first|refine CC ?_|refine C9 (n) ?_|refine C9 (k) ?_)
  rfl
 have g:=key.fzR;rw[fE,Cj]at g;exact g
def ET(r:aD)(id n:Int)(m:Nat)(g:sO r m)(k:m<=1000):∃b:Bool,zzA 421 false [.val (some 2) (aD.enc .V r),.val none [I id],.val none [I n]] (.tup [some 2,none]) (aD.enc .V (fJ r id n)++[B b]):=by
 by_cases h:0<=pk r id
 ·by_cases c:1<=n/\n<=(nth r.O (pk r id).toNat).T.length
  ·exact⟨true,Ey r id n m g k h c⟩
  refine⟨false,?_⟩;have a:=g.sml k;have o:=g.len;have l:=eN r a;have i:=iC r id a.1;obtain⟨y,C,D⟩:=fN (nP id) r.O h;obtain⟨j,p⟩:=O3 h;have d:j<r.O.length:=by unfold pk at p;omega
  have q:=au d;have u:(nth r.O j).T.length<=1048576:=a.2 _ (ar d);have w:fJ r id n=r:=by unfold fJ;rw[CB (λx=>c x.2)]
  rw[p]at i c;simp only[I3]at c;have t:=aK n 1 (((nth r.O j).T.length:Nat):Int);rw[W0 c]at t;rw[w];have key:zzA 421 false [.val (some 2) (aD.enc .V r),.val none [I id],.val none [I n]] (.tup [some 2,none]) (aD.enc .own r++[B false]):=by
   refine fO 46 [(5,270,[30,31,32,33,34,35,36,37,38,39,40,41,43,44,0,1,2,3,4,5,6,7,8,9,10,11,12,1000,1001,1002,13,14,15])] Tryz.func421 rfl ?_ (.inr (oJ r (B false) trivial))
   repeat'(first|refine gE ?_|(conv=>whnf);first|with_reducible refine CE (aa q) ?_|refine CC ?_|refine C9 (l) ?_|refine C9 (i) ?_|refine C9 (t) ?_|refine CK rfl (aa q) rfl ?_)
   rfl
  have e:=key.fzR;rw[fE,Cj]at e;exact e
 refine⟨false,?_⟩;have a:=g.sml k;have l:=eN r a;have i:=iC r id a.1;rw[show fJ r id n=r by unfold fJ;rw[CB (λx=>h x.1)]];have key:zzA 421 false [.val (some 2) (aD.enc .V r),.val none [I id],.val none [I n]] (.tup [some 2,none]) (aD.enc .own r++[B false]):=by
  refine fO 46 [(5,270,[30,31,32,33,34,35,36,37,38,39,40,41,43,44,0,1,2,3,4,5,6,7,8,9,10,11,12,1000,1001,1002,13,14,15])] Tryz.func421 rfl ?_ (.inr (oJ r (B false) trivial))
  repeat'(first|refine gE ?_|(conv=>whnf);first|refine CC ?_|refine C9 (l) ?_|refine C9 (i) ?_)
  rfl
 have e:=key.fzR;rw[fE,Cj]at e;exact e
end Go.Proofs.YtiopgblagimpmaaGreat.Ab
