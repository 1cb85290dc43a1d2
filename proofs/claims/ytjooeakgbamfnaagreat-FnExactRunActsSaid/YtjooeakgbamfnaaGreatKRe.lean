/- Spans on one frame, objects, slots that are held: the contracts of l27Meshed, l27Job, l27Slot, l27Objs (the reference's) and objsOk (the program's). No condition. -/
import Derived.Test.YtjooeakgbamfnaaGreatKRd
import Derived.Test.YtjooeakgbamfnaaGreatKRShelf
import Derived.WalkKit
import Derived.Lib.SliceRun
set_option linter.unusedVariables false
set_option linter.defProp false
set_option linter.unusedSimpArgs false
set_option linter.constructorNameAsVariable false
namespace Go.Proofs.YtjooeakgbamfnaaGreat.Ab
open Go.RowKit
set_option maxRecDepth 20000
set_option maxHeartbeats 8000000
variable{α:Type}
theorem td[Inhabited α](pr:α->Bool)(xs:List α):cy pr xs = -1\/∃n,n<xs.length/\cy pr xs=(n:Nat)/\pr (nth xs n)=true:=by
 unfold cy;cases h:xs.findIdx? pr with
 | none=>exact .inl rfl
 | some i=>
  obtain⟨a,b,-⟩:=CE.1 h;exact .inr ⟨i,a,rfl,by rw[bB (z4 a)];exact b⟩
variable{i:Nat}{h:ac}
def Mq{k:Nat}(a:i<h.J.length)(b:k<(aZ h (nth h.J i).S).length)(c:pP h i (nth (aZ h (nth h.J i).S) k)=false):z7 h=false:=by
 unfold z7;exact cI a (iL (ar b) c)
theorem Jz(h:ac)(g:dl h.J)(b:Ak h):zzA 75 false [.val (some 24) (ac.enc .O h)] .one [B (z7 h)]:=by
 have j:=g.1;have D:fT h<=1048576:=b.1;refine fO 55 [(4,8,[14,15,16,17,18,19,20,21]),(8,6,[28,29,30,31,32,33]),(9,21,[34,35,36,37,38,39,40,41,42,43,44,45,46,47,48,49,50,51,52,53,54])] Tryz.func75 rfl ?_
 refine σP ?_
 refine gn h.J.length (λi=>[(1,bS (ac.enc .O h)),(3,fN i)]) (λi=>d9 i (λi=>(aZ h (nth h.J i).S).all (pP h i))=true) rfl λi w=>?_
 obtain⟨w,E⟩:=w;by_cases l:i<h.J.length
 ·have o:=ar l
  have F:=gJ h (nth h.J i).S
  repeat'(first|refine gE ?_|refine CF (jH h _ b) ?_)
  refine gn ((aZ h (nth h.J i).S).length) (λk=>[(1,bS (ac.enc .O h)),(3,fN i),(4,bC (aE .own (aZ h (nth h.J i).S))),(5,fN k)]) (λk=>((aZ h (nth h.J i).S).take k).all (pP h i)=true) ψ λk y=>?_
  obtain⟨y,G⟩:=y;by_cases q:k<(aZ h (nth h.J i).S).length
  ·have c:=ar q
   have a:=lO h (nth (aZ h (nth h.J i).S) k) j;rcases td (pD (nth (aZ h (nth h.J i).S) k)) h.J with e|⟨n,H,e,-⟩
   ·rw[show iX h (nth (aZ h (nth h.J i).S) k) = -1 from e]at a
    have r:pP h i (nth (aZ h (nth h.J i).S) k)=false:=by grind [pP,iX]
    repeat'(first|refine gE ?_|refine gS (λt=>?_) (λt=>?_)|fail)
    all_goals first
     | exact bx ((Mq l q r).symm)
     |(exfalso;omega)
   rw[show iX h (nth (aZ h (nth h.J i).S) k)=(n:Nat) from e]at a;have J:=ar H;have C:=pC (nth h.J i) (nth h.J n);have d:pP h i (nth (aZ h (nth h.J i).S) k)=(decide ((n:Int)=(i:Nat)) || meshable (nth h.J i) (nth h.J n)):=by
    unfold pP;rw[show iX h (nth (aZ h (nth h.J i).S) k)=(n:Nat) from e,O0 (p:=(0:Int)<=(n:Nat)) ω];simp
   cases u:meshable (nth h.J i) (nth h.J n)<;>rw[u]at C
   all_goals
    repeat'(first|refine gE ?_|refine gS (λt=>?_) (λt=>?_)|fail)
    all_goals first
     | exact bx ((Mq l q (by rw[d,u];grind)).symm)
     | ((conv=>whnf);exact dt (k+1) ⟨ω,dr c G (by rw[d,u];grind)⟩)
     |(exfalso;omega)
  refine σE ?_
  (exact dt (i+1) ⟨ω,cm E ψ⟩)
 obtain rfl:i=h.J.length:=ω
 refine σE ?_
 exact bx ((by grind [z7]))
def Rp(j:bW)(a:bW.sml j):zzA 82 false [.val (some 5) (bW.enc .O j)] .one [B (xL j)]:=by
 have c:j.d.U.length<=1048576:=a;refine fO 30 [] Tryz.func82 rfl ?_
 repeat'(first|refine gP ?_|refine gS (λb=>?_) (λb=>?_)|fail)
 all_goals exact bx ((by unfold xL;first|(symm;exact C1 ω)|(rw[z9,beq_iff_eq,C0];omega)))
theorem qO(sp:List aA)(la:List a8)(a:Int):((denotes sp la a).b3=1->0<=(denotes sp la a).c7/\(denotes sp la a).c7.toNat<sp.length)/\((denotes sp la a).b3=3->0<=(denotes sp la a).c7/\(denotes sp la a).c7.toNat<la.length):=by grind [CE,denotes,tC]
theorem Nb(h:ac)(a c:Int)(d:dl h.J)(e:du h.H)(b:bD h.J h.H=true)(j:mY a):zzA 201 false [.val (some 24) (ac.enc .O h),.vI a,.vI c] .one [B (dR h a c)]:=by
 have i:=r7 h.J h.H a d e b j;obtain⟨g,-⟩:=qO h.J h.H a;unfold dR;generalize denotes h.J h.H a=w at i g |-;refine fO 37 [] Tryz.func201 rfl ?_
 repeat'(first|refine gP ?_|refine gS (λk=>?_) (λk=>?_)|refine CQ (g (by assumption)).1 (aa (ar (g (by assumption)).2)) ?_)
 all_goals exact bx (ψ)
theorem Gl(h:ac)(o:aW)(w:ll)(a:denotes h.J h.H o.Addr=w):nr h o=(decide (w.c8=0)&&((decide (w.b3=1)&&decide ((nth h.J w.c7.toNat).Z=aU o.y)) || (decide (w.b3=3)&&decide ((nth h.H w.c7.toNat).y=o.y)))):=by grind [nr]
def lc(a:i<h.K.length)(b:objAt (IntKind.i64.wrap (h.k - 1)) h i=false):iC h=false:=cI a b
variable{a:Int}
theorem QH(h1:jF a h i=false):objAt a h i=false:=by grind [objAt]
theorem QI(h1:(h.K.take i).any (jr (nth h.K i).Id)=true):objAt a h i=false:=by grind [objAt]
theorem Qr(h1:nr h (nth h.K i)=false):objAt a h i=false:=by grind [objAt]
theorem GA(h1:jF a h i=true)(h2:(h.K.take i).any (jr (nth h.K i).Id)=false)(b:nr h (nth h.K i)=true):objAt a h i=true:=by grind [objAt]
theorem Pe(h:ac)(l:dl h.J)(n:du h.H)(g:bD h.J h.H=true)(H:h.K.length<=1048576)(J:h.R.length<=1048576)(F:∀o∈h.K,mY o.Addr):zzA 80 false [.val (some 24) (ac.enc .O h)] .one [B (iC h)]:=by
 refine fO 117 [(5,33,[21,22,23,24,25,26,27,28,29,30,31,32,33,34,35,36,37,38,39,40,41,42,43,44,45,46,47,48,49,50,51,52,53]),(10,9,[59,60,61,62,63,64,65,66,67]),(13,16,[75,76,77,78,79,80,81,82,83,84,85,86,87,88,89,90]),(14,15,[91,92,93,94,95,96,97,98,99,100,101,102,103,104,105])] Tryz.func80 rfl ?_
 refine σP ?_
 refine gn h.K.length (λi=>[(1,bS (ac.enc .O h)),(3,fN i)]) (λi=>d9 i (objAt (IntKind.i64.wrap (h.k - 1)) h)=true) rfl λi t=>?_
 obtain⟨t,u⟩:=t;by_cases d:i<h.K.length
 ·have y:=ar d
  have C:=r7 h.J h.H (nth h.K i).Addr l n g (F _ (ax d));obtain⟨p,q⟩:=qO h.J h.H (nth h.K i).Addr;have b:=Gl h (nth h.K i) _ rfl;generalize denotes h.J h.H (nth h.K i).Addr=w at C p q b;by_cases c:jF (IntKind.i64.wrap (h.k - 1)) h i=true
  ·have a:=c
   unfold jF at a;rw[C0]at a
   repeat'(first|refine gE ?_|refine gS (λe=>?_) (λe=>?_)|refine CQ ω (aa (i9 ω d)) ?_|refine CF (aP _ _ _) ?_|refine CS rfl ?_)
   all_goals
    (conv=>whnf)
    refine gn i (λk=>[(1,bS (ac.enc .O h)),(3,fN i),(4,bS (aW.enc .O (nth h.K i))),(5,fN k)]) (λk=>(h.K.take k).any (jr (nth h.K i).Id)=false) rfl λk D=>?_
    obtain⟨D,E⟩:=D;by_cases G:k<i
    ·have r:=ar (xs:=h.K) (i:=k) ω
     repeat'(first|refine gE ?_|refine gS (λe=>?_) (λe=>?_)|fail)
     all_goals first
      | exact bx ((lc d (QI (HG (i:=k) (by rw[List.getElem?_take_of_lt G];exact r) (O0 (by assumption))))).symm)
      | ((conv=>whnf);exact dt (k+1) ⟨ω,Bl r E (C1 (by assumption))⟩)
    obtain rfl:k=i:=ω
    repeat'(first|refine gE ?_|refine gS (λe=>?_) (λe=>?_)|refine CQ (p (by assumption)).1 (aa (ar (p (by assumption)).2)) ?_|refine CQ (q (by assumption)).1 (aa (ar (q (by assumption)).2)) ?_|refine CF (nt _) ?_)
    all_goals first
     | exact bx ((lc d (Qr (by rw[b];grind))).symm)
     | ((conv=>whnf);exact dt (k+1) ⟨ω,cm u (GA c E (by rw[b];grind))⟩)
     |(exfalso;omega)
  have j:jF (IntKind.i64.wrap (h.k - 1)) h i=false:=by simpa using c
  have a:=j;unfold jF at a;rw[v9]at a
  repeat'(first|refine gE ?_|refine gS (λe=>?_) (λe=>?_)|refine CQ ω (aa (i9 ω d)) ?_|refine CF (aP _ _ _) ?_|refine CS rfl ?_)
  all_goals first
   | exact bx ((lc d (QH j)).symm)
   |(exfalso;omega)
 obtain rfl:i=h.K.length:=ω
 refine σE ?_
 exact bx ((show true=iC h from u.symm))
theorem uH(o a:aW):zzA 257 false [.val (some 4) (aW.enc .O o),.ptr (aW.enc .O a)] .one [B (jr a.Id o)]:=by
 refine fO 9 [] Tryz.func257 rfl ?_
 refine σP ?_
 grind [jr]
theorem Kl(h:ac)(n:dl h.J)(o:du h.H)(G:h.K.length<=1048576)(H:h.R.length<=1048576):zzA 113 false [.val (some 24) (ac.enc .O h)] .one [B (iC h)]:=by
 refine fO 105 [(4,33,[16,17,18,19,20,21,22,23,24,25,26,27,28,29,30,31,32,33,34,35,36,37,38,39,40,41,42,43,44,45,46,47,48]),(9,16,[62,63,64,65,66,67,68,69,70,71,72,73,74,75,76,77]),(10,15,[78,79,80,81,82,83,84,85,86,87,88,89,90,91,92])] Tryz.func113 rfl ?_
 refine σP ?_
 refine gn h.K.length (λi=>[(1,bS (ac.enc .O h)),(9,bC (iU .O h.K)),(10,fI h.K.length),(11,fN i)]) (λi=>d9 i (objAt (IntKind.i64.wrap (h.k - 1)) h)=true) rfl λi D=>?_
 obtain⟨D,E⟩:=D;by_cases e:i<h.K.length
 ·have p:=ar e
  have F:=np h.J h.H (nth h.K i).Addr n o;obtain⟨q,t⟩:=qO h.J h.H (nth h.K i).Addr;have b:=Gl h (nth h.K i) _ rfl;generalize denotes h.J h.H (nth h.K i).Addr=w at F q t b;have g:=ye (h.K.take i) (jr (nth h.K i).Id) ψ;by_cases c:jF (IntKind.i64.wrap (h.k - 1)) h i=true
  ·have a:=c
   unfold jF at a;rw[C0]at a;cases d:(h.K.take i).any (jr (nth h.K i).Id)<;>rw[d]at g
   ·repeat'(first|refine gE ?_|refine gS (λj=>?_) (λj=>?_)|refine CQ ω (aa (i9 ω e)) ?_|refine CF (aG _ _ _) ?_|refine CZ i rfl kd (λr u=>by obtain⟨z,-,rfl⟩:=O8.1 u;rfl) (C8 ..) ?_|refine Cq.mk (sB (some 4) (aW.enc .O) (jr (nth h.K i).Id) (h.K.take i)) (uH default (nth h.K i)).has (λL k rcs C=>by obtain⟨y,-,rfl,rfl,rfl⟩:=C;exact uH y (nth h.K i)) ?_|refine CQ (q (by assumption)).1 (aa (ar (q (by assumption)).2)) ?_|refine CQ (t (by assumption)).1 (aa (ar (t (by assumption)).2)) ?_|refine CF (nh _) ?_|refine CS rfl ?_)
    all_goals first
     | exact bx ((lc e (Qr (by rw[b];grind))).symm)
     | ((conv=>whnf);exact dt (i+1) ⟨ω,cm E (GA c d (by rw[b];grind))⟩)
     |(exfalso;omega)
   repeat'(first|refine gE ?_|refine gS (λj=>?_) (λj=>?_)|refine CQ ω (aa (i9 ω e)) ?_|refine CF (aG _ _ _) ?_|refine CZ i rfl kd (λr u=>by obtain⟨z,-,rfl⟩:=O8.1 u;rfl) (C8 ..) ?_|refine Cq.mk (sB (some 4) (aW.enc .O) (jr (nth h.K i).Id) (h.K.take i)) (uH default (nth h.K i)).has (λL k rcs C=>by obtain⟨y,-,rfl,rfl,rfl⟩:=C;exact uH y (nth h.K i)) ?_|refine CS rfl ?_)
   all_goals first
    | exact bx ((lc e (QI d)).symm)
    |(exfalso;omega)
  have l:jF (IntKind.i64.wrap (h.k - 1)) h i=false:=by simpa using c
  have a:=l;unfold jF at a;rw[v9]at a
  repeat'(first|refine gE ?_|refine gS (λj=>?_) (λj=>?_)|refine CQ ω (aa (i9 ω e)) ?_|refine CF (aG _ _ _) ?_|refine CS rfl ?_)
  all_goals first
   | exact bx ((lc e (QH l)).symm)
   |(exfalso;omega)
 obtain rfl:i=h.K.length:=ω
 refine σE ?_
 exact bx ((show true=iC h from E.symm))
set_option maxHeartbeats 8000000
variable{n:Nat}{la:List a8}{sp:List aA}
theorem Rb(h:m8 sp la n=true):pd sp la (n+1)=pd sp la n++[(n:Int)]:=by grind [List.range_succ,pd]
theorem V6(h:m8 sp la n=false):pd sp la (n+1)=pd sp la n:=by grind [List.range_succ,pd]
theorem G9(sp:List aA)(la:List a8)(n:Nat):(pd sp la n).length<=n:=by grind [pd]
theorem xd{w:ll}(a:denotes sp la (n:Nat)=w):m8 sp la n=(decide (w.c8=0)&&(decide (w.b3=1) || decide (w.b3=3))):=by grind [m8]
def WX(h:n<=1048576):mY (n:Nat):=⟨ω,ω⟩
theorem D5(sp:List aA)(la:List a8)(c:dl sp)(d:du la)(a:bD sp la=true):zzA 203 false [.val none (bP .O sp),.val none (bV .O la)] .one (aE .own (ne sp la)):=by
 have g:=pG sp la c d;rw[a]at g;refine fO 40 [] Tryz.func203 rfl ?_ (.inr (bH _))
 refine σP ?_
 refine lp0 512 (λn=>[(0,bC (bP .O sp)),(1,bC (bV .O la)),(5,bC (aE .own (pd sp la n))),(6,fN n)]) λn o=>?_
 have i:=G9 sp la n;by_cases p:n<512
 ·have h:=r7 sp la (n:Nat) c d a (WX ω)
  generalize j:denotes sp la (n:Nat)=w at h;have e:=xd j
  repeat'(first|refine gE ?_|refine gS (λk=>?_) (λk=>?_)|refine Cb cN (λr l=>by rw[z3.1 l];rfl) (by simp[bu,f6]) kd (by simp only[I2];exact zc kd qs) rfl ?_)
  all_goals first
   |(have b:m8 sp la n=true:=by rw[e];grind
     (conv=>whnf)
     refine CP (n+1) ω ω ?_;rw[Rb b]
     (exact wD))
   |(have b:m8 sp la n=false:=by rw[e];grind
     (conv=>whnf)
     refine CP (n+1) ω ω ?_;rw[V6 b]
     (exact wA))
 obtain rfl:n=512:=ω
 refine σE ?_
 rfl
theorem Dq(m:aI)(a:m.g.length=m.T.length):∀i,i<=m.T.length->(((flight1 m i).length+(flight2 m i).length:Nat):Int)=bQ m i
 | 0,_=>rfl
 | i+1,h=>by
  have d:=Dq m a i ω;have b:=ar (xs:=m.T) (i:=i) ω;have c:=ar (xs:=m.g) (i:=i) ω;rw[rM b,rQ c];simp only[I5,I2];show _=bQ m i+((nth m.T i).length+(nth m.g i).length);omega
theorem xi{m:aI}(h:bG m=true):(aY m).length<=30:=by grind [Dq,sS,bG]
def Kj{m:aI}(d:aI.wf m):∀a∈aY m,mY a:=by
 intro a b;unfold aY at b;split at b
 ·rcases v5.1 b with h|h
  ·obtain⟨l,c,h⟩:=List.mem_flatMap.1 h
   obtain⟨p,e,rfl⟩:=O8.1 h;exact((d.1.2 l c).2 p e).2
  obtain⟨l,c,h⟩:=List.mem_flatten.1 h;exact(d.2.2 l c).2 a h
 cases b
theorem QS(h1:h.R.all (gq h)=false):lR h=false:=by grind [lR,lK]
theorem RE(h1:h.a1.q.all (jx h)=false):lR h=false:=by grind [lR,lK]
theorem R0(h1:(aY h.e).all (nl h)=false):lR h=false:=by grind [lR,lK]
theorem Rc(a:i<(holders h).length)(b:nth (holders h) i∈(holders h).take i):lR h=false:=by
 have c:decide (holders h).Nodup=false:=T4 (S:=(holders h).take i) (p:=nth (holders h) i) (by
   have:=ar a;have e:(holders h).take i++[nth (holders h) i]=(holders h).take (i+1):=by grind [OA]
   grind) b
 grind [lR]
variable{c:aB}
theorem zW(a:h.R[i]? = some c):((h.R.take (i+1)).flatMap λc=>c.W.flatten)=((h.R.take i).flatMap λc=>c.W.flatten)++c.W.flatten:=by grind [OA]
theorem DK{k:Nat}{l:List Int}(a:c.W[k]? = some l):(c.W.take (k+1)).flatten=(c.W.take k).flatten++l:=by grind [OA]
theorem NM(h:ac)(hs:ac.sml h)(hw:ac.wf h)(t:bD h.J h.H=true)(w:bG h.e=true)(U:∀c∈h.R,bE c=true):zzA 81 false [.val (some 24) (ac.enc .O h)] .one [B (lR h)]:=by
 obtain⟨-,-,E,F,V,W,X,Y,-⟩:=hs;obtain⟨-,-,-,-,-,Z,hwm,hwq,-⟩:=hw;have hlo:h.K.length<=1048576:=V.1;have hlc:h.R.length<=1048576:=W.1;have hlq:h.a1.q.length<=1048576:=Y.1;have hfl:=xi w;have hfw:=Kj hwm;have y:∀a c,mY a->zzA 201 false [.val (some 24) (ac.enc .O h),.vI a,.vI c] .one [B (dR h a c)]:=λa c ha=>Nb h a c E F t ha
 refine fO 159 [(16,8,[63,64,65,66,67,68,69,70]),(22,17,[86,87,88,89,90,91,92,93,94,95,96,97,98,99,100,101,102]),(29,7,[122,123,124,125,126,127,128]),(35,8,[142,143,144,145,146,147,148,149])] Tryz.func81 rfl ?_
 refine σP ?_
 refine oA (ι:=Nat × List Int) (λi=>[(1,bS (ac.enc .O h)),(3,bC (aE .own i.2)),(4,fN (i.1))]) (λi=>i.1<=h.K.length/\i.2=(h.K.take i.1).map (·.Addr)) (λi=>h.K.length - i.1) ((0,[])) ψ λi u=>?_
 obtain⟨i,S⟩:=i;obtain⟨u,O⟩:=u;simp only at u O |-;have hSl:S.length=i:=ψ
 by_cases li:i<h.K.length
 ·have C:=ar li
  repeat'(first|refine gE ?_|refine Cb cN (λr l=>by rw[z3.1 l];rfl) (by simp[bu,f6]) kd (by simp only[I2];exact zc kd qs) rfl ?_)
  ((conv=>whnf)
   refine CP (i+1,S++[(nth h.K i).Addr]) ⟨(by simp only;omega),(by grind [OA])⟩ (by simp only;omega) ?_
   (exact wD))
 obtain rfl:i=h.K.length:=ω
 rw[O9]at O
 refine σE ?_
 refine oA (ι:=Nat × List Int) (λi=>[(1,bS (ac.enc .O h)),(3,bC (aE .own i.2)),(5,fN (i.1))]) (λi=>i.1<=h.R.length/\i.2=S++((h.R.take i.1).flatMap λc=>c.W.flatten)/\(h.R.take i.1).all (gq h)=true/\i.2.length<=1048576+32*i.1) (λi=>h.R.length - i.1) ((0,S)) ψ λi u=>?_
 obtain⟨i,S2⟩:=i;obtain⟨hi2,n,ai,G⟩:=u;simp only at hi2 n ai G |-;by_cases li2:i<h.R.length
 ·have C:=ar li2
  obtain⟨h4,h8⟩:=zU (U _ (ax li2));have hwl:=Z.2 _ (ax li2)
  refine σE ?_
  refine oA (ι:=Nat × List Int) (λk=>[(1,bS (ac.enc .O h)),(3,bC (aE .own k.2)),(5,fN i),(6,fN (k.1))]) (λk=>k.1<=(nth h.R i).W.length/\k.2=S2++((nth h.R i).W.take k.1).flatten/\d9 k.1 (wJ h (nth h.R i))=true/\k.2.length<=S2.length+8*k.1) (λk=>(nth h.R i).W.length - k.1) ((0,S2)) (⟨I1 _,by simp,rfl,by simp⟩) λk hk=>?_
  obtain⟨k,P⟩:=k;obtain⟨hk,H,ak,hb3⟩:=hk;simp only at hk H ak hb3 |-;by_cases Q:k<(nth h.R i).W.length
  ·have hy:=ar Q
   have hl8:=h8 _ (ax Q);have hwa:=(hwl.2 _ (ax Q)).2
   refine σE ?_
   refine oA (ι:=Nat × List Int) (λj=>[(1,bS (ac.enc .O h)),(3,bC (aE .own j.2)),(5,fN i),(6,fN k),(7,bC (aE .O (nth (nth h.R i).W k))),(8,fN (j.1))]) (λj=>j.1<=(nth (nth h.R i).W k).length/\j.2=P++(nth (nth h.R i).W k).take j.1/\((nth (nth h.R i).W k).take j.1).all (λa=>dR h a (k:Nat))=true) (λj=>(nth (nth h.R i).W k).length - j.1) ((0,P)) ψ λj hj=>?_
   obtain⟨j,S4⟩:=j;obtain⟨hj,J,R⟩:=hj;simp only at hj J R |-;have hl4:S4.length=P.length+j:=ψ
   by_cases lj:j<(nth (nth h.R i).W k).length
   ·have d:=ar lj
    have b:=y (nth (nth (nth h.R i).W k) j) (k:Nat) ψ;cases g:dR h (nth (nth (nth h.R i).W k) j) (k:Nat)<;>rw[g]at b
    ·refine σE ?_
     exact bx ((QS (iL C (by unfold gq;exact cI Q (iL d g)))).symm)
    repeat'(first|refine gE ?_|refine Cb cN (λr l=>by rw[z3.1 l];rfl) (by simp[bu,f6]) kd (by show _*8<=_;simp;omega) rfl ?_)
    ((conv=>whnf)
     refine CP (j+1,S4++[nth (nth (nth h.R i).W k) j]) ⟨(by simp only;omega),(by grind [OA]),dr d R g⟩ (by simp only;omega) ?_
     (exact wD))
   obtain rfl:j=(nth (nth h.R i).W k).length:=ω
   rw[O9]at J R
   refine σE ?_
   (exact dt (k+1,S4) ⟨(by simp only;omega),(by grind [DK]),cm ak R,(by simp only;omega)⟩)
  obtain rfl:k=(nth h.R i).W.length:=ω
  rw[O9]at H
  refine σE ?_
  (exact dt (i+1,P) ⟨(by simp only;omega),(by grind [zW]),dr C ai ak,(by simp only;omega)⟩)
 obtain rfl:i=h.R.length:=ω
 rw[O9]at n ai
 refine σE ?_
 refine oA (ι:=Nat × List Int) (λq=>[(1,bS (ac.enc .O h)),(3,bC (aE .own q.2)),(9,fN (q.1))]) (λq=>q.1<=h.a1.q.length/\q.2=S2++(h.a1.q.take q.1).map (·.Addr)/\(h.a1.q.take q.1).all (jx h)=true) (λq=>h.a1.q.length - q.1) ((0,S2)) ψ λq K=>?_
 obtain⟨q,L⟩:=q;obtain⟨D,o,aq⟩:=K;simp only at D o aq |-;have hl5:L.length=S2.length+q:=ψ
 by_cases T:q<h.a1.q.length
 ·have d:=ar T
  have b:=y (nth h.a1.q q).Addr (nth h.a1.q q).Z (hwq.2.2 _ (ax T)).1;cases g:dR h (nth h.a1.q q).Addr (nth h.a1.q q).Z<;>rw[g]at b
  ·refine σE ?_
   exact bx ((RE (iL d g)).symm)
  repeat'(first|refine gE ?_|refine Cb cN (λr l=>by rw[z3.1 l];rfl) (by simp[bu,f6]) kd (by show _*8<=_;simp;omega) rfl ?_)
  ((conv=>whnf)
   refine CP (q+1,L++[(nth h.a1.q q).Addr]) ⟨(by simp only;omega),(by grind [OA]),dr d aq g⟩ (by simp only;omega) ?_
   (exact wD))
 obtain rfl:q=h.a1.q.length:=ω
 rw[O9]at o aq
 repeat'(first|refine gE ?_|refine CF (EZ h.e X) ?_)
 refine oA (ι:=Nat × List Int) (λq=>[(1,bS (ac.enc .O h)),(3,bC (aE .own q.2)),(10,bC (aE .own (aY h.e))),(11,fN (q.1))]) (λq=>q.1<=(aY h.e).length/\q.2=L++(aY h.e).take q.1/\((aY h.e).take q.1).all (nl h)=true) (λq=>(aY h.e).length - q.1) ((0,L)) ψ λq K=>?_
 obtain⟨q,e⟩:=q;obtain⟨D,p,aq6⟩:=K;simp only at D p aq6 |-;have hl6:e.length=L.length+q:=ψ
 by_cases T:q<(aY h.e).length
 ·have d:=ar T
  have b:=y (nth (aY h.e) q) (-1) ψ;cases g:dR h (nth (aY h.e) q) (-1)<;>rw[g]at b
  ·refine σE ?_
   exact bx ((R0 (iL d g)).symm)
  repeat'(first|refine gE ?_|refine Cb cN (λr l=>by rw[z3.1 l];rfl) (by simp[bu,f6]) kd (by show _*8<=_;simp;omega) rfl ?_)
  ((conv=>whnf)
   refine CP (q+1,e++[nth (aY h.e) q]) ⟨(by simp only;omega),(by grind [OA]),dr d aq6 g⟩ (by simp only;omega) ?_
   (exact wD))
 obtain rfl:q=(aY h.e).length:=ω
 rw[O9]at p aq6;have M:e=holders h:=by rw[p,o,n,O];rfl
 have hheld:lK h=true:=by grind [lK]
 have hbig:e.length<=100000000:=ω
 clear p o n O hSl hl5 G hl6
 refine σE ?_
 refine Lp.fz 3 (ι:=Nat) (λi=>[(1,bS (ac.enc .O h)),(3,bC (aE .O e)),(12,fN i)]) (λi=>i<=e.length/\(e.take i).Nodup) (λi=>e.length - i) 0 ?_ ψ λi u=>?_
 ·(repeat'(first|exact tV1|rfl|exact CK rfl (show RB (cP (aE .own e)) (aE .O e) by rw[eI];exact lX _)|refine CK ?_ ?_))
 obtain⟨u,N⟩:=u;by_cases lj:i<e.length
 ·have d:=ar lj
  have htl:(e.take i).length=i:=ψ
  repeat'(first|refine gE ?_|refine gS (λK=>?_) (λK=>?_)|refine CZ i rfl kd (λr l=>by obtain⟨z,-,rfl⟩:=O8.1 l;rfl) (C8 ..) ?_|refine CF (qw (e.take i) _ ω) ?_)
  all_goals first
   | exact bx ((by rw[M]at *;exact(Rc (by assumption) (by assumption)).symm))
   | ((conv=>whnf);exact dt (i+1) ⟨ω,by rw[OA,d];exact nP N (by assumption)⟩)
 obtain rfl:i=e.length:=ω
 rw[O9]at N;have hlv:=G9 h.J h.H 512
 repeat'(first|refine gE ?_|refine CF (D5 h.J h.H E F t) ?_)
 exact bx ((by grind [lR]))
set_option maxHeartbeats 8000000
def ef(h:ac):Bool:=(bG h.e&&decide (h.R.length=h.e.T.length))&&hB h.a1
def fw(h:ac):Bool:=((((((pK h&&z7 h)&&ef h)&&oW h)&&h.R.all bE)&&cv h)&&(iC h&&lR h))&&xW h
theorem LJ(h:ac)(V:ac.sml h)(W:ac.wf h):zzA 29 false [.val (some 24) (ac.enc .O h)] .one [B (fw h)]:=by
 have L:=V;have M:=W;obtain⟨u,w,b,j,N,y,C,D,E⟩:=V;obtain⟨-,-,-,-,O,hwc,hwm,hwq,-⟩:=W;have l:Ak h:=u.1.2;have hpn:fT h<=1048576:=l.1;have P:h.K.length<=1048576:=N.1;have Q:h.R.length<=1048576:=y.1;have hlq:h.a1.q.length<=1048576:=D.1;have hlb:h.e.T.length<=1048576:=C.1.1;have d:=lL h.G u;have e:=pN (fT h) h.b ω w;have g:=pG h.J h.H b j;have r:=Jz h b l;have F:=pf h.e C;have R:=sI h.a1 D;cases X:aH h.G<;>rw[X]at d
 ·refine fO 150 [(8,10,[67,68,69,70,71,72,73,74,75,76])] Tryz.func29 rfl ?_
  repeat'(first|refine gP ?_|refine gS (λa=>?_) (λa=>?_)|fail)
  all_goals first
   | exact bx ((by unfold fw pK;rw[X];simp))
   |(exfalso;omega)
 cases Y:bN (fT h) h.b<;>rw[Y]at e
 ·refine fO 150 [(8,10,[67,68,69,70,71,72,73,74,75,76])] Tryz.func29 rfl ?_
  repeat'(first|refine gP ?_|refine gS (λa=>?_) (λa=>?_)|fail)
  all_goals first
   | exact bx ((by unfold fw pK;rw[Y];simp))
   |(exfalso;omega)
 cases G:bD h.J h.H<;>rw[G]at g
 ·refine fO 150 [(8,10,[67,68,69,70,71,72,73,74,75,76])] Tryz.func29 rfl ?_
  repeat'(first|refine gP ?_|refine gS (λa=>?_) (λa=>?_)|fail)
  all_goals first
   | exact bx ((by unfold fw pK;rw[G];simp))
   |(exfalso;omega)
 have n:=Lb h b j l w G;cases Z:pages0 h<;>rw[Z]at n
 ·refine fO 150 [(8,10,[67,68,69,70,71,72,73,74,75,76])] Tryz.func29 rfl ?_
  repeat'(first|refine gP ?_|refine gS (λa=>?_) (λa=>?_)|fail)
  all_goals first
   | exact bx ((by unfold fw pK;rw[Z];simp))
   |(exfalso;omega)
 cases e5:z7 h<;>rw[e5]at r
 ·refine fO 150 [(8,10,[67,68,69,70,71,72,73,74,75,76])] Tryz.func29 rfl ?_
  repeat'(first|refine gP ?_|refine gS (λa=>?_) (λa=>?_)|fail)
  all_goals first
   | exact bx ((by unfold fw ;rw[e5];simp))
   |(exfalso;omega)
 cases S:bG h.e<;>rw[S]at F
 ·refine fO 150 [(8,10,[67,68,69,70,71,72,73,74,75,76])] Tryz.func29 rfl ?_
  repeat'(first|refine gP ?_|refine gS (λa=>?_) (λa=>?_)|fail)
  all_goals first
   | exact bx ((by unfold fw ef;rw[S];simp))
   |(exfalso;omega)
 by_cases T:h.R.length=h.e.T.length;rotate_left
 ·refine fO 150 [(8,10,[67,68,69,70,71,72,73,74,75,76])] Tryz.func29 rfl ?_
  repeat'(first|refine gP ?_|refine gS (λa=>?_) (λa=>?_)|fail)
  all_goals first
   | exact bx ((by unfold fw ef;rw[C1 T];simp))
   |(exfalso;omega)
 cases e7:hB h.a1<;>rw[e7]at R
 ·refine fO 150 [(8,10,[67,68,69,70,71,72,73,74,75,76])] Tryz.func29 rfl ?_
  repeat'(first|refine gP ?_|refine gS (λa=>?_) (λa=>?_)|fail)
  all_goals first
   | exact bx ((by unfold fw ef;rw[e7];simp))
   |(exfalso;omega)
 have hlay:pK h=true:=by grind [pK]
 have hmc:ef h=true:=by grind [ef]
 refine fO 150 [(8,10,[67,68,69,70,71,72,73,74,75,76])] Tryz.func29 rfl ?_
 repeat'(first|refine gB ?_|refine gS (λa=>?_) (λa=>?_)|fail)
 all_goals try(exfalso;omega)
 (conv=>whnf)
 refine gn h.a1.q.length (λi=>[(1,bS (ac.enc .O h)),(3,fN i)]) (λi=>(h.a1.q.take i).all (λx=>decide (x.b7<=h.b1))=true) ψ λi hi=>?_
 obtain⟨hi,ai⟩:=hi;by_cases li:i<h.a1.q.length
 ·have p:=ar li
  repeat'(first|refine gE ?_|refine gS (λa=>?_) (λa=>?_)|fail)
  all_goals first
   | exact bx ((by unfold fw oW;rw[iL p (C1 ω)];simp))
   | ((conv=>whnf);exact dt (i+1) ⟨ω,dr p ai (O0 ω)⟩)
 have hsi:oW h=true:=r9 ω ai
 refine σE ?_
 refine gn h.R.length (λk=>[(1,bS (ac.enc .O h)),(4,fN k)]) (λk=>(h.R.take k).all bE=true) ψ λk hk=>?_
 obtain⟨hk,ak⟩:=hk;by_cases lk:k<h.R.length
 ·have p:=ar lk
  have U:=rn (nth h.R k) (y.2 _ (ax lk));cases e8:bE (nth h.R k)<;>rw[e8]at U
  ·refine σE ?_
   exact bx ((by grind [fw]))
  refine σE ?_
  (exact dt (k+1) ⟨ω,dr p ak e8⟩)
 have hca:h.R.all bE=true:=r9 ω ak;have q:=Pe h b j G P Q (λo ho=>(O.2 o ho).2.1);have c10:=NM h L M G S ψ;have c11:=Rp h.a5 E;have c12:=Du h.a5 E;have c13:=lO h h.a5.d.b0 b.1;have c14:=lO h h.a5.d.b2 b.1;by_cases hn:cv h=true;rotate_left
 ·have H:cv h=false:=by simpa using hn
  have c:=H;unfold cv at c;rw[v9]at c;cases K:iC h<;>rw[K]at q<;>cases e10:lR h<;>rw[e10]at c10
  all_goals
   repeat'(first|refine gE ?_|refine gS (λa=>?_) (λa=>?_)|refine CF (aP _ _ _) ?_)
   all_goals first
    | exact bx ((by unfold fw;rw[H];simp))
    |(exfalso;omega)
 have c:=hn;unfold cv at c;rw[C0]at c;cases K:iC h<;>rw[K]at q
 ·repeat'(first|refine gE ?_|refine gS (λa=>?_) (λa=>?_)|refine CF (aP _ _ _) ?_)
  all_goals first
   | exact bx ((by unfold fw;rw[K];simp))
   |(exfalso;omega)
 cases e10:lR h<;>rw[e10]at c10
 ·repeat'(first|refine gE ?_|refine gS (λa=>?_) (λa=>?_)|refine CF (aP _ _ _) ?_)
  all_goals first
   | exact bx ((by unfold fw;rw[e10];simp))
   |(exfalso;omega)
 have J:fw h=xW h:=by grind [fw]
 rw[J];unfold xW;cases em:h.a2
 ·repeat'(first|refine gE ?_|refine gS (λa=>?_) (λa=>?_)|refine CF (aP _ _ _) ?_|refine Bf.f em ?_)
  grind
 cases e12:kN h.a5<;>rw[e12]at c12
 all_goals
  repeat'(first|refine gE ?_|refine gS (λa=>?_) (λa=>?_)|refine CF (aP _ _ _) ?_|refine Bf.t em ?_)
  all_goals first
   | exact bx (ψ)
   |(exfalso;omega)
set_option maxHeartbeats 4000000
def sorted(xs:List Int):List Int:=xs.mergeSort λx y=>decide (x<=y)
theorem DW(xs:List Int):(sorted xs).length=xs.length:=List.length_mergeSort ..
theorem P4{w a:World}{g:Nat}{d:Array Int}{h:Array Obj}{c:Array Value}{e:TypeId}{i:Nat × Nat}(j:w.heap[g]? = some (.cells c e i))(k:a=Sort.grow (Sort.putRow (Value.int .i64) (Sort.ahead w n) g 0 d) h) :
  a.os=w.os/\a.tape=w.tape/\a.output=w.output/\w.heap.size<=a.heap.size/\(∀b,b<w.heap.size->b≠g->a.heap[b]? = w.heap[b]?)/\a.heap[g]? = some (.cells (Sort.putCells (Value.int .i64) 0 d c) e i):=by
 subst k;have f:g<w.heap.size:=ψ
 have l:∀b,b<w.heap.size->(Sort.grow (Sort.putRow (Value.int .i64) (Sort.ahead w n) g 0 d) h).heap[b]? = if g=b then(w.heap[b]?).map (Sort.onCells (Sort.putCells (Value.int .i64) 0 d)) else w.heap[b]?:=λb o=>by grind [Go.Sort.heap_grow_old,Go.Sort.putRow,Go.Sort.mapBlock,Go.Sort.ahead]
 refine⟨rfl,rfl,rfl,?_,λb o p=>?_,?_⟩
 ·grind
 ·grind
 rw[l g f,CJ rfl,j];rfl
theorem WP(d:Array Int)(c:Array Value)(q:Nat):(Sort.putCells (Value.int .i64) 0 d c)[q]? = if q<d.size then(c[q]?).map (λ_=>.int .i64 d[q]!) else c[q]?:=by grind [Go.Sort.putCells]
theorem row1{w:World}{S Y:am}{c:C}{v:Value}(h:di w S Y c v):cz w S Y [c] (λ_=>v):=by
 refine⟨λ_=>Y,λj a b=>?_,λ_ _ _ _ h=>h,ψ⟩
 all_goals grind
def ZQ(Y:am):Nat->am
 | 0=>Y
 | _+1=>NO
variable{j:Nat}
theorem UN(xs:List Int)(a:j<xs.length):xs.toArray[j]! = xs[j]:=ψ
theorem WV(xs:List Int)(hl:xs.length<=1048576*64):zzB 394 false [.mut none (aE .own xs)] [.mut none (aE .own (sorted xs))] (.tup []) []:=by
 refine⟨⟨_,Tryz.func394,by kernel_rfl,by kernel_rfl⟩,λw S V vs hS hV hVV O=>?_⟩
 match vs,O with
 | [v],⟨O,_⟩=>
  have y:=bA.rep1 (show bA w S (V 0) none [C.s .own (xs.map (rI .own))] v from O);generalize D:C.s .own (xs.map (rI .own))=cc at y;cases y with
  | nil _ o a P=>
   cases hcc0:xs with
   | cons x xs'=>grind
   | nil=>
    refine(Tryz.slices_Sort_int_none a 0 w).mono λe p ⟨Q,E⟩=>?_
    subst E;refine⟨.tuple #[],Q,Ck _ _,NO,λ_=>NO,NO,λ_ _ h=>h.elim,λ_ _ _ h=>h.elim,λ_ _ h=>h.elim,λ_ _ _ _ _ h=>h.elim,λ_ _ _ h=>h.elim,λ_ _ h=>h.elim,λ_ _ _ h=>h.elim,⟨#[],rfl,tV1,rfl⟩,cz.nil _ _ _ _,⟨⟨rfl,λ_=>.slice a 0 0,rfl,row1 (by rw[show sorted []=[] from List.mergeSort_nil ..];exact .nil _ .own _ tV1)⟩,tV1⟩⟩
  | suf _ o g off k n t G u f P=>cases D;exact P.elim
  | own _ o g k n t G u f P hn hk H J hF hu hf hd hc=>
   cases D;have R:n=xs.length:=ψ
   have T:0<xs.length:=ω
   have U:k=1:=by
    have:=hk (rI .own xs[0]) ψ;exact this.symm
   subst U R;have B:∀j (l:j<xs.length),cel w g j=some (.int .i64 xs[j]):=λj l=>by
    have h1:=hu j ω;have W:=hc j 0 (rI .own xs[j]) (I xs[j]) ψ rfl;rw[Nat.mul_one,Nat.add_zero]at W;rw[h1];generalize u j=z at W;cases W
    rfl
   have X:g<w.heap.size:=ψ
   obtain⟨c,e0,fr,hg,-⟩:=Sort.cells_of_cell? (B 0 T);have hH:Sort.Holds (Value.int .i64) w g 0 xs.toArray:=λj l=>by
    have K:j<xs.length:=by simpa using l
    refine⟨?_,?_⟩
    ·rw[UN xs K,SD];exact B j K
    rw[SD];exact O1 Prod.fst (hF j ω).2.2
   refine(Tryz.slices_Sort_int g 0 t xs w hH X ω).mono λe p ⟨Q,m,os,E⟩=>?_
   obtain⟨q1,q2,q3,q4,q5,q6⟩:=P4 hg E;have hsl:=DW xs;have hcel:∀q,cel w g q=c[q]?:=λq=>by grind [Go.World.cell?]
   have Y:∀q,cel p g q=if q<xs.length then(c[q]?).map (λ_=>.int .i64 (sorted xs).toArray[q]!) else c[q]?:=λq=>by grind [WP,Go.World.cell?,sorted]
   have d:∀q (Z:q<xs.length),cel p g q=some (.int .i64 ((sorted xs)[q]'(ω))):=ψ
   have L:∀q,fro p g q=fro w g q:=λq=>by
    refine Prod.ext ?_ ?_
    ·grind [Go.World.frozen?]
    grind [mp,Go.Sort.putCells]
   have hother:∀b,b<w.heap.size->b≠g->∀o,cel p b o=cel w b o/\fro p b o=fro w b o:=λb hb M o=>by grind [Go.World.cell?,Go.World.frozen?,mp]
   have F:bK (λb o=>∃i,V i b o) w p:=by
    refine⟨q1,q2,q3,q4,ψ,λb o hb hn=>?_,λb o hb hn=>?_⟩
    all_goals grind
   refine⟨.tuple #[],Q,F,NO,ZQ (V 0),NO,λ_ _ h=>h.elim,λi b o h=>?_,λ_ _ h=>h.elim,λi i' M b o h h'=>?_,λ_ _ _ h=>h.elim,λ_ _ h=>h.elim,λ_ _ _ _ h=>h.elim,⟨#[],rfl,tV1,rfl⟩,cz.nil _ _ _ _,⟨⟨rfl,λ_=>.slice (some ⟨g,0,none⟩) xs.length t,rfl,row1 ?_⟩,tV1⟩⟩
   ·cases i with
    | zero=>exact .inl ⟨0,h⟩
    | succ i=>exact h.elim
   ·cases i with
    | zero=>
     cases i' with
     | zero=>exact M rfl
     | succ i'=>exact h'.elim
    | succ i=>exact h.elim
   show di p _ (V 0) _ _;refine .own _ .own g 1 xs.length t _ (λq=>(cel p g q).getD undef) (λ_=>NO) tV1 ψ (λr hr=>by obtain⟨z,-,rfl⟩:=O8.1 hr;rfl) H J (λq Z=>?_) (λq Z=>?_) (λ_ _ _ _ h=>h.elim) (λ_ _ _ _ _ _ _ h=>h.elim) (λi j r c2 N l=>?_)
   ·obtain⟨a1,⟨z,a2,a3⟩,a4⟩:=hF q Z
    refine⟨a1,?_,(L q).trans a4⟩;by_cases hqx:q<xs.length
    ·exact⟨_,d q hqx,rfl⟩
    grind
   ·grind
   rw[C5]at N;have hil:i<(sorted xs).length:=ψ
   rw[z4 hil]at N;simp only[S9,C2]at N;subst N
   match j,l with
   | 0,l=>
    simp only[rI,List.getElem?_cons_zero,C2]at l;subst l;simp only[Nat.mul_one,Nat.add_zero,d i ω,Option.getD_some];exact .v _ _ rfl
   | j+1,l=>simp[rI]at l
  | _=>cases D
set_option maxHeartbeats 8000000
def lN(s:aA)(k:Nat):Int:=16*s.S+(k:Nat)*csz s.Z
def fL(s:aA)(n:Nat):List Int:=((List.range n).filter λk=>bo s.a6 (k:Nat)).map (lN s)
variable{s:aA}
theorem HX(h:bo s.a6 (n:Nat)=true):fL s (n+1)=fL s n++[lN s n]:=by grind [List.range_succ,fL]
theorem M5(h:bo s.a6 (n:Nat)=false):fL s (n+1)=fL s n:=by grind [List.range_succ,fL]
theorem x9(s:aA)(n:Nat):(fL s n).length<=n:=by grind [fL]
def gW(sp:List aA):List Int:=sp.flatMap λs=>fL s (slots s.Z).toNat
def live0(sp:List aA)(la:List a8):List Int:=gW sp++la.map λl=>16*l.S
def tt(sp:List aA)(la:List a8):List Int:=sorted (live0 sp la)
theorem xH(k:Int):0<=slots k/\slots k<=16:=by grind [slots]
def He{k:Int}(h:0<=k/\k<=3):slots k*csz k=16:=by
 obtain rfl|rfl|rfl|rfl:k=0\/k=1\/k=2\/k=3:=ω
 all_goals decide
theorem DE(h:sp[i]? = some s):gW (sp.take (i+1))=gW (sp.take i)++fL s (slots s.Z).toNat:=by grind [OA,gW]
def uT(s:aA)(k:Nat)(a:bq s=true)(i:(k:Int)<slots s.Z):zzA 393 false [.val (some 3) (aA.enc .O s),.vI (k:Nat)] .one [I (lN s k)]:=by
 have b:=iM s;have c:=dB s.Z;have g:=ik s.Z;rw[a]at b;have d:=aO a;have j:=xH s.Z;rcases dm ⟨d.2.2.1,d.2.2.2⟩ with e|e|e|e<;>rw[e]at c
 all_goals
  refine fO 26 [(3,9,[17,18,19,20,21,22,23,24,25])] Tryz.func393 rfl ?_
  repeat'(first|refine gE ?_|refine gS (λh=>?_) (λh=>?_)|refine CF (aG _ 0 _) ?_)
  all_goals exact gm (by unfold lN;rw[e];omega)
theorem AM(sp:List aA)(la:List a8)(c:dl sp)(d:du la)(a:bD sp la=true):zzA 261 false [.val none (bP .O sp),.val none (bV .O la)] .one (aE .own (tt sp la)):=by
 have D:=c.1;have E:=d.1;have B:=vB sp la c d;rw[a]at B;obtain⟨o,F,-⟩:=gf a;refine fP 56 [(394,[1])] [] Tryz.func261 rfl ?_ (.inr (bH _))
 refine σP ?_
 refine oA (ι:=Nat × List Int) (λi=>[(1,bC (bV .O la)),(5,bC (aE .own i.2)),(16,bC (bP .O sp)),(17,fI sp.length),(18,fN (i.1))]) (λi=>i.1<=sp.length/\i.2=gW (sp.take i.1)/\i.2.length<=16*i.1) (λi=>sp.length - i.1) ((0,[])) (⟨I1 _,rfl,I1 _⟩) λi e=>?_
 obtain⟨i,S⟩:=i;obtain⟨e,p,G⟩:=e;simp only at e p G |-;by_cases j:i<sp.length
 ·have n:=ar j
  have g:bq (nth sp i)=true:=Xf o j;have H:=xH (nth sp i).Z;have q:=gx g
  refine σE ?_
  refine oA (ι:=Nat × List Int) (λk=>[(1,bC (bV .O la)),(5,bC (aE .own k.2)),(7,bS (aA.enc .O (nth sp i))),(8,fN (k.1)),(16,bC (bP .O sp)),(17,fI sp.length),(18,fN i)]) (λk=>k.1<=(slots (nth sp i).Z).toNat/\k.2=S++fL (nth sp i) k.1) (λk=>(slots (nth sp i).Z).toNat - k.1) ((0,S)) (⟨I1 _,by simp[fL]⟩) λk t=>?_
  obtain⟨k,S2⟩:=k;obtain⟨t,b⟩:=t;simp only at t b |-;have J:=x9 (nth sp i) k;have h:S2.length=S.length+(fL (nth sp i) k).length:=ψ
  by_cases M:k<(slots (nth sp i).Z).toNat
  ·have u:=jb (nth sp i).a6 (k:Nat) q.2
   cases K:bo (nth sp i).a6 (k:Nat)<;>rw[K]at u
   ·repeat'(first|refine gE ?_|refine CF (ik _) ?_)
    (exact dt (k+1,S2) ⟨(by simp only;omega),(by grind [M5])⟩)
   repeat'(first|refine gE ?_|refine CF (ik _) ?_|refine CF (uT (nth sp i) k g ω) ?_|refine Cb cN (λr w=>by rw[z3.1 w];rfl) (by simp[bu,f6]) kd (by show _*8<=_;simp;omega) rfl ?_)
   ((conv=>whnf)
    refine CP (k+1,S2++[lN (nth sp i) k]) ⟨(by simp only;omega),(by grind [HX])⟩ (by simp only;omega) ?_
    (exact wD))
  obtain rfl:k=(slots (nth sp i).Z).toNat:=ω
  repeat'(first|refine gE ?_|refine CF (ik _) ?_)
  (exact dt (i+1,S2) ⟨(by simp only;omega),(by grind [DE]),(by simp only;omega)⟩)
 obtain rfl:i=sp.length:=ω
 rw[O9]at p
 refine σE ?_
 refine oA (ι:=Nat × List Int) (λi=>[(5,bC (aE .own i.2)),(40,bC (bV .O la)),(41,fI la.length),(42,fN (i.1))]) (λi=>i.1<=la.length/\i.2=S++(la.take i.1).map (λl=>16*l.S)) (λi=>la.length - i.1) ((0,S)) ψ λi e=>?_
 obtain⟨i,S2⟩:=i;obtain⟨y,b⟩:=e;simp only at y b |-;have h:S2.length=S.length+i:=ψ
 by_cases j:i<la.length
 ·have n:=ar j
  have L:=yJ a n
  repeat'(first|refine gE ?_|refine Cb cN (λr w=>by rw[z3.1 w];rfl) (by simp[bu,f6]) kd (by show _*8<=_;simp;omega) rfl ?_)
  ((conv=>whnf)
   refine CP (i+1,S2++[16*(nth la i).S]) ⟨(by simp only;omega),(by grind [OA])⟩ (by simp only;omega) ?_
   (repeat'(first|exact tV1|rfl|exact CK rfl (CK (O1 (C.s eL.own) (by simp[rI];omega)) tV1)|refine CK ?_ ?_)))
 obtain rfl:i=la.length:=ω
 rw[O9]at b
 repeat'(first|refine gE ?_|refine CO (WV S2 ω) (.inl rfl) ?_)
 show _=aE .own (sorted (gW sp++la.map λl=>16*l.S));rw[<-p,<-b];rfl
def uY(b:List (Int × Value))(L:List Int):Prop:=∀a,mlook b a (.int .i64 0)=.int .i64 (L.count a:Nat)
theorem Ro(c:List (Int × Value))(a b:Int)(v d:Value):mlook (mput c a v) b d=if a=b then v else mlook c b d:=by
 induction c with
 | nil=>grind [mput,mlook]
 | cons p c e=>
  grind [mput,mlook]
def inc(b:List (Int × Value))(L:List Int)(a:Int):List (Int × Value):=mput b a (.int .i64 ((L.count a:Nat)+1))
def Tc:uY [] []:=λ_=>rfl
theorem uN{d:List (Int × Value)}{L:List Int}(h:uY d L)(a:Int):uY (inc d L a) (L++[a]):=λb=>by
 unfold inc;rw[Ro,SB];by_cases c:a=b
 ·grind
 rw[CI c,h b,List.count_singleton,CI (by simpa using c)];rfl
theorem J5(h:ac)(d:dl h.J)(e:du h.H)(b:List (Int × Value))(L:List Int)(a c:Int)(g:uY b L)(n:L.length<=1000000000) :
  zzB 259 false [.vI a,.vI c,.ptr [.m b],.ptr (ac.enc .O h)] [.vI a,.vI c,.ptr [.m (inc b L a)],.ptr (ac.enc .O h)] .one [B (dR h a c)]:=by
 have j:=np h.J h.H a d e;obtain⟨i,-⟩:=qO h.J h.H a;have k:L.count a<=L.length:=List.count_le_length;unfold dR;generalize denotes h.J h.H a=w at j i |-;refine fM 41 [] [] [(0,0),(0,0),(0,0),(0,0)] Tryz.func259 rfl (λu q=>?_)
 repeat'(first|refine gP ?_|refine gS (λl=>?_) (λl=>?_)|refine Ml.mk (g a) ?_|refine Mu.mk (es':=inc b L a) rfl ?_|refine CQ (i (by assumption)).1 (aa (ar (i (by assumption)).2)) ?_)
 all_goals
  refine CN rfl ?_ ?_
  ·exact bx (ψ)
  exact wB
set_option maxHeartbeats 8000000
def wL(h:ac)(a:aJ):Bool:=jx h a&&decide (a.b7<=h.b1)
def qz(h:ac):List Int:=((cM h++h.a1.q.map (·.Addr))++aY h.e)++h.K.map (·.Addr)
def mg(h:ac):Bool:=((h.R.all (gq h)&&h.a1.q.all (wL h))&&(aY h.e).all (nl h))&&(tt h.J h.H).all λa=>decide ((qz h).count a=1)
theorem VU(h1:h.R.all (gq h)=false):mg h=false:=by grind [mg]
theorem QD(h1:h.a1.q.all (wL h)=false):mg h=false:=by grind [mg]
theorem W6(h1:(aY h.e).all (nl h)=false):mg h=false:=by grind [mg]
theorem WY(h1:((tt h.J h.H).all λa=>decide ((qz h).count a=1))=false):mg h=false:=by grind [mg]
theorem RX(h1:sp.length<=1048576)(h2:la.length<=1048576):(tt sp la).length<=100000000:=by
 have a:∀(l:List aA),(gW l).length<=16*l.length:=by
  intro l
  induction l with
  | nil=>exact I1 _
  | cons s l b=>
   have e:gW (s::l)=fL s (slots s.Z).toNat++gW l:=by grind [gW]
   have c:=xH s.Z
   grind [x9]
 grind [DW,tt,live0]
theorem D2(h:ac)(hs:ac.sml h)(N:bD h.J h.H=true)(F:bG h.e=true)(X:∀c∈h.R,bE c=true):zzA 114 false [.val (some 24) (ac.enc .O h)] .one [B (mg h)]:=by
 obtain⟨-,-,p,r,Y,Z,hsm,hsq,-⟩:=hs;have hlo:h.K.length<=1048576:=Y.1;have hlc:h.R.length<=1048576:=Z.1;have hlq:h.a1.q.length<=1048576:=hsq.1;have hfl:=xi F;have t:mg h=false->[B false]=[B (mg h)]:=λe=>by rw[e]
 refine fP 114 [(259,[0,0,2,2])] [] Tryz.func114 rfl ?_
 refine σP ?_
 refine oA (ι:=Nat × List (Int × Value) × List Int) (λi=>[(1,bS (ac.enc .O h)),(3,bS [.m i.2.1]),(4,.fn 259 [3,1]),(22,bC (hJ .O h.R)),(23,fI h.R.length),(24,fN (i.1))]) (λi=>i.1<=h.R.length/\uY i.2.1 i.2.2/\i.2.2=((h.R.take i.1).flatMap λc=>c.W.flatten)/\(h.R.take i.1).all (gq h)=true/\i.2.2.length<=32*i.1) (λi=>h.R.length - i.1) ((0,[],[])) (⟨I1 _,Tc,rfl,rfl,I1 _⟩) λi hi=>?_
 obtain⟨i,es,L⟩:=i;obtain⟨hi,O,hL,ai,hb⟩:=hi;simp only at hi O hL ai hb |-;by_cases li:i<h.R.length
 ·have U:=ar li
  obtain⟨h4,h8⟩:=zU (X _ (ax li))
  refine σE ?_
  refine oA (ι:=Nat × List (Int × Value) × List Int) (λk=>[(1,bS (ac.enc .O h)),(3,bS [.m k.2.1]),(4,.fn 259 [3,1]),(22,bC (hJ .O h.R)),(23,fI h.R.length),(24,fN i),(29,bC (g9 .O (nth h.R i).W)),(30,fI ((nth h.R i).W.length)),(31,fN (k.1))]) (λk=>k.1<=(nth h.R i).W.length/\uY k.2.1 k.2.2/\k.2.2=L++((nth h.R i).W.take k.1).flatten/\d9 k.1 (wJ h (nth h.R i))=true/\k.2.2.length<=L.length+8*k.1) (λk=>(nth h.R i).W.length - k.1) ((0,es,L)) (⟨I1 _,O,by simp,rfl,by simp⟩) λk hk=>?_
  obtain⟨k,es3,V⟩:=k;obtain⟨hk,E,P,ak,hb3⟩:=hk;simp only at hk E P ak hb3 |-;by_cases lk:k<(nth h.R i).W.length
  ·have hy:=ar lk
   have hl8:=h8 _ (ax lk)
   refine σE ?_
   refine oA (ι:=Nat × List (Int × Value) × List Int) (λj=>[(1,bS (ac.enc .O h)),(3,bS [.m j.2.1]),(4,.fn 259 [3,1]),(7,fN k),(22,bC (hJ .O h.R)),(23,fI h.R.length),(24,fN i),(29,bC (g9 .O (nth h.R i).W)),(30,fI ((nth h.R i).W.length)),(31,fN k),(36,bC (aE .O (nth (nth h.R i).W k))),(37,fI ((nth (nth h.R i).W k).length)),(38,fN (j.1))]) (λj=>j.1<=(nth (nth h.R i).W k).length/\uY j.2.1 j.2.2/\j.2.2=V++(nth (nth h.R i).W k).take j.1/\((nth (nth h.R i).W k).take j.1).all (λa=>dR h a (k:Nat))=true) (λj=>(nth (nth h.R i).W k).length - j.1) ((0,es3,V)) ψ λj hj=>?_
   obtain⟨j,es4,Q⟩:=j;obtain⟨hj,l,R,W⟩:=hj;simp only at hj l R W |-;have hl4:Q.length=V.length+j:=ψ
   by_cases lj:j<(nth (nth h.R i).W k).length
   ·have d:=ar lj
    have b:=J5 h p r es4 Q (nth (nth (nth h.R i).W k) j) (k:Nat) l ω;cases o:dR h (nth (nth (nth h.R i).W k) j) (k:Nat)<;>rw[o]at b
    ·refine σE ?_
     exact t (VU (iL U (by unfold gq;exact cI lk (iL d o))))
    refine σE ?_
    ((conv=>whnf)
     refine CP (j+1,inc es4 Q (nth (nth (nth h.R i).W k) j),Q++[nth (nth (nth h.R i).W k) j]) ⟨(by simp only;omega),uN l _,(by grind [OA]),dr d W o⟩ (by simp only;omega) ?_
     (exact wA))
   obtain rfl:j=(nth (nth h.R i).W k).length:=ω
   rw[O9]at R W
   refine σE ?_
   (exact dt (k+1,es4,Q) ⟨(by simp only;omega),l,(by grind [DK]),cm ak W,(by simp only;omega)⟩)
  obtain rfl:k=(nth h.R i).W.length:=ω
  rw[O9]at P
  refine σE ?_
  (exact dt (i+1,es3,V) ⟨(by simp only;omega),E,(by grind [zW]),dr U ai ak,(by simp only;omega)⟩)
 obtain rfl:i=h.R.length:=ω
 rw[O9]at hL ai
 refine σE ?_
 refine oA (ι:=Nat × List (Int × Value) × List Int) (λq=>[(1,bS (ac.enc .O h)),(3,bS [.m q.2.1]),(4,.fn 259 [3,1]),(52,bC (bY .O h.a1.q)),(53,fI h.a1.q.length),(54,fN (q.1))]) (λq=>q.1<=h.a1.q.length/\uY q.2.1 q.2.2/\q.2.2=L++(h.a1.q.take q.1).map (·.Addr)/\(h.a1.q.take q.1).all (wL h)=true) (λq=>h.a1.q.length - q.1) ((0,es,L)) ψ λq u=>?_
 obtain⟨q,es5,G⟩:=q;obtain⟨w,y,D,aq⟩:=u;simp only at w y D aq |-;have hl5:G.length=L.length+q:=ψ
 by_cases S:q<h.a1.q.length
 ·have d:=ar S
  have b:=J5 h p r es5 G (nth h.a1.q q).Addr (nth h.a1.q q).Z y ω;cases o:dR h (nth h.a1.q q).Addr (nth h.a1.q q).Z<;>rw[o]at b
  ·repeat'(first|refine gE ?_|refine gS (λu=>?_) (λu=>?_)|fail)
   all_goals exact t (QD (iL d (by unfold wL jx;rw[o];rfl)))
  repeat'(first|refine gE ?_|refine gS (λu=>?_) (λu=>?_)|fail)
  all_goals first
   |exact t (QD (iL d (by unfold wL jx;rw[o,C1 ω];rfl)))
   | ((conv=>whnf)
      refine CP (q+1,inc es5 G (nth h.a1.q q).Addr,G++[(nth h.a1.q q).Addr]) ⟨(by simp only;omega),uN y _,(by simp only;rw[D,OA,d,CB,SA];rfl),dr d aq (by unfold wL jx;rw[o,O0 ω];rfl)⟩ (by simp only;omega) ?_
      (exact wA))
 obtain rfl:q=h.a1.q.length:=ω
 rw[O9]at D aq
 repeat'(first|refine gE ?_|refine CF (Fh h.e hsm) ?_)
 refine oA (ι:=Nat × List (Int × Value) × List Int) (λq=>[(1,bS (ac.enc .O h)),(3,bS [.m q.2.1]),(4,.fn 259 [3,1]),(75,bC (aE .own (aY h.e))),(76,fI ((aY h.e).length)),(77,fN (q.1))]) (λq=>q.1<=(aY h.e).length/\uY q.2.1 q.2.2/\q.2.2=G++(aY h.e).take q.1/\((aY h.e).take q.1).all (nl h)=true) (λq=>(aY h.e).length - q.1) ((0,es5,G)) ψ λq u=>?_
 obtain⟨q,es6,H⟩:=q;obtain⟨w,C,J,aq6⟩:=u;simp only at w C J aq6 |-;have hl6:H.length=G.length+q:=ψ
 by_cases S:q<(aY h.e).length
 ·have d:=ar S
  have b:=J5 h p r es6 H (nth (aY h.e) q) (-1) C ω;cases o:dR h (nth (aY h.e) q) (-1)<;>rw[o]at b
  ·refine σE ?_
   exact t (W6 (iL d o))
  refine σE ?_
  ((conv=>whnf)
   refine CP (q+1,inc es6 H (nth (aY h.e) q),H++[nth (aY h.e) q]) ⟨(by simp only;omega),uN C _,(by grind [OA]),dr d aq6 o⟩ (by simp only;omega) ?_
   (exact wA))
 obtain rfl:q=(aY h.e).length:=ω
 rw[O9]at J aq6
 refine σE ?_
 refine oA (ι:=Nat × List (Int × Value) × List Int) (λq=>[(1,bS (ac.enc .O h)),(3,bS [.m q.2.1]),(87,bC (iU .O h.K)),(88,fI h.K.length),(89,fN (q.1))]) (λq=>q.1<=h.K.length/\uY q.2.1 q.2.2/\q.2.2=H++(h.K.take q.1).map (·.Addr)) (λq=>h.K.length - q.1) ((0,es6,H)) ψ λq u=>?_
 obtain⟨q,es7,K⟩:=q;obtain⟨w,g,M⟩:=u;simp only at w g M |-;have hl7:K.length=H.length+q:=ψ
 by_cases S:q<h.K.length
 ·have d:=ar S
  have hcl:K.count (nth h.K q).Addr<=K.length:=List.count_le_length
  repeat'(first|refine gE ?_|refine Ml.mk (g _) ?_|refine Mu.mk (es':=inc es7 K (nth h.K q).Addr) rfl ?_)
  ((conv=>whnf)
   refine CP (q+1,inc es7 K (nth h.K q).Addr,K++[(nth h.K q).Addr]) ⟨(by simp only;omega),uN g _,(by grind [OA])⟩ (by simp only;omega) ?_
   (exact wA))
 obtain rfl:q=h.K.length:=ω
 rw[O9]at M;have T:K=qz h:=by rw[M,J,D,hL];rfl
 have hlv:=RX p.1 r.1
 repeat'(first|refine gE ?_|refine CF (AM h.J h.H p r N) ?_)
 refine gn ((tt h.J h.H).length) (λn=>[(3,bS [.m es7]),(103,bC (aE .own (tt h.J h.H))),(104,fI ((tt h.J h.H).length)),(105,fN n)]) (λn=>((tt h.J h.H).take n).all (λa=>decide ((qz h).count a=1))=true) ψ λn hn=>?_
 obtain⟨hn,an⟩:=hn;by_cases ln:n<(tt h.J h.H).length
 ·have d:=ar ln
  rw[T]at g
  repeat'(first|refine gE ?_|refine gS (λu=>?_) (λu=>?_)|refine Ml.mk (g _) ?_)
  all_goals first
   |exact t (WY (iL d (C1 ω)))
   | ((conv=>whnf);exact dt (n+1) ⟨ω,dr d an (O0 ω)⟩)
 refine σE ?_
 exact bx ((by grind [mg]))
set_option maxHeartbeats 8000000
def lS(h:ac):Bool:=(((((((aH h.G&&bN (fT h) h.b)&&bD h.J h.H)&&(pages0 h&&tM h))&&ef h)&&h.R.all bE)&&(iC h&&mg h))&&cv h)&&xW h
theorem cW(h:ac)(P:ac.sml h):zzA 34 false [.val (some 24) (ac.enc .O h)] .one [B (lS h)]:=by
 have E:=P;obtain⟨n,o,b,g,F,p,q,G,r⟩:=P;have u:Ak h:=n.1.2;have hpn:fT h<=1048576:=u.1;have H:h.K.length<=1048576:=F.1;have J:h.R.length<=1048576:=p.1;have hlb:h.e.T.length<=1048576:=q.1.1;have hlp:h.a5.d.U.length<=1048576:=r;have d:=lH h.G n;have e:=pZ (fT h) h.b ω o;have i:=vB h.J h.H b g;have w:=pb h.e q;have K:=t7 h.a1 G;cases Q:aH h.G<;>rw[Q]at d
 ·refine fO 154 [] Tryz.func34 rfl ?_
  repeat'(first|refine gP ?_|refine gS (λa=>?_) (λa=>?_)|fail)
  all_goals first
   | exact bx ((by unfold lS ;rw[Q];simp))
   |(exfalso;omega)
 cases R:bN (fT h) h.b<;>rw[R]at e
 ·refine fO 154 [] Tryz.func34 rfl ?_
  repeat'(first|refine gP ?_|refine gS (λa=>?_) (λa=>?_)|fail)
  all_goals first
   | exact bx ((by unfold lS ;rw[R];simp))
   |(exfalso;omega)
 cases D:bD h.J h.H<;>rw[D]at i
 ·refine fO 154 [] Tryz.func34 rfl ?_
  repeat'(first|refine gP ?_|refine gS (λa=>?_) (λa=>?_)|fail)
  all_goals first
   | exact bx ((by unfold lS ;rw[D];simp))
   |(exfalso;omega)
 have j:=JZ h b g u o D;cases S:(pages0 h&&tM h)<;>rw[S]at j
 ·refine fO 154 [] Tryz.func34 rfl ?_
  repeat'(first|refine gP ?_|refine gS (λa=>?_) (λa=>?_)|fail)
  all_goals first
   | exact bx ((by unfold lS ;rw[S];simp))
   |(exfalso;omega)
 cases L:bG h.e<;>rw[L]at w
 ·refine fO 154 [] Tryz.func34 rfl ?_
  repeat'(first|refine gP ?_|refine gS (λa=>?_) (λa=>?_)|fail)
  all_goals first
   | exact bx ((by unfold lS ef;rw[L];simp))
   |(exfalso;omega)
 by_cases M:h.R.length=h.e.T.length;rotate_left
 ·refine fO 154 [] Tryz.func34 rfl ?_
  repeat'(first|refine gP ?_|refine gS (λa=>?_) (λa=>?_)|fail)
  all_goals first
   | exact bx ((by unfold lS ef;rw[C1 M];simp))
   |(exfalso;omega)
 cases T:hB h.a1<;>rw[T]at K
 ·refine fO 154 [] Tryz.func34 rfl ?_
  repeat'(first|refine gP ?_|refine gS (λa=>?_) (λa=>?_)|fail)
  all_goals first
   | exact bx ((by unfold lS ef;rw[T];simp))
   |(exfalso;omega)
 have hmc:ef h=true:=by grind [ef]
 refine fO 154 [] Tryz.func34 rfl ?_
 repeat'(first|refine gB ?_|refine gS (λa=>?_) (λa=>?_)|fail)
 all_goals try(exfalso;omega)
 (conv=>whnf)
 refine gn h.R.length (λk=>[(1,bS (ac.enc .O h)),(57,bC (hJ .O h.R)),(58,fI h.R.length),(59,fN k)]) (λk=>(h.R.take k).all bE=true) ψ λk U=>?_
 obtain⟨U,V⟩:=U;by_cases W:k<h.R.length
 ·have N:=ar W
  have O:=qQ (nth h.R k) (p.2 _ (ax W));cases X:bE (nth h.R k)<;>rw[X]at O
  ·refine σE ?_
   exact bx ((by grind [lS]))
  refine σE ?_
  (exact dt (k+1) ⟨ω,dr N V X⟩)
 have hca:h.R.all bE=true:=r9 ω V;have l:=Kl h b g H J;have c10:=D2 h E D L ψ;have c12:=Bd h.a5 r;have c13:=zh h h.a5.d.b0 b.1;have c14:=zh h h.a5.d.b2 b.1;cases Y:iC h<;>rw[Y]at l
 ·refine σE ?_
  all_goals first
   | exact bx ((by unfold lS;rw[Y];simp))
   |(exfalso;omega)
 cases e10:mg h<;>rw[e10]at c10
 ·refine σE ?_
  all_goals first
   | exact bx ((by unfold lS;rw[e10];simp))
   |(exfalso;omega)
 by_cases Z:cv h=true;rotate_left
 ·have y:cv h=false:=by simpa using Z
  have c:=y;unfold cv at c;rw[v9]at c
  repeat'(first|refine gE ?_|refine gS (λa=>?_) (λa=>?_)|refine CF (aG _ _ _) ?_|refine CF (ui _) ?_)
  all_goals first
   | exact bx ((by unfold lS;rw[y];simp))
   |(exfalso;omega)
 have c:=Z;unfold cv at c;rw[C0]at c;have C:lS h=xW h:=by grind [lS]
 rw[C];unfold xW;cases em:h.a2
 ·repeat'(first|refine gE ?_|refine gS (λa=>?_) (λa=>?_)|refine CF (aG _ _ _) ?_|refine CF (ui _) ?_|refine Bf.f em ?_)
  all_goals first
   | exact bx ((by unfold xL;simp only[Bool.false_eq_true,if_false];first|(symm;exact C1 ω)|(rw[z9,beq_iff_eq,C0];omega)))
   |(exfalso;omega)
 cases e12:kN h.a5<;>rw[e12]at c12
 all_goals
  repeat'(first|refine gE ?_|refine gS (λa=>?_) (λa=>?_)|refine CF (aG _ _ _) ?_|refine CF (ui _) ?_|refine Bf.t em ?_)
  all_goals first
   | exact bx (ψ)
   |(exfalso;omega)
def i6[Inhabited α]{xs:List α}{f:α->Int}(e:(xs.map f).Nodup)(b:i<xs.length)(c:j<xs.length)(h:f (nth xs i)=f (nth xs j)):i=j:=by
 have d:=List.pairwise_iff_getElem.1 e;rcases Nat.lt_trichotomy i j with a|rfl|a
 ·have:=d i j (by simpa using b) (by simpa using c) a
  simp only[List.getElem_map]at this;rw[bB (z4 b),bB (z4 c)]at h;exact absurd h this
 ·rfl
 have:=d j i (by simpa using c) (by simpa using b) a;simp only[List.getElem_map]at this;rw[bB (z4 b),bB (z4 c)]at h;omega
theorem bw[Inhabited α]{xs:List α}{x:α}(h:x∈xs):∃i,i<xs.length/\nth xs i=x:=by
 obtain⟨i,a⟩:=List.mem_iff_getElem?.1 h
 grind [bB]
theorem wm:∀{H L:List Int},H.Nodup->(∀x∈H,x∈L)->L.length<=H.length->∀x∈L,x∈H
 | [],L,_,_,b,x,c=>by grind
 | y::H,L,d,f,b,x,c=>by
  have g:y∈L:=ψ
  have a:=List.nodup_cons.1 d;by_cases e:x=y
  ·grind
  refine CA _ (wm (L:=L.erase y) a.2 (λz h=>?_) ?_ x ψ)
  all_goals grind
theorem RY{H L:List Int}(b:L.Nodup)(c:∀x∈H,x∈L):(H.Nodup/\H.length=L.length)↔∀a∈L,H.count a=1:=by grind [wm,List.Perm.length_eq]
variable{p:Int}{l:a8}
theorem en : p∈lpgs l n↔∃k:Nat,k<n/\p=l.S+(k:Nat):=by grind [lpgs]
structure rN(sp:List aA)(la:List a8):Prop where
 sok:∀s∈sp,bq s=true
 lok:∀l∈la,cq l=true
 nd:(sp.map (·.S)).Nodup
 dis:∀s∈sp,∀l∈la,∀k:Nat,k<l.a0.toNat->s.S≠l.S+(k:Nat)
 one:∀i j,i<la.length->j<la.length->∀k k':Nat,k<(nth la i).a0.toNat->k'<(nth la j).a0.toNat->(nth la i).S+(k:Nat)=(nth la j).S+(k':Nat)->i=j
theorem rN.of(h:bD sp la=true):rN sp la:=by
 obtain⟨B,C,d⟩:=gf h;unfold pgs at d;rw[List.nodup_append]at d;obtain⟨q,r,t⟩:=d;have u:=List.pairwise_flatMap.1 r;refine⟨ψ,ψ,q,λs D l w k c e=>?_,λi j f g k o c a e=>?_⟩
 ·exact t _ ψ _ (List.mem_flatMap.2 ⟨l,w,en.2 ⟨k,c,rfl⟩⟩) e
 have p:=List.pairwise_iff_getElem.1 u.2;have y:=bB (z4 f);have A:=bB (z4 g);rw[y]at c e;rw[A]at a e;rcases Nat.lt_trichotomy i j with b|n|b
 ·exact absurd e (p i j f g b _ (en.2 ⟨k,c,rfl⟩) _ (en.2 ⟨o,a,rfl⟩))
 ·exact n
 exact absurd e.symm (p j i g f b _ (en.2 ⟨o,a,rfl⟩) _ (en.2 ⟨k,c,rfl⟩))
theorem iJ(b:bq s=true):eg s a=true↔16*s.S<=a/\a<=16*s.S+15:=by grind [eg]
theorem jA(b:rN sp la)(c:i<sp.length)(h:16*(nth sp i).S<=a/\a<=16*(nth sp i).S+15):denotes sp la a=tC i (nth sp i) a:=by
 refine rr c ((iJ (b.sok _ (ax c))).2 h) λj z l k=>?_
 cases e:eg z a with
 | false=>rfl
 | true=>
  exfalso;have d:=(C4.1 k).1;have n:=(iJ (b.sok z ψ)).1 e;have g:=bB k;subst g;have:=i6 (f:=(·.S)) b.nd c d ω;omega
theorem Ym(b:rN sp la)(h:∀i,i<sp.length->¬(16*(nth sp i).S<=a/\a<=16*(nth sp i).S+15)):∀(j:Nat)(z:aA),j<sp.length->sp[j]? = some z->eg z a=false:=by grind [iJ,rN.sok,bB]
theorem TP(c:rN sp la)(a:Int):a∈live0 sp la↔a∈ne sp la:=by
 have G:a∈ne sp la↔∃n:Nat,n<512/\m8 sp la n=true/\(n:Int)=a:=by grind [ne,pd]
 rw[G];unfold live0 gW;rw[v5,List.mem_flatMap,O8];constructor
 ·rintro(⟨s,g,C⟩|⟨l,b,rfl⟩)
  ·obtain⟨i,d,rfl⟩:=bw g
   unfold fL at C;obtain⟨k,H,rfl⟩:=O8.1 C;obtain⟨h,J⟩:=S8.1 H;have h:=List.mem_range.1 h;have o:=aO (c.sok _ g);have t:=He ⟨o.2.2.1,o.2.2.2⟩;have K:=xH (nth sp i).Z;unfold lN;have L:0<=(k:Int)*csz (nth sp i).Z/\(k:Int)*csz (nth sp i).Z<=15:=by grind [dm]
   have f:=jA c d (a:=16*(nth sp i).S+(k:Nat)*csz (nth sp i).Z) ω;have O:(16*(nth sp i).S+(k:Nat)*csz (nth sp i).Z - 16*(nth sp i).S) / csz (nth sp i).Z=(k:Nat)/\(16*(nth sp i).S+(k:Nat)*csz (nth sp i).Z - 16*(nth sp i).S) % csz (nth sp i).Z=0:=by grind [dm]
   refine⟨(16*(nth sp i).S+(k:Nat)*csz (nth sp i).Z).toNat,ω,?_,ω⟩
   grind [m8,tC]
  obtain⟨i,d,rfl⟩:=bw b;have P:=bf (c.lok _ b);have M:=cJ (c.lok _ b);have u:=Ym c (a:=16*(nth la i).S) λj D Q=>c.dis _ (ax D) _ b 0 ω ω
  have E:cg (nth la i) (16*(nth la i).S)=true:=by grind [rN.lok,cg]
  have f:=pL (a:=16*(nth la i).S) (z5 _) u d E λj z D r=>by
   cases e:cg z (16*(nth la i).S) with
   | false=>rfl
   | true=>
    exfalso;have w:=(C4.1 r).1;have p:=t4 r;have y:=bB r;subst y;have N:=bf (c.lok _ p);have q:=c.lok _ p;unfold cq at q;rw[C0]at q;unfold cg at e;rw[I0,C0]at e;have:=c.one i j d w 0 ((nth la i).S - (nth la j).S).toNat ω ω ω;omega
  refine⟨(16*(nth la i).S).toNat,ω,?_,ω⟩
  grind [m8]
 rintro⟨n,R,b,rfl⟩
 cases u:sp.findIdx? (eg · (n:Nat)) with
 | some i=>
  obtain⟨d,A,-⟩:=CE.1 u;have B:=bB (z4 d);rw[<-B]at A;have g:=c.sok _ (ax d);have F:=(iJ g).1 A;have o:=aO g;have t:=He ⟨o.2.2.1,o.2.2.2⟩;have f:denotes sp la (n:Nat)=tC i (nth sp i) (n:Nat):=by grind [denotes]
  rw[xd f]at b;simp only[I0,IC,C0]at b;simp only[tC]at b;cases E:bo (nth sp i).a6 (((n:Int) - 16*(nth sp i).S) / csz (nth sp i).Z) with
  | false=>grind
  | true=>
   have r:((n:Int) - 16*(nth sp i).S) % csz (nth sp i).Z=0:=b.1;refine .inl ⟨nth sp i,ax d,?_⟩;unfold fL;refine O8.2 ⟨(((n:Int) - 16*(nth sp i).S) / csz (nth sp i).Z).toNat,S8.2 ⟨List.mem_range.2 ?_,?_⟩,?_⟩
   all_goals grind [dm,lN]
 | none=>
  cases F:la.findIdx? (cg · (n:Nat)) with
  | some i=>
   obtain⟨d,A,-⟩:=CE.1 F;have f:denotes sp la (n:Nat) = ⟨3,i,0,(n:Nat) - 16*(nth la i).S⟩:=by grind [denotes]
   rw[xd f]at b
   grind [ax]
  | none=>
   have f:denotes sp la (n:Nat) = ⟨0,0,0,0⟩:=by grind [denotes]
   rw[xd f]at b;simp at b
theorem AE(b:rN sp la)(c:(denotes sp la a).c8=0)(f:(denotes sp la a).b3=1\/(denotes sp la a).b3=3):a∈ne sp la:=by
 have l:0<=a/\a<512:=by
  unfold denotes at c f;cases g:sp.findIdx? (eg · a) with
  | some i=>
   obtain⟨d,j,-⟩:=CE.1 g;have h:=List.getElem_mem d;have e:=(iJ (b.sok _ h)).1 j;have k:=aO (b.sok _ h);omega
  | none=>
   rw[g]at c f;cases e:la.findIdx? (cg · a) with
   | some i=>
    obtain⟨d,-⟩:=CE.1 e;rw[e]at c;have n:=bf (b.lok _ (ax d))
    grind
   | none=>grind
 have k:((a.toNat:Nat):Int)=a:=ω
 grind [ne,pd,m8]
theorem zk(sp:List aA)(la:List a8):(ne sp la).Nodup:=by
 unfold ne pd List.Nodup;rw[List.pairwise_map]
 grind [List.Pairwise.imp,List.nodup_range]
theorem yt(b:rN h.J h.H){c:Int}(d:dR h a c=true):a∈ne h.J h.H:=by grind [AE,dR]
variable{o:aW}
theorem U9(a:rN h.J h.H)(b:nr h o=true):o.Addr∈ne h.J h.H:=by grind [AE,nr]
theorem Pq(h:ac)(a:Int):(qz h).count a=(holders h).count a:=by grind [qz,holders]
theorem tY(h:ac):lK h=true↔(h.R.all (gq h)=true/\h.a1.q.all (jx h)=true)/\(aY h.e).all (nl h)=true:=by grind [lK]
theorem wS(f:rN h.J h.H)(g:iC h=true)(j:lK h=true):∀a∈holders h,a∈ne h.J h.H:=by
 obtain⟨⟨n,p⟩,q⟩:=(tY h).1 j;intro a b;unfold holders at b;simp only[v5]at b;rcases b with((b|b)|b)|b
 ·obtain⟨o,d,rfl⟩:=O8.1 b
  obtain⟨i,r,rfl⟩:=bw d;have e:=gv g r
  grind [U9,objAt]
 ·unfold cM at b
  obtain⟨c,t,b⟩:=List.mem_flatMap.1 b;obtain⟨l,u,b⟩:=List.mem_flatten.1 b;obtain⟨k,w,rfl⟩:=bw u;have e:=O7.1 n c t;unfold gq at e;have A:=O7.1 (show(nth c.W k).all _=true from gv e w) a b
  grind [yt]
 ·obtain⟨x,y,rfl⟩:=O8.1 b
  exact yt f (O7.1 p x y)
 exact yt f (O7.1 q a b)
theorem Rv(b:bD h.J h.H=true)(c:iC h=true):(oW h&&lR h)=mg h:=by
 have d:=rN.of b;have e:(oW h=true/\h.a1.q.all (jx h)=true)↔h.a1.q.all (wL h)=true:=by grind [oW,wL]
 have f:mg h=true↔((h.R.all (gq h)=true/\h.a1.q.all (wL h)=true)/\(aY h.e).all (nl h)=true)/\∀a∈ne h.J h.H,(holders h).count a=1:=by
  unfold mg;simp only[I0];refine and_congr Iff.rfl ?_;simp only[O7,C0,Pq]
  grind [List.mem_mergeSort,TP,tt,sorted]
 grind [tY,RY,zk,wS,lR]
theorem lw(s t:aA):meshable s t=meshable t s:=by grind [meshable]
variable{f:Int}{t:aM}
theorem fZ{p:Nat} : (p:Int)∈pagesOn t f↔p<t.M.length/\(nth t.M p).o≠0/\(nth t.M p).j=f:=by grind [pagesOn,mf,Vl]
theorem zB{q:Int}(h:q∈pagesOn t f):∃p:Nat,q=(p:Nat):=by grind [pagesOn,mf]
theorem xO(a:pages0 h=true):(∀i,i<h.H.length->∀k:Nat,k<(nth h.H i).a0.toNat->(aZ h ((nth h.H i).S+(k:Nat))).length=1)/\(∀p∈pgs h.J h.H,p<fT h)/\∀p:Nat,p<fT h->((nth (tbl h).M p).o≠0↔(p:Int)∈pgs h.J h.H):=by grind [gv,pages0,wZ,E7,Aa]
theorem GL{p:Nat}(a:p<fT h):ay (tbl h) (p:Nat)=nth (tbl h).M p:=pB a
theorem gH{p:Nat}(a:p<fT h)(b:(nth (tbl h).M p).o≠0):aZ h (p:Nat)=pagesOn (tbl h) (nth (tbl h).M p).j:=by grind [GL,aZ,tbl]
theorem yb(g:rN h.J h.H)(c:j<h.J.length):iX h (nth h.J j).S=(j:Nat):=by
 unfold iX;refine dO (ar c) (by unfold pD;simp) λk z i d=>?_
 have a:=bB d;have b:=(C4.1 d).1;subst a;unfold pD;refine C1 λe=>?_
 have:=i6 (f:=(·.S)) g.nd b c e;omega
theorem yu(w:bD h.J h.H=true)(N:pages0 h=true):z7 h=tM h:=by
 have E:=rN.of w;obtain⟨O,P,Q⟩:=xO N;have o:∀i,i<h.J.length->∃p:Nat,(nth h.J i).S=(p:Nat)/\p<fT h/\(nth (tbl h).M p).o≠0:=λi r=>by
  have Y:=aO (E.sok _ (ax r));have R:(nth h.J i).S∈pgs h.J h.H:=by grind [ax,pgs]
  have c:=P _ R;refine⟨(nth h.J i).S.toNat,ω,ω,?_⟩
  grind
 rw[z9];unfold z7 tM;rw[cD,cD];constructor
 ·intro F i r
  rw[cD];intro j G;have y:j<h.J.length:=ω
  unfold pm;rw[IC,C0];by_cases d:(ay (tbl h) (nth h.J i).S).j=(ay (tbl h) (nth h.J j).S).j
  ·right
   obtain⟨p,e,a,f⟩:=o i r;obtain⟨q,A,b,g⟩:=o j y;have n:=O7.1 (F i r);rw[e,A,GL a,GL b]at d;have S:(q:Int)∈aZ h (nth h.J i).S:=by
    rw[e,gH a f];exact fZ.2 ⟨b,g,d.symm⟩
   have t:=n _ S;unfold pP at t;rw[<-A,yb E y]at t;rw[IC,I0,C0]at t;rcases t with t|t
   ·omega
   simpa using t.2
  exact .inl d
 intro B i r;rw[O7];intro q C;obtain⟨p,e,a,f⟩:=o i r;have T:=C;rw[e,gH a f]at C;obtain⟨D,rfl⟩:=zB C;obtain⟨b,g,H⟩:=fZ.1 C;have u:=(Q D b).1 g;unfold pgs at u;rw[v5,O8,List.mem_flatMap]at u;rcases u with⟨s,F,J⟩|⟨l,U,K⟩
 ·obtain⟨j,G,rfl⟩:=bw F
  unfold pP;rw[<-J,yb E G];rw[IC,I0,C0,C0];have d:(ay (tbl h) (nth h.J i).S).j=(ay (tbl h) (nth h.J j).S).j:=by grind [GL]
  rcases Nat.lt_trichotomy j i with c|V|c
  ·have n:=gv (B i r) c
   unfold pm at n
   simp_all
  ·omega
  have n:=gv (B j G) c;unfold pm at n;rw[IC,C0]at n;exact .inr ⟨ω,by rw[lw];simp_all⟩
 exfalso;obtain⟨W,L,rfl⟩:=bw U;obtain⟨k,X,M⟩:=en.1 K;have n:=O W L k X;rw[<-M,gH b g]at n;have Z:(D:Int)∈pagesOn (tbl h) (nth (tbl h).M D).j:=ψ
 have m2:(p:Int)∈pagesOn (tbl h) (nth (tbl h).M D).j:=fZ.2 ⟨a,f,H.symm⟩
 grind [List.length_eq_one_iff,rN.dis,ax]
theorem eR(h:ac):lS h=fw h:=by grind [yu,Rv,lS,fw,pK]
def ovl(y r:aC):Bool:=decide (y.At<r.At+r.a4/\r.At<y.At+y.a4)
def qk(r:aC):List aC->Bool->Option (List aC)
 | [],put=>some (if put then [] else [r])
 | y::a,put=>if ovl y r then none else if !put&&decide (y.At > r.At) then(qk r a true).map λt=>r::y::t else(qk r a put).map λt=>y::t
def dD(out:List aC):List aC->List aC
 | []=>out
 | y::ys=>match out.getLast? with
  | some z=>if z.At+z.a4=y.At then dD (out.dropLast++[⟨z.At,z.a4+y.a4⟩]) ys else dD (out++[y]) ys
  | none=>dD (out++[y]) ys
def kF:List aC->aC->List aC->Bool->Option (List aC)
 | [],r,out,done=>some (if done then out else out++[r])
 | y::ys,r,out,done=>
  if ovl y r then none
  else if y.At+y.a4=r.At then kF ys ⟨y.At,y.a4+r.a4⟩ out done
  else if r.At+r.a4=y.At then kF ys ⟨r.At,r.a4+y.a4⟩ out done
  else if y.At > r.At/\done=false then kF ys r (out++[r,y]) true
  else kF ys r (out++[y]) done
def lr(xs:List aC):Prop:=xs.Pairwise (λa b=>a.At+a.a4<b.At)/\∀y∈xs,1<=y.a4
variable{y:aC}
theorem lr.tail{a:List aC}(h:lr (y::a)):lr a:=⟨(List.pairwise_cons.1 h.1).2,λz b=>h.2 z ψ⟩
theorem lr.head{a:List aC}(h:lr (y::a)):∀z∈a,y.At+y.a4<z.At:=(List.pairwise_cons.1 h.1).1
theorem lz:∀(a out:List aC),lr a->(∀z,out.getLast? = some z->∀y∈a,z.At+z.a4≠y.At)->dD out a=out++a
 | [],out,_,_=>by simp[dD]
 | y::a,out,d,e=>by
  have b:dD (out++[y]) a=out++y::a:=by
   rw[lz a (out++[y]) d.tail λz c w f=>by
     simp at c;subst c;have:=d.head w f;omega]
   simp
  unfold dD;split
  ·rename_i z c
   rw[CI (e z c y (O3 ..))];exact b
  exact b
theorem BJ{r:aC} : ∀{a:List aC},lr a->(∀y∈a,r.At+r.a4<=y.At)->qk r a true=some a
 | [],_,_=>rfl
 | y::a,c,b=>by
  have e:=b y (O3 ..);unfold qk;rw[CI (by unfold ovl;rw[C0];omega)];simp only[Bool.not_true,Bool.false_and,Bool.false_eq_true,if_false];rw[BJ c.tail λz d=>b z (CA _ d)]
  rfl
theorem zj{r:aC}(h1:1<=r.a4){a:List aC}(b:lr a)(c:∀y∈a,r.At+r.a4<=y.At):qk r a false=some (r::a):=by
 cases a with
 | nil=>rfl
 | cons y a=>
  grind [BJ,lr.tail,qk,ovl]
def u6{r:aC} : ∀{a out:List aC},lr a->1<=r.a4->(∀y∈a,r.At+r.a4<y.At)->kF a r out true=some (out++a)
 | [],out,_,_,_=>by simp[kF]
 | y::a,out,b,d,c=>by
  have f:=c y (O3 ..);have g:=b.2 y (O3 ..);unfold kF;rw[CI (by unfold ovl;rw[C0];omega),CI ω,CI ω,CI (by simp),u6 b.tail d λz e=>c z (CA _ e)];simp
variable{out:List aC}
theorem BN{r:aC}(h1:1<=r.a4){a:List aC}(b:lr a)(c:∀y∈a,r.At+r.a4<=y.At):kF a r out false=some (out++match a with|[]=>[r]|y::zs=>if r.At+r.a4=y.At then⟨r.At,r.a4+y.a4⟩::zs else r::y::zs):=by
 cases a with
 | nil=>simp[kF]
 | cons y a=>
  have g:=c y ψ;have h:=b.2 y ψ;unfold kF;rw[CI (by grind [ovl]),CI ω];by_cases e:r.At+r.a4=y.At
  ·rw[CJ e]
   simp only[e,if_true];cases a with
   | nil=>simp[kF]
   | cons z a=>
    have i:=b.head z ψ;have j:=b.tail.2 z ψ;unfold kF;simp only;rw[CI (by grind [ovl]),CI ω,CI ω,CJ kd,u6 b.tail.tail (by simp only;omega) λw d=>by
      have:=b.tail.head w d;simp only;omega]
    simp
  rw[CI e,CJ kd,u6 b.tail h1 λz f=>by have:=b.head z f;omega];simp[e]
theorem Gu{pages:Int} : ∀{a:List aC}{r:aC}{out:List aC},lr a->1<=r.a4->(∀z,out.getLast? = some z->(∀y∈a,z.At+z.a4<y.At)/\z.At+z.a4<r.At)->(qk r a false).map (dD out)=kF a r out false
 | [],r,out,_,g,q=>by
  show some (dD out [r])=some (out++[r]);rw[lz [r] out ⟨List.pairwise_singleton ..,λy u=>by rw[z3.1 u];exact g⟩ ψ]
 | y::a,r,out,c,g,q=>by
  have F:=c.2 y ψ;by_cases l:ovl y r=true
  ·grind [qk,kF]
  ·have i:=l
   unfold ovl at i;rw[C0]at i;by_cases A:r.At+r.a4<=y.At
   ·-- all to the right
    have b:∀w∈y::a,r.At+r.a4<=w.At:=λw f=>by grind [lr.head]
    rw[zj g c b,BN g c b];show some (dD out (r::y::a))=_;have hfirst:dD out (r::y::a)=dD (out++[r]) (y::a):=by
     conv=>lhs;unfold dD
     grind
    rw[hfirst];by_cases e:r.At+r.a4=y.At
    ·have:dD (out++[r]) (y::a)=dD (out++[⟨r.At,r.a4+y.a4⟩]) a:=by
      conv=>lhs;unfold dD
      simp[e]
     grind [lz,lr.tail,lr.head]
    grind [lz,lr.head]
   have B:y.At+y.a4<=r.At:=ω
   have n:∀t,dD out (y::t)=dD (out++[y]) t:=λt=>by
    conv=>lhs;unfold dD
    grind [O3]
   have C:(qk r (y::a) false).map (dD out)=(qk r a false).map (dD (out++[y])):=by
    conv=>lhs;unfold qk
    rw[CI l,CI kd,Option.map_map]
    congr 1
    grind
   rw[C];unfold kF;rw[CI l];by_cases e:y.At+y.a4=r.At
   ·rw[CJ e]
    by_cases o:∃w,a.head? = some w/\ovl w r=true
    ·obtain⟨w,f,D⟩:=o
     cases a with
     | nil=>cases f
     | cons d h=>
      grind [ovl,qk,kF]
    have b:∀w∈a,r.At+r.a4<=w.At:=by
     cases a with
     | nil=>grind
     | cons d h=>
      have G:=c.head d ψ;have H:=c.tail.2 d ψ
      grind [lr.head,lr.tail,ovl]
    rw[zj g c.tail b,BN (r:=⟨y.At,y.a4+r.a4⟩) (by simp only;omega) c.tail ψ];show some (dD (out++[y]) (r::a))=_;have E:dD (out++[y]) (r::a)=dD (out++[⟨y.At,y.a4+r.a4⟩]) a:=by
     conv=>lhs;unfold dD
     simp[e]
    rw[E];cases a with
    | nil=>simp[dD]
    | cons d h=>
     by_cases j:y.At+(y.a4+r.a4)=d.At
     ·have p:dD (out++[⟨y.At,y.a4+r.a4⟩]) (d::h)=dD (out++[⟨y.At,y.a4+r.a4+d.a4⟩]) h:=by
       conv=>lhs;unfold dD
       simp[j]
      rw[p,lz h _ c.tail.tail λz k w f=>by grind [lr.head,lr.tail]];simp[j]
     rw[lz (d::h) _ c.tail λz k w f=>by
       simp at k;subst k;simp only;rcases List.mem_cons.1 f with rfl|f
       · exact j
       have:=c.tail.head w f;have:=b d ψ;have:=c.tail.2 d ψ;omega]
     simp[j]
   rw[CI e,CI ω,CI ω];exact Gu (pages:=pages) c.tail g λz k=>by grind [lr.head]
def jl(k:af)(f:Int):af:=if(pagesOn k.F.Q f).length=0 then {k with F:=⟨⟨k.F.V.U.set f.toNat (List.replicate 16 0),k.F.V.a3.set f.toNat false⟩,k.F.Q⟩} else k
def oJ(k:af)(p:Int):af:={k with F:=⟨k.F.V,⟨k.F.Q.M.set p.toNat ⟨0,0⟩⟩⟩}
def cQ(k:af)(p:Int):af:=if(ay k.F.Q p).o=0 then k else jl (oJ k p) (ay k.F.Q p).j
theorem cT[Inhabited α](xs:List α)(i j:Nat)(x:α):nth (xs.set i x) j=if i=j/\j<xs.length then x else nth xs j:=by grind [nth]
theorem uC(k:af)(f:Int):(jl k f).F.Q=k.F.Q/\(jl k f).Calls=k.Calls/\(jl k f).a=k.a/\(jl k f).F.V.U.length=k.F.V.U.length/\(jl k f).F.V.a3.length=k.F.V.a3.length:=by grind [jl]
theorem wh(k:af)(p:Int):(cQ k p).F.Q.M.length=k.F.Q.M.length/\(cQ k p).Calls=k.Calls/\(cQ k p).a=k.a:=by grind [uC,cQ,oJ]
variable{k:af}
theorem aF : aH k=true↔(∀j,j<k.a.length->0<=nth k.a j)/\dP k.F.V=true/\iH k.F.Q k.F.V.a3.length=true/\(∀j,j<k.F.V.a3.length->nth k.F.V.a3 j=decide (0<(pagesOn k.F.Q (j:Int)).length))/\0<=k.Calls/\k.Calls<=100000/\k.a.length<=40:=by grind [cD,aH,dn,tg]
theorem bi{f:aQ} : dP f=true↔1<=f.U.length/\f.U.length<=32/\f.a3.length=f.U.length/\∀j,j<f.U.length->jV (nth f.U j) (nth f.a3 j)=true:=by
 unfold dP;simp only[I0,C0,O7,and_assoc];refine and_congr Iff.rfl (and_congr Iff.rfl (and_congr_right λb=>⟨λh j a=>?_,λh q c=>?_⟩))
 ·exact h _ (t4 (AG (ar a) (ar ω)))
 grind [List.mem_iff_getElem?,List.getElem?_zip_eq_some,bB]
theorem bz : iH t a=true↔(∀j,j<t.M.length->oM a (nth t.M j)=true)/\1<=t.M.length/\t.M.length<=32:=by grind [cD,iH]
theorem gy : 0<(pagesOn t f).length↔∃q,q<t.M.length/\(nth t.M q).o≠0/\(nth t.M q).j=f:=by
 unfold pagesOn mf;rw[I2,List.length_pos_iff_exists_mem];simp[Vl]
theorem bU(h:aH k=true)(a:(ay k.F.Q p).o≠0):0<=p/\p<k.F.Q.M.length/\ay k.F.Q p=nth k.F.Q.M p.toNat/\0<=(ay k.F.Q p).j/\(ay k.F.Q p).j<k.F.V.a3.length:=by
 obtain⟨-,-,b,-⟩:=aF.1 h
 grind [bz,ay,oM]
theorem E1(p:Int)(h:aH k=true):aH (cQ k p)=true:=by
 unfold cQ;split
 ·exact h
 rename_i r;obtain⟨C,D,E,i,l⟩:=bU h r;obtain⟨t,u,F,w,y,A,B⟩:=aF.1 h;obtain⟨G,H,J,L⟩:=bi.1 u;obtain⟨M,N,O⟩:=bz.1 F;rw[E]at r i l |-;generalize K:(nth k.F.Q.M p.toNat).j=f at i l;have b:∀q,nth (k.F.Q.M.set p.toNat ⟨0,0⟩) q=if p.toNat=q then⟨0,0⟩ else nth k.F.Q.M q:=λq=>by grind [cT]
 have c:∀j:Int,0<(pagesOn (⟨k.F.Q.M.set p.toNat ⟨0,0⟩⟩ : aM) j).length↔∃q,q<k.F.Q.M.length/\q≠p.toNat/\(nth k.F.Q.M q).o≠0/\(nth k.F.Q.M q).j=j:=λj=>by
  rw[gy];simp only[C3,b]
  grind
 have d:∀j:Int,0<(pagesOn k.F.Q j).length↔∃q,q<k.F.Q.M.length/\(nth k.F.Q.M q).o≠0/\(nth k.F.Q.M q).j=j:=λj=>gy
 have g:iH ⟨k.F.Q.M.set p.toNat ⟨0,0⟩⟩ k.F.V.a3.length=true:=by
  rw[bz];simp only[C3,b]
  grind [oM]
 unfold jl;split
 ·rename_i o
  rw[aF];simp only[oJ,C3]at o |-;refine⟨t,?_,g,λj n=>?_,y,A,B⟩
  ·rw[bi]
   simp only[C3,cT];refine⟨G,H,J,λj n=>?_⟩;by_cases a:f.toNat=j
   ·rw[CJ ⟨a,n⟩,CJ ⟨a,ω⟩];decide
   grind
  rw[cT];by_cases a:f.toNat=j
  ·grind
  rw[CI (λe=>a e.1),w j n];refine decide_eq_decide.2 ?_;rw[d,c]
  grind
 rename_i o;rw[aF];simp only[oJ]at o |-;refine⟨t,u,g,λj n=>?_,y,A,B⟩;rw[w j n];refine decide_eq_decide.2 ?_;by_cases a:f=j
 ·grind
 rw[d,c];grind
def bk(h:aH k=true):af.sml k:=by
 obtain⟨g,b,c,i,l,n,o⟩:=aF.1 h;obtain⟨p,q,t,d⟩:=bi.1 b;obtain⟨u,w,y⟩:=bz.1 c;refine⟨⟨⟨⟨ω,λr f=>?_⟩,(by omega:_<=1048576)⟩,⟨ω,λe _=>tV1⟩⟩,(by omega:_<=1048576)⟩;obtain⟨j,a⟩:=List.mem_iff_getElem?.1 f;have:=d j (C4.1 a).1;rw[bB a]at this;unfold jV at this;simp only[I0,C0]at this;show r.length<=1048576;omega
variable{K:List (List C)->Prop}{sz by_:Nat}
theorem Ap.cp{e:α->List C}{xs:List α}(h2:∀x,(e x).length=sz)(d:∀x,bu (e x)=true)(a:xs.length<=1048576)(b:by_<=1000)(c:K (xs.map e)):Ap true [] (xs.map e) sz by_ K:=
 Cb ψ ψ ψ kd (by simp only[I2,List.length_nil,SD];exact zc a b) rfl c
def CW:type_of% @Ap.cp:=@Ap.cp
theorem Fl.cp{e:α->List C}{xs:List α}{X:Prop}(h2:∀x,(e x).length=sz)(d:∀x,bu (e x)=true)(a:xs.length<=1048576)(b:by_<=1000)(c:X):Fl (xs.map e) sz by_ X:=
 Fl.mk ψ kd (by simp only[I2];exact zc a b) c
def Ce:type_of% @Fl.cp:=@Fl.cp
variable{rows:List (List C)}
theorem Ap.sn{a:List (List C)}{r:List C}(h1:∀r∈rows,r.length=sz)(h2:r.length=sz)(b:rows.length+1<=1048576)(c:by_<=1000)(d:a=rows++[r])(e:K a):Ap false rows [r] sz by_ K:=
 Cb h1 ψ ψ kd (zc (by simpa using b) c) d e
def cK(xs:List Int)(a:xs.length<=1048576):zzA 241 false [.val none (aE .O xs)] .one (aE .own xs):=by
 refine fO 6 [] Tryz.func241 rfl ?_ (.inr (bH _))
 repeat'(first|refine gP ?_|refine CW (λ_=>rfl) (λ_=>rfl) a qs ?_)
 rfl
def Jf(t:aM)(a:aM.sml t):zzA 439 false [.val (some 1) (aM.enc .O t)] .agg (aM.enc .own t):=by
 have b:=a.1;refine fO 8 [] Tryz.func439 rfl ?_ (.inr (aM.enc_fr _))
 repeat'(first|refine gP ?_|refine CW (λ_=>rfl) (λ_=>rfl) b qs ?_)
 rfl
def Bj(t:aM)(a:aM.sml t):zzA 463 false [.val (some 1) (aM.enc .O t)] .agg (aM.enc .own t):=by
 have b:=a.1;refine fO 8 [] Tryz.func463 rfl ?_ (.inr (aM.enc_fr _))
 repeat'(first|refine gP ?_|refine CW (λ_=>rfl) (λ_=>rfl) b qs ?_)
 rfl
theorem aN{e:α->List C}{l:List α}(h:∀x,(e x).length=n):∀r∈l.map e,r.length=n:=(ψ)
theorem gr{β:Type}[Inhabited α]{xs:List α}{f:α->β}(a:i<xs.length):(xs.take (i+1)).map f=(xs.take i).map f++[f (nth xs i)]:=by grind [OA,ar]
def JR(f:aQ)(a:aQ.sml f):zzA 438 false [.val (some 2) (aQ.enc .O f)] .agg (aQ.enc .own f):=by
 have g:=a.1.1;have d:f.a3.length<=1048576:=a.2;refine fO 30 [(5,10,[17,18,19,20,21,22,23,24,25,26])] Tryz.func438 rfl ?_ (.inr (aQ.enc_fr _))
 repeat'(first|refine gP ?_|refine CW (λ_=>rfl) (λ_=>rfl) d qs ?_)
 refine lp0 f.U.length (λi=>[(1,bS (aQ.enc .O f)),(2,bS [.z,.z]),(3,bS [.s .own ((f.U.take i).map (aE .own)),.s .own (f.a3.map (rB .own))]),(4,fN i)]) λi h=>?_
 by_cases b:i<f.U.length
 ·have e:=ar b
  have c:(nth f.U i).length<=1048576:=a.1.2 _ (ax b)
  repeat'(first|refine gE ?_|refine Ce (λ_=>rfl) (λ_=>rfl) c qs ?_|refine Ap.sn (aN λ_=>rfl) rfl kd qs (gr b) ?_)
  (exact dt (i+1) ω)
 refine σE ?_
 obtain rfl:i=f.U.length:=ω
 rw[O9]
 rfl
def sj(f:aQ)(a:aQ.sml f):zzA 462 false [.val (some 2) (aQ.enc .O f)] .agg (aQ.enc .own f):=by
 have g:=a.1.1;have d:f.a3.length<=1048576:=a.2;refine fO 27 [(5,5,[18,19,20,21,22])] Tryz.func462 rfl ?_ (.inr (aQ.enc_fr _))
 repeat'(first|refine gP ?_|refine CW (λ_=>rfl) (λ_=>rfl) d qs ?_)
 refine lp0 f.U.length (λi=>[(2,bS [.z,.z]),(3,bS [.s .own ((f.U.take i).map (aE .own)),.s .own (f.a3.map (rB .own))]),(12,bC (g9 .O f.U)),(13,fI f.U.length),(14,fN i)]) λi h=>?_
 by_cases b:i<f.U.length
 ·have e:=ar b
  have c:(nth f.U i).length<=1048576:=a.1.2 _ (ax b)
  repeat'(first|refine gE ?_|refine CF (cK (nth f.U i) c) ?_|refine Ap.sn (aN λ_=>rfl) rfl kd qs (gr b) ?_)
  (exact dt (i+1) ω)
 refine σE ?_
 obtain rfl:i=f.U.length:=ω
 rw[O9]
 rfl
def xg(m:aL)(a:aL.sml m):zzA 334 false [.val (some 3) (aL.enc .O m)] .agg (aL.enc .own m):=by
 refine fO 10 [(1,5,[3,4,5,6,7])] Tryz.func334 rfl ?_ (.inr (aL.enc_fr _))
 repeat'(first|refine gP ?_|refine CF (JR m.V a.1) ?_|refine CF (Jf m.Q a.2) ?_)
 rfl
def lv(m:aL)(a:aL.sml m):zzA 380 false [.val (some 3) (aL.enc .O m)] .agg (aL.enc .own m):=by
 refine fO 10 [(1,5,[3,4,5,6,7])] Tryz.func380 rfl ?_ (.inr (aL.enc_fr _))
 repeat'(first|refine gP ?_|refine CF (sj m.V a.1) ?_|refine CF (Bj m.Q a.2) ?_)
 rfl
def Hu(k:af)(a:af.sml k):zzA 182 false [.val (some 5) (af.enc .O k)] .agg (af.enc .own k):=by
 have b:k.a.length<=1048576:=a.2;refine fO 13 [(1,9,[3,4,5,6,7,8,9,10,11])] Tryz.func182 rfl ?_ (.inr (Ci _))
 repeat'(first|refine gP ?_|refine CF (xg k.F a.1) ?_|refine Ce (λ_=>rfl) (λ_=>rfl) b qs ?_)
 rfl
def iq(k:af)(a:af.sml k):zzA 235 false [.val (some 5) (af.enc .O k)] .agg (af.enc .own k):=by
 refine fO 12 [(1,8,[3,4,5,6,7,8,9,10])] Tryz.func235 rfl ?_ (.inr (Ci _))
 repeat'(first|refine gP ?_|refine CF (lv k.F a.1) ?_|refine CF (cK k.a a.2) ?_)
 rfl
def fU(k:af)(p:Int)(a:aM.sml k.F.Q):zzA 449 false [.ptr (af.enc .O k),.vI p] .one [I (ay k.F.Q p).o]:=by
 refine fO 13 [] Tryz.func449 rfl ?_
 repeat'(first|refine gP ?_|refine CF (dC k.F.Q p a) ?_)
 rfl
def oY(k:af)(b:af.sml k):zzA 90 false [.val (some 5) (af.enc .O k)] .one [B (aH k&&decide (k.Calls<100000))]:=by
 have a:=lL k b;cases e:aH k<;>rw[e]at a
 ·refine fO 10 [] Tryz.func90 rfl ?_
  repeat'(first|refine gP ?_|refine gS (λc=>?_) (λc=>?_)|fail)
  all_goals rfl
 refine fO 10 [] Tryz.func90 rfl ?_
 refine σP ?_
 all_goals rfl
def jg(k:af)(a:af.sml k):zzA 420 false [.val (some 5) (af.enc .O k)] .one [B (decide (k.Calls≠100000)&&aH k)]:=by
 have b:=lH k a;refine fO 10 [] Tryz.func420 rfl ?_
 repeat'(first|refine gP ?_|refine gS (λc=>?_) (λc=>?_)|fail)
 all_goals(exact bx ((by simp[*])))
theorem yz(h:(pagesOn k.F.Q f).length=0):af.enc .own (jl k f)=[.s .own ((k.F.V.U.map (aE .own)).set f.toNat (aE .own (List.replicate 16 0))),.s .own ((k.F.V.a3.map (rB .own)).set f.toNat (rB .own false)),.s .own (k.F.Q.M.map (aS.enc .own)),I k.Calls,.s .own (k.a.map (rI .own))]:=by grind [CC,jl,af.enc]
theorem E6(h:¬(pagesOn k.F.Q f).length=0):af.enc .own (jl k f)=af.enc .own k:=by grind [jl]
def wQ(k:af)(f:Int)(a:aM.sml k.F.Q)(b:0<=f/\f<k.F.V.U.length/\f<k.F.V.a3.length) :
  zzB 450 false [.ptr (af.enc .own k),.vI f] [.ptr (af.enc .own (jl k f)),.vI f] (.tup []) []:=by
 have c:=ar (xs:=k.F.V.U) (i:=f.toNat) ω;have d:=ar (xs:=k.F.V.a3) (i:=f.toNat) ω;by_cases e:(pagesOn k.F.Q f).length=0
 ·rw[yz e]
  refine fM 30 [] [(2,8,[21,22,23,24,25,26,27,28])] [(0,0),(0,0)] Tryz.func450 rfl (λu q=>?_) (.inr tV1)
  repeat'(first|refine gB ?_|with_reducible (first|refine CQ b.1 (aa d) ?_|refine CQ b.1 (aa c) ?_)|refine CM (jj k.F.Q f a) ⟨⟨rfl,Cj k.F.Q⟩,⟨rfl,rfl⟩,tV1⟩ ?_|refine CR rfl rfl (aa c) rfl (O2 rfl) rfl ?_|refine CR rfl rfl (aa d) rfl (O2 rfl) rfl ?_|refine Mk.mk 16 rfl rfl qs qs rfl ?_)
  exact ks
 rw[E6 e];refine fM 30 [] [(2,8,[21,22,23,24,25,26,27,28])] [(0,0),(0,0)] Tryz.func450 rfl (λu q=>?_) (.inr tV1)
 repeat'(first|refine gB ?_|refine CM (jj k.F.Q f a) ⟨⟨rfl,Cj k.F.Q⟩,⟨rfl,rfl⟩,tV1⟩ ?_)
 exact ks
def wY(k:af)(f:Int)(a:aM.sml k.F.Q)(b:0<=f/\f<k.F.V.U.length/\f<k.F.V.a3.length) :
  zzB 475 false [.ptr (af.enc .own k),.vI f] [.ptr (af.enc .own (jl k f)),.vI f] (.tup []) []:=by
 have c:=ar (xs:=k.F.V.U) (i:=f.toNat) ω;have d:=ar (xs:=k.F.V.a3) (i:=f.toNat) ω;by_cases e:(pagesOn k.F.Q f).length=0
 ·rw[yz e]
  refine fM 30 [] [(2,8,[21,22,23,24,25,26,27,28])] [(0,0),(0,0)] Tryz.func475 rfl (λu q=>?_) (.inr tV1)
  repeat'(first|refine gB ?_|with_reducible (first|refine CQ b.1 (aa d) ?_|refine CQ b.1 (aa c) ?_)|refine CM (ny k.F.Q f a) ⟨⟨rfl,Cj k.F.Q⟩,⟨rfl,rfl⟩,tV1⟩ ?_|refine CR rfl rfl (aa c) rfl (O2 rfl) rfl ?_|refine CR rfl rfl (aa d) rfl (O2 rfl) rfl ?_|refine Mk.mk 16 rfl rfl qs qs rfl ?_)
  exact ks
 rw[E6 e];refine fM 30 [] [(2,8,[21,22,23,24,25,26,27,28])] [(0,0),(0,0)] Tryz.func475 rfl (λu q=>?_) (.inr tV1)
 repeat'(first|refine gB ?_|refine CM (ny k.F.Q f a) ⟨⟨rfl,Cj k.F.Q⟩,⟨rfl,rfl⟩,tV1⟩ ?_)
 exact ks
theorem Ba(k:af)(p:Int):af.enc .own (oJ k p)=[.s .own (k.F.V.U.map (aE .own)),.s .own (k.F.V.a3.map (rB .own)),.s .own ((k.F.Q.M.map (aS.enc .own)).set p.toNat (aS.enc .own ⟨0,0⟩)),I k.Calls,.s .own (k.a.map (rI .own))]:=by grind [CC,oJ,af.enc]
theorem Be(h:aH k=true):aM.sml (oJ k p).F.Q:=by
 obtain⟨a,b,c⟩:=bz.1 (aF.1 h).2.2.1;exact⟨by grind [oJ],λ_ _=>tV1⟩
theorem VH(k:af)(p:Int)(b:aH k=true) :
  zzB 353 false [.ptr (af.enc .own k),.vI p] [.ptr (af.enc .own (cQ k p)),.vI p] .one [B (decide ((ay k.F.Q p).o≠0))]:=by
 have j:=bk b;have c:=fU k p j.1.2;by_cases a:(ay k.F.Q p).o=0
 ·rw[show cQ k p=k by unfold cQ;rw[CJ a]]
  refine fM 32 [(450,[2,0])] [] [(0,0),(0,0)] Tryz.func353 rfl (λu q=>?_)
  repeat'(first|refine gB ?_|refine CM (c) ⟨CU k,⟨rfl,rfl⟩,tV1⟩ ?_)
  refine CN rfl ?_ ?_
  ·exact bx ((by simp[a]))
  exact wB
 obtain⟨l,r,n,d,o⟩:=bU b a;have h:=(bi.1 (aF.1 b).2.1).2.2.1;rw[show cQ k p=jl (oJ k p) (ay k.F.Q p).j by unfold cQ;rw[CI a]];have e:=wQ (oJ k p) (ay k.F.Q p).j (Be b) ⟨d,by grind [oJ],by grind [oJ]⟩;rw[Ba]at e;have g:=ar (xs:=k.F.Q.M) (i:=p.toNat) ω;rw[n]at c e a |-;refine fM 32 [(450,[2,0])] [] [(0,0),(0,0)] Tryz.func353 rfl (λu q=>?_)
 repeat'(first|refine gB ?_|with_reducible refine CQ l (aa g) ?_|refine CM (c) ⟨CU k,⟨rfl,rfl⟩,tV1⟩ ?_|refine CR rfl rfl (aa g) rfl (O2 rfl) rfl ?_)
 refine CN rfl ?_ ?_
 ·exact bx ((by simp[a]))
 exact wB
theorem uh(k:af)(p:Int)(a:aH k=true)(o:k.Calls≠100000) :
  zzA 403 false [.val (some 5) (af.enc .O k),.vI p] (.tup [some 5,none]) (af.enc .own (cQ k p)++[B (decide ((ay k.F.Q p).o≠0))]):=by
 have d:=bk a;have l:=iq k d;have e:=jg k d;have c:=fY k p d.1.2;rw[a,O0 o]at e;by_cases b:(ay k.F.Q p).o=0
 ·rw[show cQ k p=k by unfold cQ;rw[CJ b]]
  rw[C1 (by simpa using b)]at c |-;refine fP 38 [(475,[2,0])] [] Tryz.func403 rfl ?_ (.inr (a7 (Ci k) ⟨tV1,tV1⟩))
  refine σP ?_
  all_goals rfl
 obtain⟨q,u,r,g,t⟩:=bU a b;have n:=(bi.1 (aF.1 a).2.1).2.2.1;rw[show cQ k p=jl (oJ k p) (ay k.F.Q p).j by unfold cQ;rw[CI b]];have h:=wY (oJ k p) (ay k.F.Q p).j (Be a) ⟨g,by grind [oJ],by grind [oJ]⟩;rw[Ba]at h;have j:=ar (xs:=k.F.Q.M) (i:=p.toNat) ω;rw[O0 b]at c |-;rw[r]at h |-;refine fP 38 [(475,[2,0])] [] Tryz.func403 rfl ?_ (.inr (a7 (Ci _) ⟨tV1,tV1⟩))
 repeat'(first|refine gP ?_|with_reducible refine CQ q (aa j) ?_|refine CR rfl rfl (aa j) rfl (O2 rfl) rfl ?_)
 all_goals rfl
def fm(n:Nat):aQ:=⟨List.replicate n (List.replicate 16 0),List.replicate n false⟩
def eK(n:Nat):aM:=⟨List.replicate n ⟨0,0⟩⟩
def bJ(p f:Nat)(a:List Int):af:=⟨⟨fm f,eK p⟩,0,a⟩
def gg:aB:=⟨List.replicate 4 []⟩
def fp(n:Nat):aI:=⟨List.replicate n [],List.replicate n []⟩
def uF(p f t:Nat)(lim:Int)(a:List Int):ac:=⟨bJ p f a,[⟨0,p⟩],[],[],[],List.replicate t gg,fp t,⟨16,[]⟩,0,0,lim,1,false,⟨⟨0,0,[]⟩,0,0⟩⟩
theorem fX[Inhabited α]{y:α}(a:j<n):nth (List.replicate n y) j=y:=bB ψ
theorem Up(n:Nat)(f:Int):pagesOn (eK n) f=[]:=by grind [List.filter_eq_nil_iff,fX,pagesOn,mf,eK,Vl]
theorem w5{p f:Nat}(c:1<=p/\p<=32)(d:1<=f/\f<=32):aH (bJ p f [])=true:=by
 rw[aF];refine⟨λj b=>by grind [bJ],bi.2 ⟨by grind [bJ,fm],by grind [bJ,fm],by grind [bJ,fm],λj b=>?_⟩,bz.2 ⟨λj b=>?_,by grind [bJ,eK],by grind [bJ,eK]⟩,λj b=>?_,by simp[bJ],by simp[bJ],by simp[bJ]⟩
 ·have a:j<f:=by grind [bJ,fm]
  rw[show nth (bJ p f []).F.V.U j=List.replicate 16 0 from fX a,show nth (bJ p f []).F.V.a3 j=false from fX a]
  decide
 all_goals grind [Up,bJ,eK,nth,oM,fm]
theorem En(w:World)(q:Nat)(a:Array Obj):bK NO w (Sort.grow (w.drewN q) a):=by
 have c:∀b,b<w.heap.size->(Sort.grow (w.drewN q) a).heap[b]? = w.heap[b]?:=λb c=>Sort.heap_grow_old (w.drewN q) a c
 refine⟨rfl,rfl,rfl,ψ,λb h _=>c b h,λb o h _=>?_,λb o h _=>?_⟩
 all_goals grind [Go.World.cell?,Go.World.frozen?,mp]
theorem Tb(c:Nat)(W:World):Calls Tryz.prog 419 #[.slice none 0 c] W λe g=>∃B q h,e=.returned (.slice B 0 0)/\g=Sort.grow (W.drewN q) h:=by
 have q22:∀(w:World)(a:Option Addr)(n c b d:Nat),(binOp .eql 31 (.slice a n c) (.slice none b d)).run Tryz.prog w=.ok (.bool a.isNone) w:=λw a n c b d=>Lib.run_eql_slice_nil w _ _ a n c b d Tryz.underlying31
 go_enter Tryz.func419,Tryz.ntmps419
 go_wp2
 go_ret
 exact⟨none,0,#[],rfl,by simp[Sort.grow,World.drewN]⟩
theorem NP(a:Addr)(c:Nat)(W:World):Calls Tryz.prog 419 #[.slice (some a) 0 c] W λe g=>∃B q h,e=.returned (.slice B 0 0)/\g=Sort.grow (W.drewN q) h:=by
 have q22:∀(w:World)(a:Option Addr)(n c b d:Nat),(binOp .eql 31 (.slice a n c) (.slice none b d)).run Tryz.prog w=.ok (.bool a.isNone) w:=λw a n c b d=>Lib.run_eql_slice_nil w _ _ a n c b d Tryz.underlying31
 go_enter Tryz.func419,Tryz.ntmps419
 go_wp2
 go_ret
 exact⟨some ⟨W.heap.size,0,none⟩,0,#[.cells #[] 3],rfl,by rw[Sort.alloc_eq_grow];rfl⟩
theorem MV(xs:List Int)(o:xs.length<=1048576):zzA 419 false [.val none (aE .O xs)] .one (aE .own xs):=by
 by_cases c:xs=[]
 ·subst c
  refine⟨⟨_,Tryz.func419,by kernel_rfl,by kernel_rfl⟩,λw S p t d=>?_⟩
  match p,d with
  | [v],⟨d,_⟩=>
   have b:=bA.rep1 (show bA w S NO none [C.s .O []] v from d);obtain⟨l,g,rfl⟩:=b.slice;have r:Calls Tryz.prog 419 #[.slice l 0 g] w λe n=>∃B q i,e=.returned (.slice B 0 0)/\n=Sort.grow (w.drewN q) i:=by
    cases l with
    | none=>grind [Tb]
    | some a=>grind [NP]
   refine r.mono λe n ⟨B,q,i,c,j⟩=>?_
   subst j;exact⟨.slice B 0 0,c,En w q i,NO,NO,λ_ _ h=>h.elim,λ_ _ h=>h.elim,λ_ _ h=>h.elim,rfl,row1 (.nil _ .own B tV1)⟩
 have k:xs.map (rI .O)≠[]:=by simp_all
 refine fO 8 [] Tryz.func419 rfl ?_ (.inr (bH _))
 repeat'(first|refine gP ?_|refine Nn.mk k ?_|refine CW (λ_=>rfl) (λ_=>rfl) o qs ?_)
 rfl
def vj(p:b9)(a:b9.sml p):zzA 300 false [.val (some 3) (b9.enc .O p)] .agg (b9.enc .own p):=by
 have b:p.U.length<=1048576:=a;refine fO 8 [] Tryz.func300 rfl ?_ (.inr (b9.enc_fr _))
 repeat'(first|refine gP ?_|refine CF (MV p.U b) ?_)
 rfl
def xx(j:bW)(a:bW.sml j):zzA 240 false [.val (some 5) (bW.enc .O j)] .agg (bW.enc .own j):=by
 refine fO 8 [] Tryz.func240 rfl ?_ (.inr (bW.enc_fr _))
 repeat'(first|refine gP ?_|refine CF (vj j.d a) ?_)
 rfl
def kr(c:aB)(d:aB.sml c):zzA 183 false [.val (some 1) (aB.enc .O c)] .agg (aB.enc .own c):=by
 have g:=d.1;refine fO 26 [(5,10,[13,14,15,16,17,18,19,20,21,22])] Tryz.func183 rfl ?_ (.inr (Cp _))
 refine σP ?_
 refine lp0 c.W.length (λi=>[(1,bS (aB.enc .O c)),(2,bS [.z]),(3,bS [.s .own ((c.W.take i).map (aE .own))]),(4,fN i)]) λi h=>?_
 by_cases a:i<c.W.length
 ·have e:=ar a
  have b:(nth c.W i).length<=1048576:=d.2 _ (ax a)
  repeat'(first|refine gE ?_|refine Ce (λ_=>rfl) (λ_=>rfl) b qs ?_|refine Ap.sn (aN λ_=>rfl) rfl kd qs (gr a) ?_)
  (exact dt (i+1) ω)
 refine σE ?_
 obtain rfl:i=c.W.length:=ω
 rw[O9]
 rfl
def ky(c:aB)(d:aB.sml c):zzA 237 false [.val (some 1) (aB.enc .O c)] .agg (aB.enc .own c):=by
 have g:=d.1;refine fO 23 [(5,5,[14,15,16,17,18])] Tryz.func237 rfl ?_ (.inr (Cp _))
 refine σP ?_
 refine lp0 c.W.length (λi=>[(2,bS [.z]),(3,bS [.s .own ((c.W.take i).map (aE .own))]),(8,bC (g9 .O c.W)),(9,fI c.W.length),(10,fN i)]) λi h=>?_
 by_cases a:i<c.W.length
 ·have e:=ar a
  have b:(nth c.W i).length<=1048576:=d.2 _ (ax a)
  repeat'(first|refine gE ?_|refine CF (cK (nth c.W i) b) ?_|refine Ap.sn (aN λ_=>rfl) rfl kd qs (gr a) ?_)
  (exact dt (i+1) ω)
 refine σE ?_
 obtain rfl:i=c.W.length:=ω
 rw[O9]
 rfl
def ig(m:aI)(b:aI.sml m):zzA 184 false [.val (some 2) (aI.enc .O m)] .agg (aI.enc .own m):=by
 have h:=b.1.1;have g:=b.2.1;refine fO 46 [(5,10,[14,15,16,17,18,19,20,21,22,23]),(9,10,[33,34,35,36,37,38,39,40,41,42])] Tryz.func184 rfl ?_ (.inr (Cn _))
 refine σP ?_
 refine lp0 m.T.length (λi=>[(1,bS (aI.enc .O m)),(2,bS [.z,.z]),(3,bS [.s .own ((m.T.take i).map (bg .own)),.z]),(4,fN i)]) λi j=>?_
 by_cases c:i<m.T.length
 ·have d:=ar c
  have a:(nth m.T i).length<=1048576:=(b.1.2 _ (ax c)).1
  repeat'(first|refine gE ?_|refine Ce (λ_=>rfl) (λ_=>rfl) a qs ?_|refine Ap.sn (aN λ_=>rfl) rfl kd qs (gr c) ?_)
  (exact dt (i+1) ω)
 obtain rfl:i=m.T.length:=ω
 rw[O9]
 refine σE ?_
 refine lp0 m.g.length (λk=>[(1,bS (aI.enc .O m)),(2,bS [.z,.z]),(3,bS [.s .own (m.T.map (bg .own)),.s .own ((m.g.take k).map (aE .own))]),(5,fN k)]) λk l=>?_
 by_cases e:k<m.g.length
 ·have d:=ar e
  have a:(nth m.g k).length<=1048576:=b.2.2 _ (ax e)
  repeat'(first|refine gE ?_|refine Ce (λ_=>rfl) (λ_=>rfl) a qs ?_|refine Ap.sn (aN λ_=>rfl) rfl kd qs (gr e) ?_)
  (exact dt (k+1) ω)
 refine σE ?_
 obtain rfl:k=m.g.length:=ω
 rw[O9]
 rfl
def gC(m:aI)(b:aI.sml m):zzA 238 false [.val (some 2) (aI.enc .O m)] .agg (aI.enc .own m):=by
 have h:=b.1.1;have g:=b.2.1;refine fO 41 [(5,6,[16,17,18,19,20,21]),(10,5,[32,33,34,35,36])] Tryz.func238 rfl ?_ (.inr (Cn _))
 refine σP ?_
 refine lp0 m.T.length (λi=>[(1,bS (aI.enc .O m)),(2,bS [.z,.z]),(3,bS [.s .own ((m.T.take i).map (bg .own)),.z]),(10,bC (iR .O m.T)),(11,fI m.T.length),(12,fN i)]) λi j=>?_
 by_cases c:i<m.T.length
 ·have d:=ar c
  have a:(nth m.T i).length<=1048576:=(b.1.2 _ (ax c)).1
  repeat'(first|refine gE ?_|refine Ce (λ_=>rfl) (λ_=>rfl) a qs ?_|refine Ap.sn (aN λ_=>rfl) rfl kd qs (gr c) ?_)
  (exact dt (i+1) ω)
 obtain rfl:i=m.T.length:=ω
 rw[O9]
 refine σE ?_
 refine lp0 m.g.length (λk=>[(2,bS [.z,.z]),(3,bS [.s .own (m.T.map (bg .own)),.s .own ((m.g.take k).map (aE .own))]),(26,bC (g9 .O m.g)),(27,fI m.g.length),(28,fN k)]) λk l=>?_
 by_cases e:k<m.g.length
 ·have d:=ar e
  have a:(nth m.g k).length<=1048576:=b.2.2 _ (ax e)
  repeat'(first|refine gE ?_|refine CF (cK (nth m.g k) a) ?_|refine Ap.sn (aN λ_=>rfl) rfl kd qs (gr e) ?_)
  (exact dt (k+1) ω)
 refine σE ?_
 obtain rfl:k=m.g.length:=ω
 rw[O9]
 rfl
def xU(q:bh)(b:bh.sml q):zzA 185 false [.val (some 2) (bh.enc .O q)] .agg (bh.enc .own q):=by
 have a:q.q.length<=1048576:=b.1;refine fO 10 [(1,6,[3,4,5,6,7,8])] Tryz.func185 rfl ?_ (.inr (bh.enc_fr _))
 repeat'(first|refine gP ?_|refine Ce (λ_=>rfl) (λ_=>rfl) a qs ?_|refine CW (λ_=>rfl) (λ_=>rfl) a qs ?_)
 rfl
def pw(q:bh)(b:bh.sml q):zzA 239 false [.val (some 2) (bh.enc .O q)] .agg (bh.enc .own q):=by
 have a:q.q.length<=1048576:=b.1;refine fO 10 [(1,6,[3,4,5,6,7,8])] Tryz.func239 rfl ?_ (.inr (bh.enc_fr _))
 repeat'(first|refine gP ?_|refine Ce (λ_=>rfl) (λ_=>rfl) a qs ?_|refine CW (λ_=>rfl) (λ_=>rfl) a qs ?_)
 rfl
def x7(j:bW)(a:bW.sml j):zzA 186 false [.val (some 5) (bW.enc .O j)] .agg (bW.enc .own j):=by
 have b:j.d.U.length<=1048576:=a;refine fO 11 [] Tryz.func186 rfl ?_ (.inr (bW.enc_fr _))
 repeat'(first|refine gP ?_|refine CW (λ_=>rfl) (λ_=>rfl) b qs ?_)
 rfl
def mP(xs:List aC)(a:f9 xs):zzA 236 false [.val none (bn .O xs)] .one (bn .own xs):=by
 have b:=a.1;refine fO 6 [] Tryz.func236 rfl ?_ (.inr (jY _))
 repeat'(first|refine gP ?_|refine CW (λ_=>rfl) (λ_=>rfl) b qs ?_)
 rfl
def YK(h:ac)(a:C):List C:=[.s .own (h.G.F.V.U.map (aE .own)),.s .own (h.G.F.V.a3.map (rB .own)),.s .own (h.G.F.Q.M.map (aS.enc .own)),I h.G.Calls,.s .own (h.G.a.map (rI .own)),.s .own (h.b.map (aC.enc .own)),.s .own (h.J.map (aA.enc .own)),.s .own (h.H.map (a8.enc .own)),.s .own (h.K.map (aW.enc .own)),a,.s .O (h.e.T.map (bg .O)),.s .O (h.e.g.map (aE .O)),I h.a1.c0,.s .O (h.a1.q.map (aJ.enc .O)),I h.c1,I h.b1,I h.c2,I h.k,B h.a2,I h.a5.d.b0,I h.a5.d.b2,.s .O (h.a5.d.U.map (rI .O)),I h.a5.b5,I h.a5.k]
def jX:List C:=[.z,.z,.z,I 0,.z,.z,.z,.z,.z,.z,.z,.z,I 0,.z,I 0,I 0,I 0,I 0,B false,I 0,I 0,.z,I 0,I 0]
def J2(h:ac)(c:ac.sml h):zzA 69 false [.val (some 24) (ac.enc .O h)] .agg (ac.enc .own h):=by
 obtain⟨d,e,g,j,k,b,l,n,o⟩:=c;have p:=e.1;have q:=g.1;have r:=j.1;have t:=k.1;have w:=b.1;refine fO 61 [] Tryz.func69 rfl ?_ (.inr (ac.enc_fr _))
 repeat'(first|refine gP ?_|refine CF (Hu h.G d) ?_|refine CW (λ_=>rfl) (λ_=>rfl) p qs ?_|refine CW (λ_=>rfl) (λ_=>rfl) q qs ?_|refine CW (λ_=>rfl) (λ_=>rfl) r qs ?_|refine CW (λ_=>rfl) (λ_=>rfl) t qs ?_)
 refine lp0 h.R.length (λi=>[(1,bS (YK h (.s .O (h.R.map (aB.enc .O))))),(2,.X .box jX),(3,bC ([.s .own ((h.R.take i).map (aB.enc .own))])),(4,fN i)]) λi y=>?_
 by_cases a:i<h.R.length
 ·have u:=ar a
  repeat'(first|refine gE ?_|refine CF (kr (nth h.R i) (b.2 _ (ax a))) ?_|refine Ap.sn (aN λ_=>rfl) rfl kd qs (gr a) ?_)
  (exact dt (i+1) ω)
 obtain rfl:i=h.R.length:=ω
 rw[O9]
 repeat'(first|refine gE ?_|refine CF (ig h.e l) ?_|refine CF (xU h.a1 n) ?_|refine CF (x7 h.a5 o) ?_)
 rfl
def jw(h:ac)(c:ac.sml h):zzA 104 false [.val (some 24) (ac.enc .O h)] .agg (ac.enc .own h):=by
 obtain⟨d,e,g,j,k,b,l,n,o⟩:=c;have p:=g.1;have q:=j.1;have r:=k.1;have u:=b.1;refine fO 59 [(11,5,[38,39,40,41,42])] Tryz.func104 rfl ?_ (.inr (ac.enc_fr _))
 repeat'(first|refine gP ?_|refine CF (iq h.G d) ?_|refine CF (mP h.b e) ?_|refine CW (λ_=>rfl) (λ_=>rfl) p qs ?_|refine CW (λ_=>rfl) (λ_=>rfl) q qs ?_|refine CW (λ_=>rfl) (λ_=>rfl) r qs ?_)
 refine lp0 h.R.length (λi=>[(1,bS (ac.enc .O h)),(2,.X .box jX),(3,bS (YK h (.s .own ((h.R.take i).map (aB.enc .own))))),(32,bC (hJ .O h.R)),(33,fI h.R.length),(34,fN i)]) λi w=>?_
 by_cases a:i<h.R.length
 ·have t:=ar a
  repeat'(first|refine gE ?_|refine CF (ky (nth h.R i) (b.2 _ (ax a))) ?_|refine Ap.sn (aN λ_=>rfl) rfl kd qs (gr a) ?_)
  (exact dt (i+1) ω)
 obtain rfl:i=h.R.length:=ω
 rw[O9]
 repeat'(first|refine gE ?_|refine CF (gC h.e l) ?_|refine CF (pw h.a1 n) ?_|refine CF (xx h.a5 o) ?_)
 rfl
theorem Ap.sm{a:List (List C)}{r:List C}(h1:∀r∈rows,r.length=sz)(h2:r.length=sz)(e:rows.length+1<=1073741824)(b:by_<=1000)(c:a=rows++[r])(d:K a):Ap false rows [r] sz by_ K:=
 Cb h1 ψ ψ kd (C9 (Nat.mul_le_mul ω b) qs) c d
def Cc:type_of% @Ap.sm:=@Ap.sm
theorem Ap.s2{c:List (List C)}{a b:List C}(h1:∀r∈rows,r.length=sz)(h2:a.length=sz)(g:b.length=sz)(h:rows.length+2<=1073741824)(d:by_<=1000)(e:c=rows++[a,b])(f:K c):Ap false rows [a,b] sz by_ K:=
 Cb h1 ψ ψ kd (C9 (Nat.mul_le_mul ω d) qs) e f
def y1(y:aC)(a:List aC)(r:aC)(out:List aC)(done:Bool):kF (y::a) r out done=if ovl y r then none
  else if y.At+y.a4=r.At then kF a ⟨y.At,y.a4+r.a4⟩ out done
  else if r.At+r.a4=y.At then kF a ⟨r.At,r.a4+y.a4⟩ out done
  else if y.At > r.At/\done=false then kF a r (out++[r,y]) true
  else kF a r (out++[y]) done:=by rw[kF]
variable{xs:List aC}{pages:Int}
theorem xS(h:bN pages xs=true):lr xs/\∀y∈xs,0<=y.At/\1<=y.a4/\y.At+y.a4<=pages:=by
 unfold bN at h;simp only[I0,C0]at h;have d:∀i,i<xs.length->1<=(nth xs i).a4/\0<=(nth xs i).At/\(nth xs i).At<=pages - (nth xs i).a4:=λi a=>by grind [gv,iD,rangeIn]
 have e:∀i,i+1<xs.length->(nth xs i).At+(nth xs i).a4<(nth xs (i+1)).At:=λi a=>by grind [gv,iD]
 have f:∀j i,i<j->j<xs.length->(nth xs i).At+(nth xs i).a4<(nth xs j).At:=λj=>by
  induction j with
  | zero=>intro i a;omega
  | succ j k=>
   grind
 refine⟨⟨?_,λy g=>?_⟩,λy g=>?_⟩
 ·rw[List.pairwise_iff_getElem]
  intro i j a c b;have:=f j i b c
  rwa [bB (z4 a),bB (z4 c)]at this
 all_goals grind [bw]
theorem gT[Inhabited α]{xs:List α}(a:i<xs.length):xs.drop i=nth xs i::xs.drop (i+1):=by
 rw[List.drop_eq_getElem_cons a,bB (z4 a)]
def cr(pages:Int)(xs:List aC)(r:aC):Option (List aC):=if bN pages xs=true/\rangeIn pages r=true then kF xs r [] false else none
def JN(xs:List aC)(o:Option (List aC)):List C:=bn .own (o.getD xs)++[B o.isSome]
def n8(xs:List aC)(o:Option (List aC)):gl (JN xs o):=a7 (jY _) ⟨tV1,tV1⟩
theorem FU(pages:Int)(xs:List aC)(r:aC)(w:0<=pages/\pages<=1048576)(l:f9 xs):zzA 410 false [.vI pages,.val none (bn .O xs),.val (some 2) (aC.enc .O r)] (.tup [none,none]) (JN xs (cr pages xs r)):=by
 have J:=l.1;have j:=pZ pages xs w l;have n:=BS pages r w;have o:=mP xs l;cases k:bN pages xs<;>rw[k]at j
 ·rw[show cr pages xs r=none by unfold cr;rw[CI (by rw[k];simp)]]
  refine fO 111 [] Tryz.func410 rfl ?_ (.inr (n8 _ _))
  refine σP ?_
  rfl
 cases p:rangeIn pages r<;>rw[p]at n
 ·rw[show cr pages xs r=none by unfold cr;rw[CI (by rw[p];simp)]]
  refine fO 111 [] Tryz.func410 rfl ?_ (.inr (n8 _ _))
  refine σP ?_
  rfl
 rw[show cr pages xs r=kF xs r [] false by unfold cr;rw[CJ ⟨k,p⟩]];obtain⟨K,E⟩:=xS k;have F:0<=r.At/\1<=r.a4/\r.At+r.a4<=pages:=by grind [rangeIn]
 refine fO 111 [] Tryz.func410 rfl ?_ (.inr (n8 _ _))
 refine σP ?_
 refine oA (ι:=Nat × aC × List aC × Bool) (λq=>[(1,bC (bn .O xs)),(5,bS (aC.enc .O q.2.1)),(8,bC (bn .own q.2.2.1)),(9,fB (q.2.2.2)),(25,bC (bn .O xs)),(26,fI xs.length),(27,fN (q.1))]) (λq=>q.1<=xs.length/\kF (xs.drop q.1) q.2.1 q.2.2.1 q.2.2.2=kF xs r [] false/\(0<=q.2.1.At/\1<=q.2.1.a4/\q.2.1.At+q.2.1.a4<=pages)/\q.2.2.1.length<=2*q.1) (λq=>xs.length - q.1) ((0,r,[],false)) (⟨I1 _,rfl,F,I1 _⟩) λq c=>?_
 obtain⟨i,d,out,done⟩:=q;obtain⟨G,b,e,t⟩:=c;simp only at G b e t |-;by_cases u:i<xs.length
 ·have g:=ar u
  have L:=E _ (ax u);rw[gT u]at b;by_cases h:ovl (nth xs i) d=true
  ·rw[<-b]
   rw[y1,CJ h];unfold ovl at h;rw[C0]at h
   repeat'(first|refine gE ?_|refine gS (λc=>?_) (λc=>?_)|fail)
   rfl
  have a:=b;rw[y1,CI h]at a;unfold ovl at h;rw[C0]at h;by_cases y:(nth xs i).At+(nth xs i).a4=d.At
  ·rw[CJ y]at a
   repeat'(first|refine gB ?_|refine gS (λc=>?_) (λc=>?_)|fail)
   (exact dt (i+1,⟨(nth xs i).At,(nth xs i).a4+d.a4⟩,out,done) ⟨(by simp only;omega),a,(by simp only;omega),(by simp only;omega)⟩)
  rw[CI y]at a;by_cases D:d.At+d.a4=(nth xs i).At
  ·rw[CJ D]at a
   repeat'(first|refine gB ?_|refine gS (λc=>?_) (λc=>?_)|fail)
   (exact dt (i+1,⟨d.At,d.a4+(nth xs i).a4⟩,out,done) ⟨(by simp only;omega),a,(by simp only;omega),(by simp only;omega)⟩)
  rw[CI D]at a;by_cases H:(nth xs i).At > d.At
  ·cases done with
   | false=>
    rw[CJ ⟨H,rfl⟩]at a
    repeat'(first|refine gB ?_|refine gS (λc=>?_) (λc=>?_)|refine Ap.s2 (aN λ_=>rfl) rfl rfl kd qs rfl ?_)
    ((conv=>whnf)
     refine CP (i+1,d,out++[d,nth xs i],true) ⟨(by simp only;omega),a,e,kd⟩ (by simp only;omega) ?_
     (exact wR))
   | true=>
    rw[CI (by simp)]at a
    repeat'(first|refine gB ?_|refine gS (λc=>?_) (λc=>?_)|refine Cc (aN λ_=>rfl) rfl kd qs rfl ?_)
    ((conv=>whnf)
     refine CP (i+1,d,out++[nth xs i],true) ⟨(by simp only;omega),a,e,kd⟩ (by simp only;omega) ?_
     (exact wR))
  rw[CI ω]at a
  repeat'(first|refine gB ?_|refine gS (λc=>?_) (λc=>?_)|refine Cc (aN λ_=>rfl) rfl kd qs rfl ?_)
  ((conv=>whnf)
   refine CP (i+1,d,out++[nth xs i],done) ⟨(by simp only;omega),a,e,kd⟩ (by simp only;omega) ?_
   (exact wR))
 obtain rfl:i=xs.length:=ω
 rw[List.drop_length]at b;cases done with
 | false=>
  rw[<-b]
  repeat'(first|refine gE ?_|refine Cc (aN λ_=>rfl) rfl kd qs rfl ?_)
  show [C.s eL.own _,B true]=[C.s eL.own _,B true]
  grind [kF,aC.enc]
 | true=>
  rw[<-b]
  refine σE ?_
  rfl
theorem AB[Inhabited α](R:Int->Int->Prop)(n:∀a b c,R a b->R b c->R a c)(f:α->Int)(xs:List α):(∀i,i<xs.length->i=0\/R (f (nth xs (i - 1))) (f (nth xs i)))↔xs.Pairwise (λa b=>R (f a) (f b)):=by
 constructor
 ·intro h
  have l:∀j i,i<j->j<xs.length->R (f (nth xs i)) (f (nth xs j)):=λj=>by
   induction j with
   | zero=>intro i d;omega
   | succ j o=>
    grind
  rw[List.pairwise_iff_getElem];intro i j d k g;have:=l j i g k
  rwa [bB (z4 d),bB (z4 k)]at this
 intro h i d;by_cases e:i=0
 ·exact .inl e
 right
 have:=List.pairwise_iff_getElem.1 h (i - 1) i ω d ω
 rwa [<-bB (z4 (show i - 1<xs.length by omega)),<-bB (z4 d)]at this
theorem Gs[Inhabited α](f:α->Int)(xs:List α):(∀i,i<xs.length->∀o∈xs.take i,f o≠f (nth xs i))↔(xs.map f).Nodup:=by
 unfold List.Nodup;rw[List.pairwise_map,List.pairwise_iff_getElem];constructor
 ·intro h i j b a c
  have:=h j a xs[i] (List.mem_take_iff_getElem.2 ψ)
  rwa [bB (z4 a)]at this
 intro h i b o d;obtain⟨j,a,rfl⟩:=List.mem_take_iff_getElem.1 d;rw[bB (z4 b)]
 grind
def gZ(s:aA)(a:Int):Prop:=16*s.S<=a/\a<=16*s.S+15/\(a - 16*s.S) % csz s.Z=0/\bo s.a6 ((a - 16*s.S) / csz s.Z)=true
def kM(sp:List aA)(a c:Int):Prop:=∃s∈sp,gZ s a/\(c<0\/s.Z=c)
def ZF(la:List a8)(a z:Int):Prop:=∃l∈la,a=16*l.S/\l.y=z
def UZ(sp:List aA)(la:List a8)(o:aW):Prop:=(∃s∈sp,gZ s o.Addr/\s.Z=aU o.y)\/ZF la o.Addr o.y
def q9(sp:List aA)(la:List a8)(a:Int):Prop:=kM sp a (-1)\/∃l∈la,a=16*l.S
theorem qr(f:rN sp la)(a:Int):(∃i,i<sp.length/\(16*(nth sp i).S<=a/\a<=16*(nth sp i).S+15)/\denotes sp la a=tC i (nth sp i) a)\/((∀s∈sp,¬(16*s.S<=a/\a<=16*s.S+15))/\((∃i,i<la.length/\cg (nth la i) a=true/\denotes sp la a = ⟨3,i,0,a - 16*(nth la i).S⟩)\/((∀l∈la,cg l a=false)/\denotes sp la a = ⟨0,0,0,0⟩))):=by
 cases d:sp.findIdx? (eg · a) with
 | some i=>
  obtain⟨b,c,-⟩:=CE.1 d;rw[<-bB (z4 b)]at c
  grind [iJ,rN.sok,ax,denotes]
 | none=>
  have g:=List.findIdx?_eq_none_iff.1 d;refine .inr ⟨λs h j=>?_,?_⟩
  ·grind [iJ,rN.sok]
  cases e:la.findIdx? (cg · a) with
  | some i=>
   obtain⟨b,c,-⟩:=CE.1 e;rw[<-bB (z4 b)]at c
   grind [denotes]
  | none=>grind [denotes]
theorem Ut(l:rN h.J h.H){c:Int} : dR h a c=true↔kM h.J a c:=by
 unfold dR;simp only[I0,IC,C0];constructor
 ·rintro⟨⟨b,f⟩,d⟩
  rcases qr l a with⟨i,j,k,g⟩|⟨-,⟨i,j,-,g⟩|⟨-,g⟩⟩
  ·rw[g]at b f d
   simp only[tC]at b f d;refine⟨_,ax j,⟨k.1,k.2,f,?_⟩,by simpa using d⟩;cases e:bo (nth h.J i).a6 ((a - 16*(nth h.J i).S) / csz (nth h.J i).Z) with
   | true=>rfl
   | false=>rw[e]at b;simp at b
  all_goals grind
 rintro⟨s,n,⟨o,p,q,r⟩,d⟩
 grind [bw,jA,tC]
theorem Di(a:rN sp la)(c:l∈la):(∀s∈sp,¬(16*s.S<=16*l.S/\16*l.S<=16*s.S+15))/\cg l (16*l.S)=true/\∀i,i<la.length->cg (nth la i) (16*l.S)=true->nth la i=l:=by
 have k:=bf (a.lok _ c);have f:=cJ (a.lok _ c);refine⟨λs g n=>?_,?_,λi d e=>?_⟩
 ·exact a.dis s g l c 0 ω ω
 ·grind [rN.lok,cg]
 obtain⟨j,h,rfl⟩:=bw c;have o:=bf (a.lok _ (ax d));have b:=a.lok _ (ax d);unfold cq at b;rw[C0]at b;unfold cg at e;rw[I0,C0]at e;rw[a.one i j d h ((nth la j).S - (nth la i).S).toNat 0 ω ω ω]
theorem Vi(f:rN h.J h.H) : nr h o=true↔UZ h.J h.H o:=by
 unfold nr;simp only[I0,IC,C0];constructor
 ·rintro⟨b,a⟩
  rcases qr f o.Addr with⟨i,d,g,c⟩|⟨-,⟨i,d,-,c⟩|⟨-,c⟩⟩
  ·rw[c]at a b
   simp only[tC]at a b;have e:bo (nth h.J i).a6 ((o.Addr - 16*(nth h.J i).S) / csz (nth h.J i).Z)=true:=ψ
   rw[e]at a;exact .inl ⟨_,ax d,⟨g.1,g.2,b,e⟩,by simpa using a⟩
  ·rw[c]at a b
   simp only at a b;exact .inr ⟨_,ax d,ω,by simpa using a⟩
  grind
 rintro(⟨s,e,⟨k,n,p,q⟩,r⟩|⟨l,j,t,u⟩)
 ·grind [bw,jA,tC]
 obtain⟨w,y,A⟩:=Di f j
 grind [qr,ax]
theorem K9(j:rN sp la)(a:Int):a∈ne sp la↔q9 sp la a:=by
 constructor
 ·intro h
  unfold ne pd at h;obtain⟨n,o,rfl⟩:=O8.1 h;have c:=(S8.1 o).2;unfold m8 at c;simp only[I0,IC,C0]at c;obtain⟨b,d⟩:=c;rcases qr j (n:Int) with⟨i,g,k,f⟩|⟨-,⟨i,g,-,f⟩|⟨-,f⟩⟩
  ·rw[f]at d b
   simp only[tC]at d b;refine .inl ⟨_,ax g,⟨k.1,k.2,b,?_⟩,.inl ω⟩;cases e:bo (nth sp i).a6 (((n:Int) - 16*(nth sp i).S) / csz (nth sp i).Z) with
   | true=>rfl
   | false=>rw[e]at d;simp at d
  ·rw[f]at b
   simp only at b;exact .inr ⟨_,ax g,ω⟩
  grind
 rintro(⟨s,q,⟨r,c,t,u⟩,-⟩|⟨l,p,rfl⟩)
 ·grind [bw,jA,AE,tC]
 obtain⟨w,y,A⟩:=Di j p
 grind [qr,ax,AE]
def RH(xs:List aC)(p:Int):Prop:=∃r∈xs,r.At<=p/\p<r.At+r.a4
theorem ij : bN pages xs=true↔lr xs/\(∀y∈xs,0<=y.At/\1<=y.a4/\y.At+y.a4<=pages)/\1<=pages/\pages<=32:=by
 constructor
 ·grind [xS,bN]
 rintro⟨b,c,d⟩
 unfold bN;simp only[I0,C0];refine⟨cD.2 λi a=>?_,d⟩;have f:=c _ (ax a);unfold iD rangeIn;simp only[I0,C0];refine⟨ω,?_⟩;by_cases e:i=0
 ·exact .inl e
 right
 have:=List.pairwise_iff_getElem.1 b.1 (i - 1) i ω a ω
 rwa [<-bB (z4 (show i - 1<xs.length by omega)),<-bB (z4 a)]at this
theorem L0(h:bN pages xs=true)(p:Int):xs.any (Ah p)=true↔RH xs p:=by
 obtain⟨-,c,d⟩:=ij.1 h;rw[I7];refine⟨λ⟨r,a,b⟩=>⟨r,a,?_⟩,λ⟨r,a,b⟩=>⟨r,a,?_⟩⟩
 all_goals grind [ia,Ah]
theorem A5(i:Int):∀(f:List aC)(r:aC)(out:List aC),lr f->1<=r.a4->(∀y∈f,ovl y r=false)->(∀z∈out,z.At+z.a4<r.At/\∀y∈f,z.At+z.a4<y.At)->lr out->(∀y∈r::(out++f),0<=y.At/\y.At+y.a4<=i)->∃o,kF f r out false=some o/\lr o/\(∀y∈o,0<=y.At/\y.At+y.a4<=i)/\∀p,RH o p↔RH out p\/RH f p\/(r.At<=p/\p<r.At+r.a4)
 | [],r,out,_,l,_,D,g,j=>by
  refine⟨out++[r],by simp[kF],⟨List.pairwise_append.2 ⟨g.1,List.pairwise_singleton ..,ψ⟩,λy k=>?_⟩,ψ,λp=>by grind [RH]⟩;rcases v5.1 k with k|k
  ·exact g.2 y k
  grind
 | y::f,r,out,c,l,E,D,g,j=>by
  have M:=c.2 y ψ;have h:=E y ψ;have F:=c.head;have G:=j y (by simp);have H:=j r (by simp);have J:∀w∈f,¬(w.At<r.At+r.a4/\r.At<w.At+w.a4):=λw d=>by grind [ovl]
  have K:∀w∈f,1<=w.a4:=λw d=>c.2 w ψ
  rw[y1,CI (by rw[h];simp)];unfold ovl at h;rw[v9]at h;by_cases n:y.At+y.a4=r.At
  ·rw[CJ n]
   obtain⟨o,q,t,u,A⟩:=A5 i f ⟨y.At,y.a4+r.a4⟩ out c.tail (by simp only;omega) (λw d=>by grind [ovl]) ψ g ψ
   grind [RH]
  rw[CI n];by_cases B:r.At+r.a4=y.At
  ·rw[CJ B]
   obtain⟨o,q,t,u,A⟩:=A5 i f ⟨r.At,r.a4+y.a4⟩ out c.tail (by simp only;omega) (λw d=>by grind [ovl]) ψ g ψ
   grind [RH]
  rw[CI B];by_cases C:y.At > r.At
  ·have L:r.At+r.a4<y.At:=ω
   rw[CJ ⟨C,rfl⟩,u6 c.tail l ψ];refine⟨_,rfl,⟨?_,λw d=>?_⟩,ψ,λp=>by grind [RH]⟩
   ·rw[SA]
    refine List.pairwise_append.2 ⟨g.1,?_,λa N b j=>?_⟩
    ·show(r::y::f).Pairwise _
     refine List.pairwise_cons.2 ⟨λw d=>?_,c.1⟩
     grind
    grind
   simp only[v5,List.mem_cons,List.not_mem_nil,or_false]at d;rcases d with(d|rfl|rfl)|d
   ·exact g.2 w d
   all_goals grind
  rw[CI λe=>C e.1];obtain⟨o,q,t,u,A⟩:=A5 i f r (out++[y]) c.tail l ψ ψ ⟨List.pairwise_append.2 ⟨g.1,List.pairwise_singleton ..,ψ⟩,λw d=>by
      rcases v5.1 d with d|d
      · exact g.2 w d
      grind⟩ ψ
  grind [RH]
theorem zC{r:aC}(h:bN pages xs=true)(i:0<=r.At/\1<=r.a4/\r.At+r.a4<=pages)(c:∀p,r.At<=p->p<r.At+r.a4->¬RH xs p):∃o,cr pages xs r=some o/\bN pages o=true/\∀p,RH o p↔RH xs p\/(r.At<=p/\p<r.At+r.a4):=by
 obtain⟨j,k,l⟩:=ij.1 h;have b:rangeIn pages r=true:=by grind [rangeIn]
 unfold cr;rw[CJ ⟨h,b⟩];obtain⟨o,n,d,f,q⟩:=A5 pages xs r [] j i.2.1 (λy a=>by
   have:=k y a;unfold ovl;rw[v9];intro g;by_cases e:r.At<=y.At
   · exact c y.At e g.1 ⟨y,a,ω,ω⟩
   exact c r.At ω ω ⟨y,a,ω,g.2⟩) ψ ⟨List.Pairwise.nil,ψ⟩ ψ
 refine⟨o,n,ij.2 ⟨d,λy a=>⟨(f y a).1,d.2 y a,(f y a).2⟩,l⟩,λp=>?_⟩
 grind [RH]
structure Pg(t:aM)(fr:List aC)(sp:List aA)(la:List a8):Prop where
 one:∀l∈la,∀p:Nat,(p:Int)∈lpgs l l.a0.toNat->∀q:Nat,q<t.M.length->(nth t.M q).o≠0->(nth t.M q).j=(nth t.M p).j->q=p
 bnd:∀p∈pgs sp la,p<t.M.length
 own:∀p:Nat,p<t.M.length->((nth t.M p).o≠0↔(p:Int)∈pgs sp la)
 fre:∀p:Nat,p<t.M.length->((nth t.M p).o≠0↔¬RH fr p)
 mesh:∀s∈sp,∀u∈sp,s.S≠u.S->(nth t.M s.S.toNat).j=(nth t.M u.S.toNat).j->meshable s u=true
structure bm(h:ac)(E:List Int):Prop where
 ker:aH h.G=true
 rng:bN (fT h) h.b=true
 lay:bD h.J h.H=true
 srs:h.J.Pairwise λa b=>a.S<b.S
 srl:h.H.Pairwise λa b=>a.S<b.S
 pg:Pg (tbl h) h.b h.J h.H
 mail:bG h.e=true
 nc:h.R.length=h.e.T.length
 quar:hB h.a1=true
 snc:∀x∈h.a1.q,x.b7<=h.b1
 cach:∀c∈h.R,bE c=true
 nums:cv h=true
 osr:h.K.Pairwise λa b=>a.Addr<b.Addr
 onu:∀o∈h.K,1<=o.Id/\o.Id<=h.k - 1/\0<=o.w/\o.w<=h.R.length - 1
 oid:(h.K.map (·.Id)).Nodup
 oow:∀o∈h.K,UZ h.J h.H o
 hca:∀c∈h.R,∀k:Nat,k<c.W.length->∀a∈nth c.W k,kM h.J a k
 hqu:∀x∈h.a1.q,kM h.J x.Addr x.Z
 hfl:∀a∈aY h.e,kM h.J a (-1)
 hin:∀a∈E,kM h.J a (-1)
 nd:(E++holders h).Nodup
 mem:∀a,a∈E++holders h↔q9 h.J h.H a
 job:h.a2=true->kN h.a5=true/\(∃s∈h.J,s.S=h.a5.d.b0)/\∃s∈h.J,s.S=h.a5.d.b2
 noj:h.a2=false->xL h.a5=true
variable{E:List Int}
theorem bm.L(a:bm h E):rN h.J h.H:=rN.of a.lay
theorem F6(t:aM)(f:Int):(pagesOn t f).Nodup:=by grind [List.nodup_range,pagesOn,mf]
def VL{l:List Int}(b:l.Nodup)(d:a∈l)(c:∀x∈l,x=a):l.length=1:=by
 match l with
 | []=>cases d
 | [_]=>rfl
 | x::y::r=>
  exfalso;have e:=c x (by simp);have f:=c y (by simp);rw[e,f]at b;simp at b
theorem fx(a:s∈sp):s.S∈pgs sp la:=by grind [pgs]
theorem io(a:l∈la)(b:p∈lpgs l l.a0.toNat):p∈pgs sp la:=by grind [pgs]
theorem Y6(b:bD h.J h.H=true)(N:bN (fT h) h.b=true)(A:pages0 h=true)(r:tM h=true):Pg (tbl h) h.b h.J h.H:=by
 have B:=rN.of b;obtain⟨C,D,t⟩:=xO A;have E:∀p:Nat,p<fT h->((nth (tbl h).M p).o≠0↔¬RH h.b p):=λp a=>by grind [gv,L0,pages0,Aa]
 refine⟨λl w p c q F e f=>?_,D,t,E,λs G u H J O=>?_⟩
 ·obtain⟨i,y,rfl⟩:=bw w
  obtain⟨k,g,n⟩:=en.1 c;have a:p<fT h:=by grind [io]
  have d:=(t p a).2 (io w c);have K:=C i y k g;rw[<-n,gH a d]at K;have P:(p:Int)∈pagesOn (tbl h) (nth (tbl h).M p).j:=fZ.2 ⟨a,d,rfl⟩;have Q:(q:Int)∈pagesOn (tbl h) (nth (tbl h).M p).j:=fZ.2 ⟨F,e,f⟩
  grind [List.length_eq_one_iff]
 obtain⟨i,y,rfl⟩:=bw G;obtain⟨j,R,rfl⟩:=bw H;have L:∀k,k<h.J.length->ay (tbl h) (nth h.J k).S=nth (tbl h).M (nth h.J k).S.toNat:=λk g=>by
  have S:=aO (B.sok _ (ax g))
  grind [fx,GL,nth]
 unfold tM at r;rw[cD]at r;rcases Nat.lt_trichotomy i j with o|M|o
 all_goals grind [gv,lw,pm]
theorem G7(sp:List aA):d9 sp.length (DY sp)=true↔sp.Pairwise λa b=>a.S<b.S:=by
 rw[cD];refine Iff.trans ?_ (AB (λa b:Int=>a<b) ω (λs:aA=>s.S) sp)
 grind [DY]
theorem Gy(la:List a8):d9 la.length (Do la)=true↔la.Pairwise λa b=>a.S<b.S:=by
 rw[cD];refine Iff.trans ?_ (AB (λa b:Int=>a<b) ω (λs:a8=>s.S) la)
 grind [Do]
theorem YT(o:bD h.J h.H=true)(B:bN (fT h) h.b=true)(h1:h.J.Pairwise λa b=>a.S<b.S)(h2:h.H.Pairwise λa b=>a.S<b.S)(c:Pg (tbl h) h.b h.J h.H):pages0 h=true/\tM h=true:=by
 have u:=rN.of o;constructor
 ·unfold pages0
  simp only[I0];refine⟨⟨⟨(G7 _).2 h1,cD.2 λi l=>?_⟩,O7.2 λp n=>O0 (c.bnd p n)⟩,cD.2 λp n=>?_⟩
  ·unfold wZ
   rw[I0];refine⟨gv ((Gy _).2 h2) l,cD.2 λk w=>?_⟩;have y:=ax l;have C:=bf (u.lok _ y);obtain⟨p,n⟩ : ∃p:Nat,(nth h.H i).S+(k:Nat)=(p:Nat):=⟨((nth h.H i).S+k).toNat,ω⟩
   have q:(p:Int)∈lpgs (nth h.H i) (nth h.H i).a0.toNat:=en.2 ψ;have d:p<fT h:=by have:=c.bnd _ (io (sp:=h.J) y q);exact Int.ofNat_lt.1 this
   have r:=(c.own p d).2 (io y q);unfold E7;rw[C0,n,gH d r];refine VL (F6 ..) (fZ.2 ⟨d,r,rfl⟩) λx D=>?_
   grind [zB,fZ,Pg.one]
  unfold Aa;rw[I0,C0];refine⟨c.own p n,?_⟩;have E:=c.fre p n
  grind [L0]
 unfold tM;refine cD.2 λi l=>cD.2 λj F=>?_
 have g:j<h.J.length:=ω
 have t:∀k,k<h.J.length->ay (tbl h) (nth h.J k).S=nth (tbl h).M (nth h.J k).S.toNat:=λk w=>by
  have G:=aO (u.sok _ (ax w));have H:=c.bnd _ (fx (la:=h.H) (ax w))
  grind [GL,fT,tbl]
 unfold pm;rw[t i l,t j g,IC,C0];by_cases e:(nth (tbl h).M (nth h.J i).S.toNat).j=(nth (tbl h).M (nth h.J j).S.toNat).j
 ·refine .inr (c.mesh _ (ax l) _ (ax g) (λA=>?_) e)
  have:=i6 (f:=(·.S)) u.nd l g A;omega
 exact .inl e
theorem Lf(c:cv h=true)(d:rN h.J h.H):iC h=true↔(h.K.Pairwise λa b=>a.Addr<b.Addr)/\(∀o∈h.K,1<=o.Id/\o.Id<=h.k - 1/\0<=o.w/\o.w<=h.R.length - 1)/\(h.K.map (·.Id)).Nodup/\∀o∈h.K,UZ h.J h.H o:=by
 unfold cv at c;rw[C0]at c;refine Iff.trans ?_ (and_congr (AB (λa b:Int=>a<b) ω (λo:aW=>o.Addr) h.K) (and_congr Iff.rfl (and_congr (Gs (λo:aW=>o.Id) h.K) Iff.rfl)));unfold iC;rw[ia ω ω,cD];have e:∀i,i<h.K.length->(objAt (h.k - 1) h i=true↔(i=0\/(nth h.K (i - 1)).Addr<(nth h.K i).Addr)/\(1<=(nth h.K i).Id/\(nth h.K i).Id<=h.k - 1/\0<=(nth h.K i).w/\(nth h.K i).w<=h.R.length - 1)/\(∀o∈h.K.take i,o.Id≠(nth h.K i).Id)/\UZ h.J h.H (nth h.K i)):=λi f=>by grind [Vi,objAt,jF,jr]
 grind [bw,ax]
def Et(b:rN h.J h.H):lK h=true↔(∀c∈h.R,∀k:Nat,k<c.W.length->∀a∈nth c.W k,kM h.J a k)/\(∀x∈h.a1.q,kM h.J x.Addr x.Z)/\∀a∈aY h.e,kM h.J a (-1):=by
 rw[tY];simp only[O7,gq,cD,wJ,jx,nl,Ut b,and_assoc]
theorem PN : 0<=iX h p↔∃s∈h.J,s.S=p:=by grind [iX,cy,pD]
theorem bm.of(g:fw h=true):bm h []:=by
 unfold fw pK at g;simp only[I0]at g;obtain⟨⟨⟨⟨⟨⟨⟨⟨⟨⟨r,l⟩,e⟩,j⟩,n⟩,c⟩,t⟩,H⟩,o⟩,k,b⟩,d⟩:=g;have p:=rN.of e;rw[yu e j]at n;have f:=j;unfold pages0 at f;simp only[I0]at f;unfold ef at c;simp only[I0,C0]at c;unfold lR at b;simp only[I0,C0]at b;obtain⟨⟨u,w⟩,J⟩:=b;obtain⟨y,A,B,C⟩:=(Lf o p).1 k;obtain⟨D,E,F⟩:=(Et p).1 u;unfold oW at t;have G:=cD.1 f.1.1.2;refine⟨r,l,e,(G7 _).1 f.1.1.1,(Gy _).1 (cD.2 λi K=>?_),Y6 e l j n,c.1.1,c.1.2,c.2,ψ,ψ,o,y,A,B,C,D,E,F,ψ,(by simpa using w),λa=>?_,λq=>?_,λq=>?_⟩
 ·grind [wZ]
 ·grind [K9,wS,wm]
 ·unfold xW at d
  rw[CJ q]at d
  grind [PN]
 grind [xW]
theorem bm.to(b:bm h []):fw h=true:=by
 have c:=b.L;obtain⟨e,g⟩:=YT b.lay b.rng b.srs b.srl b.pg;have d:=(Lf b.nums c).2 ⟨b.osr,b.onu,b.oid,b.oow⟩;have f:=(Et c).2 ⟨b.hca,b.hqu,b.hfl⟩;unfold fw pK;simp only[I0];refine⟨⟨⟨⟨⟨⟨⟨⟨⟨⟨b.ker,b.rng⟩,b.lay⟩,e⟩,by grind [yu,bm.lay]⟩,?_⟩,?_⟩,O7.2 b.cach⟩,b.nums⟩,d,?_⟩,?_⟩
 ·grind [bm.mail,bm.quar,bm.nc,ef]
 ·grind [bm.snc,oW]
 ·unfold lR
  have i:(holders h).Nodup:=by simpa using b.nd
  have j:∀a,a∈holders h↔a∈ne h.J h.H:=λa=>by rw[K9 c,<-b.mem a];simp
  grind [zk,List.Perm.length_eq]
 grind [bm.job,PN,bm.noj,xW]
def dele(xs:List α)(i:Nat):List α:=xs.take i++xs.drop (i+1)
theorem gw(xs:List α)(i:Nat):(dele xs i).Sublist xs:=by
 unfold dele;rw[<-List.eraseIdx_eq_take_drop_succ];grind
theorem G5[Inhabited α]{xs:List α}(a:i<xs.length):xs.Perm (nth xs i::dele xs i):=by
 have:xs=xs.take i++nth xs i::xs.drop (i+1):=by grind [gT,List.take_append_drop]
 conv=>lhs;rw[this]
 exact List.perm_middle
theorem kE{α:Type}[Inhabited α](f:α->List Int)(a:Int):∀(xs:List α)(i:Nat)(y:α),i<xs.length->((xs.set i y).flatMap f).count a+(f (nth xs i)).count a=(xs.flatMap f).count a+(f y).count a
 | [],i,_,h=>by cases h
 | x::xs,0,y,_=>by
  show((y::xs).flatMap f).count a+(f x).count a=((x::xs).flatMap f).count a+(f y).count a
  grind
 | x::xs,i+1,y,h=>by
  have:=kE f a xs i y (by simpa using h);show((x::xs.set i y).flatMap f).count a+(f (nth xs i)).count a=((x::xs).flatMap f).count a+(f y).count a
  grind
theorem oe(a:List (List Int)):a.flatten=a.flatMap λx=>x:=by simp_all
theorem kM.any{c:Int}(h:kM sp a c):kM sp a (-1):=by
 obtain⟨s,b,d,-⟩:=h;exact⟨s,b,d,.inl qs⟩
def bm.cells(a:bm h E)(c:aH k=true)(b:k.F.Q=h.G.F.Q):bm {h with G:=k} E:=
 {a with
   ker:=c
   rng:=by show bN ((k.F.Q.M.length:Nat):Int) h.b=true;rw[b];exact a.rng
   pg:=by show Pg k.F.Q h.b h.J h.H;rw[b];exact a.pg}
theorem bm.dropO(b:bm h E)(e:i<h.K.length)(j:kM h.J (nth h.K i).Addr (-1)):bm {h with K:=dele h.K i} ((nth h.K i).Addr::E):=by
 have f:(E++holders h).Perm (((nth h.K i).Addr::E)++holders {h with K:=dele h.K i}):=by
  have g:=(G5 e).map (·.Addr);refine List.perm_iff_count.2 λa=>?_
  have k:=g.count_eq a
  grind [holders,cM]
 have c:(dele h.K i).Sublist h.K:=gw ..;exact {b with
   osr:=b.osr.sublist c
   onu:=λo d=>b.onu o (c.subset d)
   oid:=b.oid.sublist (c.map _)
   oow:=λo d=>b.oow o (c.subset d)
   hin:=λa l=>by grind [bm.hin]
   nd:=f.nodup_iff.1 b.nd
   mem:=λa=>by grind [bm.mem]}
def o8(c:aB)(k:Nat)(a:Int):aB:=⟨c.W.set k (nth c.W k++[a])⟩
theorem bm.put{t k:Nat}(e:bm h (a::E))(f:t<h.R.length)(g:k<(nth h.R t).W.length)(p:kM h.J a k)(q:bE (o8 (nth h.R t) k a)=true):bm {h with R:=h.R.set t (o8 (nth h.R t) k a)} E:=by
 have i:(a::E++holders h).Perm (E++holders {h with R:=h.R.set t (o8 (nth h.R t) k a)}):=by
  refine List.perm_iff_count.2 λb=>?_
  have r:=kE (λc:aB=>c.W.flatten) b h.R t (o8 (nth h.R t) k a) f;have l:=kE (λx:List Int=>x) b (nth h.R t).W k (nth (nth h.R t).W k++[a]) g;rw[<-oe,<-oe]at l
  grind [o8,holders,cM]
 exact {e with
   nc:=by grind [bm.nc]
   cach:=λc d=>by grind [bm.cach]
   onu:=by show ∀o∈h.K,1<=o.Id/\o.Id<=h.k - 1/\0<=o.w/\o.w<=(h.R.set t _).length - 1;rw[C3];exact e.onu
   hca:=λc d j u b n=>by
     rcases SC d with d|rfl
     all_goals grind [bm.hca,cT,ax,o8]
   hin:=λb n=>e.hin b ψ
   nd:=i.nodup_iff.1 e.nd
   mem:=λb=>by grind [bm.mem]}
theorem bm.toQuar{x:aJ}{q:bh}{out:List aJ}(c:bm h (x.Addr::E))(f:hB q=true)(d:h.a1.q++[x]=out++q.q)(j:x.b7<=h.b1)(k:kM h.J x.Addr x.Z):bm {h with a1:=q} (out.map (·.Addr)++E):=by
 have e:∀y∈out++q.q,y.b7<=h.b1/\kM h.J y.Addr y.Z:=λy a=>by
  rw[<-d]at a;rcases v5.1 a with a|a
  ·exact⟨c.snc y a,c.hqu y a⟩
  grind
 have g:(x.Addr::E++holders h).Perm ((out.map (·.Addr)++E)++holders {h with a1:=q}):=by
  refine List.perm_iff_count.2 λb=>?_
  have i:=O1 (λl:List aJ=>(l.map (·.Addr)).count b) d;simp only[CB,SB,OB,List.map_nil,List.count_singleton]at i
  grind [holders,cM]
 exact {c with
   quar:=f
   snc:=(ψ)
   hqu:=(ψ)
   hin:=λb n=>by grind [kM.any,bm.hin]
   nd:=g.nodup_iff.1 c.nd
   mem:=λb=>by grind [bm.mem]}
def B1(b i:Int):Int:=((BitVec.ofInt IntKind.i64.bits b &&& ~~~BitVec.ofInt IntKind.i64.bits (2 ^ i.toNat)).toNat:Nat)
def nj(s:aA)(i:Int):aA:={s with a6:=B1 s.a6 i}
theorem lZ(b i:Int):bo b i=true↔0<=b/\0<=i/\i<=15/\b.toNat.testBit i.toNat=true:=by grind [bo]
variable{b:Int}
theorem Lt{i:Int}(d:0<=b/\b<=65535)(a:0<=i/\i<=15)(j:Nat):(B1 b i).toNat.testBit j=(b.toNat.testBit j&&decide (i.toNat≠j)):=by
 have e:(2:Int) ^ i.toNat<=32768/\0<=(2:Int) ^ i.toNat:=by
  obtain⟨n,rfl⟩:=t5 a.1;rw[O4];have:(2:Nat) ^ n<=2 ^ 15:=Nat.pow_le_pow_right qs ω
  grind
 unfold B1;rw[O4,BitVec.testBit_toNat,BitVec.getLsbD_and,BitVec.getLsbD_not,<-BitVec.testBit_toNat,<-BitVec.testBit_toNat,uJ ω,uJ ω];rw[show((2:Int) ^ i.toNat).toNat=2 ^ i.toNat by rw[show(2:Int) ^ i.toNat=((2 ^ i.toNat:Nat):Int) by norm_cast,O4],Nat.testBit_two_pow];by_cases c:j<64
 ·rw[show decide (j<IntKind.i64.bits)=true from O0 c,Bool.true_and]
  grind
 rw[Nat.testBit_lt_two_pow (x:=b.toNat) (i:=j) (C7 (show b.toNat<2 ^ 16 by omega) (Nat.pow_le_pow_right qs ω))]
 rfl
theorem Jq{i:Int}(a:0<=b/\b<=65535):0<=B1 b i/\B1 b i<=b:=by grind [uJ,Nat.and_le_left,B1]
theorem Va{i:Int}(a:0<=b/\b<=65535)(c:0<=i/\i<=15)(j:Int):bo (B1 b i) j=true↔bo b j=true/\j≠i:=by grind [lZ,Lt,Jq]
theorem eM(h:bq s=true):0<=s.a6/\s.a6<=65535:=by
 unfold bq at h;simp only[C0]at h;have:=Pp s.Z;omega
theorem Qe(h:bq s=true)(i:Int):bq (nj s i)=true:=by
 have b:=eM h;have a:=Jq (i:=i) b;unfold bq at h;rw[C0]at h;obtain⟨c,d,e,f,j,g⟩:=h;exact O0 ⟨c,d,e,f,a.1,Int.le_trans a.2 g⟩
theorem GW{u:aA}(e:bq s=true){i:Int}(f:0<=i/\i<=15)(h:meshable s u=true):meshable (nj s i) u=true:=by
 unfold meshable at h |-;simp only[I0,C0]at h |-;obtain⟨⟨a,b⟩,c,d,g⟩:=h;refine⟨⟨Qe a i,b⟩,c,d,?_⟩;refine Nat.eq_of_testBit_eq λj=>?_
 grind [Lt,eM,nj]
def eG(s:aA)(a:Int):Int:=(a - 16*s.S) / csz s.Z
theorem y4(h:bq s=true)(b:16*s.S<=a/\a<=16*s.S+15):0<=eG s a/\eG s a<=15:=by
 have c:=aO h
 grind [dm,eG]
theorem NW(h:bq s=true)(c:(a - 16*s.S) % csz s.Z=0)(d:(b - 16*s.S) % csz s.Z=0)(e:eG s a=eG s b):a=b:=by
 have f:=aO h
 grind [dm,eG]
theorem Gk(h:bq s=true)(k:gZ s a)(b:Int):gZ (nj s (eG s a)) b↔gZ s b/\b≠a:=by
 obtain⟨l,n,o,p⟩:=k;have c:=y4 h ⟨l,n⟩;unfold gZ;simp only[nj];rw[Va (eM h) c];constructor
 ·rintro⟨g,i,d,j,f⟩
  exact⟨ψ,λe=>f (by rw[e];rfl)⟩
 rintro⟨⟨g,i,d,j⟩,f⟩
 exact⟨g,i,d,j,λe=>f (NW h d o e)⟩
theorem jW[Inhabited α]{xs:List α}{y z:α}(h:z∈xs.set i y):z=y\/∃j,j<xs.length/\j≠i/\nth xs j=z:=by
 obtain⟨j,a,rfl⟩:=List.mem_iff_getElem.1 h;rw[List.getElem_set];by_cases e:i=j
 ·subst e;simp
 rw[CI e];rw[C3]at a;exact .inr ⟨j,a,λx=>e x.symm,bB ψ⟩
theorem lP[Inhabited α]{xs:List α}(y:α)(a:j<xs.length)(e:j≠i):nth xs j∈xs.set i y:=by
 have:nth (xs.set i y) j=nth xs j:=by grind [cT]
 grind [ax]
theorem kx{xs:List α}(y:α)(a:i<xs.length):y∈xs.set i y:=by grind [List.mem_iff_getElem]
def Uk(k:Int)(a:i<sp.length):(sp.set i (nj (nth sp i) k)).map (·.S)=sp.map (·.S):=by
 rw[CC];refine List.ext_getElem (by simp) λj b c=>?_
 rw[List.getElem_set];split
 ·rename_i e;subst e
  rw[List.getElem_map];show(nth sp i).S=_;rw[bB (z4 a)]
 rfl
def kM.set(q:rN sp la)(k:i<sp.length)(l:gZ (nth sp i) a)(b c:Int):kM (sp.set i (nj (nth sp i) (eG (nth sp i) a))) b c↔kM sp b c/\b≠a:=by
 have g:=q.sok _ (ax k);constructor
 ·rintro⟨s,o,d,h⟩
  rcases jW o with rfl|⟨j,n,r,rfl⟩
  ·have:=(Gk g l b).1 d
   exact⟨⟨_,ax k,this.1,h⟩,this.2⟩
  refine⟨⟨_,ax n,d,h⟩,λe=>?_⟩;subst e;have:=i6 (f:=(·.S)) q.nd k n (by have t:=l.1;have u:=l.2.1;have w:=d.1;have y:=d.2.1;omega);omega
 rintro⟨⟨s,o,d,h⟩,p⟩
 obtain⟨j,n,rfl⟩:=bw o;by_cases e:j=i
 ·subst e
  exact⟨_,kx _ k,(Gk g l b).2 ⟨d,p⟩,h⟩
 exact⟨_,lP _ n e,d,h⟩
theorem bm.give(d:bm h (a::E))(t:i<h.J.length)(w:gZ (nth h.J i) a):bm {h with J:=h.J.set i (nj (nth h.J i) (eG (nth h.J i) a))} E:=by
 have B:=d.L;have G:=B.sok _ (ax t);have O:=y4 G ⟨w.1,w.2.1⟩;have f:=λb c=>kM.set B t w b c
 have H:=Uk (eG (nth h.J i) a) t;generalize J:h.J.set i (nj (nth h.J i) (eG (nth h.J i) a))=sp at f H;have p:pgs sp h.H=pgs h.J h.H:=by grind [pgs]
 have g:=d.nd;rw[List.cons_append]at g;obtain⟨P,g⟩:=List.nodup_cons.1 g;have y:∀b,b∈E++holders h->b≠a:=ψ
 have n:∀b,b∈holders h->b≠a:=ψ
 have Q:∀l∈h.H,16*l.S≠a:=λl R e=>(Di B R).1 _ (ax t) (by have a1:=w.1;have a2:=w.2.1;omega)
 have q:∀s∈sp,∃u∈h.J,u.S=s.S/\(s=u\/s=nj u (eG (nth h.J i) a)):=λs r=>by
  rw[<-J]at r;rcases jW r with rfl|⟨j,hj,S,rfl⟩
  ·exact⟨_,ax t,rfl,.inr rfl⟩
  grind [ax]
 have T:∀u∈h.J,∃s∈sp,s.S=u.S:=λu C=>by
  have:u.S∈sp.map (·.S):=ψ
  grind
 exact {d with
   lay:=by grind [bm.lay,Qe,bD]
   srs:=by
     have A:(h.J.map (·.S)).Pairwise (λa b=>a<b):=List.pairwise_map.2 d.srs
     grind
   pg:=⟨d.pg.one,by rw[p];exact d.pg.bnd,by rw[p];exact d.pg.own,d.pg.fre,λs r u C y U=>by
     obtain⟨V,K,W,X⟩:=q s r;obtain⟨Y,M,Z,hu2⟩:=q u C;have A:=d.pg.mesh V K Y M ω (by rw[W,Z];exact U)
     grind [GW,rN.sok,lw]⟩
   oow:=λo ho=>by
     have N:o.Addr≠a:=n _ (by grind [holders]);rcases d.oow o ho with⟨s,r,A,h2⟩|A
     · obtain⟨u,C,g1,D⟩:=(f o.Addr (aU o.y)).2 ⟨⟨s,r,A,.inr h2⟩,N⟩
       refine .inl ⟨u,C,g1,?_⟩;rcases D with D|D
       · have:=aO (B.sok _ r);omega
       exact D
     exact .inr A
   hca:=λc hc k hk b F=>(f b k).2 ⟨d.hca c hc k hk b F,n b (by
     unfold holders cM;grind [List.mem_flatten,ax])⟩
   hqu:=λx hx=>(f _ _).2 ⟨d.hqu x hx,n _ (by grind [holders])⟩
   hfl:=λb F=>(f _ _).2 ⟨d.hfl b F,n _ (by grind [holders])⟩
   hin:=λb F=>(f _ _).2 ⟨d.hin b ψ,y b ψ⟩
   nd:=g
   mem:=λb=>by
     show b∈E++holders h↔q9 sp h.H b
     grind [bm.mem,q9]
   job:=λhm=>by grind [bm.job]}
def dJ(k:af)(p:Int):Nat->af
 | 0=>k
 | n+1=>cQ (dJ k p n) (p+n)
def kK{k:af}(h:aH k=true)(p:Int):∀n,aH (dJ k p n)=true
 | 0=>h
 | n+1=>E1 _ (kK h p n)
theorem ip(k:af)(p:Int):∀n,(dJ k p n).F.Q.M.length=k.F.Q.M.length/\(dJ k p n).Calls=k.Calls/\(dJ k p n).a=k.a
 | 0=>⟨rfl,rfl,rfl⟩
 | n+1=>by
  obtain⟨a,b,c⟩:=ip k p n;obtain⟨d,e,f⟩:=wh (dJ k p n) (p+n);exact⟨d.trans a,e.trans b,f.trans c⟩
theorem DT(h:aH k=true)(g:0<=p/\p<k.F.Q.M.length)(q:Nat):nth (cQ k p).F.Q.M q=if(q:Int)=p then⟨0,0⟩ else nth k.F.Q.M q:=by
 have c:ay k.F.Q p=nth k.F.Q.M p.toNat:=by grind [ay]
 unfold cQ;split
 ·rename_i a
  split
  ·rename_i i
   rw[c]at a;have b:=(bz.1 (aF.1 h).2.2.1).1 p.toNat ω;unfold oM at b;rw[C0]at b;have d:=b.2.2.1 a;rw[show q=p.toNat by omega];generalize nth k.F.Q.M p.toNat=e at a d;obtain⟨m,f⟩:=e
   grind
  rfl
 grind [uC,cT,oJ]
theorem qC{k:af}(h:aH k=true){p:Int}(a:0<=p):∀n:Nat,p+n<=k.F.Q.M.length->∀q:Nat,nth (dJ k p n).F.Q.M q=if p<=q/\(q:Int)<p+n then⟨0,0⟩ else nth k.F.Q.M q
 | 0,_,q=>by rw[CI ω];rfl
 | n+1,b,q=>by
  have c:=qC h a n ω q;have d:=DT (kK h p n) (p:=p+n) ⟨ω,by grind [ip]⟩ q;show nth (cQ (dJ k p n) (p+n)).F.Q.M q=_
  grind
theorem KJ{β:Type}(f:α->List β){xs b:List α}(h:xs.Sublist b):(xs.flatMap f).Sublist (b.flatMap f):=by
 induction h with
 | slnil=>grind
 | cons a _ c=>grind
 | cons_cons a _ c=>grind
theorem DV(c:bm h E)(Y:1<=n)(w:sp.Sublist h.J)(D:la.Sublist h.H)(j:∀q:Int,p<=q->q<p+n->q∈pgs h.J h.H)(K:0<=p)(F:∀q,q∈pgs sp la↔q∈pgs h.J h.H/\¬(p<=q/\q<p+n)) :
  ∃o,cr (fT h) h.b ⟨p,n⟩ = some o/\aH (dJ h.G p n)=true/\bN ((dJ h.G p n).F.Q.M.length:Nat) o=true/\bD sp la=true/\Pg (dJ h.G p n).F.Q o sp la:=by
 have t:=c.pg.bnd _ (j (p+n - 1) ω ω);have a:=(ip h.G p n).1;have y:p+n<=h.G.F.Q.M.length:=by unfold tbl at t;omega
 have g:=qC c.ker K n y;obtain⟨o,Q,R,S⟩:=zC (r:=⟨p,n⟩) c.rng ⟨K,by simp only;omega,y⟩ λq M N=>by
  simp only at M N;obtain⟨m,rfl⟩:=t5 (show 0<=q by omega);have A:m<(tbl h).M.length:=by unfold tbl;omega
  exact(c.pg.fre m A).1 ((c.pg.own m A).2 (j _ M N))
 refine⟨o,Q,kK c.ker p n,by rw[a];exact R,?_,?_⟩
 ·obtain⟨T,U,V⟩:=gf c.lay
  unfold bD;simp only[I0,C0];exact⟨⟨O7.2 λs d=>O7.1 T s (w.subset d),O7.2 λl d=>O7.1 U l (D.subset d)⟩,V.sublist ((w.map _).append (KJ _ D))⟩
 have i:∀q:Nat,(q:Int)∈pgs sp la->nth (dJ h.G p n).F.Q.M q=nth (tbl h).M q:=λq f=>by rw[g,CI ((F q).1 f).2];rfl
 have b:∀q:Nat,(nth (dJ h.G p n).F.Q.M q).o≠0↔(nth (tbl h).M q).o≠0/\¬(p<=q/\(q:Int)<p+n):=λq=>by
  rw[g];by_cases e:p<=q/\(q:Int)<p+n
  ·rw[CJ e];exact⟨λx=>absurd rfl x,λx=>absurd e x.2⟩
  rw[CI e];exact⟨λx=>⟨x,e⟩,λx=>x.1⟩
 refine⟨λl d q f r O G B=>?_,λq f=>?_,λq f=>?_,λq f=>?_,λs d u H J P=>?_⟩
 ·have C:=(b r).1 G
  rw[a]at O;rw[i q (io d f),g,CI C.2]at B;exact c.pg.one l (D.subset d) q f r O C.1 B
 ·rw[a];exact c.pg.bnd q ((F q).1 f).1
 ·rw[a]at f
  rw[b,F,c.pg.own q f]
 ·rw[a]at f
  rw[b,S,c.pg.fre q f];simp only
  grind
 have k:∀s∈sp,0<=s.S:=λs d=>(aO (c.L.sok s (w.subset d))).1
 have W:=i s.S.toNat (by rw[Int.toNat_of_nonneg (k s d)];exact fx d);have X:=i u.S.toNat (by rw[Int.toNat_of_nonneg (k u H)];exact fx H);rw[W,X]at P;exact c.pg.mesh s (w.subset d) u (w.subset H) J P
theorem gX[Inhabited α]{xs:List α}{k:Nat}{z:α} : z∈dele xs k↔∃j,j<xs.length/\j≠k/\nth xs j=z:=by
 unfold dele;rw[v5];constructor
 ·rintro(h|h)
  ·obtain⟨j,a,rfl⟩:=List.mem_take_iff_getElem.1 h
   exact⟨j,ω,ω,bB ψ⟩
  obtain⟨j,a,rfl⟩:=List.mem_drop_iff_getElem.1 h;exact⟨k+1+j,ω,ω,bB ψ⟩
 rintro⟨j,a,b,rfl⟩
 rw[bB (z4 a)];by_cases e:j<k
 ·grind [List.mem_take_iff_getElem]
 refine .inr (List.mem_drop_iff_getElem.2 ⟨j - (k+1),ω,?_⟩)
 congr 1;omega
theorem ur{q:Int} : q∈pgs sp la↔(∃s∈sp,s.S=q)\/∃l∈la,q∈lpgs l l.a0.toNat:=by grind [pgs]
theorem Hr(h:s.a6=0)(a:Int):¬gZ s a:=by
 rintro⟨-,-,-,b⟩
 rw[lZ,h]at b;simp at b
theorem bm.giveSpan(d:bm h E)(C:i<h.J.length)(r:(nth h.J i).a6=0)(R:h.a2=true->(nth h.J i).S≠h.a5.d.b0/\(nth h.J i).S≠h.a5.d.b2) :
  ∃o,cr (fT h) h.b ⟨(nth h.J i).S,1⟩ = some o/\bm {h with G:=cQ h.G (nth h.J i).S,J:=dele h.J i,b:=o} E:=by
 have D:=d.L;have y:=aO (D.sok _ (ax C));have w:∀q,q∈pgs (dele h.J i) h.H↔q∈pgs h.J h.H/\¬((nth h.J i).S<=q/\q<(nth h.J i).S+(1:Nat)):=λq=>by
  rw[ur,ur];constructor
  ·rintro(⟨s,u,rfl⟩|⟨l,S,T⟩)
   ·obtain⟨j,a,A,rfl⟩:=gX.1 u
    refine⟨.inl ⟨_,ax a,rfl⟩,λe=>A (i6 (f:=(·.S)) D.nd a C ω)⟩
   grind [en,rN.dis,ax]
  grind [bw,gX]
 obtain⟨o,J,F,G,K,H⟩:=DV d (sp:=dele h.J i) (la:=h.H) (p:=(nth h.J i).S) (n:=1) (z5 _) (gw ..) ψ (λq U V=>by grind [fx,nth]) y.1 w;have M:dJ h.G (nth h.J i).S 1=cQ h.G (nth h.J i).S:=by show cQ h.G ((nth h.J i).S+((0:Nat):Int))=_;grind
 rw[M]at F G H;have g:∀b c,kM (dele h.J i) b c↔kM h.J b c:=λb c=>by
  constructor
  ·rintro⟨s,u,t⟩;exact⟨s,(gw ..).subset u,t⟩
  rintro⟨s,u,t,B⟩
  obtain⟨j,a,rfl⟩:=bw u;exact⟨_,gX.2 ⟨j,a,λe=>Hr r b ψ,rfl⟩,t,B⟩
 refine⟨o,J,{d with
   ker:=F
   rng:=G
   lay:=K
   srs:=d.srs.sublist (gw ..)
   pg:=H
   oow:=λN O=>?_
   hca:=λc y k P b r=>(g b k).2 (d.hca c y k P b r)
   hqu:=λx Q=>(g _ _).2 (d.hqu x Q)
   hfl:=λb r=>(g _ _).2 (d.hfl b r)
   hin:=λb r=>(g _ _).2 (d.hin b r)
   mem:=λb=>(d.mem b).trans ?_
   job:=λW=>?_}⟩
 ·rcases d.oow N O with⟨s,u,t,B⟩|t
  ·obtain⟨j,a,rfl⟩:=bw u
   exact .inl ⟨_,gX.2 ⟨j,a,λe=>Hr r _ (by rw[<-e];exact t),rfl⟩,t,B⟩
  exact .inr t
 all_goals grind [bm.job,bw,gX,q9]
theorem bm.dropL{k:Nat}(d:bm h E)(N:i<h.K.length)(w:k<h.H.length)(F:(nth h.K i).Addr=16*(nth h.H k).S) :
  ∃o,cr (fT h) h.b ⟨(nth h.H k).S,(nth h.H k).a0⟩ = some o/\bm {h with G:=dJ h.G (nth h.H k).S (nth h.H k).a0.toNat,H:=dele h.H k,b:=o,K:=dele h.K i} E:=by
 have y:=d.L;have O:=bf (y.lok _ (ax w));have A:∀q,q∈pgs h.J (dele h.H k)↔q∈pgs h.J h.H/\¬((nth h.H k).S<=q/\q<(nth h.H k).S+((nth h.H k).a0.toNat:Nat)):=λq=>by
  rw[ur,ur];constructor
  ·rintro(⟨s,C,rfl⟩|⟨l,f,H⟩)
   ·refine⟨.inl ⟨s,C,rfl⟩,λe=>y.dis s C _ (ax w) (s.S - (nth h.H k).S).toNat ω ω⟩
   obtain⟨j,c,g,rfl⟩:=gX.1 f;refine⟨.inr ⟨_,ax c,H⟩,λe=>?_⟩;obtain⟨m,P,rfl⟩:=en.1 H;exact g (y.one j k c w m ((nth h.H j).S+(m:Int) - (nth h.H k).S).toNat P ω ω)
  grind [bw,gX,en]
 obtain⟨o,J,Q,R,S,T⟩:=DV d (sp:=h.J) (la:=dele h.H k) (p:=(nth h.H k).S) (n:=(nth h.H k).a0.toNat) ω ψ (gw ..) (λq Z q2=>io (ax w) (en.2 ⟨(q - (nth h.H k).S).toNat,ω,ω⟩)) O.2.2.1 A;rw[Int.toNat_of_nonneg ω]at J;have U:(E++holders h).Perm ((nth h.K i).Addr::(E++holders {h with K:=dele h.K i})):=by
  have V:=(G5 N).map (·.Addr);refine List.perm_iff_count.2 λa=>?_
  have r:=V.count_eq a
  grind [holders,cM]
 have t:=U.nodup_iff.1 d.nd;obtain⟨W,t⟩:=List.nodup_cons.1 t;have u:∀b,(b=(nth h.K i).Addr\/b∈E++holders {h with K:=dele h.K i})↔q9 h.J h.H b:=λb=>by grind [bm.mem]
 have B:∀b,b∈E++holders {h with K:=dele h.K i}->b≠(nth h.K i).Addr:=ψ
 refine⟨o,J,{d with
   ker:=Q
   rng:=R
   lay:=S
   srl:=d.srl.sublist (gw ..)
   pg:=T
   osr:=d.osr.sublist (gw ..)
   onu:=λD G=>d.onu D ((gw ..).subset G)
   oid:=d.oid.sublist ((gw ..).map _)
   oow:=λD G=>?_
   nd:=t
   mem:=λb=>?_}⟩
 ·rcases d.oow D ((gw ..).subset G) with r|⟨l,f,K,X⟩
  ·exact .inl r
  obtain⟨j,c,rfl⟩:=bw f;refine .inr ⟨_,gX.2 ⟨j,c,λe=>?_,rfl⟩,K,X⟩;subst e;refine B D.Addr (v5.2 (.inr ?_)) (by rw[F];exact K);unfold holders;grind
 constructor
 ·intro M
  rcases(u b).1 (.inr M) with r|⟨l,f,rfl⟩
  ·exact .inl r
  obtain⟨j,c,rfl⟩:=bw f;exact .inr ⟨_,gX.2 ⟨j,c,λe=>B _ M (by rw[F,e]),rfl⟩,rfl⟩
 rintro(r|⟨l,f,rfl⟩)
 ·refine((u b).2 (.inl r)).resolve_left λe=>?_
  obtain⟨s,C,⟨Y,g2,-⟩,-⟩:=r;exact(Di y (ax w)).1 s C ω
 obtain⟨j,c,g,rfl⟩:=gX.1 f;refine((u _).2 (.inr ⟨_,ax c,rfl⟩)).resolve_left λe=>g ?_
 have Y:=bf (y.lok _ (ax c));rw[F]at e;exact y.one j k c w 0 0 ω ω ω
def ib(h:ac)(p:Int):Bool:=h.a2&&(decide (p=h.a5.d.b0) || decide (p=h.a5.d.b2))
def giveP(h:ac)(i:Nat):ac:={h with G:=cQ h.G (nth h.J i).S,J:=dele h.J i,b:=(cr (fT h) h.b ⟨(nth h.J i).S,1⟩).getD h.b}
def clrS(h:ac)(i:Nat)(a:Int):ac:={h with J:=h.J.set i (nj (nth h.J i) (eG (nth h.J i) a))}
def freeS(h:ac)(i:Nat)(a:Int):ac:=if(nj (nth h.J i) (eG (nth h.J i) a)).a6=0/\ib h (nth h.J i).S=false then giveP (clrS h i a) i else clrS h i a
def Ai(h:ac)(a:Int):Nat:=(iX h (a / 16)).toNat
def freeA(h:ac)(a:Int):ac:=freeS h (Ai h a) a
def cput(c:aB)(k a:Int):Option aB:=if bE c=true/\0<=k/\k<=3/\bE (o8 c k.toNat a)=true then some (o8 c k.toNat a) else none
def recyc(t:Nat)(h:ac)(a:Int):ac:=match cput (nth h.R t) (nth h.J (Ai h a)).Z a with
 | some c=>{h with R:=h.R.set t c}
 | none=>freeA h a
theorem bm.at(e:bm h E)(c:kM h.J a (-1)):Ai h a<h.J.length/\gZ (nth h.J (Ai h a)) a/\iX h (a / 16)=(Ai h a:Nat):=by
 obtain⟨s,d,b,-⟩:=c;obtain⟨i,f,rfl⟩:=bw d;have g:(nth h.J i).S=a / 16:=by have j:=b.1;have k:=b.2.1;omega
 grind [yb,bm.L,Ai]
theorem U0(e:ib h p=false)(a:h.a2=true):p≠h.a5.d.b0/\p≠h.a5.d.b2:=by grind [ib]
def bm.freeS{h:ac}{E:List Int}{a:Int}{i:Nat}(f:bm h (a::E))(b:i<h.J.length)(g:gZ (nth h.J i) a):bm (freeS h i a) E:=by
 have c:=f.give b g;unfold Ab.freeS;split
 ·rename_i e
  have d:nth (clrS h i a).J i=nj (nth h.J i) (eG (nth h.J i) a):=by unfold clrS;simp only[cT,true_and];rw[CJ b]
  obtain⟨o,j,k⟩:=bm.giveSpan (h:=clrS h i a) c (i:=i) (by unfold clrS;simp only[C3];exact b) (by rw[d];exact e.1) (λl=>by rw[d];exact U0 e.2 l);unfold giveP;rw[j];exact k
 exact c
theorem bm.freeA{h:ac}{E:List Int}{a:Int}(b:bm h (a::E)):bm (freeA h a) E:=by
 obtain⟨c,d,-⟩:=b.at (b.hin a ψ);exact b.freeS c d
theorem tQ(h:bE c=true):c.W.length=4:=by grind [bE]
theorem bm.recyc{h:ac}{E:List Int}{a:Int}{t:Nat}(b:bm h (a::E))(f:t<h.R.length):bm (recyc t h a) E:=by
 obtain⟨g,i,-⟩:=b.at (b.hin a ψ);unfold Ab.recyc;split
 ·rename_i c d
  unfold cput at d;split at d
  ·rename_i e
   cases d;obtain⟨j,l,n,k⟩:=e;exact b.put f (by rw[tQ j];omega) ⟨_,ax g,i,.inr ω⟩ k
  cases d
 exact b.freeA
def Ep(h:ac)(i:Nat)(a:Int):(freeS h i a).R=h.R/\(freeS h i a).K=h.K/\(freeS h i a).G.Calls=h.G.Calls/\(freeS h i a).e=h.e/\(freeS h i a).a5=h.a5/\(freeS h i a).b1=h.b1/\(freeS h i a).a1=h.a1/\(freeS h i a).G.a=h.G.a:=by
 unfold freeS;split
 ·obtain⟨-,b,c⟩:=wh (clrS h i a).G (nth (clrS h i a).J i).S
  exact⟨rfl,rfl,b,rfl,rfl,rfl,rfl,c⟩
 exact⟨rfl,rfl,rfl,rfl,rfl,rfl,rfl,rfl⟩
theorem wb(t:Nat)(h:ac)(a:Int):(recyc t h a).R.length=h.R.length/\(recyc t h a).K=h.K/\(recyc t h a).G.Calls=h.G.Calls/\(recyc t h a).e=h.e/\(recyc t h a).a5=h.a5/\(recyc t h a).b1=h.b1/\(recyc t h a).a1=h.a1/\(recyc t h a).G.a=h.G.a:=by
 unfold recyc;split
 ·grind
 obtain⟨b,c⟩:=Ep h (Ai h a) a;exact⟨O1 _ b,c⟩
def recycs(t:Nat)(h:ac)(az:List Int):ac:=az.foldl (recyc t) h
theorem gt(t:Nat):∀(az:List Int)(h:ac),(recycs t h az).R.length=h.R.length/\(recycs t h az).K=h.K/\(recycs t h az).G.Calls=h.G.Calls/\(recycs t h az).e=h.e/\(recycs t h az).a5=h.a5/\(recycs t h az).b1=h.b1/\(recycs t h az).a1=h.a1/\(recycs t h az).G.a=h.G.a
 | [],h=>⟨rfl,rfl,rfl,rfl,rfl,rfl,rfl,rfl⟩
 | a::az,h=>by
  obtain⟨b,c,d,e,f,g,i,j⟩:=gt t az (recyc t h a);obtain⟨k,l,n,o,p,q,r,u⟩:=wb t h a;exact⟨b.trans k,c.trans l,d.trans n,e.trans o,f.trans p,g.trans q,i.trans r,j.trans u⟩
theorem bm.recycs{t:Nat}{E:List Int} : ∀{az:List Int}{h:ac},bm h (az++E)->t<h.R.length->bm (recycs t h az) E
 | [],h,b,_=>b
 | a::az,h,b,c=>bm.recycs (az:=az) (h:=Ab.recyc t h a) (b.recyc c) (by grind [wb])
def qc(l:List aJ):Int:=quarCells l l.length
def kh(room:Int):List aJ->Nat
 | []=>0
 | x::xs=>if room<qc (x::xs) then kh room xs+1 else 0
def Ts(q:bh)(x:aJ):bh:=⟨q.c0,(q.q++[x]).drop (kh q.c0 (q.q++[x]))⟩
def yf(q:bh)(x:aJ):List aJ:=(q.q++[x]).take (kh q.c0 (q.q++[x]))
def Ec(room:Int):∀l,kh room l<=l.length
 | []=>z5 _
 | x::xs=>by unfold kh;split;(have:=Ec room xs;simp only[List.length_cons];omega);omega
theorem A8{room:Int}(a:0<=room):∀l:List aJ,qc (l.drop (kh room l))<=room
 | []=>a
 | x::xs=>by
  unfold kh;split
  ·exact A8 a xs
  grind
theorem yO{room:Int} : ∀{l:List aJ}{k:Nat},k<kh room l->room<qc (l.drop k)
 | [],k,h=>by cases h
 | x::xs,0,h=>by grind [kh]
 | x::xs,k+1,h=>by
  unfold kh at h;split at h
  ·exact yO (l:=xs) ω
  omega
theorem jv{q:bh} : hB q=true↔(∀x∈q.q,0<=x.Z/\x.Z<=3/\0<=x.Addr/\0<=x.b7)/\(q.q.Pairwise λa b=>a.b7<=b.b7)/\(q.q.map (·.Addr)).Nodup/\0<=q.c0/\q.c0<=500/\qc q.q<=q.c0:=by
 refine Iff.trans ?_ (and_congr Iff.rfl (and_congr (AB (λa b:Int=>a<=b) ω (λs:aJ=>s.b7) q.q) (and_congr (Gs (λs:aJ=>s.Addr) q.q) Iff.rfl)));unfold hB qc
 grind [cD,List.any_eq_false,bw,ax,nu,fS]
theorem Wd{q:bh}{x:aJ}(h:hB q=true)(e:0<=x.Z/\x.Z<=3/\0<=x.Addr/\0<=x.b7)(f:∀y∈q.q,y.b7<=x.b7)(g:∀y∈q.q,y.Addr≠x.Addr):hB (Ts q x)=true:=by
 obtain⟨i,j,k,c,d,l⟩:=jv.1 h;have a:(Ts q x).q.Sublist (q.q++[x]):=List.drop_sublist ..;refine jv.2 ⟨λy b=>?_,List.Pairwise.sublist a ?_,List.Nodup.sublist (a.map _) ?_,c,d,A8 c _⟩
 ·rcases v5.1 (a.subset b) with b|b
  all_goals grind
 ·grind
 grind
def jS(r:List Int)(o:Nat):Nat->List Int
 | 0=>r
 | n+1=>(jS r o n).set (o+n) 0
def fQ(k:af)(a:Int):Nat:=(ay k.F.Q (a / 16)).j.toNat
def fj(k:af)(a:Int)(n:Nat):af:={k with F:=⟨⟨k.F.V.U.set (fQ k a) (jS (nth k.F.V.U (fQ k a)) (a % 16).toNat n),k.F.V.a3⟩,k.F.Q⟩}
theorem q8(r:List Int)(o:Nat):∀n,(jS r o n).length=r.length
 | 0=>rfl
 | n+1=>by unfold jS;rw[C3,q8 r o n]
def Hg{r:List Int}{o:Nat} : ∀{n:Nat}{v:Int},v∈jS r o n->v∈r\/v=0
 | 0,v,h=>.inl h
 | n+1,v,h=>by
  rcases SC h with h|h
  ·exact Hg h
  exact .inr h
theorem M0(h:aH k=true)(a:Int)(n:Nat):aH (fj k a n)=true:=by
 obtain⟨g,i,l,o,p⟩:=aF.1 h;obtain⟨q,r,t,c⟩:=bi.1 i;refine aF.2 ⟨g,bi.2 ⟨?_,?_,?_,λj b=>?_⟩,l,o,p⟩
 ·grind [fj]
 ·grind [fj]
 ·grind [fj]
 simp only[fj,C3]at b |-;simp only[cT];split
 ·rename_i e
  have d:=c j b;unfold jV at d |-;simp only[I0,C0,O7]at d |-;rw[e.1]at *;refine⟨by grind [q8],λv f=>?_⟩;rcases Hg f with f|rfl
  all_goals grind [kQ]
 exact c j b
def wy(h:ac)(a:Int):Nat:=(h.H.findIdx? λl=>decide (l.S*16=a)).getD 0
def freeL(h:ac)(i k:Nat):ac:={h with G:=dJ h.G (nth h.H k).S (nth h.H k).a0.toNat,H:=dele h.H k,b:=(cr (fT h) h.b ⟨(nth h.H k).S,(nth h.H k).a0⟩).getD h.b,K:=dele h.K i}
def kv(h:ac)(o:aW):aJ:=⟨o.Addr,aU o.y,h.b1⟩
def inQuar(h:ac)(i:Nat):ac:={h with G:=fj h.G (nth h.K i).Addr (csz (aU (nth h.K i).y)).toNat,K:=dele h.K i,a1:=Ts h.a1 (kv h (nth h.K i))}
def Q7(h:ac)(t i:Nat):ac:=recycs t (inQuar h i) ((yf h.a1 (kv h (nth h.K i))).map (·.Addr))
def freeOb(h:ac)(t i:Nat):ac × Int:=
 if aU (nth h.K i).y<0 then(freeL h i (wy h (nth h.K i).Addr),0)
 else if(ay (tbl h) ((nth h.K i).Addr / 16)).o=1 then(h,5)
 else(Q7 h t i,0)
theorem wU(n:l∈h.H)(e:a=16*l.S):wy h a<h.H.length/\a=16*(nth h.H (wy h a)).S/\(∀j,j<wy h a->(nth h.H j).S*16≠a)/\h.H.findIdx? (λl=>decide (l.S*16=a))=some (wy h a):=by
 cases c:h.H.findIdx? λl=>decide (l.S*16=a) with
 | none=>
  grind
 | some k=>
  obtain⟨b,d,f⟩:=CE.1 c;have g:wy h a=k:=by grind [wy]
  rw[g];rw[<-bB (z4 b),C0]at d;refine⟨b,ω,λj i=>?_,rfl⟩;have:=f j i;rw[<-bB (z4 (show j<h.H.length by omega))]at this;simpa using this
theorem eS(a:bm h E)(f:o∈h.K):(aU o.y<0->ZF h.H o.Addr o.y)/\(¬aU o.y<0->(∃s∈h.J,gZ s o.Addr/\s.Z=aU o.y)/\aU o.y<=3):=by
 rcases a.oow o f with⟨s,g,b,c⟩|⟨l,d,b,c⟩
 ·have i:=aO (a.L.sok s g)
  grind
 have j:=cJ (a.L.lok l d);refine⟨λ_=>⟨l,d,b,c⟩,λe=>absurd ?_ e⟩
 grind [aU]
theorem bm.inQuar{h:ac}{i:Nat}(a:bm h [])(g:i<h.K.length)(r:¬aU (nth h.K i).y<0):bm (inQuar h i) ((yf h.a1 (kv h (nth h.K i))).map (·.Addr)):=by
 obtain⟨⟨s,j,l,t⟩,u⟩:=(eS a (ax g)).2 r;have b:kM h.J (nth h.K i).Addr (aU (nth h.K i).y):=⟨s,j,l,.inr t⟩
 have c:=a.nums;unfold cv at c;rw[C0]at c;have w:=aO (a.L.sok s j);have n:=a.dropO g b.any;have A:=n.cells (k:=fj h.G (nth h.K i).Addr (csz (aU (nth h.K i).y)).toNat) (M0 a.ker _ _) rfl;have d:∀y∈h.a1.q,y.Addr≠(nth h.K i).Addr:=λy o e=>by
  have f:=n.nd;rw[List.cons_append,List.nil_append]at f
  grind [holders]
 have p:=bm.toQuar (x:=kv h (nth h.K i)) (q:=Ts h.a1 (kv h (nth h.K i))) (out:=yf h.a1 (kv h (nth h.K i))) A (Wd a.quar ⟨by show 0<=aU _;omega,u,by show 0<=(nth h.K i).Addr;have:=l.1;omega,c.2.2.1⟩ (λy o=>a.snc y o) d) (by grind [List.take_append_drop,yf,Ts]) (I9 _) b;rw[List.append_nil]at p;exact p
theorem bm.freeOb{h:ac}{t i:Nat}(a:bm h [])(c:i<h.K.length)(e:t<h.R.length):bm (freeOb h t i).1 []:=by
 unfold Ab.freeOb;split
 ·rename_i b
  obtain⟨l,f,d,-⟩:=(eS a (ax c)).1 b;obtain⟨g,j,-⟩:=wU f d
  grind [bm.dropL,freeL]
 rename_i b;split
 ·exact a
 have d:=a.inQuar c b;refine bm.recycs (E:=[]) ?_ e
 grind
theorem Q5:∀{H L:List Int},H.Nodup->(∀x∈H,x∈L)->H.length<=L.length
 | [],L,_,_=>I1 _
 | y::H,L,b,c=>by
  have d:y∈L:=ψ
  have a:=List.nodup_cons.1 b;have:=Q5 (L:=L.erase y) a.2 ψ
  grind
theorem By{H:List Int}(a:H.Nodup)(b:∀x∈H,0<=x/\x<n):H.length<=n:=by
 have:=Q5 (L:=(List.range n).map λ(i:Nat)=>(i:Int)) a λx c=>O8.2 ⟨x.toNat,List.mem_range.2 ψ,ψ⟩
 simpa using this
theorem iu{f:α->Int}{xs:List α}(h:xs.Pairwise λa b=>f a<f b):(xs.map f).Nodup:=ψ
theorem UL:∀(b:List (List Int))(k:Nat)(s:List Int),(iZ k s b).isSome=true->∀l∈b,l.length<=8
 | [],_,_,_,l,a=>by cases a
 | x::b,k,s,h,l,a=>by
  simp only[iZ]at h;cases e:gI k s x with
  | none=>grind
  | some c=>
   rw[e]at h;rcases List.mem_cons.1 a with rfl|a
   ·grind [gI]
   exact UL b (k+1) c h l a
theorem ee(h:bE c=true):c.W.length=4/\∀l∈c.W,l.length<=8:=by grind [UL,bE]
structure oH(h:ac):Prop where
 cells:h.G.F.V.U.length<=32
 row:∀r∈h.G.F.V.U,r.length=16
 used:h.G.F.V.a3.length<=32
 ents:h.G.F.Q.M.length<=32
 ref:h.G.a.length<=40
 free:h.b.length<=32
 spans:h.J.length<=32
 larges:h.H.length<=32
 objs:h.K.length<=512
 caches:h.R.length<=4
 lists:∀c∈h.R,c.W.length=4/\∀l∈c.W,l.length<=8
 quar:h.a1.q.length<=512
def kM.bd(b:bm h E){c:Int}(d:kM h.J a c):0<=a/\a<512:=by
 obtain⟨s,e,⟨f,g,-⟩,-⟩:=d;have i:=aO (b.L.sok s e);omega
theorem bm.lens(a:bm h E):oH h:=by
 obtain⟨G,k,p,J,K,M,q⟩:=aF.1 a.ker;obtain⟨N,t,O,P⟩:=bi.1 k;obtain⟨Q,R,u⟩:=bz.1 p;obtain⟨w,S,T⟩:=ij.1 a.rng;obtain⟨U,V,A,W⟩:=jv.1 a.quar;have g:=a.mail;unfold bG at g;simp only[I0,C0]at g;have B:=a.nc;refine⟨t,λr i=>?_,ω,u,q,?_,?_,?_,?_,ω,λc C=>ee (a.cach c C),?_⟩
 ·obtain⟨j,X,rfl⟩:=bw i
  grind [jV]
 ·have:=By (H:=h.b.map (·.At)) (n:=32) (iu (w.1.imp_of_mem ψ)) λx b=>by
   obtain⟨r,i,rfl⟩:=O8.1 b
   grind
  simpa using this
 ·have:=By (H:=h.J.map (·.S)) (n:=32) a.L.nd λx b=>by
   obtain⟨s,d,rfl⟩:=O8.1 b;have:=aO (a.L.sok s d);omega
  simpa using this
 ·have:=By (H:=h.H.map (·.S)) (n:=32) (iu a.srl) λx b=>by
   obtain⟨l,f,rfl⟩:=O8.1 b;have:=bf (a.L.lok l f);omega
  simpa using this
 ·have:=By (H:=h.K.map (·.Addr)) (n:=512) (iu a.osr) λx b=>by
   obtain⟨o,D,rfl⟩:=O8.1 b;rcases a.oow o D with⟨s,d,⟨Y,Z,-⟩,-⟩|⟨l,f,e,-⟩
   ·have:=aO (a.L.sok s d);omega
   have:=bf (a.L.lok l f);omega
  simpa using this
 have:=By (H:=h.a1.q.map (·.Addr)) (n:=512) A λx b=>by
  obtain⟨y,F,rfl⟩:=O8.1 b;exact(a.hqu y F).bd a
 simpa using this
theorem oH.sml(a:oH h)(b:aH h.G=true)(d:aI.sml h.e)(e:bW.sml h.a5):ac.sml h:=
 ⟨bk b,⟨by grind [oH.free],λ_ _=>tV1⟩,⟨by grind [oH.spans],λ_ _=>tV1⟩,⟨by grind [oH.larges],λ_ _=>tV1⟩,⟨by grind [oH.objs],λ_ _=>tV1⟩,⟨by grind [oH.caches],λc f=>⟨by grind [oH.lists],λl g=>by have:=(a.lists c f).2 l g;show l.length<=1048576;omega⟩⟩,d,⟨by grind [oH.quar],λ_ _=>tV1⟩,e⟩
theorem YS:∀(x:List aC),cA x=2*x.length
 | []=>rfl
 | x::xs=>by simp only[cA,YS xs,List.length_cons,aC.cnt];omega
theorem YY:∀(x:List aA),dA x=3*x.length
 | []=>rfl
 | x::xs=>by simp only[dA,YY xs,List.length_cons,aA.cnt];omega
theorem Y8:∀(x:List a8),dd x=3*x.length
 | []=>rfl
 | x::xs=>by simp only[dd,Y8 xs,List.length_cons,a8.cnt];omega
theorem Ze:∀(x:List aW),fJ x=4*x.length
 | []=>rfl
 | x::xs=>by simp only[fJ,Ze xs,List.length_cons,aW.cnt];omega
theorem Y9:∀(x:List aJ),fF x=3*x.length
 | []=>rfl
 | x::xs=>by simp only[fF,Y9 xs,List.length_cons,aJ.cnt];omega
theorem Zj:∀(x:List aS),fG x=2*x.length
 | []=>rfl
 | x::xs=>by simp only[fG,Zj xs,List.length_cons,aS.cnt];omega
theorem VZ{m:Nat} : ∀(x:List (List Int)),(∀y∈x,y.length<=m)->gc x<=m*x.length
 | [],_=>I1 _
 | x::xs,h=>by
  have b:=VZ xs λy a=>h y (CA _ a)
  grind [Nat.mul_add,gc,ek]
theorem YJ:∀(x:List aB),(∀c∈x,c.W.length=4/\∀l∈c.W,l.length<=8)->dI x<=32*x.length
 | [],_=>I1 _
 | c::xs,h=>by
  have b:=YJ xs ψ;obtain⟨d,a⟩:=h c ψ;have e:=VZ c.W a
  grind [dI,aB.cnt]
theorem oH.cnt(a:oH h):ac.cnt h<=6000+aI.cnt h.e+bW.cnt h.a5:=by
 have b:=VZ (m:=16) h.G.F.V.U λr c=>by grind [oH.row]
 have d:=YJ h.R a.lists;obtain⟨e,f,g,i,j,k,l,n,o,l10,l11,l12⟩:=a;unfold ac.cnt af.cnt aL.cnt aQ.cnt aM.cnt bh.cnt j8 ek
 grind [YS,YY,Y8,Ze,Y9,Zj]
def jO(a:Int)(o:aW):Bool:=decide (o.Addr=a)
def kR(h:ac)(a:Int):Nat:=(cy (jO a) h.K).toNat
theorem bm.objAt(g:bm h E)(k:o∈h.K):kR h o.Addr<h.K.length/\nth h.K (kR h o.Addr)=o/\cy (jO o.Addr) h.K=(kR h o.Addr:Nat):=by
 obtain⟨i,c,rfl⟩:=bw k;have l:cy (jO (nth h.K i).Addr) h.K=(i:Nat):=dO (ar c) (by unfold jO;simp) λj z n d=>by
  have a:=bB d;have b:=(C4.1 d).1;subst a;unfold jO;refine C1 λe=>?_
  have:=i6 (f:=(·.Addr)) (iu g.osr) b c e;omega
 grind [kR]
theorem uB(k:af)(p:Int)(n:Nat):(dJ k p n).Calls=k.Calls/\(dJ k p n).a=k.a:=(ip k p n).2
def Uj(y:aC)(a:List aC):dD [] (y::a)=dD [y] a:=by rw[dD];rfl
theorem ML[Inhabited α]{xs:List α}(h:xs≠[]):xs.getLast? = some (nth xs (xs.length - 1)):=by grind [List.length_pos_iff,ar]
theorem TZ{xs:List α}(h:xs≠[])(v:α):xs.dropLast++[v]=xs.set (xs.length - 1) v:=by
 have a:0<xs.length:=ψ
 refine List.ext_getElem kd λi b c=>?_
 grind
theorem Vp{a:List aC}(h:out≠[])(e:(nth out (out.length - 1)).At+(nth out (out.length - 1)).a4=y.At):dD out (y::a)=dD (out.set (out.length - 1) ⟨(nth out (out.length - 1)).At,(nth out (out.length - 1)).a4+y.a4⟩) a:=by grind [ML,TZ,dD]
theorem VY{a:List aC}(h:out≠[])(e:¬(nth out (out.length - 1)).At+(nth out (out.length - 1)).a4=y.At):dD out (y::a)=dD (out++[y]) a:=by grind [ML,dD]
theorem xu(xs:List aC)(w:xs.length<=4194304)(n:∀y∈xs,0<=y.At/\1<=y.a4/\y.At+y.a4<=1048576):zzA 453 false [.val none (bn .O xs)] .one (bn .own (dD [] xs)):=by
 refine fO 63 [(6,21,[15,16,17,18,19,20,21,22,23,24,25,26,27,28,29,30,31,32,33,34,35]),(7,15,[38,39,40,41,42,43,44,45,46,47,48,49,50,51,52])] Tryz.func453 rfl ?_ (.inr (jY _))
 refine σP ?_
 refine oA (ι:=Nat × List aC) (λq=>[(0,bC (bn .O xs)),(3,bC (bn .own q.2)),(4,fN (q.1))]) (λq=>q.1<=xs.length/\dD q.2 (xs.drop q.1)=dD [] xs/\q.2.length<=q.1/\∀y∈q.2,0<=y.At/\1<=y.a4/\y.At+y.a4<=1048576) (λq=>xs.length - q.1) ((0,[])) ψ λq o=>?_
 obtain⟨i,out⟩:=q;obtain⟨p,a,g,b⟩:=o;simp only at p a g b |-;by_cases h:i<xs.length
 ·have j:=ar h
  have B:=n _ (ax h);rw[gT h]at a;by_cases k:out=[]
  ·subst k
   rw[Uj]at a;have D:([]:List aC).length=0:=rfl
   repeat'(first|refine gE ?_|refine CY (show List.length _=0 from rfl) ?_|refine Cc (λr t=>by cases t) rfl (by simp) qs rfl ?_)
   ((conv=>whnf)
    refine CP (i+1,[nth xs i]) ψ (by simp only;omega) ?_
    (exact wR))
  have l:0<out.length:=ψ
  have d:out[((out.length:Int) - 1).toNat]? = some (nth out (out.length - 1)):=by
   rw[show((out.length:Int) - 1).toNat=out.length - 1 by omega];grind [ar]
  have u:=b _ (ax (xs:=out) (i:=out.length - 1) ω);by_cases e:(nth out (out.length - 1)).At+(nth out (out.length - 1)).a4=(nth xs i).At
  ·rw[Vp k e]at a
   repeat'(first|refine gB ?_|refine CQ ω (aa d) ?_|refine CR rfl rfl (aa d) rfl (O2 rfl) rfl ?_)
   ((conv=>whnf)
    refine CP (i+1,out.set (out.length - 1) ⟨(nth out (out.length - 1)).At,(nth out (out.length - 1)).a4+(nth xs i).a4⟩) ⟨(by simp only;omega),a,ψ,(λy c=>?_)⟩ (by simp only;omega) ?_)
   ·rcases SC c with c|rfl
    ·exact b y c
    simp only;omega
   (repeat'(first|exact tV1|rfl|exact CK rfl (CK (O1 (C.s eL.own) (by rw[show((out.length:Int) - 1).toNat=out.length - 1 by omega,CC];rfl)) tV1)|refine CK ?_ ?_))
  rw[VY k e]at a
  repeat'(first|refine gB ?_|refine CQ ω (aa d) ?_|refine Cc (aN λ_=>rfl) rfl kd qs rfl ?_)
  ((conv=>whnf)
   refine CP (i+1,out++[nth xs i]) ⟨(by simp only;omega),a,kd,(λy c=>?_)⟩ (by simp only;omega) ?_)
  ·rcases v5.1 c with c|c
   all_goals simp_all
  (exact wR)
 obtain rfl:i=xs.length:=ω
 rw[List.drop_length]at a
 refine σE ?_
 rw[<-a];rfl
def Gj(r y:aC)(a:List aC)(put:Bool):qk r (y::a) put=if ovl y r then none else if !put&&decide (y.At > r.At) then(qk r a true).map λt=>r::y::t else(qk r a put).map λt=>y::t:=by rw[qk]
theorem pV(pages:Int)(xs:List aC)(r:aC)(D:0<=pages/\pages<=1048576)(E:f9 xs):zzA 364 false [.vI pages,.val none (bn .O xs),.val (some 2) (aC.enc .O r)] (.tup [none,none]) (JN xs (cr pages xs r)):=by
 have o:=E.1;have j:=pN pages xs D E;have p:=Br pages r D;cases k:bN pages xs<;>rw[k]at j
 ·rw[show cr pages xs r=none by unfold cr;rw[CI (by rw[k];simp)]]
  refine fO 82 [] Tryz.func364 rfl ?_ (.inr (n8 _ _))
  repeat'(first|refine gP ?_|refine CW (λ_=>rfl) (λ_=>rfl) o qs ?_)
  rfl
 cases u:rangeIn pages r<;>rw[u]at p
 ·rw[show cr pages xs r=none by unfold cr;rw[CI (by rw[u];simp)]]
  refine fO 82 [] Tryz.func364 rfl ?_ (.inr (n8 _ _))
  repeat'(first|refine gP ?_|refine CW (λ_=>rfl) (λ_=>rfl) o qs ?_)
  rfl
 obtain⟨F,G⟩:=xS k;have l:0<=r.At/\1<=r.a4/\r.At+r.a4<=pages:=by grind [rangeIn]
 rw[show cr pages xs r=(qk r xs false).map (dD []) by unfold cr;rw[CJ ⟨k,u⟩,Gu (pages:=pages) F l.2.1 ψ]];refine fO 82 [] Tryz.func364 rfl ?_ (.inr (n8 _ _))
 repeat'(first|refine gP ?_|refine CW (λ_=>rfl) (λ_=>rfl) o qs ?_)
 refine oA (ι:=Nat × List aC × Bool) (λq=>[(1,bC (bn .O xs)),(5,bS (aC.enc .O r)),(8,bC (bn .own xs)),(9,bC (bn .own q.2.1)),(10,fB (q.2.2)),(11,fN (q.1))]) (λq=>q.1<=xs.length/\(qk r (xs.drop q.1) q.2.2).map (q.2.1++·)=qk r xs false/\q.2.1.length<=q.1+q.2.2.toNat/\(∀y∈q.2.1,0<=y.At/\1<=y.a4/\y.At+y.a4<=1048576)) (λq=>xs.length - q.1) ((0,[],false)) (⟨I1 _,by simp,by simp,by simp⟩) λq d=>?_
 obtain⟨i,out,put⟩:=q;obtain⟨H,b,c,e⟩:=d;simp only at H b c e |-;have J:0<=r.At/\1<=r.a4/\r.At+r.a4<=1048576:=ω
 by_cases w:i<xs.length
 ·have n:=ar w
  have K:=G _ (ax w);have B:0<=(nth xs i).At/\1<=(nth xs i).a4/\(nth xs i).At+(nth xs i).a4<=1048576:=ω
  rw[gT w]at b;by_cases h:ovl (nth xs i) r=true
  ·rw[<-b]
   rw[Gj,CJ h];unfold ovl at h;rw[C0]at h
   repeat'(first|refine gE ?_|refine gS (λd=>?_) (λd=>?_)|fail)
   rfl
  rw[Gj,CI h]at b;unfold ovl at h;rw[C0]at h;cases put with
  | false=>
   have c:out.length<=i:=by simpa using c
   by_cases L:(nth xs i).At > r.At
   ·rw[CJ kd,Option.map_map]at b
    repeat'(first|refine gE ?_|refine gS (λd=>?_) (λd=>?_)|refine Cc (aN λ_=>rfl) rfl kd qs rfl ?_|refine Cc (λr l=>by simp at l;rcases l with⟨a,_,rfl⟩|rfl<;>rfl) rfl kd qs rfl ?_)
    ((conv=>whnf)
     refine CP (i+1,out++[r,nth xs i],true) ⟨(by simp only;omega),(by rw[<-b];congr 1;funext t;simp),kd,(λy g=>?_)⟩ (by simp only;omega) ?_)
    ·grind
    (exact wR)
   rw[CI kd,Option.map_map]at b
   repeat'(first|refine gE ?_|refine gS (λd=>?_) (λd=>?_)|refine Cc (aN λ_=>rfl) rfl kd qs rfl ?_)
   ((conv=>whnf)
    refine CP (i+1,out++[nth xs i],false) ⟨(by simp only;omega),(by rw[<-b];congr 1;funext t;simp),kd,(λy g=>?_)⟩ (by simp only;omega) ?_)
   ·grind
   (exact wR)
  | true=>
   have c:out.length<=i+1:=c;rw[CI (by simp),Option.map_map]at b;by_cases M:(nth xs i).At<r.At+r.a4
   all_goals
    repeat'(first|refine gE ?_|refine gS (λd=>?_) (λd=>?_)|refine Cc (aN λ_=>rfl) rfl kd qs rfl ?_)
    ((conv=>whnf)
     refine CP (i+1,out++[nth xs i],true) ⟨(by simp only;omega),(by rw[<-b];congr 1;funext t;simp),kd,(λy g=>?_)⟩ (by simp only;omega) ?_)
    ·rcases v5.1 g with g|g
     ·exact e y g
     rw[z3.1 g];exact B
    (exact wR)
 obtain rfl:i=xs.length:=ω
 rw[List.drop_length]at b;cases put with
 | false=>
  have c:out.length<=xs.length:=by simpa using c
  rw[<-b];have C:=xu (out++[r]) kd ψ
  repeat'(first|refine gE ?_|refine Cc (aN λ_=>rfl) rfl kd qs (show(out++[r]).map (aC.enc .own)=_ by simp[aC.enc]) ?_|refine CM (C) ⟨⟨rfl,er _⟩,tV1⟩ ?_)
  rfl
 | true=>
  have c:out.length<=xs.length+1:=c;rw[<-b];have C:=xu out ω e
  repeat'(first|refine gE ?_|refine CM (C) ⟨⟨rfl,er _⟩,tV1⟩ ?_)
  simp[qk,JN]
  rfl
end Go.Proofs.YtjooeakgbamfnaaGreat.Ab
