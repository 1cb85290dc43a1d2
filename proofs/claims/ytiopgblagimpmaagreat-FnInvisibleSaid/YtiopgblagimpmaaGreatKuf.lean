/- A cache emptied into the spans: the data. No condition. -/
import Derived.Test.YtiopgblagimpmaaGreatKuc
import Derived.Test.YtiopgblagimpmaaGreatKue
set_option linter.unusedVariables false
set_option linter.defProp false
set_option linter.unusedSimpArgs false
set_option linter.constructorNameAsVariable false
namespace Go.Proofs.YtiopgblagimpmaaGreat.Ab
theorem pv{k:Int} : ∀{l s s2 b:List Int},(∀x∈s2,x∈s)->sI k s l=some b->(∀x∈s,x∈b)/\∃c,sI k s2 l=some c/\∀x∈c,x∈b
 | [],s,s2,b,h,e=>by grind [sI]
 | a::l,s,s2,b,h,e=>by
  simp only[sI]at e |-;split at e
  ·rename_i g
   rw[CD (show good k s2 a from⟨g.1,g.2.1,g.2.2.1,λx=>g.2.2.2 (h a x)⟩)];obtain⟨d,f⟩:=pv (l:=l) (s:=s++[a]) (s2:=s2++[a]) ψ e
   grind
  cases e
theorem uW:∀{a:List (List Int)}{k:Nat}{s s2:List Int},(∀x∈s2,x∈s)->(gI k s a).isSome=true->(gI k s2 a).isSome=true
 | [],_,_,_,_,_=>rfl
 | l::a,k,s,s2,h,e=>by
  simp only[gI,fF]at e |-;split at e
  ·rename_i g
   rw[CD g];cases b:sI k s l with
   | none=>grind
   | some i=>
    rw[b]at e;obtain⟨-,c,d,f⟩:=pv h b;rw[d];exact uW f e
  cases e
theorem Hs:∀{a:List (List Int)}{k:Nat}{s s2:List Int}(i:Nat),(∀x∈s2,x∈s)->(gI k s a).isSome=true->(gI k s2 (a.set i [])).isSome=true
 | [],_,_,_,_,_,_=>rfl
 | l::a,k,s,s2,i,h,e=>by
  simp only[gI,fF]at e;split at e
  ·rename_i g
   cases b:sI k s l with
   | none=>grind
   | some j=>
    rw[b]at e;obtain⟨n,c,d,f⟩:=pv h b;cases i with
    | zero=>
     simp only[List.set_cons_zero,gI,fF];rw[CD ⟨by simp,g.2⟩];exact uW ψ e
    | succ i=>
     simp only[List.set_cons_succ,gI,fF];rw[CD g,d];exact Hs i f e
  cases e
theorem UI{c:aE}(h:bI c=true)(k:Nat):bI (Lh c k)=true:=by grind [Hs,bI,Lh]
def spilt(h:ac)(t k:Nat):ac:={h with T:=h.T.set t (Lh (nth h.T t) k)}
theorem aX.spilt{h:ac}{E:List Int}{t k:Nat}(d:aX h E)(i:t<h.T.length)(n:k<(nth h.T t).a.length):aX (spilt h t k) (nth (nth h.T t).a k++E):=by
 have p:(E++holders h).Perm (nth (nth h.T t).a k++E++holders (Ab.spilt h t k)):=by
  refine List.perm_iff_count.2 λb=>?_
  have r:=jg (λc:aE=>c.a.flatten) b h.T t (Lh (nth h.T t) k) i;have q:=jg (λx:List Int=>x) b (nth h.T t).a k [] n;rw[<-m0,<-m0]at q;simp only[List.count_nil]at q;simp only[Lh]at r;simp only[holders,cJ,Ab.spilt,Lh,S8];omega
 have g:∀c∈(Ab.spilt h t k).T,c∈h.T\/c=Lh (nth h.T t) k:=λc u=>C9 u
 exact {d with
   nc:=by show(h.T.set ..).length=_;rw[I2];exact d.nc
   cach:=λc f=>by grind [aX.cach,UI,au]
   onu:=by show ∀o∈h.O,1<=o.Id/\o.Id<=h.b - 1/\0<=o.y/\o.y<=(h.T.set t _).length - 1;rw[I2];exact d.onu
   hca:=λc f j l b a=>by
     rcases g c f with f|rfl
     · exact d.hca c f j l b a
     simp only[Lh,I2]at l;simp only[Lh,bz]at a;by_cases e:k=j
     · grind
     rw[CC λx=>e x.1]at a;exact d.hca _ (au i) _ l b a
   hin:=λb a=>by
     rcases I4.1 a with a|a
     · exact(d.hca _ (au i) k n b a).any
     exact d.hin b a
   nd:=p.nodup_iff.1 d.nd
   mem:=λb=>by rw[<-p.mem_iff];exact d.mem b}
def freeAs(h:ac)(az:List Int):ac:=az.foldl freeA h
theorem fZ:∀(az:List Int)(h:ac),(freeAs h az).T=h.T/\(freeAs h az).O=h.O/\(freeAs h az).G.Calls=h.G.Calls/\(freeAs h az).a1=h.a1/\(freeAs h az).Y=h.Y/\(freeAs h az).b1=h.b1/\(freeAs h az).a7=h.a7/\(freeAs h az).G.w=h.G.w
 | [],h=>⟨rfl,rfl,rfl,rfl,rfl,rfl,rfl,rfl⟩
 | a::az,h=>by
  obtain⟨b,c,d,e,f,g,i,j⟩:=fZ az (freeA h a);obtain⟨k,l,n,o,p,q,r,t⟩:=yt h (ul h a) a;exact⟨b.trans k,c.trans l,d.trans n,e.trans o,f.trans p,g.trans q,i.trans r,j.trans t⟩
theorem aX.freeAs{E:List Int} : ∀{az:List Int}{h:ac},aX h (az++E)->aX (freeAs h az) E
 | [],_,b=>b
 | a::az,h,b=>aX.freeAs (az:=az) (h:=Ab.freeA h a) b.freeA
theorem wa(h:ac)(az:List Int)(k:Nat)(a:k<az.length):freeAs h (az.take (k+1))=freeA (freeAs h (az.take k)) (nth az k):=by grind [Y7,ax,freeAs]
def flushN(t:Nat)(h:ac):Nat->ac × Nat
 | 0=>(h,0)
 | k+1=>(freeAs (spilt (flushN t h k).1 t k) (nth (nth (flushN t h k).1.T t).a k),(flushN t h k).2+(nth (nth (flushN t h k).1.T t).a k).length)
theorem iQ{t:Nat}{h:ac}(b:aX h [])(c:t<h.T.length):∀{k:Nat},k<=4->aX (flushN t h k).1 []/\(flushN t h k).1.T.length=h.T.length/\(flushN t h k).1.G.Calls=h.G.Calls/\(flushN t h k).1.O=h.O/\(flushN t h k).1.a1=h.a1/\(flushN t h k).1.Y=h.Y/\(flushN t h k).2<=8*k
 | 0,_=>⟨b,rfl,rfl,rfl,rfl,rfl,Z0 _⟩
 | k+1,e=>by
  obtain⟨d,f,g,i,j,l,n⟩:=iQ b c (k:=k) ω;have a:t<(flushN t h k).1.T.length:=ω
  obtain⟨o,p⟩:=eN (d.cach _ (au a))
  grind [aX.spilt,au,fZ,aX.freeAs,spilt,flushN]
open Go.RowKit
set_option maxRecDepth 20000
set_option maxHeartbeats 4000000
variable{t:Nat}{h:ac}
theorem xi{k:Nat}(a:aX h [])(b:t<h.T.length)(c:k<4):t<(flushN t h k).1.T.length/\bI (nth (flushN t h k).1.T t)=true/\k<(nth (flushN t h k).1.T t).a.length/\(nth (nth (flushN t h k).1.T t).a k).length<=8/\(flushN t h k).2<=8*k:=by grind [iQ,aX.cach,au,eN]
variable{j:Nat}
theorem G5{k:Nat}(a:aX h [])(b:t<h.T.length)(c:k<4)(f:j<(nth (nth (flushN t h k).1.T t).a k).length):aX (freeAs (spilt (flushN t h k).1 t k) ((nth (nth (flushN t h k).1.T t).a k).take j)) (nth (nth (nth (flushN t h k).1.T t).a k) j::(nth (nth (flushN t h k).1.T t).a k).drop (j+1)):=by
 obtain⟨d,e⟩:=xi a b c;have g:=((iQ a b (k:=k) ω).1).spilt d e.2.1
 grind [aX.freeAs,iC,List.take_append_drop]
theorem RC(h:ac)(t:Nat)(i:aX h [])(l:t<h.T.length):zzB 424 false [.ptr (ni h),.val none [I (t:Nat)]] [.ptr (ni (flushN t h 4).1),.val none [I (t:Nat)]] .one [I ((flushN t h 4).2:Nat)]:=by
 refine fM 48 [(426,[2,0])] [(6,6,[26,27,28,29,30,31])] [(0,0),(0,0)] Tryz.func424 rfl (λu q=>?_)
 repeat'(first|refine gP ?_|fail)
 (conv=>whnf)
 refine CH (ι:=Nat) (λk=>[(0,.H .box (ni (flushN t h k).1)),(1,.H .one [I ((t:Nat):Int)]),(5,.H .one [I (((flushN t h k).2:Nat):Int)]),(6,.H .one [I ((k:Nat):Int)])]) (λk=>k<=4) (λk=>4 - k) (0) ?_ (Z0 _) λk D=>?_
 ·repeat'(first|exact trivial|rfl |exact E4 a|exact eK _|refine CL ?_ ?_|(exact Jh (by first|omega|(simp only;omega)|(simp;omega))))
 by_cases n:k<4
 ·obtain⟨o,p,E,F,G⟩:=xi i l n
  have r:=wz (nth (flushN t h k).1.T t) k p ω;have c:=λj=>G5 i l n (j:=j)
  have e:=ax o;have w:(flushN t h (k+1)).1=freeAs (spilt (flushN t h k).1 t k) (nth (nth (flushN t h k).1.T t).a k):=rfl;have y:(flushN t h (k+1)).2=(flushN t h k).2+(nth (nth (flushN t h k).1.T t).a k).length:=rfl;have a:C.s dQ.own ((spilt (flushN t h k).1 t k).T.map (aE.enc .own))=C.s dQ.own (((flushN t h k).1.T.map (aE.enc .own)).set t (aE.enc .own (Lh (nth (flushN t h k).1.T t) k))):=by grind [X8,spilt]
  repeat'(first|refine gE ?_|(conv=>whnf);first|refine CF (aa e) ?_|refine CJ rfl (aa e) rfl ?_|refine CN (r) ⟨⟨rfl,Cb _⟩,⟨rfl,rfl⟩,⟨rfl,rfl⟩,trivial⟩ ?_|refine CE ?_|refine CR rfl rfl (aa e) rfl (Z1 rfl) rfl ?_)
  generalize (flushN t h k).1=d at *;generalize (flushN t h k).2=m at *
  (conv=>whnf)
  refine CH (ι:=Nat) (λj=>[(0,.H .box (ni (freeAs (spilt d t k) ((nth (nth d.T t).a k).take j)))),(1,.H .one [I ((t:Nat):Int)]),(5,.H .one [I (((m+j):Nat):Int)]),(6,.H .one [I ((k:Nat):Int)]),(8,.H .one (aJ .own (nth (nth d.T t).a k))),(9,.H .one [I ((j:Nat):Int)])]) (λj=>j<=(nth (nth d.T t).a k).length) (λj=>(nth (nth d.T t).a k).length - j) (0) ?_ (Z0 _) λj H=>?_
  ·repeat'(first|exact trivial|rfl |exact E4 a|exact eK _|refine CL ?_ ?_|(exact Jh (by first|omega|(simp only;omega)|(simp;omega))))
  by_cases g:j<(nth (nth d.T t).a k).length
  ·have b:=ax g
   have B:=DQ _ _ _ (c j g)
   repeat'(first|refine gE ?_|(conv=>whnf);first|refine CF (aa b) ?_|refine CJ rfl (aa b) rfl ?_|refine CK (B) (.inl rfl) ?_)
   ((conv=>whnf);refine CG (j+1) ω ω ?_)
   rw[wa _ _ _ g];exact wC
  obtain rfl:j=(nth (nth d.T t).a k).length:=ω
  rw[I7]
  repeat'(first|refine gE ?_|fail)
  ((conv=>whnf);refine CG (k+1) ω ω ?_)
  rw[w,y];exact wC
 obtain rfl:k=4:=ω
 repeat'(first|refine gE ?_|fail)
 refine CO rfl rfl ?_;exact wC
def oo(h:ac)(t:Int)(a:ac.sml h):zzA 245 false [.val (some 24) (ac.enc .S h),.val none [I t]] .one [B (decide (0<=t/\t<=h.T.length - 1)&&decide (h.G.Calls≠100000)&&fg h)]:=by
 have b:=cr h a;rw[dz]at b;have d:h.T.length<=1048576:=a.2.2.2.2.2.1.1;have c:=aG t 0 (h.T.length - 1:Int);cases e:decide (0<=t/\t<=(h.T.length:Int) - 1)<;>rw[e]at c
 all_goals
  cases g:decide (h.G.Calls≠100000)
  all_goals
   simp only[C0,X6]at g;refine fO 21 [] Tryz.func245 rfl ?_
   repeat'(first|refine gP ?_|(conv=>whnf);first|with_reducible refine Bf.N (λi=>?_) (λi=>?_)|refine CB (b) ?_|refine CB (c) ?_)
   all_goals first|rfl|(exfalso;omega)
theorem yI(h:ac)(t:Nat)(p:ac.sml h)(q:fg h=true)(r:h.G.Calls≠100000)(c:t<h.T.length):zzA 91 false [.val (some 24) (ac.enc .S h),.val none [I (t:Nat)]] (.tup [some 24,none]) (cV (flushN t h 4).1++[I ((flushN t h 4).2:Nat)]):=by
 have e:=aX.of q;have u:=oo h t p;rw[q,O0 ω,O0 r]at u;have y:=dw h p;refine fP 52 [(247,[2,0])] [] Tryz.func91 rfl ?_ (.inr (aD (bT _) ⟨trivial,trivial⟩))
 repeat'(first|refine gP ?_|(conv=>whnf);first|refine CB (u) ?_|refine CB (y) ?_)
 (conv=>whnf)
 refine CH (ι:=Nat) (λk=>[(1,.H .one [I ((t:Nat):Int)]),(4,.H .box tZ),(6,.H .box (cV (flushN t h k).1)),(7,.H .one [I (((flushN t h k).2:Nat):Int)]),(8,.H .one [I ((k:Nat):Int)])]) (λk=>k<=4) (λk=>4 - k) (0) ?_ (Z0 _) λk J=>?_
 ·repeat'(first|exact trivial|rfl |exact E4 a|exact eK _|refine CL ?_ ?_|(exact Jh (by first|omega|(simp only;omega)|(simp;omega))))
 by_cases w:k<4
 ·obtain⟨B,D,K,L,M⟩:=xi e c w
  have E:=wQ (nth (flushN t h k).1.T t) k D ω;have g:=λj=>G5 e c w (j:=j)
  have i:=λj=>(fZ ((nth (nth (flushN t h k).1.T t).a k).take j) (spilt (flushN t h k).1 t k)).2.2.1
  have l:(spilt (flushN t h k).1 t k).G.Calls≠100000:=by have:=(iQ e c (k:=k) ω).2.2.1;show(flushN t h k).1.G.Calls≠100000;rw[this];exact r
  have n:=ax B;have F:(flushN t h (k+1)).1=freeAs (spilt (flushN t h k).1 t k) (nth (nth (flushN t h k).1.T t).a k):=rfl;have G:(flushN t h (k+1)).2=(flushN t h k).2+(nth (nth (flushN t h k).1.T t).a k).length:=rfl;have a:C.s dQ.own ((spilt (flushN t h k).1 t k).T.map (aE.enc .own))=C.s dQ.own (((flushN t h k).1.T.map (aE.enc .own)).set t (aE.enc .own (Lh (nth (flushN t h k).1.T t) k))):=by grind [X8,spilt]
  repeat'(first|refine gE ?_|(conv=>whnf);first|refine CF (aa n) ?_|refine CJ rfl (aa n) rfl ?_|refine CN (E) ⟨⟨rfl,Cb _⟩,⟨rfl,rfl⟩,⟨rfl,rfl⟩,trivial⟩ ?_|refine CE ?_|refine CR rfl rfl (aa n) rfl (Z1 rfl) rfl ?_)
  generalize (flushN t h k).1=d at *;generalize (flushN t h k).2=m at *
  (conv=>whnf)
  refine CH (ι:=Nat) (λj=>[(1,.H .one [I ((t:Nat):Int)]),(4,.H .box tZ),(6,.H .box (cV (freeAs (spilt d t k) ((nth (nth d.T t).a k).take j)))),(7,.H .one [I (((m+j):Nat):Int)]),(8,.H .one [I ((k:Nat):Int)]),(10,.H .one (aJ .own (nth (nth d.T t).a k))),(39,.c1 10 0 [] none),(40,.H .one [I ((nth (nth d.T t).a k).length)]),(41,.H .one [I ((j:Nat):Int)])]) (λj=>j<=(nth (nth d.T t).a k).length) (λj=>(nth (nth d.T t).a k).length - j) (0) ?_ (Z0 _) λj N=>?_
  ·repeat'(first|exact trivial|rfl |exact E4 a|exact eK _|refine CL ?_ ?_|(exact Jh (by first|omega|(simp only;omega)|(simp;omega))))
  by_cases o:j<(nth (nth d.T t).a k).length
  ·have b:=ax o
   have H:=kX _ _ _ (g j o) (by rw[i];exact l)
   repeat'(first|refine gE ?_|(conv=>whnf);first|refine CF (aa b) ?_|refine CJ rfl (aa b) rfl ?_|refine CK (H) (.inl rfl) ?_)
   ((conv=>whnf);refine CG (j+1) ω ω ?_)
   rw[wa _ _ _ o];exact wC
  obtain rfl:j=(nth (nth d.T t).a k).length:=ω
  rw[I7]
  repeat'(first|refine gE ?_|fail)
  ((conv=>whnf);refine CG (k+1) ω ω ?_)
  rw[F,G];exact wC
 obtain rfl:k=4:=ω
 repeat'(first|refine gE ?_|fail)
 rfl
def Aa(s:Int):Int:=(1103515245*s+12345) % 1073741824
def Ey(s:Int):0<=Aa s/\Aa s<=1073741823:=by unfold Aa;omega
def Ar(s:Int)(b:0<=s/\s<=1073741823):zzA 548 false [.val none [I s]] .one [I (Aa s)]:=by
 have a:=bn s 0 1073741823;rw[O0 b]at a;refine fO 10 [] Tryz.func548 rfl ?_
 repeat'(first|refine gP ?_|(conv=>whnf);first|refine CE ?_|refine CS (z:=Aa s) (fV ω) ?_|refine CB (a) ?_|refine CQ (by decide) ?_)
 rfl
def sN(s:Int)(b:0<=s/\s<=1073741823):zzA 83 false [.val none [I s]] .one [B true]:=by
 have a:=aG s 0 1073741823;rw[O0 b]at a;refine fO 5 [] Tryz.func83 rfl ?_
 repeat'(first|refine gP ?_|(conv=>whnf);first|refine CE ?_|refine CB (a) ?_)
 rfl
def Aj(s:Int)(a:0<=s/\s<=1073741823):zzA 456 false [.val none [I s]] .one [I (Aa s)]:=by
 refine fO 10 [] Tryz.func456 rfl ?_
 repeat'(first|refine gP ?_|(conv=>whnf);first|refine CE ?_|refine CS (z:=Aa s) (fV ω) ?_|refine CB (sN s a) ?_|refine CQ (by decide) ?_)
 rfl
def H7(s n:Int):Int:=Aa s / 1024 % n
variable{n:Int}
def rP(s:Int)(h:1<=n):0<=H7 s n/\H7 s n<n:=⟨Int.emod_nonneg _ ω,Int.emod_lt_of_pos _ ω⟩
theorem Gj(s n:Int)(b:0<=s/\s<=1073741823)(c:1<=n/\n<=1000):zzA 480 false [.val none [I s],.val none [I n]] (.tup [none,none]) [I (H7 s n),I (Aa s)]:=by
 have d:=bn s 0 1073741823;have e:=bn n 1 1000;rw[O0 b]at d;rw[O0 c]at e;have h:=Ey s;have i:=rP s c.1;have a:(Aa s).tdiv 1024=Aa s / 1024:=ψ
 have g:((Aa s).tdiv 1024).tmod n=H7 s n:=by rw[a];exact fV ω
 refine fO 23 [] Tryz.func480 rfl ?_ (.inr ⟨trivial,trivial,trivial⟩)
 repeat'(first|refine gP ?_|(conv=>whnf);first|refine CE ?_|refine CB (d) ?_|refine CB (e) ?_|refine CB (Ar s b) ?_|refine CQ (by decide) ?_|refine CQ ω ?_|refine CS g ?_|refine CM (fJ (by rw[a];omega) (by rw[a];omega)) ?_)
 rfl
theorem vJ(s n:Int)(b:0<=s/\s<=1073741823)(c:1<=n/\n<=1000):zzA 337 false [.val none [I s],.val none [I n]] (.tup [none,none]) [I (H7 s n),I (Aa s)]:=by
 have d:=aG n 1 1000;rw[O0 c]at d;have g:=Ey s;have h:=rP s c.1;have a:(Aa s).tdiv 1024=Aa s / 1024:=ψ
 have e:((Aa s).tdiv 1024).tmod n=H7 s n:=by rw[a];exact fV ω
 refine fO 23 [] Tryz.func337 rfl ?_ (.inr ⟨trivial,trivial,trivial⟩)
 repeat'(first|refine gP ?_|(conv=>whnf);first|refine CE ?_|refine CB (sN s b) ?_|refine CB (d) ?_|refine CB (Aj s b) ?_|refine CQ (by decide) ?_|refine CQ ω ?_|refine CS e ?_|refine CM (fJ (by rw[a];omega) (by rw[a];omega)) ?_)
 rfl
def qg(n:Nat):List Int:=(List.range n).map λ(i:Nat)=>(i:Int)
theorem zG(n:Nat):qg (n+1)=qg n++[(n:Int)]:=by grind [List.range_succ,qg]
def uI(n:Nat):(qg n).length=n:=by simp[qg]
def wv(xs:List Int)(i k:Nat):List Int:=(xs.set i (nth xs k)).set k (nth xs i)
def MT(xs:List Int)(i k:Nat):(wv xs i k).length=xs.length:=by simp[wv]
def eZ(n:Nat)(s:Int):Nat->List Int × Int
 | 0=>(qg n,s)
 | j+1=>(wv (eZ n s j).1 (n - 1 - j) (H7 (eZ n s j).2 ((n - 1 - j:Nat)+1:Int)).toNat,Aa (eZ n s j).2)
def lW(n:Nat){s:Int}(a:0<=s/\s<=1073741823):∀j,(eZ n s j).1.length=n/\0<=(eZ n s j).2/\(eZ n s j).2<=1073741823
 | 0=>⟨uI n,a⟩
 | j+1=>⟨by simp only[eZ,MT];exact(lW n a j).1,Ey _⟩
def shuf(n:Nat)(s:Int):List Int × Int:=eZ n s (n - 1)
theorem Ho(xs:List Int)(i k:Nat):(wv xs i k).map (rI .own)=((xs.map (rI .own)).set i (rI .own (nth xs k))).set k (rI .own (nth xs i)):=by grind [X8,wv]
variable{i:Nat}
theorem De{xs:List Int}{k:Nat}(v:Int)(a:k<xs.length):((xs.map (rI .own)).set i (rI .own v))[k]? = some (rI .own (nth (xs.set i v) k)):=by
 rw[<-X8];grind [ax]
def R3(n:Nat)(s:Int)(d:0<=s/\s<=1073741823)(w:n<=64):zzA 526 false [.val none [I s],.val none [I (n:Nat)]] (.tup [none,none]) (aJ .own (shuf n s).1++[I (shuf n s).2]):=by
 have e:=bn s 0 1073741823;have g:=bn (n:Nat) 0 64;rw[O0 d]at e;rw[O0 ω]at g;refine fO 63 [] Tryz.func526 rfl ?_ (.inr (aD (bQ _) ⟨trivial,trivial⟩))
 repeat'(first|refine gP ?_|(conv=>whnf);first|refine CE ?_|refine CB (e) ?_|refine CB (g) ?_)
 (conv=>whnf)
 refine CH (ι:=Nat) (λk=>[(0,.H .one [I (s)]),(1,.H .one [I ((n:Nat):Int)]),(6,.H .one (aJ .own (qg k))),(7,.H .one [I ((k:Nat):Int)])]) (λk=>k<=n) (λk=>n - k) (0) ?_ (Z0 _) λk y=>?_
 ·exact wB
 have h:=uI k;by_cases B:k<n
 ·repeat'(first|refine gE ?_|(conv=>whnf);first|refine CE ?_|refine Ap.sm (aS λ_=>rfl) rfl (by simp;omega) (by decide) (gH (rI .own) (qg k) (k:Int)) ?_)
  ((conv=>whnf);refine CG (k+1) ω ω ?_)
  rw[zG];exact wB
 obtain rfl:k=n:=ω
 repeat'(first|refine gE ?_|(conv=>whnf);first|refine CE ?_)
 (conv=>whnf)
 refine CH (ι:=Nat) (λj=>[(0,.H .one [I ((eZ k s j).2)]),(6,.H .one (aJ .own (eZ k s j).1)),(8,.H .one [I (((k:Int) - 1 - j))])]) (λj=>(j<=k - 1/\j<=k)) (λj=>k - j) (0) ?_ ω λj C=>?_
 ·exact wB
 obtain⟨D,l,o⟩:=lW k d j;by_cases E:j<k - 1
 ·have q:(k:Int) - 1 - j=((k - 1 - j:Nat):Int):=ω
  have r:=rP (eZ k s j).2 (n:=((k - 1 - j:Nat)+1:Int)) ω;have t:=Gj (eZ k s j).2 ((k - 1 - j:Nat)+1:Int) ⟨l,o⟩ ω;have u:eZ k s (j+1)=(wv (eZ k s j).1 (k - 1 - j) (H7 (eZ k s j).2 ((k - 1 - j:Nat)+1:Int)).toNat,Aa (eZ k s j).2):=rfl;rw[q];generalize eZ k s j=p at *;obtain⟨xs,z⟩:=p;simp only at *;generalize k - 1 - j=i at *;have a:=ax (xs:=xs) (i:=i) ω;have b:=ax (xs:=xs) (i:=(H7 z (i+1)).toNat) ω;have c:=De (xs:=xs) (i:=i) (k:=(H7 z (i+1)).toNat) (nth xs (H7 z (i+1)).toNat) ω
  repeat'(first|refine gE ?_|(conv=>whnf);first|refine CE ?_|refine CB (t) ?_|refine CP ω (aa b) ?_|refine CF (aa a) ?_|refine CJ rfl (aa a) rfl ?_|refine CJ rfl (aa b) rfl ?_|refine CR rfl rfl (aa a) rfl (Z1 rfl) rfl ?_|refine CP ω c ?_|refine CR rfl rfl c rfl (Z1 rfl) rfl ?_)
  ((conv=>whnf);refine CG (j+1) ω ω ?_)
  rw[u];simp only[aJ,Ho];exact wB
 obtain rfl:j=k - 1:=ω
 repeat'(first|refine gE ?_|(conv=>whnf);first|refine CE ?_)
 rfl
def AD(n:Nat)(s:Int)(d:0<=s/\s<=1073741823)(w:n<=64):zzA 495 false [.val none [I s],.val none [I (n:Nat)]] (.tup [none,none]) (aJ .own (shuf n s).1++[I (shuf n s).2]):=by
 have g:=sN s d;have e:=aG (n:Nat) 0 64;rw[O0 ω]at e;refine fO 60 [(12,270,[43,44,45,46,47,48,49,50,51,52,53,54,55,56,0,1,2,3,4,5,6,7,8,9,10,11,12,13,1002,1003,14,15])] Tryz.func495 rfl ?_ (.inr (aD (bQ _) ⟨trivial,trivial⟩))
 repeat'(first|refine gP ?_|(conv=>whnf);first|refine CE ?_|refine CB (g) ?_|refine CB (e) ?_)
 (conv=>whnf)
 refine CH (ι:=Nat) (λk=>[(0,.H .one [I (s)]),(1,.H .one [I ((n:Nat):Int)]),(6,.H .one (aJ .own (qg k))),(7,.H .one [I ((k:Nat):Int)])]) (λk=>k<=n) (λk=>n - k) (0) ?_ (Z0 _) λk y=>?_
 ·exact wB
 have h:=uI k;by_cases B:k<n
 ·repeat'(first|refine gE ?_|(conv=>whnf);first|refine CE ?_|refine Ap.sm (aS λ_=>rfl) rfl (by simp;omega) (by decide) (gH (rI .own) (qg k) (k:Int)) ?_)
  ((conv=>whnf);refine CG (k+1) ω ω ?_)
  rw[zG];exact wB
 obtain rfl:k=n:=ω
 repeat'(first|refine gE ?_|(conv=>whnf);first|refine CE ?_)
 (conv=>whnf)
 refine CH (ι:=Nat) (λj=>[(0,.H .one [I ((eZ k s j).2)]),(6,.H .one (aJ .own (eZ k s j).1)),(8,.H .one [I (((k:Int) - 1 - j))])]) (λj=>(j<=k - 1/\j<=k)) (λj=>k - j) (0) ?_ ω λj C=>?_
 ·exact wB
 obtain⟨D,l,o⟩:=lW k d j;by_cases E:j<k - 1
 ·have q:(k:Int) - 1 - j=((k - 1 - j:Nat):Int):=ω
  have r:=rP (eZ k s j).2 (n:=((k - 1 - j:Nat)+1:Int)) ω;have t:=vJ (eZ k s j).2 ((k - 1 - j:Nat)+1:Int) ⟨l,o⟩ ω;have u:eZ k s (j+1)=(wv (eZ k s j).1 (k - 1 - j) (H7 (eZ k s j).2 ((k - 1 - j:Nat)+1:Int)).toNat,Aa (eZ k s j).2):=rfl;rw[q];generalize eZ k s j=p at *;obtain⟨xs,z⟩:=p;simp only at *;generalize k - 1 - j=i at *;have a:=ax (xs:=xs) (i:=i) ω;have b:=ax (xs:=xs) (i:=(H7 z (i+1)).toNat) ω;have c:=De (xs:=xs) (i:=i) (k:=(H7 z (i+1)).toNat) (nth xs (H7 z (i+1)).toNat) ω
  repeat'(first|refine gE ?_|(conv=>whnf);first|refine CE ?_|refine CB (t) ?_|refine CP ω (aa b) ?_|refine CF (aa a) ?_|refine CJ rfl (aa a) rfl ?_|refine CJ rfl (aa b) rfl ?_|refine CR rfl rfl (aa a) rfl (Z1 rfl) rfl ?_|refine CP ω c ?_|refine CR rfl rfl c rfl (Z1 rfl) rfl ?_)
  ((conv=>whnf);refine CG (j+1) ω ω ?_)
  rw[u];simp only[aJ,Ho];exact wB
 obtain rfl:j=k - 1:=ω
 repeat'(first|refine gE ?_|(conv=>whnf);first|refine CE ?_)
 rfl
def sV(b:Int):Nat->Nat
 | 0=>0
 | n+1=>sV b n+(if aT b (n:Nat)=true then 1 else 0)
theorem t8(b:Int):∀n,sV b n<=n
 | 0=>O4 _
 | n+1=>by have:=t8 b n;grind [sV]
def wG(b:Int)(d:b<=9223372036854775807):zzA 525 false [.val none [I b]] .one [I (sV b 16:Nat)]:=by
 refine fO 15 [] Tryz.func525 rfl ?_
 repeat'(first|refine gP ?_|fail)
 (conv=>whnf)
 refine CH (ι:=Nat) (λk=>[(0,.H .one [I (b)]),(3,.H .one [I ((sV b k:Nat):Int)]),(4,.H .one [I ((k:Nat):Int)])]) (λk=>k<=16) (λk=>16 - k) (0) ?_ (Z0 _) λk g=>?_
 ·exact wB
 have h:=t8 b k;by_cases i:k<16
 ·have a:=lJ b (k:Nat) d
  have c:sV b (k+1)=sV b k+(if aT b (k:Nat)=true then 1 else 0):=rfl;cases e:aT b (k:Nat)<;>rw[e]at a c
  all_goals
   repeat'(first|refine gE ?_|(conv=>whnf);first|refine CB (a) ?_)
   ((conv=>whnf);refine CG (k+1) ω ω ?_)
   rw[c];exact wB
 obtain rfl:k=16:=ω
 repeat'(first|refine gE ?_|fail)
 rfl
def w7(b:Int)(d:b<=9223372036854775807):zzA 494 false [.val none [I b]] .one [I (sV b 16:Nat)]:=by
 refine fO 15 [] Tryz.func494 rfl ?_
 repeat'(first|refine gP ?_|fail)
 (conv=>whnf)
 refine CH (ι:=Nat) (λk=>[(0,.H .one [I (b)]),(3,.H .one [I ((sV b k:Nat):Int)]),(4,.H .one [I ((k:Nat):Int)])]) (λk=>k<=16) (λk=>16 - k) (0) ?_ (Z0 _) λk g=>?_
 ·exact wB
 have h:=t8 b k;by_cases i:k<16
 ·have a:=hC b (k:Nat) d
  have c:sV b (k+1)=sV b k+(if aT b (k:Nat)=true then 1 else 0):=rfl;cases e:aT b (k:Nat)<;>rw[e]at a c
  all_goals
   repeat'(first|refine gE ?_|(conv=>whnf);first|refine CB (a) ?_)
   ((conv=>whnf);refine CG (k+1) ω ω ?_)
   rw[c];exact wB
 obtain rfl:k=16:=ω
 repeat'(first|refine gE ?_|fail)
 rfl
def qU(h:ac)(s:aA):Bool:=decide (0<sV s.a8 16)&&decide ((bB h s.R).length=1)
def jh(h:ac):Nat->List aA
 | 0=>[]
 | n+1=>if qU h (nth h.K n)=true then jh h n++[nth h.K n] else jh h n
def oz(h:ac):List aA:=jh h h.K.length
theorem sX(h:ac):∀n,(jh h n).length<=n
 | 0=>O4 _
 | n+1=>by have:=sX h n;grind [jh]
theorem ns(h:ac):∀{n:Nat},n<=h.K.length->∀s∈jh h n,s∈h.K
 | 0,_,s,a=>by cases a
 | n+1,b,s,a=>by
  simp only[jh]at a;split at a
  ·rcases I4.1 a with a|a
   ·exact ns h ω s a
   grind [au]
  exact ns h ω s a
theorem R1(h:ac)(g:FE h)(o:h.K.length<=1000)(p:gY h<=1000)(i:∀s∈h.K,s.a8<=9223372036854775807):zzA 427 false [.val (some 24) (ac.enc .S h)] .one (cw .own (oz h)):=by
 refine fO 42 [(5,16,[13,14,15,16,17,18,19,20,21,22,23,24,25,26,27,28])] Tryz.func427 rfl ?_ (.inr (yr _))
 repeat'(first|refine gP ?_|fail)
 (conv=>whnf)
 refine CH (ι:=Nat) (λk=>[(1,.H .box (ac.enc .S h)),(3,.H .one (cw .own (jh h k))),(4,.H .one [I ((k:Nat):Int)])]) (λk=>k<=h.K.length) (λk=>h.K.length - k) (0) ?_ (Z0 _) λk q=>?_
 ·exact wB
 have j:=sX h k;by_cases e:k<h.K.length
 ·have c:=ax e
  have d:=wG (nth h.K k).a8 (i _ (au e));have b:=w9 h (nth h.K k).R g;have l:=ku h (nth h.K k).R;have n:=t8 (nth h.K k).a8 16;have a:jh h (k+1)=if qU h (nth h.K k)=true then jh h k++[nth h.K k] else jh h k:=rfl
  by_cases r:0<sV (nth h.K k).a8 16
  ·by_cases t:(bB h (nth h.K k).R).length=1
   ·rw[CD (by grind [qU])]at a
    repeat'(first|refine gB ?_|(conv=>whnf);first|refine CF (aa c) ?_|refine CB (d) ?_|refine CN (b) ⟨⟨rfl,rfl⟩,⟨rfl,rfl⟩,trivial⟩ ?_|refine CB (b) ?_|refine CE ?_|refine Ap.sm (aS λ_=>rfl) rfl (by simp;omega) (by decide) (gH (aA.enc .own) (jh h k) (nth h.K k)) ?_)
    ((conv=>whnf);refine CG (k+1) ω ω ?_)
    rw[a];exact wB
   rw[CC (by grind [qU])]at a
   repeat'(first|refine gB ?_|(conv=>whnf);first|refine CF (aa c) ?_|refine CB (d) ?_|refine CB (b) ?_|refine CE ?_)
   ((conv=>whnf);refine CG (k+1) ω ω ?_)
   rw[a];exact wB
  rw[CC (by grind [qU])]at a
  repeat'(first|refine gE ?_|(conv=>whnf);first|refine CF (aa c) ?_|refine CB (d) ?_|refine CB (b) ?_|refine CE ?_)
  ((conv=>whnf);refine CG (k+1) ω ω ?_)
  rw[a];exact wB
 obtain rfl:k=h.K.length:=ω
 repeat'(first|refine gE ?_|fail)
 rfl
theorem yp(h:ac)(g:FE h)(o:h.K.length<=1000)(p:gY h<=1000)(i:∀s∈h.K,s.a8<=9223372036854775807):zzA 388 false [.val (some 24) (ac.enc .S h)] .one (cw .own (oz h)):=by
 refine fO 32 [] Tryz.func388 rfl ?_ (.inr (yr _))
 repeat'(first|refine gP ?_|fail)
 (conv=>whnf)
 refine CH (ι:=Nat) (λk=>[(1,.H .box (ac.enc .S h)),(3,.H .one (cw .own (jh h k))),(8,.H .one (cw .S h.K)),(9,.H .one [I (h.K.length)]),(10,.H .one [I ((k:Nat):Int)])]) (λk=>k<=h.K.length) (λk=>h.K.length - k) (0) ?_ (Z0 _) λk q=>?_
 ·exact wB
 have j:=sX h k;by_cases e:k<h.K.length
 ·have b:=ax e
  have c:=w7 (nth h.K k).a8 (i _ (au e));have d:=ll h (nth h.K k).R g;have l:=ku h (nth h.K k).R;have n:=t8 (nth h.K k).a8 16;have a:jh h (k+1)=if qU h (nth h.K k)=true then jh h k++[nth h.K k] else jh h k:=rfl
  by_cases r:0<sV (nth h.K k).a8 16
  ·by_cases t:(bB h (nth h.K k).R).length=1
   ·rw[CD (by grind [qU])]at a
    repeat'(first|refine gB ?_|(conv=>whnf);first|refine CF (aa b) ?_|refine CB (c) ?_|refine CB (d) ?_|refine CE ?_|refine Ap.sm (aS λ_=>rfl) rfl (by simp;omega) (by decide) (gH (aA.enc .own) (jh h k) (nth h.K k)) ?_)
    ((conv=>whnf);refine CG (k+1) ω ω ?_)
    rw[a];exact wB
   rw[CC (by grind [qU])]at a
   repeat'(first|refine gB ?_|(conv=>whnf);first|refine CF (aa b) ?_|refine CB (c) ?_|refine CB (d) ?_|refine CE ?_)
   ((conv=>whnf);refine CG (k+1) ω ω ?_)
   rw[a];exact wB
  rw[CC (by grind [qU])]at a
  repeat'(first|refine gE ?_|(conv=>whnf);first|refine CF (aa b) ?_|refine CB (c) ?_|refine CB (d) ?_|refine CE ?_)
  ((conv=>whnf);refine CG (k+1) ω ω ?_)
  rw[a];exact wB
 obtain rfl:k=h.K.length:=ω
 repeat'(first|refine gE ?_|fail)
 rfl
def sB(s:aA)(c:Nat):Bool:=aT s.a8 (((c:Nat):Int) / csz s.d)
def tL(s:aA)(n:Nat):List Int:=((List.range n).filter (sB s)).map λ(i:Nat)=>(i:Int)
variable{s:aA}
def Lc{n:Nat}(h:sB s n=true):tL s (n+1)=tL s n++[(n:Int)]:=by
 unfold tL;rw[List.range_succ,List.filter_append,C8];simp[h]
def Pn{n:Nat}(h:sB s n=false):tL s (n+1)=tL s n:=by
 unfold tL;rw[List.range_succ,List.filter_append,C8];simp[h]
def mI(s:aA)(n:Nat):(tL s n).length<=n:=by
 unfold tL;rw[O1];exact Z6 (List.length_filter_le _ _) (by simp)
def Mf(a:bh s=true){c:Nat}(d:c<16):0<=((c:Nat):Int) / csz s.d/\((c:Nat):Int) / csz s.d<=15:=by
 have f:=aK a;have b:csz s.d=1\/csz s.d=2\/csz s.d=4\/csz s.d=8:=bZ ω;rcases b with e|e|e|e<;>rw[e]<;>omega
def pq(s:aA)(a:bh s=true):zzA 527 false [.val (some 3) (aA.enc .S s)] .one (aJ .own (tL s 16)):=by
 have b:=iY s;rw[a]at b;have g:=aK a;have n:=bZ g.2.2;refine fO 27 [(5,7,[14,15,16,17,18,19,20])] Tryz.func527 rfl ?_ (.inr (bQ _))
 repeat'(first|refine gP ?_|fail)
 (conv=>whnf)
 refine CH (ι:=Nat) (λi=>[(1,.H .box (aA.enc .S s)),(3,.H .one (aJ .own (tL s i))),(4,.H .one [I ((i:Nat):Int)])]) (λi=>i<=16) (λi=>16 - i) (0) ?_ (Z0 _) λi o=>?_
 ·exact wB
 have h:=mI s i;by_cases j:i<16
 ·have k:=Mf a j
  have d:IntKind.i64.wrap (((i:Nat):Int).tdiv (csz s.d))=((i:Nat):Int) / csz s.d:=by rw[mn ω];exact fJ ω ω
  have c:=lJ s.a8 (((i:Nat):Int) / csz s.d) (f8 a).2;cases e:sB s i
  ·rw[show aT s.a8 (((i:Nat):Int) / csz s.d)=false from e]at c
   repeat'(first|refine gE ?_|(conv=>whnf);first|refine CB (b) ?_|refine CB (gJ _) ?_|refine CQ ω ?_|refine CM d ?_|refine CB (c) ?_)
   ((conv=>whnf);refine CG (i+1) ω ω ?_)
   rw[Pn e];exact wB
  rw[show aT s.a8 (((i:Nat):Int) / csz s.d)=true from e]at c
  repeat'(first|refine gE ?_|(conv=>whnf);first|refine CB (b) ?_|refine CB (gJ _) ?_|refine CQ ω ?_|refine CM d ?_|refine CB (c) ?_|refine CU dU (λr l=>by rw[C2.1 l];rfl) (by simp[bp,fx]) (by simp;omega) (by simp only[O1];exact Eh (by simp;omega) (by decide)) rfl ?_)
  ((conv=>whnf);refine CG (i+1) ω ω ?_)
  rw[Lc e]
  (repeat'(first|exact trivial|rfl|exact CL rfl (CL (C1 (C.s dQ.own) (by simp[rI])) trivial)|refine CL ?_ ?_))
 obtain rfl:i=16:=ω
 repeat'(first|refine gE ?_|(conv=>whnf);first|refine CB (b) ?_)
 rfl
def pO(s:aA)(a:bh s=true):zzA 436 false [.val (some 3) (aA.enc .S s)] .one (aJ .own (tL s 16)):=by
 have c:=gK s;rw[a]at c;have g:=aK a;have n:=bZ g.2.2;refine fO 26 [(7,7,[13,14,15,16,17,18,19])] Tryz.func436 rfl ?_ (.inr (bQ _))
 repeat'(first|refine gP ?_|(conv=>whnf);first|refine CB (c) ?_)
 (conv=>whnf)
 refine CH (ι:=Nat) (λi=>[(1,.H .box (aA.enc .S s)),(3,.H .one (aJ .own (tL s i))),(4,.H .one [I ((i:Nat):Int)])]) (λi=>i<=16) (λi=>16 - i) (0) ?_ (Z0 _) λi o=>?_
 ·exact wB
 have h:=mI s i;by_cases j:i<16
 ·have k:=Mf a j
  have d:IntKind.i64.wrap (((i:Nat):Int).tdiv (csz s.d))=((i:Nat):Int) / csz s.d:=by rw[mn ω];exact fJ ω ω
  have b:=hC s.a8 (((i:Nat):Int) / csz s.d) (f8 a).2;cases e:sB s i
  ·rw[show aT s.a8 (((i:Nat):Int) / csz s.d)=false from e]at b
   repeat'(first|refine gE ?_|(conv=>whnf);first|refine CB (di _) ?_|refine CQ ω ?_|refine CM d ?_|refine CB (b) ?_)
   ((conv=>whnf);refine CG (i+1) ω ω ?_)
   rw[Pn e];exact wB
  rw[show aT s.a8 (((i:Nat):Int) / csz s.d)=true from e]at b
  repeat'(first|refine gE ?_|(conv=>whnf);first|refine CB (di _) ?_|refine CQ ω ?_|refine CM d ?_|refine CB (b) ?_|refine CU dU (λr l=>by rw[C2.1 l];rfl) (by simp[bp,fx]) (by simp;omega) (by simp only[O1];exact Eh (by simp;omega) (by decide)) rfl ?_)
  ((conv=>whnf);refine CG (i+1) ω ω ?_)
  rw[Lc e]
  (repeat'(first|exact trivial|rfl|exact CL rfl (CL (C1 (C.s dQ.own) (by simp[rI])) trivial)|refine CL ?_ ?_))
 obtain rfl:i=16:=ω
 repeat'(first|refine gE ?_|fail)
 rfl
structure eL where
 A:Int
 B:Int
deriving DecidableEq,Inhabited
def eL.enc(_:dQ)(x:eL):List C:=[I x.A,I x.B]
def gy(o:dQ)(x:List eL):List C:=[.s o (x.map (eL.enc o))]
def Km(x:List eL):iq (gy .own x):=⟨⟨.inl λh=>(by cases h),bc _ _ λ_ _=>⟨trivial,trivial,trivial⟩⟩,trivial⟩
def yd(xs:List eL)(pr:eL->Bool)(g:xs.length<=9223372036854775807):zzA 586 false [.val none (gy .S xs),.fn (kI Tryz.prog (nl (some 2) (eL.enc .S) pr xs))] .one [I (cF pr xs)]:=by
 refine fO 19 [] Tryz.func586 rfl ?_
 repeat'(first|refine gP ?_|fail)
 (conv=>whnf)
 refine CH (ι:=Nat) (λi=>[(0,.H .one (gy .S xs)),(1,.fv (kI Tryz.prog (nl (some 2) (eL.enc .S) pr xs))),(7,.H .one [I xs.length]),(8,.H .one [I (i:Nat)])]) (λi=>i<=xs.length/\∀(j:Nat)(z:eL),j<i->xs[j]? = some z->pr z=false) (λi=>xs.length - i) 0 ?_ ⟨Z0 _,λj z h=>ω⟩ λi d=>?_
 ·exact wB
 obtain⟨d,b⟩:=d;by_cases c:i<xs.length
 ·obtain⟨y,a⟩ : ∃y,xs[i]? = some y:=⟨_,I3 c⟩
  repeat'(first|refine gE ?_|(conv=>whnf);first|with_reducible refine CF (aa a) ?_|refine Fv.mk (k:=.one) (rcs:=[B (pr y)]) ⟨y,Z2 a,rfl,rfl,rfl⟩ ?_|refine Bf.P (λe=>?_) (λe=>?_))
  ·exact C1 (λz=>[I z]) (eD a ‹_› b).symm
  (conv=>whnf)
  refine CG (i+1) ⟨ω,iE a (by assumption) b⟩ ω ?_;exact wB
 repeat'(first|refine gE ?_|fail)
 exact C1 (λz=>[I z]) (gQ ω b).symm
def sY(xs:List eL)(pr:eL->Bool)(a:xs.length<=9223372036854775807):zzA 562 false [.val none (gy .S xs),.fn (kI Tryz.prog (nl (some 2) (eL.enc .S) pr xs))] .one [B (xs.any pr)]:=by
 refine fO 9 [] Tryz.func562 rfl ?_
 repeat'(first|refine gP ?_|(conv=>whnf);first|refine CB (yd xs pr a) ?_)
 exact C1 (λz=>[B z]) (lQ pr xs)
def M7(i:Int)(p:eL):Bool:=decide (p.A=i) || decide (p.B=i)
def HO(p:eL)(i:Int):zzA 563 false [.val (some 2) (eL.enc .S p),.ptr [I i]] .one [B (M7 i p)]:=by
 refine fO 14 [] Tryz.func563 rfl ?_
 repeat'(first|refine gP ?_|(conv=>whnf);first|with_reducible refine Bf.E (λa=>?_) (λa=>?_))
 all_goals exact C1 (λz=>[B z]) ((by unfold M7;first|(simp[*];done)|(simp[*];rw[Y6];simp)))
def zE(xs:List eL)(i:Int)(b:xs.length<=1048576):zzA 496 false [.val none (gy .S xs),.val none [I i]] .one [B (xs.any (M7 i))]:=by
 refine fO 8 [] Tryz.func496 rfl ?_
 repeat'(first|refine gP ?_|(conv=>whnf);first|refine Cq.mk (nl (some 2) (eL.enc .S) (M7 i) xs) (HO default i).has (λL k rcs a=>?_) ?_|refine CB (sY xs (M7 i) ω) ?_)
 ·obtain⟨y,-,rfl,rfl,rfl⟩:=a
  exact HO y i
 rfl
def cR(a b:aA):cH:=if(tL a 16).length<(tL b 16).length then⟨b.R,a.R,tL a 16⟩ else⟨a.R,b.R,tL b 16⟩
def R4(a b:aA)(g:meshable a b=true)(h:bh a=true)(i:bh b=true):zzA 429 false [.val (some 3) (aA.enc .S a),.val (some 3) (aA.enc .S b)] (.tup [some 3,none]) (cH.enc .own (cR a b)++[B true]):=by
 have c:=AP a b;rw[g]at c;have d:=pq a h;have e:=pq b i;have j:=mI a 16;have k:=mI b 16;unfold cR;split
 ·refine fO 27 [(3,6,[11,12,13,14,15,16]),(5,6,[20,21,22,23,24,25])] Tryz.func429 rfl ?_ (.inr (aD (cH.enc_fr _) ⟨trivial,trivial⟩))
  repeat'(first|refine gE ?_|(conv=>whnf);first|refine CB (c) ?_|refine CB (d) ?_|refine CB (e) ?_|refine CE ?_)
  rfl
 refine fO 27 [(3,6,[11,12,13,14,15,16]),(5,6,[20,21,22,23,24,25])] Tryz.func429 rfl ?_ (.inr (aD (cH.enc_fr _) ⟨trivial,trivial⟩))
 repeat'(first|refine gE ?_|(conv=>whnf);first|refine CB (c) ?_|refine CB (d) ?_|refine CB (e) ?_|refine CE ?_)
 rfl
def Aq(a b:aA)(g:meshable a b=true)(h:bh a=true)(i:bh b=true):zzA 390 false [.val (some 3) (aA.enc .S a),.val (some 3) (aA.enc .S b)] (.tup [some 3,none]) (cH.enc .own (cR a b)++[B true]):=by
 have c:=np a b;rw[g]at c;have d:=pO a h;have e:=pO b i;have j:=mI a 16;have k:=mI b 16;unfold cR;split
 ·refine fO 34 [(3,3,[13,14,15])] Tryz.func390 rfl ?_ (.inr (aD (cH.enc_fr _) ⟨trivial,trivial⟩))
  repeat'(first|refine gE ?_|(conv=>whnf);first|refine CB (c) ?_|refine CB (d) ?_|refine CB (e) ?_|refine CE ?_)
  rfl
 refine fO 34 [(3,3,[13,14,15])] Tryz.func390 rfl ?_ (.inr (aD (cH.enc_fr _) ⟨trivial,trivial⟩))
 repeat'(first|refine gE ?_|(conv=>whnf);first|refine CB (c) ?_|refine CB (d) ?_|refine CB (e) ?_|refine CE ?_)
 rfl
def FQ(p:cH):dE:=⟨p,0,0⟩
def GR(p:cH)(c:fj p=true)(a:cH.sml p):zzA 391 false [.val (some 3) (cH.enc .S p)] (.tup [some 5,none]) (dE.enc .own (FQ p)++[B true]):=by
 have b:=vZ p a;rw[c]at b;have d:=rx p a;refine fO 11 [] Tryz.func391 rfl ?_ (.inr (aD (dE.enc_fr _) ⟨trivial,trivial⟩))
 repeat'(first|refine gP ?_|(conv=>whnf);first|refine CB (b) ?_|refine CB (d) ?_)
 rfl
def vf(n:Nat){s:Int}(c:0<=s/\s<=1073741823):∀{j:Nat},j<=n - 1->∀x∈(eZ n s j).1,0<=x/\x<n
 | 0,_,x,a=>by
  simp only[eZ,qg,C6,List.mem_range]at a;obtain⟨i,d,rfl⟩:=a;omega
 | j+1,e,x,a=>by
  have f:=(lW n c j).1;have b:=vf n c (j:=j) ω;have g:=rP (eZ n s j).2 (n:=((n - 1 - j:Nat)+1:Int)) ω;simp only[eZ,wv]at a;rcases C9 a with a|rfl
  ·rcases C9 a with a|rfl
   ·exact b x a
   exact b _ (au ω)
  exact b _ (au ω)
def tkn(out:List eL)(a:Int):Bool:=out.any (M7 a)
def stp(a:List aA)(p:List Int)(t i:Nat)(out:List eL):List eL:=
 if tkn out (nth p i)=false/\tkn out (nth p (p.length / 2+(i+t) % (p.length - p.length / 2)))=false/\meshable (nth a (nth p i).toNat) (nth a (nth p (p.length / 2+(i+t) % (p.length - p.length / 2))).toNat)=true then out++[⟨nth p i,nth p (p.length / 2+(i+t) % (p.length - p.length / 2))⟩] else out
def xH(a:List aA)(p:List Int)(t:Nat)(out:List eL):Nat->List eL
 | 0=>out
 | i+1=>stp a p t i (xH a p t out i)
def uJ(a:List aA)(p:List Int):Nat->List eL
 | 0=>[]
 | t+1=>xH a p t (uJ a p t) (p.length / 2)
def RX(a:List aA)(p:List Int)(t i:Nat)(out:List eL):(stp a p t i out).length<=out.length+1:=by unfold stp;split<;>simp
def xy(a:List aA)(p:List Int)(t:Nat)(out:List eL):∀i,(xH a p t out i).length<=out.length+i
 | 0=>O4 _
 | i+1=>by have b:=xy a p t out i;have c:=RX a p t i (xH a p t out i);simp only[xH];omega
def FW(a:List aA)(p:List Int):∀t,(uJ a p t).length<=t*(p.length / 2)
 | 0=>Z0 _
 | t+1=>by have b:=FW a p t;have c:=xy a p t (uJ a p t) (p.length / 2);simp only[uJ];rw[Nat.add_mul];omega
def mN(a:List aA)(s:Int):List eL:=uJ a (shuf a.length s).1 3
def sH(x:List eL):ed (gy .own x)=gy .S x:=by simp[ed,gy,eL.enc,<-cg,I8]
def wP(c:List aA)(s:Int)(r:0<=s/\s<=1073741823)(Y:c.length<=16):zzA 389 false [.val none (cw .S c),.val none [I s],.val none [I 3]] (.tup [none,none]) (gy .own (mN c s)++[I (shuf c.length s).2]):=by
 have O:=sN s r;have H:=aG 3 0 16;rw[O0 ω]at H;have P:=AD c.length s r ω;have g:=(lW c.length r (c.length - 1)).1;have h:=vf c.length r (O4 _);unfold mN;change (shuf c.length s).1.length=_ at g;change ∀x∈(shuf c.length s).1,_ at h
 have y:iq (gy .own (uJ c (shuf c.length s).1 3)++[I (shuf c.length s).2]):=aD (Km _) ⟨trivial,trivial⟩;generalize shuf c.length s=q at *;obtain⟨p,z⟩:=q;simp only at *;have B:((p.length:Nat):Int).tdiv 2=((p.length / 2:Nat):Int):=by rw[Int.tdiv_eq_ediv_of_nonneg ω];omega
 have D:fz (C.s dQ.own (p.map (rI .own)))=C.s dQ.S (p.map (rI .S)):=(List.cons.inj (dm p)).1;have l:(p.drop (p.length / 2)).length=p.length - p.length / 2:=Y4 ..;have Q:(p.take (p.length / 2)).length=p.length / 2:=by rw[O2];omega
 have n:∀i:Nat,i<p.length->0<=nth p i/\nth p i<c.length:=λi R=>h _ (au R)
 have d:((c.length:Nat):Int).tdiv 2=((p.length / 2:Nat):Int):=by rw[<-g];exact B
 refine fO 99 [(5,264,[39,40,41,42,43,44,45,46,0,1,2,3,4,5,6,7,8,1004,1005,1006,1007,9]),(14,19,[69,70,71,72,73,74,75,76,77,78,79,80,81,82,83,84,85,86,87]),(1048581,9,[0])] Tryz.func389 rfl ?_ (.inr y)
 repeat'(first|refine gE ?_|(conv=>whnf);first|with_reducible refine CM ((C1 _ d).trans (fJ ω ω)) ?_|refine CE ?_|refine CB (O) ?_|refine CB (H) ?_|refine CB (P) ?_|refine CQ (by decide) ?_|refine Uv.mk rfl D rfl ?_|refine Sl.pre (p.length / 2) d (by rw[O1];omega) (aS λ_=>rfl) Y5 ?_|refine Sl.suf (p.length / 2) d (by rw[O1];omega) (aS λ_=>rfl) Z5 ?_|refine CE ?_)
 (conv=>whnf)
 refine CH (ι:=Nat) (λt=>[(0,.H .one (cw .S c)),(2,.H .one [I (3)]),(10,.H .one [I (z)]),(11,.H .one (aJ .S (p.take (p.length / 2)))),(12,.H .one (aJ .S (p.drop (p.length / 2)))),(13,.H .one (gy .own (uJ c p t))),(14,.H .one [I ((t:Nat):Int)])]) (λt=>t<=3) (λt=>3 - t) (0) ?_ (Z0 _) λt S=>?_
 ·exact wB
 have Z:=FW c p t;have ol2:t*(p.length / 2)<=3*8:=Nat.mul_le_mul S ω;by_cases lt:t<3
 ·repeat'(first|refine gE ?_|(conv=>whnf);first|refine CE ?_)
  (conv=>whnf)
  refine CH (ι:=Nat) (λj=>[(0,.H .one (cw .S c)),(2,.H .one [I (3)]),(10,.H .one [I (z)]),(11,.H .one (aJ .S (p.take (p.length / 2)))),(12,.H .one (aJ .S (p.drop (p.length / 2)))),(13,.H .one (gy .own (xH c p t (uJ c p t) j))),(14,.H .one [I ((t:Nat):Int)]),(53,.H .one (aJ .S (p.take (p.length / 2)))),(54,.H .one [I (((p.length / 2):Nat):Int)]),(55,.H .one [I ((j:Nat):Int)])]) (λj=>j<=p.length / 2) (λj=>p.length / 2 - j) (0) ?_ (Z0 _) λj hj=>?_
  ·exact wB
  have rl:=xy c p t (uJ c p t) j;by_cases T:j<p.length / 2
  ·have J:(j+t) % (p.length - p.length / 2)<p.length - p.length / 2:=Nat.mod_lt _ ω
   have E:((j:Int)+t).tmod ((p.length - p.length / 2:Nat):Int)=(((j+t) % (p.length - p.length / 2):Nat):Int):=by
    rw[fV ω,Int.natCast_emod];congr 1
   have e:xH c p t (uJ c p t) (j+1)=stp c p t j (xH c p t (uJ c p t) j):=rfl;unfold stp at e;generalize xH c p t (uJ c p t) j=out at *;have o:p.length / 2+(j+t) % (p.length - p.length / 2)<p.length:=ω
   generalize hk:(j+t) % (p.length - p.length / 2)=k at *;have F:(p.take (p.length / 2))[j]? = some (nth p j):=by rw[List.getElem?_take,CD T];exact ax ω
   have G:(p.drop (p.length / 2))[k]? = some (nth p (p.length / 2+k)):=by rw[List.getElem?_drop];exact ax o
   have U:=n j ω;have V:=n _ o;generalize nth p j=a at *;generalize nth p (p.length / 2+k)=b at *;have K:=zE out a ω;have L:=zE out b ω;have W:=ax (xs:=c) (i:=a.toNat) ω;have X:=ax (xs:=c) (i:=b.toNat) ω;have M:=np (nth c a.toNat) (nth c b.toNat);cases u:tkn out a<;>cases w:tkn out b<;>cases N:meshable (nth c a.toNat) (nth c b.toNat)
   all_goals
    unfold tkn at u w;rw[u]at K;rw[w]at L;change (tkn out a)=_ at u;change (tkn out b)=_ at w;rw[N]at M;rw[u,w,N]at e;simp only[and_true,true_and,if_true,Bool.false_eq_true,Bool.true_eq_false,and_false,false_and,if_false]at e
    repeat'(first|refine gE ?_|(conv=>whnf);first|refine CE ?_|refine CS (z:=(k:Int)) (by rw[l];exact E) ?_|refine Ln.mk (show List.length (List.map _ (p.drop (p.length / 2)))=p.length - p.length / 2 by rw[O1];exact l) ?_|refine CQ ω ?_|refine CF (aa F) ?_|refine CP ω (aa G) ?_|refine CP U.1 (aa W) ?_|refine CP V.1 (aa X) ?_|refine CN (K) ⟨⟨rfl,sH _⟩,⟨rfl,rfl⟩,trivial⟩ ?_|refine CN (L) ⟨⟨rfl,sH _⟩,⟨rfl,rfl⟩,trivial⟩ ?_|refine CB (M) ?_|refine CE ?_|refine Ap.sm (aS λ_=>rfl) rfl (by simp;omega) (by decide) (gH (eL.enc .own) out ⟨a,b⟩) ?_)
    ((conv=>whnf);refine CG (j+1) ω ω ?_)
    rw[e];exact wB
  obtain rfl:j=p.length / 2:=ω
  repeat'(first|refine gE ?_|(conv=>whnf);first|refine CE ?_)
  ((conv=>whnf);refine CG (t+1) ω ω ?_;(exact wB))
 obtain rfl:t=3:=ω
 repeat'(first|refine gE ?_|(conv=>whnf);first|refine CE ?_)
 rfl
variable{rcs:List C}{f:Nat}
def ar.fzR{P:Program}{sh:Bool}{A:List RA}{k:Kd}(h:ar P f sh A k rcs):ar P f sh A k (ed rcs):=by
 obtain⟨c,d⟩:=h;refine⟨c,λw S g i j=>(d w S g i j).mono λe w1 l=>?_⟩;obtain⟨v,n,p,X,S1,q,r,y,t,u⟩:=l;refine⟨v,n,p,NO,λb o=>S1 b o\/X b o,λ_ _ h=>h.elim,λb o a=>?_,λ_ _ h=>h.elim,by rw[cg,O1];exact t,u.freeze⟩;rcases a with a|a
 ·exact r b o a
 exact .inr (q b o a)
structure Tj(ls:List aA)(q:eL):Prop where
 a:0<=q.A/\q.A<ls.length
 b:0<=q.B/\q.B<ls.length
 m:meshable (nth ls q.A.toNat) (nth ls q.B.toNat)=true
def LX{b:List aA}{p:List Int}(c:∀x∈p,0<=x/\x<b.length)(t:Nat){out:List eL}(d:∀q∈out,Tj b q):∀{i:Nat},i<=p.length / 2->∀q∈xH b p t out i,Tj b q
 | 0,_=>d
 | i+1,h=>λq a=>by
  have e:=LX c t d (i:=i) ω;simp only[xH,stp]at a;split at a
  ·rename_i g
   rcases I4.1 a with a|a
   ·exact e q a
   obtain rfl:=C2.1 a;have f:(i+t) % (p.length - p.length / 2)<p.length - p.length / 2:=Nat.mod_lt _ ω;exact⟨c _ (au ω),c _ (au ω),g.2.2⟩
  exact e q a
def Lo{a:List aA}{p:List Int}(b:∀x∈p,0<=x/\x<a.length):∀t,∀q∈uJ a p t,Tj a q
 | 0=>λq c=>by cases c
 | t+1=>LX b t (Lo b t) (O4 _)
def nP(a:List aA){s:Int}(b:0<=s/\s<=1073741823):∀q∈mN a s,Tj a q:=Lo (vf a.length b (O4 _)) 3
def Te(s:aA)(n:Nat):(tL s n).Pairwise (· < ·):=by
 unfold tL;rw[List.pairwise_map];exact(List.pairwise_lt_range.sublist List.filter_sublist).imp λh=>ω
def UC{n:Nat} : ∀z∈tL s n,0<=z/\z<n:=λz a=>by
 unfold tL at a;simp only[C6,I6,List.mem_range]at a;obtain⟨c,⟨b,-⟩,rfl⟩:=a;omega
def zz(s:aA):dN (tL s 16).length (mX (tL s 16))=true:=by
 refine cC.2 λj a=>?_
 have c:=UC _ (au a);unfold mX;refine O0 ⟨ω,ω,?_⟩;by_cases e:j=0
 ·exact .inl e
 refine .inr ?_;have b:=List.pairwise_iff_getElem.1 (Te s 16) (j - 1) j ω a ω;rw[show nth (tL s 16) (j - 1)=(tL s 16)[j - 1] from bk (I3 ω),show nth (tL s 16) j=(tL s 16)[j] from bk (I3 a)];exact b
def uA{a b:aA}(c:meshable a b=true):fj (cR a b)=true/\bh a=true/\bh b=true:=by
 unfold meshable at c;simp only[I0,C0]at c;have d:=aK c.1.1;have e:=aK c.1.2;refine⟨?_,c.1⟩;unfold cR fj;split
 ·simp only[I0,C0];exact⟨zz a,ω⟩
 simp only[I0,C0];exact⟨zz b,ω⟩
def J1(a b:aA):cH.sml (cR a b):=by
 have c:=mI a 16;have d:=mI b 16;unfold cR cH.sml tC;split<;>simp only<;>omega
def bv(h:ac):List aA:=(oz h).take 16
def started(h:ac):ac × Bool:=match mN (bv h) h.b3 with
 | []=>({h with b3:=(shuf (bv h).length h.b3).2},false)
 | q::_=>({h with b3:=(shuf (bv h).length h.b3).2,k:=true,Y:=FQ (cR (nth (bv h) q.A.toNat) (nth (bv h) q.B.toNat))},true)
variable{E:List Int}
def Q0(a:aX h E):h.K.length<=32/\gY h<=32/\FE h/\∀s∈h.K,s.a8<=9223372036854775807:=by
 have b:=a.lens;refine⟨b.spans,b.ents,?_,λs c=>by have:=dY (a.L.sok s c);omega⟩;have:=(bX a.ker).1.2;exact this
def JF(h:ac):(bv h).length<=16:=by unfold bv;rw[O2];omega
def US(x:List eL)(z:Int):ed (gy .own x++[I z])=gy .S x++[I z]:=by
 have h:=sH x;rw[cg]at h |-;rw[C8,h];simp[fz]
def E6(h:ac):ac × Bool:=if h.k=false/\fg h=true then started h else(h,false)
def Fx(h:ac)(g:ac.sml h)(i:¬(h.k=false/\fg h=true)):zzA 249 false [.val (some 24) (ac.enc .S h)] (.tup [some 24,none]) (cV h++[B false]):=by
 have a:=cr h g;rw[dz]at a;have b:=dw h g;have c:ac.enc .S h=(ac.enc .S h).set 18 (B h.k):=rfl;cases d:h.k
 ·have j:fg h=false:=by
   rcases Bool.eq_false_or_eq_true (fg h) with e|e
   ·exact absurd ⟨d,e⟩ i
   exact e
  rw[j]at a;rw[d]at c;rw[c]at a b |-;refine fO 66 [(10,275,[41,42,43,44,45,46,47,48,49,50,51,52,53,54,55,40,56,57,8,0,1,2,3,4,5,6,7,8,9,10,11,12,13,14,15,16,17,18,19,1017,20])] Tryz.func249 rfl ?_ (.inr (aD (bT _) ⟨trivial,trivial⟩))
  repeat'(first|refine gP ?_|(conv=>whnf);first|refine CE ?_|refine CB (a) ?_|refine CB (b) ?_)
  rfl
 rw[d]at c;rw[c]at a b |-;refine fO 66 [(10,275,[41,42,43,44,45,46,47,48,49,50,51,52,53,54,55,40,56,57,8,0,1,2,3,4,5,6,7,8,9,10,11,12,13,14,15,16,17,18,19,1017,20])] Tryz.func249 rfl ?_ (.inr (aD (bT _) ⟨trivial,trivial⟩))
 repeat'(first|refine gP ?_|(conv=>whnf);first|refine CE ?_|refine CB (a) ?_|refine CB (b) ?_)
 rfl
def A5(h:ac)(t:ac.sml h)(H:h.k=false)(u:fg h=true):zzA 249 false [.val (some 24) (ac.enc .S h)] (.tup [some 24,none]) (cV (started h).1++[B (started h).2]):=by
 have w:=aX.of u;obtain⟨w1,U,J,K⟩:=Q0 w;have a:=w.nums;unfold cT at a;rw[C0]at a;have j:=cr h t;rw[dz,u]at j;have l:=dw h t;have k:=(yp h J ω ω K).fzR;rw[eJ]at k;have n:=JF h;have c:=(wP (bv h) h.b3 ⟨a.1,a.2.1⟩ n).fzR;rw[US]at c;have d:=nP (bv h) ⟨a.1,a.2.1⟩;have L:=sX h h.K.length;have y:(oz h).length<=32:=by unfold oz;omega
 have g:(bv h).map (aA.enc .S)=((oz h).map (aA.enc .S)).take (bv h).length:=by
  unfold bv;rw[Y5,O2];by_cases e:16<=(oz h).length
  ·rw[Nat.min_eq_left e]
  rw[Nat.min_eq_right ω,Y9 (by rw[O1];omega),Y9 (by rw[O1];omega)]
 have b:(bv h).length=if(oz h).length<=16 then(oz h).length else 16:=by unfold bv;rw[O2];split<;>omega
 have C:ac.enc .S h=(ac.enc .S h).set 18 (B h.k):=rfl;rw[H]at C;rw[C]at j l k |-;unfold started;cases E:mN (bv h) h.b3 with
 | nil=>
  rw[E]at c;refine fO 66 [(10,275,[41,42,43,44,45,46,47,48,49,50,51,52,53,54,55,40,56,57,8,0,1,2,3,4,5,6,7,8,9,10,11,12,13,14,15,16,17,18,19,1017,20])] Tryz.func249 rfl ?_ (.inr (aD (bT _) ⟨trivial,trivial⟩))
  repeat'(first|refine gP ?_|(conv=>whnf);first|refine CE ?_|refine CB (j) ?_|refine CB (l) ?_|refine CB (k) ?_|refine CB (c) ?_|refine CS (z:=((bv h).length:Int)) (by rw[b];simp;split<;>split<;>omega) ?_|refine Sl.pre (bv h).length rfl (by rw[O1,b];split<;>omega) (aS λ_=>rfl) g ?_)
  rfl
 | cons q M=>
  rw[E]at c d;obtain⟨N,O,F⟩:=d q (X2 ..);obtain⟨P,Q,R⟩:=uA F;have S:=Aq _ _ F Q R;have T:=GR _ P (J1 _ _);have o:=ax (xs:=bv h) (i:=q.A.toNat) ω;have p:=ax (xs:=bv h) (i:=q.B.toNat) ω;have r:(q::M)[0]? = some q:=rfl;refine fO 66 [(10,275,[41,42,43,44,45,46,47,48,49,50,51,52,53,54,55,40,56,57,8,0,1,2,3,4,5,6,7,8,9,10,11,12,13,14,15,16,17,18,19,1017,20])] Tryz.func249 rfl ?_ (.inr (aD (bT _) ⟨trivial,trivial⟩))
  repeat'(first|refine gP ?_|(conv=>whnf);first|with_reducible refine Bf.D (λG=>absurd G (by simp)) (λG=>?_)|refine CE ?_|refine CB (j) ?_|refine CB (l) ?_|refine CB (k) ?_|refine CB (c) ?_|refine CS (z:=((bv h).length:Int)) (by rw[b];simp;split<;>split<;>omega) ?_|refine Sl.pre (bv h).length rfl (by rw[O1,b];split<;>omega) (aS λ_=>rfl) g ?_|refine CP (by decide) (aa r) ?_|refine CP N.1 (aa o) ?_|refine CP O.1 (aa p) ?_|refine CB (S) ?_|refine CN (T) ⟨⟨rfl,cH.enc_fz _⟩,trivial⟩ ?_|refine CE ?_)
  rfl
def z8(h:ac)(a:ac.sml h):zzA 249 false [.val (some 24) (ac.enc .S h)] (.tup [some 24,none]) (cV (E6 h).1++[B (E6 h).2]):=by
 unfold E6;split
 ·rename_i e;exact A5 h a e.1 e.2
 rename_i e;exact Fx h a e
def Kb(xs:List Int)(x:Int)(h:xs.length<=4611686018427387904):zzA 435 false [.val none (aJ .S xs),.val none [I x]] .one [I (cF (λy=>decide (y=x)) xs)]:=by
 refine fO 19 [] Tryz.func435 rfl ?_
 repeat'(first|refine gP ?_|(conv=>whnf);first|refine CE ?_)
 (conv=>whnf)
 refine CH (ι:=Nat) (λi=>[(0,.H .one (aJ .S xs)),(1,.H .one [I (x)]),(7,.H .one [I (xs.length)]),(8,.H .one [I ((i:Nat):Int)])]) (λi=>i<=xs.length/\∀(j:Nat)(z:Int),j<i->xs[j]? = some z->decide (z=x)=false) (λi=>xs.length - i) (0) ?_ (⟨Z0 _,λj z d _=>absurd d (Nat.not_lt_zero _)⟩) λi c=>?_
 ·exact wB
 obtain⟨c,b⟩:=c;by_cases g:i<xs.length
 ·have a:=ax g
  by_cases e:nth xs i=x
  ·repeat'(first|refine gE ?_|(conv=>whnf);first|with_reducible refine CF (aa a) ?_|refine CE ?_|refine Bf.t (by simp[e]) ?_)
   exact C1 (λz=>[I z]) (eD a (O0 e) b).symm
  repeat'(first|refine gE ?_|(conv=>whnf);first|with_reducible refine CF (aa a) ?_|refine CE ?_|refine Bf.f (by simp[Ne.symm e]) ?_)
  ((conv=>whnf);refine CG (i+1) ⟨ω,iE a (X0 e) b⟩ ω ?_;(exact wB))
 repeat'(first|refine gE ?_|(conv=>whnf);first|refine CE ?_)
 exact C1 (λz=>[I z]) (gQ ω b).symm
def rv(xs:List Int)(x:Int)(a:xs.length<=4611686018427387904):zzA 287 false [.val none (aJ .S xs),.val none [I x]] .one [B (decide (x∈xs))]:=by
 refine fO 9 [] Tryz.func287 rfl ?_
 repeat'(first|refine gP ?_|(conv=>whnf);first|refine CE ?_|refine CB (Kb xs x a) ?_)
 exact C1 (λz=>[B z]) ((by rw[lQ];rw[Y6];simp))
def dS(k:am):am:={k with Calls:=k.Calls+1}
def refd(k:am):Bool:=decide (k.Calls∈k.w)
def ox(k:am)(a:am.sml k)(d:0<=k.Calls/\k.Calls<=100000):zzA 459 false [.val (some 5) (am.enc .S k)] (.tup [some 5,none]) (am.enc .own (dS k)++[B (!refd k)]):=by
 have c:=gj k a;have g:k.w.length<=1048576:=a.2;have b:=rv k.w k.Calls ω;unfold refd;cases e:decide (k.Calls∈k.w)<;>rw[e]at b
 all_goals
  refine fO 18 [(3,263,[11,12,13,14,15,16,17,0,1,2,3,4,5,6,7,1006,8])] Tryz.func459 rfl ?_ (.inr (aD (CZ _) ⟨trivial,trivial⟩))
  repeat'(first|refine gP ?_|(conv=>whnf);first|refine CE ?_|refine CB (c) ?_|refine CB (b) ?_|refine CE ?_)
  rfl
def jI(k:am)(p:Int)(m:Int):am:={k with F:=⟨k.F.X,⟨k.F.Q.J.set p.toNat {nth k.F.Q.J p.toNat with e:=m}⟩⟩}
def ky(k:am)(p m:Int):am × Bool:=if refd k=true then(dS k,false) else(jI (dS k) p m,true)
def By(k:am)(p m:Int):am.enc .own (jI k p m)=(am.enc .own k).set 2 (.s .own ((k.F.Q.J.map (bm.enc .own)).set p.toNat (bm.enc .own {nth k.F.Q.J p.toNat with e:=m}))):=by
 simp[am.enc,jI,X8]
def qV(k:am)(p m:Int)(b:aF k=true)(n:k.Calls≠100000)(j:(af k.F.Q p).e≠0)(a:m=1\/m=2):zzA 559 false [.val (some 5) (am.enc .S k),.val none [I p],.val none [I m]] (.tup [some 5,none]) (am.enc .own (ky k p m).1++[B (ky k p m).2]):=by
 have c:=bX b;have o:=(aH.1 b).2.2.2;have d:=ig k c;rw[b,O0 n]at d;have g:=ox k c ⟨ω,ω⟩;have h:=eP k p c.1.2;rw[O0 j]at h;obtain⟨q,r,t⟩:=bR b j;have l:=ax (xs:=k.F.Q.J) (i:=p.toNat) ω;unfold ky;cases e:refd k<;>rw[e]at g
 ·rw[CC (by simp),By]
  rcases a with rfl|rfl
  all_goals
   refine fO 46 [] Tryz.func559 rfl ?_ (.inr (aD (by rw[<-By];exact CZ _) ⟨trivial,trivial⟩))
   repeat'(first|refine gP ?_|(conv=>whnf);first|refine CE ?_|refine CB (d) ?_|refine CB (g) ?_|refine CB (h) ?_|refine CP q (aa l) ?_|refine CR rfl rfl (aa l) rfl (Z1 rfl) rfl ?_)
   rfl
 rw[CD rfl];rcases a with rfl|rfl
 all_goals
  refine fO 46 [] Tryz.func559 rfl ?_ (.inr (aD (CZ _) ⟨trivial,trivial⟩))
  repeat'(first|refine gP ?_|(conv=>whnf);first|refine CE ?_|refine CB (d) ?_|refine CB (g) ?_|refine CB (h) ?_)
  rfl
variable{k:am}
def row16(a:aF k=true)(b:f<k.F.X.V.length):(nth k.F.X.V f).length=16:=by
 have:=(aZ.1 (aH.1 a).2.1).2.2.2 f b;unfold ip at this;simp only[I0,C0]at this;omega
def setCell(k:am)(f:Nat)(c v:Int):am:={k with F:=⟨⟨k.F.X.V.set f ((nth k.F.X.V f).set c.toNat v),k.F.X.a4⟩,k.F.Q⟩}
def HH(k:am)(f:Nat)(c v:Int):am.enc .own (setCell k f c v)=(am.enc .own k).set 0 (.s .own ((k.F.X.V.map (aJ .own)).set f [.s .own (((nth k.F.X.V f).map (rI .own)).set c.toNat [I v])])):=by
 simp[am.enc,setCell,X8,aJ,rI]
def bN(k:am)(p:Int):Nat:=(af k.F.Q p).j.toNat
def tQ(k:am)(a b c:Int):am:=setCell k (bN k b) c (nth (nth k.F.X.V (bN k a)) c.toNat)
def Ux(k:am)(a b c:Int):Nat->am
 | 0=>k
 | _+1=>tQ k a b c
def Jm(k:am)(a b c:Int)(d:aF k=true)(C:k.Calls≠100000)(q:(af k.F.Q a).e≠0)(r:(af k.F.Q b).e≠0)(e:0<=c/\c<=15):zzA 560 false [.val (some 5) (am.enc .S k),.val none [I a],.val none [I b],.val none (aJ .S [c])] (.tup [some 5,none]) (am.enc .own (tQ k a b c)++[B true]):=by
 have h:=bX d;have t:=ig k h;rw[d,O0 C]at t;have D:=gj k h;have u:=eP k a h.1.2;have w:=eP k b h.1.2;rw[O0 q]at u;rw[O0 r]at w;have E:=cz k.F.Q a h.1.2;have F:=cz k.F.Q b h.1.2;have y:=Bl c;rw[O0 e]at y;obtain⟨-,-,-,G,K⟩:=bR d q;obtain⟨-,-,-,H,L⟩:=bR d r;have J:=(aZ.1 (aH.1 d).2.1).2.2.1;have M:=row16 d (f:=bN k a) (by unfold bN;omega);have N:=row16 d (f:=bN k b) (by unfold bN;omega);have l:k.F.X.V[(af k.F.Q a).j.toNat]? = some (nth k.F.X.V (bN k a)):=ax ω;have g:k.F.X.V[(af k.F.Q b).j.toNat]? = some (nth k.F.X.V (bN k b)):=ax ω;have o:=ax (xs:=nth k.F.X.V (bN k a)) (i:=c.toNat) ω;have n:=ax (xs:=nth k.F.X.V (bN k b)) (i:=c.toNat) ω;have p:[c][0]? = some c:=rfl;refine fO 77 [(4,268,[33,34,35,36,37,38,39,40,41,42,43,44,0,1,2,3,4,5,6,7,8,9,10,11,12,1011,13]),(10,18,[56,57,58,59,60,61,62,63,64,65,66,67,68,69,70,71,72,73])] Tryz.func560 rfl ?_ (.inr (aD (CZ _) ⟨trivial,trivial⟩))
 repeat'(first|refine gP ?_|(conv=>whnf);first|refine CE ?_|refine CB (t) ?_|refine CB (D) ?_|refine CB (u) ?_|refine CB (w) ?_|refine CB (E) ?_|refine CB (F) ?_|refine CE ?_)
 (conv=>whnf)
 refine CH (ι:=Nat) (λj=>[(4,.H .box (am.enc .S k)),(8,.H .box (am.enc .own ⟨⟨⟨[],[]⟩,⟨[]⟩⟩,0,[]⟩)),(10,.H .box (am.enc .own (Ux k a b c j))),(11,.H .one [I ((af k.F.Q a).j)]),(12,.H .one [I ((af k.F.Q b).j)]),(45,.H .one (aJ .S [c])),(46,.H .one [I (1)]),(47,.H .one [I ((j:Nat):Int)])]) (λj=>j<=1) (λj=>1 - j) (0) ?_ (Z0 _) λj O=>?_
 ·exact wB
 by_cases P:j<1
 ·obtain rfl:j=0:=ω
  repeat'(first|refine gE ?_|(conv=>whnf);first|refine CE ?_|refine CP (by decide) (aa p) ?_|refine CB (y) ?_|refine CP G (aa l) ?_|refine CP H (aa g) ?_|refine CP e.1 (aa o) ?_|refine CP e.1 (aa n) ?_|refine CJ rfl (aa g) rfl ?_|refine CJ rfl (aa l) rfl ?_|refine CE ?_|refine Pu.two rfl rfl (aa g) rfl rfl rfl (aa n) rfl (O4 _) rfl ?_)
  ((conv=>whnf);refine CG 1 ω ω ?_)
  rw[show Ux k a b c 1=tQ k a b c from rfl];unfold tQ;rw[HH];exact wB
 obtain rfl:j=1:=ω
 repeat'(first|refine gE ?_|(conv=>whnf);first|refine CE ?_)
 rfl
def wK(k:am)(p:Nat)(e:bm):am:={k with F:=⟨k.F.X,⟨k.F.Q.J.set p e⟩⟩}
def PX(k:am)(p:Nat)(e:bm):am.enc .own (wK k p e)=(am.enc .own k).set 2 (.s .own ((k.F.Q.J.map (bm.enc .own)).set p (bm.enc .own e))):=by
 simp[am.enc,wK,X8]
def QF(p:Nat)(e:bm)(h:aL.sml k.F.Q):aL.sml (wK k p e).F.Q:=by
 refine⟨?_,λx _=>trivial⟩;show(k.F.Q.J.set p e).length<=_;rw[I2];exact h.1
def w8(k:am)(p o:Int):am × Bool:=if refd k=true then(dS k,false) else(gp (wK (dS k) p.toNat ⟨2,(nth k.F.Q.J o.toNat).j⟩) (nth k.F.Q.J p.toNat).j,true)
def iP(m:aV)(a v:Int):aV × Int:=
 if(af m.Q (a / 16)).e=0 then(m,1) else if(af m.Q (a / 16)).e=1 then(m,2) else
 (⟨⟨m.X.V.set (af m.Q (a / 16)).j.toNat ((nth m.X.V (af m.Q (a / 16)).j.toNat).set (a % 16).toNat v),m.X.a4⟩,m.Q⟩,0)
def te(m:aV)(a:Int)(d:df m=true)(b:aV.sml m)(e:0<=a/\a<512):zzA 568 false [.val (some 3) (aV.enc .S m),.val none [I a]] .agg (bm.enc .own (af m.Q (a / 16))):=by
 have c:=pR m b;rw[d]at c;have g:=cz m.Q (a / 16) b.2;refine fO 18 [] Tryz.func568 rfl ?_ (.inr ⟨trivial,trivial,trivial⟩)
 repeat'(first|refine gE ?_|(conv=>whnf);first|refine CB (c) ?_|refine CB (g) ?_|refine CM (xJ e) ?_|refine CQ (by decide) ?_)
 rfl
def KI(m:aV)(f:Nat)(c v:Int):aV.enc .own ⟨⟨m.X.V.set f ((nth m.X.V f).set c.toNat v),m.X.a4⟩,m.Q⟩ = (aV.enc .own m).set 0 (.s .own ((m.X.V.map (aJ .own)).set f [.s .own (((nth m.X.V f).map (rI .own)).set c.toNat [I v])])):=by
 simp[aV.enc,X8,aJ,rI]
def yo(m:aV)(a v:Int)(p:df m=true)(k:aV.sml m)(l:0<=a/\a<512)(q:0<=v/\v<=999)(r:(af m.Q (a / 16)).e≠0->0<=(af m.Q (a / 16)).j/\(af m.Q (a / 16)).j<m.X.V.length/\(nth m.X.V (af m.Q (a / 16)).j.toNat).length=16):zzA 505 false [.val (some 3) (aV.enc .S m),.val none [I a],.val none [I v]] (.tup [some 3,none]) (aV.enc .own (iP m a v).1++[I (iP m a v).2]):=by
 have d:=jQ m k;have e:=te m a p k l;have c:=aG v 0 999;rw[O0 q]at c;have b:=aV.enc_fr (iP m a v).1;unfold iP at b |-;by_cases g:(af m.Q (a / 16)).e=0
 ·rw[CD g]at b |-
  refine fO 42 [] Tryz.func505 rfl ?_ (.inr (aD b ⟨trivial,trivial⟩))
  repeat'(first|refine gB ?_|(conv=>whnf);first|refine CB (d) ?_|refine CB (e) ?_|refine CB (c) ?_)
  rfl
 rw[CC g]at b |-;by_cases n:(af m.Q (a / 16)).e=1
 ·rw[CD n]at b |-
  refine fO 42 [] Tryz.func505 rfl ?_ (.inr (aD b ⟨trivial,trivial⟩))
  repeat'(first|refine gB ?_|(conv=>whnf);first|refine CB (d) ?_|refine CB (e) ?_|refine CB (c) ?_)
  rfl
 rw[CC n]at b |-;obtain⟨t,u,w⟩:=r g;have h:=ax (xs:=m.X.V) (i:=(af m.Q (a / 16)).j.toNat) ω;have o:=ax (xs:=nth m.X.V (af m.Q (a / 16)).j.toNat) (i:=(a % 16).toNat) ω;simp only at b |-;rw[KI]at b |-;have j:a.tmod 16=a % 16:=fV l.1;refine fO 42 [] Tryz.func505 rfl ?_ (.inr (aD b ⟨trivial,trivial⟩))
 repeat'(first|refine gB ?_|(conv=>whnf);first|refine CB (d) ?_|refine CB (e) ?_|refine CB (c) ?_|refine CS j ?_|refine CQ (by decide) ?_|refine CP t (aa h) ?_|refine CP ω (aa o) ?_|refine CJ rfl (aa h) rfl ?_|refine Pu.two rfl rfl (aa h) rfl rfl rfl (aa o) rfl (O4 _) rfl ?_)
 rfl
def HY(k:am)(p o:Int)(a:aF k=true)(w:k.Calls≠100000)(l:(af k.F.Q p).e≠0)(n:(af k.F.Q o).e≠0)(y:p≠o):zzA 561 false [.val (some 5) (am.enc .S k),.val none [I p],.val none [I o]] (.tup [some 5,none]) (am.enc .own (w8 k p o).1++[B (w8 k p o).2]):=by
 have b:=bX a;have C:=(aH.1 a).2.2.2;have c:=ig k b;rw[a,O0 w]at c;have d:=ox k b ⟨ω,ω⟩;have g:=eP k p b.1.2;have h:=eP k o b.1.2;rw[O0 l]at g;rw[O0 n]at h;obtain⟨D,H,E,q,r⟩:=bR a l;obtain⟨F,J,K,L,M⟩:=bR a n;have G:=(aZ.1 (aH.1 a).2.1).2.2.1;have j:=ax (xs:=k.F.Q.J) (i:=p.toNat) ω;have t:=ax (xs:=k.F.Q.J) (i:=o.toNat) ω;rw[E]at q r;have u:=ui (wK (dS k) p.toNat ⟨2,(nth k.F.Q.J o.toNat).j⟩) (nth k.F.Q.J p.toNat).j (QF _ _ b.1.2) ⟨q,by show _<((k.F.X.V.length:Nat):Int);omega,r⟩;rw[PX]at u;unfold w8;cases e:refd k<;>rw[e]at d
 ·rw[CC (by simp)]
  refine fP 63 [(198,[2,0]),(1000010,[])] [] Tryz.func561 rfl ?_ (.inr (aD (CZ _) ⟨trivial,trivial⟩))
  repeat'(first|refine gB ?_|(conv=>whnf);first|refine CB (c) ?_|refine CB (d) ?_|refine CB (g) ?_|refine CB (h) ?_|refine CP D (aa j) ?_|refine CP F (aa t) ?_|refine CJ rfl (aa j) rfl ?_|refine CJ rfl (aa t) rfl ?_|refine CR rfl rfl (aa j) rfl (Z1 rfl) rfl ?_|refine CK (u) (.inl rfl) ?_)
  rfl
 rw[CD rfl];refine fP 63 [(198,[2,0]),(1000010,[])] [] Tryz.func561 rfl ?_ (.inr (aD (CZ _) ⟨trivial,trivial⟩))
 repeat'(first|refine gP ?_|(conv=>whnf);first|refine CB (c) ?_|refine CB (d) ?_|refine CB (g) ?_|refine CB (h) ?_)
 rfl
def jmay(k:am)(j:dE):Bool:=(aF k&&decide (k.Calls≠100000))&&(lu j&&decide ((af k.F.Q j.W.a3).e≠0/\(af k.F.Q j.W.a0).e≠0/\(af k.F.Q j.W.a3).j≠(af k.F.Q j.W.a0).j))
def jstep(k:am)(j:dE):am × dE:=
 if j.a9=0 then((ky k j.W.a0 1).1,{j with a9:=if(ky k j.W.a0 1).2=true then 1 else 5})
 else if j.a9=1 then(if j.b=j.W.V.length then(k,{j with a9:=2}) else(tQ k j.W.a0 j.W.a3 (nth j.W.V j.b.toNat),{j with b:=j.b+1}))
 else if j.a9=2 then((w8 k j.W.a0 j.W.a3).1,{j with a9:=if(w8 k j.W.a0 j.W.a3).2=true then 4 else 3})
 else if j.a9=3 then(if 0<j.b then({k with F:=(iP k.F (j.W.a3*16+nth j.W.V (j.b - 1).toNat) 0).1},{j with b:=j.b - 1}) else((ky k j.W.a0 2).1,{j with a9:=if(ky k j.W.a0 2).2=true then 5 else 3}))
 else(k,j)
def NN{f:Int}(h1:∀j,j<k.w.length->0<=nth k.w j)(d:dA k.F.X=true)(g:gx k.F.Q k.F.X.a4.length=true)(h:∀j:Nat,j<k.F.X.a4.length->(j:Int)≠f->nth k.F.X.a4 j=decide (0<(pagesOn k.F.Q (j:Int)).length))(t:0<=f/\f<k.F.X.a4.length)(l:nth k.F.X.a4 f.toNat=true)(i:0<=k.Calls/\k.Calls<=100000/\k.w.length<=40):aF (gp k f)=true:=by
 obtain⟨n,o,p,q⟩:=aZ.1 d;unfold gp;split
 ·rename_i c
  rw[aH];simp only[I2];refine⟨h1,?_,g,λj b=>?_,i⟩
  ·rw[aZ]
   simp only[I2,bz];refine⟨n,o,p,λj b=>?_⟩;by_cases a:f.toNat=j
   ·rw[CD ⟨a,b⟩,CD ⟨a,ω⟩];decide
   rw[CC (λe=>a e.1),CC (λe=>a e.1)];exact q j b
  rw[bz];by_cases a:f.toNat=j
  ·rw[CD ⟨a,b⟩]
   have:(j:Int)=f:=ω
   rw[this];exact(X0 λr=>absurd c (Nat.ne_of_gt r)).symm
  rw[CC (λe=>a e.1)];exact h j b ω
 rename_i c;rw[aH];refine⟨h1,d,g,λj b=>?_,i⟩;by_cases a:(j:Int)=f
 ·rw[a,show j=f.toNat by omega,l]
  exact(O0 (Nat.pos_of_ne_zero c)).symm
 exact h j b a
def tEq(t a:aL):Prop:=a.J.length=t.J.length/\∀q:Nat,((nth a.J q).e≠0↔(nth t.J q).e≠0)/\(nth a.J q).j=(nth t.J q).j
def tEq.refl(t:aL):tEq t t:=⟨rfl,λ_=>⟨Iff.rfl,rfl⟩⟩
def tEq.of{t a:aL}(h:a=t):tEq t a:=by rw[h];exact tEq.refl t
def tEq.pagesOn{t a:aL}(h:tEq t a)(f:Int):Ab.pagesOn a f=Ab.pagesOn t f:=by
 unfold Ab.pagesOn k7;rw[h.1]
 congr 1
 refine List.filter_congr λq _=>?_
 obtain⟨b,c⟩:=h.2 q;unfold QU;rw[c];exact decide_eq_decide.2 (and_congr b Iff.rfl)
def DP(h:aF k=true){a:aL}(c:tEq k.F.Q a)(i:∀q,q<a.J.length->0<=(nth a.J q).e/\(nth a.J q).e<=2):aF {k with F:=⟨k.F.X,a⟩} = true:=by
 obtain⟨l,n,o,p,r⟩:=aH.1 h;obtain⟨t,u,w⟩:=bu.1 o;rw[aH];refine⟨l,n,bu.2 ⟨λj b=>?_,?_,?_⟩,λj b=>?_,r⟩
 ·replace b:j<a.J.length:=b
  have e:=t j (by rw[<-c.1];exact b);have d:=i j b;obtain⟨g,y⟩:=c.2 j;show lx _ (nth a.J j)=true;unfold lx at e |-;rw[C0]at e |-;rw[y];refine⟨d.1,d.2,λf=>e.2.2.1 (Classical.byContradiction λA=>(g.2 A) f),λf=>e.2.2.2 (g.1 f)⟩
 ·show 1<=a.J.length;rw[c.1];exact u
 ·show a.J.length<=32;rw[c.1];exact w
 show nth k.F.X.a4 j=decide (0<(Ab.pagesOn a (j:Int)).length);rw[c.pagesOn];exact p j b
def nq(h:aF k=true)(f:k.Calls≠100000):aF (dS k)=true:=by
 obtain⟨a,b,c,d,g,i,e⟩:=aH.1 h;rw[aH];exact⟨a,b,c,d,by show 0<=k.Calls+1;omega,by show k.Calls+1<=100000;omega,e⟩
variable{p:Int}
def vG{m:Int}(a:(nth k.F.Q.J p.toNat).e≠0)(b:m=1\/m=2):tEq k.F.Q (jI k p m).F.Q:=by
 refine⟨by simp[jI],λq=>?_⟩;simp only[jI,bz];split
 ·rename_i e
  rw[<-e.1];exact⟨⟨λ_=>a,λ_=>by show m≠0;omega⟩,rfl⟩
 exact⟨Iff.rfl,rfl⟩
def PO(h:aF k=true){m:Int}(d:(nth k.F.Q.J p.toNat).e≠0)(a:m=1\/m=2):aF (jI k p m)=true:=by
 refine DP h (vG d a) λq e=>?_
 obtain⟨i,j,f,l,n⟩:=aH.1 h;obtain⟨g,o,r⟩:=bu.1 f;have c:q<k.F.Q.J.length:=by rw[<-(vG d a).1];exact e
 have b:=g q c;unfold lx at b;rw[C0]at b;simp only[bz];split
 ·show 0<=m/\m<=2;omega
 exact⟨b.1,b.2.1⟩
def Hn{m:Int}(h:aF k=true)(c:k.Calls≠100000)(b:(af k.F.Q p).e≠0)(a:m=1\/m=2):aF (ky k p m).1=true/\tEq k.F.Q (ky k p m).1.F.Q:=by
 obtain⟨e,f,d,-⟩:=bR h b;rw[d]at b;unfold ky;split
 ·exact⟨nq h c,tEq.refl _⟩
 exact⟨PO (nq h c) b a,vG (k:=dS k) b a⟩
def gW(h:aF k=true)(b:(af k.F.Q p).e≠0):bN k p<k.F.X.V.length/\nth k.F.X.a4 (bN k p)=true/\((bN k p:Nat):Int)=(nth k.F.Q.J p.toNat).j:=by
 obtain⟨f,g,a,i,j⟩:=bR h b;obtain⟨l,d,n,e,o⟩:=aH.1 h;obtain⟨q,r,t,u⟩:=aZ.1 d;have c:((bN k p:Nat):Int)=(af k.F.Q p).j:=by unfold bN;omega
 refine⟨ω,?_,by rw[c,a]⟩;rw[e _ ω,c];refine O0 (eg.2 ⟨p.toNat,ω,?_,?_⟩)
 ·rw[<-a];exact b
 rw[<-a]
def Pj(h:aF k=true){r':List Int}(b:r'.length=16)(c:∀v∈r',0<=v/\v<=999)(d:nth k.F.X.a4 f=true):aF {k with F:=⟨⟨k.F.X.V.set f r',k.F.X.a4⟩,k.F.Q⟩} = true:=by
 obtain⟨g,i,l,n,o⟩:=aH.1 h;obtain⟨p,q,r,t⟩:=aZ.1 i;refine aH.2 ⟨g,aZ.2 ⟨?_,?_,?_,λj a=>?_⟩,l,n,o⟩
 ·simp only[I2];exact p
 ·simp only[I2];exact q
 ·simp only[I2];exact r
 simp only[I2]at a |-;simp only[bz];split
 ·rename_i e
  obtain⟨rfl,-⟩:=e;unfold ip;simp only[I0,C0,X5];refine⟨b,λv u=>?_⟩;have:=c v u;unfold iU;simp[d,this]
 exact t j a
def xN(h:aF k=true)(b:f<k.F.X.V.length):(nth k.F.X.V f).length=16/\∀v∈nth k.F.X.V f,0<=v/\v<=999:=by
 obtain⟨g,c,i,j,l⟩:=aH.1 h;obtain⟨n,o,p,d⟩:=aZ.1 c;have a:=d f b;unfold ip at a;simp only[I0,C0,X5]at a;refine⟨a.1,λv e=>?_⟩;have:=a.2 v e;unfold iU at this;simp only[I0,C0]at this;exact this.1
variable{c v:Int}
def rZ(h:aF k=true)(b:f<k.F.X.V.length)(d:nth k.F.X.a4 f=true)(e:0<=v/\v<=999):aF (setCell k f c v)=true:=by
 obtain⟨g,i⟩:=xN h b;refine Pj h (by rw[I2];exact g) (λz a=>?_) d;rcases C9 a with a|rfl
 ·exact i z a
 exact e
variable{a b:Int}
def Qk(h:aF k=true)(d:(af k.F.Q a).e≠0)(e:(af k.F.Q b).e≠0)(l:0<=c/\c<=15):aF (tQ k a b c)=true:=by
 obtain⟨f,n,-⟩:=gW h d;obtain⟨g,i,-⟩:=gW h e;obtain⟨o,j⟩:=xN h f;exact rZ h g i (j _ (au ω))
variable{o:Int}
def Qh(h:aF k=true)(u:k.Calls≠100000)(i:(af k.F.Q p).e≠0)(d:(af k.F.Q o).e≠0)(w:p≠o):aF (w8 k p o).1=true:=by
 unfold w8;split
 ·exact nq h u
 obtain⟨O,y,A⟩:=gW h i;obtain⟨P,Q,R⟩:=gW h d;obtain⟨S,T,B,r,t⟩:=bR h i;obtain⟨U,V,C,D,E⟩:=bR h d;obtain⟨F,G,H,J,W,X,K⟩:=aH.1 h;obtain⟨L,M,N⟩:=bu.1 H;rw[C]at D E d;rw[B]at r t i;have a:∀q,nth (k.F.Q.J.set p.toNat ⟨2,(nth k.F.Q.J o.toNat).j⟩) q=if p.toNat=q then⟨2,(nth k.F.Q.J o.toNat).j⟩ else nth k.F.Q.J q:=λq=>by
  rw[bz];by_cases f:p.toNat=q
  ·rw[CD ⟨f,ω⟩,CD f]
  rw[CC (λe=>f e.1),CC f]
 refine NN F G (bu.2 ⟨λj c=>?_,?_,?_⟩) (λj c l=>?_) ⟨r,t⟩ (by rw[<-A];exact y) ⟨by show 0<=k.Calls+1;omega,by show k.Calls+1<=100000;omega,K⟩
 ·simp only[wK,dS,I2]at c |-
  rw[a];split
  ·unfold lx;rw[C0];simp only;omega
  exact L j c
 ·simp only[wK,dS,I2];exact M
 ·simp only[wK,dS,I2];exact N
 replace c:j<k.F.X.a4.length:=c;show nth k.F.X.a4 j=_;rw[J j c];refine decide_eq_decide.2 ?_;rw[eg,eg];simp only[wK,dS,I2,a];constructor
 ·rintro⟨q,n,g,b⟩
  refine⟨q,n,?_⟩;rw[CC (λe=>l (by rw[<-b,<-e]))];exact⟨g,b⟩
 rintro⟨q,n,g,b⟩
 by_cases e:p.toNat=q
 ·rw[CD e]at b
  exact⟨o.toNat,ω,d,b⟩
 rw[CC e]at g b;exact⟨q,n,g,b⟩
def LA(h:aF k=true)(b:(af k.F.Q p).e≠0)(a:(w8 k p o).2=true)(q:Nat):(w8 k p o).1.F.Q.J.length=k.F.Q.J.length/\nth (w8 k p o).1.F.Q.J q=if(q:Int)=p then⟨2,(nth k.F.Q.J o.toNat).j⟩ else nth k.F.Q.J q:=by
 obtain⟨d,f,-⟩:=bR h b;unfold w8 at a |-;split at a
 ·cases a
 rename_i c;rw[CC c];simp only[(nw _ _).1];simp only[wK,dS,I2,bz];refine⟨trivial,?_⟩;by_cases e:(q:Int)=p
 ·rw[CD ⟨ω,ω⟩,CD e]
 rw[CC λz=>e ω,CC e]
def Rx(a:(w8 k p o).2=false):(w8 k p o).1=dS k:=by
 unfold w8 at a |-;split
 ·rfl
 rename_i b;rw[CC b]at a;cases a
def N9(h:aF k=true)(g:0<=a)(b:0<=v/\v<=999):aF {k with F:=(iP k.F a v).1} = true/\(iP k.F a v).1.Q=k.F.Q:=by
 unfold iP;split
 ·exact⟨h,rfl⟩
 rename_i d;split
 ·exact⟨h,rfl⟩
 obtain⟨e,f,-⟩:=gW h d;exact⟨rZ h e f (c:=a % 16) b,rfl⟩
def oY(t:aL)(p:Int):Prop:=∀q:Nat,(nth t.J q).e≠0->(nth t.J q).j=(nth t.J p.toNat).j->(q:Int)=p
structure JI(h:ac):Prop where
 ph:h.k=true->0<=h.Y.a9/\h.Y.a9<=3
 sp:h.k=true->∃a∈h.K,∃b∈h.K,a.R=h.Y.W.a3/\b.R=h.Y.W.a0/\meshable a b=true
 sk:h.k=true->oY (tbl h) h.Y.W.a3
 sm:h.k=true->oY (tbl h) h.Y.W.a0
def oY.tEq{t a:aL}{p:Int}(h:oY t p)(b:tEq t a):oY a p:=λq c d=>by
 obtain⟨e,f⟩:=b.2 q;exact h q (e.1 c) (by rw[<-f,<-(b.2 p.toNat).2];exact d)
theorem Pg.tEq{t b:aL}{c:List aC}{sp:List aA}{la:List aB}(h:Pg t c sp la)(a:tEq t b):Pg b c sp la where
 one l hl p hp q hq h1 h2:=h.one l hl p hp q (by rw[<-a.1];exact hq) ((a.2 q).1.1 h1) (by rw[<-(a.2 q).2,<-(a.2 p).2];exact h2)
 bnd p hp:=by rw[a.1];exact h.bnd p hp
 own p hp:=(a.2 p).1.trans (h.own p (by rw[<-a.1];exact hp))
 fre p hp:=(a.2 p).1.trans (h.fre p (by rw[<-a.1];exact hp))
 mesh s hs u hu hne hf:=h.mesh s hs u hu hne (by rw[<-(a.2 _).2,<-(a.2 u.R.toNat).2];exact hf)
def aX.step(a:aX h E)(b:aF k=true)(c:k.F.Q.J.length=(tbl h).J.length)(d:Pg k.F.Q h.o h.K h.M){j:dE}{m:Bool}(h1:m=true->lu j=true/\(∃s∈h.K,s.R=j.W.a3)/\∃s∈h.K,s.R=j.W.a0)(e:m=false->xW j=true):aX {h with G:=k,k:=m,Y:=j} E:=
 {a with
   ker:=b
   rng:=by show bH ((k.F.Q.J.length:Nat):Int) h.o=true;rw[c];exact a.rng
   pg:=d
   job:=h1
   noj:=e}
variable{la:List aB}{sp:List aA}
def oX.apart(b:oX sp la)(c:s∈sp){l:aB}(d:l∈la)(a:p∈lpgs l l.a2.toNat):s.R≠p:=by
 unfold lpgs at a;simp only[C6,List.mem_range]at a;obtain⟨k,e,rfl⟩:=a;exact b.dis s c l d k e
def Pg.on{t H:aL}{Q:List aC}(h:Pg t Q sp la)(r:oX sp la){a b:aA}(w:a∈sp)(L:b∈sp)(R:meshable a b=true)(A:oY t a.R)(M:(nth t.J a.R.toNat).e≠0)(N:(nth t.J b.R.toNat).e≠0)(U:0<=b.R)(J:H.J.length=t.J.length)(B:∀q:Nat,nth H.J q=if(q:Int)=b.R then⟨2,(nth t.J a.R.toNat).j⟩ else nth t.J q):Pg H Q sp la:=by
 have c:∀q:Nat,(nth H.J q).e≠0↔(nth t.J q).e≠0:=λq=>by
  rw[B];split
  ·rename_i e
   rw[show q=b.R.toNat by omega];exact⟨λ_=>N,λ_=>by show(2:Int)≠0;omega⟩
  rfl
 have V:0<=a.R:=by have:=r.sok a w;unfold bh at this;rw[C0]at this;omega
 refine⟨λl k p g q W S C=>?_,λp g=>by rw[J];exact h.bnd p g,λp g=>(c p).trans (h.own p (by rw[<-J];exact g)),λp g=>(c p).trans (h.fre p (by rw[<-J];exact g)),λs D u E F n=>?_⟩
 ·have O:¬(p:Int)=b.R:=λe=>r.apart L k g e.symm
  rw[B p,CC O,B q]at C;rw[c]at S;by_cases e:(q:Int)=b.R
  ·rw[CD e]at C
   have T:=h.one l k p g a.R.toNat (by have:=h.bnd _ (dJ (la:=la) w);omega) M C;exact absurd (show a.R=(p:Int) by omega) (r.apart w k g)
  rw[CC e]at C;exact h.one l k p g q (by rw[<-J];exact W) S C
 have X:0<=s.R:=by have:=r.sok s D;unfold bh at this;rw[C0]at this;omega
 have Y:0<=u.R:=by have:=r.sok u E;unfold bh at this;rw[C0]at this;omega
 have d:∀x∈sp,∀y∈sp,x.R=y.R->x=y:=λx G y Z e=>by
  obtain⟨i,hi,rfl⟩:=aN G;obtain⟨j,hj,rfl⟩:=aN Z;rw[cU (f:=(·.R)) r.nd hi hj e]
 have o:∀x∈sp,(nth t.J x.R.toNat).e≠0:=λx G=>by
  have hx0:0<=x.R:=by have:=r.sok x G;unfold bh at this;rw[C0]at this;omega
  refine(h.own x.R.toNat (by have:=h.bnd _ (dJ (la:=la) G);omega)).2 ?_;rw[show((x.R.toNat:Nat):Int)=x.R by omega];exact dJ G
 rw[B,B]at n;simp only[show((s.R.toNat:Nat):Int)=s.R by omega,show((u.R.toNat:Nat):Int)=u.R by omega]at n;by_cases K:s.R=b.R
 ·rw[CD K,CC (λe=>F (K.trans e.symm))]at n
  have T:=A u.R.toNat (o u E) n.symm;rw[d s D b L K,d u E a w ω,hO];exact R
 rw[CC K]at n;by_cases P:u.R=b.R
 ·rw[CD P]at n
  have T:=A s.R.toNat (o s D) n;rw[d u E b L P,d s D a w ω];exact R
 rw[CC P]at n;exact h.mesh s D u E F n
def over(j:dE):Bool:=decide (j.a9=4\/j.a9=5)
def gm(k:am)(j:dE):am × dE:=if jmay k j=true then jstep k j else(k,j)
def mStep(h:ac):ac:={h with G:=(gm h.G h.Y).1,k:=if over (gm h.G h.Y).2=true then false else h.k,Y:=if over (gm h.G h.Y).2=true then⟨⟨0,0,[]⟩,0,0⟩ else(gm h.G h.Y).2}
def NR(h:ac):Bool:=decide ((gm h.G h.Y).2.a9=4)
def dM{j:dE} : lu j=true↔fj j.W=true/\0<=j.a9/\j.a9<=5/\0<=j.b/\j.b<=j.W.V.length:=by
 unfold lu;simp only[I0,C0]
def gu{p:cH}(h:fj p=true)(a:i<p.V.length):0<=nth p.V i/\nth p.V i<=15:=by
 unfold fj at h;simp only[I0]at h;have:=fw h.1 a;unfold mX at this;rw[C0]at this;exact⟨this.1,this.2.1⟩
structure JS(h:ac)(k:am)(j:dE):Prop where
 ker:aF k=true
 len:k.F.Q.J.length=(tbl h).J.length
 pg:j.a9≠4\/JI h->Pg k.F.Q h.o h.K h.M
 ph:0<=j.a9/\j.a9<=5
 plan:j.W=h.Y.W
 nxt:0<=j.b/\j.b<=j.W.V.length
 eq:j.a9≠4->tEq (tbl h) k.F.Q
 calls:h.G.Calls<=k.Calls/\k.Calls<=h.G.Calls+1/\k.w=h.G.w
def yZ(k:am)(p m:Int):(ky k p m).1.Calls=k.Calls+1/\(ky k p m).1.w=k.w:=by
 unfold ky;split<;>exact⟨rfl,rfl⟩
def P2(k:am)(p o:Int):(w8 k p o).1.Calls=k.Calls+1/\(w8 k p o).1.w=k.w:=by
 unfold w8;split
 ·exact⟨rfl,rfl⟩
 obtain⟨-,a,b,-⟩:=nw (wK (dS k) p.toNat ⟨2,(nth k.F.Q.J o.toNat).j⟩) (nth k.F.Q.J p.toNat).j;simp only[a,b];exact⟨rfl,rfl⟩
def JS.of(c:aX h E)(B:h.k=true):JS h (gm h.G h.Y).1 (gm h.G h.Y).2:=by
 obtain⟨R,-,-⟩:=c.job B;obtain⟨O,y,A,o,p⟩:=dM.1 R;unfold gm;split
 case isFalse=>exact⟨c.ker,rfl,λ_=>c.pg,⟨y,A⟩,rfl,⟨o,p⟩,λ_=>tEq.refl _,C7 _,by show h.G.Calls<=h.G.Calls+1;omega,rfl⟩
 rename_i d;unfold jmay at d;simp only[I0,C0]at d;obtain⟨⟨-,C⟩,-,u,r,D⟩:=d;have fin:∀(k:am)(j:dE),aF k=true->tEq (tbl h) k.F.Q->0<=j.a9/\j.a9<=5->j.W=h.Y.W->0<=j.b/\j.b<=j.W.V.length->h.G.Calls<=k.Calls/\k.Calls<=h.G.Calls+1/\k.w=h.G.w->JS h k j:=
  λk j S F T U V W=>⟨S,F.1,λ_=>c.pg.tEq F,T,U,V,λ_=>F,W⟩
 have P:=(aH.1 c.ker).2.2.2.2;unfold jstep;split
 ·obtain⟨l,w⟩:=Hn c.ker C r (m:=1) (.inl rfl)
  obtain⟨g,t⟩:=yZ h.G h.Y.W.a0 1;refine fin _ _ l w ?_ rfl ⟨o,p⟩ ⟨by rw[g];omega,by rw[g];omega,t⟩;show 0<=(if _ then _ else _:Int)/\(if _ then _ else _:Int)<=5;split<;>omega
 split
 ·split
  ·exact fin _ _ c.ker (tEq.refl _) ⟨by show(0:Int)<=2;omega,by show(2:Int)<=5;omega⟩ rfl ⟨o,p⟩ ⟨C7 _,by show h.G.Calls<=h.G.Calls+1;omega,rfl⟩
  have n:=gu O (i:=h.Y.b.toNat) ω;refine fin _ _ (Qk c.ker r u n) (tEq.refl _) ⟨y,A⟩ rfl ⟨by show 0<=h.Y.b+1;omega,by show h.Y.b+1<=h.Y.W.V.length;omega⟩ ⟨C7 _,by show h.G.Calls<=h.G.Calls+1;omega,rfl⟩
 split
 ·have G:h.Y.W.a0≠h.Y.W.a3:=λe=>D (by rw[e])
  have l:=Qh c.ker C r u G;obtain⟨g,t⟩:=P2 h.G h.Y.W.a0 h.Y.W.a3;cases e:(w8 h.G h.Y.W.a0 h.Y.W.a3).2 with
  | false=>
   rw[CC (by simp)];refine fin _ _ l (tEq.of ?_) ⟨by show(0:Int)<=3;omega,by show(3:Int)<=5;omega⟩ rfl ⟨o,p⟩ ⟨by rw[g];omega,by rw[g];omega,t⟩;rw[Rx e];rfl
  | true=>
   rw[CD rfl];obtain⟨X,m2,Y,-⟩:=bR c.ker r;obtain⟨n1,n2,Z,-⟩:=bR c.ker u;have f:=LA c.ker r e;refine⟨l,(f 0).1,λH=>?_,⟨by show(0:Int)<=4;omega,by show(4:Int)<=5;omega⟩,rfl,⟨o,p⟩,λJ=>absurd rfl J,by rw[g];omega,by rw[g];omega,t⟩;have Q:JI h:=H.elim (λJ=>absurd rfl J) id;obtain⟨a,ha,b,hb,K,M,N⟩:=Q.sp B;refine c.pg.on c.L ha hb N (by rw[K];exact Q.sk B) (by rw[K];show(nth h.G.F.Q.J _).e≠0;rw[<-Z];exact u) (by rw[M];show(nth h.G.F.Q.J _).e≠0;rw[<-Y];exact r) (by rw[M];exact X) (f 0).1 λq=>?_
   rw[(f q).2,M,K];rfl
 split
 ·split
  ·rename_i hn0
   have n:=gu O (i:=(h.Y.b - 1).toNat) ω;have hk0:=(bR c.ker u).1;obtain⟨l,w⟩:=N9 c.ker (a:=h.Y.W.a3*16+nth h.Y.W.V (h.Y.b - 1).toNat) (v:=0) ω ⟨ω,ω⟩;exact fin _ _ l (tEq.of w) ⟨y,A⟩ rfl ⟨by show 0<=h.Y.b - 1;omega,by show h.Y.b - 1<=h.Y.W.V.length;omega⟩ ⟨C7 _,by show h.G.Calls<=h.G.Calls+1;omega,rfl⟩
  obtain⟨l,w⟩:=Hn c.ker C r (m:=2) (.inr rfl);obtain⟨g,t⟩:=yZ h.G h.Y.W.a0 2;refine fin _ _ l w ?_ rfl ⟨o,p⟩ ⟨by rw[g];omega,by rw[g];omega,t⟩;show 0<=(if _ then _ else _:Int)/\(if _ then _ else _:Int)<=5;split<;>omega
 exact fin _ _ c.ker (tEq.refl _) ⟨y,A⟩ rfl ⟨o,p⟩ ⟨C7 _,by show h.G.Calls<=h.G.Calls+1;omega,rfl⟩
def aX.mStep{h:ac}{E:List Int}(d:aX h E)(f:JI h)(c:h.k=true):aX (mStep h) E/\JI (mStep h):=by
 have s:=JS.of d c;unfold Ab.mStep;generalize (gm h.G h.Y).1=k at s |-;generalize (gm h.G h.Y).2=j at s |-;cases e:over j with
 | true=>
  refine⟨d.step s.ker s.len (s.pg (.inr f)) (λh=>by simp at h) (λ_=>by simp[xW]),?_⟩;exact⟨λh=>by simp at h,λh=>by simp at h,λh=>by simp at h,λh=>by simp at h⟩
 | false=>
  simp only[Bool.false_eq_true,if_false];unfold over at e;simp only[X6,not_or]at e;have g:=s.eq e.1;have i:=s.ph;refine⟨d.step s.ker s.len (s.pg (.inr f)) (λ_=>⟨dM.2 ⟨by rw[s.plan];exact(dM.1 (d.job c).1).1,s.ph.1,s.ph.2,s.nxt⟩,by rw[s.plan];exact(d.job c).2⟩) (λh=>by rw[c]at h;cases h),?_⟩;refine⟨λ_=>⟨s.ph.1,by show j.a9<=3;omega⟩,λ_=>?_,λ_=>?_,λ_=>?_⟩
  ·show ∃a∈h.K,∃b∈h.K,a.R=j.W.a3/\b.R=j.W.a0/\meshable a b=true
   rw[s.plan];exact f.sp c
  ·show oY k.F.Q j.W.a3
   rw[s.plan];exact(f.sk c).tEq g
  show oY k.F.Q j.W.a0;rw[s.plan];exact(f.sm c).tEq g
def ew(k:am)(a:Int):Int:=nth (nth k.F.X.V (af k.F.Q (a / 16)).j.toNat) (a % 16).toNat
def cellsOf(k:am)(a:Int)(n:Nat):List Int:=(List.range n).map λ(i:Nat)=>ew k (a+i)
def fY(k:am)(a:Int)(n:Nat):(cellsOf k a n).length=n:=by simp[cellsOf]
def Fj(k:am)(a:Int)(n:Nat):cellsOf k a (n+1)=cellsOf k a n++[ew k (a+n)]:=by
 unfold cellsOf;rw[List.range_succ,C8];rfl
def Hu(k:am)(a:Int){n:Nat}(b:i<n):(cellsOf k a n)[i]? = some (ew k (a+i)):=by
 unfold cellsOf;rw[S4,S9 b];rfl
def FD(b:aF k=true)(p:Int):0<=(af k.F.Q p).j/\(af k.F.Q p).j<k.F.X.V.length:=by
 obtain⟨-,c,d,-⟩:=aH.1 b;obtain⟨e,f,g,h⟩:=aZ.1 c;unfold af;split
 ·rename_i i
  have:=(bu.1 d).1 p.toNat ω;unfold lx at this;rw[C0]at this;by_cases a:(nth k.F.Q.J p.toNat).e=0
  ·have:=this.2.2.1 a;omega
  have:=this.2.2.2 a;omega
 simp only;omega
def PF(a:aF k=true)(b:j<k.F.X.V.length):(nth k.F.X.V j).length=16/\∀i,i<16->0<=nth (nth k.F.X.V j) i/\nth (nth k.F.X.V j) i<=999:=by
 obtain⟨-,c,-⟩:=aH.1 a;obtain⟨e,f,g,d⟩:=aZ.1 c;have:=d j b;unfold ip at this;rw[I0,C0,X5]at this;refine⟨this.1,λi l=>?_⟩;have h:=this.2 _ (au (xs:=nth k.F.X.V j) (i:=i) ω);unfold iU at h;rw[I0,C0]at h;exact h.1
def M4(b:aF k=true)(a:Int):0<=ew k a/\ew k a<=999:=by
 obtain⟨c,d⟩:=FD b (a / 16);exact(PF b (j:=(af k.F.Q (a / 16)).j.toNat) ω).2 (a % 16).toNat ω
def DY(h:ac)(a n:Int)(b:aF h.G=true)(q:0<=a/\a<=1000000)(r:n<=1000000) :
  zzA 90 false [.val (some 24) (ac.enc .S h),.val none [I a],.val none [I n]] .one (aJ .own (cellsOf h.G a n.toNat)):=by
 have c:=bX b;refine fO 44 [] Tryz.func90 rfl ?_ (.inr (bQ _))
 repeat'(first|refine gP ?_|fail)
 (conv=>whnf)
 refine CH (ι:=Nat) (λi=>[(1,.H .one [I (a)]),(2,.H .one [I (n)]),(3,.H .box (ac.enc .S h)),(7,.H .one (aJ .own (cellsOf h.G a i))),(8,.H .one [I ((i:Nat):Int)])]) (λi=>i<=n.toNat) (λi=>n.toNat - i) (0) ?_ (Z0 _) λi t=>?_
 ·exact wB
 have d:=fY h.G a i;by_cases u:i<n.toNat
 ·obtain⟨e,w⟩:=FD b ((a+i) / 16)
  have g:=ax (xs:=h.G.F.X.V) (i:=(af h.G.F.Q ((a+i) / 16)).j.toNat) ω;have k:=(PF b (j:=(af h.G.F.Q ((a+i) / 16)).j.toNat) ω).1;have l:=ax (xs:=nth h.G.F.X.V (af h.G.F.Q ((a+i) / 16)).j.toNat) (i:=((a+i) % 16).toNat) ω;have o:IntKind.i64.wrap ((a+(i:Int)).tdiv 16)=(a+i) / 16:=by rw[mn ω];exact fJ ω ω
  have p:(a+(i:Int)).tmod 16=(a+i) % 16:=fV ω
  repeat'(first|refine gE ?_|(conv=>whnf);first|refine CQ (by decide) ?_|refine CM o ?_|refine CS p ?_|refine CB (cz h.G.F.Q _ c.1.2) ?_|refine CP e (aa g) ?_|refine CP ω (aa l) ?_|refine Ap.sn dU rfl (by simp;omega) (by decide) rfl ?_)
  (conv=>whnf)
  refine CG (i+1) ω ω ?_;rw[Fj]
  (repeat'(first|exact trivial|rfl|exact CL rfl (CL (C1 (C.s dQ.own) (by simp[rI,ew])) trivial)|refine CL ?_ ?_))
 repeat'(first|refine gE ?_|fail)
 obtain rfl:i=n.toNat:=ω
 rfl
def DI(h:(denotes sp la a).b0=1):∃i:Nat,i<sp.length/\(denotes sp la a).c2=i/\cY (nth sp i) a=true/\denotes sp la a=o8 i (nth sp i) a:=by
 unfold denotes at h |-;cases e:sp.findIdx? (cY · a) with
 | some i=>
  obtain⟨b,d,-⟩:=X9.1 e;refine⟨i,b,rfl,?_,rfl⟩;rw[bk (I3 b)];exact d
 | none=>
  rw[e]at h;simp only at h;cases c:la.findIdx? (bC · a) with
  | some i=>rw[c]at h;simp at h
  | none=>rw[c]at h;simp at h
def F4(h:(denotes sp la a).b0=3):∃i:Nat,i<la.length/\(denotes sp la a).c2=i/\bC (nth la i) a=true/\denotes sp la a = ⟨3,i,0,a - 16*(nth la i).R⟩:=by
 unfold denotes at h |-;cases e:sp.findIdx? (cY · a) with
 | some i=>
  rw[e]at h;simp only[o8]at h;split at h<;>simp at h
 | none=>
  rw[e]at h;simp only at h |-;cases b:la.findIdx? (bC · a) with
  | some i=>
   obtain⟨c,d,-⟩:=X9.1 b;refine⟨i,c,rfl,?_,rfl⟩;rw[bk (I3 c)];exact d
  | none=>rw[b]at h;simp at h
def jP(h:0<=aP n):1<=n/\n<=8:=by
 unfold aP at h;split at h
 ·omega
 split at h
 ·omega
 split at h
 ·omega
 split at h
 ·omega
 split at h<;>omega
def Tc{o:aU}(c:ju h o=true):0<=o.Addr/\o.Addr<=2000/\1<=o.q/\o.q<=1000:=by
 unfold ju at c;simp only[I0,Y8,C0]at c;obtain⟨-,⟨d,e⟩|⟨d,e⟩⟩:=c
 ·obtain⟨i,f,a,b,-⟩:=DI d
  rw[a,Z3]at e;unfold cY bh at b;simp only[I0,C0]at b;have:=jP (n:=o.q) ω;omega
 obtain⟨i,f,a,b,-⟩:=F4 d;rw[a,Z3]at e;unfold bC bK at b;simp only[I0,C0]at b;omega
def zD(a:fg h=true):cT h=true/\hP h=true:=by
 unfold fg at a;simp only[I0]at a;exact⟨a.1.1.2,a.1.2.1⟩
def L0(a:fg h=true):1<=h.b/\h.b<=1000000:=by
 have:=(zD a).1;unfold cT at this;rw[C0]at this;omega
def wZ(c:fg h=true)(f:i<h.O.length):1<=(nth h.O i).Id/\(nth h.O i).Id<h.b/\0<=(nth h.O i).Addr/\(nth h.O i).Addr<=2000/\1<=(nth h.O i).q/\(nth h.O i).q<=1000/\∀j,j<i->(nth h.O j).Id≠(nth h.O i).Id:=by
 obtain⟨-,g⟩:=zD c;obtain⟨o,p⟩:=L0 c;have a:=fw g f;rw[fJ ω ω]at a;unfold objAt ia at a;simp only[I0,C0,Bool.not_eq_true']at a;obtain⟨⟨k,d⟩,l⟩:=a;have b:=Tc l;refine⟨k.2.1,ω,b.1,b.2.1,b.2.2.1,b.2.2.2,λj n e=>?_⟩;rw[List.any_eq_false]at d;refine d (nth h.O j) ?_ (by unfold dP;exact O0 e);have:(h.O.take i)[j]? = some (nth h.O j):=by rw[List.getElem?_take,CD n,ax ω]
 exact Z2 this
def Vd(a:fg h=true)(c:i<h.O.length)(d:j<h.O.length)(f:i≠j):(nth h.O i).Id≠(nth h.O j).Id:=by
 rcases Nat.lt_or_ge i j with b|b
 ·exact(wZ a d).2.2.2.2.2.2 i b
 exact λe=>(wZ a c).2.2.2.2.2.2 j ω e.symm
def A8(cs:List Int):Nat->Int
 | 0=>0
 | n+1=>(A8 cs n+(n+1)*nth cs n) % 9973
def Ty(cs:List Int):∀n,0<=A8 cs n/\A8 cs n<=9972
 | 0=>by simp[A8]
 | n+1=>by simp only[A8];omega
def ng(k:am)(o:aU):db:=⟨o.Id,o.q,A8 (cellsOf k o.Addr o.q.toNat) o.q.toNat⟩
def ic(h:ac):Nat->List db
 | 0=>[]
 | n+1=>ic h n++(h.O.filter (dP n)).map (ng h.G)
def pj{h:ac}{x:db} : ∀{n:Nat},x∈ic h n↔∃o∈h.O,(∃m:Nat,m<n/\o.Id=m)/\ng h.G o=x
 | 0=>by simp[ic]
 | n+1=>by
  rw[ic,I4,pj,C6];simp only[I6,dP,C0];constructor
  ·rintro(⟨o,a,⟨m,d,b⟩,c⟩|⟨o,⟨a,d⟩,b⟩)
   ·exact⟨o,a,⟨m,ω,b⟩,c⟩
   exact⟨o,a,⟨n,ω,d⟩,b⟩
  rintro⟨o,a,⟨m,d,b⟩,c⟩
  rcases Nat.lt_or_ge m n with e|e
  ·exact .inl ⟨o,a,⟨m,e,b⟩,c⟩
  obtain rfl:m=n:=ω
  exact .inr ⟨o,⟨a,b⟩,c⟩
def Ly(b:fg h=true):∀o∈h.O,1<=o.Id/\o.Id<h.b:=λo c=>by
 obtain⟨j,a⟩:=List.mem_iff_getElem?.1 c;have:=wZ b (O3.1 a).1;rw[bk a]at this;exact⟨this.1,this.2.1⟩
def tV(n:Nat):∀(l:List aU),(l.filter λo:aU=>decide (o.Id<((n+1:Nat):Int))).length=(l.filter λo:aU=>decide (o.Id<(n:Int))).length+(l.filter (dP n)).length
 | []=>rfl
 | o::l=>by
  have a:=tV n l;simp only[List.filter_cons];rcases Int.lt_trichotomy o.Id n with h|h|h
  ·rw[CD (by simp;omega),CD (by simp;omega),CC (by simp[dP];omega)]
   simp only[List.length_cons];omega
  ·rw[CD (by simp;omega),CC (by simp;omega),CD (by simp[dP];omega)]
   simp only[List.length_cons];omega
  rw[CC (by simp;omega),CC (by simp;omega),CC (by simp[dP];omega)];exact a
def vU{h:ac}(a:∀o∈h.O,0<=o.Id):∀n:Nat,(ic h n).length=(h.O.filter λo:aU=>decide (o.Id<(n:Int))).length
 | 0=>by
  rw[List.filter_eq_nil_iff.2 (λo b=>by have:=a o b;simp;omega)];rfl
 | n+1=>by
  rw[ic,X4,O1,vU a n,tV]
def gz(h:ac):List db:=if fg h then ic h h.b.toNat else []
def VY{α:Type}[Inhabited α](f:α->Int)(xs:List α):Nat->Int
 | 0=>0
 | i+1=>VY f xs i+f (nth xs i)
def bor(n m:Int):Int:=((n.toNat ||| m.toNat:Nat):Int)
def w5(sp:List aA)(p:Int)(b:Int):Nat->Int
 | 0=>b
 | j+1=>if(nth sp j).R=p then bor (w5 sp p b j) (nth sp j).a8 else w5 sp p b j
def nG(sp:List aA)(ps:List Int)(b:Int):Nat->Int
 | 0=>b
 | k+1=>w5 sp (nth ps k) (nG sp ps b k) sp.length
def gk(h:ac)(i:Nat):Int:=nG h.K (bB h (nth h.K i).R) (nth h.K i).a8 (bB h (nth h.K i).R).length
def Kl{m:Int}(h1:0<=n/\n<=65535)(a:0<=m/\m<=65535):0<=bor n m/\bor n m<=65535:=by
 have b:n.toNat ||| m.toNat<2 ^ 16:=Nat.or_lt_two_pow ω ω
 unfold bor;omega
def qm(h:∀s∈sp,bh s=true)(b:j<sp.length):0<=(nth sp j).a8/\(nth sp j).a8<=65535:=by
 have a:=h _ (au b);have c:=JY (nth sp j).d;unfold bh at a;rw[C0]at a;omega
def Fh{sp:List aA}(h:∀s∈sp,bh s=true){p b:Int}(a:0<=b/\b<=65535):∀j,j<=sp.length->0<=w5 sp p b j/\w5 sp p b j<=65535
 | 0,_=>a
 | j+1,d=>by
  have c:=Fh h (p:=p) a j ω;simp only[w5];split
  ·exact Kl c (qm h ω)
  exact c
def qa{sp:List aA}(h:∀s∈sp,bh s=true){ps:List Int}{b:Int}(a:0<=b/\b<=65535):∀k,0<=nG sp ps b k/\nG sp ps b k<=65535
 | 0=>a
 | k+1=>by simp only[nG];exact Fh h (qa h a k) _ (O4 _)
def oC{i:Int}(a:0<=b)(c:0<=i/\i<=15):aT b i=b.toNat.testBit i.toNat:=by
 unfold aT;rw[Nat.testBit_eq_decide_div_mod_eq];refine decide_eq_decide.2 ?_;obtain⟨n,rfl⟩ : ∃n:Nat,b=n:=⟨b.toNat,ω⟩
 rw[Z3];have d:((n / 2 ^ i.toNat:Nat):Int)=(n:Int) / 2 ^ i.toNat:=by simp
 omega
def KP{m i:Int}(b:0<=n)(c:0<=m)(a:0<=i/\i<=15):aT (bor n m) i=(aT n i || aT m i):=by
 rw[oC (by unfold bor;omega) a,oC b a,oC c a];unfold bor;rw[Z3,Nat.testBit_or]
def FL{sp:List aA}(h:∀s∈sp,bh s=true){p b i:Int}(k:0<=b/\b<=65535)(l:0<=i/\i<=15):∀j,j<=sp.length->(aT (w5 sp p b j) i=true↔aT b i=true\/∃q,q<j/\(nth sp q).R=p/\aT (nth sp q).a8 i=true)
 | 0,_=>by simp[w5]
 | j+1,t=>by
  have n:=FL h (p:=p) k l j ω;have o:=Fh h (p:=p) k j ω;have r:=qm h (j:=j) ω;simp only[w5];split
  ·rename_i d
   rw[KP o.1 r.1 l,Y8,n];constructor
   ·rintro((e|⟨q,f,a⟩)|e)
    ·exact .inl e
    ·exact .inr ⟨q,ω,a⟩
    exact .inr ⟨j,ω,d,e⟩
   rintro(e|⟨q,f,a,c⟩)
   ·exact .inl (.inl e)
   by_cases g:q=j
   ·subst g;exact .inr c
   exact .inl (.inr ⟨q,ω,a,c⟩)
  rename_i d;rw[n];constructor
  ·rintro(e|⟨q,f,a⟩)
   ·exact .inl e
   exact .inr ⟨q,ω,a⟩
  rintro(e|⟨q,f,a,c⟩)
  ·exact .inl e
  by_cases g:q=j
  ·subst g;exact absurd a d
  exact .inr ⟨q,ω,a,c⟩
def Ds{sp:List aA}(h:∀s∈sp,bh s=true){ps:List Int}{b i:Int}(d:0<=b/\b<=65535)(f:0<=i/\i<=15):∀k,(aT (nG sp ps b k) i=true↔aT b i=true\/∃u,u<k/\∃q,q<sp.length/\(nth sp q).R=nth ps u/\aT (nth sp q).a8 i=true)
 | 0=>by simp[nG]
 | k+1=>by
  have g:=Ds h (ps:=ps) d f k;have j:=qa h (ps:=ps) d k;simp only[nG];rw[FL h j f _ (O4 _),g];constructor
  ·rintro((e|⟨u,c,a⟩)|⟨q,c,a⟩)
   ·exact .inl e
   ·exact .inr ⟨u,ω,a⟩
   exact .inr ⟨k,ω,q,c,a⟩
  rintro(e|⟨u,c,a⟩)
  ·exact .inl (.inl e)
  by_cases l:u=k
  ·subst l;exact .inr a
  exact .inl (.inr ⟨u,ω,a⟩)
variable{α:Type}
def kU(p:α->Bool)(xs:List α):Nat:=(xs.findIdx? p).getD xs.length
def jG(p:α->Bool)(xs:List α)(y:α):List α:=xs.take (kU p xs)++y::xs.drop (kU p xs)
def TB(p:α->Bool)(xs:List α):kU p xs<=xs.length:=by
 unfold kU;cases e:xs.findIdx? p with
 | none=>exact O4 _
 | some i=>exact Nat.le_of_lt (X9.1 e).1
def lL(p:α->Bool)(xs:List α)(y:α):(jG p xs y).Perm (y::xs):=by
 unfold jG;refine List.perm_middle.trans ?_;rw[List.take_append_drop]
def cL{p:α->Bool}{xs:List α}{y z:α} : z∈jG p xs y↔z=y\/z∈xs:=by
 rw[(lL p xs y).mem_iff,List.mem_cons]
def wV{p:α->Bool}{xs:List α}(c:i<=xs.length)(a:∀(j:Nat)(z:α),j<i->xs[j]? = some z->p z=false)(b:∀z,xs[i]? = some z->p z=true):kU p xs=i:=by
 unfold kU;by_cases e:i<xs.length
 ·rw[wW (I3 e) (b _ (I3 e)) a];rfl
 rw[Ek ω a];show xs.length=i;omega
def mB{f:α->Int}{xs:List α}{y:α}(h:xs.Pairwise λa b=>f a<f b)(p:∀z∈xs,f z≠f y):(jG (λz=>decide (f y<=f z)) xs y).Pairwise λa b=>f a<f b:=by
 have q:∀z∈xs.drop (kU (λz=>decide (f y<=f z)) xs),f y<f z:=λz g=>by
  obtain⟨j,k,rfl⟩:=List.mem_drop_iff_getElem.1 g;have C:=p _ (List.getElem_mem k);cases e:xs.findIdx? (λz=>decide (f y<=f z)) with
  | none=>
   have l:kU (λz=>decide (f y<=f z)) xs=xs.length:=by unfold kU;rw[e];rfl
   rw[l]at k;omega
  | some i=>
   have l:kU (λz=>decide (f y<=f z)) xs=i:=by unfold kU;rw[e];rfl
   obtain⟨r,t,-⟩:=X9.1 e;rw[C0]at t;have c:i+j<xs.length:=by rw[<-l];omega
   have n:f xs[i+j]≠f y:=p _ (List.getElem_mem c);have d:f y<f xs[i+j]:=by
    cases j with
    | zero=>simp only[Nat.add_zero]at n |-;omega
    | succ j=>
     have:=List.pairwise_iff_getElem.1 h i (i+(j+1)) r c ω;omega
   have w:xs[kU (λz=>decide (f y<=f z)) xs+j]? = xs[i+j]?:=by rw[l]
   rw[I3 ω,I3 c]at w;rw[Option.some.inj w];exact d
 have A:∀z∈xs.take (kU (λz=>decide (f y<=f z)) xs),f z<f y:=λz g=>by
  obtain⟨j,k,rfl⟩:=List.mem_take_iff_getElem.1 g;unfold kU at k;cases e:xs.findIdx? (λz=>decide (f y<=f z)) with
  | none=>
   have:=List.findIdx?_eq_none_iff.1 e _ (List.getElem_mem (show j<xs.length by omega));simp only[X6]at this;omega
  | some i=>
   obtain⟨r,t,B⟩:=X9.1 e;simp only[e,Option.getD_some]at k;have:=B j ω;simp only[C0]at this;omega
 unfold jG;refine List.pairwise_append.2 ⟨h.sublist (List.take_sublist ..),List.pairwise_cons.2 ⟨q,h.sublist (List.drop_sublist ..)⟩,λz g u o=>?_⟩;rcases List.mem_cons.1 o with rfl|o
 ·exact A z g
 exact Int.lt_trans (A z g) (q u o)
def jB(b i:Int):Int:=((b.toNat ||| 2 ^ i.toNat:Nat):Int)
def tF(s:aA)(i:Int):aA:={s with a8:=jB s.a8 i}
def xK(b i:Int)(j:Nat):(jB b i).toNat.testBit j=(b.toNat.testBit j || decide (i.toNat=j)):=by
 unfold jB;rw[Z3,Nat.testBit_or,Nat.testBit_two_pow]
def Jz{i:Int}(g:0<=b)(e:0<=i/\i<=15)(j:Int):aT (jB b i) j=true↔aT b j=true\/j=i:=by
 rw[eQ,eQ,xK,Y8,C0];have f:0<=jB b i:=by unfold jB;omega
 constructor
 ·rintro⟨h,c,d,a|a⟩
  ·exact .inl ⟨g,c,d,a⟩
  exact .inr ω
 rintro(⟨h,c,d,a⟩|rfl)
 ·exact⟨f,c,d,.inl a⟩
 exact⟨f,e.1,e.2,.inr rfl⟩
def jM{k:Int}(h:0<=k/\k<=3):lim k=2 ^ (slots k).toNat - 1/\0<=slots k/\slots k<=16/\slots k*csz k=16:=by
 obtain rfl|rfl|rfl|rfl:k=0\/k=1\/k=2\/k=3:=ω
 all_goals decide
def KU(h:bh s=true){i:Int}(k:0<=i/\i<slots s.d):bh (tF s i)=true:=by
 have b:=aK h;obtain⟨c,l,o,-⟩:=jM b.2.2;unfold bh at h;rw[C0]at h;obtain⟨d,e,f,g,p,a⟩:=h;refine O0 ⟨d,e,f,g,by show 0<=jB s.a8 i;unfold jB;omega,?_⟩;show jB s.a8 i<=lim s.d;rw[c]at a |-;have j:((2 ^ (slots s.d).toNat:Nat):Int)=(2:Int) ^ (slots s.d).toNat:=by norm_cast
 rw[<-j]at a |-;have:=Nat.or_lt_two_pow (x:=s.a8.toNat) (y:=2 ^ i.toNat) (n:=(slots s.d).toNat) ω (Nat.pow_lt_pow_right ω ω);unfold jB;omega
def BL{u:aA}{i:Int}(b:0<=i/\i<slots s.d)(c:aT u.a8 i=false)(h:meshable s u=true):meshable (tF s i) u=true:=by
 unfold meshable at h |-;simp only[I0,C0]at h |-;obtain⟨⟨d,f⟩,k,l,o⟩:=h;have p:=aK d;obtain⟨r,t,w,-⟩:=jM p.2.2;have a:=dY f;refine⟨⟨KU d b,f⟩,k,l,?_⟩;refine Nat.eq_of_testBit_eq λj=>?_
 have g:=C1 (λn=>Nat.testBit n j) o;simp only[Nat.testBit_and,Nat.zero_testBit,tF,xK]at g |-;by_cases e:i.toNat=j
 ·have:u.a8.toNat.testBit j=false:=by
   rw[<-X7];intro q;have:=(eQ u.a8 i).2 ⟨a.1,b.1,ω,by rw[e];exact q⟩;rw[this]at c;cases c
  rw[this];simp
 rw[X0 e,Bool.or_false];exact g
def uv(h:bh s=true){i:Int}(n:0<=i/\i<slots s.d)(b:Int):eH (tF s i) b↔eH s b\/b=16*s.R+i*csz s.d:=by
 have g:=aK h;obtain⟨o,p,k,l⟩:=jM g.2.2;have j:=bZ g.2.2;unfold eH;simp only[tF];rw[Jz (dY h).1 ω];constructor
 ·rintro⟨d,f,c,a|a⟩
  ·exact .inl ⟨d,f,c,a⟩
  right
  rcases j with e|e|e|e<;>rw[e]at c a |-<;>omega
 rintro(⟨d,f,c,a⟩|rfl)
 ·exact⟨d,f,c,.inl a⟩
 have q:slots s.d<=16:=k;rcases j with e|e|e|e<;>rw[e]at l |-<;>refine⟨?_,?_,?_,.inr ?_⟩<;>omega
def MD(k:Int)(a:i<sp.length):(sp.set i (tF (nth sp i) k)).map (·.R)=sp.map (·.R):=by
 rw[X8];refine List.ext_getElem (by simp) λj b c=>?_
 rw[List.getElem_set];split
 ·rename_i e;subst e
  rw[List.getElem_map];show(nth sp i).R=_;rw[bk (I3 a)]
 rfl
def jT.setS(p:oX sp la)(g:i<sp.length){k:Int}(h:0<=k/\k<slots (nth sp i).d)(b c:Int):jT (sp.set i (tF (nth sp i) k)) b c↔jT sp b c\/(b=16*(nth sp i).R+k*csz (nth sp i).d/\(c<0\/(nth sp i).d=c)):=by
 have d:=p.sok _ (au g);constructor
 ·rintro⟨s,l,f,a⟩
  rcases eA l with rfl|⟨j,n,q,rfl⟩
  ·rcases(uv d h b).1 f with o|o
   ·exact .inl ⟨_,au g,o,a⟩
   exact .inr ⟨o,a⟩
  exact .inl ⟨_,au n,f,a⟩
 rintro(⟨s,l,f,a⟩|⟨f,a⟩)
 ·obtain⟨j,n,rfl⟩:=aN l
  by_cases e:j=i
  ·subst e
   exact⟨_,j7 _ g,(uv d h b).2 (.inl f),a⟩
  exact⟨_,kH _ n e,f,a⟩
 exact⟨_,j7 _ g,(uv d h b).2 (.inr f),a⟩
def Tq(d:aX h E)(l:i<h.K.length){k:Int}(p:0<=k/\k<=15)(b:aT (gk h i) k=false):aT (nth h.K i).a8 k=false/\∀u∈h.K,(nth (tbl h).J u.R.toNat).j=(nth (tbl h).J (nth h.K i).R.toNat).j->aT u.a8 k=false:=by
 have e:=d.L;have q:=dY (e.sok _ (au l));unfold gk at b;rw[<-X7,Ds e.sok q p]at b;rw[not_or]at b;have r:aT (nth h.K i).a8 k=false:=by simpa using b.1
 have a:∀s∈h.K,s.R.toNat<gY h/\(nth (tbl h).J s.R.toNat).e≠0/\((s.R.toNat:Nat):Int)=s.R:=λs f=>by
  have K:=aK (e.sok s f);have M:=d.pg.bnd s.R (dJ f);have n:s.R.toNat<(tbl h).J.length:=ω
  have o:((s.R.toNat:Nat):Int)=s.R:=ω
  exact⟨n,(d.pg.own _ n).2 (by rw[o];exact dJ f),o⟩
 refine⟨r,λu c t=>?_⟩;rw[<-X7];intro w;obtain⟨y,A,B⟩:=a _ (au l);obtain⟨C,D,F⟩:=a u c;have G:u.R∈bB h (nth h.K i).R:=by
  rw[<-B,fC y A,<-F];exact eR.2 ⟨C,D,t⟩
 obtain⟨v,H,g⟩:=aN G;obtain⟨j,J,rfl⟩:=aN c;exact b.2 ⟨v,H,j,J,g.symm,w⟩
def aX.take{k sd:Int}(g:aX h E)(C:i<h.K.length)(D:0<=k/\k<slots (nth h.K i).d)(r:aT (gk h i) k=false)(M:0<=sd/\sd<=1073741823) :
  aX {h with b3:=sd,K:=h.K.set i (tF (nth h.K i) k)} ((16*(nth h.K i).R+k*csz (nth h.K i).d)::E):=by
 have F:=g.L;have T:=F.sok _ (au C);have Q:=aK T;obtain⟨l1,l2,l3,l4⟩:=jM Q.2.2;have hz:=bZ Q.2.2;obtain⟨u1,u2⟩:=Tq g C ⟨D.1,ω⟩ r;have n:=λb c=>jT.setS F C D b c
 have w:=MD k C;generalize ha:16*(nth h.K i).R+k*csz (nth h.K i).d=a at n |-;have G:¬eH (nth h.K i) a:=by
  rintro⟨-,-,-,h4⟩
  have:(a - 16*(nth h.K i).R) / csz (nth h.K i).d=k:=by
   rw[<-ha];rcases hz with e|e|e|e<;>rw[e]<;>omega
  rw[this,u1]at h4;cases h4
 have hrange:16*(nth h.K i).R<=a/\a<=16*(nth h.K i).R+15:=by
  rcases hz with e|e|e|e<;>rw[e]at ha l4<;>omega
 have U:¬nA h.K h.M a:=by
  rintro(⟨s,p,d,-⟩|⟨l,hl,e⟩)
  ·obtain⟨j,V,rfl⟩:=aN p
   have:=cU (f:=(·.R)) F.nd V C (by have a1:=d.1;have a2:=d.2.1;omega);subst this;exact G d
  exact(ym F hl).1 _ (au C) ω
 have W:a∉E++holders h:=λX=>U ((g.mem a).1 X)
 have q:∀s∈h.K.set i (tF (nth h.K i) k),∃u∈h.K,u.R=s.R/\(s=u\/(u=nth h.K i/\s=tF u k)):=λs p=>by
  rcases eA p with rfl|⟨j,V,hji,rfl⟩
  ·exact⟨_,au C,rfl,.inr ⟨rfl,rfl⟩⟩
  exact⟨_,au V,rfl,.inl rfl⟩
 generalize hsp:h.K.set i (tF (nth h.K i) k)=sp at n w q |-;have t:pgs sp h.M=pgs h.K h.M:=by unfold pgs;rw[w]
 have N:∀u∈h.K,∃s∈sp,s.R=u.R:=λu r=>by
  have:u.R∈sp.map (·.R):=by rw[w];exact C6.2 ⟨u,r,rfl⟩
  obtain⟨s,p,e⟩:=C6.1 this;exact⟨s,p,e⟩
 exact {g with
   lay:=by
     obtain⟨l1,l2,l3⟩:=eB g.lay;unfold bG;simp only[I0,C0];refine⟨⟨X5.2 λs p=>?_,l2⟩,by rw[t];exact l3⟩;obtain⟨u,r,-,rfl|⟨rfl,rfl⟩⟩:=q s p
     · exact F.sok _ r
     exact KU (F.sok _ r) D
   srs:=by
     have d:(h.K.map (·.R)).Pairwise (λa b=>a<b):=List.pairwise_map.2 g.srs;rw[<-w]at d;exact List.pairwise_map.1 d
   pg:=⟨g.pg.one,by rw[t];exact g.pg.bnd,by rw[t];exact g.pg.own,g.pg.fre,λs p u r O hf=>by
     obtain⟨R,A,Y,Z⟩:=q s p;obtain⟨S,B,eu,P⟩:=q u r;have H:(nth (tbl h).J R.R.toNat).j=(nth (tbl h).J S.R.toNat).j:=by rw[Y,eu];exact hf
     have d:=g.pg.mesh R A S B (by rw[Y,eu];exact O) H;rcases Z with rfl|⟨rfl,rfl⟩
     · rcases P with rfl|⟨rfl,rfl⟩
       · exact d
       rw[hO]at d |-;exact BL D (u2 _ A H) d
     rcases P with rfl|⟨rfl,rfl⟩
     · exact BL D (u2 _ B H.symm) d
     exact absurd (Y.symm.trans eu) O⟩
   nums:=by
     have:=g.nums;unfold cT at this |-;rw[C0]at this |-;exact⟨M.1,M.2,this.2.2⟩
   oow:=λo ho=>by
     rcases g.oow o ho with⟨s,p,d,h2⟩|d
     · obtain⟨u,r,g1,K⟩:=(n o.Addr (aP o.q)).2 (.inl ⟨s,p,d,.inr h2⟩)
       refine .inl ⟨u,r,g1,?_⟩;rcases K with K|K
       · have:=aK (F.sok _ p);omega
       exact K
     exact .inr d
   hca:=λc Q k D b J=>(n b k).2 (.inl (g.hca c Q k D b J))
   hqu:=λy hy=>(n _ _).2 (.inl (g.hqu y hy))
   hfl:=λb J=>(n _ _).2 (.inl (g.hfl b J))
   hin:=λb J=>by
     rcases List.mem_cons.1 J with rfl|J
     · exact(n _ _).2 (.inr ⟨rfl,.inl (by decide)⟩)
     exact(n _ _).2 (.inl (g.hin b J))
   nd:=by
     rw[List.cons_append];exact List.nodup_cons.2 ⟨W,g.nd⟩
   mem:=λb=>by
     show b∈a::E++holders h↔nA sp h.M b;rw[List.cons_append,List.mem_cons,g.mem b];unfold nA;rw[n];constructor
     · rintro(rfl|d|d)
       · exact .inl (.inr ⟨rfl,.inl (by decide)⟩)
       · exact .inl (.inl d)
       exact .inr d
     rintro((d|⟨d,-⟩)|d)
     · exact .inr (.inl d)
     · exact .inl d
     exact .inr (.inr d)
   job:=λX=>by
     obtain⟨j1,⟨s,p,e1⟩,⟨u,r,e2⟩⟩:=g.job X;obtain⟨R,A,g1⟩:=N s p;obtain⟨S,B,K⟩:=N u r;exact⟨j1,⟨R,A,g1.trans e1⟩,⟨S,B,K.trans e2⟩⟩}
def rG(c:aE)(k:Nat):aE:=⟨c.a.set k ((nth c.a k).take ((nth c.a k).length - 1))⟩
def Qp{l:List Int}(h:0<l.length):l=l.take (l.length - 1)++[nth l (l.length - 1)]:=by
 have a:l.drop (l.length - 1)=[nth l (l.length - 1)]:=by
  rw[iC ω,show l.length - 1+1=l.length by omega,List.drop_length]
 rw[<-a,List.take_append_drop]
def aX.pop{k:Nat}(f:aX h E)(l:t<h.T.length)(p:k<(nth h.T t).a.length)(u:0<(nth (nth h.T t).a k).length)(w:bI (rG (nth h.T t) k)=true) :
  aX {h with T:=h.T.set t (rG (nth h.T t) k)} (nth (nth (nth h.T t).a k) ((nth (nth h.T t).a k).length - 1)::E)/\jT h.K (nth (nth (nth h.T t).a k) ((nth (nth h.T t).a k).length - 1)) k:=by
 have q:=Qp u;have n:=f.hca _ (au l) k p (nth (nth (nth h.T t).a k) ((nth (nth h.T t).a k).length - 1)) (au ω);refine⟨?_,n⟩;generalize D:nth (nth (nth h.T t).a k) ((nth (nth h.T t).a k).length - 1)=a at q n |-;have r:(E++holders h).Perm (a::E++holders {h with T:=h.T.set t (rG (nth h.T t) k)}):=by
  refine List.perm_iff_count.2 λb=>?_
  have A:=jg (λc:aE=>c.a.flatten) b h.T t (rG (nth h.T t) k) l;have B:=jg (λy:List Int=>y) b (nth h.T t).a k ((nth (nth h.T t).a k).take ((nth (nth h.T t).a k).length - 1)) p;rw[<-m0,<-m0]at B;have C:=C1 (List.count b) q;simp only[S8,List.count_singleton]at C;simp only[rG]at A;simp only[holders,cJ,rG,S8,List.cons_append,List.count_cons];omega
 exact {f with
   nc:=by show(h.T.set ..).length=_;rw[I2];exact f.nc
   cach:=λc d=>by
     rcases C9 d with d|rfl
     · exact f.cach c d
     exact w
   onu:=by show ∀o∈h.O,1<=o.Id/\o.Id<=h.b - 1/\0<=o.y/\o.y<=(h.T.set t _).length - 1;rw[I2];exact f.onu
   hca:=λc d j i b g=>by
     rcases C9 d with d|rfl
     · exact f.hca c d j i b g
     simp only[rG,I2]at i;simp only[rG,bz]at g;by_cases e:k=j
     · subst e
       rw[CD ⟨rfl,i⟩]at g;exact f.hca _ (au l) _ i b (List.mem_of_mem_take g)
     rw[CC λy=>e y.1]at g;exact f.hca _ (au l) _ i b g
   hin:=λb g=>by
     rcases List.mem_cons.1 g with rfl|g
     · exact n.any
     exact f.hin b g
   nd:=r.nodup_iff.1 f.nd
   mem:=λb=>by rw[<-r.mem_iff];exact f.mem b}
def RE(a:Int)(o:aU):Bool:=decide (a<=o.Addr)
def addO(h:ac)(a size t:Int):ac:={h with O:=jG (RE a) h.O ⟨h.b,a,size,t⟩,b:=h.b+1}
def AZ(a:cT h=true)(b:h.b<1000000):decide (0<=h.b3/\h.b3<=1073741823/\0<=h.b1/\h.b1<=1000000/\0<=h.c0/\h.c0<=1000/\1<=h.b+1/\h.b+1<=1000000)=true:=by
 unfold cT at a;rw[C0]at a |-;omega
def aX.addO{h:ac}{E:List Int}{a size t:Int}(c:aX h (a::E))(d:P4 h.K h.M ⟨h.b,a,size,t⟩)(p:h.b<1000000)(q:0<=t/\t<=h.T.length - 1):aX (addO h a size t) E:=by
 have i:=lL (RE a) h.O ⟨h.b,a,size,t⟩;have n:(a::E++holders h).Perm (E++holders (Ab.addO h a size t)):=by
  have r:=i.map (·.Addr);refine List.perm_iff_count.2 λb=>?_
  have u:=r.count_eq b;simp only[O8,List.count_cons]at u;simp only[holders,cJ,Ab.addO,S8,List.cons_append,List.count_cons];omega
 have j:=c.nd;rw[List.cons_append]at j;obtain⟨k,-⟩:=List.nodup_cons.1 j;have l:∀o∈h.O,o.Addr≠a:=λo d e=>k (I4.2 (.inr (by unfold holders;simp only[I4];exact .inl (.inl (.inl (C6.2 ⟨o,d,e⟩))))))
 exact {c with
   nums:=AZ c.nums p
   osr:=mB (f:=λo:aU=>o.Addr) (y:=⟨h.b,a,size,t⟩) c.osr l
   onu:=λo d=>by
     rcases cL.1 d with rfl|d
     · have:=c.nums
       unfold cT at this;rw[C0]at this;exact⟨by show 1<=h.b;omega,by show h.b<=h.b+1 - 1;omega,q⟩
     have:=c.onu o d;exact⟨this.1,by show o.Id<=h.b+1 - 1;omega,this.2.2⟩
   oid:=by
     show((jG (RE a) h.O ⟨h.b,a,size,t⟩).map (·.Id)).Nodup;rw[(i.map _).nodup_iff,O8];refine List.nodup_cons.2 ⟨λw=>?_,c.oid⟩;obtain⟨o,d,e⟩:=C6.1 w;have:=(c.onu o d).2.1;simp only at e;omega
   oow:=λo g=>by
     rcases cL.1 g with rfl|g
     · exact d
     exact c.oow o g
   hin:=λb A=>c.hin b (S7 _ A)
   nd:=n.nodup_iff.1 c.nd
   mem:=λb=>by rw[<-n.mem_iff];exact c.mem b}
def jH(xs:List aC)(n:Int):Nat->Int
 | 0=>-1
 | i+1=>if n<=(nth xs i).a6/\(jH xs n i<0\/(nth xs i).a6<(nth xs (jH xs n i).toNat).a6) then(i:Nat) else jH xs n i
def iD(xs:List aC)(n:Int):Int:=jH xs n xs.length
def ay(xs:List aC)(n:Int):List aC × Int × Bool:=
 if iD xs n<0 then(xs,-1,false)
 else if(nth xs (iD xs n).toNat).a6=n then(dele xs (iD xs n).toNat,(nth xs (iD xs n).toNat).At,true)
 else(xs.set (iD xs n).toNat ⟨(nth xs (iD xs n).toNat).At+n,(nth xs (iD xs n).toNat).a6 - n⟩,(nth xs (iD xs n).toNat).At,true)
def yq(xs:List aC)(n:Int):∀i,i<=xs.length->jH xs n i = -1\/(0<=jH xs n i/\jH xs n i<i/\n<=(nth xs (jH xs n i).toNat).a6)
 | 0,_=>.inl rfl
 | i+1,b=>by
  have a:=yq xs n i ω;unfold jH;split
  ·rename_i h;right;rw[Z3];exact⟨ω,ω,h.1⟩
  rcases a with h|h
  ·exact .inl h
  exact .inr ⟨h.1,ω,h.2.2⟩
variable{xs:List aC}
def yL(h:jZ xs)(a:i<j)(b:j<xs.length):(nth xs i).At+(nth xs i).a6<(nth xs j).At:=by
 have:=List.pairwise_iff_getElem.1 h.1 i j ω b a
 rwa [<-bk (I3 (show i<xs.length by omega)),<-bk (I3 b)]at this
def zI : RH xs p↔∃j,j<xs.length/\(nth xs j).At<=p/\p<(nth xs j).At+(nth xs j).a6:=by
 unfold RH;constructor
 ·rintro⟨r,b,h⟩
  obtain⟨j,a,rfl⟩:=aN b;exact⟨j,a,h⟩
 rintro⟨j,a,h⟩
 exact⟨_,au a,h⟩
def oy{pages:Int}(h:bH pages xs=true)(T:1<=n)(t:(ay xs n).2.2=true) :
  bH pages (ay xs n).1=true/\0<=(ay xs n).2.1/\(ay xs n).2.1+n<=pages/\(∀p,RH (ay xs n).1 p↔RH xs p/\¬((ay xs n).2.1<=p/\p<(ay xs n).2.1+n))/\∀p,(ay xs n).2.1<=p->p<(ay xs n).2.1+n->RH xs p:=by
 obtain⟨o,u,J⟩:=gi.1 h;have K:=yq xs n xs.length (O4 _);unfold ay at t |-;change iD xs n = -1\/_ at K;split at t
 ·cases t
 rename_i w;rw[CC w];obtain⟨O,P,L⟩:=K.resolve_left ω;change 0<=iD xs n at O;change iD xs n<xs.length at P;change n<=(nth xs (iD xs n).toNat).a6 at L;generalize Q:(iD xs n).toNat=b at L |-;have g:b<xs.length:=ω
 have M:=u _ (au g);have q:∀j,j<xs.length->j≠b->(nth xs j).At+(nth xs j).a6<(nth xs b).At\/(nth xs b).At+(nth xs b).a6<(nth xs j).At:=λj a k=>by
  rcases Nat.lt_or_gt_of_ne k with A|B
  ·exact .inl (yL o A g)
  exact .inr (yL o B a)
 split
 ·rename_i R
  have C:(dele xs b).Sublist xs:=eS ..;refine⟨gi.2 ⟨⟨o.1.sublist C,λy l=>o.2 y (C.subset l)⟩,λy l=>u y (C.subset l),J⟩,M.1,by show(nth xs b).At+n<=pages;omega,λp=>?_,λp D E=>zI.2 ⟨b,g,D,by show p<_;simp only at E;omega⟩⟩;simp only;rw[zI (xs:=xs)];constructor
  ·rintro⟨r,F,f,d⟩
   obtain⟨j,a,k,rfl⟩:=dl.1 F;refine⟨⟨j,a,f,d⟩,λe=>?_⟩;have:=q j a k;omega
  rintro⟨⟨j,a,f,d⟩,G⟩
  exact⟨_,dl.2 ⟨j,a,λe=>by subst e;omega,rfl⟩,f,d⟩
 rename_i R;have c:∀j,nth (xs.set b ⟨(nth xs b).At+n,(nth xs b).a6 - n⟩) j=if j=b then⟨(nth xs b).At+n,(nth xs b).a6 - n⟩ else nth xs j:=λj=>by
  rw[bz];by_cases e:j=b
  ·rw[CD ⟨e.symm,ω⟩,CD e]
  rw[CC λz=>e z.1.symm,CC e]
 refine⟨gi.2 ⟨⟨?_,λy l=>?_⟩,λy l=>?_,J⟩,M.1,by show(nth xs b).At+n<=pages;omega,λp=>?_,λp D E=>zI.2 ⟨b,g,D,by simp only at E;omega⟩⟩
 ·rw[List.pairwise_iff_getElem]
  intro i j N a H;rw[<-bk (I3 N),<-bk (I3 a),c,c];simp only[I2]at N a;have S:=yL o H a;split
  ·rename_i e;subst e
   rw[CC ω];simp only;omega
  split
  ·rename_i e;subst e
   simp only;omega
  exact S
 ·rcases eA l with rfl|⟨j,a,-,rfl⟩
  ·simp only;omega
  exact o.2 _ (au a)
 ·rcases eA l with rfl|⟨j,a,-,rfl⟩
  ·simp only;omega
  exact u _ (au a)
 simp only;rw[zI,zI,I2];constructor
 ·rintro⟨j,a,f,d⟩
  rw[c]at f d;split at f
  ·rename_i e;subst e
   rw[CD rfl]at d;simp only at f d;exact⟨⟨j,a,ω,ω⟩,ω⟩
  rename_i e;rw[CC e]at d;have:=q j a e;exact⟨⟨j,a,f,d⟩,ω⟩
 rintro⟨⟨j,a,f,d⟩,G⟩
 refine⟨j,a,?_⟩;rw[c];split
 ·rename_i e;subst e
  simp only;omega
 exact⟨f,d⟩
def tY(k:am):Int:=cF (λu=>!u) k.F.X.a4
def sE(k:am)(p:Int)(f:Nat):am:={k with F:=⟨⟨k.F.X.V,k.F.X.a4.set f true⟩,⟨k.F.Q.J.set p.toNat ⟨2,(f:Nat)⟩⟩⟩}
def newK(k:am)(p:Int):am × Bool:=if refd k=true\/tY k<0 then(dS k,false) else(sE (dS k) p (tY k).toNat,true)
def Pf(h:¬tY k<0):(tY k).toNat<k.F.X.a4.length/\nth k.F.X.a4 (tY k).toNat=false:=by
 unfold tY at h |-;rcases vS (λu=>!u) k.F.X.a4 with e|⟨n,a,e,b⟩
 ·omega
 rw[e,Z3];exact⟨a,by simpa using b⟩
def B6(h:aF k=true)(b:f<k.F.X.a4.length)(c:nth k.F.X.a4 f=false)(q:Nat)(d:q<k.F.Q.J.length)(g:(nth k.F.Q.J q).e≠0):(nth k.F.Q.J q).j≠(f:Nat):=by
 obtain⟨j,l,n,i,o⟩:=aH.1 h;intro e;have a:=i f b;rw[c]at a;have:=of_decide_eq_false a.symm;exact this (eg.2 ⟨q,d,g,e⟩)
def Th(h:aF k=true)(L:0<=p/\p<k.F.Q.J.length)(n:(nth k.F.Q.J p.toNat).e=0)(o:f<k.F.X.a4.length)(r:nth k.F.X.a4 f=false):aF (sE k p f)=true:=by
 have t:=B6 h o r;obtain⟨u,w,y,A,B⟩:=aH.1 h;obtain⟨C,D,E,F⟩:=aZ.1 w;obtain⟨G,H,J⟩:=bu.1 y;have a:∀q,nth (k.F.Q.J.set p.toNat ⟨2,(f:Nat)⟩) q=if p.toNat=q then⟨2,(f:Nat)⟩ else nth k.F.Q.J q:=λq=>by
  rw[bz];by_cases i:p.toNat=q
  ·rw[CD ⟨i,ω⟩,CD i]
  rw[CC (λe=>i e.1),CC i]
 refine aH.2 ⟨u,aZ.2 ⟨C,D,by simp only[sE,I2];exact E,λj b=>?_⟩,bu.2 ⟨λj b=>?_,?_,?_⟩,λj b=>?_,B⟩
 ·replace b:j<k.F.X.V.length:=b
  show ip (nth k.F.X.V j) (nth (k.F.X.a4.set f true) j)=true;have d:=F j b;rw[bz];split
  ·unfold ip at d |-
   simp only[I0,C0,X5]at d |-;refine⟨d.1,λv K=>?_⟩;have:=d.2 v K;unfold iU at this |-;simp only[I0]at this;rw[this.1];rfl
  exact d
 ·simp only[sE,I2]at b |-
  rw[a];split
  ·unfold lx;rw[C0];simp only;omega
  exact G j b
 ·simp only[sE,I2];exact H
 ·simp only[sE,I2];exact J
 simp only[sE,I2]at b;show nth (k.F.X.a4.set f true) j=_;rw[bz];by_cases e:f=j
 ·subst e
  rw[CD ⟨rfl,b⟩];refine(O0 (eg.2 ⟨p.toNat,?_,?_,?_⟩)).symm
  ·simp only[sE,I2];omega
  ·simp only[sE,a,CD];decide
  simp only[sE,a,CD]
 rw[CC λz=>e z.1,A j b];refine decide_eq_decide.2 ?_;rw[eg,eg];simp only[sE,I2,a];constructor
 ·rintro⟨q,l,g,c⟩
  refine⟨q,l,?_⟩;rw[CC λz=>g (by rw[<-z];exact n)];exact⟨g,c⟩
 rintro⟨q,l,g,c⟩
 by_cases z:p.toNat=q
 ·rw[CD z]at c
  simp only at c;omega
 rw[CC z]at g c;exact⟨q,l,g,c⟩
structure ww(k:am)(p:Int)(r:am × Bool):Prop where
 ker:aF r.1=true
 len:r.1.F.Q.J.length=k.F.Q.J.length
 calls:r.1.Calls=k.Calls+1
 ref:r.1.w=k.w
 cells:r.1.F.X.V=k.F.X.V
 no:r.2=false->r.1=dS k
 yes:r.2=true->∃f:Nat,f<k.F.X.a4.length/\nth k.F.X.a4 f=false/\(∀q:Nat,nth r.1.F.Q.J q=if(q:Int)=p then⟨2,(f:Nat)⟩ else nth k.F.Q.J q)/\∀q,q<k.F.Q.J.length->(nth k.F.Q.J q).e≠0->(nth k.F.Q.J q).j≠(f:Nat)
def ww.of(h:aF k=true)(c:k.Calls≠100000)(f:0<=p/\p<k.F.Q.J.length)(g:(nth k.F.Q.J p.toNat).e=0):ww k p (newK k p):=by
 unfold newK;split
 ·exact⟨nq h c,rfl,rfl,rfl,rfl,λ_=>rfl,λe=>by cases e⟩
 rename_i d;rw[not_or]at d;obtain⟨a,b⟩:=Pf d.2;refine⟨Th (nq h c) f g a b,by simp[sE,dS],rfl,rfl,rfl,λe=>(by cases e),λ_=>⟨_,a,b,λq=>?_,λq=>B6 h a b q⟩⟩;simp only[sE,dS,bz];by_cases e:(q:Int)=p
 ·rw[CD ⟨ω,ω⟩,CD e]
 rw[CC λz=>e ω,CC e]
def newsK(k:am)(p:Int):Nat->am × Nat
 | 0=>(k,0)
 | i+1=>if(newsK k p i).2=i then((newK (newsK k p i).1 (p+(i:Nat))).1,if(newK (newsK k p i).1 (p+(i:Nat))).2=true then i+1 else i) else newsK k p i
structure lv(k:am)(p:Int)(i:Nat)(r:am × Nat):Prop where
 ker:aF r.1=true
 len:r.1.F.Q.J.length=k.F.Q.J.length
 calls:k.Calls<=r.1.Calls/\r.1.Calls<=k.Calls+i
 ref:r.1.w=k.w
 cells:r.1.F.X.V=k.F.X.V
 le:r.2<=i
 out:∀q:Nat,¬(p<=q/\(q:Int)<p+r.2)->nth r.1.F.Q.J q=nth k.F.Q.J q
 new:∀q:Nat,p<=q->(q:Int)<p+r.2->(nth r.1.F.Q.J q).e=2/\∀u:Nat,u<k.F.Q.J.length->(nth r.1.F.Q.J u).e≠0->(nth r.1.F.Q.J u).j=(nth r.1.F.Q.J q).j->u=q
def lv.of{k:am}{p:Int}{n:Nat}(h:aF k=true)(G:k.Calls+n<=100000)(H:0<=p/\p+n<=k.F.Q.J.length)(C:∀q:Nat,p<=q->(q:Int)<p+n->(nth k.F.Q.J q).e=0):∀i,i<=n->lv k p i (newsK k p i)
 | 0,_=>⟨h,rfl,⟨C7 _,by show k.Calls<=k.Calls+((0:Nat):Int);omega⟩,rfl,rfl,O4 _,λ_ _=>rfl,λq o d=>by simp only[newsK]at d;omega⟩
 | i+1,L=>by
  have a:=lv.of h G H C i ω;unfold newsK;split
  case isFalse=>exact⟨a.ker,a.len,⟨a.calls.1,by have:=a.calls.2;omega⟩,a.ref,a.cells,by have:=a.le;omega,a.out,a.new⟩
  rename_i t;generalize newsK k p i=r at a t |-;have J:=a.calls;have y:(nth r.1.F.Q.J (p+(i:Nat)).toNat).e=0:=by
   rw[a.out _ ω];exact C _ ω ω
  have s:=ww.of (p:=p+(i:Nat)) a.ker ω ⟨ω,by rw[a.len];omega⟩ y;generalize newK r.1 (p+(i:Nat))=w at s |-;refine⟨s.ker,s.len.trans a.len,⟨by simp only[s.calls];omega,by simp only[s.calls];omega⟩,s.ref.trans a.ref,s.cells.trans a.cells,by simp only;split<;>omega,λq j=>?_,λq o d=>?_⟩
  ·simp only at j |-
   cases e:w.2 with
   | false=>
    rw[s.no e];rw[e]at j;exact a.out q (by rw[t];simpa using j)
   | true=>
    obtain⟨f,-,-,g,-⟩:=s.yes e;rw[e,CD rfl]at j;rw[g,CC ω];exact a.out q ω
  simp only at d |-;cases e:w.2 with
  | false=>
   rw[s.no e];rw[e]at d;exact a.new q o (by rw[t];simpa using d)
  | true=>
   obtain⟨f,-,-,g,D⟩:=s.yes e;rw[e,CD rfl]at d;have A:q<k.F.Q.J.length:=ω
   rw[g];by_cases E:(q:Int)=p+(i:Nat)
   ·rw[CD E]
    refine⟨rfl,λu B c b=>?_⟩;rw[g]at c b;by_cases l:(u:Int)=p+(i:Nat)
    ·omega
    rw[CC l]at c b;exact absurd b (D u (by rw[a.len];exact B) c)
   rw[CC E];obtain⟨F,K⟩:=a.new q o ω;refine⟨F,λu B c b=>?_⟩;rw[g]at c b;by_cases l:(u:Int)=p+(i:Nat)
   ·rw[CD l]at b
    exact absurd b.symm (D q (by rw[a.len];exact A) (by rw[F];decide))
   rw[CC l]at c b;exact K u B c b
def lv.undo{r:am × Nat}(s:lv k p i r)(h:aF k=true)(d:0<=p/\p+i<=k.F.Q.J.length)(e:∀q:Nat,p<=q->(q:Int)<p+i->(nth k.F.Q.J q).e=0):aF (unmN r.1 p r.2)=true/\tEq k.F.Q (unmN r.1 p r.2).F.Q:=by
 have f:=s.le;have g:=n7 s.ker d.1 r.2 (by rw[s.len];omega);refine⟨je s.ker p r.2,((f9 r.1 p r.2).1).trans s.len,λq=>?_⟩;rw[g];split
 ·rename_i a
  have c:=e q a.1 ω;obtain⟨-,-,j,-⟩:=aH.1 h;have b:=(bu.1 j).1 q ω;unfold lx at b;rw[C0]at b;exact⟨⟨λz=>absurd rfl z,λz=>absurd c z⟩,(b.2.2.1 c).symm⟩
 rename_i a;rw[s.out q a];exact⟨Iff.rfl,rfl⟩
def Pg.add{t h:aL}{O r:List aC}{b:List aA}{d:List aB}{n:Nat}(i:Pg t O sp la)(E:h.J.length=t.J.length)(S:p+n<=t.J.length)(hp:0<=p)(j:∀q:Nat,¬(p<=q/\(q:Int)<p+n)->nth h.J q=nth t.J q)(a:∀q:Nat,p<=q->(q:Int)<p+n->(nth h.J q).e=2/\∀u:Nat,u<t.J.length->(nth h.J u).e≠0->(nth h.J u).j=(nth h.J q).j->u=q)(J:∀q,RH r q↔RH O q/\¬(p<=q/\q<p+n))(F:∀q,q∈pgs b d↔q∈pgs sp la\/(p<=q/\q<p+n))(w:∀s∈b,0<=s.R/\(s∈sp\/(p<=s.R/\s.R<p+n)))(K:∀l∈d,l∈la\/∀q∈lpgs l l.a2.toNat,p<=q/\q<p+n):Pg h r b d:=by
 have f:∀q:Nat,q<t.J.length->((nth h.J q).e≠0↔(q:Int)∈pgs b d):=λq c=>by
  rw[F];by_cases e:p<=q/\(q:Int)<p+n
  ·have:=(a q e.1 e.2).1
   exact⟨λ_=>.inr e,λ_=>by rw[this];decide⟩
  rw[j q e,i.own q c];exact⟨.inl,λz=>z.resolve_right e⟩
 refine⟨λl A q c u k L G=>?_,λq c=>?_,λq c=>f q (by rw[<-E];exact c),λq c=>?_,λs P u k M H=>?_⟩
 ·rw[E]at k
  have B:=gl (sp:=b) A c;have C:q<t.J.length:=by
   rcases(F _).1 B with g|g
   ·have:=i.bnd _ g;omega
   omega
  by_cases e:p<=q/\(q:Int)<p+n
  ·exact(a q e.1 e.2).2 u k L G
  have N:=(K l A).resolve_right λg=>e (g _ c)
  by_cases o:p<=u/\(u:Int)<p+n
  ·exact((a u o.1 o.2).2 q C ((f q C).2 B) G.symm).symm
  rw[j q e,j u o]at G;rw[j u o]at L;exact i.one l N q c u k L G
 ·rw[E]
  rcases(F _).1 c with g|g
  ·exact i.bnd _ g
  omega
 ·rw[E]at c
  rw[J];by_cases e:p<=q/\(q:Int)<p+n
  ·have:=(a q e.1 e.2).1
   exact⟨λ_ z=>z.2 e,λ_=>by rw[this];decide⟩
  rw[j q e,i.fre q c];exact⟨λz y=>z y.1,λz y=>z ⟨y,e⟩⟩
 obtain⟨T,U⟩:=w s P;obtain⟨V,W⟩:=w u k;have D:∀y∈b,0<=y.R->y.R.toNat<t.J.length/\((y.R.toNat:Nat):Int)=y.R/\(nth h.J y.R.toNat).e≠0:=λy X Y=>by
  have g:=dJ (la:=d) X;have Q:y.R.toNat<t.J.length:=by
   rcases(F _).1 g with R|R
   ·have:=i.bnd _ R;omega
   omega
  exact⟨Q,ω,(f _ Q).2 (by rw[show((y.R.toNat:Nat):Int)=y.R by omega];exact g)⟩
 obtain⟨Z,sc,sd⟩:=D s P T;obtain⟨ub,uc,ud⟩:=D u k V;by_cases es:p<=s.R/\s.R<p+n
 ·have:=(a s.R.toNat ω ω).2 _ ub ud H.symm
  omega
 by_cases o:p<=u.R/\u.R<p+n
 ·have:=(a u.R.toNat ω ω).2 _ Z sd H
  omega
 rw[j _ ω,j _ ω]at H;exact i.mesh s (U.resolve_right es) u (W.resolve_right o) M H
def Hx{a:List aA}{b:List aB}(c:a.Perm sp)(d:b.Perm la):(pgs a b).Perm (pgs sp la):=by
 unfold pgs;exact(c.map _).append (d.flatMap_right _)
def GT(p:Int)(s:aA):Bool:=decide (p<=s.R)
def Uz(p:Int)(l:aB):Bool:=decide (p<=l.R)
def addS(h:ac)(k:am)(a:List aC)(p c:Int):ac:={h with G:=k,o:=a,K:=jG (GT p) h.K ⟨p,c,0⟩}
def kv(a:aX h E)(j:1<=n)(k:(ay h.o n).2.2=true):0<=(ay h.o n).2.1/\(ay h.o n).2.1+n<=(tbl h).J.length/\(∀q:Nat,(ay h.o n).2.1<=q->(q:Int)<(ay h.o n).2.1+n->(nth (tbl h).J q).e=0)/\∀q:Int,(ay h.o n).2.1<=q->q<(ay h.o n).2.1+n->q∉pgs h.K h.M:=by
 obtain⟨r,l,f,t,o⟩:=oy a.rng j k;have g:∀q:Nat,(ay h.o n).2.1<=q->(q:Int)<(ay h.o n).2.1+n->(nth (tbl h).J q).e=0:=λq b c=>by
  have d:q<(tbl h).J.length:=by
   have:(ay h.o n).2.1+n<=((tbl h).J.length:Nat):=f;omega
  by_cases e:(nth (tbl h).J q).e=0
  ·exact e
  exact absurd (o q b c) ((a.pg.fre q d).1 e)
 refine⟨l,f,g,λq b c i=>?_⟩;have u:=a.pg.bnd q i;obtain⟨m,rfl⟩:=C4 (show 0<=q by omega);have p:=(a.pg.own m ω).2 i;exact p (g m b c)
def aX.addS{h:ac}{E:List Int}{c:Int}(a:aX h E)(H:0<=c/\c<=3)(F:(ay h.o 1).2.2=true){k:am}(s:ww h.G (ay h.o 1).2.1 (k,true)):aX (addS h k (ay h.o 1).1 (ay h.o 1).2.1 c) E:=by
 obtain⟨U,G,r3,J,r5⟩:=oy a.rng (C7 _) F;obtain⟨-,V,u3,W⟩:=kv a (C7 _) F;generalize (ay h.o 1).2.1=p at G r3 J r5 V u3 W s |-;generalize (ay h.o 1).1=fr at U J |-;obtain⟨f,f1,f2,K,f4⟩:=s.yes rfl;have M:=(bu.1 (aH.1 a.ker).2.2.1).2.2;change (tbl h).J.length<=32 at M;have X:=a.L;have N:=lL (GT p) h.K ⟨p,c,0⟩;have O:=Hx N (List.Perm.refl h.M);have w:(pgs (jG (GT p) h.K ⟨p,c,0⟩) h.M).Perm (p::pgs h.K h.M):=O;have B:p∉pgs h.K h.M:=W p (C7 _) ω;have P:∀z∈h.K,z.R≠p:=λz g e=>B (by rw[<-e];exact dJ g)
 have i:∀b d,jT (jG (GT p) h.K ⟨p,c,0⟩) b d↔jT h.K b d:=λb d=>by
  constructor
  ·rintro⟨s,C,A,Q⟩
   rcases cL.1 C with rfl|C
   ·exact absurd A (xc rfl b)
   exact⟨s,C,A,Q⟩
  rintro⟨s,C,A⟩
  exact⟨s,cL.2 (.inr C),A⟩
 exact {a with
   ker:=s.ker
   rng:=by show bH ((k.F.Q.J.length:Nat):Int) fr=true;rw[s.len];exact U
   lay:=by
     obtain⟨l1,l2,l3⟩:=eB a.lay;unfold bG;simp only[I0,C0];refine⟨⟨X5.2 λz g=>?_,l2⟩,w.nodup_iff.2 (List.nodup_cons.2 ⟨B,l3⟩)⟩;rcases cL.1 g with rfl|g
     · have R:0<=lim c:=by
         have:=(jM H).1;obtain rfl|rfl|rfl|rfl:c=0\/c=1\/c=2\/c=3:=ω
         all_goals decide
       exact O0 ⟨G,by show p<=31;omega,H.1,H.2,C7 _,R⟩
     exact X.sok z g
   srs:=mB (f:=λz:aA=>z.R) (y:=⟨p,c,0⟩) a.srs P
   pg:=by
     refine a.pg.add (p:=p) (n:=1) s.len (by exact V) G (λq Y=>?_) (λq q1 q2=>?_) (λq=>J q) (λq=>?_) (λz g=>?_) (λl hl=>.inl hl)
     · exact(K q).trans (CC ω)
     · have Y:(q:Int)=p:=ω
       have Z:nth k.F.Q.J q = ⟨2,(f:Nat)⟩:=(K q).trans (CD Y);refine⟨C1 bm.e Z,λu S t r=>?_⟩;have fu:nth k.F.Q.J u=if(u:Int)=p then⟨2,(f:Nat)⟩ else nth h.G.F.Q.J u:=K u
       change (nth k.F.Q.J u).e≠0 at t;change (nth k.F.Q.J u).j=(nth k.F.Q.J q).j at r;rw[fu]at t r;rw[Z]at r;by_cases eu:(u:Int)=p
       · omega
       rw[CC eu]at t r;exact absurd r (f4 u S t)
     · show q∈pgs (jG (GT p) h.K ⟨p,c,0⟩) h.M↔_
       rw[w.mem_iff,List.mem_cons];constructor
       · rintro(e|e)
         · exact .inr ⟨ω,ω⟩
         exact .inl e
       rintro(e|e)
       · exact .inr e
       exact .inl ω
     rcases cL.1 g with rfl|g
     · exact⟨G,.inr ⟨C7 _,by show p<p+((1:Nat):Int);omega⟩⟩
     exact⟨(aK (X.sok z g)).1,.inl g⟩
   oow:=λo F=>by
     rcases a.oow o F with⟨z,g,A,Q⟩|A
     · exact .inl ⟨z,cL.2 (.inr g),A,Q⟩
     exact .inr A
   hca:=λd hd j hj b D=>(i b j).2 (a.hca d hd j hj b D)
   hqu:=λy T=>(i _ _).2 (a.hqu y T)
   hfl:=λb D=>(i _ _).2 (a.hfl b D)
   hin:=λb D=>(i _ _).2 (a.hin b D)
   mem:=λb=>(a.mem b).trans (by
     show nA h.K h.M b↔nA (jG (GT p) h.K ⟨p,c,0⟩) h.M b;unfold nA;rw[i])
   job:=λhm=>by
     obtain⟨j1,⟨y,T,e1⟩,⟨u,S,e2⟩⟩:=a.job hm;exact⟨j1,⟨y,cL.2 (.inr T),e1⟩,⟨u,cL.2 (.inr S),e2⟩⟩}
def addL(h:ac)(k:am)(a:List aC)(p n size t:Int):ac:={h with G:=k,o:=a,M:=jG (Uz p) h.M ⟨p,n,size⟩,O:=jG (RE (16*p)) h.O ⟨h.b,16*p,size,t⟩,b:=h.b+1}
def aX.addL{h:ac}{E:List Int}{size t:Int}{n:Nat}(a:aX h E)(g:9<=size/\size<=1000)(J:(n:Int)=(size+15) / 16)(i:(ay h.o n).2.2=true){k:am}(s:lv h.G (ay h.o n).2.1 n (k,n))(hn:h.b<1000000)(ht:0<=t/\t<=h.T.length - 1) :
  aX (addL h k (ay h.o n).1 (ay h.o n).2.1 n size t) E:=by
 have B:(1:Int)<=n:=ω
 obtain⟨V,K,r3,M,r5⟩:=oy a.rng B i;obtain⟨-,W,u3,H⟩:=kv a B i;generalize (ay h.o n).2.1=p at K r3 M r5 W u3 H s |-;generalize (ay h.o n).1=fr at V M |-;have N:=(bu.1 (aH.1 a.ker).2.2.1).2.2;change (tbl h).J.length<=32 at N;have O:=a.L;have P:=lL (Uz p) h.M ⟨p,n,size⟩;have C:=lL (RE (16*p)) h.O ⟨h.b,16*p,size,t⟩;have Q:lpgs ⟨p,n,size⟩ ((n:Nat):Int).toNat=lpgs ⟨p,n,size⟩ n:=by rw[Z3]
 have D:(pgs h.K (jG (Uz p) h.M ⟨p,n,size⟩)).Perm (lpgs ⟨p,n,size⟩ n++pgs h.K h.M):=by
  refine(Hx (List.Perm.refl h.K) P).trans ?_;unfold pgs;rw[O9];simp only[Q];rw[<-Z7,<-Z7];exact List.perm_append_comm.append_right _
 have u:∀q,q∈lpgs ⟨p,n,size⟩ n↔p<=q/\q<p+n:=λq=>by
  rw[dB];constructor
  ·rintro⟨j,hj,rfl⟩;exact⟨by show p<=p+(j:Int);omega,by show p+(j:Int)<_;omega⟩
  rintro⟨X,Y⟩;exact⟨(q - p).toNat,ω,by show q=p+_;omega⟩
 have R:(lpgs ⟨p,n,size⟩ n).Nodup:=by
  unfold lpgs List.Nodup;rw[List.pairwise_map];exact List.nodup_range.imp λr e=>r (by simp only at e;omega)
 have r:∀z∈h.M,z.R≠p:=λz g e=>H p (C7 _) ω (by rw[<-e];exact gl g (dB.2 ⟨0,by have:=aR (O.lok z g);omega,ω⟩))
 have S:¬nA h.K h.M (16*p):=by
  rintro(⟨z,g,d,-⟩|⟨l,c,e⟩)
  ·exact H p (C7 _) ω (by rw[show p=z.R by have a1:=d.1;have a2:=d.2.1;omega];exact dJ g)
  exact r l c ω
 have F:(16*p)∉E++holders h:=λT=>S ((a.mem _).1 T)
 have U:∀o∈h.O,o.Addr≠16*p:=λo i e=>F (I4.2 (.inr (by unfold holders;simp only[I4];exact .inl (.inl (.inl (C6.2 ⟨o,i,e⟩))))))
 have Z:(E++holders (Ab.addL h k fr p n size t)).Perm ((16*p)::(E++holders h)):=by
  have h0:=C.map (·.Addr);refine List.perm_iff_count.2 λb=>?_
  have d:=h0.count_eq b;simp only[O8,List.count_cons]at d;simp only[holders,cJ,Ab.addL,S8,List.count_cons];omega
 exact {a with
   ker:=s.ker
   rng:=by show bH ((k.F.Q.J.length:Nat):Int) fr=true;rw[s.len];exact V
   lay:=by
     obtain⟨l1,l2,l3⟩:=eB a.lay;unfold bG;simp only[I0,C0];refine⟨⟨l1,X5.2 λz w=>?_⟩,D.nodup_iff.2 (List.nodup_append.2 ⟨R,l3,λq G b hb e=>?_⟩)⟩
     · rcases cL.1 w with rfl|w
       · exact O0 ⟨g.1,g.2,J,K,by show p<=32 - (n:Int);omega⟩
       exact O.lok z w
     subst e;have:=(u q).1 G;exact H q this.1 this.2 hb
   srl:=mB (f:=λz:aB=>z.R) (y:=⟨p,n,size⟩) a.srl r
   pg:=by
     refine a.pg.add (p:=p) (n:=n) s.len (by exact W) K (λq G=>s.out q G) (λq X Y=>s.new q X Y) (λq=>M q) (λq=>?_) (λz g=>⟨(aK (O.sok z g)).1,.inl g⟩) (λl c=>?_)
     · show q∈pgs h.K (jG (Uz p) h.M ⟨p,n,size⟩)↔_
       rw[D.mem_iff,I4,u];exact Or.comm
     rcases cL.1 c with rfl|c
     · exact .inr λq G=>(u q).1 (by simpa using G)
     exact .inl c
   nums:=AZ a.nums hn
   osr:=mB (f:=λo:aU=>o.Addr) (y:=⟨h.b,16*p,size,t⟩) a.osr U
   onu:=λo i=>by
     rcases cL.1 i with rfl|i
     · have:=a.nums
       unfold cT at this;rw[C0]at this;exact⟨by show 1<=h.b;omega,by show h.b<=h.b+1 - 1;omega,ht⟩
     have:=a.onu o i;exact⟨this.1,by show o.Id<=h.b+1 - 1;omega,this.2.2⟩
   oid:=by
     show((jG (RE (16*p)) h.O ⟨h.b,16*p,size,t⟩).map (·.Id)).Nodup;rw[(C.map _).nodup_iff,O8];refine List.nodup_cons.2 ⟨λT=>?_,a.oid⟩;obtain⟨o,i,e⟩:=C6.1 T;have:=(a.onu o i).2.1;simp only at e;omega
   oow:=λo A=>by
     rcases cL.1 A with rfl|A
     · exact .inr ⟨_,cL.2 (.inl rfl),rfl,rfl⟩
     rcases a.oow o A with d|⟨l,c,d⟩
     · exact .inl d
     exact .inr ⟨l,cL.2 (.inr c),d⟩
   nd:=Z.nodup_iff.2 (List.nodup_cons.2 ⟨F,a.nd⟩)
   mem:=λb=>by
     rw[Z.mem_iff,List.mem_cons,a.mem b];show _↔nA h.K (jG (Uz p) h.M ⟨p,n,size⟩) b;unfold nA;constructor
     · rintro(rfl|d|⟨l,c,e⟩)
       · exact .inr ⟨_,cL.2 (.inl rfl),rfl⟩
       · exact .inl d
       exact .inr ⟨l,cL.2 (.inr c),e⟩
     rintro(d|⟨l,c,e⟩)
     · exact .inr (.inl d)
     rcases cL.1 c with rfl|c
     · exact .inl e
     exact .inr (.inr ⟨l,c,e⟩)}
structure JK(h h':ac):Prop where
 job:h'.Y=h.Y
 msh:h'.k=h.k
 sp:∀s∈h.K,fe h s.R=true->∃s'∈h'.K,s'.R=s.R/\∀u,meshable s u=true->meshable s' u=true
 ent:∀q:Nat,(nth (tbl h').J q).e≠0->((nth (tbl h).J q).e≠0/\(nth (tbl h').J q).j=(nth (tbl h).J q).j)\/∀u:Nat,(nth (tbl h').J u).e≠0->(nth (tbl h').J u).j=(nth (tbl h').J q).j->u=q
def JK.refl(h:ac):JK h h:=⟨rfl,rfl,λs a _=>⟨s,a,rfl,λ_ z=>z⟩,λ_ b=>.inl ⟨b,rfl⟩⟩
variable{h':ac}
def JK.pg(k:JK h h')(p:Int):fe h' p=fe h p:=by unfold fe;rw[k.job,k.msh]
def JK.trans{h1 g:ac}(a:JK h h1)(b:JK h1 g):JK h g:=by
 refine⟨b.job.trans a.job,b.msh.trans a.msh,λs o i=>?_,λq j=>?_⟩
 ·obtain⟨p,r,k,t⟩:=a.sp s o i
  obtain⟨w,y,A,B⟩:=b.sp p r (by rw[a.pg,k];exact i);exact⟨w,y,A.trans k,λu c=>B u (t u c)⟩
 rcases b.ent q j with⟨d,l⟩|d
 ·rcases a.ent q d with⟨e,C⟩|e
  ·exact .inl ⟨e,l.trans C⟩
  refine .inr λu c n=>?_
  rcases b.ent u c with⟨f,D⟩|f
  ·exact e u f (by rw[<-D,<-l];exact n)
  exact(f q j n.symm).symm
 exact .inr d
def oY.keep(f:0<=p)(d:(nth (tbl h').J p.toNat).e≠0)(g:oY (tbl h) p)(k:JK h h'):oY (tbl h') p:=λq e c=>by
 rcases k.ent p.toNat d with⟨n,i⟩|a
 ·rcases k.ent q e with⟨j,l⟩|b
  ·exact g q j (by rw[<-l,c,i])
  have:=b p.toNat d c.symm;omega
 have:=a q e c;omega
def aX.mapped(a:aX h E)(b:s∈h.K):0<=s.R/\s.R<(tbl h).J.length/\(nth (tbl h).J s.R.toNat).e≠0:=by
 have c:=(aK (a.L.sok s b)).1;have d:=a.pg.bnd _ (dJ (la:=h.M) b);refine⟨c,d,(a.pg.own s.R.toNat ω).2 ?_⟩;rw[show((s.R.toNat:Nat):Int)=s.R by omega];exact dJ b
def JI.keep(l:JI h)(p:aX h' E)(k:JK h h'):JI h':=by
 have d:h.k=true->∃a∈h'.K,∃b∈h'.K,a.R=h.Y.W.a3/\b.R=h.Y.W.a0/\meshable a b=true:=λc=>by
  obtain⟨a,n,b,o,f,g,e⟩:=l.sp c;obtain⟨q,t,u,w⟩:=k.sp a n (by unfold fe;rw[c,f];simp);obtain⟨y,A,B,C⟩:=k.sp b o (by unfold fe;rw[c,g];simp);refine⟨q,t,y,A,u.trans f,B.trans g,?_⟩;have r:=w b e;rw[hO]at r |-;exact C q r
 refine⟨λc=>?_,λc=>?_,λc=>?_,λc=>?_⟩
 ·rw[k.msh]at c;rw[k.job];exact l.ph c
 ·rw[k.msh]at c;rw[k.job];exact d c
 ·rw[k.msh]at c
  obtain⟨a,n,b,o,f,g,e⟩:=d c;obtain⟨i,D,j⟩:=p.mapped n;rw[k.job];rw[f]at i j;exact(l.sk c).keep i j k
 rw[k.msh]at c;obtain⟨a,n,b,o,f,g,e⟩:=d c;obtain⟨i,D,j⟩:=p.mapped o;rw[k.job];rw[g]at i j;exact(l.sm c).keep i j k
def JK.less(h1:h'.Y=h.Y)(c:h'.k=h.k)(d:h'.K=h.K)(b:∀q:Nat,(nth (tbl h').J q).e≠0->nth (tbl h').J q=nth (tbl h).J q):JK h h':=
 ⟨h1,c,λs e _=>⟨s,by rw[d];exact e,rfl,λ_ z=>z⟩,λq a=>.inl ⟨by rw[<-b q a];exact a,by rw[b q a]⟩⟩
def JK.eq(h1:h'.Y=h.Y)(a:h'.k=h.k)(b:h'.K=h.K)(c:tbl h'=tbl h):JK h h':=.less h1 a b λq _=>by rw[c]
def JK.clrS{h:ac}{E:List Int}{a:Int}{i:Nat}(f:aX h E)(c:i<h.K.length)(d:eH (nth h.K i) a):JK h (clrS h i a):=by
 refine⟨rfl,rfl,λs g _=>?_,λq k=>.inl ⟨k,rfl⟩⟩;obtain⟨j,l,rfl⟩:=aN g;by_cases e:j=i
 ·subst e
  have b:=f.L.sok _ (au c);exact⟨_,j7 _ c,rfl,λu n=>Ba b (qG b ⟨d.1,d.2.1⟩) n⟩
 exact⟨_,kH _ l e,rfl,λ_ z=>z⟩
def JK.giveP{h:ac}{E:List Int}{i:Nat}(d:aX h E)(f:i<h.K.length)(c:fe h (nth h.K i).R=false):JK h (giveP h i):=by
 obtain⟨g,k,-⟩:=d.mapped (au f);refine⟨rfl,rfl,λs l a=>?_,λq b=>.inl ?_⟩
 ·obtain⟨j,n,rfl⟩:=aN l
  exact⟨_,dl.2 ⟨j,n,λe=>(by subst e;rw[c]at a;cases a),rfl⟩,rfl,λ_ z=>z⟩
 have o:=sD d.ker (p:=(nth h.K i).R) ⟨g,k⟩ q;change (nth (cy h.G (nth h.K i).R).F.Q.J q).e≠0 at b;show(nth h.G.F.Q.J q).e≠0/\(nth (cy h.G (nth h.K i).R).F.Q.J q).j=(nth h.G.F.Q.J q).j;rw[o]at b |-;split at b
 ·exact absurd rfl b
 rename_i e;rw[CC e];exact⟨b,rfl⟩
def JK.freeS{h:ac}{E:List Int}{a:Int}{i:Nat}(c:aX h (a::E))(b:i<h.K.length)(d:eH (nth h.K i) a):JK h (freeS h i a):=by
 have g:=c.give b d;have f:=JK.clrS c b d;unfold Ab.freeS;split
 ·rename_i e
  have j:nth (Ab.clrS h i a).K i=kW (nth h.K i) (cM (nth h.K i) a):=by unfold Ab.clrS;simp only[bz,true_and];rw[CD b]
  exact f.trans (JK.giveP (h:=Ab.clrS h i a) g (by unfold Ab.clrS;simp only[I2];exact b) (by rw[j];exact e.2))
 exact f
def JK.freeA{h:ac}{E:List Int}{a:Int}(b:aX h (a::E)):JK h (freeA h a):=by
 obtain⟨c,d,-⟩:=b.at (b.hin a (X2 ..));exact JK.freeS b c d
def JK.recyc{h:ac}{E:List Int}{a:Int}{t:Nat}(b:aX h (a::E)):JK h (recyc t h a):=by
 unfold Ab.recyc;split
 ·exact JK.eq rfl rfl rfl rfl
 exact JK.freeA b
def JK.recycs{t:Nat}{E:List Int} : ∀{az:List Int}{h:ac},aX h (az++E)->t<h.T.length->JK h (recycs t h az)
 | [],h,_,_=>JK.refl h
 | a::az,h,b,c=>(JK.recyc (t:=t) b).trans (JK.recycs (az:=az) (h:=Ab.recyc t h a) (b.recyc c) (by rw[(nZ t h a).1];exact c))
def JK.freeAs{E:List Int} : ∀{az:List Int}{h:ac},aX h (az++E)->JK h (freeAs h az)
 | [],h,_=>JK.refl h
 | a::az,h,b=>(JK.freeA b).trans (JK.freeAs (az:=az) (h:=Ab.freeA h a) b.freeA)
def JK.flushN{t:Nat}{h:ac}(c:aX h [])(d:t<h.T.length):∀{k:Nat},k<=4->JK h (flushN t h k).1
 | 0,_=>JK.refl h
 | k+1,e=>by
  obtain⟨h1,f,-⟩:=iQ c d (k:=k) ω;have a:t<(Ab.flushN t h k).1.T.length:=ω
  have b:k<(nth (Ab.flushN t h k).1.T t).a.length:=by rw[(eN (h1.cach _ (au a))).1];omega
  exact JK.trans (h1:=Ab.spilt (Ab.flushN t h k).1 t k) ((JK.flushN c d (k:=k) ω).trans (JK.eq rfl rfl rfl rfl)) (JK.freeAs (h1.spilt a b))
def uX(a:aX h E){k:Nat}(b:k<h.M.length):0<=(nth h.M k).R/\(nth h.M k).R+((nth h.M k).a2.toNat:Nat)<=(tbl h).J.length:=by
 have c:=aR (a.L.lok _ (au b));have d:=a.pg.bnd _ (gl (sp:=h.K) (au b) (dB.2 ⟨(nth h.M k).a2.toNat - 1,ω,rfl⟩));exact⟨ω,ω⟩
def JK.freeL{h:ac}{E:List Int}{i k:Nat}(b:aX h E)(c:k<h.M.length):JK h (freeL h i k):=by
 obtain⟨d,f⟩:=uX b c;refine JK.less rfl rfl rfl λq a=>?_
 have g:=n7 b.ker d (nth h.M k).a2.toNat f q;change (nth (unmN h.G (nth h.M k).R (nth h.M k).a2.toNat).F.Q.J q).e≠0 at a;show nth (unmN h.G (nth h.M k).R (nth h.M k).a2.toNat).F.Q.J q=nth h.G.F.Q.J q;rw[g]at a |-;split at a
 ·exact absurd rfl a
 rename_i e;rw[CC e]
def JK.freeOb{h:ac}{t i:Nat}(a:aX h [])(c:i<h.O.length)(d:t<h.T.length):JK h (freeOb h t i).1:=by
 unfold Ab.freeOb;split
 ·rename_i b
  obtain⟨l,e,h1,-⟩:=(dL a (au c)).1 b;exact JK.freeL a (uh e h1).1
 rename_i b;split
 ·exact JK.refl h
 have h1:=a.inQuar c b;exact JK.trans (h1:=Ab.inQuar h i) (JK.eq rfl rfl rfl rfl) (JK.recycs (E:=[]) (by rw[List.append_nil];exact h1) d)
def JK.take{k sd:Int}(b:fe h (nth h.K i).R=false):JK h {h with b3:=sd,K:=h.K.set i (tF (nth h.K i) k)}:=by
 refine⟨rfl,rfl,λs c a=>?_,λq d=>.inl ⟨d,rfl⟩⟩;obtain⟨j,f,rfl⟩:=aN c;exact⟨_,kH _ f λe=>(by subst e;rw[b]at a;cases a),rfl,λ_ z=>z⟩
def th{t:aL}{q:Nat}(h:(nth t.J q).e≠0):q<t.J.length:=by
 by_cases e:q<t.J.length
 ·exact e
 exfalso;apply h;unfold nth;rw[Y3,X3 ω]
 rfl
def JK.addS{h:ac}{k:am}{l:List aC}{p c:Int}(s:ww h.G p (k,true)):JK h (addS h k l p c):=by
 obtain⟨f,t,w,d,n⟩:=s.yes rfl;have b:k.F.Q.J.length=h.G.F.Q.J.length:=s.len;refine⟨rfl,rfl,λz o _=>⟨z,cL.2 (.inr o),rfl,λ_ y=>y⟩,λq g=>?_⟩;change (nth k.F.Q.J q).e≠0 at g;show((nth h.G.F.Q.J q).e≠0/\(nth k.F.Q.J q).j=(nth h.G.F.Q.J q).j)\/∀u:Nat,(nth k.F.Q.J u).e≠0->(nth k.F.Q.J u).j=(nth k.F.Q.J q).j->u=q
 by_cases e:(q:Int)=p
 ·refine .inr λu i a=>?_
  have j:=th i;have f3u:=d u;have f3q:=d q;simp only at f3u f3q;rw[CD e]at f3q;rw[f3q]at a;by_cases r:(u:Int)=p
  ·omega
  rw[CC r]at f3u;rw[f3u]at i a;exact absurd a (n u (by rw[<-b];exact j) i)
 have f3q:=d q;simp only at f3q;rw[CC e]at f3q;rw[f3q]at g |-;exact .inl ⟨g,rfl⟩
def JK.addL{h:ac}{k:am}{g:List aC}{p size t:Int}{n:Nat}(s:lv h.G p n (k,n)):JK h (addL h k g p n size t):=by
 have a:k.F.Q.J.length=h.G.F.Q.J.length:=s.len;refine⟨rfl,rfl,λz i _=>⟨z,i,rfl,λ_ y=>y⟩,λq b=>?_⟩;change (nth k.F.Q.J q).e≠0 at b;show((nth h.G.F.Q.J q).e≠0/\(nth k.F.Q.J q).j=(nth h.G.F.Q.J q).j)\/∀u:Nat,(nth k.F.Q.J u).e≠0->(nth k.F.Q.J u).j=(nth k.F.Q.J q).j->u=q
 by_cases e:p<=q/\(q:Int)<p+n
 ·exact .inr λu d c=>(s.new q e.1 e.2).2 u (by rw[<-a];exact th d) d c
 have f:=s.out q e;simp only at f;rw[f]at b |-;exact .inl ⟨b,rfl⟩
def uY(h:ac):∀{n:Nat},n<=h.K.length->∀s∈jh h n,(bB h s.R).length=1
 | 0,_,s,a=>by cases a
 | n+1,b,s,a=>by
  unfold jh at a;split at a
  ·rename_i e
   rcases I4.1 a with a|a
   ·exact uY h ω s a
   unfold qU at e;simp only[I0,C0]at e;rw[C2.1 a];exact e.2
  exact uY h ω s a
def aX.sole(e:aX h E)(f:s∈h.K)(h1:(bB h s.R).length=1):oY (tbl h) s.R:=λq a g=>by
 obtain⟨k,l,b⟩:=e.mapped f;have i:s.R=((s.R.toNat:Nat):Int):=ω
 rw[i,fC (by show s.R.toNat<(tbl h).J.length;omega) b]at h1;obtain⟨z,j⟩:=List.length_eq_one_iff.1 h1;have c:(s.R.toNat:Int)∈pagesOn (tbl h) (nth (tbl h).J s.R.toNat).j:=eR.2 ⟨ω,b,rfl⟩;have d:(q:Int)∈pagesOn (tbl h) (nth (tbl h).J s.R.toNat).j:=eR.2 ⟨th a,a,g⟩;rw[j]at c d;simp only[C2]at c d;omega
def Kt(hi:aX h [])(l:h.k=false):aX (started h).1 []/\JI (started h).1:=by
 have F:=hi.nums;unfold cT at F;rw[C0]at F;have L:=(lW (bv h).length (show 0<=h.b3/\h.b3<=1073741823 by omega) ((bv h).length - 1)).2;have n:=nP (bv h) (show 0<=h.b3/\h.b3<=1073741823 by omega);have c:cT {h with b3:=(shuf (bv h).length h.b3).2} = true:=by
  unfold cT;rw[C0];unfold shuf;simp only;omega
 cases o:mN (bv h) h.b3 with
 | nil=>
  have f:Ab.started h=({h with b3:=(shuf (bv h).length h.b3).2},false):=by unfold Ab.started;rw[o]
  rw[f];exact⟨{hi with nums:=c},⟨λe=>by simp[l]at e,λe=>by simp[l]at e,λe=>by simp[l]at e,λe=>by simp[l]at e⟩⟩
 | cons q Q=>
  obtain⟨R,S,g⟩:=n q (by rw[o];exact X2 ..);have f:Ab.started h=({h with b3:=(shuf (bv h).length h.b3).2,k:=true,Y:=FQ (cR (nth (bv h) q.A.toNat) (nth (bv h) q.B.toNat))},true):=by unfold Ab.started;rw[o]
  rw[f];have d:∀s∈bv h,s∈h.K/\oY (tbl h) s.R:=λs M=>by
   have G:=List.mem_of_mem_take M;have H:=ns h (O4 _) s G;exact⟨H,hi.sole H (uY h (O4 _) s G)⟩
  have j:=d _ (au (xs:=bv h) (i:=q.A.toNat) ω);have k:=d _ (au (xs:=bv h) (i:=q.B.toNat) ω);generalize nth (bv h) q.A.toNat=a at g j |-;generalize nth (bv h) q.B.toNat=b at g k |-;obtain⟨N,T,U⟩:=uA g;have p:(cR a b).a3=a.R/\(cR a b).a0=b.R\/(cR a b).a3=b.R/\(cR a b).a0=a.R:=by
   unfold cR;split
   ·exact .inr ⟨rfl,rfl⟩
   exact .inl ⟨rfl,rfl⟩
  have r:lu (FQ (cR a b))=true:=dM.2 ⟨N,by show(0:Int)<=0;omega,by show(0:Int)<=5;omega,by show(0:Int)<=0;omega,by show(0:Int)<=(((cR a b).V.length:Nat):Int);omega⟩;have t:∃x∈h.K,∃y∈h.K,x.R=(cR a b).a3/\y.R=(cR a b).a0/\meshable x y=true/\oY (tbl h) x.R/\oY (tbl h) y.R:=by
   rcases p with⟨u,w⟩|⟨u,w⟩
   ·exact⟨a,j.1,b,k.1,u.symm,w.symm,g,j.2,k.2⟩
   exact⟨b,k.1,a,j.1,u.symm,w.symm,by rw[hO];exact g,k.2,j.2⟩
  obtain⟨x,J,y,K,C,D,E,O,P⟩:=t;exact⟨{hi with nums:=c,job:=λ_=>⟨r,⟨x,J,C⟩,⟨y,K,D⟩⟩,noj:=λe=>by cases e},⟨λ_=>⟨by show(0:Int)<=0;omega,by show(0:Int)<=3;omega⟩,λ_=>⟨x,J,y,K,C,D,E⟩,λ_=>by show oY (tbl h) (cR a b).a3;rw[<-C];exact O,λ_=>by show oY (tbl h) (cR a b).a0;rw[<-D];exact P⟩⟩
def gv(m:aM)(f:Nat):aM:=⟨m.U.set f ((nth m.U f).drop 1),m.u.set (nth (nth m.U f) 0).To.toNat (nth m.u (nth (nth m.U f) 0).To.toNat++[(nth (nth m.U f) 0).Addr])⟩
def mg(m:aM)(t:Nat):aM:=⟨m.U,m.u.set t []⟩
def jt(m:aM)(f:Nat)(p:cW):aM:=⟨m.U.set f (nth m.U f++[p]),m.u⟩
variable{m:aM}
def eY : bU m=true↔(1<=m.U.length/\m.U.length<=4/\m.u.length=m.U.length)/\(∀i,i<m.U.length->(∀p∈nth m.U i,0<=p.To/\p.To<=(m.U.length:Int) - 1/\0<=p.Addr)/\∀a∈nth m.u i,0<=a)/\bA m m.U.length<=30:=by
 unfold bU;simp only[I0,C0,cC,ib,X5,oB,RU];exact and_assoc
def pE(m:aM)(f t:Nat)(x:List cW)(y:List Int)(g:f<m.U.length)(h:t<m.u.length):∀n:Nat,bA ⟨m.U.set f x,m.u.set t y⟩ n=bA m n+(if f<n then(x.length:Int) - ((nth m.U f).length:Nat) else 0)+(if t<n then(y.length:Int) - ((nth m.u t).length:Nat) else 0)
 | 0=>by simp[bA]
 | n+1=>by
  have i:=pE m f t x y g h n;have j:(nth (m.U.set f x) n).length=if f=n then x.length else(nth m.U n).length:=by
   rw[bz];by_cases e:f=n
   ·rw[CD ⟨e,ω⟩,CD e]
   rw[CC λz=>e z.1,CC e]
  have k:(nth (m.u.set t y) n).length=if t=n then y.length else(nth m.u n).length:=by
   rw[bz];by_cases e:t=n
   ·rw[CD ⟨e,ω⟩,CD e]
   rw[CC λz=>e z.1,CC e]
  simp only[bA,i,j,k];by_cases d:f=n
  ·subst d
   by_cases b:t=f
   ·subst b
    simp only[if_true,Nat.lt_irrefl,if_false,Nat.lt_succ_self];omega
   simp only[if_true,Nat.lt_irrefl,if_false,Nat.lt_succ_self,CC b];by_cases a:t<f
   ·rw[CD a,CD (show t<f+1 by omega)];omega
   rw[CC a,CC (show ¬t<f+1 by omega)];omega
  by_cases b:t=n
  ·subst b
   simp only[if_true,Nat.lt_irrefl,if_false,Nat.lt_succ_self,CC d];by_cases a:f<t
   ·rw[CD a,CD (show f<t+1 by omega)];omega
   rw[CC a,CC (show ¬f<t+1 by omega)];omega
  simp only[CC d,CC b];by_cases a:f<n
  ·rw[CD a,CD (show f<n+1 by omega)]
   by_cases c:t<n
   ·rw[CD c,CD (show t<n+1 by omega)];omega
   rw[CC c,CC (show ¬t<n+1 by omega)];omega
  rw[CC a,CC (show ¬f<n+1 by omega)];by_cases c:t<n
  ·rw[CD c,CD (show t<n+1 by omega)];omega
  rw[CC c,CC (show ¬t<n+1 by omega)];omega
def Ed[Inhabited α]{xs:List α}(h:i<xs.length):xs.set i (nth xs i)=xs:=by
 rw[<-O3.1 (ax h) |>.2];exact List.set_getElem_self h
def PG(h:bU m=true)(d:f<m.U.length)(n:0<(nth m.U f).length):bU (gv m f)=true:=by
 obtain⟨⟨o,q,r⟩,g,y⟩:=eY.1 h;obtain⟨t,A⟩:=g f d;have c:=t _ (au n);have u:(nth (nth m.U f) 0).To.toNat<m.u.length:=ω
 refine eY.2 ⟨⟨?_,?_,?_⟩,λi j=>?_,?_⟩
 ·simp only[gv,I2];exact o
 ·simp only[gv,I2];exact q
 ·simp only[gv,I2];exact r
 ·simp only[gv,I2]at j |-
  obtain⟨k,l⟩:=g i j;simp only[bz];refine⟨λp c=>?_,λa b=>?_⟩
  ·split at c
   ·rename_i e;rw[<-e.1]at k
    refine(g f d).1 p (List.mem_of_mem_drop c)
   exact k p c
  split at b
  ·rename_i e
   rcases I4.1 b with b|b
   ·rw[e.1]at b;exact l a b
   rw[C2.1 b];exact c.2.2
  exact l a b
 have w:=pE m f (nth (nth m.U f) 0).To.toNat ((nth m.U f).drop 1) (nth m.u (nth (nth m.U f) 0).To.toNat++[(nth (nth m.U f) 0).Addr]) d u m.U.length;simp only[gv,I2];rw[w,CD d,CD ω,Y4,X4,List.length_singleton];omega
def TO(h:bU m=true)(d:t<m.u.length):bU (mg m t)=true:=by
 obtain⟨⟨e,f,g⟩,j,o⟩:=eY.1 h;refine eY.2 ⟨⟨e,f,?_⟩,λi k=>?_,?_⟩
 ·simp only[mg,I2];exact g
 ·obtain⟨l,n⟩:=j i k
  simp only[mg,bz];refine⟨l,λa b=>?_⟩;split at b
  ·cases b
  exact n a b
 have c:=pE m t t (nth m.U t) [] ω d m.U.length;rw[Ed ω]at c;show bA ⟨m.U,m.u.set t []⟩ m.U.length<=30;rw[c,CD ω,CD ω,List.length_nil];omega
def lP(h:bU m=true)(b:Int):(aY m).count b=(m.U.flatMap λl=>l.map (·.Addr)).count b+(m.u.flatMap λx=>x).count b:=by
 unfold aY;rw[CD h,S8,m0]
def aX.mailed{c:List Int}(d:aX h E)(i:bU m=true)(j:m.U.length=h.a1.U.length)(k:∀b,c.count b+(aY m).count b=E.count b+(aY h.a1).count b)(f:∀a,a∈c\/a∈aY m->jT h.K a (-1)):aX {h with a1:=m} c:=by
 have g:(E++holders h).Perm (c++holders {h with a1:=m}):=by
  refine List.perm_iff_count.2 λb=>?_
  have l:=k b;simp only[holders,cJ,S8];omega
 exact {d with
   mail:=i
   nc:=d.nc.trans j.symm
   hfl:=λa e=>f a (.inr e)
   hin:=λa e=>f a (.inl e)
   nd:=g.nodup_iff.1 d.nd
   mem:=λb=>by rw[<-g.mem_iff];exact d.mem b}
def Jl{d:List Int}(f:aX h E)(g:∀b,d.count b+(aY m).count b=E.count b+(aY h.a1).count b):∀a,a∈d\/a∈aY m->jT h.K a (-1):=λa c=>by
 have i:=g a;have j:0<d.count a+(aY m).count a:=by
  rcases c with c|c
  ·have:=List.count_pos_iff.2 c;omega
  have:=List.count_pos_iff.2 c;omega
 by_cases e:0<E.count a
 ·exact f.hin a (List.count_pos_iff.1 e)
 exact f.hfl a (List.count_pos_iff.1 ω)
def aX.deliv(a:aX h E)(e:f<h.a1.U.length)(d:0<(nth h.a1.U f).length):aX {h with a1:=gv h.a1 f} E:=by
 have c:=PG a.mail e d;obtain⟨⟨q,r,t⟩,j,u⟩:=eY.1 a.mail;have k:=(j f e).1 _ (au d);have g:∀b,E.count b+(aY (gv h.a1 f)).count b=E.count b+(aY h.a1).count b:=λb=>by
  rw[lP c,lP a.mail];have i:=jg (λl:List cW=>l.map (·.Addr)) b h.a1.U f ((nth h.a1.U f).drop 1) e;have n:=jg (λx:List Int=>x) b h.a1.u (nth (nth h.a1.U f) 0).To.toNat (nth h.a1.u (nth (nth h.a1.U f) 0).To.toNat++[(nth (nth h.a1.U f) 0).Addr]) ω;have o:(nth h.a1.U f).map (·.Addr)=(nth (nth h.a1.U f) 0).Addr::((nth h.a1.U f).drop 1).map (·.Addr):=by
   generalize nth h.a1.U f=l at d
   match l,d with
   | p::l,_=>rfl
  simp only[gv];rw[o]at i;simp only[List.count_cons]at i;simp only[S8,List.count_singleton]at n;omega
 exact a.mailed c (by simp[gv]) g (Jl a g)
def aX.coll(c:aX h E)(d:t<h.a1.u.length):aX {h with a1:=mg h.a1 t} (nth h.a1.u t++E):=by
 have a:=TO c.mail d;have e:∀b,(nth h.a1.u t++E).count b+(aY (mg h.a1 t)).count b=E.count b+(aY h.a1).count b:=λb=>by
  rw[lP a,lP c.mail];have f:=jg (λx:List Int=>x) b h.a1.u t [] d;simp only[List.count_nil]at f;simp only[mg,S8];omega
 exact c.mailed a rfl e (Jl c e)
def aX.send{p:cW}(c:aX h (p.Addr::E))(e:f<h.a1.U.length)(a:bU (jt h.a1 f p)=true):aX {h with a1:=jt h.a1 f p} E:=by
 have d:∀b,E.count b+(aY (jt h.a1 f p)).count b=(p.Addr::E).count b+(aY h.a1).count b:=λb=>by
  rw[lP a,lP c.mail];have g:=jg (λl:List cW=>l.map (·.Addr)) b h.a1.U f (nth h.a1.U f++[p]) e;simp only[C8,O8,List.map_nil,S8,List.count_singleton]at g;simp only[jt,List.count_cons];omega
 exact c.mailed a (by simp[jt]) d (Jl c d)
def rE(now:Int):List aO->Nat
 | []=>0
 | x::xs=>if x.b5<now - 100 then rE now xs+1 else 0
def aged(h:ac)(n:Int):ac:={h with b1:=h.b1+n,a7:=⟨h.a7.b7,h.a7.a5.drop (rE (h.b1+n) h.a7.a5)⟩}
def o9(h:ac)(n:Int):List Int:=(h.a7.a5.take (rE (h.b1+n) h.a7.a5)).map (·.Addr)
def tick(h:ac)(n:Int):ac:=freeAs (aged h n) (o9 h n)
def pA(x:aO)(xs:List aO):∀n,quarCells (x::xs) (n+1)=csz x.d+quarCells xs n
 | 0=>by simp only[quarCells];show 0+csz x.d=csz x.d+0;omega
 | n+1=>by
  rw[jD,pA x xs n,jD];show csz x.d+quarCells xs n+csz (nth xs n).d=_;omega
def UH(k:Int):0<=csz k:=by
 unfold csz;split
 ·exact Int.le_of_lt (Int.pow_pos (by decide))
 decide
def L1:∀(l:List aO)(k:Nat),qc (l.drop k)<=qc l
 | [],k=>by simp
 | x::xs,0=>C7 _
 | x::xs,k+1=>by
  have a:=L1 xs k;have b:=UH x.d;have c:qc (x::xs)=csz x.d+qc xs:=pA x xs xs.length;show qc (xs.drop k)<=qc (x::xs);omega
def aX.aged{h:ac}{E:List Int}{n:Int}(a:aX h E)(t:0<=n)(u:h.b1+n<=1000000):aX (aged h n) (o9 h n++E):=by
 obtain⟨i,j,k,o,p,q⟩:=k6.1 a.quar;have c:=a.nums;unfold cT at c;rw[C0]at c;have e:=List.drop_sublist (rE (h.b1+n) h.a7.a5) h.a7.a5;have g:(E++holders h).Perm ((o9 h n++E)++holders (Ab.aged h n)):=by
  refine List.perm_iff_count.2 λb=>?_
  have r:=C1 (λl:List aO=>(l.map (·.Addr)).count b) (List.take_append_drop (rE (h.b1+n) h.a7.a5) h.a7.a5);simp only[C8,S8]at r;simp only[holders,cJ,Ab.aged,o9,S8];omega
 exact {a with
   nums:=by unfold cT;rw[C0];simp only[Ab.aged];omega
   quar:=k6.2 ⟨λy d=>i y (e.subset d),j.sublist e,k.sublist (e.map _),o,p,Int.le_trans (L1 _ _) q⟩
   snc:=λy d=>by
     have:=a.snc y (e.subset d);show y.b5<=h.b1+n;omega
   hqu:=λy d=>a.hqu y (e.subset d)
   hin:=λb f=>by
     rcases I4.1 f with f|f
     · obtain⟨y,d,rfl⟩:=C6.1 f
       exact(a.hqu y (List.mem_of_mem_take d)).any
     exact a.hin b f
   nd:=g.nodup_iff.1 a.nd
   mem:=λb=>by rw[<-g.mem_iff];exact a.mem b}
def aX.tick{h:ac}{n:Int}(a:aX h [])(b:0<=n)(c:h.b1+n<=1000000):aX (tick h n) []/\JK h (tick h n):=by
 have h1:=a.aged b c;exact⟨aX.freeAs h1,JK.trans (h1:=Ab.aged h n) (JK.eq rfl rfl rfl rfl) (JK.freeAs h1)⟩
def collect(h:ac)(t:Nat):ac:=recycs t {h with a1:=mg h.a1 t} (nth h.a1.u t)
def aX.collect{h:ac}{t:Nat}(a:aX h [])(b:t<h.T.length):aX (collect h t) []/\JK h (collect h t):=by
 have h1:=a.coll (t:=t) (by rw[(eY.1 a.mail).1.2.2,<-a.nc];exact b);exact⟨aX.recycs h1 b,JK.trans (h1:={h with a1:=mg h.a1 t}) (JK.eq rfl rfl rfl rfl) (JK.recycs h1 b)⟩
def Bi(h:ac)(t i:Nat):ac:={h with G:=fA h.G (nth h.O i).Addr (csz (aP (nth h.O i).q)).toNat,O:=dele h.O i,a1:=jt h.a1 t ⟨(nth h.O i).y,(nth h.O i).Addr⟩}
def freeT(h:ac)(t i:Nat):ac × Int:=
 if aP (nth h.O i).q<0 then(freeL h i (wx h (nth h.O i).Addr),0)
 else if(af (tbl h) ((nth h.O i).Addr / 16)).e=1 then(h,5)
 else if(nth h.O i).y=t then(GN h t i,0)
 else if bU (jt h.a1 t ⟨(nth h.O i).y,(nth h.O i).Addr⟩)=true then(Bi h t i,0) else(h,5)
def BF(e:(nth h.O i).y=t):freeT h t i=freeOb h t i:=by
 unfold freeT freeOb;rw[CD e]
def aX.freeT{h:ac}{t i:Nat}(a:aX h [])(b:i<h.O.length)(c:t<h.T.length):aX (freeT h t i).1 []/\JK h (freeT h t i).1:=by
 by_cases e:(nth h.O i).y=t
 ·rw[BF e];exact⟨a.freeOb b c,JK.freeOb a b c⟩
 have d:=a.freeOb b c;have f:=JK.freeOb a b c;unfold Ab.freeOb at d f;unfold Ab.freeT;split
 ·rename_i g
  rw[CD g]at d f;exact⟨d,f⟩
 rename_i g;rw[CC g]at d f;split
 ·exact⟨a,JK.refl h⟩
 split
 ·rename_i j
  obtain⟨⟨s,l,n,o⟩,u⟩:=(dL a (au b)).2 g;have q:=a.dropO b (jT.any ⟨s,l,n,.inr o⟩);have r:=q.cells (k:=fA h.G (nth h.O i).Addr (csz (aP (nth h.O i).q)).toNat) (GK a.ker _ _) rfl;exact⟨aX.send (p:=⟨(nth h.O i).y,(nth h.O i).Addr⟩) r (by show t<h.a1.U.length;rw[<-a.nc];exact c) j,JK.eq rfl rfl rfl rfl⟩
 exact⟨a,JK.refl h⟩
def dD(k:am)(a v:Int):am:=setCell k (dG k a) (a % 16) v
def yv(h:aF k=true)(b:(af k.F.Q (a / 16)).e≠0)(c:0<=v/\v<=999):aF (dD k a v)=true:=by
 obtain⟨d,e,-⟩:=gW h b;exact rZ h (f:=dG k a) d e c
def aX.store(b:aX h [])(c:(af h.G.F.Q (a / 16)).e≠0)(d:0<=v/\v<=999):aX {h with G:=dD h.G a v} []/\JK h {h with G:=dD h.G a v}:=
 ⟨b.cells (yv b.ker c d) rfl,JK.eq rfl rfl rfl rfl⟩
def Rw.two{c:List C}{off k d e b:Nat}{K:List C->Nat->Prop}{o f:dQ}{rows rows2:List (List C)}{r a:List C}(h1:c[off]? = some (.s o rows))(g:rows[i]? = some r)(h:r.length=k)(l:r[j]? = some (.s f rows2))(n:rows2[d]? = some a)(p:a.length=e)(q:K a b):Rw c off [(i,k,j),(d,e,b)] K:=
 Rw.mk (r:=a) (j:=b) (by simp[co,h1,g,h,l,n,p]) q
def pV{j:dE} : jmay k j=true↔(aF k=true/\k.Calls≠100000)/\lu j=true/\(af k.F.Q j.W.a3).e≠0/\(af k.F.Q j.W.a0).e≠0/\(af k.F.Q j.W.a3).j≠(af k.F.Q j.W.a0).j:=by
 unfold jmay;simp only[I0,C0]
def po{p:cH}(h:fj p=true):p.V.length<=16:=by
 unfold fj at h;simp only[I0]at h;have a:∀i,i<p.V.length->(i:Int)<=nth p.V i:=λi=>by
  induction i with
  | zero=>
   intro a;have:=fw h.1 a;unfold mX at this;rw[C0]at this;exact this.1
  | succ i b=>
   intro a;have c:=b ω;have:=fw h.1 a;unfold mX at this;rw[C0]at this;have d:=this.2.2.resolve_left ω;rw[Nat.add_sub_cancel]at d;omega
 by_cases e:p.V.length<=16
 ·exact e
 exfalso;have c:=a 16 ω;have:=fw h.1 (show 16<p.V.length by omega);unfold mX at this;rw[C0]at this;omega
def Bk{j:dE}(h:lu j=true):dE.sml j:=by
 have:=po (dM.1 h).1;show j.W.V.length<=1048576;omega
def kg(h:aF k=true):df k.F=true:=by
 unfold aF at h;simp only[I0]at h;exact h.1.2
def LL{k:Int} : ∀{l s s2 c:List Int}(n:Nat),(∀x∈s2,x∈s)->sI k s l=some c->∃d,sI k s2 (l.take n)=some d/\∀x∈d,x∈c
 | [],s,s2,c,n,h,e=>by
  simp only[sI,I1,List.take_nil]at e |-;subst e;exact⟨s2,rfl,h⟩
 | a::l,s,s2,c,0,h,e=>⟨s2,rfl,λx b=>(pv (λ_ y=>y) e).1 x (h x b)⟩
 | a::l,s,s2,c,n+1,h,e=>by
  simp only[List.take_succ_cons,sI]at e |-;split at e
  ·rename_i g
   rw[CD (show good k s2 a from⟨g.1,g.2.1,g.2.2.1,λx=>g.2.2.2 (h a x)⟩)];exact LL (l:=l) (s:=s++[a]) (s2:=s2++[a]) n (λx b=>by
     rcases I4.1 b with b|b
     · exact I4.2 (.inl (h x b))
     exact I4.2 (.inr b)) e
  cases e
def Gb:∀{a:List (List Int)}{k:Nat}{s s2:List Int}(i n:Nat),(∀x∈s2,x∈s)->(gI k s a).isSome=true->(gI k s2 (a.set i ((nth a i).take n))).isSome=true
 | [],_,_,_,_,_,_,_=>rfl
 | l::a,k,s,s2,i,n,h,e=>by
  simp only[gI,fF]at e;split at e
  ·rename_i g
   cases b:sI k s l with
   | none=>rw[b]at e;cases e
   | some j=>
    rw[b]at e;cases i with
    | zero=>
     obtain⟨c,d,f⟩:=LL n h b;simp only[List.set_cons_zero,gI,fF];rw[CD ⟨by have:=g.1;simp only[nth,List.getD_cons_zero,O2];omega,g.2⟩];show((sI (k:Nat) s2 (l.take n)).bind λj=>gI (k+1) j a).isSome=true;rw[d];exact uW f e
    | succ i=>
     obtain⟨o,c,d,f⟩:=pv h b;simp only[List.set_cons_succ,gI,fF];rw[CD g,d];exact Gb i n f e
  cases e
def L2{c:aE}(h:bI c=true)(k:Nat):bI (rG c k)=true:=by
 unfold bI at h |-;simp only[I0,C0]at h |-;exact⟨by simp only[rG,I2];exact h.1,Gb k _ (λ_ h=>h) h.2⟩
def pG(b:Int):Nat->List Int
 | 0=>[]
 | j+1=>if aT b (j:Nat)=true then pG b j else pG b j++[((j:Nat):Int)]
def uq{b:Int} : ∀{n:Nat}{z:Int},z∈pG b n->0<=z/\z<n/\aT b z=false
 | 0,_,h=>by cases h
 | n+1,z,h=>by
  unfold pG at h;split at h
  ·have:=uq h;exact⟨this.1,ω,this.2.2⟩
  rename_i e;rcases I4.1 h with h|h
  ·have:=uq h;exact⟨this.1,ω,this.2.2⟩
  rw[C2.1 h];exact⟨ω,ω,by simpa using e⟩
def ve(b:Int):∀n,(pG b n).length<=n
 | 0=>O4 _
 | n+1=>by have:=ve b n;unfold pG;split<;>simp<;>omega
def rR(k b:Int):List Int:=if P9 k b=true then pG b (slots k).toNat else []
def lg(h:ac)(i:Nat):List Int:=rR (nth h.K i).d (gk h i)
def xB{k z:Int}(h:z∈rR k b):0<=z/\z<slots k/\aT b z=false:=by
 unfold rR at h;split at h
 ·have:=uq h;exact⟨this.1,ω,this.2.2⟩
 cases h
def Kr(k b:Int):(rR k b).length<=16:=by
 unfold rR;split
 ·rename_i h
  unfold P9 at h;rw[C0]at h;have:=(jM (k:=k) ⟨h.1,h.2.1⟩).2.2.1;have:=ve b (slots k).toNat;omega
 exact Z0 _
def B5(h:ac)(i:Nat):Int:=nth (lg h i) (H7 h.b3 ((lg h i).length:Nat)).toNat
def slotT(h:ac)(i:Nat):ac:={h with b3:=Aa h.b3,K:=h.K.set i (tF (nth h.K i) (B5 h i))}
def vX(h:ac)(i:Nat):Int:=16*(nth h.K i).R+B5 h i*csz (nth h.K i).d
def Bo(a:0<(lg h i).length):B5 h i∈lg h i:=by
 have:=rP h.b3 (n:=((lg h i).length:Nat)) ω;exact au ω
def aX.slotT{h:ac}{E:List Int}{i:Nat}(a:aX h E)(b:i<h.K.length)(e:0<(lg h i).length):aX (slotT h i) (vX h i::E)/\jT (slotT h i).K (vX h i) (nth h.K i).d:=by
 obtain⟨c,d,f⟩:=xB (Bo e);exact⟨a.take b ⟨c,d⟩ f (Ey _),(jT.setS a.L b ⟨c,d⟩ _ _).2 (.inr ⟨rfl,.inr rfl⟩)⟩
def tJ(h:ac)(c:Int)(i:Nat):Bool:=decide ((nth h.K i).d=c)&&(!fe h (nth h.K i).R&&decide (0<(lg h i).length))
def uE(h:ac)(c:Int):Option Nat:=(List.range h.K.length).find? (tJ h c)
def pU(h:ac)(c:Int):ac:=addS h (newK h.G (ay h.o 1).2.1).1 (ay h.o 1).1 (ay h.o 1).2.1 c
def pm(h:ac):Nat:=kU (GT (ay h.o 1).2.1) h.K
def oT(h:ac)(i:Nat):ac × Int:=if(lg h i).length=0 then(h,-1) else(slotT h i,vX h i)
def smallA(h:ac)(t c:Nat):ac × Int:=
 if 0<(nth (nth h.T t).a c).length then({h with T:=h.T.set t (rG (nth h.T t) c)},nth (nth (nth h.T t).a c) ((nth (nth h.T t).a c).length - 1))
 else match uE h c with
 | some i=>(slotT h i,vX h i)
 | none=>if(ay h.o 1).2.2=false then(h,-1)
  else if(newK h.G (ay h.o 1).2.1).2=false then({h with G:=(newK h.G (ay h.o 1).2.1).1},-1)
  else oT (pU h c) (pm h)
def E9[Inhabited α](p:α->Bool)(xs:List α)(y:α):kU p xs<(jG p xs y).length/\nth (jG p xs y) (kU p xs)=y:=by
 have b:=TB p xs;have a:(xs.take (kU p xs)).length=kU p xs:=by rw[O2];omega
 refine⟨by rw[(lL p xs y).length_eq,List.length_cons];omega,bk ?_⟩;unfold jG;rw[S6 ω,a,Nat.sub_self]
 rfl
def aX.tEq{h:ac}{E:List Int}(a:aX h E){k:am}(c:aF k=true)(b:tEq (tbl h) k.F.Q):aX {h with G:=k} E/\JK h {h with G:=k}:=
 ⟨a.step (j:=h.Y) (m:=h.k) c b.1 (a.pg.tEq b) a.job a.noj,⟨rfl,rfl,λs d _=>⟨s,d,rfl,λ_ z=>z⟩,λq e=>.inl ⟨(b.2 q).1.1 e,(b.2 q).2⟩⟩⟩
structure Vy(h:ac)(c:Int)(r:ac × Int):Prop where
 no:r.2<0->aX r.1 []
 yes:0<=r.2->aX r.1 [r.2]/\jT r.1.K r.2 c
 jk:JK h r.1
 nx:r.1.b=h.b
 cl:r.1.T.length=h.T.length
def jT.nn(b:aX h E)(d:jT h.K a c):0<=a:=(jT.bd b d).1
def Vy.slot(g:aX h' [])(j:i<h'.K.length)(k:0<(lg h' i).length)(l:(nth h'.K i).d=c)(n:JK h h')(a:fe h' (nth h'.K i).R=false)(h1:h'.b=h.b)(o:h'.T.length=h.T.length):Vy h c (slotT h' i,vX h' i):=by
 obtain⟨d,f⟩:=g.slotT j k;have b:=jT.nn d f;exact⟨λe=>absurd b (by simp only at e;omega),λ_=>⟨d,by rw[<-l];exact f⟩,n.trans (JK.take a),h1,o⟩
def qM{c:Nat}(a:aX h [])(q:t<h.T.length)(P:c<=3)(B:h.G.Calls<=90000):Vy h c (smallA h t c):=by
 have f:=a.cach _ (au q);have C:=mL f;unfold smallA;split
 ·rename_i D
  obtain⟨d,b⟩:=a.pop q ω D (L2 f c);have l:=jT.nn a b;exact⟨λe=>absurd l (by simp only at e;omega),λ_=>⟨d,b⟩,JK.eq rfl rfl rfl rfl,rfl,I2 ..⟩
 split
 ·rename_i i r
  have g:=List.find?_some r;have E:=List.mem_range.1 (List.mem_of_find?_eq_some r);unfold tJ at g;simp only[I0,C0,Bool.not_eq_true']at g;exact Vy.slot a E g.2.2 g.1 (JK.refl h) g.2.1 rfl rfl
 split
 ·exact⟨λ_=>a,λe=>absurd e (by show ¬(0:Int)<=-1;decide),JK.refl h,rfl,rfl⟩
 rename_i F;have j:(ay h.o 1).2.2=true:=by simpa using F
 obtain⟨G,H,J,u⟩:=kv a (C7 1) j;have s:=ww.of (p:=(ay h.o 1).2.1) a.ker ω ⟨G,by have:(ay h.o 1).2.1+1<=(h.G.F.Q.J.length:Nat):=H;omega⟩ (J _ ω ω);split
 ·rename_i n
  rw[s.no n];obtain⟨d,b⟩:=a.tEq (nq a.ker ω) (tEq.refl _);exact⟨λ_=>d,λe=>absurd e (by show ¬(0:Int)<=-1;decide),b,rfl,rfl⟩
 rename_i n;have o:(newK h.G (ay h.o 1).2.1).2=true:=by simpa using n
 have w:ww h.G (ay h.o 1).2.1 ((newK h.G (ay h.o 1).2.1).1,true):=by rw[<-o];exact s
 have d:=a.addS (c:=c) ⟨ω,ω⟩ j w;have b:JK h (pU h c):=JK.addS w;obtain⟨K,A⟩:=E9 (GT (ay h.o 1).2.1) h.K ⟨(ay h.o 1).2.1,c,0⟩;unfold oT;split
 ·exact⟨λ_=>d,λe=>absurd e (by show ¬(0:Int)<=-1;decide),b,rfl,rfl⟩
 refine Vy.slot (h':=pU h c) (i:=pm h) d K ω (by show(nth (jG (GT (ay h.o 1).2.1) h.K ⟨(ay h.o 1).2.1,c,0⟩) (pm h)).d=_;unfold pm;rw[A]) b ?_ rfl rfl;show fe (pU h c) (nth (jG (GT (ay h.o 1).2.1) h.K ⟨(ay h.o 1).2.1,c,0⟩) (pm h)).R=false;unfold pm;rw[A,b.pg];rw[<-X7];intro k;unfold fe at k;simp only[I0,Y8,C0]at k;obtain⟨-,⟨y,L,M⟩,⟨z,N,O⟩⟩:=a.job k.1;rcases k.2 with e|e
 ·exact u _ (C7 _) ω (by rw[e,<-M];exact dJ L)
 exact u _ (C7 _) ω (by rw[e,<-O];exact dJ N)
def iy(size:Int):Nat:=((size+15) / 16).toNat
def dZ(h:ac)(size:Int):am × Nat:=newsK h.G (ay h.o (iy size:Nat)).2.1 (iy size)
def largeA(h:ac)(t size:Int):ac × Int × Int:=
 if(ay h.o (iy size:Nat)).2.2=false then(h,-1,4)
 else if(dZ h size).2=iy size then(addL h (dZ h size).1 (ay h.o (iy size:Nat)).1 (ay h.o (iy size:Nat)).2.1 (iy size:Nat) size t,16*(ay h.o (iy size:Nat)).2.1,0)
 else({h with G:=unmN (dZ h size).1 (ay h.o (iy size:Nat)).2.1 (dZ h size).2},-1,4)
def u6(xs:List aU):Nat->Int
 | 0=>0
 | i+1=>u6 xs i+(nth xs i).q
def vz(h:ac):Int:=u6 h.O h.O.length
def allocH(h:ac)(t size:Int):ac × Int × Int:=
 if 1000000<=h.b\/90000<h.G.Calls then(h,-1,5)
 else if ¬(0<=t/\t<=h.T.length - 1) then(h,-1,1)
 else if ¬(1<=size/\size<=1000) then(h,-1,2)
 else if h.c0<vz h+size then(h,-1,3)
 else if 0<=aP size then(if(smallA h t.toNat (aP size).toNat).2<0 then((smallA h t.toNat (aP size).toNat).1,-1,4) else(addO (smallA h t.toNat (aP size).toNat).1 (smallA h t.toNat (aP size).toNat).2 size t,(smallA h t.toNat (aP size).toNat).2,0))
 else largeA h t size
variable{size:Int}
def Bj{t:Int}(a:aX h [])(g:9<=size/\size<=1000)(i:h.b<1000000)(j:h.G.Calls<=90000)(k:0<=t/\t<=h.T.length - 1):aX (largeA h t size).1 []/\JK h (largeA h t size).1:=by
 have l:(iy size:Int)=(size+15) / 16:=by unfold iy;omega
 unfold largeA;split
 ·exact⟨a,JK.refl h⟩
 rename_i o;have b:(ay h.o (iy size:Nat)).2.2=true:=by simpa using o
 obtain⟨c,d,e,w⟩:=kv a (show(1:Int)<=(iy size:Nat) by omega) b;have s:=lv.of (p:=(ay h.o (iy size:Nat)).2.1) (n:=iy size) a.ker ω ⟨c,d⟩ e (iy size) (O4 _);split
 ·rename_i q
  have f:lv h.G (ay h.o (iy size:Nat)).2.1 (iy size) ((dZ h size).1,iy size):=by
   have:((dZ h size).1,iy size)=dZ h size:=by rw[<-q]
   rw[this];exact s
  exact⟨a.addL g l b f i k,JK.addL f⟩
 obtain⟨r,u⟩:=s.undo a.ker ⟨c,d⟩ e;exact a.tEq r u
def Dg{t:Int}(a:aX h []):aX (allocH h t size).1 []/\JK h (allocH h t size).1:=by
 unfold allocH;split
 ·exact⟨a,JK.refl h⟩
 rename_i d;rw[not_or]at d;split
 ·exact⟨a,JK.refl h⟩
 rename_i n;split
 ·exact⟨a,JK.refl h⟩
 rename_i o;split
 ·exact⟨a,JK.refl h⟩
 split
 ·rename_i b
  have f:aP size<=3:=by unfold aP;repeat' split<;>omega
  have s:=qM (t:=t.toNat) (c:=(aP size).toNat) a ω ω ω;generalize smallA h t.toNat (aP size).toNat=r at s;split
  ·rename_i e;exact⟨s.no e,s.jk⟩
  rename_i e;obtain⟨g,i⟩:=s.yes ω;refine⟨g.addO (.inl ?_) (by rw[s.nx];omega) (by rw[s.cl];omega),s.jk.trans (JK.eq rfl rfl rfl rfl)⟩;obtain⟨z,j,k,p⟩:=i;exact⟨z,j,k,by show z.d=aP size;omega⟩
 rename_i b;have l:9<=size:=by
  unfold aP at b
  repeat' split at b<;>omega
 exact Bj a ⟨l,ω⟩ ω ω ω
end Go.Proofs.YtiopgblagimpmaaGreat.Ab
