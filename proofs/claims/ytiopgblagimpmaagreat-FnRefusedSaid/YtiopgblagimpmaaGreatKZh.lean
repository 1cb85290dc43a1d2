/- A job brought to its end, and one job after another: the data. No condition. -/
import Derived.Test.YtiopgblagimpmaaGreatKZc
import Derived.Test.YtiopgblagimpmaaGreatKZf
import Derived.Test.YtiopgblagimpmaaGreatKZg
import Derived.Test.YtiopgblagimpmaaGreatKZe
import Derived.Laws.StructEq
set_option linter.unusedVariables false
set_option linter.defProp false
set_option linter.unusedSimpArgs false
set_option linter.constructorNameAsVariable false
namespace Go.Proofs.YtiopgblagimpmaaGreat.Ab
def KD{k:ah}(h:aI k=true)(b:lQ k.a3):ah.wf k:=by
 obtain⟨p,f,g,q,t⟩:=aH.1 h;obtain⟨u,w,y,A⟩:=bi.1 f;obtain⟨i,B,C⟩:=bu.1 g;refine⟨⟨⟨⟨ω,λr b=>?_⟩,⟨ω,λ_ _=>tV1⟩⟩,⟨ω,λe l=>?_⟩⟩,⟨ω,ω⟩,b⟩
 ·obtain⟨j,c,rfl⟩:=aW b
  obtain⟨D,n⟩:=xl h c;exact⟨ω,λv o=>by have:=n v o;exact⟨ω,ω⟩⟩
 obtain⟨j,c,rfl⟩:=aW l;have a:=i j c;unfold nK at a;rw[C0]at a;by_cases d:(nth k.F.O.M j).e=0
 ·have:=a.2.2.1 d;exact⟨⟨ω,ω⟩,⟨ω,ω⟩⟩
 have:=a.2.2.2 d;exact⟨⟨ω,ω⟩,⟨ω,ω⟩⟩
theorem Qk{p:cL}(h:gc p=true):cL.wf p:=by
 have a:=λi b=>gx h (i:=i) b
 have e:p.T.length<=16:=oo h;unfold gc at h;simp only[I0,C0]at h;exact⟨⟨ω,ω⟩,⟨ω,ω⟩,⟨ω,λv c=>by
   obtain⟨j,d,rfl⟩:=aW c;have:=a j d;exact⟨ω,ω⟩⟩⟩
variable{E:List Int}{h:ac}
def aY.jobWf(a:aY h E):cY.wf h.a/\cY.sml h.a:=by
 cases b:h.q with
 | true=>
  obtain⟨c,f,g,i,j⟩:=dX.1 (a.job b).1;have k:=oo c;exact⟨⟨Qk c,⟨ω,ω⟩,⟨ω,ω⟩⟩,by show h.a.X.T.length<=1048576;omega⟩
 | false=>
  have:=a.noj b;unfold w6 at this;rw[C0]at this;obtain⟨l,n,e,o,p⟩:=this;refine⟨⟨⟨⟨ω,ω⟩,⟨ω,ω⟩,⟨ω,λv d=>?_⟩⟩,⟨ω,ω⟩,⟨ω,ω⟩⟩,by show h.a.X.T.length<=1048576;omega⟩;rw[OF e]at d;cases d
theorem Dh{n:Int}(h:0<=aN n):1<=n/\n<=8:=by grind [aN]
def k7.wf(b:aY h E){a c:Int}(d:k7 h.K a c):rx a:=by
 have:=d.bd b;exact⟨ω,ω⟩
theorem aY.wf(c:aY h E)(K:lQ h.G.a3):ac.wf h:=by
 have q:=c.lens;have r:=c.L;have B:=c.nums;unfold cI at B;rw[C0]at B;obtain⟨V,M,W⟩:=ix.1 c.rng;obtain⟨N,-,-,X,Y,-⟩:=jD.1 c.quar;have u:=c.mail;have g:=c.hfl;unfold aL at g;rw[CL u]at g;unfold bG at u;simp only[I0,C0,cK,jo,O7,qW,VX]at u;obtain⟨⟨⟨Z,m2,m3⟩,O⟩,m5⟩:=u;have y:=q.free;have P:=q.spans;have h3:=q.larges;have h4:=q.objs;have h5:=q.caches;have h6:=q.quar;have C:∀n:Nat,bQ h.w n<=bQ h.w (n+1):=λn=>by grind [bQ]
 have f:∀a b:Nat,a<=b->bQ h.w a<=bQ h.w b:=λa b t=>by
  induction t with
  | refl=>exact O9 _
  | step _ ih=>grind
 have A:∀n:Nat,0<=bQ h.w n:=λn=>f 0 n (I1 _)
 have o:∀i,i<h.w.U.length->(nth h.w.U i).length<=30/\(nth h.w.a0 i).length<=30:=λi k=>by
  have D:=f (i+1) h.w.U.length ω;have Q:=A i;simp only[bQ]at D;omega
 refine⟨KD c.ker K,⟨ω,λx e=>?_⟩,⟨ω,λx e=>?_⟩,⟨ω,λx e=>?_⟩,⟨ω,λx e=>?_⟩,⟨ω,λx e=>?_⟩,⟨⟨ω,λl d=>?_⟩,⟨ω,λl d=>?_⟩⟩,⟨⟨ω,ω⟩,⟨ω,λx e=>?_⟩⟩,⟨ω,ω⟩,⟨ω,ω⟩,⟨ω,ω⟩,⟨ω,ω⟩,tV1,c.jobWf.1⟩
 ·have:=M x e;exact⟨⟨ω,ω⟩,⟨ω,ω⟩⟩
 ·have w:=r.sok x e
  have F:=eS w;have R:=aJ w;exact⟨⟨ω,ω⟩,⟨ω,ω⟩,⟨ω,ω⟩⟩
 ·have G:=aR (r.lok x e)
  have H:=ch (r.lok x e);exact⟨⟨ω,ω⟩,⟨ω,ω⟩,⟨ω,ω⟩⟩
 ·obtain⟨o1,o2,o3,o4⟩:=c.onu x e
  have t:0<=x.Addr/\x.Addr<512/\-1000<=x.k/\x.k<=1000:=by
   rcases c.oow x e with⟨s,w,y,P⟩|⟨l,d,D,Q⟩
   ·have R:=aJ (r.sok s w)
    have:=Dh (n:=x.k) ω;exact⟨by have:=y.1;omega,by have:=y.2.1;omega,ω,ω⟩
   have G:=aR (r.lok l d);have H:=ch (r.lok l d);omega
  exact⟨⟨ω,ω⟩,⟨ω,ω⟩,⟨ω,ω⟩,⟨ω,ω⟩⟩
 ·obtain⟨c1,c2⟩:=q.lists x e
  refine⟨ω,λl d=>⟨ψ,λa J=>?_⟩⟩;obtain⟨j,S,rfl⟩:=aW d;exact k7.wf c (c.hca x e j S a J)
 ·obtain⟨i,k,rfl⟩:=aW d
  have F:=o i k;refine⟨ω,λp T=>?_⟩;have U:=(O i k).1 p T;exact⟨⟨ω,ω⟩,k7.wf c (g p.Addr (z5.2 (.inl (List.mem_flatMap.2 ψ))))⟩
 ·obtain⟨i,k,rfl⟩:=aW d
  have F:=o i ω;exact⟨ω,λa J=>k7.wf c (g a (z5.2 (.inr (List.mem_flatten.2 ψ))))⟩
 have G:=N x e;have H:=c.snc x e;exact⟨k7.wf c (c.hqu x e),⟨ω,ω⟩,⟨ω,ω⟩⟩
structure Z8(h:ac):Prop where
 ker:aI h.G=true
 wf:ac.wf h
 sml:ac.sml h
 lens:pV h
def aY.fit(a:aY h E)(b:lQ h.G.a3)(c:aP.sml h.w):Z8 h:=⟨a.ker,a.wf b,a.lens.sml a.ker c a.jobWf.2,a.lens⟩
theorem MC(a:aY h [])(b:h.q=true):aI (mStep h).G=true/\(mStep h).G.Calls<=h.G.Calls+1/\(mStep h).G.a3=h.G.a3/\(mStep h).w=h.w/\(Kl h=true->(mStep h).q=false)/\cY.wf (mStep h).a/\cY.sml (mStep h).a:=by
 have s:=JS.of a b;refine⟨s.ker,s.calls.2.1,s.calls.2.2,rfl,λc=>?_,?_⟩
 ·unfold Kl at c
  rw[C0]at c;show(if over _=true then false else h.q)=false
  grind [over]
 show cY.wf (if over _=true then _ else _)/\cY.sml (if over _=true then _ else _);split
 ·exact⟨⟨⟨⟨by decide,by decide⟩,⟨by decide,by decide⟩,⟨by decide,λv d=>by cases d⟩⟩,⟨by decide,by decide⟩,⟨by decide,by decide⟩⟩,by show(0:Nat)<=1048576;omega⟩
 have f:=(dX.1 (a.job b).1).1;have g:=oo f;obtain⟨j,k⟩:=s.ph;obtain⟨l,i⟩:=s.nxt;have e:=s.plan;refine⟨⟨by grind [Qk],⟨ω,ω⟩,⟨ω,by rw[e]at i;omega⟩⟩,by show((gC h.G h.a).2.X.T).length<=1048576;rw[e];omega⟩
def EJ(h:ac):Nat->ac × Bool
 | 0=>(h,false)
 | i+1=>if(EJ h i).1.q=true then(mStep (EJ h i).1,Kl (EJ h i).1) else EJ h i
def fin(h:ac):ac × Bool:=EJ h 100
def Lw(hi:aY h []):aY (started h).1 []/\(started h).1.G=h.G/\(started h).1.w=h.w:=by
 have r:=hi.nums;unfold cI at r;rw[C0]at r;have t:=(mi (bt h).length (show 0<=h.c0/\h.c0<=1073741823 by omega) ((bt h).length - 1)).2;have g:=ou (bt h) (show 0<=h.c0/\h.c0<=1073741823 by omega);have c:cI {h with c0:=(shuf (bt h).length h.c0).2} = true:=by
  unfold cI;rw[C0];unfold shuf;simp only;omega
 cases j:kX (bt h) h.c0 with
 | nil=>
  have f:Ab.started h=({h with c0:=(shuf (bt h).length h.c0).2},false):=by unfold Ab.started;rw[j]
  rw[f];exact⟨{hi with nums:=c},rfl,rfl⟩
 | cons q y=>
  obtain⟨C,D,k⟩:=g q (by rw[j];exact O3 ..);have f:Ab.started h=({h with c0:=(shuf (bt h).length h.c0).2,q:=true,a:=vP (dK (nth (bt h) q.A.toNat) (nth (bt h) q.B.toNat))},true):=by unfold Ab.started;rw[j]
  rw[f];have d:∀s∈bt h,s∈h.K:=λs u=>pZ h (C5 _) s (List.mem_of_mem_take u)
  have l:=d _ (ax (xs:=bt h) (i:=q.A.toNat) ω);have n:=d _ (ax (xs:=bt h) (i:=q.B.toNat) ω);generalize nth (bt h) q.A.toNat=a at k l |-;generalize nth (bt h) q.B.toNat=b at k n |-;obtain⟨w,E,F⟩:=tE k;have o:lB (vP (dK a b))=true:=dX.2 ⟨w,by show(0:Int)<=0;omega,by show(0:Int)<=5;omega,by show(0:Int)<=0;omega,by show(0:Int)<=(((dK a b).T.length:Nat):Int);omega⟩;have p:(∃s∈h.K,s.Q=(dK a b).a4)/\∃s∈h.K,s.Q=(dK a b).a5:=by
   unfold dK;split
   ·exact⟨⟨b,n,rfl⟩,⟨a,l,rfl⟩⟩
   exact⟨⟨a,l,rfl⟩,⟨b,n,rfl⟩⟩
  exact⟨{hi with nums:=c,job:=λ_=>⟨o,p⟩,noj:=λe=>by cases e},rfl,rfl⟩
open Go.RowKit
set_option maxRecDepth 20000
set_option maxHeartbeats 4000000
def aY.objSz(a:aY h E):∀o∈h.J,0<=o.k/\o.k<=1000:=λx c=>by
 rcases a.oow x c with⟨s,d,e,f⟩|⟨l,b,g,i⟩
 ·have j:=aJ (a.L.sok s d)
  have:=Dh (n:=x.k) ω;omega
 have k:=ch (a.L.lok l b);omega
def FE(t:Int){size:Int}(c:aY h [])(d:9<=size/\size<=1000):largeA h t size=if(EG h size).2<0 then((EG h size).1,-1,4) else(addO (EG h size).1 (EG h size).2 size t,(EG h size).2,0):=by
 unfold largeA EG;by_cases a:(ay h.o (iO size:Nat)).2.2=false
 ·rw[CL a,CL a]
  exact(CL (show(-1:Int)<0 by decide)).symm
 rw[CJ a,CJ a];obtain⟨e,-⟩:=jQ c (show(1:Int)<=(iO size:Nat) by unfold iO;omega) (by simpa using a);by_cases b:(fp h size).2=iO size
 ·rw[CL b,CL b]
  exact(CJ (show ¬16*(ay h.o (iO size:Nat)).2.1<0 by omega)).symm
 rw[CJ b,CJ b];exact(CL (show(-1:Int)<0 by decide)).symm
def Eb(h:ac)(t size:Int)(k:aY h []):zzB 74 false [.ptr (bR h),.vI t,.vI size] [.ptr (bR (allocH h t size).1),.vI t,.vI size] (.tup [none,none]) [I (allocH h t size).2.1,I (allocH h t size).2.2]:=by
 have W:=k.lens;have Z:=W.caches;have O:=W.objs;have p:=k.nums;unfold cI at p;rw[C0]at p;have P:=pW k.objSz h.J.length (C5 _);change 0<=pB h/\pB h<=_ at P;have n:=aQ t 0 ((h.R.length:Int) - 1);have r:=aQ size 1 1000;have D:=DO h k.objSz ω;have E:=nk size;refine fM 119 [(221,[2,0,0]),(222,[2,0])] [(7,10,[36,37,38,39,40,41,42,43,44,45]),(18,272,[81,82,83,84,85,86,87,89,90,91,92,93,94,95,96,97,0,1,2,3,4,5,6,8,9,10,11,12,13,14,15,16,1016,7,1008,1009,1010,1011,1012,1013,1014,1015,1016,17,18]),(1048594,0,[8])] [(0,0),(0,0),(0,0)] Tryz.func74 rfl (λu q=>?_) (.inr ⟨tV1,tV1,tV1⟩);unfold allocH;by_cases h1:1000000<=h.b
 ·rw[CL (.inl h1)]
  refine σE ?_
  exact ka
 by_cases h2:90000<h.G.Calls
 ·rw[CL (.inr h2)]
  repeat'(first|refine gE ?_|refine gS (λb=>?_) (λb=>?_)|fail)
  exact ka
 rw[CJ ω];by_cases C:¬(0<=t/\t<=h.R.length - 1)
 ·rw[CL C]
  rw[C1 C]at n
  repeat'(first|refine gE ?_|refine gS (λb=>?_) (λb=>?_)|fail)
  exact ka
 rw[CJ C];replace C:=Decidable.not_not.1 C;rw[O0 C]at n;by_cases B:¬(1<=size/\size<=1000)
 ·rw[CL B]
  rw[C1 B]at r
  repeat'(first|refine gE ?_|refine gS (λb=>?_) (λb=>?_)|fail)
  exact ka
 rw[CJ B];replace B:=Decidable.not_not.1 B;rw[O0 B]at r;by_cases X:h.c1<pB h+size
 ·rw[CL X]
  repeat'(first|refine gE ?_|refine gS (λb=>?_) (λb=>?_)|refine CN (D) ⟨⟨rfl,bX h⟩,tV1⟩ ?_)
  exact ka
 rw[CJ X];by_cases F:0<=aN size
 ·rw[CL F]
  have hc3:aN size<=3:=by unfold aN;repeat' split<;>omega
  obtain⟨T,rfl⟩:=v5 C.1;obtain⟨K,hK⟩:=v5 F;have o:=EA h T K k ω ω ω;have s:=qk (t:=T) (c:=K) k ω ω ω;rw[hK]at E |-;simp only[t5];generalize smallA h T K=w at o s |-;obtain⟨g,a⟩:=w;have G:g.b=h.b:=s.nx;simp only at o |-;by_cases H:a<0
  ·rw[CL H]
   repeat'(first|refine gE ?_|refine gS (λb=>?_) (λb=>?_)|refine CN (D) ⟨⟨rfl,bX h⟩,tV1⟩ ?_)
   exact ka
  rw[CJ H];obtain⟨k1,k2⟩:=s.yes (show(0:Int)<=a by omega);have Q:g.J.length<=512:=k1.lens.objs
  repeat'(first|refine gE ?_|refine gS (λb=>?_) (λb=>?_)|refine CN (D) ⟨⟨rfl,bX h⟩,tV1⟩ ?_)
  refine gK g.J.length (λi=>[(0,bB (bR g)),(1,fN T),(2,fI size),(8,fI a),(9,fN i)]) (λi=>∀(j:Nat)(z:bg),j<i->g.J[j]? = some z->Q1 a z=false) (λj z hj=>ω) λi k=>?_
  obtain⟨R,J⟩:=k;by_cases S:i<g.J.length/\(nth g.J i).Addr<a
  ·have d:=ar S.1
   refine σE ?_
   (exact cV (i+1) ⟨ω,fh d (C1 ω) J⟩)
  have l:mt (Q1 a) g.J=i:=oQ ω J λz L=>by
   have U:=(C4.1 L).1;have:z=nth g.J i:=(br L).symm;subst this;exact O0 ω
  have d:i<g.J.length->g.J[i]? = some (nth g.J i):=λV=>ar V
  rw[show addO g a size (T:Nat) = {g with J:=g.J.take i++⟨g.b,a,size,(T:Nat)⟩::g.J.drop i,b:=g.b+1} by unfold addO;rw[oC l]]
  repeat'(first|refine gE ?_|with_reducible refine CK (aa (d ω)) ?_|refine gS (λb=>?_) (λb=>?_)|refine CM rfl (aa (d ω)) rfl ?_|refine Le.mk rfl (zE g.J) rfl ?_|refine Cc i rfl (by rw[I2];omega) (aM λ_=>rfl) C8 ?_|refine Cj i rfl (by rw[I2];omega) (aM λ_=>rfl) I8 ?_|refine CZ (λ_=>rfl) (λ_=>rfl) (by rw[I3];omega) qs ?_|refine Ci (aM λ_=>rfl) rfl (by rw[I2,I3];omega) qs rfl ?_|refine Ap.ins (e:=bg.enc .S) (y:=⟨g.b,a,size,(T:Nat)⟩) rfl (λ_=>rfl) (λ_=>rfl) ω qs ?_)
  all_goals
   exact ka
 rw[CJ F];have M:9<=size:=by unfold aN at F;repeat' split at F<;>omega
 have o:=E2 h size k ⟨M,B.2⟩ ω;rw[FE t k ⟨M,B.2⟩];have Y:(EG h size).1.b=h.b/\(EG h size).1.J=h.J:=by
  unfold EG;split
  ·exact⟨rfl,rfl⟩
  split<;>exact⟨rfl,rfl⟩
 generalize EG h size=w at o Y |-;obtain⟨g,a⟩:=w;obtain⟨G,N⟩:=Y;simp only at o G N |-;have Q:g.J.length<=512:=by rw[N];exact O
 by_cases H:a<0
 ·rw[CL H]
  repeat'(first|refine gE ?_|refine gS (λb=>?_) (λb=>?_)|refine CN (D) ⟨⟨rfl,bX h⟩,tV1⟩ ?_)
  exact ka
 rw[CJ H]
 repeat'(first|refine gE ?_|refine gS (λb=>?_) (λb=>?_)|refine CN (D) ⟨⟨rfl,bX h⟩,tV1⟩ ?_)
 refine gK g.J.length (λi=>[(0,bB (bR g)),(1,fI t),(2,fI size),(8,fI a),(9,fN i)]) (λi=>∀(j:Nat)(z:bg),j<i->g.J[j]? = some z->Q1 a z=false) (λj z hj=>ω) λi k=>?_
 obtain⟨R,J⟩:=k;by_cases S:i<g.J.length/\(nth g.J i).Addr<a
 ·have d:=ar S.1
  refine σE ?_
  (exact cV (i+1) ⟨ω,fh d (C1 ω) J⟩)
 have l:mt (Q1 a) g.J=i:=oQ ω J λz L=>by
  have U:=(C4.1 L).1;have:z=nth g.J i:=(br L).symm;subst this;exact O0 ω
 have d:i<g.J.length->g.J[i]? = some (nth g.J i):=λV=>ar V
 rw[show addO g a size t = {g with J:=g.J.take i++⟨g.b,a,size,t⟩::g.J.drop i,b:=g.b+1} by unfold addO;rw[oC l]]
 repeat'(first|refine gE ?_|with_reducible refine CK (aa (d ω)) ?_|refine gS (λb=>?_) (λb=>?_)|refine CM rfl (aa (d ω)) rfl ?_|refine Le.mk rfl (zE g.J) rfl ?_|refine Cc i rfl (by rw[I2];omega) (aM λ_=>rfl) C8 ?_|refine Cj i rfl (by rw[I2];omega) (aM λ_=>rfl) I8 ?_|refine CZ (λ_=>rfl) (λ_=>rfl) (by rw[I3];omega) qs ?_|refine Ci (aM λ_=>rfl) rfl (by rw[I2,I3];omega) qs rfl ?_|refine Ap.ins (e:=bg.enc .S) (y:=⟨g.b,a,size,t⟩) rfl (λ_=>rfl) (λ_=>rfl) ω qs ?_)
 all_goals
  exact ka
def N1(h:ac)(a n:Int)(o:h.H.length<=4096)(i:∀l∈h.H,bI l=true)(j:si h a<0):zzB 420 false [.ptr (bR h),.vI a,.vI n] [.ptr (bR h),.vI a,.vI n] .one [B false]:=by
 have b:∀l∈h.H,l.Q*16≠a:=λl c e=>by
  have:=Bi (p:=mT a) c (O0 e);unfold si at j;omega
 refine fM 136 [(374,[2,0])] [(8,6,[49,50,51,52,53,54]),(9,10,[56,57,58,59,60,61,62,63,64,65]),(20,270,[123,124,125,126,127,128,129,130,131,122,132,133,134,135,0,1,2,3,4,5,6,7,8,9,10,11,12,13,14,1011])] [(0,0),(0,0),(0,0)] Tryz.func420 rfl (λu q=>?_)
 refine σP ?_
 refine Lp.mk (ι:=Nat) (λk=>[(0,bB (bR h)),(1,fI a),(2,fI n),(7,fN k)]) (λk=>k<=h.H.length) (λk=>h.H.length - k) (0) ?_ (I1 _) λk r=>?_
 ·exact wE
 by_cases d:k<h.H.length
 ·have g:=ar d
  have t:=b _ (ax d);have w:=aR (i _ (ax d))
  refine σB ?_
  (exact cV (k+1) ω)
 refine σE ?_
 exact ka
def Yv(h:ac)(a:Int)(m:Nat):bR {h with G:=zK h.G a (m+1)} = (bR {h with G:=zK h.G a m}).set 0 (.s .own (((zK h.G a m).F.V.T.map (aF .own)).set (af (zK h.G a m).F.O ((a+m) / 16)).j.toNat ((aF .own (nth (zK h.G a m).F.V.T (cW (zK h.G a m) (a+m)))).set 0 (.s .own (((nth (zK h.G a m).F.V.T (cW (zK h.G a m) (a+m))).map (rI .own)).set ((a+m) % 16).toNat (splice (rI .own (nth (nth (zK h.G a m).F.V.T (cW (zK h.G a m) (a+m))) ((a+m) % 16).toNat)) 0 [I 0])))))):=
 Pn {h with G:=zK h.G a m} (a+m) 0
def ip(h:ac)(i k:Nat)(n:Int)(K:ah):ac:={h with G:=K,H:=h.H.set k (trimL (nth h.H k) n),J:=h.J.set i {nth h.J i with k:=n}}
def F6(h:ac)(i k:Nat)(n:Int)(K:ah):(ip h i k n K).J.map (bg.enc .own)=(h.J.map (bg.enc .own)).set i (splice (bg.enc .own (nth h.J i)) 2 [I n]):=by
 simp[ip,SC,bg.enc,splice]
def wq(h:ac)(i:Nat)(n:Int)(d:aY h [])(F:i<h.J.length)(hg:0<=si h (nth h.J i).Addr):zzB 420 false [.ptr (bR h),.val none [I (nth h.J i).Addr],.vI n] [.ptr (bR (if jh h i n then trimH h i (si h (nth h.J i).Addr).toNat n else h)),.val none [I (nth h.J i).Addr],.vI n] .one [B (decide (jh h i n))]:=by
 have c:=d.lens;have hnl:=c.larges;have hno:=c.objs;have hpg:eQ h<=32:=c.ents;obtain⟨f1,f2,f3⟩:=eZ (mT (nth h.J i).Addr) h.H hg;obtain⟨g,l⟩:=v5 hg;have b:g<h.H.length:=by unfold si at l;omega
 have W:(nth h.H g).Q*16=(nth h.J i).Addr:=by
  have:=of_decide_eq_true f2;rw[show(bU (mT (nth h.J i).Addr) h.H).toNat=g by unfold si at l;omega]at this;exact this
 have G:∀k,k<g->(nth h.H k).Q*16≠(nth h.J i).Addr:=λk hk e=>by
  have H:k<h.H.length:=ω
  have hok1:=aR (d.L.lok _ (ax H));have hok2:=aR (d.L.lok _ (ax b));have:=d.L.one k g H b 0 0 ω ω ω;omega
 have o:jh h i n↔9<=n/\n<=(nth h.H g).k:=by
  unfold jh;rw[l,t5];exact⟨λx=>x.2,λx=>⟨ω,x⟩⟩
 rw[l,t5];have hbd:=pN d (ax F);obtain⟨-,X,r⟩:=d.objAt (ax F);have Y:lD h (nth h.J i).Addr=i:=by
  have h2:=(d.objAt (ax F)).1;exact du (f:=(·.Addr)) (dv d.osr) h2 F (by rw[X])
 rw[Y]at r;have y:=ar F;have hxg:=ar b;have T:=zP (nth h.H g) n (d.L.lok _ (ax b));have h8:=d.L.lok _ (ax b);unfold bI at h8;rw[C0]at h8;refine fM 136 [(374,[2,0])] [(8,6,[49,50,51,52,53,54]),(9,10,[56,57,58,59,60,61,62,63,64,65]),(20,270,[123,124,125,126,127,128,129,130,131,122,132,133,134,135,0,1,2,3,4,5,6,7,8,9,10,11,12,13,14,1011])] [(0,0),(0,0),(0,0)] Tryz.func420 rfl (λu q=>?_)
 refine σP ?_
 refine Lp.mk (ι:=Nat) (λk=>[(0,bB (bR h)),(1,fI ((nth h.J i).Addr)),(2,fI n),(7,fN k)]) (λk=>k<=g) (λk=>g - k) (0) ?_ (I1 _) λk hk=>?_
 ·exact wE
 have j:=ar (xs:=h.H) (i:=k) ω;have hfk:=aR (d.L.lok _ (ax (xs:=h.H) (i:=k) ω));by_cases e:k=g;rotate_left
 ·have hne:=G k ω
  refine σB ?_
  (exact cV (k+1) ω)
 subst e;by_cases D:9<=n/\n<=(nth h.H k).k;rotate_left
 ·rw[CJ (by rw[o];exact D),C1 (by rw[o];exact D)]
  rw[CJ D]at T
  refine σB ?_
  exact ka
 rw[CL (by rw[o];exact D),O0 (by rw[o];exact D)];rw[CL D]at T;have t:=λm Z=>wI d b D (m:=m) Z
 have w:=λm=>(rd h.G (16*(nth h.H k).Q+n) m).1
 have J:=λa U=>kg d b (a:=a) U
 have hsz:n<=16*(nth h.H k).a1:=ω
 generalize hM:(16*((n+15) / 16) - n).toNat=M at *;have hfl:∀m,(zK h.G (16*(nth h.H k).Q+n) m).F.V.T.length=h.G.F.V.T.length:=λm=>by
  induction m with
  | zero=>rfl
  | succ m ih=>show(List.set _ _ _).length=_;rw[C3];exact ih
 have cO:=uV {h with H:=h.H.set k (trimL (nth h.H k) n)} (nth h.J i).Addr (by show h.J.length<=_;omega);change au _ _ _ [.val (some 24) (ac.enc .S {h with H:=h.H.set k (trimL (nth h.H k) n)}),_] _ [I (bU (jR (nth h.J i).Addr) h.J)]at cO;rw[r]at cO;have N:=bX {h with H:=h.H.set k (trimL (nth h.H k) n)};have heL:bR {h with H:=h.H.set k (trimL (nth h.H k) n)} = (bR h).set 7 (.s .own ((h.H.map (aC.enc .own)).set k (aC.enc .own (trimL (nth h.H k) n)))):=by simp[bR,SC]
 rw[heL]at N
 repeat'(first|refine gB ?_|refine CU rfl rfl (aa j) rfl (O2 rfl) rfl ?_|refine CN (cO) ⟨⟨rfl,N⟩,⟨rfl,rfl⟩,tV1⟩ ?_|refine CU rfl rfl (aa y) rfl (O2 rfl) rfl ?_)
 rw[<-W];have e0:ip h i k n h.G=ip h i k n (zK h.G (16*(nth h.H k).Q+n) 0):=rfl;have hoo:C.s .own ((ip h i k n (zK h.G (16*(nth h.H k).Q+n) 0)).H.map (aC.enc .own))=C.s .own ((h.H.map (aC.enc .own)).set k (aC.enc .own (trimL (nth h.H k) n))):=by simp[ip,SC]
 have hoo2:C.s .own ((ip h i k n (zK h.G (16*(nth h.H k).Q+n) 0)).J.map (bg.enc .own))=C.s .own ((h.J.map (bg.enc .own)).set i (splice (bg.enc .own (nth h.J i)) 2 [I n])):=O1 _ (F6 h i k n _)
 (conv=>whnf)
 refine Lp.mk (ι:=Nat) (λm=>[(0,bB (bR (ip h i k n (zK h.G (16*(nth h.H k).Q+n) m)))),(1,fI ((nth h.H k).Q*16)),(8,bB (aC.enc .own (trimL (nth h.H k) n))),(9,bB (aG.enc .own (lw (nth h.H k) n))),(11,fI ((16*(nth h.H k).Q+n)+(m:Nat)))]) (λm=>m<=M) (λm=>M - m) (0) ?_ (I1 _) λm Z=>?_
 ·exact wE
 have hmod:IntKind.i64.wrap 0=0:=rfl;by_cases lm:m<M
 ·have U:0<=(16*(nth h.H k).Q+n)+(m:Nat)/\(16*(nth h.H k).Q+n)+(m:Nat)<512:=ω
  have O:=J ((16*(nth h.H k).Q+n)+(m:Nat)) ω;have p:=t m Z;rw[<-w m]at O;have hks:=bj p;have c2:=ee (zK h.G (16*(nth h.H k).Q+n) m).F.O (((16*(nth h.H k).Q+n)+(m:Nat)) / 16) hks.1.2;obtain⟨-,-,-,q0,q1⟩:=bD p O;have hul:=(bi.1 (aH.1 p).2.1).2.2.1;have Q:cW (zK h.G (16*(nth h.H k).Q+n) m) ((16*(nth h.H k).Q+n)+(m:Nat))<(zK h.G (16*(nth h.H k).Q+n) m).F.V.T.length:=by unfold cW;omega
  have E:(zK h.G (16*(nth h.H k).Q+n) m).F.V.T[(af (zK h.G (16*(nth h.H k).Q+n) m).F.O (((16*(nth h.H k).Q+n)+(m:Nat)) / 16)).j.toNat]? = some _:=ar Q;have h16:=(xl p Q).1;have R:=ar (xs:=nth (zK h.G (16*(nth h.H k).Q+n) m).F.V.T (cW (zK h.G (16*(nth h.H k).Q+n) m) ((16*(nth h.H k).Q+n)+(m:Nat)))) (i:=(((16*(nth h.H k).Q+n)+(m:Nat)) % 16).toNat) (by rw[h16];omega);have htm:((16*(nth h.H k).Q+n)+(m:Nat)).tmod 16=((16*(nth h.H k).Q+n)+(m:Nat)) % 16:=eR U.1;have hpu:=Yv (ip h i k n h.G) (16*(nth h.H k).Q+n) m;have hwr:=mh U;have hst:(trimL (nth h.H k) n).a1=(n+15) / 16:=rfl
  repeat'(first|refine gE ?_|refine CT qs ?_|refine CS hwr ?_|refine CX htm ?_|refine CN (c2) ⟨⟨rfl,Cp _⟩,⟨rfl,rfl⟩,tV1⟩ ?_|refine CQ q0 (aa E) ?_|refine CQ ω (aa R) ?_|refine Pu.two rfl rfl (aa E) rfl rfl rfl (aa R) rfl (C5 _) hpu ?_)
  (exact cV (m+1) ω)
 obtain rfl:m=M:=ω
 have hst:(trimL (nth h.H k) n).a1=(n+15) / 16:=rfl;have hkM:=t m (C5 _);have S:(zK h.G (16*(nth h.H k).Q+n) m).F.O.M.length=eQ h:=by rw[w];rfl
 have hTK:kq h k n=zK h.G (16*(nth h.H k).Q+n) m:=by unfold kq;rw[hM]
 unfold trimH yR;rw[hTK];generalize zK h.G (16*(nth h.H k).Q+n) m=K at *;have hN:((dD (nth h.H k) n:Nat):Int)=(nth h.H k).a1 - (n+15) / 16:=by unfold dD;omega
 have hrA:0<dD (nth h.H k) n->lw (nth h.H k) n = ⟨(nth h.H k).Q+(n+15) / 16,(dD (nth h.H k) n:Nat)⟩:=λhp=>by unfold lw;rw[CL ω,hN]
 have hrB:¬0<dD (nth h.H k) n->lw (nth h.H k) n = ⟨0,0⟩:=λhp=>by unfold lw;rw[CJ ω]
 generalize dD (nth h.H k) n=P at *;by_cases V:0<P
 ·rw[CL V]
  have hr:=hrA V;rw[hr]
  refine σE ?_
  refine Lp.mk (ι:=Nat) (λx=>[(0,bB (bR (ip h i k n (unmN K ((nth h.H k).Q+(n+15) / 16) x)))),(9,bB ([I ((nth h.H k).Q+(n+15) / 16),I (P:Nat)])),(13,fI ((nth h.H k).Q+(n+15) / 16+(x:Nat)))]) (λx=>x<=P) (λx=>P - x) (0) ?_ (I1 _) λx j=>?_
  ·exact wE
  by_cases lx:x<P
  ·have c3:=qR (ip h i k n (unmN K ((nth h.H k).Q+(n+15) / 16) x)) ((nth h.H k).Q+(n+15) / 16+(x:Nat)) (iI hkM _ _)
   refine σE ?_
   (exact cV (x+1) ω)
  obtain rfl:x=P:=ω
  have c4:=jF (ip h i k n (unmN K ((nth h.H k).Q+(n+15) / 16) x));rw[show eQ (ip h i k n (unmN K ((nth h.H k).Q+(n+15) / 16) x))=eQ h from(fY _ _ _).1.trans S]at c4;have c5:=pj (eQ h:Nat) h.o ⟨(nth h.H k).Q+(n+15) / 16,(x:Nat)⟩ ⟨ω,ω⟩ ⟨by have:=c.free;omega,λ_ _=>tV1⟩
  repeat'(first|refine gE ?_|refine CN (c4) ⟨bX _,tV1⟩ ?_|refine CN (c5) ⟨⟨rfl,rfl⟩,⟨rfl,fm h.o⟩,⟨rfl,rfl⟩,tV1⟩ ?_)
  exact ka
 rw[CJ V];obtain rfl:P=0:=ω
 have hr:=hrB V;rw[hr]
 refine σE ?_
 refine Lp.mk (ι:=Nat) (λx=>[(0,bB (bR (ip h i k n K))),(9,bB ([I 0,I 0])),(13,fI 0)]) (λx=>x=0) (λx=>0) (0) ?_ (rfl) λx j=>?_
 ·exact wE
 subst j
 refine σE ?_
 exact ka
variable{α:Type}
def Dc(a:α)(k:Nat):List.replicate (k+1) a=List.replicate k a++[a]:=List.replicate_succ' ..
def Al(n k:Nat):aZ.enc .own ⟨List.replicate k (List.replicate 16 0),List.replicate n false⟩ = [.s .own (List.replicate k [.s .own (List.replicate 16 [I 0])]),.s .own (List.replicate n [B false])]:=by
 simp[aZ.enc,aF,rI,rB,List.map_replicate]
def DM(n:Nat)(e:1<=n/\n<=32):zzA 465 false [.vI (n:Nat)] (.tup [some 2,none]) (aZ.enc .own (fR n)++[B true]):=by
 have c:=aK ((n:Nat):Int) 1 32;rw[O0 ω]at c;have a:=aD (b:=[B true]) (aZ.enc_fr (fR n)) ⟨tV1,tV1⟩;rw[show aZ.enc .own (fR n)=_ from Al n n]at a |-;refine fO 25 [(7,4,[18,19,20,21])] Tryz.func465 rfl ?_ (.inr a)
 repeat'(first|refine gP ?_|refine Mk.mk n rfl rfl ω (vm ω qs) rfl ?_)
 refine lp0 n (λk=>[(0,fN n),(2,bB [.z,.z]),(4,bB [.s .own (List.replicate k [.s .own (List.replicate 16 [I 0])]),.s .own (List.replicate n [B false])]),(5,fN k)]) λk g=>?_
 by_cases h:k<n
 ·repeat'(first|refine gE ?_|refine Mk.mk 16 rfl rfl qs qs rfl ?_|refine Ci (λr d=>by rw[(List.mem_replicate.1 d).2];rfl) rfl jp qs (Dc _ k) ?_)
  (exact cV (k+1) ω)
 obtain rfl:k=n:=ω
 refine σE ?_
 rfl
def EK(n:Nat)(e:1<=n/\n<=32):zzA 466 false [.vI (n:Nat)] (.tup [some 1,none]) (aO.enc .own (f7 n)++[B true]):=by
 have c:=aK ((n:Nat):Int) 1 32;rw[O0 ω]at c;have a:=aD (b:=[B true]) (aO.enc_fr (f7 n)) ⟨tV1,tV1⟩;have d:aO.enc .own (f7 n)=[.s .own (List.replicate n [I 0,I 0])]:=by simp[aO.enc,f7,bo.enc,List.map_replicate]
 rw[d]at a |-;refine fO 11 [] Tryz.func466 rfl ?_ (.inr a)
 repeat'(first|refine gP ?_|refine Mk.mk n rfl rfl ω (vm ω qs) rfl ?_)
 rfl
def yZ(p f:Nat)(a:1<=p/\p<=32)(b:1<=f/\f<=32):zzA 348 false [.vI (p:Nat),.vI (f:Nat)] (.tup [some 3,none]) (aT.enc .own ⟨fR f,f7 p⟩++[B true]):=by
 refine fO 30 [] Tryz.func348 rfl ?_ (.inr (aD (aT.enc_fr _) ⟨tV1,tV1⟩))
 repeat'(first|refine gP ?_|refine CG (DM f b) ?_|refine CG (EK p a) ?_)
 rfl
def Qo(n:Nat):Ts [.s .own (List.replicate n [.z]),.s .own (List.replicate n [.z]),B true] (aP.enc .own (fT n)++[B true]):=by
 have e:aP.enc .own (fT n)++[B true]=[.s .own (List.replicate n [.s .own []]),.s .own (List.replicate n [.s .own []]),B true]:=by simp[aP.enc,fT,bP,aF,List.map_replicate]
 rw[e];exact .cons (.rep (.cons .z_ .nil)) (.cons (.rep (.cons .z_ .nil)) (.cons (.rfl_ _) .nil))
def Hc(n:Nat)(b:1<=n/\n<=4):zzA 200 false [.vI (n:Nat)] (.tup [some 2,none]) (aP.enc .own (fT n)++[B true]):=by
 have a:=aK ((n:Nat):Int) 1 4;rw[O0 ω]at a;refine fO 13 [(3,4,[8,9,10,11])] Tryz.func200 rfl ?_ (.inr (aD (Ct _) ⟨tV1,tV1⟩))
 repeat'((conv=>whnf);first|with_reducible (first|refine Lm ?_|refine Wm ω ?_|refine Bn ?_|refine j8.dk rfl ?_)|refine Bt ?_|refine Bu ?_|refine CH ?_|refine CG (a) ?_|refine Mk.mk n rfl rfl ω (vm ω qs) rfl ?_)
 exact Qo n
def Hn(n:Nat)(b:1<=n/\n<=4):zzA 413 false [.vI (n:Nat)] (.tup [some 2,none]) (aP.enc .own (fT n)++[B true]):=by
 have a:=aQ ((n:Nat):Int) 1 4;rw[O0 ω]at a;refine fO 13 [(3,4,[8,9,10,11])] Tryz.func413 rfl ?_ (.inr (aD (Ct _) ⟨tV1,tV1⟩))
 repeat'((conv=>whnf);first|with_reducible (first|refine Lm ?_|refine Wm ω ?_|refine Bn ?_|refine j8.dk rfl ?_)|refine Bt ?_|refine Bu ?_|refine CH ?_|refine CG (a) ?_|refine Mk.mk n rfl rfl ω (vm ω qs) rfl ?_)
 exact Qo n
def JT:Ts [.s .own (List.replicate 4 [.z])] (aE.enc .own gm):=.cons (.rep (.cons .z_ .nil)) .nil
def Eu:zzA 202 false [] .agg (aE.enc .own gm):=by
 refine fO 3 [] Tryz.func202 rfl ?_ (.inr (Cv _))
 repeat'((conv=>whnf);first|with_reducible (first|refine Lm ?_|refine Wm ω ?_|refine Bn ?_|refine j8.dk rfl ?_)|refine Bt ?_|refine Bu ?_|refine CH ?_|refine Mk.mk 4 rfl rfl qs qs rfl ?_)
 exact JT
def DY:zzA 414 false [] .agg (aE.enc .own gm):=by
 refine fO 3 [] Tryz.func414 rfl ?_ (.inr (Cv _))
 repeat'((conv=>whnf);first|with_reducible (first|refine Lm ?_|refine Wm ω ?_|refine Bn ?_|refine j8.dk rfl ?_)|refine Bt ?_|refine Bu ?_|refine CH ?_|refine Mk.mk 4 rfl rfl qs qs rfl ?_)
 exact JT
def Jd:zzA 201 false [.vI 16] (.tup [some 2,none]) (bv.enc .own ⟨16,[]⟩++[B true]):=by
 refine fO 10 [] Tryz.func201 rfl ?_ (.inr (aD (bv.enc_fr _) ⟨tV1,tV1⟩))
 repeat'((conv=>whnf);first|with_reducible (first|refine Lm ?_|refine Wm ω ?_|refine Bn ?_|refine j8.wk rfl ?_)|refine Bt ?_|refine Bu ?_|refine CH ?_|refine CG (aK 16 0 500) ?_)
 exact⟨rfl,rfl,rfl,tV1⟩
def vW:zzA 415 false [.vI 16] (.tup [some 2,none]) (bv.enc .own ⟨16,[]⟩++[B true]):=by
 refine fO 10 [] Tryz.func415 rfl ?_ (.inr (aD (bv.enc_fr _) ⟨tV1,tV1⟩))
 repeat'((conv=>whnf);first|with_reducible (first|refine Lm ?_|refine Wm ω ?_|refine Bn ?_|refine j8.wk rfl ?_)|refine Bt ?_|refine Bu ?_|refine CH ?_|refine CG (aQ 16 0 500) ?_)
 exact⟨rfl,rfl,rfl,tV1⟩
def caps(h:ac)(k:Nat):ac:={h with R:=List.replicate k gm}
def Fn(k:Nat):(List.replicate (k+1) gm).map (aE.enc .own)=(List.replicate k gm).map (aE.enc .own)++[aE.enc .own gm]:=by rw[Dc,OB];rfl
variable{k:Nat}
def JB : ∀r∈(List.replicate k gm).map (aE.enc .own),r.length=1:=aM λ_=>rfl
theorem PU(x:List aS):fz (.s .own (x.map (aS.enc .own)))=.s .S (x.map (aS.enc .S)):=(List.cons.inj (List.cons.inj (Cn ⟨0,x⟩)).2).1
def co:∀a b:List C,eJ (a++b)=eJ a++eJ b
 | [],_=>rfl
 | x::xs,b=>by show fz x::eJ (xs++b)=fz x::(eJ xs++eJ b);rw[co xs b]
def gd(r:aA)(c:aA.sml r):zzA 281 false [.val (some 2) (aA.enc .S r)] .agg (aA.enc .own r):=by
 have e:r.J.length<=1048576:=c.1;refine fO 36 [(5,272,[15,16,17,18,19,20,21,22,23,24,25,26,27,28,29,34,0,1,2,3,4,5,6,7,8,9,10,11,12,13,14,15,1000,1001,1002,1003,1004,1005,1006,1007,16,1000,1001,17,1000,1001,18,19,20])] Tryz.func281 rfl ?_ (.inr (aA.enc_fr _))
 refine σP ?_
 refine lp0 r.J.length (λi=>[(1,bB (aA.enc .S r)),(2,bB [I 0,.z]),(3,bB [I r.b,.s .own ((r.J.take i).map (aS.enc .own))]),(4,fN i)]) λi g=>?_
 by_cases b:i<r.J.length
 ·have d:=ar b
  have a:(nth r.J i).T.length<=1048576:=c.2 _ (ax b)
  repeat'(first|refine gE ?_|refine Cg (λ_=>rfl) (λ_=>rfl) a qs ?_|refine CZ (λ_=>rfl) (λ_=>rfl) a qs ?_|refine Ci (aM λ_=>rfl) rfl jp qs (gv b) ?_)
  (exact cV (i+1) ω)
 refine σE ?_
 obtain rfl:i=r.J.length:=ω
 rw[S9]
 rfl
def jV(r:aA)(id:Int)(g:r.J.length<=1048576):zzA 516 false [.val (some 2) (aA.enc .S r),.vI id] .one [I (oy r id)]:=by
 refine fO 22 [] Tryz.func516 rfl ?_
 refine σP ?_
 refine gK r.J.length (λi=>[(1,fI id),(2,bB (aA.enc .S r)),(5,fN i)]) (λi=>∀(j:Nat)(z:aS),j<i->r.J[j]? = some z->iL id z=false) (λj z h=>ω) λi c=>?_
 obtain⟨c,b⟩:=c;by_cases d:i<r.J.length
 ·have a:=ar d
  by_cases e:(nth r.J i).Id=id
  ·refine σB ?_
   exact nO (df a (O0 e) b).symm
  refine σB ?_
  (exact cV (i+1) ⟨ω,fh a (C1 e) b⟩)
 refine σE ?_
 exact nO (eY ω b).symm
def qM(r:aA)(c:C)(h:W4 c):iN (aA.enc .own r++[c]):=aD (aA.enc_fr _) ⟨h,tV1⟩
def El(r:aA)(n:Int)(m:Nat)(b:rE r m)(h:m<=1000)(c:1<=n/\n<=1000):zzA 273 false [.val (some 2) (aA.enc .S r),.vI n] (.tup [some 2,none]) (aA.enc .S (i9 r n)++[I r.b]):=by
 have i:=b.sml h;have d:=b.len;have j:=b.nx;have k:=gd r i;have e:=aQ n 1 1000;rw[O0 c]at e;have key:zzA 273 false [.val (some 2) (aA.enc .S r),.vI n] (.tup [some 2,none]) (aA.enc .own (i9 r n)++[I r.b]):=by
  have a:=qM (i9 r n) (I r.b) tV1;unfold i9 at a |-;rw[CL c]at a |-;have l:aA.enc .own {r with b:=r.b+1,J:=r.J++[⟨r.b,List.replicate n.toNat 0⟩]} = [I (r.b+1),.s .own (r.J.map (aS.enc .own)++[[I r.b,.s .own (List.replicate n.toNat [I 0])]])]:=by
   simp[aA.enc,aS.enc,rI]
  rw[l]at a |-;refine fO 30 [(4,263,[13,14,15,16,17,18,22,0,1,2,3,4,5,6,1000,1001,7,1000,1001,8,9,10]),(6,259,[27,28,29,0,1,2,3,1001,1002,4])] Tryz.func273 rfl ?_ (.inr a)
  repeat'(first|refine gP ?_|refine Mk.mk n.toNat ω ω ω (vm ω qs) rfl ?_|refine Ci (aM λ_=>rfl) rfl jp qs rfl ?_)
  rfl
 have g:=key.fzR;rw[co,Cn]at g;exact g
def GO(r:aA)(id:Int)(m:Nat)(d:rE r m)(k:m<=1000):zzA 417 true [.val (some 2) (aA.enc .S r),.vI id] (.tup [some 2,none]) (aA.enc .S (jf r id)++[B (!decide (oy r id<0))]):=by
 have g:=d.sml k;have h:=d.len;have i:=gd r g;have b:=jV r id g.1;by_cases e:oy r id<0
 ·have key:zzA 417 true [.val (some 2) (aA.enc .S r),.vI id] (.tup [some 2,none]) (aA.enc .own r++[B false]):=by
   refine fO 30 [(5,267,[16,17,18,19,20,22,23,24,25,26,28,0,1,2,3,4,6,7,8,9,10,5,1006,1007,1008,1009,1010,11,12,13]),(1048581,6,[1])] Tryz.func417 rfl ?_ (.inl rfl)
   refine σE ?_
   rfl
  have a:=key.fzR;rw[co,Cn]at a;unfold jf;rw[CL e,O0 e];exact a
 have n:jf r id = {r with J:=dele r.J (oy r id).toNat}:=by unfold jf;rw[CJ e]
 obtain⟨t,u,w⟩:=eZ (iL id) r.J (by unfold oy at e;omega);obtain⟨j,c⟩:=v5 (show 0<=oy r id by omega);have o:j<r.J.length:=by unfold oy at c;omega
 have key:zzA 417 true [.val (some 2) (aA.enc .S r),.vI id] (.tup [some 2,none]) ([I r.b,.s .own ((dele r.J j).map (aS.enc .S))]++[B true]):=by
  rw[c]at b;refine fO 30 [(5,267,[16,17,18,19,20,22,23,24,25,26,28,0,1,2,3,4,6,7,8,9,10,5,1006,1007,1008,1009,1010,11,12,13]),(1048581,6,[1])] Tryz.func417 rfl ?_ (.inl rfl)
  repeat'(first|refine gE ?_|refine Le.mk rfl (PU r.J) rfl ?_|refine Cc j rfl (by rw[I2];omega) (aM λ_=>rfl) C8 ?_|refine Cj (j+1) ω (by rw[I2];omega) (aM λ_=>rfl) I8 ?_|refine CZ (λ_=>rfl) (λ_=>rfl) (by rw[I3];omega) qs ?_|refine Cg (λ_=>rfl) (λ_=>rfl) (by rw[I3];omega) qs ?_|refine Ap.dele (λ_=>rfl) (λ_=>rfl) ω qs ?_)
  rfl
 have a:=key.fzR;have p:eJ ([I r.b,.s .own ((dele r.J j).map (aS.enc .S))]++[B true])=aA.enc .S (jf r id)++[B (!decide (oy r id<0))]:=by
  have:∀l:List aS,fzR (l.map (aS.enc .S))=l.map (aS.enc .S):=λl=>by
   induction l with
   | nil=>rfl
   | cons x xs q=>rw[IC,fzR,q,<-aS.enc_fz,wL]
  rw[n,c,C1 ω];simp[eJ,fz,aA.enc,this]
 rw[p]at a;exact a
def Ez(r:aA)(id a v:Int)(m:Nat)(o:rE r m)(D:m<=1000)(h:0<=oy r id)(c:0<=a/\a<=(nth r.J (oy r id).toNat).T.length - 1)(p:0<=v/\v<=999):zzA 419 false [.val (some 2) (aA.enc .S r),.vI id,.vI a,.vI v] (.tup [some 2,none]) (aA.enc .S (dI r id a v)++[B true]):=by
 have k:=o.sml D;have q:=o.len;have E:=gd r k;have t:=jV r id k.1;obtain⟨J,K,L⟩:=eZ (iL id) r.J h;obtain⟨j,l⟩:=v5 h;have d:j<r.J.length:=by unfold oy at l;omega
 have e:=ar d;have F:(nth r.J j).T.length<=1048576:=k.2 _ (ax d);obtain⟨b,g⟩:=v5 c.1;have G:dI r id a v = {r with J:=r.J.set j ⟨(nth r.J j).Id,(nth r.J j).T.set b v⟩}:=by
  unfold dI;rw[CL ⟨h,c,p⟩,l,g];rfl
 rw[l]at t c;rw[g]at c |-;simp only[t5]at c;have u:=ar (xs:=(nth r.J j).T) (i:=b) ω;have w:=aQ (b:Nat) 0 (((nth r.J j).T.length:Nat) - 1:Int);rw[O0 ω]at w;have y:=aQ v 0 999;rw[O0 p]at y;have key:zzA 419 false [.val (some 2) (aA.enc .S r),.vI id,.vI (b:Nat),.vI v] (.tup [some 2,none]) (aA.enc .own (dI r id (b:Nat) v)++[B true]):=by
  have n:=qM (dI r id (b:Nat) v) (B true) tV1;rw[<-g,G]at n |-;have H:aA.enc .own {r with J:=r.J.set j ⟨(nth r.J j).Id,(nth r.J j).T.set b v⟩} = [I r.b,.s .own ((r.J.map (aS.enc .own)).set j [I (nth r.J j).Id,.s .own (((nth r.J j).T.map (rI .own)).set b [I v])])]:=by
   simp[aA.enc,aS.enc,rI,SC]
  rw[H]at n |-;rw[g];refine fO 48 [] Tryz.func419 rfl ?_ (.inr n)
  repeat'(first|refine gE ?_|with_reducible refine CQ ω (aa e) ?_|refine Pu.two rfl rfl (aa e) rfl rfl rfl (aa u) rfl (C5 _) rfl ?_)
  rfl
 have C:=key.fzR;rw[co,Cn]at C;exact C
def HQ(r:aA)(id n:Int)(m:Nat)(l:rE r m)(u:m<=1000)(g:0<=oy r id)(c:1<=n/\n<=(nth r.J (oy r id).toNat).T.length):zzA 421 false [.val (some 2) (aA.enc .S r),.vI id,.vI n] (.tup [some 2,none]) (aA.enc .S (fe r id n)++[B true]):=by
 have h:=l.sml u;have o:=l.len;have w:=gd r h;have p:=jV r id h.1;obtain⟨E,F,G⟩:=eZ (iL id) r.J g;obtain⟨j,i⟩:=v5 g;have a:j<r.J.length:=by unfold oy at i;omega
 have d:=ar a;have y:(nth r.J j).T.length<=1048576:=h.2 _ (ax a);obtain⟨b,e⟩:=v5 (show 0<=n by omega);have C:fe r id n = {r with J:=r.J.set j ⟨(nth r.J j).Id,(nth r.J j).T.take b⟩}:=by
  unfold fe;rw[CL ⟨g,c⟩,i,e];rfl
 rw[i]at p c;rw[e]at c |-;simp only[t5]at c;have q:=aQ (b:Nat) 1 (((nth r.J j).T.length:Nat):Int);rw[O0 ω]at q;have key:zzA 421 false [.val (some 2) (aA.enc .S r),.vI id,.vI (b:Nat)] (.tup [some 2,none]) (aA.enc .own (fe r id (b:Nat))++[B true]):=by
  have k:=qM (fe r id (b:Nat)) (B true) tV1;rw[<-e,C]at k |-;have D:aA.enc .own {r with J:=r.J.set j ⟨(nth r.J j).Id,(nth r.J j).T.take b⟩} = [I r.b,.s .own ((r.J.map (aS.enc .own)).set j [I (nth r.J j).Id,.s .own (((nth r.J j).T.take b).map (rI .S))])]:=by
   simp only[aA.enc,SC]
   rfl
  rw[D]at k |-;rw[e];refine fO 46 [(5,270,[30,31,32,33,34,35,36,37,38,39,40,41,43,44,0,1,2,3,4,5,6,7,8,9,10,11,12,1000,1001,1002,13,14,15])] Tryz.func421 rfl ?_ (.inr k)
  repeat'(first|refine gE ?_|with_reducible refine CQ ω (aa d) ?_|refine Cc b rfl (by rw[I2];omega) (aM λ_=>rfl) C8 ?_|refine Cg (λ_=>rfl) (λ_=>rfl) (by rw[I3];omega) qs ?_|refine CZ (λ_=>rfl) (λ_=>rfl) (by rw[I3];omega) qs ?_|refine CU rfl rfl (aa d) rfl (O2 rfl) rfl ?_)
  rfl
 have t:=key.fzR;rw[co,Cn]at t;exact t
def Jt(r:aA)(id a v:Int)(m:Nat)(h:rE r m)(l:m<=1000)(u:0<=v/\v<=999):∃b:Bool,zzA 419 false [.val (some 2) (aA.enc .S r),.vI id,.vI a,.vI v] (.tup [some 2,none]) (aA.enc .S (dI r id a v)++[B b]):=by
 by_cases i:0<=oy r id
 ·by_cases d:0<=a/\a<=(nth r.J (oy r id).toNat).T.length - 1
  ·exact⟨true,Ez r id a v m h l i d u⟩
  refine⟨false,?_⟩;have c:=h.sml l;have o:=h.len;have n:=gd r c;have k:=jV r id c.1;obtain⟨C,D,E⟩:=eZ (iL id) r.J i;obtain⟨j,p⟩:=v5 i;have e:j<r.J.length:=by unfold oy at p;omega
  have q:=ar e;have w:(nth r.J j).T.length<=1048576:=c.2 _ (ax e);have y:dI r id a v=r:=by unfold dI;rw[CJ (λx=>d x.2.1)]
  rw[p]at k d;simp only[t5]at d;have t:=aQ a 0 (((nth r.J j).T.length:Nat) - 1:Int);rw[C1 d]at t;rw[y];have key:zzA 419 false [.val (some 2) (aA.enc .S r),.vI id,.vI a,.vI v] (.tup [some 2,none]) (aA.enc .own r++[B false]):=by
   refine fO 48 [] Tryz.func419 rfl ?_ (.inr (qM r (B false) tV1))
   refine σE ?_
   rfl
  have g:=key.fzR;rw[co,Cn]at g;exact g
 refine⟨false,?_⟩;have c:=h.sml l;have n:=gd r c;have k:=jV r id c.1;rw[show dI r id a v=r by unfold dI;rw[CJ (λx=>i x.1)]];have key:zzA 419 false [.val (some 2) (aA.enc .S r),.vI id,.vI a,.vI v] (.tup [some 2,none]) (aA.enc .own r++[B false]):=by
  refine fO 48 [] Tryz.func419 rfl ?_ (.inr (qM r (B false) tV1))
  refine σE ?_
  rfl
 have g:=key.fzR;rw[co,Cn]at g;exact g
def Kw(r:aA)(id n:Int)(m:Nat)(g:rE r m)(k:m<=1000):∃b:Bool,zzA 421 false [.val (some 2) (aA.enc .S r),.vI id,.vI n] (.tup [some 2,none]) (aA.enc .S (fe r id n)++[B b]):=by
 by_cases h:0<=oy r id
 ·by_cases c:1<=n/\n<=(nth r.J (oy r id).toNat).T.length
  ·exact⟨true,HQ r id n m g k h c⟩
  refine⟨false,?_⟩;have a:=g.sml k;have o:=g.len;have l:=gd r a;have i:=jV r id a.1;obtain⟨y,C,D⟩:=eZ (iL id) r.J h;obtain⟨j,p⟩:=v5 h;have d:j<r.J.length:=by unfold oy at p;omega
  have q:=ar d;have u:(nth r.J j).T.length<=1048576:=a.2 _ (ax d);have w:fe r id n=r:=by unfold fe;rw[CJ (λx=>c x.2)]
  rw[p]at i c;simp only[t5]at c;have t:=aQ n 1 (((nth r.J j).T.length:Nat):Int);rw[C1 c]at t;rw[w];have key:zzA 421 false [.val (some 2) (aA.enc .S r),.vI id,.vI n] (.tup [some 2,none]) (aA.enc .own r++[B false]):=by
   refine fO 46 [(5,270,[30,31,32,33,34,35,36,37,38,39,40,41,43,44,0,1,2,3,4,5,6,7,8,9,10,11,12,1000,1001,1002,13,14,15])] Tryz.func421 rfl ?_ (.inr (qM r (B false) tV1))
   refine σE ?_
   rfl
  have e:=key.fzR;rw[co,Cn]at e;exact e
 refine⟨false,?_⟩;have a:=g.sml k;have l:=gd r a;have i:=jV r id a.1;rw[show fe r id n=r by unfold fe;rw[CJ (λx=>h x.1)]];have key:zzA 421 false [.val (some 2) (aA.enc .S r),.vI id,.vI n] (.tup [some 2,none]) (aA.enc .own r++[B false]):=by
  refine fO 46 [(5,270,[30,31,32,33,34,35,36,37,38,39,40,41,43,44,0,1,2,3,4,5,6,7,8,9,10,11,12,1000,1001,1002,13,14,15])] Tryz.func421 rfl ?_ (.inr (qM r (B false) tV1))
  refine σE ?_
  rfl
 have e:=key.fzR;rw[co,Cn]at e;exact e
structure jL where
 i:Nat
 h:Int
deriving Inhabited
def w64(x:Int):Int:=IntKind.i64.wrap x
def Y9(h:Int):Int:=w64 (w64 (h*6364136223846793005)+1442695040888963407)
def Y3(a b:Int):Int:=w64 ((BitVec.ofInt IntKind.i64.bits a ^^^ BitVec.ofInt IntKind.i64.bits b).toNat:Nat)
def and255(a:Int):Int:=w64 ((BitVec.ofInt IntKind.i64.bits a &&& BitVec.ofInt IntKind.i64.bits 255).toNat:Nat)
def VB(h:Int)(n:Nat):Int:=h.fdiv (2 ^ (min n IntKind.i64.bits))
def FZ(h:Int):Int:=and255 (Y3 (VB h 33) (VB h 45))
def FD(a:Int):0<=and255 a/\and255 a<=255:=by
 have b:(BitVec.ofInt IntKind.i64.bits a &&& BitVec.ofInt IntKind.i64.bits 255).toNat<=255:=by
  rw[BitVec.toNat_and];exact I9 Nat.and_le_right qs
 unfold and255 w64;rw[gf ω ω];omega
def fk(zs:List Int)(c:jL):Int × jL:=if c.i<zs.length then(and255 (FZ (Y9 c.h)+nth zs c.i),⟨c.i+1,Y9 c.h⟩) else(FZ (Y9 c.h),⟨c.i,Y9 c.h⟩)
def we(zs:List Int)(c:jL):0<=(fk zs c).1/\(fk zs c).1<=255:=by
 unfold fk;split<;>exact FD _
variable{c:jL}{zs:List Int}
def kD(h:c.i<=zs.length):(fk zs c).2.i<=zs.length:=by
 unfold fk;split
 ·simp only;omega
 exact h
def G3(zs:List Int)(c:jL):Int × jL:=
 ((fk zs c).1*16777216+(fk zs (fk zs c).2).1*65536+(fk zs (fk zs (fk zs c).2).2).1*256+(fk zs (fk zs (fk zs (fk zs c).2).2).2).1,(fk zs (fk zs (fk zs (fk zs c).2).2).2).2)
def bK(zs:List Int)(c:jL)(n:Int):Int × jL:=if n<=256 then((fk zs c).1 % n,(fk zs c).2) else((G3 zs c).1 % n,(G3 zs c).2)
def cx(zs:List Int)(c:jL){n:Int}(h:1<=n):0<=(bK zs c n).1/\(bK zs c n).1<n:=by
 unfold bK;split<;>exact⟨Int.emod_nonneg _ ω,Int.emod_lt_of_pos _ ω⟩
def cB(h:c.i<=zs.length)(n:Int):(bK zs c n).2.i<=zs.length:=by
 unfold bK;split
 ·exact kD h
 exact kD (kD (kD (kD h)))
def nY(zs:List Int)(c:jL)(l:List Int):Int × jL:=(nth l (bK zs c (l.length:Nat)).1.toNat,(bK zs c (l.length:Nat)).2)
def tq(zs:List Int)(c:jL){l:List Int}(h:1<=l.length):(nY zs c l).1∈l:=by
 have:=cx zs c (n:=(l.length:Nat)) ω;exact ax ω
def zh(zs:List Int):Nat->Nat->List Int->jL->List Int × jL
 | 0,_,out,c=>(out,(bK zs c 4).2)
 | f+1,i,out,c=>if(i:Int)<(bK zs c 4).1 then zh zs f (i+1) (out++[(bK zs (bK zs c 4).2 12).1]) (bK zs (bK zs c 4).2 12).2 else(out,(bK zs c 4).2)
def Xc(zs:List Int)(c:jL):List Int × jL:=zh zs 4 0 [] c
def P7(zs:List Int):∀(f i:Nat)(out:List Int)(c:jL),(∀x∈out,0<=x)->out.length+f<=4->c.i<=zs.length->(∀x∈(zh zs f i out c).1,0<=x)/\(zh zs f i out c).1.length<=4/\(zh zs f i out c).2.i<=zs.length
 | 0,_,out,c,b,e,d=>⟨b,by show out.length<=4;omega,cB d _⟩
 | f+1,i,out,c,b,e,d=>by
  unfold zh;split
  ·refine P7 zs f (i+1) _ _ (λx a=>?_) (by simp only[O5,List.length_singleton];omega) (cB (cB d _) _)
   rcases z5.1 a with a|a
   ·exact b x a
   rw[z3.1 a];exact(cx zs _ qs).1
  exact⟨b,by show out.length<=4;omega,cB d _⟩
def Er(zs:List Int)(c:jL):Int × jL:=bK zs c 7
def JD(zs:List Int)(c:jL):Int × jL:=bK zs (Er zs c).2 3
def Na(zs:List Int)(c:jL):Int × jL:=bK zs (JD zs c).2 100
def Lh(zs:List Int)(c:jL):Int × jL:=bK zs (Na zs c).2 4
def X7(zs:List Int)(c:jL):List Int × jL:=Xc zs (Lh zs c).2
def uy(zs:List Int)(c:jL):cr:=⟨(6+(Er zs c).1).toNat,(6+(Er zs c).1 - (Lh zs c).1).toNat,(1+(JD zs c).1).toNat,40+(Na zs c).1,(X7 zs c).1⟩
def KQ(h:c.i<=zs.length):Ea (uy zs c)/\(X7 zs c).2.i<=zs.length:=by
 have a:=cx zs c (n:=7) qs;have b:=cx zs (Er zs c).2 (n:=3) qs;have d:=cx zs (JD zs c).2 (n:=100) qs;have e:=cx zs (Na zs c).2 (n:=4) qs;change 0<=(Er zs c).1/\(Er zs c).1<7 at a;change 0<=(JD zs c).1/\(JD zs c).1<3 at b;change 0<=(Na zs c).1/\(Na zs c).1<100 at d;change 0<=(Lh zs c).1/\(Lh zs c).1<4 at e;obtain⟨f,k,g⟩:=P7 zs 4 0 [] (Lh zs c).2 (λx j=>by cases j) (by simp) (cB (cB (cB (cB h _) _) _) _);refine⟨⟨?_,?_,?_,?_,?_⟩,g⟩
 ·show 1<=(6+(Er zs c).1).toNat/\(6+(Er zs c).1).toNat<=32;omega
 ·show 1<=(6+(Er zs c).1 - (Lh zs c).1).toNat/\(6+(Er zs c).1 - (Lh zs c).1).toNat<=32;omega
 ·show 1<=(1+(JD zs c).1).toNat/\(1+(JD zs c).1).toNat<=4;omega
 ·show 0<=40+(Na zs c).1/\40+(Na zs c).1<=1000;omega
 exact⟨by show(zh zs 4 0 [] (Lh zs c).2).1.length<=40;omega,f⟩
def FV(zs:List Int)(c:jL):Int × jL:=bK zs c 3
def M3(zs:List Int)(c:jL)(ids:Int):Int × jL:=bK zs (FV zs c).2 ids
def nR(zs:List Int)(c:jL)(ids:Int):Int × jL:=bK zs (M3 zs c ids).2 20
def szs:List Int:=[1,1,2,2,3,4,4,5,8,9,20]
def so(zs:List Int)(c:jL)(ids:Int):fg × jL:=
 if(nR zs c ids).1<=6 then(⟨1,(FV zs c).1,(nY zs (nR zs c ids).2 szs).1,0,0⟩,(nY zs (nR zs c ids).2 szs).2)
 else if(nR zs c ids).1<=9 then(⟨2,(FV zs c).1,1+(M3 zs c ids).1,0,0⟩,(nR zs c ids).2)
 else if(nR zs c ids).1<=12 then(⟨3,(FV zs c).1,1+(M3 zs c ids).1,(bK zs (nR zs c ids).2 4).1,1+(bK zs (bK zs (nR zs c ids).2 4).2 999).1⟩,(bK zs (bK zs (nR zs c ids).2 4).2 999).2)
 else if(nR zs c ids).1=13 then(⟨4,(FV zs c).1,1+(M3 zs c ids).1,0,9+(bK zs (nR zs c ids).2 10).1⟩,(bK zs (nR zs c ids).2 10).2)
 else if(nR zs c ids).1=14 then(⟨(nY zs (nR zs c ids).2 [5,6]).1,(FV zs c).1,1+(M3 zs c ids).1,0,0⟩,(nY zs (nR zs c ids).2 [5,6]).2)
 else if(nR zs c ids).1=15 then(⟨7,(FV zs c).1,1+(M3 zs c ids).1,0,0⟩,(nR zs c ids).2)
 else if(nR zs c ids).1=16 then(⟨8,(FV zs c).1,(nY zs (nR zs c ids).2 [1,30,60,120]).1,0,0⟩,(nY zs (nR zs c ids).2 [1,30,60,120]).2)
 else if(nR zs c ids).1=17 then(⟨9,(FV zs c).1,1+(M3 zs c ids).1,0,0⟩,(nR zs c ids).2)
 else(⟨10,(FV zs c).1,(nY zs (nR zs c ids).2 [1,2,3,10,30]).1,0,0⟩,(nY zs (nR zs c ids).2 [1,2,3,10,30]).2)
structure XU(a:fg):Prop where
 k:1<=a.b2/\a.b2<=10
 t:0<=a.a2/\a.a2<=1000000
 n:0<=a.N/\a.N<=1000000
 p:0<=a.At/\a.At<=1000000
 v:0<=a.Value/\a.Value<=1000000
def TQ{ids:Int}(h:c.i<=zs.length)(b:1<=ids/\ids<=1000):XU (so zs c ids).1/\(so zs c ids).2.i<=zs.length:=by
 have d:=cx zs c (n:=3) qs;have e:=cx zs (FV zs c).2 (n:=ids) b.1;change 0<=(FV zs c).1/\(FV zs c).1<3 at d;change 0<=(M3 zs c ids).1/\(M3 zs c ids).1<ids at e;have a:(nR zs c ids).2.i<=zs.length:=cB (cB (cB h _) _) _;have f:=tq zs (nR zs c ids).2 (l:=szs) qs;have g:=tq zs (nR zs c ids).2 (l:=[5,6]) qs;have j:=tq zs (nR zs c ids).2 (l:=[1,30,60,120]) qs;have k:=tq zs (nR zs c ids).2 (l:=[1,2,3,10,30]) qs;have o:=cx zs (nR zs c ids).2 (n:=4) qs;have p:=cx zs (bK zs (nR zs c ids).2 4).2 (n:=999) qs;have q:=cx zs (nR zs c ids).2 (n:=10) qs;simp only[szs,List.mem_cons,List.not_mem_nil,or_false]at f g j k;unfold so
 repeat' split
 ·exact⟨⟨by simp only;omega,by simp only;omega,by simp only[szs];omega,by simp only;omega,by simp only;omega⟩,cB a _⟩
 ·exact⟨⟨by simp only;omega,by simp only;omega,by simp only;omega,by simp only;omega,by simp only;omega⟩,a⟩
 ·exact⟨⟨by simp only;omega,by simp only;omega,by simp only;omega,by simp only;omega,by simp only;omega⟩,cB (cB a _) _⟩
 ·exact⟨⟨by simp only;omega,by simp only;omega,by simp only;omega,by simp only;omega,by simp only;omega⟩,cB a _⟩
 ·exact⟨⟨by simp only;omega,by simp only;omega,by simp only;omega,by simp only;omega,by simp only;omega⟩,cB a _⟩
 ·exact⟨⟨by simp only;omega,by simp only;omega,by simp only;omega,by simp only;omega,by simp only;omega⟩,a⟩
 ·exact⟨⟨by simp only;omega,by simp only;omega,by simp only;omega,by simp only;omega,by simp only;omega⟩,cB a _⟩
 ·exact⟨⟨by simp only;omega,by simp only;omega,by simp only;omega,by simp only;omega,by simp only;omega⟩,a⟩
 exact⟨⟨by simp only;omega,by simp only;omega,by simp only;omega,by simp only;omega,by simp only;omega⟩,cB a _⟩
def Pm(zs:List Int)(c:jL):Nat->List fg × jL
 | 0=>([],(bK zs c 41).2)
 | i+1=>((Pm zs c i).1++[(so zs (Pm zs c i).2 (1+(i:Int) / 2)).1],(so zs (Pm zs c i).2 (1+(i:Int) / 2)).2)
def X6(zs:List Int)(c:jL):List fg × jL:=Pm zs c (bK zs c 41).1.toNat
def tK(zs:List Int):Nat->Int
 | 0=>w64 (98801+(zs.length:Nat))
 | i+1=>w64 ((BitVec.ofInt IntKind.i64.bits (w64 (w64 (w64 (tK zs i*131)+nth zs i)+7)) &&& BitVec.ofInt IntKind.i64.bits 1073741823).toNat:Nat)
def zy(zs:List Int):jL:=⟨0,tK zs (min zs.length 4000)⟩
def qH(zs:List Int):jL:=(X7 zs (zy zs)).2
def drawn(zs:List Int):bh:=(xc (uy zs (zy zs)) (X6 zs (qH zs)).1 (X6 zs (qH zs)).1.length).1
def rU(z:Int):List C:=[.v (.int .u8 z)]
def kZ(zs:List Int)(c:jL):List C:=[.s .S (zs.map rU),I (c.i:Nat),I c.h]
def mQ(zs:List Int):Prop:=zs.length<=1048576/\∀z∈zs,0<=z/\z<=255
def np(zs:List Int)(c:jL)(e:mQ zs)(w:c.i<=zs.length):zzB 180 false [.ptr (kZ zs c)] [.ptr (kZ zs (fk zs c).2)] .one [I (fk zs c).1]:=by
 have g:IntKind.i64.wrap (c.h*6364136223846793005)=w64 (c.h*6364136223846793005):=rfl;have b:IntKind.i64.wrap (w64 (c.h*6364136223846793005)+1442695040888963407)=Y9 c.h:=rfl;have o:=e.1;generalize p:Y9 c.h=H at b;have j:H.fdiv (2 ^ (min (33:Int).toNat IntKind.i64.bits))=VB H 33:=rfl;have k:H.fdiv (2 ^ (min (45:Int).toNat IntKind.i64.bits))=VB H 45:=rfl;have l:IntKind.i64.wrap (BitVec.ofInt IntKind.i64.bits (VB H 33) ^^^ BitVec.ofInt IntKind.i64.bits (VB H 45)).toNat=Y3 (VB H 33) (VB H 45):=rfl;have d:IntKind.i64.wrap (BitVec.ofInt IntKind.i64.bits (Y3 (VB H 33) (VB H 45)) &&& BitVec.ofInt IntKind.i64.bits 255).toNat=FZ H:=rfl;have r:0<=FZ H/\FZ H<=255:=FD _;unfold fk;rw[p];generalize FZ H=y at d r |-;refine fM 58 [] [(2,10,[13,14,15,16,17,18,19,20,21,22]),(3,9,[25,26,27,28,29,30,31,32,33]),(4,12,[35,36,37,38,39,40,41,42,43,44,45,46])] [(0,0)] Tryz.func180 rfl (λu q=>?_);by_cases a:c.i<zs.length
 ·rw[CL a]
  have n:=ar a;have B:=e.2 _ (ax a);have t:IntKind.i64.wrap (BitVec.ofInt IntKind.i64.bits (y+nth zs c.i) &&& BitVec.ofInt IntKind.i64.bits 255).toNat=and255 (y+nth zs c.i):=rfl
  repeat'(first|refine gE ?_|with_reducible (first|refine CS g ?_|refine CS b ?_|refine CS l ?_|refine CS d ?_|refine CS t ?_|refine CT qs ?_|refine CX j ?_|refine CX k ?_))
  exact kc
 rw[CJ a]
 repeat'(first|refine gE ?_|with_reducible (first|refine CS g ?_|refine CS b ?_|refine CS l ?_|refine CS d ?_|refine CT qs ?_|refine CX j ?_|refine CX k ?_))
 exact kc
def cz(zs:List Int)(c:jL)(n:Int)(b:mQ zs)(d:c.i<=zs.length)(p:1<=n):zzB 61 false [.ptr (kZ zs c),.vI n] [.ptr (kZ zs (bK zs c n).2),.vI n] .one [I (bK zs c n).1]:=by
 have j:=we zs c;have g:=np zs c b d;unfold bK;refine fM 37 [(180,[2])] [] [(0,0),(0,0)] Tryz.func61 rfl (λu q=>?_);by_cases h:n<=256
 ·rw[CL h]
  have a:(fk zs c).1.tmod n=(fk zs c).1 % n:=Int.tmod_eq_emod_of_nonneg j.1
  repeat'(first|refine gE ?_|with_reducible refine CX a ?_|refine gS (λe=>?_) (λe=>?_)|refine CT ω ?_)
  exact kc
 rw[CJ h];have r:=we zs (fk zs c).2;have t:=we zs (fk zs (fk zs c).2).2;have w:=we zs (fk zs (fk zs (fk zs c).2).2).2;have k:=np zs (fk zs c).2 b (kD d);have l:=np zs (fk zs (fk zs c).2).2 b (kD (kD d));have o:=np zs (fk zs (fk zs (fk zs c).2).2).2 b (kD (kD (kD d)));have a:(G3 zs c).1.tmod n=(G3 zs c).1 % n:=Int.tmod_eq_emod_of_nonneg (by unfold G3;simp only;omega);unfold G3 at a |-;simp only at a
 repeat'(first|refine gE ?_|with_reducible refine CX a ?_|refine gS (λe=>?_) (λe=>?_)|refine CT ω ?_)
 exact kc
def Ta(zs:List Int)(c:jL)(l:List Int)(b:mQ zs)(d:c.i<=zs.length)(g:1<=l.length/\l.length<=1000):zzB 402 false [.ptr (kZ zs c),.val none (aF .S l)] [.ptr (kZ zs (nY zs c l).2),.val none (aF .S l)] .one [I (nY zs c l).1]:=by
 have e:=cz zs c (l.length:Nat) b d ω;have h:=cx zs c (n:=(l.length:Nat)) ω;have a:=ar (xs:=l) (i:=(bK zs c (l.length:Nat)).1.toNat) ω;unfold nY;refine fM 12 [(61,[2,0])] [] [(0,0),(0,0)] Tryz.func402 rfl (λu q=>?_)
 repeat'(first|refine gP ?_|with_reducible refine CQ ω (aa a) ?_)
 exact ka
def kC(zs:List Int)(c:jL)(l:List Int)(b:mQ zs)(d:c.i<=zs.length)(g:1<=l.length/\l.length<=1000):zzB 402 false [.ptr (kZ zs c),.mut none (aF .own l)] [.ptr (kZ zs (nY zs c l).2),.mut none (aF .own l)] .one [I (nY zs c l).1]:=by
 have e:=cz zs c (l.length:Nat) b d ω;have h:=cx zs c (n:=(l.length:Nat)) ω;have a:=ar (xs:=l) (i:=(bK zs c (l.length:Nat)).1.toNat) ω;unfold nY;refine fM 12 [(61,[2,0])] [] [(0,0),(1,0)] Tryz.func402 rfl (λu q=>?_)
 repeat'(first|refine gP ?_|with_reducible refine CQ ω (aa a) ?_)
 exact ka
def RU(zs:List Int):∀(f i:Nat)(out:List Int)(c:jL),(bK zs c 4).1<=i->zh zs f i out c=(out,(bK zs c 4).2)
 | 0,_,_,_,_=>rfl
 | f+1,i,out,c,h=>by unfold zh;rw[CJ ω]
def W9(zs:List Int)(f i:Nat)(out:List Int)(c:jL)(h:(i:Int)<(bK zs c 4).1):zh zs (f+1) i out c=zh zs f (i+1) (out++[(bK zs (bK zs c 4).2 12).1]) (bK zs (bK zs c 4).2 12).2:=by
 show(if _ then _ else _)=_;rw[CL h]
structure Rq where
 i:Nat
 out:List Int
 c:jL
def AX(zs:List Int)(c:jL)(e:mQ zs)(j:c.i<=zs.length):zzB 258 false [.ptr (kZ zs c)] [.ptr (kZ zs (Xc zs c).2)] .one (aF .own (Xc zs c).1):=by
 refine fM 18 [(61,[2,0])] [] [(0,0)] Tryz.func258 rfl (λu q=>?_) (.inr (bC _))
 refine σP ?_
 refine mD (ι:=Rq) (λx=>[(0,bB (kZ zs x.c)),(3,bJ (aF .own x.out)),(4,fN (x.i))]) (λx=>(x.i<=4/\x.out.length<=x.i/\x.c.i<=zs.length)/\zh zs (4 - x.i) x.i x.out x.c=Xc zs c) (λx=>4 - x.i) (⟨0,[],c⟩) (⟨⟨I1 _,I1 _,j⟩,rfl⟩) λx k=>?_
 obtain⟨i,out,d⟩:=x;obtain⟨⟨l,o,b⟩,a⟩:=k;simp only at l o b a |-;have B:=cx zs d (n:=4) qs;have g:=cz zs d 4 e b qs;have h:=cB b 4;have p:=cz zs (bK zs d 4).2 12 e h qs;have t:=cB h 12;by_cases w:(i:Int)<(bK zs d 4).1
 ·rw[show 4 - i=(4 - (i+1))+1 by omega,W9 zs _ _ _ _ w]at a
  repeat'(first|refine gE ?_|refine Ca cA (λr y=>by rw[z3.1 y];rfl) (by simp[bp,eO]) jp (by simp only[I2];exact vm jp qs) rfl ?_)
  (refine CR ⟨i+1,out++[(bK zs (bK zs d 4).2 12).1],(bK zs (bK zs d 4).2 12).2⟩ ⟨⟨by simp only;omega,by simp only[O5,List.length_singleton];omega,t⟩,a⟩ (by simp only;omega) ?_)
  repeat'(first|exact tV1|rfl| exact kI _ |exact CV rfl (CV (O1 (C.s fE.own) (by simp[rI])) tV1)|refine CV ?_ ?_|(exact Ui (by first|omega|(simp only;omega)|(simp;omega))))
 rw[RU zs _ _ _ _ ω]at a;rw[<-a]
 refine σE ?_
 exact ka
def cr.enc(o:fE)(c:cr):List C:=[I (c.a1:Nat),I (c.V:Nat),I (c.c4:Nat),I c.c1,.s o (c.a3.map (rI o))]
def cr.enc_fz(c:cr):eJ (cr.enc .own c)=cr.enc .S c:=by simp[eJ,cr.enc,rI,<-cj,SB]
def cr.enc_fr(c:cr):iN (cr.enc .own c):=⟨tV1,tV1,tV1,tV1,⟨.inl λh=>(by cases h),bm _ _ λy _=>rR y⟩,tV1⟩
def zR(zs:List Int)(c:jL)(a:mQ zs)(h:c.i<=zs.length):zzB 113 false [.ptr (kZ zs c)] [.ptr (kZ zs (X7 zs c).2)] .agg (cr.enc .own (uy zs c)):=by
 have j:=cB h 7;have k:=cB j 3;have l:=cB k 100;have y:=cB l 4;have b:=cz zs c 7 a h qs;have d:=cz zs (Er zs c).2 3 a j qs;have e:=cz zs (JD zs c).2 100 a k qs;have g:=cz zs (Na zs c).2 4 a l qs;have o:=AX zs (Lh zs c).2 a y;have p:=cx zs c (n:=7) qs;have r:=cx zs (Er zs c).2 (n:=3) qs;have B:=cx zs (JD zs c).2 (n:=100) qs;have t:=cx zs (Na zs c).2 (n:=4) qs;have w:=cr.enc_fr (uy zs c);have C:cr.enc .own (uy zs c)=[I (6+(Er zs c).1),I (6+(Er zs c).1 - (Lh zs c).1),I (1+(JD zs c).1),I (40+(Na zs c).1),.s .own ((X7 zs c).1.map (rI .own))]:=by
  have D:0<=(Er zs c).1/\(Er zs c).1<7:=p;have E:0<=(JD zs c).1/\(JD zs c).1<3:=r;have F:0<=(Lh zs c).1/\(Lh zs c).1<4:=t;unfold cr.enc uy;simp only;rw[Int.toNat_of_nonneg ω,Int.toNat_of_nonneg ω,Int.toNat_of_nonneg ω]
 rw[C]at w |-;change aU _ _ _ _ [.ptr (kZ zs (Er zs c).2),_] _ _ at b;change aU _ _ _ _ [.ptr (kZ zs (JD zs c).2),_] _ _ at d;change aU _ _ _ _ [.ptr (kZ zs (Na zs c).2),_] _ _ at e;change aU _ _ _ _ [.ptr (kZ zs (Lh zs c).2),_] _ _ at g;change aU _ _ _ _ [.ptr (kZ zs (X7 zs c).2)] _ (aF .own (X7 zs c).1) at o;change aU _ _ _ _ _ _ [I (Er zs c).1]at b;change aU _ _ _ _ _ _ [I (JD zs c).1]at d;change aU _ _ _ _ _ _ [I (Na zs c).1]at e;change aU _ _ _ _ _ _ [I (Lh zs c).1]at g;change 0<=(Er zs c).1/\(Er zs c).1<7 at p;change 0<=(JD zs c).1/\(JD zs c).1<3 at r;change 0<=(Na zs c).1/\(Na zs c).1<100 at B;change 0<=(Lh zs c).1/\(Lh zs c).1<4 at t;generalize X7 zs c=r5 at *;generalize Lh zs c=r4 at *;generalize Na zs c=r3 at *;generalize JD zs c=r2 at *;generalize Er zs c=r1 at *;refine fM 24 [(61,[2,0]),(258,[2])] [(2,65536,[])] [(0,0)] Tryz.func113 rfl (λu q=>?_) (.inr w)
 repeat'(first|refine gP ?_|refine CV ?_ ?_)
 all_goals
  exact ka
def Dq(n:Nat)(e:1<=n/\n<=32):zzA 569 false [.vI (n:Nat)] (.tup [some 2,none]) (aZ.enc .own (fR n)++[B true]):=by
 have c:=aQ ((n:Nat):Int) 1 32;rw[O0 ω]at c;have a:=aD (b:=[B true]) (aZ.enc_fr (fR n)) ⟨tV1,tV1⟩;rw[show aZ.enc .own (fR n)=_ from Al n n]at a |-;refine fO 28 [(7,4,[16,17,18,19])] Tryz.func569 rfl ?_ (.inr a)
 refine σP ?_
 refine lp0 n (λk=>[(0,fN n),(2,bB [.z,.z]),(4,bB [.s .own (List.replicate k [.s .own (List.replicate 16 [I 0])]),.s .own (List.replicate k [B false])]),(5,fN k)]) λk g=>?_
 by_cases h:k<n
 ·repeat'(first|refine gE ?_|refine Mk.mk 16 rfl rfl qs qs rfl ?_|refine Ci (λr d=>by rw[(List.mem_replicate.1 d).2];rfl) rfl jp qs (Dc _ k) ?_)
  (exact cV (k+1) ω)
 obtain rfl:k=n:=ω
 refine σE ?_
 rfl
def EQ(n:Nat)(e:1<=n/\n<=32):zzA 570 false [.vI (n:Nat)] (.tup [some 1,none]) (aO.enc .own (f7 n)++[B true]):=by
 have c:=aQ ((n:Nat):Int) 1 32;rw[O0 ω]at c;have a:=aD (b:=[B true]) (aO.enc_fr (f7 n)) ⟨tV1,tV1⟩;have d:aO.enc .own (f7 n)=[.s .own (List.replicate n [I 0,I 0])]:=by simp[aO.enc,f7,bo.enc,List.map_replicate]
 rw[d]at a |-;refine fO 11 [] Tryz.func570 rfl ?_ (.inr a)
 repeat'(first|refine gP ?_|refine Mk.mk n rfl rfl ω (vm ω qs) rfl ?_)
 rfl
def zn(p f:Nat)(a:1<=p/\p<=32)(b:1<=f/\f<=32):zzA 508 false [.vI (p:Nat),.vI (f:Nat)] (.tup [some 3,none]) (aT.enc .own ⟨fR f,f7 p⟩++[B true]):=by
 refine fO 30 [] Tryz.func508 rfl ?_ (.inr (aD (aT.enc_fr _) ⟨tV1,tV1⟩))
 repeat'(first|refine gP ?_|refine CG (Dq f b) ?_|refine CG (EQ p a) ?_)
 rfl
def Bb(p f:Nat)(a:List Int)(b:1<=p/\p<=32)(c:1<=f/\f<=32)(d:a.length<=40/\∀x∈a,0<=x):zzA 412 false [.vI (p:Nat),.vI (f:Nat),.val none (aF .S a)] (.tup [some 5,none]) (ah.enc .own (cy p f a)++[B true]):=by
 have e:=pw b c d;have h:=d.1;have g:=pc (cy p f a) (bj e);rw[e]at g;refine fO 31 [(2,260,[17,18,19,10,0,1,2,5,3,1000,1005,4,1005,6])] Tryz.func412 rfl ?_ (.inr (aD (Ck _) ⟨tV1,tV1⟩))
 repeat'(first|refine gP ?_|refine CG (zn p f b c) ?_|refine CN (g) ⟨⟨rfl,CY (cy p f a)⟩,tV1⟩ ?_|refine CZ (λ_=>rfl) (λ_=>rfl) ω qs ?_|refine Cg (λ_=>rfl) (λ_=>rfl) ω qs ?_)
 rfl
def YR(p f t:Nat)(lim:Int)(a:List Int)(k:Nat):ac:={caps (newHeap p f t lim a) k with a7:=⟨0,[]⟩}
def GY(p f t:Nat)(lim:Int)(a:List Int)(c:1<=p/\p<=32)(d:1<=f/\f<=32)(e:1<=t/\t<=4)(g:0<=lim/\lim<=1000)(h:a.length<=40/\∀x∈a,0<=x):zzA 271 false [.vI (p:Nat),.vI (f:Nat),.vI (t:Nat),.vI lim,.val none (aF .S a)] (.tup [some 24,none]) (ac.enc .own (newHeap p f t lim a)++[B true]):=by
 have b:=aQ lim 0 1000;rw[O0 g]at b;refine fO 66 [(9,4,[54,55,56,57])] Tryz.func271 rfl ?_ (.inr (aD (ac.enc_fr _) ⟨tV1,tV1⟩))
 repeat'(first|refine gP ?_|refine CG (Bb p f a c d h) ?_|refine CG (Hn t e) ?_|refine CG (vW) ?_)
 refine lp0 t (λk=>[(2,fN t),(10,bB [.z,.z,.z,I 0,.z,.z,.z,.z,.z,.z,.z,.z,I 0,.z,I 0,I 0,I 0,I 0,B false,I 0,I 0,.z,I 0,I 0]),(16,bB (ac.enc .own (YR p f t lim a k))),(17,fN k)]) λk i=>?_
 by_cases j:k<t
 ·repeat'(first|refine gE ?_|refine CG (DY) ?_|refine Ci JB rfl (by rw[I2];show(List.replicate _ gm).length+1<=_;rw[List.length_replicate];omega) qs (Fn k) ?_)
  (exact cV (k+1) ω)
 obtain rfl:k=t:=ω
 repeat'(first|refine gE ?_|refine CG (vW) ?_)
 rfl
def LE:zzA 272 false [] .agg (aA.enc .own ⟨1,[]⟩):=by
 refine fO 2 [] Tryz.func272 rfl ?_ (.inr (aA.enc_fr _))
 repeat'((conv=>whnf);first|with_reducible (first|refine Lm ?_|refine Wm ω ?_|refine Bn ?_|refine j8.wk rfl ?_)|refine Bt ?_|refine Bu ?_|refine CH ?_)
 exact⟨rfl,rfl,tV1⟩
def EH(c:cr)(h:Ea c):zzA 120 false [.val (some 5) (cr.enc .S c)] (.tup [some 26,none]) (bh.enc .own (world0 c)++[B true]):=by
 have a:=GY c.a1 c.V c.c4 c.c1 c.a3 h.p h.f h.t h.l h.r;refine fO 26 [(4,2,[23,24])] Tryz.func120 rfl ?_ (.inr (aD (bh.enc_fr _) ⟨tV1,tV1⟩))
 repeat'(first|refine gP ?_|refine CG (LE) ?_)
 rfl
def kJ(o:fE)(l:List fg):List C:=[.s o (l.map (fg.enc o))]
def fg.enc_fr(x:fg):iN (fg.enc .own x):=⟨tV1,tV1,tV1,tV1,tV1,tV1⟩
def F5(l:List fg):iN (kJ .own l):=⟨⟨.inl λh=>(by cases h),bm _ _ λy _=>fg.enc_fr y⟩,tV1⟩
def R5(l:List fg):eJ (kJ .own l)=kJ .S l:=by simp[eJ,kJ,fg.enc,<-cj,SB]
def JV(zs:List Int)(c:jL)(ids:Int)(b:mQ zs)(p:c.i<=zs.length)(r:1<=ids/\ids<=1000):zzB 259 false [.ptr (kZ zs c),.vI ids] [.ptr (kZ zs (so zs c ids).2),.vI ids] .agg (fg.enc .own (so zs c ids).1):=by
 have w:=cB p 3;have y:=cB w ids;have d:(nR zs c ids).2.i<=zs.length:=cB y 20;have B:=cz zs c 3 b p qs;have C:=cz zs (FV zs c).2 ids b w r.1;have j:=cz zs (M3 zs c ids).2 20 b y qs;have H:=cx zs c (n:=3) qs;have J:=cx zs (FV zs c).2 (n:=ids) r.1;have D:=cx zs (M3 zs c ids).2 (n:=20) qs;have e:=kC zs (nR zs c ids).2 szs b d qs;have E:=kC zs (nR zs c ids).2 [5,6] b d qs;have F:=kC zs (nR zs c ids).2 [1,30,60,120] b d qs;have l:=kC zs (nR zs c ids).2 [1,2,3,10,30] b d qs;have g:=cz zs (nR zs c ids).2 4 b d qs;have h:=cz zs (bK zs (nR zs c ids).2 4).2 999 b (cB d _) qs;have G:=cz zs (nR zs c ids).2 10 b d qs;have K:=cx zs (bK zs (nR zs c ids).2 4).2 (n:=999) qs;have L:=cx zs (nR zs c ids).2 (n:=10) qs;change aU _ _ _ _ [.ptr (kZ zs (FV zs c).2),_] _ [I (FV zs c).1]at B;change aU _ _ _ _ [.ptr (kZ zs (M3 zs c ids).2),_] _ [I (M3 zs c ids).1]at C;change aU _ _ _ _ [.ptr (kZ zs (nR zs c ids).2),_] _ [I (nR zs c ids).1]at j;change 0<=(FV zs c).1/\(FV zs c).1<3 at H;change 0<=(M3 zs c ids).1/\(M3 zs c ids).1<ids at J;change 0<=(nR zs c ids).1/\(nR zs c ids).1<20 at D;have o:=fg.enc_fr (so zs c ids).1;unfold so at o |-;generalize nR zs c ids=k at *;generalize M3 zs c ids=n at *;generalize FV zs c=t at *;obtain⟨a,M⟩:=k;dsimp only at d e E F l g h G K L D j o |-;refine fM 77 [(61,[2,0]),(402,[2,1])] [] [(0,0),(0,0)] Tryz.func259 rfl (λu q=>?_) (.inr o)
 refine σP ?_
 obtain rfl|rfl|rfl|rfl|rfl|rfl|rfl|rfl|rfl|rfl|rfl|rfl|rfl|rfl|rfl|rfl|rfl|rfl|rfl|rfl:=(show a=0\/a=1\/a=2\/a=3\/a=4\/a=5\/a=6\/a=7\/a=8\/a=9\/a=10\/a=11\/a=12\/a=13\/a=14\/a=15\/a=16\/a=17\/a=18\/a=19 by omega)
 ·rw[CL (show((0:Int))<=6 by decide)]
  refine σP ?_
  exact ka
 ·rw[CL (show((1:Int))<=6 by decide)]
  refine σP ?_
  exact ka
 ·rw[CL (show((2:Int))<=6 by decide)]
  refine σP ?_
  exact ka
 ·rw[CL (show((3:Int))<=6 by decide)]
  refine σP ?_
  exact ka
 ·rw[CL (show((4:Int))<=6 by decide)]
  refine σP ?_
  exact ka
 ·rw[CL (show((5:Int))<=6 by decide)]
  refine σP ?_
  exact ka
 ·rw[CL (show((6:Int))<=6 by decide)]
  refine σP ?_
  exact ka
 ·rw[CJ (show ¬((7:Int)<=6) by decide),CL (show((7:Int))<=9 by decide)]
  refine σP ?_
  exact ka
 ·rw[CJ (show ¬((8:Int)<=6) by decide),CL (show((8:Int))<=9 by decide)]
  refine σP ?_
  exact ka
 ·rw[CJ (show ¬((9:Int)<=6) by decide),CL (show((9:Int))<=9 by decide)]
  refine σP ?_
  exact ka
 ·rw[CJ (show ¬((10:Int)<=6) by decide),CJ (show ¬((10:Int)<=9) by decide),CL (show((10:Int))<=12 by decide)]
  refine σP ?_
  exact ka
 ·rw[CJ (show ¬((11:Int)<=6) by decide),CJ (show ¬((11:Int)<=9) by decide),CL (show((11:Int))<=12 by decide)]
  refine σP ?_
  exact ka
 ·rw[CJ (show ¬((12:Int)<=6) by decide),CJ (show ¬((12:Int)<=9) by decide),CL (show((12:Int))<=12 by decide)]
  refine σP ?_
  exact ka
 ·rw[CJ (show ¬((13:Int)<=6) by decide),CJ (show ¬((13:Int)<=9) by decide),CJ (show ¬((13:Int)<=12) by decide),CL (show((13:Int))=13 by decide)]
  refine σP ?_
  exact ka
 ·rw[CJ (show ¬((14:Int)<=6) by decide),CJ (show ¬((14:Int)<=9) by decide),CJ (show ¬((14:Int)<=12) by decide),CJ (show ¬((14:Int)=13) by decide),CL (show((14:Int))=14 by decide)]
  refine σP ?_
  exact ka
 ·rw[CJ (show ¬((15:Int)<=6) by decide),CJ (show ¬((15:Int)<=9) by decide),CJ (show ¬((15:Int)<=12) by decide),CJ (show ¬((15:Int)=13) by decide),CJ (show ¬((15:Int)=14) by decide),CL (show((15:Int))=15 by decide)]
  refine σP ?_
  exact ka
 ·rw[CJ (show ¬((16:Int)<=6) by decide),CJ (show ¬((16:Int)<=9) by decide),CJ (show ¬((16:Int)<=12) by decide),CJ (show ¬((16:Int)=13) by decide),CJ (show ¬((16:Int)=14) by decide),CJ (show ¬((16:Int)=15) by decide),CL (show((16:Int))=16 by decide)]
  refine σP ?_
  exact ka
 ·rw[CJ (show ¬((17:Int)<=6) by decide),CJ (show ¬((17:Int)<=9) by decide),CJ (show ¬((17:Int)<=12) by decide),CJ (show ¬((17:Int)=13) by decide),CJ (show ¬((17:Int)=14) by decide),CJ (show ¬((17:Int)=15) by decide),CJ (show ¬((17:Int)=16) by decide),CL (show((17:Int))=17 by decide)]
  refine σP ?_
  exact ka
 ·rw[CJ (show ¬((18:Int)<=6) by decide),CJ (show ¬((18:Int)<=9) by decide),CJ (show ¬((18:Int)<=12) by decide),CJ (show ¬((18:Int)=13) by decide),CJ (show ¬((18:Int)=14) by decide),CJ (show ¬((18:Int)=15) by decide),CJ (show ¬((18:Int)=16) by decide),CJ (show ¬((18:Int)=17) by decide)]
  refine σP ?_
  exact ka
 rw[CJ (show ¬((19:Int)<=6) by decide),CJ (show ¬((19:Int)<=9) by decide),CJ (show ¬((19:Int)<=12) by decide),CJ (show ¬((19:Int)=13) by decide),CJ (show ¬((19:Int)=14) by decide),CJ (show ¬((19:Int)=15) by decide),CJ (show ¬((19:Int)=16) by decide),CJ (show ¬((19:Int)=17) by decide)]
 refine σP ?_
 exact ka
def rfs(h:ac):List Int:=h.G.a3
def Jz(k:ah)(p:Int):(newK k p).1.a3=k.a3:=by unfold newK;split<;>rfl
def wO(k:ah)(p:Int):∀n,(newsK k p n).1.a3=k.a3
 | 0=>rfl
 | n+1=>by
  unfold newsK;split
  ·exact(Jz _ _).trans (wO k p n)
  exact wO k p n
def UU(h:ac)(i:Nat):rfs (mr h i).1=rfs h:=by unfold mr;split<;>rfl
def Fi(h:ac)(t c:Nat):rfs (smallA h t c).1=rfs h:=by
 unfold smallA;split
 ·rfl
 split
 ·rfl
 split
 ·rfl
 split
 ·exact Jz _ _
 exact(UU _ _).trans (Jz _ _)
def Rz(h:ac)(t n:Int):rfs (allocH h t n).1=rfs h:=by
 unfold allocH;split
 ·rfl
 split
 ·rfl
 split
 ·rfl
 split
 ·rfl
 split
 ·split
  ·exact Fi _ _ _
  exact Fi _ _ _
 unfold largeA;split
 ·rfl
 split
 ·exact wO _ _ _
 exact((tj _ _ _).2).trans (wO _ _ _)
def Um(h:ac)(t i:Nat):rfs (freeT h t i).1=rfs h:=by
 unfold freeT;split
 ·exact(tj _ _ _).2
 split
 ·rfl
 split
 ·exact(fH t _ _).2.2.2.2.2.2.2
 split<;>rfl
def FA(t:Nat)(h:ac):∀k,rfs (flushN t h k).1=rfs h
 | 0=>rfl
 | k+1=>((ic _ (spilt (flushN t h k).1 t k)).2.2.2.2.2.2.2).trans (FA t h k)
def MR{h:ac}(a:aY h [])(b:JI h):∀n,rfs (stN h n).1=rfs h
 | 0=>rfl
 | n+1=>by
  obtain⟨c,d⟩:=xv a b n;unfold stN;split
  ·rename_i e
   unfold pJ at e;rw[I0]at e;exact((MC c e.1).2.2.1).trans (MR a b n)
  exact MR a b n
variable{w:bh}
def M2{m:Nat}(h:mW w m)(a:fg):rfs (mY w a).1.W=rfs w.W:=by
 unfold mY;split
 ·exact Rz _ _ _
 split
 ·split
  ·rfl
  unfold lK;split
  ·unfold t8
   split
   ·rfl
   split
   ·exact Um _ _ _
   rfl
  split
  ·unfold pT
   split
   ·rfl
   split
   ·rfl
   split<;>rfl
  unfold tf;split
  ·exact((tj _ _ _).2).trans (rd _ _ _).2.2
  rfl
 split
 ·unfold hB
  split
  ·split<;>rfl
  split
  ·rfl
  split
  ·exact(fH _ _ _).2.2.2.2.2.2.2
  exact FA _ _ _
 split
 ·unfold qU
  split
  ·exact(ic _ _).2.2.2.2.2.2.2
  rfl
 split
 ·unfold qB
  split
  ·rfl
  show rfs (started w.W).1=_;unfold rfs;rw[(Lw h.inv).2.1]
 split
 ·exact MR h.inv h.ji _
 rfl
def Hr{c:cr}(h:Ea c)(acts:List fg):∀n,rfs (xc c acts n).1.W=c.a3
 | 0=>rfl
 | n+1=>(M2 (xG h acts n) _).trans (Hr h acts n)
def uz(w:bh):List C:=bR w.W++aA.enc .S w.b3
def WY(w:bh):eJ (uz w)=bh.enc .S w:=by
 unfold uz;rw[co,bX,<-Cn,wL,Cn]
 rfl
def Ls(w:bh)(id:Int)(g:w.W.J.length<=1048576):zzB 274 false [.ptr (uz w),.vI id] [.ptr (uz w),.vI id] .one [I (mX w.W id)]:=by
 refine fM 28 [] [] [(0,0),(0,0)] Tryz.func274 rfl (λu q=>?_)
 refine σP ?_
 refine gK w.W.J.length (λi=>[(0,bB (uz w)),(1,fI id),(5,fN i)]) (λi=>∀(j:Nat)(z:bg),j<i->w.W.J[j]? = some z->P5 id z=false) (λj z h=>ω) λi c=>?_
 obtain⟨c,b⟩:=c;by_cases d:i<w.W.J.length
 ·have a:=ar d
  by_cases e:(nth w.W.J i).Id=id
  ·refine σB ?_
   refine CP rfl (nO (df a (O0 e) b).symm) ?_;exact wC
  refine σB ?_
  (exact cV (i+1) ⟨ω,fh a (C1 e) b⟩)
 refine σE ?_
 refine CP rfl (nO (eY ω b).symm) ?_;exact wC
def dR(y:ac):(bR y).length=24:=rfl
def EI(w:bh)(m n:Nat)(h:mW w m)(B:n<=50):zzB 280 false [.ptr (uz w),.vI (n:Nat)] [.ptr (uz ⟨(stN w.W n).1,w.b3⟩),.vI (n:Nat)] .one [I ((stN w.W n).2:Nat)]:=by
 refine fM 35 [(431,[2])] [] [(0,0),(0,0)] Tryz.func280 rfl (λu q=>?_)
 refine σP ?_
 refine gK n (λi=>[(0,bB (uz ⟨(stN w.W i).1,w.b3⟩)),(1,fN n),(5,fN ((stN w.W i).2)),(6,fN i)]) (λi=>(stN w.W i).2=i) rfl λi l=>?_
 obtain⟨l,C⟩:=l;obtain⟨o,D⟩:=xv h.inv h.ji i;have b:stN w.W (i+1)=if pJ (stN w.W i).1=true then(mStep (stN w.W i).1,(stN w.W i).2+1) else stN w.W i:=rfl
 have p:=(aH.1 o.ker).2.2.2.2;by_cases E:i<n
 ·cases c:(stN w.W i).1.q with
  | true=>
   have y:=(GH _ o c).frame (r:=aA.enc .S w.b3) ((dR _).trans (dR _).symm);by_cases g:(stN w.W i).1.G.Calls<=99000
   ·have d:pJ (stN w.W i).1=true:=by unfold pJ;rw[c,O0 g];rfl
    rw[CL d]at b;generalize stN w.W i=s at *
    repeat'(first|refine gE ?_|refine Bf.t (O0 g) ?_|refine Bf.t c ?_)
    (refine CR (i+1) ⟨ω,by rw[b];simp only;omega⟩ ω ?_)
    rw[b];exact wC
   have d:pJ (stN w.W i).1=false:=by unfold pJ;rw[c,C1 g];rfl
   have a:∀k,stN w.W (i+k)=stN w.W i:=λk=>by
    induction k with
    | zero=>rfl
    | succ k j=>show(if pJ (stN w.W (i+k)).1=true then _ else stN w.W (i+k))=_;rw[j,d,CJ (by simp)]
   have e:=a (n - i);rw[show i+(n - i)=n by omega]at e;rw[e];generalize stN w.W i=s at *
   repeat'(first|refine gE ?_|refine Bf.f (C1 g) ?_|refine Bf.t c ?_)
   exact ka
  | false=>
   have d:pJ (stN w.W i).1=false:=by unfold pJ;rw[c];rfl
   have a:∀k,stN w.W (i+k)=stN w.W i:=λk=>by
    induction k with
    | zero=>rfl
    | succ k j=>show(if pJ (stN w.W (i+k)).1=true then _ else stN w.W (i+k))=_;rw[j,d,CJ (by simp)]
   have e:=a (n - i);rw[show i+(n - i)=n by omega]at e;rw[e];generalize stN w.W i=s at *
   repeat'(first|refine gE ?_|refine Bf.f c ?_)
   exact ka
 obtain rfl:i=n:=ω
 refine σE ?_
 exact ka
def MO{k:ah}(a:aI k=true):(aI k&&decide (k.Calls<100000))=decide (k.Calls≠100000):=by
 have:=(aH.1 a).2.2.2.2;rw[a,Bool.true_and,C9,C0,C0];omega
def B3(w:bh)(a:fg)(m:Nat)(h:mW w m)(B:a.b2=5\/a.b2=6\/a.b2=7):zzB 276 false [.ptr (uz w),.val (some 5) (fg.enc .S a)] [.ptr (uz ⟨(hB w.W a).1,w.b3⟩),.val (some 5) (fg.enc .S a)] .one [I (hB w.W a).2]:=by
 have d:=h.inv;have o:=d.nc;have p:w.W.R.length<=4:=by have:=(eC.1 d.mail).1.2.1;omega
 have C:=kS.of d.mail;have i:=oW w.W.G (bj d.ker);rw[MO d.ker]at i;have j:=aQ a.a2 0 (w.W.R.length - 1:Int);unfold hB;refine fM 59 [(423,[2,0]),(424,[2,0])] [(3,267,[15,16,17,18,19,20,21,14,22,23,6,0,1,2,3,4,5,6,7,8,9,10,11,1009,12]),(8,15,[30,31,32,33,34,35,36,37,38,39,40,41,42,43,44])] [(0,0),(0,0)] Tryz.func276 rfl (λu q=>?_);by_cases l:a.b2=5
 ·rw[CL l]
  by_cases e:0<=a.a2/\a.a2<=w.W.R.length - 1
  ·have y:mH w.W a:=e
   obtain⟨t,g⟩:=v5 e.1;have b:=Ly w.W.w t d.mail ω;rw[<-g]at b;rw[g]at e |-;simp only[t5];rw[g]at b;by_cases c:0<(nth w.W.w.U t).length
   ·rw[CL (show mH w.W a/\0<(nth w.W.w.U t).length from⟨y,c⟩)]
    rw[CL c,O0 c]at b;rw[<-g]at b
    repeat'(first|refine gB ?_|refine gS (λk=>?_) (λk=>?_)|refine CN (b) ⟨⟨rfl,Cu w.W.w⟩,⟨rfl,rfl⟩,tV1⟩ ?_)
    exact ka
   rw[CJ (show ¬(mH w.W a/\0<(nth w.W.w.U t).length) from λx=>c x.2)];rw[CJ c,C1 c]at b;rw[<-g]at b
   repeat'(first|refine gB ?_|refine gS (λk=>?_) (λk=>?_)|refine CN (b) ⟨⟨rfl,Cu w.W.w⟩,⟨rfl,rfl⟩,tV1⟩ ?_)
   exact ka
  rw[CJ (show ¬(mH w.W a/\0<(nth w.W.w.U a.a2.toNat).length) from λx=>e x.1)];have b:=MG w.W.w a.a2 d.mail ω
  repeat'(first|refine gB ?_|refine gS (λk=>?_) (λk=>?_)|refine CN (b) ⟨⟨rfl,Cu w.W.w⟩,⟨rfl,rfl⟩,tV1⟩ ?_)
  exact ka
 rw[CJ l];by_cases e:w.W.G.Calls≠100000;rotate_left
 ·rw[CL (show ¬(w.W.G.Calls≠100000/\mH w.W a) from λx=>e x.1)]
  rw[C1 e]at i
  repeat'(first|refine gB ?_|refine CN (i) ⟨⟨rfl,CY _⟩,tV1⟩ ?_)
  exact ka
 rw[O0 e]at i;by_cases c:0<=a.a2/\a.a2<=w.W.R.length - 1;rotate_left
 ·rw[CL (show ¬(w.W.G.Calls≠100000/\mH w.W a) from λx=>c x.2)]
  rw[C1 c]at j
  repeat'(first|refine gB ?_|refine CN (i) ⟨⟨rfl,CY _⟩,tV1⟩ ?_)
  exact ka
 rw[CJ (show ¬¬(w.W.G.Calls≠100000/\mH w.W a) from S7 ⟨e,c⟩)];rw[O0 c]at j;obtain⟨t,g⟩:=v5 c.1;by_cases n:a.b2=6
 ·rw[CL n]
  have b:=(zv w.W t d ω).frame (r:=aA.enc .S w.b3) ((dR _).trans (dR _).symm);rw[show a.a2.toNat=t by omega];rw[<-g]at b
  repeat'(first|refine gB ?_|refine CN (i) ⟨⟨rfl,CY _⟩,tV1⟩ ?_)
  exact ka
 rw[CJ n];have b:=(DS w.W t d ω).frame (r:=aA.enc .S w.b3) ((dR _).trans (dR _).symm);rw[show a.a2.toNat=t by omega];rw[<-g]at b
 repeat'(first|refine gB ?_|refine CN (i) ⟨⟨rfl,CY _⟩,tV1⟩ ?_)
 exact ka
def zV(w:bh)(a:fg)(i m:Nat)(h:mW w m)(R:m<=900)(p:i<w.W.J.length):zzB 275 false [.ptr (uz w),.val (some 5) (fg.enc .S a),.vI (i:Nat)] [.ptr (uz (lK w a i).1),.val (some 5) (fg.enc .S a),.vI (i:Nat)] .one [I (lK w a i).2]:=by
 have e:=h.inv;have b:=ar p;have H:=pN e (ax p);have J:=di e (ax p) (k:=0);have K:1<=(nth w.W.J i).k/\(nth w.W.J i).k<=1000:=by
  rcases e.oow _ (ax p) with⟨s,M,S,T⟩|⟨l,E,d,c⟩
  ·have U:=aJ (e.L.sok s M)
   have:=iv (n:=(nth w.W.J i).k) ω;omega
  have V:=ch (e.L.lok l E);omega
 have g:=oW w.W.G (bj e.ker);rw[MO e.ker]at g;unfold lK;refine fM 126 [(416,[2,0,0]),(418,[2,0,0]),(420,[2,0,0])] [(6,7,[29,30,31,32,33,34,35]),(8,269,[40,41,42,43,44,45,46,47,39,48,49,50,51,0,1,2,3,4,5,6,7,8,9,10,11,12,13,1010]),(13,10,[62,63,64,65,66,67,68,69,70,71]),(15,273,[76,77,78,79,80,81,82,83,84,85,86,87,75,88,89,90,91,0,1,2,3,4,5,6,7,8,9,10,11,12,13,14,15,16,17,1014]),(17,15,[93,94,95,96,97,98,99,100,101,102,103,104,105,106,107]),(19,271,[112,113,114,115,116,117,118,119,120,121,111,122,123,124,125,0,1,2,3,4,5,6,7,8,9,10,11,12,13,14,15,1012])] [(0,0),(0,0),(0,0)] Tryz.func275 rfl (λu q=>?_);by_cases F:a.b2=2
 ·rw[CL F]
  unfold t8;by_cases d:w.W.G.Calls=100000
  ·rw[CL d]
   rw[C1 (S7 d)]at g
   repeat'(first|refine gB ?_|refine CN (g) ⟨⟨rfl,CY _⟩,tV1⟩ ?_)
   exact ka
  rw[CJ d];rw[O0 d]at g;have B:=(VK w.W i a.a2 e p).frame (r:=aA.enc .S w.b3) ((dR _).trans (dR _).symm);by_cases c:0<=a.a2/\a.a2<=w.W.R.length - 1
  ·rw[CL (show mH w.W a from c)]
   rw[CL c,CL c]at B;have N:=GO w.b3 (nth w.W.J i).Id m h.ref ω;generalize freeT w.W a.a2.toNat i=f at B |-;by_cases o:f.2=0
   ·rw[CL o]
    repeat'(first|refine gB ?_|refine gS (λj=>?_) (λj=>?_)|refine CN (g) ⟨⟨rfl,CY _⟩,tV1⟩ ?_|refine Cl.sh N rfl ?_)
    exact ka
   rw[CJ o]
   repeat'(first|refine gB ?_|refine gS (λj=>?_) (λj=>?_)|refine CN (g) ⟨⟨rfl,CY _⟩,tV1⟩ ?_)
   exact ka
  rw[CJ (show ¬mH w.W a from c)];rw[CJ c,CJ c]at B
  repeat'(first|refine gB ?_|refine gS (λj=>?_) (λj=>?_)|refine CN (g) ⟨⟨rfl,CY _⟩,tV1⟩ ?_)
  exact ka
 rw[CJ F];by_cases G:a.b2=3
 ·rw[CL G]
  unfold pT;have C:=aQ a.At 0 ((nth w.W.J i).k - 1);by_cases d:0<=a.At/\a.At<=(nth w.W.J i).k - 1;rotate_left
  ·rw[CL d]
   rw[C1 d]at C
   repeat'(first|refine gB ?_|refine gS (λj=>?_) (λj=>?_)|fail)
   exact ka
  rw[CJ (S7 d)];rw[O0 d]at C;have D:=(E4 w.W i a.At a.Value e p d).frame (r:=aA.enc .S w.b3) (by split<;>rfl);have O:=di e (ax p) d;by_cases c:(af w.W.G.F.O (((nth w.W.J i).Addr+a.At) / 16)).e=1
  ·rw[CL c]
   rw[CL (.inl c),CL c]at D
   repeat'(first|refine gB ?_|refine gS (λj=>?_) (λj=>?_)|fail)
   exact ka
  rw[CJ c];by_cases o:0<=a.Value/\a.Value<=999;rotate_left
  ·rw[CL o]
   rw[CL (.inr o),CJ c,CL o]at D
   repeat'(first|refine gB ?_|refine gS (λj=>?_) (λj=>?_)|fail)
   exact ka
  rw[CJ (S7 o)];rw[CJ (λx=>x.elim c λy=>y o),CJ c,CJ (S7 o)]at D;obtain⟨W,P⟩:=Jt w.b3 (nth w.W.J i).Id a.At a.Value m h.ref ω o
  repeat'(first|refine gB ?_|refine gS (λj=>?_) (λj=>?_)|fail)
  exact ka
 rw[CJ G];unfold tf;by_cases d:w.W.G.Calls=100000
 ·rw[CJ (λx=>x.1 d)]
  rw[C1 (S7 d)]at g
  repeat'(first|refine gB ?_|refine CN (g) ⟨⟨rfl,CY _⟩,tV1⟩ ?_)
  exact ka
 rw[O0 d]at g;by_cases c:jh w.W i a.Value
 ·rw[CL ⟨d,c⟩]
  have t:=(wq w.W i a.Value e p c.1).frame (r:=aA.enc .S w.b3) (by split<;>rfl);rw[CL c,O0 c]at t;obtain⟨X,Q⟩:=Kw w.b3 (nth w.W.J i).Id a.Value m h.ref ω
  repeat'(first|refine gB ?_|refine CN (g) ⟨⟨rfl,CY _⟩,tV1⟩ ?_)
  exact ka
 rw[CJ (λx=>c x.2)];by_cases o:si w.W (nth w.W.J i).Addr<0
 ·have t:=(N1 w.W (nth w.W.J i).Addr a.Value (by have:=e.lens.larges;omega) e.L.lok o).frame (r:=aA.enc .S w.b3) ((dR _).trans (dR _).symm)
  repeat'(first|refine gB ?_|refine CN (g) ⟨⟨rfl,CY _⟩,tV1⟩ ?_)
  exact ka
 have t:=(wq w.W i a.Value e p ω).frame (r:=aA.enc .S w.b3) (by split<;>rfl);rw[CJ c,C1 c]at t
 repeat'(first|refine gB ?_|refine CN (g) ⟨⟨rfl,CY _⟩,tV1⟩ ?_)
 exact ka
def mW.fit{m:Nat}(h:mW w m)(a:lQ w.W.G.a3):ac.sml w.W/\ac.wf w.W:=
 ⟨(h.inv.fit a (kS.of h.inv.mail).sml).sml,h.inv.wf a⟩
def NT(w:bh)(a:fg)(m:Nat)(h:mW w m)(G:m<=900)(H:lQ w.W.G.a3):zzB 121 false [.ptr (uz w),.val (some 5) (fg.enc .S a)] [.ptr (uz (mY w a).1),.val (some 5) (fg.enc .S a)] .one [I (mY w a).2]:=by
 have i:=h.inv;have j:=i.nums;unfold cI at j;rw[C0]at j;unfold mY;refine fM 123 [(74,[2,0,0]),(274,[2,0]),(275,[2,0,0]),(276,[2,0]),(278,[2,0]),(279,[2]),(280,[2,0])] [(3,265,[13,14,15,16,17,18,19,21,22,0,1,2,3,4,5,6,7,8,9,10,11,1010,12]),(5,269,[26,27,28,29,30,31,32,33,25,34,35,36,37,0,1,2,3,4,5,6,7,8,9,10,11,12,13,1010]),(19,21,[62,63,64,65,66,67,68,69,70,71,72,73,74,75,76,77,78,79,80,81,82]),(21,5,[86,87,88,89,90])] [(0,0),(0,0)] Tryz.func121 rfl (λu q=>?_);by_cases C:a.b2=1
 ·rw[CL C]
  have c:=(Eb w.W a.a2 a.N i).frame (r:=aA.enc .S w.b3) ((dR _).trans (dR _).symm);by_cases e:(allocH w.W a.a2 a.N).2.2=0
  ·rw[CL e]
   have o:1<=a.N/\a.N<=1000:=by
    refine Classical.byContradiction λp=>?_
    unfold allocH at e;rw[CL p]at e;split at e
    ·exact absurd (show(5:Int)=0 from e) qs
    split at e
    ·exact absurd (show(1:Int)=0 from e) qs
    exact absurd (show(2:Int)=0 from e) qs
   have l:=El w.b3 a.N m h.ref ω o;generalize allocH w.W a.a2 a.N=f at c e |-
   repeat'(first|refine gB ?_|refine gS (λb=>?_) (λb=>?_)|fail)
   exact ka
  rw[CJ e];generalize allocH w.W a.a2 a.N=f at c e |-
  repeat'(first|refine gB ?_|refine gS (λb=>?_) (λb=>?_)|fail)
  exact ka
 rw[CJ C];by_cases D:a.b2=2\/a.b2=3\/a.b2=4
 ·rw[CL D]
  have c:=Ls w a.N (by have:=i.lens.objs;omega);by_cases e:mX w.W a.N<0
  ·rw[CL e]
   repeat'(first|refine gB ?_|refine gS (λb=>?_) (λb=>?_)|fail)
   all_goals first|omega|skip
   all_goals
    exact ka
  rw[CJ e];obtain⟨J,M,O⟩:=eZ (P5 a.N) w.W.J (by unfold mX at e;omega);have l:=zV w a (mX w.W a.N).toNat m h G J;rw[show(((mX w.W a.N).toNat:Nat):Int)=mX w.W a.N by omega]at l
  repeat'(first|refine gB ?_|refine gS (λb=>?_) (λb=>?_)|fail)
  all_goals first|omega|skip
  all_goals
   exact ka
 rw[CJ D];by_cases y:a.b2=5\/a.b2=6\/a.b2=7
 ·rw[CL y]
  have c:=B3 w a m h y
  repeat'(first|refine gB ?_|refine gS (λb=>?_) (λb=>?_)|fail)
  all_goals first|omega|skip
  all_goals
   exact ka
 rw[CJ y];by_cases E:a.b2=8
 ·rw[CL E]
  unfold qU;have d:=oW w.W.G (bj i.ker);rw[MO i.ker]at d;have c:=aQ a.N 0 1000;by_cases g:w.W.G.Calls≠100000;rotate_left
  ·rw[CJ (λx=>g x.1)]
   rw[C1 g]at d
   repeat'(first|refine gB ?_|refine gS (λb=>?_) (λb=>?_)|refine CN (d) ⟨⟨rfl,CY _⟩,tV1⟩ ?_)
   exact ka
  rw[O0 g]at d;by_cases k:0<=a.N/\a.N<=1000;rotate_left
  ·rw[CJ (λx=>k x.2.1)]
   rw[C1 k]at c
   repeat'(first|refine gB ?_|refine gS (λb=>?_) (λb=>?_)|refine CN (d) ⟨⟨rfl,CY _⟩,tV1⟩ ?_)
   exact ka
  rw[O0 k]at c;by_cases B:w.W.b1+a.N<=1000000
  ·rw[CL ⟨g,k,B⟩]
   have l:=(HB w.W a.N i k B).frame (r:=aA.enc .S w.b3) ((dR _).trans (dR _).symm)
   repeat'(first|refine gB ?_|refine gS (λb=>?_) (λb=>?_)|refine CN (d) ⟨⟨rfl,CY _⟩,tV1⟩ ?_)
   exact ka
  rw[CJ (λx=>B x.2.2)]
  repeat'(first|refine gB ?_|refine gS (λb=>?_) (λb=>?_)|refine CN (d) ⟨⟨rfl,CY _⟩,tV1⟩ ?_)
  exact ka
 rw[CJ E];by_cases F:a.b2=9
 ·rw[CL F]
  unfold qB;obtain⟨K,L⟩:=h.fit H;have d:=KW w.W K L;rw[show cw w.W=true from i.to]at d;cases g:w.W.q with
  | true=>
   rw[CL rfl]
   repeat'(first|refine gB ?_|refine gS (λb=>?_) (λb=>?_)|refine Bf.t g ?_)
   exact ka
  | false=>
   rw[CJ (by simp)];have c:=(Ej w.W i).frame (r:=aA.enc .S w.b3) ((dR _).trans (dR _).symm);cases k:(started w.W).2<;>rw[k]at c
   ·rw[CJ (by simp)]
    repeat'(first|refine gB ?_|refine gS (λb=>?_) (λb=>?_)|refine Bf.f g ?_|refine CN (d) ⟨⟨rfl,bX w.W⟩,tV1⟩ ?_)
    exact ka
   rw[CL rfl]
   repeat'(first|refine gB ?_|refine gS (λb=>?_) (λb=>?_)|refine Bf.f g ?_|refine CN (d) ⟨⟨rfl,bX w.W⟩,tV1⟩ ?_)
   exact ka
 rw[CJ F];by_cases k10:a.b2=10;rotate_left
 ·rw[CJ (λx=>k10 x.1)]
  repeat'(first|refine gB ?_|refine gS (λb=>?_) (λb=>?_)|fail)
  exact ka
 have d:=aQ a.N 0 50;by_cases g:0<=a.N/\a.N<=50
 ·rw[CL ⟨k10,g⟩]
  rw[O0 g]at d;obtain⟨n,p⟩:=v5 g.1;have c:=EI w m n h ω;rw[show a.N.toNat=n by omega];rw[<-p]at c
  repeat'(first|refine gB ?_|refine gS (λb=>?_) (λb=>?_)|fail)
  exact ka
 rw[CJ (λx=>g x.2)];rw[C1 g]at d
 repeat'(first|refine gB ?_|refine gS (λb=>?_) (λb=>?_)|fail)
 exact ka
def HR(w:bh)(h1:ac.sml w.W)(h2:aA.sml w.b3):zzA 122 false [.val (some 26) (bh.enc .S w)] .agg (bh.enc .own w):=by
 have a:=HN w.W h1;have b:=gd w.b3 h2;refine fO 10 [(1,5,[3,4,5,6,7])] Tryz.func122 rfl ?_ (.inr (bh.enc_fr _))
 refine σP ?_
 rfl
def Hz(c:cr)(acts:List fg)(h:Ea c)(b:lQ c.a3)(u:acts.length<=80):zzA 44 false [.val (some 5) (cr.enc .S c),.val none (kJ .S acts)] (.tup [some 26,none]) (bh.enc .own (xc c acts acts.length).1++aF .own (xc c acts acts.length).2):=by
 have j:=EH c h;refine fP 42 [(121,[2,0]),(2000005,[6,21,25])] [] Tryz.func44 rfl ?_ (.inr (aD (bh.enc_fr _) (bC _)))
 repeat'(first|refine gE ?_|refine Le.mk rfl rfl rfl ?_)
 refine Lp.mk (ι:=Nat) (λi=>[(1,bJ (kJ .S acts)),(4,bB [.z,.z,.z,I 0,.z,.z,.z,.z,.z,.z,.z,.z,I 0,.z,I 0,I 0,I 0,I 0,B false,I 0,I 0,.z,I 0,I 0,I 0,.z]),(6,bB (uz (xc c acts i).1)),(8,bJ (aF .own (xc c acts i).2)),(9,fN i)]) (λi=>i<=acts.length) (λi=>acts.length - i) (0) ?_ (I1 _) λi l=>?_
 ·exact wE
 have d:=xG h acts i;have a:=Hr h acts i;have e:(xc c acts i).2.length=i:=by
  clear d a l
  induction i with
  | zero=>rfl
  | succ k n=>show((xc c acts k).2++[_]).length=_;rw[O5,n];rfl
 by_cases o:i<acts.length
 ·have g:=ar o
  have p:=NT (xc c acts i).1 (nth acts i) i d ω (by unfold rfs at a;rw[a];exact b)
  repeat'(first|refine gE ?_|refine Ca cA (λr b=>by rw[z3.1 b];rfl) (by simp[bp,eO]) jp (by simp only[I2];exact vm jp qs) rfl ?_)
  (refine CR (i+1) ω ω ?_)
  repeat'(first|exact tV1|rfl| exact kI _ |exact CV rfl (CV (O1 (C.s fE.own) (by simp[xc,rI])) tV1)|refine CV ?_ ?_|(exact Ui (by first|omega|(simp only;omega)|(simp;omega))))
 obtain rfl:i=acts.length:=ω
 have q:=d.fit (by unfold rfs at a;rw[a];exact b);have t:=HR (xc c acts acts.length).1 q.1 (d.ref.sml ω)
 repeat'(first|refine gE ?_|refine CN (t) ⟨⟨rfl,WY _⟩,tV1⟩ ?_)
 rfl
def Xw(z:List Int):List C:=[.s .S (z.map rU)]
def yL(zs:List Int)(a:mQ zs):uT Tryz.prog 60 true [.val none (Xw zs)] .box (kZ zs (zy zs)):=by
 have r:=a.1;have d:IntKind.i64.wrap (98801+(zs.length:Nat))=w64 (98801+(zs.length:Nat)):=rfl;have e:tK zs 0=98801+(zs.length:Nat):=by show w64 _=_;rw[<-d];exact gf ω ω
 have g:=O1 I e;refine YJ (n:=32) (t:=2) (mo:=[]) (tb:=[]) Tryz.func60 (by kernel_rfl) rfl (by kernel_rfl) (by rfl) rfl ?_
 refine σP ?_
 refine Lp.mk (ι:=Nat) (λi=>[(0,bJ (Xw zs)),(3,fI (tK zs i)),(4,fN i)]) (λi=>i<=min zs.length 4000) (λi=>min zs.length 4000 - i) (0) ?_ (I1 _) λi u=>?_
 ·exact wE
 have h:IntKind.i64.wrap (tK zs i*131)=w64 (tK zs i*131):=rfl;have j:IntKind.i64.wrap (w64 (tK zs i*131)+nth zs i)=w64 (w64 (tK zs i*131)+nth zs i):=rfl;have k:IntKind.i64.wrap (w64 (w64 (tK zs i*131)+nth zs i)+7)=w64 (w64 (w64 (tK zs i*131)+nth zs i)+7):=rfl;have l:IntKind.i64.wrap (BitVec.ofInt IntKind.i64.bits (w64 (w64 (w64 (tK zs i*131)+nth zs i)+7)) &&& BitVec.ofInt IntKind.i64.bits 1073741823).toNat=tK zs (i+1):=rfl;by_cases b:i<zs.length/\i<4000
 ·have c:=ar b.1
  have w:=a.2 _ (ax b.1);generalize tK zs i=H at *;generalize o:tK zs (i+1)=H2 at *
  repeat'(first|refine gE ?_|with_reducible (first|refine CS h ?_|refine CS j ?_|refine CS k ?_|refine CS l ?_))
  (refine CR (i+1) ω ω ?_)
  rw[o];exact wC
 obtain rfl:i=min zs.length 4000:=ω
 have p:zy zs = ⟨0,tK zs (min zs.length 4000)⟩:=rfl;rw[p];generalize tK zs (min zs.length 4000)=H at *
 repeat'(first|refine gE ?_|refine gS (λq=>?_) (λq=>?_)|fail)
 all_goals rfl
set_option maxHeartbeats 2000000
set_option maxHeartbeats 2000000
set_option maxHeartbeats 2000000
set_option maxHeartbeats 2000000
set_option maxHeartbeats 2000000
set_option maxHeartbeats 2000000
def XP(zs:List Int)(a:zs.length<=9223372036854775807):zzA 14 false [.val none (Xw zs)] .one [B (decide ((zs.length:Int) > 1048576))]:=by
 refine fO 6 [] Tryz.func14 rfl ?_
 refine σP ?_
 rfl
def wU(zs:List Int):Nat->List Int × jL
 | 0=>([],zy zs)
 | n+1=>((wU zs n).1++[(bK zs (wU zs n).2 10000).1],(bK zs (wU zs n).2 10000).2)
def Js(zs:List Int):∀n,(wU zs n).2.i<=zs.length/\(wU zs n).1.length=n/\∀x∈(wU zs n).1,0<=x/\x<10000
 | 0=>⟨I1 _,rfl,λx a=>by cases a⟩
 | n+1=>by
  obtain⟨b,c,d⟩:=Js zs n;refine⟨cB b _,by show((wU zs n).1++[_]).length=_;rw[O5,c];rfl,λx a=>?_⟩;rcases z5.1 a with a|a
  ·exact d x a
  rw[z3.1 a];exact cx zs (wU zs n).2 (n:=10000) qs
def zd(zs:List Int)(a:mQ zs):zzA 16 false [.val none (Xw zs)] .one (aF .own (wU zs 12).1):=by
 have b:=yL zs a;refine fP 19 [(61,[2,0]),(3000003,[])] [] Tryz.func16 rfl ?_ (.inr (bC _))
 repeat'(first|refine gP ?_|refine Cl.g b (.inr rfl) ?_)
 refine Lp.mk (ι:=Nat) (λi=>[(0,bJ (Xw zs)),(3,bB (kZ zs (wU zs i).2)),(4,bJ (aF .own (wU zs i).1)),(5,fN i)]) (λi=>i<=12) (λi=>12 - i) (0) ?_ (I1 _) λi h=>?_
 ·exact wE
 obtain⟨c,j,-⟩:=Js zs i;by_cases k:i<12
 ·have d:=cz zs (wU zs i).2 10000 a c qs
  repeat'(first|refine gE ?_|refine Ca cA (λr e=>by rw[z3.1 e];rfl) (by simp[bp,eO]) jp (by simp only[I2];exact vm jp qs) rfl ?_)
  (refine CR (i+1) ω ω ?_)
  repeat'(first|exact tV1|rfl| exact kI _ |exact WA (O1 (C.s fE.own) (by simp[wU,rI]))|refine CV ?_ ?_|(exact Ui (by first|omega|(simp only;omega)|(simp;omega))))
 obtain rfl:i=12:=ω
 refine σE ?_
 rfl
def JY(a:List Int)(d:a.length<=1048576):zzA 37 false [.val none (aF .S a),.val none (aF .S a)] .one [B true]:=by
 refine fO 26 [(6,8,[17,18,19,20,21,22,23,24])] Tryz.func37 rfl ?_
 refine σB ?_
 refine lp0 a.length (λi=>[(0,bJ (aF .S a)),(1,bJ (aF .S a)),(5,fN i)]) λi e=>?_
 by_cases b:i<a.length
 ·have c:=ar b
  refine σB ?_
  (exact cV (i+1) ω)
 refine σE ?_
 rfl
def Mc[Inhabited α](xs:List α)(j:Nat)(b:α)(a:j<xs.length)(c:Nat):nth (xs.set j b) c=if c=j then b else nth xs c:=by
 unfold nth;rw[O4,O4];by_cases h:c=j
 ·subst h;rw[CL rfl,O6 a];rfl
 rw[CJ h,List.getElem?_set_ne (λe=>h e.symm)]
def WL{c:Nat}(a:c<16):nth (List.replicate 16 false) c=false:=br (by rw[List.getElem?_replicate,CL a])
def Ba[Inhabited α]{xs:List α}{f:α->Bool}{i:Nat}(a:i<xs.length):(xs.take (i+1)).any f=((xs.take i).any f || f (nth xs i)):=by
 rw[CB,ar a,List.any_append];simp
def EL(h:ac)(p:Nat)(e:ac.sml h)(o:cw h=true)(q:p<eQ h)(r:(nth (tbl h).M p).e≠0):zzA 291 false [.val (some 3) (aT.enc .S h.G.F),.vI (p:Nat)] .one (aF .own (rq h p)):=by
 obtain⟨a,-⟩:=ku o;have c:wu h:=e.1.1.2;have g:=cT h.G.F.O (p:Nat) c;obtain⟨k,t⟩:=AN a ((p:Nat):Int);rw[gR q]at g k t;have l:=ar (xs:=h.G.F.V.T) (i:=(nth h.G.F.O.M p).j.toNat) ω;have d:=(MX a (j:=(nth h.G.F.O.M p).j.toNat) ω).1;have b:rq h p=nth h.G.F.V.T (nth h.G.F.O.M p).j.toNat:=rfl;rw[<-b]at l d;have u:(nth h.G.F.O.M p).e≠0:=r;have n:=nJ h.G.F e.1.1;rw[show dB h.G.F=true by unfold aI at a;simp only[I0]at a;exact a.1.2]at n;refine fO 26 [] Tryz.func291 rfl ?_ (.inr (bC _))
 repeat'(first|refine gB ?_|with_reducible refine CQ k (aa l) ?_|refine CG (eP (rq h p) ω) ?_)
 rfl
def Ue(h:ac)(p c:Nat)(s:aB):Bool:=decide (s.Q∈aX h (p:Nat))&&kM s c
def nh(h:ac)(p:Nat):List Bool:=(List.range 16).map (yb h p)
def yN(h:ac)(p:Nat){c:Nat}(a:c<16):nth (nh h p) c=yb h p c:=br (by unfold nh;simp[a])
def E8(h:ac)(p:Nat)(O:ac.sml h)(W:cw h=true)(hp:p<eQ h):zzA 292 false [.val (some 24) (ac.enc .S h),.vI (p:Nat)] .one (lH .own (nh h p)):=by
 obtain⟨k1,X,-⟩:=ku W;have Y:=nu.of X;have E:wu h:=O.1.1.2;have Z:eQ h<=1048576:=E.1;have hl1:=O.2.2.1.1;have hl2:=O.2.2.2.1.1;have P:=jO h (p:Nat) E;have hpl:=gh h (p:Nat);refine fO 71 [] Tryz.func292 rfl ?_ (.inr (QM _))
 repeat'(first|refine gP ?_|refine Mk.mk 16 rfl rfl qs qs rfl ?_)
 refine mD (ι:=Nat × List Bool) (λq=>[(1,fN p),(2,bB (ac.enc .S h)),(5,bJ (lH .own q.2)),(6,bJ (aF .own (aX h (p:Nat)))),(19,bJ (bY .S h.K)),(20,fI h.K.length),(21,fN (q.1))]) (λq=>q.1<=h.K.length/\q.2.length=16/\∀c,c<16->nth q.2 c=(h.K.take q.1).any (Ue h p c)) (λq=>h.K.length - q.1) ((0,List.replicate 16 false)) (⟨I1 _,by simp,λc j=>WL j⟩) λq Q=>?_
 obtain⟨i,L⟩:=q;obtain⟨hi,y,t⟩:=Q;simp only at hi y t |-;by_cases B:i<h.K.length
 ·have J:=ar B
  have K:=oe (aX h (p:Nat)) (nth h.K i).Q ω;by_cases e:(nth h.K i).Q∈aX h (p:Nat)
  ·rw[O0 e]at K
   have c3:=rr (nth h.K i) (Y.sok _ (ax B));have hcl:=rP (nth h.K i) 16
   repeat'(first|refine gE ?_|refine CN (K) ⟨⟨rfl,cR _⟩,⟨rfl,rfl⟩,tV1⟩ ?_)
   refine mD (ι:=Nat × List Bool) (λk=>[(1,fN p),(2,bB (ac.enc .S h)),(5,bJ (lH .own k.2)),(6,bJ (aF .own (aX h (p:Nat)))),(19,bJ (bY .S h.K)),(20,fI h.K.length),(21,fN i),(30,bJ (aF .own (lr (nth h.K i) 16))),(31,fI ((lr (nth h.K i) 16).length)),(32,fN (k.1))]) (λk=>k.1<=(lr (nth h.K i) 16).length/\k.2.length=16/\∀c,c<16->nth k.2 c=(nth L c || decide (((c:Nat):Int)∈(lr (nth h.K i) 16).take k.1))) (λk=>(lr (nth h.K i) 16).length - k.1) ((0,L)) (⟨I1 _,y,λc j=>by simp⟩) λk D=>?_
   obtain⟨k,u⟩:=k;obtain⟨D,d,g⟩:=D;simp only at D d g |-;by_cases M:k<(lr (nth h.K i) 16).length
   ·have R:=ar M
    obtain⟨c0,hc0,-,hce⟩:=Qq.1 (ax M);have a:=ar (xs:=u) (i:=(nth (lr (nth h.K i) 16) k).toNat) ω
    repeat'(first|refine gE ?_|with_reducible refine CQ ω (aa a) ?_|refine CU rfl rfl (aa a) rfl (O2 rfl) rfl ?_)
    ((conv=>whnf)
     refine CR (k+1,u.set (nth (lr (nth h.K i) 16) k).toNat true) ⟨(by simp only;omega),(by simp only;rw[C3];exact d),λc j=>?_⟩ (by simp only;omega) ?_)
    ·simp only
     rw[Mc _ _ _ ω,g c j,CB,R];by_cases F:c=(nth (lr (nth h.K i) 16) k).toNat
     ·rw[CL F]
      have:((c:Nat):Int)=nth (lr (nth h.K i) 16) k:=ω
      simp[this]
     rw[CJ F];have:((c:Nat):Int)≠nth (lr (nth h.K i) 16) k:=ω
     simp[this]
    (repeat'(first|exact tV1|rfl|exact CV rfl (CV (O1 (C.s fE.own) (by simp only[SC];rfl)) tV1)|refine CV ?_ ?_))
   obtain rfl:k=(lr (nth h.K i) 16).length:=ω
   rw[S9]at g
   refine σE ?_
   (exact cV (i+1,u) ⟨(by simp only;omega),d,λc j=>by simp only;rw[g c j,Ba B,t c j];congr 1;unfold Ue;rw[O0 e,Bool.true_and,C9,C0,Qq];exact Iff.intro (λ⟨P,_,S,h3⟩=>(show c=P by omega) ▸ S) (λS=>⟨c,j,S,rfl⟩)⟩)
  rw[C1 e]at K
  repeat'(first|refine gE ?_|refine CN (K) ⟨⟨rfl,cR _⟩,⟨rfl,rfl⟩,tV1⟩ ?_)
  (exact cV (i+1,L) ⟨(by simp only;omega),y,λc j=>by simp only;rw[Ba B,t c j];unfold Ue;rw[C1 e];simp⟩)
 obtain rfl:i=h.K.length:=ω
 rw[S9]at t
 refine σE ?_
 refine mD (ι:=Nat × List Bool) (λq=>[(1,fN p),(5,bJ (lH .own q.2)),(42,bJ (ce .S h.H)),(43,fI h.H.length),(44,fN (q.1))]) (λq=>q.1<=h.H.length/\q.2.length=16/\∀c,c<16->nth q.2 c=(nth L c || (h.H.take q.1).any λl=>b9 l (16*(p:Nat)+(c:Nat)))) (λq=>h.H.length - q.1) ((0,L)) (⟨I1 _,y,λc j=>by simp⟩) λq Q=>?_
 obtain⟨i,G⟩:=q;obtain⟨T,o,r⟩:=Q;simp only at T o r |-;by_cases B:i<h.H.length
 ·have J:=ar B
  refine σE ?_
  refine mD (ι:=Nat × List Bool) (λk=>[(1,fN p),(5,bJ (lH .own k.2)),(12,bB (aC.enc .S (nth h.H i))),(42,bJ (ce .S h.H)),(43,fI h.H.length),(44,fN i),(49,fI 16),(50,fN (k.1))]) (λk=>k.1<=16/\k.2.length=16/\∀c,c<16->nth k.2 c=(nth G c || (decide (c<k.1)&&b9 (nth h.H i) (16*(p:Nat)+(c:Nat))))) (λk=>16 - k.1) ((0,G)) (⟨I1 _,o,λc j=>by simp⟩) λk D=>?_
  obtain⟨k,u⟩:=k;obtain⟨D,d,g⟩:=D;simp only at D d g |-;by_cases M:k<16
  ·have a:=ar (xs:=u) (i:=k) ω
   have w:=g k M;rw[C1 (Nat.lt_irrefl k),Bool.false_and,Bool.or_false]at w;have U:=pk (nth h.H i) ((p:Nat)*16+(k:Nat));have V:((p:Nat):Int)*16+(k:Nat)=16*(p:Nat)+(k:Nat):=ω
   have n:∀b,b=(nth G k || b9 (nth h.H i) (16*(p:Nat)+(k:Nat)))->∀c,c<16->nth (u.set k b) c=(nth G c || (decide (c<k+1)&&b9 (nth h.H i) (16*(p:Nat)+(c:Nat)))):=λb hb c j=>by
    rw[Mc _ _ _ ω];by_cases F:c=k
    ·subst F;rw[CL rfl,hb,O0 ω,Bool.true_and]
    rw[CJ F,g c j]
    congr 2
    exact decide_eq_decide.2 ω
   cases eb:nth u k<;>rw[eb]at a w
   ·cases N:b9 (nth h.H i) ((p:Nat)*16+(k:Nat))<;>rw[N]at U<;>rw[V]at N
    ·repeat'(first|refine gE ?_|refine CU rfl rfl (aa a) rfl (O2 rfl) rfl ?_)
     ((conv=>whnf)
      refine CR (k+1,u.set k false) ⟨(by simp only;omega),(by simp only;rw[C3];exact d),n false (by rw[<-w,N];rfl)⟩ (by simp only;omega) ?_)
     (repeat'(first|exact tV1|rfl|exact CV rfl (CV (O1 (C.s fE.own) (by simp only[SC];rfl)) tV1)|refine CV ?_ ?_))
    repeat'(first|refine gE ?_|refine CU rfl rfl (aa a) rfl (O2 rfl) rfl ?_)
    ((conv=>whnf)
     refine CR (k+1,u.set k true) ⟨(by simp only;omega),(by simp only;rw[C3];exact d),n true (by rw[<-w,N];rfl)⟩ (by simp only;omega) ?_)
    (repeat'(first|exact tV1|rfl|exact CV rfl (CV (O1 (C.s fE.own) (by simp only[SC];rfl)) tV1)|refine CV ?_ ?_))
   repeat'(first|refine gE ?_|refine CU rfl rfl (aa a) rfl (O2 rfl) rfl ?_)
   ((conv=>whnf)
    refine CR (k+1,u.set k true) ⟨(by simp only;omega),(by simp only;rw[C3];exact d),n true (by rw[<-w];rfl)⟩ (by simp only;omega) ?_)
   (repeat'(first|exact tV1|rfl|exact CV rfl (CV (O1 (C.s fE.own) (by simp only[SC];rfl)) tV1)|refine CV ?_ ?_))
  obtain rfl:k=16:=ω
  refine σE ?_
  (exact cV (i+1,u) ⟨(by simp only;omega),d,λc j=>by simp only;rw[g c j,Ba B,r c j,O0 j,Bool.true_and,Bool.or_assoc]⟩)
 obtain rfl:i=h.H.length:=ω
 rw[S9]at r;have H:G=nh h p:=Qc (by rw[o];simp[nh]) λc j=>by
  rw[o]at j;rw[yN h p j,r c j,t c j]
  rfl
 rw[H]
 refine σE ?_
 rfl
def BL(h:ac)(p:Nat)(g:ac.sml h)(d:cw h=true)(l:p<eQ h)(C:(nth (tbl h).M p).e≠0):zzA 128 false [.val (some 24) (ac.enc .S h),.vI (p:Nat)] .one [B (lL h p)]:=by
 have cH:=cJ h g;rw[dM,d]at cH;obtain⟨t,-⟩:=ku d;obtain⟨D,E⟩:=AN t ((p:Nat):Int);rw[gR l]at D E;have n:(rq h p).length=16:=(MX t (j:=(nth h.G.F.O.M p).j.toNat) ω).1;have F:(nh h p).length=16:=by simp[nh]
 have o:(rq h p).map (rI .own)≠[]:=λe=>by have:=O1 List.length e;rw[I2,n]at this;cases this
 refine fO 39 [] Tryz.func128 rfl ?_
 repeat'(first|refine gP ?_|refine CG (EL h p g d l C) ?_|refine Nn.mk o ?_|refine CG (E8 h p g d l) ?_)
 refine gK 16 (λk=>[(5,bJ (aF .own (rq h p))),(6,bJ (lH .own (nh h p))),(22,.c2 5 0 [] none),(23,fI 16),(24,fN k)]) (λk=>dq k (λc=>decide (nth (rq h p) c=0) || yb h p c)=true) rfl λk u=>?_
 obtain⟨u,q⟩:=u;by_cases w:k<16
 ·have a:=ar (xs:=rq h p) (i:=k) ω
  have b:=ar (xs:=nh h p) (i:=k) ω;rw[yN h p w]at b;by_cases y:nth (rq h p) k=0
  ·refine σB ?_
   (exact cV (k+1) ⟨ω,bF q (by rw[O0 y];rfl)⟩)
  cases r:yb h p k<;>rw[r]at b
  ·refine σB ?_
   exact bZ ((cC w (by rw[C1 y,r];rfl)).symm)
  refine σB ?_
  (exact cV (k+1) ⟨ω,bF q (by rw[r,Bool.or_true])⟩)
 obtain rfl:k=16:=ω
 refine σE ?_
 exact bZ (q.symm)
set_option maxHeartbeats 2000000
def RO(h:jm w.W w.b3=false):oH w=false:=by unfold oH;rw[h];rfl
def QV(h:lW (dw w.W)=false):oH w=false:=by unfold oH;rw[h];simp
def Gk(h1:jm w.W w.b3=true)(h2:lW (dw w.W)=true):oH w=dq (eQ w.W) (lX w.W):=by unfold oH;rw[h1,h2];rfl
def Hk{r:aA}(e:jm h r=true):cw h=true:=by unfold jm at e;simp only[I0]at e;exact e.1.1
def HD(w:bh)(H:bh.sml w):zzA 45 false [.val (some 26) (bh.enc .S w)] .one [B (oH w)]:=by
 obtain⟨b,r⟩:=H;have n:=Hf w.W w.b3 b r;cases o:jm w.W w.b3<;>rw[o]at n
 ·refine fO 64 [] Tryz.func45 rfl ?_
  refine σP ?_
  exact bZ ((RO o).symm)
 have u:=Hk o;have J:eQ w.W=w.W.G.F.O.M.length:=rfl;have i:aO.sml w.W.G.F.O:=b.1.1.2;have K:eQ w.W<=1048576:=i.1;have D:=MY w.W b u;have E:=AD w.W b u;have y:=xn (dw w.W);cases C:lW (dw w.W)<;>rw[C]at y
 ·refine fO 64 [] Tryz.func45 rfl ?_
  refine σE ?_
  exact bZ ((QV C).symm)
 rw[Gk o C];refine fO 64 [] Tryz.func45 rfl ?_
 refine σE ?_
 refine gK (eQ w.W) (λp=>[(1,bB (bh.enc .S w)),(31,fI (eQ w.W:Nat)),(32,fN p)]) (λp=>dq p (lX w.W)=true) rfl λp F=>?_
 obtain⟨F,j⟩:=F;by_cases q:p<eQ w.W
 ·have c:=fQ w.W.G (p:Nat) i
  rw[gR q]at c;by_cases k:(nth w.W.G.F.O.M p).e=0
  ·rw[C1 (λh=>h k)]at c
   cases a:w.W.q
   all_goals
    repeat'(first|refine gE ?_|refine gS (λd=>?_) (λd=>?_)|refine Bf.t a ?_|refine Bf.f a ?_)
    all_goals((conv=>whnf);exact cV (p+1) ⟨ω,bF j (by unfold lX;rw[O0 (show(nth (tbl w.W).M p).e=0 from k)];rfl)⟩)
  rw[O0 k]at c;have l:decide ((nth (tbl w.W).M p).e=0)=false:=C1 k;have e:=BL w.W p b u q k;cases a:w.W.q
  ·cases g:lL w.W p<;>rw[g]at e
   ·repeat'(first|refine gE ?_|refine Bf.t a ?_|refine Bf.f a ?_)
    exact bZ ((cC q (by unfold lX;rw[l,a,g];rfl)).symm)
   repeat'(first|refine gE ?_|refine Bf.t a ?_|refine Bf.f a ?_)
   (exact cV (p+1) ⟨ω,bF j (by unfold lX;rw[g];simp)⟩)
  by_cases G:((p:Nat):Int)=w.W.a.X.a4
  ·repeat'(first|refine gB ?_|refine gS (λd=>?_) (λd=>?_)|refine Bf.t a ?_|refine Bf.f a ?_)
   (exact cV (p+1) ⟨ω,bF j (by unfold lX;rw[a,O0 G];simp)⟩)
  cases g:lL w.W p<;>rw[g]at e
  ·repeat'(first|refine gB ?_|refine gS (λd=>?_) (λd=>?_)|refine Bf.t a ?_|refine Bf.f a ?_)
   exact bZ ((cC q (by unfold lX;rw[l,a,g,C1 G];rfl)).symm)
  repeat'(first|refine gB ?_|refine gS (λd=>?_) (λd=>?_)|refine Bf.t a ?_|refine Bf.f a ?_)
  (exact cV (p+1) ⟨ω,bF j (by unfold lX;rw[g];simp)⟩)
 obtain rfl:p=eQ w.W:=ω
 refine σE ?_
 exact bZ (j.symm)
def kU(r:aA)(c:aA.sml r):zzA 403 false [.val (some 2) (aA.enc .S r)] .agg (aA.enc .own r):=by
 have e:r.J.length<=1048576:=c.1;refine fO 29 [(5,264,[16,17,18,19,20,21,22,26,0,1,2,3,4,5,6,7,1000,1001,8,1000,1001,9,10,11])] Tryz.func403 rfl ?_ (.inr (aA.enc_fr _))
 refine σP ?_
 refine lp0 r.J.length (λi=>[(2,bB [I 0,.z]),(3,bB [I r.b,.s .own ((r.J.take i).map (aS.enc .own))]),(10,bJ ([.s .S (r.J.map (aS.enc .S))])),(11,fI r.J.length),(12,fN i)]) λi g=>?_
 by_cases a:i<r.J.length
 ·have d:=ar a
  have b:(nth r.J i).T.length<=1048576:=c.2 _ (ax a)
  repeat'(first|refine gE ?_|refine CG (eP (nth r.J i).T b) ?_|refine Ci (aM λ_=>rfl) rfl jp qs (gv a) ?_)
  (exact cV (i+1) ω)
 refine σE ?_
 obtain rfl:i=r.J.length:=ω
 rw[S9]
 rfl
def zQ(w:bh)(h1:ac.sml w.W)(h2:aA.sml w.b3):zzA 261 false [.val (some 26) (bh.enc .S w)] .agg (bh.enc .own w):=by
 have a:=jC w.W h1;have b:=kU w.b3 h2;refine fO 10 [(1,5,[3,4,5,6,7])] Tryz.func261 rfl ?_ (.inr (bh.enc_fr _))
 refine σP ?_
 rfl
def vE(o:bg)(a:fg):zzA 263 false [.val (some 4) (bg.enc .S o),.ptr (fg.enc .S a)] .one [B (cM a.N o)]:=by
 refine fO 9 [] Tryz.func263 rfl ?_
 refine σP ?_
 exact bZ ((by unfold cM;rw[C9];simp))
def lF(sp:List aB)(ps:List Int)(b:Int):Nat->Int
 | 0=>b
 | j+1=>if(nth sp j).Q∈ps then bor (lF sp ps b j) (nth sp j).a9 else lF sp ps b j
def AE{sp:List aB}(h:∀s∈sp,bk s=true){ps:List Int}{b:Int}(a:0<=b/\b<=65535):∀j,j<=sp.length->0<=lF sp ps b j/\lF sp ps b j<=65535
 | 0,_=>a
 | j+1,d=>by
  have c:=AE h (ps:=ps) a j ω;simp only[lF];split
  ·exact Ng c (oU h ω)
  exact c
def tZ(h:ac)(i:Nat)(n:eN h.K)(c:wu h)(a:∀s∈h.K,bk s=true)(t:i<h.K.length):zzA 336 false [.val (some 24) (ac.enc .S h),.vI (i:Nat)] .one [I (lF h.K (aX h (nth h.K i).Q) (nth h.K i).a9 h.K.length)]:=by
 have C:=n.1;have u:=ar t;have d:=oU a t;have w:=aK ((i:Nat):Int) 0 ((h.K.length:Int) - 1);rw[O0 (show(0:Int)<=(i:Nat)/\((i:Nat):Int)<=(h.K.length:Int) - 1 by omega)]at w;have y:=jO h (nth h.K i).Q c;have o:=gh h (nth h.K i).Q;have D:eQ h<=1048576:=c.1;obtain⟨ps,p⟩ : ∃ps,aX h (nth h.K i).Q=ps:=⟨_,rfl⟩
 obtain⟨b,q⟩ : ∃b,(nth h.K i).a9=b:=⟨_,rfl⟩
 rw[p]at y o |-;rw[q]at d |-;have E:lF h.K ps b 0=b:=rfl;refine fO 47 [(4,7,[22,23,24,25,26,27,28])] Tryz.func336 rfl ?_
 refine σP ?_
 refine lp0 h.K.length (λj=>[(5,fI (lF h.K ps b j)),(6,bJ (aF .own ps)),(31,bJ (bY .S h.K)),(32,fI (h.K.length:Nat)),(33,fN j)]) λj F=>?_
 by_cases B:j<h.K.length
 ·have k:=ar B
  have r:=AE a (ps:=ps) d j F;have l:=uj ps (nth h.K j).Q ω;by_cases e:(nth h.K j).Q∈ps
  ·have g:lF h.K ps b (j+1)=bor (lF h.K ps b j) (nth h.K j).a9:=CL e
   rw[O0 e]at l
   repeat'(first|refine gE ?_|refine CS (or64 r (oU a B)) ?_|refine CN (l) ⟨⟨rfl,cR _⟩,⟨rfl,rfl⟩,tV1⟩ ?_)
   (exact cV (j+1) ω)
  have g:lF h.K ps b (j+1)=lF h.K ps b j:=CJ e;rw[C1 e]at l
  repeat'(first|refine gE ?_|refine CN (l) ⟨⟨rfl,cR _⟩,⟨rfl,rfl⟩,tV1⟩ ?_)
  (exact cV (j+1) ω)
 obtain rfl:j=h.K.length:=ω
 refine σE ?_
 rfl
def TT(a b:Int)(k:Nat):(bor a b).toNat.testBit k=true↔a.toNat.testBit k=true\/b.toNat.testBit k=true:=by
 unfold bor;rw[t5,Nat.testBit_or,CD]
def Q5(sp:List aB)(p b:Int)(k:Nat):∀j,(sE sp p b j).toNat.testBit k=true↔b.toNat.testBit k=true\/∃i,i<j/\(nth sp i).Q=p/\(nth sp i).a9.toNat.testBit k=true
 | 0=>by simp[sE]
 | j+1=>by
  have g:=Q5 sp p b k j;simp only[sE];split
  ·rename_i e
   rw[TT,g];constructor
   ·rintro((h|⟨i,d,a,c⟩)|h)
    ·exact .inl h
    ·exact .inr ⟨i,ω,a,c⟩
    exact .inr ⟨j,ω,e,h⟩
   rintro(h|⟨i,d,a,c⟩)
   ·exact .inl (.inl h)
   by_cases f:i=j
   ·subst f;exact .inr c
   exact .inl (.inr ⟨i,ω,a,c⟩)
  rename_i e;rw[g];constructor
  ·rintro(h|⟨i,d,a,c⟩)
   ·exact .inl h
   exact .inr ⟨i,ω,a,c⟩
  rintro(h|⟨i,d,a,c⟩)
  ·exact .inl h
  by_cases f:i=j
  ·subst f;exact absurd a e
  exact .inr ⟨i,ω,a,c⟩
def K7(sp:List aB)(ps:List Int)(b:Int)(k:Nat):∀m,(jK sp ps b m).toNat.testBit k=true↔b.toNat.testBit k=true\/∃u,u<m/\∃i,i<sp.length/\(nth sp i).Q=nth ps u/\(nth sp i).a9.toNat.testBit k=true
 | 0=>by simp[jK]
 | m+1=>by
  have c:=K7 sp ps b k m;simp only[jK];rw[Q5,c];constructor
  ·rintro((h|⟨u,d,a⟩)|h)
   ·exact .inl h
   ·exact .inr ⟨u,ω,a⟩
   exact .inr ⟨m,ω,h⟩
  rintro(h|⟨u,d,a⟩)
  ·exact .inl (.inl h)
  by_cases e:u=m
  ·subst e;exact .inr a
  exact .inl (.inr ⟨u,ω,a⟩)
def Kv(sp:List aB)(ps:List Int)(b:Int)(k:Nat):∀j,(lF sp ps b j).toNat.testBit k=true↔b.toNat.testBit k=true\/∃i,i<j/\(nth sp i).Q∈ps/\(nth sp i).a9.toNat.testBit k=true
 | 0=>by simp[lF]
 | j+1=>by
  have g:=Kv sp ps b k j;simp only[lF];split
  ·rename_i e
   rw[TT,g];constructor
   ·rintro((h|⟨i,d,a,c⟩)|h)
    ·exact .inl h
    ·exact .inr ⟨i,ω,a,c⟩
    exact .inr ⟨j,ω,e,h⟩
   rintro(h|⟨i,d,a,c⟩)
   ·exact .inl (.inl h)
   by_cases f:i=j
   ·subst f;exact .inr c
   exact .inl (.inr ⟨i,ω,a,c⟩)
  rename_i e;rw[g];constructor
  ·rintro(h|⟨i,d,a,c⟩)
   ·exact .inl h
   exact .inr ⟨i,ω,a,c⟩
  rintro(h|⟨i,d,a,c⟩)
  ·exact .inl h
  by_cases f:i=j
  ·subst f;exact absurd a e
  exact .inr ⟨i,ω,a,c⟩
def Uh{sp:List aB}(h:∀s∈sp,bk s=true){ps:List Int}{b:Int}(f:0<=b/\b<=65535):lF sp ps b sp.length=jK sp ps b ps.length:=by
 have a:=AE h (ps:=ps) f sp.length (C5 _);have c:=oh h (ps:=ps) f ps.length;have e:(lF sp ps b sp.length).toNat=(jK sp ps b ps.length).toNat:=by
  apply Nat.eq_of_testBit_eq;intro k;rw[C9,Kv,K7];constructor
  ·rintro(h|⟨i,a,c,d⟩)
   ·exact .inl h
   obtain⟨u,g⟩:=List.getElem?_of_mem c;exact .inr ⟨u,(C4.1 g).1,i,a,(br g).symm,d⟩
  rintro(h|⟨u,a,i,c,d,j⟩)
  ·exact .inl h
  exact .inr ⟨i,c,by rw[d];exact ax a,j⟩
 omega
def yY{i:Nat}(a:∀s∈h.K,bk s=true)(b:i<h.K.length):lF h.K (aX h (nth h.K i).Q) (nth h.K i).a9 h.K.length=f6 h i:=Uh a (oU a b)
def B6(h:ac)(a:∀o∈h.J,0<=o.k/\o.k<=1000)(e:h.J.length<=1048576):zzA 18 false [.val (some 24) (ac.enc .S h)] .one [I (pB h)]:=by
 refine fO 19 [] Tryz.func18 rfl ?_
 refine σP ?_
 refine lp0 h.J.length (λk=>[(3,fI (uK h.J k)),(7,bJ (pG .S h.J)),(8,fI h.J.length),(9,fN k)]) λk d=>?_
 have g:=pW a k d;by_cases b:k<h.J.length
 ·have c:=ar b
  have i:=a _ (ax b)
  refine σE ?_
  (exact cV (k+1) ω)
 obtain rfl:k=h.J.length:=ω
 refine σE ?_
 rfl
def sA(k b:Int)(e:b<=9223372036854775807):zzA 334 false [.vI (slots k),.vI b] .one (aF .own (qF k b)):=by
 have c:=tW k b;have n:0<=slots k/\slots k<=16:=by unfold slots;repeat' split<;>omega
 unfold qF;cases g:Rf k b<;>rw[g]at c
 ·rw[CJ (by simp)]
  refine fO 26 [] Tryz.func334 rfl ?_ (.inr (bC _))
  repeat'((conv=>whnf);first|with_reducible (first|refine Lm ?_|refine Wm ω ?_|refine Bn ?_|refine j8.wk rfl ?_)|refine Bt ?_|refine Bu ?_|refine CG (c) ?_)
  all_goals exact⟨rfl,tV1⟩
 rw[CL rfl];refine fO 26 [] Tryz.func334 rfl ?_ (.inr (bC _))
 refine σP ?_
 refine lp0 ((slots k).toNat) (λj=>[(0,fI (slots k)),(1,fI b),(5,bJ (aF .own (nU b j))),(6,fN j)]) λj o=>?_
 have h:=td b j;by_cases p:j<(slots k).toNat
 ·have d:=iu b (j:Nat) e
  have a:nU b (j+1)=if bc b (j:Nat)=true then nU b j else nU b j++[((j:Nat):Int)]:=rfl
  cases i:bc b (j:Nat)<;>rw[i]at d a
  ·rw[CJ (by simp)]at a
   repeat'(first|refine gE ?_|refine Ca cA (λr l=>by rw[z3.1 l];rfl) (by simp[bp,eO]) jp (by simp only[I2];exact vm jp qs) rfl ?_)
   (refine CR (j+1) ω ω ?_)
   rw[a]
   repeat'(first|exact tV1|rfl| exact kI _ |exact CV rfl (CV (O1 (C.s fE.own) (by simp[rI])) tV1)|refine CV ?_ ?_|(exact Ui (by first|omega|(simp only;omega)|(simp;omega))))
  rw[CL rfl]at a
  refine σE ?_
  (refine CR (j+1) ω ω ?_)
  rw[a];exact wC
 obtain rfl:j=(slots k).toNat:=ω
 refine σE ?_
 rfl
def EW(b i:Int)(d:0<=b/\b<=65535)(a:0<=i/\i<=15):zzA 338 false [.vI b,.vI i] .one [I (iP b i)]:=by
 have c:=th b i;rw[O0 ω]at c;have e:=(or64 (z1:=b) (z2:=2 ^ i.toNat) d (by have:=shl64 a;omega)).trans (Gd b i);refine fO 14 [] Tryz.func338 rfl ?_
 repeat'(first|refine gP ?_|refine CT ω ?_|refine CS (shl64 a).1 ?_|refine CS e ?_)
 rfl
def F7(f:aZ)(i:Nat):aZ.enc .own ⟨f.T,f.a6.set i true⟩ = [.s .own (f.T.map (aF .own)),.s .own ((f.a6.map (rB .own)).set i (rB .own true))]:=by
 simp[aZ.enc,SC]
def yK(f:aZ):aZ × Int × Bool:=
 if bU (λu=>!u) f.a6<0 then(f,-1,false) else(⟨f.T,f.a6.set (bU (λu=>!u) f.a6).toNat true⟩,bU (λu=>!u) f.a6,true)
def B9(f:aZ)(l:dE f=true)(b:aZ.sml f):zzA 460 false [.val (some 2) (aZ.enc .S f)] (.tup [some 2,none,none]) (aZ.enc .own (yK f).1++[I (yK f).2.1,B (yK f).2.2]):=by
 have n:=rp f b;have h:=pi f b;rw[l]at h;have p:f.a6.length<=1048576:=b.2;refine fO 30 [] Tryz.func460 rfl ?_ (.inr (aD (aZ.enc_fr _) ⟨tV1,tV1,tV1⟩))
 refine σP ?_
 refine gK f.a6.length (λi=>[(2,bB [.z,.z]),(5,bB (aZ.enc .own f)),(13,bJ (lH .S f.a6)),(14,fI f.a6.length),(15,fN i)]) (λi=>∀(j:Nat)(z:Bool),j<i->f.a6[j]? = some z->(!z)=false) (λj z q=>ω) λi k=>?_
 obtain⟨k,c⟩:=k;by_cases o:i<f.a6.length
 ·have a:=ar o
  cases e:nth f.a6 i<;>rw[e]at a
  ·have d:bU (λu=>!u) f.a6=(i:Nat):=df a rfl c
   have g:yK f=((⟨f.T,f.a6.set i true⟩ : aZ),((i:Nat):Int),true):=by unfold yK;rw[d,CJ ω];rfl
   rw[g];simp only;rw[F7]
   repeat'(first|refine gE ?_|refine CU rfl rfl (aa a) rfl (O2 rfl) rfl ?_)
   rfl
  refine σE ?_
  (exact cV (i+1) ⟨ω,fh a rfl c⟩)
 have d:bU (λu=>!u) f.a6 = -1:=eY ω c;have g:yK f=(f,-1,false):=by unfold yK;rw[d];rfl
 rw[g]
 refine σE ?_
 rfl
variable{r:List C}{rows:List (List C)}
def fj.fzAt{w:World}{S F:am}{o:fE}{v:Value}(h:fj w S F (.s o rows) v)(ho:o≠.S)(D:rows[k]? = some r) :
  ∃V:am,(∀b q,V b q->F b q)/\fj w (λb q=>S b q\/V b q) (λb q=>F b q/\¬V b q) (.s o (rows.set k (eJ r))) v:=by
 cases h with
 | nil=>simp at D
 | S=>exact absurd rfl ho
 | own _ _ g K n O _ u f P Q M E G X hu N Y Z=>
  have A:k<n:=by have:=(C4.1 D).1;omega
  have hq:∀j,j<K->(k*K+j) / K=k:=λj a=>by
   rw[Nat.mul_comm,Nat.mul_add_div ω,Nat.div_eq_of_lt a,Nat.add_zero]
  refine⟨λb q=>∃j,j<K/\f (k*K+j) b q,λb q ⟨j,a,l⟩=>(N _ (fx A a) b q l).1,?_⟩;refine .own _ o g K n O _ u (λq=>if q / K=k then NO else f q) P (by simpa using Q) (λr' R=>?_) E G (λq d=>⟨⟨(X q d).1,λ⟨j,a,l⟩=>(N _ (fx A a) _ _ l).2 ⟨rfl,d⟩⟩,(X q d).2⟩) hu (λq d b y l=>?_) (λq T h1 h2 h3 b y H J=>?_) (λi j r' c L a=>?_)
  ·rcases OD R with h|rfl
   ·exact M _ h
   rw[cj,I2];exact M _ (t4 D)
  ·replace l:(if q / K=k then NO else f q) b y:=l
   split at l
   ·exact l.elim
   rename_i B;refine⟨⟨(N q d b y l).1,λ⟨j,a,U⟩=>Y q (k*K+j) d (fx A a) (λe=>B (by rw[e];exact hq j a)) b y l U⟩,(N q d b y l).2⟩
  ·replace H:(if q / K=k then NO else f q) b y:=H
   replace J:(if T / K=k then NO else f T) b y:=J;split at H
   ·exact H.elim
   split at J
   ·exact J.elim
   exact Y q T h1 h2 h3 b y H J
  by_cases e:i=k
  ·subst e
   have W:(rows.set i (eJ r))[i]? = some (eJ r):=by
    rw[O6 ω]
   rw[W]at L;obtain rfl:=Option.some.inj L;rw[cj,I5]at a;cases p:r[j]? with
   | none=>rw[p]at a;cases a
   | some c'=>
    rw[p]at a;simp only[IA,C2]at a;subst a;have t:=(uQ Q M D p).2;show fj w _ (if(i*K+j) / K=i then NO else f (i*K+j)) _ _;rw[CL (hq j t)];exact(Z i j r c' D p).freeze.mono (λb o h=>h.elim .inl λh=>.inr ⟨j,t,h⟩) (λ_ _ h=>h)
  rw[List.getElem?_set_ne ω]at L;have t:=(uQ Q M L a).2;have B:¬(i*K+j) / K=k:=by
   rw[Nat.mul_comm,Nat.mul_add_div ω,Nat.div_eq_of_lt t,Nat.add_zero];exact e
  show fj w _ (if(i*K+j) / K=k then NO else f (i*K+j)) _ _;rw[CJ B];exact(Z i j r' c L a).mono (λ_ _ h=>.inl h) (λ_ _ h=>h)
def dz.fzAt{w:World}{S F:am}{cs:List C}{u:Nat->Value}(h:dz w S F cs u){off:Nat}{o:fE}(B:cs[off]? = some (.s o rows))(G:o≠.S)(H:rows[k]? = some r) :
  ∃V:am,(∀b q,V b q->F b q)/\dz w (λb q=>S b q\/V b q) (λb q=>F b q/\¬V b q) (cs.set off (.s o (rows.set k (eJ r)))) u:=by
 obtain⟨f,D,y,t⟩:=h;have i:=(C4.1 B).1;obtain⟨V,E,J⟩:=(D off _ B).fzAt G H;refine⟨V,λb q A=>y off i b q (E b q A),λj=>if j=off then(λb q=>f off b q/\¬V b q) else f j,λj c g=>?_,λj g b q d=>?_,λj p g l n b q d a=>?_⟩
 ·by_cases e:j=off
  ·subst e
   rw[O6 i]at g;obtain rfl:=Option.some.inj g;simpa using J
  rw[List.getElem?_set_ne ω]at g;show fj w _ (if j=off then _ else f j) _ _;rw[CJ e];exact(D j c g).mono (λ_ _ h=>.inl h) (λ_ _ h=>h)
 ·rw[C3]at g
  replace d:(if j=off then(λb q=>f off b q/\¬V b q) else f j) b q:=d;split at d
  ·exact⟨y off i b q d.1,d.2⟩
  rename_i e;exact⟨y j g b q d,λA=>t j off g i e b q d (E b q A)⟩
 rw[C3]at g l;replace d:(if j=off then(λb q=>f off b q/\¬V b q) else f j) b q:=d;replace a:(if p=off then(λb q=>f off b q/\¬V b q) else f p) b q:=a;split at d
 ·rename_i e
  rw[CJ ω]at a;exact t j p g l n b q (e ▸ d.1) a
 split at a
 ·rename_i e
  exact t j p g l n b q d (e ▸ a.1)
 exact t j p g l n b q d a
variable{rcs:List C}
def au.fzAt{P:Program}{f:Nat}{sh:Bool}{A:List RA}{k:Kd}(h:au P f sh A k rcs){off:Nat}{o:fE}(g:rcs[off]? = some (.s o rows))(i:o≠.S){j:Nat}(l:rows[j]? = some r) :
  au P f sh A k (rcs.set off (.s o (rows.set j (eJ r)))):=by
 obtain⟨n,p⟩:=h;refine⟨n,λw S t u y=>(p w S t u y).mono λe w1 B=>?_⟩;obtain⟨v,D,E,X,S1,d,F,G,H,J⟩:=B;obtain⟨V,K,L⟩:=J.fzAt g i l;refine⟨v,D,E,_,_,λb q c=>d b q c.1,λb q c=>?_,λb q c a=>?_,by rw[C3];exact H,L⟩
 ·rcases c with c|c
  ·exact F b q c
  exact .inr (d b q (K b q c))
 rcases a with a|a
 ·exact G b q c.1 a
 exact c.2 a
def aU.noS{P:Program}{f:Nat}{A B:List MA}{k:Kd}(h:aU P f true A B k rcs)(d:∀(w:World)(S:am)(V:Nat->am)(vs:List Value),RZ w S V A vs->RZ w NO V A vs):aU P f false A B k rcs:=by
 obtain⟨g,j⟩:=h;refine⟨g,λw S V vs L l c n=>(j w NO V vs (λ_ _ h=>h.elim) (λi b o a=>⟨(l i b o a).1,λh=>h.elim⟩) c (d w S V vs n)).mono λe w1 p=>?_⟩;obtain⟨v,q,r,X,t,S1,u,y,D,E,F,G,H,J,K,a10⟩:=p;exact⟨v,q,r,X,t,S1,u,y,λb o a=>(D b o a).elim (λh=>h.2.elim) .inr,E,F,G,H,J,K,a10.mono λb o a=>a.elim (λh=>h.elim) .inr⟩
def Zv(c:aE)(k:Nat):List C:=if 0<(nth c.Y k).length then [.s .own ((c.Y.map (aF .own)).set k (aF .S ((nth c.Y k).take ((nth c.Y k).length - 1)))),I (nth (nth c.Y k) ((nth c.Y k).length - 1)),B true] else aE.enc .own c++[I (-1),B false]
def B4(c:aE)(k:Nat)(r:bx c=true)(P:k<=3):zzB 186 false [.mut (some 1) (aE.enc .own c),.vI (k:Nat)] [.mut (some 1) (aE.enc .own c),.vI (k:Nat)] (.tup [some 1,none,none]) (Zv c k):=by
 obtain⟨Q,t⟩:=eX r;have d:aE.sml c:=⟨ω,λl C=>by have:=t l C;show l.length<=1048576;omega⟩
 have e:=uW c k d;rw[r,O0 ω]at e;have a:=nB (c:=c) (k:=k) ω;have D:=t _ (ax (xs:=c.Y) (i:=k) ω);refine aU.noS ?_ λw S V E F=>?_
 case refine_2=>
  match E,F with
  | [v,R],⟨⟨G,u,H,J⟩,⟨K,L,M,N⟩,_⟩=>
   exact⟨⟨G,u,H,J.fresh (Cv c)⟩,⟨K,L,M,N.fresh ⟨tV1,tV1⟩⟩,tV1⟩
 unfold Zv;by_cases y:0<(nth c.Y k).length
 ·rw[CL y]
  have g:zzA 182 false [.val (some 1) (aE.enc .S c)] .agg [.s .own ((c.Y.map (aF .own)).set k (aF .S (nth c.Y k)))]:=by
   have h:=(iZ c d).fzAt (off:=0) (o:=.own) (rows:=c.Y.map (aF .own)) rfl (by simp) (j:=k) (aa a);rw[cR]at h;exact h
  have n:((c.Y.map (aF .own)).set k (aF .S (nth c.Y k)))[k]? = some (aF .S (nth c.Y k)):=O6 (by rw[I2];omega);have B:=ar (xs:=nth c.Y k) (i:=(nth c.Y k).length - 1) ω;have b:(nth c.Y k)[(((nth c.Y k).length:Int) - 1).toNat]? = some (nth (nth c.Y k) ((nth c.Y k).length - 1)):=by rw[show(((nth c.Y k).length:Int) - 1).toNat=(nth c.Y k).length - 1 by omega];exact B
  have p:((((nth c.Y k).length:Nat):Int) - 1)=(((nth c.Y k).length - 1:Nat):Int):=ω
  have O:((c.Y.map (aF .own)).set k (aF .S (nth c.Y k))).set k (aF .S ((nth c.Y k).take ((nth c.Y k).length - 1)))=(c.Y.map (aF .own)).set k (aF .S ((nth c.Y k).take ((nth c.Y k).length - 1))):=List.set_set ..;rw[<-O];refine fM 54 [] [(6,10,[41,42,43,44,45,46,47,48,49,50])] [(2,0),(0,0)] Tryz.func186 rfl (λu q=>?_) (.inl rfl)
  repeat'(first|refine gB ?_|refine CM rfl n rfl ?_|refine CN (e) ⟨⟨rfl,Cm c⟩,⟨rfl,rfl⟩,tV1⟩ ?_|refine CN (g) ⟨⟨rfl,Cm c⟩,tV1⟩ ?_|refine CQ ω (aa b) ?_|refine CK n ?_|refine Rw.two rfl (aa a) rfl rfl (aa b) rfl ?_|refine Cc ((nth c.Y k).length - 1) p (by rw[I2];omega) (aM λ_=>rfl) (TG _ _) ?_|refine CU rfl rfl n rfl (O2 rfl) rfl ?_)
  exact ka
 rw[CJ y];have g:=iZ c d;refine fM 54 [] [(6,10,[41,42,43,44,45,46,47,48,49,50])] [(2,0),(0,0)] Tryz.func186 rfl (λu q=>?_) (.inl rfl)
 repeat'(first|refine gB ?_|refine CN (e) ⟨⟨rfl,Cm c⟩,⟨rfl,rfl⟩,tV1⟩ ?_|refine CN (g) ⟨⟨rfl,Cm c⟩,tV1⟩ ?_)
 exact ka
set_option maxRecDepth 100000
def Lu:∀w,(zeroValue 325).run Tryz.prog w=.ok (.agg #[.int .i64 0,.slice none 0 0]) w:=λ_=>by kernel_rfl
theorem ET:xm Tryz.prog 503 2:=by
 refine⟨⟨_,Tryz.func503,by kernel_rfl,by kernel_rfl⟩,λw g n c i news p r l y B b=>?_⟩;obtain⟨A,U,a⟩:=vQ l r p y;have a:Hid (∀t u,news[t]? = some u->w.drew.cell? (A.add t)=some u):=a;have R:Hid (news.length=(n - (i+1))*2):=l;have V:Hid (∀u∈news,u.oneCell'=true):=B;have W:Hid (∀t,t<news.length->(w.drew.cell? ⟨g,0+i*2+t,none⟩).isSome=true/\w.drew.frozen? ⟨g,0+i*2+t,none⟩ = false):=λt ht=>by
  rw[OE];exact b (i*2+t) ω
 obtain⟨o,d⟩ : ∃o,o=w.drew.setCells g (0+i*2) news:=⟨_,rfl⟩
 have X:∀q,q<n*2->(o.cell? ⟨g,q,none⟩).isSome=true/\o.frozen? ⟨g,q,none⟩ = false:=λq S=>by
  have C:∀j,j<news.length->∃z,cel w.drew g (0+i*2+j)=some z:=λj Y=>by
   have:=(b (0+i*2+j) ω).1;exact Option.isSome_iff_exists.1 this
  refine⟨?_,by rw[d];exact(O1 Prod.fst (cu g _ news w.drew g q)).trans (b q S).2⟩;rw[d];by_cases h:0+i*2<=q/\q<0+i*2+news.length
  ·have:=bz C (z4 (show q - (0+i*2)<news.length by omega))
   grind
  show(cel _ g q).isSome=true;rw[bn (λx=>h x.2)];exact(b q S).1
 obtain⟨K,D,E,F⟩:=wY (P:=Tryz.prog) o 53 325 2 (.agg #[.int .i64 0,.slice none 0 0]) Tryz.underlying53 Lu rfl (by intro v T;simp[Value.cells]at T;rcases T with rfl|rfl<;>rfl) g ((i+(n - (i+1)))*2) (n - (i+(n - (i+1)))) ω qs ψ ψ;have G:Hid (K.length=(n - (i+(n - (i+1))))*2):=D;have H:Hid (∀v∈K,v.oneCell'=true):=E;have Z:Hid (o=w.drew.setCells g (0+i*2) news):=d;have hic:i<=c:=ω
 have L:i+1<=c:=ω
 have M:¬i=i+1:=ω
 have N:i+1<=n:=p;have k:n - 1=i+(n - (i+1)):=ω
 clear d X b y B l D E;rw[k];generalize Y:i+1=j at U a R F G L M N k |-;obtain⟨J,O,Q⟩ : ∃J,Tryz.prog.info? 325=some J/\J.size=2:=by
  have h:=(ru 325 _ rfl).1;cases e : Tryz.prog.info? 325 with
  | none=>grind
  | some x=>rw[e]at h;simp only[IA,C2,Prod.mk.injEq]at h;exact⟨x,rfl,h.2.1⟩
 have mixed : Tryz.prog.follows .mixedOrders=true:=by kernel_rfl
 go_enter Tryz.func503,Tryz.ntmps503
 go_wp2_with fail
 go_region_law_o (refine step_append_room rfl (.tmp 22) (.tmp 25) 53 rfl 325 J 2 Tryz.underlying53 O Q g 0 i c (by simp[Act.eval,Act.put]) A (n - j) (c - j) news (by simp[Act.eval,Act.put]) R.out a.out V.out ω W.out ?_;rw[<-Z.out])
 go_wp2
 go_ret
 refine⟨rfl,K,by grind [Go.RowKit.Hid.out],H.out,?_⟩
 grind [Go.RowKit.Hid.out]
theorem E5(xs:List aS)(i:Nat)(a:i<xs.length):zzB 503 false [.mut none [.s .own (xs.map (aS.enc .own))],.vI (i:Nat),.vI ((i+1:Nat):Int)] [.mut none [.x],.vI (i:Nat),.vI ((i+1:Nat):Int)] .one [oE ((dele xs i).map (aS.enc .own))]:=by
 have h:=AA ET (rows:=xs.map (aS.enc .own)) (i:=i) ψ (aM λ_=>rfl) (bm _ _ λx _=>aS.enc_fr x)
 grind [C8,I8,dele]
theorem xL(xs:List aS)(pr:aS->Bool)(g:xs.length<=9223372036854775807):zzA 565 false [.val none ([.s .S (xs.map (aS.enc .S))]),.fn (l9 Tryz.prog (mC (some 2) (aS.enc .S) pr xs))] .one [I (bU pr xs)]:=by
 refine fO 19 [] Tryz.func565 rfl ?_
 refine σP ?_
 refine gK xs.length (λi=>[(0,bJ ([.s .S (xs.map (aS.enc .S))])),(1,.fv (l9 Tryz.prog (mC (some 2) (aS.enc .S) pr xs))),(7,fI xs.length),(8,fN i)]) (λi=>∀(j:Nat)(z:aS),j<i->xs[j]? = some z->pr z=false) ψ λi b=>?_
 obtain⟨b,d⟩:=b;by_cases a:i<xs.length
 ·obtain⟨y,c⟩ : ∃y,xs[i]? = some y:=⟨_,z4 a⟩
  repeat'(first|refine gE ?_|refine Fv.mk (k:=.one) (rcs:=[B (pr y)]) ⟨y,t4 c,rfl,rfl,rfl⟩ ?_|refine Bf.P (λe=>?_) (λe=>?_))
  ·grind [df]
  (conv=>whnf)
  exact cV (i+1) ψ
 refine σE ?_
 exact nO (eY ω d).symm
theorem yx(o:aS)(id:Int):zzA 566 false [.val (some 2) (aS.enc .S o),.ptr [I id]] .one [B (iL id o)]:=by
 refine fO 8 [] Tryz.func566 rfl ?_
 refine σP ?_
 grind [iL]
def pd(r:aA)(id:Int)(b:r.J.length<=1048576):zzA 502 false [.val (some 2) (aA.enc .S r),.vI id] .one [I (oy r id)]:=by
 refine fO 9 [] Tryz.func502 rfl ?_
 repeat'(first|refine gP ?_|refine Ce (mC (some 2) (aS.enc .S) (iL id) r.J) (yx default id).has (λL k rcs a=>?_) ?_|refine CG (xL r.J (iL id) ω) ?_)
 ·obtain⟨y,-,rfl,rfl,rfl⟩:=a
  exact yx y id
 rfl
def Mn:zzA 260 false [] .agg (aA.enc .own ⟨1,[]⟩):=by
 refine fO 2 [] Tryz.func260 rfl ?_ (.inr (aA.enc_fr _))
 repeat'((conv=>whnf);first|with_reducible (first|refine Lm ?_|refine Wm ω ?_|refine Bn ?_|refine j8.wk rfl ?_)|refine Bt ?_|refine Bu ?_|refine CH ?_)
 exact⟨rfl,rfl,tV1⟩
theorem Xj(l:List aS):(l.map (aS.enc .own)).map (·.map fz)=l.map (aS.enc .S):=by grind [List.map_congr_left,cj,aS.enc_fz]
def EF(r:aA)(n:Int)(m:Nat)(a:rE r m)(g:m<=1000)(b:1<=n/\n<=1000):zzA 262 true [.val (some 2) (aA.enc .S r),.vI n] (.tup [some 2,none]) (aA.enc .S (i9 r n)++[I r.b]):=by
 have h:=a.sml g;have c:=a.len;have i:=a.nx;have j:=kU r h;have d:=aK n 1 1000;rw[O0 b]at d;have key:zzA 262 true [.val (some 2) (aA.enc .S r),.vI n] (.tup [some 2,none]) (aA.enc .own (i9 r n)++[I r.b]):=by
  unfold i9;rw[CL b];have k:aA.enc .own {r with b:=r.b+1,J:=r.J++[⟨r.b,List.replicate n.toNat 0⟩]} = [I (r.b+1),.s .own (r.J.map (aS.enc .own)++[[I r.b,.s .own (List.replicate n.toNat [I 0])]])]:=by
   simp[aA.enc,aS.enc,rI]
  rw[k];refine fO 30 [(4,263,[13,14,15,16,17,18,22,0,1,2,3,4,5,6,1000,1001,7,1000,1001,8,9,10]),(6,259,[27,28,29,0,1,2,3,1001,1002,4])] Tryz.func262 rfl ?_ (.inl rfl)
  repeat'(first|refine gP ?_|refine Mk.mk n.toNat ω ω ω (vm ω qs) rfl ?_|refine Ci (aM λ_=>rfl) rfl jp qs rfl ?_)
  rfl
 have e:=key.fzR;rw[co,Cn]at e;exact e
theorem XR(l:List aS):fz (oE (l.map (aS.enc .own)))=.s .S (l.map (aS.enc .S)):=by grind [Ka,PU]
theorem GW(r:aA)(id:Int)(m:Nat)(d:rE r m)(o:m<=1000):zzA 404 true [.val (some 2) (aA.enc .S r),.vI id] (.tup [some 2,none]) (aA.enc .S (jf r id)++[B (!decide (oy r id<0))]):=by
 have g:=d.sml o;have h:=d.len;have i:=kU r g;have b:=pd r id g.1;by_cases e:oy r id<0
 ·have key:zzA 404 true [.val (some 2) (aA.enc .S r),.vI id] (.tup [some 2,none]) (aA.enc .own r++[B false]):=by
   refine fP 24 [(503,[1,0,0])] [] Tryz.func404 rfl ?_ (.inl rfl)
   refine σE ?_
   rfl
  have a:=key.fzR;rw[co,Cn]at a;unfold jf;rw[CL e,O0 e];exact a
 obtain⟨p,q,t⟩:=eZ (iL id) r.J (by grind [oy]);obtain⟨j,k⟩:=v5 (show 0<=oy r id by omega);have c:j<r.J.length:=by grind [oy]
 have l:=E5 r.J j c;have key:zzA 404 true [.val (some 2) (aA.enc .S r),.vI id] (.tup [some 2,none]) ([I r.b,oE ((dele r.J j).map (aS.enc .own))]++[B true]):=by
  rw[k]at b;rcases rK (rows:=(dele r.J j).map (aS.enc .own)) with n|⟨-,n⟩
  all_goals
   rw[n]at l |-;refine fP 24 [(503,[1,0,0])] [] Tryz.func404 rfl ?_ (.inl rfl)
   refine σE ?_
   rfl
 have a:=key.fzR;unfold jf;rw[CJ e,C1 e,k];change au _ _ _ _ _ [fz (I _),fz (oE _),fz (B true)]at a;rw[XR]at a;exact a
theorem DV(r:aA)(id a v:Int)(m:Nat)(p:rE r m)(w:m<=1000)(y:0<=v/\v<=999):∃b:Bool,zzA 406 true [.val (some 2) (aA.enc .S r),.vI id,.vI a,.vI v] (.tup [some 2,none]) (aA.enc .S (dI r id a v)++[B b]):=by
 have k:=p.sml w;have q:=p.len;have l:=kU r k;have g:=pd r id k.1;by_cases n:0<=oy r id;rotate_left
 ·rw[show dI r id a v=r by unfold dI;rw[CJ (λx=>n x.1)]]
  refine⟨false,?_⟩;have key:zzA 406 true [.val (some 2) (aA.enc .S r),.vI id,.vI a,.vI v] (.tup [some 2,none]) (aA.enc .own r++[B false]):=by
   refine fO 48 [] Tryz.func406 rfl ?_ (.inl rfl)
   refine σE ?_
   rfl
  have c:=key.fzR;rw[co,Cn]at c;exact c
 obtain⟨H,J,K⟩:=eZ (iL id) r.J n;obtain⟨j,C⟩:=v5 n;have e:j<r.J.length:=by grind [oy]
 have d:=ar e;have D:(nth r.J j).T.length<=1048576:=k.2 _ (ax e);rw[C]at g;have h:=aK a 0 (((nth r.J j).T.length:Nat) - 1:Int);by_cases o:0<=a/\a<=((nth r.J j).T.length:Nat) - 1;rotate_left
 ·rw[show dI r id a v=r by unfold dI;rw[CJ ψ]]
  rw[C1 o]at h;refine⟨false,?_⟩;have key:zzA 406 true [.val (some 2) (aA.enc .S r),.vI id,.vI a,.vI v] (.tup [some 2,none]) (aA.enc .own r++[B false]):=by
   refine fO 48 [] Tryz.func406 rfl ?_ (.inl rfl)
   refine σE ?_
   rfl
  have c:=key.fzR;rw[co,Cn]at c;exact c
 obtain⟨b,E⟩:=v5 o.1;have F:dI r id a v = {r with J:=r.J.set j ⟨(nth r.J j).Id,(nth r.J j).T.set b v⟩}:=by grind [dI]
 rw[O0 o]at h;rw[F];subst E;have t:=ar (xs:=(nth r.J j).T) (i:=b) ω;have u:=aK v 0 999;rw[O0 y]at u;refine⟨true,?_⟩;have key:zzA 406 true [.val (some 2) (aA.enc .S r),.vI id,.vI (b:Nat),.vI v] (.tup [some 2,none]) (aA.enc .own {r with J:=r.J.set j ⟨(nth r.J j).Id,(nth r.J j).T.set b v⟩}++[B true]):=by
  have G:aA.enc .own {r with J:=r.J.set j ⟨(nth r.J j).Id,(nth r.J j).T.set b v⟩} = [I r.b,.s .own ((r.J.map (aS.enc .own)).set j [I (nth r.J j).Id,.s .own (((nth r.J j).T.map (rI .own)).set b [I v])])]:=by grind [SC,aA.enc,aS.enc,rI]
  rw[G];refine fO 48 [] Tryz.func406 rfl ?_ (.inl rfl)
  repeat'(first|refine gE ?_|with_reducible refine CQ ω (aa d) ?_|refine Pu.two rfl rfl (aa d) rfl rfl rfl (aa t) rfl (C5 _) rfl ?_)
  rfl
 have c:=key.fzR;rw[co,Cn]at c;exact c
def J2(r:aA)(id n:Int)(m:Nat)(w:rE r m)(E:m<=1000):∃b:Bool,zzA 408 true [.val (some 2) (aA.enc .S r),.vI id,.vI n] (.tup [some 2,none]) (aA.enc .S (fe r id n)++[B b]):=by
 have q:=w.sml E;have y:=w.len;have t:=kU r q;have g:=pd r id q.1;by_cases i:0<=oy r id;rotate_left
 ·rw[show fe r id n=r by unfold fe;rw[CJ (λx=>i x.1)]]
  refine⟨false,?_⟩;have key:zzA 408 true [.val (some 2) (aA.enc .S r),.vI id,.vI n] (.tup [some 2,none]) (aA.enc .own r++[B false]):=by
   refine fO 44 [(5,11,[30,31,32,33,34,35,36,37,38,39,40])] Tryz.func408 rfl ?_ (.inl rfl)
   refine σE ?_
   rfl
  have a:=key.fzR;rw[co,Cn]at a;exact a
 obtain⟨K,L,M⟩:=eZ (iL id) r.J i;obtain⟨j,c⟩:=v5 i;have d:j<r.J.length:=by unfold oy at c;omega
 have e:=ar d;have F:(nth r.J j).T.length<=1048576:=q.2 _ (ax d);rw[c]at g;have k:=aK n 1 (((nth r.J j).T.length:Nat):Int);by_cases l:1<=n/\n<=((nth r.J j).T.length:Nat);rotate_left
 ·rw[show fe r id n=r by unfold fe;rw[CJ (λx=>l (by have:=x.2;rw[c]at this;exact this))]]
  rw[C1 l]at k;refine⟨false,?_⟩;have key:zzA 408 true [.val (some 2) (aA.enc .S r),.vI id,.vI n] (.tup [some 2,none]) (aA.enc .own r++[B false]):=by
   refine fO 44 [(5,11,[30,31,32,33,34,35,36,37,38,39,40])] Tryz.func408 rfl ?_ (.inl rfl)
   refine σE ?_
   rfl
  have a:=key.fzR;rw[co,Cn]at a;exact a
 obtain⟨b,D⟩:=v5 (show 0<=n by omega);have G:fe r id n = {r with J:=r.J.set j ⟨(nth r.J j).Id,(nth r.J j).T.take b⟩}:=by
  unfold fe;rw[CL ⟨i,by rw[c];exact l⟩,c,D];rfl
 rw[O0 l]at k;rw[G];subst D;have u:zzA 403 false [.val (some 2) (aA.enc .S r)] .agg [I r.b,.s .own ((r.J.map (aS.enc .own)).set j (aS.enc .S (nth r.J j)))]:=by
  have h:=t.fzAt (off:=1) (o:=.own) (rows:=r.J.map (aS.enc .own)) rfl (by simp) (j:=j) (aa e);rw[aS.enc_fz]at h;exact h
 have p:((r.J.map (aS.enc .own)).set j (aS.enc .S (nth r.J j)))[j]? = some (aS.enc .S (nth r.J j)):=O6 (by rw[I2];omega);refine⟨true,?_⟩;have key:zzA 408 true [.val (some 2) (aA.enc .S r),.vI id,.vI (b:Nat)] (.tup [some 2,none]) ([I r.b,.s .own (((r.J.map (aS.enc .own)).set j (aS.enc .S (nth r.J j))).set j [I (nth r.J j).Id,.s .S (((nth r.J j).T.take b).map (rI .S))])]++[B true]):=by
  refine fO 44 [(5,11,[30,31,32,33,34,35,36,37,38,39,40])] Tryz.func408 rfl ?_ (.inl rfl)
  repeat'(first|refine gE ?_|with_reducible refine CQ ω p ?_|refine CM rfl p rfl ?_|refine CK p ?_|refine Cc b rfl (by rw[I2];omega) (aM λ_=>rfl) C8 ?_|refine CU rfl rfl p rfl (O2 rfl) rfl ?_)
  rfl
 have a:=key.fzR;rw[List.set_set]at a;change au _ _ _ _ _ [fz (I _),fz (.s .own _),fz (B true)]at a;rw[Rt,SC,Xj]at a;have H:aS.enc .S ⟨(nth r.J j).Id,(nth r.J j).T.take b⟩ = [I (nth r.J j).Id,C.s .S (((nth r.J j).T.take b).map (rI .S))].map fz:=by
  show [I _,C.s .S (((nth r.J j).T.take b).map (rI .S))]=[fz (I _),fz (.s .S _)];rw[Rt,List.map_map];rfl
 have J:aA.enc .S {r with J:=r.J.set j ⟨(nth r.J j).Id,(nth r.J j).T.take b⟩} = [I r.b,.s .S ((r.J.map (aS.enc .S)).set j ([I (nth r.J j).Id,.s .S (((nth r.J j).T.take b).map (rI .S))].map fz))]:=by
  rw[<-H,<-SC];rfl
 rw[J];exact a
def HY(p f:Nat)(a:List Int)(b:1<=p/\p<=32)(c:1<=f/\f<=32)(d:a.length<=40/\∀x∈a,0<=x):zzA 199 false [.vI (p:Nat),.vI (f:Nat),.val none (aF .S a)] (.tup [some 5,none]) (ah.enc .own (cy p f a)++[B true]):=by
 have e:=pw b c d;have h:=d.1;have g:=pp (cy p f a) (bj e);rw[e]at g;have i:=eP a ω;refine fO 30 [(2,260,[17,18,19,10,0,1,2,4,3,1004,5])] Tryz.func199 rfl ?_ (.inr (aD (Ck _) ⟨tV1,tV1⟩))
 repeat'(first|refine gP ?_|refine CG (yZ p f b c) ?_|refine CN (g) ⟨⟨rfl,CY (cy p f a)⟩,tV1⟩ ?_)
 rfl
def Nj(p f t:Nat)(lim:Int)(a:List Int)(c:1<=p/\p<=32)(d:1<=f/\f<=32)(e:1<=t/\t<=4)(g:0<=lim/\lim<=1000)(h:a.length<=40/\∀x∈a,0<=x):zzA 70 false [.vI (p:Nat),.vI (f:Nat),.vI (t:Nat),.vI lim,.val none (aF .S a)] (.tup [some 24,none]) (ac.enc .own (newHeap p f t lim a)++[B true]):=by
 have b:=aK lim 0 1000;rw[O0 g]at b;refine fO 68 [(10,4,[61,62,63,64])] Tryz.func70 rfl ?_ (.inr (aD (ac.enc_fr _) ⟨tV1,tV1⟩))
 repeat'(first|refine gP ?_|refine CG (HY p f a c d h) ?_|refine CG (Hc t e) ?_|refine CG (Jd) ?_)
 refine lp0 t (λk=>[(2,fN t),(10,bB [.z,.z,.z,I 0,.z,.z,.z,.z,.z,.z,.z,.z,I 0,.z,I 0,I 0,I 0,I 0,B false,I 0,I 0,.z,I 0,I 0]),(18,bB (ac.enc .own (caps (newHeap p f t lim a) k))),(19,fN k)]) λk i=>?_
 by_cases j:k<t
 ·repeat'(first|refine gE ?_|refine CG (Eu) ?_|refine Ci JB rfl (by rw[I2];show(List.replicate _ gm).length+1<=_;rw[List.length_replicate];omega) qs (Fn k) ?_)
  (exact cV (k+1) ω)
 obtain rfl:k=t:=ω
 refine σE ?_
 rfl
def DU(c:cr)(h:Ea c):zzA 115 false [.val (some 5) (cr.enc .S c)] (.tup [some 26,none]) (bh.enc .own (world0 c)++[B true]):=by
 have a:=Nj c.a1 c.V c.c4 c.c1 c.a3 h.p h.f h.t h.l h.r;refine fO 26 [(4,2,[23,24])] Tryz.func115 rfl ?_ (.inr (aD (bh.enc_fr _) ⟨tV1,tV1⟩))
 repeat'(first|refine gP ?_|refine CG (Mn) ?_)
 rfl
def VG(a:Int)(l:aC):Bool:=decide (l.Q*16=a)
def oV(l:aC)(a:Int)(b:0<=l.Q/\l.Q<=32):zzA 101 false [.val (some 3) (aC.enc .S l),.ptr [I a]] .one [B (VG a l)]:=by
 refine fO 9 [] Tryz.func101 rfl ?_
 refine σP ?_
 exact bZ ((by unfold VG;rw[C9];simp))
def zU(h:ac)(b:ac.sml h)(a:h.J≠[]):zzA 62 false [.val (some 24) (ac.enc .S h)] .agg (cE h (oS h) (oL h) (.s .own (h.J.map (bg.enc .own)))):=by
 have c:=eD h b
 rwa [show dO h=cE h (oS h) (oL h) (.s .own (h.J.map (bg.enc .own))) by unfold dO oO;rw[sG λe=>a (List.map_eq_nil_iff.1 e)]]at c
def HH(h:ac)(t a:Int)(b:ac.sml h)(d:cw h=true)(e:h.G.Calls=100000):zzA 33 false [.val (some 24) (ac.enc .S h),.vI t,.vI a] (.tup [some 24,none]) (dO h++[I 6]):=by
 have c:=cJ h b;rw[dM,d]at c;refine fP 163 [(99,[1,0,0]),(102,[1,0,0]),(103,[2,0]),(105,[2,0,0]),(109,[2,0,0])] [(20,12,[85,86,87,88,89,90,91,92,93,94,95,96]),(24,4,[111,112,113,114])] Tryz.func33 rfl ?_ (.inr (aD (cF _) ⟨tV1,tV1⟩))
 repeat'(first|refine gB ?_|refine CG (eD h b) ?_)
 rfl
def EM(h:ac)(o:bg)(t:Nat)(R:ac.sml h)(e1:cw h=true)(hc:h.G.Calls≠100000)(W:o∈h.J)(ht:o.a2=t):zzA 33 false [.val (some 24) (ac.enc .S h),.vI (t:Nat),.vI o.Addr] (.tup [some 24,none]) (dO (freeOb h t (lD h o.Addr)).1++[I (freeOb h t (lD h o.Addr)).2]):=by
 have b:=aY.of e1;have S:=cJ h R;rw[dM,e1]at S;obtain⟨p,F,G⟩:=b.objAt W;have q:=pN b W;have hon:=b.onu o W;have a:=b.lens;have hno:=a.objs;have hnl:=a.larges;have hlc:=a.caches;have H:t<h.R.length:=ω
 have T:=aK (t:Nat) 0 (h.R.length - 1:Int);rw[O0 ω]at T;have J:=vi h o.Addr ω;rw[G]at J;have U:=zU h R (gW p);generalize lD h o.Addr=i at p F J;subst F;have X:=ar p;have Y:=jg (nth h.J i).k;have C:=BU h.J i p;have Z:=bj b.ker;have c6:=cT h.G.F.O ((nth h.J i).Addr / 16) Z.1.2;have K:dO h=cE h (oS h) (oL h) (.s .own (h.J.map (bg.enc .own))):=by unfold dO oO;rw[sG λe=>gW p (List.map_eq_nil_iff.1 e)]
 unfold freeOb;by_cases d:aN (nth h.J i).k<0
 ·rw[CL d]
  obtain⟨l,hl,h1,-⟩:=(dJ b (ax p)).1 d;obtain⟨r,ea,-,hfi⟩:=qr hl h1;have D:=mN h.H (VG (nth h.J i).Addr) ω;rw[show bU (VG (nth h.J i).Addr) h.H=(tG h (nth h.J i).Addr:Nat) by unfold bU VG;rw[hfi]]at D;generalize tG h (nth h.J i).Addr=g at r ea D;have hf:=aR (b.L.lok _ (ax r));have hxl:=ar r;have M:=wG h.H g r;have E:=kG {h with J:=dele h.J i,H:=dele h.H g} ⟨(nth h.H g).Q,(nth h.H g).a1⟩ (nth h.H g).a1.toNat b.ker hc (by show h.o.length<=_;have:=a.free;omega) ⟨by show(nth h.H g).a1=_;omega,by show 0<=(nth h.H g).Q;omega,by show(nth h.H g).Q<=_;omega,ω⟩;have hg:dO {h with J:=dele h.J i,H:=dele h.H g} = cE h (oS h) (oE ((dele h.H g).map (aC.enc .own))) (oE ((dele h.J i).map (bg.enc .own))):=rfl;have u:oL h=.s .own (h.H.map (aC.enc .own)):=by unfold oL;rw[sG λe=>gW r (List.map_eq_nil_iff.1 e)]
  rw[u]at U;rw[hg]at E;have hpg:∀y∈h.H,0<=y.Q/\y.Q<=32:=λy w=>by have:=aR (b.L.lok y w);omega
  rcases rK (rows:=(dele h.J i).map (bg.enc .own)) with e|⟨-,e⟩<;>rcases rK (rows:=(dele h.H g).map (aC.enc .own)) with e'|⟨-,e'⟩
  all_goals
   rw[e]at C E;rw[e']at M E;refine fP 163 [(99,[1,0,0]),(102,[1,0,0]),(103,[2,0]),(105,[2,0,0]),(109,[2,0,0])] [(20,12,[85,86,87,88,89,90,91,92,93,94,95,96]),(24,4,[111,112,113,114])] Tryz.func33 rfl ?_ (.inr (aD (cF _) ⟨tV1,tV1⟩))
   repeat'(first|refine gB ?_|refine gS (λN=>?_) (λN=>?_)|refine Ce (mC (some 3) (aC.enc .S) (VG (nth h.J i).Addr) h.H) (oV ⟨0,0,0⟩ (nth h.J i).Addr ⟨by decide,by decide⟩).has (λL k rcs hQ=>?_) ?_)
   ·obtain⟨y,w,rfl,rfl,rfl⟩:=hQ
    exact oV y _ (hpg y w)
   rfl
 rw[CJ d];obtain⟨s1,s2,s3,s4⟩:=YB.of b (ax p) d;have hcz:=GV s1;by_cases V:(af (tbl h) ((nth h.J i).Addr / 16)).e=1
 ·rw[CL V]
  unfold tbl at V;have B:=cF h;simp only;rw[K]at B |-;rcases rK (rows:=(dele h.J i).map (bg.enc .own)) with e|⟨-,e⟩
  all_goals
   rw[e]at C;refine fP 163 [(99,[1,0,0]),(102,[1,0,0]),(103,[2,0]),(105,[2,0,0]),(109,[2,0,0])] [(20,12,[85,86,87,88,89,90,91,92,93,94,95,96]),(24,4,[111,112,113,114])] Tryz.func33 rfl ?_ (.inr (aD B ⟨tV1,tV1⟩))
   repeat'(first|refine gB ?_|refine gS (λN=>?_) (λN=>?_)|refine CT qs ?_|refine CS (mh q) ?_)
   rfl
 rw[CJ V];unfold tbl at V;have B:cW h.G (nth h.J i).Addr<h.G.F.V.T.length:=by unfold cW;omega
 have j:=b.inQuar p d;have O:=cq (aN (nth h.J i).k);rw[show csz (aN (nth h.J i).k)=((csz (aN (nth h.J i).k)).toNat:Nat) by omega]at O;have n:=b.nums;unfold cI at n;rw[C0]at n;have P:=(b.dropO p (k7.any (c:=aN (nth h.J i).k) (by obtain⟨⟨s,R,k1,k2⟩,-⟩:=(dJ b (ax p)).2 d;exact⟨s,R,k1,.inr k2⟩))).nd;rw[List.cons_append,List.nil_append]at P;have D:=Jk h.a7 (jS h (nth h.J i)) (by have:=a.quar;omega) b.quar ⟨s1.1,s1.2,q.1,n.2.2.1⟩ (λy w=>b.snc y w) (λy w e=>(List.nodup_cons.1 P).1 (by rw[show(nth h.J i).Addr=y.Addr from e.symm];unfold holders;simp only[z5];exact .inl (.inr (O8.2 ⟨y,w,rfl⟩))));unfold UX at D;have u:(vN h.a7 (jS h (nth h.J i))).length<=513:=by have:=a.quar;unfold vN;rw[I3,O5];simp only[List.length_singleton];omega
 have hfq:Fa h t i=recycs t (inQuar h i) ((vN h.a7 (jS h (nth h.J i))).map (·.Addr)):=rfl;have hqc:(inQuar h i).G.Calls≠100000:=hc;rw[hfq];rcases rK (rows:=(dele h.J i).map (bg.enc .own)) with e|⟨-,e⟩
 all_goals
  have hoo:oO (inQuar h i)=_:=e;rw[e]at C;have M:=mG h (oS h) (oL h) (oE ((dele h.J i).map (bg.enc .own))) (nth h.J i).Addr (csz (aN (nth h.J i).k)).toNat b.ker q s2 ω s4;rw[e]at M;refine fP 163 [(99,[1,0,0]),(102,[1,0,0]),(103,[2,0]),(105,[2,0,0]),(109,[2,0,0])] [(20,12,[85,86,87,88,89,90,91,92,93,94,95,96]),(24,4,[111,112,113,114])] Tryz.func33 rfl ?_ (.inr (aD (cF _) ⟨tV1,tV1⟩))
  repeat'(first|refine gB ?_|refine gS (λN=>?_) (λN=>?_)|refine CT qs ?_|refine CS (mh q) ?_)
  generalize vN h.a7 (jS h (nth h.J i))=out at j u
  (conv=>whnf)
  refine Lp.mk (ι:=Nat) (λk=>[(1,fN t),(6,.Z .box w7),(8,bB (dO (recycs t (inQuar h i) ((out.take k).map (·.Addr))))),(16,bJ (de .own out)),(151,.c2 16 0 [] none),(152,fI out.length),(153,fN k)]) (λk=>k<=out.length) (λk=>out.length - k) (0) ?_ (I1 _) λk hk=>?_
  ·exact wE
  by_cases r:k<out.length
  ·have Q:=ar r
   have hsp:out.map (·.Addr)=(out.take k).map (·.Addr)++(nth out k).Addr::(out.drop (k+1)).map (·.Addr):=by
    conv=>lhs;rw[<-List.take_append_drop k out,gZ r]
    simp
   have hik:aY (recycs t (inQuar h i) ((out.take k).map (·.Addr))) ((nth out k).Addr::(out.drop (k+1)).map (·.Addr)):=aY.recycs (by rw[<-hsp];exact j) H;have E:=vO _ _ t _ hik (by rw[(fH t _ _).1];exact H) (by rw[(fH t _ _).2.2.1];exact hqc)
   refine σE ?_
   (refine CR (k+1) ω ω ?_)
   rw[yn t _ out k r];exact wC
  obtain rfl:k=out.length:=ω
  rw[S9]
  refine σE ?_
  rfl
def kE(m:aP)(k:Int)(a:aP.sml m):zzA 255 false [.val (some 2) (aP.enc .S m),.vI k] .one [B (decide (0<=k/\k<=m.U.length - 1)&&bG m)]:=by
 have b:=oI m a;have g:m.U.length<=1048576:=a.1.1;have c:=aK k 0 (m.U.length - 1:Int);cases e:bG m<;>rw[e]at b<;>cases d:decide (0<=k/\k<=(m.U.length:Int) - 1)<;>rw[d]at c
 all_goals
  refine fO 15 [] Tryz.func255 rfl ?_
  refine σP ?_
  rfl
def RY(m:aP)(f:Nat)(p:dA)(k:bG m=true)(d:f<m.U.length):zzA 107 false [.val (some 2) (aP.enc .S m),.vI (f:Nat),.val (some 2) (dA.enc .S p)] (.tup [some 2,none]) (aP.enc .own (if bG (gF m f p)=true then gF m f p else m)++[B (bG (gF m f p))]):=by
 have c:=kS.of k;have l:=c.sml;have q:=c.b4;have g:=kE m f l;rw[k,O0 ω]at g;have n:=jI m l;have h:=Fe c d p;have i:=oI (gF m f p) h;have a:=Wn d;have o:=c.bl f d;have j:=Cu (gF m f p);have b:=Ct (gF m f p);rw[xK]at j b;cases e:bG (gF m f p)<;>rw[e]at i
 ·rw[CJ (by simp)]
  refine fO 35 [(4,267,[17,18,19,20,21,22,23,24,25,26,28,0,1,2,3,4,5,6,7,8,9,10,1000,1001,1002,11,12])] Tryz.func107 rfl ?_ (.inr (aD (Ct _) ⟨tV1,tV1⟩))
  repeat'(first|refine gP ?_|refine CK (dt a) ?_|refine CM rfl (dt a) rfl ?_|refine Lq.one rfl rfl (aa a) rfl (O2 rfl) rfl rfl ?_|refine CU rfl rfl (dt a) rfl (O2 rfl) (show [C.s fE.own ((m.U.map (bP .own)).set f (bP .own (nth m.U f++[p]))),C.s .own (m.a0.map (aF .own))]=_ from by simp only[List.set_cons_zero,List.set_set,t5];rfl) ?_|refine Cf (aM λ_=>rfl) rfl jp qs (f8 _ _ _) ?_|refine CN (i) ⟨⟨rfl,j⟩,tV1⟩ ?_)
  rfl
 rw[CL rfl,xK];refine fO 35 [(4,267,[17,18,19,20,21,22,23,24,25,26,28,0,1,2,3,4,5,6,7,8,9,10,1000,1001,1002,11,12])] Tryz.func107 rfl ?_ (.inr (aD b ⟨tV1,tV1⟩))
 repeat'(first|refine gP ?_|refine CK (dt a) ?_|refine CM rfl (dt a) rfl ?_|refine Lq.one rfl rfl (aa a) rfl (O2 rfl) rfl rfl ?_|refine CU rfl rfl (dt a) rfl (O2 rfl) (show [C.s fE.own ((m.U.map (bP .own)).set f (bP .own (nth m.U f++[p]))),C.s .own (m.a0.map (aF .own))]=_ from by simp only[List.set_cons_zero,List.set_set,t5];rfl) ?_|refine Cf (aM λ_=>rfl) rfl jp qs (f8 _ _ _) ?_|refine CN (i) ⟨⟨rfl,j⟩,tV1⟩ ?_)
 rfl
def H1(h:ac)(o:bg)(t:Nat)(R:ac.sml h)(M:cw h=true)(hc:h.G.Calls≠100000)(E:o∈h.J)(S:t<h.R.length):zzA 33 false [.val (some 24) (ac.enc .S h),.vI (t:Nat),.vI o.Addr] (.tup [some 24,none]) (dO (freeT h t (lD h o.Addr)).1++[I (freeT h t (lD h o.Addr)).2]):=by
 by_cases T:o.a2=t
 ·have hh:=EM h o t R M hc E T
  rwa [<-xw (by obtain⟨-,d,-⟩:=(aY.of M).objAt E;rw[d];exact T)]at hh
 have b:=aY.of M;have F:=cJ h R;rw[dM,M]at F;obtain⟨r,d,G⟩:=b.objAt E;have j:=pN b E;have hon:=b.onu o E;have a:=b.lens;have hno:=a.objs;have hnl:=a.larges;have hlc:=a.caches;have H:=aK (t:Nat) 0 (h.R.length - 1:Int);rw[O0 ω]at H;have C:=vi h o.Addr ω;rw[G]at C;have J:=zU h R (gW r);generalize lD h o.Addr=i at r d C;subst d;have N:=ar r;have O:=jg (nth h.J i).k;have u:=BU h.J i r;have U:=bj b.ker;have V:=cT h.G.F.O ((nth h.J i).Addr / 16) U.1.2;have p:dO h=cE h (oS h) (oL h) (.s .own (h.J.map (bg.enc .own))):=by unfold dO oO;rw[sG λe=>gW r (List.map_eq_nil_iff.1 e)]
 unfold freeT;by_cases n:aN (nth h.J i).k<0
 ·rw[CL n]
  obtain⟨l,hl,h1,-⟩:=(dJ b (ax r)).1 n;obtain⟨K,ea,-,W⟩:=qr hl h1;have X:=mN h.H (VG (nth h.J i).Addr) ω;rw[show bU (VG (nth h.J i).Addr) h.H=(tG h (nth h.J i).Addr:Nat) by unfold bU VG;rw[W]]at X;generalize tG h (nth h.J i).Addr=g at K ea X;have hf:=aR (b.L.lok _ (ax K));have Y:=ar K;have D:=wG h.H g K;have P:=kG {h with J:=dele h.J i,H:=dele h.H g} ⟨(nth h.H g).Q,(nth h.H g).a1⟩ (nth h.H g).a1.toNat b.ker hc (by show h.o.length<=_;have:=a.free;omega) ⟨by show(nth h.H g).a1=_;omega,by show 0<=(nth h.H g).Q;omega,by show(nth h.H g).Q<=_;omega,ω⟩;have hg:dO {h with J:=dele h.J i,H:=dele h.H g} = cE h (oS h) (oE ((dele h.H g).map (aC.enc .own))) (oE ((dele h.J i).map (bg.enc .own))):=rfl;have Z:oL h=.s .own (h.H.map (aC.enc .own)):=by unfold oL;rw[sG λe=>gW K (List.map_eq_nil_iff.1 e)]
  rw[Z]at J;rw[hg]at P;have hpg:∀y∈h.H,0<=y.Q/\y.Q<=32:=λy hy=>by have:=aR (b.L.lok y hy);omega
  rcases rK (rows:=(dele h.J i).map (bg.enc .own)) with e|⟨-,e⟩<;>rcases rK (rows:=(dele h.H g).map (aC.enc .own)) with e'|⟨-,e'⟩
  all_goals
   rw[e]at u P;rw[e']at D P;refine fP 163 [(99,[1,0,0]),(102,[1,0,0]),(103,[2,0]),(105,[2,0,0]),(109,[2,0,0])] [(20,12,[85,86,87,88,89,90,91,92,93,94,95,96]),(24,4,[111,112,113,114])] Tryz.func33 rfl ?_ (.inr (aD (cF _) ⟨tV1,tV1⟩))
   repeat'(first|refine gB ?_|refine gS (λw=>?_) (λw=>?_)|refine Ce (mC (some 3) (aC.enc .S) (VG (nth h.J i).Addr) h.H) (oV ⟨0,0,0⟩ (nth h.J i).Addr ⟨by decide,by decide⟩).has (λL k rcs hQ=>?_) ?_)
   ·obtain⟨y,hy,rfl,rfl,rfl⟩:=hQ
    exact oV y _ (hpg y hy)
   rfl
 rw[CJ n];obtain⟨s1,s2,s3,s4⟩:=YB.of b (ax r) n;have hcz:=GV s1;by_cases Q:(af (tbl h) ((nth h.J i).Addr / 16)).e=1
 ·rw[CL Q]
  unfold tbl at Q;have c:=cF h;simp only;rw[p]at c |-;rcases rK (rows:=(dele h.J i).map (bg.enc .own)) with e|⟨-,e⟩
  all_goals
   rw[e]at u;refine fP 163 [(99,[1,0,0]),(102,[1,0,0]),(103,[2,0]),(105,[2,0,0]),(109,[2,0,0])] [(20,12,[85,86,87,88,89,90,91,92,93,94,95,96]),(24,4,[111,112,113,114])] Tryz.func33 rfl ?_ (.inr (aD c ⟨tV1,tV1⟩))
   repeat'(first|refine gB ?_|refine gS (λw=>?_) (λw=>?_)|refine CT qs ?_|refine CS (mh j) ?_)
   rfl
 rw[CJ Q,CJ T];unfold tbl at Q;have c:=cF h;have q:=cF (Au h t i);have B:=cq (aN (nth h.J i).k);rw[show csz (aN (nth h.J i).k)=((csz (aN (nth h.J i).k)).toNat:Nat) by omega]at B;have cS:=RY h.w t ⟨(nth h.J i).a2,(nth h.J i).Addr⟩ b.mail (by rw[<-b.nc];exact S);rcases rK (rows:=(dele h.J i).map (bg.enc .own)) with e|⟨-,e⟩
 all_goals
  have hoo:oO (Au h t i)=_:=e;rw[e]at u;have D:=mG h (oS h) (oL h) (oE ((dele h.J i).map (bg.enc .own))) (nth h.J i).Addr (csz (aN (nth h.J i).k)).toNat b.ker j s2 ω s4;rw[e]at D;cases em:bG (gF h.w t ⟨(nth h.J i).a2,(nth h.J i).Addr⟩)<;>rw[em]at cS
  ·rw[CJ (by simp)]at cS |-
   simp only;rw[p]at c |-;refine fP 163 [(99,[1,0,0]),(102,[1,0,0]),(103,[2,0]),(105,[2,0,0]),(109,[2,0,0])] [(20,12,[85,86,87,88,89,90,91,92,93,94,95,96]),(24,4,[111,112,113,114])] Tryz.func33 rfl ?_ (.inr (aD c ⟨tV1,tV1⟩))
   repeat'(first|refine gB ?_|refine gS (λw=>?_) (λw=>?_)|refine CT qs ?_|refine CS (mh j) ?_)
   rfl
  rw[CL rfl]at cS |-;simp only;have he:dO (Au h t i)=cE (Au h t i) (oS h) (oL h) (oE ((dele h.J i).map (bg.enc .own))):=rfl;rw[he,e]at q |-;refine fP 163 [(99,[1,0,0]),(102,[1,0,0]),(103,[2,0]),(105,[2,0,0]),(109,[2,0,0])] [(20,12,[85,86,87,88,89,90,91,92,93,94,95,96]),(24,4,[111,112,113,114])] Tryz.func33 rfl ?_ (.inr (aD q ⟨tV1,tV1⟩))
  repeat'(first|refine gB ?_|refine gS (λw=>?_) (λw=>?_)|refine CT qs ?_|refine CS (mh j) ?_)
  rfl
end Go.Proofs.YtiopgblagimpmaaGreat.Ab
