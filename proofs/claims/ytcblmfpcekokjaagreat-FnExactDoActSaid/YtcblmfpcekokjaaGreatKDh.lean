/- A job brought to its end, and one job after another: the data. No condition. -/
import Derived.Test.YtcblmfpcekokjaaGreatKDd
import Derived.Test.YtcblmfpcekokjaaGreatKDf
import Derived.Test.YtcblmfpcekokjaaGreatKDg
import Derived.Test.YtcblmfpcekokjaaGreatKDe
import Derived.Laws.StructEq
set_option linter.unusedVariables false
set_option linter.defProp false
set_option linter.unusedSimpArgs false
set_option linter.constructorNameAsVariable false
namespace Go.Proofs.YtcblmfpcekokjaaGreat.Ab
def zw{k:af}(h:aN k=true)(b:kR k.k):af.wf k:=by
 obtain⟨p,f,g,q,t⟩:=aM.1 h;obtain⟨u,w,y,A⟩:=bk.1 f;obtain⟨i,B,C⟩:=bF.1 g;refine⟨⟨⟨⟨ω,λr b=>?_⟩,⟨ω,λ_ _=>tV1⟩⟩,⟨ω,λe l=>?_⟩⟩,⟨ω,ω⟩,b⟩
 ·obtain⟨j,c,rfl⟩:=b9 b
  obtain⟨D,n⟩:=Jw h c;exact⟨ω,λv o=>by have:=n v o;exact⟨ω,ω⟩⟩
 obtain⟨j,c,rfl⟩:=b9 l;have a:=i j c;unfold qY at a;rw[C0]at a;by_cases d:(nth k.F.R.M j).o=0
 ·have:=a.2.2.1 d;exact⟨⟨ω,ω⟩,⟨ω,ω⟩⟩
 have:=a.2.2.2 d;exact⟨⟨ω,ω⟩,⟨ω,ω⟩⟩
theorem R0{p:bn}(h:gK p=true):bn.wf p:=by
 have a:=λi b=>lC h (i:=i) b
 have e:p.U.length<=16:=oD h;unfold gK at h;simp only[I0,C0]at h;exact⟨⟨ω,ω⟩,⟨ω,ω⟩,⟨ω,λv c=>by
   obtain⟨j,d,rfl⟩:=b9 c;have:=a j d;exact⟨ω,ω⟩⟩⟩
variable{E:List Int}{h:ac}
def bo.jobWf(a:bo h E):bz.wf h.a2/\bz.sml h.a2:=by
 cases b:h.w with
 | true=>
  obtain⟨c,f,g,i,j⟩:=iG.1 (a.job b).1;have k:=oD c;exact⟨⟨R0 c,⟨ω,ω⟩,⟨ω,ω⟩⟩,by show h.a2.d.U.length<=1048576;omega⟩
 | false=>
  have:=a.noj b;unfold Ar at this;rw[C0]at this;obtain⟨l,n,e,o,p⟩:=this;refine⟨⟨⟨⟨ω,ω⟩,⟨ω,ω⟩,⟨ω,λv d=>?_⟩⟩,⟨ω,ω⟩,⟨ω,ω⟩⟩,by show h.a2.d.U.length<=1048576;omega⟩;rw[CF e]at d;cases d
theorem BR{n:Int}(h:0<=aZ n):1<=n/\n<=8:=by grind [aZ]
variable{a:Int}
def kX.wf(b:bo h E){c:Int}(d:kX h.J a c):nM a:=by
 have:=d.bd b;exact⟨ω,ω⟩
theorem bo.wf(c:bo h E)(K:kR h.G.k):ac.wf h:=by
 have q:=c.lens;have r:=c.L;have B:=c.nums;unfold cU at B;rw[C0]at B;obtain⟨V,M,W⟩:=jl.1 c.rng;obtain⟨N,-,-,X,Y,-⟩:=jO.1 c.quar;have u:=c.mail;have g:=c.hfl;unfold bi at g;rw[CK u]at g;unfold bN at u;simp only[I0,C0,cK,jx,O7,rd,Xh]at u;obtain⟨⟨⟨Z,m2,m3⟩,O⟩,m5⟩:=u;have y:=q.free;have P:=q.spans;have h3:=q.larges;have h4:=q.objs;have h5:=q.caches;have h6:=q.quar;have C:∀n:Nat,bW h.b n<=bW h.b (n+1):=λn=>by grind [bW]
 have f:∀a b:Nat,a<=b->bW h.b a<=bW h.b b:=λa b t=>by
  induction t with
  | refl=>exact O9 _
  | step _ ih=>grind
 have A:∀n:Nat,0<=bW h.b n:=λn=>f 0 n (I1 _)
 have o:∀i,i<h.b.T.length->(nth h.b.T i).length<=30/\(nth h.b.e i).length<=30:=λi k=>by
  have D:=f (i+1) h.b.T.length ω;have Q:=A i;simp only[bW]at D;omega
 refine⟨zw c.ker K,⟨ω,λx e=>?_⟩,⟨ω,λx e=>?_⟩,⟨ω,λx e=>?_⟩,⟨ω,λx e=>?_⟩,⟨ω,λx e=>?_⟩,⟨⟨ω,λl d=>?_⟩,⟨ω,λl d=>?_⟩⟩,⟨⟨ω,ω⟩,⟨ω,λx e=>?_⟩⟩,⟨ω,ω⟩,⟨ω,ω⟩,⟨ω,ω⟩,⟨ω,ω⟩,tV1,c.jobWf.1⟩
 ·have:=M x e;exact⟨⟨ω,ω⟩,⟨ω,ω⟩⟩
 ·have w:=r.sok x e
  have F:=f8 w;have R:=aT w;exact⟨⟨ω,ω⟩,⟨ω,ω⟩,⟨ω,ω⟩⟩
 ·have G:=bj (r.lok x e)
  have H:=cQ (r.lok x e);exact⟨⟨ω,ω⟩,⟨ω,ω⟩,⟨ω,ω⟩⟩
 ·obtain⟨o1,o2,o3,o4⟩:=c.onu x e
  have t:0<=x.Addr/\x.Addr<512/\-1000<=x.q/\x.q<=1000:=by
   rcases c.oow x e with⟨s,w,y,P⟩|⟨l,d,D,Q⟩
   ·have R:=aT (r.sok s w)
    have:=BR (n:=x.q) ω;exact⟨by have:=y.1;omega,by have:=y.2.1;omega,ω,ω⟩
   have G:=bj (r.lok l d);have H:=cQ (r.lok l d);omega
  exact⟨⟨ω,ω⟩,⟨ω,ω⟩,⟨ω,ω⟩,⟨ω,ω⟩⟩
 ·obtain⟨c1,c2⟩:=q.lists x e
  refine⟨ω,λl d=>⟨ψ,λa J=>?_⟩⟩;obtain⟨j,S,rfl⟩:=b9 d;exact kX.wf c (c.hca x e j S a J)
 ·obtain⟨i,k,rfl⟩:=b9 d
  have F:=o i k;refine⟨ω,λp T=>?_⟩;have U:=(O i k).1 p T;exact⟨⟨ω,ω⟩,kX.wf c (g p.Addr (v5.2 (.inl (List.mem_flatMap.2 ψ))))⟩
 ·obtain⟨i,k,rfl⟩:=b9 d
  have F:=o i ω;exact⟨ω,λa J=>kX.wf c (g a (v5.2 (.inr (List.mem_flatten.2 ψ))))⟩
 have G:=N x e;have H:=c.snc x e;exact⟨kX.wf c (c.hqu x e),⟨ω,ω⟩,⟨ω,ω⟩⟩
structure Fit(h:ac):Prop where
 ker:aN h.G=true
 wf:ac.wf h
 sml:ac.sml h
 lens:nB h
def bo.fit(a:bo h E)(b:kR h.G.k)(c:aJ.sml h.b):Fit h:=⟨a.ker,a.wf b,a.lens.sml a.ker c a.jobWf.2,a.lens⟩
theorem bo.mStep0(b:bo h [])(c:h.w=true)(a:zG h=false):bo (Ab.mStep h) []:=by
 have s:=JS.of b c;unfold zG at a;rw[z9]at a;unfold Ab.mStep;generalize (iU h.G h.a2).1=k at s a |-;generalize (iU h.G h.a2).2=j at s a |-;cases e:over j with
 | true=>grind [bo.step,JS.ker,JS.len,JS.pg,Ar]
 | false=>
  simp only[Bool.false_eq_true,if_false];exact b.step s.ker s.len (s.pg (.inl a)) (λ_=>⟨iG.2 ⟨by rw[s.plan];grind [iG,bo.job],s.ph.1,s.ph.2,s.nxt⟩,by rw[s.plan];exact(b.job c).2⟩) ψ
theorem Qm(a:bo h [])(b:h.w=true):aN (mStep h).G=true/\(mStep h).G.Calls<=h.G.Calls+1/\(mStep h).G.k=h.G.k/\(mStep h).b=h.b/\(zG h=true->(mStep h).w=false)/\bz.wf (mStep h).a2/\bz.sml (mStep h).a2:=by
 have s:=JS.of a b;refine⟨s.ker,s.calls.2.1,s.calls.2.2,rfl,λc=>?_,?_⟩
 ·unfold zG at c
  rw[C0]at c;show(if over _=true then false else h.w)=false
  grind [over]
 show bz.wf (if over _=true then _ else _)/\bz.sml (if over _=true then _ else _);split
 ·exact⟨⟨⟨⟨by decide,by decide⟩,⟨by decide,by decide⟩,⟨by decide,λv d=>by cases d⟩⟩,⟨by decide,by decide⟩,⟨by decide,by decide⟩⟩,by show(0:Nat)<=1048576;omega⟩
 have f:=(iG.1 (a.job b).1).1;have g:=oD f;obtain⟨j,k⟩:=s.ph;obtain⟨l,i⟩:=s.nxt;have e:=s.plan;refine⟨⟨by grind [R0],⟨ω,ω⟩,⟨ω,by rw[e]at i;omega⟩⟩,by show((iU h.G h.a2).2.d.U).length<=1048576;rw[e];omega⟩
theorem NM(a:nB h)(b:aN (mStep h).G=true):nB (mStep h):=by
 obtain⟨i,c,d,j,k,l,e⟩:=aM.1 b;obtain⟨n,f,o,p⟩:=bk.1 c;obtain⟨q,t,g⟩:=bF.1 d;refine⟨f,λr u=>?_,ω,g,e,a.free,a.spans,a.larges,a.objs,a.caches,a.lists,a.quar⟩
 grind [b9,jH]
def Fc(h:ac):Nat->ac × Bool
 | 0=>(h,false)
 | i+1=>if(Fc h i).1.w=true then(mStep (Fc h i).1,zG (Fc h i).1) else Fc h i
def fin(h:ac):ac × Bool:=Fc h 100
def Aj(hi:bo h []):bo (started h).1 []/\(started h).1.G=h.G/\(started h).1.b=h.b:=by
 have r:=hi.nums;unfold cU at r;rw[C0]at r;have t:=(o8 (cq h).length (show 0<=h.b3/\h.b3<=1073741823 by omega) ((cq h).length - 1)).2;have g:=vV (cq h) (show 0<=h.b3/\h.b3<=1073741823 by omega);have c:cU {h with b3:=(shuf (cq h).length h.b3).2} = true:=by
  unfold cU;rw[C0];unfold shuf;simp only;omega
 cases j:nJ (cq h) h.b3 with
 | nil=>
  have f:Ab.started h=({h with b3:=(shuf (cq h).length h.b3).2},false):=by unfold Ab.started;rw[j]
  rw[f];exact⟨{hi with nums:=c},rfl,rfl⟩
 | cons q y=>
  obtain⟨C,D,k⟩:=g q (by rw[j];exact O3 ..);have f:Ab.started h=({h with b3:=(shuf (cq h).length h.b3).2,w:=true,a2:=Gg (jW (nth (cq h) q.A.toNat) (nth (cq h) q.B.toNat))},true):=by unfold Ab.started;rw[j]
  rw[f];have d:∀s∈cq h,s∈h.J:=λs u=>yu h (z5 _) s (List.mem_of_mem_take u)
  have l:=d _ (ay (xs:=cq h) (i:=q.A.toNat) ω);have n:=d _ (ay (xs:=cq h) (i:=q.B.toNat) ω);generalize nth (cq h) q.A.toNat=a at k l |-;generalize nth (cq h) q.B.toNat=b at k n |-;obtain⟨w,E,F⟩:=yv k;have o:md (Gg (jW a b))=true:=iG.2 ⟨w,by show(0:Int)<=0;omega,by show(0:Int)<=5;omega,by show(0:Int)<=0;omega,by show(0:Int)<=(((jW a b).U.length:Nat):Int);omega⟩;have p:(∃s∈h.J,s.S=(jW a b).a5)/\∃s∈h.J,s.S=(jW a b).a7:=by
   unfold jW;split
   ·exact⟨⟨b,n,rfl⟩,⟨a,l,rfl⟩⟩
   exact⟨⟨a,l,rfl⟩,⟨b,n,rfl⟩⟩
  exact⟨{hi with nums:=c,job:=λ_=>⟨o,p⟩,noj:=λe=>by cases e},rfl,rfl⟩
open Go.RowKit
set_option maxRecDepth 20000
set_option maxHeartbeats 4000000
def bo.objSz(a:bo h E):∀o∈h.K,0<=o.q/\o.q<=1000:=λx c=>by
 rcases a.oow x c with⟨s,d,e,f⟩|⟨l,b,g,i⟩
 ·have j:=aT (a.L.sok s d)
  have:=BR (n:=x.q) ω;omega
 have k:=cQ (a.L.lok l b);omega
def GD(t:Int){size:Int}(c:bo h [])(d:9<=size/\size<=1000):wM h t size=if(FK h size).2<0 then((FK h size).1,-1,4) else(addO (FK h size).1 (FK h size).2 size t,(FK h size).2,0):=by
 unfold wM FK;by_cases a:(aG h.a (nX size:Nat)).2.2=false
 ·rw[CK a,CK a]
  exact(CK (show(-1:Int)<0 by decide)).symm
 rw[CJ a,CJ a];obtain⟨e,-⟩:=lQ c (show(1:Int)<=(nX size:Nat) by unfold nX;omega) (by simpa using a);by_cases b:(kI h size).2=nX size
 ·rw[CK b,CK b]
  exact(CJ (show ¬16*(aG h.a (nX size:Nat)).2.1<0 by omega)).symm
 rw[CJ b,CJ b];exact(CK (show(-1:Int)<0 by decide)).symm
def Gp(h:ac)(t size:Int)(k:bo h []):zzB 66 false [.ptr (bT h),.vI t,.vI size] [.ptr (bT (fm h t size).1),.vI t,.vI size] (.tup [none,none]) [I (fm h t size).2.1,I (fm h t size).2.2]:=by
 have W:=k.lens;have Z:=W.caches;have O:=W.objs;have p:=k.nums;unfold cU at p;rw[C0]at p;have P:=qI k.objSz h.K.length (z5 _);change 0<=rK h/\rK h<=_ at P;have n:=aU t 0 ((h.Q.length:Int) - 1);have r:=aU size 1 1000;have D:=Br h k.objSz ω;have E:=ny size;refine fM 119 [(184,[2,0,0]),(185,[2,0])] [(7,10,[36,37,38,39,40,41,42,43,44,45]),(18,272,[81,82,83,84,85,86,87,89,90,91,92,93,94,95,96,97,0,1,2,3,4,5,6,8,9,10,11,12,13,14,15,16,1016,7,1008,1009,1010,1011,1012,1013,1014,1015,1016,17,18]),(1048594,0,[8])] [(0,0),(0,0),(0,0)] Tryz.func66 rfl (λu q=>?_) (.inr ⟨tV1,tV1,tV1⟩);unfold fm;by_cases h1:1000000<=h.j
 ·rw[CK (.inl h1)]
  refine σE ?_
  exact kk
 by_cases h2:90000<h.G.Calls
 ·rw[CK (.inr h2)]
  repeat'(first|refine gE ?_|refine gS (λb=>?_) (λb=>?_)|fail)
  exact kk
 rw[CJ ω];by_cases C:¬(0<=t/\t<=h.Q.length - 1)
 ·rw[CK C]
  rw[C1 C]at n
  repeat'(first|refine gE ?_|refine gS (λb=>?_) (λb=>?_)|fail)
  exact kk
 rw[CJ C];replace C:=Decidable.not_not.1 C;rw[O0 C]at n;by_cases B:¬(1<=size/\size<=1000)
 ·rw[CK B]
  rw[C1 B]at r
  repeat'(first|refine gE ?_|refine gS (λb=>?_) (λb=>?_)|fail)
  exact kk
 rw[CJ B];replace B:=Decidable.not_not.1 B;rw[O0 B]at r;by_cases X:h.b7<rK h+size
 ·rw[CK X]
  repeat'(first|refine gE ?_|refine gS (λb=>?_) (λb=>?_)|refine CN (D) ⟨⟨rfl,bY h⟩,tV1⟩ ?_)
  exact kk
 rw[CJ X];by_cases F:0<=aZ size
 ·rw[CK F]
  have hc3:aZ size<=3:=by unfold aZ;repeat' split<;>omega
  obtain⟨T,rfl⟩:=t5 C.1;obtain⟨K,hK⟩:=t5 F;have o:=Fz h T K k ω ω ω;have s:=uX (t:=T) (c:=K) k ω ω ω;rw[hK]at E |-;simp only[O4];generalize fT h T K=w at o s |-;obtain⟨g,a⟩:=w;have G:g.j=h.j:=s.nx;simp only at o |-;by_cases H:a<0
  ·rw[CK H]
   repeat'(first|refine gE ?_|refine gS (λb=>?_) (λb=>?_)|refine CN (D) ⟨⟨rfl,bY h⟩,tV1⟩ ?_)
   exact kk
  rw[CJ H];obtain⟨k1,k2⟩:=s.yes (show(0:Int)<=a by omega);have Q:g.K.length<=512:=k1.lens.objs
  repeat'(first|refine gE ?_|refine gS (λb=>?_) (λb=>?_)|refine CN (D) ⟨⟨rfl,bY h⟩,tV1⟩ ?_)
  refine g0 g.K.length (λi=>[(0,bX (bT g)),(1,fN T),(2,fI size),(8,fI a),(9,fN i)]) (λi=>∀(j:Nat)(z:aW),j<i->g.K[j]? = some z->QU a z=false) (λj z hj=>ω) λi k=>?_
  obtain⟨R,J⟩:=k;by_cases S:i<g.K.length/\(nth g.K i).Addr<a
  ·have d:=au S.1
   refine σE ?_
   (exact dL (i+1) ⟨ω,gd d (C1 ω) J⟩)
  have l:mq (QU a) g.K=i:=pF ω J λz L=>by
   have U:=(C4.1 L).1;have:z=nth g.K i:=(bI L).symm;subst this;exact O0 ω
  have d:i<g.K.length->g.K[i]? = some (nth g.K i):=λV=>au V
  rw[show addO g a size (T:Nat) = {g with K:=g.K.take i++⟨g.j,a,size,(T:Nat)⟩::g.K.drop i,j:=g.j+1} by unfold addO;rw[p9 l]]
  repeat'(first|refine gE ?_|with_reducible refine CI (aa (d ω)) ?_|refine gS (λb=>?_) (λb=>?_)|refine CM rfl (aa (d ω)) rfl ?_|refine Nw.mk rfl (AP g.K) rfl ?_|refine CZ i rfl (by rw[I2];omega) (aR λ_=>rfl) C8 ?_|refine Ci i rfl (by rw[I2];omega) (aR λ_=>rfl) I8 ?_|refine CX (λ_=>rfl) (λ_=>rfl) (by rw[I3];omega) qs ?_|refine Ap.sn (aR λ_=>rfl) rfl (by rw[I2,I3];omega) qs rfl ?_|refine Ap.ins (e:=aW.enc .O) (y:=⟨g.j,a,size,(T:Nat)⟩) rfl (λ_=>rfl) (λ_=>rfl) ω qs ?_)
  all_goals
   exact kk
 rw[CJ F];have M:9<=size:=by unfold aZ at F;repeat' split at F<;>omega
 have o:=EY h size k ⟨M,B.2⟩ ω;rw[GD t k ⟨M,B.2⟩];have Y:(FK h size).1.j=h.j/\(FK h size).1.K=h.K:=by
  unfold FK;split
  ·exact⟨rfl,rfl⟩
  split<;>exact⟨rfl,rfl⟩
 generalize FK h size=w at o Y |-;obtain⟨g,a⟩:=w;obtain⟨G,N⟩:=Y;simp only at o G N |-;have Q:g.K.length<=512:=by rw[N];exact O
 by_cases H:a<0
 ·rw[CK H]
  repeat'(first|refine gE ?_|refine gS (λb=>?_) (λb=>?_)|refine CN (D) ⟨⟨rfl,bY h⟩,tV1⟩ ?_)
  exact kk
 rw[CJ H]
 repeat'(first|refine gE ?_|refine gS (λb=>?_) (λb=>?_)|refine CN (D) ⟨⟨rfl,bY h⟩,tV1⟩ ?_)
 refine g0 g.K.length (λi=>[(0,bX (bT g)),(1,fI t),(2,fI size),(8,fI a),(9,fN i)]) (λi=>∀(j:Nat)(z:aW),j<i->g.K[j]? = some z->QU a z=false) (λj z hj=>ω) λi k=>?_
 obtain⟨R,J⟩:=k;by_cases S:i<g.K.length/\(nth g.K i).Addr<a
 ·have d:=au S.1
  refine σE ?_
  (exact dL (i+1) ⟨ω,gd d (C1 ω) J⟩)
 have l:mq (QU a) g.K=i:=pF ω J λz L=>by
  have U:=(C4.1 L).1;have:z=nth g.K i:=(bI L).symm;subst this;exact O0 ω
 have d:i<g.K.length->g.K[i]? = some (nth g.K i):=λV=>au V
 rw[show addO g a size t = {g with K:=g.K.take i++⟨g.j,a,size,t⟩::g.K.drop i,j:=g.j+1} by unfold addO;rw[p9 l]]
 repeat'(first|refine gE ?_|with_reducible refine CI (aa (d ω)) ?_|refine gS (λb=>?_) (λb=>?_)|refine CM rfl (aa (d ω)) rfl ?_|refine Nw.mk rfl (AP g.K) rfl ?_|refine CZ i rfl (by rw[I2];omega) (aR λ_=>rfl) C8 ?_|refine Ci i rfl (by rw[I2];omega) (aR λ_=>rfl) I8 ?_|refine CX (λ_=>rfl) (λ_=>rfl) (by rw[I3];omega) qs ?_|refine Ap.sn (aR λ_=>rfl) rfl (by rw[I2,I3];omega) qs rfl ?_|refine Ap.ins (e:=aW.enc .O) (y:=⟨g.j,a,size,t⟩) rfl (λ_=>rfl) (λ_=>rfl) ω qs ?_)
 all_goals
  exact kk
def PD(h:ac)(a n:Int)(o:h.H.length<=4096)(i:∀l∈h.H,cv l=true)(j:tT h a<0):zzB 190 false [.ptr (bT h),.vI a,.vI n] [.ptr (bT h),.vI a,.vI n] .one [B false]:=by
 have b:∀l∈h.H,l.S*16≠a:=λl c e=>by
  have:=DY (p:=nu a) c (O0 e);unfold tT at j;omega
 refine fM 136 [(327,[2,0])] [(8,6,[49,50,51,52,53,54]),(9,10,[56,57,58,59,60,61,62,63,64,65]),(20,270,[123,124,125,126,127,128,129,130,131,122,132,133,134,135,0,1,2,3,4,5,6,7,8,9,10,11,12,13,14,1011])] [(0,0),(0,0),(0,0)] Tryz.func190 rfl (λu q=>?_)
 refine σP ?_
 refine CV (ι:=Nat) (λk=>[(0,bX (bT h)),(1,fI a),(2,fI n),(7,fN k)]) (λk=>k<=h.H.length) (λk=>h.H.length - k) (0) ?_ (I1 _) λk r=>?_
 ·exact wE
 by_cases d:k<h.H.length
 ·have g:=au d
  have t:=b _ (ay d);have w:=bj (i _ (ay d))
  refine σB ?_
  (exact dL (k+1) ω)
 refine σE ?_
 exact kk
def Zn(h:ac)(a:Int)(m:Nat):bT {h with G:=zK h.G a (m+1)} = (bT {h with G:=zK h.G a m}).set 0 (.s .own (((zK h.G a m).F.V.U.map (aI .own)).set (ax (zK h.G a m).F.R ((a+m) / 16)).g.toNat ((aI .own (nth (zK h.G a m).F.V.U (gc (zK h.G a m) (a+m)))).set 0 (.s .own (((nth (zK h.G a m).F.V.U (gc (zK h.G a m) (a+m))).map (rI .own)).set ((a+m) % 16).toNat (splice (rI .own (nth (nth (zK h.G a m).F.V.U (gc (zK h.G a m) (a+m))) ((a+m) % 16).toNat)) 0 [I 0])))))):=
 QK {h with G:=zK h.G a m} (a+m) 0
def ip(h:ac)(i k:Nat)(n:Int)(K:af):ac:={h with G:=K,H:=h.H.set k (trimL (nth h.H k) n),K:=h.K.set i {nth h.K i with q:=n}}
def GR(h:ac)(i k:Nat)(n:Int)(K:af):(ip h i k n K).K.map (aW.enc .own)=(h.K.map (aW.enc .own)).set i (splice (aW.enc .own (nth h.K i)) 2 [I n]):=by
 simp[ip,IC,aW.enc,splice]
def xG(h:ac)(i:Nat)(n:Int)(d:bo h [])(F:i<h.K.length)(hg:0<=tT h (nth h.K i).Addr):zzB 190 false [.ptr (bT h),.val none [I (nth h.K i).Addr],.vI n] [.ptr (bT (if ju h i n then trimH h i (tT h (nth h.K i).Addr).toNat n else h)),.val none [I (nth h.K i).Addr],.vI n] .one [B (decide (ju h i n))]:=by
 have c:=d.lens;have hnl:=c.larges;have hno:=c.objs;have hpg:ge h<=32:=c.ents;obtain⟨f1,f2,f3⟩:=fJ (nu (nth h.K i).Addr) h.H hg;obtain⟨g,l⟩:=t5 hg;have b:g<h.H.length:=by unfold tT at l;omega
 have W:(nth h.H g).S*16=(nth h.K i).Addr:=by
  have:=of_decide_eq_true f2;rw[show(cC (nu (nth h.K i).Addr) h.H).toNat=g by unfold tT at l;omega]at this;exact this
 have G:∀k,k<g->(nth h.H k).S*16≠(nth h.K i).Addr:=λk hk e=>by
  have H:k<h.H.length:=ω
  have hok1:=bj (d.L.lok _ (ay H));have hok2:=bj (d.L.lok _ (ay b));have:=d.L.one k g H b 0 0 ω ω ω;omega
 have o:ju h i n↔9<=n/\n<=(nth h.H g).q:=by
  unfold ju;rw[l,O4];exact⟨λx=>x.2,λx=>⟨ω,x⟩⟩
 rw[l,O4];have hbd:=pO d (ay F);obtain⟨-,X,r⟩:=d.objAt (ay F);have Y:lf h (nth h.K i).Addr=i:=by
  have h2:=(d.objAt (ay F)).1;exact iO (f:=(·.Addr)) (iE d.osr) h2 F (by rw[X])
 rw[Y]at r;have y:=au F;have hxg:=au b;have T:=E6 (nth h.H g) n (d.L.lok _ (ay b));have h8:=d.L.lok _ (ay b);unfold cv at h8;rw[C0]at h8;refine fM 136 [(327,[2,0])] [(8,6,[49,50,51,52,53,54]),(9,10,[56,57,58,59,60,61,62,63,64,65]),(20,270,[123,124,125,126,127,128,129,130,131,122,132,133,134,135,0,1,2,3,4,5,6,7,8,9,10,11,12,13,14,1011])] [(0,0),(0,0),(0,0)] Tryz.func190 rfl (λu q=>?_)
 refine σP ?_
 refine CV (ι:=Nat) (λk=>[(0,bX (bT h)),(1,fI ((nth h.K i).Addr)),(2,fI n),(7,fN k)]) (λk=>k<=g) (λk=>g - k) (0) ?_ (I1 _) λk hk=>?_
 ·exact wE
 have j:=au (xs:=h.H) (i:=k) ω;have hfk:=bj (d.L.lok _ (ay (xs:=h.H) (i:=k) ω));by_cases e:k=g;rotate_left
 ·have hne:=G k ω
  refine σB ?_
  (exact dL (k+1) ω)
 subst e;by_cases D:9<=n/\n<=(nth h.H k).q;rotate_left
 ·rw[CJ (by rw[o];exact D),C1 (by rw[o];exact D)]
  rw[CJ D]at T
  refine σB ?_
  exact kk
 rw[CK (by rw[o];exact D),O0 (by rw[o];exact D)];rw[CK D]at T;have t:=λm Z=>BW d b D (m:=m) Z
 have w:=λm=>(y8 h.G (16*(nth h.H k).S+n) m).1
 have J:=λa U=>pn d b (a:=a) U
 have hsz:n<=16*(nth h.H k).a0:=ω
 generalize hM:(16*((n+15) / 16) - n).toNat=M at *;have hfl:∀m,(zK h.G (16*(nth h.H k).S+n) m).F.V.U.length=h.G.F.V.U.length:=λm=>by
  induction m with
  | zero=>rfl
  | succ m ih=>show(List.set _ _ _).length=_;rw[C3];exact ih
 have cO:=wy {h with H:=h.H.set k (trimL (nth h.H k) n)} (nth h.K i).Addr (by show h.K.length<=_;omega);change ah _ _ _ [.val (some 24) (ac.enc .O {h with H:=h.H.set k (trimL (nth h.H k) n)}),_] _ [I (cC (ka (nth h.K i).Addr) h.K)]at cO;rw[r]at cO;have N:=bY {h with H:=h.H.set k (trimL (nth h.H k) n)};have heL:bT {h with H:=h.H.set k (trimL (nth h.H k) n)} = (bT h).set 7 (.s .own ((h.H.map (aA.enc .own)).set k (aA.enc .own (trimL (nth h.H k) n)))):=by simp[bT,IC]
 rw[heL]at N
 repeat'(first|refine gB ?_|refine CR rfl rfl (aa j) rfl (O2 rfl) rfl ?_|refine CN (cO) ⟨⟨rfl,N⟩,⟨rfl,rfl⟩,tV1⟩ ?_|refine CR rfl rfl (aa y) rfl (O2 rfl) rfl ?_)
 rw[<-W];have e0:ip h i k n h.G=ip h i k n (zK h.G (16*(nth h.H k).S+n) 0):=rfl;have hoo:C.s .own ((ip h i k n (zK h.G (16*(nth h.H k).S+n) 0)).H.map (aA.enc .own))=C.s .own ((h.H.map (aA.enc .own)).set k (aA.enc .own (trimL (nth h.H k) n))):=by simp[ip,IC]
 have hoo2:C.s .own ((ip h i k n (zK h.G (16*(nth h.H k).S+n) 0)).K.map (aW.enc .own))=C.s .own ((h.K.map (aW.enc .own)).set i (splice (aW.enc .own (nth h.K i)) 2 [I n])):=O1 _ (GR h i k n _)
 (conv=>whnf)
 refine CV (ι:=Nat) (λm=>[(0,bX (bT (ip h i k n (zK h.G (16*(nth h.H k).S+n) m)))),(1,fI ((nth h.H k).S*16)),(8,bX (aA.enc .own (trimL (nth h.H k) n))),(9,bX (aD.enc .own (kE (nth h.H k) n))),(11,fI ((16*(nth h.H k).S+n)+(m:Nat)))]) (λm=>m<=M) (λm=>M - m) (0) ?_ (I1 _) λm Z=>?_
 ·exact wE
 have hmod:IntKind.i64.wrap 0=0:=rfl;by_cases lm:m<M
 ·have U:0<=(16*(nth h.H k).S+n)+(m:Nat)/\(16*(nth h.H k).S+n)+(m:Nat)<512:=ω
  have O:=J ((16*(nth h.H k).S+n)+(m:Nat)) ω;have p:=t m Z;rw[<-w m]at O;have hks:=bq p;have c2:=dO (zK h.G (16*(nth h.H k).S+n) m).F.R (((16*(nth h.H k).S+n)+(m:Nat)) / 16) hks.1.2;obtain⟨-,-,-,q0,q1⟩:=bV p O;have hul:=(bk.1 (aM.1 p).2.1).2.2.1;have Q:gc (zK h.G (16*(nth h.H k).S+n) m) ((16*(nth h.H k).S+n)+(m:Nat))<(zK h.G (16*(nth h.H k).S+n) m).F.V.U.length:=by unfold gc;omega
  have E:(zK h.G (16*(nth h.H k).S+n) m).F.V.U[(ax (zK h.G (16*(nth h.H k).S+n) m).F.R (((16*(nth h.H k).S+n)+(m:Nat)) / 16)).g.toNat]? = some _:=au Q;have h16:=(Jw p Q).1;have R:=au (xs:=nth (zK h.G (16*(nth h.H k).S+n) m).F.V.U (gc (zK h.G (16*(nth h.H k).S+n) m) ((16*(nth h.H k).S+n)+(m:Nat)))) (i:=(((16*(nth h.H k).S+n)+(m:Nat)) % 16).toNat) (by rw[h16];omega);have htm:((16*(nth h.H k).S+n)+(m:Nat)).tmod 16=((16*(nth h.H k).S+n)+(m:Nat)) % 16:=fH U.1;have hpu:=Zn (ip h i k n h.G) (16*(nth h.H k).S+n) m;have hwr:=mi U;have hst:(trimL (nth h.H k) n).a0=(n+15) / 16:=rfl
  repeat'(first|refine gE ?_|refine CU qs ?_|refine CT hwr ?_|refine CY htm ?_|refine CN (c2) ⟨⟨rfl,Cm _⟩,⟨rfl,rfl⟩,tV1⟩ ?_|refine CS q0 (aa E) ?_|refine CS ω (aa R) ?_|refine Pu.two rfl rfl (aa E) rfl rfl rfl (aa R) rfl (z5 _) hpu ?_)
  (exact dL (m+1) ω)
 obtain rfl:m=M:=ω
 have hst:(trimL (nth h.H k) n).a0=(n+15) / 16:=rfl;have hkM:=t m (z5 _);have S:(zK h.G (16*(nth h.H k).S+n) m).F.R.M.length=ge h:=by rw[w];rfl
 have hTK:sG h k n=zK h.G (16*(nth h.H k).S+n) m:=by unfold sG;rw[hM]
 unfold trimH Aw;rw[hTK];generalize zK h.G (16*(nth h.H k).S+n) m=K at *;have hN:((dU (nth h.H k) n:Nat):Int)=(nth h.H k).a0 - (n+15) / 16:=by unfold dU;omega
 have hrA:0<dU (nth h.H k) n->kE (nth h.H k) n = ⟨(nth h.H k).S+(n+15) / 16,(dU (nth h.H k) n:Nat)⟩:=λhp=>by unfold kE;rw[CK ω,hN]
 have hrB:¬0<dU (nth h.H k) n->kE (nth h.H k) n = ⟨0,0⟩:=λhp=>by unfold kE;rw[CJ ω]
 generalize dU (nth h.H k) n=P at *;by_cases V:0<P
 ·rw[CK V]
  have hr:=hrA V;rw[hr]
  refine σE ?_
  refine CV (ι:=Nat) (λx=>[(0,bX (bT (ip h i k n (dX K ((nth h.H k).S+(n+15) / 16) x)))),(9,bX ([I ((nth h.H k).S+(n+15) / 16),I (P:Nat)])),(13,fI ((nth h.H k).S+(n+15) / 16+(x:Nat)))]) (λx=>x<=P) (λx=>P - x) (0) ?_ (I1 _) λx j=>?_
  ·exact wE
  by_cases lx:x<P
  ·have c3:=rj (ip h i k n (dX K ((nth h.H k).S+(n+15) / 16) x)) ((nth h.H k).S+(n+15) / 16+(x:Nat)) (kz hkM _ _)
   refine σE ?_
   (exact dL (x+1) ω)
  obtain rfl:x=P:=ω
  have c4:=jJ (ip h i k n (dX K ((nth h.H k).S+(n+15) / 16) x));rw[show ge (ip h i k n (dX K ((nth h.H k).S+(n+15) / 16) x))=ge h from(iy _ _ _).1.trans S]at c4;have c5:=pL (ge h:Nat) h.a ⟨(nth h.H k).S+(n+15) / 16,(x:Nat)⟩ ⟨ω,ω⟩ ⟨by have:=c.free;omega,λ_ _=>tV1⟩
  repeat'(first|refine gE ?_|refine CN (c4) ⟨bY _,tV1⟩ ?_|refine CN (c5) ⟨⟨rfl,rfl⟩,⟨rfl,fe h.a⟩,⟨rfl,rfl⟩,tV1⟩ ?_)
  exact kk
 rw[CJ V];obtain rfl:P=0:=ω
 have hr:=hrB V;rw[hr]
 refine σE ?_
 refine CV (ι:=Nat) (λx=>[(0,bX (bT (ip h i k n K))),(9,bX ([I 0,I 0])),(13,fI 0)]) (λx=>x=0) (λx=>0) (0) ?_ (rfl) λx j=>?_
 ·exact wE
 subst j
 refine σE ?_
 exact kk
def caps(h:ac)(k:Nat):ac:={h with Q:=List.replicate k MC}
def Rr(x:List aF):fz (.s .own (x.map (aF.enc .own)))=.s .O (x.map (aF.enc .O)):=(List.cons.inj (List.cons.inj (Cw ⟨0,x⟩)).2).1
def gm:∀a b:List C,du (a++b)=du a++du b
 | [],_=>rfl
 | x::xs,b=>by show fz x::du (xs++b)=fz x::(du xs++du b);rw[gm xs b]
def gg(r:ar)(c:ar.sml r):zzA 51 false [.val (some 2) (ar.enc .O r)] .agg (ar.enc .own r):=by
 have e:r.K.length<=1048576:=c.1;refine fO 36 [(5,272,[15,16,17,18,19,20,21,22,23,24,25,26,27,28,29,34,0,1,2,3,4,5,6,7,8,9,10,11,12,13,14,15,1000,1001,1002,1003,1004,1005,1006,1007,16,1000,1001,17,1000,1001,18,19,20])] Tryz.func51 rfl ?_ (.inr (Ct _))
 refine σP ?_
 refine lp0 r.K.length (λi=>[(1,bX (ar.enc .O r)),(2,bX [I 0,.z]),(3,bX [I r.j,.s .own ((r.K.take i).map (aF.enc .own))]),(4,fN i)]) λi g=>?_
 by_cases b:i<r.K.length
 ·have d:=au b
  have a:(nth r.K i).U.length<=1048576:=c.2 _ (ay b)
  repeat'(first|refine gE ?_|refine Cg (λ_=>rfl) (λ_=>rfl) a qs ?_|refine CX (λ_=>rfl) (λ_=>rfl) a qs ?_|refine Ap.sn (aR λ_=>rfl) rfl kd qs (gx b) ?_)
  (exact dL (i+1) ω)
 refine σE ?_
 obtain rfl:i=r.K.length:=ω
 rw[S9]
 rfl
def jV(r:ar)(id:Int)(g:r.K.length<=1048576):zzA 335 false [.val (some 2) (ar.enc .O r),.vI id] .one [I (pR r id)]:=by
 refine fO 22 [] Tryz.func335 rfl ?_
 refine σP ?_
 refine g0 r.K.length (λi=>[(1,fI id),(2,bX (ar.enc .O r)),(5,fN i)]) (λi=>∀(j:Nat)(z:aF),j<i->r.K[j]? = some z->iR id z=false) (λj z h=>ω) λi c=>?_
 obtain⟨c,b⟩:=c;by_cases d:i<r.K.length
 ·have a:=au d
  by_cases e:(nth r.K i).Id=id
  ·refine σB ?_
   exact eE (eA a (O0 e) b).symm
  refine σB ?_
  (exact dL (i+1) ⟨ω,gd a (C1 e) b⟩)
 refine σE ?_
 exact eE (gr ω b).symm
def rG(r:ar)(c:C)(h:Hu c):gl (ar.enc .own r++[c]):=aE (Ct _) ⟨h,tV1⟩
structure sF where
 i:Nat
 h:Int
deriving Inhabited
def w64(x:Int):Int:=IntKind.i64.wrap x
def nxH(h:Int):Int:=w64 (w64 (h*6364136223846793005)+1442695040888963407)
def a1x(a b:Int):Int:=w64 ((BitVec.ofInt IntKind.i64.bits a ^^^ BitVec.ofInt IntKind.i64.bits b).toNat:Nat)
def and255(a:Int):Int:=w64 ((BitVec.ofInt IntKind.i64.bits a &&& BitVec.ofInt IntKind.i64.bits 255).toNat:Nat)
def shX(h:Int)(n:Nat):Int:=h.fdiv (2 ^ (min n IntKind.i64.bits))
def YP(h:Int):Int:=and255 (a1x (shX h 33) (shX h 45))
def nr(a:List Int)(c:sF):Int × sF:=if c.i<a.length then(and255 (YP (nxH c.h)+nth a c.i),⟨c.i+1,nxH c.h⟩) else(YP (nxH c.h),⟨c.i,nxH c.h⟩)
def YE(a:List Int)(c:sF):Int × sF:=
 ((nr a c).1*16777216+(nr a (nr a c).2).1*65536+(nr a (nr a (nr a c).2).2).1*256+(nr a (nr a (nr a (nr a c).2).2).2).1,(nr a (nr a (nr a (nr a c).2).2).2).2)
def fU(a:List Int)(c:sF)(n:Int):Int × sF:=if n<=256 then((nr a c).1 % n,(nr a c).2) else((YE a c).1 % n,(YE a c).2)
def Ag(a:List Int)(c:sF)(l:List Int):Int × sF:=(nth l (fU a c (l.length:Nat)).1.toNat,(fU a c (l.length:Nat)).2)
def a0w(a:List Int):Nat->Nat->List Int->sF->List Int × sF
 | 0,_,out,c=>(out,(fU a c 4).2)
 | f+1,i,out,c=>if(i:Int)<(fU a c 4).1 then a0w a f (i+1) (out++[(fU a (fU a c 4).2 12).1]) (fU a (fU a c 4).2 12).2 else(out,(fU a c 4).2)
def a2h(a:List Int)(c:sF):List Int × sF:=a0w a 4 0 [] c
def cfP(a:List Int)(c:sF):Int × sF:=fU a c 7
def cfT(a:List Int)(c:sF):Int × sF:=fU a (cfP a c).2 3
def cfL(a:List Int)(c:sF):Int × sF:=fU a (cfT a c).2 100
def cfF(a:List Int)(c:sF):Int × sF:=fU a (cfL a c).2 4
def cfR(a:List Int)(c:sF):List Int × sF:=a2h a (cfF a c).2
def a0n(a:List Int)(c:sF):HT:=⟨(6+(cfP a c).1).toNat,(6+(cfP a c).1 - (cfF a c).1).toNat,(1+(cfT a c).1).toNat,40+(cfL a c).1,(cfR a c).1⟩
def WV(a:List Int)(c:sF):Int × sF:=fU a c 3
def Zi(a:List Int)(c:sF)(ids:Int):Int × sF:=fU a (WV a c).2 ids
def Ba(a:List Int)(c:sF)(ids:Int):Int × sF:=fU a (Zi a c ids).2 20
def szs:List Int:=[1,1,2,2,3,4,4,5,8,9,20]
def YT(a:List Int)(c:sF)(ids:Int):dP × sF:=
 if(Ba a c ids).1<=6 then(⟨1,(WV a c).1,(Ag a (Ba a c ids).2 szs).1,0,0⟩,(Ag a (Ba a c ids).2 szs).2)
 else if(Ba a c ids).1<=9 then(⟨2,(WV a c).1,1+(Zi a c ids).1,0,0⟩,(Ba a c ids).2)
 else if(Ba a c ids).1<=12 then(⟨3,(WV a c).1,1+(Zi a c ids).1,(fU a (Ba a c ids).2 4).1,1+(fU a (fU a (Ba a c ids).2 4).2 999).1⟩,(fU a (fU a (Ba a c ids).2 4).2 999).2)
 else if(Ba a c ids).1=13 then(⟨4,(WV a c).1,1+(Zi a c ids).1,0,9+(fU a (Ba a c ids).2 10).1⟩,(fU a (Ba a c ids).2 10).2)
 else if(Ba a c ids).1=14 then(⟨(Ag a (Ba a c ids).2 [5,6]).1,(WV a c).1,1+(Zi a c ids).1,0,0⟩,(Ag a (Ba a c ids).2 [5,6]).2)
 else if(Ba a c ids).1=15 then(⟨7,(WV a c).1,1+(Zi a c ids).1,0,0⟩,(Ba a c ids).2)
 else if(Ba a c ids).1=16 then(⟨8,(WV a c).1,(Ag a (Ba a c ids).2 [1,30,60,120]).1,0,0⟩,(Ag a (Ba a c ids).2 [1,30,60,120]).2)
 else if(Ba a c ids).1=17 then(⟨9,(WV a c).1,1+(Zi a c ids).1,0,0⟩,(Ba a c ids).2)
 else(⟨10,(WV a c).1,(Ag a (Ba a c ids).2 [1,2,3,10,30]).1,0,0⟩,(Ag a (Ba a c ids).2 [1,2,3,10,30]).2)
def QL(a:List Int)(c:sF):Nat->List dP × sF
 | 0=>([],(fU a c 41).2)
 | i+1=>((QL a c i).1++[(YT a (QL a c i).2 (1+(i:Int) / 2)).1],(YT a (QL a c i).2 (1+(i:Int) / 2)).2)
def YN(a:List Int)(c:sF):List dP × sF:=QL a c (fU a c 41).1.toNat
def a0i(a:List Int):Nat->Int
 | 0=>w64 (98801+(a.length:Nat))
 | i+1=>w64 ((BitVec.ofInt IntKind.i64.bits (w64 (w64 (w64 (a0i a i*131)+nth a i)+7)) &&& BitVec.ofInt IntKind.i64.bits 1073741823).toNat:Nat)
def a0u(a:List Int):sF:=⟨0,a0i a (min a.length 4000)⟩
def W7(a:List Int):sF:=(cfR a (a0u a)).2
def drawn(a:List Int):aP:=(rnN (a0n a (a0u a)) (YN a (W7 a)).1 (YN a (W7 a)).1.length).1
structure Rq where
 i:Nat
 out:List Int
 c:sF
def dP.enc_fr(x:dP):gl (dP.enc .own x):=⟨tV1,tV1,tV1,tV1,tV1,tV1⟩
def rfs(h:ac):List Int:=h.G.k
def J6(k:af)(p:Int):(eD k p).1.k=k.k:=by unfold eD;split<;>rfl
def yk(k:af)(p:Int):∀n,(bP k p n).1.k=k.k
 | 0=>rfl
 | n+1=>by
  unfold bP;split
  ·exact(J6 _ _).trans (yk k p n)
  exact yk k p n
def WA(h:ac)(i:Nat):rfs (nt h i).1=rfs h:=by unfold nt;split<;>rfl
def Ht(h:ac)(t c:Nat):rfs (fT h t c).1=rfs h:=by
 unfold fT;split
 ·rfl
 split
 ·rfl
 split
 ·rfl
 split
 ·exact J6 _ _
 exact(WA _ _).trans (J6 _ _)
def TS(h:ac)(t n:Int):rfs (fm h t n).1=rfs h:=by
 unfold fm;split
 ·rfl
 split
 ·rfl
 split
 ·rfl
 split
 ·rfl
 split
 ·split
  ·exact Ht _ _ _
  exact Ht _ _ _
 unfold wM;split
 ·rfl
 split
 ·exact yk _ _ _
 exact((ve _ _ _).2).trans (yk _ _ _)
def Wv(h:ac)(t i:Nat):rfs (freeT h t i).1=rfs h:=by
 unfold freeT;split
 ·exact(ve _ _ _).2
 split
 ·rfl
 split
 ·exact(gJ t _ _).2.2.2.2.2.2.2
 split<;>rfl
def Ho(t:Nat)(h:ac):∀k,rfs (bC t h k).1=rfs h
 | 0=>rfl
 | k+1=>((ku _ (spilt (bC t h k).1 t k)).2.2.2.2.2.2.2).trans (Ho t h k)
def xV(w:aP):List C:=bT w.W++ar.enc .O w.b0
def Xy(w:aP):du (xV w)=aP.enc .O w:=by
 unfold xV;rw[gm,bY,<-Cw,wV,Cw]
 rfl
def Lf(w:aP)(id:Int)(g:w.W.K.length<=1048576):zzB 68 false [.ptr (xV w),.vI id] [.ptr (xV w),.vI id] .one [I (oY w.W id)]:=by
 refine fM 28 [] [] [(0,0),(0,0)] Tryz.func68 rfl (λu q=>?_)
 refine σP ?_
 refine g0 w.W.K.length (λi=>[(0,bX (xV w)),(1,fI id),(5,fN i)]) (λi=>∀(j:Nat)(z:aW),j<i->w.W.K[j]? = some z->Rh id z=false) (λj z h=>ω) λi c=>?_
 obtain⟨c,b⟩:=c;by_cases d:i<w.W.K.length
 ·have a:=au d
  by_cases e:(nth w.W.K i).Id=id
  ·refine σB ?_
   refine CO rfl (eE (eA a (O0 e) b).symm) ?_;exact wC
  refine σB ?_
  (exact dL (i+1) ⟨ω,gd a (C1 e) b⟩)
 refine σE ?_
 refine CO rfl (eE (gr ω b).symm) ?_;exact wC
def dA(y:ac):(bT y).length=24:=rfl
def Pq{k:af}(a:aN k=true):(aN k&&decide (k.Calls<100000))=decide (k.Calls≠100000):=by
 have:=(aM.1 a).2.2.2.2;rw[a,Bool.true_and,C9,C0,C0];omega
def xF(w:aP)(h1:ac.sml w.W)(h2:ar.sml w.b0):zzA 14 false [.val (some 26) (aP.enc .O w)] .agg (aP.enc .own w):=by
 have a:=HH w.W h1;have b:=gg w.b0 h2;refine fO 10 [(1,5,[3,4,5,6,7])] Tryz.func14 rfl ?_ (.inr (aP.enc_fr _))
 refine σP ?_
 rfl
set_option maxHeartbeats 2000000
def uW(x:List Int)(e:lN x):zzA 203 false [.val none (aI .O x)] .one (aI .own x):=by
 refine fO 22 [] Tryz.func203 rfl ?_ (.inr (bO x));have g:x.length<=1048576:=e;have a:(x.map (rI .own)).length=(List.replicate x.length ([I 0]:List C)).length:=by simp
 repeat'(first|refine gP ?_|refine Mk.mk _ rfl rfl ω (wT g qs) rfl ?_)
 refine CV (ι:=Nat) (λi=>[(0,b8 (aI .O x)),(3,b8 [.s .own (iH (x.map (rI .own)) (List.replicate x.length [I 0]) i)]),(4,fN i)]) (λi=>i<=x.length) (λi=>x.length - i) 0 ?_ (I1 _) λi h=>?_
 ·rw[cF]
  exact wA
 by_cases b:i<x.length
 ·obtain⟨y,d⟩ : ∃y,x[i]? = some y:=⟨_,z4 b⟩
  have c:=dD a i kd;rw[jw b]at c
  repeat'(first|refine gE ?_|with_reducible refine CI c ?_|refine CR rfl rfl c rfl (z5 _) rfl ?_|refine CQ (i+1) ω ω ?_)
  repeat'(first|exact tV1|rfl|exact CL rfl (CL (O1 (C.s eS.own) (ce a (aa d))) tV1)|refine CL ?_ ?_)
 refine σE ?_
 rw[dG _ a kd]
 rfl
def ww(x:List (List Int))(e:mc x):zzA 210 false [.val none (fk .O x)] .one (fk .own x):=by
 refine fO 23 [] Tryz.func210 rfl ?_ (.inr (Ty x));have g:x.length<=1048576:=e.1;have a:(x.map (aI .own)).length=(List.replicate x.length ([.z]:List C)).length:=by simp
 repeat'(first|refine gP ?_|refine Mk.mk _ rfl rfl ω (wT g qs) rfl ?_)
 refine CV (ι:=Nat) (λi=>[(0,b8 (fk .O x)),(3,b8 [.s .own (iH (x.map (aI .own)) (List.replicate x.length [.z]) i)]),(4,fN i)]) (λi=>i<=x.length) (λi=>x.length - i) 0 ?_ (I1 _) λi h=>?_
 ·rw[cF]
  exact wA
 by_cases b:i<x.length
 ·obtain⟨y,c⟩ : ∃y,x[i]? = some y:=⟨_,z4 b⟩
  have d:=dD a i kd;rw[jw b]at d
  repeat'(first|refine gE ?_|with_reducible refine CI d ?_|refine CG (uW y (e.2 y (t4 c))) ?_|refine CR rfl rfl d rfl (z5 _) rfl ?_|refine CQ (i+1) ω ω ?_)
  repeat'(first|exact tV1|rfl|exact CL rfl (CL (O1 (C.s eS.own) (ce a (aa c))) tV1)|refine CL ?_ ?_)
 refine σE ?_
 rw[dG _ a kd]
 rfl
def PC(x:List Bool)(e:qA x):zzA 431 false [.val none (iq .O x)] .one (iq .own x):=by
 refine fO 22 [] Tryz.func431 rfl ?_ (.inr (Tg x));have g:x.length<=1048576:=e;have a:(x.map (rB .own)).length=(List.replicate x.length ([B false]:List C)).length:=by simp
 repeat'(first|refine gP ?_|refine Mk.mk _ rfl rfl ω (wT g qs) rfl ?_)
 refine CV (ι:=Nat) (λi=>[(0,b8 (iq .O x)),(3,b8 [.s .own (iH (x.map (rB .own)) (List.replicate x.length [B false]) i)]),(4,fN i)]) (λi=>i<=x.length) (λi=>x.length - i) 0 ?_ (I1 _) λi h=>?_
 ·rw[cF]
  exact wA
 by_cases b:i<x.length
 ·obtain⟨y,d⟩ : ∃y,x[i]? = some y:=⟨_,z4 b⟩
  have c:=dD a i kd;rw[jw b]at c
  repeat'(first|refine gE ?_|with_reducible refine CI c ?_|refine CR rfl rfl c rfl (z5 _) rfl ?_|refine CQ (i+1) ω ω ?_)
  repeat'(first|exact tV1|rfl|exact CL rfl (CL (O1 (C.s eS.own) (ce a (aa d))) tV1)|refine CL ?_ ?_)
 refine σE ?_
 rw[dG _ a kd]
 rfl
def Nf(x:aO)(a:aO.sml x):zzA 350 false [.val (some 2) (aO.enc .O x)] .agg (aO.enc .own x):=by
 obtain⟨b,c⟩:=a;refine fO 13 [] Tryz.func350 rfl ?_ (.inr (aO.enc_fr x))
 repeat'(first|refine gP ?_|refine CG (ww x.U b) ?_|refine CG (PC x.y c) ?_)
 rfl
def PU(x:aS)(a:aS.sml x):zzA 463 false [.val (some 2) (aS.enc .O x)] .agg (aS.enc .own x):=by
 refine fO 11 [] Tryz.func463 rfl ?_ (.inr (aS.enc_fr x))
 refine σP ?_
 rfl
def Mi(x:List aS)(e:lE x):zzA 432 false [.val none (fX .O x)] .one (fX .own x):=by
 refine fO 23 [] Tryz.func432 rfl ?_ (.inr (LZ x));have g:x.length<=1048576:=e.1;have a:(x.map (aS.enc .own)).length=(List.replicate x.length ([I 0,I 0]:List C)).length:=by simp
 repeat'(first|refine gP ?_|refine Mk.mk _ rfl rfl ω (wT g qs) rfl ?_)
 refine CV (ι:=Nat) (λi=>[(0,b8 (fX .O x)),(3,b8 [.s .own (iH (x.map (aS.enc .own)) (List.replicate x.length [I 0,I 0]) i)]),(4,fN i)]) (λi=>i<=x.length) (λi=>x.length - i) 0 ?_ (I1 _) λi h=>?_
 ·rw[cF]
  exact wA
 by_cases b:i<x.length
 ·obtain⟨y,d⟩ : ∃y,x[i]? = some y:=⟨_,z4 b⟩
  have c:=dD a i kd;rw[jw b]at c
  repeat'(first|refine gE ?_|with_reducible refine CI c ?_|refine CG (PU y tV1) ?_|refine CR rfl rfl c rfl (z5 _) rfl ?_|refine CQ (i+1) ω ω ?_)
  repeat'(first|exact tV1|rfl|exact CL rfl (CL (O1 (C.s eS.own) (ce a (aa d))) tV1)|refine CL ?_ ?_)
 refine σE ?_
 rw[dG _ a kd]
 rfl
def NK(x:aL)(a:aL.sml x):zzA 351 false [.val (some 1) (aL.enc .O x)] .agg (aL.enc .own x):=by
 have b:=a;refine fO 9 [] Tryz.func351 rfl ?_ (.inr (aL.enc_fr x))
 repeat'(first|refine gP ?_|refine CG (Mi x.M b) ?_)
 rfl
def HX(x:aH)(a:aH.sml x):zzA 202 false [.val (some 3) (aH.enc .O x)] .agg (aH.enc .own x):=by
 obtain⟨b,c⟩:=a;refine fO 13 [] Tryz.func202 rfl ?_ (.inr (aH.enc_fr x))
 repeat'(first|refine gP ?_|refine CG (Nf x.V b) ?_|refine CG (NK x.R c) ?_)
 rfl
def KK(x:af)(a:af.sml x):zzA 75 false [.val (some 5) (af.enc .O x)] .agg (af.enc .own x):=by
 obtain⟨b,c⟩:=a;refine fO 16 [] Tryz.func75 rfl ?_ (.inr (Ck x))
 repeat'(first|refine gP ?_|refine CG (HX x.F b) ?_|refine CG (uW x.k c) ?_)
 rfl
def NY(x:aD)(a:aD.sml x):zzA 204 false [.val (some 2) (aD.enc .O x)] .agg (aD.enc .own x):=by
 refine fO 11 [] Tryz.func204 rfl ?_ (.inr (aD.enc_fr x))
 refine σP ?_
 rfl
def KL(x:List aD)(e:eJ x):zzA 76 false [.val none (bm .O x)] .one (bm .own x):=by
 refine fO 23 [] Tryz.func76 rfl ?_ (.inr (ji x));have g:x.length<=1048576:=e.1;have a:(x.map (aD.enc .own)).length=(List.replicate x.length ([I 0,I 0]:List C)).length:=by simp
 repeat'(first|refine gP ?_|refine Mk.mk _ rfl rfl ω (wT g qs) rfl ?_)
 refine CV (ι:=Nat) (λi=>[(0,b8 (bm .O x)),(3,b8 [.s .own (iH (x.map (aD.enc .own)) (List.replicate x.length [I 0,I 0]) i)]),(4,fN i)]) (λi=>i<=x.length) (λi=>x.length - i) 0 ?_ (I1 _) λi h=>?_
 ·rw[cF]
  exact wA
 by_cases b:i<x.length
 ·obtain⟨y,d⟩ : ∃y,x[i]? = some y:=⟨_,z4 b⟩
  have c:=dD a i kd;rw[jw b]at c
  repeat'(first|refine gE ?_|with_reducible refine CI c ?_|refine CG (NY y tV1) ?_|refine CR rfl rfl c rfl (z5 _) rfl ?_|refine CQ (i+1) ω ω ?_)
  repeat'(first|exact tV1|rfl|exact CL rfl (CL (O1 (C.s eS.own) (ce a (aa d))) tV1)|refine CL ?_ ?_)
 refine σE ?_
 rw[dG _ a kd]
 rfl
def Uu(x:aC)(a:aC.sml x):zzA 205 false [.val (some 3) (aC.enc .O x)] .agg (aC.enc .own x):=by
 refine fO 14 [] Tryz.func205 rfl ?_ (.inr (aC.enc_fr x))
 refine σP ?_
 rfl
def Pz(x:List aC)(e:cP x):zzA 77 false [.val none (bH .O x)] .one (bH .own x):=by
 refine fO 23 [] Tryz.func77 rfl ?_ (.inr (wG x));have g:x.length<=1048576:=e.1;have a:(x.map (aC.enc .own)).length=(List.replicate x.length ([I 0,I 0,I 0]:List C)).length:=by simp
 repeat'(first|refine gP ?_|refine Mk.mk _ rfl rfl ω (wT g qs) rfl ?_)
 refine CV (ι:=Nat) (λi=>[(0,b8 (bH .O x)),(3,b8 [.s .own (iH (x.map (aC.enc .own)) (List.replicate x.length [I 0,I 0,I 0]) i)]),(4,fN i)]) (λi=>i<=x.length) (λi=>x.length - i) 0 ?_ (I1 _) λi h=>?_
 ·rw[cF]
  exact wA
 by_cases b:i<x.length
 ·obtain⟨y,d⟩ : ∃y,x[i]? = some y:=⟨_,z4 b⟩
  have c:=dD a i kd;rw[jw b]at c
  repeat'(first|refine gE ?_|with_reducible refine CI c ?_|refine CG (Uu y tV1) ?_|refine CR rfl rfl c rfl (z5 _) rfl ?_|refine CQ (i+1) ω ω ?_)
  repeat'(first|exact tV1|rfl|exact CL rfl (CL (O1 (C.s eS.own) (ce a (aa d))) tV1)|refine CL ?_ ?_)
 refine σE ?_
 rw[dG _ a kd]
 rfl
def Pt(x:aA)(a:aA.sml x):zzA 206 false [.val (some 3) (aA.enc .O x)] .agg (aA.enc .own x):=by
 refine fO 14 [] Tryz.func206 rfl ?_ (.inr (aA.enc_fr x))
 refine σP ?_
 rfl
def LC(x:List aA)(e:cV x):zzA 78 false [.val none (bG .O x)] .one (bG .own x):=by
 refine fO 23 [] Tryz.func78 rfl ?_ (.inr (Mh x));have g:x.length<=1048576:=e.1;have a:(x.map (aA.enc .own)).length=(List.replicate x.length ([I 0,I 0,I 0]:List C)).length:=by simp
 repeat'(first|refine gP ?_|refine Mk.mk _ rfl rfl ω (wT g qs) rfl ?_)
 refine CV (ι:=Nat) (λi=>[(0,b8 (bG .O x)),(3,b8 [.s .own (iH (x.map (aA.enc .own)) (List.replicate x.length [I 0,I 0,I 0]) i)]),(4,fN i)]) (λi=>i<=x.length) (λi=>x.length - i) 0 ?_ (I1 _) λi h=>?_
 ·rw[cF]
  exact wA
 by_cases b:i<x.length
 ·obtain⟨y,d⟩ : ∃y,x[i]? = some y:=⟨_,z4 b⟩
  have c:=dD a i kd;rw[jw b]at c
  repeat'(first|refine gE ?_|with_reducible refine CI c ?_|refine CG (Pt y tV1) ?_|refine CR rfl rfl c rfl (z5 _) rfl ?_|refine CQ (i+1) ω ω ?_)
  repeat'(first|exact tV1|rfl|exact CL rfl (CL (O1 (C.s eS.own) (ce a (aa d))) tV1)|refine CL ?_ ?_)
 refine σE ?_
 rw[dG _ a kd]
 rfl
def U9(x:aW)(a:aW.sml x):zzA 207 false [.val (some 4) (aW.enc .O x)] .agg (aW.enc .own x):=by
 refine fO 17 [] Tryz.func207 rfl ?_ (.inr (aW.enc_fr x))
 refine σP ?_
 rfl
def T7(x:List aW)(e:qT x):zzA 79 false [.val none (gn .O x)] .one (gn .own x):=by
 refine fO 23 [] Tryz.func79 rfl ?_ (.inr (Tp x));have g:x.length<=1048576:=e.1;have a:(x.map (aW.enc .own)).length=(List.replicate x.length ([I 0,I 0,I 0,I 0]:List C)).length:=by simp
 repeat'(first|refine gP ?_|refine Mk.mk _ rfl rfl ω (wT g qs) rfl ?_)
 refine CV (ι:=Nat) (λi=>[(0,b8 (gn .O x)),(3,b8 [.s .own (iH (x.map (aW.enc .own)) (List.replicate x.length [I 0,I 0,I 0,I 0]) i)]),(4,fN i)]) (λi=>i<=x.length) (λi=>x.length - i) 0 ?_ (I1 _) λi h=>?_
 ·rw[cF]
  exact wA
 by_cases b:i<x.length
 ·obtain⟨y,d⟩ : ∃y,x[i]? = some y:=⟨_,z4 b⟩
  have c:=dD a i kd;rw[jw b]at c
  repeat'(first|refine gE ?_|with_reducible refine CI c ?_|refine CG (U9 y tV1) ?_|refine CR rfl rfl c rfl (z5 _) rfl ?_|refine CQ (i+1) ω ω ?_)
  repeat'(first|exact tV1|rfl|exact CL rfl (CL (O1 (C.s eS.own) (ce a (aa d))) tV1)|refine CL ?_ ?_)
 refine σE ?_
 rw[dG _ a kd]
 rfl
def NE(x:aB)(a:aB.sml x):zzA 208 false [.val (some 1) (aB.enc .O x)] .agg (aB.enc .own x):=by
 have b:=a;refine fO 9 [] Tryz.func208 rfl ?_ (.inr (Cs x))
 repeat'(first|refine gP ?_|refine CG (ww x.X b) ?_)
 rfl
def KB(x:List aB)(e:lK x):zzA 80 false [.val none (er .O x)] .one (er .own x):=by
 refine fO 23 [] Tryz.func80 rfl ?_ (.inr (Mo x));have g:x.length<=1048576:=e.1;have a:(x.map (aB.enc .own)).length=(List.replicate x.length ([.z]:List C)).length:=by simp
 repeat'(first|refine gP ?_|refine Mk.mk _ rfl rfl ω (wT g qs) rfl ?_)
 refine CV (ι:=Nat) (λi=>[(0,b8 (er .O x)),(3,b8 [.s .own (iH (x.map (aB.enc .own)) (List.replicate x.length [.z]) i)]),(4,fN i)]) (λi=>i<=x.length) (λi=>x.length - i) 0 ?_ (I1 _) λi h=>?_
 ·rw[cF]
  exact wA
 by_cases b:i<x.length
 ·obtain⟨y,c⟩ : ∃y,x[i]? = some y:=⟨_,z4 b⟩
  have d:=dD a i kd;rw[jw b]at d
  repeat'(first|refine gE ?_|with_reducible refine CI d ?_|refine CG (NE y (e.2 y (t4 c))) ?_|refine CR rfl rfl d rfl (z5 _) rfl ?_|refine CQ (i+1) ω ω ?_)
  repeat'(first|exact tV1|rfl|exact CL rfl (CL (O1 (C.s eS.own) (ce a (aa c))) tV1)|refine CL ?_ ?_)
 refine σE ?_
 rw[dG _ a kd]
 rfl
def RY(x:aV)(a:aV.sml x):zzA 433 false [.val (some 2) (aV.enc .O x)] .agg (aV.enc .own x):=by
 refine fO 11 [] Tryz.func433 rfl ?_ (.inr (aV.enc_fr x))
 refine σP ?_
 rfl
def PW(x:List aV)(e:od x):zzA 352 false [.val none (bf .O x)] .one (bf .own x):=by
 refine fO 23 [] Tryz.func352 rfl ?_ (.inr (lB x));have g:x.length<=1048576:=e.1;have a:(x.map (aV.enc .own)).length=(List.replicate x.length ([I 0,I 0]:List C)).length:=by simp
 repeat'(first|refine gP ?_|refine Mk.mk _ rfl rfl ω (wT g qs) rfl ?_)
 refine CV (ι:=Nat) (λi=>[(0,b8 (bf .O x)),(3,b8 [.s .own (iH (x.map (aV.enc .own)) (List.replicate x.length [I 0,I 0]) i)]),(4,fN i)]) (λi=>i<=x.length) (λi=>x.length - i) 0 ?_ (I1 _) λi h=>?_
 ·rw[cF]
  exact wA
 by_cases b:i<x.length
 ·obtain⟨y,d⟩ : ∃y,x[i]? = some y:=⟨_,z4 b⟩
  have c:=dD a i kd;rw[jw b]at c
  repeat'(first|refine gE ?_|with_reducible refine CI c ?_|refine CG (RY y tV1) ?_|refine CR rfl rfl c rfl (z5 _) rfl ?_|refine CQ (i+1) ω ω ?_)
  repeat'(first|exact tV1|rfl|exact CL rfl (CL (O1 (C.s eS.own) (ce a (aa d))) tV1)|refine CL ?_ ?_)
 refine σE ?_
 rw[dG _ a kd]
 rfl
def KY(x:List (List aV))(e:lr x):zzA 209 false [.val none (fw .O x)] .one (fw .own x):=by
 refine fO 23 [] Tryz.func209 rfl ?_ (.inr (LX x));have g:x.length<=1048576:=e.1;have a:(x.map (bf .own)).length=(List.replicate x.length ([.z]:List C)).length:=by simp
 repeat'(first|refine gP ?_|refine Mk.mk _ rfl rfl ω (wT g qs) rfl ?_)
 refine CV (ι:=Nat) (λi=>[(0,b8 (fw .O x)),(3,b8 [.s .own (iH (x.map (bf .own)) (List.replicate x.length [.z]) i)]),(4,fN i)]) (λi=>i<=x.length) (λi=>x.length - i) 0 ?_ (I1 _) λi h=>?_
 ·rw[cF]
  exact wA
 by_cases b:i<x.length
 ·obtain⟨y,c⟩ : ∃y,x[i]? = some y:=⟨_,z4 b⟩
  have d:=dD a i kd;rw[jw b]at d
  repeat'(first|refine gE ?_|with_reducible refine CI d ?_|refine CG (PW y (e.2 y (t4 c))) ?_|refine CR rfl rfl d rfl (z5 _) rfl ?_|refine CQ (i+1) ω ω ?_)
  repeat'(first|exact tV1|rfl|exact CL rfl (CL (O1 (C.s eS.own) (ce a (aa c))) tV1)|refine CL ?_ ?_)
 refine σE ?_
 rw[dG _ a kd]
 rfl
def TF(x:aJ)(a:aJ.sml x):zzA 81 false [.val (some 2) (aJ.enc .O x)] .agg (aJ.enc .own x):=by
 obtain⟨b,c⟩:=a;refine fO 13 [] Tryz.func81 rfl ?_ (.inr (Cr x))
 repeat'(first|refine gP ?_|refine CG (KY x.T b) ?_|refine CG (ww x.e c) ?_)
 rfl
def NW(x:aK)(a:aK.sml x):zzA 353 false [.val (some 3) (aK.enc .O x)] .agg (aK.enc .own x):=by
 refine fO 14 [] Tryz.func353 rfl ?_ (.inr (aK.enc_fr x))
 refine σP ?_
 rfl
def Lc(x:List aK)(e:gT x):zzA 211 false [.val none (bJ .O x)] .one (bJ .own x):=by
 refine fO 23 [] Tryz.func211 rfl ?_ (.inr (mh x));have g:x.length<=1048576:=e.1;have a:(x.map (aK.enc .own)).length=(List.replicate x.length ([I 0,I 0,I 0]:List C)).length:=by simp
 repeat'(first|refine gP ?_|refine Mk.mk _ rfl rfl ω (wT g qs) rfl ?_)
 refine CV (ι:=Nat) (λi=>[(0,b8 (bJ .O x)),(3,b8 [.s .own (iH (x.map (aK.enc .own)) (List.replicate x.length [I 0,I 0,I 0]) i)]),(4,fN i)]) (λi=>i<=x.length) (λi=>x.length - i) 0 ?_ (I1 _) λi h=>?_
 ·rw[cF]
  exact wA
 by_cases b:i<x.length
 ·obtain⟨y,d⟩ : ∃y,x[i]? = some y:=⟨_,z4 b⟩
  have c:=dD a i kd;rw[jw b]at c
  repeat'(first|refine gE ?_|with_reducible refine CI c ?_|refine CG (NW y tV1) ?_|refine CR rfl rfl c rfl (z5 _) rfl ?_|refine CQ (i+1) ω ω ?_)
  repeat'(first|exact tV1|rfl|exact CL rfl (CL (O1 (C.s eS.own) (ce a (aa d))) tV1)|refine CL ?_ ?_)
 refine σE ?_
 rw[dG _ a kd]
 rfl
def TU(x:aY)(a:aY.sml x):zzA 82 false [.val (some 2) (aY.enc .O x)] .agg (aY.enc .own x):=by
 have b:=a;refine fO 12 [] Tryz.func82 rfl ?_ (.inr (aY.enc_fr x))
 repeat'(first|refine gP ?_|refine CG (Lc x.l b) ?_)
 rfl
def TA(x:bn)(a:bn.sml x):zzA 212 false [.val (some 3) (bn.enc .O x)] .agg (bn.enc .own x):=by
 have b:=a;refine fO 15 [] Tryz.func212 rfl ?_ (.inr (bn.enc_fr x))
 repeat'(first|refine gP ?_|refine CG (uW x.U b) ?_)
 rfl
def US(x:bz)(a:bz.sml x):zzA 83 false [.val (some 5) (bz.enc .O x)] .agg (bz.enc .own x):=by
 have b:=a;refine fO 15 [] Tryz.func83 rfl ?_ (.inr (bz.enc_fr x))
 repeat'(first|refine gP ?_|refine CG (TA x.d b) ?_)
 rfl
def Tu(x:ac)(a:ac.sml x):zzA 17 false [.val (some 24) (ac.enc .O x)] .agg (ac.enc .own x):=by
 obtain⟨b,c,d,e,g,h,i,j,k⟩:=a;refine fO 56 [] Tryz.func17 rfl ?_ (.inr (ac.enc_fr x))
 repeat'(first|refine gP ?_|refine CG (KK x.G b) ?_|refine CG (KL x.a c) ?_|refine CG (Pz x.J d) ?_|refine CG (LC x.H e) ?_|refine CG (T7 x.K g) ?_|refine CG (KB x.Q h) ?_|refine CG (TF x.b i) ?_|refine CG (TU x.r j) ?_|refine CG (US x.a2 k) ?_)
 rfl
set_option maxHeartbeats 2000000
def vg(x:List Int)(left:Int)(b:0<=left)(h1:left<=1048576)(a:kR x):zzA 153 false [.val none (aI .O x),.vI left] .one [I (kj (szIntS x) left)]:=by
 refine fO 12 [] Tryz.func153 rfl ?_;have c:=a.1
 repeat'(first|refine gE ?_|refine gS (λh=>?_) (λh=>?_)|fail)
 all_goals exact eE (by unfold kj szIntS;split<;>omega)
def vU(x:List (List Int))(left:Int)(n:0<=left)(h1:left<=1048576)(e:yg x):zzA 156 false [.val none (fk .O x),.vI left] .one [I (kj (szIntSS x) left)]:=by
 refine fO 27 [] Tryz.func156 rfl ?_;have o:=e.1
 repeat'(first|refine gE ?_|refine gS (λh=>?_) (λh=>?_)|fail)
 ·exact eE (by unfold kj szIntSS;split<;>omega)
 (conv=>whnf)
 refine CV (ι:=Nat) (λi=>[(0,b8 (fk .O x)),(1,fI (left - x.length - (fS x i:Nat))),(5,fN i)]) (λi=>i<=x.length/\(x.length+fS x i:Int)<=left) (λi=>x.length - i) 0 ?_ ⟨I1 _,by rw[oH];omega⟩ λi g=>?_
 ·rw[oH]
  repeat'(first|exact tV1|rfl|exact CL rfl (CL (O1 I ω) tV1)|refine CL ?_ ?_)
 obtain⟨g,a⟩:=g;have k:=rH x i;by_cases b:i<x.length
 ·obtain⟨y,c⟩ : ∃y,x[i]? = some y:=⟨_,z4 b⟩
  have d:=tq x i y c;have j:=rH x (i+1)
  repeat'(first|refine gE ?_|refine gS (λh=>?_) (λh=>?_)|refine Cb (vg y _ ω ω (e.2 y (t4 c))) (λh=>?_) (λh=>?_)|refine CQ (i+1) ⟨ω,ω⟩ ω ?_)
  ·exact eE (by unfold kj szIntSS;split<;>omega)
  rw[d]
  repeat'(first|exact tV1|rfl|exact CL rfl (CL (O1 I ω) tV1)|refine CL ?_ ?_)
 repeat'(first|refine gE ?_|refine gS (λh=>?_) (λh=>?_)|fail)
 have l:i=x.length:=ω
 subst l;rw[v7]at a |-;exact eE (by unfold kj szIntSS;split<;>omega)
def Pc(x:List Bool)(left:Int)(b:0<=left)(h1:left<=1048576)(a:J8 x):zzA 408 false [.val none (iq .O x),.vI left] .one [I (kj (szBoolS x) left)]:=by
 refine fO 12 [] Tryz.func408 rfl ?_;have c:=a.1
 repeat'(first|refine gE ?_|refine gS (λh=>?_) (λh=>?_)|fail)
 all_goals exact eE (by unfold kj szBoolS;split<;>omega)
def ME(x:aO)(left:Int)(b:0<=left)(h1:left<=1048576)(a:aO.wf x):zzA 305 false [.val (some 2) (aO.enc .O x),.vI left] .one [I (kj (aO.sz x) left)]:=by
 obtain⟨wCells,wUsed⟩:=a;refine fO 18 [] Tryz.func305 rfl ?_
 repeat'(first|refine gE ?_|refine gS (λh=>?_) (λh=>?_)|refine Cb (vU x.U _ ω ω wCells) (λh=>?_) (λh=>?_)|refine Cb (Pc x.y _ ω ω wUsed) (λh=>?_) (λh=>?_))
 all_goals exact eE (by unfold kj aO.sz;split<;>omega)
def Nb(x:List aS)(left:Int)(b:0<=left)(h1:left<=1048576)(a:zc x):zzA 409 false [.val none (fX .O x),.vI left] .one [I (kj (nS x) left)]:=by
 refine fO 12 [] Tryz.func409 rfl ?_;have c:=a.1
 repeat'(first|refine gE ?_|refine gS (λh=>?_) (λh=>?_)|fail)
 all_goals exact eE (by unfold kj nS;split<;>omega)
def PF(x:aL)(left:Int)(b:0<=left)(h1:left<=1048576)(a:aL.wf x):zzA 306 false [.val (some 1) (aL.enc .O x),.vI left] .one [I (kj (aL.sz x) left)]:=by
 refine fO 12 [] Tryz.func306 rfl ?_
 repeat'(first|refine gE ?_|refine gS (λh=>?_) (λh=>?_)|refine Cb (Nb x.M _ ω ω a) (λh=>?_) (λh=>?_))
 all_goals exact eE (by unfold kj aL.sz;split<;>omega)
def Js(x:aH)(left:Int)(b:0<=left)(h1:left<=1048576)(a:aH.wf x):zzA 152 false [.val (some 3) (aH.enc .O x),.vI left] .one [I (kj (aH.sz x) left)]:=by
 obtain⟨wFrames,wTable⟩:=a;refine fO 18 [] Tryz.func152 rfl ?_
 repeat'(first|refine gE ?_|refine gS (λh=>?_) (λh=>?_)|refine Cb (ME x.V _ ω ω wFrames) (λh=>?_) (λh=>?_)|refine Cb (PF x.R _ ω ω wTable) (λh=>?_) (λh=>?_))
 all_goals exact eE (by unfold kj aH.sz;split<;>omega)
def Ni(x:af)(left:Int)(b:0<=left)(h1:left<=1048576)(a:af.wf x):zzA 40 false [.val (some 5) (af.enc .O x),.vI left] .one [I (kj (af.sz x) left)]:=by
 obtain⟨wMachine,wCalls,wRefuse⟩:=a;refine fO 18 [] Tryz.func40 rfl ?_
 repeat'(first|refine gE ?_|refine gS (λh=>?_) (λh=>?_)|refine Cb (Js x.F _ ω ω wMachine) (λh=>?_) (λh=>?_)|refine Cb (vg x.k _ ω ω wRefuse) (λh=>?_) (λh=>?_))
 all_goals exact eE (by unfold kj af.sz;split<;>omega)
def Nl(x:List aD)(left:Int)(b:0<=left)(h1:left<=1048576)(a:yX x):zzA 41 false [.val none (bm .O x),.vI left] .one [I (kj (nK x) left)]:=by
 refine fO 12 [] Tryz.func41 rfl ?_;have c:=a.1
 repeat'(first|refine gE ?_|refine gS (λh=>?_) (λh=>?_)|fail)
 all_goals exact eE (by unfold kj nK;split<;>omega)
def NZ(x:List aC)(left:Int)(b:0<=left)(h1:left<=1048576)(a:D4 x):zzA 42 false [.val none (bH .O x),.vI left] .one [I (kj (qF x) left)]:=by
 refine fO 12 [] Tryz.func42 rfl ?_;have c:=a.1
 repeat'(first|refine gE ?_|refine gS (λh=>?_) (λh=>?_)|fail)
 all_goals exact eE (by unfold kj qF;split<;>omega)
def Lb(x:List aA)(left:Int)(b:0<=left)(h1:left<=1048576)(a:zm x):zzA 43 false [.val none (bG .O x),.vI left] .one [I (kj (nU x) left)]:=by
 refine fO 12 [] Tryz.func43 rfl ?_;have c:=a.1
 repeat'(first|refine gE ?_|refine gS (λh=>?_) (λh=>?_)|fail)
 all_goals exact eE (by unfold kj nU;split<;>omega)
def Uv(x:List aW)(left:Int)(b:0<=left)(h1:left<=1048576)(a:Jo x):zzA 44 false [.val none (gn .O x),.vI left] .one [I (kj (uL x) left)]:=by
 refine fO 12 [] Tryz.func44 rfl ?_;have c:=a.1
 repeat'(first|refine gE ?_|refine gS (λh=>?_) (λh=>?_)|fail)
 all_goals exact eE (by unfold kj uL;split<;>omega)
def PQ(x:aB)(left:Int)(b:0<=left)(h1:left<=1048576)(a:aB.wf x):zzA 154 false [.val (some 1) (aB.enc .O x),.vI left] .one [I (kj (aB.sz x) left)]:=by
 refine fO 12 [] Tryz.func154 rfl ?_
 repeat'(first|refine gE ?_|refine gS (λh=>?_) (λh=>?_)|refine Cb (vU x.X _ ω ω a) (λh=>?_) (λh=>?_))
 all_goals exact eE (by unfold kj aB.sz;split<;>omega)
def Lh(x:List aB)(left:Int)(n:0<=left)(h1:left<=1048576)(e:yY x):zzA 45 false [.val none (er .O x),.vI left] .one [I (kj (iF x) left)]:=by
 refine fO 27 [] Tryz.func45 rfl ?_;have o:=e.1
 repeat'(first|refine gE ?_|refine gS (λh=>?_) (λh=>?_)|fail)
 ·exact eE (by unfold kj iF;split<;>omega)
 (conv=>whnf)
 refine CV (ι:=Nat) (λi=>[(0,b8 (er .O x)),(1,fI (left - x.length - (dH x i:Nat))),(5,fN i)]) (λi=>i<=x.length/\(x.length+dH x i:Int)<=left) (λi=>x.length - i) 0 ?_ ⟨I1 _,by rw[ly];omega⟩ λi g=>?_
 ·rw[ly]
  repeat'(first|exact tV1|rfl|exact CL rfl (CL (O1 I ω) tV1)|refine CL ?_ ?_)
 obtain⟨g,a⟩:=g;have k:=ou x i;by_cases b:i<x.length
 ·obtain⟨y,c⟩ : ∃y,x[i]? = some y:=⟨_,z4 b⟩
  have d:=qE x i y c;have j:=ou x (i+1)
  repeat'(first|refine gE ?_|refine gS (λh=>?_) (λh=>?_)|refine Cb (PQ y _ ω ω (e.2 y (t4 c))) (λh=>?_) (λh=>?_)|refine CQ (i+1) ⟨ω,ω⟩ ω ?_)
  ·exact eE (by unfold kj iF;split<;>omega)
  rw[d]
  repeat'(first|exact tV1|rfl|exact CL rfl (CL (O1 I ω) tV1)|refine CL ?_ ?_)
 repeat'(first|refine gE ?_|refine gS (λh=>?_) (λh=>?_)|fail)
 have l:i=x.length:=ω
 subst l;rw[sO]at a |-;exact eE (by unfold kj iF;split<;>omega)
def Px(x:List aV)(left:Int)(b:0<=left)(h1:left<=1048576)(a:EB x):zzA 307 false [.val none (bf .O x),.vI left] .one [I (kj (jK x) left)]:=by
 refine fO 12 [] Tryz.func307 rfl ?_;have c:=a.1
 repeat'(first|refine gE ?_|refine gS (λh=>?_) (λh=>?_)|fail)
 all_goals exact eE (by unfold kj jK;split<;>omega)
def N2(x:List (List aV))(left:Int)(n:0<=left)(h1:left<=1048576)(e:y9 x):zzA 155 false [.val none (fw .O x),.vI left] .one [I (kj (iA x) left)]:=by
 refine fO 27 [] Tryz.func155 rfl ?_;have o:=e.1
 repeat'(first|refine gE ?_|refine gS (λh=>?_) (λh=>?_)|fail)
 ·exact eE (by unfold kj iA;split<;>omega)
 (conv=>whnf)
 refine CV (ι:=Nat) (λi=>[(0,b8 (fw .O x)),(1,fI (left - x.length - (dC x i:Nat))),(5,fN i)]) (λi=>i<=x.length/\(x.length+dC x i:Int)<=left) (λi=>x.length - i) 0 ?_ ⟨I1 _,by rw[lG];omega⟩ λi g=>?_
 ·rw[lG]
  repeat'(first|exact tV1|rfl|exact CL rfl (CL (O1 I ω) tV1)|refine CL ?_ ?_)
 obtain⟨g,a⟩:=g;have k:=oR x i;by_cases b:i<x.length
 ·obtain⟨y,c⟩ : ∃y,x[i]? = some y:=⟨_,z4 b⟩
  have d:=qR x i y c;have j:=oR x (i+1)
  repeat'(first|refine gE ?_|refine gS (λh=>?_) (λh=>?_)|refine Cb (Px y _ ω ω (e.2 y (t4 c))) (λh=>?_) (λh=>?_)|refine CQ (i+1) ⟨ω,ω⟩ ω ?_)
  ·exact eE (by unfold kj iA;split<;>omega)
  rw[d]
  repeat'(first|exact tV1|rfl|exact CL rfl (CL (O1 I ω) tV1)|refine CL ?_ ?_)
 repeat'(first|refine gE ?_|refine gS (λh=>?_) (λh=>?_)|fail)
 have l:i=x.length:=ω
 subst l;rw[sK]at a |-;exact eE (by unfold kj iA;split<;>omega)
def RP(x:aJ)(left:Int)(b:0<=left)(h1:left<=1048576)(a:aJ.wf x):zzA 46 false [.val (some 2) (aJ.enc .O x),.vI left] .one [I (kj (aJ.sz x) left)]:=by
 obtain⟨wBuffers,wInbox⟩:=a;refine fO 18 [] Tryz.func46 rfl ?_
 repeat'(first|refine gE ?_|refine gS (λh=>?_) (λh=>?_)|refine Cb (N2 x.T _ ω ω wBuffers) (λh=>?_) (λh=>?_)|refine Cb (vU x.e _ ω ω wInbox) (λh=>?_) (λh=>?_))
 all_goals exact eE (by unfold kj aJ.sz;split<;>omega)
def M2(x:List aK)(left:Int)(b:0<=left)(h1:left<=1048576)(a:yp x):zzA 157 false [.val none (bJ .O x),.vI left] .one [I (kj (oc x) left)]:=by
 refine fO 12 [] Tryz.func157 rfl ?_;have c:=a.1
 repeat'(first|refine gE ?_|refine gS (λh=>?_) (λh=>?_)|fail)
 all_goals exact eE (by unfold kj oc;split<;>omega)
def TQ(x:aY)(left:Int)(b:0<=left)(h1:left<=1048576)(a:aY.wf x):zzA 47 false [.val (some 2) (aY.enc .O x),.vI left] .one [I (kj (aY.sz x) left)]:=by
 obtain⟨wRoom,wLst⟩:=a;refine fO 12 [] Tryz.func47 rfl ?_
 repeat'(first|refine gE ?_|refine gS (λh=>?_) (λh=>?_)|refine Cb (M2 x.l _ ω ω wLst) (λh=>?_) (λh=>?_))
 all_goals exact eE (by unfold kj aY.sz;split<;>omega)
def RS(x:bn)(left:Int)(b:0<=left)(h1:left<=1048576)(a:bn.wf x):zzA 158 false [.val (some 3) (bn.enc .O x),.vI left] .one [I (kj (bn.sz x) left)]:=by
 obtain⟨wKeep,wMove,wCells⟩:=a;refine fO 12 [] Tryz.func158 rfl ?_
 repeat'(first|refine gE ?_|refine gS (λh=>?_) (λh=>?_)|refine Cb (vg x.U _ ω ω wCells) (λh=>?_) (λh=>?_))
 all_goals exact eE (by unfold kj bn.sz;split<;>omega)
def Vt(x:bz)(left:Int)(b:0<=left)(h1:left<=1048576)(a:bz.wf x):zzA 48 false [.val (some 5) (bz.enc .O x),.vI left] .one [I (kj (bz.sz x) left)]:=by
 obtain⟨wPlan,wPhase,wNext⟩:=a;refine fO 12 [] Tryz.func48 rfl ?_
 repeat'(first|refine gE ?_|refine gS (λh=>?_) (λh=>?_)|refine Cb (RS x.d _ ω ω wPlan) (λh=>?_) (λh=>?_))
 all_goals exact eE (by unfold kj bz.sz;split<;>omega)
def Tq(x:ac)(left:Int)(b:0<=left)(h1:left<=1048576)(a:ac.wf x):zzA 12 false [.val (some 24) (ac.enc .O x),.vI left] .one [I (kj (ac.sz x) left)]:=by
 obtain⟨wKernel,wFree,wSpans,wLarges,wObjs,wCaches,wMail,wQuar,wSeed,wClock,wLimit,wNext,wMeshing,wJob⟩:=a;refine fO 60 [] Tryz.func12 rfl ?_
 repeat'(first|refine gE ?_|refine gS (λh=>?_) (λh=>?_)|refine Cb (Ni x.G _ ω ω wKernel) (λh=>?_) (λh=>?_)|refine Cb (Nl x.a _ ω ω wFree) (λh=>?_) (λh=>?_)|refine Cb (NZ x.J _ ω ω wSpans) (λh=>?_) (λh=>?_)|refine Cb (Lb x.H _ ω ω wLarges) (λh=>?_) (λh=>?_)|refine Cb (Uv x.K _ ω ω wObjs) (λh=>?_) (λh=>?_)|refine Cb (Lh x.Q _ ω ω wCaches) (λh=>?_) (λh=>?_)|refine Cb (RP x.b _ ω ω wMail) (λh=>?_) (λh=>?_)|refine Cb (TQ x.r _ ω ω wQuar) (λh=>?_) (λh=>?_)|refine Cb (Vt x.a2 _ ω ω wJob) (λh=>?_) (λh=>?_))
 all_goals exact eE (by unfold kj ac.sz;split<;>omega)
set_option maxHeartbeats 2000000
theorem uG(a b:List Int)(p:lN a):zzA 282 false [.val none (aI .O a),.val none (aI .O b)] .one [B (decide (a=b))]:=by
 refine fO 26 [(6,9,[17,18,19,20,21,22,23,24,25])] Tryz.func282 rfl ?_;have r:a.length<=1048576:=p
 repeat'(first|refine gP ?_|refine gS (λh=>?_) (λh=>?_)|fail)
 ·refine bE (C1 λe=>?_).symm
  subst e;omega
 have k:a.length=b.length:=ω
 (conv=>whnf)
 refine g0 a.length (λi=>[(0,b8 (aI .O a)),(1,b8 (aI .O b)),(5,fN i)]) (λi=>∀j,j<i->a[j]? = b[j]?) (λj q=>ω) λi l=>?_
 obtain⟨l,c⟩:=l;by_cases g:i<a.length
 ·obtain⟨x,n⟩ : ∃x,a[i]? = some x:=⟨_,z4 g⟩
  obtain⟨y,o⟩ : ∃y,b[i]? = some y:=⟨_,z4 ω⟩
  repeat'(first|refine gE ?_|refine gS (λh=>?_) (λh=>?_)|fail)
  all_goals first
   |(show [B false]=[B (decide (a=b))]
     refine bE (C1 λe=>?_).symm;subst e
     simp_all)
   | ((conv=>whnf)
      refine CQ (i+1) ⟨ω,λj q=>?_⟩ ω ?_
      · rcases Nat.lt_or_ge j i with d|d
        · exact c j d
        obtain rfl:j=i:=ω
        rw[n,o]
        simp_all
      exact wA)
 refine σE ?_
 refine bE (O0 ?_).symm;refine List.ext_getElem? λj=>?_
 rcases Nat.lt_or_ge j i with d|d
 ·exact c j d
 rw[I4 ω,I4 ω]
theorem wI(a b:List (List Int))(l:mc a):zzA 289 false [.val none (fk .O a),.val none (fk .O b)] .one [B (decide (a=b))]:=by
 refine fO 27 [(6,10,[17,18,19,20,21,22,23,24,25,26])] Tryz.func289 rfl ?_;have r:a.length<=1048576:=l.1
 repeat'(first|refine gP ?_|refine gS (λh=>?_) (λh=>?_)|fail)
 ·refine bE (C1 λe=>?_).symm
  subst e;omega
 have n:a.length=b.length:=ω
 (conv=>whnf)
 refine g0 a.length (λi=>[(0,b8 (fk .O a)),(1,b8 (fk .O b)),(5,fN i)]) (λi=>∀j,j<i->a[j]? = b[j]?) (λj q=>ω) λi o=>?_
 obtain⟨o,c⟩:=o;by_cases g:i<a.length
 ·obtain⟨x,k⟩ : ∃x,a[i]? = some x:=⟨_,z4 g⟩
  obtain⟨y,p⟩ : ∃y,b[i]? = some y:=⟨_,z4 ω⟩
  repeat'(first|refine gE ?_|refine gS (λh=>?_) (λh=>?_)|refine CG (uG x y (l.2 x (t4 k))) ?_)
  all_goals first
   |(show [B false]=[B (decide (a=b))]
     refine bE (C1 λe=>?_).symm;subst e
     simp_all)
   | ((conv=>whnf)
      refine CQ (i+1) ⟨ω,λj q=>?_⟩ ω ?_
      · rcases Nat.lt_or_ge j i with d|d
        · exact c j d
        obtain rfl:j=i:=ω
        rw[k,p]
        simp_all
      exact wA)
 refine σE ?_
 refine bE (O0 ?_).symm;refine List.ext_getElem? λj=>?_
 rcases Nat.lt_or_ge j i with d|d
 ·exact c j d
 rw[I4 ω,I4 ω]
theorem PP(a b:List Bool)(p:qA a):zzA 454 false [.val none (iq .O a),.val none (iq .O b)] .one [B (decide (a=b))]:=by
 refine fO 26 [(6,9,[17,18,19,20,21,22,23,24,25])] Tryz.func454 rfl ?_;have r:a.length<=1048576:=p
 repeat'(first|refine gP ?_|refine gS (λh=>?_) (λh=>?_)|fail)
 ·refine bE (C1 λe=>?_).symm
  subst e;omega
 have k:a.length=b.length:=ω
 (conv=>whnf)
 refine g0 a.length (λi=>[(0,b8 (iq .O a)),(1,b8 (iq .O b)),(5,fN i)]) (λi=>∀j,j<i->a[j]? = b[j]?) (λj q=>ω) λi l=>?_
 obtain⟨l,c⟩:=l;by_cases g:i<a.length
 ·obtain⟨x,n⟩ : ∃x,a[i]? = some x:=⟨_,z4 g⟩
  obtain⟨y,o⟩ : ∃y,b[i]? = some y:=⟨_,z4 ω⟩
  repeat'(first|refine gE ?_|refine gS (λh=>?_) (λh=>?_)|fail)
  all_goals first
   |(show [B false]=[B (decide (a=b))]
     refine bE (C1 λe=>?_).symm;subst e
     simp_all)
   | ((conv=>whnf)
      refine CQ (i+1) ⟨ω,λj q=>?_⟩ ω ?_
      · rcases Nat.lt_or_ge j i with d|d
        · exact c j d
        obtain rfl:j=i:=ω
        rw[n,o]
        simp_all
      exact wA)
 refine σE ?_
 refine bE (O0 ?_).symm;refine List.ext_getElem? λj=>?_
 rcases Nat.lt_or_ge j i with d|d
 ·exact c j d
 rw[I4 ω,I4 ω]
theorem L8(a b:aO)(c:aO.sml a):zzA 398 false [.val (some 2) (aO.enc .O a),.val (some 2) (aO.enc .O b)] .one [B (decide (a=b))]:=by
 obtain⟨d,g⟩:=c;refine fO 17 [] Tryz.func398 rfl ?_
 repeat'(first|refine gP ?_|refine gS (λh=>?_) (λh=>?_)|refine CG (wI a.U b.U d) ?_|refine CG (PP a.y b.y g) ?_)
 all_goals first|(show [B false]=[B (decide (a=b))];refine bE (C1 λe=>?_).symm;subst e;contradiction)|(show [B true]=[B (decide (a=b))];refine bE (O0 ?_).symm;cases a;cases b;simp_all)
theorem NP(a b:aS)(c:aS.sml a):zzA 479 false [.val (some 2) (aS.enc .O a),.val (some 2) (aS.enc .O b)] .one [B (decide (a=b))]:=by
 refine fO 15 [] Tryz.func479 rfl ?_
 repeat'(first|refine gP ?_|refine gS (λh=>?_) (λh=>?_)|fail)
 all_goals first|(show [B false]=[B (decide (a=b))];refine bE (C1 λe=>?_).symm;subst e;contradiction)|(show [B true]=[B (decide (a=b))];refine bE (O0 ?_).symm;cases a;cases b;simp_all)
theorem LA(a b:List aS)(p:lE a):zzA 455 false [.val none (fX .O a),.val none (fX .O b)] .one [B (decide (a=b))]:=by
 refine fO 27 [(6,10,[17,18,19,20,21,22,23,24,25,26])] Tryz.func455 rfl ?_;have r:a.length<=1048576:=p.1
 repeat'(first|refine gP ?_|refine gS (λh=>?_) (λh=>?_)|fail)
 ·refine bE (C1 λe=>?_).symm
  subst e;omega
 have k:a.length=b.length:=ω
 (conv=>whnf)
 refine g0 a.length (λi=>[(0,b8 (fX .O a)),(1,b8 (fX .O b)),(5,fN i)]) (λi=>∀j,j<i->a[j]? = b[j]?) (λj q=>ω) λi l=>?_
 obtain⟨l,c⟩:=l;by_cases g:i<a.length
 ·obtain⟨x,n⟩ : ∃x,a[i]? = some x:=⟨_,z4 g⟩
  obtain⟨y,o⟩ : ∃y,b[i]? = some y:=⟨_,z4 ω⟩
  repeat'(first|refine gE ?_|refine gS (λh=>?_) (λh=>?_)|refine CG (NP x y tV1) ?_)
  all_goals first
   |(show [B false]=[B (decide (a=b))]
     refine bE (C1 λe=>?_).symm;subst e
     simp_all)
   | ((conv=>whnf)
      refine CQ (i+1) ⟨ω,λj q=>?_⟩ ω ?_
      · rcases Nat.lt_or_ge j i with d|d
        · exact c j d
        obtain rfl:j=i:=ω
        rw[n,o]
        simp_all
      exact wA)
 refine σE ?_
 refine bE (O0 ?_).symm;refine List.ext_getElem? λj=>?_
 rcases Nat.lt_or_ge j i with d|d
 ·exact c j d
 rw[I4 ω,I4 ω]
theorem Qg(a b:aL)(c:aL.sml a):zzA 399 false [.val (some 1) (aL.enc .O a),.val (some 1) (aL.enc .O b)] .one [B (decide (a=b))]:=by
 have d:=c;refine fO 11 [] Tryz.func399 rfl ?_
 repeat'(first|refine gP ?_|refine gS (λh=>?_) (λh=>?_)|refine CG (LA a.M b.M d) ?_)
 all_goals first|(show [B false]=[B (decide (a=b))];refine bE (C1 λe=>?_).symm;subst e;contradiction)|(show [B true]=[B (decide (a=b))];refine bE (O0 ?_).symm;cases a;cases b;simp_all)
theorem J1(a b:aH)(c:aH.sml a):zzA 281 false [.val (some 3) (aH.enc .O a),.val (some 3) (aH.enc .O b)] .one [B (decide (a=b))]:=by
 obtain⟨d,g⟩:=c;refine fO 17 [] Tryz.func281 rfl ?_
 repeat'(first|refine gP ?_|refine gS (λh=>?_) (λh=>?_)|refine CG (L8 a.V b.V d) ?_|refine CG (Qg a.R b.R g) ?_)
 all_goals first|(show [B false]=[B (decide (a=b))];refine bE (C1 λe=>?_).symm;subst e;contradiction)|(show [B true]=[B (decide (a=b))];refine bE (O0 ?_).symm;cases a;cases b;simp_all)
theorem Mr(a b:af)(c:af.sml a):zzA 122 false [.val (some 5) (af.enc .O a),.val (some 5) (af.enc .O b)] .one [B (decide (a=b))]:=by
 obtain⟨d,g⟩:=c;refine fO 22 [] Tryz.func122 rfl ?_
 repeat'(first|refine gP ?_|refine gS (λh=>?_) (λh=>?_)|refine CG (J1 a.F b.F d) ?_|refine CG (uG a.k b.k g) ?_)
 all_goals first|(show [B false]=[B (decide (a=b))];refine bE (C1 λe=>?_).symm;subst e;contradiction)|(show [B true]=[B (decide (a=b))];refine bE (O0 ?_).symm;cases a;cases b;simp_all)
theorem Qp(a b:aD)(c:aD.sml a):zzA 283 false [.val (some 2) (aD.enc .O a),.val (some 2) (aD.enc .O b)] .one [B (decide (a=b))]:=by
 refine fO 15 [] Tryz.func283 rfl ?_
 repeat'(first|refine gP ?_|refine gS (λh=>?_) (λh=>?_)|fail)
 all_goals first|(show [B false]=[B (decide (a=b))];refine bE (C1 λe=>?_).symm;subst e;contradiction)|(show [B true]=[B (decide (a=b))];refine bE (O0 ?_).symm;cases a;cases b;simp_all)
theorem KD(a b:List aD)(p:eJ a):zzA 123 false [.val none (bm .O a),.val none (bm .O b)] .one [B (decide (a=b))]:=by
 refine fO 27 [(6,10,[17,18,19,20,21,22,23,24,25,26])] Tryz.func123 rfl ?_;have r:a.length<=1048576:=p.1
 repeat'(first|refine gP ?_|refine gS (λh=>?_) (λh=>?_)|fail)
 ·refine bE (C1 λe=>?_).symm
  subst e;omega
 have k:a.length=b.length:=ω
 (conv=>whnf)
 refine g0 a.length (λi=>[(0,b8 (bm .O a)),(1,b8 (bm .O b)),(5,fN i)]) (λi=>∀j,j<i->a[j]? = b[j]?) (λj q=>ω) λi l=>?_
 obtain⟨l,c⟩:=l;by_cases g:i<a.length
 ·obtain⟨x,n⟩ : ∃x,a[i]? = some x:=⟨_,z4 g⟩
  obtain⟨y,o⟩ : ∃y,b[i]? = some y:=⟨_,z4 ω⟩
  repeat'(first|refine gE ?_|refine gS (λh=>?_) (λh=>?_)|refine CG (Qp x y tV1) ?_)
  all_goals first
   |(show [B false]=[B (decide (a=b))]
     refine bE (C1 λe=>?_).symm;subst e
     simp_all)
   | ((conv=>whnf)
      refine CQ (i+1) ⟨ω,λj q=>?_⟩ ω ?_
      · rcases Nat.lt_or_ge j i with d|d
        · exact c j d
        obtain rfl:j=i:=ω
        rw[n,o]
        simp_all
      exact wA)
 refine σE ?_
 refine bE (O0 ?_).symm;refine List.ext_getElem? λj=>?_
 rcases Nat.lt_or_ge j i with d|d
 ·exact c j d
 rw[I4 ω,I4 ω]
theorem RW(a b:aC)(c:aC.sml a):zzA 284 false [.val (some 3) (aC.enc .O a),.val (some 3) (aC.enc .O b)] .one [B (decide (a=b))]:=by
 refine fO 20 [] Tryz.func284 rfl ?_
 repeat'(first|refine gP ?_|refine gS (λh=>?_) (λh=>?_)|fail)
 all_goals first|(show [B false]=[B (decide (a=b))];refine bE (C1 λe=>?_).symm;subst e;contradiction)|(show [B true]=[B (decide (a=b))];refine bE (O0 ?_).symm;cases a;cases b;simp_all)
theorem Pj(a b:List aC)(p:cP a):zzA 124 false [.val none (bH .O a),.val none (bH .O b)] .one [B (decide (a=b))]:=by
 refine fO 27 [(6,10,[17,18,19,20,21,22,23,24,25,26])] Tryz.func124 rfl ?_;have r:a.length<=1048576:=p.1
 repeat'(first|refine gP ?_|refine gS (λh=>?_) (λh=>?_)|fail)
 ·refine bE (C1 λe=>?_).symm
  subst e;omega
 have k:a.length=b.length:=ω
 (conv=>whnf)
 refine g0 a.length (λi=>[(0,b8 (bH .O a)),(1,b8 (bH .O b)),(5,fN i)]) (λi=>∀j,j<i->a[j]? = b[j]?) (λj q=>ω) λi l=>?_
 obtain⟨l,c⟩:=l;by_cases g:i<a.length
 ·obtain⟨x,n⟩ : ∃x,a[i]? = some x:=⟨_,z4 g⟩
  obtain⟨y,o⟩ : ∃y,b[i]? = some y:=⟨_,z4 ω⟩
  repeat'(first|refine gE ?_|refine gS (λh=>?_) (λh=>?_)|refine CG (RW x y tV1) ?_)
  all_goals first
   |(show [B false]=[B (decide (a=b))]
     refine bE (C1 λe=>?_).symm;subst e
     simp_all)
   | ((conv=>whnf)
      refine CQ (i+1) ⟨ω,λj q=>?_⟩ ω ?_
      · rcases Nat.lt_or_ge j i with d|d
        · exact c j d
        obtain rfl:j=i:=ω
        rw[n,o]
        simp_all
      exact wA)
 refine σE ?_
 refine bE (O0 ?_).symm;refine List.ext_getElem? λj=>?_
 rcases Nat.lt_or_ge j i with d|d
 ·exact c j d
 rw[I4 ω,I4 ω]
theorem Pv(a b:aA)(c:aA.sml a):zzA 285 false [.val (some 3) (aA.enc .O a),.val (some 3) (aA.enc .O b)] .one [B (decide (a=b))]:=by
 refine fO 20 [] Tryz.func285 rfl ?_
 repeat'(first|refine gP ?_|refine gS (λh=>?_) (λh=>?_)|fail)
 all_goals first|(show [B false]=[B (decide (a=b))];refine bE (C1 λe=>?_).symm;subst e;contradiction)|(show [B true]=[B (decide (a=b))];refine bE (O0 ?_).symm;cases a;cases b;simp_all)
theorem K7(a b:List aA)(p:cV a):zzA 125 false [.val none (bG .O a),.val none (bG .O b)] .one [B (decide (a=b))]:=by
 refine fO 27 [(6,10,[17,18,19,20,21,22,23,24,25,26])] Tryz.func125 rfl ?_;have r:a.length<=1048576:=p.1
 repeat'(first|refine gP ?_|refine gS (λh=>?_) (λh=>?_)|fail)
 ·refine bE (C1 λe=>?_).symm
  subst e;omega
 have k:a.length=b.length:=ω
 (conv=>whnf)
 refine g0 a.length (λi=>[(0,b8 (bG .O a)),(1,b8 (bG .O b)),(5,fN i)]) (λi=>∀j,j<i->a[j]? = b[j]?) (λj q=>ω) λi l=>?_
 obtain⟨l,c⟩:=l;by_cases g:i<a.length
 ·obtain⟨x,n⟩ : ∃x,a[i]? = some x:=⟨_,z4 g⟩
  obtain⟨y,o⟩ : ∃y,b[i]? = some y:=⟨_,z4 ω⟩
  repeat'(first|refine gE ?_|refine gS (λh=>?_) (λh=>?_)|refine CG (Pv x y tV1) ?_)
  all_goals first
   |(show [B false]=[B (decide (a=b))]
     refine bE (C1 λe=>?_).symm;subst e
     simp_all)
   | ((conv=>whnf)
      refine CQ (i+1) ⟨ω,λj q=>?_⟩ ω ?_
      · rcases Nat.lt_or_ge j i with d|d
        · exact c j d
        obtain rfl:j=i:=ω
        rw[n,o]
        simp_all
      exact wA)
 refine σE ?_
 refine bE (O0 ?_).symm;refine List.ext_getElem? λj=>?_
 rcases Nat.lt_or_ge j i with d|d
 ·exact c j d
 rw[I4 ω,I4 ω]
theorem Vd(a b:aW)(c:aW.sml a):zzA 286 false [.val (some 4) (aW.enc .O a),.val (some 4) (aW.enc .O b)] .one [B (decide (a=b))]:=by
 refine fO 25 [] Tryz.func286 rfl ?_
 repeat'(first|refine gP ?_|refine gS (λh=>?_) (λh=>?_)|fail)
 all_goals first|(show [B false]=[B (decide (a=b))];refine bE (C1 λe=>?_).symm;subst e;contradiction)|(show [B true]=[B (decide (a=b))];refine bE (O0 ?_).symm;cases a;cases b;simp_all)
theorem RN(a b:List aW)(p:qT a):zzA 126 false [.val none (gn .O a),.val none (gn .O b)] .one [B (decide (a=b))]:=by
 refine fO 27 [(6,10,[17,18,19,20,21,22,23,24,25,26])] Tryz.func126 rfl ?_;have r:a.length<=1048576:=p.1
 repeat'(first|refine gP ?_|refine gS (λh=>?_) (λh=>?_)|fail)
 ·refine bE (C1 λe=>?_).symm
  subst e;omega
 have k:a.length=b.length:=ω
 (conv=>whnf)
 refine g0 a.length (λi=>[(0,b8 (gn .O a)),(1,b8 (gn .O b)),(5,fN i)]) (λi=>∀j,j<i->a[j]? = b[j]?) (λj q=>ω) λi l=>?_
 obtain⟨l,c⟩:=l;by_cases g:i<a.length
 ·obtain⟨x,n⟩ : ∃x,a[i]? = some x:=⟨_,z4 g⟩
  obtain⟨y,o⟩ : ∃y,b[i]? = some y:=⟨_,z4 ω⟩
  repeat'(first|refine gE ?_|refine gS (λh=>?_) (λh=>?_)|refine CG (Vd x y tV1) ?_)
  all_goals first
   |(show [B false]=[B (decide (a=b))]
     refine bE (C1 λe=>?_).symm;subst e
     simp_all)
   | ((conv=>whnf)
      refine CQ (i+1) ⟨ω,λj q=>?_⟩ ω ?_
      · rcases Nat.lt_or_ge j i with d|d
        · exact c j d
        obtain rfl:j=i:=ω
        rw[n,o]
        simp_all
      exact wA)
 refine σE ?_
 refine bE (O0 ?_).symm;refine List.ext_getElem? λj=>?_
 rcases Nat.lt_or_ge j i with d|d
 ·exact c j d
 rw[I4 ω,I4 ω]
theorem PJ(a b:aB)(c:aB.sml a):zzA 287 false [.val (some 1) (aB.enc .O a),.val (some 1) (aB.enc .O b)] .one [B (decide (a=b))]:=by
 have d:=c;refine fO 11 [] Tryz.func287 rfl ?_
 repeat'(first|refine gP ?_|refine gS (λh=>?_) (λh=>?_)|refine CG (wI a.X b.X d) ?_)
 all_goals first|(show [B false]=[B (decide (a=b))];refine bE (C1 λe=>?_).symm;subst e;contradiction)|(show [B true]=[B (decide (a=b))];refine bE (O0 ?_).symm;cases a;cases b;simp_all)
theorem MV(a b:List aB)(l:lK a):zzA 127 false [.val none (er .O a),.val none (er .O b)] .one [B (decide (a=b))]:=by
 refine fO 27 [(6,10,[17,18,19,20,21,22,23,24,25,26])] Tryz.func127 rfl ?_;have r:a.length<=1048576:=l.1
 repeat'(first|refine gP ?_|refine gS (λh=>?_) (λh=>?_)|fail)
 ·refine bE (C1 λe=>?_).symm
  subst e;omega
 have n:a.length=b.length:=ω
 (conv=>whnf)
 refine g0 a.length (λi=>[(0,b8 (er .O a)),(1,b8 (er .O b)),(5,fN i)]) (λi=>∀j,j<i->a[j]? = b[j]?) (λj q=>ω) λi o=>?_
 obtain⟨o,c⟩:=o;by_cases g:i<a.length
 ·obtain⟨x,k⟩ : ∃x,a[i]? = some x:=⟨_,z4 g⟩
  obtain⟨y,p⟩ : ∃y,b[i]? = some y:=⟨_,z4 ω⟩
  repeat'(first|refine gE ?_|refine gS (λh=>?_) (λh=>?_)|refine CG (PJ x y (l.2 x (t4 k))) ?_)
  all_goals first
   |(show [B false]=[B (decide (a=b))]
     refine bE (C1 λe=>?_).symm;subst e
     simp_all)
   | ((conv=>whnf)
      refine CQ (i+1) ⟨ω,λj q=>?_⟩ ω ?_
      · rcases Nat.lt_or_ge j i with d|d
        · exact c j d
        obtain rfl:j=i:=ω
        rw[k,p]
        simp_all
      exact wA)
 refine σE ?_
 refine bE (O0 ?_).symm;refine List.ext_getElem? λj=>?_
 rcases Nat.lt_or_ge j i with d|d
 ·exact c j d
 rw[I4 ω,I4 ω]
theorem Te(a b:aV)(c:aV.sml a):zzA 456 false [.val (some 2) (aV.enc .O a),.val (some 2) (aV.enc .O b)] .one [B (decide (a=b))]:=by
 refine fO 15 [] Tryz.func456 rfl ?_
 repeat'(first|refine gP ?_|refine gS (λh=>?_) (λh=>?_)|fail)
 all_goals first|(show [B false]=[B (decide (a=b))];refine bE (C1 λe=>?_).symm;subst e;contradiction)|(show [B true]=[B (decide (a=b))];refine bE (O0 ?_).symm;cases a;cases b;simp_all)
theorem Qo(a b:List aV)(p:od a):zzA 400 false [.val none (bf .O a),.val none (bf .O b)] .one [B (decide (a=b))]:=by
 refine fO 27 [(6,10,[17,18,19,20,21,22,23,24,25,26])] Tryz.func400 rfl ?_;have r:a.length<=1048576:=p.1
 repeat'(first|refine gP ?_|refine gS (λh=>?_) (λh=>?_)|fail)
 ·refine bE (C1 λe=>?_).symm
  subst e;omega
 have k:a.length=b.length:=ω
 (conv=>whnf)
 refine g0 a.length (λi=>[(0,b8 (bf .O a)),(1,b8 (bf .O b)),(5,fN i)]) (λi=>∀j,j<i->a[j]? = b[j]?) (λj q=>ω) λi l=>?_
 obtain⟨l,c⟩:=l;by_cases g:i<a.length
 ·obtain⟨x,n⟩ : ∃x,a[i]? = some x:=⟨_,z4 g⟩
  obtain⟨y,o⟩ : ∃y,b[i]? = some y:=⟨_,z4 ω⟩
  repeat'(first|refine gE ?_|refine gS (λh=>?_) (λh=>?_)|refine CG (Te x y tV1) ?_)
  all_goals first
   |(show [B false]=[B (decide (a=b))]
     refine bE (C1 λe=>?_).symm;subst e
     simp_all)
   | ((conv=>whnf)
      refine CQ (i+1) ⟨ω,λj q=>?_⟩ ω ?_
      · rcases Nat.lt_or_ge j i with d|d
        · exact c j d
        obtain rfl:j=i:=ω
        rw[n,o]
        simp_all
      exact wA)
 refine σE ?_
 refine bE (O0 ?_).symm;refine List.ext_getElem? λj=>?_
 rcases Nat.lt_or_ge j i with d|d
 ·exact c j d
 rw[I4 ω,I4 ω]
theorem KJ(a b:List (List aV))(l:lr a):zzA 288 false [.val none (fw .O a),.val none (fw .O b)] .one [B (decide (a=b))]:=by
 refine fO 27 [(6,10,[17,18,19,20,21,22,23,24,25,26])] Tryz.func288 rfl ?_;have r:a.length<=1048576:=l.1
 repeat'(first|refine gP ?_|refine gS (λh=>?_) (λh=>?_)|fail)
 ·refine bE (C1 λe=>?_).symm
  subst e;omega
 have n:a.length=b.length:=ω
 (conv=>whnf)
 refine g0 a.length (λi=>[(0,b8 (fw .O a)),(1,b8 (fw .O b)),(5,fN i)]) (λi=>∀j,j<i->a[j]? = b[j]?) (λj q=>ω) λi o=>?_
 obtain⟨o,c⟩:=o;by_cases g:i<a.length
 ·obtain⟨x,k⟩ : ∃x,a[i]? = some x:=⟨_,z4 g⟩
  obtain⟨y,p⟩ : ∃y,b[i]? = some y:=⟨_,z4 ω⟩
  repeat'(first|refine gE ?_|refine gS (λh=>?_) (λh=>?_)|refine CG (Qo x y (l.2 x (t4 k))) ?_)
  all_goals first
   |(show [B false]=[B (decide (a=b))]
     refine bE (C1 λe=>?_).symm;subst e
     simp_all)
   | ((conv=>whnf)
      refine CQ (i+1) ⟨ω,λj q=>?_⟩ ω ?_
      · rcases Nat.lt_or_ge j i with d|d
        · exact c j d
        obtain rfl:j=i:=ω
        rw[k,p]
        simp_all
      exact wA)
 refine σE ?_
 refine bE (O0 ?_).symm;refine List.ext_getElem? λj=>?_
 rcases Nat.lt_or_ge j i with d|d
 ·exact c j d
 rw[I4 ω,I4 ω]
theorem Tc(a b:aJ)(c:aJ.sml a):zzA 128 false [.val (some 2) (aJ.enc .O a),.val (some 2) (aJ.enc .O b)] .one [B (decide (a=b))]:=by
 obtain⟨d,g⟩:=c;refine fO 17 [] Tryz.func128 rfl ?_
 repeat'(first|refine gP ?_|refine gS (λh=>?_) (λh=>?_)|refine CG (KJ a.T b.T d) ?_|refine CG (wI a.e b.e g) ?_)
 all_goals first|(show [B false]=[B (decide (a=b))];refine bE (C1 λe=>?_).symm;subst e;contradiction)|(show [B true]=[B (decide (a=b))];refine bE (O0 ?_).symm;cases a;cases b;simp_all)
theorem N9(a b:aK)(c:aK.sml a):zzA 401 false [.val (some 3) (aK.enc .O a),.val (some 3) (aK.enc .O b)] .one [B (decide (a=b))]:=by
 refine fO 20 [] Tryz.func401 rfl ?_
 repeat'(first|refine gP ?_|refine gS (λh=>?_) (λh=>?_)|fail)
 all_goals first|(show [B false]=[B (decide (a=b))];refine bE (C1 λe=>?_).symm;subst e;contradiction)|(show [B true]=[B (decide (a=b))];refine bE (O0 ?_).symm;cases a;cases b;simp_all)
theorem K6(a b:List aK)(p:gT a):zzA 290 false [.val none (bJ .O a),.val none (bJ .O b)] .one [B (decide (a=b))]:=by
 refine fO 27 [(6,10,[17,18,19,20,21,22,23,24,25,26])] Tryz.func290 rfl ?_;have r:a.length<=1048576:=p.1
 repeat'(first|refine gP ?_|refine gS (λh=>?_) (λh=>?_)|fail)
 ·refine bE (C1 λe=>?_).symm
  subst e;omega
 have k:a.length=b.length:=ω
 (conv=>whnf)
 refine g0 a.length (λi=>[(0,b8 (bJ .O a)),(1,b8 (bJ .O b)),(5,fN i)]) (λi=>∀j,j<i->a[j]? = b[j]?) (λj q=>ω) λi l=>?_
 obtain⟨l,c⟩:=l;by_cases g:i<a.length
 ·obtain⟨x,n⟩ : ∃x,a[i]? = some x:=⟨_,z4 g⟩
  obtain⟨y,o⟩ : ∃y,b[i]? = some y:=⟨_,z4 ω⟩
  repeat'(first|refine gE ?_|refine gS (λh=>?_) (λh=>?_)|refine CG (N9 x y tV1) ?_)
  all_goals first
   |(show [B false]=[B (decide (a=b))]
     refine bE (C1 λe=>?_).symm;subst e
     simp_all)
   | ((conv=>whnf)
      refine CQ (i+1) ⟨ω,λj q=>?_⟩ ω ?_
      · rcases Nat.lt_or_ge j i with d|d
        · exact c j d
        obtain rfl:j=i:=ω
        rw[n,o]
        simp_all
      exact wA)
 refine σE ?_
 refine bE (O0 ?_).symm;refine List.ext_getElem? λj=>?_
 rcases Nat.lt_or_ge j i with d|d
 ·exact c j d
 rw[I4 ω,I4 ω]
theorem Uc(a b:aY)(c:aY.sml a):zzA 129 false [.val (some 2) (aY.enc .O a),.val (some 2) (aY.enc .O b)] .one [B (decide (a=b))]:=by
 have d:=c;refine fO 16 [] Tryz.func129 rfl ?_
 repeat'(first|refine gP ?_|refine gS (λh=>?_) (λh=>?_)|refine CG (K6 a.l b.l d) ?_)
 all_goals first|(show [B false]=[B (decide (a=b))];refine bE (C1 λe=>?_).symm;subst e;contradiction)|(show [B true]=[B (decide (a=b))];refine bE (O0 ?_).symm;cases a;cases b;simp_all)
theorem U2(a b:bn)(c:bn.sml a):zzA 291 false [.val (some 3) (bn.enc .O a),.val (some 3) (bn.enc .O b)] .one [B (decide (a=b))]:=by
 have d:=c;refine fO 21 [] Tryz.func291 rfl ?_
 repeat'(first|refine gP ?_|refine gS (λh=>?_) (λh=>?_)|refine CG (uG a.U b.U d) ?_)
 all_goals first|(show [B false]=[B (decide (a=b))];refine bE (C1 λe=>?_).symm;subst e;contradiction)|(show [B true]=[B (decide (a=b))];refine bE (O0 ?_).symm;cases a;cases b;simp_all)
theorem VO(a b:bz)(c:bz.sml a):zzA 130 false [.val (some 5) (bz.enc .O a),.val (some 5) (bz.enc .O b)] .one [B (decide (a=b))]:=by
 have d:=c;refine fO 21 [] Tryz.func130 rfl ?_
 repeat'(first|refine gP ?_|refine gS (λh=>?_) (λh=>?_)|refine CG (U2 a.d b.d d) ?_)
 all_goals first|(show [B false]=[B (decide (a=b))];refine bE (C1 λe=>?_).symm;subst e;contradiction)|(show [B true]=[B (decide (a=b))];refine bE (O0 ?_).symm;cases a;cases b;simp_all)
theorem Tw(a b:ac)(c:ac.sml a):zzA 34 false [.val (some 24) (ac.enc .O a),.val (some 24) (ac.enc .O b)] .one [B (decide (a=b))]:=by
 obtain⟨d,g,i,j,k,l,n,o,p⟩:=c;refine fO 84 [] Tryz.func34 rfl ?_
 repeat'(first|refine gP ?_|refine gS (λh=>?_) (λh=>?_)|refine CG (Mr a.G b.G d) ?_|refine CG (KD a.a b.a g) ?_|refine CG (Pj a.J b.J i) ?_|refine CG (K7 a.H b.H j) ?_|refine CG (RN a.K b.K k) ?_|refine CG (MV a.Q b.Q l) ?_|refine CG (Tc a.b b.b n) ?_|refine CG (Uc a.r b.r o) ?_|refine CG (VO a.a2 b.a2 p) ?_)
 all_goals first|(show [B false]=[B (decide (a=b))];refine bE (C1 λe=>?_).symm;subst e;contradiction)|(show [B true]=[B (decide (a=b))];refine bE (O0 ?_).symm;cases a;cases b;simp_all)
def JR(a:dQ h=true):dM h.G.F.V=true:=by
 unfold dQ pc aN db at a;simp only[I0]at a;exact a.1.1.1.1.1.1.1.1.1.1.1.2.1.1
set_option maxHeartbeats 2000000
def Me(x:aF)(a:aF.sml x):zzA 213 false [.val (some 2) (aF.enc .O x)] .agg (aF.enc .own x):=by
 have b:=a;refine fO 12 [] Tryz.func213 rfl ?_ (.inr (aF.enc_fr x))
 repeat'(first|refine gP ?_|refine CG (uW x.U b) ?_)
 rfl
def J2(x:List aF)(e:ko x):zzA 84 false [.val none (f6 .O x)] .one (f6 .own x):=by
 refine fO 23 [] Tryz.func84 rfl ?_ (.inr (Kb x));have g:x.length<=1048576:=e.1;have a:(x.map (aF.enc .own)).length=(List.replicate x.length ([I 0,.z]:List C)).length:=by simp
 repeat'(first|refine gP ?_|refine Mk.mk _ rfl rfl ω (wT g qs) rfl ?_)
 refine CV (ι:=Nat) (λi=>[(0,b8 (f6 .O x)),(3,b8 [.s .own (iH (x.map (aF.enc .own)) (List.replicate x.length [I 0,.z]) i)]),(4,fN i)]) (λi=>i<=x.length) (λi=>x.length - i) 0 ?_ (I1 _) λi h=>?_
 ·rw[cF]
  exact wA
 by_cases b:i<x.length
 ·obtain⟨y,c⟩ : ∃y,x[i]? = some y:=⟨_,z4 b⟩
  have d:=dD a i kd;rw[jw b]at d
  repeat'(first|refine gE ?_|with_reducible refine CI d ?_|refine CG (Me y (e.2 y (t4 c))) ?_|refine CR rfl rfl d rfl (z5 _) rfl ?_|refine CQ (i+1) ω ω ?_)
  repeat'(first|exact tV1|rfl|exact CL rfl (CL (O1 (C.s eS.own) (ce a (aa c))) tV1)|refine CL ?_ ?_)
 refine σE ?_
 rw[dG _ a kd]
 rfl
def Jb(x:ar)(a:ar.sml x):zzA 18 false [.val (some 2) (ar.enc .O x)] .agg (ar.enc .own x):=by
 have b:=a;refine fO 12 [] Tryz.func18 rfl ?_ (.inr (Ct x))
 repeat'(first|refine gP ?_|refine CG (J2 x.K b) ?_)
 rfl
def N8(x:aP)(a:aP.sml x):zzA 6 false [.val (some 26) (aP.enc .O x)] .agg (aP.enc .own x):=by
 obtain⟨b,c⟩:=a;refine fO 13 [] Tryz.func6 rfl ?_ (.inr (aP.enc_fr x))
 repeat'(first|refine gP ?_|refine CG (Tu x.W b) ?_|refine CG (Jb x.b0 c) ?_)
 rfl
def KA(x:aF)(left:Int)(b:0<=left)(h1:left<=1048576)(a:aF.wf x):zzA 159 false [.val (some 2) (aF.enc .O x),.vI left] .one [I (kj (aF.sz x) left)]:=by
 obtain⟨wId,wCells⟩:=a;refine fO 12 [] Tryz.func159 rfl ?_
 repeat'(first|refine gE ?_|refine gS (λh=>?_) (λh=>?_)|refine Cb (vg x.U _ ω ω wCells) (λh=>?_) (λh=>?_))
 all_goals exact eE (by unfold kj aF.sz;split<;>omega)
def Jz(x:List aF)(left:Int)(n:0<=left)(h1:left<=1048576)(e:vW x):zzA 49 false [.val none (f6 .O x),.vI left] .one [I (kj (iW x) left)]:=by
 refine fO 27 [] Tryz.func49 rfl ?_;have o:=e.1
 repeat'(first|refine gE ?_|refine gS (λh=>?_) (λh=>?_)|fail)
 ·exact eE (by unfold kj iW;split<;>omega)
 (conv=>whnf)
 refine CV (ι:=Nat) (λi=>[(0,b8 (f6 .O x)),(1,fI (left - x.length - (cX x i:Nat))),(5,fN i)]) (λi=>i<=x.length/\(x.length+cX x i:Int)<=left) (λi=>x.length - i) 0 ?_ ⟨I1 _,by rw[kJ];omega⟩ λi g=>?_
 ·rw[kJ]
  repeat'(first|exact tV1|rfl|exact CL rfl (CL (O1 I ω) tV1)|refine CL ?_ ?_)
 obtain⟨g,a⟩:=g;have k:=mX x i;by_cases b:i<x.length
 ·obtain⟨y,c⟩ : ∃y,x[i]? = some y:=⟨_,z4 b⟩
  have d:=pE x i y c;have j:=mX x (i+1)
  repeat'(first|refine gE ?_|refine gS (λh=>?_) (λh=>?_)|refine Cb (KA y _ ω ω (e.2 y (t4 c))) (λh=>?_) (λh=>?_)|refine CQ (i+1) ⟨ω,ω⟩ ω ?_)
  ·exact eE (by unfold kj iW;split<;>omega)
  rw[d]
  repeat'(first|exact tV1|rfl|exact CL rfl (CL (O1 I ω) tV1)|refine CL ?_ ?_)
 repeat'(first|refine gE ?_|refine gS (λh=>?_) (λh=>?_)|fail)
 have l:i=x.length:=ω
 subst l;rw[qP]at a |-;exact eE (by unfold kj iW;split<;>omega)
def HS(x:ar)(left:Int)(b:0<=left)(h1:left<=1048576)(a:ar.wf x):zzA 13 false [.val (some 2) (ar.enc .O x),.vI left] .one [I (kj (ar.sz x) left)]:=by
 obtain⟨wNext,wObjs⟩:=a;refine fO 12 [] Tryz.func13 rfl ?_
 repeat'(first|refine gE ?_|refine gS (λh=>?_) (λh=>?_)|refine Cb (Jz x.K _ ω ω wObjs) (λh=>?_) (λh=>?_))
 all_goals exact eE (by unfold kj ar.sz;split<;>omega)
def EF(x:aP)(left:Int)(b:0<=left)(h1:left<=1048576)(a:aP.wf x):zzA 4 false [.val (some 26) (aP.enc .O x),.vI left] .one [I (kj (aP.sz x) left)]:=by
 obtain⟨wHeap,wRef⟩:=a;refine fO 18 [] Tryz.func4 rfl ?_
 repeat'(first|refine gE ?_|refine gS (λh=>?_) (λh=>?_)|refine Cb (Tq x.W _ ω ω wHeap) (λh=>?_) (λh=>?_)|refine Cb (HS x.b0 _ ω ω wRef) (λh=>?_) (λh=>?_))
 all_goals exact eE (by unfold kj aP.sz;split<;>omega)
theorem Nz(a b:aF)(c:aF.sml a):zzA 292 false [.val (some 2) (aF.enc .O a),.val (some 2) (aF.enc .O b)] .one [B (decide (a=b))]:=by
 have d:=c;refine fO 16 [] Tryz.func292 rfl ?_
 repeat'(first|refine gP ?_|refine gS (λh=>?_) (λh=>?_)|refine CG (uG a.U b.U d) ?_)
 all_goals first|(show [B false]=[B (decide (a=b))];refine bE (C1 λe=>?_).symm;subst e;contradiction)|(show [B true]=[B (decide (a=b))];refine bE (O0 ?_).symm;cases a;cases b;simp_all)
theorem J0(a b:List aF)(l:ko a):zzA 131 false [.val none (f6 .O a),.val none (f6 .O b)] .one [B (decide (a=b))]:=by
 refine fO 27 [(6,10,[17,18,19,20,21,22,23,24,25,26])] Tryz.func131 rfl ?_;have r:a.length<=1048576:=l.1
 repeat'(first|refine gP ?_|refine gS (λh=>?_) (λh=>?_)|fail)
 ·refine bE (C1 λe=>?_).symm
  subst e;omega
 have n:a.length=b.length:=ω
 (conv=>whnf)
 refine g0 a.length (λi=>[(0,b8 (f6 .O a)),(1,b8 (f6 .O b)),(5,fN i)]) (λi=>∀j,j<i->a[j]? = b[j]?) (λj q=>ω) λi o=>?_
 obtain⟨o,c⟩:=o;by_cases g:i<a.length
 ·obtain⟨x,k⟩ : ∃x,a[i]? = some x:=⟨_,z4 g⟩
  obtain⟨y,p⟩ : ∃y,b[i]? = some y:=⟨_,z4 ω⟩
  repeat'(first|refine gE ?_|refine gS (λh=>?_) (λh=>?_)|refine CG (Nz x y (l.2 x (t4 k))) ?_)
  all_goals first
   |(show [B false]=[B (decide (a=b))]
     refine bE (C1 λe=>?_).symm;subst e
     simp_all)
   | ((conv=>whnf)
      refine CQ (i+1) ⟨ω,λj q=>?_⟩ ω ?_
      · rcases Nat.lt_or_ge j i with d|d
        · exact c j d
        obtain rfl:j=i:=ω
        rw[k,p]
        simp_all
      exact wA)
 refine σE ?_
 refine bE (O0 ?_).symm;refine List.ext_getElem? λj=>?_
 rcases Nat.lt_or_ge j i with d|d
 ·exact c j d
 rw[I4 ω,I4 ω]
theorem JN(a b:ar)(c:ar.sml a):zzA 35 false [.val (some 2) (ar.enc .O a),.val (some 2) (ar.enc .O b)] .one [B (decide (a=b))]:=by
 have d:=c;refine fO 16 [] Tryz.func35 rfl ?_
 repeat'(first|refine gP ?_|refine gS (λh=>?_) (λh=>?_)|refine CG (J0 a.K b.K d) ?_)
 all_goals first|(show [B false]=[B (decide (a=b))];refine bE (C1 λe=>?_).symm;subst e;contradiction)|(show [B true]=[B (decide (a=b))];refine bE (O0 ?_).symm;cases a;cases b;simp_all)
theorem BF(a b:aP)(c:aP.sml a):zzA 9 false [.val (some 26) (aP.enc .O a),.val (some 26) (aP.enc .O b)] .one [B (decide (a=b))]:=by
 obtain⟨d,g⟩:=c;refine fO 17 [] Tryz.func9 rfl ?_
 repeat'(first|refine gP ?_|refine gS (λh=>?_) (λh=>?_)|refine CG (Tw a.W b.W d) ?_|refine CG (JN a.b0 b.b0 g) ?_)
 all_goals first|(show [B false]=[B (decide (a=b))];refine bE (C1 λe=>?_).symm;subst e;contradiction)|(show [B true]=[B (decide (a=b))];refine bE (O0 ?_).symm;cases a;cases b;simp_all)
def kG(r:ar)(c:ar.sml r):zzA 86 false [.val (some 2) (ar.enc .O r)] .agg (ar.enc .own r):=by
 have e:r.K.length<=1048576:=c.1;refine fO 29 [(5,264,[16,17,18,19,20,21,22,26,0,1,2,3,4,5,6,7,1000,1001,8,1000,1001,9,10,11])] Tryz.func86 rfl ?_ (.inr (Ct _))
 refine σP ?_
 refine lp0 r.K.length (λi=>[(2,bX [I 0,.z]),(3,bX [I r.j,.s .own ((r.K.take i).map (aF.enc .own))]),(10,b8 ([.s .O (r.K.map (aF.enc .O))])),(11,fI r.K.length),(12,fN i)]) λi g=>?_
 by_cases a:i<r.K.length
 ·have d:=au a
  have b:(nth r.K i).U.length<=1048576:=c.2 _ (ay a)
  repeat'(first|refine gE ?_|refine CG (gi (nth r.K i).U b) ?_|refine Ap.sn (aR λ_=>rfl) rfl kd qs (gx a) ?_)
  (exact dL (i+1) ω)
 refine σE ?_
 obtain rfl:i=r.K.length:=ω
 rw[S9]
 rfl
def ue(w:aP)(h1:ac.sml w.W)(h2:ar.sml w.b0):zzA 19 false [.val (some 26) (aP.enc .O w)] .agg (aP.enc .own w):=by
 have a:=jN w.W h1;have b:=kG w.b0 h2;refine fO 10 [(1,5,[3,4,5,6,7])] Tryz.func19 rfl ?_ (.inr (aP.enc_fr _))
 refine σP ?_
 rfl
def xC(o:aW)(a:dP):zzA 24 false [.val (some 4) (aW.enc .O o),.ptr (dP.enc .O a)] .one [B (jC a.N o)]:=by
 refine fO 9 [] Tryz.func24 rfl ?_
 refine σP ?_
 exact bE ((by unfold jC;rw[C9];simp))
set_option maxHeartbeats 2000000
set_option maxHeartbeats 2000000
def pB(x:List Int)(k:Int)(b:lN x)(g:0<=k)(h1:k+(eB x:Nat)<=1099511627776):zzA 300 false [.val none (aI .O (markIntS x k)),.vI k] .one [I (k+(eB x:Nat))]:=by
 have h:x.length<=1048576:=b;have c:=rL x k;unfold eB at h1;refine fO 21 [] Tryz.func300 rfl ?_
 refine σP ?_
 refine CV (ι:=Nat) (λi=>[(0,b8 (aI .O (markIntS x k))),(1,fI (k+(lP x i:Nat))),(5,fN i)]) (λi=>i<=x.length) (λi=>x.length - i) 0 ?_ (I1 _) λi j=>?_
 ·repeat'(first|exact tV1|rfl|exact CL rfl (CL (O1 I (by unfold lP;omega)) tV1)|refine CL ?_ ?_)
 by_cases a:i<x.length
 ·obtain⟨y,l⟩ : ∃y,x[i]? = some y:=⟨_,z4 a⟩
  have d:=sr x k i a;unfold lP
  repeat'(first|refine gB ?_|refine CQ (i+1) ω ω ?_)
  repeat'(first|exact tV1|rfl|exact CL rfl (CL (O1 I (by first|omega|(unfold lP;omega))) tV1)|refine CL ?_ ?_)
 refine σB ?_
 have e:i=x.length:=ω
 subst e;exact eE (by unfold lP eB;rfl)
def sg(x:List (List Int))(k:Int)(e:mc x)(l:0<=k)(h1:k+(eN x:Nat)<=1099511627776):zzA 301 false [.val none (fk .O (markIntSS x k)),.vI k] .one [I (k+(eN x:Nat))]:=by
 have n:x.length<=1048576:=e.1;have g:=qy x k;refine fO 21 [] Tryz.func301 rfl ?_
 refine σP ?_
 refine CV (ι:=Nat) (λi=>[(0,b8 (fk .O (markIntSS x k))),(1,fI (k+(fK x i:Nat))),(5,fN i)]) (λi=>i<=x.length) (λi=>x.length - i) 0 ?_ (I1 _) λi o=>?_
 ·rw[qh]
  repeat'(first|exact tV1|rfl|exact CL rfl (CL (O1 I ω) tV1)|refine CL ?_ ?_)
 by_cases a:i<x.length
 ·obtain⟨y,b⟩ : ∃y,x[i]? = some y:=⟨_,z4 a⟩
  have h:=qv x k i y b;have c:=pT x i y b;have d:=t7 x (i+1);rw[c]at d
  repeat'(first|refine gB ?_|refine CG (pB y _ (e.2 y (t4 b)) ω ω) ?_|refine CQ (i+1) ω ω ?_)
  repeat'(first|exact tV1|rfl|exact CL rfl (CL (O1 I ω) tV1)|refine CL ?_ ?_)
 refine σB ?_
 have j:i=x.length:=ω
 subst j;exact eE (by rw[rN])
def H7(x:List Bool)(k:Int)(b:qA x)(g:0<=k)(h1:k+(i6 x:Nat)<=1099511627776):zzA 459 false [.val none (iq .O (markBoolS x k)),.vI k] .one [I (k+(i6 x:Nat))]:=by
 have h:x.length<=1048576:=b;have c:=qb x k;unfold i6 at h1;refine fO 23 [] Tryz.func459 rfl ?_
 refine σP ?_
 refine CV (ι:=Nat) (λi=>[(0,b8 (iq .O (markBoolS x k))),(1,fI (k+(jF x i:Nat))),(5,fN i)]) (λi=>i<=x.length) (λi=>x.length - i) 0 ?_ (I1 _) λi j=>?_
 ·repeat'(first|exact tV1|rfl|exact CL rfl (CL (O1 I (by unfold jF;omega)) tV1)|refine CL ?_ ?_)
 by_cases a:i<x.length
 ·obtain⟨y,l⟩ : ∃y,x[i]? = some y:=⟨_,z4 a⟩
  have d:=pS x k i a;unfold jF
  repeat'(first|refine gB ?_|refine CU qs ?_|refine CY rfl ?_|refine Bf.f (by rw[bne_eq_false_iff_eq,C9];simp) ?_|refine CQ (i+1) ω ω ?_)
  repeat'(first|exact tV1|rfl|exact CL rfl (CL (O1 I (by first|omega|(unfold jF;omega))) tV1)|refine CL ?_ ?_)
 refine σB ?_
 have e:i=x.length:=ω
 subst e;exact eE (by unfold jF i6;rfl)
def F5(x:aO)(k:Int)(a:aO.sml x)(d:0<=k)(h1:k+(aO.cnt x:Nat)<=1099511627776):zzA 405 false [.val (some 2) (aO.enc .O (x.mark k)),.vI k] .one [I (k+(aO.cnt x:Nat))]:=by
 obtain⟨b,c⟩:=a;unfold aO.cnt at h1;refine fO 18 [] Tryz.func405 rfl ?_
 repeat'(first|refine gB ?_|refine CG (sg x.U _ b ω ω) ?_|refine CG (H7 x.y _ c ω ω) ?_)
 exact eE (by unfold aO.cnt;omega)
def Gk(x:List aS)(k:Int)(e:lE x)(n:0<=k)(h1:k+(dZ x:Nat)<=1099511627776):zzA 460 false [.val none (fX .O (fg x k)),.vI k] .one [I (k+(dZ x:Nat))]:=by
 have o:x.length<=1048576:=e.1;have g:=ni x k;refine fO 31 [] Tryz.func460 rfl ?_
 refine σP ?_
 refine CV (ι:=Nat) (λi=>[(0,b8 (fX .O (fg x k))),(1,fI (k+(df x i:Nat))),(5,fN i)]) (λi=>i<=x.length) (λi=>x.length - i) 0 ?_ (I1 _) λi p=>?_
 ·rw[mZ]
  repeat'(first|exact tV1|rfl|exact CL rfl (CL (O1 I ω) tV1)|refine CL ?_ ?_)
 by_cases c:i<x.length
 ·obtain⟨y,d⟩ : ∃y,x[i]? = some y:=⟨_,z4 c⟩
  have j:=mC x k i y d;have a:=m9 x i y d;have b:=qj x (i+1);rw[a]at b;simp only[aS.cnt]at a b
  repeat'(first|refine gB ?_|refine Bf.N (λh=>absurd rfl h) (λh=>?_)|refine CQ (i+1) ω ω ?_)
  repeat'(first|exact tV1|rfl|exact CL rfl (CL (O1 I (by first|omega|(simp only[aS.cnt]at a;omega))) tV1)|refine CL ?_ ?_)
 refine σB ?_
 have l:i=x.length:=ω
 subst l;exact eE (by rw[o7])
def HI(x:aL)(k:Int)(a:aL.sml x)(c:0<=k)(h1:k+(aL.cnt x:Nat)<=1099511627776):zzA 406 false [.val (some 1) (aL.enc .O (x.mark k)),.vI k] .one [I (k+(aL.cnt x:Nat))]:=by
 have b:=a;unfold aL.cnt at h1;refine fO 12 [] Tryz.func406 rfl ?_
 repeat'(first|refine gB ?_|refine CG (Gk x.M _ b ω ω) ?_)
 exact eE (by unfold aL.cnt;omega)
def Dw(x:aH)(k:Int)(a:aH.sml x)(d:0<=k)(h1:k+(aH.cnt x:Nat)<=1099511627776):zzA 299 false [.val (some 3) (aH.enc .O (x.mark k)),.vI k] .one [I (k+(aH.cnt x:Nat))]:=by
 obtain⟨b,c⟩:=a;unfold aH.cnt at h1;refine fO 18 [] Tryz.func299 rfl ?_
 repeat'(first|refine gB ?_|refine CG (F5 x.V _ b ω ω) ?_|refine CG (HI x.R _ c ω ω) ?_)
 exact eE (by unfold aH.cnt;omega)
def FO(x:af)(k:Int)(a:af.sml x)(d:0<=k)(h1:k+(af.cnt x:Nat)<=1099511627776):zzA 142 false [.val (some 5) (af.enc .O (x.mark k)),.vI k] .one [I (k+(af.cnt x:Nat))]:=by
 obtain⟨b,c⟩:=a;unfold af.cnt at h1;refine fO 18 [] Tryz.func142 rfl ?_
 repeat'(first|refine gB ?_|refine CG (Dw x.F _ b ω ω) ?_|refine CG (pB x.k _ c ω ω) ?_)
 exact eE (by unfold af.cnt;omega)
set_option maxHeartbeats 2000000
def FY(x:List aD)(k:Int)(e:eJ x)(n:0<=k)(h1:k+(cr x:Nat)<=1099511627776):zzA 143 false [.val none (bm .O (eX x k)),.vI k] .one [I (k+(cr x:Nat))]:=by
 have o:x.length<=1048576:=e.1;have g:=m8 x k;refine fO 31 [] Tryz.func143 rfl ?_
 refine σP ?_
 refine CV (ι:=Nat) (λi=>[(0,b8 (bm .O (eX x k))),(1,fI (k+(dt x i:Nat))),(5,fN i)]) (λi=>i<=x.length) (λi=>x.length - i) 0 ?_ (I1 _) λi p=>?_
 ·rw[mB]
  repeat'(first|exact tV1|rfl|exact CL rfl (CL (O1 I ω) tV1)|refine CL ?_ ?_)
 by_cases c:i<x.length
 ·obtain⟨y,d⟩ : ∃y,x[i]? = some y:=⟨_,z4 c⟩
  have j:=mU x k i y d;have a:=mS x i y d;have b:=q7 x (i+1);rw[a]at b;simp only[aD.cnt]at a b
  repeat'(first|refine gB ?_|refine Bf.N (λh=>absurd rfl h) (λh=>?_)|refine CQ (i+1) ω ω ?_)
  repeat'(first|exact tV1|rfl|exact CL rfl (CL (O1 I (by first|omega|(simp only[aD.cnt]at a;omega))) tV1)|refine CL ?_ ?_)
 refine σB ?_
 have l:i=x.length:=ω
 subst l;exact eE (by rw[oh])
def J9(x:List aC)(k:Int)(e:cP x)(n:0<=k)(h1:k+(cN x:Nat)<=1099511627776):zzA 144 false [.val none (bH .O (fW x k)),.vI k] .one [I (k+(cN x:Nat))]:=by
 have o:x.length<=1048576:=e.1;have g:=oK x k;refine fO 40 [] Tryz.func144 rfl ?_
 refine σP ?_
 refine CV (ι:=Nat) (λi=>[(0,b8 (bH .O (fW x k))),(1,fI (k+(eg x i:Nat))),(5,fN i)]) (λi=>i<=x.length) (λi=>x.length - i) 0 ?_ (I1 _) λi p=>?_
 ·rw[oM]
  repeat'(first|exact tV1|rfl|exact CL rfl (CL (O1 I ω) tV1)|refine CL ?_ ?_)
 by_cases c:i<x.length
 ·obtain⟨y,d⟩ : ∃y,x[i]? = some y:=⟨_,z4 c⟩
  have j:=oV x k i y d;have a:=og x i y d;have b:=rE x (i+1);rw[a]at b;simp only[aC.cnt]at a b
  repeat'(first|refine gB ?_|refine Bf.N (λh=>absurd rfl h) (λh=>?_)|refine CQ (i+1) ω ω ?_)
  repeat'(first|exact tV1|rfl|exact CL rfl (CL (O1 I (by first|omega|(simp only[aC.cnt]at a;omega))) tV1)|refine CL ?_ ?_)
 refine σB ?_
 have l:i=x.length:=ω
 subst l;exact eE (by rw[qw])
def FA(x:List aA)(k:Int)(e:cV x)(n:0<=k)(h1:k+(cy x:Nat)<=1099511627776):zzA 145 false [.val none (bG .O (eU x k)),.vI k] .one [I (k+(cy x:Nat))]:=by
 have o:x.length<=1048576:=e.1;have g:=mA x k;refine fO 40 [] Tryz.func145 rfl ?_
 refine σP ?_
 refine CV (ι:=Nat) (λi=>[(0,b8 (bG .O (eU x k))),(1,fI (k+(dn x i:Nat))),(5,fN i)]) (λi=>i<=x.length) (λi=>x.length - i) 0 ?_ (I1 _) λi p=>?_
 ·rw[mT]
  repeat'(first|exact tV1|rfl|exact CL rfl (CL (O1 I ω) tV1)|refine CL ?_ ?_)
 by_cases c:i<x.length
 ·obtain⟨y,d⟩ : ∃y,x[i]? = some y:=⟨_,z4 c⟩
  have j:=nk x k i y d;have a:=mH x i y d;have b:=qd x (i+1);rw[a]at b;simp only[aA.cnt]at a b
  repeat'(first|refine gB ?_|refine Bf.N (λh=>absurd rfl h) (λh=>?_)|refine CQ (i+1) ω ω ?_)
  repeat'(first|exact tV1|rfl|exact CL rfl (CL (O1 I (by first|omega|(simp only[aA.cnt]at a;omega))) tV1)|refine CL ?_ ?_)
 refine σB ?_
 have l:i=x.length:=ω
 subst l;exact eE (by rw[oo])
def N3(x:List aW)(k:Int)(e:qT x)(n:0<=k)(h1:k+(eK x:Nat)<=1099511627776):zzA 146 false [.val none (gn .O (gy x k)),.vI k] .one [I (k+(eK x:Nat))]:=by
 have o:x.length<=1048576:=e.1;have g:=pX x k;refine fO 49 [] Tryz.func146 rfl ?_
 refine σP ?_
 refine CV (ι:=Nat) (λi=>[(0,b8 (gn .O (gy x k))),(1,fI (k+(fD x i:Nat))),(5,fN i)]) (λi=>i<=x.length) (λi=>x.length - i) 0 ?_ (I1 _) λi p=>?_
 ·rw[qr]
  repeat'(first|exact tV1|rfl|exact CL rfl (CL (O1 I ω) tV1)|refine CL ?_ ?_)
 by_cases c:i<x.length
 ·obtain⟨y,d⟩ : ∃y,x[i]? = some y:=⟨_,z4 c⟩
  have j:=qf x k i y d;have a:=qe x i y d;have b:=tF x (i+1);rw[a]at b;simp only[aW.cnt]at a b
  repeat'(first|refine gB ?_|refine Bf.N (λh=>absurd rfl h) (λh=>?_)|refine CQ (i+1) ω ω ?_)
  repeat'(first|exact tV1|rfl|exact CL rfl (CL (O1 I (by first|omega|(simp only[aW.cnt]at a;omega))) tV1)|refine CL ?_ ?_)
 refine σB ?_
 have l:i=x.length:=ω
 subst l;exact eE (by rw[su])
def Fr(x:List aB)(k:Int)(e:lK x)(l:0<=k)(h1:k+(cH x:Nat)<=1099511627776):zzA 147 false [.val none (er .O (fh x k)),.vI k] .one [I (k+(cH x:Nat))]:=by
 have n:x.length<=1048576:=e.1;have g:=mP x k;refine fO 22 [] Tryz.func147 rfl ?_
 refine σP ?_
 refine CV (ι:=Nat) (λi=>[(0,b8 (er .O (fh x k))),(1,fI (k+(dm x i:Nat))),(5,fN i)]) (λi=>i<=x.length) (λi=>x.length - i) 0 ?_ (I1 _) λi o=>?_
 ·rw[mI]
  repeat'(first|exact tV1|rfl|exact CL rfl (CL (O1 I ω) tV1)|refine CL ?_ ?_)
 by_cases c:i<x.length
 ·obtain⟨y,d⟩ : ∃y,x[i]? = some y:=⟨_,z4 c⟩
  have h:=mJ x k i y d;have a:=mG x i y d;have b:=pQ x (i+1);rw[a]at b
  repeat'(first|refine gB ?_|refine CG (sg y.X _ (e.2 y (t4 d)) ω (by simp only[aB.cnt]at b;omega)) ?_|refine CQ (i+1) ω ω ?_)
  repeat'(first|exact tV1|rfl|exact CL rfl (CL (O1 I (by first|omega|(simp only[aB.cnt]at a;omega))) tV1)|refine CL ?_ ?_)
 refine σB ?_
 have j:i=x.length:=ω
 subst j;exact eE (by rw[oG])
def Je(x:List aV)(k:Int)(e:od x)(n:0<=k)(h1:k+(eQ x:Nat)<=1099511627776):zzA 407 false [.val none (bf .O (fy x k)),.vI k] .one [I (k+(eQ x:Nat))]:=by
 have o:x.length<=1048576:=e.1;have g:=ow x k;refine fO 31 [] Tryz.func407 rfl ?_
 refine σP ?_
 refine CV (ι:=Nat) (λi=>[(0,b8 (bf .O (fy x k))),(1,fI (k+(en x i:Nat))),(5,fN i)]) (λi=>i<=x.length) (λi=>x.length - i) 0 ?_ (I1 _) λi p=>?_
 ·rw[oZ]
  repeat'(first|exact tV1|rfl|exact CL rfl (CL (O1 I ω) tV1)|refine CL ?_ ?_)
 by_cases c:i<x.length
 ·obtain⟨y,d⟩ : ∃y,x[i]? = some y:=⟨_,z4 c⟩
  have j:=o6 x k i y d;have a:=oC x i y d;have b:=ro x (i+1);rw[a]at b;simp only[aV.cnt]at a b
  repeat'(first|refine gB ?_|refine Bf.N (λh=>absurd rfl h) (λh=>?_)|refine CQ (i+1) ω ω ?_)
  repeat'(first|exact tV1|rfl|exact CL rfl (CL (O1 I (by first|omega|(simp only[aV.cnt]at a;omega))) tV1)|refine CL ?_ ?_)
 refine σB ?_
 have l:i=x.length:=ω
 subst l;exact eE (by rw[qu])
def EV(x:List (List aV))(k:Int)(e:lr x)(l:0<=k)(h1:k+(dr x:Nat)<=1099511627776):zzA 302 false [.val none (fw .O (eY x k)),.vI k] .one [I (k+(dr x:Nat))]:=by
 have n:x.length<=1048576:=e.1;have g:=mF x k;refine fO 21 [] Tryz.func302 rfl ?_
 refine σP ?_
 refine CV (ι:=Nat) (λi=>[(0,b8 (fw .O (eY x k))),(1,fI (k+(dh x i:Nat))),(5,fN i)]) (λi=>i<=x.length) (λi=>x.length - i) 0 ?_ (I1 _) λi o=>?_
 ·rw[nh]
  repeat'(first|exact tV1|rfl|exact CL rfl (CL (O1 I ω) tV1)|refine CL ?_ ?_)
 by_cases a:i<x.length
 ·obtain⟨y,b⟩ : ∃y,x[i]? = some y:=⟨_,z4 a⟩
  have h:=mD x k i y b;have c:=na x i y b;have d:=qi x (i+1);rw[c]at d
  repeat'(first|refine gB ?_|refine CG (Je y _ (e.2 y (t4 b)) ω ω) ?_|refine CQ (i+1) ω ω ?_)
  repeat'(first|exact tV1|rfl|exact CL rfl (CL (O1 I ω) tV1)|refine CL ?_ ?_)
 refine σB ?_
 have j:i=x.length:=ω
 subst j;exact eE (by rw[oN])
def KS(x:aJ)(k:Int)(a:aJ.sml x)(d:0<=k)(h1:k+(aJ.cnt x:Nat)<=1099511627776):zzA 148 false [.val (some 2) (aJ.enc .O (x.mark k)),.vI k] .one [I (k+(aJ.cnt x:Nat))]:=by
 obtain⟨b,c⟩:=a;unfold aJ.cnt at h1;refine fO 18 [] Tryz.func148 rfl ?_
 repeat'(first|refine gB ?_|refine CG (EV x.T _ b ω ω) ?_|refine CG (sg x.e _ c ω ω) ?_)
 exact eE (by unfold aJ.cnt;omega)
def FC(x:List aK)(k:Int)(e:gT x)(n:0<=k)(h1:k+(ed x:Nat)<=1099511627776):zzA 303 false [.val none (bJ .O (eZ x k)),.vI k] .one [I (k+(ed x:Nat))]:=by
 have o:x.length<=1048576:=e.1;have g:=mR x k;refine fO 40 [] Tryz.func303 rfl ?_
 refine σP ?_
 refine CV (ι:=Nat) (λi=>[(0,b8 (bJ .O (eZ x k))),(1,fI (k+(dq x i:Nat))),(5,fN i)]) (λi=>i<=x.length) (λi=>x.length - i) 0 ?_ (I1 _) λi p=>?_
 ·rw[nj]
  repeat'(first|exact tV1|rfl|exact CL rfl (CL (O1 I ω) tV1)|refine CL ?_ ?_)
 by_cases c:i<x.length
 ·obtain⟨y,d⟩ : ∃y,x[i]? = some y:=⟨_,z4 c⟩
  have j:=mL x k i y d;have a:=mV x i y d;have b:=ql x (i+1);rw[a]at b;simp only[aK.cnt]at a b
  repeat'(first|refine gB ?_|refine Bf.N (λh=>absurd rfl h) (λh=>?_)|refine CQ (i+1) ω ω ?_)
  repeat'(first|exact tV1|rfl|exact CL rfl (CL (O1 I (by first|omega|(simp only[aK.cnt]at a;omega))) tV1)|refine CL ?_ ?_)
 refine σB ?_
 have l:i=x.length:=ω
 subst l;exact eE (by rw[oJ])
def My(x:aY)(k:Int)(a:aY.sml x)(c:0<=k)(h1:k+(aY.cnt x:Nat)<=1099511627776):zzA 149 false [.val (some 2) (aY.enc .O (x.mark k)),.vI k] .one [I (k+(aY.cnt x:Nat))]:=by
 have b:=a;unfold aY.cnt at h1;refine fO 12 [] Tryz.func149 rfl ?_
 repeat'(first|refine gB ?_|refine CG (FC x.l _ b ω ω) ?_)
 exact eE (by unfold aY.cnt;omega)
def MO(x:bn)(k:Int)(a:bn.sml x)(c:0<=k)(h1:k+(bn.cnt x:Nat)<=1099511627776):zzA 304 false [.val (some 3) (bn.enc .O (x.mark k)),.vI k] .one [I (k+(bn.cnt x:Nat))]:=by
 have b:=a;unfold bn.cnt at h1;refine fO 12 [] Tryz.func304 rfl ?_
 repeat'(first|refine gB ?_|refine CG (pB x.U _ b ω ω) ?_)
 exact eE (by unfold bn.cnt;omega)
def PK(x:bz)(k:Int)(a:bz.sml x)(c:0<=k)(h1:k+(bz.cnt x:Nat)<=1099511627776):zzA 150 false [.val (some 5) (bz.enc .O (x.mark k)),.vI k] .one [I (k+(bz.cnt x:Nat))]:=by
 have b:=a;unfold bz.cnt at h1;refine fO 12 [] Tryz.func150 rfl ?_
 repeat'(first|refine gB ?_|refine CG (MO x.d _ b ω ω) ?_)
 exact eE (by unfold bz.cnt;omega)
def Ll(x:ac)(k:Int)(a:ac.sml x)(n:0<=k)(h1:k+(ac.cnt x:Nat)<=1099511627776):zzA 38 false [.val (some 24) (ac.enc .O (x.mark k)),.vI k] .one [I (k+(ac.cnt x:Nat))]:=by
 obtain⟨b,c,d,e,g,h,i,j,l⟩:=a;unfold ac.cnt at h1;refine fO 60 [] Tryz.func38 rfl ?_
 repeat'(first|refine gB ?_|refine CG (FO x.G _ b ω ω) ?_|refine CG (FY x.a _ c ω ω) ?_|refine CG (J9 x.J _ d ω ω) ?_|refine CG (FA x.H _ e ω ω) ?_|refine CG (N3 x.K _ g ω ω) ?_|refine CG (Fr x.Q _ h ω ω) ?_|refine CG (KS x.b _ i ω ω) ?_|refine CG (My x.r _ j ω ω) ?_|refine CG (PK x.a2 _ l ω ω) ?_)
 exact eE (by unfold ac.cnt;omega)
def kZ(sp:List aC)(ps:List Int)(b:Int):Nat->Int
 | 0=>b
 | j+1=>if(nth sp j).S∈ps then bor (kZ sp ps b j) (nth sp j).a3 else kZ sp ps b j
def E3{sp:List aC}(h:∀s∈sp,bu s=true){ps:List Int}{b:Int}(a:0<=b/\b<=65535):∀j,j<=sp.length->0<=kZ sp ps b j/\kZ sp ps b j<=65535
 | 0,_=>a
 | j+1,d=>by
  have c:=E3 h (ps:=ps) a j ω;simp only[kZ];split
  ·exact Pf c (pD h ω)
  exact c
def v6(h:ac)(i:Nat)(n:cP h.J)(c:AA h)(a:∀s∈h.J,bu s=true)(t:i<h.J.length):zzA 371 false [.val (some 24) (ac.enc .O h),.vI (i:Nat)] .one [I (kZ h.J (bh h (nth h.J i).S) (nth h.J i).a3 h.J.length)]:=by
 have C:=n.1;have u:=au t;have d:=pD a t;have w:=aQ ((i:Nat):Int) 0 ((h.J.length:Int) - 1);rw[O0 (show(0:Int)<=(i:Nat)/\((i:Nat):Int)<=(h.J.length:Int) - 1 by omega)]at w;have y:=mM h (nth h.J i).S c;have o:=gR h (nth h.J i).S;have D:ge h<=1048576:=c.1;obtain⟨ps,p⟩ : ∃ps,bh h (nth h.J i).S=ps:=⟨_,rfl⟩
 obtain⟨b,q⟩ : ∃b,(nth h.J i).a3=b:=⟨_,rfl⟩
 rw[p]at y o |-;rw[q]at d |-;have E:kZ h.J ps b 0=b:=rfl;refine fO 47 [(4,7,[22,23,24,25,26,27,28])] Tryz.func371 rfl ?_
 refine σP ?_
 refine lp0 h.J.length (λj=>[(5,fI (kZ h.J ps b j)),(6,b8 (aI .own ps)),(31,b8 (bH .O h.J)),(32,fI (h.J.length:Nat)),(33,fN j)]) λj F=>?_
 by_cases B:j<h.J.length
 ·have k:=au B
  have r:=E3 a (ps:=ps) d j F;have l:=vH ps (nth h.J j).S ω;by_cases e:(nth h.J j).S∈ps
  ·have g:kZ h.J ps b (j+1)=bor (kZ h.J ps b j) (nth h.J j).a3:=CK e
   rw[O0 e]at l
   repeat'(first|refine gE ?_|refine CT (or64 r (pD a B)) ?_|refine CN (l) ⟨⟨rfl,eI _⟩,⟨rfl,rfl⟩,tV1⟩ ?_)
   (exact dL (j+1) ω)
  have g:kZ h.J ps b (j+1)=kZ h.J ps b j:=CJ e;rw[C1 e]at l
  repeat'(first|refine gE ?_|refine CN (l) ⟨⟨rfl,eI _⟩,⟨rfl,rfl⟩,tV1⟩ ?_)
  (exact dL (j+1) ω)
 obtain rfl:j=h.J.length:=ω
 refine σE ?_
 rfl
def VN(a b:Int)(k:Nat):(bor a b).toNat.testBit k=true↔a.toNat.testBit k=true\/b.toNat.testBit k=true:=by
 unfold bor;rw[O4,Nat.testBit_or,OC]
def QQ(sp:List aC)(p b:Int)(k:Nat):∀j,(tX sp p b j).toNat.testBit k=true↔b.toNat.testBit k=true\/∃i,i<j/\(nth sp i).S=p/\(nth sp i).a3.toNat.testBit k=true
 | 0=>by simp[tX]
 | j+1=>by
  have g:=QQ sp p b k j;simp only[tX];split
  ·rename_i e
   rw[VN,g];constructor
   ·rintro((h|⟨i,d,a,c⟩)|h)
    ·exact .inl h
    ·exact .inr ⟨i,ω,a,c⟩
    exact .inr ⟨j,ω,e,h⟩
   rintro(h|⟨i,d,a,c⟩)
   ·exact .inl (.inl h)
   by_cases f:i=j
   ·subst f;exact .inr c
   exact .inl (.inr ⟨i,ω,a,c⟩)
  rename_i e;rw[g];constructor
  ·rintro(h|⟨i,d,a,c⟩)
   ·exact .inl h
   exact .inr ⟨i,ω,a,c⟩
  rintro(h|⟨i,d,a,c⟩)
  ·exact .inl h
  by_cases f:i=j
  ·subst f;exact absurd a e
  exact .inr ⟨i,ω,a,c⟩
def Nq(sp:List aC)(ps:List Int)(b:Int)(k:Nat):∀m,(jL sp ps b m).toNat.testBit k=true↔b.toNat.testBit k=true\/∃u,u<m/\∃i,i<sp.length/\(nth sp i).S=nth ps u/\(nth sp i).a3.toNat.testBit k=true
 | 0=>by simp[jL]
 | m+1=>by
  have c:=Nq sp ps b k m;simp only[jL];rw[QQ,c];constructor
  ·rintro((h|⟨u,d,a⟩)|h)
   ·exact .inl h
   ·exact .inr ⟨u,ω,a⟩
   exact .inr ⟨m,ω,h⟩
  rintro(h|⟨u,d,a⟩)
  ·exact .inl (.inl h)
  by_cases e:u=m
  ·subst e;exact .inr a
  exact .inl (.inr ⟨u,ω,a⟩)
def MB(sp:List aC)(ps:List Int)(b:Int)(k:Nat):∀j,(kZ sp ps b j).toNat.testBit k=true↔b.toNat.testBit k=true\/∃i,i<j/\(nth sp i).S∈ps/\(nth sp i).a3.toNat.testBit k=true
 | 0=>by simp[kZ]
 | j+1=>by
  have g:=MB sp ps b k j;simp only[kZ];split
  ·rename_i e
   rw[VN,g];constructor
   ·rintro((h|⟨i,d,a,c⟩)|h)
    ·exact .inl h
    ·exact .inr ⟨i,ω,a,c⟩
    exact .inr ⟨j,ω,e,h⟩
   rintro(h|⟨i,d,a,c⟩)
   ·exact .inl (.inl h)
   by_cases f:i=j
   ·subst f;exact .inr c
   exact .inl (.inr ⟨i,ω,a,c⟩)
  rename_i e;rw[g];constructor
  ·rintro(h|⟨i,d,a,c⟩)
   ·exact .inl h
   exact .inr ⟨i,ω,a,c⟩
  rintro(h|⟨i,d,a,c⟩)
  ·exact .inl h
  by_cases f:i=j
  ·subst f;exact absurd a e
  exact .inr ⟨i,ω,a,c⟩
def WP{sp:List aC}(h:∀s∈sp,bu s=true){ps:List Int}{b:Int}(f:0<=b/\b<=65535):kZ sp ps b sp.length=jL sp ps b ps.length:=by
 have a:=E3 h (ps:=ps) f sp.length (z5 _);have c:=oU h (ps:=ps) f ps.length;have e:(kZ sp ps b sp.length).toNat=(jL sp ps b ps.length).toNat:=by
  apply Nat.eq_of_testBit_eq;intro k;rw[C9,MB,Nq];constructor
  ·rintro(h|⟨i,a,c,d⟩)
   ·exact .inl h
   obtain⟨u,g⟩:=List.getElem?_of_mem c;exact .inr ⟨u,(C4.1 g).1,i,a,(bI g).symm,d⟩
  rintro(h|⟨u,a,i,c,d,j⟩)
  ·exact .inl h
  exact .inr ⟨i,c,by rw[d];exact ay a,j⟩
 omega
def zy{i:Nat}(a:∀s∈h.J,bu s=true)(b:i<h.J.length):kZ h.J (bh h (nth h.J i).S) (nth h.J i).a3 h.J.length=fp h i:=WP a (pD a b)
def Bl(h:ac)(a:∀o∈h.K,0<=o.q/\o.q<=1000)(e:h.K.length<=1048576):zzA 99 false [.val (some 24) (ac.enc .O h)] .one [I (rK h)]:=by
 refine fO 19 [] Tryz.func99 rfl ?_
 refine σP ?_
 refine lp0 h.K.length (λk=>[(3,fI (wj h.K k)),(7,b8 (gn .O h.K)),(8,fI h.K.length),(9,fN k)]) λk d=>?_
 have g:=qI a k d;by_cases b:k<h.K.length
 ·have c:=au b
  have i:=a _ (ay b)
  refine σE ?_
  (exact dL (k+1) ω)
 obtain rfl:k=h.K.length:=ω
 refine σE ?_
 rfl
def tQ(k b:Int)(e:b<=9223372036854775807):zzA 370 false [.vI (slots k),.vI b] .one (aI .own (rO k b)):=by
 have c:=vL k b;have n:0<=slots k/\slots k<=16:=by unfold slots;repeat' split<;>omega
 unfold rO;cases g:Uf k b<;>rw[g]at c
 ·rw[CJ (by simp)]
  refine fO 26 [] Tryz.func370 rfl ?_ (.inr (bO _))
  repeat'((conv=>whnf);first|with_reducible (first|refine Lm ?_|refine Wm ω ?_|refine Bn ?_|refine pU.wk rfl ?_)|refine Bt ?_|refine Bu ?_|refine CG (c) ?_)
  all_goals exact⟨rfl,tV1⟩
 rw[CK rfl];refine fO 26 [] Tryz.func370 rfl ?_ (.inr (bO _))
 refine σP ?_
 refine lp0 ((slots k).toNat) (λj=>[(0,fI (slots k)),(1,fI b),(5,b8 (aI .own (oX b j))),(6,fN j)]) λj o=>?_
 have h:=uE b j;by_cases p:j<(slots k).toNat
 ·have d:=jn b (j:Nat) e
  have a:oX b (j+1)=if br b (j:Nat)=true then oX b j else oX b j++[((j:Nat):Int)]:=rfl
  cases i:br b (j:Nat)<;>rw[i]at d a
  ·rw[CJ (by simp)]at a
   repeat'(first|refine gE ?_|refine Ce dz (λr l=>by rw[z3.1 l];rfl) (by simp[b6,gj]) kd (by simp only[I2];exact wT kd qs) rfl ?_)
   (refine CQ (j+1) ω ω ?_)
   rw[a]
   repeat'(first|exact tV1|rfl| exact Dh _ |exact CL rfl (CL (O1 (C.s eS.own) (by simp[rI])) tV1)|refine CL ?_ ?_|(exact wkI (by first|omega|(simp only;omega)|(simp;omega))))
  rw[CK rfl]at a
  refine σE ?_
  (refine CQ (j+1) ω ω ?_)
  rw[a];exact wC
 obtain rfl:j=(slots k).toNat:=ω
 refine σE ?_
 rfl
def Ga(b i:Int)(d:0<=b/\b<=65535)(a:0<=i/\i<=15):zzA 373 false [.vI b,.vI i] .one [I (jg b i)]:=by
 have c:=uD b i;rw[O0 ω]at c;have e:=(or64 (z1:=b) (z2:=2 ^ i.toNat) d (by have:=shl64 a;omega)).trans (G5 b i);refine fO 14 [] Tryz.func373 rfl ?_
 repeat'(first|refine gP ?_|refine CU ω ?_|refine CT (shl64 a).1 ?_|refine CT e ?_)
 rfl
def GZ(f:aO)(i:Nat):aO.enc .own ⟨f.U,f.y.set i true⟩ = [.s .own (f.U.map (aI .own)),.s .own ((f.y.map (rB .own)).set i (rB .own true))]:=by
 simp[aO.enc,IC]
def z6(f:aO):aO × Int × Bool:=
 if cC (λu=>!u) f.y<0 then(f,-1,false) else(⟨f.U,f.y.set (cC (λu=>!u) f.y).toNat true⟩,cC (λu=>!u) f.y,true)
def EO(f:aO)(l:dM f=true)(b:aO.sml f):zzA 446 false [.val (some 2) (aO.enc .O f)] (.tup [some 2,none,none]) (aO.enc .own (z6 f).1++[I (z6 f).2.1,B (z6 f).2.2]):=by
 have n:=sL f b;have h:=vM f b;rw[l]at h;have p:f.y.length<=1048576:=b.2;refine fO 30 [] Tryz.func446 rfl ?_ (.inr (aE (aO.enc_fr _) ⟨tV1,tV1,tV1⟩))
 refine σP ?_
 refine g0 f.y.length (λi=>[(2,bX [.z,.z]),(5,bX (aO.enc .own f)),(13,b8 (iq .O f.y)),(14,fI f.y.length),(15,fN i)]) (λi=>∀(j:Nat)(z:Bool),j<i->f.y[j]? = some z->(!z)=false) (λj z q=>ω) λi k=>?_
 obtain⟨k,c⟩:=k;by_cases o:i<f.y.length
 ·have a:=au o
  cases e:nth f.y i<;>rw[e]at a
  ·have d:cC (λu=>!u) f.y=(i:Nat):=eA a rfl c
   have g:z6 f=((⟨f.U,f.y.set i true⟩ : aO),((i:Nat):Int),true):=by unfold z6;rw[d,CJ ω];rfl
   rw[g];simp only;rw[GZ]
   repeat'(first|refine gE ?_|refine CR rfl rfl (aa a) rfl (O2 rfl) rfl ?_)
   rfl
  refine σE ?_
  (exact dL (i+1) ⟨ω,gd a rfl c⟩)
 have d:cC (λu=>!u) f.y = -1:=gr ω c;have g:z6 f=(f,-1,false):=by unfold z6;rw[d];rfl
 rw[g]
 refine σE ?_
 rfl
variable{r:List C}{rows:List (List C)}
def dw.fzAt{w:World}{S F:am}{o:eS}{v:Value}(h:dw w S F (.s o rows) v)(X:o=.own){k:Nat}(E:rows[k]? = some r) :
  ∃V:am,(∀b q,V b q->F b q)/\dw w (λb q=>S b q\/V b q) (λb q=>F b q/\¬V b q) (.s o (rows.set k (du r))) v:=by
 cases h with
 | nil=>simp at E
 | O=>cases X
 | suf _ _ g off K n G _ u f A=>subst X;exact A.elim
 | own _ _ g K n G _ u f A Q O H J Y hu P Z hc=>
  have B:k<n:=by have:=(C4.1 E).1;omega
  have hq:∀j,j<K->(k*K+j) / K=k:=λj a=>by
   rw[Nat.mul_comm,Nat.mul_add_div ω,Nat.div_eq_of_lt a,Nat.add_zero]
  refine⟨λb q=>∃j,j<K/\f (k*K+j) b q,λb q ⟨j,a,l⟩=>(P _ (cL B a) b q l).1,?_⟩;refine .own _ o g K n G _ u (λq=>if q / K=k then NO else f q) A (by simpa using Q) (λr' R=>?_) H J (λq d=>⟨⟨(Y q d).1,λ⟨j,a,l⟩=>(P _ (cL B a) _ _ l).2 ⟨rfl,d⟩⟩,(Y q d).2⟩) hu (λq d b y l=>?_) (λq T h1 h2 h3 b y L M=>?_) (λi j r' c N a=>?_)
  ·rcases CD R with h|rfl
   ·exact O _ h
   rw[cf,I2];exact O _ (t4 E)
  ·replace l:(if q / K=k then NO else f q) b y:=l
   split at l
   ·exact l.elim
   rename_i D;refine⟨⟨(P q d b y l).1,λ⟨j,a,U⟩=>Z q (k*K+j) d (cL B a) (λe=>D (by rw[e];exact hq j a)) b y l U⟩,(P q d b y l).2⟩
  ·replace L:(if q / K=k then NO else f q) b y:=L
   replace M:(if T / K=k then NO else f T) b y:=M;split at L
   ·exact L.elim
   split at M
   ·exact M.elim
   exact Z q T h1 h2 h3 b y L M
  by_cases e:i=k
  ·subst e
   have W:(rows.set i (du r))[i]? = some (du r):=by
    rw[I6 ω]
   rw[W]at N;obtain rfl:=Option.some.inj N;rw[cf,C5]at a;cases p:r[j]? with
   | none=>rw[p]at a;cases a
   | some c'=>
    rw[p]at a;simp only[CA,C2]at a;subst a;have t:=(qa Q O E p).2;show dw w _ (if(i*K+j) / K=i then NO else f (i*K+j)) _ _;rw[CK (hq j t)];exact(hc i j r c' E p).freeze.mono (λb o h=>h.elim .inl λh=>.inr ⟨j,t,h⟩) (λ_ _ h=>h)
  rw[List.getElem?_set_ne ω]at N;have t:=(qa Q O N a).2;have D:¬(i*K+j) / K=k:=by
   rw[Nat.mul_comm,Nat.mul_add_div ω,Nat.div_eq_of_lt t,Nat.add_zero];exact e
  show dw w _ (if(i*K+j) / K=k then NO else f (i*K+j)) _ _;rw[CJ D];exact(hc i j r' c N a).mono (λ_ _ h=>.inl h) (λ_ _ h=>h)
def cD.fzAt{w:World}{S F:am}{cs:List C}{u:Nat->Value}(h:cD w S F cs u){off:Nat}{o:eS}(B:cs[off]? = some (.s o rows))(G:o=.own){k:Nat}(H:rows[k]? = some r) :
  ∃V:am,(∀b q,V b q->F b q)/\cD w (λb q=>S b q\/V b q) (λb q=>F b q/\¬V b q) (cs.set off (.s o (rows.set k (du r)))) u:=by
 obtain⟨f,D,y,t⟩:=h;have i:=(C4.1 B).1;obtain⟨V,E,J⟩:=(D off _ B).fzAt G H;refine⟨V,λb q A=>y off i b q (E b q A),λj=>if j=off then(λb q=>f off b q/\¬V b q) else f j,λj c g=>?_,λj g b q d=>?_,λj p g l n b q d a=>?_⟩
 ·by_cases e:j=off
  ·subst e
   rw[I6 i]at g;obtain rfl:=Option.some.inj g;simpa using J
  rw[List.getElem?_set_ne ω]at g;show dw w _ (if j=off then _ else f j) _ _;rw[CJ e];exact(D j c g).mono (λ_ _ h=>.inl h) (λ_ _ h=>h)
 ·rw[C3]at g
  replace d:(if j=off then(λb q=>f off b q/\¬V b q) else f j) b q:=d;split at d
  ·exact⟨y off i b q d.1,d.2⟩
  rename_i e;exact⟨y j g b q d,λA=>t j off g i e b q d (E b q A)⟩
 rw[C3]at g l;replace d:(if j=off then(λb q=>f off b q/\¬V b q) else f j) b q:=d;replace a:(if p=off then(λb q=>f off b q/\¬V b q) else f p) b q:=a;split at d
 ·rename_i e
  rw[CJ ω]at a;exact t j p g l n b q (e ▸ d.1) a
 split at a
 ·rename_i e
  exact t j p g l n b q d (e ▸ a.1)
 exact t j p g l n b q d a
def ah.fzAt{P:Program}{f:Nat}{sh:Bool}{A:List RA}{k:Kd}{rcs:List C}(h:ah P f sh A k rcs){off:Nat}{o:eS}(g:rcs[off]? = some (.s o rows))(i:o=.own){j:Nat}(l:rows[j]? = some r) :
  ah P f sh A k (rcs.set off (.s o (rows.set j (du r)))):=by
 obtain⟨n,p⟩:=h;refine⟨n,λw S t u y=>(p w S t u y).mono λe w1 B=>?_⟩;obtain⟨v,D,E,X,S1,d,F,G,H,J⟩:=B;obtain⟨V,K,L⟩:=J.fzAt g i l;refine⟨v,D,E,_,_,λb q c=>d b q c.1,λb q c=>?_,λb q c a=>?_,by rw[C3];exact H,L⟩
 ·rcases c with c|c
  ·exact F b q c
  exact .inr (d b q (K b q c))
 rcases a with a|a
 ·exact G b q c.1 a
 exact c.2 a
set_option maxRecDepth 100000
def Mc:∀w,(zeroValue 172).run Tryz.prog w=.ok (.agg #[.int .i64 0,.slice none 0 0]) w:=λ_=>by kernel_rfl
theorem Gf:yD Tryz.prog 264 2:=by
 refine⟨⟨_,Tryz.func264,by kernel_rfl,by kernel_rfl⟩,λw g n c i news p r l y B b=>?_⟩;obtain⟨A,U,a⟩:=xl l r p y;have a:Hid (∀t u,news[t]? = some u->w.drew.cell? (A.add t)=some u):=a;have R:Hid (news.length=(n - (i+1))*2):=l;have V:Hid (∀u∈news,u.oneCell'=true):=B;have W:Hid (∀t,t<news.length->(w.drew.cell? ⟨g,0+i*2+t,none⟩).isSome=true/\w.drew.frozen? ⟨g,0+i*2+t,none⟩ = false):=λt ht=>by
  rw[CE];exact b (i*2+t) ω
 obtain⟨o,d⟩ : ∃o,o=w.drew.setCells g (0+i*2) news:=⟨_,rfl⟩
 have X:∀q,q<n*2->(o.cell? ⟨g,q,none⟩).isSome=true/\o.frozen? ⟨g,q,none⟩ = false:=λq S=>by
  have C:∀j,j<news.length->∃z,cel w.drew g (0+i*2+j)=some z:=λj Y=>by
   have:=(b (0+i*2+j) ω).1;exact Option.isSome_iff_exists.1 this
  refine⟨?_,by rw[d];exact(O1 Prod.fst (cm g _ news w.drew g q)).trans (b q S).2⟩;rw[d];by_cases h:0+i*2<=q/\q<0+i*2+news.length
  ·have:=bA C (z4 (show q - (0+i*2)<news.length by omega))
   grind
  show(cel _ g q).isSome=true;rw[bt (λx=>h x.2)];exact(b q S).1
 obtain⟨K,D,E,F⟩:=xM (P:=Tryz.prog) o 83 172 2 (.agg #[.int .i64 0,.slice none 0 0]) Tryz.underlying83 Mc rfl (by intro v T;simp[Value.cells]at T;rcases T with rfl|rfl<;>rfl) g ((i+(n - (i+1)))*2) (n - (i+(n - (i+1)))) ω qs ψ ψ;have G:Hid (K.length=(n - (i+(n - (i+1))))*2):=D;have H:Hid (∀v∈K,v.oneCell'=true):=E;have Z:Hid (o=w.drew.setCells g (0+i*2) news):=d;have hic:i<=c:=ω
 have L:i+1<=c:=ω
 have M:¬i=i+1:=ω
 have N:i+1<=n:=p;have k:n - 1=i+(n - (i+1)):=ω
 clear d X b y B l D E;rw[k];generalize Y:i+1=j at U a R F G L M N k |-;obtain⟨J,O,Q⟩ : ∃J,Tryz.prog.info? 172=some J/\J.size=2:=by
  have h:=(sR 172 _ rfl).1;cases e : Tryz.prog.info? 172 with
  | none=>grind
  | some x=>rw[e]at h;simp only[CA,C2,Prod.mk.injEq]at h;exact⟨x,rfl,h.2.1⟩
 have mixed : Tryz.prog.follows .mixedOrders=true:=by kernel_rfl
 go_enter Tryz.func264,Tryz.ntmps264
 go_wp2_with fail
 go_region_law_o (refine step_append_room rfl (.tmp 22) (.tmp 25) 83 rfl 172 J 2 Tryz.underlying83 O Q g 0 i c (by simp[Act.eval,Act.put]) A (n - j) (c - j) news (by simp[Act.eval,Act.put]) R.out a.out V.out ω W.out ?_;rw[<-Z.out])
 go_wp2
 go_ret
 refine⟨rfl,K,by grind [Go.RowKit.Hid.out],H.out,?_⟩
 grind [Go.RowKit.Hid.out]
theorem FH(xs:List aF)(i:Nat)(a:i<xs.length):zzB 264 false [.mut none [.s .own (xs.map (aF.enc .own))],.vI (i:Nat),.vI ((i+1:Nat):Int)] [.mut none [.x],.vI (i:Nat),.vI ((i+1:Nat):Int)] .one [oE ((dele xs i).map (aF.enc .own))]:=by
 have h:=EA Gf (rows:=xs.map (aF.enc .own)) (i:=i) ψ (aR λ_=>rfl) (bg _ _ λx _=>aF.enc_fr x)
 grind [C8,I8,dele]
theorem yr(xs:List aF)(pr:aF->Bool)(g:xs.length<=9223372036854775807):zzA 385 false [.val none ([.s .O (xs.map (aF.enc .O))]),.fn (pk Tryz.prog (sQ (some 2) (aF.enc .O) pr xs))] .one [I (cC pr xs)]:=by
 refine fO 19 [] Tryz.func385 rfl ?_
 refine σP ?_
 refine g0 xs.length (λi=>[(0,b8 ([.s .O (xs.map (aF.enc .O))])),(1,.fv (pk Tryz.prog (sQ (some 2) (aF.enc .O) pr xs))),(7,fI xs.length),(8,fN i)]) (λi=>∀(j:Nat)(z:aF),j<i->xs[j]? = some z->pr z=false) ψ λi b=>?_
 obtain⟨b,d⟩:=b;by_cases a:i<xs.length
 ·obtain⟨y,c⟩ : ∃y,xs[i]? = some y:=⟨_,z4 a⟩
  repeat'(first|refine gE ?_|refine Fv.mk (k:=.one) (rcs:=[B (pr y)]) ⟨y,t4 c,rfl,rfl,rfl⟩ ?_|refine Bf.P (λe=>?_) (λe=>?_))
  ·grind [eA]
  (conv=>whnf)
  exact dL (i+1) ψ
 refine σE ?_
 exact eE (gr ω d).symm
theorem Al(o:aF)(id:Int):zzA 386 false [.val (some 2) (aF.enc .O o),.ptr [I id]] .one [B (iR id o)]:=by
 refine fO 8 [] Tryz.func386 rfl ?_
 refine σP ?_
 grind [iR]
def pK(r:ar)(id:Int)(b:r.K.length<=1048576):zzA 263 false [.val (some 2) (ar.enc .O r),.vI id] .one [I (pR r id)]:=by
 refine fO 9 [] Tryz.func263 rfl ?_
 repeat'(first|refine gP ?_|refine Cq.mk (sQ (some 2) (aF.enc .O) (iR id) r.K) (Al default id).has (λL k rcs a=>?_) ?_|refine CG (yr r.K (iR id) ω) ?_)
 ·obtain⟨y,-,rfl,rfl,rfl⟩:=a
  exact Al y id
 rfl
def Xc(a:Int)(l:aA):Bool:=decide (l.S*16=a)
def pC(l:aA)(a:Int)(b:0<=l.S/\l.S<=32):zzA 257 false [.val (some 3) (aA.enc .O l),.ptr [I a]] .one [B (Xc a l)]:=by
 refine fO 9 [] Tryz.func257 rfl ?_
 refine σP ?_
 exact bE ((by unfold Xc;rw[C9];simp))
def BZ(h:ac)(b:ac.sml h)(a:h.K≠[]):zzA 85 false [.val (some 24) (ac.enc .O h)] .agg (cE h (oS h) (oL h) (.s .own (h.K.map (aW.enc .own)))):=by
 have c:=ec h b
 rwa [show dv h=cE h (oS h) (oL h) (.s .own (h.K.map (aW.enc .own))) by unfold dv oO;rw[tg λe=>a (List.map_eq_nil_iff.1 e)]]at c
def HL(h:ac)(t a:Int)(b:ac.sml h)(d:dQ h=true)(e:h.G.Calls=100000):zzA 104 false [.val (some 24) (ac.enc .O h),.vI t,.vI a] (.tup [some 24,none]) (dv h++[I 6]):=by
 have c:=cR h b;rw[eR,d]at c;refine fP 163 [(255,[1,0,0]),(258,[1,0,0]),(259,[2,0]),(260,[2,0,0]),(113,[2,0,0])] [(20,12,[85,86,87,88,89,90,91,92,93,94,95,96]),(24,4,[111,112,113,114])] Tryz.func104 rfl ?_ (.inr (aE (cj _) ⟨tV1,tV1⟩))
 repeat'(first|refine gB ?_|refine CG (ec h b) ?_)
 rfl
def Fd(h:ac)(o:aW)(t:Nat)(R:ac.sml h)(e1:dQ h=true)(hc:h.G.Calls≠100000)(W:o∈h.K)(ht:o.p=t):zzA 104 false [.val (some 24) (ac.enc .O h),.vI (t:Nat),.vI o.Addr] (.tup [some 24,none]) (dv (freeOb h t (lf h o.Addr)).1++[I (freeOb h t (lf h o.Addr)).2]):=by
 have b:=bo.of e1;have S:=cR h R;rw[eR,e1]at S;obtain⟨p,F,G⟩:=b.objAt W;have q:=pO b W;have hon:=b.onu o W;have a:=b.lens;have hno:=a.objs;have hnl:=a.larges;have hlc:=a.caches;have H:t<h.Q.length:=ω
 have T:=aQ (t:Nat) 0 (h.Q.length - 1:Int);rw[O0 ω]at T;have J:=wq h o.Addr ω;rw[G]at J;have U:=BZ h R (ia p);generalize lf h o.Addr=i at p F J;subst F;have X:=au p;have Y:=n9 (nth h.K i).q;have C:=B0 h.K i p;have Z:=bq b.ker;have c6:=dl h.G.F.R ((nth h.K i).Addr / 16) Z.1.2;have K:dv h=cE h (oS h) (oL h) (.s .own (h.K.map (aW.enc .own))):=by unfold dv oO;rw[tg λe=>ia p (List.map_eq_nil_iff.1 e)]
 unfold freeOb;by_cases d:aZ (nth h.K i).q<0
 ·rw[CK d]
  obtain⟨l,hl,h1,-⟩:=(fA b (ay p)).1 d;obtain⟨r,ea,-,hfi⟩:=yn hl h1;have D:=ne h.H (Xc (nth h.K i).Addr) ω;rw[show cC (Xc (nth h.K i).Addr) h.H=(xf h (nth h.K i).Addr:Nat) by unfold cC Xc;rw[hfi]]at D;generalize xf h (nth h.K i).Addr=g at r ea D;have hf:=bj (b.L.lok _ (ay r));have hxl:=au r;have M:=ye h.H g r;have E:=ky {h with K:=dele h.K i,H:=dele h.H g} ⟨(nth h.H g).S,(nth h.H g).a0⟩ (nth h.H g).a0.toNat b.ker hc (by show h.a.length<=_;have:=a.free;omega) ⟨by show(nth h.H g).a0=_;omega,by show 0<=(nth h.H g).S;omega,by show(nth h.H g).S<=_;omega,ω⟩;have hg:dv {h with K:=dele h.K i,H:=dele h.H g} = cE h (oS h) (oE ((dele h.H g).map (aA.enc .own))) (oE ((dele h.K i).map (aW.enc .own))):=rfl;have u:oL h=.s .own (h.H.map (aA.enc .own)):=by unfold oL;rw[tg λe=>ia r (List.map_eq_nil_iff.1 e)]
  rw[u]at U;rw[hg]at E;have hpg:∀y∈h.H,0<=y.S/\y.S<=32:=λy w=>by have:=bj (b.L.lok y w);omega
  rcases sZ (rows:=(dele h.K i).map (aW.enc .own)) with e|⟨-,e⟩<;>rcases sZ (rows:=(dele h.H g).map (aA.enc .own)) with e'|⟨-,e'⟩
  all_goals
   rw[e]at C E;rw[e']at M E;refine fP 163 [(255,[1,0,0]),(258,[1,0,0]),(259,[2,0]),(260,[2,0,0]),(113,[2,0,0])] [(20,12,[85,86,87,88,89,90,91,92,93,94,95,96]),(24,4,[111,112,113,114])] Tryz.func104 rfl ?_ (.inr (aE (cj _) ⟨tV1,tV1⟩))
   repeat'(first|refine gB ?_|refine gS (λN=>?_) (λN=>?_)|refine Cq.mk (sQ (some 3) (aA.enc .O) (Xc (nth h.K i).Addr) h.H) (pC ⟨0,0,0⟩ (nth h.K i).Addr ⟨by decide,by decide⟩).has (λL k rcs hQ=>?_) ?_)
   ·obtain⟨y,w,rfl,rfl,rfl⟩:=hQ
    exact pC y _ (hpg y w)
   rfl
 rw[CJ d];obtain⟨s1,s2,s3,s4⟩:=ZN.of b (ay p) d;have hcz:=Ka s1;by_cases V:(ax (tbl h) ((nth h.K i).Addr / 16)).o=1
 ·rw[CK V]
  unfold tbl at V;have B:=cj h;simp only;rw[K]at B |-;rcases sZ (rows:=(dele h.K i).map (aW.enc .own)) with e|⟨-,e⟩
  all_goals
   rw[e]at C;refine fP 163 [(255,[1,0,0]),(258,[1,0,0]),(259,[2,0]),(260,[2,0,0]),(113,[2,0,0])] [(20,12,[85,86,87,88,89,90,91,92,93,94,95,96]),(24,4,[111,112,113,114])] Tryz.func104 rfl ?_ (.inr (aE B ⟨tV1,tV1⟩))
   repeat'(first|refine gB ?_|refine gS (λN=>?_) (λN=>?_)|refine CU qs ?_|refine CT (mi q) ?_)
   rfl
 rw[CJ V];unfold tbl at V;have B:gc h.G (nth h.K i).Addr<h.G.F.V.U.length:=by unfold gc;omega
 have j:=b.inQuar p d;have O:=dN (aZ (nth h.K i).q);rw[show csz (aZ (nth h.K i).q)=((csz (aZ (nth h.K i).q)).toNat:Nat) by omega]at O;have n:=b.nums;unfold cU at n;rw[C0]at n;have P:=(b.dropO p (kX.any (c:=aZ (nth h.K i).q) (by obtain⟨⟨s,R,k1,k2⟩,-⟩:=(fA b (ay p)).2 d;exact⟨s,R,k1,.inr k2⟩))).nd;rw[List.cons_append,List.nil_append]at P;have D:=Jf h.r (kN h (nth h.K i)) (by have:=a.quar;omega) b.quar ⟨s1.1,s1.2,q.1,n.2.2.1⟩ (λy w=>b.snc y w) (λy w e=>(List.nodup_cons.1 P).1 (by rw[show(nth h.K i).Addr=y.Addr from e.symm];unfold holders;simp only[v5];exact .inl (.inr (O8.2 ⟨y,w,rfl⟩))));unfold VG at D;have u:(y6 h.r (kN h (nth h.K i))).length<=513:=by have:=a.quar;unfold y6;rw[I3,I5];simp only[List.length_singleton];omega
 have hfq:Q2 h t i=recycs t (inQuar h i) ((y6 h.r (kN h (nth h.K i))).map (·.Addr)):=rfl;have hqc:(inQuar h i).G.Calls≠100000:=hc;rw[hfq];rcases sZ (rows:=(dele h.K i).map (aW.enc .own)) with e|⟨-,e⟩
 all_goals
  have hoo:oO (inQuar h i)=_:=e;rw[e]at C;have M:=mK h (oS h) (oL h) (oE ((dele h.K i).map (aW.enc .own))) (nth h.K i).Addr (csz (aZ (nth h.K i).q)).toNat b.ker q s2 ω s4;rw[e]at M;refine fP 163 [(255,[1,0,0]),(258,[1,0,0]),(259,[2,0]),(260,[2,0,0]),(113,[2,0,0])] [(20,12,[85,86,87,88,89,90,91,92,93,94,95,96]),(24,4,[111,112,113,114])] Tryz.func104 rfl ?_ (.inr (aE (cj _) ⟨tV1,tV1⟩))
  repeat'(first|refine gB ?_|refine gS (λN=>?_) (λN=>?_)|refine CU qs ?_|refine CT (mi q) ?_)
  generalize y6 h.r (kN h (nth h.K i))=out at j u
  (conv=>whnf)
  refine CV (ι:=Nat) (λk=>[(1,fN t),(6,.Y .box xv),(8,bX (dv (recycs t (inQuar h i) ((out.take k).map (·.Addr))))),(16,b8 (bJ .own out)),(151,.b5 16 0 [] none),(152,fI out.length),(153,fN k)]) (λk=>k<=out.length) (λk=>out.length - k) (0) ?_ (I1 _) λk hk=>?_
  ·exact wE
  by_cases r:k<out.length
  ·have Q:=au r
   have hsp:out.map (·.Addr)=(out.take k).map (·.Addr)++(nth out k).Addr::(out.drop (k+1)).map (·.Addr):=by
    conv=>lhs;rw[<-List.take_append_drop k out,hB r]
    simp
   have hik:bo (recycs t (inQuar h i) ((out.take k).map (·.Addr))) ((nth out k).Addr::(out.drop (k+1)).map (·.Addr)):=bo.recycs (by rw[<-hsp];exact j) H;have E:=xk _ _ t _ hik (by rw[(gJ t _ _).1];exact H) (by rw[(gJ t _ _).2.2.1];exact hqc)
   refine σE ?_
   (refine CQ (k+1) ω ω ?_)
   rw[zM t _ out k r];exact wC
  obtain rfl:k=out.length:=ω
  rw[S9]
  refine σE ?_
  rfl
def hC(m:aJ)(k:Int)(a:aJ.sml m):zzA 269 false [.val (some 2) (aJ.enc .O m),.vI k] .one [B (decide (0<=k/\k<=m.T.length - 1)&&bN m)]:=by
 have b:=pH m a;have g:m.T.length<=1048576:=a.1.1;have c:=aQ k 0 (m.T.length - 1:Int);cases e:bN m<;>rw[e]at b<;>cases d:decide (0<=k/\k<=(m.T.length:Int) - 1)<;>rw[d]at c
 all_goals
  refine fO 15 [] Tryz.func269 rfl ?_
  refine σP ?_
  rfl
def Ub(m:aJ)(f:Nat)(p:aV)(k:bN m=true)(d:f<m.T.length):zzA 261 false [.val (some 2) (aJ.enc .O m),.vI (f:Nat),.val (some 2) (aV.enc .O p)] (.tup [some 2,none]) (aJ.enc .own (if bN (gI m f p)=true then gI m f p else m)++[B (bN (gI m f p))]):=by
 have c:=iK.of k;have l:=c.sml;have q:=c.b4;have g:=hC m f l;rw[k,O0 ω]at g;have n:=gQ m l;have h:=Hx c d p;have i:=pH (gI m f p) h;have a:=TC d;have o:=c.bl f d;have j:=Cv (gI m f p);have b:=Cr (gI m f p);rw[y4]at j b;cases e:bN (gI m f p)<;>rw[e]at i
 ·rw[CJ (by simp)]
  refine fO 35 [(4,267,[17,18,19,20,21,22,23,24,25,26,28,0,1,2,3,4,5,6,7,8,9,10,1000,1001,1002,11,12])] Tryz.func261 rfl ?_ (.inr (aE (Cr _) ⟨tV1,tV1⟩))
  repeat'(first|refine gP ?_|refine CI (bZ a) ?_|refine CM rfl (bZ a) rfl ?_|refine Cj rfl rfl (aa a) rfl (O2 rfl) rfl rfl ?_|refine CR rfl rfl (bZ a) rfl (O2 rfl) (show [C.s eS.own ((m.T.map (bf .own)).set f (bf .own (nth m.T f++[p]))),C.s .own (m.e.map (aI .own))]=_ from by simp only[List.set_cons_zero,List.set_set,O4];rfl) ?_|refine Cf (aR λ_=>rfl) rfl kd qs (eL _ _ _) ?_|refine CN (i) ⟨⟨rfl,j⟩,tV1⟩ ?_)
  rfl
 rw[CK rfl,y4];refine fO 35 [(4,267,[17,18,19,20,21,22,23,24,25,26,28,0,1,2,3,4,5,6,7,8,9,10,1000,1001,1002,11,12])] Tryz.func261 rfl ?_ (.inr (aE b ⟨tV1,tV1⟩))
 repeat'(first|refine gP ?_|refine CI (bZ a) ?_|refine CM rfl (bZ a) rfl ?_|refine Cj rfl rfl (aa a) rfl (O2 rfl) rfl rfl ?_|refine CR rfl rfl (bZ a) rfl (O2 rfl) (show [C.s eS.own ((m.T.map (bf .own)).set f (bf .own (nth m.T f++[p]))),C.s .own (m.e.map (aI .own))]=_ from by simp only[List.set_cons_zero,List.set_set,O4];rfl) ?_|refine Cf (aR λ_=>rfl) rfl kd qs (eL _ _ _) ?_|refine CN (i) ⟨⟨rfl,j⟩,tV1⟩ ?_)
 rfl
def JX(h:ac)(o:aW)(t:Nat)(R:ac.sml h)(M:dQ h=true)(hc:h.G.Calls≠100000)(E:o∈h.K)(S:t<h.Q.length):zzA 104 false [.val (some 24) (ac.enc .O h),.vI (t:Nat),.vI o.Addr] (.tup [some 24,none]) (dv (freeT h t (lf h o.Addr)).1++[I (freeT h t (lf h o.Addr)).2]):=by
 by_cases T:o.p=t
 ·have hh:=Fd h o t R M hc E T
  rwa [<-zh (by obtain⟨-,d,-⟩:=(bo.of M).objAt E;rw[d];exact T)]at hh
 have b:=bo.of M;have F:=cR h R;rw[eR,M]at F;obtain⟨r,d,G⟩:=b.objAt E;have j:=pO b E;have hon:=b.onu o E;have a:=b.lens;have hno:=a.objs;have hnl:=a.larges;have hlc:=a.caches;have H:=aQ (t:Nat) 0 (h.Q.length - 1:Int);rw[O0 ω]at H;have C:=wq h o.Addr ω;rw[G]at C;have J:=BZ h R (ia r);generalize lf h o.Addr=i at r d C;subst d;have N:=au r;have O:=n9 (nth h.K i).q;have u:=B0 h.K i r;have U:=bq b.ker;have V:=dl h.G.F.R ((nth h.K i).Addr / 16) U.1.2;have p:dv h=cE h (oS h) (oL h) (.s .own (h.K.map (aW.enc .own))):=by unfold dv oO;rw[tg λe=>ia r (List.map_eq_nil_iff.1 e)]
 unfold freeT;by_cases n:aZ (nth h.K i).q<0
 ·rw[CK n]
  obtain⟨l,hl,h1,-⟩:=(fA b (ay r)).1 n;obtain⟨K,ea,-,W⟩:=yn hl h1;have X:=ne h.H (Xc (nth h.K i).Addr) ω;rw[show cC (Xc (nth h.K i).Addr) h.H=(xf h (nth h.K i).Addr:Nat) by unfold cC Xc;rw[W]]at X;generalize xf h (nth h.K i).Addr=g at K ea X;have hf:=bj (b.L.lok _ (ay K));have Y:=au K;have D:=ye h.H g K;have P:=ky {h with K:=dele h.K i,H:=dele h.H g} ⟨(nth h.H g).S,(nth h.H g).a0⟩ (nth h.H g).a0.toNat b.ker hc (by show h.a.length<=_;have:=a.free;omega) ⟨by show(nth h.H g).a0=_;omega,by show 0<=(nth h.H g).S;omega,by show(nth h.H g).S<=_;omega,ω⟩;have hg:dv {h with K:=dele h.K i,H:=dele h.H g} = cE h (oS h) (oE ((dele h.H g).map (aA.enc .own))) (oE ((dele h.K i).map (aW.enc .own))):=rfl;have Z:oL h=.s .own (h.H.map (aA.enc .own)):=by unfold oL;rw[tg λe=>ia K (List.map_eq_nil_iff.1 e)]
  rw[Z]at J;rw[hg]at P;have hpg:∀y∈h.H,0<=y.S/\y.S<=32:=λy hy=>by have:=bj (b.L.lok y hy);omega
  rcases sZ (rows:=(dele h.K i).map (aW.enc .own)) with e|⟨-,e⟩<;>rcases sZ (rows:=(dele h.H g).map (aA.enc .own)) with e'|⟨-,e'⟩
  all_goals
   rw[e]at u P;rw[e']at D P;refine fP 163 [(255,[1,0,0]),(258,[1,0,0]),(259,[2,0]),(260,[2,0,0]),(113,[2,0,0])] [(20,12,[85,86,87,88,89,90,91,92,93,94,95,96]),(24,4,[111,112,113,114])] Tryz.func104 rfl ?_ (.inr (aE (cj _) ⟨tV1,tV1⟩))
   repeat'(first|refine gB ?_|refine gS (λw=>?_) (λw=>?_)|refine Cq.mk (sQ (some 3) (aA.enc .O) (Xc (nth h.K i).Addr) h.H) (pC ⟨0,0,0⟩ (nth h.K i).Addr ⟨by decide,by decide⟩).has (λL k rcs hQ=>?_) ?_)
   ·obtain⟨y,hy,rfl,rfl,rfl⟩:=hQ
    exact pC y _ (hpg y hy)
   rfl
 rw[CJ n];obtain⟨s1,s2,s3,s4⟩:=ZN.of b (ay r) n;have hcz:=Ka s1;by_cases Q:(ax (tbl h) ((nth h.K i).Addr / 16)).o=1
 ·rw[CK Q]
  unfold tbl at Q;have c:=cj h;simp only;rw[p]at c |-;rcases sZ (rows:=(dele h.K i).map (aW.enc .own)) with e|⟨-,e⟩
  all_goals
   rw[e]at u;refine fP 163 [(255,[1,0,0]),(258,[1,0,0]),(259,[2,0]),(260,[2,0,0]),(113,[2,0,0])] [(20,12,[85,86,87,88,89,90,91,92,93,94,95,96]),(24,4,[111,112,113,114])] Tryz.func104 rfl ?_ (.inr (aE c ⟨tV1,tV1⟩))
   repeat'(first|refine gB ?_|refine gS (λw=>?_) (λw=>?_)|refine CU qs ?_|refine CT (mi j) ?_)
   rfl
 rw[CJ Q,CJ T];unfold tbl at Q;have c:=cj h;have q:=cj (H4 h t i);have B:=dN (aZ (nth h.K i).q);rw[show csz (aZ (nth h.K i).q)=((csz (aZ (nth h.K i).q)).toNat:Nat) by omega]at B;have cS:=Ub h.b t ⟨(nth h.K i).p,(nth h.K i).Addr⟩ b.mail (by rw[<-b.nc];exact S);rcases sZ (rows:=(dele h.K i).map (aW.enc .own)) with e|⟨-,e⟩
 all_goals
  have hoo:oO (H4 h t i)=_:=e;rw[e]at u;have D:=mK h (oS h) (oL h) (oE ((dele h.K i).map (aW.enc .own))) (nth h.K i).Addr (csz (aZ (nth h.K i).q)).toNat b.ker j s2 ω s4;rw[e]at D;cases em:bN (gI h.b t ⟨(nth h.K i).p,(nth h.K i).Addr⟩)<;>rw[em]at cS
  ·rw[CJ (by simp)]at cS |-
   simp only;rw[p]at c |-;refine fP 163 [(255,[1,0,0]),(258,[1,0,0]),(259,[2,0]),(260,[2,0,0]),(113,[2,0,0])] [(20,12,[85,86,87,88,89,90,91,92,93,94,95,96]),(24,4,[111,112,113,114])] Tryz.func104 rfl ?_ (.inr (aE c ⟨tV1,tV1⟩))
   repeat'(first|refine gB ?_|refine gS (λw=>?_) (λw=>?_)|refine CU qs ?_|refine CT (mi j) ?_)
   rfl
  rw[CK rfl]at cS |-;simp only;have he:dv (H4 h t i)=cE (H4 h t i) (oS h) (oL h) (oE ((dele h.K i).map (aW.enc .own))):=rfl;rw[he,e]at q |-;refine fP 163 [(255,[1,0,0]),(258,[1,0,0]),(259,[2,0]),(260,[2,0,0]),(113,[2,0,0])] [(20,12,[85,86,87,88,89,90,91,92,93,94,95,96]),(24,4,[111,112,113,114])] Tryz.func104 rfl ?_ (.inr (aE q ⟨tV1,tV1⟩))
  repeat'(first|refine gB ?_|refine gS (λw=>?_) (λw=>?_)|refine CU qs ?_|refine CT (mi j) ?_)
  rfl
def Yp{j:Nat}{r':List C}(h:du r=du r'):fz (.s .own (rows.set j r))=fz (.s .own (rows.set j r')):=by
 simp only[X0,IC];rw[<-cf,<-cf,h]
def lH(b:Bool):zzA 27 false [.val none [B b]] .one [I (if b=true then 0 else 90)]:=by
 cases b
 all_goals
  refine fO 4 [] Tryz.func27 rfl ?_
  refine σP ?_
  rfl
def XV(m:aJ)(f:Nat)(i:bN m=true)(k:f<m.T.length):zzA 110 true [.val (some 2) (aJ.enc .O m),.vI (f:Nat)] (.tup [some 2,none]) (aJ.enc .O (if 0<(nth m.T f).length then fj m f else m)++[B (decide (0<(nth m.T f).length))]):=by
 have d:=iK.of i;have E:=d.sml;have M:=d.b4;have H:=d.i4;have l:=hC m f E;rw[i,O0 ω]at l;have F:=gQ m E;have a:=TC k;have J:=d.bl f k;by_cases e:0<(nth m.T f).length
 ·rw[CK e,O0 e]
  have g:=((eG.1 i).2.1 f k).1 _ (ay e);obtain⟨t,n⟩:=t5 g.1;have q:t<m.e.length:=ω
  have u:=au e;have b:=au q;have K:=d.il t ω;have w:=Cv (fj m f);rw[D0 m f t n]at w;generalize N:nth (nth m.T f) 0=p at *;obtain⟨O,G⟩:=p;simp only at n g w;subst n;have L:zzA 217 false [.val (some 2) (aJ.enc .O m)] .agg [.s .own ((m.T.map (bf .own)).set f (bf .O (nth m.T f))),.s .own (m.e.map (aI .own))]:=by
   have h:=F.fzAt (off:=0) (o:=.own) (rows:=m.T.map (bf .own)) rfl (by simp) (j:=f) (aa a);rw[rR]at h;exact h
  have y:((m.T.map (bf .own)).set f (bf .O (nth m.T f)))[f]? = some (bf .O (nth m.T f)):=I6 (by rw[I2];omega);have key:zzA 110 true [.val (some 2) (aJ.enc .O m),.vI (f:Nat)] (.tup [some 2,none]) ([.s .own ((m.T.map (bf .own)).set f [.s .O (((nth m.T f).drop 1).map (aV.enc .O))]),.s .own ((m.e.map (aI .own)).set t (aI .own (nth m.e t++[G])))]++[B true]):=by
   refine fO 57 [(5,9,[31,32,33,34,35,36,37,38,39]),(6,270,[41,42,43,44,45,46,47,48,49,50,51,52,53,55,0,1,2,3,4,5,6,7,8,9,10,11,12,13,1000,1001,1002,1003,14,15])] Tryz.func110 rfl ?_ (.inl rfl)
   repeat'(first|refine gB ?_|refine gS (λD=>?_) (λD=>?_)|refine CS qs (aa u) ?_|refine CI y ?_|refine CI (bZ b) ?_|refine CM rfl y rfl ?_|refine CM rfl (bZ b) rfl ?_|refine Rw.two rfl (aa a) rfl rfl (aa u) rfl ?_|refine Cj rfl rfl (aa b) rfl (O2 rfl) rfl rfl ?_|refine Ci 1 rfl (by rw[I2];omega) (aR λ_=>rfl) I8 ?_|refine CR rfl rfl y rfl (O2 rfl) (show [C.s eS.own ((m.T.map (bf .own)).set f [.s .O (((nth m.T f).drop 1).map (aV.enc .O))]),C.s .own (m.e.map (aI .own))]=_ from by simp only[List.set_cons_zero,List.set_set,O4];rfl) ?_|refine CR rfl rfl (bZ b) rfl (O2 rfl) (show [C.s eS.own ((m.T.map (bf .own)).set f [.s .O (((nth m.T f).drop 1).map (aV.enc .O))]),C.s .own ((m.e.map (aI .own)).set t (aI .own (nth m.e t++[G])))]=_ from by simp only[List.set_cons_zero,List.set_cons_succ,List.set_set,O4];rfl) ?_|refine Cf (aR λ_=>rfl) rfl kd qs (eL _ _ _) ?_)
   rfl
  have c:=key.fzR;change ah _ _ _ _ _ [fz (.s .own _),fz (.s .own _),fz (B true)]at c;rw[Yp (r:=[.s .O (((nth m.T f).drop 1).map (aV.enc .O))]) (r':=[.s .own (((nth m.T f).drop 1).map (aV.enc .O))]) rfl]at c;rw[<-w];exact c
 rw[CJ e,C1 e];have key:zzA 110 true [.val (some 2) (aJ.enc .O m),.vI (f:Nat)] (.tup [some 2,none]) (aJ.enc .own m++[B false]):=by
  refine fO 57 [(5,9,[31,32,33,34,35,36,37,38,39]),(6,270,[41,42,43,44,45,46,47,48,49,50,51,52,53,55,0,1,2,3,4,5,6,7,8,9,10,11,12,13,1000,1001,1002,1003,14,15])] Tryz.func110 rfl ?_ (.inl rfl)
  repeat'(first|refine gB ?_|refine gS (λD=>?_) (λD=>?_)|fail)
  rfl
 have c:=key.fzR;rw[gm,Cv]at c;exact c
def JL(m:aJ)(t:Nat)(d:bN m=true)(h:t<m.T.length):zzA 112 false [.val (some 2) (aJ.enc .O m),.vI (t:Nat)] (.tup [some 2,none]) (aJ.enc .own (km m t)++aI .own (nth m.e t)):=by
 have b:=iK.of d;have e:=b.sml;have p:=b.b4;have j:=b.i4;have g:=hC m t e;rw[d,O0 ω]at g;have k:=gQ m e;have c:=au (xs:=m.e) (i:=t) ω;have l:=b.il t h;have n:=gi (nth m.e t) ω;have a:=aE (Cr (km m t)) (bO (nth m.e t));have o:aJ.enc .own (km m t)=[.s .own (m.T.map (bf .own)),.s .own ((m.e.map (aI .own)).set t [.s .own []])]:=by simp[aJ.enc,km,IC];rfl
 rw[o]at a |-;refine fO 25 [(5,7,[18,19,20,21,22,23,24])] Tryz.func112 rfl ?_ (.inr a)
 repeat'((conv=>whnf);first|with_reducible (first|refine Lm ?_|refine Wm ω ?_|refine CI (aa c) ?_|refine Bn ?_|refine pU.dk rfl ?_)|refine Bt ?_|refine Bu ?_|refine CH ?_|refine CG (g) ?_|refine CG (k) ?_|refine CG (n) ?_|refine CM rfl (aa c) rfl ?_|refine CR rfl rfl (aa c) rfl (O2 rfl) rfl ?_|refine CH ?_)
 exact .cons (.rfl_ _) (.cons (Ve.set _ _ (.cons .z_ .nil)) (.cons (.rfl_ _) .nil))
def qN(h:ac)(t:Int)(l:ac.sml h)(a:bo h []):zzA 28 false [.val (some 24) (ac.enc .O h),.vI t] (.tup [some 24,none]) (dv (if h.G.Calls≠100000/\0<=t/\t<=h.Q.length - 1 then collect h t.toNat else h)++[I (if h.G.Calls≠100000/\0<=t/\t<=h.Q.length - 1 then((nth h.b.e t.toNat).length:Nat) else 0)]):=by
 have r:=a.nc;have u:=(eG.1 a.mail).1.2.2;have n:=ec h l;have b:=rk h t l;rw[a.to]at b;by_cases e:h.G.Calls≠100000/\0<=t/\t<=h.Q.length - 1;rotate_left
 ·rw[CJ e,CJ e]
  rw[show(decide (0<=t/\t<=h.Q.length - 1)&&decide (h.G.Calls≠100000)&&true)=false by
    rw[Bool.and_true,<-OA,I0,C0,C0];exact λx=>e ⟨x.2,x.1⟩]at b
  refine fP 40 [(113,[2,0,0])] [] Tryz.func28 rfl ?_ (.inr (aE (cj _) ⟨tV1,tV1⟩))
  refine σP ?_
  rfl
 rw[CK e,CK e];obtain⟨o,p⟩:=e;rw[show(decide (0<=t/\t<=h.Q.length - 1)&&decide (h.G.Calls≠100000)&&true)=true by
   rw[Bool.and_true,I0,C0,C0];exact⟨p,o⟩]at b
 obtain⟨T,rfl⟩:=t5 p.1;simp only[O4];have q:=JL h.b T a.mail ω;have d:=(iK.of a.mail).il T ω;have g:=a.coll (t:=T) ω;rw[List.append_nil]at g;unfold collect;generalize nth h.b.e T=out at q g d |-;refine fP 40 [(113,[2,0,0])] [] Tryz.func28 rfl ?_ (.inr (aE (cj _) ⟨tV1,tV1⟩))
 refine σP ?_
 refine lp0 out.length (λk=>[(1,fN T),(4,.Y .box xv),(6,bX (dv (recycs T {h with b:=km h.b T} (out.take k)))),(8,b8 (aI .own out)),(27,.b5 8 0 [] none),(28,fI out.length),(29,fN k)]) λk y=>?_
 by_cases i:k<out.length
 ·have c:=au i
  have j:bo (recycs T {h with b:=km h.b T} (out.take k)) (nth out k::out.drop (k+1)):=by
   refine bo.recycs ?_ (by show T<h.Q.length;omega);rw[<-hB i,List.take_append_drop];exact g
  have w:=xk _ _ T _ j (by rw[(gJ T _ _).1];show T<h.Q.length;omega) (by rw[(gJ T _ _).2.2.1];exact o)
  refine σE ?_
  (refine CQ (k+1) ω ω ?_)
  rw[An _ _ _ _ i];exact wC
 obtain rfl:k=out.length:=ω
 rw[S9]
 refine σE ?_
 rfl
def mod1(k:af)(q:Nat):Prop:=(nth k.F.R.M q).o=1
def K1(k a:af):Prop:=∀q,mod1 a q->mod1 k q
structure S1(h g:ac):Prop where
 k:K1 h.G g.G
 m:g.w=h.w
 j:g.a2=h.a2
def Lk(h:ac)(a:Int):Int:=cC (xx a) h.K
def XF(e:0<=Lk h a):(Lk h a).toNat<h.K.length/\(nth h.K (Lk h a).toNat).Addr<=a/\a<(nth h.K (Lk h a).toNat).Addr+(nth h.K (Lk h a).toNat).q:=by
 obtain⟨b,c,-⟩:=fJ (xx a) h.K e;exact⟨b,of_decide_eq_true c⟩
def Am(o:aW)(a:Int)(c:0<=o.q/\o.q<=1000/\0<=o.Addr/\o.Addr<=1000):zzA 452 false [.val (some 4) (aW.enc .O o),.ptr [I a]] .one [B (xx a o)]:=by
 have b:=aQ a o.Addr (o.Addr+o.q - 1);refine fO 14 [] Tryz.func452 rfl ?_
 refine σP ?_
 exact bE ((by unfold xx;exact decide_eq_decide.2 ω))
def FS(h:ac)(a:Int)(e:h.K.length<=1048576)(b:∀o∈h.K,0<=o.q/\o.q<=1000/\0<=o.Addr/\o.Addr<=1000):zzA 387 false [.val (some 24) (ac.enc .O h),.vI a] .one [I (Lk h a)]:=by
 refine fO 9 [] Tryz.func387 rfl ?_
 repeat'(first|refine gP ?_|refine Cq.mk (sQ (some 4) (aW.enc .O) (xx a) h.K) (Am ⟨0,0,0,0⟩ a qs).has (λL k rcs c=>?_) ?_|refine CG (lS h.K (xx a) ω) ?_)
 ·obtain⟨y,d,rfl,rfl,rfl⟩:=c
  exact Am y a (b y d)
 rfl
def v8(h:ac)(a:Int)(e:ac.sml h)(b:bo h []):zzA 265 false [.val (some 24) (ac.enc .O h),.vI a] .one [I (Lk h a)]:=by
 have c:=cR h e;rw[eR,b.to]at c;have g:=b.lens.objs;have i:=FS h a ω (λo d=>by
   have j:=b.objSz o d;have k:=pO b d;omega)
 refine fO 11 [] Tryz.func265 rfl ?_
 refine σP ?_
 rfl
def Ra(b:bo h [])(e:0<=Lk h a):(ax (tbl h) (a / 16)).o≠0/\0<=a/\a<512:=by
 obtain⟨c,d,f⟩:=XF e;have:=lI b (ay c) (k:=a - (nth h.K (Lk h a).toNat).Addr) ω;rw[show(nth h.K (Lk h a).toNat).Addr+(a - (nth h.K (Lk h a).toNat).Addr)=a by omega]at this;exact⟨this.1,ω,ω⟩
def HV(h:ac)(a v:Int):ac × Int:=if Lk h a<0 then(h,1) else if(ax (tbl h) (a / 16)).o=1 then(h,2) else({h with G:=jt h.G a v},0)
def Et(h:ac)(a v:Int)(l:ac.sml h)(b:bo h [])(o:0<=v/\v<=999):zzA 106 false [.val (some 24) (ac.enc .O h),.vI a,.vI v] (.tup [some 24,none]) (dv (HV h a v).1++[I (HV h a v).2]):=by
 have i:=ec h l;have j:=v8 h a l b;unfold HV;by_cases e:Lk h a<0
 ·rw[CK e]
  refine fO 38 [] Tryz.func106 rfl ?_ (.inr (aE (cj _) ⟨tV1,tV1⟩))
  repeat'(first|refine gE ?_|refine gS (λd=>?_) (λd=>?_)|fail)
  rfl
 rw[CJ e];obtain⟨n,p⟩:=Ra b (show 0<=Lk h a by omega);have k:=bq b.ker;obtain⟨-,-,-,q,u⟩:=bV b.ker n;have r:=(bk.1 (aM.1 b.ker).2.1).2.2.1;have c:=Bv h.G.F a v (jr b.ker) k.1 p o (λ_=>⟨q,ω,b.lens.row _ (ay ω)⟩);unfold jb at c;rw[CJ (show ¬(ax h.G.F.R (a / 16)).o=0 from n)]at c;by_cases g:(ax h.G.F.R (a / 16)).o=1
 ·rw[CK g]at c
  rw[CK (show(ax (tbl h) (a / 16)).o=1 from g)];refine fO 38 [] Tryz.func106 rfl ?_ (.inr (aE (cj _) ⟨tV1,tV1⟩))
  repeat'(first|refine gB ?_|refine gS (λd=>?_) (λd=>?_)|fail)
  rfl
 rw[CJ g]at c;rw[CJ (show ¬(ax (tbl h) (a / 16)).o=1 from g)];have t:dv {h with G:=jt h.G a v} = (dv h).set 0 (.s .own ((jt h.G a v).F.V.U.map (aI .own))):=rfl;refine fO 38 [] Tryz.func106 rfl ?_ (.inr (aE (cj _) ⟨tV1,tV1⟩))
 repeat'(first|refine gB ?_|refine gS (λd=>?_) (λd=>?_)|fail)
 rfl
end Go.Proofs.YtcblmfpcekokjaaGreat.Ab
