/- A job brought to its end, and one job after another: the data. No condition. -/
import Derived.Test.YtiopgblagimpmaaGreatKAc
import Derived.Test.YtiopgblagimpmaaGreatKAf
import Derived.Test.YtiopgblagimpmaaGreatKAg
import Derived.Test.YtiopgblagimpmaaGreatKAe
import Derived.Test.YtiopgblagimpmaaGreatKAd
set_option linter.unusedVariables false
set_option linter.defProp false
set_option linter.unusedSimpArgs false
set_option linter.constructorNameAsVariable false
namespace Go.Proofs.YtiopgblagimpmaaGreat.Ab
def GG{k:ah}(h:aJ k=true)(b:gr k.d):ah.wf k:=by
 obtain⟨p,f,g,q,t⟩:=aH.1 h;obtain⟨u,w,y,A⟩:=aY.1 f;obtain⟨i,B,C⟩:=bq.1 g;refine⟨⟨⟨⟨ω,λr b=>?_⟩,⟨ω,λ_ _=>trivial⟩⟩,⟨ω,λe l=>?_⟩⟩,⟨ω,ω⟩,b⟩
 ·obtain⟨j,c,rfl⟩:=bu b
  obtain⟨D,n⟩:=EN h c;exact⟨ω,λv o=>by have:=n v o;exact⟨ω,ω⟩⟩
 obtain⟨j,c,rfl⟩:=bu l;have a:=i j c;unfold mt at a;rw[C0]at a;by_cases d:(nth k.F.Q.O j).k=0
 ·have:=a.2.2.1 d;exact⟨⟨ω,ω⟩,⟨ω,ω⟩⟩
 have:=a.2.2.2 d;exact⟨⟨ω,ω⟩,⟨ω,ω⟩⟩
def Lx{p:cf}(h:fH p=true):cf.wf p:=by
 have a:=λi b=>jM h (i:=i) b
 have e:p.W.length<=16:=lW h;unfold fH at h;simp only[I0,C0]at h;exact⟨⟨ω,ω⟩,⟨ω,ω⟩,⟨ω,λv c=>by
   obtain⟨j,d,rfl⟩:=bu c;have:=a j d;exact⟨ω,ω⟩⟩⟩
variable{E:List Int}{h:ac}
def bg.jobWf(a:bg h E):cz.wf h.a5/\cz.sml h.a5:=by
 cases b:h.a2 with
 | true=>
  obtain⟨c,f,g,i,j⟩:=fV.1 (a.job b).1;have k:=lW c;exact⟨⟨Lx c,⟨ω,ω⟩,⟨ω,ω⟩⟩,by show h.a5.b.W.length<=1048576;omega⟩
 | false=>
  have:=a.noj b;unfold u6 at this;rw[C0]at this;obtain⟨l,n,e,o,p⟩:=this;refine⟨⟨⟨⟨ω,ω⟩,⟨ω,ω⟩,⟨ω,λv d=>?_⟩⟩,⟨ω,ω⟩,⟨ω,ω⟩⟩,by show h.a5.b.W.length<=1048576;omega⟩;rw[X7 e]at d;cases d
def zY{n:Int}(h:0<=aS n):1<=n/\n<=8:=by
 unfold aS at h
 repeat' split at h
 all_goals omega
variable{a:Int}
def jz.wf(b:bg h E){c:Int}(d:jz h.K a c):kV a:=by
 have:=d.bd b;exact⟨ω,ω⟩
def bg.wf(d:bg h E)(M:gr h.H.d):ac.wf h:=by
 have q:=d.lens;have r:=d.L;have D:=d.nums;unfold cg at D;rw[C0]at D;obtain⟨X,N,Y⟩:=gf.1 d.rng;obtain⟨O,-,-,Z,q5,-⟩:=iz.1 d.quar;have w:=d.mail;have k:=d.hfl;unfold aU at k;rw[CC w]at k;unfold bB at w;simp only[I0,C0,cx,gY,C4,nZ,Ru]at w;obtain⟨⟨⟨m1,m2,m3⟩,P⟩,m5⟩:=w;have A:=q.free;have Q:=q.spans;have h3:=q.larges;have h4:=q.objs;have h5:=q.caches;have h6:=q.quar;have t:∀n:Nat,bI h.j n<=bI h.j (n+1):=λn=>by simp only[bI];omega
 have g:∀a b:Nat,a<=b->bI h.j a<=bI h.j b:=λa b u=>by
  induction u with
  | refl=>exact C5 _
  | step _ R=>exact Int.le_trans R (t _)
 have B:∀n:Nat,0<=bI h.j n:=λn=>g 0 n (X0 _)
 have o:∀i,i<h.j.U.length->(nth h.j.U i).length<=30/\(nth h.j.g i).length<=30:=λi f=>by
  have F:=g (i+1) h.j.U.length ω;have S:=B i;simp only[bI]at F;omega
 refine⟨GG d.ker M,⟨ω,λx e=>?_⟩,⟨ω,λx e=>?_⟩,⟨ω,λx e=>?_⟩,⟨ω,λx e=>?_⟩,⟨ω,λx e=>?_⟩,⟨⟨ω,λl c=>?_⟩,⟨ω,λl c=>?_⟩⟩,⟨⟨ω,ω⟩,⟨ω,λx e=>?_⟩⟩,⟨ω,ω⟩,⟨ω,ω⟩,⟨ω,ω⟩,⟨ω,ω⟩,trivial,d.jobWf.1⟩
 ·have:=N x e;exact⟨⟨ω,ω⟩,⟨ω,ω⟩⟩
 ·have y:=r.sok x e
  have G:=ec y;have T:=aL y;exact⟨⟨ω,ω⟩,⟨ω,ω⟩,⟨ω,ω⟩⟩
 ·have H:=aX (r.lok x e)
  have J:=cF (r.lok x e);exact⟨⟨ω,ω⟩,⟨ω,ω⟩,⟨ω,ω⟩⟩
 ·obtain⟨o1,o2,o3,o4⟩:=d.onu x e
  have u:0<=x.Addr/\x.Addr<512/\-1000<=x.a1/\x.a1<=1000:=by
   rcases d.oow x e with⟨s,y,A,Q⟩|⟨l,c,F,S⟩
   ·have T:=aL (r.sok s y)
    have:=zY (n:=x.a1) ω;exact⟨by have:=A.1;omega,by have:=A.2.1;omega,ω,ω⟩
   have H:=aX (r.lok l c);have J:=cF (r.lok l c);omega
  exact⟨⟨ω,ω⟩,⟨ω,ω⟩,⟨ω,ω⟩,⟨ω,ω⟩⟩
 ·obtain⟨c1,U⟩:=q.lists x e
  refine⟨ω,λl c=>⟨by have:=U l c;omega,λa C=>?_⟩⟩;obtain⟨j,V,rfl⟩:=bu c;exact jz.wf d (d.hca x e j V a C)
 ·obtain⟨i,f,rfl⟩:=bu c
  have G:=o i f;refine⟨ω,λp K=>?_⟩;have W:=(P i f).1 p K;exact⟨⟨ω,ω⟩,jz.wf d (k p.Addr (O3.2 (.inl (List.mem_flatMap.2 ⟨_,au f,W4.2 ⟨p,K,rfl⟩⟩))))⟩
 ·obtain⟨i,f,rfl⟩:=bu c
  have G:=o i ω;exact⟨ω,λa C=>jz.wf d (k a (O3.2 (.inr (List.mem_flatten.2 ⟨_,au f,C⟩))))⟩
 have H:=O x e;have J:=d.snc x e;exact⟨jz.wf d (d.hqu x e),⟨ω,ω⟩,⟨ω,ω⟩⟩
structure Vh(h:ac):Prop where
 ker:aJ h.H=true
 wf:ac.wf h
 sml:ac.sml h
 lens:ri h
def bg.fit(a:bg h E)(b:gr h.H.d)(c:aN.sml h.j):Vh h:=⟨a.ker,a.wf b,a.lens.sml a.ker c a.jobWf.2,a.lens⟩
def Jp(b:bg h [])(c:h.a2=true):aJ (mStep h).H=true/\(mStep h).H.Calls<=h.H.Calls+1/\(mStep h).H.d=h.H.d/\(mStep h).j=h.j/\(Gu h=true->(mStep h).a2=false)/\cz.wf (mStep h).a5/\cz.sml (mStep h).a5:=by
 have s:=JS.of b c;refine⟨s.ker,s.calls.2.1,s.calls.2.2,rfl,λa=>?_,?_⟩
 ·unfold Gu at a
  rw[C0]at a;show(if over _=true then false else h.a2)=false;rw[CC (show over (gj h.H h.a5).2=true from O0 (.inl a))]
 show cz.wf (if over _=true then _ else _)/\cz.sml (if over _=true then _ else _);split
 ·exact⟨⟨⟨⟨by decide,by decide⟩,⟨by decide,by decide⟩,⟨by decide,λv f=>by cases f⟩⟩,⟨by decide,by decide⟩,⟨by decide,by decide⟩⟩,by show(0:Nat)<=1048576;omega⟩
 have d:=(fV.1 (b.job c).1).1;have g:=lW d;obtain⟨j,k⟩:=s.ph;obtain⟨l,i⟩:=s.nxt;have e:=s.plan;refine⟨⟨by rw[e];exact Lx d,⟨ω,ω⟩,⟨ω,by rw[e]at i;omega⟩⟩,by show((gj h.H h.a5).2.b.W).length<=1048576;rw[e];omega⟩
def A7(h:ac):Nat->ac × Bool
 | 0=>(h,false)
 | i+1=>if(A7 h i).1.a2=true then(mStep (A7 h i).1,Gu (A7 h i).1) else A7 h i
def fin(h:ac):ac × Bool:=A7 h 100
def GS(hi:bg h []):bg (started h).1 []/\(started h).1.H=h.H/\(started h).1.j=h.j:=by
 have r:=hi.nums;unfold cg at r;rw[C0]at r;have t:=(kh (b9 h).length (show 0<=h.b5/\h.b5<=1073741823 by omega) ((b9 h).length - 1)).2;have g:=oy (b9 h) (show 0<=h.b5/\h.b5<=1073741823 by omega);have c:cg {h with b5:=(shuf (b9 h).length h.b5).2} = true:=by
  unfold cg;rw[C0];unfold shuf;simp only;omega
 cases j:ka (b9 h) h.b5 with
 | nil=>
  have f:Ab.started h=({h with b5:=(shuf (b9 h).length h.b5).2},false):=by unfold Ab.started;rw[j]
  rw[f];exact⟨{hi with nums:=c},rfl,rfl⟩
 | cons q y=>
  obtain⟨C,D,k⟩:=g q (by rw[j];exact I2 ..);have f:Ab.started h=({h with b5:=(shuf (b9 h).length h.b5).2,a2:=true,a5:=xf (dY (nth (b9 h) q.A.toNat) (nth (b9 h) q.B.toNat))},true):=by unfold Ab.started;rw[j]
  rw[f];have d:∀s∈b9 h,s∈h.K:=λs u=>qV h (V3 _) s (List.mem_of_mem_take u)
  have l:=d _ (au (xs:=b9 h) (i:=q.A.toNat) ω);have n:=d _ (au (xs:=b9 h) (i:=q.B.toNat) ω);generalize nth (b9 h) q.A.toNat=a at k l |-;generalize nth (b9 h) q.B.toNat=b at k n |-;obtain⟨w,E,F⟩:=qU k;have o:jA (xf (dY a b))=true:=fV.2 ⟨w,by show(0:Int)<=0;omega,by show(0:Int)<=5;omega,by show(0:Int)<=0;omega,by show(0:Int)<=(((dY a b).W.length:Nat):Int);omega⟩;have p:(∃s∈h.K,s.R=(dY a b).a7)/\∃s∈h.K,s.R=(dY a b).a9:=by
   unfold dY;split
   ·exact⟨⟨b,n,rfl⟩,⟨a,l,rfl⟩⟩
   exact⟨⟨a,l,rfl⟩,⟨b,n,rfl⟩⟩
  exact⟨{hi with nums:=c,job:=λ_=>⟨o,p⟩,noj:=λe=>by cases e},rfl,rfl⟩
open Go.RowKit
set_option maxRecDepth 20000
set_option maxHeartbeats 4000000
def bg.objSz(a:bg h E):∀o∈h.M,0<=o.a1/\o.a1<=1000:=λx c=>by
 rcases a.oow x c with⟨s,d,e,f⟩|⟨l,b,g,i⟩
 ·have j:=aL (a.L.sok s d)
  have:=zY (n:=x.a1) ω;omega
 have k:=cF (a.L.lok l b);omega
def BY(t:Int){size:Int}(c:bg h [])(d:9<=size/\size<=1000):sg h t size=if(Bc h size).2<0 then((Bc h size).1,-1,4) else(addO (Bc h size).1 (Bc h size).2 size t,(Bc h size).2,0):=by
 unfold sg Bc;by_cases a:(aC h.a (lF size:Nat)).2.2=false
 ·rw[CC a,CC a]
  exact(CC (show(-1:Int)<0 by decide)).symm
 rw[CB a,CB a];obtain⟨e,-⟩:=kg c (show(1:Int)<=(lF size:Nat) by unfold lF;omega) (by simpa using a);by_cases b:(jn h size).2=lF size
 ·rw[CC b,CC b]
  exact(CB (show ¬16*(aC h.a (lF size:Nat)).2.1<0 by omega)).symm
 rw[CB b,CB b];exact(CC (show(-1:Int)<0 by decide)).symm
def Ba(h:ac)(t size:Int)(k:bg h []):zzB 74 false [.ptr (bK h),.val none [I t],.val none [I size]] [.ptr (bK (eI h t size).1),.val none [I t],.val none [I size]] (.tup [none,none]) [I (eI h t size).2.1,I (eI h t size).2.2]:=by
 have X:=k.lens;have hlc:=X.caches;have P:=X.objs;have p:=k.nums;unfold cg at p;rw[C0]at p;have Q:=np k.objSz h.M.length (V3 _);change 0<=o9 h/\o9 h<=_ at Q;have n:=aM t 0 ((h.T.length:Int) - 1);have r:=aM size 1 1000;have E:=xK h k.objSz ω;have F:=lh size;refine fM 119 [(221,[2,0,0]),(222,[2,0])] [(7,10,[36,37,38,39,40,41,42,43,44,45]),(18,272,[81,82,83,84,85,86,87,89,90,91,92,93,94,95,96,97,0,1,2,3,4,5,6,8,9,10,11,12,13,14,15,16,1016,7,1008,1009,1010,1011,1012,1013,1014,1015,1016,17,18]),(1048594,0,[8])] [(0,0),(0,0),(0,0)] Tryz.func74 rfl (λu q=>?_) (.inr ⟨trivial,trivial,trivial⟩);unfold eI;by_cases h1:1000000<=h.o
 ·rw[CC (.inl h1)]
  refine ZE ?_
  refine CH rfl rfl ?_;exact wC
 by_cases h2:90000<h.H.Calls
 ·rw[CC (.inr h2)]
  repeat'(first|refine gE ?_|with_reducible refine Bf.D (λb=>?_) (λb=>?_))
  refine CH rfl rfl ?_;exact wC
 rw[CB ω];by_cases C:¬(0<=t/\t<=h.T.length - 1)
 ·rw[CC C]
  rw[W0 C]at n
  repeat'(first|refine gE ?_|with_reducible refine Bf.D (λb=>?_) (λb=>?_))
  refine CH rfl rfl ?_;exact wC
 rw[CB C];replace C:=Decidable.not_not.1 C;rw[O0 C]at n;by_cases B:¬(1<=size/\size<=1000)
 ·rw[CC B]
  rw[W0 B]at r
  repeat'(first|refine gE ?_|with_reducible refine Bf.D (λb=>?_) (λb=>?_))
  refine CH rfl rfl ?_;exact wC
 rw[CB B];replace B:=Decidable.not_not.1 B;rw[O0 B]at r;by_cases Y:h.b7<o9 h+size
 ·rw[CC Y]
  repeat'(first|refine gE ?_|with_reducible refine Bf.D (λb=>?_) (λb=>?_)|refine CG (E) ⟨⟨rfl,bN h⟩,trivial⟩ ?_)
  refine CH rfl rfl ?_;exact wC
 rw[CB Y];by_cases G:0<=aS size
 ·rw[CC G]
  have hc3:aS size<=3:=by unfold aS;repeat' split<;>omega
  obtain⟨T,rfl⟩:=I3 C.1;obtain⟨K,hK⟩:=I3 G;have o:=AG h T K k ω ω ω;have s:=qY (t:=T) (c:=K) k ω ω ω;rw[hK]at F |-;simp only[C3];generalize eJ h T K=w at o s |-;obtain⟨g,a⟩:=w;have H:g.o=h.o:=s.nx;simp only at o |-;by_cases J:a<0
  ·rw[CC J]
   repeat'(first|refine gE ?_|with_reducible refine Bf.D (λb=>?_) (λb=>?_)|refine CG (E) ⟨⟨rfl,bN h⟩,trivial⟩ ?_)
   refine CH rfl rfl ?_;exact wC
  rw[CB J];obtain⟨k1,k2⟩:=s.yes (show(0:Int)<=a by omega);have R:g.M.length<=512:=k1.lens.objs
  repeat'(first|refine gE ?_|with_reducible refine Bf.D (λb=>?_) (λb=>?_)|refine CG (E) ⟨⟨rfl,bN h⟩,trivial⟩ ?_)
  refine CF (ι:=Nat) (λi=>[(0,.G .box (bK g)),(1,.G .one [I ((T:Nat):Int)]),(2,.G .one [I (size)]),(8,.G .one [I (a)]),(9,.G .one [I ((i:Nat):Int)])]) (λi=>i<=g.M.length/\∀(j:Nat)(z:bi),j<i->g.M[j]? = some z->KI a z=false) (λi=>g.M.length - i) (0) ?_ (⟨X0 _,λj z hj=>ω⟩) λi k=>?_
  ·exact wC
  obtain⟨S,L⟩:=k;by_cases U:i<g.M.length/\(nth g.M i).Addr<a
  ·have d:=ar U.1
   refine ZE ?_
   (refine CD (i+1) ⟨ω,ep d (W0 ω) L⟩ ω ?_;(exact wC))
  have l:kw (KI a) g.M=i:=my ω L λz M=>by
   have V:=(Z2.1 M).1;have:z=nth g.M i:=(b8 M).symm;subst this;exact O0 ω
  have d:i<g.M.length->g.M[i]? = some (nth g.M i):=λW=>ar W
  rw[show addO g a size (T:Nat) = {g with M:=g.M.take i++⟨g.o,a,size,(T:Nat)⟩::g.M.drop i,o:=g.o+1} by unfold addO;rw[mz l]]
  repeat'(first|refine gE ?_|with_reducible (first|refine CA (aa (d ω)) ?_|refine Bf.D (λb=>?_) (λb=>?_))|refine CE rfl (aa (d ω)) rfl ?_|refine HK.mk rfl (xq g.M) rfl ?_|refine CS i rfl (by rw[I1];omega) (aK λ_=>rfl) O4 ?_|refine CW i rfl (by rw[I1];omega) (aK λ_=>rfl) V4 ?_|refine CP (λ_=>rfl) (λ_=>rfl) (by rw[C2];omega) (by decide) ?_|refine Ap.sn (aK λ_=>rfl) rfl (by rw[I1,C2];omega) (by decide) rfl ?_|refine Ap.ins (e:=bi.enc .S) (y:=⟨g.o,a,size,(T:Nat)⟩) rfl (λ_=>rfl) (λ_=>rfl) ω (by decide) ?_)
  all_goals
   refine CH rfl rfl ?_;exact wC
 rw[CB G];have N:9<=size:=by unfold aS at G;repeat' split at G<;>omega
 have o:=A6 h size k ⟨N,B.2⟩ ω;rw[BY t k ⟨N,B.2⟩];have Z:(Bc h size).1.o=h.o/\(Bc h size).1.M=h.M:=by
  unfold Bc;split
  ·exact⟨rfl,rfl⟩
  split<;>exact⟨rfl,rfl⟩
 generalize Bc h size=w at o Z |-;obtain⟨g,a⟩:=w;obtain⟨H,O⟩:=Z;simp only at o H O |-;have R:g.M.length<=512:=by rw[O];exact P
 by_cases J:a<0
 ·rw[CC J]
  repeat'(first|refine gE ?_|with_reducible refine Bf.D (λb=>?_) (λb=>?_)|refine CG (E) ⟨⟨rfl,bN h⟩,trivial⟩ ?_)
  refine CH rfl rfl ?_;exact wC
 rw[CB J]
 repeat'(first|refine gE ?_|with_reducible refine Bf.D (λb=>?_) (λb=>?_)|refine CG (E) ⟨⟨rfl,bN h⟩,trivial⟩ ?_)
 refine CF (ι:=Nat) (λi=>[(0,.G .box (bK g)),(1,.G .one [I (t)]),(2,.G .one [I (size)]),(8,.G .one [I (a)]),(9,.G .one [I ((i:Nat):Int)])]) (λi=>i<=g.M.length/\∀(j:Nat)(z:bi),j<i->g.M[j]? = some z->KI a z=false) (λi=>g.M.length - i) (0) ?_ (⟨X0 _,λj z hj=>ω⟩) λi k=>?_
 ·exact wC
 obtain⟨S,L⟩:=k;by_cases U:i<g.M.length/\(nth g.M i).Addr<a
 ·have d:=ar U.1
  refine ZE ?_
  (refine CD (i+1) ⟨ω,ep d (W0 ω) L⟩ ω ?_;(exact wC))
 have l:kw (KI a) g.M=i:=my ω L λz M=>by
  have V:=(Z2.1 M).1;have:z=nth g.M i:=(b8 M).symm;subst this;exact O0 ω
 have d:i<g.M.length->g.M[i]? = some (nth g.M i):=λW=>ar W
 rw[show addO g a size t = {g with M:=g.M.take i++⟨g.o,a,size,t⟩::g.M.drop i,o:=g.o+1} by unfold addO;rw[mz l]]
 repeat'(first|refine gE ?_|with_reducible (first|refine CA (aa (d ω)) ?_|refine Bf.D (λb=>?_) (λb=>?_))|refine CE rfl (aa (d ω)) rfl ?_|refine HK.mk rfl (xq g.M) rfl ?_|refine CS i rfl (by rw[I1];omega) (aK λ_=>rfl) O4 ?_|refine CW i rfl (by rw[I1];omega) (aK λ_=>rfl) V4 ?_|refine CP (λ_=>rfl) (λ_=>rfl) (by rw[C2];omega) (by decide) ?_|refine Ap.sn (aK λ_=>rfl) rfl (by rw[I1,C2];omega) (by decide) rfl ?_|refine Ap.ins (e:=bi.enc .S) (y:=⟨g.o,a,size,t⟩) rfl (λ_=>rfl) (λ_=>rfl) ω (by decide) ?_)
 all_goals
  refine CH rfl rfl ?_;exact wC
def J8(h:ac)(a n:Int)(t:h.J.length<=4096)(j:∀l∈h.J,bZ l=true)(o:p9 h a<0):zzB 420 false [.ptr (bK h),.val none [I a],.val none [I n]] [.ptr (bK h),.val none [I a],.val none [I n]] .one [B false]:=by
 have b:∀l∈h.J,l.R*16≠a:=λl c e=>by
  have:=yk (p:=kY a) c (O0 e);unfold p9 at o;omega
 refine fM 136 [(374,[2,0])] [(8,6,[49,50,51,52,53,54]),(9,10,[56,57,58,59,60,61,62,63,64,65]),(20,270,[123,124,125,126,127,128,129,130,131,122,132,133,134,135,0,1,2,3,4,5,6,7,8,9,10,11,12,13,14,1011])] [(0,0),(0,0),(0,0)] Tryz.func420 rfl (λu q=>?_)
 refine ZP ?_
 refine CF (ι:=Nat) (λk=>[(0,.G .box (bK h)),(1,.G .one [I (a)]),(2,.G .one [I (n)]),(7,.G .one [I ((k:Nat):Int)])]) (λk=>k<=h.J.length) (λk=>h.J.length - k) (0) ?_ (X0 _) λk w=>?_
 ·repeat'(first|exact trivial|rfl |exact nU r|exact nU g|exact eQ _|refine CJ ?_ ?_|(exact Fy (by first|omega|(simp only;omega)|(simp;omega))))
 by_cases d:k<h.J.length
 ·have i:=ar d
  have y:=b _ (au d);have C:=aX (j _ (au d))
  refine ZB ?_
  (refine CD (k+1) ω ω ?_;(exact wC))
 refine ZE ?_
 refine CH rfl rfl ?_;exact wC
def Tu(h:ac)(a:Int)(m:Nat):bK {h with H:=zK h.H a (m+1)} = (bK {h with H:=zK h.H a m}).set 0 (.s .own (((zK h.H a m).F.V.W.map (aG .own)).set (ax (zK h.H a m).F.Q ((a+m) / 16)).e.toNat ((aG .own (nth (zK h.H a m).F.V.W (eM (zK h.H a m) (a+m)))).set 0 (.s .own (((nth (zK h.H a m).F.V.W (eM (zK h.H a m) (a+m))).map (rI .own)).set ((a+m) % 16).toNat (splice (rI .own (nth (nth (zK h.H a m).F.V.W (eM (zK h.H a m) (a+m))) ((a+m) % 16).toNat)) 0 [I 0])))))):=
 KG {h with H:=zK h.H a m} (a+m) 0
def fZ(h:ac)(i k:Nat)(n:Int)(K:ah):ac:={h with H:=K,J:=h.J.set k (trimL (nth h.J k) n),M:=h.M.set i {nth h.M i with a1:=n}}
def BW(h:ac)(i k:Nat)(n:Int)(K:ah):(fZ h i k n K).M.map (bi.enc .own)=(h.M.map (bi.enc .own)).set i (splice (bi.enc .own (nth h.M i)) 2 [I n]):=by
 simp[fZ,V6,bi.enc,splice]
def tw(h:ac)(i:Nat)(n:Int)(j:bg h [])(H:i<h.M.length)(hg:0<=p9 h (nth h.M i).Addr):zzB 420 false [.ptr (bK h),.val none [I (nth h.M i).Addr],.val none [I n]] [.ptr (bK (if hC h i n then trimH h i (p9 h (nth h.M i).Addr).toNat n else h)),.val none [I (nth h.M i).Addr],.val none [I n]] .one [B (decide (hC h i n))]:=by
 have c:=j.lens;have hnl:=c.larges;have hno:=c.objs;have hpg:eO h<=32:=c.ents;obtain⟨f1,f2,f3⟩:=ek (kY (nth h.M i).Addr) h.J hg;obtain⟨g,o⟩:=I3 hg;have b:g<h.J.length:=by unfold p9 at o;omega
 have Y:(nth h.J g).R*16=(nth h.M i).Addr:=by
  have:=of_decide_eq_true f2;rw[show(cj (kY (nth h.M i).Addr) h.J).toNat=g by unfold p9 at o;omega]at this;exact this
 have J:∀k,k<g->(nth h.J k).R*16≠(nth h.M i).Addr:=λk hk e=>by
  have N:k<h.J.length:=ω
  have hok1:=aX (j.L.lok _ (au N));have hok2:=aX (j.L.lok _ (au b));have:=j.L.one k g N b 0 0 ω ω ω;omega
 have p:hC h i n↔9<=n/\n<=(nth h.J g).a1:=by
  unfold hC;rw[o,C3];exact⟨λx=>x.2,λx=>⟨ω,x⟩⟩
 rw[o,C3];have hbd:=nh j (au H);obtain⟨-,Z,w⟩:=j.objAt (au H);have hii:jB h (nth h.M i).Addr=i:=by
  have h2:=(j.objAt (au H)).1;exact gz (f:=(·.Addr)) (gp j.osr) h2 H (by rw[Z])
 rw[hii]at w;have E:=ar H;have hxg:=ar b;have V:=zl (nth h.J g) n (j.L.lok _ (au b));have h8:=j.L.lok _ (au b);unfold bZ at h8;rw[C0]at h8;refine fM 136 [(374,[2,0])] [(8,6,[49,50,51,52,53,54]),(9,10,[56,57,58,59,60,61,62,63,64,65]),(20,270,[123,124,125,126,127,128,129,130,131,122,132,133,134,135,0,1,2,3,4,5,6,7,8,9,10,11,12,13,14,1011])] [(0,0),(0,0),(0,0)] Tryz.func420 rfl (λu q=>?_)
 refine ZP ?_
 refine CF (ι:=Nat) (λk=>[(0,.G .box (bK h)),(1,.G .one [I ((nth h.M i).Addr)]),(2,.G .one [I (n)]),(7,.G .one [I ((k:Nat):Int)])]) (λk=>k<=g) (λk=>g - k) (0) ?_ (X0 _) λk hk=>?_
 ·repeat'(first|exact trivial|rfl |exact nU r|exact nU d|exact eQ _|refine CJ ?_ ?_|(exact Fy (by first|omega|(simp only;omega)|(simp;omega))))
 have l:=ar (xs:=h.J) (i:=k) ω;have hfk:=aX (j.L.lok _ (au (xs:=h.J) (i:=k) ω));by_cases e:k=g;rotate_left
 ·have hne:=J k ω
  refine ZB ?_
  (refine CD (k+1) ω ω ?_;(exact wC))
 subst e;by_cases F:9<=n/\n<=(nth h.J k).a1;rotate_left
 ·rw[CB (by rw[p];exact F),W0 (by rw[p];exact F)]
  rw[CB F]at V
  refine ZB ?_
  refine CH rfl rfl ?_;exact wC
 rw[CC (by rw[p];exact F),O0 (by rw[p];exact F)];rw[CC F]at V;have y:=λm hm=>zB j b F (m:=m) hm
 have D:=λm=>(v7 h.H (16*(nth h.J k).R+n) m).1
 have O:=λa W=>mr j b (a:=a) W
 have hsz:n<=16*(nth h.J k).w:=ω
 generalize hM:(16*((n+15) / 16) - n).toNat=M at *;have hfl:∀m,(zK h.H (16*(nth h.J k).R+n) m).F.V.W.length=h.H.F.V.W.length:=λm=>by
  induction m with
  | zero=>rfl
  | succ m ih=>show(List.set _ _ _).length=_;rw[Z1];exact ih
 have cO:=sO {h with J:=h.J.set k (trimL (nth h.J k) n)} (nth h.M i).Addr (by show h.M.length<=_;omega);change am _ _ _ [.val (some 24) (ac.enc .S {h with J:=h.J.set k (trimL (nth h.J k) n)}),_] _ [I (cj (iH (nth h.M i).Addr) h.M)]at cO;rw[w]at cO;have Q:=bN {h with J:=h.J.set k (trimL (nth h.J k) n)};have heL:bK {h with J:=h.J.set k (trimL (nth h.J k) n)} = (bK h).set 7 (.s .own ((h.J.map (aD.enc .own)).set k (aD.enc .own (trimL (nth h.J k) n)))):=by simp[bK,V6]
 rw[heL]at Q
 repeat'(first|refine gB ?_|refine CM rfl rfl (aa l) rfl (O1 rfl) rfl ?_|refine CG (cO) ⟨⟨rfl,Q⟩,⟨rfl,rfl⟩,trivial⟩ ?_|refine CM rfl rfl (aa E) rfl (O1 rfl) rfl ?_)
 rw[<-Y];have e0:fZ h i k n h.H=fZ h i k n (zK h.H (16*(nth h.J k).R+n) 0):=rfl;have r:C.s .own ((fZ h i k n (zK h.H (16*(nth h.J k).R+n) 0)).J.map (aD.enc .own))=C.s .own ((h.J.map (aD.enc .own)).set k (aD.enc .own (trimL (nth h.J k) n))):=by simp[fZ,V6]
 have d:C.s .own ((fZ h i k n (zK h.H (16*(nth h.J k).R+n) 0)).M.map (bi.enc .own))=C.s .own ((h.M.map (bi.enc .own)).set i (splice (bi.enc .own (nth h.M i)) 2 [I n])):=Z0 _ (BW h i k n _)
 (conv=>whnf)
 refine CF (ι:=Nat) (λm=>[(0,.G .box (bK (fZ h i k n (zK h.H (16*(nth h.J k).R+n) m)))),(1,.G .one [I (((nth h.J k).R*16))]),(8,.G .box (aD.enc .own (trimL (nth h.J k) n))),(9,.G .box (aE.enc .own (iL (nth h.J k) n))),(11,.G .one [I (((16*(nth h.J k).R+n)+(m:Nat)))])]) (λm=>m<=M) (λm=>M - m) (0) ?_ (X0 _) λm hm=>?_
 ·repeat'(first|exact trivial|rfl |exact nU r|exact nU d|exact eQ _|refine CJ ?_ ?_|(exact Fy (by first|omega|(simp only;omega)|(simp;omega))))
 have hmod:IntKind.i64.wrap 0=0:=rfl;by_cases lm:m<M
 ·have W:0<=(16*(nth h.J k).R+n)+(m:Nat)/\(16*(nth h.J k).R+n)+(m:Nat)<512:=ω
  have R:=O ((16*(nth h.J k).R+n)+(m:Nat)) ω;have t:=y m hm;rw[<-D m]at R;have hks:=aZ t;have c2:=dh (zK h.H (16*(nth h.J k).R+n) m).F.Q (((16*(nth h.J k).R+n)+(m:Nat)) / 16) hks.1.2;obtain⟨-,-,-,q0,q1⟩:=bM t R;have hul:=(aY.1 (aH.1 t).2.1).2.2.1;have S:eM (zK h.H (16*(nth h.J k).R+n) m) ((16*(nth h.J k).R+n)+(m:Nat))<(zK h.H (16*(nth h.J k).R+n) m).F.V.W.length:=by unfold eM;omega
  have G:(zK h.H (16*(nth h.J k).R+n) m).F.V.W[(ax (zK h.H (16*(nth h.J k).R+n) m).F.Q (((16*(nth h.J k).R+n)+(m:Nat)) / 16)).e.toNat]? = some _:=ar S;have h16:=(EN t S).1;have T:=ar (xs:=nth (zK h.H (16*(nth h.J k).R+n) m).F.V.W (eM (zK h.H (16*(nth h.J k).R+n) m) ((16*(nth h.J k).R+n)+(m:Nat)))) (i:=(((16*(nth h.J k).R+n)+(m:Nat)) % 16).toNat) (by rw[h16];omega);have htm:((16*(nth h.J k).R+n)+(m:Nat)).tmod 16=((16*(nth h.J k).R+n)+(m:Nat)) % 16:=ew W.1;have hpu:=Tu (fZ h i k n h.H) (16*(nth h.J k).R+n) m;have hwr:=kH W;have hst:(trimL (nth h.J k) n).w=(n+15) / 16:=rfl
  repeat'(first|refine gE ?_|refine CN (by decide) ?_|refine CL hwr ?_|refine CQ htm ?_|refine CG (c2) ⟨⟨rfl,CZ _⟩,⟨rfl,rfl⟩,trivial⟩ ?_|refine CK q0 (aa G) ?_|refine CK ω (aa T) ?_|refine Pu.two rfl rfl (aa G) rfl rfl rfl (aa T) rfl (V3 _) hpu ?_)
  (refine CD (m+1) ω ω ?_;(exact wC))
 obtain rfl:m=M:=ω
 have hst:(trimL (nth h.J k) n).w=(n+15) / 16:=rfl;have hkM:=y m (V3 _);have U:(zK h.H (16*(nth h.J k).R+n) m).F.Q.O.length=eO h:=by rw[D];rfl
 have hTK:pd h k n=zK h.H (16*(nth h.J k).R+n) m:=by unfold pd;rw[hM]
 unfold trimH vT;rw[hTK];generalize zK h.H (16*(nth h.J k).R+n) m=K at *;have hN:((dm (nth h.J k) n:Nat):Int)=(nth h.J k).w - (n+15) / 16:=by unfold dm;omega
 have hrA:0<dm (nth h.J k) n->iL (nth h.J k) n = ⟨(nth h.J k).R+(n+15) / 16,(dm (nth h.J k) n:Nat)⟩:=λhp=>by unfold iL;rw[CC ω,hN]
 have hrB:¬0<dm (nth h.J k) n->iL (nth h.J k) n = ⟨0,0⟩:=λhp=>by unfold iL;rw[CB ω]
 generalize dm (nth h.J k) n=P at *;by_cases X:0<P
 ·rw[CC X]
  have hr:=hrA X;rw[hr]
  refine ZE ?_
  refine CF (ι:=Nat) (λx=>[(0,.G .box (bK (fZ h i k n (du K ((nth h.J k).R+(n+15) / 16) x)))),(9,.G .box ([I ((nth h.J k).R+(n+15) / 16),I (P:Nat)])),(13,.G .one [I (((nth h.J k).R+(n+15) / 16+(x:Nat)))])]) (λx=>x<=P) (λx=>P - x) (0) ?_ (X0 _) λx l=>?_
  ·repeat'(first|exact trivial|rfl |exact nU r|exact nU d|exact eQ _|refine CJ ?_ ?_|(exact Fy (by first|omega|(simp only;omega)|(simp;omega))))
  by_cases lx:x<P
  ·have c3:=o8 (fZ h i k n (du K ((nth h.J k).R+(n+15) / 16) x)) ((nth h.J k).R+(n+15) / 16+(x:Nat)) (jl hkM _ _)
   refine ZE ?_
   (refine CD (x+1) ω ω ?_;(exact wC))
  obtain rfl:x=P:=ω
  have c4:=iy (fZ h i k n (du K ((nth h.J k).R+(n+15) / 16) x));rw[show eO (fZ h i k n (du K ((nth h.J k).R+(n+15) / 16) x))=eO h from(gh _ _ _).1.trans U]at c4;have c5:=mT (eO h:Nat) h.a ⟨(nth h.J k).R+(n+15) / 16,(x:Nat)⟩ ⟨ω,ω⟩ ⟨by have:=c.free;omega,λ_ _=>trivial⟩
  repeat'(first|refine gE ?_|refine CG (c4) ⟨bN _,trivial⟩ ?_|refine CG (c5) ⟨⟨rfl,rfl⟩,⟨rfl,dO h.a⟩,⟨rfl,rfl⟩,trivial⟩ ?_)
  refine CH rfl rfl ?_;exact wC
 rw[CB X];obtain rfl:P=0:=ω
 have hr:=hrB X;rw[hr]
 refine ZE ?_
 refine CF (ι:=Nat) (λx=>[(0,.G .box (bK (fZ h i k n K))),(9,.G .box ([I 0,I 0])),(13,.G .one [I (0)])]) (λx=>x=0) (λx=>0) (0) ?_ (rfl) λx l=>?_
 ·repeat'(first|exact trivial|rfl |exact nU r|exact nU d|exact eQ _|refine CJ ?_ ?_|(exact Fy (by first|omega|(simp only;omega)|(simp;omega))))
 subst l
 refine ZE ?_
 refine CH rfl rfl ?_;exact wC
def Am{α:Type}(a:α)(k:Nat):List.replicate (k+1) a=List.replicate k a++[a]:=List.replicate_succ' ..
def xP(n k:Nat):aT.enc .own ⟨List.replicate k (List.replicate 16 0),List.replicate n false⟩ = [.s .own (List.replicate k [.s .own (List.replicate 16 [I 0])]),.s .own (List.replicate n [B false])]:=by
 simp[aT.enc,aG,rI,rB,List.map_replicate]
def qk(n:Nat)(e:1<=n/\n<=32):zzA 465 false [.val none [I (n:Nat)]] (.tup [some 2,none]) (aT.enc .own (eB n)++[B true]):=by
 have c:=aI ((n:Nat):Int) 1 32;rw[O0 ω]at c;have a:=aB (b:=[B true]) (aT.enc_fr (eB n)) ⟨trivial,trivial⟩;rw[show aT.enc .own (eB n)=_ from xP n n]at a |-;refine fO 25 [(7,4,[18,19,20,21])] Tryz.func465 rfl ?_ (.inr a)
 repeat'(first|refine gP ?_|refine Mk.mk n rfl rfl ω (xi ω (by decide)) rfl ?_)
 refine CF (ι:=Nat) (λk=>[(0,.G .one [I ((n:Nat))]),(2,.G .box [.z,.z]),(4,.G .box [.s .own (List.replicate k [.s .own (List.replicate 16 [I 0])]),.s .own (List.replicate n [B false])]),(5,.G .one [I ((k:Nat):Int)])]) (λk=>k<=n) (λk=>n - k) (0) ?_ (X0 _) λk g=>?_
 ·exact wB
 by_cases h:k<n
 ·repeat'(first|refine gE ?_|refine Mk.mk 16 rfl rfl (by decide) (by decide) rfl ?_|refine Ap.sn (λr d=>by rw[(List.mem_replicate.1 d).2];rfl) rfl (by simp;omega) (by decide) (Am _ k) ?_)
  (refine CD (k+1) ω ω ?_;(exact wB))
 obtain rfl:k=n:=ω
 refine ZE ?_
 rfl
def rP(n:Nat)(e:1<=n/\n<=32):zzA 466 false [.val none [I (n:Nat)]] (.tup [some 1,none]) (aO.enc .own (dS n)++[B true]):=by
 have c:=aI ((n:Nat):Int) 1 32;rw[O0 ω]at c;have a:=aB (b:=[B true]) (aO.enc_fr (dS n)) ⟨trivial,trivial⟩;have d:aO.enc .own (dS n)=[.s .own (List.replicate n [I 0,I 0])]:=by simp[aO.enc,dS,bo.enc,List.map_replicate]
 rw[d]at a |-;refine fO 11 [] Tryz.func466 rfl ?_ (.inr a)
 repeat'(first|refine gP ?_|refine Mk.mk n rfl rfl ω (xi ω (by decide)) rfl ?_)
 rfl
def pm(p f:Nat)(a:1<=p/\p<=32)(b:1<=f/\f<=32):zzA 348 false [.val none [I (p:Nat)],.val none [I (f:Nat)]] (.tup [some 3,none]) (aP.enc .own ⟨eB f,dS p⟩++[B true]):=by
 refine fO 30 [] Tryz.func348 rfl ?_ (.inr (aB (aP.enc_fr _) ⟨trivial,trivial⟩))
 repeat'(first|refine gP ?_|refine C8 (qk f b) ?_|refine C8 (rP p a) ?_)
 rfl
def Kz(n:Nat):MZ [.s .own (List.replicate n [.z]),.s .own (List.replicate n [.z]),B true] (aN.enc .own (eD n)++[B true]):=by
 have e:aN.enc .own (eD n)++[B true]=[.s .own (List.replicate n [.s .own []]),.s .own (List.replicate n [.s .own []]),B true]:=by simp[aN.enc,eD,bJ,aG,List.map_replicate]
 rw[e];exact .cons (.rep (.cons .z_ .nil)) (.cons (.rep (.cons .z_ .nil)) (.cons (.rfl_ _) .nil))
def ox(n:Nat)(b:1<=n/\n<=4):zzA 200 false [.val none [I (n:Nat)]] (.tup [some 2,none]) (aN.enc .own (eD n)++[B true]):=by
 have a:=aI ((n:Nat):Int) 1 4;rw[O0 ω]at a;refine fO 13 [(3,4,[8,9,10,11])] Tryz.func200 rfl ?_ (.inr (aB (Ce _) ⟨trivial,trivial⟩))
 repeat'((conv=>whnf);first|with_reducible (first|refine Lm ?_|refine Wm ω ?_|refine Bn ?_|refine jo.dk rfl ?_)|refine Bt ?_|refine Bu ?_|refine C9 ?_|refine C8 (a) ?_|refine Mk.mk n rfl rfl ω (xi ω (by decide)) rfl ?_)
 exact Kz n
def nO(n:Nat)(b:1<=n/\n<=4):zzA 413 false [.val none [I (n:Nat)]] (.tup [some 2,none]) (aN.enc .own (eD n)++[B true]):=by
 have a:=aM ((n:Nat):Int) 1 4;rw[O0 ω]at a;refine fO 13 [(3,4,[8,9,10,11])] Tryz.func413 rfl ?_ (.inr (aB (Ce _) ⟨trivial,trivial⟩))
 repeat'((conv=>whnf);first|with_reducible (first|refine Lm ?_|refine Wm ω ?_|refine Bn ?_|refine jo.dk rfl ?_)|refine Bt ?_|refine Bu ?_|refine C9 ?_|refine C8 (a) ?_|refine Mk.mk n rfl rfl ω (xi ω (by decide)) rfl ?_)
 exact Kz n
def Hh:MZ [.s .own (List.replicate 4 [.z])] (aF.enc .own fe):=.cons (.rep (.cons .z_ .nil)) .nil
def Bb:zzA 202 false [] .agg (aF.enc .own fe):=by
 refine fO 3 [] Tryz.func202 rfl ?_ (.inr (Cg _))
 repeat'((conv=>whnf);first|with_reducible (first|refine Lm ?_|refine Wm ω ?_|refine Bn ?_|refine jo.dk rfl ?_)|refine Bt ?_|refine Bu ?_|refine C9 ?_|refine Mk.mk 4 rfl rfl (by decide) (by decide) rfl ?_)
 exact Hh
def A5:zzA 414 false [] .agg (aF.enc .own fe):=by
 refine fO 3 [] Tryz.func414 rfl ?_ (.inr (Cg _))
 repeat'((conv=>whnf);first|with_reducible (first|refine Lm ?_|refine Wm ω ?_|refine Bn ?_|refine jo.dk rfl ?_)|refine Bt ?_|refine Bu ?_|refine C9 ?_|refine Mk.mk 4 rfl rfl (by decide) (by decide) rfl ?_)
 exact Hh
def E2:zzA 201 false [.val none [I 16]] (.tup [some 2,none]) (bt.enc .own ⟨16,[]⟩++[B true]):=by
 refine fO 10 [] Tryz.func201 rfl ?_ (.inr (aB (bt.enc_fr _) ⟨trivial,trivial⟩))
 repeat'((conv=>whnf);first|with_reducible (first|refine Lm ?_|refine Wm ω ?_|refine Bn ?_|refine jo.wk rfl ?_)|refine Bt ?_|refine Bu ?_|refine C9 ?_|refine C8 (aI 16 0 500) ?_)
 exact⟨rfl,rfl,rfl,trivial⟩
def tC:zzA 415 false [.val none [I 16]] (.tup [some 2,none]) (bt.enc .own ⟨16,[]⟩++[B true]):=by
 refine fO 10 [] Tryz.func415 rfl ?_ (.inr (aB (bt.enc_fr _) ⟨trivial,trivial⟩))
 repeat'((conv=>whnf);first|with_reducible (first|refine Lm ?_|refine Wm ω ?_|refine Bn ?_|refine jo.wk rfl ?_)|refine Bt ?_|refine Bu ?_|refine C9 ?_|refine C8 (aM 16 0 500) ?_)
 exact⟨rfl,rfl,rfl,trivial⟩
def caps(h:ac)(k:Nat):ac:={h with T:=List.replicate k fe}
def Ds(k:Nat):(List.replicate (k+1) fe).map (aF.enc .own)=(List.replicate k fe).map (aF.enc .own)++[aF.enc .own fe]:=by rw[Am,Z5];rfl
variable{k:Nat}
def HI : ∀r∈(List.replicate k fe).map (aF.enc .own),r.length=1:=aK λ_=>rfl
structure po where
 i:Nat
 h:Int
deriving Inhabited
def w64(x:Int):Int:=IntKind.i64.wrap x
def Uv(h:Int):Int:=w64 (w64 (h*6364136223846793005)+1442695040888963407)
def UD(a b:Int):Int:=w64 ((BitVec.ofInt IntKind.i64.bits a ^^^ BitVec.ofInt IntKind.i64.bits b).toNat:Nat)
def and255(a:Int):Int:=w64 ((BitVec.ofInt IntKind.i64.bits a &&& BitVec.ofInt IntKind.i64.bits 255).toNat:Nat)
def UO(h:Int)(n:Nat):Int:=h.fdiv (2 ^ (min n IntKind.i64.bits))
def RR(h:Int):Int:=and255 (UD (UO h 33) (UO h 45))
def kU(a:List Int)(c:po):Int × po:=if c.i<a.length then(and255 (RR (Uv c.h)+nth a c.i),⟨c.i+1,Uv c.h⟩) else(RR (Uv c.h),⟨c.i,Uv c.h⟩)
def RQ(a:List Int)(c:po):Int × po:=
 ((kU a c).1*16777216+(kU a (kU a c).2).1*65536+(kU a (kU a (kU a c).2).2).1*256+(kU a (kU a (kU a (kU a c).2).2).2).1,(kU a (kU a (kU a (kU a c).2).2).2).2)
def eH(a:List Int)(c:po)(n:Int):Int × po:=if n<=256 then((kU a c).1 % n,(kU a c).2) else((RQ a c).1 % n,(RQ a c).2)
def wN(a:List Int)(c:po)(l:List Int):Int × po:=(nth l (eH a c (l.length:Nat)).1.toNat,(eH a c (l.length:Nat)).2)
def Un(a:List Int):Nat->Nat->List Int->po->List Int × po
 | 0,_,out,c=>(out,(eH a c 4).2)
 | f+1,i,out,c=>if(i:Int)<(eH a c 4).1 then Un a f (i+1) (out++[(eH a (eH a c 4).2 12).1]) (eH a (eH a c 4).2 12).2 else(out,(eH a c 4).2)
def U9(a:List Int)(c:po):List Int × po:=Un a 4 0 [] c
def U4(a:List Int)(c:po):Int × po:=eH a c 7
def UR(a:List Int)(c:po):Int × po:=eH a (U4 a c).2 3
def UL(a:List Int)(c:po):Int × po:=eH a (UR a c).2 100
def UP(a:List Int)(c:po):Int × po:=eH a (UL a c).2 4
def UM(a:List Int)(c:po):List Int × po:=U9 a (UP a c).2
def TM(a:List Int)(c:po):dC:=⟨(6+(U4 a c).1).toNat,(6+(U4 a c).1 - (UP a c).1).toNat,(1+(UR a c).1).toNat,40+(UL a c).1,(UM a c).1⟩
def Qm(a:List Int)(c:po):Int × po:=eH a c 3
def Tp(a:List Int)(c:po)(ids:Int):Int × po:=eH a (Qm a c).2 ids
def xw(a:List Int)(c:po)(ids:Int):Int × po:=eH a (Tp a c ids).2 20
def szs:List Int:=[1,1,2,2,3,4,4,5,8,9,20]
def RC(a:List Int)(c:po)(ids:Int):cn × po:=
 if(xw a c ids).1<=6 then(⟨1,(Qm a c).1,(wN a (xw a c ids).2 szs).1,0,0⟩,(wN a (xw a c ids).2 szs).2)
 else if(xw a c ids).1<=9 then(⟨2,(Qm a c).1,1+(Tp a c ids).1,0,0⟩,(xw a c ids).2)
 else if(xw a c ids).1<=12 then(⟨3,(Qm a c).1,1+(Tp a c ids).1,(eH a (xw a c ids).2 4).1,1+(eH a (eH a (xw a c ids).2 4).2 999).1⟩,(eH a (eH a (xw a c ids).2 4).2 999).2)
 else if(xw a c ids).1=13 then(⟨4,(Qm a c).1,1+(Tp a c ids).1,0,9+(eH a (xw a c ids).2 10).1⟩,(eH a (xw a c ids).2 10).2)
 else if(xw a c ids).1=14 then(⟨(wN a (xw a c ids).2 [5,6]).1,(Qm a c).1,1+(Tp a c ids).1,0,0⟩,(wN a (xw a c ids).2 [5,6]).2)
 else if(xw a c ids).1=15 then(⟨7,(Qm a c).1,1+(Tp a c ids).1,0,0⟩,(xw a c ids).2)
 else if(xw a c ids).1=16 then(⟨8,(Qm a c).1,(wN a (xw a c ids).2 [1,30,60,120]).1,0,0⟩,(wN a (xw a c ids).2 [1,30,60,120]).2)
 else if(xw a c ids).1=17 then(⟨9,(Qm a c).1,1+(Tp a c ids).1,0,0⟩,(xw a c ids).2)
 else(⟨10,(Qm a c).1,(wN a (xw a c ids).2 [1,2,3,10,30]).1,0,0⟩,(wN a (xw a c ids).2 [1,2,3,10,30]).2)
def KR(a:List Int)(c:po):Nat->List cn × po
 | 0=>([],(eH a c 41).2)
 | i+1=>((KR a c i).1++[(RC a (KR a c i).2 (1+(i:Int) / 2)).1],(RC a (KR a c i).2 (1+(i:Int) / 2)).2)
def RS(a:List Int)(c:po):List cn × po:=KR a c (eH a c 41).1.toNat
def TW(a:List Int):Nat->Int
 | 0=>w64 (98801+(a.length:Nat))
 | i+1=>w64 ((BitVec.ofInt IntKind.i64.bits (w64 (w64 (w64 (TW a i*131)+nth a i)+7)) &&& BitVec.ofInt IntKind.i64.bits 1073741823).toNat:Nat)
def Uo(a:List Int):po:=⟨0,TW a (min a.length 4000)⟩
def PD(a:List Int):po:=(UM a (Uo a)).2
def drawn(a:List Int):bw:=(rn (TM a (Uo a)) (RS a (PD a)).1 (RS a (PD a)).1.length).1
structure Rq where
 i:Nat
 out:List Int
 c:po
def dC.enc(o:dA)(c:dC):List C:=[I (c.w:Nat),I (c.V:Nat),I (c.c1:Nat),I c.b7,.s o (c.d.map (rI o))]
def pN(n:Nat)(e:1<=n/\n<=32):zzA 569 false [.val none [I (n:Nat)]] (.tup [some 2,none]) (aT.enc .own (eB n)++[B true]):=by
 have c:=aM ((n:Nat):Int) 1 32;rw[O0 ω]at c;have a:=aB (b:=[B true]) (aT.enc_fr (eB n)) ⟨trivial,trivial⟩;rw[show aT.enc .own (eB n)=_ from xP n n]at a |-;refine fO 28 [(7,4,[16,17,18,19])] Tryz.func569 rfl ?_ (.inr a)
 refine ZP ?_
 refine CF (ι:=Nat) (λk=>[(0,.G .one [I ((n:Nat))]),(2,.G .box [.z,.z]),(4,.G .box [.s .own (List.replicate k [.s .own (List.replicate 16 [I 0])]),.s .own (List.replicate k [B false])]),(5,.G .one [I ((k:Nat):Int)])]) (λk=>k<=n) (λk=>n - k) (0) ?_ (X0 _) λk g=>?_
 ·exact wB
 by_cases h:k<n
 ·repeat'(first|refine gE ?_|refine Mk.mk 16 rfl rfl (by decide) (by decide) rfl ?_|refine Ap.sn (λr d=>by rw[(List.mem_replicate.1 d).2];rfl) rfl (by simp;omega) (by decide) (Am _ k) ?_)
  (refine CD (k+1) ω ω ?_;(exact wB))
 obtain rfl:k=n:=ω
 refine ZE ?_
 rfl
def rL(n:Nat)(e:1<=n/\n<=32):zzA 570 false [.val none [I (n:Nat)]] (.tup [some 1,none]) (aO.enc .own (dS n)++[B true]):=by
 have c:=aM ((n:Nat):Int) 1 32;rw[O0 ω]at c;have a:=aB (b:=[B true]) (aO.enc_fr (dS n)) ⟨trivial,trivial⟩;have d:aO.enc .own (dS n)=[.s .own (List.replicate n [I 0,I 0])]:=by simp[aO.enc,dS,bo.enc,List.map_replicate]
 rw[d]at a |-;refine fO 11 [] Tryz.func570 rfl ?_ (.inr a)
 repeat'(first|refine gP ?_|refine Mk.mk n rfl rfl ω (xi ω (by decide)) rfl ?_)
 rfl
def oV(p f:Nat)(a:1<=p/\p<=32)(b:1<=f/\f<=32):zzA 508 false [.val none [I (p:Nat)],.val none [I (f:Nat)]] (.tup [some 3,none]) (aP.enc .own ⟨eB f,dS p⟩++[B true]):=by
 refine fO 30 [] Tryz.func508 rfl ?_ (.inr (aB (aP.enc_fr _) ⟨trivial,trivial⟩))
 repeat'(first|refine gP ?_|refine C8 (pN f b) ?_|refine C8 (rL p a) ?_)
 rfl
def pI(p f:Nat)(a:List Int)(b:1<=p/\p<=32)(c:1<=f/\f<=32)(d:a.length<=40/\∀x∈a,0<=x):zzA 412 false [.val none [I (p:Nat)],.val none [I (f:Nat)],.val none (aG .S a)] (.tup [some 5,none]) (ah.enc .own (bA p f a)++[B true]):=by
 have e:=mK b c d;have h:=d.1;have g:=kb (bA p f a) (aZ e);rw[e]at g;refine fO 31 [(2,260,[17,18,19,10,0,1,2,5,3,1000,1005,4,1005,6])] Tryz.func412 rfl ?_ (.inr (aB (CX _) ⟨trivial,trivial⟩))
 repeat'(first|refine gP ?_|refine C8 (oV p f b c) ?_|refine CG (g) ⟨⟨rfl,CO (bA p f a)⟩,trivial⟩ ?_|refine CP (λ_=>rfl) (λ_=>rfl) ω (by decide) ?_|refine CU (λ_=>rfl) (λ_=>rfl) ω (by decide) ?_)
 rfl
def TZ(p f t:Nat)(lim:Int)(a:List Int)(k:Nat):ac:={caps (qG p f t lim a) k with a3:=⟨0,[]⟩}
def Ft(p f t:Nat)(lim:Int)(a:List Int)(c:1<=p/\p<=32)(d:1<=f/\f<=32)(e:1<=t/\t<=4)(g:0<=lim/\lim<=1000)(h:a.length<=40/\∀x∈a,0<=x):zzA 271 false [.val none [I (p:Nat)],.val none [I (f:Nat)],.val none [I (t:Nat)],.val none [I lim],.val none (aG .S a)] (.tup [some 24,none]) (ac.enc .own (qG p f t lim a)++[B true]):=by
 have b:=aM lim 0 1000;rw[O0 g]at b;refine fO 66 [(9,4,[54,55,56,57])] Tryz.func271 rfl ?_ (.inr (aB (ac.enc_fr _) ⟨trivial,trivial⟩))
 repeat'(first|refine gP ?_|refine C8 (pI p f a c d h) ?_|refine C8 (nO t e) ?_|refine C8 (tC) ?_)
 refine CF (ι:=Nat) (λk=>[(2,.G .one [I ((t:Nat))]),(10,.G .box [.z,.z,.z,I 0,.z,.z,.z,.z,.z,.z,.z,.z,I 0,.z,I 0,I 0,I 0,I 0,B false,I 0,I 0,.z,I 0,I 0]),(16,.G .box (ac.enc .own (TZ p f t lim a k))),(17,.G .one [I ((k:Nat):Int)])]) (λk=>k<=t) (λk=>t - k) (0) ?_ (X0 _) λk i=>?_
 ·exact wB
 by_cases j:k<t
 ·repeat'(first|refine gE ?_|refine C8 (A5) ?_|refine Ap.sn HI rfl (by rw[I1];show(List.replicate _ fe).length+1<=_;rw[List.length_replicate];omega) (by decide) (Ds k) ?_)
  (refine CD (k+1) ω ω ?_;(exact wB))
 obtain rfl:k=t:=ω
 repeat'(first|refine gE ?_|refine C8 (tC) ?_)
 rfl
def H0:zzA 272 false [] .agg (ay.enc .own ⟨1,[]⟩):=by
 refine fO 2 [] Tryz.func272 rfl ?_ (.inr (ay.enc_fr _))
 repeat'((conv=>whnf);first|with_reducible (first|refine Lm ?_|refine Wm ω ?_|refine Bn ?_|refine jo.wk rfl ?_)|refine Bt ?_|refine Bu ?_|refine C9 ?_)
 exact⟨rfl,rfl,trivial⟩
def rJ(c:dC)(h:EI c):zzA 120 false [.val (some 5) (dC.enc .S c)] (.tup [some 26,none]) (bw.enc .own (world0 c)++[B true]):=by
 have a:=Ft c.w c.V c.c1 c.b7 c.d h.p h.f h.t h.l h.r;refine fO 26 [(4,2,[23,24])] Tryz.func120 rfl ?_ (.inr (aB (bw.enc_fr _) ⟨trivial,trivial⟩))
 repeat'(first|refine gP ?_|refine C8 (H0) ?_)
 rfl
def eS(o:dA)(l:List cn):List C:=[.s o (l.map (cn.enc o))]
def cn.enc_fr(x:cn):g0 (cn.enc .own x):=⟨trivial,trivial,trivial,trivial,trivial,trivial⟩
def M8(l:List cn):g0 (eS .own l):=⟨⟨.inl λh=>(by cases h),bj _ _ λy _=>cn.enc_fr y⟩,trivial⟩
def qN(l:List cn):dB (eS .own l)=eS .S l:=by simp[dB,eS,cn.enc,<-bS,C6]
def rfs(h:ac):List Int:=h.H.d
def Fg(k:ah)(p:Int):(dE k p).1.d=k.d:=by unfold dE;split<;>rfl
def tD(k:ah)(p:Int):∀n,(bD k p n).1.d=k.d
 | 0=>rfl
 | n+1=>by
  unfold bD;split
  ·exact(Fg _ _).trans (tD k p n)
  exact tD k p n
def NY(h:ac)(i:Nat):rfs (kX h i).1=rfs h:=by unfold kX;split<;>rfl
def BJ(h:ac)(t c:Nat):rfs (eJ h t c).1=rfs h:=by
 unfold eJ;split
 ·rfl
 split
 ·rfl
 split
 ·rfl
 split
 ·exact Fg _ _
 exact(NY _ _).trans (Fg _ _)
def MN(h:ac)(t n:Int):rfs (eI h t n).1=rfs h:=by
 unfold eI;split
 ·rfl
 split
 ·rfl
 split
 ·rfl
 split
 ·rfl
 split
 ·split
  ·exact BJ _ _ _
  exact BJ _ _ _
 unfold sg;split
 ·rfl
 split
 ·exact tD _ _ _
 exact((rd _ _ _).2).trans (tD _ _ _)
def P3(h:ac)(t i:Nat):rfs (freeT h t i).1=rfs h:=by
 unfold freeT;split
 ·exact(rd _ _ _).2
 split
 ·rfl
 split
 ·exact(f7 t _ _).2.2.2.2.2.2.2
 split<;>rfl
def BX(t:Nat)(h:ac):∀k,rfs (flushN t h k).1=rfs h
 | 0=>rfl
 | k+1=>((iN _ (spilt (flushN t h k).1 t k)).2.2.2.2.2.2.2).trans (BX t h k)
def JQ{h:ac}(a:bg h [])(b:JI h):∀n,rfs (kr h n).1=rfs h
 | 0=>rfl
 | n+1=>by
  obtain⟨c,d⟩:=zj a b n;unfold kr;split
  ·rename_i e
   unfold nE at e;rw[I0]at e;exact((Jp c e.1).2.2.1).trans (JQ a b n)
  exact JQ a b n
def GI{w:bw}{m:Nat}(h:nl w m)(a:cn):rfs (mw w a).1.Y=rfs w.Y:=by
 unfold mw;split
 ·exact MN _ _ _
 split
 ·split
  ·rfl
  unfold mc;split
  ·unfold te
   split
   ·rfl
   split
   ·exact P3 _ _ _
   rfl
  split
  ·unfold pP
   split
   ·rfl
   split
   ·rfl
   split<;>rfl
  unfold tf;split
  ·exact((rd _ _ _).2).trans (v7 _ _ _).2.2
  rfl
 split
 ·unfold hJ
  split
  ·split<;>rfl
  split
  ·rfl
  split
  ·exact(f7 _ _ _).2.2.2.2.2.2.2
  exact BX _ _ _
 split
 ·unfold rc
  split
  ·exact(iN _ _).2.2.2.2.2.2.2
  rfl
 split
 ·unfold qK
  split
  ·rfl
  show rfs (started w.Y).1=_;unfold rfs;rw[(GS h.inv).2.1]
 split
 ·exact JQ h.inv h.ji _
 rfl
def vK{c:dC}(h:EI c)(acts:List cn):∀n,rfs (rn c acts n).1.Y=c.d
 | 0=>rfl
 | n+1=>(GI (sQ h acts n) _).trans (vK h acts n)
def sY(w:bw):List C:=bK w.Y++ay.enc .S w.c3
def GD(w:bw)(id:Int)(g:w.Y.M.length<=1048576):zzB 274 false [.ptr (sY w),.val none [I id]] [.ptr (sY w),.val none [I id]] .one [I (lU w.Y id)]:=by
 refine fM 28 [] [] [(0,0),(0,0)] Tryz.func274 rfl (λu q=>?_)
 refine ZP ?_
 refine CF (ι:=Nat) (λi=>[(0,.G .box (sY w)),(1,.G .one [I (id)]),(5,.G .one [I ((i:Nat):Int)])]) (λi=>i<=w.Y.M.length/\∀(j:Nat)(z:bi),j<i->w.Y.M[j]? = some z->KK id z=false) (λi=>w.Y.M.length - i) (0) ?_ (⟨X0 _,λj z h=>ω⟩) λi c=>?_
 ·exact wC
 obtain⟨c,b⟩:=c;by_cases d:i<w.Y.M.length
 ·have a:=ar d
  by_cases e:(nth w.Y.M i).Id=id
  ·refine ZB ?_
   refine CH rfl (Z0 (λz=>[I z]) (dw a (O0 e) b).symm) ?_;exact wC
  refine ZB ?_
  (refine CD (i+1) ⟨ω,ep a (W0 e) b⟩ ω ?_;(exact wC))
 refine ZE ?_
 refine CH rfl (Z0 (λz=>[I z]) (fg ω b).symm) ?_;exact wC
def db(y:ac):(bK y).length=24:=rfl
def A3(w:bw)(m n:Nat)(h:nl w m)(B:n<=50):zzB 280 false [.ptr (sY w),.val none [I (n:Nat)]] [.ptr (sY ⟨(kr w.Y n).1,w.c3⟩),.val none [I (n:Nat)]] .one [I ((kr w.Y n).2:Nat)]:=by
 refine fM 35 [(431,[2])] [] [(0,0),(0,0)] Tryz.func280 rfl (λu q=>?_)
 refine ZP ?_
 refine CF (ι:=Nat) (λi=>[(0,.G .box (sY ⟨(kr w.Y i).1,w.c3⟩)),(1,.G .one [I ((n:Nat):Int)]),(5,.G .one [I (((kr w.Y i).2:Nat):Int)]),(6,.G .one [I ((i:Nat):Int)])]) (λi=>i<=n/\(kr w.Y i).2=i) (λi=>n - i) (0) ?_ (⟨X0 _,rfl⟩) λi l=>?_
 ·exact wC
 obtain⟨l,C⟩:=l;obtain⟨o,D⟩:=zj h.inv h.ji i;have b:kr w.Y (i+1)=if nE (kr w.Y i).1=true then(mStep (kr w.Y i).1,(kr w.Y i).2+1) else kr w.Y i:=rfl
 have p:=(aH.1 o.ker).2.2.2.2;by_cases E:i<n
 ·cases c:(kr w.Y i).1.a2 with
  | true=>
   have y:=(DE _ o c).frame (r:=ay.enc .S w.c3) ((db _).trans (db _).symm);by_cases g:(kr w.Y i).1.H.Calls<=99000
   ·have d:nE (kr w.Y i).1=true:=by unfold nE;rw[c,O0 g];rfl
    rw[CC d]at b;generalize kr w.Y i=s at *
    repeat'(first|refine gE ?_|refine Bf.t (O0 g) ?_|refine Bf.t c ?_)
    (refine CD (i+1) ⟨ω,by rw[b];simp only;omega⟩ ω ?_)
    rw[b];exact wC
   have d:nE (kr w.Y i).1=false:=by unfold nE;rw[c,W0 g];rfl
   have a:∀k,kr w.Y (i+k)=kr w.Y i:=λk=>by
    induction k with
    | zero=>rfl
    | succ k j=>show(if nE (kr w.Y (i+k)).1=true then _ else kr w.Y (i+k))=_;rw[j,d,CB (by simp)]
   have e:=a (n - i);rw[show i+(n - i)=n by omega]at e;rw[e];generalize kr w.Y i=s at *
   repeat'(first|refine gE ?_|refine Bf.f (W0 g) ?_|refine Bf.t c ?_)
   refine CH rfl rfl ?_;exact wC
  | false=>
   have d:nE (kr w.Y i).1=false:=by unfold nE;rw[c];rfl
   have a:∀k,kr w.Y (i+k)=kr w.Y i:=λk=>by
    induction k with
    | zero=>rfl
    | succ k j=>show(if nE (kr w.Y (i+k)).1=true then _ else kr w.Y (i+k))=_;rw[j,d,CB (by simp)]
   have e:=a (n - i);rw[show i+(n - i)=n by omega]at e;rw[e];generalize kr w.Y i=s at *
   repeat'(first|refine gE ?_|refine Bf.f c ?_)
   refine CH rfl rfl ?_;exact wC
 obtain rfl:i=n:=ω
 refine ZE ?_
 refine CH rfl rfl ?_;exact wC
def HV{k:ah}(a:aJ k=true):(aJ k&&decide (k.Calls<100000))=decide (k.Calls≠100000):=by
 have:=(aH.1 a).2.2.2.2;rw[a,Bool.true_and,v5,C0,C0];omega
def zu(w:bw)(a:cn)(m:Nat)(h:nl w m)(B:a.b0=5\/a.b0=6\/a.b0=7):zzB 276 false [.ptr (sY w),.val (some 5) (cn.enc .S a)] [.ptr (sY ⟨(hJ w.Y a).1,w.c3⟩),.val (some 5) (cn.enc .S a)] .one [I (hJ w.Y a).2]:=by
 have d:=h.inv;have o:=d.nc;have p:w.Y.T.length<=4:=by have:=(dH.1 d.mail).1.2.1;omega
 have C:=jw.of d.mail;have i:=m8 w.Y.H (aZ d.ker);rw[HV d.ker]at i;have j:=aM a.a0 0 (w.Y.T.length - 1:Int);unfold hJ;refine fM 59 [(423,[2,0]),(424,[2,0])] [(3,267,[15,16,17,18,19,20,21,14,22,23,6,0,1,2,3,4,5,6,7,8,9,10,11,1009,12]),(8,15,[30,31,32,33,34,35,36,37,38,39,40,41,42,43,44])] [(0,0),(0,0)] Tryz.func276 rfl (λu q=>?_);by_cases l:a.b0=5
 ·rw[CC l]
  by_cases e:0<=a.a0/\a.a0<=w.Y.T.length - 1
  ·have y:lO w.Y a:=e
   obtain⟨t,g⟩:=I3 e.1;have b:=FO w.Y.j t d.mail ω;rw[<-g]at b;rw[g]at e |-;simp only[C3];rw[g]at b;by_cases c:0<(nth w.Y.j.U t).length
   ·rw[CC (show lO w.Y a/\0<(nth w.Y.j.U t).length from⟨y,c⟩)]
    rw[CC c,O0 c]at b;rw[<-g]at b
    repeat'(first|refine gB ?_|with_reducible refine Bf.E (λk=>?_) (λk=>?_)|refine CG (b) ⟨⟨rfl,Cf w.Y.j⟩,⟨rfl,rfl⟩,trivial⟩ ?_)
    refine CH rfl rfl ?_;exact wC
   rw[CB (show ¬(lO w.Y a/\0<(nth w.Y.j.U t).length) from λx=>c x.2)];rw[CB c,W0 c]at b;rw[<-g]at b
   repeat'(first|refine gB ?_|with_reducible refine Bf.E (λk=>?_) (λk=>?_)|refine CG (b) ⟨⟨rfl,Cf w.Y.j⟩,⟨rfl,rfl⟩,trivial⟩ ?_)
   refine CH rfl rfl ?_;exact wC
  rw[CB (show ¬(lO w.Y a/\0<(nth w.Y.j.U a.a0.toNat).length) from λx=>e x.1)];have b:=HM w.Y.j a.a0 d.mail ω
  repeat'(first|refine gB ?_|with_reducible refine Bf.E (λk=>?_) (λk=>?_)|refine CG (b) ⟨⟨rfl,Cf w.Y.j⟩,⟨rfl,rfl⟩,trivial⟩ ?_)
  refine CH rfl rfl ?_;exact wC
 rw[CB l];by_cases e:w.Y.H.Calls≠100000;rotate_left
 ·rw[CC (show ¬(w.Y.H.Calls≠100000/\lO w.Y a) from λx=>e x.1)]
  rw[W0 e]at i
  repeat'(first|refine gB ?_|refine CG (i) ⟨⟨rfl,CO _⟩,trivial⟩ ?_)
  refine CH rfl rfl ?_;exact wC
 rw[O0 e]at i;by_cases c:0<=a.a0/\a.a0<=w.Y.T.length - 1;rotate_left
 ·rw[CC (show ¬(w.Y.H.Calls≠100000/\lO w.Y a) from λx=>c x.2)]
  rw[W0 c]at j
  repeat'(first|refine gB ?_|refine CG (i) ⟨⟨rfl,CO _⟩,trivial⟩ ?_)
  refine CH rfl rfl ?_;exact wC
 rw[CB (show ¬¬(w.Y.H.Calls≠100000/\lO w.Y a) from I4 ⟨e,c⟩)];rw[O0 c]at j;obtain⟨t,g⟩:=I3 c.1;by_cases n:a.b0=6
 ·rw[CC n]
  have b:=(wW w.Y t d ω).frame (r:=ay.enc .S w.c3) ((db _).trans (db _).symm);rw[show a.a0.toNat=t by omega];rw[<-g]at b
  repeat'(first|refine gB ?_|refine CG (i) ⟨⟨rfl,CO _⟩,trivial⟩ ?_)
  refine CH rfl rfl ?_;exact wC
 rw[CB n];have b:=(Bx w.Y t d ω).frame (r:=ay.enc .S w.c3) ((db _).trans (db _).symm);rw[show a.a0.toNat=t by omega];rw[<-g]at b
 repeat'(first|refine gB ?_|refine CG (i) ⟨⟨rfl,CO _⟩,trivial⟩ ?_)
 refine CH rfl rfl ?_;exact wC
set_option maxHeartbeats 2000000
def jv(r:ay)(c:ay.sml r):zzA 403 false [.val (some 2) (ay.enc .S r)] .agg (ay.enc .own r):=by
 have e:r.M.length<=1048576:=c.1;refine fO 29 [(5,264,[16,17,18,19,20,21,22,26,0,1,2,3,4,5,6,7,1000,1001,8,1000,1001,9,10,11])] Tryz.func403 rfl ?_ (.inr (ay.enc_fr _))
 refine ZP ?_
 refine CF (ι:=Nat) (λi=>[(2,.G .box [I 0,.z]),(3,.G .box [I r.o,.s .own ((r.M.take i).map (aR.enc .own))]),(10,.G .one ([.s .S (r.M.map (aR.enc .S))])),(11,.G .one [I (r.M.length)]),(12,.G .one [I ((i:Nat):Int)])]) (λi=>i<=r.M.length) (λi=>r.M.length - i) (0) ?_ (X0 _) λi g=>?_
 ·exact wC
 by_cases a:i<r.M.length
 ·have d:=ar a
  have b:(nth r.M i).W.length<=1048576:=c.2 _ (au a)
  repeat'(first|refine gE ?_|refine C8 (cD (nth r.M i).W b) ?_|refine Ap.sn (aK λ_=>rfl) rfl (by simp;omega) (by decide) (fm a) ?_)
  (refine CD (i+1) ω ω ?_;(exact wC))
 refine ZE ?_
 obtain rfl:i=r.M.length:=ω
 rw[I5]
 rfl
def xV(w:bw)(h1:ac.sml w.Y)(a:ay.sml w.c3):zzA 261 false [.val (some 26) (bw.enc .S w)] .agg (bw.enc .own w):=by
 have b:=iu w.Y h1;have c:=jv w.c3 a;refine fO 10 [(1,5,[3,4,5,6,7])] Tryz.func261 rfl ?_ (.inr (bw.enc_fr _))
 refine ZP ?_
 rfl
def tz(o:bi)(a:cn):zzA 263 false [.val (some 4) (bi.enc .S o),.ptr (cn.enc .S a)] .one [B (ic a.N o)]:=by
 refine fO 9 [] Tryz.func263 rfl ?_
 refine ZP ?_
 exact Z0 (λz=>[B z]) ((by unfold ic;rw[v5];simp))
def yC(w:bw)(a:cn)(i m:Nat)(h:nl w m)(S:m<=900)(p:i<w.Y.M.length):zzB 275 false [.ptr (sY w),.val (some 5) (cn.enc .S a),.val none [I (i:Nat)]] [.ptr (sY (mc w a i).1),.val (some 5) (cn.enc .S a),.val none [I (i:Nat)]] .one [I (mc w a i).2]:=by
 have e:=h.inv;have b:=ar p;have J:=nh e (au p);have K:=jH e (au p) (k:=0);have M:1<=(nth w.Y.M i).a1/\(nth w.Y.M i).a1<=1000:=by
  rcases e.oow _ (au p) with⟨s,N,T,U⟩|⟨l,F,d,c⟩
  ·have V:=aL (e.L.sok s N)
   have:=oQ (n:=(nth w.Y.M i).a1) ω;omega
  have W:=cF (e.L.lok l F);omega
 have g:=m8 w.Y.H (aZ e.ker);rw[HV e.ker]at g;unfold mc;refine fM 126 [(416,[2,0,0]),(418,[2,0,0]),(420,[2,0,0])] [(6,7,[29,30,31,32,33,34,35]),(8,269,[40,41,42,43,44,45,46,47,39,48,49,50,51,0,1,2,3,4,5,6,7,8,9,10,11,12,13,1010]),(13,10,[62,63,64,65,66,67,68,69,70,71]),(15,273,[76,77,78,79,80,81,82,83,84,85,86,87,75,88,89,90,91,0,1,2,3,4,5,6,7,8,9,10,11,12,13,14,15,16,17,1014]),(17,15,[93,94,95,96,97,98,99,100,101,102,103,104,105,106,107]),(19,271,[112,113,114,115,116,117,118,119,120,121,111,122,123,124,125,0,1,2,3,4,5,6,7,8,9,10,11,12,13,14,15,1012])] [(0,0),(0,0),(0,0)] Tryz.func275 rfl (λu q=>?_);by_cases G:a.b0=2
 ·rw[CC G]
  unfold te;by_cases d:w.Y.H.Calls=100000
  ·rw[CC d]
   rw[W0 (I4 d)]at g
   repeat'(first|refine gB ?_|refine CG (g) ⟨⟨rfl,CO _⟩,trivial⟩ ?_)
   refine CH rfl rfl ?_;exact wC
  rw[CB d];rw[O0 d]at g;have B:=(QV w.Y i a.a0 e p).frame (r:=ay.enc .S w.c3) ((db _).trans (db _).symm);by_cases c:0<=a.a0/\a.a0<=w.Y.T.length - 1
  ·rw[CC (show lO w.Y a from c)]
   rw[CC c,CC c]at B;have O:=EQ w.c3 (nth w.Y.M i).Id m h.ref ω;generalize freeT w.Y a.a0.toNat i=f at B |-;by_cases o:f.2=0
   ·rw[CC o]
    repeat'(first|refine gB ?_|with_reducible refine Bf.E (λj=>?_) (λj=>?_)|refine CG (g) ⟨⟨rfl,CO _⟩,trivial⟩ ?_|refine Cl.sh O rfl ?_)
    refine CH rfl rfl ?_;exact wC
   rw[CB o]
   repeat'(first|refine gB ?_|with_reducible refine Bf.E (λj=>?_) (λj=>?_)|refine CG (g) ⟨⟨rfl,CO _⟩,trivial⟩ ?_)
   refine CH rfl rfl ?_;exact wC
  rw[CB (show ¬lO w.Y a from c)];rw[CB c,CB c]at B
  repeat'(first|refine gB ?_|with_reducible refine Bf.E (λj=>?_) (λj=>?_)|refine CG (g) ⟨⟨rfl,CO _⟩,trivial⟩ ?_)
  refine CH rfl rfl ?_;exact wC
 rw[CB G];by_cases H:a.b0=3
 ·rw[CC H]
  unfold pP;have C:=aM a.At 0 ((nth w.Y.M i).a1 - 1);by_cases d:0<=a.At/\a.At<=(nth w.Y.M i).a1 - 1;rotate_left
  ·rw[CC d]
   rw[W0 d]at C
   repeat'(first|refine gB ?_|with_reducible refine Bf.E (λj=>?_) (λj=>?_))
   refine CH rfl rfl ?_;exact wC
  rw[CB (I4 d)];rw[O0 d]at C;have D:=(Bk w.Y i a.At a.Value e p d).frame (r:=ay.enc .S w.c3) (by split<;>rfl);have P:=jH e (au p) d;by_cases c:(ax w.Y.H.F.Q (((nth w.Y.M i).Addr+a.At) / 16)).k=1
  ·rw[CC c]
   rw[CC (.inl c),CC c]at D
   repeat'(first|refine gB ?_|with_reducible refine Bf.E (λj=>?_) (λj=>?_))
   refine CH rfl rfl ?_;exact wC
  rw[CB c];by_cases o:0<=a.Value/\a.Value<=999;rotate_left
  ·rw[CC o]
   rw[CC (.inr o),CB c,CC o]at D
   repeat'(first|refine gB ?_|with_reducible refine Bf.E (λj=>?_) (λj=>?_))
   refine CH rfl rfl ?_;exact wC
  rw[CB (I4 o)];rw[CB (λx=>x.elim c λy=>y o),CB c,CB (I4 o)]at D;obtain⟨X,Q⟩:=E9 w.c3 (nth w.Y.M i).Id a.At a.Value m h.ref ω o
  repeat'(first|refine gB ?_|with_reducible refine Bf.E (λj=>?_) (λj=>?_))
  refine CH rfl rfl ?_;exact wC
 rw[CB H];unfold tf;by_cases d:w.Y.H.Calls=100000
 ·rw[CB (λx=>x.1 d)]
  rw[W0 (I4 d)]at g
  repeat'(first|refine gB ?_|refine CG (g) ⟨⟨rfl,CO _⟩,trivial⟩ ?_)
  refine CH rfl rfl ?_;exact wC
 rw[O0 d]at g;by_cases c:hC w.Y i a.Value
 ·rw[CC ⟨d,c⟩]
  have t:=(tw w.Y i a.Value e p c.1).frame (r:=ay.enc .S w.c3) (by split<;>rfl);rw[CC c,O0 c]at t;obtain⟨Y,R⟩:=HE w.c3 (nth w.Y.M i).Id a.Value m h.ref ω
  repeat'(first|refine gB ?_|refine CG (g) ⟨⟨rfl,CO _⟩,trivial⟩ ?_)
  refine CH rfl rfl ?_;exact wC
 rw[CB (λx=>c x.2)];by_cases o:p9 w.Y (nth w.Y.M i).Addr<0
 ·have t:=(J8 w.Y (nth w.Y.M i).Addr a.Value (by have:=e.lens.larges;omega) e.L.lok o).frame (r:=ay.enc .S w.c3) ((db _).trans (db _).symm)
  repeat'(first|refine gB ?_|refine CG (g) ⟨⟨rfl,CO _⟩,trivial⟩ ?_)
  refine CH rfl rfl ?_;exact wC
 have t:=(tw w.Y i a.Value e p ω).frame (r:=ay.enc .S w.c3) (by split<;>rfl);rw[CB c,W0 c]at t
 repeat'(first|refine gB ?_|refine CG (g) ⟨⟨rfl,CO _⟩,trivial⟩ ?_)
 refine CH rfl rfl ?_;exact wC
def nl.fit{w:bw}{m:Nat}(h:nl w m)(a:gr w.Y.H.d):ac.sml w.Y/\ac.wf w.Y:=
 ⟨(h.inv.fit a (jw.of h.inv.mail).sml).sml,h.inv.wf a⟩
def J0(w:bw)(a:cn)(m:Nat)(h:nl w m)(H:m<=900)(J:gr w.Y.H.d):zzB 121 false [.ptr (sY w),.val (some 5) (cn.enc .S a)] [.ptr (sY (mw w a).1),.val (some 5) (cn.enc .S a)] .one [I (mw w a).2]:=by
 have i:=h.inv;have j:=i.nums;unfold cg at j;rw[C0]at j;unfold mw;refine fM 123 [(74,[2,0,0]),(274,[2,0]),(275,[2,0,0]),(276,[2,0]),(278,[2,0]),(279,[2]),(280,[2,0])] [(3,265,[13,14,15,16,17,18,19,21,22,0,1,2,3,4,5,6,7,8,9,10,11,1010,12]),(5,269,[26,27,28,29,30,31,32,33,25,34,35,36,37,0,1,2,3,4,5,6,7,8,9,10,11,12,13,1010]),(19,21,[62,63,64,65,66,67,68,69,70,71,72,73,74,75,76,77,78,79,80,81,82]),(21,5,[86,87,88,89,90])] [(0,0),(0,0)] Tryz.func121 rfl (λu q=>?_);by_cases C:a.b0=1
 ·rw[CC C]
  have c:=(Ba w.Y a.a0 a.N i).frame (r:=ay.enc .S w.c3) ((db _).trans (db _).symm);by_cases e:(eI w.Y a.a0 a.N).2.2=0
  ·rw[CC e]
   have o:1<=a.N/\a.N<=1000:=by
    refine Classical.byContradiction λp=>?_
    unfold eI at e;rw[CC p]at e;split at e
    ·exact absurd (show(5:Int)=0 from e) (by decide)
    split at e
    ·exact absurd (show(1:Int)=0 from e) (by decide)
    exact absurd (show(2:Int)=0 from e) (by decide)
   have l:=AH w.c3 a.N m h.ref ω o;generalize eI w.Y a.a0 a.N=f at c e |-
   repeat'(first|refine gB ?_|with_reducible refine Bf.E (λb=>?_) (λb=>?_))
   refine CH rfl rfl ?_;exact wC
  rw[CB e];generalize eI w.Y a.a0 a.N=f at c e |-
  repeat'(first|refine gB ?_|with_reducible refine Bf.E (λb=>?_) (λb=>?_))
  refine CH rfl rfl ?_;exact wC
 rw[CB C];by_cases D:a.b0=2\/a.b0=3\/a.b0=4
 ·rw[CC D]
  have c:=GD w a.N (by have:=i.lens.objs;omega);by_cases e:lU w.Y a.N<0
  ·rw[CC e]
   repeat'(first|refine gB ?_|with_reducible refine Bf.E (λb=>?_) (λb=>?_))
   all_goals first|omega|skip
   all_goals
    refine CH rfl rfl ?_;exact wC
  rw[CB e];obtain⟨K,O,P⟩:=ek (KK a.N) w.Y.M (by unfold lU at e;omega);have l:=yC w a (lU w.Y a.N).toNat m h H K;rw[show(((lU w.Y a.N).toNat:Nat):Int)=lU w.Y a.N by omega]at l
  repeat'(first|refine gB ?_|with_reducible refine Bf.E (λb=>?_) (λb=>?_))
  all_goals first|omega|skip
  all_goals
   refine CH rfl rfl ?_;exact wC
 rw[CB D];by_cases y:a.b0=5\/a.b0=6\/a.b0=7
 ·rw[CC y]
  have c:=zu w a m h y
  repeat'(first|refine gB ?_|with_reducible refine Bf.E (λb=>?_) (λb=>?_))
  all_goals first|omega|skip
  all_goals
   refine CH rfl rfl ?_;exact wC
 rw[CB y];by_cases F:a.b0=8
 ·rw[CC F]
  unfold rc;have d:=m8 w.Y.H (aZ i.ker);rw[HV i.ker]at d;have c:=aM a.N 0 1000;by_cases g:w.Y.H.Calls≠100000;rotate_left
  ·rw[CB (λx=>g x.1)]
   rw[W0 g]at d
   repeat'(first|refine gB ?_|with_reducible refine Bf.E (λb=>?_) (λb=>?_)|refine CG (d) ⟨⟨rfl,CO _⟩,trivial⟩ ?_)
   refine CH rfl rfl ?_;exact wC
  rw[O0 g]at d;by_cases k:0<=a.N/\a.N<=1000;rotate_left
  ·rw[CB (λx=>k x.2.1)]
   rw[W0 k]at c
   repeat'(first|refine gB ?_|with_reducible refine Bf.E (λb=>?_) (λb=>?_)|refine CG (d) ⟨⟨rfl,CO _⟩,trivial⟩ ?_)
   refine CH rfl rfl ?_;exact wC
  rw[O0 k]at c;by_cases B:w.Y.a8+a.N<=1000000
  ·rw[CC ⟨g,k,B⟩]
   have l:=(Ff w.Y a.N i k B).frame (r:=ay.enc .S w.c3) ((db _).trans (db _).symm)
   repeat'(first|refine gB ?_|with_reducible refine Bf.E (λb=>?_) (λb=>?_)|refine CG (d) ⟨⟨rfl,CO _⟩,trivial⟩ ?_)
   refine CH rfl rfl ?_;exact wC
  rw[CB (λx=>B x.2.2)]
  repeat'(first|refine gB ?_|with_reducible refine Bf.E (λb=>?_) (λb=>?_)|refine CG (d) ⟨⟨rfl,CO _⟩,trivial⟩ ?_)
  refine CH rfl rfl ?_;exact wC
 rw[CB F];by_cases G:a.b0=9
 ·rw[CC G]
  unfold qK;obtain⟨L,M⟩:=h.fit J;have d:=FT w.Y L M;rw[show eE w.Y=true from i.to]at d;cases g:w.Y.a2 with
  | true=>
   rw[CC rfl]
   repeat'(first|refine gB ?_|with_reducible refine Bf.E (λb=>?_) (λb=>?_)|refine Bf.t g ?_)
   refine CH rfl rfl ?_;exact wC
  | false=>
   rw[CB (by simp)];have c:=(AM w.Y i).frame (r:=ay.enc .S w.c3) ((db _).trans (db _).symm);cases k:(started w.Y).2<;>rw[k]at c
   ·rw[CB (by simp)]
    repeat'(first|refine gB ?_|with_reducible refine Bf.E (λb=>?_) (λb=>?_)|refine Bf.f g ?_|refine CG (d) ⟨⟨rfl,bN w.Y⟩,trivial⟩ ?_)
    refine CH rfl rfl ?_;exact wC
   rw[CC rfl]
   repeat'(first|refine gB ?_|with_reducible refine Bf.E (λb=>?_) (λb=>?_)|refine Bf.f g ?_|refine CG (d) ⟨⟨rfl,bN w.Y⟩,trivial⟩ ?_)
   refine CH rfl rfl ?_;exact wC
 rw[CB G];by_cases k10:a.b0=10;rotate_left
 ·rw[CB (λx=>k10 x.1)]
  repeat'(first|refine gB ?_|with_reducible refine Bf.E (λb=>?_) (λb=>?_))
  refine CH rfl rfl ?_;exact wC
 have d:=aM a.N 0 50;by_cases g:0<=a.N/\a.N<=50
 ·rw[CC ⟨k10,g⟩]
  rw[O0 g]at d;obtain⟨n,p⟩:=I3 g.1;have c:=A3 w m n h ω;rw[show a.N.toNat=n by omega];rw[<-p]at c
  repeat'(first|refine gB ?_|with_reducible refine Bf.E (λb=>?_) (λb=>?_))
  refine CH rfl rfl ?_;exact wC
 rw[CB (λx=>g x.2)];rw[W0 g]at d
 repeat'(first|refine gB ?_|with_reducible refine Bf.E (λb=>?_) (λb=>?_))
 refine CH rfl rfl ?_;exact wC
set_option maxHeartbeats 2000000
set_option maxHeartbeats 2000000
set_option maxHeartbeats 2000000
def jC(sp:List aA)(ps:List Int)(b:Int):Nat->Int
 | 0=>b
 | j+1=>if(nth sp j).R∈ps then bor (jC sp ps b j) (nth sp j).a6 else jC sp ps b j
def zC{sp:List aA}(h:∀s∈sp,bk s=true){ps:List Int}{b:Int}(a:0<=b/\b<=65535):∀j,j<=sp.length->0<=jC sp ps b j/\jC sp ps b j<=65535
 | 0,_=>a
 | j+1,d=>by
  have c:=zC h (ps:=ps) a j ω;simp only[jC];split
  ·exact J1 c (mB h ω)
  exact c
def rF(h:ac)(i:Nat)(n:dM h.K)(c:wT h)(a:∀s∈h.K,bk s=true)(t:i<h.K.length):zzA 336 false [.val (some 24) (ac.enc .S h),.val none [I (i:Nat)]] .one [I (jC h.K (aV h (nth h.K i).R) (nth h.K i).a6 h.K.length)]:=by
 have C:=n.1;have u:=ar t;have d:=mB a t;have w:=aI ((i:Nat):Int) 0 ((h.K.length:Int) - 1);rw[O0 (show(0:Int)<=(i:Nat)/\((i:Nat):Int)<=(h.K.length:Int) - 1 by omega)]at w;have y:=kL h (nth h.K i).R c;have o:=fG h (nth h.K i).R;have D:eO h<=1048576:=c.1;obtain⟨ps,p⟩ : ∃ps,aV h (nth h.K i).R=ps:=⟨_,rfl⟩
 obtain⟨b,q⟩ : ∃b,(nth h.K i).a6=b:=⟨_,rfl⟩
 rw[p]at y o |-;rw[q]at d |-;have E:jC h.K ps b 0=b:=rfl;refine fO 47 [(4,7,[22,23,24,25,26,27,28])] Tryz.func336 rfl ?_
 refine ZP ?_
 refine CF (ι:=Nat) (λj=>[(5,.G .one [I (jC h.K ps b j)]),(6,.G .one (aG .own ps)),(31,.G .one (bW .S h.K)),(32,.G .one [I ((h.K.length:Nat))]),(33,.G .one [I ((j:Nat):Int)])]) (λj=>j<=h.K.length) (λj=>h.K.length - j) (0) ?_ (X0 _) λj F=>?_
 ·exact wC
 by_cases B:j<h.K.length
 ·have k:=ar B
  have r:=zC a (ps:=ps) d j F;have l:=rM ps (nth h.K j).R ω;by_cases e:(nth h.K j).R∈ps
  ·have g:jC h.K ps b (j+1)=bor (jC h.K ps b j) (nth h.K j).a6:=CC e
   rw[O0 e]at l
   repeat'(first|refine gE ?_|refine CL (or64 r (mB a B)) ?_|refine CG (l) ⟨⟨rfl,d9 _⟩,⟨rfl,rfl⟩,trivial⟩ ?_)
   (refine CD (j+1) ω ω ?_;(exact wC))
  have g:jC h.K ps b (j+1)=jC h.K ps b j:=CB e;rw[W0 e]at l
  repeat'(first|refine gE ?_|refine CG (l) ⟨⟨rfl,d9 _⟩,⟨rfl,rfl⟩,trivial⟩ ?_)
  (refine CD (j+1) ω ω ?_;(exact wC))
 obtain rfl:j=h.K.length:=ω
 refine ZE ?_
 rfl
def P4(a b:Int)(k:Nat):(bor a b).toNat.testBit k=true↔a.toNat.testBit k=true\/b.toNat.testBit k=true:=by
 unfold bor;rw[C3,Nat.testBit_or,W6]
def KM(sp:List aA)(p b:Int)(k:Nat):∀j,(pO sp p b j).toNat.testBit k=true↔b.toNat.testBit k=true\/∃i,i<j/\(nth sp i).R=p/\(nth sp i).a6.toNat.testBit k=true
 | 0=>by simp[pO]
 | j+1=>by
  have g:=KM sp p b k j;simp only[pO];split
  ·rename_i e
   rw[P4,g];constructor
   ·rintro((h|⟨i,d,a,c⟩)|h)
    ·exact .inl h
    ·exact .inr ⟨i,ω,a,c⟩
    exact .inr ⟨j,ω,e,h⟩
   rintro(h|⟨i,d,a,c⟩)
   ·exact .inl (.inl h)
   by_cases f:i=j
   ·subst f;exact .inr c
   exact .inl (.inr ⟨i,ω,a,c⟩)
  rename_i e;rw[g];constructor
  ·rintro(h|⟨i,d,a,c⟩)
   ·exact .inl h
   exact .inr ⟨i,ω,a,c⟩
  rintro(h|⟨i,d,a,c⟩)
  ·exact .inl h
  by_cases f:i=j
  ·subst f;exact absurd a e
  exact .inr ⟨i,ω,a,c⟩
def GT(sp:List aA)(ps:List Int)(b:Int)(k:Nat):∀m,(i6 sp ps b m).toNat.testBit k=true↔b.toNat.testBit k=true\/∃u,u<m/\∃i,i<sp.length/\(nth sp i).R=nth ps u/\(nth sp i).a6.toNat.testBit k=true
 | 0=>by simp[i6]
 | m+1=>by
  have c:=GT sp ps b k m;simp only[i6];rw[KM,c];constructor
  ·rintro((h|⟨u,d,a⟩)|h)
   ·exact .inl h
   ·exact .inr ⟨u,ω,a⟩
   exact .inr ⟨m,ω,h⟩
  rintro(h|⟨u,d,a⟩)
  ·exact .inl (.inl h)
  by_cases e:u=m
  ·subst e;exact .inr a
  exact .inl (.inr ⟨u,ω,a⟩)
def Gs(sp:List aA)(ps:List Int)(b:Int)(k:Nat):∀j,(jC sp ps b j).toNat.testBit k=true↔b.toNat.testBit k=true\/∃i,i<j/\(nth sp i).R∈ps/\(nth sp i).a6.toNat.testBit k=true
 | 0=>by simp[jC]
 | j+1=>by
  have g:=Gs sp ps b k j;simp only[jC];split
  ·rename_i e
   rw[P4,g];constructor
   ·rintro((h|⟨i,d,a,c⟩)|h)
    ·exact .inl h
    ·exact .inr ⟨i,ω,a,c⟩
    exact .inr ⟨j,ω,e,h⟩
   rintro(h|⟨i,d,a,c⟩)
   ·exact .inl (.inl h)
   by_cases f:i=j
   ·subst f;exact .inr c
   exact .inl (.inr ⟨i,ω,a,c⟩)
  rename_i e;rw[g];constructor
  ·rintro(h|⟨i,d,a,c⟩)
   ·exact .inl h
   exact .inr ⟨i,ω,a,c⟩
  rintro(h|⟨i,d,a,c⟩)
  ·exact .inl h
  by_cases f:i=j
  ·subst f;exact absurd a e
  exact .inr ⟨i,ω,a,c⟩
def PP{sp:List aA}(h:∀s∈sp,bk s=true){ps:List Int}{b:Int}(f:0<=b/\b<=65535):jC sp ps b sp.length=i6 sp ps b ps.length:=by
 have a:=zC h (ps:=ps) f sp.length (V3 _);have c:=lT h (ps:=ps) f ps.length;have e:(jC sp ps b sp.length).toNat=(i6 sp ps b ps.length).toNat:=by
  apply Nat.eq_of_testBit_eq;intro k;rw[v5,Gs,GT];constructor
  ·rintro(h|⟨i,a,c,d⟩)
   ·exact .inl h
   obtain⟨u,g⟩:=List.getElem?_of_mem c;exact .inr ⟨u,(Z2.1 g).1,i,a,(b8 g).symm,d⟩
  rintro(h|⟨u,a,i,c,d,j⟩)
  ·exact .inl h
  exact .inr ⟨i,c,by rw[d];exact au a,j⟩
 omega
def w7{i:Nat}(a:∀s∈h.K,bk s=true)(b:i<h.K.length):jC h.K (aV h (nth h.K i).R) (nth h.K i).a6 h.K.length=dU h i:=PP a (mB a b)
def Af(h:ac)(a:∀o∈h.M,0<=o.a1/\o.a1<=1000)(e:h.M.length<=1048576):zzA 18 false [.val (some 24) (ac.enc .S h)] .one [I (o9 h)]:=by
 refine fO 19 [] Tryz.func18 rfl ?_
 refine ZP ?_
 refine CF (ι:=Nat) (λk=>[(3,.G .one [I (rV h.M k)]),(7,.G .one (nI .S h.M)),(8,.G .one [I (h.M.length)]),(9,.G .one [I ((k:Nat):Int)])]) (λk=>k<=h.M.length) (λk=>h.M.length - k) (0) ?_ (X0 _) λk d=>?_
 ·exact wC
 have g:=np a k d;by_cases b:k<h.M.length
 ·have c:=ar b
  have i:=a _ (au b)
  refine ZE ?_
  (refine CD (k+1) ω ω ?_;(exact wC))
 obtain rfl:k=h.M.length:=ω
 refine ZE ?_
 rfl
def pX(k b:Int)(e:b<=9223372036854775807):zzA 334 false [.val none [I (slots k)],.val none [I b]] .one (aG .own (nP k b)):=by
 have c:=r6 k b;have n:0<=slots k/\slots k<=16:=by unfold slots;repeat' split<;>omega
 unfold nP;cases g:My k b<;>rw[g]at c
 ·rw[CB (by simp)]
  refine fO 26 [] Tryz.func334 rfl ?_ (.inr (bO _))
  repeat'((conv=>whnf);first|with_reducible (first|refine Lm ?_|refine Wm ω ?_|refine Bn ?_|refine jo.wk rfl ?_)|refine Bt ?_|refine Bu ?_|refine C8 (c) ?_)
  all_goals exact⟨rfl,trivial⟩
 rw[CC rfl];refine fO 26 [] Tryz.func334 rfl ?_ (.inr (bO _))
 refine ZP ?_
 refine CF (ι:=Nat) (λj=>[(0,.G .one [I (slots k)]),(1,.G .one [I (b)]),(5,.G .one (aG .own (ma b j))),(6,.G .one [I ((j:Nat):Int)])]) (λj=>j<=(slots k).toNat) (λj=>(slots k).toNat - j) (0) ?_ (X0 _) λj o=>?_
 ·exact wC
 have h:=q9 b j;by_cases p:j<(slots k).toNat
 ·have d:=gU b (j:Nat) e
  have a:ma b (j+1)=if bh b (j:Nat)=true then ma b j else ma b j++[((j:Nat):Int)]:=rfl
  cases i:bh b (j:Nat)<;>rw[i]at d a
  ·rw[CB (by simp)]at a
   repeat'(first|refine gE ?_|refine CT cR (λr l=>by rw[V1.1 l];rfl) (by simp[bn,eP]) (by simp;omega) (by simp only[I1];exact xi (by simp;omega) (by decide)) rfl ?_)
   (refine CD (j+1) ω ω ?_)
   rw[a]
   repeat'(first|exact trivial|rfl| exact eQ _ |exact CJ rfl (CJ (Z0 (C.s dA.own) (by simp[rI])) trivial)|refine CJ ?_ ?_|(exact Fy (by first|omega|(simp only;omega)|(simp;omega))))
  rw[CC rfl]at a
  refine ZE ?_
  (refine CD (j+1) ω ω ?_)
  rw[a];exact wC
 obtain rfl:j=(slots k).toNat:=ω
 refine ZE ?_
 rfl
def AQ(b i:Int)(d:0<=b/\b<=65535)(a:0<=i/\i<=15):zzA 338 false [.val none [I b],.val none [I i]] .one [I (gC b i)]:=by
 have c:=qJ b i;rw[O0 ω]at c;have e:=(or64 (z1:=b) (z2:=2 ^ i.toNat) d (by have:=shl64 a;omega)).trans (Di b i);refine fO 14 [] Tryz.func338 rfl ?_
 repeat'(first|refine gP ?_|refine CN ω ?_|refine CL (shl64 a).1 ?_|refine CL e ?_)
 rfl
def D4(f:aT)(i:Nat):aT.enc .own ⟨f.W,f.y.set i true⟩ = [.s .own (f.W.map (aG .own)),.s .own ((f.y.map (rB .own)).set i (rB .own true))]:=by
 simp[aT.enc,V6]
def wK(f:aT):aT × Int × Bool:=
 if cj (λu=>!u) f.y<0 then(f,-1,false) else(⟨f.W,f.y.set (cj (λu=>!u) f.y).toNat true⟩,cj (λu=>!u) f.y,true)
def ym(f:aT)(l:cP f=true)(b:aT.sml f):zzA 460 false [.val (some 2) (aT.enc .S f)] (.tup [some 2,none,none]) (aT.enc .own (wK f).1++[I (wK f).2.1,B (wK f).2.2]):=by
 have n:=pn f b;have h:=mR f b;rw[l]at h;have p:f.y.length<=1048576:=b.2;refine fO 30 [] Tryz.func460 rfl ?_ (.inr (aB (aT.enc_fr _) ⟨trivial,trivial,trivial⟩))
 refine ZP ?_
 refine CF (ι:=Nat) (λi=>[(2,.G .box [.z,.z]),(5,.G .box (aT.enc .own f)),(13,.G .one (vN .S f.y)),(14,.G .one [I (f.y.length)]),(15,.G .one [I ((i:Nat):Int)])]) (λi=>i<=f.y.length/\∀(j:Nat)(z:Bool),j<i->f.y[j]? = some z->(!z)=false) (λi=>f.y.length - i) (0) ?_ (⟨X0 _,λj z q=>ω⟩) λi k=>?_
 ·exact wC
 obtain⟨k,c⟩:=k;by_cases o:i<f.y.length
 ·have a:=ar o
  cases e:nth f.y i<;>rw[e]at a
  ·have d:cj (λu=>!u) f.y=(i:Nat):=dw a rfl c
   have g:wK f=((⟨f.W,f.y.set i true⟩ : aT),((i:Nat):Int),true):=by unfold wK;rw[d,CB ω];rfl
   rw[g];simp only;rw[D4]
   repeat'(first|refine gE ?_|refine CM rfl rfl (aa a) rfl (O1 rfl) rfl ?_)
   rfl
  refine ZE ?_
  (refine CD (i+1) ⟨ω,ep a rfl c⟩ ω ?_;(exact wC))
 have d:cj (λu=>!u) f.y = -1:=fg ω c;have g:wK f=(f,-1,false):=by unfold wK;rw[d];rfl
 rw[g]
 refine ZE ?_
 rfl
variable{r:List C}{rows:List (List C)}
def dN.fzAt{w:World}{S F:af}{o:dA}{v:Value}(h:dN w S F (.s o rows) v)(ho:o≠.S)(D:rows[k]? = some r) :
  ∃V:af,(∀b q,V b q->F b q)/\dN w (λb q=>S b q\/V b q) (λb q=>F b q/\¬V b q) (.s o (rows.set k (dB r))) v:=by
 cases h with
 | nil=>simp at D
 | S=>exact absurd rfl ho
 | own _ _ g K n O _ u f P Q M E G X hu N Y Z=>
  have A:k<n:=by have:=(Z2.1 D).1;omega
  have hq:∀j,j<K->(k*K+j) / K=k:=λj a=>by
   rw[Nat.mul_comm,Nat.mul_add_div ω,Nat.div_eq_of_lt a,Nat.add_zero]
  refine⟨λb q=>∃j,j<K/\f (k*K+j) b q,λb q ⟨j,a,l⟩=>(N _ (dQ A a) b q l).1,?_⟩;refine .own _ o g K n O _ u (λq=>if q / K=k then NO else f q) P (by simpa using Q) (λr' R=>?_) E G (λq d=>⟨⟨(X q d).1,λ⟨j,a,l⟩=>(N _ (dQ A a) _ _ l).2 ⟨rfl,d⟩⟩,(X q d).2⟩) hu (λq d b y l=>?_) (λq T h1 h2 h3 b y H J=>?_) (λi j r' c L a=>?_)
  ·rcases Y6 R with h|rfl
   ·exact M _ h
   rw[bS,I1];exact M _ (O2 D)
  ·replace l:(if q / K=k then NO else f q) b y:=l
   split at l
   ·exact l.elim
   rename_i B;refine⟨⟨(N q d b y l).1,λ⟨j,a,U⟩=>Y q (k*K+j) d (dQ A a) (λe=>B (by rw[e];exact hq j a)) b y l U⟩,(N q d b y l).2⟩
  ·replace H:(if q / K=k then NO else f q) b y:=H
   replace J:(if T / K=k then NO else f T) b y:=J;split at H
   ·exact H.elim
   split at J
   ·exact J.elim
   exact Y q T h1 h2 h3 b y H J
  by_cases e:i=k
  ·subst e
   have W:(rows.set i (dB r))[i]? = some (dB r):=by
    rw[t4 ω]
   rw[W]at L;obtain rfl:=Option.some.inj L;rw[bS,W3]at a;cases p:r[j]? with
   | none=>rw[p]at a;cases a
   | some c'=>
    rw[p]at a;simp only[O5,C1]at a;subst a;have t:=(sD Q M D p).2;show dN w _ (if(i*K+j) / K=i then NO else f (i*K+j)) _ _;rw[CC (hq j t)];exact(Z i j r c' D p).freeze.mono (λb o h=>h.elim .inl λh=>.inr ⟨j,t,h⟩) (λ_ _ h=>h)
  rw[List.getElem?_set_ne ω]at L;have t:=(sD Q M L a).2;have B:¬(i*K+j) / K=k:=by
   rw[Nat.mul_comm,Nat.mul_add_div ω,Nat.div_eq_of_lt t,Nat.add_zero];exact e
  show dN w _ (if(i*K+j) / K=k then NO else f (i*K+j)) _ _;rw[CB B];exact(Z i j r' c L a).mono (λ_ _ h=>.inl h) (λ_ _ h=>h)
def cC.fzAt{w:World}{S F:af}{cs:List C}{u:Nat->Value}(h:cC w S F cs u){off:Nat}{o:dA}(B:cs[off]? = some (.s o rows))(G:o≠.S)(H:rows[k]? = some r) :
  ∃V:af,(∀b q,V b q->F b q)/\cC w (λb q=>S b q\/V b q) (λb q=>F b q/\¬V b q) (cs.set off (.s o (rows.set k (dB r)))) u:=by
 obtain⟨f,D,y,t⟩:=h;have i:=(Z2.1 B).1;obtain⟨V,E,J⟩:=(D off _ B).fzAt G H;refine⟨V,λb q A=>y off i b q (E b q A),λj=>if j=off then(λb q=>f off b q/\¬V b q) else f j,λj c g=>?_,λj g b q d=>?_,λj p g l n b q d a=>?_⟩
 ·by_cases e:j=off
  ·subst e
   rw[t4 i]at g;obtain rfl:=Option.some.inj g;simpa using J
  rw[List.getElem?_set_ne ω]at g;show dN w _ (if j=off then _ else f j) _ _;rw[CB e];exact(D j c g).mono (λ_ _ h=>.inl h) (λ_ _ h=>h)
 ·rw[Z1]at g
  replace d:(if j=off then(λb q=>f off b q/\¬V b q) else f j) b q:=d;split at d
  ·exact⟨y off i b q d.1,d.2⟩
  rename_i e;exact⟨y j g b q d,λA=>t j off g i e b q d (E b q A)⟩
 rw[Z1]at g l;replace d:(if j=off then(λb q=>f off b q/\¬V b q) else f j) b q:=d;replace a:(if p=off then(λb q=>f off b q/\¬V b q) else f p) b q:=a;split at d
 ·rename_i e
  rw[CB ω]at a;exact t j p g l n b q (e ▸ d.1) a
 split at a
 ·rename_i e
  exact t j p g l n b q d (e ▸ a.1)
 exact t j p g l n b q d a
variable{rcs:List C}
def am.fzAt{P:Program}{f:Nat}{sh:Bool}{A:List RA}{k:Kd}(h:am P f sh A k rcs){off:Nat}{o:dA}(g:rcs[off]? = some (.s o rows))(i:o≠.S){j:Nat}(l:rows[j]? = some r) :
  am P f sh A k (rcs.set off (.s o (rows.set j (dB r)))):=by
 obtain⟨n,p⟩:=h;refine⟨n,λw S t u y=>(p w S t u y).mono λe w1 B=>?_⟩;obtain⟨v,D,E,X,S1,d,F,G,H,J⟩:=B;obtain⟨V,K,L⟩:=J.fzAt g i l;refine⟨v,D,E,_,_,λb q c=>d b q c.1,λb q c=>?_,λb q c a=>?_,by rw[Z1];exact H,L⟩
 ·rcases c with c|c
  ·exact F b q c
  exact .inr (d b q (K b q c))
 rcases a with a|a
 ·exact G b q c.1 a
 exact c.2 a
def aW.noS{P:Program}{f:Nat}{A B:List MA}{k:Kd}(h:aW P f true A B k rcs)(d:∀(w:World)(S:af)(V:Nat->af)(vs:List Value),MV w S V A vs->MV w NO V A vs):aW P f false A B k rcs:=by
 obtain⟨g,j⟩:=h;refine⟨g,λw S V vs L l c n=>(j w NO V vs (λ_ _ h=>h.elim) (λi b o a=>⟨(l i b o a).1,λh=>h.elim⟩) c (d w S V vs n)).mono λe w1 p=>?_⟩;obtain⟨v,q,r,X,t,S1,u,y,D,E,F,G,H,J,K,a10⟩:=p;exact⟨v,q,r,X,t,S1,u,y,λb o a=>(D b o a).elim (λh=>h.2.elim) .inr,E,F,G,H,J,K,a10.mono λb o a=>a.elim (λh=>h.elim) .inr⟩
def UC(c:aF)(k:Nat):List C:=if 0<(nth c.X k).length then [.s .own ((c.X.map (aG .own)).set k (aG .S ((nth c.X k).take ((nth c.X k).length - 1)))),I (nth (nth c.X k) ((nth c.X k).length - 1)),B true] else aF.enc .own c++[I (-1),B false]
def zz(c:aF)(k:Nat)(r:bz c=true)(P:k<=3):zzB 186 false [.mut (some 1) (aF.enc .own c),.val none [I (k:Nat)]] [.mut (some 1) (aF.enc .own c),.val none [I (k:Nat)]] (.tup [some 1,none,none]) (UC c k):=by
 obtain⟨Q,t⟩:=dK r;have d:aF.sml c:=⟨ω,λl C=>by have:=t l C;show l.length<=1048576;omega⟩
 have e:=sP c k d;rw[r,O0 ω]at e;have a:=lJ (c:=c) (k:=k) ω;have D:=t _ (au (xs:=c.X) (i:=k) ω);refine aW.noS ?_ λw S V E F=>?_
 case refine_2=>
  match E,F with
  | [v,R],⟨⟨G,u,H,J⟩,⟨K,L,M,N⟩,_⟩=>
   exact⟨⟨G,u,H,J.fresh (Cg c)⟩,⟨K,L,M,N.fresh ⟨trivial,trivial⟩⟩,trivial⟩
 unfold UC;by_cases y:0<(nth c.X k).length
 ·rw[CC y]
  have g:zzA 182 false [.val (some 1) (aF.enc .S c)] .agg [.s .own ((c.X.map (aG .own)).set k (aG .S (nth c.X k)))]:=by
   have h:=(gT c d).fzAt (off:=0) (o:=.own) (rows:=c.X.map (aG .own)) rfl (by simp) (j:=k) (aa a);rw[d9]at h;exact h
  have n:((c.X.map (aG .own)).set k (aG .S (nth c.X k)))[k]? = some (aG .S (nth c.X k)):=t4 (by rw[I1];omega);have B:=ar (xs:=nth c.X k) (i:=(nth c.X k).length - 1) ω;have b:(nth c.X k)[(((nth c.X k).length:Int) - 1).toNat]? = some (nth (nth c.X k) ((nth c.X k).length - 1)):=by rw[show(((nth c.X k).length:Int) - 1).toNat=(nth c.X k).length - 1 by omega];exact B
  have p:((((nth c.X k).length:Nat):Int) - 1)=(((nth c.X k).length - 1:Nat):Int):=ω
  have O:((c.X.map (aG .own)).set k (aG .S (nth c.X k))).set k (aG .S ((nth c.X k).take ((nth c.X k).length - 1)))=(c.X.map (aG .own)).set k (aG .S ((nth c.X k).take ((nth c.X k).length - 1))):=List.set_set ..;rw[<-O];refine fM 54 [] [(6,10,[41,42,43,44,45,46,47,48,49,50])] [(2,0),(0,0)] Tryz.func186 rfl (λu q=>?_) (.inl rfl)
  repeat'(first|refine gB ?_|refine CE rfl n rfl ?_|refine CG (e) ⟨⟨rfl,CY c⟩,⟨rfl,rfl⟩,trivial⟩ ?_|refine CG (g) ⟨⟨rfl,CY c⟩,trivial⟩ ?_|refine CK ω (aa b) ?_|refine CA n ?_|refine Rw.two rfl (aa a) rfl rfl (aa b) rfl ?_|refine CS ((nth c.X k).length - 1) p (by rw[I1];omega) (aK λ_=>rfl) (MW _ _) ?_|refine CM rfl rfl n rfl (O1 rfl) rfl ?_)
  refine CH rfl rfl ?_;exact wC
 rw[CB y];have g:=gT c d;refine fM 54 [] [(6,10,[41,42,43,44,45,46,47,48,49,50])] [(2,0),(0,0)] Tryz.func186 rfl (λu q=>?_) (.inl rfl)
 repeat'(first|refine gB ?_|refine CG (e) ⟨⟨rfl,CY c⟩,⟨rfl,rfl⟩,trivial⟩ ?_|refine CG (g) ⟨⟨rfl,CY c⟩,trivial⟩ ?_)
 refine CH rfl rfl ?_;exact wC
set_option maxRecDepth 100000
def Gb:∀w,(zeroValue 325).run Tryz.prog w=.ok (.agg #[.int .i64 0,.slice none 0 0]) w:=λ_=>by kernel_rfl
def Az:uU Tryz.prog 503 2:=by
 refine⟨⟨_,Tryz.func503,by kernel_rfl,by kernel_rfl⟩,λw g n c i news r y o B C b=>?_⟩;obtain⟨A,X,a⟩:=sZ o y r B;have a:Hid (∀t u,news[t]? = some u->w.drew.cell? (A.add t)=some u):=a;have T:Hid (news.length=(n - (i+1))*2):=o;have Y:Hid (∀u∈news,u.oneCell'=true):=C;have Z:Hid (∀t,t<news.length->(w.drew.cell? ⟨g,0+i*2+t,none⟩).isSome=true/\w.drew.frozen? ⟨g,0+i*2+t,none⟩ = false):=λt ht=>by
  rw[O7];exact b (i*2+t) ω
 obtain⟨p,d⟩ : ∃p,p=w.drew.setCells g (0+i*2) news:=⟨_,rfl⟩
 have K:∀q,q<n*2->(p.cell? ⟨g,q,none⟩).isSome=true/\p.frozen? ⟨g,q,none⟩ = false:=λq U=>by
  have D:∀j,j<news.length->∃z,cel w.drew g (0+i*2+j)=some z:=λj L=>by
   have:=(b (0+i*2+j) ω).1;exact Option.isSome_iff_exists.1 this
  refine⟨?_,by rw[d];exact(Z0 Prod.fst (bP g _ news w.drew g q)).trans (b q U).2⟩;rw[d];by_cases h:0+i*2<=q/\q<0+i*2+news.length
  ·have:=br D (X2 (show q - (0+i*2)<news.length by omega))
   rw[show 0+i*2+(q - (0+i*2))=q by omega]at this;show(cel _ g q).isSome=true;rw[this];rfl
  show(cel _ g q).isSome=true;rw[bf (λx=>h x.2)];exact(b q U).1
 obtain⟨M,E,F,G⟩:=tW (P:=Tryz.prog) p 53 325 2 (.agg #[.int .i64 0,.slice none 0 0]) Tryz.underlying53 Gb rfl (by intro v V;simp[Value.cells]at V;rcases V with rfl|rfl<;>rfl) g ((i+(n - (i+1)))*2) (n - (i+(n - (i+1)))) ω (by decide) (λj L=>(K _ ω).1) (λj L=>(K _ ω).2);have k:Hid (M.length=(n - (i+(n - (i+1))))*2):=E;have H:Hid (∀v∈M,v.oneCell'=true):=F;have W:Hid (p=w.drew.setCells g (0+i*2) news):=d;have hic:i<=c:=ω
 have N:i+1<=c:=ω
 have O:¬i=i+1:=ω
 have Q:i+1<=n:=r;have l:n - 1=i+(n - (i+1)):=ω
 clear d K b B C o E F;rw[l];generalize L:i+1=j at X a T G k N O Q l |-;obtain⟨J,R,S⟩ : ∃J,Tryz.prog.info? 325=some J/\J.size=2:=by
  have h:=(rp 325 _ rfl).1;cases e : Tryz.prog.info? 325 with
  | none=>rw[e]at h;cases h
  | some x=>rw[e]at h;simp only[O5,C1,Prod.mk.injEq]at h;exact⟨x,rfl,h.2.1⟩
 have mixed : Tryz.prog.follows .mixedOrders=true:=by kernel_rfl
 go_enter Tryz.func503,Tryz.ntmps503
 go_wp2_with fail
 go_region_law_o (refine step_append_room rfl (.tmp 22) (.tmp 25) 53 rfl 325 J 2 Tryz.underlying53 R S g 0 i c (by simp[Act.eval,Act.put]) A (n - j) (c - j) news (by simp[Act.eval,Act.put]) T.out a.out Y.out ω Z.out ?_;rw[<-W.out])
 go_wp2
 go_ret
 refine⟨rfl,M,by have:=k.out;omega,H.out,?_⟩;rw[W.out,O7]
def Bw(xs:List aR)(i:Nat)(a:i<xs.length):zzB 503 false [.mut none [.s .own (xs.map (aR.enc .own))],.val none [I (i:Nat)],.val none [I ((i+1:Nat):Int)]] [.mut none [.x],.val none [I (i:Nat)],.val none [I ((i+1:Nat):Int)]] .one [oE ((dele xs i).map (aR.enc .own))]:=by
 have h:=zx Az (rows:=xs.map (aR.enc .own)) (i:=i) (by rw[I1];exact a) (aK λ_=>rfl) (bj _ _ λx _=>aR.enc_fr x)
 rwa [show dele (xs.map (aR.enc .own)) i=(dele xs i).map (aR.enc .own) by simp[dele,O4,V4]]at h
def vE(xs:List aR)(pr:aR->Bool)(g:xs.length<=9223372036854775807):zzA 565 false [.val none ([.s .S (xs.map (aR.enc .S))]),.fn (mg Tryz.prog (pk (some 2) (aR.enc .S) pr xs))] .one [I (cj pr xs)]:=by
 refine fO 19 [] Tryz.func565 rfl ?_
 refine ZP ?_
 refine CF (ι:=Nat) (λi=>[(0,.G .one ([.s .S (xs.map (aR.enc .S))])),(1,.fv (mg Tryz.prog (pk (some 2) (aR.enc .S) pr xs))),(7,.G .one [I xs.length]),(8,.G .one [I (i:Nat)])]) (λi=>i<=xs.length/\∀(j:Nat)(z:aR),j<i->xs[j]? = some z->pr z=false) (λi=>xs.length - i) 0 ?_ ⟨X0 _,λj z h=>ω⟩ λi d=>?_
 ·exact wB
 obtain⟨d,b⟩:=d;by_cases c:i<xs.length
 ·obtain⟨y,a⟩ : ∃y,xs[i]? = some y:=⟨_,X2 c⟩
  repeat'(first|refine gE ?_|refine Fv.mk (k:=.one) (rcs:=[B (pr y)]) ⟨y,O2 a,rfl,rfl,rfl⟩ ?_|refine Bf.P (λe=>?_) (λe=>?_))
  ·exact Z0 (λz=>[I z]) (dw a ‹_› b).symm
  (conv=>whnf)
  refine CD (i+1) ⟨ω,ep a (by assumption) b⟩ ω ?_;exact wB
 refine ZE ?_
 exact Z0 (λz=>[I z]) (fg ω b).symm
def ww(o:aR)(id:Int):zzA 566 false [.val (some 2) (aR.enc .S o),.ptr [I id]] .one [B (gw id o)]:=by
 refine fO 8 [] Tryz.func566 rfl ?_
 refine ZP ?_
 exact Z0 (λz=>[B z]) (by unfold gw;rw[v5];simp)
def mY(r:ay)(id:Int)(b:r.M.length<=1048576):zzA 502 false [.val (some 2) (ay.enc .S r),.val none [I id]] .one [I (mf r id)]:=by
 refine fO 9 [] Tryz.func502 rfl ?_
 repeat'(first|refine gP ?_|refine Cq.mk (pk (some 2) (aR.enc .S) (gw id) r.M) (ww default id).has (λL k rcs a=>?_) ?_|refine C8 (vE r.M (gw id) ω) ?_)
 ·obtain⟨y,-,rfl,rfl,rfl⟩:=a
  exact ww y id
 rfl
def GN:zzA 260 false [] .agg (ay.enc .own ⟨1,[]⟩):=by
 refine fO 2 [] Tryz.func260 rfl ?_ (.inr (ay.enc_fr _))
 repeat'((conv=>whnf);first|with_reducible (first|refine Lm ?_|refine Wm ω ?_|refine Bn ?_|refine jo.wk rfl ?_)|refine Bt ?_|refine Bu ?_|refine C9 ?_)
 exact⟨rfl,rfl,trivial⟩
def Qz(l:List aR):(l.map (aR.enc .own)).map (·.map fz)=l.map (aR.enc .S):=by
 rw[List.map_map];exact List.map_congr_left λx _=>(bS _).symm.trans (aR.enc_fz x)
def AN(r:ay)(n:Int)(m:Nat)(a:pb r m)(g:m<=1000)(b:1<=n/\n<=1000):zzA 262 true [.val (some 2) (ay.enc .S r),.val none [I n]] (.tup [some 2,none]) (ay.enc .S (i7 r n)++[I r.o]):=by
 have h:=a.sml g;have c:=a.len;have i:=a.nx;have j:=jv r h;have d:=aI n 1 1000;rw[O0 b]at d;have key:zzA 262 true [.val (some 2) (ay.enc .S r),.val none [I n]] (.tup [some 2,none]) (ay.enc .own (i7 r n)++[I r.o]):=by
  unfold i7;rw[CC b];have k:ay.enc .own {r with o:=r.o+1,M:=r.M++[⟨r.o,List.replicate n.toNat 0⟩]} = [I (r.o+1),.s .own (r.M.map (aR.enc .own)++[[I r.o,.s .own (List.replicate n.toNat [I 0])]])]:=by
   simp[ay.enc,aR.enc,rI]
  rw[k];refine fO 30 [(4,263,[13,14,15,16,17,18,22,0,1,2,3,4,5,6,1000,1001,7,1000,1001,8,9,10]),(6,259,[27,28,29,0,1,2,3,1001,1002,4])] Tryz.func262 rfl ?_ (.inl rfl)
  repeat'(first|refine gP ?_|refine Mk.mk n.toNat ω ω ω (xi ω (by decide)) rfl ?_|refine Ap.sn (aK λ_=>rfl) rfl (by simp;omega) (by decide) rfl ?_)
  rfl
 have e:=key.fzR;rw[bU,Ca]at e;exact e
def Ti(l:List aR):fz (oE (l.map (aR.enc .own)))=.s .S (l.map (aR.enc .S)):=by rw[GA];exact Ll l
def Fd(r:ay)(id:Int)(m:Nat)(g:pb r m)(o:m<=1000):zzA 404 true [.val (some 2) (ay.enc .S r),.val none [I id]] (.tup [some 2,none]) (ay.enc .S (js r id)++[B (!decide (mf r id<0))]):=by
 have h:=g.sml o;have i:=g.len;have k:=jv r h;have b:=mY r id h.1;by_cases e:mf r id<0
 ·have key:zzA 404 true [.val (some 2) (ay.enc .S r),.val none [I id]] (.tup [some 2,none]) (ay.enc .own r++[B false]):=by
   refine fP 24 [(503,[1,0,0])] [] Tryz.func404 rfl ?_ (.inl rfl)
   refine ZE ?_
   rfl
  have a:=key.fzR;rw[bU,Ca]at a;unfold js;rw[CC e,O0 e];exact a
 obtain⟨p,q,t⟩:=ek (gw id) r.M (by unfold mf at e;omega);obtain⟨j,c⟩:=I3 (show 0<=mf r id by omega);have d:j<r.M.length:=by unfold mf at c;omega
 have l:=Bw r.M j d;have key:zzA 404 true [.val (some 2) (ay.enc .S r),.val none [I id]] (.tup [some 2,none]) ([I r.o,oE ((dele r.M j).map (aR.enc .own))]++[B true]):=by
  rw[c]at b;rcases pU (rows:=(dele r.M j).map (aR.enc .own)) with n|⟨-,n⟩
  all_goals
   rw[n]at l |-;refine fP 24 [(503,[1,0,0])] [] Tryz.func404 rfl ?_ (.inl rfl)
   refine ZE ?_
   rfl
 have a:=key.fzR;unfold js;rw[CB e,W0 e,c];change am _ _ _ _ _ [fz (I _),fz (oE _),fz (B true)]at a;rw[Ti]at a;exact a
def AL(r:ay)(id a v:Int)(m:Nat)(q:pb r m)(D:m<=1000)(t:0<=v/\v<=999):∃b:Bool,zzA 406 true [.val (some 2) (ay.enc .S r),.val none [I id],.val none [I a],.val none [I v]] (.tup [some 2,none]) (ay.enc .S (dy r id a v)++[B b]):=by
 have o:=q.sml D;have u:=q.len;have p:=jv r o;have k:=mY r id o.1;by_cases l:0<=mf r id;rotate_left
 ·rw[show dy r id a v=r by unfold dy;rw[CB (λx=>l x.1)]]
  refine⟨false,?_⟩;have key:zzA 406 true [.val (some 2) (ay.enc .S r),.val none [I id],.val none [I a],.val none [I v]] (.tup [some 2,none]) (ay.enc .own r++[B false]):=by
   refine fO 48 [] Tryz.func406 rfl ?_ (.inl rfl)
   refine ZE ?_
   rfl
  have c:=key.fzR;rw[bU,Ca]at c;exact c
 obtain⟨H,J,K⟩:=ek (gw id) r.M l;obtain⟨j,e⟩:=I3 l;have g:j<r.M.length:=by unfold mf at e;omega
 have d:=ar g;have E:(nth r.M j).W.length<=1048576:=o.2 _ (au g);rw[e]at k;have n:=aI a 0 (((nth r.M j).W.length:Nat) - 1:Int);by_cases h:0<=a/\a<=((nth r.M j).W.length:Nat) - 1;rotate_left
 ·rw[show dy r id a v=r by unfold dy;rw[CB (λx=>h (by have:=x.2.1;rw[e]at this;exact this))]]
  rw[W0 h]at n;refine⟨false,?_⟩;have key:zzA 406 true [.val (some 2) (ay.enc .S r),.val none [I id],.val none [I a],.val none [I v]] (.tup [some 2,none]) (ay.enc .own r++[B false]):=by
   refine fO 48 [] Tryz.func406 rfl ?_ (.inl rfl)
   refine ZE ?_
   rfl
  have c:=key.fzR;rw[bU,Ca]at c;exact c
 obtain⟨b,w⟩:=I3 h.1;have F:dy r id a v = {r with M:=r.M.set j ⟨(nth r.M j).Id,(nth r.M j).W.set b v⟩}:=by
  unfold dy;rw[CC ⟨l,by rw[e];exact h,t⟩,e,w];rfl
 rw[O0 h]at n;rw[F];subst w;have y:=ar (xs:=(nth r.M j).W) (i:=b) ω;have C:=aI v 0 999;rw[O0 t]at C;refine⟨true,?_⟩;have key:zzA 406 true [.val (some 2) (ay.enc .S r),.val none [I id],.val none [I (b:Nat)],.val none [I v]] (.tup [some 2,none]) (ay.enc .own {r with M:=r.M.set j ⟨(nth r.M j).Id,(nth r.M j).W.set b v⟩}++[B true]):=by
  have G:ay.enc .own {r with M:=r.M.set j ⟨(nth r.M j).Id,(nth r.M j).W.set b v⟩} = [I r.o,.s .own ((r.M.map (aR.enc .own)).set j [I (nth r.M j).Id,.s .own (((nth r.M j).W.map (rI .own)).set b [I v])])]:=by
   simp[ay.enc,aR.enc,rI,V6]
  rw[G];refine fO 48 [] Tryz.func406 rfl ?_ (.inl rfl)
  repeat'(first|refine gE ?_|with_reducible refine CK ω (aa d) ?_|refine Pu.two rfl rfl (aa d) rfl rfl rfl (aa y) rfl (V3 _) rfl ?_)
  rfl
 have c:=key.fzR;rw[bU,Ca]at c;exact c
def DJ(r:ay)(id n:Int)(m:Nat)(w:pb r m)(E:m<=1000):∃b:Bool,zzA 408 true [.val (some 2) (ay.enc .S r),.val none [I id],.val none [I n]] (.tup [some 2,none]) (ay.enc .S (eC r id n)++[B b]):=by
 have q:=w.sml E;have y:=w.len;have t:=jv r q;have g:=mY r id q.1;by_cases i:0<=mf r id;rotate_left
 ·rw[show eC r id n=r by unfold eC;rw[CB (λx=>i x.1)]]
  refine⟨false,?_⟩;have key:zzA 408 true [.val (some 2) (ay.enc .S r),.val none [I id],.val none [I n]] (.tup [some 2,none]) (ay.enc .own r++[B false]):=by
   refine fO 44 [(5,11,[30,31,32,33,34,35,36,37,38,39,40])] Tryz.func408 rfl ?_ (.inl rfl)
   refine ZE ?_
   rfl
  have a:=key.fzR;rw[bU,Ca]at a;exact a
 obtain⟨K,L,M⟩:=ek (gw id) r.M i;obtain⟨j,c⟩:=I3 i;have d:j<r.M.length:=by unfold mf at c;omega
 have e:=ar d;have F:(nth r.M j).W.length<=1048576:=q.2 _ (au d);rw[c]at g;have k:=aI n 1 (((nth r.M j).W.length:Nat):Int);by_cases l:1<=n/\n<=((nth r.M j).W.length:Nat);rotate_left
 ·rw[show eC r id n=r by unfold eC;rw[CB (λx=>l (by have:=x.2;rw[c]at this;exact this))]]
  rw[W0 l]at k;refine⟨false,?_⟩;have key:zzA 408 true [.val (some 2) (ay.enc .S r),.val none [I id],.val none [I n]] (.tup [some 2,none]) (ay.enc .own r++[B false]):=by
   refine fO 44 [(5,11,[30,31,32,33,34,35,36,37,38,39,40])] Tryz.func408 rfl ?_ (.inl rfl)
   refine ZE ?_
   rfl
  have a:=key.fzR;rw[bU,Ca]at a;exact a
 obtain⟨b,D⟩:=I3 (show 0<=n by omega);have G:eC r id n = {r with M:=r.M.set j ⟨(nth r.M j).Id,(nth r.M j).W.take b⟩}:=by
  unfold eC;rw[CC ⟨i,by rw[c];exact l⟩,c,D];rfl
 rw[O0 l]at k;rw[G];subst D;have u:zzA 403 false [.val (some 2) (ay.enc .S r)] .agg [I r.o,.s .own ((r.M.map (aR.enc .own)).set j (aR.enc .S (nth r.M j)))]:=by
  have h:=t.fzAt (off:=1) (o:=.own) (rows:=r.M.map (aR.enc .own)) rfl (by simp) (j:=j) (aa e);rw[aR.enc_fz]at h;exact h
 have p:((r.M.map (aR.enc .own)).set j (aR.enc .S (nth r.M j)))[j]? = some (aR.enc .S (nth r.M j)):=t4 (by rw[I1];omega);refine⟨true,?_⟩;have key:zzA 408 true [.val (some 2) (ay.enc .S r),.val none [I id],.val none [I (b:Nat)]] (.tup [some 2,none]) ([I r.o,.s .own (((r.M.map (aR.enc .own)).set j (aR.enc .S (nth r.M j))).set j [I (nth r.M j).Id,.s .S (((nth r.M j).W.take b).map (rI .S))])]++[B true]):=by
  refine fO 44 [(5,11,[30,31,32,33,34,35,36,37,38,39,40])] Tryz.func408 rfl ?_ (.inl rfl)
  repeat'(first|refine gE ?_|with_reducible refine CK ω p ?_|refine CE rfl p rfl ?_|refine CA p ?_|refine CS b rfl (by rw[I1];omega) (aK λ_=>rfl) O4 ?_|refine CM rfl rfl p rfl (O1 rfl) rfl ?_)
  rfl
 have a:=key.fzR;rw[List.set_set]at a;change am _ _ _ _ _ [fz (I _),fz (.s .own _),fz (B true)]at a;rw[MD,V6,Qz]at a;have H:aR.enc .S ⟨(nth r.M j).Id,(nth r.M j).W.take b⟩ = [I (nth r.M j).Id,C.s .S (((nth r.M j).W.take b).map (rI .S))].map fz:=by
  show [I _,C.s .S (((nth r.M j).W.take b).map (rI .S))]=[fz (I _),fz (.s .S _)];rw[MD,List.map_map];rfl
 have J:ay.enc .S {r with M:=r.M.set j ⟨(nth r.M j).Id,(nth r.M j).W.take b⟩} = [I r.o,.s .S ((r.M.map (aR.enc .S)).set j ([I (nth r.M j).Id,.s .S (((nth r.M j).W.take b).map (rI .S))].map fz))]:=by
  rw[<-H,<-V6];rfl
 rw[J];exact a
def uk(p f:Nat)(a:List Int)(b:1<=p/\p<=32)(c:1<=f/\f<=32)(d:a.length<=40/\∀x∈a,0<=x):zzA 199 false [.val none [I (p:Nat)],.val none [I (f:Nat)],.val none (aG .S a)] (.tup [some 5,none]) (ah.enc .own (bA p f a)++[B true]):=by
 have e:=mK b c d;have h:=d.1;have g:=jY (bA p f a) (aZ e);rw[e]at g;have i:=cD a ω;refine fO 30 [(2,260,[17,18,19,10,0,1,2,4,3,1004,5])] Tryz.func199 rfl ?_ (.inr (aB (CX _) ⟨trivial,trivial⟩))
 repeat'(first|refine gP ?_|refine C8 (pm p f b c) ?_|refine CG (g) ⟨⟨rfl,CO (bA p f a)⟩,trivial⟩ ?_)
 rfl
def Jc(p f t:Nat)(lim:Int)(a:List Int)(c:1<=p/\p<=32)(d:1<=f/\f<=32)(e:1<=t/\t<=4)(g:0<=lim/\lim<=1000)(h:a.length<=40/\∀x∈a,0<=x):zzA 70 false [.val none [I (p:Nat)],.val none [I (f:Nat)],.val none [I (t:Nat)],.val none [I lim],.val none (aG .S a)] (.tup [some 24,none]) (ac.enc .own (qG p f t lim a)++[B true]):=by
 have b:=aI lim 0 1000;rw[O0 g]at b;refine fO 68 [(10,4,[61,62,63,64])] Tryz.func70 rfl ?_ (.inr (aB (ac.enc_fr _) ⟨trivial,trivial⟩))
 repeat'(first|refine gP ?_|refine C8 (uk p f a c d h) ?_|refine C8 (ox t e) ?_|refine C8 (E2) ?_)
 refine CF (ι:=Nat) (λk=>[(2,.G .one [I ((t:Nat))]),(10,.G .box [.z,.z,.z,I 0,.z,.z,.z,.z,.z,.z,.z,.z,I 0,.z,I 0,I 0,I 0,I 0,B false,I 0,I 0,.z,I 0,I 0]),(18,.G .box (ac.enc .own (caps (qG p f t lim a) k))),(19,.G .one [I ((k:Nat):Int)])]) (λk=>k<=t) (λk=>t - k) (0) ?_ (X0 _) λk i=>?_
 ·exact wB
 by_cases j:k<t
 ·repeat'(first|refine gE ?_|refine C8 (Bb) ?_|refine Ap.sn HI rfl (by rw[I1];show(List.replicate _ fe).length+1<=_;rw[List.length_replicate];omega) (by decide) (Ds k) ?_)
  (refine CD (k+1) ω ω ?_;(exact wB))
 obtain rfl:k=t:=ω
 refine ZE ?_
 rfl
def ng(c:dC)(h:EI c):zzA 115 false [.val (some 5) (dC.enc .S c)] (.tup [some 26,none]) (bw.enc .own (world0 c)++[B true]):=by
 have a:=Jc c.w c.V c.c1 c.b7 c.d h.p h.f h.t h.l h.r;refine fO 26 [(4,2,[23,24])] Tryz.func115 rfl ?_ (.inr (aB (bw.enc_fr _) ⟨trivial,trivial⟩))
 repeat'(first|refine gP ?_|refine C8 (GN) ?_)
 rfl
def Qr(a:Int)(l:aD):Bool:=decide (l.R*16=a)
def mu(l:aD)(a:Int)(b:0<=l.R/\l.R<=32):zzA 101 false [.val (some 3) (aD.enc .S l),.ptr [I a]] .one [B (Qr a l)]:=by
 refine fO 9 [] Tryz.func101 rfl ?_
 refine ZP ?_
 exact Z0 (λz=>[B z]) ((by unfold Qr;rw[v5];simp))
def xW(h:ac)(b:ac.sml h)(a:h.M≠[]):zzA 62 false [.val (some 24) (ac.enc .S h)] .agg (cE h (oS h) (oL h) (.s .own (h.M.map (bi.enc .own)))):=by
 have c:=dt h b
 rwa [show cY h=cE h (oS h) (oL h) (.s .own (h.M.map (bi.enc .own))) by unfold cY oO;rw[pf λe=>a (List.map_eq_nil_iff.1 e)]]at c
def DP(h:ac)(t a:Int)(b:ac.sml h)(d:eE h=true)(e:h.H.Calls=100000):zzA 33 false [.val (some 24) (ac.enc .S h),.val none [I t],.val none [I a]] (.tup [some 24,none]) (cY h++[I 6]):=by
 have c:=cT h b;rw[ee,d]at c;refine fP 163 [(99,[1,0,0]),(102,[1,0,0]),(103,[2,0]),(105,[2,0,0]),(109,[2,0,0])] [(20,12,[85,86,87,88,89,90,91,92,93,94,95,96]),(24,4,[111,112,113,114])] Tryz.func33 rfl ?_ (.inr (aB (bX _) ⟨trivial,trivial⟩))
 repeat'(first|refine gB ?_|refine C8 (dt h b) ?_)
 rfl
def AP(h:ac)(o:bi)(t:Nat)(S:ac.sml h)(e1:eE h=true)(hc:h.H.Calls≠100000)(X:o∈h.M)(ht:o.a0=t):zzA 33 false [.val (some 24) (ac.enc .S h),.val none [I (t:Nat)],.val none [I o.Addr]] (.tup [some 24,none]) (cY (freeOb h t (jB h o.Addr)).1++[I (freeOb h t (jB h o.Addr)).2]):=by
 have b:=bg.of e1;have T:=cT h S;rw[ee,e1]at T;obtain⟨p,G,H⟩:=b.objAt X;have q:=nh b X;have hon:=b.onu o X;have a:=b.lens;have hno:=a.objs;have hnl:=a.larges;have hlc:=a.caches;have J:t<h.T.length:=ω
 have U:=aI (t:Nat) 0 (h.T.length - 1:Int);rw[O0 ω]at U;have K:=rW h o.Addr ω;rw[H]at K;have V:=xW h S (fU p);generalize jB h o.Addr=i at p G K;subst G;have Y:=ar p;have Z:=lr (nth h.M i).a1;have C:=Ao h.M i p;have hks:=aZ b.ker;have c6:=cN h.H.F.Q ((nth h.M i).Addr / 16) hks.1.2;have M:cY h=cE h (oS h) (oL h) (.s .own (h.M.map (bi.enc .own))):=by unfold cY oO;rw[pf λe=>fU p (List.map_eq_nil_iff.1 e)]
 unfold freeOb;by_cases d:aS (nth h.M i).a1<0
 ·rw[CC d]
  obtain⟨l,hl,h1,-⟩:=(ef b (au p)).1 d;obtain⟨r,ea,-,hfi⟩:=ui hl h1;have E:=kO h.J (Qr (nth h.M i).Addr) ω;rw[show cj (Qr (nth h.M i).Addr) h.J=(uj h (nth h.M i).Addr:Nat) by unfold cj Qr;rw[hfi]]at E;generalize uj h (nth h.M i).Addr=g at r ea E;have hf:=aX (b.L.lok _ (au r));have hxl:=ar r;have N:=tg h.J g r;have F:=jg {h with M:=dele h.M i,J:=dele h.J g} ⟨(nth h.J g).R,(nth h.J g).w⟩ (nth h.J g).w.toNat b.ker hc (by show h.a.length<=_;have:=a.free;omega) ⟨by show(nth h.J g).w=_;omega,by show 0<=(nth h.J g).R;omega,by show(nth h.J g).R<=_;omega,ω⟩;have hg:cY {h with M:=dele h.M i,J:=dele h.J g} = cE h (oS h) (oE ((dele h.J g).map (aD.enc .own))) (oE ((dele h.M i).map (bi.enc .own))):=rfl;have u:oL h=.s .own (h.J.map (aD.enc .own)):=by unfold oL;rw[pf λe=>fU r (List.map_eq_nil_iff.1 e)]
  rw[u]at V;rw[hg]at F;have hpg:∀y∈h.J,0<=y.R/\y.R<=32:=λy w=>by have:=aX (b.L.lok y w);omega
  rcases pU (rows:=(dele h.M i).map (bi.enc .own)) with e|⟨-,e⟩<;>rcases pU (rows:=(dele h.J g).map (aD.enc .own)) with e'|⟨-,e'⟩
  all_goals
   rw[e]at C F;rw[e']at N F;refine fP 163 [(99,[1,0,0]),(102,[1,0,0]),(103,[2,0]),(105,[2,0,0]),(109,[2,0,0])] [(20,12,[85,86,87,88,89,90,91,92,93,94,95,96]),(24,4,[111,112,113,114])] Tryz.func33 rfl ?_ (.inr (aB (bX _) ⟨trivial,trivial⟩))
   repeat'(first|refine gB ?_|with_reducible refine Bf.D (λO=>?_) (λO=>?_)|refine Cq.mk (pk (some 3) (aD.enc .S) (Qr (nth h.M i).Addr) h.J) (mu ⟨0,0,0⟩ (nth h.M i).Addr ⟨by decide,by decide⟩).has (λL k rcs hQ=>?_) ?_)
   ·obtain⟨y,w,rfl,rfl,rfl⟩:=hQ
    exact mu y _ (hpg y w)
   rfl
 rw[CB d];obtain⟨s1,s2,s3,s4⟩:=TC.of b (au p) d;have hcz:=EJ s1;by_cases W:(ax (tbl h) ((nth h.M i).Addr / 16)).k=1
 ·rw[CC W]
  unfold tbl at W;have B:=bX h;simp only;rw[M]at B |-;rcases pU (rows:=(dele h.M i).map (bi.enc .own)) with e|⟨-,e⟩
  all_goals
   rw[e]at C;refine fP 163 [(99,[1,0,0]),(102,[1,0,0]),(103,[2,0]),(105,[2,0,0]),(109,[2,0,0])] [(20,12,[85,86,87,88,89,90,91,92,93,94,95,96]),(24,4,[111,112,113,114])] Tryz.func33 rfl ?_ (.inr (aB B ⟨trivial,trivial⟩))
   repeat'(first|refine gB ?_|with_reducible refine Bf.D (λO=>?_) (λO=>?_)|refine CN (by decide) ?_|refine CL (kH q) ?_)
   rfl
 rw[CB W];unfold tbl at W;have B:eM h.H (nth h.M i).Addr<h.H.F.V.W.length:=by unfold eM;omega
 have j:=b.inQuar p d;have P:=dl (aS (nth h.M i).a1);rw[show csz (aS (nth h.M i).a1)=((csz (aS (nth h.M i).a1)).toNat:Nat) by omega]at P;have n:=b.nums;unfold cg at n;rw[C0]at n;have Q:=(b.dropO p (jz.any (c:=aS (nth h.M i).a1) (by obtain⟨⟨s,S,k1,k2⟩,-⟩:=(ef b (au p)).2 d;exact⟨s,S,k1,.inr k2⟩))).nd;rw[List.cons_append,List.nil_append]at Q;have E:=Ez h.a3 (jf h (nth h.M i)) (by have:=a.quar;omega) b.quar ⟨s1.1,s1.2,q.1,n.2.2.1⟩ (λy w=>b.snc y w) (λy w e=>(List.nodup_cons.1 Q).1 (by rw[show(nth h.M i).Addr=y.Addr from e.symm];unfold holders;simp only[O3];exact .inl (.inr (W4.2 ⟨y,w,rfl⟩))));unfold PS at E;have u:(vI h.a3 (jf h (nth h.M i))).length<=513:=by have:=a.quar;unfold vI;rw[C2,X3];simp only[List.length_singleton];omega
 have hfq:KT h t i=recycs t (inQuar h i) ((vI h.a3 (jf h (nth h.M i))).map (·.Addr)):=rfl;have hqc:(inQuar h i).H.Calls≠100000:=hc;rw[hfq];rcases pU (rows:=(dele h.M i).map (bi.enc .own)) with e|⟨-,e⟩
 all_goals
  have hoo:oO (inQuar h i)=_:=e;rw[e]at C;have N:=kM h (oS h) (oL h) (oE ((dele h.M i).map (bi.enc .own))) (nth h.M i).Addr (csz (aS (nth h.M i).a1)).toNat b.ker q s2 ω s4;rw[e]at N;refine fP 163 [(99,[1,0,0]),(102,[1,0,0]),(103,[2,0]),(105,[2,0,0]),(109,[2,0,0])] [(20,12,[85,86,87,88,89,90,91,92,93,94,95,96]),(24,4,[111,112,113,114])] Tryz.func33 rfl ?_ (.inr (aB (bX _) ⟨trivial,trivial⟩))
  repeat'(first|refine gB ?_|with_reducible refine Bf.D (λO=>?_) (λO=>?_)|refine CN (by decide) ?_|refine CL (kH q) ?_)
  generalize vI h.a3 (jf h (nth h.M i))=out at j u
  (conv=>whnf)
  refine CF (ι:=Nat) (λk=>[(1,.G .one [I ((t:Nat):Int)]),(6,.G .box md),(8,.G .box (cY (recycs t (inQuar h i) ((out.take k).map (·.Addr))))),(16,.G .one (cr .own out)),(151,.c2 16 0 [] none),(152,.G .one [I (out.length)]),(153,.G .one [I ((k:Nat):Int)])]) (λk=>k<=out.length) (λk=>out.length - k) (0) ?_ (X0 _) λk hk=>?_
  ·repeat'(first|exact trivial|rfl |exact nU hoo|exact eQ _|refine CJ ?_ ?_|(exact Fy (by first|omega|(simp only;omega)|(simp;omega))))
  by_cases r:k<out.length
  ·have R:=ar r
   have hsp:out.map (·.Addr)=(out.take k).map (·.Addr)++(nth out k).Addr::(out.drop (k+1)).map (·.Addr):=by
    conv=>lhs;rw[<-List.take_append_drop k out,fN r]
    simp
   have hik:bg (recycs t (inQuar h i) ((out.take k).map (·.Addr))) ((nth out k).Addr::(out.drop (k+1)).map (·.Addr)):=bg.recycs (by rw[<-hsp];exact j) J;have F:=tT _ _ t _ hik (by rw[(f7 t _ _).1];exact J) (by rw[(f7 t _ _).2.2.1];exact hqc)
   refine ZE ?_
   (refine CD (k+1) ω ω ?_)
   rw[wl t _ out k r];exact wC
  obtain rfl:k=out.length:=ω
  rw[I5]
  refine ZE ?_
  rfl
def ja(m:aN)(k:Int)(a:aN.sml m):zzA 255 false [.val (some 2) (aN.enc .S m),.val none [I k]] .one [B (decide (0<=k/\k<=m.U.length - 1)&&bB m)]:=by
 have b:=m9 m a;have g:m.U.length<=1048576:=a.1.1;have c:=aI k 0 (m.U.length - 1:Int);cases e:bB m<;>rw[e]at b<;>cases d:decide (0<=k/\k<=(m.U.length:Int) - 1)<;>rw[d]at c
 all_goals
  refine fO 15 [] Tryz.func255 rfl ?_
  refine ZP ?_
  rfl
def LO(m:aN)(f:Nat)(p:cJ)(k:bB m=true)(d:f<m.U.length):zzA 107 false [.val (some 2) (aN.enc .S m),.val none [I (f:Nat)],.val (some 2) (cJ.enc .S p)] (.tup [some 2,none]) (aN.enc .own (if bB (f6 m f p)=true then f6 m f p else m)++[B (bB (f6 m f p))]):=by
 have c:=jw.of k;have l:=c.sml;have q:=c.b4;have g:=ja m f l;rw[k,O0 ω]at g;have n:=io m l;have h:=BM c d p;have i:=m9 (f6 m f p) h;have a:=QX d;have o:=c.bl f d;have j:=Cf (f6 m f p);have b:=Ce (f6 m f p);rw[uL]at j b;cases e:bB (f6 m f p)<;>rw[e]at i
 ·rw[CB (by simp)]
  refine fO 35 [(4,267,[17,18,19,20,21,22,23,24,25,26,28,0,1,2,3,4,5,6,7,8,9,10,1000,1001,1002,11,12])] Tryz.func107 rfl ?_ (.inr (aB (Ce _) ⟨trivial,trivial⟩))
  repeat'(first|refine gP ?_|refine CA (cy a) ?_|refine CE rfl (cy a) rfl ?_|refine Lq.one rfl rfl (aa a) rfl (O1 rfl) rfl rfl ?_|refine CM rfl rfl (cy a) rfl (O1 rfl) (show [C.s dA.own ((m.U.map (bJ .own)).set f (bJ .own (nth m.U f++[p]))),C.s .own (m.g.map (aG .own))]=_ from by simp only[List.set_cons_zero,List.set_set,C3];rfl) ?_|refine CV (aK λ_=>rfl) rfl (by simp;omega) (by decide) (dR _ _ _) ?_|refine CG (i) ⟨⟨rfl,j⟩,trivial⟩ ?_)
  rfl
 rw[CC rfl,uL];refine fO 35 [(4,267,[17,18,19,20,21,22,23,24,25,26,28,0,1,2,3,4,5,6,7,8,9,10,1000,1001,1002,11,12])] Tryz.func107 rfl ?_ (.inr (aB b ⟨trivial,trivial⟩))
 repeat'(first|refine gP ?_|refine CA (cy a) ?_|refine CE rfl (cy a) rfl ?_|refine Lq.one rfl rfl (aa a) rfl (O1 rfl) rfl rfl ?_|refine CM rfl rfl (cy a) rfl (O1 rfl) (show [C.s dA.own ((m.U.map (bJ .own)).set f (bJ .own (nth m.U f++[p]))),C.s .own (m.g.map (aG .own))]=_ from by simp only[List.set_cons_zero,List.set_set,C3];rfl) ?_|refine CV (aK λ_=>rfl) rfl (by simp;omega) (by decide) (dR _ _ _) ?_|refine CG (i) ⟨⟨rfl,j⟩,trivial⟩ ?_)
 rfl
def EW(h:ac)(o:bi)(t:Nat)(S:ac.sml h)(N:eE h=true)(hc:h.H.Calls≠100000)(F:o∈h.M)(T:t<h.T.length):zzA 33 false [.val (some 24) (ac.enc .S h),.val none [I (t:Nat)],.val none [I o.Addr]] (.tup [some 24,none]) (cY (freeT h t (jB h o.Addr)).1++[I (freeT h t (jB h o.Addr)).2]):=by
 by_cases U:o.a0=t
 ·have hh:=AP h o t S N hc F U
  rwa [<-vk (by obtain⟨-,d,-⟩:=(bg.of N).objAt F;rw[d];exact U)]at hh
 have b:=bg.of N;have G:=cT h S;rw[ee,N]at G;obtain⟨r,d,H⟩:=b.objAt F;have j:=nh b F;have hon:=b.onu o F;have a:=b.lens;have hno:=a.objs;have hnl:=a.larges;have hlc:=a.caches;have J:=aI (t:Nat) 0 (h.T.length - 1:Int);rw[O0 ω]at J;have C:=rW h o.Addr ω;rw[H]at C;have K:=xW h S (fU r);generalize jB h o.Addr=i at r d C;subst d;have O:=ar r;have P:=lr (nth h.M i).a1;have u:=Ao h.M i r;have V:=aZ b.ker;have W:=cN h.H.F.Q ((nth h.M i).Addr / 16) V.1.2;have p:cY h=cE h (oS h) (oL h) (.s .own (h.M.map (bi.enc .own))):=by unfold cY oO;rw[pf λe=>fU r (List.map_eq_nil_iff.1 e)]
 unfold freeT;by_cases n:aS (nth h.M i).a1<0
 ·rw[CC n]
  obtain⟨l,hl,h1,-⟩:=(ef b (au r)).1 n;obtain⟨M,ea,-,X⟩:=ui hl h1;have Y:=kO h.J (Qr (nth h.M i).Addr) ω;rw[show cj (Qr (nth h.M i).Addr) h.J=(uj h (nth h.M i).Addr:Nat) by unfold cj Qr;rw[X]]at Y;generalize uj h (nth h.M i).Addr=g at M ea Y;have hf:=aX (b.L.lok _ (au M));have Z:=ar M;have E:=tg h.J g M;have Q:=jg {h with M:=dele h.M i,J:=dele h.J g} ⟨(nth h.J g).R,(nth h.J g).w⟩ (nth h.J g).w.toNat b.ker hc (by show h.a.length<=_;have:=a.free;omega) ⟨by show(nth h.J g).w=_;omega,by show 0<=(nth h.J g).R;omega,by show(nth h.J g).R<=_;omega,ω⟩;have hg:cY {h with M:=dele h.M i,J:=dele h.J g} = cE h (oS h) (oE ((dele h.J g).map (aD.enc .own))) (oE ((dele h.M i).map (bi.enc .own))):=rfl;have hol:oL h=.s .own (h.J.map (aD.enc .own)):=by unfold oL;rw[pf λe=>fU M (List.map_eq_nil_iff.1 e)]
  rw[hol]at K;rw[hg]at Q;have hpg:∀y∈h.J,0<=y.R/\y.R<=32:=λy hy=>by have:=aX (b.L.lok y hy);omega
  rcases pU (rows:=(dele h.M i).map (bi.enc .own)) with e|⟨-,e⟩<;>rcases pU (rows:=(dele h.J g).map (aD.enc .own)) with e'|⟨-,e'⟩
  all_goals
   rw[e]at u Q;rw[e']at E Q;refine fP 163 [(99,[1,0,0]),(102,[1,0,0]),(103,[2,0]),(105,[2,0,0]),(109,[2,0,0])] [(20,12,[85,86,87,88,89,90,91,92,93,94,95,96]),(24,4,[111,112,113,114])] Tryz.func33 rfl ?_ (.inr (aB (bX _) ⟨trivial,trivial⟩))
   repeat'(first|refine gB ?_|with_reducible refine Bf.D (λw=>?_) (λw=>?_)|refine Cq.mk (pk (some 3) (aD.enc .S) (Qr (nth h.M i).Addr) h.J) (mu ⟨0,0,0⟩ (nth h.M i).Addr ⟨by decide,by decide⟩).has (λL k rcs hQ=>?_) ?_)
   ·obtain⟨y,hy,rfl,rfl,rfl⟩:=hQ
    exact mu y _ (hpg y hy)
   rfl
 rw[CB n];obtain⟨s1,s2,s3,s4⟩:=TC.of b (au r) n;have hcz:=EJ s1;by_cases R:(ax (tbl h) ((nth h.M i).Addr / 16)).k=1
 ·rw[CC R]
  unfold tbl at R;have c:=bX h;simp only;rw[p]at c |-;rcases pU (rows:=(dele h.M i).map (bi.enc .own)) with e|⟨-,e⟩
  all_goals
   rw[e]at u;refine fP 163 [(99,[1,0,0]),(102,[1,0,0]),(103,[2,0]),(105,[2,0,0]),(109,[2,0,0])] [(20,12,[85,86,87,88,89,90,91,92,93,94,95,96]),(24,4,[111,112,113,114])] Tryz.func33 rfl ?_ (.inr (aB c ⟨trivial,trivial⟩))
   repeat'(first|refine gB ?_|with_reducible refine Bf.D (λw=>?_) (λw=>?_)|refine CN (by decide) ?_|refine CL (kH j) ?_)
   rfl
 rw[CB R,CB U];unfold tbl at R;have c:=bX h;have q:=bX (Da h t i);have B:=dl (aS (nth h.M i).a1);rw[show csz (aS (nth h.M i).a1)=((csz (aS (nth h.M i).a1)).toNat:Nat) by omega]at B;have cS:=LO h.j t ⟨(nth h.M i).a0,(nth h.M i).Addr⟩ b.mail (by rw[<-b.nc];exact T);rcases pU (rows:=(dele h.M i).map (bi.enc .own)) with e|⟨-,e⟩
 all_goals
  have hoo:oO (Da h t i)=_:=e;rw[e]at u;have E:=kM h (oS h) (oL h) (oE ((dele h.M i).map (bi.enc .own))) (nth h.M i).Addr (csz (aS (nth h.M i).a1)).toNat b.ker j s2 ω s4;rw[e]at E;cases em:bB (f6 h.j t ⟨(nth h.M i).a0,(nth h.M i).Addr⟩)<;>rw[em]at cS
  ·rw[CB (by simp)]at cS |-
   simp only;rw[p]at c |-;refine fP 163 [(99,[1,0,0]),(102,[1,0,0]),(103,[2,0]),(105,[2,0,0]),(109,[2,0,0])] [(20,12,[85,86,87,88,89,90,91,92,93,94,95,96]),(24,4,[111,112,113,114])] Tryz.func33 rfl ?_ (.inr (aB c ⟨trivial,trivial⟩))
   repeat'(first|refine gB ?_|with_reducible refine Bf.D (λw=>?_) (λw=>?_)|refine CN (by decide) ?_|refine CL (kH j) ?_)
   rfl
  rw[CC rfl]at cS |-;simp only;have he:cY (Da h t i)=cE (Da h t i) (oS h) (oL h) (oE ((dele h.M i).map (bi.enc .own))):=rfl;rw[he,e]at q |-;refine fP 163 [(99,[1,0,0]),(102,[1,0,0]),(103,[2,0]),(105,[2,0,0]),(109,[2,0,0])] [(20,12,[85,86,87,88,89,90,91,92,93,94,95,96]),(24,4,[111,112,113,114])] Tryz.func33 rfl ?_ (.inr (aB q ⟨trivial,trivial⟩))
  repeat'(first|refine gB ?_|with_reducible refine Bf.D (λw=>?_) (λw=>?_)|refine CN (by decide) ?_|refine CL (kH j) ?_)
  rfl
def Q7{j:Nat}{r':List C}(h:dB r=dB r'):fz (.s .own (rows.set j r))=fz (.s .own (rows.set j r')):=by
 simp only[MD,V6];rw[<-bS,<-bS,h]
def jU(b:Bool):zzA 266 false [.val none [B b]] .one [I (if b=true then 0 else 90)]:=by
 cases b
 all_goals
  refine fO 4 [] Tryz.func266 rfl ?_
  refine ZP ?_
  rfl
def GV(m:aN)(f:Int)(a:bB m=true)(e:¬(0<=f/\f<=m.U.length - 1)):zzA 409 true [.val (some 2) (aN.enc .S m),.val none [I f]] (.tup [some 2,none]) (aN.enc .S m++[B false]):=by
 have g:=jw.of a;have b:=g.sml;have c:=ja m f b;rw[a,W0 e]at c;have h:=io m b;have key:zzA 409 true [.val (some 2) (aN.enc .S m),.val none [I f]] (.tup [some 2,none]) (aN.enc .own m++[B false]):=by
  refine fO 57 [(5,9,[31,32,33,34,35,36,37,38,39]),(6,270,[41,42,43,44,45,46,47,48,49,50,51,52,53,55,0,1,2,3,4,5,6,7,8,9,10,11,12,13,1000,1001,1002,1003,14,15])] Tryz.func409 rfl ?_ (.inl rfl)
  refine ZP ?_
  rfl
 have d:=key.fzR;rw[bU,Cf]at d;exact d
def DX(m:aN)(f:Nat)(i:bB m=true)(k:f<m.U.length):zzA 409 true [.val (some 2) (aN.enc .S m),.val none [I (f:Nat)]] (.tup [some 2,none]) (aN.enc .S (if 0<(nth m.U f).length then fI m f else m)++[B (decide (0<(nth m.U f).length))]):=by
 have d:=jw.of i;have F:=d.sml;have N:=d.b4;have J:=d.i4;have l:=ja m f F;rw[i,O0 ω]at l;have G:=io m F;have a:=QX k;have K:=d.bl f k;by_cases e:0<(nth m.U f).length
 ·rw[CC e,O0 e]
  have g:=((dH.1 i).2.1 f k).1 _ (au e);obtain⟨t,n⟩:=I3 g.1;have q:t<m.g.length:=ω
  have u:=ar e;have b:=ar q;have L:=d.il t ω;have w:=Cf (fI m f);rw[zy m f t n]at w;generalize O:nth (nth m.U f) 0=p at *;obtain⟨P,H⟩:=p;simp only at n g w;subst n;have M:zzA 183 false [.val (some 2) (aN.enc .S m)] .agg [.s .own ((m.U.map (bJ .own)).set f (bJ .S (nth m.U f))),.s .own (m.g.map (aG .own))]:=by
   have h:=G.fzAt (off:=0) (o:=.own) (rows:=m.U.map (bJ .own)) rfl (by simp) (j:=f) (aa a);rw[lR]at h;exact h
  have y:((m.U.map (bJ .own)).set f (bJ .S (nth m.U f)))[f]? = some (bJ .S (nth m.U f)):=t4 (by rw[I1];omega);have key:zzA 409 true [.val (some 2) (aN.enc .S m),.val none [I (f:Nat)]] (.tup [some 2,none]) ([.s .own ((m.U.map (bJ .own)).set f [.s .S (((nth m.U f).drop 1).map (cJ.enc .S))]),.s .own ((m.g.map (aG .own)).set t (aG .own (nth m.g t++[H])))]++[B true]):=by
   refine fO 57 [(5,9,[31,32,33,34,35,36,37,38,39]),(6,270,[41,42,43,44,45,46,47,48,49,50,51,52,53,55,0,1,2,3,4,5,6,7,8,9,10,11,12,13,1000,1001,1002,1003,14,15])] Tryz.func409 rfl ?_ (.inl rfl)
   repeat'(first|refine gB ?_|with_reducible refine Bf.E (λD=>?_) (λD=>?_)|refine CK (by decide) (aa u) ?_|refine CA y ?_|refine CA (cy b) ?_|refine CE rfl y rfl ?_|refine CE rfl (cy b) rfl ?_|refine Rw.two rfl (aa a) rfl rfl (aa u) rfl ?_|refine Lq.one rfl rfl (aa b) rfl (O1 rfl) rfl rfl ?_|refine CW 1 rfl (by rw[I1];omega) (aK λ_=>rfl) V4 ?_|refine CM rfl rfl y rfl (O1 rfl) (show [C.s dA.own ((m.U.map (bJ .own)).set f [.s .S (((nth m.U f).drop 1).map (cJ.enc .S))]),C.s .own (m.g.map (aG .own))]=_ from by simp only[List.set_cons_zero,List.set_set,C3];rfl) ?_|refine CM rfl rfl (cy b) rfl (O1 rfl) (show [C.s dA.own ((m.U.map (bJ .own)).set f [.s .S (((nth m.U f).drop 1).map (cJ.enc .S))]),C.s .own ((m.g.map (aG .own)).set t (aG .own (nth m.g t++[H])))]=_ from by simp only[List.set_cons_zero,List.set_cons_succ,List.set_set,C3];rfl) ?_|refine CV (aK λ_=>rfl) rfl (by simp;omega) (by decide) (dR _ _ _) ?_)
   rfl
  have c:=key.fzR;change am _ _ _ _ _ [fz (.s .own _),fz (.s .own _),fz (B true)]at c;rw[Q7 (r:=[.s .S (((nth m.U f).drop 1).map (cJ.enc .S))]) (r':=[.s .own (((nth m.U f).drop 1).map (cJ.enc .S))]) rfl]at c;rw[<-w];exact c
 rw[CB e,W0 e];have key:zzA 409 true [.val (some 2) (aN.enc .S m),.val none [I (f:Nat)]] (.tup [some 2,none]) (aN.enc .own m++[B false]):=by
  refine fO 57 [(5,9,[31,32,33,34,35,36,37,38,39]),(6,270,[41,42,43,44,45,46,47,48,49,50,51,52,53,55,0,1,2,3,4,5,6,7,8,9,10,11,12,13,1000,1001,1002,1003,14,15])] Tryz.func409 rfl ?_ (.inl rfl)
  repeat'(first|refine gB ?_|with_reducible refine Bf.E (λD=>?_) (λD=>?_))
  rfl
 have c:=key.fzR;rw[bU,Cf]at c;exact c
def vf(h:ac)(t:Int)(i:ac.sml h)(d:bg h []):zzA 265 true [.val (some 24) (ac.enc .S h),.val none [I t]] (.tup [some 24,none]) (ac.enc .S (if(0<=t/\t<=h.T.length - 1)/\0<(nth h.j.U t.toNat).length then {h with j:=fI h.j t.toNat} else h)++[B (decide ((0<=t/\t<=h.T.length - 1)/\0<(nth h.j.U t.toNat).length))]):=by
 have j:=d.nc;have e:=(iu h i).fzR;rw[ac.enc_fz]at e;have g:=cT h i;rw[ee,d.to]at g;by_cases c:0<=t/\t<=h.T.length - 1
 ·obtain⟨k,rfl⟩:=I3 c.1
  simp only[C3];have a:=DX h.j k d.mail ω;by_cases b:0<(nth h.j.U k).length
  ·rw[CC ⟨c,b⟩,O0 ⟨c,b⟩]
   rw[CC b,O0 b]at a;refine fO 29 [] Tryz.func265 rfl ?_ (.inl rfl)
   repeat'(first|refine gP ?_|refine Cl.sh a rfl ?_)
   rfl
  rw[CB (λx=>b x.2),W0 (λx=>b x.2)];rw[CB b,W0 b]at a;refine fO 29 [] Tryz.func265 rfl ?_ (.inl rfl)
  repeat'(first|refine gP ?_|refine Cl.sh a rfl ?_)
  rfl
 rw[CB (λx=>c x.1),W0 (λx=>c x.1)];have a:=GV h.j t d.mail ω;refine fO 29 [] Tryz.func265 rfl ?_ (.inl rfl)
 repeat'(first|refine gP ?_|refine Cl.sh a rfl ?_)
 rfl
def EK(m:aN)(t:Nat)(d:bB m=true)(h:t<m.U.length):zzA 410 false [.val (some 2) (aN.enc .S m),.val none [I (t:Nat)]] (.tup [some 2,none]) (aN.enc .own (iK m t)++aG .own (nth m.g t)):=by
 have b:=jw.of d;have e:=b.sml;have p:=b.b4;have j:=b.i4;have g:=ja m t e;rw[d,O0 ω]at g;have k:=io m e;have c:=ar (xs:=m.g) (i:=t) ω;have l:=b.il t h;have n:=cD (nth m.g t) ω;have a:=aB (Ce (iK m t)) (bO (nth m.g t));have o:aN.enc .own (iK m t)=[.s .own (m.U.map (bJ .own)),.s .own ((m.g.map (aG .own)).set t [.s .own []])]:=by simp[aN.enc,iK,V6];rfl
 rw[o]at a |-;refine fO 25 [(5,7,[18,19,20,21,22,23,24])] Tryz.func410 rfl ?_ (.inr a)
 repeat'((conv=>whnf);first|with_reducible (first|refine Lm ?_|refine Wm ω ?_|refine CA (aa c) ?_|refine Bn ?_|refine jo.dk rfl ?_)|refine Bt ?_|refine Bu ?_|refine C9 ?_|refine C8 (g) ?_|refine C8 (k) ?_|refine C8 (n) ?_|refine CE rfl (aa c) rfl ?_|refine CM rfl rfl (aa c) rfl (O1 rfl) rfl ?_|refine C9 ?_)
 exact .cons (.rfl_ _) (.cons (Mb.set _ _ (.cons .z_ .nil)) (.cons (.rfl_ _) .nil))
def nB(h:ac)(t:Int)(l:ac.sml h)(a:bg h []):zzA 267 false [.val (some 24) (ac.enc .S h),.val none [I t]] (.tup [some 24,none]) (cY (if h.H.Calls≠100000/\0<=t/\t<=h.T.length - 1 then collect h t.toNat else h)++[I (if h.H.Calls≠100000/\0<=t/\t<=h.T.length - 1 then((nth h.j.g t.toNat).length:Nat) else 0)]):=by
 have r:=a.nc;have u:=(dH.1 a.mail).1.2.2;have n:=dt h l;have b:=oh h t l;rw[a.to]at b;by_cases e:h.H.Calls≠100000/\0<=t/\t<=h.T.length - 1;rotate_left
 ·rw[CB e,CB e]
  rw[show(decide (0<=t/\t<=h.T.length - 1)&&decide (h.H.Calls≠100000)&&true)=false by
    rw[Bool.and_true,<-W5,I0,C0,C0];exact λx=>e ⟨x.2,x.1⟩]at b
  refine fP 40 [(109,[2,0,0])] [] Tryz.func267 rfl ?_ (.inr (aB (bX _) ⟨trivial,trivial⟩))
  refine ZP ?_
  rfl
 rw[CC e,CC e];obtain⟨o,p⟩:=e;rw[show(decide (0<=t/\t<=h.T.length - 1)&&decide (h.H.Calls≠100000)&&true)=true by
   rw[Bool.and_true,I0,C0,C0];exact⟨p,o⟩]at b
 obtain⟨T,rfl⟩:=I3 p.1;simp only[C3];have q:=EK h.j T a.mail ω;have d:=(jw.of a.mail).il T ω;have g:=a.coll (t:=T) ω;rw[List.append_nil]at g;unfold collect;generalize nth h.j.g T=out at q g d |-;refine fP 40 [(109,[2,0,0])] [] Tryz.func267 rfl ?_ (.inr (aB (bX _) ⟨trivial,trivial⟩))
 refine ZP ?_
 refine CF (ι:=Nat) (λk=>[(1,.G .one [I ((T:Nat):Int)]),(4,.G .box md),(6,.G .box (cY (recycs T {h with j:=iK h.j T} (out.take k)))),(8,.G .one (aG .own out)),(27,.c2 8 0 [] none),(28,.G .one [I (out.length)]),(29,.G .one [I ((k:Nat):Int)])]) (λk=>k<=out.length) (λk=>out.length - k) (0) ?_ (X0 _) λk y=>?_
 ·exact wC
 by_cases i:k<out.length
 ·have c:=ar i
  have j:bg (recycs T {h with j:=iK h.j T} (out.take k)) (nth out k::out.drop (k+1)):=by
   refine bg.recycs ?_ (by show T<h.T.length;omega);rw[<-fN i,List.take_append_drop];exact g
  have w:=tT _ _ T _ j (by rw[(f7 T _ _).1];show T<h.T.length;omega) (by rw[(f7 T _ _).2.2.1];exact o)
  refine ZE ?_
  (refine CD (k+1) ω ω ?_)
  rw[vY _ _ _ _ i];exact wC
 obtain rfl:k=out.length:=ω
 rw[I5]
 refine ZE ?_
 rfl
def mod1(k:ah)(q:Nat):Prop:=(nth k.F.Q.O q).k=1
def K1(k a:ah):Prop:=∀q,mod1 a q->mod1 k q
structure S1(h g:ac):Prop where
 k:K1 h.H g.H
 m:g.a2=h.a2
 j:g.a5=h.a5
def Hm(h:ac)(a:Int):Int:=cj (ta a) h.M
def QD(e:0<=Hm h a):(Hm h a).toNat<h.M.length/\(nth h.M (Hm h a).toNat).Addr<=a/\a<(nth h.M (Hm h a).toNat).Addr+(nth h.M (Hm h a).toNat).a1:=by
 obtain⟨b,c,-⟩:=ek (ta a) h.M e;exact⟨b,of_decide_eq_true c⟩
def wj(o:bi)(a:Int)(c:0<=o.a1/\o.a1<=1000/\0<=o.Addr/\o.Addr<=1000):zzA 587 false [.val (some 4) (bi.enc .S o),.ptr [I a]] .one [B (ta a o)]:=by
 have b:=aI a o.Addr (o.Addr+o.a1 - 1);refine fO 14 [] Tryz.func587 rfl ?_
 refine ZP ?_
 exact Z0 (λz=>[B z]) ((by unfold ta;exact decide_eq_decide.2 ω))
def AS(h:ac)(a:Int)(e:h.M.length<=1048576)(b:∀o∈h.M,0<=o.a1/\o.a1<=1000/\0<=o.Addr/\o.Addr<=1000):zzA 567 false [.val (some 24) (ac.enc .S h),.val none [I a]] .one [I (Hm h a)]:=by
 refine fO 9 [] Tryz.func567 rfl ?_
 repeat'(first|refine gP ?_|refine Cq.mk (pk (some 4) (bi.enc .S) (ta a) h.M) (wj ⟨0,0,0,0⟩ a (by decide)).has (λL k rcs c=>?_) ?_|refine C8 (jZ h.M (ta a) ω) ?_)
 ·obtain⟨y,d,rfl,rfl,rfl⟩:=c
  exact wj y a (b y d)
 rfl
def r7(h:ac)(a:Int)(e:ac.sml h)(b:bg h []):zzA 504 false [.val (some 24) (ac.enc .S h),.val none [I a]] .one [I (Hm h a)]:=by
 have c:=cT h e;rw[ee,b.to]at c;have g:=b.lens.objs;have i:=AS h a ω (λo d=>by
   have j:=b.objSz o d;have k:=nh b d;omega)
 refine fO 11 [] Tryz.func504 rfl ?_
 refine ZP ?_
 rfl
def Kf(b:bg h [])(e:0<=Hm h a):(ax (tbl h) (a / 16)).k≠0/\0<=a/\a<512:=by
 obtain⟨c,d,f⟩:=QD e;have:=jH b (au c) (k:=a - (nth h.M (Hm h a).toNat).Addr) ω;rw[show(nth h.M (Hm h a).toNat).Addr+(a - (nth h.M (Hm h a).toNat).Addr)=a by omega]at this;exact⟨this.1,ω,ω⟩
def EE(h:ac)(a v:Int):ac × Int:=if Hm h a<0 then(h,1) else if(ax (tbl h) (a / 16)).k=1 then(h,2) else({h with H:=hO h.H a v},0)
def zS(h:ac)(a v:Int)(l:ac.sml h)(c:bg h [])(o:0<=v/\v<=999):zzA 405 false [.val (some 24) (ac.enc .S h),.val none [I a],.val none [I v]] (.tup [some 24,none]) (cY (EE h a v).1++[I (EE h a v).2]):=by
 have i:=dt h l;have j:=r7 h a l c;unfold EE;by_cases e:Hm h a<0
 ·rw[CC e]
  refine fO 38 [] Tryz.func405 rfl ?_ (.inr (aB (bX _) ⟨trivial,trivial⟩))
  repeat'(first|refine gE ?_|with_reducible refine Bf.D (λb=>?_) (λb=>?_))
  rfl
 rw[CB e];obtain⟨n,p⟩:=Kf c (show 0<=Hm h a by omega);have k:=aZ c.ker;obtain⟨-,-,-,q,u⟩:=bM c.ker n;have r:=(aY.1 (aH.1 c.ker).2.1).2.2.1;have d:=y1 h.H.F a v (gZ c.ker) k.1 p o (λ_=>⟨q,ω,c.lens.row _ (au ω)⟩);unfold gI at d;rw[CB (show ¬(ax h.H.F.Q (a / 16)).k=0 from n)]at d;by_cases g:(ax h.H.F.Q (a / 16)).k=1
 ·rw[CC g]at d
  rw[CC (show(ax (tbl h) (a / 16)).k=1 from g)];refine fO 38 [] Tryz.func405 rfl ?_ (.inr (aB (bX _) ⟨trivial,trivial⟩))
  repeat'(first|refine gB ?_|with_reducible (first|refine Bf.D (λb=>?_) (λb=>?_)|refine Bf.E (λb=>?_) (λb=>?_)))
  rfl
 rw[CB g]at d;rw[CB (show ¬(ax (tbl h) (a / 16)).k=1 from g)];have t:cY {h with H:=hO h.H a v} = (cY h).set 0 (.s .own ((hO h.H a v).F.V.W.map (aG .own))):=rfl;refine fO 38 [] Tryz.func405 rfl ?_ (.inr (aB (bX _) ⟨trivial,trivial⟩))
 repeat'(first|refine gB ?_|with_reducible (first|refine Bf.D (λb=>?_) (λb=>?_)|refine Bf.E (λb=>?_) (λb=>?_)))
 rfl
def Ql{k:ah}{a:Int}(b:eM k a<k.F.V.W.length):∀m:Nat,a % 16+m<=16->zK k a m=en k a m
 | 0,_=>by
  unfold zK en iM;rw[DB b]
 | m+1,h=>by
  have c:(ax k.F.Q ((a+m) / 16))=ax k.F.Q (a / 16):=by rw[show(a+(m:Int)) / 16=a / 16 by omega]
  have d:((a+(m:Int)) % 16).toNat=(a % 16).toNat+m:=ω
  show hO (zK k a m) (a+m) 0=_;rw[Ql b m ω];unfold hO setCell eM en;simp only[c,d,iM];rw[show(ax k.F.Q (a / 16)).e.toNat=eM k a from rfl,cL,CC ⟨rfl,b⟩,List.set_set]
def zQ(l:aD)(n:Int)(d:bZ l=true):zzA 507 false [.val (some 3) (aD.enc .S l),.val none [I n]] (.tup [some 3,some 2,none]) (if 9<=n/\n<=l.a1 then aD.enc .own (trimL l n)++aE.enc .own (iL l n)++[B true] else aD.enc .own l++[I 0,I 0]++[B false]):=by
 have b:=nX l;rw[d]at b;have a:=aI n 9 l.a1;have g:=d;unfold bZ at g;rw[C0]at g;by_cases e:9<=n/\n<=l.a1
 ·rw[O0 e]at a
  rw[CC e];have c:=mQ n;rw[show er n=(n+15) / 16 by unfold er;rw[CC ω]]at c;unfold iL;by_cases h:(n+15) / 16<l.w
  ·rw[CC h]
   refine fO 45 [(3,7,[20,21,22,23,24,25,7]),(6,268,[33,34,35,36,37,38,39,40,41,42,43,44,0,1,2,3,4,5,6,7,8,9,10,11,12,1001,1002,1003,1004,1005,1006,1007,1008,1009,1010,1011,13,14])] Tryz.func507 rfl ?_ (.inr ⟨trivial,trivial,trivial,trivial,trivial,trivial,trivial⟩)
   refine ZB ?_
   rfl
  rw[CB h];have i:(n+15) / 16=l.w:=ω
  refine fO 45 [(3,7,[20,21,22,23,24,25,7]),(6,268,[33,34,35,36,37,38,39,40,41,42,43,44,0,1,2,3,4,5,6,7,8,9,10,11,12,1001,1002,1003,1004,1005,1006,1007,1008,1009,1010,1011,13,14])] Tryz.func507 rfl ?_ (.inr ⟨trivial,trivial,trivial,trivial,trivial,trivial,trivial⟩)
  refine ZB ?_
  rfl
 rw[W0 e]at a;rw[CB e];refine fO 45 [(3,7,[20,21,22,23,24,25,7]),(6,268,[33,34,35,36,37,38,39,40,41,42,43,44,0,1,2,3,4,5,6,7,8,9,10,11,12,1001,1002,1003,1004,1005,1006,1007,1008,1009,1010,1011,13,14])] Tryz.func507 rfl ?_ (.inr ⟨trivial,trivial,trivial,trivial,trivial,trivial,trivial⟩)
 refine ZP ?_
 rfl
def dd(l:aD)(a:Int)(b:0<=l.R/\l.R<=32):zzA 506 false [.val (some 3) (aD.enc .S l),.ptr [I a]] .one [B (kY a l)]:=by
 refine fO 9 [] Tryz.func506 rfl ?_
 refine ZP ?_
 exact Z0 (λz=>[B z]) ((by unfold kY;rw[v5];simp))
def HL(h:ac)(i g:Nat)(n:Int)(K:ah)(a:h.J≠[])(b:h.M≠[]):cY (fZ h i g n K)=cE {h with H:=K} (oS h) (.s .own ((h.J.map (aD.enc .own)).set g (aD.enc .own (trimL (nth h.J g) n)))) (.s .own ((h.M.map (bi.enc .own)).set i (splice (bi.enc .own (nth h.M i)) 2 [I n]))):=by
 have c:oL (fZ h i g n K)=.s .own ((h.J.map (aD.enc .own)).set g (aD.enc .own (trimL (nth h.J g) n))):=by
  unfold oL;rw[pf (by simp[fZ];exact a)];simp[fZ,V6]
 have d:oO (fZ h i g n K)=.s .own ((h.M.map (bi.enc .own)).set i (splice (bi.enc .own (nth h.M i)) 2 [I n])):=by
  unfold oO;rw[pf (by simp[fZ];exact b),BW]
 unfold cY;rw[c,d];rfl
def By(h:ac)(i:Nat)(n:Int)(hs:ac.sml h)(o:bg h [])(W:i<h.M.length):zzA 407 false [.val (some 24) (ac.enc .S h),.val none [I (nth h.M i).Addr],.val none [I n]] (.tup [some 24,none]) (cY (if h.H.Calls≠100000/\hC h i n then trimH h i (p9 h (nth h.M i).Addr).toNat n else h)++[B (decide (h.H.Calls≠100000/\hC h i n))]):=by
 have l:=o.lens;have hnl:=l.larges;have hno:=l.objs;have hpg:eO h<=32:=l.ents;have N:=dt h hs;have O:=cT h hs;rw[ee,o.to]at O;have C:=kO h.J (kY (nth h.M i).Addr) ω;have d:∀y∈h.J,0<=y.R/\y.R<=32:=λy p=>by have:=aX (o.L.lok y p);omega
 change am _ _ _ _ _ [I (p9 h (nth h.M i).Addr)]at C;by_cases e1:p9 h (nth h.M i).Addr<0
 ·rw[CB (λx=>by have:=x.2.1;omega),W0 (λx=>by have:=x.2.1;omega)]
  refine fP 81 [(105,[2,0,0]),(103,[2,0])] [(9,6,[53,54,55,56,57,58])] Tryz.func407 rfl ?_ (.inr (aB (bX _) ⟨trivial,trivial⟩))
  repeat'(first|refine gE ?_|refine Cq.mk (pk (some 3) (aD.enc .S) (kY (nth h.M i).Addr) h.J) (dd ⟨0,0,0⟩ (nth h.M i).Addr ⟨by decide,by decide⟩).has (λL k rcs q=>?_) ?_)
  ·obtain⟨y,p,rfl,rfl,rfl⟩:=q
   exact dd y _ (d y p)
  rfl
 by_cases X:h.H.Calls=100000
 ·rw[CB (λx=>x.1 X),W0 (λx=>x.1 X)]
  refine fP 81 [(105,[2,0,0]),(103,[2,0])] [(9,6,[53,54,55,56,57,58])] Tryz.func407 rfl ?_ (.inr (aB (bX _) ⟨trivial,trivial⟩))
  repeat'(first|refine gB ?_|refine Cq.mk (pk (some 3) (aD.enc .S) (kY (nth h.M i).Addr) h.J) (dd ⟨0,0,0⟩ (nth h.M i).Addr ⟨by decide,by decide⟩).has (λL k rcs q=>?_) ?_)
  ·obtain⟨y,p,rfl,rfl,rfl⟩:=q
   exact dd y _ (d y p)
  rfl
 obtain⟨f1,f2,f3⟩:=ek (kY (nth h.M i).Addr) h.J (by unfold p9 at e1;omega);obtain⟨g,t⟩:=I3 (show 0<=p9 h (nth h.M i).Addr by omega);have r:g<h.J.length:=by unfold p9 at t;omega
 have hga:(nth h.J g).R*16=(nth h.M i).Addr:=by
  have:=of_decide_eq_true f2;rw[show(cj (kY (nth h.M i).Addr) h.J).toNat=g by unfold p9 at t;omega]at this;exact this
 have E:hC h i n↔9<=n/\n<=(nth h.J g).a1:=by
  unfold hC;rw[t,C3];exact⟨λx=>x.2,λx=>⟨ω,x⟩⟩
 rw[t,C3];rw[t]at C;have b:=ar r;have P:=zQ (nth h.J g) n (o.L.lok _ (au r));by_cases U:9<=n/\n<=(nth h.J g).a1;rotate_left
 ·rw[CB (λx=>U (E.1 x.2)),W0 (λx=>U (E.1 x.2))]
  rw[CB U]at P;refine fP 81 [(105,[2,0,0]),(103,[2,0])] [(9,6,[53,54,55,56,57,58])] Tryz.func407 rfl ?_ (.inr (aB (bX _) ⟨trivial,trivial⟩))
  repeat'(first|refine gB ?_|refine Cq.mk (pk (some 3) (aD.enc .S) (kY (nth h.M i).Addr) h.J) (dd ⟨0,0,0⟩ (nth h.M i).Addr ⟨by decide,by decide⟩).has (λL k rcs q=>?_) ?_)
  ·obtain⟨y,p,rfl,rfl,rfl⟩:=q
   exact dd y _ (d y p)
  rfl
 rw[CC ⟨X,E.2 U⟩,O0 ⟨X,E.2 U⟩];rw[CC U]at P;change am _ _ _ _ _ ([I (nth h.J g).R,I ((n+15) / 16),I n]++aE.enc .own (iL (nth h.J g) n)++[B true]) at P;obtain⟨-,Y,u⟩:=o.objAt (au W);have hii:jB h (nth h.M i).Addr=i:=by
  have h2:=(o.objAt (au W)).1;exact gz (f:=(·.Addr)) (gp o.osr) h2 W (by rw[Y])
 rw[hii]at u;have Z:=rW h (nth h.M i).Addr ω;rw[u]at Z;have c:=ar W;have h8:=o.L.lok _ (au r);unfold bZ at h8;rw[C0]at h8;have Q:h.J≠[]:=fU r;have R:h.M≠[]:=fU W;have heh:cY h=cE h (oS h) (.s .own (h.J.map (aD.enc .own))) (.s .own (h.M.map (bi.enc .own))):=by
  unfold cY oL oO;rw[pf λe=>Q (List.map_eq_nil_iff.1 e),pf λe=>R (List.map_eq_nil_iff.1 e)]
 rw[heh]at N;have heT:=λK=>HL h i g n K Q R
 have F:((nth h.J g).R*16+n).tmod 16=((nth h.J g).R*16+n) % 16:=ew ω;have S:=zB o r U (V3 _);have hm1:=mr o r (a:=16*(nth h.J g).R+n - 1) ω;have w:=v7 h.H (16*(nth h.J g).R+n) (16*((n+15) / 16) - n).toNat;have T:trimH h i g n = {fZ h i g n (pd h g n) with H:=du (pd h g n) ((nth h.J g).R+(n+15) / 16) (dm (nth h.J g) n),a:=vT h g n}:=rfl;obtain⟨K,hK⟩ : ∃K,K=pd h g n:=⟨_,rfl⟩
 have G:(((nth h.J g).R*16+n) % 16=0->K=h.H)/\(((nth h.J g).R*16+n) % 16≠0->K=en h.H ((nth h.J g).R*16+n) (16 - ((nth h.J g).R*16+n) % 16).toNat):=by
  rw[hK];unfold pd;constructor
  ·intro z
   rw[show(16*((n+15) / 16) - n).toNat=0 by omega];rfl
  intro z;rw[show(16*((n+15) / 16) - n).toNat=(16 - ((nth h.J g).R*16+n) % 16).toNat by omega,show 16*(nth h.J g).R+n=(nth h.J g).R*16+n by omega];refine Ql ?_ _ ω;obtain⟨-,-,-,q0,q1⟩:=bM o.ker hm1;have hul:=(aY.1 (aH.1 o.ker).2.1).2.2.1;rw[show(16*(nth h.J g).R+n - 1) / 16=((nth h.J g).R*16+n) / 16 by omega]at q0 q1;unfold eM;omega
 rw[T,<-hK];have hkk:aJ K=true:=by rw[hK];exact S
 have hkc:K.Calls≠100000:=by rw[hK];show(zK _ _ _).Calls≠_;rw[w.2.1];exact X
 have hke:K.F.Q.O.length=h.H.F.Q.O.length:=by rw[hK];show(zK _ _ _).F.Q.O.length=_;rw[w.1]
 have hpn:eO (fZ h i g n K)=eO h:=hke;clear T S w;have c9:=jg (fZ h i g n K) (iL (nth h.J g) n) (dm (nth h.J g) n) hkk hkc (by show h.a.length<=_;have:=l.free;omega) (by
   unfold iL dm;split
   · exact⟨by show(nth h.J g).w - (n+15) / 16=_;omega,by show 0<=(nth h.J g).R+(n+15) / 16;omega,by show(nth h.J g).R+(n+15) / 16<=_;omega,ω⟩
   exact⟨by show(0:Int)=_;omega,by show(0:Int)<=0;omega,by show(0:Int)<=_;omega,ω⟩)
 rw[hpn,heT]at c9;have hd:cY {fZ h i g n K with H:=du K ((nth h.J g).R+(n+15) / 16) (dm (nth h.J g) n),a:=vT h g n} = if(n+15) / 16<(nth h.J g).w then cY {fZ h i g n K with H:=du K (iL (nth h.J g) n).At (dm (nth h.J g) n),a:=(ce (eO h) h.a (iL (nth h.J g) n)).getD h.a} else cE {h with H:=K} (oS h) (.s .own ((h.J.map (aD.enc .own)).set g (aD.enc .own (trimL (nth h.J g) n)))) (.s .own ((h.M.map (bi.enc .own)).set i (splice (bi.enc .own (nth h.M i)) 2 [I n]))):=by
  by_cases e:(n+15) / 16<(nth h.J g).w
  ·rw[CC e]
   have e5:iL (nth h.J g) n = ⟨(nth h.J g).R+(n+15) / 16,(nth h.J g).w - (n+15) / 16⟩:=by unfold iL;rw[CC e]
   have H:((dm (nth h.J g) n:Nat):Int)=(nth h.J g).w - (n+15) / 16:=by unfold dm;omega
   rw[e5];unfold vT;rw[CC ω,H]
  rw[CB e,<-heT];have H:dm (nth h.J g) n=0:=by unfold dm;omega
  unfold vT;rw[H,CB ω];rfl
 rw[hd];have J:(iL (nth h.J g) n).a4=if(n+15) / 16<(nth h.J g).w then(nth h.J g).w - (n+15) / 16 else 0:=by unfold iL;split<;>rfl
 have j:g0 (if(n+15) / 16<(nth h.J g).w then cY {fZ h i g n K with H:=du K (iL (nth h.J g) n).At (dm (nth h.J g) n),a:=(ce (eO h) h.a (iL (nth h.J g) n)).getD h.a} else cE {h with H:=K} (oS h) (.s .own ((h.J.map (aD.enc .own)).set g (aD.enc .own (trimL (nth h.J g) n)))) (.s .own ((h.M.map (bi.enc .own)).set i (splice (bi.enc .own (nth h.M i)) 2 [I n])))):=by rw[<-hd];exact bX _
 clear hd hga u Y f1 f2 f3;by_cases e5:((nth h.J g).R*16+n) % 16=0
 ·have M:=G.1 e5
  rw[M]at c9 j |-;clear G;by_cases H:(n+15) / 16<(nth h.J g).w
  ·rw[CC H]at j J |-
   refine fP 81 [(105,[2,0,0]),(103,[2,0])] [(9,6,[53,54,55,56,57,58])] Tryz.func407 rfl ?_ (.inr (aB j ⟨trivial,trivial⟩))
   repeat'(first|refine gB ?_|with_reducible refine Bf.D (λV=>?_) (λV=>?_)|refine Cq.mk (pk (some 3) (aD.enc .S) (kY (nth h.M i).Addr) h.J) (dd ⟨0,0,0⟩ (nth h.M i).Addr ⟨by decide,by decide⟩).has (λL k rcs q=>?_) ?_|refine CM rfl rfl (aa b) rfl (O1 rfl) rfl ?_|refine CM rfl rfl (aa c) rfl (O1 rfl) rfl ?_|refine CN (by decide) ?_|refine CQ F ?_)
   ·obtain⟨y,p,rfl,rfl,rfl⟩:=q
    exact dd y _ (d y p)
   rfl
  rw[CB H]at j J |-;refine fP 81 [(105,[2,0,0]),(103,[2,0])] [(9,6,[53,54,55,56,57,58])] Tryz.func407 rfl ?_ (.inr (aB j ⟨trivial,trivial⟩))
  repeat'(first|refine gB ?_|with_reducible refine Bf.D (λV=>?_) (λV=>?_)|refine Cq.mk (pk (some 3) (aD.enc .S) (kY (nth h.M i).Addr) h.J) (dd ⟨0,0,0⟩ (nth h.M i).Addr ⟨by decide,by decide⟩).has (λL k rcs q=>?_) ?_|refine CM rfl rfl (aa b) rfl (O1 rfl) rfl ?_|refine CM rfl rfl (aa c) rfl (O1 rfl) rfl ?_|refine CN (by decide) ?_|refine CQ F ?_)
  ·obtain⟨y,p,rfl,rfl,rfl⟩:=q
   exact dd y _ (d y p)
  rfl
 have M:=G.2 e5;have hcc:0<=(ax h.H.F.Q (((nth h.J g).R*16+n) / 16)).e/\(ax h.H.F.Q (((nth h.J g).R*16+n) / 16)).e<h.H.F.V.W.length:=by
  obtain⟨-,-,-,q0,q1⟩:=bM o.ker hm1;have hul:=(aY.1 (aH.1 o.ker).2.1).2.2.1;rw[show(16*(nth h.J g).R+n - 1) / 16=((nth h.J g).R*16+n) / 16 by omega]at q0 q1;exact⟨q0,ω⟩
 have c8:=kM h (oS h) (.s .own ((h.J.map (aD.enc .own)).set g (aD.enc .own (trimL (nth h.J g) n)))) (.s .own ((h.M.map (bi.enc .own)).set i (splice (bi.enc .own (nth h.M i)) 2 [I n]))) ((nth h.J g).R*16+n) (16 - ((nth h.J g).R*16+n) % 16).toNat o.ker ω hcc ω (l.row _ (au (by unfold eM;omega)));rw[<-M,show(((16 - ((nth h.J g).R*16+n) % 16).toNat:Nat):Int)=16 - ((nth h.J g).R*16+n) % 16 by omega]at c8;clear G M;by_cases H:(n+15) / 16<(nth h.J g).w
 ·rw[CC H]at j J |-
  refine fP 81 [(105,[2,0,0]),(103,[2,0])] [(9,6,[53,54,55,56,57,58])] Tryz.func407 rfl ?_ (.inr (aB j ⟨trivial,trivial⟩))
  repeat'(first|refine gB ?_|with_reducible refine Bf.D (λV=>?_) (λV=>?_)|refine Cq.mk (pk (some 3) (aD.enc .S) (kY (nth h.M i).Addr) h.J) (dd ⟨0,0,0⟩ (nth h.M i).Addr ⟨by decide,by decide⟩).has (λL k rcs q=>?_) ?_|refine CM rfl rfl (aa b) rfl (O1 rfl) rfl ?_|refine CM rfl rfl (aa c) rfl (O1 rfl) rfl ?_|refine CN (by decide) ?_|refine CQ F ?_)
  ·obtain⟨y,p,rfl,rfl,rfl⟩:=q
   exact dd y _ (d y p)
  rfl
 rw[CB H]at j J |-;refine fP 81 [(105,[2,0,0]),(103,[2,0])] [(9,6,[53,54,55,56,57,58])] Tryz.func407 rfl ?_ (.inr (aB j ⟨trivial,trivial⟩))
 repeat'(first|refine gB ?_|with_reducible refine Bf.D (λV=>?_) (λV=>?_)|refine Cq.mk (pk (some 3) (aD.enc .S) (kY (nth h.M i).Addr) h.J) (dd ⟨0,0,0⟩ (nth h.M i).Addr ⟨by decide,by decide⟩).has (λL k rcs q=>?_) ?_|refine CM rfl rfl (aa b) rfl (O1 rfl) rfl ?_|refine CM rfl rfl (aa c) rfl (O1 rfl) rfl ?_|refine CN (by decide) ?_|refine CQ F ?_)
 ·obtain⟨y,p,rfl,rfl,rfl⟩:=q
  exact dd y _ (d y p)
 rfl
def Fs(h:ac)(t a:Int)(b:ac.sml h)(e:eE h=true)(j:h.H.Calls≠100000)(g:¬(0<=t/\t<=h.T.length - 1)):zzA 33 false [.val (some 24) (ac.enc .S h),.val none [I t],.val none [I a]] (.tup [some 24,none]) (cY h++[I 1]):=by
 have c:=cT h b;rw[ee,e]at c;have i:h.T.length<=1048576:=b.2.2.2.2.2.1.1;have d:=aI t 0 (h.T.length - 1:Int);rw[W0 g]at d;refine fP 163 [(99,[1,0,0]),(102,[1,0,0]),(103,[2,0]),(105,[2,0,0]),(109,[2,0,0])] [(20,12,[85,86,87,88,89,90,91,92,93,94,95,96]),(24,4,[111,112,113,114])] Tryz.func33 rfl ?_ (.inr (aB (bX _) ⟨trivial,trivial⟩))
 repeat'(first|refine gB ?_|refine C8 (dt h b) ?_)
 rfl
def MC(m:aP)(a v:Int)(h:cV m=true)(c:aP.sml m)(i:0<=a/\a<512)(j:¬(0<=v/\v<=999))(k:(ax m.Q (a / 16)).k≠0):zzA 505 false [.val (some 3) (aP.enc .S m),.val none [I a],.val none [I v]] (.tup [some 3,none]) (aP.enc .own m++[I (if(ax m.Q (a / 16)).k=1 then 2 else 3)]):=by
 have d:=jN m c;have e:=uf m a h c i;have b:=aI v 0 999;rw[W0 j]at b;by_cases g:(ax m.Q (a / 16)).k=1
 ·rw[CC g]
  refine fO 42 [] Tryz.func505 rfl ?_ (.inr (aB (aP.enc_fr m) ⟨trivial,trivial⟩))
  refine ZB ?_
  rfl
 rw[CB g];refine fO 42 [] Tryz.func505 rfl ?_ (.inr (aB (aP.enc_fr m) ⟨trivial,trivial⟩))
 refine ZB ?_
 rfl
def Bj(h:ac)(a v:Int)(i:ac.sml h)(c:bg h [])(n:¬(0<=v/\v<=999))(e:0<=Hm h a):zzA 405 false [.val (some 24) (ac.enc .S h),.val none [I a],.val none [I v]] (.tup [some 24,none]) (cY h++[I (if(ax (tbl h) (a / 16)).k=1 then 2 else 3)]):=by
 have j:=dt h i;have k:=r7 h a i c;obtain⟨o,p⟩:=Kf c e;have g:=aZ c.ker;have d:=MC h.H.F a v (gZ c.ker) g.1 p n o;unfold tbl;by_cases l:(ax h.H.F.Q (a / 16)).k=1
 ·rw[CC l]at d |-
  refine fO 38 [] Tryz.func405 rfl ?_ (.inr (aB (bX _) ⟨trivial,trivial⟩))
  repeat'(first|refine gB ?_|with_reducible (first|refine Bf.D (λb=>?_) (λb=>?_)|refine Bf.E (λb=>?_) (λb=>?_)))
  rfl
 rw[CB l]at d |-;refine fO 38 [] Tryz.func405 rfl ?_ (.inr (aB (bX _) ⟨trivial,trivial⟩))
 repeat'(first|refine gB ?_|with_reducible (first|refine Bf.D (λb=>?_) (λb=>?_)|refine Bf.E (λb=>?_) (λb=>?_)))
 rfl
set_option maxRecDepth 100000
def Jw:∀w,(zeroValue 180).run Tryz.prog w=.ok (.agg #[.int .i64 0,.int .i64 0]) w:=λ_=>by kernel_rfl
def Ep:uU Tryz.prog 458 2:=by
 refine⟨⟨_,Tryz.func458,by kernel_rfl,by kernel_rfl⟩,λw g n c i news r y o B C b=>?_⟩;obtain⟨A,X,a⟩:=sZ o y r B;have a:Hid (∀t u,news[t]? = some u->w.drew.cell? (A.add t)=some u):=a;have T:Hid (news.length=(n - (i+1))*2):=o;have Y:Hid (∀u∈news,u.oneCell'=true):=C;have Z:Hid (∀t,t<news.length->(w.drew.cell? ⟨g,0+i*2+t,none⟩).isSome=true/\w.drew.frozen? ⟨g,0+i*2+t,none⟩ = false):=λt ht=>by
  rw[O7];exact b (i*2+t) ω
 obtain⟨p,d⟩ : ∃p,p=w.drew.setCells g (0+i*2) news:=⟨_,rfl⟩
 have K:∀q,q<n*2->(p.cell? ⟨g,q,none⟩).isSome=true/\p.frozen? ⟨g,q,none⟩ = false:=λq U=>by
  have D:∀j,j<news.length->∃z,cel w.drew g (0+i*2+j)=some z:=λj L=>by
   have:=(b (0+i*2+j) ω).1;exact Option.isSome_iff_exists.1 this
  refine⟨?_,by rw[d];exact(Z0 Prod.fst (bP g _ news w.drew g q)).trans (b q U).2⟩;rw[d];by_cases h:0+i*2<=q/\q<0+i*2+news.length
  ·have:=br D (X2 (show q - (0+i*2)<news.length by omega))
   rw[show 0+i*2+(q - (0+i*2))=q by omega]at this;show(cel _ g q).isSome=true;rw[this];rfl
  show(cel _ g q).isSome=true;rw[bf (λx=>h x.2)];exact(b q U).1
 obtain⟨M,E,F,G⟩:=tW (P:=Tryz.prog) p 36 180 2 (.agg #[.int .i64 0,.int .i64 0]) Tryz.underlying36 Jw rfl (by intro v V;simp[Value.cells]at V;subst V;rfl) g ((i+(n - (i+1)))*2) (n - (i+(n - (i+1)))) ω (by decide) (λj L=>(K _ ω).1) (λj L=>(K _ ω).2);have k:Hid (M.length=(n - (i+(n - (i+1))))*2):=E;have H:Hid (∀v∈M,v.oneCell'=true):=F;have W:Hid (p=w.drew.setCells g (0+i*2) news):=d;have hic:i<=c:=ω
 have N:i+1<=c:=ω
 have O:¬i=i+1:=ω
 have Q:i+1<=n:=r;have l:n - 1=i+(n - (i+1)):=ω
 clear d K b B C o E F;rw[l];generalize L:i+1=j at X a T G k N O Q l |-;obtain⟨J,R,S⟩ : ∃J,Tryz.prog.info? 180=some J/\J.size=2:=by
  have h:=(rp 180 _ rfl).1;cases e : Tryz.prog.info? 180 with
  | none=>rw[e]at h;cases h
  | some x=>rw[e]at h;simp only[O5,C1,Prod.mk.injEq]at h;exact⟨x,rfl,h.2.1⟩
 have mixed : Tryz.prog.follows .mixedOrders=true:=by kernel_rfl
 go_enter Tryz.func458,Tryz.ntmps458
 go_wp2_with fail
 go_region_law_o (refine step_append_room rfl (.tmp 22) (.tmp 25) 36 rfl 180 J 2 Tryz.underlying36 R S g 0 i c (by simp[Act.eval,Act.put]) A (n - j) (c - j) news (by simp[Act.eval,Act.put]) T.out a.out Y.out ω Z.out ?_;rw[<-W.out])
 go_wp2
 go_ret
 refine⟨rfl,M,by have:=k.out;omega,H.out,?_⟩;rw[W.out,O7]
def DU(xs:List aE)(i:Nat)(a:i<xs.length):zzB 458 false [.mut none [.s .own (xs.map (aE.enc .own))],.val none [I (i:Nat)],.val none [I ((i+1:Nat):Int)]] [.mut none [.x],.val none [I (i:Nat)],.val none [I ((i+1:Nat):Int)]] .one [oE ((dele xs i).map (aE.enc .own))]:=by
 have h:=zx Ep (rows:=xs.map (aE.enc .own)) (i:=i) (by rw[I1];exact a) (aK λ_=>rfl) (bj _ _ λx _=>aE.enc_fr x)
 rwa [show dele (xs.map (aE.enc .own)) i=(dele xs i).map (aE.enc .own) by simp[dele,O4,V4]]at h
def P7{α:Type}(xs:List α)(b:Nat)(y:α):dele (xs.set b y) b=dele xs b:=by
 unfold dele;rw[List.take_set_of_le (V3 b),List.drop_set_of_lt (Nat.lt_succ_self b)]
def tL(k:ah)(p:Int)(c:aJ k=true)(w:k.Calls≠100000)(n:0<=p/\p<k.F.Q.O.length)(y:(nth k.F.Q.O p.toNat).k=0):zzA 341 false [.val (some 5) (ah.enc .S k),.val none [I p]] (.tup [some 5,none]) (ah.enc .own (dE k p).1++[B (dE k p).2]):=by
 have h:=aZ c;have C:=(aH.1 c).2.2.2;have D:=(bq.1 (aH.1 c).2.2.1).2.2;have d:=gV k h;rw[c,O0 w]at d;have g:=nJ k h ⟨ω,ω⟩;have a:=ym k.F.V (aH.1 c).2.1 h.1.1;have j:ax k.F.Q p=nth k.F.Q.O p.toNat:=by unfold ax;exact CC n
 have o:=aI p 0 ((k.F.Q.O.length:Int) - 1);rw[O0 ω]at o;have q:=eX k p h.1.2;rw[j,y,W0 (by decide)]at q;have r:=ar (xs:=k.F.Q.O) (i:=p.toNat) ω;unfold wK at a;unfold dE;cases e:refd k<;>rw[e]at g
 ·by_cases b:oY k<0
  ·rw[CC (.inr b)]
   rw[CC (show cj (λu=>!u) k.F.V.y<0 from b)]at a;simp only at a;refine fO 64 [] Tryz.func341 rfl ?_ (.inr (aB (CX _) ⟨trivial,trivial⟩))
   refine ZP ?_
   rfl
  rw[CB (by simp[b])];rw[CB (show ¬cj (λu=>!u) k.F.V.y<0 from b)]at a;simp only at a;obtain⟨f,t⟩:=I3 (show 0<=oY k by omega);have l:cj (λu=>!u) k.F.V.y=(f:Nat):=t;rw[l]at a;rw[t];simp only[C3]at a |-;rw[D4]at a;rw[zX];refine fO 64 [] Tryz.func341 rfl ?_ (.inr (aB (by rw[<-zX];exact CX _) ⟨trivial,trivial⟩))
  repeat'(first|refine gP ?_|refine CK n.1 (aa r) ?_|refine CM rfl rfl (aa r) rfl (O1 rfl) rfl ?_)
  rfl
 rw[CC (.inl rfl)];by_cases b:oY k<0
 ·rw[CC (show cj (λu=>!u) k.F.V.y<0 from b)]at a
  simp only at a;refine fO 64 [] Tryz.func341 rfl ?_ (.inr (aB (CX _) ⟨trivial,trivial⟩))
  refine ZP ?_
  rfl
 rw[CB (show ¬cj (λu=>!u) k.F.V.y<0 from b)]at a;simp only at a;refine fO 64 [] Tryz.func341 rfl ?_ (.inr (aB (CX _) ⟨trivial,trivial⟩))
 refine ZP ?_
 rfl
def Ua(xs:List aE)(n:Int):List C:=(if(aC xs n).2.2=true then [oE ((aC xs n).1.map (aE.enc .own))] else bp .own xs)++[I (aC xs n).2.1,B (aC xs n).2.2]
def RX(xs:List aE)(n:Int):g0 (Ua xs n):=by
 unfold Ua;split
 ·exact aB ⟨EX (iR _).1.2,trivial⟩ ⟨trivial,trivial,trivial⟩
 exact aB (iR _) ⟨trivial,trivial,trivial⟩
def BE(xs:List aE)(b:Nat)(y:aE):(xs.set b y).map (aE.enc .own)=(xs.map (aE.enc .own)).set b [I y.At,I y.a4]:=by rw[V6];rfl
def An(pages:Int)(xs:List aE)(n:Int)(K:0<=pages/\pages<=1048576)(u:bF pages xs=true)(R:1<=n/\n<=1000)(S:xs.length<=4096):zzA 340 false [.val none [I pages],.val none (bp .S xs),.val none [I n]] (.tup [none,none,none]) (Ua xs n):=by
 have p:gc xs:=⟨ω,λ_ _=>trivial⟩
 have w:=mS pages xs K p;rw[u]at w;have L:=kS xs p;have B:=(tZ u).2;refine fP 91 [(458,[1,0,0])] [(8,15,[32,33,34,35,36,37,38,39,40,41,42,43,44,45,46])] Tryz.func340 rfl ?_ (.inr (RX xs n))
 refine ZE ?_
 refine CF (ι:=Nat) (λi=>[(1,.G .one (bp .S xs)),(2,.G .one [I (n)]),(9,.G .one (bp .own xs)),(10,.G .one [I (fS xs n i)]),(25,.G .one (bp .S xs)),(26,.G .one [I (xs.length)]),(27,.G .one [I ((i:Nat):Int)])]) (λi=>i<=xs.length) (λi=>xs.length - i) (0) ?_ (X0 _) λi M=>?_
 ·exact wC
 have l:=u7 xs n i M;by_cases E:i<xs.length
 ·have k:=ar E
  have N:=B _ (au E);have d:fS xs n (i+1)=if n<=(nth xs i).a4/\(fS xs n i<0\/(nth xs i).a4<(nth xs (fS xs n i).toNat).a4) then((i:Nat):Int) else fS xs n i:=rfl
  by_cases F:n<=(nth xs i).a4
  ·by_cases O:fS xs n i<0
   ·rw[CC ⟨F,.inl O⟩]at d
    repeat'(first|refine gE ?_|with_reducible refine Bf.D (λh=>?_) (λh=>?_))
    (refine CD (i+1) ω ω ?_)
    rw[d];exact wC
   have a:=ar (xs:=xs) (i:=(fS xs n i).toNat) ω;by_cases P:(nth xs i).a4<(nth xs (fS xs n i).toNat).a4
   ·rw[CC ⟨F,.inr P⟩]at d
    repeat'(first|refine gE ?_|with_reducible (first|refine CK ω (aa a) ?_|refine Bf.D (λh=>?_) (λh=>?_)))
    (refine CD (i+1) ω ω ?_)
    rw[d];exact wC
   rw[CB ω]at d
   repeat'(first|refine gE ?_|with_reducible (first|refine CK ω (aa a) ?_|refine Bf.D (λh=>?_) (λh=>?_)))
   (refine CD (i+1) ω ω ?_)
   rw[d];exact wC
  rw[CB ω]at d
  repeat'(first|refine gE ?_|with_reducible refine Bf.D (λh=>?_) (λh=>?_))
  (refine CD (i+1) ω ω ?_)
  rw[d];exact wC
 obtain rfl:i=xs.length:=ω
 change f9 xs n = -1\/_ at l;unfold Ua aC;rw[show fS xs n xs.length=f9 xs n from rfl];by_cases e:f9 xs n<0
 ·rw[CC e]
  rw[show f9 xs n = -1 from l.resolve_right λg=>by have T:0<=f9 xs n:=g.1;omega]
  repeat'(first|refine gE ?_|with_reducible refine Bf.D (λh=>?_) (λh=>?_))
  rfl
 rw[CB e];obtain⟨Q,G,U⟩:=l.resolve_left ω;change 0<=f9 xs n at Q;change f9 xs n<xs.length at G;obtain⟨b,r⟩:=I3 (show 0<=f9 xs n by omega);rw[r]at G |-;simp only[C3];have a:=ar (xs:=xs) (i:=b) ω;have N:=B _ (au (xs:=xs) (i:=b) ω);have c:((xs.map (aE.enc .own)).set b [I ((nth xs b).At+n),I (nth xs b).a4])[b]? = some [I ((nth xs b).At+n),I (nth xs b).a4]:=jy ω;have j:((xs.set b ⟨(nth xs b).At+n,(nth xs b).a4 - n⟩).map (aE.enc .own))[b]? = some [I ((nth xs b).At+n),I ((nth xs b).a4 - n)]:=by rw[BE];exact jy ω
 have o:∀t:List C,t.set 0 (.s .own (((xs.map (aE.enc .own)).set b [I ((nth xs b).At+n),I (nth xs b).a4]).set b [I ((nth xs b).At+n),I ((nth xs b).a4 - n)]))=t.set 0 (.s .own ((xs.set b ⟨(nth xs b).At+n,(nth xs b).a4 - n⟩).map (aE.enc .own))):=λt=>by rw[BE,List.set_set]
 have q:=DU (xs.set b ⟨(nth xs b).At+n,(nth xs b).a4 - n⟩) b (by rw[Z1];omega);rw[P7]at q;by_cases H:(nth xs b).a4=n
 ·rw[CC H]
  generalize dele xs b=J at q |-;cases J with
  | nil=>
   repeat'(first|refine gB ?_|with_reducible refine Bf.D (λh=>?_) (λh=>?_)|refine CA c ?_|refine CA j ?_|refine CE rfl c rfl ?_|refine CE rfl j rfl ?_|refine CM rfl rfl (aa a) rfl (O1 rfl) rfl ?_|refine CM rfl rfl c rfl (O1 rfl) (o _).symm ?_)
   rfl
  | cons y J=>
   repeat'(first|refine gB ?_|with_reducible refine Bf.D (λh=>?_) (λh=>?_)|refine CA c ?_|refine CA j ?_|refine CE rfl c rfl ?_|refine CE rfl j rfl ?_|refine CM rfl rfl (aa a) rfl (O1 rfl) rfl ?_|refine CM rfl rfl c rfl (O1 rfl) (o _).symm ?_)
   rfl
 rw[CB H]
 repeat'(first|refine gB ?_|with_reducible refine Bf.D (λh=>?_) (λh=>?_)|refine CA c ?_|refine CA j ?_|refine CE rfl c rfl ?_|refine CE rfl j rfl ?_|refine CM rfl rfl (aa a) rfl (O1 rfl) rfl ?_|refine CM rfl rfl c rfl (O1 rfl) (o _).symm ?_)
 rw[CC rfl,pf (by rw[Ne,List.map_eq_nil_iff,<-List.length_eq_zero_iff,Z1];omega)]
 rfl
end Go.Proofs.YtiopgblagimpmaaGreat.Ab
