/- A run, and the world that is drawn out of bytes: the reference's. No condition. -/
import Derived.Test.YtecefhjnejfheaaGreatKtd
import Derived.Test.YtecefhjnejfheaaGreatKth
import Derived.Test.YtecefhjnejfheaaGreatKte
import Derived.Test.YtecefhjnejfheaaGreatKtg
import Derived.Laws.StructEq
import Derived.ProofKit
import Derived.OpenShut
import Derived.Deep.Slices
import Derived.Deep.Fields
import Derived.ChangeSame
import Derived.WideShapes
set_option linter.unusedVariables false
set_option linter.unusedSimpArgs false
set_option linter.constructorNameAsVariable false
namespace Go.Proofs.YtecefhjnejfheaaGreat.Ab
open Go.RowKit
set_option maxRecDepth 20000
set_option maxHeartbeats 4000000
theorem Bv(w:bk)(h1:ab.sml w.Z)(a:ay.sml w.b5):ar Tryz.prog 344 false [.val (some 26) (bk.enc .X w)] .agg (bk.enc .own w):=by
 have b:=sG w.Z h1;have c:=eJ w.b5 a;refine fO 10 [(1,5,[3,4,5,6,7])] Tryz.func344 rfl ?_ (.inr (bk.enc_fr _))
 repeat'(first|refine gO ?_|(conv=>whnf);first|refine C7 (b) ?_|refine C7 (c) ?_)
 rfl
theorem Dv(c:cF)(acts:List eI)(h:EK c)(d:ib c.a0)(n:∀a∈acts,LM a)(D:acts.length<=80):ar Tryz.prog 192 false [.val (some 5) (cF.enc .X c),.val none (pz .X acts)] (.tup [some 26,none]) (bk.enc .own (yH c acts acts.length).1++aD .own (yH c acts acts.length).2):=by
 have o:=yZ c h;refine fP 42 [(343,[2,0]),(2000005,[6,21,25])] [] Tryz.func192 rfl ?_ (.inr (aI (bk.enc_fr _) (bH _)))
 repeat'(first|refine gD ?_|(conv=>whnf);first|refine C7 (o) ?_|refine Fu.mk rfl rfl rfl ?_)
 (conv=>whnf)
 refine CE (ι:=Nat) (λi=>[(1,.H .one (pz .X acts)),(4,.H .box [.z,.z,.z,I 0,.z,.z,.z,.z,.z,.z,.z,.z,I 0,.z,I 0,I 0,I 0,I 0,B false,I 0,I 0,.z,I 0,I 0,I 0,.z]),(6,.H .box (qP (yH c acts i).1)),(8,.H .one (aD .own (yH c acts i).2)),(9,.H .one [I ((i:Nat):Int)])]) (λi=>i<=acts.length) (λi=>acts.length - i) (0) ?_ (U0 _) λi p=>?_
 ·repeat'(first|exact trivial|rfl |refine CK ?_ ?_)
 have e:=uv h acts i;have b:=GL h acts i;have g:(yH c acts i).2.length=i:=by
  clear e b p
  induction i with
  | zero=>rfl
  | succ k t=>show((yH c acts k).2++[_]).length=_;rw[I3,t];rfl
 by_cases j:i<acts.length
 ·have l:=ao j
  have u:=He (yH c acts i).1 (nth acts i) i e ω (by unfold rfs at b;rw[b];exact d) (n _ (am j))
  repeat'(first|refine gD ?_|(conv=>whnf);first|with_reducible refine CC (aa l) ?_|refine CJ (u) (.inl rfl) ?_|refine CT cn (λr d=>by rw[I1.1 d];rfl) (by simp[aY,eg]) (by simp;omega) (by simp only[Z0];exact yI (by simp;omega) (by decide)) rfl ?_)
  ((conv=>whnf);refine CD (i+1) ω ω ?_)
  repeat'(first|exact trivial|rfl |exact CK rfl (CK (W0 (C.s dQ.own) (by simp[yH,rI])) trivial)|refine CK ?_ ?_)
 obtain rfl:i=acts.length:=ω
 have w:=e.fit (by unfold rfs at b;rw[b];exact d);have y:=Bv (yH c acts acts.length).1 w.1 (e.ref.sml ω)
 repeat'(first|refine gD ?_|(conv=>whnf);refine CG (y) ⟨⟨rfl,Qd _⟩,trivial⟩ ?_)
 rfl
theorem Ed(zs:List Int)(c:iL):ib (qI zs c).a0:=by
 show ib (oJ zs 4 0 [] (DI zs c).2).1;have key:∀(f i:Nat)(out:List Int)(c:iL),(∀x∈out,mS x)->∀x∈(oJ zs f i out c).1,mS x:=by
  intro f
  induction f with
  | zero=>intro i out c h;exact h
  | succ f b=>
   intro i out c h;unfold oJ;split
   ·refine b _ _ _ λx a=>?_
    rcases Z2.1 a with a|a
    ·exact h x a
    rw[I1.1 a];have:=bF zs (bt zs c 4).2 (n:=12) (by decide);exact⟨ω,ω⟩
   exact h
 exact⟨by
   have d:∀(f i:Nat)(out:List Int)(c:iL),out.length+f<=4->(oJ zs f i out c).1.length<=4:=by
     intro f
     induction f with
     | zero=>intro i out c h;exact h
     | succ f b=>
       intro i out c h;unfold oJ;split
       · exact b _ _ _ (by simp only[I3,List.length_singleton];omega)
       show out.length<=4;omega
   have:=d 4 0 [] (DI zs c).2 (z3 _);omega,key 4 0 [] _ (λx a=>by cases a)⟩
theorem zF(zs:List Int)(a:jB zs):aW Tryz.prog 56 false [.ptr (iB zs (rY zs))] [.ptr (iB zs (ll zs (ed zs)).2)] .agg (bk.enc .own (drawn zs)):=by
 have b:(rY zs).i<=zs.length:=U0 _;obtain⟨g,d⟩:=oG b;have o:=bF zs (ed zs) (n:=41) (by decide);obtain⟨p,h,-⟩:=oP (zs:=zs) (c:=ed zs) d (n:=(bt zs (ed zs) 41).1.toNat) ω;have e:=xo zs (rY zs) a b;have j:=DJ zs (ed zs) a d;have k:=Dv (qI zs (rY zs)) (ll zs (ed zs)).1 g (Ed zs _) h (by show(lA zs (ed zs) _).1.length<=80;omega);have l:drawn zs=(yH (qI zs (rY zs)) (ll zs (ed zs)).1 (ll zs (ed zs)).1.length).1:=rfl;rw[l];change aW _ _ _ _ [.ptr (iB zs (ed zs))] _ _ at e;generalize qI zs (rY zs)=cf at *;generalize r:ll zs (ed zs)=A at *;generalize t:yH cf A.1 A.1.length=R at *;refine fM 14 [(193,[2]),(194,[2,0])] [] [(0,0)] Tryz.func56 rfl (λu q=>?_) (.inr (bk.enc_fr _))
 repeat'(first|(conv=>whnf);first|refine CJ (e) (.inl rfl) ?_|refine CJ (j) (.inl rfl) ?_|refine CG (k) ⟨⟨rfl,cF.enc_fz _⟩,⟨rfl,JL _⟩,trivial⟩ ?_)
 refine CF rfl rfl ?_;exact wC
def Q1(z:List Int):List C:=[.s .X (z.map rU)]
theorem vr(zs:List Int)(b:jB zs):qN Tryz.prog 57 true [.val none (Q1 zs)] .box (iB zs (rY zs)):=by
 have r:=b.1;have e:IntKind.i64.wrap (98801+(zs.length:Nat))=w64 (98801+(zs.length:Nat)):=rfl;have g:qf zs 0=98801+(zs.length:Nat):=by show w64 _=_;rw[<-e];exact eN ω ω
 have a:=W0 I g;refine R6 (n:=32) (t:=2) (mo:=[]) (tb:=[]) Tryz.func57 (by kernel_rfl) rfl (by kernel_rfl) (by rfl) rfl ?_
 repeat'(first|refine gO ?_|fail)
 (conv=>whnf)
 refine CE (ι:=Nat) (λi=>[(0,.H .one (Q1 zs)),(3,.H .one [I (qf zs i)]),(4,.H .one [I ((i:Nat):Int)])]) (λi=>i<=min zs.length 4000) (λi=>min zs.length 4000 - i) (0) ?_ (U0 _) λi u=>?_
 ·repeat'(first|exact trivial|rfl |exact nR a|refine CK ?_ ?_)
 have h:IntKind.i64.wrap (qf zs i*131)=w64 (qf zs i*131):=rfl;have j:IntKind.i64.wrap (w64 (qf zs i*131)+nth zs i)=w64 (w64 (qf zs i*131)+nth zs i):=rfl;have k:IntKind.i64.wrap (w64 (w64 (qf zs i*131)+nth zs i)+7)=w64 (w64 (w64 (qf zs i*131)+nth zs i)+7):=rfl;have l:IntKind.i64.wrap (BitVec.ofInt IntKind.i64.bits (w64 (w64 (w64 (qf zs i*131)+nth zs i)+7)) &&& BitVec.ofInt IntKind.i64.bits 1073741823).toNat=qf zs (i+1):=rfl;by_cases c:i<zs.length/\i<4000
 ·have d:=ao c.1
  have w:=b.2 _ (am c.1);generalize qf zs i=H at *;generalize o:qf zs (i+1)=H2 at *
  repeat'(first|refine gD ?_|(conv=>whnf);first|with_reducible (first|refine CC (aa d) ?_|refine CM h ?_|refine CM j ?_|refine CM k ?_|refine CM l ?_))
  ((conv=>whnf);refine CD (i+1) ω ω ?_)
  rw[o];exact wC
 obtain rfl:i=min zs.length 4000:=ω
 have p:rY zs = ⟨0,qf zs (min zs.length 4000)⟩:=rfl;rw[p];generalize qf zs (min zs.length 4000)=H at *
 repeat'(first|refine gD ?_|(conv=>whnf);with_reducible refine Bf.D (λq=>?_) (λq=>?_))
 all_goals rfl
theorem wv(zs:List Int)(a:jB zs):ar Tryz.prog 16 false [.val none (Q1 zs)] .agg (bk.enc .own (drawn zs)):=by
 have b:=vr zs a;have c:=zF zs a;refine fP 6 [(56,[2])] [] Tryz.func16 rfl ?_ (.inr (bk.enc_fr _))
 repeat'(first|refine gO ?_|(conv=>whnf);first|refine Cl.g b (.inr rfl) ?_|refine CJ (c) (.inl rfl) ?_)
 rfl
def cls(h:ab):Int:=h.G.Calls
theorem Dk(k:af)(p:Int):(newK k p).1.Calls=k.Calls+1:=by unfold newK;split<;>rfl
theorem E5(k:af)(p:Int):∀n:Nat,(newsK k p n).1.Calls<=k.Calls+n
 | 0=>by show k.Calls<=k.Calls+0;omega
 | n+1=>by
  have a:=E5 k p n;unfold newsK;split
  ·refine X4 (Z4 (Dk (newsK k p n).1 (p+(n:Nat)))) ?_
   omega
  omega
theorem Nh(h:ab)(i:Nat):cls (nU h i).1=cls h:=by unfold nU;split<;>rfl
theorem KO(h:ab)(t c:Nat):cls (smallA h t c).1<=cls h+1:=by
 unfold smallA;split
 ·show cls h<=_;omega
 split
 ·show cls h<=_;omega
 split
 ·show cls h<=_;omega
 split
 ·exact Z4 (Dk _ _)
 exact Z4 ((Nh _ _).trans (Dk _ _))
theorem Ny(h:ab)(t i:Nat):cls (freeT h t i).1=cls h:=by
 unfold freeT;split
 ·exact(kQ _ _ _).1
 split
 ·rfl
 split
 ·exact(fo t _ _).2.2.1
 split<;>rfl
theorem zX(t:Nat)(h:ab):∀k,cls (flushN t h k).1=cls h
 | 0=>rfl
 | k+1=>((fV _ (spilt (flushN t h k).1 t k)).2.2.1).trans (zX t h k)
set_option maxHeartbeats 2000000
set_option maxHeartbeats 2000000
set_option maxHeartbeats 2000000
set_option maxHeartbeats 2000000
set_option maxHeartbeats 2000000
set_option maxHeartbeats 2000000
theorem FD(zs:List Int):ib (drawn zs).Z.G.a0:=by
 have a:(rY zs).i<=zs.length:=U0 _;have:=GL (oG a).1 (ll zs (ed zs)).1 (ll zs (ed zs)).1.length;unfold rfs at this;show ib (yH _ _ _).1.Z.G.a0;rw[this];exact Ed zs _
theorem Kk(zs:List Int):ab.sml (drawn zs).Z/\ab.wf (drawn zs).Z:=(xP zs).fit (FD zs)
theorem Q2(zs:List Int)(a:zs.length<=9223372036854775807):ar Tryz.prog 15 false [.val none (Q1 zs)] .one [B (decide ((zs.length:Int) > 1048576))]:=by
 refine fO 6 [] Tryz.func15 rfl ?_
 repeat'(first|refine gO ?_|fail)
 rfl
theorem Mo:∀(n:Nat)(c:C),Qt c->hC (List.replicate n .x++[c])
 | 0,_,h=>⟨h,trivial⟩
 | n+1,c,h=>⟨trivial,Mo n c h⟩
theorem wY(h:ab)(a:aX h [])(c:ab.sml h)(i:ab.wf h):ar Tryz.prog 43 false [.val (some 24) (ab.enc .X h)] (.tup [some 24,none]) (List.replicate 24 .x++[B (meshSt h).2]):=by
 have b:=oI h c i;rw[show dy h=true from a.to]at b;have d:=sG h c;unfold meshSt;cases e:h.o with
 | true=>
  rw[C8 (by simp)];refine fP 19 [(2000004,[4,21]),(130,[2])] [] Tryz.func43 rfl ?_ (.inr (Mo 24 _ trivial))
  repeat'((conv=>whnf);first|with_reducible (first|refine Bn ?_|refine iX.wk rfl ?_)|refine Bt ?_|refine Bu ?_|refine C7 (b) ?_|refine C7 (d) ?_|refine Bf.t e ?_)
  exact wC
 | false=>
  rw[C9 ⟨rfl,a.to⟩];have g:=qp h a;generalize started h=r at g |-;refine fP 19 [(2000004,[4,21]),(130,[2])] [] Tryz.func43 rfl ?_ (.inr (Mo 24 _ trivial))
  repeat'((conv=>whnf);first|with_reducible (first|refine Bn ?_|refine iX.wk rfl ?_)|refine Bt ?_|refine Bu ?_|refine C7 (b) ?_|refine C7 (d) ?_|refine CJ (g) (.inl rfl) ?_|refine Bf.f e ?_|refine Fu.mk rfl (List.cons.inj (dX _)).1 rfl ?_)
  exact wC
def cl(k:af)(f c:Nat):Int:=nth (nth k.F.W.S f) c
structure At(k:af)(a:Int)(f c:Nat):Prop where
 m:(ac k.F.Q (a / 16)).j≠0
 f:(ac k.F.Q (a / 16)).e=f
 c:a % 16=c
theorem At.cell{k:af}{a:Int}{f c:Nat}(h:At k a f c):eP k a=cl k f c:=by
 unfold eP cl;rw[h.f,h.c,W2,W2]
theorem At.mk'{k:af}(c:a7 k=true){a:Int}(b:(ac k.F.Q (a / 16)).j≠0):At k a (cR k a) (a % 16).toNat:=by
 obtain⟨-,-,-,d,-⟩:=bI c b;exact⟨b,by unfold cR;omega,ω⟩
theorem At.uniq{k:af}{a:Int}{f c b d:Nat}(h:At k a f c)(h':At k a b d):f=b/\c=d:=by
 have e:=h.f;have g:=h'.f;have i:=h.c;have j:=h'.c;omega
def Mg(h:ab)(a:Int)(f c:Nat):Prop:=
 (∃s∈h.K,eL s a/\(ac (tbl h) s.R).e=f/\(c:Int) / csz s.d=dz s a/\c<16)\/
 ∃l∈h.M,a=16*l.R/\∃b:Int,16*l.R<=b/\b<16*(l.R+l.a3)/\At h.G b f c
theorem aX.pe{h:ab}{E:List Int}(a:aX h E){s:ax}(b:s∈h.K):ac (tbl h) s.R=nth (tbl h).J s.R.toNat:=by
 obtain⟨c,d,-⟩:=a.mapped b;unfold ac;rw[C9 ⟨c,d⟩]
theorem te{l:a8}(a:bJ l=true){b:Int}(h1:16*l.R<=b)(c:b<16*(l.R+l.a3)):∃k:Nat,k<l.a3.toNat/\b / 16=l.R+(k:Nat):=by
 have:=aP a;exact⟨(b / 16 - l.R).toNat,ω,ω⟩
theorem lQ{h:ab}{E:List Int}(e:aX h E){l:a8}(i:l∈h.M){b:Int}(h1:16*l.R<=b)(o:b<16*(l.R+l.a3)){f c:Nat}(j:At h.G b f c){q:Int}(n:(ac (tbl h) q).j≠0)(g:(ac (tbl h) q).e=f):q=b / 16:=by
 obtain⟨k,p,u⟩:=te (e.L.lok l i) h1 o;obtain⟨w,y,r,-⟩:=bI e.ker j.m;obtain⟨A,B,t,-⟩:=bI e.ker n;have d:=j.f;rw[r]at d;have a:=n;change (ac h.G.F.Q q).j≠0 at a;change (ac h.G.F.Q q).e=f at g;rw[t]at a g;have:=e.pg.one l i (b / 16).toNat (dx.2 ⟨k,p,ω⟩) q.toNat (by show q.toNat<h.G.F.Q.J.length;omega) a (by show _=(nth h.G.F.Q.J _).e;rw[d];exact g);omega
theorem wj{h:ab}{E:List Int}(d:aX h E){a b:Int}{f c:Nat}(T:Mg h a f c)(U:Mg h b f c):a=b:=by
 have G:∀s∈h.K,(ac (tbl h) s.R).e=f->∀l∈h.M,∀x:Int,16*l.R<=x->x<16*(l.R+l.a3)->At h.G x f c->False:=λs g V l o x H J W=>by
  obtain⟨K,t,q⟩:=d.mapped g;obtain⟨k,w,X⟩:=te (d.L.lok l o) H J;have:=lQ d o H J W (by rw[d.pe g];exact q) V;exact d.L.dis s g l o k w ω
 rcases T with⟨s,g,M,N,O,s4⟩|⟨l,o,Y,x,A,B,P⟩<;>rcases U with⟨u,r,Q,R,S,u4⟩|⟨m,p,K,y,t,q,C⟩
 ·by_cases e:s.R=u.R
  ·obtain⟨i,D,rfl⟩:=aL g
   obtain⟨j,F,rfl⟩:=aL r;have:=cJ (f:=(·.R)) d.L.nd D F e;subst this;exact wT (d.L.sok _ g) M.2.2.1 Q.2.2.1 (O.symm.trans S)
  exfalso;have p:=d.pg.mesh s g u r e (by rw[<-d.pe g,<-d.pe r,N,R]);unfold meshable at p;simp only[I0,C0]at p;obtain⟨⟨o1,o2⟩,Z,-,e3⟩:=p;have b1:=(ee _ _).1 M.2.2.2;have b2:=(ee _ _).1 Q.2.2.2;have hn:(a - 16*s.R) / csz s.d=(b - 16*u.R) / csz u.d:=by
   have z1:dz s a=dz u b:=by rw[<-O,<-S,Z]
   exact z1
  have:=W0 (λn=>Nat.testBit n ((a - 16*s.R) / csz s.d).toNat) e3;simp only[Nat.testBit_and,Nat.zero_testBit]at this;rw[b1.2.2.2,hn,b2.2.2.2]at this;cases this
 ·exact(G s g N m p y t q C).elim
 ·exact(G u r R l o x A B P).elim
 have hq:=lQ d o A B P C.m C.f;obtain⟨i,D,rfl⟩:=aL o;obtain⟨j,F,rfl⟩:=aL p;obtain⟨k,w,X⟩:=te (d.L.lok _ o) A B;obtain⟨k',k3,k4⟩:=te (d.L.lok _ p) t q;have:=d.L.one i j D F k k' w k3 ω;subst this;rw[Y,K]
def qL(h:ab)(o:bu)(f c:Nat):Prop:=∃j:Int,0<=j/\j<o.q/\At h.G (o.Addr+j) f c
theorem jF{h:ab}{E:List Int}(i:aX h E){o:bu}(B:o∈h.O){f c:Nat}(C:qL h o f c):Mg h o.Addr f c:=by
 obtain⟨k,J,K,a⟩:=C;rcases i.oow o B with⟨s,r,t,D⟩|⟨l,u,F,M⟩
 ·have b:=i.L.sok s r
  have j:=aF b;have d:=bO j.2.2;have p:=t;obtain⟨N,O,w,-⟩:=t;have g:o.q<=csz s.d:=by
   have P:=iA (n:=o.q) ω;rw[D];have:o.q=1\/o.q=2\/o.q=3\/o.q=4\/o.q=5\/o.q=6\/o.q=7\/o.q=8:=ω
   rcases this with e|e|e|e|e|e|e|e<;>rw[e]<;>decide
  have G:(o.Addr+k) / 16=s.R:=by rcases d with e|e|e|e<;>rw[e]at w g<;>omega
  have y:=a.f;have H:=a.c;rw[G]at y;refine .inl ⟨s,r,p,y,?_,ω⟩;unfold dz;rcases d with e|e|e|e<;>rw[e]at w g |-<;>omega
 have q:=i.L.lok l u;have A:=q;unfold bJ at A;rw[C0]at A;exact .inr ⟨l,u,F,o.Addr+k,ω,ω,a⟩
theorem H5{h:ab}{E:List Int}(a:aX h E){o u:bu}(b:o∈h.O)(d:u∈h.O){f c:Nat}(h1:qL h o f c)(g:qL h u f c):o=u:=by
 have e:=wj a (jF a b h1) (jF a d g);obtain⟨i,k,rfl⟩:=aL b;obtain⟨j,l,rfl⟩:=aL d;rw[cJ (f:=(·.Addr)) (df a.osr) k l e]
def JX(h:ab)(f c:Nat):Prop:=h.o=true/\(ac (tbl h) h.Y.V.a2).e=f/\(c:Int)∈h.Y.V.S.take h.Y.a.toNat
structure CI(h:ab):Prop where
 z:∀f c:Nat,c<16->cl h.G f c≠0->(∃o∈h.O,qL h o f c)\/JX h f c
 jv:h.o=true->∀c:Nat,(c:Int)∈h.Y.V.S.take h.Y.a.toNat->cl h.G (b9 h.G h.Y.V.a2) c=cl h.G (b9 h.G h.Y.V.w) c
 jd:h.o=true->∀s∈h.K,s.R=h.Y.V.a2->∀c:Nat,c<16->(c:Int)∈h.Y.V.S->aS s.b2 ((c:Int) / csz s.d)=false
 jc:h.o=true->∀s∈h.K,s.R=h.Y.V.w->∀c:Nat,c<16->aS s.b2 ((c:Int) / csz s.d)=true->(c:Int)∈h.Y.V.S
 jn:h.o=true->(h.Y.b0=0->h.Y.a=0)/\(h.Y.b0=2->h.Y.a=h.Y.V.S.length)
 m1:∀q:Nat,(nth (tbl h).J q).j=1->h.o=true/\(q:Int)=h.Y.V.w/\h.Y.b0≠0
 m2:h.o=true->h.Y.b0≠0->(ac (tbl h) h.Y.V.w).j=1
theorem CI.keep{h h':ab}(j:CI h)(g:h'.Y=h.Y)(k:h'.o=h.o)(r:∀q:Nat,(nth (tbl h').J q).j=1->(nth (tbl h).J q).j=1)(l:h.o=true->ac (tbl h') h.Y.V.a2=ac (tbl h) h.Y.V.a2/\ac (tbl h') h.Y.V.w=ac (tbl h) h.Y.V.w)(t:∀f c:Nat,c<16->cl h'.G f c≠0->cl h.G f c=cl h'.G f c\/∃o∈h'.O,qL h' o f c)(n:∀o∈h.O,∀f c:Nat,c<16->qL h o f c->cl h'.G f c≠0->∃F∈h'.O,qL h' F f c)(u:h.o=true->∀c:Nat,(c:Int)∈h.Y.V.S.take h.Y.a.toNat->cl h'.G (b9 h.G h.Y.V.a2) c=cl h.G (b9 h.G h.Y.V.a2) c/\cl h'.G (b9 h.G h.Y.V.w) c=cl h.G (b9 h.G h.Y.V.w) c)(p:h.o=true->∀d∈h'.K,d.R=h.Y.V.a2\/d.R=h.Y.V.w->∃s∈h.K,s.R=d.R/\s.d=d.d/\∀i,aS d.b2 i=true->aS s.b2 i=true):CI h' where
 z f c b w:=by
  rcases t f c b w with e|e
  ·rcases j.z f c b (by rw[e];exact w) with⟨o,G,y⟩|⟨E,H,J⟩
   ·exact .inl (n o G f c b y w)
   exact .inr ⟨by rw[k];exact E,by rw[g,(l E).1];exact H,by rw[g];exact J⟩
  exact .inl e
 jv a c h2:=by
  rw[k]at a;rw[g]at h2 |-;obtain⟨K,L⟩:=u a c h2;obtain⟨M,N⟩:=l a;have O:b9 h'.G h.Y.V.a2=b9 h.G h.Y.V.a2:=W0 (λe:bi=>e.e.toNat) M;have P:b9 h'.G h.Y.V.w=b9 h.G h.Y.V.w:=W0 (λe:bi=>e.e.toNat) N;rw[O,P,K,L];exact j.jv a c h2
 jd a d hs' hp c b hcm:=by
  rw[k]at a;rw[g]at hp hcm;obtain⟨s,A,B,C,D⟩:=p a d hs' (.inl hp);have:=j.jd a s A (B.trans hp) c b hcm;rw[<-C];rw[<-C5]at this |-;exact λe=>this (D _ e)
 jc a d hs' hp c b hb:=by
  rw[k]at a;rw[g]at hp |-;obtain⟨s,A,B,C,D⟩:=p a d hs' (.inr hp);exact j.jc a s A (B.trans hp) c b (by rw[C];exact D _ hb)
 jn a:=by rw[k]at a;rw[g];exact j.jn a
 m1 q Q:=by rw[k,g];exact j.m1 q (r q Q)
 m2 a h2:=by
  rw[k]at a;rw[g]at h2 |-;rw[(l a).2];exact j.m2 a h2
def Kp(h h':ab):Prop:=∀o∈h'.O,o∈h.O/\∀j:Int,0<=j->j<o.q->eP h'.G (o.Addr+j)=eP h.G (o.Addr+j)
theorem Kp.refl(h:ab):Kp h h:=λ_ a=>⟨a,λ_ _ _=>rfl⟩
theorem CX:type_of% @Kp.refl:=@Kp.refl
theorem Kp.trans{h h1 c:ab}(a:Kp h h1)(b:Kp h1 c):Kp h c:=λo f=>by
 obtain⟨g,i⟩:=b o f;obtain⟨k,l⟩:=a o g;exact⟨k,λj d e=>(i j d e).trans (l j d e)⟩
theorem aX.jobM{h:ab}{E:List Int}(c:aX h E)(f:h.o=true):(ac (tbl h) h.Y.V.a2).j≠0/\(ac (tbl h) h.Y.V.w).j≠0:=by
 obtain⟨-,⟨a,d,g⟩,b,e,i⟩:=c.job f;rw[<-g,<-i,c.pe d,c.pe e];exact⟨(c.mapped d).2.2,(c.mapped e).2.2⟩
theorem lF{k:af}(a:a7 k=true){p:Int}(b:(ac k.F.Q p).j≠0):(ac k.F.Q p).e=(b9 k p:Nat):=by
 obtain⟨-,-,-,c,-⟩:=bI a b;unfold b9;omega
theorem CI.kern{h h':ab}{E:List Int}(A:aX h E)(M:CI h)(n:∀o∈h'.O,o∈h.O)(N:h'.Y=h.Y)(B:h'.o=h.o)(b:∀o∈h.O,o∉h'.O->∀f c:Nat,c<16->qL h o f c->cl h'.G f c=0)(F:∀q:Nat,(nth (tbl h').J q).j=1->(nth (tbl h).J q).j=1)(d:h.o=true->ac (tbl h') h.Y.V.a2=ac (tbl h) h.Y.V.a2/\ac (tbl h') h.Y.V.w=ac (tbl h) h.Y.V.w)(r:∀o∈h'.O,∀j:Int,0<=j->j<o.q->ac (tbl h') ((o.Addr+j) / 16)=ac (tbl h) ((o.Addr+j) / 16))(t:∀f c:Nat,cl h'.G f c=cl h.G f c\/(cl h'.G f c=0/\∀p:Int,(ac (tbl h') p).j≠0->(ac (tbl h') p).e≠f))(G:h.o=true->∀u∈h'.K,u.R=h.Y.V.a2\/u.R=h.Y.V.w->∃s∈h.K,s.R=u.R/\s.d=u.d/\∀i,aS u.b2 i=true->aS s.b2 i=true):CI h'/\Kp h h':=by
 have cov:∀o∈h'.O,∀f c:Nat,qL h o f c->qL h' o f c:=λo O f c ⟨j,w,C,l⟩=>by
  have e:=r o O j w C;unfold tbl at e;exact⟨j,w,C,by rw[e];exact l.m,by rw[e];exact l.f,l.c⟩
 have H:∀{p:Int},ac (tbl h') p=ac (tbl h) p->(ac (tbl h) p).j≠0->∀c,cl h'.G (b9 h.G p) c=cl h.G (b9 h.G p) c:=fun {p} e B c=>by
  rcases t (b9 h.G p) c with g|⟨-,g⟩
  ·exact g
  refine absurd ?_ (g p (by rw[e];exact B));rw[e];exact lF A.ker B
 refine⟨M.keep N B F d (λf c _ J=>.inl ?_) (λo a f c K y J=>?_) (λD c _=>⟨H (d D).1 (A.jobM D).1 c,H (d D).2 (A.jobM D).2 c⟩) G,λo a=>⟨n o a,λj w C=>?_⟩⟩
 ·rcases t f c with g|g
  ·exact g.symm
  exact absurd g.1 J
 ·by_cases e:o∈h'.O
  ·exact⟨o,e,cov o e f c y⟩
  exact absurd (b o a e f c K y) J
 have e:=r o a j w C;have L:=(cL A (n o a) (k:=j) ⟨w,ω⟩).1;have:=H e L ((o.Addr+j) % 16).toNat;unfold eP;unfold tbl at e;rw[e];exact this
theorem yD{h:ab}{E:List Int}(d:aX h E){a:Int}{f c:Nat}(y:Mg h a f c){s:ax}(n:s∈h.K)(g:ot (tbl h) s.R)(r:(ac (tbl h) s.R).e=f):eL s a/\(c:Int) / csz s.d=dz s a/\a / 16=s.R:=by
 obtain⟨K,M,A⟩:=d.mapped n;rcases y with⟨u,o,p,B,C,N⟩|⟨l,q,-,b,t,w,D⟩
 ·obtain⟨O,P,F⟩:=d.mapped o
  have:=g u.R.toNat F (by rw[<-d.pe o,<-d.pe n,B,r]);obtain⟨i,G,rfl⟩:=aL n;obtain⟨j,H,rfl⟩:=aL o;have e:=cJ (f:=(·.R)) d.L.nd G H ω;subst e;exact⟨p,C,by have:=p.1;have:=p.2.1;omega⟩
 exfalso;obtain⟨k,J,Q⟩:=te (d.L.lok l q) t w;have:=lQ d q t w D (by rw[d.pe n];exact A) r;exact d.L.dis s n l q k J ω
theorem sP{h:ab}{E:List Int}(n:aX h E)(d:JI h)(o:CI h)(e:h.o=true){a:Int}{f c:Nat}(p:Mg h a f c)(g:c<16)(i:(c:Int)∈h.Y.V.S):(ac (tbl h) h.Y.V.a2).e≠f:=λq=>by
 obtain⟨s,k,b,-,j,-,-⟩:=d.sp e;obtain⟨r,t,-⟩:=yD n p k (by rw[j];exact d.sk e) (by rw[j];exact q);have:=o.jd e s k j c g i;rw[t]at this;have l:=r.2.2.2;unfold dz at this;rw[this]at l;cases l
theorem F7{h:ab}{E:List Int}(n:aX h E)(d:JI h)(j:CI h)(g:h.o=true){a:Int}{f c:Nat}(o:Mg h a f c)(k:(ac (tbl h) (a / 16)).j≠1)(e:(c:Int)∈h.Y.V.S.take h.Y.a.toNat):(ac (tbl h) h.Y.V.w).e≠f:=λp=>by
 obtain⟨-,-,b,q,-,i,-⟩:=d.sp g;obtain⟨-,-,r⟩:=yD n o q (by rw[i];exact d.sm g) (by rw[i];exact p);by_cases l:h.Y.b0=0
 ·rw[(j.jn g).1 l]at e;cases e
 have:=j.m2 g l;rw[r,i]at k;exact k this
theorem AD(n c:Nat):nth (List.replicate n (0:Int)) c=0:=by
 unfold nth;rw[U2,List.getElem?_replicate];split<;>rfl
structure KL(k k':af)(lo n:Int):Prop where
 out:∀q:Int,¬(lo<=q/\q<lo+n)->ac k'.F.Q q=ac k.F.Q q
 ins:∀q:Int,lo<=q->q<lo+n->(ac k'.F.Q q).j=0
 cel:∀f c:Nat,cl k' f c=cl k f c\/(cl k' f c=0/\∀p:Int,(ac k'.F.Q p).j≠0->(ac k'.F.Q p).e≠f)
theorem HL(k:af)(F:Int)(f c:Nat):cl (fU k F) f c=cl k f c\/(cl (fU k F) f c=0/\F.toNat=f/\(pagesOn k.F.Q F).length=0):=by
 unfold fU;split
 ·rename_i e
  unfold cl;simp only[bz];split
  ·rename_i a;exact .inr ⟨AD _ _,a.1,e⟩
  exact .inl rfl
 exact .inl rfl
theorem kZ{t:aH}{p:Int}(h:(ac t p).j≠0):0<=p/\p<t.J.length/\ac t p=nth t.J p.toNat:=by
 unfold ac at h |-;split
 ·rename_i e;exact⟨e.1,e.2,rfl⟩
 rename_i e;rw[C8 e]at h;exact absurd rfl h
theorem M4{t:aH}{F:Int}(h:(pagesOn t F).length=0){p:Int}(a:(ac t p).j≠0):(ac t p).e≠F:=λe=>by
 obtain⟨c,d,b⟩:=kZ a;rw[b]at a e;have:0<(pagesOn t F).length:=dG.2 ⟨p.toNat,ω,a,e⟩;omega
theorem KL.refl(k:af)(lo:Int):KL k k lo 0:=⟨λ_ _=>rfl,λq a b=>ω,λ_ _=>.inl rfl⟩
theorem KL.unmap{k:af}(h:a7 k=true){p:Int}(j:0<=p/\p<k.F.Q.J.length):KL k (dU k p) p 1:=by
 have b:=r7 h j;have d:=(l7 k p).1;have i:∀q:Int,ac (dU k p).F.Q q=if q=p then⟨0,0⟩ else ac k.F.Q q:=λq=>by
  unfold ac;rw[d];by_cases e:0<=q/\q<k.F.Q.J.length
  ·rw[C9 e,C9 e,b q.toNat]
   by_cases a:q=p
   ·rw[C9 a,C9 ω]
   rw[C8 a,C8 ω]
  rw[C8 e,C8 e];by_cases a:q=p
  ·rw[C9 a]
  rw[C8 a]
 refine⟨λq g=>by rw[i,C8 ω],λq t u=>by rw[i,C9 ω],λf c=>?_⟩;unfold dU;split
 ·exact .inl rfl
 rename_i l;rcases HL (qg k p) (ac k.F.Q p).e f c with e|⟨n,a,o⟩
 ·exact .inl e
 refine .inr ⟨n,λq g=>?_⟩;rw[(mJ _ _).1]at g |-;have:=M4 o g;have r:=lF h l;unfold b9 at r;rw[<-a];omega
theorem KL.trans{k i j:af}{lo n m:Int}(t:0<=n/\0<=m)(a:KL k i lo n)(b:KL i j (lo+n) m):KL k j lo (n+m):=by
 refine⟨λq u=>(b.out q ω).trans (a.out q ω),λq l w=>?_,λf c=>?_⟩
 ·by_cases e:lo+n<=q
  ·exact b.ins q e ω
  rw[b.out q ω];exact a.ins q l ω
 rcases b.cel f c with e|e
 ·rcases a.cel f c with g|⟨o,r⟩
  ·exact .inl (e.trans g)
  refine .inr ⟨e.trans o,λp d=>?_⟩;by_cases h:lo+n<=p/\p<lo+n+m
  ·exact absurd (b.ins p h.1 h.2) d
  rw[b.out p h]at d |-;exact r p d
 exact .inr e
theorem KL.unmN{k:af}(a:a7 k=true){p:Int}(b:0<=p):∀n:Nat,p+n<=k.F.Q.J.length->KL k (unmN k p n) p n
 | 0,_=>KL.refl k p
 | n+1,h=>by
  have c:=KL.unmN a b n ω;have d:=KL.unmap (iY a p n) (p:=p+n) ⟨ω,by rw[(fS k p n).1];omega⟩;have:=KL.trans ⟨ω,ω⟩ c d;rw[show((n:Nat):Int)+1=((n+1:Nat):Int) by omega]at this;exact this
theorem KL.md{k b:af}{lo n:Int}(a:KL k b lo n)(f:b.F.Q.J.length=k.F.Q.J.length)(q:Nat)(h:(nth b.F.Q.J q).j≠0):nth b.F.Q.J q=nth k.F.Q.J q:=by
 have g:=rZ h;have c:ac b.F.Q (q:Nat)=nth b.F.Q.J q:=by unfold ac;rw[C9 ⟨ω,ω⟩];rfl
 have d:ac k.F.Q (q:Nat)=nth k.F.Q.J q:=by unfold ac;rw[C9 ⟨ω,ω⟩];rfl
 by_cases e:lo<=q/\(q:Int)<lo+n
 ·rw[<-c,a.ins q e.1 e.2]at h;exact absurd rfl h
 rw[<-c,<-d,a.out q e]
theorem Bx{n:Int}(h:0<=aJ n):n<=csz (aJ n):=by
 have a:=iA h;have:n=1\/n=2\/n=3\/n=4\/n=5\/n=6\/n=7\/n=8:=ω
 rcases this with e|e|e|e|e|e|e|e<;>rw[e]<;>decide
theorem MF{h:ab}{E:List Int}(k:aX h E){o:bu}(p:o∈h.O)(g:¬aJ o.q<0){f c:Nat}(i:qL h o f c):f=cR h.G o.Addr/\(o.Addr % 16).toNat<=c/\c<(o.Addr % 16).toNat+(csz (aJ o.q)).toNat:=by
 obtain⟨⟨s,q,r,t⟩,-⟩:=(dR k p).2 g;obtain⟨A,B,l,-⟩:=r;have a:=Bx (n:=o.q) ω;have b:=bO (aF (k.L.sok s q)).2.2;rw[<-t]at a |-;obtain⟨j,C,D,d⟩:=i;have u:=d.c;have w:=d.f;have y:(o.Addr+j) / 16=o.Addr / 16:=by rcases b with e|e|e|e<;>rw[e]at l a<;>omega
 rw[y]at w;refine⟨by unfold cR;omega,?_⟩;rcases b with e|e|e|e<;>rw[e]at l a |-<;>omega
theorem CI.clrS{h:ab}{E:List Int}(n:aX h E)(p:CI h){i:Nat}{a:Int}(g:i<h.K.length)(l:eL (nth h.K i) a):CI (clrS h i a):=by
 have b:=n.L.sok _ (am g);refine p.keep rfl rfl (λq h=>h) (λ_=>⟨rfl,rfl⟩) (λf c _ _=>.inl rfl) (λo r f c _ d _=>⟨o,r,d⟩) (λ_ c _=>⟨rfl,rfl⟩) λ_ w e _=>?_
 rcases dY e with rfl|⟨j,t,-,rfl⟩
 ·refine⟨_,am g,rfl,rfl,λk u=>((FT (eQ b) (pX b ⟨l.1,l.2.1⟩) k).1 u).1⟩
 exact⟨_,am t,rfl,rfl,λ_ h=>h⟩
theorem LH{h:ab}{E:List Int}(a:aX h E){o:bu}(p:o∈h.O){j:Int}(h1:0<=j)(J:j<o.q){s:ax}(r:s∈h.K)(T:(o.Addr+j) / 16=s.R):eL s o.Addr:=by
 obtain⟨U,V,W⟩:=a.mapped r;have t:=(cL a p (k:=j) ⟨h1,ω⟩).1;have w:=At.mk' a.ker t;rcases jF a p ⟨j,h1,J,w⟩ with⟨u,K,G,-,-,-⟩|⟨l,b,X,-⟩
 ·rcases a.oow o p with⟨v,q,c,M⟩|⟨l,b,N,O⟩
  ·have y:=a.L.sok v q
   have A:=aF y;have B:=bO A.2.2;have C:=c;obtain⟨Y,Z,P,-⟩:=c;have D:o.q<=csz v.d:=by
    have hb:=iA (n:=o.q) ω;rw[M];have:o.q=1\/o.q=2\/o.q=3\/o.q=4\/o.q=5\/o.q=6\/o.q=7\/o.q=8:=ω
    rcases this with e|e|e|e|e|e|e|e<;>rw[e]<;>decide
   have Q:(o.Addr+j) / 16=v.R:=by rcases B with e|e|e|e<;>rw[e]at P D<;>omega
   obtain⟨i,R,rfl⟩:=aL r;obtain⟨k,S,rfl⟩:=aL q;have:=cJ (f:=(·.R)) a.L.nd R S (by show(nth h.K i).R=(nth h.K k).R;omega);subst this;exact C
  exfalso;have:=aP (a.L.lok l b);exact a.L.dis u K l b 0 ω (by have:=G.1;have:=G.2.1;omega)
 exfalso;have H:=a.L.lok l b;unfold bJ at H;rw[C0]at H;rcases a.oow o p with⟨v,q,c,-⟩|⟨F,d,N,O⟩
 ·exact a.L.dis v q l b 0 ω (by have:=c.1;have:=c.2.1;omega)
 have g:=a.L.lok F d;unfold bJ at g;rw[C0]at g;exact a.L.dis s r F d ((o.Addr+j) / 16 - F.R).toNat ω ω
theorem CI.giveP{h:ab}{E:List Int}(b:aX h E)(f:CI h){i:Nat}(e:i<h.K.length)(g:(nth h.K i).b2=0)(c:gm h (nth h.K i).R=false):CI (giveP h i)/\Kp h (giveP h i):=by
 obtain⟨k,l,A⟩:=b.mapped (am e);have kl:=KL.unmap b.ker (p:=(nth h.K i).R) ⟨k,l⟩;refine CI.kern b f (λo a=>a) rfl rfl (λo a n=>absurd a n) (λq r=>?_) (λt=>?_) (λo a j u w=>?_) kl.cel (λ_ B d _=>?_)
 ·have:=kl.md (l7 _ _).1 q (by show(nth (tbl (Ab.giveP h i)).J q).j≠0;omega)
  show(nth h.G.F.Q.J q).j=1;rw[<-this];exact r
 ·obtain⟨C,D⟩:=y1 c t
  exact⟨kl.out _ ω,kl.out _ ω⟩
 ·refine kl.out _ λF=>?_
  exact wl g _ (LH b a u w (am e) ω)
 obtain⟨j,y,-,rfl⟩:=cU.1 d;exact⟨_,am y,rfl,rfl,λ_ h=>h⟩
theorem CI.freeS{h:ab}{E:List Int}{a:Int}{i:Nat}(c:aX h (a::E))(j:CI h)(b:i<h.K.length)(d:eL (nth h.K i) a):CI (freeS h i a)/\Kp h (freeS h i a):=by
 have k:=c.give b d;have f:=CI.clrS c j b d;unfold Ab.freeS;split
 ·rename_i e
  have g:nth (Ab.clrS h i a).K i=mQ (nth h.K i) (dz (nth h.K i) a):=by unfold Ab.clrS;simp only[bz,true_and];rw[C9 b]
  obtain⟨l,n⟩:=CI.giveP (h:=Ab.clrS h i a) k f (i:=i) (by unfold Ab.clrS;simp only[O1];exact b) (by rw[g];exact e.1) (by rw[g];exact e.2);exact⟨l,n⟩
 exact⟨f,CX h⟩
theorem CI.freeA{h:ab}{E:List Int}{a:Int}(b:aX h (a::E))(c:CI h):CI (freeA h a)/\Kp h (freeA h a):=by
 obtain⟨d,e,-⟩:=b.at (b.hin a (V1 ..));exact CI.freeS b c d e
theorem CI.recyc{h:ab}{E:List Int}{a:Int}{t:Nat}(c:aX h (a::E))(b:CI h):CI (recyc t h a)/\Kp h (recyc t h a):=by
 unfold Ab.recyc;split
 ·exact⟨⟨b.z,b.jv,b.jd,b.jc,b.jn,b.m1,b.m2⟩,CX h⟩
 exact CI.freeA c b
theorem CI.recycs{t:Nat}{E:List Int} : ∀{az:List Int}{h:ab},aX h (az++E)->t<h.T.length->CI h->CI (recycs t h az)/\Kp h (recycs t h az)
 | [],h,_,_,b=>⟨b,CX h⟩
 | a::az,h,c,d,b=>by
  obtain⟨e,f⟩:=CI.recyc (t:=t) c b;obtain⟨g,i⟩:=CI.recycs (az:=az) (h:=Ab.recyc t h a) (c.recyc d) (by rw[(nE t h a).1];exact d) e;exact⟨g,f.trans i⟩
theorem CI.freeAs{E:List Int} : ∀{az:List Int}{h:ab},aX h (az++E)->CI h->CI (freeAs h az)/\Kp h (freeAs h az)
 | [],h,_,b=>⟨b,CX h⟩
 | a::az,h,c,b=>by
  obtain⟨d,e⟩:=CI.freeA c b;obtain⟨f,g⟩:=CI.freeAs (az:=az) (h:=Ab.freeA h a) c.freeA d;exact⟨f,e.trans g⟩
theorem CI.flushN{t:Nat}{h:ab}(c:aX h [])(d:t<h.T.length)(e:CI h):∀{k:Nat},k<=4->CI (flushN t h k).1/\Kp h (flushN t h k).1
 | 0,_=>⟨e,CX h⟩
 | k+1,p=>by
  obtain⟨a,g⟩:=CI.flushN c d e (k:=k) ω;obtain⟨f,q,-⟩:=jD c d (k:=k) ω;have b:t<(Ab.flushN t h k).1.T.length:=ω
  have i:=pv (f.cach _ (am b));have j:=f.spilt b (k:=k) ω;have l:CI (spilt (Ab.flushN t h k).1 t k):=⟨a.z,a.jv,a.jd,a.jc,a.jn,a.m1,a.m2⟩
  obtain⟨n,o⟩:=CI.freeAs j l;exact⟨n,g.trans o⟩
theorem CI.tick{h:ab}{n:Int}(c:aX h [])(a:CI h)(d:0<=n)(b:h.b3+n<=1000000):CI (tick h n)/\Kp h (tick h n):=by
 have e:=c.aged d b;have f:CI (aged h n):=⟨a.z,a.jv,a.jd,a.jc,a.jn,a.m1,a.m2⟩
 exact CI.freeAs e f
theorem CI.collect{h:ab}{t:Nat}(b:aX h [])(a:CI h)(c:t<h.T.length):CI (collect h t)/\Kp h (collect h t):=by
 have g:=(dP.1 b.mail).1;have d:=b.nc;have e:=b.coll (t:=t) ω;have f:CI {h with y:=lh h.y t}:=⟨a.z,a.jv,a.jd,a.jc,a.jn,a.m1,a.m2⟩
 exact CI.recycs e c f
theorem ur(r:List Int)(o:Nat):∀(n c:Nat),nth (kW r o n) c=if o<=c/\c<o+n then 0 else nth r c
 | 0,c=>by rw[C8 ω];rfl
 | n+1,c=>by
  unfold kW;rw[bz,ur r o n c,mO];by_cases e:o+n=c
  ·rw[C9 (show o<=c/\c<o+(n+1) by omega)]
   by_cases a:c<r.length
   ·rw[C9 ⟨e,a⟩]
   rw[C8 ω,C8 ω];unfold nth;rw[U2,O2 ω];rfl
  rw[C8 ω];by_cases a:o<=c/\c<o+n
  ·rw[C9 a,C9 ω]
  rw[C8 a,C8 ω]
theorem xY(k:af)(a:Int)(n f c:Nat):cl (f8 k a n) f c=cl k f c\/(cl (f8 k a n) f c=0/\f=cR k a/\(a % 16).toNat<=c/\c<(a % 16).toNat+n):=by
 unfold cl f8;simp only[bz];split
 ·rename_i e
  rw[ur];split
  ·rename_i b;exact .inr ⟨rfl,e.1.symm,b.1,b.2⟩
  rw[e.1];exact .inl rfl
 exact .inl rfl
theorem Gb{k:af}{a:Int}{n c:Nat}(h1:(a % 16).toNat<=c)(b:c<(a % 16).toNat+n):cl (f8 k a n) (cR k a) c=0:=by
 unfold cl f8;simp only[bz];by_cases e:cR k a<k.F.W.S.length
 ·rw[C9 ⟨trivial,e⟩,ur,C9 ⟨h1,b⟩]
 rw[C8 (λx=>e x.2)];have:nth k.F.W.S (cR k a)=[]:=by
  unfold nth;rw[U2,O2 ω];rfl
 rw[this];rfl
theorem CI.clearO{h h':ab}{E:List Int}(b:aX h E)(u:JI h)(O:CI h){i:Nat}(P:i<h.O.length)(w:¬aJ (nth h.O i).q<0)(hw:(ac (tbl h) ((nth h.O i).Addr / 16)).j≠1)(y:h'.G=f8 h.G (nth h.O i).Addr (csz (aJ (nth h.O i).q)).toNat)(e2:h'.O=dele h.O i)(e3:h'.K=h.K)(e4:h'.Y=h.Y)(e5:h'.o=h.o):CI h'/\Kp h h':=by
 obtain⟨⟨s,H,s1,s2⟩,hc3⟩:=(dR b (am P)).2 w;have Q:=s1;obtain⟨g1,g2,g3,-⟩:=s1;have A:=b.L.sok s H;have B:=bO (aF A).2.2;obtain⟨m1,m2,m3⟩:=b.mapped H;have R:(nth h.O i).Addr / 16=s.R:=ω
 have J:tbl h'=tbl h:=by unfold tbl;rw[y];rfl
 have S:(ac (tbl h) s.R).e=(cR h.G (nth h.O i).Addr:Nat):=by
  unfold cR;rw[R];exact lF b.ker (by show(ac (tbl h) s.R).j≠0;rw[b.pe H];exact m3)
 have ex:∀c:Nat,((nth h.O i).Addr % 16).toNat<=c->c<((nth h.O i).Addr % 16).toNat+(csz (aJ (nth h.O i).q)).toNat->Mg h (nth h.O i).Addr (cR h.G (nth h.O i).Addr) c/\c<16:=λc h1 T=>by
  rw[<-s2]at T;have r:c<16:=by rcases B with e|e|e|e<;>rw[e]at g3 T<;>omega
  refine⟨.inl ⟨s,H,Q,S,?_,r⟩,r⟩;unfold dz;rcases B with e|e|e|e<;>rw[e]at g3 T |-<;>omega
 have cv:∀o∈h.O,∀f c:Nat,qL h o f c->qL h' o f c:=λo d f c ⟨j,K,U,a⟩=>by
  have e:h'.G.F.Q=h.G.F.Q:=J;exact⟨j,K,U,by rw[e];exact a.m,by rw[e];exact a.f,a.c⟩
 have same:∀o∈h.O,o≠nth h.O i->∀f c:Nat,qL h o f c->cl h'.G f c=cl h.G f c:=λo d V f c l=>by
  rw[y];rcases xY h.G (nth h.O i).Addr (csz (aJ (nth h.O i).q)).toNat f c with g|⟨-,W,X,Y⟩
  ·exact g
  exfalso;have hx:=(ex c X Y).1;rw[<-W]at hx;have ea:=wj b (jF b d l) hx;obtain⟨k,n,rfl⟩:=aL d;have:=cJ (f:=(·.Addr)) (df b.osr) n P ea;subst this;exact V rfl
 have notO:∀o∈h'.O,o≠nth h.O i/\o∈h.O:=λo d=>by
  rw[e2]at d;obtain⟨k,n,Z,rfl⟩:=cU.1 d;refine⟨λe=>Z ?_,am n⟩;exact cJ (f:=(·.Addr)) (df b.osr) n P (by rw[e])
 refine⟨O.keep e4 e5 (by rw[J];exact λq h=>h) (λ_=>by rw[J];exact⟨rfl,rfl⟩) (λf c _ M=>.inl ?_) (λo d f c r l M=>?_) (λN c C=>?_) (λ_ s' hs' _=>⟨s',by rw[<-e3];exact hs',rfl,rfl,λ_ h=>h⟩),λo d=>⟨(notO o d).2,λj K U=>?_⟩⟩
 ·rw[y]at M |-
  rcases xY h.G (nth h.O i).Addr (csz (aJ (nth h.O i).q)).toNat f c with g|g
  ·exact g.symm
  exact absurd g.1 M
 ·by_cases e:o=nth h.O i
  ·exfalso
   subst e;obtain⟨t,D,F⟩:=MF b d w l;exact M (by rw[y,t];exact Gb D F)
  refine⟨o,?_,cv o d f c l⟩;rw[e2];obtain⟨k,n,rfl⟩:=aL d;exact cU.2 ⟨k,n,λx=>e (by rw[x]),rfl⟩
 ·have hc16:c<16:=by
   have hm2:=List.mem_of_mem_take C;obtain⟨k,n,e⟩:=aL hm2;have:=fm (dh.1 (b.job N).1).1 n;omega
  have key:∀p:Int,(ac (tbl h) p).j≠0->(∀c:Nat,Mg h (nth h.O i).Addr (cR h.G (nth h.O i).Addr) c->c<16->(c:Int)∈h.Y.V.S.take h.Y.a.toNat->(ac (tbl h) p).e≠(cR h.G (nth h.O i).Addr:Nat))->cl h'.G (b9 h.G p) c=cl h.G (b9 h.G p) c:=λp hp Z=>by
   rw[y];rcases xY h.G (nth h.O i).Addr (csz (aJ (nth h.O i).q)).toNat (b9 h.G p) c with g|⟨-,W,X,Y⟩
   ·exact g
   exfalso;obtain⟨t,D⟩:=ex c X Y;refine Z c t D C ?_;rw[<-W];exact lF b.ker hp
  obtain⟨jm1,jm2⟩:=b.jobM N;exact⟨key _ jm1 λc t D F=>sP b u O N t D (List.mem_of_mem_take F),key _ jm2 λc t _ F=>F7 b u O N t hw F⟩
 obtain⟨o1,o2⟩:=notO o d;have a:=At.mk' b.ker (cL b o2 (k:=j) ⟨K,ω⟩).1;have G:At h'.G (o.Addr+j) (cR h.G (o.Addr+j)) ((o.Addr+j) % 16).toNat:=by
  have e:h'.G.F.Q=h.G.F.Q:=J;exact⟨by rw[e];exact a.m,by rw[e];exact a.f,a.c⟩
 rw[G.cell,a.cell];exact same o o2 o1 _ _ ⟨j,K,U,a⟩
theorem o9{k:af}(h:a7 k=true){f:Nat}(d:∀p:Int,(ac k.F.Q p).j≠0->(ac k.F.Q p).e≠f)(c:Nat):cl k f c=0:=by
 obtain⟨-,i,-,j,-⟩:=aB.1 h;obtain⟨-,-,w,n⟩:=aU.1 i;unfold cl;by_cases o:f<k.F.W.S.length
 ·have r:nth k.F.W.a5 f=false:=by
   rw[j f ω,U4];intro a;obtain⟨q,y,t,u⟩:=dG.1 a;have e:ac k.F.Q (q:Nat)=nth k.F.Q.J q:=by unfold ac;rw[C9 ⟨ω,ω⟩];rfl
   exact d (q:Nat) (by rw[e];exact t) (by rw[e];exact u)
  have b:=n f o;unfold gZ at b;rw[r]at b;simp only[I0,C0,Z3]at b;by_cases g:c<(nth k.F.W.S f).length
  ·have:=b.2 _ (am g)
   unfold iH at this;rw[I0,Bool.false_or,C0,C0]at this;exact this.2
  unfold nth;rw[U2 (l:=List.getD _ _ _),O2 (by unfold nth at g;omega)];rfl
 have:nth k.F.W.S f=[]:=by
  unfold nth;rw[U2,O2 ω];rfl
 rw[this];rfl
theorem CI.freeL{h:ab}{E:List Int}(d:aX h E)(T:CI h){i k:Nat}(O:i<h.O.length)(r:k<h.M.length)(U:(nth h.O i).Addr=16*(nth h.M k).R):CI (freeL h i k)/\Kp h (freeL h i k):=by
 obtain⟨V,W⟩:=tJ d r;have t:=d.L.lok _ (am r);have X:=aP t;have kl:=KL.unmN d.ker V _ W;have ker:=iY d.ker (nth h.M k).R (nth h.M k).a3.toNat;have u:=(fS h.G (nth h.M k).R (nth h.M k).a3.toNat).1;have notO:∀o∈dele h.O i,o≠nth h.O i/\o∈h.O:=λo n=>by
  obtain⟨j,y,Y,rfl⟩:=cU.1 n;exact⟨λe=>Y (cJ (f:=(·.Addr)) (df d.osr) y O (by rw[e])),am y⟩
 have onL:∀b:Int,(nth h.M k).R<=b / 16->b / 16<(nth h.M k).R+((nth h.M k).a3.toNat:Nat)->∀f c:Nat,At h.G b f c->Mg h (nth h.O i).Addr f c:=λb h1 h2 f c g=>.inr ⟨_,am r,U,b,ω,ω,g⟩
 refine CI.kern d T (λo n=>(notO o n).2) rfl rfl (λo n Z f c h16 C=>?_) (λq hq=>?_) (λhm=>?_) (λo n j D P=>?_) kl.cel (λ_ s' F _=>⟨s',F,rfl,rfl,λ_ h=>h⟩)
 ·-- the object itself
  have G:o=nth h.O i:=by
   refine Classical.byContradiction λe=>Z ?_
   obtain⟨j,y,rfl⟩:=aL n;exact cU.2 ⟨j,y,λx=>e (by rw[x]),rfl⟩
  subst G;rcases kl.cel f c with e|e
  ·refine o9 ker (λp A H=>?_) c
   obtain⟨j,D,P,g⟩:=C;have hsz:(nth h.O i).q<=16*(nth h.M k).a3:=by
    rcases d.oow _ n with⟨s,J,Q,-⟩|⟨l,R,e1,e2⟩
    ·exact absurd (show s.R=(nth h.M k).R+((0:Nat):Int) by have:=Q.1;have:=Q.2.1;omega) (d.L.dis s J _ (am r) 0 ω)
    obtain⟨m,K,rfl⟩:=aL R;have:=d.L.one m k K r 0 0 (by have:=aP (d.L.lok _ R);omega) ω ω;subst this;unfold bJ at t;rw[C0]at t;omega
   by_cases B:(nth h.M k).R<=p/\p<(nth h.M k).R+((nth h.M k).a3.toNat:Nat)
   ·exact A (kl.ins p B.1 B.2)
   have w:=kl.out p B;change ac (unmN h.G (nth h.M k).R (nth h.M k).a3.toNat).F.Q p=_ at w;change (ac (unmN h.G (nth h.M k).R (nth h.M k).a3.toNat).F.Q p).j≠0 at A;change (ac (unmN h.G (nth h.M k).R (nth h.M k).a3.toNat).F.Q p).e=_ at H;rw[w]at A H;have:=lQ d (am r) (b:=(nth h.O i).Addr+j) ω ω g A H;omega
  exact e.1
 ·have:=kl.md u q (by show(nth (tbl (Ab.freeL h i k)).J q).j≠0;omega)
  show(nth h.G.F.Q.J q).j=1;rw[<-this];exact hq
 ·obtain⟨-,⟨a,ha,M⟩,b,hb,eb⟩:=d.job hm
  have no:∀s∈h.K,¬((nth h.M k).R<=s.R/\s.R<(nth h.M k).R+((nth h.M k).a3.toNat:Nat)):=λs J B=>d.L.dis s J _ (am r) (s.R - (nth h.M k).R).toNat ω ω
  exact⟨by rw[<-M];exact kl.out _ (no a ha),by rw[<-eb];exact kl.out _ (no b hb)⟩
 obtain⟨o1,N⟩:=notO o n;refine kl.out _ λS=>o1 ?_
 have g:=At.mk' d.ker (cL d N (k:=j) ⟨D,ω⟩).1;have e:=wj d (jF d N ⟨j,D,P,g⟩) (onL _ S.1 S.2 _ _ g);obtain⟨m,K,rfl⟩:=aL N;rw[cJ (f:=(·.Addr)) (df d.osr) K O e]
theorem CI.freeT{h:ab}{t i:Nat}(b:aX h [])(c:JI h)(d:CI h)(e:i<h.O.length)(n:t<h.T.length):CI (freeT h t i).1/\Kp h (freeT h t i).1:=by
 unfold Ab.freeT;split
 ·rename_i a
  obtain⟨l,o,f,-⟩:=(dR b (am e)).1 a;obtain⟨g,j,-⟩:=vW o f;exact CI.freeL b d e g j
 rename_i a;split
 ·exact⟨d,CX h⟩
 rename_i k;split
 ·obtain⟨p,g⟩:=CI.clearO (h':=inQuar h i) b c d e a k rfl rfl rfl rfl rfl
  have f:=b.inQuar e a;obtain⟨q,j⟩:=CI.recycs (t:=t) (E:=[]) (az:=(zm h.a9 (lc h (nth h.O i))).map (·.Addr)) (h:=inQuar h i) (by rw[List.append_nil];exact f) n p;exact⟨q,g.trans j⟩
 split
 ·exact CI.clearO (h':=LK h t i) b c d e a k rfl rfl rfl rfl rfl
 exact⟨d,CX h⟩
structure KA(k k':af)(lo n:Int):Prop where
 out:∀q:Int,¬(lo<=q/\q<lo+n)->ac k'.F.Q q=ac k.F.Q q
 md:∀q:Nat,(nth k'.F.Q.J q).j=1->(nth k.F.Q.J q).j=1
 cel:∀f c:Nat,cl k' f c=cl k f c
theorem Nv{k a:af}{lo n:Int}(b:a.F.Q.J.length=k.F.Q.J.length)(h:∀q:Nat,¬(lo<=q/\(q:Int)<lo+n)->nth a.F.Q.J q=nth k.F.Q.J q)(q:Int)(c:¬(lo<=q/\q<lo+n)):ac a.F.Q q=ac k.F.Q q:=by
 unfold ac;rw[b];by_cases e:0<=q/\q<k.F.Q.J.length
 ·rw[C9 e,C9 e];exact h q.toNat ω
 rw[C8 e,C8 e]
theorem KA.newK{k:af}{p:Int}{r:af × Bool}(s:vP k p r):KA k r.1 p 1:=by
 cases e:r.2 with
 | false=>rw[s.no e];exact⟨λ_ _=>rfl,λ_ h=>h,λ_ _=>rfl⟩
 | true=>
  obtain⟨f,-,-,b,-⟩:=s.yes e;refine⟨Nv s.len λq a=>by rw[b,C8 ω],λq a=>?_,λf c=>by unfold cl;rw[s.cells]⟩;rw[b]at a;split at a
  ·exact absurd a (by show ¬(2:Int)=1;decide)
  exact a
theorem KA.newsK{k:af}{p:Int}{n:Nat}{r:af × Nat}(s:lN k p n r):KA k r.1 p r.2:=by
 refine⟨Nv s.len s.out,λq a=>?_,λf c=>by unfold cl;rw[s.cells]⟩;by_cases e:p<=q/\(q:Int)<p+r.2
 ·rw[(s.new q e.1 e.2).1]at a;exact absurd a (by decide)
 rw[s.out q e]at a;exact a
theorem mW{h:ab}{E:List Int}(d:aX h E){lo n:Int}(b:∀q:Nat,lo<=q->(q:Int)<lo+n->(nth (tbl h).J q).j=0){p:Int}(a:(ac (tbl h) p).j≠0):¬(lo<=p/\p<lo+n):=λe=>by
 obtain⟨f,-,c⟩:=kZ a;rw[c]at a;exact a (b p.toNat ω ω)
theorem CI.mapped{h h':ab}{E:List Int}(b:aX h E)(t:CI h){lo n:Int}(e:KA h.G h'.G lo n)(g:∀q:Nat,lo<=q->(q:Int)<lo+n->(nth (tbl h).J q).j=0)(i:h'.O=h.O)(u:h'.Y=h.Y)(l:h'.o=h.o)(p:h.o=true->∀d∈h'.K,d.R=h.Y.V.a2\/d.R=h.Y.V.w->d∈h.K):CI h'/\Kp h h':=by
 refine CI.kern b t (λo a=>by rw[<-i];exact a) u l (λo a r=>absurd (by rw[i];exact a) r) e.md (λa=>?_) (λo a j w C=>?_) (λf c=>.inl (e.cel f c)) (λa d r y=>⟨d,p a d r y,rfl,rfl,λ_ h=>h⟩)
 ·obtain⟨A,B⟩:=b.jobM a
  exact⟨e.out _ (mW b g A),e.out _ (mW b g B)⟩
 rw[i]at a;exact e.out _ (mW b g (cL b a (k:=j) ⟨w,ω⟩).1)
structure CA(h:ab)(r:ab):Prop where
 ci:CI r
 kp:Kp h r
 ob:r.O=h.O
theorem CI.slotT{h:ab}(e:CI h){i:Nat}(t:i<h.K.length)(a:gm h (nth h.K i).R=false):CI (slotT h i):=by
 refine e.keep rfl rfl (λq h=>h) (λ_=>⟨rfl,rfl⟩) (λf c _ _=>.inl rfl) (λo g f c _ b _=>⟨o,g,b⟩) (λ_ c _=>⟨rfl,rfl⟩) λk u d l=>?_
 rcases dY d with rfl|⟨j,n,-,rfl⟩
 ·obtain⟨p,r⟩:=y1 a k
  exact(l.elim p r).elim
 exact⟨_,am n,rfl,rfl,λ_ h=>h⟩
theorem CI.smallA{h:ab}{t c:Nat}(d:aX h [])(a:CI h)(V:t<h.T.length)(G:c<=3)(H:h.G.Calls<=90000):CA h (smallA h t c).1:=by
 unfold Ab.smallA;split
 ·exact⟨⟨a.z,a.jv,a.jd,a.jc,a.jn,a.m1,a.m2⟩,CX h,rfl⟩
 split
 ·rename_i i D
  have o:=List.find?_some D;have b:=List.mem_range.1 (List.mem_of_find?_eq_some D);unfold sS at o;simp only[I0,C0,Bool.not_eq_true']at o;exact⟨CI.slotT a b o.2.1,CX h,rfl⟩
 split
 ·exact⟨a,CX h,rfl⟩
 rename_i J;have f:(au h.u 1).2.2=true:=by simpa using J
 obtain⟨K,L,r,E⟩:=jE d (Y4 1) f;have s:=vP.of (p:=(au h.u 1).2.1) d.ker ω ⟨K,by have:(au h.u 1).2.1+1<=(h.G.F.Q.J.length:Nat):=L;omega⟩ (r _ ω ω);have F:=KA.newK s;split
 ·obtain⟨g,j⟩:=CI.mapped (h':={h with G:=(newK h.G (au h.u 1).2.1).1}) d a F (λq u w=>r q u w) rfl rfl rfl (λ_ k b _=>b)
  exact⟨g,j,rfl⟩
 rename_i M;have A:(newK h.G (au h.u 1).2.1).2=true:=by simpa using M
 have k:vP h.G (au h.u 1).2.1 ((newK h.G (au h.u 1).2.1).1,true):=by rw[<-A];exact s
 have W:=d.addS (c:=c) ⟨ω,ω⟩ f k;have N:JK h (qM h c):=JK.addS k;have jno:∀l:h.o=true,(au h.u 1).2.1≠h.Y.V.a2/\(au h.u 1).2.1≠h.Y.V.w:=λl=>by
  obtain⟨-,⟨y,O,P⟩,⟨z,Q,R⟩⟩:=d.job l;exact⟨λe=>E _ (Y4 _) ω (by rw[e,<-P];exact dC O),λe=>E _ (Y4 _) ω (by rw[e,<-R];exact dC Q)⟩
 obtain⟨g,j⟩:=CI.mapped (h':=qM h c) d a F (λq u w=>r q u w) rfl rfl rfl (λl k b S=>by
   rcases cG.1 b with rfl|b
   · obtain⟨B,C⟩:=jno l
     exact(S.elim B C).elim
   exact b)
 obtain⟨T,U⟩:=D5 (GY (au h.u 1).2.1) h.K ⟨(au h.u 1).2.1,c,0⟩;unfold nU;split
 ·exact⟨g,j,rfl⟩
 refine⟨CI.slotT (h:=qM h c) g (i:=qR h) T ?_,j,rfl⟩;show gm (qM h c) (nth (jx (GY (au h.u 1).2.1) h.K ⟨(au h.u 1).2.1,c,0⟩) (qR h)).R=false;unfold qR;rw[U,N.pg,<-C5];intro n;unfold gm at n;simp only[I0,Y5,C0]at n;obtain⟨B,C⟩:=jno n.1;exact n.2.elim B C
structure Rc(h h':ab)(x:bu):Prop where
 mem:∀o,o∈h'.O↔o=x\/o∈h.O
 ze:∀j:Int,0<=j->j<x.q->eP h'.G (x.Addr+j)=0
 ke:∀o∈h.O,∀j:Int,0<=j->j<o.q->eP h'.G (o.Addr+j)=eP h.G (o.Addr+j)
theorem Rc.of{h g h':ab}{E L:List Int}{x:bu}(A:aX g E)(M:CI g)(b:aX h' L)(r:JI h')(B:CI h')(C:∀p:Int,(ac (tbl g) p).j≠0->ac (tbl h') p=ac (tbl g) p)(d:∀f c,cl h'.G f c=cl g.G f c)(l:∀o,o∈h'.O↔o=x\/o∈g.O)(N:x∉g.O)(G:h'.Y=g.Y)(O:h'.o=g.o)(D:g.O=h.O)(P:Kp h g):Rc h h' x:=by
 have Q:∀o∈g.O,∀f c:Nat,qL g o f c->qL h' o f c:=λo D f c ⟨j,n,t,a⟩=>by
  have e:=C _ a.m;unfold tbl at e;exact⟨j,n,t,by rw[e];exact a.m,by rw[e];exact a.f,a.c⟩
 refine⟨λo=>by rw[l,D],λj n t=>?_,λo u j n t=>?_⟩
 ·have q:=(l x).2 (.inl rfl)
  have a:=At.mk' b.ker (cL b q (k:=j) ⟨n,ω⟩).1;rw[a.cell];refine Classical.byContradiction λH=>?_
  have w:((x.Addr+j) % 16).toNat<16:=ω
  rw[d]at H;have i:qL h' x _ _:=⟨j,n,t,a⟩
  rcases M.z _ _ w H with⟨o,u,F⟩|⟨J,R,S⟩
  ·have:=H5 b ((l o).2 (.inr u)) q (Q o u _ _ F) i
   subst this;exact N u
  refine sP b r B (by rw[O];exact J) (jF b q i) w (by rw[G];exact List.mem_of_mem_take S) ?_;rw[G,C _ (A.jobM J).1];exact R
 have K:o∈g.O:=by rw[D];exact u
 refine Eq.trans ?_ ((P o K).2 j n t);have a:=At.mk' A.ker (cL A K (k:=j) ⟨n,ω⟩).1;have e:=C _ a.m;have y:At h'.G (o.Addr+j) (cR g.G (o.Addr+j)) ((o.Addr+j) % 16).toNat:=by
  unfold tbl at e;exact⟨by rw[e];exact a.m,by rw[e];exact a.f,a.c⟩
 rw[y.cell,a.cell,d]
theorem CI.addO{h:ab}(e:CI h)(a size t:Int):CI (addO h a size t):=
 e.keep rfl rfl (λq h=>h) (λ_=>⟨rfl,rfl⟩) (λf c _ _=>.inl rfl) (λo g f c _ b _=>⟨o,cG.2 (.inr g),b⟩) (λ_ c _=>⟨rfl,rfl⟩) λ_ i d _=>⟨i,d,rfl,rfl,λ_ h=>h⟩
structure AL(h:ab)(t size:Int)(r:ab × Int × Int):Prop where
 ci:CI r.1
 no:r.2.2≠0->r.1.O=h.O/\Kp h r.1/\r.1.a=h.a/\r.2.1 = -1
 yes:r.2.2=0->Rc h r.1 ⟨h.a,r.2.1,size,t⟩/\r.1.a=h.a+1/\1<=size/\size<=1000/\0<=r.2.1
theorem LF{h:ab}{E:List Int}(b:aX h E){a size t:Int} : (⟨h.a,a,size,t⟩ : bu)∉h.O:=λc=>by
 have:=(b.onu _ c).2.1;simp only at this;omega
theorem CI.largeA{h:ab}{t size:Int}(b:aX h [])(C:JI h)(y:CI h)(L:9<=size/\size<=1000)(D:h.a<1000000)(E:h.G.Calls<=90000)(U:0<=t/\t<=h.T.length - 1):AL h t size (largeA h t size):=by
 have hl:(gM size:Int)=(size+15) / 16:=by unfold gM;omega
 have a:=Ag b L D E U;unfold Ab.largeA at a |-;by_cases F:(au h.u (gM size:Nat)).2.2=false
 ·rw[C9 F]
  exact⟨y,λ_=>⟨rfl,CX h,rfl,rfl⟩,λe=>by cases e⟩
 rw[C8 F]at a |-;have G:(au h.u (gM size:Nat)).2.2=true:=by simpa using F
 obtain⟨M,N,O,u4⟩:=jE b (show(1:Int)<=(gM size:Nat) by omega) G;have s:lN h.G (au h.u (gM size:Nat)).2.1 (gM size) (dO h size):=lN.of (p:=(au h.u (gM size:Nat)).2.1) (n:=gM size) b.ker ω ⟨M,N⟩ O (gM size) (z3 _);have d:=KA.newsK s;have V:=s.le;have i:∀q:Nat,(au h.u (gM size:Nat)).2.1<=q->(q:Int)<(au h.u (gM size:Nat)).2.1+(dO h size).2->(nth (tbl h).J q).j=0:=λq W q2=>O q W ω
 by_cases P:(dO h size).2=gM size
 ·rw[C9 P]at a |-
  obtain⟨Q,H⟩:=a;have ji1:=C.keep Q H;have w:∀o,o∈(addL h (dO h size).1 (au h.u (gM size:Nat)).1 (au h.u (gM size:Nat)).2.1 (gM size:Nat) size t).O↔o = ⟨h.a,16*(au h.u (gM size:Nat)).2.1,size,t⟩\/o∈h.O:=λo=>cG
  have X:=CI.mapped (h':={h with G:=(dO h size).1}) b y d i rfl rfl rfl (λ_ A Y _=>Y);have B:CI (addL h (dO h size).1 (au h.u (gM size:Nat)).1 (au h.u (gM size:Nat)).2.1 (gM size:Nat) size t):=
   X.1.keep rfl rfl (λq h=>h) (λ_=>⟨rfl,rfl⟩) (λf c _ _=>.inl rfl) (λo l f c _ J _=>⟨o,cG.2 (.inr l),J⟩) (λ_ c _=>⟨rfl,rfl⟩) λ_ A r _=>⟨A,r,rfl,rfl,λ_ h=>h⟩
  refine⟨B,λe=>absurd rfl e,λ_=>⟨?_,rfl,ω,L.2,by show 0<=16*_;omega⟩⟩;exact Rc.of (g:=h) b y Q ji1 B (λp Z=>d.out p (mW b i Z)) d.cel w (LF b) rfl rfl rfl (CX h)
 rw[C8 P]at a |-;have K:=s.len;have kl:=KL.unmN s.ker M (dO h size).2 (by rw[K];have:(au h.u (gM size:Nat)).2.1+((gM size:Nat):Int)<=(h.G.F.Q.J.length:Nat):=N;omega);have u:=((fS (dO h size).1 (au h.u (gM size:Nat)).2.1 (dO h size).2).1)
 obtain⟨B,k1⟩:=CI.kern (h':={h with G:=unmN (dO h size).1 (au h.u (gM size:Nat)).2.1 (dO h size).2}) b y (λo l=>l) rfl rfl (λo l D=>absurd l D) (λq R=>d.md q (by rw[<-kl.md u q (by show(nth (unmN (dO h size).1 _ _).F.Q.J q).j≠0;have:(nth (unmN (dO h size).1 (au h.u (gM size:Nat)).2.1 (dO h size).2).F.Q.J q).j=1:=R;omega)];exact R)) (λhm=>by
     obtain⟨S,T⟩:=b.jobM hm;exact⟨(kl.out _ (mW b i S)).trans (d.out _ (mW b i S)),(kl.out _ (mW b i T)).trans (d.out _ (mW b i T))⟩) (λo l j H j2=>by
     have:=mW b i (cL b l (k:=j) ⟨H,ω⟩).1;exact(kl.out _ this).trans (d.out _ this)) (λf c=>by
     rcases kl.cel f c with e|e
     · exact .inl (e.trans (d.cel f c))
     exact .inr e) (λ_ A r _=>⟨A,r,rfl,rfl,λ_ h=>h⟩)
 exact⟨B,λ_=>⟨rfl,k1,rfl,rfl⟩,λe=>by cases e⟩
theorem CI.allocH{h:ab}{t size:Int}(i:aX h [])(f:JI h)(j:CI h):AL h t size (allocH h t size):=by
 have a:=Ah (t:=t) (size:=size) i;have no:∀n:Int,n≠0->AL h t size (h,-1,n):=λn B=>⟨j,λ_=>⟨rfl,CX h,rfl,rfl⟩,λe=>absurd e B⟩
 unfold Ab.allocH at a |-;by_cases k:1000000<=h.a\/90000<h.G.Calls
 ·rw[C9 k];exact no 5 (by decide)
 rw[C8 k]at a |-;by_cases l:¬(0<=t/\t<=h.T.length - 1)
 ·rw[C9 l];exact no 1 (by decide)
 rw[C8 l]at a |-;by_cases q:¬(1<=size/\size<=1000)
 ·rw[C9 q];exact no 2 (by decide)
 rw[C8 q]at a |-;by_cases u:h.c3<uf h+size
 ·rw[C9 u];exact no 3 (by decide)
 rw[C8 u]at a |-;by_cases b:0<=aJ size
 ·rw[C9 b]at a |-
  have C:aJ size<=3:=by unfold aJ;repeat' split<;>omega
  have s:=ug (t:=t.toNat) (c:=(aJ size).toNat) i ω ω ω;have d:=CI.smallA (t:=t.toNat) (c:=(aJ size).toNat) i j ω ω ω;generalize Ab.smallA h t.toNat (aJ size).toNat=r at s d a |-;by_cases e:r.2<0
  ·rw[C9 e]at a |-
   exact⟨d.ci,λ_=>⟨d.ob,d.kp,s.nx,rfl⟩,λe=>by cases e⟩
  rw[C8 e]at a |-;obtain⟨w,D⟩:=a;obtain⟨y,-⟩:=s.yes ω;have A:=CI.addO d.ci r.2 size t;refine⟨A,λe=>absurd rfl e,λ_=>⟨?_,by show r.1.a+1=h.a+1;rw[s.nx],ω,ω,by show 0<=r.2;omega⟩⟩;have:=Rc.of (h:=h) (g:=r.1) (x:=⟨r.1.a,r.2,size,t⟩) y d.ci w (f.keep w D) A (λp _=>rfl) (λ_ _=>rfl) (λo=>cG) (LF y) rfl rfl d.ob d.kp;rw[s.nx]at this;exact this
 rw[C8 b];have E:9<=size:=by
  unfold aJ at b
  repeat' split at b<;>omega
 exact CI.largeA i f j ⟨E,ω⟩ ω ω ω
theorem qT(k:af)(a v:Int)(f c:Nat):cl (dI k a v) f c=cl k f c\/(cl (dI k a v) f c=v/\f=cR k a/\c=(a % 16).toNat):=by
 unfold cl dI setCell;simp only[bz];by_cases e:cR k a=f/\f<k.F.W.S.length
 ·rw[C9 e,bz]
  by_cases b:(a % 16).toNat=c/\c<(nth k.F.W.S (cR k a)).length
  ·rw[C9 b];exact .inr ⟨rfl,e.1.symm,b.1.symm⟩
  rw[C8 b,e.1];exact .inl rfl
 rw[C8 e];exact .inl rfl
theorem Ae{k:af}(c:a7 k=true){a v:Int}(e:(ac k.F.Q (a / 16)).j≠0):cl (dI k a v) (cR k a) (a % 16).toNat=v:=by
 have d:=(ge c e).1;have b:=(uo c (f:=cR k a) d).1;unfold cl dI setCell;show nth (nth (List.set _ _ _) _) _=v;rw[bz,C9 ⟨rfl,d⟩,bz,C9 ⟨rfl,by rw[b];omega⟩]
theorem HE{h:ab}{a v:Int}{o:bu}{f c:Nat}(d:qL h o f c):qL {h with G:=dI h.G a v} o f c:=by
 obtain⟨j,e,g,b⟩:=d;exact⟨j,e,g,⟨b.m,b.f,b.c⟩⟩
theorem PT{h:ab}{E:List Int}(d:aX h E){o:bu}(q:o∈h.O){x j:Int}(y:0<=x/\x<o.q)(A:0<=j/\j<o.q){f c:Nat}(h1:At h.G (o.Addr+x) f c)(g:At h.G (o.Addr+j) f c):x=j:=by
 have B:=h1.c;have C:=g.c;rcases d.oow o q with⟨s,r,t,u⟩|⟨l,k,D,F⟩
 ·have i:=aF (d.L.sok s r)
  have a:=Bx (n:=o.q) ω;rw[<-u]at a;obtain⟨G,H,w,-⟩:=t;rcases bO i.2.2 with e|e|e|e<;>rw[e]at w a<;>omega
 have p:=d.L.lok l k;unfold bJ at p;rw[C0]at p;have:=lQ d k (b:=o.Addr+x) ω ω h1 g.m g.f;omega
theorem CI.store{h:ab}{E:List Int}(b:aX h E)(A:JI h)(N:CI h){i:Nat}(O:i<h.O.length){j v:Int}(P:0<=j/\j<=(nth h.O i).q - 1)(Y:(ac (tbl h) (((nth h.O i).Addr+j) / 16)).j≠1):CI {h with G:=dI h.G ((nth h.O i).Addr+j) v}/\
  ∀o∈h.O,∀x:Int,0<=x->x<o.q->eP (dI h.G ((nth h.O i).Addr+j) v) (o.Addr+x)=if o=nth h.O i/\x=j then v else eP h.G (o.Addr+x):=by
 have g:=am O;have F:=(cL b g P).1;have G:=At.mk' b.ker F;have d:qL h (nth h.O i) _ _:=⟨j,P.1,ω,G⟩
 have r:=jF b g d;have Z:(((nth h.O i).Addr+j) % 16).toNat<16:=ω
 have key:∀p:Int,(ac (tbl h) p).j≠0->(ac (tbl h) p).e≠(cR h.G ((nth h.O i).Addr+j):Nat)->∀c,cl (dI h.G ((nth h.O i).Addr+j) v) (b9 h.G p) c=cl h.G (b9 h.G p) c:=λp Q B c=>by
  rcases qT h.G ((nth h.O i).Addr+j) v (b9 h.G p) c with e|⟨-,e,-⟩
  ·exact e
  refine absurd ?_ B;rw[<-e];exact lF b.ker Q
 refine⟨N.keep rfl rfl (λq h=>h) (λ_=>⟨rfl,rfl⟩) (λf c _ _=>?_) (λo g f c _ d _=>⟨o,g,HE d⟩) (λH c C=>?_) (λ_ s' R _=>⟨s',R,rfl,rfl,λ_ h=>h⟩),λo g x S W=>?_⟩
 ·rcases qT h.G ((nth h.O i).Addr+j) v f c with e|⟨-,u,w⟩
  ·exact .inl e.symm
  refine .inr ⟨_,g,?_⟩;rw[u,w];exact HE d
 ·obtain⟨jm1,jm2⟩:=b.jobM H
  have J:c<16:=by
   obtain⟨k,lk,e⟩:=aL (List.mem_of_mem_take C);have:=fm (dh.1 (b.job H).1).1 lk;omega
  constructor
  ·rcases qT h.G ((nth h.O i).Addr+j) v (b9 h.G h.Y.V.a2) c with e|⟨-,u,w⟩
   ·exact e
   exfalso;rw[<-u,<-w]at r;exact sP b A N H r J (List.mem_of_mem_take C) (lF b.ker jm1)
  rcases qT h.G ((nth h.O i).Addr+j) v (b9 h.G h.Y.V.w) c with e|⟨-,u,w⟩
  ·exact e
  exfalso;rw[<-u,<-w]at r;refine F7 b A N H r ?_ C (lF b.ker jm2);rcases b.oow _ g with⟨s,hs,s1,s2⟩|⟨l,X,l1,-⟩
  ·have T:=aF (b.L.sok s hs)
   have K:=Bx (n:=(nth h.O i).q) ω;rw[<-s2]at K;obtain⟨g1,g2,g3,-⟩:=s1;have Q:((nth h.O i).Addr+j) / 16=(nth h.O i).Addr / 16:=by rcases bO T.2.2 with e|e|e|e<;>rw[e]at g3 K<;>omega
   rw[<-Q];exact Y
  intro M;obtain⟨a1,a2,a3⟩:=kZ (t:=tbl h) (p:=(nth h.O i).Addr / 16) ω;rw[a3]at M;have h3:=(N.m1 _ M).2.1;obtain⟨-,-,y,hy,-,ey,-⟩:=A.sp H;have hpl:=aP (b.L.lok l X);exact b.L.dis y hy l X 0 ω ω
 have U:=(cL b g (k:=x) ⟨S,ω⟩).1;have a:=At.mk' b.ker U;have D:At (dI h.G ((nth h.O i).Addr+j) v) (o.Addr+x) (cR h.G (o.Addr+x)) ((o.Addr+x) % 16).toNat:=⟨a.m,a.f,a.c⟩
 rw[D.cell,a.cell];split
 ·rename_i e
  obtain⟨u,w⟩:=e;subst u w;exact Ae b.ker F
 rename_i B;rcases qT h.G ((nth h.O i).Addr+j) v (cR h.G (o.Addr+x)) ((o.Addr+x) % 16).toNat with e|⟨-,u,w⟩
 ·exact e
 exfalso;rw[u,w]at a;have V:qL h o _ _:=⟨x,S,W,a⟩
 have eo:=H5 b g (am O) V d;subst eo;refine B ⟨rfl,?_⟩;exact PT b (am O) ⟨S,W⟩ ⟨P.1,ω⟩ a G
structure JP(h:ab):Prop where
 km:(ac (tbl h) h.Y.V.a2).j≠0
 mm:(ac (tbl h) h.Y.V.w).j≠0
 kf:(ac (tbl h) h.Y.V.a2).e=(b9 h.G h.Y.V.a2:Nat)
 mf:(ac (tbl h) h.Y.V.w).e=(b9 h.G h.Y.V.w:Nat)
 ne:b9 h.G h.Y.V.a2≠b9 h.G h.Y.V.w
 pe:h.Y.V.a2≠h.Y.V.w
 k2:CI h->(ac (tbl h) h.Y.V.a2).j≠1
theorem JP.of{h:ab}{E:List Int}(g:aX h E)(i:JI h)(j:h.o=true):JP h:=by
 obtain⟨k,b⟩:=g.jobM j;have a:=(dh.1 (g.job j).1).1;unfold eK at a;simp only[I0,C0]at a;have c:=a.2.2.2.2.2;have l:=lF g.ker k;have n:=lF g.ker b;obtain⟨t,u,o⟩:=kZ k;obtain⟨w,y,q⟩:=kZ b;refine⟨k,b,l,n,λe=>c ?_,c,λr p=>?_⟩
 ·have d:(ac (tbl h) h.Y.V.a2).e=(b9 h.G h.Y.V.a2:Nat):=l
  have f:(ac (tbl h) h.Y.V.w).e=(b9 h.G h.Y.V.w:Nat):=n;rw[o]at d;rw[q]at f b;have:=i.sk j h.Y.V.w.toNat b (by rw[d,f,e]);omega
 rw[o]at p;have:=(r.m1 _ p).2.1;omega
def hJ(h:ab)(k:af)(j:cg):ab:={h with G:=k,o:=true,Y:=j}
def hE(h:ab)(k:af):ab:={h with G:=k,o:=false,Y:=⟨⟨0,0,[]⟩,0,0⟩}
theorem LD{h:ab}(a:h.o=true):mStep h=if over (eC h.G h.Y).2=true then hE h (eC h.G h.Y).1 else hJ h (eC h.G h.Y).1 (eC h.G h.Y).2:=by
 unfold mStep hE hJ;split
 ·rfl
 rw[a]
theorem wg{h h':ab}{E:List Int}(g:aX h E)(l:h'.O=h.O)(n:∀p,(ac (tbl h) p).j≠0->(ac (tbl h') p).j≠0/\(ac (tbl h') p).e=(ac (tbl h) p).e)(q:∀o∈h.O,∀f c,qL h o f c->cl h'.G f c=cl h.G f c):Kp h h':=λo e=>by
 rw[l]at e;refine⟨e,λj i r=>?_⟩;have b:=(cL g e (k:=j) ⟨i,ω⟩).1;have a:=At.mk' g.ker b;obtain⟨t,u⟩:=n _ b;have d:At h'.G (o.Addr+j) (cR h.G (o.Addr+j)) ((o.Addr+j) % 16).toNat:=⟨t,u.trans a.f,a.c⟩
 rw[d.cell,a.cell];exact q o e _ _ ⟨j,i,r,a⟩
theorem x9{h h':ab}(b:∀p,(ac (tbl h) p).j≠0->(ac (tbl h') p).j≠0/\(ac (tbl h') p).e=(ac (tbl h) p).e){o:bu}{f c:Nat}(d:qL h o f c):qL h' o f c:=by
 obtain⟨j,e,g,a⟩:=d;obtain⟨i,k⟩:=b _ a.m;exact⟨j,e,g,i,k.trans a.f,a.c⟩
theorem ta{k:af}{p m:Int}(b:(ac k.F.Q p).j≠0)(q:Int):ac (js k p m).F.Q q=if q=p then {ac k.F.Q p with j:=m} else ac k.F.Q q:=by
 obtain⟨c,d,g⟩:=kZ b;have f:(js k p m).F.Q.J.length=k.F.Q.J.length:=by unfold js;simp
 unfold ac;rw[f];by_cases e:0<=q/\q<k.F.Q.J.length
 ·rw[C9 e,C9 e]
  unfold js;simp only[bz];by_cases a:q=p
  ·rw[C9 a,C9 ⟨ω,ω⟩,C9 ⟨c,d⟩]
  rw[C8 a,C8 ω]
 rw[C8 e,C8 e,C8 ω]
theorem Hp{t:aH}{q:Nat}(h:(nth t.J q).j≠0):ac t (q:Int)=nth t.J q:=by
 have:=rZ h;unfold ac;rw[C9 ⟨ω,ω⟩];rfl
theorem CI.ended{h:ab}{k:af}{E:List Int}(l:aX h E)(n:CI h)(u:h.o=true)(r:h.Y.a=0)(g:∀f c,cl k f c=cl h.G f c)(i:∀p,(ac (tbl h) p).j≠0->(ac k.F.Q p).j≠0/\(ac k.F.Q p).e=(ac (tbl h) p).e)(h1:∀q:Nat,(nth k.F.Q.J q).j≠1):CI (hE h k)/\Kp h (hE h k):=by
 refine⟨⟨λf c a b=>?_,λe=>(by cases e),λe=>(by cases e),λe=>(by cases e),λe=>(by cases e),λq t=>absurd t (h1 q),λe=>(by cases e)⟩,wg l rfl i λo j f c _=>g f c⟩;change cl k f c≠0 at b;rw[g]at b;rcases n.z f c a b with⟨o,j,d⟩|⟨-,-,e⟩
 ·exact .inl ⟨o,j,x9 i d⟩
 rw[r]at e;cases e
theorem HA{p:bY}(h:eK p=true){i:Nat} : ∀{j:Nat},i<j->j<p.S.length->nth p.S i<nth p.S j
 | 0,a,_=>absurd a (Nat.not_lt_zero i)
 | j+1,a,d=>by
  have b:=h;unfold eK at b;simp only[I0]at b;have c:=dS b.1 d;unfold mu at c;rw[C0]at c;have f:nth p.S j<nth p.S (j+1):=c.2.2.resolve_left ω;by_cases e:i=j
  ·rw[e];exact f
  have:=HA h (i:=i) (j:=j) ω ω;omega
theorem r6(k:af)(a:Nat)(b v:Int)(f c:Nat):cl (setCell k a b v) f c=cl k f c\/(cl (setCell k a b v) f c=v/\f=a/\c=b.toNat):=by
 unfold cl setCell;simp only[bz];by_cases e:a=f/\f<k.F.W.S.length
 ·rw[C9 e,bz]
  by_cases d:b.toNat=c/\c<(nth k.F.W.S a).length
  ·rw[C9 d];exact .inr ⟨rfl,e.1.symm,d.1.symm⟩
  rw[C8 d,e.1];exact .inl rfl
 rw[C8 e];exact .inl rfl
theorem qK{k:af}(c:a7 k=true){p a v:Int}(e:(ac k.F.Q p).j≠0)(g:0<=a/\a<=15):cl (setCell k (b9 k p) a v) (b9 k p) a.toNat=v:=by
 have d:=(ge c e).1;have b:=(uo c (f:=b9 k p) d).1;unfold cl setCell;show nth (nth (List.set _ _ _) _) _=v;rw[bz];rw[C9 ⟨rfl,d⟩,bz,C9 ⟨rfl,by rw[b];omega⟩]
theorem Eo{h:ab}{p b v:Int}{j:cg}{o:bu}{f c:Nat}(d:qL h o f c):qL (hJ h (setCell h.G (b9 h.G p) b v) j) o f c:=by
 obtain⟨x,e,g,a⟩:=d;exact⟨x,e,g,⟨a.m,a.f,a.c⟩⟩
theorem HD{h:ab}{j:cg}(a:aX h [])(b:JI h)(q:CI h)(l:h.o=true)(r:JP h){d:Int}(n:d∈h.Y.V.S)(v:Int):Kp h (hJ h (setCell h.G (b9 h.G h.Y.V.a2) d v) j):=by
 obtain⟨k,t,e⟩:=aL n;have u:=fm (dh.1 (a.job l).1).1 t;refine wg a rfl (λp w=>⟨w,rfl⟩) λo y f c i=>?_
 rcases r6 h.G (b9 h.G h.Y.V.a2) d v f c with g|⟨-,A,B⟩
 ·exact g
 exfalso;refine sP a b q l (jF a y i) ω ?_ (by rw[A];exact r.kf);rw[B,Int.toNat_of_nonneg ω];exact n
theorem CI.copied{h:ab}(r:aX h [])(t:JI h)(b:CI h)(k:h.o=true)(n:JP h)(N:h.Y.b0=1)(O:0<=h.Y.a/\h.Y.a<h.Y.V.S.length):CI (hJ h (om h.G h.Y.V.w h.Y.V.a2 (nth h.Y.V.S h.Y.a.toNat)) {h.Y with a:=h.Y.a+1})/\Kp h (hJ h (om h.G h.Y.V.w h.Y.V.a2 (nth h.Y.V.S h.Y.a.toNat)) {h.Y with a:=h.Y.a+1}):=by
 have d:h.Y.a.toNat<h.Y.V.S.length:=ω
 have l:=am d;have u:=fm (dh.1 (r.job k).1).1 d;have i:h.Y.V.S.take (h.Y.a+1).toNat=h.Y.V.S.take h.Y.a.toNat++[nth h.Y.V.S h.Y.a.toNat]:=by
  rw[show(h.Y.a+1).toNat=h.Y.a.toNat+1 by omega,I5,ao d];rfl
 unfold om;have w:=qK r.ker (p:=h.Y.V.a2) (v:=nth (nth h.G.F.W.S (b9 h.G h.Y.V.w)) (nth h.Y.V.S h.Y.a.toNat).toNat) n.km u;have j:=r6 h.G (b9 h.G h.Y.V.a2) (nth h.Y.V.S h.Y.a.toNat) (nth (nth h.G.F.W.S (b9 h.G h.Y.V.w)) (nth h.Y.V.S h.Y.a.toNat).toNat);refine⟨⟨λf c y H=>?_,λ_ c a=>?_,λ_=>b.jd k,λ_=>b.jc k,λ_=>⟨λe=>absurd e (by show ¬h.Y.b0=0;omega),λe=>absurd e (by show ¬h.Y.b0=2;omega)⟩,λq J=>?_,λ_ _=>b.m2 k ω⟩,HD r t b k n l _⟩
 ·rcases j f c with g|⟨-,A,B⟩
  ·have C:cl h.G f c≠0:=by rw[<-g];exact H
   rcases b.z f c y C with⟨o,K,L⟩|⟨M,D,E⟩
   ·exact .inl ⟨o,K,Eo L⟩
   refine .inr ⟨rfl,D,?_⟩;show(c:Int)∈h.Y.V.S.take (h.Y.a+1).toNat;rw[i];exact Z2.2 (.inl E)
  refine .inr ⟨rfl,?_,?_⟩
  ·show(ac (tbl h) h.Y.V.a2).e=f;rw[A];exact n.kf
  show(c:Int)∈h.Y.V.S.take (h.Y.a+1).toNat;rw[i,B,Int.toNat_of_nonneg ω];exact Z2.2 (.inr (I1.2 rfl))
 ·change (c:Int)∈h.Y.V.S.take (h.Y.a+1).toNat at a
  show cl (setCell h.G (b9 h.G h.Y.V.a2) _ _) (b9 h.G h.Y.V.a2) c=cl (setCell h.G (b9 h.G h.Y.V.a2) _ _) (b9 h.G h.Y.V.w) c;have F:cl (setCell h.G (b9 h.G h.Y.V.a2) (nth h.Y.V.S h.Y.a.toNat) (nth (nth h.G.F.W.S (b9 h.G h.Y.V.w)) (nth h.Y.V.S h.Y.a.toNat).toNat)) (b9 h.G h.Y.V.w) c=cl h.G (b9 h.G h.Y.V.w) c:=by
   rcases j (b9 h.G h.Y.V.w) c with g|⟨-,A,-⟩
   ·exact g
   exact absurd A.symm n.ne
  rw[F];by_cases G:(c:Int)=nth h.Y.V.S h.Y.a.toNat
  ·have:c=(nth h.Y.V.S h.Y.a.toNat).toNat:=ω
   rw[this,w];rfl
  rw[i]at a;rcases Z2.1 a with a|a
  ·rcases j (b9 h.G h.Y.V.a2) c with g|⟨-,-,B⟩
   ·rw[g];exact b.jv k c a
   exact absurd (by rw[B,Int.toNat_of_nonneg ω]) G
  exact absurd (I1.1 a) G
 obtain⟨M,D,E⟩:=b.m1 q J;exact⟨rfl,D,E⟩
theorem CI.undone{h:ab}(y:aX h [])(A:JI h)(b:CI h)(r:h.o=true)(l:JP h)(p3:h.Y.b0=3)(hp:0<h.Y.a):CI (hJ h {h.G with F:=(fB h.G.F (h.Y.V.a2*16+nth h.Y.V.S (h.Y.a - 1).toNat) 0).1} {h.Y with a:=h.Y.a - 1})/\Kp h (hJ h {h.G with F:=(fB h.G.F (h.Y.V.a2*16+nth h.Y.V.S (h.Y.a - 1).toNat) 0).1} {h.Y with a:=h.Y.a - 1}):=by
 obtain⟨t,-,-,n0,n1⟩:=dh.1 (y.job r).1;have a:(h.Y.a - 1).toNat<h.Y.V.S.length:=ω
 have u:=am a;have B:=fm t a;have O:=(kZ l.km).1;have P:(h.Y.V.a2*16+nth h.Y.V.S (h.Y.a - 1).toNat) / 16=h.Y.V.a2:=ω
 have Q:(h.Y.V.a2*16+nth h.Y.V.S (h.Y.a - 1).toNat) % 16=nth h.Y.V.S (h.Y.a - 1).toNat:=ω
 have C:(ac h.G.F.Q h.Y.V.a2).j≠0:=l.km;have D:(ac h.G.F.Q h.Y.V.a2).j≠1:=l.k2 b;have R:({h.G with F:=(fB h.G.F (h.Y.V.a2*16+nth h.Y.V.S (h.Y.a - 1).toNat) 0).1} : af)=setCell h.G (b9 h.G h.Y.V.a2) (nth h.Y.V.S (h.Y.a - 1).toNat) 0:=by
  unfold fB;rw[P,Q,C8 C,C8 D]
  rfl
 rw[R];have n:=r6 h.G (b9 h.G h.Y.V.a2) (nth h.Y.V.S (h.Y.a - 1).toNat) 0;have w:h.Y.V.S.take h.Y.a.toNat=h.Y.V.S.take (h.Y.a - 1).toNat++[nth h.Y.V.S (h.Y.a - 1).toNat]:=by
  rw[show h.Y.a.toNat=(h.Y.a - 1).toNat+1 by omega,I5,ao a];rfl
 have E:nth h.Y.V.S (h.Y.a - 1).toNat∉h.Y.V.S.take (h.Y.a - 1).toNat:=λF=>by
  obtain⟨k,S,T⟩:=aL F;rw[U1]at S;have G:nth (h.Y.V.S.take (h.Y.a - 1).toNat) k=nth h.Y.V.S k:=by
   refine bm ?_;rw[List.getElem?_take,C9 ω];exact ao ω
  rw[G]at T;have:=HA t (i:=k) (j:=(h.Y.a - 1).toNat) ω a;omega
 refine⟨⟨λf c H J=>?_,λ_ c p=>?_,λ_=>b.jd r,λ_=>b.jc r,λ_=>⟨λe=>absurd e (by show ¬h.Y.b0=0;omega),λe=>absurd e (by show ¬h.Y.b0=2;omega)⟩,λq U=>?_,λ_ _=>b.m2 r ω⟩,HD y A b r l u _⟩
 ·rcases n f c with g|⟨V,-,-⟩
  ·have K:cl h.G f c≠0:=by rw[<-g];exact J
   rcases b.z f c H K with⟨o,W,X⟩|⟨Y,L,d⟩
   ·exact .inl ⟨o,W,Eo X⟩
   rw[w]at d;rcases Z2.1 d with d|d
   ·exact .inr ⟨rfl,L,d⟩
   exfalso;have ec:=I1.1 d;have M:f=b9 h.G h.Y.V.a2:=by have:=l.kf;omega
   refine J ?_;show cl (setCell h.G (b9 h.G h.Y.V.a2) _ 0) f c=0;rw[M,show c=(nth h.Y.V.S (h.Y.a - 1).toNat).toNat by omega];exact qK y.ker l.km B
  exact absurd V J
 ·change (c:Int)∈h.Y.V.S.take (h.Y.a - 1).toNat at p
  show cl (setCell h.G (b9 h.G h.Y.V.a2) _ 0) (b9 h.G h.Y.V.a2) c=cl (setCell h.G (b9 h.G h.Y.V.a2) _ 0) (b9 h.G h.Y.V.w) c;have N:cl (setCell h.G (b9 h.G h.Y.V.a2) (nth h.Y.V.S (h.Y.a - 1).toNat) 0) (b9 h.G h.Y.V.w) c=cl h.G (b9 h.G h.Y.V.w) c:=by
   rcases n (b9 h.G h.Y.V.w) c with g|⟨-,Z,-⟩
   ·exact g
   exact absurd Z.symm l.ne
  rw[N];rcases n (b9 h.G h.Y.V.a2) c with g|⟨-,-,g2⟩
  ·rw[g]
   exact b.jv r c (by rw[w];exact Z2.2 (.inl p))
  exact absurd (by rw[show nth h.Y.V.S (h.Y.a - 1).toNat=(c:Int) by omega];exact p) E
 obtain⟨Y,L,d⟩:=b.m1 q U;exact⟨rfl,L,d⟩
theorem CI.meshed{h:ab}(F:aX h [])(D:JI h)(G:CI h)(H:h.o=true)(d:JP h)(hn:h.Y.a=h.Y.V.S.length)(L:h.G.Calls≠100000)(R:(qH h.G h.Y.V.w h.Y.V.a2).2=true):CI (hE h (qH h.G h.Y.V.w h.Y.V.a2).1)/\Kp h (hE h (qH h.G h.Y.V.w h.Y.V.a2).1):=by
 have A:=DE F.ker (p:=h.Y.V.w) (o:=h.Y.V.a2) d.mm R;obtain⟨m1,m2,m3⟩:=kZ d.mm;obtain⟨k1,k2,k3⟩:=kZ d.km;have M:=(A 0).1;generalize N:(qH h.G h.Y.V.w h.Y.V.a2).1=K at *;have J:∀q:Int,ac K.F.Q q=if q=h.Y.V.w then⟨2,(ac (tbl h) h.Y.V.a2).e⟩ else ac (tbl h) q:=λq=>by
  unfold ac;rw[M];by_cases e:0<=q/\q<h.G.F.Q.J.length
  ·rw[C9 e,(A q.toNat).2]
   by_cases B:q=h.Y.V.w
   ·rw[C9 B,C9 ω,C9 ⟨k1,k2⟩];rfl
   rw[C8 B,C8 ω,C9 (show 0<=q/\q<(tbl h).J.length from e)];rfl
  rw[C8 e,C8 (show ¬q=h.Y.V.w by unfold tbl at m2;omega),C8 (show ¬(0<=q/\q<(tbl h).J.length) from e)]
 have l:∀f c,cl K f c=cl h.G f c\/(cl K f c=0/\f=b9 h.G h.Y.V.w):=λf c=>by
  unfold qH at N R;by_cases e:refd h.G=true
  ·rw[C9 e]at R;cases R
  rw[C8 e]at N;simp only at N;rw[<-N];rcases HL (tC (bZ h.G) h.Y.V.w.toNat ⟨2,(nth (bZ h.G).F.Q.J h.Y.V.a2.toNat).e⟩) (nth (bZ h.G).F.Q.J h.Y.V.w.toNat).e f c with g|⟨S,T,-⟩
  ·exact .inl g
  refine .inr ⟨S,?_⟩;rw[<-T];have h3:nth (bZ h.G).F.Q.J h.Y.V.w.toNat=ac h.G.F.Q h.Y.V.w:=m3.symm;rw[h3];rfl
 have n:h.Y.V.S.take h.Y.a.toNat=h.Y.V.S:=W6 ω;have O:∀p:Int,(ac (tbl h) p).j≠0->(ac (tbl h) p).e=(b9 h.G h.Y.V.w:Nat)->p=h.Y.V.w:=λp j C=>by
  obtain⟨p1,p2,p3⟩:=kZ j;have P:=d.mf;rw[p3]at j C;rw[m3]at P;have:=D.sm H p.toNat j (by rw[C,P]);omega
 have U:∀c,cl K (b9 h.G h.Y.V.a2) c=cl h.G (b9 h.G h.Y.V.a2) c:=λc=>by
  rcases l (b9 h.G h.Y.V.a2) c with g|⟨-,g⟩
  ·exact g
  exact absurd g d.ne
 have place:∀o∈h.O,∀x:Int,0<=x->x<o.q->∀f c:Nat,At h.G (o.Addr+x) f c->(f≠b9 h.G h.Y.V.w->At K (o.Addr+x) f c)/\(f=b9 h.G h.Y.V.w->At K (o.Addr+x) (b9 h.G h.Y.V.a2) c/\(c:Int)∈h.Y.V.S):=λo r x u w f c a=>by
  constructor
  ·intro hne
   have j:(o.Addr+x) / 16≠h.Y.V.w:=λe=>by
    have:=a.f;rw[e]at this;have h3:(ac h.G.F.Q h.Y.V.w).e=_:=d.mf;omega
   exact⟨by rw[J,C8 j];exact a.m,by rw[J,C8 j];exact a.f,a.c⟩
  intro he;have j:=O _ a.m (by rw[<-he];exact a.f);refine⟨⟨by rw[J,C9 j];show(2:Int)≠0;decide,by rw[J,C9 j];exact d.kf,a.c⟩,?_⟩;obtain⟨-,-,b,hb,-,V,-⟩:=D.sp H;have y:c<16:=by have:=a.c;omega
  obtain⟨e1,B,-⟩:=yD F (jF F r ⟨x,u,w,a⟩) hb (by rw[V];exact D.sm H) (by rw[V,he];exact d.mf);refine G.jc H b hb V c y ?_;rw[B];exact e1.2.2.2
 refine⟨⟨λf c y E=>?_,λe=>(by cases e),λe=>(by cases e),λe=>(by cases e),λe=>(by cases e),λq hq=>?_,λe=>(by cases e)⟩,λo r=>⟨r,λx u w=>?_⟩⟩
 ·change cl K f c≠0 at E
  rcases l f c with g|⟨g,-⟩
  rotate_left
  ·exact absurd g E
  rw[g]at E;have W:f≠b9 h.G h.Y.V.w:=λe=>by
   refine E ?_;rw[<-g,e];have X:a7 K=true:=by
    rw[<-N];exact M7 F.ker L d.mm d.km (Ne.symm d.pe)
   refine o9 X (λp j C=>?_) c;rw[J]at j C;by_cases B:p=h.Y.V.w
   ·rw[C9 B]at C
    have h1:(ac (tbl h) h.Y.V.a2).e=(b9 h.G h.Y.V.w:Nat):=C;have h2:=d.kf;exact d.ne ω
   rw[C8 B]at j C;exact B (O p j C)
  rcases G.z f c y E with⟨o,r,x,u,w,a⟩|⟨-,q2,q3⟩
  ·exact .inl ⟨o,r,x,u,w,(place o r x u w f c a).1 W⟩
  rw[n]at q3;have Q:f=b9 h.G h.Y.V.a2:=by have:=d.kf;omega
  rw[Q,G.jv H c (by rw[n];exact q3)]at E;rcases G.z _ c y E with⟨o,r,x,u,w,a⟩|⟨-,r2,-⟩
  ·exact .inl ⟨o,r,x,u,w,by rw[Q];exact((place o r x u w _ c a).2 rfl).1⟩
  exact absurd (by have:=d.kf;omega) d.ne
 ·have i:(nth K.F.Q.J q).j=1:=hq
  have:=Hp (t:=K.F.Q) (q:=q) (by rw[i];decide);rw[J]at this;by_cases e:(q:Int)=h.Y.V.w
  ·rw[C9 e]at this
   rw[<-this]at i;exact absurd i (by show ¬(2:Int)=1;decide)
  rw[C8 e]at this;rw[<-this]at i;obtain⟨a1,a2,a3⟩:=kZ (t:=tbl h) (p:=(q:Int)) (by rw[i];decide);rw[a3]at i;exact absurd (by have:=(G.m1 _ i).2.1;omega) e
 have Y:=(cL F r (k:=x) ⟨u,ω⟩).1;have a:=At.mk' F.ker Y;obtain⟨S,T⟩:=place o r x u w _ _ a;show eP K (o.Addr+x)=eP h.G (o.Addr+x);by_cases e:cR h.G (o.Addr+x)=b9 h.G h.Y.V.w
 ·obtain⟨Z,g4⟩:=T e
  rw[Z.cell,a.cell,U,e];exact G.jv H _ (by rw[n];exact g4)
 have Z:=S e;rw[Z.cell,a.cell];rcases l (cR h.G (o.Addr+x)) ((o.Addr+x) % 16).toNat with g|⟨-,g⟩
 ·exact g
 exact absurd g e
theorem CI.mStep{h:ab}(w:aX h [])(l:JI h)(a:CI h)(d:h.o=true):CI (mStep h)/\Kp h (mStep h):=by
 have C:=JP.of w l d;have Z:=l.ph d;obtain⟨jn0,jn2⟩:=a.jn d;obtain⟨-,-,-,n0,n1⟩:=dh.1 (w.job d).1;rw[LD d];have stay:∀(k:af)(j:cg),k.F=h.G.F->j.V=h.Y.V->j.a=h.Y.a->(j.b0=0↔h.Y.b0=0)->(j.b0=2->j.a=j.V.S.length)->CI (hJ h k j)/\Kp h (hJ h k j):=λk j M u N O e5=>by
  have J:tbl (hJ h k j)=tbl h:=by unfold tbl hJ;rw[M]
  have L:∀f c,cl k f c=cl h.G f c:=λf c=>by unfold cl;rw[M]
  have D:∀o f c,qL h o f c->qL (hJ h k j) o f c:=λo f c=>x9 (λp E=>by rw[J];exact⟨E,rfl⟩)
  refine⟨⟨λf c F K=>?_,λ_ c g=>?_,λ_=>?_,λ_=>?_,λ_=>⟨λe=>?_,e5⟩,λq i=>?_,λ_ e=>?_⟩,wg w rfl (λp E=>by rw[J];exact⟨E,rfl⟩) λo _ f c _=>L f c⟩
  ·change cl k f c≠0 at K
   rw[L]at K;rcases a.z f c F K with⟨o,P,Q⟩|⟨q1,R,G⟩
   ·exact .inl ⟨o,P,D o f c Q⟩
   refine .inr ⟨rfl,?_,?_⟩
   ·rw[J];show(ac (tbl h) j.V.a2).e=f;rw[u];exact R
   show(c:Int)∈j.V.S.take j.a.toNat;rw[u,N];exact G
  ·change (c:Int)∈j.V.S.take j.a.toNat at g
   show cl k (b9 k j.V.a2) c=cl k (b9 k j.V.w) c;rw[u,N]at g;rw[u,L,L];unfold b9;rw[M];exact a.jv d c g
  ·show ∀s∈h.K,s.R=j.V.a2->_
   rw[show(hJ h k j).Y.V=h.Y.V from u,u];exact a.jd d
  ·show ∀s∈h.K,s.R=j.V.w->_
   rw[show(hJ h k j).Y.V=h.Y.V from u,u];exact a.jc d
  ·exact(show j.a=h.Y.a from N).trans (jn0 (O.1 e))
  ·rw[J]at i
   obtain⟨q1,R,G⟩:=a.m1 q i;exact⟨rfl,by show(q:Int)=j.V.w;rw[u];exact R,λe=>G (O.1 e)⟩
  rw[J];show(ac (tbl h) j.V.w).j=1;rw[u];exact a.m2 d λx=>e (O.2 x)
 have prot:∀H:Int,H=1\/H=2->∀p,(ac (tbl h) p).j≠0->(ac (js (bZ h.G) h.Y.V.w H).F.Q p).j≠0/\(ac (js (bZ h.G) h.Y.V.w H).F.Q p).e=(ac (tbl h) p).e:=λH hmo p E=>by
  rw[ta (k:=bZ h.G) C.mm];by_cases e:p=h.Y.V.w
  ·rw[C9 e,e]
   exact⟨by show H≠0;omega,rfl⟩
  rw[C8 e];exact⟨E,rfl⟩
 unfold eC;by_cases b:jmay h.G h.Y=true;rotate_left
 ·rw[C8 b]
  rw[C8 (by rw[show over (h.G,h.Y).2=over h.Y from rfl,show over h.Y=false from T0 ω];decide)];exact stay h.G h.Y rfl rfl rfl Iff.rfl jn2
 rw[C9 b];unfold jstep;by_cases A:h.Y.b0=0
 ·rw[C9 A]
  have n:=jn0 A;simp only;unfold fe;by_cases B:refd h.G=true
  ·rw[C9 B]
   simp only[Bool.false_eq_true,if_false];rw[C9 (show over {h.Y with b0:=5} = true from O0 (.inr rfl))];refine CI.ended w a d n (λ_ _=>rfl) (λp E=>⟨E,rfl⟩) λq i=>(a.m1 q i).2.2 A
  rw[C8 B];simp only[if_true];rw[C8 (by rw[show over {h.Y with b0:=1} = false from T0 (by show ¬((1:Int)=4\/(1:Int)=5);decide)];decide)];have D:∀o f c,qL h o f c->qL (hJ h (js (bZ h.G) h.Y.V.w 1) {h.Y with b0:=1}) o f c:=λo f c=>x9 (prot 1 (.inl rfl))
  refine⟨⟨λf c F K=>?_,λ_ c g=>?_,λ_=>a.jd d,λ_=>a.jc d,λ_=>⟨λe=>absurd e (by show ¬(1:Int)=0;decide),λe=>absurd e (by show ¬(1:Int)=2;decide)⟩,λq i=>?_,λ_ _=>?_⟩,wg w rfl (prot 1 (.inl rfl)) λ_ _ _ _ _=>rfl⟩
  ·rcases a.z f c F K with⟨o,P,Q⟩|⟨-,-,G⟩
   ·exact .inl ⟨o,P,D o f c Q⟩
   rw[n]at G;cases G
  ·change (c:Int)∈h.Y.V.S.take h.Y.a.toNat at g
   rw[n]at g;cases g
  ·refine⟨rfl,?_,by show ¬(1:Int)=0;decide⟩
   show(q:Int)=h.Y.V.w;refine Classical.byContradiction λS=>?_
   have y:(nth (js (bZ h.G) h.Y.V.w 1).F.Q.J q).j=1:=i;have:=Hp (t:=(js (bZ h.G) h.Y.V.w 1).F.Q) (q:=q) (by rw[y];decide);rw[ta (k:=bZ h.G) C.mm,C8 S]at this;rw[<-this]at y;obtain⟨a1,a2,T⟩:=kZ (t:=tbl h) (p:=(q:Int)) (by show(ac h.G.F.Q q).j≠0;have:(ac h.G.F.Q q).j=1:=y;rw[this];decide);have r:(ac (tbl h) q).j=1:=y;rw[T]at r;exact(a.m1 _ r).2.2 A
  show(ac (js (bZ h.G) h.Y.V.w 1).F.Q h.Y.V.w).j=1;rw[ta (k:=bZ h.G) C.mm,C9 rfl]
 rw[C8 A];by_cases U:h.Y.b0=1
 ·rw[C9 U]
  by_cases V:h.Y.a=h.Y.V.S.length
  ·rw[C9 V]
   simp only;rw[C8 (by rw[show over {h.Y with b0:=2} = false from T0 (by show ¬((2:Int)=4\/(2:Int)=5);decide)];decide)];exact stay h.G {h.Y with b0:=2} rfl rfl rfl ⟨λe=>absurd e (by show ¬(2:Int)=0;decide),λe=>absurd e A⟩ λ_=>V
  rw[C8 V];simp only;rw[C8 (by rw[show over {h.Y with a:=h.Y.a+1} = false from T0 (by show ¬(h.Y.b0=4\/h.Y.b0=5);omega)];decide)];exact CI.copied w l a d C U ω
 rw[C8 U];by_cases W:h.Y.b0=2
 ·rw[C9 W]
  simp only;cases B:(qH h.G h.Y.V.w h.Y.V.a2).2 with
  | false=>
   simp only[Bool.false_eq_true,if_false];rw[C8 (by rw[show over {h.Y with b0:=3} = false from T0 (by show ¬((3:Int)=4\/(3:Int)=5);decide)];decide)];rw[Hv B];exact stay (bZ h.G) {h.Y with b0:=3} rfl rfl rfl ⟨λe=>absurd e (by show ¬(3:Int)=0;decide),λe=>absurd e A⟩ λe=>absurd e (by show ¬(3:Int)=2;decide)
  | true=>
   rw[C9 rfl];rw[C9 (show over {h.Y with b0:=4} = true from O0 (.inl rfl))];exact CI.meshed w l a d C (jn2 W) (by unfold jmay at b;simp only[I0,C0]at b;exact b.1.2) B
 rw[C8 W];have Y:h.Y.b0=3:=ω
 rw[C9 Y];by_cases X:0<h.Y.a
 ·rw[C9 X]
  simp only;rw[C8 (by rw[show over {h.Y with a:=h.Y.a - 1} = false from T0 (by show ¬(h.Y.b0=4\/h.Y.b0=5);omega)];decide)];exact CI.undone w l a d C Y X
 rw[C8 X];have n:h.Y.a=0:=ω
 simp only;unfold fe;by_cases B:refd h.G=true
 ·rw[C9 B]
  simp only[Bool.false_eq_true,if_false];rw[C8 (by rw[show over {h.Y with b0:=3} = false from T0 (by show ¬((3:Int)=4\/(3:Int)=5);decide)];decide)];exact stay (bZ h.G) {h.Y with b0:=3} rfl rfl rfl ⟨λe=>absurd e (by show ¬(3:Int)=0;decide),λe=>absurd e A⟩ λe=>absurd e (by show ¬(3:Int)=2;decide)
 rw[C8 B];simp only[if_true];rw[C9 (show over {h.Y with b0:=5} = true from O0 (.inr rfl))];refine CI.ended w a d n (λ_ _=>rfl) (prot 2 (.inr rfl)) λq i=>?_
 have:=Hp (t:=(js (bZ h.G) h.Y.V.w 2).F.Q) (q:=q) (by rw[i];decide);rw[ta (k:=bZ h.G) C.mm]at this;by_cases e:(q:Int)=h.Y.V.w
 ·rw[C9 e]at this
  rw[<-this]at i;exact absurd i (by show ¬(2:Int)=1;decide)
 rw[C8 e]at this;rw[<-this]at i;obtain⟨a1,a2,T⟩:=kZ (t:=tbl h) (p:=(q:Int)) (by have:(ac (tbl h) q).j=1:=i;rw[this];decide);have r:(ac (tbl h) q).j=1:=i;rw[T]at r;exact e (by have:=(a.m1 _ r).2.1;omega)
theorem Au{s:ax}{n c:Nat} : (c:Int)∈sI s n↔c<n/\rg s c=true:=by
 unfold sI;simp only[C4,I4,List.mem_range];constructor
 ·rintro⟨a,⟨b,d⟩,e⟩
  have:a=c:=ω
  subst this;exact⟨b,d⟩
 rintro⟨b,d⟩;exact⟨c,⟨b,d⟩,rfl⟩
theorem PY{a b:ax}(c:meshable a b=true){i:Int}(h:aS a.b2 i=true):aS b.b2 i=false:=by
 unfold meshable at c;simp only[I0,C0]at c;obtain⟨-,-,-,d⟩:=c;rw[<-C5];intro e;have f:=(ee _ _).1 h;have g:=(ee _ _).1 e;have:=W0 (λn=>Nat.testBit n i.toNat) d;simp only[Nat.testBit_and,Nat.zero_testBit]at this;rw[f.2.2.2,g.2.2.2]at this;cases this
theorem Hz{h:ab}{E:List Int}(a:aX h E){s u:ax}(b:s∈h.K)(c:u∈h.K)(e:s.R=u.R):s=u:=by
 obtain⟨i,d,rfl⟩:=aL b;obtain⟨j,g,rfl⟩:=aL c;rw[cJ (f:=(·.R)) a.L.nd d g e]
theorem CI.begun{h:ab}{E:List Int}(B:aX h E)(C:CI h)(D:h.o=false){a b:ax}(F:a∈h.K)(G:b∈h.K)(l:meshable a b=true)(sd:Int):CI {h with c0:=sd,o:=true,Y:=so (cT a b)}:=by
 have n:∃x∈h.K,∃y∈h.K,(cT a b).a2=x.R/\(cT a b).w=y.R/\(cT a b).S=sI y 16/\meshable x y=true:=by
  unfold cT;split
  ·exact⟨b,G,a,F,rfl,rfl,rfl,by rw[gW];exact l⟩
  exact⟨a,F,b,G,rfl,rfl,rfl,l⟩
 obtain⟨x,M,y,N,H,J,r,d⟩:=n;generalize cT a b=p at H J r;have ecl:x.d=y.d:=by
  unfold meshable at d;simp only[I0,C0]at d;exact d.2.1
 refine⟨λf c g O=>?_,λ_ c j=>absurd j (by show ¬(c:Int)∈p.S.take (0:Int).toNat;simp),λ_ s t n c g j=>?_,λ_ s t n c g u=>?_,λ_=>⟨λ_=>rfl,λe=>absurd e (by show ¬(0:Int)=2;decide)⟩,λq P=>?_,λ_ e=>absurd rfl e⟩
 ·rcases C.z f c g O with⟨o,Q,w⟩|⟨K,-⟩
  ·exact .inl ⟨o,Q,w⟩
  rw[D]at K;cases K
 ·have k:=Hz B t M (n.trans H)
  subst k;have i:(c:Int)∈p.S:=j;rw[r]at i;have A:=(Au.1 i).2;unfold rg at A;rw[<-ecl]at A;rw[gW]at d;exact PY d A
 ·have k:=Hz B t N (n.trans J)
  subst k;show(c:Int)∈p.S;rw[r];exact Au.2 ⟨g,u⟩
 have L:=(C.m1 q P).1;rw[D]at L;cases L
theorem CI.started{h:ab}(f:aX h [])(a:CI h)(j:h.o=false):CI (started h).1/\Kp h (started h).1:=by
 have g:=f.nums;unfold cj at g;rw[C0]at g;have d:=lE (bh h) (show 0<=h.c0/\h.c0<=1073741823 by omega);cases e:iZ (bh h) h.c0 with
 | nil=>
  have c:Ab.started h=({h with c0:=(shuf (bh h).length h.c0).2},false):=by unfold Ab.started;rw[e]
  rw[c];exact⟨⟨a.z,a.jv,a.jd,a.jc,a.jn,a.m1,a.m2⟩,CX h⟩
 | cons q n=>
  obtain⟨o,p,k⟩:=d q (by rw[e];exact V1 ..);have c:Ab.started h=({h with c0:=(shuf (bh h).length h.c0).2,o:=true,Y:=so (cT (nth (bh h) q.A.toNat) (nth (bh h) q.B.toNat))},true):=by unfold Ab.started;rw[e]
  rw[c];have b:∀s∈bh h,s∈h.K:=λs l=>mI h (z3 _) s (List.mem_of_mem_take l)
  exact⟨CI.begun f a j (b _ (am (xs:=bh h) (i:=q.A.toNat) ω)) (b _ (am (xs:=bh h) (i:=q.B.toNat) ω)) k _,CX h⟩
theorem Qh(k:af)(a:Int)(f c:Nat):∀m,cl (zK k a m) f c=cl k f c\/(cl (zK k a m) f c=0/\∃j:Nat,j<m/\f=cR k (a+j)/\c=((a+j) % 16).toNat)
 | 0=>.inl rfl
 | m+1=>by
  have e:cR (zK k a m) (a+m)=cR k (a+m):=by unfold cR;rw[(nk k a m).1]
  rcases qT (zK k a m) (a+m) 0 f c with g|⟨b,h,d⟩
  ·rcases Qh k a f c m with i|⟨b,j,h,d⟩
   ·exact .inl (g.trans i)
   exact .inr ⟨g.trans b,j,ω,d⟩
  exact .inr ⟨b,m,ω,by rw[<-e];exact h,d⟩
theorem EI{k:af}(h:a7 k=true){a:Int} : ∀{m:Nat},(∀j:Nat,j<m->(ac k.F.Q ((a+j) / 16)).j≠0)->∀j:Nat,j<m->cl (zK k a m) (cR k (a+j)) ((a+j) % 16).toNat=0
 | 0,_,_,c=>absurd c (Nat.not_lt_zero _)
 | m+1,d,j,c=>by
  have f:=MD h (a:=a) (m:=m) λj c=>d j ω
  have i:=(nk k a m).1;have e:∀b,cR (zK k a m) b=cR k b:=λb=>by unfold cR;rw[i]
  rcases qT (zK k a m) (a+m) 0 (cR k (a+j)) ((a+j) % 16).toNat with g|⟨l,-⟩
  ·by_cases n:j=m
   ·subst n
    have:=Ae f (a:=a+j) (v:=0) (by rw[i];exact d j ω);rw[e]at this;exact this
   exact g.trans (EI h (λj c=>d j ω) j ω)
  exact l
theorem Ad{h:ab}{E:List Int}(a:aX h E){o:bu}(e:o∈h.O){k:Nat}(b:k<h.M.length)(n:o.Addr=16*(nth h.M k).R):o.q=(nth h.M k).q:=by
 have f:=aP (a.L.lok _ (am b));rcases a.oow _ e with⟨s,g,c,-⟩|⟨l,d,p,i⟩
 ·exact absurd (show s.R=(nth h.M k).R+((0:Nat):Int) by have:=c.1;have:=c.2.1;omega) (a.L.dis s g _ (am b) 0 ω)
 obtain⟨m,j,rfl⟩:=aL d;have:=a.L.one m k j b 0 0 (by have:=aP (a.L.lok _ d);omega) ω ω;subst this;exact i.symm
theorem sj{α:Type}[Inhabited α]{xs:List α}{i:Nat}{y z:α}(c:i<xs.length):z∈xs.set i y↔z=y\/∃j,j<xs.length/\j≠i/\nth xs j=z:=by
 refine⟨dY,?_⟩
 rintro(rfl|⟨j,d,b,rfl⟩)
 ·have a:=am (xs:=xs.set i z) (i:=i) (by rw[O1];exact c)
  rw[bz,C9 ⟨rfl,c⟩]at a;exact a
 have a:=am (xs:=xs.set i y) (i:=j) (by rw[O1];exact d);rw[bz,C8 (λx=>b x.1.symm)]at a;exact a
theorem CI.trimH{h:ab}{i k:Nat}{size:Int}(l:aX h [])(hc:CI h)(V:i<h.O.length)(r:k<h.M.length)(W:(nth h.O i).Addr=16*(nth h.M k).R)(hz:9<=size/\size<=(nth h.M k).q):CI (trimH h i k size)/\∀o∈h.O,∀j:Int,0<=j->j<o.q->(o=nth h.O i->j<size)->eP (trimH h i k size).G (o.Addr+j)=eP h.G (o.Addr+j):=by
 obtain⟨b1,b2⟩:=tJ l r;have M:=l.L.lok _ (am r);have hlp:=aP M;have hsz:=Ad l (am V) r W;have h8:=M;unfold bJ at h8;rw[C0]at h8;have N:a7 (kx h k size)=true:=x7 l r hz (z3 _);have D:(kx h k size).F.Q=h.G.F.Q:=(nk h.G _ _).1;have hN:((dD (nth h.M k) size:Nat):Int)=(nth h.M k).a3 - (size+15) / 16:=by unfold dD;omega
 have hte:((tbl h).J.length:Int)=(h.G.F.Q.J.length:Int):=rfl;have kl:=KL.unmN N (p:=(nth h.M k).R+(size+15) / 16) ω (dD (nth h.M k) size) (by rw[D];omega);have ker:=iY N ((nth h.M k).R+(size+15) / 16) (dD (nth h.M k) size);have A:=(fS (kx h k size) ((nth h.M k).R+(size+15) / 16) (dD (nth h.M k) size)).1;have hcz:=Qh h.G (16*(nth h.M k).R+size);have hca:=EI l.ker (a:=16*(nth h.M k).R+size) (m:=(16*((size+15) / 16) - size).toNat) λj O=>jX l r ⟨ω,ω⟩
 have E:(Ab.trimH h i k size).G=unmN (kx h k size) ((nth h.M k).R+(size+15) / 16) (dD (nth h.M k) size):=rfl;have F:(Ab.trimH h i k size).O=h.O.set i {nth h.O i with q:=size}:=rfl;have P:(Ab.trimH h i k size).K=h.K:=rfl;have Q:(Ab.trimH h i k size).Y=h.Y:=rfl;have R:(Ab.trimH h i k size).o=h.o:=rfl;generalize Ab.trimH h i k size=h' at E F P Q R |-;have G:∀f c,cl (kx h k size) f c=cl h.G f c\/(cl (kx h k size) f c=0/\∃b:Int,16*(nth h.M k).R+size<=b/\b<16*((nth h.M k).R+(size+15) / 16)/\At h.G b f c):=λf c=>by
  rcases hcz f c (16*((size+15) / 16) - size).toNat with g|⟨g,j,w,B,j3⟩
  ·exact .inl g
  refine .inr ⟨g,16*(nth h.M k).R+size+j,ω,ω,?_⟩;have:=At.mk' l.ker (jX l r (a:=16*(nth h.M k).R+size+j) ⟨ω,ω⟩);rw[B,j3];exact this
 have hzv:∀(f c:Nat)(b:Int),16*(nth h.M k).R+size<=b->b<16*((nth h.M k).R+(size+15) / 16)->At h.G b f c->cl (kx h k size) f c=0:=λf c b H X d=>by
  have:=hca (b - (16*(nth h.M k).R+size)).toNat ω;rw[show 16*(nth h.M k).R+size+((b - (16*(nth h.M k).R+size)).toNat:Nat)=b by omega]at this;have e:=At.mk' l.ker d.m;obtain⟨u1,u2⟩:=e.uniq d;rw[u1,u2]at this;exact this
 have pout:∀q:Int,¬((nth h.M k).R+(size+15) / 16<=q/\q<(nth h.M k).R+(nth h.M k).a3)->ac h'.G.F.Q q=ac h.G.F.Q q:=λq Y=>by
  rw[E,kl.out q ω,D]
 rw[<-E]at kl ker A;generalize kx h k size=kz at *;have onL:∀b:Int,16*(nth h.M k).R<=b->b<16*((nth h.M k).R+(nth h.M k).a3)->∀f c:Nat,At h.G b f c->Mg h (nth h.O i).Addr f c:=λb H X f c d=>.inr ⟨_,am r,W,b,H,X,d⟩
 have only:∀o∈h.O,∀f c:Nat,qL h o f c->Mg h (nth h.O i).Addr f c->o=nth h.O i:=λo t f c H X=>by
  have e:=wj l (jF l t H) X;obtain⟨m,lm,rfl⟩:=aL t;rw[cJ (f:=(·.Addr)) (df l.osr) lm V e]
 have noS:∀s∈h.K,¬((nth h.M k).R<=s.R/\s.R<(nth h.M k).R+(nth h.M k).a3):=λs J hr=>l.L.dis s J _ (am r) (s.R - (nth h.M k).R).toNat ω ω
 have same:∀f c:Nat,cl h'.G f c≠0->cl h.G f c=cl h'.G f c:=λf c C=>by
  rcases kl.cel f c with e|e
  ·rcases G f c with g|⟨g,-⟩
   ·rw[e,g]
   exact absurd (e.trans g) C
  exact absurd e.1 C
 have stay:∀o∈h.O,∀j:Int,0<=j->j<o.q->(o=nth h.O i->j<size)->∀f c:Nat,At h.G (o.Addr+j) f c->At h'.G (o.Addr+j) f c/\cl h'.G f c=cl h.G f c:=λo t j w B O f c d=>by
  have y:qL h o f c:=⟨j,w,B,d⟩
  have n:ac h'.G.F.Q ((o.Addr+j) / 16)=ac h.G.F.Q ((o.Addr+j) / 16):=by
   refine pout _ λZ=>?_
   have e:=only o t f c y (onL _ ω ω f c d);have:=O e;rw[e,W]at Z;omega
  have u:At h'.G (o.Addr+j) f c:=⟨by rw[n];exact d.m,by rw[n];exact d.f,d.c⟩
  refine⟨u,?_⟩;rcases kl.cel f c with e|⟨-,e⟩
  ·rcases G f c with g|⟨-,b,g1,g2,S⟩
   ·rw[e,g]
   exfalso;have eo:=only o t f c y (onL b ω ω f c S);have hjs:=O eo;have Y:=lQ l (am r) (b:=b) ω ω S d.m d.f;have c1:=d.c;have c2:=S.c;rw[eo,W]at Y c1;omega
  exact absurd u.f (e _ u.m)
 refine⟨hc.keep Q R (λq Y=>?_) (λhm=>?_) (λf c _ C=>.inl (same f c C)) (λo t f c h16 y C=>?_) (λhm c _=>?_) (λ_ s' hs' _=>⟨s',by rw[<-P];exact hs',rfl,rfl,λ_ h=>h⟩),λo t j w B O=>?_⟩
 ·have hq':(nth h'.G.F.Q.J q).j=1:=Y
  have:=kl.md A q ω;rw[D]at this;show(nth h.G.F.Q.J q).j=1;rw[<-this];exact hq'
 ·obtain⟨-,⟨a,ha,T⟩,b,hb,eb⟩:=l.job hm
  exact⟨pout _ λZ=>noS a ha ω,pout _ λZ=>noS b hb ω⟩
 ·obtain⟨j,w,B,d⟩:=y
  by_cases e:o=nth h.O i/\size<=j
  ·exfalso
   obtain⟨e,ej⟩:=e;subst e;by_cases ej2:j<16*((size+15) / 16)
   ·have:=hzv f c ((nth h.O i).Addr+j) ω ω d
    rcases kl.cel f c with g|g
    ·exact C (g.trans this)
    exact C g.1
   refine C (o9 ker (λp K hf=>?_) c);by_cases er:(nth h.M k).R+(size+15) / 16<=p/\p<(nth h.M k).R+(nth h.M k).a3
   ·exact K (kl.ins p er.1 ω)
   rw[pout p er]at K hf;have:=lQ l (am r) (b:=(nth h.O i).Addr+j) ω ω d K hf;omega
  have st:=stay o t j w B (λU=>by have:¬size<=j:=λx=>e ⟨U,x⟩;omega) f c d;by_cases U:o=nth h.O i
  ·refine⟨{nth h.O i with q:=size},by rw[F];exact(sj V).2 (.inl rfl),j,w,?_,?_⟩
   ·have:¬size<=j:=λx=>e ⟨U,x⟩
    show j<size;omega
   have H:=st.1;rw[U]at H;exact H
  refine⟨o,?_,j,w,B,st.1⟩;rw[F];obtain⟨m,lm,rfl⟩:=aL t;exact(sj V).2 (.inr ⟨m,lm,λx=>U (by rw[x]),rfl⟩)
 ·have key:∀s∈h.K,cl h'.G (b9 h.G s.R) c=cl h.G (b9 h.G s.R) c:=λs J=>by
   have n:(ac (tbl h) s.R).j≠0:=by rw[l.pe J];exact(l.mapped J).2.2
   rcases kl.cel (b9 h.G s.R) c with e|⟨-,e⟩
   ·rcases G (b9 h.G s.R) c with g|⟨-,b,g1,g2,S⟩
    ·rw[e,g]
    have:=lQ l (am r) (b:=b) ω ω S (q:=s.R) n (lF l.ker n);exact absurd (show(nth h.M k).R<=s.R/\s.R<(nth h.M k).R+(nth h.M k).a3 by omega) (noS s J)
   have K:=pout s.R λZ=>noS s J ω
   refine absurd ?_ (e s.R (by rw[K];exact n));rw[K];exact lF l.ker n
  obtain⟨-,⟨a,ha,T⟩,b,hb,eb⟩:=l.job hm;rw[<-T,<-eb];exact⟨key a ha,key b hb⟩
 have d:=At.mk' l.ker (cL l t (k:=j) ⟨w,ω⟩).1;obtain⟨s1,s2⟩:=stay o t j w B O _ _ d;rw[s1.cell,d.cell,s2]
theorem Fr{α:Type}[Inhabited α](n j:Nat)(y:α):nth (List.replicate n y) j=y\/nth (List.replicate n y) j=default:=by
 by_cases h:j<n
 ·exact .inl (cN h)
 right
 unfold nth;rw[U2,O2 (by rw[V3];omega)];rfl
theorem CI.newHeap(p f t:Nat)(lim:Int)(a:List Int):CI (newHeap p f t lim a):=by
 refine⟨λg c b d=>absurd ?_ d,λe=>(by cases e),λe=>(by cases e),λe=>(by cases e),λe=>(by cases e),λq h=>absurd h ?_,λe=>(by cases e)⟩
 ·show nth (nth (List.replicate f (List.replicate 16 (0:Int))) g) c=0
  rcases Fr f g (List.replicate 16 (0:Int)) with e|e<;>rw[e]
  ·exact AD _ _
  rfl
 show ¬(nth (List.replicate p (⟨0,0⟩ : bi)) q).j=1;rcases Fr p q (⟨0,0⟩ : bi) with e|e<;>rw[e]
 ·decide
 decide
def ij(k:af)(o:bu):bD:=⟨o.Id,cellsOf k o.Addr o.q.toNat⟩
structure RS(w:bk):Prop where
 nx:w.b5.a=w.Z.a
 asc:w.b5.O.Pairwise λa b=>a.Id<b.Id
 mem:∀y,y∈w.b5.O↔∃o∈w.Z.O,y=ij w.Z.G o
theorem mw{k b:af}{a:Int}{n:Nat}(h:∀j:Int,0<=j->j<n->eP b (a+j)=eP k (a+j)):cellsOf b a n=cellsOf k a n:=by
 unfold cellsOf;refine List.map_congr_left λj c=>?_
 have:=List.mem_range.1 c;exact h j ω ω
theorem fT{k a:af}{o:bu}(h:∀j:Int,0<=j->j<o.q->eP a (o.Addr+j)=eP k (o.Addr+j)):ij a o=ij k o:=by
 unfold ij;rw[mw λj b c=>h j b ω]
theorem Qv{α:Type}[Inhabited α]{R:α->α->Prop}{xs:List α}(h:xs.Pairwise R){i j:Nat}(a:i<j)(b:j<xs.length):R (nth xs i) (nth xs j):=by
 have:=List.pairwise_iff_getElem.1 h i j ω b a;rw[show nth xs i=xs[i] from bm (C2 ω),show nth xs j=xs[j] from bm (C2 b)];exact this
theorem RS.at{w:bk}(b:RS w){o:bu}(c:o∈w.Z.O):∃j:Nat,j<w.b5.O.length/\oz w.b5 o.Id=(j:Nat)/\nth w.b5.O j=ij w.Z.G o:=by
 obtain⟨j,a,e⟩:=aL ((b.mem _).2 ⟨o,c,rfl⟩);refine⟨j,a,dE (ao a) (O0 (by rw[e];rfl)) λm z d f=>T0 ?_,e⟩;have g:=Qv b.asc d a;rw[bm f,e]at g;have h:(ij w.Z.G o).Id=o.Id:=rfl;omega
theorem RS.lt{w:bk}(a:RS w)(b:aX w.Z []):∀y∈w.b5.O,1<=y.Id/\y.Id<w.b5.a:=λy c=>by
 obtain⟨o,d,rfl⟩:=(a.mem y).1 c;have:=b.onu o d;rw[a.nx];show 1<=o.Id/\o.Id<w.Z.a;omega
theorem RS.keep{w:bk}(b:RS w){h':ab}(d:h'.O=w.Z.O)(c:Kp w.Z h')(e:h'.a=w.Z.a):RS ⟨h',w.b5⟩:=by
 refine⟨b.nx.trans e.symm,b.asc,λy=>(b.mem y).trans ?_⟩;show _↔∃o∈h'.O,y=ij h'.G o
 constructor
 ·rintro⟨o,f,rfl⟩
  have a:o∈h'.O:=by rw[d];exact f
  exact⟨o,a,(fT (c o a).2).symm⟩
 rintro⟨o,a,rfl⟩
 exact⟨o,(c o a).1,fT (c o a).2⟩
theorem RS.alloc{w:bk}(e:RS w)(i:aX w.Z []){h':ab}{x:bu}(d:Rc w.Z h' x)(k:x.Id=w.Z.a)(g:h'.a=w.Z.a+1)(l:1<=x.q/\x.q<=1000):RS ⟨h',jm w.b5 x.q⟩:=by
 unfold jm;rw[C9 l];have h:ij h'.G x = ⟨w.b5.a,List.replicate x.q.toNat 0⟩:=by
  unfold ij;rw[k,e.nx]
  congr 1
  refine List.eq_replicate_iff.2 ⟨gG ..,λb f=>?_⟩;unfold cellsOf at f;obtain⟨j,n,rfl⟩:=C4.1 f;have:=List.mem_range.1 n;exact d.ze j ω ω
 refine⟨by show w.b5.a+1=h'.a;rw[g,e.nx],?_,λy=>?_⟩
 ·refine List.pairwise_append.2 ⟨e.asc,List.pairwise_singleton _ _,λa p b f=>?_⟩
  rw[I1.1 f];exact(e.lt i a p).2
 show y∈w.b5.O++[_]↔∃o∈h'.O,y=ij h'.G o
 rw[Z2,I1,e.mem];constructor
 ·rintro(⟨o,c,rfl⟩|rfl)
  ·exact⟨o,(d.mem o).2 (.inr c),(fT (d.ke o c)).symm⟩
  exact⟨x,(d.mem x).2 (.inl rfl),h.symm⟩
 rintro⟨o,c,rfl⟩
 rcases(d.mem o).1 c with rfl|c
 ·exact .inr h
 exact .inl ⟨o,c,fT (d.ke o c)⟩
theorem RS.free{w:bk}(a:RS w)(p:aX w.Z []){i:Nat}(h:i<w.Z.O.length){h':ab}(k:h'.O=dele w.Z.O i)(l:Kp w.Z h')(r:h'.a=w.Z.a):RS ⟨h',jK w.b5 (nth w.Z.O i).Id⟩:=by
 obtain⟨j,t,u,n⟩:=a.at (am h);unfold jK;rw[u,C8 ω];simp only[W2];refine⟨a.nx.trans r.symm,a.asc.sublist (fR _ _),λy=>?_⟩;show y∈dele w.b5.O j↔∃o∈h'.O,y=ij h'.G o
 rw[cU];constructor
 ·rintro⟨m,c,A,rfl⟩
  obtain⟨o,d,e⟩:=(a.mem _).1 (am c);have b:o∈h'.O:=by
   rw[k];obtain⟨q,g,rfl⟩:=aL d;refine cU.2 ⟨q,g,λx=>A ?_,rfl⟩;subst x;exact cJ (f:=(·.Id)) (df a.asc) c t (by rw[e,n])
  exact⟨o,b,e.trans (fT (l o b).2).symm⟩
 rintro⟨o,b,rfl⟩
 obtain⟨d,B⟩:=l o b;rw[fT B];obtain⟨m,c,e⟩:=aL ((a.mem _).2 ⟨o,d,rfl⟩);refine⟨m,c,λx=>?_,e⟩;subst x;rw[k]at b;obtain⟨q,g,C,rfl⟩:=cU.1 b;exact C (cJ (f:=(·.Id)) p.oid g h (W0 bD.Id (e.symm.trans n)))
theorem RS.upd{w:bk}(d:RS w)(A:aX w.Z []){i:Nat}(B:i<w.Z.O.length){h':ab}{x':bu}(C:x'.Id=(nth w.Z.O i).Id)(k:∀o,o∈h'.O↔o=x'\/∃m,m<w.Z.O.length/\m≠i/\nth w.Z.O m=o)(t:∀m,m<w.Z.O.length->m≠i->ij h'.G (nth w.Z.O m)=ij w.Z.G (nth w.Z.O m))(D:h'.a=w.Z.a){j:Nat}(l:j<w.b5.O.length)(n:nth w.b5.O j=ij w.Z.G (nth w.Z.O i)):RS ⟨h',{w.b5 with O:=w.b5.O.set j (ij h'.G x')}⟩:=by
 refine⟨d.nx.trans D.symm,?_,λy=>?_⟩
 ·have u:(w.b5.O.map (·.Id)).Pairwise (λa b=>a<b):=List.pairwise_map.2 d.asc
  rw[<-k7 (f:=(·.Id)) (y:=ij h'.G x') l (by rw[n];exact C)]at u;exact List.pairwise_map.1 u
 show y∈w.b5.O.set j _↔∃o∈h'.O,y=ij h'.G o
 rw[sj l];constructor
 ·rintro(rfl|⟨m,h,p,rfl⟩)
  ·exact⟨x',(k x').2 (.inl rfl),rfl⟩
  obtain⟨o,r,e⟩:=(d.mem _).1 (am h);obtain⟨q,c,rfl⟩:=aL r;have g:q≠i:=λx=>p (by subst x;exact cJ (f:=(·.Id)) (df d.asc) h l (by rw[e,n]))
  exact⟨_,(k _).2 (.inr ⟨q,c,g,rfl⟩),e.trans (t q c g).symm⟩
 rintro⟨o,r,rfl⟩
 rcases(k o).1 r with rfl|⟨q,c,g,rfl⟩
 ·exact .inl rfl
 rw[t q c g];obtain⟨m,h,e⟩:=aL ((d.mem _).2 ⟨_,am c,rfl⟩);refine .inr ⟨m,h,λx=>g ?_,e⟩;subst x;exact cJ (f:=(·.Id)) A.oid c B (W0 bD.Id (e.symm.trans n))
theorem RS.store{w:bk}(l:RS w)(g:aX w.Z [])(h:JI w.Z)(n:CI w.Z){i:Nat}(a:i<w.Z.O.length){j v:Int}(p:0<=j/\j<=(nth w.Z.O i).q - 1)(r:0<=v/\v<=999)(t:(ac (tbl w.Z) (((nth w.Z.O i).Addr+j) / 16)).j≠1):RS ⟨{w.Z with G:=dI w.Z.G ((nth w.Z.O i).Addr+j) v},eH w.b5 (nth w.Z.O i).Id j v⟩:=by
 obtain⟨-,d⟩:=CI.store (v:=v) g h n a p t;obtain⟨b,u,A,k⟩:=l.at (am a);have B:(nth w.b5.O b).S.length=(nth w.Z.O i).q.toNat:=by rw[k];exact gG ..
 have C:eH w.b5 (nth w.Z.O i).Id j v = {w.b5 with O:=w.b5.O.set b ⟨(nth w.b5.O b).Id,(nth w.b5.O b).S.set j.toNat v⟩}:=by
  unfold eH;rw[A];simp only[W2];rw[C9 ⟨ω,ω,r⟩]
 have D:(⟨(nth w.b5.O b).Id,(nth w.b5.O b).S.set j.toNat v⟩ : bD)=ij (dI w.Z.G ((nth w.Z.O i).Addr+j) v) (nth w.Z.O i):=by
  rw[k];unfold ij;simp only
  congr 1
  refine List.ext_getElem (by simp[cellsOf]) λq K E=>?_
  rw[gG]at E;rw[List.getElem_set];simp only[cellsOf,List.getElem_map,List.getElem_range];have:=d _ (am a) q ω ω;rw[this];by_cases e:j.toNat=q
  ·rw[C9 e,C9 ⟨rfl,ω⟩]
  rw[C8 e,C8 (λx=>e ω)]
 rw[C,D];refine RS.upd l g a (h':={w.Z with G:=dI w.Z.G ((nth w.Z.O i).Addr+j) v}) rfl (λo=>?_) (λm c F=>?_) rfl u k
 ·show o∈w.Z.O↔_
  constructor
  ·intro G
   obtain⟨m,c,rfl⟩:=aL G;by_cases e:m=i
   ·subst e;exact .inl rfl
   exact .inr ⟨m,c,e,rfl⟩
  rintro(rfl|⟨m,c,-,rfl⟩)
  ·exact am a
  exact am c
 refine fT λx H J=>?_
 show eP (dI w.Z.G _ v) _=_;rw[d _ (am c) x H J,C8 (λy=>F (cJ (f:=(·.Addr)) (df g.osr) c a (by rw[y.1])))]
theorem D2(k:af)(a:Int){n m:Nat}(h:m<=n):(cellsOf k a n).take m=cellsOf k a m:=by
 unfold cellsOf;rw[<-v4,List.take_range,Nat.min_eq_left h]
theorem RS.trim{w:bk}(g:RS w)(d:aX w.Z [])(p:CI w.Z){i k:Nat}{size:Int}(a:i<w.Z.O.length)(h:k<w.Z.M.length)(l:(nth w.Z.O i).Addr=16*(nth w.Z.M k).R)(q:9<=size/\size<=(nth w.Z.M k).q):RS ⟨trimH w.Z i k size,fG w.b5 (nth w.Z.O i).Id size⟩:=by
 obtain⟨-,c⟩:=CI.trimH d p a h l q;have r:=Ad d (am a) h l;obtain⟨b,t,u,e⟩:=g.at (am a);have A:(nth w.b5.O b).S.length=(nth w.Z.O i).q.toNat:=by rw[e];exact gG ..
 have B:fG w.b5 (nth w.Z.O i).Id size = {w.b5 with O:=w.b5.O.set b ⟨(nth w.b5.O b).Id,(nth w.b5.O b).S.take size.toNat⟩}:=by
  unfold fG;rw[u];simp only[W2];rw[C9 ⟨ω,ω,ω⟩]
 have C:(⟨(nth w.b5.O b).Id,(nth w.b5.O b).S.take size.toNat⟩ : bD)=ij (trimH w.Z i k size).G {nth w.Z.O i with q:=size}:=by
  rw[e];unfold ij;simp only;rw[D2 _ _ ω]
  congr 1
  refine(mw λj D H=>?_).symm;exact c _ (am a) j D ω λ_=>ω
 rw[B,C];refine RS.upd g d a (h':=trimH w.Z i k size) (x':={nth w.Z.O i with q:=size}) rfl (λo=>sj a) (λm n E=>?_) rfl t e;refine fT λx F G=>c _ (am n) x F G λy=>absurd (cJ (f:=(·.Addr)) (df d.osr) n a (by rw[y])) E
theorem DQ(h:ab)(i:Nat)(a:Int):(freeS h i a).a=h.a:=by unfold freeS;split<;>rfl
theorem Le(t:Nat)(h:ab)(a:Int):(recyc t h a).a=h.a:=by
 unfold recyc;split
 ·rfl
 exact DQ h (ui h a) a
theorem tQ(t:Nat):∀(az:List Int)(h:ab),(recycs t h az).a=h.a
 | [],_=>rfl
 | a::az,h=>(tQ t az (recyc t h a)).trans (Le t h a)
theorem uq:∀(az:List Int)(h:ab),(freeAs h az).a=h.a
 | [],_=>rfl
 | a::az,h=>(uq az (freeA h a)).trans (DQ h (ui h a) a)
theorem AR(t:Nat)(h:ab):∀k,(flushN t h k).1.a=h.a/\(flushN t h k).1.O=h.O
 | 0=>⟨rfl,rfl⟩
 | k+1=>by
  obtain⟨a,b⟩:=AR t h k;exact⟨(uq _ _).trans a,(fV _ _).2.1.trans b⟩
theorem E1(h:ab)(t i:Nat):(FH h t i).a=h.a/\(FH h t i).O=dele h.O i:=⟨tQ _ _ _,(fo _ _ _).2.1⟩
theorem Hi(h:ab)(t i:Nat):(freeT h t i).1.a=h.a/\(((freeT h t i).2=0/\(freeT h t i).1.O=dele h.O i)\/((freeT h t i).2=5/\(freeT h t i).1=h)):=by
 unfold freeT
 repeat' split
 ·exact⟨rfl,.inl ⟨rfl,rfl⟩⟩
 ·exact⟨rfl,.inr ⟨rfl,rfl⟩⟩
 ·exact⟨(E1 h t i).1,.inl ⟨rfl,(E1 h t i).2⟩⟩
 ·exact⟨rfl,.inl ⟨rfl,rfl⟩⟩
 exact⟨rfl,.inr ⟨rfl,rfl⟩⟩
theorem Gr(h:ab):∀n,(stN h n).1.a=h.a/\(stN h n).1.O=h.O
 | 0=>⟨rfl,rfl⟩
 | n+1=>by
  obtain⟨a,b⟩:=Gr h n;unfold stN;split
  ·exact⟨a,b⟩
  exact⟨a,b⟩
theorem CI.stN{h:ab}(a:aX h [])(b:JI h)(c:CI h):∀n,CI (stN h n).1/\Kp h (stN h n).1
 | 0=>⟨c,CX h⟩
 | n+1=>by
  obtain⟨g,i⟩:=u5 a b n;obtain⟨d,f⟩:=CI.stN a b c n;unfold Ab.stN;split
  ·rename_i e
   unfold rT at e;rw[I0]at e;obtain⟨j,k⟩:=CI.mStep g i d e.1;exact⟨j,f.trans k⟩
  exact⟨d,f⟩
theorem n6(h:ab):(started h).1.a=h.a/\(started h).1.O=h.O:=by
 unfold started;split<;>exact⟨rfl,rfl⟩
structure CW(w:bk):Prop where
 ci:CI w.Z
 rs:RS w
theorem CW.keep{w:bk}(h:CW w){g:ab}(a:CI g/\Kp w.Z g)(b:g.O=w.Z.O)(c:g.a=w.Z.a):CW ⟨g,w.b5⟩:=⟨a.1,h.rs.keep b a.2 c⟩
theorem CW.obj{w:bk}{m:Nat}(h:rG w m)(c:CW w)(a:eI){i:Nat}(b:i<w.Z.O.length):CW (m6 w a i).1:=by
 unfold m6;split
 ·unfold pM
  split
  ·exact c
  split
  ·rename_i q
   unfold nl at q;have l:=CI.freeT (t:=a.a4.toNat) h.inv h.ji c.ci b ω;obtain⟨r,u⟩:=Hi w.Z a.a4.toNat i;refine⟨l.1,?_⟩;show RS ⟨(freeT w.Z a.a4.toNat i).1,if _ then _ else _⟩;rcases u with⟨f,d⟩|⟨f,d⟩
   ·rw[C9 f];exact c.rs.free h.inv b d l.2 r
   rw[C8 (by rw[f];decide),d];exact c.rs
  exact c
 split
 ·unfold mC
  split
  ·exact c
  rename_i g;split
  ·exact c
  rename_i n;split
  ·exact c
  rename_i j;have g:=Classical.not_not.1 g;have j:=Classical.not_not.1 j;exact⟨(CI.store h.inv h.ji c.ci b g n).1,RS.store c.rs h.inv h.ji c.ci b g j n⟩
 unfold pW;split
 ·rename_i e
  obtain⟨-,f,d⟩:=e;obtain⟨o,y,A⟩:=fJ _ _ f;have k:=of_decide_eq_true y;have p:=k.symm.trans (Int.mul_comm _ _);exact⟨(CI.trimH h.inv c.ci b o p d).1,RS.trim c.rs h.inv c.ci b o p d⟩
 exact c
theorem CW.thread{w:bk}{m:Nat}(h:rG w m)(c:CW w)(a:eI):CW ⟨(fI w.Z a).1,w.b5⟩:=by
 have b:=c.ci;unfold fI;split
 ·split
  ·exact CW.keep (g:={w.Z with y:=gf w.Z.y a.a4.toNat}) c ⟨⟨b.z,b.jv,b.jd,b.jc,b.jn,b.m1,b.m2⟩,CX w.Z⟩ rfl rfl
  exact c
 split
 ·exact c
 rename_i e;have e:=Classical.not_not.1 e;obtain⟨-,i⟩:=e;unfold nl at i;split
 ·exact c.keep (CI.collect (t:=a.a4.toNat) h.inv b ω) (fo _ _ _).2.1 (tQ _ _ _)
 have j:a.a4.toNat<w.Z.T.length:=ω
 have f:=CI.flushN h.inv j b (z3 4);have d:=AR a.a4.toNat w.Z 4;generalize flushN a.a4.toNat w.Z 4=r at f d |-;exact CW.keep (g:=r.1) c f d.2 d.1
theorem CW.act{w:bk}{m:Nat}(h:rG w m)(c:CW w)(a:eI):CW (lU w a).1:=by
 unfold lU;split
 ·have b:=CI.allocH (t:=a.a4) (size:=a.N) h.inv h.ji c.ci
  refine⟨b.ci,?_⟩;show RS ⟨(allocH w.Z a.a4 a.N).1,if _ then _ else _⟩;split
  ·rename_i e
   obtain⟨d,f,g,i,-⟩:=b.yes e;exact RS.alloc (x:=⟨w.Z.a,(allocH w.Z a.a4 a.N).2.1,a.N,a.a4⟩) c.rs h.inv d rfl f ⟨g,i⟩
  rename_i e;obtain⟨j,k,l,-⟩:=b.no e;exact c.rs.keep j k l
 split
 ·split
  ·exact c
  rename_i e;exact c.obj h a (fJ _ _ (by unfold qB at e;omega)).1
 split
 ·exact c.thread h a
 split
 ·unfold nw
  split
  ·rename_i e
   exact c.keep (CI.tick h.inv c.ci e.2.1.1 e.2.2) (fV _ _).2.1 (uq _ _)
  exact c
 split
 ·unfold np
  split
  ·exact c
  rename_i e;exact c.keep (CI.started h.inv c.ci (by simpa using e)) (n6 _).2 (n6 _).1
 split
 ·exact c.keep (CI.stN h.inv h.ji c.ci _) (Gr _ _).2 (Gr _ _).1
 exact c
theorem Km(c:cF):CW (world0 c):=⟨CI.newHeap ..,rfl,List.Pairwise.nil,λy=>⟨λh=>(by cases h),λ⟨_,h,_⟩=>(by cases h)⟩⟩
theorem Mc{c:cF}(h:EK c)(acts:List eI):∀n,CW (yH c acts n).1
 | 0=>Km c
 | n+1=>(Mc h acts n).act (uv h acts n) _
theorem EQ(zs:List Int):CW (drawn zs):=Mc (oG (U0 _)).1 _ _
def sm{α:Type}(f:α->Int):List α->Int
 | []=>0
 | a::l=>f a+sm f l
set_option maxHeartbeats 2000000
theorem cells1(xs:List Int)(i:Nat)(h:i<xs.length):[rI .X (nth xs i)]=((xs.map (rI .X)).take (i+1)).drop i:=by
 rw[List.drop_take,<-z4,iP h,show i+1 - i=1 by omega]
 rfl
theorem Bi(k:af)(j:cg)(c:a7 k=true)(D:ju j=true):ar Tryz.prog 293 false [.val (some 5) (af.enc .X k),.val (some 5) (cg.enc .X j)] (.tup [some 5,some 5]) (af.enc .own (eC k j).1++cg.enc .own (eC k j).2):=by
 obtain⟨F,Y,Z,Q,j6⟩:=dh.1 D;have R:=lD F;have y:=bp c;have g:=iw k y;have l:=td j (tL D);have b:=kI k y;rw[c,Bool.and_true]at b;have o:=xx j (tL D);rw[D]at o;have d:=fX k j.V.a2 y.1.2;have p:=fX k j.V.w y.1.2;have r:=dB k.F.Q j.V.a2 y.1.2;have t:=dB k.F.Q j.V.w y.1.2;have L:=(bv.1 (aB.1 c).2.2.1).2.2;have S:=(aU.1 (aB.1 c).2.1).2.2.1;have q:jmay k j=false->eC k j=(k,j):=λe=>by unfold eC;rw[e];rfl
 refine fO 149 [(1,262,[11,12,13,14,15,16,0,1,2,3,4,5,6,1003,1004,1005,7]),(2,6,[17,18,19,20,8,9]),(3,33,[21,22,23,24,25,26,27,28,29,30,31,32,33,34,35,36,37,38,39,40,41,42,43,44,45,46,47,48,49,50,51,52,53]),(4,258,[56,57,0,1,2,1001,3]),(15,272,[82,83,84,85,86,87,88,89,90,91,92,93,94,81,95,96,0,1,2,3,4,5,6,7,8,9,10,11,12,13,14,15,16,1015]),(25,273,[123,124,125,126,127,128,129,130,131,132,133,134,135,122,136,137,138,0,1,2,3,4,5,6,7,8,9,10,11,12,13,14,15,16,17,1015]),(29,258,[147,148,0,1,2,1001,3])] Tryz.func293 rfl ?_ (.inr (aI (Ca _) (cg.enc_fr _)));by_cases u:k.Calls=100000
 ·rw[T0 (λn=>n u)]at b
  rw[q (by rw[<-C5,gC];exact λh=>h.1.2 u)]
  repeat'(first|refine gO ?_|(conv=>whnf);first|refine CB ?_|refine C7 (g) ?_|refine C7 (l) ?_|refine C7 (b) ?_)
  rfl
 rw[O0 u]at b;by_cases B:(ac k.F.Q j.V.a2).j=0
 ·rw[T0 (λn=>n B)]at d
  rw[q (by rw[<-C5,gC];exact λh=>h.2.2.1 B)]
  repeat'(first|refine gO ?_|(conv=>whnf);first|refine CB ?_|refine C7 (g) ?_|refine C7 (l) ?_|refine C7 (b) ?_|refine C7 (o) ?_|refine C7 (d) ?_)
  rfl
 rw[O0 B]at d;by_cases w:(ac k.F.Q j.V.w).j=0
 ·rw[T0 (λn=>n w)]at p
  rw[q (by rw[<-C5,gC];exact λh=>h.2.2.2.1 w)]
  repeat'(first|refine gO ?_|(conv=>whnf);first|refine CB ?_|refine C7 (g) ?_|refine C7 (l) ?_|refine C7 (b) ?_|refine C7 (o) ?_|refine C7 (d) ?_|refine C7 (p) ?_)
  rfl
 rw[O0 w]at p;by_cases G:(ac k.F.Q j.V.a2).e=(ac k.F.Q j.V.w).e
 ·rw[q (by rw[<-C5,gC];exact λh=>h.2.2.2.2 G)]
  repeat'(first|refine gA ?_|(conv=>whnf);first|refine CB ?_|refine C7 (g) ?_|refine C7 (l) ?_|refine C7 (b) ?_|refine C7 (o) ?_|refine C7 (d) ?_|refine C7 (p) ?_|refine C7 (r) ?_|refine C7 (t) ?_)
  rfl
 have T:jmay k j=true:=gC.2 ⟨⟨c,u⟩,D,B,w,G⟩;rw[show eC k j=jstep k j by unfold eC;rw[T];rfl];have H:j.V.w≠j.V.a2:=λe=>G (by rw[e])
 unfold jstep;by_cases M:j.b0=0
 ·rw[C9 M]
  have a:=qD k j.V.w 1 c u w (.inl rfl);cases e:(fe k j.V.w 1).2<;>rw[e]at a
  all_goals
   repeat'(first|refine gA ?_|(conv=>whnf);first|refine CB ?_|refine C7 (g) ?_|refine C7 (l) ?_|refine C7 (b) ?_|refine C7 (o) ?_|refine C7 (d) ?_|refine C7 (p) ?_|refine C7 (r) ?_|refine C7 (t) ?_|refine C7 (a) ?_)
   rfl
 rw[C8 M];by_cases N:j.b0=1
 ·rw[C9 N]
  by_cases E:j.a=j.V.S.length
  ·rw[C9 E]
   repeat'(first|refine gA ?_|(conv=>whnf);first|refine CB ?_|refine C7 (g) ?_|refine C7 (l) ?_|refine C7 (b) ?_|refine C7 (o) ?_|refine C7 (d) ?_|refine C7 (p) ?_|refine C7 (r) ?_|refine C7 (t) ?_)
   rfl
  rw[C8 E];obtain⟨n,C⟩:=X2 Q;have a:=GO k j.V.w j.V.a2 (nth j.V.S j.a.toNat) c u w B (fm F ω);rw[C,W2]at a;have J:n<j.V.S.length:=ω
  rw[show nth j.V.S j.a.toNat=nth j.V.S n by rw[C];rfl]
  repeat'(first|refine gA ?_|(conv=>whnf);first|refine CB ?_|refine C7 (g) ?_|refine C7 (l) ?_|refine C7 (b) ?_|refine C7 (o) ?_|refine C7 (d) ?_|refine C7 (p) ?_|refine C7 (r) ?_|refine C7 (t) ?_|refine Sl.mid (rows':=[rI .X (nth j.V.S n)]) n (n+1) C ω ω (by rw[Z0];omega) (aO λ_=>rfl) (cells1 _ _ J) ?_|refine C7 (a) ?_)
  rfl
 rw[C8 N];by_cases O:j.b0=2
 ·rw[C9 O]
  have a:=Ff k j.V.w j.V.a2 c u w B H;cases e:(qH k j.V.w j.V.a2).2<;>rw[e]at a
  all_goals
   repeat'(first|refine gA ?_|(conv=>whnf);first|refine CB ?_|refine C7 (g) ?_|refine C7 (l) ?_|refine C7 (b) ?_|refine C7 (o) ?_|refine C7 (d) ?_|refine C7 (p) ?_|refine C7 (r) ?_|refine C7 (t) ?_|refine C7 (a) ?_)
   rfl
 rw[C8 O];by_cases K:j.b0=3
 ·rw[C9 K]
  obtain⟨p1,p2,p3,U,p5⟩:=bI c B;by_cases E:0<j.a
  ·rw[C9 E]
   have P:=fm F (i:=(j.a - 1).toNat) ω;have V:=ao (xs:=j.V.S) (i:=(j.a - 1).toNat) ω;have W:0<=j.V.a2*16+nth j.V.S (j.a - 1).toNat/\j.V.a2*16+nth j.V.S (j.a - 1).toNat<512:=ω
   have X:(j.V.a2*16+nth j.V.S (j.a - 1).toNat) / 16=j.V.a2:=ω
   have a:=Gy k.F (j.V.a2*16+nth j.V.S (j.a - 1).toNat) 0 (mA c) y.1 W ω (λ_=>by rw[X];exact⟨U,ω,row16 c (f:=b9 k j.V.a2) (by unfold b9;omega)⟩);generalize (fB k.F (j.V.a2*16+nth j.V.S (j.a - 1).toNat) 0).1=m at a |-;generalize (fB k.F (j.V.a2*16+nth j.V.S (j.a - 1).toNat) 0).2=e at a
   repeat'(first|refine gA ?_|(conv=>whnf);first|refine CB ?_|refine C7 (g) ?_|refine C7 (l) ?_|refine C7 (b) ?_|refine C7 (o) ?_|refine C7 (d) ?_|refine C7 (p) ?_|refine C7 (r) ?_|refine C7 (t) ?_|refine C7 (a) ?_|refine CL ω (aa V) ?_)
   rfl
  rw[C8 E];have a:=qD k j.V.w 2 c u w (.inr rfl);cases e:(fe k j.V.w 2).2<;>rw[e]at a
  all_goals
   repeat'(first|refine gA ?_|(conv=>whnf);first|refine CB ?_|refine C7 (g) ?_|refine C7 (l) ?_|refine C7 (b) ?_|refine C7 (o) ?_|refine C7 (d) ?_|refine C7 (p) ?_|refine C7 (r) ?_|refine C7 (t) ?_|refine C7 (a) ?_)
   first|rfl|(rw[<-K];rfl)
 rw[C8 K]
 repeat'(first|refine gA ?_|(conv=>whnf);first|refine CB ?_|refine C7 (g) ?_|refine C7 (l) ?_|refine C7 (b) ?_|refine C7 (o) ?_|refine C7 (d) ?_|refine C7 (p) ?_|refine C7 (r) ?_|refine C7 (t) ?_)
 rfl
def RZ(h:ab):Int:=(eC h.G h.Y).2.b0
theorem zd(h:ab)(l:aX h [])(n:h.o=true)(o:ab.sml h)(t:h.G.Calls<=99000):ar Tryz.prog 131 false [.val (some 24) (ab.enc .X h)] (.tup [some 24,none,none]) (ab.enc .own (mStep h)++[I (RZ h),B true]):=by
 obtain⟨q,-,-⟩:=l.job n;have i:=qm h o;have c:=iJ h o;rw[kS,l.to]at c;have j:=Bi h.G h.Y l.ker q;have a:=aI (b:=[I (RZ h),B true]) (ab.enc_fr (mStep h)) ⟨trivial,trivial,trivial⟩;unfold RZ mStep at a |-;generalize eC h.G h.Y=r at j a |-;have d:(ab.enc .X h)=(ab.enc .X h).set 18 (B true):=by rw[<-n];rfl
 rw[d];rw[d]at i c;by_cases e:r.2.b0=4
 ·rw[C9 (show over r.2=true from O0 (.inl e)),C9 (show over r.2=true from O0 (.inl e))]at a |-
  refine fO 51 [(3,260,[23,24,25,26,0,1,2,3,4,1001,1002,1003,5,6])] Tryz.func131 rfl ?_ (.inr a)
  repeat'((conv=>whnf);first|with_reducible (first|refine dF ω (λg=>?_)|refine eT ω (λg=>?_)|refine Bn ?_|refine iX.wk rfl ?_)|refine Bt ?_|refine Bu ?_|refine C7 (i) ?_|refine C7 (c) ?_|refine C7 (j) ?_)
  rw[e];exact wC
 by_cases k:r.2.b0=5
 ·rw[C9 (show over r.2=true from O0 (.inr k)),C9 (show over r.2=true from O0 (.inr k))]at a |-
  refine fO 51 [(3,260,[23,24,25,26,0,1,2,3,4,1001,1002,1003,5,6])] Tryz.func131 rfl ?_ (.inr a)
  repeat'((conv=>whnf);first|with_reducible (first|refine dF ω (λg=>?_)|refine eT ω (λg=>?_)|refine eF ω (λg=>?_)|refine Bn ?_|refine iX.wk rfl ?_)|refine Bt ?_|refine Bu ?_|refine C7 (i) ?_|refine C7 (c) ?_|refine C7 (j) ?_)
  rw[k];exact wC
 have p:¬over r.2=true:=by unfold over;simp[e,k]
 rw[C8 p,C8 p]at a |-;refine fO 51 [(3,260,[23,24,25,26,0,1,2,3,4,1001,1002,1003,5,6])] Tryz.func131 rfl ?_ (.inr a)
 repeat'(first|refine gA ?_|(conv=>whnf);first|refine C7 (i) ?_|refine C7 (c) ?_|refine C7 (j) ?_)
 rw[n]
 rfl
theorem Al{a:List Bool}{j:Nat}(d:nth a j=true):∀n,n<=a.length->oZ (a.set j false) n=oZ a n - (if j<n then 1 else 0)
 | 0,_=>by rw[C8 ω];rfl
 | n+1,h=>by
  have c:=Al d n ω;by_cases e:j=n
  ·subst e
   rw[xi (by rw[bz,C9 ⟨rfl,ω⟩]),uz d,c,C8 ω,C9 ω];omega
  have f:nth (a.set j false) n=nth a n:=by rw[bz,C8 (λx=>e x.1)]
  cases b:nth a n with
  | true=>
   rw[uz (f.trans b),uz b,c];split<;>split<;>omega
  | false=>
   rw[xi (f.trans b),xi b,c];split<;>split<;>omega
theorem Jx{k:af}(a:a7 k=true):jy k.F.W=oZ k.F.W.a5 k.F.W.a5.length:=by
 unfold jy;rw[C9 (aB.1 a).2.1]
theorem ye{h:ab}(w:aX h [])(b:JI h)(j:h.o=true):(eC h.G h.Y).1.F.W.a5=if qn h=true then h.G.F.W.a5.set (b9 h.G h.Y.V.w) false else h.G.F.W.a5:=by
 have c:=JP.of w b j;have D:=b.ph j;unfold qn eC;by_cases a:jmay h.G h.Y=true;rotate_left
 ·rw[C8 a,C8 (by simp only[C0];omega)]
 rw[C9 a];unfold jstep;by_cases y:h.Y.b0=0
 ·rw[C9 y]
  have l:decide ((if(fe h.G h.Y.V.w 1).2=true then(1:Int) else 5)=4)=false:=by split<;>decide
  show(fe h.G h.Y.V.w 1).1.F.W.a5=if decide ((if(fe h.G h.Y.V.w 1).2=true then(1:Int) else 5)=4)=true then _ else _
  rw[l,C8 (by decide)];unfold fe;split<;>rfl
 rw[C8 y];by_cases A:h.Y.b0=1
 ·rw[C9 A]
  split
  ·rw[C8 (by simp)]
  rw[C8 (by simp only[C0];omega)];rfl
 rw[C8 A];by_cases B:h.Y.b0=2
 ·rw[C9 B]
  simp only;have C:h.G.Calls≠100000:=by unfold jmay at a;simp only[I0,C0]at a;exact a.1.2
  cases d:(qH h.G h.Y.V.w h.Y.V.a2).2 with
  | false=>
   rw[C8 (by simp),Hv d];rfl
  | true=>
   rw[C9 (by simp)];have f:=DE w.ker (p:=h.Y.V.w) (o:=h.Y.V.a2) c.mm d;unfold qH at d |-;by_cases e:refd h.G=true
   ·rw[C9 e]at d;cases d
   rw[C8 e];simp only;obtain⟨L,M,E⟩:=kZ c.mm;obtain⟨N,O,G⟩:=kZ c.km;have H:(nth h.G.F.Q.J h.Y.V.w.toNat).e=(b9 h.G h.Y.V.w:Nat):=by
    rw[show nth h.G.F.Q.J h.Y.V.w.toNat=nth (tbl h).J h.Y.V.w.toNat from rfl,<-E];exact c.mf
   have J:(nth h.G.F.Q.J h.Y.V.a2.toNat).e=(b9 h.G h.Y.V.a2:Nat):=by
    rw[show nth h.G.F.Q.J h.Y.V.a2.toNat=nth (tbl h).J h.Y.V.a2.toNat from rfl,<-G];exact c.kf
   unfold fU;rw[C9 ?_]
   ·show h.G.F.W.a5.set _ false=_
    rw[H,W2]
   refine Classical.byContradiction λn=>?_
   obtain⟨q,P,r,g⟩:=dG.1 (Nat.pos_of_ne_zero n);have i:=(f q).2;unfold qH at i;rw[C8 e]at i;simp only at i;have t:∀(k:af)(F:Int),(fU k F).F.Q=k.F.Q:=λk F=>by unfold fU;split<;>rfl
   rw[t]at i;rw[i]at r g;by_cases u:(q:Int)=h.Y.V.w
   ·rw[C9 u]at g
    have Q:(nth h.G.F.Q.J h.Y.V.a2.toNat).e=(nth h.G.F.Q.J h.Y.V.w.toNat).e:=g;exact c.ne ω
   rw[C8 u]at r g;exact u (b.sm j q r g)
 rw[C8 B];have K:h.Y.b0=3:=ω
 rw[C9 K];split
 ·rw[C8 (by simp only[C0];omega)]
  simp only;unfold fB
  repeat' split
  all_goals rfl
 have l:decide ((if(fe h.G h.Y.V.w 2).2=true then(5:Int) else 3)=4)=false:=by split<;>decide
 show(fe h.G h.Y.V.w 2).1.F.W.a5=if decide ((if(fe h.G h.Y.V.w 2).2=true then(5:Int) else 3)=4)=true then _ else _
 rw[l,C8 (by decide)];unfold fe;split<;>rfl
theorem Gz{h:ab}(b:aX h [])(a:JI h)(c:h.o=true):jy (mStep h).G.F.W=jy h.G.F.W - ((qn h).toNat:Nat):=by
 obtain⟨d,-⟩:=b.mStep a c;have f:=JP.of b a c;rw[Jx d.ker,Jx b.ker];have e:=ye b a c;have g:(mStep h).G=(eC h.G h.Y).1:=rfl;rw[g,e];cases j:qn h with
 | false=>rw[C8 (by simp)];show _=_ - ((0:Nat):Int);omega
 | true=>
  obtain⟨k,i,-⟩:=ge b.ker (p:=h.Y.V.w) f.mm;obtain⟨-,l,n,-⟩:=aU.1 (aB.1 b.ker).2.1;rw[C9 rfl,O1,Al i _ (z3 _),C9 ω]
  rfl
structure MX(h g:ab)(n:Nat):Prop where
 inv:aX g []
 ji:JI g
 ci:CI g
 kp:Kp h g
 ob:g.O=h.O
 nx:g.a=h.a
 fr:g.u=h.u
 pg:eY g=eY h
 rf:g.G.a0=h.G.a0
 ca:g.T=h.T
 ml:g.y=h.y
 us:jy g.G.F.W=jy h.G.F.W - n
 ul:g.G.F.W.a5.length=h.G.F.W.a5.length
theorem MX.refl{h:ab}(b:aX h [])(a:JI h)(c:CI h):MX h h 0:=⟨b,a,c,CX h,rfl,rfl,rfl,rfl,rfl,rfl,rfl,ω,rfl⟩
theorem MX.trans{h h1 c:ab}{n m:Nat}(a:MX h h1 n)(b:MX h1 c m):MX h c (n+m):=
 ⟨b.inv,b.ji,b.ci,a.kp.trans b.kp,b.ob.trans a.ob,b.nx.trans a.nx,b.fr.trans a.fr,b.pg.trans a.pg,b.rf.trans a.rf,b.ca.trans a.ca,b.ml.trans a.ml,by rw[b.us,a.us];omega,b.ul.trans a.ul⟩
theorem MX.step{h:ab}(b:aX h [])(a:JI h)(d:CI h)(c:h.o=true):MX h (mStep h) (qn h).toNat:=by
 obtain⟨e,f⟩:=b.mStep a c;obtain⟨g,i⟩:=CI.mStep b a d c;have s:=JS.of b c;exact⟨e,f,g,i,rfl,rfl,rfl,s.len,s.calls.2.2,rfl,rfl,Gz b a c,by
   show(eC h.G h.Y).1.F.W.a5.length=_;rw[ye b a c];split<;>simp⟩
theorem D7(h:ab):(started h).1.G=h.G/\(started h).1.u=h.u/\(started h).1.T=h.T/\(started h).1.y=h.y:=by
 unfold started;split<;>exact⟨rfl,rfl,rfl,rfl⟩
theorem MX.started{h:ab}(b:aX h [])(d:CI h)(c:h.o=false):MX h (started h).1 0:=by
 obtain⟨e,f⟩:=wy b c;obtain⟨g,i⟩:=CI.started b d c;obtain⟨a,j,k,l⟩:=D7 h;exact⟨e,f,g,i,(n6 h).2,(n6 h).1,j,by unfold eY;rw[a],by rw[a],k,l,by rw[a];omega,by rw[a]⟩
theorem MX.meshSt{h:ab}(b:aX h [])(a:JI h)(c:CI h):MX h (meshSt h).1 0:=by
 unfold Ab.meshSt;split
 ·rename_i e;exact MX.started b c e.1
 exact MX.refl b a c
theorem FI{h g:ab}(b:Kp h g)(a:g.O=h.O){k:Nat}(c:k<h.O.length):io g k=io h k:=by
 unfold io;rw[a];have d:nth h.O k∈g.O:=by rw[a];exact am c
 exact mw λj e f=>(b _ d).2 j e ω
theorem Hc(h:ab)(t n:Int):cls (allocH h t n).1<=cls h+63:=by
 have a:cls h<=cls h+63:=ω
 unfold allocH;split
 ·exact a
 split
 ·exact a
 split
 ·exact a
 rename_i c;split
 ·exact a
 split
 ·have:=KO h t.toNat (aJ n).toNat
  split
  ·show cls (smallA h t.toNat (aJ n).toNat).1<=_;omega
  show cls (smallA h t.toNat (aJ n).toNat).1<=_;omega
 have d:(gM n:Int)<=63:=by unfold gM;omega
 unfold largeA;split
 ·exact a
 have b:=E5 h.G (au h.u (gM n:Nat)).2.1 (gM n);unfold cls;split
 ·exact X4 b ω
 exact X4 (Z4 (kQ _ _ _).1) (X4 b ω)
theorem Js{h:ab}(a:aX h [])(b:JI h):∀n:Nat,cls (stN h n).1<=cls h+n
 | 0=>by show cls h<=cls h+((0:Nat):Int);omega
 | n+1=>by
  obtain⟨c,f⟩:=u5 a b n;have d:=Js a b n;unfold stN;split
  ·rename_i e
   unfold rT at e;rw[I0,C0]at e;have:=(ru c e.1).2.1;unfold cls at d |-;simp only;omega
  omega
theorem KX{w:bk}{m:Nat}(h:rG w m)(a:eI):cls (lU w a).1.Z<=cls w.Z+63:=by
 have b:cls w.Z<=cls w.Z+63:=ω
 unfold lU;split
 ·exact Hc _ _ _
 split
 ·split
  ·exact b
  unfold m6;split
  ·unfold pM
   split
   ·exact b
   split
   ·exact X4 (Z4 (Ny _ _ _)) b
   exact b
  split
  ·unfold mC
   split
   ·exact b
   split
   ·exact b
   split<;>exact b
  unfold pW;split
  ·exact X4 (Z4 (((kQ _ _ _).1).trans (nk _ _ _).2.1)) b
  exact b
 split
 ·unfold fI
  split
  ·split<;>exact b
  split
  ·exact b
  split
  ·exact X4 (Z4 (fo _ _ _).2.2.1) b
  exact X4 (Z4 (zX _ _ _)) b
 split
 ·unfold nw
  split
  ·exact X4 (Z4 (fV _ _).2.2.1) b
  exact b
 split
 ·unfold np
  split
  ·exact b
  show cls (started w.Z).1<=_;unfold cls;rw[(pB h.inv).2.1];exact b
 split
 ·rename_i e
  have:=Js h.inv h.ji a.N.toNat;show cls (stN w.Z a.N.toNat).1<=_;omega
 exact b
theorem HG{c:cF}(h:EK c)(acts:List eI):∀n:Nat,cls (yH c acts n).1.Z<=63*n
 | 0=>by show(0:Int)<=63*((0:Nat):Int);decide
 | n+1=>by
  have a:=HG h acts n;have b:=KX (uv h acts n) (nth acts n);show cls (lU (yH c acts n).1 (nth acts n)).1.Z<=_;omega
theorem Kr(zs:List Int):(drawn zs).Z.G.Calls<=2520/\(drawn zs).Z.a<=41:=by
 have a:(rY zs).i<=zs.length:=U0 _;obtain⟨b,d⟩:=oG a;have g:=bF zs (ed zs) (n:=41) (by decide);obtain⟨e,-,-⟩:=oP (zs:=zs) (c:=ed zs) d (n:=(bt zs (ed zs) 41).1.toNat) ω;have f:=HG b (ll zs (ed zs)).1 (ll zs (ed zs)).1.length;have h:(ll zs (ed zs)).1.length<=40:=by
  show(lA zs (ed zs) _).1.length<=40;rw[e];omega
 have j:=(xP zs).ref.nx.2;have k:=(EQ zs).rs.nx;refine⟨?_,ω⟩;show cls (yH _ _ _).1.Z<=_;exact X4 f ω
section
variable{P:Program}{w0 w w1:World}{M S0 S:ah}{N:fC}{φ:Nat->ah}{F:Nat->AV}{a:Act}{TE:Nat->Option TI}
end
theorem KJ{w:World}{S Y:ah}{h:ab}{t:List C}{u:Nat->Value}(d:cV w S Y (ab.enc .own h++t) u):cV w S Y (qh h++t) u:=by
 obtain⟨f,b,e,g⟩:=d;refine⟨f,λj c a=>?_,e,g⟩;have i:qh h++t=(((ab.enc .own h++t).set 6 (oS h)).set 7 (oL h)).set 8 (oO h):=rfl;rw[i]at a;by_cases k:j=8
 ·subst k
  have:c=oO h:=by simpa[ab.enc] using a.symm
  rw[this];exact tN (b 8 _ rfl)
 by_cases l:j=7
 ·subst l
  have:c=oL h:=by simpa[ab.enc] using a.symm
  rw[this];exact tN (b 7 _ rfl)
 by_cases n:j=6
 ·subst n
  have:c=oS h:=by simpa[ab.enc] using a.symm
  rw[this];exact tN (b 6 _ rfl)
 rw[List.getElem?_set_ne ω,List.getElem?_set_ne ω,List.getElem?_set_ne ω]at a;exact b j c a
theorem ar.E{P:Program}{f:Nat}{sh:Bool}{A:List RA}{k:Kd}{h:ab}{t:List C}(c:ar P f sh A k (ab.enc .own h++t)):ar P f sh A k (qh h++t):=by
 obtain⟨a,b⟩:=c;refine⟨a,λw S d g i=>(b w S d g i).mono λe w1 j=>?_⟩;obtain⟨v,l,n,X,o,p,q,r,u,y⟩:=j;exact⟨v,l,n,X,o,p,q,r,u,KJ y⟩
theorem yR(h:ab)(z:Int)(n:Nat)(d:ab.sml h)(k:ab.wf h)(a:dy h=true)(g:n<h.O.length)(l:(nth h.O n).Id=z):ar Tryz.prog 39 false [.val (some 24) (ab.enc .X h),.val none [I z]] (.tup [none,none]) [.s .own ((io h n).map (rI .own)),B true]:=by
 have c:=oI h d k;rw[a]at c;have o:h.O.length<=1048576:=d.2.2.2.2.1.1;have q:=tP a g;have j:=zp h (nth h.O n) (rO a) ω ω;change ar _ _ _ _ _ (aD .own (io h n)) at j;refine fO 33 [] Tryz.func39 rfl ?_ (.inr ⟨⟨.inl λh=>(by cases h),bg _ _ λy _=>nY y⟩,trivial,trivial⟩)
 repeat'(first|(conv=>whnf);refine CB ?_)
 (conv=>whnf)
 refine CE (ι:=Nat) (λi=>[(1,.H .one [I (z)]),(2,.H .box (ab.enc .X h)),(6,.H .one [I ((i:Nat):Int)])]) (λi=>i<=n) (λi=>n - i) (0) ?_ (U0 _) λi r=>?_
 ·exact wC
 have b:=ao (xs:=h.O) (i:=i) ω;by_cases e:i=n
 ·subst e
  repeat'(first|refine gA ?_|(conv=>whnf);first|with_reducible refine CC (aa b) ?_|refine C7 (c) ?_|refine CG (j) ⟨ab.enc_fzi h,⟨rfl,rfl⟩,trivial⟩ ?_)
  rfl
 have p:(nth h.O i).Id≠z:=by
  rw[<-l];exact Mb a ω g e
 repeat'(first|refine gA ?_|(conv=>whnf);first|with_reducible refine CC (aa b) ?_|refine C7 (c) ?_)
 ((conv=>whnf);refine CD (i+1) ω ω ?_;(exact wC))
theorem FW(h:ab)(a:ab.sml h)(b:h.o=false):ar Tryz.prog 131 false [.val (some 24) (ab.enc .X h)] (.tup [some 24,none,none]) (qh h++[I h.Y.b0,B false]):=by
 have c:=rk h a;refine fO 51 [(3,260,[23,24,25,26,0,1,2,3,4,1001,1002,1003,5,6])] Tryz.func131 rfl ?_ (.inr (aI (nB _) ⟨trivial,trivial,trivial⟩))
 repeat'(first|refine gO ?_|(conv=>whnf);first|refine CB ?_|refine C7 (c) ?_|refine Bf.f b ?_)
 rfl
def stp1(h:ab):ab:=if h.o=true then mStep h else h
def DR(h:ab):Nat->ab
 | 0=>h
 | n+1=>stp1 (DR h n)
theorem Hx(h:ab)(d:aX h [])(b:ab.sml h)(e:h.G.Calls<=99000):ar Tryz.prog 44 false [.val (some 24) (ab.enc .X h)] (.tup [some 24,none]) (qh (stp1 h)++[B h.o]):=by
 unfold stp1;cases c:h.o with
 | true=>
  rw[C9 rfl];have a:=(zd h d c b e).E;generalize mStep h=g at a |-;refine fO 15 [] Tryz.func44 rfl ?_ (.inr (aI (nB _) ⟨trivial,trivial⟩))
  repeat'(first|refine gO ?_|(conv=>whnf);refine C7 (a) ?_)
  rfl
 | false=>
  rw[C8 (by simp)];have a:=FW h b c;refine fO 15 [] Tryz.func44 rfl ?_ (.inr (aI (nB _) ⟨trivial,trivial⟩))
  repeat'(first|refine gO ?_|(conv=>whnf);refine C7 (a) ?_)
  rfl
theorem J2{h:ab}(b:aX h [])(a:JI h)(d:CI h):∀k:Nat,∃n,MX h (DR h k) n/\(DR h k).G.Calls<=h.G.Calls+k
 | 0=>⟨0,MX.refl b a d,by show h.G.Calls<=h.G.Calls+((0:Nat):Int);omega⟩
 | k+1=>by
  obtain⟨n,s,c⟩:=J2 b a d k;unfold DR stp1;split
  ·rename_i e
   have:=(ru s.inv e).2.1;exact⟨_,s.trans (MX.step s.inv s.ji s.ci e),ω⟩
  exact⟨n,s,ω⟩
theorem MX.sml{h g:ab}{n:Nat}(s:MX h g n)(a:ib h.G.a0):ab.sml g/\ab.wf g:=⟨(s.inv.fit (by rw[s.rf];exact a) (jQ.of s.inv.mail).sml).sml,s.inv.wf (by rw[s.rf];exact a)⟩
def sM(zs:List Int):Nat->List Int × iL
 | 0=>([],rY zs)
 | n+1=>((sM zs n).1++[(bt zs (sM zs n).2 10000).1],(bt zs (sM zs n).2 10000).2)
theorem Dm(zs:List Int):∀n,(sM zs n).2.i<=zs.length/\(sM zs n).1.length=n/\∀x∈(sM zs n).1,0<=x/\x<10000
 | 0=>⟨U0 _,rfl,λx a=>by cases a⟩
 | n+1=>by
  obtain⟨b,c,d⟩:=Dm zs n;refine⟨bT b _,by show((sM zs n).1++[_]).length=_;rw[I3,c];rfl,λx a=>?_⟩;rcases Z2.1 a with a|a
  ·exact d x a
  rw[I1.1 a];exact bF zs (sM zs n).2 (n:=10000) (by decide)
theorem vJ(zs:List Int)(a:jB zs):ar Tryz.prog 17 false [.val none (Q1 zs)] .one (aD .own (sM zs 12).1):=by
 have b:=vr zs a;refine fP 19 [(58,[2,0]),(3000003,[])] [] Tryz.func17 rfl ?_ (.inr (bH _))
 repeat'(first|(conv=>whnf);refine Cl.g b (.inr rfl) ?_)
 (conv=>whnf)
 refine CE (ι:=Nat) (λi=>[(0,.H .one (Q1 zs)),(3,.H .box (iB zs (sM zs i).2)),(4,.H .one (aD .own (sM zs i).1)),(5,.H .one [I ((i:Nat):Int)])]) (λi=>i<=12) (λi=>12 - i) (0) ?_ (U0 _) λi j=>?_
 ·repeat'(first|exact trivial|rfl |refine CK ?_ ?_)
 obtain⟨d,k,-⟩:=Dm zs i;by_cases l:i<12
 ·have e:=bR zs (sM zs i).2 10000 a d (by decide)
  repeat'(first|refine gD ?_|(conv=>whnf);first|refine CJ (e) (.inl rfl) ?_|refine CT cn (λr h=>by rw[I1.1 h];rfl) (by simp[aY,eg]) (by simp;omega) (by simp only[Z0];exact yI (by simp;omega) (by decide)) rfl ?_)
  ((conv=>whnf);refine CD (i+1) ω ω ?_)
  repeat'(first|exact trivial|rfl |exact nR (W0 (C.s dQ.own) (by simp[sM,rI]))|refine CK ?_ ?_)
 obtain rfl:i=12:=ω
 repeat'(first|refine gD ?_|fail)
 rfl
theorem DN(a:List Int)(d:a.length<=1048576):ar Tryz.prog 40 false [.val none (aD .X a),.val none (aD .X a)] .one [B true]:=by
 refine fO 26 [(6,8,[17,18,19,20,21,22,23,24])] Tryz.func40 rfl ?_
 repeat'(first|refine gA ?_|fail)
 (conv=>whnf)
 refine CE (ι:=Nat) (λi=>[(0,.H .one (aD .X a)),(1,.H .one (aD .X a)),(5,.H .one [I ((i:Nat):Int)])]) (λi=>i<=a.length) (λi=>a.length - i) (0) ?_ (U0 _) λi e=>?_
 ·exact wC
 by_cases b:i<a.length
 ·have c:=ao b
  repeat'(first|refine gA ?_|(conv=>whnf);with_reducible refine CC (aa c) ?_)
  ((conv=>whnf);refine CD (i+1) ω ω ?_;(exact wC))
 repeat'(first|refine gD ?_|fail)
 rfl
theorem MeshSteps_law(zs:List Int)(S:zs.length<=9223372036854775807/\∀y∈zs,0<=y/\y<=255):ar Tryz.prog 11 false [.val none (Q1 zs)] .one [B true]:=by
 have j:=Q2 zs S.1;by_cases T:(zs.length:Int) > 1048576
 ·rw[O0 T]at j
  refine fO 97 [(16,269,[63,64,65,66,67,68,69,70,71,72,62,73,74,0,1,2,3,4,5,6,7,8,9,10,11,12,13,1012,14]),(17,268,[76,77,78,79,80,81,82,83,84,75,85,86,0,1,2,3,4,5,6,7,8,9,10,11,12,1011,13])] Tryz.func11 rfl ?_
  repeat'(first|refine gO ?_|(conv=>whnf);refine C7 (j) ?_)
  rfl
 rw[T0 T]at j;have U:jB zs:=⟨ω,S.2⟩
 have cD:=wv zs U;have cP:=vJ zs U;obtain⟨-,pl,pb⟩:=Dm zs 12;have l:=xP zs;have H:=EQ zs;have c:=FD zs;obtain⟨J,-⟩:=Kr zs;obtain⟨K,o⟩:=Kk zs;generalize drawn zs=w at *;generalize (sM zs 12).1=F at *;have d:=ao (xs:=F) (i:=0) ω;have L:=pb _ (am (xs:=F) (i:=0) ω);generalize nth F 0=p at *;have e:=l.inv;have V:=e.to;have hlo:=e.lens.objs;have q:=yq w.Z K;have g:=MX.meshSt e l.ji H.ci;obtain⟨fs0,-⟩:=g.sml c;have hk0:(meshSt w.Z).1.G.Calls<=2520:=by rw[(KD (e.fit c (jQ.of e.mail).sml) c (jQ.of e.mail).sml).2.1];exact J
 have c1s:=wY w.Z e K o;cases W:(meshSt w.Z).2 with
 | false=>
  rw[W]at q c1s;have Y:=iJ (meshSt w.Z).1 fs0;rw[kS,g.inv.to]at Y;generalize (meshSt w.Z).1=X at *;have a:=D8 X;refine fO 97 [(16,269,[63,64,65,66,67,68,69,70,71,72,62,73,74,0,1,2,3,4,5,6,7,8,9,10,11,12,13,1012,14]),(17,268,[76,77,78,79,80,81,82,83,84,75,85,86,0,1,2,3,4,5,6,7,8,9,10,11,12,1011,13])] Tryz.func11 rfl ?_
  repeat'(first|refine gO ?_|(conv=>whnf);first|refine C7 (j) ?_|refine C7 (cD) ?_|refine C7 (cP) ?_|refine CG (q) ⟨⟨rfl,ab.enc_fz _⟩,trivial⟩ ?_|refine CG (c1s) ⟨⟨rfl,ab.enc_fz _⟩,trivial⟩ ?_|refine CG (Y) ⟨⟨rfl,a⟩,trivial⟩ ?_)
  rfl
 | true=>
  rw[W]at q;have M:=J2 g.inv g.ji g.ci;have N:∀k,DR (meshSt w.Z).1 (k+1)=stp1 (DR (meshSt w.Z).1 k):=λ_=>rfl
  have r:(meshSt w.Z).1=DR (meshSt w.Z).1 0:=rfl;have t:ib (meshSt w.Z).1.G.a0:=by rw[g.rf];exact c
  have O:=g;rw[r]at q;generalize hG:DR (meshSt w.Z).1=G at *;clear r hG;have Z:=dK (y:=25) L.1;have hpm:=Int.emod_nonneg p (show(25:Int)≠0 by decide);have hpn:=Int.emod_lt_of_pos p (show(0:Int)<25 by decide);generalize p % 25=m at *;refine fO 97 [(16,269,[63,64,65,66,67,68,69,70,71,72,62,73,74,0,1,2,3,4,5,6,7,8,9,10,11,12,13,1012,14]),(17,268,[76,77,78,79,80,81,82,83,84,75,85,86,0,1,2,3,4,5,6,7,8,9,10,11,12,1011,13])] Tryz.func11 rfl ?_
  repeat'(first|refine gO ?_|(conv=>whnf);first|refine C7 (j) ?_|refine C7 (cD) ?_|refine C7 (cP) ?_|refine CG (q) ⟨⟨rfl,ab.enc_fz _⟩,trivial⟩ ?_)
  (conv=>whnf)
  refine CE (ι:=Nat) (λi=>[(3,.H .box (bk.enc .own w)),(4,.H .one (aD .own F)),(5,.H .box (qh (G i))),(9,.H .one [I ((i:Nat):Int)])]) (λi=>i<=m.toNat) (λi=>m.toNat - i) (0) ?_ (U0 _) λi e=>?_
  ·exact wC
  obtain⟨n,s,sc⟩:=M i;obtain⟨P,fw⟩:=s.sml t;by_cases li:(i:Int)<m
  ·have Q:=Hx (G i) s.inv P ω
   rw[<-N i]at Q;have a:=D8 (G i);generalize (G i).o=b at Q
   repeat'(first|refine gD ?_|(conv=>whnf);first|refine CC (aa d) ?_|refine CH rfl (aa d) rfl ?_|refine CN ω ?_|refine CQ Z ?_|refine CG (Q) ⟨⟨rfl,a⟩,trivial⟩ ?_)
   ((conv=>whnf);refine CD (i+1) ω ω ?_;(exact wC))
  have h:=O.trans s;have c4:=iJ (G i) P;rw[kS,h.inv.to]at c4;have u:=h.inv.to;have a:=D8 (G i);generalize G i=X at *
  repeat'(first|refine gD ?_|(conv=>whnf);first|refine CC (aa d) ?_|refine CH rfl (aa d) rfl ?_|refine CN ω ?_|refine CQ Z ?_)
  (conv=>whnf)
  refine CE (ι:=Nat) (λk=>[(3,.H .box (bk.enc .own w)),(5,.H .box (qh X)),(10,.H .one [I ((k:Nat):Int)])]) (λk=>k<=w.Z.O.length) (λk=>w.Z.O.length - k) (0) ?_ (U0 _) λk hk=>?_
  ·exact wC
  by_cases C:k<w.Z.O.length
  ·have hx:=ao C
   have c5:=yR w.Z (nth w.Z.O k).Id k K o V C rfl;have D:k<X.O.length:=by rw[h.ob];exact C
   have R:(nth X.O k).Id=(nth w.Z.O k).Id:=by rw[h.ob]
   have c6:=DT X (nth w.Z.O k).Id k P u D ((Qx u D).1 R);rw[FI h.kp h.ob C]at c6;have hol:=Dy V C;have c7:=DN (io w.Z k) ω;generalize io w.Z k=cs at *;have E:=dX cs
   repeat'(first|refine gD ?_|(conv=>whnf);first|with_reducible refine CC (aa hx) ?_|refine CB ?_|refine CH rfl (aa hx) rfl ?_|refine CG (c5) ⟨⟨rfl,ab.enc_fz _⟩,⟨rfl,rfl⟩,trivial⟩ ?_|refine CG (c6) ⟨⟨rfl,a⟩,⟨rfl,rfl⟩,trivial⟩ ?_|refine CG (c7) ⟨⟨rfl,E⟩,⟨rfl,E⟩,trivial⟩ ?_)
   ((conv=>whnf);refine CD (k+1) ω ω ?_;(exact wC))
  obtain rfl:k=w.Z.O.length:=ω
  repeat'(first|refine gD ?_|(conv=>whnf);refine CG (c4) ⟨⟨rfl,a⟩,trivial⟩ ?_)
  rfl
open Go.RowKit Go.ChangeShapes Go.WideShapes Go.Deep
def ALL(w:World):ah:=λb _=>b<w.heap.size
def RF{H:Type}(e:TypeId × Value->H)(P:Program)(w:World)(t n:Nat){α:Type}(enc:α->List C)(c:α->Prop):Prop:=
 ∀(fuel:Nat)(b:List Value)(x:DataW H × List MemPlace),DataW.trod e P w 0 (λ_=>true) true fuel t b=some x->b.length=n/\∃a,c a/\(enc a).length=n/\cV w (ALL w) NO (enc a) (λj=>b.getD j undef)
section
variable{H:Type}{e:TypeId × Value->H}{P:Program}{w:World}
theorem Dp{S F:ah}{c:C}{u:Nat->Value}(h:eX w S F c (u 0)):cV w S F [c] u:=
 ⟨λ_=>F,λj e a=>by cases j with
   | zero=>simp at a;subst a;exact h
   | succ j=>simp at a,λ_ _ _ _ h=>h,λj f a b d=>by simp at a b;omega⟩
theorem pick{α β:Type}(n:Nat){Q:Nat->β->Prop}(h:∀i,i<n->∃b,Q i b):∃l:List β,l.length=n/\∀i b,l[i]? = some b->Q i b:=by
 induction n with
 | zero=>exact⟨[],rfl,λi b h=>by simp at h⟩
 | succ n c=>
  obtain⟨l,d,e⟩:=c λi a=>h i ω
  obtain⟨b,f⟩:=h n ω;refine⟨l++[b],by simp[d],λi g a=>?_⟩;by_cases j:i<n
  ·rw[O4 ω]at a;exact e i g a
  rw[T4 ω]at a;have:i - l.length=0:=by
   have:=(I2.1 a).1;simp at this;omega
  rw[this]at a;simp at a;subst a;rw[show i=n by omega];exact f
theorem M1{t T n:Nat}{α:Type}{enc:α->List C}{U:α->Prop}(V:RF e P w T n enc U)(ht:P.underlying t=some (.slice T))(hn:P.cellsOf T=n)(p:0<n) :
  RF e P w t 1 (λxs:List α=>[.s .X (xs.map enc)]) (λxs=>xs.length<=9223372036854775807/\∀y∈xs,U y):=by
 intro fuel cs x h;rcases open_slice ht h with⟨rfl,-⟩|⟨k,len,cap,m,n',D,Pl,rfl,-,hl,hm,K,-,u⟩
 ·exact⟨rfl,[],⟨by simp,by simp⟩,rfl,Dp (.nil _ _ _ trivial)⟩
 simp only[if_true]at K;subst K;have L:0<m->k.spot=none:=λW=>by
  obtain⟨E,M,N⟩:=u 0 W;rw[hn]at M;obtain⟨_,X,F⟩:=World.cells?_some M;have:=F 0 p;rw[C2 ω]at this;have:=World.cell?_spot this;simpa[Addr.add] using this
 have key:∀i,i<len->∃a,U a/\(enc a).length=n/\(∀d,d<n->∃z,cel w k.block (k.off+(i*n+d))=some z)/\k.spot=none/\cV w (ALL w) NO (enc a) (λd=>(cel w k.block (k.off+(i*n+d))).getD undef):=λi hil=>by
  have g:=L ω;obtain⟨E,M,N⟩:=u i ω;rw[hn]at M;obtain⟨h1,a,h3,h4,h5⟩:=V _ _ _ N;obtain⟨_,X,F⟩:=World.cells?_some M;have O:∀d,k.add d = ⟨k.block,k.off+d,none⟩:=λd=>by
   obtain⟨b,o,sp⟩:=k;simp only at g;subst g;unfold Addr.add;split<;>simp_all
  have A:∀d,d<n->cel w k.block (k.off+(i*n+d))=E[d]?:=λd J=>by
   have:=F d J;rw[Go.Deep.add_add,O]at this;exact this
  refine⟨a,h3,h4,λd J=>⟨_,by rw[A d J,C2 ω]⟩,g,h5.congr λd J=>?_⟩;show(cel w k.block (k.off+(i*n+d))).getD undef=E.getD d undef;rw[A d ω,List.getD]
 obtain⟨l,Q,B⟩:=pick (α:=α) len key;refine⟨rfl,l,⟨by simp only[maxLen]at hm;omega,λy R=>?_⟩,rfl,Dp ?_⟩
 ·obtain⟨i,G⟩:=List.mem_iff_getElem?.1 R
  exact(B i y G).1
 show eX w (ALL w) NO (.s .X (l.map enc)) (.slice (some k) len m);by_cases h0:len=0
 ·subst h0
  have:l=[]:=Y6 Q;subst this;by_cases Y:m=0
  ·subst Y;exact .nil _ _ _ trivial
  have g:=L ω;obtain⟨b,o,sp⟩:=k;simp only at g;subst g;exact .X _ b o n 0 m [] (λ_=>undef) rfl (λr Z=>by simp at Z) hl (λq hq=>by simp at hq) (λi j r c u=>by simp at u)
 obtain⟨y0,hy0⟩ : ∃y,l[0]? = some y:=⟨_,C2 ω⟩
 have g:=(B 0 y0 hy0).2.2.2.1;obtain⟨b,o,sp⟩:=k;simp only at g;subst g;refine .X _ b o n len m (l.map enc) (λq=>(cel w b (o+q)).getD undef) (by simpa using Q) (λr Z=>?_) hl (λq hq=>?_) (λi j r c u hj=>?_)
 ·obtain⟨y,R,rfl⟩:=C4.1 Z
  obtain⟨i,G⟩:=List.mem_iff_getElem?.1 R;exact(B i y G).2.1
 ·have hqd:q / n<len:=(Nat.div_lt_iff_lt_mul p).2 hq
  obtain⟨y,R⟩ : ∃y,l[q / n]? = some y:=⟨_,C2 ω⟩
  obtain⟨z,S⟩:=(B _ y R).2.2.1 (q % n) (Nat.mod_lt _ p);have J:q / n*n+q % n=q:=by rw[Nat.mul_comm];exact Nat.div_add_mod q n
  rw[J]at S;exact⟨QW S,by simp only at S |-;rw[S];rfl⟩
 rw[C3]at u;cases H:l[i]? with
 | none=>rw[H]at u;cases u
 | some y=>
  rw[H]at u;simp only[v5,X0]at u;subst u;obtain⟨f,h1,h2,-⟩:=(B i y H).2.2.2.2;have hjl:=(I2.1 hj).1;exact(h1 j c hj).mono (λ_ _ h=>h) (h2 j hjl)
theorem row_val{S F:ah}{x:Value}{u:Nat->Value}(h:cV w S F [.v x] u):u 0=x:=by
 obtain⟨f,a,-⟩:=h;have:=a 0 _ rfl;cases this
 rfl
end
open Go.RowKit Go.ChangeShapes Go.WideShapes
section
variable{H:Type}{e:TypeId × Value->H}{P:Program}{w:World}
theorem PR{t:Nat}(b:P.underlying t=some (.int .u8)):RF e P w t 1 rU (λz=>0<=z/\z<=255):=by
 intro fuel c x h;obtain⟨n,rfl,-,a⟩:=DataW.trod_int b h;refine⟨rfl,n,?_,rfl,Dp (.v _ _ rfl)⟩;simp only[Lit.wf,I0,C0]at a;exact a
theorem op_ByteS:RF e Tryz.prog w 22 1 (λzs:List Int=>[.s .X (zs.map rU)]) (λzs=>zs.length<=9223372036854775807/\∀y∈zs,0<=y/\y<=255):=M1 (PR Tryz.underlying5) Tryz.underlying22 (by kernel_rfl) (by decide)
end
end Go.Proofs.YtecefhjnejfheaaGreat.Ab
