/- A run, and the world that is drawn out of bytes: the reference's. No condition. -/
import Derived.Test.YtecefhjnejfheaaGreatKod
import Derived.Test.YtecefhjnejfheaaGreatKoh
import Derived.Test.YtecefhjnejfheaaGreatKoe
import Derived.Laws.StructEq
import Derived.Test.YtecefhjnejfheaaGreatKog
import Derived.Test.YtecefhjnejfheaaGreatKof
import Derived.ProofKit
import Derived.OpenShut
import Derived.Deep.Slices
import Derived.Deep.Fields
import Derived.ChangeSame
import Derived.WideShapes
set_option linter.unusedVariables false
set_option linter.defProp false
set_option linter.unusedSimpArgs false
set_option linter.constructorNameAsVariable false
namespace Go.Proofs.YtecefhjnejfheaaGreat.Ab
open Go.RowKit
set_option maxRecDepth 20000
set_option maxHeartbeats 4000000
def BT(w:aQ)(h1:ab.sml w.Y)(a:ay.sml w.b3):zzA 344 false [.val (some 26) (aQ.enc .U w)] .agg (aQ.enc .own w):=by
 have b:=DL w.Y h1;have c:=eM w.b3 a;refine fO 10 [(1,5,[3,4,5,6,7])] Tryz.func344 rfl ?_ (.inr (aQ.enc_fr _))
 repeat'(first|refine gP ?_|(conv=>whnf);first|refine C9 (b) ?_|refine C9 (c) ?_)
 rfl
def BW(c:cR)(acts:List ew)(h:E4 c)(d:jN c.a0)(n:∀a∈acts,MS a)(D:acts.length<=80):zzA 192 false [.val (some 5) (cR.enc .U c),.val none (pA .U acts)] (.tup [some 26,none]) (aQ.enc .own (zj c acts acts.length).1++aD .own (zj c acts acts.length).2):=by
 have o:=Aj c h;refine fP 42 [(343,[2,0]),(2000005,[6,21,25])] [] Tryz.func192 rfl ?_ (.inr (bg (aQ.enc_fr _) (bG _)))
 repeat'(first|refine gE ?_|(conv=>whnf);first|refine C9 (o) ?_|refine HH.mk rfl rfl rfl ?_)
 (conv=>whnf)
 refine CH (ι:=Nat) (λi=>[(1,.H .one (pA .U acts)),(4,.H .box [.z,.z,.z,I 0,.z,.z,.z,.z,.z,.z,.z,.z,I 0,.z,I 0,I 0,I 0,I 0,B false,I 0,I 0,.z,I 0,I 0,I 0,.z]),(6,.H .box (rD (zj c acts i).1)),(8,.H .one (aD .own (zj c acts i).2)),(9,.H .one [I ((i:Nat):Int)])]) (λi=>i<=acts.length) (λi=>acts.length - i) (0) ?_ (X0 _) λi p=>?_
 ·repeat'(first|exact trivial|rfl |exact ov q|exact dZ _|refine CN ?_ ?_|(exact DS (by first|omega|(simp only;omega)|(simp;omega))))
 have e:=uW h acts i;have b:=Hm h acts i;have g:(zj c acts i).2.length=i:=by
  clear e b p
  induction i with
  | zero=>rfl
  | succ k t=>show((zj c acts k).2++[_]).length=_;rw[Y3,t];rfl
 by_cases j:i<acts.length
 ·have l:=ao j
  have u:=Jh (zj c acts i).1 (nth acts i) i e ω (by unfold rfs at b;rw[b];exact d) (n _ (am j))
  repeat'(first|refine gE ?_|(conv=>whnf);first|refine CM (u) (.inl rfl) ?_|refine CU cw (λr d=>by rw[V1.1 d];rfl) (by simp[aZ,dS]) (by simp;omega) (by simp only[I1];exact wZ (by simp;omega) (by decide)) rfl ?_)
  ((conv=>whnf);refine CG (i+1) ω ω ?_)
  repeat'(first|exact trivial|rfl| exact dZ _ |exact CN rfl (CN (Z0 (C.s dN.own) (by simp[zj,rI])) trivial)|refine CN ?_ ?_|(exact DS (by first|omega|(simp only;omega)|(simp;omega))))
 obtain rfl:i=acts.length:=ω
 have w:=e.fit (by unfold rfs at b;rw[b];exact d);have y:=BT (zj c acts acts.length).1 w.1 (e.ref.sml ω)
 repeat'(first|refine gE ?_|(conv=>whnf);refine CL (y) ⟨⟨rfl,Q6 _⟩,trivial⟩ ?_)
 rfl
def FH(zs:List Int)(c:iV):jN (qU zs c).a0:=by
 show jN (pH zs 4 0 [] (DE zs c).2).1;have key:∀(f i:Nat)(out:List Int)(c:iV),(∀x∈out,n9 x)->∀x∈(pH zs f i out c).1,n9 x:=by
  intro f
  induction f with
  | zero=>intro i out c h;exact h
  | succ f b=>
   intro i out c h;unfold pH;split
   ·refine b _ _ _ λx a=>?_
    rcases V3.1 a with a|a
    ·exact h x a
    rw[V1.1 a];have:=bL zs (bv zs c 4).2 (n:=12) (by decide);exact⟨ω,ω⟩
   exact h
 exact⟨by
   have d:∀(f i:Nat)(out:List Int)(c:iV),out.length+f<=4->(pH zs f i out c).1.length<=4:=by
     intro f
     induction f with
     | zero=>intro i out c h;exact h
     | succ f b=>
       intro i out c h;unfold pH;split
       · exact b _ _ _ (by simp only[Y3,List.length_singleton];omega)
       show out.length<=4;omega
   have:=d 4 0 [] (DE zs c).2 (W3 _);omega,key 4 0 [] _ (λx a=>by cases a)⟩
def zv(zs:List Int)(a:jE zs):zzB 56 false [.ptr (iN zs (sr zs))] [.ptr (iN zs (lQ zs (eC zs)).2)] .agg (aQ.enc .own (drawn zs)):=by
 have b:(sr zs).i<=zs.length:=X0 _;obtain⟨g,d⟩:=p7 b;have o:=bL zs (eC zs) (n:=41) (by decide);obtain⟨p,h,-⟩:=pQ (zs:=zs) (c:=eC zs) d (n:=(bv zs (eC zs) 41).1.toNat) ω;have e:=xj zs (sr zs) a b;have j:=Ek zs (eC zs) a d;have k:=BW (qU zs (sr zs)) (lQ zs (eC zs)).1 g (FH zs _) h (by show(lM zs (eC zs) _).1.length<=80;omega);have l:drawn zs=(zj (qU zs (sr zs)) (lQ zs (eC zs)).1 (lQ zs (eC zs)).1.length).1:=rfl;rw[l];change aW _ _ _ _ [.ptr (iN zs (eC zs))] _ _ at e;generalize qU zs (sr zs)=cf at *;generalize r:lQ zs (eC zs)=A at *;generalize t:zj cf A.1 A.1.length=R at *;refine fM 14 [(193,[2]),(194,[2,0])] [] [(0,0)] Tryz.func56 rfl (λu q=>?_) (.inr (aQ.enc_fr _))
 repeat'(first|refine gP ?_|(conv=>whnf);first|refine CM (e) (.inl rfl) ?_|refine CM (j) (.inl rfl) ?_|refine CL (k) ⟨⟨rfl,cR.enc_fz _⟩,⟨rfl,LW _⟩,trivial⟩ ?_)
 refine CK rfl rfl ?_;exact wC
def Ty(z:List Int):List C:=[.s .U (z.map rU)]
def v7(zs:List Int)(b:jE zs):rP Tryz.prog 57 true [.val none (Ty zs)] .box (iN zs (sr zs)):=by
 have r:=b.1;have e:IntKind.i64.wrap (98801+(zs.length:Nat))=w64 (98801+(zs.length:Nat)):=rfl;have g:qG zs 0=98801+(zs.length:Nat):=by show w64 _=_;rw[<-e];exact eZ ω ω
 have a:=Z0 I g;refine U6 (n:=32) (t:=2) (mo:=[]) (tb:=[]) Tryz.func57 (by kernel_rfl) rfl (by kernel_rfl) (by rfl) rfl ?_
 repeat'(first|refine gP ?_|fail)
 (conv=>whnf)
 refine CH (ι:=Nat) (λi=>[(0,.H .one (Ty zs)),(3,.H .one [I (qG zs i)]),(4,.H .one [I ((i:Nat):Int)])]) (λi=>i<=min zs.length 4000) (λi=>min zs.length 4000 - i) (0) ?_ (X0 _) λi u=>?_
 ·repeat'(first|exact trivial|rfl |exact ov a|exact dZ _|refine CN ?_ ?_|(exact DS (by first|omega|(simp only;omega)|(simp;omega))))
 have h:IntKind.i64.wrap (qG zs i*131)=w64 (qG zs i*131):=rfl;have j:IntKind.i64.wrap (w64 (qG zs i*131)+nth zs i)=w64 (w64 (qG zs i*131)+nth zs i):=rfl;have k:IntKind.i64.wrap (w64 (w64 (qG zs i*131)+nth zs i)+7)=w64 (w64 (w64 (qG zs i*131)+nth zs i)+7):=rfl;have l:IntKind.i64.wrap (BitVec.ofInt IntKind.i64.bits (w64 (w64 (w64 (qG zs i*131)+nth zs i)+7)) &&& BitVec.ofInt IntKind.i64.bits 1073741823).toNat=qG zs (i+1):=rfl;by_cases c:i<zs.length/\i<4000
 ·have d:=ao c.1
  have w:=b.2 _ (am c.1);generalize qG zs i=H at *;generalize o:qG zs (i+1)=H2 at *
  repeat'(first|refine gE ?_|(conv=>whnf);with_reducible (first|refine CO h ?_|refine CO j ?_|refine CO k ?_|refine CO l ?_))
  ((conv=>whnf);refine CG (i+1) ω ω ?_)
  rw[o];exact wC
 obtain rfl:i=min zs.length 4000:=ω
 have p:sr zs = ⟨0,qG zs (min zs.length 4000)⟩:=rfl;rw[p];generalize qG zs (min zs.length 4000)=H at *
 repeat'(first|refine gE ?_|(conv=>whnf);with_reducible refine Bf.D (λq=>?_) (λq=>?_))
 all_goals rfl
def y6(zs:List Int)(a:jE zs):zzA 16 false [.val none (Ty zs)] .agg (aQ.enc .own (drawn zs)):=by
 have b:=v7 zs a;have c:=zv zs a;refine fP 6 [(56,[2])] [] Tryz.func16 rfl ?_ (.inr (aQ.enc_fr _))
 repeat'(first|refine gP ?_|(conv=>whnf);first|refine Cl.g b (.inr rfl) ?_|refine CM (c) (.inl rfl) ?_)
 rfl
def cls(h:ab):Int:=h.G.Calls
def Dg(k:ah)(p:Int):(newK k p).1.Calls=k.Calls+1:=by unfold newK;split<;>rfl
def Ge(k:ah)(p:Int):∀n:Nat,(newsK k p n).1.Calls<=k.Calls+n
 | 0=>by show k.Calls<=k.Calls+0;omega
 | n+1=>by
  have a:=Ge k p n;unfold newsK;split
  ·refine V5 (X5 (Dg (newsK k p n).1 (p+(n:Nat)))) ?_
   omega
  omega
def Pq(h:ab)(i:Nat):cls (oO h i).1=cls h:=by unfold oO;split<;>rfl
def KR(h:ab)(t c:Nat):cls (smallA h t c).1<=cls h+1:=by
 unfold smallA;split
 ·show cls h<=_;omega
 split
 ·show cls h<=_;omega
 split
 ·show cls h<=_;omega
 split
 ·exact X5 (Dg _ _)
 exact X5 ((Pq _ _).trans (Dg _ _))
def NY(h:ab)(t i:Nat):cls (freeT h t i).1=cls h:=by
 unfold freeT;split
 ·exact(lB _ _ _).1
 split
 ·rfl
 split
 ·exact(fp t _ _).2.2.1
 split<;>rfl
def A3(t:Nat)(h:ab):∀k,cls (flushN t h k).1=cls h
 | 0=>rfl
 | k+1=>((fX _ (spilt (flushN t h k).1 t k)).2.2.1).trans (A3 t h k)
set_option maxHeartbeats 2000000
set_option maxHeartbeats 2000000
set_option maxHeartbeats 2000000
set_option maxHeartbeats 2000000
set_option maxHeartbeats 2000000
set_option maxHeartbeats 2000000
def NT(zs:List Int):jN (drawn zs).Y.G.a0:=by
 have a:(sr zs).i<=zs.length:=X0 _;have:=Hm (p7 a).1 (lQ zs (eC zs)).1 (lQ zs (eC zs)).1.length;unfold rfs at this;show jN (zj _ _ _).1.Y.G.a0;rw[this];exact FH zs _
def LU(zs:List Int):ab.sml (drawn zs).Y/\ab.wf (drawn zs).Y:=(yL zs).fit (NT zs)
def Tu(zs:List Int)(a:zs.length<=9223372036854775807):zzA 15 false [.val none (Ty zs)] .one [B (decide ((zs.length:Int) > 1048576))]:=by
 refine fO 6 [] Tryz.func15 rfl ?_
 repeat'(first|refine gP ?_|fail)
 rfl
def mD(a:List Int)(d:a.length<=1048576):zzA 40 false [.val none (aD .U a),.val none (aD .U a)] .one [B true]:=by
 refine fO 26 [(6,8,[17,18,19,20,21,22,23,24])] Tryz.func40 rfl ?_
 repeat'(first|refine gB ?_|fail)
 (conv=>whnf)
 refine CH (ι:=Nat) (λi=>[(0,.H .one (aD .U a)),(1,.H .one (aD .U a)),(5,.H .one [I ((i:Nat):Int)])]) (λi=>i<=a.length) (λi=>a.length - i) (0) ?_ (X0 _) λi e=>?_
 ·exact wC
 by_cases b:i<a.length
 ·have c:=ao b
  repeat'(first|refine gB ?_|fail)
  ((conv=>whnf);refine CG (i+1) ω ω ?_;(exact wC))
 repeat'(first|refine gE ?_|fail)
 rfl
def DN(a:List Bool)(d:a.length<=1048576):zzA 505 false [.val none (iu .U a),.val none (iu .U a)] .one [B true]:=by
 refine fO 26 [(6,8,[17,18,19,20,21,22,23,24])] Tryz.func505 rfl ?_
 repeat'(first|refine gB ?_|fail)
 (conv=>whnf)
 refine CH (ι:=Nat) (λi=>[(0,.H .one (iu .U a)),(1,.H .one (iu .U a)),(5,.H .one [I ((i:Nat):Int)])]) (λi=>i<=a.length) (λi=>a.length - i) (0) ?_ (X0 _) λi g=>?_
 ·exact wC
 by_cases c:i<a.length
 ·have b:=ao c
  cases e:nth a i<;>rw[e]at b
  all_goals
   repeat'(first|refine gB ?_|fail)
   ((conv=>whnf);refine CG (i+1) ω ω ?_;(exact wC))
 repeat'(first|refine gE ?_|fail)
 rfl
def LR(a b c d:Int):Qz Tryz.prog .neq 216 [.int .i64 a,.int .i64 b] [.int .i64 c,.int .i64 d] (!(a == c&&(b == d))):=by
 refine⟨λx y w=>?_⟩;rw[Sem.run_bind,run_eqGuard_agg w .neq _ x y _ _ (by kernel_rfl)];simp only[Result.andThen_ok];rw[run_neq_struct,run_equalIn_agg w _ _ _ _ (by kernel_rfl) (by kernel_rfl)];simp only[Program.fieldsOf,Tryz.underlying216];simp only[Op.eqFields];simp[part,Sem.run_bind,run_equalIn_int _ _ _ _ _ _ _ Tryz.underlying3];by_cases e:a=c<;>by_cases f:b=d<;>simp[e,f]
def zp(a:List aB)(d:a.length<=1048576):zzA 111 false [.val none (bB .U a),.val none (bB .U a)] .one [B true]:=by
 refine fO 26 [(6,8,[17,18,19,20,21,22,23,24])] Tryz.func111 rfl ?_
 repeat'(first|refine gB ?_|fail)
 (conv=>whnf)
 refine CH (ι:=Nat) (λi=>[(0,.H .one (bB .U a)),(1,.H .one (bB .U a)),(5,.H .one [I ((i:Nat):Int)])]) (λi=>i<=a.length) (λi=>a.length - i) (0) ?_ (X0 _) λi e=>?_
 ·exact wC
 by_cases c:i<a.length
 ·have b:=ao c
  repeat'(first|refine gE ?_|(conv=>whnf);first|refine Ld.mk (LR _ _ _ _) ?_|refine Bf.t (by simp only[beq_self_eq_true,Bool.and_self]) ?_)
  ((conv=>whnf);refine CG (i+1) ω ω ?_;(exact wC))
 repeat'(first|refine gE ?_|fail)
 rfl
def LV(a b c d e f:Int):Qz Tryz.prog .neq 226 [.int .i64 a,.int .i64 b,.int .i64 c] [.int .i64 d,.int .i64 e,.int .i64 f] (!(a == d&&(b == e&&(c == f)))):=by
 refine⟨λx y w=>?_⟩;rw[Sem.run_bind,run_eqGuard_agg w .neq _ x y _ _ (by kernel_rfl)];simp only[Result.andThen_ok];rw[run_neq_struct,run_equalIn_agg w _ _ _ _ (by kernel_rfl) (by kernel_rfl)];simp only[Program.fieldsOf,Tryz.underlying226];simp only[Op.eqFields];simp[part,Sem.run_bind,run_equalIn_int _ _ _ _ _ _ _ Tryz.underlying3];by_cases g:a=d<;>by_cases h:b=e<;>by_cases i:c=f<;>simp[g,h,i]
def Ep(a:List aN)(d:a.length<=1048576):zzA 117 false [.val none (cx .U a),.val none (cx .U a)] .one [B true]:=by
 refine fO 26 [(6,8,[17,18,19,20,21,22,23,24])] Tryz.func117 rfl ?_
 repeat'(first|refine gB ?_|fail)
 (conv=>whnf)
 refine CH (ι:=Nat) (λi=>[(0,.H .one (cx .U a)),(1,.H .one (cx .U a)),(5,.H .one [I ((i:Nat):Int)])]) (λi=>i<=a.length) (λi=>a.length - i) (0) ?_ (X0 _) λi e=>?_
 ·exact wC
 by_cases c:i<a.length
 ·have b:=ao c
  repeat'(first|refine gE ?_|(conv=>whnf);first|refine Ld.mk (LV _ _ _ _ _ _) ?_|refine Bf.t (by simp only[beq_self_eq_true,Bool.and_self]) ?_)
  ((conv=>whnf);refine CG (i+1) ω ω ?_;(exact wC))
 repeat'(first|refine gE ?_|fail)
 rfl
def PU(a b c d e f:Int):Qz Tryz.prog .neq 167 [.int .i64 a,.int .i64 b,.int .i64 c] [.int .i64 d,.int .i64 e,.int .i64 f] (!(a == d&&(b == e&&(c == f)))):=by
 refine⟨λx y w=>?_⟩;rw[Sem.run_bind,run_eqGuard_agg w .neq _ x y _ _ (by kernel_rfl)];simp only[Result.andThen_ok];rw[run_neq_struct,run_equalIn_agg w _ _ _ _ (by kernel_rfl) (by kernel_rfl)];simp only[Program.fieldsOf,Tryz.underlying167];simp only[Op.eqFields];simp[part,Sem.run_bind,run_equalIn_int _ _ _ _ _ _ _ Tryz.underlying3];by_cases g:a=d<;>by_cases h:b=e<;>by_cases i:c=f<;>simp[g,h,i]
def zk(a:List ax)(d:a.length<=1048576):zzA 112 false [.val none (bT .U a),.val none (bT .U a)] .one [B true]:=by
 refine fO 26 [(6,8,[17,18,19,20,21,22,23,24])] Tryz.func112 rfl ?_
 repeat'(first|refine gB ?_|fail)
 (conv=>whnf)
 refine CH (ι:=Nat) (λi=>[(0,.H .one (bT .U a)),(1,.H .one (bT .U a)),(5,.H .one [I ((i:Nat):Int)])]) (λi=>i<=a.length) (λi=>a.length - i) (0) ?_ (X0 _) λi e=>?_
 ·exact wC
 by_cases c:i<a.length
 ·have b:=ao c
  repeat'(first|refine gE ?_|(conv=>whnf);first|refine Ld.mk (PU _ _ _ _ _ _) ?_|refine Bf.t (by simp only[beq_self_eq_true,Bool.and_self]) ?_)
  ((conv=>whnf);refine CG (i+1) ω ω ?_;(exact wC))
 repeat'(first|refine gE ?_|fail)
 rfl
def Mo(a b c d e f:Int):Qz Tryz.prog .neq 211 [.int .i64 a,.int .i64 b,.int .i64 c] [.int .i64 d,.int .i64 e,.int .i64 f] (!(a == d&&(b == e&&(c == f)))):=by
 refine⟨λx y w=>?_⟩;rw[Sem.run_bind,run_eqGuard_agg w .neq _ x y _ _ (by kernel_rfl)];simp only[Result.andThen_ok];rw[run_neq_struct,run_equalIn_agg w _ _ _ _ (by kernel_rfl) (by kernel_rfl)];simp only[Program.fieldsOf,Tryz.underlying211];simp only[Op.eqFields];simp[part,Sem.run_bind,run_equalIn_int _ _ _ _ _ _ _ Tryz.underlying3];by_cases g:a=d<;>by_cases h:b=e<;>by_cases i:c=f<;>simp[g,h,i]
def zL(a:List a7)(d:a.length<=1048576):zzA 113 false [.val none (bJ .U a),.val none (bJ .U a)] .one [B true]:=by
 refine fO 26 [(6,8,[17,18,19,20,21,22,23,24])] Tryz.func113 rfl ?_
 repeat'(first|refine gB ?_|fail)
 (conv=>whnf)
 refine CH (ι:=Nat) (λi=>[(0,.H .one (bJ .U a)),(1,.H .one (bJ .U a)),(5,.H .one [I ((i:Nat):Int)])]) (λi=>i<=a.length) (λi=>a.length - i) (0) ?_ (X0 _) λi e=>?_
 ·exact wC
 by_cases c:i<a.length
 ·have b:=ao c
  repeat'(first|refine gE ?_|(conv=>whnf);first|refine Ld.mk (Mo _ _ _ _ _ _) ?_|refine Bf.t (by simp only[beq_self_eq_true,Bool.and_self]) ?_)
  ((conv=>whnf);refine CG (i+1) ω ω ?_;(exact wC))
 repeat'(first|refine gE ?_|fail)
 rfl
def QC(a b c d e f g h:Int):Qz Tryz.prog .neq 74 [.int .i64 a,.int .i64 b,.int .i64 c,.int .i64 d] [.int .i64 e,.int .i64 f,.int .i64 g,.int .i64 h] (!(a == e&&(b == f&&(c == g&&(d == h))))):=by
 refine⟨λx y w=>?_⟩;rw[Sem.run_bind,run_eqGuard_agg w .neq _ x y _ _ (by kernel_rfl)];simp only[Result.andThen_ok];rw[run_neq_struct,run_equalIn_agg w _ _ _ _ (by kernel_rfl) (by kernel_rfl)];simp only[Program.fieldsOf,Tryz.underlying74];simp only[Op.eqFields];simp[part,Sem.run_bind,run_equalIn_int _ _ _ _ _ _ _ Tryz.underlying3];by_cases i:a=e<;>by_cases j:b=f<;>by_cases k:c=g<;>by_cases l:d=h<;>simp[i,j,k,l]
def FE(a:List bn)(d:a.length<=1048576):zzA 114 false [.val none (jF .U a),.val none (jF .U a)] .one [B true]:=by
 refine fO 26 [(6,8,[17,18,19,20,21,22,23,24])] Tryz.func114 rfl ?_
 repeat'(first|refine gB ?_|fail)
 (conv=>whnf)
 refine CH (ι:=Nat) (λi=>[(0,.H .one (jF .U a)),(1,.H .one (jF .U a)),(5,.H .one [I ((i:Nat):Int)])]) (λi=>i<=a.length) (λi=>a.length - i) (0) ?_ (X0 _) λi e=>?_
 ·exact wC
 by_cases c:i<a.length
 ·have b:=ao c
  repeat'(first|refine gE ?_|(conv=>whnf);first|refine Ld.mk (QC _ _ _ _ _ _ _ _) ?_|refine Bf.t (by simp only[beq_self_eq_true,Bool.and_self]) ?_)
  ((conv=>whnf);refine CG (i+1) ω ω ?_;(exact wC))
 repeat'(first|refine gE ?_|fail)
 rfl
def M7(a b c d:Int):Qz Tryz.prog .neq 98 [.int .i64 a,.int .i64 b] [.int .i64 c,.int .i64 d] (!(a == c&&(b == d))):=by
 refine⟨λx y w=>?_⟩;rw[Sem.run_bind,run_eqGuard_agg w .neq _ x y _ _ (by kernel_rfl)];simp only[Result.andThen_ok];rw[run_neq_struct,run_equalIn_agg w _ _ _ _ (by kernel_rfl) (by kernel_rfl)];simp only[Program.fieldsOf,Tryz.underlying98];simp only[Op.eqFields];simp[part,Sem.run_bind,run_equalIn_int _ _ _ _ _ _ _ Tryz.underlying3];by_cases e:a=c<;>by_cases f:b=d<;>simp[e,f]
def xh(a:List bk)(d:a.length<=1048576):zzA 416 false [.val none (lL .U a),.val none (lL .U a)] .one [B true]:=by
 refine fO 26 [(6,8,[17,18,19,20,21,22,23,24])] Tryz.func416 rfl ?_
 repeat'(first|refine gB ?_|fail)
 (conv=>whnf)
 refine CH (ι:=Nat) (λi=>[(0,.H .one (lL .U a)),(1,.H .one (lL .U a)),(5,.H .one [I ((i:Nat):Int)])]) (λi=>i<=a.length) (λi=>a.length - i) (0) ?_ (X0 _) λi e=>?_
 ·exact wC
 by_cases c:i<a.length
 ·have b:=ao c
  repeat'(first|refine gE ?_|(conv=>whnf);first|refine Ld.mk (M7 _ _ _ _) ?_|refine Bf.t (by simp only[beq_self_eq_true,Bool.and_self]) ?_)
  ((conv=>whnf);refine CG (i+1) ω ω ?_;(exact wC))
 repeat'(first|refine gE ?_|fail)
 rfl
def Po(a b c d:Int):Qz Tryz.prog .neq 222 [.int .i64 a,.int .i64 b] [.int .i64 c,.int .i64 d] (!(a == c&&(b == d))):=by
 refine⟨λx y w=>?_⟩;rw[Sem.run_bind,run_eqGuard_agg w .neq _ x y _ _ (by kernel_rfl)];simp only[Result.andThen_ok];rw[run_neq_struct,run_equalIn_agg w _ _ _ _ (by kernel_rfl) (by kernel_rfl)];simp only[Program.fieldsOf,Tryz.underlying222];simp only[Op.eqFields];simp[part,Sem.run_bind,run_equalIn_int _ _ _ _ _ _ _ Tryz.underlying3];by_cases e:a=c<;>by_cases f:b=d<;>simp[e,f]
def Eb(a:List dw)(d:a.length<=1048576):zzA 417 false [.val none (cF .U a),.val none (cF .U a)] .one [B true]:=by
 refine fO 26 [(6,8,[17,18,19,20,21,22,23,24])] Tryz.func417 rfl ?_
 repeat'(first|refine gB ?_|fail)
 (conv=>whnf)
 refine CH (ι:=Nat) (λi=>[(0,.H .one (cF .U a)),(1,.H .one (cF .U a)),(5,.H .one [I ((i:Nat):Int)])]) (λi=>i<=a.length) (λi=>a.length - i) (0) ?_ (X0 _) λi e=>?_
 ·exact wC
 by_cases c:i<a.length
 ·have b:=ao c
  repeat'(first|refine gE ?_|(conv=>whnf);first|refine Ld.mk (Po _ _ _ _) ?_|refine Bf.t (by simp only[beq_self_eq_true,Bool.and_self]) ?_)
  ((conv=>whnf);refine CG (i+1) ω ω ?_;(exact wC))
 repeat'(first|refine gE ?_|fail)
 rfl
def nY(a:List (List Int))(g:a.length<=1048576)(d:∀l∈a,l.length<=1048576):zzA 278 false [.val none (f9 .U a),.val none (f9 .U a)] .one [B true]:=by
 refine fO 27 [(6,8,[17,18,19,20,21,22,23,24])] Tryz.func278 rfl ?_
 repeat'(first|refine gB ?_|fail)
 (conv=>whnf)
 refine CH (ι:=Nat) (λi=>[(0,.H .one (f9 .U a)),(1,.H .one (f9 .U a)),(5,.H .one [I ((i:Nat):Int)])]) (λi=>i<=a.length) (λi=>a.length - i) (0) ?_ (X0 _) λi h=>?_
 ·exact wC
 by_cases b:i<a.length
 ·have c:=ao b
  have e:=mD (nth a i) (d _ (am b))
  repeat'(first|refine gE ?_|(conv=>whnf);refine C9 (e) ?_)
  ((conv=>whnf);refine CG (i+1) ω ω ?_;(exact wC))
 repeat'(first|refine gE ?_|fail)
 rfl
def wR(a:List (List dw))(g:a.length<=1048576)(d:∀l∈a,l.length<=1048576):zzA 279 false [.val none (lS .U a),.val none (lS .U a)] .one [B true]:=by
 refine fO 27 [(6,8,[17,18,19,20,21,22,23,24])] Tryz.func279 rfl ?_
 repeat'(first|refine gB ?_|fail)
 (conv=>whnf)
 refine CH (ι:=Nat) (λi=>[(0,.H .one (lS .U a)),(1,.H .one (lS .U a)),(5,.H .one [I ((i:Nat):Int)])]) (λi=>i<=a.length) (λi=>a.length - i) (0) ?_ (X0 _) λi h=>?_
 ·exact wC
 by_cases b:i<a.length
 ·have c:=ao b
  have e:=Eb (nth a i) (d _ (am b))
  repeat'(first|refine gE ?_|(conv=>whnf);refine C9 (e) ?_)
  ((conv=>whnf);refine CG (i+1) ω ω ?_;(exact wC))
 repeat'(first|refine gE ?_|fail)
 rfl
def Am(a:List a8)(h:a.length<=1048576)(d:∀c∈a,c.b.length<=1048576/\∀l∈c.b,l.length<=1048576):zzA 115 false [.val none (fS .U a),.val none (fS .U a)] .one [B true]:=by
 refine fO 29 [(6,10,[17,18,19,20,21,22,23,24,25,26])] Tryz.func115 rfl ?_
 repeat'(first|refine gB ?_|fail)
 (conv=>whnf)
 refine CH (ι:=Nat) (λi=>[(0,.H .one (fS .U a)),(1,.H .one (fS .U a)),(5,.H .one [I ((i:Nat):Int)])]) (λi=>i<=a.length) (λi=>a.length - i) (0) ?_ (X0 _) λi j=>?_
 ·exact wC
 by_cases b:i<a.length
 ·have e:=ao b
  have g:=nY (nth a i).b (d _ (am b)).1 (d _ (am b)).2
  repeat'(first|refine gE ?_|(conv=>whnf);refine C9 (g) ?_)
  ((conv=>whnf);refine CG (i+1) ω ω ?_;(exact wC))
 repeat'(first|refine gE ?_|fail)
 rfl
def zn(a:aU)(b:aU.sml a):zzA 415 false [.val (some 2) (aU.enc .U a),.val (some 2) (aU.enc .U a)] .one [B true]:=by
 have c:=nY a.T b.1.1 b.1.2;have d:=DN a.a6 b.2;refine fO 17 [] Tryz.func415 rfl ?_
 repeat'(first|refine gB ?_|(conv=>whnf);first|refine C9 (c) ?_|refine C9 (d) ?_)
 rfl
def xv(a:aR)(b:aR.sml a):zzA 277 false [.val (some 3) (aR.enc .U a),.val (some 3) (aR.enc .U a)] .one [B true]:=by
 have c:=zn a.W b.1;have d:=xh a.R.J b.2.1;refine fO 19 [] Tryz.func277 rfl ?_
 repeat'(first|refine gB ?_|(conv=>whnf);first|refine C9 (c) ?_|refine C9 (d) ?_)
 rfl
def Ad(a:ah)(b:ah.sml a):zzA 110 false [.val (some 5) (ah.enc .U a),.val (some 5) (ah.enc .U a)] .one [B true]:=by
 have c:=xv a.F b.1;have d:=mD a.a0 b.2;refine fO 24 [] Tryz.func110 rfl ?_
 repeat'(first|refine gB ?_|(conv=>whnf);first|refine C9 (c) ?_|refine C9 (d) ?_)
 rfl
def Hb(a:cA)(b:cA.sml a):zzA 118 false [.val (some 5) (cA.enc .U a),.val (some 5) (cA.enc .U a)] .one [B true]:=by
 have c:=mD a.X.T b;refine fO 44 [] Tryz.func118 rfl ?_
 repeat'(first|refine gB ?_|(conv=>whnf);refine C9 (c) ?_)
 exact Z0 (λz=>[B z]) (beq_self_eq_true _)
def Fa(a:aL)(b:aL.sml a):zzA 116 false [.val (some 2) (aL.enc .U a),.val (some 2) (aL.enc .U a)] .one [B true]:=by
 have c:=wR a.V b.1.1 (λl d=>(b.1.2 l d).1);have e:=nY a.y b.2.1 b.2.2;refine fO 17 [] Tryz.func116 rfl ?_
 repeat'(first|refine gB ?_|(conv=>whnf);first|refine C9 (c) ?_|refine C9 (e) ?_)
 rfl
def EK(a:ab)(d:ab.sml a):zzA 35 false [.val (some 24) (ab.enc .U a),.val (some 24) (ab.enc .U a)] .one [B true]:=by
 obtain⟨g,h,i,j,k,b,l,n,o⟩:=d;have p:=Ad a.G g;have q:=zp a.w h.1;have r:=zk a.K i.1;have t:=zL a.M j.1;have u:=FE a.O k.1;have w:=Am a.S b.1 b.2;have y:=Fa a.q l;have C:=Ep a.a9.a5 n.1;have D:=Hb a.Z o;have c:ab.enc .U a=(ab.enc .U a).set 18 (B a.u):=rfl;cases e:a.u
 all_goals
  rw[e]at c;rw[c];refine fO 116 [] Tryz.func35 rfl ?_
  repeat'(first|refine gB ?_|(conv=>whnf);first|refine C9 (p) ?_|refine C9 (q) ?_|refine C9 (r) ?_|refine C9 (t) ?_|refine C9 (u) ?_|refine C9 (w) ?_|refine C9 (y) ?_|refine C9 (C) ?_|refine C9 (D) ?_)
  rfl
variable{α:Type}
def E3[Inhabited α](xs:List α)(j:Nat)(b:α)(a:j<xs.length)(c:Nat):nth (xs.set j b) c=if c=j then b else nth xs c:=by
 unfold nth;rw[C3,C3];by_cases h:c=j
 ·subst h;rw[CD rfl,v4 a];rfl
 rw[CB h,List.getElem?_set_ne (λe=>h e.symm)]
variable{c:Nat}
def Rs(a:c<16):nth (List.replicate 16 false) c=false:=bm (by rw[List.getElem?_replicate,CD a])
variable{i:Nat}
def yc[Inhabited α]{xs:List α}{f:α->Bool}(a:i<xs.length):(xs.take (i+1)).any f=((xs.take i).any f || f (nth xs i)):=by
 rw[O6,ao a,List.any_append];simp
def zE(h:ab)(p:Nat)(e:ab.sml h)(o:cN h=true)(q:p<dQ h)(r:(nth (tbl h).J p).e≠0):zzA 88 false [.val (some 3) (aR.enc .U h.G.F),.val none [I (p:Nat)]] .one (aD .own (oU h p)):=by
 obtain⟨a,-⟩:=iS o;have c:vT h:=e.1.1.2;have g:=gM h.G.F.R (p:Nat) c;obtain⟨k,t⟩:=yO a ((p:Nat):Int);rw[fB q]at g k t;have l:=ao (xs:=h.G.F.W.T) (i:=(nth h.G.F.R.J p).j.toNat) ω;have d:=(Ju a (j:=(nth h.G.F.R.J p).j.toNat) ω).1;have b:oU h p=nth h.G.F.W.T (nth h.G.F.R.J p).j.toNat:=rfl;rw[<-b]at l d;have u:(nth h.G.F.R.J p).e≠0:=r;have n:=qf h.G.F e.1.1;rw[show dC h.G.F=true by unfold aA at a;simp only[I0]at a;exact a.1.2]at n;refine fO 26 [] Tryz.func88 rfl ?_ (.inr (bG _))
 repeat'(first|refine gB ?_|(conv=>whnf);first|with_reducible refine CP k (aa l) ?_|refine C9 (g) ?_|refine C9 (n) ?_|refine C9 (gr (oU h p) ω) ?_)
 rfl
def MG(h:ab)(p c:Nat)(s:ax):Bool:=decide (s.Q∈aP h (p:Nat))&&j8 s c
def kX(h:ab)(p:Nat):List Bool:=(List.range 16).map (uo h p)
def v8(h:ab)(p:Nat)(a:c<16):nth (kX h p) c=uo h p c:=bm (by unfold kX;simp[a])
def z8(h:ab)(p:Nat)(O:ab.sml h)(W:cN h=true)(hp:p<dQ h):zzA 89 false [.val (some 24) (ab.enc .U h),.val none [I (p:Nat)]] .one (iu .own (kX h p)):=by
 obtain⟨k1,X,-⟩:=iS W;have Y:=qH.of X;have E:vT h:=O.1.1.2;have Z:dQ h<=1048576:=E.1;have hl1:=O.2.2.1.1;have hl2:=O.2.2.2.1.1;have P:=oM h (p:Nat) E;have hpl:=gt h (p:Nat);refine fO 71 [] Tryz.func89 rfl ?_ (.inr (Lx _))
 repeat'(first|refine gP ?_|(conv=>whnf);first|refine Mk.mk 16 rfl rfl (by decide) (by decide) rfl ?_|refine C9 (P) ?_)
 (conv=>whnf)
 refine CH (ι:=Nat × List Bool) (λq=>[(1,.H .one [I ((p:Nat))]),(2,.H .box (ab.enc .U h)),(5,.H .one (iu .own q.2)),(6,.H .one (aD .own (aP h (p:Nat)))),(19,.H .one (bT .U h.K)),(20,.H .one [I (h.K.length)]),(21,.H .one [I ((q.1:Nat):Int)])]) (λq=>q.1<=h.K.length/\q.2.length=16/\∀c,c<16->nth q.2 c=(h.K.take q.1).any (MG h p c)) (λq=>h.K.length - q.1) ((0,List.replicate 16 false)) ?_ (⟨X0 _,by simp,λc j=>Rs j⟩) λq Q=>?_
 ·exact wB
 obtain⟨i,L⟩:=q;obtain⟨hi,y,t⟩:=Q;simp only at hi y t |-;by_cases B:i<h.K.length
 ·have J:=ao B
  have K:=lY (aP h (p:Nat)) (nth h.K i).Q ω;by_cases e:(nth h.K i).Q∈aP h (p:Nat)
  ·rw[O0 e]at K
   have c3:=oQ (nth h.K i) (Y.sok _ (am B));have hcl:=po (nth h.K i) 16
   repeat'(first|refine gE ?_|(conv=>whnf);first|with_reducible refine CF (aa J) ?_|refine CL (K) ⟨⟨rfl,d8 _⟩,⟨rfl,rfl⟩,trivial⟩ ?_|refine C9 (c3) ?_)
   (conv=>whnf)
   refine CH (ι:=Nat × List Bool) (λk=>[(1,.H .one [I ((p:Nat))]),(2,.H .box (ab.enc .U h)),(5,.H .one (iu .own k.2)),(6,.H .one (aD .own (aP h (p:Nat)))),(19,.H .one (bT .U h.K)),(20,.H .one [I (h.K.length)]),(21,.H .one [I ((i:Nat):Int)]),(30,.H .one (aD .own (jl (nth h.K i) 16))),(31,.H .one [I ((jl (nth h.K i) 16).length)]),(32,.H .one [I ((k.1:Nat):Int)])]) (λk=>k.1<=(jl (nth h.K i) 16).length/\k.2.length=16/\∀c,c<16->nth k.2 c=(nth L c || decide (((c:Nat):Int)∈(jl (nth h.K i) 16).take k.1))) (λk=>(jl (nth h.K i) 16).length - k.1) ((0,L)) ?_ (⟨X0 _,y,λc j=>by simp⟩) λk D=>?_
   ·exact wB
   obtain⟨k,u⟩:=k;obtain⟨D,d,g⟩:=D;simp only at D d g |-;by_cases M:k<(jl (nth h.K i) 16).length
   ·have R:=ao M
    obtain⟨c0,hc0,-,hce⟩:=JB.1 (am M);have a:=ao (xs:=u) (i:=(nth (jl (nth h.K i) 16) k).toNat) ω
    repeat'(first|refine gE ?_|(conv=>whnf);first|with_reducible (first|refine CF (aa R) ?_|refine CP ω (aa a) ?_)|refine CJ rfl (aa R) rfl ?_|refine CS rfl rfl (aa a) rfl (O1 rfl) rfl ?_)
    ((conv=>whnf)
     refine CG (k+1,u.set (nth (jl (nth h.K i) 16) k).toNat true) ⟨(by simp only;omega),(by simp only;rw[W1];exact d),λc j=>?_⟩ (by simp only;omega) ?_)
    ·simp only
     rw[E3 _ _ _ ω,g c j,O6,R];by_cases F:c=(nth (jl (nth h.K i) 16) k).toNat
     ·rw[CD F]
      have:((c:Nat):Int)=nth (jl (nth h.K i) 16) k:=ω
      simp[this]
     rw[CB F];have:((c:Nat):Int)≠nth (jl (nth h.K i) 16) k:=ω
     simp[this]
    (repeat'(first|exact trivial|rfl|exact CN rfl (CN (Z0 (C.s dN.own) (by simp only[C7];rfl)) trivial)|refine CN ?_ ?_))
   obtain rfl:k=(jl (nth h.K i) 16).length:=ω
   rw[Y5]at g
   repeat'(first|refine gE ?_|fail)
   ((conv=>whnf);refine CG (i+1,u) ⟨(by simp only;omega),d,λc j=>by simp only;rw[g c j,yc B,t c j];congr 1;unfold MG;rw[O0 e,Bool.true_and,I5,C0,JB];exact Iff.intro (λ⟨P,_,S,h3⟩=>(show c=P by omega) ▸ S) (λS=>⟨c,j,S,rfl⟩)⟩ (by simp only;omega) ?_;(exact wB))
  rw[W0 e]at K
  repeat'(first|refine gE ?_|(conv=>whnf);first|with_reducible refine CF (aa J) ?_|refine CL (K) ⟨⟨rfl,d8 _⟩,⟨rfl,rfl⟩,trivial⟩ ?_)
  ((conv=>whnf);refine CG (i+1,L) ⟨(by simp only;omega),y,λc j=>by simp only;rw[yc B,t c j];unfold MG;rw[W0 e];simp⟩ (by simp only;omega) ?_;(exact wB))
 obtain rfl:i=h.K.length:=ω
 rw[Y5]at t
 repeat'(first|refine gE ?_|fail)
 (conv=>whnf)
 refine CH (ι:=Nat × List Bool) (λq=>[(1,.H .one [I ((p:Nat))]),(5,.H .one (iu .own q.2)),(42,.H .one (bJ .U h.M)),(43,.H .one [I (h.M.length)]),(44,.H .one [I ((q.1:Nat):Int)])]) (λq=>q.1<=h.M.length/\q.2.length=16/\∀c,c<16->nth q.2 c=(nth L c || (h.M.take q.1).any λl=>bf l (16*(p:Nat)+(c:Nat)))) (λq=>h.M.length - q.1) ((0,L)) ?_ (⟨X0 _,y,λc j=>by simp⟩) λq Q=>?_
 ·exact wB
 obtain⟨i,G⟩:=q;obtain⟨T,o,r⟩:=Q;simp only at T o r |-;by_cases B:i<h.M.length
 ·have J:=ao B
  repeat'(first|refine gE ?_|(conv=>whnf);with_reducible refine CF (aa J) ?_)
  (conv=>whnf)
  refine CH (ι:=Nat × List Bool) (λk=>[(1,.H .one [I ((p:Nat))]),(5,.H .one (iu .own k.2)),(12,.H .box (a7.enc .U (nth h.M i))),(42,.H .one (bJ .U h.M)),(43,.H .one [I (h.M.length)]),(44,.H .one [I ((i:Nat):Int)]),(49,.H .one [I (16)]),(50,.H .one [I ((k.1:Nat):Int)])]) (λk=>k.1<=16/\k.2.length=16/\∀c,c<16->nth k.2 c=(nth G c || (decide (c<k.1)&&bf (nth h.M i) (16*(p:Nat)+(c:Nat))))) (λk=>16 - k.1) ((0,G)) ?_ (⟨X0 _,o,λc j=>by simp⟩) λk D=>?_
  ·exact wB
  obtain⟨k,u⟩:=k;obtain⟨D,d,g⟩:=D;simp only at D d g |-;by_cases M:k<16
  ·have a:=ao (xs:=u) (i:=k) ω
   have w:=g k M;rw[W0 (Nat.lt_irrefl k),Bool.false_and,Bool.or_false]at w;have U:=mK (nth h.M i) ((p:Nat)*16+(k:Nat));have V:((p:Nat):Int)*16+(k:Nat)=16*(p:Nat)+(k:Nat):=ω
   have n:∀b,b=(nth G k || bf (nth h.M i) (16*(p:Nat)+(k:Nat)))->∀c,c<16->nth (u.set k b) c=(nth G c || (decide (c<k+1)&&bf (nth h.M i) (16*(p:Nat)+(c:Nat)))):=λb hb c j=>by
    rw[E3 _ _ _ ω];by_cases F:c=k
    ·subst F;rw[CD rfl,hb,O0 ω,Bool.true_and]
    rw[CB F,g c j]
    congr 2
    exact decide_eq_decide.2 ω
   cases eb:nth u k<;>rw[eb]at a w
   ·cases N:bf (nth h.M i) ((p:Nat)*16+(k:Nat))<;>rw[N]at U<;>rw[V]at N
    ·repeat'(first|refine gE ?_|(conv=>whnf);first|refine CS rfl rfl (aa a) rfl (O1 rfl) rfl ?_|refine C9 (U) ?_)
     ((conv=>whnf)
      refine CG (k+1,u.set k false) ⟨(by simp only;omega),(by simp only;rw[W1];exact d),n false (by rw[<-w,N];rfl)⟩ (by simp only;omega) ?_)
     (repeat'(first|exact trivial|rfl|exact CN rfl (CN (Z0 (C.s dN.own) (by simp only[C7];rfl)) trivial)|refine CN ?_ ?_))
    repeat'(first|refine gE ?_|(conv=>whnf);first|refine CS rfl rfl (aa a) rfl (O1 rfl) rfl ?_|refine C9 (U) ?_)
    ((conv=>whnf)
     refine CG (k+1,u.set k true) ⟨(by simp only;omega),(by simp only;rw[W1];exact d),n true (by rw[<-w,N];rfl)⟩ (by simp only;omega) ?_)
    (repeat'(first|exact trivial|rfl|exact CN rfl (CN (Z0 (C.s dN.own) (by simp only[C7];rfl)) trivial)|refine CN ?_ ?_))
   repeat'(first|refine gE ?_|(conv=>whnf);refine CS rfl rfl (aa a) rfl (O1 rfl) rfl ?_)
   ((conv=>whnf)
    refine CG (k+1,u.set k true) ⟨(by simp only;omega),(by simp only;rw[W1];exact d),n true (by rw[<-w];rfl)⟩ (by simp only;omega) ?_)
   (repeat'(first|exact trivial|rfl|exact CN rfl (CN (Z0 (C.s dN.own) (by simp only[C7];rfl)) trivial)|refine CN ?_ ?_))
  obtain rfl:k=16:=ω
  repeat'(first|refine gE ?_|fail)
  ((conv=>whnf);refine CG (i+1,u) ⟨(by simp only;omega),d,λc j=>by simp only;rw[g c j,yc B,r c j,O0 j,Bool.true_and,Bool.or_assoc]⟩ (by simp only;omega) ?_;(exact wB))
 obtain rfl:i=h.M.length:=ω
 rw[Y5]at r;have H:G=kX h p:=Kq (by rw[o];simp[kX]) λc j=>by
  rw[o]at j;rw[v8 h p j,r c j,t c j]
  rfl
 rw[H]
 repeat'(first|refine gE ?_|fail)
 rfl
def xO(h:ab)(p:Nat)(g:ab.sml h)(d:cN h=true)(l:p<dQ h)(C:(nth (tbl h).J p).e≠0):zzA 30 false [.val (some 24) (ab.enc .U h),.val none [I (p:Nat)]] .one [B (jM h p)]:=by
 have cH:=kF h g;rw[nr,d]at cH;obtain⟨t,-⟩:=iS d;obtain⟨D,E⟩:=yO t ((p:Nat):Int);rw[fB l]at D E;have n:(oU h p).length=16:=(Ju t (j:=(nth h.G.F.R.J p).j.toNat) ω).1;have F:(kX h p).length=16:=by simp[kX]
 have o:(oU h p).map (rI .own)≠[]:=λe=>by have:=Z0 List.length e;rw[I1,n]at this;cases this
 refine fO 39 [] Tryz.func30 rfl ?_
 repeat'(first|refine gP ?_|(conv=>whnf);first|refine C9 (cH) ?_|refine C9 (zE h p g d l C) ?_|refine Nn.mk o ?_|refine C9 (z8 h p g d l) ?_)
 (conv=>whnf)
 refine CH (ι:=Nat) (λk=>[(5,.H .one (aD .own (oU h p))),(6,.H .one (iu .own (kX h p))),(22,.c2 5 0 [] none),(23,.H .one [I (16)]),(24,.H .one [I ((k:Nat):Int)])]) (λk=>k<=16/\cE k (λc=>decide (nth (oU h p) c=0) || uo h p c)=true) (λk=>16 - k) 0 ?_ ⟨X0 _,rfl⟩ λk u=>?_
 ·exact wB
 obtain⟨u,q⟩:=u;by_cases w:k<16
 ·have a:=ao (xs:=oU h p) (i:=k) ω
  have b:=ao (xs:=kX h p) (i:=k) ω;rw[v8 h p w]at b;by_cases y:nth (oU h p) k=0
  ·repeat'(first|refine gB ?_|fail)
   ((conv=>whnf);refine CG (k+1) ⟨ω,br q (by rw[O0 y];rfl)⟩ ω ?_;(exact wB))
  cases r:uo h p k<;>rw[r]at b
  ·repeat'(first|refine gB ?_|fail)
   exact Z0 (λz=>[B z]) ((bX w (by rw[W0 y,r];rfl)).symm)
  repeat'(first|refine gB ?_|fail)
  ((conv=>whnf);refine CG (k+1) ⟨ω,br q (by rw[r,Bool.or_true])⟩ ω ?_;(exact wB))
 obtain rfl:k=16:=ω
 repeat'(first|refine gE ?_|fail)
 exact Z0 (λz=>[B z]) (q.symm)
set_option maxHeartbeats 2000000
variable{w:aQ}
def M1(h:ib w.Y w.b3=false):mu w=false:=by unfold mu;rw[h];rfl
def Lf(h:kh (cL w.Y)=false):mu w=false:=by unfold mu;rw[h];simp
def AR(h1:ib w.Y w.b3=true)(a:kh (cL w.Y)=true):mu w=cE (dQ w.Y) (jZ w.Y):=by unfold mu;rw[h1,a];rfl
variable{h:ab}
def Dn{r:ay}(e:ib h r=true):cN h=true:=by unfold ib at e;simp only[I0]at e;exact e.1.1
def Dx(w:aQ)(J:aQ.sml w):zzA 37 false [.val (some 26) (aQ.enc .U w)] .one [B (mu w)]:=by
 obtain⟨b,r⟩:=J;have n:=Ee w.Y w.b3 b r;cases o:ib w.Y w.b3<;>rw[o]at n
 ·refine fO 64 [] Tryz.func37 rfl ?_
  repeat'(first|refine gP ?_|(conv=>whnf);refine C9 (n) ?_)
  exact Z0 (λz=>[B z]) ((M1 o).symm)
 have u:=Dn o;have K:dQ w.Y=w.Y.G.F.R.J.length:=rfl;have i:aH.sml w.Y.G.F.R:=b.1.1.2;have L:dQ w.Y<=1048576:=i.1;have D:=Hf w.Y b u;have F:=yH w.Y b u;have y:=tQ (cL w.Y);cases C:kh (cL w.Y)<;>rw[C]at y
 ·refine fO 64 [] Tryz.func37 rfl ?_
  repeat'(first|refine gE ?_|(conv=>whnf);first|refine C9 (n) ?_|refine C9 (D) ?_|refine C9 (F) ?_|refine C9 (y) ?_)
  exact Z0 (λz=>[B z]) ((Lf C).symm)
 rw[AR o C];refine fO 64 [] Tryz.func37 rfl ?_
 repeat'(first|refine gE ?_|(conv=>whnf);first|refine C9 (n) ?_|refine C9 (D) ?_|refine C9 (F) ?_|refine C9 (y) ?_)
 (conv=>whnf)
 refine CH (ι:=Nat) (λp=>[(1,.H .box (aQ.enc .U w)),(31,.H .one [I ((dQ w.Y:Nat))]),(32,.H .one [I ((p:Nat):Int)])]) (λp=>p<=dQ w.Y/\cE p (jZ w.Y)=true) (λp=>dQ w.Y - p) 0 ?_ ⟨X0 _,rfl⟩ λp G=>?_
 ·exact wB
 obtain⟨G,j⟩:=G;by_cases q:p<dQ w.Y
 ·have c:=vB w.Y.G (p:Nat) i
  rw[fB q]at c;by_cases k:(nth w.Y.G.F.R.J p).e=0
  ·rw[W0 (λh=>h k)]at c
   cases a:w.Y.u
   all_goals
    repeat'(first|refine gE ?_|(conv=>whnf);first|with_reducible refine Bf.E (λd=>?_) (λd=>?_)|refine C9 (c) ?_|refine Bf.t a ?_|refine Bf.f a ?_)
    all_goals((conv=>whnf);refine CG (p+1) ⟨ω,br j (by unfold jZ;rw[O0 (show(nth (tbl w.Y).J p).e=0 from k)];rfl)⟩ ω ?_;(exact wB))
  rw[O0 k]at c;have l:decide ((nth (tbl w.Y).J p).e=0)=false:=W0 k;have e:=xO w.Y p b u q k;cases a:w.Y.u
  ·cases g:jM w.Y p<;>rw[g]at e
   ·repeat'(first|refine gE ?_|(conv=>whnf);first|refine C9 (c) ?_|refine C9 (e) ?_|refine Bf.t a ?_|refine Bf.f a ?_)
    exact Z0 (λz=>[B z]) ((bX q (by unfold jZ;rw[l,a,g];rfl)).symm)
   repeat'(first|refine gE ?_|(conv=>whnf);first|refine C9 (c) ?_|refine C9 (e) ?_|refine Bf.t a ?_|refine Bf.f a ?_)
   ((conv=>whnf);refine CG (p+1) ⟨ω,br j (by unfold jZ;rw[g];simp)⟩ ω ?_;(exact wB))
  by_cases H:((p:Nat):Int)=w.Y.Z.X.a3
  ·repeat'(first|refine gB ?_|(conv=>whnf);first|with_reducible refine Bf.E (λd=>?_) (λd=>?_)|refine C9 (c) ?_|refine C9 (e) ?_|refine Bf.t a ?_|refine Bf.f a ?_)
   ((conv=>whnf);refine CG (p+1) ⟨ω,br j (by unfold jZ;rw[a,O0 H];simp)⟩ ω ?_;(exact wB))
  cases g:jM w.Y p<;>rw[g]at e
  ·repeat'(first|refine gB ?_|(conv=>whnf);first|with_reducible refine Bf.E (λd=>?_) (λd=>?_)|refine C9 (c) ?_|refine C9 (e) ?_|refine Bf.t a ?_|refine Bf.f a ?_)
   exact Z0 (λz=>[B z]) ((bX q (by unfold jZ;rw[l,a,g,W0 H];rfl)).symm)
  repeat'(first|refine gB ?_|(conv=>whnf);first|with_reducible refine Bf.E (λd=>?_) (λd=>?_)|refine C9 (c) ?_|refine C9 (e) ?_|refine Bf.t a ?_|refine Bf.f a ?_)
  ((conv=>whnf);refine CG (p+1) ⟨ω,br j (by unfold jZ;rw[g];simp)⟩ ω ?_;(exact wB))
 obtain rfl:p=dQ w.Y:=ω
 repeat'(first|refine gE ?_|fail)
 exact Z0 (λz=>[B z]) (j.symm)
def D7(r:ay)(c:ay.sml r):zzA 265 false [.val (some 2) (ay.enc .U r)] .agg (ay.enc .own r):=by
 have e:r.O.length<=1048576:=c.1;refine fO 29 [(5,264,[16,17,18,19,20,21,22,26,0,1,2,3,4,5,6,7,1000,1001,8,1000,1001,9,10,11])] Tryz.func265 rfl ?_ (.inr (ay.enc_fr _))
 repeat'(first|refine gP ?_|fail)
 (conv=>whnf)
 refine CH (ι:=Nat) (λi=>[(2,.H .box [I 0,.z]),(3,.H .box [I r.d,.s .own ((r.O.take i).map (aX.enc .own))]),(10,.H .one ([.s .U (r.O.map (aX.enc .U))])),(11,.H .one [I (r.O.length)]),(12,.H .one [I ((i:Nat):Int)])]) (λi=>i<=r.O.length) (λi=>r.O.length - i) (0) ?_ (X0 _) λi g=>?_
 ·exact wC
 by_cases a:i<r.O.length
 ·have d:=ao a
  have b:(nth r.O i).T.length<=1048576:=c.2 _ (am a)
  repeat'(first|refine gE ?_|(conv=>whnf);first|refine C9 (gr (nth r.O i).T b) ?_|refine Ap.sn (aT λ_=>rfl) rfl (by simp;omega) (by decide) (fj a) ?_)
  ((conv=>whnf);refine CG (i+1) ω ω ?_;(exact wC))
 repeat'(first|refine gE ?_|fail)
 obtain rfl:i=r.O.length:=ω
 rw[Y5]
 rfl
def xK(w:aQ)(h1:ab.sml w.Y)(a:ay.sml w.b3):zzA 101 false [.val (some 26) (aQ.enc .U w)] .agg (aQ.enc .own w):=by
 have b:=zQ w.Y h1;have c:=D7 w.b3 a;refine fO 10 [(1,5,[3,4,5,6,7])] Tryz.func101 rfl ?_ (.inr (aQ.enc_fr _))
 repeat'(first|refine gP ?_|(conv=>whnf);first|refine C9 (b) ?_|refine C9 (c) ?_)
 rfl
def yq(a:List aX)(g:a.length<=1048576)(d:∀o∈a,o.T.length<=1048576):zzA 119 false [.val none [.s .U (a.map (aX.enc .U))],.val none [.s .U (a.map (aX.enc .U))]] .one [B true]:=by
 refine fO 42 [(6,22,[17,18,19,20,21,22,23,24,25,26,27,28,29,30,31,32,33,34,35,36,37,38])] Tryz.func119 rfl ?_
 repeat'(first|refine gB ?_|fail)
 (conv=>whnf)
 refine CH (ι:=Nat) (λi=>[(0,.H .one ([.s .U (a.map (aX.enc .U))])),(1,.H .one ([.s .U (a.map (aX.enc .U))])),(5,.H .one [I ((i:Nat):Int)])]) (λi=>i<=a.length) (λi=>a.length - i) (0) ?_ (X0 _) λi h=>?_
 ·exact wC
 by_cases b:i<a.length
 ·have c:=ao b
  have e:=mD (nth a i).T (d _ (am b))
  repeat'(first|refine gB ?_|(conv=>whnf);refine C9 (e) ?_)
  ((conv=>whnf);refine CG (i+1) ω ω ?_;(exact wC))
 repeat'(first|refine gE ?_|fail)
 rfl
def Jm(r:ay)(a:ay.sml r):zzA 36 false [.val (some 2) (ay.enc .U r),.val (some 2) (ay.enc .U r)] .one [B true]:=by
 have b:=yq r.O a.1 a.2;refine fO 17 [] Tryz.func36 rfl ?_
 repeat'(first|refine gB ?_|(conv=>whnf);refine C9 (b) ?_)
 rfl
def FK(o:bn)(a:ew):zzA 103 false [.val (some 4) (bn.enc .U o),.ptr (ew.enc .U a)] .one [B (bR a.N o)]:=by
 refine fO 9 [] Tryz.func103 rfl ?_
 repeat'(first|refine gP ?_|fail)
 exact Z0 (λz=>[B z]) ((by unfold bR;rw[I5];simp))
def GP(w:aQ)(a:ew)(h1:ab.sml w.Y)(e:ay.sml w.b3)(g:cN w.Y=true)(b:a.b6=2\/a.b6=3\/a.b6=4)(h:cu (bR a.N) w.Y.O = -1):zzA 34 false [.val (some 26) (aQ.enc .U w),.val (some 5) (ew.enc .U a)] (.tup [some 26,none]) (aQ.enc .own w++[I 90]):=by
 have i:=xK w h1 e;have c:=kF w.Y h1;rw[nr,g]at c;have j:w.Y.O.length<=1048576:=h1.2.2.2.2.1.1;have d:=iy w.Y.O (bR a.N) ω;rw[h]at d;refine fO 148 [(15,11,[56,57,58,59,60,61,62,63,64,65,66])] Tryz.func34 rfl ?_ (.inr (bg (aQ.enc_fr _) ⟨trivial,trivial⟩));rcases b with b|b|b
 all_goals
  repeat'(first|refine gB ?_|(conv=>whnf);first|with_reducible refine Bf.E (λl=>?_) (λl=>?_)|refine C9 (i) ?_|refine C9 (c) ?_|refine Cq.mk (rM (some 4) (bn.enc .U) (bR a.N) w.Y.O) (FK default a).has (λL k rcs n=>?_) ?_|refine C9 (d) ?_)
  ·obtain⟨y,-,rfl,rfl,rfl⟩:=n
   exact FK y a
  rfl
def cl(k:ah)(f c:Nat):Int:=nth (nth k.F.W.T f) c
structure At(k:ah)(a:Int)(f c:Nat):Prop where
 m:(ac k.F.R (a / 16)).e≠0
 f:(ac k.F.R (a / 16)).j=f
 c:a % 16=c
variable{f:Nat}{a:Int}{k:ah}
def At.cell(h:At k a f c):fg k a=cl k f c:=by
 unfold fg cl;rw[h.f,h.c,I3,I3]
def At.mk'(c:aA k=true)(b:(ac k.F.R (a / 16)).e≠0):At k a (cY k a) (a % 16).toNat:=by
 obtain⟨-,-,-,d,-⟩:=cj c b;exact⟨b,by unfold cY;omega,ω⟩
def At.uniq{b d:Nat}(h:At k a f c)(h':At k a b d):f=b/\c=d:=by
 have e:=h.f;have g:=h'.f;have i:=h.c;have j:=h'.c;omega
def N9(h:ab)(a:Int)(f c:Nat):Prop:=
 (∃s∈h.K,ef s a/\(ac (tbl h) s.Q).j=f/\(c:Int) / csz s.a=dD s a/\c<16)\/
 ∃l∈h.M,a=16*l.Q/\∃b:Int,16*l.Q<=b/\b<16*(l.Q+l.a1)/\At h.G b f c
variable{s:ax}{E:List Int}
def aY.pe(a:aY h E)(b:s∈h.K):ac (tbl h) s.Q=nth (tbl h).J s.Q.toNat:=by
 obtain⟨c,d,-⟩:=a.mapped b;unfold ac;rw[CD ⟨c,d⟩]
variable{b:Int}
def tA{l:a7}(a:bF l=true)(h1:16*l.Q<=b)(c:b<16*(l.Q+l.a1)):∃k:Nat,k<l.a1.toNat/\b / 16=l.Q+(k:Nat):=by
 have:=aM a;exact⟨(b / 16 - l.Q).toNat,ω,ω⟩
def lr(e:aY h E){l:a7}(i:l∈h.M)(h1:16*l.Q<=b)(o:b<16*(l.Q+l.a1))(j:At h.G b f c){q:Int}(n:(ac (tbl h) q).e≠0)(g:(ac (tbl h) q).j=f):q=b / 16:=by
 obtain⟨k,p,u⟩:=tA (e.L.lok l i) h1 o;obtain⟨w,y,r,-⟩:=cj e.ker j.m;obtain⟨A,B,t,-⟩:=cj e.ker n;have d:=j.f;rw[r]at d;have a:=n;change (ac h.G.F.R q).e≠0 at a;change (ac h.G.F.R q).j=f at g;rw[t]at a g;have:=e.pg.one l i (b / 16).toNat (d9.2 ⟨k,p,ω⟩) q.toNat (by show q.toNat<h.G.F.R.J.length;omega) a (by show _=(nth h.G.F.R.J _).j;rw[d];exact g);omega
def wN(d:aY h E)(T:N9 h a f c)(U:N9 h b f c):a=b:=by
 have G:∀s∈h.K,(ac (tbl h) s.Q).j=f->∀l∈h.M,∀x:Int,16*l.Q<=x->x<16*(l.Q+l.a1)->At h.G x f c->False:=λs g V l o x H J W=>by
  obtain⟨K,t,q⟩:=d.mapped g;obtain⟨k,w,X⟩:=tA (d.L.lok l o) H J;have:=lr d o H J W (by rw[d.pe g];exact q) V;exact d.L.dis s g l o k w ω
 rcases T with⟨s,g,M,N,O,s4⟩|⟨l,o,Y,x,A,B,P⟩<;>rcases U with⟨u,r,Q,R,S,u4⟩|⟨m,p,K,y,t,q,C⟩
 ·by_cases e:s.Q=u.Q
  ·obtain⟨i,D,rfl⟩:=aK g
   obtain⟨j,F,rfl⟩:=aK r;have:=cU (f:=(·.Q)) d.L.nd D F e;subst this;exact xH (d.L.sok _ g) M.2.2.1 Q.2.2.1 (O.symm.trans S)
  exfalso;have p:=d.pg.mesh s g u r e (by rw[<-d.pe g,<-d.pe r,N,R]);unfold meshable at p;simp only[I0,C0]at p;obtain⟨⟨o1,o2⟩,Z,-,e3⟩:=p;have b1:=(eB _ _).1 M.2.2.2;have b2:=(eB _ _).1 Q.2.2.2;have hn:(a - 16*s.Q) / csz s.a=(b - 16*u.Q) / csz u.a:=by
   have z1:dD s a=dD u b:=by rw[<-O,<-S,Z]
   exact z1
  have:=Z0 (λn=>Nat.testBit n ((a - 16*s.Q) / csz s.a).toNat) e3;simp only[Nat.testBit_and,Nat.zero_testBit]at this;rw[b1.2.2.2,hn,b2.2.2.2]at this;cases this
 ·exact(G s g N m p y t q C).elim
 ·exact(G u r R l o x A B P).elim
 have hq:=lr d o A B P C.m C.f;obtain⟨i,D,rfl⟩:=aK o;obtain⟨j,F,rfl⟩:=aK p;obtain⟨k,w,X⟩:=tA (d.L.lok _ o) A B;obtain⟨k',k3,k4⟩:=tA (d.L.lok _ p) t q;have:=d.L.one i j D F k k' w k3 ω;subst this;rw[Y,K]
def qK(h:ab)(o:bn)(f c:Nat):Prop:=∃j:Int,0<=j/\j<o.o/\At h.G (o.Addr+j) f c
variable{o:bn}
def jj(i:aY h E)(B:o∈h.O)(C:qK h o f c):N9 h o.Addr f c:=by
 obtain⟨k,J,K,a⟩:=C;rcases i.oow o B with⟨s,r,t,D⟩|⟨l,u,F,M⟩
 ·have b:=i.L.sok s r
  have j:=aC b;have d:=b9 j.2.2;have p:=t;obtain⟨N,O,w,-⟩:=t;have g:o.o<=csz s.a:=by
   have P:=gH (n:=o.o) ω;rw[D];have:o.o=1\/o.o=2\/o.o=3\/o.o=4\/o.o=5\/o.o=6\/o.o=7\/o.o=8:=ω
   rcases this with e|e|e|e|e|e|e|e<;>rw[e]<;>decide
  have G:(o.Addr+k) / 16=s.Q:=by rcases d with e|e|e|e<;>rw[e]at w g<;>omega
  have y:=a.f;have H:=a.c;rw[G]at y;refine .inl ⟨s,r,p,y,?_,ω⟩;unfold dD;rcases d with e|e|e|e<;>rw[e]at w g |-<;>omega
 have q:=i.L.lok l u;have A:=q;unfold bF at A;rw[C0]at A;exact .inr ⟨l,u,F,o.Addr+k,ω,ω,a⟩
def J4(a:aY h E){u:bn}(b:o∈h.O)(d:u∈h.O)(h1:qK h o f c)(g:qK h u f c):o=u:=by
 have e:=wN a (jj a b h1) (jj a d g);obtain⟨i,k,rfl⟩:=aK b;obtain⟨j,l,rfl⟩:=aK d;rw[cU (f:=(·.Addr)) (db a.osr) k l e]
def JX(h:ab)(f c:Nat):Prop:=h.u=true/\(ac (tbl h) h.Z.X.a3).j=f/\(c:Int)∈h.Z.X.T.take h.Z.d.toNat
structure CI(h:ab):Prop where
 z:∀f c:Nat,c<16->cl h.G f c≠0->(∃o∈h.O,qK h o f c)\/JX h f c
 jv:h.u=true->∀c:Nat,(c:Int)∈h.Z.X.T.take h.Z.d.toNat->cl h.G (bK h.G h.Z.X.a3) c=cl h.G (bK h.G h.Z.X.a2) c
 jd:h.u=true->∀s∈h.K,s.Q=h.Z.X.a3->∀c:Nat,c<16->(c:Int)∈h.Z.X.T->aS s.b1 ((c:Int) / csz s.a)=false
 jc:h.u=true->∀s∈h.K,s.Q=h.Z.X.a2->∀c:Nat,c<16->aS s.b1 ((c:Int) / csz s.a)=true->(c:Int)∈h.Z.X.T
 jn:h.u=true->(h.Z.b2=0->h.Z.d=0)/\(h.Z.b2=2->h.Z.d=h.Z.X.T.length)
 m1:∀q:Nat,(nth (tbl h).J q).e=1->h.u=true/\(q:Int)=h.Z.X.a2/\h.Z.b2≠0
 m2:h.u=true->h.Z.b2≠0->(ac (tbl h) h.Z.X.a2).e=1
variable{h':ab}
theorem CI.keep(j:CI h)(g:h'.Z=h.Z)(k:h'.u=h.u)(r:∀q:Nat,(nth (tbl h').J q).e=1->(nth (tbl h).J q).e=1)(l:h.u=true->ac (tbl h') h.Z.X.a3=ac (tbl h) h.Z.X.a3/\ac (tbl h') h.Z.X.a2=ac (tbl h) h.Z.X.a2)(t:∀f c:Nat,c<16->cl h'.G f c≠0->cl h.G f c=cl h'.G f c\/∃o∈h'.O,qK h' o f c)(n:∀o∈h.O,∀f c:Nat,c<16->qK h o f c->cl h'.G f c≠0->∃F∈h'.O,qK h' F f c)(u:h.u=true->∀c:Nat,(c:Int)∈h.Z.X.T.take h.Z.d.toNat->cl h'.G (bK h.G h.Z.X.a3) c=cl h.G (bK h.G h.Z.X.a3) c/\cl h'.G (bK h.G h.Z.X.a2) c=cl h.G (bK h.G h.Z.X.a2) c)(p:h.u=true->∀d∈h'.K,d.Q=h.Z.X.a3\/d.Q=h.Z.X.a2->∃s∈h.K,s.Q=d.Q/\s.a=d.a/\∀i,aS d.b1 i=true->aS s.b1 i=true):CI h' where
 z f c b w:=by
  rcases t f c b w with e|e
  ·rcases j.z f c b (by rw[e];exact w) with⟨o,G,y⟩|⟨E,H,J⟩
   ·exact .inl (n o G f c b y w)
   exact .inr ⟨by rw[k];exact E,by rw[g,(l E).1];exact H,by rw[g];exact J⟩
  exact .inl e
 jv a c h2:=by
  rw[k]at a;rw[g]at h2 |-;obtain⟨K,L⟩:=u a c h2;obtain⟨M,N⟩:=l a;have O:bK h'.G h.Z.X.a3=bK h.G h.Z.X.a3:=Z0 (λe:bk=>e.j.toNat) M;have P:bK h'.G h.Z.X.a2=bK h.G h.Z.X.a2:=Z0 (λe:bk=>e.j.toNat) N;rw[O,P,K,L];exact j.jv a c h2
 jd a d hs' hp c b hcm:=by
  rw[k]at a;rw[g]at hp hcm;obtain⟨s,A,B,C,D⟩:=p a d hs' (.inl hp);have:=j.jd a s A (B.trans hp) c b hcm;rw[<-C];rw[<-I6]at this |-;exact λe=>this (D _ e)
 jc a d hs' hp c b hb:=by
  rw[k]at a;rw[g]at hp |-;obtain⟨s,A,B,C,D⟩:=p a d hs' (.inr hp);exact j.jc a s A (B.trans hp) c b (by rw[C];exact D _ hb)
 jn a:=by rw[k]at a;rw[g];exact j.jn a
 m1 q Q:=by rw[k,g];exact j.m1 q (r q Q)
 m2 a h2:=by
  rw[k]at a;rw[g]at h2 |-;rw[(l a).2];exact j.m2 a h2
def Kp(h h':ab):Prop:=∀o∈h'.O,o∈h.O/\∀j:Int,0<=j->j<o.o->fg h'.G (o.Addr+j)=fg h.G (o.Addr+j)
def Kp.refl(h:ab):Kp h h:=λ_ a=>⟨a,λ_ _ _=>rfl⟩
def Ca:type_of% @Kp.refl:=@Kp.refl
def Kp.trans{h1 c:ab}(a:Kp h h1)(b:Kp h1 c):Kp h c:=λo f=>by
 obtain⟨g,i⟩:=b o f;obtain⟨k,l⟩:=a o g;exact⟨k,λj d e=>(i j d e).trans (l j d e)⟩
def aY.jobM(c:aY h E)(f:h.u=true):(ac (tbl h) h.Z.X.a3).e≠0/\(ac (tbl h) h.Z.X.a2).e≠0:=by
 obtain⟨-,⟨a,d,g⟩,b,e,i⟩:=c.job f;rw[<-g,<-i,c.pe d,c.pe e];exact⟨(c.mapped d).2.2,(c.mapped e).2.2⟩
variable{p:Int}
def kP(a:aA k=true)(b:(ac k.F.R p).e≠0):(ac k.F.R p).j=(bK k p:Nat):=by
 obtain⟨-,-,-,c,-⟩:=cj a b;unfold bK;omega
def CI.kern(A:aY h E)(M:CI h)(n:∀o∈h'.O,o∈h.O)(N:h'.Z=h.Z)(B:h'.u=h.u)(b:∀o∈h.O,o∉h'.O->∀f c:Nat,c<16->qK h o f c->cl h'.G f c=0)(F:∀q:Nat,(nth (tbl h').J q).e=1->(nth (tbl h).J q).e=1)(d:h.u=true->ac (tbl h') h.Z.X.a3=ac (tbl h) h.Z.X.a3/\ac (tbl h') h.Z.X.a2=ac (tbl h) h.Z.X.a2)(r:∀o∈h'.O,∀j:Int,0<=j->j<o.o->ac (tbl h') ((o.Addr+j) / 16)=ac (tbl h) ((o.Addr+j) / 16))(t:∀f c:Nat,cl h'.G f c=cl h.G f c\/(cl h'.G f c=0/\∀p:Int,(ac (tbl h') p).e≠0->(ac (tbl h') p).j≠f))(G:h.u=true->∀u∈h'.K,u.Q=h.Z.X.a3\/u.Q=h.Z.X.a2->∃s∈h.K,s.Q=u.Q/\s.a=u.a/\∀i,aS u.b1 i=true->aS s.b1 i=true):CI h'/\Kp h h':=by
 have cov:∀o∈h'.O,∀f c:Nat,qK h o f c->qK h' o f c:=λo O f c ⟨j,w,C,l⟩=>by
  have e:=r o O j w C;unfold tbl at e;exact⟨j,w,C,by rw[e];exact l.m,by rw[e];exact l.f,l.c⟩
 have H:∀{p:Int},ac (tbl h') p=ac (tbl h) p->(ac (tbl h) p).e≠0->∀c,cl h'.G (bK h.G p) c=cl h.G (bK h.G p) c:=fun {p} e B c=>by
  rcases t (bK h.G p) c with g|⟨-,g⟩
  ·exact g
  refine absurd ?_ (g p (by rw[e];exact B));rw[e];exact kP A.ker B
 refine⟨M.keep N B F d (λf c _ J=>.inl ?_) (λo a f c K y J=>?_) (λD c _=>⟨H (d D).1 (A.jobM D).1 c,H (d D).2 (A.jobM D).2 c⟩) G,λo a=>⟨n o a,λj w C=>?_⟩⟩
 ·rcases t f c with g|g
  ·exact g.symm
  exact absurd g.1 J
 ·by_cases e:o∈h'.O
  ·exact⟨o,e,cov o e f c y⟩
  exact absurd (b o a e f c K y) J
 have e:=r o a j w C;have L:=(cV A (n o a) (k:=j) ⟨w,ω⟩).1;have:=H e L ((o.Addr+j) % 16).toNat;unfold fg;unfold tbl at e;rw[e];exact this
def xd(d:aY h E)(y:N9 h a f c)(n:s∈h.K)(g:oZ (tbl h) s.Q)(r:(ac (tbl h) s.Q).j=f):ef s a/\(c:Int) / csz s.a=dD s a/\a / 16=s.Q:=by
 obtain⟨K,M,A⟩:=d.mapped n;rcases y with⟨u,o,p,B,C,N⟩|⟨l,q,-,b,t,w,D⟩
 ·obtain⟨O,P,F⟩:=d.mapped o
  have:=g u.Q.toNat F (by rw[<-d.pe o,<-d.pe n,B,r]);obtain⟨i,G,rfl⟩:=aK n;obtain⟨j,H,rfl⟩:=aK o;have e:=cU (f:=(·.Q)) d.L.nd G H ω;subst e;exact⟨p,C,by have:=p.1;have:=p.2.1;omega⟩
 exfalso;obtain⟨k,J,Q⟩:=tA (d.L.lok l q) t w;have:=lr d q t w D (by rw[d.pe n];exact A) r;exact d.L.dis s n l q k J ω
def sY(n:aY h E)(d:JI h)(o:CI h)(e:h.u=true)(p:N9 h a f c)(g:c<16)(i:(c:Int)∈h.Z.X.T):(ac (tbl h) h.Z.X.a3).j≠f:=λq=>by
 obtain⟨s,k,b,-,j,-,-⟩:=d.sp e;obtain⟨r,t,-⟩:=xd n p k (by rw[j];exact d.sk e) (by rw[j];exact q);have:=o.jd e s k j c g i;rw[t]at this;have l:=r.2.2.2;unfold dD at this;rw[this]at l;cases l
def GI(n:aY h E)(d:JI h)(j:CI h)(g:h.u=true)(o:N9 h a f c)(k:(ac (tbl h) (a / 16)).e≠1)(e:(c:Int)∈h.Z.X.T.take h.Z.d.toNat):(ac (tbl h) h.Z.X.a2).j≠f:=λp=>by
 obtain⟨-,-,b,q,-,i,-⟩:=d.sp g;obtain⟨-,-,r⟩:=xd n o q (by rw[i];exact d.sm g) (by rw[i];exact p);by_cases l:h.Z.b2=0
 ·rw[(j.jn g).1 l]at e;cases e
 have:=j.m2 g l;rw[r,i]at k;exact k this
def A9(n c:Nat):nth (List.replicate n (0:Int)) c=0:=by
 unfold nth;rw[C3,List.getElem?_replicate];split<;>rfl
structure KL(k k':ah)(lo n:Int):Prop where
 out:∀q:Int,¬(lo<=q/\q<lo+n)->ac k'.F.R q=ac k.F.R q
 ins:∀q:Int,lo<=q->q<lo+n->(ac k'.F.R q).e=0
 cel:∀f c:Nat,cl k' f c=cl k f c\/(cl k' f c=0/\∀p:Int,(ac k'.F.R p).e≠0->(ac k'.F.R p).j≠f)
def Ko(k:ah)(F:Int)(f c:Nat):cl (ik k F) f c=cl k f c\/(cl (ik k F) f c=0/\F.toNat=f/\(pagesOn k.F.R F).length=0):=by
 unfold ik;split
 ·rename_i e
  unfold cl;simp only[bE];split
  ·rename_i a;exact .inr ⟨A9 _ _,a.1,e⟩
  exact .inl rfl
 exact .inl rfl
def mj{t:aH}(h:(ac t p).e≠0):0<=p/\p<t.J.length/\ac t p=nth t.J p.toNat:=by
 unfold ac at h |-;split
 ·rename_i e;exact⟨e.1,e.2,rfl⟩
 rename_i e;rw[CB e]at h;exact absurd rfl h
def Nd{t:aH}{F:Int}(h:(pagesOn t F).length=0)(a:(ac t p).e≠0):(ac t p).j≠F:=λe=>by
 obtain⟨c,d,b⟩:=mj a;rw[b]at a e;have:0<(pagesOn t F).length:=eA.2 ⟨p.toNat,ω,a,e⟩;omega
def KL.refl(k:ah)(lo:Int):KL k k lo 0:=⟨λ_ _=>rfl,λq a b=>ω,λ_ _=>.inl rfl⟩
def KL.unmap(h:aA k=true)(j:0<=p/\p<k.F.R.J.length):KL k (ee k p) p 1:=by
 have b:=rO h j;have d:=(me k p).1;have i:∀q:Int,ac (ee k p).F.R q=if q=p then⟨0,0⟩ else ac k.F.R q:=λq=>by
  unfold ac;rw[d];by_cases e:0<=q/\q<k.F.R.J.length
  ·rw[CD e,CD e,b q.toNat]
   by_cases a:q=p
   ·rw[CD a,CD ω]
   rw[CB a,CB ω]
  rw[CB e,CB e];by_cases a:q=p
  ·rw[CD a]
  rw[CB a]
 refine⟨λq g=>by rw[i,CB ω],λq t u=>by rw[i,CD ω],λf c=>?_⟩;unfold ee;split
 ·exact .inl rfl
 rename_i l;rcases Ko (qE k p) (ac k.F.R p).j f c with e|⟨n,a,o⟩
 ·exact .inl e
 refine .inr ⟨n,λq g=>?_⟩;rw[(nv _ _).1]at g |-;have:=Nd o g;have r:=kP h l;unfold bK at r;rw[<-a];omega
variable{lo n:Int}
def KL.trans{i j:ah}{m:Int}(t:0<=n/\0<=m)(a:KL k i lo n)(b:KL i j (lo+n) m):KL k j lo (n+m):=by
 refine⟨λq u=>(b.out q ω).trans (a.out q ω),λq l w=>?_,λf c=>?_⟩
 ·by_cases e:lo+n<=q
  ·exact b.ins q e ω
  rw[b.out q ω];exact a.ins q l ω
 rcases b.cel f c with e|e
 ·rcases a.cel f c with g|⟨o,r⟩
  ·exact .inl (e.trans g)
  refine .inr ⟨e.trans o,λp d=>?_⟩;by_cases h:lo+n<=p/\p<lo+n+m
  ·exact absurd (b.ins p h.1 h.2) d
  rw[b.out p h]at d |-;exact r p d
 exact .inr e
def KL.unmN{k:ah}(a:aA k=true){p:Int}(b:0<=p):∀n:Nat,p+n<=k.F.R.J.length->KL k (unmN k p n) p n
 | 0,_=>KL.refl k p
 | n+1,h=>by
  have c:=KL.unmN a b n ω;have d:=KL.unmap (jf a p n) (p:=p+n) ⟨ω,by rw[(fN k p n).1];omega⟩;have:=KL.trans ⟨ω,ω⟩ c d;rw[show((n:Nat):Int)+1=((n+1:Nat):Int) by omega]at this;exact this
def KL.md{b:ah}(a:KL k b lo n)(f:b.F.R.J.length=k.F.R.J.length)(q:Nat)(h:(nth b.F.R.J q).e≠0):nth b.F.R.J q=nth k.F.R.J q:=by
 have g:=tK h;have c:ac b.F.R (q:Nat)=nth b.F.R.J q:=by unfold ac;rw[CD ⟨ω,ω⟩];rfl
 have d:ac k.F.R (q:Nat)=nth k.F.R.J q:=by unfold ac;rw[CD ⟨ω,ω⟩];rfl
 by_cases e:lo<=q/\(q:Int)<lo+n
 ·rw[<-c,a.ins q e.1 e.2]at h;exact absurd rfl h
 rw[<-c,<-d,a.out q e]
def DH(h:0<=aJ n):n<=csz (aJ n):=by
 have a:=gH h;have:n=1\/n=2\/n=3\/n=4\/n=5\/n=6\/n=7\/n=8:=ω
 rcases this with e|e|e|e|e|e|e|e<;>rw[e]<;>decide
def PM(k:aY h E)(p:o∈h.O)(g:¬aJ o.o<0)(i:qK h o f c):f=cY h.G o.Addr/\(o.Addr % 16).toNat<=c/\c<(o.Addr % 16).toNat+(csz (aJ o.o)).toNat:=by
 obtain⟨⟨s,q,r,t⟩,-⟩:=(dU k p).2 g;obtain⟨A,B,l,-⟩:=r;have a:=DH (n:=o.o) ω;have b:=b9 (aC (k.L.sok s q)).2.2;rw[<-t]at a |-;obtain⟨j,C,D,d⟩:=i;have u:=d.c;have w:=d.f;have y:(o.Addr+j) / 16=o.Addr / 16:=by rcases b with e|e|e|e<;>rw[e]at l a<;>omega
 rw[y]at w;refine⟨by unfold cY;omega,?_⟩;rcases b with e|e|e|e<;>rw[e]at l a |-<;>omega
def CI.clrS{h:ab}{E:List Int}(n:aY h E)(p:CI h){i:Nat}{a:Int}(g:i<h.K.length)(l:ef (nth h.K i) a):CI (clrS h i a):=by
 have b:=n.L.sok _ (am g);refine p.keep rfl rfl (λq h=>h) (λ_=>⟨rfl,rfl⟩) (λf c _ _=>.inl rfl) (λo r f c _ d _=>⟨o,r,d⟩) (λ_ c _=>⟨rfl,rfl⟩) λ_ w e _=>?_
 rcases ed e with rfl|⟨j,t,-,rfl⟩
 ·refine⟨_,am g,rfl,rfl,λk u=>((Fb (eS b) (qt b ⟨l.1,l.2.1⟩) k).1 u).1⟩
 exact⟨_,am t,rfl,rfl,λ_ h=>h⟩
variable{j:Int}
def Nk(a:aY h E)(p:o∈h.O)(h1:0<=j)(J:j<o.o)(r:s∈h.K)(T:(o.Addr+j) / 16=s.Q):ef s o.Addr:=by
 obtain⟨U,V,W⟩:=a.mapped r;have t:=(cV a p (k:=j) ⟨h1,ω⟩).1;have w:=At.mk' a.ker t;rcases jj a p ⟨j,h1,J,w⟩ with⟨u,K,G,-,-,-⟩|⟨l,b,X,-⟩
 ·rcases a.oow o p with⟨v,q,c,M⟩|⟨l,b,N,O⟩
  ·have y:=a.L.sok v q
   have A:=aC y;have B:=b9 A.2.2;have C:=c;obtain⟨Y,Z,P,-⟩:=c;have D:o.o<=csz v.a:=by
    have hb:=gH (n:=o.o) ω;rw[M];have:o.o=1\/o.o=2\/o.o=3\/o.o=4\/o.o=5\/o.o=6\/o.o=7\/o.o=8:=ω
    rcases this with e|e|e|e|e|e|e|e<;>rw[e]<;>decide
   have Q:(o.Addr+j) / 16=v.Q:=by rcases B with e|e|e|e<;>rw[e]at P D<;>omega
   obtain⟨i,R,rfl⟩:=aK r;obtain⟨k,S,rfl⟩:=aK q;have:=cU (f:=(·.Q)) a.L.nd R S (by show(nth h.K i).Q=(nth h.K k).Q;omega);subst this;exact C
  exfalso;have:=aM (a.L.lok l b);exact a.L.dis u K l b 0 ω (by have:=G.1;have:=G.2.1;omega)
 exfalso;have H:=a.L.lok l b;unfold bF at H;rw[C0]at H;rcases a.oow o p with⟨v,q,c,-⟩|⟨F,d,N,O⟩
 ·exact a.L.dis v q l b 0 ω (by have:=c.1;have:=c.2.1;omega)
 have g:=a.L.lok F d;unfold bF at g;rw[C0]at g;exact a.L.dis s r F d ((o.Addr+j) / 16 - F.Q).toNat ω ω
def CI.giveP{h:ab}{E:List Int}(b:aY h E)(f:CI h){i:Nat}(e:i<h.K.length)(g:(nth h.K i).b1=0)(c:gk h (nth h.K i).Q=false):CI (giveP h i)/\Kp h (giveP h i):=by
 obtain⟨k,l,A⟩:=b.mapped (am e);have kl:=KL.unmap b.ker (p:=(nth h.K i).Q) ⟨k,l⟩;refine CI.kern b f (λo a=>a) rfl rfl (λo a n=>absurd a n) (λq r=>?_) (λt=>?_) (λo a j u w=>?_) kl.cel (λ_ B d _=>?_)
 ·have:=kl.md (me _ _).1 q (by show(nth (tbl (Ab.giveP h i)).J q).e≠0;omega)
  show(nth h.G.F.R.J q).e=1;rw[<-this];exact r
 ·obtain⟨C,D⟩:=yK c t
  exact⟨kl.out _ ω,kl.out _ ω⟩
 ·refine kl.out _ λF=>?_
  exact wM g _ (Nk b a u w (am e) ω)
 obtain⟨j,y,-,rfl⟩:=dd.1 d;exact⟨_,am y,rfl,rfl,λ_ h=>h⟩
def CI.freeS{h:ab}{E:List Int}{a:Int}{i:Nat}(c:aY h (a::E))(j:CI h)(b:i<h.K.length)(d:ef (nth h.K i) a):CI (freeS h i a)/\Kp h (freeS h i a):=by
 have k:=c.give b d;have f:=CI.clrS c j b d;unfold Ab.freeS;split
 ·rename_i e
  have g:nth (Ab.clrS h i a).K i=nl (nth h.K i) (dD (nth h.K i) a):=by unfold Ab.clrS;simp only[bE,true_and];rw[CD b]
  obtain⟨l,n⟩:=CI.giveP (h:=Ab.clrS h i a) k f (i:=i) (by unfold Ab.clrS;simp only[W1];exact b) (by rw[g];exact e.1) (by rw[g];exact e.2);exact⟨l,n⟩
 exact⟨f,Ca h⟩
def CI.freeA{h:ab}{E:List Int}{a:Int}(b:aY h (a::E))(c:CI h):CI (freeA h a)/\Kp h (freeA h a):=by
 obtain⟨d,e,-⟩:=b.at (b.hin a (C2 ..));exact CI.freeS b c d e
def CI.recyc{h:ab}{E:List Int}{a:Int}{t:Nat}(c:aY h (a::E))(b:CI h):CI (recyc t h a)/\Kp h (recyc t h a):=by
 unfold Ab.recyc;split
 ·exact⟨⟨b.z,b.jv,b.jd,b.jc,b.jn,b.m1,b.m2⟩,Ca h⟩
 exact CI.freeA c b
def CI.recycs{t:Nat}{E:List Int} : ∀{az:List Int}{h:ab},aY h (az++E)->t<h.S.length->CI h->CI (recycs t h az)/\Kp h (recycs t h az)
 | [],h,_,_,b=>⟨b,Ca h⟩
 | a::az,h,c,d,b=>by
  obtain⟨e,f⟩:=CI.recyc (t:=t) c b;obtain⟨g,i⟩:=CI.recycs (az:=az) (h:=Ab.recyc t h a) (c.recyc d) (by rw[(ou t h a).1];exact d) e;exact⟨g,f.trans i⟩
def CI.freeAs{E:List Int} : ∀{az:List Int}{h:ab},aY h (az++E)->CI h->CI (freeAs h az)/\Kp h (freeAs h az)
 | [],h,_,b=>⟨b,Ca h⟩
 | a::az,h,c,b=>by
  obtain⟨d,e⟩:=CI.freeA c b;obtain⟨f,g⟩:=CI.freeAs (az:=az) (h:=Ab.freeA h a) c.freeA d;exact⟨f,e.trans g⟩
def CI.flushN{t:Nat}{h:ab}(c:aY h [])(d:t<h.S.length)(e:CI h):∀{k:Nat},k<=4->CI (flushN t h k).1/\Kp h (flushN t h k).1
 | 0,_=>⟨e,Ca h⟩
 | k+1,p=>by
  obtain⟨a,g⟩:=CI.flushN c d e (k:=k) ω;obtain⟨f,q,-⟩:=jO c d (k:=k) ω;have b:t<(Ab.flushN t h k).1.S.length:=ω
  have i:=pV (f.cach _ (am b));have j:=f.spilt b (k:=k) ω;have l:CI (spilt (Ab.flushN t h k).1 t k):=⟨a.z,a.jv,a.jd,a.jc,a.jn,a.m1,a.m2⟩
  obtain⟨n,o⟩:=CI.freeAs j l;exact⟨n,g.trans o⟩
def CI.tick{h:ab}{n:Int}(c:aY h [])(a:CI h)(d:0<=n)(b:h.b5+n<=1000000):CI (tick h n)/\Kp h (tick h n):=by
 have e:=c.aged d b;have f:CI (aged h n):=⟨a.z,a.jv,a.jd,a.jc,a.jn,a.m1,a.m2⟩
 exact CI.freeAs e f
def CI.collect{h:ab}{t:Nat}(b:aY h [])(a:CI h)(c:t<h.S.length):CI (collect h t)/\Kp h (collect h t):=by
 have g:=(dP.1 b.mail).1;have d:=b.nc;have e:=b.coll (t:=t) ω;have f:CI {h with q:=lH h.q t}:=⟨a.z,a.jv,a.jd,a.jc,a.jn,a.m1,a.m2⟩
 exact CI.recycs e c f
def uL(r:List Int)(o:Nat):∀(n c:Nat),nth (lI r o n) c=if o<=c/\c<o+n then 0 else nth r c
 | 0,c=>by rw[CB ω];rfl
 | n+1,c=>by
  unfold lI;rw[bE,uL r o n c,nh];by_cases e:o+n=c
  ·rw[CD (show o<=c/\c<o+(n+1) by omega)]
   by_cases a:c<r.length
   ·rw[CD ⟨e,a⟩]
   rw[CB ω,CB ω];unfold nth;rw[C3,Z2 ω];rfl
  rw[CB ω];by_cases a:o<=c/\c<o+n
  ·rw[CD a,CD ω]
  rw[CB a,CB ω]
def xN(k:ah)(a:Int)(n f c:Nat):cl (f7 k a n) f c=cl k f c\/(cl (f7 k a n) f c=0/\f=cY k a/\(a % 16).toNat<=c/\c<(a % 16).toNat+n):=by
 unfold cl f7;simp only[bE];split
 ·rename_i e
  rw[uL];split
  ·rename_i b;exact .inr ⟨rfl,e.1.symm,b.1,b.2⟩
  rw[e.1];exact .inl rfl
 exact .inl rfl
def EA{n:Nat}(h1:(a % 16).toNat<=c)(b:c<(a % 16).toNat+n):cl (f7 k a n) (cY k a) c=0:=by
 unfold cl f7;simp only[bE];by_cases e:cY k a<k.F.W.T.length
 ·rw[CD ⟨trivial,e⟩,uL,CD ⟨h1,b⟩]
 rw[CB (λx=>e x.2)];have:nth k.F.W.T (cY k a)=[]:=by
  unfold nth;rw[C3,Z2 ω];rfl
 rw[this];rfl
def CI.clearO(b:aY h E)(u:JI h)(O:CI h)(P:i<h.O.length)(w:¬aJ (nth h.O i).o<0)(hw:(ac (tbl h) ((nth h.O i).Addr / 16)).e≠1)(y:h'.G=f7 h.G (nth h.O i).Addr (csz (aJ (nth h.O i).o)).toNat)(e2:h'.O=dele h.O i)(e3:h'.K=h.K)(e4:h'.Z=h.Z)(e5:h'.u=h.u):CI h'/\Kp h h':=by
 obtain⟨⟨s,H,s1,s2⟩,hc3⟩:=(dU b (am P)).2 w;have Q:=s1;obtain⟨g1,g2,g3,-⟩:=s1;have A:=b.L.sok s H;have B:=b9 (aC A).2.2;obtain⟨m1,m2,m3⟩:=b.mapped H;have R:(nth h.O i).Addr / 16=s.Q:=ω
 have J:tbl h'=tbl h:=by unfold tbl;rw[y];rfl
 have S:(ac (tbl h) s.Q).j=(cY h.G (nth h.O i).Addr:Nat):=by
  unfold cY;rw[R];exact kP b.ker (by show(ac (tbl h) s.Q).e≠0;rw[b.pe H];exact m3)
 have ex:∀c:Nat,((nth h.O i).Addr % 16).toNat<=c->c<((nth h.O i).Addr % 16).toNat+(csz (aJ (nth h.O i).o)).toNat->N9 h (nth h.O i).Addr (cY h.G (nth h.O i).Addr) c/\c<16:=λc h1 T=>by
  rw[<-s2]at T;have r:c<16:=by rcases B with e|e|e|e<;>rw[e]at g3 T<;>omega
  refine⟨.inl ⟨s,H,Q,S,?_,r⟩,r⟩;unfold dD;rcases B with e|e|e|e<;>rw[e]at g3 T |-<;>omega
 have cv:∀o∈h.O,∀f c:Nat,qK h o f c->qK h' o f c:=λo d f c ⟨j,K,U,a⟩=>by
  have e:h'.G.F.R=h.G.F.R:=J;exact⟨j,K,U,by rw[e];exact a.m,by rw[e];exact a.f,a.c⟩
 have same:∀o∈h.O,o≠nth h.O i->∀f c:Nat,qK h o f c->cl h'.G f c=cl h.G f c:=λo d V f c l=>by
  rw[y];rcases xN h.G (nth h.O i).Addr (csz (aJ (nth h.O i).o)).toNat f c with g|⟨-,W,X,Y⟩
  ·exact g
  exfalso;have hx:=(ex c X Y).1;rw[<-W]at hx;have ea:=wN b (jj b d l) hx;obtain⟨k,n,rfl⟩:=aK d;have:=cU (f:=(·.Addr)) (db b.osr) n P ea;subst this;exact V rfl
 have notO:∀o∈h'.O,o≠nth h.O i/\o∈h.O:=λo d=>by
  rw[e2]at d;obtain⟨k,n,Z,rfl⟩:=dd.1 d;refine⟨λe=>Z ?_,am n⟩;exact cU (f:=(·.Addr)) (db b.osr) n P (by rw[e])
 refine⟨O.keep e4 e5 (by rw[J];exact λq h=>h) (λ_=>by rw[J];exact⟨rfl,rfl⟩) (λf c _ M=>.inl ?_) (λo d f c r l M=>?_) (λN c C=>?_) (λ_ s' hs' _=>⟨s',by rw[<-e3];exact hs',rfl,rfl,λ_ h=>h⟩),λo d=>⟨(notO o d).2,λj K U=>?_⟩⟩
 ·rw[y]at M |-
  rcases xN h.G (nth h.O i).Addr (csz (aJ (nth h.O i).o)).toNat f c with g|g
  ·exact g.symm
  exact absurd g.1 M
 ·by_cases e:o=nth h.O i
  ·exfalso
   subst e;obtain⟨t,D,F⟩:=PM b d w l;exact M (by rw[y,t];exact EA D F)
  refine⟨o,?_,cv o d f c l⟩;rw[e2];obtain⟨k,n,rfl⟩:=aK d;exact dd.2 ⟨k,n,λx=>e (by rw[x]),rfl⟩
 ·have hc16:c<16:=by
   have hm2:=List.mem_of_mem_take C;obtain⟨k,n,e⟩:=aK hm2;have:=gm (dA.1 (b.job N).1).1 n;omega
  have key:∀p:Int,(ac (tbl h) p).e≠0->(∀c:Nat,N9 h (nth h.O i).Addr (cY h.G (nth h.O i).Addr) c->c<16->(c:Int)∈h.Z.X.T.take h.Z.d.toNat->(ac (tbl h) p).j≠(cY h.G (nth h.O i).Addr:Nat))->cl h'.G (bK h.G p) c=cl h.G (bK h.G p) c:=λp hp Z=>by
   rw[y];rcases xN h.G (nth h.O i).Addr (csz (aJ (nth h.O i).o)).toNat (bK h.G p) c with g|⟨-,W,X,Y⟩
   ·exact g
   exfalso;obtain⟨t,D⟩:=ex c X Y;refine Z c t D C ?_;rw[<-W];exact kP b.ker hp
  obtain⟨jm1,jm2⟩:=b.jobM N;exact⟨key _ jm1 λc t D F=>sY b u O N t D (List.mem_of_mem_take F),key _ jm2 λc t _ F=>GI b u O N t hw F⟩
 obtain⟨o1,o2⟩:=notO o d;have a:=At.mk' b.ker (cV b o2 (k:=j) ⟨K,ω⟩).1;have G:At h'.G (o.Addr+j) (cY h.G (o.Addr+j)) ((o.Addr+j) % 16).toNat:=by
  have e:h'.G.F.R=h.G.F.R:=J;exact⟨by rw[e];exact a.m,by rw[e];exact a.f,a.c⟩
 rw[G.cell,a.cell];exact same o o2 o1 _ _ ⟨j,K,U,a⟩
def pZ(h:aA k=true)(d:∀p:Int,(ac k.F.R p).e≠0->(ac k.F.R p).j≠f)(c:Nat):cl k f c=0:=by
 obtain⟨-,i,-,j,-⟩:=aG.1 h;obtain⟨-,-,w,n⟩:=bc.1 i;unfold cl;by_cases o:f<k.F.W.T.length
 ·have r:nth k.F.W.a6 f=false:=by
   rw[j f ω,C5];intro a;obtain⟨q,y,t,u⟩:=eA.1 a;have e:ac k.F.R (q:Nat)=nth k.F.R.J q:=by unfold ac;rw[CD ⟨ω,ω⟩];rfl
   exact d (q:Nat) (by rw[e];exact t) (by rw[e];exact u)
  have b:=n f o;unfold iq at b;rw[r]at b;simp only[I0,C0,V4]at b;by_cases g:c<(nth k.F.W.T f).length
  ·have:=b.2 _ (am g)
   unfold iW at this;rw[I0,Bool.false_or,C0,C0]at this;exact this.2
  unfold nth;rw[C3 (l:=List.getD _ _ _),Z2 (by unfold nth at g;omega)];rfl
 have:nth k.F.W.T f=[]:=by
  unfold nth;rw[C3,Z2 ω];rfl
 rw[this];rfl
def CI.freeL{h:ab}{E:List Int}(d:aY h E)(T:CI h){i k:Nat}(O:i<h.O.length)(r:k<h.M.length)(U:(nth h.O i).Addr=16*(nth h.M k).Q):CI (freeL h i k)/\Kp h (freeL h i k):=by
 obtain⟨V,W⟩:=uC d r;have t:=d.L.lok _ (am r);have X:=aM t;have kl:=KL.unmN d.ker V _ W;have ker:=jf d.ker (nth h.M k).Q (nth h.M k).a1.toNat;have u:=(fN h.G (nth h.M k).Q (nth h.M k).a1.toNat).1;have notO:∀o∈dele h.O i,o≠nth h.O i/\o∈h.O:=λo n=>by
  obtain⟨j,y,Y,rfl⟩:=dd.1 n;exact⟨λe=>Y (cU (f:=(·.Addr)) (db d.osr) y O (by rw[e])),am y⟩
 have onL:∀b:Int,(nth h.M k).Q<=b / 16->b / 16<(nth h.M k).Q+((nth h.M k).a1.toNat:Nat)->∀f c:Nat,At h.G b f c->N9 h (nth h.O i).Addr f c:=λb h1 h2 f c g=>.inr ⟨_,am r,U,b,ω,ω,g⟩
 refine CI.kern d T (λo n=>(notO o n).2) rfl rfl (λo n Z f c h16 C=>?_) (λq hq=>?_) (λhm=>?_) (λo n j D P=>?_) kl.cel (λ_ s' F _=>⟨s',F,rfl,rfl,λ_ h=>h⟩)
 ·-- the object itself
  have G:o=nth h.O i:=by
   refine Classical.byContradiction λe=>Z ?_
   obtain⟨j,y,rfl⟩:=aK n;exact dd.2 ⟨j,y,λx=>e (by rw[x]),rfl⟩
  subst G;rcases kl.cel f c with e|e
  ·refine pZ ker (λp A H=>?_) c
   obtain⟨j,D,P,g⟩:=C;have hsz:(nth h.O i).o<=16*(nth h.M k).a1:=by
    rcases d.oow _ n with⟨s,J,Q,-⟩|⟨l,R,e1,e2⟩
    ·exact absurd (show s.Q=(nth h.M k).Q+((0:Nat):Int) by have:=Q.1;have:=Q.2.1;omega) (d.L.dis s J _ (am r) 0 ω)
    obtain⟨m,K,rfl⟩:=aK R;have:=d.L.one m k K r 0 0 (by have:=aM (d.L.lok _ R);omega) ω ω;subst this;unfold bF at t;rw[C0]at t;omega
   by_cases B:(nth h.M k).Q<=p/\p<(nth h.M k).Q+((nth h.M k).a1.toNat:Nat)
   ·exact A (kl.ins p B.1 B.2)
   have w:=kl.out p B;change ac (unmN h.G (nth h.M k).Q (nth h.M k).a1.toNat).F.R p=_ at w;change (ac (unmN h.G (nth h.M k).Q (nth h.M k).a1.toNat).F.R p).e≠0 at A;change (ac (unmN h.G (nth h.M k).Q (nth h.M k).a1.toNat).F.R p).j=_ at H;rw[w]at A H;have:=lr d (am r) (b:=(nth h.O i).Addr+j) ω ω g A H;omega
  exact e.1
 ·have:=kl.md u q (by show(nth (tbl (Ab.freeL h i k)).J q).e≠0;omega)
  show(nth h.G.F.R.J q).e=1;rw[<-this];exact hq
 ·obtain⟨-,⟨a,ha,M⟩,b,hb,eb⟩:=d.job hm
  have no:∀s∈h.K,¬((nth h.M k).Q<=s.Q/\s.Q<(nth h.M k).Q+((nth h.M k).a1.toNat:Nat)):=λs J B=>d.L.dis s J _ (am r) (s.Q - (nth h.M k).Q).toNat ω ω
  exact⟨by rw[<-M];exact kl.out _ (no a ha),by rw[<-eb];exact kl.out _ (no b hb)⟩
 obtain⟨o1,N⟩:=notO o n;refine kl.out _ λS=>o1 ?_
 have g:=At.mk' d.ker (cV d N (k:=j) ⟨D,ω⟩).1;have e:=wN d (jj d N ⟨j,D,P,g⟩) (onL _ S.1 S.2 _ _ g);obtain⟨m,K,rfl⟩:=aK N;rw[cU (f:=(·.Addr)) (db d.osr) K O e]
def CI.freeT{h:ab}{t i:Nat}(b:aY h [])(c:JI h)(d:CI h)(e:i<h.O.length)(n:t<h.S.length):CI (freeT h t i).1/\Kp h (freeT h t i).1:=by
 unfold Ab.freeT;split
 ·rename_i a
  obtain⟨l,o,f,-⟩:=(dU b (am e)).1 a;obtain⟨g,j,-⟩:=sq o f;exact CI.freeL b d e g j
 rename_i a;split
 ·exact⟨d,Ca h⟩
 rename_i k;split
 ·obtain⟨p,g⟩:=CI.clearO (h':=inQuar h i) b c d e a k rfl rfl rfl rfl rfl
  have f:=b.inQuar e a;obtain⟨q,j⟩:=CI.recycs (t:=t) (E:=[]) (az:=(z6 h.a9 (ma h (nth h.O i))).map (·.Addr)) (h:=inQuar h i) (by rw[List.append_nil];exact f) n p;exact⟨q,g.trans j⟩
 split
 ·exact CI.clearO (h':=NW h t i) b c d e a k rfl rfl rfl rfl rfl
 exact⟨d,Ca h⟩
structure KA(k k':ah)(lo n:Int):Prop where
 out:∀q:Int,¬(lo<=q/\q<lo+n)->ac k'.F.R q=ac k.F.R q
 md:∀q:Nat,(nth k'.F.R.J q).e=1->(nth k.F.R.J q).e=1
 cel:∀f c:Nat,cl k' f c=cl k f c
def NI{a:ah}(b:a.F.R.J.length=k.F.R.J.length)(h:∀q:Nat,¬(lo<=q/\(q:Int)<lo+n)->nth a.F.R.J q=nth k.F.R.J q)(q:Int)(c:¬(lo<=q/\q<lo+n)):ac a.F.R q=ac k.F.R q:=by
 unfold ac;rw[b];by_cases e:0<=q/\q<k.F.R.J.length
 ·rw[CD e,CD e];exact h q.toNat ω
 rw[CB e,CB e]
def KA.newK{r:ah × Bool}(s:wa k p r):KA k r.1 p 1:=by
 cases e:r.2 with
 | false=>rw[s.no e];exact⟨λ_ _=>rfl,λ_ h=>h,λ_ _=>rfl⟩
 | true=>
  obtain⟨f,-,-,b,-⟩:=s.yes e;refine⟨NI s.len λq a=>by rw[b,CB ω],λq a=>?_,λf c=>by unfold cl;rw[s.cells]⟩;rw[b]at a;split at a
  ·exact absurd a (by show ¬(2:Int)=1;decide)
  exact a
def KA.newsK{n:Nat}{r:ah × Nat}(s:m7 k p n r):KA k r.1 p r.2:=by
 refine⟨NI s.len s.out,λq a=>?_,λf c=>by unfold cl;rw[s.cells]⟩;by_cases e:p<=q/\(q:Int)<p+r.2
 ·rw[(s.new q e.1 e.2).1]at a;exact absurd a (by decide)
 rw[s.out q e]at a;exact a
def oy(d:aY h E)(b:∀q:Nat,lo<=q->(q:Int)<lo+n->(nth (tbl h).J q).e=0)(a:(ac (tbl h) p).e≠0):¬(lo<=p/\p<lo+n):=λe=>by
 obtain⟨f,-,c⟩:=mj a;rw[c]at a;exact a (b p.toNat ω ω)
def CI.mapped(b:aY h E)(t:CI h)(e:KA h.G h'.G lo n)(g:∀q:Nat,lo<=q->(q:Int)<lo+n->(nth (tbl h).J q).e=0)(i:h'.O=h.O)(u:h'.Z=h.Z)(l:h'.u=h.u)(p:h.u=true->∀d∈h'.K,d.Q=h.Z.X.a3\/d.Q=h.Z.X.a2->d∈h.K):CI h'/\Kp h h':=by
 refine CI.kern b t (λo a=>by rw[<-i];exact a) u l (λo a r=>absurd (by rw[i];exact a) r) e.md (λa=>?_) (λo a j w C=>?_) (λf c=>.inl (e.cel f c)) (λa d r y=>⟨d,p a d r y,rfl,rfl,λ_ h=>h⟩)
 ·obtain⟨A,B⟩:=b.jobM a
  exact⟨e.out _ (oy b g A),e.out _ (oy b g B)⟩
 rw[i]at a;exact e.out _ (oy b g (cV b a (k:=j) ⟨w,ω⟩).1)
structure CA(h:ab)(r:ab):Prop where
 ci:CI r
 kp:Kp h r
 ob:r.O=h.O
def CI.slotT{h:ab}(e:CI h){i:Nat}(t:i<h.K.length)(a:gk h (nth h.K i).Q=false):CI (slotT h i):=by
 refine e.keep rfl rfl (λq h=>h) (λ_=>⟨rfl,rfl⟩) (λf c _ _=>.inl rfl) (λo g f c _ b _=>⟨o,g,b⟩) (λ_ c _=>⟨rfl,rfl⟩) λk u d l=>?_
 rcases ed d with rfl|⟨j,n,-,rfl⟩
 ·obtain⟨p,r⟩:=yK a k
  exact(l.elim p r).elim
 exact⟨_,am n,rfl,rfl,λ_ h=>h⟩
def CI.smallA{h:ab}{t c:Nat}(d:aY h [])(a:CI h)(V:t<h.S.length)(G:c<=3)(H:h.G.Calls<=90000):CA h (smallA h t c).1:=by
 unfold Ab.smallA;split
 ·exact⟨⟨a.z,a.jv,a.jd,a.jc,a.jn,a.m1,a.m2⟩,Ca h,rfl⟩
 split
 ·rename_i i D
  have o:=List.find?_some D;have b:=List.mem_range.1 (List.mem_of_find?_eq_some D);unfold sV at o;simp only[I0,C0,Bool.not_eq_true']at o;exact⟨CI.slotT a b o.2.1,Ca h,rfl⟩
 split
 ·exact⟨a,Ca h,rfl⟩
 rename_i J;have f:(au h.w 1).2.2=true:=by simpa using J
 obtain⟨K,L,r,E⟩:=kg d (W5 1) f;have s:=wa.of (p:=(au h.w 1).2.1) d.ker ω ⟨K,by have:(au h.w 1).2.1+1<=(h.G.F.R.J.length:Nat):=L;omega⟩ (r _ ω ω);have F:=KA.newK s;split
 ·obtain⟨g,j⟩:=CI.mapped (h':={h with G:=(newK h.G (au h.w 1).2.1).1}) d a F (λq u w=>r q u w) rfl rfl rfl (λ_ k b _=>b)
  exact⟨g,j,rfl⟩
 rename_i M;have A:(newK h.G (au h.w 1).2.1).2=true:=by simpa using M
 have k:wa h.G (au h.w 1).2.1 ((newK h.G (au h.w 1).2.1).1,true):=by rw[<-A];exact s
 have W:=d.addS (c:=c) ⟨ω,ω⟩ f k;have N:JK h (rL h c):=JK.addS k;have jno:∀l:h.u=true,(au h.w 1).2.1≠h.Z.X.a3/\(au h.w 1).2.1≠h.Z.X.a2:=λl=>by
  obtain⟨-,⟨y,O,P⟩,⟨z,Q,R⟩⟩:=d.job l;exact⟨λe=>E _ (W5 _) ω (by rw[e,<-P];exact dH O),λe=>E _ (W5 _) ω (by rw[e,<-R];exact dH Q)⟩
 obtain⟨g,j⟩:=CI.mapped (h':=rL h c) d a F (λq u w=>r q u w) rfl rfl rfl (λl k b S=>by
   rcases cQ.1 b with rfl|b
   · obtain⟨B,C⟩:=jno l
     exact(S.elim B C).elim
   exact b)
 obtain⟨T,U⟩:=BL (HO (au h.w 1).2.1) h.K ⟨(au h.w 1).2.1,c,0⟩;unfold oO;split
 ·exact⟨g,j,rfl⟩
 refine⟨CI.slotT (h:=rL h c) g (i:=rH h) T ?_,j,rfl⟩;show gk (rL h c) (nth (jP (HO (au h.w 1).2.1) h.K ⟨(au h.w 1).2.1,c,0⟩) (rH h)).Q=false;unfold rH;rw[U,N.pg,<-I6];intro n;unfold gk at n;simp only[I0,I7,C0]at n;obtain⟨B,C⟩:=jno n.1;exact n.2.elim B C
structure Uj(h h':ab)(x:bn):Prop where
 mem:∀o,o∈h'.O↔o=x\/o∈h.O
 ze:∀j:Int,0<=j->j<x.o->fg h'.G (x.Addr+j)=0
 ke:∀o∈h.O,∀j:Int,0<=j->j<o.o->fg h'.G (o.Addr+j)=fg h.G (o.Addr+j)
def Uj.of{g:ab}{L:List Int}{x:bn}(A:aY g E)(M:CI g)(b:aY h' L)(r:JI h')(B:CI h')(C:∀p:Int,(ac (tbl g) p).e≠0->ac (tbl h') p=ac (tbl g) p)(d:∀f c,cl h'.G f c=cl g.G f c)(l:∀o,o∈h'.O↔o=x\/o∈g.O)(N:x∉g.O)(G:h'.Z=g.Z)(O:h'.u=g.u)(D:g.O=h.O)(P:Kp h g):Uj h h' x:=by
 have Q:∀o∈g.O,∀f c:Nat,qK g o f c->qK h' o f c:=λo D f c ⟨j,n,t,a⟩=>by
  have e:=C _ a.m;unfold tbl at e;exact⟨j,n,t,by rw[e];exact a.m,by rw[e];exact a.f,a.c⟩
 refine⟨λo=>by rw[l,D],λj n t=>?_,λo u j n t=>?_⟩
 ·have q:=(l x).2 (.inl rfl)
  have a:=At.mk' b.ker (cV b q (k:=j) ⟨n,ω⟩).1;rw[a.cell];refine Classical.byContradiction λH=>?_
  have w:((x.Addr+j) % 16).toNat<16:=ω
  rw[d]at H;have i:qK h' x _ _:=⟨j,n,t,a⟩
  rcases M.z _ _ w H with⟨o,u,F⟩|⟨J,R,S⟩
  ·have:=J4 b ((l o).2 (.inr u)) q (Q o u _ _ F) i
   subst this;exact N u
  refine sY b r B (by rw[O];exact J) (jj b q i) w (by rw[G];exact List.mem_of_mem_take S) ?_;rw[G,C _ (A.jobM J).1];exact R
 have K:o∈g.O:=by rw[D];exact u
 refine Eq.trans ?_ ((P o K).2 j n t);have a:=At.mk' A.ker (cV A K (k:=j) ⟨n,ω⟩).1;have e:=C _ a.m;have y:At h'.G (o.Addr+j) (cY g.G (o.Addr+j)) ((o.Addr+j) % 16).toNat:=by
  unfold tbl at e;exact⟨by rw[e];exact a.m,by rw[e];exact a.f,a.c⟩
 rw[y.cell,a.cell,d]
def CI.addO{h:ab}(e:CI h)(a size t:Int):CI (addO h a size t):=
 e.keep rfl rfl (λq h=>h) (λ_=>⟨rfl,rfl⟩) (λf c _ _=>.inl rfl) (λo g f c _ b _=>⟨o,cQ.2 (.inr g),b⟩) (λ_ c _=>⟨rfl,rfl⟩) λ_ i d _=>⟨i,d,rfl,rfl,λ_ h=>h⟩
structure AL(h:ab)(t size:Int)(r:ab × Int × Int):Prop where
 ci:CI r.1
 no:r.2.2≠0->r.1.O=h.O/\Kp h r.1/\r.1.d=h.d/\r.2.1 = -1
 yes:r.2.2=0->Uj h r.1 ⟨h.d,r.2.1,size,t⟩/\r.1.d=h.d+1/\1<=size/\size<=1000/\0<=r.2.1
variable{size:Int}
def P2(b:aY h E){t:Int} : (⟨h.d,a,size,t⟩ : bn)∉h.O:=λc=>by
 have:=(b.onu _ c).2.1;simp only at this;omega
def CI.largeA{h:ab}{t size:Int}(b:aY h [])(C:JI h)(y:CI h)(L:9<=size/\size<=1000)(D:h.d<1000000)(E:h.G.Calls<=90000)(U:0<=t/\t<=h.S.length - 1):AL h t size (largeA h t size):=by
 have hl:(gQ size:Int)=(size+15) / 16:=by unfold gQ;omega
 have a:=AH b L D E U;unfold Ab.largeA at a |-;by_cases F:(au h.w (gQ size:Nat)).2.2=false
 ·rw[CD F]
  exact⟨y,λ_=>⟨rfl,Ca h,rfl,rfl⟩,λe=>by cases e⟩
 rw[CB F]at a |-;have G:(au h.w (gQ size:Nat)).2.2=true:=by simpa using F
 obtain⟨M,N,O,u4⟩:=kg b (show(1:Int)<=(gQ size:Nat) by omega) G;have s:m7 h.G (au h.w (gQ size:Nat)).2.1 (gQ size) (dR h size):=m7.of (p:=(au h.w (gQ size:Nat)).2.1) (n:=gQ size) b.ker ω ⟨M,N⟩ O (gQ size) (W3 _);have d:=KA.newsK s;have V:=s.le;have i:∀q:Nat,(au h.w (gQ size:Nat)).2.1<=q->(q:Int)<(au h.w (gQ size:Nat)).2.1+(dR h size).2->(nth (tbl h).J q).e=0:=λq W q2=>O q W ω
 by_cases P:(dR h size).2=gQ size
 ·rw[CD P]at a |-
  obtain⟨Q,H⟩:=a;have ji1:=C.keep Q H;have w:∀o,o∈(addL h (dR h size).1 (au h.w (gQ size:Nat)).1 (au h.w (gQ size:Nat)).2.1 (gQ size:Nat) size t).O↔o = ⟨h.d,16*(au h.w (gQ size:Nat)).2.1,size,t⟩\/o∈h.O:=λo=>cQ
  have X:=CI.mapped (h':={h with G:=(dR h size).1}) b y d i rfl rfl rfl (λ_ A Y _=>Y);have B:CI (addL h (dR h size).1 (au h.w (gQ size:Nat)).1 (au h.w (gQ size:Nat)).2.1 (gQ size:Nat) size t):=
   X.1.keep rfl rfl (λq h=>h) (λ_=>⟨rfl,rfl⟩) (λf c _ _=>.inl rfl) (λo l f c _ J _=>⟨o,cQ.2 (.inr l),J⟩) (λ_ c _=>⟨rfl,rfl⟩) λ_ A r _=>⟨A,r,rfl,rfl,λ_ h=>h⟩
  refine⟨B,λe=>absurd rfl e,λ_=>⟨?_,rfl,ω,L.2,by show 0<=16*_;omega⟩⟩;exact Uj.of (g:=h) b y Q ji1 B (λp Z=>d.out p (oy b i Z)) d.cel w (P2 b) rfl rfl rfl (Ca h)
 rw[CB P]at a |-;have K:=s.len;have kl:=KL.unmN s.ker M (dR h size).2 (by rw[K];have:(au h.w (gQ size:Nat)).2.1+((gQ size:Nat):Int)<=(h.G.F.R.J.length:Nat):=N;omega);have u:=((fN (dR h size).1 (au h.w (gQ size:Nat)).2.1 (dR h size).2).1)
 obtain⟨B,k1⟩:=CI.kern (h':={h with G:=unmN (dR h size).1 (au h.w (gQ size:Nat)).2.1 (dR h size).2}) b y (λo l=>l) rfl rfl (λo l D=>absurd l D) (λq R=>d.md q (by rw[<-kl.md u q (by show(nth (unmN (dR h size).1 _ _).F.R.J q).e≠0;have:(nth (unmN (dR h size).1 (au h.w (gQ size:Nat)).2.1 (dR h size).2).F.R.J q).e=1:=R;omega)];exact R)) (λhm=>by
     obtain⟨S,T⟩:=b.jobM hm;exact⟨(kl.out _ (oy b i S)).trans (d.out _ (oy b i S)),(kl.out _ (oy b i T)).trans (d.out _ (oy b i T))⟩) (λo l j H j2=>by
     have:=oy b i (cV b l (k:=j) ⟨H,ω⟩).1;exact(kl.out _ this).trans (d.out _ this)) (λf c=>by
     rcases kl.cel f c with e|e
     · exact .inl (e.trans (d.cel f c))
     exact .inr e) (λ_ A r _=>⟨A,r,rfl,rfl,λ_ h=>h⟩)
 exact⟨B,λ_=>⟨rfl,k1,rfl,rfl⟩,λe=>by cases e⟩
def CI.allocH{h:ab}{t size:Int}(i:aY h [])(f:JI h)(j:CI h):AL h t size (allocH h t size):=by
 have a:=AG (t:=t) (size:=size) i;have no:∀n:Int,n≠0->AL h t size (h,-1,n):=λn B=>⟨j,λ_=>⟨rfl,Ca h,rfl,rfl⟩,λe=>absurd e B⟩
 unfold Ab.allocH at a |-;by_cases k:1000000<=h.d\/90000<h.G.Calls
 ·rw[CD k];exact no 5 (by decide)
 rw[CB k]at a |-;by_cases l:¬(0<=t/\t<=h.S.length - 1)
 ·rw[CD l];exact no 1 (by decide)
 rw[CB l]at a |-;by_cases q:¬(1<=size/\size<=1000)
 ·rw[CD q];exact no 2 (by decide)
 rw[CB q]at a |-;by_cases u:h.c4<uM h+size
 ·rw[CD u];exact no 3 (by decide)
 rw[CB u]at a |-;by_cases b:0<=aJ size
 ·rw[CD b]at a |-
  have C:aJ size<=3:=by unfold aJ;repeat' split<;>omega
  have s:=vb (t:=t.toNat) (c:=(aJ size).toNat) i ω ω ω;have d:=CI.smallA (t:=t.toNat) (c:=(aJ size).toNat) i j ω ω ω;generalize Ab.smallA h t.toNat (aJ size).toNat=r at s d a |-;by_cases e:r.2<0
  ·rw[CD e]at a |-
   exact⟨d.ci,λ_=>⟨d.ob,d.kp,s.nx,rfl⟩,λe=>by cases e⟩
  rw[CB e]at a |-;obtain⟨w,D⟩:=a;obtain⟨y,-⟩:=s.yes ω;have A:=CI.addO d.ci r.2 size t;refine⟨A,λe=>absurd rfl e,λ_=>⟨?_,by show r.1.d+1=h.d+1;rw[s.nx],ω,ω,by show 0<=r.2;omega⟩⟩;have:=Uj.of (h:=h) (g:=r.1) (x:=⟨r.1.d,r.2,size,t⟩) y d.ci w (f.keep w D) A (λp _=>rfl) (λ_ _=>rfl) (λo=>cQ) (P2 y) rfl rfl d.ob d.kp;rw[s.nx]at this;exact this
 rw[CB b];have E:9<=size:=by
  unfold aJ at b
  repeat' split at b<;>omega
 exact CI.largeA i f j ⟨E,ω⟩ ω ω ω
def ru(k:ah)(a v:Int)(f c:Nat):cl (dM k a v) f c=cl k f c\/(cl (dM k a v) f c=v/\f=cY k a/\c=(a % 16).toNat):=by
 unfold cl dM setCell;simp only[bE];by_cases e:cY k a=f/\f<k.F.W.T.length
 ·rw[CD e,bE]
  by_cases b:(a % 16).toNat=c/\c<(nth k.F.W.T (cY k a)).length
  ·rw[CD b];exact .inr ⟨rfl,e.1.symm,b.1.symm⟩
  rw[CB b,e.1];exact .inl rfl
 rw[CB e];exact .inl rfl
variable{v:Int}
def Bb(c:aA k=true)(e:(ac k.F.R (a / 16)).e≠0):cl (dM k a v) (cY k a) (a % 16).toNat=v:=by
 have d:=(gK c e).1;have b:=(uU c (f:=cY k a) d).1;unfold cl dM setCell;show nth (nth (List.set _ _ _) _) _=v;rw[bE,CD ⟨rfl,d⟩,bE,CD ⟨rfl,by rw[b];omega⟩]
def J6(d:qK h o f c):qK {h with G:=dM h.G a v} o f c:=by
 obtain⟨j,e,g,b⟩:=d;exact⟨j,e,g,⟨b.m,b.f,b.c⟩⟩
def RN(d:aY h E)(q:o∈h.O){x:Int}(y:0<=x/\x<o.o)(A:0<=j/\j<o.o)(h1:At h.G (o.Addr+x) f c)(g:At h.G (o.Addr+j) f c):x=j:=by
 have B:=h1.c;have C:=g.c;rcases d.oow o q with⟨s,r,t,u⟩|⟨l,k,D,F⟩
 ·have i:=aC (d.L.sok s r)
  have a:=DH (n:=o.o) ω;rw[<-u]at a;obtain⟨G,H,w,-⟩:=t;rcases b9 i.2.2 with e|e|e|e<;>rw[e]at w a<;>omega
 have p:=d.L.lok l k;unfold bF at p;rw[C0]at p;have:=lr d k (b:=o.Addr+x) ω ω h1 g.m g.f;omega
def CI.store(b:aY h E)(A:JI h)(N:CI h)(O:i<h.O.length)(P:0<=j/\j<=(nth h.O i).o - 1)(Y:(ac (tbl h) (((nth h.O i).Addr+j) / 16)).e≠1):CI {h with G:=dM h.G ((nth h.O i).Addr+j) v}/\
  ∀o∈h.O,∀x:Int,0<=x->x<o.o->fg (dM h.G ((nth h.O i).Addr+j) v) (o.Addr+x)=if o=nth h.O i/\x=j then v else fg h.G (o.Addr+x):=by
 have g:=am O;have F:=(cV b g P).1;have G:=At.mk' b.ker F;have d:qK h (nth h.O i) _ _:=⟨j,P.1,ω,G⟩
 have r:=jj b g d;have Z:(((nth h.O i).Addr+j) % 16).toNat<16:=ω
 have key:∀p:Int,(ac (tbl h) p).e≠0->(ac (tbl h) p).j≠(cY h.G ((nth h.O i).Addr+j):Nat)->∀c,cl (dM h.G ((nth h.O i).Addr+j) v) (bK h.G p) c=cl h.G (bK h.G p) c:=λp Q B c=>by
  rcases ru h.G ((nth h.O i).Addr+j) v (bK h.G p) c with e|⟨-,e,-⟩
  ·exact e
  refine absurd ?_ B;rw[<-e];exact kP b.ker Q
 refine⟨N.keep rfl rfl (λq h=>h) (λ_=>⟨rfl,rfl⟩) (λf c _ _=>?_) (λo g f c _ d _=>⟨o,g,J6 d⟩) (λH c C=>?_) (λ_ s' R _=>⟨s',R,rfl,rfl,λ_ h=>h⟩),λo g x S W=>?_⟩
 ·rcases ru h.G ((nth h.O i).Addr+j) v f c with e|⟨-,u,w⟩
  ·exact .inl e.symm
  refine .inr ⟨_,g,?_⟩;rw[u,w];exact J6 d
 ·obtain⟨jm1,jm2⟩:=b.jobM H
  have J:c<16:=by
   obtain⟨k,lk,e⟩:=aK (List.mem_of_mem_take C);have:=gm (dA.1 (b.job H).1).1 lk;omega
  constructor
  ·rcases ru h.G ((nth h.O i).Addr+j) v (bK h.G h.Z.X.a3) c with e|⟨-,u,w⟩
   ·exact e
   exfalso;rw[<-u,<-w]at r;exact sY b A N H r J (List.mem_of_mem_take C) (kP b.ker jm1)
  rcases ru h.G ((nth h.O i).Addr+j) v (bK h.G h.Z.X.a2) c with e|⟨-,u,w⟩
  ·exact e
  exfalso;rw[<-u,<-w]at r;refine GI b A N H r ?_ C (kP b.ker jm2);rcases b.oow _ g with⟨s,hs,s1,s2⟩|⟨l,X,l1,-⟩
  ·have T:=aC (b.L.sok s hs)
   have K:=DH (n:=(nth h.O i).o) ω;rw[<-s2]at K;obtain⟨g1,g2,g3,-⟩:=s1;have Q:((nth h.O i).Addr+j) / 16=(nth h.O i).Addr / 16:=by rcases b9 T.2.2 with e|e|e|e<;>rw[e]at g3 K<;>omega
   rw[<-Q];exact Y
  intro M;obtain⟨a1,a2,a3⟩:=mj (t:=tbl h) (p:=(nth h.O i).Addr / 16) ω;rw[a3]at M;have h3:=(N.m1 _ M).2.1;obtain⟨-,-,y,hy,-,ey,-⟩:=A.sp H;have hpl:=aM (b.L.lok l X);exact b.L.dis y hy l X 0 ω ω
 have U:=(cV b g (k:=x) ⟨S,ω⟩).1;have a:=At.mk' b.ker U;have D:At (dM h.G ((nth h.O i).Addr+j) v) (o.Addr+x) (cY h.G (o.Addr+x)) ((o.Addr+x) % 16).toNat:=⟨a.m,a.f,a.c⟩
 rw[D.cell,a.cell];split
 ·rename_i e
  obtain⟨u,w⟩:=e;subst u w;exact Bb b.ker F
 rename_i B;rcases ru h.G ((nth h.O i).Addr+j) v (cY h.G (o.Addr+x)) ((o.Addr+x) % 16).toNat with e|⟨-,u,w⟩
 ·exact e
 exfalso;rw[u,w]at a;have V:qK h o _ _:=⟨x,S,W,a⟩
 have eo:=J4 b g (am O) V d;subst eo;refine B ⟨rfl,?_⟩;exact RN b (am O) ⟨S,W⟩ ⟨P.1,ω⟩ a G
structure JP(h:ab):Prop where
 km:(ac (tbl h) h.Z.X.a3).e≠0
 mm:(ac (tbl h) h.Z.X.a2).e≠0
 kf:(ac (tbl h) h.Z.X.a3).j=(bK h.G h.Z.X.a3:Nat)
 mf:(ac (tbl h) h.Z.X.a2).j=(bK h.G h.Z.X.a2:Nat)
 ne:bK h.G h.Z.X.a3≠bK h.G h.Z.X.a2
 pe:h.Z.X.a3≠h.Z.X.a2
 k2:CI h->(ac (tbl h) h.Z.X.a3).e≠1
def JP.of(g:aY h E)(i:JI h)(j:h.u=true):JP h:=by
 obtain⟨k,b⟩:=g.jobM j;have a:=(dA.1 (g.job j).1).1;unfold eU at a;simp only[I0,C0]at a;have c:=a.2.2.2.2.2;have l:=kP g.ker k;have n:=kP g.ker b;obtain⟨t,u,o⟩:=mj k;obtain⟨w,y,q⟩:=mj b;refine⟨k,b,l,n,λe=>c ?_,c,λr p=>?_⟩
 ·have d:(ac (tbl h) h.Z.X.a3).j=(bK h.G h.Z.X.a3:Nat):=l
  have f:(ac (tbl h) h.Z.X.a2).j=(bK h.G h.Z.X.a2:Nat):=n;rw[o]at d;rw[q]at f b;have:=i.sk j h.Z.X.a2.toNat b (by rw[d,f,e]);omega
 rw[o]at p;have:=(r.m1 _ p).2.1;omega
def hJ(h:ab)(k:ah)(j:cA):ab:={h with G:=k,u:=true,Z:=j}
def hE(h:ab)(k:ah):ab:={h with G:=k,u:=false,Z:=⟨⟨0,0,[]⟩,0,0⟩}
def NM(a:h.u=true):mStep h=if over (ip h.G h.Z).2=true then hE h (ip h.G h.Z).1 else hJ h (ip h.G h.Z).1 (ip h.G h.Z).2:=by
 unfold mStep hE hJ;split
 ·rfl
 rw[a]
def w6(g:aY h E)(l:h'.O=h.O)(n:∀p,(ac (tbl h) p).e≠0->(ac (tbl h') p).e≠0/\(ac (tbl h') p).j=(ac (tbl h) p).j)(q:∀o∈h.O,∀f c,qK h o f c->cl h'.G f c=cl h.G f c):Kp h h':=λo e=>by
 rw[l]at e;refine⟨e,λj i r=>?_⟩;have b:=(cV g e (k:=j) ⟨i,ω⟩).1;have a:=At.mk' g.ker b;obtain⟨t,u⟩:=n _ b;have d:At h'.G (o.Addr+j) (cY h.G (o.Addr+j)) ((o.Addr+j) % 16).toNat:=⟨t,u.trans a.f,a.c⟩
 rw[d.cell,a.cell];exact q o e _ _ ⟨j,i,r,a⟩
def xk(b:∀p,(ac (tbl h) p).e≠0->(ac (tbl h') p).e≠0/\(ac (tbl h') p).j=(ac (tbl h) p).j)(d:qK h o f c):qK h' o f c:=by
 obtain⟨j,e,g,a⟩:=d;obtain⟨i,k⟩:=b _ a.m;exact⟨j,e,g,i,k.trans a.f,a.c⟩
def su{m:Int}(b:(ac k.F.R p).e≠0)(q:Int):ac (jB k p m).F.R q=if q=p then {ac k.F.R p with e:=m} else ac k.F.R q:=by
 obtain⟨c,d,g⟩:=mj b;have f:(jB k p m).F.R.J.length=k.F.R.J.length:=by unfold jB;simp
 unfold ac;rw[f];by_cases e:0<=q/\q<k.F.R.J.length
 ·rw[CD e,CD e]
  unfold jB;simp only[bE];by_cases a:q=p
  ·rw[CD a,CD ⟨ω,ω⟩,CD ⟨c,d⟩]
  rw[CB a,CB ω]
 rw[CB e,CB e,CB ω]
def Jy{t:aH}{q:Nat}(h:(nth t.J q).e≠0):ac t (q:Int)=nth t.J q:=by
 have:=tK h;unfold ac;rw[CD ⟨ω,ω⟩];rfl
def CI.ended(l:aY h E)(n:CI h)(u:h.u=true)(r:h.Z.d=0)(g:∀f c,cl k f c=cl h.G f c)(i:∀p,(ac (tbl h) p).e≠0->(ac k.F.R p).e≠0/\(ac k.F.R p).j=(ac (tbl h) p).j)(h1:∀q:Nat,(nth k.F.R.J q).e≠1):CI (hE h k)/\Kp h (hE h k):=by
 refine⟨⟨λf c a b=>?_,λe=>(by cases e),λe=>(by cases e),λe=>(by cases e),λe=>(by cases e),λq t=>absurd t (h1 q),λe=>(by cases e)⟩,w6 l rfl i λo j f c _=>g f c⟩;change cl k f c≠0 at b;rw[g]at b;rcases n.z f c a b with⟨o,j,d⟩|⟨-,-,e⟩
 ·exact .inl ⟨o,j,xk i d⟩
 rw[r]at e;cases e
def K8{p:cJ}(h:eU p=true){i:Nat} : ∀{j:Nat},i<j->j<p.T.length->nth p.T i<nth p.T j
 | 0,a,_=>absurd a (Nat.not_lt_zero i)
 | j+1,a,d=>by
  have b:=h;unfold eU at b;simp only[I0]at b;have c:=dI b.1 d;unfold mV at c;rw[C0]at c;have f:nth p.T j<nth p.T (j+1):=c.2.2.resolve_left ω;by_cases e:i=j
  ·rw[e];exact f
  have:=K8 h (i:=i) (j:=j) ω ω;omega
def rG(k:ah)(a:Nat)(b v:Int)(f c:Nat):cl (setCell k a b v) f c=cl k f c\/(cl (setCell k a b v) f c=v/\f=a/\c=b.toNat):=by
 unfold cl setCell;simp only[bE];by_cases e:a=f/\f<k.F.W.T.length
 ·rw[CD e,bE]
  by_cases d:b.toNat=c/\c<(nth k.F.W.T a).length
  ·rw[CD d];exact .inr ⟨rfl,e.1.symm,d.1.symm⟩
  rw[CB d,e.1];exact .inl rfl
 rw[CB e];exact .inl rfl
def rc(c:aA k=true)(e:(ac k.F.R p).e≠0)(g:0<=a/\a<=15):cl (setCell k (bK k p) a v) (bK k p) a.toNat=v:=by
 have d:=(gK c e).1;have b:=(uU c (f:=bK k p) d).1;unfold cl setCell;show nth (nth (List.set _ _ _) _) _=v;rw[bE];rw[CD ⟨rfl,d⟩,bE,CD ⟨rfl,by rw[b];omega⟩]
def G3{j:cA}(d:qK h o f c):qK (hJ h (setCell h.G (bK h.G p) b v) j) o f c:=by
 obtain⟨x,e,g,a⟩:=d;exact⟨x,e,g,⟨a.m,a.f,a.c⟩⟩
def J7{j:cA}(a:aY h [])(b:JI h)(q:CI h)(l:h.u=true)(r:JP h){d:Int}(n:d∈h.Z.X.T)(v:Int):Kp h (hJ h (setCell h.G (bK h.G h.Z.X.a3) d v) j):=by
 obtain⟨k,t,e⟩:=aK n;have u:=gm (dA.1 (a.job l).1).1 t;refine w6 a rfl (λp w=>⟨w,rfl⟩) λo y f c i=>?_
 rcases rG h.G (bK h.G h.Z.X.a3) d v f c with g|⟨-,A,B⟩
 ·exact g
 exfalso;refine sY a b q l (jj a y i) ω ?_ (by rw[A];exact r.kf);rw[B,Int.toNat_of_nonneg ω];exact n
def CI.copied(r:aY h [])(t:JI h)(b:CI h)(k:h.u=true)(n:JP h)(N:h.Z.b2=1)(O:0<=h.Z.d/\h.Z.d<h.Z.X.T.length):CI (hJ h (sv h.G h.Z.X.a2 h.Z.X.a3 (nth h.Z.X.T h.Z.d.toNat)) {h.Z with d:=h.Z.d+1})/\Kp h (hJ h (sv h.G h.Z.X.a2 h.Z.X.a3 (nth h.Z.X.T h.Z.d.toNat)) {h.Z with d:=h.Z.d+1}):=by
 have d:h.Z.d.toNat<h.Z.X.T.length:=ω
 have l:=am d;have u:=gm (dA.1 (r.job k).1).1 d;have i:h.Z.X.T.take (h.Z.d+1).toNat=h.Z.X.T.take h.Z.d.toNat++[nth h.Z.X.T h.Z.d.toNat]:=by
  rw[show(h.Z.d+1).toNat=h.Z.d.toNat+1 by omega,O6,ao d];rfl
 unfold sv;have w:=rc r.ker (p:=h.Z.X.a3) (v:=nth (nth h.G.F.W.T (bK h.G h.Z.X.a2)) (nth h.Z.X.T h.Z.d.toNat).toNat) n.km u;have j:=rG h.G (bK h.G h.Z.X.a3) (nth h.Z.X.T h.Z.d.toNat) (nth (nth h.G.F.W.T (bK h.G h.Z.X.a2)) (nth h.Z.X.T h.Z.d.toNat).toNat);refine⟨⟨λf c y H=>?_,λ_ c a=>?_,λ_=>b.jd k,λ_=>b.jc k,λ_=>⟨λe=>absurd e (by show ¬h.Z.b2=0;omega),λe=>absurd e (by show ¬h.Z.b2=2;omega)⟩,λq J=>?_,λ_ _=>b.m2 k ω⟩,J7 r t b k n l _⟩
 ·rcases j f c with g|⟨-,A,B⟩
  ·have C:cl h.G f c≠0:=by rw[<-g];exact H
   rcases b.z f c y C with⟨o,K,L⟩|⟨M,D,E⟩
   ·exact .inl ⟨o,K,G3 L⟩
   refine .inr ⟨rfl,D,?_⟩;show(c:Int)∈h.Z.X.T.take (h.Z.d+1).toNat;rw[i];exact V3.2 (.inl E)
  refine .inr ⟨rfl,?_,?_⟩
  ·show(ac (tbl h) h.Z.X.a3).j=f;rw[A];exact n.kf
  show(c:Int)∈h.Z.X.T.take (h.Z.d+1).toNat;rw[i,B,Int.toNat_of_nonneg ω];exact V3.2 (.inr (V1.2 rfl))
 ·change (c:Int)∈h.Z.X.T.take (h.Z.d+1).toNat at a
  show cl (setCell h.G (bK h.G h.Z.X.a3) _ _) (bK h.G h.Z.X.a3) c=cl (setCell h.G (bK h.G h.Z.X.a3) _ _) (bK h.G h.Z.X.a2) c;have F:cl (setCell h.G (bK h.G h.Z.X.a3) (nth h.Z.X.T h.Z.d.toNat) (nth (nth h.G.F.W.T (bK h.G h.Z.X.a2)) (nth h.Z.X.T h.Z.d.toNat).toNat)) (bK h.G h.Z.X.a2) c=cl h.G (bK h.G h.Z.X.a2) c:=by
   rcases j (bK h.G h.Z.X.a2) c with g|⟨-,A,-⟩
   ·exact g
   exact absurd A.symm n.ne
  rw[F];by_cases G:(c:Int)=nth h.Z.X.T h.Z.d.toNat
  ·have:c=(nth h.Z.X.T h.Z.d.toNat).toNat:=ω
   rw[this,w];rfl
  rw[i]at a;rcases V3.1 a with a|a
  ·rcases j (bK h.G h.Z.X.a3) c with g|⟨-,-,B⟩
   ·rw[g];exact b.jv k c a
   exact absurd (by rw[B,Int.toNat_of_nonneg ω]) G
  exact absurd (V1.1 a) G
 obtain⟨M,D,E⟩:=b.m1 q J;exact⟨rfl,D,E⟩
def CI.undone(y:aY h [])(A:JI h)(b:CI h)(r:h.u=true)(l:JP h)(p3:h.Z.b2=3)(hp:0<h.Z.d):CI (hJ h {h.G with F:=(iZ h.G.F (h.Z.X.a3*16+nth h.Z.X.T (h.Z.d - 1).toNat) 0).1} {h.Z with d:=h.Z.d - 1})/\Kp h (hJ h {h.G with F:=(iZ h.G.F (h.Z.X.a3*16+nth h.Z.X.T (h.Z.d - 1).toNat) 0).1} {h.Z with d:=h.Z.d - 1}):=by
 obtain⟨t,-,-,n0,n1⟩:=dA.1 (y.job r).1;have a:(h.Z.d - 1).toNat<h.Z.X.T.length:=ω
 have u:=am a;have B:=gm t a;have O:=(mj l.km).1;have P:(h.Z.X.a3*16+nth h.Z.X.T (h.Z.d - 1).toNat) / 16=h.Z.X.a3:=ω
 have Q:(h.Z.X.a3*16+nth h.Z.X.T (h.Z.d - 1).toNat) % 16=nth h.Z.X.T (h.Z.d - 1).toNat:=ω
 have C:(ac h.G.F.R h.Z.X.a3).e≠0:=l.km;have D:(ac h.G.F.R h.Z.X.a3).e≠1:=l.k2 b;have R:({h.G with F:=(iZ h.G.F (h.Z.X.a3*16+nth h.Z.X.T (h.Z.d - 1).toNat) 0).1} : ah)=setCell h.G (bK h.G h.Z.X.a3) (nth h.Z.X.T (h.Z.d - 1).toNat) 0:=by
  unfold iZ;rw[P,Q,CB C,CB D]
  rfl
 rw[R];have n:=rG h.G (bK h.G h.Z.X.a3) (nth h.Z.X.T (h.Z.d - 1).toNat) 0;have w:h.Z.X.T.take h.Z.d.toNat=h.Z.X.T.take (h.Z.d - 1).toNat++[nth h.Z.X.T (h.Z.d - 1).toNat]:=by
  rw[show h.Z.d.toNat=(h.Z.d - 1).toNat+1 by omega,O6,ao a];rfl
 have E:nth h.Z.X.T (h.Z.d - 1).toNat∉h.Z.X.T.take (h.Z.d - 1).toNat:=λF=>by
  obtain⟨k,S,T⟩:=aK F;rw[Z1]at S;have G:nth (h.Z.X.T.take (h.Z.d - 1).toNat) k=nth h.Z.X.T k:=by
   refine bm ?_;rw[List.getElem?_take,CD ω];exact ao ω
  rw[G]at T;have:=K8 t (i:=k) (j:=(h.Z.d - 1).toNat) ω a;omega
 refine⟨⟨λf c H J=>?_,λ_ c p=>?_,λ_=>b.jd r,λ_=>b.jc r,λ_=>⟨λe=>absurd e (by show ¬h.Z.b2=0;omega),λe=>absurd e (by show ¬h.Z.b2=2;omega)⟩,λq U=>?_,λ_ _=>b.m2 r ω⟩,J7 y A b r l u _⟩
 ·rcases n f c with g|⟨V,-,-⟩
  ·have K:cl h.G f c≠0:=by rw[<-g];exact J
   rcases b.z f c H K with⟨o,W,X⟩|⟨Y,L,d⟩
   ·exact .inl ⟨o,W,G3 X⟩
   rw[w]at d;rcases V3.1 d with d|d
   ·exact .inr ⟨rfl,L,d⟩
   exfalso;have ec:=V1.1 d;have M:f=bK h.G h.Z.X.a3:=by have:=l.kf;omega
   refine J ?_;show cl (setCell h.G (bK h.G h.Z.X.a3) _ 0) f c=0;rw[M,show c=(nth h.Z.X.T (h.Z.d - 1).toNat).toNat by omega];exact rc y.ker l.km B
  exact absurd V J
 ·change (c:Int)∈h.Z.X.T.take (h.Z.d - 1).toNat at p
  show cl (setCell h.G (bK h.G h.Z.X.a3) _ 0) (bK h.G h.Z.X.a3) c=cl (setCell h.G (bK h.G h.Z.X.a3) _ 0) (bK h.G h.Z.X.a2) c;have N:cl (setCell h.G (bK h.G h.Z.X.a3) (nth h.Z.X.T (h.Z.d - 1).toNat) 0) (bK h.G h.Z.X.a2) c=cl h.G (bK h.G h.Z.X.a2) c:=by
   rcases n (bK h.G h.Z.X.a2) c with g|⟨-,Z,-⟩
   ·exact g
   exact absurd Z.symm l.ne
  rw[N];rcases n (bK h.G h.Z.X.a3) c with g|⟨-,-,g2⟩
  ·rw[g]
   exact b.jv r c (by rw[w];exact V3.2 (.inl p))
  exact absurd (by rw[show nth h.Z.X.T (h.Z.d - 1).toNat=(c:Int) by omega];exact p) E
 obtain⟨Y,L,d⟩:=b.m1 q U;exact⟨rfl,L,d⟩
def CI.meshed(F:aY h [])(D:JI h)(G:CI h)(H:h.u=true)(d:JP h)(hn:h.Z.d=h.Z.X.T.length)(L:h.G.Calls≠100000)(R:(wy h.G h.Z.X.a2 h.Z.X.a3).2=true):CI (hE h (wy h.G h.Z.X.a2 h.Z.X.a3).1)/\Kp h (hE h (wy h.G h.Z.X.a2 h.Z.X.a3).1):=by
 have A:=JH F.ker (p:=h.Z.X.a2) (o:=h.Z.X.a3) d.mm R;obtain⟨m1,m2,m3⟩:=mj d.mm;obtain⟨k1,k2,k3⟩:=mj d.km;have M:=(A 0).1;generalize N:(wy h.G h.Z.X.a2 h.Z.X.a3).1=K at *;have J:∀q:Int,ac K.F.R q=if q=h.Z.X.a2 then⟨2,(ac (tbl h) h.Z.X.a3).j⟩ else ac (tbl h) q:=λq=>by
  unfold ac;rw[M];by_cases e:0<=q/\q<h.G.F.R.J.length
  ·rw[CD e,(A q.toNat).2]
   by_cases B:q=h.Z.X.a2
   ·rw[CD B,CD ω,CD ⟨k1,k2⟩];rfl
   rw[CB B,CB ω,CD (show 0<=q/\q<(tbl h).J.length from e)];rfl
  rw[CB e,CB (show ¬q=h.Z.X.a2 by unfold tbl at m2;omega),CB (show ¬(0<=q/\q<(tbl h).J.length) from e)]
 have l:∀f c,cl K f c=cl h.G f c\/(cl K f c=0/\f=bK h.G h.Z.X.a2):=λf c=>by
  unfold wy at N R;by_cases e:refd h.G=true
  ·rw[CD e]at R;cases R
  rw[CB e]at N;simp only at N;rw[<-N];rcases Ko (w5 (cg h.G) h.Z.X.a2.toNat ⟨2,(nth (cg h.G).F.R.J h.Z.X.a3.toNat).j⟩) (nth (cg h.G).F.R.J h.Z.X.a2.toNat).j f c with g|⟨S,T,-⟩
  ·exact .inl g
  refine .inr ⟨S,?_⟩;rw[<-T];have h3:nth (cg h.G).F.R.J h.Z.X.a2.toNat=ac h.G.F.R h.Z.X.a2:=m3.symm;rw[h3];rfl
 have n:h.Z.X.T.take h.Z.d.toNat=h.Z.X.T:=C8 ω;have O:∀p:Int,(ac (tbl h) p).e≠0->(ac (tbl h) p).j=(bK h.G h.Z.X.a2:Nat)->p=h.Z.X.a2:=λp j C=>by
  obtain⟨p1,p2,p3⟩:=mj j;have P:=d.mf;rw[p3]at j C;rw[m3]at P;have:=D.sm H p.toNat j (by rw[C,P]);omega
 have U:∀c,cl K (bK h.G h.Z.X.a3) c=cl h.G (bK h.G h.Z.X.a3) c:=λc=>by
  rcases l (bK h.G h.Z.X.a3) c with g|⟨-,g⟩
  ·exact g
  exact absurd g d.ne
 have place:∀o∈h.O,∀x:Int,0<=x->x<o.o->∀f c:Nat,At h.G (o.Addr+x) f c->(f≠bK h.G h.Z.X.a2->At K (o.Addr+x) f c)/\(f=bK h.G h.Z.X.a2->At K (o.Addr+x) (bK h.G h.Z.X.a3) c/\(c:Int)∈h.Z.X.T):=λo r x u w f c a=>by
  constructor
  ·intro hne
   have j:(o.Addr+x) / 16≠h.Z.X.a2:=λe=>by
    have:=a.f;rw[e]at this;have h3:(ac h.G.F.R h.Z.X.a2).j=_:=d.mf;omega
   exact⟨by rw[J,CB j];exact a.m,by rw[J,CB j];exact a.f,a.c⟩
  intro he;have j:=O _ a.m (by rw[<-he];exact a.f);refine⟨⟨by rw[J,CD j];show(2:Int)≠0;decide,by rw[J,CD j];exact d.kf,a.c⟩,?_⟩;obtain⟨-,-,b,hb,-,V,-⟩:=D.sp H;have y:c<16:=by have:=a.c;omega
  obtain⟨e1,B,-⟩:=xd F (jj F r ⟨x,u,w,a⟩) hb (by rw[V];exact D.sm H) (by rw[V,he];exact d.mf);refine G.jc H b hb V c y ?_;rw[B];exact e1.2.2.2
 refine⟨⟨λf c y E=>?_,λe=>(by cases e),λe=>(by cases e),λe=>(by cases e),λe=>(by cases e),λq hq=>?_,λe=>(by cases e)⟩,λo r=>⟨r,λx u w=>?_⟩⟩
 ·change cl K f c≠0 at E
  rcases l f c with g|⟨g,-⟩
  rotate_left
  ·exact absurd g E
  rw[g]at E;have W:f≠bK h.G h.Z.X.a2:=λe=>by
   refine E ?_;rw[<-g,e];have X:aA K=true:=by
    rw[<-N];exact Pz F.ker L d.mm d.km (Ne.symm d.pe)
   refine pZ X (λp j C=>?_) c;rw[J]at j C;by_cases B:p=h.Z.X.a2
   ·rw[CD B]at C
    have h1:(ac (tbl h) h.Z.X.a3).j=(bK h.G h.Z.X.a2:Nat):=C;have h2:=d.kf;exact d.ne ω
   rw[CB B]at j C;exact B (O p j C)
  rcases G.z f c y E with⟨o,r,x,u,w,a⟩|⟨-,q2,q3⟩
  ·exact .inl ⟨o,r,x,u,w,(place o r x u w f c a).1 W⟩
  rw[n]at q3;have Q:f=bK h.G h.Z.X.a3:=by have:=d.kf;omega
  rw[Q,G.jv H c (by rw[n];exact q3)]at E;rcases G.z _ c y E with⟨o,r,x,u,w,a⟩|⟨-,r2,-⟩
  ·exact .inl ⟨o,r,x,u,w,by rw[Q];exact((place o r x u w _ c a).2 rfl).1⟩
  exact absurd (by have:=d.kf;omega) d.ne
 ·have i:(nth K.F.R.J q).e=1:=hq
  have:=Jy (t:=K.F.R) (q:=q) (by rw[i];decide);rw[J]at this;by_cases e:(q:Int)=h.Z.X.a2
  ·rw[CD e]at this
   rw[<-this]at i;exact absurd i (by show ¬(2:Int)=1;decide)
  rw[CB e]at this;rw[<-this]at i;obtain⟨a1,a2,a3⟩:=mj (t:=tbl h) (p:=(q:Int)) (by rw[i];decide);rw[a3]at i;exact absurd (by have:=(G.m1 _ i).2.1;omega) e
 have Y:=(cV F r (k:=x) ⟨u,ω⟩).1;have a:=At.mk' F.ker Y;obtain⟨S,T⟩:=place o r x u w _ _ a;show fg K (o.Addr+x)=fg h.G (o.Addr+x);by_cases e:cY h.G (o.Addr+x)=bK h.G h.Z.X.a2
 ·obtain⟨Z,g4⟩:=T e
  rw[Z.cell,a.cell,U,e];exact G.jv H _ (by rw[n];exact g4)
 have Z:=S e;rw[Z.cell,a.cell];rcases l (cY h.G (o.Addr+x)) ((o.Addr+x) % 16).toNat with g|⟨-,g⟩
 ·exact g
 exact absurd g e
def CI.mStep{h:ab}(w:aY h [])(l:JI h)(a:CI h)(d:h.u=true):CI (mStep h)/\Kp h (mStep h):=by
 have C:=JP.of w l d;have Z:=l.ph d;obtain⟨jn0,jn2⟩:=a.jn d;obtain⟨-,-,-,n0,n1⟩:=dA.1 (w.job d).1;rw[NM d];have stay:∀(k:ah)(j:cA),k.F=h.G.F->j.X=h.Z.X->j.d=h.Z.d->(j.b2=0↔h.Z.b2=0)->(j.b2=2->j.d=j.X.T.length)->CI (hJ h k j)/\Kp h (hJ h k j):=λk j M u N O e5=>by
  have J:tbl (hJ h k j)=tbl h:=by unfold tbl hJ;rw[M]
  have L:∀f c,cl k f c=cl h.G f c:=λf c=>by unfold cl;rw[M]
  have D:∀o f c,qK h o f c->qK (hJ h k j) o f c:=λo f c=>xk (λp E=>by rw[J];exact⟨E,rfl⟩)
  refine⟨⟨λf c F K=>?_,λ_ c g=>?_,λ_=>?_,λ_=>?_,λ_=>⟨λe=>?_,e5⟩,λq i=>?_,λ_ e=>?_⟩,w6 w rfl (λp E=>by rw[J];exact⟨E,rfl⟩) λo _ f c _=>L f c⟩
  ·change cl k f c≠0 at K
   rw[L]at K;rcases a.z f c F K with⟨o,P,Q⟩|⟨q1,R,G⟩
   ·exact .inl ⟨o,P,D o f c Q⟩
   refine .inr ⟨rfl,?_,?_⟩
   ·rw[J];show(ac (tbl h) j.X.a3).j=f;rw[u];exact R
   show(c:Int)∈j.X.T.take j.d.toNat;rw[u,N];exact G
  ·change (c:Int)∈j.X.T.take j.d.toNat at g
   show cl k (bK k j.X.a3) c=cl k (bK k j.X.a2) c;rw[u,N]at g;rw[u,L,L];unfold bK;rw[M];exact a.jv d c g
  ·show ∀s∈h.K,s.Q=j.X.a3->_
   rw[show(hJ h k j).Z.X=h.Z.X from u,u];exact a.jd d
  ·show ∀s∈h.K,s.Q=j.X.a2->_
   rw[show(hJ h k j).Z.X=h.Z.X from u,u];exact a.jc d
  ·exact(show j.d=h.Z.d from N).trans (jn0 (O.1 e))
  ·rw[J]at i
   obtain⟨q1,R,G⟩:=a.m1 q i;exact⟨rfl,by show(q:Int)=j.X.a2;rw[u];exact R,λe=>G (O.1 e)⟩
  rw[J];show(ac (tbl h) j.X.a2).e=1;rw[u];exact a.m2 d λx=>e (O.2 x)
 have prot:∀H:Int,H=1\/H=2->∀p,(ac (tbl h) p).e≠0->(ac (jB (cg h.G) h.Z.X.a2 H).F.R p).e≠0/\(ac (jB (cg h.G) h.Z.X.a2 H).F.R p).j=(ac (tbl h) p).j:=λH hmo p E=>by
  rw[su (k:=cg h.G) C.mm];by_cases e:p=h.Z.X.a2
  ·rw[CD e,e]
   exact⟨by show H≠0;omega,rfl⟩
  rw[CB e];exact⟨E,rfl⟩
 unfold ip;by_cases b:jmay h.G h.Z=true;rotate_left
 ·rw[CB b]
  rw[CB (by rw[show over (h.G,h.Z).2=over h.Z from rfl,show over h.Z=false from W0 ω];decide)];exact stay h.G h.Z rfl rfl rfl Iff.rfl jn2
 rw[CD b];unfold jstep;by_cases A:h.Z.b2=0
 ·rw[CD A]
  have n:=jn0 A;simp only;unfold ky;by_cases B:refd h.G=true
  ·rw[CD B]
   simp only[Bool.false_eq_true,if_false];rw[CD (show over {h.Z with b2:=5} = true from O0 (.inr rfl))];refine CI.ended w a d n (λ_ _=>rfl) (λp E=>⟨E,rfl⟩) λq i=>(a.m1 q i).2.2 A
  rw[CB B];simp only[if_true];rw[CB (by rw[show over {h.Z with b2:=1} = false from W0 (by show ¬((1:Int)=4\/(1:Int)=5);decide)];decide)];have D:∀o f c,qK h o f c->qK (hJ h (jB (cg h.G) h.Z.X.a2 1) {h.Z with b2:=1}) o f c:=λo f c=>xk (prot 1 (.inl rfl))
  refine⟨⟨λf c F K=>?_,λ_ c g=>?_,λ_=>a.jd d,λ_=>a.jc d,λ_=>⟨λe=>absurd e (by show ¬(1:Int)=0;decide),λe=>absurd e (by show ¬(1:Int)=2;decide)⟩,λq i=>?_,λ_ _=>?_⟩,w6 w rfl (prot 1 (.inl rfl)) λ_ _ _ _ _=>rfl⟩
  ·rcases a.z f c F K with⟨o,P,Q⟩|⟨-,-,G⟩
   ·exact .inl ⟨o,P,D o f c Q⟩
   rw[n]at G;cases G
  ·change (c:Int)∈h.Z.X.T.take h.Z.d.toNat at g
   rw[n]at g;cases g
  ·refine⟨rfl,?_,by show ¬(1:Int)=0;decide⟩
   show(q:Int)=h.Z.X.a2;refine Classical.byContradiction λS=>?_
   have y:(nth (jB (cg h.G) h.Z.X.a2 1).F.R.J q).e=1:=i;have:=Jy (t:=(jB (cg h.G) h.Z.X.a2 1).F.R) (q:=q) (by rw[y];decide);rw[su (k:=cg h.G) C.mm,CB S]at this;rw[<-this]at y;obtain⟨a1,a2,T⟩:=mj (t:=tbl h) (p:=(q:Int)) (by show(ac h.G.F.R q).e≠0;have:(ac h.G.F.R q).e=1:=y;rw[this];decide);have r:(ac (tbl h) q).e=1:=y;rw[T]at r;exact(a.m1 _ r).2.2 A
  show(ac (jB (cg h.G) h.Z.X.a2 1).F.R h.Z.X.a2).e=1;rw[su (k:=cg h.G) C.mm,CD rfl]
 rw[CB A];by_cases U:h.Z.b2=1
 ·rw[CD U]
  by_cases V:h.Z.d=h.Z.X.T.length
  ·rw[CD V]
   simp only;rw[CB (by rw[show over {h.Z with b2:=2} = false from W0 (by show ¬((2:Int)=4\/(2:Int)=5);decide)];decide)];exact stay h.G {h.Z with b2:=2} rfl rfl rfl ⟨λe=>absurd e (by show ¬(2:Int)=0;decide),λe=>absurd e A⟩ λ_=>V
  rw[CB V];simp only;rw[CB (by rw[show over {h.Z with d:=h.Z.d+1} = false from W0 (by show ¬(h.Z.b2=4\/h.Z.b2=5);omega)];decide)];exact CI.copied w l a d C U ω
 rw[CB U];by_cases W:h.Z.b2=2
 ·rw[CD W]
  simp only;cases B:(wy h.G h.Z.X.a2 h.Z.X.a3).2 with
  | false=>
   simp only[Bool.false_eq_true,if_false];rw[CB (by rw[show over {h.Z with b2:=3} = false from W0 (by show ¬((3:Int)=4\/(3:Int)=5);decide)];decide)];rw[Nf B];exact stay (cg h.G) {h.Z with b2:=3} rfl rfl rfl ⟨λe=>absurd e (by show ¬(3:Int)=0;decide),λe=>absurd e A⟩ λe=>absurd e (by show ¬(3:Int)=2;decide)
  | true=>
   rw[CD rfl];rw[CD (show over {h.Z with b2:=4} = true from O0 (.inl rfl))];exact CI.meshed w l a d C (jn2 W) (by unfold jmay at b;simp only[I0,C0]at b;exact b.1.2) B
 rw[CB W];have Y:h.Z.b2=3:=ω
 rw[CD Y];by_cases X:0<h.Z.d
 ·rw[CD X]
  simp only;rw[CB (by rw[show over {h.Z with d:=h.Z.d - 1} = false from W0 (by show ¬(h.Z.b2=4\/h.Z.b2=5);omega)];decide)];exact CI.undone w l a d C Y X
 rw[CB X];have n:h.Z.d=0:=ω
 simp only;unfold ky;by_cases B:refd h.G=true
 ·rw[CD B]
  simp only[Bool.false_eq_true,if_false];rw[CB (by rw[show over {h.Z with b2:=3} = false from W0 (by show ¬((3:Int)=4\/(3:Int)=5);decide)];decide)];exact stay (cg h.G) {h.Z with b2:=3} rfl rfl rfl ⟨λe=>absurd e (by show ¬(3:Int)=0;decide),λe=>absurd e A⟩ λe=>absurd e (by show ¬(3:Int)=2;decide)
 rw[CB B];simp only[if_true];rw[CD (show over {h.Z with b2:=5} = true from O0 (.inr rfl))];refine CI.ended w a d n (λ_ _=>rfl) (prot 2 (.inr rfl)) λq i=>?_
 have:=Jy (t:=(jB (cg h.G) h.Z.X.a2 2).F.R) (q:=q) (by rw[i];decide);rw[su (k:=cg h.G) C.mm]at this;by_cases e:(q:Int)=h.Z.X.a2
 ·rw[CD e]at this
  rw[<-this]at i;exact absurd i (by show ¬(2:Int)=1;decide)
 rw[CB e]at this;rw[<-this]at i;obtain⟨a1,a2,T⟩:=mj (t:=tbl h) (p:=(q:Int)) (by have:(ac (tbl h) q).e=1:=i;rw[this];decide);have r:(ac (tbl h) q).e=1:=i;rw[T]at r;exact e (by have:=(a.m1 _ r).2.1;omega)
def Av{n:Nat} : (c:Int)∈uJ s n↔c<n/\tO s c=true:=by
 unfold uJ;simp only[Z4,t5,List.mem_range];constructor
 ·rintro⟨a,⟨b,d⟩,e⟩
  have:a=c:=ω
  subst this;exact⟨b,d⟩
 rintro⟨b,d⟩;exact⟨c,⟨b,d⟩,rfl⟩
def Q8{a b:ax}(c:meshable a b=true){i:Int}(h:aS a.b1 i=true):aS b.b1 i=false:=by
 unfold meshable at c;simp only[I0,C0]at c;obtain⟨-,-,-,d⟩:=c;rw[<-I6];intro e;have f:=(eB _ _).1 h;have g:=(eB _ _).1 e;have:=Z0 (λn=>Nat.testBit n i.toNat) d;simp only[Nat.testBit_and,Nat.zero_testBit]at this;rw[f.2.2.2,g.2.2.2]at this;cases this
def JR(a:aY h E){u:ax}(b:s∈h.K)(c:u∈h.K)(e:s.Q=u.Q):s=u:=by
 obtain⟨i,d,rfl⟩:=aK b;obtain⟨j,g,rfl⟩:=aK c;rw[cU (f:=(·.Q)) a.L.nd d g e]
def CI.begun(B:aY h E)(C:CI h)(D:h.u=false){a b:ax}(F:a∈h.K)(G:b∈h.K)(l:meshable a b=true)(sd:Int):CI {h with c0:=sd,u:=true,Z:=tT (dq a b)}:=by
 have n:∃x∈h.K,∃y∈h.K,(dq a b).a3=x.Q/\(dq a b).a2=y.Q/\(dq a b).T=uJ y 16/\meshable x y=true:=by
  unfold dq;split
  ·exact⟨b,G,a,F,rfl,rfl,rfl,by rw[gR];exact l⟩
  exact⟨a,F,b,G,rfl,rfl,rfl,l⟩
 obtain⟨x,M,y,N,H,J,r,d⟩:=n;generalize dq a b=p at H J r;have ecl:x.a=y.a:=by
  unfold meshable at d;simp only[I0,C0]at d;exact d.2.1
 refine⟨λf c g O=>?_,λ_ c j=>absurd j (by show ¬(c:Int)∈p.T.take (0:Int).toNat;simp),λ_ s t n c g j=>?_,λ_ s t n c g u=>?_,λ_=>⟨λ_=>rfl,λe=>absurd e (by show ¬(0:Int)=2;decide)⟩,λq P=>?_,λ_ e=>absurd rfl e⟩
 ·rcases C.z f c g O with⟨o,Q,w⟩|⟨K,-⟩
  ·exact .inl ⟨o,Q,w⟩
  rw[D]at K;cases K
 ·have k:=JR B t M (n.trans H)
  subst k;have i:(c:Int)∈p.T:=j;rw[r]at i;have A:=(Av.1 i).2;unfold tO at A;rw[<-ecl]at A;rw[gR]at d;exact Q8 d A
 ·have k:=JR B t N (n.trans J)
  subst k;show(c:Int)∈p.T;rw[r];exact Av.2 ⟨g,u⟩
 have L:=(C.m1 q P).1;rw[D]at L;cases L
def CI.started{h:ab}(f:aY h [])(a:CI h)(j:h.u=false):CI (started h).1/\Kp h (started h).1:=by
 have g:=f.nums;unfold cq at g;rw[C0]at g;have d:=nC (bD h) (show 0<=h.c0/\h.c0<=1073741823 by omega);cases e:m6 (bD h) h.c0 with
 | nil=>
  have c:Ab.started h=({h with c0:=(shuf (bD h).length h.c0).2},false):=by unfold Ab.started;rw[e]
  rw[c];exact⟨⟨a.z,a.jv,a.jd,a.jc,a.jn,a.m1,a.m2⟩,Ca h⟩
 | cons q n=>
  obtain⟨o,p,k⟩:=d q (by rw[e];exact C2 ..);have c:Ab.started h=({h with c0:=(shuf (bD h).length h.c0).2,u:=true,Z:=tT (dq (nth (bD h) q.A.toNat) (nth (bD h) q.B.toNat))},true):=by unfold Ab.started;rw[e]
  rw[c];have b:∀s∈bD h,s∈h.K:=λs l=>nw h (W3 _) s (List.mem_of_mem_take l)
  exact⟨CI.begun f a j (b _ (am (xs:=bD h) (i:=q.A.toNat) ω)) (b _ (am (xs:=bD h) (i:=q.B.toNat) ω)) k _,Ca h⟩
def Th(k:ah)(a:Int)(f c:Nat):∀m,cl (zK k a m) f c=cl k f c\/(cl (zK k a m) f c=0/\∃j:Nat,j<m/\f=cY k (a+j)/\c=((a+j) % 16).toNat)
 | 0=>.inl rfl
 | m+1=>by
  have e:cY (zK k a m) (a+m)=cY k (a+m):=by unfold cY;rw[(oc k a m).1]
  rcases ru (zK k a m) (a+m) 0 f c with g|⟨b,h,d⟩
  ·rcases Th k a f c m with i|⟨b,j,h,d⟩
   ·exact .inl (g.trans i)
   exact .inr ⟨g.trans b,j,ω,d⟩
  exact .inr ⟨b,m,ω,by rw[<-e];exact h,d⟩
def G6{k:ah}(h:aA k=true){a:Int} : ∀{m:Nat},(∀j:Nat,j<m->(ac k.F.R ((a+j) / 16)).e≠0)->∀j:Nat,j<m->cl (zK k a m) (cY k (a+j)) ((a+j) % 16).toNat=0
 | 0,_,_,c=>absurd c (Nat.not_lt_zero _)
 | m+1,d,j,c=>by
  have f:=P7 h (a:=a) (m:=m) λj c=>d j ω
  have i:=(oc k a m).1;have e:∀b,cY (zK k a m) b=cY k b:=λb=>by unfold cY;rw[i]
  rcases ru (zK k a m) (a+m) 0 (cY k (a+j)) ((a+j) % 16).toNat with g|⟨l,-⟩
  ·by_cases n:j=m
   ·subst n
    have:=Bb f (a:=a+j) (v:=0) (by rw[i];exact d j ω);rw[e]at this;exact this
   exact g.trans (G6 h (λj c=>d j ω) j ω)
  exact l
def BA(a:aY h E)(e:o∈h.O){k:Nat}(b:k<h.M.length)(n:o.Addr=16*(nth h.M k).Q):o.o=(nth h.M k).o:=by
 have f:=aM (a.L.lok _ (am b));rcases a.oow _ e with⟨s,g,c,-⟩|⟨l,d,p,i⟩
 ·exact absurd (show s.Q=(nth h.M k).Q+((0:Nat):Int) by have:=c.1;have:=c.2.1;omega) (a.L.dis s g _ (am b) 0 ω)
 obtain⟨m,j,rfl⟩:=aK d;have:=a.L.one m k j b 0 0 (by have:=aM (a.L.lok _ d);omega) ω ω;subst this;exact i.symm
def sA[Inhabited α]{xs:List α}{y z:α}(c:i<xs.length):z∈xs.set i y↔z=y\/∃j,j<xs.length/\j≠i/\nth xs j=z:=by
 refine⟨ed,?_⟩
 rintro(rfl|⟨j,d,b,rfl⟩)
 ·have a:=am (xs:=xs.set i z) (i:=i) (by rw[W1];exact c)
  rw[bE,CD ⟨rfl,c⟩]at a;exact a
 have a:=am (xs:=xs.set i y) (i:=j) (by rw[W1];exact d);rw[bE,CB (λx=>b x.1.symm)]at a;exact a
def CI.trimH{h:ab}{i k:Nat}{size:Int}(l:aY h [])(hc:CI h)(V:i<h.O.length)(r:k<h.M.length)(W:(nth h.O i).Addr=16*(nth h.M k).Q)(hz:9<=size/\size<=(nth h.M k).o):CI (trimH h i k size)/\∀o∈h.O,∀j:Int,0<=j->j<o.o->(o=nth h.O i->j<size)->fg (trimH h i k size).G (o.Addr+j)=fg h.G (o.Addr+j):=by
 obtain⟨b1,b2⟩:=uC l r;have M:=l.L.lok _ (am r);have hlp:=aM M;have hsz:=BA l (am V) r W;have h8:=M;unfold bF at h8;rw[C0]at h8;have N:aA (kR h k size)=true:=yD l r hz (W3 _);have D:(kR h k size).F.R=h.G.F.R:=(oc h.G _ _).1;have hN:((dE (nth h.M k) size:Nat):Int)=(nth h.M k).a1 - (size+15) / 16:=by unfold dE;omega
 have hte:((tbl h).J.length:Int)=(h.G.F.R.J.length:Int):=rfl;have kl:=KL.unmN N (p:=(nth h.M k).Q+(size+15) / 16) ω (dE (nth h.M k) size) (by rw[D];omega);have ker:=jf N ((nth h.M k).Q+(size+15) / 16) (dE (nth h.M k) size);have A:=(fN (kR h k size) ((nth h.M k).Q+(size+15) / 16) (dE (nth h.M k) size)).1;have hcz:=Th h.G (16*(nth h.M k).Q+size);have hca:=G6 l.ker (a:=16*(nth h.M k).Q+size) (m:=(16*((size+15) / 16) - size).toNat) λj O=>kB l r ⟨ω,ω⟩
 have E:(Ab.trimH h i k size).G=unmN (kR h k size) ((nth h.M k).Q+(size+15) / 16) (dE (nth h.M k) size):=rfl;have F:(Ab.trimH h i k size).O=h.O.set i {nth h.O i with o:=size}:=rfl;have P:(Ab.trimH h i k size).K=h.K:=rfl;have Q:(Ab.trimH h i k size).Z=h.Z:=rfl;have R:(Ab.trimH h i k size).u=h.u:=rfl;generalize Ab.trimH h i k size=h' at E F P Q R |-;have G:∀f c,cl (kR h k size) f c=cl h.G f c\/(cl (kR h k size) f c=0/\∃b:Int,16*(nth h.M k).Q+size<=b/\b<16*((nth h.M k).Q+(size+15) / 16)/\At h.G b f c):=λf c=>by
  rcases hcz f c (16*((size+15) / 16) - size).toNat with g|⟨g,j,w,B,j3⟩
  ·exact .inl g
  refine .inr ⟨g,16*(nth h.M k).Q+size+j,ω,ω,?_⟩;have:=At.mk' l.ker (kB l r (a:=16*(nth h.M k).Q+size+j) ⟨ω,ω⟩);rw[B,j3];exact this
 have hzv:∀(f c:Nat)(b:Int),16*(nth h.M k).Q+size<=b->b<16*((nth h.M k).Q+(size+15) / 16)->At h.G b f c->cl (kR h k size) f c=0:=λf c b H X d=>by
  have:=hca (b - (16*(nth h.M k).Q+size)).toNat ω;rw[show 16*(nth h.M k).Q+size+((b - (16*(nth h.M k).Q+size)).toNat:Nat)=b by omega]at this;have e:=At.mk' l.ker d.m;obtain⟨u1,u2⟩:=e.uniq d;rw[u1,u2]at this;exact this
 have pout:∀q:Int,¬((nth h.M k).Q+(size+15) / 16<=q/\q<(nth h.M k).Q+(nth h.M k).a1)->ac h'.G.F.R q=ac h.G.F.R q:=λq Y=>by
  rw[E,kl.out q ω,D]
 rw[<-E]at kl ker A;generalize kR h k size=kz at *;have onL:∀b:Int,16*(nth h.M k).Q<=b->b<16*((nth h.M k).Q+(nth h.M k).a1)->∀f c:Nat,At h.G b f c->N9 h (nth h.O i).Addr f c:=λb H X f c d=>.inr ⟨_,am r,W,b,H,X,d⟩
 have only:∀o∈h.O,∀f c:Nat,qK h o f c->N9 h (nth h.O i).Addr f c->o=nth h.O i:=λo t f c H X=>by
  have e:=wN l (jj l t H) X;obtain⟨m,lm,rfl⟩:=aK t;rw[cU (f:=(·.Addr)) (db l.osr) lm V e]
 have noS:∀s∈h.K,¬((nth h.M k).Q<=s.Q/\s.Q<(nth h.M k).Q+(nth h.M k).a1):=λs J hr=>l.L.dis s J _ (am r) (s.Q - (nth h.M k).Q).toNat ω ω
 have same:∀f c:Nat,cl h'.G f c≠0->cl h.G f c=cl h'.G f c:=λf c C=>by
  rcases kl.cel f c with e|e
  ·rcases G f c with g|⟨g,-⟩
   ·rw[e,g]
   exact absurd (e.trans g) C
  exact absurd e.1 C
 have stay:∀o∈h.O,∀j:Int,0<=j->j<o.o->(o=nth h.O i->j<size)->∀f c:Nat,At h.G (o.Addr+j) f c->At h'.G (o.Addr+j) f c/\cl h'.G f c=cl h.G f c:=λo t j w B O f c d=>by
  have y:qK h o f c:=⟨j,w,B,d⟩
  have n:ac h'.G.F.R ((o.Addr+j) / 16)=ac h.G.F.R ((o.Addr+j) / 16):=by
   refine pout _ λZ=>?_
   have e:=only o t f c y (onL _ ω ω f c d);have:=O e;rw[e,W]at Z;omega
  have u:At h'.G (o.Addr+j) f c:=⟨by rw[n];exact d.m,by rw[n];exact d.f,d.c⟩
  refine⟨u,?_⟩;rcases kl.cel f c with e|⟨-,e⟩
  ·rcases G f c with g|⟨-,b,g1,g2,S⟩
   ·rw[e,g]
   exfalso;have eo:=only o t f c y (onL b ω ω f c S);have hjs:=O eo;have Y:=lr l (am r) (b:=b) ω ω S d.m d.f;have c1:=d.c;have c2:=S.c;rw[eo,W]at Y c1;omega
  exact absurd u.f (e _ u.m)
 refine⟨hc.keep Q R (λq Y=>?_) (λhm=>?_) (λf c _ C=>.inl (same f c C)) (λo t f c h16 y C=>?_) (λhm c _=>?_) (λ_ s' hs' _=>⟨s',by rw[<-P];exact hs',rfl,rfl,λ_ h=>h⟩),λo t j w B O=>?_⟩
 ·have hq':(nth h'.G.F.R.J q).e=1:=Y
  have:=kl.md A q ω;rw[D]at this;show(nth h.G.F.R.J q).e=1;rw[<-this];exact hq'
 ·obtain⟨-,⟨a,ha,T⟩,b,hb,eb⟩:=l.job hm
  exact⟨pout _ λZ=>noS a ha ω,pout _ λZ=>noS b hb ω⟩
 ·obtain⟨j,w,B,d⟩:=y
  by_cases e:o=nth h.O i/\size<=j
  ·exfalso
   obtain⟨e,ej⟩:=e;subst e;by_cases ej2:j<16*((size+15) / 16)
   ·have:=hzv f c ((nth h.O i).Addr+j) ω ω d
    rcases kl.cel f c with g|g
    ·exact C (g.trans this)
    exact C g.1
   refine C (pZ ker (λp K hf=>?_) c);by_cases er:(nth h.M k).Q+(size+15) / 16<=p/\p<(nth h.M k).Q+(nth h.M k).a1
   ·exact K (kl.ins p er.1 ω)
   rw[pout p er]at K hf;have:=lr l (am r) (b:=(nth h.O i).Addr+j) ω ω d K hf;omega
  have st:=stay o t j w B (λU=>by have:¬size<=j:=λx=>e ⟨U,x⟩;omega) f c d;by_cases U:o=nth h.O i
  ·refine⟨{nth h.O i with o:=size},by rw[F];exact(sA V).2 (.inl rfl),j,w,?_,?_⟩
   ·have:¬size<=j:=λx=>e ⟨U,x⟩
    show j<size;omega
   have H:=st.1;rw[U]at H;exact H
  refine⟨o,?_,j,w,B,st.1⟩;rw[F];obtain⟨m,lm,rfl⟩:=aK t;exact(sA V).2 (.inr ⟨m,lm,λx=>U (by rw[x]),rfl⟩)
 ·have key:∀s∈h.K,cl h'.G (bK h.G s.Q) c=cl h.G (bK h.G s.Q) c:=λs J=>by
   have n:(ac (tbl h) s.Q).e≠0:=by rw[l.pe J];exact(l.mapped J).2.2
   rcases kl.cel (bK h.G s.Q) c with e|⟨-,e⟩
   ·rcases G (bK h.G s.Q) c with g|⟨-,b,g1,g2,S⟩
    ·rw[e,g]
    have:=lr l (am r) (b:=b) ω ω S (q:=s.Q) n (kP l.ker n);exact absurd (show(nth h.M k).Q<=s.Q/\s.Q<(nth h.M k).Q+(nth h.M k).a1 by omega) (noS s J)
   have K:=pout s.Q λZ=>noS s J ω
   refine absurd ?_ (e s.Q (by rw[K];exact n));rw[K];exact kP l.ker n
  obtain⟨-,⟨a,ha,T⟩,b,hb,eb⟩:=l.job hm;rw[<-T,<-eb];exact⟨key a ha,key b hb⟩
 have d:=At.mk' l.ker (cV l t (k:=j) ⟨w,ω⟩).1;obtain⟨s1,s2⟩:=stay o t j w B O _ _ d;rw[s1.cell,d.cell,s2]
def F4[Inhabited α](n j:Nat)(y:α):nth (List.replicate n y) j=y\/nth (List.replicate n y) j=default:=by
 by_cases h:j<n
 ·exact .inl (cX h)
 right
 unfold nth;rw[C3,Z2 (by rw[z4];omega)];rfl
def CI.newHeap(p f t:Nat)(lim:Int)(a:List Int):CI (newHeap p f t lim a):=by
 refine⟨λg c b d=>absurd ?_ d,λe=>(by cases e),λe=>(by cases e),λe=>(by cases e),λe=>(by cases e),λq h=>absurd h ?_,λe=>(by cases e)⟩
 ·show nth (nth (List.replicate f (List.replicate 16 (0:Int))) g) c=0
  rcases F4 f g (List.replicate 16 (0:Int)) with e|e<;>rw[e]
  ·exact A9 _ _
  rfl
 show ¬(nth (List.replicate p (⟨0,0⟩ : bk)) q).e=1;rcases F4 p q (⟨0,0⟩ : bk) with e|e<;>rw[e]
 ·decide
 decide
def gj(k:ah)(o:bn):aX:=⟨o.Id,cellsOf k o.Addr o.o.toNat⟩
structure RS(w:aQ):Prop where
 nx:w.b3.d=w.Y.d
 asc:w.b3.O.Pairwise λa b=>a.Id<b.Id
 mem:∀y,y∈w.b3.O↔∃o∈w.Y.O,y=gj w.Y.G o
def qS{b:ah}{n:Nat}(h:∀j:Int,0<=j->j<n->fg b (a+j)=fg k (a+j)):cellsOf b a n=cellsOf k a n:=by
 unfold cellsOf;refine List.map_congr_left λj c=>?_
 have:=List.mem_range.1 c;exact h j ω ω
def fU{a:ah}(h:∀j:Int,0<=j->j<o.o->fg a (o.Addr+j)=fg k (o.Addr+j)):gj a o=gj k o:=by
 unfold gj;rw[qS λj b c=>h j b ω]
def Ud[Inhabited α]{R:α->α->Prop}{xs:List α}(h:xs.Pairwise R){j:Nat}(a:i<j)(b:j<xs.length):R (nth xs i) (nth xs j):=by
 have:=List.pairwise_iff_getElem.1 h i j ω b a;rw[show nth xs i=xs[i] from bm (W2 ω),show nth xs j=xs[j] from bm (W2 b)];exact this
def RS.at{w:aQ}(b:RS w){o:bn}(c:o∈w.Y.O):∃j:Nat,j<w.b3.O.length/\pf w.b3 o.Id=(j:Nat)/\nth w.b3.O j=gj w.Y.G o:=by
 obtain⟨j,a,e⟩:=aK ((b.mem _).2 ⟨o,c,rfl⟩);refine⟨j,a,dB (ao a) (O0 (by rw[e];rfl)) λm z d f=>W0 ?_,e⟩;have g:=Ud b.asc d a;rw[bm f,e]at g;have h:(gj w.Y.G o).Id=o.Id:=rfl;omega
def RS.lt(a:RS w)(b:aY w.Y []):∀y∈w.b3.O,1<=y.Id/\y.Id<w.b3.d:=λy c=>by
 obtain⟨o,d,rfl⟩:=(a.mem y).1 c;have:=b.onu o d;rw[a.nx];show 1<=o.Id/\o.Id<w.Y.d;omega
def RS.keep(b:RS w)(d:h'.O=w.Y.O)(c:Kp w.Y h')(e:h'.d=w.Y.d):RS ⟨h',w.b3⟩:=by
 refine⟨b.nx.trans e.symm,b.asc,λy=>(b.mem y).trans ?_⟩;show _↔∃o∈h'.O,y=gj h'.G o
 constructor
 ·rintro⟨o,f,rfl⟩
  have a:o∈h'.O:=by rw[d];exact f
  exact⟨o,a,(fU (c o a).2).symm⟩
 rintro⟨o,a,rfl⟩
 exact⟨o,(c o a).1,fU (c o a).2⟩
def RS.alloc(e:RS w)(i:aY w.Y []){x:bn}(d:Uj w.Y h' x)(k:x.Id=w.Y.d)(g:h'.d=w.Y.d+1)(l:1<=x.o/\x.o<=1000):RS ⟨h',jh w.b3 x.o⟩:=by
 unfold jh;rw[CD l];have h:gj h'.G x = ⟨w.b3.d,List.replicate x.o.toNat 0⟩:=by
  unfold gj;rw[k,e.nx]
  congr 1
  refine List.eq_replicate_iff.2 ⟨gL ..,λb f=>?_⟩;unfold cellsOf at f;obtain⟨j,n,rfl⟩:=Z4.1 f;have:=List.mem_range.1 n;exact d.ze j ω ω
 refine⟨by show w.b3.d+1=h'.d;rw[g,e.nx],?_,λy=>?_⟩
 ·refine List.pairwise_append.2 ⟨e.asc,List.pairwise_singleton _ _,λa p b f=>?_⟩
  rw[V1.1 f];exact(e.lt i a p).2
 show y∈w.b3.O++[_]↔∃o∈h'.O,y=gj h'.G o
 rw[V3,V1,e.mem];constructor
 ·rintro(⟨o,c,rfl⟩|rfl)
  ·exact⟨o,(d.mem o).2 (.inr c),(fU (d.ke o c)).symm⟩
  exact⟨x,(d.mem x).2 (.inl rfl),h.symm⟩
 rintro⟨o,c,rfl⟩
 rcases(d.mem o).1 c with rfl|c
 ·exact .inr h
 exact .inl ⟨o,c,fU (d.ke o c)⟩
def RS.free(a:RS w)(p:aY w.Y [])(h:i<w.Y.O.length)(k:h'.O=dele w.Y.O i)(l:Kp w.Y h')(r:h'.d=w.Y.d):RS ⟨h',jT w.b3 (nth w.Y.O i).Id⟩:=by
 obtain⟨j,t,u,n⟩:=a.at (am h);unfold jT;rw[u,CB ω];simp only[I3];refine⟨a.nx.trans r.symm,a.asc.sublist (fK _ _),λy=>?_⟩;show y∈dele w.b3.O j↔∃o∈h'.O,y=gj h'.G o
 rw[dd];constructor
 ·rintro⟨m,c,A,rfl⟩
  obtain⟨o,d,e⟩:=(a.mem _).1 (am c);have b:o∈h'.O:=by
   rw[k];obtain⟨q,g,rfl⟩:=aK d;refine dd.2 ⟨q,g,λx=>A ?_,rfl⟩;subst x;exact cU (f:=(·.Id)) (db a.asc) c t (by rw[e,n])
  exact⟨o,b,e.trans (fU (l o b).2).symm⟩
 rintro⟨o,b,rfl⟩
 obtain⟨d,B⟩:=l o b;rw[fU B];obtain⟨m,c,e⟩:=aK ((a.mem _).2 ⟨o,d,rfl⟩);refine⟨m,c,λx=>?_,e⟩;subst x;rw[k]at b;obtain⟨q,g,C,rfl⟩:=dd.1 b;exact C (cU (f:=(·.Id)) p.oid g h (Z0 aX.Id (e.symm.trans n)))
def RS.upd(d:RS w)(A:aY w.Y [])(B:i<w.Y.O.length){x':bn}(C:x'.Id=(nth w.Y.O i).Id)(k:∀o,o∈h'.O↔o=x'\/∃m,m<w.Y.O.length/\m≠i/\nth w.Y.O m=o)(t:∀m,m<w.Y.O.length->m≠i->gj h'.G (nth w.Y.O m)=gj w.Y.G (nth w.Y.O m))(D:h'.d=w.Y.d){j:Nat}(l:j<w.b3.O.length)(n:nth w.b3.O j=gj w.Y.G (nth w.Y.O i)):RS ⟨h',{w.b3 with O:=w.b3.O.set j (gj h'.G x')}⟩:=by
 refine⟨d.nx.trans D.symm,?_,λy=>?_⟩
 ·have u:(w.b3.O.map (·.Id)).Pairwise (λa b=>a<b):=List.pairwise_map.2 d.asc
  rw[<-kV (f:=(·.Id)) (y:=gj h'.G x') l (by rw[n];exact C)]at u;exact List.pairwise_map.1 u
 show y∈w.b3.O.set j _↔∃o∈h'.O,y=gj h'.G o
 rw[sA l];constructor
 ·rintro(rfl|⟨m,h,p,rfl⟩)
  ·exact⟨x',(k x').2 (.inl rfl),rfl⟩
  obtain⟨o,r,e⟩:=(d.mem _).1 (am h);obtain⟨q,c,rfl⟩:=aK r;have g:q≠i:=λx=>p (by subst x;exact cU (f:=(·.Id)) (db d.asc) h l (by rw[e,n]))
  exact⟨_,(k _).2 (.inr ⟨q,c,g,rfl⟩),e.trans (t q c g).symm⟩
 rintro⟨o,r,rfl⟩
 rcases(k o).1 r with rfl|⟨q,c,g,rfl⟩
 ·exact .inl rfl
 rw[t q c g];obtain⟨m,h,e⟩:=aK ((d.mem _).2 ⟨_,am c,rfl⟩);refine .inr ⟨m,h,λx=>g ?_,e⟩;subst x;exact cU (f:=(·.Id)) A.oid c B (Z0 aX.Id (e.symm.trans n))
def Rx(a:aY h E)(c:o∈h.O):1<=o.o/\o.o<=1000:=by
 rcases a.oow _ c with⟨s,d,e,f⟩|⟨l,b,g,i⟩
 ·have j:=aC (a.L.sok s d)
  have:=gH (n:=o.o) ω;omega
 have k:=bV (a.L.lok l b);omega
def RS.store(l:RS w)(g:aY w.Y [])(h:JI w.Y)(n:CI w.Y)(a:i<w.Y.O.length)(p:0<=j/\j<=(nth w.Y.O i).o - 1)(r:0<=v/\v<=999)(t:(ac (tbl w.Y) (((nth w.Y.O i).Addr+j) / 16)).e≠1):RS ⟨{w.Y with G:=dM w.Y.G ((nth w.Y.O i).Addr+j) v},eI w.b3 (nth w.Y.O i).Id j v⟩:=by
 obtain⟨-,d⟩:=CI.store (v:=v) g h n a p t;obtain⟨b,u,A,k⟩:=l.at (am a);have B:(nth w.b3.O b).T.length=(nth w.Y.O i).o.toNat:=by rw[k];exact gL ..
 have C:eI w.b3 (nth w.Y.O i).Id j v = {w.b3 with O:=w.b3.O.set b ⟨(nth w.b3.O b).Id,(nth w.b3.O b).T.set j.toNat v⟩}:=by
  unfold eI;rw[A];simp only[I3];rw[CD ⟨ω,ω,r⟩]
 have D:(⟨(nth w.b3.O b).Id,(nth w.b3.O b).T.set j.toNat v⟩ : aX)=gj (dM w.Y.G ((nth w.Y.O i).Addr+j) v) (nth w.Y.O i):=by
  rw[k];unfold gj;simp only
  congr 1
  refine List.ext_getElem (by simp[cellsOf]) λq K E=>?_
  rw[gL]at E;rw[List.getElem_set];simp only[cellsOf,List.getElem_map,List.getElem_range];have:=d _ (am a) q ω ω;rw[this];by_cases e:j.toNat=q
  ·rw[CD e,CD ⟨rfl,ω⟩]
  rw[CB e,CB (λx=>e ω)]
 rw[C,D];refine RS.upd l g a (h':={w.Y with G:=dM w.Y.G ((nth w.Y.O i).Addr+j) v}) rfl (λo=>?_) (λm c F=>?_) rfl u k
 ·show o∈w.Y.O↔_
  constructor
  ·intro G
   obtain⟨m,c,rfl⟩:=aK G;by_cases e:m=i
   ·subst e;exact .inl rfl
   exact .inr ⟨m,c,e,rfl⟩
  rintro(rfl|⟨m,c,-,rfl⟩)
  ·exact am a
  exact am c
 refine fU λx H J=>?_
 show fg (dM w.Y.G _ v) _=_;rw[d _ (am c) x H J,CB (λy=>F (cU (f:=(·.Addr)) (db g.osr) c a (by rw[y.1])))]
variable{m:Nat}
def Du(k:ah)(a:Int){n:Nat}(h:m<=n):(cellsOf k a n).take m=cellsOf k a m:=by
 unfold cellsOf;rw[<-X4,List.take_range,Nat.min_eq_left h]
def RS.trim(g:RS w)(d:aY w.Y [])(p:CI w.Y){k:Nat}(a:i<w.Y.O.length)(h:k<w.Y.M.length)(l:(nth w.Y.O i).Addr=16*(nth w.Y.M k).Q)(q:9<=size/\size<=(nth w.Y.M k).o):RS ⟨trimH w.Y i k size,fE w.b3 (nth w.Y.O i).Id size⟩:=by
 obtain⟨-,c⟩:=CI.trimH d p a h l q;have r:=BA d (am a) h l;obtain⟨b,t,u,e⟩:=g.at (am a);have A:(nth w.b3.O b).T.length=(nth w.Y.O i).o.toNat:=by rw[e];exact gL ..
 have B:fE w.b3 (nth w.Y.O i).Id size = {w.b3 with O:=w.b3.O.set b ⟨(nth w.b3.O b).Id,(nth w.b3.O b).T.take size.toNat⟩}:=by
  unfold fE;rw[u];simp only[I3];rw[CD ⟨ω,ω,ω⟩]
 have C:(⟨(nth w.b3.O b).Id,(nth w.b3.O b).T.take size.toNat⟩ : aX)=gj (trimH w.Y i k size).G {nth w.Y.O i with o:=size}:=by
  rw[e];unfold gj;simp only;rw[Du _ _ ω]
  congr 1
  refine(qS λj D H=>?_).symm;exact c _ (am a) j D ω λ_=>ω
 rw[B,C];refine RS.upd g d a (h':=trimH w.Y i k size) (x':={nth w.Y.O i with o:=size}) rfl (λo=>sA a) (λm n E=>?_) rfl t e;refine fU λx F G=>c _ (am n) x F G λy=>absurd (cU (f:=(·.Addr)) (db d.osr) n a (by rw[y])) E
def FS(h:ab)(i:Nat)(a:Int):(freeS h i a).d=h.d:=by unfold freeS;split<;>rfl
def NX(t:Nat)(h:ab)(a:Int):(recyc t h a).d=h.d:=by
 unfold recyc;split
 ·rfl
 exact FS h (uY h a) a
def ue(t:Nat):∀(az:List Int)(h:ab),(recycs t h az).d=h.d
 | [],_=>rfl
 | a::az,h=>(ue t az (recyc t h a)).trans (NX t h a)
def up:∀(az:List Int)(h:ab),(freeAs h az).d=h.d
 | [],_=>rfl
 | a::az,h=>(up az (freeA h a)).trans (FS h (uY h a) a)
def AO(t:Nat)(h:ab):∀k,(flushN t h k).1.d=h.d/\(flushN t h k).1.O=h.O
 | 0=>⟨rfl,rfl⟩
 | k+1=>by
  obtain⟨a,b⟩:=AO t h k;exact⟨(up _ _).trans a,(fX _ _).2.1.trans b⟩
def Fc(h:ab)(t i:Nat):(GK h t i).d=h.d/\(GK h t i).O=dele h.O i:=⟨ue _ _ _,(fp _ _ _).2.1⟩
def H1(h:ab)(t i:Nat):(freeT h t i).1.d=h.d/\(((freeT h t i).2=0/\(freeT h t i).1.O=dele h.O i)\/((freeT h t i).2=5/\(freeT h t i).1=h)):=by
 unfold freeT
 repeat' split
 ·exact⟨rfl,.inl ⟨rfl,rfl⟩⟩
 ·exact⟨rfl,.inr ⟨rfl,rfl⟩⟩
 ·exact⟨(Fc h t i).1,.inl ⟨rfl,(Fc h t i).2⟩⟩
 ·exact⟨rfl,.inl ⟨rfl,rfl⟩⟩
 exact⟨rfl,.inr ⟨rfl,rfl⟩⟩
def GU(h:ab):∀n,(stN h n).1.d=h.d/\(stN h n).1.O=h.O
 | 0=>⟨rfl,rfl⟩
 | n+1=>by
  obtain⟨a,b⟩:=GU h n;unfold stN;split
  ·exact⟨a,b⟩
  exact⟨a,b⟩
def CI.stN{h:ab}(a:aY h [])(b:JI h)(c:CI h):∀n,CI (stN h n).1/\Kp h (stN h n).1
 | 0=>⟨c,Ca h⟩
 | n+1=>by
  obtain⟨g,i⟩:=u5 a b n;obtain⟨d,f⟩:=CI.stN a b c n;unfold Ab.stN;split
  ·rename_i e
   unfold sD at e;rw[I0]at e;obtain⟨j,k⟩:=CI.mStep g i d e.1;exact⟨j,f.trans k⟩
  exact⟨d,f⟩
def yX(h:ab):(started h).1.d=h.d/\(started h).1.O=h.O:=by
 unfold started;split<;>exact⟨rfl,rfl⟩
structure CW(w:aQ):Prop where
 ci:CI w.Y
 rs:RS w
def CW.keep(h:CW w){g:ab}(a:CI g/\Kp w.Y g)(b:g.O=w.Y.O)(c:g.d=w.Y.d):CW ⟨g,w.b3⟩:=⟨a.1,h.rs.keep b a.2 c⟩
def CW.obj(h:rQ w m)(c:CW w)(a:ew)(b:i<w.Y.O.length):CW (mQ w a i).1:=by
 unfold mQ;split
 ·unfold q8
  split
  ·exact c
  split
  ·rename_i q
   unfold nO at q;have l:=CI.freeT (t:=a.a4.toNat) h.inv h.ji c.ci b ω;obtain⟨r,u⟩:=H1 w.Y a.a4.toNat i;refine⟨l.1,?_⟩;show RS ⟨(freeT w.Y a.a4.toNat i).1,if _ then _ else _⟩;rcases u with⟨f,d⟩|⟨f,d⟩
   ·rw[CD f];exact c.rs.free h.inv b d l.2 r
   rw[CB (by rw[f];decide),d];exact c.rs
  exact c
 split
 ·unfold ni
  split
  ·exact c
  rename_i g;split
  ·exact c
  rename_i n;split
  ·exact c
  rename_i j;have g:=Classical.not_not.1 g;have j:=Classical.not_not.1 j;exact⟨(CI.store h.inv h.ji c.ci b g n).1,RS.store c.rs h.inv h.ji c.ci b g j n⟩
 unfold q9;split
 ·rename_i e
  obtain⟨-,f,d⟩:=e;obtain⟨o,y,A⟩:=fR _ _ f;have k:=of_decide_eq_true y;have p:=k.symm.trans (Int.mul_comm _ _);exact⟨(CI.trimH h.inv c.ci b o p d).1,RS.trim c.rs h.inv c.ci b o p d⟩
 exact c
def CW.thread(h:rQ w m)(c:CW w)(a:ew):CW ⟨(fL w.Y a).1,w.b3⟩:=by
 have b:=c.ci;unfold fL;split
 ·split
  ·exact CW.keep (g:={w.Y with q:=gd w.Y.q a.a4.toNat}) c ⟨⟨b.z,b.jv,b.jd,b.jc,b.jn,b.m1,b.m2⟩,Ca w.Y⟩ rfl rfl
  exact c
 split
 ·exact c
 rename_i e;have e:=Classical.not_not.1 e;obtain⟨-,i⟩:=e;unfold nO at i;split
 ·exact c.keep (CI.collect (t:=a.a4.toNat) h.inv b ω) (fp _ _ _).2.1 (ue _ _ _)
 have j:a.a4.toNat<w.Y.S.length:=ω
 have f:=CI.flushN h.inv j b (W3 4);have d:=AO a.a4.toNat w.Y 4;generalize flushN a.a4.toNat w.Y 4=r at f d |-;exact CW.keep (g:=r.1) c f d.2 d.1
def CW.act(h:rQ w m)(c:CW w)(a:ew):CW (m9 w a).1:=by
 unfold m9;split
 ·have b:=CI.allocH (t:=a.a4) (size:=a.N) h.inv h.ji c.ci
  refine⟨b.ci,?_⟩;show RS ⟨(allocH w.Y a.a4 a.N).1,if _ then _ else _⟩;split
  ·rename_i e
   obtain⟨d,f,g,i,-⟩:=b.yes e;exact RS.alloc (x:=⟨w.Y.d,(allocH w.Y a.a4 a.N).2.1,a.N,a.a4⟩) c.rs h.inv d rfl f ⟨g,i⟩
  rename_i e;obtain⟨j,k,l,-⟩:=b.no e;exact c.rs.keep j k l
 split
 ·split
  ·exact c
  rename_i e;exact c.obj h a (fR _ _ (by unfold qN at e;omega)).1
 split
 ·exact c.thread h a
 split
 ·unfold o9
  split
  ·rename_i e
   exact c.keep (CI.tick h.inv c.ci e.2.1.1 e.2.2) (fX _ _).2.1 (up _ _)
  exact c
 split
 ·unfold nI
  split
  ·exact c
  rename_i e;exact c.keep (CI.started h.inv c.ci (by simpa using e)) (yX _).2 (yX _).1
 split
 ·exact c.keep (CI.stN h.inv h.ji c.ci _) (GU _ _).2 (GU _ _).1
 exact c
def LO(c:cR):CW (world0 c):=⟨CI.newHeap ..,rfl,List.Pairwise.nil,λy=>⟨λh=>(by cases h),λ⟨_,h,_⟩=>(by cases h)⟩⟩
def Ps{c:cR}(h:E4 c)(acts:List ew):∀n,CW (zj c acts n).1
 | 0=>LO c
 | n+1=>(Ps h acts n).act (uW h acts n) _
def Gf(zs:List Int):CW (drawn zs):=Ps (p7 (X0 _)).1 _ _
def cells1(xs:List Int)(i:Nat)(h:i<xs.length):[rI .U (nth xs i)]=((xs.map (rI .U)).take (i+1)).drop i:=by
 rw[List.drop_take,<-Y4,jm h,show i+1 - i=1 by omega]
 rfl
def HP(h:ab)(t n:Int):cls (allocH h t n).1<=cls h+63:=by
 have a:cls h<=cls h+63:=ω
 unfold allocH;split
 ·exact a
 split
 ·exact a
 split
 ·exact a
 rename_i c;split
 ·exact a
 split
 ·have:=KR h t.toNat (aJ n).toNat
  split
  ·show cls (smallA h t.toNat (aJ n).toNat).1<=_;omega
  show cls (smallA h t.toNat (aJ n).toNat).1<=_;omega
 have d:(gQ n:Int)<=63:=by unfold gQ;omega
 unfold largeA;split
 ·exact a
 have b:=Ge h.G (au h.w (gQ n:Nat)).2.1 (gQ n);unfold cls;split
 ·exact V5 b ω
 exact V5 (X5 (lB _ _ _).1) (V5 b ω)
def JD{h:ab}(a:aY h [])(b:JI h):∀n:Nat,cls (stN h n).1<=cls h+n
 | 0=>by show cls h<=cls h+((0:Nat):Int);omega
 | n+1=>by
  obtain⟨c,f⟩:=u5 a b n;have d:=JD a b n;unfold stN;split
  ·rename_i e
   unfold sD at e;rw[I0,C0]at e;have:=(xx c e.1).2.1;unfold cls at d |-;simp only;omega
  omega
def Mt(h:rQ w m)(a:ew):cls (m9 w a).1.Y<=cls w.Y+63:=by
 have b:cls w.Y<=cls w.Y+63:=ω
 unfold m9;split
 ·exact HP _ _ _
 split
 ·split
  ·exact b
  unfold mQ;split
  ·unfold q8
   split
   ·exact b
   split
   ·exact V5 (X5 (NY _ _ _)) b
   exact b
  split
  ·unfold ni
   split
   ·exact b
   split
   ·exact b
   split<;>exact b
  unfold q9;split
  ·exact V5 (X5 (((lB _ _ _).1).trans (oc _ _ _).2.1)) b
  exact b
 split
 ·unfold fL
  split
  ·split<;>exact b
  split
  ·exact b
  split
  ·exact V5 (X5 (fp _ _ _).2.2.1) b
  exact V5 (X5 (A3 _ _ _)) b
 split
 ·unfold o9
  split
  ·exact V5 (X5 (fX _ _).2.2.1) b
  exact b
 split
 ·unfold nI
  split
  ·exact b
  show cls (started w.Y).1<=_;unfold cls;rw[(vz h.inv).2.1];exact b
 split
 ·rename_i e
  have:=JD h.inv h.ji a.N.toNat;show cls (stN w.Y a.N.toNat).1<=_;omega
 exact b
def KK{c:cR}(h:E4 c)(acts:List ew):∀n:Nat,cls (zj c acts n).1.Y<=63*n
 | 0=>by show(0:Int)<=63*((0:Nat):Int);decide
 | n+1=>by
  have a:=KK h acts n;have b:=Mt (uW h acts n) (nth acts n);show cls (m9 (zj c acts n).1 (nth acts n)).1.Y<=_;omega
def Mh(zs:List Int):(drawn zs).Y.G.Calls<=2520/\(drawn zs).Y.d<=41:=by
 have a:(sr zs).i<=zs.length:=X0 _;obtain⟨b,d⟩:=p7 a;have g:=bL zs (eC zs) (n:=41) (by decide);obtain⟨e,-,-⟩:=pQ (zs:=zs) (c:=eC zs) d (n:=(bv zs (eC zs) 41).1.toNat) ω;have f:=KK b (lQ zs (eC zs)).1 (lQ zs (eC zs)).1.length;have h:(lQ zs (eC zs)).1.length<=40:=by
  show(lM zs (eC zs) _).1.length<=40;rw[e];omega
 have j:=(yL zs).ref.nx.2;have k:=(Gf zs).rs.nx;refine⟨?_,ω⟩;show cls (zj _ _ _).1.Y<=_;exact V5 f ω
def sm{α:Type}(f:α->Int):List α->Int
 | []=>0
 | a::l=>f a+sm f l
def pO{α:Type}(f:α->Int):∀l m:List α,sm f (l++m)=sm f l+sm f m
 | [],m=>by simp[sm]
 | a::l,m=>by simp only[List.cons_append,sm,pO f l m];omega
def QE(f:α->Int){l m:List α}(h:l.Perm m):sm f l=sm f m:=by
 induction h with
 | nil=>rfl
 | cons x _ a=>simp only[sm,a]
 | swap x y l=>simp only[sm];omega
 | trans _ _ b c=>exact b.trans c
def Gt{α β:Type}{f:α->Int}{g:β->Int}(k:α->β):∀l:List α,(∀a∈l,g (k a)=f a)->sm g (l.map k)=sm f l
 | [],_=>rfl
 | a::l,h=>by
  simp only[Y6,sm];rw[h a (C2 ..),Gt k l λb c=>h b (C6 _ c)]
def Df{α β:Type}{f:α->Int}{g:β->Int}(k:α->List β):∀l:List α,(∀a∈l,sm g (k a)=f a)->sm g (l.flatMap k)=sm f l
 | [],_=>rfl
 | a::l,h=>by
  rw[W7,pO];simp only[sm];rw[h a (C2 ..),Df k l λb c=>h b (C6 _ c)]
def xA{α:Type}{f:α->Int}{c:Int} : ∀l:List α,(∀a∈l,f a=c)->sm f l=l.length*c
 | [],_=>by simp[sm]
 | a::l,h=>by
  simp only[sm];rw[h a (C2 ..),xA l λb d=>h b (C6 _ d),List.length_cons,Int.natCast_succ,Int.add_mul];omega
def kZ[Inhabited α](f:α->Int)(xs:List α):dX f xs xs.length=sm f xs:=by
 have h:∀n,n<=xs.length->dX f xs n=sm f (xs.take n):=λn=>by
  induction n with
  | zero=>intro _;rfl
  | succ n a=>
   intro c;have b:=ao (xs:=xs) (i:=n) ω;rw[O6,b,pO];show dX f xs n+f (nth xs n)=_;rw[a ω];simp[sm]
 rw[h _ (W3 _),Y5]
def cst(h:ab)(a:Int):Int:=if 0<=eX h (a / 16) then eJ h a else(nth h.M (wz h a)).o
def Gc(a:∀s∈h.K,s.Q≠p):eX h p = -1:=by
 unfold eX;refine fy (i:=h.K.length) (W3 _) λj z c b=>?_
 unfold jI;exact W0 (a z (I2 b))
def te(f:aY h E){c:Int}(l:0<=c)(d:kb h.K a c):cst h a=csz c:=by
 obtain⟨s,d,e,g⟩:=d;obtain⟨i,j,rfl⟩:=aK d;have k:(nth h.K i).Q=a / 16:=by have n:=e.1;have o:=e.2.1;omega
 have b:=l7 f.L j;rw[k]at b;unfold cst eJ;rw[b,CD ω,I3,g.resolve_left ω]
def R2(e:aY h E)(c:kb h.K a (-1)):cst h a=eJ h a:=by
 obtain⟨s,c,d,-⟩:=c;obtain⟨i,f,rfl⟩:=aK c;have g:(nth h.K i).Q=a / 16:=by have j:=d.1;have k:=d.2.1;omega
 have b:=l7 e.L f;rw[g]at b;unfold cst;rw[b,CD ω]
def By(a:aY h E){l:a7}(b:l∈h.M):cst h (16*l.Q)=l.o:=by
 have o:=bV (a.L.lok l b);have g:=aM (a.L.lok l b);have i:16*l.Q / 16=l.Q:=ω
 have c:eX h l.Q = -1:=Gc λs k e=>a.L.dis s k l b 0 ω ω
 unfold cst;rw[i,c,CB (by decide)];obtain⟨f,p,-⟩:=sq b rfl;obtain⟨j,n,d⟩:=aK b;have q:=aM (a.L.lok _ (am f));have:=a.L.one (wz h (16*l.Q)) j f n 0 0 ω (by rw[d];omega) (by rw[d];omega);rw[this,d]
def RZ(s:ax):List Int:=((List.range 16).filter λi=>decide (((i:Nat):Int) % csz s.a=0)&&aS s.b1 (((i:Nat):Int) / csz s.a)).map λi=>16*s.Q+(i:Nat)
def qg : a∈RZ s↔ef s a:=by
 unfold RZ ef;rw[Z4];constructor
 ·rintro⟨i,b,rfl⟩
  rw[t5,I0,C0,List.mem_range]at b;rw[show 16*s.Q+((i:Nat):Int) - 16*s.Q=(i:Nat) by omega];exact⟨ω,ω,b.2.1,b.2.2⟩
 rintro⟨e,f,c,d⟩
 refine⟨(a - 16*s.Q).toNat,?_,ω⟩;rw[t5,I0,C0,List.mem_range];rw[show(((a - 16*s.Q).toNat:Nat):Int)=a - 16*s.Q by omega];exact⟨ω,c,d⟩
def Tt(s:ax):(RZ s).Nodup:=by
 unfold RZ List.Nodup;rw[List.pairwise_map];exact(List.nodup_range.sublist List.filter_sublist).imp λh e=>h ω
def fil(f:Nat->Bool)(n:Nat):Nat:=((List.range n).filter f).length
def sG(f:Nat->Bool)(n:Nat):fil f (n+1)=fil f n+if f n=true then 1 else 0:=by
 unfold fil;rw[List.range_succ,List.filter_append,Y3];cases e:f n<;>simp[e]
def Rz(f g p:Nat->Bool)(k:Nat)(a:0<k)(b:∀m j,j<k->f (k*m+j)=p m)(c:∀m j,j<k->g (k*m+j)=(decide (j=0)&&p m))(n:Nat):fil f (k*n)=k*fil g (k*n):=by
 induction n with
 | zero=>rfl
 | succ n d=>
  have h:∀j,j<=k->fil f (k*n+j)=fil f (k*n)+(if p n=true then j else 0)/\fil g (k*n+j)=fil g (k*n)+(if p n=true/\0<j then 1 else 0):=λj=>by
   induction j with
   | zero=>intro _;cases p n<;>simp
   | succ j ih2=>
    intro r;obtain⟨i,l⟩:=ih2 ω;rw[<-Nat.add_assoc,sG,sG,i,l,b n j ω,c n j ω];cases p n with
    | false=>simp
    | true=>
     by_cases e:j=0
     ·subst e;simp
     simp[e,Nat.pos_of_ne_zero e,Nat.add_assoc]
  obtain⟨o,q⟩:=h k (W3 _);rw[Nat.mul_succ,o,q,d,Nat.mul_add];cases p n<;>simp[a]
def TV(f:bi s=true):KZ s=(RZ s).length*csz s.a:=by
 have d:=aC f;obtain⟨k,b⟩:=O3 (show 0<=csz s.a by rcases b9 d.2.2 with e|e|e|e<;>rw[e]<;>decide);have g:∃n,16=k*n/\0<k:=by
  rcases b9 d.2.2 with e|e|e|e<;>rw[e]at b
  ·exact⟨16,ω,ω⟩
  ·exact⟨8,ω,ω⟩
  ·exact⟨4,ω,ω⟩
  exact⟨2,ω,ω⟩
 obtain⟨n,l,a⟩:=g;have h:=Rz (j8 s) (λi=>decide (((i:Nat):Int) % csz s.a=0)&&aS s.b1 (((i:Nat):Int) / csz s.a)) (λm=>aS s.b1 ((m:Nat):Int)) k a (λm j c=>by
   unfold j8;rw[b,<-Int.natCast_ediv,Nat.mul_add_div a,Nat.div_eq_of_lt c,Nat.add_zero]) (λm j c=>by
   rw[b,<-Int.natCast_ediv,<-Int.natCast_emod,Nat.mul_add_div a,Nat.div_eq_of_lt c,Nat.add_zero,Nat.mul_add_mod,Nat.mod_eq_of_lt c]
   congr 1
   exact decide_eq_decide.2 ⟨λe=>ω,λe=>ω⟩) n
 rw[<-l]at h;unfold KZ jl RZ;rw[I1,I1,b];unfold fil at h;rw[h,Int.natCast_mul,Int.mul_comm,b]
def JM(h:ab):List Int:=h.K.flatMap RZ++h.M.map λl=>16*l.Q
def Ht(f:aY h []):(holders h).Perm (JM h):=by
 have g:=f.nd;rw[List.nil_append]at g;have o:=f.L;refine(List.perm_ext_iff_of_nodup g ?_).2 λa=>?_
 ·unfold JM
  rw[List.nodup_append];refine⟨?_,?_,?_⟩
  ·unfold List.Nodup
   rw[List.pairwise_flatMap];refine⟨λs _=>Tt s,?_⟩;refine f.srs.imp fun {s u} j a k b n=>?_
   have c:=qg.1 k;have p:=qg.1 n;have:=c.2.1;have:=p.1;omega
  ·unfold List.Nodup
   rw[List.pairwise_map];exact f.srl.imp λj=>ω
  intro a k b n e;obtain⟨s,i,c⟩:=List.mem_flatMap.1 k;obtain⟨l,d,rfl⟩:=Z4.1 n;have c:=qg.1 c;have q:=aM (o.lok l d);have r:=c.1;have t:=c.2.1;exact o.dis s i l d 0 ω ω
 have:=f.mem a;rw[List.nil_append]at this;rw[this];unfold Live JM;rw[V3,List.mem_flatMap,Z4];constructor
 ·rintro(⟨s,i,c,-⟩|⟨l,d,e⟩)
  ·exact .inl ⟨s,i,qg.2 c⟩
  exact .inr ⟨l,d,e.symm⟩
 rintro(⟨s,i,c⟩|⟨l,d,e⟩)
 ·exact .inl ⟨s,i,qg.1 c,.inl (by decide)⟩
 exact .inr ⟨l,d,e.symm⟩
def PP(b:aY h []):sm (cst h) (holders h)=lE h.K h.M:=by
 have e:=b.L;rw[QE _ (Ht b)];unfold JM lE;rw[pO,kZ,kZ]
 congr 1
 ·refine Df RZ h.K λs d=>?_
  have f:=aC (e.sok s d);rw[xA (c:=csz s.a) (RZ s) λa g=>te b f.2.2.1 ⟨s,d,qg.1 g,.inr rfl⟩,TV (e.sok s d)]
 exact Gt _ h.M λl i=>By b i
def Aw{h:ab}(f:Int->Int):∀(b:List (List Int))(k:Nat),(∀j:Nat,j<b.length->∀a∈nth b j,f a=csz ((k+j:Nat):Int))->sm f b.flatten=dy k b
 | [],_,_=>rfl
 | l::b,k,e=>by
  rw[List.flatten_cons,pO,dy];rw[xA (c:=csz (k:Nat)) l λa d=>e 0 (by simp) a d,Aw (h:=h) f b (k+1) λj g a d=>by
    rw[show k+1+j=k+(j+1) by omega];exact e (j+1) (by simp;omega) a d]
def tt(xs:List aN):quarCells xs xs.length=sm (λx=>csz x.a) xs:=by
 have h:∀n,quarCells xs n=dX (λx:aN=>csz x.a) xs n:=λn=>by
  induction n with
  | zero=>rfl
  | succ n a=>simp only[quarCells,dX,a]
 rw[h,kZ]
def Hn(a:aY h [])(d:o∈h.O):cst h o.Addr=dY o:=by
 unfold dY;rcases a.oow o d with⟨s,b,e,f⟩|⟨l,c,g,i⟩
 ·have j:=aC (a.L.sok s b)
  rw[CD ω,<-f];exact te a j.2.2.1 ⟨s,b,e,.inr rfl⟩
 have k:=bV (a.L.lok l c);rw[CB (by unfold aJ;repeat' split<;>omega),g,By a c,i]
def balance(b:aY h []):(cL h).d1=(cL h).d2+(cL h).c6+(cL h).c3+(cL h).c8:=by
 show lE h.K h.M=dX dY h.O h.O.length+dX cB h.S h.S.length+quarCells h.a9.a5 h.a9.a5.length+dX (eJ h) (aF h.q) (aF h.q).length;rw[<-PP b];unfold holders;rw[pO,pO,pO,kZ,kZ,kZ,tt];have q:sm (cst h) (h.O.map (·.Addr))=sm dY h.O:=Gt _ _ λo r=>Hn b r
 have t:sm (cst h) (ce h)=sm cB h.S:=Df _ _ λc d=>by
  unfold cB;rw[CD (b.cach c d)];exact Aw (h:=h) (cst h) c.b 0 λj u a e=>by rw[Y7];exact te b ω (b.hca c d j u a e)
 have w:sm (cst h) (h.a9.a5.map (·.Addr))=sm (λx:aN=>csz x.a) h.a9.a5:=Gt _ _ λx n=>by
  have p:=b.hqu x n;obtain⟨s,i,-,B⟩:=id p;have d:=aC (b.L.sok s i);have k:0<=x.a:=by
   have l:=b.quar;unfold fI at l;rw[I0]at l;obtain⟨j,y,rfl⟩:=aK n;have:=dI l.1 y;unfold jS at this;simp only[I0,C0]at this;exact this.1.1
  exact te b k p
 have A:sm (cst h) (aF h.q)=sm (eJ h) (aF h.q):=by
  have:=Gt (f:=eJ h) (g:=cst h) (λa:Int=>a) (aF h.q) λa e=>R2 b (b.hfl a e)
  rwa [List.map_id']at this
 rw[q,t,w,A]
def y5(t:aH):fT t=((fil (λp=>decide ((nth t.J p).e≠0)) t.J.length:Nat):Int):=by
 have h:∀n,dX cy t.J n=((fil (λp=>decide ((nth t.J p).e≠0)) n:Nat):Int):=λn=>by
  induction n with
  | zero=>rfl
  | succ n a=>
   rw[sG];show dX cy t.J n+cy (nth t.J n)=_;rw[a];unfold cy;by_cases e:(nth t.J n).e=0<;>simp[e]
 exact h _
def NV:∀{l m:List Nat},l.Nodup->(∀a∈l,a∈m)->l.length<=m.length
 | [],_,_,_=>X0 _
 | a::l,m,g,c=>by
  obtain⟨h,i⟩:=List.nodup_cons.1 g;have d:=c a (C2 ..);have:=NV (l:=l) (m:=m.erase a) i λb f=>(List.mem_erase_of_ne (λe=>by subst e;exact h f)).2 (c b (C6 _ f))
  rw[List.length_erase_of_mem d]at this;have:=List.length_pos_of_mem d;rw[List.length_cons];omega
def Py(a:List Bool):iE a a.length=((fil (nth a) a.length:Nat):Int):=by
 have h:∀n,iE a n=((fil (nth a) n:Nat):Int):=λn=>by
  induction n with
  | zero=>rfl
  | succ n b=>
   rw[sG];show iE a n+(if nth a n then 1 else 0)=_;rw[b];cases nth a n<;>simp
 exact h _
def QS(e:aY h []):0<=eE h.G.F.W/\eE h.G.F.W<=fT (tbl h):=by
 obtain⟨-,f,-,g,-⟩:=aG.1 e.ker;unfold eE;rw[CD f,Py,y5];refine⟨ω,Int.ofNat_le.2 ?_⟩;have:=NV (l:=(List.range h.G.F.W.a6.length).filter (nth h.G.F.W.a6)) (m:=((List.range (tbl h).J.length).filter λp=>decide ((nth (tbl h).J p).e≠0)).map λp=>(nth (tbl h).J p).j.toNat) (List.nodup_range.sublist List.filter_sublist) λj b=>by
  rw[t5,List.mem_range]at b;have c:=g j b.1;rw[b.2]at c;have i:0<(pagesOn (tbl h) (j:Int)).length:=of_decide_eq_true c.symm;obtain⟨y,d⟩:=List.exists_mem_of_length_pos i;have a:=d;unfold pagesOn at a;obtain⟨p,-,rfl⟩:=Z4.1 a;obtain⟨k,n,o⟩:=d7.1 d;rw[Z4];refine⟨p,?_,by rw[o];rfl⟩;rw[t5,List.mem_range,C0];exact⟨k,n⟩
 rw[I1]at this;exact this
def Ga{α:Type}{f:α->Int} : ∀l:List α,(∀a∈l,0<=f a)->0<=sm f l
 | [],_=>W5 _
 | a::l,h=>by
  have d:=h a (C2 ..);have e:=Ga l λb c=>h b (C6 _ c)
  simp only[sm];omega
def vu:∀(a:List (List Int))(k:Nat),0<=dy k a
 | [],_=>W5 _
 | l::a,k=>by
  have b:=vu a (k+1);have c:=Int.mul_nonneg (show(0:Int)<=l.length by omega) (csz8 (k:Nat)).1;simp only[dy];omega
def QU(a:aY h []):kh (cL h)=true:=by
 have n:=balance a;have d:=a.lens;have g:=a.to;have q:=QS a;have r:(cL h).c7=fT (tbl h):=rfl;have t:(cL h).W=eE h.G.F.W:=rfl;have u:(cL h).a1=(dQ h:Nat):=rfl;have i:fT (tbl h)<=(dQ h:Nat):=by
  rw[y5];have:fil (λp=>decide ((nth (tbl h).J p).e≠0)) (tbl h).J.length<=(tbl h).J.length:=by
   unfold fil;exact O5 (List.length_filter_le _ _) (by simp)
  exact Int.ofNat_le.2 this
 have j:dQ h<=32:=d.ents;have w:0<=(cL h).d2:=by
  show 0<=dX dY h.O h.O.length;rw[kZ];refine Ga _ λo k=>?_
  have:=zd g o k;unfold dY;split
  ·exact(csz8 _).1
  omega
 have y:0<=(cL h).c6:=by
  show 0<=dX cB h.S h.S.length;rw[kZ];refine Ga _ λc A=>?_
  unfold cB;split
  ·exact vu _ _
  exact W5 _
 have B:0<=(cL h).c3:=by
  show 0<=quarCells h.a9.a5 h.a9.a5.length;rw[tt];exact Ga _ λx _=>(csz8 _).1
 have C:0<=(cL h).c8:=by
  show 0<=dX (eJ h) (aF h.q) (aF h.q).length;rw[kZ];exact Ga _ λx _=>(csz8 _).1
 have D:(cL h).d1<=16*32+1000*32:=by
  show dX KZ h.K h.K.length+dX (·.o) h.M h.M.length<=_;have E:=(jQ (f:=KZ) (xs:=h.K) (b:=16) (λs _=>PV s) h.K.length (W3 _)).2;have F:=(jQ (f:=λl:a7=>l.o) (xs:=h.M) (b:=1000) (λl e=>by
    have:=bV (a.L.lok l e);omega) h.M.length (W3 _)).2
  have:=d.spans;have:=d.larges;omega
 unfold kh;rw[C0];omega
def Fk(a:aY h [])(r:JI h)(J:CI h){p:Nat}(D:p<dQ h)(t:(nth (tbl h).J p).e≠0)(K:h.u=true->(p:Int)≠h.Z.X.a3):jM h p=true:=by
 have e:ac (tbl h) (p:Int)=nth (tbl h).J p:=fB D;have f:(ac (tbl h) (p:Int)).e≠0:=by rw[e];exact t
 have g:=kP a.ker (p:=(p:Int)) f;have i:(nth (tbl h).J p).j=(bK h.G p:Nat):=by rw[<-e];exact g
 unfold jM;refine ch.2 λc w=>?_
 have k:nth (oU h p) c=cl h.G (bK h.G p) c:=by
  unfold oU cl;rw[show(nth (tbl h).J p).j.toNat=bK h.G p by omega]
 rw[k];by_cases y:cl h.G (bK h.G p) c=0
 ·rw[O0 y];rfl
 rw[W0 y,Bool.false_or];unfold uo;rcases J.z _ c w y with⟨o,E,n⟩|⟨A,M,W⟩
 ·rcases a.oow o E with⟨s,N,F,X⟩|⟨l,d,O,Y⟩
  ·rcases jj a E n with⟨u,B,P,Q,R,Z⟩|⟨l,d,O,-⟩
   ·rw[I7]
    refine .inl (O4.2 ⟨u,B,?_⟩);obtain⟨m1,m2,S⟩:=a.mapped B;rw[I0];refine⟨O0 ?_,?_⟩
    ·rw[eO D t,i]
     have T:u.Q=((u.Q.toNat:Nat):Int):=ω
     rw[T];refine d7.2 ⟨ω,S,?_⟩;rw[<-a.pe B];exact Q
    unfold j8;rw[R];exact P.2.2.2
   exfalso;have:=aM (a.L.lok l d);exact a.L.dis s N l d 0 ω (by have:=F.1;have:=F.2.1;omega)
  rw[I7];refine .inr (O4.2 ⟨l,d,?_⟩);obtain⟨j,j1,j2,q⟩:=n;have G:=a.L.lok l d;have H:=G;unfold bF at H;rw[C0]at H;have hq:=lr a d (b:=o.Addr+j) ω ω q f g;have U:=q.c;unfold bf;rw[G,Bool.true_and];exact O0 ω
 exfalso;have:=r.sk A p t;have C:=(a.jobM A).1;obtain⟨a1,a2,V⟩:=mj C;refine K A (this ?_);rw[i,<-V,M]
def Rp(h:ab):Nat->Nat
 | 0=>0
 | n+1=>if(nth (tbl h).J n).e≠0/\jM h n=true then Rp h n+1 else Rp h n
def QM(h:ab):∀n,Rp h n<=n
 | 0=>W3 _
 | n+1=>by have:=QM h n;unfold Rp;split<;>omega
def pk{α:Type}{f:α->Int}{x:α} : ∀{xs:List α},(xs.map f).Nodup->x∈xs->xs.filter (λy=>decide (f y=f x))=[x]
 | [],_,h=>by cases h
 | y::ys,b,a=>by
  rw[Y6,List.nodup_cons]at b;by_cases e:f y=f x
  ·rw[List.filter_cons_of_pos (by simpa using e)]
   have c:ys.filter (λy=>decide (f y=f x))=[]:=List.filter_eq_nil_iff.2 λz d g=>b.1 (by
     rw[e,<-of_decide_eq_true g];exact Z4.2 ⟨z,d,rfl⟩)
   rw[c];rcases List.mem_cons.1 a with rfl|a
   ·rfl
   exact absurd (by rw[e];exact Z4.2 ⟨x,a,rfl⟩) b.1
  rw[List.filter_cons_of_neg (by simpa using e)];rcases List.mem_cons.1 a with rfl|a
  ·exact absurd rfl e
  exact pk b.2 a
def Az{α:Type}{f:α->Int}(n:Int):∀{xs:List α},(xs.Pairwise λa b=>f a<f b)->xs.filter (λy=>decide (f y<n+1))=xs.filter (λy=>decide (f y<n))++xs.filter (λy=>decide (f y=n))
 | [],_=>rfl
 | y::ys,h=>by
  obtain⟨d,k⟩:=List.pairwise_cons.1 h;have l:=Az (f:=f) n k;rcases Int.lt_trichotomy (f y) n with e|e|e
  ·rw[List.filter_cons_of_pos (by simp;omega),List.filter_cons_of_pos (by simp;omega),List.filter_cons_of_neg (by simp;omega),l];rfl
  ·have g:ys.filter (λy=>decide (f y<n+1))=[]:=List.filter_eq_nil_iff.2 λz c=>by have:=d z c;simp;omega
   have i:ys.filter (λy=>decide (f y<n))=[]:=List.filter_eq_nil_iff.2 λz c=>by have:=d z c;simp;omega
   have j:ys.filter (λy=>decide (f y=n))=[]:=List.filter_eq_nil_iff.2 λz c=>by have:=d z c;simp;omega
   rw[List.filter_cons_of_pos (by simp;omega),List.filter_cons_of_neg (by simp;omega),List.filter_cons_of_pos (by simp;omega),g,i,j];rfl
  have g:ys.filter (λy=>decide (f y<n+1))=[]:=List.filter_eq_nil_iff.2 λz c=>by have:=d z c;simp;omega
  have i:ys.filter (λy=>decide (f y<n))=[]:=List.filter_eq_nil_iff.2 λz c=>by have:=d z c;simp;omega
  have j:ys.filter (λy=>decide (f y=n))=[]:=List.filter_eq_nil_iff.2 λz c=>by have:=d z c;simp;omega
  rw[List.filter_cons_of_neg (by simp;omega),List.filter_cons_of_neg (by simp;omega),List.filter_cons_of_neg (by simp;omega),g,i,j];rfl
def wH(r:aX):Kj:=⟨r.Id,(r.T.length:Nat),GY r.T r.T.length⟩
def GQ(k:ah)(h:0<=o.o):wH (gj k o)=Hk k o:=by
 unfold wH gj Hk;simp only[gL];rw[show((o.o.toNat:Nat):Int)=o.o by omega]
def AX{w:aQ}(b:RS w)(c:aY w.Y []):∀n:Nat,ql w.Y n=(w.b3.O.filter λy:aX=>decide (y.Id<(n:Int))).map wH
 | 0=>by
  rw[List.filter_eq_nil_iff.2 (λy h=>by have:=b.lt c y h;simp;omega)];rfl
 | n+1=>by
  have k:=Az (f:=λy:aX=>y.Id) (n:Int) b.asc;rw[show((n+1:Nat):Int)=(n:Int)+1 by omega,k,W6,ql,AX b c n]
  congr 1
  by_cases i:∃o∈w.Y.O,o.Id=n
  ·obtain⟨o,a,e⟩:=i
   have l:=Rx c a;have d:=pk (f:=λo:bn=>o.Id) (x:=o) c.oid a;have g:=pk (f:=λy:aX=>y.Id) (x:=gj w.Y.G o) (db b.asc) ((b.mem _).2 ⟨o,a,rfl⟩);simp only[show(gj w.Y.G o).Id=o.Id from rfl,e]at d g;rw[g,show w.Y.O.filter (bR n)=[o] from d,Y6,Y6,GQ _ ω]
   rfl
  have d:w.Y.O.filter (bR n)=[]:=List.filter_eq_nil_iff.2 λo a j=>i ⟨o,a,of_decide_eq_true j⟩
  have g:w.b3.O.filter (λy:aX=>decide (y.Id=(n:Int)))=[]:=List.filter_eq_nil_iff.2 λy h j=>by
   obtain⟨o,a,rfl⟩:=(b.mem y).1 h;exact i ⟨o,a,of_decide_eq_true j⟩
  rw[d,g];rfl
def Ni(a:RS w)(b:aY w.Y []):wD w.Y=w.b3.O.map wH:=by
 unfold wD;rw[CD b.to,AX a b,List.filter_eq_self.2];intro y c;have:=a.lt b y c;have:=a.nx;exact O0 ω
def LG(b:aY h []):(wD h).length=h.O.length:=by
 have c:=λo a=>b.onu o a
 unfold wD;rw[CD b.to,vF (λo a=>by have:=c o a;omega),List.filter_eq_self.2];intro o a;have:=c o a;exact O0 ω
def RY(c:RS w)(a:aY w.Y []):w.b3.O.length=w.Y.O.length:=by
 have b:=LG a;rw[Ni c a,I1]at b;exact b
def Hv(a:RS w)(b:aY w.Y []):ib w.Y w.b3=true:=by
 have c:=b.to;rw[vk c a.nx.symm (RY a b).symm];refine ch.2 λj d=>?_
 obtain⟨o,f,e⟩:=(a.mem _).1 (am d);obtain⟨i,g,rfl⟩:=aK f;have h:=(T4 c (z:=(nth w.b3.O j).Id) g).1 (by rw[e];rfl);rw[Ez h,e];exact O0 rfl
def Hj(h:rQ w m)(c:CW w):mu w=true:=by
 rw[AR (Hv c.rs h.inv) (QU h.inv)];refine ch.2 λp d=>?_
 unfold jZ;by_cases a:(nth (tbl w.Y).J p).e=0
 ·rw[O0 a];rfl
 cases b:w.Y.u with
 | true=>
  by_cases f:(p:Int)=w.Y.Z.X.a3
  ·rw[O0 f];simp
  rw[Fk h.inv h.ji c.ci d a (λ_=>f)];simp
 | false=>rw[Fk h.inv h.ji c.ci d a (λe=>by rw[b]at e;cases e)];simp
def sw(zs:List Int):Nat->List Int × iV
 | 0=>([],sr zs)
 | n+1=>((sw zs n).1++[(bv zs (sw zs n).2 10000).1],(bv zs (sw zs n).2 10000).2)
def BK(zs:List Int):∀n,(sw zs n).2.i<=zs.length/\(sw zs n).1.length=n/\∀x∈(sw zs n).1,0<=x/\x<10000
 | 0=>⟨X0 _,rfl,λx a=>by cases a⟩
 | n+1=>by
  obtain⟨b,c,d⟩:=BK zs n;refine⟨bW b _,by show((sw zs n).1++[_]).length=_;rw[Y3,c];rfl,λx a=>?_⟩;rcases V3.1 a with a|a
  ·exact d x a
  rw[V1.1 a];exact bL zs (sw zs n).2 (n:=10000) (by decide)
def wc(zs:List Int)(a:jE zs):zzA 17 false [.val none (Ty zs)] .one (aD .own (sw zs 12).1):=by
 have b:=v7 zs a;refine fP 19 [(58,[2,0]),(3000003,[])] [] Tryz.func17 rfl ?_ (.inr (bG _))
 repeat'(first|refine gP ?_|(conv=>whnf);refine Cl.g b (.inr rfl) ?_)
 (conv=>whnf)
 refine CH (ι:=Nat) (λi=>[(0,.H .one (Ty zs)),(3,.H .box (iN zs (sw zs i).2)),(4,.H .one (aD .own (sw zs i).1)),(5,.H .one [I ((i:Nat):Int)])]) (λi=>i<=12) (λi=>12 - i) (0) ?_ (X0 _) λi j=>?_
 ·repeat'(first|exact trivial|rfl |exact ov c|exact dZ _|refine CN ?_ ?_|(exact DS (by first|omega|(simp only;omega)|(simp;omega))))
 obtain⟨d,k,-⟩:=BK zs i;by_cases l:i<12
 ·have e:=bU zs (sw zs i).2 10000 a d (by decide)
  repeat'(first|refine gE ?_|(conv=>whnf);first|refine CM (e) (.inl rfl) ?_|refine CU cw (λr h=>by rw[V1.1 h];rfl) (by simp[aZ,dS]) (by simp;omega) (by simp only[I1];exact wZ (by simp;omega) (by decide)) rfl ?_)
  ((conv=>whnf);refine CG (i+1) ω ω ?_)
  repeat'(first|exact trivial|rfl| exact dZ _ |exact ov (Z0 (C.s dN.own) (by simp[sw,rI]))|refine CN ?_ ?_|(exact DS (by first|omega|(simp only;omega)|(simp;omega))))
 obtain rfl:i=12:=ω
 repeat'(first|refine gE ?_|fail)
 rfl
def NoObject_law(zs:List Int)(E:zs.length<=9223372036854775807/\∀y∈zs,0<=y/\y<=255):zzA 9 false [.val none (Ty zs)] .one [B true]:=by
 have l:=Tu zs E.1;by_cases F:(zs.length:Int) > 1048576
 ·rw[O0 F]at l
  refine fO 55 [(6,271,[22,23,24,25,26,27,28,29,30,31,32,21,33,34,6,0,1,2,3,4,5,6,7,8,9,10,11,12,13,14,15,1013,16])] Tryz.func9 rfl ?_
  repeat'(first|refine gP ?_|(conv=>whnf);refine C9 (l) ?_)
  rfl
 rw[W0 F]at l;have G:jE zs:=⟨ω,E.2⟩
 have cD:=y6 zs G;have cP:=wc zs G;obtain⟨-,W,H⟩:=BK zs 12;have b:=yL zs;have o:=Gf zs;obtain⟨-,K⟩:=Mh zs;obtain⟨r,L⟩:=LU zs;generalize drawn zs=w at *;generalize (sw zs 12).1=d at *;have g:=ao (xs:=d) (i:=0) ω;have h:=ao (xs:=d) (i:=1) ω;have t:=H _ (am (xs:=d) (i:=0) ω);have M:=H _ (am (xs:=d) (i:=1) ω);generalize nth d 0=p at *;generalize nth d 1=q at *;have u:=b.inv;have N:=u.to;have a:=u.nums;unfold cq at a;rw[C0]at a;have O:=fF (y:=3) t.1;have C:=Int.emod_nonneg p (show(3:Int)≠0 by decide);have P:=Int.emod_lt_of_pos p (show(0:Int)<3 by decide);generalize p % 3=m at *;obtain⟨k,rfl⟩:=O3 C;have Q:(nth [(2:Int),3,4] k)=2\/(nth [(2:Int),3,4] k)=3\/(nth [(2:Int),3,4] k)=4:=by
  have:k=0\/k=1\/k=2:=ω
  rcases this with rfl|rfl|rfl
  ·exact .inl rfl
  ·exact .inr (.inl rfl)
  exact .inr (.inr rfl)
 have j:=ao (xs:=[(2:Int),3,4]) (i:=k) (by simp;omega);have c:=b.ref.sml ω;have D:cu (bR (w.Y.d+q)) w.Y.O = -1:=by
  rcases iR (bR (w.Y.d+q)) w.Y.O with e|⟨n,R,e,S⟩
  ·exact e
  have X:=(u.onu _ (am R)).2.1;have Y:(nth w.Y.O n).Id=w.Y.d+q:=of_decide_eq_true S;omega
 have T:=GP w ⟨nth [(2:Int),3,4] k,0,w.Y.d+q,0,9⟩ r c N Q D;have U:=EK w.Y r;have V:=Jm w.b3 c;have J:=Dx w ⟨r,c⟩;rw[Hj b o]at J;generalize nth [(2:Int),3,4] k=kk at *;refine fO 55 [(6,271,[22,23,24,25,26,27,28,29,30,31,32,21,33,34,6,0,1,2,3,4,5,6,7,8,9,10,11,12,13,14,15,1013,16])] Tryz.func9 rfl ?_
 repeat'(first|refine gB ?_|(conv=>whnf);first|refine CJ rfl (aa (f:=rI .own) j) rfl ?_|refine CF (aa (f:=rI .own) j) ?_|refine CQ ω ?_|refine CX O ?_|refine C9 (l) ?_|refine C9 (cD) ?_|refine C9 (cP) ?_|refine CL (T) ⟨⟨rfl,aQ.enc_fz _⟩,⟨rfl,rfl⟩,trivial⟩ ?_|refine CL (U) ⟨⟨rfl,ab.enc_fz _⟩,⟨rfl,ab.enc_fz _⟩,trivial⟩ ?_|refine CL (V) ⟨⟨rfl,Ce _⟩,⟨rfl,Ce _⟩,trivial⟩ ?_|refine CL (J) ⟨⟨rfl,aQ.enc_fz _⟩,trivial⟩ ?_)
 rfl
open Go.RowKit Go.ChangeShapes Go.WideShapes Go.Deep
def ALL(w:World):af:=λb _=>b<w.heap.size
def UG{H:Type}(e:TypeId × Value->H)(P:Program)(w:World)(t n:Nat)(enc:α->List C)(c:α->Prop):Prop:=
 ∀(fuel:Nat)(b:List Value)(x:DataW H × List MemPlace),DataW.trod e P w 0 (λ_=>true) true fuel t b=some x->b.length=n/\∃a,c a/\(enc a).length=n/\dn w (ALL w) NO (enc a) (λj=>b.getD j undef)
section
variable{H:Type}{e:TypeId × Value->H}{P:Program}{w:World}
variable{u:Nat->Value}
def DB{S F:af}{c:C}(h:eY w S F c (u 0)):dn w S F [c] u:=
 ⟨λ_=>F,λj e a=>by cases j with
   | zero=>simp at a;subst a;exact h
   | succ j=>simp at a,λ_ _ _ _ h=>h,λj f a b d=>by simp at a b;omega⟩
def pick{α β:Type}(n:Nat){Q:Nat->β->Prop}(h:∀i,i<n->∃b,Q i b):∃l:List β,l.length=n/\∀i b,l[i]? = some b->Q i b:=by
 induction n with
 | zero=>exact⟨[],rfl,λi b h=>by simp at h⟩
 | succ n c=>
  obtain⟨l,d,e⟩:=c λi a=>h i ω
  obtain⟨b,f⟩:=h n ω;refine⟨l++[b],by simp[d],λi g a=>?_⟩;by_cases j:i<n
  ·rw[v5 ω]at a;exact e i g a
  rw[z5 ω]at a;have:i - l.length=0:=by
   have:=(X2.1 a).1;simp at this;omega
  rw[this]at a;simp at a;subst a;rw[show i=n by omega];exact f
def Pj{t T n:Nat}{α:Type}{enc:α->List C}{U:α->Prop}(V:UG e P w T n enc U)(ht:P.underlying t=some (.slice T))(hn:P.cellsOf T=n)(p:0<n) :
  UG e P w t 1 (λxs:List α=>[.s .U (xs.map enc)]) (λxs=>xs.length<=9223372036854775807/\∀y∈xs,U y):=by
 intro fuel cs x h;rcases open_slice ht h with⟨rfl,-⟩|⟨k,len,cap,m,n',D,Pl,rfl,-,hl,hm,K,-,u⟩
 ·exact⟨rfl,[],⟨by simp,by simp⟩,rfl,DB (.nil _ _ _ trivial)⟩
 simp only[if_true]at K;subst K;have L:0<m->k.spot=none:=λW=>by
  obtain⟨E,M,N⟩:=u 0 W;rw[hn]at M;obtain⟨_,X,F⟩:=World.cells?_some M;have:=F 0 p;rw[W2 ω]at this;have:=World.cell?_spot this;simpa[Addr.add] using this
 have key:∀i,i<len->∃a,U a/\(enc a).length=n/\(∀d,d<n->∃z,cel w k.block (k.off+(i*n+d))=some z)/\k.spot=none/\dn w (ALL w) NO (enc a) (λd=>(cel w k.block (k.off+(i*n+d))).getD undef):=λi hil=>by
  have g:=L ω;obtain⟨E,M,N⟩:=u i ω;rw[hn]at M;obtain⟨h1,a,h3,h4,h5⟩:=V _ _ _ N;obtain⟨_,X,F⟩:=World.cells?_some M;have O:∀d,k.add d = ⟨k.block,k.off+d,none⟩:=λd=>by
   obtain⟨b,o,sp⟩:=k;simp only at g;subst g;unfold Addr.add;split<;>simp_all
  have A:∀d,d<n->cel w k.block (k.off+(i*n+d))=E[d]?:=λd J=>by
   have:=F d J;rw[Go.Deep.add_add,O]at this;exact this
  refine⟨a,h3,h4,λd J=>⟨_,by rw[A d J,W2 ω]⟩,g,h5.congr λd J=>?_⟩;show(cel w k.block (k.off+(i*n+d))).getD undef=E.getD d undef;rw[A d ω,List.getD]
 obtain⟨l,Q,B⟩:=pick (α:=α) len key;refine⟨rfl,l,⟨by simp only[maxLen]at hm;omega,λy R=>?_⟩,rfl,DB ?_⟩
 ·obtain⟨i,G⟩:=List.mem_iff_getElem?.1 R
  exact(B i y G).1
 show eY w (ALL w) NO (.s .U (l.map enc)) (.slice (some k) len m);by_cases h0:len=0
 ·subst h0
  have:l=[]:=O8 Q;subst this;by_cases Y:m=0
  ·subst Y;exact .nil _ _ _ trivial
  have g:=L ω;obtain⟨b,o,sp⟩:=k;simp only at g;subst g;exact .U _ b o n 0 m [] (λ_=>undef) rfl (λr Z=>by simp at Z) hl (λq hq=>by simp at hq) (λi j r c u=>by simp at u)
 obtain⟨y0,hy0⟩ : ∃y,l[0]? = some y:=⟨_,W2 ω⟩
 have g:=(B 0 y0 hy0).2.2.2.1;obtain⟨b,o,sp⟩:=k;simp only at g;subst g;refine .U _ b o n len m (l.map enc) (λq=>(cel w b (o+q)).getD undef) (by simpa using Q) (λr Z=>?_) hl (λq hq=>?_) (λi j r c u hj=>?_)
 ·obtain⟨y,R,rfl⟩:=Z4.1 Z
  obtain⟨i,G⟩:=List.mem_iff_getElem?.1 R;exact(B i y G).2.1
 ·have hqd:q / n<len:=(Nat.div_lt_iff_lt_mul p).2 hq
  obtain⟨y,R⟩ : ∃y,l[q / n]? = some y:=⟨_,W2 ω⟩
  obtain⟨z,S⟩:=(B _ y R).2.2.1 (q % n) (Nat.mod_lt _ p);have J:q / n*n+q % n=q:=by rw[Nat.mul_comm];exact Nat.div_add_mod q n
  rw[J]at S;exact⟨Tw S,by simp only at S |-;rw[S];rfl⟩
 rw[X3]at u;cases H:l[i]? with
 | none=>rw[H]at u;cases u
 | some y=>
  rw[H]at u;simp only[Z5,C1]at u;subst u;obtain⟨f,h1,h2,-⟩:=(B i y H).2.2.2.2;have hjl:=(X2.1 hj).1;exact(h1 j c hj).mono (λ_ _ h=>h) (h2 j hjl)
def row_val{S F:af}{x:Value}(h:dn w S F [.v x] u):u 0=x:=by
 obtain⟨f,a,-⟩:=h;have:=a 0 _ rfl;cases this
 rfl
end
open Go.RowKit Go.ChangeShapes Go.WideShapes
section
variable{H:Type}{e:TypeId × Value->H}{P:Program}{w:World}
def Rr{t:Nat}(b:P.underlying t=some (.int .u8)):UG e P w t 1 rU (λz=>0<=z/\z<=255):=by
 intro fuel c x h;obtain⟨n,rfl,-,a⟩:=DataW.trod_int b h;refine⟨rfl,n,?_,rfl,DB (.v _ _ rfl)⟩;simp only[Lit.wf,I0,C0]at a;exact a
def op_ByteS:UG e Tryz.prog w 22 1 (λzs:List Int=>[.s .U (zs.map rU)]) (λzs=>zs.length<=9223372036854775807/\∀y∈zs,0<=y/\y<=255):=Pj (Rr Tryz.underlying5) Tryz.underlying22 (by kernel_rfl) (by decide)
end
end Go.Proofs.YtecefhjnejfheaaGreat.Ab
