/- The data of the program, its cells, its bulk and its marks. Printed by gen_data.py. No condition. -/
import Derived.Test.YtfdfgipemcbekaaGreatDoorKTc
import Derived.Test.YtfdfgipemcbekaaGreatDoorSplit
set_option linter.unusedVariables false
set_option linter.defProp false
set_option linter.unusedSimpArgs false
set_option linter.constructorNameAsVariable false
namespace Go.Proofs.YtfdfgipemcbekaaGreatDoor.Ab
open Go.RowKit
theorem π{α β:Sort _}{a:α}{b:β}:(a=a/\b=b)/\True:=⟨⟨rfl,rfl⟩,trivial⟩
theorem γ{α β:Sort _}{f:α->β}:∀x,f x=f x:=λ_=>rfl
theorem δ{n m:Nat}(h:n.ble m=true:=by rfl):n<=m:=C2 h
def aE(o:ek)(x:List Int):List C:=[.s o (x.map (rI o))]
def dX(x:List Int):dw (aE .own x)=aE .R x:=by simp[dw,aE,rI,dw]
theorem bH(x:List Int):fy (aE .own x):=⟨⟨.inl ψ,aZ _ _ λy _=>rj y⟩,tV1⟩
def gp(x:List Int):Prop:=x.length<=9223372036854775807/\∀y∈x,mP y
def pi(x:List Int):Nat:=x.length
def szIntS(x:List Int):Nat:=x.length
def kK(x:List Int):Prop:=x.length<=1048576
def markIntS:List Int->Int->List Int
 | [],_=>[]
 | _::xs,k=>k::markIntS xs (k+1)
def wi:∀(x:List Int)(k:Int),(markIntS x k).length=x.length
 | [],_=>rfl
 | _::xs,k=>by simp[markIntS,wi xs]
def uU:∀(x:List Int)(k:Int)(i:Nat),i<x.length->(markIntS x k)[i]? = some (k+(i:Nat))
 | [],_,i,h=>by simp at h
 | _::xs,k,0,_=>by simp[markIntS]
 | _::xs,k,i+1,h=>by
  simp only[markIntS,List.getElem?_cons_succ];rw[uU xs (k+1) i (by simpa using h)];rw[show k+1+(i:Int)=k+((i+1:Nat):Int) by omega]
def we(_:List Int)(i:Nat):Nat:=i
def M0{x:List Int}(h:szIntS x<=1048576):kK x:=h
theorem MS(x:List Int):pi x<=8*szIntS x:=by grind [pi,szIntS]
def kg(o:ek)(x:List (List Int)):List C:=[.s o (x.map (aE o))]
def X2(x:List (List Int)):dw (kg .own x)=kg .R x:=by simp[dw,kg,dX,<-bU,OB]
def Gp(x:List (List Int)):Prop:=x.length<=9223372036854775807/\∀y∈x,gp y
def zf(x:List (List Int)):Prop:=x.length<=1048576/\∀y∈x,kK y
def AK(o:ek)(x:List Bool):List C:=[.s o (x.map (rB o))]
def UM(x:List Bool):Prop:=x.length<=9223372036854775807/\∀y∈x,YQ y
def T6(x:List Bool):Prop:=x.length<=1048576
structure aW where
 V:List (List Int)
 a5:List Bool
deriving DecidableEq,Inhabited
def aW.enc(o:ek)(x:aW):List C:=[.s o (x.V.map (aE o)),.s o (x.a5.map (rB o))]
def aW.enc_fz(x:aW):dw (aW.enc .own x)=aW.enc .R x:=by simp[dw,aW.enc,rB,dX,<-bU,OB]
theorem aW.enc_fr(x:aW):fy (aW.enc .own x):=⟨⟨.inl ψ,aZ _ _ λy _=>bH y⟩,⟨.inl ψ,aZ _ _ λy _=>Jd y⟩,tV1⟩
def aW.wf(x:aW):Prop:=Gp x.V/\UM x.a5
def aW.sml(x:aW):Prop:=zf x.V/\T6 x.a5
structure bv where
 y:Int
 j:Int
deriving DecidableEq,Inhabited
def bv.enc(o:ek)(x:bv):List C:=[I x.y,I x.j]
def bv.enc_fz(x:bv):dw (bv.enc .own x)=bv.enc .R x:=by simp[dw,bv.enc]
def bv.enc_fr(x:bv):fy (bv.enc .own x):=⟨tV1,tV1,tV1⟩
def bv.wf(x:bv):Prop:=mP x.y/\mP x.j
def bv.sml(_:bv):Prop:=True
def KJ(o:ek)(x:List bv):List C:=[.s o (x.map (bv.enc o))]
def Q1(x:List bv):Prop:=x.length<=9223372036854775807/\∀y∈x,bv.wf y
def Mr(x:List bv):Prop:=x.length<=1048576/\∀y∈x,bv.sml y
structure aM where
 M:List bv
deriving DecidableEq,Inhabited
def aM.enc(o:ek)(x:aM):List C:=[.s o (x.M.map (bv.enc o))]
def aM.enc_fz(x:aM):dw (aM.enc .own x)=aM.enc .R x:=by simp[dw,aM.enc,bv.enc_fz,<-bU,OB]
def Cn:type_of% @aM.enc_fz:=@aM.enc_fz
theorem aM.enc_fr(x:aM):fy (aM.enc .own x):=⟨⟨.inl ψ,aZ _ _ λy _=>bv.enc_fr y⟩,tV1⟩
def aM.wf(x:aM):Prop:=Q1 x.M
def aM.sml(x:aM):Prop:=Mr x.M
structure aN where
 W:aW
 O:aM
deriving DecidableEq,Inhabited
def aN.enc(o:ek)(x:aN):List C:=[.s o (x.W.V.map (aE o)),.s o (x.W.a5.map (rB o)),.s o (x.O.M.map (bv.enc o))]
def aN.enc_fz(x:aN):dw (aN.enc .own x)=aN.enc .R x:=by simp[dw,aN.enc,bv.enc_fz,rB,dX,<-bU,OB]
theorem aN.enc_fr(x:aN):fy (aN.enc .own x):=⟨⟨.inl ψ,aZ _ _ λy _=>bH y⟩,⟨.inl ψ,aZ _ _ λy _=>Jd y⟩,⟨.inl ψ,aZ _ _ λy _=>bv.enc_fr y⟩,tV1⟩
def aN.wf(x:aN):Prop:=aW.wf x.W/\aM.wf x.O
def aN.sml(x:aN):Prop:=aW.sml x.W/\aM.sml x.O
structure ah where
 F:aN
 b:Int
 d:List Int
deriving DecidableEq,Inhabited
def ah.enc(o:ek)(x:ah):List C:=[.s o (x.F.W.V.map (aE o)),.s o (x.F.W.a5.map (rB o)),.s o (x.F.O.M.map (bv.enc o)),I x.b,.s o (x.d.map (rI o))]
def ah.enc_fz(x:ah):dw (ah.enc .own x)=ah.enc .R x:=by simp[dw,ah.enc,bv.enc_fz,rB,rI,dX,<-bU,OB]
def CW:type_of% @ah.enc_fz:=@ah.enc_fz
theorem ah.enc_fr(x:ah):fy (ah.enc .own x):=⟨⟨.inl ψ,aZ _ _ λy _=>bH y⟩,⟨.inl ψ,aZ _ _ λy _=>Jd y⟩,⟨.inl ψ,aZ _ _ λy _=>bv.enc_fr y⟩,tV1,⟨.inl ψ,aZ _ _ λy _=>rj y⟩,tV1⟩
def Ck:type_of% @ah.enc_fr:=@ah.enc_fr
def ah.wf(x:ah):Prop:=aN.wf x.F/\mP x.b/\gp x.d
def ah.sml(x:ah):Prop:=aN.sml x.F/\kK x.d
structure aC where
 At:Int
 a6:Int
deriving DecidableEq,Inhabited
def aC.enc(o:ek)(x:aC):List C:=[I x.At,I x.a6]
def aC.enc_fz(x:aC):dw (aC.enc .own x)=aC.enc .R x:=by simp[dw,aC.enc]
def aC.enc_fr(x:aC):fy (aC.enc .own x):=⟨tV1,tV1,tV1⟩
def aC.wf(x:aC):Prop:=mP x.At/\mP x.a6
def aC.sml(_:aC):Prop:=True
def bw(o:ek)(x:List aC):List C:=[.s o (x.map (aC.enc o))]
def ef(x:List aC):dw (bw .own x)=bw .R x:=by simp[dw,bw,aC.enc_fz,<-bU,OB]
theorem jp(x:List aC):fy (bw .own x):=⟨⟨.inl ψ,aZ _ _ λy _=>aC.enc_fr y⟩,tV1⟩
def QO(x:List aC):Prop:=x.length<=9223372036854775807/\∀y∈x,aC.wf y
def gC(x:List aC):Prop:=x.length<=1048576/\∀y∈x,aC.sml y
structure a8 where
 S:Int
 a:Int
 b0:Int
deriving DecidableEq,Inhabited
def a8.enc(o:ek)(x:a8):List C:=[I x.S,I x.a,I x.b0]
def a8.enc_fz(x:a8):dw (a8.enc .own x)=a8.enc .R x:=by simp[dw,a8.enc]
def a8.enc_fr(x:a8):fy (a8.enc .own x):=⟨tV1,tV1,tV1,tV1⟩
def a8.wf(x:a8):Prop:=mP x.S/\mP x.a/\mP x.b0
def a8.sml(_:a8):Prop:=True
def cf(o:ek)(x:List a8):List C:=[.s o (x.map (a8.enc o))]
def eB(x:List a8):dw (cf .own x)=cf .R x:=by simp[dw,cf,a8.enc_fz,<-bU,OB]
theorem B6(x:List a8):fy (cf .own x):=⟨⟨.inl ψ,aZ _ _ λy _=>a8.enc_fr y⟩,tV1⟩
def TG(x:List a8):Prop:=x.length<=9223372036854775807/\∀y∈x,a8.wf y
def ee(x:List a8):Prop:=x.length<=1048576/\∀y∈x,a8.sml y
structure aB where
 S:Int
 a2:Int
 k:Int
deriving DecidableEq,Inhabited
def aB.enc(o:ek)(x:aB):List C:=[I x.S,I x.a2,I x.k]
def aB.enc_fz(x:aB):dw (aB.enc .own x)=aB.enc .R x:=by simp[dw,aB.enc]
def aB.enc_fr(x:aB):fy (aB.enc .own x):=⟨tV1,tV1,tV1,tV1⟩
def aB.wf(x:aB):Prop:=mP x.S/\mP x.a2/\mP x.k
def aB.sml(_:aB):Prop:=True
def cq(o:ek)(x:List aB):List C:=[.s o (x.map (aB.enc o))]
def jo(x:List aB):dw (cq .own x)=cq .R x:=by simp[dw,cq,aB.enc_fz,<-bU,OB]
def PB(x:List aB):Prop:=x.length<=9223372036854775807/\∀y∈x,aB.wf y
def eC(x:List aB):Prop:=x.length<=1048576/\∀y∈x,aB.sml y
structure bc where
 Id:Int
 U:Int
 k:Int
 a1:Int
deriving DecidableEq,Inhabited
def bc.enc(o:ek)(x:bc):List C:=[I x.Id,I x.U,I x.k,I x.a1]
def bc.enc_fz(x:bc):dw (bc.enc .own x)=bc.enc .R x:=by simp[dw,bc.enc]
def bc.enc_fr(x:bc):fy (bc.enc .own x):=⟨tV1,tV1,tV1,tV1,tV1⟩
def bc.wf(x:bc):Prop:=mP x.Id/\mP x.U/\mP x.k/\mP x.a1
def bc.sml(_:bc):Prop:=True
def m6(o:ek)(x:List bc):List C:=[.s o (x.map (bc.enc o))]
def PG(x:List bc):dw (m6 .own x)=m6 .R x:=by simp[dw,m6,bc.enc_fz,<-bU,OB]
def Va(x:List bc):Prop:=x.length<=9223372036854775807/\∀y∈x,bc.wf y
def T8(x:List bc):Prop:=x.length<=1048576/\∀y∈x,bc.sml y
structure aD where
 X:List (List Int)
deriving DecidableEq,Inhabited
def aD.enc(o:ek)(x:aD):List C:=[.s o (x.X.map (aE o))]
def aD.enc_fz(x:aD):dw (aD.enc .own x)=aD.enc .R x:=by simp[dw,aD.enc,dX,<-bU,OB]
def Co:type_of% @aD.enc_fz:=@aD.enc_fz
theorem aD.enc_fr(x:aD):fy (aD.enc .own x):=⟨⟨.inl ψ,aZ _ _ λy _=>bH y⟩,tV1⟩
def Cr:type_of% @aD.enc_fr:=@aD.enc_fr
def aD.wf(x:aD):Prop:=Gp x.X
def aD.sml(x:aD):Prop:=zf x.X
def q9(o:ek)(x:List aD):List C:=[.s o (x.map (aD.enc o))]
def Q8(x:List aD):Prop:=x.length<=9223372036854775807/\∀y∈x,aD.wf y
def MI(x:List aD):Prop:=x.length<=1048576/\∀y∈x,aD.sml y
structure cX where
 To:Int
 U:Int
deriving DecidableEq,Inhabited
def cX.enc(o:ek)(x:cX):List C:=[I x.To,I x.U]
def cX.enc_fz(x:cX):dw (cX.enc .own x)=cX.enc .R x:=by simp[dw,cX.enc]
def cX.enc_fr(x:cX):fy (cX.enc .own x):=⟨tV1,tV1,tV1⟩
def cX.wf(x:cX):Prop:=mP x.To/\mP x.U
def cX.sml(_:cX):Prop:=True
def bL(o:ek)(x:List cX):List C:=[.s o (x.map (cX.enc o))]
def mi(x:List cX):dw (bL .own x)=bL .R x:=by simp[dw,bL,cX.enc_fz,<-bU,OB]
theorem tG(x:List cX):fy (bL .own x):=⟨⟨.inl ψ,aZ _ _ λy _=>cX.enc_fr y⟩,tV1⟩
def Tr(x:List cX):Prop:=x.length<=9223372036854775807/\∀y∈x,cX.wf y
def Q6(x:List cX):Prop:=x.length<=1048576/\∀y∈x,cX.sml y
def Aw(o:ek)(x:List (List cX)):List C:=[.s o (x.map (bL o))]
def Qi(x:List (List cX)):Prop:=x.length<=9223372036854775807/\∀y∈x,Tr y
def LO(x:List (List cX)):Prop:=x.length<=1048576/\∀y∈x,Q6 y
structure aL where
 T:List (List cX)
 w:List (List Int)
deriving DecidableEq,Inhabited
def aL.enc(o:ek)(x:aL):List C:=[.s o (x.T.map (bL o)),.s o (x.w.map (aE o))]
def aL.enc_fz(x:aL):dw (aL.enc .own x)=aL.enc .R x:=by simp[dw,aL.enc,mi,dX,<-bU,OB]
def Ct:type_of% @aL.enc_fz:=@aL.enc_fz
theorem aL.enc_fr(x:aL):fy (aL.enc .own x):=⟨⟨.inl ψ,aZ _ _ λy _=>tG y⟩,⟨.inl ψ,aZ _ _ λy _=>bH y⟩,tV1⟩
def Cs:type_of% @aL.enc_fr:=@aL.enc_fr
def aL.wf(x:aL):Prop:=Qi x.T/\Gp x.w
def aL.sml(x:aL):Prop:=LO x.T/\zf x.w
structure aO where
 U:Int
 a:Int
 b7:Int
deriving DecidableEq,Inhabited
def aO.enc(o:ek)(x:aO):List C:=[I x.U,I x.a,I x.b7]
def aO.enc_fz(x:aO):dw (aO.enc .own x)=aO.enc .R x:=by simp[dw,aO.enc]
def aO.enc_fr(x:aO):fy (aO.enc .own x):=⟨tV1,tV1,tV1,tV1⟩
def aO.wf(x:aO):Prop:=mP x.U/\mP x.a/\mP x.b7
def aO.sml(_:aO):Prop:=True
def cA(o:ek)(x:List aO):List C:=[.s o (x.map (aO.enc o))]
def Lb(x:List aO):dw (cA .own x)=cA .R x:=by simp[dw,cA,aO.enc_fz,<-bU,OB]
theorem na(x:List aO):fy (cA .own x):=⟨⟨.inl ψ,aZ _ _ λy _=>aO.enc_fr y⟩,tV1⟩
def Qt(x:List aO):Prop:=x.length<=9223372036854775807/\∀y∈x,aO.wf y
def mK(x:List aO):Prop:=x.length<=1048576/\∀y∈x,aO.sml y
structure bz where
 c0:Int
 a0:List aO
deriving DecidableEq,Inhabited
def bz.enc(o:ek)(x:bz):List C:=[I x.c0,.s o (x.a0.map (aO.enc o))]
def bz.enc_fz(x:bz):dw (bz.enc .own x)=bz.enc .R x:=by simp[dw,bz.enc,aO.enc_fz,<-bU,OB]
theorem bz.enc_fr(x:bz):fy (bz.enc .own x):=⟨tV1,⟨.inl ψ,aZ _ _ λy _=>aO.enc_fr y⟩,tV1⟩
def bz.wf(x:bz):Prop:=mP x.c0/\Qt x.a0
def bz.sml(x:bz):Prop:=mK x.a0
structure cj where
 b1:Int
 b3:Int
 V:List Int
deriving DecidableEq,Inhabited
def cj.enc(o:ek)(x:cj):List C:=[I x.b1,I x.b3,.s o (x.V.map (rI o))]
def cj.enc_fz(x:cj):dw (cj.enc .own x)=cj.enc .R x:=by simp[dw,cj.enc,rI,<-bU,OB]
theorem cj.enc_fr(x:cj):fy (cj.enc .own x):=⟨tV1,tV1,⟨.inl ψ,aZ _ _ λy _=>rj y⟩,tV1⟩
def cj.wf(x:cj):Prop:=mP x.b1/\mP x.b3/\gp x.V
def cj.sml(x:cj):Prop:=kK x.V
structure cH where
 g:cj
 b6:Int
 o:Int
deriving DecidableEq,Inhabited
def cH.enc(o:ek)(x:cH):List C:=[I x.g.b1,I x.g.b3,.s o (x.g.V.map (rI o)),I x.b6,I x.o]
def cH.enc_fz(x:cH):dw (cH.enc .own x)=cH.enc .R x:=by simp[dw,cH.enc,rI,<-bU,OB]
theorem cH.enc_fr(x:cH):fy (cH.enc .own x):=⟨tV1,tV1,⟨.inl ψ,aZ _ _ λy _=>rj y⟩,tV1,tV1,tV1⟩
def cH.wf(x:cH):Prop:=cj.wf x.g/\mP x.b6/\mP x.o
def cH.sml(x:cH):Prop:=cj.sml x.g
structure ac where
 G:ah
 e:List aC
 H:List a8
 J:List aB
 K:List bc
 Q:List aD
 q:aL
 a4:bz
 c1:Int
 b2:Int
 c2:Int
 o:Int
 a3:Bool
 a9:cH
deriving DecidableEq,Inhabited
def ac.enc(o:ek)(x:ac):List C:=[.s o (x.G.F.W.V.map (aE o)),.s o (x.G.F.W.a5.map (rB o)),.s o (x.G.F.O.M.map (bv.enc o)),I x.G.b,.s o (x.G.d.map (rI o)),.s o (x.e.map (aC.enc o)),.s o (x.H.map (a8.enc o)),.s o (x.J.map (aB.enc o)),.s o (x.K.map (bc.enc o)),.s o (x.Q.map (aD.enc o)),.s o (x.q.T.map (bL o)),.s o (x.q.w.map (aE o)),I x.a4.c0,.s o (x.a4.a0.map (aO.enc o)),I x.c1,I x.b2,I x.c2,I x.o,B x.a3,I x.a9.g.b1,I x.a9.g.b3,.s o (x.a9.g.V.map (rI o)),I x.a9.b6,I x.a9.o]
abbrev ν(h:ac):RA:=.val (some 24) (ac.enc .R h)
def ac.enc_fz(x:ac):dw (ac.enc .own x)=ac.enc .R x:=by simp[dw,ac.enc,Co,bv.enc_fz,aB.enc_fz,bc.enc_fz,aC.enc_fz,a8.enc_fz,aO.enc_fz,rB,mi,rI,dX,<-bU,OB]
theorem ac.enc_fr(x:ac):fy (ac.enc .own x):=⟨⟨.inl ψ,aZ _ _ λy _=>bH y⟩,⟨.inl ψ,aZ _ _ λy _=>Jd y⟩,⟨.inl ψ,aZ _ _ λy _=>bv.enc_fr y⟩,tV1,⟨.inl ψ,aZ _ _ λy _=>rj y⟩,⟨.inl ψ,aZ _ _ λy _=>aC.enc_fr y⟩,⟨.inl ψ,aZ _ _ λy _=>a8.enc_fr y⟩,⟨.inl ψ,aZ _ _ λy _=>aB.enc_fr y⟩,⟨.inl ψ,aZ _ _ λy _=>bc.enc_fr y⟩,⟨.inl ψ,aZ _ _ λy _=>Cr y⟩,⟨.inl ψ,aZ _ _ λy _=>tG y⟩,⟨.inl ψ,aZ _ _ λy _=>bH y⟩,tV1,⟨.inl ψ,aZ _ _ λy _=>aO.enc_fr y⟩,tV1,tV1,tV1,tV1,tV1,tV1,tV1,⟨.inl ψ,aZ _ _ λy _=>rj y⟩,tV1,tV1,tV1⟩
def ac.wf(x:ac):Prop:=ah.wf x.G/\QO x.e/\TG x.H/\PB x.J/\Va x.K/\Q8 x.Q/\aL.wf x.q/\bz.wf x.a4/\mP x.c1/\mP x.b2/\mP x.c2/\mP x.o/\YQ x.a3/\cH.wf x.a9
def ac.sml(x:ac):Prop:=ah.sml x.G/\gC x.e/\ee x.H/\eC x.J/\T8 x.K/\MI x.Q/\aL.sml x.q/\bz.sml x.a4/\cH.sml x.a9
structure kn where
 b5:Int
 c7:Int
 d0:Int
 c8:Int
deriving DecidableEq,Inhabited
def kn.enc(o:ek)(x:kn):List C:=[I x.b5,I x.c7,I x.d0,I x.c8]
def kn.enc_fr(x:kn):fy (kn.enc .own x):=⟨tV1,tV1,tV1,tV1,tV1⟩
structure bp where
 Id:Int
 k:Int
 c9:Int
deriving DecidableEq,Inhabited
def bp.enc(o:ek)(x:bp):List C:=[I x.Id,I x.k,I x.c9]
def bp.enc_fz(x:bp):dw (bp.enc .own x)=bp.enc .R x:=by simp[dw,bp.enc]
def bp.enc_fr(x:bp):fy (bp.enc .own x):=⟨tV1,tV1,tV1,tV1⟩
def bp.cnt(_:bp):Nat:=3
def bp.sml(_:bp):Prop:=True
def bp.mark(_:bp)(k:Int):bp:=⟨k,k+1,k+1+1⟩
structure aQ where
 Id:Int
 V:List Int
deriving DecidableEq,Inhabited
def aQ.enc(o:ek)(x:aQ):List C:=[I x.Id,.s o (x.V.map (rI o))]
theorem aQ.enc_fz(x:aQ):dw (aQ.enc .own x)=aQ.enc .R x:=by simp[dw,aQ.enc,rI,<-bU,OB]
theorem aQ.enc_fr(x:aQ):fy (aQ.enc .own x):=⟨tV1,⟨.inl ψ,aZ _ _ λy _=>rj y⟩,tV1⟩
def aQ.sml(x:aQ):Prop:=kK x.V
def HS(x:List aQ):Prop:=x.length<=1048576/\∀y∈x,aQ.sml y
structure a7 where
 o:Int
 K:List aQ
deriving DecidableEq,Inhabited
def a7.enc(o:ek)(x:a7):List C:=[I x.o,.s o (x.K.map (aQ.enc o))]
def a7.enc_fz(x:a7):dw (a7.enc .own x)=a7.enc .R x:=by simp[dw,a7.enc,aQ.enc_fz,<-bU,OB]
def Cm:type_of% @a7.enc_fz:=@a7.enc_fz
theorem a7.enc_fr(x:a7):fy (a7.enc .own x):=⟨tV1,⟨.inl ψ,aZ _ _ λy _=>aQ.enc_fr y⟩,tV1⟩
def a7.sml(x:a7):Prop:=HS x.K
structure bn where
 Z:ac
 c6:a7
deriving DecidableEq,Inhabited
def bn.enc(o:ek)(x:bn):List C:=[.s o (x.Z.G.F.W.V.map (aE o)),.s o (x.Z.G.F.W.a5.map (rB o)),.s o (x.Z.G.F.O.M.map (bv.enc o)),I x.Z.G.b,.s o (x.Z.G.d.map (rI o)),.s o (x.Z.e.map (aC.enc o)),.s o (x.Z.H.map (a8.enc o)),.s o (x.Z.J.map (aB.enc o)),.s o (x.Z.K.map (bc.enc o)),.s o (x.Z.Q.map (aD.enc o)),.s o (x.Z.q.T.map (bL o)),.s o (x.Z.q.w.map (aE o)),I x.Z.a4.c0,.s o (x.Z.a4.a0.map (aO.enc o)),I x.Z.c1,I x.Z.b2,I x.Z.c2,I x.Z.o,B x.Z.a3,I x.Z.a9.g.b1,I x.Z.a9.g.b3,.s o (x.Z.a9.g.V.map (rI o)),I x.Z.a9.b6,I x.Z.a9.o,I x.c6.o,.s o (x.c6.K.map (aQ.enc o))]
def bn.enc_fz(x:bn):dw (bn.enc .own x)=bn.enc .R x:=by simp[dw,bn.enc,Co,bv.enc_fz,aB.enc_fz,bc.enc_fz,aC.enc_fz,aQ.enc_fz,a8.enc_fz,aO.enc_fz,rB,mi,rI,dX,<-bU,OB]
theorem bn.enc_fr(x:bn):fy (bn.enc .own x):=⟨⟨.inl ψ,aZ _ _ λy _=>bH y⟩,⟨.inl ψ,aZ _ _ λy _=>Jd y⟩,⟨.inl ψ,aZ _ _ λy _=>bv.enc_fr y⟩,tV1,⟨.inl ψ,aZ _ _ λy _=>rj y⟩,⟨.inl ψ,aZ _ _ λy _=>aC.enc_fr y⟩,⟨.inl ψ,aZ _ _ λy _=>a8.enc_fr y⟩,⟨.inl ψ,aZ _ _ λy _=>aB.enc_fr y⟩,⟨.inl ψ,aZ _ _ λy _=>bc.enc_fr y⟩,⟨.inl ψ,aZ _ _ λy _=>Cr y⟩,⟨.inl ψ,aZ _ _ λy _=>tG y⟩,⟨.inl ψ,aZ _ _ λy _=>bH y⟩,tV1,⟨.inl ψ,aZ _ _ λy _=>aO.enc_fr y⟩,tV1,tV1,tV1,tV1,tV1,tV1,tV1,⟨.inl ψ,aZ _ _ λy _=>rj y⟩,tV1,tV1,tV1,⟨.inl ψ,aZ _ _ λy _=>aQ.enc_fr y⟩,tV1⟩
structure Ye where
 a2:Int
 Mapped:Int
 W:Int
 Held:Int
 oz:Int
 Cached:Int
 c3:Int
 Posted:Int
deriving DecidableEq,Inhabited
variable{α:Type}
def Lm{β:Type}{f:α->β}{l:List α}{K:Nat->Prop}(h:K l.length):Ln (l.map f).length K:=CV (Z1 ..) h
variable{z:Int}
def Wm{K:Int->Prop}(h : -9223372036854775808<=z/\z<=9223372036854775807)(a:K z):Wr .i64 z K:=CR (fH h.1 h.2) a
variable{X Y p:Prop}
def dT[Decidable p](h:p)(a:p->X):Bf (decide p) X Y:=.D a λe=>absurd h e
def dF[Decidable p](h:¬p)(a:¬p->Y):Bf (decide p) X Y:=.D (λe=>absurd e h) a
variable{a b:Int}
def nT(h:a≠b)(c:a≠b->X):Bf (a != b) X Y:=.N c λe=>absurd e h
def nF(h:a=b)(c:a=b->Y):Bf (a != b) X Y:=.N (λe=>absurd h e) c
def eT(h:a=b)(c:a=b->X):Bf (a == b) X Y:=.E c λe=>absurd h e
def eF(h:a≠b)(c:a≠b->Y):Bf (a == b) X Y:=.E (λe=>absurd e h) c
def Bn{b:Bool}(h:Bf b Y X):Bf (!b) X Y:=.not h
def Bt(h:X):Bf true X Y:=.t rfl h
def Bu(h:Y):Bf false X Y:=.f rfl h
def Fm{k b:Kd}{cs a:List C}(h1:k=b)(h:cs=a):cF k b cs a:=.mk h1 h
def dV[Decidable p](h:p)(a:X):Bf (decide p) X Y:=.D (λ_=>a) λe=>absurd h e
def dW[Decidable p](h:¬p)(a:Y):Bf (decide p) X Y:=.D (λe=>absurd e h) λ_=>a
def nV(h:a≠b)(c:X):Bf (a != b) X Y:=.N (λ_=>c) λe=>absurd e h
def nW(h:a=b)(c:Y):Bf (a != b) X Y:=.N (λe=>absurd h e) λ_=>c
def eV(h:a=b)(c:X):Bf (a == b) X Y:=.E (λ_=>c) λe=>absurd h e
def eW(h:a≠b)(c:Y):Bf (a == b) X Y:=.E (λe=>absurd e h) λ_=>c
structure QI(Y:Prop):Prop where
 out:Y
structure σF(X Y:Prop):Prop where
def σF.rf{X:Prop}:σF X X:=⟨⟩
def gO(y:Y)(h:QI Y->X:=by intro y;(conv=>whnf);(first|with_reducible (first|refine Lm ?_|refine Wm ω ?_|refine Bn ?_|refine Fm rfl ?_)|refine Bt ?_|refine Bu ?_|skip);exact y.out)(_:σF X Y:=by (fail_if_success with_reducible exact σF.rf);exact ⟨⟩):X:=h ⟨y⟩
def gP(y:Y)(h:QI Y->X:=by intro y;(conv=>whnf);(first|with_reducible (first|refine Lm ?_|refine Wm ω ?_|refine Bn ?_|refine Fm rfl ?_)|refine Bt ?_|refine Bu ?_|refine CF ϑ ?_|refine CH (aa ϑ) ?_|refine CK rfl (aa ϑ) rfl ?_|refine CG ?_|refine CN ϑ (.inl rfl) ?_|skip);exact y.out)(_:σF X Y:=by (fail_if_success with_reducible exact σF.rf);exact ⟨⟩):X:=h ⟨y⟩
def gD(y:Y)(h:QI Y->X:=by intro y;(conv=>whnf);(first|with_reducible (first|refine Lm ?_|refine Wm ω ?_|refine dV ω ?_|refine dW ω ?_|refine Bn ?_|refine Fm rfl ?_)|refine Bt ?_|refine Bu ?_|skip);exact y.out)(_:σF X Y:=by (fail_if_success with_reducible exact σF.rf);exact ⟨⟩):X:=h ⟨y⟩
def gE(y:Y)(h:QI Y->X:=by intro y;(conv=>whnf);(first|with_reducible (first|refine Lm ?_|refine Wm ω ?_|refine dV ω ?_|refine dW ω ?_|refine Bn ?_|refine Fm rfl ?_)|refine Bt ?_|refine Bu ?_|refine CF ϑ ?_|refine CH (aa ϑ) ?_|refine CK rfl (aa ϑ) rfl ?_|refine CG ?_|refine CN ϑ (.inl rfl) ?_|skip);exact y.out)(_:σF X Y:=by (fail_if_success with_reducible exact σF.rf);exact ⟨⟩):X:=h ⟨y⟩
def gA(y:Y)(h:QI Y->X:=by intro y;(conv=>whnf);(first|with_reducible (first|refine Lm ?_|refine Wm ω ?_|refine dV ω ?_|refine dW ω ?_|refine nV ω ?_|refine nW ω ?_|refine eV ω ?_|refine eW ω ?_|refine Bn ?_|refine Fm rfl ?_)|refine Bt ?_|refine Bu ?_|skip);exact y.out)(_:σF X Y:=by (fail_if_success with_reducible exact σF.rf);exact ⟨⟩):X:=h ⟨y⟩
def gB(y:Y)(h:QI Y->X:=by intro y;(conv=>whnf);(first|with_reducible (first|refine Lm ?_|refine Wm ω ?_|refine dV ω ?_|refine dW ω ?_|refine nV ω ?_|refine nW ω ?_|refine eV ω ?_|refine eW ω ?_|refine Bn ?_|refine Fm rfl ?_)|refine Bt ?_|refine Bu ?_|refine CF ϑ ?_|refine CH (aa ϑ) ?_|refine CK rfl (aa ϑ) rfl ?_|refine CG ?_|refine CN ϑ (.inl rfl) ?_|skip);exact y.out)(_:σF X Y:=by (fail_if_success with_reducible exact σF.rf);exact ⟨⟩):X:=h ⟨y⟩
def σQ(y:Y)(h:QI Y->X:=by intro y;(conv=>whnf);(first|with_reducible (first|refine Lm ?_|refine Wm ω ?_|refine Bn ?_|refine CU rfl ?_)|refine Bt ?_|refine Bu ?_|refine CF ϑ ?_|refine CH (aa ϑ) ?_|refine CK rfl (aa ϑ) rfl ?_|refine CG ?_|refine CN ϑ (.inl rfl) ?_|skip);exact y.out)(_:σF X Y:=by (fail_if_success with_reducible exact σF.rf);exact ⟨⟩):X:=h ⟨y⟩
def σR(y:Y)(h:QI Y->X:=by intro y;(conv=>whnf);(first|with_reducible (first|refine Lm ?_|refine Wm ω ?_|refine dV ω ?_|refine dW ω ?_|refine Bn ?_|refine CU rfl ?_)|refine Bt ?_|refine Bu ?_|refine CF ϑ ?_|refine CH (aa ϑ) ?_|refine CK rfl (aa ϑ) rfl ?_|refine CG ?_|refine CN ϑ (.inl rfl) ?_|skip);exact y.out)(_:σF X Y:=by (fail_if_success with_reducible exact σF.rf);exact ⟨⟩):X:=h ⟨y⟩
def σT(y:Y)(h:QI Y->X:=by intro y;(conv=>whnf);(first|with_reducible (first|refine Lm ?_|refine Wm ω ?_|refine dV ω ?_|refine dW ω ?_|refine nV ω ?_|refine nW ω ?_|refine eV ω ?_|refine eW ω ?_|refine Bn ?_|refine CU rfl ?_)|refine Bt ?_|refine Bu ?_|refine CF ϑ ?_|refine CH (aa ϑ) ?_|refine CK rfl (aa ϑ) rfl ?_|refine CG ?_|refine CN ϑ (.inl rfl) ?_|skip);exact y.out)(_:σF X Y:=by (fail_if_success with_reducible exact σF.rf);exact ⟨⟩):X:=h ⟨y⟩
def σO(y:Y)(h:QI Y->X:=by intro y;(repeat' first|refine gO ?_|fail);exact y.out):X:=h ⟨y⟩
def σP(y:Y)(h:QI Y->X:=by intro y;(repeat' first|refine gP ?_|fail);exact y.out):X:=h ⟨y⟩
def σD(y:Y)(h:QI Y->X:=by intro y;(repeat' first|refine gD ?_|fail);exact y.out):X:=h ⟨y⟩
def σE(y:Y)(h:QI Y->X:=by intro y;(repeat' first|refine gE ?_|fail);exact y.out):X:=h ⟨y⟩
def σA(y:Y)(h:QI Y->X:=by intro y;(repeat' first|refine gA ?_|fail);exact y.out):X:=h ⟨y⟩
def σB(y:Y)(h:QI Y->X:=by intro y;(repeat' first|refine gB ?_|fail);exact y.out):X:=h ⟨y⟩
variable{z1 z2:Int}
def WP(h:z1=z2):Rp (I z1) (I z2):=by subst h;rfl
def WH(c:C):Rp c c:=(kS [c]).1
def wA(h:X:=by repeat'(first|exact tV1|rfl|refine CQ ?_ ?_)):X:=h
def wB(h:X:=by repeat'(first|exact tV1|rfl|refine CQ ?_ ?_|(exact WP ξ))):X:=h
def ks(h:X:=by refine CM rfl rfl ?_;exact wB):X:=h
def wC(h:X:=by repeat'(first|exact tV1|rfl|exact WH _|refine CQ ?_ ?_|(exact WP ξ))):X:=h
def kk(h:X:=by refine CM rfl rfl ?_;exact wC):X:=h
variable{rcs: List C}{A: List RA}{sh: Bool}{f: Nat}
def fO(n : Nat){a : Func}{c : Code}{k : Kd}(tb : List (Nat × Nat × List Nat))(d : Tryz.prog.funcs[f]? = some a)(e : a.body = some c)(g : aw Tryz.prog TE ⟨n, [], []⟩ (DF Tryz.prog TE ⟨n, [], []⟩ tb) c (UV TE a.results.toList k rcs) (lay (Hp 0 A)))(b : sh = true \/ fy rcs := by exact .inr ⟨tV1, trivial⟩)(h : (a.name == "runtime.NumGoroutine") = false := by kernel_rfl)(i : gU (oU tb) c = true := by kernel_rfl)(j : A.length + (a.ntmps - A.length) = n := by rfl) : zzA f sh A k rcs := XK d h e i j b g
def fP(n : Nat){a : Func}{c : Code}{k : Kd}(mo : List (Nat × List Nat))(tb : List (Nat × Nat × List Nat))(d : Tryz.prog.funcs[f]? = some a)(e : a.body = some c)(g : aw Tryz.prog TE ⟨n, [], mo⟩ (DF Tryz.prog TE ⟨n, [], mo⟩ tb) c (UV TE a.results.toList k rcs) (lay (Hp 0 A)))(b : sh = true \/ fy rcs := by exact .inr ⟨tV1, trivial⟩)(h : (a.name == "runtime.NumGoroutine") = false := by kernel_rfl)(i : gU (oU tb) c = true := by kernel_rfl)(j : A.length + (a.ntmps - A.length) = n := by rfl) : zzA f sh A k rcs := XK d h e i j b g
def fM(n : Nat){a : Func}{c : Code}{A B : List MA}{k : Kd}(mo : List (Nat × List Nat))(tb : List (Nat × Nat × List Nat))(b : List (Nat × Nat))(g : Tryz.prog.funcs[f]? = some a)(h : a.body = some c)(i : ∀(u : Nat -> Nat -> Value)(p : Nat -> Value), aw Tryz.prog TE ⟨n, Nu p 0 A, mo⟩ (DF Tryz.prog TE ⟨n, Nu p 0 A, mo⟩ tb) c (WJ TE a.results.toList k rcs u A B b) (lay (zi u 0 A)))(d : sh = true \/ fy rcs := by exact .inr ⟨tV1, trivial⟩)(j : (a.name == "runtime.NumGoroutine") = false := by kernel_rfl)(l : gU (oU tb) c = true := by kernel_rfl)(o : A.length + (a.ntmps - A.length) = n := by rfl)(e : M4 (J6 0 A b) = true := by rfl) : zzB f sh A B k rcs := XO b g j h l o e d i
abbrev fI(z:Int):AV:=.Y .one [I z]
abbrev fN(n:Nat):AV:=.Y .one [I n]
abbrev fB(b:Bool):AV:=.Y .one [B b]
abbrev bK(cs:List C):AV:=.Y .one cs
abbrev bF(cs:List C):AV:=.Y .box cs
abbrev RA.vI(z:Int):RA:=.val none [I z]
abbrev MA.vI(z:Int):MA:=.val none [I z]
def bY{a b:Bool}(h:a=b):[B a]=[B b]:=h ▸ rfl
def nr(h:a=b):[I a]=[I b]:=h ▸ rfl
class Sp (b:Bool) (p q:outParam Prop):Prop where
 f:(b=true->p)/\(b=false->q)
instance {p:Prop} [Decidable p]:Sp (decide p) p (¬p):=⟨of_decide_eq_true,of_decide_eq_false⟩
instance {a b:Int}:Sp (a==b) (a=b) (a≠b):=⟨by simp,by simp⟩
instance {a b:Int}:Sp (a != b) (a≠b) (a=b):=⟨by simp,by simp⟩
instance {a b:Bool}:Sp (a != b) (a≠b) (a=b):=⟨by simp,by simp⟩
def gS{b:Bool}{q:Prop}[s:Sp b p q](h1:p->X)(h2:q->Y):Bf b X Y:=.P (λh=>h1 (s.f.1 h)) (λh=>h2 (s.f.2 h))
theorem cV{ι : Type}{L : ι -> List (Nat × AV)}{inv : ι -> Prop}{μ : ι -> Nat}{i : ι}{F : Nat -> AV}(a : ι)(h1 : inv a)(h2 : μ a < μ i := by first|omega|(simp only;omega)|(simp;omega)|grind)(b : Wk F (L a) := by exact wC) : Nx ι L inv μ i F := .mk a h1 h2 b
section
variable{body : (Exit -> (Nat -> AV) -> Prop) -> (Nat -> AV) -> Prop}{Q : Exit -> (Nat -> AV) -> Prop}{F : Nat -> AV}
def lE{ι : Type}(L : ι -> List (Nat × AV))(inv : ι -> Prop)(μ : ι -> Nat)(a : ι)(h1 : inv a)(h2 : ∀i, inv i -> body (Wj (Nx ι L inv μ i) Q) (lay (L i)))(b : Wk F (L a) := by exact wC) : Lp body Q F := .mk L inv μ a b h1 h2
def lp0(n : Nat)(L : Nat -> List (Nat × AV))(h2 : ∀i, i <= n -> body (Wj (Nx Nat L (λi => i <= n) (λi => n - i) i) Q) (lay (L i)))(a : Wk F (L 0) := by exact wC) : Lp body Q F := .mk L (λi => i <= n) (λi => n - i) 0 a (C1 _) h2
def gl(n : Nat)(L : Nat -> List (Nat × AV))(I : Nat -> Prop)(h1 : I 0)(h2 : ∀i, i <= n /\ I i -> body (Wj (Nx Nat L (λi => i <= n /\ I i) (λi => n - i) i) Q) (lay (L i)))(a : Wk F (L 0) := by exact wC) : Lp body Q F := .mk L (λi => i <= n /\ I i) (λi => n - i) 0 a ⟨C1 _, h1⟩ h2
end
def wD(h:X:=by repeat'(first|exact tV1|rfl|exact CQ rfl (CQ (I1 (Ab.C.s ek.own) (by simp[rI])) tV1)|refine CQ ?_ ?_)):X:=h
def wR(h:X:=by repeat'(first|exact tV1|rfl|exact CQ rfl (CQ (I1 (Ab.C.s ek.own) (by simp[aC.enc])) tV1)|refine CQ ?_ ?_)):X:=h
def Yy{c a:C}(h:a=c):Rp c a:=h ▸ WH _
def wE(h:X:=by repeat'(first|exact tV1|rfl|exact Yy ϑ|exact WH _|refine CQ ?_ ?_|(exact WP ξ))):X:=h
set_option maxRecDepth 20000
set_option maxHeartbeats 4000000
def tC(s:ByteArray):C:=.v (.string s)
def L0(_:ek)(s:ByteArray):List C:=[tC s]
def BN(o:ek)(x:List ByteArray):List C:=[.s o (x.map (L0 o))]
def Xe(x:ByteArray):fy (L0 .own x):=⟨tV1,tV1⟩
def NP(x:List ByteArray):fy (BN .own x):=⟨⟨.inl λh=>(by cases h),aZ _ _ λy _=>Xe y⟩,tV1⟩
def am.plainT{P:Program}{sh:List (Option Nat)}{vs0:List Value}{l:List Value}(g:∀v∈l,v.oneCell'=true)(i:yd sh vs0)(k:j8 (.tuple vs0.toArray)=l)(n:uN sh=l.length)(p:JY P f)(h:∀(w:World)(S:af)(vs:List Value),(∀b o,S b o->b<w.heap.size)->Tb w S->Aq w S A vs->Calls P f vs.toArray w λe w1=>e=.returned (.tuple vs0.toArray)/\Below w.heap.size w w1):am P f false A (.tup sh) (l.map .v):=
 ⟨p,λw S vs d q=>(h w S vs d.1 d.2 q).mono λe w1 ⟨r,t⟩=>⟨_,r,bu.of_below t NO,NO,NO,λ_ _ h=>h.elim,λ_ _ h=>h.elim,λ_ _ h=>h.elim,⟨_,rfl,i,by rw[n,Z1]⟩,
   λ_=>NO,λj c a=>by
     rw[Z5]at a;cases e:l[j]? with
     | none=>rw[e]at a;cases a
     | some v=>
       rw[e]at a;obtain rfl:=Option.some.inj a;have u:co w1 (.tup sh) (.tuple vs0.toArray) j=v:=by
         show(j8 _).getD j undef=v;rw[k,O4,e];rfl
       rw[u];exact .v _ _ (g v (I3 e)),
   λ_ _ _ _ h=>h.elim,λ_ _ _ _ _ _ _ h=>h.elim⟩⟩
def val_v{w:World}{S Y:af}{x v:Value}(h:bm w S Y none [.v x] v):v=x:=by
 have a:=h.rep1;cases a
 rfl
variable{k:Nat}
def nR{s:ByteArray}(a:k<s.size)(c:UInt8):s.data[k]? = some c↔byt s k=c.toNat:=by
 unfold byt;rw[ZC,OC a,O1,Option.getD_some];exact UInt8.toNat_inj.symm
def LA(s:ByteArray)(k:Nat):byt s k<256:=by
 unfold byt;exact UInt8.toNat_lt _
def EQ:∀L:List ByteArray,chunk 1 L.length (L.map tC)=L.map (L0 .own)
 | []=>rfl
 | x::L=>I1 (List.cons (L0 .own x)) (EQ L)
def U0{w:World}{S:af}(L:List ByteArray):cw w S NO (L.map tC) (λj=>(L.map Value.string).getD j undef):=
 ⟨λ_=>NO,λj c a=>by
   rw[Z5]at a;cases e:L[j]? with
   | none=>rw[e]at a;cases a
   | some s=>
     rw[e]at a;obtain rfl:=Option.some.inj a;have:(L.map Value.string).getD j undef=.string s:=by rw[O4,Z5,e];rfl
     show cU w S NO (tC s) ((L.map Value.string).getD j undef);rw[this];exact .v _ _ rfl,λ_ _ _ _ h=>h,λ_ _ _ _ _ _ _ h=>h.elim⟩
section
variable{α:Type}{l:List α}{p:α->Bool}{i:Nat}{x:α}
theorem df(h:l[i]? = some x)(a:(l.take i).all p=true)(b:p x=true):(l.take (i+1)).all p=true:=by grind [ZA]
theorem ip(h:l[i]? = some x)(a:p x=false):l.all p=false:=ψ
theorem pE(a:l.length<=i)(b:(l.take i).all p=true):l.all p=true:=by grind [ZD]
end
variable{i:Nat}
theorem yL{β:Type}{a:List α}{b:List β}{x:α}{y:β}(h1:a[i]? = some x)(h2:b[i]? = some y):(a.zip b)[i]? = some (x,y):=ψ
def nth[Inhabited α](xs:List α)(i:Nat):α:=xs.getD i default
theorem ar[Inhabited α]{xs:List α}(h:i<xs.length):xs[i]? = some (nth xs i):=by grind [nth]
theorem bk[Inhabited α]{xs:List α}{y:α}(h:xs[i]? = some y):nth xs i=y:=by grind [nth]
theorem ax[Inhabited α]{xs:List α}(h:i<xs.length):nth xs i∈xs:=I3 (ar h)
def du(n:Nat)(p:Nat->Bool):Bool:=(List.range n).all p
variable{n:Nat}
theorem cI{p:Nat->Bool} : du n p=true↔∀j,j<n->p j=true:=by
 unfold du;simp
theorem bX{p:Nat->Bool}(h:du n p=true)(a:p n=true):du (n+1) p=true:=by grind [cI]
theorem cK{p:Nat->Bool}(a:i<n)(b:p i=false):du n p=false:=by grind [cI]
theorem fE{p:Nat->Bool}(h:du n p=true)(a:i<n):p i=true:=cI.1 h i a
def jz(u:Bool)(v:Int):Bool:=decide (0<=v/\v<=999)&&(u || decide (v=0))
def iU(r:List Int)(u:Bool):Bool:=decide (r.length=16)&&r.all (jz u)
def dI(f:aW):Bool:=decide (1<=f.V.length/\f.V.length<=32)&&(decide (f.a5.length=f.V.length)&&(f.V.zip f.a5).all λq=>iU q.1 q.2)
def jm{f:aW}{r:List Int}{u:Bool}(h1:f.V[i]? = some r)(h2:f.a5[i]? = some u)(a:iU r u=false):dI f=false:=by
 unfold dI;rw[ip (p:=λq=>iU q.1 q.2) (yL h1 h2) a];simp
theorem vR{r:List Int}{u:Bool}{v:Int}(h1:r[k]? = some v)(h2:jz u v=false):iU r u=false:=by grind [iU]
theorem Hu{f:aW}(h:dI f=true):1<=f.V.length/\f.V.length<=32/\f.a5.length=f.V.length:=by grind [dI]
def m7(a:Int)(e:bv):Bool:=decide (0<=e.y/\e.y<=2/\(e.y=0->e.j=0)/\(e.y≠0->0<=e.j/\e.j<a))
def hO(t:aM)(a:Int):Bool:=du t.M.length (λi=>m7 a (nth t.M i))&&decide (1<=t.M.length/\t.M.length<=32)
def RO(t:aM)(f:Int)(i:Nat):Bool:=decide ((nth t.M i).y≠0/\(nth t.M i).j=f)
def lw(t:aM)(f:Int)(n:Nat):List Int:=((List.range n).filter (RO t f)).map λ(i:Nat)=>(i:Int)
def pagesOn(t:aM)(f:Int):List Int:=lw t f t.M.length
theorem ER{t:aM}{f:Int}(h:RO t f n=true):lw t f (n+1)=lw t f n++[(n:Int)]:=by grind [List.range_succ,lw]
theorem Jt{t:aM}{f:Int}(h:RO t f n=false):lw t f (n+1)=lw t f n:=by grind [List.range_succ,lw]
theorem xt(t:aM)(f:Int)(n:Nat):(lw t f n).length<=n:=by grind [lw]
def au(t:aM)(p:Int):bv:=if 0<=p/\p<t.M.length then nth t.M p.toNat else⟨0,0⟩
def rA(m:aN)(i:Nat):Bool:=nth m.W.a5 i == decide (0<(pagesOn m.O (i:Int)).length)
def de(m:aN):Bool:=(dI m.W&&hO m.O m.W.a5.length)&&du m.W.a5.length (rA m)
def aG(k:ah):Bool:=(du k.d.length (λi=>decide (0<=nth k.d i))&&de k.F)&&decide (0<=k.b/\k.b<=100000/\k.d.length<=40)
def rangeIn(pages:Int)(r:aC):Bool:=decide (1<=r.a6/\r.a6<=pages/\0<=r.At/\r.At<=pages - r.a6)
def gW(pages:Int)(xs:List aC)(i:Nat):Bool:=rangeIn pages (nth xs i)&&decide (i=0\/(nth xs (i - 1)).At+(nth xs (i - 1)).a6<(nth xs i).At)
def bJ(pages:Int)(xs:List aC):Bool:=du xs.length (gW pages xs)&&decide (1<=pages/\pages<=32)
def y4(page:Int)(r:aC):Bool:=decide (r.At<=page)&&decide (page<IntKind.i64.wrap (r.At+r.a6))
def lim(k:Int):Int:=if k=0 then 65535 else if k=1 then 255 else if k=2 then 15 else if k=3 then 3 else 0
def slots(k:Int):Int:=if k=0 then 16 else if k=1 then 8 else if k=2 then 4 else if k=3 then 2 else 0
def bh(s:a8):Bool:=decide (0<=s.S/\s.S<=31/\0<=s.a/\s.a<=3/\0<=s.b0/\s.b0<=lim s.a)
def eJ(n:Int):Int:=if 9<=n/\n<=1000 then(n+15) / 16 else 0
def bZ(l:aB):Bool:=decide (9<=l.k/\l.k<=1000/\l.a2=(l.k+15) / 16/\0<=l.S/\l.S<=32 - l.a2)
def lpgs(l:aB)(n:Nat):List Int:=(List.range n).map λ(i:Nat)=>l.S+i
def pgs(sp:List a8)(la:List aB):List Int:=sp.map (·.S)++la.flatMap λl=>lpgs l l.a2.toNat
def bA(sp:List a8)(la:List aB):Bool:=(sp.all bh&&la.all bZ)&&decide (pgs sp la).Nodup
def dm(s:a8)(a:Int):Bool:=bh s&&decide (16*s.S<=a/\a<=16*s.S+15)
def bg(b i:Int):Bool:=decide (0<=b/\0<=i/\i<=15/\b / 2 ^ i.toNat % 2=1)
def bR(l:aB)(a:Int):Bool:=bZ l&&decide (16*l.S<=a/\a<=16*l.S+l.k - 1)
def csz(k:Int):Int:=if 0<=k/\k<=3 then 2 ^ k.toNat else 0
def jM(s:a8)(a:Int):Int × Int:=if dm s a then((a - 16*s.S) / csz s.a,(a - 16*s.S) % csz s.a) else(-1,-1)
def pz(i:Nat)(s:a8)(a:Int):kn:=⟨if bg s.b0 ((a - 16*s.S) / csz s.a) then 1 else 2,i,(a - 16*s.S) / csz s.a,(a - 16*s.S) % csz s.a⟩
def denotes(sp:List a8)(la:List aB)(a:Int):kn:=
 match sp.findIdx? (dm · a) with
 | some i=>pz i (nth sp i) a
 | none=>match la.findIdx? (bR · a) with
  | some i=>⟨3,i,0,a - 16*(nth la i).S⟩
  | none=>⟨0,0,0,0⟩
theorem yK{pr:α->Bool}{xs:List α}{y:α}(a:xs[i]? = some y)(b:pr y=true)(c:∀(j:Nat)(z:α),j<i->xs[j]? = some z->pr z=false):xs.findIdx? pr=some i:=by grind [SD]
theorem Gm{pr:α->Bool}{xs:List α}(a:xs.length<=i)(b:∀(j:Nat)(z:α),j<i->xs[j]? = some z->pr z=false):xs.findIdx? pr=none:=
 List.findIdx?_eq_none_iff.2 λz c=>by grind [List.mem_iff_getElem?]
theorem fh{pr:α->Bool}{xs:List α}{y:α}(a:xs[i]? = some y)(b:pr y=false)(c:∀(j:Nat)(z:α),j<i->xs[j]? = some z->pr z=false):∀(j:Nat)(z:α),j<i+1->xs[j]? = some z->pr z=false:=ψ
def cu(pr:α->Bool)(xs:List α):Int:=match xs.findIdx? pr with|some i=>(i:Nat)|none=>-1
theorem dJ{pr:α->Bool}{xs:List α}{y:α}(a:xs[i]? = some y)(b:pr y=true)(c:∀(j:Nat)(z:α),j<i->xs[j]? = some z->pr z=false):cu pr xs=(i:Nat):=by
 unfold cu;rw[yK a b c]
theorem f8{pr:α->Bool}{xs:List α}(a:xs.length<=i)(b:∀(j:Nat)(z:α),j<i->xs[j]? = some z->pr z=false):cu pr xs = -1:=by grind [Gm,cu]
theorem lZ(pr:α->Bool)(xs:List α):decide (cu pr xs≥0)=xs.any pr:=by grind [cu]
def meshable(s t:a8):Bool:=(bh s&&bh t)&&decide (s.a=t.a/\s.S≠t.S/\s.b0.toNat &&& t.b0.toNat=0)
def oY(n:Int)(p:cX):Bool:=decide (0<=p.To/\p.To<=n - 1/\0<=p.U)
def VT(z:Int):Bool:=decide (0<=z)
def i7(m:aL)(i:Nat):Bool:=(nth m.T i).all (oY m.T.length)&&(nth m.w i).all VT
def bM(m:aL):Nat->Int
 | 0=>0
 | i+1=>bM m i+((nth m.T i).length+(nth m.w i).length)
def bE(m:aL):Bool:=(decide (1<=m.T.length/\m.T.length<=4/\m.w.length=m.T.length)&&du m.T.length (i7 m))&&decide (bM m m.T.length<=30)
def aR(m:aL):List Int:=if bE m then(m.T.flatMap λl=>l.map (·.U))++m.w.flatten else []
def fg(a:Int)(y:aO):Bool:=decide (y.U=a)
def lN(xs:List aO)(i:Nat):Bool:=decide (0<=(nth xs i).a/\(nth xs i).a<=3/\0<=(nth xs i).U/\0<=(nth xs i).b7/\(i=0\/(nth xs (i - 1)).b7<=(nth xs i).b7))&&!(xs.take i).any (fg (nth xs i).U)
def quarCells(xs:List aO):Nat->Int
 | 0=>0
 | i+1=>quarCells xs i+csz (nth xs i).a
def gj(q:bz):Bool:=du q.a0.length (lN q.a0)&&decide (0<=q.c0/\q.c0<=500/\quarCells q.a0 q.a0.length<=q.c0)
def oZ(xs:List Int)(i:Nat):Bool:=decide (0<=nth xs i/\nth xs i<=15/\(i=0\/nth xs (i - 1)<nth xs i))
def fY(p:cj):Bool:=du p.V.length (oZ p.V)&&decide (0<=p.b1/\p.b1<=31/\0<=p.b3/\p.b3<=31/\p.b1≠p.b3)
def kf(j:cH):Bool:=fY j.g&&decide (0<=j.b6/\j.b6<=5/\0<=j.o/\j.o<=j.g.V.length)
def wb(j:cH):Bool:=decide (j.g.b1=0/\j.g.b3=0/\j.g.V.length=0/\j.b6=0/\j.o=0)
def aS(h:ac)(p:Int):List Int:=if(au h.G.F.O p).y=0 then [] else pagesOn h.G.F.O (au h.G.F.O p).j
def nH(p:Int)(s:a8):Bool:=decide (s.S=p)
def iu(h:ac)(p:Int):Int:=cu (nH p) h.H
def aP(n:Int):Int:=if n<1 then -1 else if n<=1 then 0 else if n<=2 then 1 else if n<=4 then 2 else if n<=8 then 3 else -1
set_option maxHeartbeats 2000000
def aK(n lo a:Int):zzA 43 false [.vI n,.vI lo,.vI a] .one [B (decide (lo<=n/\n<=a))]:=by
 refine fO 15 [] Tryz.func43 rfl ?_
 repeat'(first|refine gP ?_|refine gS (λb=>?_) (λb=>?_)|fail)
 all_goals exact bY (by simp;try omega)
def aH(n lo a:Int):zzA 87 false [.vI n,.vI lo,.vI a] .one [B (decide (lo<=n/\n<=a))]:=by
 refine fO 15 [] Tryz.func87 rfl ?_
 repeat'(first|refine gP ?_|refine gS (λb=>?_) (λb=>?_)|fail)
 all_goals exact bY (by simp;try omega)
def gc(k:Int):zzA 168 false [.vI k] .one [B (decide (0<=k/\k<=3))]:=by
 refine fO 5 [] Tryz.func168 rfl ?_
 repeat'(first|refine gP ?_|apply CF (aH k 0 3))
 rfl
theorem dx(k:Int):zzA 169 false [.vI k] .one [I (csz k)]:=by
 by_cases b:0<=k/\k<=3
 ·obtain rfl|rfl|rfl|rfl:k=0\/k=1\/k=2\/k=3:=ω
  all_goals
   refine fO 8 [] Tryz.func169 rfl ?_
   repeat'(first|refine gE ?_|refine gS (λa=>?_) (λa=>?_)|apply CF (gc _)|apply CT qs|apply CR rfl)
   exact nr qs
 refine fO 8 [] Tryz.func169 rfl ?_
 repeat'(first|refine gE ?_|refine gS (λa=>?_) (λa=>?_)|apply CF (gc _))
 exact nr (by grind [csz])
theorem eK(k:Int):zzA 131 false [.vI k] .one [I (csz k)]:=by
 by_cases b:0<=k/\k<=3
 ·obtain rfl|rfl|rfl|rfl:k=0\/k=1\/k=2\/k=3:=ω
  all_goals
   refine fO 9 [] Tryz.func131 rfl ?_
   repeat'(first|refine gE ?_|refine gS (λa=>?_) (λa=>?_)|apply CF (aK _ 0 3)|apply CT qs|apply CR rfl)
   exact nr qs
 refine fO 9 [] Tryz.func131 rfl ?_
 repeat'(first|refine gE ?_|refine gS (λa=>?_) (λa=>?_)|apply CF (aK _ 0 3))
 exact nr (by grind [csz])
theorem ov(xs:List Int)(a:Int)(h:xs.length<=9223372036854775807):zzA 123 false [.val none (aE .R xs),.vI a] .one [B (decide (a∈xs))]:=by
 refine fO 18 [] Tryz.func123 rfl ?_
 refine σP ?_
 refine gl xs.length (λi=>[(0,bK (aE .R xs)),(1,fI a),(5,fN i)]) (λi=>a∉xs.take i) ψ λi c=>?_
 obtain⟨c,d⟩:=c;by_cases b:i<xs.length
 ·obtain⟨y,e⟩ : ∃y,xs[i]? = some y:=⟨_,Z3 b⟩
  repeat'(first|refine gE ?_|refine gS (λg=>?_) (λg=>?_)|fail)
  ·exact bY ψ
  (conv=>whnf)
  refine CP (i+1) ⟨ω,?_⟩ ω ?_
  ·grind [ZA]
  exact wB
 refine σE ?_
 rw[ZD ω]at d;exact bY ψ
def good(k:Int)(s:List Int)(a:Int):Prop:=0<=a/\a<=511/\a.tmod (csz k)=0/\a∉s
instance (k:Int) (s:List Int) (a:Int):Decidable (good k s a):=by unfold good;exact inferInstance
def uJ(k:Int):List Int->List Int->Option (List Int)
 | s,[]=>some s
 | s,a::l=>if good k s a then uJ k (s++[a]) l else none
def fW(k:Nat)(s l:List Int):Option (List Int):=if l.length<=8/\k<=3 then uJ k s l else none
def iG:Nat->List Int->List (List Int)->Option (List Int)
 | _,s,[]=>some s
 | k,s,l::ls=>(fW k s l).bind λa=>iG (k+1) a ls
def bB(c:aD):Bool:=decide (c.X.length=4)&&(iG 0 [] c.X).isSome
theorem tO(k:Int):∀(a s b:List Int),uJ k s (a++b)=(uJ k s a).bind λc=>uJ k c b
 | [],s,b=>rfl
 | x::a,s,b=>by
  simp only[List.cons_append,uJ];split
  ·exact tO k a _ b
  rfl
theorem qJ:∀(a:List (List Int))(k:Nat)(s:List Int)(b:List (List Int)),iG k s (a++b)=(iG k s a).bind λc=>iG (k+a.length) c b
 | [],k,s,b=>rfl
 | l::a,k,s,b=>by
  simp only[List.cons_append,iG,Option.bind_assoc,List.length_cons]
  congr 1;funext c
  rw[qJ a (k+1) c b,show k+1+a.length=k+(a.length+1) by omega]
variable{l:List Int}
theorem P0{k:Int}{b s:List Int}{j:Nat}(c:l[j]? = some a)(h:uJ k b (l.take j)=some s)(d:good k s a):uJ k b (l.take (j+1))=some (s++[a]):=by grind [ZA,tO,uJ]
theorem RX{b s:List Int}{j:Nat}(c:l[j]? = some a)(h:uJ k b (l.take j)=some s)(d:¬good k s a):fW k b l=none:=by
 unfold fW;split
 all_goals grind [List.drop_eq_getElem_cons,List.take_append_drop,tO,uJ]
theorem Gj{k:Int} : ∀{l s b:List Int},uJ k s l=some b->b.length=s.length+l.length
 | [],s,b,h=>by grind [uJ]
 | a::l,s,b,h=>by
  simp only[uJ]at h;split at h
  ·have:=Gj h;grind
  cases h
theorem wo{a:List (List Int)}{s:List Int}(b:a[i]? = some l)(h:iG 0 [] (a.take i)=some s):iG 0 [] (a.take (i+1))=fW i s l:=by
 have c:=(C4.1 b).1;rw[ZA,b,Option.toList_some,qJ,h];simp only[Option.bind_some,iG,OD,Z2,Nat.min_eq_left (Nat.le_of_lt c)]
 grind
variable{c:aD}
theorem mF{s:List Int}(a:c.X[i]? = some l)(h:iG 0 [] (c.X.take i)=some s)(b:fW i s l=none):bB c=false:=by
 have d:=wo a h
 grind [List.take_append_drop,qJ,bB]
theorem Ko:∀{b:List (List Int)}{k:Nat}{s a:List Int},iG k s b=some a->a.length<=s.length+8*b.length
 | [],k,s,a,h=>by grind [iG]
 | l::b,k,s,a,h=>by
  simp only[iG]at h;unfold fW at h;split at h
  ·cases c:uJ k s l with
   | none=>grind
   | some d=>
    rw[c]at h;have e:=Gj c;have f:=Ko (show iG (k+1) d b=some a from h)
    grind
  cases h
def TQ(h:i<=3):csz (i:Int)≠0:=by
 obtain rfl|rfl|rfl|rfl:i=0\/i=1\/i=2\/i=3:=ω
 all_goals decide
def cx : ∀r∈l.map (rI .own),r.length=1:=by
 intro r a;obtain⟨z,-,rfl⟩:=O8.1 a;rfl
theorem pU(c:aD)(t:aD.sml c):zzA 64 false [.val (some 1) (aD.enc .R c)] .one [B (bB c)]:=by
 have E:=t.1;refine fO 60 [] Tryz.func64 rfl ?_
 repeat'(first|refine gP ?_|refine gS (λe=>?_) (λe=>?_)|fail)
 ·exact bY (by grind [bB])
 have F:c.X.length=4:=ω
 (conv=>whnf)
 refine lE (ι:=Nat × List Int) (λi=>[(1,bF (aD.enc .R c)),(3,bK (aE .own i.2)),(4,fI (i.1:Nat))]) (λi=>i.1<=4/\iG 0 [] (c.X.take i.1)=some i.2) (λi=>4 - i.1) (0,[]) ⟨C1 _,rfl⟩ λi k=>?_
 obtain⟨i,s⟩:=i;obtain⟨k,b⟩:=k;simp only at k b |-;have g:=Ko b;rw[Z2]at g;simp only[List.length_nil]at g;by_cases u:i<4
 ·obtain⟨l,d⟩ : ∃l,c.X[i]? = some l:=(ψ)
  have w:l.length<=1048576:=t.2 l ψ
  repeat'(first|refine gE ?_|refine gS (λe=>?_) (λe=>?_)|fail)
  ·exact bY (mF d b (by grind [fW])).symm
  have C:l.length<=8:=ω
  (conv=>whnf)
  refine lE (ι:=Nat × List Int) (λj=>[(1,bF (aD.enc .R c)),(3,bK (aE .own j.2)),(4,fN i),(5,fI (j.1:Nat))]) (λj=>j.1<=l.length/\uJ i s (l.take j.1)=some j.2) (λj=>l.length - j.1) (0,s) ⟨C1 _,rfl⟩ λj n=>?_
  obtain⟨j,o⟩:=j;obtain⟨n,a⟩:=n;simp only at n a |-;have h:=Gj a;rw[Z2]at h;by_cases p:j<l.length
  ·obtain⟨y,q⟩ : ∃y,l[j]? = some y:=⟨_,Z3 p⟩
   repeat'(first|refine gE ?_|refine gS (λe=>?_) (λe=>?_)|apply CF (aK y 0 511)|apply CF (eK (i:Nat))|apply CT (TQ ω)|apply CY rfl|refine CL (ov o y ω) ⟨⟨rfl,dX _⟩,⟨rfl,rfl⟩,tV1⟩ ?_|refine Cb cx (λr D=>by rw[I2.1 D];rfl) ζ kd χ rfl ?_)
   all_goals first
    | exact bY (mF d b (RX q a λ⟨G,H,J,K⟩=>by first|contradiction|omega)).symm
    | ((conv=>whnf)
       refine CP (j+1,o++[y]) ⟨τ,P0 q a ⟨ω,ω,ϑ,ϑ⟩⟩ τ ?_
       (exact wD))
  refine σE ?_
  rw[ZD ω]at a;exact cV (i+1,o) ⟨τ,(by rw[wo d b];grind [fW])⟩
 refine σE ?_
 rw[ZD ω]at b;exact bY (by grind [bB])
def gx(s:List Int):List (Int × Value):=s.map λa=>(a,.bool true)
theorem pd(a:Int):∀(s:List Int),mlook (gx s) a (.bool false)=.bool (decide (a∈s))
 | []=>by simp[gx,mlook]
 | x::s=>by
  have b:=pd a s
  grind [gx,mlook]
theorem wS{a:Int} : ∀{s:List Int},a∉s->gx (s++[a])=mput (gx s) a (.bool true)
 | [],_=>rfl
 | x::s,h=>by
  simp only[List.mem_cons,not_or]at h;have b:=wS h.2
  grind [gx,mput]
theorem p9(c:aD)(p:aD.sml c):zzA 83 false [.val (some 1) (aD.enc .R c)] .one [B (bB c)]:=by
 have w:=p.1;refine fO 54 [] Tryz.func83 rfl ?_
 refine σP ?_
 refine lE (ι:=Nat × List Int) (λi=>[(1,bF (aD.enc .R c)),(3,bK [.m (gx i.2)]),(10,bK (kg .R c.X)),(11,fI c.X.length),(12,fI (i.1:Nat))]) (λi=>i.1<=c.X.length/\iG 0 [] (c.X.take i.1)=some i.2) (λi=>c.X.length - i.1) (0,[]) ⟨C1 _,rfl⟩ λi e=>?_
 obtain⟨i,s⟩:=i;obtain⟨e,d⟩:=e;simp only at e d |-;by_cases q:i<c.X.length
 ·obtain⟨l,b⟩ : ∃l,c.X[i]? = some l:=(ψ)
  have r:l.length<=1048576:=p.2 l ψ
  repeat'(first|refine gE ?_|refine gS (λg=>?_) (λg=>?_)|apply CF (gc (i:Nat)))
  ·exact bY (mF b d (by grind [fW])).symm
  rotate_left
  ·exact bY (mF b d (by grind [fW])).symm
  have t:l.length<=8:=ω
  have u:i<=3:=ω
  (conv=>whnf)
  refine lE (ι:=Nat × List Int) (λj=>[(1,bF (aD.enc .R c)),(3,bK [.m (gx j.2)]),(4,fN i),(10,bK (kg .R c.X)),(11,fI c.X.length),(12,fN i),(25,bK (aE .R l)),(26,fI l.length),(27,fI (j.1:Nat))]) (λj=>j.1<=l.length/\uJ i s (l.take j.1)=some j.2) (λj=>l.length - j.1) (0,s) ⟨C1 _,rfl⟩ λj h=>?_
  obtain⟨j,k⟩:=j;obtain⟨h,a⟩:=h;simp only at h a |-;by_cases n:j<l.length
  ·obtain⟨y,o⟩ : ∃y,l[j]? = some y:=⟨_,Z3 n⟩
   repeat'(first|refine gE ?_|refine gS (λg=>?_) (λg=>?_)|apply CF (aH y 0 511)|apply CF (dx (i:Nat))|apply CT (TQ ω)|apply CY rfl|refine Ml.mk (pd y k) ?_|refine Mu.mk (wS ϑ) ?_)
   all_goals first
    | exact bY (mF b d (RX o a λ⟨C,D,E,F⟩=>by first|contradiction|omega)).symm
    | ((conv=>whnf)
       refine CP (j+1,k++[y]) ⟨τ,P0 o a ⟨ω,ω,ϑ,ϑ⟩⟩ τ ?_
       (exact wA))
  refine σE ?_
  rw[ZD ω]at a;exact cV (i+1,k) ⟨τ,(by rw[wo b d];grind [fW])⟩
 refine σE ?_
 grind [Z0,bB]
theorem NJ:∀{b:List (List Int)}{k:Nat}{s c:List Int},iG k s b=some c->∀l∈b,l.length<=8
 | [],k,s,c,h,l,a=>by simp at a
 | x::b,k,s,c,h,l,a=>by
  simp only[iG]at h;unfold fW at h;split at h
  ·rename_i d
   rcases List.mem_cons.1 a with rfl|a
   ·exact d.1
   cases e:uJ k s x with
   | none=>grind
   | some f=>rw[e]at h;exact NJ (show iG (k+1) f b=some c from h) l a
  cases h
theorem x7(h:bB c=true):c.X.length=4/\∀l∈c.X,l.length<=8:=by grind [Option.isSome_iff_exists,NJ,bB]
theorem Ea(f:aW)(h:aW.sml f):zzA 226 false [.val (some 2) (aW.enc .R f)] .one [B (dI f)]:=by
 have C:=h.1.1;have D:f.a5.length<=1048576:=h.2;refine fO 61 [] Tryz.func226 rfl ?_
 repeat'(first|refine gP ?_|refine gS (λb=>?_) (λb=>?_)|apply CF (aK f.V.length 1 32))
 ·exact bY (by grind [dI])
 rotate_left
 ·exact bY (by grind [dI])
 have t:1<=f.V.length/\f.V.length<=32:=ω
 have w:f.a5.length=f.V.length:=ω
 (conv=>whnf)
 refine gl f.V.length (λi=>[(1,bF (aW.enc .R f)),(3,fN i)]) (λi=>((f.V.zip f.a5).take i).all (λq=>iU q.1 q.2)=true) ψ λi j=>?_
 obtain⟨j,y⟩:=j;by_cases g:i<f.V.length
 ·obtain⟨r,c⟩ : ∃r,f.V[i]? = some r:=⟨_,Z3 g⟩
  obtain⟨u,a⟩ : ∃u,f.a5[i]? = some u:=⟨_,Z3 ω⟩
  repeat'(first|refine gE ?_|refine gS (λb=>?_) (λb=>?_)|fail)
  ·exact bY (jm c a (by grind [iU])).symm
  have l:r.length=16:=ω
  (conv=>whnf)
  refine gl 16 (λk=>[(1,bF (aW.enc .R f)),(3,fN i),(4,fN k)]) (λk=>(r.take k).all (jz u)=true) ψ λk n=>?_
  obtain⟨n,e⟩:=n;by_cases o:k<16
  ·obtain⟨v,d⟩ : ∃v,r[k]? = some v:=⟨_,Z3 ω⟩
   cases u with
   | true=>
    repeat'(first|refine gE ?_|refine gS (λb=>?_) (λb=>?_)|apply CF (aK v 0 999))
    all_goals first
     | exact bY (jm c a (vR d (by first|(unfold jz;rw[Z0 ω];rfl)|(unfold jz;rw[Z0 (p:=v=0) ω];simp)))).symm
     | ((conv=>whnf)
        refine CP (ι:=Nat) (k+1) ⟨ω,df d e (by unfold jz;first|(rw[O0 ω];rfl)|(rw[O0 (p:=0<=v/\v<=999) ω,O0 (p:=v=0) ω];rfl))⟩ ω ?_
        (exact wA))
   | false=>
    repeat'(first|refine gE ?_|refine gS (λb=>?_) (λb=>?_)|apply CF (aK v 0 999))
    all_goals first
     | exact bY (jm c a (vR d (by first|(unfold jz;rw[Z0 ω];rfl)|(unfold jz;rw[Z0 (p:=v=0) ω];simp)))).symm
     | ((conv=>whnf)
        refine CP (ι:=Nat) (k+1) ⟨ω,df d e (by unfold jz;first|(rw[O0 ω];rfl)|(rw[O0 (p:=0<=v/\v<=999) ω,O0 (p:=v=0) ω];rfl))⟩ ω ?_
        (exact wA))
  refine σE ?_
  exact cV (i+1) ⟨ω,df (yL c a) y (by grind [iU])⟩
 refine σE ?_
 exact bY (by grind [List.length_zip,dI])
theorem sV(f:aW)(g:aW.sml f):zzA 263 false [.val (some 2) (aW.enc .R f)] .one [B (dI f)]:=by
 have C:=g.1.1;have D:f.a5.length<=1048576:=g.2;refine fO 55 [] Tryz.func263 rfl ?_
 repeat'(first|refine gP ?_|refine gS (λb=>?_) (λb=>?_)|apply CF (aH f.V.length 1 32))
 ·exact bY (by grind [dI])
 rotate_left
 ·exact bY (by grind [dI])
 have p:1<=f.V.length/\f.V.length<=32:=ω
 have t:f.a5.length=f.V.length:=ω
 (conv=>whnf)
 refine gl f.V.length (λi=>[(1,bF (aW.enc .R f)),(22,bK (kg .R f.V)),(23,fI f.V.length),(24,fN i)]) (λi=>((f.V.zip f.a5).take i).all (λq=>iU q.1 q.2)=true) ψ λi j=>?_
 obtain⟨j,w⟩:=j;by_cases h:i<f.V.length
 ·obtain⟨r,c⟩ : ∃r,f.V[i]? = some r:=⟨_,Z3 h⟩
  obtain⟨u,a⟩ : ∃u,f.a5[i]? = some u:=⟨_,Z3 ω⟩
  have y:r.length<=1048576:=g.1.2 r ψ
  repeat'(first|refine gE ?_|refine gS (λb=>?_) (λb=>?_)|fail)
  ·exact bY (jm c a (by grind [iU])).symm
  have l:r.length=16:=ω
  (conv=>whnf)
  refine gl r.length (λk=>[(1,bF (aW.enc .R f)),(3,fN i),(22,bK (kg .R f.V)),(23,fI f.V.length),(24,fN i),(32,bK (aE .R r)),(33,fI r.length),(34,fN k)]) (λk=>(r.take k).all (jz u)=true) ψ λk n=>?_
  obtain⟨n,e⟩:=n;by_cases o:k<r.length
  ·obtain⟨v,d⟩ : ∃v,r[k]? = some v:=⟨_,Z3 ω⟩
   cases u with
   | true=>
    repeat'(first|refine gE ?_|refine gS (λb=>?_) (λb=>?_)|apply CF (aH v 0 999))
    all_goals first
     | exact bY (jm c a (vR d (by unfold jz;grind))).symm
     | ((conv=>whnf)
        refine CP (ι:=Nat) (k+1) ⟨ω,df d e (by unfold jz;grind)⟩ ω ?_
        (exact wA))
   | false=>
    repeat'(first|refine gE ?_|refine gS (λb=>?_) (λb=>?_)|apply CF (aH v 0 999))
    all_goals first
     | exact bY (jm c a (vR d (by unfold jz;grind))).symm
     | ((conv=>whnf)
        refine CP (ι:=Nat) (k+1) ⟨ω,df d e (by unfold jz;grind)⟩ ω ?_
        (exact wA))
  refine σE ?_
  exact cV (i+1) ⟨ω,df (yL c a) w (by grind [iU])⟩
 refine σE ?_
 exact bY (by grind [List.length_zip,dI])
theorem Hr(t:aM)(a:Int)(d:aM.sml t):zzA 227 false [.val (some 1) (aM.enc .R t),.vI a] .one [B (hO t a)]:=by
 have k:=d.1;refine fO 54 [] Tryz.func227 rfl ?_
 refine σP ?_
 refine gl t.M.length (λi=>[(1,fI a),(2,bF (aM.enc .R t)),(5,fN i)]) (λi=>du i (λj=>m7 a (nth t.M j))=true) rfl λi b=>?_
 obtain⟨b,e⟩:=b;by_cases c:i<t.M.length
 ·have g:=ar c
  repeat'(first|refine gE ?_|refine gS (λh=>?_) (λh=>?_)|apply CF (aK _ 0 2))
  all_goals first
   | exact bY ((by symm;unfold hO;rw[cK c (Z0 ψ)];rfl))
   | ((conv=>whnf);exact cV (i+1) ⟨ω,bX e (O0 ψ)⟩)
 repeat'(first|refine gE ?_|apply CF (aK _ 1 32))
 obtain rfl:i=t.M.length:=ω
 exact bY ((by grind [hO]))
theorem GT(t:aM)(a:Int)(d:aM.sml t):zzA 264 false [.val (some 1) (aM.enc .R t),.vI a] .one [B (hO t a)]:=by
 have k:=d.1;refine fO 49 [] Tryz.func264 rfl ?_
 refine σP ?_
 refine gl t.M.length (λi=>[(1,fI a),(2,bF (aM.enc .R t)),(8,bK (KJ .R t.M)),(9,fI t.M.length),(10,fN i)]) (λi=>du i (λj=>m7 a (nth t.M j))=true) rfl λi b=>?_
 obtain⟨b,e⟩:=b;by_cases c:i<t.M.length
 ·have g:=ar c
  repeat'(first|refine gE ?_|refine gS (λh=>?_) (λh=>?_)|apply CF (aH _ 0 2))
  all_goals first
   | exact bY ((by symm;unfold hO;rw[cK c (Z0 ψ)];rfl))
   | ((conv=>whnf);exact cV (i+1) ⟨ω,bX e (O0 ψ)⟩)
 repeat'(first|refine gE ?_|apply CF (aH _ 1 32))
 obtain rfl:i=t.M.length:=ω
 exact bY ((by grind [hO]))
theorem iC(t:aM)(f:Int)(b:aM.sml t):zzA 228 false [.val (some 1) (aM.enc .R t),.vI f] .one (aE .own (pagesOn t f)):=by
 have j:=b.1;refine fO 37 [] Tryz.func228 rfl ?_ (.inr (bH _))
 refine σP ?_
 refine lp0 t.M.length (λi=>[(1,fI f),(2,bF (aM.enc .R t)),(5,bK (aE .own (lw t f i))),(6,fN i)]) λi k=>?_
 have c:=xt t f i;by_cases d:i<t.M.length
 ·have e:=ar d
  repeat'(first|refine gE ?_|refine gS (λg=>?_) (λg=>?_)|refine Cb cx (λr h=>by rw[I2.1 h];rfl) ζ kd χ rfl ?_)
  all_goals first
   |(have a:RO t f i=true:=O0 ψ
     (conv=>whnf)
     refine CP (i+1) ω ω ?_;rw[ER a]
     (exact wD))
   |(have a:RO t f i=false:=Z0 ψ
     (conv=>whnf)
     refine CP (i+1) ω ω ?_;rw[Jt a]
     (exact wA))
 refine σE ?_
 obtain rfl:i=t.M.length:=ω
 rfl
theorem lP(t:aM)(f:Int)(b:aM.sml t):zzA 265 false [.val (some 1) (aM.enc .R t),.vI f] .one (aE .own (pagesOn t f)):=by
 have j:=b.1;refine fO 32 [] Tryz.func265 rfl ?_ (.inr (bH _))
 refine σP ?_
 refine lp0 t.M.length (λi=>[(1,fI f),(5,bK (aE .own (lw t f i))),(10,bK (KJ .R t.M)),(11,fI t.M.length),(12,fN i)]) λi k=>?_
 have c:=xt t f i;by_cases d:i<t.M.length
 ·have e:=ar d
  repeat'(first|refine gE ?_|refine gS (λg=>?_) (λg=>?_)|refine Cb cx (λr h=>by rw[I2.1 h];rfl) ζ kd χ rfl ?_)
  all_goals first
   |(have a:RO t f i=true:=O0 ψ
     (conv=>whnf)
     refine CP (i+1) ω ω ?_;rw[ER a]
     (exact wD))
   |(have a:RO t f i=false:=Z0 ψ
     (conv=>whnf)
     refine CP (i+1) ω ω ?_;rw[Jt a]
     (exact wA))
 refine σE ?_
 obtain rfl:i=t.M.length:=ω
 rfl
def cZ(t:aM)(p:Int)(b:aM.sml t):zzA 70 false [.val (some 1) (aM.enc .R t),.vI p] .agg (bv.enc .own (au t p)):=by
 have d:=b.1;refine fO 18 [] Tryz.func70 rfl ?_ (.inr (bv.enc_fr _));by_cases a:0<=p/\p<t.M.length
 ·have c:=ar (xs:=t.M) (i:=p.toNat) ω
  repeat'(first|refine gE ?_|apply CF (aK _ 0 _)|apply CO a.1 (aa c))
  all_goals(unfold au;rw[CJ a];rfl)
 repeat'(first|refine gE ?_|apply CF (aK _ 0 _))
 all_goals(unfold au;rw[CI a];rfl)
def cG(t:aM)(p:Int)(b:aM.sml t):zzA 90 false [.val (some 1) (aM.enc .R t),.vI p] .agg (bv.enc .own (au t p)):=by
 have d:=b.1;refine fO 18 [] Tryz.func90 rfl ?_ (.inr (bv.enc_fr _));by_cases a:0<=p/\p<t.M.length
 ·have c:=ar (xs:=t.M) (i:=p.toNat) ω
  repeat'(first|refine gE ?_|apply CF (aH _ 0 _)|apply CO a.1 (aa c))
  all_goals(unfold au;rw[CJ a];rfl)
 repeat'(first|refine gE ?_|apply CF (aH _ 0 _))
 all_goals(unfold au;rw[CI a];rfl)
def ui(t:aM)(f:Int):(pagesOn t f).length<=t.M.length:=xt ..
theorem rq(m:aN)(a:aN.sml m):zzA 120 false [.val (some 3) (aN.enc .R m)] .one [B (de m)]:=by
 have q:m.W.a5.length<=1048576:=a.1.2;have k:m.W.V.length<=1048576:=a.1.1.1;have b:=Ea m.W a.1;have c:=Hr m.O m.W.V.length a.2;cases d:dI m.W with
 | false=>
  rw[d]at b;refine fO 39 [ςp] Tryz.func120 rfl ?_
  refine σP ?_
  exact bY ((by grind [de]))
 | true=>
  have g:=Hu d;rw[d]at b;cases e:hO m.O m.W.a5.length with
  | false=>
   rw[show(m.W.V.length:Int)=m.W.a5.length by omega,e]at c;refine fO 39 [ςp] Tryz.func120 rfl ?_
   repeat'(first|refine gP ?_|apply CF ((show(m.W.V.length:Int)=m.W.a5.length by omega) ▸ c))
   exact bY ((by grind [de]))
  | true=>
   rw[show(m.W.V.length:Int)=m.W.a5.length by omega,e]at c;refine fO 39 [ςp] Tryz.func120 rfl ?_
   repeat'(first|refine gP ?_|apply CF ((show(m.W.V.length:Int)=m.W.a5.length by omega) ▸ c))
   refine gl m.W.a5.length (λi=>[(1,bF (aN.enc .R m)),(3,fN i)]) (λi=>du i (rA m)=true) rfl λi h=>?_
   obtain⟨h,l⟩:=h;by_cases j:i<m.W.a5.length
   ·have n:=ar j
    have o:=ui m.O (i:Nat)
    repeat'(first|refine gE ?_|refine gS (λp=>?_) (λp=>?_)|apply CF (iC m.O (i:Nat) a.2))
    all_goals first
     | exact bY ((by symm;unfold de;rw[d,e,cK j (by unfold rA;grind)];rfl))
     | ((conv=>whnf);exact cV (i+1) ⟨ω,bX l (by unfold rA;grind)⟩)
   refine σE ?_
   obtain rfl:i=m.W.a5.length:=ω
   exact bY ((by grind [de]))
theorem qP(m:aN)(b:aN.sml m):zzA 157 false [.val (some 3) (aN.enc .R m)] .one [B (de m)]:=by
 have o:m.W.a5.length<=1048576:=b.1.2;have a:=sV m.W b.1;have c:=GT m.O m.W.a5.length b.2;cases d:dI m.W with
 | false=>
  rw[d]at a;refine fO 37 [] Tryz.func157 rfl ?_
  refine σP ?_
  exact bY ((by grind [de]))
 | true=>
  rw[d]at a;cases e:hO m.O m.W.a5.length with
  | false=>
   rw[e]at c;refine fO 37 [] Tryz.func157 rfl ?_
   refine σP ?_
   exact bY ((by grind [de]))
  | true=>
   rw[e]at c;refine fO 37 [] Tryz.func157 rfl ?_
   refine σP ?_
   refine gl m.W.a5.length (λi=>[(1,bF (aN.enc .R m)),(21,bK (AK .R m.W.a5)),(22,fI m.W.a5.length),(23,fN i)]) (λi=>du i (rA m)=true) rfl λi g=>?_
   obtain⟨g,j⟩:=g;by_cases h:i<m.W.a5.length
   ·have k:=ar h
    have l:=ui m.O (i:Nat)
    repeat'(first|refine gE ?_|refine gS (λn=>?_) (λn=>?_)|apply CF (lP m.O (i:Nat) b.2))
    all_goals first
     | exact bY ((by symm;unfold de;rw[d,e,cK h (by unfold rA;grind)];rfl))
     | ((conv=>whnf);exact cV (i+1) ⟨ω,bX j (by unfold rA;grind)⟩)
   refine σE ?_
   obtain rfl:i=m.W.a5.length:=ω
   exact bY ((by grind [de]))
def kG(k:ah)(d:ah.sml k):zzA 57 false [.val (some 5) (ah.enc .R k)] .one [B (aG k)]:=by
 have n:k.d.length<=1048576:=d.2;have a:=rq k.F d.1;refine fO 31 [] Tryz.func57 rfl ?_
 refine σP ?_
 refine gl k.d.length (λi=>[(1,bF (ah.enc .R k)),(3,fN i)]) (λi=>du i (λj=>decide (0<=nth k.d j))=true) rfl λi e=>?_
 obtain⟨e,g⟩:=e;by_cases h:i<k.d.length
 ·have l:=ar h
  repeat'(first|refine gE ?_|refine gS (λc=>?_) (λc=>?_)|fail)
  all_goals first
   | exact bY ((by symm;unfold aG;rw[cK h (Z0 ω)];rfl))
   | ((conv=>whnf);exact cV (i+1) ⟨ω,bX g (O0 ω)⟩)
 obtain rfl:i=k.d.length:=ω
 cases b:de k.F with
 | false=>
  rw[b]at a
  refine σE ?_
  all_goals exact bY ((by unfold aG;rw[b];simp))
 | true=>
  rw[b]at a
  repeat'(first|refine gE ?_|refine gS (λc=>?_) (λc=>?_)|apply CF (aK _ 0 100000))
  all_goals exact bY ((by unfold aG;rw[b,g];simp only[Bool.true_and];first|exact decide_eq_decide.2 ω|(symm;exact Z0 ω)|(symm;exact O0 ω)))
def kH(k:ah)(b:ah.sml k):zzA 77 false [.val (some 5) (ah.enc .R k)] .one [B (aG k)]:=by
 have l:k.d.length<=1048576:=b.2;have g:=qP k.F b.1;refine fO 29 [] Tryz.func77 rfl ?_
 refine σP ?_
 refine gl k.d.length (λi=>[(1,bF (ah.enc .R k)),(6,bK (aE .R k.d)),(7,fI k.d.length),(8,fN i)]) (λi=>du i (λj=>decide (0<=nth k.d j))=true) rfl λi c=>?_
 obtain⟨c,d⟩:=c;by_cases e:i<k.d.length
 ·have h:=ar e
  repeat'(first|refine gE ?_|refine gS (λa=>?_) (λa=>?_)|fail)
  all_goals first
   | exact bY ((by symm;unfold aG;rw[cK e (Z0 ω)];rfl))
   | ((conv=>whnf);exact cV (i+1) ⟨ω,bX d (O0 ω)⟩)
 obtain rfl:i=k.d.length:=ω
 repeat'(first|refine gE ?_|refine gS (λa=>?_) (λa=>?_)|apply CF (aH _ 0 100000))
 all_goals exact bY ((by unfold aG;rw[d];cases de k.F<;>simp only[Bool.true_and,Bool.false_and]<;>first|rfl|exact decide_eq_decide.2 ω|(symm;exact Z0 ω)|(symm;exact O0 ω)))
def zn(pages:Int)(r:aC)(b:0<=pages/\pages<=1048576):zzA 121 false [.vI pages,.val (some 2) (aC.enc .R r)] .one [B (rangeIn pages r)]:=by
 refine fO 18 [] Tryz.func121 rfl ?_
 repeat'(first|refine gP ?_|refine gS (λa=>?_) (λa=>?_)|apply CF (aK _ 1 _)|apply CF (aK _ 0 _))
 all_goals exact bY ((by unfold rangeIn;first|(symm;exact Z0 ω)|exact decide_eq_decide.2 ω))
def zY(pages:Int)(r:aC)(b:0<=pages/\pages<=1048576):zzA 158 false [.vI pages,.val (some 2) (aC.enc .R r)] .one [B (rangeIn pages r)]:=by
 refine fO 18 [] Tryz.func158 rfl ?_
 repeat'(first|refine gP ?_|refine gS (λa=>?_) (λa=>?_)|apply CF (aH _ 1 _)|apply CF (aH _ 0 _))
 all_goals exact bY ((by unfold rangeIn;first|(symm;exact Z0 ω)|exact decide_eq_decide.2 ω))
theorem pO(k:Int):zzA 230 false [.vI k] .one [I (slots k)]:=by
 by_cases b:0<=k/\k<=3
 ·obtain rfl|rfl|rfl|rfl:k=0\/k=1\/k=2\/k=3:=ω
  all_goals
   refine fO 9 [] Tryz.func230 rfl ?_
   repeat'(first|refine gE ?_|refine gS (λa=>?_) (λa=>?_)|apply CF (aK _ 0 3)|apply CT qs|apply CR rfl|apply CY rfl)
   exact nr qs
 refine fO 9 [] Tryz.func230 rfl ?_
 repeat'(first|refine gE ?_|refine gS (λa=>?_) (λa=>?_)|apply CF (aK _ 0 3))
 exact nr (by grind [slots])
theorem g9(k:Int):zzA 267 false [.vI k] .one [I (slots k)]:=by
 by_cases b:0<=k/\k<=3
 ·obtain rfl|rfl|rfl|rfl:k=0\/k=1\/k=2\/k=3:=ω
  all_goals
   refine fO 9 [] Tryz.func267 rfl ?_
   repeat'(first|refine gE ?_|refine gS (λa=>?_) (λa=>?_)|apply CF (gc _)|apply CF (dx _)|apply CT qs|apply CR rfl|apply CY rfl)
   exact nr qs
 refine fO 9 [] Tryz.func267 rfl ?_
 repeat'(first|refine gE ?_|refine gS (λa=>?_) (λa=>?_)|apply CF (gc _))
 exact nr (by grind [slots])
def PR(k b:Int):Bool:=decide (0<=k/\k<=3/\0<=b/\b<=lim k)
theorem sX(k b:Int):zzA 229 false [.vI (slots k),.vI b] .one [B (PR k b)]:=by
 by_cases d:0<=k/\k<=3
 ·obtain rfl|rfl|rfl|rfl:k=0\/k=1\/k=2\/k=3:=ω
  all_goals
   first|rw[show slots 0=16 from rfl]|rw[show slots 1=8 from rfl]|rw[show slots 2=4 from rfl]|rw[show slots 3=2 from rfl]
   refine fO 15 [] Tryz.func229 rfl ?_
   repeat'(first|refine gE ?_|refine gS (λa=>?_) (λa=>?_)|apply CF (aK _ 1 16)|apply CF (aK _ 0 _)|apply CT qs|apply CR (show _=(65536:Int) by decide)|apply CR (show _=(65535:Int) by decide)|apply CR (show _=(256:Int) by decide)|apply CR (show _=(255:Int) by decide)|apply CR (show _=(16:Int) by decide)|apply CR (show _=(15:Int) by decide)|apply CR (show _=(4:Int) by decide)|apply CR (show _=(8:Int) by decide)|apply CR (show _=(2:Int) by decide)|apply CR (show _=(3:Int) by decide))
   all_goals exact bY ((decide_eq_decide.2 (by simp[lim])))
 have c:slots k=0:=by grind [slots]
 rw[c];refine fO 15 [] Tryz.func229 rfl ?_
 repeat'(first|refine gE ?_|refine gS (λa=>?_) (λa=>?_)|apply CF (aK _ 1 16))
 exact bY ((by symm;exact Z0 ω))
theorem sS(k b:Int):zzA 266 false [.vI (slots k),.vI b] .one [B (PR k b)]:=by
 by_cases d:0<=k/\k<=3
 ·obtain rfl|rfl|rfl|rfl:k=0\/k=1\/k=2\/k=3:=ω
  all_goals
   first|rw[show slots 0=16 from rfl]|rw[show slots 1=8 from rfl]|rw[show slots 2=4 from rfl]|rw[show slots 3=2 from rfl]
   refine fO 14 [] Tryz.func266 rfl ?_
   repeat'(first|refine gE ?_|refine gS (λa=>?_) (λa=>?_)|apply CF (aH _ 1 16)|apply CF (aH _ 0 _)|apply CT qs|apply CR (fH qs qs))
   all_goals exact bY ((decide_eq_decide.2 (by simp[lim,IntKind.bits])))
 have c:slots k=0:=by grind [slots]
 rw[c];refine fO 14 [] Tryz.func266 rfl ?_
 repeat'(first|refine gE ?_|refine gS (λa=>?_) (λa=>?_)|apply CF (aH _ 1 16))
 exact bY ((by symm;exact Z0 ω))
def iw(s:a8):zzA 122 false [.val (some 3) (a8.enc .R s)] .one [B (bh s)]:=by
 refine fO 14 [(1,12,[3,4,5,6,7,8,9,10,11,12,13,2])] Tryz.func122 rfl ?_
 repeat'(first|refine gP ?_|refine gS (λa=>?_) (λa=>?_)|apply CF (aK _ 0 31)|apply CF (pO _)|apply CF (sX _ _))
 all_goals exact bY ((by unfold bh;first|(symm;exact Z0 ω)|exact decide_eq_decide.2 ω))
def ir(s:a8):zzA 160 false [.val (some 3) (a8.enc .R s)] .one [B (bh s)]:=by
 refine fO 19 [(1,17,[3,4,5,6,7,8,9,10,11,12,13,14,15,16,17,18,2])] Tryz.func160 rfl ?_
 repeat'(first|refine gP ?_|refine gS (λa=>?_) (λa=>?_)|apply CF (aH _ 0 31)|apply CF (gc _)|apply CF (g9 _)|apply CF (sS _ _))
 all_goals exact bY ((by unfold bh;first|(symm;exact Z0 ω)|exact decide_eq_decide.2 ω))
section
variable{α:Type}{xs:List α}{p:α->Bool}{i:Nat}{y:α}
theorem GK(h:xs[i]? = some y)(a:p y=true):xs.any p=true:=O7.2 ψ
theorem AJ(h:xs[i]? = some y)(a:(xs.take i).any p=false)(b:p y=false):(xs.take (i+1)).any p=false:=by grind [ZA]
theorem Yr(a:xs.length<=i)(b:(xs.take i).any p=false):xs.any p=false:=by grind [ZD]
theorem ia[Inhabited α](a:0<i)(b:i<xs.length):xs[((i:Int) - 1).toNat]? = some (nth xs (i - 1)):=by
 rw[show((i:Int) - 1).toNat=i - 1 by omega];grind [ar]
end
theorem Ao{pages:Int}{xs:List aC}(a:du n (gW pages xs)=true)(b:i<n):1<=(nth xs i).a6/\(nth xs i).a6<=pages/\0<=(nth xs i).At/\(nth xs i).At<=pages - (nth xs i).a6:=by grind [fE,gW,rangeIn]
theorem nN(pages:Int)(xs:List aC)(d:0<=pages/\pages<=1048576)(k:gC xs):zzA 58 false [.vI pages,.val none (bw .R xs)] .one [B (bJ pages xs)]:=by
 have n:=k.1;refine fO 46 [ρ 4 32 12] Tryz.func58 rfl ?_
 refine σP ?_
 refine gl xs.length (λi=>[(0,fI pages),(1,bK (bw .R xs)),(5,fN i)]) (λi=>du i (gW pages xs)=true) rfl λi e=>?_
 obtain⟨e,g⟩:=e;by_cases c:i<xs.length
 ·have j:=ar c
  have o:0<i->1<=(nth xs (i - 1)).a6/\(nth xs (i - 1)).a6<=pages/\0<=(nth xs (i - 1)).At/\(nth xs (i - 1)).At<=pages - (nth xs (i - 1)).a6:=λh=>Ao g ω
  cases b:rangeIn pages (nth xs i) with
  | false=>
   have a:=zn pages (nth xs i) d;rw[b]at a
   refine σE ?_
   exact bY ((by grind [cK,bJ,gW]))
  | true=>
   have a:=zn pages (nth xs i) d;rw[b]at a
   repeat'(first|refine gE ?_|refine gS (λl=>?_) (λl=>?_)|apply CO ω (aa (ia ω c)))
   all_goals first
    | exact bY ((by symm;unfold bJ;rw[cK c (by unfold gW;rw[b,Z0 ω];rfl)];rfl))
    | ((conv=>whnf);exact cV (i+1) ⟨ω,bX g (by unfold gW;rw[b,O0 ω];rfl)⟩)
 repeat'(first|refine gE ?_|apply CF (aK pages 1 32))
 grind [bJ]
theorem nE(pages:Int)(xs:List aC)(j:0<=pages/\pages<=1048576)(k:gC xs):zzA 78 false [.vI pages,.val none (bw .R xs)] .one [B (bJ pages xs)]:=by
 have n:=k.1;refine fO 43 [ρ 4 26 14] Tryz.func78 rfl ?_
 refine σP ?_
 refine gl xs.length (λi=>[(0,fI pages),(1,bK (bw .R xs)),(7,bK (bw .R xs)),(8,fI xs.length),(9,fN i)]) (λi=>du i (gW pages xs)=true) rfl λi d=>?_
 obtain⟨d,e⟩:=d;by_cases c:i<xs.length
 ·have g:=ar c
  have o:0<i->1<=(nth xs (i - 1)).a6/\(nth xs (i - 1)).a6<=pages/\0<=(nth xs (i - 1)).At/\(nth xs (i - 1)).At<=pages - (nth xs (i - 1)).a6:=λh=>Ao e ω
  have a:=zY pages (nth xs i) j;cases b:rangeIn pages (nth xs i) with
  | false=>
   rw[b]at a
   refine σE ?_
   exact bY ((by grind [cK,bJ,gW]))
  | true=>
   rw[b]at a
   repeat'(first|refine gE ?_|refine gS (λl=>?_) (λl=>?_)|apply CO ω (aa (ia ω c)))
   all_goals first
    | exact bY ((by symm;unfold bJ;rw[cK c (by unfold gW;rw[b,Z0 ω];rfl)];rfl))
    | ((conv=>whnf);exact cV (i+1) ⟨ω,bX e (by unfold gW;rw[b,O0 ω];rfl)⟩)
 repeat'(first|refine gE ?_|apply CF (aH pages 1 32))
 grind [bJ]
theorem Dw(xs:List aC)(page:Int)(g:xs.length<=9223372036854775807):zzA 126 false [.val none (bw .R xs),.vI page] .one [B (xs.any (y4 page))]:=by
 refine fO 34 [ρ 4 22 12] Tryz.func126 rfl ?_
 refine σP ?_
 refine gl xs.length (λi=>[(0,bK (bw .R xs)),(1,fI page),(5,fN i)]) (λi=>(xs.take i).any (y4 page)=false) ψ λi b=>?_
 obtain⟨b,c⟩:=b;by_cases d:i<xs.length
 ·have a:=ar d
  repeat'(first|refine gE ?_|refine gS (λe=>?_) (λe=>?_)|apply CR rfl)
  all_goals first
   | exact bY ((GK a (by unfold y4;rw[O0 ϑ,O0 ϑ];rfl)).symm)
   | ((conv=>whnf);exact cV (i+1) ⟨ω,AJ a c (by unfold y4;first|(rw[Z0 (by assumption:¬(nth xs i).At<=page)];rfl)|(rw[Z0 (by assumption:¬page<_)];simp))⟩)
 refine σE ?_
 exact bY ψ
def tdiv16(h:0<=z):z.tdiv 16=z / 16:=Int.tdiv_eq_ediv_of_nonneg h
theorem nI(z:Int):zzA 197 false [.vI z] .one [I (eJ z)]:=by
 refine fO 10 [] Tryz.func197 rfl ?_;by_cases b:9<=z/\z<=1000
 ·repeat'(first|refine gE ?_|refine gS (λa=>?_) (λa=>?_)|apply CF (aK z 9 1000)|apply CT qs|apply CR ((I1 _ (tdiv16 ω)).trans (fH ω ω)))
  grind [eJ]
 repeat'(first|refine gE ?_|refine gS (λa=>?_) (λa=>?_)|apply CF (aK z 9 1000))
 all_goals exact nr (by unfold eJ;rw[CI b])
theorem n7(z:Int):zzA 268 false [.vI z] .one [I (eJ z)]:=by
 refine fO 10 [] Tryz.func268 rfl ?_;by_cases b:9<=z/\z<=1000
 ·repeat'(first|refine gE ?_|refine gS (λa=>?_) (λa=>?_)|apply CF (aH z 9 1000)|apply CT qs|apply CR ((I1 _ (tdiv16 ω)).trans (fH ω ω)))
  grind [eJ]
 repeat'(first|refine gE ?_|refine gS (λa=>?_) (λa=>?_)|apply CF (aH z 9 1000))
 all_goals exact nr (by unfold eJ;rw[CI b])
def pk(l:aB):zzA 124 false [.val (some 3) (aB.enc .R l)] .one [B (bZ l)]:=by
 have a:=nI l.k;by_cases c:9<=l.k/\l.k<=1000
 ·rw[show eJ l.k=(l.k+15) / 16 from CJ c]at a
  refine fO 22 [] Tryz.func124 rfl ?_
  repeat'(first|refine gP ?_|refine gS (λb=>?_) (λb=>?_)|apply CF (aK _ 0 _))
  all_goals exact bY ((by unfold bZ;first|(symm;exact Z0 ω)|exact decide_eq_decide.2 ω))
 rw[show eJ l.k=0 from CI c]at a;refine fO 22 [] Tryz.func124 rfl ?_
 repeat'(first|refine gE ?_|refine gS (λb=>?_) (λb=>?_)|fail)
 all_goals exact bY ((by unfold bZ;symm;exact Z0 ω))
def pV(l:aB):zzA 161 false [.val (some 3) (aB.enc .R l)] .one [B (bZ l)]:=by
 have b:=n7 l.k;by_cases c:9<=l.k/\l.k<=1000
 ·rw[show eJ l.k=(l.k+15) / 16 from CJ c]at b
  refine fO 22 [ς19] Tryz.func161 rfl ?_
  repeat'(first|refine gE ?_|refine gS (λa=>?_) (λa=>?_)|apply CF (aH _ 9 1000)|apply CF (aH _ 0 _))
  all_goals exact bY ((by unfold bZ;first|(symm;exact Z0 ω)|exact decide_eq_decide.2 ω))
 refine fO 22 [ς19] Tryz.func161 rfl ?_
 repeat'(first|refine gE ?_|refine gS (λa=>?_) (λa=>?_)|apply CF (aH _ 9 1000))
 all_goals exact bY ((by unfold bZ;symm;exact Z0 ω))
theorem rY(h:0<=z/\z<=9223372036854775807):(BitVec.ofInt IntKind.i64.bits z).toNat=z.toNat:=by
 show(BitVec.ofInt 64 z).toNat=z.toNat
 grind
theorem and64(h1:0<=z1/\z1<=9223372036854775807)(h2:0<=z2/\z2<=9223372036854775807):IntKind.i64.wrap ((BitVec.ofInt IntKind.i64.bits z1 &&& BitVec.ofInt IntKind.i64.bits z2).toNat:Nat)=((z1.toNat &&& z2.toNat:Nat):Int):=by grind [rY,Nat.and_le_left,fH]
theorem MU(k:Int):lim k<=65535:=by grind [lim]
variable{s:a8}
def fV(h:bh s=true):0<=s.b0/\s.b0<=9223372036854775807:=by
 unfold bh at h;simp only[C0]at h;have:=MU s.a;omega
def nL(a b:a8):zzA 127 false [.val (some 3) (a8.enc .R a),.val (some 3) (a8.enc .R b)] .one [B (meshable a b)]:=by
 have e:=iw a;have g:=iw b;cases c:bh a<;>rw[c]at e<;>cases d:bh b<;>rw[d]at g
 all_goals
  refine fO 33 [] Tryz.func127 rfl ?_
  repeat'(first|refine gP ?_|refine gS (λh=>?_) (λh=>?_)|apply CR (and64 (fV c) (fV d)))
  all_goals exact bY ((by unfold meshable;rw[c,d];first|rfl|(symm;exact Z0 ω)|(rw[O9];simp;omega)))
def ny(a b:a8):zzA 165 false [.val (some 3) (a8.enc .R a),.val (some 3) (a8.enc .R b)] .one [B (meshable a b)]:=by
 have e:=ir a;have g:=ir b;cases c:bh a<;>rw[c]at e<;>cases d:bh b<;>rw[d]at g
 all_goals
  refine fO 33 [] Tryz.func165 rfl ?_
  repeat'(first|refine gP ?_|refine gS (λh=>?_) (λh=>?_)|apply CR (and64 (fV c) (fV d)))
  all_goals exact bY ((by unfold meshable;rw[c,d];first|rfl|(symm;exact Z0 ω)|(rw[O9];simp;omega)))
def Fa(k:Int):zzA 278 false [.vI k] .one [B (decide (0<=k/\k<=15))]:=by
 refine fO 5 [] Tryz.func278 rfl ?_
 repeat'(first|refine gP ?_|apply CF (aH k 0 15))
 rfl
def xE(p:cj)(e:cj.sml p):zzA 136 false [.val (some 3) (cj.enc .R p)] .one [B (fY p)]:=by
 have h:p.V.length<=1048576:=e;refine fO 51 [ρ 4 25 11] Tryz.func136 rfl ?_
 refine σP ?_
 refine gl p.V.length (λi=>[(1,bF (cj.enc .R p)),(3,fN i)]) (λi=>du i (oZ p.V)=true) rfl λi c=>?_
 obtain⟨c,d⟩:=c;by_cases a:i<p.V.length
 ·have g:=ar a
  repeat'(first|refine gE ?_|refine gS (λb=>?_) (λb=>?_)|apply CF (aK _ 0 15)|apply CO ω (aa (ia ω a)))
  all_goals first
   | exact bY ((by symm;unfold fY;rw[cK a (Z0 ω)];rfl))
   | ((conv=>whnf);exact cV (i+1) ⟨ω,bX d (O0 ω)⟩)
 obtain rfl:i=p.V.length:=ω
 repeat'(first|refine gE ?_|refine gS (λb=>?_) (λb=>?_)|apply CF (aK _ 0 31))
 all_goals exact bY ((by unfold fY;rw[d];simp only[Bool.true_and];first|(symm;exact Z0 ω)|exact decide_eq_decide.2 ω|(rw[O9];simp;omega)))
def yc(p:cj)(e:cj.sml p):zzA 177 false [.val (some 3) (cj.enc .R p)] .one [B (fY p)]:=by
 have h:p.V.length<=1048576:=e;refine fO 46 [] Tryz.func177 rfl ?_
 refine σP ?_
 refine gl p.V.length (λi=>[(1,bF (cj.enc .R p)),(6,bK (aE .R p.V)),(7,fI p.V.length),(8,fN i)]) (λi=>du i (oZ p.V)=true) rfl λi c=>?_
 obtain⟨c,d⟩:=c;by_cases a:i<p.V.length
 ·have g:=ar a
  repeat'(first|refine gE ?_|refine gS (λb=>?_) (λb=>?_)|apply CF (Fa _)|apply CO ω (aa (ia ω a)))
  all_goals first
   | exact bY ((by symm;unfold fY;rw[cK a (Z0 ω)];rfl))
   | ((conv=>whnf);exact cV (i+1) ⟨ω,bX d (O0 ω)⟩)
 obtain rfl:i=p.V.length:=ω
 repeat'(first|refine gE ?_|refine gS (λb=>?_) (λb=>?_)|apply CF (aH _ 0 31))
 all_goals exact bY ((by unfold fY;rw[d];simp only[Bool.true_and];first|(symm;exact Z0 ω)|exact decide_eq_decide.2 ω|(rw[O9];simp;omega)))
def By(j:cH)(a:cH.sml j):zzA 68 false [.val (some 5) (cH.enc .R j)] .one [B (kf j)]:=by
 have e:j.g.V.length<=1048576:=a;have b:=xE j.g a;cases c:fY j.g<;>rw[c]at b
 all_goals
  refine fO 20 [] Tryz.func68 rfl ?_
  repeat'(first|refine gP ?_|refine gS (λd=>?_) (λd=>?_)|apply CF (aK _ 0 5)|apply CF (aK _ 0 _))
  all_goals exact bY ((by unfold kf;rw[c];first|rfl|(symm;exact Z0 ω)|(rw[O9];simp;omega)))
def Be(j:cH)(a:cH.sml j):zzA 88 false [.val (some 5) (cH.enc .R j)] .one [B (kf j)]:=by
 have e:j.g.V.length<=1048576:=a;have b:=yc j.g a;cases c:fY j.g<;>rw[c]at b
 all_goals
  refine fO 20 [] Tryz.func88 rfl ?_
  repeat'(first|refine gP ?_|refine gS (λd=>?_) (λd=>?_)|apply CF (aH _ 0 5)|apply CF (aH _ 0 _))
  all_goals exact bY ((by unfold kf;rw[c];first|rfl|(symm;exact Z0 ω)|(rw[O9];simp;omega)))
theorem me(l:aB)(k:Nat):lpgs l (k+1)=lpgs l k++[l.S+(k:Nat)]:=by grind [List.range_succ,lpgs]
theorem Jl(l:aB)(k:Nat):(lpgs l k).length=k:=by unfold lpgs;simp
theorem Tq(l:aB)(h:k<=n):lpgs l k <+: lpgs l n:=by
 induction n with
 | zero=>
  grind
 | succ n a=>
  grind [me]
variable{la:List aB}
theorem qI(sp:List a8){l:aB}(h:la[i]? = some l):pgs sp (la.take (i+1))=pgs sp (la.take i)++lpgs l l.a2.toNat:=by grind [ZA,pgs]
theorem VI(sp:List a8)(la:List aB)(i:Nat):pgs sp (la.take i) <+: pgs sp la:=by grind [List.take_append_drop,pgs]
variable{S:List Int}
theorem U1{all:List Int}{p:Int}(h:(S++[p]) <+: all)(a:p∈S):decide all.Nodup=false:=by grind [List.nodup_append]
theorem mA{p:Int}(h:S.Nodup)(a:p∉S):(S++[p]).Nodup:=ψ
variable{sp:List a8}
theorem HO(h:sp[i]? = some s):((sp.take i).map (·.S)++[s.S]) <+: pgs sp la:=by
 have a:(sp.take i).map (·.S)++[s.S]=(sp.take (i+1)).map (·.S):=by grind [ZA]
 rw[a];refine List.IsPrefix.trans ?_ (List.prefix_append ..)
 grind
theorem EY{l:aB}(h:la[i]? = some l)(a:k<l.a2.toNat):(pgs sp (la.take i)++lpgs l k++[l.S+(k:Nat)]) <+: pgs sp la:=by
 refine List.IsPrefix.trans ?_ (VI sp la (i+1));rw[qI sp h,CB,<-me]
 grind [List.prefix_append_right_inj,Tq]
theorem sR(h:sp[i]? = some s)(a:bh s=false):bA sp la=false:=by grind [bA]
theorem ry{l:aB}(h:la[i]? = some l)(a:bZ l=false):bA sp la=false:=by grind [bA]
theorem lO{p:Int}(h:(S++[p]) <+: pgs sp la)(a:p∈S):bA sp la=false:=by grind [U1,bA]
theorem vD(h1:sp.all bh=true)(h2:la.all bZ=true)(a:(pgs sp la).Nodup):bA sp la=true:=by grind [bA]
theorem aV{l:aB}(h:bZ l=true):1<=l.a2/\l.a2<=63/\0<=l.S/\l.S<=31:=by grind [bZ]
theorem nz(sp:List a8)(la:List aB)(t:ee sp)(u:eC la):zzA 59 false [.val none (cf .R sp),.val none (cq .R la)] .one [B (bA sp la)]:=by
 have G:=t.1;have H:=u.1;refine fO 79 [] Tryz.func59 rfl ?_
 refine σP ?_
 refine lE (ι:=Nat × List Int) (λi=>[(0,bK (cf .R sp)),(1,bK (cq .R la)),(5,bK (aE .own i.2)),(6,fN (i.1))]) (λi=>i.1<=sp.length/\i.2=(sp.take i.1).map (·.S)/\(sp.take i.1).all bh=true/\i.2.Nodup) (λi=>sp.length - i.1) ((0,[])) ψ λi o=>?_
 obtain⟨i,S⟩:=i;obtain⟨o,q,d,h⟩:=o;simp only at o q d h |-;have J:S.length=i:=ψ
 by_cases w:i<sp.length
 ·have a:=ar w
  have j:=iw (nth sp i);cases e:bh (nth sp i)<;>rw[e]at j
  ·refine σE ?_
   exact bY ((sR a e).symm)
  repeat'(first|refine gE ?_|refine gS (λy=>?_) (λy=>?_)|refine CL (ov S _ ω) ⟨⟨rfl,dX _⟩,⟨rfl,rfl⟩,tV1⟩ ?_|refine Cb cx (λr C=>by rw[I2.1 C];rfl) ζ kd χ rfl ?_)
  all_goals first
   | exact bY ((lO (S:=S) (by rw[q];exact HO a) ϑ).symm)
   | ((conv=>whnf)
      refine CP (i+1,S++[(nth sp i).S]) ⟨τ,(by simp only;rw[q,ZA,a];simp),(df a d e),mA h ϑ⟩ τ ?_
      (exact wD))
 obtain rfl:i=sp.length:=ω
 rw[CA]at d q
 refine σE ?_
 refine lE (ι:=Nat × List Int) (λi=>[(1,bK (cq .R la)),(5,bK (aE .own i.2)),(7,fN (i.1))]) (λi=>i.1<=la.length/\i.2=pgs sp (la.take i.1)/\(la.take i.1).all bZ=true/\i.2.Nodup/\i.2.length<=1048576+64*i.1) (λi=>la.length - i.1) ((0,S)) (⟨C1 _,by grind [pgs],rfl,h,by simp only;omega⟩) λi o=>?_
 obtain⟨i,S2⟩:=i;obtain⟨D,l,b,g,E⟩:=o;simp only at D l b g E |-;by_cases w:i<la.length
 ·have a:=ar w
  have j:=pk (nth la i);cases e:bZ (nth la i)<;>rw[e]at j
  ·refine σE ?_
   exact bY ((ry a e).symm)
  have K:=aV e
  refine σE ?_
  refine lE (ι:=Nat × List Int) (λk=>[(1,bK (cq .R la)),(5,bK (aE .own k.2)),(7,fN i),(8,fN (k.1))]) (λk=>k.1<=(nth la i).a2.toNat/\k.2=S2++lpgs (nth la i) k.1/\k.2.Nodup) (λk=>(nth la i).a2.toNat - k.1) ((0,S2)) (⟨C1 _,by simp[lpgs],g⟩) λk F=>?_
  obtain⟨k,p⟩:=k;obtain⟨F,n,c⟩:=F;simp only at F n c |-;have L:p.length=S2.length+k:=by grind [Jl]
  by_cases M:k<(nth la i).a2.toNat
  ·repeat'(first|refine gE ?_|refine gS (λy=>?_) (λy=>?_)|refine CL (ov p _ ω) ⟨⟨rfl,dX _⟩,⟨rfl,rfl⟩,tV1⟩ ?_|refine Cb cx (λr C=>by rw[I2.1 C];rfl) ζ kd υ rfl ?_)
   all_goals first
    | exact bY ((lO (S:=p) (by rw[n,l];exact EY a M) ϑ).symm)
    | ((conv=>whnf)
       refine CP (k+1,p++[(nth la i).S+(k:Nat)]) ⟨τ,(by simp only;rw[n,me,CB]),mA c ϑ⟩ τ ?_
       (exact wD))
  obtain rfl:k=(nth la i).a2.toNat:=ω
  refine σE ?_
  (exact cV (i+1,p) ⟨τ,(by grind [qI]),(df a b e),c,τ⟩)
 obtain rfl:i=la.length:=ω
 rw[CA]at b l
 refine σE ?_
 exact bY ((vD d b ψ).symm)
def ins(S:List Int)(p:Int):List Int:=if p∈S then S else S++[p]
theorem Nk{p:Int} : ∀{S:List Int},p∈S->mput (gx S) p (.bool true)=gx S
 | x::S,h=>by
  simp only[gx,SB,mput];by_cases a:x=p
  ·rw[CJ a,a]
  rw[CI a];have:=Nk (S:=S) ((List.mem_cons.1 h).resolve_left λe=>a e.symm)
  grind [gx]
theorem BU(S:List Int)(p:Int):gx (ins S p)=mput (gx S) p (.bool true):=by grind [Nk,wS,ins]
theorem Tz(S:List Int)(p:Int):zzB 159 false [.vI p,.ptr [.m (gx S)]] [.vI p,.ptr [.m (gx (ins S p))]] .one [B (decide (p∉S))]:=by
 refine fM 12 [] [] [(0,0),(0,0)] Tryz.func159 rfl (λu q=>?_)
 repeat'(first|refine gP ?_|refine Ml.mk (pd p S) ?_|refine Mu.mk (BU S p) ?_)
 refine CM rfl ?_ ?_
 ·grind
 exact wB
theorem sJ(sp:List a8)(la:List aB)(t:ee sp)(u:eC la):zzA 79 false [.val none (cf .R sp),.val none (cq .R la)] .one [B (bA sp la)]:=by
 have E:=t.1;have F:=u.1;refine fP 54 [(159,[0,2])] [] Tryz.func79 rfl ?_
 refine σP ?_
 refine lE (ι:=Nat × List Int) (λi=>[(1,bK (cq .R la)),(5,bF [.m (gx i.2)]),(6,.fn 159 [5]),(14,bK (cf .R sp)),(15,fI sp.length),(16,fN (i.1))]) (λi=>i.1<=sp.length/\i.2=(sp.take i.1).map (·.S)/\(sp.take i.1).all bh=true/\i.2.Nodup) (λi=>sp.length - i.1) ((0,[])) ψ λi p=>?_
 obtain⟨i,S⟩:=i;obtain⟨p,r,e,j⟩:=p;simp only at p r e j |-;by_cases w:i<sp.length
 ·have c:=ar w
  have l:=ir (nth sp i);cases g:bh (nth sp i)<;>rw[g]at l
  ·refine σE ?_
   exact bY ((sR c g).symm)
  repeat'(first|refine gE ?_|refine gS (λy=>?_) (λy=>?_)|apply CN (Tz S _) (.inl rfl))
  all_goals first
   | exact bY ((lO (S:=S) (by rw[r];exact HO c) ψ).symm)
   |(have a:(nth sp i).S∉S:=by assumption
     (conv=>whnf)
     refine CP (i+1,ins S (nth sp i).S) ⟨τ,(by simp only;unfold ins;rw[CI a,r,ZA,c];simp),(df c e g),(by simp only;unfold ins;rw[CI a];exact mA j a)⟩ τ ?_
     (exact wA))
 obtain rfl:i=sp.length:=ω
 rw[CA]at e r
 refine σE ?_
 refine lE (ι:=Nat × List Int) (λi=>[(5,bF [.m (gx i.2)]),(6,.fn 159 [5]),(31,bK (cq .R la)),(32,fI la.length),(33,fN (i.1))]) (λi=>i.1<=la.length/\i.2=pgs sp (la.take i.1)/\(la.take i.1).all bZ=true/\i.2.Nodup) (λi=>la.length - i.1) ((0,S)) (⟨C1 _,by grind [pgs],rfl,j⟩) λi p=>?_
 obtain⟨i,S2⟩:=i;obtain⟨C,n,b,h⟩:=p;simp only at C n b h |-;by_cases w:i<la.length
 ·have c:=ar w
  have l:=pV (nth la i);cases g:bZ (nth la i)<;>rw[g]at l
  ·refine σE ?_
   exact bY ((ry c g).symm)
  have G:=aV g
  refine σE ?_
  refine lE (ι:=Nat × List Int) (λk=>[(5,bF [.m (gx k.2)]),(6,.fn 159 [5]),(10,bF (aB.enc .R (nth la i))),(11,fN (k.1)),(31,bK (cq .R la)),(32,fI la.length),(33,fN i)]) (λk=>k.1<=(nth la i).a2.toNat/\k.2=S2++lpgs (nth la i) k.1/\k.2.Nodup) (λk=>(nth la i).a2.toNat - k.1) ((0,S2)) (⟨C1 _,by simp[lpgs],h⟩) λk D=>?_
  obtain⟨k,q⟩:=k;obtain⟨D,o,d⟩:=D;simp only at D o d |-;by_cases H:k<(nth la i).a2.toNat
  ·repeat'(first|refine gE ?_|refine gS (λy=>?_) (λy=>?_)|apply CN (Tz q _) (.inl rfl))
   all_goals first
    | exact bY ((lO (S:=q) (by rw[o,n];exact EY c H) ψ).symm)
    |(have a:(nth la i).S+(k:Nat)∉q:=by assumption
      (conv=>whnf)
      refine CP (k+1,ins q ((nth la i).S+(k:Nat))) ⟨τ,(by simp only;unfold ins;rw[CI a,o,me,CB]),(by simp only;unfold ins;rw[CI a];exact mA d a)⟩ τ ?_
      (exact wA))
  obtain rfl:k=(nth la i).a2.toNat:=ω
  refine σE ?_
  (exact cV (i+1,q) ⟨τ,(by grind [qI]),(df c b g),d⟩)
 obtain rfl:i=la.length:=ω
 rw[CA]at b n
 refine σE ?_
 exact bY ((vD e b ψ).symm)
theorem aJ(h:bh s=true):0<=s.S/\s.S<=31/\0<=s.a/\s.a<=3:=by grind [bh]
theorem dd{k:Int}(h:0<=k/\k<=3):csz k=1\/csz k=2\/csz k=4\/csz k=8:=by
 obtain rfl|rfl|rfl|rfl:k=0\/k=1\/k=2\/k=3:=ω
 all_goals decide
def o8{x y:Int}(h:0<=x):x.tdiv y=x / y:=Int.tdiv_eq_ediv_of_nonneg h
def dy{x y:Int}(h:0<=x):x.tmod y=x % y:=Int.tmod_eq_emod_of_nonneg h
def S2(p:Int × Int):List C:=[I p.1,I p.2]
theorem Fy{p:Int × Int}(h:(a,b)=p):[I a,I b]=S2 p:=by subst h;rfl
theorem xQ(s:a8)(a:Int)(k:mP a):zzA 216 false [.val (some 3) (a8.enc .R s),.vI a] (.tup [none,none]) (S2 (jM s a)):=by
 have b:=iw s;have l:=eK s.a;obtain⟨n,o⟩:=k;cases c:bh s<;>rw[c]at b
 ·refine fO 33 [ςq] Tryz.func216 rfl ?_ (.inr ⟨tV1,tV1,tV1⟩)
  refine σP ?_
  exact Fy (by grind [jM,dm])
 have h:=aJ c;have i:=dd ⟨h.2.2.1,h.2.2.2⟩;by_cases d:16*s.S<=a/\a<=16*s.S+15
 ·have j:0<=a:=ω
  refine fO 33 [ςq] Tryz.func216 rfl ?_ (.inr ⟨tV1,tV1,tV1⟩)
  repeat'(first|refine gE ?_|refine gS (λg=>?_) (λg=>?_)|apply CT qs|apply CT ω|apply CR ((I1 _ (o8 j)).trans (fH ω ω))|apply CY (dy j)|apply CR ((I1 _ (o8 ω)).trans (fH (by rcases i with e|e|e|e<;>rw[e]<;>omega) (by rcases i with e|e|e|e<;>rw[e]<;>omega)))|apply CY (dy ω))
  all_goals grind [Fy,jM,dm]
 refine fO 33 [ςq] Tryz.func216 rfl ?_ (.inr ⟨tV1,tV1,tV1⟩)
 repeat'(first|refine gP ?_|refine gS (λg=>?_) (λg=>?_)|apply CT qs|apply CR ((I1 _ (o8 ω)).trans (fH ω ω)))
 all_goals first
  |exact Fy (by unfold jM dm;rw[c,Z0 d];rfl)
  |(exfalso;omega)
theorem KA(s:a8)(a:Int):zzA 272 false [.val (some 3) (a8.enc .R s),.vI a] (.tup [none,none]) (S2 (jM s a)):=by
 have b:=ir s;have j:=dx s.a;cases c:bh s<;>rw[c]at b
 ·refine fO 38 [ςr] Tryz.func272 rfl ?_ (.inr ⟨tV1,tV1,tV1⟩)
  refine σP ?_
  exact Fy (by grind [jM,dm])
 have h:=aJ c;have i:=dd ⟨h.2.2.1,h.2.2.2⟩;by_cases d:16*s.S<=a/\a<=16*s.S+15
 ·refine fO 38 [ςr] Tryz.func272 rfl ?_ (.inr ⟨tV1,tV1,tV1⟩)
  repeat'(first|refine gE ?_|refine gS (λg=>?_) (λg=>?_)|apply CF (aH _ _ _)|apply CT ω|apply CR ((I1 _ (o8 ω)).trans (fH (by rcases i with e|e|e|e<;>rw[e]<;>omega) (by rcases i with e|e|e|e<;>rw[e]<;>omega)))|apply CY (dy ω))
  grind [Fy,jM,dm]
 refine fO 38 [ςr] Tryz.func272 rfl ?_ (.inr ⟨tV1,tV1,tV1⟩)
 repeat'(first|refine gE ?_|refine gS (λg=>?_) (λg=>?_)|apply CF (aH _ _ _))
 all_goals exact Fy (by unfold jM dm;rw[c,Z0 d];rfl)
def sg(b i:Int):zzA 304 false [.vI b,.vI i] .one [B (decide (0<=b/\0<=i/\i<=15))]:=by
 refine fO 11 [] Tryz.func304 rfl ?_
 repeat'(first|refine gP ?_|refine gS (λa=>?_) (λa=>?_)|apply CF (aK _ 0 15))
 all_goals exact bY ((by first|(symm;exact Z0 ω)|exact decide_eq_decide.2 ω))
def rJ(b i:Int):zzA 356 false [.vI b,.vI i] .one [B (decide (0<=b/\0<=i/\i<=15))]:=by
 refine fO 11 [] Tryz.func356 rfl ?_
 repeat'(first|refine gP ?_|refine gS (λa=>?_) (λa=>?_)|apply CF (aH _ 0 15))
 all_goals exact bY ((by first|(symm;exact Z0 ω)|exact decide_eq_decide.2 ω))
theorem T9{i:Int}(a:0<=b/\b<=9223372036854775807)(e:0<=i/\i<=15):b.fdiv (2 ^ min i.toNat IntKind.i64.bits)=b / 2 ^ i.toNat/\0<=b / 2 ^ i.toNat/\b / 2 ^ i.toNat<=9223372036854775807:=by
 have d:min i.toNat IntKind.i64.bits=i.toNat:=Nat.min_eq_left (show i.toNat<=64 by omega);rw[d];have c:(0:Int)<=2 ^ i.toNat:=ψ
 refine⟨Int.fdiv_eq_ediv_of_nonneg _ c,Int.ediv_nonneg a.1 c,?_⟩;have:=Int.ediv_le_self (2 ^ i.toNat:Int) a.1;omega
theorem zV{i:Int}(a:0<=b)(c:0<=i/\i<=15):((((b / 2 ^ i.toNat).toNat &&& (1:Int).toNat:Nat):Int) == 1)=bg b i:=by
 have d:(0:Int)<=b / 2 ^ i.toNat:=Int.ediv_nonneg a ψ
 grind [bg]
theorem jy(b i:Int)(c:b<=9223372036854775807):zzA 231 false [.vI b,.vI i] .one [B (bg b i)]:=by
 by_cases h:0<=b/\0<=i/\i<=15
 ·obtain⟨d,g⟩:=T9 (b:=b) (i:=i) ⟨h.1,c⟩ h.2
  have j:IntKind.u64.wrap i=i:=by grind [Go.IntKind.wrap,Go.IntKind.bits]
  refine fO 16 [] Tryz.func231 rfl ?_
  repeat'(first|refine gE ?_|refine gS (λa=>?_) (λa=>?_)|apply CF (sg _ _)|apply CT ω|apply CR j|apply CY d|apply CR (and64 g ⟨by decide,by decide⟩))
  grind [zV]
 refine fO 16 [] Tryz.func231 rfl ?_
 repeat'(first|refine gE ?_|refine gS (λa=>?_) (λa=>?_)|apply CF (sg _ _))
 all_goals exact bY ((by unfold bg;symm;exact Z0 λe=>h ⟨e.1,e.2.1,e.2.2.1⟩))
theorem iB(b i:Int)(c:b<=9223372036854775807):zzA 273 false [.vI b,.vI i] .one [B (bg b i)]:=by
 by_cases h:0<=b/\0<=i/\i<=15
 ·obtain⟨d,g⟩:=T9 (b:=b) (i:=i) ⟨h.1,c⟩ h.2
  refine fO 15 [] Tryz.func273 rfl ?_
  repeat'(first|refine gE ?_|refine gS (λa=>?_) (λa=>?_)|apply CF (rJ _ _)|apply CT ω|apply CY d|apply CR (and64 g ⟨by decide,by decide⟩))
  grind [zV]
 refine fO 15 [] Tryz.func273 rfl ?_
 repeat'(first|refine gE ?_|refine gS (λa=>?_) (λa=>?_)|apply CF (rJ _ _))
 all_goals exact bY ((by unfold bg;symm;exact Z0 λe=>h ⟨e.1,e.2.1,e.2.2.1⟩))
theorem cL{l:aB}(h:bZ l=true):9<=l.k/\l.k<=1000/\0<=l.S/\l.S<=31:=by grind [bZ]
theorem sG(l:aB)(a:Int):zzA 232 false [.val (some 3) (aB.enc .R l),.vI a] .one [B (bR l a)]:=by
 have b:=pk l;cases c:bZ l<;>rw[c]at b
 ·refine fO 24 [] Tryz.func232 rfl ?_
  refine σP ?_
  exact bY ((by grind [bR]))
 have e:=cL c;refine fO 24 [] Tryz.func232 rfl ?_
 repeat'(first|refine gP ?_|refine gS (λd=>?_) (λd=>?_)|fail)
 all_goals exact bY ((by unfold bR;rw[c,Bool.true_and];first|(symm;exact Z0 ω)|exact decide_eq_decide.2 ω))
theorem sN(l:aB)(a:Int):zzA 274 false [.val (some 3) (aB.enc .R l),.vI a] .one [B (bR l a)]:=by
 have b:=pV l;cases c:bZ l<;>rw[c]at b
 ·refine fO 21 [] Tryz.func274 rfl ?_
  refine σP ?_
  exact bY ((by grind [bR]))
 have e:=cL c;refine fO 21 [] Tryz.func274 rfl ?_
 repeat'(first|refine gP ?_|refine gS (λd=>?_) (λd=>?_)|apply CF (aH _ _ _))
 grind [bR]
theorem wF(l:aB)(a:Int)(h:bR l a=true):zzA 233 false [.val (some 3) (aB.enc .R l),.vI a] .one [I (a - 16*l.S)]:=by
 have b:=sG l a;rw[h]at b;unfold bR at h;simp only[I0,C0]at h;have c:=cL h.1;refine fO 14 [] Tryz.func233 rfl ?_
 refine σP ?_
 grind
theorem wM(l:aB)(a:Int)(h:bR l a=true):zzA 275 false [.val (some 3) (aB.enc .R l),.vI a] .one [I (a - 16*l.S)]:=by
 have b:=sN l a;rw[h]at b;unfold bR at h;simp only[I0,C0]at h;have c:=cL h.1;refine fO 14 [] Tryz.func275 rfl ?_
 refine σP ?_
 grind
variable{m:aL}
theorem sr(a:i<m.T.length)(h:i7 m i=false):bE m=false:=by grind [cK,bE]
theorem B5(h:¬(1<=m.T.length/\m.T.length<=4/\m.w.length=m.T.length)):bE m=false:=by grind [bE]
theorem Dh(h1:1<=m.T.length/\m.T.length<=4/\m.w.length=m.T.length)(h2:du m.T.length (i7 m)=true):bE m=decide (bM m m.T.length<=30):=by grind [bE]
theorem np(m:aL)(h:aL.sml m):zzA 62 false [.val (some 2) (aL.enc .R m)] .one [B (bE m)]:=by
 have r:m.T.length<=1048576:=h.1.1;have t:m.w.length<=1048576:=h.2.1;by_cases u:1<=m.T.length/\m.T.length<=4/\m.w.length=m.T.length
 ·refine fO 92 [ρ 19 15 75] Tryz.func62 rfl ?_
  repeat'(first|refine gB ?_|refine gS (λa=>?_) (λa=>?_)|apply CF (aK _ 1 4))
  refine gl m.T.length (λi=>[(1,bF (aL.enc .R m)),(3,fI m.T.length),(4,fI (bM m i)),(5,fN i)]) (λi=>du i (i7 m)=true/\0<=bM m i/\bM m i<=2097152*i) ⟨rfl,by simp[bM],by simp[bM]⟩ λi n=>?_
  obtain⟨n,w,E,F⟩:=n;by_cases j:i<m.T.length
  ·have l:=ar j
   have o:=ar (xs:=m.w) (i:=i) ω;have y:(nth m.T i).length<=1048576:=(h.1.2 _ (ax j)).1;have C:(nth m.w i).length<=1048576:=h.2.2 _ ψ
   refine σE ?_
   refine gl ((nth m.T i).length) (λk=>[(1,bF (aL.enc .R m)),(3,fI m.T.length),(4,fI (bM m i)),(5,fN i),(6,fN k)]) (λk=>((nth m.T i).take k).all (oY m.T.length)=true) ψ λk p=>?_
   obtain⟨p,q⟩:=p;by_cases D:k<(nth m.T i).length
   ·have b:=ar D
    repeat'(first|refine gE ?_|refine gS (λa=>?_) (λa=>?_)|apply CF (aK _ 0 _))
    all_goals first
     | exact bY ((sr j (by unfold i7;rw[ip b (by unfold oY;exact Z0 ω)];rfl)).symm)
     | ((conv=>whnf);exact cV (k+1) ⟨ω,df b q (by unfold oY;exact O0 ω)⟩)
   have G:=pE ω q
   refine σE ?_
   refine gl ((nth m.w i).length) (λd=>[(1,bF (aL.enc .R m)),(3,fI m.T.length),(4,fI (bM m i)),(5,fN i),(8,fN d)]) (λd=>((nth m.w i).take d).all VT=true) ψ λd e=>?_
   obtain⟨e,ak2⟩:=e;by_cases lk2:d<(nth m.w i).length
   ·have b:=ar lk2
    repeat'(first|refine gE ?_|refine gS (λa=>?_) (λa=>?_)|fail)
    all_goals first
     | exact bY ((sr j (by unfold i7;rw[ip b (by unfold VT;exact Z0 ω)];simp)).symm)
     | ((conv=>whnf);exact cV (d+1) ⟨ω,df b ak2 (by unfold VT;exact O0 ω)⟩)
   have ae2:=pE ω ak2;have g:bM m (i+1)=bM m i+((nth m.T i).length+(nth m.w i).length):=rfl;have c:bM m (i+1)=bM m i+(nth m.T i).length+(nth m.w i).length:=by rw[g];omega
   refine σE ?_
   (refine CP (i+1) ⟨ω,bX w (by grind [i7]),ω,ω⟩ ω ?_)
   rw[c];exact wB
  obtain rfl:i=m.T.length:=ω
  refine σE ?_
  grind [Dh]
 refine fO 92 [ρ 19 15 75] Tryz.func62 rfl ?_
 repeat'(first|refine gP ?_|refine gS (λa=>?_) (λa=>?_)|apply CF (aK _ 1 4))
 all_goals first
  | exact bY ((B5 u).symm)
  |(exfalso;omega)
theorem mW(m:aL)(g:aL.sml m):zzA 81 false [.val (some 2) (aL.enc .R m)] .one [B (bE m)]:=by
 have q:m.T.length<=1048576:=g.1.1;have r:m.w.length<=1048576:=g.2.1;by_cases t:1<=m.T.length/\m.T.length<=4/\m.w.length=m.T.length
 ·refine fO 82 [ρ 20 15 64] Tryz.func81 rfl ?_
  repeat'(first|refine gB ?_|refine gS (λa=>?_) (λa=>?_)|apply CF (aH _ 1 4))
  refine gl m.T.length (λi=>[(1,bF (aL.enc .R m)),(3,fI m.T.length),(4,fI (bM m i)),(25,fI m.T.length),(26,fN i)]) (λi=>du i (i7 m)=true/\0<=bM m i/\bM m i<=2097152*i) ⟨rfl,by simp[bM],by simp[bM]⟩ λi n=>?_
  obtain⟨n,u,D,E⟩:=n;by_cases h:i<m.T.length
  ·have j:=ar h
   have l:=ar (xs:=m.w) (i:=i) ω;have w:(nth m.T i).length<=1048576:=(g.1.2 _ (ax h)).1;have y:(nth m.w i).length<=1048576:=g.2.2 _ ψ
   refine σE ?_
   refine gl ((nth m.T i).length) (λk=>[(1,bF (aL.enc .R m)),(3,fI m.T.length),(4,fI (bM m i)),(5,fN i),(25,fI m.T.length),(26,fN i),(33,bK (bL .R (nth m.T i))),(34,fI ((nth m.T i).length)),(35,fN k)]) (λk=>((nth m.T i).take k).all (oY m.T.length)=true) ψ λk o=>?_
   obtain⟨o,p⟩:=o;by_cases C:k<(nth m.T i).length
   ·have b:=ar C
    repeat'(first|refine gE ?_|refine gS (λa=>?_) (λa=>?_)|apply CF (aH _ 0 _))
    all_goals first
     | exact bY ((sr h (by unfold i7;rw[ip b (by unfold oY;exact Z0 ω)];rfl)).symm)
     | ((conv=>whnf);exact cV (k+1) ⟨ω,df b p (by unfold oY;exact O0 ω)⟩)
   have F:=pE ω p
   refine σE ?_
   refine gl ((nth m.w i).length) (λc=>[(1,bF (aL.enc .R m)),(3,fI m.T.length),(4,fI (bM m i)),(5,fN i),(25,fI m.T.length),(26,fN i),(55,bK (aE .R (nth m.w i))),(56,fI ((nth m.w i).length)),(57,fN c)]) (λc=>((nth m.w i).take c).all VT=true) ψ λc d=>?_
   obtain⟨d,ak2⟩:=d;by_cases lk2:c<(nth m.w i).length
   ·have b:=ar lk2
    repeat'(first|refine gE ?_|refine gS (λa=>?_) (λa=>?_)|fail)
    all_goals first
     | exact bY ((sr h (by unfold i7;rw[ip b (by unfold VT;exact Z0 ω)];simp)).symm)
     | ((conv=>whnf);exact cV (c+1) ⟨ω,df b ak2 (by unfold VT;exact O0 ω)⟩)
   have ae2:=pE ω ak2;have e:bM m (i+1)=bM m i+((nth m.T i).length+(nth m.w i).length):=rfl
   refine σE ?_
   (refine CP (i+1) ⟨ω,bX u (by grind [i7]),ω,ω⟩ ω ?_)
   rw[e];exact wB
  obtain rfl:i=m.T.length:=ω
  refine σE ?_
  grind [Dh]
 refine fO 82 [ρ 20 15 64] Tryz.func81 rfl ?_
 repeat'(first|refine gP ?_|refine gS (λa=>?_) (λa=>?_)|apply CF (aH _ 1 4))
 all_goals first
  | exact bY ((B5 t).symm)
  |(exfalso;omega)
def E7(h:dm s a=false):S2 (jM s a)=[I (-1),I (-1)]:=by
 unfold jM;rw[h];rfl
def Df(h:dm s a=true):S2 (jM s a)=[I ((a - 16*s.S) / csz s.a),I ((a - 16*s.S) % csz s.a)]:=by
 unfold jM;rw[h];rfl
theorem uQ(h:dm s a=true):bh s=true/\0<=(a - 16*s.S) / csz s.a/\(a - 16*s.S) / csz s.a<=15:=by
 unfold dm at h;simp only[I0,C0]at h;have b:=aJ h.1
 grind [dd]
def oT(b:i<sp.length)(h:dm (nth sp i) a=true)(c:∀(j:Nat)(z:a8),j<i->sp[j]? = some z->dm z a=false):denotes sp la a=pz i (nth sp i) a:=by
 unfold denotes;rw[yK (pr:=(dm · a)) (ar b) h c]
def nQ(b:sp.length<=n)(c:∀(j:Nat)(z:a8),j<n->sp[j]? = some z->dm z a=false)(d:i<la.length)(h:bR (nth la i) a=true)(e:∀(j:Nat)(z:aB),j<i->la[j]? = some z->bR z a=false) :
  denotes sp la a = ⟨3,i,0,a - 16*(nth la i).S⟩:=by
 unfold denotes;rw[Gm (pr:=(dm · a)) b c,yK (pr:=(bR · a)) (ar d) h e]
theorem BE(b:sp.length<=n)(c:∀(j:Nat)(z:a8),j<n->sp[j]? = some z->dm z a=false)(d:la.length<=k)(e:∀(j:Nat)(z:aB),j<k->la[j]? = some z->bR z a=false):denotes sp la a = ⟨0,0,0,0⟩:=by grind [Gm,denotes]
theorem pb(sp:List a8)(la:List aB)(a:Int)(d:ee sp)(e:eC la)(g:bA sp la=true)(C:mP a):zzA 132 false [.val none (cf .R sp),.val none (cq .R la),.vI a] .agg (kn.enc .own (denotes sp la a)):=by
 have D:=d.1;have E:=e.1;have p:=nz sp la d e;rw[g]at p;refine fO 67 [] Tryz.func132 rfl ?_ (.inr (kn.enc_fr _))
 refine σP ?_
 refine gl sp.length (λi=>[(0,bK (cf .R sp)),(1,bK (cq .R la)),(2,fI a),(6,bF ([I 0,I 0,I 0,I 0])),(7,fN i)]) (λi=>∀(j:Nat)(z:a8),j<i->sp[j]? = some z->dm z a=false) ψ λi q=>?_
 obtain⟨q,l⟩:=q;by_cases r:i<sp.length
 ·have h:=ar r
  have b:=xQ (nth sp i) a C;cases c:dm (nth sp i) a with
  | false=>
   rw[E7 c]at b
   repeat'(first|refine gE ?_|refine gS (λo=>?_) (λo=>?_)|fail)
   (exact cV (i+1) ψ)
  | true=>
   rw[Df c]at b;obtain⟨F,G,H⟩:=uQ c;have t:=jy (nth sp i).b0 ((a - 16*(nth sp i).S) / csz (nth sp i).a) (fV F).2;cases u:bg (nth sp i).b0 ((a - 16*(nth sp i).S) / csz (nth sp i).a)<;>rw[u]at t
   all_goals
    repeat'(first|refine gE ?_|refine gS (λo=>?_) (λo=>?_)|fail)
    all_goals(rw[oT r c l];unfold pz;rw[u];rfl)
 refine σE ?_
 refine gl la.length (λk=>[(1,bK (cq .R la)),(2,fI a),(6,bF ([I 0,I 0,I 0,I 0])),(11,fN k)]) (λk=>∀(j:Nat)(z:aB),j<k->la[j]? = some z->bR z a=false) ψ λk w=>?_
 obtain⟨w,y⟩:=w;by_cases B:k<la.length
 ·have h:=ar B
  have b:=sG (nth la k) a;cases c:bR (nth la k) a<;>rw[c]at b
  ·refine σE ?_
   (exact cV (k+1) ψ)
  repeat'(first|refine gE ?_|apply CF (wF (nth la k) a c))
  rw[nQ (n:=i) ω l B c y];rfl
 refine σE ?_
 rw[BE (n:=i) (k:=k) ω l ω y];rfl
theorem lV(sp:List a8)(la:List aB)(a:Int)(e:ee sp)(g:eC la):zzA 172 false [.val none (cf .R sp),.val none (cq .R la),.vI a] .agg (kn.enc .own (denotes sp la a)):=by
 have y:=e.1;have B:=g.1;refine fO 56 [] Tryz.func172 rfl ?_ (.inr (kn.enc_fr _))
 refine σP ?_
 refine gl sp.length (λi=>[(1,bK (cq .R la)),(2,fI a),(6,bF ([I 0,I 0,I 0,I 0])),(14,bK (cf .R sp)),(15,fI sp.length),(16,fN i)]) (λi=>∀(j:Nat)(z:a8),j<i->sp[j]? = some z->dm z a=false) ψ λi o=>?_
 obtain⟨o,h⟩:=o;by_cases p:i<sp.length
 ·have d:=ar p
  have b:=KA (nth sp i) a;cases c:dm (nth sp i) a with
  | false=>
   rw[E7 c]at b
   repeat'(first|refine gE ?_|refine gS (λl=>?_) (λl=>?_)|fail)
   (exact cV (i+1) ψ)
  | true=>
   rw[Df c]at b;obtain⟨C,D,E⟩:=uQ c;have q:=iB (nth sp i).b0 ((a - 16*(nth sp i).S) / csz (nth sp i).a) (fV C).2;cases r:bg (nth sp i).b0 ((a - 16*(nth sp i).S) / csz (nth sp i).a)<;>rw[r]at q
   all_goals
    repeat'(first|refine gE ?_|refine gS (λl=>?_) (λl=>?_)|fail)
    all_goals(rw[oT p c h];unfold pz;rw[r];rfl)
 refine σE ?_
 refine gl la.length (λk=>[(2,fI a),(6,bF ([I 0,I 0,I 0,I 0])),(39,bK (cq .R la)),(40,fI la.length),(41,fN k)]) (λk=>∀(j:Nat)(z:aB),j<k->la[j]? = some z->bR z a=false) ψ λk t=>?_
 obtain⟨t,u⟩:=t;by_cases w:k<la.length
 ·have d:=ar w
  have b:=sN (nth la k) a;cases c:bR (nth la k) a<;>rw[c]at b
  ·refine σE ?_
   (exact cV (k+1) ψ)
  repeat'(first|refine gE ?_|apply CF (wM (nth la k) a c))
  rw[nQ (n:=i) ω h w c u];rfl
 refine σE ?_
 rw[BE (n:=i) (k:=k) ω h ω u];rfl
section
variable{α:Type}
def qj(ag:Option Nat)(e:α->List C)(pr:α->Bool)(xs:List α):List (Option Nat × List C)->Kd->List C->Prop:=λL k rcs=>∃x,x∈xs/\L=[(ag,e x)]/\k=.one/\rcs=[B (pr x)]
end
def yz(xs:List aC)(pr:aC->Bool)(n:xs.length<=9223372036854775807):zzA 353 false [.val none (bw .R xs),.fn (mS Tryz.prog (qj (some 2) (aC.enc .R) pr xs))] .one [I (cu pr xs)]:=by
 refine fO 19 [] Tryz.func353 rfl ?_
 refine σP ?_
 refine gl xs.length (λi=>[(0,bK (bw .R xs)),(1,.fv (mS Tryz.prog (qj (some 2) (aC.enc .R) pr xs))),(7,fI xs.length),(8,fN i)]) (λi=>∀(j:Nat)(z:aC),j<i->xs[j]? = some z->pr z=false) (λj z h=>ω) λi e=>?_
 obtain⟨e,b⟩:=e;by_cases c:i<xs.length
 ·obtain⟨y,a⟩ : ∃y,xs[i]? = some y:=⟨_,Z3 c⟩
  repeat'(first|refine gE ?_|refine Fv.mk (k:=.one) (rcs:=[B (pr y)]) ⟨y,I3 a,rfl,rfl,rfl⟩ ?_|refine Bf.P (λl=>?_) (λl=>?_))
  ·exact nr (dJ a ‹_› b).symm
  (conv=>whnf)
  refine CP (i+1) ⟨ω,λj z h d=>?_⟩ ω ?_
  ·rcases Nat.lt_or_ge j i with g|g
   ·exact b j z g d
   obtain rfl:j=i:=ω
   rw[a]at d;cases d;assumption
  exact wB
 refine σE ?_
 exact nr (f8 ω b).symm
theorem ul(xs:List aC)(pr:aC->Bool)(a:xs.length<=9223372036854775807):zzA 269 false [.val none (bw .R xs),.fn (mS Tryz.prog (qj (some 2) (aC.enc .R) pr xs))] .one [B (xs.any pr)]:=by
 refine fO 9 [] Tryz.func269 rfl ?_
 repeat'(first|refine gP ?_|apply CF (yz xs pr a))
 grind [lZ]
def xH(r:aC)(page:Int):zzA 270 false [.val (some 2) (aC.enc .R r),.ptr [I page]] .one [B (y4 page r)]:=by
 refine fO 17 [] Tryz.func270 rfl ?_
 repeat'(first|refine gP ?_|refine gS (λa=>?_) (λa=>?_)|apply CR rfl)
 all_goals exact bY (by unfold y4;first|(rw[O0 (by assumption:r.At<=page)];simp;done)|(rw[Z0 (by assumption:¬r.At<=page)];rfl))
def Dk(xs:List aC)(page:Int)(a:xs.length<=9223372036854775807):zzA 164 false [.val none (bw .R xs),.vI page] .one [B (xs.any (y4 page))]:=by
 refine fO 8 [] Tryz.func164 rfl ?_
 repeat'(first|refine gP ?_|refine Cq.mk (qj (some 2) (aC.enc .R) (y4 page) xs) (xH default page).has (λL k rcs b=>?_) ?_|apply CF (ul xs (y4 page) a))
 ·obtain⟨x,-,rfl,rfl,rfl⟩:=b
  exact xH x page
 rfl
theorem yx(xs:List aO)(pr:aO->Bool)(g:xs.length<=9223372036854775807):zzA 395 false [.val none (cA .R xs),.fn (mS Tryz.prog (qj (some 3) (aO.enc .R) pr xs))] .one [I (cu pr xs)]:=by
 refine fO 19 [] Tryz.func395 rfl ?_
 refine σP ?_
 refine gl xs.length (λi=>[(0,bK (cA .R xs)),(1,.fv (mS Tryz.prog (qj (some 3) (aO.enc .R) pr xs))),(7,fI xs.length),(8,fN i)]) (λi=>∀(j:Nat)(z:aO),j<i->xs[j]? = some z->pr z=false) ψ λi b=>?_
 obtain⟨b,d⟩:=b;by_cases a:i<xs.length
 ·obtain⟨y,c⟩ : ∃y,xs[i]? = some y:=⟨_,Z3 a⟩
  repeat'(first|refine gE ?_|refine Fv.mk (k:=.one) (rcs:=[B (pr y)]) ⟨y,I3 c,rfl,rfl,rfl⟩ ?_|refine Bf.P (λe=>?_) (λe=>?_))
  ·grind [dJ]
  (conv=>whnf)
  exact cV (i+1) ψ
 refine σE ?_
 exact nr (f8 ω d).symm
theorem tI(xs:List aO)(pr:aO->Bool)(a:xs.length<=9223372036854775807):zzA 354 false [.val none (cA .R xs),.fn (mS Tryz.prog (qj (some 3) (aO.enc .R) pr xs))] .one [B (xs.any pr)]:=by
 refine fO 9 [] Tryz.func354 rfl ?_
 repeat'(first|refine gP ?_|apply CF (yx xs pr a))
 grind [lZ]
theorem Bd(xs:List a8)(pr:a8->Bool)(g:xs.length<=9223372036854775807):zzA 178 false [.val none (cf .R xs),.fn (mS Tryz.prog (qj (some 3) (a8.enc .R) pr xs))] .one [I (cu pr xs)]:=by
 refine fO 19 [] Tryz.func178 rfl ?_
 refine σP ?_
 refine gl xs.length (λi=>[(0,bK (cf .R xs)),(1,.fv (mS Tryz.prog (qj (some 3) (a8.enc .R) pr xs))),(7,fI xs.length),(8,fN i)]) (λi=>∀(j:Nat)(z:a8),j<i->xs[j]? = some z->pr z=false) ψ λi b=>?_
 obtain⟨b,d⟩:=b;by_cases a:i<xs.length
 ·obtain⟨y,c⟩ : ∃y,xs[i]? = some y:=⟨_,Z3 a⟩
  repeat'(first|refine gE ?_|refine Fv.mk (k:=.one) (rcs:=[B (pr y)]) ⟨y,I3 c,rfl,rfl,rfl⟩ ?_|refine Bf.P (λe=>?_) (λe=>?_))
  ·grind [dJ]
  (conv=>whnf)
  exact cV (i+1) ψ
 refine σE ?_
 exact nr (f8 ω d).symm
theorem kJ(xs:List bc)(pr:bc->Bool)(g:xs.length<=9223372036854775807):zzA 147 false [.val none (m6 .R xs),.fn (mS Tryz.prog (qj (some 4) (bc.enc .R) pr xs))] .one [I (cu pr xs)]:=by
 refine fO 19 [] Tryz.func147 rfl ?_
 refine σP ?_
 refine gl xs.length (λi=>[(0,bK (m6 .R xs)),(1,.fv (mS Tryz.prog (qj (some 4) (bc.enc .R) pr xs))),(7,fI xs.length),(8,fN i)]) (λi=>∀(j:Nat)(z:bc),j<i->xs[j]? = some z->pr z=false) ψ λi b=>?_
 obtain⟨b,d⟩:=b;by_cases a:i<xs.length
 ·obtain⟨y,c⟩ : ∃y,xs[i]? = some y:=⟨_,Z3 a⟩
  repeat'(first|refine gE ?_|refine Fv.mk (k:=.one) (rcs:=[B (pr y)]) ⟨y,I3 c,rfl,rfl,rfl⟩ ?_|refine Bf.P (λe=>?_) (λe=>?_))
  ·grind [dJ]
  (conv=>whnf)
  exact cV (i+1) ψ
 refine σE ?_
 exact nr (f8 ω d).symm
theorem xv(xs:List bc)(pr:bc->Bool)(a:xs.length<=9223372036854775807):zzA 170 false [.val none (m6 .R xs),.fn (mS Tryz.prog (qj (some 4) (bc.enc .R) pr xs))] .one [B (xs.any pr)]:=by
 refine fO 9 [] Tryz.func170 rfl ?_
 repeat'(first|refine gP ?_|apply CF (kJ xs pr a))
 grind [lZ]
def VM(a:k<=3):IntKind.i64.wrap (1*2 ^ min ((k:Nat):Int).toNat IntKind.i64.bits)=csz (k:Nat):=by
 obtain rfl|rfl|rfl|rfl:k=0\/k=1\/k=2\/k=3:=ω
 all_goals decide
theorem UW(a:k<=100):IntKind.u64.wrap (k:Nat)=(k:Nat):=by grind [Go.IntKind.wrap,Go.IntKind.bits]
theorem Hb(a:k<=3)(h:csz (k:Nat)<z)(b:z<=8):k<=2:=by
 have c:csz ((3:Nat):Int)=8:=by decide
 grind
theorem zj(a:k<=3)(h1:1<=z)(h2:k=0\/csz ((k - 1:Nat):Int)<z)(b:¬csz (k:Nat)<z):aP z=(k:Nat):=by
 have c:csz ((0:Nat):Int)=1:=by decide
 have d:csz ((1:Nat):Int)=2:=by decide
 have e:csz ((2:Nat):Int)=4:=by decide
 have f:csz ((3:Nat):Int)=8:=by decide
 unfold aP;obtain rfl|rfl|rfl|rfl:k=0\/k=1\/k=2\/k=3:=ω
 all_goals grind
def lX(z:Int):zzA 96 false [.vI z] .one [I (aP z)]:=by
 refine fO 15 [] Tryz.func96 rfl ?_;by_cases c:1<=z/\z<=8
 ·repeat'(first|refine gE ?_|refine gS (λb=>?_) (λb=>?_)|apply CF (aK z 1 8))
  refine lE (λk:Nat=>[(0,fI z),(3,fN k)]) (λk=>k<=3/\(k=0\/csz ((k - 1:Nat):Int)<z)) (λk=>4 - k) (0) ω λk a=>?_
  obtain⟨a,h2⟩:=a
  repeat'(first|refine gP ?_|refine gS (λb=>?_) (λb=>?_)|apply CR (UW ω)|apply CR (VM a)|apply CT ω)
  all_goals first
   | exact nr (zj a c.1 h2 ϑ).symm
   | ((conv=>whnf);exact cV (k+1) ⟨by have:=Hb a ϑ c.2;omega,.inr (by simpa using (by assumption:csz (k:Nat)<z))⟩ (h2:=(by have:=Hb a ϑ c.2;omega)))
 repeat'(first|refine gE ?_|refine gS (λb=>?_) (λb=>?_)|apply CF (aK z 1 8))
 all_goals exact nr (by unfold aP;(repeat' split)<;>omega)
def lS(z:Int):zzA 173 false [.vI z] .one [I (aP z)]:=by
 refine fO 14 [] Tryz.func173 rfl ?_;by_cases c:1<=z/\z<=8
 ·repeat'(first|refine gE ?_|refine gS (λa=>?_) (λa=>?_)|apply CF (aH z 1 8))
  refine lE (λk:Nat=>[(0,fI z),(3,fN k)]) (λk=>k<=3/\(k=0\/csz ((k - 1:Nat):Int)<z)) (λk=>4 - k) (0) ω λk b=>?_
  obtain⟨b,h2⟩:=b
  repeat'(first|refine gP ?_|refine gS (λa=>?_) (λa=>?_)|apply CF (dx _))
  all_goals first
   | exact nr (zj b c.1 h2 ϑ).symm
   | ((conv=>whnf);exact cV (k+1) ⟨by have:=Hb b ϑ c.2;omega,.inr (by simpa using (by assumption:csz (k:Nat)<z))⟩ (h2:=(by have:=Hb b ϑ c.2;omega)))
 repeat'(first|refine gE ?_|refine gS (λa=>?_) (λa=>?_)|apply CF (aH z 1 8))
 all_goals exact nr (by unfold aP;(repeat' split)<;>omega)
theorem uA(q:bz)(a:Int)(d:bz.sml q):zzA 129 false [.val (some 2) (bz.enc .R q),.vI a] .one [B (q.a0.any (fg a))]:=by
 have j:q.a0.length<=1048576:=d.1;refine fO 21 [] Tryz.func129 rfl ?_
 refine σP ?_
 refine gl q.a0.length (λi=>[(1,fI a),(2,bF (bz.enc .R q)),(5,fN i)]) (λi=>(q.a0.take i).any (fg a)=false) ψ λi c=>?_
 obtain⟨c,e⟩:=c;by_cases g:i<q.a0.length
 ·have b:=ar g
  repeat'(first|refine gE ?_|refine gS (λh=>?_) (λh=>?_)|fail)
  all_goals first
   | exact bY ((GK b (O0 ϑ)).symm)
   | ((conv=>whnf);exact cV (i+1) ⟨ω,AJ b e (Z0 ϑ)⟩)
 refine σE ?_
 exact bY ψ
def jW(xs:List aO)(i:Nat):quarCells xs (i+1)=quarCells xs i+csz (nth xs i).a:=rfl
theorem RV(k:Int):0<=csz k/\csz k<=8:=by grind [dd,csz]
theorem xF(xs:List aO)(c:mK xs):zzA 130 false [.val none (cA .R xs)] .one [I (quarCells xs xs.length)]:=by
 have g:=c.1;refine fO 20 [] Tryz.func130 rfl ?_
 refine σP ?_
 refine gl xs.length (λi=>[(0,bK (cA .R xs)),(3,fI (quarCells xs i)),(4,fN i)]) (λi=>0<=quarCells xs i/\quarCells xs i<=8*i) ⟨by simp[quarCells],by simp[quarCells]⟩ λi b=>?_
 obtain⟨b,h,j⟩:=b;by_cases d:i<xs.length
 ·have e:=ar d
  have k:=RV (nth xs i).a;have a:=jW xs i
  repeat'(first|refine gE ?_|apply CF (eK _))
  (refine CP (i+1) ω ω ?_)
  rw[a];exact wB
 refine σE ?_
 grind
theorem qU(xs:List aO)(c:mK xs):zzA 167 false [.val none (cA .R xs)] .one [I (quarCells xs xs.length)]:=by
 have g:=c.1;refine fO 19 [] Tryz.func167 rfl ?_
 refine σP ?_
 refine gl xs.length (λi=>[(3,fI (quarCells xs i)),(6,bK (cA .R xs)),(7,fI xs.length),(8,fN i)]) (λi=>0<=quarCells xs i/\quarCells xs i<=8*i) ⟨by simp[quarCells],by simp[quarCells]⟩ λi b=>?_
 obtain⟨b,h,j⟩:=b;by_cases d:i<xs.length
 ·have e:=ar d
  have k:=RV (nth xs i).a;have a:=jW xs i
  repeat'(first|refine gE ?_|apply CF (dx _))
  (refine CP (i+1) ω ω ?_)
  rw[a];exact wB
 refine σE ?_
 grind
def EI(a:aO):zzA 128 false [.val (some 3) (aO.enc .R a)] .one [B (decide (0<=a.a/\a.a<=3/\0<=a.U/\0<=a.b7))]:=by
 refine fO 16 [] Tryz.func128 rfl ?_
 repeat'(first|refine gP ?_|refine gS (λb=>?_) (λb=>?_)|apply CF (aK _ 0 3))
 all_goals exact bY ((by first|(symm;exact Z0 ω)|exact decide_eq_decide.2 ω))
variable{xs:List aO}
theorem R3(a:mK xs)(i:Nat):mK (xs.take i):=⟨by have:=a.1;grind,λ_ _=>tV1⟩
def rn(q:bz)(a:bz.sml q):zzA 63 false [.val (some 2) (bz.enc .R q)] .one [B (gj q)]:=by
 have l:q.a0.length<=1048576:=a.1;refine fO 57 [ρ 5 29 17,ρ 7 11 46] Tryz.func63 rfl ?_
 refine σP ?_
 refine gl q.a0.length (λi=>[(1,bF (bz.enc .R q)),(3,fN i)]) (λi=>du i (lN q.a0)=true) rfl λi e=>?_
 obtain⟨e,g⟩:=e;by_cases b:i<q.a0.length
 ·have j:=ar b
  have h:=uA ⟨0,q.a0.take i⟩ (nth q.a0 i).U (R3 a i);cases c:(q.a0.take i).any (fg (nth q.a0 i).U)<;>rw[show(bz.mk 0 (q.a0.take i)).a0.any (fg (nth q.a0 i).U)=_ from c]at h
  all_goals
   repeat'(first|refine gE ?_|refine gS (λd=>?_) (λd=>?_)|apply CF (EI _)|apply CO ω (aa (ia ω b))|refine Ca i rfl kd (λr k=>by obtain⟨z,-,rfl⟩:=O8.1 k;rfl) (C8 ..) ?_)
   all_goals first
    | exact bY ((by symm;unfold gj;rw[cK b (by unfold lN;first|(rw[c];simp;done)|(rw[Z0 ω];rfl))];rfl))
    | ((conv=>whnf);exact cV (i+1) ⟨ω,bX g (by unfold lN;rw[c,O0 ω];rfl)⟩)
 obtain rfl:i=q.a0.length:=ω
 repeat'(first|refine gE ?_|refine gS (λd=>?_) (λd=>?_)|apply CF (aK _ 0 500)|apply CF (xF q.a0 a))
 all_goals exact bY ((by unfold gj;rw[g];simp only[Bool.true_and];first|(symm;exact Z0 ω)|exact decide_eq_decide.2 ω))
theorem yf(b:aO)(a:Int):zzA 355 false [.val (some 3) (aO.enc .R b),.ptr [I a]] .one [B (fg a b)]:=by
 refine fO 8 [] Tryz.func355 rfl ?_
 refine σP ?_
 grind [fg]
def Eb(xs:List aO)(a:Int)(b:xs.length<=9223372036854775807):zzA 271 false [.val none (cA .R xs),.vI a] .one [B (xs.any (fg a))]:=by
 refine fO 8 [] Tryz.func271 rfl ?_
 repeat'(first|refine gP ?_|refine Cq.mk (qj (some 3) (aO.enc .R) (fg a) xs) (yf default a).has (λL k rcs c=>?_) ?_|apply CF (tI xs (fg a) b))
 ·obtain⟨y,-,rfl,rfl,rfl⟩:=c
  exact yf y a
 rfl
def ns(xs:List aO)(a:aO):Bool:=decide (0<=a.a/\a.a<=3/\0<=a.U/\0<=a.b7/\(xs.length=0\/(nth xs (xs.length - 1)).b7<=a.b7))&&!xs.any (fg a.U)
theorem wj(xs:List aO)(b:aO)(g:xs.length<=1048576):zzA 166 false [.val none (cA .R xs),.val (some 3) (aO.enc .R b)] .one [B (ns xs b)]:=by
 have c:=Eb xs b.U ω;cases d:xs.any (fg b.U)<;>rw[d]at c
 ·by_cases h:xs.length=0
  ·refine fO 40 [ςs] Tryz.func166 rfl ?_
   repeat'(first|refine gP ?_|refine gS (λa=>?_) (λa=>?_)|apply CF (gc _))
   all_goals first
    | exact bY ((by unfold ns;rw[d,Bool.not_false,Bool.and_true];first|(symm;exact Z0 ω)|(symm;exact O0 ω)|exact decide_eq_decide.2 ω))
    |(exfalso;omega)
    |trace_state
  have e:xs[((xs.length:Int) - 1).toNat]? = some (nth xs (xs.length - 1)):=by rw[show((xs.length:Int) - 1).toNat=xs.length - 1 by omega];grind [ar]
  refine fO 40 [ςs] Tryz.func166 rfl ?_
  repeat'(first|refine gP ?_|refine gS (λa=>?_) (λa=>?_)|apply CF (gc _)|apply CO ω (aa e))
  all_goals first
   | exact bY ((by unfold ns;rw[d,Bool.not_false,Bool.and_true];first|(symm;exact Z0 ω)|(symm;exact O0 ω)|exact decide_eq_decide.2 ω))
   |(exfalso;omega)
   |trace_state
 refine fO 40 [ςs] Tryz.func166 rfl ?_
 repeat'(first|refine gP ?_|refine gS (λa=>?_) (λa=>?_)|apply CF (gc _))
 all_goals exact bY ((by unfold ns;rw[d];simp))
theorem MM(d:i<xs.length):ns (xs.take i) (nth xs i)=lN xs i:=by
 unfold ns lN;have a:(xs.take i).length=i:=ψ
 rw[a]
 congr 1
 refine decide_eq_decide.2 ?_;by_cases b:i=0
 ·subst b;simp
 have c:nth (xs.take i) (i - 1)=nth xs (i - 1):=by
  have:=ar (xs:=xs) (i:=i - 1) ω
  grind [bk]
 rw[c]
theorem qF(q:bz)(d:bz.sml q):zzA 82 false [.val (some 2) (bz.enc .R q)] .one [B (gj q)]:=by
 have l:q.a0.length<=1048576:=d.1;refine fO 32 [ρ 4 7 13,ρ 7 11 21] Tryz.func82 rfl ?_
 refine σP ?_
 refine gl q.a0.length (λi=>[(1,bF (bz.enc .R q)),(6,bK (cA .R q.a0)),(7,fI q.a0.length),(8,fN i)]) (λi=>du i (lN q.a0)=true) rfl λi e=>?_
 obtain⟨e,g⟩:=e;by_cases a:i<q.a0.length
 ·have h:=ar a
  have b:=wj (q.a0.take i) (nth q.a0 i) ψ;rw[MM a]at b;cases c:lN q.a0 i<;>rw[c]at b
  all_goals
   repeat'(first|refine gE ?_|refine Ca i rfl kd (λr j=>by obtain⟨z,-,rfl⟩:=O8.1 j;rfl) (C8 ..) ?_)
   all_goals first
    | exact bY ((by symm;unfold gj;rw[cK a c];rfl))
    | ((conv=>whnf);exact cV (i+1) ⟨ω,bX g c⟩)
 obtain rfl:i=q.a0.length:=ω
 repeat'(first|refine gE ?_|refine gS (λk=>?_) (λk=>?_)|apply CF (aH _ 0 500)|apply CF (qU q.a0 d))
 all_goals exact bY ((by unfold gj;rw[g];simp only[Bool.true_and];first|(symm;exact Z0 ω)|exact decide_eq_decide.2 ω))
def y2(h:ac):Prop:=aM.sml h.G.F.O
def jb(h:ac)(p:Int)(a:y2 h):zzA 125 false [ν h,.vI p] .one (aE .own (aS h p)):=by
 refine fO 23 [] Tryz.func125 rfl ?_ (.inr (bH _))
 repeat'(first|refine σQ ?_|refine gS (λb=>?_) (λb=>?_)|refine CF (cZ h.G.F.O p a) ?_|refine CF (iC h.G.F.O _ a) ?_)
 all_goals(unfold aS;first|rw[CJ ϑ]|rw[CI ϑ])
 all_goals exact⟨rfl,tV1⟩
def l7(h:ac)(p:Int)(a:y2 h):zzA 162 false [ν h,.vI p] .one (aE .own (aS h p)):=by
 refine fO 22 [] Tryz.func162 rfl ?_ (.inr (bH _))
 repeat'(first|refine σQ ?_|refine gS (λb=>?_) (λb=>?_)|refine CF (cG h.G.F.O p a) ?_|refine CF (lP h.G.F.O _ a) ?_)
 all_goals(unfold aS;first|rw[CJ ϑ]|rw[CI ϑ])
 all_goals exact⟨rfl,tV1⟩
theorem fp(k:ah)(p:Int)(a:aM.sml k.F.O):zzA 163 false [.val (some 5) (ah.enc .R k),.vI p] .one [B (decide ((au k.F.O p).y≠0))]:=by
 refine fO 12 [] Tryz.func163 rfl ?_
 repeat'(first|refine gP ?_|apply CF (cG k.F.O p a))
 grind
def qE(z:Int):zzA 86 false [.vI z] .one [B (decide (0<=z/\z<=1073741823))]:=by
 refine fO 5 [] Tryz.func86 rfl ?_
 repeat'(first|refine gP ?_|apply CF (aH z 0 1073741823))
 rfl
theorem lf(h:ac)(p:Int)(g:h.H.length<=1048576):zzA 69 false [ν h,.vI p] .one [I (iu h p)]:=by
 refine fO 22 [] Tryz.func69 rfl ?_
 refine σP ?_
 refine gl h.H.length (λi=>[(1,fI p),(2,bF (ac.enc .R h)),(5,fN i)]) (λi=>∀(j:Nat)(z:a8),j<i->h.H[j]? = some z->nH p z=false) ψ λi c=>?_
 obtain⟨c,a⟩:=c;by_cases d:i<h.H.length
 ·have b:=ar d
  repeat'(first|refine gE ?_|refine gS (λe=>?_) (λe=>?_)|fail)
  all_goals first
   | exact nr (dJ b (O0 ϑ) a).symm
   | ((conv=>whnf);exact cV (i+1) ⟨ω,fh b (Z0 ϑ) a⟩)
 refine σE ?_
 exact nr (f8 ω a).symm
theorem EW(s:a8)(p:Int):zzA 179 false [.val (some 3) (a8.enc .R s),.ptr [I p]] .one [B (nH p s)]:=by
 refine fO 8 [] Tryz.func179 rfl ?_
 refine σP ?_
 grind [nH]
def yo(h:ac)(p:Int)(b:h.H.length<=1048576):zzA 89 false [ν h,.vI p] .one [I (iu h p)]:=by
 refine fO 9 [] Tryz.func89 rfl ?_
 repeat'(first|refine gP ?_|refine Cq.mk (qj (some 3) (a8.enc .R) (nH p) h.H) (EW default p).has (λL k rcs a=>?_) ?_|apply CF (Bd h.H (nH p) ω))
 ·obtain⟨y,-,rfl,rfl,rfl⟩:=a
  exact EW y p
 rfl
def flight1(m:aL)(i:Nat):List Int:=(m.T.take i).flatMap λl=>l.map (·.U)
def flight2(m:aL)(i:Nat):List Int:=(m.w.take i).flatten
theorem pP{l:List cX}(h:m.T[i]? = some l):flight1 m (i+1)=flight1 m i++l.map (·.U):=by grind [ZA,flight1]
theorem oX(h:m.w[i]? = some l):flight2 m (i+1)=flight2 m i++l:=by grind [ZA,flight2]
theorem qL(h:bE m=true):aR m=flight1 m m.T.length++flight2 m m.w.length:=by grind [aR,flight1,flight2]
theorem x8(h:bE m=false):aR m=[]:=by grind [aR]
theorem wd(h:bE m=true):1<=m.T.length/\m.T.length<=4/\m.w.length=m.T.length:=by grind [bE]
def Li : ∀r∈l.map (rI .R),r.length=1:=by
 intro r a;obtain⟨z,-,rfl⟩:=O8.1 a;rfl
def Nz : ∀r∈l.map (rI .R),br r=true:=by
 intro r a;obtain⟨z,-,rfl⟩:=O8.1 a;rfl
theorem Ek(m:aL)(g:aL.sml m):zzA 134 false [.val (some 2) (aL.enc .R m)] .one (aE .own (aR m)):=by
 have h:=np m g;cases d:bE m<;>rw[d]at h
 ·refine fO 56 [] Tryz.func134 rfl ?_ (.inr (bH _))
  repeat'(first|refine σQ ?_|refine CF h ?_)
  all_goals(rw[x8 d];exact⟨rfl,tV1⟩)
 obtain⟨C,D,E⟩:=wd d;refine fO 56 [] Tryz.func134 rfl ?_ (.inr (bH _))
 refine σP ?_
 refine lE (ι:=Nat × List Int) (λi=>[(1,bF (aL.enc .R m)),(3,bK (aE .own i.2)),(4,fN (i.1))]) (λi=>i.1<=m.T.length/\i.2=flight1 m i.1/\i.2.length<=1048576*i.1) (λi=>m.T.length - i.1) ((0,[])) (⟨C1 _,rfl,C1 _⟩) λi j=>?_
 obtain⟨i,S⟩:=i;obtain⟨j,p,t⟩:=j;simp only at j p t |-;by_cases q:i<m.T.length
 ·have l:=ar q
  have u:(nth m.T i).length<=1048576:=(g.1.2 _ (ax q)).1
  refine σE ?_
  refine lE (ι:=Nat × List Int) (λk=>[(1,bF (aL.enc .R m)),(3,bK (aE .own k.2)),(4,fN i),(5,fN (k.1))]) (λk=>k.1<=(nth m.T i).length/\k.2=S++((nth m.T i).take k.1).map (·.U)) (λk=>(nth m.T i).length - k.1) ((0,S)) ψ λk b=>?_
  obtain⟨k,c⟩:=k;obtain⟨b,a⟩:=b;simp only at b a |-;have w:c.length=S.length+k:=ψ
  by_cases e:k<(nth m.T i).length
  ·have n:=ar e
   repeat'(first|refine gE ?_|refine Cb cx (λr y=>by rw[I2.1 y];rfl) ζ kd υ rfl ?_)
   ((conv=>whnf)
    refine CP (k+1,c++[(nth (nth m.T i) k).U]) ⟨τ,(by grind [ZA])⟩ τ ?_
    (exact wD))
  obtain rfl:k=(nth m.T i).length:=ω
  rw[CA]at a
  refine σE ?_
  (exact cV (i+1,c) ⟨τ,(by grind [pP]),τ⟩)
 obtain rfl:i=m.T.length:=ω
 refine σE ?_
 refine lE (ι:=Nat × List Int) (λk=>[(1,bF (aL.enc .R m)),(3,bK (aE .own k.2)),(6,fN (k.1))]) (λk=>k.1<=m.w.length/\k.2=S++flight2 m k.1/\k.2.length<=S.length+1048576*k.1) (λk=>m.w.length - k.1) ((0,S)) (⟨C1 _,by simp[flight2],by simp⟩) λk b=>?_
 obtain⟨k,c⟩:=k;obtain⟨b,a,o⟩:=b;simp only at b a o |-;by_cases e:k<m.w.length
 ·have n:=ar e
  have B:(nth m.w k).length<=1048576:=g.2.2 _ (ax e)
  repeat'(first|refine gE ?_|refine Cb cx Li (λ_=>Nz) kd υ rfl ?_)
  ((conv=>whnf)
   refine CP (k+1,c++nth m.w k) ⟨τ,(by grind [oX]),ψ⟩ τ ?_
   (exact wD))
 obtain rfl:k=m.w.length:=ω
 refine σE ?_
 rw[qL d,<-p,<-a];rfl
theorem Ep(m:aL)(g:aL.sml m):zzA 175 false [.val (some 2) (aL.enc .R m)] .one (aE .own (aR m)):=by
 have h:=mW m g;cases d:bE m<;>rw[d]at h
 ·refine fO 46 [] Tryz.func175 rfl ?_ (.inr (bH _))
  repeat'(first|refine σQ ?_|refine CF h ?_)
  all_goals(rw[x8 d];exact⟨rfl,tV1⟩)
 obtain⟨C,D,E⟩:=wd d;refine fO 46 [] Tryz.func175 rfl ?_ (.inr (bH _))
 refine σP ?_
 refine lE (ι:=Nat × List Int) (λi=>[(1,bF (aL.enc .R m)),(3,bK (aE .own i.2)),(15,bK (Aw .R m.T)),(16,fI m.T.length),(17,fN (i.1))]) (λi=>i.1<=m.T.length/\i.2=flight1 m i.1/\i.2.length<=1048576*i.1) (λi=>m.T.length - i.1) ((0,[])) (⟨C1 _,rfl,C1 _⟩) λi j=>?_
 obtain⟨i,S⟩:=i;obtain⟨j,o,q⟩:=j;simp only at j o q |-;by_cases p:i<m.T.length
 ·have t:=ar p
  have u:(nth m.T i).length<=1048576:=(g.1.2 _ (ax p)).1
  refine σE ?_
  refine lE (ι:=Nat × List Int) (λk=>[(1,bF (aL.enc .R m)),(3,bK (aE .own k.2)),(15,bK (Aw .R m.T)),(16,fI m.T.length),(17,fN i),(21,bK (bL .R (nth m.T i))),(22,fI ((nth m.T i).length)),(23,fN (k.1))]) (λk=>k.1<=(nth m.T i).length/\k.2=S++((nth m.T i).take k.1).map (·.U)) (λk=>(nth m.T i).length - k.1) ((0,S)) ψ λk b=>?_
  obtain⟨k,c⟩:=k;obtain⟨b,a⟩:=b;simp only at b a |-;have w:c.length=S.length+k:=ψ
  by_cases e:k<(nth m.T i).length
  ·have l:=ar e
   repeat'(first|refine gE ?_|refine Cb cx (λr y=>by rw[I2.1 y];rfl) ζ kd υ rfl ?_)
   ((conv=>whnf)
    refine CP (k+1,c++[(nth (nth m.T i) k).U]) ⟨τ,(by grind [ZA])⟩ τ ?_
    (exact wD))
  obtain rfl:k=(nth m.T i).length:=ω
  rw[CA]at a
  refine σE ?_
  (exact cV (i+1,c) ⟨τ,(by grind [pP]),τ⟩)
 obtain rfl:i=m.T.length:=ω
 refine σE ?_
 refine lE (ι:=Nat × List Int) (λk=>[(3,bK (aE .own k.2)),(35,bK (kg .R m.w)),(36,fI m.w.length),(37,fN (k.1))]) (λk=>k.1<=m.w.length/\k.2=S++flight2 m k.1/\k.2.length<=S.length+1048576*k.1) (λk=>m.w.length - k.1) ((0,S)) (⟨C1 _,by simp[flight2],by simp⟩) λk b=>?_
 obtain⟨k,c⟩:=k;obtain⟨b,a,n⟩:=b;simp only at b a n |-;by_cases e:k<m.w.length
 ·have l:=ar e
  have B:(nth m.w k).length<=1048576:=g.2.2 _ (ax e)
  repeat'(first|refine gE ?_|refine Cb cx Li (λ_=>Nz) kd υ rfl ?_)
  ((conv=>whnf)
   refine CP (k+1,c++nth m.w k) ⟨τ,(by grind [oX]),ψ⟩ τ ?_
   (exact wD))
 obtain rfl:k=m.w.length:=ω
 refine σE ?_
 rw[qL d,<-o,<-a];rfl
def tbl(h:ac):aM:=h.G.F.O
def fk(h:ac):Nat:=h.G.F.O.M.length
def zP(xs:List a8)(i:Nat):Bool:=decide (i=0\/(nth xs (i - 1)).S<(nth xs i).S)
def zM(xs:List aB)(i:Nat):Bool:=decide (i=0\/(nth xs (i - 1)).S<(nth xs i).S)
def BD(h:ac)(l:aB)(k:Nat):Bool:=decide ((aS h (l.S+(k:Nat))).length=1)
def uV(h:ac)(i:Nat):Bool:=zM h.J i&&du (nth h.J i).a2.toNat (BD h (nth h.J i))
def yu(h:ac)(p:Nat):Bool:=decide ((nth (tbl h).M p).y≠0↔(p:Int)∈pgs h.H h.J)&&(decide ((nth (tbl h).M p).y≠0) != h.e.any (y4 (p:Nat)))
def pages0(h:ac):Bool:=((du h.H.length (zP h.H)&&du h.J.length (uV h))&&(pgs h.H h.J).all λp=>decide (p<fk h))&&du (fk h) (yu h)
def nY(h:ac)(i:Nat)(q:Int):Bool:=decide (iu h q=(i:Nat)) || (decide (0<=iu h q)&&meshable (nth h.H i) (nth h.H (iu h q).toNat))
def yj(h:ac):Bool:=du h.H.length λi=>(aS h (nth h.H i).S).all (nY h i)
def nP(h:ac)(i j:Nat):Bool:=decide ((au (tbl h) (nth h.H i).S).j≠(au (tbl h) (nth h.H j).S).j) || meshable (nth h.H i) (nth h.H j)
def rE(h:ac):Bool:=du h.H.length λi=>du i (nP h i)
def dS(z:Int)(o:bc):Bool:=decide (o.Id=z)
def jF(h:ac)(o:bc):Bool:=
 let w:=denotes h.H h.J o.U
 decide (w.c8=0)&&((decide (w.b5=1)&&decide ((nth h.H w.c7.toNat).a=aP o.k)) || (decide (w.b5=3)&&decide ((nth h.J w.c7.toNat).k=o.k)))
def iF(a:Int)(h:ac)(i:Nat):Bool:=decide ((i=0\/(nth h.K (i - 1)).U<(nth h.K i).U)/\1<=(nth h.K i).Id/\(nth h.K i).Id<=a/\0<=(nth h.K i).a1/\(nth h.K i).a1<=h.Q.length - 1)
def objAt(a:Int)(h:ac)(i:Nat):Bool:=(iF a h i&&!(h.K.take i).any (dS (nth h.K i).Id))&&jF h (nth h.K i)
def gG(h:ac):Bool:=du h.K.length (objAt (IntKind.i64.wrap (h.o - 1)) h)
def dK(h:ac)(a c:Int):Bool:=
 let w:=denotes h.H h.J a
 (decide (w.b5=1)&&decide (w.c8=0))&&(decide (c<0) || decide ((nth h.H w.c7.toNat).a=c))
def vt(h:ac)(c:aD)(k:Nat):Bool:=(nth c.X k).all λa=>dK h a (k:Nat)
def fK(h:ac)(c:aD):Bool:=du c.X.length (vt h c)
def iN(h:ac)(x:aO):Bool:=dK h x.U x.a
def lY(h:ac)(a:Int):Bool:=dK h a (-1)
def cT(h:ac):List Int:=h.Q.flatMap λc=>c.X.flatten
def kI(h:ac):Bool:=((h.Q.all (fK h))&&h.a4.a0.all (iN h))&&(aR h.q).all (lY h)
def holders(h:ac):List Int:=((h.K.map (·.U)++cT h)++h.a4.a0.map (·.U))++aR h.q
def lz(sp:List a8)(la:List aB)(a:Nat):Bool:=
 let w:=denotes sp la (a:Nat)
 decide (w.c8=0)&&(decide (w.b5=1) || decide (w.b5=3))
def nk(sp:List a8)(la:List aB)(n:Nat):List Int:=((List.range n).filter (lz sp la)).map λ(i:Nat)=>(i:Int)
def lK(sp:List a8)(la:List aB):List Int:=nk sp la 512
def lh(h:ac):Bool:=(kI h&&decide (holders h).Nodup)&&decide ((holders h).length=(lK h.H h.J).length)
def nv(h:ac):Bool:=h.a4.a0.all λx=>decide (x.b7<=h.b2)
def ch(h:ac):Bool:=decide (0<=h.c1/\h.c1<=1073741823/\0<=h.b2/\h.b2<=1000000/\0<=h.c2/\h.c2<=1000/\1<=h.o/\h.o<=1000000)
def vU(h:ac):Bool:=if h.a3 then(kf h.a9&&decide (0<=iu h h.a9.g.b1))&&decide (0<=iu h h.a9.g.b3) else wb h.a9
def mI(h:ac):Bool:=((aG h.G&&bJ (fk h) h.e)&&bA h.H h.J)&&pages0 h
set_option maxHeartbeats 8000000
theorem fC(h:bA sp la=true):sp.all bh=true/\la.all bZ=true/\(pgs sp la).Nodup:=by grind [bA]
def VD[Inhabited α]{xs:List α}{p:α->Bool}(h:xs.all p=true)(a:i<xs.length):p (nth xs i)=true:=S7.1 h _ (ax a)
variable{h:ac}
theorem KH(h1:du h.H.length (zP h.H)=false):pages0 h=false:=by grind [pages0]
theorem uv(h1:du h.J.length (uV h)=false):pages0 h=false:=by grind [pages0]
theorem Jx{p:Int}(h1:p∈pgs h.H h.J)(h2:¬p<fk h):pages0 h=false:=by grind [pages0]
theorem KG(h1:du (fk h) (yu h)=false):pages0 h=false:=by grind [pages0]
theorem zO(h1:du h.H.length (zP h.H)=true)(h2:du h.J.length (uV h)=true)(a:∀p∈pgs h.H h.J,p<fk h)(b:du (fk h) (yu h)=true):pages0 h=true:=by grind [pages0]
theorem TF(h1:zM h.J i=false):uV h i=false:=by grind [uV]
theorem Rz(a:k<(nth h.J i).a2.toNat)(h1:BD h (nth h.J i) k=false):uV h i=false:=by grind [cK,uV]
theorem JQ(h1:zM h.J i=true)(h2:du (nth h.J i).a2.toNat (BD h (nth h.J i))=true):uV h i=true:=by grind [uV]
def gf(h:ac)(p:Int):(aS h p).length<=fk h:=by
 unfold aS;split
 ·simp
 exact ui ..
theorem wL(h:bA sp la=true){l:aB}(a:la[i]? = some l):1<=l.a2/\l.a2<=63/\0<=l.S/\l.S<=31:=
 aV (S7.1 (fC h).2.1 l ψ)
theorem JB(h:ac)(y:ee h.H)(C:eC h.J)(g:y2 h)(D:gC h.e)(l:bA h.H h.J=true):zzA 60 false [ν h] .one [B (pages0 h)]:=by
 have V:=y.1;have W:=C.1;have X:fk h<=1048576:=g.1;have Y:=D.1;refine fO 144 [ρ 7 18 28,ρ 13 18 62] Tryz.func60 rfl ?_
 refine σP ?_
 refine lE (ι:=Nat × List Int) (λi=>[(1,bF (ac.enc .R h)),(3,bF (aM.enc .R (tbl h))),(4,fI (fk h)),(5,bK (aE .own i.2)),(6,fN (i.1))]) (λi=>i.1<=h.H.length/\i.2=(h.H.take i.1).map (·.S)/\du i.1 (zP h.H)=true) (λi=>h.H.length - i.1) ((0,[])) (⟨C1 _,rfl,rfl⟩) λi E=>?_
 obtain⟨i,S⟩:=i;obtain⟨E,F,G⟩:=E;simp only at E F G |-;have Z:S.length=i:=ψ
 by_cases H:i<h.H.length
 ·have b:=ar H
  repeat'(first|refine gE ?_|refine gS (λa=>?_) (λa=>?_)|apply CO ω (aa (ia ω H))|refine Cb cx (λr n=>by rw[I2.1 n];rfl) ζ kd χ rfl ?_)
  all_goals first
   | exact bY ((KH (cK H (Z0 ω))).symm)
   | ((conv=>whnf)
      refine CP (i+1,S++[(nth h.H i).S]) ⟨τ,(by simp only;rw[F,ZA,b];simp),bX G (O0 ω)⟩ τ ?_
      (exact wD))
 obtain rfl:i=h.H.length:=ω
 rw[CA]at F
 refine σE ?_
 refine lE (ι:=Nat × List Int) (λk=>[(1,bF (ac.enc .R h)),(3,bF (aM.enc .R (tbl h))),(4,fI (fk h)),(5,bK (aE .own k.2)),(7,fN (k.1))]) (λk=>k.1<=h.J.length/\k.2=pgs h.H (h.J.take k.1)/\du k.1 (uV h)=true/\k.2.length<=1048576+64*k.1) (λk=>h.J.length - k.1) ((0,S)) (⟨C1 _,by grind [pgs],rfl,by simp only;omega⟩) λk J=>?_
 obtain⟨k,S2⟩:=k;obtain⟨J,c,K,L⟩:=J;simp only at J c K L |-;by_cases u:k<h.J.length
 ·have b:=ar u
  have hpg:=wL l b
  repeat'(first|refine gE ?_|refine gS (λa=>?_) (λa=>?_)|apply CO ω (aa (ia ω u)))
  all_goals first
   | exact bY ((uv (cK u (TF (Z0 ω)))).symm)
   |have e:zM h.J k=true:=O0 ω
    (conv=>whnf)
    refine lE (ι:=Nat × List Int) (λq=>[(1,bF (ac.enc .R h)),(3,bF (aM.enc .R (tbl h))),(4,fI (fk h)),(5,bK (aE .own q.2)),(7,fN k),(8,fN (q.1))]) (λq=>q.1<=(nth h.J k).a2.toNat/\q.2=S2++lpgs (nth h.J k) q.1/\du q.1 (BD h (nth h.J k))=true) (λq=>(nth h.J k).a2.toNat - q.1) ((0,S2)) (⟨C1 _,by simp[lpgs],rfl⟩) λq a=>?_
    obtain⟨q,M⟩:=q;obtain⟨N,d,o⟩:=a;simp only at N d o |-;have Q:M.length=S2.length+q:=by rw[d,C6,Jl]
    by_cases w:q<(nth h.J k).a2.toNat
    ·have hfl:=gf h ((nth h.J k).S+(q:Nat))
     repeat'(first|refine gE ?_|refine gS (λa=>?_) (λa=>?_)|apply CF (jb h _ g)|refine Cb cx (λr n=>by rw[I2.1 n];rfl) ζ kd υ rfl ?_)
     all_goals first
      | exact bY ((uv (cK u (Rz w (Z0 ω)))).symm)
      | ((conv=>whnf)
         refine CP (q+1,M++[(nth h.J k).S+(q:Nat)]) ⟨τ,(by simp only;rw[d,me,CB]),bX o (O0 ω)⟩ τ ?_
         (exact wD))
    obtain rfl:q=(nth h.J k).a2.toNat:=ω
    refine σE ?_
    (exact cV (k+1,M) ⟨τ,(by simp only;rw[d,c,<-qI _ b]),bX K (JQ e o),τ⟩)
 obtain rfl:k=h.J.length:=ω
 rw[CA]at c
 refine σE ?_
 refine gl S2.length (λq=>[(1,bF (ac.enc .R h)),(3,bF (aM.enc .R (tbl h))),(4,fI (fk h)),(5,bK (aE .own S2)),(10,fN q)]) (λq=>∀j,j<q->nth S2 j<fk h) ψ λq a=>?_
 obtain⟨a,o⟩:=a;by_cases w:q<S2.length
 ·have b:=ar w
  repeat'(first|refine gE ?_|refine gS (λa=>?_) (λa=>?_)|fail)
  all_goals first
   | exact bY ((Jx (by rw[<-c];exact ax w) ω).symm)
   | ((conv=>whnf);exact cV (q+1) ⟨ω,λj hj=>by rcases Nat.lt_or_ge j q with R|R;exact o j R;(obtain rfl:j=q:=ω);omega⟩)
 have t:∀p∈pgs h.H h.J,p<fk h:=λp O=>by grind [List.mem_iff_getElem?,bk]
 refine σE ?_
 refine gl (fk h) (λp=>[(1,bF (ac.enc .R h)),(3,bF (aM.enc .R (tbl h))),(4,fI (fk h)),(5,bK (aE .own S2)),(11,fN p)]) (λp=>du p (yu h)=true) rfl λp O=>?_
 obtain⟨O,T⟩:=O;by_cases U:p<fk h
 ·have b:=ar (xs:=(tbl h).M) U
  have n:=Dw h.e (p:Nat) ω
  repeat'(first|refine gE ?_|refine gS (λa=>?_) (λa=>?_)|refine CL (ov S2 _ ω) ⟨⟨rfl,dX _⟩,⟨rfl,rfl⟩,tV1⟩ ?_|refine Bf.P (λa=>?_) (λa=>?_))
  all_goals first
   | exact bY ((KG (cK U (by unfold yu;rw[<-c];grind))).symm)
   | ((conv=>whnf);exact cV (p+1) ⟨ω,bX T (by unfold yu;rw[<-c];grind)⟩)
 refine σE ?_
 obtain rfl:p=fk h:=ω
 exact bY ((zO G K t T).symm)
set_option maxHeartbeats 8000000
def UA(h:z1=z2):Rp (I z1) (I z2):=by subst h;rfl
theorem Pn{p:Int} : z∈ins S p↔z∈S\/z=p:=by grind [ins]
theorem Ad(S:List Int):(gx S).map (·.1)=S:=by unfold gx;rw[List.map_map];simp[OB]
theorem nA{t:aM}{p:Nat}(a:p<t.M.length):au t (p:Nat)=nth t.M p:=by grind [au]
theorem H2(h:ac)(E:ee h.H)(F:eC h.J)(d:y2 h)(G:gC h.e)(u:bA h.H h.J=true):zzA 80 false [ν h] .one [B (pages0 h&&rE h)]:=by
 have hl1:=E.1;have hl2:=F.1;have hl3:fk h<=1048576:=d.1;have hl4:=G.1;have b:pages0 h=false->[B false]=[B (pages0 h&&rE h)]:=ψ
 refine fO 177 [ρ 4 14 25,ρ 16 14 60,ρ 28 18 102,ρ 42 23 152] Tryz.func80 rfl ?_
 refine σP ?_
 refine gl h.H.length (λi=>[(1,bF (ac.enc .R h)),(18,bK (cf .R h.H)),(19,fI h.H.length),(20,fN i)]) (λi=>du i (zP h.H)=true) rfl λi g=>?_
 obtain⟨g,C⟩:=g;by_cases o:i<h.H.length
 ·have e:=ar o
  repeat'(first|refine gE ?_|refine gS (λa=>?_) (λa=>?_)|apply CO ω (aa (ia ω o)))
  all_goals first
   |exact b (KH (cK o (Z0 ω)))
   | ((conv=>whnf);exact cV (i+1) ⟨ω,bX C (O0 ω)⟩)
 obtain rfl:i=h.H.length:=ω
 refine σE ?_
 refine lE (ι:=Nat × List Int) (λi=>[(1,bF (ac.enc .R h)),(5,bK [.m (gx i.2)]),(42,bK (cf .R h.H)),(43,fI h.H.length),(44,fN (i.1))]) (λi=>i.1<=h.H.length/\∀z,z∈i.2↔z∈(h.H.take i.1).map (·.S)) (λi=>h.H.length - i.1) ((0,[])) ψ λi g=>?_
 obtain⟨i,S⟩:=i;obtain⟨H,W⟩:=g;simp only at H W |-;by_cases li2:i<h.H.length
 ·have e:=ar li2
  repeat'(first|refine gE ?_|refine Mu.mk (BU S _) ?_)
  (exact cV (i+1,ins S (nth h.H i).S) ⟨τ,λz=>by grind [Pn,ZA]⟩)
 obtain rfl:i=h.H.length:=ω
 rw[CA]at W
 refine σE ?_
 refine lE (ι:=Nat × List Int) (λk=>[(1,bF (ac.enc .R h)),(5,bK [.m (gx k.2)]),(53,bK (cq .R h.J)),(54,fI h.J.length),(55,fN (k.1))]) (λk=>k.1<=h.J.length/\(∀z,z∈k.2↔z∈pgs h.H (h.J.take k.1))/\du k.1 (uV h)=true) (λk=>h.J.length - k.1) ((0,S)) (⟨C1 _,λz=>by grind [pgs],rfl⟩) λk J=>?_
 obtain⟨k,S2⟩:=k;obtain⟨J,c,K⟩:=J;simp only at J c K |-;by_cases D:k<h.J.length
 ·have e:=ar D
  have hpg:=wL u e
  repeat'(first|refine gE ?_|refine gS (λa=>?_) (λa=>?_)|apply CO ω (aa (ia ω D)))
  all_goals first
   |exact b (uv (cK D (TF (Z0 ω))))
   |have l:zM h.J k=true:=O0 ω
    (conv=>whnf)
    refine lE (ι:=Nat × List Int) (λq=>[(1,bF (ac.enc .R h)),(5,bK [.m (gx q.2)]),(9,bF (aB.enc .R (nth h.J k))),(10,fI ((nth h.J k).S+(q.1:Nat))),(53,bK (cq .R h.J)),(54,fI h.J.length),(55,fN k)]) (λq=>q.1<=(nth h.J k).a2.toNat/\(∀z,z∈q.2↔z∈S2++lpgs (nth h.J k) q.1)/\du q.1 (BD h (nth h.J k))=true) (λq=>(nth h.J k).a2.toNat - q.1) ((0,S2)) (⟨C1 _,λz=>by simp[lpgs],rfl⟩) λq a=>?_
    obtain⟨q,L⟩:=q;obtain⟨M,n,N⟩:=a;simp only at M n N |-;by_cases lq:q<(nth h.J k).a2.toNat
    ·have hfl:=gf h ((nth h.J k).S+(q:Nat))
     repeat'(first|refine gE ?_|refine gS (λa=>?_) (λa=>?_)|apply CF (l7 h _ d)|refine Mu.mk (BU L _) ?_)
     all_goals first
      |exact b (uv (cK D (Rz lq (Z0 ω))))
      | ((conv=>whnf)
         refine CP (q+1,ins L ((nth h.J k).S+(q:Nat))) ⟨τ,λz=>by simp only[Pn,n];rw[me];simp[or_assoc],bX N (O0 ω)⟩ τ ?_
         (repeat'(first|exact tV1|rfl|refine CQ ?_ ?_|exact UA kd)))
    obtain rfl:q=(nth h.J k).a2.toNat:=ω
    refine σE ?_
    (exact cV (k+1,L) ⟨τ,(λz=>by simp only[n];rw[qI _ e];simp[c]),bX K (JQ l N)⟩)
 obtain rfl:k=h.J.length:=ω
 rw[CA]at c
 refine σE ?_
 refine gl (fk h) (λp=>[(1,bF (ac.enc .R h)),(5,bK [.m (gx S2)]),(98,fI (fk h)),(99,fN p)]) (λp=>du p (yu h)=true) rfl λp X=>?_
 obtain⟨X,Y⟩:=X;by_cases Z:p<fk h
 ·have O:=Dk h.e (p:Nat) ω
  have w:=fp h.G (p:Nat) d;rw[nA Z]at w
  repeat'(first|refine gE ?_|refine gS (λa=>?_) (λa=>?_)|refine Ml.mk (pd (p:Nat) S2) ?_|refine Bf.P (λa=>?_) (λa=>?_))
  all_goals first
   |exact b (KG (cK Z (by unfold yu tbl;have:=c (p:Nat);grind)))
   | ((conv=>whnf);exact cV (p+1) ⟨ω,bX Y (by unfold yu tbl;have:=c (p:Nat);grind)⟩)
 obtain rfl:p=fk h:=ω
 refine σE ?_
 have hpn:fk h=h.G.F.O.M.length:=rfl
 (conv=>whnf)
 refine lE (ι:=Option Int × List Int) (λt=>[(1,bF (ac.enc .R h)),(122,bK [.it t.1 t.2])]) (λt=>(∀z∈S2,z∈t.2\/z<fk h)/\∀z∈t.2,z∈S2) (λt=>t.2.length) ((none,(gx S2).map (·.1))) (⟨λz hz=>.inl (by grind [Ad]),λz hz=>by grind [Ad]⟩) λt ht=>?_
 obtain⟨cur,left⟩:=t;obtain⟨Q,R⟩:=ht;simp only at Q R |-
 repeat'(first|refine gP ?_|refine gS (λa=>?_) (λa=>?_)|refine Nt.mk (λa=>?_) (λl1 k l2 a=>?_))
 rotate_left
 ·exact b (Jx (p:=k) ψ ω)
 ·((conv=>whnf);exact cV (some k,l1++l2) ψ (h2:=(by subst left;simp)))
 have y:∀p∈pgs h.H h.J,p<fk h:=ψ
 have h0:pages0 h=true:=zO C K y Y;rw[h0,Bool.true_and]
 (conv=>whnf)
 refine gl h.H.length (λi=>[(1,bF (ac.enc .R h)),(136,bK (cf .R h.H)),(137,fI h.H.length),(138,fN i)]) (λi=>du i (λi=>du i (nP h i))=true) rfl λi g=>?_
 obtain⟨g,C⟩:=g;by_cases o:i<h.H.length
 ·have e:=ar o
  have T:(h.H.take i).length=i:=ψ
  repeat'(first|refine gE ?_|refine Ca i rfl kd (λr O=>by obtain⟨z,-,rfl⟩:=O8.1 O;rfl) (C8 ..) ?_)
  refine gl ((h.H.take i).length) (λj=>[(1,bF (ac.enc .R h)),(14,bF (a8.enc .R (nth h.H i))),(136,bK (cf .R h.H)),(137,fI h.H.length),(138,fN i),(146,bK (cf .R (h.H.take i))),(147,fI ((h.H.take i).length)),(148,fN j)]) (λj=>du j (nP h i)=true) rfl λj hj=>?_
  obtain⟨hj,U⟩:=hj;by_cases lj:j<(h.H.take i).length
  ·have hy:=ar lj
   have he:nth (h.H.take i) j=nth h.H j:=bk (by grind [ar]);rw[he]at hy;have w:=ny (nth h.H i) (nth h.H j);cases V:meshable (nth h.H i) (nth h.H j)<;>rw[V]at w
   all_goals
    repeat'(first|refine gE ?_|refine gS (λa=>?_) (λa=>?_)|apply CF (cG (tbl h) _ d))
    all_goals first
     | exact bY ((by symm;exact cK o (cK (i:=j) ω (by unfold nP;rw[V];grind))))
     | ((conv=>whnf);exact cV (j+1) ⟨ω,bX U (by unfold nP;rw[V];grind)⟩)
  obtain rfl:j=(h.H.take i).length:=ω
  rw[T]at U
  refine σE ?_
  (exact cV (i+1) ⟨ω,bX C U⟩)
 obtain rfl:i=h.H.length:=ω
 refine σE ?_
 exact bY ((by grind [rE]))
set_option maxHeartbeats 8000000
theorem ri[Inhabited α](pr:α->Bool)(xs:List α):cu pr xs = -1\/∃n,n<xs.length/\cu pr xs=(n:Nat)/\pr (nth xs n)=true:=by
 unfold cu;cases h:xs.findIdx? pr with
 | none=>exact .inl rfl
 | some i=>
  obtain⟨a,b,-⟩:=SD.1 h;exact .inr ⟨i,a,rfl,by rw[bk (Z3 a)];exact b⟩
def Kz(a:i<h.H.length)(b:k<(aS h (nth h.H i).S).length)(c:nY h i (nth (aS h (nth h.H i).S) k)=false):yj h=false:=by
 unfold yj;exact cK a (ip (ar b) c)
theorem H8(h:ac)(g:ee h.H)(b:y2 h):zzA 61 false [ν h] .one [B (yj h)]:=by
 have j:=g.1;have D:fk h<=1048576:=b.1;refine fO 55 [ρ 4 8 14,ρ 8 6 28,ρ 9 21 34] Tryz.func61 rfl ?_
 refine σP ?_
 refine gl h.H.length (λi=>[(1,bF (ac.enc .R h)),(3,fN i)]) (λi=>du i (λi=>(aS h (nth h.H i).S).all (nY h i))=true) rfl λi w=>?_
 obtain⟨w,E⟩:=w;by_cases l:i<h.H.length
 ·have o:=ar l
  have F:=gf h (nth h.H i).S
  repeat'(first|refine gE ?_|apply CF (jb h _ b))
  refine gl ((aS h (nth h.H i).S).length) (λk=>[(1,bF (ac.enc .R h)),(3,fN i),(4,bK (aE .own (aS h (nth h.H i).S))),(5,fN k)]) (λk=>((aS h (nth h.H i).S).take k).all (nY h i)=true) ψ λk y=>?_
  obtain⟨y,G⟩:=y;by_cases q:k<(aS h (nth h.H i).S).length
  ·have c:=ar q
   have a:=lf h (nth (aS h (nth h.H i).S) k) j;rcases ri (nH (nth (aS h (nth h.H i).S) k)) h.H with e|⟨n,H,e,-⟩
   ·rw[show iu h (nth (aS h (nth h.H i).S) k) = -1 from e]at a
    have r:nY h i (nth (aS h (nth h.H i).S) k)=false:=by grind [nY,iu]
    repeat'(first|refine gE ?_|refine gS (λt=>?_) (λt=>?_)|fail)
    all_goals first
     | exact bY ((Kz l q r).symm)
     |(exfalso;omega)
   rw[show iu h (nth (aS h (nth h.H i).S) k)=(n:Nat) from e]at a;have J:=ar H;have C:=nL (nth h.H i) (nth h.H n);have d:nY h i (nth (aS h (nth h.H i).S) k)=(decide ((n:Int)=(i:Nat)) || meshable (nth h.H i) (nth h.H n)):=by
    unfold nY;rw[show iu h (nth (aS h (nth h.H i).S) k)=(n:Nat) from e,O0 (p:=(0:Int)<=(n:Nat)) ω];simp
   cases u:meshable (nth h.H i) (nth h.H n)<;>rw[u]at C
   all_goals
    repeat'(first|refine gE ?_|refine gS (λt=>?_) (λt=>?_)|fail)
    all_goals first
     | exact bY ((Kz l q (by rw[d,u];grind)).symm)
     | ((conv=>whnf);exact cV (k+1) ⟨ω,df c G (by rw[d,u];grind)⟩)
     |(exfalso;omega)
  refine σE ?_
  (exact cV (i+1) ⟨ω,bX E ψ⟩)
 obtain rfl:i=h.H.length:=ω
 refine σE ?_
 exact bY ((by grind [yj]))
def QK(j:cH)(a:cH.sml j):zzA 67 false [.val (some 5) (cH.enc .R j)] .one [B (wb j)]:=by
 have c:j.g.V.length<=1048576:=a;refine fO 30 [] Tryz.func67 rfl ?_
 repeat'(first|refine gP ?_|refine gS (λb=>?_) (λb=>?_)|fail)
 all_goals exact bY ((by unfold wb;first|(symm;exact Z0 ω)|(rw[O9,beq_iff_eq,C0];omega)))
theorem pp(sp:List a8)(la:List aB)(a:Int):((denotes sp la a).b5=1->0<=(denotes sp la a).c7/\(denotes sp la a).c7.toNat<sp.length)/\((denotes sp la a).b5=3->0<=(denotes sp la a).c7/\(denotes sp la a).c7.toNat<la.length):=by grind [SD,denotes,pz]
theorem MC(h:ac)(a c:Int)(d:ee h.H)(e:eC h.J)(b:bA h.H h.J=true)(j:mP a):zzA 133 false [ν h,.vI a,.vI c] .one [B (dK h a c)]:=by
 have i:=pb h.H h.J a d e b j;obtain⟨g,-⟩:=pp h.H h.J a;unfold dK;generalize denotes h.H h.J a=w at i g |-;refine fO 37 [] Tryz.func133 rfl ?_
 repeat'(first|refine gP ?_|refine gS (λk=>?_) (λk=>?_)|apply CO (g ϑ).1 (aa (ar (g ϑ).2)))
 all_goals exact bY (ψ)
theorem E3(h:ac)(o:bc)(w:kn)(a:denotes h.H h.J o.U=w):jF h o=(decide (w.c8=0)&&((decide (w.b5=1)&&decide ((nth h.H w.c7.toNat).a=aP o.k)) || (decide (w.b5=3)&&decide ((nth h.J w.c7.toNat).k=o.k)))):=by grind [jF]
def kx(a:i<h.K.length)(b:objAt (IntKind.i64.wrap (h.o - 1)) h i=false):gG h=false:=cK a b
theorem Ny(h1:iF a h i=false):objAt a h i=false:=by grind [objAt]
theorem NA(h1:(h.K.take i).any (dS (nth h.K i).Id)=true):objAt a h i=false:=by grind [objAt]
theorem Nh(h1:jF h (nth h.K i)=false):objAt a h i=false:=by grind [objAt]
theorem FK(h1:iF a h i=true)(h2:(h.K.take i).any (dS (nth h.K i).Id)=false)(b:jF h (nth h.K i)=true):objAt a h i=true:=by grind [objAt]
theorem MW(h:ac)(l:ee h.H)(n:eC h.J)(g:bA h.H h.J=true)(H:h.K.length<=1048576)(J:h.Q.length<=1048576)(F:∀o∈h.K,mP o.U):zzA 65 false [ν h] .one [B (gG h)]:=by
 refine fO 117 [ρ 5 33 21,ρ 10 9 59,ρ 13 16 75,ρ 14 15 91] Tryz.func65 rfl ?_
 refine σP ?_
 refine gl h.K.length (λi=>[(1,bF (ac.enc .R h)),(3,fN i)]) (λi=>du i (objAt (IntKind.i64.wrap (h.o - 1)) h)=true) rfl λi t=>?_
 obtain⟨t,u⟩:=t;by_cases d:i<h.K.length
 ·have y:=ar d
  have C:=pb h.H h.J (nth h.K i).U l n g (F _ (ax d));obtain⟨p,q⟩:=pp h.H h.J (nth h.K i).U;have b:=E3 h (nth h.K i) _ rfl;generalize denotes h.H h.J (nth h.K i).U=w at C p q b;by_cases c:iF (IntKind.i64.wrap (h.o - 1)) h i=true
  ·have a:=c
   unfold iF at a;rw[C0]at a
   repeat'(first|refine gE ?_|refine gS (λe=>?_) (λe=>?_)|apply CO ω (aa (ia ω d))|apply CF (aK _ _ _)|apply CR rfl)
   all_goals
    (conv=>whnf)
    refine gl i (λk=>[(1,bF (ac.enc .R h)),(3,fN i),(4,bF (bc.enc .R (nth h.K i))),(5,fN k)]) (λk=>(h.K.take k).any (dS (nth h.K i).Id)=false) rfl λk D=>?_
    obtain⟨D,E⟩:=D;by_cases G:k<i
    ·have r:=ar (xs:=h.K) (i:=k) ω
     repeat'(first|refine gE ?_|refine gS (λe=>?_) (λe=>?_)|fail)
     all_goals first
      | exact bY ((kx d (NA (GK (i:=k) (by rw[List.getElem?_take_of_lt G];exact r) (O0 ϑ)))).symm)
      | ((conv=>whnf);exact cV (k+1) ⟨ω,AJ r E (Z0 ϑ)⟩)
    obtain rfl:k=i:=ω
    repeat'(first|refine gE ?_|refine gS (λe=>?_) (λe=>?_)|apply CO (p ϑ).1 (aa (ar (p ϑ).2))|apply CO (q ϑ).1 (aa (ar (q ϑ).2))|apply CF (lX _))
    all_goals first
     | exact bY ((kx d (Nh (by rw[b];grind))).symm)
     | ((conv=>whnf);exact cV (k+1) ⟨ω,bX u (FK c E (by rw[b];grind))⟩)
     |(exfalso;omega)
  have j:iF (IntKind.i64.wrap (h.o - 1)) h i=false:=by simpa using c
  have a:=j;unfold iF at a;rw[I9]at a
  repeat'(first|refine gE ?_|refine gS (λe=>?_) (λe=>?_)|apply CO ω (aa (ia ω d))|apply CF (aK _ _ _)|apply CR rfl)
  all_goals first
   | exact bY ((kx d (Ny j)).symm)
   |(exfalso;omega)
 obtain rfl:i=h.K.length:=ω
 refine σE ?_
 exact bY ((show true=gG h from u.symm))
theorem sv(o a:bc):zzA 171 false [.val (some 4) (bc.enc .R o),.ptr (bc.enc .R a)] .one [B (dS a.Id o)]:=by
 refine fO 9 [] Tryz.func171 rfl ?_
 refine σP ?_
 grind [dS]
theorem Kn(h:ac)(n:ee h.H)(o:eC h.J)(G:h.K.length<=1048576)(H:h.Q.length<=1048576):zzA 84 false [ν h] .one [B (gG h)]:=by
 refine fO 105 [ρ 4 33 16,ρ 9 16 62,ρ 10 15 78] Tryz.func84 rfl ?_
 refine σP ?_
 refine gl h.K.length (λi=>[(1,bF (ac.enc .R h)),(9,bK (m6 .R h.K)),(10,fI h.K.length),(11,fN i)]) (λi=>du i (objAt (IntKind.i64.wrap (h.o - 1)) h)=true) rfl λi D=>?_
 obtain⟨D,E⟩:=D;by_cases e:i<h.K.length
 ·have p:=ar e
  have F:=lV h.H h.J (nth h.K i).U n o;obtain⟨q,t⟩:=pp h.H h.J (nth h.K i).U;have b:=E3 h (nth h.K i) _ rfl;generalize denotes h.H h.J (nth h.K i).U=w at F q t b;have g:=xv (h.K.take i) (dS (nth h.K i).Id) ψ;by_cases c:iF (IntKind.i64.wrap (h.o - 1)) h i=true
  ·have a:=c
   unfold iF at a;rw[C0]at a;cases d:(h.K.take i).any (dS (nth h.K i).Id)<;>rw[d]at g
   ·repeat'(first|refine gE ?_|refine gS (λj=>?_) (λj=>?_)|apply CO ω (aa (ia ω e))|apply CF (aH _ _ _)|refine Ca i rfl kd (λr u=>by obtain⟨z,-,rfl⟩:=O8.1 u;rfl) (C8 ..) ?_|refine Cq.mk (qj (some 4) (bc.enc .R) (dS (nth h.K i).Id) (h.K.take i)) (sv default (nth h.K i)).has (λL k rcs C=>by obtain⟨y,-,rfl,rfl,rfl⟩:=C;exact sv y (nth h.K i)) ?_|apply CO (q ϑ).1 (aa (ar (q ϑ).2))|apply CO (t ϑ).1 (aa (ar (t ϑ).2))|apply CF (lS _)|apply CR rfl)
    all_goals first
     | exact bY ((kx e (Nh (by rw[b];grind))).symm)
     | ((conv=>whnf);exact cV (i+1) ⟨ω,bX E (FK c d (by rw[b];grind))⟩)
     |(exfalso;omega)
   repeat'(first|refine gE ?_|refine gS (λj=>?_) (λj=>?_)|apply CO ω (aa (ia ω e))|apply CF (aH _ _ _)|refine Ca i rfl kd (λr u=>by obtain⟨z,-,rfl⟩:=O8.1 u;rfl) (C8 ..) ?_|refine Cq.mk (qj (some 4) (bc.enc .R) (dS (nth h.K i).Id) (h.K.take i)) (sv default (nth h.K i)).has (λL k rcs C=>by obtain⟨y,-,rfl,rfl,rfl⟩:=C;exact sv y (nth h.K i)) ?_|apply CR rfl)
   all_goals first
    | exact bY ((kx e (NA d)).symm)
    |(exfalso;omega)
  have l:iF (IntKind.i64.wrap (h.o - 1)) h i=false:=by simpa using c
  have a:=l;unfold iF at a;rw[I9]at a
  repeat'(first|refine gE ?_|refine gS (λj=>?_) (λj=>?_)|apply CO ω (aa (ia ω e))|apply CF (aH _ _ _)|apply CR rfl)
  all_goals first
   | exact bY ((kx e (Ny l)).symm)
   |(exfalso;omega)
 obtain rfl:i=h.K.length:=ω
 refine σE ?_
 exact bY ((show true=gG h from E.symm))
set_option maxHeartbeats 8000000
theorem PC(h:lz sp la n=true):nk sp la (n+1)=nk sp la n++[(n:Int)]:=by grind [List.range_succ,nk]
theorem Tf(h:lz sp la n=false):nk sp la (n+1)=nk sp la n:=by grind [List.range_succ,nk]
theorem EE(sp:List a8)(la:List aB)(n:Nat):(nk sp la n).length<=n:=by grind [nk]
theorem uW{w:kn}(a:denotes sp la (n:Nat)=w):lz sp la n=(decide (w.c8=0)&&(decide (w.b5=1) || decide (w.b5=3))):=by grind [lz]
def Vs(h:n<=1048576):mP (n:Nat):=⟨ω,ω⟩
theorem BQ(sp:List a8)(la:List aB)(c:ee sp)(d:eC la)(a:bA sp la=true):zzA 135 false [.val none (cf .R sp),.val none (cq .R la)] .one (aE .own (lK sp la)):=by
 have g:=nz sp la c d;rw[a]at g;refine fO 40 [] Tryz.func135 rfl ?_ (.inr (bH _))
 refine σP ?_
 refine lp0 512 (λn=>[(0,bK (cf .R sp)),(1,bK (cq .R la)),(5,bK (aE .own (nk sp la n))),(6,fN n)]) λn o=>?_
 have i:=EE sp la n;by_cases p:n<512
 ·have h:=pb sp la (n:Nat) c d a (Vs ω)
  generalize j:denotes sp la (n:Nat)=w at h;have e:=uW j
  repeat'(first|refine gE ?_|refine gS (λk=>?_) (λk=>?_)|refine Cb cx (λr l=>by rw[I2.1 l];rfl) ζ kd χ rfl ?_)
  all_goals first
   |(have b:lz sp la n=true:=by rw[e];grind
     (conv=>whnf)
     refine CP (n+1) ω ω ?_;rw[PC b]
     (exact wD))
   |(have b:lz sp la n=false:=by rw[e];grind
     (conv=>whnf)
     refine CP (n+1) ω ω ?_;rw[Tf b]
     (exact wA))
 obtain rfl:n=512:=ω
 refine σE ?_
 rfl
theorem Aa(m:aL)(a:m.w.length=m.T.length):∀i,i<=m.T.length->(((flight1 m i).length+(flight2 m i).length:Nat):Int)=bM m i
 | 0,_=>rfl
 | i+1,h=>by
  have d:=Aa m a i ω;have b:=ar (xs:=m.T) (i:=i) ω;have c:=ar (xs:=m.w) (i:=i) ω;rw[pP b,oX c];simp only[C6,Z1];show _=bM m i+((nth m.T i).length+(nth m.w i).length);omega
theorem vm(h:bE m=true):(aR m).length<=30:=by grind [Aa,qL,bE]
def K3(d:aL.wf m):∀a∈aR m,mP a:=by
 intro a b;unfold aR at b;split at b
 ·rcases I5.1 b with h|h
  ·obtain⟨l,c,h⟩:=List.mem_flatMap.1 h
   obtain⟨p,e,rfl⟩:=O8.1 h;exact((d.1.2 l c).2 p e).2
  obtain⟨l,c,h⟩:=List.mem_flatten.1 h;exact(d.2.2 l c).2 a h
 cases b
theorem QM(h1:h.Q.all (fK h)=false):lh h=false:=by grind [lh,kI]
theorem PL(h1:h.a4.a0.all (iN h)=false):lh h=false:=by grind [lh,kI]
theorem Qq(h1:(aR h.q).all (lY h)=false):lh h=false:=by grind [lh,kI]
theorem Qh(a:i<(holders h).length)(b:nth (holders h) i∈(holders h).take i):lh h=false:=by
 have c:decide (holders h).Nodup=false:=U1 (S:=(holders h).take i) (p:=nth (holders h) i) (by
   have:=ar a;have e:(holders h).take i++[nth (holders h) i]=(holders h).take (i+1):=by grind [ZA]
   grind) b
 grind [lh]
theorem x4(a:h.Q[i]? = some c):((h.Q.take (i+1)).flatMap λc=>c.X.flatten)=((h.Q.take i).flatMap λc=>c.X.flatten)++c.X.flatten:=by grind [ZA]
theorem A8(a:c.X[k]? = some l):(c.X.take (k+1)).flatten=(c.X.take k).flatten++l:=by grind [ZA]
theorem ME(h:ac)(hs:ac.sml h)(hw:ac.wf h)(t:bA h.H h.J=true)(w:bE h.q=true)(U:∀c∈h.Q,bB c=true):zzA 66 false [ν h] .one [B (lh h)]:=by
 obtain⟨-,-,E,F,V,W,X,Y,-⟩:=hs;obtain⟨-,-,-,-,-,Z,hwm,hwq,-⟩:=hw;have hlo:h.K.length<=1048576:=V.1;have hlc:h.Q.length<=1048576:=W.1;have hlq:h.a4.a0.length<=1048576:=Y.1;have hfl:=vm w;have hfw:=K3 hwm;have y:∀a c,mP a->zzA 133 false [ν h,.vI a,.vI c] .one [B (dK h a c)]:=λa c ha=>MC h a c E F t ha
 refine fO 159 [ρ 16 8 63,ρ 22 17 86,ρ 29 7 122,ρ 35 8 142] Tryz.func66 rfl ?_
 refine σP ?_
 refine lE (ι:=Nat × List Int) (λi=>[(1,bF (ac.enc .R h)),(3,bK (aE .own i.2)),(4,fN (i.1))]) (λi=>i.1<=h.K.length/\i.2=(h.K.take i.1).map (·.U)) (λi=>h.K.length - i.1) ((0,[])) ψ λi u=>?_
 obtain⟨i,S⟩:=i;obtain⟨u,O⟩:=u;simp only at u O |-;have hSl:S.length=i:=ψ
 by_cases li:i<h.K.length
 ·have C:=ar li
  repeat'(first|refine gE ?_|refine Cb cx (λr l=>by rw[I2.1 l];rfl) ζ kd χ rfl ?_)
  ((conv=>whnf)
   refine CP (i+1,S++[(nth h.K i).U]) ⟨τ,(by grind [ZA])⟩ τ ?_
   (exact wD))
 obtain rfl:i=h.K.length:=ω
 rw[CA]at O
 refine σE ?_
 refine lE (ι:=Nat × List Int) (λi=>[(1,bF (ac.enc .R h)),(3,bK (aE .own i.2)),(5,fN (i.1))]) (λi=>i.1<=h.Q.length/\i.2=S++((h.Q.take i.1).flatMap λc=>c.X.flatten)/\(h.Q.take i.1).all (fK h)=true/\i.2.length<=1048576+32*i.1) (λi=>h.Q.length - i.1) ((0,S)) ψ λi u=>?_
 obtain⟨i,S2⟩:=i;obtain⟨hi2,n,ai,G⟩:=u;simp only at hi2 n ai G |-;by_cases li2:i<h.Q.length
 ·have C:=ar li2
  obtain⟨h4,h8⟩:=x7 (U _ (ax li2));have hwl:=Z.2 _ (ax li2)
  refine σE ?_
  refine lE (ι:=Nat × List Int) (λk=>[(1,bF (ac.enc .R h)),(3,bK (aE .own k.2)),(5,fN i),(6,fN (k.1))]) (λk=>k.1<=(nth h.Q i).X.length/\k.2=S2++((nth h.Q i).X.take k.1).flatten/\du k.1 (vt h (nth h.Q i))=true/\k.2.length<=S2.length+8*k.1) (λk=>(nth h.Q i).X.length - k.1) ((0,S2)) (⟨C1 _,by simp,rfl,by simp⟩) λk hk=>?_
  obtain⟨k,P⟩:=k;obtain⟨hk,H,ak,hb3⟩:=hk;simp only at hk H ak hb3 |-;by_cases Q:k<(nth h.Q i).X.length
  ·have hy:=ar Q
   have hl8:=h8 _ (ax Q);have hwa:=(hwl.2 _ (ax Q)).2
   refine σE ?_
   refine lE (ι:=Nat × List Int) (λj=>[(1,bF (ac.enc .R h)),(3,bK (aE .own j.2)),(5,fN i),(6,fN k),(7,bK (aE .R (nth (nth h.Q i).X k))),(8,fN (j.1))]) (λj=>j.1<=(nth (nth h.Q i).X k).length/\j.2=P++(nth (nth h.Q i).X k).take j.1/\((nth (nth h.Q i).X k).take j.1).all (λa=>dK h a (k:Nat))=true) (λj=>(nth (nth h.Q i).X k).length - j.1) ((0,P)) ψ λj hj=>?_
   obtain⟨j,S4⟩:=j;obtain⟨hj,J,R⟩:=hj;simp only at hj J R |-;have hl4:S4.length=P.length+j:=ψ
   by_cases lj:j<(nth (nth h.Q i).X k).length
   ·have d:=ar lj
    have b:=y (nth (nth (nth h.Q i).X k) j) (k:Nat) ψ;cases g:dK h (nth (nth (nth h.Q i).X k) j) (k:Nat)<;>rw[g]at b
    ·refine σE ?_
     exact bY ((QM (ip C (by unfold fK;exact cK Q (ip d g)))).symm)
    repeat'(first|refine gE ?_|refine Cb cx (λr l=>by rw[I2.1 l];rfl) ζ kd υ rfl ?_)
    ((conv=>whnf)
     refine CP (j+1,S4++[nth (nth (nth h.Q i).X k) j]) ⟨τ,(by grind [ZA]),df d R g⟩ τ ?_
     (exact wD))
   obtain rfl:j=(nth (nth h.Q i).X k).length:=ω
   rw[CA]at J R
   refine σE ?_
   (exact cV (k+1,S4) ⟨τ,(by grind [A8]),bX ak R,τ⟩)
  obtain rfl:k=(nth h.Q i).X.length:=ω
  rw[CA]at H
  refine σE ?_
  (exact cV (i+1,P) ⟨τ,(by grind [x4]),df C ai ak,τ⟩)
 obtain rfl:i=h.Q.length:=ω
 rw[CA]at n ai
 refine σE ?_
 refine lE (ι:=Nat × List Int) (λq=>[(1,bF (ac.enc .R h)),(3,bK (aE .own q.2)),(9,fN (q.1))]) (λq=>q.1<=h.a4.a0.length/\q.2=S2++(h.a4.a0.take q.1).map (·.U)/\(h.a4.a0.take q.1).all (iN h)=true) (λq=>h.a4.a0.length - q.1) ((0,S2)) ψ λq K=>?_
 obtain⟨q,L⟩:=q;obtain⟨D,o,aq⟩:=K;simp only at D o aq |-;have hl5:L.length=S2.length+q:=ψ
 by_cases T:q<h.a4.a0.length
 ·have d:=ar T
  have b:=y (nth h.a4.a0 q).U (nth h.a4.a0 q).a (hwq.2.2 _ (ax T)).1;cases g:dK h (nth h.a4.a0 q).U (nth h.a4.a0 q).a<;>rw[g]at b
  ·refine σE ?_
   exact bY ((PL (ip d g)).symm)
  repeat'(first|refine gE ?_|refine Cb cx (λr l=>by rw[I2.1 l];rfl) ζ kd υ rfl ?_)
  ((conv=>whnf)
   refine CP (q+1,L++[(nth h.a4.a0 q).U]) ⟨τ,(by grind [ZA]),df d aq g⟩ τ ?_
   (exact wD))
 obtain rfl:q=h.a4.a0.length:=ω
 rw[CA]at o aq
 repeat'(first|refine gE ?_|apply CF (Ek h.q X))
 refine lE (ι:=Nat × List Int) (λq=>[(1,bF (ac.enc .R h)),(3,bK (aE .own q.2)),(10,bK (aE .own (aR h.q))),(11,fN (q.1))]) (λq=>q.1<=(aR h.q).length/\q.2=L++(aR h.q).take q.1/\((aR h.q).take q.1).all (lY h)=true) (λq=>(aR h.q).length - q.1) ((0,L)) ψ λq K=>?_
 obtain⟨q,e⟩:=q;obtain⟨D,p,aq6⟩:=K;simp only at D p aq6 |-;have hl6:e.length=L.length+q:=ψ
 by_cases T:q<(aR h.q).length
 ·have d:=ar T
  have b:=y (nth (aR h.q) q) (-1) ψ;cases g:dK h (nth (aR h.q) q) (-1)<;>rw[g]at b
  ·refine σE ?_
   exact bY ((Qq (ip d g)).symm)
  repeat'(first|refine gE ?_|refine Cb cx (λr l=>by rw[I2.1 l];rfl) ζ kd υ rfl ?_)
  ((conv=>whnf)
   refine CP (q+1,e++[nth (aR h.q) q]) ⟨τ,(by grind [ZA]),df d aq6 g⟩ τ ?_
   (exact wD))
 obtain rfl:q=(aR h.q).length:=ω
 rw[CA]at p aq6;have M:e=holders h:=by rw[p,o,n,O];rfl
 have hheld:kI h=true:=by grind [kI]
 have hbig:e.length<=100000000:=ω
 clear p o n O hSl hl5 G hl6
 refine σE ?_
 refine Lp.fz 3 (ι:=Nat) (λi=>[(1,bF (ac.enc .R h)),(3,bK (aE .R e)),(12,fN i)]) (λi=>i<=e.length/\(e.take i).Nodup) (λi=>e.length - i) 0 ?_ ψ λi u=>?_
 ·(repeat'(first|exact tV1|rfl|exact CQ rfl (show Qd (dw (aE .own e)) (aE .R e) by rw[dX];exact kS _)|refine CQ ?_ ?_))
 obtain⟨u,N⟩:=u;by_cases lj:i<e.length
 ·have d:=ar lj
  have htl:(e.take i).length=i:=ψ
  repeat'(first|refine gE ?_|refine gS (λK=>?_) (λK=>?_)|refine Ca i rfl kd (λr l=>by obtain⟨z,-,rfl⟩:=O8.1 l;rfl) (C8 ..) ?_|apply CF (ov (e.take i) _ ω))
  all_goals first
   | exact bY ((by rw[M]at *;exact(Qh ϑ ϑ).symm))
   | ((conv=>whnf);exact cV (i+1) ⟨ω,by rw[ZA,d];exact mA N ϑ⟩)
 obtain rfl:i=e.length:=ω
 rw[CA]at N;have hlv:=EE h.H h.J 512
 repeat'(first|refine gE ?_|apply CF (BQ h.H h.J E F t))
 exact bY ((by grind [lh]))
end Go.Proofs.YtfdfgipemcbekaaGreatDoor.Ab
