/- The data of the program, its cells, its bulk and its marks. Printed by gen_data.py. No condition. -/
import Derived.Test.YtiopgblagimpmaaGreatKrc
set_option linter.unusedVariables false
set_option linter.defProp false
set_option linter.unusedSimpArgs false
set_option linter.constructorNameAsVariable false
namespace Go.Proofs.YtiopgblagimpmaaGreat.Ab
open Go.RowKit
def aF(o:dM)(x:List Int):List C:=[.s o (x.map (rI o))]
def eM(x:List Int):eg (aF .own x)=aF .W x:=by simp[eg,aF,rI,eg]
theorem bM(x:List Int):hO (aF .own x):=⟨⟨.inl ψ,bc _ _ λy _=>rk y⟩,trivial⟩
def fU(x:List Int):Prop:=x.length<=9223372036854775807/\∀y∈x,n7 y
def tN(x:List Int):Prop:=x.length<=1048576
def jQ(o:dM)(x:List (List Int)):List C:=[.s o (x.map (aF o))]
def TW(x:List (List Int)):eg (jQ .own x)=jQ .W x:=by simp[eg,jQ,eM,<-cn,I7]
def Eb(x:List (List Int)):Prop:=x.length<=9223372036854775807/\∀y∈x,fU y
def xJ(x:List (List Int)):Prop:=x.length<=1048576/\∀y∈x,tN y
def xB(o:dM)(x:List Bool):List C:=[.s o (x.map (rB o))]
def Q6(x:List Bool):Prop:=x.length<=9223372036854775807/\∀y∈x,UW y
def Qi(x:List Bool):Prop:=x.length<=1048576
structure aW where
 T:List (List Int)
 a3:List Bool
deriving DecidableEq,Inhabited
def aW.enc(o:dM)(x:aW):List C:=[.s o (x.T.map (aF o)),.s o (x.a3.map (rB o))]
def aW.enc_fz(x:aW):eg (aW.enc .own x)=aW.enc .W x:=by simp[eg,aW.enc,rB,eM,<-cn,I7]
theorem aW.enc_fr(x:aW):hO (aW.enc .own x):=⟨⟨.inl ψ,bc _ _ λy _=>bM y⟩,⟨.inl ψ,bc _ _ λy _=>FY y⟩,trivial⟩
def aW.wf(x:aW):Prop:=Eb x.T/\Q6 x.a3
def aW.sml(x:aW):Prop:=xJ x.T/\Qi x.a3
structure bi where
 j:Int
 d:Int
deriving DecidableEq,Inhabited
def bi.enc(o:dM)(x:bi):List C:=[I x.j,I x.d]
def bi.enc_fz(x:bi):eg (bi.enc .own x)=bi.enc .W x:=by simp[eg,bi.enc]
def bi.enc_fr(x:bi):hO (bi.enc .own x):=⟨trivial,trivial,trivial⟩
def bi.wf(x:bi):Prop:=n7 x.j/\n7 x.d
def bi.sml(_:bi):Prop:=True
def Gs(o:dM)(x:List bi):List C:=[.s o (x.map (bi.enc o))]
def Lr(x:List bi):Prop:=x.length<=9223372036854775807/\∀y∈x,bi.wf y
def Je(x:List bi):Prop:=x.length<=1048576/\∀y∈x,bi.sml y
structure aI where
 K:List bi
deriving DecidableEq,Inhabited
def aI.enc(o:dM)(x:aI):List C:=[.s o (x.K.map (bi.enc o))]
def aI.enc_fz(x:aI):eg (aI.enc .own x)=aI.enc .W x:=by simp[eg,aI.enc,bi.enc_fz,<-cn,I7]
def Cc:type_of% @aI.enc_fz:=@aI.enc_fz
theorem aI.enc_fr(x:aI):hO (aI.enc .own x):=⟨⟨.inl ψ,bc _ _ λy _=>bi.enc_fr y⟩,trivial⟩
def aI.wf(x:aI):Prop:=Lr x.K
def aI.sml(x:aI):Prop:=Je x.K
structure aS where
 U:aW
 Q:aI
deriving DecidableEq,Inhabited
def aS.enc(o:dM)(x:aS):List C:=[.s o (x.U.T.map (aF o)),.s o (x.U.a3.map (rB o)),.s o (x.Q.K.map (bi.enc o))]
def aS.enc_fz(x:aS):eg (aS.enc .own x)=aS.enc .W x:=by simp[eg,aS.enc,bi.enc_fz,rB,eM,<-cn,I7]
theorem aS.enc_fr(x:aS):hO (aS.enc .own x):=⟨⟨.inl ψ,bc _ _ λy _=>bM y⟩,⟨.inl ψ,bc _ _ λy _=>FY y⟩,⟨.inl ψ,bc _ _ λy _=>bi.enc_fr y⟩,trivial⟩
def aS.wf(x:aS):Prop:=aW.wf x.U/\aI.wf x.Q
def aS.sml(x:aS):Prop:=aW.sml x.U/\aI.sml x.Q
structure af where
 F:aS
 Calls:Int
 u:List Int
deriving DecidableEq,Inhabited
def af.enc(o:dM)(x:af):List C:=[.s o (x.F.U.T.map (aF o)),.s o (x.F.U.a3.map (rB o)),.s o (x.F.Q.K.map (bi.enc o)),I x.Calls,.s o (x.u.map (rI o))]
def af.enc_fz(x:af):eg (af.enc .own x)=af.enc .W x:=by simp[eg,af.enc,bi.enc_fz,rB,rI,eM,<-cn,I7]
def CT:type_of% @af.enc_fz:=@af.enc_fz
theorem af.enc_fr(x:af):hO (af.enc .own x):=⟨⟨.inl ψ,bc _ _ λy _=>bM y⟩,⟨.inl ψ,bc _ _ λy _=>FY y⟩,⟨.inl ψ,bc _ _ λy _=>bi.enc_fr y⟩,trivial,⟨.inl ψ,bc _ _ λy _=>rk y⟩,trivial⟩
def Cf:type_of% @af.enc_fr:=@af.enc_fr
def af.wf(x:af):Prop:=aS.wf x.F/\n7 x.Calls/\fU x.u
def af.sml(x:af):Prop:=aS.sml x.F/\tN x.u
structure a8 where
 At:Int
 b0:Int
deriving DecidableEq,Inhabited
def a8.enc(o:dM)(x:a8):List C:=[I x.At,I x.b0]
def a8.enc_fz(x:a8):eg (a8.enc .own x)=a8.enc .W x:=by simp[eg,a8.enc]
def a8.enc_fr(x:a8):hO (a8.enc .own x):=⟨trivial,trivial,trivial⟩
def a8.wf(x:a8):Prop:=n7 x.At/\n7 x.b0
def a8.sml(_:a8):Prop:=True
def bF(o:dM)(x:List a8):List C:=[.s o (x.map (a8.enc o))]
def eD(x:List a8):eg (bF .own x)=bF .W x:=by simp[eg,bF,a8.enc_fz,<-cn,I7]
theorem my(x:List a8):hO (bF .own x):=⟨⟨.inl ψ,bc _ _ λy _=>a8.enc_fr y⟩,trivial⟩
def Lg(x:List a8):Prop:=x.length<=9223372036854775807/\∀y∈x,a8.wf y
def gY(x:List a8):Prop:=x.length<=1048576/\∀y∈x,a8.sml y
structure au where
 R:Int
 e:Int
 b2:Int
deriving DecidableEq,Inhabited
def au.enc(o:dM)(x:au):List C:=[I x.R,I x.e,I x.b2]
def au.enc_fz(x:au):eg (au.enc .own x)=au.enc .W x:=by simp[eg,au.enc]
def au.enc_fr(x:au):hO (au.enc .own x):=⟨trivial,trivial,trivial,trivial⟩
def au.wf(x:au):Prop:=n7 x.R/\n7 x.e/\n7 x.b2
def au.sml(_:au):Prop:=True
def bX(o:dM)(x:List au):List C:=[.s o (x.map (au.enc o))]
def gq(x:List au):eg (bX .own x)=bX .W x:=by simp[eg,bX,au.enc_fz,<-cn,I7]
theorem yM(x:List au):hO (bX .own x):=⟨⟨.inl ψ,bc _ _ λy _=>au.enc_fr y⟩,trivial⟩
def MI(x:List au):Prop:=x.length<=9223372036854775807/\∀y∈x,au.wf y
def dX(x:List au):Prop:=x.length<=1048576/\∀y∈x,au.sml y
structure aB where
 R:Int
 a4:Int
 q:Int
deriving DecidableEq,Inhabited
def aB.enc(o:dM)(x:aB):List C:=[I x.R,I x.a4,I x.q]
def aB.enc_fz(x:aB):eg (aB.enc .own x)=aB.enc .W x:=by simp[eg,aB.enc]
def aB.enc_fr(x:aB):hO (aB.enc .own x):=⟨trivial,trivial,trivial,trivial⟩
def aB.wf(x:aB):Prop:=n7 x.R/\n7 x.a4/\n7 x.q
def aB.sml(_:aB):Prop:=True
def cC(o:dM)(x:List aB):List C:=[.s o (x.map (aB.enc o))]
def mg(x:List aB):eg (cC .own x)=cC .W x:=by simp[eg,cC,aB.enc_fz,<-cn,I7]
def Ms(x:List aB):Prop:=x.length<=9223372036854775807/\∀y∈x,aB.wf y
def dR(x:List aB):Prop:=x.length<=1048576/\∀y∈x,aB.sml y
structure bu where
 Id:Int
 Addr:Int
 q:Int
 a5:Int
deriving DecidableEq,Inhabited
def bu.enc(o:dM)(x:bu):List C:=[I x.Id,I x.Addr,I x.q,I x.a5]
def bu.enc_fz(x:bu):eg (bu.enc .own x)=bu.enc .W x:=by simp[eg,bu.enc]
def bu.enc_fr(x:bu):hO (bu.enc .own x):=⟨trivial,trivial,trivial,trivial,trivial⟩
def bu.wf(x:bu):Prop:=n7 x.Id/\n7 x.Addr/\n7 x.q/\n7 x.a5
def bu.sml(_:bu):Prop:=True
def mJ(o:dM)(x:List bu):List C:=[.s o (x.map (bu.enc o))]
def LM(x:List bu):eg (mJ .own x)=mJ .W x:=by simp[eg,mJ,bu.enc_fz,<-cn,I7]
def Q1(x:List bu):Prop:=x.length<=9223372036854775807/\∀y∈x,bu.wf y
def PW(x:List bu):Prop:=x.length<=1048576/\∀y∈x,bu.sml y
structure aC where
 a:List (List Int)
deriving DecidableEq,Inhabited
def aC.enc(o:dM)(x:aC):List C:=[.s o (x.a.map (aF o))]
def aC.enc_fz(x:aC):eg (aC.enc .own x)=aC.enc .W x:=by simp[eg,aC.enc,eM,<-cn,I7]
theorem aC.enc_fr(x:aC):hO (aC.enc .own x):=⟨⟨.inl ψ,bc _ _ λy _=>bM y⟩,trivial⟩
def aC.wf(x:aC):Prop:=Eb x.a
def aC.sml(x:aC):Prop:=xJ x.a
def pi(o:dM)(x:List aC):List C:=[.s o (x.map (aC.enc o))]
def LG(x:List aC):Prop:=x.length<=9223372036854775807/\∀y∈x,aC.wf y
def Jf(x:List aC):Prop:=x.length<=1048576/\∀y∈x,aC.sml y
structure dB where
 To:Int
 Addr:Int
deriving DecidableEq,Inhabited
def dB.enc(o:dM)(x:dB):List C:=[I x.To,I x.Addr]
def dB.enc_fz(x:dB):eg (dB.enc .own x)=dB.enc .W x:=by simp[eg,dB.enc]
def dB.enc_fr(x:dB):hO (dB.enc .own x):=⟨trivial,trivial,trivial⟩
def dB.wf(x:dB):Prop:=n7 x.To/\n7 x.Addr
def dB.sml(_:dB):Prop:=True
def cS(o:dM)(x:List dB):List C:=[.s o (x.map (dB.enc o))]
def rV(x:List dB):eg (cS .own x)=cS .W x:=by simp[eg,cS,dB.enc_fz,<-cn,I7]
theorem rz(x:List dB):hO (cS .own x):=⟨⟨.inl ψ,bc _ _ λy _=>dB.enc_fr y⟩,trivial⟩
def Qa(x:List dB):Prop:=x.length<=9223372036854775807/\∀y∈x,dB.wf y
def M3(x:List dB):Prop:=x.length<=1048576/\∀y∈x,dB.sml y
def yP(o:dM)(x:List (List dB)):List C:=[.s o (x.map (cS o))]
def Le(x:List (List dB)):Prop:=x.length<=9223372036854775807/\∀y∈x,Qa y
def Ju(x:List (List dB)):Prop:=x.length<=1048576/\∀y∈x,M3 y
structure aJ where
 V:List (List dB)
 a1:List (List Int)
deriving DecidableEq,Inhabited
def aJ.enc(o:dM)(x:aJ):List C:=[.s o (x.V.map (cS o)),.s o (x.a1.map (aF o))]
def aJ.enc_fz(x:aJ):eg (aJ.enc .own x)=aJ.enc .W x:=by simp[eg,aJ.enc,rV,eM,<-cn,I7]
theorem aJ.enc_fr(x:aJ):hO (aJ.enc .own x):=⟨⟨.inl ψ,bc _ _ λy _=>rz y⟩,⟨.inl ψ,bc _ _ λy _=>bM y⟩,trivial⟩
def aJ.wf(x:aJ):Prop:=Le x.V/\Eb x.a1
def aJ.sml(x:aJ):Prop:=Ju x.V/\xJ x.a1
structure aR where
 Addr:Int
 e:Int
 b7:Int
deriving DecidableEq,Inhabited
def aR.enc(o:dM)(x:aR):List C:=[I x.Addr,I x.e,I x.b7]
def aR.enc_fz(x:aR):eg (aR.enc .own x)=aR.enc .W x:=by simp[eg,aR.enc]
def aR.enc_fr(x:aR):hO (aR.enc .own x):=⟨trivial,trivial,trivial,trivial⟩
def aR.wf(x:aR):Prop:=n7 x.Addr/\n7 x.e/\n7 x.b7
def aR.sml(_:aR):Prop:=True
def de(o:dM)(x:List aR):List C:=[.s o (x.map (aR.enc o))]
def FJ(x:List aR):eg (de .own x)=de .W x:=by simp[eg,de,aR.enc_fz,<-cn,I7]
theorem wc(x:List aR):hO (de .own x):=⟨⟨.inl ψ,bc _ _ λy _=>aR.enc_fr y⟩,trivial⟩
def LP(x:List aR):Prop:=x.length<=9223372036854775807/\∀y∈x,aR.wf y
def lZ(x:List aR):Prop:=x.length<=1048576/\∀y∈x,aR.sml y
structure bO where
 c0:Int
 a6:List aR
deriving DecidableEq,Inhabited
def bO.enc(o:dM)(x:bO):List C:=[I x.c0,.s o (x.a6.map (aR.enc o))]
def bO.enc_fz(x:bO):eg (bO.enc .own x)=bO.enc .W x:=by simp[eg,bO.enc,aR.enc_fz,<-cn,I7]
theorem bO.enc_fr(x:bO):hO (bO.enc .own x):=⟨trivial,⟨.inl ψ,bc _ _ λy _=>aR.enc_fr y⟩,trivial⟩
def bO.wf(x:bO):Prop:=n7 x.c0/\LP x.a6
def bO.sml(x:bO):Prop:=lZ x.a6
structure bY where
 a2:Int
 a0:Int
 T:List Int
deriving DecidableEq,Inhabited
def bY.enc(o:dM)(x:bY):List C:=[I x.a2,I x.a0,.s o (x.T.map (rI o))]
def bY.enc_fz(x:bY):eg (bY.enc .own x)=bY.enc .W x:=by simp[eg,bY.enc,rI,<-cn,I7]
theorem bY.enc_fr(x:bY):hO (bY.enc .own x):=⟨trivial,trivial,⟨.inl ψ,bc _ _ λy _=>rk y⟩,trivial⟩
def bY.wf(x:bY):Prop:=n7 x.a2/\n7 x.a0/\fU x.T
def bY.sml(x:bY):Prop:=tN x.T
structure co where
 X:bY
 b1:Int
 b:Int
deriving DecidableEq,Inhabited
def co.enc(o:dM)(x:co):List C:=[I x.X.a2,I x.X.a0,.s o (x.X.T.map (rI o)),I x.b1,I x.b]
def co.enc_fz(x:co):eg (co.enc .own x)=co.enc .W x:=by simp[eg,co.enc,rI,<-cn,I7]
theorem co.enc_fr(x:co):hO (co.enc .own x):=⟨trivial,trivial,⟨.inl ψ,bc _ _ λy _=>rk y⟩,trivial,trivial,trivial⟩
def co.wf(x:co):Prop:=bY.wf x.X/\n7 x.b1/\n7 x.b
def co.sml(x:co):Prop:=bY.sml x.X
structure ab where
 G:af
 w:List a8
 J:List au
 M:List aB
 O:List bu
 S:List aC
 y:aJ
 a9:bO
 b8:Int
 b3:Int
 c2:Int
 b:Int
 o:Bool
 Y:co
deriving DecidableEq,Inhabited
def ab.enc(o:dM)(x:ab):List C:=[.s o (x.G.F.U.T.map (aF o)),.s o (x.G.F.U.a3.map (rB o)),.s o (x.G.F.Q.K.map (bi.enc o)),I x.G.Calls,.s o (x.G.u.map (rI o)),.s o (x.w.map (a8.enc o)),.s o (x.J.map (au.enc o)),.s o (x.M.map (aB.enc o)),.s o (x.O.map (bu.enc o)),.s o (x.S.map (aC.enc o)),.s o (x.y.V.map (cS o)),.s o (x.y.a1.map (aF o)),I x.a9.c0,.s o (x.a9.a6.map (aR.enc o)),I x.b8,I x.b3,I x.c2,I x.b,B x.o,I x.Y.X.a2,I x.Y.X.a0,.s o (x.Y.X.T.map (rI o)),I x.Y.b1,I x.Y.b]
def ab.enc_fz(x:ab):eg (ab.enc .own x)=ab.enc .W x:=by simp[eg,ab.enc,aC.enc_fz,bi.enc_fz,aB.enc_fz,bu.enc_fz,a8.enc_fz,au.enc_fz,aR.enc_fz,rB,rV,rI,eM,<-cn,I7]
theorem ab.enc_fr(x:ab):hO (ab.enc .own x):=⟨⟨.inl ψ,bc _ _ λy _=>bM y⟩,⟨.inl ψ,bc _ _ λy _=>FY y⟩,⟨.inl ψ,bc _ _ λy _=>bi.enc_fr y⟩,trivial,⟨.inl ψ,bc _ _ λy _=>rk y⟩,⟨.inl ψ,bc _ _ λy _=>a8.enc_fr y⟩,⟨.inl ψ,bc _ _ λy _=>au.enc_fr y⟩,⟨.inl ψ,bc _ _ λy _=>aB.enc_fr y⟩,⟨.inl ψ,bc _ _ λy _=>bu.enc_fr y⟩,⟨.inl ψ,bc _ _ λy _=>aC.enc_fr y⟩,⟨.inl ψ,bc _ _ λy _=>rz y⟩,⟨.inl ψ,bc _ _ λy _=>bM y⟩,trivial,⟨.inl ψ,bc _ _ λy _=>aR.enc_fr y⟩,trivial,trivial,trivial,trivial,trivial,trivial,trivial,⟨.inl ψ,bc _ _ λy _=>rk y⟩,trivial,trivial,trivial⟩
def ab.wf(x:ab):Prop:=af.wf x.G/\Lg x.w/\MI x.J/\Ms x.M/\Q1 x.O/\LG x.S/\aJ.wf x.y/\bO.wf x.a9/\n7 x.b8/\n7 x.b3/\n7 x.c2/\n7 x.b/\UW x.o/\co.wf x.Y
def ab.sml(x:ab):Prop:=af.sml x.G/\gY x.w/\dX x.J/\dR x.M/\PW x.O/\Jf x.S/\aJ.sml x.y/\bO.sml x.a9/\co.sml x.Y
structure jW where
 b6:Int
 c3:Int
 c8:Int
 c4:Int
deriving DecidableEq,Inhabited
def jW.enc(o:dM)(x:jW):List C:=[I x.b6,I x.c3,I x.c8,I x.c4]
def jW.enc_fr(x:jW):hO (jW.enc .own x):=⟨trivial,trivial,trivial,trivial,trivial⟩
structure dm where
 Id:Int
 q:Int
 c7:Int
deriving DecidableEq,Inhabited
def dm.enc(o:dM)(x:dm):List C:=[I x.Id,I x.q,I x.c7]
def dm.enc_fz(x:dm):eg (dm.enc .own x)=dm.enc .W x:=by simp[eg,dm.enc]
def dm.enc_fr(x:dm):hO (dm.enc .own x):=⟨trivial,trivial,trivial,trivial⟩
structure bI where
 Id:Int
 T:List Int
deriving DecidableEq,Inhabited
def bI.enc(o:dM)(x:bI):List C:=[I x.Id,.s o (x.T.map (rI o))]
def bI.enc_fz(x:bI):eg (bI.enc .own x)=bI.enc .W x:=by simp[eg,bI.enc,rI,<-cn,I7]
theorem bI.enc_fr(x:bI):hO (bI.enc .own x):=⟨trivial,⟨.inl ψ,bc _ _ λy _=>rk y⟩,trivial⟩
def bI.sml(x:bI):Prop:=tN x.T
def FD(x:List bI):Prop:=x.length<=1048576/\∀y∈x,bI.sml y
structure aA where
 b:Int
 O:List bI
deriving DecidableEq,Inhabited
def aA.enc(o:dM)(x:aA):List C:=[I x.b,.s o (x.O.map (bI.enc o))]
def aA.enc_fz(x:aA):eg (aA.enc .own x)=aA.enc .W x:=by simp[eg,aA.enc,bI.enc_fz,<-cn,I7]
def Cg:type_of% @aA.enc_fz:=@aA.enc_fz
theorem aA.enc_fr(x:aA):hO (aA.enc .own x):=⟨trivial,⟨.inl ψ,bc _ _ λy _=>bI.enc_fr y⟩,trivial⟩
def aA.sml(x:aA):Prop:=FD x.O
structure br where
 Z:ab
 b5:aA
deriving DecidableEq,Inhabited
def br.enc(o:dM)(x:br):List C:=[.s o (x.Z.G.F.U.T.map (aF o)),.s o (x.Z.G.F.U.a3.map (rB o)),.s o (x.Z.G.F.Q.K.map (bi.enc o)),I x.Z.G.Calls,.s o (x.Z.G.u.map (rI o)),.s o (x.Z.w.map (a8.enc o)),.s o (x.Z.J.map (au.enc o)),.s o (x.Z.M.map (aB.enc o)),.s o (x.Z.O.map (bu.enc o)),.s o (x.Z.S.map (aC.enc o)),.s o (x.Z.y.V.map (cS o)),.s o (x.Z.y.a1.map (aF o)),I x.Z.a9.c0,.s o (x.Z.a9.a6.map (aR.enc o)),I x.Z.b8,I x.Z.b3,I x.Z.c2,I x.Z.b,B x.Z.o,I x.Z.Y.X.a2,I x.Z.Y.X.a0,.s o (x.Z.Y.X.T.map (rI o)),I x.Z.Y.b1,I x.Z.Y.b,I x.b5.b,.s o (x.b5.O.map (bI.enc o))]
theorem br.enc_fr(x:br):hO (br.enc .own x):=⟨⟨.inl ψ,bc _ _ λy _=>bM y⟩,⟨.inl ψ,bc _ _ λy _=>FY y⟩,⟨.inl ψ,bc _ _ λy _=>bi.enc_fr y⟩,trivial,⟨.inl ψ,bc _ _ λy _=>rk y⟩,⟨.inl ψ,bc _ _ λy _=>a8.enc_fr y⟩,⟨.inl ψ,bc _ _ λy _=>au.enc_fr y⟩,⟨.inl ψ,bc _ _ λy _=>aB.enc_fr y⟩,⟨.inl ψ,bc _ _ λy _=>bu.enc_fr y⟩,⟨.inl ψ,bc _ _ λy _=>aC.enc_fr y⟩,⟨.inl ψ,bc _ _ λy _=>rz y⟩,⟨.inl ψ,bc _ _ λy _=>bM y⟩,trivial,⟨.inl ψ,bc _ _ λy _=>aR.enc_fr y⟩,trivial,trivial,trivial,trivial,trivial,trivial,trivial,⟨.inl ψ,bc _ _ λy _=>rk y⟩,trivial,trivial,trivial,⟨.inl ψ,bc _ _ λy _=>bI.enc_fr y⟩,trivial⟩
structure Uk where
 a4:Int
 Mapped:Int
 U:Int
 Held:Int
 nt:Int
 Cached:Int
 c5:Int
 Posted:Int
deriving DecidableEq,Inhabited
variable{α:Type}
def Lm{β:Type}{f:α->β}{l:List α}{K:Nat->Prop}(h:K l.length):Ln (l.map f).length K:=Ln.mk (I1 ..) h
variable{z:Int}
def Wm{K:Int->Prop}(h : -9223372036854775808<=z/\z<=9223372036854775807)(a:K z):Wr .i64 z K:=CO (eX h.1 h.2) a
variable{X Y:Prop}
def dT{p:Prop}[Decidable p](h:p)(a:p->X):Bf (decide p) X Y:=.D a λe=>absurd h e
def dF{p:Prop}[Decidable p](h:¬p)(a:¬p->Y):Bf (decide p) X Y:=.D (λe=>absurd e h) a
variable{a b:Int}
def nT(h:a≠b)(c:a≠b->X):Bf (a != b) X Y:=.N c λe=>absurd e h
def nF(h:a=b)(c:a=b->Y):Bf (a != b) X Y:=.N (λe=>absurd h e) c
def eT(h:a=b)(c:a=b->X):Bf (a == b) X Y:=.E c λe=>absurd h e
def eF(h:a≠b)(c:a≠b->Y):Bf (a == b) X Y:=.E (λe=>absurd e h) c
def Bn{b:Bool}(h:Bf b Y X):Bf (!b) X Y:=.not h
def Bt(h:X):Bf true X Y:=.t rfl h
def Bu(h:Y):Bf false X Y:=.f rfl h
def Fm{k k':Kd}{cs a:List C}(h1:k=k')(h:cs=a):jm k k' cs a:=.mk h1 h
def dV{p:Prop}[Decidable p](h:p)(a:X):Bf (decide p) X Y:=.D (λ_=>a) λe=>absurd h e
def dW{p:Prop}[Decidable p](h:¬p)(a:Y):Bf (decide p) X Y:=.D (λe=>absurd e h) λ_=>a
def nV(h:a≠b)(c:X):Bf (a != b) X Y:=.N (λ_=>c) λe=>absurd e h
def nW(h:a=b)(c:Y):Bf (a != b) X Y:=.N (λe=>absurd h e) λ_=>c
def eV(h:a=b)(c:X):Bf (a == b) X Y:=.E (λ_=>c) λe=>absurd h e
def eW(h:a≠b)(c:Y):Bf (a == b) X Y:=.E (λe=>absurd e h) λ_=>c
structure Md(Y:Prop):Prop where
 out:Y
def gO(y:Y)(h:Md Y->X:=by intro y;(conv=>whnf);(first|with_reducible (first|refine Lm ?_|refine Wm ω ?_|refine Bn ?_|refine Fm rfl ?_)|refine Bt ?_|refine Bu ?_|fail);exact y.out):X:=h ⟨y⟩
def gP(y:Y)(h:Md Y->X:=by intro y;(conv=>whnf);(first|with_reducible (first|refine Lm ?_|refine Wm ω ?_|refine Bn ?_|refine Fm rfl ?_)|refine Bt ?_|refine Bu ?_|refine C9 (by assumption) ?_|refine CE (aa (by assumption)) ?_|refine CK rfl (aa (by assumption)) rfl ?_|refine CC ?_|fail);exact y.out):X:=h ⟨y⟩
def gD(y:Y)(h:Md Y->X:=by intro y;(conv=>whnf);(first|with_reducible (first|refine Lm ?_|refine Wm ω ?_|refine dV ω ?_|refine dW ω ?_|refine Bn ?_|refine Fm rfl ?_)|refine Bt ?_|refine Bu ?_|fail);exact y.out):X:=h ⟨y⟩
def gE(y:Y)(h:Md Y->X:=by intro y;(conv=>whnf);(first|with_reducible (first|refine Lm ?_|refine Wm ω ?_|refine dV ω ?_|refine dW ω ?_|refine Bn ?_|refine Fm rfl ?_)|refine Bt ?_|refine Bu ?_|refine C9 (by assumption) ?_|refine CE (aa (by assumption)) ?_|refine CK rfl (aa (by assumption)) rfl ?_|refine CC ?_|fail);exact y.out):X:=h ⟨y⟩
def gA(y:Y)(h:Md Y->X:=by intro y;(conv=>whnf);(first|with_reducible (first|refine Lm ?_|refine Wm ω ?_|refine dV ω ?_|refine dW ω ?_|refine nV ω ?_|refine nW ω ?_|refine eV ω ?_|refine eW ω ?_|refine Bn ?_|refine Fm rfl ?_)|refine Bt ?_|refine Bu ?_|fail);exact y.out):X:=h ⟨y⟩
def gB(y:Y)(h:Md Y->X:=by intro y;(conv=>whnf);(first|with_reducible (first|refine Lm ?_|refine Wm ω ?_|refine dV ω ?_|refine dW ω ?_|refine nV ω ?_|refine nW ω ?_|refine eV ω ?_|refine eW ω ?_|refine Bn ?_|refine Fm rfl ?_)|refine Bt ?_|refine Bu ?_|refine C9 (by assumption) ?_|refine CE (aa (by assumption)) ?_|refine CK rfl (aa (by assumption)) rfl ?_|refine CC ?_|fail);exact y.out):X:=h ⟨y⟩
variable{z1 z2:Int}
def Ux(h:z1=z2):QK (I z1) (I z2):=by subst h;rfl
def UK(c:C):QK c c:=(nh [c]).1
def wA(h:X:=by repeat'(first|exact trivial|rfl|refine CM ?_ ?_)):X:=h
def wB(h:X:=by repeat'(first|exact trivial|rfl|refine CM ?_ ?_|(exact Ux (by first|omega|(simp only;omega)|(simp;omega))))):X:=h
def wC(h:X:=by repeat'(first|exact trivial|rfl|exact UK _|refine CM ?_ ?_|(exact Ux (by first|omega|(simp only;omega)|(simp;omega))))):X:=h
variable{rcs: List C}{sh: Bool}{c: Code}{f: Nat}
def fO(n : Nat){a : Func}{A : List RA}{k : Kd}(tb : List (Nat × Nat × List Nat))(d : Tryz.prog.funcs[f]? = some a)(e : a.body = some c)(g : aw Tryz.prog TE ⟨n, [], []⟩ (DF Tryz.prog TE ⟨n, [], []⟩ tb) c (Q2 TE a.results.toList k rcs) (lay (w9 0 A)))(b : sh = true \/ hO rcs := by exact .inr ⟨trivial, trivial⟩)(h : (a.name == "runtime.NumGoroutine") = false := by kernel_rfl)(i : ge (mR tb) c = true := by kernel_rfl)(j : A.length + (a.ntmps - A.length) = n := by rfl) : zzA f sh A k rcs := U5 d h e i j b g
def fP(n : Nat){a : Func}{A : List RA}{k : Kd}(mo : List (Nat × List Nat))(tb : List (Nat × Nat × List Nat))(d : Tryz.prog.funcs[f]? = some a)(e : a.body = some c)(g : aw Tryz.prog TE ⟨n, [], mo⟩ (DF Tryz.prog TE ⟨n, [], mo⟩ tb) c (Q2 TE a.results.toList k rcs) (lay (w9 0 A)))(b : sh = true \/ hO rcs := by exact .inr ⟨trivial, trivial⟩)(h : (a.name == "runtime.NumGoroutine") = false := by kernel_rfl)(i : ge (mR tb) c = true := by kernel_rfl)(j : A.length + (a.ntmps - A.length) = n := by rfl) : zzA f sh A k rcs := U5 d h e i j b g
def fM(n : Nat){a : Func}{A B : List MA}{k : Kd}(mo : List (Nat × List Nat))(tb : List (Nat × Nat × List Nat))(b : List (Nat × Nat))(g : Tryz.prog.funcs[f]? = some a)(h : a.body = some c)(i : ∀(u : Nat -> Nat -> Value)(p : Nat -> Value), aw Tryz.prog TE ⟨n, JL p 0 A, mo⟩ (DF Tryz.prog TE ⟨n, JL p 0 A, mo⟩ tb) c (T8 TE a.results.toList k rcs u A B b) (lay (z7 u 0 A)))(d : sh = true \/ hO rcs := by exact .inr ⟨trivial, trivial⟩)(j : (a.name == "runtime.NumGoroutine") = false := by kernel_rfl)(l : ge (mR tb) c = true := by kernel_rfl)(o : A.length + (a.ntmps - A.length) = n := by rfl)(e : HT (F5 0 A b) = true := by rfl) : zzB f sh A B k rcs := U6 b g j h l o e d i
section
variable{α:Type}{l:List α}{p:α->Bool}{i:Nat}{x:α}
theorem dd(h:l[i]? = some x)(a:(l.take i).all p=true)(b:p x=true):(l.take (i+1)).all p=true:=by grind [Y6]
theorem ik(h:l[i]? = some x)(a:p x=false):l.all p=false:=ψ
theorem nL(a:l.length<=i)(b:(l.take i).all p=true):l.all p=true:=by grind [V8]
end
variable{i:Nat}
theorem wO{β:Type}{a:List α}{b:List β}{x:α}{y:β}(h1:a[i]? = some x)(c:b[i]? = some y):(a.zip b)[i]? = some (x,y):=ψ
def nth[Inhabited α](xs:List α)(i:Nat):α:=xs.getD i default
theorem ao[Inhabited α]{xs:List α}(h:i<xs.length):xs[i]? = some (nth xs i):=by grind [nth]
theorem bh[Inhabited α]{xs:List α}{y:α}(h:xs[i]? = some y):nth xs i=y:=by grind [nth]
theorem am[Inhabited α]{xs:List α}(h:i<xs.length):nth xs i∈xs:=O2 (ao h)
def dr(n:Nat)(p:Nat->Bool):Bool:=(List.range n).all p
variable{n:Nat}
theorem cA{p:Nat->Bool} : dr n p=true↔∀j,j<n->p j=true:=by
 unfold dr;simp
theorem bU{p:Nat->Bool}(h:dr n p=true)(a:p n=true):dr (n+1) p=true:=by grind [cA]
theorem cF{p:Nat->Bool}(a:i<n)(b:p i=false):dr n p=false:=by grind [cA]
theorem fk{p:Nat->Bool}(h:dr n p=true)(a:i<n):p i=true:=cA.1 h i a
def iZ(u:Bool)(v:Int):Bool:=decide (0<=v/\v<=999)&&(u || decide (v=0))
def gT(r:List Int)(u:Bool):Bool:=decide (r.length=16)&&r.all (iZ u)
def cW(f:aW):Bool:=decide (1<=f.T.length/\f.T.length<=32)&&(decide (f.a3.length=f.T.length)&&(f.T.zip f.a3).all λq=>gT q.1 q.2)
def iX{f:aW}{r:List Int}{u:Bool}(h1:f.T[i]? = some r)(a:f.a3[i]? = some u)(b:gT r u=false):cW f=false:=by
 unfold cW;rw[ik (p:=λq=>gT q.1 q.2) (wO h1 a) b];simp
variable{k:Nat}
theorem sN{r:List Int}{u:Bool}{v:Int}(h1:r[k]? = some v)(a:iZ u v=false):gT r u=false:=by grind [gT]
theorem tA{f:aW}(h:cW f=true):1<=f.T.length/\f.T.length<=32/\f.a3.length=f.T.length:=by grind [cW]
def kV(a:Int)(e:bi):Bool:=decide (0<=e.j/\e.j<=2/\(e.j=0->e.d=0)/\(e.j≠0->0<=e.d/\e.d<a))
def gR(t:aI)(a:Int):Bool:=dr t.K.length (λi=>kV a (nth t.K i))&&decide (1<=t.K.length/\t.K.length<=32)
def N5(t:aI)(f:Int)(i:Nat):Bool:=decide ((nth t.K i).j≠0/\(nth t.K i).d=f)
def kv(t:aI)(f:Int)(n:Nat):List Int:=((List.range n).filter (N5 t f)).map λ(i:Nat)=>(i:Int)
def pagesOn(t:aI)(f:Int):List Int:=kv t f t.K.length
theorem Bq{t:aI}{f:Int}(h:N5 t f n=true):kv t f (n+1)=kv t f n++[(n:Int)]:=by grind [List.range_succ,kv]
theorem Gf{t:aI}{f:Int}(h:N5 t f n=false):kv t f (n+1)=kv t f n:=by grind [List.range_succ,kv]
theorem uU(t:aI)(f:Int)(n:Nat):(kv t f n).length<=n:=by grind [kv]
def ac(t:aI)(p:Int):bi:=if 0<=p/\p<t.K.length then nth t.K p.toNat else⟨0,0⟩
def pZ(m:aS)(i:Nat):Bool:=nth m.U.a3 i == decide (0<(pagesOn m.Q (i:Int)).length)
def cZ(m:aS):Bool:=(cW m.U&&gR m.Q m.U.a3.length)&&dr m.U.a3.length (pZ m)
def ay(k:af):Bool:=(dr k.u.length (λi=>decide (0<=nth k.u i))&&cZ k.F)&&decide (0<=k.Calls/\k.Calls<=100000/\k.u.length<=40)
def rangeIn(pages:Int)(r:a8):Bool:=decide (1<=r.b0/\r.b0<=pages/\0<=r.At/\r.At<=pages - r.b0)
def gM(pages:Int)(xs:List a8)(i:Nat):Bool:=rangeIn pages (nth xs i)&&decide (i=0\/(nth xs (i - 1)).At+(nth xs (i - 1)).b0<(nth xs i).At)
def bG(pages:Int)(xs:List a8):Bool:=dr xs.length (gM pages xs)&&decide (1<=pages/\pages<=32)
def wy(page:Int)(r:a8):Bool:=decide (r.At<=page)&&decide (page<IntKind.i64.wrap (r.At+r.b0))
def lim(k:Int):Int:=if k=0 then 65535 else if k=1 then 255 else if k=2 then 15 else if k=3 then 3 else 0
def slots(k:Int):Int:=if k=0 then 16 else if k=1 then 8 else if k=2 then 4 else if k=3 then 2 else 0
def bf(s:au):Bool:=decide (0<=s.R/\s.R<=31/\0<=s.e/\s.e<=3/\0<=s.b2/\s.b2<=lim s.e)
def gi(n:Int):Int:=if 9<=n/\n<=1000 then(n+15) / 16 else 0
def bL(l:aB):Bool:=decide (9<=l.q/\l.q<=1000/\l.a4=(l.q+15) / 16/\0<=l.R/\l.R<=32 - l.a4)
def lpgs(l:aB)(n:Nat):List Int:=(List.range n).map λ(i:Nat)=>l.R+i
def pgs(sp:List au)(la:List aB):List Int:=sp.map (·.R)++la.flatMap λl=>lpgs l l.a4.toNat
def bp(sp:List au)(la:List aB):Bool:=(sp.all bf&&la.all bL)&&decide (pgs sp la).Nodup
def di(s:au)(a:Int):Bool:=bf s&&decide (16*s.R<=a/\a<=16*s.R+15)
def aX(b i:Int):Bool:=decide (0<=b/\0<=i/\i<=15/\b / 2 ^ i.toNat % 2=1)
def bH(l:aB)(a:Int):Bool:=bL l&&decide (16*l.R<=a/\a<=16*l.R+l.q - 1)
def csz(k:Int):Int:=if 0<=k/\k<=3 then 2 ^ k.toNat else 0
def jo(s:au)(a:Int):Int × Int:=if di s a then((a - 16*s.R) / csz s.e,(a - 16*s.R) % csz s.e) else(-1,-1)
def nI(i:Nat)(s:au)(a:Int):jW:=⟨if aX s.b2 ((a - 16*s.R) / csz s.e) then 1 else 2,i,(a - 16*s.R) / csz s.e,(a - 16*s.R) % csz s.e⟩
def denotes(sp:List au)(la:List aB)(a:Int):jW:=
 match sp.findIdx? (di · a) with
 | some i=>nI i (nth sp i) a
 | none=>match la.findIdx? (bH · a) with
  | some i=>⟨3,i,0,a - 16*(nth la i).R⟩
  | none=>⟨0,0,0,0⟩
theorem wP{pr:α->Bool}{xs:List α}{y:α}(a:xs[i]? = some y)(b:pr y=true)(c:∀(j:Nat)(z:α),j<i->xs[j]? = some z->pr z=false):xs.findIdx? pr=some i:=by grind [S8]
theorem E6{pr:α->Bool}{xs:List α}(a:xs.length<=i)(b:∀(j:Nat)(z:α),j<i->xs[j]? = some z->pr z=false):xs.findIdx? pr=none:=
 List.findIdx?_eq_none_iff.2 λz c=>by grind [List.mem_iff_getElem?]
theorem fY{pr:α->Bool}{xs:List α}{y:α}(a:xs[i]? = some y)(b:pr y=false)(c:∀(j:Nat)(z:α),j<i->xs[j]? = some z->pr z=false):∀(j:Nat)(z:α),j<i+1->xs[j]? = some z->pr z=false:=ψ
def ee(pr:α->Bool)(xs:List α):Int:=match xs.findIdx? pr with|some i=>(i:Nat)|none=>-1
theorem dS{pr:α->Bool}{xs:List α}{y:α}(a:xs[i]? = some y)(b:pr y=true)(c:∀(j:Nat)(z:α),j<i->xs[j]? = some z->pr z=false):ee pr xs=(i:Nat):=by
 unfold ee;rw[wP a b c]
theorem gx{pr:α->Bool}{xs:List α}(a:xs.length<=i)(b:∀(j:Nat)(z:α),j<i->xs[j]? = some z->pr z=false):ee pr xs = -1:=by grind [E6,ee]
theorem lB(pr:α->Bool)(xs:List α):decide (ee pr xs≥0)=xs.any pr:=by grind [ee]
def meshable(s t:au):Bool:=(bf s&&bf t)&&decide (s.e=t.e/\s.R≠t.R/\s.b2.toNat &&& t.b2.toNat=0)
def nK(n:Int)(p:dB):Bool:=decide (0<=p.To/\p.To<=n - 1/\0<=p.Addr)
def Rd(z:Int):Bool:=decide (0<=z)
def ip(m:aJ)(i:Nat):Bool:=(nth m.V i).all (nK m.V.length)&&(nth m.a1 i).all Rd
def bC(m:aJ):Nat->Int
 | 0=>0
 | i+1=>bC m i+((nth m.V i).length+(nth m.a1 i).length)
def bQ(m:aJ):Bool:=(decide (1<=m.V.length/\m.V.length<=4/\m.a1.length=m.V.length)&&dr m.V.length (ip m))&&decide (bC m m.V.length<=30)
def aP(m:aJ):List Int:=if bQ m then(m.V.flatMap λl=>l.map (·.Addr))++m.a1.flatten else []
def fj(a:Int)(y:aR):Bool:=decide (y.Addr=a)
def ly(xs:List aR)(i:Nat):Bool:=decide (0<=(nth xs i).e/\(nth xs i).e<=3/\0<=(nth xs i).Addr/\0<=(nth xs i).b7/\(i=0\/(nth xs (i - 1)).b7<=(nth xs i).b7))&&!(xs.take i).any (fj (nth xs i).Addr)
def quarCells(xs:List aR):Nat->Int
 | 0=>0
 | i+1=>quarCells xs i+csz (nth xs i).e
def gK(q:bO):Bool:=dr q.a6.length (ly q.a6)&&decide (0<=q.c0/\q.c0<=500/\quarCells q.a6 q.a6.length<=q.c0)
def mU(xs:List Int)(i:Nat):Bool:=decide (0<=nth xs i/\nth xs i<=15/\(i=0\/nth xs (i - 1)<nth xs i))
def eO(p:bY):Bool:=dr p.T.length (mU p.T)&&decide (0<=p.a2/\p.a2<=31/\0<=p.a0/\p.a0<=31/\p.a2≠p.a0)
def jH(j:co):Bool:=eO j.X&&decide (0<=j.b1/\j.b1<=5/\0<=j.b/\j.b<=j.X.T.length)
def re(j:co):Bool:=decide (j.X.a2=0/\j.X.a0=0/\j.X.T.length=0/\j.b1=0/\j.b=0)
def aY(h:ab)(p:Int):List Int:=if(ac h.G.F.Q p).j=0 then [] else pagesOn h.G.F.Q (ac h.G.F.Q p).d
def mM(p:Int)(s:au):Bool:=decide (s.R=p)
def gX(h:ab)(p:Int):Int:=ee (mM p) h.J
def aL(n:Int):Int:=if n<1 then -1 else if n<=1 then 0 else if n<=2 then 1 else if n<=4 then 2 else if n<=8 then 3 else -1
set_option maxRecDepth 20000
set_option maxHeartbeats 2000000
def aH(n lo a:Int):zzA 110 false [.val none [I n],.val none [I lo],.val none [I a]] .one [B (decide (lo<=n/\n<=a))]:=by
 refine fO 15 [] Tryz.func110 rfl ?_
 repeat'(first|refine gP ?_|(conv=>whnf);first|with_reducible refine Bf.D (λb=>?_) (λb=>?_))
 all_goals exact Z0 (λz=>[B z]) (by simp;try omega)
def aK(n lo a:Int):zzA 63 false [.val none [I n],.val none [I lo],.val none [I a]] .one [B (decide (lo<=n/\n<=a))]:=by
 refine fO 15 [] Tryz.func63 rfl ?_
 repeat'(first|refine gP ?_|(conv=>whnf);first|with_reducible refine Bf.D (λb=>?_) (λb=>?_))
 all_goals exact Z0 (λz=>[B z]) (by simp;try omega)
def fR(k:Int):zzA 232 false [.val none [I k]] .one [B (decide (0<=k/\k<=3))]:=by
 refine fO 5 [] Tryz.func232 rfl ?_
 repeat'(first|refine gP ?_|(conv=>whnf);first|refine C9 (aK k 0 3) ?_)
 rfl
theorem ew(k:Int):zzA 106 false [.val none [I k]] .one [I (csz k)]:=by
 by_cases b:0<=k/\k<=3
 ·obtain rfl|rfl|rfl|rfl:k=0\/k=1\/k=2\/k=3:=ω
  all_goals
   refine fO 8 [] Tryz.func106 rfl ?_
   repeat'(first|refine gE ?_|(conv=>whnf);first|with_reducible refine Bf.D (λa=>?_) (λa=>?_)|refine C9 (fR _) ?_|refine CP (by decide) ?_|refine CO rfl ?_)
   exact Z0 (λz=>[I z]) (by decide)
 refine fO 8 [] Tryz.func106 rfl ?_
 repeat'(first|refine gE ?_|(conv=>whnf);first|with_reducible refine Bf.D (λa=>?_) (λa=>?_)|refine C9 (fR _) ?_)
 exact Z0 (λz=>[I z]) (by grind [csz])
theorem eB(k:Int):zzA 361 false [.val none [I k]] .one [I (csz k)]:=by
 by_cases b:0<=k/\k<=3
 ·obtain rfl|rfl|rfl|rfl:k=0\/k=1\/k=2\/k=3:=ω
  all_goals
   refine fO 9 [] Tryz.func361 rfl ?_
   repeat'(first|refine gE ?_|(conv=>whnf);first|with_reducible refine Bf.D (λa=>?_) (λa=>?_)|refine C9 (aH _ 0 3) ?_|refine CP (by decide) ?_|refine CO rfl ?_)
   exact Z0 (λz=>[I z]) (by decide)
 refine fO 9 [] Tryz.func361 rfl ?_
 repeat'(first|refine gE ?_|(conv=>whnf);first|with_reducible refine Bf.D (λa=>?_) (λa=>?_)|refine C9 (aH _ 0 3) ?_)
 exact Z0 (λz=>[I z]) (by grind [csz])
theorem nq(xs:List Int)(a:Int)(h:xs.length<=9223372036854775807):zzA 353 false [.val none (aF .W xs),.val none [I a]] .one [B (decide (a∈xs))]:=by
 refine fO 18 [] Tryz.func353 rfl ?_
 repeat'(first|refine gP ?_|fail)
 (conv=>whnf)
 refine CG (ι:=Nat) (λi=>[(0,.H .one (aF .W xs)),(1,.H .one [I a]),(5,.H .one [I (i:Nat)])]) (λi=>i<=xs.length/\a∉xs.take i) (λi=>xs.length - i) 0 ?_ ψ λi c=>?_
 ·exact wB
 obtain⟨c,d⟩:=c;by_cases b:i<xs.length
 ·obtain⟨y,e⟩ : ∃y,xs[i]? = some y:=⟨_,X2 b⟩
  repeat'(first|refine gE ?_|(conv=>whnf);first|with_reducible (first|refine CE (aa e) ?_|refine Bf.E (λg=>?_) (λg=>?_)))
  ·exact Z0 (λz=>[B z]) ψ
  (conv=>whnf)
  refine CF (i+1) ⟨ω,?_⟩ ω ?_
  ·grind [Y6]
  exact wB
 repeat'(first|refine gE ?_|fail)
 rw[V8 ω]at d;exact Z0 (λz=>[B z]) ψ
set_option maxHeartbeats 4000000
def good(k:Int)(s:List Int)(a:Int):Prop:=0<=a/\a<=511/\a.tmod (csz k)=0/\a∉s
instance (k:Int) (s:List Int) (a:Int):Decidable (good k s a):=by unfold good;exact inferInstance
def su(k:Int):List Int->List Int->Option (List Int)
 | s,[]=>some s
 | s,a::l=>if good k s a then su k (s++[a]) l else none
def fL(k:Nat)(s l:List Int):Option (List Int):=if l.length<=8/\k<=3 then su k s l else none
def im:Nat->List Int->List (List Int)->Option (List Int)
 | _,s,[]=>some s
 | k,s,l::ls=>(fL k s l).bind λa=>im (k+1) a ls
def bz(c:aC):Bool:=decide (c.a.length=4)&&(im 0 [] c.a).isSome
theorem rW(k:Int):∀(a s b:List Int),su k s (a++b)=(su k s a).bind λc=>su k c b
 | [],s,b=>rfl
 | x::a,s,b=>by
  simp only[List.cons_append,su];split
  ·exact rW k a _ b
  rfl
theorem pV:∀(a:List (List Int))(k:Nat)(s:List Int)(b:List (List Int)),im k s (a++b)=(im k s a).bind λc=>im (k+a.length) c b
 | [],k,s,b=>rfl
 | l::a,k,s,b=>by
  simp only[List.cons_append,im,Option.bind_assoc,List.length_cons]
  congr 1;funext c
  rw[pV a (k+1) c b,show k+1+a.length=k+(a.length+1) by omega]
variable{l:List Int}
theorem JE{k:Int}{b s:List Int}{j:Nat}(c:l[j]? = some a)(h:su k b (l.take j)=some s)(d:good k s a):su k b (l.take (j+1))=some (s++[a]):=by grind [Y6,rW,su]
theorem MQ{b s:List Int}{j:Nat}(c:l[j]? = some a)(h:su k b (l.take j)=some s)(d:¬good k s a):fL k b l=none:=by
 unfold fL;split
 all_goals grind [List.drop_eq_getElem_cons,List.take_append_drop,rW,su]
theorem EO{k:Int} : ∀{l s b:List Int},su k s l=some b->b.length=s.length+l.length
 | [],s,b,h=>by grind [su]
 | a::l,s,b,h=>by
  simp only[su]at h;split at h
  ·have:=EO h;grind
  cases h
theorem uH{a:List (List Int)}{s:List Int}(b:a[i]? = some l)(h:im 0 [] (a.take i)=some s):im 0 [] (a.take (i+1))=fL i s l:=by
 have c:=(Z2.1 b).1;rw[Y6,b,Option.toList_some,pV,h];simp only[Option.bind_some,im,O8,C2,Nat.min_eq_left (Nat.le_of_lt c)]
 grind
theorem ma{c:aC}{s:List Int}(a:c.a[i]? = some l)(h:im 0 [] (c.a.take i)=some s)(b:fL i s l=none):bz c=false:=by
 have d:=uH a h
 grind [List.take_append_drop,pV,bz]
theorem FU:∀{b:List (List Int)}{k:Nat}{s a:List Int},im k s b=some a->a.length<=s.length+8*b.length
 | [],k,s,a,h=>by grind [im]
 | l::b,k,s,a,h=>by
  simp only[im]at h;unfold fL at h;split at h
  ·cases c:su k s l with
   | none=>grind
   | some d=>
    rw[c]at h;have e:=EO c;have f:=FU (show im (k+1) d b=some a from h)
    grind
  cases h
def ME(h:i<=3):csz (i:Int)≠0:=by
 obtain rfl|rfl|rfl|rfl:i=0\/i=1\/i=2\/i=3:=ω
 all_goals decide
def cz : ∀r∈l.map (rI .own),r.length=1:=by
 intro r a;obtain⟨z,-,rfl⟩:=O5.1 a;rfl
theorem og(c:aC)(t:aC.sml c):zzA 214 false [.val (some 1) (aC.enc .W c)] .one [B (bz c)]:=by
 have G:=t.1;refine fO 60 [] Tryz.func214 rfl ?_
 repeat'(first|refine gP ?_|(conv=>whnf);first|with_reducible refine Bf.N (λe=>?_) (λe=>?_))
 ·exact Z0 (λz=>[B z]) (by grind [bz])
 have H:c.a.length=4:=ω
 (conv=>whnf)
 refine CG (ι:=Nat × List Int) (λi=>[(1,.H .box (aC.enc .W c)),(3,.H .one (aF .own i.2)),(4,.H .one [I (i.1:Nat)])]) (λi=>i.1<=4/\im 0 [] (c.a.take i.1)=some i.2) (λi=>4 - i.1) (0,[]) ?_ ⟨X0 _,rfl⟩ λi k=>?_
 ·exact wB
 obtain⟨i,s⟩:=i;obtain⟨k,b⟩:=k;simp only at k b |-;have g:=FU b;rw[C2]at g;simp only[List.length_nil]at g;by_cases u:i<4
 ·obtain⟨l,d⟩ : ∃l,c.a[i]? = some l:=(ψ)
  have w:l.length<=1048576:=t.2 l ψ
  repeat'(first|refine gE ?_|(conv=>whnf);first|with_reducible (first|refine CE (aa d) ?_|refine Bf.D (λe=>?_) (λe=>?_)))
  ·exact Z0 (λz=>[B z]) (ma d b (by grind [fL])).symm
  have E:l.length<=8:=ω
  (conv=>whnf)
  refine CG (ι:=Nat × List Int) (λj=>[(1,.H .box (aC.enc .W c)),(3,.H .one (aF .own j.2)),(4,.H .one [I (i:Nat)]),(5,.H .one [I (j.1:Nat)])]) (λj=>j.1<=l.length/\su i s (l.take j.1)=some j.2) (λj=>l.length - j.1) (0,s) ?_ ⟨X0 _,rfl⟩ λj n=>?_
  ·exact wB
  obtain⟨j,o⟩:=j;obtain⟨n,a⟩:=n;simp only at n a |-;have h:=EO a;rw[C2]at h;by_cases p:j<l.length
  ·obtain⟨y,q⟩ : ∃y,l[j]? = some y:=⟨_,X2 p⟩
   repeat'(first|refine gE ?_|(conv=>whnf);first|with_reducible (first|refine CE (aa d) ?_|refine CE (aa q) ?_|refine Bf.D (λe=>?_) (λe=>?_)|refine Bf.N (λe=>?_) (λe=>?_))|refine C9 (aH y 0 511) ?_|refine C9 (eB (i:Nat)) ?_|refine CP (ME ω) ?_|refine CS rfl ?_|refine CH (nq o y ω) ⟨⟨rfl,eM _⟩,⟨rfl,rfl⟩,trivial⟩ ?_|refine CU cz (λr F=>by rw[V1.1 F];rfl) (by simp[bk,eG]) (by simp;omega) (by simp only[I1];exact zE (by simp;omega) (by decide)) rfl ?_)
   all_goals first
    | exact Z0 (λz=>[B z]) (ma d b (MQ q a λ⟨J,K,L,M⟩=>by first|contradiction|omega)).symm
    | ((conv=>whnf)
       refine CF (j+1,o++[y]) ⟨(by simp only;omega),JE q a ⟨ω,ω,(by assumption),(by assumption)⟩⟩ (by simp only;omega) ?_
       (repeat'(first|exact trivial|rfl|exact CM rfl (CM (Z0 (C.s dM.own) (by simp[rI])) trivial)|refine CM ?_ ?_)))
  repeat'(first|refine gE ?_|(conv=>whnf);first|with_reducible refine CE (aa d) ?_)
  (conv=>whnf)
  rw[V8 ω]at a;refine CF (i+1,o) ⟨(by simp only;omega),(by rw[uH d b];grind [fL])⟩ (by simp only;omega) ?_;exact wB
 repeat'(first|refine gE ?_|fail)
 rw[V8 ω]at b;exact Z0 (λz=>[B z]) (by grind [bz])
def gl(s:List Int):List (Int × Value):=s.map λa=>(a,.bool true)
theorem oo(a:Int):∀(s:List Int),mlook (gl s) a (.bool false)=.bool (decide (a∈s))
 | []=>by simp[gl,mlook]
 | x::s=>by
  have b:=oo a s
  grind [gl,mlook]
theorem uz{a:Int} : ∀{s:List Int},a∉s->gl (s++[a])=mput (gl s) a (.bool true)
 | [],_=>rfl
 | x::s,h=>by
  simp only[List.mem_cons,not_or]at h;have b:=uz h.2
  grind [gl,mput]
theorem tZ(c:aC)(p:aC.sml c):zzA 80 false [.val (some 1) (aC.enc .W c)] .one [B (bz c)]:=by
 have w:=p.1;refine fO 54 [] Tryz.func80 rfl ?_
 repeat'(first|refine gP ?_|fail)
 (conv=>whnf)
 refine CG (ι:=Nat × List Int) (λi=>[(1,.H .box (aC.enc .W c)),(3,.H .one [.m (gl i.2)]),(10,.H .one (jQ .W c.a)),(11,.H .one [I c.a.length]),(12,.H .one [I (i.1:Nat)])]) (λi=>i.1<=c.a.length/\im 0 [] (c.a.take i.1)=some i.2) (λi=>c.a.length - i.1) (0,[]) ?_ ⟨X0 _,rfl⟩ λi g=>?_
 ·exact wB
 obtain⟨i,s⟩:=i;obtain⟨g,d⟩:=g;simp only at g d |-;by_cases q:i<c.a.length
 ·obtain⟨l,b⟩ : ∃l,c.a[i]? = some l:=(ψ)
  have r:l.length<=1048576:=p.2 l ψ
  repeat'(first|refine gE ?_|(conv=>whnf);first|with_reducible (first|refine CE (aa b) ?_|refine Bf.D (λe=>?_) (λe=>?_))|refine C9 (fR (i:Nat)) ?_)
  ·exact Z0 (λz=>[B z]) (ma b d (by grind [fL])).symm
  rotate_left
  ·exact Z0 (λz=>[B z]) (ma b d (by grind [fL])).symm
  have t:l.length<=8:=ω
  have u:i<=3:=ω
  (conv=>whnf)
  refine CG (ι:=Nat × List Int) (λj=>[(1,.H .box (aC.enc .W c)),(3,.H .one [.m (gl j.2)]),(4,.H .one [I (i:Nat)]),(10,.H .one (jQ .W c.a)),(11,.H .one [I c.a.length]),(12,.H .one [I (i:Nat)]),(25,.H .one (aF .W l)),(26,.H .one [I l.length]),(27,.H .one [I (j.1:Nat)])]) (λj=>j.1<=l.length/\su i s (l.take j.1)=some j.2) (λj=>l.length - j.1) (0,s) ?_ ⟨X0 _,rfl⟩ λj h=>?_
  ·exact wB
  obtain⟨j,k⟩:=j;obtain⟨h,a⟩:=h;simp only at h a |-;by_cases n:j<l.length
  ·obtain⟨y,o⟩ : ∃y,l[j]? = some y:=⟨_,X2 n⟩
   repeat'(first|refine gE ?_|(conv=>whnf);first|with_reducible (first|refine CE (aa b) ?_|refine CE (aa o) ?_|refine Bf.D (λe=>?_) (λe=>?_)|refine Bf.N (λe=>?_) (λe=>?_))|refine C9 (aK y 0 511) ?_|refine C9 (ew (i:Nat)) ?_|refine CP (ME ω) ?_|refine CS rfl ?_|refine Ml.mk (oo y k) ?_|refine Mu.mk (uz (by assumption)) ?_)
   all_goals first
    | exact Z0 (λz=>[B z]) (ma b d (MQ o a λ⟨C,E,F,G⟩=>by first|contradiction|omega)).symm
    | ((conv=>whnf)
       refine CF (j+1,k++[y]) ⟨(by simp only;omega),JE o a ⟨ω,ω,(by assumption),(by assumption)⟩⟩ (by simp only;omega) ?_
       (exact wA))
  repeat'(first|refine gE ?_|fail)
  (conv=>whnf)
  rw[V8 ω]at a;refine CF (i+1,k) ⟨(by simp only;omega),(by rw[uH b d];grind [fL])⟩ (by simp only;omega) ?_;exact wB
 repeat'(first|refine gE ?_|fail)
 grind [W0,bz]
theorem JO:∀{b:List (List Int)}{k:Nat}{s c:List Int},im k s b=some c->∀l∈b,l.length<=8
 | [],k,s,c,h,l,a=>by simp at a
 | x::b,k,s,c,h,l,a=>by
  simp only[im]at h;unfold fL at h;split at h
  ·rename_i d
   rcases List.mem_cons.1 a with rfl|a
   ·exact d.1
   cases e:su k s x with
   | none=>grind
   | some f=>rw[e]at h;exact JO (show im (k+1) f b=some c from h) l a
  cases h
theorem wd{c:aC}(h:bz c=true):c.a.length=4/\∀l∈c.a,l.length<=8:=by grind [Option.isSome_iff_exists,JO,bz]
theorem rm(f:aW)(h:aW.sml f):zzA 86 false [.val (some 2) (aW.enc .W f)] .one [B (cW f)]:=by
 have C:=h.1.1;have E:f.a3.length<=1048576:=h.2;refine fO 61 [] Tryz.func86 rfl ?_
 repeat'(first|refine gP ?_|(conv=>whnf);first|with_reducible (first|refine Bf.D (λa=>?_) (λa=>?_)|refine Bf.N (λa=>?_) (λa=>?_))|refine C9 (aH f.T.length 1 32) ?_)
 ·exact Z0 (λz=>[B z]) (by grind [cW])
 rotate_left
 ·exact Z0 (λz=>[B z]) (by grind [cW])
 have t:1<=f.T.length/\f.T.length<=32:=ω
 have w:f.a3.length=f.T.length:=ω
 (conv=>whnf)
 refine CG (ι:=Nat) (λi=>[(1,.H .box (aW.enc .W f)),(3,.H .one [I (i:Nat)])]) (λi=>i<=f.T.length/\((f.T.zip f.a3).take i).all (λq=>gT q.1 q.2)=true) (λi=>f.T.length - i) 0 ?_ ψ λi j=>?_
 ·exact wB
 obtain⟨j,y⟩:=j;by_cases g:i<f.T.length
 ·obtain⟨r,c⟩ : ∃r,f.T[i]? = some r:=⟨_,X2 g⟩
  obtain⟨u,b⟩ : ∃u,f.a3[i]? = some u:=⟨_,X2 ω⟩
  repeat'(first|refine gE ?_|(conv=>whnf);first|with_reducible (first|refine CE (aa c) ?_|refine Bf.N (λa=>?_) (λa=>?_)))
  ·exact Z0 (λz=>[B z]) (iX c b (by grind [gT])).symm
  have l:r.length=16:=ω
  (conv=>whnf)
  refine CG (ι:=Nat) (λk=>[(1,.H .box (aW.enc .W f)),(3,.H .one [I (i:Nat)]),(4,.H .one [I (k:Nat)])]) (λk=>k<=16/\(r.take k).all (iZ u)=true) (λk=>16 - k) 0 ?_ ψ λk n=>?_
  ·exact wB
  obtain⟨n,e⟩:=n;by_cases o:k<16
  ·obtain⟨v,d⟩ : ∃v,r[k]? = some v:=⟨_,X2 ω⟩
   cases u with
   | true=>
    repeat'(first|refine gE ?_|(conv=>whnf);first|with_reducible (first|refine CE (aa c) ?_|refine CE (aa b) ?_|refine CE (aa d) ?_|refine Bf.D (λa=>?_) (λa=>?_)|refine Bf.N (λa=>?_) (λa=>?_))|refine C9 (aH v 0 999) ?_)
    all_goals first
     | exact Z0 (λz=>[B z]) (iX c b (sN d (by first|(unfold iZ;rw[W0 ω];rfl)|(unfold iZ;rw[W0 (p:=v=0) ω];simp)))).symm
     | ((conv=>whnf)
        refine CF (ι:=Nat) (k+1) ⟨ω,dd d e (by unfold iZ;first|(rw[O0 ω];rfl)|(rw[O0 (p:=0<=v/\v<=999) ω,O0 (p:=v=0) ω];rfl))⟩ ω ?_
        (exact wA))
   | false=>
    repeat'(first|refine gE ?_|(conv=>whnf);first|with_reducible (first|refine CE (aa c) ?_|refine CE (aa b) ?_|refine CE (aa d) ?_|refine Bf.D (λa=>?_) (λa=>?_)|refine Bf.N (λa=>?_) (λa=>?_))|refine C9 (aH v 0 999) ?_)
    all_goals first
     | exact Z0 (λz=>[B z]) (iX c b (sN d (by first|(unfold iZ;rw[W0 ω];rfl)|(unfold iZ;rw[W0 (p:=v=0) ω];simp)))).symm
     | ((conv=>whnf)
        refine CF (ι:=Nat) (k+1) ⟨ω,dd d e (by unfold iZ;first|(rw[O0 ω];rfl)|(rw[O0 (p:=0<=v/\v<=999) ω,O0 (p:=v=0) ω];rfl))⟩ ω ?_
        (exact wA))
  repeat'(first|refine gE ?_|fail)
  (conv=>whnf)
  refine CF (i+1) ⟨ω,dd (wO c b) y (by grind [gT])⟩ ω ?_;exact wB
 repeat'(first|refine gE ?_|fail)
 exact Z0 (λz=>[B z]) (by grind [List.length_zip,cW])
theorem ro(f:aW)(g:aW.sml f):zzA 242 false [.val (some 2) (aW.enc .W f)] .one [B (cW f)]:=by
 have C:=g.1.1;have E:f.a3.length<=1048576:=g.2;refine fO 55 [] Tryz.func242 rfl ?_
 repeat'(first|refine gP ?_|(conv=>whnf);first|with_reducible (first|refine Bf.D (λa=>?_) (λa=>?_)|refine Bf.N (λa=>?_) (λa=>?_))|refine C9 (aK f.T.length 1 32) ?_)
 ·exact Z0 (λz=>[B z]) (by grind [cW])
 rotate_left
 ·exact Z0 (λz=>[B z]) (by grind [cW])
 have p:1<=f.T.length/\f.T.length<=32:=ω
 have t:f.a3.length=f.T.length:=ω
 (conv=>whnf)
 refine CG (ι:=Nat) (λi=>[(1,.H .box (aW.enc .W f)),(22,.H .one (jQ .W f.T)),(23,.H .one [I (f.T.length)]),(24,.H .one [I ((i:Nat):Int)])]) (λi=>i<=f.T.length/\((f.T.zip f.a3).take i).all (λq=>gT q.1 q.2)=true) (λi=>f.T.length - i) (0) ?_ ψ λi j=>?_
 ·exact wB
 obtain⟨j,w⟩:=j;by_cases h:i<f.T.length
 ·obtain⟨r,c⟩ : ∃r,f.T[i]? = some r:=⟨_,X2 h⟩
  obtain⟨u,b⟩ : ∃u,f.a3[i]? = some u:=⟨_,X2 ω⟩
  have y:r.length<=1048576:=g.1.2 r ψ
  repeat'(first|refine gE ?_|(conv=>whnf);first|with_reducible (first|refine CE (aa c) ?_|refine Bf.N (λa=>?_) (λa=>?_)))
  ·exact Z0 (λz=>[B z]) (iX c b (by grind [gT])).symm
  have l:r.length=16:=ω
  (conv=>whnf)
  refine CG (ι:=Nat) (λk=>[(1,.H .box (aW.enc .W f)),(3,.H .one [I ((i:Nat):Int)]),(22,.H .one (jQ .W f.T)),(23,.H .one [I (f.T.length)]),(24,.H .one [I ((i:Nat):Int)]),(32,.H .one (aF .W r)),(33,.H .one [I (r.length)]),(34,.H .one [I ((k:Nat):Int)])]) (λk=>k<=r.length/\(r.take k).all (iZ u)=true) (λk=>r.length - k) (0) ?_ ψ λk n=>?_
  ·exact wB
  obtain⟨n,e⟩:=n;by_cases o:k<r.length
  ·obtain⟨v,d⟩ : ∃v,r[k]? = some v:=⟨_,X2 ω⟩
   cases u with
   | true=>
    repeat'(first|refine gE ?_|(conv=>whnf);first|with_reducible (first|refine CE (aa c) ?_|refine CE (aa b) ?_|refine CE (aa d) ?_|refine Bf.D (λa=>?_) (λa=>?_)|refine Bf.N (λa=>?_) (λa=>?_))|refine C9 (aK v 0 999) ?_)
    all_goals first
     | exact Z0 (λz=>[B z]) (iX c b (sN d (by unfold iZ;grind))).symm
     | ((conv=>whnf)
        refine CF (ι:=Nat) (k+1) ⟨ω,dd d e (by unfold iZ;grind)⟩ ω ?_
        (exact wA))
   | false=>
    repeat'(first|refine gE ?_|(conv=>whnf);first|with_reducible (first|refine CE (aa c) ?_|refine CE (aa b) ?_|refine CE (aa d) ?_|refine Bf.D (λa=>?_) (λa=>?_)|refine Bf.N (λa=>?_) (λa=>?_))|refine C9 (aK v 0 999) ?_)
    all_goals first
     | exact Z0 (λz=>[B z]) (iX c b (sN d (by unfold iZ;grind))).symm
     | ((conv=>whnf)
        refine CF (ι:=Nat) (k+1) ⟨ω,dd d e (by unfold iZ;grind)⟩ ω ?_
        (exact wA))
  repeat'(first|refine gE ?_|fail)
  (conv=>whnf)
  refine CF (i+1) ⟨ω,dd (wO c b) w (by grind [gT])⟩ ω ?_;exact wB
 repeat'(first|refine gE ?_|fail)
 exact Z0 (λz=>[B z]) (by grind [List.length_zip,cW])
theorem Ew(t:aI)(b:Int)(e:aI.sml t):zzA 469 false [.val (some 1) (aI.enc .W t),.val none [I b]] .one [B (gR t b)]:=by
 have k:=e.1;refine fO 54 [] Tryz.func469 rfl ?_
 repeat'(first|refine gP ?_|fail)
 (conv=>whnf)
 refine CG (ι:=Nat) (λi=>[(1,.H .one [I (b)]),(2,.H .box (aI.enc .W t)),(5,.H .one [I ((i:Nat):Int)])]) (λi=>i<=t.K.length/\dr i (λj=>kV b (nth t.K j))=true) (λi=>t.K.length - i) 0 ?_ ⟨X0 _,rfl⟩ λi c=>?_
 ·exact wB
 obtain⟨c,g⟩:=c;by_cases d:i<t.K.length
 ·have h:=ao d
  repeat'(first|refine gE ?_|(conv=>whnf);first|with_reducible (first|refine CE (aa h) ?_|refine Bf.D (λa=>?_) (λa=>?_)|refine Bf.N (λa=>?_) (λa=>?_)|refine Bf.E (λa=>?_) (λa=>?_))|refine C9 (aH _ 0 2) ?_)
  all_goals first
   | exact Z0 (λz=>[B z]) ((by symm;unfold gR;rw[cF d (W0 ψ)];rfl))
   | ((conv=>whnf);refine CF (i+1) ⟨ω,bU g (O0 ψ)⟩ ω ?_;(exact wB))
 repeat'(first|refine gE ?_|(conv=>whnf);first|refine C9 (aH _ 1 32) ?_)
 obtain rfl:i=t.K.length:=ω
 exact Z0 (λz=>[B z]) ((by grind [gR]))
theorem EN(t:aI)(b:Int)(e:aI.sml t):zzA 243 false [.val (some 1) (aI.enc .W t),.val none [I b]] .one [B (gR t b)]:=by
 have k:=e.1;refine fO 49 [] Tryz.func243 rfl ?_
 repeat'(first|refine gP ?_|fail)
 (conv=>whnf)
 refine CG (ι:=Nat) (λi=>[(1,.H .one [I (b)]),(2,.H .box (aI.enc .W t)),(8,.H .one (Gs .W t.K)),(9,.H .one [I (t.K.length)]),(10,.H .one [I ((i:Nat):Int)])]) (λi=>i<=t.K.length/\dr i (λj=>kV b (nth t.K j))=true) (λi=>t.K.length - i) 0 ?_ ⟨X0 _,rfl⟩ λi c=>?_
 ·exact wB
 obtain⟨c,g⟩:=c;by_cases d:i<t.K.length
 ·have h:=ao d
  repeat'(first|refine gE ?_|(conv=>whnf);first|with_reducible (first|refine CE (aa h) ?_|refine Bf.D (λa=>?_) (λa=>?_)|refine Bf.N (λa=>?_) (λa=>?_)|refine Bf.E (λa=>?_) (λa=>?_))|refine C9 (aK _ 0 2) ?_)
  all_goals first
   | exact Z0 (λz=>[B z]) ((by symm;unfold gR;rw[cF d (W0 ψ)];rfl))
   | ((conv=>whnf);refine CF (i+1) ⟨ω,bU g (O0 ψ)⟩ ω ?_;(exact wB))
 repeat'(first|refine gE ?_|(conv=>whnf);first|refine C9 (aK _ 1 32) ?_)
 obtain rfl:i=t.K.length:=ω
 exact Z0 (λz=>[B z]) ((by grind [gR]))
theorem iv(t:aI)(f:Int)(c:aI.sml t):zzA 470 false [.val (some 1) (aI.enc .W t),.val none [I f]] .one (aF .own (pagesOn t f)):=by
 have j:=c.1;refine fO 37 [] Tryz.func470 rfl ?_ (.inr (bM _))
 repeat'(first|refine gP ?_|fail)
 (conv=>whnf)
 refine CG (ι:=Nat) (λi=>[(1,.H .one [I (f)]),(2,.H .box (aI.enc .W t)),(5,.H .one (aF .own (kv t f i))),(6,.H .one [I ((i:Nat):Int)])]) (λi=>i<=t.K.length) (λi=>t.K.length - i) (0) ?_ (X0 _) λi k=>?_
 ·exact wB
 have d:=uU t f i;by_cases e:i<t.K.length
 ·have g:=ao e
  repeat'(first|refine gE ?_|(conv=>whnf);first|with_reducible (first|refine CE (aa g) ?_|refine Bf.D (λb=>?_) (λb=>?_)|refine Bf.N (λb=>?_) (λb=>?_)|refine Bf.E (λb=>?_) (λb=>?_))|refine CU cz (λr h=>by rw[V1.1 h];rfl) (by simp[bk,eG]) (by simp;omega) (by simp only[I1];exact zE (by simp;omega) (by decide)) rfl ?_)
  all_goals first
   |(have a:N5 t f i=true:=O0 ψ
     (conv=>whnf)
     refine CF (i+1) ω ω ?_;rw[Bq a]
     (repeat'(first|exact trivial|rfl|exact CM rfl (CM (Z0 (C.s dM.own) (by simp[rI])) trivial)|refine CM ?_ ?_)))
   |(have a:N5 t f i=false:=W0 ψ
     (conv=>whnf)
     refine CF (i+1) ω ω ?_;rw[Gf a]
     (exact wA))
 repeat'(first|refine gE ?_|fail)
 obtain rfl:i=t.K.length:=ω
 rfl
theorem ll(t:aI)(f:Int)(c:aI.sml t):zzA 244 false [.val (some 1) (aI.enc .W t),.val none [I f]] .one (aF .own (pagesOn t f)):=by
 have j:=c.1;refine fO 32 [] Tryz.func244 rfl ?_ (.inr (bM _))
 repeat'(first|refine gP ?_|fail)
 (conv=>whnf)
 refine CG (ι:=Nat) (λi=>[(1,.H .one [I (f)]),(5,.H .one (aF .own (kv t f i))),(10,.H .one (Gs .W t.K)),(11,.H .one [I (t.K.length)]),(12,.H .one [I ((i:Nat):Int)])]) (λi=>i<=t.K.length) (λi=>t.K.length - i) (0) ?_ (X0 _) λi k=>?_
 ·exact wB
 have d:=uU t f i;by_cases e:i<t.K.length
 ·have g:=ao e
  repeat'(first|refine gE ?_|(conv=>whnf);first|with_reducible (first|refine CE (aa g) ?_|refine Bf.D (λb=>?_) (λb=>?_)|refine Bf.N (λb=>?_) (λb=>?_)|refine Bf.E (λb=>?_) (λb=>?_))|refine CU cz (λr h=>by rw[V1.1 h];rfl) (by simp[bk,eG]) (by simp;omega) (by simp only[I1];exact zE (by simp;omega) (by decide)) rfl ?_)
  all_goals first
   |(have a:N5 t f i=true:=O0 ψ
     (conv=>whnf)
     refine CF (i+1) ω ω ?_;rw[Bq a]
     (repeat'(first|exact trivial|rfl|exact CM rfl (CM (Z0 (C.s dM.own) (by simp[rI])) trivial)|refine CM ?_ ?_)))
   |(have a:N5 t f i=false:=W0 ψ
     (conv=>whnf)
     refine CF (i+1) ω ω ?_;rw[Gf a]
     (exact wA))
 repeat'(first|refine gE ?_|fail)
 obtain rfl:i=t.K.length:=ω
 rfl
def du(t:aI)(p:Int)(b:aI.sml t):zzA 34 false [.val (some 1) (aI.enc .W t),.val none [I p]] .agg (bi.enc .own (ac t p)):=by
 have d:=b.1;refine fO 18 [] Tryz.func34 rfl ?_ (.inr (bi.enc_fr _));by_cases a:0<=p/\p<t.K.length
 ·have c:=ao (xs:=t.K) (i:=p.toNat) ω
  repeat'(first|refine gE ?_|(conv=>whnf);first|refine C9 (aH _ 0 _) ?_|refine CN a.1 (aa c) ?_)
  all_goals(unfold ac;rw[CD a];rfl)
 repeat'(first|refine gE ?_|(conv=>whnf);first|refine C9 (aH _ 0 _) ?_)
 all_goals(unfold ac;rw[CB a];rfl)
def dL(t:aI)(p:Int)(b:aI.sml t):zzA 104 false [.val (some 1) (aI.enc .W t),.val none [I p]] .agg (bi.enc .own (ac t p)):=by
 have d:=b.1;refine fO 18 [] Tryz.func104 rfl ?_ (.inr (bi.enc_fr _));by_cases a:0<=p/\p<t.K.length
 ·have c:=ao (xs:=t.K) (i:=p.toNat) ω
  repeat'(first|refine gE ?_|(conv=>whnf);first|refine C9 (aK _ 0 _) ?_|refine CN a.1 (aa c) ?_)
  all_goals(unfold ac;rw[CD a];rfl)
 repeat'(first|refine gE ?_|(conv=>whnf);first|refine C9 (aK _ 0 _) ?_)
 all_goals(unfold ac;rw[CB a];rfl)
def sg(t:aI)(f:Int):(pagesOn t f).length<=t.K.length:=uU ..
theorem pn(m:aS)(a:aS.sml m):zzA 350 false [.val (some 3) (aS.enc .W m)] .one [B (cZ m)]:=by
 have q:m.U.a3.length<=1048576:=a.1.2;have k:m.U.T.length<=1048576:=a.1.1.1;have b:=rm m.U a.1;have c:=Ew m.Q m.U.T.length a.2;cases d:cW m.U with
 | false=>
  rw[d]at b;refine fO 39 [(6,13,[26,27,28,29,30,31,32,33,34,35,36,37,38])] Tryz.func350 rfl ?_
  repeat'(first|refine gP ?_|(conv=>whnf);first|refine C9 b ?_)
  exact Z0 (λz=>[B z]) ((by grind [cZ]))
 | true=>
  have g:=tA d;rw[d]at b;cases e:gR m.Q m.U.a3.length with
  | false=>
   rw[show(m.U.T.length:Int)=m.U.a3.length by omega,e]at c;refine fO 39 [(6,13,[26,27,28,29,30,31,32,33,34,35,36,37,38])] Tryz.func350 rfl ?_
   repeat'(first|refine gP ?_|(conv=>whnf);first|refine C9 b ?_|refine C9 ((show(m.U.T.length:Int)=m.U.a3.length by omega) ▸ c) ?_)
   exact Z0 (λz=>[B z]) ((by grind [cZ]))
  | true=>
   rw[show(m.U.T.length:Int)=m.U.a3.length by omega,e]at c;refine fO 39 [(6,13,[26,27,28,29,30,31,32,33,34,35,36,37,38])] Tryz.func350 rfl ?_
   repeat'(first|refine gP ?_|(conv=>whnf);first|refine C9 b ?_|refine C9 ((show(m.U.T.length:Int)=m.U.a3.length by omega) ▸ c) ?_)
   (conv=>whnf)
   refine CG (ι:=Nat) (λi=>[(1,.H .box (aS.enc .W m)),(3,.H .one [I ((i:Nat):Int)])]) (λi=>i<=m.U.a3.length/\dr i (pZ m)=true) (λi=>m.U.a3.length - i) 0 ?_ ⟨X0 _,rfl⟩ λi h=>?_
   ·exact wB
   obtain⟨h,l⟩:=h;by_cases j:i<m.U.a3.length
   ·have n:=ao j
    have o:=sg m.Q (i:Nat)
    repeat'(first|refine gE ?_|(conv=>whnf);first|with_reducible (first|refine CE (aa n) ?_|refine Bf.NB (λp=>?_) (λp=>?_))|refine C9 (iv m.Q (i:Nat) a.2) ?_)
    all_goals first
     | exact Z0 (λz=>[B z]) ((by symm;unfold cZ;rw[d,e,cF j (by unfold pZ;grind)];rfl))
     | ((conv=>whnf);refine CF (i+1) ⟨ω,bU l (by unfold pZ;grind)⟩ ω ?_;(exact wB))
   repeat'(first|refine gE ?_|fail)
   obtain rfl:i=m.U.a3.length:=ω
   exact Z0 (λz=>[B z]) ((by grind [cZ]))
theorem oZ(m:aS)(b:aS.sml m):zzA 87 false [.val (some 3) (aS.enc .W m)] .one [B (cZ m)]:=by
 have o:m.U.a3.length<=1048576:=b.1.2;have a:=ro m.U b.1;have c:=EN m.Q m.U.a3.length b.2;cases d:cW m.U with
 | false=>
  rw[d]at a;refine fO 37 [] Tryz.func87 rfl ?_
  repeat'(first|refine gP ?_|(conv=>whnf);first|refine C9 a ?_)
  exact Z0 (λz=>[B z]) ((by grind [cZ]))
 | true=>
  rw[d]at a;cases e:gR m.Q m.U.a3.length with
  | false=>
   rw[e]at c;refine fO 37 [] Tryz.func87 rfl ?_
   repeat'(first|refine gP ?_|(conv=>whnf);first|refine C9 a ?_|refine C9 c ?_)
   exact Z0 (λz=>[B z]) ((by grind [cZ]))
  | true=>
   rw[e]at c;refine fO 37 [] Tryz.func87 rfl ?_
   repeat'(first|refine gP ?_|(conv=>whnf);first|refine C9 a ?_|refine C9 c ?_)
   (conv=>whnf)
   refine CG (ι:=Nat) (λi=>[(1,.H .box (aS.enc .W m)),(21,.H .one (xB .W m.U.a3)),(22,.H .one [I (m.U.a3.length)]),(23,.H .one [I ((i:Nat):Int)])]) (λi=>i<=m.U.a3.length/\dr i (pZ m)=true) (λi=>m.U.a3.length - i) 0 ?_ ⟨X0 _,rfl⟩ λi g=>?_
   ·exact wB
   obtain⟨g,j⟩:=g;by_cases h:i<m.U.a3.length
   ·have k:=ao h
    have l:=sg m.Q (i:Nat)
    repeat'(first|refine gE ?_|(conv=>whnf);first|with_reducible (first|refine CE (aa k) ?_|refine Bf.NB (λn=>?_) (λn=>?_))|refine C9 (ll m.Q (i:Nat) b.2) ?_)
    all_goals first
     | exact Z0 (λz=>[B z]) ((by symm;unfold cZ;rw[d,e,cF h (by unfold pZ;grind)];rfl))
     | ((conv=>whnf);refine CF (i+1) ⟨ω,bU j (by unfold pZ;grind)⟩ ω ?_;(exact wB))
   repeat'(first|refine gE ?_|fail)
   obtain rfl:i=m.U.a3.length:=ω
   exact Z0 (λz=>[B z]) ((by grind [cZ]))
def mF(k:af)(d:af.sml k):zzA 208 false [.val (some 5) (af.enc .W k)] .one [B (ay k)]:=by
 have n:k.u.length<=1048576:=d.2;have a:=pn k.F d.1;refine fO 31 [] Tryz.func208 rfl ?_
 repeat'(first|refine gP ?_|fail)
 (conv=>whnf)
 refine CG (ι:=Nat) (λi=>[(1,.H .box (af.enc .W k)),(3,.H .one [I ((i:Nat):Int)])]) (λi=>i<=k.u.length/\dr i (λj=>decide (0<=nth k.u j))=true) (λi=>k.u.length - i) 0 ?_ ⟨X0 _,rfl⟩ λi e=>?_
 ·exact wB
 obtain⟨e,g⟩:=e;by_cases h:i<k.u.length
 ·have l:=ao h
  repeat'(first|refine gE ?_|(conv=>whnf);first|with_reducible (first|refine CE (aa l) ?_|refine Bf.D (λc=>?_) (λc=>?_)))
  all_goals first
   | exact Z0 (λz=>[B z]) ((by symm;unfold ay;rw[cF h (W0 ω)];rfl))
   | ((conv=>whnf);refine CF (i+1) ⟨ω,bU g (O0 ω)⟩ ω ?_;(exact wB))
 obtain rfl:i=k.u.length:=ω
 cases b:cZ k.F with
 | false=>
  rw[b]at a
  repeat'(first|refine gE ?_|(conv=>whnf);first|refine C9 a ?_)
  all_goals exact Z0 (λz=>[B z]) ((by unfold ay;rw[b];simp))
 | true=>
  rw[b]at a
  repeat'(first|refine gE ?_|(conv=>whnf);first|with_reducible refine Bf.D (λc=>?_) (λc=>?_)|refine C9 a ?_|refine C9 (aH _ 0 100000) ?_)
  all_goals exact Z0 (λz=>[B z]) ((by unfold ay;rw[b,g];simp only[Bool.true_and];first|exact decide_eq_decide.2 ω|(symm;exact W0 ω)|(symm;exact O0 ω)))
def rr(k:af)(b:af.sml k):zzA 26 false [.val (some 5) (af.enc .W k)] .one [B (ay k)]:=by
 have l:k.u.length<=1048576:=b.2;have g:=oZ k.F b.1;refine fO 29 [] Tryz.func26 rfl ?_
 repeat'(first|refine gP ?_|fail)
 (conv=>whnf)
 refine CG (ι:=Nat) (λi=>[(1,.H .box (af.enc .W k)),(6,.H .one (aF .W k.u)),(7,.H .one [I (k.u.length)]),(8,.H .one [I ((i:Nat):Int)])]) (λi=>i<=k.u.length/\dr i (λj=>decide (0<=nth k.u j))=true) (λi=>k.u.length - i) 0 ?_ ⟨X0 _,rfl⟩ λi c=>?_
 ·exact wB
 obtain⟨c,d⟩:=c;by_cases e:i<k.u.length
 ·have h:=ao e
  repeat'(first|refine gE ?_|(conv=>whnf);first|with_reducible (first|refine CE (aa h) ?_|refine Bf.D (λa=>?_) (λa=>?_)))
  all_goals first
   | exact Z0 (λz=>[B z]) ((by symm;unfold ay;rw[cF e (W0 ω)];rfl))
   | ((conv=>whnf);refine CF (i+1) ⟨ω,bU d (O0 ω)⟩ ω ?_;(exact wB))
 obtain rfl:i=k.u.length:=ω
 repeat'(first|refine gE ?_|(conv=>whnf);first|with_reducible refine Bf.D (λa=>?_) (λa=>?_)|refine C9 g ?_|refine C9 (aK _ 0 100000) ?_)
 all_goals exact Z0 (λz=>[B z]) ((by unfold ay;rw[d];cases cZ k.F<;>simp only[Bool.true_and,Bool.false_and]<;>first|rfl|exact decide_eq_decide.2 ω|(symm;exact W0 ω)|(symm;exact O0 ω)))
def yf(pages:Int)(r:a8)(b:0<=pages/\pages<=1048576):zzA 351 false [.val none [I pages],.val (some 2) (a8.enc .W r)] .one [B (rangeIn pages r)]:=by
 refine fO 18 [] Tryz.func351 rfl ?_
 repeat'(first|refine gP ?_|(conv=>whnf);first|with_reducible refine Bf.D (λa=>?_) (λa=>?_)|refine C9 (aH _ 1 _) ?_|refine C9 (aH _ 0 _) ?_)
 all_goals exact Z0 (λz=>[B z]) ((by unfold rangeIn;first|(symm;exact W0 ω)|exact decide_eq_decide.2 ω))
def zh(pages:Int)(r:a8)(b:0<=pages/\pages<=1048576):zzA 223 false [.val none [I pages],.val (some 2) (a8.enc .W r)] .one [B (rangeIn pages r)]:=by
 refine fO 18 [] Tryz.func223 rfl ?_
 repeat'(first|refine gP ?_|(conv=>whnf);first|with_reducible refine Bf.D (λa=>?_) (λa=>?_)|refine C9 (aK _ 1 _) ?_|refine C9 (aK _ 0 _) ?_)
 all_goals exact Z0 (λz=>[B z]) ((by unfold rangeIn;first|(symm;exact W0 ω)|exact decide_eq_decide.2 ω))
theorem nN(k:Int):zzA 472 false [.val none [I k]] .one [I (slots k)]:=by
 by_cases b:0<=k/\k<=3
 ·obtain rfl|rfl|rfl|rfl:k=0\/k=1\/k=2\/k=3:=ω
  all_goals
   refine fO 9 [] Tryz.func472 rfl ?_
   repeat'(first|refine gE ?_|(conv=>whnf);first|with_reducible refine Bf.D (λa=>?_) (λa=>?_)|refine C9 (aH _ 0 3) ?_|refine CP (by decide) ?_|refine CO rfl ?_|refine CS rfl ?_)
   exact Z0 (λz=>[I z]) (by decide)
 refine fO 9 [] Tryz.func472 rfl ?_
 repeat'(first|refine gE ?_|(conv=>whnf);first|with_reducible refine Bf.D (λa=>?_) (λa=>?_)|refine C9 (aH _ 0 3) ?_)
 exact Z0 (λz=>[I z]) (by grind [slots])
theorem jl(k:Int):zzA 335 false [.val none [I k]] .one [I (slots k)]:=by
 by_cases b:0<=k/\k<=3
 ·obtain rfl|rfl|rfl|rfl:k=0\/k=1\/k=2\/k=3:=ω
  all_goals
   refine fO 9 [] Tryz.func335 rfl ?_
   repeat'(first|refine gE ?_|(conv=>whnf);first|with_reducible refine Bf.D (λa=>?_) (λa=>?_)|refine C9 (fR _) ?_|refine C9 (ew _) ?_|refine CP (by decide) ?_|refine CO rfl ?_|refine CS rfl ?_)
   exact Z0 (λz=>[I z]) (by decide)
 refine fO 9 [] Tryz.func335 rfl ?_
 repeat'(first|refine gE ?_|(conv=>whnf);first|with_reducible refine Bf.D (λa=>?_) (λa=>?_)|refine C9 (fR _) ?_)
 exact Z0 (λz=>[I z]) (by grind [slots])
def Nf(k b:Int):Bool:=decide (0<=k/\k<=3/\0<=b/\b<=lim k)
theorem qJ(k b:Int):zzA 471 false [.val none [I (slots k)],.val none [I b]] .one [B (Nf k b)]:=by
 by_cases d:0<=k/\k<=3
 ·obtain rfl|rfl|rfl|rfl:k=0\/k=1\/k=2\/k=3:=ω
  all_goals
   first|rw[show slots 0=16 from rfl]|rw[show slots 1=8 from rfl]|rw[show slots 2=4 from rfl]|rw[show slots 3=2 from rfl]
   refine fO 15 [] Tryz.func471 rfl ?_
   repeat'(first|refine gE ?_|(conv=>whnf);first|with_reducible refine Bf.D (λa=>?_) (λa=>?_)|refine C9 (aH _ 1 16) ?_|refine C9 (aH _ 0 _) ?_|refine CP (by decide) ?_|refine CO (show _=(65536:Int) by decide) ?_|refine CO (show _=(65535:Int) by decide) ?_|refine CO (show _=(256:Int) by decide) ?_|refine CO (show _=(255:Int) by decide) ?_|refine CO (show _=(16:Int) by decide) ?_|refine CO (show _=(15:Int) by decide) ?_|refine CO (show _=(4:Int) by decide) ?_|refine CO (show _=(8:Int) by decide) ?_|refine CO (show _=(2:Int) by decide) ?_|refine CO (show _=(3:Int) by decide) ?_)
   all_goals exact Z0 (λz=>[B z]) ((decide_eq_decide.2 (by simp[lim])))
 have c:slots k=0:=by grind [slots]
 rw[c];refine fO 15 [] Tryz.func471 rfl ?_
 repeat'(first|refine gE ?_|(conv=>whnf);first|with_reducible refine Bf.D (λa=>?_) (λa=>?_)|refine C9 (aH _ 1 16) ?_)
 exact Z0 (λz=>[B z]) ((by symm;exact W0 ω))
theorem A4(k b:Int):zzA 375 false [.val none [I (slots k)],.val none [I b]] .one [B (Nf k b)]:=by
 by_cases d:0<=k/\k<=3
 ·obtain rfl|rfl|rfl|rfl:k=0\/k=1\/k=2\/k=3:=ω
  all_goals
   first|rw[show slots 0=16 from rfl]|rw[show slots 1=8 from rfl]|rw[show slots 2=4 from rfl]|rw[show slots 3=2 from rfl]
   refine fO 14 [] Tryz.func375 rfl ?_
   repeat'(first|refine gE ?_|(conv=>whnf);first|with_reducible refine Bf.D (λa=>?_) (λa=>?_)|refine C9 (aK _ 1 16) ?_|refine C9 (aK _ 0 _) ?_|refine CP (by decide) ?_|refine CO (eX (by decide) (by decide)) ?_)
   all_goals exact Z0 (λz=>[B z]) ((decide_eq_decide.2 (by simp[lim,IntKind.bits])))
 have c:slots k=0:=by grind [slots]
 rw[c];refine fO 14 [] Tryz.func375 rfl ?_
 repeat'(first|refine gE ?_|(conv=>whnf);first|with_reducible refine Bf.D (λa=>?_) (λa=>?_)|refine C9 (aK _ 1 16) ?_)
 exact Z0 (λz=>[B z]) ((by symm;exact W0 ω))
def ic(s:au):zzA 352 false [.val (some 3) (au.enc .W s)] .one [B (bf s)]:=by
 refine fO 14 [(1,12,[3,4,5,6,7,8,9,10,11,12,13,2])] Tryz.func352 rfl ?_
 repeat'(first|refine gP ?_|(conv=>whnf);first|with_reducible refine Bf.D (λa=>?_) (λa=>?_)|refine C9 (aH _ 0 31) ?_|refine C9 (nN _) ?_|refine C9 (qJ _ _) ?_)
 all_goals exact Z0 (λz=>[B z]) ((by unfold bf;first|(symm;exact W0 ω)|exact decide_eq_decide.2 ω))
def gV(s:au):zzA 225 false [.val (some 3) (au.enc .W s)] .one [B (bf s)]:=by
 refine fO 19 [(1,17,[3,4,5,6,7,8,9,10,11,12,13,14,15,16,17,18,2])] Tryz.func225 rfl ?_
 repeat'(first|refine gP ?_|(conv=>whnf);first|with_reducible refine Bf.D (λa=>?_) (λa=>?_)|refine C9 (aK _ 0 31) ?_|refine C9 (fR _) ?_|refine C9 (jl _) ?_|refine C9 (A4 _ _) ?_)
 all_goals exact Z0 (λz=>[B z]) ((by unfold bf;first|(symm;exact W0 ω)|exact decide_eq_decide.2 ω))
section
variable{α:Type}{xs:List α}{p:α->Bool}{i:Nat}{y:α}
theorem DI(h:xs[i]? = some y)(a:p y=true):xs.any p=true:=X4.2 ψ
theorem xT(h:xs[i]? = some y)(a:(xs.take i).any p=false)(b:p y=false):(xs.take (i+1)).any p=false:=by grind [Y6]
theorem U9(a:xs.length<=i)(b:(xs.take i).any p=false):xs.any p=false:=by grind [V8]
theorem gS[Inhabited α](a:0<i)(b:i<xs.length):xs[((i:Int) - 1).toNat]? = some (nth xs (i - 1)):=by
 rw[show((i:Int) - 1).toNat=i - 1 by omega];grind [ao]
end
theorem xY{pages:Int}{xs:List a8}(a:dr n (gM pages xs)=true)(b:i<n):1<=(nth xs i).b0/\(nth xs i).b0<=pages/\0<=(nth xs i).At/\(nth xs i).At<=pages - (nth xs i).b0:=by grind [fk,gM,rangeIn]
theorem mI(pages:Int)(xs:List a8)(d:0<=pages/\pages<=1048576)(k:gY xs):zzA 209 false [.val none [I pages],.val none (bF .W xs)] .one [B (bG pages xs)]:=by
 have n:=k.1;refine fO 46 [(4,32,[12,13,14,15,16,17,18,19,20,21,22,23,24,25,26,27,28,29,30,31,32,33,34,35,36,37,38,39,40,41,42,43])] Tryz.func209 rfl ?_
 repeat'(first|refine gP ?_|fail)
 (conv=>whnf)
 refine CG (ι:=Nat) (λi=>[(0,.H .one [I (pages)]),(1,.H .one (bF .W xs)),(5,.H .one [I ((i:Nat):Int)])]) (λi=>i<=xs.length/\dr i (gM pages xs)=true) (λi=>xs.length - i) 0 ?_ ⟨X0 _,rfl⟩ λi e=>?_
 ·exact wB
 obtain⟨e,g⟩:=e;by_cases c:i<xs.length
 ·have j:=ao c
  have o:0<i->1<=(nth xs (i - 1)).b0/\(nth xs (i - 1)).b0<=pages/\0<=(nth xs (i - 1)).At/\(nth xs (i - 1)).At<=pages - (nth xs (i - 1)).b0:=λh=>xY g ω
  cases b:rangeIn pages (nth xs i) with
  | false=>
   have a:=yf pages (nth xs i) d;rw[b]at a
   repeat'(first|refine gE ?_|(conv=>whnf);first|with_reducible refine CE (aa j) ?_|refine C9 a ?_)
   exact Z0 (λz=>[B z]) ((by grind [cF,bG,gM]))
  | true=>
   have a:=yf pages (nth xs i) d;rw[b]at a
   repeat'(first|refine gE ?_|(conv=>whnf);first|with_reducible (first|refine CE (aa j) ?_|refine Bf.D (λl=>?_) (λl=>?_))|refine C9 a ?_|refine CN ω (aa (gS ω c)) ?_)
   all_goals first
    | exact Z0 (λz=>[B z]) ((by symm;unfold bG;rw[cF c (by unfold gM;rw[b,W0 ω];rfl)];rfl))
    | ((conv=>whnf);refine CF (i+1) ⟨ω,bU g (by unfold gM;rw[b,O0 ω];rfl)⟩ ω ?_;(exact wB))
 repeat'(first|refine gE ?_|(conv=>whnf);first|refine C9 (aH pages 1 32) ?_)
 grind [bG]
theorem qR(pages:Int)(xs:List a8)(j:0<=pages/\pages<=1048576)(k:gY xs):zzA 75 false [.val none [I pages],.val none (bF .W xs)] .one [B (bG pages xs)]:=by
 have n:=k.1;refine fO 43 [(4,26,[14,15,16,17,18,19,20,21,22,23,24,25,26,27,28,29,30,31,32,33,34,35,36,37,38,39])] Tryz.func75 rfl ?_
 repeat'(first|refine gP ?_|fail)
 (conv=>whnf)
 refine CG (ι:=Nat) (λi=>[(0,.H .one [I (pages)]),(1,.H .one (bF .W xs)),(7,.H .one (bF .W xs)),(8,.H .one [I (xs.length)]),(9,.H .one [I ((i:Nat):Int)])]) (λi=>i<=xs.length/\dr i (gM pages xs)=true) (λi=>xs.length - i) 0 ?_ ⟨X0 _,rfl⟩ λi d=>?_
 ·exact wB
 obtain⟨d,e⟩:=d;by_cases c:i<xs.length
 ·have g:=ao c
  have o:0<i->1<=(nth xs (i - 1)).b0/\(nth xs (i - 1)).b0<=pages/\0<=(nth xs (i - 1)).At/\(nth xs (i - 1)).At<=pages - (nth xs (i - 1)).b0:=λh=>xY e ω
  have a:=zh pages (nth xs i) j;cases b:rangeIn pages (nth xs i) with
  | false=>
   rw[b]at a
   repeat'(first|refine gE ?_|(conv=>whnf);first|with_reducible refine CE (aa g) ?_|refine C9 a ?_)
   exact Z0 (λz=>[B z]) ((by grind [cF,bG,gM]))
  | true=>
   rw[b]at a
   repeat'(first|refine gE ?_|(conv=>whnf);first|with_reducible (first|refine CE (aa g) ?_|refine Bf.D (λl=>?_) (λl=>?_))|refine C9 a ?_|refine CN ω (aa (gS ω c)) ?_)
   all_goals first
    | exact Z0 (λz=>[B z]) ((by symm;unfold bG;rw[cF c (by unfold gM;rw[b,W0 ω];rfl)];rfl))
    | ((conv=>whnf);refine CF (i+1) ⟨ω,bU e (by unfold gM;rw[b,O0 ω];rfl)⟩ ω ?_;(exact wB))
 repeat'(first|refine gE ?_|(conv=>whnf);first|refine C9 (aK pages 1 32) ?_)
 grind [bG]
theorem zZ(xs:List a8)(page:Int)(g:xs.length<=9223372036854775807):zzA 356 false [.val none (bF .W xs),.val none [I page]] .one [B (xs.any (wy page))]:=by
 refine fO 34 [(4,22,[12,13,14,15,16,17,18,19,20,21,22,23,24,25,26,27,28,29,30,31,32,33])] Tryz.func356 rfl ?_
 repeat'(first|refine gP ?_|fail)
 (conv=>whnf)
 refine CG (ι:=Nat) (λi=>[(0,.H .one (bF .W xs)),(1,.H .one [I (page)]),(5,.H .one [I ((i:Nat):Int)])]) (λi=>i<=xs.length/\(xs.take i).any (wy page)=false) (λi=>xs.length - i) (0) ?_ ψ λi b=>?_
 ·exact wB
 obtain⟨b,c⟩:=b;by_cases d:i<xs.length
 ·have a:=ao d
  repeat'(first|refine gE ?_|(conv=>whnf);first|with_reducible (first|refine CE (aa a) ?_|refine Bf.D (λe=>?_) (λe=>?_))|refine CO rfl ?_)
  all_goals first
   | exact Z0 (λz=>[B z]) ((DI a (by unfold wy;rw[O0 (by assumption),O0 (by assumption)];rfl)).symm)
   | ((conv=>whnf);refine CF (i+1) ⟨ω,xT a c (by unfold wy;first|(rw[W0 (by assumption:¬(nth xs i).At<=page)];rfl)|(rw[W0 (by assumption:¬page<_)];simp))⟩ ω ?_;(exact wB))
 repeat'(first|refine gE ?_|fail)
 exact Z0 (λz=>[B z]) ψ
def tdiv16(h:0<=z):z.tdiv 16=z / 16:=Int.tdiv_eq_ediv_of_nonneg h
theorem mV(z:Int):zzA 370 false [.val none [I z]] .one [I (gi z)]:=by
 refine fO 10 [] Tryz.func370 rfl ?_;by_cases b:9<=z/\z<=1000
 ·repeat'(first|refine gE ?_|(conv=>whnf);first|with_reducible refine Bf.D (λa=>?_) (λa=>?_)|refine C9 (aH z 9 1000) ?_|refine CP (by decide) ?_|refine CO ((Z0 _ (tdiv16 ω)).trans (eX ω ω)) ?_)
  grind [gi]
 repeat'(first|refine gE ?_|(conv=>whnf);first|with_reducible refine Bf.D (λa=>?_) (λa=>?_)|refine C9 (aH z 9 1000) ?_)
 all_goals exact Z0 (λz=>[I z]) (by unfold gi;rw[CB b])
theorem zS(z:Int):zzA 191 false [.val none [I z]] .one [I (gi z)]:=by
 refine fO 10 [] Tryz.func191 rfl ?_;by_cases b:9<=z/\z<=1000
 ·repeat'(first|refine gE ?_|(conv=>whnf);first|with_reducible refine Bf.D (λa=>?_) (λa=>?_)|refine C9 (aK z 9 1000) ?_|refine CP (by decide) ?_|refine CO ((Z0 _ (tdiv16 ω)).trans (eX ω ω)) ?_)
  grind [gi]
 repeat'(first|refine gE ?_|(conv=>whnf);first|with_reducible refine Bf.D (λa=>?_) (λa=>?_)|refine C9 (aK z 9 1000) ?_)
 all_goals exact Z0 (λz=>[I z]) (by unfold gi;rw[CB b])
def n8(l:aB):zzA 354 false [.val (some 3) (aB.enc .W l)] .one [B (bL l)]:=by
 have b:=mV l.q;by_cases c:9<=l.q/\l.q<=1000
 ·rw[show gi l.q=(l.q+15) / 16 from CD c]at b
  refine fO 22 [] Tryz.func354 rfl ?_
  repeat'(first|refine gP ?_|(conv=>whnf);first|with_reducible (first|refine Bf.D (λa=>?_) (λa=>?_)|refine Bf.E (λa=>?_) (λa=>?_))|refine C9 b ?_|refine C9 (aH _ 0 _) ?_)
  all_goals exact Z0 (λz=>[B z]) ((by unfold bL;first|(symm;exact W0 ω)|exact decide_eq_decide.2 ω))
 rw[show gi l.q=0 from CB c]at b;refine fO 22 [] Tryz.func354 rfl ?_
 repeat'(first|refine gE ?_|(conv=>whnf);first|with_reducible refine Bf.D (λa=>?_) (λa=>?_)|refine C9 b ?_)
 all_goals exact Z0 (λz=>[B z]) ((by unfold bL;symm;exact W0 ω))
def sD(l:aB):zzA 226 false [.val (some 3) (aB.enc .W l)] .one [B (bL l)]:=by
 have b:=zS l.q;by_cases c:9<=l.q/\l.q<=1000
 ·rw[show gi l.q=(l.q+15) / 16 from CD c]at b
  refine fO 22 [(1,20,[3,4,5,6,7,8,9,10,11,12,13,14,15,16,17,18,19,20,21,2])] Tryz.func226 rfl ?_
  repeat'(first|refine gE ?_|(conv=>whnf);first|with_reducible (first|refine Bf.D (λa=>?_) (λa=>?_)|refine Bf.E (λa=>?_) (λa=>?_))|refine C9 b ?_|refine C9 (aK _ 9 1000) ?_|refine C9 (aK _ 0 _) ?_)
  all_goals exact Z0 (λz=>[B z]) ((by unfold bL;first|(symm;exact W0 ω)|exact decide_eq_decide.2 ω))
 refine fO 22 [(1,20,[3,4,5,6,7,8,9,10,11,12,13,14,15,16,17,18,19,20,21,2])] Tryz.func226 rfl ?_
 repeat'(first|refine gE ?_|(conv=>whnf);first|with_reducible refine Bf.D (λa=>?_) (λa=>?_)|refine C9 (aK _ 9 1000) ?_)
 all_goals exact Z0 (λz=>[B z]) ((by unfold bL;symm;exact W0 ω))
theorem qw(h:0<=z/\z<=9223372036854775807):(BitVec.ofInt IntKind.i64.bits z).toNat=z.toNat:=by
 show(BitVec.ofInt 64 z).toNat=z.toNat
 grind
theorem and64(h1:0<=z1/\z1<=9223372036854775807)(a:0<=z2/\z2<=9223372036854775807):IntKind.i64.wrap ((BitVec.ofInt IntKind.i64.bits z1 &&& BitVec.ofInt IntKind.i64.bits z2).toNat:Nat)=((z1.toNat &&& z2.toNat:Nat):Int):=by grind [qw,Nat.and_le_left,eX]
theorem Jb(k:Int):lim k<=65535:=by grind [lim]
variable{s:au}
def fG(h:bf s=true):0<=s.b2/\s.b2<=9223372036854775807:=by
 unfold bf at h;simp only[C0]at h;have:=Jb s.e;omega
def mX(b c:au):zzA 357 false [.val (some 3) (au.enc .W b),.val (some 3) (au.enc .W c)] .one [B (meshable b c)]:=by
 have g:=ic b;have h:=ic c;cases d:bf b<;>rw[d]at g<;>cases e:bf c<;>rw[e]at h
 all_goals
  refine fO 33 [] Tryz.func357 rfl ?_
  repeat'(first|refine gP ?_|(conv=>whnf);first|with_reducible (first|refine Bf.D (λa=>?_) (λa=>?_)|refine Bf.N (λa=>?_) (λa=>?_)|refine Bf.E (λa=>?_) (λa=>?_))|refine C9 g ?_|refine C9 h ?_|refine CO (and64 (fG d) (fG e)) ?_)
  all_goals exact Z0 (λz=>[B z]) ((by unfold meshable;rw[d,e];first|rfl|(symm;exact W0 ω)|(rw[Z5];simp;omega)))
def mW(b c:au):zzA 229 false [.val (some 3) (au.enc .W b),.val (some 3) (au.enc .W c)] .one [B (meshable b c)]:=by
 have g:=gV b;have h:=gV c;cases d:bf b<;>rw[d]at g<;>cases e:bf c<;>rw[e]at h
 all_goals
  refine fO 33 [] Tryz.func229 rfl ?_
  repeat'(first|refine gP ?_|(conv=>whnf);first|with_reducible (first|refine Bf.D (λa=>?_) (λa=>?_)|refine Bf.N (λa=>?_) (λa=>?_)|refine Bf.E (λa=>?_) (λa=>?_))|refine C9 g ?_|refine C9 h ?_|refine CO (and64 (fG d) (fG e)) ?_)
  all_goals exact Z0 (λz=>[B z]) ((by unfold meshable;rw[d,e];first|rfl|(symm;exact W0 ω)|(rw[Z5];simp;omega)))
def B8(k:Int):zzA 384 false [.val none [I k]] .one [B (decide (0<=k/\k<=15))]:=by
 refine fO 5 [] Tryz.func384 rfl ?_
 repeat'(first|refine gP ?_|(conv=>whnf);first|refine C9 (aK k 0 15) ?_)
 rfl
def vU(p:bY)(e:bY.sml p):zzA 365 false [.val (some 3) (bY.enc .W p)] .one [B (eO p)]:=by
 have h:p.T.length<=1048576:=e;refine fO 51 [(4,25,[11,12,13,14,15,16,17,18,19,20,21,22,23,24,25,26,27,28,29,30,31,32,33,34,35])] Tryz.func365 rfl ?_
 repeat'(first|refine gP ?_|fail)
 (conv=>whnf)
 refine CG (ι:=Nat) (λi=>[(1,.H .box (bY.enc .W p)),(3,.H .one [I ((i:Nat):Int)])]) (λi=>i<=p.T.length/\dr i (mU p.T)=true) (λi=>p.T.length - i) 0 ?_ ⟨X0 _,rfl⟩ λi c=>?_
 ·exact wB
 obtain⟨c,d⟩:=c;by_cases b:i<p.T.length
 ·have g:=ao b
  repeat'(first|refine gE ?_|(conv=>whnf);first|with_reducible (first|refine CE (aa g) ?_|refine Bf.D (λa=>?_) (λa=>?_))|refine C9 (aH _ 0 15) ?_|refine CN ω (aa (gS ω b)) ?_)
  all_goals first
   | exact Z0 (λz=>[B z]) ((by symm;unfold eO;rw[cF b (W0 ω)];rfl))
   | ((conv=>whnf);refine CF (i+1) ⟨ω,bU d (O0 ω)⟩ ω ?_;(exact wB))
 obtain rfl:i=p.T.length:=ω
 repeat'(first|refine gE ?_|(conv=>whnf);first|with_reducible (first|refine Bf.D (λa=>?_) (λa=>?_)|refine Bf.NB (λa=>?_) (λa=>?_)|refine Bf.N (λa=>?_) (λa=>?_))|refine C9 (aH _ 0 31) ?_)
 all_goals exact Z0 (λz=>[B z]) ((by unfold eO;rw[d];simp only[Bool.true_and];first|(symm;exact W0 ω)|exact decide_eq_decide.2 ω|(rw[Z5];simp;omega)))
def vD(p:bY)(e:bY.sml p):zzA 239 false [.val (some 3) (bY.enc .W p)] .one [B (eO p)]:=by
 have h:p.T.length<=1048576:=e;refine fO 46 [] Tryz.func239 rfl ?_
 repeat'(first|refine gP ?_|fail)
 (conv=>whnf)
 refine CG (ι:=Nat) (λi=>[(1,.H .box (bY.enc .W p)),(6,.H .one (aF .W p.T)),(7,.H .one [I (p.T.length)]),(8,.H .one [I ((i:Nat):Int)])]) (λi=>i<=p.T.length/\dr i (mU p.T)=true) (λi=>p.T.length - i) 0 ?_ ⟨X0 _,rfl⟩ λi c=>?_
 ·exact wB
 obtain⟨c,d⟩:=c;by_cases b:i<p.T.length
 ·have g:=ao b
  repeat'(first|refine gE ?_|(conv=>whnf);first|with_reducible (first|refine CE (aa g) ?_|refine Bf.D (λa=>?_) (λa=>?_))|refine C9 (B8 _) ?_|refine CN ω (aa (gS ω b)) ?_)
  all_goals first
   | exact Z0 (λz=>[B z]) ((by symm;unfold eO;rw[cF b (W0 ω)];rfl))
   | ((conv=>whnf);refine CF (i+1) ⟨ω,bU d (O0 ω)⟩ ω ?_;(exact wB))
 obtain rfl:i=p.T.length:=ω
 repeat'(first|refine gE ?_|(conv=>whnf);first|with_reducible (first|refine Bf.D (λa=>?_) (λa=>?_)|refine Bf.NB (λa=>?_) (λa=>?_)|refine Bf.N (λa=>?_) (λa=>?_))|refine C9 (aK _ 0 31) ?_)
 all_goals exact Z0 (λz=>[B z]) ((by unfold eO;rw[d];simp only[Bool.true_and];first|(symm;exact W0 ω)|exact decide_eq_decide.2 ω|(rw[Z5];simp;omega)))
def xz(j:co)(a:co.sml j):zzA 218 false [.val (some 5) (co.enc .W j)] .one [B (jH j)]:=by
 have e:j.X.T.length<=1048576:=a;have b:=vU j.X a;cases c:eO j.X<;>rw[c]at b
 all_goals
  refine fO 20 [] Tryz.func218 rfl ?_
  repeat'(first|refine gP ?_|(conv=>whnf);first|with_reducible refine Bf.D (λd=>?_) (λd=>?_)|refine C9 b ?_|refine C9 (aH _ 0 5) ?_|refine C9 (aH _ 0 _) ?_)
  all_goals exact Z0 (λz=>[B z]) ((by unfold jH;rw[c];first|rfl|(symm;exact W0 ω)|(rw[Z5];simp;omega)))
def zw(j:co)(a:co.sml j):zzA 84 false [.val (some 5) (co.enc .W j)] .one [B (jH j)]:=by
 have e:j.X.T.length<=1048576:=a;have b:=vD j.X a;cases c:eO j.X<;>rw[c]at b
 all_goals
  refine fO 20 [] Tryz.func84 rfl ?_
  repeat'(first|refine gP ?_|(conv=>whnf);first|with_reducible refine Bf.D (λd=>?_) (λd=>?_)|refine C9 b ?_|refine C9 (aK _ 0 5) ?_|refine C9 (aK _ 0 _) ?_)
  all_goals exact Z0 (λz=>[B z]) ((by unfold jH;rw[c];first|rfl|(symm;exact W0 ω)|(rw[Z5];simp;omega)))
theorem lA(l:aB)(k:Nat):lpgs l (k+1)=lpgs l k++[l.R+(k:Nat)]:=by grind [List.range_succ,lpgs]
theorem GA(l:aB)(k:Nat):(lpgs l k).length=k:=by unfold lpgs;simp
theorem NX(l:aB)(h:k<=n):lpgs l k <+: lpgs l n:=by
 induction n with
 | zero=>
  grind
 | succ n a=>
  grind [lA]
variable{la:List aB}
theorem pI(sp:List au){l:aB}(h:la[i]? = some l):pgs sp (la.take (i+1))=pgs sp (la.take i)++lpgs l l.a4.toNat:=by grind [Y6,pgs]
theorem QC(sp:List au)(la:List aB)(i:Nat):pgs sp (la.take i) <+: pgs sp la:=by grind [List.take_append_drop,pgs]
variable{p:Int}{S:List Int}
theorem Nw{all:List Int}(h:(S++[p]) <+: all)(a:p∈S):decide all.Nodup=false:=by grind [List.nodup_append]
theorem lO(h:S.Nodup)(a:p∉S):(S++[p]).Nodup:=ψ
variable{sp:List au}
theorem EY(h:sp[i]? = some s):((sp.take i).map (·.R)++[s.R]) <+: pgs sp la:=by
 have a:(sp.take i).map (·.R)++[s.R]=(sp.take (i+1)).map (·.R):=by grind [Y6]
 rw[a];refine List.IsPrefix.trans ?_ (List.prefix_append ..)
 grind
theorem B1{l:aB}(h:la[i]? = some l)(a:k<l.a4.toNat):(pgs sp (la.take i)++lpgs l k++[l.R+(k:Nat)]) <+: pgs sp la:=by
 refine List.IsPrefix.trans ?_ (QC sp la (i+1));rw[pI sp h,Z6,<-lA]
 grind [List.prefix_append_right_inj,NX]
theorem qZ(h:sp[i]? = some s)(a:bf s=false):bp sp la=false:=by grind [bp]
theorem pd{l:aB}(h:la[i]? = some l)(a:bL l=false):bp sp la=false:=by grind [bp]
theorem lc(h:(S++[p]) <+: pgs sp la)(a:p∈S):bp sp la=false:=by grind [Nw,bp]
theorem tB(h1:sp.all bf=true)(a:la.all bL=true)(b:(pgs sp la).Nodup):bp sp la=true:=by grind [bp]
theorem aQ{l:aB}(h:bL l=true):1<=l.a4/\l.a4<=63/\0<=l.R/\l.R<=31:=by grind [bL]
theorem mH(sp:List au)(la:List aB)(t:dX sp)(u:dR la):zzA 210 false [.val none (bX .W sp),.val none (cC .W la)] .one [B (bp sp la)]:=by
 have J:=t.1;have K:=u.1;refine fO 79 [] Tryz.func210 rfl ?_
 repeat'(first|refine gP ?_|fail)
 (conv=>whnf)
 refine CG (ι:=Nat × List Int) (λi=>[(0,.H .one (bX .W sp)),(1,.H .one (cC .W la)),(5,.H .one (aF .own i.2)),(6,.H .one [I ((i.1:Nat):Int)])]) (λi=>i.1<=sp.length/\i.2=(sp.take i.1).map (·.R)/\(sp.take i.1).all bf=true/\i.2.Nodup) (λi=>sp.length - i.1) ((0,[])) ?_ ψ λi o=>?_
 ·exact wB
 obtain⟨i,S⟩:=i;obtain⟨o,q,d,h⟩:=o;simp only at o q d h |-;have L:S.length=i:=ψ
 by_cases w:i<sp.length
 ·have a:=ao w
  have j:=ic (nth sp i);cases e:bf (nth sp i)<;>rw[e]at j
  ·repeat'(first|refine gE ?_|(conv=>whnf);first|with_reducible refine CE (aa a) ?_|refine C9 j ?_)
   exact Z0 (λz=>[B z]) ((qZ a e).symm)
  repeat'(first|refine gE ?_|(conv=>whnf);first|with_reducible (first|refine CE (aa a) ?_|refine Bf.D (λy=>?_) (λy=>?_))|refine C9 j ?_|refine CH (nq S _ ω) ⟨⟨rfl,eM _⟩,⟨rfl,rfl⟩,trivial⟩ ?_|refine CU cz (λr E=>by rw[V1.1 E];rfl) (by simp[bk,eG]) (by simp;omega) (by simp only[I1];exact zE (by simp;omega) (by decide)) rfl ?_)
  all_goals first
   | exact Z0 (λz=>[B z]) ((lc (S:=S) (by rw[q];exact EY a) (by assumption)).symm)
   | ((conv=>whnf)
      refine CF (i+1,S++[(nth sp i).R]) ⟨(by simp only;omega),(by simp only;rw[q,Y6,a];simp),(dd a d e),lO h (by assumption)⟩ (by simp only;omega) ?_
      (repeat'(first|exact trivial|rfl|exact CM rfl (CM (Z0 (C.s dM.own) (by simp[rI])) trivial)|refine CM ?_ ?_)))
 obtain rfl:i=sp.length:=ω
 rw[O6]at d q
 repeat'(first|refine gE ?_|fail)
 (conv=>whnf)
 refine CG (ι:=Nat × List Int) (λi=>[(1,.H .one (cC .W la)),(5,.H .one (aF .own i.2)),(7,.H .one [I ((i.1:Nat):Int)])]) (λi=>i.1<=la.length/\i.2=pgs sp (la.take i.1)/\(la.take i.1).all bL=true/\i.2.Nodup/\i.2.length<=1048576+64*i.1) (λi=>la.length - i.1) ((0,S)) ?_ (⟨X0 _,by grind [pgs],rfl,h,by simp only;omega⟩) λi o=>?_
 ·exact wB
 obtain⟨i,S2⟩:=i;obtain⟨F,l,b,g,G⟩:=o;simp only at F l b g G |-;by_cases w:i<la.length
 ·have a:=ao w
  have j:=n8 (nth la i);cases e:bL (nth la i)<;>rw[e]at j
  ·repeat'(first|refine gE ?_|(conv=>whnf);first|with_reducible refine CE (aa a) ?_|refine C9 j ?_)
   exact Z0 (λz=>[B z]) ((pd a e).symm)
  have M:=aQ e
  repeat'(first|refine gE ?_|(conv=>whnf);first|with_reducible refine CE (aa a) ?_|refine C9 j ?_)
  (conv=>whnf)
  refine CG (ι:=Nat × List Int) (λk=>[(1,.H .one (cC .W la)),(5,.H .one (aF .own k.2)),(7,.H .one [I ((i:Nat):Int)]),(8,.H .one [I ((k.1:Nat):Int)])]) (λk=>k.1<=(nth la i).a4.toNat/\k.2=S2++lpgs (nth la i) k.1/\k.2.Nodup) (λk=>(nth la i).a4.toNat - k.1) ((0,S2)) ?_ (⟨X0 _,by simp[lpgs],g⟩) λk H=>?_
  ·exact wB
  obtain⟨k,p⟩:=k;obtain⟨H,n,c⟩:=H;simp only at H n c |-;have N:p.length=S2.length+k:=by grind [GA]
  by_cases O:k<(nth la i).a4.toNat
  ·repeat'(first|refine gE ?_|(conv=>whnf);first|with_reducible (first|refine CE (aa a) ?_|refine Bf.D (λy=>?_) (λy=>?_))|refine CH (nq p _ ω) ⟨⟨rfl,eM _⟩,⟨rfl,rfl⟩,trivial⟩ ?_|refine CU cz (λr E=>by rw[V1.1 E];rfl) (by simp[bk,eG]) (by simp;omega) (by show _*8<=_;simp;omega) rfl ?_)
   all_goals first
    | exact Z0 (λz=>[B z]) ((lc (S:=p) (by rw[n,l];exact B1 a O) (by assumption)).symm)
    | ((conv=>whnf)
       refine CF (k+1,p++[(nth la i).R+(k:Nat)]) ⟨(by simp only;omega),(by simp only;rw[n,lA,Z6]),lO c (by assumption)⟩ (by simp only;omega) ?_
       (repeat'(first|exact trivial|rfl|exact CM rfl (CM (Z0 (C.s dM.own) (by simp[rI])) trivial)|refine CM ?_ ?_)))
  obtain rfl:k=(nth la i).a4.toNat:=ω
  repeat'(first|refine gE ?_|(conv=>whnf);first|with_reducible refine CE (aa a) ?_)
  ((conv=>whnf);refine CF (i+1,p) ⟨(by simp only;omega),(by grind [pI]),(dd a b e),c,(by simp only;omega)⟩ (by simp only;omega) ?_;(exact wB))
 obtain rfl:i=la.length:=ω
 rw[O6]at b l
 repeat'(first|refine gE ?_|fail)
 exact Z0 (λz=>[B z]) ((tB d b ψ).symm)
def ins(S:List Int)(p:Int):List Int:=if p∈S then S else S++[p]
theorem K6{p:Int} : ∀{S:List Int},p∈S->mput (gl S) p (.bool true)=gl S
 | x::S,h=>by
  simp only[gl,O7,mput];by_cases a:x=p
  ·rw[CD a,a]
  rw[CB a];have:=K6 (S:=S) ((List.mem_cons.1 h).resolve_left λe=>a e.symm)
  grind [gl]
theorem y2(S:List Int)(p:Int):gl (ins S p)=mput (gl S) p (.bool true):=by grind [K6,uz,ins]
theorem Ni(S:List Int)(p:Int):zzB 224 false [.val none [I p],.ptr [.m (gl S)]] [.val none [I p],.ptr [.m (gl (ins S p))]] .one [B (decide (p∉S))]:=by
 refine fM 12 [] [] [(0,0),(0,0)] Tryz.func224 rfl (λu q=>?_)
 repeat'(first|refine gP ?_|(conv=>whnf);first|refine Ml.mk (oo p S) ?_|refine Mu.mk (y2 S p) ?_)
 refine CJ rfl ?_ ?_
 ·grind
 exact wB
theorem rn(sp:List au)(la:List aB)(t:dX sp)(u:dR la):zzA 76 false [.val none (bX .W sp),.val none (cC .W la)] .one [B (bp sp la)]:=by
 have F:=t.1;have G:=u.1;refine fP 54 [(224,[0,2])] [] Tryz.func76 rfl ?_
 repeat'(first|refine gP ?_|fail)
 (conv=>whnf)
 refine CG (ι:=Nat × List Int) (λi=>[(1,.H .one (cC .W la)),(5,.H .box [.m (gl i.2)]),(6,.fn 224 [5]),(14,.H .one (bX .W sp)),(15,.H .one [I (sp.length)]),(16,.H .one [I ((i.1:Nat):Int)])]) (λi=>i.1<=sp.length/\i.2=(sp.take i.1).map (·.R)/\(sp.take i.1).all bf=true/\i.2.Nodup) (λi=>sp.length - i.1) ((0,[])) ?_ ψ λi p=>?_
 ·exact wB
 obtain⟨i,S⟩:=i;obtain⟨p,r,e,j⟩:=p;simp only at p r e j |-;by_cases w:i<sp.length
 ·have c:=ao w
  have l:=gV (nth sp i);cases g:bf (nth sp i)<;>rw[g]at l
  ·repeat'(first|refine gE ?_|(conv=>whnf);first|with_reducible refine CE (aa c) ?_|refine C9 l ?_)
   exact Z0 (λz=>[B z]) ((qZ c g).symm)
  repeat'(first|refine gE ?_|(conv=>whnf);first|with_reducible (first|refine CE (aa c) ?_|refine Bf.D (λy=>?_) (λy=>?_))|refine C9 l ?_|refine CL (Ni S _) (.inl rfl) ?_)
  all_goals first
   | exact Z0 (λz=>[B z]) ((lc (S:=S) (by rw[r];exact EY c) ψ).symm)
   |(have a:(nth sp i).R∉S:=by assumption
     (conv=>whnf)
     refine CF (i+1,ins S (nth sp i).R) ⟨(by simp only;omega),(by simp only;unfold ins;rw[CB a,r,Y6,c];simp),(dd c e g),(by simp only;unfold ins;rw[CB a];exact lO j a)⟩ (by simp only;omega) ?_
     (exact wA))
 obtain rfl:i=sp.length:=ω
 rw[O6]at e r
 repeat'(first|refine gE ?_|fail)
 (conv=>whnf)
 refine CG (ι:=Nat × List Int) (λi=>[(5,.H .box [.m (gl i.2)]),(6,.fn 224 [5]),(31,.H .one (cC .W la)),(32,.H .one [I (la.length)]),(33,.H .one [I ((i.1:Nat):Int)])]) (λi=>i.1<=la.length/\i.2=pgs sp (la.take i.1)/\(la.take i.1).all bL=true/\i.2.Nodup) (λi=>la.length - i.1) ((0,S)) ?_ (⟨X0 _,by grind [pgs],rfl,j⟩) λi p=>?_
 ·exact wB
 obtain⟨i,S2⟩:=i;obtain⟨C,n,b,h⟩:=p;simp only at C n b h |-;by_cases w:i<la.length
 ·have c:=ao w
  have l:=sD (nth la i);cases g:bL (nth la i)<;>rw[g]at l
  ·repeat'(first|refine gE ?_|(conv=>whnf);first|with_reducible refine CE (aa c) ?_|refine C9 l ?_)
   exact Z0 (λz=>[B z]) ((pd c g).symm)
  have H:=aQ g
  repeat'(first|refine gE ?_|(conv=>whnf);first|with_reducible refine CE (aa c) ?_|refine C9 l ?_)
  (conv=>whnf)
  refine CG (ι:=Nat × List Int) (λk=>[(5,.H .box [.m (gl k.2)]),(6,.fn 224 [5]),(10,.H .box (aB.enc .W (nth la i))),(11,.H .one [I ((k.1:Nat):Int)]),(31,.H .one (cC .W la)),(32,.H .one [I (la.length)]),(33,.H .one [I ((i:Nat):Int)])]) (λk=>k.1<=(nth la i).a4.toNat/\k.2=S2++lpgs (nth la i) k.1/\k.2.Nodup) (λk=>(nth la i).a4.toNat - k.1) ((0,S2)) ?_ (⟨X0 _,by simp[lpgs],h⟩) λk E=>?_
  ·exact wB
  obtain⟨k,q⟩:=k;obtain⟨E,o,d⟩:=E;simp only at E o d |-;by_cases J:k<(nth la i).a4.toNat
  ·repeat'(first|refine gE ?_|(conv=>whnf);first|with_reducible refine Bf.D (λy=>?_) (λy=>?_)|refine CL (Ni q _) (.inl rfl) ?_)
   all_goals first
    | exact Z0 (λz=>[B z]) ((lc (S:=q) (by rw[o,n];exact B1 c J) ψ).symm)
    |(have a:(nth la i).R+(k:Nat)∉q:=by assumption
      (conv=>whnf)
      refine CF (k+1,ins q ((nth la i).R+(k:Nat))) ⟨(by simp only;omega),(by simp only;unfold ins;rw[CB a,o,lA,Z6]),(by simp only;unfold ins;rw[CB a];exact lO d a)⟩ (by simp only;omega) ?_
      (exact wA))
  obtain rfl:k=(nth la i).a4.toNat:=ω
  repeat'(first|refine gE ?_|fail)
  ((conv=>whnf);refine CF (i+1,q) ⟨(by simp only;omega),(by grind [pI]),(dd c b g),d⟩ (by simp only;omega) ?_;(exact wB))
 obtain rfl:i=la.length:=ω
 rw[O6]at b n
 repeat'(first|refine gE ?_|fail)
 exact Z0 (λz=>[B z]) ((tB e b ψ).symm)
theorem aE(h:bf s=true):0<=s.R/\s.R<=31/\0<=s.e/\s.e<=3:=by grind [bf]
theorem bV{k:Int}(h:0<=k/\k<=3):csz k=1\/csz k=2\/csz k=4\/csz k=8:=by
 obtain rfl|rfl|rfl|rfl:k=0\/k=1\/k=2\/k=3:=ω
 all_goals decide
def kx{x y:Int}(h:0<=x):x.tdiv y=x / y:=Int.tdiv_eq_ediv_of_nonneg h
def dP{x y:Int}(h:0<=x):x.tmod y=x % y:=Int.tmod_eq_emod_of_nonneg h
def S2(p:Int × Int):List C:=[I p.1,I p.2]
theorem By{p:Int × Int}(h:(a,b)=p):[I a,I b]=S2 p:=by subst h;rfl
theorem vQ(s:au)(a:Int)(k:n7 a):zzA 473 false [.val (some 3) (au.enc .W s),.val none [I a]] (.tup [none,none]) (S2 (jo s a)):=by
 have c:=ic s;have l:=eB s.e;obtain⟨n,o⟩:=k;cases d:bf s<;>rw[d]at c
 ·refine fO 33 [(4,12,[23,24,25,26,27,28,29,30,31,32,4,5])] Tryz.func473 rfl ?_ (.inr ⟨trivial,trivial,trivial⟩)
  repeat'(first|refine gP ?_|(conv=>whnf);first|refine C9 c ?_)
  exact By (by grind [jo,di])
 have h:=aE d;have i:=bV ⟨h.2.2.1,h.2.2.2⟩;by_cases g:16*s.R<=a/\a<=16*s.R+15
 ·have j:0<=a:=ω
  refine fO 33 [(4,12,[23,24,25,26,27,28,29,30,31,32,4,5])] Tryz.func473 rfl ?_ (.inr ⟨trivial,trivial,trivial⟩)
  repeat'(first|refine gE ?_|(conv=>whnf);first|with_reducible refine Bf.N (λb=>?_) (λb=>?_)|refine C9 c ?_|refine C9 l ?_|refine CP (by decide) ?_|refine CP ω ?_|refine CO ((Z0 _ (kx j)).trans (eX ω ω)) ?_|refine CS (dP j) ?_|refine CO ((Z0 _ (kx ω)).trans (eX (by rcases i with e|e|e|e<;>rw[e]<;>omega) (by rcases i with e|e|e|e<;>rw[e]<;>omega))) ?_|refine CS (dP ω) ?_)
  all_goals grind [By,jo,di]
 refine fO 33 [(4,12,[23,24,25,26,27,28,29,30,31,32,4,5])] Tryz.func473 rfl ?_ (.inr ⟨trivial,trivial,trivial⟩)
 repeat'(first|refine gP ?_|(conv=>whnf);first|with_reducible (first|refine Bf.D (λb=>?_) (λb=>?_)|refine Bf.N (λb=>?_) (λb=>?_))|refine C9 c ?_|refine CP (by decide) ?_|refine CO ((Z0 _ (kx ω)).trans (eX ω ω)) ?_)
 all_goals first
  |exact By (by unfold jo di;rw[d,W0 g];rfl)
  |(exfalso;omega)
theorem Gy(s:au)(a:Int):zzA 379 false [.val (some 3) (au.enc .W s),.val none [I a]] (.tup [none,none]) (S2 (jo s a)):=by
 have b:=gV s;have j:=ew s.e;cases c:bf s<;>rw[c]at b
 ·refine fO 38 [(4,12,[28,29,30,31,32,33,34,35,36,37,4,5])] Tryz.func379 rfl ?_ (.inr ⟨trivial,trivial,trivial⟩)
  repeat'(first|refine gP ?_|(conv=>whnf);first|refine C9 b ?_)
  exact By (by grind [jo,di])
 have h:=aE c;have i:=bV ⟨h.2.2.1,h.2.2.2⟩;by_cases d:16*s.R<=a/\a<=16*s.R+15
 ·refine fO 38 [(4,12,[28,29,30,31,32,33,34,35,36,37,4,5])] Tryz.func379 rfl ?_ (.inr ⟨trivial,trivial,trivial⟩)
  repeat'(first|refine gE ?_|(conv=>whnf);first|with_reducible refine Bf.D (λg=>?_) (λg=>?_)|refine C9 b ?_|refine C9 j ?_|refine C9 (aK _ _ _) ?_|refine CP ω ?_|refine CO ((Z0 _ (kx ω)).trans (eX (by rcases i with e|e|e|e<;>rw[e]<;>omega) (by rcases i with e|e|e|e<;>rw[e]<;>omega))) ?_|refine CS (dP ω) ?_)
  grind [By,jo,di]
 refine fO 38 [(4,12,[28,29,30,31,32,33,34,35,36,37,4,5])] Tryz.func379 rfl ?_ (.inr ⟨trivial,trivial,trivial⟩)
 repeat'(first|refine gE ?_|(conv=>whnf);first|with_reducible refine Bf.D (λg=>?_) (λg=>?_)|refine C9 b ?_|refine C9 (aK _ _ _) ?_)
 all_goals exact By (by unfold jo di;rw[c,W0 d];rfl)
def qj(b i:Int):zzA 547 false [.val none [I b],.val none [I i]] .one [B (decide (0<=b/\0<=i/\i<=15))]:=by
 refine fO 11 [] Tryz.func547 rfl ?_
 repeat'(first|refine gP ?_|(conv=>whnf);first|with_reducible refine Bf.D (λa=>?_) (λa=>?_)|refine C9 (aH _ 0 15) ?_)
 all_goals exact Z0 (λz=>[B z]) ((by first|(symm;exact W0 ω)|exact decide_eq_decide.2 ω))
def vh(b i:Int):zzA 457 false [.val none [I b],.val none [I i]] .one [B (decide (0<=b/\0<=i/\i<=15))]:=by
 refine fO 11 [] Tryz.func457 rfl ?_
 repeat'(first|refine gP ?_|(conv=>whnf);first|with_reducible refine Bf.D (λa=>?_) (λa=>?_)|refine C9 (aK _ 0 15) ?_)
 all_goals exact Z0 (λz=>[B z]) ((by first|(symm;exact W0 ω)|exact decide_eq_decide.2 ω))
theorem Qq{i:Int}(a:0<=b/\b<=9223372036854775807)(e:0<=i/\i<=15):b.fdiv (2 ^ min i.toNat IntKind.i64.bits)=b / 2 ^ i.toNat/\0<=b / 2 ^ i.toNat/\b / 2 ^ i.toNat<=9223372036854775807:=by
 have d:min i.toNat IntKind.i64.bits=i.toNat:=Nat.min_eq_left (show i.toNat<=64 by omega);rw[d];have c:(0:Int)<=2 ^ i.toNat:=ψ
 refine⟨Int.fdiv_eq_ediv_of_nonneg _ c,Int.ediv_nonneg a.1 c,?_⟩;have:=Int.ediv_le_self (2 ^ i.toNat:Int) a.1;omega
theorem yb{i:Int}(a:0<=b)(c:0<=i/\i<=15):((((b / 2 ^ i.toNat).toNat &&& (1:Int).toNat:Nat):Int) == 1)=aX b i:=by
 have d:(0:Int)<=b / 2 ^ i.toNat:=Int.ediv_nonneg a ψ
 grind [aX]
theorem j9(b i:Int)(c:b<=9223372036854775807):zzA 474 false [.val none [I b],.val none [I i]] .one [B (aX b i)]:=by
 by_cases h:0<=b/\0<=i/\i<=15
 ·obtain⟨d,g⟩:=Qq (b:=b) (i:=i) ⟨h.1,c⟩ h.2
  have j:IntKind.u64.wrap i=i:=by grind [Go.IntKind.wrap,Go.IntKind.bits]
  refine fO 16 [] Tryz.func474 rfl ?_
  repeat'(first|refine gE ?_|(conv=>whnf);first|with_reducible refine Bf.D (λa=>?_) (λa=>?_)|refine C9 (qj _ _) ?_|refine CP ω ?_|refine CO j ?_|refine CS d ?_|refine CO (and64 g ⟨by decide,by decide⟩) ?_)
  grind [yb]
 refine fO 16 [] Tryz.func474 rfl ?_
 repeat'(first|refine gE ?_|(conv=>whnf);first|with_reducible refine Bf.D (λa=>?_) (λa=>?_)|refine C9 (qj _ _) ?_)
 all_goals exact Z0 (λz=>[B z]) ((by unfold aX;symm;exact W0 λe=>h ⟨e.1,e.2.1,e.2.2.1⟩))
theorem jE(b i:Int)(c:b<=9223372036854775807):zzA 380 false [.val none [I b],.val none [I i]] .one [B (aX b i)]:=by
 by_cases h:0<=b/\0<=i/\i<=15
 ·obtain⟨d,g⟩:=Qq (b:=b) (i:=i) ⟨h.1,c⟩ h.2
  refine fO 15 [] Tryz.func380 rfl ?_
  repeat'(first|refine gE ?_|(conv=>whnf);first|with_reducible refine Bf.D (λa=>?_) (λa=>?_)|refine C9 (vh _ _) ?_|refine CP ω ?_|refine CS d ?_|refine CO (and64 g ⟨by decide,by decide⟩) ?_)
  grind [yb]
 refine fO 15 [] Tryz.func380 rfl ?_
 repeat'(first|refine gE ?_|(conv=>whnf);first|with_reducible refine Bf.D (λa=>?_) (λa=>?_)|refine C9 (vh _ _) ?_)
 all_goals exact Z0 (λz=>[B z]) ((by unfold aX;symm;exact W0 λe=>h ⟨e.1,e.2.1,e.2.2.1⟩))
theorem cX{l:aB}(h:bL l=true):9<=l.q/\l.q<=1000/\0<=l.R/\l.R<=31:=by grind [bL]
theorem qS(l:aB)(a:Int):zzA 475 false [.val (some 3) (aB.enc .W l),.val none [I a]] .one [B (bH l a)]:=by
 have b:=n8 l;cases c:bL l<;>rw[c]at b
 ·refine fO 24 [] Tryz.func475 rfl ?_
  repeat'(first|refine gP ?_|(conv=>whnf);first|refine C9 b ?_)
  exact Z0 (λz=>[B z]) ((by grind [bH]))
 have e:=cX c;refine fO 24 [] Tryz.func475 rfl ?_
 repeat'(first|refine gP ?_|(conv=>whnf);first|with_reducible refine Bf.D (λd=>?_) (λd=>?_)|refine C9 b ?_)
 all_goals exact Z0 (λz=>[B z]) ((by unfold bH;rw[c,Bool.true_and];first|(symm;exact W0 ω)|exact decide_eq_decide.2 ω))
theorem rh(l:aB)(a:Int):zzA 381 false [.val (some 3) (aB.enc .W l),.val none [I a]] .one [B (bH l a)]:=by
 have b:=sD l;cases c:bL l<;>rw[c]at b
 ·refine fO 21 [] Tryz.func381 rfl ?_
  repeat'(first|refine gP ?_|(conv=>whnf);first|refine C9 b ?_)
  exact Z0 (λz=>[B z]) ((by grind [bH]))
 have e:=cX c;refine fO 21 [] Tryz.func381 rfl ?_
 repeat'(first|refine gP ?_|(conv=>whnf);first|with_reducible refine Bf.D (λd=>?_) (λd=>?_)|refine C9 b ?_|refine C9 (aK _ _ _) ?_)
 grind [bH]
theorem u6(l:aB)(a:Int)(h:bH l a=true):zzA 476 false [.val (some 3) (aB.enc .W l),.val none [I a]] .one [I (a - 16*l.R)]:=by
 have b:=qS l a;rw[h]at b;unfold bH at h;simp only[I0,C0]at h;have c:=cX h.1;refine fO 14 [] Tryz.func476 rfl ?_
 repeat'(first|refine gP ?_|(conv=>whnf);first|refine C9 b ?_)
 grind
theorem vd(l:aB)(a:Int)(h:bH l a=true):zzA 382 false [.val (some 3) (aB.enc .W l),.val none [I a]] .one [I (a - 16*l.R)]:=by
 have b:=rh l a;rw[h]at b;unfold bH at h;simp only[I0,C0]at h;have c:=cX h.1;refine fO 14 [] Tryz.func382 rfl ?_
 repeat'(first|refine gP ?_|(conv=>whnf);first|refine C9 b ?_)
 grind
variable{m:aJ}
theorem qy(a:i<m.V.length)(h:ip m i=false):bQ m=false:=by grind [cF,bQ]
theorem xI(h:¬(1<=m.V.length/\m.V.length<=4/\m.a1.length=m.V.length)):bQ m=false:=by grind [bQ]
theorem yc(h1:1<=m.V.length/\m.V.length<=4/\m.a1.length=m.V.length)(a:dr m.V.length (ip m)=true):bQ m=decide (bC m m.V.length<=30):=by grind [bQ]
theorem mz(m:aJ)(h:aJ.sml m):zzA 111 false [.val (some 2) (aJ.enc .W m)] .one [B (bQ m)]:=by
 have r:m.V.length<=1048576:=h.1.1;have t:m.a1.length<=1048576:=h.2.1;by_cases u:1<=m.V.length/\m.V.length<=4/\m.a1.length=m.V.length
 ·refine fO 92 [(19,15,[75,76,77,78,79,80,81,82,83,84,85,86,87,88,89])] Tryz.func111 rfl ?_
  repeat'(first|refine gB ?_|(conv=>whnf);first|with_reducible (first|refine Bf.D (λa=>?_) (λa=>?_)|refine Bf.N (λa=>?_) (λa=>?_))|refine C9 (aH _ 1 4) ?_)
  (conv=>whnf)
  refine CG (ι:=Nat) (λi=>[(1,.H .box (aJ.enc .W m)),(3,.H .one [I (m.V.length)]),(4,.H .one [I (bC m i)]),(5,.H .one [I ((i:Nat):Int)])]) (λi=>i<=m.V.length/\dr i (ip m)=true/\0<=bC m i/\bC m i<=2097152*i) (λi=>m.V.length - i) (0) ?_ (⟨X0 _,rfl,by simp[bC],by simp[bC]⟩) λi n=>?_
  ·exact wB
  obtain⟨n,w,F,G⟩:=n;by_cases j:i<m.V.length
  ·have l:=ao j
   have o:=ao (xs:=m.a1) (i:=i) ω;have y:(nth m.V i).length<=1048576:=(h.1.2 _ (am j)).1;have C:(nth m.a1 i).length<=1048576:=h.2.2 _ ψ
   repeat'(first|refine gE ?_|fail)
   (conv=>whnf)
   refine CG (ι:=Nat) (λk=>[(1,.H .box (aJ.enc .W m)),(3,.H .one [I (m.V.length)]),(4,.H .one [I (bC m i)]),(5,.H .one [I ((i:Nat):Int)]),(6,.H .one [I ((k:Nat):Int)])]) (λk=>k<=(nth m.V i).length/\((nth m.V i).take k).all (nK m.V.length)=true) (λk=>(nth m.V i).length - k) (0) ?_ ψ λk p=>?_
   ·exact wB
   obtain⟨p,q⟩:=p;by_cases E:k<(nth m.V i).length
   ·have c:=ao E
    repeat'(first|refine gE ?_|(conv=>whnf);first|with_reducible (first|refine CE (aa l) ?_|refine CE (aa c) ?_|refine Bf.D (λa=>?_) (λa=>?_))|refine C9 (aH _ 0 _) ?_)
    all_goals first
     | exact Z0 (λz=>[B z]) ((qy j (by unfold ip;rw[ik c (by unfold nK;exact W0 ω)];rfl)).symm)
     | ((conv=>whnf);refine CF (k+1) ⟨ω,dd c q (by unfold nK;exact O0 ω)⟩ ω ?_;(exact wB))
   have H:=nL ω q
   repeat'(first|refine gE ?_|(conv=>whnf);first|with_reducible refine CE (aa l) ?_)
   (conv=>whnf)
   refine CG (ι:=Nat) (λb=>[(1,.H .box (aJ.enc .W m)),(3,.H .one [I (m.V.length)]),(4,.H .one [I (bC m i)]),(5,.H .one [I ((i:Nat):Int)]),(8,.H .one [I ((b:Nat):Int)])]) (λb=>b<=(nth m.a1 i).length/\((nth m.a1 i).take b).all Rd=true) (λb=>(nth m.a1 i).length - b) (0) ?_ ψ λb e=>?_
   ·exact wB
   obtain⟨e,ak2⟩:=e;by_cases lk2:b<(nth m.a1 i).length
   ·have c:=ao lk2
    repeat'(first|refine gE ?_|(conv=>whnf);first|with_reducible (first|refine CE (aa o) ?_|refine CE (aa c) ?_|refine Bf.D (λa=>?_) (λa=>?_)))
    all_goals first
     | exact Z0 (λz=>[B z]) ((qy j (by unfold ip;rw[ik c (by unfold Rd;exact W0 ω)];simp)).symm)
     | ((conv=>whnf);refine CF (b+1) ⟨ω,dd c ak2 (by unfold Rd;exact O0 ω)⟩ ω ?_;(exact wB))
   have ae2:=nL ω ak2;have g:bC m (i+1)=bC m i+((nth m.V i).length+(nth m.a1 i).length):=rfl;have d:bC m (i+1)=bC m i+(nth m.V i).length+(nth m.a1 i).length:=by rw[g];omega
   repeat'(first|refine gE ?_|(conv=>whnf);first|with_reducible (first|refine CE (aa l) ?_|refine CE (aa o) ?_))
   ((conv=>whnf);refine CF (i+1) ⟨ω,bU w (by grind [ip]),ω,ω⟩ ω ?_)
   rw[d];exact wB
  obtain rfl:i=m.V.length:=ω
  repeat'(first|refine gE ?_|fail)
  grind [yc]
 refine fO 92 [(19,15,[75,76,77,78,79,80,81,82,83,84,85,86,87,88,89])] Tryz.func111 rfl ?_
 repeat'(first|refine gP ?_|(conv=>whnf);first|with_reducible (first|refine Bf.D (λa=>?_) (λa=>?_)|refine Bf.N (λa=>?_) (λa=>?_))|refine C9 (aH _ 1 4) ?_)
 all_goals first
  | exact Z0 (λz=>[B z]) ((xI u).symm)
  |(exfalso;omega)
theorem vY(m:aJ)(g:aJ.sml m):zzA 78 false [.val (some 2) (aJ.enc .W m)] .one [B (bQ m)]:=by
 have q:m.V.length<=1048576:=g.1.1;have r:m.a1.length<=1048576:=g.2.1;by_cases t:1<=m.V.length/\m.V.length<=4/\m.a1.length=m.V.length
 ·refine fO 82 [(20,15,[64,65,66,67,68,69,70,71,72,73,74,75,76,77,78])] Tryz.func78 rfl ?_
  repeat'(first|refine gB ?_|(conv=>whnf);first|with_reducible (first|refine Bf.D (λa=>?_) (λa=>?_)|refine Bf.N (λa=>?_) (λa=>?_))|refine C9 (aK _ 1 4) ?_)
  (conv=>whnf)
  refine CG (ι:=Nat) (λi=>[(1,.H .box (aJ.enc .W m)),(3,.H .one [I (m.V.length)]),(4,.H .one [I (bC m i)]),(25,.H .one [I (m.V.length)]),(26,.H .one [I ((i:Nat):Int)])]) (λi=>i<=m.V.length/\dr i (ip m)=true/\0<=bC m i/\bC m i<=2097152*i) (λi=>m.V.length - i) (0) ?_ (⟨X0 _,rfl,by simp[bC],by simp[bC]⟩) λi n=>?_
  ·exact wB
  obtain⟨n,u,E,F⟩:=n;by_cases h:i<m.V.length
  ·have j:=ao h
   have l:=ao (xs:=m.a1) (i:=i) ω;have w:(nth m.V i).length<=1048576:=(g.1.2 _ (am h)).1;have y:(nth m.a1 i).length<=1048576:=g.2.2 _ ψ
   repeat'(first|refine gE ?_|(conv=>whnf);first|with_reducible refine CE (aa j) ?_)
   (conv=>whnf)
   refine CG (ι:=Nat) (λk=>[(1,.H .box (aJ.enc .W m)),(3,.H .one [I (m.V.length)]),(4,.H .one [I (bC m i)]),(5,.H .one [I ((i:Nat):Int)]),(25,.H .one [I (m.V.length)]),(26,.H .one [I ((i:Nat):Int)]),(33,.H .one (cS .W (nth m.V i))),(34,.H .one [I ((nth m.V i).length)]),(35,.H .one [I ((k:Nat):Int)])]) (λk=>k<=(nth m.V i).length/\((nth m.V i).take k).all (nK m.V.length)=true) (λk=>(nth m.V i).length - k) (0) ?_ ψ λk o=>?_
   ·exact wB
   obtain⟨o,p⟩:=o;by_cases C:k<(nth m.V i).length
   ·have c:=ao C
    repeat'(first|refine gE ?_|(conv=>whnf);first|with_reducible (first|refine CE (aa j) ?_|refine CE (aa c) ?_|refine Bf.D (λa=>?_) (λa=>?_))|refine C9 (aK _ 0 _) ?_)
    all_goals first
     | exact Z0 (λz=>[B z]) ((qy h (by unfold ip;rw[ik c (by unfold nK;exact W0 ω)];rfl)).symm)
     | ((conv=>whnf);refine CF (k+1) ⟨ω,dd c p (by unfold nK;exact O0 ω)⟩ ω ?_;(exact wB))
   have G:=nL ω p
   repeat'(first|refine gE ?_|(conv=>whnf);first|with_reducible (first|refine CE (aa j) ?_|refine CE (aa l) ?_))
   (conv=>whnf)
   refine CG (ι:=Nat) (λb=>[(1,.H .box (aJ.enc .W m)),(3,.H .one [I (m.V.length)]),(4,.H .one [I (bC m i)]),(5,.H .one [I ((i:Nat):Int)]),(25,.H .one [I (m.V.length)]),(26,.H .one [I ((i:Nat):Int)]),(55,.H .one (aF .W (nth m.a1 i))),(56,.H .one [I ((nth m.a1 i).length)]),(57,.H .one [I ((b:Nat):Int)])]) (λb=>b<=(nth m.a1 i).length/\((nth m.a1 i).take b).all Rd=true) (λb=>(nth m.a1 i).length - b) (0) ?_ ψ λb d=>?_
   ·exact wB
   obtain⟨d,ak2⟩:=d;by_cases lk2:b<(nth m.a1 i).length
   ·have c:=ao lk2
    repeat'(first|refine gE ?_|(conv=>whnf);first|with_reducible (first|refine CE (aa l) ?_|refine CE (aa c) ?_|refine Bf.D (λa=>?_) (λa=>?_)))
    all_goals first
     | exact Z0 (λz=>[B z]) ((qy h (by unfold ip;rw[ik c (by unfold Rd;exact W0 ω)];simp)).symm)
     | ((conv=>whnf);refine CF (b+1) ⟨ω,dd c ak2 (by unfold Rd;exact O0 ω)⟩ ω ?_;(exact wB))
   have ae2:=nL ω ak2;have e:bC m (i+1)=bC m i+((nth m.V i).length+(nth m.a1 i).length):=rfl
   repeat'(first|refine gE ?_|(conv=>whnf);first|with_reducible (first|refine CE (aa j) ?_|refine CE (aa l) ?_))
   ((conv=>whnf);refine CF (i+1) ⟨ω,bU u (by grind [ip]),ω,ω⟩ ω ?_)
   rw[e];exact wB
  obtain rfl:i=m.V.length:=ω
  repeat'(first|refine gE ?_|fail)
  grind [yc]
 refine fO 82 [(20,15,[64,65,66,67,68,69,70,71,72,73,74,75,76,77,78])] Tryz.func78 rfl ?_
 repeat'(first|refine gP ?_|(conv=>whnf);first|with_reducible (first|refine Bf.D (λa=>?_) (λa=>?_)|refine Bf.N (λa=>?_) (λa=>?_))|refine C9 (aK _ 1 4) ?_)
 all_goals first
  | exact Z0 (λz=>[B z]) ((xI t).symm)
  |(exfalso;omega)
def De(h:di s a=false):S2 (jo s a)=[I (-1),I (-1)]:=by
 unfold jo;rw[h];rfl
def zi(h:di s a=true):S2 (jo s a)=[I ((a - 16*s.R) / csz s.e),I ((a - 16*s.R) % csz s.e)]:=by
 unfold jo;rw[h];rfl
theorem tL(h:di s a=true):bf s=true/\0<=(a - 16*s.R) / csz s.e/\(a - 16*s.R) / csz s.e<=15:=by
 unfold di at h;simp only[I0,C0]at h;have b:=aE h.1
 grind [bV]
def oz(b:i<sp.length)(h:di (nth sp i) a=true)(c:∀(j:Nat)(z:au),j<i->sp[j]? = some z->di z a=false):denotes sp la a=nI i (nth sp i) a:=by
 unfold denotes;rw[wP (pr:=(di · a)) (ao b) h c]
def mO(b:sp.length<=n)(c:∀(j:Nat)(z:au),j<n->sp[j]? = some z->di z a=false)(d:i<la.length)(h:bH (nth la i) a=true)(e:∀(j:Nat)(z:aB),j<i->la[j]? = some z->bH z a=false) :
  denotes sp la a = ⟨3,i,0,a - 16*(nth la i).R⟩:=by
 unfold denotes;rw[E6 (pr:=(di · a)) b c,wP (pr:=(bH · a)) (ao d) h e]
theorem xk(b:sp.length<=n)(c:∀(j:Nat)(z:au),j<n->sp[j]? = some z->di z a=false)(d:la.length<=k)(e:∀(j:Nat)(z:aB),j<k->la[j]? = some z->bH z a=false):denotes sp la a = ⟨0,0,0,0⟩:=by grind [E6,denotes]
theorem oe(sp:List au)(la:List aB)(a:Int)(d:dX sp)(e:dR la)(g:bp sp la=true)(C:n7 a):zzA 362 false [.val none (bX .W sp),.val none (cC .W la),.val none [I a]] .agg (jW.enc .own (denotes sp la a)):=by
 have E:=d.1;have F:=e.1;have p:=mH sp la d e;rw[g]at p;refine fO 67 [] Tryz.func362 rfl ?_ (.inr (jW.enc_fr _))
 repeat'(first|refine gP ?_|(conv=>whnf);first|refine C9 p ?_)
 (conv=>whnf)
 refine CG (ι:=Nat) (λi=>[(0,.H .one (bX .W sp)),(1,.H .one (cC .W la)),(2,.H .one [I (a)]),(6,.H .box ([I 0,I 0,I 0,I 0])),(7,.H .one [I ((i:Nat):Int)])]) (λi=>i<=sp.length/\∀(j:Nat)(z:au),j<i->sp[j]? = some z->di z a=false) (λi=>sp.length - i) (0) ?_ ψ λi q=>?_
 ·exact wB
 obtain⟨q,l⟩:=q;by_cases r:i<sp.length
 ·have h:=ao r
  have b:=vQ (nth sp i) a C;cases c:di (nth sp i) a with
  | false=>
   rw[De c]at b
   repeat'(first|refine gE ?_|(conv=>whnf);first|with_reducible (first|refine CE (aa h) ?_|refine Bf.D (λo=>?_) (λo=>?_))|refine C9 b ?_)
   ((conv=>whnf);refine CF (i+1) ψ ω ?_;(exact wB))
  | true=>
   rw[zi c]at b;obtain⟨G,H,J⟩:=tL c;have t:=j9 (nth sp i).b2 ((a - 16*(nth sp i).R) / csz (nth sp i).e) (fG G).2;cases u:aX (nth sp i).b2 ((a - 16*(nth sp i).R) / csz (nth sp i).e)<;>rw[u]at t
   all_goals
    repeat'(first|refine gE ?_|(conv=>whnf);first|with_reducible (first|refine CE (aa h) ?_|refine Bf.D (λo=>?_) (λo=>?_))|refine C9 b ?_|refine C9 t ?_)
    all_goals(rw[oz r c l];unfold nI;rw[u];rfl)
 repeat'(first|refine gE ?_|fail)
 (conv=>whnf)
 refine CG (ι:=Nat) (λk=>[(1,.H .one (cC .W la)),(2,.H .one [I (a)]),(6,.H .box ([I 0,I 0,I 0,I 0])),(11,.H .one [I ((k:Nat):Int)])]) (λk=>k<=la.length/\∀(j:Nat)(z:aB),j<k->la[j]? = some z->bH z a=false) (λk=>la.length - k) (0) ?_ ψ λk w=>?_
 ·exact wB
 obtain⟨w,y⟩:=w;by_cases B:k<la.length
 ·have h:=ao B
  have b:=qS (nth la k) a;cases c:bH (nth la k) a<;>rw[c]at b
  ·repeat'(first|refine gE ?_|(conv=>whnf);first|with_reducible refine CE (aa h) ?_|refine C9 b ?_)
   ((conv=>whnf);refine CF (k+1) ψ ω ?_;(exact wB))
  repeat'(first|refine gE ?_|(conv=>whnf);first|with_reducible refine CE (aa h) ?_|refine C9 b ?_|refine C9 (u6 (nth la k) a c) ?_)
  rw[mO (n:=i) ω l B c y];rfl
 repeat'(first|refine gE ?_|fail)
 rw[xk (n:=i) (k:=k) ω l ω y];rfl
theorem nU(sp:List au)(la:List aB)(a:Int)(e:dX sp)(g:dR la):zzA 235 false [.val none (bX .W sp),.val none (cC .W la),.val none [I a]] .agg (jW.enc .own (denotes sp la a)):=by
 have y:=e.1;have B:=g.1;refine fO 56 [] Tryz.func235 rfl ?_ (.inr (jW.enc_fr _))
 repeat'(first|refine gP ?_|fail)
 (conv=>whnf)
 refine CG (ι:=Nat) (λi=>[(1,.H .one (cC .W la)),(2,.H .one [I (a)]),(6,.H .box ([I 0,I 0,I 0,I 0])),(14,.H .one (bX .W sp)),(15,.H .one [I (sp.length)]),(16,.H .one [I ((i:Nat):Int)])]) (λi=>i<=sp.length/\∀(j:Nat)(z:au),j<i->sp[j]? = some z->di z a=false) (λi=>sp.length - i) (0) ?_ ψ λi o=>?_
 ·exact wB
 obtain⟨o,h⟩:=o;by_cases p:i<sp.length
 ·have d:=ao p
  have b:=Gy (nth sp i) a;cases c:di (nth sp i) a with
  | false=>
   rw[De c]at b
   repeat'(first|refine gE ?_|(conv=>whnf);first|with_reducible (first|refine CE (aa d) ?_|refine Bf.D (λl=>?_) (λl=>?_))|refine C9 b ?_)
   ((conv=>whnf);refine CF (i+1) ψ ω ?_;(exact wB))
  | true=>
   rw[zi c]at b;obtain⟨C,E,F⟩:=tL c;have q:=jE (nth sp i).b2 ((a - 16*(nth sp i).R) / csz (nth sp i).e) (fG C).2;cases r:aX (nth sp i).b2 ((a - 16*(nth sp i).R) / csz (nth sp i).e)<;>rw[r]at q
   all_goals
    repeat'(first|refine gE ?_|(conv=>whnf);first|with_reducible (first|refine CE (aa d) ?_|refine Bf.D (λl=>?_) (λl=>?_))|refine C9 b ?_|refine C9 q ?_)
    all_goals(rw[oz p c h];unfold nI;rw[r];rfl)
 repeat'(first|refine gE ?_|fail)
 (conv=>whnf)
 refine CG (ι:=Nat) (λk=>[(2,.H .one [I (a)]),(6,.H .box ([I 0,I 0,I 0,I 0])),(39,.H .one (cC .W la)),(40,.H .one [I (la.length)]),(41,.H .one [I ((k:Nat):Int)])]) (λk=>k<=la.length/\∀(j:Nat)(z:aB),j<k->la[j]? = some z->bH z a=false) (λk=>la.length - k) (0) ?_ ψ λk t=>?_
 ·exact wB
 obtain⟨t,u⟩:=t;by_cases w:k<la.length
 ·have d:=ao w
  have b:=rh (nth la k) a;cases c:bH (nth la k) a<;>rw[c]at b
  ·repeat'(first|refine gE ?_|(conv=>whnf);first|with_reducible refine CE (aa d) ?_|refine C9 b ?_)
   ((conv=>whnf);refine CF (k+1) ψ ω ?_;(exact wB))
  repeat'(first|refine gE ?_|(conv=>whnf);first|with_reducible refine CE (aa d) ?_|refine C9 b ?_|refine C9 (vd (nth la k) a c) ?_)
  rw[mO (n:=i) ω h w c u];rfl
 repeat'(first|refine gE ?_|fail)
 rw[xk (n:=i) (k:=k) ω h ω u];rfl
section
variable{α:Type}
def BK(ag:Option Nat)(e:α->List C)(pr:α->Bool)(xs:List α):List (Option Nat × List C)->Kd->List C->Prop:=λL k rcs=>∃x,x∈xs/\L=[(ag,e x)]/\k=.one/\rcs=[B (pr x)]
end
def wl(xs:List a8)(pr:a8->Bool)(n:xs.length<=9223372036854775807):zzA 487 false [.val none (bF .W xs),.fn (oR Tryz.prog (BK (some 2) (a8.enc .W) pr xs))] .one [I (ee pr xs)]:=by
 refine fO 19 [] Tryz.func487 rfl ?_
 repeat'(first|refine gP ?_|fail)
 (conv=>whnf)
 refine CG (ι:=Nat) (λi=>[(0,.H .one (bF .W xs)),(1,.fv (oR Tryz.prog (BK (some 2) (a8.enc .W) pr xs))),(7,.H .one [I xs.length]),(8,.H .one [I (i:Nat)])]) (λi=>i<=xs.length/\∀(j:Nat)(z:a8),j<i->xs[j]? = some z->pr z=false) (λi=>xs.length - i) 0 ?_ ⟨X0 _,λj z h=>ω⟩ λi e=>?_
 ·exact wB
 obtain⟨e,b⟩:=e;by_cases c:i<xs.length
 ·obtain⟨y,a⟩ : ∃y,xs[i]? = some y:=⟨_,X2 c⟩
  repeat'(first|refine gE ?_|(conv=>whnf);first|with_reducible refine CE (aa a) ?_|refine Fv.mk (k:=.one) (rcs:=[B (pr y)]) ⟨y,O2 a,rfl,rfl,rfl⟩ ?_|refine Bf.P (λl=>?_) (λl=>?_))
  ·exact Z0 (λz=>[I z]) (dS a ‹_› b).symm
  (conv=>whnf)
  refine CF (i+1) ⟨ω,λj z h d=>?_⟩ ω ?_
  ·rcases Nat.lt_or_ge j i with g|g
   ·exact b j z g d
   obtain rfl:j=i:=ω
   rw[a]at d;cases d;assumption
  exact wB
 repeat'(first|refine gE ?_|fail)
 exact Z0 (λz=>[I z]) (gx ω b).symm
theorem rN(xs:List a8)(pr:a8->Bool)(a:xs.length<=9223372036854775807):zzA 376 false [.val none (bF .W xs),.fn (oR Tryz.prog (BK (some 2) (a8.enc .W) pr xs))] .one [B (xs.any pr)]:=by
 refine fO 9 [] Tryz.func376 rfl ?_
 repeat'(first|refine gP ?_|(conv=>whnf);first|refine C9 (wl xs pr a) ?_)
 grind [lB]
def vM(r:a8)(page:Int):zzA 377 false [.val (some 2) (a8.enc .W r),.ptr [I page]] .one [B (wy page r)]:=by
 refine fO 17 [] Tryz.func377 rfl ?_
 repeat'(first|refine gP ?_|(conv=>whnf);first|with_reducible refine Bf.D (λa=>?_) (λa=>?_)|refine CO rfl ?_)
 all_goals exact Z0 (λz=>[B z]) (by unfold wy;first|(rw[O0 (by assumption:r.At<=page)];simp;done)|(rw[W0 (by assumption:¬r.At<=page)];rfl))
def AA(xs:List a8)(page:Int)(a:xs.length<=9223372036854775807):zzA 228 false [.val none (bF .W xs),.val none [I page]] .one [B (xs.any (wy page))]:=by
 refine fO 8 [] Tryz.func228 rfl ?_
 repeat'(first|refine gP ?_|(conv=>whnf);first|refine Cq.mk (BK (some 2) (a8.enc .W) (wy page) xs) (vM default page).has (λL k rcs b=>?_) ?_|refine C9 (rN xs (wy page) a) ?_)
 ·obtain⟨x,-,rfl,rfl,rfl⟩:=b
  exact vM x page
 rfl
theorem wv(xs:List aR)(pr:aR->Bool)(g:xs.length<=9223372036854775807):zzA 549 false [.val none (de .W xs),.fn (oR Tryz.prog (BK (some 3) (aR.enc .W) pr xs))] .one [I (ee pr xs)]:=by
 refine fO 19 [] Tryz.func549 rfl ?_
 repeat'(first|refine gP ?_|fail)
 (conv=>whnf)
 refine CG (ι:=Nat) (λi=>[(0,.H .one (de .W xs)),(1,.fv (oR Tryz.prog (BK (some 3) (aR.enc .W) pr xs))),(7,.H .one [I xs.length]),(8,.H .one [I (i:Nat)])]) (λi=>i<=xs.length/\∀(j:Nat)(z:aR),j<i->xs[j]? = some z->pr z=false) (λi=>xs.length - i) 0 ?_ ψ λi b=>?_
 ·exact wB
 obtain⟨b,d⟩:=b;by_cases a:i<xs.length
 ·obtain⟨y,c⟩ : ∃y,xs[i]? = some y:=⟨_,X2 a⟩
  repeat'(first|refine gE ?_|(conv=>whnf);first|with_reducible refine CE (aa c) ?_|refine Fv.mk (k:=.one) (rcs:=[B (pr y)]) ⟨y,O2 c,rfl,rfl,rfl⟩ ?_|refine Bf.P (λe=>?_) (λe=>?_))
  ·grind [dS]
  (conv=>whnf)
  refine CF (i+1) ψ ω ?_;exact wB
 repeat'(first|refine gE ?_|fail)
 exact Z0 (λz=>[I z]) (gx ω d).symm
theorem ss(xs:List aR)(pr:aR->Bool)(a:xs.length<=9223372036854775807):zzA 488 false [.val none (de .W xs),.fn (oR Tryz.prog (BK (some 3) (aR.enc .W) pr xs))] .one [B (xs.any pr)]:=by
 refine fO 9 [] Tryz.func488 rfl ?_
 repeat'(first|refine gP ?_|(conv=>whnf);first|refine C9 (wv xs pr a) ?_)
 grind [lB]
theorem zC(xs:List au)(pr:au->Bool)(g:xs.length<=9223372036854775807):zzA 240 false [.val none (bX .W xs),.fn (oR Tryz.prog (BK (some 3) (au.enc .W) pr xs))] .one [I (ee pr xs)]:=by
 refine fO 19 [] Tryz.func240 rfl ?_
 repeat'(first|refine gP ?_|fail)
 (conv=>whnf)
 refine CG (ι:=Nat) (λi=>[(0,.H .one (bX .W xs)),(1,.fv (oR Tryz.prog (BK (some 3) (au.enc .W) pr xs))),(7,.H .one [I xs.length]),(8,.H .one [I (i:Nat)])]) (λi=>i<=xs.length/\∀(j:Nat)(z:au),j<i->xs[j]? = some z->pr z=false) (λi=>xs.length - i) 0 ?_ ψ λi b=>?_
 ·exact wB
 obtain⟨b,d⟩:=b;by_cases a:i<xs.length
 ·obtain⟨y,c⟩ : ∃y,xs[i]? = some y:=⟨_,X2 a⟩
  repeat'(first|refine gE ?_|(conv=>whnf);first|with_reducible refine CE (aa c) ?_|refine Fv.mk (k:=.one) (rcs:=[B (pr y)]) ⟨y,O2 c,rfl,rfl,rfl⟩ ?_|refine Bf.P (λe=>?_) (λe=>?_))
  ·grind [dS]
  (conv=>whnf)
  refine CF (i+1) ψ ω ?_;exact wB
 repeat'(first|refine gE ?_|fail)
 exact Z0 (λz=>[I z]) (gx ω d).symm
theorem zL(xs:List bu)(pr:bu->Bool)(g:xs.length<=9223372036854775807):zzA 88 false [.val none (mJ .W xs),.fn (oR Tryz.prog (BK (some 4) (bu.enc .W) pr xs))] .one [I (ee pr xs)]:=by
 refine fO 19 [] Tryz.func88 rfl ?_
 repeat'(first|refine gP ?_|fail)
 (conv=>whnf)
 refine CG (ι:=Nat) (λi=>[(0,.H .one (mJ .W xs)),(1,.fv (oR Tryz.prog (BK (some 4) (bu.enc .W) pr xs))),(7,.H .one [I xs.length]),(8,.H .one [I (i:Nat)])]) (λi=>i<=xs.length/\∀(j:Nat)(z:bu),j<i->xs[j]? = some z->pr z=false) (λi=>xs.length - i) 0 ?_ ψ λi b=>?_
 ·exact wB
 obtain⟨b,d⟩:=b;by_cases a:i<xs.length
 ·obtain⟨y,c⟩ : ∃y,xs[i]? = some y:=⟨_,X2 a⟩
  repeat'(first|refine gE ?_|(conv=>whnf);first|with_reducible refine CE (aa c) ?_|refine Fv.mk (k:=.one) (rcs:=[B (pr y)]) ⟨y,O2 c,rfl,rfl,rfl⟩ ?_|refine Bf.P (λe=>?_) (λe=>?_))
  ·grind [dS]
  (conv=>whnf)
  refine CF (i+1) ψ ω ?_;exact wB
 repeat'(first|refine gE ?_|fail)
 exact Z0 (λz=>[I z]) (gx ω d).symm
theorem uT(xs:List bu)(pr:bu->Bool)(a:xs.length<=9223372036854775807):zzA 233 false [.val none (mJ .W xs),.fn (oR Tryz.prog (BK (some 4) (bu.enc .W) pr xs))] .one [B (xs.any pr)]:=by
 refine fO 9 [] Tryz.func233 rfl ?_
 repeat'(first|refine gP ?_|(conv=>whnf);first|refine C9 (zL xs pr a) ?_)
 grind [lB]
def R0(a:k<=3):IntKind.i64.wrap (1*2 ^ min ((k:Nat):Int).toNat IntKind.i64.bits)=csz (k:Nat):=by
 obtain rfl|rfl|rfl|rfl:k=0\/k=1\/k=2\/k=3:=ω
 all_goals decide
theorem Ry(a:k<=100):IntKind.u64.wrap (k:Nat)=(k:Nat):=by grind [Go.IntKind.wrap,Go.IntKind.bits]
theorem Dm(a:k<=3)(h:csz (k:Nat)<z)(b:z<=8):k<=2:=by
 have c:csz ((3:Nat):Int)=8:=by decide
 grind
theorem y8(a:k<=3)(h1:1<=z)(b:k=0\/csz ((k - 1:Nat):Int)<z)(c:¬csz (k:Nat)<z):aL z=(k:Nat):=by
 have d:csz ((0:Nat):Int)=1:=by decide
 have e:csz ((1:Nat):Int)=2:=by decide
 have f:csz ((2:Nat):Int)=4:=by decide
 have g:csz ((3:Nat):Int)=8:=by decide
 unfold aL;obtain rfl|rfl|rfl|rfl:k=0\/k=1\/k=2\/k=3:=ω
 all_goals grind
def kZ(z:Int):zzA 220 false [.val none [I z]] .one [I (aL z)]:=by
 refine fO 15 [] Tryz.func220 rfl ?_;by_cases c:1<=z/\z<=8
 ·repeat'(first|refine gE ?_|(conv=>whnf);first|with_reducible refine Bf.D (λb=>?_) (λb=>?_)|refine C9 (aH z 1 8) ?_)
  (conv=>whnf)
  refine CG (ι:=Nat) (λk=>[(0,.H .one [I (z)]),(3,.H .one [I ((k:Nat):Int)])]) (λk=>k<=3/\(k=0\/csz ((k - 1:Nat):Int)<z)) (λk=>4 - k) (0) ?_ ω λk a=>?_
  ·exact wB
  obtain⟨a,d⟩:=a
  repeat'(first|refine gP ?_|(conv=>whnf);first|with_reducible refine Bf.D (λb=>?_) (λb=>?_)|refine CO (Ry ω) ?_|refine CO (R0 a) ?_|refine CP ω ?_)
  all_goals first
   | exact Z0 (λz=>[I z]) (y8 a c.1 d (by assumption)).symm
   | ((conv=>whnf);refine CF (k+1) ⟨by have:=Dm a (by assumption) c.2;omega,.inr (by simpa using (by assumption:csz (k:Nat)<z))⟩ (by have:=Dm a (by assumption) c.2;omega) ?_;(exact wB))
 repeat'(first|refine gE ?_|(conv=>whnf);first|with_reducible refine Bf.D (λb=>?_) (λb=>?_)|refine C9 (aH z 1 8) ?_)
 all_goals exact Z0 (λz=>[I z]) (by unfold aL;(repeat' split)<;>omega)
def DJ(z:Int):zzA 64 false [.val none [I z]] .one [I (aL z)]:=by
 refine fO 14 [] Tryz.func64 rfl ?_;by_cases c:1<=z/\z<=8
 ·repeat'(first|refine gE ?_|(conv=>whnf);first|with_reducible refine Bf.D (λa=>?_) (λa=>?_)|refine C9 (aK z 1 8) ?_)
  (conv=>whnf)
  refine CG (ι:=Nat) (λk=>[(0,.H .one [I (z)]),(3,.H .one [I ((k:Nat):Int)])]) (λk=>k<=3/\(k=0\/csz ((k - 1:Nat):Int)<z)) (λk=>4 - k) (0) ?_ ω λk b=>?_
  ·exact wB
  obtain⟨b,d⟩:=b
  repeat'(first|refine gP ?_|(conv=>whnf);first|with_reducible refine Bf.D (λa=>?_) (λa=>?_)|refine C9 (ew _) ?_)
  all_goals first
   | exact Z0 (λz=>[I z]) (y8 b c.1 d (by assumption)).symm
   | ((conv=>whnf);refine CF (k+1) ⟨by have:=Dm b (by assumption) c.2;omega,.inr (by simpa using (by assumption:csz (k:Nat)<z))⟩ (by have:=Dm b (by assumption) c.2;omega) ?_;(exact wB))
 repeat'(first|refine gE ?_|(conv=>whnf);first|with_reducible refine Bf.D (λa=>?_) (λa=>?_)|refine C9 (aK z 1 8) ?_)
 all_goals exact Z0 (λz=>[I z]) (by unfold aL;(repeat' split)<;>omega)
theorem tO(q:bO)(a:Int)(d:bO.sml q):zzA 359 false [.val (some 2) (bO.enc .W q),.val none [I a]] .one [B (q.a6.any (fj a))]:=by
 have j:q.a6.length<=1048576:=d.1;refine fO 21 [] Tryz.func359 rfl ?_
 repeat'(first|refine gP ?_|fail)
 (conv=>whnf)
 refine CG (ι:=Nat) (λi=>[(1,.H .one [I (a)]),(2,.H .box (bO.enc .W q)),(5,.H .one [I ((i:Nat):Int)])]) (λi=>i<=q.a6.length/\(q.a6.take i).any (fj a)=false) (λi=>q.a6.length - i) (0) ?_ ψ λi c=>?_
 ·exact wB
 obtain⟨c,e⟩:=c;by_cases g:i<q.a6.length
 ·have b:=ao g
  repeat'(first|refine gE ?_|(conv=>whnf);first|with_reducible (first|refine CE (aa b) ?_|refine Bf.E (λh=>?_) (λh=>?_)))
  all_goals first
   | exact Z0 (λz=>[B z]) ((DI b (O0 (by assumption))).symm)
   | ((conv=>whnf);refine CF (i+1) ⟨ω,xT b e (W0 (by assumption))⟩ ω ?_;(exact wB))
 repeat'(first|refine gE ?_|fail)
 exact Z0 (λz=>[B z]) ψ
def jx(xs:List aR)(i:Nat):quarCells xs (i+1)=quarCells xs i+csz (nth xs i).e:=rfl
theorem PP(k:Int):0<=csz k/\csz k<=8:=by grind [bV,csz]
theorem vO(xs:List aR)(c:lZ xs):zzA 360 false [.val none (de .W xs)] .one [I (quarCells xs xs.length)]:=by
 have g:=c.1;refine fO 20 [] Tryz.func360 rfl ?_
 repeat'(first|refine gP ?_|fail)
 (conv=>whnf)
 refine CG (ι:=Nat) (λi=>[(0,.H .one (de .W xs)),(3,.H .one [I (quarCells xs i)]),(4,.H .one [I ((i:Nat):Int)])]) (λi=>i<=xs.length/\0<=quarCells xs i/\quarCells xs i<=8*i) (λi=>xs.length - i) (0) ?_ (⟨X0 _,by simp[quarCells],by simp[quarCells]⟩) λi b=>?_
 ·exact wB
 obtain⟨b,h,j⟩:=b;by_cases d:i<xs.length
 ·have e:=ao d
  have k:=PP (nth xs i).e;have a:=jx xs i
  repeat'(first|refine gE ?_|(conv=>whnf);first|with_reducible refine CE (aa e) ?_|refine C9 (eB _) ?_)
  ((conv=>whnf);refine CF (i+1) ω ω ?_)
  rw[a];exact wB
 repeat'(first|refine gE ?_|fail)
 grind
theorem yN(xs:List aR)(c:lZ xs):zzA 231 false [.val none (de .W xs)] .one [I (quarCells xs xs.length)]:=by
 have g:=c.1;refine fO 19 [] Tryz.func231 rfl ?_
 repeat'(first|refine gP ?_|fail)
 (conv=>whnf)
 refine CG (ι:=Nat) (λi=>[(3,.H .one [I (quarCells xs i)]),(6,.H .one (de .W xs)),(7,.H .one [I (xs.length)]),(8,.H .one [I ((i:Nat):Int)])]) (λi=>i<=xs.length/\0<=quarCells xs i/\quarCells xs i<=8*i) (λi=>xs.length - i) (0) ?_ (⟨X0 _,by simp[quarCells],by simp[quarCells]⟩) λi b=>?_
 ·exact wB
 obtain⟨b,h,j⟩:=b;by_cases d:i<xs.length
 ·have e:=ao d
  have k:=PP (nth xs i).e;have a:=jx xs i
  repeat'(first|refine gE ?_|(conv=>whnf);first|with_reducible refine CE (aa e) ?_|refine C9 (ew _) ?_)
  ((conv=>whnf);refine CF (i+1) ω ω ?_)
  rw[a];exact wB
 repeat'(first|refine gE ?_|fail)
 grind
def BU(a:aR):zzA 358 false [.val (some 3) (aR.enc .W a)] .one [B (decide (0<=a.e/\a.e<=3/\0<=a.Addr/\0<=a.b7))]:=by
 refine fO 16 [] Tryz.func358 rfl ?_
 repeat'(first|refine gP ?_|(conv=>whnf);first|with_reducible refine Bf.D (λb=>?_) (λb=>?_)|refine C9 (aH _ 0 3) ?_)
 all_goals exact Z0 (λz=>[B z]) ((by first|(symm;exact W0 ω)|exact decide_eq_decide.2 ω))
variable{xs:List aR}
theorem P9(a:lZ xs)(i:Nat):lZ (xs.take i):=⟨by have:=a.1;grind,λ_ _=>trivial⟩
def pq(q:bO)(a:bO.sml q):zzA 213 false [.val (some 2) (bO.enc .W q)] .one [B (gK q)]:=by
 have l:q.a6.length<=1048576:=a.1;refine fO 57 [(5,29,[17,18,19,20,21,22,23,24,25,26,27,28,29,30,31,32,33,34,35,36,37,38,39,40,41,42,43,44,45]),(7,11,[46,47,48,49,50,51,52,53,54,55,56])] Tryz.func213 rfl ?_
 repeat'(first|refine gP ?_|fail)
 (conv=>whnf)
 refine CG (ι:=Nat) (λi=>[(1,.H .box (bO.enc .W q)),(3,.H .one [I ((i:Nat):Int)])]) (λi=>i<=q.a6.length/\dr i (ly q.a6)=true) (λi=>q.a6.length - i) 0 ?_ ⟨X0 _,rfl⟩ λi e=>?_
 ·exact wB
 obtain⟨e,g⟩:=e;by_cases b:i<q.a6.length
 ·have j:=ao b
  have h:=tO ⟨0,q.a6.take i⟩ (nth q.a6 i).Addr (P9 a i);cases c:(q.a6.take i).any (fj (nth q.a6 i).Addr)<;>rw[show(bO.mk 0 (q.a6.take i)).a6.any (fj (nth q.a6 i).Addr)=_ from c]at h
  all_goals
   repeat'(first|refine gE ?_|(conv=>whnf);first|with_reducible (first|refine CE (aa j) ?_|refine Bf.D (λd=>?_) (λd=>?_))|refine C9 (BU _) ?_|refine CN ω (aa (gS ω b)) ?_|refine CX i rfl (by simp;omega) (λr k=>by obtain⟨z,-,rfl⟩:=O5.1 k;rfl) (C5 ..) ?_|refine C9 h ?_)
   all_goals first
    | exact Z0 (λz=>[B z]) ((by symm;unfold gK;rw[cF b (by unfold ly;first|(rw[c];simp;done)|(rw[W0 ω];rfl))];rfl))
    | ((conv=>whnf);refine CF (i+1) ⟨ω,bU g (by unfold ly;rw[c,O0 ω];rfl)⟩ ω ?_;(exact wB))
 obtain rfl:i=q.a6.length:=ω
 repeat'(first|refine gE ?_|(conv=>whnf);first|with_reducible refine Bf.D (λd=>?_) (λd=>?_)|refine C9 (aH _ 0 500) ?_|refine C9 (vO q.a6 a) ?_)
 all_goals exact Z0 (λz=>[B z]) ((by unfold gK;rw[g];simp only[Bool.true_and];first|(symm;exact W0 ω)|exact decide_eq_decide.2 ω))
theorem wa(b:aR)(a:Int):zzA 489 false [.val (some 3) (aR.enc .W b),.ptr [I a]] .one [B (fj a b)]:=by
 refine fO 8 [] Tryz.func489 rfl ?_
 repeat'(first|refine gP ?_|fail)
 grind [fj]
def Am(xs:List aR)(a:Int)(b:xs.length<=9223372036854775807):zzA 378 false [.val none (de .W xs),.val none [I a]] .one [B (xs.any (fj a))]:=by
 refine fO 8 [] Tryz.func378 rfl ?_
 repeat'(first|refine gP ?_|(conv=>whnf);first|refine Cq.mk (BK (some 3) (aR.enc .W) (fj a) xs) (wa default a).has (λL k rcs c=>?_) ?_|refine C9 (ss xs (fj a) b) ?_)
 ·obtain⟨y,-,rfl,rfl,rfl⟩:=c
  exact wa y a
 rfl
def ql(xs:List aR)(a:aR):Bool:=decide (0<=a.e/\a.e<=3/\0<=a.Addr/\0<=a.b7/\(xs.length=0\/(nth xs (xs.length - 1)).b7<=a.b7))&&!xs.any (fj a.Addr)
theorem DZ(xs:List aR)(b:aR)(g:xs.length<=1048576):zzA 230 false [.val none (de .W xs),.val (some 3) (aR.enc .W b)] .one [B (ql xs b)]:=by
 have c:=Am xs b.Addr ω;cases d:xs.any (fj b.Addr)<;>rw[d]at c
 ·by_cases h:xs.length=0
  ·refine fO 40 [(3,15,[25,26,27,28,29,30,31,32,33,34,35,36,37,38,39])] Tryz.func230 rfl ?_
   repeat'(first|refine gP ?_|(conv=>whnf);first|with_reducible (first|refine Bf.D (λa=>?_) (λa=>?_)|refine Bf.E (λa=>?_) (λa=>?_))|refine C9 (fR _) ?_|refine C9 c ?_)
   all_goals first
    | exact Z0 (λz=>[B z]) ((by unfold ql;rw[d,Bool.not_false,Bool.and_true];first|(symm;exact W0 ω)|(symm;exact O0 ω)|exact decide_eq_decide.2 ω))
    |(exfalso;omega)
    |trace_state
  have e:xs[((xs.length:Int) - 1).toNat]? = some (nth xs (xs.length - 1)):=by rw[show((xs.length:Int) - 1).toNat=xs.length - 1 by omega];grind [ao]
  refine fO 40 [(3,15,[25,26,27,28,29,30,31,32,33,34,35,36,37,38,39])] Tryz.func230 rfl ?_
  repeat'(first|refine gP ?_|(conv=>whnf);first|with_reducible (first|refine Bf.D (λa=>?_) (λa=>?_)|refine Bf.E (λa=>?_) (λa=>?_))|refine C9 (fR _) ?_|refine C9 c ?_|refine CN ω (aa e) ?_)
  all_goals first
   | exact Z0 (λz=>[B z]) ((by unfold ql;rw[d,Bool.not_false,Bool.and_true];first|(symm;exact W0 ω)|(symm;exact O0 ω)|exact decide_eq_decide.2 ω))
   |(exfalso;omega)
   |trace_state
 refine fO 40 [(3,15,[25,26,27,28,29,30,31,32,33,34,35,36,37,38,39])] Tryz.func230 rfl ?_
 repeat'(first|refine gP ?_|(conv=>whnf);first|with_reducible refine Bf.D (λa=>?_) (λa=>?_)|refine C9 (fR _) ?_|refine C9 c ?_)
 all_goals exact Z0 (λz=>[B z]) ((by unfold ql;rw[d];simp))
theorem HL(d:i<xs.length):ql (xs.take i) (nth xs i)=ly xs i:=by
 unfold ql ly;have a:(xs.take i).length=i:=ψ
 rw[a]
 congr 1
 refine decide_eq_decide.2 ?_;by_cases b:i=0
 ·subst b;simp
 have c:nth (xs.take i) (i - 1)=nth xs (i - 1):=by
  have:=ao (xs:=xs) (i:=i - 1) ω
  grind [bh]
 rw[c]
theorem Ho(q:bO)(d:bO.sml q):zzA 79 false [.val (some 2) (bO.enc .W q)] .one [B (gK q)]:=by
 have l:q.a6.length<=1048576:=d.1;refine fO 32 [(4,7,[13,14,15,16,17,18,19]),(7,11,[21,22,23,24,25,26,27,28,29,30,31])] Tryz.func79 rfl ?_
 repeat'(first|refine gP ?_|fail)
 (conv=>whnf)
 refine CG (ι:=Nat) (λi=>[(1,.H .box (bO.enc .W q)),(6,.H .one (de .W q.a6)),(7,.H .one [I (q.a6.length)]),(8,.H .one [I ((i:Nat):Int)])]) (λi=>i<=q.a6.length/\dr i (ly q.a6)=true) (λi=>q.a6.length - i) 0 ?_ ⟨X0 _,rfl⟩ λi e=>?_
 ·exact wB
 obtain⟨e,g⟩:=e;by_cases a:i<q.a6.length
 ·have h:=ao a
  have b:=DZ (q.a6.take i) (nth q.a6 i) ψ;rw[HL a]at b;cases c:ly q.a6 i<;>rw[c]at b
  all_goals
   repeat'(first|refine gE ?_|(conv=>whnf);first|with_reducible refine CE (aa h) ?_|refine CX i rfl (by simp;omega) (λr j=>by obtain⟨z,-,rfl⟩:=O5.1 j;rfl) (C5 ..) ?_|refine C9 b ?_)
   all_goals first
    | exact Z0 (λz=>[B z]) ((by symm;unfold gK;rw[cF a c];rfl))
    | ((conv=>whnf);refine CF (i+1) ⟨ω,bU g c⟩ ω ?_;(exact wB))
 obtain rfl:i=q.a6.length:=ω
 repeat'(first|refine gE ?_|(conv=>whnf);first|with_reducible refine Bf.D (λk=>?_) (λk=>?_)|refine C9 (aK _ 0 500) ?_|refine C9 (yN q.a6 d) ?_)
 all_goals exact Z0 (λz=>[B z]) ((by unfold gK;rw[g];simp only[Bool.true_and];first|(symm;exact W0 ω)|exact decide_eq_decide.2 ω))
def eU(a:List Bool):Nat->Int
 | 0=>0
 | i+1=>eU a i+(if nth a i then 1 else 0)
def bm(f:aW):Int:=if cW f then eU f.a3 f.a3.length else 0
def jP{a:List Bool}(h:nth a i=true):eU a (i+1)=eU a i+1:=by show eU a i+(if nth a i then 1 else 0)=_;rw[h];rfl
def nv{a:List Bool}(h:nth a i=false):eU a (i+1)=eU a i:=by show eU a i+(if nth a i then 1 else 0)=_;rw[h];simp
theorem oN(f:aW)(g:aW.sml f):zzA 25 false [.val (some 2) (aW.enc .W f)] .one [I (bm f)]:=by
 have l:f.a3.length<=1048576:=g.2;have b:=rm f g;cases h:cW f<;>rw[h]at b
 ·refine fO 24 [] Tryz.func25 rfl ?_
  repeat'(first|refine gP ?_|fail)
  (conv=>whnf)
  refine CG (ι:=Nat) (λi=>[(1,.H .box (aW.enc .W f)),(3,.H .one [I ((0:Int))]),(4,.H .one [I ((i:Nat):Int)])]) (λi=>i=0) (λi=>i) (0) ?_ (rfl) λi c=>?_
  ·exact wB
  subst c
  repeat'(first|refine gP ?_|(conv=>whnf);first|with_reducible refine Bf.D (λj=>?_) (λj=>?_)|refine C9 b ?_)
  all_goals grind [bm]
 refine fO 24 [] Tryz.func25 rfl ?_
 repeat'(first|refine gP ?_|fail)
 (conv=>whnf)
 refine CG (ι:=Nat) (λi=>[(1,.H .box (aW.enc .W f)),(3,.H .one [I (eU f.a3 i)]),(4,.H .one [I ((i:Nat):Int)])]) (λi=>i<=f.a3.length/\0<=eU f.a3 i/\eU f.a3 i<=i) (λi=>f.a3.length - i) (0) ?_ (⟨X0 _,by simp[eU],by simp[eU]⟩) λi c=>?_
 ·exact wB
 obtain⟨c,n,o⟩:=c;by_cases k:i<f.a3.length
 ·have d:=ao k
  cases e:nth f.a3 i<;>rw[e]at d
  ·have a:=nv e
   repeat'(first|refine gE ?_|(conv=>whnf);first|with_reducible refine CE (aa d) ?_|refine C9 b ?_)
   ((conv=>whnf);refine CF (i+1) ω ω ?_)
   rw[a];exact wB
  have a:=jP e
  repeat'(first|refine gE ?_|(conv=>whnf);first|with_reducible refine CE (aa d) ?_|refine C9 b ?_)
  ((conv=>whnf);refine CF (i+1) ω ω ?_)
  rw[a];exact wB
 obtain rfl:i=f.a3.length:=ω
 repeat'(first|refine gE ?_|(conv=>whnf);first|refine C9 b ?_)
 grind [bm]
theorem kP(f:aW)(e:aW.sml f):zzA 93 false [.val (some 2) (aW.enc .W f)] .one [I (bm f)]:=by
 have k:f.a3.length<=1048576:=e.2;have b:=ro f e;cases g:cW f<;>rw[g]at b
 ·refine fO 21 [] Tryz.func93 rfl ?_
  repeat'(first|refine gP ?_|(conv=>whnf);first|refine C9 b ?_)
  all_goals exact Z0 (λz=>[I z]) (by unfold bm;rw[g];rfl)
 refine fO 21 [] Tryz.func93 rfl ?_
 repeat'(first|refine gP ?_|(conv=>whnf);first|refine C9 b ?_)
 (conv=>whnf)
 refine CG (ι:=Nat) (λi=>[(3,.H .one [I (eU f.a3 i)]),(10,.H .one (xB .W f.a3)),(11,.H .one [I (f.a3.length)]),(12,.H .one [I ((i:Nat):Int)])]) (λi=>i<=f.a3.length/\0<=eU f.a3 i/\eU f.a3 i<=i) (λi=>f.a3.length - i) (0) ?_ (⟨X0 _,by simp[eU],by simp[eU]⟩) λi h=>?_
 ·exact wB
 obtain⟨h,l,n⟩:=h;by_cases j:i<f.a3.length
 ·have c:=ao j
  cases d:nth f.a3 i<;>rw[d]at c
  ·have a:=nv d
   repeat'(first|refine gE ?_|(conv=>whnf);first|with_reducible refine CE (aa c) ?_)
   ((conv=>whnf);refine CF (i+1) ω ω ?_)
   rw[a];exact wB
  have a:=jP d
  repeat'(first|refine gE ?_|(conv=>whnf);first|with_reducible refine CE (aa c) ?_)
  ((conv=>whnf);refine CF (i+1) ω ω ?_)
  rw[a];exact wB
 obtain rfl:i=f.a3.length:=ω
 repeat'(first|refine gE ?_|fail)
 grind [bm]
def zf(h:ab):Prop:=aI.sml h.G.F.Q
def iL(h:ab)(p:Int)(a:zf h):zzA 355 false [.val (some 24) (ab.enc .W h),.val none [I p]] .one (aF .own (aY h p)):=by
 refine fO 23 [] Tryz.func355 rfl ?_ (.inr (bM _))
 repeat'((conv=>whnf);first|with_reducible (first|refine Lm ?_|refine Wm ω ?_|refine Bf.E (λb=>?_) (λb=>?_)|refine Bn ?_|refine jm.wk rfl ?_)|refine Bt ?_|refine Bu ?_|refine C9 (du h.G.F.Q p a) ?_|refine C9 (iv h.G.F.Q _ a) ?_)
 all_goals(unfold aY;first|rw[CD (by assumption)]|rw[CB (by assumption)])
 all_goals exact⟨rfl,trivial⟩
def oH(h:ab)(p:Int)(a:zf h):zzA 227 false [.val (some 24) (ab.enc .W h),.val none [I p]] .one (aF .own (aY h p)):=by
 refine fO 22 [] Tryz.func227 rfl ?_ (.inr (bM _))
 repeat'((conv=>whnf);first|with_reducible (first|refine Lm ?_|refine Wm ω ?_|refine Bf.E (λb=>?_) (λb=>?_)|refine Bn ?_|refine jm.wk rfl ?_)|refine Bt ?_|refine Bu ?_|refine C9 (dL h.G.F.Q p a) ?_|refine C9 (ll h.G.F.Q _ a) ?_)
 all_goals(unfold aY;first|rw[CD (by assumption)]|rw[CB (by assumption)])
 all_goals exact⟨rfl,trivial⟩
theorem fD(k:af)(p:Int)(a:aI.sml k.F.Q):zzA 127 false [.val (some 5) (af.enc .W k),.val none [I p]] .one [B (decide ((ac k.F.Q p).j≠0))]:=by
 refine fO 12 [] Tryz.func127 rfl ?_
 repeat'(first|refine gP ?_|(conv=>whnf);first|refine C9 (dL k.F.Q p a) ?_)
 grind
def pA(z:Int):zzA 83 false [.val none [I z]] .one [B (decide (0<=z/\z<=1073741823))]:=by
 refine fO 5 [] Tryz.func83 rfl ?_
 repeat'(first|refine gP ?_|(conv=>whnf);first|refine C9 (aK z 0 1073741823) ?_)
 rfl
theorem kH(h:ab)(p:Int)(g:h.J.length<=1048576):zzA 219 false [.val (some 24) (ab.enc .W h),.val none [I p]] .one [I (gX h p)]:=by
 refine fO 22 [] Tryz.func219 rfl ?_
 repeat'(first|refine gP ?_|fail)
 (conv=>whnf)
 refine CG (ι:=Nat) (λi=>[(1,.H .one [I (p)]),(2,.H .box (ab.enc .W h)),(5,.H .one [I ((i:Nat):Int)])]) (λi=>i<=h.J.length/\∀(j:Nat)(z:au),j<i->h.J[j]? = some z->mM p z=false) (λi=>h.J.length - i) (0) ?_ ψ λi c=>?_
 ·exact wB
 obtain⟨c,a⟩:=c;by_cases d:i<h.J.length
 ·have b:=ao d
  repeat'(first|refine gE ?_|(conv=>whnf);first|with_reducible (first|refine CE (aa b) ?_|refine Bf.E (λe=>?_) (λe=>?_)))
  all_goals first
   | exact Z0 (λz=>[I z]) (dS b (O0 (by assumption)) a).symm
   | ((conv=>whnf);refine CF (i+1) ⟨ω,fY b (W0 (by assumption)) a⟩ ω ?_;(exact wB))
 repeat'(first|refine gE ?_|fail)
 exact Z0 (λz=>[I z]) (gx ω a).symm
theorem BM(s:au)(p:Int):zzA 241 false [.val (some 3) (au.enc .W s),.ptr [I p]] .one [B (mM p s)]:=by
 refine fO 8 [] Tryz.func241 rfl ?_
 repeat'(first|refine gP ?_|fail)
 grind [mM]
def vN(h:ab)(p:Int)(b:h.J.length<=1048576):zzA 85 false [.val (some 24) (ab.enc .W h),.val none [I p]] .one [I (gX h p)]:=by
 refine fO 9 [] Tryz.func85 rfl ?_
 repeat'(first|refine gP ?_|(conv=>whnf);first|refine Cq.mk (BK (some 3) (au.enc .W) (mM p) h.J) (BM default p).has (λL k rcs a=>?_) ?_|refine C9 (zC h.J (mM p) ω) ?_)
 ·obtain⟨y,-,rfl,rfl,rfl⟩:=a
  exact BM y p
 rfl
def flight1(m:aJ)(i:Nat):List Int:=(m.V.take i).flatMap λl=>l.map (·.Addr)
def flight2(m:aJ)(i:Nat):List Int:=(m.a1.take i).flatten
theorem o8{l:List dB}(h:m.V[i]? = some l):flight1 m (i+1)=flight1 m i++l.map (·.Addr):=by grind [Y6,flight1]
theorem oh(h:m.a1[i]? = some l):flight2 m (i+1)=flight2 m i++l:=by grind [Y6,flight2]
theorem pO(h:bQ m=true):aP m=flight1 m m.V.length++flight2 m m.a1.length:=by grind [aP,flight1,flight2]
theorem vA(h:bQ m=false):aP m=[]:=by grind [aP]
theorem tK(h:bQ m=true):1<=m.V.length/\m.V.length<=4/\m.a1.length=m.V.length:=by grind [bQ]
def Gw : ∀r∈l.map (rI .W),r.length=1:=by
 intro r a;obtain⟨z,-,rfl⟩:=O5.1 a;rfl
def KZ : ∀r∈l.map (rI .W),bk r=true:=by
 intro r a;obtain⟨z,-,rfl⟩:=O5.1 a;rfl
theorem Ad(m:aJ)(g:aJ.sml m):zzA 35 false [.val (some 2) (aJ.enc .W m)] .one (aF .own (aP m)):=by
 have h:=mz m g;cases d:bQ m<;>rw[d]at h
 ·refine fO 56 [] Tryz.func35 rfl ?_ (.inr (bM _))
  repeat'((conv=>whnf);first|with_reducible (first|refine Lm ?_|refine Wm ω ?_|refine Bn ?_|refine jm.wk rfl ?_)|refine Bt ?_|refine Bu ?_|refine C9 h ?_)
  all_goals(rw[vA d];exact⟨rfl,trivial⟩)
 obtain⟨D,E,F⟩:=tK d;refine fO 56 [] Tryz.func35 rfl ?_ (.inr (bM _))
 repeat'(first|refine gP ?_|(conv=>whnf);first|refine C9 h ?_)
 (conv=>whnf)
 refine CG (ι:=Nat × List Int) (λi=>[(1,.H .box (aJ.enc .W m)),(3,.H .one (aF .own i.2)),(4,.H .one [I ((i.1:Nat):Int)])]) (λi=>i.1<=m.V.length/\i.2=flight1 m i.1/\i.2.length<=1048576*i.1) (λi=>m.V.length - i.1) ((0,[])) ?_ (⟨X0 _,rfl,X0 _⟩) λi j=>?_
 ·exact wB
 obtain⟨i,S⟩:=i;obtain⟨j,p,t⟩:=j;simp only at j p t |-;by_cases q:i<m.V.length
 ·have l:=ao q
  have u:(nth m.V i).length<=1048576:=(g.1.2 _ (am q)).1
  repeat'(first|refine gE ?_|(conv=>whnf);first|with_reducible refine CE (aa l) ?_)
  (conv=>whnf)
  refine CG (ι:=Nat × List Int) (λk=>[(1,.H .box (aJ.enc .W m)),(3,.H .one (aF .own k.2)),(4,.H .one [I ((i:Nat):Int)]),(5,.H .one [I ((k.1:Nat):Int)])]) (λk=>k.1<=(nth m.V i).length/\k.2=S++((nth m.V i).take k.1).map (·.Addr)) (λk=>(nth m.V i).length - k.1) ((0,S)) ?_ ψ λk b=>?_
  ·exact wB
  obtain⟨k,c⟩:=k;obtain⟨b,a⟩:=b;simp only at b a |-;have w:c.length=S.length+k:=ψ
  by_cases e:k<(nth m.V i).length
  ·have n:=ao e
   repeat'(first|refine gE ?_|(conv=>whnf);first|with_reducible (first|refine CE (aa l) ?_|refine CE (aa n) ?_)|refine CU cz (λr y=>by rw[V1.1 y];rfl) (by simp[bk,eG]) (by simp;omega) (by show _*8<=_;simp;omega) rfl ?_)
   ((conv=>whnf)
    refine CF (k+1,c++[(nth (nth m.V i) k).Addr]) ⟨(by simp only;omega),(by grind [Y6])⟩ (by simp only;omega) ?_
    (repeat'(first|exact trivial|rfl|exact CM rfl (CM (Z0 (C.s dM.own) (by simp[rI])) trivial)|refine CM ?_ ?_)))
  obtain rfl:k=(nth m.V i).length:=ω
  rw[O6]at a
  repeat'(first|refine gE ?_|(conv=>whnf);first|with_reducible refine CE (aa l) ?_)
  ((conv=>whnf);refine CF (i+1,c) ⟨(by simp only;omega),(by grind [o8]),(by simp only;omega)⟩ (by simp only;omega) ?_;(exact wB))
 obtain rfl:i=m.V.length:=ω
 repeat'(first|refine gE ?_|fail)
 (conv=>whnf)
 refine CG (ι:=Nat × List Int) (λk=>[(1,.H .box (aJ.enc .W m)),(3,.H .one (aF .own k.2)),(6,.H .one [I ((k.1:Nat):Int)])]) (λk=>k.1<=m.a1.length/\k.2=S++flight2 m k.1/\k.2.length<=S.length+1048576*k.1) (λk=>m.a1.length - k.1) ((0,S)) ?_ (⟨X0 _,by simp[flight2],by simp⟩) λk b=>?_
 ·exact wB
 obtain⟨k,c⟩:=k;obtain⟨b,a,o⟩:=b;simp only at b a o |-;by_cases e:k<m.a1.length
 ·have n:=ao e
  have B:(nth m.a1 k).length<=1048576:=g.2.2 _ (am e)
  repeat'(first|refine gE ?_|(conv=>whnf);first|with_reducible refine CE (aa n) ?_|refine CU cz Gw (λ_=>KZ) (by simp;omega) (by show _*8<=_;simp;omega) rfl ?_)
  ((conv=>whnf)
   refine CF (k+1,c++nth m.a1 k) ⟨(by simp only;omega),(by grind [oh]),ψ⟩ (by simp only;omega) ?_
   (repeat'(first|exact trivial|rfl|exact CM rfl (CM (Z0 (C.s dM.own) (by simp[rI])) trivial)|refine CM ?_ ?_)))
 obtain rfl:k=m.a1.length:=ω
 repeat'(first|refine gE ?_|fail)
 rw[pO d,<-p,<-a];rfl
theorem zV(m:aJ)(g:aJ.sml m):zzA 237 false [.val (some 2) (aJ.enc .W m)] .one (aF .own (aP m)):=by
 have h:=vY m g;cases d:bQ m<;>rw[d]at h
 ·refine fO 46 [] Tryz.func237 rfl ?_ (.inr (bM _))
  repeat'((conv=>whnf);first|with_reducible (first|refine Lm ?_|refine Wm ω ?_|refine Bn ?_|refine jm.wk rfl ?_)|refine Bt ?_|refine Bu ?_|refine C9 h ?_)
  all_goals(rw[vA d];exact⟨rfl,trivial⟩)
 obtain⟨D,E,F⟩:=tK d;refine fO 46 [] Tryz.func237 rfl ?_ (.inr (bM _))
 repeat'(first|refine gP ?_|(conv=>whnf);first|refine C9 h ?_)
 (conv=>whnf)
 refine CG (ι:=Nat × List Int) (λi=>[(1,.H .box (aJ.enc .W m)),(3,.H .one (aF .own i.2)),(15,.H .one (yP .W m.V)),(16,.H .one [I (m.V.length)]),(17,.H .one [I ((i.1:Nat):Int)])]) (λi=>i.1<=m.V.length/\i.2=flight1 m i.1/\i.2.length<=1048576*i.1) (λi=>m.V.length - i.1) ((0,[])) ?_ (⟨X0 _,rfl,X0 _⟩) λi j=>?_
 ·exact wB
 obtain⟨i,S⟩:=i;obtain⟨j,o,q⟩:=j;simp only at j o q |-;by_cases p:i<m.V.length
 ·have t:=ao p
  have u:(nth m.V i).length<=1048576:=(g.1.2 _ (am p)).1
  repeat'(first|refine gE ?_|(conv=>whnf);first|with_reducible refine CE (aa t) ?_)
  (conv=>whnf)
  refine CG (ι:=Nat × List Int) (λk=>[(1,.H .box (aJ.enc .W m)),(3,.H .one (aF .own k.2)),(15,.H .one (yP .W m.V)),(16,.H .one [I (m.V.length)]),(17,.H .one [I ((i:Nat):Int)]),(21,.H .one (cS .W (nth m.V i))),(22,.H .one [I ((nth m.V i).length)]),(23,.H .one [I ((k.1:Nat):Int)])]) (λk=>k.1<=(nth m.V i).length/\k.2=S++((nth m.V i).take k.1).map (·.Addr)) (λk=>(nth m.V i).length - k.1) ((0,S)) ?_ ψ λk b=>?_
  ·exact wB
  obtain⟨k,c⟩:=k;obtain⟨b,a⟩:=b;simp only at b a |-;have w:c.length=S.length+k:=ψ
  by_cases e:k<(nth m.V i).length
  ·have l:=ao e
   repeat'(first|refine gE ?_|(conv=>whnf);first|with_reducible refine CE (aa l) ?_|refine CU cz (λr y=>by rw[V1.1 y];rfl) (by simp[bk,eG]) (by simp;omega) (by show _*8<=_;simp;omega) rfl ?_)
   ((conv=>whnf)
    refine CF (k+1,c++[(nth (nth m.V i) k).Addr]) ⟨(by simp only;omega),(by grind [Y6])⟩ (by simp only;omega) ?_
    (repeat'(first|exact trivial|rfl|exact CM rfl (CM (Z0 (C.s dM.own) (by simp[rI])) trivial)|refine CM ?_ ?_)))
  obtain rfl:k=(nth m.V i).length:=ω
  rw[O6]at a
  repeat'(first|refine gE ?_|fail)
  ((conv=>whnf);refine CF (i+1,c) ⟨(by simp only;omega),(by grind [o8]),(by simp only;omega)⟩ (by simp only;omega) ?_;(exact wB))
 obtain rfl:i=m.V.length:=ω
 repeat'(first|refine gE ?_|fail)
 (conv=>whnf)
 refine CG (ι:=Nat × List Int) (λk=>[(3,.H .one (aF .own k.2)),(35,.H .one (jQ .W m.a1)),(36,.H .one [I (m.a1.length)]),(37,.H .one [I ((k.1:Nat):Int)])]) (λk=>k.1<=m.a1.length/\k.2=S++flight2 m k.1/\k.2.length<=S.length+1048576*k.1) (λk=>m.a1.length - k.1) ((0,S)) ?_ (⟨X0 _,by simp[flight2],by simp⟩) λk b=>?_
 ·exact wB
 obtain⟨k,c⟩:=k;obtain⟨b,a,n⟩:=b;simp only at b a n |-;by_cases e:k<m.a1.length
 ·have l:=ao e
  have B:(nth m.a1 k).length<=1048576:=g.2.2 _ (am e)
  repeat'(first|refine gE ?_|(conv=>whnf);first|with_reducible refine CE (aa l) ?_|refine CU cz Gw (λ_=>KZ) (by simp;omega) (by show _*8<=_;simp;omega) rfl ?_)
  ((conv=>whnf)
   refine CF (k+1,c++nth m.a1 k) ⟨(by simp only;omega),(by grind [oh]),ψ⟩ (by simp only;omega) ?_
   (repeat'(first|exact trivial|rfl|exact CM rfl (CM (Z0 (C.s dM.own) (by simp[rI])) trivial)|refine CM ?_ ?_)))
 obtain rfl:k=m.a1.length:=ω
 repeat'(first|refine gE ?_|fail)
 rw[pO d,<-o,<-a];rfl
def tbl(h:ab):aI:=h.G.F.Q
def eZ(h:ab):Nat:=h.G.F.Q.K.length
def xO(xs:List au)(i:Nat):Bool:=decide (i=0\/(nth xs (i - 1)).R<(nth xs i).R)
def xp(xs:List aB)(i:Nat):Bool:=decide (i=0\/(nth xs (i - 1)).R<(nth xs i).R)
def yI(h:ab)(l:aB)(k:Nat):Bool:=decide ((aY h (l.R+(k:Nat))).length=1)
def tz(h:ab)(i:Nat):Bool:=xp h.M i&&dr (nth h.M i).a4.toNat (yI h (nth h.M i))
def wo(h:ab)(p:Nat):Bool:=decide ((nth (tbl h).K p).j≠0↔(p:Int)∈pgs h.J h.M)&&(decide ((nth (tbl h).K p).j≠0) != h.w.any (wy (p:Nat)))
def pages0(h:ab):Bool:=((dr h.J.length (xO h.J)&&dr h.M.length (tz h))&&(pgs h.J h.M).all λp=>decide (p<eZ h))&&dr (eZ h) (wo h)
def mC(h:ab)(i:Nat)(q:Int):Bool:=decide (gX h q=(i:Nat)) || (decide (0<=gX h q)&&meshable (nth h.J i) (nth h.J (gX h q).toNat))
def vC(h:ab):Bool:=dr h.J.length λi=>(aY h (nth h.J i).R).all (mC h i)
def mL(h:ab)(i j:Nat):Bool:=decide ((ac (tbl h) (nth h.J i).R).d≠(ac (tbl h) (nth h.J j).R).d) || meshable (nth h.J i) (nth h.J j)
def pR(h:ab):Bool:=dr h.J.length λi=>dr i (mL h i)
def gd(z:Int)(o:bu):Bool:=decide (o.Id=z)
def ju(h:ab)(o:bu):Bool:=
 let w:=denotes h.J h.M o.Addr
 decide (w.c4=0)&&((decide (w.b6=1)&&decide ((nth h.J w.c3.toNat).e=aL o.q)) || (decide (w.b6=3)&&decide ((nth h.M w.c3.toNat).q=o.q)))
def io(a:Int)(h:ab)(i:Nat):Bool:=decide ((i=0\/(nth h.O (i - 1)).Addr<(nth h.O i).Addr)/\1<=(nth h.O i).Id/\(nth h.O i).Id<=a/\0<=(nth h.O i).a5/\(nth h.O i).a5<=h.S.length - 1)
def objAt(a:Int)(h:ab)(i:Nat):Bool:=(io a h i&&!(h.O.take i).any (gd (nth h.O i).Id))&&ju h (nth h.O i)
def gt(h:ab):Bool:=dr h.O.length (objAt (IntKind.i64.wrap (h.b - 1)) h)
def dD(h:ab)(a c:Int):Bool:=
 let w:=denotes h.J h.M a
 (decide (w.b6=1)&&decide (w.c4=0))&&(decide (c<0) || decide ((nth h.J w.c3.toNat).e=c))
def tV(h:ab)(c:aC)(k:Nat):Bool:=(nth c.a k).all λa=>dD h a (k:Nat)
def f9(h:ab)(c:aC):Bool:=dr c.a.length (tV h c)
def iF(h:ab)(x:aR):Bool:=dD h x.Addr x.e
def kX(h:ab)(a:Int):Bool:=dD h a (-1)
def cI(h:ab):List Int:=h.S.flatMap λc=>c.a.flatten
def jZ(h:ab):Bool:=((h.S.all (f9 h))&&h.a9.a6.all (iF h))&&(aP h.y).all (kX h)
def holders(h:ab):List Int:=((h.O.map (·.Addr)++cI h)++h.a9.a6.map (·.Addr))++aP h.y
def kN(sp:List au)(la:List aB)(a:Nat):Bool:=
 let w:=denotes sp la (a:Nat)
 decide (w.c4=0)&&(decide (w.b6=1) || decide (w.b6=3))
def mh(sp:List au)(la:List aB)(n:Nat):List Int:=((List.range n).filter (kN sp la)).map λ(i:Nat)=>(i:Int)
def kU(sp:List au)(la:List aB):List Int:=mh sp la 512
def kw(h:ab):Bool:=(jZ h&&decide (holders h).Nodup)&&decide ((holders h).length=(kU h.J h.M).length)
def mi(h:ab):Bool:=h.a9.a6.all λx=>decide (x.b7<=h.b3)
def cu(h:ab):Bool:=decide (0<=h.b8/\h.b8<=1073741823/\0<=h.b3/\h.b3<=1000000/\0<=h.c2/\h.c2<=1000/\1<=h.b/\h.b<=1000000)
def tn(h:ab):Bool:=if h.o then(jH h.Y&&decide (0<=gX h h.Y.X.a2))&&decide (0<=gX h h.Y.X.a0) else re h.Y
def kM(h:ab):Bool:=((ay h.G&&bG (eZ h) h.w)&&bp h.J h.M)&&pages0 h
set_option maxHeartbeats 8000000
theorem eE(h:bp sp la=true):sp.all bf=true/\la.all bL=true/\(pgs sp la).Nodup:=by grind [bp]
def QD[Inhabited α]{xs:List α}{p:α->Bool}(h:xs.all p=true)(a:i<xs.length):p (nth xs i)=true:=Y4.1 h _ (am a)
variable{h:ab}
theorem GE(h1:dr h.J.length (xO h.J)=false):pages0 h=false:=by grind [pages0]
theorem tT(h1:dr h.M.length (tz h)=false):pages0 h=false:=by grind [pages0]
theorem Gp(h1:p∈pgs h.J h.M)(a:¬p<eZ h):pages0 h=false:=by grind [pages0]
theorem FR(h1:dr (eZ h) (wo h)=false):pages0 h=false:=by grind [pages0]
theorem yo(h1:dr h.J.length (xO h.J)=true)(a:dr h.M.length (tz h)=true)(b:∀p∈pgs h.J h.M,p<eZ h)(c:dr (eZ h) (wo h)=true):pages0 h=true:=by grind [pages0]
theorem PD(h1:xp h.M i=false):tz h i=false:=by grind [tz]
theorem N4(a:k<(nth h.M i).a4.toNat)(h1:yI h (nth h.M i) k=false):tz h i=false:=by grind [cF,tz]
theorem F7(h1:xp h.M i=true)(a:dr (nth h.M i).a4.toNat (yI h (nth h.M i))=true):tz h i=true:=by grind [tz]
def gI(h:ab)(p:Int):(aY h p).length<=eZ h:=by
 unfold aY;split
 ·simp
 exact sg ..
theorem uj(h:bp sp la=true){l:aB}(a:la[i]? = some l):1<=l.a4/\l.a4<=63/\0<=l.R/\l.R<=31:=
 aQ (Y4.1 (eE h).2.1 l ψ)
theorem Ha(h:ab)(y:dX h.J)(E:dR h.M)(g:zf h)(F:gY h.w)(l:bp h.J h.M=true):zzA 211 false [.val (some 24) (ab.enc .W h)] .one [B (pages0 h)]:=by
 have Y:=y.1;have Z:=E.1;have hl3:eZ h<=1048576:=g.1;have hl4:=F.1;refine fO 144 [(7,18,[28,29,30,31,32,33,34,35,36,37,38,39,40,41,42,43,44,45]),(13,18,[62,63,64,65,66,67,68,69,70,71,72,73,74,75,76,77,78,79])] Tryz.func211 rfl ?_
 repeat'(first|refine gP ?_|fail)
 (conv=>whnf)
 refine CG (ι:=Nat × List Int) (λi=>[(1,.H .box (ab.enc .W h)),(3,.H .box (aI.enc .W (tbl h))),(4,.H .one [I (eZ h)]),(5,.H .one (aF .own i.2)),(6,.H .one [I ((i.1:Nat):Int)])]) (λi=>i.1<=h.J.length/\i.2=(h.J.take i.1).map (·.R)/\dr i.1 (xO h.J)=true) (λi=>h.J.length - i.1) ((0,[])) ?_ (⟨X0 _,rfl,rfl⟩) λi G=>?_
 ·exact wB
 obtain⟨i,S⟩:=i;obtain⟨G,H,J⟩:=G;simp only at G H J |-;have hSl:S.length=i:=ψ
 by_cases K:i<h.J.length
 ·have b:=ao K
  repeat'(first|refine gE ?_|(conv=>whnf);first|with_reducible (first|refine CE (aa b) ?_|refine Bf.D (λa=>?_) (λa=>?_))|refine CN ω (aa (gS ω K)) ?_|refine CU cz (λr n=>by rw[V1.1 n];rfl) (by simp[bk,eG]) (by simp;omega) (by simp only[I1];exact zE (by simp;omega) (by decide)) rfl ?_)
  all_goals first
   | exact Z0 (λz=>[B z]) ((GE (cF K (W0 ω))).symm)
   | ((conv=>whnf)
      refine CF (i+1,S++[(nth h.J i).R]) ⟨(by simp only;omega),(by simp only;rw[H,Y6,b];simp),bU J (O0 ω)⟩ (by simp only;omega) ?_
      (repeat'(first|exact trivial|rfl|exact CM rfl (CM (Z0 (C.s dM.own) (by simp[rI])) trivial)|refine CM ?_ ?_)))
 obtain rfl:i=h.J.length:=ω
 rw[O6]at H
 repeat'(first|refine gE ?_|fail)
 (conv=>whnf)
 refine CG (ι:=Nat × List Int) (λk=>[(1,.H .box (ab.enc .W h)),(3,.H .box (aI.enc .W (tbl h))),(4,.H .one [I (eZ h)]),(5,.H .one (aF .own k.2)),(7,.H .one [I ((k.1:Nat):Int)])]) (λk=>k.1<=h.M.length/\k.2=pgs h.J (h.M.take k.1)/\dr k.1 (tz h)=true/\k.2.length<=1048576+64*k.1) (λk=>h.M.length - k.1) ((0,S)) ?_ (⟨X0 _,by grind [pgs],rfl,by simp only;omega⟩) λk L=>?_
 ·exact wB
 obtain⟨k,S2⟩:=k;obtain⟨L,c,M,O⟩:=L;simp only at L c M O |-;by_cases u:k<h.M.length
 ·have b:=ao u
  have hpg:=uj l b
  repeat'(first|refine gE ?_|(conv=>whnf);first|with_reducible (first|refine CE (aa b) ?_|refine Bf.D (λa=>?_) (λa=>?_))|refine CN ω (aa (gS ω u)) ?_)
  all_goals first
   | exact Z0 (λz=>[B z]) ((tT (cF u (PD (W0 ω)))).symm)
   |have e:xp h.M k=true:=O0 ω
    (conv=>whnf)
    refine CG (ι:=Nat × List Int) (λq=>[(1,.H .box (ab.enc .W h)),(3,.H .box (aI.enc .W (tbl h))),(4,.H .one [I (eZ h)]),(5,.H .one (aF .own q.2)),(7,.H .one [I ((k:Nat):Int)]),(8,.H .one [I ((q.1:Nat):Int)])]) (λq=>q.1<=(nth h.M k).a4.toNat/\q.2=S2++lpgs (nth h.M k) q.1/\dr q.1 (yI h (nth h.M k))=true) (λq=>(nth h.M k).a4.toNat - q.1) ((0,S2)) ?_ (⟨X0 _,by simp[lpgs],rfl⟩) λq a=>?_
    ·exact wB
    obtain⟨q,Q⟩:=q;obtain⟨R,d,o⟩:=a;simp only at R d o |-;have U:Q.length=S2.length+q:=by rw[d,Z3,GA]
    by_cases w:q<(nth h.M k).a4.toNat
    ·have hfl:=gI h ((nth h.M k).R+(q:Nat))
     repeat'(first|refine gE ?_|(conv=>whnf);first|with_reducible (first|refine CE (aa b) ?_|refine Bf.N (λa=>?_) (λa=>?_))|refine C9 (iL h _ g) ?_|refine CU cz (λr n=>by rw[V1.1 n];rfl) (by simp[bk,eG]) (by simp;omega) (by show _*8<=_;simp;omega) rfl ?_)
     all_goals first
      | exact Z0 (λz=>[B z]) ((tT (cF u (N4 w (W0 ω)))).symm)
      | ((conv=>whnf)
         refine CF (q+1,Q++[(nth h.M k).R+(q:Nat)]) ⟨(by simp only;omega),(by simp only;rw[d,lA,Z6]),bU o (O0 ω)⟩ (by simp only;omega) ?_
         (repeat'(first|exact trivial|rfl|exact CM rfl (CM (Z0 (C.s dM.own) (by simp[rI])) trivial)|refine CM ?_ ?_)))
    obtain rfl:q=(nth h.M k).a4.toNat:=ω
    repeat'(first|refine gE ?_|(conv=>whnf);first|with_reducible refine CE (aa b) ?_)
    ((conv=>whnf);refine CF (k+1,Q) ⟨(by simp only;omega),(by simp only;rw[d,c,<-pI _ b]),bU M (F7 e o),(by simp only;omega)⟩ (by simp only;omega) ?_;(exact wB))
 obtain rfl:k=h.M.length:=ω
 rw[O6]at c
 repeat'(first|refine gE ?_|fail)
 (conv=>whnf)
 refine CG (ι:=Nat) (λq=>[(1,.H .box (ab.enc .W h)),(3,.H .box (aI.enc .W (tbl h))),(4,.H .one [I (eZ h)]),(5,.H .one (aF .own S2)),(10,.H .one [I ((q:Nat):Int)])]) (λq=>q<=S2.length/\∀j,j<q->nth S2 j<eZ h) (λq=>S2.length - q) (0) ?_ ψ λq a=>?_
 ·exact wB
 obtain⟨a,o⟩:=a;by_cases w:q<S2.length
 ·have b:=ao w
  repeat'(first|refine gE ?_|(conv=>whnf);first|with_reducible (first|refine CE (aa b) ?_|refine Bf.D (λa=>?_) (λa=>?_))|refine CK rfl (aa b) rfl ?_)
  all_goals first
   | exact Z0 (λz=>[B z]) ((Gp (by rw[<-c];exact am w) ω).symm)
   | ((conv=>whnf);refine CF (q+1) ⟨ω,λj hj=>by rcases Nat.lt_or_ge j q with V|V;exact o j V;(obtain rfl:j=q:=ω);omega⟩ ω ?_;(exact wB))
 have t:∀p∈pgs h.J h.M,p<eZ h:=λp T=>by grind [List.mem_iff_getElem?,bh]
 repeat'(first|refine gE ?_|fail)
 (conv=>whnf)
 refine CG (ι:=Nat) (λp=>[(1,.H .box (ab.enc .W h)),(3,.H .box (aI.enc .W (tbl h))),(4,.H .one [I (eZ h)]),(5,.H .one (aF .own S2)),(11,.H .one [I ((p:Nat):Int)])]) (λp=>p<=eZ h/\dr p (wo h)=true) (λp=>eZ h - p) 0 ?_ ⟨X0 _,rfl⟩ λp T=>?_
 ·exact wB
 obtain⟨T,W⟩:=T;by_cases X:p<eZ h
 ·have b:=ao (xs:=(tbl h).K) X
  have n:=zZ h.w (p:Nat) ω
  repeat'(first|refine gE ?_|(conv=>whnf);first|with_reducible (first|refine CE (aa b) ?_|refine Bf.D (λa=>?_) (λa=>?_)|refine Bf.NB (λa=>?_) (λa=>?_))|refine CH (nq S2 _ ω) ⟨⟨rfl,eM _⟩,⟨rfl,rfl⟩,trivial⟩ ?_|refine C9 n ?_|refine Bf.P (λa=>?_) (λa=>?_))
  all_goals first
   | exact Z0 (λz=>[B z]) ((FR (cF X (by unfold wo;rw[<-c];grind))).symm)
   | ((conv=>whnf);refine CF (p+1) ⟨ω,bU W (by unfold wo;rw[<-c];grind)⟩ ω ?_;(exact wB))
 repeat'(first|refine gE ?_|fail)
 obtain rfl:p=eZ h:=ω
 exact Z0 (λz=>[B z]) ((yo J M t W).symm)
set_option maxHeartbeats 8000000
def Ac(h:z1=z2):QK (I z1) (I z2):=by subst h;rfl
theorem KP : z∈ins S p↔z∈S\/z=p:=by grind [ins]
theorem xU(S:List Int):(gl S).map (·.1)=S:=by unfold gl;rw[List.map_map];simp[I7]
theorem mS{t:aI}{p:Nat}(a:p<t.K.length):ac t (p:Nat)=nth t.K p:=by grind [ac]
theorem Ep(h:ab)(G:dX h.J)(H:dR h.M)(d:zf h)(J:gY h.w)(u:bp h.J h.M=true):zzA 77 false [.val (some 24) (ab.enc .W h)] .one [B (pages0 h&&pR h)]:=by
 have hl1:=G.1;have hl2:=H.1;have hl3:eZ h<=1048576:=d.1;have hl4:=J.1;have b:pages0 h=false->[B false]=[B (pages0 h&&pR h)]:=ψ
 refine fO 177 [(4,14,[25,26,27,28,29,30,31,32,33,34,35,36,37,38]),(16,14,[60,61,62,63,64,65,66,67,68,69,70,71,72,73]),(28,18,[102,103,104,105,106,107,108,109,110,111,112,113,114,115,116,117,118,119]),(42,23,[152,153,154,155,156,157,158,159,160,161,162,163,164,165,166,167,168,169,170,171,172,173,174])] Tryz.func77 rfl ?_
 repeat'(first|refine gP ?_|fail)
 (conv=>whnf)
 refine CG (ι:=Nat) (λi=>[(1,.H .box (ab.enc .W h)),(18,.H .one (bX .W h.J)),(19,.H .one [I (h.J.length)]),(20,.H .one [I ((i:Nat):Int)])]) (λi=>i<=h.J.length/\dr i (xO h.J)=true) (λi=>h.J.length - i) 0 ?_ ⟨X0 _,rfl⟩ λi g=>?_
 ·exact wB
 obtain⟨g,C⟩:=g;by_cases o:i<h.J.length
 ·have e:=ao o
  repeat'(first|refine gE ?_|(conv=>whnf);first|with_reducible (first|refine CE (aa e) ?_|refine Bf.D (λa=>?_) (λa=>?_))|refine CN ω (aa (gS ω o)) ?_)
  all_goals first
   |exact b (GE (cF o (W0 ω)))
   | ((conv=>whnf);refine CF (i+1) ⟨ω,bU C (O0 ω)⟩ ω ?_;(exact wB))
 obtain rfl:i=h.J.length:=ω
 repeat'(first|refine gE ?_|fail)
 (conv=>whnf)
 refine CG (ι:=Nat × List Int) (λi=>[(1,.H .box (ab.enc .W h)),(5,.H .one [.m (gl i.2)]),(42,.H .one (bX .W h.J)),(43,.H .one [I (h.J.length)]),(44,.H .one [I ((i.1:Nat):Int)])]) (λi=>i.1<=h.J.length/\∀z,z∈i.2↔z∈(h.J.take i.1).map (·.R)) (λi=>h.J.length - i.1) ((0,[])) ?_ ψ λi g=>?_
 ·exact wB
 obtain⟨i,S⟩:=i;obtain⟨K,Z⟩:=g;simp only at K Z |-;by_cases li2:i<h.J.length
 ·have e:=ao li2
  repeat'(first|refine gE ?_|(conv=>whnf);first|with_reducible refine CE (aa e) ?_|refine Mu.mk (y2 S _) ?_)
  ((conv=>whnf);refine CF (i+1,ins S (nth h.J i).R) ⟨(by simp only;omega),λz=>by grind [KP,Y6]⟩ (by simp only;omega) ?_;(exact wB))
 obtain rfl:i=h.J.length:=ω
 rw[O6]at Z
 repeat'(first|refine gE ?_|fail)
 (conv=>whnf)
 refine CG (ι:=Nat × List Int) (λk=>[(1,.H .box (ab.enc .W h)),(5,.H .one [.m (gl k.2)]),(53,.H .one (cC .W h.M)),(54,.H .one [I (h.M.length)]),(55,.H .one [I ((k.1:Nat):Int)])]) (λk=>k.1<=h.M.length/\(∀z,z∈k.2↔z∈pgs h.J (h.M.take k.1))/\dr k.1 (tz h)=true) (λk=>h.M.length - k.1) ((0,S)) ?_ (⟨X0 _,λz=>by grind [pgs],rfl⟩) λk L=>?_
 ·exact wB
 obtain⟨k,S2⟩:=k;obtain⟨L,c,M⟩:=L;simp only at L c M |-;by_cases F:k<h.M.length
 ·have e:=ao F
  have hpg:=uj u e
  repeat'(first|refine gE ?_|(conv=>whnf);first|with_reducible (first|refine CE (aa e) ?_|refine Bf.D (λa=>?_) (λa=>?_))|refine CN ω (aa (gS ω F)) ?_)
  all_goals first
   |exact b (tT (cF F (PD (W0 ω))))
   |have l:xp h.M k=true:=O0 ω
    (conv=>whnf)
    refine CG (ι:=Nat × List Int) (λq=>[(1,.H .box (ab.enc .W h)),(5,.H .one [.m (gl q.2)]),(9,.H .box (aB.enc .W (nth h.M k))),(10,.H .one [I ((nth h.M k).R+(q.1:Nat))]),(53,.H .one (cC .W h.M)),(54,.H .one [I (h.M.length)]),(55,.H .one [I ((k:Nat):Int)])]) (λq=>q.1<=(nth h.M k).a4.toNat/\(∀z,z∈q.2↔z∈S2++lpgs (nth h.M k) q.1)/\dr q.1 (yI h (nth h.M k))=true) (λq=>(nth h.M k).a4.toNat - q.1) ((0,S2)) ?_ (⟨X0 _,λz=>by simp[lpgs],rfl⟩) λq a=>?_
    ·exact wB
    obtain⟨q,O⟩:=q;obtain⟨Q,n,R⟩:=a;simp only at Q n R |-;by_cases lq:q<(nth h.M k).a4.toNat
    ·have hfl:=gI h ((nth h.M k).R+(q:Nat))
     repeat'(first|refine gE ?_|(conv=>whnf);first|with_reducible refine Bf.N (λa=>?_) (λa=>?_)|refine C9 (oH h _ d) ?_|refine Mu.mk (y2 O _) ?_)
     all_goals first
      |exact b (tT (cF F (N4 lq (W0 ω))))
      | ((conv=>whnf)
         refine CF (q+1,ins O ((nth h.M k).R+(q:Nat))) ⟨(by simp only;omega),λz=>by simp only[KP,n];rw[lA];simp[or_assoc],bU R (O0 ω)⟩ (by simp only;omega) ?_
         (repeat'(first|exact trivial|rfl|refine CM ?_ ?_|exact Ac (by simp;omega))))
    obtain rfl:q=(nth h.M k).a4.toNat:=ω
    repeat'(first|refine gE ?_|fail)
    ((conv=>whnf);refine CF (k+1,O) ⟨(by simp only;omega),(λz=>by simp only[n];rw[pI _ e];simp[c]),bU M (F7 l R)⟩ (by simp only;omega) ?_;(exact wB))
 obtain rfl:k=h.M.length:=ω
 rw[O6]at c
 repeat'(first|refine gE ?_|fail)
 (conv=>whnf)
 refine CG (ι:=Nat) (λp=>[(1,.H .box (ab.enc .W h)),(5,.H .one [.m (gl S2)]),(98,.H .one [I (eZ h)]),(99,.H .one [I ((p:Nat):Int)])]) (λp=>p<=eZ h/\dr p (wo h)=true) (λp=>eZ h - p) 0 ?_ ⟨X0 _,rfl⟩ λp hp=>?_
 ·exact wB
 obtain⟨hp,ap⟩:=hp;by_cases lp:p<eZ h
 ·have T:=AA h.w (p:Nat) ω
  have w:=fD h.G (p:Nat) d;rw[mS lp]at w
  repeat'(first|refine gE ?_|(conv=>whnf);first|with_reducible (first|refine Bf.D (λa=>?_) (λa=>?_)|refine Bf.NB (λa=>?_) (λa=>?_))|refine C9 w ?_|refine Ml.mk (oo (p:Nat) S2) ?_|refine C9 T ?_|refine Bf.P (λa=>?_) (λa=>?_))
  all_goals first
   |exact b (FR (cF lp (by unfold wo tbl;have:=c (p:Nat);grind)))
   | ((conv=>whnf);refine CF (p+1) ⟨ω,bU ap (by unfold wo tbl;have:=c (p:Nat);grind)⟩ ω ?_;(exact wB))
 obtain rfl:p=eZ h:=ω
 repeat'(first|refine gE ?_|fail)
 have hpn:eZ h=h.G.F.Q.K.length:=rfl
 (conv=>whnf)
 refine CG (ι:=Option Int × List Int) (λt=>[(1,.H .box (ab.enc .W h)),(122,.H .one [.it t.1 t.2])]) (λt=>(∀z∈S2,z∈t.2\/z<eZ h)/\∀z∈t.2,z∈S2) (λt=>t.2.length) ((none,(gl S2).map (·.1))) ?_ (⟨λz hz=>.inl (by grind [xU]),λz hz=>by grind [xU]⟩) λt ht=>?_
 ·exact wB
 obtain⟨cur,left⟩:=t;obtain⟨U,V⟩:=ht;simp only at U V |-
 repeat'(first|refine gP ?_|(conv=>whnf);first|with_reducible refine Bf.D (λa=>?_) (λa=>?_)|refine Nt.mk (λa=>?_) (λl1 k l2 a=>?_))
 rotate_left
 ·exact b (Gp (p:=k) ψ ω)
 ·((conv=>whnf);refine CF (some k,l1++l2) ψ (by subst left;simp) ?_;(exact wB))
 have y:∀p∈pgs h.J h.M,p<eZ h:=ψ
 have h0:pages0 h=true:=yo C M y ap;rw[h0,Bool.true_and]
 (conv=>whnf)
 refine CG (ι:=Nat) (λi=>[(1,.H .box (ab.enc .W h)),(136,.H .one (bX .W h.J)),(137,.H .one [I (h.J.length)]),(138,.H .one [I ((i:Nat):Int)])]) (λi=>i<=h.J.length/\dr i (λi=>dr i (mL h i))=true) (λi=>h.J.length - i) 0 ?_ ⟨X0 _,rfl⟩ λi g=>?_
 ·exact wB
 obtain⟨g,C⟩:=g;by_cases o:i<h.J.length
 ·have e:=ao o
  have W:(h.J.take i).length=i:=ψ
  repeat'(first|refine gE ?_|(conv=>whnf);first|with_reducible refine CE (aa e) ?_|refine CX i rfl (by simp;omega) (λr T=>by obtain⟨z,-,rfl⟩:=O5.1 T;rfl) (C5 ..) ?_)
  (conv=>whnf)
  refine CG (ι:=Nat) (λj=>[(1,.H .box (ab.enc .W h)),(14,.H .box (au.enc .W (nth h.J i))),(136,.H .one (bX .W h.J)),(137,.H .one [I (h.J.length)]),(138,.H .one [I ((i:Nat):Int)]),(146,.H .one (bX .W (h.J.take i))),(147,.H .one [I ((h.J.take i).length)]),(148,.H .one [I ((j:Nat):Int)])]) (λj=>j<=(h.J.take i).length/\dr j (mL h i)=true) (λj=>(h.J.take i).length - j) 0 ?_ ⟨X0 _,rfl⟩ λj hj=>?_
  ·exact wB
  obtain⟨hj,X⟩:=hj;by_cases lj:j<(h.J.take i).length
  ·have hy:=ao lj
   have he:nth (h.J.take i) j=nth h.J j:=bh (by grind [ao]);rw[he]at hy;have w:=mW (nth h.J i) (nth h.J j);cases Y:meshable (nth h.J i) (nth h.J j)<;>rw[Y]at w
   all_goals
    repeat'(first|refine gE ?_|(conv=>whnf);first|with_reducible (first|refine CE (aa hy) ?_|refine Bf.E (λa=>?_) (λa=>?_))|refine C9 (dL (tbl h) _ d) ?_|refine C9 w ?_)
    all_goals first
     | exact Z0 (λz=>[B z]) ((by symm;exact cF o (cF (i:=j) ω (by unfold mL;rw[Y];grind))))
     | ((conv=>whnf);refine CF (j+1) ⟨ω,bU X (by unfold mL;rw[Y];grind)⟩ ω ?_;(exact wB))
  obtain rfl:j=(h.J.take i).length:=ω
  rw[W]at X
  repeat'(first|refine gE ?_|fail)
  ((conv=>whnf);refine CF (i+1) ⟨ω,bU C X⟩ ω ?_;(exact wB))
 obtain rfl:i=h.J.length:=ω
 repeat'(first|refine gE ?_|fail)
 exact Z0 (λz=>[B z]) ((by grind [pR]))
set_option maxHeartbeats 8000000
def p8[Inhabited α](pr:α->Bool)(xs:List α):ee pr xs = -1\/∃n,n<xs.length/\ee pr xs=(n:Nat)/\pr (nth xs n)=true:=by
 unfold ee;cases h:xs.findIdx? pr with
 | none=>exact .inl rfl
 | some i=>
  obtain⟨a,b,-⟩:=S8.1 h;exact .inr ⟨i,a,rfl,by rw[bh (X2 a)];exact b⟩
def FA(a:i<h.J.length)(b:k<(aY h (nth h.J i).R).length)(c:mC h i (nth (aY h (nth h.J i).R) k)=false):vC h=false:=by
 unfold vC;exact cF a (ik (ao b) c)
theorem E1(h:ab)(j:dX h.J)(c:zf h):zzA 212 false [.val (some 24) (ab.enc .W h)] .one [B (vC h)]:=by
 have l:=j.1;have E:eZ h<=1048576:=c.1;refine fO 55 [(4,8,[14,15,16,17,18,19,20,21]),(8,6,[28,29,30,31,32,33]),(9,21,[34,35,36,37,38,39,40,41,42,43,44,45,46,47,48,49,50,51,52,53,54])] Tryz.func212 rfl ?_
 repeat'(first|refine gP ?_|fail)
 (conv=>whnf)
 refine CG (ι:=Nat) (λi=>[(1,.H .box (ab.enc .W h)),(3,.H .one [I ((i:Nat):Int)])]) (λi=>i<=h.J.length/\dr i (λi=>(aY h (nth h.J i).R).all (mC h i))=true) (λi=>h.J.length - i) 0 ?_ ⟨X0 _,rfl⟩ λi w=>?_
 ·exact wB
 obtain⟨w,F⟩:=w;by_cases o:i<h.J.length
 ·have q:=ao o
  have G:=gI h (nth h.J i).R
  repeat'(first|refine gE ?_|(conv=>whnf);first|with_reducible refine CE (aa q) ?_|refine C9 (iL h _ c) ?_)
  (conv=>whnf)
  refine CG (ι:=Nat) (λk=>[(1,.H .box (ab.enc .W h)),(3,.H .one [I ((i:Nat):Int)]),(4,.H .one (aF .own (aY h (nth h.J i).R))),(5,.H .one [I ((k:Nat):Int)])]) (λk=>k<=(aY h (nth h.J i).R).length/\((aY h (nth h.J i).R).take k).all (mC h i)=true) (λk=>(aY h (nth h.J i).R).length - k) (0) ?_ ψ λk y=>?_
  ·exact wB
  obtain⟨y,H⟩:=y;by_cases r:k<(aY h (nth h.J i).R).length
  ·have d:=ao r
   have a:=kH h (nth (aY h (nth h.J i).R) k) l;rcases p8 (mM (nth (aY h (nth h.J i).R) k)) h.J with g|⟨n,J,g,-⟩
   ·rw[show gX h (nth (aY h (nth h.J i).R) k) = -1 from g]at a
    have t:mC h i (nth (aY h (nth h.J i).R) k)=false:=by grind [mC,gX]
    repeat'(first|refine gE ?_|(conv=>whnf);first|with_reducible (first|refine CE (aa q) ?_|refine CE (aa d) ?_|refine Bf.D (λb=>?_) (λb=>?_)|refine Bf.N (λb=>?_) (λb=>?_))|refine CK rfl (aa d) rfl ?_|refine C9 a ?_)
    all_goals first
     | exact Z0 (λz=>[B z]) ((FA o r t).symm)
     |(exfalso;omega)
   rw[show gX h (nth (aY h (nth h.J i).R) k)=(n:Nat) from g]at a;have K:=ao J;have C:=mX (nth h.J i) (nth h.J n);have e:mC h i (nth (aY h (nth h.J i).R) k)=(decide ((n:Int)=(i:Nat)) || meshable (nth h.J i) (nth h.J n)):=by
    unfold mC;rw[show gX h (nth (aY h (nth h.J i).R) k)=(n:Nat) from g,O0 (p:=(0:Int)<=(n:Nat)) ω];simp
   cases u:meshable (nth h.J i) (nth h.J n)<;>rw[u]at C
   all_goals
    repeat'(first|refine gE ?_|(conv=>whnf);first|with_reducible (first|refine CE (aa q) ?_|refine CE (aa K) ?_|refine CE (aa d) ?_|refine Bf.D (λb=>?_) (λb=>?_)|refine Bf.N (λb=>?_) (λb=>?_))|refine CK rfl (aa d) rfl ?_|refine C9 a ?_|refine C9 C ?_)
    all_goals first
     | exact Z0 (λz=>[B z]) ((FA o r (by rw[e,u];grind)).symm)
     | ((conv=>whnf);refine CF (k+1) ⟨ω,dd d H (by rw[e,u];grind)⟩ ω ?_;(exact wB))
     |(exfalso;omega)
  repeat'(first|refine gE ?_|fail)
  ((conv=>whnf);refine CF (i+1) ⟨ω,bU F ψ⟩ ω ?_;(exact wB))
 obtain rfl:i=h.J.length:=ω
 repeat'(first|refine gE ?_|fail)
 exact Z0 (λz=>[B z]) ((by grind [vC]))
def LH(j:co)(b:co.sml j):zzA 217 false [.val (some 5) (co.enc .W j)] .one [B (re j)]:=by
 have c:j.X.T.length<=1048576:=b;refine fO 30 [] Tryz.func217 rfl ?_
 repeat'(first|refine gP ?_|(conv=>whnf);first|with_reducible (first|refine Bf.E (λa=>?_) (λa=>?_)|refine Bf.D (λa=>?_) (λa=>?_)))
 all_goals exact Z0 (λz=>[B z]) ((by unfold re;first|(symm;exact W0 ω)|(rw[Z5,beq_iff_eq,C0];omega)))
theorem nC(sp:List au)(la:List aB)(a:Int):((denotes sp la a).b6=1->0<=(denotes sp la a).c3/\(denotes sp la a).c3.toNat<sp.length)/\((denotes sp la a).b6=3->0<=(denotes sp la a).c3/\(denotes sp la a).c3.toNat<la.length):=by grind [S8,denotes,nI]
theorem J9(h:ab)(a c:Int)(d:dX h.J)(e:dR h.M)(b:bp h.J h.M=true)(k:n7 a):zzA 363 false [.val (some 24) (ab.enc .W h),.val none [I a],.val none [I c]] .one [B (dD h a c)]:=by
 have j:=oe h.J h.M a d e b k;obtain⟨g,-⟩:=nC h.J h.M a;unfold dD;generalize denotes h.J h.M a=w at j g |-;refine fO 37 [] Tryz.func363 rfl ?_
 repeat'(first|refine gP ?_|(conv=>whnf);first|with_reducible (first|refine Bf.D (λi=>?_) (λi=>?_)|refine Bf.E (λi=>?_) (λi=>?_))|refine C9 j ?_|refine CN (g (by assumption)).1 (aa (ao (g (by assumption)).2)) ?_)
 all_goals exact Z0 (λz=>[B z]) (ψ)
theorem B5(h:ab)(o:bu)(w:jW)(a:denotes h.J h.M o.Addr=w):ju h o=(decide (w.c4=0)&&((decide (w.b6=1)&&decide ((nth h.J w.c3.toNat).e=aL o.q)) || (decide (w.b6=3)&&decide ((nth h.M w.c3.toNat).q=o.q)))):=by grind [ju]
def jM(a:i<h.O.length)(b:objAt (IntKind.i64.wrap (h.b - 1)) h i=false):gt h=false:=cF a b
theorem Kn(h1:io a h i=false):objAt a h i=false:=by grind [objAt]
theorem JR(h1:(h.O.take i).any (gd (nth h.O i).Id)=true):objAt a h i=false:=by grind [objAt]
theorem KW(h1:ju h (nth h.O i)=false):objAt a h i=false:=by grind [objAt]
theorem AX(h1:io a h i=true)(b:(h.O.take i).any (gd (nth h.O i).Id)=false)(c:ju h (nth h.O i)=true):objAt a h i=true:=by grind [objAt]
theorem HS(h:ab)(l:dX h.J)(n:dR h.M)(g:bp h.J h.M=true)(K:h.O.length<=1048576)(L:h.S.length<=1048576)(H:∀o∈h.O,n7 o.Addr):zzA 215 false [.val (some 24) (ab.enc .W h)] .one [B (gt h)]:=by
 refine fO 117 [(5,33,[21,22,23,24,25,26,27,28,29,30,31,32,33,34,35,36,37,38,39,40,41,42,43,44,45,46,47,48,49,50,51,52,53]),(10,9,[59,60,61,62,63,64,65,66,67]),(13,16,[75,76,77,78,79,80,81,82,83,84,85,86,87,88,89,90]),(14,15,[91,92,93,94,95,96,97,98,99,100,101,102,103,104,105])] Tryz.func215 rfl ?_
 repeat'(first|refine gP ?_|fail)
 (conv=>whnf)
 refine CG (ι:=Nat) (λi=>[(1,.H .box (ab.enc .W h)),(3,.H .one [I ((i:Nat):Int)])]) (λi=>i<=h.O.length/\dr i (objAt (IntKind.i64.wrap (h.b - 1)) h)=true) (λi=>h.O.length - i) 0 ?_ ⟨X0 _,rfl⟩ λi t=>?_
 ·exact wB
 obtain⟨t,u⟩:=t;by_cases e:i<h.O.length
 ·have y:=ao e
  have C:=oe h.J h.M (nth h.O i).Addr l n g (H _ (am e));obtain⟨p,q⟩:=nC h.J h.M (nth h.O i).Addr;have b:=B5 h (nth h.O i) _ rfl;generalize denotes h.J h.M (nth h.O i).Addr=w at C p q b;by_cases c:io (IntKind.i64.wrap (h.b - 1)) h i=true
  ·have a:=c
   unfold io at a;rw[C0]at a
   repeat'(first|refine gE ?_|(conv=>whnf);first|with_reducible (first|refine CE (aa y) ?_|refine Bf.D (λd=>?_) (λd=>?_))|refine CN ω (aa (gS ω e)) ?_|refine C9 (aH _ _ _) ?_|refine CO rfl ?_)
   all_goals
    (conv=>whnf)
    refine CG (ι:=Nat) (λk=>[(1,.H .box (ab.enc .W h)),(3,.H .one [I ((i:Nat):Int)]),(4,.H .box (bu.enc .W (nth h.O i))),(5,.H .one [I ((k:Nat):Int)])]) (λk=>k<=i/\(h.O.take k).any (gd (nth h.O i).Id)=false) (λk=>i - k) (0) ?_ (⟨X0 _,rfl⟩) λk F=>?_
    ·exact wB
    obtain⟨F,G⟩:=F;by_cases J:k<i
    ·have r:=ao (xs:=h.O) (i:=k) ω
     repeat'(first|refine gE ?_|(conv=>whnf);first|with_reducible (first|refine CE (aa r) ?_|refine Bf.E (λd=>?_) (λd=>?_)))
     all_goals first
      | exact Z0 (λz=>[B z]) ((jM e (JR (DI (i:=k) (by rw[List.getElem?_take_of_lt J];exact r) (O0 (by assumption))))).symm)
      | ((conv=>whnf);refine CF (k+1) ⟨ω,xT r G (W0 (by assumption))⟩ ω ?_;(exact wB))
    obtain rfl:k=i:=ω
    repeat'(first|refine gE ?_|(conv=>whnf);first|with_reducible (first|refine Bf.D (λd=>?_) (λd=>?_)|refine Bf.E (λd=>?_) (λd=>?_)|refine Bf.N (λd=>?_) (λd=>?_))|refine C9 C ?_|refine CN (p (by assumption)).1 (aa (ao (p (by assumption)).2)) ?_|refine CN (q (by assumption)).1 (aa (ao (q (by assumption)).2)) ?_|refine C9 (kZ _) ?_)
    all_goals first
     | exact Z0 (λz=>[B z]) ((jM e (KW (by rw[b];grind))).symm)
     | ((conv=>whnf);refine CF (k+1) ⟨ω,bU u (AX c G (by rw[b];grind))⟩ ω ?_;(exact wB))
     |(exfalso;omega)
  have j:io (IntKind.i64.wrap (h.b - 1)) h i=false:=by simpa using c
  have a:=j;unfold io at a;rw[Y5]at a
  repeat'(first|refine gE ?_|(conv=>whnf);first|with_reducible (first|refine CE (aa y) ?_|refine Bf.D (λd=>?_) (λd=>?_))|refine CN ω (aa (gS ω e)) ?_|refine C9 (aH _ _ _) ?_|refine CO rfl ?_)
  all_goals first
   | exact Z0 (λz=>[B z]) ((jM e (Kn j)).symm)
   |(exfalso;omega)
 obtain rfl:i=h.O.length:=ω
 repeat'(first|refine gE ?_|fail)
 exact Z0 (λz=>[B z]) ((show true=gt h from u.symm))
theorem qv(o a:bu):zzA 234 false [.val (some 4) (bu.enc .W o),.ptr (bu.enc .W a)] .one [B (gd a.Id o)]:=by
 refine fO 9 [] Tryz.func234 rfl ?_
 repeat'(first|refine gP ?_|fail)
 grind [gd]
theorem Gc(h:ab)(n:dX h.J)(o:dR h.M)(J:h.O.length<=1048576)(K:h.S.length<=1048576):zzA 81 false [.val (some 24) (ab.enc .W h)] .one [B (gt h)]:=by
 refine fO 105 [(4,33,[16,17,18,19,20,21,22,23,24,25,26,27,28,29,30,31,32,33,34,35,36,37,38,39,40,41,42,43,44,45,46,47,48]),(9,16,[62,63,64,65,66,67,68,69,70,71,72,73,74,75,76,77]),(10,15,[78,79,80,81,82,83,84,85,86,87,88,89,90,91,92])] Tryz.func81 rfl ?_
 repeat'(first|refine gP ?_|fail)
 (conv=>whnf)
 refine CG (ι:=Nat) (λi=>[(1,.H .box (ab.enc .W h)),(9,.H .one (mJ .W h.O)),(10,.H .one [I (h.O.length)]),(11,.H .one [I ((i:Nat):Int)])]) (λi=>i<=h.O.length/\dr i (objAt (IntKind.i64.wrap (h.b - 1)) h)=true) (λi=>h.O.length - i) 0 ?_ ⟨X0 _,rfl⟩ λi F=>?_
 ·exact wB
 obtain⟨F,G⟩:=F;by_cases g:i<h.O.length
 ·have p:=ao g
  have H:=nU h.J h.M (nth h.O i).Addr n o;obtain⟨q,t⟩:=nC h.J h.M (nth h.O i).Addr;have b:=B5 h (nth h.O i) _ rfl;generalize denotes h.J h.M (nth h.O i).Addr=w at H q t b;have j:=uT (h.O.take i) (gd (nth h.O i).Id) ψ;by_cases c:io (IntKind.i64.wrap (h.b - 1)) h i=true
  ·have a:=c
   unfold io at a;rw[C0]at a;cases d:(h.O.take i).any (gd (nth h.O i).Id)<;>rw[d]at j
   ·repeat'(first|refine gE ?_|(conv=>whnf);first|with_reducible (first|refine CE (aa p) ?_|refine Bf.D (λe=>?_) (λe=>?_)|refine Bf.E (λe=>?_) (λe=>?_)|refine Bf.N (λe=>?_) (λe=>?_))|refine CN ω (aa (gS ω g)) ?_|refine C9 (aK _ _ _) ?_|refine CX i rfl (by simp;omega) (λr u=>by obtain⟨z,-,rfl⟩:=O5.1 u;rfl) (C5 ..) ?_|refine Cq.mk (BK (some 4) (bu.enc .W) (gd (nth h.O i).Id) (h.O.take i)) (qv default (nth h.O i)).has (λL k rcs C=>by obtain⟨y,-,rfl,rfl,rfl⟩:=C;exact qv y (nth h.O i)) ?_|refine C9 j ?_|refine C9 H ?_|refine CN (q (by assumption)).1 (aa (ao (q (by assumption)).2)) ?_|refine CN (t (by assumption)).1 (aa (ao (t (by assumption)).2)) ?_|refine C9 (DJ _) ?_|refine CO rfl ?_)
    all_goals first
     | exact Z0 (λz=>[B z]) ((jM g (KW (by rw[b];grind))).symm)
     | ((conv=>whnf);refine CF (i+1) ⟨ω,bU G (AX c d (by rw[b];grind))⟩ ω ?_;(exact wB))
     |(exfalso;omega)
   repeat'(first|refine gE ?_|(conv=>whnf);first|with_reducible (first|refine CE (aa p) ?_|refine Bf.D (λe=>?_) (λe=>?_))|refine CN ω (aa (gS ω g)) ?_|refine C9 (aK _ _ _) ?_|refine CX i rfl (by simp;omega) (λr u=>by obtain⟨z,-,rfl⟩:=O5.1 u;rfl) (C5 ..) ?_|refine Cq.mk (BK (some 4) (bu.enc .W) (gd (nth h.O i).Id) (h.O.take i)) (qv default (nth h.O i)).has (λL k rcs C=>by obtain⟨y,-,rfl,rfl,rfl⟩:=C;exact qv y (nth h.O i)) ?_|refine C9 j ?_|refine CO rfl ?_)
   all_goals first
    | exact Z0 (λz=>[B z]) ((jM g (JR d)).symm)
    |(exfalso;omega)
  have l:io (IntKind.i64.wrap (h.b - 1)) h i=false:=by simpa using c
  have a:=l;unfold io at a;rw[Y5]at a
  repeat'(first|refine gE ?_|(conv=>whnf);first|with_reducible (first|refine CE (aa p) ?_|refine Bf.D (λe=>?_) (λe=>?_))|refine CN ω (aa (gS ω g)) ?_|refine C9 (aK _ _ _) ?_|refine CO rfl ?_)
  all_goals first
   | exact Z0 (λz=>[B z]) ((jM g (Kn l)).symm)
   |(exfalso;omega)
 obtain rfl:i=h.O.length:=ω
 repeat'(first|refine gE ?_|fail)
 exact Z0 (λz=>[B z]) ((show true=gt h from G.symm))
end Go.Proofs.YtiopgblagimpmaaGreat.Ab
