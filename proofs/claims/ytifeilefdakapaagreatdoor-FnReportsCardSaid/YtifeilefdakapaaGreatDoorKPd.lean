/- The data of the program, its cells, its bulk and its marks. Printed by gen_data.py. No condition. -/
import Derived.Test.YtifeilefdakapaaGreatDoorKPc
set_option linter.unusedVariables false
set_option linter.defProp false
set_option linter.unusedSimpArgs false
set_option linter.constructorNameAsVariable false
namespace Go.Proofs.YtifeilefdakapaaGreatDoor.Ab
open Go.RowKit
def aF(o:du)(x:List Int):List C:=[.s o (x.map (rI o))]
def dY(x:List Int):d8 (aF .own x)=aF .U x:=by simp[d8,aF,rI,d8]
theorem bN(x:List Int):gn (aF .own x):=⟨⟨.inl ψ,aX _ _ λy _=>pn y⟩,trivial⟩
def iO(x:List Int):Prop:=x.length<=9223372036854775807/\∀y∈x,jF y
def rJ(x:List Int):Prop:=x.length<=1048576
def ko(o:du)(x:List (List Int)):List C:=[.s o (x.map (aF o))]
def PW(x:List (List Int)):d8 (ko .own x)=ko .U x:=by simp[d8,ko,dY,<-ch,I5]
def Ad(x:List (List Int)):Prop:=x.length<=9223372036854775807/\∀y∈x,iO y
def w5(x:List (List Int)):Prop:=x.length<=1048576/\∀y∈x,rJ y
def vR(o:du)(x:List Bool):List C:=[.s o (x.map (rB o))]
def ML(x:List Bool):Prop:=x.length<=9223372036854775807/\∀y∈x,QL y
def KG(x:List Bool):Prop:=x.length<=1048576
structure aU where
 W:List (List Int)
 a1:List Bool
deriving DecidableEq,Inhabited
def aU.enc(o:du)(x:aU):List C:=[.s o (x.W.map (aF o)),.s o (x.a1.map (rB o))]
def aU.enc_fz(x:aU):d8 (aU.enc .own x)=aU.enc .U x:=by simp[d8,aU.enc,rB,dY,<-ch,I5]
theorem aU.enc_fr(x:aU):gn (aU.enc .own x):=⟨⟨.inl ψ,aX _ _ λy _=>bN y⟩,⟨.inl ψ,aX _ _ λy _=>Di y⟩,trivial⟩
def aU.wf(x:aU):Prop:=Ad x.W/\ML x.a1
def aU.sml(x:aU):Prop:=w5 x.W/\KG x.a1
structure bi where
 w:Int
 j:Int
deriving DecidableEq,Inhabited
def bi.enc(o:du)(x:bi):List C:=[I x.w,I x.j]
def bi.enc_fz(x:bi):d8 (bi.enc .own x)=bi.enc .U x:=by simp[d8,bi.enc]
def bi.enc_fr(x:bi):gn (bi.enc .own x):=⟨trivial,trivial,trivial⟩
def bi.wf(x:bi):Prop:=jF x.w/\jF x.j
def bi.sml(_:bi):Prop:=True
def vI(o:du)(x:List bi):List C:=[.s o (x.map (bi.enc o))]
def Hi(x:List bi):Prop:=x.length<=9223372036854775807/\∀y∈x,bi.wf y
def Fn(x:List bi):Prop:=x.length<=1048576/\∀y∈x,bi.sml y
structure aG where
 K:List bi
deriving DecidableEq,Inhabited
def aG.enc(o:du)(x:aG):List C:=[.s o (x.K.map (bi.enc o))]
def aG.enc_fz(x:aG):d8 (aG.enc .own x)=aG.enc .U x:=by simp[d8,aG.enc,bi.enc_fz,<-ch,I5]
def CX:type_of% @aG.enc_fz:=@aG.enc_fz
theorem aG.enc_fr(x:aG):gn (aG.enc .own x):=⟨⟨.inl ψ,aX _ _ λy _=>bi.enc_fr y⟩,trivial⟩
def aG.wf(x:aG):Prop:=Hi x.K
def aG.sml(x:aG):Prop:=Fn x.K
structure aS where
 V:aU
 S:aG
deriving DecidableEq,Inhabited
def aS.enc(o:du)(x:aS):List C:=[.s o (x.V.W.map (aF o)),.s o (x.V.a1.map (rB o)),.s o (x.S.K.map (bi.enc o))]
def aS.enc_fz(x:aS):d8 (aS.enc .own x)=aS.enc .U x:=by simp[d8,aS.enc,bi.enc_fz,rB,dY,<-ch,I5]
theorem aS.enc_fr(x:aS):gn (aS.enc .own x):=⟨⟨.inl ψ,aX _ _ λy _=>bN y⟩,⟨.inl ψ,aX _ _ λy _=>Di y⟩,⟨.inl ψ,aX _ _ λy _=>bi.enc_fr y⟩,trivial⟩
def aS.wf(x:aS):Prop:=aU.wf x.V/\aG.wf x.S
def aS.sml(x:aS):Prop:=aU.sml x.V/\aG.sml x.S
structure af where
 G:aS
 q:Int
 e:List Int
deriving DecidableEq,Inhabited
def af.enc(o:du)(x:af):List C:=[.s o (x.G.V.W.map (aF o)),.s o (x.G.V.a1.map (rB o)),.s o (x.G.S.K.map (bi.enc o)),I x.q,.s o (x.e.map (rI o))]
def af.enc_fz(x:af):d8 (af.enc .own x)=af.enc .U x:=by simp[d8,af.enc,bi.enc_fz,rB,rI,dY,<-ch,I5]
def CQ:type_of% @af.enc_fz:=@af.enc_fz
theorem af.enc_fr(x:af):gn (af.enc .own x):=⟨⟨.inl ψ,aX _ _ λy _=>bN y⟩,⟨.inl ψ,aX _ _ λy _=>Di y⟩,⟨.inl ψ,aX _ _ λy _=>bi.enc_fr y⟩,trivial,⟨.inl ψ,aX _ _ λy _=>pn y⟩,trivial⟩
def af.wf(x:af):Prop:=aS.wf x.G/\jF x.q/\iO x.e
def af.sml(x:af):Prop:=aS.sml x.G/\rJ x.e
structure a8 where
 At:Int
 a5:Int
deriving DecidableEq,Inhabited
def a8.enc(o:du)(x:a8):List C:=[I x.At,I x.a5]
def a8.enc_fz(x:a8):d8 (a8.enc .own x)=a8.enc .U x:=by simp[d8,a8.enc]
def a8.enc_fr(x:a8):gn (a8.enc .own x):=⟨trivial,trivial,trivial⟩
def a8.wf(x:a8):Prop:=jF x.At/\jF x.a5
def a8.sml(_:a8):Prop:=True
def bH(o:du)(x:List a8):List C:=[.s o (x.map (a8.enc o))]
def dI(x:List a8):d8 (bH .own x)=bH .U x:=by simp[d8,bH,a8.enc_fz,<-ch,I5]
theorem o6(x:List a8):gn (bH .own x):=⟨⟨.inl ψ,aX _ _ λy _=>a8.enc_fr y⟩,trivial⟩
def Hn(x:List a8):Prop:=x.length<=9223372036854775807/\∀y∈x,a8.wf y
def iQ(x:List a8):Prop:=x.length<=1048576/\∀y∈x,a8.sml y
structure ar where
 Q:Int
 Y:Int
 a6:Int
deriving DecidableEq,Inhabited
def ar.enc(o:du)(x:ar):List C:=[I x.Q,I x.Y,I x.a6]
def ar.enc_fz(x:ar):d8 (ar.enc .own x)=ar.enc .U x:=by simp[d8,ar.enc]
def ar.enc_fr(x:ar):gn (ar.enc .own x):=⟨trivial,trivial,trivial,trivial⟩
def ar.wf(x:ar):Prop:=jF x.Q/\jF x.Y/\jF x.a6
def ar.sml(_:ar):Prop:=True
def bM(o:du)(x:List ar):List C:=[.s o (x.map (ar.enc o))]
def vu(x:List ar):d8 (bM .own x)=bM .U x:=by simp[d8,bM,ar.enc_fz,<-ch,I5]
theorem ES(x:List ar):gn (bM .own x):=⟨⟨.inl ψ,aX _ _ λy _=>ar.enc_fr y⟩,trivial⟩
def Lk(x:List ar):Prop:=x.length<=9223372036854775807/\∀y∈x,ar.wf y
def dm(x:List ar):Prop:=x.length<=1048576/\∀y∈x,ar.sml y
structure ay where
 Q:Int
 a3:Int
 d:Int
deriving DecidableEq,Inhabited
def ay.enc(o:du)(x:ay):List C:=[I x.Q,I x.a3,I x.d]
def ay.enc_fz(x:ay):d8 (ay.enc .own x)=ay.enc .U x:=by simp[d8,ay.enc]
def ay.enc_fr(x:ay):gn (ay.enc .own x):=⟨trivial,trivial,trivial,trivial⟩
def ay.wf(x:ay):Prop:=jF x.Q/\jF x.a3/\jF x.d
def ay.sml(_:ay):Prop:=True
def bB(o:du)(x:List ay):List C:=[.s o (x.map (ay.enc o))]
def BP(x:List ay):d8 (bB .own x)=bB .U x:=by simp[d8,bB,ay.enc_fz,<-ch,I5]
def GS(x:List ay):Prop:=x.length<=9223372036854775807/\∀y∈x,ay.wf y
def de(x:List ay):Prop:=x.length<=1048576/\∀y∈x,ay.sml y
structure bF where
 Id:Int
 X:Int
 d:Int
 a4:Int
deriving DecidableEq,Inhabited
def bF.enc(o:du)(x:bF):List C:=[I x.Id,I x.X,I x.d,I x.a4]
def bF.enc_fz(x:bF):d8 (bF.enc .own x)=bF.enc .U x:=by simp[d8,bF.enc]
def bF.enc_fr(x:bF):gn (bF.enc .own x):=⟨trivial,trivial,trivial,trivial,trivial⟩
def bF.wf(x:bF):Prop:=jF x.Id/\jF x.X/\jF x.d/\jF x.a4
def bF.sml(_:bF):Prop:=True
def m8(o:du)(x:List bF):List C:=[.s o (x.map (bF.enc o))]
def Jl(x:List bF):d8 (m8 .own x)=m8 .U x:=by simp[d8,m8,bF.enc_fz,<-ch,I5]
def Mb(x:List bF):Prop:=x.length<=9223372036854775807/\∀y∈x,bF.wf y
def Lr(x:List bF):Prop:=x.length<=1048576/\∀y∈x,bF.sml y
structure aA where
 Z:List (List Int)
deriving DecidableEq,Inhabited
def aA.enc(o:du)(x:aA):List C:=[.s o (x.Z.map (aF o))]
def aA.enc_fz(x:aA):d8 (aA.enc .own x)=aA.enc .U x:=by simp[d8,aA.enc,dY,<-ch,I5]
theorem aA.enc_fr(x:aA):gn (aA.enc .own x):=⟨⟨.inl ψ,aX _ _ λy _=>bN y⟩,trivial⟩
def aA.wf(x:aA):Prop:=Ad x.Z
def aA.sml(x:aA):Prop:=w5 x.Z
def nB(o:du)(x:List aA):List C:=[.s o (x.map (aA.enc o))]
def H6(x:List aA):Prop:=x.length<=9223372036854775807/\∀y∈x,aA.wf y
def FM(x:List aA):Prop:=x.length<=1048576/\∀y∈x,aA.sml y
structure dl where
 To:Int
 X:Int
deriving DecidableEq,Inhabited
def dl.enc(o:du)(x:dl):List C:=[I x.To,I x.X]
def dl.enc_fz(x:dl):d8 (dl.enc .own x)=dl.enc .U x:=by simp[d8,dl.enc]
def dl.enc_fr(x:dl):gn (dl.enc .own x):=⟨trivial,trivial,trivial⟩
def dl.wf(x:dl):Prop:=jF x.To/\jF x.X
def dl.sml(_:dl):Prop:=True
def cY(o:du)(x:List dl):List C:=[.s o (x.map (dl.enc o))]
def qe(x:List dl):d8 (cY .own x)=cY .U x:=by simp[d8,cY,dl.enc_fz,<-ch,I5]
theorem pH(x:List dl):gn (cY .own x):=⟨⟨.inl ψ,aX _ _ λy _=>dl.enc_fr y⟩,trivial⟩
def LH(x:List dl):Prop:=x.length<=9223372036854775807/\∀y∈x,dl.wf y
def HW(x:List dl):Prop:=x.length<=1048576/\∀y∈x,dl.sml y
def D9(o:du)(x:List (List dl)):List C:=[.s o (x.map (cY o))]
def Hx(x:List (List dl)):Prop:=x.length<=9223372036854775807/\∀y∈x,LH y
def Fo(x:List (List dl)):Prop:=x.length<=1048576/\∀y∈x,HW y
structure aI where
 T:List (List dl)
 u:List (List Int)
deriving DecidableEq,Inhabited
def aI.enc(o:du)(x:aI):List C:=[.s o (x.T.map (cY o)),.s o (x.u.map (aF o))]
def aI.enc_fz(x:aI):d8 (aI.enc .own x)=aI.enc .U x:=by simp[d8,aI.enc,qe,dY,<-ch,I5]
theorem aI.enc_fr(x:aI):gn (aI.enc .own x):=⟨⟨.inl ψ,aX _ _ λy _=>pH y⟩,⟨.inl ψ,aX _ _ λy _=>bN y⟩,trivial⟩
def aI.wf(x:aI):Prop:=Hx x.T/\Ad x.u
def aI.sml(x:aI):Prop:=Fo x.T/\w5 x.u
structure aK where
 X:Int
 Y:Int
 c0:Int
deriving DecidableEq,Inhabited
def aK.enc(o:du)(x:aK):List C:=[I x.X,I x.Y,I x.c0]
def aK.enc_fz(x:aK):d8 (aK.enc .own x)=aK.enc .U x:=by simp[d8,aK.enc]
def aK.enc_fr(x:aK):gn (aK.enc .own x):=⟨trivial,trivial,trivial,trivial⟩
def aK.wf(x:aK):Prop:=jF x.X/\jF x.Y/\jF x.c0
def aK.sml(_:aK):Prop:=True
def cF(o:du)(x:List aK):List C:=[.s o (x.map (aK.enc o))]
def Df(x:List aK):d8 (cF .own x)=cF .U x:=by simp[d8,cF,aK.enc_fz,<-ch,I5]
theorem tl(x:List aK):gn (cF .own x):=⟨⟨.inl ψ,aX _ _ λy _=>aK.enc_fr y⟩,trivial⟩
def H7(x:List aK):Prop:=x.length<=9223372036854775807/\∀y∈x,aK.wf y
def kf(x:List aK):Prop:=x.length<=1048576/\∀y∈x,aK.sml y
structure bI where
 c2:Int
 y:List aK
deriving DecidableEq,Inhabited
def bI.enc(o:du)(x:bI):List C:=[I x.c2,.s o (x.y.map (aK.enc o))]
def bI.enc_fz(x:bI):d8 (bI.enc .own x)=bI.enc .U x:=by simp[d8,bI.enc,aK.enc_fz,<-ch,I5]
theorem bI.enc_fr(x:bI):gn (bI.enc .own x):=⟨trivial,⟨.inl ψ,aX _ _ λy _=>aK.enc_fr y⟩,trivial⟩
def bI.wf(x:bI):Prop:=jF x.c2/\H7 x.y
def bI.sml(x:bI):Prop:=kf x.y
structure cI where
 b2:Int
 b3:Int
 W:List Int
deriving DecidableEq,Inhabited
def cI.enc(o:du)(x:cI):List C:=[I x.b2,I x.b3,.s o (x.W.map (rI o))]
def cI.enc_fz(x:cI):d8 (cI.enc .own x)=cI.enc .U x:=by simp[d8,cI.enc,rI,<-ch,I5]
theorem cI.enc_fr(x:cI):gn (cI.enc .own x):=⟨trivial,trivial,⟨.inl ψ,aX _ _ λy _=>pn y⟩,trivial⟩
def cI.wf(x:cI):Prop:=jF x.b2/\jF x.b3/\iO x.W
def cI.sml(x:cI):Prop:=rJ x.W
structure cU where
 k:cI
 b7:Int
 a2:Int
deriving DecidableEq,Inhabited
def cU.enc(o:du)(x:cU):List C:=[I x.k.b2,I x.k.b3,.s o (x.k.W.map (rI o)),I x.b7,I x.a2]
def cU.enc_fz(x:cU):d8 (cU.enc .own x)=cU.enc .U x:=by simp[d8,cU.enc,rI,<-ch,I5]
theorem cU.enc_fr(x:cU):gn (cU.enc .own x):=⟨trivial,trivial,⟨.inl ψ,aX _ _ λy _=>pn y⟩,trivial,trivial,trivial⟩
def cU.wf(x:cU):Prop:=cI.wf x.k/\jF x.b7/\jF x.a2
def cU.sml(x:cU):Prop:=cI.sml x.k
structure ac where
 M:af
 o:List a8
 H:List ar
 J:List ay
 O:List bF
 R:List aA
 b:aI
 a0:bI
 c1:Int
 b5:Int
 c5:Int
 a2:Int
 b0:Bool
 b1:cU
deriving DecidableEq,Inhabited
def ac.enc(o:du)(x:ac):List C:=[.s o (x.M.G.V.W.map (aF o)),.s o (x.M.G.V.a1.map (rB o)),.s o (x.M.G.S.K.map (bi.enc o)),I x.M.q,.s o (x.M.e.map (rI o)),.s o (x.o.map (a8.enc o)),.s o (x.H.map (ar.enc o)),.s o (x.J.map (ay.enc o)),.s o (x.O.map (bF.enc o)),.s o (x.R.map (aA.enc o)),.s o (x.b.T.map (cY o)),.s o (x.b.u.map (aF o)),I x.a0.c2,.s o (x.a0.y.map (aK.enc o)),I x.c1,I x.b5,I x.c5,I x.a2,B x.b0,I x.b1.k.b2,I x.b1.k.b3,.s o (x.b1.k.W.map (rI o)),I x.b1.b7,I x.b1.a2]
def ac.enc_fz(x:ac):d8 (ac.enc .own x)=ac.enc .U x:=by simp[d8,ac.enc,aA.enc_fz,bi.enc_fz,ay.enc_fz,bF.enc_fz,a8.enc_fz,ar.enc_fz,aK.enc_fz,rB,qe,rI,dY,<-ch,I5]
theorem ac.enc_fr(x:ac):gn (ac.enc .own x):=⟨⟨.inl ψ,aX _ _ λy _=>bN y⟩,⟨.inl ψ,aX _ _ λy _=>Di y⟩,⟨.inl ψ,aX _ _ λy _=>bi.enc_fr y⟩,trivial,⟨.inl ψ,aX _ _ λy _=>pn y⟩,⟨.inl ψ,aX _ _ λy _=>a8.enc_fr y⟩,⟨.inl ψ,aX _ _ λy _=>ar.enc_fr y⟩,⟨.inl ψ,aX _ _ λy _=>ay.enc_fr y⟩,⟨.inl ψ,aX _ _ λy _=>bF.enc_fr y⟩,⟨.inl ψ,aX _ _ λy _=>aA.enc_fr y⟩,⟨.inl ψ,aX _ _ λy _=>pH y⟩,⟨.inl ψ,aX _ _ λy _=>bN y⟩,trivial,⟨.inl ψ,aX _ _ λy _=>aK.enc_fr y⟩,trivial,trivial,trivial,trivial,trivial,trivial,trivial,⟨.inl ψ,aX _ _ λy _=>pn y⟩,trivial,trivial,trivial⟩
def ac.wf(x:ac):Prop:=af.wf x.M/\Hn x.o/\Lk x.H/\GS x.J/\Mb x.O/\H6 x.R/\aI.wf x.b/\bI.wf x.a0/\jF x.c1/\jF x.b5/\jF x.c5/\jF x.a2/\QL x.b0/\cU.wf x.b1
def ac.sml(x:ac):Prop:=af.sml x.M/\iQ x.o/\dm x.H/\de x.J/\Lr x.O/\FM x.R/\aI.sml x.b/\bI.sml x.a0/\cU.sml x.b1
structure iR where
 b6:Int
 c7:Int
 e3:Int
 d1:Int
deriving DecidableEq,Inhabited
def iR.enc(o:du)(x:iR):List C:=[I x.b6,I x.c7,I x.e3,I x.d1]
def iR.enc_fr(x:iR):gn (iR.enc .own x):=⟨trivial,trivial,trivial,trivial,trivial⟩
structure QN where
 Id:Int
 d:Int
 Sum:Int
deriving DecidableEq,Inhabited
structure bD where
 Id:Int
 W:List Int
deriving DecidableEq,Inhabited
def bD.enc(o:du)(x:bD):List C:=[I x.Id,.s o (x.W.map (rI o))]
def bD.enc_fz(x:bD):d8 (bD.enc .own x)=bD.enc .U x:=by simp[d8,bD.enc,rI,<-ch,I5]
theorem bD.enc_fr(x:bD):gn (bD.enc .own x):=⟨trivial,⟨.inl ψ,aX _ _ λy _=>pn y⟩,trivial⟩
def bD.sml(x:bD):Prop:=rJ x.W
def B6(x:List bD):Prop:=x.length<=1048576/\∀y∈x,bD.sml y
structure ax where
 a2:Int
 O:List bD
deriving DecidableEq,Inhabited
def ax.enc(o:du)(x:ax):List C:=[I x.a2,.s o (x.O.map (bD.enc o))]
def ax.enc_fz(x:ax):d8 (ax.enc .own x)=ax.enc .U x:=by simp[d8,ax.enc,bD.enc_fz,<-ch,I5]
def CY:type_of% @ax.enc_fz:=@ax.enc_fz
theorem ax.enc_fr(x:ax):gn (ax.enc .own x):=⟨trivial,⟨.inl ψ,aX _ _ λy _=>bD.enc_fr y⟩,trivial⟩
def ax.sml(x:ax):Prop:=B6 x.O
structure bG where
 a:ac
 c4:ax
deriving DecidableEq,Inhabited
def bG.enc(o:du)(x:bG):List C:=[.s o (x.a.M.G.V.W.map (aF o)),.s o (x.a.M.G.V.a1.map (rB o)),.s o (x.a.M.G.S.K.map (bi.enc o)),I x.a.M.q,.s o (x.a.M.e.map (rI o)),.s o (x.a.o.map (a8.enc o)),.s o (x.a.H.map (ar.enc o)),.s o (x.a.J.map (ay.enc o)),.s o (x.a.O.map (bF.enc o)),.s o (x.a.R.map (aA.enc o)),.s o (x.a.b.T.map (cY o)),.s o (x.a.b.u.map (aF o)),I x.a.a0.c2,.s o (x.a.a0.y.map (aK.enc o)),I x.a.c1,I x.a.b5,I x.a.c5,I x.a.a2,B x.a.b0,I x.a.b1.k.b2,I x.a.b1.k.b3,.s o (x.a.b1.k.W.map (rI o)),I x.a.b1.b7,I x.a.b1.a2,I x.c4.a2,.s o (x.c4.O.map (bD.enc o))]
theorem bG.enc_fr(x:bG):gn (bG.enc .own x):=⟨⟨.inl ψ,aX _ _ λy _=>bN y⟩,⟨.inl ψ,aX _ _ λy _=>Di y⟩,⟨.inl ψ,aX _ _ λy _=>bi.enc_fr y⟩,trivial,⟨.inl ψ,aX _ _ λy _=>pn y⟩,⟨.inl ψ,aX _ _ λy _=>a8.enc_fr y⟩,⟨.inl ψ,aX _ _ λy _=>ar.enc_fr y⟩,⟨.inl ψ,aX _ _ λy _=>ay.enc_fr y⟩,⟨.inl ψ,aX _ _ λy _=>bF.enc_fr y⟩,⟨.inl ψ,aX _ _ λy _=>aA.enc_fr y⟩,⟨.inl ψ,aX _ _ λy _=>pH y⟩,⟨.inl ψ,aX _ _ λy _=>bN y⟩,trivial,⟨.inl ψ,aX _ _ λy _=>aK.enc_fr y⟩,trivial,trivial,trivial,trivial,trivial,trivial,trivial,⟨.inl ψ,aX _ _ λy _=>pn y⟩,trivial,trivial,trivial,⟨.inl ψ,aX _ _ λy _=>bD.enc_fr y⟩,trivial⟩
structure bZ where
 a3:Int
 c9:Int
 V:Int
 e1:Int
 e2:Int
 c8:Int
 c6:Int
 d0:Int
deriving DecidableEq,Inhabited
def bZ.enc(o:du)(x:bZ):List C:=[I x.a3,I x.c9,I x.V,I x.e1,I x.e2,I x.c8,I x.c6,I x.d0]
def bZ.enc_fz(x:bZ):d8 (bZ.enc .own x)=bZ.enc .U x:=by simp[d8,bZ.enc]
def bZ.enc_fr(x:bZ):gn (bZ.enc .own x):=⟨trivial,trivial,trivial,trivial,trivial,trivial,trivial,trivial,trivial⟩
def Lm{α β:Type}{f:α->β}{l:List α}{K:Nat->Prop}(h:K l.length):Ln (l.map f).length K:=Ln.mk (X0 ..) h
def Wm{z:Int}{K:Int->Prop}(h : -9223372036854775808<=z/\z<=9223372036854775807)(a:K z):Wr .i64 z K:=CK (ed h.1 h.2) a
def dT{p:Prop}[Decidable p]{X Y:Prop}(h:p)(a:p->X):Bf (decide p) X Y:=.D a λe=>absurd h e
def dF{p:Prop}[Decidable p]{X Y:Prop}(h:¬p)(a:¬p->Y):Bf (decide p) X Y:=.D (λe=>absurd e h) a
def nT{a b:Int}{X Y:Prop}(h:a≠b)(c:a≠b->X):Bf (a != b) X Y:=.N c λe=>absurd e h
def nF{a b:Int}{X Y:Prop}(h:a=b)(c:a=b->Y):Bf (a != b) X Y:=.N (λe=>absurd h e) c
def eT{a b:Int}{X Y:Prop}(h:a=b)(c:a=b->X):Bf (a == b) X Y:=.E c λe=>absurd h e
def eF{a b:Int}{X Y:Prop}(h:a≠b)(c:a≠b->Y):Bf (a == b) X Y:=.E (λe=>absurd e h) c
def Bn{b:Bool}{X Y:Prop}(h:Bf b Y X):Bf (!b) X Y:=.not h
def Bt{X Y:Prop}(h:X):Bf true X Y:=.t rfl h
def Bu{X Y:Prop}(h:Y):Bf false X Y:=.f rfl h
def Fm{k b:Kd}{cs a:List C}(h1:k=b)(h:cs=a):jK k b cs a:=.mk h1 h
def dV{p:Prop}[Decidable p]{X Y:Prop}(h:p)(a:X):Bf (decide p) X Y:=.D (λ_=>a) λe=>absurd h e
def dW{p:Prop}[Decidable p]{X Y:Prop}(h:¬p)(a:Y):Bf (decide p) X Y:=.D (λe=>absurd e h) λ_=>a
def nV{a b:Int}{X Y:Prop}(h:a≠b)(c:X):Bf (a != b) X Y:=.N (λ_=>c) λe=>absurd e h
def nW{a b:Int}{X Y:Prop}(h:a=b)(c:Y):Bf (a != b) X Y:=.N (λe=>absurd h e) λ_=>c
def eV{a b:Int}{X Y:Prop}(h:a=b)(c:X):Bf (a == b) X Y:=.E (λ_=>c) λe=>absurd h e
def eW{a b:Int}{X Y:Prop}(h:a≠b)(c:Y):Bf (a == b) X Y:=.E (λe=>absurd e h) λ_=>c
structure Jc(Y:Prop):Prop where
 out:Y
def gO{X Y:Prop}(y:Y)(h:Jc Y->X:=by intro y;(conv=>whnf);(first|with_reducible (first|refine Lm ?_|refine Wm ω ?_|refine Bn ?_|refine Fm rfl ?_)|refine Bt ?_|refine Bu ?_|fail);exact y.out):X:=h ⟨y⟩
def gP{X Y:Prop}(y:Y)(h:Jc Y->X:=by intro y;(conv=>whnf);(first|with_reducible (first|refine Lm ?_|refine Wm ω ?_|refine Bn ?_|refine Fm rfl ?_)|refine Bt ?_|refine Bu ?_|refine C7 (by assumption) ?_|refine CA (aa (by assumption)) ?_|refine CG rfl (aa (by assumption)) rfl ?_|refine C8 ?_|fail);exact y.out):X:=h ⟨y⟩
def gD{X Y:Prop}(y:Y)(h:Jc Y->X:=by intro y;(conv=>whnf);(first|with_reducible (first|refine Lm ?_|refine Wm ω ?_|refine dV ω ?_|refine dW ω ?_|refine Bn ?_|refine Fm rfl ?_)|refine Bt ?_|refine Bu ?_|fail);exact y.out):X:=h ⟨y⟩
def gE{X Y:Prop}(y:Y)(h:Jc Y->X:=by intro y;(conv=>whnf);(first|with_reducible (first|refine Lm ?_|refine Wm ω ?_|refine dV ω ?_|refine dW ω ?_|refine Bn ?_|refine Fm rfl ?_)|refine Bt ?_|refine Bu ?_|refine C7 (by assumption) ?_|refine CA (aa (by assumption)) ?_|refine CG rfl (aa (by assumption)) rfl ?_|refine C8 ?_|fail);exact y.out):X:=h ⟨y⟩
def gA{X Y:Prop}(y:Y)(h:Jc Y->X:=by intro y;(conv=>whnf);(first|with_reducible (first|refine Lm ?_|refine Wm ω ?_|refine dV ω ?_|refine dW ω ?_|refine nV ω ?_|refine nW ω ?_|refine eV ω ?_|refine eW ω ?_|refine Bn ?_|refine Fm rfl ?_)|refine Bt ?_|refine Bu ?_|fail);exact y.out):X:=h ⟨y⟩
def gB{X Y:Prop}(y:Y)(h:Jc Y->X:=by intro y;(conv=>whnf);(first|with_reducible (first|refine Lm ?_|refine Wm ω ?_|refine dV ω ?_|refine dW ω ?_|refine nV ω ?_|refine nW ω ?_|refine eV ω ?_|refine eW ω ?_|refine Bn ?_|refine Fm rfl ?_)|refine Bt ?_|refine Bu ?_|refine C7 (by assumption) ?_|refine CA (aa (by assumption)) ?_|refine CG rfl (aa (by assumption)) rfl ?_|refine C8 ?_|fail);exact y.out):X:=h ⟨y⟩
def Qa{z1 z2:Int}(h:z1=z2):Nj (I z1) (I z2):=by subst h;rfl
def Q8(c:C):Nj c c:=(lS [c]).1
def wA{X:Prop}(h:X:=by repeat'(first|exact trivial|rfl|refine CI ?_ ?_)):X:=h
def wB{X:Prop}(h:X:=by repeat'(first|exact trivial|rfl|refine CI ?_ ?_|(exact Qa (by first|omega|(simp only;omega)|(simp;omega))))):X:=h
def wC{X:Prop}(h:X:=by repeat'(first|exact trivial|rfl|exact Q8 _|refine CI ?_ ?_|(exact Qa (by first|omega|(simp only;omega)|(simp;omega))))):X:=h
def fO(n : Nat){f : Nat}{a : Func}{c : Code}{sh : Bool}{A : List RA}{k : Kd}{rcs : List C}(tb : List (Nat × Nat × List Nat))(d : Tryz.prog.funcs[f]? = some a)(e : a.body = some c)(g : aw Tryz.prog TE ⟨n, [], []⟩ (DF Tryz.prog TE ⟨n, [], []⟩ tb) c (MF TE a.results.toList k rcs) (lay (uk 0 A)))(b : sh = true \/ gn rcs := by exact .inr ⟨trivial, trivial⟩)(h : (a.name == "runtime.NumGoroutine") = false := by kernel_rfl)(i : f8 (mj tb) c = true := by kernel_rfl)(j : A.length + (a.ntmps - A.length) = n := by rfl) : ao Tryz.prog f sh A k rcs := Qx d h e i j b g
def fP(n : Nat){f : Nat}{a : Func}{c : Code}{sh : Bool}{A : List RA}{k : Kd}{rcs : List C}(mo : List (Nat × List Nat))(tb : List (Nat × Nat × List Nat))(d : Tryz.prog.funcs[f]? = some a)(e : a.body = some c)(g : aw Tryz.prog TE ⟨n, [], mo⟩ (DF Tryz.prog TE ⟨n, [], mo⟩ tb) c (MF TE a.results.toList k rcs) (lay (uk 0 A)))(b : sh = true \/ gn rcs := by exact .inr ⟨trivial, trivial⟩)(h : (a.name == "runtime.NumGoroutine") = false := by kernel_rfl)(i : f8 (mj tb) c = true := by kernel_rfl)(j : A.length + (a.ntmps - A.length) = n := by rfl) : ao Tryz.prog f sh A k rcs := Qx d h e i j b g
def fM(n : Nat){f : Nat}{a : Func}{c : Code}{sh : Bool}{A B : List MA}{k : Kd}{rcs : List C}(mo : List (Nat × List Nat))(tb : List (Nat × Nat × List Nat))(b : List (Nat × Nat))(g : Tryz.prog.funcs[f]? = some a)(h : a.body = some c)(i : ∀(u : Nat -> Nat -> Value)(p : Nat -> Value), aw Tryz.prog TE ⟨n, GI p 0 A, mo⟩ (DF Tryz.prog TE ⟨n, GI p 0 A, mo⟩ tb) c (PB TE a.results.toList k rcs u A B b) (lay (vQ u 0 A)))(d : sh = true \/ gn rcs := by exact .inr ⟨trivial, trivial⟩)(j : (a.name == "runtime.NumGoroutine") = false := by kernel_rfl)(l : f8 (mj tb) c = true := by kernel_rfl)(o : A.length + (a.ntmps - A.length) = n := by rfl)(e : EL (Db 0 A b) = true := by rfl) : aP Tryz.prog f sh A B k rcs := Qe b g j h l o e d i
section
variable{α:Type}{l:List α}{p:α->Bool}{i:Nat}{x:α}
theorem cE(h:l[i]? = some x)(a:(l.take i).all p=true)(b:p x=true):(l.take (i+1)).all p=true:=by grind [Y4]
theorem fT(h:l[i]? = some x)(a:p x=false):l.all p=false:=ψ
theorem mU(a:l.length<=i)(b:(l.take i).all p=true):l.all p=true:=by grind [O6]
end
theorem uJ{α β:Type}{a:List α}{b:List β}{i:Nat}{x:α}{y:β}(h1:a[i]? = some x)(c:b[i]? = some y):(a.zip b)[i]? = some (x,y):=ψ
def nth{α:Type}[Inhabited α](xs:List α)(i:Nat):α:=xs.getD i default
theorem ah{α:Type}[Inhabited α]{xs:List α}{i:Nat}(h:i<xs.length):xs[i]? = some (nth xs i):=by grind [nth]
theorem bm{α:Type}[Inhabited α]{xs:List α}{i:Nat}{y:α}(h:xs[i]? = some y):nth xs i=y:=by grind [nth]
theorem am{α:Type}[Inhabited α]{xs:List α}{i:Nat}(h:i<xs.length):nth xs i∈xs:=U1 (ah h)
def cV(n:Nat)(p:Nat->Bool):Bool:=(List.range n).all p
theorem cm{n:Nat}{p:Nat->Bool} : cV n p=true↔∀j,j<n->p j=true:=by
 unfold cV;simp
theorem bJ{n:Nat}{p:Nat->Bool}(h:cV n p=true)(a:p n=true):cV (n+1) p=true:=by grind [cm]
theorem cn{n i:Nat}{p:Nat->Bool}(a:i<n)(b:p i=false):cV n p=false:=by grind [cm]
theorem dP{n i:Nat}{p:Nat->Bool}(h:cV n p=true)(a:i<n):p i=true:=cm.1 h i a
def iC(u:Bool)(v:Int):Bool:=decide (0<=v/\v<=999)&&(u || decide (v=0))
def gY(r:List Int)(u:Bool):Bool:=decide (r.length=16)&&r.all (iC u)
def cG(f:aU):Bool:=decide (1<=f.W.length/\f.W.length<=32)&&(decide (f.a1.length=f.W.length)&&(f.W.zip f.a1).all λq=>gY q.1 q.2)
def hJ{f:aU}{i:Nat}{r:List Int}{u:Bool}(h1:f.W[i]? = some r)(a:f.a1[i]? = some u)(b:gY r u=false):cG f=false:=by
 unfold cG;rw[fT (p:=λq=>gY q.1 q.2) (uJ h1 a) b];simp
theorem rk{r:List Int}{u:Bool}{k:Nat}{v:Int}(h1:r[k]? = some v)(a:iC u v=false):gY r u=false:=by grind [gY]
theorem zL{f:aU}(h:cG f=true):1<=f.W.length/\f.W.length<=32/\f.a1.length=f.W.length:=by grind [cG]
def kM(a:Int)(e:bi):Bool:=decide (0<=e.w/\e.w<=2/\(e.w=0->e.j=0)/\(e.w≠0->0<=e.j/\e.j<a))
def fF(t:aG)(a:Int):Bool:=cV t.K.length (λi=>kM a (nth t.K i))&&decide (1<=t.K.length/\t.K.length<=32)
def LB(t:aG)(f:Int)(i:Nat):Bool:=decide ((nth t.K i).w≠0/\(nth t.K i).j=f)
def jg(t:aG)(f:Int)(n:Nat):List Int:=((List.range n).filter (LB t f)).map λ(i:Nat)=>(i:Int)
def pagesOn(t:aG)(f:Int):List Int:=jg t f t.K.length
theorem y4{t:aG}{f:Int}{n:Nat}(h:LB t f n=true):jg t f (n+1)=jg t f n++[(n:Int)]:=by grind [List.range_succ,jg]
theorem DB{t:aG}{f:Int}{n:Nat}(h:LB t f n=false):jg t f (n+1)=jg t f n:=by grind [List.range_succ,jg]
theorem rP(t:aG)(f:Int)(n:Nat):(jg t f n).length<=n:=by grind [jg]
def au(t:aG)(p:Int):bi:=if 0<=p/\p<t.K.length then nth t.K p.toNat else⟨0,0⟩
def nZ(m:aS)(i:Nat):Bool:=nth m.V.a1 i == decide (0<(pagesOn m.S (i:Int)).length)
def dv(m:aS):Bool:=(cG m.V&&fF m.S m.V.a1.length)&&cV m.V.a1.length (nZ m)
def aC(k:af):Bool:=(cV k.e.length (λi=>decide (0<=nth k.e i))&&dv k.G)&&decide (0<=k.q/\k.q<=100000/\k.e.length<=40)
def rangeIn(pages:Int)(r:a8):Bool:=decide (1<=r.a5/\r.a5<=pages/\0<=r.At/\r.At<=pages - r.a5)
def fD(pages:Int)(xs:List a8)(i:Nat):Bool:=rangeIn pages (nth xs i)&&decide (i=0\/(nth xs (i - 1)).At+(nth xs (i - 1)).a5<(nth xs i).At)
def bw(pages:Int)(xs:List a8):Bool:=cV xs.length (fD pages xs)&&decide (1<=pages/\pages<=32)
def tU(page:Int)(r:a8):Bool:=decide (r.At<=page)&&decide (page<IntKind.i64.wrap (r.At+r.a5))
def lim(k:Int):Int:=if k=0 then 65535 else if k=1 then 255 else if k=2 then 15 else if k=3 then 3 else 0
def slots(k:Int):Int:=if k=0 then 16 else if k=1 then 8 else if k=2 then 4 else if k=3 then 2 else 0
def aT(s:ar):Bool:=decide (0<=s.Q/\s.Q<=31/\0<=s.Y/\s.Y<=3/\0<=s.a6/\s.a6<=lim s.Y)
def eK(n:Int):Int:=if 9<=n/\n<=1000 then(n+15) / 16 else 0
def bP(l:ay):Bool:=decide (9<=l.d/\l.d<=1000/\l.a3=(l.d+15) / 16/\0<=l.Q/\l.Q<=32 - l.a3)
def lpgs(l:ay)(n:Nat):List Int:=(List.range n).map λ(i:Nat)=>l.Q+i
def pgs(sp:List ar)(la:List ay):List Int:=sp.map (·.Q)++la.flatMap λl=>lpgs l l.a3.toNat
def bf(sp:List ar)(la:List ay):Bool:=(sp.all aT&&la.all bP)&&decide (pgs sp la).Nodup
def cL(s:ar)(a:Int):Bool:=aT s&&decide (16*s.Q<=a/\a<=16*s.Q+15)
def aQ(b i:Int):Bool:=decide (0<=b/\0<=i/\i<=15/\b / 2 ^ i.toNat % 2=1)
def bx(l:ay)(a:Int):Bool:=bP l&&decide (16*l.Q<=a/\a<=16*l.Q+l.d - 1)
def csz(k:Int):Int:=if 0<=k/\k<=3 then 2 ^ k.toNat else 0
def iz(s:ar)(a:Int):Int × Int:=if cL s a then((a - 16*s.Q) / csz s.Y,(a - 16*s.Q) % csz s.Y) else(-1,-1)
def nu(i:Nat)(s:ar)(a:Int):iR:=⟨if aQ s.a6 ((a - 16*s.Q) / csz s.Y) then 1 else 2,i,(a - 16*s.Q) / csz s.Y,(a - 16*s.Q) % csz s.Y⟩
def denotes(sp:List ar)(la:List ay)(a:Int):iR:=
 match sp.findIdx? (cL · a) with
 | some i=>nu i (nth sp i) a
 | none=>match la.findIdx? (bx · a) with
  | some i=>⟨3,i,0,a - 16*(nth la i).Q⟩
  | none=>⟨0,0,0,0⟩
theorem uM{α:Type}{pr:α->Bool}{xs:List α}{i:Nat}{y:α}(a:xs[i]? = some y)(b:pr y=true)(c:∀(j:Nat)(z:α),j<i->xs[j]? = some z->pr z=false):xs.findIdx? pr=some i:=by grind [I6]
theorem AA{α:Type}{pr:α->Bool}{xs:List α}{i:Nat}(a:xs.length<=i)(b:∀(j:Nat)(z:α),j<i->xs[j]? = some z->pr z=false):xs.findIdx? pr=none:=
 List.findIdx?_eq_none_iff.2 λz c=>by grind [List.mem_iff_getElem?]
theorem fL{α:Type}{pr:α->Bool}{xs:List α}{i:Nat}{y:α}(a:xs[i]? = some y)(b:pr y=false)(c:∀(j:Nat)(z:α),j<i->xs[j]? = some z->pr z=false):∀(j:Nat)(z:α),j<i+1->xs[j]? = some z->pr z=false:=ψ
def d7{α:Type}(pr:α->Bool)(xs:List α):Int:=match xs.findIdx? pr with|some i=>(i:Nat)|none=>-1
theorem dX{α:Type}{pr:α->Bool}{xs:List α}{i:Nat}{y:α}(a:xs[i]? = some y)(b:pr y=true)(c:∀(j:Nat)(z:α),j<i->xs[j]? = some z->pr z=false):d7 pr xs=(i:Nat):=by
 unfold d7;rw[uM a b c]
theorem fS{α:Type}{pr:α->Bool}{xs:List α}{i:Nat}(a:xs.length<=i)(b:∀(j:Nat)(z:α),j<i->xs[j]? = some z->pr z=false):d7 pr xs = -1:=by grind [AA,d7]
theorem oK{α:Type}(pr:α->Bool)(xs:List α):decide (d7 pr xs≥0)=xs.any pr:=by grind [d7]
def meshable(s t:ar):Bool:=(aT s&&aT t)&&decide (s.Y=t.Y/\s.Q≠t.Q/\s.a6.toNat &&& t.a6.toNat=0)
def mL(n:Int)(p:dl):Bool:=decide (0<=p.To/\p.To<=n - 1/\0<=p.X)
def Nb(z:Int):Bool:=decide (0<=z)
def fW(m:aI)(i:Nat):Bool:=(nth m.T i).all (mL m.T.length)&&(nth m.u i).all Nb
def bo(m:aI):Nat->Int
 | 0=>0
 | i+1=>bo m i+((nth m.T i).length+(nth m.u i).length)
def b9(m:aI):Bool:=(decide (1<=m.T.length/\m.T.length<=4/\m.u.length=m.T.length)&&cV m.T.length (fW m))&&decide (bo m m.T.length<=30)
def a9(m:aI):List Int:=if b9 m then(m.T.flatMap λl=>l.map (·.X))++m.u.flatten else []
def dL(a:Int)(y:aK):Bool:=decide (y.X=a)
def iX(xs:List aK)(i:Nat):Bool:=decide (0<=(nth xs i).Y/\(nth xs i).Y<=3/\0<=(nth xs i).X/\0<=(nth xs i).c0/\(i=0\/(nth xs (i - 1)).c0<=(nth xs i).c0))&&!(xs.take i).any (dL (nth xs i).X)
def quarCells(xs:List aK):Nat->Int
 | 0=>0
 | i+1=>quarCells xs i+csz (nth xs i).Y
def eP(q:bI):Bool:=cV q.y.length (iX q.y)&&decide (0<=q.c2/\q.c2<=500/\quarCells q.y q.y.length<=q.c2)
def mT(xs:List Int)(i:Nat):Bool:=decide (0<=nth xs i/\nth xs i<=15/\(i=0\/nth xs (i - 1)<nth xs i))
def eI(p:cI):Bool:=cV p.W.length (mT p.W)&&decide (0<=p.b2/\p.b2<=31/\0<=p.b3/\p.b3<=31/\p.b2≠p.b3)
def jj(j:cU):Bool:=eI j.k&&decide (0<=j.b7/\j.b7<=5/\0<=j.a2/\j.a2<=j.k.W.length)
def qF(j:cU):Bool:=decide (j.k.b2=0/\j.k.b3=0/\j.k.W.length=0/\j.b7=0/\j.a2=0)
def aH(h:ac)(p:Int):List Int:=if(au h.M.G.S p).w=0 then [] else pagesOn h.M.G.S (au h.M.G.S p).j
def kn(p:Int)(s:ar):Bool:=decide (s.Q=p)
def dN(h:ac)(p:Int):Int:=d7 (kn p) h.H
def aJ(n:Int):Int:=if n<1 then -1 else if n<=1 then 0 else if n<=2 then 1 else if n<=4 then 2 else if n<=8 then 3 else -1
set_option maxRecDepth 20000
set_option maxHeartbeats 2000000
def aE(n lo a:Int):ao Tryz.prog 92 false [.val none [I n],.val none [I lo],.val none [I a]] .one [B (decide (lo<=n/\n<=a))]:=by
 refine fO 15 [] Tryz.func92 rfl ?_
 repeat'(first|refine gP ?_|(conv=>whnf);first|with_reducible refine Bf.D (λb=>?_) (λb=>?_))
 all_goals exact U0 (λz=>[B z]) (by simp;try omega)
def aL(n lo a:Int):ao Tryz.prog 42 false [.val none [I n],.val none [I lo],.val none [I a]] .one [B (decide (lo<=n/\n<=a))]:=by
 refine fO 15 [] Tryz.func42 rfl ?_
 repeat'(first|refine gP ?_|(conv=>whnf);first|with_reducible refine Bf.D (λb=>?_) (λb=>?_))
 all_goals exact U0 (λz=>[B z]) (by simp;try omega)
def fj(k:Int):ao Tryz.prog 53 false [.val none [I k]] .one [B (decide (0<=k/\k<=3))]:=by
 refine fO 5 [] Tryz.func53 rfl ?_
 repeat'(first|refine gP ?_|(conv=>whnf);first|refine C7 (aL k 0 3) ?_)
 rfl
theorem cA(k:Int):ao Tryz.prog 22 false [.val none [I k]] .one [I (csz k)]:=by
 by_cases b:0<=k/\k<=3
 ·obtain rfl|rfl|rfl|rfl:k=0\/k=1\/k=2\/k=3:=ω
  all_goals
   refine fO 8 [] Tryz.func22 rfl ?_
   repeat'(first|refine gE ?_|(conv=>whnf);first|with_reducible refine Bf.D (λa=>?_) (λa=>?_)|refine C7 (fj _) ?_|refine CM (by decide) ?_|refine CK rfl ?_)
   exact U0 (λz=>[I z]) (by decide)
 refine fO 8 [] Tryz.func22 rfl ?_
 repeat'(first|refine gE ?_|(conv=>whnf);first|with_reducible refine Bf.D (λa=>?_) (λa=>?_)|refine C7 (fj _) ?_)
 exact U0 (λz=>[I z]) (by grind [csz])
theorem bV(k:Int):ao Tryz.prog 179 false [.val none [I k]] .one [I (csz k)]:=by
 by_cases b:0<=k/\k<=3
 ·obtain rfl|rfl|rfl|rfl:k=0\/k=1\/k=2\/k=3:=ω
  all_goals
   refine fO 9 [] Tryz.func179 rfl ?_
   repeat'(first|refine gE ?_|(conv=>whnf);first|with_reducible refine Bf.D (λa=>?_) (λa=>?_)|refine C7 (aE _ 0 3) ?_|refine CM (by decide) ?_|refine CK rfl ?_)
   exact U0 (λz=>[I z]) (by decide)
 refine fO 9 [] Tryz.func179 rfl ?_
 repeat'(first|refine gE ?_|(conv=>whnf);first|with_reducible refine Bf.D (λa=>?_) (λa=>?_)|refine C7 (aE _ 0 3) ?_)
 exact U0 (λz=>[I z]) (by grind [csz])
theorem lW(xs:List Int)(a:Int)(h:xs.length<=9223372036854775807):ao Tryz.prog 196 false [.val none (aF .U xs),.val none [I a]] .one [B (decide (a∈xs))]:=by
 refine fO 18 [] Tryz.func196 rfl ?_
 repeat'(first|refine gP ?_|fail)
 (conv=>whnf)
 refine CE (ι:=Nat) (λi=>[(0,.F .one (aF .U xs)),(1,.F .one [I a]),(5,.F .one [I (i:Nat)])]) (λi=>i<=xs.length/\a∉xs.take i) (λi=>xs.length - i) 0 ?_ ψ λi c=>?_
 ·exact wB
 obtain⟨c,d⟩:=c;by_cases b:i<xs.length
 ·obtain⟨y,e⟩ : ∃y,xs[i]? = some y:=⟨_,W1 b⟩
  repeat'(first|refine gE ?_|(conv=>whnf);first|with_reducible (first|refine CA (aa e) ?_|refine Bf.E (λg=>?_) (λg=>?_)))
  ·exact U0 (λz=>[B z]) ψ
  (conv=>whnf)
  refine CD (i+1) ⟨ω,?_⟩ ω ?_
  ·grind [Y4]
  exact wB
 repeat'(first|refine gE ?_|fail)
 rw[O6 ω]at d;exact U0 (λz=>[B z]) ψ
set_option maxHeartbeats 4000000
def good(k:Int)(s:List Int)(a:Int):Prop:=0<=a/\a<=511/\a.tmod (csz k)=0/\a∉s
instance (k:Int) (s:List Int) (a:Int):Decidable (good k s a):=by unfold good;exact inferInstance
def qY(k:Int):List Int->List Int->Option (List Int)
 | s,[]=>some s
 | s,a::l=>if good k s a then qY k (s++[a]) l else none
def eA(k:Nat)(s l:List Int):Option (List Int):=if l.length<=8/\k<=3 then qY k s l else none
def gf:Nat->List Int->List (List Int)->Option (List Int)
 | _,s,[]=>some s
 | k,s,l::ls=>(eA k s l).bind λa=>gf (k+1) a ls
def bj(c:aA):Bool:=decide (c.Z.length=4)&&(gf 0 [] c.Z).isSome
theorem pR(k:Int):∀(a s b:List Int),qY k s (a++b)=(qY k s a).bind λc=>qY k c b
 | [],s,b=>rfl
 | x::a,s,b=>by
  simp only[List.cons_append,qY];split
  ·exact pR k a _ b
  rfl
theorem o7:∀(a:List (List Int))(k:Nat)(s:List Int)(b:List (List Int)),gf k s (a++b)=(gf k s a).bind λc=>gf (k+a.length) c b
 | [],k,s,b=>rfl
 | l::a,k,s,b=>by
  simp only[List.cons_append,gf,Option.bind_assoc,List.length_cons]
  congr 1;funext c
  rw[o7 a (k+1) c b,show k+1+a.length=k+(a.length+1) by omega]
theorem Gb{k:Int}{l b s:List Int}{j:Nat}{a:Int}(c:l[j]? = some a)(h:qY k b (l.take j)=some s)(d:good k s a):qY k b (l.take (j+1))=some (s++[a]):=by grind [Y4,pR,qY]
theorem Kh{k:Nat}{l b s:List Int}{j:Nat}{a:Int}(c:l[j]? = some a)(h:qY k b (l.take j)=some s)(d:¬good k s a):eA k b l=none:=by
 unfold eA;split
 all_goals grind [List.drop_eq_getElem_cons,List.take_append_drop,pR,qY]
theorem AF{k:Int} : ∀{l s b:List Int},qY k s l=some b->b.length=s.length+l.length
 | [],s,b,h=>by grind [qY]
 | a::l,s,b,h=>by
  simp only[qY]at h;split at h
  ·have:=AF h;grind
  cases h
theorem sS{a:List (List Int)}{i:Nat}{l s:List Int}(b:a[i]? = some l)(h:gf 0 [] (a.take i)=some s):gf 0 [] (a.take (i+1))=eA i s l:=by
 have c:=(Z1.1 b).1;rw[Y4,b,Option.toList_some,o7,h];simp only[Option.bind_some,gf,C6,O1,Nat.min_eq_left (Nat.le_of_lt c)]
 grind
theorem kb{c:aA}{i:Nat}{l s:List Int}(a:c.Z[i]? = some l)(h:gf 0 [] (c.Z.take i)=some s)(b:eA i s l=none):bj c=false:=by
 have d:=sS a h
 grind [List.take_append_drop,o7,bj]
theorem BM:∀{b:List (List Int)}{k:Nat}{s a:List Int},gf k s b=some a->a.length<=s.length+8*b.length
 | [],k,s,a,h=>by grind [gf]
 | l::b,k,s,a,h=>by
  simp only[gf]at h;unfold eA at h;split at h
  ·cases c:qY k s l with
   | none=>grind
   | some d=>
    rw[c]at h;have e:=AF c;have f:=BM (show gf (k+1) d b=some a from h)
    grind
  cases h
def Kz{i:Nat}(h:i<=3):csz (i:Int)≠0:=by
 obtain rfl|rfl|rfl|rfl:i=0\/i=1\/i=2\/i=3:=ω
 all_goals decide
def cv{l:List Int} : ∀r∈l.map (rI .own),r.length=1:=by
 intro r a;obtain⟨z,-,rfl⟩:=X3.1 a;rfl
theorem gh(c:aA)(t:aA.sml c):ao Tryz.prog 139 false [.val (some 1) (aA.enc .U c)] .one [B (bj c)]:=by
 have G:=t.1;refine fO 60 [] Tryz.func139 rfl ?_
 repeat'(first|refine gP ?_|(conv=>whnf);first|with_reducible refine Bf.N (λe=>?_) (λe=>?_))
 ·exact U0 (λz=>[B z]) (by grind [bj])
 have H:c.Z.length=4:=ω
 (conv=>whnf)
 refine CE (ι:=Nat × List Int) (λi=>[(1,.F .box (aA.enc .U c)),(3,.F .one (aF .own i.2)),(4,.F .one [I (i.1:Nat)])]) (λi=>i.1<=4/\gf 0 [] (c.Z.take i.1)=some i.2) (λi=>4 - i.1) (0,[]) ?_ ⟨T0 _,rfl⟩ λi k=>?_
 ·exact wB
 obtain⟨i,s⟩:=i;obtain⟨k,b⟩:=k;simp only at k b |-;have g:=BM b;rw[O1]at g;simp only[List.length_nil]at g;by_cases u:i<4
 ·obtain⟨l,d⟩ : ∃l,c.Z[i]? = some l:=(ψ)
  have w:l.length<=1048576:=t.2 l ψ
  repeat'(first|refine gE ?_|(conv=>whnf);first|with_reducible (first|refine CA (aa d) ?_|refine Bf.D (λe=>?_) (λe=>?_)))
  ·exact U0 (λz=>[B z]) (kb d b (by grind [eA])).symm
  have E:l.length<=8:=ω
  (conv=>whnf)
  refine CE (ι:=Nat × List Int) (λj=>[(1,.F .box (aA.enc .U c)),(3,.F .one (aF .own j.2)),(4,.F .one [I (i:Nat)]),(5,.F .one [I (j.1:Nat)])]) (λj=>j.1<=l.length/\qY i s (l.take j.1)=some j.2) (λj=>l.length - j.1) (0,s) ?_ ⟨T0 _,rfl⟩ λj n=>?_
  ·exact wB
  obtain⟨j,o⟩:=j;obtain⟨n,a⟩:=n;simp only at n a |-;have h:=AF a;rw[O1]at h;by_cases p:j<l.length
  ·obtain⟨y,q⟩ : ∃y,l[j]? = some y:=⟨_,W1 p⟩
   repeat'(first|refine gE ?_|(conv=>whnf);first|with_reducible (first|refine CA (aa d) ?_|refine CA (aa q) ?_|refine Bf.D (λe=>?_) (λe=>?_)|refine Bf.N (λe=>?_) (λe=>?_))|refine C7 (aE y 0 511) ?_|refine C7 (bV (i:Nat)) ?_|refine CM (Kz ω) ?_|refine CS rfl ?_|refine CH (lW o y ω) ⟨⟨rfl,dY _⟩,⟨rfl,rfl⟩,trivial⟩ ?_|refine CN cv (λr F=>by rw[C1.1 F];rfl) (by simp[aW,dn]) (by simp;omega) (by simp only[X0];exact yb (by simp;omega) (by decide)) rfl ?_)
   all_goals first
    | exact U0 (λz=>[B z]) (kb d b (Kh q a λ⟨J,K,L,M⟩=>by first|contradiction|omega)).symm
    | ((conv=>whnf)
       refine CD (j+1,o++[y]) ⟨(by simp only;omega),Gb q a ⟨ω,ω,(by assumption),(by assumption)⟩⟩ (by simp only;omega) ?_
       (repeat'(first|exact trivial|rfl|exact CI rfl (CI (U0 (C.s du.own) (by simp[rI])) trivial)|refine CI ?_ ?_)))
  repeat'(first|refine gE ?_|(conv=>whnf);first|with_reducible refine CA (aa d) ?_)
  (conv=>whnf)
  rw[O6 ω]at a;refine CD (i+1,o) ⟨(by simp only;omega),(by rw[sS d b];grind [eA])⟩ (by simp only;omega) ?_;exact wB
 repeat'(first|refine gE ?_|fail)
 rw[O6 ω]at b;exact U0 (λz=>[B z]) (by grind [bj])
def eR(s:List Int):List (Int × Value):=s.map λa=>(a,.bool true)
theorem mW(a:Int):∀(s:List Int),mlook (eR s) a (.bool false)=.bool (decide (a∈s))
 | []=>by simp[eR,mlook]
 | x::s=>by
  have b:=mW a s
  grind [eR,mlook]
theorem sH{a:Int} : ∀{s:List Int},a∉s->eR (s++[a])=mput (eR s) a (.bool true)
 | [],_=>rfl
 | x::s,h=>by
  simp only[List.mem_cons,not_or]at h;have b:=sH h.2
  grind [eR,mput]
theorem md(c:aA)(p:aA.sml c):ao Tryz.prog 38 false [.val (some 1) (aA.enc .U c)] .one [B (bj c)]:=by
 have w:=p.1;refine fO 54 [] Tryz.func38 rfl ?_
 repeat'(first|refine gP ?_|fail)
 (conv=>whnf)
 refine CE (ι:=Nat × List Int) (λi=>[(1,.F .box (aA.enc .U c)),(3,.F .one [.m (eR i.2)]),(10,.F .one (ko .U c.Z)),(11,.F .one [I c.Z.length]),(12,.F .one [I (i.1:Nat)])]) (λi=>i.1<=c.Z.length/\gf 0 [] (c.Z.take i.1)=some i.2) (λi=>c.Z.length - i.1) (0,[]) ?_ ⟨T0 _,rfl⟩ λi g=>?_
 ·exact wB
 obtain⟨i,s⟩:=i;obtain⟨g,d⟩:=g;simp only at g d |-;by_cases q:i<c.Z.length
 ·obtain⟨l,b⟩ : ∃l,c.Z[i]? = some l:=(ψ)
  have r:l.length<=1048576:=p.2 l ψ
  repeat'(first|refine gE ?_|(conv=>whnf);first|with_reducible (first|refine CA (aa b) ?_|refine Bf.D (λe=>?_) (λe=>?_))|refine C7 (fj (i:Nat)) ?_)
  ·exact U0 (λz=>[B z]) (kb b d (by grind [eA])).symm
  rotate_left
  ·exact U0 (λz=>[B z]) (kb b d (by grind [eA])).symm
  have t:l.length<=8:=ω
  have u:i<=3:=ω
  (conv=>whnf)
  refine CE (ι:=Nat × List Int) (λj=>[(1,.F .box (aA.enc .U c)),(3,.F .one [.m (eR j.2)]),(4,.F .one [I (i:Nat)]),(10,.F .one (ko .U c.Z)),(11,.F .one [I c.Z.length]),(12,.F .one [I (i:Nat)]),(25,.F .one (aF .U l)),(26,.F .one [I l.length]),(27,.F .one [I (j.1:Nat)])]) (λj=>j.1<=l.length/\qY i s (l.take j.1)=some j.2) (λj=>l.length - j.1) (0,s) ?_ ⟨T0 _,rfl⟩ λj h=>?_
  ·exact wB
  obtain⟨j,k⟩:=j;obtain⟨h,a⟩:=h;simp only at h a |-;by_cases n:j<l.length
  ·obtain⟨y,o⟩ : ∃y,l[j]? = some y:=⟨_,W1 n⟩
   repeat'(first|refine gE ?_|(conv=>whnf);first|with_reducible (first|refine CA (aa b) ?_|refine CA (aa o) ?_|refine Bf.D (λe=>?_) (λe=>?_)|refine Bf.N (λe=>?_) (λe=>?_))|refine C7 (aL y 0 511) ?_|refine C7 (cA (i:Nat)) ?_|refine CM (Kz ω) ?_|refine CS rfl ?_|refine Ml.mk (mW y k) ?_|refine Mu.mk (sH (by assumption)) ?_)
   all_goals first
    | exact U0 (λz=>[B z]) (kb b d (Kh o a λ⟨C,E,F,G⟩=>by first|contradiction|omega)).symm
    | ((conv=>whnf)
       refine CD (j+1,k++[y]) ⟨(by simp only;omega),Gb o a ⟨ω,ω,(by assumption),(by assumption)⟩⟩ (by simp only;omega) ?_
       (exact wA))
  repeat'(first|refine gE ?_|fail)
  (conv=>whnf)
  rw[O6 ω]at a;refine CD (i+1,k) ⟨(by simp only;omega),(by rw[sS b d];grind [eA])⟩ (by simp only;omega) ?_;exact wB
 repeat'(first|refine gE ?_|fail)
 grind [R0,bj]
def bT:Nat->List (List Int)->Int
 | _,[]=>0
 | k,l::ls=>l.length*csz k+bT (k+1) ls
def bk(c:aA):Int:=if bj c then bT 0 c.Z else 0
theorem np:∀(a:List (List Int))(k:Nat)(l:List Int),bT k (a++[l])=bT k a+l.length*csz (k+a.length:Nat)
 | [],k,l=>by simp[bT]
 | x::a,k,l=>by
  simp only[List.cons_append,bT,List.length_cons];rw[np a (k+1) l,show k+1+a.length=k+(a.length+1) by omega];omega
theorem f6{a:List (List Int)}{i:Nat}{l:List Int}(b:a[i]? = some l):bT 0 (a.take (i+1))=bT 0 (a.take i)+l.length*csz i:=by grind [Y4,np]
theorem Gr:∀{b:List (List Int)}{k:Nat}{s c:List Int},gf k s b=some c->∀l∈b,l.length<=8
 | [],k,s,c,h,l,a=>by simp at a
 | x::b,k,s,c,h,l,a=>by
  simp only[gf]at h;unfold eA at h;split at h
  ·rename_i d
   rcases List.mem_cons.1 a with rfl|a
   ·exact d.1
   cases e:qY k s x with
   | none=>grind
   | some f=>rw[e]at h;exact Gr (show gf (k+1) f b=some c from h) l a
  cases h
theorem jp{c:aA}(h:bj c=true):c.Z.length=4/\∀l∈c.Z,l.length<=8:=by grind [Option.isSome_iff_exists,Gr,bj]
theorem ED(i:Nat):0<=csz (i:Int)/\csz (i:Int)<=8:=by
 by_cases h:i<=3
 ·obtain rfl|rfl|rfl|rfl:i=0\/i=1\/i=2\/i=3:=ω
  all_goals decide
 grind [csz]
def AD{n:Nat}{k:Int}(b:n<=8)(a:0<=k)(c:k<=8):0<=(n:Int)*k/\(n:Int)*k<=64:=by
 refine⟨Int.mul_nonneg ω a,?_⟩;have d:(n:Int)*k<=8*k:=Int.mul_le_mul_of_nonneg_right ω a;omega
theorem pw(f:aU)(h:aU.sml f):ao Tryz.prog 248 false [.val (some 2) (aU.enc .U f)] .one [B (cG f)]:=by
 have C:=h.1.1;have E:f.a1.length<=1048576:=h.2;refine fO 61 [] Tryz.func248 rfl ?_
 repeat'(first|refine gP ?_|(conv=>whnf);first|with_reducible (first|refine Bf.D (λa=>?_) (λa=>?_)|refine Bf.N (λa=>?_) (λa=>?_))|refine C7 (aE f.W.length 1 32) ?_)
 ·exact U0 (λz=>[B z]) (by grind [cG])
 rotate_left
 ·exact U0 (λz=>[B z]) (by grind [cG])
 have t:1<=f.W.length/\f.W.length<=32:=ω
 have w:f.a1.length=f.W.length:=ω
 (conv=>whnf)
 refine CE (ι:=Nat) (λi=>[(1,.F .box (aU.enc .U f)),(3,.F .one [I (i:Nat)])]) (λi=>i<=f.W.length/\((f.W.zip f.a1).take i).all (λq=>gY q.1 q.2)=true) (λi=>f.W.length - i) 0 ?_ ψ λi j=>?_
 ·exact wB
 obtain⟨j,y⟩:=j;by_cases g:i<f.W.length
 ·obtain⟨r,c⟩ : ∃r,f.W[i]? = some r:=⟨_,W1 g⟩
  obtain⟨u,b⟩ : ∃u,f.a1[i]? = some u:=⟨_,W1 ω⟩
  repeat'(first|refine gE ?_|(conv=>whnf);first|with_reducible (first|refine CA (aa c) ?_|refine Bf.N (λa=>?_) (λa=>?_)))
  ·exact U0 (λz=>[B z]) (hJ c b (by grind [gY])).symm
  have l:r.length=16:=ω
  (conv=>whnf)
  refine CE (ι:=Nat) (λk=>[(1,.F .box (aU.enc .U f)),(3,.F .one [I (i:Nat)]),(4,.F .one [I (k:Nat)])]) (λk=>k<=16/\(r.take k).all (iC u)=true) (λk=>16 - k) 0 ?_ ψ λk n=>?_
  ·exact wB
  obtain⟨n,e⟩:=n;by_cases o:k<16
  ·obtain⟨v,d⟩ : ∃v,r[k]? = some v:=⟨_,W1 ω⟩
   cases u with
   | true=>
    repeat'(first|refine gE ?_|(conv=>whnf);first|with_reducible (first|refine CA (aa c) ?_|refine CA (aa b) ?_|refine CA (aa d) ?_|refine Bf.D (λa=>?_) (λa=>?_)|refine Bf.N (λa=>?_) (λa=>?_))|refine C7 (aE v 0 999) ?_)
    all_goals first
     | exact U0 (λz=>[B z]) (hJ c b (rk d (by first|(unfold iC;rw[R0 ω];rfl)|(unfold iC;rw[R0 (p:=v=0) ω];simp)))).symm
     | ((conv=>whnf)
        refine CD (ι:=Nat) (k+1) ⟨ω,cE d e (by unfold iC;first|(rw[O0 ω];rfl)|(rw[O0 (p:=0<=v/\v<=999) ω,O0 (p:=v=0) ω];rfl))⟩ ω ?_
        (exact wA))
   | false=>
    repeat'(first|refine gE ?_|(conv=>whnf);first|with_reducible (first|refine CA (aa c) ?_|refine CA (aa b) ?_|refine CA (aa d) ?_|refine Bf.D (λa=>?_) (λa=>?_)|refine Bf.N (λa=>?_) (λa=>?_))|refine C7 (aE v 0 999) ?_)
    all_goals first
     | exact U0 (λz=>[B z]) (hJ c b (rk d (by first|(unfold iC;rw[R0 ω];rfl)|(unfold iC;rw[R0 (p:=v=0) ω];simp)))).symm
     | ((conv=>whnf)
        refine CD (ι:=Nat) (k+1) ⟨ω,cE d e (by unfold iC;first|(rw[O0 ω];rfl)|(rw[O0 (p:=0<=v/\v<=999) ω,O0 (p:=v=0) ω];rfl))⟩ ω ?_
        (exact wA))
  repeat'(first|refine gE ?_|fail)
  (conv=>whnf)
  refine CD (i+1) ⟨ω,cE (uJ c b) y (by grind [gY])⟩ ω ?_;exact wB
 repeat'(first|refine gE ?_|fail)
 exact U0 (λz=>[B z]) (by grind [List.length_zip,cG])
theorem p6(f:aU)(g:aU.sml f):ao Tryz.prog 51 false [.val (some 2) (aU.enc .U f)] .one [B (cG f)]:=by
 have C:=g.1.1;have E:f.a1.length<=1048576:=g.2;refine fO 55 [] Tryz.func51 rfl ?_
 repeat'(first|refine gP ?_|(conv=>whnf);first|with_reducible (first|refine Bf.D (λa=>?_) (λa=>?_)|refine Bf.N (λa=>?_) (λa=>?_))|refine C7 (aL f.W.length 1 32) ?_)
 ·exact U0 (λz=>[B z]) (by grind [cG])
 rotate_left
 ·exact U0 (λz=>[B z]) (by grind [cG])
 have p:1<=f.W.length/\f.W.length<=32:=ω
 have t:f.a1.length=f.W.length:=ω
 (conv=>whnf)
 refine CE (ι:=Nat) (λi=>[(1,.F .box (aU.enc .U f)),(22,.F .one (ko .U f.W)),(23,.F .one [I (f.W.length)]),(24,.F .one [I ((i:Nat):Int)])]) (λi=>i<=f.W.length/\((f.W.zip f.a1).take i).all (λq=>gY q.1 q.2)=true) (λi=>f.W.length - i) (0) ?_ ψ λi j=>?_
 ·exact wB
 obtain⟨j,w⟩:=j;by_cases h:i<f.W.length
 ·obtain⟨r,c⟩ : ∃r,f.W[i]? = some r:=⟨_,W1 h⟩
  obtain⟨u,b⟩ : ∃u,f.a1[i]? = some u:=⟨_,W1 ω⟩
  have y:r.length<=1048576:=g.1.2 r ψ
  repeat'(first|refine gE ?_|(conv=>whnf);first|with_reducible (first|refine CA (aa c) ?_|refine Bf.N (λa=>?_) (λa=>?_)))
  ·exact U0 (λz=>[B z]) (hJ c b (by grind [gY])).symm
  have l:r.length=16:=ω
  (conv=>whnf)
  refine CE (ι:=Nat) (λk=>[(1,.F .box (aU.enc .U f)),(3,.F .one [I ((i:Nat):Int)]),(22,.F .one (ko .U f.W)),(23,.F .one [I (f.W.length)]),(24,.F .one [I ((i:Nat):Int)]),(32,.F .one (aF .U r)),(33,.F .one [I (r.length)]),(34,.F .one [I ((k:Nat):Int)])]) (λk=>k<=r.length/\(r.take k).all (iC u)=true) (λk=>r.length - k) (0) ?_ ψ λk n=>?_
  ·exact wB
  obtain⟨n,e⟩:=n;by_cases o:k<r.length
  ·obtain⟨v,d⟩ : ∃v,r[k]? = some v:=⟨_,W1 ω⟩
   cases u with
   | true=>
    repeat'(first|refine gE ?_|(conv=>whnf);first|with_reducible (first|refine CA (aa c) ?_|refine CA (aa b) ?_|refine CA (aa d) ?_|refine Bf.D (λa=>?_) (λa=>?_)|refine Bf.N (λa=>?_) (λa=>?_))|refine C7 (aL v 0 999) ?_)
    all_goals first
     | exact U0 (λz=>[B z]) (hJ c b (rk d (by unfold iC;grind))).symm
     | ((conv=>whnf)
        refine CD (ι:=Nat) (k+1) ⟨ω,cE d e (by unfold iC;grind)⟩ ω ?_
        (exact wA))
   | false=>
    repeat'(first|refine gE ?_|(conv=>whnf);first|with_reducible (first|refine CA (aa c) ?_|refine CA (aa b) ?_|refine CA (aa d) ?_|refine Bf.D (λa=>?_) (λa=>?_)|refine Bf.N (λa=>?_) (λa=>?_))|refine C7 (aL v 0 999) ?_)
    all_goals first
     | exact U0 (λz=>[B z]) (hJ c b (rk d (by unfold iC;grind))).symm
     | ((conv=>whnf)
        refine CD (ι:=Nat) (k+1) ⟨ω,cE d e (by unfold iC;grind)⟩ ω ?_
        (exact wA))
  repeat'(first|refine gE ?_|fail)
  (conv=>whnf)
  refine CD (i+1) ⟨ω,cE (uJ c b) w (by grind [gY])⟩ ω ?_;exact wB
 repeat'(first|refine gE ?_|fail)
 exact U0 (λz=>[B z]) (by grind [List.length_zip,cG])
theorem A3(t:aG)(b:Int)(e:aG.sml t):ao Tryz.prog 249 false [.val (some 1) (aG.enc .U t),.val none [I b]] .one [B (fF t b)]:=by
 have k:=e.1;refine fO 54 [] Tryz.func249 rfl ?_
 repeat'(first|refine gP ?_|fail)
 (conv=>whnf)
 refine CE (ι:=Nat) (λi=>[(1,.F .one [I (b)]),(2,.F .box (aG.enc .U t)),(5,.F .one [I ((i:Nat):Int)])]) (λi=>i<=t.K.length/\cV i (λj=>kM b (nth t.K j))=true) (λi=>t.K.length - i) 0 ?_ ⟨T0 _,rfl⟩ λi c=>?_
 ·exact wB
 obtain⟨c,g⟩:=c;by_cases d:i<t.K.length
 ·have h:=ah d
  repeat'(first|refine gE ?_|(conv=>whnf);first|with_reducible (first|refine CA (aa h) ?_|refine Bf.D (λa=>?_) (λa=>?_)|refine Bf.N (λa=>?_) (λa=>?_)|refine Bf.E (λa=>?_) (λa=>?_))|refine C7 (aE _ 0 2) ?_)
  all_goals first
   | exact U0 (λz=>[B z]) ((by symm;unfold fF;rw[cn d (R0 ψ)];rfl))
   | ((conv=>whnf);refine CD (i+1) ⟨ω,bJ g (O0 ψ)⟩ ω ?_;(exact wB))
 repeat'(first|refine gE ?_|(conv=>whnf);first|refine C7 (aE _ 1 32) ?_)
 obtain rfl:i=t.K.length:=ω
 exact U0 (λz=>[B z]) ((by grind [fF]))
theorem Al(t:aG)(b:Int)(e:aG.sml t):ao Tryz.prog 101 false [.val (some 1) (aG.enc .U t),.val none [I b]] .one [B (fF t b)]:=by
 have k:=e.1;refine fO 49 [] Tryz.func101 rfl ?_
 repeat'(first|refine gP ?_|fail)
 (conv=>whnf)
 refine CE (ι:=Nat) (λi=>[(1,.F .one [I (b)]),(2,.F .box (aG.enc .U t)),(8,.F .one (vI .U t.K)),(9,.F .one [I (t.K.length)]),(10,.F .one [I ((i:Nat):Int)])]) (λi=>i<=t.K.length/\cV i (λj=>kM b (nth t.K j))=true) (λi=>t.K.length - i) 0 ?_ ⟨T0 _,rfl⟩ λi c=>?_
 ·exact wB
 obtain⟨c,g⟩:=c;by_cases d:i<t.K.length
 ·have h:=ah d
  repeat'(first|refine gE ?_|(conv=>whnf);first|with_reducible (first|refine CA (aa h) ?_|refine Bf.D (λa=>?_) (λa=>?_)|refine Bf.N (λa=>?_) (λa=>?_)|refine Bf.E (λa=>?_) (λa=>?_))|refine C7 (aL _ 0 2) ?_)
  all_goals first
   | exact U0 (λz=>[B z]) ((by symm;unfold fF;rw[cn d (R0 ψ)];rfl))
   | ((conv=>whnf);refine CD (i+1) ⟨ω,bJ g (O0 ψ)⟩ ω ?_;(exact wB))
 repeat'(first|refine gE ?_|(conv=>whnf);first|refine C7 (aL _ 1 32) ?_)
 obtain rfl:i=t.K.length:=ω
 exact U0 (λz=>[B z]) ((by grind [fF]))
theorem ge(t:aG)(f:Int)(c:aG.sml t):ao Tryz.prog 250 false [.val (some 1) (aG.enc .U t),.val none [I f]] .one (aF .own (pagesOn t f)):=by
 have j:=c.1;refine fO 37 [] Tryz.func250 rfl ?_ (.inr (bN _))
 repeat'(first|refine gP ?_|fail)
 (conv=>whnf)
 refine CE (ι:=Nat) (λi=>[(1,.F .one [I (f)]),(2,.F .box (aG.enc .U t)),(5,.F .one (aF .own (jg t f i))),(6,.F .one [I ((i:Nat):Int)])]) (λi=>i<=t.K.length) (λi=>t.K.length - i) (0) ?_ (T0 _) λi k=>?_
 ·exact wB
 have d:=rP t f i;by_cases e:i<t.K.length
 ·have g:=ah e
  repeat'(first|refine gE ?_|(conv=>whnf);first|with_reducible (first|refine CA (aa g) ?_|refine Bf.D (λb=>?_) (λb=>?_)|refine Bf.N (λb=>?_) (λb=>?_)|refine Bf.E (λb=>?_) (λb=>?_))|refine CN cv (λr h=>by rw[C1.1 h];rfl) (by simp[aW,dn]) (by simp;omega) (by simp only[X0];exact yb (by simp;omega) (by decide)) rfl ?_)
  all_goals first
   |(have a:LB t f i=true:=O0 ψ
     (conv=>whnf)
     refine CD (i+1) ω ω ?_;rw[y4 a]
     (repeat'(first|exact trivial|rfl|exact CI rfl (CI (U0 (C.s du.own) (by simp[rI])) trivial)|refine CI ?_ ?_)))
   |(have a:LB t f i=false:=R0 ψ
     (conv=>whnf)
     refine CD (i+1) ω ω ?_;rw[DB a]
     (exact wA))
 repeat'(first|refine gE ?_|fail)
 obtain rfl:i=t.K.length:=ω
 rfl
theorem rF(t:aG)(f:Int)(c:aG.sml t):ao Tryz.prog 46 false [.val (some 1) (aG.enc .U t),.val none [I f]] .one (aF .own (pagesOn t f)):=by
 have j:=c.1;refine fO 32 [] Tryz.func46 rfl ?_ (.inr (bN _))
 repeat'(first|refine gP ?_|fail)
 (conv=>whnf)
 refine CE (ι:=Nat) (λi=>[(1,.F .one [I (f)]),(5,.F .one (aF .own (jg t f i))),(10,.F .one (vI .U t.K)),(11,.F .one [I (t.K.length)]),(12,.F .one [I ((i:Nat):Int)])]) (λi=>i<=t.K.length) (λi=>t.K.length - i) (0) ?_ (T0 _) λi k=>?_
 ·exact wB
 have d:=rP t f i;by_cases e:i<t.K.length
 ·have g:=ah e
  repeat'(first|refine gE ?_|(conv=>whnf);first|with_reducible (first|refine CA (aa g) ?_|refine Bf.D (λb=>?_) (λb=>?_)|refine Bf.N (λb=>?_) (λb=>?_)|refine Bf.E (λb=>?_) (λb=>?_))|refine CN cv (λr h=>by rw[C1.1 h];rfl) (by simp[aW,dn]) (by simp;omega) (by simp only[X0];exact yb (by simp;omega) (by decide)) rfl ?_)
  all_goals first
   |(have a:LB t f i=true:=O0 ψ
     (conv=>whnf)
     refine CD (i+1) ω ω ?_;rw[y4 a]
     (repeat'(first|exact trivial|rfl|exact CI rfl (CI (U0 (C.s du.own) (by simp[rI])) trivial)|refine CI ?_ ?_)))
   |(have a:LB t f i=false:=R0 ψ
     (conv=>whnf)
     refine CD (i+1) ω ω ?_;rw[DB a]
     (exact wA))
 repeat'(first|refine gE ?_|fail)
 obtain rfl:i=t.K.length:=ω
 rfl
def cX(t:aG)(p:Int)(b:aG.sml t):ao Tryz.prog 177 false [.val (some 1) (aG.enc .U t),.val none [I p]] .agg (bi.enc .own (au t p)):=by
 have d:=b.1;refine fO 18 [] Tryz.func177 rfl ?_ (.inr (bi.enc_fr _));by_cases a:0<=p/\p<t.K.length
 ·have c:=ah (xs:=t.K) (i:=p.toNat) ω
  repeat'(first|refine gE ?_|(conv=>whnf);first|refine C7 (aE _ 0 _) ?_|refine CL a.1 (aa c) ?_)
  all_goals(unfold au;rw[CB a];rfl)
 repeat'(first|refine gE ?_|(conv=>whnf);first|refine C7 (aE _ 0 _) ?_)
 all_goals(unfold au;rw[C9 a];rfl)
def kq(t:aG)(p:Int)(b:aG.sml t):ao Tryz.prog 45 false [.val (some 1) (aG.enc .U t),.val none [I p]] .agg (bi.enc .own (au t p)):=by
 have d:=b.1;refine fO 18 [] Tryz.func45 rfl ?_ (.inr (bi.enc_fr _));by_cases a:0<=p/\p<t.K.length
 ·have c:=ah (xs:=t.K) (i:=p.toNat) ω
  repeat'(first|refine gE ?_|(conv=>whnf);first|refine C7 (aL _ 0 _) ?_|refine CL a.1 (aa c) ?_)
  all_goals(unfold au;rw[CB a];rfl)
 repeat'(first|refine gE ?_|(conv=>whnf);first|refine C7 (aL _ 0 _) ?_)
 all_goals(unfold au;rw[C9 a];rfl)
def pL(t:aG)(f:Int):(pagesOn t f).length<=t.K.length:=rP ..
theorem nQ(m:aS)(a:aS.sml m):ao Tryz.prog 190 false [.val (some 3) (aS.enc .U m)] .one [B (dv m)]:=by
 have q:m.V.a1.length<=1048576:=a.1.2;have k:m.V.W.length<=1048576:=a.1.1.1;have b:=pw m.V a.1;have c:=A3 m.S m.V.W.length a.2;cases d:cG m.V with
 | false=>
  rw[d]at b;refine fO 39 [(6,13,[26,27,28,29,30,31,32,33,34,35,36,37,38])] Tryz.func190 rfl ?_
  repeat'(first|refine gP ?_|(conv=>whnf);first|refine C7 b ?_)
  exact U0 (λz=>[B z]) ((by grind [dv]))
 | true=>
  have g:=zL d;rw[d]at b;cases e:fF m.S m.V.a1.length with
  | false=>
   rw[show(m.V.W.length:Int)=m.V.a1.length by omega,e]at c;refine fO 39 [(6,13,[26,27,28,29,30,31,32,33,34,35,36,37,38])] Tryz.func190 rfl ?_
   repeat'(first|refine gP ?_|(conv=>whnf);first|refine C7 b ?_|refine C7 ((show(m.V.W.length:Int)=m.V.a1.length by omega) ▸ c) ?_)
   exact U0 (λz=>[B z]) ((by grind [dv]))
  | true=>
   rw[show(m.V.W.length:Int)=m.V.a1.length by omega,e]at c;refine fO 39 [(6,13,[26,27,28,29,30,31,32,33,34,35,36,37,38])] Tryz.func190 rfl ?_
   repeat'(first|refine gP ?_|(conv=>whnf);first|refine C7 b ?_|refine C7 ((show(m.V.W.length:Int)=m.V.a1.length by omega) ▸ c) ?_)
   (conv=>whnf)
   refine CE (ι:=Nat) (λi=>[(1,.F .box (aS.enc .U m)),(3,.F .one [I ((i:Nat):Int)])]) (λi=>i<=m.V.a1.length/\cV i (nZ m)=true) (λi=>m.V.a1.length - i) 0 ?_ ⟨T0 _,rfl⟩ λi h=>?_
   ·exact wB
   obtain⟨h,l⟩:=h;by_cases j:i<m.V.a1.length
   ·have n:=ah j
    have o:=pL m.S (i:Nat)
    repeat'(first|refine gE ?_|(conv=>whnf);first|with_reducible (first|refine CA (aa n) ?_|refine Bf.NB (λp=>?_) (λp=>?_))|refine C7 (ge m.S (i:Nat) a.2) ?_)
    all_goals first
     | exact U0 (λz=>[B z]) ((by symm;unfold dv;rw[d,e,cn j (by unfold nZ;grind)];rfl))
     | ((conv=>whnf);refine CD (i+1) ⟨ω,bJ l (by unfold nZ;grind)⟩ ω ?_;(exact wB))
   repeat'(first|refine gE ?_|fail)
   obtain rfl:i=m.V.a1.length:=ω
   exact U0 (λz=>[B z]) ((by grind [dv]))
theorem wc(m:aS)(b:aS.sml m):ao Tryz.prog 65 false [.val (some 3) (aS.enc .U m)] .one [B (dv m)]:=by
 have o:m.V.a1.length<=1048576:=b.1.2;have a:=p6 m.V b.1;have c:=Al m.S m.V.a1.length b.2;cases d:cG m.V with
 | false=>
  rw[d]at a;refine fO 37 [] Tryz.func65 rfl ?_
  repeat'(first|refine gP ?_|(conv=>whnf);first|refine C7 a ?_)
  exact U0 (λz=>[B z]) ((by grind [dv]))
 | true=>
  rw[d]at a;cases e:fF m.S m.V.a1.length with
  | false=>
   rw[e]at c;refine fO 37 [] Tryz.func65 rfl ?_
   repeat'(first|refine gP ?_|(conv=>whnf);first|refine C7 a ?_|refine C7 c ?_)
   exact U0 (λz=>[B z]) ((by grind [dv]))
  | true=>
   rw[e]at c;refine fO 37 [] Tryz.func65 rfl ?_
   repeat'(first|refine gP ?_|(conv=>whnf);first|refine C7 a ?_|refine C7 c ?_)
   (conv=>whnf)
   refine CE (ι:=Nat) (λi=>[(1,.F .box (aS.enc .U m)),(21,.F .one (vR .U m.V.a1)),(22,.F .one [I (m.V.a1.length)]),(23,.F .one [I ((i:Nat):Int)])]) (λi=>i<=m.V.a1.length/\cV i (nZ m)=true) (λi=>m.V.a1.length - i) 0 ?_ ⟨T0 _,rfl⟩ λi g=>?_
   ·exact wB
   obtain⟨g,j⟩:=g;by_cases h:i<m.V.a1.length
   ·have k:=ah h
    have l:=pL m.S (i:Nat)
    repeat'(first|refine gE ?_|(conv=>whnf);first|with_reducible (first|refine CA (aa k) ?_|refine Bf.NB (λn=>?_) (λn=>?_))|refine C7 (rF m.S (i:Nat) b.2) ?_)
    all_goals first
     | exact U0 (λz=>[B z]) ((by symm;unfold dv;rw[d,e,cn h (by unfold nZ;grind)];rfl))
     | ((conv=>whnf);refine CD (i+1) ⟨ω,bJ j (by unfold nZ;grind)⟩ ω ?_;(exact wB))
   repeat'(first|refine gE ?_|fail)
   obtain rfl:i=m.V.a1.length:=ω
   exact U0 (λz=>[B z]) ((by grind [dv]))
def ll(k:af)(d:af.sml k):ao Tryz.prog 130 false [.val (some 5) (af.enc .U k)] .one [B (aC k)]:=by
 have n:k.e.length<=1048576:=d.2;have a:=nQ k.G d.1;refine fO 31 [] Tryz.func130 rfl ?_
 repeat'(first|refine gP ?_|fail)
 (conv=>whnf)
 refine CE (ι:=Nat) (λi=>[(1,.F .box (af.enc .U k)),(3,.F .one [I ((i:Nat):Int)])]) (λi=>i<=k.e.length/\cV i (λj=>decide (0<=nth k.e j))=true) (λi=>k.e.length - i) 0 ?_ ⟨T0 _,rfl⟩ λi e=>?_
 ·exact wB
 obtain⟨e,g⟩:=e;by_cases h:i<k.e.length
 ·have l:=ah h
  repeat'(first|refine gE ?_|(conv=>whnf);first|with_reducible (first|refine CA (aa l) ?_|refine Bf.D (λc=>?_) (λc=>?_)))
  all_goals first
   | exact U0 (λz=>[B z]) ((by symm;unfold aC;rw[cn h (R0 ω)];rfl))
   | ((conv=>whnf);refine CD (i+1) ⟨ω,bJ g (O0 ω)⟩ ω ?_;(exact wB))
 obtain rfl:i=k.e.length:=ω
 cases b:dv k.G with
 | false=>
  rw[b]at a
  repeat'(first|refine gE ?_|(conv=>whnf);first|refine C7 a ?_)
  all_goals exact U0 (λz=>[B z]) ((by unfold aC;rw[b];simp))
 | true=>
  rw[b]at a
  repeat'(first|refine gE ?_|(conv=>whnf);first|with_reducible refine Bf.D (λc=>?_) (λc=>?_)|refine C7 a ?_|refine C7 (aE _ 0 100000) ?_)
  all_goals exact U0 (λz=>[B z]) ((by unfold aC;rw[b,g];simp only[Bool.true_and];first|exact decide_eq_decide.2 ω|(symm;exact R0 ω)|(symm;exact O0 ω)))
def xO(k:af)(b:af.sml k):ao Tryz.prog 32 false [.val (some 5) (af.enc .U k)] .one [B (aC k)]:=by
 have l:k.e.length<=1048576:=b.2;have g:=wc k.G b.1;refine fO 29 [] Tryz.func32 rfl ?_
 repeat'(first|refine gP ?_|fail)
 (conv=>whnf)
 refine CE (ι:=Nat) (λi=>[(1,.F .box (af.enc .U k)),(6,.F .one (aF .U k.e)),(7,.F .one [I (k.e.length)]),(8,.F .one [I ((i:Nat):Int)])]) (λi=>i<=k.e.length/\cV i (λj=>decide (0<=nth k.e j))=true) (λi=>k.e.length - i) 0 ?_ ⟨T0 _,rfl⟩ λi c=>?_
 ·exact wB
 obtain⟨c,d⟩:=c;by_cases e:i<k.e.length
 ·have h:=ah e
  repeat'(first|refine gE ?_|(conv=>whnf);first|with_reducible (first|refine CA (aa h) ?_|refine Bf.D (λa=>?_) (λa=>?_)))
  all_goals first
   | exact U0 (λz=>[B z]) ((by symm;unfold aC;rw[cn e (R0 ω)];rfl))
   | ((conv=>whnf);refine CD (i+1) ⟨ω,bJ d (O0 ω)⟩ ω ?_;(exact wB))
 obtain rfl:i=k.e.length:=ω
 repeat'(first|refine gE ?_|(conv=>whnf);first|with_reducible refine Bf.D (λa=>?_) (λa=>?_)|refine C7 g ?_|refine C7 (aL _ 0 100000) ?_)
 all_goals exact U0 (λz=>[B z]) ((by unfold aC;rw[d];cases dv k.G<;>simp only[Bool.true_and,Bool.false_and]<;>first|rfl|exact decide_eq_decide.2 ω|(symm;exact R0 ω)|(symm;exact O0 ω)))
def wL(pages:Int)(r:a8)(b:0<=pages/\pages<=1048576):ao Tryz.prog 194 false [.val none [I pages],.val (some 2) (a8.enc .U r)] .one [B (rangeIn pages r)]:=by
 refine fO 18 [] Tryz.func194 rfl ?_
 repeat'(first|refine gP ?_|(conv=>whnf);first|with_reducible refine Bf.D (λa=>?_) (λa=>?_)|refine C7 (aE _ 1 _) ?_|refine C7 (aE _ 0 _) ?_)
 all_goals exact U0 (λz=>[B z]) ((by unfold rangeIn;first|(symm;exact R0 ω)|exact decide_eq_decide.2 ω))
def E5(pages:Int)(r:a8)(b:0<=pages/\pages<=1048576):ao Tryz.prog 66 false [.val none [I pages],.val (some 2) (a8.enc .U r)] .one [B (rangeIn pages r)]:=by
 refine fO 18 [] Tryz.func66 rfl ?_
 repeat'(first|refine gP ?_|(conv=>whnf);first|with_reducible refine Bf.D (λa=>?_) (λa=>?_)|refine C7 (aL _ 1 _) ?_|refine C7 (aL _ 0 _) ?_)
 all_goals exact U0 (λz=>[B z]) ((by unfold rangeIn;first|(symm;exact R0 ω)|exact decide_eq_decide.2 ω))
theorem mu(k:Int):ao Tryz.prog 236 false [.val none [I k]] .one [I (slots k)]:=by
 by_cases b:0<=k/\k<=3
 ·obtain rfl|rfl|rfl|rfl:k=0\/k=1\/k=2\/k=3:=ω
  all_goals
   refine fO 9 [] Tryz.func236 rfl ?_
   repeat'(first|refine gE ?_|(conv=>whnf);first|with_reducible refine Bf.D (λa=>?_) (λa=>?_)|refine C7 (aE _ 0 3) ?_|refine CM (by decide) ?_|refine CK rfl ?_|refine CS rfl ?_)
   exact U0 (λz=>[I z]) (by decide)
 refine fO 9 [] Tryz.func236 rfl ?_
 repeat'(first|refine gE ?_|(conv=>whnf);first|with_reducible refine Bf.D (λa=>?_) (λa=>?_)|refine C7 (aE _ 0 3) ?_)
 exact U0 (λz=>[I z]) (by grind [slots])
theorem iw(k:Int):ao Tryz.prog 28 false [.val none [I k]] .one [I (slots k)]:=by
 by_cases b:0<=k/\k<=3
 ·obtain rfl|rfl|rfl|rfl:k=0\/k=1\/k=2\/k=3:=ω
  all_goals
   refine fO 9 [] Tryz.func28 rfl ?_
   repeat'(first|refine gE ?_|(conv=>whnf);first|with_reducible refine Bf.D (λa=>?_) (λa=>?_)|refine C7 (fj _) ?_|refine C7 (cA _) ?_|refine CM (by decide) ?_|refine CK rfl ?_|refine CS rfl ?_)
   exact U0 (λz=>[I z]) (by decide)
 refine fO 9 [] Tryz.func28 rfl ?_
 repeat'(first|refine gE ?_|(conv=>whnf);first|with_reducible refine Bf.D (λa=>?_) (λa=>?_)|refine C7 (fj _) ?_)
 exact U0 (λz=>[I z]) (by grind [slots])
def J0(k b:Int):Bool:=decide (0<=k/\k<=3/\0<=b/\b<=lim k)
theorem pB(k b:Int):ao Tryz.prog 253 false [.val none [I (slots k)],.val none [I b]] .one [B (J0 k b)]:=by
 by_cases d:0<=k/\k<=3
 ·obtain rfl|rfl|rfl|rfl:k=0\/k=1\/k=2\/k=3:=ω
  all_goals
   first|rw[show slots 0=16 from rfl]|rw[show slots 1=8 from rfl]|rw[show slots 2=4 from rfl]|rw[show slots 3=2 from rfl]
   refine fO 15 [] Tryz.func253 rfl ?_
   repeat'(first|refine gE ?_|(conv=>whnf);first|with_reducible refine Bf.D (λa=>?_) (λa=>?_)|refine C7 (aE _ 1 16) ?_|refine C7 (aE _ 0 _) ?_|refine CM (by decide) ?_|refine CK (show _=(65536:Int) by decide) ?_|refine CK (show _=(65535:Int) by decide) ?_|refine CK (show _=(256:Int) by decide) ?_|refine CK (show _=(255:Int) by decide) ?_|refine CK (show _=(16:Int) by decide) ?_|refine CK (show _=(15:Int) by decide) ?_|refine CK (show _=(4:Int) by decide) ?_|refine CK (show _=(8:Int) by decide) ?_|refine CK (show _=(2:Int) by decide) ?_|refine CK (show _=(3:Int) by decide) ?_)
   all_goals exact U0 (λz=>[B z]) ((decide_eq_decide.2 (by simp[lim])))
 have c:slots k=0:=by grind [slots]
 rw[c];refine fO 15 [] Tryz.func253 rfl ?_
 repeat'(first|refine gE ?_|(conv=>whnf);first|with_reducible refine Bf.D (λa=>?_) (λa=>?_)|refine C7 (aE _ 1 16) ?_)
 exact U0 (λz=>[B z]) ((by symm;exact R0 ω))
theorem xu(k b:Int):ao Tryz.prog 58 false [.val none [I (slots k)],.val none [I b]] .one [B (J0 k b)]:=by
 by_cases d:0<=k/\k<=3
 ·obtain rfl|rfl|rfl|rfl:k=0\/k=1\/k=2\/k=3:=ω
  all_goals
   first|rw[show slots 0=16 from rfl]|rw[show slots 1=8 from rfl]|rw[show slots 2=4 from rfl]|rw[show slots 3=2 from rfl]
   refine fO 14 [] Tryz.func58 rfl ?_
   repeat'(first|refine gE ?_|(conv=>whnf);first|with_reducible refine Bf.D (λa=>?_) (λa=>?_)|refine C7 (aL _ 1 16) ?_|refine C7 (aL _ 0 _) ?_|refine CM (by decide) ?_|refine CK (ed (by decide) (by decide)) ?_)
   all_goals exact U0 (λz=>[B z]) ((decide_eq_decide.2 (by simp[lim,IntKind.bits])))
 have c:slots k=0:=by grind [slots]
 rw[c];refine fO 14 [] Tryz.func58 rfl ?_
 repeat'(first|refine gE ?_|(conv=>whnf);first|with_reducible refine Bf.D (λa=>?_) (λa=>?_)|refine C7 (aL _ 1 16) ?_)
 exact U0 (λz=>[B z]) ((by symm;exact R0 ω))
def eQ(s:ar):ao Tryz.prog 195 false [.val (some 3) (ar.enc .U s)] .one [B (aT s)]:=by
 refine fO 14 [(1,12,[3,4,5,6,7,8,9,10,11,12,13,2])] Tryz.func195 rfl ?_
 repeat'(first|refine gP ?_|(conv=>whnf);first|with_reducible refine Bf.D (λa=>?_) (λa=>?_)|refine C7 (aE _ 0 31) ?_|refine C7 (mu _) ?_|refine C7 (pB _ _) ?_)
 all_goals exact U0 (λz=>[B z]) ((by unfold aT;first|(symm;exact R0 ω)|exact decide_eq_decide.2 ω))
def gU(s:ar):ao Tryz.prog 26 false [.val (some 3) (ar.enc .U s)] .one [B (aT s)]:=by
 refine fO 19 [(1,17,[3,4,5,6,7,8,9,10,11,12,13,14,15,16,17,18,2])] Tryz.func26 rfl ?_
 repeat'(first|refine gP ?_|(conv=>whnf);first|with_reducible refine Bf.D (λa=>?_) (λa=>?_)|refine C7 (aL _ 0 31) ?_|refine C7 (fj _) ?_|refine C7 (iw _) ?_|refine C7 (xu _ _) ?_)
 all_goals exact U0 (λz=>[B z]) ((by unfold aT;first|(symm;exact R0 ω)|exact decide_eq_decide.2 ω))
section
variable{α:Type}{xs:List α}{p:α->Bool}{i:Nat}{y:α}
theorem AO(h:xs[i]? = some y)(a:p y=true):xs.any p=true:=R3.2 ψ
theorem wD(h:xs[i]? = some y)(a:(xs.take i).any p=false)(b:p y=false):(xs.take (i+1)).any p=false:=by grind [Y4]
theorem fA[Inhabited α](a:0<i)(b:i<xs.length):xs[((i:Int) - 1).toNat]? = some (nth xs (i - 1)):=by
 rw[show((i:Int) - 1).toNat=i - 1 by omega];grind [ah]
end
theorem vz{pages:Int}{xs:List a8}{i n:Nat}(a:cV n (fD pages xs)=true)(b:i<n):1<=(nth xs i).a5/\(nth xs i).a5<=pages/\0<=(nth xs i).At/\(nth xs i).At<=pages - (nth xs i).a5:=by grind [dP,fD,rangeIn]
theorem lA(pages:Int)(xs:List a8)(d:0<=pages/\pages<=1048576)(k:iQ xs):ao Tryz.prog 133 false [.val none [I pages],.val none (bH .U xs)] .one [B (bw pages xs)]:=by
 have n:=k.1;refine fO 46 [(4,32,[12,13,14,15,16,17,18,19,20,21,22,23,24,25,26,27,28,29,30,31,32,33,34,35,36,37,38,39,40,41,42,43])] Tryz.func133 rfl ?_
 repeat'(first|refine gP ?_|fail)
 (conv=>whnf)
 refine CE (ι:=Nat) (λi=>[(0,.F .one [I (pages)]),(1,.F .one (bH .U xs)),(5,.F .one [I ((i:Nat):Int)])]) (λi=>i<=xs.length/\cV i (fD pages xs)=true) (λi=>xs.length - i) 0 ?_ ⟨T0 _,rfl⟩ λi e=>?_
 ·exact wB
 obtain⟨e,g⟩:=e;by_cases c:i<xs.length
 ·have j:=ah c
  have o:0<i->1<=(nth xs (i - 1)).a5/\(nth xs (i - 1)).a5<=pages/\0<=(nth xs (i - 1)).At/\(nth xs (i - 1)).At<=pages - (nth xs (i - 1)).a5:=λh=>vz g ω
  cases b:rangeIn pages (nth xs i) with
  | false=>
   have a:=wL pages (nth xs i) d;rw[b]at a
   repeat'(first|refine gE ?_|(conv=>whnf);first|with_reducible refine CA (aa j) ?_|refine C7 a ?_)
   exact U0 (λz=>[B z]) ((by grind [cn,bw,fD]))
  | true=>
   have a:=wL pages (nth xs i) d;rw[b]at a
   repeat'(first|refine gE ?_|(conv=>whnf);first|with_reducible (first|refine CA (aa j) ?_|refine Bf.D (λl=>?_) (λl=>?_))|refine C7 a ?_|refine CL ω (aa (fA ω c)) ?_)
   all_goals first
    | exact U0 (λz=>[B z]) ((by symm;unfold bw;rw[cn c (by unfold fD;rw[b,R0 ω];rfl)];rfl))
    | ((conv=>whnf);refine CD (i+1) ⟨ω,bJ g (by unfold fD;rw[b,O0 ω];rfl)⟩ ω ?_;(exact wB))
 repeat'(first|refine gE ?_|(conv=>whnf);first|refine C7 (aE pages 1 32) ?_)
 grind [bw]
theorem xo(pages:Int)(xs:List a8)(j:0<=pages/\pages<=1048576)(k:iQ xs):ao Tryz.prog 33 false [.val none [I pages],.val none (bH .U xs)] .one [B (bw pages xs)]:=by
 have n:=k.1;refine fO 43 [(4,26,[14,15,16,17,18,19,20,21,22,23,24,25,26,27,28,29,30,31,32,33,34,35,36,37,38,39])] Tryz.func33 rfl ?_
 repeat'(first|refine gP ?_|fail)
 (conv=>whnf)
 refine CE (ι:=Nat) (λi=>[(0,.F .one [I (pages)]),(1,.F .one (bH .U xs)),(7,.F .one (bH .U xs)),(8,.F .one [I (xs.length)]),(9,.F .one [I ((i:Nat):Int)])]) (λi=>i<=xs.length/\cV i (fD pages xs)=true) (λi=>xs.length - i) 0 ?_ ⟨T0 _,rfl⟩ λi d=>?_
 ·exact wB
 obtain⟨d,e⟩:=d;by_cases c:i<xs.length
 ·have g:=ah c
  have o:0<i->1<=(nth xs (i - 1)).a5/\(nth xs (i - 1)).a5<=pages/\0<=(nth xs (i - 1)).At/\(nth xs (i - 1)).At<=pages - (nth xs (i - 1)).a5:=λh=>vz e ω
  have a:=E5 pages (nth xs i) j;cases b:rangeIn pages (nth xs i) with
  | false=>
   rw[b]at a
   repeat'(first|refine gE ?_|(conv=>whnf);first|with_reducible refine CA (aa g) ?_|refine C7 a ?_)
   exact U0 (λz=>[B z]) ((by grind [cn,bw,fD]))
  | true=>
   rw[b]at a
   repeat'(first|refine gE ?_|(conv=>whnf);first|with_reducible (first|refine CA (aa g) ?_|refine Bf.D (λl=>?_) (λl=>?_))|refine C7 a ?_|refine CL ω (aa (fA ω c)) ?_)
   all_goals first
    | exact U0 (λz=>[B z]) ((by symm;unfold bw;rw[cn c (by unfold fD;rw[b,R0 ω];rfl)];rfl))
    | ((conv=>whnf);refine CD (i+1) ⟨ω,bJ e (by unfold fD;rw[b,O0 ω];rfl)⟩ ω ?_;(exact wB))
 repeat'(first|refine gE ?_|(conv=>whnf);first|refine C7 (aL pages 1 32) ?_)
 grind [bw]
theorem xP(xs:List a8)(page:Int)(g:xs.length<=9223372036854775807):ao Tryz.prog 199 false [.val none (bH .U xs),.val none [I page]] .one [B (xs.any (tU page))]:=by
 refine fO 34 [(4,22,[12,13,14,15,16,17,18,19,20,21,22,23,24,25,26,27,28,29,30,31,32,33])] Tryz.func199 rfl ?_
 repeat'(first|refine gP ?_|fail)
 (conv=>whnf)
 refine CE (ι:=Nat) (λi=>[(0,.F .one (bH .U xs)),(1,.F .one [I (page)]),(5,.F .one [I ((i:Nat):Int)])]) (λi=>i<=xs.length/\(xs.take i).any (tU page)=false) (λi=>xs.length - i) (0) ?_ ψ λi b=>?_
 ·exact wB
 obtain⟨b,c⟩:=b;by_cases d:i<xs.length
 ·have a:=ah d
  repeat'(first|refine gE ?_|(conv=>whnf);first|with_reducible (first|refine CA (aa a) ?_|refine Bf.D (λe=>?_) (λe=>?_))|refine CK rfl ?_)
  all_goals first
   | exact U0 (λz=>[B z]) ((AO a (by unfold tU;rw[O0 (by assumption),O0 (by assumption)];rfl)).symm)
   | ((conv=>whnf);refine CD (i+1) ⟨ω,wD a c (by unfold tU;first|(rw[R0 (by assumption:¬(nth xs i).At<=page)];rfl)|(rw[R0 (by assumption:¬page<_)];simp))⟩ ω ?_;(exact wB))
 repeat'(first|refine gE ?_|fail)
 exact U0 (λz=>[B z]) ψ
def tdiv16{z:Int}(h:0<=z):z.tdiv 16=z / 16:=Int.tdiv_eq_ediv_of_nonneg h
theorem l8(z:Int):ao Tryz.prog 169 false [.val none [I z]] .one [I (eK z)]:=by
 refine fO 10 [] Tryz.func169 rfl ?_;by_cases b:9<=z/\z<=1000
 ·repeat'(first|refine gE ?_|(conv=>whnf);first|with_reducible refine Bf.D (λa=>?_) (λa=>?_)|refine C7 (aE z 9 1000) ?_|refine CM (by decide) ?_|refine CK ((U0 _ (tdiv16 ω)).trans (ed ω ω)) ?_)
  grind [eK]
 repeat'(first|refine gE ?_|(conv=>whnf);first|with_reducible refine Bf.D (λa=>?_) (λa=>?_)|refine C7 (aE z 9 1000) ?_)
 all_goals exact U0 (λz=>[I z]) (by unfold eK;rw[C9 b])
theorem xI(z:Int):ao Tryz.prog 102 false [.val none [I z]] .one [I (eK z)]:=by
 refine fO 10 [] Tryz.func102 rfl ?_;by_cases b:9<=z/\z<=1000
 ·repeat'(first|refine gE ?_|(conv=>whnf);first|with_reducible refine Bf.D (λa=>?_) (λa=>?_)|refine C7 (aL z 9 1000) ?_|refine CM (by decide) ?_|refine CK ((U0 _ (tdiv16 ω)).trans (ed ω ω)) ?_)
  grind [eK]
 repeat'(first|refine gE ?_|(conv=>whnf);first|with_reducible refine Bf.D (λa=>?_) (λa=>?_)|refine C7 (aL z 9 1000) ?_)
 all_goals exact U0 (λz=>[I z]) (by unfold eK;rw[C9 b])
def na(l:ay):ao Tryz.prog 197 false [.val (some 3) (ay.enc .U l)] .one [B (bP l)]:=by
 have b:=l8 l.d;by_cases c:9<=l.d/\l.d<=1000
 ·rw[show eK l.d=(l.d+15) / 16 from CB c]at b
  refine fO 22 [] Tryz.func197 rfl ?_
  repeat'(first|refine gP ?_|(conv=>whnf);first|with_reducible (first|refine Bf.D (λa=>?_) (λa=>?_)|refine Bf.E (λa=>?_) (λa=>?_))|refine C7 b ?_|refine C7 (aE _ 0 _) ?_)
  all_goals exact U0 (λz=>[B z]) ((by unfold bP;first|(symm;exact R0 ω)|exact decide_eq_decide.2 ω))
 rw[show eK l.d=0 from C9 c]at b;refine fO 22 [] Tryz.func197 rfl ?_
 repeat'(first|refine gE ?_|(conv=>whnf);first|with_reducible refine Bf.D (λa=>?_) (λa=>?_)|refine C7 b ?_)
 all_goals exact U0 (λz=>[B z]) ((by unfold bP;symm;exact R0 ω))
def qR(l:ay):ao Tryz.prog 68 false [.val (some 3) (ay.enc .U l)] .one [B (bP l)]:=by
 have b:=xI l.d;by_cases c:9<=l.d/\l.d<=1000
 ·rw[show eK l.d=(l.d+15) / 16 from CB c]at b
  refine fO 22 [(1,20,[3,4,5,6,7,8,9,10,11,12,13,14,15,16,17,18,19,20,21,2])] Tryz.func68 rfl ?_
  repeat'(first|refine gE ?_|(conv=>whnf);first|with_reducible (first|refine Bf.D (λa=>?_) (λa=>?_)|refine Bf.E (λa=>?_) (λa=>?_))|refine C7 b ?_|refine C7 (aL _ 9 1000) ?_|refine C7 (aL _ 0 _) ?_)
  all_goals exact U0 (λz=>[B z]) ((by unfold bP;first|(symm;exact R0 ω)|exact decide_eq_decide.2 ω))
 refine fO 22 [(1,20,[3,4,5,6,7,8,9,10,11,12,13,14,15,16,17,18,19,20,21,2])] Tryz.func68 rfl ?_
 repeat'(first|refine gE ?_|(conv=>whnf);first|with_reducible refine Bf.D (λa=>?_) (λa=>?_)|refine C7 (aL _ 9 1000) ?_)
 all_goals exact U0 (λz=>[B z]) ((by unfold bP;symm;exact R0 ω))
theorem oA{z:Int}(h:0<=z/\z<=9223372036854775807):(BitVec.ofInt IntKind.i64.bits z).toNat=z.toNat:=by
 show(BitVec.ofInt 64 z).toNat=z.toNat
 grind
theorem and64{z1 z2:Int}(h1:0<=z1/\z1<=9223372036854775807)(a:0<=z2/\z2<=9223372036854775807):IntKind.i64.wrap ((BitVec.ofInt IntKind.i64.bits z1 &&& BitVec.ofInt IntKind.i64.bits z2).toNat:Nat)=((z1.toNat &&& z2.toNat:Nat):Int):=by grind [oA,Nat.and_le_left,ed]
theorem Fe(k:Int):lim k<=65535:=by grind [lim]
def dJ{s:ar}(h:aT s=true):0<=s.a6/\s.a6<=9223372036854775807:=by
 unfold aT at h;simp only[C0]at h;have:=Fe s.Y;omega
def lv(b c:ar):ao Tryz.prog 200 false [.val (some 3) (ar.enc .U b),.val (some 3) (ar.enc .U c)] .one [B (meshable b c)]:=by
 have g:=eQ b;have h:=eQ c;cases d:aT b<;>rw[d]at g<;>cases e:aT c<;>rw[e]at h
 all_goals
  refine fO 33 [] Tryz.func200 rfl ?_
  repeat'(first|refine gP ?_|(conv=>whnf);first|with_reducible (first|refine Bf.D (λa=>?_) (λa=>?_)|refine Bf.N (λa=>?_) (λa=>?_)|refine Bf.E (λa=>?_) (λa=>?_))|refine C7 g ?_|refine C7 h ?_|refine CK (and64 (dJ d) (dJ e)) ?_)
  all_goals exact U0 (λz=>[B z]) ((by unfold meshable;rw[d,e];first|rfl|(symm;exact R0 ω)|(rw[O4];simp;omega)))
def xz(b c:ar):ao Tryz.prog 71 false [.val (some 3) (ar.enc .U b),.val (some 3) (ar.enc .U c)] .one [B (meshable b c)]:=by
 have g:=gU b;have h:=gU c;cases d:aT b<;>rw[d]at g<;>cases e:aT c<;>rw[e]at h
 all_goals
  refine fO 33 [] Tryz.func71 rfl ?_
  repeat'(first|refine gP ?_|(conv=>whnf);first|with_reducible (first|refine Bf.D (λa=>?_) (λa=>?_)|refine Bf.N (λa=>?_) (λa=>?_)|refine Bf.E (λa=>?_) (λa=>?_))|refine C7 g ?_|refine C7 h ?_|refine CK (and64 (dJ d) (dJ e)) ?_)
  all_goals exact U0 (λz=>[B z]) ((by unfold meshable;rw[d,e];first|rfl|(symm;exact R0 ω)|(rw[O4];simp;omega)))
def HE(k:Int):ao Tryz.prog 109 false [.val none [I k]] .one [B (decide (0<=k/\k<=15))]:=by
 refine fO 5 [] Tryz.func109 rfl ?_
 repeat'(first|refine gP ?_|(conv=>whnf);first|refine C7 (aL k 0 15) ?_)
 rfl
def tL(p:cI)(e:cI.sml p):ao Tryz.prog 208 false [.val (some 3) (cI.enc .U p)] .one [B (eI p)]:=by
 have h:p.W.length<=1048576:=e;refine fO 51 [(4,25,[11,12,13,14,15,16,17,18,19,20,21,22,23,24,25,26,27,28,29,30,31,32,33,34,35])] Tryz.func208 rfl ?_
 repeat'(first|refine gP ?_|fail)
 (conv=>whnf)
 refine CE (ι:=Nat) (λi=>[(1,.F .box (cI.enc .U p)),(3,.F .one [I ((i:Nat):Int)])]) (λi=>i<=p.W.length/\cV i (mT p.W)=true) (λi=>p.W.length - i) 0 ?_ ⟨T0 _,rfl⟩ λi c=>?_
 ·exact wB
 obtain⟨c,d⟩:=c;by_cases b:i<p.W.length
 ·have g:=ah b
  repeat'(first|refine gE ?_|(conv=>whnf);first|with_reducible (first|refine CA (aa g) ?_|refine Bf.D (λa=>?_) (λa=>?_))|refine C7 (aE _ 0 15) ?_|refine CL ω (aa (fA ω b)) ?_)
  all_goals first
   | exact U0 (λz=>[B z]) ((by symm;unfold eI;rw[cn b (R0 ω)];rfl))
   | ((conv=>whnf);refine CD (i+1) ⟨ω,bJ d (O0 ω)⟩ ω ?_;(exact wB))
 obtain rfl:i=p.W.length:=ω
 repeat'(first|refine gE ?_|(conv=>whnf);first|with_reducible (first|refine Bf.D (λa=>?_) (λa=>?_)|refine Bf.NB (λa=>?_) (λa=>?_)|refine Bf.N (λa=>?_) (λa=>?_))|refine C7 (aE _ 0 31) ?_)
 all_goals exact U0 (λz=>[B z]) ((by unfold eI;rw[d];simp only[Bool.true_and];first|(symm;exact R0 ω)|exact decide_eq_decide.2 ω|(rw[O4];simp;omega)))
def Dd(p:cI)(e:cI.sml p):ao Tryz.prog 77 false [.val (some 3) (cI.enc .U p)] .one [B (eI p)]:=by
 have h:p.W.length<=1048576:=e;refine fO 46 [] Tryz.func77 rfl ?_
 repeat'(first|refine gP ?_|fail)
 (conv=>whnf)
 refine CE (ι:=Nat) (λi=>[(1,.F .box (cI.enc .U p)),(6,.F .one (aF .U p.W)),(7,.F .one [I (p.W.length)]),(8,.F .one [I ((i:Nat):Int)])]) (λi=>i<=p.W.length/\cV i (mT p.W)=true) (λi=>p.W.length - i) 0 ?_ ⟨T0 _,rfl⟩ λi c=>?_
 ·exact wB
 obtain⟨c,d⟩:=c;by_cases b:i<p.W.length
 ·have g:=ah b
  repeat'(first|refine gE ?_|(conv=>whnf);first|with_reducible (first|refine CA (aa g) ?_|refine Bf.D (λa=>?_) (λa=>?_))|refine C7 (HE _) ?_|refine CL ω (aa (fA ω b)) ?_)
  all_goals first
   | exact U0 (λz=>[B z]) ((by symm;unfold eI;rw[cn b (R0 ω)];rfl))
   | ((conv=>whnf);refine CD (i+1) ⟨ω,bJ d (O0 ω)⟩ ω ?_;(exact wB))
 obtain rfl:i=p.W.length:=ω
 repeat'(first|refine gE ?_|(conv=>whnf);first|with_reducible (first|refine Bf.D (λa=>?_) (λa=>?_)|refine Bf.NB (λa=>?_) (λa=>?_)|refine Bf.N (λa=>?_) (λa=>?_))|refine C7 (aL _ 0 31) ?_)
 all_goals exact U0 (λz=>[B z]) ((by unfold eI;rw[d];simp only[Bool.true_and];first|(symm;exact R0 ω)|exact decide_eq_decide.2 ω|(rw[O4];simp;omega)))
def vt(j:cU)(a:cU.sml j):ao Tryz.prog 143 false [.val (some 5) (cU.enc .U j)] .one [B (jj j)]:=by
 have e:j.k.W.length<=1048576:=a;have b:=tL j.k a;cases c:eI j.k<;>rw[c]at b
 all_goals
  refine fO 20 [] Tryz.func143 rfl ?_
  repeat'(first|refine gP ?_|(conv=>whnf);first|with_reducible refine Bf.D (λd=>?_) (λd=>?_)|refine C7 b ?_|refine C7 (aE _ 0 5) ?_|refine C7 (aE _ 0 _) ?_)
  all_goals exact U0 (λz=>[B z]) ((by unfold jj;rw[c];first|rfl|(symm;exact R0 ω)|(rw[O4];simp;omega)))
def EX(j:cU)(a:cU.sml j):ao Tryz.prog 43 false [.val (some 5) (cU.enc .U j)] .one [B (jj j)]:=by
 have e:j.k.W.length<=1048576:=a;have b:=Dd j.k a;cases c:eI j.k<;>rw[c]at b
 all_goals
  refine fO 20 [] Tryz.func43 rfl ?_
  repeat'(first|refine gP ?_|(conv=>whnf);first|with_reducible refine Bf.D (λd=>?_) (λd=>?_)|refine C7 b ?_|refine C7 (aL _ 0 5) ?_|refine C7 (aL _ 0 _) ?_)
  all_goals exact U0 (λz=>[B z]) ((by unfold jj;rw[c];first|rfl|(symm;exact R0 ω)|(rw[O4];simp;omega)))
theorem jX(l:ay)(k:Nat):lpgs l (k+1)=lpgs l k++[l.Q+(k:Nat)]:=by grind [List.range_succ,lpgs]
theorem Br(l:ay)(k:Nat):(lpgs l k).length=k:=by unfold lpgs;simp
theorem Kn(l:ay){k n:Nat}(h:k<=n):lpgs l k <+: lpgs l n:=by
 induction n with
 | zero=>
  grind
 | succ n a=>
  grind [jX]
theorem ou(sp:List ar){la:List ay}{i:Nat}{l:ay}(h:la[i]? = some l):pgs sp (la.take (i+1))=pgs sp (la.take i)++lpgs l l.a3.toNat:=by grind [Y4,pgs]
theorem N2(sp:List ar)(la:List ay)(i:Nat):pgs sp (la.take i) <+: pgs sp la:=by grind [List.take_append_drop,pgs]
theorem JJ{S all:List Int}{p:Int}(h:(S++[p]) <+: all)(a:p∈S):decide all.Nodup=false:=by grind [List.nodup_append]
theorem kr{S:List Int}{p:Int}(h:S.Nodup)(a:p∉S):(S++[p]).Nodup:=ψ
theorem DM{sp:List ar}{la:List ay}{i:Nat}{s:ar}(h:sp[i]? = some s):((sp.take i).map (·.Q)++[s.Q]) <+: pgs sp la:=by
 have a:(sp.take i).map (·.Q)++[s.Q]=(sp.take (i+1)).map (·.Q):=by grind [Y4]
 rw[a];refine List.IsPrefix.trans ?_ (List.prefix_append ..)
 grind
theorem zg{sp:List ar}{la:List ay}{i k:Nat}{l:ay}(h:la[i]? = some l)(a:k<l.a3.toNat):(pgs sp (la.take i)++lpgs l k++[l.Q+(k:Nat)]) <+: pgs sp la:=by
 refine List.IsPrefix.trans ?_ (N2 sp la (i+1));rw[ou sp h,Z4,<-jX]
 grind [List.prefix_append_right_inj,Kn]
theorem pi{sp:List ar}{la:List ay}{i:Nat}{s:ar}(h:sp[i]? = some s)(a:aT s=false):bf sp la=false:=by grind [bf]
theorem nN{sp:List ar}{la:List ay}{i:Nat}{l:ay}(h:la[i]? = some l)(a:bP l=false):bf sp la=false:=by grind [bf]
theorem jR{sp:List ar}{la:List ay}{S:List Int}{p:Int}(h:(S++[p]) <+: pgs sp la)(a:p∈S):bf sp la=false:=by grind [JJ,bf]
theorem qC{sp:List ar}{la:List ay}(h1:sp.all aT=true)(a:la.all bP=true)(b:(pgs sp la).Nodup):bf sp la=true:=by grind [bf]
theorem aN{l:ay}(h:bP l=true):1<=l.a3/\l.a3<=63/\0<=l.Q/\l.Q<=31:=by grind [bP]
theorem iT(sp:List ar)(la:List ay)(t:dm sp)(u:de la):ao Tryz.prog 134 false [.val none (bM .U sp),.val none (bB .U la)] .one [B (bf sp la)]:=by
 have J:=t.1;have K:=u.1;refine fO 79 [] Tryz.func134 rfl ?_
 repeat'(first|refine gP ?_|fail)
 (conv=>whnf)
 refine CE (ι:=Nat × List Int) (λi=>[(0,.F .one (bM .U sp)),(1,.F .one (bB .U la)),(5,.F .one (aF .own i.2)),(6,.F .one [I ((i.1:Nat):Int)])]) (λi=>i.1<=sp.length/\i.2=(sp.take i.1).map (·.Q)/\(sp.take i.1).all aT=true/\i.2.Nodup) (λi=>sp.length - i.1) ((0,[])) ?_ ψ λi o=>?_
 ·exact wB
 obtain⟨i,S⟩:=i;obtain⟨o,q,d,h⟩:=o;simp only at o q d h |-;have L:S.length=i:=ψ
 by_cases w:i<sp.length
 ·have a:=ah w
  have j:=eQ (nth sp i);cases e:aT (nth sp i)<;>rw[e]at j
  ·repeat'(first|refine gE ?_|(conv=>whnf);first|with_reducible refine CA (aa a) ?_|refine C7 j ?_)
   exact U0 (λz=>[B z]) ((pi a e).symm)
  repeat'(first|refine gE ?_|(conv=>whnf);first|with_reducible (first|refine CA (aa a) ?_|refine Bf.D (λy=>?_) (λy=>?_))|refine C7 j ?_|refine CH (lW S _ ω) ⟨⟨rfl,dY _⟩,⟨rfl,rfl⟩,trivial⟩ ?_|refine CN cv (λr E=>by rw[C1.1 E];rfl) (by simp[aW,dn]) (by simp;omega) (by simp only[X0];exact yb (by simp;omega) (by decide)) rfl ?_)
  all_goals first
   | exact U0 (λz=>[B z]) ((jR (S:=S) (by rw[q];exact DM a) (by assumption)).symm)
   | ((conv=>whnf)
      refine CD (i+1,S++[(nth sp i).Q]) ⟨(by simp only;omega),(by simp only;rw[q,Y4,a];simp),(cE a d e),kr h (by assumption)⟩ (by simp only;omega) ?_
      (repeat'(first|exact trivial|rfl|exact CI rfl (CI (U0 (C.s du.own) (by simp[rI])) trivial)|refine CI ?_ ?_)))
 obtain rfl:i=sp.length:=ω
 rw[U4]at d q
 repeat'(first|refine gE ?_|fail)
 (conv=>whnf)
 refine CE (ι:=Nat × List Int) (λi=>[(1,.F .one (bB .U la)),(5,.F .one (aF .own i.2)),(7,.F .one [I ((i.1:Nat):Int)])]) (λi=>i.1<=la.length/\i.2=pgs sp (la.take i.1)/\(la.take i.1).all bP=true/\i.2.Nodup/\i.2.length<=1048576+64*i.1) (λi=>la.length - i.1) ((0,S)) ?_ (⟨T0 _,by grind [pgs],rfl,h,by simp only;omega⟩) λi o=>?_
 ·exact wB
 obtain⟨i,S2⟩:=i;obtain⟨F,l,b,g,G⟩:=o;simp only at F l b g G |-;by_cases w:i<la.length
 ·have a:=ah w
  have j:=na (nth la i);cases e:bP (nth la i)<;>rw[e]at j
  ·repeat'(first|refine gE ?_|(conv=>whnf);first|with_reducible refine CA (aa a) ?_|refine C7 j ?_)
   exact U0 (λz=>[B z]) ((nN a e).symm)
  have M:=aN e
  repeat'(first|refine gE ?_|(conv=>whnf);first|with_reducible refine CA (aa a) ?_|refine C7 j ?_)
  (conv=>whnf)
  refine CE (ι:=Nat × List Int) (λk=>[(1,.F .one (bB .U la)),(5,.F .one (aF .own k.2)),(7,.F .one [I ((i:Nat):Int)]),(8,.F .one [I ((k.1:Nat):Int)])]) (λk=>k.1<=(nth la i).a3.toNat/\k.2=S2++lpgs (nth la i) k.1/\k.2.Nodup) (λk=>(nth la i).a3.toNat - k.1) ((0,S2)) ?_ (⟨T0 _,by simp[lpgs],g⟩) λk H=>?_
  ·exact wB
  obtain⟨k,p⟩:=k;obtain⟨H,n,c⟩:=H;simp only at H n c |-;have N:p.length=S2.length+k:=by grind [Br]
  by_cases O:k<(nth la i).a3.toNat
  ·repeat'(first|refine gE ?_|(conv=>whnf);first|with_reducible (first|refine CA (aa a) ?_|refine Bf.D (λy=>?_) (λy=>?_))|refine CH (lW p _ ω) ⟨⟨rfl,dY _⟩,⟨rfl,rfl⟩,trivial⟩ ?_|refine CN cv (λr E=>by rw[C1.1 E];rfl) (by simp[aW,dn]) (by simp;omega) (by show _*8<=_;simp;omega) rfl ?_)
   all_goals first
    | exact U0 (λz=>[B z]) ((jR (S:=p) (by rw[n,l];exact zg a O) (by assumption)).symm)
    | ((conv=>whnf)
       refine CD (k+1,p++[(nth la i).Q+(k:Nat)]) ⟨(by simp only;omega),(by simp only;rw[n,jX,Z4]),kr c (by assumption)⟩ (by simp only;omega) ?_
       (repeat'(first|exact trivial|rfl|exact CI rfl (CI (U0 (C.s du.own) (by simp[rI])) trivial)|refine CI ?_ ?_)))
  obtain rfl:k=(nth la i).a3.toNat:=ω
  repeat'(first|refine gE ?_|(conv=>whnf);first|with_reducible refine CA (aa a) ?_)
  ((conv=>whnf);refine CD (i+1,p) ⟨(by simp only;omega),(by grind [ou]),(cE a b e),c,(by simp only;omega)⟩ (by simp only;omega) ?_;(exact wB))
 obtain rfl:i=la.length:=ω
 rw[U4]at b l
 repeat'(first|refine gE ?_|fail)
 exact U0 (λz=>[B z]) ((qC d b ψ).symm)
def ins(S:List Int)(p:Int):List Int:=if p∈S then S else S++[p]
theorem GC{p:Int} : ∀{S:List Int},p∈S->mput (eR S) p (.bool true)=eR S
 | x::S,h=>by
  simp only[eR,O5,mput];by_cases a:x=p
  ·rw[CB a,a]
  rw[C9 a];have:=GC (S:=S) ((List.mem_cons.1 h).resolve_left λe=>a e.symm)
  grind [eR]
theorem xb(S:List Int)(p:Int):eR (ins S p)=mput (eR S) p (.bool true):=by grind [GC,sH,ins]
theorem J5(S:List Int)(p:Int):aP Tryz.prog 67 false [.val none [I p],.ptr [.m (eR S)]] [.val none [I p],.ptr [.m (eR (ins S p))]] .one [B (decide (p∉S))]:=by
 refine fM 12 [] [] [(0,0),(0,0)] Tryz.func67 rfl (λu q=>?_)
 repeat'(first|refine gP ?_|(conv=>whnf);first|refine Ml.mk (mW p S) ?_|refine Mu.mk (xb S p) ?_)
 refine CF rfl ?_ ?_
 ·grind
 exact wB
theorem l9(sp:List ar)(la:List ay)(t:dm sp)(u:de la):ao Tryz.prog 34 false [.val none (bM .U sp),.val none (bB .U la)] .one [B (bf sp la)]:=by
 have F:=t.1;have G:=u.1;refine fP 54 [(67,[0,2])] [] Tryz.func34 rfl ?_
 repeat'(first|refine gP ?_|fail)
 (conv=>whnf)
 refine CE (ι:=Nat × List Int) (λi=>[(1,.F .one (bB .U la)),(5,.F .box [.m (eR i.2)]),(6,.fn 67 [5]),(14,.F .one (bM .U sp)),(15,.F .one [I (sp.length)]),(16,.F .one [I ((i.1:Nat):Int)])]) (λi=>i.1<=sp.length/\i.2=(sp.take i.1).map (·.Q)/\(sp.take i.1).all aT=true/\i.2.Nodup) (λi=>sp.length - i.1) ((0,[])) ?_ ψ λi p=>?_
 ·exact wB
 obtain⟨i,S⟩:=i;obtain⟨p,r,e,j⟩:=p;simp only at p r e j |-;by_cases w:i<sp.length
 ·have c:=ah w
  have l:=gU (nth sp i);cases g:aT (nth sp i)<;>rw[g]at l
  ·repeat'(first|refine gE ?_|(conv=>whnf);first|with_reducible refine CA (aa c) ?_|refine C7 l ?_)
   exact U0 (λz=>[B z]) ((pi c g).symm)
  repeat'(first|refine gE ?_|(conv=>whnf);first|with_reducible (first|refine CA (aa c) ?_|refine Bf.D (λy=>?_) (λy=>?_))|refine C7 l ?_|refine CJ (J5 S _) (.inl rfl) ?_)
  all_goals first
   | exact U0 (λz=>[B z]) ((jR (S:=S) (by rw[r];exact DM c) ψ).symm)
   |(have a:(nth sp i).Q∉S:=by assumption
     (conv=>whnf)
     refine CD (i+1,ins S (nth sp i).Q) ⟨(by simp only;omega),(by simp only;unfold ins;rw[C9 a,r,Y4,c];simp),(cE c e g),(by simp only;unfold ins;rw[C9 a];exact kr j a)⟩ (by simp only;omega) ?_
     (exact wA))
 obtain rfl:i=sp.length:=ω
 rw[U4]at e r
 repeat'(first|refine gE ?_|fail)
 (conv=>whnf)
 refine CE (ι:=Nat × List Int) (λi=>[(5,.F .box [.m (eR i.2)]),(6,.fn 67 [5]),(31,.F .one (bB .U la)),(32,.F .one [I (la.length)]),(33,.F .one [I ((i.1:Nat):Int)])]) (λi=>i.1<=la.length/\i.2=pgs sp (la.take i.1)/\(la.take i.1).all bP=true/\i.2.Nodup) (λi=>la.length - i.1) ((0,S)) ?_ (⟨T0 _,by grind [pgs],rfl,j⟩) λi p=>?_
 ·exact wB
 obtain⟨i,S2⟩:=i;obtain⟨C,n,b,h⟩:=p;simp only at C n b h |-;by_cases w:i<la.length
 ·have c:=ah w
  have l:=qR (nth la i);cases g:bP (nth la i)<;>rw[g]at l
  ·repeat'(first|refine gE ?_|(conv=>whnf);first|with_reducible refine CA (aa c) ?_|refine C7 l ?_)
   exact U0 (λz=>[B z]) ((nN c g).symm)
  have H:=aN g
  repeat'(first|refine gE ?_|(conv=>whnf);first|with_reducible refine CA (aa c) ?_|refine C7 l ?_)
  (conv=>whnf)
  refine CE (ι:=Nat × List Int) (λk=>[(5,.F .box [.m (eR k.2)]),(6,.fn 67 [5]),(10,.F .box (ay.enc .U (nth la i))),(11,.F .one [I ((k.1:Nat):Int)]),(31,.F .one (bB .U la)),(32,.F .one [I (la.length)]),(33,.F .one [I ((i:Nat):Int)])]) (λk=>k.1<=(nth la i).a3.toNat/\k.2=S2++lpgs (nth la i) k.1/\k.2.Nodup) (λk=>(nth la i).a3.toNat - k.1) ((0,S2)) ?_ (⟨T0 _,by simp[lpgs],h⟩) λk E=>?_
  ·exact wB
  obtain⟨k,q⟩:=k;obtain⟨E,o,d⟩:=E;simp only at E o d |-;by_cases J:k<(nth la i).a3.toNat
  ·repeat'(first|refine gE ?_|(conv=>whnf);first|with_reducible refine Bf.D (λy=>?_) (λy=>?_)|refine CJ (J5 q _) (.inl rfl) ?_)
   all_goals first
    | exact U0 (λz=>[B z]) ((jR (S:=q) (by rw[o,n];exact zg c J) ψ).symm)
    |(have a:(nth la i).Q+(k:Nat)∉q:=by assumption
      (conv=>whnf)
      refine CD (k+1,ins q ((nth la i).Q+(k:Nat))) ⟨(by simp only;omega),(by simp only;unfold ins;rw[C9 a,o,jX,Z4]),(by simp only;unfold ins;rw[C9 a];exact kr d a)⟩ (by simp only;omega) ?_
      (exact wA))
  obtain rfl:k=(nth la i).a3.toNat:=ω
  repeat'(first|refine gE ?_|fail)
  ((conv=>whnf);refine CD (i+1,q) ⟨(by simp only;omega),(by grind [ou]),(cE c b g),d⟩ (by simp only;omega) ?_;(exact wB))
 obtain rfl:i=la.length:=ω
 rw[U4]at b n
 repeat'(first|refine gE ?_|fail)
 exact U0 (λz=>[B z]) ((qC e b ψ).symm)
theorem aB{s:ar}(h:aT s=true):0<=s.Q/\s.Q<=31/\0<=s.Y/\s.Y<=3:=by grind [aT]
theorem bW{k:Int}(h:0<=k/\k<=3):csz k=1\/csz k=2\/csz k=4\/csz k=8:=by
 obtain rfl|rfl|rfl|rfl:k=0\/k=1\/k=2\/k=3:=ω
 all_goals decide
def ku{x y:Int}(h:0<=x):x.tdiv y=x / y:=Int.tdiv_eq_ediv_of_nonneg h
def fQ{x y:Int}(h:0<=x):x.tmod y=x % y:=Int.tmod_eq_emod_of_nonneg h
def S2(p:Int × Int):List C:=[I p.1,I p.2]
theorem yL{a b:Int}{p:Int × Int}(h:(a,b)=p):[I a,I b]=S2 p:=by subst h;rfl
theorem tz(s:ar)(a:Int)(k:jF a):ao Tryz.prog 191 false [.val (some 3) (ar.enc .U s),.val none [I a]] (.tup [none,none]) (S2 (iz s a)):=by
 have c:=eQ s;have l:=bV s.Y;obtain⟨n,o⟩:=k;cases d:aT s<;>rw[d]at c
 ·refine fO 33 [(4,12,[23,24,25,26,27,28,29,30,31,32,4,5])] Tryz.func191 rfl ?_ (.inr ⟨trivial,trivial,trivial⟩)
  repeat'(first|refine gP ?_|(conv=>whnf);first|refine C7 c ?_)
  exact yL (by grind [iz,cL])
 have h:=aB d;have i:=bW ⟨h.2.2.1,h.2.2.2⟩;by_cases g:16*s.Q<=a/\a<=16*s.Q+15
 ·have j:0<=a:=ω
  refine fO 33 [(4,12,[23,24,25,26,27,28,29,30,31,32,4,5])] Tryz.func191 rfl ?_ (.inr ⟨trivial,trivial,trivial⟩)
  repeat'(first|refine gE ?_|(conv=>whnf);first|with_reducible refine Bf.N (λb=>?_) (λb=>?_)|refine C7 c ?_|refine C7 l ?_|refine CM (by decide) ?_|refine CM ω ?_|refine CK ((U0 _ (ku j)).trans (ed ω ω)) ?_|refine CS (fQ j) ?_|refine CK ((U0 _ (ku ω)).trans (ed (by rcases i with e|e|e|e<;>rw[e]<;>omega) (by rcases i with e|e|e|e<;>rw[e]<;>omega))) ?_|refine CS (fQ ω) ?_)
  all_goals grind [yL,iz,cL]
 refine fO 33 [(4,12,[23,24,25,26,27,28,29,30,31,32,4,5])] Tryz.func191 rfl ?_ (.inr ⟨trivial,trivial,trivial⟩)
 repeat'(first|refine gP ?_|(conv=>whnf);first|with_reducible (first|refine Bf.D (λb=>?_) (λb=>?_)|refine Bf.N (λb=>?_) (λb=>?_))|refine C7 c ?_|refine CM (by decide) ?_|refine CK ((U0 _ (ku ω)).trans (ed ω ω)) ?_)
 all_goals first
  |exact yL (by unfold iz cL;rw[d,R0 g];rfl)
  |(exfalso;omega)
theorem Dg(s:ar)(a:Int):ao Tryz.prog 54 false [.val (some 3) (ar.enc .U s),.val none [I a]] (.tup [none,none]) (S2 (iz s a)):=by
 have b:=gU s;have j:=cA s.Y;cases c:aT s<;>rw[c]at b
 ·refine fO 38 [(4,12,[28,29,30,31,32,33,34,35,36,37,4,5])] Tryz.func54 rfl ?_ (.inr ⟨trivial,trivial,trivial⟩)
  repeat'(first|refine gP ?_|(conv=>whnf);first|refine C7 b ?_)
  exact yL (by grind [iz,cL])
 have h:=aB c;have i:=bW ⟨h.2.2.1,h.2.2.2⟩;by_cases d:16*s.Q<=a/\a<=16*s.Q+15
 ·refine fO 38 [(4,12,[28,29,30,31,32,33,34,35,36,37,4,5])] Tryz.func54 rfl ?_ (.inr ⟨trivial,trivial,trivial⟩)
  repeat'(first|refine gE ?_|(conv=>whnf);first|with_reducible refine Bf.D (λg=>?_) (λg=>?_)|refine C7 b ?_|refine C7 j ?_|refine C7 (aL _ _ _) ?_|refine CM ω ?_|refine CK ((U0 _ (ku ω)).trans (ed (by rcases i with e|e|e|e<;>rw[e]<;>omega) (by rcases i with e|e|e|e<;>rw[e]<;>omega))) ?_|refine CS (fQ ω) ?_)
  grind [yL,iz,cL]
 refine fO 38 [(4,12,[28,29,30,31,32,33,34,35,36,37,4,5])] Tryz.func54 rfl ?_ (.inr ⟨trivial,trivial,trivial⟩)
 repeat'(first|refine gE ?_|(conv=>whnf);first|with_reducible refine Bf.D (λg=>?_) (λg=>?_)|refine C7 b ?_|refine C7 (aL _ _ _) ?_)
 all_goals exact yL (by unfold iz cL;rw[c,R0 d];rfl)
def oB(b i:Int):ao Tryz.prog 271 false [.val none [I b],.val none [I i]] .one [B (decide (0<=b/\0<=i/\i<=15))]:=by
 refine fO 11 [] Tryz.func271 rfl ?_
 repeat'(first|refine gP ?_|(conv=>whnf);first|with_reducible refine Bf.D (λa=>?_) (λa=>?_)|refine C7 (aE _ 0 15) ?_)
 all_goals exact U0 (λz=>[B z]) ((by first|(symm;exact R0 ω)|exact decide_eq_decide.2 ω))
def zf(b i:Int):ao Tryz.prog 83 false [.val none [I b],.val none [I i]] .one [B (decide (0<=b/\0<=i/\i<=15))]:=by
 refine fO 11 [] Tryz.func83 rfl ?_
 repeat'(first|refine gP ?_|(conv=>whnf);first|with_reducible refine Bf.D (λa=>?_) (λa=>?_)|refine C7 (aL _ 0 15) ?_)
 all_goals exact U0 (λz=>[B z]) ((by first|(symm;exact R0 ω)|exact decide_eq_decide.2 ω))
theorem JE{b i:Int}(a:0<=b/\b<=9223372036854775807)(e:0<=i/\i<=15):b.fdiv (2 ^ min i.toNat IntKind.i64.bits)=b / 2 ^ i.toNat/\0<=b / 2 ^ i.toNat/\b / 2 ^ i.toNat<=9223372036854775807:=by
 have d:min i.toNat IntKind.i64.bits=i.toNat:=Nat.min_eq_left (show i.toNat<=64 by omega);rw[d];have c:(0:Int)<=2 ^ i.toNat:=ψ
 refine⟨Int.fdiv_eq_ediv_of_nonneg _ c,Int.ediv_nonneg a.1 c,?_⟩;have:=Int.ediv_le_self (2 ^ i.toNat:Int) a.1;omega
theorem wj{b i:Int}(a:0<=b)(c:0<=i/\i<=15):((((b / 2 ^ i.toNat).toNat &&& (1:Int).toNat:Nat):Int) == 1)=aQ b i:=by
 have d:(0:Int)<=b / 2 ^ i.toNat:=Int.ediv_nonneg a ψ
 grind [aQ]
theorem fZ(b i:Int)(c:b<=9223372036854775807):ao Tryz.prog 251 false [.val none [I b],.val none [I i]] .one [B (aQ b i)]:=by
 by_cases h:0<=b/\0<=i/\i<=15
 ·obtain⟨d,g⟩:=JE (b:=b) (i:=i) ⟨h.1,c⟩ h.2
  have j:IntKind.u64.wrap i=i:=by grind [Go.IntKind.wrap,Go.IntKind.bits]
  refine fO 16 [] Tryz.func251 rfl ?_
  repeat'(first|refine gE ?_|(conv=>whnf);first|with_reducible refine Bf.D (λa=>?_) (λa=>?_)|refine C7 (oB _ _) ?_|refine CM ω ?_|refine CK j ?_|refine CS d ?_|refine CK (and64 g ⟨by decide,by decide⟩) ?_)
  grind [wj]
 refine fO 16 [] Tryz.func251 rfl ?_
 repeat'(first|refine gE ?_|(conv=>whnf);first|with_reducible refine Bf.D (λa=>?_) (λa=>?_)|refine C7 (oB _ _) ?_)
 all_goals exact U0 (λz=>[B z]) ((by unfold aQ;symm;exact R0 λe=>h ⟨e.1,e.2.1,e.2.2.1⟩))
theorem m6(b i:Int)(c:b<=9223372036854775807):ao Tryz.prog 55 false [.val none [I b],.val none [I i]] .one [B (aQ b i)]:=by
 by_cases h:0<=b/\0<=i/\i<=15
 ·obtain⟨d,g⟩:=JE (b:=b) (i:=i) ⟨h.1,c⟩ h.2
  refine fO 15 [] Tryz.func55 rfl ?_
  repeat'(first|refine gE ?_|(conv=>whnf);first|with_reducible refine Bf.D (λa=>?_) (λa=>?_)|refine C7 (zf _ _) ?_|refine CM ω ?_|refine CS d ?_|refine CK (and64 g ⟨by decide,by decide⟩) ?_)
  grind [wj]
 refine fO 15 [] Tryz.func55 rfl ?_
 repeat'(first|refine gE ?_|(conv=>whnf);first|with_reducible refine Bf.D (λa=>?_) (λa=>?_)|refine C7 (zf _ _) ?_)
 all_goals exact U0 (λz=>[B z]) ((by unfold aQ;symm;exact R0 λe=>h ⟨e.1,e.2.1,e.2.2.1⟩))
theorem bR{l:ay}(h:bP l=true):9<=l.d/\l.d<=1000/\0<=l.Q/\l.Q<=31:=by grind [bP]
theorem pp(l:ay)(a:Int):ao Tryz.prog 254 false [.val (some 3) (ay.enc .U l),.val none [I a]] .one [B (bx l a)]:=by
 have b:=na l;cases c:bP l<;>rw[c]at b
 ·refine fO 24 [] Tryz.func254 rfl ?_
  repeat'(first|refine gP ?_|(conv=>whnf);first|refine C7 b ?_)
  exact U0 (λz=>[B z]) ((by grind [bx]))
 have e:=bR c;refine fO 24 [] Tryz.func254 rfl ?_
 repeat'(first|refine gP ?_|(conv=>whnf);first|with_reducible refine Bf.D (λd=>?_) (λd=>?_)|refine C7 b ?_)
 all_goals exact U0 (λz=>[B z]) ((by unfold bx;rw[c,Bool.true_and];first|(symm;exact R0 ω)|exact decide_eq_decide.2 ω))
theorem pu(l:ay)(a:Int):ao Tryz.prog 56 false [.val (some 3) (ay.enc .U l),.val none [I a]] .one [B (bx l a)]:=by
 have b:=qR l;cases c:bP l<;>rw[c]at b
 ·refine fO 21 [] Tryz.func56 rfl ?_
  repeat'(first|refine gP ?_|(conv=>whnf);first|refine C7 b ?_)
  exact U0 (λz=>[B z]) ((by grind [bx]))
 have e:=bR c;refine fO 21 [] Tryz.func56 rfl ?_
 repeat'(first|refine gP ?_|(conv=>whnf);first|with_reducible refine Bf.D (λd=>?_) (λd=>?_)|refine C7 b ?_|refine C7 (aL _ _ _) ?_)
 grind [bx]
theorem sw(l:ay)(a:Int)(h:bx l a=true):ao Tryz.prog 255 false [.val (some 3) (ay.enc .U l),.val none [I a]] .one [I (a - 16*l.Q)]:=by
 have b:=pp l a;rw[h]at b;unfold bx at h;simp only[I0,C0]at h;have c:=bR h.1;refine fO 14 [] Tryz.func255 rfl ?_
 repeat'(first|refine gP ?_|(conv=>whnf);first|refine C7 b ?_)
 grind
theorem ss(l:ay)(a:Int)(h:bx l a=true):ao Tryz.prog 57 false [.val (some 3) (ay.enc .U l),.val none [I a]] .one [I (a - 16*l.Q)]:=by
 have b:=pu l a;rw[h]at b;unfold bx at h;simp only[I0,C0]at h;have c:=bR h.1;refine fO 14 [] Tryz.func57 rfl ?_
 repeat'(first|refine gP ?_|(conv=>whnf);first|refine C7 b ?_)
 grind
theorem oH{m:aI}{i:Nat}(a:i<m.T.length)(h:fW m i=false):b9 m=false:=by grind [cn,b9]
theorem xa{m:aI}(h:¬(1<=m.T.length/\m.T.length<=4/\m.u.length=m.T.length)):b9 m=false:=by grind [b9]
theorem ve{m:aI}(h1:1<=m.T.length/\m.T.length<=4/\m.u.length=m.T.length)(a:cV m.T.length (fW m)=true):b9 m=decide (bo m m.T.length<=30):=by grind [b9]
theorem kX(m:aI)(h:aI.sml m):ao Tryz.prog 137 false [.val (some 2) (aI.enc .U m)] .one [B (b9 m)]:=by
 have r:m.T.length<=1048576:=h.1.1;have t:m.u.length<=1048576:=h.2.1;by_cases u:1<=m.T.length/\m.T.length<=4/\m.u.length=m.T.length
 ·refine fO 92 [(19,15,[75,76,77,78,79,80,81,82,83,84,85,86,87,88,89])] Tryz.func137 rfl ?_
  repeat'(first|refine gB ?_|(conv=>whnf);first|with_reducible (first|refine Bf.D (λa=>?_) (λa=>?_)|refine Bf.N (λa=>?_) (λa=>?_))|refine C7 (aE _ 1 4) ?_)
  (conv=>whnf)
  refine CE (ι:=Nat) (λi=>[(1,.F .box (aI.enc .U m)),(3,.F .one [I (m.T.length)]),(4,.F .one [I (bo m i)]),(5,.F .one [I ((i:Nat):Int)])]) (λi=>i<=m.T.length/\cV i (fW m)=true/\0<=bo m i/\bo m i<=2097152*i) (λi=>m.T.length - i) (0) ?_ (⟨T0 _,rfl,by simp[bo],by simp[bo]⟩) λi n=>?_
  ·exact wB
  obtain⟨n,w,F,G⟩:=n;by_cases j:i<m.T.length
  ·have l:=ah j
   have o:=ah (xs:=m.u) (i:=i) ω;have y:(nth m.T i).length<=1048576:=(h.1.2 _ (am j)).1;have C:(nth m.u i).length<=1048576:=h.2.2 _ ψ
   repeat'(first|refine gE ?_|fail)
   (conv=>whnf)
   refine CE (ι:=Nat) (λk=>[(1,.F .box (aI.enc .U m)),(3,.F .one [I (m.T.length)]),(4,.F .one [I (bo m i)]),(5,.F .one [I ((i:Nat):Int)]),(6,.F .one [I ((k:Nat):Int)])]) (λk=>k<=(nth m.T i).length/\((nth m.T i).take k).all (mL m.T.length)=true) (λk=>(nth m.T i).length - k) (0) ?_ ψ λk p=>?_
   ·exact wB
   obtain⟨p,q⟩:=p;by_cases E:k<(nth m.T i).length
   ·have c:=ah E
    repeat'(first|refine gE ?_|(conv=>whnf);first|with_reducible (first|refine CA (aa l) ?_|refine CA (aa c) ?_|refine Bf.D (λa=>?_) (λa=>?_))|refine C7 (aE _ 0 _) ?_)
    all_goals first
     | exact U0 (λz=>[B z]) ((oH j (by unfold fW;rw[fT c (by unfold mL;exact R0 ω)];rfl)).symm)
     | ((conv=>whnf);refine CD (k+1) ⟨ω,cE c q (by unfold mL;exact O0 ω)⟩ ω ?_;(exact wB))
   have H:=mU ω q
   repeat'(first|refine gE ?_|(conv=>whnf);first|with_reducible refine CA (aa l) ?_)
   (conv=>whnf)
   refine CE (ι:=Nat) (λb=>[(1,.F .box (aI.enc .U m)),(3,.F .one [I (m.T.length)]),(4,.F .one [I (bo m i)]),(5,.F .one [I ((i:Nat):Int)]),(8,.F .one [I ((b:Nat):Int)])]) (λb=>b<=(nth m.u i).length/\((nth m.u i).take b).all Nb=true) (λb=>(nth m.u i).length - b) (0) ?_ ψ λb e=>?_
   ·exact wB
   obtain⟨e,ak2⟩:=e;by_cases lk2:b<(nth m.u i).length
   ·have c:=ah lk2
    repeat'(first|refine gE ?_|(conv=>whnf);first|with_reducible (first|refine CA (aa o) ?_|refine CA (aa c) ?_|refine Bf.D (λa=>?_) (λa=>?_)))
    all_goals first
     | exact U0 (λz=>[B z]) ((oH j (by unfold fW;rw[fT c (by unfold Nb;exact R0 ω)];simp)).symm)
     | ((conv=>whnf);refine CD (b+1) ⟨ω,cE c ak2 (by unfold Nb;exact O0 ω)⟩ ω ?_;(exact wB))
   have ae2:=mU ω ak2;have g:bo m (i+1)=bo m i+((nth m.T i).length+(nth m.u i).length):=rfl;have d:bo m (i+1)=bo m i+(nth m.T i).length+(nth m.u i).length:=by rw[g];omega
   repeat'(first|refine gE ?_|(conv=>whnf);first|with_reducible (first|refine CA (aa l) ?_|refine CA (aa o) ?_))
   ((conv=>whnf);refine CD (i+1) ⟨ω,bJ w (by grind [fW]),ω,ω⟩ ω ?_)
   rw[d];exact wB
  obtain rfl:i=m.T.length:=ω
  repeat'(first|refine gE ?_|fail)
  grind [ve]
 refine fO 92 [(19,15,[75,76,77,78,79,80,81,82,83,84,85,86,87,88,89])] Tryz.func137 rfl ?_
 repeat'(first|refine gP ?_|(conv=>whnf);first|with_reducible (first|refine Bf.D (λa=>?_) (λa=>?_)|refine Bf.N (λa=>?_) (λa=>?_))|refine C7 (aE _ 1 4) ?_)
 all_goals first
  | exact U0 (λz=>[B z]) ((xa u).symm)
  |(exfalso;omega)
theorem th(m:aI)(g:aI.sml m):ao Tryz.prog 36 false [.val (some 2) (aI.enc .U m)] .one [B (b9 m)]:=by
 have q:m.T.length<=1048576:=g.1.1;have r:m.u.length<=1048576:=g.2.1;by_cases t:1<=m.T.length/\m.T.length<=4/\m.u.length=m.T.length
 ·refine fO 82 [(20,15,[64,65,66,67,68,69,70,71,72,73,74,75,76,77,78])] Tryz.func36 rfl ?_
  repeat'(first|refine gB ?_|(conv=>whnf);first|with_reducible (first|refine Bf.D (λa=>?_) (λa=>?_)|refine Bf.N (λa=>?_) (λa=>?_))|refine C7 (aL _ 1 4) ?_)
  (conv=>whnf)
  refine CE (ι:=Nat) (λi=>[(1,.F .box (aI.enc .U m)),(3,.F .one [I (m.T.length)]),(4,.F .one [I (bo m i)]),(25,.F .one [I (m.T.length)]),(26,.F .one [I ((i:Nat):Int)])]) (λi=>i<=m.T.length/\cV i (fW m)=true/\0<=bo m i/\bo m i<=2097152*i) (λi=>m.T.length - i) (0) ?_ (⟨T0 _,rfl,by simp[bo],by simp[bo]⟩) λi n=>?_
  ·exact wB
  obtain⟨n,u,E,F⟩:=n;by_cases h:i<m.T.length
  ·have j:=ah h
   have l:=ah (xs:=m.u) (i:=i) ω;have w:(nth m.T i).length<=1048576:=(g.1.2 _ (am h)).1;have y:(nth m.u i).length<=1048576:=g.2.2 _ ψ
   repeat'(first|refine gE ?_|(conv=>whnf);first|with_reducible refine CA (aa j) ?_)
   (conv=>whnf)
   refine CE (ι:=Nat) (λk=>[(1,.F .box (aI.enc .U m)),(3,.F .one [I (m.T.length)]),(4,.F .one [I (bo m i)]),(5,.F .one [I ((i:Nat):Int)]),(25,.F .one [I (m.T.length)]),(26,.F .one [I ((i:Nat):Int)]),(33,.F .one (cY .U (nth m.T i))),(34,.F .one [I ((nth m.T i).length)]),(35,.F .one [I ((k:Nat):Int)])]) (λk=>k<=(nth m.T i).length/\((nth m.T i).take k).all (mL m.T.length)=true) (λk=>(nth m.T i).length - k) (0) ?_ ψ λk o=>?_
   ·exact wB
   obtain⟨o,p⟩:=o;by_cases C:k<(nth m.T i).length
   ·have c:=ah C
    repeat'(first|refine gE ?_|(conv=>whnf);first|with_reducible (first|refine CA (aa j) ?_|refine CA (aa c) ?_|refine Bf.D (λa=>?_) (λa=>?_))|refine C7 (aL _ 0 _) ?_)
    all_goals first
     | exact U0 (λz=>[B z]) ((oH h (by unfold fW;rw[fT c (by unfold mL;exact R0 ω)];rfl)).symm)
     | ((conv=>whnf);refine CD (k+1) ⟨ω,cE c p (by unfold mL;exact O0 ω)⟩ ω ?_;(exact wB))
   have G:=mU ω p
   repeat'(first|refine gE ?_|(conv=>whnf);first|with_reducible (first|refine CA (aa j) ?_|refine CA (aa l) ?_))
   (conv=>whnf)
   refine CE (ι:=Nat) (λb=>[(1,.F .box (aI.enc .U m)),(3,.F .one [I (m.T.length)]),(4,.F .one [I (bo m i)]),(5,.F .one [I ((i:Nat):Int)]),(25,.F .one [I (m.T.length)]),(26,.F .one [I ((i:Nat):Int)]),(55,.F .one (aF .U (nth m.u i))),(56,.F .one [I ((nth m.u i).length)]),(57,.F .one [I ((b:Nat):Int)])]) (λb=>b<=(nth m.u i).length/\((nth m.u i).take b).all Nb=true) (λb=>(nth m.u i).length - b) (0) ?_ ψ λb d=>?_
   ·exact wB
   obtain⟨d,ak2⟩:=d;by_cases lk2:b<(nth m.u i).length
   ·have c:=ah lk2
    repeat'(first|refine gE ?_|(conv=>whnf);first|with_reducible (first|refine CA (aa l) ?_|refine CA (aa c) ?_|refine Bf.D (λa=>?_) (λa=>?_)))
    all_goals first
     | exact U0 (λz=>[B z]) ((oH h (by unfold fW;rw[fT c (by unfold Nb;exact R0 ω)];simp)).symm)
     | ((conv=>whnf);refine CD (b+1) ⟨ω,cE c ak2 (by unfold Nb;exact O0 ω)⟩ ω ?_;(exact wB))
   have ae2:=mU ω ak2;have e:bo m (i+1)=bo m i+((nth m.T i).length+(nth m.u i).length):=rfl
   repeat'(first|refine gE ?_|(conv=>whnf);first|with_reducible (first|refine CA (aa j) ?_|refine CA (aa l) ?_))
   ((conv=>whnf);refine CD (i+1) ⟨ω,bJ u (by grind [fW]),ω,ω⟩ ω ?_)
   rw[e];exact wB
  obtain rfl:i=m.T.length:=ω
  repeat'(first|refine gE ?_|fail)
  grind [ve]
 refine fO 82 [(20,15,[64,65,66,67,68,69,70,71,72,73,74,75,76,77,78])] Tryz.func36 rfl ?_
 repeat'(first|refine gP ?_|(conv=>whnf);first|with_reducible (first|refine Bf.D (λa=>?_) (λa=>?_)|refine Bf.N (λa=>?_) (λa=>?_))|refine C7 (aL _ 1 4) ?_)
 all_goals first
  | exact U0 (λz=>[B z]) ((xa t).symm)
  |(exfalso;omega)
def yk{s:ar}{a:Int}(h:cL s a=false):S2 (iz s a)=[I (-1),I (-1)]:=by
 unfold iz;rw[h];rfl
def wx{s:ar}{a:Int}(h:cL s a=true):S2 (iz s a)=[I ((a - 16*s.Q) / csz s.Y),I ((a - 16*s.Q) % csz s.Y)]:=by
 unfold iz;rw[h];rfl
theorem rA{s:ar}{a:Int}(h:cL s a=true):aT s=true/\0<=(a - 16*s.Q) / csz s.Y/\(a - 16*s.Q) / csz s.Y<=15:=by
 unfold cL at h;simp only[I0,C0]at h;have b:=aB h.1
 grind [bW]
def my{sp:List ar}{la:List ay}{a:Int}{i:Nat}(b:i<sp.length)(h:cL (nth sp i) a=true)(c:∀(j:Nat)(z:ar),j<i->sp[j]? = some z->cL z a=false):denotes sp la a=nu i (nth sp i) a:=by
 unfold denotes;rw[uM (pr:=(cL · a)) (ah b) h c]
def lc{sp:List ar}{la:List ay}{a:Int}{i n:Nat}(b:sp.length<=n)(c:∀(j:Nat)(z:ar),j<n->sp[j]? = some z->cL z a=false)(d:i<la.length)(h:bx (nth la i) a=true)(e:∀(j:Nat)(z:ay),j<i->la[j]? = some z->bx z a=false) :
  denotes sp la a = ⟨3,i,0,a - 16*(nth la i).Q⟩:=by
 unfold denotes;rw[AA (pr:=(cL · a)) b c,uM (pr:=(bx · a)) (ah d) h e]
theorem wG{sp:List ar}{la:List ay}{a:Int}{n k:Nat}(b:sp.length<=n)(c:∀(j:Nat)(z:ar),j<n->sp[j]? = some z->cL z a=false)(d:la.length<=k)(e:∀(j:Nat)(z:ay),j<k->la[j]? = some z->bx z a=false):denotes sp la a = ⟨0,0,0,0⟩:=by grind [AA,denotes]
theorem m0(sp:List ar)(la:List ay)(a:Int)(d:dm sp)(e:de la)(g:bf sp la=true)(C:jF a):ao Tryz.prog 204 false [.val none (bM .U sp),.val none (bB .U la),.val none [I a]] .agg (iR.enc .own (denotes sp la a)):=by
 have E:=d.1;have F:=e.1;have p:=iT sp la d e;rw[g]at p;refine fO 67 [] Tryz.func204 rfl ?_ (.inr (iR.enc_fr _))
 repeat'(first|refine gP ?_|(conv=>whnf);first|refine C7 p ?_)
 (conv=>whnf)
 refine CE (ι:=Nat) (λi=>[(0,.F .one (bM .U sp)),(1,.F .one (bB .U la)),(2,.F .one [I (a)]),(6,.F .box ([I 0,I 0,I 0,I 0])),(7,.F .one [I ((i:Nat):Int)])]) (λi=>i<=sp.length/\∀(j:Nat)(z:ar),j<i->sp[j]? = some z->cL z a=false) (λi=>sp.length - i) (0) ?_ ψ λi q=>?_
 ·exact wB
 obtain⟨q,l⟩:=q;by_cases r:i<sp.length
 ·have h:=ah r
  have b:=tz (nth sp i) a C;cases c:cL (nth sp i) a with
  | false=>
   rw[yk c]at b
   repeat'(first|refine gE ?_|(conv=>whnf);first|with_reducible (first|refine CA (aa h) ?_|refine Bf.D (λo=>?_) (λo=>?_))|refine C7 b ?_)
   ((conv=>whnf);refine CD (i+1) ψ ω ?_;(exact wB))
  | true=>
   rw[wx c]at b;obtain⟨G,H,J⟩:=rA c;have t:=fZ (nth sp i).a6 ((a - 16*(nth sp i).Q) / csz (nth sp i).Y) (dJ G).2;cases u:aQ (nth sp i).a6 ((a - 16*(nth sp i).Q) / csz (nth sp i).Y)<;>rw[u]at t
   all_goals
    repeat'(first|refine gE ?_|(conv=>whnf);first|with_reducible (first|refine CA (aa h) ?_|refine Bf.D (λo=>?_) (λo=>?_))|refine C7 b ?_|refine C7 t ?_)
    all_goals(rw[my r c l];unfold nu;rw[u];rfl)
 repeat'(first|refine gE ?_|fail)
 (conv=>whnf)
 refine CE (ι:=Nat) (λk=>[(1,.F .one (bB .U la)),(2,.F .one [I (a)]),(6,.F .box ([I 0,I 0,I 0,I 0])),(11,.F .one [I ((k:Nat):Int)])]) (λk=>k<=la.length/\∀(j:Nat)(z:ay),j<k->la[j]? = some z->bx z a=false) (λk=>la.length - k) (0) ?_ ψ λk w=>?_
 ·exact wB
 obtain⟨w,y⟩:=w;by_cases B:k<la.length
 ·have h:=ah B
  have b:=pp (nth la k) a;cases c:bx (nth la k) a<;>rw[c]at b
  ·repeat'(first|refine gE ?_|(conv=>whnf);first|with_reducible refine CA (aa h) ?_|refine C7 b ?_)
   ((conv=>whnf);refine CD (k+1) ψ ω ?_;(exact wB))
  repeat'(first|refine gE ?_|(conv=>whnf);first|with_reducible refine CA (aa h) ?_|refine C7 b ?_|refine C7 (sw (nth la k) a c) ?_)
  rw[lc (n:=i) ω l B c y];rfl
 repeat'(first|refine gE ?_|fail)
 rw[wG (n:=i) (k:=k) ω l ω y];rfl
theorem mw(sp:List ar)(la:List ay)(a:Int)(e:dm sp)(g:de la):ao Tryz.prog 25 false [.val none (bM .U sp),.val none (bB .U la),.val none [I a]] .agg (iR.enc .own (denotes sp la a)):=by
 have y:=e.1;have B:=g.1;refine fO 56 [] Tryz.func25 rfl ?_ (.inr (iR.enc_fr _))
 repeat'(first|refine gP ?_|fail)
 (conv=>whnf)
 refine CE (ι:=Nat) (λi=>[(1,.F .one (bB .U la)),(2,.F .one [I (a)]),(6,.F .box ([I 0,I 0,I 0,I 0])),(14,.F .one (bM .U sp)),(15,.F .one [I (sp.length)]),(16,.F .one [I ((i:Nat):Int)])]) (λi=>i<=sp.length/\∀(j:Nat)(z:ar),j<i->sp[j]? = some z->cL z a=false) (λi=>sp.length - i) (0) ?_ ψ λi o=>?_
 ·exact wB
 obtain⟨o,h⟩:=o;by_cases p:i<sp.length
 ·have d:=ah p
  have b:=Dg (nth sp i) a;cases c:cL (nth sp i) a with
  | false=>
   rw[yk c]at b
   repeat'(first|refine gE ?_|(conv=>whnf);first|with_reducible (first|refine CA (aa d) ?_|refine Bf.D (λl=>?_) (λl=>?_))|refine C7 b ?_)
   ((conv=>whnf);refine CD (i+1) ψ ω ?_;(exact wB))
  | true=>
   rw[wx c]at b;obtain⟨C,E,F⟩:=rA c;have q:=m6 (nth sp i).a6 ((a - 16*(nth sp i).Q) / csz (nth sp i).Y) (dJ C).2;cases r:aQ (nth sp i).a6 ((a - 16*(nth sp i).Q) / csz (nth sp i).Y)<;>rw[r]at q
   all_goals
    repeat'(first|refine gE ?_|(conv=>whnf);first|with_reducible (first|refine CA (aa d) ?_|refine Bf.D (λl=>?_) (λl=>?_))|refine C7 b ?_|refine C7 q ?_)
    all_goals(rw[my p c h];unfold nu;rw[r];rfl)
 repeat'(first|refine gE ?_|fail)
 (conv=>whnf)
 refine CE (ι:=Nat) (λk=>[(2,.F .one [I (a)]),(6,.F .box ([I 0,I 0,I 0,I 0])),(39,.F .one (bB .U la)),(40,.F .one [I (la.length)]),(41,.F .one [I ((k:Nat):Int)])]) (λk=>k<=la.length/\∀(j:Nat)(z:ay),j<k->la[j]? = some z->bx z a=false) (λk=>la.length - k) (0) ?_ ψ λk t=>?_
 ·exact wB
 obtain⟨t,u⟩:=t;by_cases w:k<la.length
 ·have d:=ah w
  have b:=pu (nth la k) a;cases c:bx (nth la k) a<;>rw[c]at b
  ·repeat'(first|refine gE ?_|(conv=>whnf);first|with_reducible refine CA (aa d) ?_|refine C7 b ?_)
   ((conv=>whnf);refine CD (k+1) ψ ω ?_;(exact wB))
  repeat'(first|refine gE ?_|(conv=>whnf);first|with_reducible refine CA (aa d) ?_|refine C7 b ?_|refine C7 (ss (nth la k) a c) ?_)
  rw[lc (n:=i) ω h w c u];rfl
 repeat'(first|refine gE ?_|fail)
 rw[wG (n:=i) (k:=k) ω h ω u];rfl
section
variable{α:Type}
def Er(ag:Option Nat)(e:α->List C)(pr:α->Bool)(xs:List α):List (Option Nat × List C)->Kd->List C->Prop:=λL k rcs=>∃x,x∈xs/\L=[(ag,e x)]/\k=.one/\rcs=[B (pr x)]
end
def un(xs:List a8)(pr:a8->Bool)(n:xs.length<=9223372036854775807):ao Tryz.prog 155 false [.val none (bH .U xs),.fn (qk Tryz.prog (Er (some 2) (a8.enc .U) pr xs))] .one [I (d7 pr xs)]:=by
 refine fO 19 [] Tryz.func155 rfl ?_
 repeat'(first|refine gP ?_|fail)
 (conv=>whnf)
 refine CE (ι:=Nat) (λi=>[(0,.F .one (bH .U xs)),(1,.fv (qk Tryz.prog (Er (some 2) (a8.enc .U) pr xs))),(7,.F .one [I xs.length]),(8,.F .one [I (i:Nat)])]) (λi=>i<=xs.length/\∀(j:Nat)(z:a8),j<i->xs[j]? = some z->pr z=false) (λi=>xs.length - i) 0 ?_ ⟨T0 _,λj z h=>ω⟩ λi e=>?_
 ·exact wB
 obtain⟨e,b⟩:=e;by_cases c:i<xs.length
 ·obtain⟨y,a⟩ : ∃y,xs[i]? = some y:=⟨_,W1 c⟩
  repeat'(first|refine gE ?_|(conv=>whnf);first|with_reducible refine CA (aa a) ?_|refine Fv.mk (k:=.one) (rcs:=[B (pr y)]) ⟨y,U1 a,rfl,rfl,rfl⟩ ?_|refine Bf.P (λl=>?_) (λl=>?_))
  ·exact U0 (λz=>[I z]) (dX a ‹_› b).symm
  (conv=>whnf)
  refine CD (i+1) ⟨ω,λj z h d=>?_⟩ ω ?_
  ·rcases Nat.lt_or_ge j i with g|g
   ·exact b j z g d
   obtain rfl:j=i:=ω
   rw[a]at d;cases d;assumption
  exact wB
 repeat'(first|refine gE ?_|fail)
 exact U0 (λz=>[I z]) (fS ω b).symm
theorem pO(xs:List a8)(pr:a8->Bool)(a:xs.length<=9223372036854775807):ao Tryz.prog 103 false [.val none (bH .U xs),.fn (qk Tryz.prog (Er (some 2) (a8.enc .U) pr xs))] .one [B (xs.any pr)]:=by
 refine fO 9 [] Tryz.func103 rfl ?_
 repeat'(first|refine gP ?_|(conv=>whnf);first|refine C7 (un xs pr a) ?_)
 grind [oK]
def tf(r:a8)(page:Int):ao Tryz.prog 104 false [.val (some 2) (a8.enc .U r),.ptr [I page]] .one [B (tU page r)]:=by
 refine fO 17 [] Tryz.func104 rfl ?_
 repeat'(first|refine gP ?_|(conv=>whnf);first|with_reducible refine Bf.D (λa=>?_) (λa=>?_)|refine CK rfl ?_)
 all_goals exact U0 (λz=>[B z]) (by unfold tU;first|(rw[O0 (by assumption:r.At<=page)];simp;done)|(rw[R0 (by assumption:¬r.At<=page)];rfl))
def xw(xs:List a8)(page:Int)(a:xs.length<=9223372036854775807):ao Tryz.prog 70 false [.val none (bH .U xs),.val none [I page]] .one [B (xs.any (tU page))]:=by
 refine fO 8 [] Tryz.func70 rfl ?_
 repeat'(first|refine gP ?_|(conv=>whnf);first|refine Cq.mk (Er (some 2) (a8.enc .U) (tU page) xs) (tf default page).has (λL k rcs b=>?_) ?_|refine C7 (pO xs (tU page) a) ?_)
 ·obtain⟨x,-,rfl,rfl,rfl⟩:=b
  exact tf x page
 rfl
theorem ue(xs:List aK)(pr:aK->Bool)(g:xs.length<=9223372036854775807):ao Tryz.prog 216 false [.val none (cF .U xs),.fn (qk Tryz.prog (Er (some 3) (aK.enc .U) pr xs))] .one [I (d7 pr xs)]:=by
 refine fO 19 [] Tryz.func216 rfl ?_
 repeat'(first|refine gP ?_|fail)
 (conv=>whnf)
 refine CE (ι:=Nat) (λi=>[(0,.F .one (cF .U xs)),(1,.fv (qk Tryz.prog (Er (some 3) (aK.enc .U) pr xs))),(7,.F .one [I xs.length]),(8,.F .one [I (i:Nat)])]) (λi=>i<=xs.length/\∀(j:Nat)(z:aK),j<i->xs[j]? = some z->pr z=false) (λi=>xs.length - i) 0 ?_ ψ λi b=>?_
 ·exact wB
 obtain⟨b,d⟩:=b;by_cases a:i<xs.length
 ·obtain⟨y,c⟩ : ∃y,xs[i]? = some y:=⟨_,W1 a⟩
  repeat'(first|refine gE ?_|(conv=>whnf);first|with_reducible refine CA (aa c) ?_|refine Fv.mk (k:=.one) (rcs:=[B (pr y)]) ⟨y,U1 c,rfl,rfl,rfl⟩ ?_|refine Bf.P (λe=>?_) (λe=>?_))
  ·grind [dX]
  (conv=>whnf)
  refine CD (i+1) ψ ω ?_;exact wB
 repeat'(first|refine gE ?_|fail)
 exact U0 (λz=>[I z]) (fS ω d).symm
theorem qg(xs:List aK)(pr:aK->Bool)(a:xs.length<=9223372036854775807):ao Tryz.prog 156 false [.val none (cF .U xs),.fn (qk Tryz.prog (Er (some 3) (aK.enc .U) pr xs))] .one [B (xs.any pr)]:=by
 refine fO 9 [] Tryz.func156 rfl ?_
 repeat'(first|refine gP ?_|(conv=>whnf);first|refine C7 (ue xs pr a) ?_)
 grind [oK]
theorem xi(xs:List ar)(pr:ar->Bool)(g:xs.length<=9223372036854775807):ao Tryz.prog 78 false [.val none (bM .U xs),.fn (qk Tryz.prog (Er (some 3) (ar.enc .U) pr xs))] .one [I (d7 pr xs)]:=by
 refine fO 19 [] Tryz.func78 rfl ?_
 repeat'(first|refine gP ?_|fail)
 (conv=>whnf)
 refine CE (ι:=Nat) (λi=>[(0,.F .one (bM .U xs)),(1,.fv (qk Tryz.prog (Er (some 3) (ar.enc .U) pr xs))),(7,.F .one [I xs.length]),(8,.F .one [I (i:Nat)])]) (λi=>i<=xs.length/\∀(j:Nat)(z:ar),j<i->xs[j]? = some z->pr z=false) (λi=>xs.length - i) 0 ?_ ψ λi b=>?_
 ·exact wB
 obtain⟨b,d⟩:=b;by_cases a:i<xs.length
 ·obtain⟨y,c⟩ : ∃y,xs[i]? = some y:=⟨_,W1 a⟩
  repeat'(first|refine gE ?_|(conv=>whnf);first|with_reducible refine CA (aa c) ?_|refine Fv.mk (k:=.one) (rcs:=[B (pr y)]) ⟨y,U1 c,rfl,rfl,rfl⟩ ?_|refine Bf.P (λe=>?_) (λe=>?_))
  ·grind [dX]
  (conv=>whnf)
  refine CD (i+1) ψ ω ?_;exact wB
 repeat'(first|refine gE ?_|fail)
 exact U0 (λz=>[I z]) (fS ω d).symm
theorem xv(xs:List bF)(pr:bF->Bool)(g:xs.length<=9223372036854775807):ao Tryz.prog 106 false [.val none (m8 .U xs),.fn (qk Tryz.prog (Er (some 4) (bF.enc .U) pr xs))] .one [I (d7 pr xs)]:=by
 refine fO 19 [] Tryz.func106 rfl ?_
 repeat'(first|refine gP ?_|fail)
 (conv=>whnf)
 refine CE (ι:=Nat) (λi=>[(0,.F .one (m8 .U xs)),(1,.fv (qk Tryz.prog (Er (some 4) (bF.enc .U) pr xs))),(7,.F .one [I xs.length]),(8,.F .one [I (i:Nat)])]) (λi=>i<=xs.length/\∀(j:Nat)(z:bF),j<i->xs[j]? = some z->pr z=false) (λi=>xs.length - i) 0 ?_ ψ λi b=>?_
 ·exact wB
 obtain⟨b,d⟩:=b;by_cases a:i<xs.length
 ·obtain⟨y,c⟩ : ∃y,xs[i]? = some y:=⟨_,W1 a⟩
  repeat'(first|refine gE ?_|(conv=>whnf);first|with_reducible refine CA (aa c) ?_|refine Fv.mk (k:=.one) (rcs:=[B (pr y)]) ⟨y,U1 c,rfl,rfl,rfl⟩ ?_|refine Bf.P (λe=>?_) (λe=>?_))
  ·grind [dX]
  (conv=>whnf)
  refine CD (i+1) ψ ω ?_;exact wB
 repeat'(first|refine gE ?_|fail)
 exact U0 (λz=>[I z]) (fS ω d).symm
theorem sZ(xs:List bF)(pr:bF->Bool)(a:xs.length<=9223372036854775807):ao Tryz.prog 73 false [.val none (m8 .U xs),.fn (qk Tryz.prog (Er (some 4) (bF.enc .U) pr xs))] .one [B (xs.any pr)]:=by
 refine fO 9 [] Tryz.func73 rfl ?_
 repeat'(first|refine gP ?_|(conv=>whnf);first|refine C7 (xv xs pr a) ?_)
 grind [oK]
def MS{k:Nat}(a:k<=3):IntKind.i64.wrap (1*2 ^ min ((k:Nat):Int).toNat IntKind.i64.bits)=csz (k:Nat):=by
 obtain rfl|rfl|rfl|rfl:k=0\/k=1\/k=2\/k=3:=ω
 all_goals decide
theorem Nz{k:Nat}(a:k<=100):IntKind.u64.wrap (k:Nat)=(k:Nat):=by grind [Go.IntKind.wrap,Go.IntKind.bits]
theorem zx{k:Nat}{z:Int}(a:k<=3)(h:csz (k:Nat)<z)(b:z<=8):k<=2:=by
 have c:csz ((3:Nat):Int)=8:=by decide
 grind
theorem vT{k:Nat}{z:Int}(a:k<=3)(h1:1<=z)(b:k=0\/csz ((k - 1:Nat):Int)<z)(c:¬csz (k:Nat)<z):aJ z=(k:Nat):=by
 have d:csz ((0:Nat):Int)=1:=by decide
 have e:csz ((1:Nat):Int)=2:=by decide
 have f:csz ((2:Nat):Int)=4:=by decide
 have g:csz ((3:Nat):Int)=8:=by decide
 unfold aJ;obtain rfl|rfl|rfl|rfl:k=0\/k=1\/k=2\/k=3:=ω
 all_goals grind
def gd(z:Int):ao Tryz.prog 118 false [.val none [I z]] .one [I (aJ z)]:=by
 refine fO 15 [] Tryz.func118 rfl ?_;by_cases c:1<=z/\z<=8
 ·repeat'(first|refine gE ?_|(conv=>whnf);first|with_reducible refine Bf.D (λb=>?_) (λb=>?_)|refine C7 (aE z 1 8) ?_)
  (conv=>whnf)
  refine CE (ι:=Nat) (λk=>[(0,.F .one [I (z)]),(3,.F .one [I ((k:Nat):Int)])]) (λk=>k<=3/\(k=0\/csz ((k - 1:Nat):Int)<z)) (λk=>4 - k) (0) ?_ ω λk a=>?_
  ·exact wB
  obtain⟨a,d⟩:=a
  repeat'(first|refine gP ?_|(conv=>whnf);first|with_reducible refine Bf.D (λb=>?_) (λb=>?_)|refine CK (Nz ω) ?_|refine CK (MS a) ?_|refine CM ω ?_)
  all_goals first
   | exact U0 (λz=>[I z]) (vT a c.1 d (by assumption)).symm
   | ((conv=>whnf);refine CD (k+1) ⟨by have:=zx a (by assumption) c.2;omega,.inr (by simpa using (by assumption:csz (k:Nat)<z))⟩ (by have:=zx a (by assumption) c.2;omega) ?_;(exact wB))
 repeat'(first|refine gE ?_|(conv=>whnf);first|with_reducible refine Bf.D (λb=>?_) (λb=>?_)|refine C7 (aE z 1 8) ?_)
 all_goals exact U0 (λz=>[I z]) (by unfold aJ;(repeat' split)<;>omega)
def mI(z:Int):ao Tryz.prog 21 false [.val none [I z]] .one [I (aJ z)]:=by
 refine fO 14 [] Tryz.func21 rfl ?_;by_cases c:1<=z/\z<=8
 ·repeat'(first|refine gE ?_|(conv=>whnf);first|with_reducible refine Bf.D (λa=>?_) (λa=>?_)|refine C7 (aL z 1 8) ?_)
  (conv=>whnf)
  refine CE (ι:=Nat) (λk=>[(0,.F .one [I (z)]),(3,.F .one [I ((k:Nat):Int)])]) (λk=>k<=3/\(k=0\/csz ((k - 1:Nat):Int)<z)) (λk=>4 - k) (0) ?_ ω λk b=>?_
  ·exact wB
  obtain⟨b,d⟩:=b
  repeat'(first|refine gP ?_|(conv=>whnf);first|with_reducible refine Bf.D (λa=>?_) (λa=>?_)|refine C7 (cA _) ?_)
  all_goals first
   | exact U0 (λz=>[I z]) (vT b c.1 d (by assumption)).symm
   | ((conv=>whnf);refine CD (k+1) ⟨by have:=zx b (by assumption) c.2;omega,.inr (by simpa using (by assumption:csz (k:Nat)<z))⟩ (by have:=zx b (by assumption) c.2;omega) ?_;(exact wB))
 repeat'(first|refine gE ?_|(conv=>whnf);first|with_reducible refine Bf.D (λa=>?_) (λa=>?_)|refine C7 (aL z 1 8) ?_)
 all_goals exact U0 (λz=>[I z]) (by unfold aJ;(repeat' split)<;>omega)
theorem ru(q:bI)(a:Int)(d:bI.sml q):ao Tryz.prog 202 false [.val (some 2) (bI.enc .U q),.val none [I a]] .one [B (q.y.any (dL a))]:=by
 have j:q.y.length<=1048576:=d.1;refine fO 21 [] Tryz.func202 rfl ?_
 repeat'(first|refine gP ?_|fail)
 (conv=>whnf)
 refine CE (ι:=Nat) (λi=>[(1,.F .one [I (a)]),(2,.F .box (bI.enc .U q)),(5,.F .one [I ((i:Nat):Int)])]) (λi=>i<=q.y.length/\(q.y.take i).any (dL a)=false) (λi=>q.y.length - i) (0) ?_ ψ λi c=>?_
 ·exact wB
 obtain⟨c,e⟩:=c;by_cases g:i<q.y.length
 ·have b:=ah g
  repeat'(first|refine gE ?_|(conv=>whnf);first|with_reducible (first|refine CA (aa b) ?_|refine Bf.E (λh=>?_) (λh=>?_)))
  all_goals first
   | exact U0 (λz=>[B z]) ((AO b (O0 (by assumption))).symm)
   | ((conv=>whnf);refine CD (i+1) ⟨ω,wD b e (R0 (by assumption))⟩ ω ?_;(exact wB))
 repeat'(first|refine gE ?_|fail)
 exact U0 (λz=>[B z]) ψ
def ip(xs:List aK)(i:Nat):quarCells xs (i+1)=quarCells xs i+csz (nth xs i).Y:=rfl
theorem mY(k:Int):0<=csz k/\csz k<=8:=by grind [bW,csz]
theorem ox(xs:List aK)(c:kf xs):ao Tryz.prog 203 false [.val none (cF .U xs)] .one [I (quarCells xs xs.length)]:=by
 have g:=c.1;refine fO 20 [] Tryz.func203 rfl ?_
 repeat'(first|refine gP ?_|fail)
 (conv=>whnf)
 refine CE (ι:=Nat) (λi=>[(0,.F .one (cF .U xs)),(3,.F .one [I (quarCells xs i)]),(4,.F .one [I ((i:Nat):Int)])]) (λi=>i<=xs.length/\0<=quarCells xs i/\quarCells xs i<=8*i) (λi=>xs.length - i) (0) ?_ (⟨T0 _,by simp[quarCells],by simp[quarCells]⟩) λi b=>?_
 ·exact wB
 obtain⟨b,h,j⟩:=b;by_cases d:i<xs.length
 ·have e:=ah d
  have k:=mY (nth xs i).Y;have a:=ip xs i
  repeat'(first|refine gE ?_|(conv=>whnf);first|with_reducible refine CA (aa e) ?_|refine C7 (bV _) ?_)
  ((conv=>whnf);refine CD (i+1) ω ω ?_)
  rw[a];exact wB
 repeat'(first|refine gE ?_|fail)
 grind
theorem nD(xs:List aK)(c:kf xs):ao Tryz.prog 20 false [.val none (cF .U xs)] .one [I (quarCells xs xs.length)]:=by
 have g:=c.1;refine fO 19 [] Tryz.func20 rfl ?_
 repeat'(first|refine gP ?_|fail)
 (conv=>whnf)
 refine CE (ι:=Nat) (λi=>[(3,.F .one [I (quarCells xs i)]),(6,.F .one (cF .U xs)),(7,.F .one [I (xs.length)]),(8,.F .one [I ((i:Nat):Int)])]) (λi=>i<=xs.length/\0<=quarCells xs i/\quarCells xs i<=8*i) (λi=>xs.length - i) (0) ?_ (⟨T0 _,by simp[quarCells],by simp[quarCells]⟩) λi b=>?_
 ·exact wB
 obtain⟨b,h,j⟩:=b;by_cases d:i<xs.length
 ·have e:=ah d
  have k:=mY (nth xs i).Y;have a:=ip xs i
  repeat'(first|refine gE ?_|(conv=>whnf);first|with_reducible refine CA (aa e) ?_|refine C7 (cA _) ?_)
  ((conv=>whnf);refine CD (i+1) ω ω ?_)
  rw[a];exact wB
 repeat'(first|refine gE ?_|fail)
 grind
def yH(a:aK):ao Tryz.prog 201 false [.val (some 3) (aK.enc .U a)] .one [B (decide (0<=a.Y/\a.Y<=3/\0<=a.X/\0<=a.c0))]:=by
 refine fO 16 [] Tryz.func201 rfl ?_
 repeat'(first|refine gP ?_|(conv=>whnf);first|with_reducible refine Bf.D (λb=>?_) (λb=>?_)|refine C7 (aE _ 0 3) ?_)
 all_goals exact U0 (λz=>[B z]) ((by first|(symm;exact R0 ω)|exact decide_eq_decide.2 ω))
theorem Ly{xs:List aK}(a:kf xs)(i:Nat):kf (xs.take i):=⟨by have:=a.1;grind,λ_ _=>trivial⟩
def om(q:bI)(a:bI.sml q):ao Tryz.prog 138 false [.val (some 2) (bI.enc .U q)] .one [B (eP q)]:=by
 have l:q.y.length<=1048576:=a.1;refine fO 57 [(5,29,[17,18,19,20,21,22,23,24,25,26,27,28,29,30,31,32,33,34,35,36,37,38,39,40,41,42,43,44,45]),(7,11,[46,47,48,49,50,51,52,53,54,55,56])] Tryz.func138 rfl ?_
 repeat'(first|refine gP ?_|fail)
 (conv=>whnf)
 refine CE (ι:=Nat) (λi=>[(1,.F .box (bI.enc .U q)),(3,.F .one [I ((i:Nat):Int)])]) (λi=>i<=q.y.length/\cV i (iX q.y)=true) (λi=>q.y.length - i) 0 ?_ ⟨T0 _,rfl⟩ λi e=>?_
 ·exact wB
 obtain⟨e,g⟩:=e;by_cases b:i<q.y.length
 ·have j:=ah b
  have h:=ru ⟨0,q.y.take i⟩ (nth q.y i).X (Ly a i);cases c:(q.y.take i).any (dL (nth q.y i).X)<;>rw[show(bI.mk 0 (q.y.take i)).y.any (dL (nth q.y i).X)=_ from c]at h
  all_goals
   repeat'(first|refine gE ?_|(conv=>whnf);first|with_reducible (first|refine CA (aa j) ?_|refine Bf.D (λd=>?_) (λd=>?_))|refine C7 (yH _) ?_|refine CL ω (aa (fA ω b)) ?_|refine CU i rfl (by simp;omega) (λr k=>by obtain⟨z,-,rfl⟩:=X3.1 k;rfl) (V3 ..) ?_|refine C7 h ?_)
   all_goals first
    | exact U0 (λz=>[B z]) ((by symm;unfold eP;rw[cn b (by unfold iX;first|(rw[c];simp;done)|(rw[R0 ω];rfl))];rfl))
    | ((conv=>whnf);refine CD (i+1) ⟨ω,bJ g (by unfold iX;rw[c,O0 ω];rfl)⟩ ω ?_;(exact wB))
 obtain rfl:i=q.y.length:=ω
 repeat'(first|refine gE ?_|(conv=>whnf);first|with_reducible refine Bf.D (λd=>?_) (λd=>?_)|refine C7 (aE _ 0 500) ?_|refine C7 (ox q.y a) ?_)
 all_goals exact U0 (λz=>[B z]) ((by unfold eP;rw[g];simp only[Bool.true_and];first|(symm;exact R0 ω)|exact decide_eq_decide.2 ω))
theorem tQ(b:aK)(a:Int):ao Tryz.prog 157 false [.val (some 3) (aK.enc .U b),.ptr [I a]] .one [B (dL a b)]:=by
 refine fO 8 [] Tryz.func157 rfl ?_
 repeat'(first|refine gP ?_|fail)
 grind [dL]
def xS(xs:List aK)(a:Int)(b:xs.length<=9223372036854775807):ao Tryz.prog 105 false [.val none (cF .U xs),.val none [I a]] .one [B (xs.any (dL a))]:=by
 refine fO 8 [] Tryz.func105 rfl ?_
 repeat'(first|refine gP ?_|(conv=>whnf);first|refine Cq.mk (Er (some 3) (aK.enc .U) (dL a) xs) (tQ default a).has (λL k rcs c=>?_) ?_|refine C7 (qg xs (dL a) b) ?_)
 ·obtain⟨y,-,rfl,rfl,rfl⟩:=c
  exact tQ y a
 rfl
def oY(xs:List aK)(a:aK):Bool:=decide (0<=a.Y/\a.Y<=3/\0<=a.X/\0<=a.c0/\(xs.length=0\/(nth xs (xs.length - 1)).c0<=a.c0))&&!xs.any (dL a.X)
theorem AQ(xs:List aK)(b:aK)(g:xs.length<=1048576):ao Tryz.prog 72 false [.val none (cF .U xs),.val (some 3) (aK.enc .U b)] .one [B (oY xs b)]:=by
 have c:=xS xs b.X ω;cases d:xs.any (dL b.X)<;>rw[d]at c
 ·by_cases h:xs.length=0
  ·refine fO 40 [(3,15,[25,26,27,28,29,30,31,32,33,34,35,36,37,38,39])] Tryz.func72 rfl ?_
   repeat'(first|refine gP ?_|(conv=>whnf);first|with_reducible (first|refine Bf.D (λa=>?_) (λa=>?_)|refine Bf.E (λa=>?_) (λa=>?_))|refine C7 (fj _) ?_|refine C7 c ?_)
   all_goals first
    | exact U0 (λz=>[B z]) ((by unfold oY;rw[d,Bool.not_false,Bool.and_true];first|(symm;exact R0 ω)|(symm;exact O0 ω)|exact decide_eq_decide.2 ω))
    |(exfalso;omega)
    |trace_state
  have e:xs[((xs.length:Int) - 1).toNat]? = some (nth xs (xs.length - 1)):=by rw[show((xs.length:Int) - 1).toNat=xs.length - 1 by omega];grind [ah]
  refine fO 40 [(3,15,[25,26,27,28,29,30,31,32,33,34,35,36,37,38,39])] Tryz.func72 rfl ?_
  repeat'(first|refine gP ?_|(conv=>whnf);first|with_reducible (first|refine Bf.D (λa=>?_) (λa=>?_)|refine Bf.E (λa=>?_) (λa=>?_))|refine C7 (fj _) ?_|refine C7 c ?_|refine CL ω (aa e) ?_)
  all_goals first
   | exact U0 (λz=>[B z]) ((by unfold oY;rw[d,Bool.not_false,Bool.and_true];first|(symm;exact R0 ω)|(symm;exact O0 ω)|exact decide_eq_decide.2 ω))
   |(exfalso;omega)
   |trace_state
 refine fO 40 [(3,15,[25,26,27,28,29,30,31,32,33,34,35,36,37,38,39])] Tryz.func72 rfl ?_
 repeat'(first|refine gP ?_|(conv=>whnf);first|with_reducible refine Bf.D (λa=>?_) (λa=>?_)|refine C7 (fj _) ?_|refine C7 c ?_)
 all_goals exact U0 (λz=>[B z]) ((by unfold oY;rw[d];simp))
theorem Fr{xs:List aK}{i:Nat}(d:i<xs.length):oY (xs.take i) (nth xs i)=iX xs i:=by
 unfold oY iX;have a:(xs.take i).length=i:=ψ
 rw[a]
 congr 1
 refine decide_eq_decide.2 ?_;by_cases b:i=0
 ·subst b;simp
 have c:nth (xs.take i) (i - 1)=nth xs (i - 1):=by
  have:=ah (xs:=xs) (i:=i - 1) ω
  grind [bm]
 rw[c]
theorem Dt(q:bI)(d:bI.sml q):ao Tryz.prog 37 false [.val (some 2) (bI.enc .U q)] .one [B (eP q)]:=by
 have l:q.y.length<=1048576:=d.1;refine fO 32 [(4,7,[13,14,15,16,17,18,19]),(7,11,[21,22,23,24,25,26,27,28,29,30,31])] Tryz.func37 rfl ?_
 repeat'(first|refine gP ?_|fail)
 (conv=>whnf)
 refine CE (ι:=Nat) (λi=>[(1,.F .box (bI.enc .U q)),(6,.F .one (cF .U q.y)),(7,.F .one [I (q.y.length)]),(8,.F .one [I ((i:Nat):Int)])]) (λi=>i<=q.y.length/\cV i (iX q.y)=true) (λi=>q.y.length - i) 0 ?_ ⟨T0 _,rfl⟩ λi e=>?_
 ·exact wB
 obtain⟨e,g⟩:=e;by_cases a:i<q.y.length
 ·have h:=ah a
  have b:=AQ (q.y.take i) (nth q.y i) ψ;rw[Fr a]at b;cases c:iX q.y i<;>rw[c]at b
  all_goals
   repeat'(first|refine gE ?_|(conv=>whnf);first|with_reducible refine CA (aa h) ?_|refine CU i rfl (by simp;omega) (λr j=>by obtain⟨z,-,rfl⟩:=X3.1 j;rfl) (V3 ..) ?_|refine C7 b ?_)
   all_goals first
    | exact U0 (λz=>[B z]) ((by symm;unfold eP;rw[cn a c];rfl))
    | ((conv=>whnf);refine CD (i+1) ⟨ω,bJ g c⟩ ω ?_;(exact wB))
 obtain rfl:i=q.y.length:=ω
 repeat'(first|refine gE ?_|(conv=>whnf);first|with_reducible refine Bf.D (λk=>?_) (λk=>?_)|refine C7 (aL _ 0 500) ?_|refine C7 (nD q.y d) ?_)
 all_goals exact U0 (λz=>[B z]) ((by unfold eP;rw[g];simp only[Bool.true_and];first|(symm;exact R0 ω)|exact decide_eq_decide.2 ω))
def gr(a:List Bool):Nat->Int
 | 0=>0
 | i+1=>gr a i+(if nth a i then 1 else 0)
def d3(f:aU):Int:=if cG f then gr f.a1 f.a1.length else 0
def zl{a:List Bool}{i:Nat}(h:nth a i=true):gr a (i+1)=gr a i+1:=by show gr a i+(if nth a i then 1 else 0)=_;rw[h];rfl
def BB{a:List Bool}{i:Nat}(h:nth a i=false):gr a (i+1)=gr a i:=by show gr a i+(if nth a i then 1 else 0)=_;rw[h];simp
theorem ux(f:aU)(e:aU.sml f):ao Tryz.prog 18 false [.val (some 2) (aU.enc .U f)] .one [I (d3 f)]:=by
 have k:f.a1.length<=1048576:=e.2;have b:=p6 f e;cases g:cG f<;>rw[g]at b
 ·refine fO 21 [] Tryz.func18 rfl ?_
  repeat'(first|refine gP ?_|(conv=>whnf);first|refine C7 b ?_)
  all_goals exact U0 (λz=>[I z]) (by unfold d3;rw[g];rfl)
 refine fO 21 [] Tryz.func18 rfl ?_
 repeat'(first|refine gP ?_|(conv=>whnf);first|refine C7 b ?_)
 (conv=>whnf)
 refine CE (ι:=Nat) (λi=>[(3,.F .one [I (gr f.a1 i)]),(10,.F .one (vR .U f.a1)),(11,.F .one [I (f.a1.length)]),(12,.F .one [I ((i:Nat):Int)])]) (λi=>i<=f.a1.length/\0<=gr f.a1 i/\gr f.a1 i<=i) (λi=>f.a1.length - i) (0) ?_ (⟨T0 _,by simp[gr],by simp[gr]⟩) λi h=>?_
 ·exact wB
 obtain⟨h,l,n⟩:=h;by_cases j:i<f.a1.length
 ·have c:=ah j
  cases d:nth f.a1 i<;>rw[d]at c
  ·have a:=BB d
   repeat'(first|refine gE ?_|(conv=>whnf);first|with_reducible refine CA (aa c) ?_)
   ((conv=>whnf);refine CD (i+1) ω ω ?_)
   rw[a];exact wB
  have a:=zl d
  repeat'(first|refine gE ?_|(conv=>whnf);first|with_reducible refine CA (aa c) ?_)
  ((conv=>whnf);refine CD (i+1) ω ω ?_)
  rw[a];exact wB
 obtain rfl:i=f.a1.length:=ω
 repeat'(first|refine gE ?_|fail)
 grind [d3]
def uo(h:ac):Prop:=aG.sml h.M.G.S
def fo(h:ac)(p:Int)(a:uo h):ao Tryz.prog 198 false [.val (some 24) (ac.enc .U h),.val none [I p]] .one (aF .own (aH h p)):=by
 refine fO 23 [] Tryz.func198 rfl ?_ (.inr (bN _))
 repeat'((conv=>whnf);first|with_reducible (first|refine Lm ?_|refine Wm ω ?_|refine Bf.E (λb=>?_) (λb=>?_)|refine Bn ?_|refine jK.wk rfl ?_)|refine Bt ?_|refine Bu ?_|refine C7 (cX h.M.G.S p a) ?_|refine C7 (ge h.M.G.S _ a) ?_)
 all_goals(unfold aH;first|rw[CB (by assumption)]|rw[C9 (by assumption)])
 all_goals exact⟨rfl,trivial⟩
def nq(h:ac)(p:Int)(a:uo h):ao Tryz.prog 13 false [.val (some 24) (ac.enc .U h),.val none [I p]] .one (aF .own (aH h p)):=by
 refine fO 22 [] Tryz.func13 rfl ?_ (.inr (bN _))
 repeat'((conv=>whnf);first|with_reducible (first|refine Lm ?_|refine Wm ω ?_|refine Bf.E (λb=>?_) (λb=>?_)|refine Bn ?_|refine jK.wk rfl ?_)|refine Bt ?_|refine Bu ?_|refine C7 (kq h.M.G.S p a) ?_|refine C7 (rF h.M.G.S _ a) ?_)
 all_goals(unfold aH;first|rw[CB (by assumption)]|rw[C9 (by assumption)])
 all_goals exact⟨rfl,trivial⟩
theorem BQ(k:af)(p:Int)(a:aG.sml k.G.S):ao Tryz.prog 69 false [.val (some 5) (af.enc .U k),.val none [I p]] .one [B (decide ((au k.G.S p).w≠0))]:=by
 refine fO 12 [] Tryz.func69 rfl ?_
 repeat'(first|refine gP ?_|(conv=>whnf);first|refine C7 (kq k.G.S p a) ?_)
 grind
def nC(z:Int):ao Tryz.prog 41 false [.val none [I z]] .one [B (decide (0<=z/\z<=1073741823))]:=by
 refine fO 5 [] Tryz.func41 rfl ?_
 repeat'(first|refine gP ?_|(conv=>whnf);first|refine C7 (aL z 0 1073741823) ?_)
 rfl
theorem gZ(h:ac)(p:Int)(g:h.H.length<=1048576):ao Tryz.prog 144 false [.val (some 24) (ac.enc .U h),.val none [I p]] .one [I (dN h p)]:=by
 refine fO 22 [] Tryz.func144 rfl ?_
 repeat'(first|refine gP ?_|fail)
 (conv=>whnf)
 refine CE (ι:=Nat) (λi=>[(1,.F .one [I (p)]),(2,.F .box (ac.enc .U h)),(5,.F .one [I ((i:Nat):Int)])]) (λi=>i<=h.H.length/\∀(j:Nat)(z:ar),j<i->h.H[j]? = some z->kn p z=false) (λi=>h.H.length - i) (0) ?_ ψ λi c=>?_
 ·exact wB
 obtain⟨c,a⟩:=c;by_cases d:i<h.H.length
 ·have b:=ah d
  repeat'(first|refine gE ?_|(conv=>whnf);first|with_reducible (first|refine CA (aa b) ?_|refine Bf.E (λe=>?_) (λe=>?_)))
  all_goals first
   | exact U0 (λz=>[I z]) (dX b (O0 (by assumption)) a).symm
   | ((conv=>whnf);refine CD (i+1) ⟨ω,fL b (R0 (by assumption)) a⟩ ω ?_;(exact wB))
 repeat'(first|refine gE ?_|fail)
 exact U0 (λz=>[I z]) (fS ω a).symm
theorem y1(s:ar)(p:Int):ao Tryz.prog 79 false [.val (some 3) (ar.enc .U s),.ptr [I p]] .one [B (kn p s)]:=by
 refine fO 8 [] Tryz.func79 rfl ?_
 repeat'(first|refine gP ?_|fail)
 grind [kn]
def tp(h:ac)(p:Int)(b:h.H.length<=1048576):ao Tryz.prog 44 false [.val (some 24) (ac.enc .U h),.val none [I p]] .one [I (dN h p)]:=by
 refine fO 9 [] Tryz.func44 rfl ?_
 repeat'(first|refine gP ?_|(conv=>whnf);first|refine Cq.mk (Er (some 3) (ar.enc .U) (kn p) h.H) (y1 default p).has (λL k rcs a=>?_) ?_|refine C7 (xi h.H (kn p) ω) ?_)
 ·obtain⟨y,-,rfl,rfl,rfl⟩:=a
  exact y1 y p
 rfl
def flight1(m:aI)(i:Nat):List Int:=(m.T.take i).flatMap λl=>l.map (·.X)
def flight2(m:aI)(i:Nat):List Int:=(m.u.take i).flatten
theorem mc{m:aI}{i:Nat}{l:List dl}(h:m.T[i]? = some l):flight1 m (i+1)=flight1 m i++l.map (·.X):=by grind [Y4,flight1]
theorem mf{m:aI}{i:Nat}{l:List Int}(h:m.u[i]? = some l):flight2 m (i+1)=flight2 m i++l:=by grind [Y4,flight2]
theorem n8{m:aI}(h:b9 m=true):a9 m=flight1 m m.T.length++flight2 m m.u.length:=by grind [a9,flight1,flight2]
theorem t6{m:aI}(h:b9 m=false):a9 m=[]:=by grind [a9]
theorem jL{m:aI}(h:b9 m=true):1<=m.T.length/\m.T.length<=4/\m.u.length=m.T.length:=by grind [b9]
def Ed{l:List Int} : ∀r∈l.map (rI .U),r.length=1:=by
 intro r a;obtain⟨z,-,rfl⟩:=X3.1 a;rfl
def Gs{l:List Int} : ∀r∈l.map (rI .U),aW r=true:=by
 intro r a;obtain⟨z,-,rfl⟩:=X3.1 a;rfl
theorem p8(m:aI)(g:aI.sml m):ao Tryz.prog 206 false [.val (some 2) (aI.enc .U m)] .one (aF .own (a9 m)):=by
 have h:=kX m g;cases d:b9 m<;>rw[d]at h
 ·refine fO 56 [] Tryz.func206 rfl ?_ (.inr (bN _))
  repeat'((conv=>whnf);first|with_reducible (first|refine Lm ?_|refine Wm ω ?_|refine Bn ?_|refine jK.wk rfl ?_)|refine Bt ?_|refine Bu ?_|refine C7 h ?_)
  all_goals(rw[t6 d];exact⟨rfl,trivial⟩)
 obtain⟨D,E,F⟩:=jL d;refine fO 56 [] Tryz.func206 rfl ?_ (.inr (bN _))
 repeat'(first|refine gP ?_|(conv=>whnf);first|refine C7 h ?_)
 (conv=>whnf)
 refine CE (ι:=Nat × List Int) (λi=>[(1,.F .box (aI.enc .U m)),(3,.F .one (aF .own i.2)),(4,.F .one [I ((i.1:Nat):Int)])]) (λi=>i.1<=m.T.length/\i.2=flight1 m i.1/\i.2.length<=1048576*i.1) (λi=>m.T.length - i.1) ((0,[])) ?_ (⟨T0 _,rfl,T0 _⟩) λi j=>?_
 ·exact wB
 obtain⟨i,S⟩:=i;obtain⟨j,p,t⟩:=j;simp only at j p t |-;by_cases q:i<m.T.length
 ·have l:=ah q
  have u:(nth m.T i).length<=1048576:=(g.1.2 _ (am q)).1
  repeat'(first|refine gE ?_|(conv=>whnf);first|with_reducible refine CA (aa l) ?_)
  (conv=>whnf)
  refine CE (ι:=Nat × List Int) (λk=>[(1,.F .box (aI.enc .U m)),(3,.F .one (aF .own k.2)),(4,.F .one [I ((i:Nat):Int)]),(5,.F .one [I ((k.1:Nat):Int)])]) (λk=>k.1<=(nth m.T i).length/\k.2=S++((nth m.T i).take k.1).map (·.X)) (λk=>(nth m.T i).length - k.1) ((0,S)) ?_ ψ λk b=>?_
  ·exact wB
  obtain⟨k,c⟩:=k;obtain⟨b,a⟩:=b;simp only at b a |-;have w:c.length=S.length+k:=ψ
  by_cases e:k<(nth m.T i).length
  ·have n:=ah e
   repeat'(first|refine gE ?_|(conv=>whnf);first|with_reducible (first|refine CA (aa l) ?_|refine CA (aa n) ?_)|refine CN cv (λr y=>by rw[C1.1 y];rfl) (by simp[aW,dn]) (by simp;omega) (by show _*8<=_;simp;omega) rfl ?_)
   ((conv=>whnf)
    refine CD (k+1,c++[(nth (nth m.T i) k).X]) ⟨(by simp only;omega),(by grind [Y4])⟩ (by simp only;omega) ?_
    (repeat'(first|exact trivial|rfl|exact CI rfl (CI (U0 (C.s du.own) (by simp[rI])) trivial)|refine CI ?_ ?_)))
  obtain rfl:k=(nth m.T i).length:=ω
  rw[U4]at a
  repeat'(first|refine gE ?_|(conv=>whnf);first|with_reducible refine CA (aa l) ?_)
  ((conv=>whnf);refine CD (i+1,c) ⟨(by simp only;omega),(by grind [mc]),(by simp only;omega)⟩ (by simp only;omega) ?_;(exact wB))
 obtain rfl:i=m.T.length:=ω
 repeat'(first|refine gE ?_|fail)
 (conv=>whnf)
 refine CE (ι:=Nat × List Int) (λk=>[(1,.F .box (aI.enc .U m)),(3,.F .one (aF .own k.2)),(6,.F .one [I ((k.1:Nat):Int)])]) (λk=>k.1<=m.u.length/\k.2=S++flight2 m k.1/\k.2.length<=S.length+1048576*k.1) (λk=>m.u.length - k.1) ((0,S)) ?_ (⟨T0 _,by simp[flight2],by simp⟩) λk b=>?_
 ·exact wB
 obtain⟨k,c⟩:=k;obtain⟨b,a,o⟩:=b;simp only at b a o |-;by_cases e:k<m.u.length
 ·have n:=ah e
  have B:(nth m.u k).length<=1048576:=g.2.2 _ (am e)
  repeat'(first|refine gE ?_|(conv=>whnf);first|with_reducible refine CA (aa n) ?_|refine CN cv Ed (λ_=>Gs) (by simp;omega) (by show _*8<=_;simp;omega) rfl ?_)
  ((conv=>whnf)
   refine CD (k+1,c++nth m.u k) ⟨(by simp only;omega),(by grind [mf]),ψ⟩ (by simp only;omega) ?_
   (repeat'(first|exact trivial|rfl|exact CI rfl (CI (U0 (C.s du.own) (by simp[rI])) trivial)|refine CI ?_ ?_)))
 obtain rfl:k=m.u.length:=ω
 repeat'(first|refine gE ?_|fail)
 rw[n8 d,<-p,<-a];rfl
theorem pC(m:aI)(g:aI.sml m):ao Tryz.prog 24 false [.val (some 2) (aI.enc .U m)] .one (aF .own (a9 m)):=by
 have h:=th m g;cases d:b9 m<;>rw[d]at h
 ·refine fO 46 [] Tryz.func24 rfl ?_ (.inr (bN _))
  repeat'((conv=>whnf);first|with_reducible (first|refine Lm ?_|refine Wm ω ?_|refine Bn ?_|refine jK.wk rfl ?_)|refine Bt ?_|refine Bu ?_|refine C7 h ?_)
  all_goals(rw[t6 d];exact⟨rfl,trivial⟩)
 obtain⟨D,E,F⟩:=jL d;refine fO 46 [] Tryz.func24 rfl ?_ (.inr (bN _))
 repeat'(first|refine gP ?_|(conv=>whnf);first|refine C7 h ?_)
 (conv=>whnf)
 refine CE (ι:=Nat × List Int) (λi=>[(1,.F .box (aI.enc .U m)),(3,.F .one (aF .own i.2)),(15,.F .one (D9 .U m.T)),(16,.F .one [I (m.T.length)]),(17,.F .one [I ((i.1:Nat):Int)])]) (λi=>i.1<=m.T.length/\i.2=flight1 m i.1/\i.2.length<=1048576*i.1) (λi=>m.T.length - i.1) ((0,[])) ?_ (⟨T0 _,rfl,T0 _⟩) λi j=>?_
 ·exact wB
 obtain⟨i,S⟩:=i;obtain⟨j,o,q⟩:=j;simp only at j o q |-;by_cases p:i<m.T.length
 ·have t:=ah p
  have u:(nth m.T i).length<=1048576:=(g.1.2 _ (am p)).1
  repeat'(first|refine gE ?_|(conv=>whnf);first|with_reducible refine CA (aa t) ?_)
  (conv=>whnf)
  refine CE (ι:=Nat × List Int) (λk=>[(1,.F .box (aI.enc .U m)),(3,.F .one (aF .own k.2)),(15,.F .one (D9 .U m.T)),(16,.F .one [I (m.T.length)]),(17,.F .one [I ((i:Nat):Int)]),(21,.F .one (cY .U (nth m.T i))),(22,.F .one [I ((nth m.T i).length)]),(23,.F .one [I ((k.1:Nat):Int)])]) (λk=>k.1<=(nth m.T i).length/\k.2=S++((nth m.T i).take k.1).map (·.X)) (λk=>(nth m.T i).length - k.1) ((0,S)) ?_ ψ λk b=>?_
  ·exact wB
  obtain⟨k,c⟩:=k;obtain⟨b,a⟩:=b;simp only at b a |-;have w:c.length=S.length+k:=ψ
  by_cases e:k<(nth m.T i).length
  ·have l:=ah e
   repeat'(first|refine gE ?_|(conv=>whnf);first|with_reducible refine CA (aa l) ?_|refine CN cv (λr y=>by rw[C1.1 y];rfl) (by simp[aW,dn]) (by simp;omega) (by show _*8<=_;simp;omega) rfl ?_)
   ((conv=>whnf)
    refine CD (k+1,c++[(nth (nth m.T i) k).X]) ⟨(by simp only;omega),(by grind [Y4])⟩ (by simp only;omega) ?_
    (repeat'(first|exact trivial|rfl|exact CI rfl (CI (U0 (C.s du.own) (by simp[rI])) trivial)|refine CI ?_ ?_)))
  obtain rfl:k=(nth m.T i).length:=ω
  rw[U4]at a
  repeat'(first|refine gE ?_|fail)
  ((conv=>whnf);refine CD (i+1,c) ⟨(by simp only;omega),(by grind [mc]),(by simp only;omega)⟩ (by simp only;omega) ?_;(exact wB))
 obtain rfl:i=m.T.length:=ω
 repeat'(first|refine gE ?_|fail)
 (conv=>whnf)
 refine CE (ι:=Nat × List Int) (λk=>[(3,.F .one (aF .own k.2)),(35,.F .one (ko .U m.u)),(36,.F .one [I (m.u.length)]),(37,.F .one [I ((k.1:Nat):Int)])]) (λk=>k.1<=m.u.length/\k.2=S++flight2 m k.1/\k.2.length<=S.length+1048576*k.1) (λk=>m.u.length - k.1) ((0,S)) ?_ (⟨T0 _,by simp[flight2],by simp⟩) λk b=>?_
 ·exact wB
 obtain⟨k,c⟩:=k;obtain⟨b,a,n⟩:=b;simp only at b a n |-;by_cases e:k<m.u.length
 ·have l:=ah e
  have B:(nth m.u k).length<=1048576:=g.2.2 _ (am e)
  repeat'(first|refine gE ?_|(conv=>whnf);first|with_reducible refine CA (aa l) ?_|refine CN cv Ed (λ_=>Gs) (by simp;omega) (by show _*8<=_;simp;omega) rfl ?_)
  ((conv=>whnf)
   refine CD (k+1,c++nth m.u k) ⟨(by simp only;omega),(by grind [mf]),ψ⟩ (by simp only;omega) ?_
   (repeat'(first|exact trivial|rfl|exact CI rfl (CI (U0 (C.s du.own) (by simp[rI])) trivial)|refine CI ?_ ?_)))
 obtain rfl:k=m.u.length:=ω
 repeat'(first|refine gE ?_|fail)
 rw[n8 d,<-o,<-a];rfl
def tbl(h:ac):aG:=h.M.G.S
def dC(h:ac):Nat:=h.M.G.S.K.length
def vX(xs:List ar)(i:Nat):Bool:=decide (i=0\/(nth xs (i - 1)).Q<(nth xs i).Q)
def vf(xs:List ay)(i:Nat):Bool:=decide (i=0\/(nth xs (i - 1)).Q<(nth xs i).Q)
def wv(h:ac)(l:ay)(k:Nat):Bool:=decide ((aH h (l.Q+(k:Nat))).length=1)
def qO(h:ac)(i:Nat):Bool:=vf h.J i&&cV (nth h.J i).a3.toNat (wv h (nth h.J i))
def tX(h:ac)(p:Nat):Bool:=decide ((nth (tbl h).K p).w≠0↔(p:Int)∈pgs h.H h.J)&&(decide ((nth (tbl h).K p).w≠0) != h.o.any (tU (p:Nat)))
def pages0(h:ac):Bool:=((cV h.H.length (vX h.H)&&cV h.J.length (qO h))&&(pgs h.H h.J).all λp=>decide (p<dC h))&&cV (dC h) (tX h)
def lg(h:ac)(i:Nat)(q:Int):Bool:=decide (dN h q=(i:Nat)) || (decide (0<=dN h q)&&meshable (nth h.H i) (nth h.H (dN h q).toNat))
def rm(h:ac):Bool:=cV h.H.length λi=>(aH h (nth h.H i).Q).all (lg h i)
def lC(h:ac)(i j:Nat):Bool:=decide ((au (tbl h) (nth h.H i).Q).j≠(au (tbl h) (nth h.H j).Q).j) || meshable (nth h.H i) (nth h.H j)
def og(h:ac):Bool:=cV h.H.length λi=>cV i (lC h i)
def jA(z:Int)(o:bF):Bool:=decide (o.Id=z)
def ig(h:ac)(o:bF):Bool:=
 let w:=denotes h.H h.J o.X
 decide (w.d1=0)&&((decide (w.b6=1)&&decide ((nth h.H w.c7.toNat).Y=aJ o.d)) || (decide (w.b6=3)&&decide ((nth h.J w.c7.toNat).d=o.d)))
def gi(a:Int)(h:ac)(i:Nat):Bool:=decide ((i=0\/(nth h.O (i - 1)).X<(nth h.O i).X)/\1<=(nth h.O i).Id/\(nth h.O i).Id<=a/\0<=(nth h.O i).a4/\(nth h.O i).a4<=h.R.length - 1)
def objAt(a:Int)(h:ac)(i:Nat):Bool:=(gi a h i&&!(h.O.take i).any (jA (nth h.O i).Id))&&ig h (nth h.O i)
def eG(h:ac):Bool:=cV h.O.length (objAt (IntKind.i64.wrap (h.a2 - 1)) h)
def cW(h:ac)(a c:Int):Bool:=
 let w:=denotes h.H h.J a
 (decide (w.b6=1)&&decide (w.d1=0))&&(decide (c<0) || decide ((nth h.H w.c7.toNat).Y=c))
def qy(h:ac)(c:aA)(k:Nat):Bool:=(nth c.Z k).all λa=>cW h a (k:Nat)
def dS(h:ac)(c:aA):Bool:=cV c.Z.length (qy h c)
def gx(h:ac)(x:aK):Bool:=cW h x.X x.Y
def jc(h:ac)(a:Int):Bool:=cW h a (-1)
def ci(h:ac):List Int:=h.R.flatMap λc=>c.Z.flatten
def ix(h:ac):Bool:=((h.R.all (dS h))&&h.a0.y.all (gx h))&&(a9 h.b).all (jc h)
def holders(h:ac):List Int:=((h.O.map (·.X)++ci h)++h.a0.y.map (·.X))++a9 h.b
def j9(sp:List ar)(la:List ay)(a:Nat):Bool:=
 let w:=denotes sp la (a:Nat)
 decide (w.d1=0)&&(decide (w.b6=1) || decide (w.b6=3))
def kU(sp:List ar)(la:List ay)(n:Nat):List Int:=((List.range n).filter (j9 sp la)).map λ(i:Nat)=>(i:Int)
def ju(sp:List ar)(la:List ay):List Int:=kU sp la 512
def iE(h:ac):Bool:=(ix h&&decide (holders h).Nodup)&&decide ((holders h).length=(ju h.H h.J).length)
def kV(h:ac):Bool:=h.a0.y.all λx=>decide (x.c0<=h.b5)
def cr(h:ac):Bool:=decide (0<=h.c1/\h.c1<=1073741823/\0<=h.b5/\h.b5<=1000000/\0<=h.c5/\h.c5<=1000/\1<=h.a2/\h.a2<=1000000)
def qz(h:ac):Bool:=if h.b0 then(jj h.b1&&decide (0<=dN h h.b1.k.b2))&&decide (0<=dN h h.b1.k.b3) else qF h.b1
def kg(h:ac):Bool:=((aC h.M&&bw (dC h) h.o)&&bf h.H h.J)&&pages0 h
set_option maxHeartbeats 8000000
theorem dt{sp:List ar}{la:List ay}(h:bf sp la=true):sp.all aT=true/\la.all bP=true/\(pgs sp la).Nodup:=by grind [bf]
def Md{α:Type}[Inhabited α]{xs:List α}{p:α->Bool}{i:Nat}(h:xs.all p=true)(a:i<xs.length):p (nth xs i)=true:=T3.1 h _ (am a)
theorem BK{h:ac}(h1:cV h.H.length (vX h.H)=false):pages0 h=false:=by grind [pages0]
theorem qP{h:ac}(h1:cV h.J.length (qO h)=false):pages0 h=false:=by grind [pages0]
theorem Dr{h:ac}{p:Int}(h1:p∈pgs h.H h.J)(a:¬p<dC h):pages0 h=false:=by grind [pages0]
theorem Bl{h:ac}(h1:cV (dC h) (tX h)=false):pages0 h=false:=by grind [pages0]
theorem xm{h:ac}(h1:cV h.H.length (vX h.H)=true)(a:cV h.J.length (qO h)=true)(b:∀p∈pgs h.H h.J,p<dC h)(c:cV (dC h) (tX h)=true):pages0 h=true:=by grind [pages0]
theorem LP{h:ac}{i:Nat}(h1:vf h.J i=false):qO h i=false:=by grind [qO]
theorem K3{h:ac}{i k:Nat}(a:k<(nth h.J i).a3.toNat)(h1:wv h (nth h.J i) k=false):qO h i=false:=by grind [cn,qO]
theorem Bo{h:ac}{i:Nat}(h1:vf h.J i=true)(a:cV (nth h.J i).a3.toNat (wv h (nth h.J i))=true):qO h i=true:=by grind [qO]
def eC(h:ac)(p:Int):(aH h p).length<=dC h:=by
 unfold aH;split
 ·simp
 exact pL ..
theorem sI{sp:List ar}{la:List ay}(h:bf sp la=true){i:Nat}{l:ay}(a:la[i]? = some l):1<=l.a3/\l.a3<=63/\0<=l.Q/\l.Q<=31:=
 aN (T3.1 (dt h).2.1 l ψ)
theorem B0(h:ac)(y:dm h.H)(E:de h.J)(g:uo h)(F:iQ h.o)(l:bf h.H h.J=true):ao Tryz.prog 135 false [.val (some 24) (ac.enc .U h)] .one [B (pages0 h)]:=by
 have Y:=y.1;have Z:=E.1;have hl3:dC h<=1048576:=g.1;have hl4:=F.1;refine fO 144 [(7,18,[28,29,30,31,32,33,34,35,36,37,38,39,40,41,42,43,44,45]),(13,18,[62,63,64,65,66,67,68,69,70,71,72,73,74,75,76,77,78,79])] Tryz.func135 rfl ?_
 repeat'(first|refine gP ?_|fail)
 (conv=>whnf)
 refine CE (ι:=Nat × List Int) (λi=>[(1,.F .box (ac.enc .U h)),(3,.F .box (aG.enc .U (tbl h))),(4,.F .one [I (dC h)]),(5,.F .one (aF .own i.2)),(6,.F .one [I ((i.1:Nat):Int)])]) (λi=>i.1<=h.H.length/\i.2=(h.H.take i.1).map (·.Q)/\cV i.1 (vX h.H)=true) (λi=>h.H.length - i.1) ((0,[])) ?_ (⟨T0 _,rfl,rfl⟩) λi G=>?_
 ·exact wB
 obtain⟨i,S⟩:=i;obtain⟨G,H,J⟩:=G;simp only at G H J |-;have hSl:S.length=i:=ψ
 by_cases K:i<h.H.length
 ·have b:=ah K
  repeat'(first|refine gE ?_|(conv=>whnf);first|with_reducible (first|refine CA (aa b) ?_|refine Bf.D (λa=>?_) (λa=>?_))|refine CL ω (aa (fA ω K)) ?_|refine CN cv (λr n=>by rw[C1.1 n];rfl) (by simp[aW,dn]) (by simp;omega) (by simp only[X0];exact yb (by simp;omega) (by decide)) rfl ?_)
  all_goals first
   | exact U0 (λz=>[B z]) ((BK (cn K (R0 ω))).symm)
   | ((conv=>whnf)
      refine CD (i+1,S++[(nth h.H i).Q]) ⟨(by simp only;omega),(by simp only;rw[H,Y4,b];simp),bJ J (O0 ω)⟩ (by simp only;omega) ?_
      (repeat'(first|exact trivial|rfl|exact CI rfl (CI (U0 (C.s du.own) (by simp[rI])) trivial)|refine CI ?_ ?_)))
 obtain rfl:i=h.H.length:=ω
 rw[U4]at H
 repeat'(first|refine gE ?_|fail)
 (conv=>whnf)
 refine CE (ι:=Nat × List Int) (λk=>[(1,.F .box (ac.enc .U h)),(3,.F .box (aG.enc .U (tbl h))),(4,.F .one [I (dC h)]),(5,.F .one (aF .own k.2)),(7,.F .one [I ((k.1:Nat):Int)])]) (λk=>k.1<=h.J.length/\k.2=pgs h.H (h.J.take k.1)/\cV k.1 (qO h)=true/\k.2.length<=1048576+64*k.1) (λk=>h.J.length - k.1) ((0,S)) ?_ (⟨T0 _,by grind [pgs],rfl,by simp only;omega⟩) λk L=>?_
 ·exact wB
 obtain⟨k,S2⟩:=k;obtain⟨L,c,M,O⟩:=L;simp only at L c M O |-;by_cases u:k<h.J.length
 ·have b:=ah u
  have hpg:=sI l b
  repeat'(first|refine gE ?_|(conv=>whnf);first|with_reducible (first|refine CA (aa b) ?_|refine Bf.D (λa=>?_) (λa=>?_))|refine CL ω (aa (fA ω u)) ?_)
  all_goals first
   | exact U0 (λz=>[B z]) ((qP (cn u (LP (R0 ω)))).symm)
   |have e:vf h.J k=true:=O0 ω
    (conv=>whnf)
    refine CE (ι:=Nat × List Int) (λq=>[(1,.F .box (ac.enc .U h)),(3,.F .box (aG.enc .U (tbl h))),(4,.F .one [I (dC h)]),(5,.F .one (aF .own q.2)),(7,.F .one [I ((k:Nat):Int)]),(8,.F .one [I ((q.1:Nat):Int)])]) (λq=>q.1<=(nth h.J k).a3.toNat/\q.2=S2++lpgs (nth h.J k) q.1/\cV q.1 (wv h (nth h.J k))=true) (λq=>(nth h.J k).a3.toNat - q.1) ((0,S2)) ?_ (⟨T0 _,by simp[lpgs],rfl⟩) λq a=>?_
    ·exact wB
    obtain⟨q,Q⟩:=q;obtain⟨R,d,o⟩:=a;simp only at R d o |-;have U:Q.length=S2.length+q:=by rw[d,X2,Br]
    by_cases w:q<(nth h.J k).a3.toNat
    ·have hfl:=eC h ((nth h.J k).Q+(q:Nat))
     repeat'(first|refine gE ?_|(conv=>whnf);first|with_reducible (first|refine CA (aa b) ?_|refine Bf.N (λa=>?_) (λa=>?_))|refine C7 (fo h _ g) ?_|refine CN cv (λr n=>by rw[C1.1 n];rfl) (by simp[aW,dn]) (by simp;omega) (by show _*8<=_;simp;omega) rfl ?_)
     all_goals first
      | exact U0 (λz=>[B z]) ((qP (cn u (K3 w (R0 ω)))).symm)
      | ((conv=>whnf)
         refine CD (q+1,Q++[(nth h.J k).Q+(q:Nat)]) ⟨(by simp only;omega),(by simp only;rw[d,jX,Z4]),bJ o (O0 ω)⟩ (by simp only;omega) ?_
         (repeat'(first|exact trivial|rfl|exact CI rfl (CI (U0 (C.s du.own) (by simp[rI])) trivial)|refine CI ?_ ?_)))
    obtain rfl:q=(nth h.J k).a3.toNat:=ω
    repeat'(first|refine gE ?_|(conv=>whnf);first|with_reducible refine CA (aa b) ?_)
    ((conv=>whnf);refine CD (k+1,Q) ⟨(by simp only;omega),(by simp only;rw[d,c,<-ou _ b]),bJ M (Bo e o),(by simp only;omega)⟩ (by simp only;omega) ?_;(exact wB))
 obtain rfl:k=h.J.length:=ω
 rw[U4]at c
 repeat'(first|refine gE ?_|fail)
 (conv=>whnf)
 refine CE (ι:=Nat) (λq=>[(1,.F .box (ac.enc .U h)),(3,.F .box (aG.enc .U (tbl h))),(4,.F .one [I (dC h)]),(5,.F .one (aF .own S2)),(10,.F .one [I ((q:Nat):Int)])]) (λq=>q<=S2.length/\∀j,j<q->nth S2 j<dC h) (λq=>S2.length - q) (0) ?_ ψ λq a=>?_
 ·exact wB
 obtain⟨a,o⟩:=a;by_cases w:q<S2.length
 ·have b:=ah w
  repeat'(first|refine gE ?_|(conv=>whnf);first|with_reducible (first|refine CA (aa b) ?_|refine Bf.D (λa=>?_) (λa=>?_))|refine CG rfl (aa b) rfl ?_)
  all_goals first
   | exact U0 (λz=>[B z]) ((Dr (by rw[<-c];exact am w) ω).symm)
   | ((conv=>whnf);refine CD (q+1) ⟨ω,λj hj=>by rcases Nat.lt_or_ge j q with V|V;exact o j V;(obtain rfl:j=q:=ω);omega⟩ ω ?_;(exact wB))
 have t:∀p∈pgs h.H h.J,p<dC h:=λp T=>by grind [List.mem_iff_getElem?,bm]
 repeat'(first|refine gE ?_|fail)
 (conv=>whnf)
 refine CE (ι:=Nat) (λp=>[(1,.F .box (ac.enc .U h)),(3,.F .box (aG.enc .U (tbl h))),(4,.F .one [I (dC h)]),(5,.F .one (aF .own S2)),(11,.F .one [I ((p:Nat):Int)])]) (λp=>p<=dC h/\cV p (tX h)=true) (λp=>dC h - p) 0 ?_ ⟨T0 _,rfl⟩ λp T=>?_
 ·exact wB
 obtain⟨T,W⟩:=T;by_cases X:p<dC h
 ·have b:=ah (xs:=(tbl h).K) X
  have n:=xP h.o (p:Nat) ω
  repeat'(first|refine gE ?_|(conv=>whnf);first|with_reducible (first|refine CA (aa b) ?_|refine Bf.D (λa=>?_) (λa=>?_)|refine Bf.NB (λa=>?_) (λa=>?_))|refine CH (lW S2 _ ω) ⟨⟨rfl,dY _⟩,⟨rfl,rfl⟩,trivial⟩ ?_|refine C7 n ?_|refine Bf.P (λa=>?_) (λa=>?_))
  all_goals first
   | exact U0 (λz=>[B z]) ((Bl (cn X (by unfold tX;rw[<-c];grind))).symm)
   | ((conv=>whnf);refine CD (p+1) ⟨ω,bJ W (by unfold tX;rw[<-c];grind)⟩ ω ?_;(exact wB))
 repeat'(first|refine gE ?_|fail)
 obtain rfl:p=dC h:=ω
 exact U0 (λz=>[B z]) ((xm J M t W).symm)
set_option maxHeartbeats 8000000
def u7{z1 z2:Int}(h:z1=z2):Nj (I z1) (I z2):=by subst h;rfl
theorem GN{S:List Int}{p z:Int} : z∈ins S p↔z∈S\/z=p:=by grind [ins]
theorem vB(S:List Int):(eR S).map (·.1)=S:=by unfold eR;rw[List.map_map];simp[I5]
theorem lh{t:aG}{p:Nat}(a:p<t.K.length):au t (p:Nat)=nth t.K p:=by grind [au]
theorem Af(h:ac)(G:dm h.H)(H:de h.J)(d:uo h)(J:iQ h.o)(u:bf h.H h.J=true):ao Tryz.prog 35 false [.val (some 24) (ac.enc .U h)] .one [B (pages0 h&&og h)]:=by
 have hl1:=G.1;have hl2:=H.1;have hl3:dC h<=1048576:=d.1;have hl4:=J.1;have b:pages0 h=false->[B false]=[B (pages0 h&&og h)]:=ψ
 refine fO 177 [(4,14,[25,26,27,28,29,30,31,32,33,34,35,36,37,38]),(16,14,[60,61,62,63,64,65,66,67,68,69,70,71,72,73]),(28,18,[102,103,104,105,106,107,108,109,110,111,112,113,114,115,116,117,118,119]),(42,23,[152,153,154,155,156,157,158,159,160,161,162,163,164,165,166,167,168,169,170,171,172,173,174])] Tryz.func35 rfl ?_
 repeat'(first|refine gP ?_|fail)
 (conv=>whnf)
 refine CE (ι:=Nat) (λi=>[(1,.F .box (ac.enc .U h)),(18,.F .one (bM .U h.H)),(19,.F .one [I (h.H.length)]),(20,.F .one [I ((i:Nat):Int)])]) (λi=>i<=h.H.length/\cV i (vX h.H)=true) (λi=>h.H.length - i) 0 ?_ ⟨T0 _,rfl⟩ λi g=>?_
 ·exact wB
 obtain⟨g,C⟩:=g;by_cases o:i<h.H.length
 ·have e:=ah o
  repeat'(first|refine gE ?_|(conv=>whnf);first|with_reducible (first|refine CA (aa e) ?_|refine Bf.D (λa=>?_) (λa=>?_))|refine CL ω (aa (fA ω o)) ?_)
  all_goals first
   |exact b (BK (cn o (R0 ω)))
   | ((conv=>whnf);refine CD (i+1) ⟨ω,bJ C (O0 ω)⟩ ω ?_;(exact wB))
 obtain rfl:i=h.H.length:=ω
 repeat'(first|refine gE ?_|fail)
 (conv=>whnf)
 refine CE (ι:=Nat × List Int) (λi=>[(1,.F .box (ac.enc .U h)),(5,.F .one [.m (eR i.2)]),(42,.F .one (bM .U h.H)),(43,.F .one [I (h.H.length)]),(44,.F .one [I ((i.1:Nat):Int)])]) (λi=>i.1<=h.H.length/\∀z,z∈i.2↔z∈(h.H.take i.1).map (·.Q)) (λi=>h.H.length - i.1) ((0,[])) ?_ ψ λi g=>?_
 ·exact wB
 obtain⟨i,S⟩:=i;obtain⟨K,Z⟩:=g;simp only at K Z |-;by_cases li2:i<h.H.length
 ·have e:=ah li2
  repeat'(first|refine gE ?_|(conv=>whnf);first|with_reducible refine CA (aa e) ?_|refine Mu.mk (xb S _) ?_)
  ((conv=>whnf);refine CD (i+1,ins S (nth h.H i).Q) ⟨(by simp only;omega),λz=>by grind [GN,Y4]⟩ (by simp only;omega) ?_;(exact wB))
 obtain rfl:i=h.H.length:=ω
 rw[U4]at Z
 repeat'(first|refine gE ?_|fail)
 (conv=>whnf)
 refine CE (ι:=Nat × List Int) (λk=>[(1,.F .box (ac.enc .U h)),(5,.F .one [.m (eR k.2)]),(53,.F .one (bB .U h.J)),(54,.F .one [I (h.J.length)]),(55,.F .one [I ((k.1:Nat):Int)])]) (λk=>k.1<=h.J.length/\(∀z,z∈k.2↔z∈pgs h.H (h.J.take k.1))/\cV k.1 (qO h)=true) (λk=>h.J.length - k.1) ((0,S)) ?_ (⟨T0 _,λz=>by grind [pgs],rfl⟩) λk L=>?_
 ·exact wB
 obtain⟨k,S2⟩:=k;obtain⟨L,c,M⟩:=L;simp only at L c M |-;by_cases F:k<h.J.length
 ·have e:=ah F
  have hpg:=sI u e
  repeat'(first|refine gE ?_|(conv=>whnf);first|with_reducible (first|refine CA (aa e) ?_|refine Bf.D (λa=>?_) (λa=>?_))|refine CL ω (aa (fA ω F)) ?_)
  all_goals first
   |exact b (qP (cn F (LP (R0 ω))))
   |have l:vf h.J k=true:=O0 ω
    (conv=>whnf)
    refine CE (ι:=Nat × List Int) (λq=>[(1,.F .box (ac.enc .U h)),(5,.F .one [.m (eR q.2)]),(9,.F .box (ay.enc .U (nth h.J k))),(10,.F .one [I ((nth h.J k).Q+(q.1:Nat))]),(53,.F .one (bB .U h.J)),(54,.F .one [I (h.J.length)]),(55,.F .one [I ((k:Nat):Int)])]) (λq=>q.1<=(nth h.J k).a3.toNat/\(∀z,z∈q.2↔z∈S2++lpgs (nth h.J k) q.1)/\cV q.1 (wv h (nth h.J k))=true) (λq=>(nth h.J k).a3.toNat - q.1) ((0,S2)) ?_ (⟨T0 _,λz=>by simp[lpgs],rfl⟩) λq a=>?_
    ·exact wB
    obtain⟨q,O⟩:=q;obtain⟨Q,n,R⟩:=a;simp only at Q n R |-;by_cases lq:q<(nth h.J k).a3.toNat
    ·have hfl:=eC h ((nth h.J k).Q+(q:Nat))
     repeat'(first|refine gE ?_|(conv=>whnf);first|with_reducible refine Bf.N (λa=>?_) (λa=>?_)|refine C7 (nq h _ d) ?_|refine Mu.mk (xb O _) ?_)
     all_goals first
      |exact b (qP (cn F (K3 lq (R0 ω))))
      | ((conv=>whnf)
         refine CD (q+1,ins O ((nth h.J k).Q+(q:Nat))) ⟨(by simp only;omega),λz=>by simp only[GN,n];rw[jX];simp[or_assoc],bJ R (O0 ω)⟩ (by simp only;omega) ?_
         (repeat'(first|exact trivial|rfl|refine CI ?_ ?_|exact u7 (by simp;omega))))
    obtain rfl:q=(nth h.J k).a3.toNat:=ω
    repeat'(first|refine gE ?_|fail)
    ((conv=>whnf);refine CD (k+1,O) ⟨(by simp only;omega),(λz=>by simp only[n];rw[ou _ e];simp[c]),bJ M (Bo l R)⟩ (by simp only;omega) ?_;(exact wB))
 obtain rfl:k=h.J.length:=ω
 rw[U4]at c
 repeat'(first|refine gE ?_|fail)
 (conv=>whnf)
 refine CE (ι:=Nat) (λp=>[(1,.F .box (ac.enc .U h)),(5,.F .one [.m (eR S2)]),(98,.F .one [I (dC h)]),(99,.F .one [I ((p:Nat):Int)])]) (λp=>p<=dC h/\cV p (tX h)=true) (λp=>dC h - p) 0 ?_ ⟨T0 _,rfl⟩ λp hp=>?_
 ·exact wB
 obtain⟨hp,ap⟩:=hp;by_cases lp:p<dC h
 ·have T:=xw h.o (p:Nat) ω
  have w:=BQ h.M (p:Nat) d;rw[lh lp]at w
  repeat'(first|refine gE ?_|(conv=>whnf);first|with_reducible (first|refine Bf.D (λa=>?_) (λa=>?_)|refine Bf.NB (λa=>?_) (λa=>?_))|refine C7 w ?_|refine Ml.mk (mW (p:Nat) S2) ?_|refine C7 T ?_|refine Bf.P (λa=>?_) (λa=>?_))
  all_goals first
   |exact b (Bl (cn lp (by unfold tX tbl;have:=c (p:Nat);grind)))
   | ((conv=>whnf);refine CD (p+1) ⟨ω,bJ ap (by unfold tX tbl;have:=c (p:Nat);grind)⟩ ω ?_;(exact wB))
 obtain rfl:p=dC h:=ω
 repeat'(first|refine gE ?_|fail)
 have hpn:dC h=h.M.G.S.K.length:=rfl
 (conv=>whnf)
 refine CE (ι:=Option Int × List Int) (λt=>[(1,.F .box (ac.enc .U h)),(122,.F .one [.it t.1 t.2])]) (λt=>(∀z∈S2,z∈t.2\/z<dC h)/\∀z∈t.2,z∈S2) (λt=>t.2.length) ((none,(eR S2).map (·.1))) ?_ (⟨λz hz=>.inl (by grind [vB]),λz hz=>by grind [vB]⟩) λt ht=>?_
 ·exact wB
 obtain⟨cur,left⟩:=t;obtain⟨U,V⟩:=ht;simp only at U V |-
 repeat'(first|refine gP ?_|(conv=>whnf);first|with_reducible refine Bf.D (λa=>?_) (λa=>?_)|refine Nt.mk (λa=>?_) (λl1 k l2 a=>?_))
 rotate_left
 ·exact b (Dr (p:=k) ψ ω)
 ·((conv=>whnf);refine CD (some k,l1++l2) ψ (by subst left;simp) ?_;(exact wB))
 have y:∀p∈pgs h.H h.J,p<dC h:=ψ
 have h0:pages0 h=true:=xm C M y ap;rw[h0,Bool.true_and]
 (conv=>whnf)
 refine CE (ι:=Nat) (λi=>[(1,.F .box (ac.enc .U h)),(136,.F .one (bM .U h.H)),(137,.F .one [I (h.H.length)]),(138,.F .one [I ((i:Nat):Int)])]) (λi=>i<=h.H.length/\cV i (λi=>cV i (lC h i))=true) (λi=>h.H.length - i) 0 ?_ ⟨T0 _,rfl⟩ λi g=>?_
 ·exact wB
 obtain⟨g,C⟩:=g;by_cases o:i<h.H.length
 ·have e:=ah o
  have W:(h.H.take i).length=i:=ψ
  repeat'(first|refine gE ?_|(conv=>whnf);first|with_reducible refine CA (aa e) ?_|refine CU i rfl (by simp;omega) (λr T=>by obtain⟨z,-,rfl⟩:=X3.1 T;rfl) (V3 ..) ?_)
  (conv=>whnf)
  refine CE (ι:=Nat) (λj=>[(1,.F .box (ac.enc .U h)),(14,.F .box (ar.enc .U (nth h.H i))),(136,.F .one (bM .U h.H)),(137,.F .one [I (h.H.length)]),(138,.F .one [I ((i:Nat):Int)]),(146,.F .one (bM .U (h.H.take i))),(147,.F .one [I ((h.H.take i).length)]),(148,.F .one [I ((j:Nat):Int)])]) (λj=>j<=(h.H.take i).length/\cV j (lC h i)=true) (λj=>(h.H.take i).length - j) 0 ?_ ⟨T0 _,rfl⟩ λj hj=>?_
  ·exact wB
  obtain⟨hj,X⟩:=hj;by_cases lj:j<(h.H.take i).length
  ·have hy:=ah lj
   have he:nth (h.H.take i) j=nth h.H j:=bm (by grind [ah]);rw[he]at hy;have w:=xz (nth h.H i) (nth h.H j);cases Y:meshable (nth h.H i) (nth h.H j)<;>rw[Y]at w
   all_goals
    repeat'(first|refine gE ?_|(conv=>whnf);first|with_reducible (first|refine CA (aa hy) ?_|refine Bf.E (λa=>?_) (λa=>?_))|refine C7 (kq (tbl h) _ d) ?_|refine C7 w ?_)
    all_goals first
     | exact U0 (λz=>[B z]) ((by symm;exact cn o (cn (i:=j) ω (by unfold lC;rw[Y];grind))))
     | ((conv=>whnf);refine CD (j+1) ⟨ω,bJ X (by unfold lC;rw[Y];grind)⟩ ω ?_;(exact wB))
  obtain rfl:j=(h.H.take i).length:=ω
  rw[W]at X
  repeat'(first|refine gE ?_|fail)
  ((conv=>whnf);refine CD (i+1) ⟨ω,bJ C X⟩ ω ?_;(exact wB))
 obtain rfl:i=h.H.length:=ω
 repeat'(first|refine gE ?_|fail)
 exact U0 (λz=>[B z]) ((by grind [og]))
end Go.Proofs.YtifeilefdakapaaGreatDoor.Ab
