/- The data of the program, its cells, its bulk and its marks. Printed by gen_data.py. No condition. -/
import Derived.Test.YtiopgblagimpmaaGreatKjc
import Derived.Test.YtiopgblagimpmaaGreatKjShelf
set_option linter.unusedVariables false
set_option linter.defProp false
set_option linter.unusedSimpArgs false
set_option linter.constructorNameAsVariable false
namespace Go.Proofs.YtiopgblagimpmaaGreat.Ab
open Go.RowKit
def aK(o:dH)(x:List Int):List C:=[.s o (x.map (rI o))]
def eg(x:List Int):dN (aK .own x)=aK .U x:=by simp[dN,aK,rI,dN]
theorem bQ(x:List Int):g9 (aK .own x):=⟨⟨.inl ψ,aX _ _ λy _=>pU y⟩,trivial⟩
def jx(x:List Int):Prop:=x.length<=9223372036854775807/\∀y∈x,nI y
def rk(x:List Int):Prop:=x.length<=1048576
def jq(o:dH)(x:List (List Int)):List C:=[.s o (x.map (aK o))]
def Rl(x:List (List Int)):dN (jq .own x)=jq .U x:=by simp[dN,jq,eg,<-bX,C5]
def BF(x:List (List Int)):Prop:=x.length<=9223372036854775807/\∀y∈x,jx y
def vU(x:List (List Int)):Prop:=x.length<=1048576/\∀y∈x,rk y
def Hm(o:dH)(x:List Bool):List C:=[.s o (x.map (rB o))]
def PF(x:List Bool):Prop:=x.length<=9223372036854775807/\∀y∈x,Tn y
def L0(x:List Bool):Prop:=x.length<=1048576
structure aS where
 W:List (List Int)
 k:List Bool
deriving DecidableEq,Inhabited
def aS.enc(o:dH)(x:aS):List C:=[.s o (x.W.map (aK o)),.s o (x.k.map (rB o))]
theorem aS.enc_fr(x:aS):g9 (aS.enc .own x):=⟨⟨.inl ψ,aX _ _ λy _=>bQ y⟩,⟨.inl ψ,aX _ _ λy _=>DT y⟩,trivial⟩
def aS.wf(x:aS):Prop:=BF x.W/\PF x.k
def aS.sml(x:aS):Prop:=vU x.W/\L0 x.k
structure bp where
 o:Int
 e:Int
deriving DecidableEq,Inhabited
def bp.enc(o:dH)(x:bp):List C:=[I x.o,I x.e]
def bp.enc_fz(x:bp):dN (bp.enc .own x)=bp.enc .U x:=by simp[dN,bp.enc]
def bp.enc_fr(x:bp):g9 (bp.enc .own x):=⟨trivial,trivial,trivial⟩
def bp.wf(x:bp):Prop:=nI x.o/\nI x.e
def bp.sml(_:bp):Prop:=True
def F6(o:dH)(x:List bp):List C:=[.s o (x.map (bp.enc o))]
def KM(x:List bp):Prop:=x.length<=9223372036854775807/\∀y∈x,bp.wf y
def Gw(x:List bp):Prop:=x.length<=1048576/\∀y∈x,bp.sml y
structure aN where
 K:List bp
deriving DecidableEq,Inhabited
def aN.enc(o:dH)(x:aN):List C:=[.s o (x.K.map (bp.enc o))]
def aN.enc_fz(x:aN):dN (aN.enc .own x)=aN.enc .U x:=by simp[dN,aN.enc,bp.enc_fz,<-bX,C5]
theorem aN.enc_fr(x:aN):g9 (aN.enc .own x):=⟨⟨.inl ψ,aX _ _ λy _=>bp.enc_fr y⟩,trivial⟩
def aN.wf(x:aN):Prop:=KM x.K
def aN.sml(x:aN):Prop:=Gw x.K
structure aR where
 V:aS
 O:aN
deriving DecidableEq,Inhabited
def aR.enc(o:dH)(x:aR):List C:=[.s o (x.V.W.map (aK o)),.s o (x.V.k.map (rB o)),.s o (x.O.K.map (bp.enc o))]
theorem aR.enc_fr(x:aR):g9 (aR.enc .own x):=⟨⟨.inl ψ,aX _ _ λy _=>bQ y⟩,⟨.inl ψ,aX _ _ λy _=>DT y⟩,⟨.inl ψ,aX _ _ λy _=>bp.enc_fr y⟩,trivial⟩
def aR.wf(x:aR):Prop:=aS.wf x.V/\aN.wf x.O
def aR.sml(x:aR):Prop:=aS.sml x.V/\aN.sml x.O
structure ah where
 F:aR
 Calls:Int
 j:List Int
deriving DecidableEq,Inhabited
def ah.enc(o:dH)(x:ah):List C:=[.s o (x.F.V.W.map (aK o)),.s o (x.F.V.k.map (rB o)),.s o (x.F.O.K.map (bp.enc o)),I x.Calls,.s o (x.j.map (rI o))]
def ah.enc_fz(x:ah):dN (ah.enc .own x)=ah.enc .U x:=by simp[dN,ah.enc,bp.enc_fz,rB,rI,eg,<-bX,C5]
theorem ah.enc_fr(x:ah):g9 (ah.enc .own x):=⟨⟨.inl ψ,aX _ _ λy _=>bQ y⟩,⟨.inl ψ,aX _ _ λy _=>DT y⟩,⟨.inl ψ,aX _ _ λy _=>bp.enc_fr y⟩,trivial,⟨.inl ψ,aX _ _ λy _=>pU y⟩,trivial⟩
def CT:type_of% @ah.enc_fr:=@ah.enc_fr
def ah.wf(x:ah):Prop:=aR.wf x.F/\nI x.Calls/\jx x.j
def ah.sml(x:ah):Prop:=aR.sml x.F/\rk x.j
structure aC where
 At:Int
 a4:Int
deriving DecidableEq,Inhabited
def aC.enc(o:dH)(x:aC):List C:=[I x.At,I x.a4]
def aC.enc_fz(x:aC):dN (aC.enc .own x)=aC.enc .U x:=by simp[dN,aC.enc]
def aC.enc_fr(x:aC):g9 (aC.enc .own x):=⟨trivial,trivial,trivial⟩
def aC.wf(x:aC):Prop:=nI x.At/\nI x.a4
def aC.sml(_:aC):Prop:=True
def bE(o:dH)(x:List aC):List C:=[.s o (x.map (aC.enc o))]
def jF(x:List aC):dN (bE .own x)=bE .U x:=by simp[dN,bE,aC.enc_fz,<-bX,C5]
theorem jE(x:List aC):g9 (bE .own x):=⟨⟨.inl ψ,aX _ _ λy _=>aC.enc_fr y⟩,trivial⟩
def Kh(x:List aC):Prop:=x.length<=9223372036854775807/\∀y∈x,aC.wf y
def ge(x:List aC):Prop:=x.length<=1048576/\∀y∈x,aC.sml y
structure ay where
 Q:Int
 Z:Int
 a7:Int
deriving DecidableEq,Inhabited
def ay.enc(o:dH)(x:ay):List C:=[I x.Q,I x.Z,I x.a7]
def ay.enc_fz(x:ay):dN (ay.enc .own x)=ay.enc .U x:=by simp[dN,ay.enc]
def ay.enc_fr(x:ay):g9 (ay.enc .own x):=⟨trivial,trivial,trivial,trivial⟩
def ay.wf(x:ay):Prop:=nI x.Q/\nI x.Z/\nI x.a7
def ay.sml(_:ay):Prop:=True
def cj(o:dH)(x:List ay):List C:=[.s o (x.map (ay.enc o))]
def dP(x:List ay):dN (cj .own x)=cj .U x:=by simp[dN,cj,ay.enc_fz,<-bX,C5]
theorem wz(x:List ay):g9 (cj .own x):=⟨⟨.inl ψ,aX _ _ λy _=>ay.enc_fr y⟩,trivial⟩
def KQ(x:List ay):Prop:=x.length<=9223372036854775807/\∀y∈x,ay.wf y
def eY(x:List ay):Prop:=x.length<=1048576/\∀y∈x,ay.sml y
structure aA where
 Q:Int
 a3:Int
 a2:Int
deriving DecidableEq,Inhabited
def aA.enc(o:dH)(x:aA):List C:=[I x.Q,I x.a3,I x.a2]
def aA.enc_fz(x:aA):dN (aA.enc .own x)=aA.enc .U x:=by simp[dN,aA.enc]
def aA.enc_fr(x:aA):g9 (aA.enc .own x):=⟨trivial,trivial,trivial,trivial⟩
def aA.wf(x:aA):Prop:=nI x.Q/\nI x.a3/\nI x.a2
def aA.sml(_:aA):Prop:=True
def cv(o:dH)(x:List aA):List C:=[.s o (x.map (aA.enc o))]
def io(x:List aA):dN (cv .own x)=cv .U x:=by simp[dN,cv,aA.enc_fz,<-bX,C5]
def JC(x:List aA):Prop:=x.length<=9223372036854775807/\∀y∈x,aA.wf y
def eI(x:List aA):Prop:=x.length<=1048576/\∀y∈x,aA.sml y
structure bc where
 Id:Int
 Addr:Int
 a2:Int
 a0:Int
deriving DecidableEq,Inhabited
def bc.enc(o:dH)(x:bc):List C:=[I x.Id,I x.Addr,I x.a2,I x.a0]
def bc.enc_fz(x:bc):dN (bc.enc .own x)=bc.enc .U x:=by simp[dN,bc.enc]
def bc.enc_fr(x:bc):g9 (bc.enc .own x):=⟨trivial,trivial,trivial,trivial,trivial⟩
def bc.wf(x:bc):Prop:=nI x.Id/\nI x.Addr/\nI x.a2/\nI x.a0
def bc.sml(_:bc):Prop:=True
def np(o:dH)(x:List bc):List C:=[.s o (x.map (bc.enc o))]
def Kl(x:List bc):dN (np .own x)=np .U x:=by simp[dN,np,bc.enc_fz,<-bX,C5]
def Pw(x:List bc):Prop:=x.length<=9223372036854775807/\∀y∈x,bc.wf y
def LI(x:List bc):Prop:=x.length<=1048576/\∀y∈x,bc.sml y
structure aE where
 X:List (List Int)
deriving DecidableEq,Inhabited
def aE.enc(o:dH)(x:aE):List C:=[.s o (x.X.map (aK o))]
def aE.enc_fz(x:aE):dN (aE.enc .own x)=aE.enc .U x:=by simp[dN,aE.enc,eg,<-bX,C5]
def CW:type_of% @aE.enc_fz:=@aE.enc_fz
theorem aE.enc_fr(x:aE):g9 (aE.enc .own x):=⟨⟨.inl ψ,aX _ _ λy _=>bQ y⟩,trivial⟩
def aE.wf(x:aE):Prop:=BF x.X
def aE.sml(x:aE):Prop:=vU x.X
def oh(o:dH)(x:List aE):List C:=[.s o (x.map (aE.enc o))]
def JF(x:List aE):Prop:=x.length<=9223372036854775807/\∀y∈x,aE.wf y
def GV(x:List aE):Prop:=x.length<=1048576/\∀y∈x,aE.sml y
structure cM where
 To:Int
 Addr:Int
deriving DecidableEq,Inhabited
def cM.enc(o:dH)(x:cM):List C:=[I x.To,I x.Addr]
def cM.enc_fz(x:cM):dN (cM.enc .own x)=cM.enc .U x:=by simp[dN,cM.enc]
def cM.enc_fr(x:cM):g9 (cM.enc .own x):=⟨trivial,trivial,trivial⟩
def cM.wf(x:cM):Prop:=nI x.To/\nI x.Addr
def cM.sml(_:cM):Prop:=True
def bL(o:dH)(x:List cM):List C:=[.s o (x.map (cM.enc o))]
def kW(x:List cM):dN (bL .own x)=bL .U x:=by simp[dN,bL,cM.enc_fz,<-bX,C5]
theorem q9(x:List cM):g9 (bL .own x):=⟨⟨.inl ψ,aX _ _ λy _=>cM.enc_fr y⟩,trivial⟩
def Mj(x:List cM):Prop:=x.length<=9223372036854775807/\∀y∈x,cM.wf y
def Ka(x:List cM):Prop:=x.length<=1048576/\∀y∈x,cM.sml y
def xF(o:dH)(x:List (List cM)):List C:=[.s o (x.map (bL o))]
def J2(x:List (List cM)):Prop:=x.length<=9223372036854775807/\∀y∈x,Mj y
def Hk(x:List (List cM)):Prop:=x.length<=1048576/\∀y∈x,Ka y
structure aM where
 S:List (List cM)
 d:List (List Int)
deriving DecidableEq,Inhabited
def aM.enc(o:dH)(x:aM):List C:=[.s o (x.S.map (bL o)),.s o (x.d.map (aK o))]
def aM.enc_fz(x:aM):dN (aM.enc .own x)=aM.enc .U x:=by simp[dN,aM.enc,kW,eg,<-bX,C5]
theorem aM.enc_fr(x:aM):g9 (aM.enc .own x):=⟨⟨.inl ψ,aX _ _ λy _=>q9 y⟩,⟨.inl ψ,aX _ _ λy _=>bQ y⟩,trivial⟩
def aM.wf(x:aM):Prop:=J2 x.S/\BF x.d
def aM.sml(x:aM):Prop:=Hk x.S/\vU x.d
structure aO where
 Addr:Int
 Z:Int
 b2:Int
deriving DecidableEq,Inhabited
def aO.enc(o:dH)(x:aO):List C:=[I x.Addr,I x.Z,I x.b2]
def aO.enc_fz(x:aO):dN (aO.enc .own x)=aO.enc .U x:=by simp[dN,aO.enc]
def aO.enc_fr(x:aO):g9 (aO.enc .own x):=⟨trivial,trivial,trivial,trivial⟩
def aO.wf(x:aO):Prop:=nI x.Addr/\nI x.Z/\nI x.b2
def aO.sml(_:aO):Prop:=True
def dA(o:dH)(x:List aO):List C:=[.s o (x.map (aO.enc o))]
theorem o6(x:List aO):g9 (dA .own x):=⟨⟨.inl ψ,aX _ _ λy _=>aO.enc_fr y⟩,trivial⟩
def KF(x:List aO):Prop:=x.length<=9223372036854775807/\∀y∈x,aO.wf y
def kX(x:List aO):Prop:=x.length<=1048576/\∀y∈x,aO.sml y
structure b9 where
 b7:Int
 a1:List aO
deriving DecidableEq,Inhabited
def b9.enc(o:dH)(x:b9):List C:=[I x.b7,.s o (x.a1.map (aO.enc o))]
def b9.enc_fz(x:b9):dN (b9.enc .own x)=b9.enc .U x:=by simp[dN,b9.enc,aO.enc_fz,<-bX,C5]
theorem b9.enc_fr(x:b9):g9 (b9.enc .own x):=⟨trivial,⟨.inl ψ,aX _ _ λy _=>aO.enc_fr y⟩,trivial⟩
def b9.wf(x:b9):Prop:=nI x.b7/\KF x.a1
def b9.sml(x:b9):Prop:=kX x.a1
structure cB where
 a8:Int
 a6:Int
 W:List Int
deriving DecidableEq,Inhabited
def cB.enc(o:dH)(x:cB):List C:=[I x.a8,I x.a6,.s o (x.W.map (rI o))]
def cB.enc_fz(x:cB):dN (cB.enc .own x)=cB.enc .U x:=by simp[dN,cB.enc,rI,<-bX,C5]
theorem cB.enc_fr(x:cB):g9 (cB.enc .own x):=⟨trivial,trivial,⟨.inl ψ,aX _ _ λy _=>pU y⟩,trivial⟩
def cB.wf(x:cB):Prop:=nI x.a8/\nI x.a6/\jx x.W
def cB.sml(x:cB):Prop:=rk x.W
structure dy where
 Y:cB
 a9:Int
 w:Int
deriving DecidableEq,Inhabited
def dy.enc(o:dH)(x:dy):List C:=[I x.Y.a8,I x.Y.a6,.s o (x.Y.W.map (rI o)),I x.a9,I x.w]
theorem dy.enc_fr(x:dy):g9 (dy.enc .own x):=⟨trivial,trivial,⟨.inl ψ,aX _ _ λy _=>pU y⟩,trivial,trivial,trivial⟩
def dy.wf(x:dy):Prop:=cB.wf x.Y/\nI x.a9/\nI x.w
def dy.sml(x:dy):Prop:=cB.sml x.Y
structure ac where
 J:ah
 b:List aC
 H:List ay
 M:List aA
 R:List bc
 T:List aE
 u:aM
 a5:b9
 b5:Int
 b0:Int
 c1:Int
 w:Int
 q:Bool
 y:dy
deriving DecidableEq,Inhabited
def ac.enc(o:dH)(x:ac):List C:=[.s o (x.J.F.V.W.map (aK o)),.s o (x.J.F.V.k.map (rB o)),.s o (x.J.F.O.K.map (bp.enc o)),I x.J.Calls,.s o (x.J.j.map (rI o)),.s o (x.b.map (aC.enc o)),.s o (x.H.map (ay.enc o)),.s o (x.M.map (aA.enc o)),.s o (x.R.map (bc.enc o)),.s o (x.T.map (aE.enc o)),.s o (x.u.S.map (bL o)),.s o (x.u.d.map (aK o)),I x.a5.b7,.s o (x.a5.a1.map (aO.enc o)),I x.b5,I x.b0,I x.c1,I x.w,B x.q,I x.y.Y.a8,I x.y.Y.a6,.s o (x.y.Y.W.map (rI o)),I x.y.a9,I x.y.w]
def ac.enc_fz(x:ac):dN (ac.enc .own x)=ac.enc .U x:=by simp[dN,ac.enc,CW,bp.enc_fz,aA.enc_fz,bc.enc_fz,aC.enc_fz,ay.enc_fz,aO.enc_fz,rB,kW,rI,eg,<-bX,C5]
theorem ac.enc_fr(x:ac):g9 (ac.enc .own x):=⟨⟨.inl ψ,aX _ _ λy _=>bQ y⟩,⟨.inl ψ,aX _ _ λy _=>DT y⟩,⟨.inl ψ,aX _ _ λy _=>bp.enc_fr y⟩,trivial,⟨.inl ψ,aX _ _ λy _=>pU y⟩,⟨.inl ψ,aX _ _ λy _=>aC.enc_fr y⟩,⟨.inl ψ,aX _ _ λy _=>ay.enc_fr y⟩,⟨.inl ψ,aX _ _ λy _=>aA.enc_fr y⟩,⟨.inl ψ,aX _ _ λy _=>bc.enc_fr y⟩,⟨.inl ψ,aX _ _ λy _=>aE.enc_fr y⟩,⟨.inl ψ,aX _ _ λy _=>q9 y⟩,⟨.inl ψ,aX _ _ λy _=>bQ y⟩,trivial,⟨.inl ψ,aX _ _ λy _=>aO.enc_fr y⟩,trivial,trivial,trivial,trivial,trivial,trivial,trivial,⟨.inl ψ,aX _ _ λy _=>pU y⟩,trivial,trivial,trivial⟩
def ac.wf(x:ac):Prop:=ah.wf x.J/\Kh x.b/\KQ x.H/\JC x.M/\Pw x.R/\JF x.T/\aM.wf x.u/\b9.wf x.a5/\nI x.b5/\nI x.b0/\nI x.c1/\nI x.w/\Tn x.q/\dy.wf x.y
def ac.sml(x:ac):Prop:=ah.sml x.J/\ge x.b/\eY x.H/\eI x.M/\LI x.R/\GV x.T/\aM.sml x.u/\b9.sml x.a5/\dy.sml x.y
structure jf where
 b1:Int
 c2:Int
 c6:Int
 c4:Int
deriving DecidableEq,Inhabited
def jf.enc(o:dH)(x:jf):List C:=[I x.b1,I x.c2,I x.c6,I x.c4]
def jf.enc_fr(x:jf):g9 (jf.enc .own x):=⟨trivial,trivial,trivial,trivial,trivial⟩
structure Tj where
 Id:Int
 a2:Int
 Sum:Int
deriving DecidableEq,Inhabited
structure aP where
 Id:Int
 W:List Int
deriving DecidableEq,Inhabited
def aP.enc(o:dH)(x:aP):List C:=[I x.Id,.s o (x.W.map (rI o))]
def aP.enc_fz(x:aP):dN (aP.enc .own x)=aP.enc .U x:=by simp[dN,aP.enc,rI,<-bX,C5]
theorem aP.enc_fr(x:aP):g9 (aP.enc .own x):=⟨trivial,⟨.inl ψ,aX _ _ λy _=>pU y⟩,trivial⟩
def aP.sml(x:aP):Prop:=rk x.W
def FG(x:List aP):Prop:=x.length<=1048576/\∀y∈x,aP.sml y
structure aJ where
 w:Int
 R:List aP
deriving DecidableEq,Inhabited
def aJ.enc(o:dH)(x:aJ):List C:=[I x.w,.s o (x.R.map (aP.enc o))]
def aJ.enc_fz(x:aJ):dN (aJ.enc .own x)=aJ.enc .U x:=by simp[dN,aJ.enc,aP.enc_fz,<-bX,C5]
theorem aJ.enc_fr(x:aJ):g9 (aJ.enc .own x):=⟨trivial,⟨.inl ψ,aX _ _ λy _=>aP.enc_fr y⟩,trivial⟩
def aJ.sml(x:aJ):Prop:=FG x.R
structure bB where
 a:ac
 c3:aJ
deriving DecidableEq,Inhabited
def bB.enc(o:dH)(x:bB):List C:=[.s o (x.a.J.F.V.W.map (aK o)),.s o (x.a.J.F.V.k.map (rB o)),.s o (x.a.J.F.O.K.map (bp.enc o)),I x.a.J.Calls,.s o (x.a.J.j.map (rI o)),.s o (x.a.b.map (aC.enc o)),.s o (x.a.H.map (ay.enc o)),.s o (x.a.M.map (aA.enc o)),.s o (x.a.R.map (bc.enc o)),.s o (x.a.T.map (aE.enc o)),.s o (x.a.u.S.map (bL o)),.s o (x.a.u.d.map (aK o)),I x.a.a5.b7,.s o (x.a.a5.a1.map (aO.enc o)),I x.a.b5,I x.a.b0,I x.a.c1,I x.a.w,B x.a.q,I x.a.y.Y.a8,I x.a.y.Y.a6,.s o (x.a.y.Y.W.map (rI o)),I x.a.y.a9,I x.a.y.w,I x.c3.w,.s o (x.c3.R.map (aP.enc o))]
def bB.enc_fz(x:bB):dN (bB.enc .own x)=bB.enc .U x:=by simp[dN,bB.enc,CW,bp.enc_fz,aA.enc_fz,bc.enc_fz,aC.enc_fz,aP.enc_fz,ay.enc_fz,aO.enc_fz,rB,kW,rI,eg,<-bX,C5]
theorem bB.enc_fr(x:bB):g9 (bB.enc .own x):=⟨⟨.inl ψ,aX _ _ λy _=>bQ y⟩,⟨.inl ψ,aX _ _ λy _=>DT y⟩,⟨.inl ψ,aX _ _ λy _=>bp.enc_fr y⟩,trivial,⟨.inl ψ,aX _ _ λy _=>pU y⟩,⟨.inl ψ,aX _ _ λy _=>aC.enc_fr y⟩,⟨.inl ψ,aX _ _ λy _=>ay.enc_fr y⟩,⟨.inl ψ,aX _ _ λy _=>aA.enc_fr y⟩,⟨.inl ψ,aX _ _ λy _=>bc.enc_fr y⟩,⟨.inl ψ,aX _ _ λy _=>aE.enc_fr y⟩,⟨.inl ψ,aX _ _ λy _=>q9 y⟩,⟨.inl ψ,aX _ _ λy _=>bQ y⟩,trivial,⟨.inl ψ,aX _ _ λy _=>aO.enc_fr y⟩,trivial,trivial,trivial,trivial,trivial,trivial,trivial,⟨.inl ψ,aX _ _ λy _=>pU y⟩,trivial,trivial,trivial,⟨.inl ψ,aX _ _ λy _=>aP.enc_fr y⟩,trivial⟩
structure RL where
 a3:Int
 Mapped:Int
 V:Int
 Held:Int
 mj:Int
 Cached:Int
 b3:Int
 Posted:Int
deriving DecidableEq,Inhabited
variable{α:Type}
def Lm{β:Type}{f:α->β}{l:List α}{K:Nat->Prop}(h:K l.length):Ln (l.map f).length K:=Ln.mk (C1 ..) h
variable{z:Int}
def Wm{K:Int->Prop}(h : -9223372036854775808<=z/\z<=9223372036854775807)(a:K z):Wr .i64 z K:=CH (fF h.1 h.2) a
variable{X Y:Prop}
def dT{p:Prop}[Decidable p](h:p)(a:p->X):Bf (decide p) X Y:=.D a λe=>absurd h e
def dF{p:Prop}[Decidable p](h:¬p)(a:¬p->Y):Bf (decide p) X Y:=.D (λe=>absurd e h) a
variable{a b:Int}
def nT(h:a≠b)(c:a≠b->X):Bf (a != b) X Y:=.N c λe=>absurd e h
def nF(h:a=b)(c:a=b->Y):Bf (a != b) X Y:=.N (λe=>absurd h e) c
def eT(h:a=b)(c:a=b->X):Bf (a == b) X Y:=.E c λe=>absurd h e
def eF(h:a≠b)(c:a≠b->Y):Bf (a == b) X Y:=.E (λe=>absurd e h) c
def Bn{b:Bool}(h:Bf b Y X):Bf (!b) X Y:=.not h
def Bt(h:X):Bf true X Y:=.t rfl h
def Bu(h:Y):Bf false X Y:=.f rfl h
def Fm{k b:Kd}{cs a:List C}(h1:k=b)(h:cs=a):jh k b cs a:=.mk h1 h
def dV{p:Prop}[Decidable p](h:p)(a:X):Bf (decide p) X Y:=.D (λ_=>a) λe=>absurd h e
def dW{p:Prop}[Decidable p](h:¬p)(a:Y):Bf (decide p) X Y:=.D (λe=>absurd e h) λ_=>a
def nV(h:a≠b)(c:X):Bf (a != b) X Y:=.N (λ_=>c) λe=>absurd e h
def nW(h:a=b)(c:Y):Bf (a != b) X Y:=.N (λe=>absurd h e) λ_=>c
def eV(h:a=b)(c:X):Bf (a == b) X Y:=.E (λ_=>c) λe=>absurd h e
def eW(h:a≠b)(c:Y):Bf (a == b) X Y:=.E (λe=>absurd e h) λ_=>c
structure JM(Y:Prop):Prop where
 out:Y
def gO(y:Y)(h:JM Y->X:=by intro y;(conv=>whnf);(first|with_reducible (first|refine Lm ?_|refine Wm ω ?_|refine Bn ?_|refine Fm rfl ?_)|refine Bt ?_|refine Bu ?_|fail);exact y.out):X:=h ⟨y⟩
def gP(y:Y)(h:JM Y->X:=by intro y;(conv=>whnf);(first|with_reducible (first|refine Lm ?_|refine Wm ω ?_|refine Bn ?_|refine Fm rfl ?_)|refine Bt ?_|refine Bu ?_|refine C7 (by assumption) ?_|refine CB (aa (by assumption)) ?_|refine CE rfl (aa (by assumption)) rfl ?_|refine C9 ?_|fail);exact y.out):X:=h ⟨y⟩
def gD(y:Y)(h:JM Y->X:=by intro y;(conv=>whnf);(first|with_reducible (first|refine Lm ?_|refine Wm ω ?_|refine dV ω ?_|refine dW ω ?_|refine Bn ?_|refine Fm rfl ?_)|refine Bt ?_|refine Bu ?_|fail);exact y.out):X:=h ⟨y⟩
def gE(y:Y)(h:JM Y->X:=by intro y;(conv=>whnf);(first|with_reducible (first|refine Lm ?_|refine Wm ω ?_|refine dV ω ?_|refine dW ω ?_|refine Bn ?_|refine Fm rfl ?_)|refine Bt ?_|refine Bu ?_|refine C7 (by assumption) ?_|refine CB (aa (by assumption)) ?_|refine CE rfl (aa (by assumption)) rfl ?_|refine C9 ?_|fail);exact y.out):X:=h ⟨y⟩
def gA(y:Y)(h:JM Y->X:=by intro y;(conv=>whnf);(first|with_reducible (first|refine Lm ?_|refine Wm ω ?_|refine dV ω ?_|refine dW ω ?_|refine nV ω ?_|refine nW ω ?_|refine eV ω ?_|refine eW ω ?_|refine Bn ?_|refine Fm rfl ?_)|refine Bt ?_|refine Bu ?_|fail);exact y.out):X:=h ⟨y⟩
def gB(y:Y)(h:JM Y->X:=by intro y;(conv=>whnf);(first|with_reducible (first|refine Lm ?_|refine Wm ω ?_|refine dV ω ?_|refine dW ω ?_|refine nV ω ?_|refine nW ω ?_|refine eV ω ?_|refine eW ω ?_|refine Bn ?_|refine Fm rfl ?_)|refine Bt ?_|refine Bu ?_|refine C7 (by assumption) ?_|refine CB (aa (by assumption)) ?_|refine CE rfl (aa (by assumption)) rfl ?_|refine C9 ?_|fail);exact y.out):X:=h ⟨y⟩
variable{z1 z2:Int}
def Rv(h:z1=z2):Po (I z1) (I z2):=by subst h;rfl
def Th(c:C):Po c c:=(mu [c]).1
def wA(h:X:=by repeat'(first|exact trivial|rfl|refine CG ?_ ?_)):X:=h
def wB(h:X:=by repeat'(first|exact trivial|rfl|refine CG ?_ ?_|(exact Rv (by first|omega|(simp only;omega)|(simp;omega))))):X:=h
def wC(h:X:=by repeat'(first|exact trivial|rfl|exact Th _|refine CG ?_ ?_|(exact Rv (by first|omega|(simp only;omega)|(simp;omega))))):X:=h
variable{rcs: List C}{sh: Bool}{f: Nat}
def fO(n : Nat){a : Func}{c : Code}{A : List RA}{k : Kd}(tb : List (Nat × Nat × List Nat))(d : Tryz.prog.funcs[f]? = some a)(e : a.body = some c)(g : aw Tryz.prog TE ⟨n, [], []⟩ (DF Tryz.prog TE ⟨n, [], []⟩ tb) c (Pm TE a.results.toList k rcs) (lay (ve 0 A)))(b : sh = true \/ g9 rcs := by exact .inr ⟨trivial, trivial⟩)(h : (a.name == "runtime.NumGoroutine") = false := by kernel_rfl)(i : fL (ni tb) c = true := by kernel_rfl)(j : A.length + (a.ntmps - A.length) = n := by rfl) : zzA f sh A k rcs := Rr d h e i j b g
def fP(n : Nat){a : Func}{c : Code}{A : List RA}{k : Kd}(mo : List (Nat × List Nat))(tb : List (Nat × Nat × List Nat))(d : Tryz.prog.funcs[f]? = some a)(e : a.body = some c)(g : aw Tryz.prog TE ⟨n, [], mo⟩ (DF Tryz.prog TE ⟨n, [], mo⟩ tb) c (Pm TE a.results.toList k rcs) (lay (ve 0 A)))(b : sh = true \/ g9 rcs := by exact .inr ⟨trivial, trivial⟩)(h : (a.name == "runtime.NumGoroutine") = false := by kernel_rfl)(i : fL (ni tb) c = true := by kernel_rfl)(j : A.length + (a.ntmps - A.length) = n := by rfl) : zzA f sh A k rcs := Rr d h e i j b g
def fM(n : Nat){a : Func}{c : Code}{A B : List MA}{k : Kd}(mo : List (Nat × List Nat))(tb : List (Nat × Nat × List Nat))(b : List (Nat × Nat))(g : Tryz.prog.funcs[f]? = some a)(h : a.body = some c)(i : ∀(u : Nat -> Nat -> Value)(p : Nat -> Value), aw Tryz.prog TE ⟨n, HU p 0 A, mo⟩ (DF Tryz.prog TE ⟨n, HU p 0 A, mo⟩ tb) c (QV TE a.results.toList k rcs u A B b) (lay (wq u 0 A)))(d : sh = true \/ g9 rcs := by exact .inr ⟨trivial, trivial⟩)(j : (a.name == "runtime.NumGoroutine") = false := by kernel_rfl)(l : fL (ni tb) c = true := by kernel_rfl)(o : A.length + (a.ntmps - A.length) = n := by rfl)(e : GO (DR 0 A b) = true := by rfl) : zzB f sh A B k rcs := RG b g j h l o e d i
section
variable{α:Type}{l:List α}{p:α->Bool}{i:Nat}{x:α}
theorem dO(h:l[i]? = some x)(a:(l.take i).all p=true)(b:p x=true):(l.take (i+1)).all p=true:=by grind [t5]
theorem kR(h:l[i]? = some x)(a:p x=false):l.all p=false:=ψ
theorem rn(a:l.length<=i)(b:(l.take i).all p=true):l.all p=true:=by grind [I6]
end
variable{i:Nat}
theorem vr{β:Type}{a:List α}{b:List β}{x:α}{y:β}(h1:a[i]? = some x)(c:b[i]? = some y):(a.zip b)[i]? = some (x,y):=ψ
def nth[Inhabited α](xs:List α)(i:Nat):α:=xs.getD i default
theorem au[Inhabited α]{xs:List α}(h:i<xs.length):xs[i]? = some (nth xs i):=by grind [nth]
theorem bD[Inhabited α]{xs:List α}{y:α}(h:xs[i]? = some y):nth xs i=y:=by grind [nth]
theorem ax[Inhabited α]{xs:List α}(h:i<xs.length):nth xs i∈xs:=C2 (au h)
def dv(n:Nat)(p:Nat->Bool):Bool:=(List.range n).all p
variable{n:Nat}
theorem cu{p:Nat->Bool} : dv n p=true↔∀j,j<n->p j=true:=by
 unfold dv;simp
theorem cK{p:Nat->Bool}(h:dv n p=true)(a:p n=true):dv (n+1) p=true:=by grind [cu]
theorem dm{p:Nat->Bool}(a:i<n)(b:p i=false):dv n p=false:=by grind [cu]
theorem f8{p:Nat->Bool}(h:dv n p=true)(a:i<n):p i=true:=cu.1 h i a
def iO(u:Bool)(v:Int):Bool:=decide (0<=v/\v<=999)&&(u || decide (v=0))
def ib(r:List Int)(u:Bool):Bool:=decide (r.length=16)&&r.all (iO u)
def cH(f:aS):Bool:=decide (1<=f.W.length/\f.W.length<=32)&&(decide (f.k.length=f.W.length)&&(f.W.zip f.k).all λq=>ib q.1 q.2)
def ij{f:aS}{r:List Int}{u:Bool}(h1:f.W[i]? = some r)(a:f.k[i]? = some u)(b:ib r u=false):cH f=false:=by
 unfold cH;rw[kR (p:=λq=>ib q.1 q.2) (vr h1 a) b];simp
variable{k:Nat}
theorem rm{r:List Int}{u:Bool}{v:Int}(h1:r[k]? = some v)(a:iO u v=false):ib r u=false:=by grind [ib]
theorem Di{f:aS}(h:cH f=true):1<=f.W.length/\f.W.length<=32/\f.k.length=f.W.length:=by grind [cH]
def kT(a:Int)(e:bp):Bool:=decide (0<=e.o/\e.o<=2/\(e.o=0->e.e=0)/\(e.o≠0->0<=e.e/\e.e<a))
def fS(t:aN)(a:Int):Bool:=dv t.K.length (λi=>kT a (nth t.K i))&&decide (1<=t.K.length/\t.K.length<=32)
def Ns(t:aN)(f:Int)(i:Nat):Bool:=decide ((nth t.K i).o≠0/\(nth t.K i).e=f)
def jA(t:aN)(f:Int)(n:Nat):List Int:=((List.range n).filter (Ns t f)).map λ(i:Nat)=>(i:Int)
def pagesOn(t:aN)(f:Int):List Int:=jA t f t.K.length
theorem zO{t:aN}{f:Int}(h:Ns t f n=true):jA t f (n+1)=jA t f n++[(n:Int)]:=by grind [List.range_succ,jA]
theorem Ej{t:aN}{f:Int}(h:Ns t f n=false):jA t f (n+1)=jA t f n:=by grind [List.range_succ,jA]
theorem sV(t:aN)(f:Int)(n:Nat):(jA t f n).length<=n:=by grind [jA]
def ar(t:aN)(p:Int):bp:=if 0<=p/\p<t.K.length then nth t.K p.toNat else⟨0,0⟩
def oA(m:aR)(i:Nat):Bool:=nth m.V.k i == decide (0<(pagesOn m.O (i:Int)).length)
def cU(m:aR):Bool:=(cH m.V&&fS m.O m.V.k.length)&&dv m.V.k.length (oA m)
def aH(k:ah):Bool:=(dv k.j.length (λi=>decide (0<=nth k.j i))&&cU k.F)&&decide (0<=k.Calls/\k.Calls<=100000/\k.j.length<=40)
def rangeIn(pages:Int)(r:aC):Bool:=decide (1<=r.a4/\r.a4<=pages/\0<=r.At/\r.At<=pages - r.a4)
def fR(pages:Int)(xs:List aC)(i:Nat):Bool:=rangeIn pages (nth xs i)&&decide (i=0\/(nth xs (i - 1)).At+(nth xs (i - 1)).a4<(nth xs i).At)
def bC(pages:Int)(xs:List aC):Bool:=dv xs.length (fR pages xs)&&decide (1<=pages/\pages<=32)
def FO(page:Int)(r:aC):Bool:=decide (r.At<=page)&&decide (page<IntKind.i64.wrap (r.At+r.a4))
def lim(k:Int):Int:=if k=0 then 65535 else if k=1 then 255 else if k=2 then 15 else if k=3 then 3 else 0
def slots(k:Int):Int:=if k=0 then 16 else if k=1 then 8 else if k=2 then 4 else if k=3 then 2 else 0
def bg(s:ay):Bool:=decide (0<=s.Q/\s.Q<=31/\0<=s.Z/\s.Z<=3/\0<=s.a7/\s.a7<=lim s.Z)
def eQ(n:Int):Int:=if 9<=n/\n<=1000 then(n+15) / 16 else 0
def co(l:aA):Bool:=decide (9<=l.a2/\l.a2<=1000/\l.a3=(l.a2+15) / 16/\0<=l.Q/\l.Q<=32 - l.a3)
def lpgs(l:aA)(n:Nat):List Int:=(List.range n).map λ(i:Nat)=>l.Q+i
def pgs(sp:List ay)(la:List aA):List Int:=sp.map (·.Q)++la.flatMap λl=>lpgs l l.a3.toNat
def bA(sp:List ay)(la:List aA):Bool:=(sp.all bg&&la.all co)&&decide (pgs sp la).Nodup
def dq(s:ay)(a:Int):Bool:=bg s&&decide (16*s.Q<=a/\a<=16*s.Q+15)
def aW(b i:Int):Bool:=decide (0<=b/\0<=i/\i<=15/\b / 2 ^ i.toNat % 2=1)
def bI(l:aA)(a:Int):Bool:=co l&&decide (16*l.Q<=a/\a<=16*l.Q+l.a2 - 1)
def csz(k:Int):Int:=if 0<=k/\k<=3 then 2 ^ k.toNat else 0
def iC(s:ay)(a:Int):Int × Int:=if dq s a then((a - 16*s.Q) / csz s.Z,(a - 16*s.Q) % csz s.Z) else(-1,-1)
def ow(i:Nat)(s:ay)(a:Int):jf:=⟨if aW s.a7 ((a - 16*s.Q) / csz s.Z) then 1 else 2,i,(a - 16*s.Q) / csz s.Z,(a - 16*s.Q) % csz s.Z⟩
def denotes(sp:List ay)(la:List aA)(a:Int):jf:=
 match sp.findIdx? (dq · a) with
 | some i=>ow i (nth sp i) a
 | none=>match la.findIdx? (bI · a) with
  | some i=>⟨3,i,0,a - 16*(nth la i).Q⟩
  | none=>⟨0,0,0,0⟩
theorem vq{pr:α->Bool}{xs:List α}{y:α}(a:xs[i]? = some y)(b:pr y=true)(c:∀(j:Nat)(z:α),j<i->xs[j]? = some z->pr z=false):xs.findIdx? pr=some i:=by grind [C6]
theorem Df{pr:α->Bool}{xs:List α}(a:xs.length<=i)(b:∀(j:Nat)(z:α),j<i->xs[j]? = some z->pr z=false):xs.findIdx? pr=none:=
 List.findIdx?_eq_none_iff.2 λz c=>by grind [List.mem_iff_getElem?]
theorem iG{pr:α->Bool}{xs:List α}{y:α}(a:xs[i]? = some y)(b:pr y=false)(c:∀(j:Nat)(z:α),j<i->xs[j]? = some z->pr z=false):∀(j:Nat)(z:α),j<i+1->xs[j]? = some z->pr z=false:=ψ
def cA(pr:α->Bool)(xs:List α):Int:=match xs.findIdx? pr with|some i=>(i:Nat)|none=>-1
theorem ep{pr:α->Bool}{xs:List α}{y:α}(a:xs[i]? = some y)(b:pr y=true)(c:∀(j:Nat)(z:α),j<i->xs[j]? = some z->pr z=false):cA pr xs=(i:Nat):=by
 unfold cA;rw[vq a b c]
theorem gN{pr:α->Bool}{xs:List α}(a:xs.length<=i)(b:∀(j:Nat)(z:α),j<i->xs[j]? = some z->pr z=false):cA pr xs = -1:=by grind [Df,cA]
theorem kN(pr:α->Bool)(xs:List α):decide (cA pr xs≥0)=xs.any pr:=by grind [cA]
def meshable(s t:ay):Bool:=(bg s&&bg t)&&decide (s.Z=t.Z/\s.Q≠t.Q/\s.a7.toNat &&& t.a7.toNat=0)
def nq(n:Int)(p:cM):Bool:=decide (0<=p.To/\p.To<=n - 1/\0<=p.Addr)
def Pd(z:Int):Bool:=decide (0<=z)
def gu(m:aM)(i:Nat):Bool:=(nth m.S i).all (nq m.S.length)&&(nth m.d i).all Pd
def bz(m:aM):Nat->Int
 | 0=>0
 | i+1=>bz m i+((nth m.S i).length+(nth m.d i).length)
def bT(m:aM):Bool:=(decide (1<=m.S.length/\m.S.length<=4/\m.d.length=m.S.length)&&dv m.S.length (gu m))&&decide (bz m m.S.length<=30)
def aU(m:aM):List Int:=if bT m then(m.S.flatMap λl=>l.map (·.Addr))++m.d.flatten else []
def eB(a:Int)(y:aO):Bool:=decide (y.Addr=a)
def kD(xs:List aO)(i:Nat):Bool:=decide (0<=(nth xs i).Z/\(nth xs i).Z<=3/\0<=(nth xs i).Addr/\0<=(nth xs i).b2/\(i=0\/(nth xs (i - 1)).b2<=(nth xs i).b2))&&!(xs.take i).any (eB (nth xs i).Addr)
def quarCells(xs:List aO):Nat->Int
 | 0=>0
 | i+1=>quarCells xs i+csz (nth xs i).Z
def gm(q:b9):Bool:=dv q.a1.length (kD q.a1)&&decide (0<=q.b7/\q.b7<=500/\quarCells q.a1 q.a1.length<=q.b7)
def nr(xs:List Int)(i:Nat):Bool:=decide (0<=nth xs i/\nth xs i<=15/\(i=0\/nth xs (i - 1)<nth xs i))
def fo(p:cB):Bool:=dv p.W.length (nr p.W)&&decide (0<=p.a8/\p.a8<=31/\0<=p.a6/\p.a6<=31/\p.a8≠p.a6)
def kq(j:dy):Bool:=fo j.Y&&decide (0<=j.a9/\j.a9<=5/\0<=j.w/\j.w<=j.Y.W.length)
def wM(j:dy):Bool:=decide (j.Y.a8=0/\j.Y.a6=0/\j.Y.W.length=0/\j.a9=0/\j.w=0)
def b6(h:ac)(p:Int):List Int:=if(ar h.J.F.O p).o=0 then [] else pagesOn h.J.F.O (ar h.J.F.O p).e
def mM(p:Int)(s:ay):Bool:=decide (s.Q=p)
def jm(h:ac)(p:Int):Int:=cA (mM p) h.H
def aV(n:Int):Int:=if n<1 then -1 else if n<=1 then 0 else if n<=2 then 1 else if n<=4 then 2 else if n<=8 then 3 else -1
set_option maxRecDepth 20000
set_option maxHeartbeats 2000000
def bj(n lo a:Int):zzA 110 false [.val none [I n],.val none [I lo],.val none [I a]] .one [B (decide (lo<=n/\n<=a))]:=by
 refine fO 15 [] Tryz.func110 rfl ?_
 repeat'(first|refine gP ?_|(conv=>whnf);first|with_reducible refine Bf.D (λb=>?_) (λb=>?_))
 all_goals exact X0 (λz=>[B z]) (by simp;try omega)
def aF(n lo a:Int):zzA 63 false [.val none [I n],.val none [I lo],.val none [I a]] .one [B (decide (lo<=n/\n<=a))]:=by
 refine fO 15 [] Tryz.func63 rfl ?_
 repeat'(first|refine gP ?_|(conv=>whnf);first|with_reducible refine Bf.D (λb=>?_) (λb=>?_))
 all_goals exact X0 (λz=>[B z]) (by simp;try omega)
def eM(k:Int):zzA 232 false [.val none [I k]] .one [B (decide (0<=k/\k<=3))]:=by
 refine fO 5 [] Tryz.func232 rfl ?_
 repeat'(first|refine gP ?_|(conv=>whnf);first|refine C7 (aF k 0 3) ?_)
 rfl
theorem cV(k:Int):zzA 106 false [.val none [I k]] .one [I (csz k)]:=by
 by_cases b:0<=k/\k<=3
 ·obtain rfl|rfl|rfl|rfl:k=0\/k=1\/k=2\/k=3:=ω
  all_goals
   refine fO 8 [] Tryz.func106 rfl ?_
   repeat'(first|refine gE ?_|(conv=>whnf);first|with_reducible refine Bf.D (λa=>?_) (λa=>?_)|refine C7 (eM _) ?_|refine CM (by decide) ?_|refine CH rfl ?_)
   exact X0 (λz=>[I z]) (by decide)
 refine fO 8 [] Tryz.func106 rfl ?_
 repeat'(first|refine gE ?_|(conv=>whnf);first|with_reducible refine Bf.D (λa=>?_) (λa=>?_)|refine C7 (eM _) ?_)
 exact X0 (λz=>[I z]) (by grind [csz])
theorem fU(k:Int):zzA 361 false [.val none [I k]] .one [I (csz k)]:=by
 by_cases b:0<=k/\k<=3
 ·obtain rfl|rfl|rfl|rfl:k=0\/k=1\/k=2\/k=3:=ω
  all_goals
   refine fO 9 [] Tryz.func361 rfl ?_
   repeat'(first|refine gE ?_|(conv=>whnf);first|with_reducible refine Bf.D (λa=>?_) (λa=>?_)|refine C7 (bj _ 0 3) ?_|refine CM (by decide) ?_|refine CH rfl ?_)
   exact X0 (λz=>[I z]) (by decide)
 refine fO 9 [] Tryz.func361 rfl ?_
 repeat'(first|refine gE ?_|(conv=>whnf);first|with_reducible refine Bf.D (λa=>?_) (λa=>?_)|refine C7 (bj _ 0 3) ?_)
 exact X0 (λz=>[I z]) (by grind [csz])
theorem tl(xs:List Int)(a:Int)(h:xs.length<=9223372036854775807):zzA 353 false [.val none (aK .U xs),.val none [I a]] .one [B (decide (a∈xs))]:=by
 refine fO 18 [] Tryz.func353 rfl ?_
 repeat'(first|refine gP ?_|fail)
 (conv=>whnf)
 refine CD (ι:=Nat) (λi=>[(0,.G .one (aK .U xs)),(1,.G .one [I a]),(5,.G .one [I (i:Nat)])]) (λi=>i<=xs.length/\a∉xs.take i) (λi=>xs.length - i) 0 ?_ ψ λi c=>?_
 ·exact wB
 obtain⟨c,d⟩:=c;by_cases b:i<xs.length
 ·obtain⟨y,e⟩ : ∃y,xs[i]? = some y:=⟨_,O2 b⟩
  repeat'(first|refine gE ?_|(conv=>whnf);first|with_reducible (first|refine CB (aa e) ?_|refine Bf.E (λg=>?_) (λg=>?_)))
  ·exact X0 (λz=>[B z]) ψ
  (conv=>whnf)
  refine CC (i+1) ⟨ω,?_⟩ ω ?_
  ·grind [t5]
  exact wB
 repeat'(first|refine gE ?_|fail)
 rw[I6 ω]at d;exact X0 (λz=>[B z]) ψ
set_option maxHeartbeats 4000000
def good(k:Int)(s:List Int)(a:Int):Prop:=0<=a/\a<=511/\a.tmod (csz k)=0/\a∉s
instance (k:Int) (s:List Int) (a:Int):Decidable (good k s a):=by unfold good;exact inferInstance
def rd(k:Int):List Int->List Int->Option (List Int)
 | s,[]=>some s
 | s,a::l=>if good k s a then rd k (s++[a]) l else none
def eL(k:Nat)(s l:List Int):Option (List Int):=if l.length<=8/\k<=3 then rd k s l else none
def fX:Nat->List Int->List (List Int)->Option (List Int)
 | _,s,[]=>some s
 | k,s,l::ls=>(eL k s l).bind λa=>fX (k+1) a ls
def bF(c:aE):Bool:=decide (c.X.length=4)&&(fX 0 [] c.X).isSome
theorem qF(k:Int):∀(a s b:List Int),rd k s (a++b)=(rd k s a).bind λc=>rd k c b
 | [],s,b=>rfl
 | x::a,s,b=>by
  simp only[List.cons_append,rd];split
  ·exact qF k a _ b
  rfl
theorem oH:∀(a:List (List Int))(k:Nat)(s:List Int)(b:List (List Int)),fX k s (a++b)=(fX k s a).bind λc=>fX (k+a.length) c b
 | [],k,s,b=>rfl
 | l::a,k,s,b=>by
  simp only[List.cons_append,fX,Option.bind_assoc,List.length_cons]
  congr 1;funext c
  rw[oH a (k+1) c b,show k+1+a.length=k+(a.length+1) by omega]
variable{j:Nat}{l:List Int}
theorem Ht{k:Int}{b s:List Int}(c:l[j]? = some a)(h:rd k b (l.take j)=some s)(d:good k s a):rd k b (l.take (j+1))=some (s++[a]):=by grind [t5,qF,rd]
theorem LB{b s:List Int}(c:l[j]? = some a)(h:rd k b (l.take j)=some s)(d:¬good k s a):eL k b l=none:=by
 unfold eL;split
 all_goals grind [List.drop_eq_getElem_cons,List.take_append_drop,qF,rd]
theorem Do{k:Int} : ∀{l s b:List Int},rd k s l=some b->b.length=s.length+l.length
 | [],s,b,h=>by grind [rd]
 | a::l,s,b,h=>by
  simp only[rd]at h;split at h
  ·have:=Do h;grind
  cases h
theorem tw{a:List (List Int)}{s:List Int}(b:a[i]? = some l)(h:fX 0 [] (a.take i)=some s):fX 0 [] (a.take (i+1))=eL i s l:=by
 have c:=(U2.1 b).1;rw[t5,b,Option.toList_some,oH,h];simp only[Option.bind_some,fX,Z5,V1,Nat.min_eq_left (Nat.le_of_lt c)]
 grind
variable{c:aE}
theorem kP{s:List Int}(a:c.X[i]? = some l)(h:fX 0 [] (c.X.take i)=some s)(b:eL i s l=none):bF c=false:=by
 have d:=tw a h
 grind [List.take_append_drop,oH,bF]
theorem DQ:∀{b:List (List Int)}{k:Nat}{s a:List Int},fX k s b=some a->a.length<=s.length+8*b.length
 | [],k,s,a,h=>by grind [fX]
 | l::b,k,s,a,h=>by
  simp only[fX]at h;unfold eL at h;split at h
  ·cases c:rd k s l with
   | none=>grind
   | some d=>
    rw[c]at h;have e:=Do c;have f:=DQ (show fX (k+1) d b=some a from h)
    grind
  cases h
def LM(h:i<=3):csz (i:Int)≠0:=by
 obtain rfl|rfl|rfl|rfl:i=0\/i=1\/i=2\/i=3:=ω
 all_goals decide
def dL : ∀r∈l.map (rI .own),r.length=1:=by
 intro r a;obtain⟨z,-,rfl⟩:=z4.1 a;rfl
theorem B9(c:aE)(t:aE.sml c):zzA 214 false [.val (some 1) (aE.enc .U c)] .one [B (bF c)]:=by
 have G:=t.1;refine fO 60 [] Tryz.func214 rfl ?_
 repeat'(first|refine gP ?_|(conv=>whnf);first|with_reducible refine Bf.N (λe=>?_) (λe=>?_))
 ·exact X0 (λz=>[B z]) (by grind [bF])
 have H:c.X.length=4:=ω
 (conv=>whnf)
 refine CD (ι:=Nat × List Int) (λi=>[(1,.G .box (aE.enc .U c)),(3,.G .one (aK .own i.2)),(4,.G .one [I (i.1:Nat)])]) (λi=>i.1<=4/\fX 0 [] (c.X.take i.1)=some i.2) (λi=>4 - i.1) (0,[]) ?_ ⟨W0 _,rfl⟩ λi k=>?_
 ·exact wB
 obtain⟨i,s⟩:=i;obtain⟨k,b⟩:=k;simp only at k b |-;have g:=DQ b;rw[V1]at g;simp only[List.length_nil]at g;by_cases u:i<4
 ·obtain⟨l,d⟩ : ∃l,c.X[i]? = some l:=(ψ)
  have w:l.length<=1048576:=t.2 l ψ
  repeat'(first|refine gE ?_|(conv=>whnf);first|with_reducible (first|refine CB (aa d) ?_|refine Bf.D (λe=>?_) (λe=>?_)))
  ·exact X0 (λz=>[B z]) (kP d b (by grind [eL])).symm
  have E:l.length<=8:=ω
  (conv=>whnf)
  refine CD (ι:=Nat × List Int) (λj=>[(1,.G .box (aE.enc .U c)),(3,.G .one (aK .own j.2)),(4,.G .one [I (i:Nat)]),(5,.G .one [I (j.1:Nat)])]) (λj=>j.1<=l.length/\rd i s (l.take j.1)=some j.2) (λj=>l.length - j.1) (0,s) ?_ ⟨W0 _,rfl⟩ λj n=>?_
  ·exact wB
  obtain⟨j,o⟩:=j;obtain⟨n,a⟩:=n;simp only at n a |-;have h:=Do a;rw[V1]at h;by_cases p:j<l.length
  ·obtain⟨y,q⟩ : ∃y,l[j]? = some y:=⟨_,O2 p⟩
   repeat'(first|refine gE ?_|(conv=>whnf);first|with_reducible (first|refine CB (aa d) ?_|refine CB (aa q) ?_|refine Bf.D (λe=>?_) (λe=>?_)|refine Bf.N (λe=>?_) (λe=>?_))|refine C7 (bj y 0 511) ?_|refine C7 (fU (i:Nat)) ?_|refine CM (LM ω) ?_|refine CO rfl ?_|refine CJ (tl o y ω) ⟨⟨rfl,eg _⟩,⟨rfl,rfl⟩,trivial⟩ ?_|refine CQ dL (λr F=>by rw[O1.1 F];rfl) (by simp[bn,eP]) (by simp;omega) (by simp only[C1];exact D8 (by simp;omega) (by decide)) rfl ?_)
   all_goals first
    | exact X0 (λz=>[B z]) (kP d b (LB q a λ⟨J,K,L,M⟩=>by first|contradiction|omega)).symm
    | ((conv=>whnf)
       refine CC (j+1,o++[y]) ⟨(by simp only;omega),Ht q a ⟨ω,ω,(by assumption),(by assumption)⟩⟩ (by simp only;omega) ?_
       (repeat'(first|exact trivial|rfl|exact CG rfl (CG (X0 (C.s dH.own) (by simp[rI])) trivial)|refine CG ?_ ?_)))
  repeat'(first|refine gE ?_|(conv=>whnf);first|with_reducible refine CB (aa d) ?_)
  (conv=>whnf)
  rw[I6 ω]at a;refine CC (i+1,o) ⟨(by simp only;omega),(by rw[tw d b];grind [eL])⟩ (by simp only;omega) ?_;exact wB
 repeat'(first|refine gE ?_|fail)
 rw[I6 ω]at b;exact X0 (λz=>[B z]) (by grind [bF])
def fw(s:List Int):List (Int × Value):=s.map λa=>(a,.bool true)
theorem mV(a:Int):∀(s:List Int),mlook (fw s) a (.bool false)=.bool (decide (a∈s))
 | []=>by simp[fw,mlook]
 | x::s=>by
  have b:=mV a s
  grind [fw,mlook]
theorem td{a:Int} : ∀{s:List Int},a∉s->fw (s++[a])=mput (fw s) a (.bool true)
 | [],_=>rfl
 | x::s,h=>by
  simp only[List.mem_cons,not_or]at h;have b:=td h.2
  grind [fw,mput]
theorem nw(c:aE)(p:aE.sml c):zzA 80 false [.val (some 1) (aE.enc .U c)] .one [B (bF c)]:=by
 have w:=p.1;refine fO 54 [] Tryz.func80 rfl ?_
 repeat'(first|refine gP ?_|fail)
 (conv=>whnf)
 refine CD (ι:=Nat × List Int) (λi=>[(1,.G .box (aE.enc .U c)),(3,.G .one [.m (fw i.2)]),(10,.G .one (jq .U c.X)),(11,.G .one [I c.X.length]),(12,.G .one [I (i.1:Nat)])]) (λi=>i.1<=c.X.length/\fX 0 [] (c.X.take i.1)=some i.2) (λi=>c.X.length - i.1) (0,[]) ?_ ⟨W0 _,rfl⟩ λi g=>?_
 ·exact wB
 obtain⟨i,s⟩:=i;obtain⟨g,d⟩:=g;simp only at g d |-;by_cases q:i<c.X.length
 ·obtain⟨l,b⟩ : ∃l,c.X[i]? = some l:=(ψ)
  have r:l.length<=1048576:=p.2 l ψ
  repeat'(first|refine gE ?_|(conv=>whnf);first|with_reducible (first|refine CB (aa b) ?_|refine Bf.D (λe=>?_) (λe=>?_))|refine C7 (eM (i:Nat)) ?_)
  ·exact X0 (λz=>[B z]) (kP b d (by grind [eL])).symm
  rotate_left
  ·exact X0 (λz=>[B z]) (kP b d (by grind [eL])).symm
  have t:l.length<=8:=ω
  have u:i<=3:=ω
  (conv=>whnf)
  refine CD (ι:=Nat × List Int) (λj=>[(1,.G .box (aE.enc .U c)),(3,.G .one [.m (fw j.2)]),(4,.G .one [I (i:Nat)]),(10,.G .one (jq .U c.X)),(11,.G .one [I c.X.length]),(12,.G .one [I (i:Nat)]),(25,.G .one (aK .U l)),(26,.G .one [I l.length]),(27,.G .one [I (j.1:Nat)])]) (λj=>j.1<=l.length/\rd i s (l.take j.1)=some j.2) (λj=>l.length - j.1) (0,s) ?_ ⟨W0 _,rfl⟩ λj h=>?_
  ·exact wB
  obtain⟨j,k⟩:=j;obtain⟨h,a⟩:=h;simp only at h a |-;by_cases n:j<l.length
  ·obtain⟨y,o⟩ : ∃y,l[j]? = some y:=⟨_,O2 n⟩
   repeat'(first|refine gE ?_|(conv=>whnf);first|with_reducible (first|refine CB (aa b) ?_|refine CB (aa o) ?_|refine Bf.D (λe=>?_) (λe=>?_)|refine Bf.N (λe=>?_) (λe=>?_))|refine C7 (aF y 0 511) ?_|refine C7 (cV (i:Nat)) ?_|refine CM (LM ω) ?_|refine CO rfl ?_|refine Ml.mk (mV y k) ?_|refine Mu.mk (td (by assumption)) ?_)
   all_goals first
    | exact X0 (λz=>[B z]) (kP b d (LB o a λ⟨C,E,F,G⟩=>by first|contradiction|omega)).symm
    | ((conv=>whnf)
       refine CC (j+1,k++[y]) ⟨(by simp only;omega),Ht o a ⟨ω,ω,(by assumption),(by assumption)⟩⟩ (by simp only;omega) ?_
       (exact wA))
  repeat'(first|refine gE ?_|fail)
  (conv=>whnf)
  rw[I6 ω]at a;refine CC (i+1,k) ⟨(by simp only;omega),(by rw[tw b d];grind [eL])⟩ (by simp only;omega) ?_;exact wB
 repeat'(first|refine gE ?_|fail)
 grind [U0,bF]
theorem H3:∀{b:List (List Int)}{k:Nat}{s c:List Int},fX k s b=some c->∀l∈b,l.length<=8
 | [],k,s,c,h,l,a=>by simp at a
 | x::b,k,s,c,h,l,a=>by
  simp only[fX]at h;unfold eL at h;split at h
  ·rename_i d
   rcases List.mem_cons.1 a with rfl|a
   ·exact d.1
   cases e:rd k s x with
   | none=>grind
   | some f=>rw[e]at h;exact H3 (show fX (k+1) f b=some c from h) l a
  cases h
theorem Ff(h:bF c=true):c.X.length=4/\∀l∈c.X,l.length<=8:=by grind [Option.isSome_iff_exists,H3,bF]
theorem pO(f:aS)(h:aS.sml f):zzA 86 false [.val (some 2) (aS.enc .U f)] .one [B (cH f)]:=by
 have C:=h.1.1;have E:f.k.length<=1048576:=h.2;refine fO 61 [] Tryz.func86 rfl ?_
 repeat'(first|refine gP ?_|(conv=>whnf);first|with_reducible (first|refine Bf.D (λa=>?_) (λa=>?_)|refine Bf.N (λa=>?_) (λa=>?_))|refine C7 (bj f.W.length 1 32) ?_)
 ·exact X0 (λz=>[B z]) (by grind [cH])
 rotate_left
 ·exact X0 (λz=>[B z]) (by grind [cH])
 have t:1<=f.W.length/\f.W.length<=32:=ω
 have w:f.k.length=f.W.length:=ω
 (conv=>whnf)
 refine CD (ι:=Nat) (λi=>[(1,.G .box (aS.enc .U f)),(3,.G .one [I (i:Nat)])]) (λi=>i<=f.W.length/\((f.W.zip f.k).take i).all (λq=>ib q.1 q.2)=true) (λi=>f.W.length - i) 0 ?_ ψ λi j=>?_
 ·exact wB
 obtain⟨j,y⟩:=j;by_cases g:i<f.W.length
 ·obtain⟨r,c⟩ : ∃r,f.W[i]? = some r:=⟨_,O2 g⟩
  obtain⟨u,b⟩ : ∃u,f.k[i]? = some u:=⟨_,O2 ω⟩
  repeat'(first|refine gE ?_|(conv=>whnf);first|with_reducible (first|refine CB (aa c) ?_|refine Bf.N (λa=>?_) (λa=>?_)))
  ·exact X0 (λz=>[B z]) (ij c b (by grind [ib])).symm
  have l:r.length=16:=ω
  (conv=>whnf)
  refine CD (ι:=Nat) (λk=>[(1,.G .box (aS.enc .U f)),(3,.G .one [I (i:Nat)]),(4,.G .one [I (k:Nat)])]) (λk=>k<=16/\(r.take k).all (iO u)=true) (λk=>16 - k) 0 ?_ ψ λk n=>?_
  ·exact wB
  obtain⟨n,e⟩:=n;by_cases o:k<16
  ·obtain⟨v,d⟩ : ∃v,r[k]? = some v:=⟨_,O2 ω⟩
   cases u with
   | true=>
    repeat'(first|refine gE ?_|(conv=>whnf);first|with_reducible (first|refine CB (aa c) ?_|refine CB (aa b) ?_|refine CB (aa d) ?_|refine Bf.D (λa=>?_) (λa=>?_)|refine Bf.N (λa=>?_) (λa=>?_))|refine C7 (bj v 0 999) ?_)
    all_goals first
     | exact X0 (λz=>[B z]) (ij c b (rm d (by first|(unfold iO;rw[U0 ω];rfl)|(unfold iO;rw[U0 (p:=v=0) ω];simp)))).symm
     | ((conv=>whnf)
        refine CC (ι:=Nat) (k+1) ⟨ω,dO d e (by unfold iO;first|(rw[O0 ω];rfl)|(rw[O0 (p:=0<=v/\v<=999) ω,O0 (p:=v=0) ω];rfl))⟩ ω ?_
        (exact wA))
   | false=>
    repeat'(first|refine gE ?_|(conv=>whnf);first|with_reducible (first|refine CB (aa c) ?_|refine CB (aa b) ?_|refine CB (aa d) ?_|refine Bf.D (λa=>?_) (λa=>?_)|refine Bf.N (λa=>?_) (λa=>?_))|refine C7 (bj v 0 999) ?_)
    all_goals first
     | exact X0 (λz=>[B z]) (ij c b (rm d (by first|(unfold iO;rw[U0 ω];rfl)|(unfold iO;rw[U0 (p:=v=0) ω];simp)))).symm
     | ((conv=>whnf)
        refine CC (ι:=Nat) (k+1) ⟨ω,dO d e (by unfold iO;first|(rw[O0 ω];rfl)|(rw[O0 (p:=0<=v/\v<=999) ω,O0 (p:=v=0) ω];rfl))⟩ ω ?_
        (exact wA))
  repeat'(first|refine gE ?_|fail)
  (conv=>whnf)
  refine CC (i+1) ⟨ω,dO (vr c b) y (by grind [ib])⟩ ω ?_;exact wB
 repeat'(first|refine gE ?_|fail)
 exact X0 (λz=>[B z]) (by grind [List.length_zip,cH])
theorem lV(f:aS)(g:aS.sml f):zzA 242 false [.val (some 2) (aS.enc .U f)] .one [B (cH f)]:=by
 have C:=g.1.1;have E:f.k.length<=1048576:=g.2;refine fO 55 [] Tryz.func242 rfl ?_
 repeat'(first|refine gP ?_|(conv=>whnf);first|with_reducible (first|refine Bf.D (λa=>?_) (λa=>?_)|refine Bf.N (λa=>?_) (λa=>?_))|refine C7 (aF f.W.length 1 32) ?_)
 ·exact X0 (λz=>[B z]) (by grind [cH])
 rotate_left
 ·exact X0 (λz=>[B z]) (by grind [cH])
 have p:1<=f.W.length/\f.W.length<=32:=ω
 have t:f.k.length=f.W.length:=ω
 (conv=>whnf)
 refine CD (ι:=Nat) (λi=>[(1,.G .box (aS.enc .U f)),(22,.G .one (jq .U f.W)),(23,.G .one [I (f.W.length)]),(24,.G .one [I ((i:Nat):Int)])]) (λi=>i<=f.W.length/\((f.W.zip f.k).take i).all (λq=>ib q.1 q.2)=true) (λi=>f.W.length - i) (0) ?_ ψ λi j=>?_
 ·exact wB
 obtain⟨j,w⟩:=j;by_cases h:i<f.W.length
 ·obtain⟨r,c⟩ : ∃r,f.W[i]? = some r:=⟨_,O2 h⟩
  obtain⟨u,b⟩ : ∃u,f.k[i]? = some u:=⟨_,O2 ω⟩
  have y:r.length<=1048576:=g.1.2 r ψ
  repeat'(first|refine gE ?_|(conv=>whnf);first|with_reducible (first|refine CB (aa c) ?_|refine Bf.N (λa=>?_) (λa=>?_)))
  ·exact X0 (λz=>[B z]) (ij c b (by grind [ib])).symm
  have l:r.length=16:=ω
  (conv=>whnf)
  refine CD (ι:=Nat) (λk=>[(1,.G .box (aS.enc .U f)),(3,.G .one [I ((i:Nat):Int)]),(22,.G .one (jq .U f.W)),(23,.G .one [I (f.W.length)]),(24,.G .one [I ((i:Nat):Int)]),(32,.G .one (aK .U r)),(33,.G .one [I (r.length)]),(34,.G .one [I ((k:Nat):Int)])]) (λk=>k<=r.length/\(r.take k).all (iO u)=true) (λk=>r.length - k) (0) ?_ ψ λk n=>?_
  ·exact wB
  obtain⟨n,e⟩:=n;by_cases o:k<r.length
  ·obtain⟨v,d⟩ : ∃v,r[k]? = some v:=⟨_,O2 ω⟩
   cases u with
   | true=>
    repeat'(first|refine gE ?_|(conv=>whnf);first|with_reducible (first|refine CB (aa c) ?_|refine CB (aa b) ?_|refine CB (aa d) ?_|refine Bf.D (λa=>?_) (λa=>?_)|refine Bf.N (λa=>?_) (λa=>?_))|refine C7 (aF v 0 999) ?_)
    all_goals first
     | exact X0 (λz=>[B z]) (ij c b (rm d (by unfold iO;grind))).symm
     | ((conv=>whnf)
        refine CC (ι:=Nat) (k+1) ⟨ω,dO d e (by unfold iO;grind)⟩ ω ?_
        (exact wA))
   | false=>
    repeat'(first|refine gE ?_|(conv=>whnf);first|with_reducible (first|refine CB (aa c) ?_|refine CB (aa b) ?_|refine CB (aa d) ?_|refine Bf.D (λa=>?_) (λa=>?_)|refine Bf.N (λa=>?_) (λa=>?_))|refine C7 (aF v 0 999) ?_)
    all_goals first
     | exact X0 (λz=>[B z]) (ij c b (rm d (by unfold iO;grind))).symm
     | ((conv=>whnf)
        refine CC (ι:=Nat) (k+1) ⟨ω,dO d e (by unfold iO;grind)⟩ ω ?_
        (exact wA))
  repeat'(first|refine gE ?_|fail)
  (conv=>whnf)
  refine CC (i+1) ⟨ω,dO (vr c b) w (by grind [ib])⟩ ω ?_;exact wB
 repeat'(first|refine gE ?_|fail)
 exact X0 (λz=>[B z]) (by grind [List.length_zip,cH])
theorem BC(t:aN)(b:Int)(e:aN.sml t):zzA 469 false [.val (some 1) (aN.enc .U t),.val none [I b]] .one [B (fS t b)]:=by
 have k:=e.1;refine fO 54 [] Tryz.func469 rfl ?_
 repeat'(first|refine gP ?_|fail)
 (conv=>whnf)
 refine CD (ι:=Nat) (λi=>[(1,.G .one [I (b)]),(2,.G .box (aN.enc .U t)),(5,.G .one [I ((i:Nat):Int)])]) (λi=>i<=t.K.length/\dv i (λj=>kT b (nth t.K j))=true) (λi=>t.K.length - i) 0 ?_ ⟨W0 _,rfl⟩ λi c=>?_
 ·exact wB
 obtain⟨c,g⟩:=c;by_cases d:i<t.K.length
 ·have h:=au d
  repeat'(first|refine gE ?_|(conv=>whnf);first|with_reducible (first|refine CB (aa h) ?_|refine Bf.D (λa=>?_) (λa=>?_)|refine Bf.N (λa=>?_) (λa=>?_)|refine Bf.E (λa=>?_) (λa=>?_))|refine C7 (bj _ 0 2) ?_)
  all_goals first
   | exact X0 (λz=>[B z]) ((by symm;unfold fS;rw[dm d (U0 ψ)];rfl))
   | ((conv=>whnf);refine CC (i+1) ⟨ω,cK g (O0 ψ)⟩ ω ?_;(exact wB))
 repeat'(first|refine gE ?_|(conv=>whnf);first|refine C7 (bj _ 1 32) ?_)
 obtain rfl:i=t.K.length:=ω
 exact X0 (λz=>[B z]) ((by grind [fS]))
theorem Bj(t:aN)(b:Int)(e:aN.sml t):zzA 243 false [.val (some 1) (aN.enc .U t),.val none [I b]] .one [B (fS t b)]:=by
 have k:=e.1;refine fO 49 [] Tryz.func243 rfl ?_
 repeat'(first|refine gP ?_|fail)
 (conv=>whnf)
 refine CD (ι:=Nat) (λi=>[(1,.G .one [I (b)]),(2,.G .box (aN.enc .U t)),(8,.G .one (F6 .U t.K)),(9,.G .one [I (t.K.length)]),(10,.G .one [I ((i:Nat):Int)])]) (λi=>i<=t.K.length/\dv i (λj=>kT b (nth t.K j))=true) (λi=>t.K.length - i) 0 ?_ ⟨W0 _,rfl⟩ λi c=>?_
 ·exact wB
 obtain⟨c,g⟩:=c;by_cases d:i<t.K.length
 ·have h:=au d
  repeat'(first|refine gE ?_|(conv=>whnf);first|with_reducible (first|refine CB (aa h) ?_|refine Bf.D (λa=>?_) (λa=>?_)|refine Bf.N (λa=>?_) (λa=>?_)|refine Bf.E (λa=>?_) (λa=>?_))|refine C7 (aF _ 0 2) ?_)
  all_goals first
   | exact X0 (λz=>[B z]) ((by symm;unfold fS;rw[dm d (U0 ψ)];rfl))
   | ((conv=>whnf);refine CC (i+1) ⟨ω,cK g (O0 ψ)⟩ ω ?_;(exact wB))
 repeat'(first|refine gE ?_|(conv=>whnf);first|refine C7 (aF _ 1 32) ?_)
 obtain rfl:i=t.K.length:=ω
 exact X0 (λz=>[B z]) ((by grind [fS]))
theorem gr(t:aN)(f:Int)(c:aN.sml t):zzA 470 false [.val (some 1) (aN.enc .U t),.val none [I f]] .one (aK .own (pagesOn t f)):=by
 have j:=c.1;refine fO 37 [] Tryz.func470 rfl ?_ (.inr (bQ _))
 repeat'(first|refine gP ?_|fail)
 (conv=>whnf)
 refine CD (ι:=Nat) (λi=>[(1,.G .one [I (f)]),(2,.G .box (aN.enc .U t)),(5,.G .one (aK .own (jA t f i))),(6,.G .one [I ((i:Nat):Int)])]) (λi=>i<=t.K.length) (λi=>t.K.length - i) (0) ?_ (W0 _) λi k=>?_
 ·exact wB
 have d:=sV t f i;by_cases e:i<t.K.length
 ·have g:=au e
  repeat'(first|refine gE ?_|(conv=>whnf);first|with_reducible (first|refine CB (aa g) ?_|refine Bf.D (λb=>?_) (λb=>?_)|refine Bf.N (λb=>?_) (λb=>?_)|refine Bf.E (λb=>?_) (λb=>?_))|refine CQ dL (λr h=>by rw[O1.1 h];rfl) (by simp[bn,eP]) (by simp;omega) (by simp only[C1];exact D8 (by simp;omega) (by decide)) rfl ?_)
  all_goals first
   |(have a:Ns t f i=true:=O0 ψ
     (conv=>whnf)
     refine CC (i+1) ω ω ?_;rw[zO a]
     (repeat'(first|exact trivial|rfl|exact CG rfl (CG (X0 (C.s dH.own) (by simp[rI])) trivial)|refine CG ?_ ?_)))
   |(have a:Ns t f i=false:=U0 ψ
     (conv=>whnf)
     refine CC (i+1) ω ω ?_;rw[Ej a]
     (exact wA))
 repeat'(first|refine gE ?_|fail)
 obtain rfl:i=t.K.length:=ω
 rfl
theorem kC(t:aN)(f:Int)(c:aN.sml t):zzA 244 false [.val (some 1) (aN.enc .U t),.val none [I f]] .one (aK .own (pagesOn t f)):=by
 have j:=c.1;refine fO 32 [] Tryz.func244 rfl ?_ (.inr (bQ _))
 repeat'(first|refine gP ?_|fail)
 (conv=>whnf)
 refine CD (ι:=Nat) (λi=>[(1,.G .one [I (f)]),(5,.G .one (aK .own (jA t f i))),(10,.G .one (F6 .U t.K)),(11,.G .one [I (t.K.length)]),(12,.G .one [I ((i:Nat):Int)])]) (λi=>i<=t.K.length) (λi=>t.K.length - i) (0) ?_ (W0 _) λi k=>?_
 ·exact wB
 have d:=sV t f i;by_cases e:i<t.K.length
 ·have g:=au e
  repeat'(first|refine gE ?_|(conv=>whnf);first|with_reducible (first|refine CB (aa g) ?_|refine Bf.D (λb=>?_) (λb=>?_)|refine Bf.N (λb=>?_) (λb=>?_)|refine Bf.E (λb=>?_) (λb=>?_))|refine CQ dL (λr h=>by rw[O1.1 h];rfl) (by simp[bn,eP]) (by simp;omega) (by simp only[C1];exact D8 (by simp;omega) (by decide)) rfl ?_)
  all_goals first
   |(have a:Ns t f i=true:=O0 ψ
     (conv=>whnf)
     refine CC (i+1) ω ω ?_;rw[zO a]
     (repeat'(first|exact trivial|rfl|exact CG rfl (CG (X0 (C.s dH.own) (by simp[rI])) trivial)|refine CG ?_ ?_)))
   |(have a:Ns t f i=false:=U0 ψ
     (conv=>whnf)
     refine CC (i+1) ω ω ?_;rw[Ej a]
     (exact wA))
 repeat'(first|refine gE ?_|fail)
 obtain rfl:i=t.K.length:=ω
 rfl
def kQ(t:aN)(p:Int)(b:aN.sml t):zzA 34 false [.val (some 1) (aN.enc .U t),.val none [I p]] .agg (bp.enc .own (ar t p)):=by
 have d:=b.1;refine fO 18 [] Tryz.func34 rfl ?_ (.inr (bp.enc_fr _));by_cases a:0<=p/\p<t.K.length
 ·have c:=au (xs:=t.K) (i:=p.toNat) ω
  repeat'(first|refine gE ?_|(conv=>whnf);first|refine C7 (bj _ 0 _) ?_|refine CL a.1 (aa c) ?_)
  all_goals(unfold ar;rw[CA a];rfl)
 repeat'(first|refine gE ?_|(conv=>whnf);first|refine C7 (bj _ 0 _) ?_)
 all_goals(unfold ar;rw[C8 a];rfl)
def cJ(t:aN)(p:Int)(b:aN.sml t):zzA 104 false [.val (some 1) (aN.enc .U t),.val none [I p]] .agg (bp.enc .own (ar t p)):=by
 have d:=b.1;refine fO 18 [] Tryz.func104 rfl ?_ (.inr (bp.enc_fr _));by_cases a:0<=p/\p<t.K.length
 ·have c:=au (xs:=t.K) (i:=p.toNat) ω
  repeat'(first|refine gE ?_|(conv=>whnf);first|refine C7 (aF _ 0 _) ?_|refine CL a.1 (aa c) ?_)
  all_goals(unfold ar;rw[CA a];rfl)
 repeat'(first|refine gE ?_|(conv=>whnf);first|refine C7 (aF _ 0 _) ?_)
 all_goals(unfold ar;rw[C8 a];rfl)
def qD(t:aN)(f:Int):(pagesOn t f).length<=t.K.length:=sV ..
theorem xx(m:aR)(a:aR.sml m):zzA 350 false [.val (some 3) (aR.enc .U m)] .one [B (cU m)]:=by
 have q:m.V.k.length<=1048576:=a.1.2;have k:m.V.W.length<=1048576:=a.1.1.1;have b:=pO m.V a.1;have c:=BC m.O m.V.W.length a.2;cases d:cH m.V with
 | false=>
  rw[d]at b;refine fO 39 [(6,13,[26,27,28,29,30,31,32,33,34,35,36,37,38])] Tryz.func350 rfl ?_
  repeat'(first|refine gP ?_|(conv=>whnf);first|refine C7 b ?_)
  exact X0 (λz=>[B z]) ((by grind [cU]))
 | true=>
  have g:=Di d;rw[d]at b;cases e:fS m.O m.V.k.length with
  | false=>
   rw[show(m.V.W.length:Int)=m.V.k.length by omega,e]at c;refine fO 39 [(6,13,[26,27,28,29,30,31,32,33,34,35,36,37,38])] Tryz.func350 rfl ?_
   repeat'(first|refine gP ?_|(conv=>whnf);first|refine C7 b ?_|refine C7 ((show(m.V.W.length:Int)=m.V.k.length by omega) ▸ c) ?_)
   exact X0 (λz=>[B z]) ((by grind [cU]))
  | true=>
   rw[show(m.V.W.length:Int)=m.V.k.length by omega,e]at c;refine fO 39 [(6,13,[26,27,28,29,30,31,32,33,34,35,36,37,38])] Tryz.func350 rfl ?_
   repeat'(first|refine gP ?_|(conv=>whnf);first|refine C7 b ?_|refine C7 ((show(m.V.W.length:Int)=m.V.k.length by omega) ▸ c) ?_)
   (conv=>whnf)
   refine CD (ι:=Nat) (λi=>[(1,.G .box (aR.enc .U m)),(3,.G .one [I ((i:Nat):Int)])]) (λi=>i<=m.V.k.length/\dv i (oA m)=true) (λi=>m.V.k.length - i) 0 ?_ ⟨W0 _,rfl⟩ λi h=>?_
   ·exact wB
   obtain⟨h,l⟩:=h;by_cases j:i<m.V.k.length
   ·have n:=au j
    have o:=qD m.O (i:Nat)
    repeat'(first|refine gE ?_|(conv=>whnf);first|with_reducible (first|refine CB (aa n) ?_|refine Bf.NB (λp=>?_) (λp=>?_))|refine C7 (gr m.O (i:Nat) a.2) ?_)
    all_goals first
     | exact X0 (λz=>[B z]) ((by symm;unfold cU;rw[d,e,dm j (by unfold oA;grind)];rfl))
     | ((conv=>whnf);refine CC (i+1) ⟨ω,cK l (by unfold oA;grind)⟩ ω ?_;(exact wB))
   repeat'(first|refine gE ?_|fail)
   obtain rfl:i=m.V.k.length:=ω
   exact X0 (λz=>[B z]) ((by grind [cU]))
theorem oQ(m:aR)(b:aR.sml m):zzA 87 false [.val (some 3) (aR.enc .U m)] .one [B (cU m)]:=by
 have o:m.V.k.length<=1048576:=b.1.2;have a:=lV m.V b.1;have c:=Bj m.O m.V.k.length b.2;cases d:cH m.V with
 | false=>
  rw[d]at a;refine fO 37 [] Tryz.func87 rfl ?_
  repeat'(first|refine gP ?_|(conv=>whnf);first|refine C7 a ?_)
  exact X0 (λz=>[B z]) ((by grind [cU]))
 | true=>
  rw[d]at a;cases e:fS m.O m.V.k.length with
  | false=>
   rw[e]at c;refine fO 37 [] Tryz.func87 rfl ?_
   repeat'(first|refine gP ?_|(conv=>whnf);first|refine C7 a ?_|refine C7 c ?_)
   exact X0 (λz=>[B z]) ((by grind [cU]))
  | true=>
   rw[e]at c;refine fO 37 [] Tryz.func87 rfl ?_
   repeat'(first|refine gP ?_|(conv=>whnf);first|refine C7 a ?_|refine C7 c ?_)
   (conv=>whnf)
   refine CD (ι:=Nat) (λi=>[(1,.G .box (aR.enc .U m)),(21,.G .one (Hm .U m.V.k)),(22,.G .one [I (m.V.k.length)]),(23,.G .one [I ((i:Nat):Int)])]) (λi=>i<=m.V.k.length/\dv i (oA m)=true) (λi=>m.V.k.length - i) 0 ?_ ⟨W0 _,rfl⟩ λi g=>?_
   ·exact wB
   obtain⟨g,j⟩:=g;by_cases h:i<m.V.k.length
   ·have k:=au h
    have l:=qD m.O (i:Nat)
    repeat'(first|refine gE ?_|(conv=>whnf);first|with_reducible (first|refine CB (aa k) ?_|refine Bf.NB (λn=>?_) (λn=>?_))|refine C7 (kC m.O (i:Nat) b.2) ?_)
    all_goals first
     | exact X0 (λz=>[B z]) ((by symm;unfold cU;rw[d,e,dm h (by unfold oA;grind)];rfl))
     | ((conv=>whnf);refine CC (i+1) ⟨ω,cK j (by unfold oA;grind)⟩ ω ?_;(exact wB))
   repeat'(first|refine gE ?_|fail)
   obtain rfl:i=m.V.k.length:=ω
   exact X0 (λz=>[B z]) ((by grind [cU]))
def NJ(k:ah)(d:ah.sml k):zzA 208 false [.val (some 5) (ah.enc .U k)] .one [B (aH k)]:=by
 have n:k.j.length<=1048576:=d.2;have a:=xx k.F d.1;refine fO 31 [] Tryz.func208 rfl ?_
 repeat'(first|refine gP ?_|fail)
 (conv=>whnf)
 refine CD (ι:=Nat) (λi=>[(1,.G .box (ah.enc .U k)),(3,.G .one [I ((i:Nat):Int)])]) (λi=>i<=k.j.length/\dv i (λj=>decide (0<=nth k.j j))=true) (λi=>k.j.length - i) 0 ?_ ⟨W0 _,rfl⟩ λi e=>?_
 ·exact wB
 obtain⟨e,g⟩:=e;by_cases h:i<k.j.length
 ·have l:=au h
  repeat'(first|refine gE ?_|(conv=>whnf);first|with_reducible (first|refine CB (aa l) ?_|refine Bf.D (λc=>?_) (λc=>?_)))
  all_goals first
   | exact X0 (λz=>[B z]) ((by symm;unfold aH;rw[dm h (U0 ω)];rfl))
   | ((conv=>whnf);refine CC (i+1) ⟨ω,cK g (O0 ω)⟩ ω ?_;(exact wB))
 obtain rfl:i=k.j.length:=ω
 cases b:cU k.F with
 | false=>
  rw[b]at a
  repeat'(first|refine gE ?_|(conv=>whnf);first|refine C7 a ?_)
  all_goals exact X0 (λz=>[B z]) ((by unfold aH;rw[b];simp))
 | true=>
  rw[b]at a
  repeat'(first|refine gE ?_|(conv=>whnf);first|with_reducible refine Bf.D (λc=>?_) (λc=>?_)|refine C7 a ?_|refine C7 (bj _ 0 100000) ?_)
  all_goals exact X0 (λz=>[B z]) ((by unfold aH;rw[b,g];simp only[Bool.true_and];first|exact decide_eq_decide.2 ω|(symm;exact U0 ω)|(symm;exact O0 ω)))
def lU(k:ah)(b:ah.sml k):zzA 26 false [.val (some 5) (ah.enc .U k)] .one [B (aH k)]:=by
 have l:k.j.length<=1048576:=b.2;have g:=oQ k.F b.1;refine fO 29 [] Tryz.func26 rfl ?_
 repeat'(first|refine gP ?_|fail)
 (conv=>whnf)
 refine CD (ι:=Nat) (λi=>[(1,.G .box (ah.enc .U k)),(6,.G .one (aK .U k.j)),(7,.G .one [I (k.j.length)]),(8,.G .one [I ((i:Nat):Int)])]) (λi=>i<=k.j.length/\dv i (λj=>decide (0<=nth k.j j))=true) (λi=>k.j.length - i) 0 ?_ ⟨W0 _,rfl⟩ λi c=>?_
 ·exact wB
 obtain⟨c,d⟩:=c;by_cases e:i<k.j.length
 ·have h:=au e
  repeat'(first|refine gE ?_|(conv=>whnf);first|with_reducible (first|refine CB (aa h) ?_|refine Bf.D (λa=>?_) (λa=>?_)))
  all_goals first
   | exact X0 (λz=>[B z]) ((by symm;unfold aH;rw[dm e (U0 ω)];rfl))
   | ((conv=>whnf);refine CC (i+1) ⟨ω,cK d (O0 ω)⟩ ω ?_;(exact wB))
 obtain rfl:i=k.j.length:=ω
 repeat'(first|refine gE ?_|(conv=>whnf);first|with_reducible refine Bf.D (λa=>?_) (λa=>?_)|refine C7 g ?_|refine C7 (aF _ 0 100000) ?_)
 all_goals exact X0 (λz=>[B z]) ((by unfold aH;rw[d];cases cU k.F<;>simp only[Bool.true_and,Bool.false_and]<;>first|rfl|exact decide_eq_decide.2 ω|(symm;exact U0 ω)|(symm;exact O0 ω)))
def xh(pages:Int)(r:aC)(b:0<=pages/\pages<=1048576):zzA 351 false [.val none [I pages],.val (some 2) (aC.enc .U r)] .one [B (rangeIn pages r)]:=by
 refine fO 18 [] Tryz.func351 rfl ?_
 repeat'(first|refine gP ?_|(conv=>whnf);first|with_reducible refine Bf.D (λa=>?_) (λa=>?_)|refine C7 (bj _ 1 _) ?_|refine C7 (bj _ 0 _) ?_)
 all_goals exact X0 (λz=>[B z]) ((by unfold rangeIn;first|(symm;exact U0 ω)|exact decide_eq_decide.2 ω))
def xJ(pages:Int)(r:aC)(b:0<=pages/\pages<=1048576):zzA 223 false [.val none [I pages],.val (some 2) (aC.enc .U r)] .one [B (rangeIn pages r)]:=by
 refine fO 18 [] Tryz.func223 rfl ?_
 repeat'(first|refine gP ?_|(conv=>whnf);first|with_reducible refine Bf.D (λa=>?_) (λa=>?_)|refine C7 (aF _ 1 _) ?_|refine C7 (aF _ 0 _) ?_)
 all_goals exact X0 (λz=>[B z]) ((by unfold rangeIn;first|(symm;exact U0 ω)|exact decide_eq_decide.2 ω))
theorem Bz(k:Int):zzA 472 false [.val none [I k]] .one [I (slots k)]:=by
 by_cases b:0<=k/\k<=3
 ·obtain rfl|rfl|rfl|rfl:k=0\/k=1\/k=2\/k=3:=ω
  all_goals
   refine fO 9 [] Tryz.func472 rfl ?_
   repeat'(first|refine gE ?_|(conv=>whnf);first|with_reducible refine Bf.D (λa=>?_) (λa=>?_)|refine C7 (bj _ 0 3) ?_|refine CM (by decide) ?_|refine CH rfl ?_|refine CO rfl ?_)
   exact X0 (λz=>[I z]) (by decide)
 refine fO 9 [] Tryz.func472 rfl ?_
 repeat'(first|refine gE ?_|(conv=>whnf);first|with_reducible refine Bf.D (λa=>?_) (λa=>?_)|refine C7 (bj _ 0 3) ?_)
 exact X0 (λz=>[I z]) (by grind [slots])
theorem f7(k:Int):zzA 335 false [.val none [I k]] .one [I (slots k)]:=by
 by_cases b:0<=k/\k<=3
 ·obtain rfl|rfl|rfl|rfl:k=0\/k=1\/k=2\/k=3:=ω
  all_goals
   refine fO 9 [] Tryz.func335 rfl ?_
   repeat'(first|refine gE ?_|(conv=>whnf);first|with_reducible refine Bf.D (λa=>?_) (λa=>?_)|refine C7 (eM _) ?_|refine C7 (cV _) ?_|refine CM (by decide) ?_|refine CH rfl ?_|refine CO rfl ?_)
   exact X0 (λz=>[I z]) (by decide)
 refine fO 9 [] Tryz.func335 rfl ?_
 repeat'(first|refine gE ?_|(conv=>whnf);first|with_reducible refine Bf.D (λa=>?_) (λa=>?_)|refine C7 (eM _) ?_)
 exact X0 (λz=>[I z]) (by grind [slots])
def Lr(k b:Int):Bool:=decide (0<=k/\k<=3/\0<=b/\b<=lim k)
theorem yv(k b:Int):zzA 471 false [.val none [I (slots k)],.val none [I b]] .one [B (Lr k b)]:=by
 by_cases d:0<=k/\k<=3
 ·obtain rfl|rfl|rfl|rfl:k=0\/k=1\/k=2\/k=3:=ω
  all_goals
   first|rw[show slots 0=16 from rfl]|rw[show slots 1=8 from rfl]|rw[show slots 2=4 from rfl]|rw[show slots 3=2 from rfl]
   refine fO 15 [] Tryz.func471 rfl ?_
   repeat'(first|refine gE ?_|(conv=>whnf);first|with_reducible refine Bf.D (λa=>?_) (λa=>?_)|refine C7 (bj _ 1 16) ?_|refine C7 (bj _ 0 _) ?_|refine CM (by decide) ?_|refine CH (show _=(65536:Int) by decide) ?_|refine CH (show _=(65535:Int) by decide) ?_|refine CH (show _=(256:Int) by decide) ?_|refine CH (show _=(255:Int) by decide) ?_|refine CH (show _=(16:Int) by decide) ?_|refine CH (show _=(15:Int) by decide) ?_|refine CH (show _=(4:Int) by decide) ?_|refine CH (show _=(8:Int) by decide) ?_|refine CH (show _=(2:Int) by decide) ?_|refine CH (show _=(3:Int) by decide) ?_)
   all_goals exact X0 (λz=>[B z]) ((decide_eq_decide.2 (by simp[lim])))
 have c:slots k=0:=by grind [slots]
 rw[c];refine fO 15 [] Tryz.func471 rfl ?_
 repeat'(first|refine gE ?_|(conv=>whnf);first|with_reducible refine Bf.D (λa=>?_) (λa=>?_)|refine C7 (bj _ 1 16) ?_)
 exact X0 (λz=>[B z]) ((by symm;exact U0 ω))
theorem pT(k b:Int):zzA 375 false [.val none [I (slots k)],.val none [I b]] .one [B (Lr k b)]:=by
 by_cases d:0<=k/\k<=3
 ·obtain rfl|rfl|rfl|rfl:k=0\/k=1\/k=2\/k=3:=ω
  all_goals
   first|rw[show slots 0=16 from rfl]|rw[show slots 1=8 from rfl]|rw[show slots 2=4 from rfl]|rw[show slots 3=2 from rfl]
   refine fO 14 [] Tryz.func375 rfl ?_
   repeat'(first|refine gE ?_|(conv=>whnf);first|with_reducible refine Bf.D (λa=>?_) (λa=>?_)|refine C7 (aF _ 1 16) ?_|refine C7 (aF _ 0 _) ?_|refine CM (by decide) ?_|refine CH (fF (by decide) (by decide)) ?_)
   all_goals exact X0 (λz=>[B z]) ((decide_eq_decide.2 (by simp[lim,IntKind.bits])))
 have c:slots k=0:=by grind [slots]
 rw[c];refine fO 14 [] Tryz.func375 rfl ?_
 repeat'(first|refine gE ?_|(conv=>whnf);first|with_reducible refine Bf.D (λa=>?_) (λa=>?_)|refine C7 (aF _ 1 16) ?_)
 exact X0 (λz=>[B z]) ((by symm;exact U0 ω))
def ic(s:ay):zzA 352 false [.val (some 3) (ay.enc .U s)] .one [B (bg s)]:=by
 refine fO 14 [(1,12,[3,4,5,6,7,8,9,10,11,12,13,2])] Tryz.func352 rfl ?_
 repeat'(first|refine gP ?_|(conv=>whnf);first|with_reducible refine Bf.D (λa=>?_) (λa=>?_)|refine C7 (bj _ 0 31) ?_|refine C7 (Bz _) ?_|refine C7 (yv _ _) ?_)
 all_goals exact X0 (λz=>[B z]) ((by unfold bg;first|(symm;exact U0 ω)|exact decide_eq_decide.2 ω))
def gc(s:ay):zzA 225 false [.val (some 3) (ay.enc .U s)] .one [B (bg s)]:=by
 refine fO 19 [(1,17,[3,4,5,6,7,8,9,10,11,12,13,14,15,16,17,18,2])] Tryz.func225 rfl ?_
 repeat'(first|refine gP ?_|(conv=>whnf);first|with_reducible refine Bf.D (λa=>?_) (λa=>?_)|refine C7 (aF _ 0 31) ?_|refine C7 (eM _) ?_|refine C7 (f7 _) ?_|refine C7 (pT _ _) ?_)
 all_goals exact X0 (λz=>[B z]) ((by unfold bg;first|(symm;exact U0 ω)|exact decide_eq_decide.2 ω))
section
variable{α:Type}{xs:List α}{p:α->Bool}{i:Nat}{y:α}
theorem HR(h:xs[i]? = some y)(a:p y=true):xs.any p=true:=Y3.2 ψ
theorem E7(h:xs[i]? = some y)(a:(xs.take i).any p=false)(b:p y=false):(xs.take (i+1)).any p=false:=by grind [t5]
theorem gV[Inhabited α](a:0<i)(b:i<xs.length):xs[((i:Int) - 1).toNat]? = some (nth xs (i - 1)):=by
 rw[show((i:Int) - 1).toNat=i - 1 by omega];grind [au]
end
theorem wO{pages:Int}{xs:List aC}(a:dv n (fR pages xs)=true)(b:i<n):1<=(nth xs i).a4/\(nth xs i).a4<=pages/\0<=(nth xs i).At/\(nth xs i).At<=pages - (nth xs i).a4:=by grind [f8,fR,rangeIn]
theorem yV(pages:Int)(xs:List aC)(d:0<=pages/\pages<=1048576)(k:ge xs):zzA 209 false [.val none [I pages],.val none (bE .U xs)] .one [B (bC pages xs)]:=by
 have n:=k.1;refine fO 46 [(4,32,[12,13,14,15,16,17,18,19,20,21,22,23,24,25,26,27,28,29,30,31,32,33,34,35,36,37,38,39,40,41,42,43])] Tryz.func209 rfl ?_
 repeat'(first|refine gP ?_|fail)
 (conv=>whnf)
 refine CD (ι:=Nat) (λi=>[(0,.G .one [I (pages)]),(1,.G .one (bE .U xs)),(5,.G .one [I ((i:Nat):Int)])]) (λi=>i<=xs.length/\dv i (fR pages xs)=true) (λi=>xs.length - i) 0 ?_ ⟨W0 _,rfl⟩ λi e=>?_
 ·exact wB
 obtain⟨e,g⟩:=e;by_cases c:i<xs.length
 ·have j:=au c
  have o:0<i->1<=(nth xs (i - 1)).a4/\(nth xs (i - 1)).a4<=pages/\0<=(nth xs (i - 1)).At/\(nth xs (i - 1)).At<=pages - (nth xs (i - 1)).a4:=λh=>wO g ω
  cases b:rangeIn pages (nth xs i) with
  | false=>
   have a:=xh pages (nth xs i) d;rw[b]at a
   repeat'(first|refine gE ?_|(conv=>whnf);first|with_reducible refine CB (aa j) ?_|refine C7 a ?_)
   exact X0 (λz=>[B z]) ((by grind [dm,bC,fR]))
  | true=>
   have a:=xh pages (nth xs i) d;rw[b]at a
   repeat'(first|refine gE ?_|(conv=>whnf);first|with_reducible (first|refine CB (aa j) ?_|refine Bf.D (λl=>?_) (λl=>?_))|refine C7 a ?_|refine CL ω (aa (gV ω c)) ?_)
   all_goals first
    | exact X0 (λz=>[B z]) ((by symm;unfold bC;rw[dm c (by unfold fR;rw[b,U0 ω];rfl)];rfl))
    | ((conv=>whnf);refine CC (i+1) ⟨ω,cK g (by unfold fR;rw[b,O0 ω];rfl)⟩ ω ?_;(exact wB))
 repeat'(first|refine gE ?_|(conv=>whnf);first|refine C7 (bj pages 1 32) ?_)
 grind [bC]
theorem lX(pages:Int)(xs:List aC)(j:0<=pages/\pages<=1048576)(k:ge xs):zzA 75 false [.val none [I pages],.val none (bE .U xs)] .one [B (bC pages xs)]:=by
 have n:=k.1;refine fO 43 [(4,26,[14,15,16,17,18,19,20,21,22,23,24,25,26,27,28,29,30,31,32,33,34,35,36,37,38,39])] Tryz.func75 rfl ?_
 repeat'(first|refine gP ?_|fail)
 (conv=>whnf)
 refine CD (ι:=Nat) (λi=>[(0,.G .one [I (pages)]),(1,.G .one (bE .U xs)),(7,.G .one (bE .U xs)),(8,.G .one [I (xs.length)]),(9,.G .one [I ((i:Nat):Int)])]) (λi=>i<=xs.length/\dv i (fR pages xs)=true) (λi=>xs.length - i) 0 ?_ ⟨W0 _,rfl⟩ λi d=>?_
 ·exact wB
 obtain⟨d,e⟩:=d;by_cases c:i<xs.length
 ·have g:=au c
  have o:0<i->1<=(nth xs (i - 1)).a4/\(nth xs (i - 1)).a4<=pages/\0<=(nth xs (i - 1)).At/\(nth xs (i - 1)).At<=pages - (nth xs (i - 1)).a4:=λh=>wO e ω
  have a:=xJ pages (nth xs i) j;cases b:rangeIn pages (nth xs i) with
  | false=>
   rw[b]at a
   repeat'(first|refine gE ?_|(conv=>whnf);first|with_reducible refine CB (aa g) ?_|refine C7 a ?_)
   exact X0 (λz=>[B z]) ((by grind [dm,bC,fR]))
  | true=>
   rw[b]at a
   repeat'(first|refine gE ?_|(conv=>whnf);first|with_reducible (first|refine CB (aa g) ?_|refine Bf.D (λl=>?_) (λl=>?_))|refine C7 a ?_|refine CL ω (aa (gV ω c)) ?_)
   all_goals first
    | exact X0 (λz=>[B z]) ((by symm;unfold bC;rw[dm c (by unfold fR;rw[b,U0 ω];rfl)];rfl))
    | ((conv=>whnf);refine CC (i+1) ⟨ω,cK e (by unfold fR;rw[b,O0 ω];rfl)⟩ ω ?_;(exact wB))
 repeat'(first|refine gE ?_|(conv=>whnf);first|refine C7 (aF pages 1 32) ?_)
 grind [bC]
def tdiv16(h:0<=z):z.tdiv 16=z / 16:=Int.tdiv_eq_ediv_of_nonneg h
theorem yr(z:Int):zzA 370 false [.val none [I z]] .one [I (eQ z)]:=by
 refine fO 10 [] Tryz.func370 rfl ?_;by_cases b:9<=z/\z<=1000
 ·repeat'(first|refine gE ?_|(conv=>whnf);first|with_reducible refine Bf.D (λa=>?_) (λa=>?_)|refine C7 (bj z 9 1000) ?_|refine CM (by decide) ?_|refine CH ((X0 _ (tdiv16 ω)).trans (fF ω ω)) ?_)
  grind [eQ]
 repeat'(first|refine gE ?_|(conv=>whnf);first|with_reducible refine Bf.D (λa=>?_) (λa=>?_)|refine C7 (bj z 9 1000) ?_)
 all_goals exact X0 (λz=>[I z]) (by unfold eQ;rw[C8 b])
theorem mb(z:Int):zzA 191 false [.val none [I z]] .one [I (eQ z)]:=by
 refine fO 10 [] Tryz.func191 rfl ?_;by_cases b:9<=z/\z<=1000
 ·repeat'(first|refine gE ?_|(conv=>whnf);first|with_reducible refine Bf.D (λa=>?_) (λa=>?_)|refine C7 (aF z 9 1000) ?_|refine CM (by decide) ?_|refine CH ((X0 _ (tdiv16 ω)).trans (fF ω ω)) ?_)
  grind [eQ]
 repeat'(first|refine gE ?_|(conv=>whnf);first|with_reducible refine Bf.D (λa=>?_) (λa=>?_)|refine C7 (aF z 9 1000) ?_)
 all_goals exact X0 (λz=>[I z]) (by unfold eQ;rw[C8 b])
def rj(l:aA):zzA 354 false [.val (some 3) (aA.enc .U l)] .one [B (co l)]:=by
 have b:=yr l.a2;by_cases c:9<=l.a2/\l.a2<=1000
 ·rw[show eQ l.a2=(l.a2+15) / 16 from CA c]at b
  refine fO 22 [] Tryz.func354 rfl ?_
  repeat'(first|refine gP ?_|(conv=>whnf);first|with_reducible (first|refine Bf.D (λa=>?_) (λa=>?_)|refine Bf.E (λa=>?_) (λa=>?_))|refine C7 b ?_|refine C7 (bj _ 0 _) ?_)
  all_goals exact X0 (λz=>[B z]) ((by unfold co;first|(symm;exact U0 ω)|exact decide_eq_decide.2 ω))
 rw[show eQ l.a2=0 from C8 c]at b;refine fO 22 [] Tryz.func354 rfl ?_
 repeat'(first|refine gE ?_|(conv=>whnf);first|with_reducible refine Bf.D (λa=>?_) (λa=>?_)|refine C7 b ?_)
 all_goals exact X0 (λz=>[B z]) ((by unfold co;symm;exact U0 ω))
def mP(l:aA):zzA 226 false [.val (some 3) (aA.enc .U l)] .one [B (co l)]:=by
 have b:=mb l.a2;by_cases c:9<=l.a2/\l.a2<=1000
 ·rw[show eQ l.a2=(l.a2+15) / 16 from CA c]at b
  refine fO 22 [(1,20,[3,4,5,6,7,8,9,10,11,12,13,14,15,16,17,18,19,20,21,2])] Tryz.func226 rfl ?_
  repeat'(first|refine gE ?_|(conv=>whnf);first|with_reducible (first|refine Bf.D (λa=>?_) (λa=>?_)|refine Bf.E (λa=>?_) (λa=>?_))|refine C7 b ?_|refine C7 (aF _ 9 1000) ?_|refine C7 (aF _ 0 _) ?_)
  all_goals exact X0 (λz=>[B z]) ((by unfold co;first|(symm;exact U0 ω)|exact decide_eq_decide.2 ω))
 refine fO 22 [(1,20,[3,4,5,6,7,8,9,10,11,12,13,14,15,16,17,18,19,20,21,2])] Tryz.func226 rfl ?_
 repeat'(first|refine gE ?_|(conv=>whnf);first|with_reducible refine Bf.D (λa=>?_) (λa=>?_)|refine C7 (aF _ 9 1000) ?_)
 all_goals exact X0 (λz=>[B z]) ((by unfold co;symm;exact U0 ω))
theorem pc(h:0<=z/\z<=9223372036854775807):(BitVec.ofInt IntKind.i64.bits z).toNat=z.toNat:=by
 show(BitVec.ofInt 64 z).toNat=z.toNat
 grind
theorem and64(h1:0<=z1/\z1<=9223372036854775807)(a:0<=z2/\z2<=9223372036854775807):IntKind.i64.wrap ((BitVec.ofInt IntKind.i64.bits z1 &&& BitVec.ofInt IntKind.i64.bits z2).toNat:Nat)=((z1.toNat &&& z2.toNat:Nat):Int):=by grind [pc,Nat.and_le_left,fF]
theorem G1(k:Int):lim k<=65535:=by grind [lim]
variable{s:ay}
def eG(h:bg s=true):0<=s.a7/\s.a7<=9223372036854775807:=by
 unfold bg at h;simp only[C0]at h;have:=G1 s.Z;omega
def zg(b c:ay):zzA 357 false [.val (some 3) (ay.enc .U b),.val (some 3) (ay.enc .U c)] .one [B (meshable b c)]:=by
 have g:=ic b;have h:=ic c;cases d:bg b<;>rw[d]at g<;>cases e:bg c<;>rw[e]at h
 all_goals
  refine fO 33 [] Tryz.func357 rfl ?_
  repeat'(first|refine gP ?_|(conv=>whnf);first|with_reducible (first|refine Bf.D (λa=>?_) (λa=>?_)|refine Bf.N (λa=>?_) (λa=>?_)|refine Bf.E (λa=>?_) (λa=>?_))|refine C7 g ?_|refine C7 h ?_|refine CH (and64 (eG d) (eG e)) ?_)
  all_goals exact X0 (λz=>[B z]) ((by unfold meshable;rw[d,e];first|rfl|(symm;exact U0 ω)|(rw[T4];simp;omega)))
def lK(b c:ay):zzA 229 false [.val (some 3) (ay.enc .U b),.val (some 3) (ay.enc .U c)] .one [B (meshable b c)]:=by
 have g:=gc b;have h:=gc c;cases d:bg b<;>rw[d]at g<;>cases e:bg c<;>rw[e]at h
 all_goals
  refine fO 33 [] Tryz.func229 rfl ?_
  repeat'(first|refine gP ?_|(conv=>whnf);first|with_reducible (first|refine Bf.D (λa=>?_) (λa=>?_)|refine Bf.N (λa=>?_) (λa=>?_)|refine Bf.E (λa=>?_) (λa=>?_))|refine C7 g ?_|refine C7 h ?_|refine CH (and64 (eG d) (eG e)) ?_)
  all_goals exact X0 (λz=>[B z]) ((by unfold meshable;rw[d,e];first|rfl|(symm;exact U0 ω)|(rw[T4];simp;omega)))
def zJ(k:Int):zzA 384 false [.val none [I k]] .one [B (decide (0<=k/\k<=15))]:=by
 refine fO 5 [] Tryz.func384 rfl ?_
 repeat'(first|refine gP ?_|(conv=>whnf);first|refine C7 (aF k 0 15) ?_)
 rfl
def EA(p:cB)(e:cB.sml p):zzA 365 false [.val (some 3) (cB.enc .U p)] .one [B (fo p)]:=by
 have h:p.W.length<=1048576:=e;refine fO 51 [(4,25,[11,12,13,14,15,16,17,18,19,20,21,22,23,24,25,26,27,28,29,30,31,32,33,34,35])] Tryz.func365 rfl ?_
 repeat'(first|refine gP ?_|fail)
 (conv=>whnf)
 refine CD (ι:=Nat) (λi=>[(1,.G .box (cB.enc .U p)),(3,.G .one [I ((i:Nat):Int)])]) (λi=>i<=p.W.length/\dv i (nr p.W)=true) (λi=>p.W.length - i) 0 ?_ ⟨W0 _,rfl⟩ λi c=>?_
 ·exact wB
 obtain⟨c,d⟩:=c;by_cases b:i<p.W.length
 ·have g:=au b
  repeat'(first|refine gE ?_|(conv=>whnf);first|with_reducible (first|refine CB (aa g) ?_|refine Bf.D (λa=>?_) (λa=>?_))|refine C7 (bj _ 0 15) ?_|refine CL ω (aa (gV ω b)) ?_)
  all_goals first
   | exact X0 (λz=>[B z]) ((by symm;unfold fo;rw[dm b (U0 ω)];rfl))
   | ((conv=>whnf);refine CC (i+1) ⟨ω,cK d (O0 ω)⟩ ω ?_;(exact wB))
 obtain rfl:i=p.W.length:=ω
 repeat'(first|refine gE ?_|(conv=>whnf);first|with_reducible (first|refine Bf.D (λa=>?_) (λa=>?_)|refine Bf.NB (λa=>?_) (λa=>?_)|refine Bf.N (λa=>?_) (λa=>?_))|refine C7 (bj _ 0 31) ?_)
 all_goals exact X0 (λz=>[B z]) ((by unfold fo;rw[d];simp only[Bool.true_and];first|(symm;exact U0 ω)|exact decide_eq_decide.2 ω|(rw[T4];simp;omega)))
def uN(p:cB)(e:cB.sml p):zzA 239 false [.val (some 3) (cB.enc .U p)] .one [B (fo p)]:=by
 have h:p.W.length<=1048576:=e;refine fO 46 [] Tryz.func239 rfl ?_
 repeat'(first|refine gP ?_|fail)
 (conv=>whnf)
 refine CD (ι:=Nat) (λi=>[(1,.G .box (cB.enc .U p)),(6,.G .one (aK .U p.W)),(7,.G .one [I (p.W.length)]),(8,.G .one [I ((i:Nat):Int)])]) (λi=>i<=p.W.length/\dv i (nr p.W)=true) (λi=>p.W.length - i) 0 ?_ ⟨W0 _,rfl⟩ λi c=>?_
 ·exact wB
 obtain⟨c,d⟩:=c;by_cases b:i<p.W.length
 ·have g:=au b
  repeat'(first|refine gE ?_|(conv=>whnf);first|with_reducible (first|refine CB (aa g) ?_|refine Bf.D (λa=>?_) (λa=>?_))|refine C7 (zJ _) ?_|refine CL ω (aa (gV ω b)) ?_)
  all_goals first
   | exact X0 (λz=>[B z]) ((by symm;unfold fo;rw[dm b (U0 ω)];rfl))
   | ((conv=>whnf);refine CC (i+1) ⟨ω,cK d (O0 ω)⟩ ω ?_;(exact wB))
 obtain rfl:i=p.W.length:=ω
 repeat'(first|refine gE ?_|(conv=>whnf);first|with_reducible (first|refine Bf.D (λa=>?_) (λa=>?_)|refine Bf.NB (λa=>?_) (λa=>?_)|refine Bf.N (λa=>?_) (λa=>?_))|refine C7 (aF _ 0 31) ?_)
 all_goals exact X0 (λz=>[B z]) ((by unfold fo;rw[d];simp only[Bool.true_and];first|(symm;exact U0 ω)|exact decide_eq_decide.2 ω|(rw[T4];simp;omega)))
def Q6(j:dy)(a:dy.sml j):zzA 218 false [.val (some 5) (dy.enc .U j)] .one [B (kq j)]:=by
 have e:j.Y.W.length<=1048576:=a;have b:=EA j.Y a;cases c:fo j.Y<;>rw[c]at b
 all_goals
  refine fO 20 [] Tryz.func218 rfl ?_
  repeat'(first|refine gP ?_|(conv=>whnf);first|with_reducible refine Bf.D (λd=>?_) (λd=>?_)|refine C7 b ?_|refine C7 (bj _ 0 5) ?_|refine C7 (bj _ 0 _) ?_)
  all_goals exact X0 (λz=>[B z]) ((by unfold kq;rw[c];first|rfl|(symm;exact U0 ω)|(rw[T4];simp;omega)))
def xW(j:dy)(a:dy.sml j):zzA 84 false [.val (some 5) (dy.enc .U j)] .one [B (kq j)]:=by
 have e:j.Y.W.length<=1048576:=a;have b:=uN j.Y a;cases c:fo j.Y<;>rw[c]at b
 all_goals
  refine fO 20 [] Tryz.func84 rfl ?_
  repeat'(first|refine gP ?_|(conv=>whnf);first|with_reducible refine Bf.D (λd=>?_) (λd=>?_)|refine C7 b ?_|refine C7 (aF _ 0 5) ?_|refine C7 (aF _ 0 _) ?_)
  all_goals exact X0 (λz=>[B z]) ((by unfold kq;rw[c];first|rfl|(symm;exact U0 ω)|(rw[T4];simp;omega)))
theorem mD(l:aA)(k:Nat):lpgs l (k+1)=lpgs l k++[l.Q+(k:Nat)]:=by grind [List.range_succ,lpgs]
theorem Np(l:aA)(k:Nat):(lpgs l k).length=k:=by unfold lpgs;simp
theorem Mi(l:aA)(h:k<=n):lpgs l k <+: lpgs l n:=by
 induction n with
 | zero=>
  grind
 | succ n a=>
  grind [mD]
variable{la:List aA}
theorem r8(sp:List ay){l:aA}(h:la[i]? = some l):pgs sp (la.take (i+1))=pgs sp (la.take i)++lpgs l l.a3.toNat:=by grind [t5,pgs]
theorem NY(sp:List ay)(la:List aA)(i:Nat):pgs sp (la.take i) <+: pgs sp la:=by grind [List.take_append_drop,pgs]
variable{p:Int}{S:List Int}
theorem QY{all:List Int}(h:(S++[p]) <+: all)(a:p∈S):decide all.Nodup=false:=by grind [List.nodup_append]
theorem mL(h:S.Nodup)(a:p∉S):(S++[p]).Nodup:=ψ
variable{sp:List ay}
theorem Eg(h:sp[i]? = some s):((sp.take i).map (·.Q)++[s.Q]) <+: pgs sp la:=by
 have a:(sp.take i).map (·.Q)++[s.Q]=(sp.take (i+1)).map (·.Q):=by grind [t5]
 rw[a];refine List.IsPrefix.trans ?_ (List.prefix_append ..)
 grind
theorem zS{l:aA}(h:la[i]? = some l)(a:k<l.a3.toNat):(pgs sp (la.take i)++lpgs l k++[l.Q+(k:Nat)]) <+: pgs sp la:=by
 refine List.IsPrefix.trans ?_ (NY sp la (i+1));rw[r8 sp h,v5,<-mD]
 grind [List.prefix_append_right_inj,Mi]
theorem qd(h:sp[i]? = some s)(a:bg s=false):bA sp la=false:=by grind [bA]
theorem o7{l:aA}(h:la[i]? = some l)(a:co l=false):bA sp la=false:=by grind [bA]
theorem ku(h:(S++[p]) <+: pgs sp la)(a:p∈S):bA sp la=false:=by grind [QY,bA]
theorem si(h1:sp.all bg=true)(a:la.all co=true)(b:(pgs sp la).Nodup):bA sp la=true:=by grind [bA]
theorem aY{l:aA}(h:co l=true):1<=l.a3/\l.a3<=63/\0<=l.Q/\l.Q<=31:=by grind [co]
theorem y1(sp:List ay)(la:List aA)(t:eY sp)(u:eI la):zzA 210 false [.val none (cj .U sp),.val none (cv .U la)] .one [B (bA sp la)]:=by
 have J:=t.1;have K:=u.1;refine fO 79 [] Tryz.func210 rfl ?_
 repeat'(first|refine gP ?_|fail)
 (conv=>whnf)
 refine CD (ι:=Nat × List Int) (λi=>[(0,.G .one (cj .U sp)),(1,.G .one (cv .U la)),(5,.G .one (aK .own i.2)),(6,.G .one [I ((i.1:Nat):Int)])]) (λi=>i.1<=sp.length/\i.2=(sp.take i.1).map (·.Q)/\(sp.take i.1).all bg=true/\i.2.Nodup) (λi=>sp.length - i.1) ((0,[])) ?_ ψ λi o=>?_
 ·exact wB
 obtain⟨i,S⟩:=i;obtain⟨o,q,d,h⟩:=o;simp only at o q d h |-;have L:S.length=i:=ψ
 by_cases w:i<sp.length
 ·have a:=au w
  have j:=ic (nth sp i);cases e:bg (nth sp i)<;>rw[e]at j
  ·repeat'(first|refine gE ?_|(conv=>whnf);first|with_reducible refine CB (aa a) ?_|refine C7 j ?_)
   exact X0 (λz=>[B z]) ((qd a e).symm)
  repeat'(first|refine gE ?_|(conv=>whnf);first|with_reducible (first|refine CB (aa a) ?_|refine Bf.D (λy=>?_) (λy=>?_))|refine C7 j ?_|refine CJ (tl S _ ω) ⟨⟨rfl,eg _⟩,⟨rfl,rfl⟩,trivial⟩ ?_|refine CQ dL (λr E=>by rw[O1.1 E];rfl) (by simp[bn,eP]) (by simp;omega) (by simp only[C1];exact D8 (by simp;omega) (by decide)) rfl ?_)
  all_goals first
   | exact X0 (λz=>[B z]) ((ku (S:=S) (by rw[q];exact Eg a) (by assumption)).symm)
   | ((conv=>whnf)
      refine CC (i+1,S++[(nth sp i).Q]) ⟨(by simp only;omega),(by simp only;rw[q,t5,a];simp),(dO a d e),mL h (by assumption)⟩ (by simp only;omega) ?_
      (repeat'(first|exact trivial|rfl|exact CG rfl (CG (X0 (C.s dH.own) (by simp[rI])) trivial)|refine CG ?_ ?_)))
 obtain rfl:i=sp.length:=ω
 rw[W4]at d q
 repeat'(first|refine gE ?_|fail)
 (conv=>whnf)
 refine CD (ι:=Nat × List Int) (λi=>[(1,.G .one (cv .U la)),(5,.G .one (aK .own i.2)),(7,.G .one [I ((i.1:Nat):Int)])]) (λi=>i.1<=la.length/\i.2=pgs sp (la.take i.1)/\(la.take i.1).all co=true/\i.2.Nodup/\i.2.length<=1048576+64*i.1) (λi=>la.length - i.1) ((0,S)) ?_ (⟨W0 _,by grind [pgs],rfl,h,by simp only;omega⟩) λi o=>?_
 ·exact wB
 obtain⟨i,S2⟩:=i;obtain⟨F,l,b,g,G⟩:=o;simp only at F l b g G |-;by_cases w:i<la.length
 ·have a:=au w
  have j:=rj (nth la i);cases e:co (nth la i)<;>rw[e]at j
  ·repeat'(first|refine gE ?_|(conv=>whnf);first|with_reducible refine CB (aa a) ?_|refine C7 j ?_)
   exact X0 (λz=>[B z]) ((o7 a e).symm)
  have M:=aY e
  repeat'(first|refine gE ?_|(conv=>whnf);first|with_reducible refine CB (aa a) ?_|refine C7 j ?_)
  (conv=>whnf)
  refine CD (ι:=Nat × List Int) (λk=>[(1,.G .one (cv .U la)),(5,.G .one (aK .own k.2)),(7,.G .one [I ((i:Nat):Int)]),(8,.G .one [I ((k.1:Nat):Int)])]) (λk=>k.1<=(nth la i).a3.toNat/\k.2=S2++lpgs (nth la i) k.1/\k.2.Nodup) (λk=>(nth la i).a3.toNat - k.1) ((0,S2)) ?_ (⟨W0 _,by simp[lpgs],g⟩) λk H=>?_
  ·exact wB
  obtain⟨k,p⟩:=k;obtain⟨H,n,c⟩:=H;simp only at H n c |-;have N:p.length=S2.length+k:=by grind [Np]
  by_cases O:k<(nth la i).a3.toNat
  ·repeat'(first|refine gE ?_|(conv=>whnf);first|with_reducible (first|refine CB (aa a) ?_|refine Bf.D (λy=>?_) (λy=>?_))|refine CJ (tl p _ ω) ⟨⟨rfl,eg _⟩,⟨rfl,rfl⟩,trivial⟩ ?_|refine CQ dL (λr E=>by rw[O1.1 E];rfl) (by simp[bn,eP]) (by simp;omega) (by show _*8<=_;simp;omega) rfl ?_)
   all_goals first
    | exact X0 (λz=>[B z]) ((ku (S:=p) (by rw[n,l];exact zS a O) (by assumption)).symm)
    | ((conv=>whnf)
       refine CC (k+1,p++[(nth la i).Q+(k:Nat)]) ⟨(by simp only;omega),(by simp only;rw[n,mD,v5]),mL c (by assumption)⟩ (by simp only;omega) ?_
       (repeat'(first|exact trivial|rfl|exact CG rfl (CG (X0 (C.s dH.own) (by simp[rI])) trivial)|refine CG ?_ ?_)))
  obtain rfl:k=(nth la i).a3.toNat:=ω
  repeat'(first|refine gE ?_|(conv=>whnf);first|with_reducible refine CB (aa a) ?_)
  ((conv=>whnf);refine CC (i+1,p) ⟨(by simp only;omega),(by grind [r8]),(dO a b e),c,(by simp only;omega)⟩ (by simp only;omega) ?_;(exact wB))
 obtain rfl:i=la.length:=ω
 rw[W4]at b l
 repeat'(first|refine gE ?_|fail)
 exact X0 (λz=>[B z]) ((si d b ψ).symm)
def ins(S:List Int)(p:Int):List Int:=if p∈S then S else S++[p]
theorem Ji{p:Int} : ∀{S:List Int},p∈S->mput (fw S) p (.bool true)=fw S
 | x::S,h=>by
  simp only[fw,I5,mput];by_cases a:x=p
  ·rw[CA a,a]
  rw[C8 a];have:=Ji (S:=S) ((List.mem_cons.1 h).resolve_left λe=>a e.symm)
  grind [fw]
theorem x4(S:List Int)(p:Int):fw (ins S p)=mput (fw S) p (.bool true):=by grind [Ji,td,ins]
theorem Mc(S:List Int)(p:Int):zzB 224 false [.val none [I p],.ptr [.m (fw S)]] [.val none [I p],.ptr [.m (fw (ins S p))]] .one [B (decide (p∉S))]:=by
 refine fM 12 [] [] [(0,0),(0,0)] Tryz.func224 rfl (λu q=>?_)
 repeat'(first|refine gP ?_|(conv=>whnf);first|refine Ml.mk (mV p S) ?_|refine Mu.mk (x4 S p) ?_)
 refine CK rfl ?_ ?_
 ·grind
 exact wB
theorem pS(sp:List ay)(la:List aA)(t:eY sp)(u:eI la):zzA 76 false [.val none (cj .U sp),.val none (cv .U la)] .one [B (bA sp la)]:=by
 have F:=t.1;have G:=u.1;refine fP 54 [(224,[0,2])] [] Tryz.func76 rfl ?_
 repeat'(first|refine gP ?_|fail)
 (conv=>whnf)
 refine CD (ι:=Nat × List Int) (λi=>[(1,.G .one (cv .U la)),(5,.G .box [.m (fw i.2)]),(6,.fn 224 [5]),(14,.G .one (cj .U sp)),(15,.G .one [I (sp.length)]),(16,.G .one [I ((i.1:Nat):Int)])]) (λi=>i.1<=sp.length/\i.2=(sp.take i.1).map (·.Q)/\(sp.take i.1).all bg=true/\i.2.Nodup) (λi=>sp.length - i.1) ((0,[])) ?_ ψ λi p=>?_
 ·exact wB
 obtain⟨i,S⟩:=i;obtain⟨p,r,e,j⟩:=p;simp only at p r e j |-;by_cases w:i<sp.length
 ·have c:=au w
  have l:=gc (nth sp i);cases g:bg (nth sp i)<;>rw[g]at l
  ·repeat'(first|refine gE ?_|(conv=>whnf);first|with_reducible refine CB (aa c) ?_|refine C7 l ?_)
   exact X0 (λz=>[B z]) ((qd c g).symm)
  repeat'(first|refine gE ?_|(conv=>whnf);first|with_reducible (first|refine CB (aa c) ?_|refine Bf.D (λy=>?_) (λy=>?_))|refine C7 l ?_|refine CF (Mc S _) (.inl rfl) ?_)
  all_goals first
   | exact X0 (λz=>[B z]) ((ku (S:=S) (by rw[r];exact Eg c) ψ).symm)
   |(have a:(nth sp i).Q∉S:=by assumption
     (conv=>whnf)
     refine CC (i+1,ins S (nth sp i).Q) ⟨(by simp only;omega),(by simp only;unfold ins;rw[C8 a,r,t5,c];simp),(dO c e g),(by simp only;unfold ins;rw[C8 a];exact mL j a)⟩ (by simp only;omega) ?_
     (exact wA))
 obtain rfl:i=sp.length:=ω
 rw[W4]at e r
 repeat'(first|refine gE ?_|fail)
 (conv=>whnf)
 refine CD (ι:=Nat × List Int) (λi=>[(5,.G .box [.m (fw i.2)]),(6,.fn 224 [5]),(31,.G .one (cv .U la)),(32,.G .one [I (la.length)]),(33,.G .one [I ((i.1:Nat):Int)])]) (λi=>i.1<=la.length/\i.2=pgs sp (la.take i.1)/\(la.take i.1).all co=true/\i.2.Nodup) (λi=>la.length - i.1) ((0,S)) ?_ (⟨W0 _,by grind [pgs],rfl,j⟩) λi p=>?_
 ·exact wB
 obtain⟨i,S2⟩:=i;obtain⟨C,n,b,h⟩:=p;simp only at C n b h |-;by_cases w:i<la.length
 ·have c:=au w
  have l:=mP (nth la i);cases g:co (nth la i)<;>rw[g]at l
  ·repeat'(first|refine gE ?_|(conv=>whnf);first|with_reducible refine CB (aa c) ?_|refine C7 l ?_)
   exact X0 (λz=>[B z]) ((o7 c g).symm)
  have H:=aY g
  repeat'(first|refine gE ?_|(conv=>whnf);first|with_reducible refine CB (aa c) ?_|refine C7 l ?_)
  (conv=>whnf)
  refine CD (ι:=Nat × List Int) (λk=>[(5,.G .box [.m (fw k.2)]),(6,.fn 224 [5]),(10,.G .box (aA.enc .U (nth la i))),(11,.G .one [I ((k.1:Nat):Int)]),(31,.G .one (cv .U la)),(32,.G .one [I (la.length)]),(33,.G .one [I ((i:Nat):Int)])]) (λk=>k.1<=(nth la i).a3.toNat/\k.2=S2++lpgs (nth la i) k.1/\k.2.Nodup) (λk=>(nth la i).a3.toNat - k.1) ((0,S2)) ?_ (⟨W0 _,by simp[lpgs],h⟩) λk E=>?_
  ·exact wB
  obtain⟨k,q⟩:=k;obtain⟨E,o,d⟩:=E;simp only at E o d |-;by_cases J:k<(nth la i).a3.toNat
  ·repeat'(first|refine gE ?_|(conv=>whnf);first|with_reducible refine Bf.D (λy=>?_) (λy=>?_)|refine CF (Mc q _) (.inl rfl) ?_)
   all_goals first
    | exact X0 (λz=>[B z]) ((ku (S:=q) (by rw[o,n];exact zS c J) ψ).symm)
    |(have a:(nth la i).Q+(k:Nat)∉q:=by assumption
      (conv=>whnf)
      refine CC (k+1,ins q ((nth la i).Q+(k:Nat))) ⟨(by simp only;omega),(by simp only;unfold ins;rw[C8 a,o,mD,v5]),(by simp only;unfold ins;rw[C8 a];exact mL d a)⟩ (by simp only;omega) ?_
      (exact wA))
  obtain rfl:k=(nth la i).a3.toNat:=ω
  repeat'(first|refine gE ?_|fail)
  ((conv=>whnf);refine CC (i+1,q) ⟨(by simp only;omega),(by grind [r8]),(dO c b g),d⟩ (by simp only;omega) ?_;(exact wB))
 obtain rfl:i=la.length:=ω
 rw[W4]at b n
 repeat'(first|refine gE ?_|fail)
 exact X0 (λz=>[B z]) ((si e b ψ).symm)
theorem aL(h:bg s=true):0<=s.Q/\s.Q<=31/\0<=s.Z/\s.Z<=3:=by grind [bg]
theorem cT{k:Int}(h:0<=k/\k<=3):csz k=1\/csz k=2\/csz k=4\/csz k=8:=by
 obtain rfl|rfl|rfl|rfl:k=0\/k=1\/k=2\/k=3:=ω
 all_goals decide
def m7{x y:Int}(h:0<=x):x.tdiv y=x / y:=Int.tdiv_eq_ediv_of_nonneg h
def fD{x y:Int}(h:0<=x):x.tmod y=x % y:=Int.tmod_eq_emod_of_nonneg h
def S2(p:Int × Int):List C:=[I p.1,I p.2]
theorem zp{p:Int × Int}(h:(a,b)=p):[I a,I b]=S2 p:=by subst h;rfl
theorem uk(s:ay)(a:Int)(k:nI a):zzA 473 false [.val (some 3) (ay.enc .U s),.val none [I a]] (.tup [none,none]) (S2 (iC s a)):=by
 have c:=ic s;have l:=fU s.Z;obtain⟨n,o⟩:=k;cases d:bg s<;>rw[d]at c
 ·refine fO 33 [(4,12,[23,24,25,26,27,28,29,30,31,32,4,5])] Tryz.func473 rfl ?_ (.inr ⟨trivial,trivial,trivial⟩)
  repeat'(first|refine gP ?_|(conv=>whnf);first|refine C7 c ?_)
  exact zp (by grind [iC,dq])
 have h:=aL d;have i:=cT ⟨h.2.2.1,h.2.2.2⟩;by_cases g:16*s.Q<=a/\a<=16*s.Q+15
 ·have j:0<=a:=ω
  refine fO 33 [(4,12,[23,24,25,26,27,28,29,30,31,32,4,5])] Tryz.func473 rfl ?_ (.inr ⟨trivial,trivial,trivial⟩)
  repeat'(first|refine gE ?_|(conv=>whnf);first|with_reducible refine Bf.N (λb=>?_) (λb=>?_)|refine C7 c ?_|refine C7 l ?_|refine CM (by decide) ?_|refine CM ω ?_|refine CH ((X0 _ (m7 j)).trans (fF ω ω)) ?_|refine CO (fD j) ?_|refine CH ((X0 _ (m7 ω)).trans (fF (by rcases i with e|e|e|e<;>rw[e]<;>omega) (by rcases i with e|e|e|e<;>rw[e]<;>omega))) ?_|refine CO (fD ω) ?_)
  all_goals grind [zp,iC,dq]
 refine fO 33 [(4,12,[23,24,25,26,27,28,29,30,31,32,4,5])] Tryz.func473 rfl ?_ (.inr ⟨trivial,trivial,trivial⟩)
 repeat'(first|refine gP ?_|(conv=>whnf);first|with_reducible (first|refine Bf.D (λb=>?_) (λb=>?_)|refine Bf.N (λb=>?_) (λb=>?_))|refine C7 c ?_|refine CM (by decide) ?_|refine CH ((X0 _ (m7 ω)).trans (fF ω ω)) ?_)
 all_goals first
  |exact zp (by unfold iC dq;rw[d,U0 g];rfl)
  |(exfalso;omega)
theorem EK(s:ay)(a:Int):zzA 379 false [.val (some 3) (ay.enc .U s),.val none [I a]] (.tup [none,none]) (S2 (iC s a)):=by
 have b:=gc s;have j:=cV s.Z;cases c:bg s<;>rw[c]at b
 ·refine fO 38 [(4,12,[28,29,30,31,32,33,34,35,36,37,4,5])] Tryz.func379 rfl ?_ (.inr ⟨trivial,trivial,trivial⟩)
  repeat'(first|refine gP ?_|(conv=>whnf);first|refine C7 b ?_)
  exact zp (by grind [iC,dq])
 have h:=aL c;have i:=cT ⟨h.2.2.1,h.2.2.2⟩;by_cases d:16*s.Q<=a/\a<=16*s.Q+15
 ·refine fO 38 [(4,12,[28,29,30,31,32,33,34,35,36,37,4,5])] Tryz.func379 rfl ?_ (.inr ⟨trivial,trivial,trivial⟩)
  repeat'(first|refine gE ?_|(conv=>whnf);first|with_reducible refine Bf.D (λg=>?_) (λg=>?_)|refine C7 b ?_|refine C7 j ?_|refine C7 (aF _ _ _) ?_|refine CM ω ?_|refine CH ((X0 _ (m7 ω)).trans (fF (by rcases i with e|e|e|e<;>rw[e]<;>omega) (by rcases i with e|e|e|e<;>rw[e]<;>omega))) ?_|refine CO (fD ω) ?_)
  grind [zp,iC,dq]
 refine fO 38 [(4,12,[28,29,30,31,32,33,34,35,36,37,4,5])] Tryz.func379 rfl ?_ (.inr ⟨trivial,trivial,trivial⟩)
 repeat'(first|refine gE ?_|(conv=>whnf);first|with_reducible refine Bf.D (λg=>?_) (λg=>?_)|refine C7 b ?_|refine C7 (aF _ _ _) ?_)
 all_goals exact zp (by unfold iC dq;rw[c,U0 d];rfl)
def tT(b i:Int):zzA 547 false [.val none [I b],.val none [I i]] .one [B (decide (0<=b/\0<=i/\i<=15))]:=by
 refine fO 11 [] Tryz.func547 rfl ?_
 repeat'(first|refine gP ?_|(conv=>whnf);first|with_reducible refine Bf.D (λa=>?_) (λa=>?_)|refine C7 (bj _ 0 15) ?_)
 all_goals exact X0 (λz=>[B z]) ((by first|(symm;exact U0 ω)|exact decide_eq_decide.2 ω))
def pp(b i:Int):zzA 457 false [.val none [I b],.val none [I i]] .one [B (decide (0<=b/\0<=i/\i<=15))]:=by
 refine fO 11 [] Tryz.func457 rfl ?_
 repeat'(first|refine gP ?_|(conv=>whnf);first|with_reducible refine Bf.D (λa=>?_) (λa=>?_)|refine C7 (aF _ 0 15) ?_)
 all_goals exact X0 (λz=>[B z]) ((by first|(symm;exact U0 ω)|exact decide_eq_decide.2 ω))
theorem N6{i:Int}(a:0<=b/\b<=9223372036854775807)(e:0<=i/\i<=15):b.fdiv (2 ^ min i.toNat IntKind.i64.bits)=b / 2 ^ i.toNat/\0<=b / 2 ^ i.toNat/\b / 2 ^ i.toNat<=9223372036854775807:=by
 have d:min i.toNat IntKind.i64.bits=i.toNat:=Nat.min_eq_left (show i.toNat<=64 by omega);rw[d];have c:(0:Int)<=2 ^ i.toNat:=ψ
 refine⟨Int.fdiv_eq_ediv_of_nonneg _ c,Int.ediv_nonneg a.1 c,?_⟩;have:=Int.ediv_le_self (2 ^ i.toNat:Int) a.1;omega
theorem vN{i:Int}(a:0<=b)(c:0<=i/\i<=15):((((b / 2 ^ i.toNat).toNat &&& (1:Int).toNat:Nat):Int) == 1)=aW b i:=by
 have d:(0:Int)<=b / 2 ^ i.toNat:=Int.ediv_nonneg a ψ
 grind [aW]
theorem k6(b i:Int)(c:b<=9223372036854775807):zzA 474 false [.val none [I b],.val none [I i]] .one [B (aW b i)]:=by
 by_cases h:0<=b/\0<=i/\i<=15
 ·obtain⟨d,g⟩:=N6 (b:=b) (i:=i) ⟨h.1,c⟩ h.2
  have j:IntKind.u64.wrap i=i:=by grind [Go.IntKind.wrap,Go.IntKind.bits]
  refine fO 16 [] Tryz.func474 rfl ?_
  repeat'(first|refine gE ?_|(conv=>whnf);first|with_reducible refine Bf.D (λa=>?_) (λa=>?_)|refine C7 (tT _ _) ?_|refine CM ω ?_|refine CH j ?_|refine CO d ?_|refine CH (and64 g ⟨by decide,by decide⟩) ?_)
  grind [vN]
 refine fO 16 [] Tryz.func474 rfl ?_
 repeat'(first|refine gE ?_|(conv=>whnf);first|with_reducible refine Bf.D (λa=>?_) (λa=>?_)|refine C7 (tT _ _) ?_)
 all_goals exact X0 (λz=>[B z]) ((by unfold aW;symm;exact U0 λe=>h ⟨e.1,e.2.1,e.2.2.1⟩))
theorem gv(b i:Int)(c:b<=9223372036854775807):zzA 380 false [.val none [I b],.val none [I i]] .one [B (aW b i)]:=by
 by_cases h:0<=b/\0<=i/\i<=15
 ·obtain⟨d,g⟩:=N6 (b:=b) (i:=i) ⟨h.1,c⟩ h.2
  refine fO 15 [] Tryz.func380 rfl ?_
  repeat'(first|refine gE ?_|(conv=>whnf);first|with_reducible refine Bf.D (λa=>?_) (λa=>?_)|refine C7 (pp _ _) ?_|refine CM ω ?_|refine CO d ?_|refine CH (and64 g ⟨by decide,by decide⟩) ?_)
  grind [vN]
 refine fO 15 [] Tryz.func380 rfl ?_
 repeat'(first|refine gE ?_|(conv=>whnf);first|with_reducible refine Bf.D (λa=>?_) (λa=>?_)|refine C7 (pp _ _) ?_)
 all_goals exact X0 (λz=>[B z]) ((by unfold aW;symm;exact U0 λe=>h ⟨e.1,e.2.1,e.2.2.1⟩))
theorem cW{l:aA}(h:co l=true):9<=l.a2/\l.a2<=1000/\0<=l.Q/\l.Q<=31:=by grind [co]
theorem qf(l:aA)(a:Int):zzA 475 false [.val (some 3) (aA.enc .U l),.val none [I a]] .one [B (bI l a)]:=by
 have b:=rj l;cases c:co l<;>rw[c]at b
 ·refine fO 24 [] Tryz.func475 rfl ?_
  repeat'(first|refine gP ?_|(conv=>whnf);first|refine C7 b ?_)
  exact X0 (λz=>[B z]) ((by grind [bI]))
 have e:=cW c;refine fO 24 [] Tryz.func475 rfl ?_
 repeat'(first|refine gP ?_|(conv=>whnf);first|with_reducible refine Bf.D (λd=>?_) (λd=>?_)|refine C7 b ?_)
 all_goals exact X0 (λz=>[B z]) ((by unfold bI;rw[c,Bool.true_and];first|(symm;exact U0 ω)|exact decide_eq_decide.2 ω))
theorem ql(l:aA)(a:Int):zzA 381 false [.val (some 3) (aA.enc .U l),.val none [I a]] .one [B (bI l a)]:=by
 have b:=mP l;cases c:co l<;>rw[c]at b
 ·refine fO 21 [] Tryz.func381 rfl ?_
  repeat'(first|refine gP ?_|(conv=>whnf);first|refine C7 b ?_)
  exact X0 (λz=>[B z]) ((by grind [bI]))
 have e:=cW c;refine fO 21 [] Tryz.func381 rfl ?_
 repeat'(first|refine gP ?_|(conv=>whnf);first|with_reducible refine Bf.D (λd=>?_) (λd=>?_)|refine C7 b ?_|refine C7 (aF _ _ _) ?_)
 grind [bI]
theorem tf(l:aA)(a:Int)(h:bI l a=true):zzA 476 false [.val (some 3) (aA.enc .U l),.val none [I a]] .one [I (a - 16*l.Q)]:=by
 have b:=qf l a;rw[h]at b;unfold bI at h;simp only[I0,C0]at h;have c:=cW h.1;refine fO 14 [] Tryz.func476 rfl ?_
 repeat'(first|refine gP ?_|(conv=>whnf);first|refine C7 b ?_)
 grind
theorem ua(l:aA)(a:Int)(h:bI l a=true):zzA 382 false [.val (some 3) (aA.enc .U l),.val none [I a]] .one [I (a - 16*l.Q)]:=by
 have b:=ql l a;rw[h]at b;unfold bI at h;simp only[I0,C0]at h;have c:=cW h.1;refine fO 14 [] Tryz.func382 rfl ?_
 repeat'(first|refine gP ?_|(conv=>whnf);first|refine C7 b ?_)
 grind
variable{m:aM}
theorem pA(a:i<m.S.length)(h:gu m i=false):bT m=false:=by grind [dm,bT]
theorem x9(h:¬(1<=m.S.length/\m.S.length<=4/\m.d.length=m.S.length)):bT m=false:=by grind [bT]
theorem xy(h1:1<=m.S.length/\m.S.length<=4/\m.d.length=m.S.length)(a:dv m.S.length (gu m)=true):bT m=decide (bz m m.S.length<=30):=by grind [bT]
theorem FR(m:aM)(h:aM.sml m):zzA 111 false [.val (some 2) (aM.enc .U m)] .one [B (bT m)]:=by
 have r:m.S.length<=1048576:=h.1.1;have t:m.d.length<=1048576:=h.2.1;by_cases u:1<=m.S.length/\m.S.length<=4/\m.d.length=m.S.length
 ·refine fO 92 [(19,15,[75,76,77,78,79,80,81,82,83,84,85,86,87,88,89])] Tryz.func111 rfl ?_
  repeat'(first|refine gB ?_|(conv=>whnf);first|with_reducible (first|refine Bf.D (λa=>?_) (λa=>?_)|refine Bf.N (λa=>?_) (λa=>?_))|refine C7 (bj _ 1 4) ?_)
  (conv=>whnf)
  refine CD (ι:=Nat) (λi=>[(1,.G .box (aM.enc .U m)),(3,.G .one [I (m.S.length)]),(4,.G .one [I (bz m i)]),(5,.G .one [I ((i:Nat):Int)])]) (λi=>i<=m.S.length/\dv i (gu m)=true/\0<=bz m i/\bz m i<=2097152*i) (λi=>m.S.length - i) (0) ?_ (⟨W0 _,rfl,by simp[bz],by simp[bz]⟩) λi n=>?_
  ·exact wB
  obtain⟨n,w,F,G⟩:=n;by_cases j:i<m.S.length
  ·have l:=au j
   have o:=au (xs:=m.d) (i:=i) ω;have y:(nth m.S i).length<=1048576:=(h.1.2 _ (ax j)).1;have C:(nth m.d i).length<=1048576:=h.2.2 _ ψ
   repeat'(first|refine gE ?_|fail)
   (conv=>whnf)
   refine CD (ι:=Nat) (λk=>[(1,.G .box (aM.enc .U m)),(3,.G .one [I (m.S.length)]),(4,.G .one [I (bz m i)]),(5,.G .one [I ((i:Nat):Int)]),(6,.G .one [I ((k:Nat):Int)])]) (λk=>k<=(nth m.S i).length/\((nth m.S i).take k).all (nq m.S.length)=true) (λk=>(nth m.S i).length - k) (0) ?_ ψ λk p=>?_
   ·exact wB
   obtain⟨p,q⟩:=p;by_cases E:k<(nth m.S i).length
   ·have c:=au E
    repeat'(first|refine gE ?_|(conv=>whnf);first|with_reducible (first|refine CB (aa l) ?_|refine CB (aa c) ?_|refine Bf.D (λa=>?_) (λa=>?_))|refine C7 (bj _ 0 _) ?_)
    all_goals first
     | exact X0 (λz=>[B z]) ((pA j (by unfold gu;rw[kR c (by unfold nq;exact U0 ω)];rfl)).symm)
     | ((conv=>whnf);refine CC (k+1) ⟨ω,dO c q (by unfold nq;exact O0 ω)⟩ ω ?_;(exact wB))
   have H:=rn ω q
   repeat'(first|refine gE ?_|(conv=>whnf);first|with_reducible refine CB (aa l) ?_)
   (conv=>whnf)
   refine CD (ι:=Nat) (λb=>[(1,.G .box (aM.enc .U m)),(3,.G .one [I (m.S.length)]),(4,.G .one [I (bz m i)]),(5,.G .one [I ((i:Nat):Int)]),(8,.G .one [I ((b:Nat):Int)])]) (λb=>b<=(nth m.d i).length/\((nth m.d i).take b).all Pd=true) (λb=>(nth m.d i).length - b) (0) ?_ ψ λb e=>?_
   ·exact wB
   obtain⟨e,ak2⟩:=e;by_cases lk2:b<(nth m.d i).length
   ·have c:=au lk2
    repeat'(first|refine gE ?_|(conv=>whnf);first|with_reducible (first|refine CB (aa o) ?_|refine CB (aa c) ?_|refine Bf.D (λa=>?_) (λa=>?_)))
    all_goals first
     | exact X0 (λz=>[B z]) ((pA j (by unfold gu;rw[kR c (by unfold Pd;exact U0 ω)];simp)).symm)
     | ((conv=>whnf);refine CC (b+1) ⟨ω,dO c ak2 (by unfold Pd;exact O0 ω)⟩ ω ?_;(exact wB))
   have ae2:=rn ω ak2;have g:bz m (i+1)=bz m i+((nth m.S i).length+(nth m.d i).length):=rfl;have d:bz m (i+1)=bz m i+(nth m.S i).length+(nth m.d i).length:=by rw[g];omega
   repeat'(first|refine gE ?_|(conv=>whnf);first|with_reducible (first|refine CB (aa l) ?_|refine CB (aa o) ?_))
   ((conv=>whnf);refine CC (i+1) ⟨ω,cK w (by grind [gu]),ω,ω⟩ ω ?_)
   rw[d];exact wB
  obtain rfl:i=m.S.length:=ω
  repeat'(first|refine gE ?_|fail)
  grind [xy]
 refine fO 92 [(19,15,[75,76,77,78,79,80,81,82,83,84,85,86,87,88,89])] Tryz.func111 rfl ?_
 repeat'(first|refine gP ?_|(conv=>whnf);first|with_reducible (first|refine Bf.D (λa=>?_) (λa=>?_)|refine Bf.N (λa=>?_) (λa=>?_))|refine C7 (bj _ 1 4) ?_)
 all_goals first
  | exact X0 (λz=>[B z]) ((x9 u).symm)
  |(exfalso;omega)
theorem lH(m:aM)(g:aM.sml m):zzA 78 false [.val (some 2) (aM.enc .U m)] .one [B (bT m)]:=by
 have q:m.S.length<=1048576:=g.1.1;have r:m.d.length<=1048576:=g.2.1;by_cases t:1<=m.S.length/\m.S.length<=4/\m.d.length=m.S.length
 ·refine fO 82 [(20,15,[64,65,66,67,68,69,70,71,72,73,74,75,76,77,78])] Tryz.func78 rfl ?_
  repeat'(first|refine gB ?_|(conv=>whnf);first|with_reducible (first|refine Bf.D (λa=>?_) (λa=>?_)|refine Bf.N (λa=>?_) (λa=>?_))|refine C7 (aF _ 1 4) ?_)
  (conv=>whnf)
  refine CD (ι:=Nat) (λi=>[(1,.G .box (aM.enc .U m)),(3,.G .one [I (m.S.length)]),(4,.G .one [I (bz m i)]),(25,.G .one [I (m.S.length)]),(26,.G .one [I ((i:Nat):Int)])]) (λi=>i<=m.S.length/\dv i (gu m)=true/\0<=bz m i/\bz m i<=2097152*i) (λi=>m.S.length - i) (0) ?_ (⟨W0 _,rfl,by simp[bz],by simp[bz]⟩) λi n=>?_
  ·exact wB
  obtain⟨n,u,E,F⟩:=n;by_cases h:i<m.S.length
  ·have j:=au h
   have l:=au (xs:=m.d) (i:=i) ω;have w:(nth m.S i).length<=1048576:=(g.1.2 _ (ax h)).1;have y:(nth m.d i).length<=1048576:=g.2.2 _ ψ
   repeat'(first|refine gE ?_|(conv=>whnf);first|with_reducible refine CB (aa j) ?_)
   (conv=>whnf)
   refine CD (ι:=Nat) (λk=>[(1,.G .box (aM.enc .U m)),(3,.G .one [I (m.S.length)]),(4,.G .one [I (bz m i)]),(5,.G .one [I ((i:Nat):Int)]),(25,.G .one [I (m.S.length)]),(26,.G .one [I ((i:Nat):Int)]),(33,.G .one (bL .U (nth m.S i))),(34,.G .one [I ((nth m.S i).length)]),(35,.G .one [I ((k:Nat):Int)])]) (λk=>k<=(nth m.S i).length/\((nth m.S i).take k).all (nq m.S.length)=true) (λk=>(nth m.S i).length - k) (0) ?_ ψ λk o=>?_
   ·exact wB
   obtain⟨o,p⟩:=o;by_cases C:k<(nth m.S i).length
   ·have c:=au C
    repeat'(first|refine gE ?_|(conv=>whnf);first|with_reducible (first|refine CB (aa j) ?_|refine CB (aa c) ?_|refine Bf.D (λa=>?_) (λa=>?_))|refine C7 (aF _ 0 _) ?_)
    all_goals first
     | exact X0 (λz=>[B z]) ((pA h (by unfold gu;rw[kR c (by unfold nq;exact U0 ω)];rfl)).symm)
     | ((conv=>whnf);refine CC (k+1) ⟨ω,dO c p (by unfold nq;exact O0 ω)⟩ ω ?_;(exact wB))
   have G:=rn ω p
   repeat'(first|refine gE ?_|(conv=>whnf);first|with_reducible (first|refine CB (aa j) ?_|refine CB (aa l) ?_))
   (conv=>whnf)
   refine CD (ι:=Nat) (λb=>[(1,.G .box (aM.enc .U m)),(3,.G .one [I (m.S.length)]),(4,.G .one [I (bz m i)]),(5,.G .one [I ((i:Nat):Int)]),(25,.G .one [I (m.S.length)]),(26,.G .one [I ((i:Nat):Int)]),(55,.G .one (aK .U (nth m.d i))),(56,.G .one [I ((nth m.d i).length)]),(57,.G .one [I ((b:Nat):Int)])]) (λb=>b<=(nth m.d i).length/\((nth m.d i).take b).all Pd=true) (λb=>(nth m.d i).length - b) (0) ?_ ψ λb d=>?_
   ·exact wB
   obtain⟨d,ak2⟩:=d;by_cases lk2:b<(nth m.d i).length
   ·have c:=au lk2
    repeat'(first|refine gE ?_|(conv=>whnf);first|with_reducible (first|refine CB (aa l) ?_|refine CB (aa c) ?_|refine Bf.D (λa=>?_) (λa=>?_)))
    all_goals first
     | exact X0 (λz=>[B z]) ((pA h (by unfold gu;rw[kR c (by unfold Pd;exact U0 ω)];simp)).symm)
     | ((conv=>whnf);refine CC (b+1) ⟨ω,dO c ak2 (by unfold Pd;exact O0 ω)⟩ ω ?_;(exact wB))
   have ae2:=rn ω ak2;have e:bz m (i+1)=bz m i+((nth m.S i).length+(nth m.d i).length):=rfl
   repeat'(first|refine gE ?_|(conv=>whnf);first|with_reducible (first|refine CB (aa j) ?_|refine CB (aa l) ?_))
   ((conv=>whnf);refine CC (i+1) ⟨ω,cK u (by grind [gu]),ω,ω⟩ ω ?_)
   rw[e];exact wB
  obtain rfl:i=m.S.length:=ω
  repeat'(first|refine gE ?_|fail)
  grind [xy]
 refine fO 82 [(20,15,[64,65,66,67,68,69,70,71,72,73,74,75,76,77,78])] Tryz.func78 rfl ?_
 repeat'(first|refine gP ?_|(conv=>whnf);first|with_reducible (first|refine Bf.D (λa=>?_) (λa=>?_)|refine Bf.N (λa=>?_) (λa=>?_))|refine C7 (aF _ 1 4) ?_)
 all_goals first
  | exact X0 (λz=>[B z]) ((x9 t).symm)
  |(exfalso;omega)
def Am(h:dq s a=false):S2 (iC s a)=[I (-1),I (-1)]:=by
 unfold iC;rw[h];rfl
def we(h:dq s a=true):S2 (iC s a)=[I ((a - 16*s.Q) / csz s.Z),I ((a - 16*s.Q) % csz s.Z)]:=by
 unfold iC;rw[h];rfl
theorem rW(h:dq s a=true):bg s=true/\0<=(a - 16*s.Q) / csz s.Z/\(a - 16*s.Q) / csz s.Z<=15:=by
 unfold dq at h;simp only[I0,C0]at h;have b:=aL h.1
 grind [cT]
def nh(b:i<sp.length)(h:dq (nth sp i) a=true)(c:∀(j:Nat)(z:ay),j<i->sp[j]? = some z->dq z a=false):denotes sp la a=ow i (nth sp i) a:=by
 unfold denotes;rw[vq (pr:=(dq · a)) (au b) h c]
def lW(b:sp.length<=n)(c:∀(j:Nat)(z:ay),j<n->sp[j]? = some z->dq z a=false)(d:i<la.length)(h:bI (nth la i) a=true)(e:∀(j:Nat)(z:aA),j<i->la[j]? = some z->bI z a=false) :
  denotes sp la a = ⟨3,i,0,a - 16*(nth la i).Q⟩:=by
 unfold denotes;rw[Df (pr:=(dq · a)) b c,vq (pr:=(bI · a)) (au d) h e]
theorem wg(b:sp.length<=n)(c:∀(j:Nat)(z:ay),j<n->sp[j]? = some z->dq z a=false)(d:la.length<=k)(e:∀(j:Nat)(z:aA),j<k->la[j]? = some z->bI z a=false):denotes sp la a = ⟨0,0,0,0⟩:=by grind [Df,denotes]
theorem BK(sp:List ay)(la:List aA)(a:Int)(d:eY sp)(e:eI la)(g:bA sp la=true)(C:nI a):zzA 362 false [.val none (cj .U sp),.val none (cv .U la),.val none [I a]] .agg (jf.enc .own (denotes sp la a)):=by
 have E:=d.1;have F:=e.1;have p:=y1 sp la d e;rw[g]at p;refine fO 67 [] Tryz.func362 rfl ?_ (.inr (jf.enc_fr _))
 repeat'(first|refine gP ?_|(conv=>whnf);first|refine C7 p ?_)
 (conv=>whnf)
 refine CD (ι:=Nat) (λi=>[(0,.G .one (cj .U sp)),(1,.G .one (cv .U la)),(2,.G .one [I (a)]),(6,.G .box ([I 0,I 0,I 0,I 0])),(7,.G .one [I ((i:Nat):Int)])]) (λi=>i<=sp.length/\∀(j:Nat)(z:ay),j<i->sp[j]? = some z->dq z a=false) (λi=>sp.length - i) (0) ?_ ψ λi q=>?_
 ·exact wB
 obtain⟨q,l⟩:=q;by_cases r:i<sp.length
 ·have h:=au r
  have b:=uk (nth sp i) a C;cases c:dq (nth sp i) a with
  | false=>
   rw[Am c]at b
   repeat'(first|refine gE ?_|(conv=>whnf);first|with_reducible (first|refine CB (aa h) ?_|refine Bf.D (λo=>?_) (λo=>?_))|refine C7 b ?_)
   ((conv=>whnf);refine CC (i+1) ψ ω ?_;(exact wB))
  | true=>
   rw[we c]at b;obtain⟨G,H,J⟩:=rW c;have t:=k6 (nth sp i).a7 ((a - 16*(nth sp i).Q) / csz (nth sp i).Z) (eG G).2;cases u:aW (nth sp i).a7 ((a - 16*(nth sp i).Q) / csz (nth sp i).Z)<;>rw[u]at t
   all_goals
    repeat'(first|refine gE ?_|(conv=>whnf);first|with_reducible (first|refine CB (aa h) ?_|refine Bf.D (λo=>?_) (λo=>?_))|refine C7 b ?_|refine C7 t ?_)
    all_goals(rw[nh r c l];unfold ow;rw[u];rfl)
 repeat'(first|refine gE ?_|fail)
 (conv=>whnf)
 refine CD (ι:=Nat) (λk=>[(1,.G .one (cv .U la)),(2,.G .one [I (a)]),(6,.G .box ([I 0,I 0,I 0,I 0])),(11,.G .one [I ((k:Nat):Int)])]) (λk=>k<=la.length/\∀(j:Nat)(z:aA),j<k->la[j]? = some z->bI z a=false) (λk=>la.length - k) (0) ?_ ψ λk w=>?_
 ·exact wB
 obtain⟨w,y⟩:=w;by_cases B:k<la.length
 ·have h:=au B
  have b:=qf (nth la k) a;cases c:bI (nth la k) a<;>rw[c]at b
  ·repeat'(first|refine gE ?_|(conv=>whnf);first|with_reducible refine CB (aa h) ?_|refine C7 b ?_)
   ((conv=>whnf);refine CC (k+1) ψ ω ?_;(exact wB))
  repeat'(first|refine gE ?_|(conv=>whnf);first|with_reducible refine CB (aa h) ?_|refine C7 b ?_|refine C7 (tf (nth la k) a c) ?_)
  rw[lW (n:=i) ω l B c y];rfl
 repeat'(first|refine gE ?_|fail)
 rw[wg (n:=i) (k:=k) ω l ω y];rfl
theorem kz(sp:List ay)(la:List aA)(a:Int)(e:eY sp)(g:eI la):zzA 235 false [.val none (cj .U sp),.val none (cv .U la),.val none [I a]] .agg (jf.enc .own (denotes sp la a)):=by
 have y:=e.1;have B:=g.1;refine fO 56 [] Tryz.func235 rfl ?_ (.inr (jf.enc_fr _))
 repeat'(first|refine gP ?_|fail)
 (conv=>whnf)
 refine CD (ι:=Nat) (λi=>[(1,.G .one (cv .U la)),(2,.G .one [I (a)]),(6,.G .box ([I 0,I 0,I 0,I 0])),(14,.G .one (cj .U sp)),(15,.G .one [I (sp.length)]),(16,.G .one [I ((i:Nat):Int)])]) (λi=>i<=sp.length/\∀(j:Nat)(z:ay),j<i->sp[j]? = some z->dq z a=false) (λi=>sp.length - i) (0) ?_ ψ λi o=>?_
 ·exact wB
 obtain⟨o,h⟩:=o;by_cases p:i<sp.length
 ·have d:=au p
  have b:=EK (nth sp i) a;cases c:dq (nth sp i) a with
  | false=>
   rw[Am c]at b
   repeat'(first|refine gE ?_|(conv=>whnf);first|with_reducible (first|refine CB (aa d) ?_|refine Bf.D (λl=>?_) (λl=>?_))|refine C7 b ?_)
   ((conv=>whnf);refine CC (i+1) ψ ω ?_;(exact wB))
  | true=>
   rw[we c]at b;obtain⟨C,E,F⟩:=rW c;have q:=gv (nth sp i).a7 ((a - 16*(nth sp i).Q) / csz (nth sp i).Z) (eG C).2;cases r:aW (nth sp i).a7 ((a - 16*(nth sp i).Q) / csz (nth sp i).Z)<;>rw[r]at q
   all_goals
    repeat'(first|refine gE ?_|(conv=>whnf);first|with_reducible (first|refine CB (aa d) ?_|refine Bf.D (λl=>?_) (λl=>?_))|refine C7 b ?_|refine C7 q ?_)
    all_goals(rw[nh p c h];unfold ow;rw[r];rfl)
 repeat'(first|refine gE ?_|fail)
 (conv=>whnf)
 refine CD (ι:=Nat) (λk=>[(2,.G .one [I (a)]),(6,.G .box ([I 0,I 0,I 0,I 0])),(39,.G .one (cv .U la)),(40,.G .one [I (la.length)]),(41,.G .one [I ((k:Nat):Int)])]) (λk=>k<=la.length/\∀(j:Nat)(z:aA),j<k->la[j]? = some z->bI z a=false) (λk=>la.length - k) (0) ?_ ψ λk t=>?_
 ·exact wB
 obtain⟨t,u⟩:=t;by_cases w:k<la.length
 ·have d:=au w
  have b:=ql (nth la k) a;cases c:bI (nth la k) a<;>rw[c]at b
  ·repeat'(first|refine gE ?_|(conv=>whnf);first|with_reducible refine CB (aa d) ?_|refine C7 b ?_)
   ((conv=>whnf);refine CC (k+1) ψ ω ?_;(exact wB))
  repeat'(first|refine gE ?_|(conv=>whnf);first|with_reducible refine CB (aa d) ?_|refine C7 b ?_|refine C7 (ua (nth la k) a c) ?_)
  rw[lW (n:=i) ω h w c u];rfl
 repeat'(first|refine gE ?_|fail)
 rw[wg (n:=i) (k:=k) ω h ω u];rfl
section
variable{α:Type}
def nB(ag:Option Nat)(e:α->List C)(pr:α->Bool)(xs:List α):List (Option Nat × List C)->Kd->List C->Prop:=λL k rcs=>∃x,x∈xs/\L=[(ag,e x)]/\k=.one/\rcs=[B (pr x)]
end
def uQ(xs:List aC)(pr:aC->Bool)(n:xs.length<=9223372036854775807):zzA 487 false [.val none (bE .U xs),.fn (lv Tryz.prog (nB (some 2) (aC.enc .U) pr xs))] .one [I (cA pr xs)]:=by
 refine fO 19 [] Tryz.func487 rfl ?_
 repeat'(first|refine gP ?_|fail)
 (conv=>whnf)
 refine CD (ι:=Nat) (λi=>[(0,.G .one (bE .U xs)),(1,.fv (lv Tryz.prog (nB (some 2) (aC.enc .U) pr xs))),(7,.G .one [I xs.length]),(8,.G .one [I (i:Nat)])]) (λi=>i<=xs.length/\∀(j:Nat)(z:aC),j<i->xs[j]? = some z->pr z=false) (λi=>xs.length - i) 0 ?_ ⟨W0 _,λj z h=>ω⟩ λi e=>?_
 ·exact wB
 obtain⟨e,b⟩:=e;by_cases c:i<xs.length
 ·obtain⟨y,a⟩ : ∃y,xs[i]? = some y:=⟨_,O2 c⟩
  repeat'(first|refine gE ?_|(conv=>whnf);first|with_reducible refine CB (aa a) ?_|refine Fv.mk (k:=.one) (rcs:=[B (pr y)]) ⟨y,C2 a,rfl,rfl,rfl⟩ ?_|refine Bf.P (λl=>?_) (λl=>?_))
  ·exact X0 (λz=>[I z]) (ep a ‹_› b).symm
  (conv=>whnf)
  refine CC (i+1) ⟨ω,λj z h d=>?_⟩ ω ?_
  ·rcases Nat.lt_or_ge j i with g|g
   ·exact b j z g d
   obtain rfl:j=i:=ω
   rw[a]at d;cases d;assumption
  exact wB
 repeat'(first|refine gE ?_|fail)
 exact X0 (λz=>[I z]) (gN ω b).symm
theorem qR(xs:List aC)(pr:aC->Bool)(a:xs.length<=9223372036854775807):zzA 376 false [.val none (bE .U xs),.fn (lv Tryz.prog (nB (some 2) (aC.enc .U) pr xs))] .one [B (xs.any pr)]:=by
 refine fO 9 [] Tryz.func376 rfl ?_
 repeat'(first|refine gP ?_|(conv=>whnf);first|refine C7 (uQ xs pr a) ?_)
 grind [kN]
def uE(r:aC)(page:Int):zzA 377 false [.val (some 2) (aC.enc .U r),.ptr [I page]] .one [B (FO page r)]:=by
 refine fO 17 [] Tryz.func377 rfl ?_
 repeat'(first|refine gP ?_|(conv=>whnf);first|with_reducible refine Bf.D (λa=>?_) (λa=>?_)|refine CH rfl ?_)
 all_goals exact X0 (λz=>[B z]) (by unfold FO;first|(rw[O0 (by assumption:r.At<=page)];simp;done)|(rw[U0 (by assumption:¬r.At<=page)];rfl))
def zi(xs:List aC)(page:Int)(a:xs.length<=9223372036854775807):zzA 228 false [.val none (bE .U xs),.val none [I page]] .one [B (xs.any (FO page))]:=by
 refine fO 8 [] Tryz.func228 rfl ?_
 repeat'(first|refine gP ?_|(conv=>whnf);first|refine Cq.mk (nB (some 2) (aC.enc .U) (FO page) xs) (uE default page).has (λL k rcs b=>?_) ?_|refine C7 (qR xs (FO page) a) ?_)
 ·obtain⟨x,-,rfl,rfl,rfl⟩:=b
  exact uE x page
 rfl
theorem vj(xs:List aO)(pr:aO->Bool)(g:xs.length<=9223372036854775807):zzA 549 false [.val none (dA .U xs),.fn (lv Tryz.prog (nB (some 3) (aO.enc .U) pr xs))] .one [I (cA pr xs)]:=by
 refine fO 19 [] Tryz.func549 rfl ?_
 repeat'(first|refine gP ?_|fail)
 (conv=>whnf)
 refine CD (ι:=Nat) (λi=>[(0,.G .one (dA .U xs)),(1,.fv (lv Tryz.prog (nB (some 3) (aO.enc .U) pr xs))),(7,.G .one [I xs.length]),(8,.G .one [I (i:Nat)])]) (λi=>i<=xs.length/\∀(j:Nat)(z:aO),j<i->xs[j]? = some z->pr z=false) (λi=>xs.length - i) 0 ?_ ψ λi b=>?_
 ·exact wB
 obtain⟨b,d⟩:=b;by_cases a:i<xs.length
 ·obtain⟨y,c⟩ : ∃y,xs[i]? = some y:=⟨_,O2 a⟩
  repeat'(first|refine gE ?_|(conv=>whnf);first|with_reducible refine CB (aa c) ?_|refine Fv.mk (k:=.one) (rcs:=[B (pr y)]) ⟨y,C2 c,rfl,rfl,rfl⟩ ?_|refine Bf.P (λe=>?_) (λe=>?_))
  ·grind [ep]
  (conv=>whnf)
  refine CC (i+1) ψ ω ?_;exact wB
 repeat'(first|refine gE ?_|fail)
 exact X0 (λz=>[I z]) (gN ω d).symm
theorem qw(xs:List aO)(pr:aO->Bool)(a:xs.length<=9223372036854775807):zzA 488 false [.val none (dA .U xs),.fn (lv Tryz.prog (nB (some 3) (aO.enc .U) pr xs))] .one [B (xs.any pr)]:=by
 refine fO 9 [] Tryz.func488 rfl ?_
 repeat'(first|refine gP ?_|(conv=>whnf);first|refine C7 (vj xs pr a) ?_)
 grind [kN]
theorem ye(xs:List ay)(pr:ay->Bool)(g:xs.length<=9223372036854775807):zzA 240 false [.val none (cj .U xs),.fn (lv Tryz.prog (nB (some 3) (ay.enc .U) pr xs))] .one [I (cA pr xs)]:=by
 refine fO 19 [] Tryz.func240 rfl ?_
 repeat'(first|refine gP ?_|fail)
 (conv=>whnf)
 refine CD (ι:=Nat) (λi=>[(0,.G .one (cj .U xs)),(1,.fv (lv Tryz.prog (nB (some 3) (ay.enc .U) pr xs))),(7,.G .one [I xs.length]),(8,.G .one [I (i:Nat)])]) (λi=>i<=xs.length/\∀(j:Nat)(z:ay),j<i->xs[j]? = some z->pr z=false) (λi=>xs.length - i) 0 ?_ ψ λi b=>?_
 ·exact wB
 obtain⟨b,d⟩:=b;by_cases a:i<xs.length
 ·obtain⟨y,c⟩ : ∃y,xs[i]? = some y:=⟨_,O2 a⟩
  repeat'(first|refine gE ?_|(conv=>whnf);first|with_reducible refine CB (aa c) ?_|refine Fv.mk (k:=.one) (rcs:=[B (pr y)]) ⟨y,C2 c,rfl,rfl,rfl⟩ ?_|refine Bf.P (λe=>?_) (λe=>?_))
  ·grind [ep]
  (conv=>whnf)
  refine CC (i+1) ψ ω ?_;exact wB
 repeat'(first|refine gE ?_|fail)
 exact X0 (λz=>[I z]) (gN ω d).symm
theorem jy(xs:List bc)(pr:bc->Bool)(g:xs.length<=9223372036854775807):zzA 88 false [.val none (np .U xs),.fn (lv Tryz.prog (nB (some 4) (bc.enc .U) pr xs))] .one [I (cA pr xs)]:=by
 refine fO 19 [] Tryz.func88 rfl ?_
 repeat'(first|refine gP ?_|fail)
 (conv=>whnf)
 refine CD (ι:=Nat) (λi=>[(0,.G .one (np .U xs)),(1,.fv (lv Tryz.prog (nB (some 4) (bc.enc .U) pr xs))),(7,.G .one [I xs.length]),(8,.G .one [I (i:Nat)])]) (λi=>i<=xs.length/\∀(j:Nat)(z:bc),j<i->xs[j]? = some z->pr z=false) (λi=>xs.length - i) 0 ?_ ψ λi b=>?_
 ·exact wB
 obtain⟨b,d⟩:=b;by_cases a:i<xs.length
 ·obtain⟨y,c⟩ : ∃y,xs[i]? = some y:=⟨_,O2 a⟩
  repeat'(first|refine gE ?_|(conv=>whnf);first|with_reducible refine CB (aa c) ?_|refine Fv.mk (k:=.one) (rcs:=[B (pr y)]) ⟨y,C2 c,rfl,rfl,rfl⟩ ?_|refine Bf.P (λe=>?_) (λe=>?_))
  ·grind [ep]
  (conv=>whnf)
  refine CC (i+1) ψ ω ?_;exact wB
 repeat'(first|refine gE ?_|fail)
 exact X0 (λz=>[I z]) (gN ω d).symm
theorem tC(xs:List bc)(pr:bc->Bool)(a:xs.length<=9223372036854775807):zzA 233 false [.val none (np .U xs),.fn (lv Tryz.prog (nB (some 4) (bc.enc .U) pr xs))] .one [B (xs.any pr)]:=by
 refine fO 9 [] Tryz.func233 rfl ?_
 repeat'(first|refine gP ?_|(conv=>whnf);first|refine C7 (jy xs pr a) ?_)
 grind [kN]
def NW(a:k<=3):IntKind.i64.wrap (1*2 ^ min ((k:Nat):Int).toNat IntKind.i64.bits)=csz (k:Nat):=by
 obtain rfl|rfl|rfl|rfl:k=0\/k=1\/k=2\/k=3:=ω
 all_goals decide
theorem PI(a:k<=100):IntKind.u64.wrap (k:Nat)=(k:Nat):=by grind [Go.IntKind.wrap,Go.IntKind.bits]
theorem Ds(a:k<=3)(h:csz (k:Nat)<z)(b:z<=8):k<=2:=by
 have c:csz ((3:Nat):Int)=8:=by decide
 grind
theorem wF(a:k<=3)(h1:1<=z)(b:k=0\/csz ((k - 1:Nat):Int)<z)(c:¬csz (k:Nat)<z):aV z=(k:Nat):=by
 have d:csz ((0:Nat):Int)=1:=by decide
 have e:csz ((1:Nat):Int)=2:=by decide
 have f:csz ((2:Nat):Int)=4:=by decide
 have g:csz ((3:Nat):Int)=8:=by decide
 unfold aV;obtain rfl|rfl|rfl|rfl:k=0\/k=1\/k=2\/k=3:=ω
 all_goals grind
def BO(z:Int):zzA 220 false [.val none [I z]] .one [I (aV z)]:=by
 refine fO 15 [] Tryz.func220 rfl ?_;by_cases c:1<=z/\z<=8
 ·repeat'(first|refine gE ?_|(conv=>whnf);first|with_reducible refine Bf.D (λb=>?_) (λb=>?_)|refine C7 (bj z 1 8) ?_)
  (conv=>whnf)
  refine CD (ι:=Nat) (λk=>[(0,.G .one [I (z)]),(3,.G .one [I ((k:Nat):Int)])]) (λk=>k<=3/\(k=0\/csz ((k - 1:Nat):Int)<z)) (λk=>4 - k) (0) ?_ ω λk a=>?_
  ·exact wB
  obtain⟨a,d⟩:=a
  repeat'(first|refine gP ?_|(conv=>whnf);first|with_reducible refine Bf.D (λb=>?_) (λb=>?_)|refine CH (PI ω) ?_|refine CH (NW a) ?_|refine CM ω ?_)
  all_goals first
   | exact X0 (λz=>[I z]) (wF a c.1 d (by assumption)).symm
   | ((conv=>whnf);refine CC (k+1) ⟨by have:=Ds a (by assumption) c.2;omega,.inr (by simpa using (by assumption:csz (k:Nat)<z))⟩ (by have:=Ds a (by assumption) c.2;omega) ?_;(exact wB))
 repeat'(first|refine gE ?_|(conv=>whnf);first|with_reducible refine Bf.D (λb=>?_) (λb=>?_)|refine C7 (bj z 1 8) ?_)
 all_goals exact X0 (λz=>[I z]) (by unfold aV;(repeat' split)<;>omega)
def kE(z:Int):zzA 64 false [.val none [I z]] .one [I (aV z)]:=by
 refine fO 14 [] Tryz.func64 rfl ?_;by_cases c:1<=z/\z<=8
 ·repeat'(first|refine gE ?_|(conv=>whnf);first|with_reducible refine Bf.D (λa=>?_) (λa=>?_)|refine C7 (aF z 1 8) ?_)
  (conv=>whnf)
  refine CD (ι:=Nat) (λk=>[(0,.G .one [I (z)]),(3,.G .one [I ((k:Nat):Int)])]) (λk=>k<=3/\(k=0\/csz ((k - 1:Nat):Int)<z)) (λk=>4 - k) (0) ?_ ω λk b=>?_
  ·exact wB
  obtain⟨b,d⟩:=b
  repeat'(first|refine gP ?_|(conv=>whnf);first|with_reducible refine Bf.D (λa=>?_) (λa=>?_)|refine C7 (cV _) ?_)
  all_goals first
   | exact X0 (λz=>[I z]) (wF b c.1 d (by assumption)).symm
   | ((conv=>whnf);refine CC (k+1) ⟨by have:=Ds b (by assumption) c.2;omega,.inr (by simpa using (by assumption:csz (k:Nat)<z))⟩ (by have:=Ds b (by assumption) c.2;omega) ?_;(exact wB))
 repeat'(first|refine gE ?_|(conv=>whnf);first|with_reducible refine Bf.D (λa=>?_) (λa=>?_)|refine C7 (aF z 1 8) ?_)
 all_goals exact X0 (λz=>[I z]) (by unfold aV;(repeat' split)<;>omega)
theorem Bk(q:b9)(a:Int)(d:b9.sml q):zzA 359 false [.val (some 2) (b9.enc .U q),.val none [I a]] .one [B (q.a1.any (eB a))]:=by
 have j:q.a1.length<=1048576:=d.1;refine fO 21 [] Tryz.func359 rfl ?_
 repeat'(first|refine gP ?_|fail)
 (conv=>whnf)
 refine CD (ι:=Nat) (λi=>[(1,.G .one [I (a)]),(2,.G .box (b9.enc .U q)),(5,.G .one [I ((i:Nat):Int)])]) (λi=>i<=q.a1.length/\(q.a1.take i).any (eB a)=false) (λi=>q.a1.length - i) (0) ?_ ψ λi c=>?_
 ·exact wB
 obtain⟨c,e⟩:=c;by_cases g:i<q.a1.length
 ·have b:=au g
  repeat'(first|refine gE ?_|(conv=>whnf);first|with_reducible (first|refine CB (aa b) ?_|refine Bf.E (λh=>?_) (λh=>?_)))
  all_goals first
   | exact X0 (λz=>[B z]) ((HR b (O0 (by assumption))).symm)
   | ((conv=>whnf);refine CC (i+1) ⟨ω,E7 b e (U0 (by assumption))⟩ ω ?_;(exact wB))
 repeat'(first|refine gE ?_|fail)
 exact X0 (λz=>[B z]) ψ
def iL(xs:List aO)(i:Nat):quarCells xs (i+1)=quarCells xs i+csz (nth xs i).Z:=rfl
theorem N5(k:Int):0<=csz k/\csz k<=8:=by grind [cT,csz]
theorem E3(xs:List aO)(c:kX xs):zzA 360 false [.val none (dA .U xs)] .one [I (quarCells xs xs.length)]:=by
 have g:=c.1;refine fO 20 [] Tryz.func360 rfl ?_
 repeat'(first|refine gP ?_|fail)
 (conv=>whnf)
 refine CD (ι:=Nat) (λi=>[(0,.G .one (dA .U xs)),(3,.G .one [I (quarCells xs i)]),(4,.G .one [I ((i:Nat):Int)])]) (λi=>i<=xs.length/\0<=quarCells xs i/\quarCells xs i<=8*i) (λi=>xs.length - i) (0) ?_ (⟨W0 _,by simp[quarCells],by simp[quarCells]⟩) λi b=>?_
 ·exact wB
 obtain⟨b,h,j⟩:=b;by_cases d:i<xs.length
 ·have e:=au d
  have k:=N5 (nth xs i).Z;have a:=iL xs i
  repeat'(first|refine gE ?_|(conv=>whnf);first|with_reducible refine CB (aa e) ?_|refine C7 (fU _) ?_)
  ((conv=>whnf);refine CC (i+1) ω ω ?_)
  rw[a];exact wB
 repeat'(first|refine gE ?_|fail)
 grind
theorem oJ(xs:List aO)(c:kX xs):zzA 231 false [.val none (dA .U xs)] .one [I (quarCells xs xs.length)]:=by
 have g:=c.1;refine fO 19 [] Tryz.func231 rfl ?_
 repeat'(first|refine gP ?_|fail)
 (conv=>whnf)
 refine CD (ι:=Nat) (λi=>[(3,.G .one [I (quarCells xs i)]),(6,.G .one (dA .U xs)),(7,.G .one [I (xs.length)]),(8,.G .one [I ((i:Nat):Int)])]) (λi=>i<=xs.length/\0<=quarCells xs i/\quarCells xs i<=8*i) (λi=>xs.length - i) (0) ?_ (⟨W0 _,by simp[quarCells],by simp[quarCells]⟩) λi b=>?_
 ·exact wB
 obtain⟨b,h,j⟩:=b;by_cases d:i<xs.length
 ·have e:=au d
  have k:=N5 (nth xs i).Z;have a:=iL xs i
  repeat'(first|refine gE ?_|(conv=>whnf);first|with_reducible refine CB (aa e) ?_|refine C7 (cV _) ?_)
  ((conv=>whnf);refine CC (i+1) ω ω ?_)
  rw[a];exact wB
 repeat'(first|refine gE ?_|fail)
 grind
def Kf(a:aO):zzA 358 false [.val (some 3) (aO.enc .U a)] .one [B (decide (0<=a.Z/\a.Z<=3/\0<=a.Addr/\0<=a.b2))]:=by
 refine fO 16 [] Tryz.func358 rfl ?_
 repeat'(first|refine gP ?_|(conv=>whnf);first|with_reducible refine Bf.D (λb=>?_) (λb=>?_)|refine C7 (bj _ 0 3) ?_)
 all_goals exact X0 (λz=>[B z]) ((by first|(symm;exact U0 ω)|exact decide_eq_decide.2 ω))
variable{xs:List aO}
theorem Lu(a:kX xs)(i:Nat):kX (xs.take i):=⟨by have:=a.1;grind,λ_ _=>trivial⟩
def Qc(q:b9)(a:b9.sml q):zzA 213 false [.val (some 2) (b9.enc .U q)] .one [B (gm q)]:=by
 have l:q.a1.length<=1048576:=a.1;refine fO 57 [(5,29,[17,18,19,20,21,22,23,24,25,26,27,28,29,30,31,32,33,34,35,36,37,38,39,40,41,42,43,44,45]),(7,11,[46,47,48,49,50,51,52,53,54,55,56])] Tryz.func213 rfl ?_
 repeat'(first|refine gP ?_|fail)
 (conv=>whnf)
 refine CD (ι:=Nat) (λi=>[(1,.G .box (b9.enc .U q)),(3,.G .one [I ((i:Nat):Int)])]) (λi=>i<=q.a1.length/\dv i (kD q.a1)=true) (λi=>q.a1.length - i) 0 ?_ ⟨W0 _,rfl⟩ λi e=>?_
 ·exact wB
 obtain⟨e,g⟩:=e;by_cases b:i<q.a1.length
 ·have j:=au b
  have h:=Bk ⟨0,q.a1.take i⟩ (nth q.a1 i).Addr (Lu a i);cases c:(q.a1.take i).any (eB (nth q.a1 i).Addr)<;>rw[show(b9.mk 0 (q.a1.take i)).a1.any (eB (nth q.a1 i).Addr)=_ from c]at h
  all_goals
   repeat'(first|refine gE ?_|(conv=>whnf);first|with_reducible (first|refine CB (aa j) ?_|refine Bf.D (λd=>?_) (λd=>?_))|refine C7 (Kf _) ?_|refine CL ω (aa (gV ω b)) ?_|refine CS i rfl (by simp;omega) (λr k=>by obtain⟨z,-,rfl⟩:=z4.1 k;rfl) (t4 ..) ?_|refine C7 h ?_)
   all_goals first
    | exact X0 (λz=>[B z]) ((by symm;unfold gm;rw[dm b (by unfold kD;first|(rw[c];simp;done)|(rw[U0 ω];rfl))];rfl))
    | ((conv=>whnf);refine CC (i+1) ⟨ω,cK g (by unfold kD;rw[c,O0 ω];rfl)⟩ ω ?_;(exact wB))
 obtain rfl:i=q.a1.length:=ω
 repeat'(first|refine gE ?_|(conv=>whnf);first|with_reducible refine Bf.D (λd=>?_) (λd=>?_)|refine C7 (bj _ 0 500) ?_|refine C7 (E3 q.a1 a) ?_)
 all_goals exact X0 (λz=>[B z]) ((by unfold gm;rw[g];simp only[Bool.true_and];first|(symm;exact U0 ω)|exact decide_eq_decide.2 ω))
theorem uL(b:aO)(a:Int):zzA 489 false [.val (some 3) (aO.enc .U b),.ptr [I a]] .one [B (eB a b)]:=by
 refine fO 8 [] Tryz.func489 rfl ?_
 repeat'(first|refine gP ?_|fail)
 grind [eB]
def y3(xs:List aO)(a:Int)(b:xs.length<=9223372036854775807):zzA 378 false [.val none (dA .U xs),.val none [I a]] .one [B (xs.any (eB a))]:=by
 refine fO 8 [] Tryz.func378 rfl ?_
 repeat'(first|refine gP ?_|(conv=>whnf);first|refine Cq.mk (nB (some 3) (aO.enc .U) (eB a) xs) (uL default a).has (λL k rcs c=>?_) ?_|refine C7 (qw xs (eB a) b) ?_)
 ·obtain⟨y,-,rfl,rfl,rfl⟩:=c
  exact uL y a
 rfl
def lD(xs:List aO)(a:aO):Bool:=decide (0<=a.Z/\a.Z<=3/\0<=a.Addr/\0<=a.b2/\(xs.length=0\/(nth xs (xs.length - 1)).b2<=a.b2))&&!xs.any (eB a.Addr)
theorem rD(xs:List aO)(b:aO)(g:xs.length<=1048576):zzA 230 false [.val none (dA .U xs),.val (some 3) (aO.enc .U b)] .one [B (lD xs b)]:=by
 have c:=y3 xs b.Addr ω;cases d:xs.any (eB b.Addr)<;>rw[d]at c
 ·by_cases h:xs.length=0
  ·refine fO 40 [(3,15,[25,26,27,28,29,30,31,32,33,34,35,36,37,38,39])] Tryz.func230 rfl ?_
   repeat'(first|refine gP ?_|(conv=>whnf);first|with_reducible (first|refine Bf.D (λa=>?_) (λa=>?_)|refine Bf.E (λa=>?_) (λa=>?_))|refine C7 (eM _) ?_|refine C7 c ?_)
   all_goals first
    | exact X0 (λz=>[B z]) ((by unfold lD;rw[d,Bool.not_false,Bool.and_true];first|(symm;exact U0 ω)|(symm;exact O0 ω)|exact decide_eq_decide.2 ω))
    |(exfalso;omega)
    |trace_state
  have e:xs[((xs.length:Int) - 1).toNat]? = some (nth xs (xs.length - 1)):=by rw[show((xs.length:Int) - 1).toNat=xs.length - 1 by omega];grind [au]
  refine fO 40 [(3,15,[25,26,27,28,29,30,31,32,33,34,35,36,37,38,39])] Tryz.func230 rfl ?_
  repeat'(first|refine gP ?_|(conv=>whnf);first|with_reducible (first|refine Bf.D (λa=>?_) (λa=>?_)|refine Bf.E (λa=>?_) (λa=>?_))|refine C7 (eM _) ?_|refine C7 c ?_|refine CL ω (aa e) ?_)
  all_goals first
   | exact X0 (λz=>[B z]) ((by unfold lD;rw[d,Bool.not_false,Bool.and_true];first|(symm;exact U0 ω)|(symm;exact O0 ω)|exact decide_eq_decide.2 ω))
   |(exfalso;omega)
   |trace_state
 refine fO 40 [(3,15,[25,26,27,28,29,30,31,32,33,34,35,36,37,38,39])] Tryz.func230 rfl ?_
 repeat'(first|refine gP ?_|(conv=>whnf);first|with_reducible refine Bf.D (λa=>?_) (λa=>?_)|refine C7 (eM _) ?_|refine C7 c ?_)
 all_goals exact X0 (λz=>[B z]) ((by unfold lD;rw[d];simp))
theorem Gj(d:i<xs.length):lD (xs.take i) (nth xs i)=kD xs i:=by
 unfold lD kD;have a:(xs.take i).length=i:=ψ
 rw[a]
 congr 1
 refine decide_eq_decide.2 ?_;by_cases b:i=0
 ·subst b;simp
 have c:nth (xs.take i) (i - 1)=nth xs (i - 1):=by
  have:=au (xs:=xs) (i:=i - 1) ω
  grind [bD]
 rw[c]
theorem oX(q:b9)(d:b9.sml q):zzA 79 false [.val (some 2) (b9.enc .U q)] .one [B (gm q)]:=by
 have l:q.a1.length<=1048576:=d.1;refine fO 32 [(4,7,[13,14,15,16,17,18,19]),(7,11,[21,22,23,24,25,26,27,28,29,30,31])] Tryz.func79 rfl ?_
 repeat'(first|refine gP ?_|fail)
 (conv=>whnf)
 refine CD (ι:=Nat) (λi=>[(1,.G .box (b9.enc .U q)),(6,.G .one (dA .U q.a1)),(7,.G .one [I (q.a1.length)]),(8,.G .one [I ((i:Nat):Int)])]) (λi=>i<=q.a1.length/\dv i (kD q.a1)=true) (λi=>q.a1.length - i) 0 ?_ ⟨W0 _,rfl⟩ λi e=>?_
 ·exact wB
 obtain⟨e,g⟩:=e;by_cases a:i<q.a1.length
 ·have h:=au a
  have b:=rD (q.a1.take i) (nth q.a1 i) ψ;rw[Gj a]at b;cases c:kD q.a1 i<;>rw[c]at b
  all_goals
   repeat'(first|refine gE ?_|(conv=>whnf);first|with_reducible refine CB (aa h) ?_|refine CS i rfl (by simp;omega) (λr j=>by obtain⟨z,-,rfl⟩:=z4.1 j;rfl) (t4 ..) ?_|refine C7 b ?_)
   all_goals first
    | exact X0 (λz=>[B z]) ((by symm;unfold gm;rw[dm a c];rfl))
    | ((conv=>whnf);refine CC (i+1) ⟨ω,cK g c⟩ ω ?_;(exact wB))
 obtain rfl:i=q.a1.length:=ω
 repeat'(first|refine gE ?_|(conv=>whnf);first|with_reducible refine Bf.D (λk=>?_) (λk=>?_)|refine C7 (aF _ 0 500) ?_|refine C7 (oJ q.a1 d) ?_)
 all_goals exact X0 (λz=>[B z]) ((by unfold gm;rw[g];simp only[Bool.true_and];first|(symm;exact U0 ω)|exact decide_eq_decide.2 ω))
def fA(a:List Bool):Nat->Int
 | 0=>0
 | i+1=>fA a i+(if nth a i then 1 else 0)
def cL(f:aS):Int:=if cH f then fA f.k f.k.length else 0
def zW{a:List Bool}(h:nth a i=true):fA a (i+1)=fA a i+1:=by show fA a i+(if nth a i then 1 else 0)=_;rw[h];rfl
def EH{a:List Bool}(h:nth a i=false):fA a (i+1)=fA a i:=by show fA a i+(if nth a i then 1 else 0)=_;rw[h];simp
theorem vn(f:aS)(g:aS.sml f):zzA 25 false [.val (some 2) (aS.enc .U f)] .one [I (cL f)]:=by
 have l:f.k.length<=1048576:=g.2;have b:=pO f g;cases h:cH f<;>rw[h]at b
 ·refine fO 24 [] Tryz.func25 rfl ?_
  repeat'(first|refine gP ?_|fail)
  (conv=>whnf)
  refine CD (ι:=Nat) (λi=>[(1,.G .box (aS.enc .U f)),(3,.G .one [I ((0:Int))]),(4,.G .one [I ((i:Nat):Int)])]) (λi=>i=0) (λi=>i) (0) ?_ (rfl) λi c=>?_
  ·exact wB
  subst c
  repeat'(first|refine gP ?_|(conv=>whnf);first|with_reducible refine Bf.D (λj=>?_) (λj=>?_)|refine C7 b ?_)
  all_goals grind [cL]
 refine fO 24 [] Tryz.func25 rfl ?_
 repeat'(first|refine gP ?_|fail)
 (conv=>whnf)
 refine CD (ι:=Nat) (λi=>[(1,.G .box (aS.enc .U f)),(3,.G .one [I (fA f.k i)]),(4,.G .one [I ((i:Nat):Int)])]) (λi=>i<=f.k.length/\0<=fA f.k i/\fA f.k i<=i) (λi=>f.k.length - i) (0) ?_ (⟨W0 _,by simp[fA],by simp[fA]⟩) λi c=>?_
 ·exact wB
 obtain⟨c,n,o⟩:=c;by_cases k:i<f.k.length
 ·have d:=au k
  cases e:nth f.k i<;>rw[e]at d
  ·have a:=EH e
   repeat'(first|refine gE ?_|(conv=>whnf);first|with_reducible refine CB (aa d) ?_|refine C7 b ?_)
   ((conv=>whnf);refine CC (i+1) ω ω ?_)
   rw[a];exact wB
  have a:=zW e
  repeat'(first|refine gE ?_|(conv=>whnf);first|with_reducible refine CB (aa d) ?_|refine C7 b ?_)
  ((conv=>whnf);refine CC (i+1) ω ω ?_)
  rw[a];exact wB
 obtain rfl:i=f.k.length:=ω
 repeat'(first|refine gE ?_|(conv=>whnf);first|refine C7 b ?_)
 grind [cL]
theorem vh(f:aS)(e:aS.sml f):zzA 93 false [.val (some 2) (aS.enc .U f)] .one [I (cL f)]:=by
 have k:f.k.length<=1048576:=e.2;have b:=lV f e;cases g:cH f<;>rw[g]at b
 ·refine fO 21 [] Tryz.func93 rfl ?_
  repeat'(first|refine gP ?_|(conv=>whnf);first|refine C7 b ?_)
  all_goals exact X0 (λz=>[I z]) (by unfold cL;rw[g];rfl)
 refine fO 21 [] Tryz.func93 rfl ?_
 repeat'(first|refine gP ?_|(conv=>whnf);first|refine C7 b ?_)
 (conv=>whnf)
 refine CD (ι:=Nat) (λi=>[(3,.G .one [I (fA f.k i)]),(10,.G .one (Hm .U f.k)),(11,.G .one [I (f.k.length)]),(12,.G .one [I ((i:Nat):Int)])]) (λi=>i<=f.k.length/\0<=fA f.k i/\fA f.k i<=i) (λi=>f.k.length - i) (0) ?_ (⟨W0 _,by simp[fA],by simp[fA]⟩) λi h=>?_
 ·exact wB
 obtain⟨h,l,n⟩:=h;by_cases j:i<f.k.length
 ·have c:=au j
  cases d:nth f.k i<;>rw[d]at c
  ·have a:=EH d
   repeat'(first|refine gE ?_|(conv=>whnf);first|with_reducible refine CB (aa c) ?_)
   ((conv=>whnf);refine CC (i+1) ω ω ?_)
   rw[a];exact wB
  have a:=zW d
  repeat'(first|refine gE ?_|(conv=>whnf);first|with_reducible refine CB (aa c) ?_)
  ((conv=>whnf);refine CC (i+1) ω ω ?_)
  rw[a];exact wB
 obtain rfl:i=f.k.length:=ω
 repeat'(first|refine gE ?_|fail)
 grind [cL]
def FJ(h:ac):Prop:=aN.sml h.J.F.O
def vo(h:ac)(p:Int)(a:FJ h):zzA 355 false [.val (some 24) (ac.enc .U h),.val none [I p]] .one (aK .own (b6 h p)):=by
 refine fO 23 [] Tryz.func355 rfl ?_ (.inr (bQ _))
 repeat'((conv=>whnf);first|with_reducible (first|refine Lm ?_|refine Wm ω ?_|refine Bf.E (λb=>?_) (λb=>?_)|refine Bn ?_|refine jh.wk rfl ?_)|refine Bt ?_|refine Bu ?_|refine C7 (kQ h.J.F.O p a) ?_|refine C7 (gr h.J.F.O _ a) ?_)
 all_goals(unfold b6;first|rw[CA (by assumption)]|rw[C8 (by assumption)])
 all_goals exact⟨rfl,trivial⟩
def jY(h:ac)(p:Int)(a:FJ h):zzA 227 false [.val (some 24) (ac.enc .U h),.val none [I p]] .one (aK .own (b6 h p)):=by
 refine fO 22 [] Tryz.func227 rfl ?_ (.inr (bQ _))
 repeat'((conv=>whnf);first|with_reducible (first|refine Lm ?_|refine Wm ω ?_|refine Bf.E (λb=>?_) (λb=>?_)|refine Bn ?_|refine jh.wk rfl ?_)|refine Bt ?_|refine Bu ?_|refine C7 (cJ h.J.F.O p a) ?_|refine C7 (kC h.J.F.O _ a) ?_)
 all_goals(unfold b6;first|rw[CA (by assumption)]|rw[C8 (by assumption)])
 all_goals exact⟨rfl,trivial⟩
theorem ee(k:ah)(p:Int)(a:aN.sml k.F.O):zzA 127 false [.val (some 5) (ah.enc .U k),.val none [I p]] .one [B (decide ((ar k.F.O p).o≠0))]:=by
 refine fO 12 [] Tryz.func127 rfl ?_
 repeat'(first|refine gP ?_|(conv=>whnf);first|refine C7 (cJ k.F.O p a) ?_)
 grind
def oe(z:Int):zzA 83 false [.val none [I z]] .one [B (decide (0<=z/\z<=1073741823))]:=by
 refine fO 5 [] Tryz.func83 rfl ?_
 repeat'(first|refine gP ?_|(conv=>whnf);first|refine C7 (aF z 0 1073741823) ?_)
 rfl
theorem E6(h:ac)(p:Int)(g:h.H.length<=1048576):zzA 219 false [.val (some 24) (ac.enc .U h),.val none [I p]] .one [I (jm h p)]:=by
 refine fO 22 [] Tryz.func219 rfl ?_
 repeat'(first|refine gP ?_|fail)
 (conv=>whnf)
 refine CD (ι:=Nat) (λi=>[(1,.G .one [I (p)]),(2,.G .box (ac.enc .U h)),(5,.G .one [I ((i:Nat):Int)])]) (λi=>i<=h.H.length/\∀(j:Nat)(z:ay),j<i->h.H[j]? = some z->mM p z=false) (λi=>h.H.length - i) (0) ?_ ψ λi c=>?_
 ·exact wB
 obtain⟨c,a⟩:=c;by_cases d:i<h.H.length
 ·have b:=au d
  repeat'(first|refine gE ?_|(conv=>whnf);first|with_reducible (first|refine CB (aa b) ?_|refine Bf.E (λe=>?_) (λe=>?_)))
  all_goals first
   | exact X0 (λz=>[I z]) (ep b (O0 (by assumption)) a).symm
   | ((conv=>whnf);refine CC (i+1) ⟨ω,iG b (U0 (by assumption)) a⟩ ω ?_;(exact wB))
 repeat'(first|refine gE ?_|fail)
 exact X0 (λz=>[I z]) (gN ω a).symm
theorem zT(s:ay)(p:Int):zzA 241 false [.val (some 3) (ay.enc .U s),.ptr [I p]] .one [B (mM p s)]:=by
 refine fO 8 [] Tryz.func241 rfl ?_
 repeat'(first|refine gP ?_|fail)
 grind [mM]
def u6(h:ac)(p:Int)(b:h.H.length<=1048576):zzA 85 false [.val (some 24) (ac.enc .U h),.val none [I p]] .one [I (jm h p)]:=by
 refine fO 9 [] Tryz.func85 rfl ?_
 repeat'(first|refine gP ?_|(conv=>whnf);first|refine Cq.mk (nB (some 3) (ay.enc .U) (mM p) h.H) (zT default p).has (λL k rcs a=>?_) ?_|refine C7 (ye h.H (mM p) ω) ?_)
 ·obtain⟨y,-,rfl,rfl,rfl⟩:=a
  exact zT y p
 rfl
def flight1(m:aM)(i:Nat):List Int:=(m.S.take i).flatMap λl=>l.map (·.Addr)
def flight2(m:aM)(i:Nat):List Int:=(m.d.take i).flatten
theorem mO{l:List cM}(h:m.S[i]? = some l):flight1 m (i+1)=flight1 m i++l.map (·.Addr):=by grind [t5,flight1]
theorem mR(h:m.d[i]? = some l):flight2 m (i+1)=flight2 m i++l:=by grind [t5,flight2]
theorem om(h:bT m=true):aU m=flight1 m m.S.length++flight2 m m.d.length:=by grind [aU,flight1,flight2]
theorem um(h:bT m=false):aU m=[]:=by grind [aU]
theorem sq(h:bT m=true):1<=m.S.length/\m.S.length<=4/\m.d.length=m.S.length:=by grind [bT]
def FB : ∀r∈l.map (rI .U),r.length=1:=by
 intro r a;obtain⟨z,-,rfl⟩:=z4.1 a;rfl
def Jn : ∀r∈l.map (rI .U),bn r=true:=by
 intro r a;obtain⟨z,-,rfl⟩:=z4.1 a;rfl
theorem N9(m:aM)(g:aM.sml m):zzA 35 false [.val (some 2) (aM.enc .U m)] .one (aK .own (aU m)):=by
 have h:=FR m g;cases d:bT m<;>rw[d]at h
 ·refine fO 56 [] Tryz.func35 rfl ?_ (.inr (bQ _))
  repeat'((conv=>whnf);first|with_reducible (first|refine Lm ?_|refine Wm ω ?_|refine Bn ?_|refine jh.wk rfl ?_)|refine Bt ?_|refine Bu ?_|refine C7 h ?_)
  all_goals(rw[um d];exact⟨rfl,trivial⟩)
 obtain⟨D,E,F⟩:=sq d;refine fO 56 [] Tryz.func35 rfl ?_ (.inr (bQ _))
 repeat'(first|refine gP ?_|(conv=>whnf);first|refine C7 h ?_)
 (conv=>whnf)
 refine CD (ι:=Nat × List Int) (λi=>[(1,.G .box (aM.enc .U m)),(3,.G .one (aK .own i.2)),(4,.G .one [I ((i.1:Nat):Int)])]) (λi=>i.1<=m.S.length/\i.2=flight1 m i.1/\i.2.length<=1048576*i.1) (λi=>m.S.length - i.1) ((0,[])) ?_ (⟨W0 _,rfl,W0 _⟩) λi j=>?_
 ·exact wB
 obtain⟨i,S⟩:=i;obtain⟨j,p,t⟩:=j;simp only at j p t |-;by_cases q:i<m.S.length
 ·have l:=au q
  have u:(nth m.S i).length<=1048576:=(g.1.2 _ (ax q)).1
  repeat'(first|refine gE ?_|(conv=>whnf);first|with_reducible refine CB (aa l) ?_)
  (conv=>whnf)
  refine CD (ι:=Nat × List Int) (λk=>[(1,.G .box (aM.enc .U m)),(3,.G .one (aK .own k.2)),(4,.G .one [I ((i:Nat):Int)]),(5,.G .one [I ((k.1:Nat):Int)])]) (λk=>k.1<=(nth m.S i).length/\k.2=S++((nth m.S i).take k.1).map (·.Addr)) (λk=>(nth m.S i).length - k.1) ((0,S)) ?_ ψ λk b=>?_
  ·exact wB
  obtain⟨k,c⟩:=k;obtain⟨b,a⟩:=b;simp only at b a |-;have w:c.length=S.length+k:=ψ
  by_cases e:k<(nth m.S i).length
  ·have n:=au e
   repeat'(first|refine gE ?_|(conv=>whnf);first|with_reducible (first|refine CB (aa l) ?_|refine CB (aa n) ?_)|refine CQ dL (λr y=>by rw[O1.1 y];rfl) (by simp[bn,eP]) (by simp;omega) (by show _*8<=_;simp;omega) rfl ?_)
   ((conv=>whnf)
    refine CC (k+1,c++[(nth (nth m.S i) k).Addr]) ⟨(by simp only;omega),(by grind [t5])⟩ (by simp only;omega) ?_
    (repeat'(first|exact trivial|rfl|exact CG rfl (CG (X0 (C.s dH.own) (by simp[rI])) trivial)|refine CG ?_ ?_)))
  obtain rfl:k=(nth m.S i).length:=ω
  rw[W4]at a
  repeat'(first|refine gE ?_|(conv=>whnf);first|with_reducible refine CB (aa l) ?_)
  ((conv=>whnf);refine CC (i+1,c) ⟨(by simp only;omega),(by grind [mO]),(by simp only;omega)⟩ (by simp only;omega) ?_;(exact wB))
 obtain rfl:i=m.S.length:=ω
 repeat'(first|refine gE ?_|fail)
 (conv=>whnf)
 refine CD (ι:=Nat × List Int) (λk=>[(1,.G .box (aM.enc .U m)),(3,.G .one (aK .own k.2)),(6,.G .one [I ((k.1:Nat):Int)])]) (λk=>k.1<=m.d.length/\k.2=S++flight2 m k.1/\k.2.length<=S.length+1048576*k.1) (λk=>m.d.length - k.1) ((0,S)) ?_ (⟨W0 _,by simp[flight2],by simp⟩) λk b=>?_
 ·exact wB
 obtain⟨k,c⟩:=k;obtain⟨b,a,o⟩:=b;simp only at b a o |-;by_cases e:k<m.d.length
 ·have n:=au e
  have B:(nth m.d k).length<=1048576:=g.2.2 _ (ax e)
  repeat'(first|refine gE ?_|(conv=>whnf);first|with_reducible refine CB (aa n) ?_|refine CQ dL FB (λ_=>Jn) (by simp;omega) (by show _*8<=_;simp;omega) rfl ?_)
  ((conv=>whnf)
   refine CC (k+1,c++nth m.d k) ⟨(by simp only;omega),(by grind [mR]),ψ⟩ (by simp only;omega) ?_
   (repeat'(first|exact trivial|rfl|exact CG rfl (CG (X0 (C.s dH.own) (by simp[rI])) trivial)|refine CG ?_ ?_)))
 obtain rfl:k=m.d.length:=ω
 repeat'(first|refine gE ?_|fail)
 rw[om d,<-p,<-a];rfl
theorem zh(m:aM)(g:aM.sml m):zzA 237 false [.val (some 2) (aM.enc .U m)] .one (aK .own (aU m)):=by
 have h:=lH m g;cases d:bT m<;>rw[d]at h
 ·refine fO 46 [] Tryz.func237 rfl ?_ (.inr (bQ _))
  repeat'((conv=>whnf);first|with_reducible (first|refine Lm ?_|refine Wm ω ?_|refine Bn ?_|refine jh.wk rfl ?_)|refine Bt ?_|refine Bu ?_|refine C7 h ?_)
  all_goals(rw[um d];exact⟨rfl,trivial⟩)
 obtain⟨D,E,F⟩:=sq d;refine fO 46 [] Tryz.func237 rfl ?_ (.inr (bQ _))
 repeat'(first|refine gP ?_|(conv=>whnf);first|refine C7 h ?_)
 (conv=>whnf)
 refine CD (ι:=Nat × List Int) (λi=>[(1,.G .box (aM.enc .U m)),(3,.G .one (aK .own i.2)),(15,.G .one (xF .U m.S)),(16,.G .one [I (m.S.length)]),(17,.G .one [I ((i.1:Nat):Int)])]) (λi=>i.1<=m.S.length/\i.2=flight1 m i.1/\i.2.length<=1048576*i.1) (λi=>m.S.length - i.1) ((0,[])) ?_ (⟨W0 _,rfl,W0 _⟩) λi j=>?_
 ·exact wB
 obtain⟨i,S⟩:=i;obtain⟨j,o,q⟩:=j;simp only at j o q |-;by_cases p:i<m.S.length
 ·have t:=au p
  have u:(nth m.S i).length<=1048576:=(g.1.2 _ (ax p)).1
  repeat'(first|refine gE ?_|(conv=>whnf);first|with_reducible refine CB (aa t) ?_)
  (conv=>whnf)
  refine CD (ι:=Nat × List Int) (λk=>[(1,.G .box (aM.enc .U m)),(3,.G .one (aK .own k.2)),(15,.G .one (xF .U m.S)),(16,.G .one [I (m.S.length)]),(17,.G .one [I ((i:Nat):Int)]),(21,.G .one (bL .U (nth m.S i))),(22,.G .one [I ((nth m.S i).length)]),(23,.G .one [I ((k.1:Nat):Int)])]) (λk=>k.1<=(nth m.S i).length/\k.2=S++((nth m.S i).take k.1).map (·.Addr)) (λk=>(nth m.S i).length - k.1) ((0,S)) ?_ ψ λk b=>?_
  ·exact wB
  obtain⟨k,c⟩:=k;obtain⟨b,a⟩:=b;simp only at b a |-;have w:c.length=S.length+k:=ψ
  by_cases e:k<(nth m.S i).length
  ·have l:=au e
   repeat'(first|refine gE ?_|(conv=>whnf);first|with_reducible refine CB (aa l) ?_|refine CQ dL (λr y=>by rw[O1.1 y];rfl) (by simp[bn,eP]) (by simp;omega) (by show _*8<=_;simp;omega) rfl ?_)
   ((conv=>whnf)
    refine CC (k+1,c++[(nth (nth m.S i) k).Addr]) ⟨(by simp only;omega),(by grind [t5])⟩ (by simp only;omega) ?_
    (repeat'(first|exact trivial|rfl|exact CG rfl (CG (X0 (C.s dH.own) (by simp[rI])) trivial)|refine CG ?_ ?_)))
  obtain rfl:k=(nth m.S i).length:=ω
  rw[W4]at a
  repeat'(first|refine gE ?_|fail)
  ((conv=>whnf);refine CC (i+1,c) ⟨(by simp only;omega),(by grind [mO]),(by simp only;omega)⟩ (by simp only;omega) ?_;(exact wB))
 obtain rfl:i=m.S.length:=ω
 repeat'(first|refine gE ?_|fail)
 (conv=>whnf)
 refine CD (ι:=Nat × List Int) (λk=>[(3,.G .one (aK .own k.2)),(35,.G .one (jq .U m.d)),(36,.G .one [I (m.d.length)]),(37,.G .one [I ((k.1:Nat):Int)])]) (λk=>k.1<=m.d.length/\k.2=S++flight2 m k.1/\k.2.length<=S.length+1048576*k.1) (λk=>m.d.length - k.1) ((0,S)) ?_ (⟨W0 _,by simp[flight2],by simp⟩) λk b=>?_
 ·exact wB
 obtain⟨k,c⟩:=k;obtain⟨b,a,n⟩:=b;simp only at b a n |-;by_cases e:k<m.d.length
 ·have l:=au e
  have B:(nth m.d k).length<=1048576:=g.2.2 _ (ax e)
  repeat'(first|refine gE ?_|(conv=>whnf);first|with_reducible refine CB (aa l) ?_|refine CQ dL FB (λ_=>Jn) (by simp;omega) (by show _*8<=_;simp;omega) rfl ?_)
  ((conv=>whnf)
   refine CC (k+1,c++nth m.d k) ⟨(by simp only;omega),(by grind [mR]),ψ⟩ (by simp only;omega) ?_
   (repeat'(first|exact trivial|rfl|exact CG rfl (CG (X0 (C.s dH.own) (by simp[rI])) trivial)|refine CG ?_ ?_)))
 obtain rfl:k=m.d.length:=ω
 repeat'(first|refine gE ?_|fail)
 rw[om d,<-o,<-a];rfl
def tbl(h:ac):aN:=h.J.F.O
def gn(h:ac):Nat:=h.J.F.O.K.length
def z6(xs:List ay)(i:Nat):Bool:=decide (i=0\/(nth xs (i - 1)).Q<(nth xs i).Q)
def z7(xs:List aA)(i:Nat):Bool:=decide (i=0\/(nth xs (i - 1)).Q<(nth xs i).Q)
def zt(h:ac)(l:aA)(k:Nat):Bool:=decide ((b6 h (l.Q+(k:Nat))).length=1)
def sG(h:ac)(i:Nat):Bool:=z7 h.M i&&dv (nth h.M i).a3.toNat (zt h (nth h.M i))
def BD(h:ac)(p:Nat):Bool:=decide ((nth (tbl h).K p).o≠0↔(p:Int)∈pgs h.H h.M)&&(decide ((nth (tbl h).K p).o≠0) != h.b.any (FO (p:Nat)))
def pages0(h:ac):Bool:=((dv h.H.length (z6 h.H)&&dv h.M.length (sG h))&&(pgs h.H h.M).all λp=>decide (p<gn h))&&dv (gn h) (BD h)
def Hq(h:ac)(i:Nat)(q:Int):Bool:=decide (jm h q=(i:Nat)) || (decide (0<=jm h q)&&meshable (nth h.H i) (nth h.H (jm h q).toNat))
def Mb(h:ac):Bool:=dv h.H.length λi=>(b6 h (nth h.H i).Q).all (Hq h i)
def lT(h:ac)(i j:Nat):Bool:=decide ((ar (tbl h) (nth h.H i).Q).e≠(ar (tbl h) (nth h.H j).Q).e) || meshable (nth h.H i) (nth h.H j)
def nN(h:ac):Bool:=dv h.H.length λi=>dv i (lT h i)
def gy(z:Int)(o:bc):Bool:=decide (o.Id=z)
def ky(h:ac)(o:bc):Bool:=
 let w:=denotes h.H h.M o.Addr
 decide (w.c4=0)&&((decide (w.b1=1)&&decide ((nth h.H w.c2.toNat).Z=aV o.a2)) || (decide (w.b1=3)&&decide ((nth h.M w.c2.toNat).a2=o.a2)))
def gU(a:Int)(h:ac)(i:Nat):Bool:=decide ((i=0\/(nth h.R (i - 1)).Addr<(nth h.R i).Addr)/\1<=(nth h.R i).Id/\(nth h.R i).Id<=a/\0<=(nth h.R i).a0/\(nth h.R i).a0<=h.T.length - 1)
def objAt(a:Int)(h:ac)(i:Nat):Bool:=(gU a h i&&!(h.R.take i).any (gy (nth h.R i).Id))&&ky h (nth h.R i)
def gW(h:ac):Bool:=dv h.R.length (objAt (IntKind.i64.wrap (h.w - 1)) h)
def fm(h:ac)(a c:Int):Bool:=
 let w:=denotes h.H h.M a
 (decide (w.b1=1)&&decide (w.c4=0))&&(decide (c<0) || decide ((nth h.H w.c2.toNat).Z=c))
def vV(h:ac)(c:aE)(k:Nat):Bool:=(nth c.X k).all λa=>fm h a (k:Nat)
def gt(h:ac)(c:aE):Bool:=dv c.X.length (vV h c)
def jH(h:ac)(x:aO):Bool:=fm h x.Addr x.Z
def mZ(h:ac)(a:Int):Bool:=fm h a (-1)
def cy(h:ac):List Int:=h.T.flatMap λc=>c.X.flatten
def rE(h:ac):Bool:=((h.T.all (gt h))&&h.a5.a1.all (jH h))&&(aU h.u).all (mZ h)
def holders(h:ac):List Int:=((h.R.map (·.Addr)++cy h)++h.a5.a1.map (·.Addr))++aU h.u
def oN(sp:List ay)(la:List aA)(a:Nat):Bool:=
 let w:=denotes sp la (a:Nat)
 decide (w.c4=0)&&(decide (w.b1=1) || decide (w.b1=3))
def EQ(sp:List ay)(la:List aA)(n:Nat):List Int:=((List.range n).filter (oN sp la)).map λ(i:Nat)=>(i:Int)
def ll(sp:List ay)(la:List aA):List Int:=EQ sp la 512
def DN(h:ac):Bool:=(rE h&&decide (holders h).Nodup)&&decide ((holders h).length=(ll h.H h.M).length)
def pf(h:ac):Bool:=h.a5.a1.all λx=>decide (x.b2<=h.b0)
def dh(h:ac):Bool:=decide (0<=h.b5/\h.b5<=1073741823/\0<=h.b0/\h.b0<=1000000/\0<=h.c1/\h.c1<=1000/\1<=h.w/\h.w<=1000000)
def yk(h:ac):Bool:=if h.q then(kq h.y&&decide (0<=jm h h.y.Y.a8))&&decide (0<=jm h h.y.Y.a6) else wM h.y
def BQ(h:ac):Bool:=((aH h.J&&bC (gn h) h.b)&&bA h.H h.M)&&pages0 h
set_option maxHeartbeats 8000000
theorem dI(h:bA sp la=true):sp.all bg=true/\la.all co=true/\(pgs sp la).Nodup:=by grind [bA]
def PU[Inhabited α]{xs:List α}{p:α->Bool}(h:xs.all p=true)(a:i<xs.length):p (nth xs i)=true:=Z3.1 h _ (ax a)
variable{h:ac}
theorem LC(h1:dv h.H.length (z6 h.H)=false):pages0 h=false:=by grind [pages0]
theorem EZ(h1:dv h.M.length (sG h)=false):pages0 h=false:=by grind [pages0]
theorem LZ(h1:p∈pgs h.H h.M)(a:¬p<gn h):pages0 h=false:=by grind [pages0]
theorem MF(h1:dv (gn h) (BD h)=false):pages0 h=false:=by grind [pages0]
theorem Gn(h1:dv h.H.length (z6 h.H)=true)(a:dv h.M.length (sG h)=true)(b:∀p∈pgs h.H h.M,p<gn h)(c:dv (gn h) (BD h)=true):pages0 h=true:=by grind [pages0]
theorem QC(h1:z7 h.M i=false):sG h i=false:=by grind [sG]
theorem QK(a:k<(nth h.M i).a3.toNat)(h1:zt h (nth h.M i) k=false):sG h i=false:=by grind [dm,sG]
theorem M9(h1:z7 h.M i=true)(a:dv (nth h.M i).a3.toNat (zt h (nth h.M i))=true):sG h i=true:=by grind [sG]
def j7(h:ac)(p:Int):(b6 h p).length<=gn h:=by
 unfold b6;split
 ·simp
 exact qD ..
theorem zy(h:bA sp la=true){l:aA}(a:la[i]? = some l):1<=l.a3/\l.a3<=63/\0<=l.Q/\l.Q<=31:=
 aY (Z3.1 (dI h).2.1 l ψ)
set_option maxHeartbeats 8000000
def JN(h:z1=z2):Po (I z1) (I z2):=by subst h;rfl
theorem HH : z∈ins S p↔z∈S\/z=p:=by grind [ins]
theorem xU(S:List Int):(fw S).map (·.1)=S:=by unfold fw;rw[List.map_map];simp[C5]
theorem lS{t:aN}{p:Nat}(a:p<t.K.length):ar t (p:Nat)=nth t.K p:=by grind [ar]
theorem AI(h:ac)(G:eY h.H)(H:eI h.M)(d:FJ h)(J:ge h.b)(u:bA h.H h.M=true):zzA 77 false [.val (some 24) (ac.enc .U h)] .one [B (pages0 h&&nN h)]:=by
 have hl1:=G.1;have hl2:=H.1;have hl3:gn h<=1048576:=d.1;have hl4:=J.1;have b:pages0 h=false->[B false]=[B (pages0 h&&nN h)]:=ψ
 refine fO 177 [(4,14,[25,26,27,28,29,30,31,32,33,34,35,36,37,38]),(16,14,[60,61,62,63,64,65,66,67,68,69,70,71,72,73]),(28,18,[102,103,104,105,106,107,108,109,110,111,112,113,114,115,116,117,118,119]),(42,23,[152,153,154,155,156,157,158,159,160,161,162,163,164,165,166,167,168,169,170,171,172,173,174])] Tryz.func77 rfl ?_
 repeat'(first|refine gP ?_|fail)
 (conv=>whnf)
 refine CD (ι:=Nat) (λi=>[(1,.G .box (ac.enc .U h)),(18,.G .one (cj .U h.H)),(19,.G .one [I (h.H.length)]),(20,.G .one [I ((i:Nat):Int)])]) (λi=>i<=h.H.length/\dv i (z6 h.H)=true) (λi=>h.H.length - i) 0 ?_ ⟨W0 _,rfl⟩ λi g=>?_
 ·exact wB
 obtain⟨g,C⟩:=g;by_cases o:i<h.H.length
 ·have e:=au o
  repeat'(first|refine gE ?_|(conv=>whnf);first|with_reducible (first|refine CB (aa e) ?_|refine Bf.D (λa=>?_) (λa=>?_))|refine CL ω (aa (gV ω o)) ?_)
  all_goals first
   |exact b (LC (dm o (U0 ω)))
   | ((conv=>whnf);refine CC (i+1) ⟨ω,cK C (O0 ω)⟩ ω ?_;(exact wB))
 obtain rfl:i=h.H.length:=ω
 repeat'(first|refine gE ?_|fail)
 (conv=>whnf)
 refine CD (ι:=Nat × List Int) (λi=>[(1,.G .box (ac.enc .U h)),(5,.G .one [.m (fw i.2)]),(42,.G .one (cj .U h.H)),(43,.G .one [I (h.H.length)]),(44,.G .one [I ((i.1:Nat):Int)])]) (λi=>i.1<=h.H.length/\∀z,z∈i.2↔z∈(h.H.take i.1).map (·.Q)) (λi=>h.H.length - i.1) ((0,[])) ?_ ψ λi g=>?_
 ·exact wB
 obtain⟨i,S⟩:=i;obtain⟨K,Z⟩:=g;simp only at K Z |-;by_cases li2:i<h.H.length
 ·have e:=au li2
  repeat'(first|refine gE ?_|(conv=>whnf);first|with_reducible refine CB (aa e) ?_|refine Mu.mk (x4 S _) ?_)
  ((conv=>whnf);refine CC (i+1,ins S (nth h.H i).Q) ⟨(by simp only;omega),λz=>by grind [HH,t5]⟩ (by simp only;omega) ?_;(exact wB))
 obtain rfl:i=h.H.length:=ω
 rw[W4]at Z
 repeat'(first|refine gE ?_|fail)
 (conv=>whnf)
 refine CD (ι:=Nat × List Int) (λk=>[(1,.G .box (ac.enc .U h)),(5,.G .one [.m (fw k.2)]),(53,.G .one (cv .U h.M)),(54,.G .one [I (h.M.length)]),(55,.G .one [I ((k.1:Nat):Int)])]) (λk=>k.1<=h.M.length/\(∀z,z∈k.2↔z∈pgs h.H (h.M.take k.1))/\dv k.1 (sG h)=true) (λk=>h.M.length - k.1) ((0,S)) ?_ (⟨W0 _,λz=>by grind [pgs],rfl⟩) λk L=>?_
 ·exact wB
 obtain⟨k,S2⟩:=k;obtain⟨L,c,M⟩:=L;simp only at L c M |-;by_cases F:k<h.M.length
 ·have e:=au F
  have hpg:=zy u e
  repeat'(first|refine gE ?_|(conv=>whnf);first|with_reducible (first|refine CB (aa e) ?_|refine Bf.D (λa=>?_) (λa=>?_))|refine CL ω (aa (gV ω F)) ?_)
  all_goals first
   |exact b (EZ (dm F (QC (U0 ω))))
   |have l:z7 h.M k=true:=O0 ω
    (conv=>whnf)
    refine CD (ι:=Nat × List Int) (λq=>[(1,.G .box (ac.enc .U h)),(5,.G .one [.m (fw q.2)]),(9,.G .box (aA.enc .U (nth h.M k))),(10,.G .one [I ((nth h.M k).Q+(q.1:Nat))]),(53,.G .one (cv .U h.M)),(54,.G .one [I (h.M.length)]),(55,.G .one [I ((k:Nat):Int)])]) (λq=>q.1<=(nth h.M k).a3.toNat/\(∀z,z∈q.2↔z∈S2++lpgs (nth h.M k) q.1)/\dv q.1 (zt h (nth h.M k))=true) (λq=>(nth h.M k).a3.toNat - q.1) ((0,S2)) ?_ (⟨W0 _,λz=>by simp[lpgs],rfl⟩) λq a=>?_
    ·exact wB
    obtain⟨q,O⟩:=q;obtain⟨Q,n,R⟩:=a;simp only at Q n R |-;by_cases lq:q<(nth h.M k).a3.toNat
    ·have hfl:=j7 h ((nth h.M k).Q+(q:Nat))
     repeat'(first|refine gE ?_|(conv=>whnf);first|with_reducible refine Bf.N (λa=>?_) (λa=>?_)|refine C7 (jY h _ d) ?_|refine Mu.mk (x4 O _) ?_)
     all_goals first
      |exact b (EZ (dm F (QK lq (U0 ω))))
      | ((conv=>whnf)
         refine CC (q+1,ins O ((nth h.M k).Q+(q:Nat))) ⟨(by simp only;omega),λz=>by simp only[HH,n];rw[mD];simp[or_assoc],cK R (O0 ω)⟩ (by simp only;omega) ?_
         (repeat'(first|exact trivial|rfl|refine CG ?_ ?_|exact JN (by simp;omega))))
    obtain rfl:q=(nth h.M k).a3.toNat:=ω
    repeat'(first|refine gE ?_|fail)
    ((conv=>whnf);refine CC (k+1,O) ⟨(by simp only;omega),(λz=>by simp only[n];rw[r8 _ e];simp[c]),cK M (M9 l R)⟩ (by simp only;omega) ?_;(exact wB))
 obtain rfl:k=h.M.length:=ω
 rw[W4]at c
 repeat'(first|refine gE ?_|fail)
 (conv=>whnf)
 refine CD (ι:=Nat) (λp=>[(1,.G .box (ac.enc .U h)),(5,.G .one [.m (fw S2)]),(98,.G .one [I (gn h)]),(99,.G .one [I ((p:Nat):Int)])]) (λp=>p<=gn h/\dv p (BD h)=true) (λp=>gn h - p) 0 ?_ ⟨W0 _,rfl⟩ λp hp=>?_
 ·exact wB
 obtain⟨hp,ap⟩:=hp;by_cases lp:p<gn h
 ·have T:=zi h.b (p:Nat) ω
  have w:=ee h.J (p:Nat) d;rw[lS lp]at w
  repeat'(first|refine gE ?_|(conv=>whnf);first|with_reducible (first|refine Bf.D (λa=>?_) (λa=>?_)|refine Bf.NB (λa=>?_) (λa=>?_))|refine C7 w ?_|refine Ml.mk (mV (p:Nat) S2) ?_|refine C7 T ?_|refine Bf.P (λa=>?_) (λa=>?_))
  all_goals first
   |exact b (MF (dm lp (by unfold BD tbl;have:=c (p:Nat);grind)))
   | ((conv=>whnf);refine CC (p+1) ⟨ω,cK ap (by unfold BD tbl;have:=c (p:Nat);grind)⟩ ω ?_;(exact wB))
 obtain rfl:p=gn h:=ω
 repeat'(first|refine gE ?_|fail)
 have hpn:gn h=h.J.F.O.K.length:=rfl
 (conv=>whnf)
 refine CD (ι:=Option Int × List Int) (λt=>[(1,.G .box (ac.enc .U h)),(122,.G .one [.it t.1 t.2])]) (λt=>(∀z∈S2,z∈t.2\/z<gn h)/\∀z∈t.2,z∈S2) (λt=>t.2.length) ((none,(fw S2).map (·.1))) ?_ (⟨λz hz=>.inl (by grind [xU]),λz hz=>by grind [xU]⟩) λt ht=>?_
 ·exact wB
 obtain⟨cur,left⟩:=t;obtain⟨U,V⟩:=ht;simp only at U V |-
 repeat'(first|refine gP ?_|(conv=>whnf);first|with_reducible refine Bf.D (λa=>?_) (λa=>?_)|refine Nt.mk (λa=>?_) (λl1 k l2 a=>?_))
 rotate_left
 ·exact b (LZ (p:=k) ψ ω)
 ·((conv=>whnf);refine CC (some k,l1++l2) ψ (by subst left;simp) ?_;(exact wB))
 have y:∀p∈pgs h.H h.M,p<gn h:=ψ
 have h0:pages0 h=true:=Gn C M y ap;rw[h0,Bool.true_and]
 (conv=>whnf)
 refine CD (ι:=Nat) (λi=>[(1,.G .box (ac.enc .U h)),(136,.G .one (cj .U h.H)),(137,.G .one [I (h.H.length)]),(138,.G .one [I ((i:Nat):Int)])]) (λi=>i<=h.H.length/\dv i (λi=>dv i (lT h i))=true) (λi=>h.H.length - i) 0 ?_ ⟨W0 _,rfl⟩ λi g=>?_
 ·exact wB
 obtain⟨g,C⟩:=g;by_cases o:i<h.H.length
 ·have e:=au o
  have W:(h.H.take i).length=i:=ψ
  repeat'(first|refine gE ?_|(conv=>whnf);first|with_reducible refine CB (aa e) ?_|refine CS i rfl (by simp;omega) (λr T=>by obtain⟨z,-,rfl⟩:=z4.1 T;rfl) (t4 ..) ?_)
  (conv=>whnf)
  refine CD (ι:=Nat) (λj=>[(1,.G .box (ac.enc .U h)),(14,.G .box (ay.enc .U (nth h.H i))),(136,.G .one (cj .U h.H)),(137,.G .one [I (h.H.length)]),(138,.G .one [I ((i:Nat):Int)]),(146,.G .one (cj .U (h.H.take i))),(147,.G .one [I ((h.H.take i).length)]),(148,.G .one [I ((j:Nat):Int)])]) (λj=>j<=(h.H.take i).length/\dv j (lT h i)=true) (λj=>(h.H.take i).length - j) 0 ?_ ⟨W0 _,rfl⟩ λj hj=>?_
  ·exact wB
  obtain⟨hj,X⟩:=hj;by_cases lj:j<(h.H.take i).length
  ·have hy:=au lj
   have he:nth (h.H.take i) j=nth h.H j:=bD (by grind [au]);rw[he]at hy;have w:=lK (nth h.H i) (nth h.H j);cases Y:meshable (nth h.H i) (nth h.H j)<;>rw[Y]at w
   all_goals
    repeat'(first|refine gE ?_|(conv=>whnf);first|with_reducible (first|refine CB (aa hy) ?_|refine Bf.E (λa=>?_) (λa=>?_))|refine C7 (cJ (tbl h) _ d) ?_|refine C7 w ?_)
    all_goals first
     | exact X0 (λz=>[B z]) ((by symm;exact dm o (dm (i:=j) ω (by unfold lT;rw[Y];grind))))
     | ((conv=>whnf);refine CC (j+1) ⟨ω,cK X (by unfold lT;rw[Y];grind)⟩ ω ?_;(exact wB))
  obtain rfl:j=(h.H.take i).length:=ω
  rw[W]at X
  repeat'(first|refine gE ?_|fail)
  ((conv=>whnf);refine CC (i+1) ⟨ω,cK C X⟩ ω ?_;(exact wB))
 obtain rfl:i=h.H.length:=ω
 repeat'(first|refine gE ?_|fail)
 exact X0 (λz=>[B z]) ((by grind [nN]))
set_option maxHeartbeats 8000000
def ur[Inhabited α](pr:α->Bool)(xs:List α):cA pr xs = -1\/∃n,n<xs.length/\cA pr xs=(n:Nat)/\pr (nth xs n)=true:=by
 unfold cA;cases h:xs.findIdx? pr with
 | none=>exact .inl rfl
 | some i=>
  obtain⟨a,b,-⟩:=C6.1 h;exact .inr ⟨i,a,rfl,by rw[bD (O2 a)];exact b⟩
theorem qU(sp:List ay)(la:List aA)(a:Int):((denotes sp la a).b1=1->0<=(denotes sp la a).c2/\(denotes sp la a).c2.toNat<sp.length)/\((denotes sp la a).b1=3->0<=(denotes sp la a).c2/\(denotes sp la a).c2.toNat<la.length):=by grind [C6,denotes,ow]
theorem A2(h:ac)(o:bc)(w:jf)(a:denotes h.H h.M o.Addr=w):ky h o=(decide (w.c4=0)&&((decide (w.b1=1)&&decide ((nth h.H w.c2.toNat).Z=aV o.a2)) || (decide (w.b1=3)&&decide ((nth h.M w.c2.toNat).a2=o.a2)))):=by grind [ky]
def iR(a:i<h.R.length)(b:objAt (IntKind.i64.wrap (h.w - 1)) h i=false):gW h=false:=dm a b
theorem Jm(h1:gU a h i=false):objAt a h i=false:=by grind [objAt]
theorem Je(h1:(h.R.take i).any (gy (nth h.R i).Id)=true):objAt a h i=false:=by grind [objAt]
theorem Ja(h1:ky h (nth h.R i)=false):objAt a h i=false:=by grind [objAt]
theorem Ad(h1:gU a h i=true)(b:(h.R.take i).any (gy (nth h.R i).Id)=false)(c:ky h (nth h.R i)=true):objAt a h i=true:=by grind [objAt]
theorem Q1(h:ac)(l:eY h.H)(n:eI h.M)(g:bA h.H h.M=true)(K:h.R.length<=1048576)(L:h.T.length<=1048576)(H:∀o∈h.R,nI o.Addr):zzA 215 false [.val (some 24) (ac.enc .U h)] .one [B (gW h)]:=by
 refine fO 117 [(5,33,[21,22,23,24,25,26,27,28,29,30,31,32,33,34,35,36,37,38,39,40,41,42,43,44,45,46,47,48,49,50,51,52,53]),(10,9,[59,60,61,62,63,64,65,66,67]),(13,16,[75,76,77,78,79,80,81,82,83,84,85,86,87,88,89,90]),(14,15,[91,92,93,94,95,96,97,98,99,100,101,102,103,104,105])] Tryz.func215 rfl ?_
 repeat'(first|refine gP ?_|fail)
 (conv=>whnf)
 refine CD (ι:=Nat) (λi=>[(1,.G .box (ac.enc .U h)),(3,.G .one [I ((i:Nat):Int)])]) (λi=>i<=h.R.length/\dv i (objAt (IntKind.i64.wrap (h.w - 1)) h)=true) (λi=>h.R.length - i) 0 ?_ ⟨W0 _,rfl⟩ λi t=>?_
 ·exact wB
 obtain⟨t,u⟩:=t;by_cases e:i<h.R.length
 ·have y:=au e
  have C:=BK h.H h.M (nth h.R i).Addr l n g (H _ (ax e));obtain⟨p,q⟩:=qU h.H h.M (nth h.R i).Addr;have b:=A2 h (nth h.R i) _ rfl;generalize denotes h.H h.M (nth h.R i).Addr=w at C p q b;by_cases c:gU (IntKind.i64.wrap (h.w - 1)) h i=true
  ·have a:=c
   unfold gU at a;rw[C0]at a
   repeat'(first|refine gE ?_|(conv=>whnf);first|with_reducible (first|refine CB (aa y) ?_|refine Bf.D (λd=>?_) (λd=>?_))|refine CL ω (aa (gV ω e)) ?_|refine C7 (bj _ _ _) ?_|refine CH rfl ?_)
   all_goals
    (conv=>whnf)
    refine CD (ι:=Nat) (λk=>[(1,.G .box (ac.enc .U h)),(3,.G .one [I ((i:Nat):Int)]),(4,.G .box (bc.enc .U (nth h.R i))),(5,.G .one [I ((k:Nat):Int)])]) (λk=>k<=i/\(h.R.take k).any (gy (nth h.R i).Id)=false) (λk=>i - k) (0) ?_ (⟨W0 _,rfl⟩) λk F=>?_
    ·exact wB
    obtain⟨F,G⟩:=F;by_cases J:k<i
    ·have r:=au (xs:=h.R) (i:=k) ω
     repeat'(first|refine gE ?_|(conv=>whnf);first|with_reducible (first|refine CB (aa r) ?_|refine Bf.E (λd=>?_) (λd=>?_)))
     all_goals first
      | exact X0 (λz=>[B z]) ((iR e (Je (HR (i:=k) (by rw[List.getElem?_take_of_lt J];exact r) (O0 (by assumption))))).symm)
      | ((conv=>whnf);refine CC (k+1) ⟨ω,E7 r G (U0 (by assumption))⟩ ω ?_;(exact wB))
    obtain rfl:k=i:=ω
    repeat'(first|refine gE ?_|(conv=>whnf);first|with_reducible (first|refine Bf.D (λd=>?_) (λd=>?_)|refine Bf.E (λd=>?_) (λd=>?_)|refine Bf.N (λd=>?_) (λd=>?_))|refine C7 C ?_|refine CL (p (by assumption)).1 (aa (au (p (by assumption)).2)) ?_|refine CL (q (by assumption)).1 (aa (au (q (by assumption)).2)) ?_|refine C7 (BO _) ?_)
    all_goals first
     | exact X0 (λz=>[B z]) ((iR e (Ja (by rw[b];grind))).symm)
     | ((conv=>whnf);refine CC (k+1) ⟨ω,cK u (Ad c G (by rw[b];grind))⟩ ω ?_;(exact wB))
     |(exfalso;omega)
  have j:gU (IntKind.i64.wrap (h.w - 1)) h i=false:=by simpa using c
  have a:=j;unfold gU at a;rw[S4]at a
  repeat'(first|refine gE ?_|(conv=>whnf);first|with_reducible (first|refine CB (aa y) ?_|refine Bf.D (λd=>?_) (λd=>?_))|refine CL ω (aa (gV ω e)) ?_|refine C7 (bj _ _ _) ?_|refine CH rfl ?_)
  all_goals first
   | exact X0 (λz=>[B z]) ((iR e (Jm j)).symm)
   |(exfalso;omega)
 obtain rfl:i=h.R.length:=ω
 repeat'(first|refine gE ?_|fail)
 exact X0 (λz=>[B z]) ((show true=gW h from u.symm))
theorem pz(o a:bc):zzA 234 false [.val (some 4) (bc.enc .U o),.ptr (bc.enc .U a)] .one [B (gy a.Id o)]:=by
 refine fO 9 [] Tryz.func234 rfl ?_
 repeat'(first|refine gP ?_|fail)
 grind [gy]
theorem DU(h:ac)(n:eY h.H)(o:eI h.M)(J:h.R.length<=1048576)(K:h.T.length<=1048576):zzA 81 false [.val (some 24) (ac.enc .U h)] .one [B (gW h)]:=by
 refine fO 105 [(4,33,[16,17,18,19,20,21,22,23,24,25,26,27,28,29,30,31,32,33,34,35,36,37,38,39,40,41,42,43,44,45,46,47,48]),(9,16,[62,63,64,65,66,67,68,69,70,71,72,73,74,75,76,77]),(10,15,[78,79,80,81,82,83,84,85,86,87,88,89,90,91,92])] Tryz.func81 rfl ?_
 repeat'(first|refine gP ?_|fail)
 (conv=>whnf)
 refine CD (ι:=Nat) (λi=>[(1,.G .box (ac.enc .U h)),(9,.G .one (np .U h.R)),(10,.G .one [I (h.R.length)]),(11,.G .one [I ((i:Nat):Int)])]) (λi=>i<=h.R.length/\dv i (objAt (IntKind.i64.wrap (h.w - 1)) h)=true) (λi=>h.R.length - i) 0 ?_ ⟨W0 _,rfl⟩ λi F=>?_
 ·exact wB
 obtain⟨F,G⟩:=F;by_cases g:i<h.R.length
 ·have p:=au g
  have H:=kz h.H h.M (nth h.R i).Addr n o;obtain⟨q,t⟩:=qU h.H h.M (nth h.R i).Addr;have b:=A2 h (nth h.R i) _ rfl;generalize denotes h.H h.M (nth h.R i).Addr=w at H q t b;have j:=tC (h.R.take i) (gy (nth h.R i).Id) ψ;by_cases c:gU (IntKind.i64.wrap (h.w - 1)) h i=true
  ·have a:=c
   unfold gU at a;rw[C0]at a;cases d:(h.R.take i).any (gy (nth h.R i).Id)<;>rw[d]at j
   ·repeat'(first|refine gE ?_|(conv=>whnf);first|with_reducible (first|refine CB (aa p) ?_|refine Bf.D (λe=>?_) (λe=>?_)|refine Bf.E (λe=>?_) (λe=>?_)|refine Bf.N (λe=>?_) (λe=>?_))|refine CL ω (aa (gV ω g)) ?_|refine C7 (aF _ _ _) ?_|refine CS i rfl (by simp;omega) (λr u=>by obtain⟨z,-,rfl⟩:=z4.1 u;rfl) (t4 ..) ?_|refine Cq.mk (nB (some 4) (bc.enc .U) (gy (nth h.R i).Id) (h.R.take i)) (pz default (nth h.R i)).has (λL k rcs C=>by obtain⟨y,-,rfl,rfl,rfl⟩:=C;exact pz y (nth h.R i)) ?_|refine C7 j ?_|refine C7 H ?_|refine CL (q (by assumption)).1 (aa (au (q (by assumption)).2)) ?_|refine CL (t (by assumption)).1 (aa (au (t (by assumption)).2)) ?_|refine C7 (kE _) ?_|refine CH rfl ?_)
    all_goals first
     | exact X0 (λz=>[B z]) ((iR g (Ja (by rw[b];grind))).symm)
     | ((conv=>whnf);refine CC (i+1) ⟨ω,cK G (Ad c d (by rw[b];grind))⟩ ω ?_;(exact wB))
     |(exfalso;omega)
   repeat'(first|refine gE ?_|(conv=>whnf);first|with_reducible (first|refine CB (aa p) ?_|refine Bf.D (λe=>?_) (λe=>?_))|refine CL ω (aa (gV ω g)) ?_|refine C7 (aF _ _ _) ?_|refine CS i rfl (by simp;omega) (λr u=>by obtain⟨z,-,rfl⟩:=z4.1 u;rfl) (t4 ..) ?_|refine Cq.mk (nB (some 4) (bc.enc .U) (gy (nth h.R i).Id) (h.R.take i)) (pz default (nth h.R i)).has (λL k rcs C=>by obtain⟨y,-,rfl,rfl,rfl⟩:=C;exact pz y (nth h.R i)) ?_|refine C7 j ?_|refine CH rfl ?_)
   all_goals first
    | exact X0 (λz=>[B z]) ((iR g (Je d)).symm)
    |(exfalso;omega)
  have l:gU (IntKind.i64.wrap (h.w - 1)) h i=false:=by simpa using c
  have a:=l;unfold gU at a;rw[S4]at a
  repeat'(first|refine gE ?_|(conv=>whnf);first|with_reducible (first|refine CB (aa p) ?_|refine Bf.D (λe=>?_) (λe=>?_))|refine CL ω (aa (gV ω g)) ?_|refine C7 (aF _ _ _) ?_|refine CH rfl ?_)
  all_goals first
   | exact X0 (λz=>[B z]) ((iR g (Jm l)).symm)
   |(exfalso;omega)
 obtain rfl:i=h.R.length:=ω
 repeat'(first|refine gE ?_|fail)
 exact X0 (λz=>[B z]) ((show true=gW h from G.symm))
set_option maxHeartbeats 8000000
theorem wJ{w:jf}(a:denotes sp la (n:Nat)=w):oN sp la n=(decide (w.c4=0)&&(decide (w.b1=1) || decide (w.b1=3))):=by grind [oN]
theorem vL(m:aM)(a:m.d.length=m.S.length):∀i,i<=m.S.length->(((flight1 m i).length+(flight2 m i).length:Nat):Int)=bz m i
 | 0,_=>rfl
 | i+1,h=>by
  have d:=vL m a i ω;have b:=au (xs:=m.S) (i:=i) ω;have c:=au (xs:=m.d) (i:=i) ω;rw[mO b,mR c];simp only[O3,C1];show _=bz m i+((nth m.S i).length+(nth m.d i).length);omega
theorem AY(h:bT m=true):(aU m).length<=30:=by grind [vL,om,bT]
theorem Fa(a:h.T[i]? = some c):((h.T.take (i+1)).flatMap λc=>c.X.flatten)=((h.T.take i).flatMap λc=>c.X.flatten)++c.X.flatten:=by grind [t5]
theorem GB(a:c.X[k]? = some l):(c.X.take (k+1)).flatten=(c.X.take k).flatten++l:=by grind [t5]
set_option maxHeartbeats 8000000
def f9(h:ac):Bool:=(bT h.u&&decide (h.T.length=h.u.S.length))&&gm h.a5
def jL(h:ac):Bool:=((((((BQ h&&Mb h)&&f9 h)&&pf h)&&h.T.all bF)&&dh h)&&(gW h&&DN h))&&yk h
def sorted(xs:List Int):List Int:=xs.mergeSort λx y=>decide (x<=y)
theorem wP(xs:List Int):(sorted xs).length=xs.length:=List.length_mergeSort ..
theorem Gh{w a:World}{g:Nat}{d:Array Int}{h:Array Obj}{c:Array Value}{e:TypeId}{i:Nat × Nat}(j:w.heap[g]? = some (.cells c e i))(k:a=Sort.grow (Sort.putRow (Value.int .i64) (Sort.ahead w n) g 0 d) h) :
  a.os=w.os/\a.tape=w.tape/\a.output=w.output/\w.heap.size<=a.heap.size/\(∀b,b<w.heap.size->b≠g->a.heap[b]? = w.heap[b]?)/\a.heap[g]? = some (.cells (Sort.putCells (Value.int .i64) 0 d c) e i):=by
 subst k;have f:g<w.heap.size:=ψ
 have l:∀b,b<w.heap.size->(Sort.grow (Sort.putRow (Value.int .i64) (Sort.ahead w n) g 0 d) h).heap[b]? = if g=b then(w.heap[b]?).map (Sort.onCells (Sort.putCells (Value.int .i64) 0 d)) else w.heap[b]?:=λb o=>by grind [Go.Sort.heap_grow_old,Go.Sort.putRow,Go.Sort.mapBlock,Go.Sort.ahead]
 refine⟨rfl,rfl,rfl,?_,λb o p=>?_,?_⟩
 ·grind
 ·grind
 rw[l g f,CA rfl,j];rfl
theorem PB(d:Array Int)(c:Array Value)(q:Nat):(Sort.putCells (Value.int .i64) 0 d c)[q]? = if q<d.size then(c[q]?).map (λ_=>.int .i64 d[q]!) else c[q]?:=by grind [Go.Sort.putCells]
theorem row1{w:World}{S Y:af}{c:C}{v:Value}(h:dw w S Y c v):cC w S Y [c] (λ_=>v):=by
 refine⟨λ_=>Y,λj a b=>?_,λ_ _ _ _ h=>h,ψ⟩
 all_goals grind
def Tz(Y:af):Nat->af
 | 0=>Y
 | _+1=>NO
theorem Nk(xs:List Int)(a:j<xs.length):xs.toArray[j]! = xs[j]:=ψ
theorem PJ(xs:List Int)(hl:xs.length<=1048576*64):zzB 383 false [.mut none (aK .own xs)] [.mut none (aK .own (sorted xs))] (.tup []) []:=by
 refine⟨⟨_,Tryz.func383,by kernel_rfl,by kernel_rfl⟩,λw S V vs hS hV hVV N=>?_⟩
 match vs,N with
 | [v],⟨N,_⟩=>
  have t:=bv.rep1 (show bv w S (V 0) none [C.s .own (xs.map (rI .own))] v from N);generalize F:C.s .own (xs.map (rI .own))=cc at t;cases t with
  | nil _ o a ho=>
   cases hcc0:xs with
   | cons x xs'=>grind
   | nil=>
    refine(Tryz.slices_Sort_int_none a 0 w).mono λe p ⟨O,B⟩=>?_
    subst B;refine⟨.tuple #[],O,CU _ _,NO,λ_=>NO,NO,λ_ _ h=>h.elim,λ_ _ _ h=>h.elim,λ_ _ h=>h.elim,λ_ _ _ _ _ h=>h.elim,λ_ _ _ h=>h.elim,λ_ _ h=>h.elim,λ_ _ _ h=>h.elim,⟨#[],rfl,trivial,rfl⟩,cC.nil _ _ _ _,⟨⟨rfl,λ_=>.slice a 0 0,rfl,row1 (by rw[show sorted []=[] from List.mergeSort_nil ..];exact .nil _ .own _ trivial)⟩,trivial⟩⟩
  | own _ o g k n D rows u f ho hn hk G H hF hu hf hd hc=>
   cases F;have P:n=xs.length:=ψ
   have Q:0<xs.length:=ω
   have R:k=1:=by
    have:=hk (rI .own xs[0]) ψ;exact this.symm
   subst R P;have y:∀j (l:j<xs.length),cel w g j=some (.int .i64 xs[j]):=λj l=>by
    have h1:=hu j ω;have T:=hc j 0 (rI .own xs[j]) (I xs[j]) ψ rfl;rw[Nat.mul_one,Nat.add_zero]at T;rw[h1];generalize u j=z at T;cases T
    rfl
   have U:g<w.heap.size:=ψ
   obtain⟨c,e0,fr,hg,-⟩:=Sort.cells_of_cell? (y 0 Q);have hH:Sort.Holds (Value.int .i64) w g 0 xs.toArray:=λj l=>by
    have J:j<xs.length:=by simpa using l
    refine⟨?_,?_⟩
    ·rw[Nk xs J,Z5];exact y j J
    rw[Z5];exact X0 Prod.fst (hF j ω).2.2
   refine(Tryz.slices_Sort_int g 0 D xs w hH U ω).mono λe p ⟨O,m,os,B⟩=>?_
   obtain⟨q1,q2,q3,q4,q5,q6⟩:=Gh hg B;have hsl:=wP xs;have hcel:∀q,cel w g q=c[q]?:=λq=>by grind [Go.World.cell?]
   have W:∀q,cel p g q=if q<xs.length then(c[q]?).map (λ_=>.int .i64 (sorted xs).toArray[q]!) else c[q]?:=λq=>by grind [PB,Go.World.cell?,sorted]
   have d:∀q (X:q<xs.length),cel p g q=some (.int .i64 ((sorted xs)[q]'(ω))):=ψ
   have K:∀q,fro p g q=fro w g q:=λq=>by
    refine Prod.ext ?_ ?_
    ·grind [Go.World.frozen?]
    grind [mp,Go.Sort.putCells]
   have hother:∀b,b<w.heap.size->b≠g->∀o,cel p b o=cel w b o/\fro p b o=fro w b o:=λb hb L o=>by grind [Go.World.cell?,Go.World.frozen?,mp]
   have E:bw (λb o=>∃i,V i b o) w p:=by
    refine⟨q1,q2,q3,q4,ψ,λb o hb hn=>?_,λb o hb hn=>?_⟩
    all_goals grind
   refine⟨.tuple #[],O,E,NO,Tz (V 0),NO,λ_ _ h=>h.elim,λi b o h=>?_,λ_ _ h=>h.elim,λi i' L b o h h'=>?_,λ_ _ _ h=>h.elim,λ_ _ h=>h.elim,λ_ _ _ _ h=>h.elim,⟨#[],rfl,trivial,rfl⟩,cC.nil _ _ _ _,⟨⟨rfl,λ_=>.slice (some ⟨g,0,none⟩) xs.length D,rfl,row1 ?_⟩,trivial⟩⟩
   ·cases i with
    | zero=>exact .inl ⟨0,h⟩
    | succ i=>exact h.elim
   ·cases i with
    | zero=>
     cases i' with
     | zero=>exact L rfl
     | succ i'=>exact h'.elim
    | succ i=>exact h.elim
   show dw p _ (V 0) _ _;refine .own _ .own g 1 xs.length D _ (λq=>(cel p g q).getD undef) (λ_=>NO) trivial ψ (λr hr=>by obtain⟨z,-,rfl⟩:=z4.1 hr;rfl) G H (λq X=>?_) (λq X=>?_) (λ_ _ _ _ h=>h.elim) (λ_ _ _ _ _ _ _ h=>h.elim) (λi j r c2 M l=>?_)
   ·obtain⟨a1,⟨z,a2,a3⟩,a4⟩:=hF q X
    refine⟨a1,?_,(K q).trans a4⟩;by_cases Y:q<xs.length
    ·exact⟨_,d q Y,rfl⟩
    grind
   ·grind
   rw[I3]at M;have Z:i<(sorted xs).length:=ψ
   rw[O2 Z]at M;simp only[X4,Z0]at M;subst M
   match j,l with
   | 0,l=>
    simp only[rI,List.getElem?_cons_zero,Z0]at l;subst l;simp only[Nat.mul_one,Nat.add_zero,d i ω,Option.getD_some];exact .v _ _ rfl
   | j+1,l=>simp[rI]at l
  | _=>cases F
end Go.Proofs.YtiopgblagimpmaaGreat.Ab
