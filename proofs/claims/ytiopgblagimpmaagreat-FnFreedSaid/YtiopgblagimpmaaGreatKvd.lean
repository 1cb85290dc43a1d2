/- The data of the program, its cells, its bulk and its marks. Printed by gen_data.py. No condition. -/
import Derived.Test.YtiopgblagimpmaaGreatKvc
set_option linter.unusedVariables false
set_option linter.defProp false
set_option linter.unusedSimpArgs false
set_option linter.constructorNameAsVariable false
namespace Go.Proofs.YtiopgblagimpmaaGreat.Ab
open Go.RowKit
def aF(o:dJ)(x:List Int):List C:=[.s o (x.map (rI o))]
def eY(x:List Int):ef (aF .own x)=aF .V x:=by simp[ef,aF,rI,ef]
theorem bM(x:List Int):gW (aF .own x):=⟨⟨.inl ψ,aZ _ _ λy _=>o7 y⟩,trivial⟩
def jw(x:List Int):Prop:=x.length<=9223372036854775807/\∀y∈x,ni y
def sW(x:List Int):Prop:=x.length<=1048576
def jl(o:dJ)(x:List (List Int)):List C:=[.s o (x.map (aF o))]
def RO(x:List (List Int)):ef (jl .own x)=jl .V x:=by simp[ef,jl,eY,<-cw,Y5]
def DL(x:List (List Int)):Prop:=x.length<=9223372036854775807/\∀y∈x,jw y
def xb(x:List (List Int)):Prop:=x.length<=1048576/\∀y∈x,sW y
def BO(o:dJ)(x:List Bool):List C:=[.s o (x.map (rB o))]
def Qs(x:List Bool):Prop:=x.length<=9223372036854775807/\∀y∈x,TM y
def NA(x:List Bool):Prop:=x.length<=1048576
structure bf where
 U:List (List Int)
 a9:List Bool
deriving DecidableEq,Inhabited
def bf.enc(o:dJ)(x:bf):List C:=[.s o (x.U.map (aF o)),.s o (x.a9.map (rB o))]
def bf.enc_fz(x:bf):ef (bf.enc .own x)=bf.enc .V x:=by simp[ef,bf.enc,rB,eY,<-cw,Y5]
theorem bf.enc_fr(x:bf):gW (bf.enc .own x):=⟨⟨.inl ψ,aZ _ _ λy _=>bM y⟩,⟨.inl ψ,aZ _ _ λy _=>EB y⟩,trivial⟩
def bf.wf(x:bf):Prop:=DL x.U/\Qs x.a9
def bf.sml(x:bf):Prop:=xb x.U/\NA x.a9
structure bh where
 j:Int
 e:Int
deriving DecidableEq,Inhabited
def bh.enc(o:dJ)(x:bh):List C:=[I x.j,I x.e]
def bh.enc_fz(x:bh):ef (bh.enc .own x)=bh.enc .V x:=by simp[ef,bh.enc]
def bh.enc_fr(x:bh):gW (bh.enc .own x):=⟨trivial,trivial,trivial⟩
def bh.wf(x:bh):Prop:=ni x.j/\ni x.e
def bh.sml(_:bh):Prop:=True
def FK(o:dJ)(x:List bh):List C:=[.s o (x.map (bh.enc o))]
def Lc(x:List bh):Prop:=x.length<=9223372036854775807/\∀y∈x,bh.wf y
def HH(x:List bh):Prop:=x.length<=1048576/\∀y∈x,bh.sml y
structure aI where
 O:List bh
deriving DecidableEq,Inhabited
def aI.enc(o:dJ)(x:aI):List C:=[.s o (x.O.map (bh.enc o))]
def aI.enc_fz(x:aI):ef (aI.enc .own x)=aI.enc .V x:=by simp[ef,aI.enc,bh.enc_fz,<-cw,Y5]
def CZ:type_of% @aI.enc_fz:=@aI.enc_fz
theorem aI.enc_fr(x:aI):gW (aI.enc .own x):=⟨⟨.inl ψ,aZ _ _ λy _=>bh.enc_fr y⟩,trivial⟩
def aI.wf(x:aI):Prop:=Lc x.O
def aI.sml(x:aI):Prop:=HH x.O
structure aU where
 W:bf
 R:aI
deriving DecidableEq,Inhabited
def aU.enc(o:dJ)(x:aU):List C:=[.s o (x.W.U.map (aF o)),.s o (x.W.a9.map (rB o)),.s o (x.R.O.map (bh.enc o))]
def aU.enc_fz(x:aU):ef (aU.enc .own x)=aU.enc .V x:=by simp[ef,aU.enc,bh.enc_fz,rB,eY,<-cw,Y5]
theorem aU.enc_fr(x:aU):gW (aU.enc .own x):=⟨⟨.inl ψ,aZ _ _ λy _=>bM y⟩,⟨.inl ψ,aZ _ _ λy _=>EB y⟩,⟨.inl ψ,aZ _ _ λy _=>bh.enc_fr y⟩,trivial⟩
def aU.wf(x:aU):Prop:=bf.wf x.W/\aI.wf x.R
def aU.sml(x:aU):Prop:=bf.sml x.W/\aI.sml x.R
structure ah where
 F:aU
 Calls:Int
 a0:List Int
deriving DecidableEq,Inhabited
def ah.enc(o:dJ)(x:ah):List C:=[.s o (x.F.W.U.map (aF o)),.s o (x.F.W.a9.map (rB o)),.s o (x.F.R.O.map (bh.enc o)),I x.Calls,.s o (x.a0.map (rI o))]
def ah.enc_fz(x:ah):ef (ah.enc .own x)=ah.enc .V x:=by simp[ef,ah.enc,bh.enc_fz,rB,rI,eY,<-cw,Y5]
def CS:type_of% @ah.enc_fz:=@ah.enc_fz
theorem ah.enc_fr(x:ah):gW (ah.enc .own x):=⟨⟨.inl ψ,aZ _ _ λy _=>bM y⟩,⟨.inl ψ,aZ _ _ λy _=>EB y⟩,⟨.inl ψ,aZ _ _ λy _=>bh.enc_fr y⟩,trivial,⟨.inl ψ,aZ _ _ λy _=>o7 y⟩,trivial⟩
def ah.wf(x:ah):Prop:=aU.wf x.F/\ni x.Calls/\jw x.a0
def ah.sml(x:ah):Prop:=aU.sml x.F/\sW x.a0
structure a7 where
 At:Int
 b0:Int
deriving DecidableEq,Inhabited
def a7.enc(o:dJ)(x:a7):List C:=[I x.At,I x.b0]
def a7.enc_fz(x:a7):ef (a7.enc .own x)=a7.enc .V x:=by simp[ef,a7.enc]
def a7.enc_fr(x:a7):gW (a7.enc .own x):=⟨trivial,trivial,trivial⟩
def a7.wf(x:a7):Prop:=ni x.At/\ni x.b0
def a7.sml(_:a7):Prop:=True
def bB(o:dJ)(x:List a7):List C:=[.s o (x.map (a7.enc o))]
def dR(x:List a7):ef (bB .own x)=bB .V x:=by simp[ef,bB,a7.enc_fz,<-cw,Y5]
theorem mh(x:List a7):gW (bB .own x):=⟨⟨.inl ψ,aZ _ _ λy _=>a7.enc_fr y⟩,trivial⟩
def K5(x:List a7):Prop:=x.length<=9223372036854775807/\∀y∈x,a7.wf y
def gu(x:List a7):Prop:=x.length<=1048576/\∀y∈x,a7.sml y
structure ax where
 Q:Int
 d:Int
 b1:Int
deriving DecidableEq,Inhabited
def ax.enc(o:dJ)(x:ax):List C:=[I x.Q,I x.d,I x.b1]
def ax.enc_fz(x:ax):ef (ax.enc .own x)=ax.enc .V x:=by simp[ef,ax.enc]
def ax.enc_fr(x:ax):gW (ax.enc .own x):=⟨trivial,trivial,trivial,trivial⟩
def ax.wf(x:ax):Prop:=ni x.Q/\ni x.d/\ni x.b1
def ax.sml(_:ax):Prop:=True
def cq(o:dJ)(x:List ax):List C:=[.s o (x.map (ax.enc o))]
def eE(x:List ax):ef (cq .own x)=cq .V x:=by simp[ef,cq,ax.enc_fz,<-cw,Y5]
theorem GT(x:List ax):gW (cq .own x):=⟨⟨.inl ψ,aZ _ _ λy _=>ax.enc_fr y⟩,trivial⟩
def Mi(x:List ax):Prop:=x.length<=9223372036854775807/\∀y∈x,ax.wf y
def d6(x:List ax):Prop:=x.length<=1048576/\∀y∈x,ax.sml y
structure ay where
 Q:Int
 a2:Int
 o:Int
deriving DecidableEq,Inhabited
def ay.enc(o:dJ)(x:ay):List C:=[I x.Q,I x.a2,I x.o]
def ay.enc_fz(x:ay):ef (ay.enc .own x)=ay.enc .V x:=by simp[ef,ay.enc]
def ay.enc_fr(x:ay):gW (ay.enc .own x):=⟨trivial,trivial,trivial,trivial⟩
def ay.wf(x:ay):Prop:=ni x.Q/\ni x.a2/\ni x.o
def ay.sml(_:ay):Prop:=True
def bU(o:dJ)(x:List ay):List C:=[.s o (x.map (ay.enc o))]
def iE(x:List ay):ef (bU .own x)=bU .V x:=by simp[ef,bU,ay.enc_fz,<-cw,Y5]
def JW(x:List ay):Prop:=x.length<=9223372036854775807/\∀y∈x,ay.wf y
def dx(x:List ay):Prop:=x.length<=1048576/\∀y∈x,ay.sml y
structure aY where
 Id:Int
 Addr:Int
 o:Int
 a3:Int
deriving DecidableEq,Inhabited
def aY.enc(o:dJ)(x:aY):List C:=[I x.Id,I x.Addr,I x.o,I x.a3]
def aY.enc_fz(x:aY):ef (aY.enc .own x)=aY.enc .V x:=by simp[ef,aY.enc]
def aY.enc_fr(x:aY):gW (aY.enc .own x):=⟨trivial,trivial,trivial,trivial,trivial⟩
def aY.wf(x:aY):Prop:=ni x.Id/\ni x.Addr/\ni x.o/\ni x.a3
def aY.sml(_:aY):Prop:=True
def pG(o:dJ)(x:List aY):List C:=[.s o (x.map (aY.enc o))]
def La(x:List aY):ef (pG .own x)=pG .V x:=by simp[ef,pG,aY.enc_fz,<-cw,Y5]
def Qf(x:List aY):Prop:=x.length<=9223372036854775807/\∀y∈x,aY.wf y
def ML(x:List aY):Prop:=x.length<=1048576/\∀y∈x,aY.sml y
structure aB where
 a:List (List Int)
deriving DecidableEq,Inhabited
def aB.enc(o:dJ)(x:aB):List C:=[.s o (x.a.map (aF o))]
def aB.enc_fz(x:aB):ef (aB.enc .own x)=aB.enc .V x:=by simp[ef,aB.enc,eY,<-cw,Y5]
def Cg:type_of% @aB.enc_fz:=@aB.enc_fz
theorem aB.enc_fr(x:aB):gW (aB.enc .own x):=⟨⟨.inl ψ,aZ _ _ λy _=>bM y⟩,trivial⟩
def aB.wf(x:aB):Prop:=DL x.a
def aB.sml(x:aB):Prop:=xb x.a
def pm(o:dJ)(x:List aB):List C:=[.s o (x.map (aB.enc o))]
def Kn(x:List aB):Prop:=x.length<=9223372036854775807/\∀y∈x,aB.wf y
def GV(x:List aB):Prop:=x.length<=1048576/\∀y∈x,aB.sml y
structure de where
 To:Int
 Addr:Int
deriving DecidableEq,Inhabited
def de.enc(o:dJ)(x:de):List C:=[I x.To,I x.Addr]
def de.enc_fz(x:de):ef (de.enc .own x)=de.enc .V x:=by simp[ef,de.enc]
def de.enc_fr(x:de):gW (de.enc .own x):=⟨trivial,trivial,trivial⟩
def de.wf(x:de):Prop:=ni x.To/\ni x.Addr
def de.sml(_:de):Prop:=True
def cb(o:dJ)(x:List de):List C:=[.s o (x.map (de.enc o))]
def qM(x:List de):ef (cb .own x)=cb .V x:=by simp[ef,cb,de.enc_fz,<-cw,Y5]
theorem qO(x:List de):gW (cb .own x):=⟨⟨.inl ψ,aZ _ _ λy _=>de.enc_fr y⟩,trivial⟩
def Ny(x:List de):Prop:=x.length<=9223372036854775807/\∀y∈x,de.wf y
def Kj(x:List de):Prop:=x.length<=1048576/\∀y∈x,de.sml y
def yz(o:dJ)(x:List (List de)):List C:=[.s o (x.map (cb o))]
def Lg(x:List (List de)):Prop:=x.length<=9223372036854775807/\∀y∈x,Ny y
def HE(x:List (List de)):Prop:=x.length<=1048576/\∀y∈x,Kj y
structure aJ where
 T:List (List de)
 y:List (List Int)
deriving DecidableEq,Inhabited
def aJ.enc(o:dJ)(x:aJ):List C:=[.s o (x.T.map (cb o)),.s o (x.y.map (aF o))]
def aJ.enc_fz(x:aJ):ef (aJ.enc .own x)=aJ.enc .V x:=by simp[ef,aJ.enc,qM,eY,<-cw,Y5]
theorem aJ.enc_fr(x:aJ):gW (aJ.enc .own x):=⟨⟨.inl ψ,aZ _ _ λy _=>qO y⟩,⟨.inl ψ,aZ _ _ λy _=>bM y⟩,trivial⟩
def Cf:type_of% @aJ.enc_fr:=@aJ.enc_fr
def aJ.wf(x:aJ):Prop:=Lg x.T/\DL x.y
def aJ.sml(x:aJ):Prop:=HE x.T/\xb x.y
structure aO where
 Addr:Int
 d:Int
 b6:Int
deriving DecidableEq,Inhabited
def aO.enc(o:dJ)(x:aO):List C:=[I x.Addr,I x.d,I x.b6]
def aO.enc_fz(x:aO):ef (aO.enc .own x)=aO.enc .V x:=by simp[ef,aO.enc]
def aO.enc_fr(x:aO):gW (aO.enc .own x):=⟨trivial,trivial,trivial,trivial⟩
def aO.wf(x:aO):Prop:=ni x.Addr/\ni x.d/\ni x.b6
def aO.sml(_:aO):Prop:=True
def cB(o:dJ)(x:List aO):List C:=[.s o (x.map (aO.enc o))]
def F5(x:List aO):ef (cB .own x)=cB .V x:=by simp[ef,cB,aO.enc_fz,<-cw,Y5]
theorem oT(x:List aO):gW (cB .own x):=⟨⟨.inl ψ,aZ _ _ λy _=>aO.enc_fr y⟩,trivial⟩
def JU(x:List aO):Prop:=x.length<=9223372036854775807/\∀y∈x,aO.wf y
def ll(x:List aO):Prop:=x.length<=1048576/\∀y∈x,aO.sml y
structure b8 where
 c0:Int
 a1:List aO
deriving DecidableEq,Inhabited
def b8.enc(o:dJ)(x:b8):List C:=[I x.c0,.s o (x.a1.map (aO.enc o))]
def b8.enc_fz(x:b8):ef (b8.enc .own x)=b8.enc .V x:=by simp[ef,b8.enc,aO.enc_fz,<-cw,Y5]
theorem b8.enc_fr(x:b8):gW (b8.enc .own x):=⟨trivial,⟨.inl ψ,aZ _ _ λy _=>aO.enc_fr y⟩,trivial⟩
def b8.wf(x:b8):Prop:=ni x.c0/\JU x.a1
def b8.sml(x:b8):Prop:=ll x.a1
structure cC where
 a5:Int
 a4:Int
 U:List Int
deriving DecidableEq,Inhabited
def cC.enc(o:dJ)(x:cC):List C:=[I x.a5,I x.a4,.s o (x.U.map (rI o))]
def cC.enc_fz(x:cC):ef (cC.enc .own x)=cC.enc .V x:=by simp[ef,cC.enc,rI,<-cw,Y5]
theorem cC.enc_fr(x:cC):gW (cC.enc .own x):=⟨trivial,trivial,⟨.inl ψ,aZ _ _ λy _=>o7 y⟩,trivial⟩
def cC.wf(x:cC):Prop:=ni x.a5/\ni x.a4/\jw x.U
def cC.sml(x:cC):Prop:=sW x.U
structure cL where
 Y:cC
 b2:Int
 b:Int
deriving DecidableEq,Inhabited
def cL.enc(o:dJ)(x:cL):List C:=[I x.Y.a5,I x.Y.a4,.s o (x.Y.U.map (rI o)),I x.b2,I x.b]
def cL.enc_fz(x:cL):ef (cL.enc .own x)=cL.enc .V x:=by simp[ef,cL.enc,rI,<-cw,Y5]
theorem cL.enc_fr(x:cL):gW (cL.enc .own x):=⟨trivial,trivial,⟨.inl ψ,aZ _ _ λy _=>o7 y⟩,trivial,trivial,trivial⟩
def cL.wf(x:cL):Prop:=cC.wf x.Y/\ni x.b2/\ni x.b
def cL.sml(x:cL):Prop:=cC.sml x.Y
structure ab where
 G:ah
 q:List a7
 K:List ax
 J:List ay
 M:List aY
 S:List aB
 w:aJ
 a6:b8
 c1:Int
 b3:Int
 c4:Int
 b:Int
 u:Bool
 Z:cL
deriving DecidableEq,Inhabited
def ab.enc(o:dJ)(x:ab):List C:=[.s o (x.G.F.W.U.map (aF o)),.s o (x.G.F.W.a9.map (rB o)),.s o (x.G.F.R.O.map (bh.enc o)),I x.G.Calls,.s o (x.G.a0.map (rI o)),.s o (x.q.map (a7.enc o)),.s o (x.K.map (ax.enc o)),.s o (x.J.map (ay.enc o)),.s o (x.M.map (aY.enc o)),.s o (x.S.map (aB.enc o)),.s o (x.w.T.map (cb o)),.s o (x.w.y.map (aF o)),I x.a6.c0,.s o (x.a6.a1.map (aO.enc o)),I x.c1,I x.b3,I x.c4,I x.b,B x.u,I x.Z.Y.a5,I x.Z.Y.a4,.s o (x.Z.Y.U.map (rI o)),I x.Z.b2,I x.Z.b]
def ab.enc_fz(x:ab):ef (ab.enc .own x)=ab.enc .V x:=by simp[ef,ab.enc,Cg,bh.enc_fz,ay.enc_fz,aY.enc_fz,a7.enc_fz,ax.enc_fz,aO.enc_fz,rB,qM,rI,eY,<-cw,Y5]
theorem ab.enc_fr(x:ab):gW (ab.enc .own x):=⟨⟨.inl ψ,aZ _ _ λy _=>bM y⟩,⟨.inl ψ,aZ _ _ λy _=>EB y⟩,⟨.inl ψ,aZ _ _ λy _=>bh.enc_fr y⟩,trivial,⟨.inl ψ,aZ _ _ λy _=>o7 y⟩,⟨.inl ψ,aZ _ _ λy _=>a7.enc_fr y⟩,⟨.inl ψ,aZ _ _ λy _=>ax.enc_fr y⟩,⟨.inl ψ,aZ _ _ λy _=>ay.enc_fr y⟩,⟨.inl ψ,aZ _ _ λy _=>aY.enc_fr y⟩,⟨.inl ψ,aZ _ _ λy _=>aB.enc_fr y⟩,⟨.inl ψ,aZ _ _ λy _=>qO y⟩,⟨.inl ψ,aZ _ _ λy _=>bM y⟩,trivial,⟨.inl ψ,aZ _ _ λy _=>aO.enc_fr y⟩,trivial,trivial,trivial,trivial,trivial,trivial,trivial,⟨.inl ψ,aZ _ _ λy _=>o7 y⟩,trivial,trivial,trivial⟩
def ab.wf(x:ab):Prop:=ah.wf x.G/\K5 x.q/\Mi x.K/\JW x.J/\Qf x.M/\Kn x.S/\aJ.wf x.w/\b8.wf x.a6/\ni x.c1/\ni x.b3/\ni x.c4/\ni x.b/\TM x.u/\cL.wf x.Z
def ab.sml(x:ab):Prop:=ah.sml x.G/\gu x.q/\d6 x.K/\dx x.J/\ML x.M/\GV x.S/\aJ.sml x.w/\b8.sml x.a6/\cL.sml x.Z
structure iv where
 b5:Int
 c6:Int
 c8:Int
 c5:Int
deriving DecidableEq,Inhabited
def iv.enc(o:dJ)(x:iv):List C:=[I x.b5,I x.c6,I x.c8,I x.c5]
def iv.enc_fr(x:iv):gW (iv.enc .own x):=⟨trivial,trivial,trivial,trivial,trivial⟩
structure TO where
 Id:Int
 o:Int
 Sum:Int
deriving DecidableEq,Inhabited
structure bD where
 Id:Int
 U:List Int
deriving DecidableEq,Inhabited
def bD.enc(o:dJ)(x:bD):List C:=[I x.Id,.s o (x.U.map (rI o))]
def bD.enc_fz(x:bD):ef (bD.enc .own x)=bD.enc .V x:=by simp[ef,bD.enc,rI,<-cw,Y5]
theorem bD.enc_fr(x:bD):gW (bD.enc .own x):=⟨trivial,⟨.inl ψ,aZ _ _ λy _=>o7 y⟩,trivial⟩
def bD.sml(x:bD):Prop:=sW x.U
def Gs(x:List bD):Prop:=x.length<=1048576/\∀y∈x,bD.sml y
structure a8 where
 b:Int
 M:List bD
deriving DecidableEq,Inhabited
def a8.enc(o:dJ)(x:a8):List C:=[I x.b,.s o (x.M.map (bD.enc o))]
def a8.enc_fz(x:a8):ef (a8.enc .own x)=a8.enc .V x:=by simp[ef,a8.enc,bD.enc_fz,<-cw,Y5]
def Ci:type_of% @a8.enc_fz:=@a8.enc_fz
theorem a8.enc_fr(x:a8):gW (a8.enc .own x):=⟨trivial,⟨.inl ψ,aZ _ _ λy _=>bD.enc_fr y⟩,trivial⟩
def a8.sml(x:a8):Prop:=Gs x.M
structure bo where
 X:ab
 b7:a8
deriving DecidableEq,Inhabited
def bo.enc(o:dJ)(x:bo):List C:=[.s o (x.X.G.F.W.U.map (aF o)),.s o (x.X.G.F.W.a9.map (rB o)),.s o (x.X.G.F.R.O.map (bh.enc o)),I x.X.G.Calls,.s o (x.X.G.a0.map (rI o)),.s o (x.X.q.map (a7.enc o)),.s o (x.X.K.map (ax.enc o)),.s o (x.X.J.map (ay.enc o)),.s o (x.X.M.map (aY.enc o)),.s o (x.X.S.map (aB.enc o)),.s o (x.X.w.T.map (cb o)),.s o (x.X.w.y.map (aF o)),I x.X.a6.c0,.s o (x.X.a6.a1.map (aO.enc o)),I x.X.c1,I x.X.b3,I x.X.c4,I x.X.b,B x.X.u,I x.X.Z.Y.a5,I x.X.Z.Y.a4,.s o (x.X.Z.Y.U.map (rI o)),I x.X.Z.b2,I x.X.Z.b,I x.b7.b,.s o (x.b7.M.map (bD.enc o))]
theorem bo.enc_fr(x:bo):gW (bo.enc .own x):=⟨⟨.inl ψ,aZ _ _ λy _=>bM y⟩,⟨.inl ψ,aZ _ _ λy _=>EB y⟩,⟨.inl ψ,aZ _ _ λy _=>bh.enc_fr y⟩,trivial,⟨.inl ψ,aZ _ _ λy _=>o7 y⟩,⟨.inl ψ,aZ _ _ λy _=>a7.enc_fr y⟩,⟨.inl ψ,aZ _ _ λy _=>ax.enc_fr y⟩,⟨.inl ψ,aZ _ _ λy _=>ay.enc_fr y⟩,⟨.inl ψ,aZ _ _ λy _=>aY.enc_fr y⟩,⟨.inl ψ,aZ _ _ λy _=>aB.enc_fr y⟩,⟨.inl ψ,aZ _ _ λy _=>qO y⟩,⟨.inl ψ,aZ _ _ λy _=>bM y⟩,trivial,⟨.inl ψ,aZ _ _ λy _=>aO.enc_fr y⟩,trivial,trivial,trivial,trivial,trivial,trivial,trivial,⟨.inl ψ,aZ _ _ λy _=>o7 y⟩,trivial,trivial,trivial,⟨.inl ψ,aZ _ _ λy _=>bD.enc_fr y⟩,trivial⟩
structure RU where
 a2:Int
 Mapped:Int
 W:Int
 Held:Int
 mU:Int
 Cached:Int
 c2:Int
 Posted:Int
deriving DecidableEq,Inhabited
variable{α:Type}
def Lm{β:Type}{f:α->β}{l:List α}{K:Nat->Prop}(h:K l.length):Ln (l.map f).length K:=Ln.mk (C1 ..) h
variable{z:Int}
def Wm{K:Int->Prop}(h : -9223372036854775808<=z/\z<=9223372036854775807)(a:K z):Wr .i64 z K:=CM (fo h.1 h.2) a
variable{X Y:Prop}
def dT{p:Prop}[Decidable p](h:p)(a:p->X):Bf (decide p) X Y:=.D a λe=>absurd h e
def dF{p:Prop}[Decidable p](h:¬p)(a:¬p->Y):Bf (decide p) X Y:=.D (λe=>absurd e h) a
variable{a b:Int}
def nT(h:a≠b)(c:a≠b->X):Bf (a != b) X Y:=.N c λe=>absurd e h
def nF(h:a=b)(c:a=b->Y):Bf (a != b) X Y:=.N (λe=>absurd h e) c
def eT(h:a=b)(c:a=b->X):Bf (a == b) X Y:=.E c λe=>absurd h e
def eF(h:a≠b)(c:a≠b->Y):Bf (a == b) X Y:=.E (λe=>absurd e h) c
def Bn{b:Bool}(h:Bf b Y X):Bf (!b) X Y:=.not h
def Bt(h:X):Bf true X Y:=.t rfl h
def Bu(h:Y):Bf false X Y:=.f rfl h
def Fm{k b:Kd}{cs a:List C}(h1:k=b)(h:cs=a):jU k b cs a:=.mk h1 h
def dV{p:Prop}[Decidable p](h:p)(a:X):Bf (decide p) X Y:=.D (λ_=>a) λe=>absurd h e
def dW{p:Prop}[Decidable p](h:¬p)(a:Y):Bf (decide p) X Y:=.D (λe=>absurd e h) λ_=>a
def nV(h:a≠b)(c:X):Bf (a != b) X Y:=.N (λ_=>c) λe=>absurd e h
def nW(h:a=b)(c:Y):Bf (a != b) X Y:=.N (λe=>absurd h e) λ_=>c
def eV(h:a=b)(c:X):Bf (a == b) X Y:=.E (λ_=>c) λe=>absurd h e
def eW(h:a≠b)(c:Y):Bf (a == b) X Y:=.E (λe=>absurd e h) λ_=>c
structure Ke(Y:Prop):Prop where
 out:Y
def gO(y:Y)(h:Ke Y->X:=by intro y;(conv=>whnf);(first|with_reducible (first|refine Lm ?_|refine Wm ω ?_|refine Bn ?_|refine Fm rfl ?_)|refine Bt ?_|refine Bu ?_|fail);exact y.out):X:=h ⟨y⟩
def gP(y:Y)(h:Ke Y->X:=by intro y;(conv=>whnf);(first|with_reducible (first|refine Lm ?_|refine Wm ω ?_|refine Bn ?_|refine Fm rfl ?_)|refine Bt ?_|refine Bu ?_|refine C8 (by assumption) ?_|refine CD (aa (by assumption)) ?_|refine CH rfl (aa (by assumption)) rfl ?_|refine CB ?_|fail);exact y.out):X:=h ⟨y⟩
def gD(y:Y)(h:Ke Y->X:=by intro y;(conv=>whnf);(first|with_reducible (first|refine Lm ?_|refine Wm ω ?_|refine dV ω ?_|refine dW ω ?_|refine Bn ?_|refine Fm rfl ?_)|refine Bt ?_|refine Bu ?_|fail);exact y.out):X:=h ⟨y⟩
def gE(y:Y)(h:Ke Y->X:=by intro y;(conv=>whnf);(first|with_reducible (first|refine Lm ?_|refine Wm ω ?_|refine dV ω ?_|refine dW ω ?_|refine Bn ?_|refine Fm rfl ?_)|refine Bt ?_|refine Bu ?_|refine C8 (by assumption) ?_|refine CD (aa (by assumption)) ?_|refine CH rfl (aa (by assumption)) rfl ?_|refine CB ?_|fail);exact y.out):X:=h ⟨y⟩
def gA(y:Y)(h:Ke Y->X:=by intro y;(conv=>whnf);(first|with_reducible (first|refine Lm ?_|refine Wm ω ?_|refine dV ω ?_|refine dW ω ?_|refine nV ω ?_|refine nW ω ?_|refine eV ω ?_|refine eW ω ?_|refine Bn ?_|refine Fm rfl ?_)|refine Bt ?_|refine Bu ?_|fail);exact y.out):X:=h ⟨y⟩
def gB(y:Y)(h:Ke Y->X:=by intro y;(conv=>whnf);(first|with_reducible (first|refine Lm ?_|refine Wm ω ?_|refine dV ω ?_|refine dW ω ?_|refine nV ω ?_|refine nW ω ?_|refine eV ω ?_|refine eW ω ?_|refine Bn ?_|refine Fm rfl ?_)|refine Bt ?_|refine Bu ?_|refine C8 (by assumption) ?_|refine CD (aa (by assumption)) ?_|refine CH rfl (aa (by assumption)) rfl ?_|refine CB ?_|fail);exact y.out):X:=h ⟨y⟩
variable{z1 z2:Int}
def Tw(h:z1=z2):P4 (I z1) (I z2):=by subst h;rfl
def T4(c:C):P4 c c:=(ly [c]).1
def wA(h:X:=by repeat'(first|exact trivial|rfl|refine CL ?_ ?_)):X:=h
def wB(h:X:=by repeat'(first|exact trivial|rfl|refine CL ?_ ?_|(exact Tw (by first|omega|(simp only;omega)|(simp;omega))))):X:=h
def wC(h:X:=by repeat'(first|exact trivial|rfl|exact T4 _|refine CL ?_ ?_|(exact Tw (by first|omega|(simp only;omega)|(simp;omega))))):X:=h
variable{rcs: List C}{sh: Bool}{c: Code}{f: Nat}
def fO(n : Nat){a : Func}{A : List RA}{k : Kd}(tb : List (Nat × Nat × List Nat))(d : Tryz.prog.funcs[f]? = some a)(e : a.body = some c)(g : aw Tryz.prog TE ⟨n, [], []⟩ (DF Tryz.prog TE ⟨n, [], []⟩ tb) c (PD TE a.results.toList k rcs) (lay (vN 0 A)))(b : sh = true \/ gW rcs := by exact .inr ⟨trivial, trivial⟩)(h : (a.name == "runtime.NumGoroutine") = false := by kernel_rfl)(i : ge (od tb) c = true := by kernel_rfl)(j : A.length + (a.ntmps - A.length) = n := by rfl) : zzA f sh A k rcs := Tl d h e i j b g
def fP(n : Nat){a : Func}{A : List RA}{k : Kd}(mo : List (Nat × List Nat))(tb : List (Nat × Nat × List Nat))(d : Tryz.prog.funcs[f]? = some a)(e : a.body = some c)(g : aw Tryz.prog TE ⟨n, [], mo⟩ (DF Tryz.prog TE ⟨n, [], mo⟩ tb) c (PD TE a.results.toList k rcs) (lay (vN 0 A)))(b : sh = true \/ gW rcs := by exact .inr ⟨trivial, trivial⟩)(h : (a.name == "runtime.NumGoroutine") = false := by kernel_rfl)(i : ge (od tb) c = true := by kernel_rfl)(j : A.length + (a.ntmps - A.length) = n := by rfl) : zzA f sh A k rcs := Tl d h e i j b g
def fM(n : Nat){a : Func}{A B : List MA}{k : Kd}(mo : List (Nat × List Nat))(tb : List (Nat × Nat × List Nat))(b : List (Nat × Nat))(g : Tryz.prog.funcs[f]? = some a)(h : a.body = some c)(i : ∀(u : Nat -> Nat -> Value)(p : Nat -> Value), aw Tryz.prog TE ⟨n, HM p 0 A, mo⟩ (DF Tryz.prog TE ⟨n, HM p 0 A, mo⟩ tb) c (R8 TE a.results.toList k rcs u A B b) (lay (wy u 0 A)))(d : sh = true \/ gW rcs := by exact .inr ⟨trivial, trivial⟩)(j : (a.name == "runtime.NumGoroutine") = false := by kernel_rfl)(l : ge (od tb) c = true := by kernel_rfl)(o : A.length + (a.ntmps - A.length) = n := by rfl)(e : GP (E7 0 A b) = true := by rfl) : zzB f sh A B k rcs := RX b g j h l o e d i
section
variable{α:Type}{l:List α}{p:α->Bool}{i:Nat}{x:α}
theorem db(h:l[i]? = some x)(a:(l.take i).all p=true)(b:p x=true):(l.take (i+1)).all p=true:=by grind [V5]
theorem gp(h:l[i]? = some x)(a:p x=false):l.all p=false:=ψ
theorem nE(a:l.length<=i)(b:(l.take i).all p=true):l.all p=true:=by grind [I7]
end
variable{i:Nat}
theorem vT{β:Type}{a:List α}{b:List β}{x:α}{y:β}(h1:a[i]? = some x)(c:b[i]? = some y):(a.zip b)[i]? = some (x,y):=ψ
def nth[Inhabited α](xs:List α)(i:Nat):α:=xs.getD i default
theorem ao[Inhabited α]{xs:List α}(h:i<xs.length):xs[i]? = some (nth xs i):=by grind [nth]
theorem bg[Inhabited α]{xs:List α}{y:α}(h:xs[i]? = some y):nth xs i=y:=by grind [nth]
theorem am[Inhabited α]{xs:List α}(h:i<xs.length):nth xs i∈xs:=C2 (ao h)
def dn(n:Nat)(p:Nat->Bool):Bool:=(List.range n).all p
variable{n:Nat}
theorem cF{p:Nat->Bool} : dn n p=true↔∀j,j<n->p j=true:=by
 unfold dn;simp
theorem bQ{p:Nat->Bool}(h:dn n p=true)(a:p n=true):dn (n+1) p=true:=by grind [cF]
theorem cI{p:Nat->Bool}(a:i<n)(b:p i=false):dn n p=false:=by grind [cF]
theorem eZ{p:Nat->Bool}(h:dn n p=true)(a:i<n):p i=true:=cF.1 h i a
def iB(u:Bool)(v:Int):Bool:=decide (0<=v/\v<=999)&&(u || decide (v=0))
def gQ(r:List Int)(u:Bool):Bool:=decide (r.length=16)&&r.all (iB u)
def d9(f:bf):Bool:=decide (1<=f.U.length/\f.U.length<=32)&&(decide (f.a9.length=f.U.length)&&(f.U.zip f.a9).all λq=>gQ q.1 q.2)
def i7{f:bf}{r:List Int}{u:Bool}(h1:f.U[i]? = some r)(a:f.a9[i]? = some u)(b:gQ r u=false):d9 f=false:=by
 unfold d9;rw[gp (p:=λq=>gQ q.1 q.2) (vT h1 a) b];simp
variable{k:Nat}
theorem rN{r:List Int}{u:Bool}{v:Int}(h1:r[k]? = some v)(a:iB u v=false):gQ r u=false:=by grind [gQ]
theorem Du{f:bf}(h:d9 f=true):1<=f.U.length/\f.U.length<=32/\f.a9.length=f.U.length:=by grind [d9]
def kF(a:Int)(e:bh):Bool:=decide (0<=e.j/\e.j<=2/\(e.j=0->e.e=0)/\(e.j≠0->0<=e.e/\e.e<a))
def gg(t:aI)(a:Int):Bool:=dn t.O.length (λi=>kF a (nth t.O i))&&decide (1<=t.O.length/\t.O.length<=32)
def LT(t:aI)(f:Int)(i:Nat):Bool:=decide ((nth t.O i).j≠0/\(nth t.O i).e=f)
def jP(t:aI)(f:Int)(n:Nat):List Int:=((List.range n).filter (LT t f)).map λ(i:Nat)=>(i:Int)
def pagesOn(t:aI)(f:Int):List Int:=jP t f t.O.length
theorem AI{t:aI}{f:Int}(h:LT t f n=true):jP t f (n+1)=jP t f n++[(n:Int)]:=by grind [List.range_succ,jP]
theorem Gi{t:aI}{f:Int}(h:LT t f n=false):jP t f (n+1)=jP t f n:=by grind [List.range_succ,jP]
theorem u5(t:aI)(f:Int)(n:Nat):(jP t f n).length<=n:=by grind [jP]
def ac(t:aI)(p:Int):bh:=if 0<=p/\p<t.O.length then nth t.O p.toNat else⟨0,0⟩
def oR(m:aU)(i:Nat):Bool:=nth m.W.a9 i == decide (0<(pagesOn m.R (i:Int)).length)
def dD(m:aU):Bool:=(d9 m.W&&gg m.R m.W.a9.length)&&dn m.W.a9.length (oR m)
def aA(k:ah):Bool:=(dn k.a0.length (λi=>decide (0<=nth k.a0 i))&&dD k.F)&&decide (0<=k.Calls/\k.Calls<=100000/\k.a0.length<=40)
def rangeIn(pages:Int)(r:a7):Bool:=decide (1<=r.b0/\r.b0<=pages/\0<=r.At/\r.At<=pages - r.b0)
def gh(pages:Int)(xs:List a7)(i:Nat):Bool:=rangeIn pages (nth xs i)&&decide (i=0\/(nth xs (i - 1)).At+(nth xs (i - 1)).b0<(nth xs i).At)
def bC(pages:Int)(xs:List a7):Bool:=dn xs.length (gh pages xs)&&decide (1<=pages/\pages<=32)
def vH(page:Int)(r:a7):Bool:=decide (r.At<=page)&&decide (page<IntKind.i64.wrap (r.At+r.b0))
def lim(k:Int):Int:=if k=0 then 65535 else if k=1 then 255 else if k=2 then 15 else if k=3 then 3 else 0
def slots(k:Int):Int:=if k=0 then 16 else if k=1 then 8 else if k=2 then 4 else if k=3 then 2 else 0
def bi(s:ax):Bool:=decide (0<=s.Q/\s.Q<=31/\0<=s.d/\s.d<=3/\0<=s.b1/\s.b1<=lim s.d)
def fG(n:Int):Int:=if 9<=n/\n<=1000 then(n+15) / 16 else 0
def bH(l:ay):Bool:=decide (9<=l.o/\l.o<=1000/\l.a2=(l.o+15) / 16/\0<=l.Q/\l.Q<=32 - l.a2)
def lpgs(l:ay)(n:Nat):List Int:=(List.range n).map λ(i:Nat)=>l.Q+i
def pgs(sp:List ax)(la:List ay):List Int:=sp.map (·.Q)++la.flatMap λl=>lpgs l l.a2.toNat
def bk(sp:List ax)(la:List ay):Bool:=(sp.all bi&&la.all bH)&&decide (pgs sp la).Nodup
def cW(s:ax)(a:Int):Bool:=bi s&&decide (16*s.Q<=a/\a<=16*s.Q+15)
def aW(b i:Int):Bool:=decide (0<=b/\0<=i/\i<=15/\b / 2 ^ i.toNat % 2=1)
def bp(l:ay)(a:Int):Bool:=bH l&&decide (16*l.Q<=a/\a<=16*l.Q+l.o - 1)
def csz(k:Int):Int:=if 0<=k/\k<=3 then 2 ^ k.toNat else 0
def iV(s:ax)(a:Int):Int × Int:=if cW s a then((a - 16*s.Q) / csz s.d,(a - 16*s.Q) % csz s.d) else(-1,-1)
def nX(i:Nat)(s:ax)(a:Int):iv:=⟨if aW s.b1 ((a - 16*s.Q) / csz s.d) then 1 else 2,i,(a - 16*s.Q) / csz s.d,(a - 16*s.Q) % csz s.d⟩
def denotes(sp:List ax)(la:List ay)(a:Int):iv:=
 match sp.findIdx? (cW · a) with
 | some i=>nX i (nth sp i) a
 | none=>match la.findIdx? (bp · a) with
  | some i=>⟨3,i,0,a - 16*(nth la i).Q⟩
  | none=>⟨0,0,0,0⟩
theorem wb{pr:α->Bool}{xs:List α}{y:α}(a:xs[i]? = some y)(b:pr y=true)(c:∀(j:Nat)(z:α),j<i->xs[j]? = some z->pr z=false):xs.findIdx? pr=some i:=by grind [C7]
theorem Di{pr:α->Bool}{xs:List α}(a:xs.length<=i)(b:∀(j:Nat)(z:α),j<i->xs[j]? = some z->pr z=false):xs.findIdx? pr=none:=
 List.findIdx?_eq_none_iff.2 λz c=>by grind [List.mem_iff_getElem?]
theorem gw{pr:α->Bool}{xs:List α}{y:α}(a:xs[i]? = some y)(b:pr y=false)(c:∀(j:Nat)(z:α),j<i->xs[j]? = some z->pr z=false):∀(j:Nat)(z:α),j<i+1->xs[j]? = some z->pr z=false:=ψ
def dd(pr:α->Bool)(xs:List α):Int:=match xs.findIdx? pr with|some i=>(i:Nat)|none=>-1
theorem dP{pr:α->Bool}{xs:List α}{y:α}(a:xs[i]? = some y)(b:pr y=true)(c:∀(j:Nat)(z:α),j<i->xs[j]? = some z->pr z=false):dd pr xs=(i:Nat):=by
 unfold dd;rw[wb a b c]
theorem g9{pr:α->Bool}{xs:List α}(a:xs.length<=i)(b:∀(j:Nat)(z:α),j<i->xs[j]? = some z->pr z=false):dd pr xs = -1:=by grind [Di,dd]
theorem pN(pr:α->Bool)(xs:List α):decide (dd pr xs≥0)=xs.any pr:=by grind [dd]
def meshable(s t:ax):Bool:=(bi s&&bi t)&&decide (s.d=t.d/\s.Q≠t.Q/\s.b1.toNat &&& t.b1.toNat=0)
def nI(n:Int)(p:de):Bool:=decide (0<=p.To/\p.To<=n - 1/\0<=p.Addr)
def QI(z:Int):Bool:=decide (0<=z)
def gL(m:aJ)(i:Nat):Bool:=(nth m.T i).all (nI m.T.length)&&(nth m.y i).all QI
def br(m:aJ):Nat->Int
 | 0=>0
 | i+1=>br m i+((nth m.T i).length+(nth m.y i).length)
def bu(m:aJ):Bool:=(decide (1<=m.T.length/\m.T.length<=4/\m.y.length=m.T.length)&&dn m.T.length (gL m))&&decide (br m m.T.length<=30)
def aN(m:aJ):List Int:=if bu m then(m.T.flatMap λl=>l.map (·.Addr))++m.y.flatten else []
def dZ(a:Int)(y:aO):Bool:=decide (y.Addr=a)
def kP(xs:List aO)(i:Nat):Bool:=decide (0<=(nth xs i).d/\(nth xs i).d<=3/\0<=(nth xs i).Addr/\0<=(nth xs i).b6/\(i=0\/(nth xs (i - 1)).b6<=(nth xs i).b6))&&!(xs.take i).any (dZ (nth xs i).Addr)
def quarCells(xs:List aO):Nat->Int
 | 0=>0
 | i+1=>quarCells xs i+csz (nth xs i).d
def fR(q:b8):Bool:=dn q.a1.length (kP q.a1)&&decide (0<=q.c0/\q.c0<=500/\quarCells q.a1 q.a1.length<=q.c0)
def mw(xs:List Int)(i:Nat):Bool:=decide (0<=nth xs i/\nth xs i<=15/\(i=0\/nth xs (i - 1)<nth xs i))
def eR(p:cC):Bool:=dn p.U.length (mw p.U)&&decide (0<=p.a5/\p.a5<=31/\0<=p.a4/\p.a4<=31/\p.a5≠p.a4)
def jN(j:cL):Bool:=eR j.Y&&decide (0<=j.b2/\j.b2<=5/\0<=j.b/\j.b<=j.Y.U.length)
def sL(j:cL):Bool:=decide (j.Y.a5=0/\j.Y.a4=0/\j.Y.U.length=0/\j.b2=0/\j.b=0)
def aV(h:ab)(p:Int):List Int:=if(ac h.G.F.R p).j=0 then [] else pagesOn h.G.F.R (ac h.G.F.R p).e
def mq(p:Int)(s:ax):Bool:=decide (s.Q=p)
def gq(h:ab)(p:Int):Int:=dd (mq p) h.K
def aG(n:Int):Int:=if n<1 then -1 else if n<=1 then 0 else if n<=2 then 1 else if n<=4 then 2 else if n<=8 then 3 else -1
set_option maxRecDepth 20000
set_option maxHeartbeats 2000000
def aH(n lo a:Int):zzA 110 false [.val none [I n],.val none [I lo],.val none [I a]] .one [B (decide (lo<=n/\n<=a))]:=by
 refine fO 15 [] Tryz.func110 rfl ?_
 repeat'(first|refine gP ?_|(conv=>whnf);first|with_reducible refine Bf.D (λb=>?_) (λb=>?_))
 all_goals exact X0 (λz=>[B z]) (by simp;try omega)
def aP(n lo a:Int):zzA 63 false [.val none [I n],.val none [I lo],.val none [I a]] .one [B (decide (lo<=n/\n<=a))]:=by
 refine fO 15 [] Tryz.func63 rfl ?_
 repeat'(first|refine gP ?_|(conv=>whnf);first|with_reducible refine Bf.D (λb=>?_) (λb=>?_))
 all_goals exact X0 (λz=>[B z]) (by simp;try omega)
def f7(k:Int):zzA 232 false [.val none [I k]] .one [B (decide (0<=k/\k<=3))]:=by
 refine fO 5 [] Tryz.func232 rfl ?_
 repeat'(first|refine gP ?_|(conv=>whnf);first|refine C8 (aP k 0 3) ?_)
 rfl
theorem dU(k:Int):zzA 106 false [.val none [I k]] .one [I (csz k)]:=by
 by_cases b:0<=k/\k<=3
 ·obtain rfl|rfl|rfl|rfl:k=0\/k=1\/k=2\/k=3:=ω
  all_goals
   refine fO 8 [] Tryz.func106 rfl ?_
   repeat'(first|refine gE ?_|(conv=>whnf);first|with_reducible refine Bf.D (λa=>?_) (λa=>?_)|refine C8 (f7 _) ?_|refine CO (by decide) ?_|refine CM rfl ?_)
   exact X0 (λz=>[I z]) (by decide)
 refine fO 8 [] Tryz.func106 rfl ?_
 repeat'(first|refine gE ?_|(conv=>whnf);first|with_reducible refine Bf.D (λa=>?_) (λa=>?_)|refine C8 (f7 _) ?_)
 exact X0 (λz=>[I z]) (by grind [csz])
theorem ed(k:Int):zzA 361 false [.val none [I k]] .one [I (csz k)]:=by
 by_cases b:0<=k/\k<=3
 ·obtain rfl|rfl|rfl|rfl:k=0\/k=1\/k=2\/k=3:=ω
  all_goals
   refine fO 9 [] Tryz.func361 rfl ?_
   repeat'(first|refine gE ?_|(conv=>whnf);first|with_reducible refine Bf.D (λa=>?_) (λa=>?_)|refine C8 (aH _ 0 3) ?_|refine CO (by decide) ?_|refine CM rfl ?_)
   exact X0 (λz=>[I z]) (by decide)
 refine fO 9 [] Tryz.func361 rfl ?_
 repeat'(first|refine gE ?_|(conv=>whnf);first|with_reducible refine Bf.D (λa=>?_) (λa=>?_)|refine C8 (aH _ 0 3) ?_)
 exact X0 (λz=>[I z]) (by grind [csz])
theorem mJ(xs:List Int)(a:Int)(h:xs.length<=9223372036854775807):zzA 353 false [.val none (aF .V xs),.val none [I a]] .one [B (decide (a∈xs))]:=by
 refine fO 18 [] Tryz.func353 rfl ?_
 repeat'(first|refine gP ?_|fail)
 (conv=>whnf)
 refine CG (ι:=Nat) (λi=>[(0,.H .one (aF .V xs)),(1,.H .one [I a]),(5,.H .one [I (i:Nat)])]) (λi=>i<=xs.length/\a∉xs.take i) (λi=>xs.length - i) 0 ?_ ψ λi c=>?_
 ·exact wB
 obtain⟨c,d⟩:=c;by_cases b:i<xs.length
 ·obtain⟨y,e⟩ : ∃y,xs[i]? = some y:=⟨_,O2 b⟩
  repeat'(first|refine gE ?_|(conv=>whnf);first|with_reducible (first|refine CD (aa e) ?_|refine Bf.E (λg=>?_) (λg=>?_)))
  ·exact X0 (λz=>[B z]) ψ
  (conv=>whnf)
  refine CE (i+1) ⟨ω,?_⟩ ω ?_
  ·grind [V5]
  exact wB
 repeat'(first|refine gE ?_|fail)
 rw[I7 ω]at d;exact X0 (λz=>[B z]) ψ
set_option maxHeartbeats 4000000
def good(k:Int)(s:List Int)(a:Int):Prop:=0<=a/\a<=511/\a.tmod (csz k)=0/\a∉s
instance (k:Int) (s:List Int) (a:Int):Decidable (good k s a):=by unfold good;exact inferInstance
def rA(k:Int):List Int->List Int->Option (List Int)
 | s,[]=>some s
 | s,a::l=>if good k s a then rA k (s++[a]) l else none
def f6(k:Nat)(s l:List Int):Option (List Int):=if l.length<=8/\k<=3 then rA k s l else none
def gy:Nat->List Int->List (List Int)->Option (List Int)
 | _,s,[]=>some s
 | k,s,l::ls=>(f6 k s l).bind λa=>gy (k+1) a ls
def bv(c:aB):Bool:=decide (c.a.length=4)&&(gy 0 [] c.a).isSome
theorem rc(k:Int):∀(a s b:List Int),rA k s (a++b)=(rA k s a).bind λc=>rA k c b
 | [],s,b=>rfl
 | x::a,s,b=>by
  simp only[List.cons_append,rA];split
  ·exact rc k a _ b
  rfl
theorem oW:∀(a:List (List Int))(k:Nat)(s:List Int)(b:List (List Int)),gy k s (a++b)=(gy k s a).bind λc=>gy (k+a.length) c b
 | [],k,s,b=>rfl
 | l::a,k,s,b=>by
  simp only[List.cons_append,gy,Option.bind_assoc,List.length_cons]
  congr 1;funext c
  rw[oW a (k+1) c b,show k+1+a.length=k+(a.length+1) by omega]
variable{l:List Int}
theorem J1{k:Int}{b s:List Int}{j:Nat}(c:l[j]? = some a)(h:rA k b (l.take j)=some s)(d:good k s a):rA k b (l.take (j+1))=some (s++[a]):=by grind [V5,rc,rA]
theorem MB{b s:List Int}{j:Nat}(c:l[j]? = some a)(h:rA k b (l.take j)=some s)(d:¬good k s a):f6 k b l=none:=by
 unfold f6;split
 all_goals grind [List.drop_eq_getElem_cons,List.take_append_drop,rc,rA]
theorem Dh{k:Int} : ∀{l s b:List Int},rA k s l=some b->b.length=s.length+l.length
 | [],s,b,h=>by grind [rA]
 | a::l,s,b,h=>by
  simp only[rA]at h;split at h
  ·have:=Dh h;grind
  cases h
theorem tO{a:List (List Int)}{s:List Int}(b:a[i]? = some l)(h:gy 0 [] (a.take i)=some s):gy 0 [] (a.take (i+1))=f6 i s l:=by
 have c:=(U2.1 b).1;rw[V5,b,Option.toList_some,oW,h];simp only[Option.bind_some,gy,Z6,V1,Nat.min_eq_left (Nat.le_of_lt c)]
 grind
theorem lB{c:aB}{s:List Int}(a:c.a[i]? = some l)(h:gy 0 [] (c.a.take i)=some s)(b:f6 i s l=none):bv c=false:=by
 have d:=tO a h
 grind [List.take_append_drop,oW,bv]
theorem Gm:∀{b:List (List Int)}{k:Nat}{s a:List Int},gy k s b=some a->a.length<=s.length+8*b.length
 | [],k,s,a,h=>by grind [gy]
 | l::b,k,s,a,h=>by
  simp only[gy]at h;unfold f6 at h;split at h
  ·cases c:rA k s l with
   | none=>grind
   | some d=>
    rw[c]at h;have e:=Dh c;have f:=Gm (show gy (k+1) d b=some a from h)
    grind
  cases h
def Mj(h:i<=3):csz (i:Int)≠0:=by
 obtain rfl|rfl|rfl|rfl:i=0\/i=1\/i=2\/i=3:=ω
 all_goals decide
def cA : ∀r∈l.map (rI .own),r.length=1:=by
 intro r a;obtain⟨z,-,rfl⟩:=O4.1 a;rfl
theorem nt(c:aB)(t:aB.sml c):zzA 214 false [.val (some 1) (aB.enc .V c)] .one [B (bv c)]:=by
 have G:=t.1;refine fO 60 [] Tryz.func214 rfl ?_
 repeat'(first|refine gP ?_|(conv=>whnf);first|with_reducible refine Bf.N (λe=>?_) (λe=>?_))
 ·exact X0 (λz=>[B z]) (by grind [bv])
 have H:c.a.length=4:=ω
 (conv=>whnf)
 refine CG (ι:=Nat × List Int) (λi=>[(1,.H .box (aB.enc .V c)),(3,.H .one (aF .own i.2)),(4,.H .one [I (i.1:Nat)])]) (λi=>i.1<=4/\gy 0 [] (c.a.take i.1)=some i.2) (λi=>4 - i.1) (0,[]) ?_ ⟨W0 _,rfl⟩ λi k=>?_
 ·exact wB
 obtain⟨i,s⟩:=i;obtain⟨k,b⟩:=k;simp only at k b |-;have g:=Gm b;rw[V1]at g;simp only[List.length_nil]at g;by_cases u:i<4
 ·obtain⟨l,d⟩ : ∃l,c.a[i]? = some l:=(ψ)
  have w:l.length<=1048576:=t.2 l ψ
  repeat'(first|refine gE ?_|(conv=>whnf);first|with_reducible (first|refine CD (aa d) ?_|refine Bf.D (λe=>?_) (λe=>?_)))
  ·exact X0 (λz=>[B z]) (lB d b (by grind [f6])).symm
  have E:l.length<=8:=ω
  (conv=>whnf)
  refine CG (ι:=Nat × List Int) (λj=>[(1,.H .box (aB.enc .V c)),(3,.H .one (aF .own j.2)),(4,.H .one [I (i:Nat)]),(5,.H .one [I (j.1:Nat)])]) (λj=>j.1<=l.length/\rA i s (l.take j.1)=some j.2) (λj=>l.length - j.1) (0,s) ?_ ⟨W0 _,rfl⟩ λj n=>?_
  ·exact wB
  obtain⟨j,o⟩:=j;obtain⟨n,a⟩:=n;simp only at n a |-;have h:=Dh a;rw[V1]at h;by_cases p:j<l.length
  ·obtain⟨y,q⟩ : ∃y,l[j]? = some y:=⟨_,O2 p⟩
   repeat'(first|refine gE ?_|(conv=>whnf);first|with_reducible (first|refine CD (aa d) ?_|refine CD (aa q) ?_|refine Bf.D (λe=>?_) (λe=>?_)|refine Bf.N (λe=>?_) (λe=>?_))|refine C8 (aH y 0 511) ?_|refine C8 (ed (i:Nat)) ?_|refine CO (Mj ω) ?_|refine CR rfl ?_|refine CF (mJ o y ω) ⟨⟨rfl,eY _⟩,⟨rfl,rfl⟩,trivial⟩ ?_|refine CU cA (λr F=>by rw[O1.1 F];rfl) (by simp[bm,eH]) (by simp;omega) (by simp only[C1];exact yV (by simp;omega) (by decide)) rfl ?_)
   all_goals first
    | exact X0 (λz=>[B z]) (lB d b (MB q a λ⟨J,K,L,M⟩=>by first|contradiction|omega)).symm
    | ((conv=>whnf)
       refine CE (j+1,o++[y]) ⟨(by simp only;omega),J1 q a ⟨ω,ω,(by assumption),(by assumption)⟩⟩ (by simp only;omega) ?_
       (repeat'(first|exact trivial|rfl|exact CL rfl (CL (X0 (C.s dJ.own) (by simp[rI])) trivial)|refine CL ?_ ?_)))
  repeat'(first|refine gE ?_|(conv=>whnf);first|with_reducible refine CD (aa d) ?_)
  (conv=>whnf)
  rw[I7 ω]at a;refine CE (i+1,o) ⟨(by simp only;omega),(by rw[tO d b];grind [f6])⟩ (by simp only;omega) ?_;exact wB
 repeat'(first|refine gE ?_|fail)
 rw[I7 ω]at b;exact X0 (λz=>[B z]) (by grind [bv])
def fL(s:List Int):List (Int × Value):=s.map λa=>(a,.bool true)
theorem nQ(a:Int):∀(s:List Int),mlook (fL s) a (.bool false)=.bool (decide (a∈s))
 | []=>by simp[fL,mlook]
 | x::s=>by
  have b:=nQ a s
  grind [fL,mlook]
theorem uH{a:Int} : ∀{s:List Int},a∉s->fL (s++[a])=mput (fL s) a (.bool true)
 | [],_=>rfl
 | x::s,h=>by
  simp only[List.mem_cons,not_or]at h;have b:=uH h.2
  grind [fL,mput]
theorem n8(c:aB)(p:aB.sml c):zzA 80 false [.val (some 1) (aB.enc .V c)] .one [B (bv c)]:=by
 have w:=p.1;refine fO 54 [] Tryz.func80 rfl ?_
 repeat'(first|refine gP ?_|fail)
 (conv=>whnf)
 refine CG (ι:=Nat × List Int) (λi=>[(1,.H .box (aB.enc .V c)),(3,.H .one [.m (fL i.2)]),(10,.H .one (jl .V c.a)),(11,.H .one [I c.a.length]),(12,.H .one [I (i.1:Nat)])]) (λi=>i.1<=c.a.length/\gy 0 [] (c.a.take i.1)=some i.2) (λi=>c.a.length - i.1) (0,[]) ?_ ⟨W0 _,rfl⟩ λi g=>?_
 ·exact wB
 obtain⟨i,s⟩:=i;obtain⟨g,d⟩:=g;simp only at g d |-;by_cases q:i<c.a.length
 ·obtain⟨l,b⟩ : ∃l,c.a[i]? = some l:=(ψ)
  have r:l.length<=1048576:=p.2 l ψ
  repeat'(first|refine gE ?_|(conv=>whnf);first|with_reducible (first|refine CD (aa b) ?_|refine Bf.D (λe=>?_) (λe=>?_))|refine C8 (f7 (i:Nat)) ?_)
  ·exact X0 (λz=>[B z]) (lB b d (by grind [f6])).symm
  rotate_left
  ·exact X0 (λz=>[B z]) (lB b d (by grind [f6])).symm
  have t:l.length<=8:=ω
  have u:i<=3:=ω
  (conv=>whnf)
  refine CG (ι:=Nat × List Int) (λj=>[(1,.H .box (aB.enc .V c)),(3,.H .one [.m (fL j.2)]),(4,.H .one [I (i:Nat)]),(10,.H .one (jl .V c.a)),(11,.H .one [I c.a.length]),(12,.H .one [I (i:Nat)]),(25,.H .one (aF .V l)),(26,.H .one [I l.length]),(27,.H .one [I (j.1:Nat)])]) (λj=>j.1<=l.length/\rA i s (l.take j.1)=some j.2) (λj=>l.length - j.1) (0,s) ?_ ⟨W0 _,rfl⟩ λj h=>?_
  ·exact wB
  obtain⟨j,k⟩:=j;obtain⟨h,a⟩:=h;simp only at h a |-;by_cases n:j<l.length
  ·obtain⟨y,o⟩ : ∃y,l[j]? = some y:=⟨_,O2 n⟩
   repeat'(first|refine gE ?_|(conv=>whnf);first|with_reducible (first|refine CD (aa b) ?_|refine CD (aa o) ?_|refine Bf.D (λe=>?_) (λe=>?_)|refine Bf.N (λe=>?_) (λe=>?_))|refine C8 (aP y 0 511) ?_|refine C8 (dU (i:Nat)) ?_|refine CO (Mj ω) ?_|refine CR rfl ?_|refine Ml.mk (nQ y k) ?_|refine Mu.mk (uH (by assumption)) ?_)
   all_goals first
    | exact X0 (λz=>[B z]) (lB b d (MB o a λ⟨C,E,F,G⟩=>by first|contradiction|omega)).symm
    | ((conv=>whnf)
       refine CE (j+1,k++[y]) ⟨(by simp only;omega),J1 o a ⟨ω,ω,(by assumption),(by assumption)⟩⟩ (by simp only;omega) ?_
       (exact wA))
  repeat'(first|refine gE ?_|fail)
  (conv=>whnf)
  rw[I7 ω]at a;refine CE (i+1,k) ⟨(by simp only;omega),(by rw[tO b d];grind [f6])⟩ (by simp only;omega) ?_;exact wB
 repeat'(first|refine gE ?_|fail)
 grind [U0,bv]
theorem JD:∀{b:List (List Int)}{k:Nat}{s c:List Int},gy k s b=some c->∀l∈b,l.length<=8
 | [],k,s,c,h,l,a=>by simp at a
 | x::b,k,s,c,h,l,a=>by
  simp only[gy]at h;unfold f6 at h;split at h
  ·rename_i d
   rcases List.mem_cons.1 a with rfl|a
   ·exact d.1
   cases e:rA k s x with
   | none=>grind
   | some f=>rw[e]at h;exact JD (show gy (k+1) f b=some c from h) l a
  cases h
theorem uO{c:aB}(h:bv c=true):c.a.length=4/\∀l∈c.a,l.length<=8:=by grind [Option.isSome_iff_exists,JD,bv]
theorem zv(f:bf)(h:bf.sml f):zzA 86 false [.val (some 2) (bf.enc .V f)] .one [B (d9 f)]:=by
 have C:=h.1.1;have E:f.a9.length<=1048576:=h.2;refine fO 61 [] Tryz.func86 rfl ?_
 repeat'(first|refine gP ?_|(conv=>whnf);first|with_reducible (first|refine Bf.D (λa=>?_) (λa=>?_)|refine Bf.N (λa=>?_) (λa=>?_))|refine C8 (aH f.U.length 1 32) ?_)
 ·exact X0 (λz=>[B z]) (by grind [d9])
 rotate_left
 ·exact X0 (λz=>[B z]) (by grind [d9])
 have t:1<=f.U.length/\f.U.length<=32:=ω
 have w:f.a9.length=f.U.length:=ω
 (conv=>whnf)
 refine CG (ι:=Nat) (λi=>[(1,.H .box (bf.enc .V f)),(3,.H .one [I (i:Nat)])]) (λi=>i<=f.U.length/\((f.U.zip f.a9).take i).all (λq=>gQ q.1 q.2)=true) (λi=>f.U.length - i) 0 ?_ ψ λi j=>?_
 ·exact wB
 obtain⟨j,y⟩:=j;by_cases g:i<f.U.length
 ·obtain⟨r,c⟩ : ∃r,f.U[i]? = some r:=⟨_,O2 g⟩
  obtain⟨u,b⟩ : ∃u,f.a9[i]? = some u:=⟨_,O2 ω⟩
  repeat'(first|refine gE ?_|(conv=>whnf);first|with_reducible (first|refine CD (aa c) ?_|refine Bf.N (λa=>?_) (λa=>?_)))
  ·exact X0 (λz=>[B z]) (i7 c b (by grind [gQ])).symm
  have l:r.length=16:=ω
  (conv=>whnf)
  refine CG (ι:=Nat) (λk=>[(1,.H .box (bf.enc .V f)),(3,.H .one [I (i:Nat)]),(4,.H .one [I (k:Nat)])]) (λk=>k<=16/\(r.take k).all (iB u)=true) (λk=>16 - k) 0 ?_ ψ λk n=>?_
  ·exact wB
  obtain⟨n,e⟩:=n;by_cases o:k<16
  ·obtain⟨v,d⟩ : ∃v,r[k]? = some v:=⟨_,O2 ω⟩
   cases u with
   | true=>
    repeat'(first|refine gE ?_|(conv=>whnf);first|with_reducible (first|refine CD (aa c) ?_|refine CD (aa b) ?_|refine CD (aa d) ?_|refine Bf.D (λa=>?_) (λa=>?_)|refine Bf.N (λa=>?_) (λa=>?_))|refine C8 (aH v 0 999) ?_)
    all_goals first
     | exact X0 (λz=>[B z]) (i7 c b (rN d (by first|(unfold iB;rw[U0 ω];rfl)|(unfold iB;rw[U0 (p:=v=0) ω];simp)))).symm
     | ((conv=>whnf)
        refine CE (ι:=Nat) (k+1) ⟨ω,db d e (by unfold iB;first|(rw[O0 ω];rfl)|(rw[O0 (p:=0<=v/\v<=999) ω,O0 (p:=v=0) ω];rfl))⟩ ω ?_
        (exact wA))
   | false=>
    repeat'(first|refine gE ?_|(conv=>whnf);first|with_reducible (first|refine CD (aa c) ?_|refine CD (aa b) ?_|refine CD (aa d) ?_|refine Bf.D (λa=>?_) (λa=>?_)|refine Bf.N (λa=>?_) (λa=>?_))|refine C8 (aH v 0 999) ?_)
    all_goals first
     | exact X0 (λz=>[B z]) (i7 c b (rN d (by first|(unfold iB;rw[U0 ω];rfl)|(unfold iB;rw[U0 (p:=v=0) ω];simp)))).symm
     | ((conv=>whnf)
        refine CE (ι:=Nat) (k+1) ⟨ω,db d e (by unfold iB;first|(rw[O0 ω];rfl)|(rw[O0 (p:=0<=v/\v<=999) ω,O0 (p:=v=0) ω];rfl))⟩ ω ?_
        (exact wA))
  repeat'(first|refine gE ?_|fail)
  (conv=>whnf)
  refine CE (i+1) ⟨ω,db (vT c b) y (by grind [gQ])⟩ ω ?_;exact wB
 repeat'(first|refine gE ?_|fail)
 exact X0 (λz=>[B z]) (by grind [List.length_zip,d9])
theorem yN(f:bf)(g:bf.sml f):zzA 242 false [.val (some 2) (bf.enc .V f)] .one [B (d9 f)]:=by
 have C:=g.1.1;have E:f.a9.length<=1048576:=g.2;refine fO 55 [] Tryz.func242 rfl ?_
 repeat'(first|refine gP ?_|(conv=>whnf);first|with_reducible (first|refine Bf.D (λa=>?_) (λa=>?_)|refine Bf.N (λa=>?_) (λa=>?_))|refine C8 (aP f.U.length 1 32) ?_)
 ·exact X0 (λz=>[B z]) (by grind [d9])
 rotate_left
 ·exact X0 (λz=>[B z]) (by grind [d9])
 have p:1<=f.U.length/\f.U.length<=32:=ω
 have t:f.a9.length=f.U.length:=ω
 (conv=>whnf)
 refine CG (ι:=Nat) (λi=>[(1,.H .box (bf.enc .V f)),(22,.H .one (jl .V f.U)),(23,.H .one [I (f.U.length)]),(24,.H .one [I ((i:Nat):Int)])]) (λi=>i<=f.U.length/\((f.U.zip f.a9).take i).all (λq=>gQ q.1 q.2)=true) (λi=>f.U.length - i) (0) ?_ ψ λi j=>?_
 ·exact wB
 obtain⟨j,w⟩:=j;by_cases h:i<f.U.length
 ·obtain⟨r,c⟩ : ∃r,f.U[i]? = some r:=⟨_,O2 h⟩
  obtain⟨u,b⟩ : ∃u,f.a9[i]? = some u:=⟨_,O2 ω⟩
  have y:r.length<=1048576:=g.1.2 r ψ
  repeat'(first|refine gE ?_|(conv=>whnf);first|with_reducible (first|refine CD (aa c) ?_|refine Bf.N (λa=>?_) (λa=>?_)))
  ·exact X0 (λz=>[B z]) (i7 c b (by grind [gQ])).symm
  have l:r.length=16:=ω
  (conv=>whnf)
  refine CG (ι:=Nat) (λk=>[(1,.H .box (bf.enc .V f)),(3,.H .one [I ((i:Nat):Int)]),(22,.H .one (jl .V f.U)),(23,.H .one [I (f.U.length)]),(24,.H .one [I ((i:Nat):Int)]),(32,.H .one (aF .V r)),(33,.H .one [I (r.length)]),(34,.H .one [I ((k:Nat):Int)])]) (λk=>k<=r.length/\(r.take k).all (iB u)=true) (λk=>r.length - k) (0) ?_ ψ λk n=>?_
  ·exact wB
  obtain⟨n,e⟩:=n;by_cases o:k<r.length
  ·obtain⟨v,d⟩ : ∃v,r[k]? = some v:=⟨_,O2 ω⟩
   cases u with
   | true=>
    repeat'(first|refine gE ?_|(conv=>whnf);first|with_reducible (first|refine CD (aa c) ?_|refine CD (aa b) ?_|refine CD (aa d) ?_|refine Bf.D (λa=>?_) (λa=>?_)|refine Bf.N (λa=>?_) (λa=>?_))|refine C8 (aP v 0 999) ?_)
    all_goals first
     | exact X0 (λz=>[B z]) (i7 c b (rN d (by unfold iB;grind))).symm
     | ((conv=>whnf)
        refine CE (ι:=Nat) (k+1) ⟨ω,db d e (by unfold iB;grind)⟩ ω ?_
        (exact wA))
   | false=>
    repeat'(first|refine gE ?_|(conv=>whnf);first|with_reducible (first|refine CD (aa c) ?_|refine CD (aa b) ?_|refine CD (aa d) ?_|refine Bf.D (λa=>?_) (λa=>?_)|refine Bf.N (λa=>?_) (λa=>?_))|refine C8 (aP v 0 999) ?_)
    all_goals first
     | exact X0 (λz=>[B z]) (i7 c b (rN d (by unfold iB;grind))).symm
     | ((conv=>whnf)
        refine CE (ι:=Nat) (k+1) ⟨ω,db d e (by unfold iB;grind)⟩ ω ?_
        (exact wA))
  repeat'(first|refine gE ?_|fail)
  (conv=>whnf)
  refine CE (i+1) ⟨ω,db (vT c b) w (by grind [gQ])⟩ ω ?_;exact wB
 repeat'(first|refine gE ?_|fail)
 exact X0 (λz=>[B z]) (by grind [List.length_zip,d9])
theorem Dn(t:aI)(b:Int)(e:aI.sml t):zzA 469 false [.val (some 1) (aI.enc .V t),.val none [I b]] .one [B (gg t b)]:=by
 have k:=e.1;refine fO 54 [] Tryz.func469 rfl ?_
 repeat'(first|refine gP ?_|fail)
 (conv=>whnf)
 refine CG (ι:=Nat) (λi=>[(1,.H .one [I (b)]),(2,.H .box (aI.enc .V t)),(5,.H .one [I ((i:Nat):Int)])]) (λi=>i<=t.O.length/\dn i (λj=>kF b (nth t.O j))=true) (λi=>t.O.length - i) 0 ?_ ⟨W0 _,rfl⟩ λi c=>?_
 ·exact wB
 obtain⟨c,g⟩:=c;by_cases d:i<t.O.length
 ·have h:=ao d
  repeat'(first|refine gE ?_|(conv=>whnf);first|with_reducible (first|refine CD (aa h) ?_|refine Bf.D (λa=>?_) (λa=>?_)|refine Bf.N (λa=>?_) (λa=>?_)|refine Bf.E (λa=>?_) (λa=>?_))|refine C8 (aH _ 0 2) ?_)
  all_goals first
   | exact X0 (λz=>[B z]) ((by symm;unfold gg;rw[cI d (U0 ψ)];rfl))
   | ((conv=>whnf);refine CE (i+1) ⟨ω,bQ g (O0 ψ)⟩ ω ?_;(exact wB))
 repeat'(first|refine gE ?_|(conv=>whnf);first|refine C8 (aH _ 1 32) ?_)
 obtain rfl:i=t.O.length:=ω
 exact X0 (λz=>[B z]) ((by grind [gg]))
theorem Dc(t:aI)(b:Int)(e:aI.sml t):zzA 243 false [.val (some 1) (aI.enc .V t),.val none [I b]] .one [B (gg t b)]:=by
 have k:=e.1;refine fO 49 [] Tryz.func243 rfl ?_
 repeat'(first|refine gP ?_|fail)
 (conv=>whnf)
 refine CG (ι:=Nat) (λi=>[(1,.H .one [I (b)]),(2,.H .box (aI.enc .V t)),(8,.H .one (FK .V t.O)),(9,.H .one [I (t.O.length)]),(10,.H .one [I ((i:Nat):Int)])]) (λi=>i<=t.O.length/\dn i (λj=>kF b (nth t.O j))=true) (λi=>t.O.length - i) 0 ?_ ⟨W0 _,rfl⟩ λi c=>?_
 ·exact wB
 obtain⟨c,g⟩:=c;by_cases d:i<t.O.length
 ·have h:=ao d
  repeat'(first|refine gE ?_|(conv=>whnf);first|with_reducible (first|refine CD (aa h) ?_|refine Bf.D (λa=>?_) (λa=>?_)|refine Bf.N (λa=>?_) (λa=>?_)|refine Bf.E (λa=>?_) (λa=>?_))|refine C8 (aP _ 0 2) ?_)
  all_goals first
   | exact X0 (λz=>[B z]) ((by symm;unfold gg;rw[cI d (U0 ψ)];rfl))
   | ((conv=>whnf);refine CE (i+1) ⟨ω,bQ g (O0 ψ)⟩ ω ?_;(exact wB))
 repeat'(first|refine gE ?_|(conv=>whnf);first|refine C8 (aP _ 1 32) ?_)
 obtain rfl:i=t.O.length:=ω
 exact X0 (λz=>[B z]) ((by grind [gg]))
theorem gN(t:aI)(f:Int)(c:aI.sml t):zzA 470 false [.val (some 1) (aI.enc .V t),.val none [I f]] .one (aF .own (pagesOn t f)):=by
 have j:=c.1;refine fO 37 [] Tryz.func470 rfl ?_ (.inr (bM _))
 repeat'(first|refine gP ?_|fail)
 (conv=>whnf)
 refine CG (ι:=Nat) (λi=>[(1,.H .one [I (f)]),(2,.H .box (aI.enc .V t)),(5,.H .one (aF .own (jP t f i))),(6,.H .one [I ((i:Nat):Int)])]) (λi=>i<=t.O.length) (λi=>t.O.length - i) (0) ?_ (W0 _) λi k=>?_
 ·exact wB
 have d:=u5 t f i;by_cases e:i<t.O.length
 ·have g:=ao e
  repeat'(first|refine gE ?_|(conv=>whnf);first|with_reducible (first|refine CD (aa g) ?_|refine Bf.D (λb=>?_) (λb=>?_)|refine Bf.N (λb=>?_) (λb=>?_)|refine Bf.E (λb=>?_) (λb=>?_))|refine CU cA (λr h=>by rw[O1.1 h];rfl) (by simp[bm,eH]) (by simp;omega) (by simp only[C1];exact yV (by simp;omega) (by decide)) rfl ?_)
  all_goals first
   |(have a:LT t f i=true:=O0 ψ
     (conv=>whnf)
     refine CE (i+1) ω ω ?_;rw[AI a]
     (repeat'(first|exact trivial|rfl|exact CL rfl (CL (X0 (C.s dJ.own) (by simp[rI])) trivial)|refine CL ?_ ?_)))
   |(have a:LT t f i=false:=U0 ψ
     (conv=>whnf)
     refine CE (i+1) ω ω ?_;rw[Gi a]
     (exact wA))
 repeat'(first|refine gE ?_|fail)
 obtain rfl:i=t.O.length:=ω
 rfl
theorem kI(t:aI)(f:Int)(c:aI.sml t):zzA 244 false [.val (some 1) (aI.enc .V t),.val none [I f]] .one (aF .own (pagesOn t f)):=by
 have j:=c.1;refine fO 32 [] Tryz.func244 rfl ?_ (.inr (bM _))
 repeat'(first|refine gP ?_|fail)
 (conv=>whnf)
 refine CG (ι:=Nat) (λi=>[(1,.H .one [I (f)]),(5,.H .one (aF .own (jP t f i))),(10,.H .one (FK .V t.O)),(11,.H .one [I (t.O.length)]),(12,.H .one [I ((i:Nat):Int)])]) (λi=>i<=t.O.length) (λi=>t.O.length - i) (0) ?_ (W0 _) λi k=>?_
 ·exact wB
 have d:=u5 t f i;by_cases e:i<t.O.length
 ·have g:=ao e
  repeat'(first|refine gE ?_|(conv=>whnf);first|with_reducible (first|refine CD (aa g) ?_|refine Bf.D (λb=>?_) (λb=>?_)|refine Bf.N (λb=>?_) (λb=>?_)|refine Bf.E (λb=>?_) (λb=>?_))|refine CU cA (λr h=>by rw[O1.1 h];rfl) (by simp[bm,eH]) (by simp;omega) (by simp only[C1];exact yV (by simp;omega) (by decide)) rfl ?_)
  all_goals first
   |(have a:LT t f i=true:=O0 ψ
     (conv=>whnf)
     refine CE (i+1) ω ω ?_;rw[AI a]
     (repeat'(first|exact trivial|rfl|exact CL rfl (CL (X0 (C.s dJ.own) (by simp[rI])) trivial)|refine CL ?_ ?_)))
   |(have a:LT t f i=false:=U0 ψ
     (conv=>whnf)
     refine CE (i+1) ω ω ?_;rw[Gi a]
     (exact wA))
 repeat'(first|refine gE ?_|fail)
 obtain rfl:i=t.O.length:=ω
 rfl
def cz(t:aI)(p:Int)(b:aI.sml t):zzA 34 false [.val (some 1) (aI.enc .V t),.val none [I p]] .agg (bh.enc .own (ac t p)):=by
 have d:=b.1;refine fO 18 [] Tryz.func34 rfl ?_ (.inr (bh.enc_fr _));by_cases a:0<=p/\p<t.O.length
 ·have c:=ao (xs:=t.O) (i:=p.toNat) ω
  repeat'(first|refine gE ?_|(conv=>whnf);first|refine C8 (aH _ 0 _) ?_|refine CN a.1 (aa c) ?_)
  all_goals(unfold ac;rw[CC a];rfl)
 repeat'(first|refine gE ?_|(conv=>whnf);first|refine C8 (aH _ 0 _) ?_)
 all_goals(unfold ac;rw[C9 a];rfl)
def eX(t:aI)(p:Int)(b:aI.sml t):zzA 104 false [.val (some 1) (aI.enc .V t),.val none [I p]] .agg (bh.enc .own (ac t p)):=by
 have d:=b.1;refine fO 18 [] Tryz.func104 rfl ?_ (.inr (bh.enc_fr _));by_cases a:0<=p/\p<t.O.length
 ·have c:=ao (xs:=t.O) (i:=p.toNat) ω
  repeat'(first|refine gE ?_|(conv=>whnf);first|refine C8 (aP _ 0 _) ?_|refine CN a.1 (aa c) ?_)
  all_goals(unfold ac;rw[CC a];rfl)
 repeat'(first|refine gE ?_|(conv=>whnf);first|refine C8 (aP _ 0 _) ?_)
 all_goals(unfold ac;rw[C9 a];rfl)
def rg(t:aI)(f:Int):(pagesOn t f).length<=t.O.length:=u5 ..
theorem oK(m:aU)(a:aU.sml m):zzA 350 false [.val (some 3) (aU.enc .V m)] .one [B (dD m)]:=by
 have q:m.W.a9.length<=1048576:=a.1.2;have k:m.W.U.length<=1048576:=a.1.1.1;have b:=zv m.W a.1;have c:=Dn m.R m.W.U.length a.2;cases d:d9 m.W with
 | false=>
  rw[d]at b;refine fO 39 [(6,13,[26,27,28,29,30,31,32,33,34,35,36,37,38])] Tryz.func350 rfl ?_
  repeat'(first|refine gP ?_|(conv=>whnf);first|refine C8 b ?_)
  exact X0 (λz=>[B z]) ((by grind [dD]))
 | true=>
  have g:=Du d;rw[d]at b;cases e:gg m.R m.W.a9.length with
  | false=>
   rw[show(m.W.U.length:Int)=m.W.a9.length by omega,e]at c;refine fO 39 [(6,13,[26,27,28,29,30,31,32,33,34,35,36,37,38])] Tryz.func350 rfl ?_
   repeat'(first|refine gP ?_|(conv=>whnf);first|refine C8 b ?_|refine C8 ((show(m.W.U.length:Int)=m.W.a9.length by omega) ▸ c) ?_)
   exact X0 (λz=>[B z]) ((by grind [dD]))
  | true=>
   rw[show(m.W.U.length:Int)=m.W.a9.length by omega,e]at c;refine fO 39 [(6,13,[26,27,28,29,30,31,32,33,34,35,36,37,38])] Tryz.func350 rfl ?_
   repeat'(first|refine gP ?_|(conv=>whnf);first|refine C8 b ?_|refine C8 ((show(m.W.U.length:Int)=m.W.a9.length by omega) ▸ c) ?_)
   (conv=>whnf)
   refine CG (ι:=Nat) (λi=>[(1,.H .box (aU.enc .V m)),(3,.H .one [I ((i:Nat):Int)])]) (λi=>i<=m.W.a9.length/\dn i (oR m)=true) (λi=>m.W.a9.length - i) 0 ?_ ⟨W0 _,rfl⟩ λi h=>?_
   ·exact wB
   obtain⟨h,l⟩:=h;by_cases j:i<m.W.a9.length
   ·have n:=ao j
    have o:=rg m.R (i:Nat)
    repeat'(first|refine gE ?_|(conv=>whnf);first|with_reducible (first|refine CD (aa n) ?_|refine Bf.NB (λp=>?_) (λp=>?_))|refine C8 (gN m.R (i:Nat) a.2) ?_)
    all_goals first
     | exact X0 (λz=>[B z]) ((by symm;unfold dD;rw[d,e,cI j (by unfold oR;grind)];rfl))
     | ((conv=>whnf);refine CE (i+1) ⟨ω,bQ l (by unfold oR;grind)⟩ ω ?_;(exact wB))
   repeat'(first|refine gE ?_|fail)
   obtain rfl:i=m.W.a9.length:=ω
   exact X0 (λz=>[B z]) ((by grind [dD]))
theorem y6(m:aU)(b:aU.sml m):zzA 87 false [.val (some 3) (aU.enc .V m)] .one [B (dD m)]:=by
 have o:m.W.a9.length<=1048576:=b.1.2;have a:=yN m.W b.1;have c:=Dc m.R m.W.a9.length b.2;cases d:d9 m.W with
 | false=>
  rw[d]at a;refine fO 37 [] Tryz.func87 rfl ?_
  repeat'(first|refine gP ?_|(conv=>whnf);first|refine C8 a ?_)
  exact X0 (λz=>[B z]) ((by grind [dD]))
 | true=>
  rw[d]at a;cases e:gg m.R m.W.a9.length with
  | false=>
   rw[e]at c;refine fO 37 [] Tryz.func87 rfl ?_
   repeat'(first|refine gP ?_|(conv=>whnf);first|refine C8 a ?_|refine C8 c ?_)
   exact X0 (λz=>[B z]) ((by grind [dD]))
  | true=>
   rw[e]at c;refine fO 37 [] Tryz.func87 rfl ?_
   repeat'(first|refine gP ?_|(conv=>whnf);first|refine C8 a ?_|refine C8 c ?_)
   (conv=>whnf)
   refine CG (ι:=Nat) (λi=>[(1,.H .box (aU.enc .V m)),(21,.H .one (BO .V m.W.a9)),(22,.H .one [I (m.W.a9.length)]),(23,.H .one [I ((i:Nat):Int)])]) (λi=>i<=m.W.a9.length/\dn i (oR m)=true) (λi=>m.W.a9.length - i) 0 ?_ ⟨W0 _,rfl⟩ λi g=>?_
   ·exact wB
   obtain⟨g,j⟩:=g;by_cases h:i<m.W.a9.length
   ·have k:=ao h
    have l:=rg m.R (i:Nat)
    repeat'(first|refine gE ?_|(conv=>whnf);first|with_reducible (first|refine CD (aa k) ?_|refine Bf.NB (λn=>?_) (λn=>?_))|refine C8 (kI m.R (i:Nat) b.2) ?_)
    all_goals first
     | exact X0 (λz=>[B z]) ((by symm;unfold dD;rw[d,e,cI h (by unfold oR;grind)];rfl))
     | ((conv=>whnf);refine CE (i+1) ⟨ω,bQ j (by unfold oR;grind)⟩ ω ?_;(exact wB))
   repeat'(first|refine gE ?_|fail)
   obtain rfl:i=m.W.a9.length:=ω
   exact X0 (λz=>[B z]) ((by grind [dD]))
def mz(k:ah)(d:ah.sml k):zzA 208 false [.val (some 5) (ah.enc .V k)] .one [B (aA k)]:=by
 have n:k.a0.length<=1048576:=d.2;have a:=oK k.F d.1;refine fO 31 [] Tryz.func208 rfl ?_
 repeat'(first|refine gP ?_|fail)
 (conv=>whnf)
 refine CG (ι:=Nat) (λi=>[(1,.H .box (ah.enc .V k)),(3,.H .one [I ((i:Nat):Int)])]) (λi=>i<=k.a0.length/\dn i (λj=>decide (0<=nth k.a0 j))=true) (λi=>k.a0.length - i) 0 ?_ ⟨W0 _,rfl⟩ λi e=>?_
 ·exact wB
 obtain⟨e,g⟩:=e;by_cases h:i<k.a0.length
 ·have l:=ao h
  repeat'(first|refine gE ?_|(conv=>whnf);first|with_reducible (first|refine CD (aa l) ?_|refine Bf.D (λc=>?_) (λc=>?_)))
  all_goals first
   | exact X0 (λz=>[B z]) ((by symm;unfold aA;rw[cI h (U0 ω)];rfl))
   | ((conv=>whnf);refine CE (i+1) ⟨ω,bQ g (O0 ω)⟩ ω ?_;(exact wB))
 obtain rfl:i=k.a0.length:=ω
 cases b:dD k.F with
 | false=>
  rw[b]at a
  repeat'(first|refine gE ?_|(conv=>whnf);first|refine C8 a ?_)
  all_goals exact X0 (λz=>[B z]) ((by unfold aA;rw[b];simp))
 | true=>
  rw[b]at a
  repeat'(first|refine gE ?_|(conv=>whnf);first|with_reducible refine Bf.D (λc=>?_) (λc=>?_)|refine C8 a ?_|refine C8 (aH _ 0 100000) ?_)
  all_goals exact X0 (λz=>[B z]) ((by unfold aA;rw[b,g];simp only[Bool.true_and];first|exact decide_eq_decide.2 ω|(symm;exact U0 ω)|(symm;exact O0 ω)))
def q7(k:ah)(b:ah.sml k):zzA 26 false [.val (some 5) (ah.enc .V k)] .one [B (aA k)]:=by
 have l:k.a0.length<=1048576:=b.2;have g:=y6 k.F b.1;refine fO 29 [] Tryz.func26 rfl ?_
 repeat'(first|refine gP ?_|fail)
 (conv=>whnf)
 refine CG (ι:=Nat) (λi=>[(1,.H .box (ah.enc .V k)),(6,.H .one (aF .V k.a0)),(7,.H .one [I (k.a0.length)]),(8,.H .one [I ((i:Nat):Int)])]) (λi=>i<=k.a0.length/\dn i (λj=>decide (0<=nth k.a0 j))=true) (λi=>k.a0.length - i) 0 ?_ ⟨W0 _,rfl⟩ λi c=>?_
 ·exact wB
 obtain⟨c,d⟩:=c;by_cases e:i<k.a0.length
 ·have h:=ao e
  repeat'(first|refine gE ?_|(conv=>whnf);first|with_reducible (first|refine CD (aa h) ?_|refine Bf.D (λa=>?_) (λa=>?_)))
  all_goals first
   | exact X0 (λz=>[B z]) ((by symm;unfold aA;rw[cI e (U0 ω)];rfl))
   | ((conv=>whnf);refine CE (i+1) ⟨ω,bQ d (O0 ω)⟩ ω ?_;(exact wB))
 obtain rfl:i=k.a0.length:=ω
 repeat'(first|refine gE ?_|(conv=>whnf);first|with_reducible refine Bf.D (λa=>?_) (λa=>?_)|refine C8 g ?_|refine C8 (aP _ 0 100000) ?_)
 all_goals exact X0 (λz=>[B z]) ((by unfold aA;rw[d];cases dD k.F<;>simp only[Bool.true_and,Bool.false_and]<;>first|rfl|exact decide_eq_decide.2 ω|(symm;exact U0 ω)|(symm;exact O0 ω)))
def w9(pages:Int)(r:a7)(b:0<=pages/\pages<=1048576):zzA 351 false [.val none [I pages],.val (some 2) (a7.enc .V r)] .one [B (rangeIn pages r)]:=by
 refine fO 18 [] Tryz.func351 rfl ?_
 repeat'(first|refine gP ?_|(conv=>whnf);first|with_reducible refine Bf.D (λa=>?_) (λa=>?_)|refine C8 (aH _ 1 _) ?_|refine C8 (aH _ 0 _) ?_)
 all_goals exact X0 (λz=>[B z]) ((by unfold rangeIn;first|(symm;exact U0 ω)|exact decide_eq_decide.2 ω))
def y3(pages:Int)(r:a7)(b:0<=pages/\pages<=1048576):zzA 223 false [.val none [I pages],.val (some 2) (a7.enc .V r)] .one [B (rangeIn pages r)]:=by
 refine fO 18 [] Tryz.func223 rfl ?_
 repeat'(first|refine gP ?_|(conv=>whnf);first|with_reducible refine Bf.D (λa=>?_) (λa=>?_)|refine C8 (aP _ 1 _) ?_|refine C8 (aP _ 0 _) ?_)
 all_goals exact X0 (λz=>[B z]) ((by unfold rangeIn;first|(symm;exact U0 ω)|exact decide_eq_decide.2 ω))
theorem nv(k:Int):zzA 472 false [.val none [I k]] .one [I (slots k)]:=by
 by_cases b:0<=k/\k<=3
 ·obtain rfl|rfl|rfl|rfl:k=0\/k=1\/k=2\/k=3:=ω
  all_goals
   refine fO 9 [] Tryz.func472 rfl ?_
   repeat'(first|refine gE ?_|(conv=>whnf);first|with_reducible refine Bf.D (λa=>?_) (λa=>?_)|refine C8 (aH _ 0 3) ?_|refine CO (by decide) ?_|refine CM rfl ?_|refine CR rfl ?_)
   exact X0 (λz=>[I z]) (by decide)
 refine fO 9 [] Tryz.func472 rfl ?_
 repeat'(first|refine gE ?_|(conv=>whnf);first|with_reducible refine Bf.D (λa=>?_) (λa=>?_)|refine C8 (aH _ 0 3) ?_)
 exact X0 (λz=>[I z]) (by grind [slots])
theorem iX(k:Int):zzA 335 false [.val none [I k]] .one [I (slots k)]:=by
 by_cases b:0<=k/\k<=3
 ·obtain rfl|rfl|rfl|rfl:k=0\/k=1\/k=2\/k=3:=ω
  all_goals
   refine fO 9 [] Tryz.func335 rfl ?_
   repeat'(first|refine gE ?_|(conv=>whnf);first|with_reducible refine Bf.D (λa=>?_) (λa=>?_)|refine C8 (f7 _) ?_|refine C8 (dU _) ?_|refine CO (by decide) ?_|refine CM rfl ?_|refine CR rfl ?_)
   exact X0 (λz=>[I z]) (by decide)
 refine fO 9 [] Tryz.func335 rfl ?_
 repeat'(first|refine gE ?_|(conv=>whnf);first|with_reducible refine Bf.D (λa=>?_) (λa=>?_)|refine C8 (f7 _) ?_)
 exact X0 (λz=>[I z]) (by grind [slots])
def Mr(k b:Int):Bool:=decide (0<=k/\k<=3/\0<=b/\b<=lim k)
theorem qw(k b:Int):zzA 471 false [.val none [I (slots k)],.val none [I b]] .one [B (Mr k b)]:=by
 by_cases d:0<=k/\k<=3
 ·obtain rfl|rfl|rfl|rfl:k=0\/k=1\/k=2\/k=3:=ω
  all_goals
   first|rw[show slots 0=16 from rfl]|rw[show slots 1=8 from rfl]|rw[show slots 2=4 from rfl]|rw[show slots 3=2 from rfl]
   refine fO 15 [] Tryz.func471 rfl ?_
   repeat'(first|refine gE ?_|(conv=>whnf);first|with_reducible refine Bf.D (λa=>?_) (λa=>?_)|refine C8 (aH _ 1 16) ?_|refine C8 (aH _ 0 _) ?_|refine CO (by decide) ?_|refine CM (show _=(65536:Int) by decide) ?_|refine CM (show _=(65535:Int) by decide) ?_|refine CM (show _=(256:Int) by decide) ?_|refine CM (show _=(255:Int) by decide) ?_|refine CM (show _=(16:Int) by decide) ?_|refine CM (show _=(15:Int) by decide) ?_|refine CM (show _=(4:Int) by decide) ?_|refine CM (show _=(8:Int) by decide) ?_|refine CM (show _=(2:Int) by decide) ?_|refine CM (show _=(3:Int) by decide) ?_)
   all_goals exact X0 (λz=>[B z]) ((decide_eq_decide.2 (by simp[lim])))
 have c:slots k=0:=by grind [slots]
 rw[c];refine fO 15 [] Tryz.func471 rfl ?_
 repeat'(first|refine gE ?_|(conv=>whnf);first|with_reducible refine Bf.D (λa=>?_) (λa=>?_)|refine C8 (aH _ 1 16) ?_)
 exact X0 (λz=>[B z]) ((by symm;exact U0 ω))
theorem zM(k b:Int):zzA 375 false [.val none [I (slots k)],.val none [I b]] .one [B (Mr k b)]:=by
 by_cases d:0<=k/\k<=3
 ·obtain rfl|rfl|rfl|rfl:k=0\/k=1\/k=2\/k=3:=ω
  all_goals
   first|rw[show slots 0=16 from rfl]|rw[show slots 1=8 from rfl]|rw[show slots 2=4 from rfl]|rw[show slots 3=2 from rfl]
   refine fO 14 [] Tryz.func375 rfl ?_
   repeat'(first|refine gE ?_|(conv=>whnf);first|with_reducible refine Bf.D (λa=>?_) (λa=>?_)|refine C8 (aP _ 1 16) ?_|refine C8 (aP _ 0 _) ?_|refine CO (by decide) ?_|refine CM (fo (by decide) (by decide)) ?_)
   all_goals exact X0 (λz=>[B z]) ((decide_eq_decide.2 (by simp[lim,IntKind.bits])))
 have c:slots k=0:=by grind [slots]
 rw[c];refine fO 14 [] Tryz.func375 rfl ?_
 repeat'(first|refine gE ?_|(conv=>whnf);first|with_reducible refine Bf.D (λa=>?_) (λa=>?_)|refine C8 (aP _ 1 16) ?_)
 exact X0 (λz=>[B z]) ((by symm;exact U0 ω))
def gv(s:ax):zzA 352 false [.val (some 3) (ax.enc .V s)] .one [B (bi s)]:=by
 refine fO 14 [(1,12,[3,4,5,6,7,8,9,10,11,12,13,2])] Tryz.func352 rfl ?_
 repeat'(first|refine gP ?_|(conv=>whnf);first|with_reducible refine Bf.D (λa=>?_) (λa=>?_)|refine C8 (aH _ 0 31) ?_|refine C8 (nv _) ?_|refine C8 (qw _ _) ?_)
 all_goals exact X0 (λz=>[B z]) ((by unfold bi;first|(symm;exact U0 ω)|exact decide_eq_decide.2 ω))
def iA(s:ax):zzA 225 false [.val (some 3) (ax.enc .V s)] .one [B (bi s)]:=by
 refine fO 19 [(1,17,[3,4,5,6,7,8,9,10,11,12,13,14,15,16,17,18,2])] Tryz.func225 rfl ?_
 repeat'(first|refine gP ?_|(conv=>whnf);first|with_reducible refine Bf.D (λa=>?_) (λa=>?_)|refine C8 (aP _ 0 31) ?_|refine C8 (f7 _) ?_|refine C8 (iX _) ?_|refine C8 (zM _ _) ?_)
 all_goals exact X0 (λz=>[B z]) ((by unfold bi;first|(symm;exact U0 ω)|exact decide_eq_decide.2 ω))
section
variable{α:Type}{xs:List α}{p:α->Bool}{i:Nat}{y:α}
theorem BK(h:xs[i]? = some y)(a:p y=true):xs.any p=true:=t4.2 ψ
theorem yC(h:xs[i]? = some y)(a:(xs.take i).any p=false)(b:p y=false):(xs.take (i+1)).any p=false:=by grind [V5]
theorem T3(a:xs.length<=i)(b:(xs.take i).any p=false):xs.any p=false:=by grind [I7]
theorem gj[Inhabited α](a:0<i)(b:i<xs.length):xs[((i:Int) - 1).toNat]? = some (nth xs (i - 1)):=by
 rw[show((i:Int) - 1).toNat=i - 1 by omega];grind [ao]
end
theorem yD{pages:Int}{xs:List a7}(a:dn n (gh pages xs)=true)(b:i<n):1<=(nth xs i).b0/\(nth xs i).b0<=pages/\0<=(nth xs i).At/\(nth xs i).At<=pages - (nth xs i).b0:=by grind [eZ,gh,rangeIn]
theorem mH(pages:Int)(xs:List a7)(d:0<=pages/\pages<=1048576)(k:gu xs):zzA 209 false [.val none [I pages],.val none (bB .V xs)] .one [B (bC pages xs)]:=by
 have n:=k.1;refine fO 46 [(4,32,[12,13,14,15,16,17,18,19,20,21,22,23,24,25,26,27,28,29,30,31,32,33,34,35,36,37,38,39,40,41,42,43])] Tryz.func209 rfl ?_
 repeat'(first|refine gP ?_|fail)
 (conv=>whnf)
 refine CG (ι:=Nat) (λi=>[(0,.H .one [I (pages)]),(1,.H .one (bB .V xs)),(5,.H .one [I ((i:Nat):Int)])]) (λi=>i<=xs.length/\dn i (gh pages xs)=true) (λi=>xs.length - i) 0 ?_ ⟨W0 _,rfl⟩ λi e=>?_
 ·exact wB
 obtain⟨e,g⟩:=e;by_cases c:i<xs.length
 ·have j:=ao c
  have o:0<i->1<=(nth xs (i - 1)).b0/\(nth xs (i - 1)).b0<=pages/\0<=(nth xs (i - 1)).At/\(nth xs (i - 1)).At<=pages - (nth xs (i - 1)).b0:=λh=>yD g ω
  cases b:rangeIn pages (nth xs i) with
  | false=>
   have a:=w9 pages (nth xs i) d;rw[b]at a
   repeat'(first|refine gE ?_|(conv=>whnf);first|with_reducible refine CD (aa j) ?_|refine C8 a ?_)
   exact X0 (λz=>[B z]) ((by grind [cI,bC,gh]))
  | true=>
   have a:=w9 pages (nth xs i) d;rw[b]at a
   repeat'(first|refine gE ?_|(conv=>whnf);first|with_reducible (first|refine CD (aa j) ?_|refine Bf.D (λl=>?_) (λl=>?_))|refine C8 a ?_|refine CN ω (aa (gj ω c)) ?_)
   all_goals first
    | exact X0 (λz=>[B z]) ((by symm;unfold bC;rw[cI c (by unfold gh;rw[b,U0 ω];rfl)];rfl))
    | ((conv=>whnf);refine CE (i+1) ⟨ω,bQ g (by unfold gh;rw[b,O0 ω];rfl)⟩ ω ?_;(exact wB))
 repeat'(first|refine gE ?_|(conv=>whnf);first|refine C8 (aH pages 1 32) ?_)
 grind [bC]
theorem qu(pages:Int)(xs:List a7)(j:0<=pages/\pages<=1048576)(k:gu xs):zzA 75 false [.val none [I pages],.val none (bB .V xs)] .one [B (bC pages xs)]:=by
 have n:=k.1;refine fO 43 [(4,26,[14,15,16,17,18,19,20,21,22,23,24,25,26,27,28,29,30,31,32,33,34,35,36,37,38,39])] Tryz.func75 rfl ?_
 repeat'(first|refine gP ?_|fail)
 (conv=>whnf)
 refine CG (ι:=Nat) (λi=>[(0,.H .one [I (pages)]),(1,.H .one (bB .V xs)),(7,.H .one (bB .V xs)),(8,.H .one [I (xs.length)]),(9,.H .one [I ((i:Nat):Int)])]) (λi=>i<=xs.length/\dn i (gh pages xs)=true) (λi=>xs.length - i) 0 ?_ ⟨W0 _,rfl⟩ λi d=>?_
 ·exact wB
 obtain⟨d,e⟩:=d;by_cases c:i<xs.length
 ·have g:=ao c
  have o:0<i->1<=(nth xs (i - 1)).b0/\(nth xs (i - 1)).b0<=pages/\0<=(nth xs (i - 1)).At/\(nth xs (i - 1)).At<=pages - (nth xs (i - 1)).b0:=λh=>yD e ω
  have a:=y3 pages (nth xs i) j;cases b:rangeIn pages (nth xs i) with
  | false=>
   rw[b]at a
   repeat'(first|refine gE ?_|(conv=>whnf);first|with_reducible refine CD (aa g) ?_|refine C8 a ?_)
   exact X0 (λz=>[B z]) ((by grind [cI,bC,gh]))
  | true=>
   rw[b]at a
   repeat'(first|refine gE ?_|(conv=>whnf);first|with_reducible (first|refine CD (aa g) ?_|refine Bf.D (λl=>?_) (λl=>?_))|refine C8 a ?_|refine CN ω (aa (gj ω c)) ?_)
   all_goals first
    | exact X0 (λz=>[B z]) ((by symm;unfold bC;rw[cI c (by unfold gh;rw[b,U0 ω];rfl)];rfl))
    | ((conv=>whnf);refine CE (i+1) ⟨ω,bQ e (by unfold gh;rw[b,O0 ω];rfl)⟩ ω ?_;(exact wB))
 repeat'(first|refine gE ?_|(conv=>whnf);first|refine C8 (aP pages 1 32) ?_)
 grind [bC]
theorem zP(xs:List a7)(page:Int)(g:xs.length<=9223372036854775807):zzA 356 false [.val none (bB .V xs),.val none [I page]] .one [B (xs.any (vH page))]:=by
 refine fO 34 [(4,22,[12,13,14,15,16,17,18,19,20,21,22,23,24,25,26,27,28,29,30,31,32,33])] Tryz.func356 rfl ?_
 repeat'(first|refine gP ?_|fail)
 (conv=>whnf)
 refine CG (ι:=Nat) (λi=>[(0,.H .one (bB .V xs)),(1,.H .one [I (page)]),(5,.H .one [I ((i:Nat):Int)])]) (λi=>i<=xs.length/\(xs.take i).any (vH page)=false) (λi=>xs.length - i) (0) ?_ ψ λi b=>?_
 ·exact wB
 obtain⟨b,c⟩:=b;by_cases d:i<xs.length
 ·have a:=ao d
  repeat'(first|refine gE ?_|(conv=>whnf);first|with_reducible (first|refine CD (aa a) ?_|refine Bf.D (λe=>?_) (λe=>?_))|refine CM rfl ?_)
  all_goals first
   | exact X0 (λz=>[B z]) ((BK a (by unfold vH;rw[O0 (by assumption),O0 (by assumption)];rfl)).symm)
   | ((conv=>whnf);refine CE (i+1) ⟨ω,yC a c (by unfold vH;first|(rw[U0 (by assumption:¬(nth xs i).At<=page)];rfl)|(rw[U0 (by assumption:¬page<_)];simp))⟩ ω ?_;(exact wB))
 repeat'(first|refine gE ?_|fail)
 exact X0 (λz=>[B z]) ψ
def tdiv16(h:0<=z):z.tdiv 16=z / 16:=Int.tdiv_eq_ediv_of_nonneg h
theorem m8(z:Int):zzA 370 false [.val none [I z]] .one [I (fG z)]:=by
 refine fO 10 [] Tryz.func370 rfl ?_;by_cases b:9<=z/\z<=1000
 ·repeat'(first|refine gE ?_|(conv=>whnf);first|with_reducible refine Bf.D (λa=>?_) (λa=>?_)|refine C8 (aH z 9 1000) ?_|refine CO (by decide) ?_|refine CM ((X0 _ (tdiv16 ω)).trans (fo ω ω)) ?_)
  grind [fG]
 repeat'(first|refine gE ?_|(conv=>whnf);first|with_reducible refine Bf.D (λa=>?_) (λa=>?_)|refine C8 (aH z 9 1000) ?_)
 all_goals exact X0 (λz=>[I z]) (by unfold fG;rw[C9 b])
theorem zS(z:Int):zzA 191 false [.val none [I z]] .one [I (fG z)]:=by
 refine fO 10 [] Tryz.func191 rfl ?_;by_cases b:9<=z/\z<=1000
 ·repeat'(first|refine gE ?_|(conv=>whnf);first|with_reducible refine Bf.D (λa=>?_) (λa=>?_)|refine C8 (aP z 9 1000) ?_|refine CO (by decide) ?_|refine CM ((X0 _ (tdiv16 ω)).trans (fo ω ω)) ?_)
  grind [fG]
 repeat'(first|refine gE ?_|(conv=>whnf);first|with_reducible refine Bf.D (λa=>?_) (λa=>?_)|refine C8 (aP z 9 1000) ?_)
 all_goals exact X0 (λz=>[I z]) (by unfold fG;rw[C9 b])
def nC(l:ay):zzA 354 false [.val (some 3) (ay.enc .V l)] .one [B (bH l)]:=by
 have b:=m8 l.o;by_cases c:9<=l.o/\l.o<=1000
 ·rw[show fG l.o=(l.o+15) / 16 from CC c]at b
  refine fO 22 [] Tryz.func354 rfl ?_
  repeat'(first|refine gP ?_|(conv=>whnf);first|with_reducible (first|refine Bf.D (λa=>?_) (λa=>?_)|refine Bf.E (λa=>?_) (λa=>?_))|refine C8 b ?_|refine C8 (aH _ 0 _) ?_)
  all_goals exact X0 (λz=>[B z]) ((by unfold bH;first|(symm;exact U0 ω)|exact decide_eq_decide.2 ω))
 rw[show fG l.o=0 from C9 c]at b;refine fO 22 [] Tryz.func354 rfl ?_
 repeat'(first|refine gE ?_|(conv=>whnf);first|with_reducible refine Bf.D (λa=>?_) (λa=>?_)|refine C8 b ?_)
 all_goals exact X0 (λz=>[B z]) ((by unfold bH;symm;exact U0 ω))
def sw(l:ay):zzA 226 false [.val (some 3) (ay.enc .V l)] .one [B (bH l)]:=by
 have b:=zS l.o;by_cases c:9<=l.o/\l.o<=1000
 ·rw[show fG l.o=(l.o+15) / 16 from CC c]at b
  refine fO 22 [(1,20,[3,4,5,6,7,8,9,10,11,12,13,14,15,16,17,18,19,20,21,2])] Tryz.func226 rfl ?_
  repeat'(first|refine gE ?_|(conv=>whnf);first|with_reducible (first|refine Bf.D (λa=>?_) (λa=>?_)|refine Bf.E (λa=>?_) (λa=>?_))|refine C8 b ?_|refine C8 (aP _ 9 1000) ?_|refine C8 (aP _ 0 _) ?_)
  all_goals exact X0 (λz=>[B z]) ((by unfold bH;first|(symm;exact U0 ω)|exact decide_eq_decide.2 ω))
 refine fO 22 [(1,20,[3,4,5,6,7,8,9,10,11,12,13,14,15,16,17,18,19,20,21,2])] Tryz.func226 rfl ?_
 repeat'(first|refine gE ?_|(conv=>whnf);first|with_reducible refine Bf.D (λa=>?_) (λa=>?_)|refine C8 (aP _ 9 1000) ?_)
 all_goals exact X0 (λz=>[B z]) ((by unfold bH;symm;exact U0 ω))
theorem pQ(h:0<=z/\z<=9223372036854775807):(BitVec.ofInt IntKind.i64.bits z).toNat=z.toNat:=by
 show(BitVec.ofInt 64 z).toNat=z.toNat
 grind
theorem and64(h1:0<=z1/\z1<=9223372036854775807)(a:0<=z2/\z2<=9223372036854775807):IntKind.i64.wrap ((BitVec.ofInt IntKind.i64.bits z1 &&& BitVec.ofInt IntKind.i64.bits z2).toNat:Nat)=((z1.toNat &&& z2.toNat:Nat):Int):=by grind [pQ,Nat.and_le_left,fo]
theorem HA(k:Int):lim k<=65535:=by grind [lim]
variable{s:ax}
def fN(h:bi s=true):0<=s.b1/\s.b1<=9223372036854775807:=by
 unfold bi at h;simp only[C0]at h;have:=HA s.d;omega
def m7(b c:ax):zzA 357 false [.val (some 3) (ax.enc .V b),.val (some 3) (ax.enc .V c)] .one [B (meshable b c)]:=by
 have g:=gv b;have h:=gv c;cases d:bi b<;>rw[d]at g<;>cases e:bi c<;>rw[e]at h
 all_goals
  refine fO 33 [] Tryz.func357 rfl ?_
  repeat'(first|refine gP ?_|(conv=>whnf);first|with_reducible (first|refine Bf.D (λa=>?_) (λa=>?_)|refine Bf.N (λa=>?_) (λa=>?_)|refine Bf.E (λa=>?_) (λa=>?_))|refine C8 g ?_|refine C8 h ?_|refine CM (and64 (fN d) (fN e)) ?_)
  all_goals exact X0 (λz=>[B z]) ((by unfold meshable;rw[d,e];first|rfl|(symm;exact U0 ω)|(rw[Y4];simp;omega)))
def zw(b c:ax):zzA 229 false [.val (some 3) (ax.enc .V b),.val (some 3) (ax.enc .V c)] .one [B (meshable b c)]:=by
 have g:=iA b;have h:=iA c;cases d:bi b<;>rw[d]at g<;>cases e:bi c<;>rw[e]at h
 all_goals
  refine fO 33 [] Tryz.func229 rfl ?_
  repeat'(first|refine gP ?_|(conv=>whnf);first|with_reducible (first|refine Bf.D (λa=>?_) (λa=>?_)|refine Bf.N (λa=>?_) (λa=>?_)|refine Bf.E (λa=>?_) (λa=>?_))|refine C8 g ?_|refine C8 h ?_|refine CM (and64 (fN d) (fN e)) ?_)
  all_goals exact X0 (λz=>[B z]) ((by unfold meshable;rw[d,e];first|rfl|(symm;exact U0 ω)|(rw[Y4];simp;omega)))
def KE(k:Int):zzA 384 false [.val none [I k]] .one [B (decide (0<=k/\k<=15))]:=by
 refine fO 5 [] Tryz.func384 rfl ?_
 repeat'(first|refine gP ?_|(conv=>whnf);first|refine C8 (aP k 0 15) ?_)
 rfl
def vr(p:cC)(e:cC.sml p):zzA 365 false [.val (some 3) (cC.enc .V p)] .one [B (eR p)]:=by
 have h:p.U.length<=1048576:=e;refine fO 51 [(4,25,[11,12,13,14,15,16,17,18,19,20,21,22,23,24,25,26,27,28,29,30,31,32,33,34,35])] Tryz.func365 rfl ?_
 repeat'(first|refine gP ?_|fail)
 (conv=>whnf)
 refine CG (ι:=Nat) (λi=>[(1,.H .box (cC.enc .V p)),(3,.H .one [I ((i:Nat):Int)])]) (λi=>i<=p.U.length/\dn i (mw p.U)=true) (λi=>p.U.length - i) 0 ?_ ⟨W0 _,rfl⟩ λi c=>?_
 ·exact wB
 obtain⟨c,d⟩:=c;by_cases b:i<p.U.length
 ·have g:=ao b
  repeat'(first|refine gE ?_|(conv=>whnf);first|with_reducible (first|refine CD (aa g) ?_|refine Bf.D (λa=>?_) (λa=>?_))|refine C8 (aH _ 0 15) ?_|refine CN ω (aa (gj ω b)) ?_)
  all_goals first
   | exact X0 (λz=>[B z]) ((by symm;unfold eR;rw[cI b (U0 ω)];rfl))
   | ((conv=>whnf);refine CE (i+1) ⟨ω,bQ d (O0 ω)⟩ ω ?_;(exact wB))
 obtain rfl:i=p.U.length:=ω
 repeat'(first|refine gE ?_|(conv=>whnf);first|with_reducible (first|refine Bf.D (λa=>?_) (λa=>?_)|refine Bf.NB (λa=>?_) (λa=>?_)|refine Bf.N (λa=>?_) (λa=>?_))|refine C8 (aH _ 0 31) ?_)
 all_goals exact X0 (λz=>[B z]) ((by unfold eR;rw[d];simp only[Bool.true_and];first|(symm;exact U0 ω)|exact decide_eq_decide.2 ω|(rw[Y4];simp;omega)))
def Fk(p:cC)(e:cC.sml p):zzA 239 false [.val (some 3) (cC.enc .V p)] .one [B (eR p)]:=by
 have h:p.U.length<=1048576:=e;refine fO 46 [] Tryz.func239 rfl ?_
 repeat'(first|refine gP ?_|fail)
 (conv=>whnf)
 refine CG (ι:=Nat) (λi=>[(1,.H .box (cC.enc .V p)),(6,.H .one (aF .V p.U)),(7,.H .one [I (p.U.length)]),(8,.H .one [I ((i:Nat):Int)])]) (λi=>i<=p.U.length/\dn i (mw p.U)=true) (λi=>p.U.length - i) 0 ?_ ⟨W0 _,rfl⟩ λi c=>?_
 ·exact wB
 obtain⟨c,d⟩:=c;by_cases b:i<p.U.length
 ·have g:=ao b
  repeat'(first|refine gE ?_|(conv=>whnf);first|with_reducible (first|refine CD (aa g) ?_|refine Bf.D (λa=>?_) (λa=>?_))|refine C8 (KE _) ?_|refine CN ω (aa (gj ω b)) ?_)
  all_goals first
   | exact X0 (λz=>[B z]) ((by symm;unfold eR;rw[cI b (U0 ω)];rfl))
   | ((conv=>whnf);refine CE (i+1) ⟨ω,bQ d (O0 ω)⟩ ω ?_;(exact wB))
 obtain rfl:i=p.U.length:=ω
 repeat'(first|refine gE ?_|(conv=>whnf);first|with_reducible (first|refine Bf.D (λa=>?_) (λa=>?_)|refine Bf.NB (λa=>?_) (λa=>?_)|refine Bf.N (λa=>?_) (λa=>?_))|refine C8 (aP _ 0 31) ?_)
 all_goals exact X0 (λz=>[B z]) ((by unfold eR;rw[d];simp only[Bool.true_and];first|(symm;exact U0 ω)|exact decide_eq_decide.2 ω|(rw[Y4];simp;omega)))
def xC(j:cL)(a:cL.sml j):zzA 218 false [.val (some 5) (cL.enc .V j)] .one [B (jN j)]:=by
 have e:j.Y.U.length<=1048576:=a;have b:=vr j.Y a;cases c:eR j.Y<;>rw[c]at b
 all_goals
  refine fO 20 [] Tryz.func218 rfl ?_
  repeat'(first|refine gP ?_|(conv=>whnf);first|with_reducible refine Bf.D (λd=>?_) (λd=>?_)|refine C8 b ?_|refine C8 (aH _ 0 5) ?_|refine C8 (aH _ 0 _) ?_)
  all_goals exact X0 (λz=>[B z]) ((by unfold jN;rw[c];first|rfl|(symm;exact U0 ω)|(rw[Y4];simp;omega)))
def H1(j:cL)(a:cL.sml j):zzA 84 false [.val (some 5) (cL.enc .V j)] .one [B (jN j)]:=by
 have e:j.Y.U.length<=1048576:=a;have b:=Fk j.Y a;cases c:eR j.Y<;>rw[c]at b
 all_goals
  refine fO 20 [] Tryz.func84 rfl ?_
  repeat'(first|refine gP ?_|(conv=>whnf);first|with_reducible refine Bf.D (λd=>?_) (λd=>?_)|refine C8 b ?_|refine C8 (aP _ 0 5) ?_|refine C8 (aP _ 0 _) ?_)
  all_goals exact X0 (λz=>[B z]) ((by unfold jN;rw[c];first|rfl|(symm;exact U0 ω)|(rw[Y4];simp;omega)))
theorem kU(l:ay)(k:Nat):lpgs l (k+1)=lpgs l k++[l.Q+(k:Nat)]:=by grind [List.range_succ,lpgs]
theorem FA(l:ay)(k:Nat):(lpgs l k).length=k:=by unfold lpgs;simp
theorem M7(l:ay)(h:k<=n):lpgs l k <+: lpgs l n:=by
 induction n with
 | zero=>
  grind
 | succ n a=>
  grind [kU]
variable{la:List ay}
theorem pB(sp:List ax){l:ay}(h:la[i]? = some l):pgs sp (la.take (i+1))=pgs sp (la.take i)++lpgs l l.a2.toNat:=by grind [V5,pgs]
theorem P5(sp:List ax)(la:List ay)(i:Nat):pgs sp (la.take i) <+: pgs sp la:=by grind [List.take_append_drop,pgs]
variable{p:Int}{S:List Int}
theorem LL{all:List Int}(h:(S++[p]) <+: all)(a:p∈S):decide all.Nodup=false:=by grind [List.nodup_append]
theorem lJ(h:S.Nodup)(a:p∉S):(S++[p]).Nodup:=ψ
variable{sp:List ax}
theorem FG(h:sp[i]? = some s):((sp.take i).map (·.Q)++[s.Q]) <+: pgs sp la:=by
 have a:(sp.take i).map (·.Q)++[s.Q]=(sp.take (i+1)).map (·.Q):=by grind [V5]
 rw[a];refine List.IsPrefix.trans ?_ (List.prefix_append ..)
 grind
theorem Av{l:ay}(h:la[i]? = some l)(a:k<l.a2.toNat):(pgs sp (la.take i)++lpgs l k++[l.Q+(k:Nat)]) <+: pgs sp la:=by
 refine List.IsPrefix.trans ?_ (P5 sp la (i+1));rw[pB sp h,W5,<-kU]
 grind [List.prefix_append_right_inj,M7]
theorem qB(h:sp[i]? = some s)(a:bi s=false):bk sp la=false:=by grind [bk]
theorem p6{l:ay}(h:la[i]? = some l)(a:bH l=false):bk sp la=false:=by grind [bk]
theorem kR(h:(S++[p]) <+: pgs sp la)(a:p∈S):bk sp la=false:=by grind [LL,bk]
theorem sv(h1:sp.all bi=true)(a:la.all bH=true)(b:(pgs sp la).Nodup):bk sp la=true:=by grind [bk]
theorem aK{l:ay}(h:bH l=true):1<=l.a2/\l.a2<=63/\0<=l.Q/\l.Q<=31:=by grind [bH]
theorem m9(sp:List ax)(la:List ay)(t:d6 sp)(u:dx la):zzA 210 false [.val none (cq .V sp),.val none (bU .V la)] .one [B (bk sp la)]:=by
 have J:=t.1;have K:=u.1;refine fO 79 [] Tryz.func210 rfl ?_
 repeat'(first|refine gP ?_|fail)
 (conv=>whnf)
 refine CG (ι:=Nat × List Int) (λi=>[(0,.H .one (cq .V sp)),(1,.H .one (bU .V la)),(5,.H .one (aF .own i.2)),(6,.H .one [I ((i.1:Nat):Int)])]) (λi=>i.1<=sp.length/\i.2=(sp.take i.1).map (·.Q)/\(sp.take i.1).all bi=true/\i.2.Nodup) (λi=>sp.length - i.1) ((0,[])) ?_ ψ λi o=>?_
 ·exact wB
 obtain⟨i,S⟩:=i;obtain⟨o,q,d,h⟩:=o;simp only at o q d h |-;have L:S.length=i:=ψ
 by_cases w:i<sp.length
 ·have a:=ao w
  have j:=gv (nth sp i);cases e:bi (nth sp i)<;>rw[e]at j
  ·repeat'(first|refine gE ?_|(conv=>whnf);first|with_reducible refine CD (aa a) ?_|refine C8 j ?_)
   exact X0 (λz=>[B z]) ((qB a e).symm)
  repeat'(first|refine gE ?_|(conv=>whnf);first|with_reducible (first|refine CD (aa a) ?_|refine Bf.D (λy=>?_) (λy=>?_))|refine C8 j ?_|refine CF (mJ S _ ω) ⟨⟨rfl,eY _⟩,⟨rfl,rfl⟩,trivial⟩ ?_|refine CU cA (λr E=>by rw[O1.1 E];rfl) (by simp[bm,eH]) (by simp;omega) (by simp only[C1];exact yV (by simp;omega) (by decide)) rfl ?_)
  all_goals first
   | exact X0 (λz=>[B z]) ((kR (S:=S) (by rw[q];exact FG a) (by assumption)).symm)
   | ((conv=>whnf)
      refine CE (i+1,S++[(nth sp i).Q]) ⟨(by simp only;omega),(by simp only;rw[q,V5,a];simp),(db a d e),lJ h (by assumption)⟩ (by simp only;omega) ?_
      (repeat'(first|exact trivial|rfl|exact CL rfl (CL (X0 (C.s dJ.own) (by simp[rI])) trivial)|refine CL ?_ ?_)))
 obtain rfl:i=sp.length:=ω
 rw[C5]at d q
 repeat'(first|refine gE ?_|fail)
 (conv=>whnf)
 refine CG (ι:=Nat × List Int) (λi=>[(1,.H .one (bU .V la)),(5,.H .one (aF .own i.2)),(7,.H .one [I ((i.1:Nat):Int)])]) (λi=>i.1<=la.length/\i.2=pgs sp (la.take i.1)/\(la.take i.1).all bH=true/\i.2.Nodup/\i.2.length<=1048576+64*i.1) (λi=>la.length - i.1) ((0,S)) ?_ (⟨W0 _,by grind [pgs],rfl,h,by simp only;omega⟩) λi o=>?_
 ·exact wB
 obtain⟨i,S2⟩:=i;obtain⟨F,l,b,g,G⟩:=o;simp only at F l b g G |-;by_cases w:i<la.length
 ·have a:=ao w
  have j:=nC (nth la i);cases e:bH (nth la i)<;>rw[e]at j
  ·repeat'(first|refine gE ?_|(conv=>whnf);first|with_reducible refine CD (aa a) ?_|refine C8 j ?_)
   exact X0 (λz=>[B z]) ((p6 a e).symm)
  have M:=aK e
  repeat'(first|refine gE ?_|(conv=>whnf);first|with_reducible refine CD (aa a) ?_|refine C8 j ?_)
  (conv=>whnf)
  refine CG (ι:=Nat × List Int) (λk=>[(1,.H .one (bU .V la)),(5,.H .one (aF .own k.2)),(7,.H .one [I ((i:Nat):Int)]),(8,.H .one [I ((k.1:Nat):Int)])]) (λk=>k.1<=(nth la i).a2.toNat/\k.2=S2++lpgs (nth la i) k.1/\k.2.Nodup) (λk=>(nth la i).a2.toNat - k.1) ((0,S2)) ?_ (⟨W0 _,by simp[lpgs],g⟩) λk H=>?_
  ·exact wB
  obtain⟨k,p⟩:=k;obtain⟨H,n,c⟩:=H;simp only at H n c |-;have N:p.length=S2.length+k:=by grind [FA]
  by_cases O:k<(nth la i).a2.toNat
  ·repeat'(first|refine gE ?_|(conv=>whnf);first|with_reducible (first|refine CD (aa a) ?_|refine Bf.D (λy=>?_) (λy=>?_))|refine CF (mJ p _ ω) ⟨⟨rfl,eY _⟩,⟨rfl,rfl⟩,trivial⟩ ?_|refine CU cA (λr E=>by rw[O1.1 E];rfl) (by simp[bm,eH]) (by simp;omega) (by show _*8<=_;simp;omega) rfl ?_)
   all_goals first
    | exact X0 (λz=>[B z]) ((kR (S:=p) (by rw[n,l];exact Av a O) (by assumption)).symm)
    | ((conv=>whnf)
       refine CE (k+1,p++[(nth la i).Q+(k:Nat)]) ⟨(by simp only;omega),(by simp only;rw[n,kU,W5]),lJ c (by assumption)⟩ (by simp only;omega) ?_
       (repeat'(first|exact trivial|rfl|exact CL rfl (CL (X0 (C.s dJ.own) (by simp[rI])) trivial)|refine CL ?_ ?_)))
  obtain rfl:k=(nth la i).a2.toNat:=ω
  repeat'(first|refine gE ?_|(conv=>whnf);first|with_reducible refine CD (aa a) ?_)
  ((conv=>whnf);refine CE (i+1,p) ⟨(by simp only;omega),(by grind [pB]),(db a b e),c,(by simp only;omega)⟩ (by simp only;omega) ?_;(exact wB))
 obtain rfl:i=la.length:=ω
 rw[C5]at b l
 repeat'(first|refine gE ?_|fail)
 exact X0 (λz=>[B z]) ((sv d b ψ).symm)
def ins(S:List Int)(p:Int):List Int:=if p∈S then S else S++[p]
theorem HO{p:Int} : ∀{S:List Int},p∈S->mput (fL S) p (.bool true)=fL S
 | x::S,h=>by
  simp only[fL,Z5,mput];by_cases a:x=p
  ·rw[CC a,a]
  rw[C9 a];have:=HO (S:=S) ((List.mem_cons.1 h).resolve_left λe=>a e.symm)
  grind [fL]
theorem xU(S:List Int)(p:Int):fL (ins S p)=mput (fL S) p (.bool true):=by grind [HO,uH,ins]
theorem NW(S:List Int)(p:Int):zzB 224 false [.val none [I p],.ptr [.m (fL S)]] [.val none [I p],.ptr [.m (fL (ins S p))]] .one [B (decide (p∉S))]:=by
 refine fM 12 [] [] [(0,0),(0,0)] Tryz.func224 rfl (λu q=>?_)
 repeat'(first|refine gP ?_|(conv=>whnf);first|refine Ml.mk (nQ p S) ?_|refine Mu.mk (xU S p) ?_)
 refine CJ rfl ?_ ?_
 ·grind
 exact wB
theorem mn(sp:List ax)(la:List ay)(t:d6 sp)(u:dx la):zzA 76 false [.val none (cq .V sp),.val none (bU .V la)] .one [B (bk sp la)]:=by
 have F:=t.1;have G:=u.1;refine fP 54 [(224,[0,2])] [] Tryz.func76 rfl ?_
 repeat'(first|refine gP ?_|fail)
 (conv=>whnf)
 refine CG (ι:=Nat × List Int) (λi=>[(1,.H .one (bU .V la)),(5,.H .box [.m (fL i.2)]),(6,.fn 224 [5]),(14,.H .one (cq .V sp)),(15,.H .one [I (sp.length)]),(16,.H .one [I ((i.1:Nat):Int)])]) (λi=>i.1<=sp.length/\i.2=(sp.take i.1).map (·.Q)/\(sp.take i.1).all bi=true/\i.2.Nodup) (λi=>sp.length - i.1) ((0,[])) ?_ ψ λi p=>?_
 ·exact wB
 obtain⟨i,S⟩:=i;obtain⟨p,r,e,j⟩:=p;simp only at p r e j |-;by_cases w:i<sp.length
 ·have c:=ao w
  have l:=iA (nth sp i);cases g:bi (nth sp i)<;>rw[g]at l
  ·repeat'(first|refine gE ?_|(conv=>whnf);first|with_reducible refine CD (aa c) ?_|refine C8 l ?_)
   exact X0 (λz=>[B z]) ((qB c g).symm)
  repeat'(first|refine gE ?_|(conv=>whnf);first|with_reducible (first|refine CD (aa c) ?_|refine Bf.D (λy=>?_) (λy=>?_))|refine C8 l ?_|refine CK (NW S _) (.inl rfl) ?_)
  all_goals first
   | exact X0 (λz=>[B z]) ((kR (S:=S) (by rw[r];exact FG c) ψ).symm)
   |(have a:(nth sp i).Q∉S:=by assumption
     (conv=>whnf)
     refine CE (i+1,ins S (nth sp i).Q) ⟨(by simp only;omega),(by simp only;unfold ins;rw[C9 a,r,V5,c];simp),(db c e g),(by simp only;unfold ins;rw[C9 a];exact lJ j a)⟩ (by simp only;omega) ?_
     (exact wA))
 obtain rfl:i=sp.length:=ω
 rw[C5]at e r
 repeat'(first|refine gE ?_|fail)
 (conv=>whnf)
 refine CG (ι:=Nat × List Int) (λi=>[(5,.H .box [.m (fL i.2)]),(6,.fn 224 [5]),(31,.H .one (bU .V la)),(32,.H .one [I (la.length)]),(33,.H .one [I ((i.1:Nat):Int)])]) (λi=>i.1<=la.length/\i.2=pgs sp (la.take i.1)/\(la.take i.1).all bH=true/\i.2.Nodup) (λi=>la.length - i.1) ((0,S)) ?_ (⟨W0 _,by grind [pgs],rfl,j⟩) λi p=>?_
 ·exact wB
 obtain⟨i,S2⟩:=i;obtain⟨C,n,b,h⟩:=p;simp only at C n b h |-;by_cases w:i<la.length
 ·have c:=ao w
  have l:=sw (nth la i);cases g:bH (nth la i)<;>rw[g]at l
  ·repeat'(first|refine gE ?_|(conv=>whnf);first|with_reducible refine CD (aa c) ?_|refine C8 l ?_)
   exact X0 (λz=>[B z]) ((p6 c g).symm)
  have H:=aK g
  repeat'(first|refine gE ?_|(conv=>whnf);first|with_reducible refine CD (aa c) ?_|refine C8 l ?_)
  (conv=>whnf)
  refine CG (ι:=Nat × List Int) (λk=>[(5,.H .box [.m (fL k.2)]),(6,.fn 224 [5]),(10,.H .box (ay.enc .V (nth la i))),(11,.H .one [I ((k.1:Nat):Int)]),(31,.H .one (bU .V la)),(32,.H .one [I (la.length)]),(33,.H .one [I ((i:Nat):Int)])]) (λk=>k.1<=(nth la i).a2.toNat/\k.2=S2++lpgs (nth la i) k.1/\k.2.Nodup) (λk=>(nth la i).a2.toNat - k.1) ((0,S2)) ?_ (⟨W0 _,by simp[lpgs],h⟩) λk E=>?_
  ·exact wB
  obtain⟨k,q⟩:=k;obtain⟨E,o,d⟩:=E;simp only at E o d |-;by_cases J:k<(nth la i).a2.toNat
  ·repeat'(first|refine gE ?_|(conv=>whnf);first|with_reducible refine Bf.D (λy=>?_) (λy=>?_)|refine CK (NW q _) (.inl rfl) ?_)
   all_goals first
    | exact X0 (λz=>[B z]) ((kR (S:=q) (by rw[o,n];exact Av c J) ψ).symm)
    |(have a:(nth la i).Q+(k:Nat)∉q:=by assumption
      (conv=>whnf)
      refine CE (k+1,ins q ((nth la i).Q+(k:Nat))) ⟨(by simp only;omega),(by simp only;unfold ins;rw[C9 a,o,kU,W5]),(by simp only;unfold ins;rw[C9 a];exact lJ d a)⟩ (by simp only;omega) ?_
      (exact wA))
  obtain rfl:k=(nth la i).a2.toNat:=ω
  repeat'(first|refine gE ?_|fail)
  ((conv=>whnf);refine CE (i+1,q) ⟨(by simp only;omega),(by grind [pB]),(db c b g),d⟩ (by simp only;omega) ?_;(exact wB))
 obtain rfl:i=la.length:=ω
 rw[C5]at b n
 repeat'(first|refine gE ?_|fail)
 exact X0 (λz=>[B z]) ((sv e b ψ).symm)
theorem aE(h:bi s=true):0<=s.Q/\s.Q<=31/\0<=s.d/\s.d<=3:=by grind [bi]
theorem bW{k:Int}(h:0<=k/\k<=3):csz k=1\/csz k=2\/csz k=4\/csz k=8:=by
 obtain rfl|rfl|rfl|rfl:k=0\/k=1\/k=2\/k=3:=ω
 all_goals decide
def jX{x y:Int}(h:0<=x):x.tdiv y=x / y:=Int.tdiv_eq_ediv_of_nonneg h
def eG{x y:Int}(h:0<=x):x.tmod y=x % y:=Int.tmod_eq_emod_of_nonneg h
def S2(p:Int × Int):List C:=[I p.1,I p.2]
theorem A6{p:Int × Int}(h:(a,b)=p):[I a,I b]=S2 p:=by subst h;rfl
theorem uR(s:ax)(a:Int)(k:ni a):zzA 473 false [.val (some 3) (ax.enc .V s),.val none [I a]] (.tup [none,none]) (S2 (iV s a)):=by
 have c:=gv s;have l:=ed s.d;obtain⟨n,o⟩:=k;cases d:bi s<;>rw[d]at c
 ·refine fO 33 [(4,12,[23,24,25,26,27,28,29,30,31,32,4,5])] Tryz.func473 rfl ?_ (.inr ⟨trivial,trivial,trivial⟩)
  repeat'(first|refine gP ?_|(conv=>whnf);first|refine C8 c ?_)
  exact A6 (by grind [iV,cW])
 have h:=aE d;have i:=bW ⟨h.2.2.1,h.2.2.2⟩;by_cases g:16*s.Q<=a/\a<=16*s.Q+15
 ·have j:0<=a:=ω
  refine fO 33 [(4,12,[23,24,25,26,27,28,29,30,31,32,4,5])] Tryz.func473 rfl ?_ (.inr ⟨trivial,trivial,trivial⟩)
  repeat'(first|refine gE ?_|(conv=>whnf);first|with_reducible refine Bf.N (λb=>?_) (λb=>?_)|refine C8 c ?_|refine C8 l ?_|refine CO (by decide) ?_|refine CO ω ?_|refine CM ((X0 _ (jX j)).trans (fo ω ω)) ?_|refine CR (eG j) ?_|refine CM ((X0 _ (jX ω)).trans (fo (by rcases i with e|e|e|e<;>rw[e]<;>omega) (by rcases i with e|e|e|e<;>rw[e]<;>omega))) ?_|refine CR (eG ω) ?_)
  all_goals grind [A6,iV,cW]
 refine fO 33 [(4,12,[23,24,25,26,27,28,29,30,31,32,4,5])] Tryz.func473 rfl ?_ (.inr ⟨trivial,trivial,trivial⟩)
 repeat'(first|refine gP ?_|(conv=>whnf);first|with_reducible (first|refine Bf.D (λb=>?_) (λb=>?_)|refine Bf.N (λb=>?_) (λb=>?_))|refine C8 c ?_|refine CO (by decide) ?_|refine CM ((X0 _ (jX ω)).trans (fo ω ω)) ?_)
 all_goals first
  |exact A6 (by unfold iV cW;rw[d,U0 g];rfl)
  |(exfalso;omega)
theorem F8(s:ax)(a:Int):zzA 379 false [.val (some 3) (ax.enc .V s),.val none [I a]] (.tup [none,none]) (S2 (iV s a)):=by
 have b:=iA s;have j:=dU s.d;cases c:bi s<;>rw[c]at b
 ·refine fO 38 [(4,12,[28,29,30,31,32,33,34,35,36,37,4,5])] Tryz.func379 rfl ?_ (.inr ⟨trivial,trivial,trivial⟩)
  repeat'(first|refine gP ?_|(conv=>whnf);first|refine C8 b ?_)
  exact A6 (by grind [iV,cW])
 have h:=aE c;have i:=bW ⟨h.2.2.1,h.2.2.2⟩;by_cases d:16*s.Q<=a/\a<=16*s.Q+15
 ·refine fO 38 [(4,12,[28,29,30,31,32,33,34,35,36,37,4,5])] Tryz.func379 rfl ?_ (.inr ⟨trivial,trivial,trivial⟩)
  repeat'(first|refine gE ?_|(conv=>whnf);first|with_reducible refine Bf.D (λg=>?_) (λg=>?_)|refine C8 b ?_|refine C8 j ?_|refine C8 (aP _ _ _) ?_|refine CO ω ?_|refine CM ((X0 _ (jX ω)).trans (fo (by rcases i with e|e|e|e<;>rw[e]<;>omega) (by rcases i with e|e|e|e<;>rw[e]<;>omega))) ?_|refine CR (eG ω) ?_)
  grind [A6,iV,cW]
 refine fO 38 [(4,12,[28,29,30,31,32,33,34,35,36,37,4,5])] Tryz.func379 rfl ?_ (.inr ⟨trivial,trivial,trivial⟩)
 repeat'(first|refine gE ?_|(conv=>whnf);first|with_reducible refine Bf.D (λg=>?_) (λg=>?_)|refine C8 b ?_|refine C8 (aP _ _ _) ?_)
 all_goals exact A6 (by unfold iV cW;rw[c,U0 d];rfl)
def pZ(b i:Int):zzA 547 false [.val none [I b],.val none [I i]] .one [B (decide (0<=b/\0<=i/\i<=15))]:=by
 refine fO 11 [] Tryz.func547 rfl ?_
 repeat'(first|refine gP ?_|(conv=>whnf);first|with_reducible refine Bf.D (λa=>?_) (λa=>?_)|refine C8 (aH _ 0 15) ?_)
 all_goals exact X0 (λz=>[B z]) ((by first|(symm;exact U0 ω)|exact decide_eq_decide.2 ω))
def tF(b i:Int):zzA 457 false [.val none [I b],.val none [I i]] .one [B (decide (0<=b/\0<=i/\i<=15))]:=by
 refine fO 11 [] Tryz.func457 rfl ?_
 repeat'(first|refine gP ?_|(conv=>whnf);first|with_reducible refine Bf.D (λa=>?_) (λa=>?_)|refine C8 (aP _ 0 15) ?_)
 all_goals exact X0 (λz=>[B z]) ((by first|(symm;exact U0 ω)|exact decide_eq_decide.2 ω))
theorem LB{i:Int}(a:0<=b/\b<=9223372036854775807)(e:0<=i/\i<=15):b.fdiv (2 ^ min i.toNat IntKind.i64.bits)=b / 2 ^ i.toNat/\0<=b / 2 ^ i.toNat/\b / 2 ^ i.toNat<=9223372036854775807:=by
 have d:min i.toNat IntKind.i64.bits=i.toNat:=Nat.min_eq_left (show i.toNat<=64 by omega);rw[d];have c:(0:Int)<=2 ^ i.toNat:=ψ
 refine⟨Int.fdiv_eq_ediv_of_nonneg _ c,Int.ediv_nonneg a.1 c,?_⟩;have:=Int.ediv_le_self (2 ^ i.toNat:Int) a.1;omega
theorem yl{i:Int}(a:0<=b)(c:0<=i/\i<=15):((((b / 2 ^ i.toNat).toNat &&& (1:Int).toNat:Nat):Int) == 1)=aW b i:=by
 have d:(0:Int)<=b / 2 ^ i.toNat:=Int.ediv_nonneg a ψ
 grind [aW]
theorem iN(b i:Int)(c:b<=9223372036854775807):zzA 474 false [.val none [I b],.val none [I i]] .one [B (aW b i)]:=by
 by_cases h:0<=b/\0<=i/\i<=15
 ·obtain⟨d,g⟩:=LB (b:=b) (i:=i) ⟨h.1,c⟩ h.2
  have j:IntKind.u64.wrap i=i:=by grind [Go.IntKind.wrap,Go.IntKind.bits]
  refine fO 16 [] Tryz.func474 rfl ?_
  repeat'(first|refine gE ?_|(conv=>whnf);first|with_reducible refine Bf.D (λa=>?_) (λa=>?_)|refine C8 (pZ _ _) ?_|refine CO ω ?_|refine CM j ?_|refine CR d ?_|refine CM (and64 g ⟨by decide,by decide⟩) ?_)
  grind [yl]
 refine fO 16 [] Tryz.func474 rfl ?_
 repeat'(first|refine gE ?_|(conv=>whnf);first|with_reducible refine Bf.D (λa=>?_) (λa=>?_)|refine C8 (pZ _ _) ?_)
 all_goals exact X0 (λz=>[B z]) ((by unfold aW;symm;exact U0 λe=>h ⟨e.1,e.2.1,e.2.2.1⟩))
theorem nw(b i:Int)(c:b<=9223372036854775807):zzA 380 false [.val none [I b],.val none [I i]] .one [B (aW b i)]:=by
 by_cases h:0<=b/\0<=i/\i<=15
 ·obtain⟨d,g⟩:=LB (b:=b) (i:=i) ⟨h.1,c⟩ h.2
  refine fO 15 [] Tryz.func380 rfl ?_
  repeat'(first|refine gE ?_|(conv=>whnf);first|with_reducible refine Bf.D (λa=>?_) (λa=>?_)|refine C8 (tF _ _) ?_|refine CO ω ?_|refine CR d ?_|refine CM (and64 g ⟨by decide,by decide⟩) ?_)
  grind [yl]
 refine fO 15 [] Tryz.func380 rfl ?_
 repeat'(first|refine gE ?_|(conv=>whnf);first|with_reducible refine Bf.D (λa=>?_) (λa=>?_)|refine C8 (tF _ _) ?_)
 all_goals exact X0 (λz=>[B z]) ((by unfold aW;symm;exact U0 λe=>h ⟨e.1,e.2.1,e.2.2.1⟩))
theorem cX{l:ay}(h:bH l=true):9<=l.o/\l.o<=1000/\0<=l.Q/\l.Q<=31:=by grind [bH]
theorem qD(l:ay)(a:Int):zzA 475 false [.val (some 3) (ay.enc .V l),.val none [I a]] .one [B (bp l a)]:=by
 have b:=nC l;cases c:bH l<;>rw[c]at b
 ·refine fO 24 [] Tryz.func475 rfl ?_
  repeat'(first|refine gP ?_|(conv=>whnf);first|refine C8 b ?_)
  exact X0 (λz=>[B z]) ((by grind [bp]))
 have e:=cX c;refine fO 24 [] Tryz.func475 rfl ?_
 repeat'(first|refine gP ?_|(conv=>whnf);first|with_reducible refine Bf.D (λd=>?_) (λd=>?_)|refine C8 b ?_)
 all_goals exact X0 (λz=>[B z]) ((by unfold bp;rw[c,Bool.true_and];first|(symm;exact U0 ω)|exact decide_eq_decide.2 ω))
theorem qp(l:ay)(a:Int):zzA 381 false [.val (some 3) (ay.enc .V l),.val none [I a]] .one [B (bp l a)]:=by
 have b:=sw l;cases c:bH l<;>rw[c]at b
 ·refine fO 21 [] Tryz.func381 rfl ?_
  repeat'(first|refine gP ?_|(conv=>whnf);first|refine C8 b ?_)
  exact X0 (λz=>[B z]) ((by grind [bp]))
 have e:=cX c;refine fO 21 [] Tryz.func381 rfl ?_
 repeat'(first|refine gP ?_|(conv=>whnf);first|with_reducible refine Bf.D (λd=>?_) (λd=>?_)|refine C8 b ?_|refine C8 (aP _ _ _) ?_)
 grind [bp]
theorem t8(l:ay)(a:Int)(h:bp l a=true):zzA 476 false [.val (some 3) (ay.enc .V l),.val none [I a]] .one [I (a - 16*l.Q)]:=by
 have b:=qD l a;rw[h]at b;unfold bp at h;simp only[I0,C0]at h;have c:=cX h.1;refine fO 14 [] Tryz.func476 rfl ?_
 repeat'(first|refine gP ?_|(conv=>whnf);first|refine C8 b ?_)
 grind
theorem u9(l:ay)(a:Int)(h:bp l a=true):zzA 382 false [.val (some 3) (ay.enc .V l),.val none [I a]] .one [I (a - 16*l.Q)]:=by
 have b:=qp l a;rw[h]at b;unfold bp at h;simp only[I0,C0]at h;have c:=cX h.1;refine fO 14 [] Tryz.func382 rfl ?_
 repeat'(first|refine gP ?_|(conv=>whnf);first|refine C8 b ?_)
 grind
variable{m:aJ}
theorem pO(a:i<m.T.length)(h:gL m i=false):bu m=false:=by grind [cI,bu]
theorem xv(h:¬(1<=m.T.length/\m.T.length<=4/\m.y.length=m.T.length)):bu m=false:=by grind [bu]
theorem yI(h1:1<=m.T.length/\m.T.length<=4/\m.y.length=m.T.length)(a:dn m.T.length (gL m)=true):bu m=decide (br m m.T.length<=30):=by grind [bu]
theorem lQ(m:aJ)(h:aJ.sml m):zzA 111 false [.val (some 2) (aJ.enc .V m)] .one [B (bu m)]:=by
 have r:m.T.length<=1048576:=h.1.1;have t:m.y.length<=1048576:=h.2.1;by_cases u:1<=m.T.length/\m.T.length<=4/\m.y.length=m.T.length
 ·refine fO 92 [(19,15,[75,76,77,78,79,80,81,82,83,84,85,86,87,88,89])] Tryz.func111 rfl ?_
  repeat'(first|refine gB ?_|(conv=>whnf);first|with_reducible (first|refine Bf.D (λa=>?_) (λa=>?_)|refine Bf.N (λa=>?_) (λa=>?_))|refine C8 (aH _ 1 4) ?_)
  (conv=>whnf)
  refine CG (ι:=Nat) (λi=>[(1,.H .box (aJ.enc .V m)),(3,.H .one [I (m.T.length)]),(4,.H .one [I (br m i)]),(5,.H .one [I ((i:Nat):Int)])]) (λi=>i<=m.T.length/\dn i (gL m)=true/\0<=br m i/\br m i<=2097152*i) (λi=>m.T.length - i) (0) ?_ (⟨W0 _,rfl,by simp[br],by simp[br]⟩) λi n=>?_
  ·exact wB
  obtain⟨n,w,F,G⟩:=n;by_cases j:i<m.T.length
  ·have l:=ao j
   have o:=ao (xs:=m.y) (i:=i) ω;have y:(nth m.T i).length<=1048576:=(h.1.2 _ (am j)).1;have C:(nth m.y i).length<=1048576:=h.2.2 _ ψ
   repeat'(first|refine gE ?_|fail)
   (conv=>whnf)
   refine CG (ι:=Nat) (λk=>[(1,.H .box (aJ.enc .V m)),(3,.H .one [I (m.T.length)]),(4,.H .one [I (br m i)]),(5,.H .one [I ((i:Nat):Int)]),(6,.H .one [I ((k:Nat):Int)])]) (λk=>k<=(nth m.T i).length/\((nth m.T i).take k).all (nI m.T.length)=true) (λk=>(nth m.T i).length - k) (0) ?_ ψ λk p=>?_
   ·exact wB
   obtain⟨p,q⟩:=p;by_cases E:k<(nth m.T i).length
   ·have c:=ao E
    repeat'(first|refine gE ?_|(conv=>whnf);first|with_reducible (first|refine CD (aa l) ?_|refine CD (aa c) ?_|refine Bf.D (λa=>?_) (λa=>?_))|refine C8 (aH _ 0 _) ?_)
    all_goals first
     | exact X0 (λz=>[B z]) ((pO j (by unfold gL;rw[gp c (by unfold nI;exact U0 ω)];rfl)).symm)
     | ((conv=>whnf);refine CE (k+1) ⟨ω,db c q (by unfold nI;exact O0 ω)⟩ ω ?_;(exact wB))
   have H:=nE ω q
   repeat'(first|refine gE ?_|(conv=>whnf);first|with_reducible refine CD (aa l) ?_)
   (conv=>whnf)
   refine CG (ι:=Nat) (λb=>[(1,.H .box (aJ.enc .V m)),(3,.H .one [I (m.T.length)]),(4,.H .one [I (br m i)]),(5,.H .one [I ((i:Nat):Int)]),(8,.H .one [I ((b:Nat):Int)])]) (λb=>b<=(nth m.y i).length/\((nth m.y i).take b).all QI=true) (λb=>(nth m.y i).length - b) (0) ?_ ψ λb e=>?_
   ·exact wB
   obtain⟨e,ak2⟩:=e;by_cases lk2:b<(nth m.y i).length
   ·have c:=ao lk2
    repeat'(first|refine gE ?_|(conv=>whnf);first|with_reducible (first|refine CD (aa o) ?_|refine CD (aa c) ?_|refine Bf.D (λa=>?_) (λa=>?_)))
    all_goals first
     | exact X0 (λz=>[B z]) ((pO j (by unfold gL;rw[gp c (by unfold QI;exact U0 ω)];simp)).symm)
     | ((conv=>whnf);refine CE (b+1) ⟨ω,db c ak2 (by unfold QI;exact O0 ω)⟩ ω ?_;(exact wB))
   have ae2:=nE ω ak2;have g:br m (i+1)=br m i+((nth m.T i).length+(nth m.y i).length):=rfl;have d:br m (i+1)=br m i+(nth m.T i).length+(nth m.y i).length:=by rw[g];omega
   repeat'(first|refine gE ?_|(conv=>whnf);first|with_reducible (first|refine CD (aa l) ?_|refine CD (aa o) ?_))
   ((conv=>whnf);refine CE (i+1) ⟨ω,bQ w (by grind [gL]),ω,ω⟩ ω ?_)
   rw[d];exact wB
  obtain rfl:i=m.T.length:=ω
  repeat'(first|refine gE ?_|fail)
  grind [yI]
 refine fO 92 [(19,15,[75,76,77,78,79,80,81,82,83,84,85,86,87,88,89])] Tryz.func111 rfl ?_
 repeat'(first|refine gP ?_|(conv=>whnf);first|with_reducible (first|refine Bf.D (λa=>?_) (λa=>?_)|refine Bf.N (λa=>?_) (λa=>?_))|refine C8 (aH _ 1 4) ?_)
 all_goals first
  | exact X0 (λz=>[B z]) ((xv u).symm)
  |(exfalso;omega)
theorem lN(m:aJ)(g:aJ.sml m):zzA 78 false [.val (some 2) (aJ.enc .V m)] .one [B (bu m)]:=by
 have q:m.T.length<=1048576:=g.1.1;have r:m.y.length<=1048576:=g.2.1;by_cases t:1<=m.T.length/\m.T.length<=4/\m.y.length=m.T.length
 ·refine fO 82 [(20,15,[64,65,66,67,68,69,70,71,72,73,74,75,76,77,78])] Tryz.func78 rfl ?_
  repeat'(first|refine gB ?_|(conv=>whnf);first|with_reducible (first|refine Bf.D (λa=>?_) (λa=>?_)|refine Bf.N (λa=>?_) (λa=>?_))|refine C8 (aP _ 1 4) ?_)
  (conv=>whnf)
  refine CG (ι:=Nat) (λi=>[(1,.H .box (aJ.enc .V m)),(3,.H .one [I (m.T.length)]),(4,.H .one [I (br m i)]),(25,.H .one [I (m.T.length)]),(26,.H .one [I ((i:Nat):Int)])]) (λi=>i<=m.T.length/\dn i (gL m)=true/\0<=br m i/\br m i<=2097152*i) (λi=>m.T.length - i) (0) ?_ (⟨W0 _,rfl,by simp[br],by simp[br]⟩) λi n=>?_
  ·exact wB
  obtain⟨n,u,E,F⟩:=n;by_cases h:i<m.T.length
  ·have j:=ao h
   have l:=ao (xs:=m.y) (i:=i) ω;have w:(nth m.T i).length<=1048576:=(g.1.2 _ (am h)).1;have y:(nth m.y i).length<=1048576:=g.2.2 _ ψ
   repeat'(first|refine gE ?_|(conv=>whnf);first|with_reducible refine CD (aa j) ?_)
   (conv=>whnf)
   refine CG (ι:=Nat) (λk=>[(1,.H .box (aJ.enc .V m)),(3,.H .one [I (m.T.length)]),(4,.H .one [I (br m i)]),(5,.H .one [I ((i:Nat):Int)]),(25,.H .one [I (m.T.length)]),(26,.H .one [I ((i:Nat):Int)]),(33,.H .one (cb .V (nth m.T i))),(34,.H .one [I ((nth m.T i).length)]),(35,.H .one [I ((k:Nat):Int)])]) (λk=>k<=(nth m.T i).length/\((nth m.T i).take k).all (nI m.T.length)=true) (λk=>(nth m.T i).length - k) (0) ?_ ψ λk o=>?_
   ·exact wB
   obtain⟨o,p⟩:=o;by_cases C:k<(nth m.T i).length
   ·have c:=ao C
    repeat'(first|refine gE ?_|(conv=>whnf);first|with_reducible (first|refine CD (aa j) ?_|refine CD (aa c) ?_|refine Bf.D (λa=>?_) (λa=>?_))|refine C8 (aP _ 0 _) ?_)
    all_goals first
     | exact X0 (λz=>[B z]) ((pO h (by unfold gL;rw[gp c (by unfold nI;exact U0 ω)];rfl)).symm)
     | ((conv=>whnf);refine CE (k+1) ⟨ω,db c p (by unfold nI;exact O0 ω)⟩ ω ?_;(exact wB))
   have G:=nE ω p
   repeat'(first|refine gE ?_|(conv=>whnf);first|with_reducible (first|refine CD (aa j) ?_|refine CD (aa l) ?_))
   (conv=>whnf)
   refine CG (ι:=Nat) (λb=>[(1,.H .box (aJ.enc .V m)),(3,.H .one [I (m.T.length)]),(4,.H .one [I (br m i)]),(5,.H .one [I ((i:Nat):Int)]),(25,.H .one [I (m.T.length)]),(26,.H .one [I ((i:Nat):Int)]),(55,.H .one (aF .V (nth m.y i))),(56,.H .one [I ((nth m.y i).length)]),(57,.H .one [I ((b:Nat):Int)])]) (λb=>b<=(nth m.y i).length/\((nth m.y i).take b).all QI=true) (λb=>(nth m.y i).length - b) (0) ?_ ψ λb d=>?_
   ·exact wB
   obtain⟨d,ak2⟩:=d;by_cases lk2:b<(nth m.y i).length
   ·have c:=ao lk2
    repeat'(first|refine gE ?_|(conv=>whnf);first|with_reducible (first|refine CD (aa l) ?_|refine CD (aa c) ?_|refine Bf.D (λa=>?_) (λa=>?_)))
    all_goals first
     | exact X0 (λz=>[B z]) ((pO h (by unfold gL;rw[gp c (by unfold QI;exact U0 ω)];simp)).symm)
     | ((conv=>whnf);refine CE (b+1) ⟨ω,db c ak2 (by unfold QI;exact O0 ω)⟩ ω ?_;(exact wB))
   have ae2:=nE ω ak2;have e:br m (i+1)=br m i+((nth m.T i).length+(nth m.y i).length):=rfl
   repeat'(first|refine gE ?_|(conv=>whnf);first|with_reducible (first|refine CD (aa j) ?_|refine CD (aa l) ?_))
   ((conv=>whnf);refine CE (i+1) ⟨ω,bQ u (by grind [gL]),ω,ω⟩ ω ?_)
   rw[e];exact wB
  obtain rfl:i=m.T.length:=ω
  repeat'(first|refine gE ?_|fail)
  grind [yI]
 refine fO 82 [(20,15,[64,65,66,67,68,69,70,71,72,73,74,75,76,77,78])] Tryz.func78 rfl ?_
 repeat'(first|refine gP ?_|(conv=>whnf);first|with_reducible (first|refine Bf.D (λa=>?_) (λa=>?_)|refine Bf.N (λa=>?_) (λa=>?_))|refine C8 (aP _ 1 4) ?_)
 all_goals first
  | exact X0 (λz=>[B z]) ((xv t).symm)
  |(exfalso;omega)
def AK(h:cW s a=false):S2 (iV s a)=[I (-1),I (-1)]:=by
 unfold iV;rw[h];rfl
def wZ(h:cW s a=true):S2 (iV s a)=[I ((a - 16*s.Q) / csz s.d),I ((a - 16*s.Q) % csz s.d)]:=by
 unfold iV;rw[h];rfl
theorem sS(h:cW s a=true):bi s=true/\0<=(a - 16*s.Q) / csz s.d/\(a - 16*s.Q) / csz s.d<=15:=by
 unfold cW at h;simp only[I0,C0]at h;have b:=aE h.1
 grind [bW]
def nl(b:i<sp.length)(h:cW (nth sp i) a=true)(c:∀(j:Nat)(z:ax),j<i->sp[j]? = some z->cW z a=false):denotes sp la a=nX i (nth sp i) a:=by
 unfold denotes;rw[wb (pr:=(cW · a)) (ao b) h c]
def mD(b:sp.length<=n)(c:∀(j:Nat)(z:ax),j<n->sp[j]? = some z->cW z a=false)(d:i<la.length)(h:bp (nth la i) a=true)(e:∀(j:Nat)(z:ay),j<i->la[j]? = some z->bp z a=false) :
  denotes sp la a = ⟨3,i,0,a - 16*(nth la i).Q⟩:=by
 unfold denotes;rw[Di (pr:=(cW · a)) b c,wb (pr:=(bp · a)) (ao d) h e]
theorem xT(b:sp.length<=n)(c:∀(j:Nat)(z:ax),j<n->sp[j]? = some z->cW z a=false)(d:la.length<=k)(e:∀(j:Nat)(z:ay),j<k->la[j]? = some z->bp z a=false):denotes sp la a = ⟨0,0,0,0⟩:=by grind [Di,denotes]
theorem om(sp:List ax)(la:List ay)(a:Int)(d:d6 sp)(e:dx la)(g:bk sp la=true)(C:ni a):zzA 362 false [.val none (cq .V sp),.val none (bU .V la),.val none [I a]] .agg (iv.enc .own (denotes sp la a)):=by
 have E:=d.1;have F:=e.1;have p:=m9 sp la d e;rw[g]at p;refine fO 67 [] Tryz.func362 rfl ?_ (.inr (iv.enc_fr _))
 repeat'(first|refine gP ?_|(conv=>whnf);first|refine C8 p ?_)
 (conv=>whnf)
 refine CG (ι:=Nat) (λi=>[(0,.H .one (cq .V sp)),(1,.H .one (bU .V la)),(2,.H .one [I (a)]),(6,.H .box ([I 0,I 0,I 0,I 0])),(7,.H .one [I ((i:Nat):Int)])]) (λi=>i<=sp.length/\∀(j:Nat)(z:ax),j<i->sp[j]? = some z->cW z a=false) (λi=>sp.length - i) (0) ?_ ψ λi q=>?_
 ·exact wB
 obtain⟨q,l⟩:=q;by_cases r:i<sp.length
 ·have h:=ao r
  have b:=uR (nth sp i) a C;cases c:cW (nth sp i) a with
  | false=>
   rw[AK c]at b
   repeat'(first|refine gE ?_|(conv=>whnf);first|with_reducible (first|refine CD (aa h) ?_|refine Bf.D (λo=>?_) (λo=>?_))|refine C8 b ?_)
   ((conv=>whnf);refine CE (i+1) ψ ω ?_;(exact wB))
  | true=>
   rw[wZ c]at b;obtain⟨G,H,J⟩:=sS c;have t:=iN (nth sp i).b1 ((a - 16*(nth sp i).Q) / csz (nth sp i).d) (fN G).2;cases u:aW (nth sp i).b1 ((a - 16*(nth sp i).Q) / csz (nth sp i).d)<;>rw[u]at t
   all_goals
    repeat'(first|refine gE ?_|(conv=>whnf);first|with_reducible (first|refine CD (aa h) ?_|refine Bf.D (λo=>?_) (λo=>?_))|refine C8 b ?_|refine C8 t ?_)
    all_goals(rw[nl r c l];unfold nX;rw[u];rfl)
 repeat'(first|refine gE ?_|fail)
 (conv=>whnf)
 refine CG (ι:=Nat) (λk=>[(1,.H .one (bU .V la)),(2,.H .one [I (a)]),(6,.H .box ([I 0,I 0,I 0,I 0])),(11,.H .one [I ((k:Nat):Int)])]) (λk=>k<=la.length/\∀(j:Nat)(z:ay),j<k->la[j]? = some z->bp z a=false) (λk=>la.length - k) (0) ?_ ψ λk w=>?_
 ·exact wB
 obtain⟨w,y⟩:=w;by_cases B:k<la.length
 ·have h:=ao B
  have b:=qD (nth la k) a;cases c:bp (nth la k) a<;>rw[c]at b
  ·repeat'(first|refine gE ?_|(conv=>whnf);first|with_reducible refine CD (aa h) ?_|refine C8 b ?_)
   ((conv=>whnf);refine CE (k+1) ψ ω ?_;(exact wB))
  repeat'(first|refine gE ?_|(conv=>whnf);first|with_reducible refine CD (aa h) ?_|refine C8 b ?_|refine C8 (t8 (nth la k) a c) ?_)
  rw[mD (n:=i) ω l B c y];rfl
 repeat'(first|refine gE ?_|fail)
 rw[xT (n:=i) (k:=k) ω l ω y];rfl
theorem iJ(sp:List ax)(la:List ay)(a:Int)(e:d6 sp)(g:dx la):zzA 235 false [.val none (cq .V sp),.val none (bU .V la),.val none [I a]] .agg (iv.enc .own (denotes sp la a)):=by
 have y:=e.1;have B:=g.1;refine fO 56 [] Tryz.func235 rfl ?_ (.inr (iv.enc_fr _))
 repeat'(first|refine gP ?_|fail)
 (conv=>whnf)
 refine CG (ι:=Nat) (λi=>[(1,.H .one (bU .V la)),(2,.H .one [I (a)]),(6,.H .box ([I 0,I 0,I 0,I 0])),(14,.H .one (cq .V sp)),(15,.H .one [I (sp.length)]),(16,.H .one [I ((i:Nat):Int)])]) (λi=>i<=sp.length/\∀(j:Nat)(z:ax),j<i->sp[j]? = some z->cW z a=false) (λi=>sp.length - i) (0) ?_ ψ λi o=>?_
 ·exact wB
 obtain⟨o,h⟩:=o;by_cases p:i<sp.length
 ·have d:=ao p
  have b:=F8 (nth sp i) a;cases c:cW (nth sp i) a with
  | false=>
   rw[AK c]at b
   repeat'(first|refine gE ?_|(conv=>whnf);first|with_reducible (first|refine CD (aa d) ?_|refine Bf.D (λl=>?_) (λl=>?_))|refine C8 b ?_)
   ((conv=>whnf);refine CE (i+1) ψ ω ?_;(exact wB))
  | true=>
   rw[wZ c]at b;obtain⟨C,E,F⟩:=sS c;have q:=nw (nth sp i).b1 ((a - 16*(nth sp i).Q) / csz (nth sp i).d) (fN C).2;cases r:aW (nth sp i).b1 ((a - 16*(nth sp i).Q) / csz (nth sp i).d)<;>rw[r]at q
   all_goals
    repeat'(first|refine gE ?_|(conv=>whnf);first|with_reducible (first|refine CD (aa d) ?_|refine Bf.D (λl=>?_) (λl=>?_))|refine C8 b ?_|refine C8 q ?_)
    all_goals(rw[nl p c h];unfold nX;rw[r];rfl)
 repeat'(first|refine gE ?_|fail)
 (conv=>whnf)
 refine CG (ι:=Nat) (λk=>[(2,.H .one [I (a)]),(6,.H .box ([I 0,I 0,I 0,I 0])),(39,.H .one (bU .V la)),(40,.H .one [I (la.length)]),(41,.H .one [I ((k:Nat):Int)])]) (λk=>k<=la.length/\∀(j:Nat)(z:ay),j<k->la[j]? = some z->bp z a=false) (λk=>la.length - k) (0) ?_ ψ λk t=>?_
 ·exact wB
 obtain⟨t,u⟩:=t;by_cases w:k<la.length
 ·have d:=ao w
  have b:=qp (nth la k) a;cases c:bp (nth la k) a<;>rw[c]at b
  ·repeat'(first|refine gE ?_|(conv=>whnf);first|with_reducible refine CD (aa d) ?_|refine C8 b ?_)
   ((conv=>whnf);refine CE (k+1) ψ ω ?_;(exact wB))
  repeat'(first|refine gE ?_|(conv=>whnf);first|with_reducible refine CD (aa d) ?_|refine C8 b ?_|refine C8 (u9 (nth la k) a c) ?_)
  rw[mD (n:=i) ω h w c u];rfl
 repeat'(first|refine gE ?_|fail)
 rw[xT (n:=i) (k:=k) ω h ω u];rfl
section
variable{α:Type}
def xI(ag:Option Nat)(e:α->List C)(pr:α->Bool)(xs:List α):List (Option Nat × List C)->Kd->List C->Prop:=λL k rcs=>∃x,x∈xs/\L=[(ag,e x)]/\k=.one/\rcs=[B (pr x)]
end
def vO(xs:List a7)(pr:a7->Bool)(n:xs.length<=9223372036854775807):zzA 487 false [.val none (bB .V xs),.fn (oV Tryz.prog (xI (some 2) (a7.enc .V) pr xs))] .one [I (dd pr xs)]:=by
 refine fO 19 [] Tryz.func487 rfl ?_
 repeat'(first|refine gP ?_|fail)
 (conv=>whnf)
 refine CG (ι:=Nat) (λi=>[(0,.H .one (bB .V xs)),(1,.fv (oV Tryz.prog (xI (some 2) (a7.enc .V) pr xs))),(7,.H .one [I xs.length]),(8,.H .one [I (i:Nat)])]) (λi=>i<=xs.length/\∀(j:Nat)(z:a7),j<i->xs[j]? = some z->pr z=false) (λi=>xs.length - i) 0 ?_ ⟨W0 _,λj z h=>ω⟩ λi e=>?_
 ·exact wB
 obtain⟨e,b⟩:=e;by_cases c:i<xs.length
 ·obtain⟨y,a⟩ : ∃y,xs[i]? = some y:=⟨_,O2 c⟩
  repeat'(first|refine gE ?_|(conv=>whnf);first|with_reducible refine CD (aa a) ?_|refine Fv.mk (k:=.one) (rcs:=[B (pr y)]) ⟨y,C2 a,rfl,rfl,rfl⟩ ?_|refine Bf.P (λl=>?_) (λl=>?_))
  ·exact X0 (λz=>[I z]) (dP a ‹_› b).symm
  (conv=>whnf)
  refine CE (i+1) ⟨ω,λj z h d=>?_⟩ ω ?_
  ·rcases Nat.lt_or_ge j i with g|g
   ·exact b j z g d
   obtain rfl:j=i:=ω
   rw[a]at d;cases d;assumption
  exact wB
 repeat'(first|refine gE ?_|fail)
 exact X0 (λz=>[I z]) (g9 ω b).symm
theorem rm(xs:List a7)(pr:a7->Bool)(a:xs.length<=9223372036854775807):zzA 376 false [.val none (bB .V xs),.fn (oV Tryz.prog (xI (some 2) (a7.enc .V) pr xs))] .one [B (xs.any pr)]:=by
 refine fO 9 [] Tryz.func376 rfl ?_
 repeat'(first|refine gP ?_|(conv=>whnf);first|refine C8 (vO xs pr a) ?_)
 grind [pN]
def uS(r:a7)(page:Int):zzA 377 false [.val (some 2) (a7.enc .V r),.ptr [I page]] .one [B (vH page r)]:=by
 refine fO 17 [] Tryz.func377 rfl ?_
 repeat'(first|refine gP ?_|(conv=>whnf);first|with_reducible refine Bf.D (λa=>?_) (λa=>?_)|refine CM rfl ?_)
 all_goals exact X0 (λz=>[B z]) (by unfold vH;first|(rw[O0 (by assumption:r.At<=page)];simp;done)|(rw[U0 (by assumption:¬r.At<=page)];rfl))
def z6(xs:List a7)(page:Int)(a:xs.length<=9223372036854775807):zzA 228 false [.val none (bB .V xs),.val none [I page]] .one [B (xs.any (vH page))]:=by
 refine fO 8 [] Tryz.func228 rfl ?_
 repeat'(first|refine gP ?_|(conv=>whnf);first|refine Cq.mk (xI (some 2) (a7.enc .V) (vH page) xs) (uS default page).has (λL k rcs b=>?_) ?_|refine C8 (rm xs (vH page) a) ?_)
 ·obtain⟨x,-,rfl,rfl,rfl⟩:=b
  exact uS x page
 rfl
theorem vR(xs:List aO)(pr:aO->Bool)(g:xs.length<=9223372036854775807):zzA 549 false [.val none (cB .V xs),.fn (oV Tryz.prog (xI (some 3) (aO.enc .V) pr xs))] .one [I (dd pr xs)]:=by
 refine fO 19 [] Tryz.func549 rfl ?_
 repeat'(first|refine gP ?_|fail)
 (conv=>whnf)
 refine CG (ι:=Nat) (λi=>[(0,.H .one (cB .V xs)),(1,.fv (oV Tryz.prog (xI (some 3) (aO.enc .V) pr xs))),(7,.H .one [I xs.length]),(8,.H .one [I (i:Nat)])]) (λi=>i<=xs.length/\∀(j:Nat)(z:aO),j<i->xs[j]? = some z->pr z=false) (λi=>xs.length - i) 0 ?_ ψ λi b=>?_
 ·exact wB
 obtain⟨b,d⟩:=b;by_cases a:i<xs.length
 ·obtain⟨y,c⟩ : ∃y,xs[i]? = some y:=⟨_,O2 a⟩
  repeat'(first|refine gE ?_|(conv=>whnf);first|with_reducible refine CD (aa c) ?_|refine Fv.mk (k:=.one) (rcs:=[B (pr y)]) ⟨y,C2 c,rfl,rfl,rfl⟩ ?_|refine Bf.P (λe=>?_) (λe=>?_))
  ·grind [dP]
  (conv=>whnf)
  refine CE (i+1) ψ ω ?_;exact wB
 repeat'(first|refine gE ?_|fail)
 exact X0 (λz=>[I z]) (g9 ω d).symm
theorem rp(xs:List aO)(pr:aO->Bool)(a:xs.length<=9223372036854775807):zzA 488 false [.val none (cB .V xs),.fn (oV Tryz.prog (xI (some 3) (aO.enc .V) pr xs))] .one [B (xs.any pr)]:=by
 refine fO 9 [] Tryz.func488 rfl ?_
 repeat'(first|refine gP ?_|(conv=>whnf);first|refine C8 (vR xs pr a) ?_)
 grind [pN]
theorem yq(xs:List ax)(pr:ax->Bool)(g:xs.length<=9223372036854775807):zzA 240 false [.val none (cq .V xs),.fn (oV Tryz.prog (xI (some 3) (ax.enc .V) pr xs))] .one [I (dd pr xs)]:=by
 refine fO 19 [] Tryz.func240 rfl ?_
 repeat'(first|refine gP ?_|fail)
 (conv=>whnf)
 refine CG (ι:=Nat) (λi=>[(0,.H .one (cq .V xs)),(1,.fv (oV Tryz.prog (xI (some 3) (ax.enc .V) pr xs))),(7,.H .one [I xs.length]),(8,.H .one [I (i:Nat)])]) (λi=>i<=xs.length/\∀(j:Nat)(z:ax),j<i->xs[j]? = some z->pr z=false) (λi=>xs.length - i) 0 ?_ ψ λi b=>?_
 ·exact wB
 obtain⟨b,d⟩:=b;by_cases a:i<xs.length
 ·obtain⟨y,c⟩ : ∃y,xs[i]? = some y:=⟨_,O2 a⟩
  repeat'(first|refine gE ?_|(conv=>whnf);first|with_reducible refine CD (aa c) ?_|refine Fv.mk (k:=.one) (rcs:=[B (pr y)]) ⟨y,C2 c,rfl,rfl,rfl⟩ ?_|refine Bf.P (λe=>?_) (λe=>?_))
  ·grind [dP]
  (conv=>whnf)
  refine CE (i+1) ψ ω ?_;exact wB
 repeat'(first|refine gE ?_|fail)
 exact X0 (λz=>[I z]) (g9 ω d).symm
theorem jG(xs:List aY)(pr:aY->Bool)(g:xs.length<=9223372036854775807):zzA 88 false [.val none (pG .V xs),.fn (oV Tryz.prog (xI (some 4) (aY.enc .V) pr xs))] .one [I (dd pr xs)]:=by
 refine fO 19 [] Tryz.func88 rfl ?_
 repeat'(first|refine gP ?_|fail)
 (conv=>whnf)
 refine CG (ι:=Nat) (λi=>[(0,.H .one (pG .V xs)),(1,.fv (oV Tryz.prog (xI (some 4) (aY.enc .V) pr xs))),(7,.H .one [I xs.length]),(8,.H .one [I (i:Nat)])]) (λi=>i<=xs.length/\∀(j:Nat)(z:aY),j<i->xs[j]? = some z->pr z=false) (λi=>xs.length - i) 0 ?_ ψ λi b=>?_
 ·exact wB
 obtain⟨b,d⟩:=b;by_cases a:i<xs.length
 ·obtain⟨y,c⟩ : ∃y,xs[i]? = some y:=⟨_,O2 a⟩
  repeat'(first|refine gE ?_|(conv=>whnf);first|with_reducible refine CD (aa c) ?_|refine Fv.mk (k:=.one) (rcs:=[B (pr y)]) ⟨y,C2 c,rfl,rfl,rfl⟩ ?_|refine Bf.P (λe=>?_) (λe=>?_))
  ·grind [dP]
  (conv=>whnf)
  refine CE (i+1) ψ ω ?_;exact wB
 repeat'(first|refine gE ?_|fail)
 exact X0 (λz=>[I z]) (g9 ω d).symm
theorem tT(xs:List aY)(pr:aY->Bool)(a:xs.length<=9223372036854775807):zzA 233 false [.val none (pG .V xs),.fn (oV Tryz.prog (xI (some 4) (aY.enc .V) pr xs))] .one [B (xs.any pr)]:=by
 refine fO 9 [] Tryz.func233 rfl ?_
 repeat'(first|refine gP ?_|(conv=>whnf);first|refine C8 (jG xs pr a) ?_)
 grind [pN]
def Qg(a:k<=3):IntKind.i64.wrap (1*2 ^ min ((k:Nat):Int).toNat IntKind.i64.bits)=csz (k:Nat):=by
 obtain rfl|rfl|rfl|rfl:k=0\/k=1\/k=2\/k=3:=ω
 all_goals decide
theorem Qu(a:k<=100):IntKind.u64.wrap (k:Nat)=(k:Nat):=by grind [Go.IntKind.wrap,Go.IntKind.bits]
theorem BN(a:k<=3)(h:csz (k:Nat)<z)(b:z<=8):k<=2:=by
 have c:csz ((3:Nat):Int)=8:=by decide
 grind
theorem y7(a:k<=3)(h1:1<=z)(b:k=0\/csz ((k - 1:Nat):Int)<z)(c:¬csz (k:Nat)<z):aG z=(k:Nat):=by
 have d:csz ((0:Nat):Int)=1:=by decide
 have e:csz ((1:Nat):Int)=2:=by decide
 have f:csz ((2:Nat):Int)=4:=by decide
 have g:csz ((3:Nat):Int)=8:=by decide
 unfold aG;obtain rfl|rfl|rfl|rfl:k=0\/k=1\/k=2\/k=3:=ω
 all_goals grind
def kL(z:Int):zzA 220 false [.val none [I z]] .one [I (aG z)]:=by
 refine fO 15 [] Tryz.func220 rfl ?_;by_cases c:1<=z/\z<=8
 ·repeat'(first|refine gE ?_|(conv=>whnf);first|with_reducible refine Bf.D (λb=>?_) (λb=>?_)|refine C8 (aH z 1 8) ?_)
  (conv=>whnf)
  refine CG (ι:=Nat) (λk=>[(0,.H .one [I (z)]),(3,.H .one [I ((k:Nat):Int)])]) (λk=>k<=3/\(k=0\/csz ((k - 1:Nat):Int)<z)) (λk=>4 - k) (0) ?_ ω λk a=>?_
  ·exact wB
  obtain⟨a,d⟩:=a
  repeat'(first|refine gP ?_|(conv=>whnf);first|with_reducible refine Bf.D (λb=>?_) (λb=>?_)|refine CM (Qu ω) ?_|refine CM (Qg a) ?_|refine CO ω ?_)
  all_goals first
   | exact X0 (λz=>[I z]) (y7 a c.1 d (by assumption)).symm
   | ((conv=>whnf);refine CE (k+1) ⟨by have:=BN a (by assumption) c.2;omega,.inr (by simpa using (by assumption:csz (k:Nat)<z))⟩ (by have:=BN a (by assumption) c.2;omega) ?_;(exact wB))
 repeat'(first|refine gE ?_|(conv=>whnf);first|with_reducible refine Bf.D (λb=>?_) (λb=>?_)|refine C8 (aH z 1 8) ?_)
 all_goals exact X0 (λz=>[I z]) (by unfold aG;(repeat' split)<;>omega)
def ny(z:Int):zzA 64 false [.val none [I z]] .one [I (aG z)]:=by
 refine fO 14 [] Tryz.func64 rfl ?_;by_cases c:1<=z/\z<=8
 ·repeat'(first|refine gE ?_|(conv=>whnf);first|with_reducible refine Bf.D (λa=>?_) (λa=>?_)|refine C8 (aP z 1 8) ?_)
  (conv=>whnf)
  refine CG (ι:=Nat) (λk=>[(0,.H .one [I (z)]),(3,.H .one [I ((k:Nat):Int)])]) (λk=>k<=3/\(k=0\/csz ((k - 1:Nat):Int)<z)) (λk=>4 - k) (0) ?_ ω λk b=>?_
  ·exact wB
  obtain⟨b,d⟩:=b
  repeat'(first|refine gP ?_|(conv=>whnf);first|with_reducible refine Bf.D (λa=>?_) (λa=>?_)|refine C8 (dU _) ?_)
  all_goals first
   | exact X0 (λz=>[I z]) (y7 b c.1 d (by assumption)).symm
   | ((conv=>whnf);refine CE (k+1) ⟨by have:=BN b (by assumption) c.2;omega,.inr (by simpa using (by assumption:csz (k:Nat)<z))⟩ (by have:=BN b (by assumption) c.2;omega) ?_;(exact wB))
 repeat'(first|refine gE ?_|(conv=>whnf);first|with_reducible refine Bf.D (λa=>?_) (λa=>?_)|refine C8 (aP z 1 8) ?_)
 all_goals exact X0 (λz=>[I z]) (by unfold aG;(repeat' split)<;>omega)
theorem sD(q:b8)(a:Int)(d:b8.sml q):zzA 359 false [.val (some 2) (b8.enc .V q),.val none [I a]] .one [B (q.a1.any (dZ a))]:=by
 have j:q.a1.length<=1048576:=d.1;refine fO 21 [] Tryz.func359 rfl ?_
 repeat'(first|refine gP ?_|fail)
 (conv=>whnf)
 refine CG (ι:=Nat) (λi=>[(1,.H .one [I (a)]),(2,.H .box (b8.enc .V q)),(5,.H .one [I ((i:Nat):Int)])]) (λi=>i<=q.a1.length/\(q.a1.take i).any (dZ a)=false) (λi=>q.a1.length - i) (0) ?_ ψ λi c=>?_
 ·exact wB
 obtain⟨c,e⟩:=c;by_cases g:i<q.a1.length
 ·have b:=ao g
  repeat'(first|refine gE ?_|(conv=>whnf);first|with_reducible (first|refine CD (aa b) ?_|refine Bf.E (λh=>?_) (λh=>?_)))
  all_goals first
   | exact X0 (λz=>[B z]) ((BK b (O0 (by assumption))).symm)
   | ((conv=>whnf);refine CE (i+1) ⟨ω,yC b e (U0 (by assumption))⟩ ω ?_;(exact wB))
 repeat'(first|refine gE ?_|fail)
 exact X0 (λz=>[B z]) ψ
def iQ(xs:List aO)(i:Nat):quarCells xs (i+1)=quarCells xs i+csz (nth xs i).d:=rfl
theorem Mv(k:Int):0<=csz k/\csz k<=8:=by grind [bW,csz]
theorem vm(xs:List aO)(c:ll xs):zzA 360 false [.val none (cB .V xs)] .one [I (quarCells xs xs.length)]:=by
 have g:=c.1;refine fO 20 [] Tryz.func360 rfl ?_
 repeat'(first|refine gP ?_|fail)
 (conv=>whnf)
 refine CG (ι:=Nat) (λi=>[(0,.H .one (cB .V xs)),(3,.H .one [I (quarCells xs i)]),(4,.H .one [I ((i:Nat):Int)])]) (λi=>i<=xs.length/\0<=quarCells xs i/\quarCells xs i<=8*i) (λi=>xs.length - i) (0) ?_ (⟨W0 _,by simp[quarCells],by simp[quarCells]⟩) λi b=>?_
 ·exact wB
 obtain⟨b,h,j⟩:=b;by_cases d:i<xs.length
 ·have e:=ao d
  have k:=Mv (nth xs i).d;have a:=iQ xs i
  repeat'(first|refine gE ?_|(conv=>whnf);first|with_reducible refine CD (aa e) ?_|refine C8 (ed _) ?_)
  ((conv=>whnf);refine CE (i+1) ω ω ?_)
  rw[a];exact wB
 repeat'(first|refine gE ?_|fail)
 grind
theorem pC(xs:List aO)(c:ll xs):zzA 231 false [.val none (cB .V xs)] .one [I (quarCells xs xs.length)]:=by
 have g:=c.1;refine fO 19 [] Tryz.func231 rfl ?_
 repeat'(first|refine gP ?_|fail)
 (conv=>whnf)
 refine CG (ι:=Nat) (λi=>[(3,.H .one [I (quarCells xs i)]),(6,.H .one (cB .V xs)),(7,.H .one [I (xs.length)]),(8,.H .one [I ((i:Nat):Int)])]) (λi=>i<=xs.length/\0<=quarCells xs i/\quarCells xs i<=8*i) (λi=>xs.length - i) (0) ?_ (⟨W0 _,by simp[quarCells],by simp[quarCells]⟩) λi b=>?_
 ·exact wB
 obtain⟨b,h,j⟩:=b;by_cases d:i<xs.length
 ·have e:=ao d
  have k:=Mv (nth xs i).d;have a:=iQ xs i
  repeat'(first|refine gE ?_|(conv=>whnf);first|with_reducible refine CD (aa e) ?_|refine C8 (dU _) ?_)
  ((conv=>whnf);refine CE (i+1) ω ω ?_)
  rw[a];exact wB
 repeat'(first|refine gE ?_|fail)
 grind
def Aa(a:aO):zzA 358 false [.val (some 3) (aO.enc .V a)] .one [B (decide (0<=a.d/\a.d<=3/\0<=a.Addr/\0<=a.b6))]:=by
 refine fO 16 [] Tryz.func358 rfl ?_
 repeat'(first|refine gP ?_|(conv=>whnf);first|with_reducible refine Bf.D (λb=>?_) (λb=>?_)|refine C8 (aH _ 0 3) ?_)
 all_goals exact X0 (λz=>[B z]) ((by first|(symm;exact U0 ω)|exact decide_eq_decide.2 ω))
variable{xs:List aO}
theorem NM(a:ll xs)(i:Nat):ll (xs.take i):=⟨by have:=a.1;grind,λ_ _=>trivial⟩
def pi(q:b8)(a:b8.sml q):zzA 213 false [.val (some 2) (b8.enc .V q)] .one [B (fR q)]:=by
 have l:q.a1.length<=1048576:=a.1;refine fO 57 [(5,29,[17,18,19,20,21,22,23,24,25,26,27,28,29,30,31,32,33,34,35,36,37,38,39,40,41,42,43,44,45]),(7,11,[46,47,48,49,50,51,52,53,54,55,56])] Tryz.func213 rfl ?_
 repeat'(first|refine gP ?_|fail)
 (conv=>whnf)
 refine CG (ι:=Nat) (λi=>[(1,.H .box (b8.enc .V q)),(3,.H .one [I ((i:Nat):Int)])]) (λi=>i<=q.a1.length/\dn i (kP q.a1)=true) (λi=>q.a1.length - i) 0 ?_ ⟨W0 _,rfl⟩ λi e=>?_
 ·exact wB
 obtain⟨e,g⟩:=e;by_cases b:i<q.a1.length
 ·have j:=ao b
  have h:=sD ⟨0,q.a1.take i⟩ (nth q.a1 i).Addr (NM a i);cases c:(q.a1.take i).any (dZ (nth q.a1 i).Addr)<;>rw[show(b8.mk 0 (q.a1.take i)).a1.any (dZ (nth q.a1 i).Addr)=_ from c]at h
  all_goals
   repeat'(first|refine gE ?_|(conv=>whnf);first|with_reducible (first|refine CD (aa j) ?_|refine Bf.D (λd=>?_) (λd=>?_))|refine C8 (Aa _) ?_|refine CN ω (aa (gj ω b)) ?_|refine CX i rfl (by simp;omega) (λr k=>by obtain⟨z,-,rfl⟩:=O4.1 k;rfl) (C4 ..) ?_|refine C8 h ?_)
   all_goals first
    | exact X0 (λz=>[B z]) ((by symm;unfold fR;rw[cI b (by unfold kP;first|(rw[c];simp;done)|(rw[U0 ω];rfl))];rfl))
    | ((conv=>whnf);refine CE (i+1) ⟨ω,bQ g (by unfold kP;rw[c,O0 ω];rfl)⟩ ω ?_;(exact wB))
 obtain rfl:i=q.a1.length:=ω
 repeat'(first|refine gE ?_|(conv=>whnf);first|with_reducible refine Bf.D (λd=>?_) (λd=>?_)|refine C8 (aH _ 0 500) ?_|refine C8 (vm q.a1 a) ?_)
 all_goals exact X0 (λz=>[B z]) ((by unfold fR;rw[g];simp only[Bool.true_and];first|(symm;exact U0 ω)|exact decide_eq_decide.2 ω))
theorem vu(b:aO)(a:Int):zzA 489 false [.val (some 3) (aO.enc .V b),.ptr [I a]] .one [B (dZ a b)]:=by
 refine fO 8 [] Tryz.func489 rfl ?_
 repeat'(first|refine gP ?_|fail)
 grind [dZ]
def zp(xs:List aO)(a:Int)(b:xs.length<=9223372036854775807):zzA 378 false [.val none (cB .V xs),.val none [I a]] .one [B (xs.any (dZ a))]:=by
 refine fO 8 [] Tryz.func378 rfl ?_
 repeat'(first|refine gP ?_|(conv=>whnf);first|refine Cq.mk (xI (some 3) (aO.enc .V) (dZ a) xs) (vu default a).has (λL k rcs c=>?_) ?_|refine C8 (rp xs (dZ a) b) ?_)
 ·obtain⟨y,-,rfl,rfl,rfl⟩:=c
  exact vu y a
 rfl
def me(xs:List aO)(a:aO):Bool:=decide (0<=a.d/\a.d<=3/\0<=a.Addr/\0<=a.b6/\(xs.length=0\/(nth xs (xs.length - 1)).b6<=a.b6))&&!xs.any (dZ a.Addr)
theorem sR(xs:List aO)(b:aO)(g:xs.length<=1048576):zzA 230 false [.val none (cB .V xs),.val (some 3) (aO.enc .V b)] .one [B (me xs b)]:=by
 have c:=zp xs b.Addr ω;cases d:xs.any (dZ b.Addr)<;>rw[d]at c
 ·by_cases h:xs.length=0
  ·refine fO 40 [(3,15,[25,26,27,28,29,30,31,32,33,34,35,36,37,38,39])] Tryz.func230 rfl ?_
   repeat'(first|refine gP ?_|(conv=>whnf);first|with_reducible (first|refine Bf.D (λa=>?_) (λa=>?_)|refine Bf.E (λa=>?_) (λa=>?_))|refine C8 (f7 _) ?_|refine C8 c ?_)
   all_goals first
    | exact X0 (λz=>[B z]) ((by unfold me;rw[d,Bool.not_false,Bool.and_true];first|(symm;exact U0 ω)|(symm;exact O0 ω)|exact decide_eq_decide.2 ω))
    |(exfalso;omega)
    |trace_state
  have e:xs[((xs.length:Int) - 1).toNat]? = some (nth xs (xs.length - 1)):=by rw[show((xs.length:Int) - 1).toNat=xs.length - 1 by omega];grind [ao]
  refine fO 40 [(3,15,[25,26,27,28,29,30,31,32,33,34,35,36,37,38,39])] Tryz.func230 rfl ?_
  repeat'(first|refine gP ?_|(conv=>whnf);first|with_reducible (first|refine Bf.D (λa=>?_) (λa=>?_)|refine Bf.E (λa=>?_) (λa=>?_))|refine C8 (f7 _) ?_|refine C8 c ?_|refine CN ω (aa e) ?_)
  all_goals first
   | exact X0 (λz=>[B z]) ((by unfold me;rw[d,Bool.not_false,Bool.and_true];first|(symm;exact U0 ω)|(symm;exact O0 ω)|exact decide_eq_decide.2 ω))
   |(exfalso;omega)
   |trace_state
 refine fO 40 [(3,15,[25,26,27,28,29,30,31,32,33,34,35,36,37,38,39])] Tryz.func230 rfl ?_
 repeat'(first|refine gP ?_|(conv=>whnf);first|with_reducible refine Bf.D (λa=>?_) (λa=>?_)|refine C8 (f7 _) ?_|refine C8 c ?_)
 all_goals exact X0 (λz=>[B z]) ((by unfold me;rw[d];simp))
theorem GX(d:i<xs.length):me (xs.take i) (nth xs i)=kP xs i:=by
 unfold me kP;have a:(xs.take i).length=i:=ψ
 rw[a]
 congr 1
 refine decide_eq_decide.2 ?_;by_cases b:i=0
 ·subst b;simp
 have c:nth (xs.take i) (i - 1)=nth xs (i - 1):=by
  have:=ao (xs:=xs) (i:=i - 1) ω
  grind [bg]
 rw[c]
theorem vw(q:b8)(d:b8.sml q):zzA 79 false [.val (some 2) (b8.enc .V q)] .one [B (fR q)]:=by
 have l:q.a1.length<=1048576:=d.1;refine fO 32 [(4,7,[13,14,15,16,17,18,19]),(7,11,[21,22,23,24,25,26,27,28,29,30,31])] Tryz.func79 rfl ?_
 repeat'(first|refine gP ?_|fail)
 (conv=>whnf)
 refine CG (ι:=Nat) (λi=>[(1,.H .box (b8.enc .V q)),(6,.H .one (cB .V q.a1)),(7,.H .one [I (q.a1.length)]),(8,.H .one [I ((i:Nat):Int)])]) (λi=>i<=q.a1.length/\dn i (kP q.a1)=true) (λi=>q.a1.length - i) 0 ?_ ⟨W0 _,rfl⟩ λi e=>?_
 ·exact wB
 obtain⟨e,g⟩:=e;by_cases a:i<q.a1.length
 ·have h:=ao a
  have b:=sR (q.a1.take i) (nth q.a1 i) ψ;rw[GX a]at b;cases c:kP q.a1 i<;>rw[c]at b
  all_goals
   repeat'(first|refine gE ?_|(conv=>whnf);first|with_reducible refine CD (aa h) ?_|refine CX i rfl (by simp;omega) (λr j=>by obtain⟨z,-,rfl⟩:=O4.1 j;rfl) (C4 ..) ?_|refine C8 b ?_)
   all_goals first
    | exact X0 (λz=>[B z]) ((by symm;unfold fR;rw[cI a c];rfl))
    | ((conv=>whnf);refine CE (i+1) ⟨ω,bQ g c⟩ ω ?_;(exact wB))
 obtain rfl:i=q.a1.length:=ω
 repeat'(first|refine gE ?_|(conv=>whnf);first|with_reducible refine Bf.D (λk=>?_) (λk=>?_)|refine C8 (aP _ 0 500) ?_|refine C8 (pC q.a1 d) ?_)
 all_goals exact X0 (λz=>[B z]) ((by unfold fR;rw[g];simp only[Bool.true_and];first|(symm;exact U0 ω)|exact decide_eq_decide.2 ω))
def zR(h:ab):Prop:=aI.sml h.G.F.R
def ij(h:ab)(p:Int)(a:zR h):zzA 355 false [.val (some 24) (ab.enc .V h),.val none [I p]] .one (aF .own (aV h p)):=by
 refine fO 23 [] Tryz.func355 rfl ?_ (.inr (bM _))
 repeat'((conv=>whnf);first|with_reducible (first|refine Lm ?_|refine Wm ω ?_|refine Bf.E (λb=>?_) (λb=>?_)|refine Bn ?_|refine jU.wk rfl ?_)|refine Bt ?_|refine Bu ?_|refine C8 (cz h.G.F.R p a) ?_|refine C8 (gN h.G.F.R _ a) ?_)
 all_goals(unfold aV;first|rw[CC (by assumption)]|rw[C9 (by assumption)])
 all_goals exact⟨rfl,trivial⟩
def vM(h:ab)(p:Int)(a:zR h):zzA 227 false [.val (some 24) (ab.enc .V h),.val none [I p]] .one (aF .own (aV h p)):=by
 refine fO 22 [] Tryz.func227 rfl ?_ (.inr (bM _))
 repeat'((conv=>whnf);first|with_reducible (first|refine Lm ?_|refine Wm ω ?_|refine Bf.E (λb=>?_) (λb=>?_)|refine Bn ?_|refine jU.wk rfl ?_)|refine Bt ?_|refine Bu ?_|refine C8 (eX h.G.F.R p a) ?_|refine C8 (kI h.G.F.R _ a) ?_)
 all_goals(unfold aV;first|rw[CC (by assumption)]|rw[C9 (by assumption)])
 all_goals exact⟨rfl,trivial⟩
theorem vq(k:ah)(p:Int)(a:aI.sml k.F.R):zzA 127 false [.val (some 5) (ah.enc .V k),.val none [I p]] .one [B (decide ((ac k.F.R p).j≠0))]:=by
 refine fO 12 [] Tryz.func127 rfl ?_
 repeat'(first|refine gP ?_|(conv=>whnf);first|refine C8 (eX k.F.R p a) ?_)
 grind
def oZ(z:Int):zzA 83 false [.val none [I z]] .one [B (decide (0<=z/\z<=1073741823))]:=by
 refine fO 5 [] Tryz.func83 rfl ?_
 repeat'(first|refine gP ?_|(conv=>whnf);first|refine C8 (aP z 0 1073741823) ?_)
 rfl
theorem jQ(h:ab)(p:Int)(g:h.K.length<=1048576):zzA 219 false [.val (some 24) (ab.enc .V h),.val none [I p]] .one [I (gq h p)]:=by
 refine fO 22 [] Tryz.func219 rfl ?_
 repeat'(first|refine gP ?_|fail)
 (conv=>whnf)
 refine CG (ι:=Nat) (λi=>[(1,.H .one [I (p)]),(2,.H .box (ab.enc .V h)),(5,.H .one [I ((i:Nat):Int)])]) (λi=>i<=h.K.length/\∀(j:Nat)(z:ax),j<i->h.K[j]? = some z->mq p z=false) (λi=>h.K.length - i) (0) ?_ ψ λi c=>?_
 ·exact wB
 obtain⟨c,a⟩:=c;by_cases d:i<h.K.length
 ·have b:=ao d
  repeat'(first|refine gE ?_|(conv=>whnf);first|with_reducible (first|refine CD (aa b) ?_|refine Bf.E (λe=>?_) (λe=>?_)))
  all_goals first
   | exact X0 (λz=>[I z]) (dP b (O0 (by assumption)) a).symm
   | ((conv=>whnf);refine CE (i+1) ⟨ω,gw b (U0 (by assumption)) a⟩ ω ?_;(exact wB))
 repeat'(first|refine gE ?_|fail)
 exact X0 (λz=>[I z]) (g9 ω a).symm
theorem Bd(s:ax)(p:Int):zzA 241 false [.val (some 3) (ax.enc .V s),.ptr [I p]] .one [B (mq p s)]:=by
 refine fO 8 [] Tryz.func241 rfl ?_
 repeat'(first|refine gP ?_|fail)
 grind [mq]
def uU(h:ab)(p:Int)(b:h.K.length<=1048576):zzA 85 false [.val (some 24) (ab.enc .V h),.val none [I p]] .one [I (gq h p)]:=by
 refine fO 9 [] Tryz.func85 rfl ?_
 repeat'(first|refine gP ?_|(conv=>whnf);first|refine Cq.mk (xI (some 3) (ax.enc .V) (mq p) h.K) (Bd default p).has (λL k rcs a=>?_) ?_|refine C8 (yq h.K (mq p) ω) ?_)
 ·obtain⟨y,-,rfl,rfl,rfl⟩:=a
  exact Bd y p
 rfl
def flight1(m:aJ)(i:Nat):List Int:=(m.T.take i).flatMap λl=>l.map (·.Addr)
def flight2(m:aJ)(i:Nat):List Int:=(m.y.take i).flatten
theorem nN{l:List de}(h:m.T[i]? = some l):flight1 m (i+1)=flight1 m i++l.map (·.Addr):=by grind [V5,flight1]
theorem n7(h:m.y[i]? = some l):flight2 m (i+1)=flight2 m i++l:=by grind [V5,flight2]
theorem lW(h:bu m=true):aN m=flight1 m m.T.length++flight2 m m.y.length:=by grind [aN,flight1,flight2]
theorem uY(h:bu m=false):aN m=[]:=by grind [aN]
theorem nB(h:bu m=true):1<=m.T.length/\m.T.length<=4/\m.y.length=m.T.length:=by grind [bu]
def E0 : ∀r∈l.map (rI .V),r.length=1:=by
 intro r a;obtain⟨z,-,rfl⟩:=O4.1 a;rfl
def HX : ∀r∈l.map (rI .V),bm r=true:=by
 intro r a;obtain⟨z,-,rfl⟩:=O4.1 a;rfl
theorem qz(m:aJ)(g:aJ.sml m):zzA 35 false [.val (some 2) (aJ.enc .V m)] .one (aF .own (aN m)):=by
 have h:=lQ m g;cases d:bu m<;>rw[d]at h
 ·refine fO 56 [] Tryz.func35 rfl ?_ (.inr (bM _))
  repeat'((conv=>whnf);first|with_reducible (first|refine Lm ?_|refine Wm ω ?_|refine Bn ?_|refine jU.wk rfl ?_)|refine Bt ?_|refine Bu ?_|refine C8 h ?_)
  all_goals(rw[uY d];exact⟨rfl,trivial⟩)
 obtain⟨D,E,F⟩:=nB d;refine fO 56 [] Tryz.func35 rfl ?_ (.inr (bM _))
 repeat'(first|refine gP ?_|(conv=>whnf);first|refine C8 h ?_)
 (conv=>whnf)
 refine CG (ι:=Nat × List Int) (λi=>[(1,.H .box (aJ.enc .V m)),(3,.H .one (aF .own i.2)),(4,.H .one [I ((i.1:Nat):Int)])]) (λi=>i.1<=m.T.length/\i.2=flight1 m i.1/\i.2.length<=1048576*i.1) (λi=>m.T.length - i.1) ((0,[])) ?_ (⟨W0 _,rfl,W0 _⟩) λi j=>?_
 ·exact wB
 obtain⟨i,S⟩:=i;obtain⟨j,p,t⟩:=j;simp only at j p t |-;by_cases q:i<m.T.length
 ·have l:=ao q
  have u:(nth m.T i).length<=1048576:=(g.1.2 _ (am q)).1
  repeat'(first|refine gE ?_|(conv=>whnf);first|with_reducible refine CD (aa l) ?_)
  (conv=>whnf)
  refine CG (ι:=Nat × List Int) (λk=>[(1,.H .box (aJ.enc .V m)),(3,.H .one (aF .own k.2)),(4,.H .one [I ((i:Nat):Int)]),(5,.H .one [I ((k.1:Nat):Int)])]) (λk=>k.1<=(nth m.T i).length/\k.2=S++((nth m.T i).take k.1).map (·.Addr)) (λk=>(nth m.T i).length - k.1) ((0,S)) ?_ ψ λk b=>?_
  ·exact wB
  obtain⟨k,c⟩:=k;obtain⟨b,a⟩:=b;simp only at b a |-;have w:c.length=S.length+k:=ψ
  by_cases e:k<(nth m.T i).length
  ·have n:=ao e
   repeat'(first|refine gE ?_|(conv=>whnf);first|with_reducible (first|refine CD (aa l) ?_|refine CD (aa n) ?_)|refine CU cA (λr y=>by rw[O1.1 y];rfl) (by simp[bm,eH]) (by simp;omega) (by show _*8<=_;simp;omega) rfl ?_)
   ((conv=>whnf)
    refine CE (k+1,c++[(nth (nth m.T i) k).Addr]) ⟨(by simp only;omega),(by grind [V5])⟩ (by simp only;omega) ?_
    (repeat'(first|exact trivial|rfl|exact CL rfl (CL (X0 (C.s dJ.own) (by simp[rI])) trivial)|refine CL ?_ ?_)))
  obtain rfl:k=(nth m.T i).length:=ω
  rw[C5]at a
  repeat'(first|refine gE ?_|(conv=>whnf);first|with_reducible refine CD (aa l) ?_)
  ((conv=>whnf);refine CE (i+1,c) ⟨(by simp only;omega),(by grind [nN]),(by simp only;omega)⟩ (by simp only;omega) ?_;(exact wB))
 obtain rfl:i=m.T.length:=ω
 repeat'(first|refine gE ?_|fail)
 (conv=>whnf)
 refine CG (ι:=Nat × List Int) (λk=>[(1,.H .box (aJ.enc .V m)),(3,.H .one (aF .own k.2)),(6,.H .one [I ((k.1:Nat):Int)])]) (λk=>k.1<=m.y.length/\k.2=S++flight2 m k.1/\k.2.length<=S.length+1048576*k.1) (λk=>m.y.length - k.1) ((0,S)) ?_ (⟨W0 _,by simp[flight2],by simp⟩) λk b=>?_
 ·exact wB
 obtain⟨k,c⟩:=k;obtain⟨b,a,o⟩:=b;simp only at b a o |-;by_cases e:k<m.y.length
 ·have n:=ao e
  have B:(nth m.y k).length<=1048576:=g.2.2 _ (am e)
  repeat'(first|refine gE ?_|(conv=>whnf);first|with_reducible refine CD (aa n) ?_|refine CU cA E0 (λ_=>HX) (by simp;omega) (by show _*8<=_;simp;omega) rfl ?_)
  ((conv=>whnf)
   refine CE (k+1,c++nth m.y k) ⟨(by simp only;omega),(by grind [n7]),ψ⟩ (by simp only;omega) ?_
   (repeat'(first|exact trivial|rfl|exact CL rfl (CL (X0 (C.s dJ.own) (by simp[rI])) trivial)|refine CL ?_ ?_)))
 obtain rfl:k=m.y.length:=ω
 repeat'(first|refine gE ?_|fail)
 rw[lW d,<-p,<-a];rfl
theorem zH(m:aJ)(g:aJ.sml m):zzA 237 false [.val (some 2) (aJ.enc .V m)] .one (aF .own (aN m)):=by
 have h:=lN m g;cases d:bu m<;>rw[d]at h
 ·refine fO 46 [] Tryz.func237 rfl ?_ (.inr (bM _))
  repeat'((conv=>whnf);first|with_reducible (first|refine Lm ?_|refine Wm ω ?_|refine Bn ?_|refine jU.wk rfl ?_)|refine Bt ?_|refine Bu ?_|refine C8 h ?_)
  all_goals(rw[uY d];exact⟨rfl,trivial⟩)
 obtain⟨D,E,F⟩:=nB d;refine fO 46 [] Tryz.func237 rfl ?_ (.inr (bM _))
 repeat'(first|refine gP ?_|(conv=>whnf);first|refine C8 h ?_)
 (conv=>whnf)
 refine CG (ι:=Nat × List Int) (λi=>[(1,.H .box (aJ.enc .V m)),(3,.H .one (aF .own i.2)),(15,.H .one (yz .V m.T)),(16,.H .one [I (m.T.length)]),(17,.H .one [I ((i.1:Nat):Int)])]) (λi=>i.1<=m.T.length/\i.2=flight1 m i.1/\i.2.length<=1048576*i.1) (λi=>m.T.length - i.1) ((0,[])) ?_ (⟨W0 _,rfl,W0 _⟩) λi j=>?_
 ·exact wB
 obtain⟨i,S⟩:=i;obtain⟨j,o,q⟩:=j;simp only at j o q |-;by_cases p:i<m.T.length
 ·have t:=ao p
  have u:(nth m.T i).length<=1048576:=(g.1.2 _ (am p)).1
  repeat'(first|refine gE ?_|(conv=>whnf);first|with_reducible refine CD (aa t) ?_)
  (conv=>whnf)
  refine CG (ι:=Nat × List Int) (λk=>[(1,.H .box (aJ.enc .V m)),(3,.H .one (aF .own k.2)),(15,.H .one (yz .V m.T)),(16,.H .one [I (m.T.length)]),(17,.H .one [I ((i:Nat):Int)]),(21,.H .one (cb .V (nth m.T i))),(22,.H .one [I ((nth m.T i).length)]),(23,.H .one [I ((k.1:Nat):Int)])]) (λk=>k.1<=(nth m.T i).length/\k.2=S++((nth m.T i).take k.1).map (·.Addr)) (λk=>(nth m.T i).length - k.1) ((0,S)) ?_ ψ λk b=>?_
  ·exact wB
  obtain⟨k,c⟩:=k;obtain⟨b,a⟩:=b;simp only at b a |-;have w:c.length=S.length+k:=ψ
  by_cases e:k<(nth m.T i).length
  ·have l:=ao e
   repeat'(first|refine gE ?_|(conv=>whnf);first|with_reducible refine CD (aa l) ?_|refine CU cA (λr y=>by rw[O1.1 y];rfl) (by simp[bm,eH]) (by simp;omega) (by show _*8<=_;simp;omega) rfl ?_)
   ((conv=>whnf)
    refine CE (k+1,c++[(nth (nth m.T i) k).Addr]) ⟨(by simp only;omega),(by grind [V5])⟩ (by simp only;omega) ?_
    (repeat'(first|exact trivial|rfl|exact CL rfl (CL (X0 (C.s dJ.own) (by simp[rI])) trivial)|refine CL ?_ ?_)))
  obtain rfl:k=(nth m.T i).length:=ω
  rw[C5]at a
  repeat'(first|refine gE ?_|fail)
  ((conv=>whnf);refine CE (i+1,c) ⟨(by simp only;omega),(by grind [nN]),(by simp only;omega)⟩ (by simp only;omega) ?_;(exact wB))
 obtain rfl:i=m.T.length:=ω
 repeat'(first|refine gE ?_|fail)
 (conv=>whnf)
 refine CG (ι:=Nat × List Int) (λk=>[(3,.H .one (aF .own k.2)),(35,.H .one (jl .V m.y)),(36,.H .one [I (m.y.length)]),(37,.H .one [I ((k.1:Nat):Int)])]) (λk=>k.1<=m.y.length/\k.2=S++flight2 m k.1/\k.2.length<=S.length+1048576*k.1) (λk=>m.y.length - k.1) ((0,S)) ?_ (⟨W0 _,by simp[flight2],by simp⟩) λk b=>?_
 ·exact wB
 obtain⟨k,c⟩:=k;obtain⟨b,a,n⟩:=b;simp only at b a n |-;by_cases e:k<m.y.length
 ·have l:=ao e
  have B:(nth m.y k).length<=1048576:=g.2.2 _ (am e)
  repeat'(first|refine gE ?_|(conv=>whnf);first|with_reducible refine CD (aa l) ?_|refine CU cA E0 (λ_=>HX) (by simp;omega) (by show _*8<=_;simp;omega) rfl ?_)
  ((conv=>whnf)
   refine CE (k+1,c++nth m.y k) ⟨(by simp only;omega),(by grind [n7]),ψ⟩ (by simp only;omega) ?_
   (repeat'(first|exact trivial|rfl|exact CL rfl (CL (X0 (C.s dJ.own) (by simp[rI])) trivial)|refine CL ?_ ?_)))
 obtain rfl:k=m.y.length:=ω
 repeat'(first|refine gE ?_|fail)
 rw[lW d,<-o,<-a];rfl
def tbl(h:ab):aI:=h.G.F.R
def fe(h:ab):Nat:=h.G.F.R.O.length
def xe(xs:List ax)(i:Nat):Bool:=decide (i=0\/(nth xs (i - 1)).Q<(nth xs i).Q)
def wV(xs:List ay)(i:Nat):Bool:=decide (i=0\/(nth xs (i - 1)).Q<(nth xs i).Q)
def xZ(h:ab)(l:ay)(k:Nat):Bool:=decide ((aV h (l.Q+(k:Nat))).length=1)
def rG(h:ab)(i:Nat):Bool:=wV h.J i&&dn (nth h.J i).a2.toNat (xZ h (nth h.J i))
def v8(h:ab)(p:Nat):Bool:=decide ((nth (tbl h).O p).j≠0↔(p:Int)∈pgs h.K h.J)&&(decide ((nth (tbl h).O p).j≠0) != h.q.any (vH (p:Nat)))
def pages0(h:ab):Bool:=((dn h.K.length (xe h.K)&&dn h.J.length (rG h))&&(pgs h.K h.J).all λp=>decide (p<fe h))&&dn (fe h) (v8 h)
def mu(h:ab)(i:Nat)(q:Int):Bool:=decide (gq h q=(i:Nat)) || (decide (0<=gq h q)&&meshable (nth h.K i) (nth h.K (gq h q).toNat))
def uW(h:ab):Bool:=dn h.K.length λi=>(aV h (nth h.K i).Q).all (mu h i)
def m0(h:ab)(i j:Nat):Bool:=decide ((ac (tbl h) (nth h.K i).Q).e≠(ac (tbl h) (nth h.K j).Q).e) || meshable (nth h.K i) (nth h.K j)
def oJ(h:ab):Bool:=dn h.K.length λi=>dn i (m0 h i)
def ee(z:Int)(o:aY):Bool:=decide (o.Id=z)
def iI(h:ab)(o:aY):Bool:=
 let w:=denotes h.K h.J o.Addr
 decide (w.c5=0)&&((decide (w.b5=1)&&decide ((nth h.K w.c6.toNat).d=aG o.o)) || (decide (w.b5=3)&&decide ((nth h.J w.c6.toNat).o=o.o)))
def gH(a:Int)(h:ab)(i:Nat):Bool:=decide ((i=0\/(nth h.M (i - 1)).Addr<(nth h.M i).Addr)/\1<=(nth h.M i).Id/\(nth h.M i).Id<=a/\0<=(nth h.M i).a3/\(nth h.M i).a3<=h.S.length - 1)
def objAt(a:Int)(h:ab)(i:Nat):Bool:=(gH a h i&&!(h.M.take i).any (ee (nth h.M i).Id))&&iI h (nth h.M i)
def fU(h:ab):Bool:=dn h.M.length (objAt (IntKind.i64.wrap (h.b - 1)) h)
def d3(h:ab)(a c:Int):Bool:=
 let w:=denotes h.K h.J a
 (decide (w.b5=1)&&decide (w.c5=0))&&(decide (c<0) || decide ((nth h.K w.c6.toNat).d=c))
def tf(h:ab)(c:aB)(k:Nat):Bool:=(nth c.a k).all λa=>d3 h a (k:Nat)
def fj(h:ab)(c:aB):Bool:=dn c.a.length (tf h c)
def ia(h:ab)(x:aO):Bool:=d3 h x.Addr x.d
def kO(h:ab)(a:Int):Bool:=d3 h a (-1)
def cK(h:ab):List Int:=h.S.flatMap λc=>c.a.flatten
def jH(h:ab):Bool:=((h.S.all (fj h))&&h.a6.a1.all (ia h))&&(aN h.w).all (kO h)
def holders(h:ab):List Int:=((h.M.map (·.Addr)++cK h)++h.a6.a1.map (·.Addr))++aN h.w
def ky(sp:List ax)(la:List ay)(a:Nat):Bool:=
 let w:=denotes sp la (a:Nat)
 decide (w.c5=0)&&(decide (w.b5=1) || decide (w.b5=3))
def lZ(sp:List ax)(la:List ay)(n:Nat):List Int:=((List.range n).filter (ky sp la)).map λ(i:Nat)=>(i:Int)
def k6(sp:List ax)(la:List ay):List Int:=lZ sp la 512
def kg(h:ab):Bool:=(jH h&&decide (holders h).Nodup)&&decide ((holders h).length=(k6 h.K h.J).length)
def lV(h:ab):Bool:=h.a6.a1.all λx=>decide (x.b6<=h.b3)
def cr(h:ab):Bool:=decide (0<=h.c1/\h.c1<=1073741823/\0<=h.b3/\h.b3<=1000000/\0<=h.c4/\h.c4<=1000/\1<=h.b/\h.b<=1000000)
def rQ(h:ab):Bool:=if h.u then(jN h.Z&&decide (0<=gq h h.Z.Y.a5))&&decide (0<=gq h h.Z.Y.a4) else sL h.Z
def lh(h:ab):Bool:=((aA h.G&&bC (fe h) h.q)&&bk h.K h.J)&&pages0 h
set_option maxHeartbeats 8000000
theorem dY(h:bk sp la=true):sp.all bi=true/\la.all bH=true/\(pgs sp la).Nodup:=by grind [bk]
def Q3[Inhabited α]{xs:List α}{p:α->Bool}(h:xs.all p=true)(a:i<xs.length):p (nth xs i)=true:=v4.1 h _ (am a)
variable{h:ab}
theorem EW(h1:dn h.K.length (xe h.K)=false):pages0 h=false:=by grind [pages0]
theorem sj(h1:dn h.J.length (rG h)=false):pages0 h=false:=by grind [pages0]
theorem Gf(h1:p∈pgs h.K h.J)(a:¬p<fe h):pages0 h=false:=by grind [pages0]
theorem E4(h1:dn (fe h) (v8 h)=false):pages0 h=false:=by grind [pages0]
theorem xn(h1:dn h.K.length (xe h.K)=true)(a:dn h.J.length (rG h)=true)(b:∀p∈pgs h.K h.J,p<fe h)(c:dn (fe h) (v8 h)=true):pages0 h=true:=by grind [pages0]
theorem Pf(h1:wV h.J i=false):rG h i=false:=by grind [rG]
theorem Ng(a:k<(nth h.J i).a2.toNat)(h1:xZ h (nth h.J i) k=false):rG h i=false:=by grind [cI,rG]
theorem Eu(h1:wV h.J i=true)(a:dn (nth h.J i).a2.toNat (xZ h (nth h.J i))=true):rG h i=true:=by grind [rG]
def gX(h:ab)(p:Int):(aV h p).length<=fe h:=by
 unfold aV;split
 ·simp
 exact rg ..
theorem uF(h:bk sp la=true){l:ay}(a:la[i]? = some l):1<=l.a2/\l.a2<=63/\0<=l.Q/\l.Q<=31:=
 aK (v4.1 (dY h).2.1 l ψ)
theorem Fb(h:ab)(y:d6 h.K)(E:dx h.J)(g:zR h)(F:gu h.q)(l:bk h.K h.J=true):zzA 211 false [.val (some 24) (ab.enc .V h)] .one [B (pages0 h)]:=by
 have Y:=y.1;have Z:=E.1;have hl3:fe h<=1048576:=g.1;have hl4:=F.1;refine fO 144 [(7,18,[28,29,30,31,32,33,34,35,36,37,38,39,40,41,42,43,44,45]),(13,18,[62,63,64,65,66,67,68,69,70,71,72,73,74,75,76,77,78,79])] Tryz.func211 rfl ?_
 repeat'(first|refine gP ?_|fail)
 (conv=>whnf)
 refine CG (ι:=Nat × List Int) (λi=>[(1,.H .box (ab.enc .V h)),(3,.H .box (aI.enc .V (tbl h))),(4,.H .one [I (fe h)]),(5,.H .one (aF .own i.2)),(6,.H .one [I ((i.1:Nat):Int)])]) (λi=>i.1<=h.K.length/\i.2=(h.K.take i.1).map (·.Q)/\dn i.1 (xe h.K)=true) (λi=>h.K.length - i.1) ((0,[])) ?_ (⟨W0 _,rfl,rfl⟩) λi G=>?_
 ·exact wB
 obtain⟨i,S⟩:=i;obtain⟨G,H,J⟩:=G;simp only at G H J |-;have hSl:S.length=i:=ψ
 by_cases K:i<h.K.length
 ·have b:=ao K
  repeat'(first|refine gE ?_|(conv=>whnf);first|with_reducible (first|refine CD (aa b) ?_|refine Bf.D (λa=>?_) (λa=>?_))|refine CN ω (aa (gj ω K)) ?_|refine CU cA (λr n=>by rw[O1.1 n];rfl) (by simp[bm,eH]) (by simp;omega) (by simp only[C1];exact yV (by simp;omega) (by decide)) rfl ?_)
  all_goals first
   | exact X0 (λz=>[B z]) ((EW (cI K (U0 ω))).symm)
   | ((conv=>whnf)
      refine CE (i+1,S++[(nth h.K i).Q]) ⟨(by simp only;omega),(by simp only;rw[H,V5,b];simp),bQ J (O0 ω)⟩ (by simp only;omega) ?_
      (repeat'(first|exact trivial|rfl|exact CL rfl (CL (X0 (C.s dJ.own) (by simp[rI])) trivial)|refine CL ?_ ?_)))
 obtain rfl:i=h.K.length:=ω
 rw[C5]at H
 repeat'(first|refine gE ?_|fail)
 (conv=>whnf)
 refine CG (ι:=Nat × List Int) (λk=>[(1,.H .box (ab.enc .V h)),(3,.H .box (aI.enc .V (tbl h))),(4,.H .one [I (fe h)]),(5,.H .one (aF .own k.2)),(7,.H .one [I ((k.1:Nat):Int)])]) (λk=>k.1<=h.J.length/\k.2=pgs h.K (h.J.take k.1)/\dn k.1 (rG h)=true/\k.2.length<=1048576+64*k.1) (λk=>h.J.length - k.1) ((0,S)) ?_ (⟨W0 _,by grind [pgs],rfl,by simp only;omega⟩) λk L=>?_
 ·exact wB
 obtain⟨k,S2⟩:=k;obtain⟨L,c,M,O⟩:=L;simp only at L c M O |-;by_cases u:k<h.J.length
 ·have b:=ao u
  have hpg:=uF l b
  repeat'(first|refine gE ?_|(conv=>whnf);first|with_reducible (first|refine CD (aa b) ?_|refine Bf.D (λa=>?_) (λa=>?_))|refine CN ω (aa (gj ω u)) ?_)
  all_goals first
   | exact X0 (λz=>[B z]) ((sj (cI u (Pf (U0 ω)))).symm)
   |have e:wV h.J k=true:=O0 ω
    (conv=>whnf)
    refine CG (ι:=Nat × List Int) (λq=>[(1,.H .box (ab.enc .V h)),(3,.H .box (aI.enc .V (tbl h))),(4,.H .one [I (fe h)]),(5,.H .one (aF .own q.2)),(7,.H .one [I ((k:Nat):Int)]),(8,.H .one [I ((q.1:Nat):Int)])]) (λq=>q.1<=(nth h.J k).a2.toNat/\q.2=S2++lpgs (nth h.J k) q.1/\dn q.1 (xZ h (nth h.J k))=true) (λq=>(nth h.J k).a2.toNat - q.1) ((0,S2)) ?_ (⟨W0 _,by simp[lpgs],rfl⟩) λq a=>?_
    ·exact wB
    obtain⟨q,Q⟩:=q;obtain⟨R,d,o⟩:=a;simp only at R d o |-;have U:Q.length=S2.length+q:=by rw[d,U3,FA]
    by_cases w:q<(nth h.J k).a2.toNat
    ·have hfl:=gX h ((nth h.J k).Q+(q:Nat))
     repeat'(first|refine gE ?_|(conv=>whnf);first|with_reducible (first|refine CD (aa b) ?_|refine Bf.N (λa=>?_) (λa=>?_))|refine C8 (ij h _ g) ?_|refine CU cA (λr n=>by rw[O1.1 n];rfl) (by simp[bm,eH]) (by simp;omega) (by show _*8<=_;simp;omega) rfl ?_)
     all_goals first
      | exact X0 (λz=>[B z]) ((sj (cI u (Ng w (U0 ω)))).symm)
      | ((conv=>whnf)
         refine CE (q+1,Q++[(nth h.J k).Q+(q:Nat)]) ⟨(by simp only;omega),(by simp only;rw[d,kU,W5]),bQ o (O0 ω)⟩ (by simp only;omega) ?_
         (repeat'(first|exact trivial|rfl|exact CL rfl (CL (X0 (C.s dJ.own) (by simp[rI])) trivial)|refine CL ?_ ?_)))
    obtain rfl:q=(nth h.J k).a2.toNat:=ω
    repeat'(first|refine gE ?_|(conv=>whnf);first|with_reducible refine CD (aa b) ?_)
    ((conv=>whnf);refine CE (k+1,Q) ⟨(by simp only;omega),(by simp only;rw[d,c,<-pB _ b]),bQ M (Eu e o),(by simp only;omega)⟩ (by simp only;omega) ?_;(exact wB))
 obtain rfl:k=h.J.length:=ω
 rw[C5]at c
 repeat'(first|refine gE ?_|fail)
 (conv=>whnf)
 refine CG (ι:=Nat) (λq=>[(1,.H .box (ab.enc .V h)),(3,.H .box (aI.enc .V (tbl h))),(4,.H .one [I (fe h)]),(5,.H .one (aF .own S2)),(10,.H .one [I ((q:Nat):Int)])]) (λq=>q<=S2.length/\∀j,j<q->nth S2 j<fe h) (λq=>S2.length - q) (0) ?_ ψ λq a=>?_
 ·exact wB
 obtain⟨a,o⟩:=a;by_cases w:q<S2.length
 ·have b:=ao w
  repeat'(first|refine gE ?_|(conv=>whnf);first|with_reducible (first|refine CD (aa b) ?_|refine Bf.D (λa=>?_) (λa=>?_))|refine CH rfl (aa b) rfl ?_)
  all_goals first
   | exact X0 (λz=>[B z]) ((Gf (by rw[<-c];exact am w) ω).symm)
   | ((conv=>whnf);refine CE (q+1) ⟨ω,λj hj=>by rcases Nat.lt_or_ge j q with V|V;exact o j V;(obtain rfl:j=q:=ω);omega⟩ ω ?_;(exact wB))
 have t:∀p∈pgs h.K h.J,p<fe h:=λp T=>by grind [List.mem_iff_getElem?,bg]
 repeat'(first|refine gE ?_|fail)
 (conv=>whnf)
 refine CG (ι:=Nat) (λp=>[(1,.H .box (ab.enc .V h)),(3,.H .box (aI.enc .V (tbl h))),(4,.H .one [I (fe h)]),(5,.H .one (aF .own S2)),(11,.H .one [I ((p:Nat):Int)])]) (λp=>p<=fe h/\dn p (v8 h)=true) (λp=>fe h - p) 0 ?_ ⟨W0 _,rfl⟩ λp T=>?_
 ·exact wB
 obtain⟨T,W⟩:=T;by_cases X:p<fe h
 ·have b:=ao (xs:=(tbl h).O) X
  have n:=zP h.q (p:Nat) ω
  repeat'(first|refine gE ?_|(conv=>whnf);first|with_reducible (first|refine CD (aa b) ?_|refine Bf.D (λa=>?_) (λa=>?_)|refine Bf.NB (λa=>?_) (λa=>?_))|refine CF (mJ S2 _ ω) ⟨⟨rfl,eY _⟩,⟨rfl,rfl⟩,trivial⟩ ?_|refine C8 n ?_|refine Bf.P (λa=>?_) (λa=>?_))
  all_goals first
   | exact X0 (λz=>[B z]) ((E4 (cI X (by unfold v8;rw[<-c];grind))).symm)
   | ((conv=>whnf);refine CE (p+1) ⟨ω,bQ W (by unfold v8;rw[<-c];grind)⟩ ω ?_;(exact wB))
 repeat'(first|refine gE ?_|fail)
 obtain rfl:p=fe h:=ω
 exact X0 (λz=>[B z]) ((xn J M t W).symm)
set_option maxHeartbeats 8000000
def A7(h:z1=z2):P4 (I z1) (I z2):=by subst h;rfl
theorem JJ : z∈ins S p↔z∈S\/z=p:=by grind [ins]
theorem xM(S:List Int):(fL S).map (·.1)=S:=by unfold fL;rw[List.map_map];simp[Y5]
theorem mB{t:aI}{p:Nat}(a:p<t.O.length):ac t (p:Nat)=nth t.O p:=by grind [ac]
theorem DE(h:ab)(G:d6 h.K)(H:dx h.J)(d:zR h)(J:gu h.q)(u:bk h.K h.J=true):zzA 77 false [.val (some 24) (ab.enc .V h)] .one [B (pages0 h&&oJ h)]:=by
 have hl1:=G.1;have hl2:=H.1;have hl3:fe h<=1048576:=d.1;have hl4:=J.1;have b:pages0 h=false->[B false]=[B (pages0 h&&oJ h)]:=ψ
 refine fO 177 [(4,14,[25,26,27,28,29,30,31,32,33,34,35,36,37,38]),(16,14,[60,61,62,63,64,65,66,67,68,69,70,71,72,73]),(28,18,[102,103,104,105,106,107,108,109,110,111,112,113,114,115,116,117,118,119]),(42,23,[152,153,154,155,156,157,158,159,160,161,162,163,164,165,166,167,168,169,170,171,172,173,174])] Tryz.func77 rfl ?_
 repeat'(first|refine gP ?_|fail)
 (conv=>whnf)
 refine CG (ι:=Nat) (λi=>[(1,.H .box (ab.enc .V h)),(18,.H .one (cq .V h.K)),(19,.H .one [I (h.K.length)]),(20,.H .one [I ((i:Nat):Int)])]) (λi=>i<=h.K.length/\dn i (xe h.K)=true) (λi=>h.K.length - i) 0 ?_ ⟨W0 _,rfl⟩ λi g=>?_
 ·exact wB
 obtain⟨g,C⟩:=g;by_cases o:i<h.K.length
 ·have e:=ao o
  repeat'(first|refine gE ?_|(conv=>whnf);first|with_reducible (first|refine CD (aa e) ?_|refine Bf.D (λa=>?_) (λa=>?_))|refine CN ω (aa (gj ω o)) ?_)
  all_goals first
   |exact b (EW (cI o (U0 ω)))
   | ((conv=>whnf);refine CE (i+1) ⟨ω,bQ C (O0 ω)⟩ ω ?_;(exact wB))
 obtain rfl:i=h.K.length:=ω
 repeat'(first|refine gE ?_|fail)
 (conv=>whnf)
 refine CG (ι:=Nat × List Int) (λi=>[(1,.H .box (ab.enc .V h)),(5,.H .one [.m (fL i.2)]),(42,.H .one (cq .V h.K)),(43,.H .one [I (h.K.length)]),(44,.H .one [I ((i.1:Nat):Int)])]) (λi=>i.1<=h.K.length/\∀z,z∈i.2↔z∈(h.K.take i.1).map (·.Q)) (λi=>h.K.length - i.1) ((0,[])) ?_ ψ λi g=>?_
 ·exact wB
 obtain⟨i,S⟩:=i;obtain⟨K,Z⟩:=g;simp only at K Z |-;by_cases li2:i<h.K.length
 ·have e:=ao li2
  repeat'(first|refine gE ?_|(conv=>whnf);first|with_reducible refine CD (aa e) ?_|refine Mu.mk (xU S _) ?_)
  ((conv=>whnf);refine CE (i+1,ins S (nth h.K i).Q) ⟨(by simp only;omega),λz=>by grind [JJ,V5]⟩ (by simp only;omega) ?_;(exact wB))
 obtain rfl:i=h.K.length:=ω
 rw[C5]at Z
 repeat'(first|refine gE ?_|fail)
 (conv=>whnf)
 refine CG (ι:=Nat × List Int) (λk=>[(1,.H .box (ab.enc .V h)),(5,.H .one [.m (fL k.2)]),(53,.H .one (bU .V h.J)),(54,.H .one [I (h.J.length)]),(55,.H .one [I ((k.1:Nat):Int)])]) (λk=>k.1<=h.J.length/\(∀z,z∈k.2↔z∈pgs h.K (h.J.take k.1))/\dn k.1 (rG h)=true) (λk=>h.J.length - k.1) ((0,S)) ?_ (⟨W0 _,λz=>by grind [pgs],rfl⟩) λk L=>?_
 ·exact wB
 obtain⟨k,S2⟩:=k;obtain⟨L,c,M⟩:=L;simp only at L c M |-;by_cases F:k<h.J.length
 ·have e:=ao F
  have hpg:=uF u e
  repeat'(first|refine gE ?_|(conv=>whnf);first|with_reducible (first|refine CD (aa e) ?_|refine Bf.D (λa=>?_) (λa=>?_))|refine CN ω (aa (gj ω F)) ?_)
  all_goals first
   |exact b (sj (cI F (Pf (U0 ω))))
   |have l:wV h.J k=true:=O0 ω
    (conv=>whnf)
    refine CG (ι:=Nat × List Int) (λq=>[(1,.H .box (ab.enc .V h)),(5,.H .one [.m (fL q.2)]),(9,.H .box (ay.enc .V (nth h.J k))),(10,.H .one [I ((nth h.J k).Q+(q.1:Nat))]),(53,.H .one (bU .V h.J)),(54,.H .one [I (h.J.length)]),(55,.H .one [I ((k:Nat):Int)])]) (λq=>q.1<=(nth h.J k).a2.toNat/\(∀z,z∈q.2↔z∈S2++lpgs (nth h.J k) q.1)/\dn q.1 (xZ h (nth h.J k))=true) (λq=>(nth h.J k).a2.toNat - q.1) ((0,S2)) ?_ (⟨W0 _,λz=>by simp[lpgs],rfl⟩) λq a=>?_
    ·exact wB
    obtain⟨q,O⟩:=q;obtain⟨Q,n,R⟩:=a;simp only at Q n R |-;by_cases lq:q<(nth h.J k).a2.toNat
    ·have hfl:=gX h ((nth h.J k).Q+(q:Nat))
     repeat'(first|refine gE ?_|(conv=>whnf);first|with_reducible refine Bf.N (λa=>?_) (λa=>?_)|refine C8 (vM h _ d) ?_|refine Mu.mk (xU O _) ?_)
     all_goals first
      |exact b (sj (cI F (Ng lq (U0 ω))))
      | ((conv=>whnf)
         refine CE (q+1,ins O ((nth h.J k).Q+(q:Nat))) ⟨(by simp only;omega),λz=>by simp only[JJ,n];rw[kU];simp[or_assoc],bQ R (O0 ω)⟩ (by simp only;omega) ?_
         (repeat'(first|exact trivial|rfl|refine CL ?_ ?_|exact A7 (by simp;omega))))
    obtain rfl:q=(nth h.J k).a2.toNat:=ω
    repeat'(first|refine gE ?_|fail)
    ((conv=>whnf);refine CE (k+1,O) ⟨(by simp only;omega),(λz=>by simp only[n];rw[pB _ e];simp[c]),bQ M (Eu l R)⟩ (by simp only;omega) ?_;(exact wB))
 obtain rfl:k=h.J.length:=ω
 rw[C5]at c
 repeat'(first|refine gE ?_|fail)
 (conv=>whnf)
 refine CG (ι:=Nat) (λp=>[(1,.H .box (ab.enc .V h)),(5,.H .one [.m (fL S2)]),(98,.H .one [I (fe h)]),(99,.H .one [I ((p:Nat):Int)])]) (λp=>p<=fe h/\dn p (v8 h)=true) (λp=>fe h - p) 0 ?_ ⟨W0 _,rfl⟩ λp hp=>?_
 ·exact wB
 obtain⟨hp,ap⟩:=hp;by_cases lp:p<fe h
 ·have T:=z6 h.q (p:Nat) ω
  have w:=vq h.G (p:Nat) d;rw[mB lp]at w
  repeat'(first|refine gE ?_|(conv=>whnf);first|with_reducible (first|refine Bf.D (λa=>?_) (λa=>?_)|refine Bf.NB (λa=>?_) (λa=>?_))|refine C8 w ?_|refine Ml.mk (nQ (p:Nat) S2) ?_|refine C8 T ?_|refine Bf.P (λa=>?_) (λa=>?_))
  all_goals first
   |exact b (E4 (cI lp (by unfold v8 tbl;have:=c (p:Nat);grind)))
   | ((conv=>whnf);refine CE (p+1) ⟨ω,bQ ap (by unfold v8 tbl;have:=c (p:Nat);grind)⟩ ω ?_;(exact wB))
 obtain rfl:p=fe h:=ω
 repeat'(first|refine gE ?_|fail)
 have hpn:fe h=h.G.F.R.O.length:=rfl
 (conv=>whnf)
 refine CG (ι:=Option Int × List Int) (λt=>[(1,.H .box (ab.enc .V h)),(122,.H .one [.it t.1 t.2])]) (λt=>(∀z∈S2,z∈t.2\/z<fe h)/\∀z∈t.2,z∈S2) (λt=>t.2.length) ((none,(fL S2).map (·.1))) ?_ (⟨λz hz=>.inl (by grind [xM]),λz hz=>by grind [xM]⟩) λt ht=>?_
 ·exact wB
 obtain⟨cur,left⟩:=t;obtain⟨U,V⟩:=ht;simp only at U V |-
 repeat'(first|refine gP ?_|(conv=>whnf);first|with_reducible refine Bf.D (λa=>?_) (λa=>?_)|refine Nt.mk (λa=>?_) (λl1 k l2 a=>?_))
 rotate_left
 ·exact b (Gf (p:=k) ψ ω)
 ·((conv=>whnf);refine CE (some k,l1++l2) ψ (by subst left;simp) ?_;(exact wB))
 have y:∀p∈pgs h.K h.J,p<fe h:=ψ
 have h0:pages0 h=true:=xn C M y ap;rw[h0,Bool.true_and]
 (conv=>whnf)
 refine CG (ι:=Nat) (λi=>[(1,.H .box (ab.enc .V h)),(136,.H .one (cq .V h.K)),(137,.H .one [I (h.K.length)]),(138,.H .one [I ((i:Nat):Int)])]) (λi=>i<=h.K.length/\dn i (λi=>dn i (m0 h i))=true) (λi=>h.K.length - i) 0 ?_ ⟨W0 _,rfl⟩ λi g=>?_
 ·exact wB
 obtain⟨g,C⟩:=g;by_cases o:i<h.K.length
 ·have e:=ao o
  have W:(h.K.take i).length=i:=ψ
  repeat'(first|refine gE ?_|(conv=>whnf);first|with_reducible refine CD (aa e) ?_|refine CX i rfl (by simp;omega) (λr T=>by obtain⟨z,-,rfl⟩:=O4.1 T;rfl) (C4 ..) ?_)
  (conv=>whnf)
  refine CG (ι:=Nat) (λj=>[(1,.H .box (ab.enc .V h)),(14,.H .box (ax.enc .V (nth h.K i))),(136,.H .one (cq .V h.K)),(137,.H .one [I (h.K.length)]),(138,.H .one [I ((i:Nat):Int)]),(146,.H .one (cq .V (h.K.take i))),(147,.H .one [I ((h.K.take i).length)]),(148,.H .one [I ((j:Nat):Int)])]) (λj=>j<=(h.K.take i).length/\dn j (m0 h i)=true) (λj=>(h.K.take i).length - j) 0 ?_ ⟨W0 _,rfl⟩ λj hj=>?_
  ·exact wB
  obtain⟨hj,X⟩:=hj;by_cases lj:j<(h.K.take i).length
  ·have hy:=ao lj
   have he:nth (h.K.take i) j=nth h.K j:=bg (by grind [ao]);rw[he]at hy;have w:=zw (nth h.K i) (nth h.K j);cases Y:meshable (nth h.K i) (nth h.K j)<;>rw[Y]at w
   all_goals
    repeat'(first|refine gE ?_|(conv=>whnf);first|with_reducible (first|refine CD (aa hy) ?_|refine Bf.E (λa=>?_) (λa=>?_))|refine C8 (eX (tbl h) _ d) ?_|refine C8 w ?_)
    all_goals first
     | exact X0 (λz=>[B z]) ((by symm;exact cI o (cI (i:=j) ω (by unfold m0;rw[Y];grind))))
     | ((conv=>whnf);refine CE (j+1) ⟨ω,bQ X (by unfold m0;rw[Y];grind)⟩ ω ?_;(exact wB))
  obtain rfl:j=(h.K.take i).length:=ω
  rw[W]at X
  repeat'(first|refine gE ?_|fail)
  ((conv=>whnf);refine CE (i+1) ⟨ω,bQ C X⟩ ω ?_;(exact wB))
 obtain rfl:i=h.K.length:=ω
 repeat'(first|refine gE ?_|fail)
 exact X0 (λz=>[B z]) ((by grind [oJ]))
set_option maxHeartbeats 8000000
def iD[Inhabited α](pr:α->Bool)(xs:List α):dd pr xs = -1\/∃n,n<xs.length/\dd pr xs=(n:Nat)/\pr (nth xs n)=true:=by
 unfold dd;cases h:xs.findIdx? pr with
 | none=>exact .inl rfl
 | some i=>
  obtain⟨a,b,-⟩:=C7.1 h;exact .inr ⟨i,a,rfl,by rw[bg (O2 a)];exact b⟩
def Ek(a:i<h.K.length)(b:k<(aV h (nth h.K i).Q).length)(c:mu h i (nth (aV h (nth h.K i).Q) k)=false):uW h=false:=by
 unfold uW;exact cI a (gp (ao b) c)
theorem BC(h:ab)(j:d6 h.K)(c:zR h):zzA 212 false [.val (some 24) (ab.enc .V h)] .one [B (uW h)]:=by
 have l:=j.1;have E:fe h<=1048576:=c.1;refine fO 55 [(4,8,[14,15,16,17,18,19,20,21]),(8,6,[28,29,30,31,32,33]),(9,21,[34,35,36,37,38,39,40,41,42,43,44,45,46,47,48,49,50,51,52,53,54])] Tryz.func212 rfl ?_
 repeat'(first|refine gP ?_|fail)
 (conv=>whnf)
 refine CG (ι:=Nat) (λi=>[(1,.H .box (ab.enc .V h)),(3,.H .one [I ((i:Nat):Int)])]) (λi=>i<=h.K.length/\dn i (λi=>(aV h (nth h.K i).Q).all (mu h i))=true) (λi=>h.K.length - i) 0 ?_ ⟨W0 _,rfl⟩ λi w=>?_
 ·exact wB
 obtain⟨w,F⟩:=w;by_cases o:i<h.K.length
 ·have q:=ao o
  have G:=gX h (nth h.K i).Q
  repeat'(first|refine gE ?_|(conv=>whnf);first|with_reducible refine CD (aa q) ?_|refine C8 (ij h _ c) ?_)
  (conv=>whnf)
  refine CG (ι:=Nat) (λk=>[(1,.H .box (ab.enc .V h)),(3,.H .one [I ((i:Nat):Int)]),(4,.H .one (aF .own (aV h (nth h.K i).Q))),(5,.H .one [I ((k:Nat):Int)])]) (λk=>k<=(aV h (nth h.K i).Q).length/\((aV h (nth h.K i).Q).take k).all (mu h i)=true) (λk=>(aV h (nth h.K i).Q).length - k) (0) ?_ ψ λk y=>?_
  ·exact wB
  obtain⟨y,H⟩:=y;by_cases r:k<(aV h (nth h.K i).Q).length
  ·have d:=ao r
   have a:=jQ h (nth (aV h (nth h.K i).Q) k) l;rcases iD (mq (nth (aV h (nth h.K i).Q) k)) h.K with g|⟨n,J,g,-⟩
   ·rw[show gq h (nth (aV h (nth h.K i).Q) k) = -1 from g]at a
    have t:mu h i (nth (aV h (nth h.K i).Q) k)=false:=by grind [mu,gq]
    repeat'(first|refine gE ?_|(conv=>whnf);first|with_reducible (first|refine CD (aa q) ?_|refine CD (aa d) ?_|refine Bf.D (λb=>?_) (λb=>?_)|refine Bf.N (λb=>?_) (λb=>?_))|refine CH rfl (aa d) rfl ?_|refine C8 a ?_)
    all_goals first
     | exact X0 (λz=>[B z]) ((Ek o r t).symm)
     |(exfalso;omega)
   rw[show gq h (nth (aV h (nth h.K i).Q) k)=(n:Nat) from g]at a;have K:=ao J;have C:=m7 (nth h.K i) (nth h.K n);have e:mu h i (nth (aV h (nth h.K i).Q) k)=(decide ((n:Int)=(i:Nat)) || meshable (nth h.K i) (nth h.K n)):=by
    unfold mu;rw[show gq h (nth (aV h (nth h.K i).Q) k)=(n:Nat) from g,O0 (p:=(0:Int)<=(n:Nat)) ω];simp
   cases u:meshable (nth h.K i) (nth h.K n)<;>rw[u]at C
   all_goals
    repeat'(first|refine gE ?_|(conv=>whnf);first|with_reducible (first|refine CD (aa q) ?_|refine CD (aa K) ?_|refine CD (aa d) ?_|refine Bf.D (λb=>?_) (λb=>?_)|refine Bf.N (λb=>?_) (λb=>?_))|refine CH rfl (aa d) rfl ?_|refine C8 a ?_|refine C8 C ?_)
    all_goals first
     | exact X0 (λz=>[B z]) ((Ek o r (by rw[e,u];grind)).symm)
     | ((conv=>whnf);refine CE (k+1) ⟨ω,db d H (by rw[e,u];grind)⟩ ω ?_;(exact wB))
     |(exfalso;omega)
  repeat'(first|refine gE ?_|fail)
  ((conv=>whnf);refine CE (i+1) ⟨ω,bQ F ψ⟩ ω ?_;(exact wB))
 obtain rfl:i=h.K.length:=ω
 repeat'(first|refine gE ?_|fail)
 exact X0 (λz=>[B z]) ((by grind [uW]))
def KV(j:cL)(b:cL.sml j):zzA 217 false [.val (some 5) (cL.enc .V j)] .one [B (sL j)]:=by
 have c:j.Y.U.length<=1048576:=b;refine fO 30 [] Tryz.func217 rfl ?_
 repeat'(first|refine gP ?_|(conv=>whnf);first|with_reducible (first|refine Bf.E (λa=>?_) (λa=>?_)|refine Bf.D (λa=>?_) (λa=>?_)))
 all_goals exact X0 (λz=>[B z]) ((by unfold sL;first|(symm;exact U0 ω)|(rw[Y4,beq_iff_eq,C0];omega)))
theorem ou(sp:List ax)(la:List ay)(a:Int):((denotes sp la a).b5=1->0<=(denotes sp la a).c6/\(denotes sp la a).c6.toNat<sp.length)/\((denotes sp la a).b5=3->0<=(denotes sp la a).c6/\(denotes sp la a).c6.toNat<la.length):=by grind [C7,denotes,nX]
theorem Hf(h:ab)(a c:Int)(d:d6 h.K)(e:dx h.J)(b:bk h.K h.J=true)(k:ni a):zzA 363 false [.val (some 24) (ab.enc .V h),.val none [I a],.val none [I c]] .one [B (d3 h a c)]:=by
 have j:=om h.K h.J a d e b k;obtain⟨g,-⟩:=ou h.K h.J a;unfold d3;generalize denotes h.K h.J a=w at j g |-;refine fO 37 [] Tryz.func363 rfl ?_
 repeat'(first|refine gP ?_|(conv=>whnf);first|with_reducible (first|refine Bf.D (λi=>?_) (λi=>?_)|refine Bf.E (λi=>?_) (λi=>?_))|refine C8 j ?_|refine CN (g (by assumption)).1 (aa (ao (g (by assumption)).2)) ?_)
 all_goals exact X0 (λz=>[B z]) (ψ)
theorem Ar(h:ab)(o:aY)(w:iv)(a:denotes h.K h.J o.Addr=w):iI h o=(decide (w.c5=0)&&((decide (w.b5=1)&&decide ((nth h.K w.c6.toNat).d=aG o.o)) || (decide (w.b5=3)&&decide ((nth h.J w.c6.toNat).o=o.o)))):=by grind [iI]
def jy(a:i<h.M.length)(b:objAt (IntKind.i64.wrap (h.b - 1)) h i=false):fU h=false:=cI a b
theorem HS(h1:gH a h i=false):objAt a h i=false:=by grind [objAt]
theorem JC(h1:(h.M.take i).any (ee (nth h.M i).Id)=true):objAt a h i=false:=by grind [objAt]
theorem JL(h1:iI h (nth h.M i)=false):objAt a h i=false:=by grind [objAt]
theorem AO(h1:gH a h i=true)(b:(h.M.take i).any (ee (nth h.M i).Id)=false)(c:iI h (nth h.M i)=true):objAt a h i=true:=by grind [objAt]
theorem G3(h:ab)(l:d6 h.K)(n:dx h.J)(g:bk h.K h.J=true)(K:h.M.length<=1048576)(L:h.S.length<=1048576)(H:∀o∈h.M,ni o.Addr):zzA 215 false [.val (some 24) (ab.enc .V h)] .one [B (fU h)]:=by
 refine fO 117 [(5,33,[21,22,23,24,25,26,27,28,29,30,31,32,33,34,35,36,37,38,39,40,41,42,43,44,45,46,47,48,49,50,51,52,53]),(10,9,[59,60,61,62,63,64,65,66,67]),(13,16,[75,76,77,78,79,80,81,82,83,84,85,86,87,88,89,90]),(14,15,[91,92,93,94,95,96,97,98,99,100,101,102,103,104,105])] Tryz.func215 rfl ?_
 repeat'(first|refine gP ?_|fail)
 (conv=>whnf)
 refine CG (ι:=Nat) (λi=>[(1,.H .box (ab.enc .V h)),(3,.H .one [I ((i:Nat):Int)])]) (λi=>i<=h.M.length/\dn i (objAt (IntKind.i64.wrap (h.b - 1)) h)=true) (λi=>h.M.length - i) 0 ?_ ⟨W0 _,rfl⟩ λi t=>?_
 ·exact wB
 obtain⟨t,u⟩:=t;by_cases e:i<h.M.length
 ·have y:=ao e
  have C:=om h.K h.J (nth h.M i).Addr l n g (H _ (am e));obtain⟨p,q⟩:=ou h.K h.J (nth h.M i).Addr;have b:=Ar h (nth h.M i) _ rfl;generalize denotes h.K h.J (nth h.M i).Addr=w at C p q b;by_cases c:gH (IntKind.i64.wrap (h.b - 1)) h i=true
  ·have a:=c
   unfold gH at a;rw[C0]at a
   repeat'(first|refine gE ?_|(conv=>whnf);first|with_reducible (first|refine CD (aa y) ?_|refine Bf.D (λd=>?_) (λd=>?_))|refine CN ω (aa (gj ω e)) ?_|refine C8 (aH _ _ _) ?_|refine CM rfl ?_)
   all_goals
    (conv=>whnf)
    refine CG (ι:=Nat) (λk=>[(1,.H .box (ab.enc .V h)),(3,.H .one [I ((i:Nat):Int)]),(4,.H .box (aY.enc .V (nth h.M i))),(5,.H .one [I ((k:Nat):Int)])]) (λk=>k<=i/\(h.M.take k).any (ee (nth h.M i).Id)=false) (λk=>i - k) (0) ?_ (⟨W0 _,rfl⟩) λk F=>?_
    ·exact wB
    obtain⟨F,G⟩:=F;by_cases J:k<i
    ·have r:=ao (xs:=h.M) (i:=k) ω
     repeat'(first|refine gE ?_|(conv=>whnf);first|with_reducible (first|refine CD (aa r) ?_|refine Bf.E (λd=>?_) (λd=>?_)))
     all_goals first
      | exact X0 (λz=>[B z]) ((jy e (JC (BK (i:=k) (by rw[List.getElem?_take_of_lt J];exact r) (O0 (by assumption))))).symm)
      | ((conv=>whnf);refine CE (k+1) ⟨ω,yC r G (U0 (by assumption))⟩ ω ?_;(exact wB))
    obtain rfl:k=i:=ω
    repeat'(first|refine gE ?_|(conv=>whnf);first|with_reducible (first|refine Bf.D (λd=>?_) (λd=>?_)|refine Bf.E (λd=>?_) (λd=>?_)|refine Bf.N (λd=>?_) (λd=>?_))|refine C8 C ?_|refine CN (p (by assumption)).1 (aa (ao (p (by assumption)).2)) ?_|refine CN (q (by assumption)).1 (aa (ao (q (by assumption)).2)) ?_|refine C8 (kL _) ?_)
    all_goals first
     | exact X0 (λz=>[B z]) ((jy e (JL (by rw[b];grind))).symm)
     | ((conv=>whnf);refine CE (k+1) ⟨ω,bQ u (AO c G (by rw[b];grind))⟩ ω ?_;(exact wB))
     |(exfalso;omega)
  have j:gH (IntKind.i64.wrap (h.b - 1)) h i=false:=by simpa using c
  have a:=j;unfold gH at a;rw[X4]at a
  repeat'(first|refine gE ?_|(conv=>whnf);first|with_reducible (first|refine CD (aa y) ?_|refine Bf.D (λd=>?_) (λd=>?_))|refine CN ω (aa (gj ω e)) ?_|refine C8 (aH _ _ _) ?_|refine CM rfl ?_)
  all_goals first
   | exact X0 (λz=>[B z]) ((jy e (HS j)).symm)
   |(exfalso;omega)
 obtain rfl:i=h.M.length:=ω
 repeat'(first|refine gE ?_|fail)
 exact X0 (λz=>[B z]) ((show true=fU h from u.symm))
theorem pX(o a:aY):zzA 234 false [.val (some 4) (aY.enc .V o),.ptr (aY.enc .V a)] .one [B (ee a.Id o)]:=by
 refine fO 9 [] Tryz.func234 rfl ?_
 repeat'(first|refine gP ?_|fail)
 grind [ee]
theorem Fi(h:ab)(n:d6 h.K)(o:dx h.J)(J:h.M.length<=1048576)(K:h.S.length<=1048576):zzA 81 false [.val (some 24) (ab.enc .V h)] .one [B (fU h)]:=by
 refine fO 105 [(4,33,[16,17,18,19,20,21,22,23,24,25,26,27,28,29,30,31,32,33,34,35,36,37,38,39,40,41,42,43,44,45,46,47,48]),(9,16,[62,63,64,65,66,67,68,69,70,71,72,73,74,75,76,77]),(10,15,[78,79,80,81,82,83,84,85,86,87,88,89,90,91,92])] Tryz.func81 rfl ?_
 repeat'(first|refine gP ?_|fail)
 (conv=>whnf)
 refine CG (ι:=Nat) (λi=>[(1,.H .box (ab.enc .V h)),(9,.H .one (pG .V h.M)),(10,.H .one [I (h.M.length)]),(11,.H .one [I ((i:Nat):Int)])]) (λi=>i<=h.M.length/\dn i (objAt (IntKind.i64.wrap (h.b - 1)) h)=true) (λi=>h.M.length - i) 0 ?_ ⟨W0 _,rfl⟩ λi F=>?_
 ·exact wB
 obtain⟨F,G⟩:=F;by_cases g:i<h.M.length
 ·have p:=ao g
  have H:=iJ h.K h.J (nth h.M i).Addr n o;obtain⟨q,t⟩:=ou h.K h.J (nth h.M i).Addr;have b:=Ar h (nth h.M i) _ rfl;generalize denotes h.K h.J (nth h.M i).Addr=w at H q t b;have j:=tT (h.M.take i) (ee (nth h.M i).Id) ψ;by_cases c:gH (IntKind.i64.wrap (h.b - 1)) h i=true
  ·have a:=c
   unfold gH at a;rw[C0]at a;cases d:(h.M.take i).any (ee (nth h.M i).Id)<;>rw[d]at j
   ·repeat'(first|refine gE ?_|(conv=>whnf);first|with_reducible (first|refine CD (aa p) ?_|refine Bf.D (λe=>?_) (λe=>?_)|refine Bf.E (λe=>?_) (λe=>?_)|refine Bf.N (λe=>?_) (λe=>?_))|refine CN ω (aa (gj ω g)) ?_|refine C8 (aP _ _ _) ?_|refine CX i rfl (by simp;omega) (λr u=>by obtain⟨z,-,rfl⟩:=O4.1 u;rfl) (C4 ..) ?_|refine Cq.mk (xI (some 4) (aY.enc .V) (ee (nth h.M i).Id) (h.M.take i)) (pX default (nth h.M i)).has (λL k rcs C=>by obtain⟨y,-,rfl,rfl,rfl⟩:=C;exact pX y (nth h.M i)) ?_|refine C8 j ?_|refine C8 H ?_|refine CN (q (by assumption)).1 (aa (ao (q (by assumption)).2)) ?_|refine CN (t (by assumption)).1 (aa (ao (t (by assumption)).2)) ?_|refine C8 (ny _) ?_|refine CM rfl ?_)
    all_goals first
     | exact X0 (λz=>[B z]) ((jy g (JL (by rw[b];grind))).symm)
     | ((conv=>whnf);refine CE (i+1) ⟨ω,bQ G (AO c d (by rw[b];grind))⟩ ω ?_;(exact wB))
     |(exfalso;omega)
   repeat'(first|refine gE ?_|(conv=>whnf);first|with_reducible (first|refine CD (aa p) ?_|refine Bf.D (λe=>?_) (λe=>?_))|refine CN ω (aa (gj ω g)) ?_|refine C8 (aP _ _ _) ?_|refine CX i rfl (by simp;omega) (λr u=>by obtain⟨z,-,rfl⟩:=O4.1 u;rfl) (C4 ..) ?_|refine Cq.mk (xI (some 4) (aY.enc .V) (ee (nth h.M i).Id) (h.M.take i)) (pX default (nth h.M i)).has (λL k rcs C=>by obtain⟨y,-,rfl,rfl,rfl⟩:=C;exact pX y (nth h.M i)) ?_|refine C8 j ?_|refine CM rfl ?_)
   all_goals first
    | exact X0 (λz=>[B z]) ((jy g (JC d)).symm)
    |(exfalso;omega)
  have l:gH (IntKind.i64.wrap (h.b - 1)) h i=false:=by simpa using c
  have a:=l;unfold gH at a;rw[X4]at a
  repeat'(first|refine gE ?_|(conv=>whnf);first|with_reducible (first|refine CD (aa p) ?_|refine Bf.D (λe=>?_) (λe=>?_))|refine CN ω (aa (gj ω g)) ?_|refine C8 (aP _ _ _) ?_|refine CM rfl ?_)
  all_goals first
   | exact X0 (λz=>[B z]) ((jy g (HS l)).symm)
   |(exfalso;omega)
 obtain rfl:i=h.M.length:=ω
 repeat'(first|refine gE ?_|fail)
 exact X0 (λz=>[B z]) ((show true=fU h from G.symm))
end Go.Proofs.YtiopgblagimpmaaGreat.Ab
