/- The data of the program, its cells, its bulk and its marks. Printed by gen_data.py. No condition. -/
import Derived.Test.YtjooeakgbamfnaaGreatKRc
set_option linter.unusedVariables false
set_option linter.defProp false
set_option linter.unusedSimpArgs false
set_option linter.constructorNameAsVariable false
namespace Go.Proofs.YtjooeakgbamfnaaGreat.Ab
open Go.RowKit
def aE(o:eL)(x:List Int):List C:=[.s o (x.map (rI o))]
def eI(x:List Int):cP (aE .own x)=aE .O x:=by simp[cP,aE,rI,cP]
theorem bH(x:List Int):gl (aE .own x):=⟨⟨.inl ψ,bj _ _ λy _=>sM y⟩,tV1⟩
def im(x:List Int):Prop:=x.length<=9223372036854775807/\∀y∈x,mY y
def ek(x:List Int):Nat:=x.length
def szIntS(x:List Int):Nat:=x.length
def jE(x:List Int):Prop:=x.length<=1048576
def markIntS:List Int->Int->List Int
 | [],_=>[]
 | _::xs,k=>k::markIntS xs (k+1)
def rm:∀(x:List Int)(k:Int),(markIntS x k).length=x.length
 | [],_=>rfl
 | _::xs,k=>by simp[markIntS,rm xs]
def qZ:∀(x:List Int)(k:Int)(i:Nat),i<x.length->(markIntS x k)[i]? = some (k+(i:Nat))
 | [],_,i,h=>by simp at h
 | _::xs,k,0,_=>by simp[markIntS]
 | _::xs,k,i+1,h=>by
  simp only[markIntS,List.getElem?_cons_succ];rw[qZ xs (k+1) i (by simpa using h)];rw[show k+1+(i:Int)=k+((i+1:Nat):Int) by omega]
def lI(_:List Int)(i:Nat):Nat:=i
def NQ{x:List Int}(h:szIntS x<=1048576):jE x:=h
theorem MY(x:List Int):ek x<=8*szIntS x:=by grind [ek,szIntS]
def g9(o:eL)(x:List (List Int)):List C:=[.s o (x.map (aE o))]
def Yx(x:List (List Int)):cP (g9 .own x)=g9 .O x:=by simp[cP,g9,eI,<-bX,IB]
def J7(x:List (List Int)):Prop:=x.length<=9223372036854775807/\∀y∈x,im y
def gc:List (List Int)->Nat
 | []=>0
 | x::xs=>ek x+gc xs
def wK:List (List Int)->Nat
 | []=>0
 | x::xs=>szIntS x+wK xs
def WW(x:List (List Int)):Nat:=x.length+wK x
def qp(x:List (List Int)):Prop:=x.length<=1048576/\∀y∈x,jE y
def markIntSS:List (List Int)->Int->List (List Int)
 | [],_=>[]
 | x::xs,k=>markIntS x k::markIntSS xs (k+(ek x:Nat))
def qh:∀(x:List (List Int))(k:Int),(markIntSS x k).length=x.length
 | [],_=>rfl
 | _::xs,k=>by simp[markIntSS,qh xs]
def eX:List (List Int)->Nat->Nat
 | [],_=>0
 | _::_,0=>0
 | x::xs,i+1=>ek x+eX xs i
def pX:∀(x:List (List Int))(k:Int)(i:Nat)(y:List Int),x[i]? = some y->(markIntSS x k)[i]? = some (markIntS y (k+(eX x i:Nat)))
 | [],_,i,y,h=>by simp at h
 | x::xs,k,0,y,h=>by simp at h;subst h;simp[markIntSS,eX]
 | x::xs,k,i+1,y,h=>by
  simp only[markIntSS,List.getElem?_cons_succ];rw[pX xs _ i y (by simpa using h)]
  congr 2
  simp only[eX];omega
def pI(x:List (List Int)):eX x 0=0:=by cases x<;>rfl
def pW:∀(x:List (List Int))(i:Nat)(y:List Int),x[i]? = some y->eX x (i+1)=eX x i+ek y
 | [],i,y,h=>by simp at h
 | x::xs,0,y,h=>by simp at h;subst h;simp[eX,pI]
 | x::xs,i+1,y,h=>by
  simp only[eX];rw[pW xs i y (by simpa using h)];omega
def rq:∀(x:List (List Int)),eX x x.length=gc x
 | []=>rfl
 | x::xs=>by simp only[List.length_cons,eX,gc,rq xs]
def qy:List (List Int)->Nat->Nat
 | [],_=>0
 | _::_,0=>0
 | x::xs,i+1=>szIntS x+qy xs i
def JY:∀(x:List (List Int))(i:Nat),qy x i<=wK x
 | [],_=>by simp[qy]
 | x::xs,0=>by simp[qy]
 | x::xs,i+1=>by simp only[qy,wK];have:=JY xs i;omega
def tX:∀(x:List (List Int))(i:Nat),eX x i<=gc x
 | [],_=>by simp[eX]
 | x::xs,0=>by simp[eX]
 | x::xs,i+1=>by simp only[eX,gc];have:=tX xs i;omega
def lf(o:eL)(x:List Bool):List C:=[.s o (x.map (rB o))]
def W9(x:List Bool):Prop:=x.length<=9223372036854775807/\∀y∈x,ZI y
def j8(x:List Bool):Nat:=x.length
def xh(x:List Bool):Prop:=x.length<=1048576
def markBoolS:List Bool->Int->List Bool
 | [],_=>[]
 | _::xs,k=>decide (k.tmod 3=0)::markBoolS xs (k+1)
def pz:∀(x:List Bool)(k:Int),(markBoolS x k).length=x.length
 | [],_=>rfl
 | _::xs,k=>by simp[markBoolS,pz xs]
def pJ:∀(x:List Bool)(k:Int)(i:Nat),i<x.length->(markBoolS x k)[i]? = some (decide ((k+(i:Nat)).tmod 3=0))
 | [],_,i,h=>by simp at h
 | _::xs,k,0,_=>by simp[markBoolS]
 | _::xs,k,i+1,h=>by
  simp only[markBoolS,List.getElem?_cons_succ];rw[pJ xs (k+1) i (by simpa using h)];rw[show k+1+(i:Int)=k+((i+1:Nat):Int) by omega]
def jC(_:List Bool)(i:Nat):Nat:=i
structure aQ where
 U:List (List Int)
 a3:List Bool
deriving DecidableEq,Inhabited
def aQ.enc(o:eL)(x:aQ):List C:=[.s o (x.U.map (aE o)),.s o (x.a3.map (rB o))]
def aQ.enc_fz(x:aQ):cP (aQ.enc .own x)=aQ.enc .O x:=by simp[cP,aQ.enc,rB,eI,<-bX,IB]
theorem aQ.enc_fr(x:aQ):gl (aQ.enc .own x):=⟨⟨.inl ψ,bj _ _ λy _=>bH y⟩,⟨.inl ψ,bj _ _ λy _=>LE y⟩,tV1⟩
def aQ.wf(x:aQ):Prop:=J7 x.U/\W9 x.a3
def aQ.cnt(x:aQ):Nat:=gc x.U+j8 x.a3
def aQ.sml(x:aQ):Prop:=qp x.U/\xh x.a3
def aQ.mark(x:aQ)(k:Int):aQ:={x with U:=markIntSS x.U (k),a3:=markBoolS x.a3 (k+(gc x.U:Nat))}
structure aS where
 o:Int
 j:Int
deriving DecidableEq,Inhabited
def aS.enc(o:eL)(x:aS):List C:=[I x.o,I x.j]
def aS.enc_fz(x:aS):cP (aS.enc .own x)=aS.enc .O x:=by simp[cP,aS.enc]
def aS.enc_fr(x:aS):gl (aS.enc .own x):=⟨tV1,tV1,tV1⟩
def aS.wf(x:aS):Prop:=mY x.o/\mY x.j
def aS.cnt(_:aS):Nat:=2
def aS.sml(_:aS):Prop:=True
def aS.mark(_:aS)(k:Int):aS:=⟨k,k+1⟩
def j7(o:eL)(x:List aS):List C:=[.s o (x.map (aS.enc o))]
def RM(x:List aS):Prop:=x.length<=9223372036854775807/\∀y∈x,aS.wf y
def fG:List aS->Nat
 | []=>0
 | x::xs=>aS.cnt x+fG xs
def qY(x:List aS):Prop:=x.length<=1048576/\∀y∈x,aS.sml y
def ew:List aS->Int->List aS
 | [],_=>[]
 | x::xs,k=>aS.mark x k::ew xs (k+(aS.cnt x:Nat))
def mD:∀(x:List aS)(k:Int),(ew x k).length=x.length
 | [],_=>rfl
 | _::xs,k=>by simp[ew,mD xs]
def cV:List aS->Nat->Nat
 | [],_=>0
 | _::_,0=>0
 | x::xs,i+1=>aS.cnt x+cV xs i
def mE:∀(x:List aS)(k:Int)(i:Nat)(y:aS),x[i]? = some y->(ew x k)[i]? = some (aS.mark y (k+(cV x i:Nat)))
 | [],_,i,y,h=>by simp at h
 | x::xs,k,0,y,h=>by simp at h;subst h;simp[ew,cV]
 | x::xs,k,i+1,y,h=>by
  simp only[ew,List.getElem?_cons_succ];rw[mE xs _ i y (by simpa using h)]
  congr 2
  simp only[cV];omega
def mT(x:List aS):cV x 0=0:=by cases x<;>rfl
def mt:∀(x:List aS)(i:Nat)(y:aS),x[i]? = some y->cV x (i+1)=cV x i+aS.cnt y
 | [],i,y,h=>by simp at h
 | x::xs,0,y,h=>by simp at h;subst h;simp[cV,mT]
 | x::xs,i+1,y,h=>by
  simp only[cV];rw[mt xs i y (by simpa using h)];omega
def nJ:∀(x:List aS),cV x x.length=fG x
 | []=>rfl
 | x::xs=>by simp only[List.length_cons,cV,fG,nJ xs]
def pA:∀(x:List aS)(i:Nat),cV x i<=fG x
 | [],_=>by simp[cV]
 | x::xs,0=>by simp[cV]
 | x::xs,i+1=>by simp only[cV,fG];have:=pA xs i;omega
structure aM where
 M:List aS
deriving DecidableEq,Inhabited
def aM.enc(o:eL)(x:aM):List C:=[.s o (x.M.map (aS.enc o))]
def aM.enc_fz(x:aM):cP (aM.enc .own x)=aM.enc .O x:=by simp[cP,aM.enc,aS.enc_fz,<-bX,IB]
def Cj:type_of% @aM.enc_fz:=@aM.enc_fz
theorem aM.enc_fr(x:aM):gl (aM.enc .own x):=⟨⟨.inl ψ,bj _ _ λy _=>aS.enc_fr y⟩,tV1⟩
def aM.wf(x:aM):Prop:=RM x.M
def aM.cnt(x:aM):Nat:=fG x.M
def aM.sml(x:aM):Prop:=qY x.M
def aM.mark(x:aM)(k:Int):aM:={x with M:=ew x.M (k)}
structure aL where
 V:aQ
 Q:aM
deriving DecidableEq,Inhabited
def aL.enc(o:eL)(x:aL):List C:=[.s o (x.V.U.map (aE o)),.s o (x.V.a3.map (rB o)),.s o (x.Q.M.map (aS.enc o))]
def aL.enc_fz(x:aL):cP (aL.enc .own x)=aL.enc .O x:=by simp[cP,aL.enc,aS.enc_fz,rB,eI,<-bX,IB]
theorem aL.enc_fr(x:aL):gl (aL.enc .own x):=⟨⟨.inl ψ,bj _ _ λy _=>bH y⟩,⟨.inl ψ,bj _ _ λy _=>LE y⟩,⟨.inl ψ,bj _ _ λy _=>aS.enc_fr y⟩,tV1⟩
def aL.wf(x:aL):Prop:=aQ.wf x.V/\aM.wf x.Q
def aL.cnt(x:aL):Nat:=aQ.cnt x.V+aM.cnt x.Q
def aL.sml(x:aL):Prop:=aQ.sml x.V/\aM.sml x.Q
def aL.mark(x:aL)(k:Int):aL:={x with V:=aQ.mark x.V (k),Q:=aM.mark x.Q (k+(aQ.cnt x.V:Nat))}
structure af where
 F:aL
 Calls:Int
 a:List Int
deriving DecidableEq,Inhabited
def af.enc(o:eL)(x:af):List C:=[.s o (x.F.V.U.map (aE o)),.s o (x.F.V.a3.map (rB o)),.s o (x.F.Q.M.map (aS.enc o)),I x.Calls,.s o (x.a.map (rI o))]
def af.enc_fz(x:af):cP (af.enc .own x)=af.enc .O x:=by simp[cP,af.enc,aS.enc_fz,rB,rI,eI,<-bX,IB]
def CU:type_of% @af.enc_fz:=@af.enc_fz
theorem af.enc_fr(x:af):gl (af.enc .own x):=⟨⟨.inl ψ,bj _ _ λy _=>bH y⟩,⟨.inl ψ,bj _ _ λy _=>LE y⟩,⟨.inl ψ,bj _ _ λy _=>aS.enc_fr y⟩,tV1,⟨.inl ψ,bj _ _ λy _=>sM y⟩,tV1⟩
def Ci:type_of% @af.enc_fr:=@af.enc_fr
def af.wf(x:af):Prop:=aL.wf x.F/\mY x.Calls/\im x.a
def af.cnt(x:af):Nat:=aL.cnt x.F+ek x.a
def af.sml(x:af):Prop:=aL.sml x.F/\jE x.a
def af.mark(x:af)(k:Int):af:={x with F:=aL.mark x.F (k),a:=markIntS x.a (k+(aL.cnt x.F:Nat))}
structure aC where
 At:Int
 a4:Int
deriving DecidableEq,Inhabited
def aC.enc(o:eL)(x:aC):List C:=[I x.At,I x.a4]
def aC.enc_fz(x:aC):cP (aC.enc .own x)=aC.enc .O x:=by simp[cP,aC.enc]
def aC.enc_fr(x:aC):gl (aC.enc .own x):=⟨tV1,tV1,tV1⟩
def aC.wf(x:aC):Prop:=mY x.At/\mY x.a4
def aC.cnt(_:aC):Nat:=2
def aC.sml(_:aC):Prop:=True
def aC.mark(_:aC)(k:Int):aC:=⟨k,k+1⟩
def bn(o:eL)(x:List aC):List C:=[.s o (x.map (aC.enc o))]
def er(x:List aC):cP (bn .own x)=bn .O x:=by simp[cP,bn,aC.enc_fz,<-bX,IB]
theorem jY(x:List aC):gl (bn .own x):=⟨⟨.inl ψ,bj _ _ λy _=>aC.enc_fr y⟩,tV1⟩
def RC(x:List aC):Prop:=x.length<=9223372036854775807/\∀y∈x,aC.wf y
def cA:List aC->Nat
 | []=>0
 | x::xs=>aC.cnt x+cA xs
def f9(x:List aC):Prop:=x.length<=1048576/\∀y∈x,aC.sml y
def eD:List aC->Int->List aC
 | [],_=>[]
 | x::xs,k=>aC.mark x k::eD xs (k+(aC.cnt x:Nat))
def mJ:∀(x:List aC)(k:Int),(eD x k).length=x.length
 | [],_=>rfl
 | _::xs,k=>by simp[eD,mJ xs]
def cX:List aC->Nat->Nat
 | [],_=>0
 | _::_,0=>0
 | x::xs,i+1=>aC.cnt x+cX xs i
def mL:∀(x:List aC)(k:Int)(i:Nat)(y:aC),x[i]? = some y->(eD x k)[i]? = some (aC.mark y (k+(cX x i:Nat)))
 | [],_,i,y,h=>by simp at h
 | x::xs,k,0,y,h=>by simp at h;subst h;simp[eD,cX]
 | x::xs,k,i+1,y,h=>by
  simp only[eD,List.getElem?_cons_succ];rw[mL xs _ i y (by simpa using h)]
  congr 2
  simp only[cX];omega
def mN(x:List aC):cX x 0=0:=by cases x<;>rfl
def mF:∀(x:List aC)(i:Nat)(y:aC),x[i]? = some y->cX x (i+1)=cX x i+aC.cnt y
 | [],i,y,h=>by simp at h
 | x::xs,0,y,h=>by simp at h;subst h;simp[cX,mN]
 | x::xs,i+1,y,h=>by
  simp only[cX];rw[mF xs i y (by simpa using h)];omega
def nS:∀(x:List aC),cX x x.length=cA x
 | []=>rfl
 | x::xs=>by simp only[List.length_cons,cX,cA,nS xs]
def pu:∀(x:List aC)(i:Nat),cX x i<=cA x
 | [],_=>by simp[cX]
 | x::xs,0=>by simp[cX]
 | x::xs,i+1=>by simp only[cX,cA];have:=pu xs i;omega
structure aA where
 S:Int
 Z:Int
 a6:Int
deriving DecidableEq,Inhabited
def aA.enc(o:eL)(x:aA):List C:=[I x.S,I x.Z,I x.a6]
def aA.enc_fz(x:aA):cP (aA.enc .own x)=aA.enc .O x:=by simp[cP,aA.enc]
def aA.enc_fr(x:aA):gl (aA.enc .own x):=⟨tV1,tV1,tV1,tV1⟩
def aA.wf(x:aA):Prop:=mY x.S/\mY x.Z/\mY x.a6
def aA.cnt(_:aA):Nat:=3
def aA.sml(_:aA):Prop:=True
def aA.mark(_:aA)(k:Int):aA:=⟨k,k+1,k+1+1⟩
def bP(o:eL)(x:List aA):List C:=[.s o (x.map (aA.enc o))]
def eN(x:List aA):cP (bP .own x)=bP .O x:=by simp[cP,bP,aA.enc_fz,<-bX,IB]
theorem BL(x:List aA):gl (bP .own x):=⟨⟨.inl ψ,bj _ _ λy _=>aA.enc_fr y⟩,tV1⟩
def Vn(x:List aA):Prop:=x.length<=9223372036854775807/\∀y∈x,aA.wf y
def dA:List aA->Nat
 | []=>0
 | x::xs=>aA.cnt x+dA xs
def dl(x:List aA):Prop:=x.length<=1048576/\∀y∈x,aA.sml y
def f8:List aA->Int->List aA
 | [],_=>[]
 | x::xs,k=>aA.mark x k::f8 xs (k+(aA.cnt x:Nat))
def nH:∀(x:List aA)(k:Int),(f8 x k).length=x.length
 | [],_=>rfl
 | _::xs,k=>by simp[f8,nH xs]
def dQ:List aA->Nat->Nat
 | [],_=>0
 | _::_,0=>0
 | x::xs,i+1=>aA.cnt x+dQ xs i
def nZ:∀(x:List aA)(k:Int)(i:Nat)(y:aA),x[i]? = some y->(f8 x k)[i]? = some (aA.mark y (k+(dQ x i:Nat)))
 | [],_,i,y,h=>by simp at h
 | x::xs,k,0,y,h=>by simp at h;subst h;simp[f8,dQ]
 | x::xs,k,i+1,y,h=>by
  simp only[f8,List.getElem?_cons_succ];rw[nZ xs _ i y (by simpa using h)]
  congr 2
  simp only[dQ];omega
def ot(x:List aA):dQ x 0=0:=by cases x<;>rfl
def nX:∀(x:List aA)(i:Nat)(y:aA),x[i]? = some y->dQ x (i+1)=dQ x i+aA.cnt y
 | [],i,y,h=>by simp at h
 | x::xs,0,y,h=>by simp at h;subst h;simp[dQ,ot]
 | x::xs,i+1,y,h=>by
  simp only[dQ];rw[nX xs i y (by simpa using h)];omega
def qa:∀(x:List aA),dQ x x.length=dA x
 | []=>rfl
 | x::xs=>by simp only[List.length_cons,dQ,dA,qa xs]
def ri:∀(x:List aA)(i:Nat),dQ x i<=dA x
 | [],_=>by simp[dQ]
 | x::xs,0=>by simp[dQ]
 | x::xs,i+1=>by simp only[dQ,dA];have:=ri xs i;omega
structure a8 where
 S:Int
 a0:Int
 y:Int
deriving DecidableEq,Inhabited
def a8.enc(o:eL)(x:a8):List C:=[I x.S,I x.a0,I x.y]
def a8.enc_fz(x:a8):cP (a8.enc .own x)=a8.enc .O x:=by simp[cP,a8.enc]
def a8.enc_fr(x:a8):gl (a8.enc .own x):=⟨tV1,tV1,tV1,tV1⟩
def a8.wf(x:a8):Prop:=mY x.S/\mY x.a0/\mY x.y
def a8.cnt(_:a8):Nat:=3
def a8.sml(_:a8):Prop:=True
def a8.mark(_:a8)(k:Int):a8:=⟨k,k+1,k+1+1⟩
def bV(o:eL)(x:List a8):List C:=[.s o (x.map (a8.enc o))]
def kf(x:List a8):cP (bV .own x)=bV .O x:=by simp[cP,bV,a8.enc_fz,<-bX,IB]
def R5(x:List a8):Prop:=x.length<=9223372036854775807/\∀y∈x,a8.wf y
def dd:List a8->Nat
 | []=>0
 | x::xs=>a8.cnt x+dd xs
def du(x:List a8):Prop:=x.length<=1048576/\∀y∈x,a8.sml y
def eB:List a8->Int->List a8
 | [],_=>[]
 | x::xs,k=>a8.mark x k::eB xs (k+(a8.cnt x:Nat))
def mG:∀(x:List a8)(k:Int),(eB x k).length=x.length
 | [],_=>rfl
 | _::xs,k=>by simp[eB,mG xs]
def dh:List a8->Nat->Nat
 | [],_=>0
 | _::_,0=>0
 | x::xs,i+1=>a8.cnt x+dh xs i
def mz:∀(x:List a8)(k:Int)(i:Nat)(y:a8),x[i]? = some y->(eB x k)[i]? = some (a8.mark y (k+(dh x i:Nat)))
 | [],_,i,y,h=>by simp at h
 | x::xs,k,0,y,h=>by simp at h;subst h;simp[eB,dh]
 | x::xs,k,i+1,y,h=>by
  simp only[eB,List.getElem?_cons_succ];rw[mz xs _ i y (by simpa using h)]
  congr 2
  simp only[dh];omega
def mw(x:List a8):dh x 0=0:=by cases x<;>rfl
def mQ:∀(x:List a8)(i:Nat)(y:a8),x[i]? = some y->dh x (i+1)=dh x i+a8.cnt y
 | [],i,y,h=>by simp at h
 | x::xs,0,y,h=>by simp at h;subst h;simp[dh,mw]
 | x::xs,i+1,y,h=>by
  simp only[dh];rw[mQ xs i y (by simpa using h)];omega
def nY:∀(x:List a8),dh x x.length=dd x
 | []=>rfl
 | x::xs=>by simp only[List.length_cons,dh,dd,nY xs]
def qd:∀(x:List a8)(i:Nat),dh x i<=dd x
 | [],_=>by simp[dh]
 | x::xs,0=>by simp[dh]
 | x::xs,i+1=>by simp only[dh,dd];have:=qd xs i;omega
structure aW where
 Id:Int
 Addr:Int
 y:Int
 w:Int
deriving DecidableEq,Inhabited
def aW.enc(o:eL)(x:aW):List C:=[I x.Id,I x.Addr,I x.y,I x.w]
def aW.enc_fz(x:aW):cP (aW.enc .own x)=aW.enc .O x:=by simp[cP,aW.enc]
def aW.enc_fr(x:aW):gl (aW.enc .own x):=⟨tV1,tV1,tV1,tV1,tV1⟩
def aW.wf(x:aW):Prop:=mY x.Id/\mY x.Addr/\mY x.y/\mY x.w
def aW.cnt(_:aW):Nat:=4
def aW.sml(_:aW):Prop:=True
def aW.mark(_:aW)(k:Int):aW:=⟨k,k+1,k+1+1,k+1+1+1⟩
def iU(o:eL)(x:List aW):List C:=[.s o (x.map (aW.enc o))]
def RF(x:List aW):cP (iU .own x)=iU .O x:=by simp[cP,iU,aW.enc_fz,<-bX,IB]
def Wy(x:List aW):Prop:=x.length<=9223372036854775807/\∀y∈x,aW.wf y
def fJ:List aW->Nat
 | []=>0
 | x::xs=>aW.cnt x+fJ xs
def xw(x:List aW):Prop:=x.length<=1048576/\∀y∈x,aW.sml y
def gp:List aW->Int->List aW
 | [],_=>[]
 | x::xs,k=>aW.mark x k::gp xs (k+(aW.cnt x:Nat))
def qe:∀(x:List aW)(k:Int),(gp x k).length=x.length
 | [],_=>rfl
 | _::xs,k=>by simp[gp,qe xs]
def fh:List aW->Nat->Nat
 | [],_=>0
 | _::_,0=>0
 | x::xs,i+1=>aW.cnt x+fh xs i
def pH:∀(x:List aW)(k:Int)(i:Nat)(y:aW),x[i]? = some y->(gp x k)[i]? = some (aW.mark y (k+(fh x i:Nat)))
 | [],_,i,y,h=>by simp at h
 | x::xs,k,0,y,h=>by simp at h;subst h;simp[gp,fh]
 | x::xs,k,i+1,y,h=>by
  simp only[gp,List.getElem?_cons_succ];rw[pH xs _ i y (by simpa using h)]
  congr 2
  simp only[fh];omega
def pp(x:List aW):fh x 0=0:=by cases x<;>rfl
def p8:∀(x:List aW)(i:Nat)(y:aW),x[i]? = some y->fh x (i+1)=fh x i+aW.cnt y
 | [],i,y,h=>by simp at h
 | x::xs,0,y,h=>by simp at h;subst h;simp[fh,pp]
 | x::xs,i+1,y,h=>by
  simp only[fh];rw[p8 xs i y (by simpa using h)];omega
def qR:∀(x:List aW),fh x x.length=fJ x
 | []=>rfl
 | x::xs=>by simp only[List.length_cons,fh,fJ,qR xs]
def tf:∀(x:List aW)(i:Nat),fh x i<=fJ x
 | [],_=>by simp[fh]
 | x::xs,0=>by simp[fh]
 | x::xs,i+1=>by simp only[fh,fJ];have:=tf xs i;omega
structure aB where
 W:List (List Int)
deriving DecidableEq,Inhabited
def aB.enc(o:eL)(x:aB):List C:=[.s o (x.W.map (aE o))]
def aB.enc_fz(x:aB):cP (aB.enc .own x)=aB.enc .O x:=by simp[cP,aB.enc,eI,<-bX,IB]
def Co:type_of% @aB.enc_fz:=@aB.enc_fz
theorem aB.enc_fr(x:aB):gl (aB.enc .own x):=⟨⟨.inl ψ,bj _ _ λy _=>bH y⟩,tV1⟩
def Cp:type_of% @aB.enc_fr:=@aB.enc_fr
def aB.wf(x:aB):Prop:=J7 x.W
def aB.cnt(x:aB):Nat:=gc x.W
def aB.sz(x:aB):Nat:=WW x.W
def aB.sml(x:aB):Prop:=qp x.W
def aB.mark(x:aB)(k:Int):aB:={x with W:=markIntSS x.W (k)}
def hJ(o:eL)(x:List aB):List C:=[.s o (x.map (aB.enc o))]
def Tg(x:List aB):Prop:=x.length<=9223372036854775807/\∀y∈x,aB.wf y
def dI:List aB->Nat
 | []=>0
 | x::xs=>aB.cnt x+dI xs
def wq:List aB->Nat
 | []=>0
 | x::xs=>aB.sz x+wq xs
def rS(x:List aB):Prop:=x.length<=1048576/\∀y∈x,aB.sml y
def eA:List aB->Int->List aB
 | [],_=>[]
 | x::xs,k=>aB.mark x k::eA xs (k+(aB.cnt x:Nat))
def mu:∀(x:List aB)(k:Int),(eA x k).length=x.length
 | [],_=>rfl
 | _::xs,k=>by simp[eA,mu xs]
def cZ:List aB->Nat->Nat
 | [],_=>0
 | _::_,0=>0
 | x::xs,i+1=>aB.cnt x+cZ xs i
def m6:∀(x:List aB)(k:Int)(i:Nat)(y:aB),x[i]? = some y->(eA x k)[i]? = some (aB.mark y (k+(cZ x i:Nat)))
 | [],_,i,y,h=>by simp at h
 | x::xs,k,0,y,h=>by simp at h;subst h;simp[eA,cZ]
 | x::xs,k,i+1,y,h=>by
  simp only[eA,List.getElem?_cons_succ];rw[m6 xs _ i y (by simpa using h)]
  congr 2
  simp only[cZ];omega
def mS(x:List aB):cZ x 0=0:=by cases x<;>rfl
def my:∀(x:List aB)(i:Nat)(y:aB),x[i]? = some y->cZ x (i+1)=cZ x i+aB.cnt y
 | [],i,y,h=>by simp at h
 | x::xs,0,y,h=>by simp at h;subst h;simp[cZ,mS]
 | x::xs,i+1,y,h=>by
  simp only[cZ];rw[my xs i y (by simpa using h)];omega
def oh:∀(x:List aB),cZ x x.length=dI x
 | []=>rfl
 | x::xs=>by simp only[List.length_cons,cZ,dI,oh xs]
def ml:List aB->Nat->Nat
 | [],_=>0
 | _::_,0=>0
 | x::xs,i+1=>aB.sz x+ml xs i
def Ex:∀(x:List aB)(i:Nat),ml x i<=wq x
 | [],_=>by simp[ml]
 | x::xs,0=>by simp[ml]
 | x::xs,i+1=>by simp only[ml,wq];have:=Ex xs i;omega
def pq:∀(x:List aB)(i:Nat),cZ x i<=dI x
 | [],_=>by simp[cZ]
 | x::xs,0=>by simp[cZ]
 | x::xs,i+1=>by simp only[cZ,dI];have:=pq xs i;omega
structure aX where
 To:Int
 Addr:Int
deriving DecidableEq,Inhabited
def aX.enc(o:eL)(x:aX):List C:=[I x.To,I x.Addr]
def aX.enc_fz(x:aX):cP (aX.enc .own x)=aX.enc .O x:=by simp[cP,aX.enc]
def aX.enc_fr(x:aX):gl (aX.enc .own x):=⟨tV1,tV1,tV1⟩
def aX.wf(x:aX):Prop:=mY x.To/\mY x.Addr
def aX.cnt(_:aX):Nat:=2
def aX.sml(_:aX):Prop:=True
def aX.mark(_:aX)(k:Int):aX:=⟨k,k+1⟩
def bg(o:eL)(x:List aX):List C:=[.s o (x.map (aX.enc o))]
def rU(x:List aX):cP (bg .own x)=bg .O x:=by simp[cP,bg,aX.enc_fz,<-bX,IB]
theorem ry(x:List aX):gl (bg .own x):=⟨⟨.inl ψ,bj _ _ λy _=>aX.enc_fr y⟩,tV1⟩
def Uy(x:List aX):Prop:=x.length<=9223372036854775807/\∀y∈x,aX.wf y
def ep:List aX->Nat
 | []=>0
 | x::xs=>aX.cnt x+ep xs
def tW(x:List aX):Nat:=x.length
def uo(x:List aX):Prop:=x.length<=1048576/\∀y∈x,aX.sml y
def eO:List aX->Int->List aX
 | [],_=>[]
 | x::xs,k=>aX.mark x k::eO xs (k+(aX.cnt x:Nat))
def nR:∀(x:List aX)(k:Int),(eO x k).length=x.length
 | [],_=>rfl
 | _::xs,k=>by simp[eO,nR xs]
def dN:List aX->Nat->Nat
 | [],_=>0
 | _::_,0=>0
 | x::xs,i+1=>aX.cnt x+dN xs i
def ox:∀(x:List aX)(k:Int)(i:Nat)(y:aX),x[i]? = some y->(eO x k)[i]? = some (aX.mark y (k+(dN x i:Nat)))
 | [],_,i,y,h=>by simp at h
 | x::xs,k,0,y,h=>by simp at h;subst h;simp[eO,dN]
 | x::xs,k,i+1,y,h=>by
  simp only[eO,List.getElem?_cons_succ];rw[ox xs _ i y (by simpa using h)]
  congr 2
  simp only[dN];omega
def oz(x:List aX):dN x 0=0:=by cases x<;>rfl
def oy:∀(x:List aX)(i:Nat)(y:aX),x[i]? = some y->dN x (i+1)=dN x i+aX.cnt y
 | [],i,y,h=>by simp at h
 | x::xs,0,y,h=>by simp at h;subst h;simp[dN,oz]
 | x::xs,i+1,y,h=>by
  simp only[dN];rw[oy xs i y (by simpa using h)];omega
def pv:∀(x:List aX),dN x x.length=ep x
 | []=>rfl
 | x::xs=>by simp only[List.length_cons,dN,ep,pv xs]
theorem xP:∀(x:List aX),ep x<=8*tW x
 | []=>by simp[ep]
 | x::xs=>by have:=xP xs;grind [ep,tW,aX.cnt]
def qT:∀(x:List aX)(i:Nat),dN x i<=ep x
 | [],_=>by simp[dN]
 | x::xs,0=>by simp[dN]
 | x::xs,i+1=>by simp only[dN,ep];have:=qT xs i;omega
def iR(o:eL)(x:List (List aX)):List C:=[.s o (x.map (bg o))]
def RS(x:List (List aX)):Prop:=x.length<=9223372036854775807/\∀y∈x,Uy y
def eP:List (List aX)->Nat
 | []=>0
 | x::xs=>ep x+eP xs
def wl:List (List aX)->Nat
 | []=>0
 | x::xs=>tW x+wl xs
def qS(x:List (List aX)):Prop:=x.length<=1048576/\∀y∈x,uo y
def eC:List (List aX)->Int->List (List aX)
 | [],_=>[]
 | x::xs,k=>eO x k::eC xs (k+(ep x:Nat))
def mI:∀(x:List (List aX))(k:Int),(eC x k).length=x.length
 | [],_=>rfl
 | _::xs,k=>by simp[eC,mI xs]
def cU:List (List aX)->Nat->Nat
 | [],_=>0
 | _::_,0=>0
 | x::xs,i+1=>ep x+cU xs i
def m9:∀(x:List (List aX))(k:Int)(i:Nat)(y:List aX),x[i]? = some y->(eC x k)[i]? = some (eO y (k+(cU x i:Nat)))
 | [],_,i,y,h=>by simp at h
 | x::xs,k,0,y,h=>by simp at h;subst h;simp[eC,cU]
 | x::xs,k,i+1,y,h=>by
  simp only[eC,List.getElem?_cons_succ];rw[m9 xs _ i y (by simpa using h)]
  congr 2
  simp only[cU];omega
def m0(x:List (List aX)):cU x 0=0:=by cases x<;>rfl
def mR:∀(x:List (List aX))(i:Nat)(y:List aX),x[i]? = some y->cU x (i+1)=cU x i+ep y
 | [],i,y,h=>by simp at h
 | x::xs,0,y,h=>by simp at h;subst h;simp[cU,m0]
 | x::xs,i+1,y,h=>by
  simp only[cU];rw[mR xs i y (by simpa using h)];omega
def nU:∀(x:List (List aX)),cU x x.length=eP x
 | []=>rfl
 | x::xs=>by simp only[List.length_cons,cU,eP,nU xs]
def lY:List (List aX)->Nat->Nat
 | [],_=>0
 | _::_,0=>0
 | x::xs,i+1=>tW x+lY xs i
def AP:∀(x:List (List aX))(i:Nat),lY x i<=wl x
 | [],_=>by simp[lY]
 | x::xs,0=>by simp[lY]
 | x::xs,i+1=>by simp only[lY,wl];have:=AP xs i;omega
def qg:∀(x:List (List aX))(i:Nat),cU x i<=eP x
 | [],_=>by simp[cU]
 | x::xs,0=>by simp[cU]
 | x::xs,i+1=>by simp only[cU,eP];have:=qg xs i;omega
structure aI where
 T:List (List aX)
 g:List (List Int)
deriving DecidableEq,Inhabited
def aI.enc(o:eL)(x:aI):List C:=[.s o (x.T.map (bg o)),.s o (x.g.map (aE o))]
def aI.enc_fz(x:aI):cP (aI.enc .own x)=aI.enc .O x:=by simp[cP,aI.enc,rU,eI,<-bX,IB]
def Ct:type_of% @aI.enc_fz:=@aI.enc_fz
theorem aI.enc_fr(x:aI):gl (aI.enc .own x):=⟨⟨.inl ψ,bj _ _ λy _=>ry y⟩,⟨.inl ψ,bj _ _ λy _=>bH y⟩,tV1⟩
def Cn:type_of% @aI.enc_fr:=@aI.enc_fr
def aI.wf(x:aI):Prop:=RS x.T/\J7 x.g
def aI.cnt(x:aI):Nat:=eP x.T+gc x.g
def aI.sml(x:aI):Prop:=qS x.T/\qp x.g
def aI.mark(x:aI)(k:Int):aI:={x with T:=eC x.T (k),g:=markIntSS x.g (k+(eP x.T:Nat))}
structure aJ where
 Addr:Int
 Z:Int
 b7:Int
deriving DecidableEq,Inhabited
def aJ.enc(o:eL)(x:aJ):List C:=[I x.Addr,I x.Z,I x.b7]
def aJ.enc_fz(x:aJ):cP (aJ.enc .own x)=aJ.enc .O x:=by simp[cP,aJ.enc]
def aJ.enc_fr(x:aJ):gl (aJ.enc .own x):=⟨tV1,tV1,tV1,tV1⟩
def aJ.wf(x:aJ):Prop:=mY x.Addr/\mY x.Z/\mY x.b7
def aJ.cnt(_:aJ):Nat:=3
def aJ.sml(_:aJ):Prop:=True
def aJ.mark(_:aJ)(k:Int):aJ:=⟨k,k+1,k+1+1⟩
def bY(o:eL)(x:List aJ):List C:=[.s o (x.map (aJ.enc o))]
def K7(x:List aJ):cP (bY .own x)=bY .O x:=by simp[cP,bY,aJ.enc_fz,<-bX,IB]
theorem oK(x:List aJ):gl (bY .own x):=⟨⟨.inl ψ,bj _ _ λy _=>aJ.enc_fr y⟩,tV1⟩
def RW(x:List aJ):Prop:=x.length<=9223372036854775807/\∀y∈x,aJ.wf y
def fF:List aJ->Nat
 | []=>0
 | x::xs=>aJ.cnt x+fF xs
def iP(x:List aJ):Prop:=x.length<=1048576/\∀y∈x,aJ.sml y
def eE:List aJ->Int->List aJ
 | [],_=>[]
 | x::xs,k=>aJ.mark x k::eE xs (k+(aJ.cnt x:Nat))
def mA:∀(x:List aJ)(k:Int),(eE x k).length=x.length
 | [],_=>rfl
 | _::xs,k=>by simp[eE,mA xs]
def cY:List aJ->Nat->Nat
 | [],_=>0
 | _::_,0=>0
 | x::xs,i+1=>aJ.cnt x+cY xs i
def mM:∀(x:List aJ)(k:Int)(i:Nat)(y:aJ),x[i]? = some y->(eE x k)[i]? = some (aJ.mark y (k+(cY x i:Nat)))
 | [],_,i,y,h=>by simp at h
 | x::xs,k,0,y,h=>by simp at h;subst h;simp[eE,cY]
 | x::xs,k,i+1,y,h=>by
  simp only[eE,List.getElem?_cons_succ];rw[mM xs _ i y (by simpa using h)]
  congr 2
  simp only[cY];omega
def mU(x:List aJ):cY x 0=0:=by cases x<;>rfl
def m7:∀(x:List aJ)(i:Nat)(y:aJ),x[i]? = some y->cY x (i+1)=cY x i+aJ.cnt y
 | [],i,y,h=>by simp at h
 | x::xs,0,y,h=>by simp at h;subst h;simp[cY,mU]
 | x::xs,i+1,y,h=>by
  simp only[cY];rw[m7 xs i y (by simpa using h)];omega
def o7:∀(x:List aJ),cY x x.length=fF x
 | []=>rfl
 | x::xs=>by simp only[List.length_cons,cY,fF,o7 xs]
def p9:∀(x:List aJ)(i:Nat),cY x i<=fF x
 | [],_=>by simp[cY]
 | x::xs,0=>by simp[cY]
 | x::xs,i+1=>by simp only[cY,fF];have:=p9 xs i;omega
structure bh where
 c0:Int
 q:List aJ
deriving DecidableEq,Inhabited
def bh.enc(o:eL)(x:bh):List C:=[I x.c0,.s o (x.q.map (aJ.enc o))]
def bh.enc_fz(x:bh):cP (bh.enc .own x)=bh.enc .O x:=by simp[cP,bh.enc,aJ.enc_fz,<-bX,IB]
theorem bh.enc_fr(x:bh):gl (bh.enc .own x):=⟨tV1,⟨.inl ψ,bj _ _ λy _=>aJ.enc_fr y⟩,tV1⟩
def bh.wf(x:bh):Prop:=mY x.c0/\RW x.q
def bh.cnt(x:bh):Nat:=fF x.q
def bh.sml(x:bh):Prop:=iP x.q
def bh.mark(x:bh)(k:Int):bh:={x with q:=eE x.q (k)}
structure b9 where
 b0:Int
 b2:Int
 U:List Int
deriving DecidableEq,Inhabited
def b9.enc(o:eL)(x:b9):List C:=[I x.b0,I x.b2,.s o (x.U.map (rI o))]
def b9.enc_fz(x:b9):cP (b9.enc .own x)=b9.enc .O x:=by simp[cP,b9.enc,rI,<-bX,IB]
theorem b9.enc_fr(x:b9):gl (b9.enc .own x):=⟨tV1,tV1,⟨.inl ψ,bj _ _ λy _=>sM y⟩,tV1⟩
def b9.wf(x:b9):Prop:=mY x.b0/\mY x.b2/\im x.U
def b9.cnt(x:b9):Nat:=ek x.U
def b9.sml(x:b9):Prop:=jE x.U
def b9.mark(x:b9)(k:Int):b9:={x with U:=markIntS x.U (k)}
structure bW where
 d:b9
 b5:Int
 k:Int
deriving DecidableEq,Inhabited
def bW.enc(o:eL)(x:bW):List C:=[I x.d.b0,I x.d.b2,.s o (x.d.U.map (rI o)),I x.b5,I x.k]
def bW.enc_fz(x:bW):cP (bW.enc .own x)=bW.enc .O x:=by simp[cP,bW.enc,rI,<-bX,IB]
theorem bW.enc_fr(x:bW):gl (bW.enc .own x):=⟨tV1,tV1,⟨.inl ψ,bj _ _ λy _=>sM y⟩,tV1,tV1,tV1⟩
def bW.wf(x:bW):Prop:=b9.wf x.d/\mY x.b5/\mY x.k
def bW.cnt(x:bW):Nat:=b9.cnt x.d
def bW.sml(x:bW):Prop:=b9.sml x.d
def bW.mark(x:bW)(k:Int):bW:={x with d:=b9.mark x.d (k)}
structure ac where
 G:af
 b:List aC
 J:List aA
 H:List a8
 K:List aW
 R:List aB
 e:aI
 a1:bh
 c1:Int
 b1:Int
 c2:Int
 k:Int
 a2:Bool
 a5:bW
deriving DecidableEq,Inhabited
def ac.enc(o:eL)(x:ac):List C:=[.s o (x.G.F.V.U.map (aE o)),.s o (x.G.F.V.a3.map (rB o)),.s o (x.G.F.Q.M.map (aS.enc o)),I x.G.Calls,.s o (x.G.a.map (rI o)),.s o (x.b.map (aC.enc o)),.s o (x.J.map (aA.enc o)),.s o (x.H.map (a8.enc o)),.s o (x.K.map (aW.enc o)),.s o (x.R.map (aB.enc o)),.s o (x.e.T.map (bg o)),.s o (x.e.g.map (aE o)),I x.a1.c0,.s o (x.a1.q.map (aJ.enc o)),I x.c1,I x.b1,I x.c2,I x.k,B x.a2,I x.a5.d.b0,I x.a5.d.b2,.s o (x.a5.d.U.map (rI o)),I x.a5.b5,I x.a5.k]
def ac.enc_fz(x:ac):cP (ac.enc .own x)=ac.enc .O x:=by simp[cP,ac.enc,Co,aS.enc_fz,a8.enc_fz,aW.enc_fz,aC.enc_fz,aA.enc_fz,aJ.enc_fz,rB,rU,rI,eI,<-bX,IB]
theorem ac.enc_fr(x:ac):gl (ac.enc .own x):=⟨⟨.inl ψ,bj _ _ λy _=>bH y⟩,⟨.inl ψ,bj _ _ λy _=>LE y⟩,⟨.inl ψ,bj _ _ λy _=>aS.enc_fr y⟩,tV1,⟨.inl ψ,bj _ _ λy _=>sM y⟩,⟨.inl ψ,bj _ _ λy _=>aC.enc_fr y⟩,⟨.inl ψ,bj _ _ λy _=>aA.enc_fr y⟩,⟨.inl ψ,bj _ _ λy _=>a8.enc_fr y⟩,⟨.inl ψ,bj _ _ λy _=>aW.enc_fr y⟩,⟨.inl ψ,bj _ _ λy _=>Cp y⟩,⟨.inl ψ,bj _ _ λy _=>ry y⟩,⟨.inl ψ,bj _ _ λy _=>bH y⟩,tV1,⟨.inl ψ,bj _ _ λy _=>aJ.enc_fr y⟩,tV1,tV1,tV1,tV1,tV1,tV1,tV1,⟨.inl ψ,bj _ _ λy _=>sM y⟩,tV1,tV1,tV1⟩
def ac.wf(x:ac):Prop:=af.wf x.G/\RC x.b/\Vn x.J/\R5 x.H/\Wy x.K/\Tg x.R/\aI.wf x.e/\bh.wf x.a1/\mY x.c1/\mY x.b1/\mY x.c2/\mY x.k/\ZI x.a2/\bW.wf x.a5
def ac.cnt(x:ac):Nat:=af.cnt x.G+cA x.b+dA x.J+dd x.H+fJ x.K+dI x.R+aI.cnt x.e+bh.cnt x.a1+bW.cnt x.a5
def ac.sml(x:ac):Prop:=af.sml x.G/\f9 x.b/\dl x.J/\du x.H/\xw x.K/\rS x.R/\aI.sml x.e/\bh.sml x.a1/\bW.sml x.a5
def ac.mark(x:ac)(k:Int):ac:={x with G:=af.mark x.G (k),b:=eD x.b (k+(af.cnt x.G:Nat)),J:=f8 x.J (k+(af.cnt x.G:Nat)+(cA x.b:Nat)),H:=eB x.H (k+(af.cnt x.G:Nat)+(cA x.b:Nat)+(dA x.J:Nat)),K:=gp x.K (k+(af.cnt x.G:Nat)+(cA x.b:Nat)+(dA x.J:Nat)+(dd x.H:Nat)),R:=eA x.R (k+(af.cnt x.G:Nat)+(cA x.b:Nat)+(dA x.J:Nat)+(dd x.H:Nat)+(fJ x.K:Nat)),e:=aI.mark x.e (k+(af.cnt x.G:Nat)+(cA x.b:Nat)+(dA x.J:Nat)+(dd x.H:Nat)+(fJ x.K:Nat)+(dI x.R:Nat)),a1:=bh.mark x.a1 (k+(af.cnt x.G:Nat)+(cA x.b:Nat)+(dA x.J:Nat)+(dd x.H:Nat)+(fJ x.K:Nat)+(dI x.R:Nat)+(aI.cnt x.e:Nat)),a5:=bW.mark x.a5 (k+(af.cnt x.G:Nat)+(cA x.b:Nat)+(dA x.J:Nat)+(dd x.H:Nat)+(fJ x.K:Nat)+(dI x.R:Nat)+(aI.cnt x.e:Nat)+(bh.cnt x.a1:Nat))}
structure ll where
 b3:Int
 c7:Int
 c9:Int
 c8:Int
deriving DecidableEq,Inhabited
def ll.enc(o:eL)(x:ll):List C:=[I x.b3,I x.c7,I x.c9,I x.c8]
def ll.enc_fr(x:ll):gl (ll.enc .own x):=⟨tV1,tV1,tV1,tV1,tV1⟩
structure ZB where
 Id:Int
 y:Int
 Sum:Int
deriving DecidableEq,Inhabited
structure aK where
 Id:Int
 U:List Int
deriving DecidableEq,Inhabited
def aK.enc(o:eL)(x:aK):List C:=[I x.Id,.s o (x.U.map (rI o))]
def aK.enc_fz(x:aK):cP (aK.enc .own x)=aK.enc .O x:=by simp[cP,aK.enc,rI,<-bX,IB]
theorem aK.enc_fr(x:aK):gl (aK.enc .own x):=⟨tV1,⟨.inl ψ,bj _ _ λy _=>sM y⟩,tV1⟩
def aK.sml(x:aK):Prop:=jE x.U
def jQ(o:eL)(x:List aK):List C:=[.s o (x.map (aK.enc o))]
def pe(x:List aK):Prop:=x.length<=1048576/\∀y∈x,aK.sml y
structure au where
 k:Int
 K:List aK
deriving DecidableEq,Inhabited
def au.enc(o:eL)(x:au):List C:=[I x.k,.s o (x.K.map (aK.enc o))]
def au.enc_fz(x:au):cP (au.enc .own x)=au.enc .O x:=by simp[cP,au.enc,aK.enc_fz,<-bX,IB]
def Cu:type_of% @au.enc_fz:=@au.enc_fz
theorem au.enc_fr(x:au):gl (au.enc .own x):=⟨tV1,⟨.inl ψ,bj _ _ λy _=>aK.enc_fr y⟩,tV1⟩
def Cr:type_of% @au.enc_fr:=@au.enc_fr
def au.sml(x:au):Prop:=pe x.K
structure aR where
 Y:ac
 c5:au
deriving DecidableEq,Inhabited
def aR.enc(o:eL)(x:aR):List C:=[.s o (x.Y.G.F.V.U.map (aE o)),.s o (x.Y.G.F.V.a3.map (rB o)),.s o (x.Y.G.F.Q.M.map (aS.enc o)),I x.Y.G.Calls,.s o (x.Y.G.a.map (rI o)),.s o (x.Y.b.map (aC.enc o)),.s o (x.Y.J.map (aA.enc o)),.s o (x.Y.H.map (a8.enc o)),.s o (x.Y.K.map (aW.enc o)),.s o (x.Y.R.map (aB.enc o)),.s o (x.Y.e.T.map (bg o)),.s o (x.Y.e.g.map (aE o)),I x.Y.a1.c0,.s o (x.Y.a1.q.map (aJ.enc o)),I x.Y.c1,I x.Y.b1,I x.Y.c2,I x.Y.k,B x.Y.a2,I x.Y.a5.d.b0,I x.Y.a5.d.b2,.s o (x.Y.a5.d.U.map (rI o)),I x.Y.a5.b5,I x.Y.a5.k,I x.c5.k,.s o (x.c5.K.map (aK.enc o))]
theorem aR.enc_fr(x:aR):gl (aR.enc .own x):=⟨⟨.inl ψ,bj _ _ λy _=>bH y⟩,⟨.inl ψ,bj _ _ λy _=>LE y⟩,⟨.inl ψ,bj _ _ λy _=>aS.enc_fr y⟩,tV1,⟨.inl ψ,bj _ _ λy _=>sM y⟩,⟨.inl ψ,bj _ _ λy _=>aC.enc_fr y⟩,⟨.inl ψ,bj _ _ λy _=>aA.enc_fr y⟩,⟨.inl ψ,bj _ _ λy _=>a8.enc_fr y⟩,⟨.inl ψ,bj _ _ λy _=>aW.enc_fr y⟩,⟨.inl ψ,bj _ _ λy _=>Cp y⟩,⟨.inl ψ,bj _ _ λy _=>ry y⟩,⟨.inl ψ,bj _ _ λy _=>bH y⟩,tV1,⟨.inl ψ,bj _ _ λy _=>aJ.enc_fr y⟩,tV1,tV1,tV1,tV1,tV1,tV1,tV1,⟨.inl ψ,bj _ _ λy _=>sM y⟩,tV1,tV1,tV1,⟨.inl ψ,bj _ _ λy _=>aK.enc_fr y⟩,tV1⟩
def aR.sml(x:aR):Prop:=ac.sml x.Y/\au.sml x.c5
structure YI where
 a0:Int
 Mapped:Int
 V:Int
 Held:Int
 q9:Int
 Cached:Int
 c3:Int
 Posted:Int
deriving DecidableEq,Inhabited
variable{α:Type}
def Lm{β:Type}{f:α->β}{l:List α}{K:Nat->Prop}(h:K l.length):Ln (l.map f).length K:=CY (I2 ..) h
variable{z:Int}
def Wm{K:Int->Prop}(h : -9223372036854775808<=z/\z<=9223372036854775807)(a:K z):Wr .i64 z K:=CS (ia h.1 h.2) a
variable{X Y p:Prop}
def dT[Decidable p](h:p)(a:p->X):Bf (decide p) X Y:=.D a λe=>absurd h e
def dF[Decidable p](h:¬p)(a:¬p->Y):Bf (decide p) X Y:=.D (λe=>absurd e h) a
variable{a b:Int}
def nT(h:a≠b)(c:a≠b->X):Bf (a != b) X Y:=.N c λe=>absurd e h
def nF(h:a=b)(c:a=b->Y):Bf (a != b) X Y:=.N (λe=>absurd h e) c
def eT(h:a=b)(c:a=b->X):Bf (a == b) X Y:=.E c λe=>absurd h e
def eF(h:a≠b)(c:a≠b->Y):Bf (a == b) X Y:=.E (λe=>absurd e h) c
def Bn{b:Bool}(h:Bf b Y X):Bf (!b) X Y:=.not h
def Bt(h:X):Bf true X Y:=.t rfl h
def Bu(h:Y):Bf false X Y:=.f rfl h
def Fm{k b:Kd}{cs a:List C}(h1:k=b)(h:cs=a):km k b cs a:=.mk h1 h
def dV[Decidable p](h:p)(a:X):Bf (decide p) X Y:=.D (λ_=>a) λe=>absurd h e
def dW[Decidable p](h:¬p)(a:Y):Bf (decide p) X Y:=.D (λe=>absurd e h) λ_=>a
def nV(h:a≠b)(c:X):Bf (a != b) X Y:=.N (λ_=>c) λe=>absurd e h
def nW(h:a=b)(c:Y):Bf (a != b) X Y:=.N (λe=>absurd h e) λ_=>c
def eV(h:a=b)(c:X):Bf (a == b) X Y:=.E (λ_=>c) λe=>absurd h e
def eW(h:a≠b)(c:Y):Bf (a == b) X Y:=.E (λe=>absurd e h) λ_=>c
structure Rg(Y:Prop):Prop where
 out:Y
structure σF(X Y:Prop):Prop where
def σF.rf{X:Prop}:σF X X:=⟨⟩
def gO(y:Y)(h:Rg Y->X:=by intro y;(conv=>whnf);(first|with_reducible (first|refine Lm ?_|refine Wm ω ?_|refine Bn ?_|refine Fm rfl ?_)|refine Bt ?_|refine Bu ?_|skip);exact y.out)(_:σF X Y:=by (fail_if_success with_reducible exact σF.rf);exact ⟨⟩):X:=h ⟨y⟩
def gP(y:Y)(h:Rg Y->X:=by intro y;(conv=>whnf);(first|with_reducible (first|refine Lm ?_|refine Wm ω ?_|refine Bn ?_|refine Fm rfl ?_)|refine Bt ?_|refine Bu ?_|refine CF (by assumption) ?_|refine CH (aa (by assumption)) ?_|refine CL rfl (aa (by assumption)) rfl ?_|refine CG ?_|refine CO (by assumption) (.inl rfl) ?_|skip);exact y.out)(_:σF X Y:=by (fail_if_success with_reducible exact σF.rf);exact ⟨⟩):X:=h ⟨y⟩
def gD(y:Y)(h:Rg Y->X:=by intro y;(conv=>whnf);(first|with_reducible (first|refine Lm ?_|refine Wm ω ?_|refine dV ω ?_|refine dW ω ?_|refine Bn ?_|refine Fm rfl ?_)|refine Bt ?_|refine Bu ?_|skip);exact y.out)(_:σF X Y:=by (fail_if_success with_reducible exact σF.rf);exact ⟨⟩):X:=h ⟨y⟩
def gE(y:Y)(h:Rg Y->X:=by intro y;(conv=>whnf);(first|with_reducible (first|refine Lm ?_|refine Wm ω ?_|refine dV ω ?_|refine dW ω ?_|refine Bn ?_|refine Fm rfl ?_)|refine Bt ?_|refine Bu ?_|refine CF (by assumption) ?_|refine CH (aa (by assumption)) ?_|refine CL rfl (aa (by assumption)) rfl ?_|refine CG ?_|refine CO (by assumption) (.inl rfl) ?_|skip);exact y.out)(_:σF X Y:=by (fail_if_success with_reducible exact σF.rf);exact ⟨⟩):X:=h ⟨y⟩
def gA(y:Y)(h:Rg Y->X:=by intro y;(conv=>whnf);(first|with_reducible (first|refine Lm ?_|refine Wm ω ?_|refine dV ω ?_|refine dW ω ?_|refine nV ω ?_|refine nW ω ?_|refine eV ω ?_|refine eW ω ?_|refine Bn ?_|refine Fm rfl ?_)|refine Bt ?_|refine Bu ?_|skip);exact y.out)(_:σF X Y:=by (fail_if_success with_reducible exact σF.rf);exact ⟨⟩):X:=h ⟨y⟩
def gB(y:Y)(h:Rg Y->X:=by intro y;(conv=>whnf);(first|with_reducible (first|refine Lm ?_|refine Wm ω ?_|refine dV ω ?_|refine dW ω ?_|refine nV ω ?_|refine nW ω ?_|refine eV ω ?_|refine eW ω ?_|refine Bn ?_|refine Fm rfl ?_)|refine Bt ?_|refine Bu ?_|refine CF (by assumption) ?_|refine CH (aa (by assumption)) ?_|refine CL rfl (aa (by assumption)) rfl ?_|refine CG ?_|refine CO (by assumption) (.inl rfl) ?_|skip);exact y.out)(_:σF X Y:=by (fail_if_success with_reducible exact σF.rf);exact ⟨⟩):X:=h ⟨y⟩
def σO(y:Y)(h:Rg Y->X:=by intro y;(repeat' first|refine gO ?_|fail);exact y.out):X:=h ⟨y⟩
def σP(y:Y)(h:Rg Y->X:=by intro y;(repeat' first|refine gP ?_|fail);exact y.out):X:=h ⟨y⟩
def σD(y:Y)(h:Rg Y->X:=by intro y;(repeat' first|refine gD ?_|fail);exact y.out):X:=h ⟨y⟩
def σE(y:Y)(h:Rg Y->X:=by intro y;(repeat' first|refine gE ?_|fail);exact y.out):X:=h ⟨y⟩
def σA(y:Y)(h:Rg Y->X:=by intro y;(repeat' first|refine gA ?_|fail);exact y.out):X:=h ⟨y⟩
def σB(y:Y)(h:Rg Y->X:=by intro y;(repeat' first|refine gB ?_|fail);exact y.out):X:=h ⟨y⟩
variable{z1 z2:Int}
def XW(h:z1=z2):VC (I z1) (I z2):=by subst h;rfl
def Yq(c:C):VC c c:=(lX [c]).1
def wA(h:X:=by repeat'(first|exact tV1|rfl|refine CK ?_ ?_)):X:=h
def wB(h:X:=by repeat'(first|exact tV1|rfl|refine CK ?_ ?_|(exact XW (by first|omega|(simp only;omega)|(simp;omega))))):X:=h
def ks(h:X:=by refine CN rfl rfl ?_;exact wB):X:=h
def wC(h:X:=by repeat'(first|exact tV1|rfl|exact Yq _|refine CK ?_ ?_|(exact XW (by first|omega|(simp only;omega)|(simp;omega))))):X:=h
def kk(h:X:=by refine CN rfl rfl ?_;exact wC):X:=h
variable{rcs: List C}{sh: Bool}{c: Code}{f: Nat}
def fO(n : Nat){a : Func}{A : List RA}{k : Kd}(tb : List (Nat × Nat × List Nat))(d : Tryz.prog.funcs[f]? = some a)(e : a.body = some c)(g : aw Tryz.prog TE ⟨n, [], []⟩ (DF Tryz.prog TE ⟨n, [], []⟩ tb) c (WD TE a.results.toList k rcs) (lay (H4 0 A)))(b : sh = true \/ gl rcs := by exact .inr ⟨tV1, trivial⟩)(h : (a.name == "runtime.NumGoroutine") = false := by kernel_rfl)(i : iy (rL tb) c = true := by kernel_rfl)(j : A.length + (a.ntmps - A.length) = n := by rfl) : zzA f sh A k rcs := YN d h e i j b g
def fP(n : Nat){a : Func}{A : List RA}{k : Kd}(mo : List (Nat × List Nat))(tb : List (Nat × Nat × List Nat))(d : Tryz.prog.funcs[f]? = some a)(e : a.body = some c)(g : aw Tryz.prog TE ⟨n, [], mo⟩ (DF Tryz.prog TE ⟨n, [], mo⟩ tb) c (WD TE a.results.toList k rcs) (lay (H4 0 A)))(b : sh = true \/ gl rcs := by exact .inr ⟨tV1, trivial⟩)(h : (a.name == "runtime.NumGoroutine") = false := by kernel_rfl)(i : iy (rL tb) c = true := by kernel_rfl)(j : A.length + (a.ntmps - A.length) = n := by rfl) : zzA f sh A k rcs := YN d h e i j b g
def fM(n : Nat){a : Func}{A B : List MA}{k : Kd}(mo : List (Nat × List Nat))(tb : List (Nat × Nat × List Nat))(b : List (Nat × Nat))(g : Tryz.prog.funcs[f]? = some a)(h : a.body = some c)(i : ∀(u : Nat -> Nat -> Value)(p : Nat -> Value), aw Tryz.prog TE ⟨n, PE p 0 A, mo⟩ (DF Tryz.prog TE ⟨n, PE p 0 A, mo⟩ tb) c (XY TE a.results.toList k rcs u A B b) (lay (BF u 0 A)))(d : sh = true \/ gl rcs := by exact .inr ⟨tV1, trivial⟩)(j : (a.name == "runtime.NumGoroutine") = false := by kernel_rfl)(l : iy (rL tb) c = true := by kernel_rfl)(o : A.length + (a.ntmps - A.length) = n := by rfl)(e : Py (Mn 0 A b) = true := by rfl) : zzB f sh A B k rcs := YA b g j h l o e d i
abbrev fI(z:Int):AV:=.X .one [I z]
abbrev fN(n:Nat):AV:=.X .one [I n]
abbrev fB(b:Bool):AV:=.X .one [B b]
abbrev bC(cs:List C):AV:=.X .one cs
abbrev bS(cs:List C):AV:=.X .box cs
abbrev RA.vI(z:Int):RA:=.val none [I z]
abbrev MA.vI(z:Int):MA:=.val none [I z]
def bx{a b:Bool}(h:a=b):[B a]=[B b]:=h ▸ rfl
def gm(h:a=b):[I a]=[I b]:=h ▸ rfl
class Sp (b:Bool) (p q:outParam Prop):Prop where
 f:(b=true->p)/\(b=false->q)
instance {p:Prop} [Decidable p]:Sp (decide p) p (¬p):=⟨of_decide_eq_true,of_decide_eq_false⟩
instance {a b:Int}:Sp (a==b) (a=b) (a≠b):=⟨by simp,by simp⟩
instance {a b:Int}:Sp (a != b) (a≠b) (a=b):=⟨by simp,by simp⟩
instance {a b:Bool}:Sp (a != b) (a≠b) (a=b):=⟨by simp,by simp⟩
def gS{b:Bool}{q:Prop}[s:Sp b p q](h1:p->X)(h2:q->Y):Bf b X Y:=.P (λh=>h1 (s.f.1 h)) (λh=>h2 (s.f.2 h))
theorem dt{ι : Type}{L : ι -> List (Nat × AV)}{inv : ι -> Prop}{μ : ι -> Nat}{i : ι}{F : Nat -> AV}(a : ι)(h1 : inv a)(h2 : μ a < μ i := by first|omega|(simp only;omega)|(simp;omega)|grind)(b : Wk F (L a) := by exact wC) : Nx ι L inv μ i F := .mk a h1 h2 b
section
variable{body : (Exit -> (Nat -> AV) -> Prop) -> (Nat -> AV) -> Prop}{Q : Exit -> (Nat -> AV) -> Prop}{F : Nat -> AV}
def oA{ι : Type}(L : ι -> List (Nat × AV))(inv : ι -> Prop)(μ : ι -> Nat)(a : ι)(h1 : inv a)(h2 : ∀i, inv i -> body (Xn (Nx ι L inv μ i) Q) (lay (L i)))(b : Wk F (L a) := by exact wC) : Lp body Q F := .mk L inv μ a b h1 h2
def lp0(n : Nat)(L : Nat -> List (Nat × AV))(h2 : ∀i, i <= n -> body (Xn (Nx Nat L (λi => i <= n) (λi => n - i) i) Q) (lay (L i)))(a : Wk F (L 0) := by exact wC) : Lp body Q F := .mk L (λi => i <= n) (λi => n - i) 0 a (I1 _) h2
def gn(n : Nat)(L : Nat -> List (Nat × AV))(I : Nat -> Prop)(h1 : I 0)(h2 : ∀i, i <= n /\ I i -> body (Xn (Nx Nat L (λi => i <= n /\ I i) (λi => n - i) i) Q) (lay (L i)))(a : Wk F (L 0) := by exact wC) : Lp body Q F := .mk L (λi => i <= n /\ I i) (λi => n - i) 0 a ⟨I1 _, h1⟩ h2
end
def wD(h:X:=by repeat'(first|exact tV1|rfl|exact CK rfl (CK (O1 (Ab.C.s eL.own) (by simp[rI])) tV1)|refine CK ?_ ?_)):X:=h
def wR(h:X:=by repeat'(first|exact tV1|rfl|exact CK rfl (CK (O1 (Ab.C.s eL.own) (by simp[aC.enc])) tV1)|refine CK ?_ ?_)):X:=h
def Zu{c a:C}(h:a=c):VC c a:=h ▸ Yq _
def wE(h:X:=by repeat'(first|exact tV1|rfl|exact Zu (by assumption)|exact Yq _|refine CK ?_ ?_|(exact XW (by first|omega|(simp only;omega)|(simp;omega))))):X:=h
section
variable{α:Type}{l:List α}{p:α->Bool}{i:Nat}{x:α}
theorem dr(h:l[i]? = some x)(a:(l.take i).all p=true)(b:p x=true):(l.take (i+1)).all p=true:=by grind [OA]
theorem iL(h:l[i]? = some x)(a:p x=false):l.all p=false:=ψ
theorem r9(a:l.length<=i)(b:(l.take i).all p=true):l.all p=true:=by grind [IE]
end
variable{i:Nat}
theorem AG{β:Type}{a:List α}{b:List β}{x:α}{y:β}(h1:a[i]? = some x)(h2:b[i]? = some y):(a.zip b)[i]? = some (x,y):=ψ
def nth[Inhabited α](xs:List α)(i:Nat):α:=xs.getD i default
theorem ar[Inhabited α]{xs:List α}(h:i<xs.length):xs[i]? = some (nth xs i):=by grind [nth]
theorem bB[Inhabited α]{xs:List α}{y:α}(h:xs[i]? = some y):nth xs i=y:=by grind [nth]
theorem ax[Inhabited α]{xs:List α}(h:i<xs.length):nth xs i∈xs:=t4 (ar h)
def d9(n:Nat)(p:Nat->Bool):Bool:=(List.range n).all p
variable{n:Nat}
theorem cD{p:Nat->Bool} : d9 n p=true↔∀j,j<n->p j=true:=by
 unfold d9;simp
theorem cm{p:Nat->Bool}(h:d9 n p=true)(a:p n=true):d9 (n+1) p=true:=by grind [cD]
theorem cI{p:Nat->Bool}(a:i<n)(b:p i=false):d9 n p=false:=by grind [cD]
theorem gv{p:Nat->Bool}(h:d9 n p=true)(a:i<n):p i=true:=cD.1 h i a
def kQ(u:Bool)(v:Int):Bool:=decide (0<=v/\v<=999)&&(u || decide (v=0))
def jV(r:List Int)(u:Bool):Bool:=decide (r.length=16)&&r.all (kQ u)
def dP(f:aQ):Bool:=decide (1<=f.U.length/\f.U.length<=32)&&(decide (f.a3.length=f.U.length)&&(f.U.zip f.a3).all λq=>jV q.1 q.2)
def kg{f:aQ}{r:List Int}{u:Bool}(h1:f.U[i]? = some r)(h2:f.a3[i]? = some u)(a:jV r u=false):dP f=false:=by
 unfold dP;rw[iL (p:=λq=>jV q.1 q.2) (AG h1 h2) a];simp
variable{k:Nat}
theorem xz{r:List Int}{u:Bool}{v:Int}(h1:r[k]? = some v)(h2:kQ u v=false):jV r u=false:=by grind [jV]
theorem Ht{f:aQ}(h:dP f=true):1<=f.U.length/\f.U.length<=32/\f.a3.length=f.U.length:=by grind [dP]
def oM(a:Int)(e:aS):Bool:=decide (0<=e.o/\e.o<=2/\(e.o=0->e.j=0)/\(e.o≠0->0<=e.j/\e.j<a))
def iH(t:aM)(a:Int):Bool:=d9 t.M.length (λi=>oM a (nth t.M i))&&decide (1<=t.M.length/\t.M.length<=32)
def Vl(t:aM)(f:Int)(i:Nat):Bool:=decide ((nth t.M i).o≠0/\(nth t.M i).j=f)
def mf(t:aM)(f:Int)(n:Nat):List Int:=((List.range n).filter (Vl t f)).map λ(i:Nat)=>(i:Int)
def pagesOn(t:aM)(f:Int):List Int:=mf t f t.M.length
theorem GB{t:aM}{f:Int}(h:Vl t f n=true):mf t f (n+1)=mf t f n++[(n:Int)]:=by grind [List.range_succ,mf]
theorem M7{t:aM}{f:Int}(h:Vl t f n=false):mf t f (n+1)=mf t f n:=by grind [List.range_succ,mf]
theorem yF(t:aM)(f:Int)(n:Nat):(mf t f n).length<=n:=by grind [mf]
def ay(t:aM)(p:Int):aS:=if 0<=p/\p<t.M.length then nth t.M p.toNat else⟨0,0⟩
def tg(m:aL)(i:Nat):Bool:=nth m.V.a3 i == decide (0<(pagesOn m.Q (i:Int)).length)
def dn(m:aL):Bool:=(dP m.V&&iH m.Q m.V.a3.length)&&d9 m.V.a3.length (tg m)
def aH(k:af):Bool:=(d9 k.a.length (λi=>decide (0<=nth k.a i))&&dn k.F)&&decide (0<=k.Calls/\k.Calls<=100000/\k.a.length<=40)
def rangeIn(pages:Int)(r:aC):Bool:=decide (1<=r.a4/\r.a4<=pages/\0<=r.At/\r.At<=pages - r.a4)
def iD(pages:Int)(xs:List aC)(i:Nat):Bool:=rangeIn pages (nth xs i)&&decide (i=0\/(nth xs (i - 1)).At+(nth xs (i - 1)).a4<(nth xs i).At)
def bN(pages:Int)(xs:List aC):Bool:=d9 xs.length (iD pages xs)&&decide (1<=pages/\pages<=32)
def Ah(page:Int)(r:aC):Bool:=decide (r.At<=page)&&decide (page<IntKind.i64.wrap (r.At+r.a4))
def lim(k:Int):Int:=if k=0 then 65535 else if k=1 then 255 else if k=2 then 15 else if k=3 then 3 else 0
def slots(k:Int):Int:=if k=0 then 16 else if k=1 then 8 else if k=2 then 4 else if k=3 then 2 else 0
def bq(s:aA):Bool:=decide (0<=s.S/\s.S<=31/\0<=s.Z/\s.Z<=3/\0<=s.a6/\s.a6<=lim s.Z)
def fe(n:Int):Int:=if 9<=n/\n<=1000 then(n+15) / 16 else 0
def cq(l:a8):Bool:=decide (9<=l.y/\l.y<=1000/\l.a0=(l.y+15) / 16/\0<=l.S/\l.S<=32 - l.a0)
def lpgs(l:a8)(n:Nat):List Int:=(List.range n).map λ(i:Nat)=>l.S+i
def pgs(sp:List aA)(la:List a8):List Int:=sp.map (·.S)++la.flatMap λl=>lpgs l l.a0.toNat
def bD(sp:List aA)(la:List a8):Bool:=(sp.all bq&&la.all cq)&&decide (pgs sp la).Nodup
def eg(s:aA)(a:Int):Bool:=bq s&&decide (16*s.S<=a/\a<=16*s.S+15)
def bo(b i:Int):Bool:=decide (0<=b/\0<=i/\i<=15/\b / 2 ^ i.toNat % 2=1)
def cg(l:a8)(a:Int):Bool:=cq l&&decide (16*l.S<=a/\a<=16*l.S+l.y - 1)
def csz(k:Int):Int:=if 0<=k/\k<=3 then 2 ^ k.toNat else 0
def kG(s:aA)(a:Int):Int × Int:=if eg s a then((a - 16*s.S) / csz s.Z,(a - 16*s.S) % csz s.Z) else(-1,-1)
def tC(i:Nat)(s:aA)(a:Int):ll:=⟨if bo s.a6 ((a - 16*s.S) / csz s.Z) then 1 else 2,i,(a - 16*s.S) / csz s.Z,(a - 16*s.S) % csz s.Z⟩
def denotes(sp:List aA)(la:List a8)(a:Int):ll:=
 match sp.findIdx? (eg · a) with
 | some i=>tC i (nth sp i) a
 | none=>match la.findIdx? (cg · a) with
  | some i=>⟨3,i,0,a - 16*(nth la i).S⟩
  | none=>⟨0,0,0,0⟩
theorem AD{pr:α->Bool}{xs:List α}{y:α}(a:xs[i]? = some y)(b:pr y=true)(c:∀(j:Nat)(z:α),j<i->xs[j]? = some z->pr z=false):xs.findIdx? pr=some i:=by grind [CE]
theorem J9{pr:α->Bool}{xs:List α}(a:xs.length<=i)(b:∀(j:Nat)(z:α),j<i->xs[j]? = some z->pr z=false):xs.findIdx? pr=none:=
 List.findIdx?_eq_none_iff.2 λz c=>by grind [List.mem_iff_getElem?]
theorem fH{pr:α->Bool}{xs:List α}{y:α}(a:xs[i]? = some y)(b:pr y=false)(c:∀(j:Nat)(z:α),j<i->xs[j]? = some z->pr z=false):∀(j:Nat)(z:α),j<i+1->xs[j]? = some z->pr z=false:=ψ
def cy(pr:α->Bool)(xs:List α):Int:=match xs.findIdx? pr with|some i=>(i:Nat)|none=>-1
theorem dO{pr:α->Bool}{xs:List α}{y:α}(a:xs[i]? = some y)(b:pr y=true)(c:∀(j:Nat)(z:α),j<i->xs[j]? = some z->pr z=false):cy pr xs=(i:Nat):=by
 unfold cy;rw[AD a b c]
theorem gd{pr:α->Bool}{xs:List α}(a:xs.length<=i)(b:∀(j:Nat)(z:α),j<i->xs[j]? = some z->pr z=false):cy pr xs = -1:=by grind [J9,cy]
theorem nG(pr:α->Bool)(xs:List α):decide (cy pr xs≥0)=xs.any pr:=by grind [cy]
def meshable(s t:aA):Bool:=(bq s&&bq t)&&decide (s.Z=t.Z/\s.S≠t.S/\s.a6.toNat &&& t.a6.toNat=0)
def rT(n:Int)(p:aX):Bool:=decide (0<=p.To/\p.To<=n - 1/\0<=p.Addr)
def VJ(z:Int):Bool:=decide (0<=z)
def jd(m:aI)(i:Nat):Bool:=(nth m.T i).all (rT m.T.length)&&(nth m.g i).all VJ
def bQ(m:aI):Nat->Int
 | 0=>0
 | i+1=>bQ m i+((nth m.T i).length+(nth m.g i).length)
def bG(m:aI):Bool:=(decide (1<=m.T.length/\m.T.length<=4/\m.g.length=m.T.length)&&d9 m.T.length (jd m))&&decide (bQ m m.T.length<=30)
def aY(m:aI):List Int:=if bG m then(m.T.flatMap λl=>l.map (·.Addr))++m.g.flatten else []
def fS(a:Int)(y:aJ):Bool:=decide (y.Addr=a)
def nu(xs:List aJ)(i:Nat):Bool:=decide (0<=(nth xs i).Z/\(nth xs i).Z<=3/\0<=(nth xs i).Addr/\0<=(nth xs i).b7/\(i=0\/(nth xs (i - 1)).b7<=(nth xs i).b7))&&!(xs.take i).any (fS (nth xs i).Addr)
def quarCells(xs:List aJ):Nat->Int
 | 0=>0
 | i+1=>quarCells xs i+csz (nth xs i).Z
def hB(q:bh):Bool:=d9 q.q.length (nu q.q)&&decide (0<=q.c0/\q.c0<=500/\quarCells q.q q.q.length<=q.c0)
def ro(xs:List Int)(i:Nat):Bool:=decide (0<=nth xs i/\nth xs i<=15/\(i=0\/nth xs (i - 1)<nth xs i))
def gF(p:b9):Bool:=d9 p.U.length (ro p.U)&&decide (0<=p.b0/\p.b0<=31/\0<=p.b2/\p.b2<=31/\p.b0≠p.b2)
def kN(j:bW):Bool:=gF j.d&&decide (0<=j.b5/\j.b5<=5/\0<=j.k/\j.k<=j.d.U.length)
def xL(j:bW):Bool:=decide (j.d.b0=0/\j.d.b2=0/\j.d.U.length=0/\j.b5=0/\j.k=0)
def aZ(h:ac)(p:Int):List Int:=if(ay h.G.F.Q p).o=0 then [] else pagesOn h.G.F.Q (ay h.G.F.Q p).j
def pD(p:Int)(s:aA):Bool:=decide (s.S=p)
def iX(h:ac)(p:Int):Int:=cy (pD p) h.J
def aU(n:Int):Int:=if n<1 then -1 else if n<=1 then 0 else if n<=2 then 1 else if n<=4 then 2 else if n<=8 then 3 else -1
set_option maxRecDepth 20000
set_option maxHeartbeats 2000000
def aP(n lo a:Int):zzA 79 false [.vI n,.vI lo,.vI a] .one [B (decide (lo<=n/\n<=a))]:=by
 refine fO 15 [] Tryz.func79 rfl ?_
 repeat'(first|refine gP ?_|refine gS (λb=>?_) (λb=>?_)|fail)
 all_goals exact bx (by simp;try omega)
def aG(n lo a:Int):zzA 46 false [.vI n,.vI lo,.vI a] .one [B (decide (lo<=n/\n<=a))]:=by
 refine fO 15 [] Tryz.func46 rfl ?_
 repeat'(first|refine gP ?_|refine gS (λb=>?_) (λb=>?_)|fail)
 all_goals exact bx (by simp;try omega)
def gL(k:Int):zzA 254 false [.vI k] .one [B (decide (0<=k/\k<=3))]:=by
 refine fO 5 [] Tryz.func254 rfl ?_
 repeat'(first|refine gP ?_|refine CF (aG k 0 3) ?_)
 rfl
theorem dB(k:Int):zzA 255 false [.vI k] .one [I (csz k)]:=by
 by_cases b:0<=k/\k<=3
 ·obtain rfl|rfl|rfl|rfl:k=0\/k=1\/k=2\/k=3:=ω
  all_goals
   refine fO 8 [] Tryz.func255 rfl ?_
   repeat'(first|refine gE ?_|refine gS (λa=>?_) (λa=>?_)|refine CF (gL _) ?_|refine CT qs ?_|refine CS rfl ?_)
   exact gm qs
 refine fO 8 [] Tryz.func255 rfl ?_
 repeat'(first|refine gE ?_|refine gS (λa=>?_) (λa=>?_)|refine CF (gL _) ?_)
 exact gm (by grind [csz])
theorem eY(k:Int):zzA 198 false [.vI k] .one [I (csz k)]:=by
 by_cases b:0<=k/\k<=3
 ·obtain rfl|rfl|rfl|rfl:k=0\/k=1\/k=2\/k=3:=ω
  all_goals
   refine fO 9 [] Tryz.func198 rfl ?_
   repeat'(first|refine gE ?_|refine gS (λa=>?_) (λa=>?_)|refine CF (aP _ 0 3) ?_|refine CT qs ?_|refine CS rfl ?_)
   exact gm qs
 refine fO 9 [] Tryz.func198 rfl ?_
 repeat'(first|refine gE ?_|refine gS (λa=>?_) (λa=>?_)|refine CF (aP _ 0 3) ?_)
 exact gm (by grind [csz])
theorem qw(xs:List Int)(a:Int)(h:xs.length<=9223372036854775807):zzA 190 false [.val none (aE .O xs),.vI a] .one [B (decide (a∈xs))]:=by
 refine fO 18 [] Tryz.func190 rfl ?_
 refine σP ?_
 refine gn xs.length (λi=>[(0,bC (aE .O xs)),(1,fI a),(5,fN i)]) (λi=>a∉xs.take i) ψ λi c=>?_
 obtain⟨c,d⟩:=c;by_cases b:i<xs.length
 ·obtain⟨y,e⟩ : ∃y,xs[i]? = some y:=⟨_,z4 b⟩
  repeat'(first|refine gE ?_|refine gS (λg=>?_) (λg=>?_)|fail)
  ·exact bx ψ
  (conv=>whnf)
  refine CP (i+1) ⟨ω,?_⟩ ω ?_
  ·grind [OA]
  exact wB
 refine σE ?_
 rw[IE ω]at d;exact bx ψ
set_option maxHeartbeats 4000000
def good(k:Int)(s:List Int)(a:Int):Prop:=0<=a/\a<=511/\a.tmod (csz k)=0/\a∉s
instance (k:Int) (s:List Int) (a:Int):Decidable (good k s a):=by unfold good;exact inferInstance
def xI(k:Int):List Int->List Int->Option (List Int)
 | s,[]=>some s
 | s,a::l=>if good k s a then xI k (s++[a]) l else none
def gI(k:Nat)(s l:List Int):Option (List Int):=if l.length<=8/\k<=3 then xI k s l else none
def iZ:Nat->List Int->List (List Int)->Option (List Int)
 | _,s,[]=>some s
 | k,s,l::ls=>(gI k s l).bind λa=>iZ (k+1) a ls
def bE(c:aB):Bool:=decide (c.W.length=4)&&(iZ 0 [] c.W).isSome
theorem vJ(k:Int):∀(a s b:List Int),xI k s (a++b)=(xI k s a).bind λc=>xI k c b
 | [],s,b=>rfl
 | x::a,s,b=>by
  simp only[List.cons_append,xI];split
  ·exact vJ k a _ b
  rfl
theorem tc:∀(a:List (List Int))(k:Nat)(s:List Int)(b:List (List Int)),iZ k s (a++b)=(iZ k s a).bind λc=>iZ (k+a.length) c b
 | [],k,s,b=>rfl
 | l::a,k,s,b=>by
  simp only[List.cons_append,iZ,Option.bind_assoc,List.length_cons]
  congr 1;funext c
  rw[tc a (k+1) c b,show k+1+a.length=k+(a.length+1) by omega]
variable{l:List Int}
theorem QJ{k:Int}{b s:List Int}{j:Nat}(c:l[j]? = some a)(h:xI k b (l.take j)=some s)(d:good k s a):xI k b (l.take (j+1))=some (s++[a]):=by grind [OA,vJ,xI]
theorem V8{b s:List Int}{j:Nat}(c:l[j]? = some a)(h:xI k b (l.take j)=some s)(d:¬good k s a):gI k b l=none:=by
 unfold gI;split
 all_goals grind [List.drop_eq_getElem_cons,List.take_append_drop,vJ,xI]
theorem Hs{k:Int} : ∀{l s b:List Int},xI k s l=some b->b.length=s.length+l.length
 | [],s,b,h=>by grind [xI]
 | a::l,s,b,h=>by
  simp only[xI]at h;split at h
  ·have:=Hs h;grind
  cases h
theorem y8{a:List (List Int)}{s:List Int}(b:a[i]? = some l)(h:iZ 0 [] (a.take i)=some s):iZ 0 [] (a.take (i+1))=gI i s l:=by
 have c:=(C4.1 b).1;rw[OA,b,Option.toList_some,tc,h];simp only[Option.bind_some,iZ,SD,I3,Nat.min_eq_left (Nat.le_of_lt c)]
 grind
theorem nL{c:aB}{s:List Int}(a:c.W[i]? = some l)(h:iZ 0 [] (c.W.take i)=some s)(b:gI i s l=none):bE c=false:=by
 have d:=y8 a h
 grind [List.take_append_drop,tc,bE]
theorem Mr:∀{b:List (List Int)}{k:Nat}{s a:List Int},iZ k s b=some a->a.length<=s.length+8*b.length
 | [],k,s,a,h=>by grind [iZ]
 | l::b,k,s,a,h=>by
  simp only[iZ]at h;unfold gI at h;split at h
  ·cases c:xI k s l with
   | none=>grind
   | some d=>
    rw[c]at h;have e:=Hs c;have f:=Mr (show iZ (k+1) d b=some a from h)
    grind
  cases h
def TA(h:i<=3):csz (i:Int)≠0:=by
 obtain rfl|rfl|rfl|rfl:i=0\/i=1\/i=2\/i=3:=ω
 all_goals decide
def cN : ∀r∈l.map (rI .own),r.length=1:=by
 intro r a;obtain⟨z,-,rfl⟩:=O8.1 a;rfl
theorem rn(c:aB)(t:aB.sml c):zzA 78 false [.val (some 1) (aB.enc .O c)] .one [B (bE c)]:=by
 have E:=t.1;refine fO 60 [] Tryz.func78 rfl ?_
 repeat'(first|refine gP ?_|refine gS (λe=>?_) (λe=>?_)|fail)
 ·exact bx (by grind [bE])
 have F:c.W.length=4:=ω
 (conv=>whnf)
 refine oA (ι:=Nat × List Int) (λi=>[(1,bS (aB.enc .O c)),(3,bC (aE .own i.2)),(4,fI (i.1:Nat))]) (λi=>i.1<=4/\iZ 0 [] (c.W.take i.1)=some i.2) (λi=>4 - i.1) (0,[]) ⟨I1 _,rfl⟩ λi k=>?_
 obtain⟨i,s⟩:=i;obtain⟨k,b⟩:=k;simp only at k b |-;have g:=Mr b;rw[I3]at g;simp only[List.length_nil]at g;by_cases u:i<4
 ·obtain⟨l,d⟩ : ∃l,c.W[i]? = some l:=(ψ)
  have w:l.length<=1048576:=t.2 l ψ
  repeat'(first|refine gE ?_|refine gS (λe=>?_) (λe=>?_)|fail)
  ·exact bx (nL d b (by grind [gI])).symm
  have C:l.length<=8:=ω
  (conv=>whnf)
  refine oA (ι:=Nat × List Int) (λj=>[(1,bS (aB.enc .O c)),(3,bC (aE .own j.2)),(4,fN i),(5,fI (j.1:Nat))]) (λj=>j.1<=l.length/\xI i s (l.take j.1)=some j.2) (λj=>l.length - j.1) (0,s) ⟨I1 _,rfl⟩ λj n=>?_
  obtain⟨j,o⟩:=j;obtain⟨n,a⟩:=n;simp only at n a |-;have h:=Hs a;rw[I3]at h;by_cases p:j<l.length
  ·obtain⟨y,q⟩ : ∃y,l[j]? = some y:=⟨_,z4 p⟩
   repeat'(first|refine gE ?_|refine gS (λe=>?_) (λe=>?_)|refine CF (aP y 0 511) ?_|refine CF (eY (i:Nat)) ?_|refine CT (TA ω) ?_|refine CX rfl ?_|refine CM (qw o y ω) ⟨⟨rfl,eI _⟩,⟨rfl,rfl⟩,tV1⟩ ?_|refine Cb cN (λr D=>by rw[z3.1 D];rfl) (by simp[bu,f6]) kd (by simp only[I2];exact zc kd qs) rfl ?_)
   all_goals first
    | exact bx (nL d b (V8 q a λ⟨G,H,J,K⟩=>by first|contradiction|omega)).symm
    | ((conv=>whnf)
       refine CP (j+1,o++[y]) ⟨(by simp only;omega),QJ q a ⟨ω,ω,(by assumption),(by assumption)⟩⟩ (by simp only;omega) ?_
       (exact wD))
  refine σE ?_
  rw[IE ω]at a;exact dt (i+1,o) ⟨(by simp only;omega),(by rw[y8 d b];grind [gI])⟩
 refine σE ?_
 rw[IE ω]at b;exact bx (by grind [bE])
def hO(s:List Int):List (Int × Value):=s.map λa=>(a,.bool true)
theorem qN(a:Int):∀(s:List Int),mlook (hO s) a (.bool false)=.bool (decide (a∈s))
 | []=>by simp[hO,mlook]
 | x::s=>by
  have b:=qN a s
  grind [hO,mlook]
theorem y7{a:Int} : ∀{s:List Int},a∉s->hO (s++[a])=mput (hO s) a (.bool true)
 | [],_=>rfl
 | x::s,h=>by
  simp only[List.mem_cons,not_or]at h;have b:=y7 h.2
  grind [hO,mput]
theorem qQ(c:aB)(p:aB.sml c):zzA 112 false [.val (some 1) (aB.enc .O c)] .one [B (bE c)]:=by
 have w:=p.1;refine fO 54 [] Tryz.func112 rfl ?_
 refine σP ?_
 refine oA (ι:=Nat × List Int) (λi=>[(1,bS (aB.enc .O c)),(3,bC [.m (hO i.2)]),(10,bC (g9 .O c.W)),(11,fI c.W.length),(12,fI (i.1:Nat))]) (λi=>i.1<=c.W.length/\iZ 0 [] (c.W.take i.1)=some i.2) (λi=>c.W.length - i.1) (0,[]) ⟨I1 _,rfl⟩ λi e=>?_
 obtain⟨i,s⟩:=i;obtain⟨e,d⟩:=e;simp only at e d |-;by_cases q:i<c.W.length
 ·obtain⟨l,b⟩ : ∃l,c.W[i]? = some l:=(ψ)
  have r:l.length<=1048576:=p.2 l ψ
  repeat'(first|refine gE ?_|refine gS (λg=>?_) (λg=>?_)|refine CF (gL (i:Nat)) ?_)
  ·exact bx (nL b d (by grind [gI])).symm
  rotate_left
  ·exact bx (nL b d (by grind [gI])).symm
  have t:l.length<=8:=ω
  have u:i<=3:=ω
  (conv=>whnf)
  refine oA (ι:=Nat × List Int) (λj=>[(1,bS (aB.enc .O c)),(3,bC [.m (hO j.2)]),(4,fN i),(10,bC (g9 .O c.W)),(11,fI c.W.length),(12,fN i),(25,bC (aE .O l)),(26,fI l.length),(27,fI (j.1:Nat))]) (λj=>j.1<=l.length/\xI i s (l.take j.1)=some j.2) (λj=>l.length - j.1) (0,s) ⟨I1 _,rfl⟩ λj h=>?_
  obtain⟨j,k⟩:=j;obtain⟨h,a⟩:=h;simp only at h a |-;by_cases n:j<l.length
  ·obtain⟨y,o⟩ : ∃y,l[j]? = some y:=⟨_,z4 n⟩
   repeat'(first|refine gE ?_|refine gS (λg=>?_) (λg=>?_)|refine CF (aG y 0 511) ?_|refine CF (dB (i:Nat)) ?_|refine CT (TA ω) ?_|refine CX rfl ?_|refine Ml.mk (qN y k) ?_|refine Mu.mk (y7 (by assumption)) ?_)
   all_goals first
    | exact bx (nL b d (V8 o a λ⟨C,D,E,F⟩=>by first|contradiction|omega)).symm
    | ((conv=>whnf)
       refine CP (j+1,k++[y]) ⟨(by simp only;omega),QJ o a ⟨ω,ω,(by assumption),(by assumption)⟩⟩ (by simp only;omega) ?_
       (exact wA))
  refine σE ?_
  rw[IE ω]at a;exact dt (i+1,k) ⟨(by simp only;omega),(by rw[y8 b d];grind [gI])⟩
 refine σE ?_
 grind [C1,bE]
theorem PV:∀{b:List (List Int)}{k:Nat}{s c:List Int},iZ k s b=some c->∀l∈b,l.length<=8
 | [],k,s,c,h,l,a=>by simp at a
 | x::b,k,s,c,h,l,a=>by
  simp only[iZ]at h;unfold gI at h;split at h
  ·rename_i d
   rcases List.mem_cons.1 a with rfl|a
   ·exact d.1
   cases e:xI k s x with
   | none=>grind
   | some f=>rw[e]at h;exact PV (show iZ (k+1) f b=some c from h) l a
  cases h
theorem zU{c:aB}(h:bE c=true):c.W.length=4/\∀l∈c.W,l.length<=8:=by grind [Option.isSome_iff_exists,PV,bE]
theorem ET(f:aQ)(h:aQ.sml f):zzA 335 false [.val (some 2) (aQ.enc .O f)] .one [B (dP f)]:=by
 have C:=h.1.1;have D:f.a3.length<=1048576:=h.2;refine fO 61 [] Tryz.func335 rfl ?_
 repeat'(first|refine gP ?_|refine gS (λb=>?_) (λb=>?_)|refine CF (aP f.U.length 1 32) ?_)
 ·exact bx (by grind [dP])
 rotate_left
 ·exact bx (by grind [dP])
 have t:1<=f.U.length/\f.U.length<=32:=ω
 have w:f.a3.length=f.U.length:=ω
 (conv=>whnf)
 refine gn f.U.length (λi=>[(1,bS (aQ.enc .O f)),(3,fN i)]) (λi=>((f.U.zip f.a3).take i).all (λq=>jV q.1 q.2)=true) ψ λi j=>?_
 obtain⟨j,y⟩:=j;by_cases g:i<f.U.length
 ·obtain⟨r,c⟩ : ∃r,f.U[i]? = some r:=⟨_,z4 g⟩
  obtain⟨u,a⟩ : ∃u,f.a3[i]? = some u:=⟨_,z4 ω⟩
  repeat'(first|refine gE ?_|refine gS (λb=>?_) (λb=>?_)|fail)
  ·exact bx (kg c a (by grind [jV])).symm
  have l:r.length=16:=ω
  (conv=>whnf)
  refine gn 16 (λk=>[(1,bS (aQ.enc .O f)),(3,fN i),(4,fN k)]) (λk=>(r.take k).all (kQ u)=true) ψ λk n=>?_
  obtain⟨n,e⟩:=n;by_cases o:k<16
  ·obtain⟨v,d⟩ : ∃v,r[k]? = some v:=⟨_,z4 ω⟩
   cases u with
   | true=>
    repeat'(first|refine gE ?_|refine gS (λb=>?_) (λb=>?_)|refine CF (aP v 0 999) ?_)
    all_goals first
     | exact bx (kg c a (xz d (by first|(unfold kQ;rw[C1 ω];rfl)|(unfold kQ;rw[C1 (p:=v=0) ω];simp)))).symm
     | ((conv=>whnf)
        refine CP (ι:=Nat) (k+1) ⟨ω,dr d e (by unfold kQ;first|(rw[O0 ω];rfl)|(rw[O0 (p:=0<=v/\v<=999) ω,O0 (p:=v=0) ω];rfl))⟩ ω ?_
        (exact wA))
   | false=>
    repeat'(first|refine gE ?_|refine gS (λb=>?_) (λb=>?_)|refine CF (aP v 0 999) ?_)
    all_goals first
     | exact bx (kg c a (xz d (by first|(unfold kQ;rw[C1 ω];rfl)|(unfold kQ;rw[C1 (p:=v=0) ω];simp)))).symm
     | ((conv=>whnf)
        refine CP (ι:=Nat) (k+1) ⟨ω,dr d e (by unfold kQ;first|(rw[O0 ω];rfl)|(rw[O0 (p:=0<=v/\v<=999) ω,O0 (p:=v=0) ω];rfl))⟩ ω ?_
        (exact wA))
  refine σE ?_
  exact dt (i+1) ⟨ω,dr (AG c a) y (by grind [jV])⟩
 refine σE ?_
 exact bx (by grind [List.length_zip,dP])
theorem vr(f:aQ)(g:aQ.sml f):zzA 381 false [.val (some 2) (aQ.enc .O f)] .one [B (dP f)]:=by
 have C:=g.1.1;have D:f.a3.length<=1048576:=g.2;refine fO 55 [] Tryz.func381 rfl ?_
 repeat'(first|refine gP ?_|refine gS (λb=>?_) (λb=>?_)|refine CF (aG f.U.length 1 32) ?_)
 ·exact bx (by grind [dP])
 rotate_left
 ·exact bx (by grind [dP])
 have p:1<=f.U.length/\f.U.length<=32:=ω
 have t:f.a3.length=f.U.length:=ω
 (conv=>whnf)
 refine gn f.U.length (λi=>[(1,bS (aQ.enc .O f)),(22,bC (g9 .O f.U)),(23,fI f.U.length),(24,fN i)]) (λi=>((f.U.zip f.a3).take i).all (λq=>jV q.1 q.2)=true) ψ λi j=>?_
 obtain⟨j,w⟩:=j;by_cases h:i<f.U.length
 ·obtain⟨r,c⟩ : ∃r,f.U[i]? = some r:=⟨_,z4 h⟩
  obtain⟨u,a⟩ : ∃u,f.a3[i]? = some u:=⟨_,z4 ω⟩
  have y:r.length<=1048576:=g.1.2 r ψ
  repeat'(first|refine gE ?_|refine gS (λb=>?_) (λb=>?_)|fail)
  ·exact bx (kg c a (by grind [jV])).symm
  have l:r.length=16:=ω
  (conv=>whnf)
  refine gn r.length (λk=>[(1,bS (aQ.enc .O f)),(3,fN i),(22,bC (g9 .O f.U)),(23,fI f.U.length),(24,fN i),(32,bC (aE .O r)),(33,fI r.length),(34,fN k)]) (λk=>(r.take k).all (kQ u)=true) ψ λk n=>?_
  obtain⟨n,e⟩:=n;by_cases o:k<r.length
  ·obtain⟨v,d⟩ : ∃v,r[k]? = some v:=⟨_,z4 ω⟩
   cases u with
   | true=>
    repeat'(first|refine gE ?_|refine gS (λb=>?_) (λb=>?_)|refine CF (aG v 0 999) ?_)
    all_goals first
     | exact bx (kg c a (xz d (by unfold kQ;grind))).symm
     | ((conv=>whnf)
        refine CP (ι:=Nat) (k+1) ⟨ω,dr d e (by unfold kQ;grind)⟩ ω ?_
        (exact wA))
   | false=>
    repeat'(first|refine gE ?_|refine gS (λb=>?_) (λb=>?_)|refine CF (aG v 0 999) ?_)
    all_goals first
     | exact bx (kg c a (xz d (by unfold kQ;grind))).symm
     | ((conv=>whnf)
        refine CP (ι:=Nat) (k+1) ⟨ω,dr d e (by unfold kQ;grind)⟩ ω ?_
        (exact wA))
  refine σE ?_
  exact dt (i+1) ⟨ω,dr (AG c a) w (by grind [jV])⟩
 refine σE ?_
 exact bx (by grind [List.length_zip,dP])
theorem JH(t:aM)(a:Int)(d:aM.sml t):zzA 336 false [.val (some 1) (aM.enc .O t),.vI a] .one [B (iH t a)]:=by
 have k:=d.1;refine fO 54 [] Tryz.func336 rfl ?_
 refine σP ?_
 refine gn t.M.length (λi=>[(1,fI a),(2,bS (aM.enc .O t)),(5,fN i)]) (λi=>d9 i (λj=>oM a (nth t.M j))=true) rfl λi b=>?_
 obtain⟨b,e⟩:=b;by_cases c:i<t.M.length
 ·have g:=ar c
  repeat'(first|refine gE ?_|refine gS (λh=>?_) (λh=>?_)|refine CF (aP _ 0 2) ?_)
  all_goals first
   | exact bx ((by symm;unfold iH;rw[cI c (C1 ψ)];rfl))
   | ((conv=>whnf);exact dt (i+1) ⟨ω,cm e (O0 ψ)⟩)
 repeat'(first|refine gE ?_|refine CF (aP _ 1 32) ?_)
 obtain rfl:i=t.M.length:=ω
 exact bx ((by grind [iH]))
theorem Jj(t:aM)(a:Int)(d:aM.sml t):zzA 382 false [.val (some 1) (aM.enc .O t),.vI a] .one [B (iH t a)]:=by
 have k:=d.1;refine fO 49 [] Tryz.func382 rfl ?_
 refine σP ?_
 refine gn t.M.length (λi=>[(1,fI a),(2,bS (aM.enc .O t)),(8,bC (j7 .O t.M)),(9,fI t.M.length),(10,fN i)]) (λi=>d9 i (λj=>oM a (nth t.M j))=true) rfl λi b=>?_
 obtain⟨b,e⟩:=b;by_cases c:i<t.M.length
 ·have g:=ar c
  repeat'(first|refine gE ?_|refine gS (λh=>?_) (λh=>?_)|refine CF (aG _ 0 2) ?_)
  all_goals first
   | exact bx ((by symm;unfold iH;rw[cI c (C1 ψ)];rfl))
   | ((conv=>whnf);exact dt (i+1) ⟨ω,cm e (O0 ψ)⟩)
 repeat'(first|refine gE ?_|refine CF (aG _ 1 32) ?_)
 obtain rfl:i=t.M.length:=ω
 exact bx ((by grind [iH]))
theorem jj(t:aM)(f:Int)(b:aM.sml t):zzA 337 false [.val (some 1) (aM.enc .O t),.vI f] .one (aE .own (pagesOn t f)):=by
 have j:=b.1;refine fO 37 [] Tryz.func337 rfl ?_ (.inr (bH _))
 refine σP ?_
 refine lp0 t.M.length (λi=>[(1,fI f),(2,bS (aM.enc .O t)),(5,bC (aE .own (mf t f i))),(6,fN i)]) λi k=>?_
 have c:=yF t f i;by_cases d:i<t.M.length
 ·have e:=ar d
  repeat'(first|refine gE ?_|refine gS (λg=>?_) (λg=>?_)|refine Cb cN (λr h=>by rw[z3.1 h];rfl) (by simp[bu,f6]) kd (by simp only[I2];exact zc kd qs) rfl ?_)
  all_goals first
   |(have a:Vl t f i=true:=O0 ψ
     (conv=>whnf)
     refine CP (i+1) ω ω ?_;rw[GB a]
     (exact wD))
   |(have a:Vl t f i=false:=C1 ψ
     (conv=>whnf)
     refine CP (i+1) ω ω ?_;rw[M7 a]
     (exact wA))
 refine σE ?_
 obtain rfl:i=t.M.length:=ω
 rfl
theorem ny(t:aM)(f:Int)(b:aM.sml t):zzA 383 false [.val (some 1) (aM.enc .O t),.vI f] .one (aE .own (pagesOn t f)):=by
 have j:=b.1;refine fO 32 [] Tryz.func383 rfl ?_ (.inr (bH _))
 refine σP ?_
 refine lp0 t.M.length (λi=>[(1,fI f),(5,bC (aE .own (mf t f i))),(10,bC (j7 .O t.M)),(11,fI t.M.length),(12,fN i)]) λi k=>?_
 have c:=yF t f i;by_cases d:i<t.M.length
 ·have e:=ar d
  repeat'(first|refine gE ?_|refine gS (λg=>?_) (λg=>?_)|refine Cb cN (λr h=>by rw[z3.1 h];rfl) (by simp[bu,f6]) kd (by simp only[I2];exact zc kd qs) rfl ?_)
  all_goals first
   |(have a:Vl t f i=true:=O0 ψ
     (conv=>whnf)
     refine CP (i+1) ω ω ?_;rw[GB a]
     (exact wD))
   |(have a:Vl t f i=false:=C1 ψ
     (conv=>whnf)
     refine CP (i+1) ω ω ?_;rw[M7 a]
     (exact wA))
 refine σE ?_
 obtain rfl:i=t.M.length:=ω
 rfl
def dC(t:aM)(p:Int)(b:aM.sml t):zzA 341 false [.val (some 1) (aM.enc .O t),.vI p] .agg (aS.enc .own (ay t p)):=by
 have d:=b.1;refine fO 18 [] Tryz.func341 rfl ?_ (.inr (aS.enc_fr _));by_cases a:0<=p/\p<t.M.length
 ·have c:=ar (xs:=t.M) (i:=p.toNat) ω
  repeat'(first|refine gE ?_|refine CF (aP _ 0 _) ?_|refine CQ a.1 (aa c) ?_)
  all_goals(unfold ay;rw[CJ a];rfl)
 repeat'(first|refine gE ?_|refine CF (aP _ 0 _) ?_)
 all_goals(unfold ay;rw[CI a];rfl)
def de(t:aM)(p:Int)(b:aM.sml t):zzA 250 false [.val (some 1) (aM.enc .O t),.vI p] .agg (aS.enc .own (ay t p)):=by
 have d:=b.1;refine fO 18 [] Tryz.func250 rfl ?_ (.inr (aS.enc_fr _));by_cases a:0<=p/\p<t.M.length
 ·have c:=ar (xs:=t.M) (i:=p.toNat) ω
  repeat'(first|refine gE ?_|refine CF (aG _ 0 _) ?_|refine CQ a.1 (aa c) ?_)
  all_goals(unfold ay;rw[CJ a];rfl)
 repeat'(first|refine gE ?_|refine CF (aG _ 0 _) ?_)
 all_goals(unfold ay;rw[CI a];rfl)
def vY(t:aM)(f:Int):(pagesOn t f).length<=t.M.length:=yF ..
theorem sN(m:aL)(a:aL.sml m):zzA 187 false [.val (some 3) (aL.enc .O m)] .one [B (dn m)]:=by
 have q:m.V.a3.length<=1048576:=a.1.2;have k:m.V.U.length<=1048576:=a.1.1.1;have b:=ET m.V a.1;have c:=JH m.Q m.V.U.length a.2;cases d:dP m.V with
 | false=>
  rw[d]at b;refine fO 39 [(6,13,[26,27,28,29,30,31,32,33,34,35,36,37,38])] Tryz.func187 rfl ?_
  refine σP ?_
  exact bx ((by grind [dn]))
 | true=>
  have g:=Ht d;rw[d]at b;cases e:iH m.Q m.V.a3.length with
  | false=>
   rw[show(m.V.U.length:Int)=m.V.a3.length by omega,e]at c;refine fO 39 [(6,13,[26,27,28,29,30,31,32,33,34,35,36,37,38])] Tryz.func187 rfl ?_
   repeat'(first|refine gP ?_|refine CF ((show(m.V.U.length:Int)=m.V.a3.length by omega) ▸ c) ?_)
   exact bx ((by grind [dn]))
  | true=>
   rw[show(m.V.U.length:Int)=m.V.a3.length by omega,e]at c;refine fO 39 [(6,13,[26,27,28,29,30,31,32,33,34,35,36,37,38])] Tryz.func187 rfl ?_
   repeat'(first|refine gP ?_|refine CF ((show(m.V.U.length:Int)=m.V.a3.length by omega) ▸ c) ?_)
   refine gn m.V.a3.length (λi=>[(1,bS (aL.enc .O m)),(3,fN i)]) (λi=>d9 i (tg m)=true) rfl λi h=>?_
   obtain⟨h,l⟩:=h;by_cases j:i<m.V.a3.length
   ·have n:=ar j
    have o:=vY m.Q (i:Nat)
    repeat'(first|refine gE ?_|refine gS (λp=>?_) (λp=>?_)|refine CF (jj m.Q (i:Nat) a.2) ?_)
    all_goals first
     | exact bx ((by symm;unfold dn;rw[d,e,cI j (by unfold tg;grind)];rfl))
     | ((conv=>whnf);exact dt (i+1) ⟨ω,cm l (by unfold tg;grind)⟩)
   refine σE ?_
   obtain rfl:i=m.V.a3.length:=ω
   exact bx ((by grind [dn]))
theorem tI(m:aL)(b:aL.sml m):zzA 242 false [.val (some 3) (aL.enc .O m)] .one [B (dn m)]:=by
 have o:m.V.a3.length<=1048576:=b.1.2;have a:=vr m.V b.1;have c:=Jj m.Q m.V.a3.length b.2;cases d:dP m.V with
 | false=>
  rw[d]at a;refine fO 37 [] Tryz.func242 rfl ?_
  refine σP ?_
  exact bx ((by grind [dn]))
 | true=>
  rw[d]at a;cases e:iH m.Q m.V.a3.length with
  | false=>
   rw[e]at c;refine fO 37 [] Tryz.func242 rfl ?_
   refine σP ?_
   exact bx ((by grind [dn]))
  | true=>
   rw[e]at c;refine fO 37 [] Tryz.func242 rfl ?_
   refine σP ?_
   refine gn m.V.a3.length (λi=>[(1,bS (aL.enc .O m)),(21,bC (lf .O m.V.a3)),(22,fI m.V.a3.length),(23,fN i)]) (λi=>d9 i (tg m)=true) rfl λi g=>?_
   obtain⟨g,j⟩:=g;by_cases h:i<m.V.a3.length
   ·have k:=ar h
    have l:=vY m.Q (i:Nat)
    repeat'(first|refine gE ?_|refine gS (λn=>?_) (λn=>?_)|refine CF (ny m.Q (i:Nat) b.2) ?_)
    all_goals first
     | exact bx ((by symm;unfold dn;rw[d,e,cI h (by unfold tg;grind)];rfl))
     | ((conv=>whnf);exact dt (i+1) ⟨ω,cm j (by unfold tg;grind)⟩)
   refine σE ?_
   obtain rfl:i=m.V.a3.length:=ω
   exact bx ((by grind [dn]))
def lL(k:af)(d:af.sml k):zzA 71 false [.val (some 5) (af.enc .O k)] .one [B (aH k)]:=by
 have n:k.a.length<=1048576:=d.2;have a:=sN k.F d.1;refine fO 31 [] Tryz.func71 rfl ?_
 refine σP ?_
 refine gn k.a.length (λi=>[(1,bS (af.enc .O k)),(3,fN i)]) (λi=>d9 i (λj=>decide (0<=nth k.a j))=true) rfl λi e=>?_
 obtain⟨e,g⟩:=e;by_cases h:i<k.a.length
 ·have l:=ar h
  repeat'(first|refine gE ?_|refine gS (λc=>?_) (λc=>?_)|fail)
  all_goals first
   | exact bx ((by symm;unfold aH;rw[cI h (C1 ω)];rfl))
   | ((conv=>whnf);exact dt (i+1) ⟨ω,cm g (O0 ω)⟩)
 obtain rfl:i=k.a.length:=ω
 cases b:dn k.F with
 | false=>
  rw[b]at a
  refine σE ?_
  all_goals exact bx ((by unfold aH;rw[b];simp))
 | true=>
  rw[b]at a
  repeat'(first|refine gE ?_|refine gS (λc=>?_) (λc=>?_)|refine CF (aP _ 0 100000) ?_)
  all_goals exact bx ((by unfold aH;rw[b,g];simp only[Bool.true_and];first|exact decide_eq_decide.2 ω|(symm;exact C1 ω)|(symm;exact O0 ω)))
def lH(k:af)(b:af.sml k):zzA 106 false [.val (some 5) (af.enc .O k)] .one [B (aH k)]:=by
 have l:k.a.length<=1048576:=b.2;have g:=tI k.F b.1;refine fO 29 [] Tryz.func106 rfl ?_
 refine σP ?_
 refine gn k.a.length (λi=>[(1,bS (af.enc .O k)),(6,bC (aE .O k.a)),(7,fI k.a.length),(8,fN i)]) (λi=>d9 i (λj=>decide (0<=nth k.a j))=true) rfl λi c=>?_
 obtain⟨c,d⟩:=c;by_cases e:i<k.a.length
 ·have h:=ar e
  repeat'(first|refine gE ?_|refine gS (λa=>?_) (λa=>?_)|fail)
  all_goals first
   | exact bx ((by symm;unfold aH;rw[cI e (C1 ω)];rfl))
   | ((conv=>whnf);exact dt (i+1) ⟨ω,cm d (O0 ω)⟩)
 obtain rfl:i=k.a.length:=ω
 repeat'(first|refine gE ?_|refine gS (λa=>?_) (λa=>?_)|refine CF (aG _ 0 100000) ?_)
 all_goals exact bx ((by unfold aH;rw[d];cases dn k.F<;>simp only[Bool.true_and,Bool.false_and]<;>first|rfl|exact decide_eq_decide.2 ω|(symm;exact C1 ω)|(symm;exact O0 ω)))
def Br(pages:Int)(r:aC)(b:0<=pages/\pages<=1048576):zzA 188 false [.vI pages,.val (some 2) (aC.enc .O r)] .one [B (rangeIn pages r)]:=by
 refine fO 18 [] Tryz.func188 rfl ?_
 repeat'(first|refine gP ?_|refine gS (λa=>?_) (λa=>?_)|refine CF (aP _ 1 _) ?_|refine CF (aP _ 0 _) ?_)
 all_goals exact bx ((by unfold rangeIn;first|(symm;exact C1 ω)|exact decide_eq_decide.2 ω))
def BS(pages:Int)(r:aC)(b:0<=pages/\pages<=1048576):zzA 243 false [.vI pages,.val (some 2) (aC.enc .O r)] .one [B (rangeIn pages r)]:=by
 refine fO 18 [] Tryz.func243 rfl ?_
 repeat'(first|refine gP ?_|refine gS (λa=>?_) (λa=>?_)|refine CF (aG _ 1 _) ?_|refine CF (aG _ 0 _) ?_)
 all_goals exact bx ((by unfold rangeIn;first|(symm;exact C1 ω)|exact decide_eq_decide.2 ω))
theorem qH(k:Int):zzA 339 false [.vI k] .one [I (slots k)]:=by
 by_cases b:0<=k/\k<=3
 ·obtain rfl|rfl|rfl|rfl:k=0\/k=1\/k=2\/k=3:=ω
  all_goals
   refine fO 9 [] Tryz.func339 rfl ?_
   repeat'(first|refine gE ?_|refine gS (λa=>?_) (λa=>?_)|refine CF (aP _ 0 3) ?_|refine CT qs ?_|refine CS rfl ?_|refine CX rfl ?_)
   exact gm qs
 refine fO 9 [] Tryz.func339 rfl ?_
 repeat'(first|refine gE ?_|refine gS (λa=>?_) (λa=>?_)|refine CF (aP _ 0 3) ?_)
 exact gm (by grind [slots])
theorem ik(k:Int):zzA 385 false [.vI k] .one [I (slots k)]:=by
 by_cases b:0<=k/\k<=3
 ·obtain rfl|rfl|rfl|rfl:k=0\/k=1\/k=2\/k=3:=ω
  all_goals
   refine fO 9 [] Tryz.func385 rfl ?_
   repeat'(first|refine gE ?_|refine gS (λa=>?_) (λa=>?_)|refine CF (gL _) ?_|refine CF (dB _) ?_|refine CT qs ?_|refine CS rfl ?_|refine CX rfl ?_)
   exact gm qs
 refine fO 9 [] Tryz.func385 rfl ?_
 repeat'(first|refine gE ?_|refine gS (λa=>?_) (λa=>?_)|refine CF (gL _) ?_)
 exact gm (by grind [slots])
def R9(k b:Int):Bool:=decide (0<=k/\k<=3/\0<=b/\b<=lim k)
theorem vk(k b:Int):zzA 338 false [.vI (slots k),.vI b] .one [B (R9 k b)]:=by
 by_cases d:0<=k/\k<=3
 ·obtain rfl|rfl|rfl|rfl:k=0\/k=1\/k=2\/k=3:=ω
  all_goals
   first|rw[show slots 0=16 from rfl]|rw[show slots 1=8 from rfl]|rw[show slots 2=4 from rfl]|rw[show slots 3=2 from rfl]
   refine fO 15 [] Tryz.func338 rfl ?_
   repeat'(first|refine gE ?_|refine gS (λa=>?_) (λa=>?_)|refine CF (aP _ 1 16) ?_|refine CF (aP _ 0 _) ?_|refine CT qs ?_|refine CS (show _=(65536:Int) by decide) ?_|refine CS (show _=(65535:Int) by decide) ?_|refine CS (show _=(256:Int) by decide) ?_|refine CS (show _=(255:Int) by decide) ?_|refine CS (show _=(16:Int) by decide) ?_|refine CS (show _=(15:Int) by decide) ?_|refine CS (show _=(4:Int) by decide) ?_|refine CS (show _=(8:Int) by decide) ?_|refine CS (show _=(2:Int) by decide) ?_|refine CS (show _=(3:Int) by decide) ?_)
   all_goals exact bx ((decide_eq_decide.2 (by simp[lim])))
 have c:slots k=0:=by grind [slots]
 rw[c];refine fO 15 [] Tryz.func338 rfl ?_
 repeat'(first|refine gE ?_|refine gS (λa=>?_) (λa=>?_)|refine CF (aP _ 1 16) ?_)
 exact bx ((by symm;exact C1 ω))
theorem uX(k b:Int):zzA 384 false [.vI (slots k),.vI b] .one [B (R9 k b)]:=by
 by_cases d:0<=k/\k<=3
 ·obtain rfl|rfl|rfl|rfl:k=0\/k=1\/k=2\/k=3:=ω
  all_goals
   first|rw[show slots 0=16 from rfl]|rw[show slots 1=8 from rfl]|rw[show slots 2=4 from rfl]|rw[show slots 3=2 from rfl]
   refine fO 14 [] Tryz.func384 rfl ?_
   repeat'(first|refine gE ?_|refine gS (λa=>?_) (λa=>?_)|refine CF (aG _ 1 16) ?_|refine CF (aG _ 0 _) ?_|refine CT qs ?_|refine CS (ia qs qs) ?_)
   all_goals exact bx ((decide_eq_decide.2 (by simp[lim,IntKind.bits])))
 have c:slots k=0:=by grind [slots]
 rw[c];refine fO 14 [] Tryz.func384 rfl ?_
 repeat'(first|refine gE ?_|refine gS (λa=>?_) (λa=>?_)|refine CF (aG _ 1 16) ?_)
 exact bx ((by symm;exact C1 ω))
def iW(s:aA):zzA 189 false [.val (some 3) (aA.enc .O s)] .one [B (bq s)]:=by
 refine fO 14 [(1,12,[3,4,5,6,7,8,9,10,11,12,13,2])] Tryz.func189 rfl ?_
 repeat'(first|refine gP ?_|refine gS (λa=>?_) (λa=>?_)|refine CF (aP _ 0 31) ?_|refine CF (qH _) ?_|refine CF (vk _ _) ?_)
 all_goals exact bx ((by unfold bq;first|(symm;exact C1 ω)|exact decide_eq_decide.2 ω))
def iM(s:aA):zzA 245 false [.val (some 3) (aA.enc .O s)] .one [B (bq s)]:=by
 refine fO 19 [(1,17,[3,4,5,6,7,8,9,10,11,12,13,14,15,16,17,18,2])] Tryz.func245 rfl ?_
 repeat'(first|refine gP ?_|refine gS (λa=>?_) (λa=>?_)|refine CF (aG _ 0 31) ?_|refine CF (gL _) ?_|refine CF (ik _) ?_|refine CF (uX _ _) ?_)
 all_goals exact bx ((by unfold bq;first|(symm;exact C1 ω)|exact decide_eq_decide.2 ω))
section
variable{α:Type}{xs:List α}{p:α->Bool}{i:Nat}{y:α}
theorem HG(h:xs[i]? = some y)(a:p y=true):xs.any p=true:=I7.2 ψ
theorem Bl(h:xs[i]? = some y)(a:(xs.take i).any p=false)(b:p y=false):(xs.take (i+1)).any p=false:=by grind [OA]
theorem Zs(a:xs.length<=i)(b:(xs.take i).any p=false):xs.any p=false:=by grind [IE]
theorem i9[Inhabited α](a:0<i)(b:i<xs.length):xs[((i:Int) - 1).toNat]? = some (nth xs (i - 1)):=by
 rw[show((i:Int) - 1).toNat=i - 1 by omega];grind [ar]
end
theorem Dx{pages:Int}{xs:List aC}(a:d9 n (iD pages xs)=true)(b:i<n):1<=(nth xs i).a4/\(nth xs i).a4<=pages/\0<=(nth xs i).At/\(nth xs i).At<=pages - (nth xs i).a4:=by grind [gv,iD,rangeIn]
theorem pN(pages:Int)(xs:List aC)(d:0<=pages/\pages<=1048576)(k:f9 xs):zzA 72 false [.vI pages,.val none (bn .O xs)] .one [B (bN pages xs)]:=by
 have n:=k.1;refine fO 46 [(4,32,[12,13,14,15,16,17,18,19,20,21,22,23,24,25,26,27,28,29,30,31,32,33,34,35,36,37,38,39,40,41,42,43])] Tryz.func72 rfl ?_
 refine σP ?_
 refine gn xs.length (λi=>[(0,fI pages),(1,bC (bn .O xs)),(5,fN i)]) (λi=>d9 i (iD pages xs)=true) rfl λi e=>?_
 obtain⟨e,g⟩:=e;by_cases c:i<xs.length
 ·have j:=ar c
  have o:0<i->1<=(nth xs (i - 1)).a4/\(nth xs (i - 1)).a4<=pages/\0<=(nth xs (i - 1)).At/\(nth xs (i - 1)).At<=pages - (nth xs (i - 1)).a4:=λh=>Dx g ω
  cases b:rangeIn pages (nth xs i) with
  | false=>
   have a:=Br pages (nth xs i) d;rw[b]at a
   refine σE ?_
   exact bx ((by grind [cI,bN,iD]))
  | true=>
   have a:=Br pages (nth xs i) d;rw[b]at a
   repeat'(first|refine gE ?_|refine gS (λl=>?_) (λl=>?_)|refine CQ ω (aa (i9 ω c)) ?_)
   all_goals first
    | exact bx ((by symm;unfold bN;rw[cI c (by unfold iD;rw[b,C1 ω];rfl)];rfl))
    | ((conv=>whnf);exact dt (i+1) ⟨ω,cm g (by unfold iD;rw[b,O0 ω];rfl)⟩)
 repeat'(first|refine gE ?_|refine CF (aP pages 1 32) ?_)
 grind [bN]
theorem pZ(pages:Int)(xs:List aC)(j:0<=pages/\pages<=1048576)(k:f9 xs):zzA 107 false [.vI pages,.val none (bn .O xs)] .one [B (bN pages xs)]:=by
 have n:=k.1;refine fO 43 [(4,26,[14,15,16,17,18,19,20,21,22,23,24,25,26,27,28,29,30,31,32,33,34,35,36,37,38,39])] Tryz.func107 rfl ?_
 refine σP ?_
 refine gn xs.length (λi=>[(0,fI pages),(1,bC (bn .O xs)),(7,bC (bn .O xs)),(8,fI xs.length),(9,fN i)]) (λi=>d9 i (iD pages xs)=true) rfl λi d=>?_
 obtain⟨d,e⟩:=d;by_cases c:i<xs.length
 ·have g:=ar c
  have o:0<i->1<=(nth xs (i - 1)).a4/\(nth xs (i - 1)).a4<=pages/\0<=(nth xs (i - 1)).At/\(nth xs (i - 1)).At<=pages - (nth xs (i - 1)).a4:=λh=>Dx e ω
  have a:=BS pages (nth xs i) j;cases b:rangeIn pages (nth xs i) with
  | false=>
   rw[b]at a
   refine σE ?_
   exact bx ((by grind [cI,bN,iD]))
  | true=>
   rw[b]at a
   repeat'(first|refine gE ?_|refine gS (λl=>?_) (λl=>?_)|refine CQ ω (aa (i9 ω c)) ?_)
   all_goals first
    | exact bx ((by symm;unfold bN;rw[cI c (by unfold iD;rw[b,C1 ω];rfl)];rfl))
    | ((conv=>whnf);exact dt (i+1) ⟨ω,cm e (by unfold iD;rw[b,O0 ω];rfl)⟩)
 repeat'(first|refine gE ?_|refine CF (aG pages 1 32) ?_)
 grind [bN]
theorem F8(xs:List aC)(page:Int)(g:xs.length<=9223372036854775807):zzA 193 false [.val none (bn .O xs),.vI page] .one [B (xs.any (Ah page))]:=by
 refine fO 34 [(4,22,[12,13,14,15,16,17,18,19,20,21,22,23,24,25,26,27,28,29,30,31,32,33])] Tryz.func193 rfl ?_
 refine σP ?_
 refine gn xs.length (λi=>[(0,bC (bn .O xs)),(1,fI page),(5,fN i)]) (λi=>(xs.take i).any (Ah page)=false) ψ λi b=>?_
 obtain⟨b,c⟩:=b;by_cases d:i<xs.length
 ·have a:=ar d
  repeat'(first|refine gE ?_|refine gS (λe=>?_) (λe=>?_)|refine CS rfl ?_)
  all_goals first
   | exact bx ((HG a (by unfold Ah;rw[O0 (by assumption),O0 (by assumption)];rfl)).symm)
   | ((conv=>whnf);exact dt (i+1) ⟨ω,Bl a c (by unfold Ah;first|(rw[C1 (by assumption:¬(nth xs i).At<=page)];rfl)|(rw[C1 (by assumption:¬page<_)];simp))⟩)
 refine σE ?_
 exact bx ψ
def tdiv16(h:0<=z):z.tdiv 16=z / 16:=Int.tdiv_eq_ediv_of_nonneg h
theorem pQ(z:Int):zzA 340 false [.vI z] .one [I (fe z)]:=by
 refine fO 10 [] Tryz.func340 rfl ?_;by_cases b:9<=z/\z<=1000
 ·repeat'(first|refine gE ?_|refine gS (λa=>?_) (λa=>?_)|refine CF (aP z 9 1000) ?_|refine CT qs ?_|refine CS ((O1 _ (tdiv16 ω)).trans (ia ω ω)) ?_)
  grind [fe]
 repeat'(first|refine gE ?_|refine gS (λa=>?_) (λa=>?_)|refine CF (aP z 9 1000) ?_)
 all_goals exact gm (by unfold fe;rw[CI b])
theorem pO(z:Int):zzA 270 false [.vI z] .one [I (fe z)]:=by
 refine fO 10 [] Tryz.func270 rfl ?_;by_cases b:9<=z/\z<=1000
 ·repeat'(first|refine gE ?_|refine gS (λa=>?_) (λa=>?_)|refine CF (aG z 9 1000) ?_|refine CT qs ?_|refine CS ((O1 _ (tdiv16 ω)).trans (ia ω ω)) ?_)
  grind [fe]
 repeat'(first|refine gE ?_|refine gS (λa=>?_) (λa=>?_)|refine CF (aG z 9 1000) ?_)
 all_goals exact gm (by unfold fe;rw[CI b])
def qJ(l:a8):zzA 191 false [.val (some 3) (a8.enc .O l)] .one [B (cq l)]:=by
 have a:=pQ l.y;by_cases c:9<=l.y/\l.y<=1000
 ·rw[show fe l.y=(l.y+15) / 16 from CJ c]at a
  refine fO 22 [] Tryz.func191 rfl ?_
  repeat'(first|refine gP ?_|refine gS (λb=>?_) (λb=>?_)|refine CF (aP _ 0 _) ?_)
  all_goals exact bx ((by unfold cq;first|(symm;exact C1 ω)|exact decide_eq_decide.2 ω))
 rw[show fe l.y=0 from CI c]at a;refine fO 22 [] Tryz.func191 rfl ?_
 repeat'(first|refine gE ?_|refine gS (λb=>?_) (λb=>?_)|fail)
 all_goals exact bx ((by unfold cq;symm;exact C1 ω))
def qM(l:a8):zzA 246 false [.val (some 3) (a8.enc .O l)] .one [B (cq l)]:=by
 have b:=pO l.y;by_cases c:9<=l.y/\l.y<=1000
 ·rw[show fe l.y=(l.y+15) / 16 from CJ c]at b
  refine fO 22 [(1,20,[3,4,5,6,7,8,9,10,11,12,13,14,15,16,17,18,19,20,21,2])] Tryz.func246 rfl ?_
  repeat'(first|refine gE ?_|refine gS (λa=>?_) (λa=>?_)|refine CF (aG _ 9 1000) ?_|refine CF (aG _ 0 _) ?_)
  all_goals exact bx ((by unfold cq;first|(symm;exact C1 ω)|exact decide_eq_decide.2 ω))
 refine fO 22 [(1,20,[3,4,5,6,7,8,9,10,11,12,13,14,15,16,17,18,19,20,21,2])] Tryz.func246 rfl ?_
 repeat'(first|refine gE ?_|refine gS (λa=>?_) (λa=>?_)|refine CF (aG _ 9 1000) ?_)
 all_goals exact bx ((by unfold cq;symm;exact C1 ω))
theorem uJ(h:0<=z/\z<=9223372036854775807):(BitVec.ofInt IntKind.i64.bits z).toNat=z.toNat:=by
 show(BitVec.ofInt 64 z).toNat=z.toNat
 grind
theorem and64(h1:0<=z1/\z1<=9223372036854775807)(h2:0<=z2/\z2<=9223372036854775807):IntKind.i64.wrap ((BitVec.ofInt IntKind.i64.bits z1 &&& BitVec.ofInt IntKind.i64.bits z2).toNat:Nat)=((z1.toNat &&& z2.toNat:Nat):Int):=by grind [uJ,Nat.and_le_left,ia]
theorem Pp(k:Int):lim k<=65535:=by grind [lim]
variable{s:aA}
def gx(h:bq s=true):0<=s.a6/\s.a6<=9223372036854775807:=by
 unfold bq at h;simp only[C0]at h;have:=Pp s.Z;omega
def pC(a b:aA):zzA 194 false [.val (some 3) (aA.enc .O a),.val (some 3) (aA.enc .O b)] .one [B (meshable a b)]:=by
 have e:=iW a;have g:=iW b;cases c:bq a<;>rw[c]at e<;>cases d:bq b<;>rw[d]at g
 all_goals
  refine fO 33 [] Tryz.func194 rfl ?_
  repeat'(first|refine gP ?_|refine gS (λh=>?_) (λh=>?_)|refine CS (and64 (gx c) (gx d)) ?_)
  all_goals exact bx ((by unfold meshable;rw[c,d];first|rfl|(symm;exact C1 ω)|(rw[z9];simp;omega)))
def pR(a b:aA):zzA 251 false [.val (some 3) (aA.enc .O a),.val (some 3) (aA.enc .O b)] .one [B (meshable a b)]:=by
 have e:=iM a;have g:=iM b;cases c:bq a<;>rw[c]at e<;>cases d:bq b<;>rw[d]at g
 all_goals
  refine fO 33 [] Tryz.func251 rfl ?_
  repeat'(first|refine gP ?_|refine gS (λh=>?_) (λh=>?_)|refine CS (and64 (gx c) (gx d)) ?_)
  all_goals exact bx ((by unfold meshable;rw[c,d];first|rfl|(symm;exact C1 ω)|(rw[z9];simp;omega)))
def GD(k:Int):zzA 395 false [.vI k] .one [B (decide (0<=k/\k<=15))]:=by
 refine fO 5 [] Tryz.func395 rfl ?_
 repeat'(first|refine gP ?_|refine CF (aG k 0 15) ?_)
 rfl
def zg(p:b9)(e:b9.sml p):zzA 204 false [.val (some 3) (b9.enc .O p)] .one [B (gF p)]:=by
 have h:p.U.length<=1048576:=e;refine fO 51 [(4,25,[11,12,13,14,15,16,17,18,19,20,21,22,23,24,25,26,27,28,29,30,31,32,33,34,35])] Tryz.func204 rfl ?_
 refine σP ?_
 refine gn p.U.length (λi=>[(1,bS (b9.enc .O p)),(3,fN i)]) (λi=>d9 i (ro p.U)=true) rfl λi c=>?_
 obtain⟨c,d⟩:=c;by_cases a:i<p.U.length
 ·have g:=ar a
  repeat'(first|refine gE ?_|refine gS (λb=>?_) (λb=>?_)|refine CF (aP _ 0 15) ?_|refine CQ ω (aa (i9 ω a)) ?_)
  all_goals first
   | exact bx ((by symm;unfold gF;rw[cI a (C1 ω)];rfl))
   | ((conv=>whnf);exact dt (i+1) ⟨ω,cm d (O0 ω)⟩)
 obtain rfl:i=p.U.length:=ω
 repeat'(first|refine gE ?_|refine gS (λb=>?_) (λb=>?_)|refine CF (aP _ 0 31) ?_)
 all_goals exact bx ((by unfold gF;rw[d];simp only[Bool.true_and];first|(symm;exact C1 ω)|exact decide_eq_decide.2 ω|(rw[z9];simp;omega)))
def zA(p:b9)(e:b9.sml p):zzA 262 false [.val (some 3) (b9.enc .O p)] .one [B (gF p)]:=by
 have h:p.U.length<=1048576:=e;refine fO 46 [] Tryz.func262 rfl ?_
 refine σP ?_
 refine gn p.U.length (λi=>[(1,bS (b9.enc .O p)),(6,bC (aE .O p.U)),(7,fI p.U.length),(8,fN i)]) (λi=>d9 i (ro p.U)=true) rfl λi c=>?_
 obtain⟨c,d⟩:=c;by_cases a:i<p.U.length
 ·have g:=ar a
  repeat'(first|refine gE ?_|refine gS (λb=>?_) (λb=>?_)|refine CF (GD _) ?_|refine CQ ω (aa (i9 ω a)) ?_)
  all_goals first
   | exact bx ((by symm;unfold gF;rw[cI a (C1 ω)];rfl))
   | ((conv=>whnf);exact dt (i+1) ⟨ω,cm d (O0 ω)⟩)
 obtain rfl:i=p.U.length:=ω
 repeat'(first|refine gE ?_|refine gS (λb=>?_) (λb=>?_)|refine CF (aG _ 0 31) ?_)
 all_goals exact bx ((by unfold gF;rw[d];simp only[Bool.true_and];first|(symm;exact C1 ω)|exact decide_eq_decide.2 ω|(rw[z9];simp;omega)))
def Du(j:bW)(a:bW.sml j):zzA 83 false [.val (some 5) (bW.enc .O j)] .one [B (kN j)]:=by
 have e:j.d.U.length<=1048576:=a;have b:=zg j.d a;cases c:gF j.d<;>rw[c]at b
 all_goals
  refine fO 20 [] Tryz.func83 rfl ?_
  repeat'(first|refine gP ?_|refine gS (λd=>?_) (λd=>?_)|refine CF (aP _ 0 5) ?_|refine CF (aP _ 0 _) ?_)
  all_goals exact bx ((by unfold kN;rw[c];first|rfl|(symm;exact C1 ω)|(rw[z9];simp;omega)))
def Bd(j:bW)(a:bW.sml j):zzA 116 false [.val (some 5) (bW.enc .O j)] .one [B (kN j)]:=by
 have e:j.d.U.length<=1048576:=a;have b:=zA j.d a;cases c:gF j.d<;>rw[c]at b
 all_goals
  refine fO 20 [] Tryz.func116 rfl ?_
  repeat'(first|refine gP ?_|refine gS (λd=>?_) (λd=>?_)|refine CF (aG _ 0 5) ?_|refine CF (aG _ 0 _) ?_)
  all_goals exact bx ((by unfold kN;rw[c];first|rfl|(symm;exact C1 ω)|(rw[z9];simp;omega)))
theorem nD(l:a8)(k:Nat):lpgs l (k+1)=lpgs l k++[l.S+(k:Nat)]:=by grind [List.range_succ,lpgs]
theorem K6(l:a8)(k:Nat):(lpgs l k).length=k:=by unfold lpgs;simp
theorem TS(l:a8)(h:k<=n):lpgs l k <+: lpgs l n:=by
 induction n with
 | zero=>
  grind
 | succ n a=>
  grind [nD]
variable{la:List a8}
theorem tO(sp:List aA){l:a8}(h:la[i]? = some l):pgs sp (la.take (i+1))=pgs sp (la.take i)++lpgs l l.a0.toNat:=by grind [OA,pgs]
theorem WL(sp:List aA)(la:List a8)(i:Nat):pgs sp (la.take i) <+: pgs sp la:=by grind [List.take_append_drop,pgs]
variable{S:List Int}
theorem T4{all:List Int}{p:Int}(h:(S++[p]) <+: all)(a:p∈S):decide all.Nodup=false:=by grind [List.nodup_append]
theorem nP{p:Int}(h:S.Nodup)(a:p∉S):(S++[p]).Nodup:=ψ
variable{sp:List aA}
theorem Lh(h:sp[i]? = some s):((sp.take i).map (·.S)++[s.S]) <+: pgs sp la:=by
 have a:(sp.take i).map (·.S)++[s.S]=(sp.take (i+1)).map (·.S):=by grind [OA]
 rw[a];refine List.IsPrefix.trans ?_ (List.prefix_append ..)
 grind
theorem G4{l:a8}(h:la[i]? = some l)(a:k<l.a0.toNat):(pgs sp (la.take i)++lpgs l k++[l.S+(k:Nat)]) <+: pgs sp la:=by
 refine List.IsPrefix.trans ?_ (WL sp la (i+1));rw[tO sp h,SA,<-nD]
 grind [List.prefix_append_right_inj,TS]
theorem vA(h:sp[i]? = some s)(a:bq s=false):bD sp la=false:=by grind [bD]
theorem ue{l:a8}(h:la[i]? = some l)(a:cq l=false):bD sp la=false:=by grind [bD]
theorem ng{p:Int}(h:(S++[p]) <+: pgs sp la)(a:p∈S):bD sp la=false:=by grind [T4,bD]
theorem xy(h1:sp.all bq=true)(h2:la.all cq=true)(a:(pgs sp la).Nodup):bD sp la=true:=by grind [bD]
theorem bf{l:a8}(h:cq l=true):1<=l.a0/\l.a0<=63/\0<=l.S/\l.S<=31:=by grind [cq]
theorem pG(sp:List aA)(la:List a8)(t:dl sp)(u:du la):zzA 73 false [.val none (bP .O sp),.val none (bV .O la)] .one [B (bD sp la)]:=by
 have G:=t.1;have H:=u.1;refine fO 79 [] Tryz.func73 rfl ?_
 refine σP ?_
 refine oA (ι:=Nat × List Int) (λi=>[(0,bC (bP .O sp)),(1,bC (bV .O la)),(5,bC (aE .own i.2)),(6,fN (i.1))]) (λi=>i.1<=sp.length/\i.2=(sp.take i.1).map (·.S)/\(sp.take i.1).all bq=true/\i.2.Nodup) (λi=>sp.length - i.1) ((0,[])) ψ λi o=>?_
 obtain⟨i,S⟩:=i;obtain⟨o,q,d,h⟩:=o;simp only at o q d h |-;have J:S.length=i:=ψ
 by_cases w:i<sp.length
 ·have a:=ar w
  have j:=iW (nth sp i);cases e:bq (nth sp i)<;>rw[e]at j
  ·refine σE ?_
   exact bx ((vA a e).symm)
  repeat'(first|refine gE ?_|refine gS (λy=>?_) (λy=>?_)|refine CM (qw S _ ω) ⟨⟨rfl,eI _⟩,⟨rfl,rfl⟩,tV1⟩ ?_|refine Cb cN (λr C=>by rw[z3.1 C];rfl) (by simp[bu,f6]) kd (by simp only[I2];exact zc kd qs) rfl ?_)
  all_goals first
   | exact bx ((ng (S:=S) (by rw[q];exact Lh a) (by assumption)).symm)
   | ((conv=>whnf)
      refine CP (i+1,S++[(nth sp i).S]) ⟨(by simp only;omega),(by simp only;rw[q,OA,a];simp),(dr a d e),nP h (by assumption)⟩ (by simp only;omega) ?_
      (exact wD))
 obtain rfl:i=sp.length:=ω
 rw[O9]at d q
 refine σE ?_
 refine oA (ι:=Nat × List Int) (λi=>[(1,bC (bV .O la)),(5,bC (aE .own i.2)),(7,fN (i.1))]) (λi=>i.1<=la.length/\i.2=pgs sp (la.take i.1)/\(la.take i.1).all cq=true/\i.2.Nodup/\i.2.length<=1048576+64*i.1) (λi=>la.length - i.1) ((0,S)) (⟨I1 _,by grind [pgs],rfl,h,by simp only;omega⟩) λi o=>?_
 obtain⟨i,S2⟩:=i;obtain⟨D,l,b,g,E⟩:=o;simp only at D l b g E |-;by_cases w:i<la.length
 ·have a:=ar w
  have j:=qJ (nth la i);cases e:cq (nth la i)<;>rw[e]at j
  ·refine σE ?_
   exact bx ((ue a e).symm)
  have K:=bf e
  refine σE ?_
  refine oA (ι:=Nat × List Int) (λk=>[(1,bC (bV .O la)),(5,bC (aE .own k.2)),(7,fN i),(8,fN (k.1))]) (λk=>k.1<=(nth la i).a0.toNat/\k.2=S2++lpgs (nth la i) k.1/\k.2.Nodup) (λk=>(nth la i).a0.toNat - k.1) ((0,S2)) (⟨I1 _,by simp[lpgs],g⟩) λk F=>?_
  obtain⟨k,p⟩:=k;obtain⟨F,n,c⟩:=F;simp only at F n c |-;have L:p.length=S2.length+k:=by grind [K6]
  by_cases M:k<(nth la i).a0.toNat
  ·repeat'(first|refine gE ?_|refine gS (λy=>?_) (λy=>?_)|refine CM (qw p _ ω) ⟨⟨rfl,eI _⟩,⟨rfl,rfl⟩,tV1⟩ ?_|refine Cb cN (λr C=>by rw[z3.1 C];rfl) (by simp[bu,f6]) kd (by show _*8<=_;simp;omega) rfl ?_)
   all_goals first
    | exact bx ((ng (S:=p) (by rw[n,l];exact G4 a M) (by assumption)).symm)
    | ((conv=>whnf)
       refine CP (k+1,p++[(nth la i).S+(k:Nat)]) ⟨(by simp only;omega),(by simp only;rw[n,nD,SA]),nP c (by assumption)⟩ (by simp only;omega) ?_
       (exact wD))
  obtain rfl:k=(nth la i).a0.toNat:=ω
  refine σE ?_
  (exact dt (i+1,p) ⟨(by simp only;omega),(by grind [tO]),(dr a b e),c,(by simp only;omega)⟩)
 obtain rfl:i=la.length:=ω
 rw[O9]at b l
 refine σE ?_
 exact bx ((xy d b ψ).symm)
def ins(S:List Int)(p:Int):List Int:=if p∈S then S else S++[p]
theorem Qx{p:Int} : ∀{S:List Int},p∈S->mput (hO S) p (.bool true)=hO S
 | x::S,h=>by
  simp only[hO,OB,mput];by_cases a:x=p
  ·rw[CJ a,a]
  rw[CI a];have:=Qx (S:=S) ((List.mem_cons.1 h).resolve_left λe=>a e.symm)
  grind [hO]
theorem BC(S:List Int)(p:Int):hO (ins S p)=mput (hO S) p (.bool true):=by grind [Qx,y7,ins]
theorem Tu(S:List Int)(p:Int):zzB 244 false [.vI p,.ptr [.m (hO S)]] [.vI p,.ptr [.m (hO (ins S p))]] .one [B (decide (p∉S))]:=by
 refine fM 12 [] [] [(0,0),(0,0)] Tryz.func244 rfl (λu q=>?_)
 repeat'(first|refine gP ?_|refine Ml.mk (qN p S) ?_|refine Mu.mk (BC S p) ?_)
 refine CN rfl ?_ ?_
 ·grind
 exact wB
theorem vB(sp:List aA)(la:List a8)(t:dl sp)(u:du la):zzA 108 false [.val none (bP .O sp),.val none (bV .O la)] .one [B (bD sp la)]:=by
 have E:=t.1;have F:=u.1;refine fP 54 [(244,[0,2])] [] Tryz.func108 rfl ?_
 refine σP ?_
 refine oA (ι:=Nat × List Int) (λi=>[(1,bC (bV .O la)),(5,bS [.m (hO i.2)]),(6,.fn 244 [5]),(14,bC (bP .O sp)),(15,fI sp.length),(16,fN (i.1))]) (λi=>i.1<=sp.length/\i.2=(sp.take i.1).map (·.S)/\(sp.take i.1).all bq=true/\i.2.Nodup) (λi=>sp.length - i.1) ((0,[])) ψ λi p=>?_
 obtain⟨i,S⟩:=i;obtain⟨p,r,e,j⟩:=p;simp only at p r e j |-;by_cases w:i<sp.length
 ·have c:=ar w
  have l:=iM (nth sp i);cases g:bq (nth sp i)<;>rw[g]at l
  ·refine σE ?_
   exact bx ((vA c g).symm)
  repeat'(first|refine gE ?_|refine gS (λy=>?_) (λy=>?_)|refine CO (Tu S _) (.inl rfl) ?_)
  all_goals first
   | exact bx ((ng (S:=S) (by rw[r];exact Lh c) ψ).symm)
   |(have a:(nth sp i).S∉S:=by assumption
     (conv=>whnf)
     refine CP (i+1,ins S (nth sp i).S) ⟨(by simp only;omega),(by simp only;unfold ins;rw[CI a,r,OA,c];simp),(dr c e g),(by simp only;unfold ins;rw[CI a];exact nP j a)⟩ (by simp only;omega) ?_
     (exact wA))
 obtain rfl:i=sp.length:=ω
 rw[O9]at e r
 refine σE ?_
 refine oA (ι:=Nat × List Int) (λi=>[(5,bS [.m (hO i.2)]),(6,.fn 244 [5]),(31,bC (bV .O la)),(32,fI la.length),(33,fN (i.1))]) (λi=>i.1<=la.length/\i.2=pgs sp (la.take i.1)/\(la.take i.1).all cq=true/\i.2.Nodup) (λi=>la.length - i.1) ((0,S)) (⟨I1 _,by grind [pgs],rfl,j⟩) λi p=>?_
 obtain⟨i,S2⟩:=i;obtain⟨C,n,b,h⟩:=p;simp only at C n b h |-;by_cases w:i<la.length
 ·have c:=ar w
  have l:=qM (nth la i);cases g:cq (nth la i)<;>rw[g]at l
  ·refine σE ?_
   exact bx ((ue c g).symm)
  have G:=bf g
  refine σE ?_
  refine oA (ι:=Nat × List Int) (λk=>[(5,bS [.m (hO k.2)]),(6,.fn 244 [5]),(10,bS (a8.enc .O (nth la i))),(11,fN (k.1)),(31,bC (bV .O la)),(32,fI la.length),(33,fN i)]) (λk=>k.1<=(nth la i).a0.toNat/\k.2=S2++lpgs (nth la i) k.1/\k.2.Nodup) (λk=>(nth la i).a0.toNat - k.1) ((0,S2)) (⟨I1 _,by simp[lpgs],h⟩) λk D=>?_
  obtain⟨k,q⟩:=k;obtain⟨D,o,d⟩:=D;simp only at D o d |-;by_cases H:k<(nth la i).a0.toNat
  ·repeat'(first|refine gE ?_|refine gS (λy=>?_) (λy=>?_)|refine CO (Tu q _) (.inl rfl) ?_)
   all_goals first
    | exact bx ((ng (S:=q) (by rw[o,n];exact G4 c H) ψ).symm)
    |(have a:(nth la i).S+(k:Nat)∉q:=by assumption
      (conv=>whnf)
      refine CP (k+1,ins q ((nth la i).S+(k:Nat))) ⟨(by simp only;omega),(by simp only;unfold ins;rw[CI a,o,nD,SA]),(by simp only;unfold ins;rw[CI a];exact nP d a)⟩ (by simp only;omega) ?_
      (exact wA))
  obtain rfl:k=(nth la i).a0.toNat:=ω
  refine σE ?_
  (exact dt (i+1,q) ⟨(by simp only;omega),(by grind [tO]),(dr c b g),d⟩)
 obtain rfl:i=la.length:=ω
 rw[O9]at b n
 refine σE ?_
 exact bx ((xy e b ψ).symm)
theorem aO(h:bq s=true):0<=s.S/\s.S<=31/\0<=s.Z/\s.Z<=3:=by grind [bq]
theorem dm{k:Int}(h:0<=k/\k<=3):csz k=1\/csz k=2\/csz k=4\/csz k=8:=by
 obtain rfl|rfl|rfl|rfl:k=0\/k=1\/k=2\/k=3:=ω
 all_goals decide
def xn{x y:Int}(h:0<=x):x.tdiv y=x / y:=Int.tdiv_eq_ediv_of_nonneg h
def fg{x y:Int}(h:0<=x):x.tmod y=x % y:=Int.tmod_eq_emod_of_nonneg h
def S2(p:Int × Int):List C:=[I p.1,I p.2]
theorem GZ{p:Int × Int}(h:(a,b)=p):[I a,I b]=S2 p:=by subst h;rfl
theorem zp(s:aA)(a:Int)(k:mY a):zzA 342 false [.val (some 3) (aA.enc .O s),.vI a] (.tup [none,none]) (S2 (kG s a)):=by
 have b:=iW s;have l:=eY s.Z;obtain⟨n,o⟩:=k;cases c:bq s<;>rw[c]at b
 ·refine fO 33 [(4,12,[23,24,25,26,27,28,29,30,31,32,4,5])] Tryz.func342 rfl ?_ (.inr ⟨tV1,tV1,tV1⟩)
  refine σP ?_
  exact GZ (by grind [kG,eg])
 have h:=aO c;have i:=dm ⟨h.2.2.1,h.2.2.2⟩;by_cases d:16*s.S<=a/\a<=16*s.S+15
 ·have j:0<=a:=ω
  refine fO 33 [(4,12,[23,24,25,26,27,28,29,30,31,32,4,5])] Tryz.func342 rfl ?_ (.inr ⟨tV1,tV1,tV1⟩)
  repeat'(first|refine gE ?_|refine gS (λg=>?_) (λg=>?_)|refine CT qs ?_|refine CT ω ?_|refine CS ((O1 _ (xn j)).trans (ia ω ω)) ?_|refine CX (fg j) ?_|refine CS ((O1 _ (xn ω)).trans (ia (by rcases i with e|e|e|e<;>rw[e]<;>omega) (by rcases i with e|e|e|e<;>rw[e]<;>omega))) ?_|refine CX (fg ω) ?_)
  all_goals grind [GZ,kG,eg]
 refine fO 33 [(4,12,[23,24,25,26,27,28,29,30,31,32,4,5])] Tryz.func342 rfl ?_ (.inr ⟨tV1,tV1,tV1⟩)
 repeat'(first|refine gP ?_|refine gS (λg=>?_) (λg=>?_)|refine CT qs ?_|refine CS ((O1 _ (xn ω)).trans (ia ω ω)) ?_)
 all_goals first
  |exact GZ (by unfold kG eg;rw[c,C1 d];rfl)
  |(exfalso;omega)
theorem Kx(s:aA)(a:Int):zzA 389 false [.val (some 3) (aA.enc .O s),.vI a] (.tup [none,none]) (S2 (kG s a)):=by
 have b:=iM s;have j:=dB s.Z;cases c:bq s<;>rw[c]at b
 ·refine fO 38 [(4,12,[28,29,30,31,32,33,34,35,36,37,4,5])] Tryz.func389 rfl ?_ (.inr ⟨tV1,tV1,tV1⟩)
  refine σP ?_
  exact GZ (by grind [kG,eg])
 have h:=aO c;have i:=dm ⟨h.2.2.1,h.2.2.2⟩;by_cases d:16*s.S<=a/\a<=16*s.S+15
 ·refine fO 38 [(4,12,[28,29,30,31,32,33,34,35,36,37,4,5])] Tryz.func389 rfl ?_ (.inr ⟨tV1,tV1,tV1⟩)
  repeat'(first|refine gE ?_|refine gS (λg=>?_) (λg=>?_)|refine CF (aG _ _ _) ?_|refine CT ω ?_|refine CS ((O1 _ (xn ω)).trans (ia (by rcases i with e|e|e|e<;>rw[e]<;>omega) (by rcases i with e|e|e|e<;>rw[e]<;>omega))) ?_|refine CX (fg ω) ?_)
  grind [GZ,kG,eg]
 refine fO 38 [(4,12,[28,29,30,31,32,33,34,35,36,37,4,5])] Tryz.func389 rfl ?_ (.inr ⟨tV1,tV1,tV1⟩)
 repeat'(first|refine gE ?_|refine gS (λg=>?_) (λg=>?_)|refine CF (aG _ _ _) ?_)
 all_goals exact GZ (by unfold kG eg;rw[c,C1 d];rfl)
def uD(b i:Int):zzA 440 false [.vI b,.vI i] .one [B (decide (0<=b/\0<=i/\i<=15))]:=by
 refine fO 11 [] Tryz.func440 rfl ?_
 repeat'(first|refine gP ?_|refine gS (λa=>?_) (λa=>?_)|refine CF (aP _ 0 15) ?_)
 all_goals exact bx ((by first|(symm;exact C1 ω)|exact decide_eq_decide.2 ω))
def ux(b i:Int):zzA 467 false [.vI b,.vI i] .one [B (decide (0<=b/\0<=i/\i<=15))]:=by
 refine fO 11 [] Tryz.func467 rfl ?_
 repeat'(first|refine gP ?_|refine gS (λa=>?_) (λa=>?_)|refine CF (aG _ 0 15) ?_)
 all_goals exact bx ((by first|(symm;exact C1 ω)|exact decide_eq_decide.2 ω))
theorem UP{i:Int}(a:0<=b/\b<=9223372036854775807)(e:0<=i/\i<=15):b.fdiv (2 ^ min i.toNat IntKind.i64.bits)=b / 2 ^ i.toNat/\0<=b / 2 ^ i.toNat/\b / 2 ^ i.toNat<=9223372036854775807:=by
 have d:min i.toNat IntKind.i64.bits=i.toNat:=Nat.min_eq_left (show i.toNat<=64 by omega);rw[d];have c:(0:Int)<=2 ^ i.toNat:=ψ
 refine⟨Int.fdiv_eq_ediv_of_nonneg _ c,Int.ediv_nonneg a.1 c,?_⟩;have:=Int.ediv_le_self (2 ^ i.toNat:Int) a.1;omega
theorem B5{i:Int}(a:0<=b)(c:0<=i/\i<=15):((((b / 2 ^ i.toNat).toNat &&& (1:Int).toNat:Nat):Int) == 1)=bo b i:=by
 have d:(0:Int)<=b / 2 ^ i.toNat:=Int.ediv_nonneg a ψ
 grind [bo]
theorem kC(b i:Int)(c:b<=9223372036854775807):zzA 343 false [.vI b,.vI i] .one [B (bo b i)]:=by
 by_cases h:0<=b/\0<=i/\i<=15
 ·obtain⟨d,g⟩:=UP (b:=b) (i:=i) ⟨h.1,c⟩ h.2
  have j:IntKind.u64.wrap i=i:=by grind [Go.IntKind.wrap,Go.IntKind.bits]
  refine fO 16 [] Tryz.func343 rfl ?_
  repeat'(first|refine gE ?_|refine gS (λa=>?_) (λa=>?_)|refine CF (uD _ _) ?_|refine CT ω ?_|refine CS j ?_|refine CX d ?_|refine CS (and64 g ⟨by decide,by decide⟩) ?_)
  grind [B5]
 refine fO 16 [] Tryz.func343 rfl ?_
 repeat'(first|refine gE ?_|refine gS (λa=>?_) (λa=>?_)|refine CF (uD _ _) ?_)
 all_goals exact bx ((by unfold bo;symm;exact C1 λe=>h ⟨e.1,e.2.1,e.2.2.1⟩))
theorem jb(b i:Int)(c:b<=9223372036854775807):zzA 390 false [.vI b,.vI i] .one [B (bo b i)]:=by
 by_cases h:0<=b/\0<=i/\i<=15
 ·obtain⟨d,g⟩:=UP (b:=b) (i:=i) ⟨h.1,c⟩ h.2
  refine fO 15 [] Tryz.func390 rfl ?_
  repeat'(first|refine gE ?_|refine gS (λa=>?_) (λa=>?_)|refine CF (ux _ _) ?_|refine CT ω ?_|refine CX d ?_|refine CS (and64 g ⟨by decide,by decide⟩) ?_)
  grind [B5]
 refine fO 15 [] Tryz.func390 rfl ?_
 repeat'(first|refine gE ?_|refine gS (λa=>?_) (λa=>?_)|refine CF (ux _ _) ?_)
 all_goals exact bx ((by unfold bo;symm;exact C1 λe=>h ⟨e.1,e.2.1,e.2.2.1⟩))
theorem cJ{l:a8}(h:cq l=true):9<=l.y/\l.y<=1000/\0<=l.S/\l.S<=31:=by grind [cq]
theorem vg(l:a8)(a:Int):zzA 344 false [.val (some 3) (a8.enc .O l),.vI a] .one [B (cg l a)]:=by
 have b:=qJ l;cases c:cq l<;>rw[c]at b
 ·refine fO 24 [] Tryz.func344 rfl ?_
  refine σP ?_
  exact bx ((by grind [cg]))
 have e:=cJ c;refine fO 24 [] Tryz.func344 rfl ?_
 repeat'(first|refine gP ?_|refine gS (λd=>?_) (λd=>?_)|fail)
 all_goals exact bx ((by unfold cg;rw[c,Bool.true_and];first|(symm;exact C1 ω)|exact decide_eq_decide.2 ω))
theorem v6(l:a8)(a:Int):zzA 391 false [.val (some 3) (a8.enc .O l),.vI a] .one [B (cg l a)]:=by
 have b:=qM l;cases c:cq l<;>rw[c]at b
 ·refine fO 21 [] Tryz.func391 rfl ?_
  refine σP ?_
  exact bx ((by grind [cg]))
 have e:=cJ c;refine fO 21 [] Tryz.func391 rfl ?_
 repeat'(first|refine gP ?_|refine gS (λd=>?_) (λd=>?_)|refine CF (aG _ _ _) ?_)
 grind [cg]
theorem yE(l:a8)(a:Int)(h:cg l a=true):zzA 345 false [.val (some 3) (a8.enc .O l),.vI a] .one [I (a - 16*l.S)]:=by
 have b:=vg l a;rw[h]at b;unfold cg at h;simp only[I0,C0]at h;have c:=cJ h.1;refine fO 14 [] Tryz.func345 rfl ?_
 refine σP ?_
 grind
theorem yi(l:a8)(a:Int)(h:cg l a=true):zzA 392 false [.val (some 3) (a8.enc .O l),.vI a] .one [I (a - 16*l.S)]:=by
 have b:=v6 l a;rw[h]at b;unfold cg at h;simp only[I0,C0]at h;have c:=cJ h.1;refine fO 14 [] Tryz.func392 rfl ?_
 refine σP ?_
 grind
variable{m:aI}
theorem uz(a:i<m.T.length)(h:jd m i=false):bG m=false:=by grind [cI,bG]
theorem Dc(h:¬(1<=m.T.length/\m.T.length<=4/\m.g.length=m.T.length)):bG m=false:=by grind [bG]
theorem D7(h1:1<=m.T.length/\m.T.length<=4/\m.g.length=m.T.length)(h2:d9 m.T.length (jd m)=true):bG m=decide (bQ m m.T.length<=30):=by grind [bG]
theorem pf(m:aI)(h:aI.sml m):zzA 76 false [.val (some 2) (aI.enc .O m)] .one [B (bG m)]:=by
 have r:m.T.length<=1048576:=h.1.1;have t:m.g.length<=1048576:=h.2.1;by_cases u:1<=m.T.length/\m.T.length<=4/\m.g.length=m.T.length
 ·refine fO 92 [(19,15,[75,76,77,78,79,80,81,82,83,84,85,86,87,88,89])] Tryz.func76 rfl ?_
  repeat'(first|refine gB ?_|refine gS (λa=>?_) (λa=>?_)|refine CF (aP _ 1 4) ?_)
  refine gn m.T.length (λi=>[(1,bS (aI.enc .O m)),(3,fI m.T.length),(4,fI (bQ m i)),(5,fN i)]) (λi=>d9 i (jd m)=true/\0<=bQ m i/\bQ m i<=2097152*i) ⟨rfl,by simp[bQ],by simp[bQ]⟩ λi n=>?_
  obtain⟨n,w,E,F⟩:=n;by_cases j:i<m.T.length
  ·have l:=ar j
   have o:=ar (xs:=m.g) (i:=i) ω;have y:(nth m.T i).length<=1048576:=(h.1.2 _ (ax j)).1;have C:(nth m.g i).length<=1048576:=h.2.2 _ ψ
   refine σE ?_
   refine gn ((nth m.T i).length) (λk=>[(1,bS (aI.enc .O m)),(3,fI m.T.length),(4,fI (bQ m i)),(5,fN i),(6,fN k)]) (λk=>((nth m.T i).take k).all (rT m.T.length)=true) ψ λk p=>?_
   obtain⟨p,q⟩:=p;by_cases D:k<(nth m.T i).length
   ·have b:=ar D
    repeat'(first|refine gE ?_|refine gS (λa=>?_) (λa=>?_)|refine CF (aP _ 0 _) ?_)
    all_goals first
     | exact bx ((uz j (by unfold jd;rw[iL b (by unfold rT;exact C1 ω)];rfl)).symm)
     | ((conv=>whnf);exact dt (k+1) ⟨ω,dr b q (by unfold rT;exact O0 ω)⟩)
   have G:=r9 ω q
   refine σE ?_
   refine gn ((nth m.g i).length) (λd=>[(1,bS (aI.enc .O m)),(3,fI m.T.length),(4,fI (bQ m i)),(5,fN i),(8,fN d)]) (λd=>((nth m.g i).take d).all VJ=true) ψ λd e=>?_
   obtain⟨e,ak2⟩:=e;by_cases lk2:d<(nth m.g i).length
   ·have b:=ar lk2
    repeat'(first|refine gE ?_|refine gS (λa=>?_) (λa=>?_)|fail)
    all_goals first
     | exact bx ((uz j (by unfold jd;rw[iL b (by unfold VJ;exact C1 ω)];simp)).symm)
     | ((conv=>whnf);exact dt (d+1) ⟨ω,dr b ak2 (by unfold VJ;exact O0 ω)⟩)
   have ae2:=r9 ω ak2;have g:bQ m (i+1)=bQ m i+((nth m.T i).length+(nth m.g i).length):=rfl;have c:bQ m (i+1)=bQ m i+(nth m.T i).length+(nth m.g i).length:=by rw[g];omega
   refine σE ?_
   (refine CP (i+1) ⟨ω,cm w (by grind [jd]),ω,ω⟩ ω ?_)
   rw[c];exact wB
  obtain rfl:i=m.T.length:=ω
  refine σE ?_
  grind [D7]
 refine fO 92 [(19,15,[75,76,77,78,79,80,81,82,83,84,85,86,87,88,89])] Tryz.func76 rfl ?_
 repeat'(first|refine gP ?_|refine gS (λa=>?_) (λa=>?_)|refine CF (aP _ 1 4) ?_)
 all_goals first
  | exact bx ((Dc u).symm)
  |(exfalso;omega)
theorem pb(m:aI)(g:aI.sml m):zzA 110 false [.val (some 2) (aI.enc .O m)] .one [B (bG m)]:=by
 have q:m.T.length<=1048576:=g.1.1;have r:m.g.length<=1048576:=g.2.1;by_cases t:1<=m.T.length/\m.T.length<=4/\m.g.length=m.T.length
 ·refine fO 82 [(20,15,[64,65,66,67,68,69,70,71,72,73,74,75,76,77,78])] Tryz.func110 rfl ?_
  repeat'(first|refine gB ?_|refine gS (λa=>?_) (λa=>?_)|refine CF (aG _ 1 4) ?_)
  refine gn m.T.length (λi=>[(1,bS (aI.enc .O m)),(3,fI m.T.length),(4,fI (bQ m i)),(25,fI m.T.length),(26,fN i)]) (λi=>d9 i (jd m)=true/\0<=bQ m i/\bQ m i<=2097152*i) ⟨rfl,by simp[bQ],by simp[bQ]⟩ λi n=>?_
  obtain⟨n,u,D,E⟩:=n;by_cases h:i<m.T.length
  ·have j:=ar h
   have l:=ar (xs:=m.g) (i:=i) ω;have w:(nth m.T i).length<=1048576:=(g.1.2 _ (ax h)).1;have y:(nth m.g i).length<=1048576:=g.2.2 _ ψ
   refine σE ?_
   refine gn ((nth m.T i).length) (λk=>[(1,bS (aI.enc .O m)),(3,fI m.T.length),(4,fI (bQ m i)),(5,fN i),(25,fI m.T.length),(26,fN i),(33,bC (bg .O (nth m.T i))),(34,fI ((nth m.T i).length)),(35,fN k)]) (λk=>((nth m.T i).take k).all (rT m.T.length)=true) ψ λk o=>?_
   obtain⟨o,p⟩:=o;by_cases C:k<(nth m.T i).length
   ·have b:=ar C
    repeat'(first|refine gE ?_|refine gS (λa=>?_) (λa=>?_)|refine CF (aG _ 0 _) ?_)
    all_goals first
     | exact bx ((uz h (by unfold jd;rw[iL b (by unfold rT;exact C1 ω)];rfl)).symm)
     | ((conv=>whnf);exact dt (k+1) ⟨ω,dr b p (by unfold rT;exact O0 ω)⟩)
   have F:=r9 ω p
   refine σE ?_
   refine gn ((nth m.g i).length) (λc=>[(1,bS (aI.enc .O m)),(3,fI m.T.length),(4,fI (bQ m i)),(5,fN i),(25,fI m.T.length),(26,fN i),(55,bC (aE .O (nth m.g i))),(56,fI ((nth m.g i).length)),(57,fN c)]) (λc=>((nth m.g i).take c).all VJ=true) ψ λc d=>?_
   obtain⟨d,ak2⟩:=d;by_cases lk2:c<(nth m.g i).length
   ·have b:=ar lk2
    repeat'(first|refine gE ?_|refine gS (λa=>?_) (λa=>?_)|fail)
    all_goals first
     | exact bx ((uz h (by unfold jd;rw[iL b (by unfold VJ;exact C1 ω)];simp)).symm)
     | ((conv=>whnf);exact dt (c+1) ⟨ω,dr b ak2 (by unfold VJ;exact O0 ω)⟩)
   have ae2:=r9 ω ak2;have e:bQ m (i+1)=bQ m i+((nth m.T i).length+(nth m.g i).length):=rfl
   refine σE ?_
   (refine CP (i+1) ⟨ω,cm u (by grind [jd]),ω,ω⟩ ω ?_)
   rw[e];exact wB
  obtain rfl:i=m.T.length:=ω
  refine σE ?_
  grind [D7]
 refine fO 82 [(20,15,[64,65,66,67,68,69,70,71,72,73,74,75,76,77,78])] Tryz.func110 rfl ?_
 repeat'(first|refine gP ?_|refine gS (λa=>?_) (λa=>?_)|refine CF (aG _ 1 4) ?_)
 all_goals first
  | exact bx ((Dc t).symm)
  |(exfalso;omega)
def Gt(h:eg s a=false):S2 (kG s a)=[I (-1),I (-1)]:=by
 unfold kG;rw[h];rfl
def B3(h:eg s a=true):S2 (kG s a)=[I ((a - 16*s.S) / csz s.Z),I ((a - 16*s.S) % csz s.Z)]:=by
 unfold kG;rw[h];rfl
theorem xT(h:eg s a=true):bq s=true/\0<=(a - 16*s.S) / csz s.Z/\(a - 16*s.S) / csz s.Z<=15:=by
 unfold eg at h;simp only[I0,C0]at h;have b:=aO h.1
 grind [dm]
def rr(b:i<sp.length)(h:eg (nth sp i) a=true)(c:∀(j:Nat)(z:aA),j<i->sp[j]? = some z->eg z a=false):denotes sp la a=tC i (nth sp i) a:=by
 unfold denotes;rw[AD (pr:=(eg · a)) (ar b) h c]
def pL(b:sp.length<=n)(c:∀(j:Nat)(z:aA),j<n->sp[j]? = some z->eg z a=false)(d:i<la.length)(h:cg (nth la i) a=true)(e:∀(j:Nat)(z:a8),j<i->la[j]? = some z->cg z a=false) :
  denotes sp la a = ⟨3,i,0,a - 16*(nth la i).S⟩:=by
 unfold denotes;rw[J9 (pr:=(eg · a)) b c,AD (pr:=(cg · a)) (ar d) h e]
theorem Dr(b:sp.length<=n)(c:∀(j:Nat)(z:aA),j<n->sp[j]? = some z->eg z a=false)(d:la.length<=k)(e:∀(j:Nat)(z:a8),j<k->la[j]? = some z->cg z a=false):denotes sp la a = ⟨0,0,0,0⟩:=by grind [J9,denotes]
theorem r7(sp:List aA)(la:List a8)(a:Int)(d:dl sp)(e:du la)(g:bD sp la=true)(C:mY a):zzA 199 false [.val none (bP .O sp),.val none (bV .O la),.vI a] .agg (ll.enc .own (denotes sp la a)):=by
 have D:=d.1;have E:=e.1;have p:=pG sp la d e;rw[g]at p;refine fO 67 [] Tryz.func199 rfl ?_ (.inr (ll.enc_fr _))
 refine σP ?_
 refine gn sp.length (λi=>[(0,bC (bP .O sp)),(1,bC (bV .O la)),(2,fI a),(6,bS ([I 0,I 0,I 0,I 0])),(7,fN i)]) (λi=>∀(j:Nat)(z:aA),j<i->sp[j]? = some z->eg z a=false) ψ λi q=>?_
 obtain⟨q,l⟩:=q;by_cases r:i<sp.length
 ·have h:=ar r
  have b:=zp (nth sp i) a C;cases c:eg (nth sp i) a with
  | false=>
   rw[Gt c]at b
   repeat'(first|refine gE ?_|refine gS (λo=>?_) (λo=>?_)|fail)
   (exact dt (i+1) ψ)
  | true=>
   rw[B3 c]at b;obtain⟨F,G,H⟩:=xT c;have t:=kC (nth sp i).a6 ((a - 16*(nth sp i).S) / csz (nth sp i).Z) (gx F).2;cases u:bo (nth sp i).a6 ((a - 16*(nth sp i).S) / csz (nth sp i).Z)<;>rw[u]at t
   all_goals
    repeat'(first|refine gE ?_|refine gS (λo=>?_) (λo=>?_)|fail)
    all_goals(rw[rr r c l];unfold tC;rw[u];rfl)
 refine σE ?_
 refine gn la.length (λk=>[(1,bC (bV .O la)),(2,fI a),(6,bS ([I 0,I 0,I 0,I 0])),(11,fN k)]) (λk=>∀(j:Nat)(z:a8),j<k->la[j]? = some z->cg z a=false) ψ λk w=>?_
 obtain⟨w,y⟩:=w;by_cases B:k<la.length
 ·have h:=ar B
  have b:=vg (nth la k) a;cases c:cg (nth la k) a<;>rw[c]at b
  ·refine σE ?_
   (exact dt (k+1) ψ)
  repeat'(first|refine gE ?_|refine CF (yE (nth la k) a c) ?_)
  rw[pL (n:=i) ω l B c y];rfl
 refine σE ?_
 rw[Dr (n:=i) (k:=k) ω l ω y];rfl
theorem np(sp:List aA)(la:List a8)(a:Int)(e:dl sp)(g:du la):zzA 258 false [.val none (bP .O sp),.val none (bV .O la),.vI a] .agg (ll.enc .own (denotes sp la a)):=by
 have y:=e.1;have B:=g.1;refine fO 56 [] Tryz.func258 rfl ?_ (.inr (ll.enc_fr _))
 refine σP ?_
 refine gn sp.length (λi=>[(1,bC (bV .O la)),(2,fI a),(6,bS ([I 0,I 0,I 0,I 0])),(14,bC (bP .O sp)),(15,fI sp.length),(16,fN i)]) (λi=>∀(j:Nat)(z:aA),j<i->sp[j]? = some z->eg z a=false) ψ λi o=>?_
 obtain⟨o,h⟩:=o;by_cases p:i<sp.length
 ·have d:=ar p
  have b:=Kx (nth sp i) a;cases c:eg (nth sp i) a with
  | false=>
   rw[Gt c]at b
   repeat'(first|refine gE ?_|refine gS (λl=>?_) (λl=>?_)|fail)
   (exact dt (i+1) ψ)
  | true=>
   rw[B3 c]at b;obtain⟨C,D,E⟩:=xT c;have q:=jb (nth sp i).a6 ((a - 16*(nth sp i).S) / csz (nth sp i).Z) (gx C).2;cases r:bo (nth sp i).a6 ((a - 16*(nth sp i).S) / csz (nth sp i).Z)<;>rw[r]at q
   all_goals
    repeat'(first|refine gE ?_|refine gS (λl=>?_) (λl=>?_)|fail)
    all_goals(rw[rr p c h];unfold tC;rw[r];rfl)
 refine σE ?_
 refine gn la.length (λk=>[(2,fI a),(6,bS ([I 0,I 0,I 0,I 0])),(39,bC (bV .O la)),(40,fI la.length),(41,fN k)]) (λk=>∀(j:Nat)(z:a8),j<k->la[j]? = some z->cg z a=false) ψ λk t=>?_
 obtain⟨t,u⟩:=t;by_cases w:k<la.length
 ·have d:=ar w
  have b:=v6 (nth la k) a;cases c:cg (nth la k) a<;>rw[c]at b
  ·refine σE ?_
   (exact dt (k+1) ψ)
  repeat'(first|refine gE ?_|refine CF (yi (nth la k) a c) ?_)
  rw[pL (n:=i) ω h w c u];rfl
 refine σE ?_
 rw[Dr (n:=i) (k:=k) ω h ω u];rfl
section
variable{α:Type}
def sB(ag:Option Nat)(e:α->List C)(pr:α->Bool)(xs:List α):List (Option Nat × List C)->Kd->List C->Prop:=λL k rcs=>∃x,x∈xs/\L=[(ag,e x)]/\k=.one/\rcs=[B (pr x)]
end
def Aw(xs:List aC)(pr:aC->Bool)(n:xs.length<=9223372036854775807):zzA 464 false [.val none (bn .O xs),.fn (oI Tryz.prog (sB (some 2) (aC.enc .O) pr xs))] .one [I (cy pr xs)]:=by
 refine fO 19 [] Tryz.func464 rfl ?_
 refine σP ?_
 refine gn xs.length (λi=>[(0,bC (bn .O xs)),(1,.fv (oI Tryz.prog (sB (some 2) (aC.enc .O) pr xs))),(7,fI xs.length),(8,fN i)]) (λi=>∀(j:Nat)(z:aC),j<i->xs[j]? = some z->pr z=false) (λj z h=>ω) λi e=>?_
 obtain⟨e,b⟩:=e;by_cases c:i<xs.length
 ·obtain⟨y,a⟩ : ∃y,xs[i]? = some y:=⟨_,z4 c⟩
  repeat'(first|refine gE ?_|refine Fv.mk (k:=.one) (rcs:=[B (pr y)]) ⟨y,t4 a,rfl,rfl,rfl⟩ ?_|refine Bf.P (λl=>?_) (λl=>?_))
  ·exact gm (dO a ‹_› b).symm
  (conv=>whnf)
  refine CP (i+1) ⟨ω,λj z h d=>?_⟩ ω ?_
  ·rcases Nat.lt_or_ge j i with g|g
   ·exact b j z g d
   obtain rfl:j=i:=ω
   rw[a]at d;cases d;assumption
  exact wB
 refine σE ?_
 exact gm (gd ω b).symm
theorem wg(xs:List aC)(pr:aC->Bool)(a:xs.length<=9223372036854775807):zzA 386 false [.val none (bn .O xs),.fn (oI Tryz.prog (sB (some 2) (aC.enc .O) pr xs))] .one [B (xs.any pr)]:=by
 refine fO 9 [] Tryz.func386 rfl ?_
 repeat'(first|refine gP ?_|refine CF (Aw xs pr a) ?_)
 grind [nG]
def zP(r:aC)(page:Int):zzA 387 false [.val (some 2) (aC.enc .O r),.ptr [I page]] .one [B (Ah page r)]:=by
 refine fO 17 [] Tryz.func387 rfl ?_
 repeat'(first|refine gP ?_|refine gS (λa=>?_) (λa=>?_)|refine CS rfl ?_)
 all_goals exact bx (by unfold Ah;first|(rw[O0 (by assumption:r.At<=page)];simp;done)|(rw[C1 (by assumption:¬r.At<=page)];rfl))
def EI(xs:List aC)(page:Int)(a:xs.length<=9223372036854775807):zzA 249 false [.val none (bn .O xs),.vI page] .one [B (xs.any (Ah page))]:=by
 refine fO 8 [] Tryz.func249 rfl ?_
 repeat'(first|refine gP ?_|refine Cq.mk (sB (some 2) (aC.enc .O) (Ah page) xs) (zP default page).has (λL k rcs b=>?_) ?_|refine CF (wg xs (Ah page) a) ?_)
 ·obtain⟨x,-,rfl,rfl,rfl⟩:=b
  exact zP x page
 rfl
theorem Aq(xs:List aJ)(pr:aJ->Bool)(g:xs.length<=9223372036854775807):zzA 496 false [.val none (bY .O xs),.fn (oI Tryz.prog (sB (some 3) (aJ.enc .O) pr xs))] .one [I (cy pr xs)]:=by
 refine fO 19 [] Tryz.func496 rfl ?_
 refine σP ?_
 refine gn xs.length (λi=>[(0,bC (bY .O xs)),(1,.fv (oI Tryz.prog (sB (some 3) (aJ.enc .O) pr xs))),(7,fI xs.length),(8,fN i)]) (λi=>∀(j:Nat)(z:aJ),j<i->xs[j]? = some z->pr z=false) ψ λi b=>?_
 obtain⟨b,d⟩:=b;by_cases a:i<xs.length
 ·obtain⟨y,c⟩ : ∃y,xs[i]? = some y:=⟨_,z4 a⟩
  repeat'(first|refine gE ?_|refine Fv.mk (k:=.one) (rcs:=[B (pr y)]) ⟨y,t4 c,rfl,rfl,rfl⟩ ?_|refine Bf.P (λe=>?_) (λe=>?_))
  ·grind [dO]
  (conv=>whnf)
  exact dt (i+1) ψ
 refine σE ?_
 exact gm (gd ω d).symm
theorem vW(xs:List aJ)(pr:aJ->Bool)(a:xs.length<=9223372036854775807):zzA 465 false [.val none (bY .O xs),.fn (oI Tryz.prog (sB (some 3) (aJ.enc .O) pr xs))] .one [B (xs.any pr)]:=by
 refine fO 9 [] Tryz.func465 rfl ?_
 repeat'(first|refine gP ?_|refine CF (Aq xs pr a) ?_)
 grind [nG]
theorem Bz(xs:List aA)(pr:aA->Bool)(g:xs.length<=9223372036854775807):zzA 263 false [.val none (bP .O xs),.fn (oI Tryz.prog (sB (some 3) (aA.enc .O) pr xs))] .one [I (cy pr xs)]:=by
 refine fO 19 [] Tryz.func263 rfl ?_
 refine σP ?_
 refine gn xs.length (λi=>[(0,bC (bP .O xs)),(1,.fv (oI Tryz.prog (sB (some 3) (aA.enc .O) pr xs))),(7,fI xs.length),(8,fN i)]) (λi=>∀(j:Nat)(z:aA),j<i->xs[j]? = some z->pr z=false) ψ λi b=>?_
 obtain⟨b,d⟩:=b;by_cases a:i<xs.length
 ·obtain⟨y,c⟩ : ∃y,xs[i]? = some y:=⟨_,z4 a⟩
  repeat'(first|refine gE ?_|refine Fv.mk (k:=.one) (rcs:=[B (pr y)]) ⟨y,t4 c,rfl,rfl,rfl⟩ ?_|refine Bf.P (λe=>?_) (λe=>?_))
  ·grind [dO]
  (conv=>whnf)
  exact dt (i+1) ψ
 refine σE ?_
 exact gm (gd ω d).symm
theorem lJ(xs:List aW)(pr:aW->Bool)(g:xs.length<=9223372036854775807):zzA 37 false [.val none (iU .O xs),.fn (oI Tryz.prog (sB (some 4) (aW.enc .O) pr xs))] .one [I (cy pr xs)]:=by
 refine fO 19 [] Tryz.func37 rfl ?_
 refine σP ?_
 refine gn xs.length (λi=>[(0,bC (iU .O xs)),(1,.fv (oI Tryz.prog (sB (some 4) (aW.enc .O) pr xs))),(7,fI xs.length),(8,fN i)]) (λi=>∀(j:Nat)(z:aW),j<i->xs[j]? = some z->pr z=false) ψ λi b=>?_
 obtain⟨b,d⟩:=b;by_cases a:i<xs.length
 ·obtain⟨y,c⟩ : ∃y,xs[i]? = some y:=⟨_,z4 a⟩
  repeat'(first|refine gE ?_|refine Fv.mk (k:=.one) (rcs:=[B (pr y)]) ⟨y,t4 c,rfl,rfl,rfl⟩ ?_|refine Bf.P (λe=>?_) (λe=>?_))
  ·grind [dO]
  (conv=>whnf)
  exact dt (i+1) ψ
 refine σE ?_
 exact gm (gd ω d).symm
theorem ye(xs:List aW)(pr:aW->Bool)(a:xs.length<=9223372036854775807):zzA 256 false [.val none (iU .O xs),.fn (oI Tryz.prog (sB (some 4) (aW.enc .O) pr xs))] .one [B (xs.any pr)]:=by
 refine fO 9 [] Tryz.func256 rfl ?_
 repeat'(first|refine gP ?_|refine CF (lJ xs pr a) ?_)
 grind [nG]
def Xd(a:k<=3):IntKind.i64.wrap (1*2 ^ min ((k:Nat):Int).toNat IntKind.i64.bits)=csz (k:Nat):=by
 obtain rfl|rfl|rfl|rfl:k=0\/k=1\/k=2\/k=3:=ω
 all_goals decide
theorem VX(a:k<=100):IntKind.u64.wrap (k:Nat)=(k:Nat):=by grind [Go.IntKind.wrap,Go.IntKind.bits]
theorem HR(a:k<=3)(h:csz (k:Nat)<z)(b:z<=8):k<=2:=by
 have c:csz ((3:Nat):Int)=8:=by decide
 grind
theorem DO(a:k<=3)(h1:1<=z)(h2:k=0\/csz ((k - 1:Nat):Int)<z)(b:¬csz (k:Nat)<z):aU z=(k:Nat):=by
 have c:csz ((0:Nat):Int)=1:=by decide
 have d:csz ((1:Nat):Int)=2:=by decide
 have e:csz ((2:Nat):Int)=4:=by decide
 have f:csz ((3:Nat):Int)=8:=by decide
 unfold aU;obtain rfl|rfl|rfl|rfl:k=0\/k=1\/k=2\/k=3:=ω
 all_goals grind
def nt(z:Int):zzA 200 false [.vI z] .one [I (aU z)]:=by
 refine fO 15 [] Tryz.func200 rfl ?_;by_cases c:1<=z/\z<=8
 ·repeat'(first|refine gE ?_|refine gS (λb=>?_) (λb=>?_)|refine CF (aP z 1 8) ?_)
  refine oA (λk:Nat=>[(0,fI z),(3,fN k)]) (λk=>k<=3/\(k=0\/csz ((k - 1:Nat):Int)<z)) (λk=>4 - k) (0) ω λk a=>?_
  obtain⟨a,h2⟩:=a
  repeat'(first|refine gP ?_|refine gS (λb=>?_) (λb=>?_)|refine CS (VX ω) ?_|refine CS (Xd a) ?_|refine CT ω ?_)
  all_goals first
   | exact gm (DO a c.1 h2 (by assumption)).symm
   | ((conv=>whnf);exact dt (k+1) ⟨by have:=HR a (by assumption) c.2;omega,.inr (by simpa using (by assumption:csz (k:Nat)<z))⟩ (h2:=(by have:=HR a (by assumption) c.2;omega)))
 repeat'(first|refine gE ?_|refine gS (λb=>?_) (λb=>?_)|refine CF (aP z 1 8) ?_)
 all_goals exact gm (by unfold aU;(repeat' split)<;>omega)
def nh(z:Int):zzA 119 false [.vI z] .one [I (aU z)]:=by
 refine fO 14 [] Tryz.func119 rfl ?_;by_cases c:1<=z/\z<=8
 ·repeat'(first|refine gE ?_|refine gS (λa=>?_) (λa=>?_)|refine CF (aG z 1 8) ?_)
  refine oA (λk:Nat=>[(0,fI z),(3,fN k)]) (λk=>k<=3/\(k=0\/csz ((k - 1:Nat):Int)<z)) (λk=>4 - k) (0) ω λk b=>?_
  obtain⟨b,h2⟩:=b
  repeat'(first|refine gP ?_|refine gS (λa=>?_) (λa=>?_)|refine CF (dB _) ?_)
  all_goals first
   | exact gm (DO b c.1 h2 (by assumption)).symm
   | ((conv=>whnf);exact dt (k+1) ⟨by have:=HR b (by assumption) c.2;omega,.inr (by simpa using (by assumption:csz (k:Nat)<z))⟩ (h2:=(by have:=HR b (by assumption) c.2;omega)))
 repeat'(first|refine gE ?_|refine gS (λa=>?_) (λa=>?_)|refine CF (aG z 1 8) ?_)
 all_goals exact gm (by unfold aU;(repeat' split)<;>omega)
theorem xV(q:bh)(a:Int)(d:bh.sml q):zzA 196 false [.val (some 2) (bh.enc .O q),.vI a] .one [B (q.q.any (fS a))]:=by
 have j:q.q.length<=1048576:=d.1;refine fO 21 [] Tryz.func196 rfl ?_
 refine σP ?_
 refine gn q.q.length (λi=>[(1,fI a),(2,bS (bh.enc .O q)),(5,fN i)]) (λi=>(q.q.take i).any (fS a)=false) ψ λi c=>?_
 obtain⟨c,e⟩:=c;by_cases g:i<q.q.length
 ·have b:=ar g
  repeat'(first|refine gE ?_|refine gS (λh=>?_) (λh=>?_)|fail)
  all_goals first
   | exact bx ((HG b (O0 (by assumption))).symm)
   | ((conv=>whnf);exact dt (i+1) ⟨ω,Bl b e (C1 (by assumption))⟩)
 refine σE ?_
 exact bx ψ
def kq(xs:List aJ)(i:Nat):quarCells xs (i+1)=quarCells xs i+csz (nth xs i).Z:=rfl
theorem Vg(k:Int):0<=csz k/\csz k<=8:=by grind [dm,csz]
theorem zv(xs:List aJ)(c:iP xs):zzA 197 false [.val none (bY .O xs)] .one [I (quarCells xs xs.length)]:=by
 have g:=c.1;refine fO 20 [] Tryz.func197 rfl ?_
 refine σP ?_
 refine gn xs.length (λi=>[(0,bC (bY .O xs)),(3,fI (quarCells xs i)),(4,fN i)]) (λi=>0<=quarCells xs i/\quarCells xs i<=8*i) ⟨by simp[quarCells],by simp[quarCells]⟩ λi b=>?_
 obtain⟨b,h,j⟩:=b;by_cases d:i<xs.length
 ·have e:=ar d
  have k:=Vg (nth xs i).Z;have a:=kq xs i
  repeat'(first|refine gE ?_|refine CF (eY _) ?_)
  (refine CP (i+1) ω ω ?_)
  rw[a];exact wB
 refine σE ?_
 grind
theorem tF(xs:List aJ)(c:iP xs):zzA 253 false [.val none (bY .O xs)] .one [I (quarCells xs xs.length)]:=by
 have g:=c.1;refine fO 19 [] Tryz.func253 rfl ?_
 refine σP ?_
 refine gn xs.length (λi=>[(3,fI (quarCells xs i)),(6,bC (bY .O xs)),(7,fI xs.length),(8,fN i)]) (λi=>0<=quarCells xs i/\quarCells xs i<=8*i) ⟨by simp[quarCells],by simp[quarCells]⟩ λi b=>?_
 obtain⟨b,h,j⟩:=b;by_cases d:i<xs.length
 ·have e:=ar d
  have k:=Vg (nth xs i).Z;have a:=kq xs i
  repeat'(first|refine gE ?_|refine CF (dB _) ?_)
  (refine CP (i+1) ω ω ?_)
  rw[a];exact wB
 refine σE ?_
 grind
def G2(a:aJ):zzA 195 false [.val (some 3) (aJ.enc .O a)] .one [B (decide (0<=a.Z/\a.Z<=3/\0<=a.Addr/\0<=a.b7))]:=by
 refine fO 16 [] Tryz.func195 rfl ?_
 repeat'(first|refine gP ?_|refine gS (λb=>?_) (λb=>?_)|refine CF (aP _ 0 3) ?_)
 all_goals exact bx ((by first|(symm;exact C1 ω)|exact decide_eq_decide.2 ω))
variable{xs:List aJ}
theorem Vu(a:iP xs)(i:Nat):iP (xs.take i):=⟨by have:=a.1;grind,λ_ _=>tV1⟩
def sI(q:bh)(a:bh.sml q):zzA 77 false [.val (some 2) (bh.enc .O q)] .one [B (hB q)]:=by
 have l:q.q.length<=1048576:=a.1;refine fO 57 [(5,29,[17,18,19,20,21,22,23,24,25,26,27,28,29,30,31,32,33,34,35,36,37,38,39,40,41,42,43,44,45]),(7,11,[46,47,48,49,50,51,52,53,54,55,56])] Tryz.func77 rfl ?_
 refine σP ?_
 refine gn q.q.length (λi=>[(1,bS (bh.enc .O q)),(3,fN i)]) (λi=>d9 i (nu q.q)=true) rfl λi e=>?_
 obtain⟨e,g⟩:=e;by_cases b:i<q.q.length
 ·have j:=ar b
  have h:=xV ⟨0,q.q.take i⟩ (nth q.q i).Addr (Vu a i);cases c:(q.q.take i).any (fS (nth q.q i).Addr)<;>rw[show(bh.mk 0 (q.q.take i)).q.any (fS (nth q.q i).Addr)=_ from c]at h
  all_goals
   repeat'(first|refine gE ?_|refine gS (λd=>?_) (λd=>?_)|refine CF (G2 _) ?_|refine CQ ω (aa (i9 ω b)) ?_|refine CZ i rfl kd (λr k=>by obtain⟨z,-,rfl⟩:=O8.1 k;rfl) (C8 ..) ?_)
   all_goals first
    | exact bx ((by symm;unfold hB;rw[cI b (by unfold nu;first|(rw[c];simp;done)|(rw[C1 ω];rfl))];rfl))
    | ((conv=>whnf);exact dt (i+1) ⟨ω,cm g (by unfold nu;rw[c,O0 ω];rfl)⟩)
 obtain rfl:i=q.q.length:=ω
 repeat'(first|refine gE ?_|refine gS (λd=>?_) (λd=>?_)|refine CF (aP _ 0 500) ?_|refine CF (zv q.q a) ?_)
 all_goals exact bx ((by unfold hB;rw[g];simp only[Bool.true_and];first|(symm;exact C1 ω)|exact decide_eq_decide.2 ω))
theorem zT(b:aJ)(a:Int):zzA 466 false [.val (some 3) (aJ.enc .O b),.ptr [I a]] .one [B (fS a b)]:=by
 refine fO 8 [] Tryz.func466 rfl ?_
 refine σP ?_
 grind [fS]
def Fb(xs:List aJ)(a:Int)(b:xs.length<=9223372036854775807):zzA 388 false [.val none (bY .O xs),.vI a] .one [B (xs.any (fS a))]:=by
 refine fO 8 [] Tryz.func388 rfl ?_
 repeat'(first|refine gP ?_|refine Cq.mk (sB (some 3) (aJ.enc .O) (fS a) xs) (zT default a).has (λL k rcs c=>?_) ?_|refine CF (vW xs (fS a) b) ?_)
 ·obtain⟨y,-,rfl,rfl,rfl⟩:=c
  exact zT y a
 rfl
def pc(xs:List aJ)(a:aJ):Bool:=decide (0<=a.Z/\a.Z<=3/\0<=a.Addr/\0<=a.b7/\(xs.length=0\/(nth xs (xs.length - 1)).b7<=a.b7))&&!xs.any (fS a.Addr)
theorem xo(xs:List aJ)(b:aJ)(g:xs.length<=1048576):zzA 252 false [.val none (bY .O xs),.val (some 3) (aJ.enc .O b)] .one [B (pc xs b)]:=by
 have c:=Fb xs b.Addr ω;cases d:xs.any (fS b.Addr)<;>rw[d]at c
 ·by_cases h:xs.length=0
  ·refine fO 40 [(3,15,[25,26,27,28,29,30,31,32,33,34,35,36,37,38,39])] Tryz.func252 rfl ?_
   repeat'(first|refine gP ?_|refine gS (λa=>?_) (λa=>?_)|refine CF (gL _) ?_)
   all_goals first
    | exact bx ((by unfold pc;rw[d,Bool.not_false,Bool.and_true];first|(symm;exact C1 ω)|(symm;exact O0 ω)|exact decide_eq_decide.2 ω))
    |(exfalso;omega)
    |trace_state
  have e:xs[((xs.length:Int) - 1).toNat]? = some (nth xs (xs.length - 1)):=by rw[show((xs.length:Int) - 1).toNat=xs.length - 1 by omega];grind [ar]
  refine fO 40 [(3,15,[25,26,27,28,29,30,31,32,33,34,35,36,37,38,39])] Tryz.func252 rfl ?_
  repeat'(first|refine gP ?_|refine gS (λa=>?_) (λa=>?_)|refine CF (gL _) ?_|refine CQ ω (aa e) ?_)
  all_goals first
   | exact bx ((by unfold pc;rw[d,Bool.not_false,Bool.and_true];first|(symm;exact C1 ω)|(symm;exact O0 ω)|exact decide_eq_decide.2 ω))
   |(exfalso;omega)
   |trace_state
 refine fO 40 [(3,15,[25,26,27,28,29,30,31,32,33,34,35,36,37,38,39])] Tryz.func252 rfl ?_
 repeat'(first|refine gP ?_|refine gS (λa=>?_) (λa=>?_)|refine CF (gL _) ?_)
 all_goals exact bx ((by unfold pc;rw[d];simp))
theorem NC(d:i<xs.length):pc (xs.take i) (nth xs i)=nu xs i:=by
 unfold pc nu;have a:(xs.take i).length=i:=ψ
 rw[a]
 congr 1
 refine decide_eq_decide.2 ?_;by_cases b:i=0
 ·subst b;simp
 have c:nth (xs.take i) (i - 1)=nth xs (i - 1):=by
  have:=ar (xs:=xs) (i:=i - 1) ω
  grind [bB]
 rw[c]
theorem t7(q:bh)(d:bh.sml q):zzA 111 false [.val (some 2) (bh.enc .O q)] .one [B (hB q)]:=by
 have l:q.q.length<=1048576:=d.1;refine fO 32 [(4,7,[13,14,15,16,17,18,19]),(7,11,[21,22,23,24,25,26,27,28,29,30,31])] Tryz.func111 rfl ?_
 refine σP ?_
 refine gn q.q.length (λi=>[(1,bS (bh.enc .O q)),(6,bC (bY .O q.q)),(7,fI q.q.length),(8,fN i)]) (λi=>d9 i (nu q.q)=true) rfl λi e=>?_
 obtain⟨e,g⟩:=e;by_cases a:i<q.q.length
 ·have h:=ar a
  have b:=xo (q.q.take i) (nth q.q i) ψ;rw[NC a]at b;cases c:nu q.q i<;>rw[c]at b
  all_goals
   repeat'(first|refine gE ?_|refine CZ i rfl kd (λr j=>by obtain⟨z,-,rfl⟩:=O8.1 j;rfl) (C8 ..) ?_)
   all_goals first
    | exact bx ((by symm;unfold hB;rw[cI a c];rfl))
    | ((conv=>whnf);exact dt (i+1) ⟨ω,cm g c⟩)
 obtain rfl:i=q.q.length:=ω
 repeat'(first|refine gE ?_|refine gS (λk=>?_) (λk=>?_)|refine CF (aG _ 0 500) ?_|refine CF (tF q.q d) ?_)
 all_goals exact bx ((by unfold hB;rw[g];simp only[Bool.true_and];first|(symm;exact C1 ω)|exact decide_eq_decide.2 ω))
def Ak(h:ac):Prop:=aM.sml h.G.F.Q
def jH(h:ac)(p:Int)(a:Ak h):zzA 192 false [.val (some 24) (ac.enc .O h),.vI p] .one (aE .own (aZ h p)):=by
 refine fO 23 [] Tryz.func192 rfl ?_ (.inr (bH _))
 repeat'((conv=>whnf);first|with_reducible (first|refine Lm ?_|refine Wm ω ?_|refine Bf.E (λb=>?_) (λb=>?_)|refine Bn ?_|refine km.wk rfl ?_)|refine Bt ?_|refine Bu ?_|refine CF (dC h.G.F.Q p a) ?_|refine CF (jj h.G.F.Q _ a) ?_)
 all_goals(unfold aZ;first|rw[CJ (by assumption)]|rw[CI (by assumption)])
 all_goals exact⟨rfl,tV1⟩
def mr(h:ac)(p:Int)(a:Ak h):zzA 247 false [.val (some 24) (ac.enc .O h),.vI p] .one (aE .own (aZ h p)):=by
 refine fO 22 [] Tryz.func247 rfl ?_ (.inr (bH _))
 repeat'((conv=>whnf);first|with_reducible (first|refine Lm ?_|refine Wm ω ?_|refine Bf.E (λb=>?_) (λb=>?_)|refine Bn ?_|refine km.wk rfl ?_)|refine Bt ?_|refine Bu ?_|refine CF (de h.G.F.Q p a) ?_|refine CF (ny h.G.F.Q _ a) ?_)
 all_goals(unfold aZ;first|rw[CJ (by assumption)]|rw[CI (by assumption)])
 all_goals exact⟨rfl,tV1⟩
theorem fY(k:af)(p:Int)(a:aM.sml k.F.Q):zzA 248 false [.val (some 5) (af.enc .O k),.vI p] .one [B (decide ((ay k.F.Q p).o≠0))]:=by
 refine fO 12 [] Tryz.func248 rfl ?_
 repeat'(first|refine gP ?_|refine CF (de k.F.Q p a) ?_)
 grind
def ui(z:Int):zzA 115 false [.vI z] .one [B (decide (0<=z/\z<=1073741823))]:=by
 refine fO 5 [] Tryz.func115 rfl ?_
 repeat'(first|refine gP ?_|refine CF (aG z 0 1073741823) ?_)
 rfl
theorem lO(h:ac)(p:Int)(g:h.J.length<=1048576):zzA 84 false [.val (some 24) (ac.enc .O h),.vI p] .one [I (iX h p)]:=by
 refine fO 22 [] Tryz.func84 rfl ?_
 refine σP ?_
 refine gn h.J.length (λi=>[(1,fI p),(2,bS (ac.enc .O h)),(5,fN i)]) (λi=>∀(j:Nat)(z:aA),j<i->h.J[j]? = some z->pD p z=false) ψ λi c=>?_
 obtain⟨c,a⟩:=c;by_cases d:i<h.J.length
 ·have b:=ar d
  repeat'(first|refine gE ?_|refine gS (λe=>?_) (λe=>?_)|fail)
  all_goals first
   | exact gm (dO b (O0 (by assumption)) a).symm
   | ((conv=>whnf);exact dt (i+1) ⟨ω,fH b (C1 (by assumption)) a⟩)
 refine σE ?_
 exact gm (gd ω a).symm
theorem G1(s:aA)(p:Int):zzA 264 false [.val (some 3) (aA.enc .O s),.ptr [I p]] .one [B (pD p s)]:=by
 refine fO 8 [] Tryz.func264 rfl ?_
 refine σP ?_
 grind [pD]
def zh(h:ac)(p:Int)(b:h.J.length<=1048576):zzA 117 false [.val (some 24) (ac.enc .O h),.vI p] .one [I (iX h p)]:=by
 refine fO 9 [] Tryz.func117 rfl ?_
 repeat'(first|refine gP ?_|refine Cq.mk (sB (some 3) (aA.enc .O) (pD p) h.J) (G1 default p).has (λL k rcs a=>?_) ?_|refine CF (Bz h.J (pD p) ω) ?_)
 ·obtain⟨y,-,rfl,rfl,rfl⟩:=a
  exact G1 y p
 rfl
def flight1(m:aI)(i:Nat):List Int:=(m.T.take i).flatMap λl=>l.map (·.Addr)
def flight2(m:aI)(i:Nat):List Int:=(m.g.take i).flatten
theorem rM{l:List aX}(h:m.T[i]? = some l):flight1 m (i+1)=flight1 m i++l.map (·.Addr):=by grind [OA,flight1]
theorem rQ(h:m.g[i]? = some l):flight2 m (i+1)=flight2 m i++l:=by grind [OA,flight2]
theorem sS(h:bG m=true):aY m=flight1 m m.T.length++flight2 m m.g.length:=by grind [aY,flight1,flight2]
theorem yZ(h:bG m=false):aY m=[]:=by grind [aY]
theorem xf(h:bG m=true):1<=m.T.length/\m.T.length<=4/\m.g.length=m.T.length:=by grind [bG]
def MH : ∀r∈l.map (rI .O),r.length=1:=by
 intro r a;obtain⟨z,-,rfl⟩:=O8.1 a;rfl
def Qi : ∀r∈l.map (rI .O),bu r=true:=by
 intro r a;obtain⟨z,-,rfl⟩:=O8.1 a;rfl
theorem EZ(m:aI)(g:aI.sml m):zzA 202 false [.val (some 2) (aI.enc .O m)] .one (aE .own (aY m)):=by
 have h:=pf m g;cases d:bG m<;>rw[d]at h
 ·refine fO 56 [] Tryz.func202 rfl ?_ (.inr (bH _))
  repeat'((conv=>whnf);first|with_reducible (first|refine Lm ?_|refine Wm ω ?_|refine Bn ?_|refine km.wk rfl ?_)|refine Bt ?_|refine Bu ?_|refine CF h ?_)
  all_goals(rw[yZ d];exact⟨rfl,tV1⟩)
 obtain⟨C,D,E⟩:=xf d;refine fO 56 [] Tryz.func202 rfl ?_ (.inr (bH _))
 refine σP ?_
 refine oA (ι:=Nat × List Int) (λi=>[(1,bS (aI.enc .O m)),(3,bC (aE .own i.2)),(4,fN (i.1))]) (λi=>i.1<=m.T.length/\i.2=flight1 m i.1/\i.2.length<=1048576*i.1) (λi=>m.T.length - i.1) ((0,[])) (⟨I1 _,rfl,I1 _⟩) λi j=>?_
 obtain⟨i,S⟩:=i;obtain⟨j,p,t⟩:=j;simp only at j p t |-;by_cases q:i<m.T.length
 ·have l:=ar q
  have u:(nth m.T i).length<=1048576:=(g.1.2 _ (ax q)).1
  refine σE ?_
  refine oA (ι:=Nat × List Int) (λk=>[(1,bS (aI.enc .O m)),(3,bC (aE .own k.2)),(4,fN i),(5,fN (k.1))]) (λk=>k.1<=(nth m.T i).length/\k.2=S++((nth m.T i).take k.1).map (·.Addr)) (λk=>(nth m.T i).length - k.1) ((0,S)) ψ λk b=>?_
  obtain⟨k,c⟩:=k;obtain⟨b,a⟩:=b;simp only at b a |-;have w:c.length=S.length+k:=ψ
  by_cases e:k<(nth m.T i).length
  ·have n:=ar e
   repeat'(first|refine gE ?_|refine Cb cN (λr y=>by rw[z3.1 y];rfl) (by simp[bu,f6]) kd (by show _*8<=_;simp;omega) rfl ?_)
   ((conv=>whnf)
    refine CP (k+1,c++[(nth (nth m.T i) k).Addr]) ⟨(by simp only;omega),(by grind [OA])⟩ (by simp only;omega) ?_
    (exact wD))
  obtain rfl:k=(nth m.T i).length:=ω
  rw[O9]at a
  refine σE ?_
  (exact dt (i+1,c) ⟨(by simp only;omega),(by grind [rM]),(by simp only;omega)⟩)
 obtain rfl:i=m.T.length:=ω
 refine σE ?_
 refine oA (ι:=Nat × List Int) (λk=>[(1,bS (aI.enc .O m)),(3,bC (aE .own k.2)),(6,fN (k.1))]) (λk=>k.1<=m.g.length/\k.2=S++flight2 m k.1/\k.2.length<=S.length+1048576*k.1) (λk=>m.g.length - k.1) ((0,S)) (⟨I1 _,by simp[flight2],by simp⟩) λk b=>?_
 obtain⟨k,c⟩:=k;obtain⟨b,a,o⟩:=b;simp only at b a o |-;by_cases e:k<m.g.length
 ·have n:=ar e
  have B:(nth m.g k).length<=1048576:=g.2.2 _ (ax e)
  repeat'(first|refine gE ?_|refine Cb cN MH (λ_=>Qi) kd (by show _*8<=_;simp;omega) rfl ?_)
  ((conv=>whnf)
   refine CP (k+1,c++nth m.g k) ⟨(by simp only;omega),(by grind [rQ]),ψ⟩ (by simp only;omega) ?_
   (exact wD))
 obtain rfl:k=m.g.length:=ω
 refine σE ?_
 rw[sS d,<-p,<-a];rfl
theorem Fh(m:aI)(g:aI.sml m):zzA 260 false [.val (some 2) (aI.enc .O m)] .one (aE .own (aY m)):=by
 have h:=pb m g;cases d:bG m<;>rw[d]at h
 ·refine fO 46 [] Tryz.func260 rfl ?_ (.inr (bH _))
  repeat'((conv=>whnf);first|with_reducible (first|refine Lm ?_|refine Wm ω ?_|refine Bn ?_|refine km.wk rfl ?_)|refine Bt ?_|refine Bu ?_|refine CF h ?_)
  all_goals(rw[yZ d];exact⟨rfl,tV1⟩)
 obtain⟨C,D,E⟩:=xf d;refine fO 46 [] Tryz.func260 rfl ?_ (.inr (bH _))
 refine σP ?_
 refine oA (ι:=Nat × List Int) (λi=>[(1,bS (aI.enc .O m)),(3,bC (aE .own i.2)),(15,bC (iR .O m.T)),(16,fI m.T.length),(17,fN (i.1))]) (λi=>i.1<=m.T.length/\i.2=flight1 m i.1/\i.2.length<=1048576*i.1) (λi=>m.T.length - i.1) ((0,[])) (⟨I1 _,rfl,I1 _⟩) λi j=>?_
 obtain⟨i,S⟩:=i;obtain⟨j,o,q⟩:=j;simp only at j o q |-;by_cases p:i<m.T.length
 ·have t:=ar p
  have u:(nth m.T i).length<=1048576:=(g.1.2 _ (ax p)).1
  refine σE ?_
  refine oA (ι:=Nat × List Int) (λk=>[(1,bS (aI.enc .O m)),(3,bC (aE .own k.2)),(15,bC (iR .O m.T)),(16,fI m.T.length),(17,fN i),(21,bC (bg .O (nth m.T i))),(22,fI ((nth m.T i).length)),(23,fN (k.1))]) (λk=>k.1<=(nth m.T i).length/\k.2=S++((nth m.T i).take k.1).map (·.Addr)) (λk=>(nth m.T i).length - k.1) ((0,S)) ψ λk b=>?_
  obtain⟨k,c⟩:=k;obtain⟨b,a⟩:=b;simp only at b a |-;have w:c.length=S.length+k:=ψ
  by_cases e:k<(nth m.T i).length
  ·have l:=ar e
   repeat'(first|refine gE ?_|refine Cb cN (λr y=>by rw[z3.1 y];rfl) (by simp[bu,f6]) kd (by show _*8<=_;simp;omega) rfl ?_)
   ((conv=>whnf)
    refine CP (k+1,c++[(nth (nth m.T i) k).Addr]) ⟨(by simp only;omega),(by grind [OA])⟩ (by simp only;omega) ?_
    (exact wD))
  obtain rfl:k=(nth m.T i).length:=ω
  rw[O9]at a
  refine σE ?_
  (exact dt (i+1,c) ⟨(by simp only;omega),(by grind [rM]),(by simp only;omega)⟩)
 obtain rfl:i=m.T.length:=ω
 refine σE ?_
 refine oA (ι:=Nat × List Int) (λk=>[(3,bC (aE .own k.2)),(35,bC (g9 .O m.g)),(36,fI m.g.length),(37,fN (k.1))]) (λk=>k.1<=m.g.length/\k.2=S++flight2 m k.1/\k.2.length<=S.length+1048576*k.1) (λk=>m.g.length - k.1) ((0,S)) (⟨I1 _,by simp[flight2],by simp⟩) λk b=>?_
 obtain⟨k,c⟩:=k;obtain⟨b,a,n⟩:=b;simp only at b a n |-;by_cases e:k<m.g.length
 ·have l:=ar e
  have B:(nth m.g k).length<=1048576:=g.2.2 _ (ax e)
  repeat'(first|refine gE ?_|refine Cb cN MH (λ_=>Qi) kd (by show _*8<=_;simp;omega) rfl ?_)
  ((conv=>whnf)
   refine CP (k+1,c++nth m.g k) ⟨(by simp only;omega),(by grind [rQ]),ψ⟩ (by simp only;omega) ?_
   (exact wD))
 obtain rfl:k=m.g.length:=ω
 refine σE ?_
 rw[sS d,<-o,<-a];rfl
def tbl(h:ac):aM:=h.G.F.Q
def fT(h:ac):Nat:=h.G.F.Q.M.length
def DY(xs:List aA)(i:Nat):Bool:=decide (i=0\/(nth xs (i - 1)).S<(nth xs i).S)
def Do(xs:List a8)(i:Nat):Bool:=decide (i=0\/(nth xs (i - 1)).S<(nth xs i).S)
def E7(h:ac)(l:a8)(k:Nat):Bool:=decide ((aZ h (l.S+(k:Nat))).length=1)
def wZ(h:ac)(i:Nat):Bool:=Do h.H i&&d9 (nth h.H i).a0.toNat (E7 h (nth h.H i))
def Aa(h:ac)(p:Nat):Bool:=decide ((nth (tbl h).M p).o≠0↔(p:Int)∈pgs h.J h.H)&&(decide ((nth (tbl h).M p).o≠0) != h.b.any (Ah (p:Nat)))
def pages0(h:ac):Bool:=((d9 h.J.length (DY h.J)&&d9 h.H.length (wZ h))&&(pgs h.J h.H).all λp=>decide (p<fT h))&&d9 (fT h) (Aa h)
def pP(h:ac)(i:Nat)(q:Int):Bool:=decide (iX h q=(i:Nat)) || (decide (0<=iX h q)&&meshable (nth h.J i) (nth h.J (iX h q).toNat))
def z7(h:ac):Bool:=d9 h.J.length λi=>(aZ h (nth h.J i).S).all (pP h i)
def pm(h:ac)(i j:Nat):Bool:=decide ((ay (tbl h) (nth h.J i).S).j≠(ay (tbl h) (nth h.J j).S).j) || meshable (nth h.J i) (nth h.J j)
def tM(h:ac):Bool:=d9 h.J.length λi=>d9 i (pm h i)
def jr(z:Int)(o:aW):Bool:=decide (o.Id=z)
def nr(h:ac)(o:aW):Bool:=
 let w:=denotes h.J h.H o.Addr
 decide (w.c8=0)&&((decide (w.b3=1)&&decide ((nth h.J w.c7.toNat).Z=aU o.y)) || (decide (w.b3=3)&&decide ((nth h.H w.c7.toNat).y=o.y)))
def jF(a:Int)(h:ac)(i:Nat):Bool:=decide ((i=0\/(nth h.K (i - 1)).Addr<(nth h.K i).Addr)/\1<=(nth h.K i).Id/\(nth h.K i).Id<=a/\0<=(nth h.K i).w/\(nth h.K i).w<=h.R.length - 1)
def objAt(a:Int)(h:ac)(i:Nat):Bool:=(jF a h i&&!(h.K.take i).any (jr (nth h.K i).Id))&&nr h (nth h.K i)
def iC(h:ac):Bool:=d9 h.K.length (objAt (IntKind.i64.wrap (h.k - 1)) h)
def dR(h:ac)(a c:Int):Bool:=
 let w:=denotes h.J h.H a
 (decide (w.b3=1)&&decide (w.c8=0))&&(decide (c<0) || decide ((nth h.J w.c7.toNat).Z=c))
def wJ(h:ac)(c:aB)(k:Nat):Bool:=(nth c.W k).all λa=>dR h a (k:Nat)
def gq(h:ac)(c:aB):Bool:=d9 c.W.length (wJ h c)
def jx(h:ac)(x:aJ):Bool:=dR h x.Addr x.Z
def nl(h:ac)(a:Int):Bool:=dR h a (-1)
def cM(h:ac):List Int:=h.R.flatMap λc=>c.W.flatten
def lK(h:ac):Bool:=((h.R.all (gq h))&&h.a1.q.all (jx h))&&(aY h.e).all (nl h)
def holders(h:ac):List Int:=((h.K.map (·.Addr)++cM h)++h.a1.q.map (·.Addr))++aY h.e
def m8(sp:List aA)(la:List a8)(a:Nat):Bool:=
 let w:=denotes sp la (a:Nat)
 decide (w.c8=0)&&(decide (w.b3=1) || decide (w.b3=3))
def pd(sp:List aA)(la:List a8)(n:Nat):List Int:=((List.range n).filter (m8 sp la)).map λ(i:Nat)=>(i:Int)
def ne(sp:List aA)(la:List a8):List Int:=pd sp la 512
def lR(h:ac):Bool:=(lK h&&decide (holders h).Nodup)&&decide ((holders h).length=(ne h.J h.H).length)
def oW(h:ac):Bool:=h.a1.q.all λx=>decide (x.b7<=h.b1)
def cv(h:ac):Bool:=decide (0<=h.c1/\h.c1<=1073741823/\0<=h.b1/\h.b1<=1000000/\0<=h.c2/\h.c2<=1000/\1<=h.k/\h.k<=1000000)
def xW(h:ac):Bool:=if h.a2 then(kN h.a5&&decide (0<=iX h h.a5.d.b0))&&decide (0<=iX h h.a5.d.b2) else xL h.a5
def pK(h:ac):Bool:=((aH h.G&&bN (fT h) h.b)&&bD h.J h.H)&&pages0 h
set_option maxHeartbeats 8000000
theorem gf(h:bD sp la=true):sp.all bq=true/\la.all cq=true/\(pgs sp la).Nodup:=by grind [bD]
def Xf[Inhabited α]{xs:List α}{p:α->Bool}(h:xs.all p=true)(a:i<xs.length):p (nth xs i)=true:=O7.1 h _ (ax a)
variable{h:ac}
theorem Mj(h1:d9 h.J.length (DY h.J)=false):pages0 h=false:=by grind [pages0]
theorem x8(h1:d9 h.H.length (wZ h)=false):pages0 h=false:=by grind [pages0]
theorem Kp{p:Int}(h1:p∈pgs h.J h.H)(h2:¬p<fT h):pages0 h=false:=by grind [pages0]
theorem LA(h1:d9 (fT h) (Aa h)=false):pages0 h=false:=by grind [pages0]
theorem BB(h1:d9 h.J.length (DY h.J)=true)(h2:d9 h.H.length (wZ h)=true)(a:∀p∈pgs h.J h.H,p<fT h)(b:d9 (fT h) (Aa h)=true):pages0 h=true:=by grind [pages0]
theorem TF(h1:Do h.H i=false):wZ h i=false:=by grind [wZ]
theorem UK(a:k<(nth h.H i).a0.toNat)(h1:E7 h (nth h.H i) k=false):wZ h i=false:=by grind [cI,wZ]
theorem LO(h1:Do h.H i=true)(h2:d9 (nth h.H i).a0.toNat (E7 h (nth h.H i))=true):wZ h i=true:=by grind [wZ]
def gJ(h:ac)(p:Int):(aZ h p).length<=fT h:=by
 unfold aZ;split
 ·simp
 exact vY ..
theorem yJ(h:bD sp la=true){l:a8}(a:la[i]? = some l):1<=l.a0/\l.a0<=63/\0<=l.S/\l.S<=31:=
 bf (O7.1 (gf h).2.1 l ψ)
theorem Lb(h:ac)(y:dl h.J)(C:du h.H)(g:Ak h)(D:f9 h.b)(l:bD h.J h.H=true):zzA 74 false [.val (some 24) (ac.enc .O h)] .one [B (pages0 h)]:=by
 have V:=y.1;have W:=C.1;have X:fT h<=1048576:=g.1;have Y:=D.1;refine fO 144 [(7,18,[28,29,30,31,32,33,34,35,36,37,38,39,40,41,42,43,44,45]),(13,18,[62,63,64,65,66,67,68,69,70,71,72,73,74,75,76,77,78,79])] Tryz.func74 rfl ?_
 refine σP ?_
 refine oA (ι:=Nat × List Int) (λi=>[(1,bS (ac.enc .O h)),(3,bS (aM.enc .O (tbl h))),(4,fI (fT h)),(5,bC (aE .own i.2)),(6,fN (i.1))]) (λi=>i.1<=h.J.length/\i.2=(h.J.take i.1).map (·.S)/\d9 i.1 (DY h.J)=true) (λi=>h.J.length - i.1) ((0,[])) (⟨I1 _,rfl,rfl⟩) λi E=>?_
 obtain⟨i,S⟩:=i;obtain⟨E,F,G⟩:=E;simp only at E F G |-;have Z:S.length=i:=ψ
 by_cases H:i<h.J.length
 ·have b:=ar H
  repeat'(first|refine gE ?_|refine gS (λa=>?_) (λa=>?_)|refine CQ ω (aa (i9 ω H)) ?_|refine Cb cN (λr n=>by rw[z3.1 n];rfl) (by simp[bu,f6]) kd (by simp only[I2];exact zc kd qs) rfl ?_)
  all_goals first
   | exact bx ((Mj (cI H (C1 ω))).symm)
   | ((conv=>whnf)
      refine CP (i+1,S++[(nth h.J i).S]) ⟨(by simp only;omega),(by simp only;rw[F,OA,b];simp),cm G (O0 ω)⟩ (by simp only;omega) ?_
      (exact wD))
 obtain rfl:i=h.J.length:=ω
 rw[O9]at F
 refine σE ?_
 refine oA (ι:=Nat × List Int) (λk=>[(1,bS (ac.enc .O h)),(3,bS (aM.enc .O (tbl h))),(4,fI (fT h)),(5,bC (aE .own k.2)),(7,fN (k.1))]) (λk=>k.1<=h.H.length/\k.2=pgs h.J (h.H.take k.1)/\d9 k.1 (wZ h)=true/\k.2.length<=1048576+64*k.1) (λk=>h.H.length - k.1) ((0,S)) (⟨I1 _,by grind [pgs],rfl,by simp only;omega⟩) λk J=>?_
 obtain⟨k,S2⟩:=k;obtain⟨J,c,K,L⟩:=J;simp only at J c K L |-;by_cases u:k<h.H.length
 ·have b:=ar u
  have hpg:=yJ l b
  repeat'(first|refine gE ?_|refine gS (λa=>?_) (λa=>?_)|refine CQ ω (aa (i9 ω u)) ?_)
  all_goals first
   | exact bx ((x8 (cI u (TF (C1 ω)))).symm)
   |have e:Do h.H k=true:=O0 ω
    (conv=>whnf)
    refine oA (ι:=Nat × List Int) (λq=>[(1,bS (ac.enc .O h)),(3,bS (aM.enc .O (tbl h))),(4,fI (fT h)),(5,bC (aE .own q.2)),(7,fN k),(8,fN (q.1))]) (λq=>q.1<=(nth h.H k).a0.toNat/\q.2=S2++lpgs (nth h.H k) q.1/\d9 q.1 (E7 h (nth h.H k))=true) (λq=>(nth h.H k).a0.toNat - q.1) ((0,S2)) (⟨I1 _,by simp[lpgs],rfl⟩) λq a=>?_
    obtain⟨q,M⟩:=q;obtain⟨N,d,o⟩:=a;simp only at N d o |-;have Q:M.length=S2.length+q:=by rw[d,I5,K6]
    by_cases w:q<(nth h.H k).a0.toNat
    ·have hfl:=gJ h ((nth h.H k).S+(q:Nat))
     repeat'(first|refine gE ?_|refine gS (λa=>?_) (λa=>?_)|refine CF (jH h _ g) ?_|refine Cb cN (λr n=>by rw[z3.1 n];rfl) (by simp[bu,f6]) kd (by show _*8<=_;simp;omega) rfl ?_)
     all_goals first
      | exact bx ((x8 (cI u (UK w (C1 ω)))).symm)
      | ((conv=>whnf)
         refine CP (q+1,M++[(nth h.H k).S+(q:Nat)]) ⟨(by simp only;omega),(by simp only;rw[d,nD,SA]),cm o (O0 ω)⟩ (by simp only;omega) ?_
         (exact wD))
    obtain rfl:q=(nth h.H k).a0.toNat:=ω
    refine σE ?_
    (exact dt (k+1,M) ⟨(by simp only;omega),(by simp only;rw[d,c,<-tO _ b]),cm K (LO e o),(by simp only;omega)⟩)
 obtain rfl:k=h.H.length:=ω
 rw[O9]at c
 refine σE ?_
 refine gn S2.length (λq=>[(1,bS (ac.enc .O h)),(3,bS (aM.enc .O (tbl h))),(4,fI (fT h)),(5,bC (aE .own S2)),(10,fN q)]) (λq=>∀j,j<q->nth S2 j<fT h) ψ λq a=>?_
 obtain⟨a,o⟩:=a;by_cases w:q<S2.length
 ·have b:=ar w
  repeat'(first|refine gE ?_|refine gS (λa=>?_) (λa=>?_)|fail)
  all_goals first
   | exact bx ((Kp (by rw[<-c];exact ax w) ω).symm)
   | ((conv=>whnf);exact dt (q+1) ⟨ω,λj hj=>by rcases Nat.lt_or_ge j q with R|R;exact o j R;(obtain rfl:j=q:=ω);omega⟩)
 have t:∀p∈pgs h.J h.H,p<fT h:=λp O=>by grind [List.mem_iff_getElem?,bB]
 refine σE ?_
 refine gn (fT h) (λp=>[(1,bS (ac.enc .O h)),(3,bS (aM.enc .O (tbl h))),(4,fI (fT h)),(5,bC (aE .own S2)),(11,fN p)]) (λp=>d9 p (Aa h)=true) rfl λp O=>?_
 obtain⟨O,T⟩:=O;by_cases U:p<fT h
 ·have b:=ar (xs:=(tbl h).M) U
  have n:=F8 h.b (p:Nat) ω
  repeat'(first|refine gE ?_|refine gS (λa=>?_) (λa=>?_)|refine CM (qw S2 _ ω) ⟨⟨rfl,eI _⟩,⟨rfl,rfl⟩,tV1⟩ ?_|refine Bf.P (λa=>?_) (λa=>?_))
  all_goals first
   | exact bx ((LA (cI U (by unfold Aa;rw[<-c];grind))).symm)
   | ((conv=>whnf);exact dt (p+1) ⟨ω,cm T (by unfold Aa;rw[<-c];grind)⟩)
 refine σE ?_
 obtain rfl:p=fT h:=ω
 exact bx ((BB G K t T).symm)
set_option maxHeartbeats 8000000
def XK(h:z1=z2):VC (I z1) (I z2):=by subst h;rfl
theorem PX{p:Int} : z∈ins S p↔z∈S\/z=p:=by grind [ins]
theorem E4(S:List Int):(hO S).map (·.1)=S:=by unfold hO;rw[List.map_map];simp[IB]
theorem pB{t:aM}{p:Nat}(a:p<t.M.length):ay t (p:Nat)=nth t.M p:=by grind [ay]
theorem JZ(h:ac)(E:dl h.J)(F:du h.H)(d:Ak h)(G:f9 h.b)(u:bD h.J h.H=true):zzA 109 false [.val (some 24) (ac.enc .O h)] .one [B (pages0 h&&tM h)]:=by
 have hl1:=E.1;have hl2:=F.1;have hl3:fT h<=1048576:=d.1;have hl4:=G.1;have b:pages0 h=false->[B false]=[B (pages0 h&&tM h)]:=ψ
 refine fO 177 [(4,14,[25,26,27,28,29,30,31,32,33,34,35,36,37,38]),(16,14,[60,61,62,63,64,65,66,67,68,69,70,71,72,73]),(28,18,[102,103,104,105,106,107,108,109,110,111,112,113,114,115,116,117,118,119]),(42,23,[152,153,154,155,156,157,158,159,160,161,162,163,164,165,166,167,168,169,170,171,172,173,174])] Tryz.func109 rfl ?_
 refine σP ?_
 refine gn h.J.length (λi=>[(1,bS (ac.enc .O h)),(18,bC (bP .O h.J)),(19,fI h.J.length),(20,fN i)]) (λi=>d9 i (DY h.J)=true) rfl λi g=>?_
 obtain⟨g,C⟩:=g;by_cases o:i<h.J.length
 ·have e:=ar o
  repeat'(first|refine gE ?_|refine gS (λa=>?_) (λa=>?_)|refine CQ ω (aa (i9 ω o)) ?_)
  all_goals first
   |exact b (Mj (cI o (C1 ω)))
   | ((conv=>whnf);exact dt (i+1) ⟨ω,cm C (O0 ω)⟩)
 obtain rfl:i=h.J.length:=ω
 refine σE ?_
 refine oA (ι:=Nat × List Int) (λi=>[(1,bS (ac.enc .O h)),(5,bC [.m (hO i.2)]),(42,bC (bP .O h.J)),(43,fI h.J.length),(44,fN (i.1))]) (λi=>i.1<=h.J.length/\∀z,z∈i.2↔z∈(h.J.take i.1).map (·.S)) (λi=>h.J.length - i.1) ((0,[])) ψ λi g=>?_
 obtain⟨i,S⟩:=i;obtain⟨H,W⟩:=g;simp only at H W |-;by_cases li2:i<h.J.length
 ·have e:=ar li2
  repeat'(first|refine gE ?_|refine Mu.mk (BC S _) ?_)
  (exact dt (i+1,ins S (nth h.J i).S) ⟨(by simp only;omega),λz=>by grind [PX,OA]⟩)
 obtain rfl:i=h.J.length:=ω
 rw[O9]at W
 refine σE ?_
 refine oA (ι:=Nat × List Int) (λk=>[(1,bS (ac.enc .O h)),(5,bC [.m (hO k.2)]),(53,bC (bV .O h.H)),(54,fI h.H.length),(55,fN (k.1))]) (λk=>k.1<=h.H.length/\(∀z,z∈k.2↔z∈pgs h.J (h.H.take k.1))/\d9 k.1 (wZ h)=true) (λk=>h.H.length - k.1) ((0,S)) (⟨I1 _,λz=>by grind [pgs],rfl⟩) λk J=>?_
 obtain⟨k,S2⟩:=k;obtain⟨J,c,K⟩:=J;simp only at J c K |-;by_cases D:k<h.H.length
 ·have e:=ar D
  have hpg:=yJ u e
  repeat'(first|refine gE ?_|refine gS (λa=>?_) (λa=>?_)|refine CQ ω (aa (i9 ω D)) ?_)
  all_goals first
   |exact b (x8 (cI D (TF (C1 ω))))
   |have l:Do h.H k=true:=O0 ω
    (conv=>whnf)
    refine oA (ι:=Nat × List Int) (λq=>[(1,bS (ac.enc .O h)),(5,bC [.m (hO q.2)]),(9,bS (a8.enc .O (nth h.H k))),(10,fI ((nth h.H k).S+(q.1:Nat))),(53,bC (bV .O h.H)),(54,fI h.H.length),(55,fN k)]) (λq=>q.1<=(nth h.H k).a0.toNat/\(∀z,z∈q.2↔z∈S2++lpgs (nth h.H k) q.1)/\d9 q.1 (E7 h (nth h.H k))=true) (λq=>(nth h.H k).a0.toNat - q.1) ((0,S2)) (⟨I1 _,λz=>by simp[lpgs],rfl⟩) λq a=>?_
    obtain⟨q,L⟩:=q;obtain⟨M,n,N⟩:=a;simp only at M n N |-;by_cases lq:q<(nth h.H k).a0.toNat
    ·have hfl:=gJ h ((nth h.H k).S+(q:Nat))
     repeat'(first|refine gE ?_|refine gS (λa=>?_) (λa=>?_)|refine CF (mr h _ d) ?_|refine Mu.mk (BC L _) ?_)
     all_goals first
      |exact b (x8 (cI D (UK lq (C1 ω))))
      | ((conv=>whnf)
         refine CP (q+1,ins L ((nth h.H k).S+(q:Nat))) ⟨(by simp only;omega),λz=>by simp only[PX,n];rw[nD];simp[or_assoc],cm N (O0 ω)⟩ (by simp only;omega) ?_
         (repeat'(first|exact tV1|rfl|refine CK ?_ ?_|exact XK kd)))
    obtain rfl:q=(nth h.H k).a0.toNat:=ω
    refine σE ?_
    (exact dt (k+1,L) ⟨(by simp only;omega),(λz=>by simp only[n];rw[tO _ e];simp[c]),cm K (LO l N)⟩)
 obtain rfl:k=h.H.length:=ω
 rw[O9]at c
 refine σE ?_
 refine gn (fT h) (λp=>[(1,bS (ac.enc .O h)),(5,bC [.m (hO S2)]),(98,fI (fT h)),(99,fN p)]) (λp=>d9 p (Aa h)=true) rfl λp X=>?_
 obtain⟨X,Y⟩:=X;by_cases Z:p<fT h
 ·have O:=EI h.b (p:Nat) ω
  have w:=fY h.G (p:Nat) d;rw[pB Z]at w
  repeat'(first|refine gE ?_|refine gS (λa=>?_) (λa=>?_)|refine Ml.mk (qN (p:Nat) S2) ?_|refine Bf.P (λa=>?_) (λa=>?_))
  all_goals first
   |exact b (LA (cI Z (by unfold Aa tbl;have:=c (p:Nat);grind)))
   | ((conv=>whnf);exact dt (p+1) ⟨ω,cm Y (by unfold Aa tbl;have:=c (p:Nat);grind)⟩)
 obtain rfl:p=fT h:=ω
 refine σE ?_
 have hpn:fT h=h.G.F.Q.M.length:=rfl
 (conv=>whnf)
 refine oA (ι:=Option Int × List Int) (λt=>[(1,bS (ac.enc .O h)),(122,bC [.it t.1 t.2])]) (λt=>(∀z∈S2,z∈t.2\/z<fT h)/\∀z∈t.2,z∈S2) (λt=>t.2.length) ((none,(hO S2).map (·.1))) (⟨λz hz=>.inl (by grind [E4]),λz hz=>by grind [E4]⟩) λt ht=>?_
 obtain⟨cur,left⟩:=t;obtain⟨Q,R⟩:=ht;simp only at Q R |-
 repeat'(first|refine gP ?_|refine gS (λa=>?_) (λa=>?_)|refine Nt.mk (λa=>?_) (λl1 k l2 a=>?_))
 rotate_left
 ·exact b (Kp (p:=k) ψ ω)
 ·((conv=>whnf);exact dt (some k,l1++l2) ψ (h2:=(by subst left;simp)))
 have y:∀p∈pgs h.J h.H,p<fT h:=ψ
 have h0:pages0 h=true:=BB C K y Y;rw[h0,Bool.true_and]
 (conv=>whnf)
 refine gn h.J.length (λi=>[(1,bS (ac.enc .O h)),(136,bC (bP .O h.J)),(137,fI h.J.length),(138,fN i)]) (λi=>d9 i (λi=>d9 i (pm h i))=true) rfl λi g=>?_
 obtain⟨g,C⟩:=g;by_cases o:i<h.J.length
 ·have e:=ar o
  have T:(h.J.take i).length=i:=ψ
  repeat'(first|refine gE ?_|refine CZ i rfl kd (λr O=>by obtain⟨z,-,rfl⟩:=O8.1 O;rfl) (C8 ..) ?_)
  refine gn ((h.J.take i).length) (λj=>[(1,bS (ac.enc .O h)),(14,bS (aA.enc .O (nth h.J i))),(136,bC (bP .O h.J)),(137,fI h.J.length),(138,fN i),(146,bC (bP .O (h.J.take i))),(147,fI ((h.J.take i).length)),(148,fN j)]) (λj=>d9 j (pm h i)=true) rfl λj hj=>?_
  obtain⟨hj,U⟩:=hj;by_cases lj:j<(h.J.take i).length
  ·have hy:=ar lj
   have he:nth (h.J.take i) j=nth h.J j:=bB (by grind [ar]);rw[he]at hy;have w:=pR (nth h.J i) (nth h.J j);cases V:meshable (nth h.J i) (nth h.J j)<;>rw[V]at w
   all_goals
    repeat'(first|refine gE ?_|refine gS (λa=>?_) (λa=>?_)|refine CF (de (tbl h) _ d) ?_)
    all_goals first
     | exact bx ((by symm;exact cI o (cI (i:=j) ω (by unfold pm;rw[V];grind))))
     | ((conv=>whnf);exact dt (j+1) ⟨ω,cm U (by unfold pm;rw[V];grind)⟩)
  obtain rfl:j=(h.J.take i).length:=ω
  rw[T]at U
  refine σE ?_
  (exact dt (i+1) ⟨ω,cm C U⟩)
 obtain rfl:i=h.J.length:=ω
 refine σE ?_
 exact bx ((by grind [tM]))
end Go.Proofs.YtjooeakgbamfnaaGreat.Ab
