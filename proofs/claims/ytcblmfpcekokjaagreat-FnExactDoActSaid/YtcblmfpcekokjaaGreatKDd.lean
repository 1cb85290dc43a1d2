/- The data of the program, its cells, its bulk and its marks. Printed by gen_data.py. No condition. -/
import Derived.Test.YtcblmfpcekokjaaGreatKDc
set_option linter.unusedVariables false
set_option linter.defProp false
set_option linter.unusedSimpArgs false
set_option linter.constructorNameAsVariable false
namespace Go.Proofs.YtcblmfpcekokjaaGreat.Ab
open Go.RowKit
def aI(o:eS)(x:List Int):List C:=[.s o (x.map (rI o))]
def eI(x:List Int):du (aI .own x)=aI .O x:=by simp[du,aI,rI,du]
theorem bO(x:List Int):gl (aI .own x):=⟨⟨.inl ψ,bg _ _ λy _=>vD y⟩,tV1⟩
def kR(x:List Int):Prop:=x.length<=9223372036854775807/\∀y∈x,nM y
def eB(x:List Int):Nat:=x.length
def szIntS(x:List Int):Nat:=x.length
def lN(x:List Int):Prop:=x.length<=1048576
def markIntS:List Int->Int->List Int
 | [],_=>[]
 | _::xs,k=>k::markIntS xs (k+1)
def rL:∀(x:List Int)(k:Int),(markIntS x k).length=x.length
 | [],_=>rfl
 | _::xs,k=>by simp[markIntS,rL xs]
def sr:∀(x:List Int)(k:Int)(i:Nat),i<x.length->(markIntS x k)[i]? = some (k+(i:Nat))
 | [],_,i,h=>by simp at h
 | _::xs,k,0,_=>by simp[markIntS]
 | _::xs,k,i+1,h=>by
  simp only[markIntS,List.getElem?_cons_succ];rw[sr xs (k+1) i (by simpa using h)];rw[show k+1+(i:Int)=k+((i+1:Nat):Int) by omega]
def lP(_:List Int)(i:Nat):Nat:=i
def rv{x:List Int}(h:szIntS x<=1048576):lN x:=h
theorem wv(x:List Int):eB x<=8*szIntS x:=by grind [eB,szIntS]
def fk(o:eS)(x:List (List Int)):List C:=[.s o (x.map (aI o))]
def ZJ(x:List (List Int)):du (fk .own x)=fk .O x:=by simp[du,fk,eI,<-cf,OB]
theorem Ty(x:List (List Int)):gl (fk .own x):=⟨⟨.inl ψ,bg _ _ λy _=>bO y⟩,tV1⟩
def yg(x:List (List Int)):Prop:=x.length<=9223372036854775807/\∀y∈x,kR y
def eN:List (List Int)->Nat
 | []=>0
 | x::xs=>eB x+eN xs
def jD:List (List Int)->Nat
 | []=>0
 | x::xs=>szIntS x+jD xs
def szIntSS(x:List (List Int)):Nat:=x.length+jD x
def mc(x:List (List Int)):Prop:=x.length<=1048576/\∀y∈x,lN y
def markIntSS:List (List Int)->Int->List (List Int)
 | [],_=>[]
 | x::xs,k=>markIntS x k::markIntSS xs (k+(eB x:Nat))
def qy:∀(x:List (List Int))(k:Int),(markIntSS x k).length=x.length
 | [],_=>rfl
 | _::xs,k=>by simp[markIntSS,qy xs]
def fK:List (List Int)->Nat->Nat
 | [],_=>0
 | _::_,0=>0
 | x::xs,i+1=>eB x+fK xs i
def qv:∀(x:List (List Int))(k:Int)(i:Nat)(y:List Int),x[i]? = some y->(markIntSS x k)[i]? = some (markIntS y (k+(fK x i:Nat)))
 | [],_,i,y,h=>by simp at h
 | x::xs,k,0,y,h=>by simp at h;subst h;simp[markIntSS,fK]
 | x::xs,k,i+1,y,h=>by
  simp only[markIntSS,List.getElem?_cons_succ];rw[qv xs _ i y (by simpa using h)]
  congr 2
  simp only[fK];omega
def qh(x:List (List Int)):fK x 0=0:=by cases x<;>rfl
def pT:∀(x:List (List Int))(i:Nat)(y:List Int),x[i]? = some y->fK x (i+1)=fK x i+eB y
 | [],i,y,h=>by simp at h
 | x::xs,0,y,h=>by simp at h;subst h;simp[fK,qh]
 | x::xs,i+1,y,h=>by
  simp only[fK];rw[pT xs i y (by simpa using h)];omega
def rN:∀(x:List (List Int)),fK x x.length=eN x
 | []=>rfl
 | x::xs=>by simp only[List.length_cons,fK,eN,rN xs]
def xN:∀{x:List (List Int)}{y:List Int},y∈x->szIntS y<=jD x
 | [],y,h=>by simp at h
 | x::xs,y,h=>by
  simp only[jD];rcases List.mem_cons.1 h with rfl|h
  ·omega
  have:=xN h;omega
theorem tP{x:List (List Int)}(h:szIntSS x<=1048576):mc x:=⟨by grind [szIntSS],λy a=>rv (by have:=xN a;grind [szIntSS])⟩
theorem xI:∀(x:List (List Int)),eN x<=8*jD x
 | []=>by simp[eN]
 | x::xs=>by have:=xI xs;grind [wv,eN,jD]
theorem t8(x:List (List Int)):eN x<=8*szIntSS x:=by grind [xI,szIntSS]
def fS:List (List Int)->Nat->Nat
 | [],_=>0
 | _::_,0=>0
 | x::xs,i+1=>szIntS x+fS xs i
def oH(x:List (List Int)):fS x 0=0:=by cases x<;>rfl
def tq:∀(x:List (List Int))(i:Nat)(y:List Int),x[i]? = some y->fS x (i+1)=fS x i+szIntS y
 | [],i,y,h=>by simp at h
 | x::xs,0,y,h=>by simp at h;subst h;simp[fS,oH]
 | x::xs,i+1,y,h=>by
  simp only[fS];rw[tq xs i y (by simpa using h)];omega
def v7:∀(x:List (List Int)),fS x x.length=jD x
 | []=>rfl
 | x::xs=>by simp only[List.length_cons,fS,jD,v7 xs]
def rH:∀(x:List (List Int))(i:Nat),fS x i<=jD x
 | [],_=>by simp[fS]
 | x::xs,0=>by simp[fS]
 | x::xs,i+1=>by simp only[fS,jD];have:=rH xs i;omega
def t7:∀(x:List (List Int))(i:Nat),fK x i<=eN x
 | [],_=>by simp[fK]
 | x::xs,0=>by simp[fK]
 | x::xs,i+1=>by simp only[fK,eN];have:=t7 xs i;omega
def iq(o:eS)(x:List Bool):List C:=[.s o (x.map (rB o))]
theorem Tg(x:List Bool):gl (iq .own x):=⟨⟨.inl ψ,bg _ _ λy _=>GA y⟩,tV1⟩
def J8(x:List Bool):Prop:=x.length<=9223372036854775807/\∀y∈x,wfB y
def i6(x:List Bool):Nat:=x.length
def szBoolS(x:List Bool):Nat:=x.length
def qA(x:List Bool):Prop:=x.length<=1048576
def markBoolS:List Bool->Int->List Bool
 | [],_=>[]
 | _::xs,k=>decide (k.tmod 3=0)::markBoolS xs (k+1)
def qb:∀(x:List Bool)(k:Int),(markBoolS x k).length=x.length
 | [],_=>rfl
 | _::xs,k=>by simp[markBoolS,qb xs]
def pS:∀(x:List Bool)(k:Int)(i:Nat),i<x.length->(markBoolS x k)[i]? = some (decide ((k+(i:Nat)).tmod 3=0))
 | [],_,i,h=>by simp at h
 | _::xs,k,0,_=>by simp[markBoolS]
 | _::xs,k,i+1,h=>by
  simp only[markBoolS,List.getElem?_cons_succ];rw[pS xs (k+1) i (by simpa using h)];rw[show k+1+(i:Int)=k+((i+1:Nat):Int) by omega]
def jF(_:List Bool)(i:Nat):Nat:=i
def M1{x:List Bool}(h:szBoolS x<=1048576):qA x:=h
theorem L2(x:List Bool):i6 x<=8*szBoolS x:=by grind [i6,szBoolS]
structure aO where
 U:List (List Int)
 y:List Bool
deriving DecidableEq,Inhabited
def aO.enc(o:eS)(x:aO):List C:=[.s o (x.U.map (aI o)),.s o (x.y.map (rB o))]
def aO.enc_fz(x:aO):du (aO.enc .own x)=aO.enc .O x:=by simp[du,aO.enc,rB,eI,<-cf,OB]
theorem aO.enc_fr(x:aO):gl (aO.enc .own x):=⟨⟨.inl ψ,bg _ _ λy _=>bO y⟩,⟨.inl ψ,bg _ _ λy _=>GA y⟩,tV1⟩
def aO.wf(x:aO):Prop:=yg x.U/\J8 x.y
def aO.cnt(x:aO):Nat:=eN x.U+i6 x.y
def aO.sz(x:aO):Nat:=szIntSS x.U+szBoolS x.y
def aO.sml(x:aO):Prop:=mc x.U/\qA x.y
theorem aO.sml_of{x:aO}(h:aO.sz x<=1048576):aO.sml x:=⟨tP (by grind [aO.sz]),M1 (by grind [aO.sz])⟩
theorem aO.cnt_le(x:aO):aO.cnt x<=8*aO.sz x:=by grind [t8,L2,aO.cnt,aO.sz]
def aO.mark(x:aO)(k:Int):aO:={x with U:=markIntSS x.U (k),y:=markBoolS x.y (k+(eN x.U:Nat))}
structure aS where
 o:Int
 g:Int
deriving DecidableEq,Inhabited
def aS.enc(o:eS)(x:aS):List C:=[I x.o,I x.g]
def aS.enc_fz(x:aS):du (aS.enc .own x)=aS.enc .O x:=by simp[du,aS.enc]
def aS.enc_fr(x:aS):gl (aS.enc .own x):=⟨tV1,tV1,tV1⟩
def aS.wf(x:aS):Prop:=nM x.o/\nM x.g
def aS.cnt(_:aS):Nat:=2
def aS.sml(_:aS):Prop:=True
def aS.mark(_:aS)(k:Int):aS:=⟨k,k+1⟩
def fX(o:eS)(x:List aS):List C:=[.s o (x.map (aS.enc o))]
theorem LZ(x:List aS):gl (fX .own x):=⟨⟨.inl ψ,bg _ _ λy _=>aS.enc_fr y⟩,tV1⟩
def zc(x:List aS):Prop:=x.length<=9223372036854775807/\∀y∈x,aS.wf y
def dZ:List aS->Nat
 | []=>0
 | x::xs=>aS.cnt x+dZ xs
def nS(x:List aS):Nat:=x.length
def lE(x:List aS):Prop:=x.length<=1048576/\∀y∈x,aS.sml y
def fg:List aS->Int->List aS
 | [],_=>[]
 | x::xs,k=>aS.mark x k::fg xs (k+(aS.cnt x:Nat))
def ni:∀(x:List aS)(k:Int),(fg x k).length=x.length
 | [],_=>rfl
 | _::xs,k=>by simp[fg,ni xs]
def df:List aS->Nat->Nat
 | [],_=>0
 | _::_,0=>0
 | x::xs,i+1=>aS.cnt x+df xs i
def mC:∀(x:List aS)(k:Int)(i:Nat)(y:aS),x[i]? = some y->(fg x k)[i]? = some (aS.mark y (k+(df x i:Nat)))
 | [],_,i,y,h=>by simp at h
 | x::xs,k,0,y,h=>by simp at h;subst h;simp[fg,df]
 | x::xs,k,i+1,y,h=>by
  simp only[fg,List.getElem?_cons_succ];rw[mC xs _ i y (by simpa using h)]
  congr 2
  simp only[df];omega
def mZ(x:List aS):df x 0=0:=by cases x<;>rfl
def m9:∀(x:List aS)(i:Nat)(y:aS),x[i]? = some y->df x (i+1)=df x i+aS.cnt y
 | [],i,y,h=>by simp at h
 | x::xs,0,y,h=>by simp at h;subst h;simp[df,mZ]
 | x::xs,i+1,y,h=>by
  simp only[df];rw[m9 xs i y (by simpa using h)];omega
def o7:∀(x:List aS),df x x.length=dZ x
 | []=>rfl
 | x::xs=>by simp only[List.length_cons,df,dZ,o7 xs]
def Gx{x:List aS}(h:nS x<=1048576):lE x:=⟨h,λ_ _=>tV1⟩
theorem vS:∀(x:List aS),dZ x<=8*nS x
 | []=>by simp[dZ]
 | x::xs=>by have:=vS xs;grind [dZ,nS,aS.cnt]
def qj:∀(x:List aS)(i:Nat),df x i<=dZ x
 | [],_=>by simp[df]
 | x::xs,0=>by simp[df]
 | x::xs,i+1=>by simp only[df,dZ];have:=qj xs i;omega
structure aL where
 M:List aS
deriving DecidableEq,Inhabited
def aL.enc(o:eS)(x:aL):List C:=[.s o (x.M.map (aS.enc o))]
def aL.enc_fz(x:aL):du (aL.enc .own x)=aL.enc .O x:=by simp[du,aL.enc,aS.enc_fz,<-cf,OB]
def Cm:type_of% @aL.enc_fz:=@aL.enc_fz
theorem aL.enc_fr(x:aL):gl (aL.enc .own x):=⟨⟨.inl ψ,bg _ _ λy _=>aS.enc_fr y⟩,tV1⟩
def aL.wf(x:aL):Prop:=zc x.M
def aL.cnt(x:aL):Nat:=dZ x.M
def aL.sz(x:aL):Nat:=nS x.M
def aL.sml(x:aL):Prop:=lE x.M
theorem aL.sml_of{x:aL}(h:aL.sz x<=1048576):aL.sml x:=Gx (by grind [aL.sz])
theorem aL.cnt_le(x:aL):aL.cnt x<=8*aL.sz x:=by grind [vS,aL.cnt,aL.sz]
def aL.mark(x:aL)(k:Int):aL:={x with M:=fg x.M (k)}
structure aH where
 V:aO
 R:aL
deriving DecidableEq,Inhabited
def aH.enc(o:eS)(x:aH):List C:=[.s o (x.V.U.map (aI o)),.s o (x.V.y.map (rB o)),.s o (x.R.M.map (aS.enc o))]
def aH.enc_fz(x:aH):du (aH.enc .own x)=aH.enc .O x:=by simp[du,aH.enc,aS.enc_fz,rB,eI,<-cf,OB]
theorem aH.enc_fr(x:aH):gl (aH.enc .own x):=⟨⟨.inl ψ,bg _ _ λy _=>bO y⟩,⟨.inl ψ,bg _ _ λy _=>GA y⟩,⟨.inl ψ,bg _ _ λy _=>aS.enc_fr y⟩,tV1⟩
def aH.wf(x:aH):Prop:=aO.wf x.V/\aL.wf x.R
def aH.cnt(x:aH):Nat:=aO.cnt x.V+aL.cnt x.R
def aH.sz(x:aH):Nat:=aO.sz x.V+aL.sz x.R
def aH.sml(x:aH):Prop:=aO.sml x.V/\aL.sml x.R
theorem aH.sml_of{x:aH}(h:aH.sz x<=1048576):aH.sml x:=⟨aO.sml_of (by grind [aH.sz]),aL.sml_of (by grind [aH.sz])⟩
theorem aH.cnt_le(x:aH):aH.cnt x<=8*aH.sz x:=by grind [aO.cnt_le,aL.cnt_le,aH.cnt,aH.sz]
def aH.mark(x:aH)(k:Int):aH:={x with V:=aO.mark x.V (k),R:=aL.mark x.R (k+(aO.cnt x.V:Nat))}
structure af where
 F:aH
 Calls:Int
 k:List Int
deriving DecidableEq,Inhabited
def af.enc(o:eS)(x:af):List C:=[.s o (x.F.V.U.map (aI o)),.s o (x.F.V.y.map (rB o)),.s o (x.F.R.M.map (aS.enc o)),I x.Calls,.s o (x.k.map (rI o))]
def af.enc_fz(x:af):du (af.enc .own x)=af.enc .O x:=by simp[du,af.enc,aS.enc_fz,rB,rI,eI,<-cf,OB]
def CW:type_of% @af.enc_fz:=@af.enc_fz
theorem af.enc_fr(x:af):gl (af.enc .own x):=⟨⟨.inl ψ,bg _ _ λy _=>bO y⟩,⟨.inl ψ,bg _ _ λy _=>GA y⟩,⟨.inl ψ,bg _ _ λy _=>aS.enc_fr y⟩,tV1,⟨.inl ψ,bg _ _ λy _=>vD y⟩,tV1⟩
def Ck:type_of% @af.enc_fr:=@af.enc_fr
def af.wf(x:af):Prop:=aH.wf x.F/\nM x.Calls/\kR x.k
def af.cnt(x:af):Nat:=aH.cnt x.F+eB x.k
def af.sz(x:af):Nat:=aH.sz x.F+szIntS x.k
def af.sml(x:af):Prop:=aH.sml x.F/\lN x.k
theorem af.sml_of{x:af}(h:af.sz x<=1048576):af.sml x:=⟨aH.sml_of (by grind [af.sz]),rv (by grind [af.sz])⟩
theorem af.cnt_le(x:af):af.cnt x<=8*af.sz x:=by grind [aH.cnt_le,wv,af.cnt,af.sz]
def af.mark(x:af)(k:Int):af:={x with F:=aH.mark x.F (k),k:=markIntS x.k (k+(aH.cnt x.F:Nat))}
structure aD where
 At:Int
 a1:Int
deriving DecidableEq,Inhabited
def aD.enc(o:eS)(x:aD):List C:=[I x.At,I x.a1]
def aD.enc_fz(x:aD):du (aD.enc .own x)=aD.enc .O x:=by simp[du,aD.enc]
def aD.enc_fr(x:aD):gl (aD.enc .own x):=⟨tV1,tV1,tV1⟩
def aD.wf(x:aD):Prop:=nM x.At/\nM x.a1
def aD.cnt(_:aD):Nat:=2
def aD.sml(_:aD):Prop:=True
def aD.mark(_:aD)(k:Int):aD:=⟨k,k+1⟩
def bm(o:eS)(x:List aD):List C:=[.s o (x.map (aD.enc o))]
def fe(x:List aD):du (bm .own x)=bm .O x:=by simp[du,bm,aD.enc_fz,<-cf,OB]
theorem ji(x:List aD):gl (bm .own x):=⟨⟨.inl ψ,bg _ _ λy _=>aD.enc_fr y⟩,tV1⟩
def yX(x:List aD):Prop:=x.length<=9223372036854775807/\∀y∈x,aD.wf y
def cr:List aD->Nat
 | []=>0
 | x::xs=>aD.cnt x+cr xs
def nK(x:List aD):Nat:=x.length
def eJ(x:List aD):Prop:=x.length<=1048576/\∀y∈x,aD.sml y
def eX:List aD->Int->List aD
 | [],_=>[]
 | x::xs,k=>aD.mark x k::eX xs (k+(aD.cnt x:Nat))
def m8:∀(x:List aD)(k:Int),(eX x k).length=x.length
 | [],_=>rfl
 | _::xs,k=>by simp[eX,m8 xs]
def dt:List aD->Nat->Nat
 | [],_=>0
 | _::_,0=>0
 | x::xs,i+1=>aD.cnt x+dt xs i
def mU:∀(x:List aD)(k:Int)(i:Nat)(y:aD),x[i]? = some y->(eX x k)[i]? = some (aD.mark y (k+(dt x i:Nat)))
 | [],_,i,y,h=>by simp at h
 | x::xs,k,0,y,h=>by simp at h;subst h;simp[eX,dt]
 | x::xs,k,i+1,y,h=>by
  simp only[eX,List.getElem?_cons_succ];rw[mU xs _ i y (by simpa using h)]
  congr 2
  simp only[dt];omega
def mB(x:List aD):dt x 0=0:=by cases x<;>rfl
def mS:∀(x:List aD)(i:Nat)(y:aD),x[i]? = some y->dt x (i+1)=dt x i+aD.cnt y
 | [],i,y,h=>by simp at h
 | x::xs,0,y,h=>by simp at h;subst h;simp[dt,mB]
 | x::xs,i+1,y,h=>by
  simp only[dt];rw[mS xs i y (by simpa using h)];omega
def oh:∀(x:List aD),dt x x.length=cr x
 | []=>rfl
 | x::xs=>by simp only[List.length_cons,dt,cr,oh xs]
def F4{x:List aD}(h:nK x<=1048576):eJ x:=⟨h,λ_ _=>tV1⟩
theorem vt:∀(x:List aD),cr x<=8*nK x
 | []=>by simp[cr]
 | x::xs=>by have:=vt xs;grind [cr,nK,aD.cnt]
def q7:∀(x:List aD)(i:Nat),dt x i<=cr x
 | [],_=>by simp[dt]
 | x::xs,0=>by simp[dt]
 | x::xs,i+1=>by simp only[dt,cr];have:=q7 xs i;omega
structure aC where
 S:Int
 Z:Int
 a3:Int
deriving DecidableEq,Inhabited
def aC.enc(o:eS)(x:aC):List C:=[I x.S,I x.Z,I x.a3]
def aC.enc_fz(x:aC):du (aC.enc .own x)=aC.enc .O x:=by simp[du,aC.enc]
def aC.enc_fr(x:aC):gl (aC.enc .own x):=⟨tV1,tV1,tV1,tV1⟩
def aC.wf(x:aC):Prop:=nM x.S/\nM x.Z/\nM x.a3
def aC.cnt(_:aC):Nat:=3
def aC.sml(_:aC):Prop:=True
def aC.mark(_:aC)(k:Int):aC:=⟨k,k+1,k+1+1⟩
def bH(o:eS)(x:List aC):List C:=[.s o (x.map (aC.enc o))]
def f7(x:List aC):du (bH .own x)=bH .O x:=by simp[du,bH,aC.enc_fz,<-cf,OB]
theorem wG(x:List aC):gl (bH .own x):=⟨⟨.inl ψ,bg _ _ λy _=>aC.enc_fr y⟩,tV1⟩
def D4(x:List aC):Prop:=x.length<=9223372036854775807/\∀y∈x,aC.wf y
def cN:List aC->Nat
 | []=>0
 | x::xs=>aC.cnt x+cN xs
def qF(x:List aC):Nat:=x.length
def cP(x:List aC):Prop:=x.length<=1048576/\∀y∈x,aC.sml y
def fW:List aC->Int->List aC
 | [],_=>[]
 | x::xs,k=>aC.mark x k::fW xs (k+(aC.cnt x:Nat))
def oK:∀(x:List aC)(k:Int),(fW x k).length=x.length
 | [],_=>rfl
 | _::xs,k=>by simp[fW,oK xs]
def eg:List aC->Nat->Nat
 | [],_=>0
 | _::_,0=>0
 | x::xs,i+1=>aC.cnt x+eg xs i
def oV:∀(x:List aC)(k:Int)(i:Nat)(y:aC),x[i]? = some y->(fW x k)[i]? = some (aC.mark y (k+(eg x i:Nat)))
 | [],_,i,y,h=>by simp at h
 | x::xs,k,0,y,h=>by simp at h;subst h;simp[fW,eg]
 | x::xs,k,i+1,y,h=>by
  simp only[fW,List.getElem?_cons_succ];rw[oV xs _ i y (by simpa using h)]
  congr 2
  simp only[eg];omega
def oM(x:List aC):eg x 0=0:=by cases x<;>rfl
def og:∀(x:List aC)(i:Nat)(y:aC),x[i]? = some y->eg x (i+1)=eg x i+aC.cnt y
 | [],i,y,h=>by simp at h
 | x::xs,0,y,h=>by simp at h;subst h;simp[eg,oM]
 | x::xs,i+1,y,h=>by
  simp only[eg];rw[og xs i y (by simpa using h)];omega
def qw:∀(x:List aC),eg x x.length=cN x
 | []=>rfl
 | x::xs=>by simp only[List.length_cons,eg,cN,qw xs]
def HY{x:List aC}(h:qF x<=1048576):cP x:=⟨h,λ_ _=>tV1⟩
theorem x4:∀(x:List aC),cN x<=8*qF x
 | []=>by simp[cN]
 | x::xs=>by have:=x4 xs;grind [cN,qF,aC.cnt]
def rE:∀(x:List aC)(i:Nat),eg x i<=cN x
 | [],_=>by simp[eg]
 | x::xs,0=>by simp[eg]
 | x::xs,i+1=>by simp only[eg,cN];have:=rE xs i;omega
structure aA where
 S:Int
 a0:Int
 q:Int
deriving DecidableEq,Inhabited
def aA.enc(o:eS)(x:aA):List C:=[I x.S,I x.a0,I x.q]
def aA.enc_fz(x:aA):du (aA.enc .own x)=aA.enc .O x:=by simp[du,aA.enc]
def aA.enc_fr(x:aA):gl (aA.enc .own x):=⟨tV1,tV1,tV1,tV1⟩
def aA.wf(x:aA):Prop:=nM x.S/\nM x.a0/\nM x.q
def aA.cnt(_:aA):Nat:=3
def aA.sml(_:aA):Prop:=True
def aA.mark(_:aA)(k:Int):aA:=⟨k,k+1,k+1+1⟩
def bG(o:eS)(x:List aA):List C:=[.s o (x.map (aA.enc o))]
def kb(x:List aA):du (bG .own x)=bG .O x:=by simp[du,bG,aA.enc_fz,<-cf,OB]
theorem Mh(x:List aA):gl (bG .own x):=⟨⟨.inl ψ,bg _ _ λy _=>aA.enc_fr y⟩,tV1⟩
def zm(x:List aA):Prop:=x.length<=9223372036854775807/\∀y∈x,aA.wf y
def cy:List aA->Nat
 | []=>0
 | x::xs=>aA.cnt x+cy xs
def nU(x:List aA):Nat:=x.length
def cV(x:List aA):Prop:=x.length<=1048576/\∀y∈x,aA.sml y
def eU:List aA->Int->List aA
 | [],_=>[]
 | x::xs,k=>aA.mark x k::eU xs (k+(aA.cnt x:Nat))
def mA:∀(x:List aA)(k:Int),(eU x k).length=x.length
 | [],_=>rfl
 | _::xs,k=>by simp[eU,mA xs]
def dn:List aA->Nat->Nat
 | [],_=>0
 | _::_,0=>0
 | x::xs,i+1=>aA.cnt x+dn xs i
def nk:∀(x:List aA)(k:Int)(i:Nat)(y:aA),x[i]? = some y->(eU x k)[i]? = some (aA.mark y (k+(dn x i:Nat)))
 | [],_,i,y,h=>by simp at h
 | x::xs,k,0,y,h=>by simp at h;subst h;simp[eU,dn]
 | x::xs,k,i+1,y,h=>by
  simp only[eU,List.getElem?_cons_succ];rw[nk xs _ i y (by simpa using h)]
  congr 2
  simp only[dn];omega
def mT(x:List aA):dn x 0=0:=by cases x<;>rfl
def mH:∀(x:List aA)(i:Nat)(y:aA),x[i]? = some y->dn x (i+1)=dn x i+aA.cnt y
 | [],i,y,h=>by simp at h
 | x::xs,0,y,h=>by simp at h;subst h;simp[dn,mT]
 | x::xs,i+1,y,h=>by
  simp only[dn];rw[mH xs i y (by simpa using h)];omega
def oo:∀(x:List aA),dn x x.length=cy x
 | []=>rfl
 | x::xs=>by simp only[List.length_cons,dn,cy,oo xs]
def Fa{x:List aA}(h:nU x<=1048576):cV x:=⟨h,λ_ _=>tV1⟩
theorem vO:∀(x:List aA),cy x<=8*nU x
 | []=>by simp[cy]
 | x::xs=>by have:=vO xs;grind [cy,nU,aA.cnt]
def qd:∀(x:List aA)(i:Nat),dn x i<=cy x
 | [],_=>by simp[dn]
 | x::xs,0=>by simp[dn]
 | x::xs,i+1=>by simp only[dn,cy];have:=qd xs i;omega
structure aW where
 Id:Int
 Addr:Int
 q:Int
 p:Int
deriving DecidableEq,Inhabited
def aW.enc(o:eS)(x:aW):List C:=[I x.Id,I x.Addr,I x.q,I x.p]
def aW.enc_fz(x:aW):du (aW.enc .own x)=aW.enc .O x:=by simp[du,aW.enc]
def aW.enc_fr(x:aW):gl (aW.enc .own x):=⟨tV1,tV1,tV1,tV1,tV1⟩
def aW.wf(x:aW):Prop:=nM x.Id/\nM x.Addr/\nM x.q/\nM x.p
def aW.cnt(_:aW):Nat:=4
def aW.sml(_:aW):Prop:=True
def aW.mark(_:aW)(k:Int):aW:=⟨k,k+1,k+1+1,k+1+1+1⟩
def gn(o:eS)(x:List aW):List C:=[.s o (x.map (aW.enc o))]
def Tx(x:List aW):du (gn .own x)=gn .O x:=by simp[du,gn,aW.enc_fz,<-cf,OB]
theorem Tp(x:List aW):gl (gn .own x):=⟨⟨.inl ψ,bg _ _ λy _=>aW.enc_fr y⟩,tV1⟩
def Jo(x:List aW):Prop:=x.length<=9223372036854775807/\∀y∈x,aW.wf y
def eK:List aW->Nat
 | []=>0
 | x::xs=>aW.cnt x+eK xs
def uL(x:List aW):Nat:=x.length
def qT(x:List aW):Prop:=x.length<=1048576/\∀y∈x,aW.sml y
def gy:List aW->Int->List aW
 | [],_=>[]
 | x::xs,k=>aW.mark x k::gy xs (k+(aW.cnt x:Nat))
def pX:∀(x:List aW)(k:Int),(gy x k).length=x.length
 | [],_=>rfl
 | _::xs,k=>by simp[gy,pX xs]
def fD:List aW->Nat->Nat
 | [],_=>0
 | _::_,0=>0
 | x::xs,i+1=>aW.cnt x+fD xs i
def qf:∀(x:List aW)(k:Int)(i:Nat)(y:aW),x[i]? = some y->(gy x k)[i]? = some (aW.mark y (k+(fD x i:Nat)))
 | [],_,i,y,h=>by simp at h
 | x::xs,k,0,y,h=>by simp at h;subst h;simp[gy,fD]
 | x::xs,k,i+1,y,h=>by
  simp only[gy,List.getElem?_cons_succ];rw[qf xs _ i y (by simpa using h)]
  congr 2
  simp only[fD];omega
def qr(x:List aW):fD x 0=0:=by cases x<;>rfl
def qe:∀(x:List aW)(i:Nat)(y:aW),x[i]? = some y->fD x (i+1)=fD x i+aW.cnt y
 | [],i,y,h=>by simp at h
 | x::xs,0,y,h=>by simp at h;subst h;simp[fD,qr]
 | x::xs,i+1,y,h=>by
  simp only[fD];rw[qe xs i y (by simpa using h)];omega
def su:∀(x:List aW),fD x x.length=eK x
 | []=>rfl
 | x::xs=>by simp only[List.length_cons,fD,eK,su xs]
def Nr{x:List aW}(h:uL x<=1048576):qT x:=⟨h,λ_ _=>tV1⟩
theorem zS:∀(x:List aW),eK x<=8*uL x
 | []=>by simp[eK]
 | x::xs=>by have:=zS xs;grind [eK,uL,aW.cnt]
def tF:∀(x:List aW)(i:Nat),fD x i<=eK x
 | [],_=>by simp[fD]
 | x::xs,0=>by simp[fD]
 | x::xs,i+1=>by simp only[fD,eK];have:=tF xs i;omega
structure aB where
 X:List (List Int)
deriving DecidableEq,Inhabited
def aB.enc(o:eS)(x:aB):List C:=[.s o (x.X.map (aI o))]
def aB.enc_fz(x:aB):du (aB.enc .own x)=aB.enc .O x:=by simp[du,aB.enc,eI,<-cf,OB]
def Cp:type_of% @aB.enc_fz:=@aB.enc_fz
theorem aB.enc_fr(x:aB):gl (aB.enc .own x):=⟨⟨.inl ψ,bg _ _ λy _=>bO y⟩,tV1⟩
def Cs:type_of% @aB.enc_fr:=@aB.enc_fr
def aB.wf(x:aB):Prop:=yg x.X
def aB.cnt(x:aB):Nat:=eN x.X
def aB.sz(x:aB):Nat:=szIntSS x.X
def aB.sml(x:aB):Prop:=mc x.X
theorem aB.sml_of{x:aB}(h:aB.sz x<=1048576):aB.sml x:=tP (by grind [aB.sz])
theorem aB.cnt_le(x:aB):aB.cnt x<=8*aB.sz x:=by grind [t8,aB.cnt,aB.sz]
def aB.mark(x:aB)(k:Int):aB:={x with X:=markIntSS x.X (k)}
def er(o:eS)(x:List aB):List C:=[.s o (x.map (aB.enc o))]
theorem Mo(x:List aB):gl (er .own x):=⟨⟨.inl ψ,bg _ _ λy _=>Cs y⟩,tV1⟩
def yY(x:List aB):Prop:=x.length<=9223372036854775807/\∀y∈x,aB.wf y
def cH:List aB->Nat
 | []=>0
 | x::xs=>aB.cnt x+cH xs
def gW:List aB->Nat
 | []=>0
 | x::xs=>aB.sz x+gW xs
def iF(x:List aB):Nat:=x.length+gW x
def lK(x:List aB):Prop:=x.length<=1048576/\∀y∈x,aB.sml y
def fh:List aB->Int->List aB
 | [],_=>[]
 | x::xs,k=>aB.mark x k::fh xs (k+(aB.cnt x:Nat))
def mP:∀(x:List aB)(k:Int),(fh x k).length=x.length
 | [],_=>rfl
 | _::xs,k=>by simp[fh,mP xs]
def dm:List aB->Nat->Nat
 | [],_=>0
 | _::_,0=>0
 | x::xs,i+1=>aB.cnt x+dm xs i
def mJ:∀(x:List aB)(k:Int)(i:Nat)(y:aB),x[i]? = some y->(fh x k)[i]? = some (aB.mark y (k+(dm x i:Nat)))
 | [],_,i,y,h=>by simp at h
 | x::xs,k,0,y,h=>by simp at h;subst h;simp[fh,dm]
 | x::xs,k,i+1,y,h=>by
  simp only[fh,List.getElem?_cons_succ];rw[mJ xs _ i y (by simpa using h)]
  congr 2
  simp only[dm];omega
def mI(x:List aB):dm x 0=0:=by cases x<;>rfl
def mG:∀(x:List aB)(i:Nat)(y:aB),x[i]? = some y->dm x (i+1)=dm x i+aB.cnt y
 | [],i,y,h=>by simp at h
 | x::xs,0,y,h=>by simp at h;subst h;simp[dm,mI]
 | x::xs,i+1,y,h=>by
  simp only[dm];rw[mG xs i y (by simpa using h)];omega
def oG:∀(x:List aB),dm x x.length=cH x
 | []=>rfl
 | x::xs=>by simp only[List.length_cons,dm,cH,oG xs]
def uj:∀{x:List aB}{y:aB},y∈x->aB.sz y<=gW x
 | [],y,h=>by simp at h
 | x::xs,y,h=>by
  simp only[gW];rcases List.mem_cons.1 h with rfl|h
  ·omega
  have:=uj h;omega
theorem EX{x:List aB}(h:iF x<=1048576):lK x:=⟨by grind [iF],λy a=>aB.sml_of (by have:=uj a;grind [iF])⟩
theorem u6:∀(x:List aB),cH x<=8*gW x
 | []=>by simp[cH]
 | x::xs=>by have:=u6 xs;grind [aB.cnt_le,cH,gW]
theorem Fg(x:List aB):cH x<=8*iF x:=by grind [u6,iF]
def dH:List aB->Nat->Nat
 | [],_=>0
 | _::_,0=>0
 | x::xs,i+1=>aB.sz x+dH xs i
def ly(x:List aB):dH x 0=0:=by cases x<;>rfl
def qE:∀(x:List aB)(i:Nat)(y:aB),x[i]? = some y->dH x (i+1)=dH x i+aB.sz y
 | [],i,y,h=>by simp at h
 | x::xs,0,y,h=>by simp at h;subst h;simp[dH,ly]
 | x::xs,i+1,y,h=>by
  simp only[dH];rw[qE xs i y (by simpa using h)];omega
def sO:∀(x:List aB),dH x x.length=gW x
 | []=>rfl
 | x::xs=>by simp only[List.length_cons,dH,gW,sO xs]
def ou:∀(x:List aB)(i:Nat),dH x i<=gW x
 | [],_=>by simp[dH]
 | x::xs,0=>by simp[dH]
 | x::xs,i+1=>by simp only[dH,gW];have:=ou xs i;omega
def pQ:∀(x:List aB)(i:Nat),dm x i<=cH x
 | [],_=>by simp[dm]
 | x::xs,0=>by simp[dm]
 | x::xs,i+1=>by simp only[dm,cH];have:=pQ xs i;omega
structure aV where
 To:Int
 Addr:Int
deriving DecidableEq,Inhabited
def aV.enc(o:eS)(x:aV):List C:=[I x.To,I x.Addr]
def aV.enc_fz(x:aV):du (aV.enc .own x)=aV.enc .O x:=by simp[du,aV.enc]
def aV.enc_fr(x:aV):gl (aV.enc .own x):=⟨tV1,tV1,tV1⟩
def aV.wf(x:aV):Prop:=nM x.To/\nM x.Addr
def aV.cnt(_:aV):Nat:=2
def aV.sml(_:aV):Prop:=True
def aV.mark(_:aV)(k:Int):aV:=⟨k,k+1⟩
def bf(o:eS)(x:List aV):List C:=[.s o (x.map (aV.enc o))]
def rR(x:List aV):du (bf .own x)=bf .O x:=by simp[du,bf,aV.enc_fz,<-cf,OB]
theorem lB(x:List aV):gl (bf .own x):=⟨⟨.inl ψ,bg _ _ λy _=>aV.enc_fr y⟩,tV1⟩
def EB(x:List aV):Prop:=x.length<=9223372036854775807/\∀y∈x,aV.wf y
def eQ:List aV->Nat
 | []=>0
 | x::xs=>aV.cnt x+eQ xs
def jK(x:List aV):Nat:=x.length
def od(x:List aV):Prop:=x.length<=1048576/\∀y∈x,aV.sml y
def fy:List aV->Int->List aV
 | [],_=>[]
 | x::xs,k=>aV.mark x k::fy xs (k+(aV.cnt x:Nat))
def ow:∀(x:List aV)(k:Int),(fy x k).length=x.length
 | [],_=>rfl
 | _::xs,k=>by simp[fy,ow xs]
def en:List aV->Nat->Nat
 | [],_=>0
 | _::_,0=>0
 | x::xs,i+1=>aV.cnt x+en xs i
def o6:∀(x:List aV)(k:Int)(i:Nat)(y:aV),x[i]? = some y->(fy x k)[i]? = some (aV.mark y (k+(en x i:Nat)))
 | [],_,i,y,h=>by simp at h
 | x::xs,k,0,y,h=>by simp at h;subst h;simp[fy,en]
 | x::xs,k,i+1,y,h=>by
  simp only[fy,List.getElem?_cons_succ];rw[o6 xs _ i y (by simpa using h)]
  congr 2
  simp only[en];omega
def oZ(x:List aV):en x 0=0:=by cases x<;>rfl
def oC:∀(x:List aV)(i:Nat)(y:aV),x[i]? = some y->en x (i+1)=en x i+aV.cnt y
 | [],i,y,h=>by simp at h
 | x::xs,0,y,h=>by simp at h;subst h;simp[en,oZ]
 | x::xs,i+1,y,h=>by
  simp only[en];rw[oC xs i y (by simpa using h)];omega
def qu:∀(x:List aV),en x x.length=eQ x
 | []=>rfl
 | x::xs=>by simp only[List.length_cons,en,eQ,qu xs]
def Kx{x:List aV}(h:jK x<=1048576):od x:=⟨h,λ_ _=>tV1⟩
theorem rV:∀(x:List aV),eQ x<=8*jK x
 | []=>by simp[eQ]
 | x::xs=>by have:=rV xs;grind [eQ,jK,aV.cnt]
def ro:∀(x:List aV)(i:Nat),en x i<=eQ x
 | [],_=>by simp[en]
 | x::xs,0=>by simp[en]
 | x::xs,i+1=>by simp only[en,eQ];have:=ro xs i;omega
def fw(o:eS)(x:List (List aV)):List C:=[.s o (x.map (bf o))]
theorem LX(x:List (List aV)):gl (fw .own x):=⟨⟨.inl ψ,bg _ _ λy _=>lB y⟩,tV1⟩
def y9(x:List (List aV)):Prop:=x.length<=9223372036854775807/\∀y∈x,EB y
def dr:List (List aV)->Nat
 | []=>0
 | x::xs=>eQ x+dr xs
def gV:List (List aV)->Nat
 | []=>0
 | x::xs=>jK x+gV xs
def iA(x:List (List aV)):Nat:=x.length+gV x
def lr(x:List (List aV)):Prop:=x.length<=1048576/\∀y∈x,od y
def eY:List (List aV)->Int->List (List aV)
 | [],_=>[]
 | x::xs,k=>fy x k::eY xs (k+(eQ x:Nat))
def mF:∀(x:List (List aV))(k:Int),(eY x k).length=x.length
 | [],_=>rfl
 | _::xs,k=>by simp[eY,mF xs]
def dh:List (List aV)->Nat->Nat
 | [],_=>0
 | _::_,0=>0
 | x::xs,i+1=>eQ x+dh xs i
def mD:∀(x:List (List aV))(k:Int)(i:Nat)(y:List aV),x[i]? = some y->(eY x k)[i]? = some (fy y (k+(dh x i:Nat)))
 | [],_,i,y,h=>by simp at h
 | x::xs,k,0,y,h=>by simp at h;subst h;simp[eY,dh]
 | x::xs,k,i+1,y,h=>by
  simp only[eY,List.getElem?_cons_succ];rw[mD xs _ i y (by simpa using h)]
  congr 2
  simp only[dh];omega
def nh(x:List (List aV)):dh x 0=0:=by cases x<;>rfl
def na:∀(x:List (List aV))(i:Nat)(y:List aV),x[i]? = some y->dh x (i+1)=dh x i+eQ y
 | [],i,y,h=>by simp at h
 | x::xs,0,y,h=>by simp at h;subst h;simp[dh,nh]
 | x::xs,i+1,y,h=>by
  simp only[dh];rw[na xs i y (by simpa using h)];omega
def oN:∀(x:List (List aV)),dh x x.length=dr x
 | []=>rfl
 | x::xs=>by simp only[List.length_cons,dh,dr,oN xs]
def uw:∀{x:List (List aV)}{y:List aV},y∈x->jK y<=gV x
 | [],y,h=>by simp at h
 | x::xs,y,h=>by
  simp only[gV];rcases List.mem_cons.1 h with rfl|h
  ·omega
  have:=uw h;omega
theorem Fj{x:List (List aV)}(h:iA x<=1048576):lr x:=⟨by grind [iA],λy a=>Kx (by have:=uw a;grind [iA])⟩
theorem tH:∀(x:List (List aV)),dr x<=8*gV x
 | []=>by simp[dr]
 | x::xs=>by have:=tH xs;grind [rV,dr,gV]
theorem FV(x:List (List aV)):dr x<=8*iA x:=by grind [tH,iA]
def dC:List (List aV)->Nat->Nat
 | [],_=>0
 | _::_,0=>0
 | x::xs,i+1=>jK x+dC xs i
def lG(x:List (List aV)):dC x 0=0:=by cases x<;>rfl
def qR:∀(x:List (List aV))(i:Nat)(y:List aV),x[i]? = some y->dC x (i+1)=dC x i+jK y
 | [],i,y,h=>by simp at h
 | x::xs,0,y,h=>by simp at h;subst h;simp[dC,lG]
 | x::xs,i+1,y,h=>by
  simp only[dC];rw[qR xs i y (by simpa using h)];omega
def sK:∀(x:List (List aV)),dC x x.length=gV x
 | []=>rfl
 | x::xs=>by simp only[List.length_cons,dC,gV,sK xs]
def oR:∀(x:List (List aV))(i:Nat),dC x i<=gV x
 | [],_=>by simp[dC]
 | x::xs,0=>by simp[dC]
 | x::xs,i+1=>by simp only[dC,gV];have:=oR xs i;omega
def qi:∀(x:List (List aV))(i:Nat),dh x i<=dr x
 | [],_=>by simp[dh]
 | x::xs,0=>by simp[dh]
 | x::xs,i+1=>by simp only[dh,dr];have:=qi xs i;omega
structure aJ where
 T:List (List aV)
 e:List (List Int)
deriving DecidableEq,Inhabited
def aJ.enc(o:eS)(x:aJ):List C:=[.s o (x.T.map (bf o)),.s o (x.e.map (aI o))]
def aJ.enc_fz(x:aJ):du (aJ.enc .own x)=aJ.enc .O x:=by simp[du,aJ.enc,rR,eI,<-cf,OB]
def Cv:type_of% @aJ.enc_fz:=@aJ.enc_fz
theorem aJ.enc_fr(x:aJ):gl (aJ.enc .own x):=⟨⟨.inl ψ,bg _ _ λy _=>lB y⟩,⟨.inl ψ,bg _ _ λy _=>bO y⟩,tV1⟩
def Cr:type_of% @aJ.enc_fr:=@aJ.enc_fr
def aJ.wf(x:aJ):Prop:=y9 x.T/\yg x.e
def aJ.cnt(x:aJ):Nat:=dr x.T+eN x.e
def aJ.sz(x:aJ):Nat:=iA x.T+szIntSS x.e
def aJ.sml(x:aJ):Prop:=lr x.T/\mc x.e
theorem aJ.sml_of{x:aJ}(h:aJ.sz x<=1048576):aJ.sml x:=⟨Fj (by grind [aJ.sz]),tP (by grind [aJ.sz])⟩
theorem aJ.cnt_le(x:aJ):aJ.cnt x<=8*aJ.sz x:=by grind [FV,t8,aJ.cnt,aJ.sz]
def aJ.mark(x:aJ)(k:Int):aJ:={x with T:=eY x.T (k),e:=markIntSS x.e (k+(dr x.T:Nat))}
structure aK where
 Addr:Int
 Z:Int
 a9:Int
deriving DecidableEq,Inhabited
def aK.enc(o:eS)(x:aK):List C:=[I x.Addr,I x.Z,I x.a9]
def aK.enc_fz(x:aK):du (aK.enc .own x)=aK.enc .O x:=by simp[du,aK.enc]
def aK.enc_fr(x:aK):gl (aK.enc .own x):=⟨tV1,tV1,tV1,tV1⟩
def aK.wf(x:aK):Prop:=nM x.Addr/\nM x.Z/\nM x.a9
def aK.cnt(_:aK):Nat:=3
def aK.sml(_:aK):Prop:=True
def aK.mark(_:aK)(k:Int):aK:=⟨k,k+1,k+1+1⟩
def bJ(o:eS)(x:List aK):List C:=[.s o (x.map (aK.enc o))]
def Ly(x:List aK):du (bJ .own x)=bJ .O x:=by simp[du,bJ,aK.enc_fz,<-cf,OB]
theorem mh(x:List aK):gl (bJ .own x):=⟨⟨.inl ψ,bg _ _ λy _=>aK.enc_fr y⟩,tV1⟩
def yp(x:List aK):Prop:=x.length<=9223372036854775807/\∀y∈x,aK.wf y
def ed:List aK->Nat
 | []=>0
 | x::xs=>aK.cnt x+ed xs
def oc(x:List aK):Nat:=x.length
def gT(x:List aK):Prop:=x.length<=1048576/\∀y∈x,aK.sml y
def eZ:List aK->Int->List aK
 | [],_=>[]
 | x::xs,k=>aK.mark x k::eZ xs (k+(aK.cnt x:Nat))
def mR:∀(x:List aK)(k:Int),(eZ x k).length=x.length
 | [],_=>rfl
 | _::xs,k=>by simp[eZ,mR xs]
def dq:List aK->Nat->Nat
 | [],_=>0
 | _::_,0=>0
 | x::xs,i+1=>aK.cnt x+dq xs i
def mL:∀(x:List aK)(k:Int)(i:Nat)(y:aK),x[i]? = some y->(eZ x k)[i]? = some (aK.mark y (k+(dq x i:Nat)))
 | [],_,i,y,h=>by simp at h
 | x::xs,k,0,y,h=>by simp at h;subst h;simp[eZ,dq]
 | x::xs,k,i+1,y,h=>by
  simp only[eZ,List.getElem?_cons_succ];rw[mL xs _ i y (by simpa using h)]
  congr 2
  simp only[dq];omega
def nj(x:List aK):dq x 0=0:=by cases x<;>rfl
def mV:∀(x:List aK)(i:Nat)(y:aK),x[i]? = some y->dq x (i+1)=dq x i+aK.cnt y
 | [],i,y,h=>by simp at h
 | x::xs,0,y,h=>by simp at h;subst h;simp[dq,nj]
 | x::xs,i+1,y,h=>by
  simp only[dq];rw[mV xs i y (by simpa using h)];omega
def oJ:∀(x:List aK),dq x x.length=ed x
 | []=>rfl
 | x::xs=>by simp only[List.length_cons,dq,ed,oJ xs]
def Fw{x:List aK}(h:oc x<=1048576):gT x:=⟨h,λ_ _=>tV1⟩
theorem vB:∀(x:List aK),ed x<=8*oc x
 | []=>by simp[ed]
 | x::xs=>by have:=vB xs;grind [ed,oc,aK.cnt]
def ql:∀(x:List aK)(i:Nat),dq x i<=ed x
 | [],_=>by simp[dq]
 | x::xs,0=>by simp[dq]
 | x::xs,i+1=>by simp only[dq,ed];have:=ql xs i;omega
structure aY where
 b2:Int
 l:List aK
deriving DecidableEq,Inhabited
def aY.enc(o:eS)(x:aY):List C:=[I x.b2,.s o (x.l.map (aK.enc o))]
def aY.enc_fz(x:aY):du (aY.enc .own x)=aY.enc .O x:=by simp[du,aY.enc,aK.enc_fz,<-cf,OB]
theorem aY.enc_fr(x:aY):gl (aY.enc .own x):=⟨tV1,⟨.inl ψ,bg _ _ λy _=>aK.enc_fr y⟩,tV1⟩
def aY.wf(x:aY):Prop:=nM x.b2/\yp x.l
def aY.cnt(x:aY):Nat:=ed x.l
def aY.sz(x:aY):Nat:=oc x.l
def aY.sml(x:aY):Prop:=gT x.l
theorem aY.sml_of{x:aY}(h:aY.sz x<=1048576):aY.sml x:=Fw (by grind [aY.sz])
theorem aY.cnt_le(x:aY):aY.cnt x<=8*aY.sz x:=by grind [vB,aY.cnt,aY.sz]
def aY.mark(x:aY)(k:Int):aY:={x with l:=eZ x.l (k)}
structure bn where
 a5:Int
 a7:Int
 U:List Int
deriving DecidableEq,Inhabited
def bn.enc(o:eS)(x:bn):List C:=[I x.a5,I x.a7,.s o (x.U.map (rI o))]
def bn.enc_fz(x:bn):du (bn.enc .own x)=bn.enc .O x:=by simp[du,bn.enc,rI,<-cf,OB]
theorem bn.enc_fr(x:bn):gl (bn.enc .own x):=⟨tV1,tV1,⟨.inl ψ,bg _ _ λy _=>vD y⟩,tV1⟩
def bn.wf(x:bn):Prop:=nM x.a5/\nM x.a7/\kR x.U
def bn.cnt(x:bn):Nat:=eB x.U
def bn.sz(x:bn):Nat:=szIntS x.U
def bn.sml(x:bn):Prop:=lN x.U
theorem bn.sml_of{x:bn}(h:bn.sz x<=1048576):bn.sml x:=rv (by grind [bn.sz])
theorem bn.cnt_le(x:bn):bn.cnt x<=8*bn.sz x:=by grind [wv,bn.cnt,bn.sz]
def bn.mark(x:bn)(k:Int):bn:={x with U:=markIntS x.U (k)}
structure bz where
 d:bn
 a8:Int
 j:Int
deriving DecidableEq,Inhabited
def bz.enc(o:eS)(x:bz):List C:=[I x.d.a5,I x.d.a7,.s o (x.d.U.map (rI o)),I x.a8,I x.j]
def bz.enc_fz(x:bz):du (bz.enc .own x)=bz.enc .O x:=by simp[du,bz.enc,rI,<-cf,OB]
theorem bz.enc_fr(x:bz):gl (bz.enc .own x):=⟨tV1,tV1,⟨.inl ψ,bg _ _ λy _=>vD y⟩,tV1,tV1,tV1⟩
def bz.wf(x:bz):Prop:=bn.wf x.d/\nM x.a8/\nM x.j
def bz.cnt(x:bz):Nat:=bn.cnt x.d
def bz.sz(x:bz):Nat:=bn.sz x.d
def bz.sml(x:bz):Prop:=bn.sml x.d
theorem bz.sml_of{x:bz}(h:bz.sz x<=1048576):bz.sml x:=bn.sml_of (by grind [bz.sz])
theorem bz.cnt_le(x:bz):bz.cnt x<=8*bz.sz x:=by grind [bn.cnt_le,bz.cnt,bz.sz]
def bz.mark(x:bz)(k:Int):bz:={x with d:=bn.mark x.d (k)}
structure ac where
 G:af
 a:List aD
 J:List aC
 H:List aA
 K:List aW
 Q:List aB
 b:aJ
 r:aY
 b3:Int
 a4:Int
 b7:Int
 j:Int
 w:Bool
 a2:bz
deriving DecidableEq,Inhabited
def ac.enc(o:eS)(x:ac):List C:=[.s o (x.G.F.V.U.map (aI o)),.s o (x.G.F.V.y.map (rB o)),.s o (x.G.F.R.M.map (aS.enc o)),I x.G.Calls,.s o (x.G.k.map (rI o)),.s o (x.a.map (aD.enc o)),.s o (x.J.map (aC.enc o)),.s o (x.H.map (aA.enc o)),.s o (x.K.map (aW.enc o)),.s o (x.Q.map (aB.enc o)),.s o (x.b.T.map (bf o)),.s o (x.b.e.map (aI o)),I x.r.b2,.s o (x.r.l.map (aK.enc o)),I x.b3,I x.a4,I x.b7,I x.j,B x.w,I x.a2.d.a5,I x.a2.d.a7,.s o (x.a2.d.U.map (rI o)),I x.a2.a8,I x.a2.j]
def ac.enc_fz(x:ac):du (ac.enc .own x)=ac.enc .O x:=by simp[du,ac.enc,Cp,aS.enc_fz,aA.enc_fz,aW.enc_fz,aD.enc_fz,aC.enc_fz,aK.enc_fz,rB,rR,rI,eI,<-cf,OB]
theorem ac.enc_fr(x:ac):gl (ac.enc .own x):=⟨⟨.inl ψ,bg _ _ λy _=>bO y⟩,⟨.inl ψ,bg _ _ λy _=>GA y⟩,⟨.inl ψ,bg _ _ λy _=>aS.enc_fr y⟩,tV1,⟨.inl ψ,bg _ _ λy _=>vD y⟩,⟨.inl ψ,bg _ _ λy _=>aD.enc_fr y⟩,⟨.inl ψ,bg _ _ λy _=>aC.enc_fr y⟩,⟨.inl ψ,bg _ _ λy _=>aA.enc_fr y⟩,⟨.inl ψ,bg _ _ λy _=>aW.enc_fr y⟩,⟨.inl ψ,bg _ _ λy _=>Cs y⟩,⟨.inl ψ,bg _ _ λy _=>lB y⟩,⟨.inl ψ,bg _ _ λy _=>bO y⟩,tV1,⟨.inl ψ,bg _ _ λy _=>aK.enc_fr y⟩,tV1,tV1,tV1,tV1,tV1,tV1,tV1,⟨.inl ψ,bg _ _ λy _=>vD y⟩,tV1,tV1,tV1⟩
def ac.wf(x:ac):Prop:=af.wf x.G/\yX x.a/\D4 x.J/\zm x.H/\Jo x.K/\yY x.Q/\aJ.wf x.b/\aY.wf x.r/\nM x.b3/\nM x.a4/\nM x.b7/\nM x.j/\wfB x.w/\bz.wf x.a2
def ac.cnt(x:ac):Nat:=af.cnt x.G+cr x.a+cN x.J+cy x.H+eK x.K+cH x.Q+aJ.cnt x.b+aY.cnt x.r+bz.cnt x.a2
def ac.sz(x:ac):Nat:=af.sz x.G+nK x.a+qF x.J+nU x.H+uL x.K+iF x.Q+aJ.sz x.b+aY.sz x.r+bz.sz x.a2
def ac.sml(x:ac):Prop:=af.sml x.G/\eJ x.a/\cP x.J/\cV x.H/\qT x.K/\lK x.Q/\aJ.sml x.b/\aY.sml x.r/\bz.sml x.a2
theorem ac.sml_of{x:ac}(h:ac.sz x<=1048576):ac.sml x:=⟨af.sml_of (by grind [ac.sz]),F4 (by grind [ac.sz]),HY (by grind [ac.sz]),Fa (by grind [ac.sz]),Nr (by grind [ac.sz]),EX (by grind [ac.sz]),aJ.sml_of (by grind [ac.sz]),aY.sml_of (by grind [ac.sz]),bz.sml_of (by grind [ac.sz])⟩
theorem ac.cnt_le(x:ac):ac.cnt x<=8*ac.sz x:=by unfold ac.cnt ac.sz;have:=af.cnt_le x.G;have:=vt x.a;grind [x4,vO,zS,Fg,aJ.cnt_le,aY.cnt_le,bz.cnt_le]
def ac.mark(x:ac)(k:Int):ac:={x with G:=af.mark x.G (k),a:=eX x.a (k+(af.cnt x.G:Nat)),J:=fW x.J (k+(af.cnt x.G:Nat)+(cr x.a:Nat)),H:=eU x.H (k+(af.cnt x.G:Nat)+(cr x.a:Nat)+(cN x.J:Nat)),K:=gy x.K (k+(af.cnt x.G:Nat)+(cr x.a:Nat)+(cN x.J:Nat)+(cy x.H:Nat)),Q:=fh x.Q (k+(af.cnt x.G:Nat)+(cr x.a:Nat)+(cN x.J:Nat)+(cy x.H:Nat)+(eK x.K:Nat)),b:=aJ.mark x.b (k+(af.cnt x.G:Nat)+(cr x.a:Nat)+(cN x.J:Nat)+(cy x.H:Nat)+(eK x.K:Nat)+(cH x.Q:Nat)),r:=aY.mark x.r (k+(af.cnt x.G:Nat)+(cr x.a:Nat)+(cN x.J:Nat)+(cy x.H:Nat)+(eK x.K:Nat)+(cH x.Q:Nat)+(aJ.cnt x.b:Nat)),a2:=bz.mark x.a2 (k+(af.cnt x.G:Nat)+(cr x.a:Nat)+(cN x.J:Nat)+(cy x.H:Nat)+(eK x.K:Nat)+(cH x.Q:Nat)+(aJ.cnt x.b:Nat)+(aY.cnt x.r:Nat))}
structure ll where
 a6:Int
 c0:Int
 c3:Int
 c1:Int
deriving DecidableEq,Inhabited
def ll.enc(o:eS)(x:ll):List C:=[I x.a6,I x.c0,I x.c3,I x.c1]
def ll.enc_fr(x:ll):gl (ll.enc .own x):=⟨tV1,tV1,tV1,tV1,tV1⟩
structure a2m where
 Id:Int
 q:Int
 Sum:Int
deriving DecidableEq,Inhabited
structure aF where
 Id:Int
 U:List Int
deriving DecidableEq,Inhabited
def aF.enc(o:eS)(x:aF):List C:=[I x.Id,.s o (x.U.map (rI o))]
def aF.enc_fz(x:aF):du (aF.enc .own x)=aF.enc .O x:=by simp[du,aF.enc,rI,<-cf,OB]
theorem aF.enc_fr(x:aF):gl (aF.enc .own x):=⟨tV1,⟨.inl ψ,bg _ _ λy _=>vD y⟩,tV1⟩
def aF.wf(x:aF):Prop:=nM x.Id/\kR x.U
def aF.cnt(x:aF):Nat:=eB x.U
def aF.sz(x:aF):Nat:=szIntS x.U
def aF.sml(x:aF):Prop:=lN x.U
theorem aF.sml_of{x:aF}(h:aF.sz x<=1048576):aF.sml x:=rv (by grind [aF.sz])
def f6(o:eS)(x:List aF):List C:=[.s o (x.map (aF.enc o))]
theorem Kb(x:List aF):gl (f6 .own x):=⟨⟨.inl ψ,bg _ _ λy _=>aF.enc_fr y⟩,tV1⟩
def vW(x:List aF):Prop:=x.length<=9223372036854775807/\∀y∈x,aF.wf y
def um:List aF->Nat
 | []=>0
 | x::xs=>aF.cnt x+um xs
def ek:List aF->Nat
 | []=>0
 | x::xs=>aF.sz x+ek xs
def iW(x:List aF):Nat:=x.length+ek x
def ko(x:List aF):Prop:=x.length<=1048576/\∀y∈x,aF.sml y
def im:List aF->Nat->Nat
 | [],_=>0
 | _::_,0=>0
 | x::xs,i+1=>aF.cnt x+im xs i
def yz(x:List aF):im x 0=0:=by cases x<;>rfl
def yN:∀(x:List aF)(i:Nat)(y:aF),x[i]? = some y->im x (i+1)=im x i+aF.cnt y
 | [],i,y,h=>by simp at h
 | x::xs,0,y,h=>by simp at h;subst h;simp[im,yz]
 | x::xs,i+1,y,h=>by
  simp only[im];rw[yN xs i y (by simpa using h)];omega
def A9:∀(x:List aF),im x x.length=um x
 | []=>rfl
 | x::xs=>by simp only[List.length_cons,im,um,A9 xs]
def sM:∀{x:List aF}{y:aF},y∈x->aF.sz y<=ek x
 | [],y,h=>by simp at h
 | x::xs,y,h=>by
  simp only[ek];rcases List.mem_cons.1 h with rfl|h
  ·omega
  have:=sM h;omega
theorem Ep{x:List aF}(h:iW x<=1048576):ko x:=⟨by grind [iW],λy a=>aF.sml_of (by have:=sM a;grind [iW])⟩
def cX:List aF->Nat->Nat
 | [],_=>0
 | _::_,0=>0
 | x::xs,i+1=>aF.sz x+cX xs i
def kJ(x:List aF):cX x 0=0:=by cases x<;>rfl
def pE:∀(x:List aF)(i:Nat)(y:aF),x[i]? = some y->cX x (i+1)=cX x i+aF.sz y
 | [],i,y,h=>by simp at h
 | x::xs,0,y,h=>by simp at h;subst h;simp[cX,kJ]
 | x::xs,i+1,y,h=>by
  simp only[cX];rw[pE xs i y (by simpa using h)];omega
def qP:∀(x:List aF),cX x x.length=ek x
 | []=>rfl
 | x::xs=>by simp only[List.length_cons,cX,ek,qP xs]
def mX:∀(x:List aF)(i:Nat),cX x i<=ek x
 | [],_=>by simp[cX]
 | x::xs,0=>by simp[cX]
 | x::xs,i+1=>by simp only[cX,ek];have:=mX xs i;omega
structure ar where
 j:Int
 K:List aF
deriving DecidableEq,Inhabited
def ar.enc(o:eS)(x:ar):List C:=[I x.j,.s o (x.K.map (aF.enc o))]
def ar.enc_fz(x:ar):du (ar.enc .own x)=ar.enc .O x:=by simp[du,ar.enc,aF.enc_fz,<-cf,OB]
def Cw:type_of% @ar.enc_fz:=@ar.enc_fz
theorem ar.enc_fr(x:ar):gl (ar.enc .own x):=⟨tV1,⟨.inl ψ,bg _ _ λy _=>aF.enc_fr y⟩,tV1⟩
def Ct:type_of% @ar.enc_fr:=@ar.enc_fr
def ar.wf(x:ar):Prop:=nM x.j/\vW x.K
def ar.sz(x:ar):Nat:=iW x.K
def ar.sml(x:ar):Prop:=ko x.K
theorem ar.sml_of{x:ar}(h:ar.sz x<=1048576):ar.sml x:=Ep (by grind [ar.sz])
structure aP where
 W:ac
 b0:ar
deriving DecidableEq,Inhabited
def aP.enc(o:eS)(x:aP):List C:=[.s o (x.W.G.F.V.U.map (aI o)),.s o (x.W.G.F.V.y.map (rB o)),.s o (x.W.G.F.R.M.map (aS.enc o)),I x.W.G.Calls,.s o (x.W.G.k.map (rI o)),.s o (x.W.a.map (aD.enc o)),.s o (x.W.J.map (aC.enc o)),.s o (x.W.H.map (aA.enc o)),.s o (x.W.K.map (aW.enc o)),.s o (x.W.Q.map (aB.enc o)),.s o (x.W.b.T.map (bf o)),.s o (x.W.b.e.map (aI o)),I x.W.r.b2,.s o (x.W.r.l.map (aK.enc o)),I x.W.b3,I x.W.a4,I x.W.b7,I x.W.j,B x.W.w,I x.W.a2.d.a5,I x.W.a2.d.a7,.s o (x.W.a2.d.U.map (rI o)),I x.W.a2.a8,I x.W.a2.j,I x.b0.j,.s o (x.b0.K.map (aF.enc o))]
theorem aP.enc_fr(x:aP):gl (aP.enc .own x):=⟨⟨.inl ψ,bg _ _ λy _=>bO y⟩,⟨.inl ψ,bg _ _ λy _=>GA y⟩,⟨.inl ψ,bg _ _ λy _=>aS.enc_fr y⟩,tV1,⟨.inl ψ,bg _ _ λy _=>vD y⟩,⟨.inl ψ,bg _ _ λy _=>aD.enc_fr y⟩,⟨.inl ψ,bg _ _ λy _=>aC.enc_fr y⟩,⟨.inl ψ,bg _ _ λy _=>aA.enc_fr y⟩,⟨.inl ψ,bg _ _ λy _=>aW.enc_fr y⟩,⟨.inl ψ,bg _ _ λy _=>Cs y⟩,⟨.inl ψ,bg _ _ λy _=>lB y⟩,⟨.inl ψ,bg _ _ λy _=>bO y⟩,tV1,⟨.inl ψ,bg _ _ λy _=>aK.enc_fr y⟩,tV1,tV1,tV1,tV1,tV1,tV1,tV1,⟨.inl ψ,bg _ _ λy _=>vD y⟩,tV1,tV1,tV1,⟨.inl ψ,bg _ _ λy _=>aF.enc_fr y⟩,tV1⟩
def aP.wf(x:aP):Prop:=ac.wf x.W/\ar.wf x.b0
def aP.sz(x:aP):Nat:=ac.sz x.W+ar.sz x.b0
def aP.sml(x:aP):Prop:=ac.sml x.W/\ar.sml x.b0
theorem aP.sml_of{x:aP}(h:aP.sz x<=1048576):aP.sml x:=⟨ac.sml_of (by grind [aP.sz]),ar.sml_of (by grind [aP.sz])⟩
structure a0r where
 a0:Int
 Mapped:Int
 V:Int
 Held:Int
 sv:Int
 Cached:Int
 b1:Int
 Posted:Int
deriving DecidableEq,Inhabited
variable{α:Type}
def Lm{β:Type}{f:α->β}{l:List α}{K:Nat->Prop}(h:K l.length):Ln (l.map f).length K:=Cc (I2 ..) h
variable{z:Int}
def Wm{K:Int->Prop}(h : -9223372036854775808<=z/\z<=9223372036854775807)(a:K z):Wr .i64 z K:=CT (ij h.1 h.2) a
variable{X Y p:Prop}
def dT[Decidable p](h:p)(a:p->X):Bf (decide p) X Y:=.D a λe=>absurd h e
def dF[Decidable p](h:¬p)(a:¬p->Y):Bf (decide p) X Y:=.D (λe=>absurd e h) a
variable{a b:Int}
def nT(h:a≠b)(c:a≠b->X):Bf (a != b) X Y:=.N c λe=>absurd e h
def nF(h:a=b)(c:a=b->Y):Bf (a != b) X Y:=.N (λe=>absurd h e) c
def eT(h:a=b)(c:a=b->X):Bf (a == b) X Y:=.E c λe=>absurd h e
def eF(h:a≠b)(c:a≠b->Y):Bf (a == b) X Y:=.E (λe=>absurd e h) c
def Bn{b:Bool}(h:Bf b Y X):Bf (!b) X Y:=.not h
def Bt(h:X):Bf true X Y:=.t rfl h
def Bu(h:Y):Bf false X Y:=.f rfl h
def Fm{k b:Kd}{cs a:List C}(h1:k=b)(h:cs=a):pU k b cs a:=.mk h1 h
def dV[Decidable p](h:p)(a:X):Bf (decide p) X Y:=.D (λ_=>a) λe=>absurd h e
def dW[Decidable p](h:¬p)(a:Y):Bf (decide p) X Y:=.D (λe=>absurd e h) λ_=>a
def nV(h:a≠b)(c:X):Bf (a != b) X Y:=.N (λ_=>c) λe=>absurd e h
def nW(h:a=b)(c:Y):Bf (a != b) X Y:=.N (λe=>absurd h e) λ_=>c
def eV(h:a=b)(c:X):Bf (a == b) X Y:=.E (λ_=>c) λe=>absurd h e
def eW(h:a≠b)(c:Y):Bf (a == b) X Y:=.E (λe=>absurd e h) λ_=>c
structure TH(Y:Prop):Prop where
 out:Y
structure σF(X Y:Prop):Prop where
def σF.rf{X:Prop}:σF X X:=⟨⟩
def gO(y:Y)(h:TH Y->X:=by intro y;(conv=>whnf);(first|with_reducible (first|refine Lm ?_|refine Wm ω ?_|refine Bn ?_|refine Fm rfl ?_)|refine Bt ?_|refine Bu ?_|skip);exact y.out)(_:σF X Y:=by (fail_if_success with_reducible exact σF.rf);exact ⟨⟩):X:=h ⟨y⟩
def gP(y:Y)(h:TH Y->X:=by intro y;(conv=>whnf);(first|with_reducible (first|refine Lm ?_|refine Wm ω ?_|refine Bn ?_|refine Fm rfl ?_)|refine Bt ?_|refine Bu ?_|refine CG (by assumption) ?_|refine CI (aa (by assumption)) ?_|refine CM rfl (aa (by assumption)) rfl ?_|refine CH ?_|refine CP (by assumption) (.inl rfl) ?_|skip);exact y.out)(_:σF X Y:=by (fail_if_success with_reducible exact σF.rf);exact ⟨⟩):X:=h ⟨y⟩
def gD(y:Y)(h:TH Y->X:=by intro y;(conv=>whnf);(first|with_reducible (first|refine Lm ?_|refine Wm ω ?_|refine dV ω ?_|refine dW ω ?_|refine Bn ?_|refine Fm rfl ?_)|refine Bt ?_|refine Bu ?_|skip);exact y.out)(_:σF X Y:=by (fail_if_success with_reducible exact σF.rf);exact ⟨⟩):X:=h ⟨y⟩
def gE(y:Y)(h:TH Y->X:=by intro y;(conv=>whnf);(first|with_reducible (first|refine Lm ?_|refine Wm ω ?_|refine dV ω ?_|refine dW ω ?_|refine Bn ?_|refine Fm rfl ?_)|refine Bt ?_|refine Bu ?_|refine CG (by assumption) ?_|refine CI (aa (by assumption)) ?_|refine CM rfl (aa (by assumption)) rfl ?_|refine CH ?_|refine CP (by assumption) (.inl rfl) ?_|skip);exact y.out)(_:σF X Y:=by (fail_if_success with_reducible exact σF.rf);exact ⟨⟩):X:=h ⟨y⟩
def gA(y:Y)(h:TH Y->X:=by intro y;(conv=>whnf);(first|with_reducible (first|refine Lm ?_|refine Wm ω ?_|refine dV ω ?_|refine dW ω ?_|refine nV ω ?_|refine nW ω ?_|refine eV ω ?_|refine eW ω ?_|refine Bn ?_|refine Fm rfl ?_)|refine Bt ?_|refine Bu ?_|skip);exact y.out)(_:σF X Y:=by (fail_if_success with_reducible exact σF.rf);exact ⟨⟩):X:=h ⟨y⟩
def gB(y:Y)(h:TH Y->X:=by intro y;(conv=>whnf);(first|with_reducible (first|refine Lm ?_|refine Wm ω ?_|refine dV ω ?_|refine dW ω ?_|refine nV ω ?_|refine nW ω ?_|refine eV ω ?_|refine eW ω ?_|refine Bn ?_|refine Fm rfl ?_)|refine Bt ?_|refine Bu ?_|refine CG (by assumption) ?_|refine CI (aa (by assumption)) ?_|refine CM rfl (aa (by assumption)) rfl ?_|refine CH ?_|refine CP (by assumption) (.inl rfl) ?_|skip);exact y.out)(_:σF X Y:=by (fail_if_success with_reducible exact σF.rf);exact ⟨⟩):X:=h ⟨y⟩
def σO(y:Y)(h:TH Y->X:=by intro y;(repeat' first|refine gO ?_|fail);exact y.out):X:=h ⟨y⟩
def σP(y:Y)(h:TH Y->X:=by intro y;(repeat' first|refine gP ?_|fail);exact y.out):X:=h ⟨y⟩
def σD(y:Y)(h:TH Y->X:=by intro y;(repeat' first|refine gD ?_|fail);exact y.out):X:=h ⟨y⟩
def σE(y:Y)(h:TH Y->X:=by intro y;(repeat' first|refine gE ?_|fail);exact y.out):X:=h ⟨y⟩
def σA(y:Y)(h:TH Y->X:=by intro y;(repeat' first|refine gA ?_|fail);exact y.out):X:=h ⟨y⟩
def σB(y:Y)(h:TH Y->X:=by intro y;(repeat' first|refine gB ?_|fail);exact y.out):X:=h ⟨y⟩
def Zq{z1 z2:Int}(h:z1=z2):WW (I z1) (I z2):=by subst h;rfl
def Zx(c:C):WW c c:=(lX [c]).1
def wA(h:X:=by repeat'(first|exact tV1|rfl|refine CL ?_ ?_)):X:=h
def wB(h:X:=by repeat'(first|exact tV1|rfl|refine CL ?_ ?_|(exact Zq (by first|omega|(simp only;omega)|(simp;omega))))):X:=h
def ks(h:X:=by refine CO rfl rfl ?_;exact wB):X:=h
def wC(h:X:=by repeat'(first|exact tV1|rfl|exact Zx _|refine CL ?_ ?_|(exact Zq (by first|omega|(simp only;omega)|(simp;omega))))):X:=h
def kk(h:X:=by refine CO rfl rfl ?_;exact wC):X:=h
variable{rcs: List C}{sh: Bool}{c: Code}{f: Nat}
def fO(n : Nat){a : Func}{A : List RA}{k : Kd}(tb : List (Nat × Nat × List Nat))(d : Tryz.prog.funcs[f]? = some a)(e : a.body = some c)(g : aw Tryz.prog TE ⟨n, [], []⟩ (DF Tryz.prog TE ⟨n, [], []⟩ tb) c (Yh TE a.results.toList k rcs) (lay (Jl 0 A)))(b : sh = true \/ gl rcs := by exact .inr ⟨tV1, trivial⟩)(h : (a.name == "runtime.NumGoroutine") = false := by kernel_rfl)(i : iJ (rr tb) c = true := by kernel_rfl)(j : A.length + (a.ntmps - A.length) = n := by rfl) : zzA f sh A k rcs := a0h d h e i j b g
def fP(n : Nat){a : Func}{A : List RA}{k : Kd}(mo : List (Nat × List Nat))(tb : List (Nat × Nat × List Nat))(d : Tryz.prog.funcs[f]? = some a)(e : a.body = some c)(g : aw Tryz.prog TE ⟨n, [], mo⟩ (DF Tryz.prog TE ⟨n, [], mo⟩ tb) c (Yh TE a.results.toList k rcs) (lay (Jl 0 A)))(b : sh = true \/ gl rcs := by exact .inr ⟨tV1, trivial⟩)(h : (a.name == "runtime.NumGoroutine") = false := by kernel_rfl)(i : iJ (rr tb) c = true := by kernel_rfl)(j : A.length + (a.ntmps - A.length) = n := by rfl) : zzA f sh A k rcs := a0h d h e i j b g
def fM(n : Nat){a : Func}{A B : List MA}{k : Kd}(mo : List (Nat × List Nat))(tb : List (Nat × Nat × List Nat))(b : List (Nat × Nat))(g : Tryz.prog.funcs[f]? = some a)(h : a.body = some c)(i : ∀(u : Nat -> Nat -> Value)(p : Nat -> Value), aw Tryz.prog TE ⟨n, R1 p 0 A, mo⟩ (DF Tryz.prog TE ⟨n, R1 p 0 A, mo⟩ tb) c (Zy TE a.results.toList k rcs u A B b) (lay (EE u 0 A)))(d : sh = true \/ gl rcs := by exact .inr ⟨tV1, trivial⟩)(j : (a.name == "runtime.NumGoroutine") = false := by kernel_rfl)(l : iJ (rr tb) c = true := by kernel_rfl)(o : A.length + (a.ntmps - A.length) = n := by rfl)(e : Qe (KW 0 A b) = true := by rfl) : zzB f sh A B k rcs := a1e b g j h l o e d i
abbrev fI(z:Int):AV:=.Y .one [I z]
abbrev fN(n:Nat):AV:=.Y .one [I n]
abbrev fB(b:Bool):AV:=.Y .one [B b]
abbrev b8(cs:List C):AV:=.Y .one cs
abbrev bX(cs:List C):AV:=.Y .box cs
abbrev RA.vI(z:Int):RA:=.val none [I z]
abbrev MA.vI(z:Int):MA:=.val none [I z]
def bE{a b:Bool}(h:a=b):[B a]=[B b]:=h ▸ rfl
def eE(h:a=b):[I a]=[I b]:=h ▸ rfl
class Sp (b:Bool) (p q:outParam Prop):Prop where
 f:(b=true->p)/\(b=false->q)
instance {p:Prop} [Decidable p]:Sp (decide p) p (¬p):=⟨of_decide_eq_true,of_decide_eq_false⟩
instance {a b:Int}:Sp (a==b) (a=b) (a≠b):=⟨by simp,by simp⟩
instance {a b:Int}:Sp (a != b) (a≠b) (a=b):=⟨by simp,by simp⟩
instance {a b:Bool}:Sp (a != b) (a≠b) (a=b):=⟨by simp,by simp⟩
def gS{b:Bool}{q:Prop}[s:Sp b p q](h1:p->X)(h2:q->Y):Bf b X Y:=.P (λh=>h1 (s.f.1 h)) (λh=>h2 (s.f.2 h))
theorem dL{ι : Type}{L : ι -> List (Nat × AV)}{inv : ι -> Prop}{μ : ι -> Nat}{i : ι}{F : Nat -> AV}(a : ι)(h1 : inv a)(h2 : μ a < μ i := by first|omega|(simp only;omega)|(simp;omega)|grind)(b : Wk F (L a) := by exact wC) : Nx ι L inv μ i F := .mk a h1 h2 b
section
variable{body : (Exit -> (Nat -> AV) -> Prop) -> (Nat -> AV) -> Prop}{Q : Exit -> (Nat -> AV) -> Prop}{F : Nat -> AV}
def pe{ι : Type}(L : ι -> List (Nat × AV))(inv : ι -> Prop)(μ : ι -> Nat)(a : ι)(h1 : inv a)(h2 : ∀i, inv i -> body (YC (Nx ι L inv μ i) Q) (lay (L i)))(b : Wk F (L a) := by exact wC) : Lp body Q F := .mk L inv μ a b h1 h2
def lp0(n : Nat)(L : Nat -> List (Nat × AV))(h2 : ∀i, i <= n -> body (YC (Nx Nat L (λi => i <= n) (λi => n - i) i) Q) (lay (L i)))(a : Wk F (L 0) := by exact wC) : Lp body Q F := .mk L (λi => i <= n) (λi => n - i) 0 a (I1 _) h2
def g0(n : Nat)(L : Nat -> List (Nat × AV))(I : Nat -> Prop)(h1 : I 0)(h2 : ∀i, i <= n /\ I i -> body (YC (Nx Nat L (λi => i <= n /\ I i) (λi => n - i) i) Q) (lay (L i)))(a : Wk F (L 0) := by exact wC) : Lp body Q F := .mk L (λi => i <= n /\ I i) (λi => n - i) 0 a ⟨I1 _, h1⟩ h2
end
def wD(h:X:=by repeat'(first|exact tV1|rfl|exact CL rfl (CL (O1 (Ab.C.s eS.own) (by simp[rI])) tV1)|refine CL ?_ ?_)):X:=h
def wR(h:X:=by repeat'(first|exact tV1|rfl|exact CL rfl (CL (O1 (Ab.C.s eS.own) (by simp[aD.enc])) tV1)|refine CL ?_ ?_)):X:=h
def a1w{c a:C}(h:a=c):WW c a:=h ▸ Zx _
def wE(h:X:=by repeat'(first|exact tV1|rfl|exact a1w (by assumption)|exact Zx _|refine CL ?_ ?_|(exact Zq (by first|omega|(simp only;omega)|(simp;omega))))):X:=h
section
variable{α:Type}{l:List α}{p:α->Bool}{i:Nat}{x:α}
theorem dy(h:l[i]? = some x)(a:(l.take i).all p=true)(b:p x=true):(l.take (i+1)).all p=true:=by grind [SA]
theorem ja(h:l[i]? = some x)(a:p x=false):l.all p=false:=ψ
theorem rY(a:l.length<=i)(b:(l.take i).all p=true):l.all p=true:=by grind [OE]
end
variable{i:Nat}
theorem Bd{β:Type}{a:List α}{b:List β}{x:α}{y:β}(h1:a[i]? = some x)(h2:b[i]? = some y):(a.zip b)[i]? = some (x,y):=ψ
def nth[Inhabited α](xs:List α)(i:Nat):α:=xs.getD i default
theorem au[Inhabited α]{xs:List α}(h:i<xs.length):xs[i]? = some (nth xs i):=by grind [nth]
theorem bI[Inhabited α]{xs:List α}{y:α}(h:xs[i]? = some y):nth xs i=y:=by grind [nth]
theorem ay[Inhabited α]{xs:List α}(h:i<xs.length):nth xs i∈xs:=t4 (au h)
def dK(n:Nat)(p:Nat->Bool):Bool:=(List.range n).all p
variable{n:Nat}
theorem cK{p:Nat->Bool} : dK n p=true↔∀j,j<n->p j=true:=by
 unfold dK;simp
theorem co{p:Nat->Bool}(h:dK n p=true)(a:p n=true):dK (n+1) p=true:=by grind [cK]
theorem cM{p:Nat->Bool}(a:i<n)(b:p i=false):dK n p=false:=by grind [cK]
theorem gY{p:Nat->Bool}(h:dK n p=true)(a:i<n):p i=true:=cK.1 h i a
def kY(u:Bool)(v:Int):Bool:=decide (0<=v/\v<=999)&&(u || decide (v=0))
def jH(r:List Int)(u:Bool):Bool:=decide (r.length=16)&&r.all (kY u)
def dM(f:aO):Bool:=decide (1<=f.U.length/\f.U.length<=32)&&(decide (f.y.length=f.U.length)&&(f.U.zip f.y).all λq=>jH q.1 q.2)
def kr{f:aO}{r:List Int}{u:Bool}(h1:f.U[i]? = some r)(h2:f.y[i]? = some u)(a:jH r u=false):dM f=false:=by
 unfold dM;rw[ja (p:=λq=>jH q.1 q.2) (Bd h1 h2) a];simp
variable{k:Nat}
theorem xq{r:List Int}{u:Bool}{v:Int}(h1:r[k]? = some v)(h2:kY u v=false):jH r u=false:=by grind [jH]
theorem J7{f:aO}(h:dM f=true):1<=f.U.length/\f.U.length<=32/\f.y.length=f.U.length:=by grind [dM]
def qY(a:Int)(e:aS):Bool:=decide (0<=e.o/\e.o<=2/\(e.o=0->e.g=0)/\(e.o≠0->0<=e.g/\e.g<a))
def iM(t:aL)(a:Int):Bool:=dK t.M.length (λi=>qY a (nth t.M i))&&decide (1<=t.M.length/\t.M.length<=32)
def Xe(t:aL)(f:Int)(i:Nat):Bool:=decide ((nth t.M i).o≠0/\(nth t.M i).g=f)
def ns(t:aL)(f:Int)(n:Nat):List Int:=((List.range n).filter (Xe t f)).map λ(i:Nat)=>(i:Int)
def pagesOn(t:aL)(f:Int):List Int:=ns t f t.M.length
theorem Hs{t:aL}{f:Int}(h:Xe t f n=true):ns t f (n+1)=ns t f n++[(n:Int)]:=by grind [List.range_succ,ns]
theorem LR{t:aL}{f:Int}(h:Xe t f n=false):ns t f (n+1)=ns t f n:=by grind [List.range_succ,ns]
theorem yS(t:aL)(f:Int)(n:Nat):(ns t f n).length<=n:=by grind [ns]
def ax(t:aL)(p:Int):aS:=if 0<=p/\p<t.M.length then nth t.M p.toNat else⟨0,0⟩
def td(m:aH)(i:Nat):Bool:=nth m.V.y i == decide (0<(pagesOn m.R (i:Int)).length)
def db(m:aH):Bool:=(dM m.V&&iM m.R m.V.y.length)&&dK m.V.y.length (td m)
def aN(k:af):Bool:=(dK k.k.length (λi=>decide (0<=nth k.k i))&&db k.F)&&decide (0<=k.Calls/\k.Calls<=100000/\k.k.length<=40)
def rangeIn(pages:Int)(r:aD):Bool:=decide (1<=r.a1/\r.a1<=pages/\0<=r.At/\r.At<=pages - r.a1)
def iT(pages:Int)(xs:List aD)(i:Nat):Bool:=rangeIn pages (nth xs i)&&decide (i=0\/(nth xs (i - 1)).At+(nth xs (i - 1)).a1<(nth xs i).At)
def bR(pages:Int)(xs:List aD):Bool:=dK xs.length (iT pages xs)&&decide (1<=pages/\pages<=32)
def AJ(page:Int)(r:aD):Bool:=decide (r.At<=page)&&decide (page<IntKind.i64.wrap (r.At+r.a1))
def lim(k:Int):Int:=if k=0 then 65535 else if k=1 then 255 else if k=2 then 15 else if k=3 then 3 else 0
def slots(k:Int):Int:=if k=0 then 16 else if k=1 then 8 else if k=2 then 4 else if k=3 then 2 else 0
def bu(s:aC):Bool:=decide (0<=s.S/\s.S<=31/\0<=s.Z/\s.Z<=3/\0<=s.a3/\s.a3<=lim s.Z)
def fE(n:Int):Int:=if 9<=n/\n<=1000 then(n+15) / 16 else 0
def cv(l:aA):Bool:=decide (9<=l.q/\l.q<=1000/\l.a0=(l.q+15) / 16/\0<=l.S/\l.S<=32 - l.a0)
def lpgs(l:aA)(n:Nat):List Int:=(List.range n).map λ(i:Nat)=>l.S+i
def pgs(sp:List aC)(la:List aA):List Int:=sp.map (·.S)++la.flatMap λl=>lpgs l l.a0.toNat
def bK(sp:List aC)(la:List aA):Bool:=(sp.all bu&&la.all cv)&&decide (pgs sp la).Nodup
def eH(s:aC)(a:Int):Bool:=bu s&&decide (16*s.S<=a/\a<=16*s.S+15)
def br(b i:Int):Bool:=decide (0<=b/\0<=i/\i<=15/\b / 2 ^ i.toNat % 2=1)
def cg(l:aA)(a:Int):Bool:=cv l&&decide (16*l.S<=a/\a<=16*l.S+l.q - 1)
def csz(k:Int):Int:=if 0<=k/\k<=3 then 2 ^ k.toNat else 0
def k6(s:aC)(a:Int):Int × Int:=if eH s a then((a - 16*s.S) / csz s.Z,(a - 16*s.S) % csz s.Z) else(-1,-1)
def uv(i:Nat)(s:aC)(a:Int):ll:=⟨if br s.a3 ((a - 16*s.S) / csz s.Z) then 1 else 2,i,(a - 16*s.S) / csz s.Z,(a - 16*s.S) % csz s.Z⟩
def denotes(sp:List aC)(la:List aA)(a:Int):ll:=
 match sp.findIdx? (eH · a) with
 | some i=>uv i (nth sp i) a
 | none=>match la.findIdx? (cg · a) with
  | some i=>⟨3,i,0,a - 16*(nth la i).S⟩
  | none=>⟨0,0,0,0⟩
theorem AN{pr:α->Bool}{xs:List α}{y:α}(a:xs[i]? = some y)(b:pr y=true)(c:∀(j:Nat)(z:α),j<i->xs[j]? = some z->pr z=false):xs.findIdx? pr=some i:=by grind [IE]
theorem Jy{pr:α->Bool}{xs:List α}(a:xs.length<=i)(b:∀(j:Nat)(z:α),j<i->xs[j]? = some z->pr z=false):xs.findIdx? pr=none:=
 List.findIdx?_eq_none_iff.2 λz c=>by grind [List.mem_iff_getElem?]
theorem gd{pr:α->Bool}{xs:List α}{y:α}(a:xs[i]? = some y)(b:pr y=false)(c:∀(j:Nat)(z:α),j<i->xs[j]? = some z->pr z=false):∀(j:Nat)(z:α),j<i+1->xs[j]? = some z->pr z=false:=ψ
def cC(pr:α->Bool)(xs:List α):Int:=match xs.findIdx? pr with|some i=>(i:Nat)|none=>-1
theorem eA{pr:α->Bool}{xs:List α}{y:α}(a:xs[i]? = some y)(b:pr y=true)(c:∀(j:Nat)(z:α),j<i->xs[j]? = some z->pr z=false):cC pr xs=(i:Nat):=by
 unfold cC;rw[AN a b c]
theorem gr{pr:α->Bool}{xs:List α}(a:xs.length<=i)(b:∀(j:Nat)(z:α),j<i->xs[j]? = some z->pr z=false):cC pr xs = -1:=by grind [Jy,cC]
theorem nQ(pr:α->Bool)(xs:List α):decide (cC pr xs≥0)=xs.any pr:=by grind [cC]
def meshable(s t:aC):Bool:=(bu s&&bu t)&&decide (s.Z=t.Z/\s.S≠t.S/\s.a3.toNat &&& t.a3.toNat=0)
def rd(n:Int)(p:aV):Bool:=decide (0<=p.To/\p.To<=n - 1/\0<=p.Addr)
def Xh(z:Int):Bool:=decide (0<=z)
def jx(m:aJ)(i:Nat):Bool:=(nth m.T i).all (rd m.T.length)&&(nth m.e i).all Xh
def bW(m:aJ):Nat->Int
 | 0=>0
 | i+1=>bW m i+((nth m.T i).length+(nth m.e i).length)
def bN(m:aJ):Bool:=(decide (1<=m.T.length/\m.T.length<=4/\m.e.length=m.T.length)&&dK m.T.length (jx m))&&decide (bW m m.T.length<=30)
def bi(m:aJ):List Int:=if bN m then(m.T.flatMap λl=>l.map (·.Addr))++m.e.flatten else []
def fY(a:Int)(y:aK):Bool:=decide (y.Addr=a)
def nv(xs:List aK)(i:Nat):Bool:=decide (0<=(nth xs i).Z/\(nth xs i).Z<=3/\0<=(nth xs i).Addr/\0<=(nth xs i).a9/\(i=0\/(nth xs (i - 1)).a9<=(nth xs i).a9))&&!(xs.take i).any (fY (nth xs i).Addr)
def quarCells(xs:List aK):Nat->Int
 | 0=>0
 | i+1=>quarCells xs i+csz (nth xs i).Z
def ir(q:aY):Bool:=dK q.l.length (nv q.l)&&decide (0<=q.b2/\q.b2<=500/\quarCells q.l q.l.length<=q.b2)
def ss(xs:List Int)(i:Nat):Bool:=decide (0<=nth xs i/\nth xs i<=15/\(i=0\/nth xs (i - 1)<nth xs i))
def gK(p:bn):Bool:=dK p.U.length (ss p.U)&&decide (0<=p.a5/\p.a5<=31/\0<=p.a7/\p.a7<=31/\p.a5≠p.a7)
def md(j:bz):Bool:=gK j.d&&decide (0<=j.a8/\j.a8<=5/\0<=j.j/\j.j<=j.d.U.length)
def Ar(j:bz):Bool:=decide (j.d.a5=0/\j.d.a7=0/\j.d.U.length=0/\j.a8=0/\j.j=0)
def bh(h:ac)(p:Int):List Int:=if(ax h.G.F.R p).o=0 then [] else pagesOn h.G.F.R (ax h.G.F.R p).g
def qx(p:Int)(s:aC):Bool:=decide (s.S=p)
def jf(h:ac)(p:Int):Int:=cC (qx p) h.J
def aZ(n:Int):Int:=if n<1 then -1 else if n<=1 then 0 else if n<=2 then 1 else if n<=4 then 2 else if n<=8 then 3 else -1
set_option maxRecDepth 20000
set_option maxHeartbeats 2000000
def aU(n lo a:Int):zzA 60 false [.vI n,.vI lo,.vI a] .one [B (decide (lo<=n/\n<=a))]:=by
 refine fO 15 [] Tryz.func60 rfl ?_
 repeat'(first|refine gP ?_|refine gS (λb=>?_) (λb=>?_)|fail)
 all_goals exact bE (by simp;try omega)
def aQ(n lo a:Int):zzA 32 false [.vI n,.vI lo,.vI a] .one [B (decide (lo<=n/\n<=a))]:=by
 refine fO 15 [] Tryz.func32 rfl ?_
 repeat'(first|refine gP ?_|refine gS (λb=>?_) (λb=>?_)|fail)
 all_goals exact bE (by simp;try omega)
def gL(k:Int):zzA 233 false [.vI k] .one [B (decide (0<=k/\k<=3))]:=by
 refine fO 5 [] Tryz.func233 rfl ?_
 repeat'(first|refine gP ?_|refine CG (aQ k 0 3) ?_)
 rfl
theorem dN(k:Int):zzA 234 false [.vI k] .one [I (csz k)]:=by
 by_cases b:0<=k/\k<=3
 ·obtain rfl|rfl|rfl|rfl:k=0\/k=1\/k=2\/k=3:=ω
  all_goals
   refine fO 8 [] Tryz.func234 rfl ?_
   repeat'(first|refine gE ?_|refine gS (λa=>?_) (λa=>?_)|refine CG (gL _) ?_|refine CU qs ?_|refine CT rfl ?_)
   exact eE qs
 refine fO 8 [] Tryz.func234 rfl ?_
 repeat'(first|refine gE ?_|refine gS (λa=>?_) (λa=>?_)|refine CG (gL _) ?_)
 exact eE (by grind [csz])
theorem fF(k:Int):zzA 176 false [.vI k] .one [I (csz k)]:=by
 by_cases b:0<=k/\k<=3
 ·obtain rfl|rfl|rfl|rfl:k=0\/k=1\/k=2\/k=3:=ω
  all_goals
   refine fO 9 [] Tryz.func176 rfl ?_
   repeat'(first|refine gE ?_|refine gS (λa=>?_) (λa=>?_)|refine CG (aU _ 0 3) ?_|refine CU qs ?_|refine CT rfl ?_)
   exact eE qs
 refine fO 9 [] Tryz.func176 rfl ?_
 repeat'(first|refine gE ?_|refine gS (λa=>?_) (λa=>?_)|refine CG (aU _ 0 3) ?_)
 exact eE (by grind [csz])
theorem qX(xs:List Int)(a:Int)(h:xs.length<=9223372036854775807):zzA 168 false [.val none (aI .O xs),.vI a] .one [B (decide (a∈xs))]:=by
 refine fO 18 [] Tryz.func168 rfl ?_
 refine σP ?_
 refine g0 xs.length (λi=>[(0,b8 (aI .O xs)),(1,fI a),(5,fN i)]) (λi=>a∉xs.take i) ψ λi c=>?_
 obtain⟨c,d⟩:=c;by_cases b:i<xs.length
 ·obtain⟨y,e⟩ : ∃y,xs[i]? = some y:=⟨_,z4 b⟩
  repeat'(first|refine gE ?_|refine gS (λg=>?_) (λg=>?_)|fail)
  ·exact bE ψ
  (conv=>whnf)
  refine CQ (i+1) ⟨ω,?_⟩ ω ?_
  ·grind [SA]
  exact wB
 refine σE ?_
 rw[OE ω]at d;exact bE ψ
set_option maxHeartbeats 4000000
def good(k:Int)(s:List Int)(a:Int):Prop:=0<=a/\a<=511/\a.tmod (csz k)=0/\a∉s
instance (k:Int) (s:List Int) (a:Int):Decidable (good k s a):=by unfold good;exact inferInstance
def x9(k:Int):List Int->List Int->Option (List Int)
 | s,[]=>some s
 | s,a::l=>if good k s a then x9 k (s++[a]) l else none
def gU(k:Nat)(s l:List Int):Option (List Int):=if l.length<=8/\k<=3 then x9 k s l else none
def jy:Nat->List Int->List (List Int)->Option (List Int)
 | _,s,[]=>some s
 | k,s,l::ls=>(gU k s l).bind λa=>jy (k+1) a ls
def bL(c:aB):Bool:=decide (c.X.length=4)&&(jy 0 [] c.X).isSome
theorem wL(k:Int):∀(a s b:List Int),x9 k s (a++b)=(x9 k s a).bind λc=>x9 k c b
 | [],s,b=>rfl
 | x::a,s,b=>by
  simp only[List.cons_append,x9];split
  ·exact wL k a _ b
  rfl
theorem tZ:∀(a:List (List Int))(k:Nat)(s:List Int)(b:List (List Int)),jy k s (a++b)=(jy k s a).bind λc=>jy (k+a.length) c b
 | [],k,s,b=>rfl
 | l::a,k,s,b=>by
  simp only[List.cons_append,jy,Option.bind_assoc,List.length_cons]
  congr 1;funext c
  rw[tZ a (k+1) c b,show k+1+a.length=k+(a.length+1) by omega]
variable{l:List Int}
theorem QI{k:Int}{b s:List Int}{j:Nat}(c:l[j]? = some a)(h:x9 k b (l.take j)=some s)(d:good k s a):x9 k b (l.take (j+1))=some (s++[a]):=by grind [SA,wL,x9]
theorem WD{b s:List Int}{j:Nat}(c:l[j]? = some a)(h:x9 k b (l.take j)=some s)(d:¬good k s a):gU k b l=none:=by
 unfold gU;split
 all_goals grind [List.drop_eq_getElem_cons,List.take_append_drop,wL,x9]
theorem HO{k:Int} : ∀{l s b:List Int},x9 k s l=some b->b.length=s.length+l.length
 | [],s,b,h=>by grind [x9]
 | a::l,s,b,h=>by
  simp only[x9]at h;split at h
  ·have:=HO h;grind
  cases h
theorem yV{a:List (List Int)}{s:List Int}(b:a[i]? = some l)(h:jy 0 [] (a.take i)=some s):jy 0 [] (a.take (i+1))=gU i s l:=by
 have c:=(C4.1 b).1;rw[SA,b,Option.toList_some,tZ,h];simp only[Option.bind_some,jy,CE,I3,Nat.min_eq_left (Nat.le_of_lt c)]
 grind
theorem o9{c:aB}{s:List Int}(a:c.X[i]? = some l)(h:jy 0 [] (c.X.take i)=some s)(b:gU i s l=none):bL c=false:=by
 have d:=yV a h
 grind [List.take_append_drop,tZ,bL]
theorem Lo:∀{b:List (List Int)}{k:Nat}{s a:List Int},jy k s b=some a->a.length<=s.length+8*b.length
 | [],k,s,a,h=>by grind [jy]
 | l::b,k,s,a,h=>by
  simp only[jy]at h;unfold gU at h;split at h
  ·cases c:x9 k s l with
   | none=>grind
   | some d=>
    rw[c]at h;have e:=HO c;have f:=Lo (show jy (k+1) d b=some a from h)
    grind
  cases h
def V9(h:i<=3):csz (i:Int)≠0:=by
 obtain rfl|rfl|rfl|rfl:i=0\/i=1\/i=2\/i=3:=ω
 all_goals decide
def dz : ∀r∈l.map (rI .own),r.length=1:=by
 intro r a;obtain⟨z,-,rfl⟩:=O8.1 a;rfl
theorem rA(c:aB)(t:aB.sml c):zzA 59 false [.val (some 1) (aB.enc .O c)] .one [B (bL c)]:=by
 have E:=t.1;refine fO 60 [] Tryz.func59 rfl ?_
 repeat'(first|refine gP ?_|refine gS (λe=>?_) (λe=>?_)|fail)
 ·exact bE (by grind [bL])
 have F:c.X.length=4:=ω
 (conv=>whnf)
 refine pe (ι:=Nat × List Int) (λi=>[(1,bX (aB.enc .O c)),(3,b8 (aI .own i.2)),(4,fI (i.1:Nat))]) (λi=>i.1<=4/\jy 0 [] (c.X.take i.1)=some i.2) (λi=>4 - i.1) (0,[]) ⟨I1 _,rfl⟩ λi k=>?_
 obtain⟨i,s⟩:=i;obtain⟨k,b⟩:=k;simp only at k b |-;have g:=Lo b;rw[I3]at g;simp only[List.length_nil]at g;by_cases u:i<4
 ·obtain⟨l,d⟩ : ∃l,c.X[i]? = some l:=(ψ)
  have w:l.length<=1048576:=t.2 l ψ
  repeat'(first|refine gE ?_|refine gS (λe=>?_) (λe=>?_)|fail)
  ·exact bE (o9 d b (by grind [gU])).symm
  have C:l.length<=8:=ω
  (conv=>whnf)
  refine pe (ι:=Nat × List Int) (λj=>[(1,bX (aB.enc .O c)),(3,b8 (aI .own j.2)),(4,fN i),(5,fI (j.1:Nat))]) (λj=>j.1<=l.length/\x9 i s (l.take j.1)=some j.2) (λj=>l.length - j.1) (0,s) ⟨I1 _,rfl⟩ λj n=>?_
  obtain⟨j,o⟩:=j;obtain⟨n,a⟩:=n;simp only at n a |-;have h:=HO a;rw[I3]at h;by_cases p:j<l.length
  ·obtain⟨y,q⟩ : ∃y,l[j]? = some y:=⟨_,z4 p⟩
   repeat'(first|refine gE ?_|refine gS (λe=>?_) (λe=>?_)|refine CG (aU y 0 511) ?_|refine CG (fF (i:Nat)) ?_|refine CU (V9 ω) ?_|refine CY rfl ?_|refine CN (qX o y ω) ⟨⟨rfl,eI _⟩,⟨rfl,rfl⟩,tV1⟩ ?_|refine Ce dz (λr D=>by rw[z3.1 D];rfl) (by simp[b6,gj]) kd (by simp only[I2];exact wT kd qs) rfl ?_)
   all_goals first
    | exact bE (o9 d b (WD q a λ⟨G,H,J,K⟩=>by first|contradiction|omega)).symm
    | ((conv=>whnf)
       refine CQ (j+1,o++[y]) ⟨(by simp only;omega),QI q a ⟨ω,ω,(by assumption),(by assumption)⟩⟩ (by simp only;omega) ?_
       (exact wD))
  refine σE ?_
  rw[OE ω]at a;exact dL (i+1,o) ⟨(by simp only;omega),(by rw[yV d b];grind [gU])⟩
 refine σE ?_
 rw[OE ω]at b;exact bE (by grind [bL])
def io(s:List Int):List (Int × Value):=s.map λa=>(a,.bool true)
theorem rW(a:Int):∀(s:List Int),mlook (io s) a (.bool false)=.bool (decide (a∈s))
 | []=>by simp[io,mlook]
 | x::s=>by
  have b:=rW a s
  grind [io,mlook]
theorem yE{a:Int} : ∀{s:List Int},a∉s->io (s++[a])=mput (io s) a (.bool true)
 | [],_=>rfl
 | x::s,h=>by
  simp only[List.mem_cons,not_or]at h;have b:=yE h.2
  grind [io,mput]
theorem rm(c:aB)(p:aB.sml c):zzA 93 false [.val (some 1) (aB.enc .O c)] .one [B (bL c)]:=by
 have w:=p.1;refine fO 54 [] Tryz.func93 rfl ?_
 refine σP ?_
 refine pe (ι:=Nat × List Int) (λi=>[(1,bX (aB.enc .O c)),(3,b8 [.m (io i.2)]),(10,b8 (fk .O c.X)),(11,fI c.X.length),(12,fI (i.1:Nat))]) (λi=>i.1<=c.X.length/\jy 0 [] (c.X.take i.1)=some i.2) (λi=>c.X.length - i.1) (0,[]) ⟨I1 _,rfl⟩ λi e=>?_
 obtain⟨i,s⟩:=i;obtain⟨e,d⟩:=e;simp only at e d |-;by_cases q:i<c.X.length
 ·obtain⟨l,b⟩ : ∃l,c.X[i]? = some l:=(ψ)
  have r:l.length<=1048576:=p.2 l ψ
  repeat'(first|refine gE ?_|refine gS (λg=>?_) (λg=>?_)|refine CG (gL (i:Nat)) ?_)
  ·exact bE (o9 b d (by grind [gU])).symm
  rotate_left
  ·exact bE (o9 b d (by grind [gU])).symm
  have t:l.length<=8:=ω
  have u:i<=3:=ω
  (conv=>whnf)
  refine pe (ι:=Nat × List Int) (λj=>[(1,bX (aB.enc .O c)),(3,b8 [.m (io j.2)]),(4,fN i),(10,b8 (fk .O c.X)),(11,fI c.X.length),(12,fN i),(25,b8 (aI .O l)),(26,fI l.length),(27,fI (j.1:Nat))]) (λj=>j.1<=l.length/\x9 i s (l.take j.1)=some j.2) (λj=>l.length - j.1) (0,s) ⟨I1 _,rfl⟩ λj h=>?_
  obtain⟨j,k⟩:=j;obtain⟨h,a⟩:=h;simp only at h a |-;by_cases n:j<l.length
  ·obtain⟨y,o⟩ : ∃y,l[j]? = some y:=⟨_,z4 n⟩
   repeat'(first|refine gE ?_|refine gS (λg=>?_) (λg=>?_)|refine CG (aQ y 0 511) ?_|refine CG (dN (i:Nat)) ?_|refine CU (V9 ω) ?_|refine CY rfl ?_|refine Ml.mk (rW y k) ?_|refine Mu.mk (yE (by assumption)) ?_)
   all_goals first
    | exact bE (o9 b d (WD o a λ⟨C,D,E,F⟩=>by first|contradiction|omega)).symm
    | ((conv=>whnf)
       refine CQ (j+1,k++[y]) ⟨(by simp only;omega),QI o a ⟨ω,ω,(by assumption),(by assumption)⟩⟩ (by simp only;omega) ?_
       (exact wA))
  refine σE ?_
  rw[OE ω]at a;exact dL (i+1,k) ⟨(by simp only;omega),(by rw[yV b d];grind [gU])⟩
 refine σE ?_
 grind [C1,bL]
theorem Rf:∀{b:List (List Int)}{k:Nat}{s c:List Int},jy k s b=some c->∀l∈b,l.length<=8
 | [],k,s,c,h,l,a=>by simp at a
 | x::b,k,s,c,h,l,a=>by
  simp only[jy]at h;unfold gU at h;split at h
  ·rename_i d
   rcases List.mem_cons.1 a with rfl|a
   ·exact d.1
   cases e:x9 k s x with
   | none=>grind
   | some f=>rw[e]at h;exact Rf (show jy (k+1) f b=some c from h) l a
  cases h
theorem zO{c:aB}(h:bL c=true):c.X.length=4/\∀l∈c.X,l.length<=8:=by grind [Option.isSome_iff_exists,Rf,bL]
theorem F9(f:aO)(h:aO.sml f):zzA 309 false [.val (some 2) (aO.enc .O f)] .one [B (dM f)]:=by
 have C:=h.1.1;have D:f.y.length<=1048576:=h.2;refine fO 61 [] Tryz.func309 rfl ?_
 repeat'(first|refine gP ?_|refine gS (λb=>?_) (λb=>?_)|refine CG (aU f.U.length 1 32) ?_)
 ·exact bE (by grind [dM])
 rotate_left
 ·exact bE (by grind [dM])
 have t:1<=f.U.length/\f.U.length<=32:=ω
 have w:f.y.length=f.U.length:=ω
 (conv=>whnf)
 refine g0 f.U.length (λi=>[(1,bX (aO.enc .O f)),(3,fN i)]) (λi=>((f.U.zip f.y).take i).all (λq=>jH q.1 q.2)=true) ψ λi j=>?_
 obtain⟨j,y⟩:=j;by_cases g:i<f.U.length
 ·obtain⟨r,c⟩ : ∃r,f.U[i]? = some r:=⟨_,z4 g⟩
  obtain⟨u,a⟩ : ∃u,f.y[i]? = some u:=⟨_,z4 ω⟩
  repeat'(first|refine gE ?_|refine gS (λb=>?_) (λb=>?_)|fail)
  ·exact bE (kr c a (by grind [jH])).symm
  have l:r.length=16:=ω
  (conv=>whnf)
  refine g0 16 (λk=>[(1,bX (aO.enc .O f)),(3,fN i),(4,fN k)]) (λk=>(r.take k).all (kY u)=true) ψ λk n=>?_
  obtain⟨n,e⟩:=n;by_cases o:k<16
  ·obtain⟨v,d⟩ : ∃v,r[k]? = some v:=⟨_,z4 ω⟩
   cases u with
   | true=>
    repeat'(first|refine gE ?_|refine gS (λb=>?_) (λb=>?_)|refine CG (aU v 0 999) ?_)
    all_goals first
     | exact bE (kr c a (xq d (by first|(unfold kY;rw[C1 ω];rfl)|(unfold kY;rw[C1 (p:=v=0) ω];simp)))).symm
     | ((conv=>whnf)
        refine CQ (ι:=Nat) (k+1) ⟨ω,dy d e (by unfold kY;first|(rw[O0 ω];rfl)|(rw[O0 (p:=0<=v/\v<=999) ω,O0 (p:=v=0) ω];rfl))⟩ ω ?_
        (exact wA))
   | false=>
    repeat'(first|refine gE ?_|refine gS (λb=>?_) (λb=>?_)|refine CG (aU v 0 999) ?_)
    all_goals first
     | exact bE (kr c a (xq d (by first|(unfold kY;rw[C1 ω];rfl)|(unfold kY;rw[C1 (p:=v=0) ω];simp)))).symm
     | ((conv=>whnf)
        refine CQ (ι:=Nat) (k+1) ⟨ω,dy d e (by unfold kY;first|(rw[O0 ω];rfl)|(rw[O0 (p:=0<=v/\v<=999) ω,O0 (p:=v=0) ω];rfl))⟩ ω ?_
        (exact wA))
  refine σE ?_
  exact dL (i+1) ⟨ω,dy (Bd c a) y (by grind [jH])⟩
 refine σE ?_
 exact bE (by grind [List.length_zip,dM])
theorem vM(f:aO)(g:aO.sml f):zzA 355 false [.val (some 2) (aO.enc .O f)] .one [B (dM f)]:=by
 have C:=g.1.1;have D:f.y.length<=1048576:=g.2;refine fO 55 [] Tryz.func355 rfl ?_
 repeat'(first|refine gP ?_|refine gS (λb=>?_) (λb=>?_)|refine CG (aQ f.U.length 1 32) ?_)
 ·exact bE (by grind [dM])
 rotate_left
 ·exact bE (by grind [dM])
 have p:1<=f.U.length/\f.U.length<=32:=ω
 have t:f.y.length=f.U.length:=ω
 (conv=>whnf)
 refine g0 f.U.length (λi=>[(1,bX (aO.enc .O f)),(22,b8 (fk .O f.U)),(23,fI f.U.length),(24,fN i)]) (λi=>((f.U.zip f.y).take i).all (λq=>jH q.1 q.2)=true) ψ λi j=>?_
 obtain⟨j,w⟩:=j;by_cases h:i<f.U.length
 ·obtain⟨r,c⟩ : ∃r,f.U[i]? = some r:=⟨_,z4 h⟩
  obtain⟨u,a⟩ : ∃u,f.y[i]? = some u:=⟨_,z4 ω⟩
  have y:r.length<=1048576:=g.1.2 r ψ
  repeat'(first|refine gE ?_|refine gS (λb=>?_) (λb=>?_)|fail)
  ·exact bE (kr c a (by grind [jH])).symm
  have l:r.length=16:=ω
  (conv=>whnf)
  refine g0 r.length (λk=>[(1,bX (aO.enc .O f)),(3,fN i),(22,b8 (fk .O f.U)),(23,fI f.U.length),(24,fN i),(32,b8 (aI .O r)),(33,fI r.length),(34,fN k)]) (λk=>(r.take k).all (kY u)=true) ψ λk n=>?_
  obtain⟨n,e⟩:=n;by_cases o:k<r.length
  ·obtain⟨v,d⟩ : ∃v,r[k]? = some v:=⟨_,z4 ω⟩
   cases u with
   | true=>
    repeat'(first|refine gE ?_|refine gS (λb=>?_) (λb=>?_)|refine CG (aQ v 0 999) ?_)
    all_goals first
     | exact bE (kr c a (xq d (by unfold kY;grind))).symm
     | ((conv=>whnf)
        refine CQ (ι:=Nat) (k+1) ⟨ω,dy d e (by unfold kY;grind)⟩ ω ?_
        (exact wA))
   | false=>
    repeat'(first|refine gE ?_|refine gS (λb=>?_) (λb=>?_)|refine CG (aQ v 0 999) ?_)
    all_goals first
     | exact bE (kr c a (xq d (by unfold kY;grind))).symm
     | ((conv=>whnf)
        refine CQ (ι:=Nat) (k+1) ⟨ω,dy d e (by unfold kY;grind)⟩ ω ?_
        (exact wA))
  refine σE ?_
  exact dL (i+1) ⟨ω,dy (Bd c a) w (by grind [jH])⟩
 refine σE ?_
 exact bE (by grind [List.length_zip,dM])
theorem Kt(t:aL)(a:Int)(d:aL.sml t):zzA 310 false [.val (some 1) (aL.enc .O t),.vI a] .one [B (iM t a)]:=by
 have k:=d.1;refine fO 54 [] Tryz.func310 rfl ?_
 refine σP ?_
 refine g0 t.M.length (λi=>[(1,fI a),(2,bX (aL.enc .O t)),(5,fN i)]) (λi=>dK i (λj=>qY a (nth t.M j))=true) rfl λi b=>?_
 obtain⟨b,e⟩:=b;by_cases c:i<t.M.length
 ·have g:=au c
  repeat'(first|refine gE ?_|refine gS (λh=>?_) (λh=>?_)|refine CG (aU _ 0 2) ?_)
  all_goals first
   | exact bE ((by symm;unfold iM;rw[cM c (C1 ψ)];rfl))
   | ((conv=>whnf);exact dL (i+1) ⟨ω,co e (O0 ψ)⟩)
 repeat'(first|refine gE ?_|refine CG (aU _ 1 32) ?_)
 obtain rfl:i=t.M.length:=ω
 exact bE ((by grind [iM]))
theorem JF(t:aL)(a:Int)(d:aL.sml t):zzA 356 false [.val (some 1) (aL.enc .O t),.vI a] .one [B (iM t a)]:=by
 have k:=d.1;refine fO 49 [] Tryz.func356 rfl ?_
 refine σP ?_
 refine g0 t.M.length (λi=>[(1,fI a),(2,bX (aL.enc .O t)),(8,b8 (fX .O t.M)),(9,fI t.M.length),(10,fN i)]) (λi=>dK i (λj=>qY a (nth t.M j))=true) rfl λi b=>?_
 obtain⟨b,e⟩:=b;by_cases c:i<t.M.length
 ·have g:=au c
  repeat'(first|refine gE ?_|refine gS (λh=>?_) (λh=>?_)|refine CG (aQ _ 0 2) ?_)
  all_goals first
   | exact bE ((by symm;unfold iM;rw[cM c (C1 ψ)];rfl))
   | ((conv=>whnf);exact dL (i+1) ⟨ω,co e (O0 ψ)⟩)
 repeat'(first|refine gE ?_|refine CG (aQ _ 1 32) ?_)
 obtain rfl:i=t.M.length:=ω
 exact bE ((by grind [iM]))
theorem jq(t:aL)(f:Int)(b:aL.sml t):zzA 311 false [.val (some 1) (aL.enc .O t),.vI f] .one (aI .own (pagesOn t f)):=by
 have j:=b.1;refine fO 37 [] Tryz.func311 rfl ?_ (.inr (bO _))
 refine σP ?_
 refine lp0 t.M.length (λi=>[(1,fI f),(2,bX (aL.enc .O t)),(5,b8 (aI .own (ns t f i))),(6,fN i)]) λi k=>?_
 have c:=yS t f i;by_cases d:i<t.M.length
 ·have e:=au d
  repeat'(first|refine gE ?_|refine gS (λg=>?_) (λg=>?_)|refine Ce dz (λr h=>by rw[z3.1 h];rfl) (by simp[b6,gj]) kd (by simp only[I2];exact wT kd qs) rfl ?_)
  all_goals first
   |(have a:Xe t f i=true:=O0 ψ
     (conv=>whnf)
     refine CQ (i+1) ω ω ?_;rw[Hs a]
     (exact wD))
   |(have a:Xe t f i=false:=C1 ψ
     (conv=>whnf)
     refine CQ (i+1) ω ω ?_;rw[LR a]
     (exact wA))
 refine σE ?_
 obtain rfl:i=t.M.length:=ω
 rfl
theorem nE(t:aL)(f:Int)(b:aL.sml t):zzA 357 false [.val (some 1) (aL.enc .O t),.vI f] .one (aI .own (pagesOn t f)):=by
 have j:=b.1;refine fO 32 [] Tryz.func357 rfl ?_ (.inr (bO _))
 refine σP ?_
 refine lp0 t.M.length (λi=>[(1,fI f),(5,b8 (aI .own (ns t f i))),(10,b8 (fX .O t.M)),(11,fI t.M.length),(12,fN i)]) λi k=>?_
 have c:=yS t f i;by_cases d:i<t.M.length
 ·have e:=au d
  repeat'(first|refine gE ?_|refine gS (λg=>?_) (λg=>?_)|refine Ce dz (λr h=>by rw[z3.1 h];rfl) (by simp[b6,gj]) kd (by simp only[I2];exact wT kd qs) rfl ?_)
  all_goals first
   |(have a:Xe t f i=true:=O0 ψ
     (conv=>whnf)
     refine CQ (i+1) ω ω ?_;rw[Hs a]
     (exact wD))
   |(have a:Xe t f i=false:=C1 ψ
     (conv=>whnf)
     refine CQ (i+1) ω ω ?_;rw[LR a]
     (exact wA))
 refine σE ?_
 obtain rfl:i=t.M.length:=ω
 rfl
def dO(t:aL)(p:Int)(b:aL.sml t):zzA 315 false [.val (some 1) (aL.enc .O t),.vI p] .agg (aS.enc .own (ax t p)):=by
 have d:=b.1;refine fO 18 [] Tryz.func315 rfl ?_ (.inr (aS.enc_fr _));by_cases a:0<=p/\p<t.M.length
 ·have c:=au (xs:=t.M) (i:=p.toNat) ω
  repeat'(first|refine gE ?_|refine CG (aU _ 0 _) ?_|refine CS a.1 (aa c) ?_)
  all_goals(unfold ax;rw[CK a];rfl)
 repeat'(first|refine gE ?_|refine CG (aU _ 0 _) ?_)
 all_goals(unfold ax;rw[CJ a];rfl)
def dl(t:aL)(p:Int)(b:aL.sml t):zzA 229 false [.val (some 1) (aL.enc .O t),.vI p] .agg (aS.enc .own (ax t p)):=by
 have d:=b.1;refine fO 18 [] Tryz.func229 rfl ?_ (.inr (aS.enc_fr _));by_cases a:0<=p/\p<t.M.length
 ·have c:=au (xs:=t.M) (i:=p.toNat) ω
  repeat'(first|refine gE ?_|refine CG (aQ _ 0 _) ?_|refine CS a.1 (aa c) ?_)
  all_goals(unfold ax;rw[CK a];rfl)
 repeat'(first|refine gE ?_|refine CG (aQ _ 0 _) ?_)
 all_goals(unfold ax;rw[CJ a];rfl)
def wx(t:aL)(f:Int):(pagesOn t f).length<=t.M.length:=yS ..
theorem un(m:aH)(a:aH.sml m):zzA 165 false [.val (some 3) (aH.enc .O m)] .one [B (db m)]:=by
 have q:m.V.y.length<=1048576:=a.1.2;have k:m.V.U.length<=1048576:=a.1.1.1;have b:=F9 m.V a.1;have c:=Kt m.R m.V.U.length a.2;cases d:dM m.V with
 | false=>
  rw[d]at b;refine fO 39 [(6,13,[26,27,28,29,30,31,32,33,34,35,36,37,38])] Tryz.func165 rfl ?_
  refine σP ?_
  exact bE ((by grind [db]))
 | true=>
  have g:=J7 d;rw[d]at b;cases e:iM m.R m.V.y.length with
  | false=>
   rw[show(m.V.U.length:Int)=m.V.y.length by omega,e]at c;refine fO 39 [(6,13,[26,27,28,29,30,31,32,33,34,35,36,37,38])] Tryz.func165 rfl ?_
   repeat'(first|refine gP ?_|refine CG ((show(m.V.U.length:Int)=m.V.y.length by omega) ▸ c) ?_)
   exact bE ((by grind [db]))
  | true=>
   rw[show(m.V.U.length:Int)=m.V.y.length by omega,e]at c;refine fO 39 [(6,13,[26,27,28,29,30,31,32,33,34,35,36,37,38])] Tryz.func165 rfl ?_
   repeat'(first|refine gP ?_|refine CG ((show(m.V.U.length:Int)=m.V.y.length by omega) ▸ c) ?_)
   refine g0 m.V.y.length (λi=>[(1,bX (aH.enc .O m)),(3,fN i)]) (λi=>dK i (td m)=true) rfl λi h=>?_
   obtain⟨h,l⟩:=h;by_cases j:i<m.V.y.length
   ·have n:=au j
    have o:=wx m.R (i:Nat)
    repeat'(first|refine gE ?_|refine gS (λp=>?_) (λp=>?_)|refine CG (jq m.R (i:Nat) a.2) ?_)
    all_goals first
     | exact bE ((by symm;unfold db;rw[d,e,cM j (by unfold td;grind)];rfl))
     | ((conv=>whnf);exact dL (i+1) ⟨ω,co l (by unfold td;grind)⟩)
   refine σE ?_
   obtain rfl:i=m.V.y.length:=ω
   exact bE ((by grind [db]))
theorem uz(m:aH)(b:aH.sml m):zzA 221 false [.val (some 3) (aH.enc .O m)] .one [B (db m)]:=by
 have o:m.V.y.length<=1048576:=b.1.2;have a:=vM m.V b.1;have c:=JF m.R m.V.y.length b.2;cases d:dM m.V with
 | false=>
  rw[d]at a;refine fO 37 [] Tryz.func221 rfl ?_
  refine σP ?_
  exact bE ((by grind [db]))
 | true=>
  rw[d]at a;cases e:iM m.R m.V.y.length with
  | false=>
   rw[e]at c;refine fO 37 [] Tryz.func221 rfl ?_
   refine σP ?_
   exact bE ((by grind [db]))
  | true=>
   rw[e]at c;refine fO 37 [] Tryz.func221 rfl ?_
   refine σP ?_
   refine g0 m.V.y.length (λi=>[(1,bX (aH.enc .O m)),(21,b8 (iq .O m.V.y)),(22,fI m.V.y.length),(23,fN i)]) (λi=>dK i (td m)=true) rfl λi g=>?_
   obtain⟨g,j⟩:=g;by_cases h:i<m.V.y.length
   ·have k:=au h
    have l:=wx m.R (i:Nat)
    repeat'(first|refine gE ?_|refine gS (λn=>?_) (λn=>?_)|refine CG (nE m.R (i:Nat) b.2) ?_)
    all_goals first
     | exact bE ((by symm;unfold db;rw[d,e,cM h (by unfold td;grind)];rfl))
     | ((conv=>whnf);exact dL (i+1) ⟨ω,co j (by unfold td;grind)⟩)
   refine σE ?_
   obtain rfl:i=m.V.y.length:=ω
   exact bE ((by grind [db]))
def vF(k:af)(d:af.sml k):zzA 52 false [.val (some 5) (af.enc .O k)] .one [B (aN k)]:=by
 have n:k.k.length<=1048576:=d.2;have a:=un k.F d.1;refine fO 31 [] Tryz.func52 rfl ?_
 refine σP ?_
 refine g0 k.k.length (λi=>[(1,bX (af.enc .O k)),(3,fN i)]) (λi=>dK i (λj=>decide (0<=nth k.k j))=true) rfl λi e=>?_
 obtain⟨e,g⟩:=e;by_cases h:i<k.k.length
 ·have l:=au h
  repeat'(first|refine gE ?_|refine gS (λc=>?_) (λc=>?_)|fail)
  all_goals first
   | exact bE ((by symm;unfold aN;rw[cM h (C1 ω)];rfl))
   | ((conv=>whnf);exact dL (i+1) ⟨ω,co g (O0 ω)⟩)
 obtain rfl:i=k.k.length:=ω
 cases b:db k.F with
 | false=>
  rw[b]at a
  refine σE ?_
  all_goals exact bE ((by unfold aN;rw[b];simp))
 | true=>
  rw[b]at a
  repeat'(first|refine gE ?_|refine gS (λc=>?_) (λc=>?_)|refine CG (aU _ 0 100000) ?_)
  all_goals exact bE ((by unfold aN;rw[b,g];simp only[Bool.true_and];first|exact decide_eq_decide.2 ω|(symm;exact C1 ω)|(symm;exact O0 ω)))
def vw(k:af)(b:af.sml k):zzA 87 false [.val (some 5) (af.enc .O k)] .one [B (aN k)]:=by
 have l:k.k.length<=1048576:=b.2;have g:=uz k.F b.1;refine fO 29 [] Tryz.func87 rfl ?_
 refine σP ?_
 refine g0 k.k.length (λi=>[(1,bX (af.enc .O k)),(6,b8 (aI .O k.k)),(7,fI k.k.length),(8,fN i)]) (λi=>dK i (λj=>decide (0<=nth k.k j))=true) rfl λi c=>?_
 obtain⟨c,d⟩:=c;by_cases e:i<k.k.length
 ·have h:=au e
  repeat'(first|refine gE ?_|refine gS (λa=>?_) (λa=>?_)|fail)
  all_goals first
   | exact bE ((by symm;unfold aN;rw[cM e (C1 ω)];rfl))
   | ((conv=>whnf);exact dL (i+1) ⟨ω,co d (O0 ω)⟩)
 obtain rfl:i=k.k.length:=ω
 repeat'(first|refine gE ?_|refine gS (λa=>?_) (λa=>?_)|refine CG (aQ _ 0 100000) ?_)
 all_goals exact bE ((by unfold aN;rw[d];cases db k.F<;>simp only[Bool.true_and,Bool.false_and]<;>first|rfl|exact decide_eq_decide.2 ω|(symm;exact C1 ω)|(symm;exact O0 ω)))
def BN(pages:Int)(r:aD)(b:0<=pages/\pages<=1048576):zzA 166 false [.vI pages,.val (some 2) (aD.enc .O r)] .one [B (rangeIn pages r)]:=by
 refine fO 18 [] Tryz.func166 rfl ?_
 repeat'(first|refine gP ?_|refine gS (λa=>?_) (λa=>?_)|refine CG (aU _ 1 _) ?_|refine CG (aU _ 0 _) ?_)
 all_goals exact bE ((by unfold rangeIn;first|(symm;exact C1 ω)|exact decide_eq_decide.2 ω))
def BQ(pages:Int)(r:aD)(b:0<=pages/\pages<=1048576):zzA 222 false [.vI pages,.val (some 2) (aD.enc .O r)] .one [B (rangeIn pages r)]:=by
 refine fO 18 [] Tryz.func222 rfl ?_
 repeat'(first|refine gP ?_|refine gS (λa=>?_) (λa=>?_)|refine CG (aQ _ 1 _) ?_|refine CG (aQ _ 0 _) ?_)
 all_goals exact bE ((by unfold rangeIn;first|(symm;exact C1 ω)|exact decide_eq_decide.2 ω))
theorem sB(k:Int):zzA 313 false [.vI k] .one [I (slots k)]:=by
 by_cases b:0<=k/\k<=3
 ·obtain rfl|rfl|rfl|rfl:k=0\/k=1\/k=2\/k=3:=ω
  all_goals
   refine fO 9 [] Tryz.func313 rfl ?_
   repeat'(first|refine gE ?_|refine gS (λa=>?_) (λa=>?_)|refine CG (aU _ 0 3) ?_|refine CU qs ?_|refine CT rfl ?_|refine CY rfl ?_)
   exact eE qs
 refine fO 9 [] Tryz.func313 rfl ?_
 repeat'(first|refine gE ?_|refine gS (λa=>?_) (λa=>?_)|refine CG (aU _ 0 3) ?_)
 exact eE (by grind [slots])
theorem iu(k:Int):zzA 359 false [.vI k] .one [I (slots k)]:=by
 by_cases b:0<=k/\k<=3
 ·obtain rfl|rfl|rfl|rfl:k=0\/k=1\/k=2\/k=3:=ω
  all_goals
   refine fO 9 [] Tryz.func359 rfl ?_
   repeat'(first|refine gE ?_|refine gS (λa=>?_) (λa=>?_)|refine CG (gL _) ?_|refine CG (dN _) ?_|refine CU qs ?_|refine CT rfl ?_|refine CY rfl ?_)
   exact eE qs
 refine fO 9 [] Tryz.func359 rfl ?_
 repeat'(first|refine gE ?_|refine gS (λa=>?_) (λa=>?_)|refine CG (gL _) ?_)
 exact eE (by grind [slots])
def Uf(k b:Int):Bool:=decide (0<=k/\k<=3/\0<=b/\b<=lim k)
theorem vN(k b:Int):zzA 312 false [.vI (slots k),.vI b] .one [B (Uf k b)]:=by
 by_cases d:0<=k/\k<=3
 ·obtain rfl|rfl|rfl|rfl:k=0\/k=1\/k=2\/k=3:=ω
  all_goals
   first|rw[show slots 0=16 from rfl]|rw[show slots 1=8 from rfl]|rw[show slots 2=4 from rfl]|rw[show slots 3=2 from rfl]
   refine fO 15 [] Tryz.func312 rfl ?_
   repeat'(first|refine gE ?_|refine gS (λa=>?_) (λa=>?_)|refine CG (aU _ 1 16) ?_|refine CG (aU _ 0 _) ?_|refine CU qs ?_|refine CT (show _=(65536:Int) by decide) ?_|refine CT (show _=(65535:Int) by decide) ?_|refine CT (show _=(256:Int) by decide) ?_|refine CT (show _=(255:Int) by decide) ?_|refine CT (show _=(16:Int) by decide) ?_|refine CT (show _=(15:Int) by decide) ?_|refine CT (show _=(4:Int) by decide) ?_|refine CT (show _=(8:Int) by decide) ?_|refine CT (show _=(2:Int) by decide) ?_|refine CT (show _=(3:Int) by decide) ?_)
   all_goals exact bE ((decide_eq_decide.2 (by simp[lim])))
 have c:slots k=0:=by grind [slots]
 rw[c];refine fO 15 [] Tryz.func312 rfl ?_
 repeat'(first|refine gE ?_|refine gS (λa=>?_) (λa=>?_)|refine CG (aU _ 1 16) ?_)
 exact bE ((by symm;exact C1 ω))
theorem vL(k b:Int):zzA 358 false [.vI (slots k),.vI b] .one [B (Uf k b)]:=by
 by_cases d:0<=k/\k<=3
 ·obtain rfl|rfl|rfl|rfl:k=0\/k=1\/k=2\/k=3:=ω
  all_goals
   first|rw[show slots 0=16 from rfl]|rw[show slots 1=8 from rfl]|rw[show slots 2=4 from rfl]|rw[show slots 3=2 from rfl]
   refine fO 14 [] Tryz.func358 rfl ?_
   repeat'(first|refine gE ?_|refine gS (λa=>?_) (λa=>?_)|refine CG (aQ _ 1 16) ?_|refine CG (aQ _ 0 _) ?_|refine CU qs ?_|refine CT (ij qs qs) ?_)
   all_goals exact bE ((decide_eq_decide.2 (by simp[lim,IntKind.bits])))
 have c:slots k=0:=by grind [slots]
 rw[c];refine fO 14 [] Tryz.func358 rfl ?_
 repeat'(first|refine gE ?_|refine gS (λa=>?_) (λa=>?_)|refine CG (aQ _ 1 16) ?_)
 exact bE ((by symm;exact C1 ω))
def jj(s:aC):zzA 167 false [.val (some 3) (aC.enc .O s)] .one [B (bu s)]:=by
 refine fO 14 [(1,12,[3,4,5,6,7,8,9,10,11,12,13,2])] Tryz.func167 rfl ?_
 repeat'(first|refine gP ?_|refine gS (λa=>?_) (λa=>?_)|refine CG (aU _ 0 31) ?_|refine CG (sB _) ?_|refine CG (vN _ _) ?_)
 all_goals exact bE ((by unfold bu;first|(symm;exact C1 ω)|exact decide_eq_decide.2 ω))
def jm(s:aC):zzA 224 false [.val (some 3) (aC.enc .O s)] .one [B (bu s)]:=by
 refine fO 19 [(1,17,[3,4,5,6,7,8,9,10,11,12,13,14,15,16,17,18,2])] Tryz.func224 rfl ?_
 repeat'(first|refine gP ?_|refine gS (λa=>?_) (λa=>?_)|refine CG (aQ _ 0 31) ?_|refine CG (gL _) ?_|refine CG (iu _) ?_|refine CG (vL _ _) ?_)
 all_goals exact bE ((by unfold bu;first|(symm;exact C1 ω)|exact decide_eq_decide.2 ω))
section
variable{α:Type}{xs:List α}{p:α->Bool}{i:Nat}{y:α}
theorem JB(h:xs[i]? = some y)(a:p y=true):xs.any p=true:=I7.2 ψ
theorem EJ(h:xs[i]? = some y)(a:(xs.take i).any p=false)(b:p y=false):(xs.take (i+1)).any p=false:=by grind [SA]
theorem a1n(a:xs.length<=i)(b:(xs.take i).any p=false):xs.any p=false:=by grind [OE]
theorem iV[Inhabited α](a:0<i)(b:i<xs.length):xs[((i:Int) - 1).toNat]? = some (nth xs (i - 1)):=by
 rw[show((i:Int) - 1).toNat=i - 1 by omega];grind [au]
end
theorem Dz{pages:Int}{xs:List aD}(a:dK n (iT pages xs)=true)(b:i<n):1<=(nth xs i).a1/\(nth xs i).a1<=pages/\0<=(nth xs i).At/\(nth xs i).At<=pages - (nth xs i).a1:=by grind [gY,iT,rangeIn]
theorem pZ(pages:Int)(xs:List aD)(d:0<=pages/\pages<=1048576)(k:eJ xs):zzA 53 false [.vI pages,.val none (bm .O xs)] .one [B (bR pages xs)]:=by
 have n:=k.1;refine fO 46 [(4,32,[12,13,14,15,16,17,18,19,20,21,22,23,24,25,26,27,28,29,30,31,32,33,34,35,36,37,38,39,40,41,42,43])] Tryz.func53 rfl ?_
 refine σP ?_
 refine g0 xs.length (λi=>[(0,fI pages),(1,b8 (bm .O xs)),(5,fN i)]) (λi=>dK i (iT pages xs)=true) rfl λi e=>?_
 obtain⟨e,g⟩:=e;by_cases c:i<xs.length
 ·have j:=au c
  have o:0<i->1<=(nth xs (i - 1)).a1/\(nth xs (i - 1)).a1<=pages/\0<=(nth xs (i - 1)).At/\(nth xs (i - 1)).At<=pages - (nth xs (i - 1)).a1:=λh=>Dz g ω
  cases b:rangeIn pages (nth xs i) with
  | false=>
   have a:=BN pages (nth xs i) d;rw[b]at a
   refine σE ?_
   exact bE ((by grind [cM,bR,iT]))
  | true=>
   have a:=BN pages (nth xs i) d;rw[b]at a
   repeat'(first|refine gE ?_|refine gS (λl=>?_) (λl=>?_)|refine CS ω (aa (iV ω c)) ?_)
   all_goals first
    | exact bE ((by symm;unfold bR;rw[cM c (by unfold iT;rw[b,C1 ω];rfl)];rfl))
    | ((conv=>whnf);exact dL (i+1) ⟨ω,co g (by unfold iT;rw[b,O0 ω];rfl)⟩)
 repeat'(first|refine gE ?_|refine CG (aU pages 1 32) ?_)
 grind [bR]
theorem qo(pages:Int)(xs:List aD)(j:0<=pages/\pages<=1048576)(k:eJ xs):zzA 88 false [.vI pages,.val none (bm .O xs)] .one [B (bR pages xs)]:=by
 have n:=k.1;refine fO 43 [(4,26,[14,15,16,17,18,19,20,21,22,23,24,25,26,27,28,29,30,31,32,33,34,35,36,37,38,39])] Tryz.func88 rfl ?_
 refine σP ?_
 refine g0 xs.length (λi=>[(0,fI pages),(1,b8 (bm .O xs)),(7,b8 (bm .O xs)),(8,fI xs.length),(9,fN i)]) (λi=>dK i (iT pages xs)=true) rfl λi d=>?_
 obtain⟨d,e⟩:=d;by_cases c:i<xs.length
 ·have g:=au c
  have o:0<i->1<=(nth xs (i - 1)).a1/\(nth xs (i - 1)).a1<=pages/\0<=(nth xs (i - 1)).At/\(nth xs (i - 1)).At<=pages - (nth xs (i - 1)).a1:=λh=>Dz e ω
  have a:=BQ pages (nth xs i) j;cases b:rangeIn pages (nth xs i) with
  | false=>
   rw[b]at a
   refine σE ?_
   exact bE ((by grind [cM,bR,iT]))
  | true=>
   rw[b]at a
   repeat'(first|refine gE ?_|refine gS (λl=>?_) (λl=>?_)|refine CS ω (aa (iV ω c)) ?_)
   all_goals first
    | exact bE ((by symm;unfold bR;rw[cM c (by unfold iT;rw[b,C1 ω];rfl)];rfl))
    | ((conv=>whnf);exact dL (i+1) ⟨ω,co e (by unfold iT;rw[b,O0 ω];rfl)⟩)
 repeat'(first|refine gE ?_|refine CG (aQ pages 1 32) ?_)
 grind [bR]
theorem Ff(xs:List aD)(page:Int)(g:xs.length<=9223372036854775807):zzA 171 false [.val none (bm .O xs),.vI page] .one [B (xs.any (AJ page))]:=by
 refine fO 34 [(4,22,[12,13,14,15,16,17,18,19,20,21,22,23,24,25,26,27,28,29,30,31,32,33])] Tryz.func171 rfl ?_
 refine σP ?_
 refine g0 xs.length (λi=>[(0,b8 (bm .O xs)),(1,fI page),(5,fN i)]) (λi=>(xs.take i).any (AJ page)=false) ψ λi b=>?_
 obtain⟨b,c⟩:=b;by_cases d:i<xs.length
 ·have a:=au d
  repeat'(first|refine gE ?_|refine gS (λe=>?_) (λe=>?_)|refine CT rfl ?_)
  all_goals first
   | exact bE ((JB a (by unfold AJ;rw[O0 (by assumption),O0 (by assumption)];rfl)).symm)
   | ((conv=>whnf);exact dL (i+1) ⟨ω,EJ a c (by unfold AJ;first|(rw[C1 (by assumption:¬(nth xs i).At<=page)];rfl)|(rw[C1 (by assumption:¬page<_)];simp))⟩)
 refine σE ?_
 exact bE ψ
def tdiv16(h:0<=z):z.tdiv 16=z / 16:=Int.tdiv_eq_ediv_of_nonneg h
theorem qt(z:Int):zzA 314 false [.vI z] .one [I (fE z)]:=by
 refine fO 10 [] Tryz.func314 rfl ?_;by_cases b:9<=z/\z<=1000
 ·repeat'(first|refine gE ?_|refine gS (λa=>?_) (λa=>?_)|refine CG (aU z 9 1000) ?_|refine CU qs ?_|refine CT ((O1 _ (tdiv16 ω)).trans (ij ω ω)) ?_)
  grind [fE]
 repeat'(first|refine gE ?_|refine gS (λa=>?_) (λa=>?_)|refine CG (aU z 9 1000) ?_)
 all_goals exact eE (by unfold fE;rw[CJ b])
theorem pP(z:Int):zzA 249 false [.vI z] .one [I (fE z)]:=by
 refine fO 10 [] Tryz.func249 rfl ?_;by_cases b:9<=z/\z<=1000
 ·repeat'(first|refine gE ?_|refine gS (λa=>?_) (λa=>?_)|refine CG (aQ z 9 1000) ?_|refine CU qs ?_|refine CT ((O1 _ (tdiv16 ω)).trans (ij ω ω)) ?_)
  grind [fE]
 repeat'(first|refine gE ?_|refine gS (λa=>?_) (λa=>?_)|refine CG (aQ z 9 1000) ?_)
 all_goals exact eE (by unfold fE;rw[CJ b])
def re(l:aA):zzA 169 false [.val (some 3) (aA.enc .O l)] .one [B (cv l)]:=by
 have a:=qt l.q;by_cases c:9<=l.q/\l.q<=1000
 ·rw[show fE l.q=(l.q+15) / 16 from CK c]at a
  refine fO 22 [] Tryz.func169 rfl ?_
  repeat'(first|refine gP ?_|refine gS (λb=>?_) (λb=>?_)|refine CG (aU _ 0 _) ?_)
  all_goals exact bE ((by unfold cv;first|(symm;exact C1 ω)|exact decide_eq_decide.2 ω))
 rw[show fE l.q=0 from CJ c]at a;refine fO 22 [] Tryz.func169 rfl ?_
 repeat'(first|refine gE ?_|refine gS (λb=>?_) (λb=>?_)|fail)
 all_goals exact bE ((by unfold cv;symm;exact C1 ω))
def sA(l:aA):zzA 225 false [.val (some 3) (aA.enc .O l)] .one [B (cv l)]:=by
 have b:=pP l.q;by_cases c:9<=l.q/\l.q<=1000
 ·rw[show fE l.q=(l.q+15) / 16 from CK c]at b
  refine fO 22 [(1,20,[3,4,5,6,7,8,9,10,11,12,13,14,15,16,17,18,19,20,21,2])] Tryz.func225 rfl ?_
  repeat'(first|refine gE ?_|refine gS (λa=>?_) (λa=>?_)|refine CG (aQ _ 9 1000) ?_|refine CG (aQ _ 0 _) ?_)
  all_goals exact bE ((by unfold cv;first|(symm;exact C1 ω)|exact decide_eq_decide.2 ω))
 refine fO 22 [(1,20,[3,4,5,6,7,8,9,10,11,12,13,14,15,16,17,18,19,20,21,2])] Tryz.func225 rfl ?_
 repeat'(first|refine gE ?_|refine gS (λa=>?_) (λa=>?_)|refine CG (aQ _ 9 1000) ?_)
 all_goals exact bE ((by unfold cv;symm;exact C1 ω))
theorem vf(h:0<=z/\z<=9223372036854775807):(BitVec.ofInt IntKind.i64.bits z).toNat=z.toNat:=by
 show(BitVec.ofInt 64 z).toNat=z.toNat
 grind
theorem and64{z1 z2:Int}(h1:0<=z1/\z1<=9223372036854775807)(h2:0<=z2/\z2<=9223372036854775807):IntKind.i64.wrap ((BitVec.ofInt IntKind.i64.bits z1 &&& BitVec.ofInt IntKind.i64.bits z2).toNat:Nat)=((z1.toNat &&& z2.toNat:Nat):Int):=by grind [vf,Nat.and_le_left,ij]
theorem Qr(k:Int):lim k<=65535:=by grind [lim]
variable{s:aC}
def gF(h:bu s=true):0<=s.a3/\s.a3<=9223372036854775807:=by
 unfold bu at h;simp only[C0]at h;have:=Qr s.Z;omega
def qz(a b:aC):zzA 172 false [.val (some 3) (aC.enc .O a),.val (some 3) (aC.enc .O b)] .one [B (meshable a b)]:=by
 have e:=jj a;have g:=jj b;cases c:bu a<;>rw[c]at e<;>cases d:bu b<;>rw[d]at g
 all_goals
  refine fO 33 [] Tryz.func172 rfl ?_
  repeat'(first|refine gP ?_|refine gS (λh=>?_) (λh=>?_)|refine CT (and64 (gF c) (gF d)) ?_)
  all_goals exact bE ((by unfold meshable;rw[c,d];first|rfl|(symm;exact C1 ω)|(rw[C9];simp;omega)))
def pM(a b:aC):zzA 230 false [.val (some 3) (aC.enc .O a),.val (some 3) (aC.enc .O b)] .one [B (meshable a b)]:=by
 have e:=jm a;have g:=jm b;cases c:bu a<;>rw[c]at e<;>cases d:bu b<;>rw[d]at g
 all_goals
  refine fO 33 [] Tryz.func230 rfl ?_
  repeat'(first|refine gP ?_|refine gS (λh=>?_) (λh=>?_)|refine CT (and64 (gF c) (gF d)) ?_)
  all_goals exact bE ((by unfold meshable;rw[c,d];first|rfl|(symm;exact C1 ω)|(rw[C9];simp;omega)))
def Hv(k:Int):zzA 369 false [.vI k] .one [B (decide (0<=k/\k<=15))]:=by
 refine fO 5 [] Tryz.func369 rfl ?_
 repeat'(first|refine gP ?_|refine CG (aQ k 0 15) ?_)
 rfl
def Aa(p:bn)(e:bn.sml p):zzA 182 false [.val (some 3) (bn.enc .O p)] .one [B (gK p)]:=by
 have h:p.U.length<=1048576:=e;refine fO 51 [(4,25,[11,12,13,14,15,16,17,18,19,20,21,22,23,24,25,26,27,28,29,30,31,32,33,34,35])] Tryz.func182 rfl ?_
 refine σP ?_
 refine g0 p.U.length (λi=>[(1,bX (bn.enc .O p)),(3,fN i)]) (λi=>dK i (ss p.U)=true) rfl λi c=>?_
 obtain⟨c,d⟩:=c;by_cases a:i<p.U.length
 ·have g:=au a
  repeat'(first|refine gE ?_|refine gS (λb=>?_) (λb=>?_)|refine CG (aU _ 0 15) ?_|refine CS ω (aa (iV ω a)) ?_)
  all_goals first
   | exact bE ((by symm;unfold gK;rw[cM a (C1 ω)];rfl))
   | ((conv=>whnf);exact dL (i+1) ⟨ω,co d (O0 ω)⟩)
 obtain rfl:i=p.U.length:=ω
 repeat'(first|refine gE ?_|refine gS (λb=>?_) (λb=>?_)|refine CG (aU _ 0 31) ?_)
 all_goals exact bE ((by unfold gK;rw[d];simp only[Bool.true_and];first|(symm;exact C1 ω)|exact decide_eq_decide.2 ω|(rw[C9];simp;omega)))
def Aq(p:bn)(e:bn.sml p):zzA 241 false [.val (some 3) (bn.enc .O p)] .one [B (gK p)]:=by
 have h:p.U.length<=1048576:=e;refine fO 46 [] Tryz.func241 rfl ?_
 refine σP ?_
 refine g0 p.U.length (λi=>[(1,bX (bn.enc .O p)),(6,b8 (aI .O p.U)),(7,fI p.U.length),(8,fN i)]) (λi=>dK i (ss p.U)=true) rfl λi c=>?_
 obtain⟨c,d⟩:=c;by_cases a:i<p.U.length
 ·have g:=au a
  repeat'(first|refine gE ?_|refine gS (λb=>?_) (λb=>?_)|refine CG (Hv _) ?_|refine CS ω (aa (iV ω a)) ?_)
  all_goals first
   | exact bE ((by symm;unfold gK;rw[cM a (C1 ω)];rfl))
   | ((conv=>whnf);exact dL (i+1) ⟨ω,co d (O0 ω)⟩)
 obtain rfl:i=p.U.length:=ω
 repeat'(first|refine gE ?_|refine gS (λb=>?_) (λb=>?_)|refine CG (aQ _ 0 31) ?_)
 all_goals exact bE ((by unfold gK;rw[d];simp only[Bool.true_and];first|(symm;exact C1 ω)|exact decide_eq_decide.2 ω|(rw[C9];simp;omega)))
def BS(j:bz)(a:bz.sml j):zzA 64 false [.val (some 5) (bz.enc .O j)] .one [B (md j)]:=by
 have e:j.d.U.length<=1048576:=a;have b:=Aa j.d a;cases c:gK j.d<;>rw[c]at b
 all_goals
  refine fO 20 [] Tryz.func64 rfl ?_
  repeat'(first|refine gP ?_|refine gS (λd=>?_) (λd=>?_)|refine CG (aU _ 0 5) ?_|refine CG (aU _ 0 _) ?_)
  all_goals exact bE ((by unfold md;rw[c];first|rfl|(symm;exact C1 ω)|(rw[C9];simp;omega)))
def BB(j:bz)(a:bz.sml j):zzA 97 false [.val (some 5) (bz.enc .O j)] .one [B (md j)]:=by
 have e:j.d.U.length<=1048576:=a;have b:=Aq j.d a;cases c:gK j.d<;>rw[c]at b
 all_goals
  refine fO 20 [] Tryz.func97 rfl ?_
  repeat'(first|refine gP ?_|refine gS (λd=>?_) (λd=>?_)|refine CG (aQ _ 0 5) ?_|refine CG (aQ _ 0 _) ?_)
  all_goals exact bE ((by unfold md;rw[c];first|rfl|(symm;exact C1 ω)|(rw[C9];simp;omega)))
theorem nR(l:aA)(k:Nat):lpgs l (k+1)=lpgs l k++[l.S+(k:Nat)]:=by grind [List.range_succ,lpgs]
theorem LO(l:aA)(k:Nat):(lpgs l k).length=k:=by unfold lpgs;simp
theorem UV(l:aA)(h:k<=n):lpgs l k <+: lpgs l n:=by
 induction n with
 | zero=>
  grind
 | succ n a=>
  grind [nR]
variable{la:List aA}
theorem tt(sp:List aC){l:aA}(h:la[i]? = some l):pgs sp (la.take (i+1))=pgs sp (la.take i)++lpgs l l.a0.toNat:=by grind [SA,pgs]
theorem Yv(sp:List aC)(la:List aA)(i:Nat):pgs sp (la.take i) <+: pgs sp la:=by grind [List.take_append_drop,pgs]
variable{S:List Int}
theorem Wi{all:List Int}{p:Int}(h:(S++[p]) <+: all)(a:p∈S):decide all.Nodup=false:=by grind [List.nodup_append]
theorem oQ{p:Int}(h:S.Nodup)(a:p∉S):(S++[p]).Nodup:=ψ
variable{sp:List aC}
theorem Ld(h:sp[i]? = some s):((sp.take i).map (·.S)++[s.S]) <+: pgs sp la:=by
 have a:(sp.take i).map (·.S)++[s.S]=(sp.take (i+1)).map (·.S):=by grind [SA]
 rw[a];refine List.IsPrefix.trans ?_ (List.prefix_append ..)
 grind
theorem GE{l:aA}(h:la[i]? = some l)(a:k<l.a0.toNat):(pgs sp (la.take i)++lpgs l k++[l.S+(k:Nat)]) <+: pgs sp la:=by
 refine List.IsPrefix.trans ?_ (Yv sp la (i+1));rw[tt sp h,CB,<-nR]
 grind [List.prefix_append_right_inj,UV]
theorem vR(h:sp[i]? = some s)(a:bu s=false):bK sp la=false:=by grind [bK]
theorem tO{l:aA}(h:la[i]? = some l)(a:cv l=false):bK sp la=false:=by grind [bK]
theorem nD{p:Int}(h:(S++[p]) <+: pgs sp la)(a:p∈S):bK sp la=false:=by grind [Wi,bK]
theorem xn(h1:sp.all bu=true)(h2:la.all cv=true)(a:(pgs sp la).Nodup):bK sp la=true:=by grind [bK]
theorem bj{l:aA}(h:cv l=true):1<=l.a0/\l.a0<=63/\0<=l.S/\l.S<=31:=by grind [cv]
theorem qg(sp:List aC)(la:List aA)(t:cP sp)(u:cV la):zzA 54 false [.val none (bH .O sp),.val none (bG .O la)] .one [B (bK sp la)]:=by
 have G:=t.1;have H:=u.1;refine fO 79 [] Tryz.func54 rfl ?_
 refine σP ?_
 refine pe (ι:=Nat × List Int) (λi=>[(0,b8 (bH .O sp)),(1,b8 (bG .O la)),(5,b8 (aI .own i.2)),(6,fN (i.1))]) (λi=>i.1<=sp.length/\i.2=(sp.take i.1).map (·.S)/\(sp.take i.1).all bu=true/\i.2.Nodup) (λi=>sp.length - i.1) ((0,[])) ψ λi o=>?_
 obtain⟨i,S⟩:=i;obtain⟨o,q,d,h⟩:=o;simp only at o q d h |-;have J:S.length=i:=ψ
 by_cases w:i<sp.length
 ·have a:=au w
  have j:=jj (nth sp i);cases e:bu (nth sp i)<;>rw[e]at j
  ·refine σE ?_
   exact bE ((vR a e).symm)
  repeat'(first|refine gE ?_|refine gS (λy=>?_) (λy=>?_)|refine CN (qX S _ ω) ⟨⟨rfl,eI _⟩,⟨rfl,rfl⟩,tV1⟩ ?_|refine Ce dz (λr C=>by rw[z3.1 C];rfl) (by simp[b6,gj]) kd (by simp only[I2];exact wT kd qs) rfl ?_)
  all_goals first
   | exact bE ((nD (S:=S) (by rw[q];exact Ld a) (by assumption)).symm)
   | ((conv=>whnf)
      refine CQ (i+1,S++[(nth sp i).S]) ⟨(by simp only;omega),(by simp only;rw[q,SA,a];simp),(dy a d e),oQ h (by assumption)⟩ (by simp only;omega) ?_
      (exact wD))
 obtain rfl:i=sp.length:=ω
 rw[S9]at d q
 refine σE ?_
 refine pe (ι:=Nat × List Int) (λi=>[(1,b8 (bG .O la)),(5,b8 (aI .own i.2)),(7,fN (i.1))]) (λi=>i.1<=la.length/\i.2=pgs sp (la.take i.1)/\(la.take i.1).all cv=true/\i.2.Nodup/\i.2.length<=1048576+64*i.1) (λi=>la.length - i.1) ((0,S)) (⟨I1 _,by grind [pgs],rfl,h,by simp only;omega⟩) λi o=>?_
 obtain⟨i,S2⟩:=i;obtain⟨D,l,b,g,E⟩:=o;simp only at D l b g E |-;by_cases w:i<la.length
 ·have a:=au w
  have j:=re (nth la i);cases e:cv (nth la i)<;>rw[e]at j
  ·refine σE ?_
   exact bE ((tO a e).symm)
  have K:=bj e
  refine σE ?_
  refine pe (ι:=Nat × List Int) (λk=>[(1,b8 (bG .O la)),(5,b8 (aI .own k.2)),(7,fN i),(8,fN (k.1))]) (λk=>k.1<=(nth la i).a0.toNat/\k.2=S2++lpgs (nth la i) k.1/\k.2.Nodup) (λk=>(nth la i).a0.toNat - k.1) ((0,S2)) (⟨I1 _,by simp[lpgs],g⟩) λk F=>?_
  obtain⟨k,p⟩:=k;obtain⟨F,n,c⟩:=F;simp only at F n c |-;have L:p.length=S2.length+k:=by grind [LO]
  by_cases M:k<(nth la i).a0.toNat
  ·repeat'(first|refine gE ?_|refine gS (λy=>?_) (λy=>?_)|refine CN (qX p _ ω) ⟨⟨rfl,eI _⟩,⟨rfl,rfl⟩,tV1⟩ ?_|refine Ce dz (λr C=>by rw[z3.1 C];rfl) (by simp[b6,gj]) kd (by show _*8<=_;simp;omega) rfl ?_)
   all_goals first
    | exact bE ((nD (S:=p) (by rw[n,l];exact GE a M) (by assumption)).symm)
    | ((conv=>whnf)
       refine CQ (k+1,p++[(nth la i).S+(k:Nat)]) ⟨(by simp only;omega),(by simp only;rw[n,nR,CB]),oQ c (by assumption)⟩ (by simp only;omega) ?_
       (exact wD))
  obtain rfl:k=(nth la i).a0.toNat:=ω
  refine σE ?_
  (exact dL (i+1,p) ⟨(by simp only;omega),(by grind [tt]),(dy a b e),c,(by simp only;omega)⟩)
 obtain rfl:i=la.length:=ω
 rw[S9]at b l
 refine σE ?_
 exact bE ((xn d b ψ).symm)
def ins(S:List Int)(p:Int):List Int:=if p∈S then S else S++[p]
theorem Rc{p:Int} : ∀{S:List Int},p∈S->mput (io S) p (.bool true)=io S
 | x::S,h=>by
  simp only[io,SB,mput];by_cases a:x=p
  ·rw[CK a,a]
  rw[CJ a];have:=Rc (S:=S) ((List.mem_cons.1 h).resolve_left λe=>a e.symm)
  grind [io]
theorem E1(S:List Int)(p:Int):io (ins S p)=mput (io S) p (.bool true):=by grind [Rc,yE,ins]
theorem UD(S:List Int)(p:Int):zzB 223 false [.vI p,.ptr [.m (io S)]] [.vI p,.ptr [.m (io (ins S p))]] .one [B (decide (p∉S))]:=by
 refine fM 12 [] [] [(0,0),(0,0)] Tryz.func223 rfl (λu q=>?_)
 repeat'(first|refine gP ?_|refine Ml.mk (rW p S) ?_|refine Mu.mk (E1 S p) ?_)
 refine CO rfl ?_ ?_
 ·grind
 exact wB
theorem vC(sp:List aC)(la:List aA)(t:cP sp)(u:cV la):zzA 89 false [.val none (bH .O sp),.val none (bG .O la)] .one [B (bK sp la)]:=by
 have E:=t.1;have F:=u.1;refine fP 54 [(223,[0,2])] [] Tryz.func89 rfl ?_
 refine σP ?_
 refine pe (ι:=Nat × List Int) (λi=>[(1,b8 (bG .O la)),(5,bX [.m (io i.2)]),(6,.fn 223 [5]),(14,b8 (bH .O sp)),(15,fI sp.length),(16,fN (i.1))]) (λi=>i.1<=sp.length/\i.2=(sp.take i.1).map (·.S)/\(sp.take i.1).all bu=true/\i.2.Nodup) (λi=>sp.length - i.1) ((0,[])) ψ λi p=>?_
 obtain⟨i,S⟩:=i;obtain⟨p,r,e,j⟩:=p;simp only at p r e j |-;by_cases w:i<sp.length
 ·have c:=au w
  have l:=jm (nth sp i);cases g:bu (nth sp i)<;>rw[g]at l
  ·refine σE ?_
   exact bE ((vR c g).symm)
  repeat'(first|refine gE ?_|refine gS (λy=>?_) (λy=>?_)|refine CP (UD S _) (.inl rfl) ?_)
  all_goals first
   | exact bE ((nD (S:=S) (by rw[r];exact Ld c) ψ).symm)
   |(have a:(nth sp i).S∉S:=by assumption
     (conv=>whnf)
     refine CQ (i+1,ins S (nth sp i).S) ⟨(by simp only;omega),(by simp only;unfold ins;rw[CJ a,r,SA,c];simp),(dy c e g),(by simp only;unfold ins;rw[CJ a];exact oQ j a)⟩ (by simp only;omega) ?_
     (exact wA))
 obtain rfl:i=sp.length:=ω
 rw[S9]at e r
 refine σE ?_
 refine pe (ι:=Nat × List Int) (λi=>[(5,bX [.m (io i.2)]),(6,.fn 223 [5]),(31,b8 (bG .O la)),(32,fI la.length),(33,fN (i.1))]) (λi=>i.1<=la.length/\i.2=pgs sp (la.take i.1)/\(la.take i.1).all cv=true/\i.2.Nodup) (λi=>la.length - i.1) ((0,S)) (⟨I1 _,by grind [pgs],rfl,j⟩) λi p=>?_
 obtain⟨i,S2⟩:=i;obtain⟨C,n,b,h⟩:=p;simp only at C n b h |-;by_cases w:i<la.length
 ·have c:=au w
  have l:=sA (nth la i);cases g:cv (nth la i)<;>rw[g]at l
  ·refine σE ?_
   exact bE ((tO c g).symm)
  have G:=bj g
  refine σE ?_
  refine pe (ι:=Nat × List Int) (λk=>[(5,bX [.m (io k.2)]),(6,.fn 223 [5]),(10,bX (aA.enc .O (nth la i))),(11,fN (k.1)),(31,b8 (bG .O la)),(32,fI la.length),(33,fN i)]) (λk=>k.1<=(nth la i).a0.toNat/\k.2=S2++lpgs (nth la i) k.1/\k.2.Nodup) (λk=>(nth la i).a0.toNat - k.1) ((0,S2)) (⟨I1 _,by simp[lpgs],h⟩) λk D=>?_
  obtain⟨k,q⟩:=k;obtain⟨D,o,d⟩:=D;simp only at D o d |-;by_cases H:k<(nth la i).a0.toNat
  ·repeat'(first|refine gE ?_|refine gS (λy=>?_) (λy=>?_)|refine CP (UD q _) (.inl rfl) ?_)
   all_goals first
    | exact bE ((nD (S:=q) (by rw[o,n];exact GE c H) ψ).symm)
    |(have a:(nth la i).S+(k:Nat)∉q:=by assumption
      (conv=>whnf)
      refine CQ (k+1,ins q ((nth la i).S+(k:Nat))) ⟨(by simp only;omega),(by simp only;unfold ins;rw[CJ a,o,nR,CB]),(by simp only;unfold ins;rw[CJ a];exact oQ d a)⟩ (by simp only;omega) ?_
      (exact wA))
  obtain rfl:k=(nth la i).a0.toNat:=ω
  refine σE ?_
  (exact dL (i+1,q) ⟨(by simp only;omega),(by grind [tt]),(dy c b g),d⟩)
 obtain rfl:i=la.length:=ω
 rw[S9]at b n
 refine σE ?_
 exact bE ((xn e b ψ).symm)
theorem aT(h:bu s=true):0<=s.S/\s.S<=31/\0<=s.Z/\s.Z<=3:=by grind [bu]
theorem dx{k:Int}(h:0<=k/\k<=3):csz k=1\/csz k=2\/csz k=4\/csz k=8:=by
 obtain rfl|rfl|rfl|rfl:k=0\/k=1\/k=2\/k=3:=ω
 all_goals decide
def xu{x y:Int}(h:0<=x):x.tdiv y=x / y:=Int.tdiv_eq_ediv_of_nonneg h
def fH{x y:Int}(h:0<=x):x.tmod y=x % y:=Int.tmod_eq_emod_of_nonneg h
def S2(p:Int × Int):List C:=[I p.1,I p.2]
theorem H0{p:Int × Int}(h:(a,b)=p):[I a,I b]=S2 p:=by subst h;rfl
theorem Ai(s:aC)(a:Int)(k:nM a):zzA 316 false [.val (some 3) (aC.enc .O s),.vI a] (.tup [none,none]) (S2 (k6 s a)):=by
 have b:=jj s;have l:=fF s.Z;obtain⟨n,o⟩:=k;cases c:bu s<;>rw[c]at b
 ·refine fO 33 [(4,12,[23,24,25,26,27,28,29,30,31,32,4,5])] Tryz.func316 rfl ?_ (.inr ⟨tV1,tV1,tV1⟩)
  refine σP ?_
  exact H0 (by grind [k6,eH])
 have h:=aT c;have i:=dx ⟨h.2.2.1,h.2.2.2⟩;by_cases d:16*s.S<=a/\a<=16*s.S+15
 ·have j:0<=a:=ω
  refine fO 33 [(4,12,[23,24,25,26,27,28,29,30,31,32,4,5])] Tryz.func316 rfl ?_ (.inr ⟨tV1,tV1,tV1⟩)
  repeat'(first|refine gE ?_|refine gS (λg=>?_) (λg=>?_)|refine CU qs ?_|refine CU ω ?_|refine CT ((O1 _ (xu j)).trans (ij ω ω)) ?_|refine CY (fH j) ?_|refine CT ((O1 _ (xu ω)).trans (ij (by rcases i with e|e|e|e<;>rw[e]<;>omega) (by rcases i with e|e|e|e<;>rw[e]<;>omega))) ?_|refine CY (fH ω) ?_)
  all_goals grind [H0,k6,eH]
 refine fO 33 [(4,12,[23,24,25,26,27,28,29,30,31,32,4,5])] Tryz.func316 rfl ?_ (.inr ⟨tV1,tV1,tV1⟩)
 repeat'(first|refine gP ?_|refine gS (λg=>?_) (λg=>?_)|refine CU qs ?_|refine CT ((O1 _ (xu ω)).trans (ij ω ω)) ?_)
 all_goals first
  |exact H0 (by unfold k6 eH;rw[c,C1 d];rfl)
  |(exfalso;omega)
theorem Nh(s:aC)(a:Int):zzA 363 false [.val (some 3) (aC.enc .O s),.vI a] (.tup [none,none]) (S2 (k6 s a)):=by
 have b:=jm s;have j:=dN s.Z;cases c:bu s<;>rw[c]at b
 ·refine fO 38 [(4,12,[28,29,30,31,32,33,34,35,36,37,4,5])] Tryz.func363 rfl ?_ (.inr ⟨tV1,tV1,tV1⟩)
  refine σP ?_
  exact H0 (by grind [k6,eH])
 have h:=aT c;have i:=dx ⟨h.2.2.1,h.2.2.2⟩;by_cases d:16*s.S<=a/\a<=16*s.S+15
 ·refine fO 38 [(4,12,[28,29,30,31,32,33,34,35,36,37,4,5])] Tryz.func363 rfl ?_ (.inr ⟨tV1,tV1,tV1⟩)
  repeat'(first|refine gE ?_|refine gS (λg=>?_) (λg=>?_)|refine CG (aQ _ _ _) ?_|refine CU ω ?_|refine CT ((O1 _ (xu ω)).trans (ij (by rcases i with e|e|e|e<;>rw[e]<;>omega) (by rcases i with e|e|e|e<;>rw[e]<;>omega))) ?_|refine CY (fH ω) ?_)
  grind [H0,k6,eH]
 refine fO 38 [(4,12,[28,29,30,31,32,33,34,35,36,37,4,5])] Tryz.func363 rfl ?_ (.inr ⟨tV1,tV1,tV1⟩)
 repeat'(first|refine gE ?_|refine gS (λg=>?_) (λg=>?_)|refine CG (aQ _ _ _) ?_)
 all_goals exact H0 (by unfold k6 eH;rw[c,C1 d];rfl)
def vh(b i:Int):zzA 412 false [.vI b,.vI i] .one [B (decide (0<=b/\0<=i/\i<=15))]:=by
 refine fO 11 [] Tryz.func412 rfl ?_
 repeat'(first|refine gP ?_|refine gS (λa=>?_) (λa=>?_)|refine CG (aU _ 0 15) ?_)
 all_goals exact bE ((by first|(symm;exact C1 ω)|exact decide_eq_decide.2 ω))
def uD(b i:Int):zzA 439 false [.vI b,.vI i] .one [B (decide (0<=b/\0<=i/\i<=15))]:=by
 refine fO 11 [] Tryz.func439 rfl ?_
 repeat'(first|refine gP ?_|refine gS (λa=>?_) (λa=>?_)|refine CG (aQ _ 0 15) ?_)
 all_goals exact bE ((by first|(symm;exact C1 ω)|exact decide_eq_decide.2 ω))
theorem Wj{i:Int}(a:0<=b/\b<=9223372036854775807)(e:0<=i/\i<=15):b.fdiv (2 ^ min i.toNat IntKind.i64.bits)=b / 2 ^ i.toNat/\0<=b / 2 ^ i.toNat/\b / 2 ^ i.toNat<=9223372036854775807:=by
 have d:min i.toNat IntKind.i64.bits=i.toNat:=Nat.min_eq_left (show i.toNat<=64 by omega);rw[d];have c:(0:Int)<=2 ^ i.toNat:=ψ
 refine⟨Int.fdiv_eq_ediv_of_nonneg _ c,Int.ediv_nonneg a.1 c,?_⟩;have:=Int.ediv_le_self (2 ^ i.toNat:Int) a.1;omega
theorem DQ{i:Int}(a:0<=b)(c:0<=i/\i<=15):((((b / 2 ^ i.toNat).toNat &&& (1:Int).toNat:Nat):Int) == 1)=br b i:=by
 have d:(0:Int)<=b / 2 ^ i.toNat:=Int.ediv_nonneg a ψ
 grind [br]
theorem kQ(b i:Int)(c:b<=9223372036854775807):zzA 317 false [.vI b,.vI i] .one [B (br b i)]:=by
 by_cases h:0<=b/\0<=i/\i<=15
 ·obtain⟨d,g⟩:=Wj (b:=b) (i:=i) ⟨h.1,c⟩ h.2
  have j:IntKind.u64.wrap i=i:=by grind [Go.IntKind.wrap,Go.IntKind.bits]
  refine fO 16 [] Tryz.func317 rfl ?_
  repeat'(first|refine gE ?_|refine gS (λa=>?_) (λa=>?_)|refine CG (vh _ _) ?_|refine CU ω ?_|refine CT j ?_|refine CY d ?_|refine CT (and64 g ⟨by decide,by decide⟩) ?_)
  grind [DQ]
 refine fO 16 [] Tryz.func317 rfl ?_
 repeat'(first|refine gE ?_|refine gS (λa=>?_) (λa=>?_)|refine CG (vh _ _) ?_)
 all_goals exact bE ((by unfold br;symm;exact C1 λe=>h ⟨e.1,e.2.1,e.2.2.1⟩))
theorem jn(b i:Int)(c:b<=9223372036854775807):zzA 364 false [.vI b,.vI i] .one [B (br b i)]:=by
 by_cases h:0<=b/\0<=i/\i<=15
 ·obtain⟨d,g⟩:=Wj (b:=b) (i:=i) ⟨h.1,c⟩ h.2
  refine fO 15 [] Tryz.func364 rfl ?_
  repeat'(first|refine gE ?_|refine gS (λa=>?_) (λa=>?_)|refine CG (uD _ _) ?_|refine CU ω ?_|refine CY d ?_|refine CT (and64 g ⟨by decide,by decide⟩) ?_)
  grind [DQ]
 refine fO 15 [] Tryz.func364 rfl ?_
 repeat'(first|refine gE ?_|refine gS (λa=>?_) (λa=>?_)|refine CG (uD _ _) ?_)
 all_goals exact bE ((by unfold br;symm;exact C1 λe=>h ⟨e.1,e.2.1,e.2.2.1⟩))
theorem cQ{l:aA}(h:cv l=true):9<=l.q/\l.q<=1000/\0<=l.S/\l.S<=31:=by grind [cv]
theorem vQ(l:aA)(a:Int):zzA 318 false [.val (some 3) (aA.enc .O l),.vI a] .one [B (cg l a)]:=by
 have b:=re l;cases c:cv l<;>rw[c]at b
 ·refine fO 24 [] Tryz.func318 rfl ?_
  refine σP ?_
  exact bE ((by grind [cg]))
 have e:=cQ c;refine fO 24 [] Tryz.func318 rfl ?_
 repeat'(first|refine gP ?_|refine gS (λd=>?_) (λd=>?_)|fail)
 all_goals exact bE ((by unfold cg;rw[c,Bool.true_and];first|(symm;exact C1 ω)|exact decide_eq_decide.2 ω))
theorem vG(l:aA)(a:Int):zzA 365 false [.val (some 3) (aA.enc .O l),.vI a] .one [B (cg l a)]:=by
 have b:=sA l;cases c:cv l<;>rw[c]at b
 ·refine fO 21 [] Tryz.func365 rfl ?_
  refine σP ?_
  exact bE ((by grind [cg]))
 have e:=cQ c;refine fO 21 [] Tryz.func365 rfl ?_
 repeat'(first|refine gP ?_|refine gS (λd=>?_) (λd=>?_)|refine CG (aQ _ _ _) ?_)
 grind [cg]
theorem yR(l:aA)(a:Int)(h:cg l a=true):zzA 319 false [.val (some 3) (aA.enc .O l),.vI a] .one [I (a - 16*l.S)]:=by
 have b:=vQ l a;rw[h]at b;unfold cg at h;simp only[I0,C0]at h;have c:=cQ h.1;refine fO 14 [] Tryz.func319 rfl ?_
 refine σP ?_
 grind
theorem zf(l:aA)(a:Int)(h:cg l a=true):zzA 366 false [.val (some 3) (aA.enc .O l),.vI a] .one [I (a - 16*l.S)]:=by
 have b:=vG l a;rw[h]at b;unfold cg at h;simp only[I0,C0]at h;have c:=cQ h.1;refine fO 14 [] Tryz.func366 rfl ?_
 refine σP ?_
 grind
variable{m:aJ}
theorem uN(a:i<m.T.length)(h:jx m i=false):bN m=false:=by grind [cM,bN]
theorem D3(h:¬(1<=m.T.length/\m.T.length<=4/\m.e.length=m.T.length)):bN m=false:=by grind [bN]
theorem Eb(h1:1<=m.T.length/\m.T.length<=4/\m.e.length=m.T.length)(h2:dK m.T.length (jx m)=true):bN m=decide (bW m m.T.length<=30):=by grind [bN]
theorem pA(m:aJ)(h:aJ.sml m):zzA 57 false [.val (some 2) (aJ.enc .O m)] .one [B (bN m)]:=by
 have r:m.T.length<=1048576:=h.1.1;have t:m.e.length<=1048576:=h.2.1;by_cases u:1<=m.T.length/\m.T.length<=4/\m.e.length=m.T.length
 ·refine fO 92 [(19,15,[75,76,77,78,79,80,81,82,83,84,85,86,87,88,89])] Tryz.func57 rfl ?_
  repeat'(first|refine gB ?_|refine gS (λa=>?_) (λa=>?_)|refine CG (aU _ 1 4) ?_)
  refine g0 m.T.length (λi=>[(1,bX (aJ.enc .O m)),(3,fI m.T.length),(4,fI (bW m i)),(5,fN i)]) (λi=>dK i (jx m)=true/\0<=bW m i/\bW m i<=2097152*i) ⟨rfl,by simp[bW],by simp[bW]⟩ λi n=>?_
  obtain⟨n,w,E,F⟩:=n;by_cases j:i<m.T.length
  ·have l:=au j
   have o:=au (xs:=m.e) (i:=i) ω;have y:(nth m.T i).length<=1048576:=(h.1.2 _ (ay j)).1;have C:(nth m.e i).length<=1048576:=h.2.2 _ ψ
   refine σE ?_
   refine g0 ((nth m.T i).length) (λk=>[(1,bX (aJ.enc .O m)),(3,fI m.T.length),(4,fI (bW m i)),(5,fN i),(6,fN k)]) (λk=>((nth m.T i).take k).all (rd m.T.length)=true) ψ λk p=>?_
   obtain⟨p,q⟩:=p;by_cases D:k<(nth m.T i).length
   ·have b:=au D
    repeat'(first|refine gE ?_|refine gS (λa=>?_) (λa=>?_)|refine CG (aU _ 0 _) ?_)
    all_goals first
     | exact bE ((uN j (by unfold jx;rw[ja b (by unfold rd;exact C1 ω)];rfl)).symm)
     | ((conv=>whnf);exact dL (k+1) ⟨ω,dy b q (by unfold rd;exact O0 ω)⟩)
   have G:=rY ω q
   refine σE ?_
   refine g0 ((nth m.e i).length) (λd=>[(1,bX (aJ.enc .O m)),(3,fI m.T.length),(4,fI (bW m i)),(5,fN i),(8,fN d)]) (λd=>((nth m.e i).take d).all Xh=true) ψ λd e=>?_
   obtain⟨e,ak2⟩:=e;by_cases lk2:d<(nth m.e i).length
   ·have b:=au lk2
    repeat'(first|refine gE ?_|refine gS (λa=>?_) (λa=>?_)|fail)
    all_goals first
     | exact bE ((uN j (by unfold jx;rw[ja b (by unfold Xh;exact C1 ω)];simp)).symm)
     | ((conv=>whnf);exact dL (d+1) ⟨ω,dy b ak2 (by unfold Xh;exact O0 ω)⟩)
   have ae2:=rY ω ak2;have g:bW m (i+1)=bW m i+((nth m.T i).length+(nth m.e i).length):=rfl;have c:bW m (i+1)=bW m i+(nth m.T i).length+(nth m.e i).length:=by rw[g];omega
   refine σE ?_
   (refine CQ (i+1) ⟨ω,co w (by grind [jx]),ω,ω⟩ ω ?_)
   rw[c];exact wB
  obtain rfl:i=m.T.length:=ω
  refine σE ?_
  grind [Eb]
 refine fO 92 [(19,15,[75,76,77,78,79,80,81,82,83,84,85,86,87,88,89])] Tryz.func57 rfl ?_
 repeat'(first|refine gP ?_|refine gS (λa=>?_) (λa=>?_)|refine CG (aU _ 1 4) ?_)
 all_goals first
  | exact bE ((D3 u).symm)
  |(exfalso;omega)
theorem pH(m:aJ)(g:aJ.sml m):zzA 91 false [.val (some 2) (aJ.enc .O m)] .one [B (bN m)]:=by
 have q:m.T.length<=1048576:=g.1.1;have r:m.e.length<=1048576:=g.2.1;by_cases t:1<=m.T.length/\m.T.length<=4/\m.e.length=m.T.length
 ·refine fO 82 [(20,15,[64,65,66,67,68,69,70,71,72,73,74,75,76,77,78])] Tryz.func91 rfl ?_
  repeat'(first|refine gB ?_|refine gS (λa=>?_) (λa=>?_)|refine CG (aQ _ 1 4) ?_)
  refine g0 m.T.length (λi=>[(1,bX (aJ.enc .O m)),(3,fI m.T.length),(4,fI (bW m i)),(25,fI m.T.length),(26,fN i)]) (λi=>dK i (jx m)=true/\0<=bW m i/\bW m i<=2097152*i) ⟨rfl,by simp[bW],by simp[bW]⟩ λi n=>?_
  obtain⟨n,u,D,E⟩:=n;by_cases h:i<m.T.length
  ·have j:=au h
   have l:=au (xs:=m.e) (i:=i) ω;have w:(nth m.T i).length<=1048576:=(g.1.2 _ (ay h)).1;have y:(nth m.e i).length<=1048576:=g.2.2 _ ψ
   refine σE ?_
   refine g0 ((nth m.T i).length) (λk=>[(1,bX (aJ.enc .O m)),(3,fI m.T.length),(4,fI (bW m i)),(5,fN i),(25,fI m.T.length),(26,fN i),(33,b8 (bf .O (nth m.T i))),(34,fI ((nth m.T i).length)),(35,fN k)]) (λk=>((nth m.T i).take k).all (rd m.T.length)=true) ψ λk o=>?_
   obtain⟨o,p⟩:=o;by_cases C:k<(nth m.T i).length
   ·have b:=au C
    repeat'(first|refine gE ?_|refine gS (λa=>?_) (λa=>?_)|refine CG (aQ _ 0 _) ?_)
    all_goals first
     | exact bE ((uN h (by unfold jx;rw[ja b (by unfold rd;exact C1 ω)];rfl)).symm)
     | ((conv=>whnf);exact dL (k+1) ⟨ω,dy b p (by unfold rd;exact O0 ω)⟩)
   have F:=rY ω p
   refine σE ?_
   refine g0 ((nth m.e i).length) (λc=>[(1,bX (aJ.enc .O m)),(3,fI m.T.length),(4,fI (bW m i)),(5,fN i),(25,fI m.T.length),(26,fN i),(55,b8 (aI .O (nth m.e i))),(56,fI ((nth m.e i).length)),(57,fN c)]) (λc=>((nth m.e i).take c).all Xh=true) ψ λc d=>?_
   obtain⟨d,ak2⟩:=d;by_cases lk2:c<(nth m.e i).length
   ·have b:=au lk2
    repeat'(first|refine gE ?_|refine gS (λa=>?_) (λa=>?_)|fail)
    all_goals first
     | exact bE ((uN h (by unfold jx;rw[ja b (by unfold Xh;exact C1 ω)];simp)).symm)
     | ((conv=>whnf);exact dL (c+1) ⟨ω,dy b ak2 (by unfold Xh;exact O0 ω)⟩)
   have ae2:=rY ω ak2;have e:bW m (i+1)=bW m i+((nth m.T i).length+(nth m.e i).length):=rfl
   refine σE ?_
   (refine CQ (i+1) ⟨ω,co u (by grind [jx]),ω,ω⟩ ω ?_)
   rw[e];exact wB
  obtain rfl:i=m.T.length:=ω
  refine σE ?_
  grind [Eb]
 refine fO 82 [(20,15,[64,65,66,67,68,69,70,71,72,73,74,75,76,77,78])] Tryz.func91 rfl ?_
 repeat'(first|refine gP ?_|refine gS (λa=>?_) (λa=>?_)|refine CG (aQ _ 1 4) ?_)
 all_goals first
  | exact bE ((D3 t).symm)
  |(exfalso;omega)
def G3(h:eH s a=false):S2 (k6 s a)=[I (-1),I (-1)]:=by
 unfold k6;rw[h];rfl
def Ds(h:eH s a=true):S2 (k6 s a)=[I ((a - 16*s.S) / csz s.Z),I ((a - 16*s.S) % csz s.Z)]:=by
 unfold k6;rw[h];rfl
theorem xc(h:eH s a=true):bu s=true/\0<=(a - 16*s.S) / csz s.Z/\(a - 16*s.S) / csz s.Z<=15:=by
 unfold eH at h;simp only[I0,C0]at h;have b:=aT h.1
 grind [dx]
def rD(b:i<sp.length)(h:eH (nth sp i) a=true)(c:∀(j:Nat)(z:aC),j<i->sp[j]? = some z->eH z a=false):denotes sp la a=uv i (nth sp i) a:=by
 unfold denotes;rw[AN (pr:=(eH · a)) (au b) h c]
def pI(b:sp.length<=n)(c:∀(j:Nat)(z:aC),j<n->sp[j]? = some z->eH z a=false)(d:i<la.length)(h:cg (nth la i) a=true)(e:∀(j:Nat)(z:aA),j<i->la[j]? = some z->cg z a=false) :
  denotes sp la a = ⟨3,i,0,a - 16*(nth la i).S⟩:=by
 unfold denotes;rw[Jy (pr:=(eH · a)) b c,AN (pr:=(cg · a)) (au d) h e]
theorem Do(b:sp.length<=n)(c:∀(j:Nat)(z:aC),j<n->sp[j]? = some z->eH z a=false)(d:la.length<=k)(e:∀(j:Nat)(z:aA),j<k->la[j]? = some z->cg z a=false):denotes sp la a = ⟨0,0,0,0⟩:=by grind [Jy,denotes]
theorem rc(sp:List aC)(la:List aA)(a:Int)(d:cP sp)(e:cV la)(g:bK sp la=true)(C:nM a):zzA 177 false [.val none (bH .O sp),.val none (bG .O la),.vI a] .agg (ll.enc .own (denotes sp la a)):=by
 have D:=d.1;have E:=e.1;have p:=qg sp la d e;rw[g]at p;refine fO 67 [] Tryz.func177 rfl ?_ (.inr (ll.enc_fr _))
 refine σP ?_
 refine g0 sp.length (λi=>[(0,b8 (bH .O sp)),(1,b8 (bG .O la)),(2,fI a),(6,bX ([I 0,I 0,I 0,I 0])),(7,fN i)]) (λi=>∀(j:Nat)(z:aC),j<i->sp[j]? = some z->eH z a=false) ψ λi q=>?_
 obtain⟨q,l⟩:=q;by_cases r:i<sp.length
 ·have h:=au r
  have b:=Ai (nth sp i) a C;cases c:eH (nth sp i) a with
  | false=>
   rw[G3 c]at b
   repeat'(first|refine gE ?_|refine gS (λo=>?_) (λo=>?_)|fail)
   (exact dL (i+1) ψ)
  | true=>
   rw[Ds c]at b;obtain⟨F,G,H⟩:=xc c;have t:=kQ (nth sp i).a3 ((a - 16*(nth sp i).S) / csz (nth sp i).Z) (gF F).2;cases u:br (nth sp i).a3 ((a - 16*(nth sp i).S) / csz (nth sp i).Z)<;>rw[u]at t
   all_goals
    repeat'(first|refine gE ?_|refine gS (λo=>?_) (λo=>?_)|fail)
    all_goals(rw[rD r c l];unfold uv;rw[u];rfl)
 refine σE ?_
 refine g0 la.length (λk=>[(1,b8 (bG .O la)),(2,fI a),(6,bX ([I 0,I 0,I 0,I 0])),(11,fN k)]) (λk=>∀(j:Nat)(z:aA),j<k->la[j]? = some z->cg z a=false) ψ λk w=>?_
 obtain⟨w,y⟩:=w;by_cases B:k<la.length
 ·have h:=au B
  have b:=vQ (nth la k) a;cases c:cg (nth la k) a<;>rw[c]at b
  ·refine σE ?_
   (exact dL (k+1) ψ)
  repeat'(first|refine gE ?_|refine CG (yR (nth la k) a c) ?_)
  rw[pI (n:=i) ω l B c y];rfl
 refine σE ?_
 rw[Do (n:=i) (k:=k) ω l ω y];rfl
theorem n6(sp:List aC)(la:List aA)(a:Int)(e:cP sp)(g:cV la):zzA 237 false [.val none (bH .O sp),.val none (bG .O la),.vI a] .agg (ll.enc .own (denotes sp la a)):=by
 have y:=e.1;have B:=g.1;refine fO 56 [] Tryz.func237 rfl ?_ (.inr (ll.enc_fr _))
 refine σP ?_
 refine g0 sp.length (λi=>[(1,b8 (bG .O la)),(2,fI a),(6,bX ([I 0,I 0,I 0,I 0])),(14,b8 (bH .O sp)),(15,fI sp.length),(16,fN i)]) (λi=>∀(j:Nat)(z:aC),j<i->sp[j]? = some z->eH z a=false) ψ λi o=>?_
 obtain⟨o,h⟩:=o;by_cases p:i<sp.length
 ·have d:=au p
  have b:=Nh (nth sp i) a;cases c:eH (nth sp i) a with
  | false=>
   rw[G3 c]at b
   repeat'(first|refine gE ?_|refine gS (λl=>?_) (λl=>?_)|fail)
   (exact dL (i+1) ψ)
  | true=>
   rw[Ds c]at b;obtain⟨C,D,E⟩:=xc c;have q:=jn (nth sp i).a3 ((a - 16*(nth sp i).S) / csz (nth sp i).Z) (gF C).2;cases r:br (nth sp i).a3 ((a - 16*(nth sp i).S) / csz (nth sp i).Z)<;>rw[r]at q
   all_goals
    repeat'(first|refine gE ?_|refine gS (λl=>?_) (λl=>?_)|fail)
    all_goals(rw[rD p c h];unfold uv;rw[r];rfl)
 refine σE ?_
 refine g0 la.length (λk=>[(2,fI a),(6,bX ([I 0,I 0,I 0,I 0])),(39,b8 (bG .O la)),(40,fI la.length),(41,fN k)]) (λk=>∀(j:Nat)(z:aA),j<k->la[j]? = some z->cg z a=false) ψ λk t=>?_
 obtain⟨t,u⟩:=t;by_cases w:k<la.length
 ·have d:=au w
  have b:=vG (nth la k) a;cases c:cg (nth la k) a<;>rw[c]at b
  ·refine σE ?_
   (exact dL (k+1) ψ)
  repeat'(first|refine gE ?_|refine CG (zf (nth la k) a c) ?_)
  rw[pI (n:=i) ω h w c u];rfl
 refine σE ?_
 rw[Do (n:=i) (k:=k) ω h ω u];rfl
section
variable{α:Type}
def sQ(ag:Option Nat)(e:α->List C)(pr:α->Bool)(xs:List α):List (Option Nat × List C)->Kd->List C->Prop:=λL k rcs=>∃x,x∈xs/\L=[(ag,e x)]/\k=.one/\rcs=[B (pr x)]
end
def AM(xs:List aD)(pr:aD->Bool)(n:xs.length<=9223372036854775807):zzA 436 false [.val none (bm .O xs),.fn (pk Tryz.prog (sQ (some 2) (aD.enc .O) pr xs))] .one [I (cC pr xs)]:=by
 refine fO 19 [] Tryz.func436 rfl ?_
 refine σP ?_
 refine g0 xs.length (λi=>[(0,b8 (bm .O xs)),(1,.fv (pk Tryz.prog (sQ (some 2) (aD.enc .O) pr xs))),(7,fI xs.length),(8,fN i)]) (λi=>∀(j:Nat)(z:aD),j<i->xs[j]? = some z->pr z=false) (λj z h=>ω) λi e=>?_
 obtain⟨e,b⟩:=e;by_cases c:i<xs.length
 ·obtain⟨y,a⟩ : ∃y,xs[i]? = some y:=⟨_,z4 c⟩
  repeat'(first|refine gE ?_|refine Fv.mk (k:=.one) (rcs:=[B (pr y)]) ⟨y,t4 a,rfl,rfl,rfl⟩ ?_|refine Bf.P (λl=>?_) (λl=>?_))
  ·exact eE (eA a ‹_› b).symm
  (conv=>whnf)
  refine CQ (i+1) ⟨ω,λj z h d=>?_⟩ ω ?_
  ·rcases Nat.lt_or_ge j i with g|g
   ·exact b j z g d
   obtain rfl:j=i:=ω
   rw[a]at d;cases d;assumption
  exact wB
 refine σE ?_
 exact eE (gr ω b).symm
theorem wg(xs:List aD)(pr:aD->Bool)(a:xs.length<=9223372036854775807):zzA 360 false [.val none (bm .O xs),.fn (pk Tryz.prog (sQ (some 2) (aD.enc .O) pr xs))] .one [B (xs.any pr)]:=by
 refine fO 9 [] Tryz.func360 rfl ?_
 repeat'(first|refine gP ?_|refine CG (AM xs pr a) ?_)
 grind [nQ]
def zQ(r:aD)(page:Int):zzA 361 false [.val (some 2) (aD.enc .O r),.ptr [I page]] .one [B (AJ page r)]:=by
 refine fO 17 [] Tryz.func361 rfl ?_
 repeat'(first|refine gP ?_|refine gS (λa=>?_) (λa=>?_)|refine CT rfl ?_)
 all_goals exact bE (by unfold AJ;first|(rw[O0 (by assumption:r.At<=page)];simp;done)|(rw[C1 (by assumption:¬r.At<=page)];rfl))
def Fb(xs:List aD)(page:Int)(a:xs.length<=9223372036854775807):zzA 228 false [.val none (bm .O xs),.vI page] .one [B (xs.any (AJ page))]:=by
 refine fO 8 [] Tryz.func228 rfl ?_
 repeat'(first|refine gP ?_|refine Cq.mk (sQ (some 2) (aD.enc .O) (AJ page) xs) (zQ default page).has (λL k rcs b=>?_) ?_|refine CG (wg xs (AJ page) a) ?_)
 ·obtain⟨x,-,rfl,rfl,rfl⟩:=b
  exact zQ x page
 rfl
theorem AE(xs:List aK)(pr:aK->Bool)(g:xs.length<=9223372036854775807):zzA 464 false [.val none (bJ .O xs),.fn (pk Tryz.prog (sQ (some 3) (aK.enc .O) pr xs))] .one [I (cC pr xs)]:=by
 refine fO 19 [] Tryz.func464 rfl ?_
 refine σP ?_
 refine g0 xs.length (λi=>[(0,b8 (bJ .O xs)),(1,.fv (pk Tryz.prog (sQ (some 3) (aK.enc .O) pr xs))),(7,fI xs.length),(8,fN i)]) (λi=>∀(j:Nat)(z:aK),j<i->xs[j]? = some z->pr z=false) ψ λi b=>?_
 obtain⟨b,d⟩:=b;by_cases a:i<xs.length
 ·obtain⟨y,c⟩ : ∃y,xs[i]? = some y:=⟨_,z4 a⟩
  repeat'(first|refine gE ?_|refine Fv.mk (k:=.one) (rcs:=[B (pr y)]) ⟨y,t4 c,rfl,rfl,rfl⟩ ?_|refine Bf.P (λe=>?_) (λe=>?_))
  ·grind [eA]
  (conv=>whnf)
  exact dL (i+1) ψ
 refine σE ?_
 exact eE (gr ω d).symm
theorem wm(xs:List aK)(pr:aK->Bool)(a:xs.length<=9223372036854775807):zzA 437 false [.val none (bJ .O xs),.fn (pk Tryz.prog (sQ (some 3) (aK.enc .O) pr xs))] .one [B (xs.any pr)]:=by
 refine fO 9 [] Tryz.func437 rfl ?_
 repeat'(first|refine gP ?_|refine CG (AE xs pr a) ?_)
 grind [nQ]
theorem B3(xs:List aC)(pr:aC->Bool)(g:xs.length<=9223372036854775807):zzA 242 false [.val none (bH .O xs),.fn (pk Tryz.prog (sQ (some 3) (aC.enc .O) pr xs))] .one [I (cC pr xs)]:=by
 refine fO 19 [] Tryz.func242 rfl ?_
 refine σP ?_
 refine g0 xs.length (λi=>[(0,b8 (bH .O xs)),(1,.fv (pk Tryz.prog (sQ (some 3) (aC.enc .O) pr xs))),(7,fI xs.length),(8,fN i)]) (λi=>∀(j:Nat)(z:aC),j<i->xs[j]? = some z->pr z=false) ψ λi b=>?_
 obtain⟨b,d⟩:=b;by_cases a:i<xs.length
 ·obtain⟨y,c⟩ : ∃y,xs[i]? = some y:=⟨_,z4 a⟩
  repeat'(first|refine gE ?_|refine Fv.mk (k:=.one) (rcs:=[B (pr y)]) ⟨y,t4 c,rfl,rfl,rfl⟩ ?_|refine Bf.P (λe=>?_) (λe=>?_))
  ·grind [eA]
  (conv=>whnf)
  exact dL (i+1) ψ
 refine σE ?_
 exact eE (gr ω d).symm
theorem lS(xs:List aW)(pr:aW->Bool)(g:xs.length<=9223372036854775807):zzA 23 false [.val none (gn .O xs),.fn (pk Tryz.prog (sQ (some 4) (aW.enc .O) pr xs))] .one [I (cC pr xs)]:=by
 refine fO 19 [] Tryz.func23 rfl ?_
 refine σP ?_
 refine g0 xs.length (λi=>[(0,b8 (gn .O xs)),(1,.fv (pk Tryz.prog (sQ (some 4) (aW.enc .O) pr xs))),(7,fI xs.length),(8,fN i)]) (λi=>∀(j:Nat)(z:aW),j<i->xs[j]? = some z->pr z=false) ψ λi b=>?_
 obtain⟨b,d⟩:=b;by_cases a:i<xs.length
 ·obtain⟨y,c⟩ : ∃y,xs[i]? = some y:=⟨_,z4 a⟩
  repeat'(first|refine gE ?_|refine Fv.mk (k:=.one) (rcs:=[B (pr y)]) ⟨y,t4 c,rfl,rfl,rfl⟩ ?_|refine Bf.P (λe=>?_) (λe=>?_))
  ·grind [eA]
  (conv=>whnf)
  exact dL (i+1) ψ
 refine σE ?_
 exact eE (gr ω d).symm
theorem yw(xs:List aW)(pr:aW->Bool)(a:xs.length<=9223372036854775807):zzA 235 false [.val none (gn .O xs),.fn (pk Tryz.prog (sQ (some 4) (aW.enc .O) pr xs))] .one [B (xs.any pr)]:=by
 refine fO 9 [] Tryz.func235 rfl ?_
 repeat'(first|refine gP ?_|refine CG (lS xs pr a) ?_)
 grind [nQ]
def XM(a:k<=3):IntKind.i64.wrap (1*2 ^ min ((k:Nat):Int).toNat IntKind.i64.bits)=csz (k:Nat):=by
 obtain rfl|rfl|rfl|rfl:k=0\/k=1\/k=2\/k=3:=ω
 all_goals decide
theorem Xu(a:k<=100):IntKind.u64.wrap (k:Nat)=(k:Nat):=by grind [Go.IntKind.wrap,Go.IntKind.bits]
theorem JW(a:k<=3)(h:csz (k:Nat)<z)(b:z<=8):k<=2:=by
 have c:csz ((3:Nat):Int)=8:=by decide
 grind
theorem DT(a:k<=3)(h1:1<=z)(h2:k=0\/csz ((k - 1:Nat):Int)<z)(b:¬csz (k:Nat)<z):aZ z=(k:Nat):=by
 have c:csz ((0:Nat):Int)=1:=by decide
 have d:csz ((1:Nat):Int)=2:=by decide
 have e:csz ((2:Nat):Int)=4:=by decide
 have f:csz ((3:Nat):Int)=8:=by decide
 unfold aZ;obtain rfl|rfl|rfl|rfl:k=0\/k=1\/k=2\/k=3:=ω
 all_goals grind
def ny(z:Int):zzA 178 false [.vI z] .one [I (aZ z)]:=by
 refine fO 15 [] Tryz.func178 rfl ?_;by_cases c:1<=z/\z<=8
 ·repeat'(first|refine gE ?_|refine gS (λb=>?_) (λb=>?_)|refine CG (aU z 1 8) ?_)
  refine pe (λk:Nat=>[(0,fI z),(3,fN k)]) (λk=>k<=3/\(k=0\/csz ((k - 1:Nat):Int)<z)) (λk=>4 - k) (0) ω λk a=>?_
  obtain⟨a,h2⟩:=a
  repeat'(first|refine gP ?_|refine gS (λb=>?_) (λb=>?_)|refine CT (Xu ω) ?_|refine CT (XM a) ?_|refine CU ω ?_)
  all_goals first
   | exact eE (DT a c.1 h2 (by assumption)).symm
   | ((conv=>whnf);exact dL (k+1) ⟨by have:=JW a (by assumption) c.2;omega,.inr (by simpa using (by assumption:csz (k:Nat)<z))⟩ (h2:=(by have:=JW a (by assumption) c.2;omega)))
 repeat'(first|refine gE ?_|refine gS (λb=>?_) (λb=>?_)|refine CG (aU z 1 8) ?_)
 all_goals exact eE (by unfold aZ;(repeat' split)<;>omega)
def n9(z:Int):zzA 100 false [.vI z] .one [I (aZ z)]:=by
 refine fO 14 [] Tryz.func100 rfl ?_;by_cases c:1<=z/\z<=8
 ·repeat'(first|refine gE ?_|refine gS (λa=>?_) (λa=>?_)|refine CG (aQ z 1 8) ?_)
  refine pe (λk:Nat=>[(0,fI z),(3,fN k)]) (λk=>k<=3/\(k=0\/csz ((k - 1:Nat):Int)<z)) (λk=>4 - k) (0) ω λk b=>?_
  obtain⟨b,h2⟩:=b
  repeat'(first|refine gP ?_|refine gS (λa=>?_) (λa=>?_)|refine CG (dN _) ?_)
  all_goals first
   | exact eE (DT b c.1 h2 (by assumption)).symm
   | ((conv=>whnf);exact dL (k+1) ⟨by have:=JW b (by assumption) c.2;omega,.inr (by simpa using (by assumption:csz (k:Nat)<z))⟩ (h2:=(by have:=JW b (by assumption) c.2;omega)))
 repeat'(first|refine gE ?_|refine gS (λa=>?_) (λa=>?_)|refine CG (aQ z 1 8) ?_)
 all_goals exact eE (by unfold aZ;(repeat' split)<;>omega)
theorem xS(q:aY)(a:Int)(d:aY.sml q):zzA 174 false [.val (some 2) (aY.enc .O q),.vI a] .one [B (q.l.any (fY a))]:=by
 have j:q.l.length<=1048576:=d.1;refine fO 21 [] Tryz.func174 rfl ?_
 refine σP ?_
 refine g0 q.l.length (λi=>[(1,fI a),(2,bX (aY.enc .O q)),(5,fN i)]) (λi=>(q.l.take i).any (fY a)=false) ψ λi c=>?_
 obtain⟨c,e⟩:=c;by_cases g:i<q.l.length
 ·have b:=au g
  repeat'(first|refine gE ?_|refine gS (λh=>?_) (λh=>?_)|fail)
  all_goals first
   | exact bE ((JB b (O0 (by assumption))).symm)
   | ((conv=>whnf);exact dL (i+1) ⟨ω,EJ b e (C1 (by assumption))⟩)
 refine σE ?_
 exact bE ψ
def kS(xs:List aK)(i:Nat):quarCells xs (i+1)=quarCells xs i+csz (nth xs i).Z:=rfl
theorem UM(k:Int):0<=csz k/\csz k<=8:=by grind [dx,csz]
theorem zu(xs:List aK)(c:gT xs):zzA 175 false [.val none (bJ .O xs)] .one [I (quarCells xs xs.length)]:=by
 have g:=c.1;refine fO 20 [] Tryz.func175 rfl ?_
 refine σP ?_
 refine g0 xs.length (λi=>[(0,b8 (bJ .O xs)),(3,fI (quarCells xs i)),(4,fN i)]) (λi=>0<=quarCells xs i/\quarCells xs i<=8*i) ⟨by simp[quarCells],by simp[quarCells]⟩ λi b=>?_
 obtain⟨b,h,j⟩:=b;by_cases d:i<xs.length
 ·have e:=au d
  have k:=UM (nth xs i).Z;have a:=kS xs i
  repeat'(first|refine gE ?_|refine CG (fF _) ?_)
  (refine CQ (i+1) ω ω ?_)
  rw[a];exact wB
 refine σE ?_
 grind
theorem ur(xs:List aK)(c:gT xs):zzA 232 false [.val none (bJ .O xs)] .one [I (quarCells xs xs.length)]:=by
 have g:=c.1;refine fO 19 [] Tryz.func232 rfl ?_
 refine σP ?_
 refine g0 xs.length (λi=>[(3,fI (quarCells xs i)),(6,b8 (bJ .O xs)),(7,fI xs.length),(8,fN i)]) (λi=>0<=quarCells xs i/\quarCells xs i<=8*i) ⟨by simp[quarCells],by simp[quarCells]⟩ λi b=>?_
 obtain⟨b,h,j⟩:=b;by_cases d:i<xs.length
 ·have e:=au d
  have k:=UM (nth xs i).Z;have a:=kS xs i
  repeat'(first|refine gE ?_|refine CG (dN _) ?_)
  (refine CQ (i+1) ω ω ?_)
  rw[a];exact wB
 refine σE ?_
 grind
def H3(a:aK):zzA 173 false [.val (some 3) (aK.enc .O a)] .one [B (decide (0<=a.Z/\a.Z<=3/\0<=a.Addr/\0<=a.a9))]:=by
 refine fO 16 [] Tryz.func173 rfl ?_
 repeat'(first|refine gP ?_|refine gS (λb=>?_) (λb=>?_)|refine CG (aU _ 0 3) ?_)
 all_goals exact bE ((by first|(symm;exact C1 ω)|exact decide_eq_decide.2 ω))
variable{xs:List aK}
theorem VA(a:gT xs)(i:Nat):gT (xs.take i):=⟨by have:=a.1;grind,λ_ _=>tV1⟩
def u5(q:aY)(a:aY.sml q):zzA 58 false [.val (some 2) (aY.enc .O q)] .one [B (ir q)]:=by
 have l:q.l.length<=1048576:=a.1;refine fO 57 [(5,29,[17,18,19,20,21,22,23,24,25,26,27,28,29,30,31,32,33,34,35,36,37,38,39,40,41,42,43,44,45]),(7,11,[46,47,48,49,50,51,52,53,54,55,56])] Tryz.func58 rfl ?_
 refine σP ?_
 refine g0 q.l.length (λi=>[(1,bX (aY.enc .O q)),(3,fN i)]) (λi=>dK i (nv q.l)=true) rfl λi e=>?_
 obtain⟨e,g⟩:=e;by_cases b:i<q.l.length
 ·have j:=au b
  have h:=xS ⟨0,q.l.take i⟩ (nth q.l i).Addr (VA a i);cases c:(q.l.take i).any (fY (nth q.l i).Addr)<;>rw[show(aY.mk 0 (q.l.take i)).l.any (fY (nth q.l i).Addr)=_ from c]at h
  all_goals
   repeat'(first|refine gE ?_|refine gS (λd=>?_) (λd=>?_)|refine CG (H3 _) ?_|refine CS ω (aa (iV ω b)) ?_|refine CZ i rfl kd (λr k=>by obtain⟨z,-,rfl⟩:=O8.1 k;rfl) (C8 ..) ?_)
   all_goals first
    | exact bE ((by symm;unfold ir;rw[cM b (by unfold nv;first|(rw[c];simp;done)|(rw[C1 ω];rfl))];rfl))
    | ((conv=>whnf);exact dL (i+1) ⟨ω,co g (by unfold nv;rw[c,O0 ω];rfl)⟩)
 obtain rfl:i=q.l.length:=ω
 repeat'(first|refine gE ?_|refine gS (λd=>?_) (λd=>?_)|refine CG (aU _ 0 500) ?_|refine CG (zu q.l a) ?_)
 all_goals exact bE ((by unfold ir;rw[g];simp only[Bool.true_and];first|(symm;exact C1 ω)|exact decide_eq_decide.2 ω))
theorem Av(b:aK)(a:Int):zzA 438 false [.val (some 3) (aK.enc .O b),.ptr [I a]] .one [B (fY a b)]:=by
 refine fO 8 [] Tryz.func438 rfl ?_
 refine σP ?_
 grind [fY]
def Gs(xs:List aK)(a:Int)(b:xs.length<=9223372036854775807):zzA 362 false [.val none (bJ .O xs),.vI a] .one [B (xs.any (fY a))]:=by
 refine fO 8 [] Tryz.func362 rfl ?_
 repeat'(first|refine gP ?_|refine Cq.mk (sQ (some 3) (aK.enc .O) (fY a) xs) (Av default a).has (λL k rcs c=>?_) ?_|refine CG (wm xs (fY a) b) ?_)
 ·obtain⟨y,-,rfl,rfl,rfl⟩:=c
  exact Av y a
 rfl
def pz(xs:List aK)(a:aK):Bool:=decide (0<=a.Z/\a.Z<=3/\0<=a.Addr/\0<=a.a9/\(xs.length=0\/(nth xs (xs.length - 1)).a9<=a.a9))&&!xs.any (fY a.Addr)
theorem yd(xs:List aK)(b:aK)(g:xs.length<=1048576):zzA 231 false [.val none (bJ .O xs),.val (some 3) (aK.enc .O b)] .one [B (pz xs b)]:=by
 have c:=Gs xs b.Addr ω;cases d:xs.any (fY b.Addr)<;>rw[d]at c
 ·by_cases h:xs.length=0
  ·refine fO 40 [(3,15,[25,26,27,28,29,30,31,32,33,34,35,36,37,38,39])] Tryz.func231 rfl ?_
   repeat'(first|refine gP ?_|refine gS (λa=>?_) (λa=>?_)|refine CG (gL _) ?_)
   all_goals first
    | exact bE ((by unfold pz;rw[d,Bool.not_false,Bool.and_true];first|(symm;exact C1 ω)|(symm;exact O0 ω)|exact decide_eq_decide.2 ω))
    |(exfalso;omega)
    |trace_state
  have e:xs[((xs.length:Int) - 1).toNat]? = some (nth xs (xs.length - 1)):=by rw[show((xs.length:Int) - 1).toNat=xs.length - 1 by omega];grind [au]
  refine fO 40 [(3,15,[25,26,27,28,29,30,31,32,33,34,35,36,37,38,39])] Tryz.func231 rfl ?_
  repeat'(first|refine gP ?_|refine gS (λa=>?_) (λa=>?_)|refine CG (gL _) ?_|refine CS ω (aa e) ?_)
  all_goals first
   | exact bE ((by unfold pz;rw[d,Bool.not_false,Bool.and_true];first|(symm;exact C1 ω)|(symm;exact O0 ω)|exact decide_eq_decide.2 ω))
   |(exfalso;omega)
   |trace_state
 refine fO 40 [(3,15,[25,26,27,28,29,30,31,32,33,34,35,36,37,38,39])] Tryz.func231 rfl ?_
 repeat'(first|refine gP ?_|refine gS (λa=>?_) (λa=>?_)|refine CG (gL _) ?_)
 all_goals exact bE ((by unfold pz;rw[d];simp))
theorem P8(d:i<xs.length):pz (xs.take i) (nth xs i)=nv xs i:=by
 unfold pz nv;have a:(xs.take i).length=i:=ψ
 rw[a]
 congr 1
 refine decide_eq_decide.2 ?_;by_cases b:i=0
 ·subst b;simp
 have c:nth (xs.take i) (i - 1)=nth xs (i - 1):=by
  have:=au (xs:=xs) (i:=i - 1) ω
  grind [bI]
 rw[c]
theorem uy(q:aY)(d:aY.sml q):zzA 92 false [.val (some 2) (aY.enc .O q)] .one [B (ir q)]:=by
 have l:q.l.length<=1048576:=d.1;refine fO 32 [(4,7,[13,14,15,16,17,18,19]),(7,11,[21,22,23,24,25,26,27,28,29,30,31])] Tryz.func92 rfl ?_
 refine σP ?_
 refine g0 q.l.length (λi=>[(1,bX (aY.enc .O q)),(6,b8 (bJ .O q.l)),(7,fI q.l.length),(8,fN i)]) (λi=>dK i (nv q.l)=true) rfl λi e=>?_
 obtain⟨e,g⟩:=e;by_cases a:i<q.l.length
 ·have h:=au a
  have b:=yd (q.l.take i) (nth q.l i) ψ;rw[P8 a]at b;cases c:nv q.l i<;>rw[c]at b
  all_goals
   repeat'(first|refine gE ?_|refine CZ i rfl kd (λr j=>by obtain⟨z,-,rfl⟩:=O8.1 j;rfl) (C8 ..) ?_)
   all_goals first
    | exact bE ((by symm;unfold ir;rw[cM a c];rfl))
    | ((conv=>whnf);exact dL (i+1) ⟨ω,co g c⟩)
 obtain rfl:i=q.l.length:=ω
 repeat'(first|refine gE ?_|refine gS (λk=>?_) (λk=>?_)|refine CG (aQ _ 0 500) ?_|refine CG (ur q.l d) ?_)
 all_goals exact bE ((by unfold ir;rw[g];simp only[Bool.true_and];first|(symm;exact C1 ω)|exact decide_eq_decide.2 ω))
def AA(h:ac):Prop:=aL.sml h.G.F.R
def jQ(h:ac)(p:Int)(a:AA h):zzA 170 false [.val (some 24) (ac.enc .O h),.vI p] .one (aI .own (bh h p)):=by
 refine fO 23 [] Tryz.func170 rfl ?_ (.inr (bO _))
 repeat'((conv=>whnf);first|with_reducible (first|refine Lm ?_|refine Wm ω ?_|refine Bf.E (λb=>?_) (λb=>?_)|refine Bn ?_|refine pU.wk rfl ?_)|refine Bt ?_|refine Bu ?_|refine CG (dO h.G.F.R p a) ?_|refine CG (jq h.G.F.R _ a) ?_)
 all_goals(unfold bh;first|rw[CK (by assumption)]|rw[CJ (by assumption)])
 all_goals exact⟨rfl,tV1⟩
def mM(h:ac)(p:Int)(a:AA h):zzA 226 false [.val (some 24) (ac.enc .O h),.vI p] .one (aI .own (bh h p)):=by
 refine fO 22 [] Tryz.func226 rfl ?_ (.inr (bO _))
 repeat'((conv=>whnf);first|with_reducible (first|refine Lm ?_|refine Wm ω ?_|refine Bf.E (λb=>?_) (λb=>?_)|refine Bn ?_|refine pU.wk rfl ?_)|refine Bt ?_|refine Bu ?_|refine CG (dl h.G.F.R p a) ?_|refine CG (nE h.G.F.R _ a) ?_)
 all_goals(unfold bh;first|rw[CK (by assumption)]|rw[CJ (by assumption)])
 all_goals exact⟨rfl,tV1⟩
theorem gh(k:af)(p:Int)(a:aL.sml k.F.R):zzA 227 false [.val (some 5) (af.enc .O k),.vI p] .one [B (decide ((ax k.F.R p).o≠0))]:=by
 refine fO 12 [] Tryz.func227 rfl ?_
 repeat'(first|refine gP ?_|refine CG (dl k.F.R p a) ?_)
 grind
def uq(z:Int):zzA 96 false [.vI z] .one [B (decide (0<=z/\z<=1073741823))]:=by
 refine fO 5 [] Tryz.func96 rfl ?_
 repeat'(first|refine gP ?_|refine CG (aQ z 0 1073741823) ?_)
 rfl
theorem mg(h:ac)(p:Int)(g:h.J.length<=1048576):zzA 65 false [.val (some 24) (ac.enc .O h),.vI p] .one [I (jf h p)]:=by
 refine fO 22 [] Tryz.func65 rfl ?_
 refine σP ?_
 refine g0 h.J.length (λi=>[(1,fI p),(2,bX (ac.enc .O h)),(5,fN i)]) (λi=>∀(j:Nat)(z:aC),j<i->h.J[j]? = some z->qx p z=false) ψ λi c=>?_
 obtain⟨c,a⟩:=c;by_cases d:i<h.J.length
 ·have b:=au d
  repeat'(first|refine gE ?_|refine gS (λe=>?_) (λe=>?_)|fail)
  all_goals first
   | exact eE (eA b (O0 (by assumption)) a).symm
   | ((conv=>whnf);exact dL (i+1) ⟨ω,gd b (C1 (by assumption)) a⟩)
 refine σE ?_
 exact eE (gr ω a).symm
theorem He(s:aC)(p:Int):zzA 243 false [.val (some 3) (aC.enc .O s),.ptr [I p]] .one [B (qx p s)]:=by
 refine fO 8 [] Tryz.func243 rfl ?_
 refine σP ?_
 grind [qx]
def zF(h:ac)(p:Int)(b:h.J.length<=1048576):zzA 98 false [.val (some 24) (ac.enc .O h),.vI p] .one [I (jf h p)]:=by
 refine fO 9 [] Tryz.func98 rfl ?_
 repeat'(first|refine gP ?_|refine Cq.mk (sQ (some 3) (aC.enc .O) (qx p) h.J) (He default p).has (λL k rcs a=>?_) ?_|refine CG (B3 h.J (qx p) ω) ?_)
 ·obtain⟨y,-,rfl,rfl,rfl⟩:=a
  exact He y p
 rfl
def flight1(m:aJ)(i:Nat):List Int:=(m.T.take i).flatMap λl=>l.map (·.Addr)
def flight2(m:aJ)(i:Nat):List Int:=(m.e.take i).flatten
theorem rZ{l:List aV}(h:m.T[i]? = some l):flight1 m (i+1)=flight1 m i++l.map (·.Addr):=by grind [SA,flight1]
theorem rq(h:m.e[i]? = some l):flight2 m (i+1)=flight2 m i++l:=by grind [SA,flight2]
theorem tN(h:bN m=true):bi m=flight1 m m.T.length++flight2 m m.e.length:=by grind [bi,flight1,flight2]
theorem zC(h:bN m=false):bi m=[]:=by grind [bi]
theorem xg(h:bN m=true):1<=m.T.length/\m.T.length<=4/\m.e.length=m.T.length:=by grind [bN]
def Nk : ∀r∈l.map (rI .O),r.length=1:=by
 intro r a;obtain⟨z,-,rfl⟩:=O8.1 a;rfl
def QN : ∀r∈l.map (rI .O),b6 r=true:=by
 intro r a;obtain⟨z,-,rfl⟩:=O8.1 a;rfl
theorem FJ(m:aJ)(g:aJ.sml m):zzA 180 false [.val (some 2) (aJ.enc .O m)] .one (aI .own (bi m)):=by
 have h:=pA m g;cases d:bN m<;>rw[d]at h
 ·refine fO 56 [] Tryz.func180 rfl ?_ (.inr (bO _))
  repeat'((conv=>whnf);first|with_reducible (first|refine Lm ?_|refine Wm ω ?_|refine Bn ?_|refine pU.wk rfl ?_)|refine Bt ?_|refine Bu ?_|refine CG h ?_)
  all_goals(rw[zC d];exact⟨rfl,tV1⟩)
 obtain⟨C,D,E⟩:=xg d;refine fO 56 [] Tryz.func180 rfl ?_ (.inr (bO _))
 refine σP ?_
 refine pe (ι:=Nat × List Int) (λi=>[(1,bX (aJ.enc .O m)),(3,b8 (aI .own i.2)),(4,fN (i.1))]) (λi=>i.1<=m.T.length/\i.2=flight1 m i.1/\i.2.length<=1048576*i.1) (λi=>m.T.length - i.1) ((0,[])) (⟨I1 _,rfl,I1 _⟩) λi j=>?_
 obtain⟨i,S⟩:=i;obtain⟨j,p,t⟩:=j;simp only at j p t |-;by_cases q:i<m.T.length
 ·have l:=au q
  have u:(nth m.T i).length<=1048576:=(g.1.2 _ (ay q)).1
  refine σE ?_
  refine pe (ι:=Nat × List Int) (λk=>[(1,bX (aJ.enc .O m)),(3,b8 (aI .own k.2)),(4,fN i),(5,fN (k.1))]) (λk=>k.1<=(nth m.T i).length/\k.2=S++((nth m.T i).take k.1).map (·.Addr)) (λk=>(nth m.T i).length - k.1) ((0,S)) ψ λk b=>?_
  obtain⟨k,c⟩:=k;obtain⟨b,a⟩:=b;simp only at b a |-;have w:c.length=S.length+k:=ψ
  by_cases e:k<(nth m.T i).length
  ·have n:=au e
   repeat'(first|refine gE ?_|refine Ce dz (λr y=>by rw[z3.1 y];rfl) (by simp[b6,gj]) kd (by show _*8<=_;simp;omega) rfl ?_)
   ((conv=>whnf)
    refine CQ (k+1,c++[(nth (nth m.T i) k).Addr]) ⟨(by simp only;omega),(by grind [SA])⟩ (by simp only;omega) ?_
    (exact wD))
  obtain rfl:k=(nth m.T i).length:=ω
  rw[S9]at a
  refine σE ?_
  (exact dL (i+1,c) ⟨(by simp only;omega),(by grind [rZ]),(by simp only;omega)⟩)
 obtain rfl:i=m.T.length:=ω
 refine σE ?_
 refine pe (ι:=Nat × List Int) (λk=>[(1,bX (aJ.enc .O m)),(3,b8 (aI .own k.2)),(6,fN (k.1))]) (λk=>k.1<=m.e.length/\k.2=S++flight2 m k.1/\k.2.length<=S.length+1048576*k.1) (λk=>m.e.length - k.1) ((0,S)) (⟨I1 _,by simp[flight2],by simp⟩) λk b=>?_
 obtain⟨k,c⟩:=k;obtain⟨b,a,o⟩:=b;simp only at b a o |-;by_cases e:k<m.e.length
 ·have n:=au e
  have B:(nth m.e k).length<=1048576:=g.2.2 _ (ay e)
  repeat'(first|refine gE ?_|refine Ce dz Nk (λ_=>QN) kd (by show _*8<=_;simp;omega) rfl ?_)
  ((conv=>whnf)
   refine CQ (k+1,c++nth m.e k) ⟨(by simp only;omega),(by grind [rq]),ψ⟩ (by simp only;omega) ?_
   (exact wD))
 obtain rfl:k=m.e.length:=ω
 refine σE ?_
 rw[tN d,<-p,<-a];rfl
theorem G1(m:aJ)(g:aJ.sml m):zzA 239 false [.val (some 2) (aJ.enc .O m)] .one (aI .own (bi m)):=by
 have h:=pH m g;cases d:bN m<;>rw[d]at h
 ·refine fO 46 [] Tryz.func239 rfl ?_ (.inr (bO _))
  repeat'((conv=>whnf);first|with_reducible (first|refine Lm ?_|refine Wm ω ?_|refine Bn ?_|refine pU.wk rfl ?_)|refine Bt ?_|refine Bu ?_|refine CG h ?_)
  all_goals(rw[zC d];exact⟨rfl,tV1⟩)
 obtain⟨C,D,E⟩:=xg d;refine fO 46 [] Tryz.func239 rfl ?_ (.inr (bO _))
 refine σP ?_
 refine pe (ι:=Nat × List Int) (λi=>[(1,bX (aJ.enc .O m)),(3,b8 (aI .own i.2)),(15,b8 (fw .O m.T)),(16,fI m.T.length),(17,fN (i.1))]) (λi=>i.1<=m.T.length/\i.2=flight1 m i.1/\i.2.length<=1048576*i.1) (λi=>m.T.length - i.1) ((0,[])) (⟨I1 _,rfl,I1 _⟩) λi j=>?_
 obtain⟨i,S⟩:=i;obtain⟨j,o,q⟩:=j;simp only at j o q |-;by_cases p:i<m.T.length
 ·have t:=au p
  have u:(nth m.T i).length<=1048576:=(g.1.2 _ (ay p)).1
  refine σE ?_
  refine pe (ι:=Nat × List Int) (λk=>[(1,bX (aJ.enc .O m)),(3,b8 (aI .own k.2)),(15,b8 (fw .O m.T)),(16,fI m.T.length),(17,fN i),(21,b8 (bf .O (nth m.T i))),(22,fI ((nth m.T i).length)),(23,fN (k.1))]) (λk=>k.1<=(nth m.T i).length/\k.2=S++((nth m.T i).take k.1).map (·.Addr)) (λk=>(nth m.T i).length - k.1) ((0,S)) ψ λk b=>?_
  obtain⟨k,c⟩:=k;obtain⟨b,a⟩:=b;simp only at b a |-;have w:c.length=S.length+k:=ψ
  by_cases e:k<(nth m.T i).length
  ·have l:=au e
   repeat'(first|refine gE ?_|refine Ce dz (λr y=>by rw[z3.1 y];rfl) (by simp[b6,gj]) kd (by show _*8<=_;simp;omega) rfl ?_)
   ((conv=>whnf)
    refine CQ (k+1,c++[(nth (nth m.T i) k).Addr]) ⟨(by simp only;omega),(by grind [SA])⟩ (by simp only;omega) ?_
    (exact wD))
  obtain rfl:k=(nth m.T i).length:=ω
  rw[S9]at a
  refine σE ?_
  (exact dL (i+1,c) ⟨(by simp only;omega),(by grind [rZ]),(by simp only;omega)⟩)
 obtain rfl:i=m.T.length:=ω
 refine σE ?_
 refine pe (ι:=Nat × List Int) (λk=>[(3,b8 (aI .own k.2)),(35,b8 (fk .O m.e)),(36,fI m.e.length),(37,fN (k.1))]) (λk=>k.1<=m.e.length/\k.2=S++flight2 m k.1/\k.2.length<=S.length+1048576*k.1) (λk=>m.e.length - k.1) ((0,S)) (⟨I1 _,by simp[flight2],by simp⟩) λk b=>?_
 obtain⟨k,c⟩:=k;obtain⟨b,a,n⟩:=b;simp only at b a n |-;by_cases e:k<m.e.length
 ·have l:=au e
  have B:(nth m.e k).length<=1048576:=g.2.2 _ (ay e)
  repeat'(first|refine gE ?_|refine Ce dz Nk (λ_=>QN) kd (by show _*8<=_;simp;omega) rfl ?_)
  ((conv=>whnf)
   refine CQ (k+1,c++nth m.e k) ⟨(by simp only;omega),(by grind [rq]),ψ⟩ (by simp only;omega) ?_
   (exact wD))
 obtain rfl:k=m.e.length:=ω
 refine σE ?_
 rw[tN d,<-o,<-a];rfl
def tbl(h:ac):aL:=h.G.F.R
def ge(h:ac):Nat:=h.G.F.R.M.length
def B9(xs:List aC)(i:Nat):Bool:=decide (i=0\/(nth xs (i - 1)).S<(nth xs i).S)
def Dv(xs:List aA)(i:Nat):Bool:=decide (i=0\/(nth xs (i - 1)).S<(nth xs i).S)
def DI(h:ac)(l:aA)(k:Nat):Bool:=decide ((bh h (l.S+(k:Nat))).length=1)
def xW(h:ac)(i:Nat):Bool:=Dv h.H i&&dK (nth h.H i).a0.toNat (DI h (nth h.H i))
def AH(h:ac)(p:Nat):Bool:=decide ((nth (tbl h).M p).o≠0↔(p:Int)∈pgs h.J h.H)&&(decide ((nth (tbl h).M p).o≠0) != h.a.any (AJ (p:Nat)))
def pages0(h:ac):Bool:=((dK h.J.length (B9 h.J)&&dK h.H.length (xW h))&&(pgs h.J h.H).all λp=>decide (p<ge h))&&dK (ge h) (AH h)
def qp(h:ac)(i:Nat)(q:Int):Bool:=decide (jf h q=(i:Nat)) || (decide (0<=jf h q)&&meshable (nth h.J i) (nth h.J (jf h q).toNat))
def zB(h:ac):Bool:=dK h.J.length λi=>(bh h (nth h.J i).S).all (qp h i)
def pJ(h:ac)(i j:Nat):Bool:=decide ((ax (tbl h) (nth h.J i).S).g≠(ax (tbl h) (nth h.J j).S).g) || meshable (nth h.J i) (nth h.J j)
def tp(h:ac):Bool:=dK h.J.length λi=>dK i (pJ h i)
def jC(z:Int)(o:aW):Bool:=decide (o.Id=z)
def nw(h:ac)(o:aW):Bool:=
 let w:=denotes h.J h.H o.Addr
 decide (w.c1=0)&&((decide (w.a6=1)&&decide ((nth h.J w.c0.toNat).Z=aZ o.q)) || (decide (w.a6=3)&&decide ((nth h.H w.c0.toNat).q=o.q)))
def jS(a:Int)(h:ac)(i:Nat):Bool:=decide ((i=0\/(nth h.K (i - 1)).Addr<(nth h.K i).Addr)/\1<=(nth h.K i).Id/\(nth h.K i).Id<=a/\0<=(nth h.K i).p/\(nth h.K i).p<=h.Q.length - 1)
def objAt(a:Int)(h:ac)(i:Nat):Bool:=(jS a h i&&!(h.K.take i).any (jC (nth h.K i).Id))&&nw h (nth h.K i)
def iS(h:ac):Bool:=dK h.K.length (objAt (IntKind.i64.wrap (h.j - 1)) h)
def ep(h:ac)(a c:Int):Bool:=
 let w:=denotes h.J h.H a
 (decide (w.a6=1)&&decide (w.c1=0))&&(decide (c<0) || decide ((nth h.J w.c0.toNat).Z=c))
def yf(h:ac)(c:aB)(k:Nat):Bool:=(nth c.X k).all λa=>ep h a (k:Nat)
def gz(h:ac)(c:aB):Bool:=dK c.X.length (yf h c)
def jG(h:ac)(x:aK):Bool:=ep h x.Addr x.Z
def nI(h:ac)(a:Int):Bool:=ep h a (-1)
def dB(h:ac):List Int:=h.Q.flatMap λc=>c.X.flatten
def lO(h:ac):Bool:=((h.Q.all (gz h))&&h.r.l.all (jG h))&&(bi h.b).all (nI h)
def holders(h:ac):List Int:=((h.K.map (·.Addr)++dB h)++h.r.l.map (·.Addr))++bi h.b
def mW(sp:List aC)(la:List aA)(a:Nat):Bool:=
 let w:=denotes sp la (a:Nat)
 decide (w.c1=0)&&(decide (w.a6=1) || decide (w.a6=3))
def pG(sp:List aC)(la:List aA)(n:Nat):List Int:=((List.range n).filter (mW sp la)).map λ(i:Nat)=>(i:Int)
def np(sp:List aC)(la:List aA):List Int:=pG sp la 512
def mf(h:ac):Bool:=(lO h&&decide (holders h).Nodup)&&decide ((holders h).length=(np h.J h.H).length)
def pu(h:ac):Bool:=h.r.l.all λx=>decide (x.a9<=h.a4)
def cU(h:ac):Bool:=decide (0<=h.b3/\h.b3<=1073741823/\0<=h.a4/\h.a4<=1000000/\0<=h.b7/\h.b7<=1000/\1<=h.j/\h.j<=1000000)
def xe(h:ac):Bool:=if h.w then(md h.a2&&decide (0<=jf h h.a2.d.a5))&&decide (0<=jf h h.a2.d.a7) else Ar h.a2
def pc(h:ac):Bool:=((aN h.G&&bR (ge h) h.a)&&bK h.J h.H)&&pages0 h
set_option maxHeartbeats 8000000
theorem gq(h:bK sp la=true):sp.all bu=true/\la.all cv=true/\(pgs sp la).Nodup:=by grind [bK]
def Y4[Inhabited α]{xs:List α}{p:α->Bool}(h:xs.all p=true)(a:i<xs.length):p (nth xs i)=true:=O7.1 h _ (ay a)
variable{h:ac}
theorem M4(h1:dK h.J.length (B9 h.J)=false):pages0 h=false:=by grind [pages0]
theorem xw(h1:dK h.H.length (xW h)=false):pages0 h=false:=by grind [pages0]
theorem MG{p:Int}(h1:p∈pgs h.J h.H)(h2:¬p<ge h):pages0 h=false:=by grind [pages0]
theorem LB(h1:dK (ge h) (AH h)=false):pages0 h=false:=by grind [pages0]
theorem BG(h1:dK h.J.length (B9 h.J)=true)(h2:dK h.H.length (xW h)=true)(a:∀p∈pgs h.J h.H,p<ge h)(b:dK (ge h) (AH h)=true):pages0 h=true:=by grind [pages0]
theorem Ws(h1:Dv h.H i=false):xW h i=false:=by grind [xW]
theorem We(a:k<(nth h.H i).a0.toNat)(h1:DI h (nth h.H i) k=false):xW h i=false:=by grind [cM,xW]
theorem KF(h1:Dv h.H i=true)(h2:dK (nth h.H i).a0.toNat (DI h (nth h.H i))=true):xW h i=true:=by grind [xW]
def gR(h:ac)(p:Int):(bh h p).length<=ge h:=by
 unfold bh;split
 ·simp
 exact wx ..
theorem zj(h:bK sp la=true){l:aA}(a:la[i]? = some l):1<=l.a0/\l.a0<=63/\0<=l.S/\l.S<=31:=
 bj (O7.1 (gq h).2.1 l ψ)
theorem M0(h:ac)(y:cP h.J)(C:cV h.H)(g:AA h)(D:eJ h.a)(l:bK h.J h.H=true):zzA 55 false [.val (some 24) (ac.enc .O h)] .one [B (pages0 h)]:=by
 have V:=y.1;have W:=C.1;have X:ge h<=1048576:=g.1;have Y:=D.1;refine fO 144 [(7,18,[28,29,30,31,32,33,34,35,36,37,38,39,40,41,42,43,44,45]),(13,18,[62,63,64,65,66,67,68,69,70,71,72,73,74,75,76,77,78,79])] Tryz.func55 rfl ?_
 refine σP ?_
 refine pe (ι:=Nat × List Int) (λi=>[(1,bX (ac.enc .O h)),(3,bX (aL.enc .O (tbl h))),(4,fI (ge h)),(5,b8 (aI .own i.2)),(6,fN (i.1))]) (λi=>i.1<=h.J.length/\i.2=(h.J.take i.1).map (·.S)/\dK i.1 (B9 h.J)=true) (λi=>h.J.length - i.1) ((0,[])) (⟨I1 _,rfl,rfl⟩) λi E=>?_
 obtain⟨i,S⟩:=i;obtain⟨E,F,G⟩:=E;simp only at E F G |-;have Z:S.length=i:=ψ
 by_cases H:i<h.J.length
 ·have b:=au H
  repeat'(first|refine gE ?_|refine gS (λa=>?_) (λa=>?_)|refine CS ω (aa (iV ω H)) ?_|refine Ce dz (λr n=>by rw[z3.1 n];rfl) (by simp[b6,gj]) kd (by simp only[I2];exact wT kd qs) rfl ?_)
  all_goals first
   | exact bE ((M4 (cM H (C1 ω))).symm)
   | ((conv=>whnf)
      refine CQ (i+1,S++[(nth h.J i).S]) ⟨(by simp only;omega),(by simp only;rw[F,SA,b];simp),co G (O0 ω)⟩ (by simp only;omega) ?_
      (exact wD))
 obtain rfl:i=h.J.length:=ω
 rw[S9]at F
 refine σE ?_
 refine pe (ι:=Nat × List Int) (λk=>[(1,bX (ac.enc .O h)),(3,bX (aL.enc .O (tbl h))),(4,fI (ge h)),(5,b8 (aI .own k.2)),(7,fN (k.1))]) (λk=>k.1<=h.H.length/\k.2=pgs h.J (h.H.take k.1)/\dK k.1 (xW h)=true/\k.2.length<=1048576+64*k.1) (λk=>h.H.length - k.1) ((0,S)) (⟨I1 _,by grind [pgs],rfl,by simp only;omega⟩) λk J=>?_
 obtain⟨k,S2⟩:=k;obtain⟨J,c,K,L⟩:=J;simp only at J c K L |-;by_cases u:k<h.H.length
 ·have b:=au u
  have hpg:=zj l b
  repeat'(first|refine gE ?_|refine gS (λa=>?_) (λa=>?_)|refine CS ω (aa (iV ω u)) ?_)
  all_goals first
   | exact bE ((xw (cM u (Ws (C1 ω)))).symm)
   |have e:Dv h.H k=true:=O0 ω
    (conv=>whnf)
    refine pe (ι:=Nat × List Int) (λq=>[(1,bX (ac.enc .O h)),(3,bX (aL.enc .O (tbl h))),(4,fI (ge h)),(5,b8 (aI .own q.2)),(7,fN k),(8,fN (q.1))]) (λq=>q.1<=(nth h.H k).a0.toNat/\q.2=S2++lpgs (nth h.H k) q.1/\dK q.1 (DI h (nth h.H k))=true) (λq=>(nth h.H k).a0.toNat - q.1) ((0,S2)) (⟨I1 _,by simp[lpgs],rfl⟩) λq a=>?_
    obtain⟨q,M⟩:=q;obtain⟨N,d,o⟩:=a;simp only at N d o |-;have Q:M.length=S2.length+q:=by rw[d,I5,LO]
    by_cases w:q<(nth h.H k).a0.toNat
    ·have hfl:=gR h ((nth h.H k).S+(q:Nat))
     repeat'(first|refine gE ?_|refine gS (λa=>?_) (λa=>?_)|refine CG (jQ h _ g) ?_|refine Ce dz (λr n=>by rw[z3.1 n];rfl) (by simp[b6,gj]) kd (by show _*8<=_;simp;omega) rfl ?_)
     all_goals first
      | exact bE ((xw (cM u (We w (C1 ω)))).symm)
      | ((conv=>whnf)
         refine CQ (q+1,M++[(nth h.H k).S+(q:Nat)]) ⟨(by simp only;omega),(by simp only;rw[d,nR,CB]),co o (O0 ω)⟩ (by simp only;omega) ?_
         (exact wD))
    obtain rfl:q=(nth h.H k).a0.toNat:=ω
    refine σE ?_
    (exact dL (k+1,M) ⟨(by simp only;omega),(by simp only;rw[d,c,<-tt _ b]),co K (KF e o),(by simp only;omega)⟩)
 obtain rfl:k=h.H.length:=ω
 rw[S9]at c
 refine σE ?_
 refine g0 S2.length (λq=>[(1,bX (ac.enc .O h)),(3,bX (aL.enc .O (tbl h))),(4,fI (ge h)),(5,b8 (aI .own S2)),(10,fN q)]) (λq=>∀j,j<q->nth S2 j<ge h) ψ λq a=>?_
 obtain⟨a,o⟩:=a;by_cases w:q<S2.length
 ·have b:=au w
  repeat'(first|refine gE ?_|refine gS (λa=>?_) (λa=>?_)|fail)
  all_goals first
   | exact bE ((MG (by rw[<-c];exact ay w) ω).symm)
   | ((conv=>whnf);exact dL (q+1) ⟨ω,λj hj=>by rcases Nat.lt_or_ge j q with R|R;exact o j R;(obtain rfl:j=q:=ω);omega⟩)
 have t:∀p∈pgs h.J h.H,p<ge h:=λp O=>by grind [List.mem_iff_getElem?,bI]
 refine σE ?_
 refine g0 (ge h) (λp=>[(1,bX (ac.enc .O h)),(3,bX (aL.enc .O (tbl h))),(4,fI (ge h)),(5,b8 (aI .own S2)),(11,fN p)]) (λp=>dK p (AH h)=true) rfl λp O=>?_
 obtain⟨O,T⟩:=O;by_cases U:p<ge h
 ·have b:=au (xs:=(tbl h).M) U
  have n:=Ff h.a (p:Nat) ω
  repeat'(first|refine gE ?_|refine gS (λa=>?_) (λa=>?_)|refine CN (qX S2 _ ω) ⟨⟨rfl,eI _⟩,⟨rfl,rfl⟩,tV1⟩ ?_|refine Bf.P (λa=>?_) (λa=>?_))
  all_goals first
   | exact bE ((LB (cM U (by unfold AH;rw[<-c];grind))).symm)
   | ((conv=>whnf);exact dL (p+1) ⟨ω,co T (by unfold AH;rw[<-c];grind)⟩)
 refine σE ?_
 obtain rfl:p=ge h:=ω
 exact bE ((BG G K t T).symm)
end Go.Proofs.YtcblmfpcekokjaaGreat.Ab
