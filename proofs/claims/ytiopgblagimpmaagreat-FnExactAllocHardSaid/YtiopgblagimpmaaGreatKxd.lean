/- The data of the program, its cells, its bulk and its marks. Printed by gen_data.py. No condition. -/
import Derived.Test.YtiopgblagimpmaaGreatKxc
set_option linter.unusedVariables false
set_option linter.defProp false
set_option linter.unusedSimpArgs false
set_option linter.constructorNameAsVariable false
namespace Go.Proofs.YtiopgblagimpmaaGreat.Ab
open Go.RowKit
def aH(o:dY)(x:List Int):List C:=[.s o (x.map (rI o))]
def dK(x:List Int):fo (aH .own x)=aH .O x:=by simp[fo,aH,rI,fo]
theorem bM(x:List Int):gk (aH .own x):=⟨⟨.inl ψ,bu _ _ λy _=>zt y⟩,trivial⟩
def fE(x:List Int):Prop:=x.length<=9223372036854775807/\∀y∈x,oh y
def er(x:List Int):Nat:=x.length
def szIntS(x:List Int):Nat:=x.length
def lw(x:List Int):Prop:=x.length<=1048576
def markIntS:List Int->Int->List Int
 | [],_=>[]
 | _::xs,k=>k::markIntS xs (k+1)
def oI:∀(x:List Int)(k:Int),(markIntS x k).length=x.length
 | [],_=>rfl
 | _::xs,k=>by simp[markIntS,oI xs]
def oM:∀(x:List Int)(k:Int)(i:Nat),i<x.length->(markIntS x k)[i]? = some (k+(i:Nat))
 | [],_,i,h=>by simp at h
 | _::xs,k,0,_=>by simp[markIntS]
 | _::xs,k,i+1,h=>by
  simp only[markIntS,List.getElem?_cons_succ];rw[oM xs (k+1) i (by simpa using h)];rw[show k+1+(i:Int)=k+((i+1:Nat):Int) by omega]
def jZ(_:List Int)(i:Nat):Nat:=i
def tc{x:List Int}(h:szIntS x<=1048576):lw x:=h
theorem sZ(x:List Int):er x<=8*szIntS x:=by grind [er,szIntS]
def dX(o:dY)(x:List (List Int)):List C:=[.s o (x.map (aH o))]
def V7(x:List (List Int)):fo (dX .own x)=dX .O x:=by simp[fo,dX,dK,<-dh,C8]
theorem N9(x:List (List Int)):gk (dX .own x):=⟨⟨.inl ψ,bu _ _ λy _=>bM y⟩,trivial⟩
def uJ(x:List (List Int)):Prop:=x.length<=9223372036854775807/\∀y∈x,fE y
def de:List (List Int)->Nat
 | []=>0
 | x::xs=>er x+de xs
def iG:List (List Int)->Nat
 | []=>0
 | x::xs=>szIntS x+iG xs
def szIntSS(x:List (List Int)):Nat:=x.length+iG x
def j7(x:List (List Int)):Prop:=x.length<=1048576/\∀y∈x,lw y
def markIntSS:List (List Int)->Int->List (List Int)
 | [],_=>[]
 | x::xs,k=>markIntS x k::markIntSS xs (k+(er x:Nat))
def iB:∀(x:List (List Int))(k:Int),(markIntSS x k).length=x.length
 | [],_=>rfl
 | _::xs,k=>by simp[markIntSS,iB xs]
def dI:List (List Int)->Nat->Nat
 | [],_=>0
 | _::_,0=>0
 | x::xs,i+1=>er x+dI xs i
def iL:∀(x:List (List Int))(k:Int)(i:Nat)(y:List Int),x[i]? = some y->(markIntSS x k)[i]? = some (markIntS y (k+(dI x i:Nat)))
 | [],_,i,y,h=>by simp at h
 | x::xs,k,0,y,h=>by simp at h;subst h;simp[markIntSS,dI]
 | x::xs,k,i+1,y,h=>by
  simp only[markIntSS,List.getElem?_cons_succ];rw[iL xs _ i y (by simpa using h)]
  congr 2
  simp only[dI];omega
def kb(x:List (List Int)):dI x 0=0:=by cases x<;>rfl
def jW:∀(x:List (List Int))(i:Nat)(y:List Int),x[i]? = some y->dI x (i+1)=dI x i+er y
 | [],i,y,h=>by simp at h
 | x::xs,0,y,h=>by simp at h;subst h;simp[dI,kb]
 | x::xs,i+1,y,h=>by
  simp only[dI];rw[jW xs i y (by simpa using h)];omega
def lz:∀(x:List (List Int)),dI x x.length=de x
 | []=>rfl
 | x::xs=>by simp only[List.length_cons,dI,de,lz xs]
def uz:∀{x:List (List Int)}{y:List Int},y∈x->szIntS y<=iG x
 | [],y,h=>by simp at h
 | x::xs,y,h=>by
  simp only[iG];rcases List.mem_cons.1 h with rfl|h
  ·omega
  have:=uz h;omega
theorem q9{x:List (List Int)}(h:szIntSS x<=1048576):j7 x:=⟨by grind [szIntSS],λy a=>tc (by have:=uz a;grind [szIntSS])⟩
theorem vd:∀(x:List (List Int)),de x<=8*iG x
 | []=>by simp[de]
 | x::xs=>by have:=vd xs;grind [sZ,de,iG]
theorem rd(x:List (List Int)):de x<=8*szIntSS x:=by grind [vd,szIntSS]
def eH:List (List Int)->Nat->Nat
 | [],_=>0
 | _::_,0=>0
 | x::xs,i+1=>szIntS x+eH xs i
def mf(x:List (List Int)):eH x 0=0:=by cases x<;>rfl
def qZ:∀(x:List (List Int))(i:Nat)(y:List Int),x[i]? = some y->eH x (i+1)=eH x i+szIntS y
 | [],i,y,h=>by simp at h
 | x::xs,0,y,h=>by simp at h;subst h;simp[eH,mf]
 | x::xs,i+1,y,h=>by
  simp only[eH];rw[qZ xs i y (by simpa using h)];omega
def sf:∀(x:List (List Int)),eH x x.length=iG x
 | []=>rfl
 | x::xs=>by simp only[List.length_cons,eH,iG,sf xs]
def pi:∀(x:List (List Int))(i:Nat),eH x i<=iG x
 | [],_=>by simp[eH]
 | x::xs,0=>by simp[eH]
 | x::xs,i+1=>by simp only[eH,iG];have:=pi xs i;omega
def nk:∀(x:List (List Int))(i:Nat),dI x i<=de x
 | [],_=>by simp[dI]
 | x::xs,0=>by simp[dI]
 | x::xs,i+1=>by simp only[dI,de];have:=nk xs i;omega
def fX(o:dY)(x:List Bool):List C:=[.s o (x.map (rB o))]
theorem N6(x:List Bool):gk (fX .own x):=⟨⟨.inl ψ,bu _ _ λy _=>Ho y⟩,trivial⟩
def EK(x:List Bool):Prop:=x.length<=9223372036854775807/\∀y∈x,WE y
def gt(x:List Bool):Nat:=x.length
def szBoolS(x:List Bool):Nat:=x.length
def ow(x:List Bool):Prop:=x.length<=1048576
def markBoolS:List Bool->Int->List Bool
 | [],_=>[]
 | _::xs,k=>decide (k.tmod 3=0)::markBoolS xs (k+1)
def nJ:∀(x:List Bool)(k:Int),(markBoolS x k).length=x.length
 | [],_=>rfl
 | _::xs,k=>by simp[markBoolS,nJ xs]
def nv:∀(x:List Bool)(k:Int)(i:Nat),i<x.length->(markBoolS x k)[i]? = some (decide ((k+(i:Nat)).tmod 3=0))
 | [],_,i,h=>by simp at h
 | _::xs,k,0,_=>by simp[markBoolS]
 | _::xs,k,i+1,h=>by
  simp only[markBoolS,List.getElem?_cons_succ];rw[nv xs (k+1) i (by simpa using h)];rw[show k+1+(i:Int)=k+((i+1:Nat):Int) by omega]
def i9(_:List Bool)(i:Nat):Nat:=i
def Jb{x:List Bool}(h:szBoolS x<=1048576):ow x:=h
theorem HV(x:List Bool):gt x<=8*szBoolS x:=by grind [gt,szBoolS]
structure aF where
 W:List (List Int)
 c:List Bool
deriving DecidableEq,Inhabited
def aF.enc(o:dY)(x:aF):List C:=[.s o (x.W.map (aH o)),.s o (x.c.map (rB o))]
def aF.enc_fz(x:aF):fo (aF.enc .own x)=aF.enc .O x:=by simp[fo,aF.enc,rB,dK,<-dh,C8]
theorem aF.enc_fr(x:aF):gk (aF.enc .own x):=⟨⟨.inl ψ,bu _ _ λy _=>bM y⟩,⟨.inl ψ,bu _ _ λy _=>Ho y⟩,trivial⟩
def aF.wf(x:aF):Prop:=uJ x.W/\EK x.c
def aF.cnt(x:aF):Nat:=de x.W+gt x.c
def aF.sz(x:aF):Nat:=szIntSS x.W+szBoolS x.c
def aF.sml(x:aF):Prop:=j7 x.W/\ow x.c
theorem aF.sml_of{x:aF}(h:aF.sz x<=1048576):aF.sml x:=⟨q9 (by grind [aF.sz]),Jb (by grind [aF.sz])⟩
theorem aF.cnt_le(x:aF):aF.cnt x<=8*aF.sz x:=by grind [rd,HV,aF.cnt,aF.sz]
def aF.mark(x:aF)(k:Int):aF:={x with W:=markIntSS x.W (k),c:=markBoolS x.c (k+(de x.W:Nat))}
structure aN where
 l:Int
 d:Int
deriving DecidableEq,Inhabited
def aN.enc(o:dY)(x:aN):List C:=[I x.l,I x.d]
def aN.enc_fz(x:aN):fo (aN.enc .own x)=aN.enc .O x:=by simp[fo,aN.enc]
def aN.enc_fr(x:aN):gk (aN.enc .own x):=⟨trivial,trivial,trivial⟩
def aN.wf(x:aN):Prop:=oh x.l/\oh x.d
def aN.cnt(_:aN):Nat:=2
def aN.sml(_:aN):Prop:=True
def aN.mark(_:aN)(k:Int):aN:=⟨k,k+1⟩
def eO(o:dY)(x:List aN):List C:=[.s o (x.map (aN.enc o))]
theorem J7(x:List aN):gk (eO .own x):=⟨⟨.inl ψ,bu _ _ λy _=>aN.enc_fr y⟩,trivial⟩
def vR(x:List aN):Prop:=x.length<=9223372036854775807/\∀y∈x,aN.wf y
def dl:List aN->Nat
 | []=>0
 | x::xs=>aN.cnt x+dl xs
def lL(x:List aN):Nat:=x.length
def jG(x:List aN):Prop:=x.length<=1048576/\∀y∈x,aN.sml y
def dS:List aN->Int->List aN
 | [],_=>[]
 | x::xs,k=>aN.mark x k::dS xs (k+(aN.cnt x:Nat))
def kN:∀(x:List aN)(k:Int),(dS x k).length=x.length
 | [],_=>rfl
 | _::xs,k=>by simp[dS,kN xs]
def cH:List aN->Nat->Nat
 | [],_=>0
 | _::_,0=>0
 | x::xs,i+1=>aN.cnt x+cH xs i
def kY:∀(x:List aN)(k:Int)(i:Nat)(y:aN),x[i]? = some y->(dS x k)[i]? = some (aN.mark y (k+(cH x i:Nat)))
 | [],_,i,y,h=>by simp at h
 | x::xs,k,0,y,h=>by simp at h;subst h;simp[dS,cH]
 | x::xs,k,i+1,y,h=>by
  simp only[dS,List.getElem?_cons_succ];rw[kY xs _ i y (by simpa using h)]
  congr 2
  simp only[cH];omega
def kE(x:List aN):cH x 0=0:=by cases x<;>rfl
def k8:∀(x:List aN)(i:Nat)(y:aN),x[i]? = some y->cH x (i+1)=cH x i+aN.cnt y
 | [],i,y,h=>by simp at h
 | x::xs,0,y,h=>by simp at h;subst h;simp[cH,kE]
 | x::xs,i+1,y,h=>by
  simp only[cH];rw[k8 xs i y (by simpa using h)];omega
def lZ:∀(x:List aN),cH x x.length=dl x
 | []=>rfl
 | x::xs=>by simp only[List.length_cons,cH,dl,lZ xs]
def BS{x:List aN}(h:lL x<=1048576):jG x:=⟨h,λ_ _=>trivial⟩
theorem sI:∀(x:List aN),dl x<=8*lL x
 | []=>by simp[dl]
 | x::xs=>by have:=sI xs;grind [dl,lL,aN.cnt]
def nE:∀(x:List aN)(i:Nat),cH x i<=dl x
 | [],_=>by simp[cH]
 | x::xs,0=>by simp[cH]
 | x::xs,i+1=>by simp only[cH,dl];have:=nE xs i;omega
structure aG where
 J:List aN
deriving DecidableEq,Inhabited
def aG.enc(o:dY)(x:aG):List C:=[.s o (x.J.map (aN.enc o))]
def aG.enc_fz(x:aG):fo (aG.enc .own x)=aG.enc .O x:=by simp[fo,aG.enc,aN.enc_fz,<-dh,C8]
theorem aG.enc_fr(x:aG):gk (aG.enc .own x):=⟨⟨.inl ψ,bu _ _ λy _=>aN.enc_fr y⟩,trivial⟩
def aG.wf(x:aG):Prop:=vR x.J
def aG.cnt(x:aG):Nat:=dl x.J
def aG.sz(x:aG):Nat:=lL x.J
def aG.sml(x:aG):Prop:=jG x.J
theorem aG.sml_of{x:aG}(h:aG.sz x<=1048576):aG.sml x:=BS (by grind [aG.sz])
theorem aG.cnt_le(x:aG):aG.cnt x<=8*aG.sz x:=by grind [sI,aG.cnt,aG.sz]
def aG.mark(x:aG)(k:Int):aG:={x with J:=dS x.J (k)}
structure aD where
 U:aF
 Q:aG
deriving DecidableEq,Inhabited
def aD.enc(o:dY)(x:aD):List C:=[.s o (x.U.W.map (aH o)),.s o (x.U.c.map (rB o)),.s o (x.Q.J.map (aN.enc o))]
def aD.enc_fz(x:aD):fo (aD.enc .own x)=aD.enc .O x:=by simp[fo,aD.enc,aN.enc_fz,rB,dK,<-dh,C8]
theorem aD.enc_fr(x:aD):gk (aD.enc .own x):=⟨⟨.inl ψ,bu _ _ λy _=>bM y⟩,⟨.inl ψ,bu _ _ λy _=>Ho y⟩,⟨.inl ψ,bu _ _ λy _=>aN.enc_fr y⟩,trivial⟩
def aD.wf(x:aD):Prop:=aF.wf x.U/\aG.wf x.Q
def aD.cnt(x:aD):Nat:=aF.cnt x.U+aG.cnt x.Q
def aD.sz(x:aD):Nat:=aF.sz x.U+aG.sz x.Q
def aD.sml(x:aD):Prop:=aF.sml x.U/\aG.sml x.Q
theorem aD.sml_of{x:aD}(h:aD.sz x<=1048576):aD.sml x:=⟨aF.sml_of (by grind [aD.sz]),aG.sml_of (by grind [aD.sz])⟩
theorem aD.cnt_le(x:aD):aD.cnt x<=8*aD.sz x:=by grind [aF.cnt_le,aG.cnt_le,aD.cnt,aD.sz]
def aD.mark(x:aD)(k:Int):aD:={x with U:=aF.mark x.U (k),Q:=aG.mark x.Q (k+(aF.cnt x.U:Nat))}
structure af where
 G:aD
 Calls:Int
 b:List Int
deriving DecidableEq,Inhabited
def af.enc(o:dY)(x:af):List C:=[.s o (x.G.U.W.map (aH o)),.s o (x.G.U.c.map (rB o)),.s o (x.G.Q.J.map (aN.enc o)),I x.Calls,.s o (x.b.map (rI o))]
def af.enc_fz(x:af):fo (af.enc .own x)=af.enc .O x:=by simp[fo,af.enc,aN.enc_fz,rB,rI,dK,<-dh,C8]
def CW:type_of% @af.enc_fz:=@af.enc_fz
theorem af.enc_fr(x:af):gk (af.enc .own x):=⟨⟨.inl ψ,bu _ _ λy _=>bM y⟩,⟨.inl ψ,bu _ _ λy _=>Ho y⟩,⟨.inl ψ,bu _ _ λy _=>aN.enc_fr y⟩,trivial,⟨.inl ψ,bu _ _ λy _=>zt y⟩,trivial⟩
def CY:type_of% @af.enc_fr:=@af.enc_fr
def af.wf(x:af):Prop:=aD.wf x.G/\oh x.Calls/\fE x.b
def af.cnt(x:af):Nat:=aD.cnt x.G+er x.b
def af.sz(x:af):Nat:=aD.sz x.G+szIntS x.b
def af.sml(x:af):Prop:=aD.sml x.G/\lw x.b
theorem af.sml_of{x:af}(h:af.sz x<=1048576):af.sml x:=⟨aD.sml_of (by grind [af.sz]),tc (by grind [af.sz])⟩
theorem af.cnt_le(x:af):af.cnt x<=8*af.sz x:=by grind [aD.cnt_le,sZ,af.cnt,af.sz]
def af.mark(x:af)(k:Int):af:={x with G:=aD.mark x.G (k),b:=markIntS x.b (k+(aD.cnt x.G:Nat))}
structure ay where
 At:Int
 o:Int
deriving DecidableEq,Inhabited
def ay.enc(o:dY)(x:ay):List C:=[I x.At,I x.o]
def ay.enc_fz(x:ay):fo (ay.enc .own x)=ay.enc .O x:=by simp[fo,ay.enc]
def ay.enc_fr(x:ay):gk (ay.enc .own x):=⟨trivial,trivial,trivial⟩
def ay.wf(x:ay):Prop:=oh x.At/\oh x.o
def ay.cnt(_:ay):Nat:=2
def ay.sml(_:ay):Prop:=True
def ay.mark(_:ay)(k:Int):ay:=⟨k,k+1⟩
def aU(o:dY)(x:List ay):List C:=[.s o (x.map (ay.enc o))]
def eY(x:List ay):fo (aU .own x)=aU .O x:=by simp[fo,aU,ay.enc_fz,<-dh,C8]
theorem hC(x:List ay):gk (aU .own x):=⟨⟨.inl ψ,bu _ _ λy _=>ay.enc_fr y⟩,trivial⟩
def vT(x:List ay):Prop:=x.length<=9223372036854775807/\∀y∈x,ay.wf y
def bL:List ay->Nat
 | []=>0
 | x::xs=>ay.cnt x+bL xs
def lP(x:List ay):Nat:=x.length
def dD(x:List ay):Prop:=x.length<=1048576/\∀y∈x,ay.sml y
def dR:List ay->Int->List ay
 | [],_=>[]
 | x::xs,k=>ay.mark x k::dR xs (k+(ay.cnt x:Nat))
def kI:∀(x:List ay)(k:Int),(dR x k).length=x.length
 | [],_=>rfl
 | _::xs,k=>by simp[dR,kI xs]
def cL:List ay->Nat->Nat
 | [],_=>0
 | _::_,0=>0
 | x::xs,i+1=>ay.cnt x+cL xs i
def kJ:∀(x:List ay)(k:Int)(i:Nat)(y:ay),x[i]? = some y->(dR x k)[i]? = some (ay.mark y (k+(cL x i:Nat)))
 | [],_,i,y,h=>by simp at h
 | x::xs,k,0,y,h=>by simp at h;subst h;simp[dR,cL]
 | x::xs,k,i+1,y,h=>by
  simp only[dR,List.getElem?_cons_succ];rw[kJ xs _ i y (by simpa using h)]
  congr 2
  simp only[cL];omega
def lc(x:List ay):cL x 0=0:=by cases x<;>rfl
def k6:∀(x:List ay)(i:Nat)(y:ay),x[i]? = some y->cL x (i+1)=cL x i+ay.cnt y
 | [],i,y,h=>by simp at h
 | x::xs,0,y,h=>by simp at h;subst h;simp[cL,lc]
 | x::xs,i+1,y,h=>by
  simp only[cL];rw[k6 xs i y (by simpa using h)];omega
def m8:∀(x:List ay),cL x x.length=bL x
 | []=>rfl
 | x::xs=>by simp only[List.length_cons,cL,bL,m8 xs]
def B9{x:List ay}(h:lP x<=1048576):dD x:=⟨h,λ_ _=>trivial⟩
theorem se:∀(x:List ay),bL x<=8*lP x
 | []=>by simp[bL]
 | x::xs=>by have:=se xs;grind [bL,lP,ay.cnt]
def nG:∀(x:List ay)(i:Nat),cL x i<=bL x
 | [],_=>by simp[cL]
 | x::xs,0=>by simp[cL]
 | x::xs,i+1=>by simp only[cL,bL];have:=nG xs i;omega
structure au where
 R:Int
 Z:Int
 r:Int
deriving DecidableEq,Inhabited
def au.enc(o:dY)(x:au):List C:=[I x.R,I x.Z,I x.r]
def au.enc_fz(x:au):fo (au.enc .own x)=au.enc .O x:=by simp[fo,au.enc]
def au.enc_fr(x:au):gk (au.enc .own x):=⟨trivial,trivial,trivial,trivial⟩
def au.wf(x:au):Prop:=oh x.R/\oh x.Z/\oh x.r
def au.cnt(_:au):Nat:=3
def au.sml(_:au):Prop:=True
def au.mark(_:au)(k:Int):au:=⟨k,k+1,k+1+1⟩
def bt(o:dY)(x:List au):List C:=[.s o (x.map (au.enc o))]
def gl(x:List au):fo (bt .own x)=bt .O x:=by simp[fo,bt,au.enc_fz,<-dh,C8]
theorem tg(x:List au):gk (bt .own x):=⟨⟨.inl ψ,bu _ _ λy _=>au.enc_fr y⟩,trivial⟩
def yW(x:List au):Prop:=x.length<=9223372036854775807/\∀y∈x,au.wf y
def cz:List au->Nat
 | []=>0
 | x::xs=>au.cnt x+cz xs
def oq(x:List au):Nat:=x.length
def cx(x:List au):Prop:=x.length<=1048576/\∀y∈x,au.sml y
def eJ:List au->Int->List au
 | [],_=>[]
 | x::xs,k=>au.mark x k::eJ xs (k+(au.cnt x:Nat))
def mg:∀(x:List au)(k:Int),(eJ x k).length=x.length
 | [],_=>rfl
 | _::xs,k=>by simp[eJ,mg xs]
def dx:List au->Nat->Nat
 | [],_=>0
 | _::_,0=>0
 | x::xs,i+1=>au.cnt x+dx xs i
def lW:∀(x:List au)(k:Int)(i:Nat)(y:au),x[i]? = some y->(eJ x k)[i]? = some (au.mark y (k+(dx x i:Nat)))
 | [],_,i,y,h=>by simp at h
 | x::xs,k,0,y,h=>by simp at h;subst h;simp[eJ,dx]
 | x::xs,k,i+1,y,h=>by
  simp only[eJ,List.getElem?_cons_succ];rw[lW xs _ i y (by simpa using h)]
  congr 2
  simp only[dx];omega
def mu(x:List au):dx x 0=0:=by cases x<;>rfl
def mq:∀(x:List au)(i:Nat)(y:au),x[i]? = some y->dx x (i+1)=dx x i+au.cnt y
 | [],i,y,h=>by simp at h
 | x::xs,0,y,h=>by simp at h;subst h;simp[dx,mu]
 | x::xs,i+1,y,h=>by
  simp only[dx];rw[mq xs i y (by simpa using h)];omega
def nP:∀(x:List au),dx x x.length=cz x
 | []=>rfl
 | x::xs=>by simp only[List.length_cons,dx,cz,nP xs]
def Ff{x:List au}(h:oq x<=1048576):cx x:=⟨h,λ_ _=>trivial⟩
theorem uK:∀(x:List au),cz x<=8*oq x
 | []=>by simp[cz]
 | x::xs=>by have:=uK xs;grind [cz,oq,au.cnt]
def pw:∀(x:List au)(i:Nat),dx x i<=cz x
 | [],_=>by simp[dx]
 | x::xs,0=>by simp[dx]
 | x::xs,i+1=>by simp only[dx,cz];have:=pw xs i;omega
structure aB where
 R:Int
 a0:Int
 a3:Int
deriving DecidableEq,Inhabited
def aB.enc(o:dY)(x:aB):List C:=[I x.R,I x.a0,I x.a3]
def aB.enc_fz(x:aB):fo (aB.enc .own x)=aB.enc .O x:=by simp[fo,aB.enc]
def aB.enc_fr(x:aB):gk (aB.enc .own x):=⟨trivial,trivial,trivial,trivial⟩
def aB.wf(x:aB):Prop:=oh x.R/\oh x.a0/\oh x.a3
def aB.cnt(_:aB):Nat:=3
def aB.sml(_:aB):Prop:=True
def aB.mark(_:aB)(k:Int):aB:=⟨k,k+1,k+1+1⟩
def bz(o:dY)(x:List aB):List C:=[.s o (x.map (aB.enc o))]
def mT(x:List aB):fo (bz .own x)=bz .O x:=by simp[fo,bz,aB.enc_fz,<-dh,C8]
theorem GS(x:List aB):gk (bz .own x):=⟨⟨.inl ψ,bu _ _ λy _=>aB.enc_fr y⟩,trivial⟩
def vJ(x:List aB):Prop:=x.length<=9223372036854775807/\∀y∈x,aB.wf y
def ce:List aB->Nat
 | []=>0
 | x::xs=>aB.cnt x+ce xs
def lS(x:List aB):Nat:=x.length
def cB(x:List aB):Prop:=x.length<=1048576/\∀y∈x,aB.sml y
def dQ:List aB->Int->List aB
 | [],_=>[]
 | x::xs,k=>aB.mark x k::dQ xs (k+(aB.cnt x:Nat))
def kQ:∀(x:List aB)(k:Int),(dQ x k).length=x.length
 | [],_=>rfl
 | _::xs,k=>by simp[dQ,kQ xs]
def cF:List aB->Nat->Nat
 | [],_=>0
 | _::_,0=>0
 | x::xs,i+1=>aB.cnt x+cF xs i
def kU:∀(x:List aB)(k:Int)(i:Nat)(y:aB),x[i]? = some y->(dQ x k)[i]? = some (aB.mark y (k+(cF x i:Nat)))
 | [],_,i,y,h=>by simp at h
 | x::xs,k,0,y,h=>by simp at h;subst h;simp[dQ,cF]
 | x::xs,k,i+1,y,h=>by
  simp only[dQ,List.getElem?_cons_succ];rw[kU xs _ i y (by simpa using h)]
  congr 2
  simp only[cF];omega
def kL(x:List aB):cF x 0=0:=by cases x<;>rfl
def k7:∀(x:List aB)(i:Nat)(y:aB),x[i]? = some y->cF x (i+1)=cF x i+aB.cnt y
 | [],i,y,h=>by simp at h
 | x::xs,0,y,h=>by simp at h;subst h;simp[cF,kL]
 | x::xs,i+1,y,h=>by
  simp only[cF];rw[k7 xs i y (by simpa using h)];omega
def mt:∀(x:List aB),cF x x.length=ce x
 | []=>rfl
 | x::xs=>by simp only[List.length_cons,cF,ce,mt xs]
def BT{x:List aB}(h:lS x<=1048576):cB x:=⟨h,λ_ _=>trivial⟩
theorem sy:∀(x:List aB),ce x<=8*lS x
 | []=>by simp[ce]
 | x::xs=>by have:=sy xs;grind [ce,lS,aB.cnt]
def nM:∀(x:List aB)(i:Nat),cF x i<=ce x
 | [],_=>by simp[cF]
 | x::xs,0=>by simp[cF]
 | x::xs,i+1=>by simp only[cF,ce];have:=nM xs i;omega
structure bf where
 Id:Int
 Addr:Int
 a3:Int
 a2:Int
deriving DecidableEq,Inhabited
def bf.enc(o:dY)(x:bf):List C:=[I x.Id,I x.Addr,I x.a3,I x.a2]
def bf.enc_fz(x:bf):fo (bf.enc .own x)=bf.enc .O x:=by simp[fo,bf.enc]
def bf.enc_fr(x:bf):gk (bf.enc .own x):=⟨trivial,trivial,trivial,trivial,trivial⟩
def bf.wf(x:bf):Prop:=oh x.Id/\oh x.Addr/\oh x.a3/\oh x.a2
def bf.cnt(_:bf):Nat:=4
def bf.sml(_:bf):Prop:=True
def bf.mark(_:bf)(k:Int):bf:=⟨k,k+1,k+1+1,k+1+1+1⟩
def fg(o:dY)(x:List bf):List C:=[.s o (x.map (bf.enc o))]
def Pf(x:List bf):fo (fg .own x)=fg .O x:=by simp[fo,fg,bf.enc_fz,<-dh,C8]
theorem N0(x:List bf):gk (fg .own x):=⟨⟨.inl ψ,bu _ _ λy _=>bf.enc_fr y⟩,trivial⟩
def Ft(x:List bf):Prop:=x.length<=9223372036854775807/\∀y∈x,bf.wf y
def dJ:List bf->Nat
 | []=>0
 | x::xs=>bf.cnt x+dJ xs
def rr(x:List bf):Nat:=x.length
def ov(x:List bf):Prop:=x.length<=1048576/\∀y∈x,bf.sml y
def f0:List bf->Int->List bf
 | [],_=>[]
 | x::xs,k=>bf.mark x k::f0 xs (k+(bf.cnt x:Nat))
def nY:∀(x:List bf)(k:Int),(f0 x k).length=x.length
 | [],_=>rfl
 | _::xs,k=>by simp[f0,nY xs]
def eD:List bf->Nat->Nat
 | [],_=>0
 | _::_,0=>0
 | x::xs,i+1=>bf.cnt x+eD xs i
def nX:∀(x:List bf)(k:Int)(i:Nat)(y:bf),x[i]? = some y->(f0 x k)[i]? = some (bf.mark y (k+(eD x i:Nat)))
 | [],_,i,y,h=>by simp at h
 | x::xs,k,0,y,h=>by simp at h;subst h;simp[f0,eD]
 | x::xs,k,i+1,y,h=>by
  simp only[f0,List.getElem?_cons_succ];rw[nX xs _ i y (by simpa using h)]
  congr 2
  simp only[eD];omega
def nw(x:List bf):eD x 0=0:=by cases x<;>rfl
def nD:∀(x:List bf)(i:Nat)(y:bf),x[i]? = some y->eD x (i+1)=eD x i+bf.cnt y
 | [],i,y,h=>by simp at h
 | x::xs,0,y,h=>by simp at h;subst h;simp[eD,nw]
 | x::xs,i+1,y,h=>by
  simp only[eD];rw[nD xs i y (by simpa using h)];omega
def pt:∀(x:List bf),eD x x.length=dJ x
 | []=>rfl
 | x::xs=>by simp only[List.length_cons,eD,dJ,pt xs]
def Jm{x:List bf}(h:rr x<=1048576):ov x:=⟨h,λ_ _=>trivial⟩
theorem xm:∀(x:List bf),dJ x<=8*rr x
 | []=>by simp[dJ]
 | x::xs=>by have:=xm xs;grind [dJ,rr,bf.cnt]
def qU:∀(x:List bf)(i:Nat),eD x i<=dJ x
 | [],_=>by simp[eD]
 | x::xs,0=>by simp[eD]
 | x::xs,i+1=>by simp only[eD,dJ];have:=qU xs i;omega
structure ax where
 T:List (List Int)
deriving DecidableEq,Inhabited
def ax.enc(o:dY)(x:ax):List C:=[.s o (x.T.map (aH o))]
def ax.enc_fz(x:ax):fo (ax.enc .own x)=ax.enc .O x:=by simp[fo,ax.enc,dK,<-dh,C8]
theorem ax.enc_fr(x:ax):gk (ax.enc .own x):=⟨⟨.inl ψ,bu _ _ λy _=>bM y⟩,trivial⟩
def Cc:type_of% @ax.enc_fr:=@ax.enc_fr
def ax.wf(x:ax):Prop:=uJ x.T
def ax.cnt(x:ax):Nat:=de x.T
def ax.sz(x:ax):Nat:=szIntSS x.T
def ax.sml(x:ax):Prop:=j7 x.T
theorem ax.sml_of{x:ax}(h:ax.sz x<=1048576):ax.sml x:=q9 (by grind [ax.sz])
theorem ax.cnt_le(x:ax):ax.cnt x<=8*ax.sz x:=by grind [rd,ax.cnt,ax.sz]
def ax.mark(x:ax)(k:Int):ax:={x with T:=markIntSS x.T (k)}
def dv(o:dY)(x:List ax):List C:=[.s o (x.map (ax.enc o))]
theorem Gs(x:List ax):gk (dv .own x):=⟨⟨.inl ψ,bu _ _ λy _=>Cc y⟩,trivial⟩
def vS(x:List ax):Prop:=x.length<=9223372036854775807/\∀y∈x,ax.wf y
def bW:List ax->Nat
 | []=>0
 | x::xs=>ax.cnt x+bW xs
def fJ:List ax->Nat
 | []=>0
 | x::xs=>ax.sz x+fJ xs
def gF(x:List ax):Nat:=x.length+fJ x
def iX(x:List ax):Prop:=x.length<=1048576/\∀y∈x,ax.sml y
def b9:List ax->Int->List ax
 | [],_=>[]
 | x::xs,k=>ax.mark x k::b9 xs (k+(ax.cnt x:Nat))
def fy:∀(x:List ax)(k:Int),(b9 x k).length=x.length
 | [],_=>rfl
 | _::xs,k=>by simp[b9,fy xs]
def bX:List ax->Nat->Nat
 | [],_=>0
 | _::_,0=>0
 | x::xs,i+1=>ax.cnt x+bX xs i
def gu:∀(x:List ax)(k:Int)(i:Nat)(y:ax),x[i]? = some y->(b9 x k)[i]? = some (ax.mark y (k+(bX x i:Nat)))
 | [],_,i,y,h=>by simp at h
 | x::xs,k,0,y,h=>by simp at h;subst h;simp[b9,bX]
 | x::xs,k,i+1,y,h=>by
  simp only[b9,List.getElem?_cons_succ];rw[gu xs _ i y (by simpa using h)]
  congr 2
  simp only[bX];omega
def iO(x:List ax):bX x 0=0:=by cases x<;>rfl
def iR:∀(x:List ax)(i:Nat)(y:ax),x[i]? = some y->bX x (i+1)=bX x i+ax.cnt y
 | [],i,y,h=>by simp at h
 | x::xs,0,y,h=>by simp at h;subst h;simp[bX,iO]
 | x::xs,i+1,y,h=>by
  simp only[bX];rw[iR xs i y (by simpa using h)];omega
def jy:∀(x:List ax),bX x x.length=bW x
 | []=>rfl
 | x::xs=>by simp only[List.length_cons,bX,bW,jy xs]
def qV:∀{x:List ax}{y:ax},y∈x->ax.sz y<=fJ x
 | [],y,h=>by simp at h
 | x::xs,y,h=>by
  simp only[fJ];rcases List.mem_cons.1 h with rfl|h
  ·omega
  have:=qV h;omega
theorem Ba{x:List ax}(h:gF x<=1048576):iX x:=⟨by grind [gF],λy a=>ax.sml_of (by have:=qV a;grind [gF])⟩
theorem qR:∀(x:List ax),bW x<=8*fJ x
 | []=>by simp[bW]
 | x::xs=>by have:=qR xs;grind [ax.cnt_le,bW,fJ]
theorem B0(x:List ax):bW x<=8*gF x:=by grind [qR,gF]
def cZ:List ax->Nat->Nat
 | [],_=>0
 | _::_,0=>0
 | x::xs,i+1=>ax.sz x+cZ xs i
def jF(x:List ax):cZ x 0=0:=by cases x<;>rfl
def oG:∀(x:List ax)(i:Nat)(y:ax),x[i]? = some y->cZ x (i+1)=cZ x i+ax.sz y
 | [],i,y,h=>by simp at h
 | x::xs,0,y,h=>by simp at h;subst h;simp[cZ,jF]
 | x::xs,i+1,y,h=>by
  simp only[cZ];rw[oG xs i y (by simpa using h)];omega
def pM:∀(x:List ax),cZ x x.length=fJ x
 | []=>rfl
 | x::xs=>by simp only[List.length_cons,cZ,fJ,pM xs]
def mA:∀(x:List ax)(i:Nat),cZ x i<=fJ x
 | [],_=>by simp[cZ]
 | x::xs,0=>by simp[cZ]
 | x::xs,i+1=>by simp only[cZ,fJ];have:=mA xs i;omega
def ka:∀(x:List ax)(i:Nat),bX x i<=bW x
 | [],_=>by simp[bX]
 | x::xs,0=>by simp[bX]
 | x::xs,i+1=>by simp only[bX,bW];have:=ka xs i;omega
structure aT where
 To:Int
 Addr:Int
deriving DecidableEq,Inhabited
def aT.enc(o:dY)(x:aT):List C:=[I x.To,I x.Addr]
def aT.enc_fz(x:aT):fo (aT.enc .own x)=aT.enc .O x:=by simp[fo,aT.enc]
def aT.enc_fr(x:aT):gk (aT.enc .own x):=⟨trivial,trivial,trivial⟩
def aT.wf(x:aT):Prop:=oh x.To/\oh x.Addr
def aT.cnt(_:aT):Nat:=2
def aT.sml(_:aT):Prop:=True
def aT.mark(_:aT)(k:Int):aT:=⟨k,k+1⟩
def bK(o:dY)(x:List aT):List C:=[.s o (x.map (aT.enc o))]
def A6(x:List aT):fo (bK .own x)=bK .O x:=by simp[fo,bK,aT.enc_fz,<-dh,C8]
theorem oN(x:List aT):gk (bK .own x):=⟨⟨.inl ψ,bu _ _ λy _=>aT.enc_fr y⟩,trivial⟩
def zk(x:List aT):Prop:=x.length<=9223372036854775807/\∀y∈x,aT.wf y
def dM:List aT->Nat
 | []=>0
 | x::xs=>aT.cnt x+dM xs
def jz(x:List aT):Nat:=x.length
def lR(x:List aT):Prop:=x.length<=1048576/\∀y∈x,aT.sml y
def ep:List aT->Int->List aT
 | [],_=>[]
 | x::xs,k=>aT.mark x k::ep xs (k+(aT.cnt x:Nat))
def m0:∀(x:List aT)(k:Int),(ep x k).length=x.length
 | [],_=>rfl
 | _::xs,k=>by simp[ep,m0 xs]
def dw:List aT->Nat->Nat
 | [],_=>0
 | _::_,0=>0
 | x::xs,i+1=>aT.cnt x+dw xs i
def mr:∀(x:List aT)(k:Int)(i:Nat)(y:aT),x[i]? = some y->(ep x k)[i]? = some (aT.mark y (k+(dw x i:Nat)))
 | [],_,i,y,h=>by simp at h
 | x::xs,k,0,y,h=>by simp at h;subst h;simp[ep,dw]
 | x::xs,k,i+1,y,h=>by
  simp only[ep,List.getElem?_cons_succ];rw[mr xs _ i y (by simpa using h)]
  congr 2
  simp only[dw];omega
def ma(x:List aT):dw x 0=0:=by cases x<;>rfl
def mn:∀(x:List aT)(i:Nat)(y:aT),x[i]? = some y->dw x (i+1)=dw x i+aT.cnt y
 | [],i,y,h=>by simp at h
 | x::xs,0,y,h=>by simp at h;subst h;simp[dw,ma]
 | x::xs,i+1,y,h=>by
  simp only[dw];rw[mn xs i y (by simpa using h)];omega
def nr:∀(x:List aT),dw x x.length=dM x
 | []=>rfl
 | x::xs=>by simp only[List.length_cons,dw,dM,nr xs]
def E5{x:List aT}(h:jz x<=1048576):lR x:=⟨h,λ_ _=>trivial⟩
theorem uM:∀(x:List aT),dM x<=8*jz x
 | []=>by simp[dM]
 | x::xs=>by have:=uM xs;grind [dM,jz,aT.cnt]
def pe:∀(x:List aT)(i:Nat),dw x i<=dM x
 | [],_=>by simp[dw]
 | x::xs,0=>by simp[dw]
 | x::xs,i+1=>by simp only[dw,dM];have:=pe xs i;omega
def dZ(o:dY)(x:List (List aT)):List C:=[.s o (x.map (bK o))]
theorem HD(x:List (List aT)):gk (dZ .own x):=⟨⟨.inl ψ,bu _ _ λy _=>oN y⟩,trivial⟩
def we(x:List (List aT)):Prop:=x.length<=9223372036854775807/\∀y∈x,zk y
def dm:List (List aT)->Nat
 | []=>0
 | x::xs=>dM x+dm xs
def fQ:List (List aT)->Nat
 | []=>0
 | x::xs=>jz x+fQ xs
def gG(x:List (List aT)):Nat:=x.length+fQ x
def jI(x:List (List aT)):Prop:=x.length<=1048576/\∀y∈x,lR y
def dP:List (List aT)->Int->List (List aT)
 | [],_=>[]
 | x::xs,k=>ep x k::dP xs (k+(dM x:Nat))
def kT:∀(x:List (List aT))(k:Int),(dP x k).length=x.length
 | [],_=>rfl
 | _::xs,k=>by simp[dP,kT xs]
def cJ:List (List aT)->Nat->Nat
 | [],_=>0
 | _::_,0=>0
 | x::xs,i+1=>dM x+cJ xs i
def kX:∀(x:List (List aT))(k:Int)(i:Nat)(y:List aT),x[i]? = some y->(dP x k)[i]? = some (ep y (k+(cJ x i:Nat)))
 | [],_,i,y,h=>by simp at h
 | x::xs,k,0,y,h=>by simp at h;subst h;simp[dP,cJ]
 | x::xs,k,i+1,y,h=>by
  simp only[dP,List.getElem?_cons_succ];rw[kX xs _ i y (by simpa using h)]
  congr 2
  simp only[cJ];omega
def kS(x:List (List aT)):cJ x 0=0:=by cases x<;>rfl
def kP:∀(x:List (List aT))(i:Nat)(y:List aT),x[i]? = some y->cJ x (i+1)=cJ x i+dM y
 | [],i,y,h=>by simp at h
 | x::xs,0,y,h=>by simp at h;subst h;simp[cJ,kS]
 | x::xs,i+1,y,h=>by
  simp only[cJ];rw[kP xs i y (by simpa using h)];omega
def mz:∀(x:List (List aT)),cJ x x.length=dm x
 | []=>rfl
 | x::xs=>by simp only[List.length_cons,cJ,dm,mz xs]
def qv:∀{x:List (List aT)}{y:List aT},y∈x->jz y<=fQ x
 | [],y,h=>by simp at h
 | x::xs,y,h=>by
  simp only[fQ];rcases List.mem_cons.1 h with rfl|h
  ·omega
  have:=qv h;omega
theorem B8{x:List (List aT)}(h:gG x<=1048576):jI x:=⟨by grind [gG],λy a=>E5 (by have:=qv a;grind [gG])⟩
theorem qX:∀(x:List (List aT)),dm x<=8*fQ x
 | []=>by simp[dm]
 | x::xs=>by have:=qX xs;grind [uM,dm,fQ]
theorem BK(x:List (List aT)):dm x<=8*gG x:=by grind [qX,gG]
def cV:List (List aT)->Nat->Nat
 | [],_=>0
 | _::_,0=>0
 | x::xs,i+1=>jz x+cV xs i
def jM(x:List (List aT)):cV x 0=0:=by cases x<;>rfl
def oc:∀(x:List (List aT))(i:Nat)(y:List aT),x[i]? = some y->cV x (i+1)=cV x i+jz y
 | [],i,y,h=>by simp at h
 | x::xs,0,y,h=>by simp at h;subst h;simp[cV,jM]
 | x::xs,i+1,y,h=>by
  simp only[cV];rw[oc xs i y (by simpa using h)];omega
def pR:∀(x:List (List aT)),cV x x.length=fQ x
 | []=>rfl
 | x::xs=>by simp only[List.length_cons,cV,fQ,pR xs]
def mh:∀(x:List (List aT))(i:Nat),cV x i<=fQ x
 | [],_=>by simp[cV]
 | x::xs,0=>by simp[cV]
 | x::xs,i+1=>by simp only[cV,fQ];have:=mh xs i;omega
def n8:∀(x:List (List aT))(i:Nat),cJ x i<=dm x
 | [],_=>by simp[cJ]
 | x::xs,0=>by simp[cJ]
 | x::xs,i+1=>by simp only[cJ,dm];have:=n8 xs i;omega
structure aM where
 V:List (List aT)
 k:List (List Int)
deriving DecidableEq,Inhabited
def aM.enc(o:dY)(x:aM):List C:=[.s o (x.V.map (bK o)),.s o (x.k.map (aH o))]
theorem aM.enc_fr(x:aM):gk (aM.enc .own x):=⟨⟨.inl ψ,bu _ _ λy _=>oN y⟩,⟨.inl ψ,bu _ _ λy _=>bM y⟩,trivial⟩
def aM.wf(x:aM):Prop:=we x.V/\uJ x.k
def aM.cnt(x:aM):Nat:=dm x.V+de x.k
def aM.sz(x:aM):Nat:=gG x.V+szIntSS x.k
def aM.sml(x:aM):Prop:=jI x.V/\j7 x.k
theorem aM.sml_of{x:aM}(h:aM.sz x<=1048576):aM.sml x:=⟨B8 (by grind [aM.sz]),q9 (by grind [aM.sz])⟩
theorem aM.cnt_le(x:aM):aM.cnt x<=8*aM.sz x:=by grind [BK,rd,aM.cnt,aM.sz]
def aM.mark(x:aM)(k:Int):aM:={x with V:=dP x.V (k),k:=markIntSS x.k (k+(dm x.V:Nat))}
structure aL where
 Addr:Int
 Z:Int
 a8:Int
deriving DecidableEq,Inhabited
def aL.enc(o:dY)(x:aL):List C:=[I x.Addr,I x.Z,I x.a8]
def aL.enc_fz(x:aL):fo (aL.enc .own x)=aL.enc .O x:=by simp[fo,aL.enc]
def aL.enc_fr(x:aL):gk (aL.enc .own x):=⟨trivial,trivial,trivial,trivial⟩
def aL.wf(x:aL):Prop:=oh x.Addr/\oh x.Z/\oh x.a8
def aL.cnt(_:aL):Nat:=3
def aL.sml(_:aL):Prop:=True
def aL.mark(_:aL)(k:Int):aL:=⟨k,k+1,k+1+1⟩
def ct(o:dY)(x:List aL):List C:=[.s o (x.map (aL.enc o))]
theorem HC(x:List aL):gk (ct .own x):=⟨⟨.inl ψ,bu _ _ λy _=>aL.enc_fr y⟩,trivial⟩
def wn(x:List aL):Prop:=x.length<=9223372036854775807/\∀y∈x,aL.wf y
def dr:List aL->Nat
 | []=>0
 | x::xs=>aL.cnt x+dr xs
def lJ(x:List aL):Nat:=x.length
def fF(x:List aL):Prop:=x.length<=1048576/\∀y∈x,aL.sml y
def dO:List aL->Int->List aL
 | [],_=>[]
 | x::xs,k=>aL.mark x k::dO xs (k+(aL.cnt x:Nat))
def kO:∀(x:List aL)(k:Int),(dO x k).length=x.length
 | [],_=>rfl
 | _::xs,k=>by simp[dO,kO xs]
def cM:List aL->Nat->Nat
 | [],_=>0
 | _::_,0=>0
 | x::xs,i+1=>aL.cnt x+cM xs i
def kC:∀(x:List aL)(k:Int)(i:Nat)(y:aL),x[i]? = some y->(dO x k)[i]? = some (aL.mark y (k+(cM x i:Nat)))
 | [],_,i,y,h=>by simp at h
 | x::xs,k,0,y,h=>by simp at h;subst h;simp[dO,cM]
 | x::xs,k,i+1,y,h=>by
  simp only[dO,List.getElem?_cons_succ];rw[kC xs _ i y (by simpa using h)]
  congr 2
  simp only[cM];omega
def k9(x:List aL):cM x 0=0:=by cases x<;>rfl
def kZ:∀(x:List aL)(i:Nat)(y:aL),x[i]? = some y->cM x (i+1)=cM x i+aL.cnt y
 | [],i,y,h=>by simp at h
 | x::xs,0,y,h=>by simp at h;subst h;simp[cM,k9]
 | x::xs,i+1,y,h=>by
  simp only[cM];rw[kZ xs i y (by simpa using h)];omega
def mF:∀(x:List aL),cM x x.length=dr x
 | []=>rfl
 | x::xs=>by simp only[List.length_cons,cM,dr,mF xs]
def By{x:List aL}(h:lJ x<=1048576):fF x:=⟨h,λ_ _=>trivial⟩
theorem sE:∀(x:List aL),dr x<=8*lJ x
 | []=>by simp[dr]
 | x::xs=>by have:=sE xs;grind [dr,lJ,aL.cnt]
def n7:∀(x:List aL)(i:Nat),cM x i<=dr x
 | [],_=>by simp[cM]
 | x::xs,0=>by simp[cM]
 | x::xs,i+1=>by simp only[cM,dr];have:=n7 xs i;omega
structure aZ where
 b1:Int
 u:List aL
deriving DecidableEq,Inhabited
def aZ.enc(o:dY)(x:aZ):List C:=[I x.b1,.s o (x.u.map (aL.enc o))]
theorem aZ.enc_fr(x:aZ):gk (aZ.enc .own x):=⟨trivial,⟨.inl ψ,bu _ _ λy _=>aL.enc_fr y⟩,trivial⟩
def aZ.wf(x:aZ):Prop:=oh x.b1/\wn x.u
def aZ.cnt(x:aZ):Nat:=dr x.u
def aZ.sz(x:aZ):Nat:=lJ x.u
def aZ.sml(x:aZ):Prop:=fF x.u
theorem aZ.sml_of{x:aZ}(h:aZ.sz x<=1048576):aZ.sml x:=By (by grind [aZ.sz])
theorem aZ.cnt_le(x:aZ):aZ.cnt x<=8*aZ.sz x:=by grind [sE,aZ.cnt,aZ.sz]
def aZ.mark(x:aZ)(k:Int):aZ:={x with u:=dO x.u (k)}
structure aV where
 w:Int
 y:Int
 W:List Int
deriving DecidableEq,Inhabited
def aV.enc(o:dY)(x:aV):List C:=[I x.w,I x.y,.s o (x.W.map (rI o))]
def aV.enc_fz(x:aV):fo (aV.enc .own x)=aV.enc .O x:=by simp[fo,aV.enc,rI,<-dh,C8]
theorem aV.enc_fr(x:aV):gk (aV.enc .own x):=⟨trivial,trivial,⟨.inl ψ,bu _ _ λy _=>zt y⟩,trivial⟩
def aV.wf(x:aV):Prop:=oh x.w/\oh x.y/\fE x.W
def aV.cnt(x:aV):Nat:=er x.W
def aV.sz(x:aV):Nat:=szIntS x.W
def aV.sml(x:aV):Prop:=lw x.W
theorem aV.sml_of{x:aV}(h:aV.sz x<=1048576):aV.sml x:=tc (by grind [aV.sz])
theorem aV.cnt_le(x:aV):aV.cnt x<=8*aV.sz x:=by grind [sZ,aV.cnt,aV.sz]
def aV.mark(x:aV)(k:Int):aV:={x with W:=markIntS x.W (k)}
structure bk where
 Y:aV
 a1:Int
 g:Int
deriving DecidableEq,Inhabited
def bk.enc(o:dY)(x:bk):List C:=[I x.Y.w,I x.Y.y,.s o (x.Y.W.map (rI o)),I x.a1,I x.g]
def bk.enc_fz(x:bk):fo (bk.enc .own x)=bk.enc .O x:=by simp[fo,bk.enc,rI,<-dh,C8]
theorem bk.enc_fr(x:bk):gk (bk.enc .own x):=⟨trivial,trivial,⟨.inl ψ,bu _ _ λy _=>zt y⟩,trivial,trivial,trivial⟩
def bk.wf(x:bk):Prop:=aV.wf x.Y/\oh x.a1/\oh x.g
def bk.cnt(x:bk):Nat:=aV.cnt x.Y
def bk.sz(x:bk):Nat:=aV.sz x.Y
def bk.sml(x:bk):Prop:=aV.sml x.Y
theorem bk.sml_of{x:bk}(h:bk.sz x<=1048576):bk.sml x:=aV.sml_of (by grind [bk.sz])
theorem bk.cnt_le(x:bk):bk.cnt x<=8*bk.sz x:=by grind [aV.cnt_le,bk.cnt,bk.sz]
def bk.mark(x:bk)(k:Int):bk:={x with Y:=aV.mark x.Y (k)}
structure ac where
 K:af
 a:List ay
 H:List au
 S:List aB
 X:List bf
 M:List ax
 e:aM
 q:aZ
 a4:Int
 a5:Int
 a9:Int
 g:Int
 j:Bool
 p:bk
deriving DecidableEq,Inhabited
def ac.enc(o:dY)(x:ac):List C:=[.s o (x.K.G.U.W.map (aH o)),.s o (x.K.G.U.c.map (rB o)),.s o (x.K.G.Q.J.map (aN.enc o)),I x.K.Calls,.s o (x.K.b.map (rI o)),.s o (x.a.map (ay.enc o)),.s o (x.H.map (au.enc o)),.s o (x.S.map (aB.enc o)),.s o (x.X.map (bf.enc o)),.s o (x.M.map (ax.enc o)),.s o (x.e.V.map (bK o)),.s o (x.e.k.map (aH o)),I x.q.b1,.s o (x.q.u.map (aL.enc o)),I x.a4,I x.a5,I x.a9,I x.g,B x.j,I x.p.Y.w,I x.p.Y.y,.s o (x.p.Y.W.map (rI o)),I x.p.a1,I x.p.g]
def ac.enc_fz(x:ac):fo (ac.enc .own x)=ac.enc .O x:=by simp[fo,ac.enc,ax.enc_fz,aN.enc_fz,aB.enc_fz,bf.enc_fz,ay.enc_fz,au.enc_fz,aL.enc_fz,rB,A6,rI,dK,<-dh,C8]
theorem ac.enc_fr(x:ac):gk (ac.enc .own x):=⟨⟨.inl ψ,bu _ _ λy _=>bM y⟩,⟨.inl ψ,bu _ _ λy _=>Ho y⟩,⟨.inl ψ,bu _ _ λy _=>aN.enc_fr y⟩,trivial,⟨.inl ψ,bu _ _ λy _=>zt y⟩,⟨.inl ψ,bu _ _ λy _=>ay.enc_fr y⟩,⟨.inl ψ,bu _ _ λy _=>au.enc_fr y⟩,⟨.inl ψ,bu _ _ λy _=>aB.enc_fr y⟩,⟨.inl ψ,bu _ _ λy _=>bf.enc_fr y⟩,⟨.inl ψ,bu _ _ λy _=>Cc y⟩,⟨.inl ψ,bu _ _ λy _=>oN y⟩,⟨.inl ψ,bu _ _ λy _=>bM y⟩,trivial,⟨.inl ψ,bu _ _ λy _=>aL.enc_fr y⟩,trivial,trivial,trivial,trivial,trivial,trivial,trivial,⟨.inl ψ,bu _ _ λy _=>zt y⟩,trivial,trivial,trivial⟩
def Cb:type_of% @ac.enc_fr:=@ac.enc_fr
def ac.wf(x:ac):Prop:=af.wf x.K/\vT x.a/\yW x.H/\vJ x.S/\Ft x.X/\vS x.M/\aM.wf x.e/\aZ.wf x.q/\oh x.a4/\oh x.a5/\oh x.a9/\oh x.g/\WE x.j/\bk.wf x.p
def ac.cnt(x:ac):Nat:=af.cnt x.K+bL x.a+cz x.H+ce x.S+dJ x.X+bW x.M+aM.cnt x.e+aZ.cnt x.q+bk.cnt x.p
def ac.sz(x:ac):Nat:=af.sz x.K+lP x.a+oq x.H+lS x.S+rr x.X+gF x.M+aM.sz x.e+aZ.sz x.q+bk.sz x.p
def ac.sml(x:ac):Prop:=af.sml x.K/\dD x.a/\cx x.H/\cB x.S/\ov x.X/\iX x.M/\aM.sml x.e/\aZ.sml x.q/\bk.sml x.p
theorem ac.sml_of{x:ac}(h:ac.sz x<=1048576):ac.sml x:=⟨af.sml_of (by grind [ac.sz]),B9 (by grind [ac.sz]),Ff (by grind [ac.sz]),BT (by grind [ac.sz]),Jm (by grind [ac.sz]),Ba (by grind [ac.sz]),aM.sml_of (by grind [ac.sz]),aZ.sml_of (by grind [ac.sz]),bk.sml_of (by grind [ac.sz])⟩
theorem ac.cnt_le(x:ac):ac.cnt x<=8*ac.sz x:=by unfold ac.cnt ac.sz;have:=af.cnt_le x.K;have:=se x.a;grind [uK,sy,xm,B0,aM.cnt_le,aZ.cnt_le,bk.cnt_le]
def ac.mark(x:ac)(k:Int):ac:={x with K:=af.mark x.K (k),a:=dR x.a (k+(af.cnt x.K:Nat)),H:=eJ x.H (k+(af.cnt x.K:Nat)+(bL x.a:Nat)),S:=dQ x.S (k+(af.cnt x.K:Nat)+(bL x.a:Nat)+(cz x.H:Nat)),X:=f0 x.X (k+(af.cnt x.K:Nat)+(bL x.a:Nat)+(cz x.H:Nat)+(ce x.S:Nat)),M:=b9 x.M (k+(af.cnt x.K:Nat)+(bL x.a:Nat)+(cz x.H:Nat)+(ce x.S:Nat)+(dJ x.X:Nat)),e:=aM.mark x.e (k+(af.cnt x.K:Nat)+(bL x.a:Nat)+(cz x.H:Nat)+(ce x.S:Nat)+(dJ x.X:Nat)+(bW x.M:Nat)),q:=aZ.mark x.q (k+(af.cnt x.K:Nat)+(bL x.a:Nat)+(cz x.H:Nat)+(ce x.S:Nat)+(dJ x.X:Nat)+(bW x.M:Nat)+(aM.cnt x.e:Nat)),p:=bk.mark x.p (k+(af.cnt x.K:Nat)+(bL x.a:Nat)+(cz x.H:Nat)+(ce x.S:Nat)+(dJ x.X:Nat)+(bW x.M:Nat)+(aM.cnt x.e:Nat)+(aZ.cnt x.q:Nat))}
structure jL where
 a6:Int
 b2:Int
 b8:Int
 b3:Int
deriving DecidableEq,Inhabited
def jL.enc(o:dY)(x:jL):List C:=[I x.a6,I x.b2,I x.b8,I x.b3]
def jL.enc_fr(x:jL):gk (jL.enc .own x):=⟨trivial,trivial,trivial,trivial,trivial⟩
structure Xm where
 Id:Int
 a3:Int
 Sum:Int
deriving DecidableEq,Inhabited
structure Mv where
 Id:Int
 W:List Int
deriving DecidableEq,Inhabited
structure iE where
 g:Int
 X:List Mv
deriving DecidableEq,Inhabited
structure jO where
 Heap:ac
 b5:iE
deriving DecidableEq,Inhabited
structure W9 where
 a0:Int
 Mapped:Int
 U:Int
 Held:Int
 sY:Int
 Cached:Int
 b0:Int
 Posted:Int
deriving DecidableEq,Inhabited
variable{α:Type}
def Lm{β:Type}{f:α->β}{l:List α}{K:Nat->Prop}(h:K l.length):Ln (l.map f).length K:=CQ (Z1 ..) h
variable{z:Int}
def Wm{K:Int->Prop}(h : -9223372036854775808<=z/\z<=9223372036854775807)(a:K z):Wr .i64 z K:=CO (gV h.1 h.2) a
variable{X Y p:Prop}
def dT[Decidable p](h:p)(a:p->X):Bf (decide p) X Y:=.D a λe=>absurd h e
def dF[Decidable p](h:¬p)(a:¬p->Y):Bf (decide p) X Y:=.D (λe=>absurd e h) a
variable{a b:Int}
def nT(h:a≠b)(c:a≠b->X):Bf (a != b) X Y:=.N c λe=>absurd e h
def nF(h:a=b)(c:a=b->Y):Bf (a != b) X Y:=.N (λe=>absurd h e) c
def eT(h:a=b)(c:a=b->X):Bf (a == b) X Y:=.E c λe=>absurd h e
def eF(h:a≠b)(c:a≠b->Y):Bf (a == b) X Y:=.E (λe=>absurd e h) c
def Bn{b:Bool}(h:Bf b Y X):Bf (!b) X Y:=.not h
def Bt(h:X):Bf true X Y:=.t rfl h
def Bu(h:Y):Bf false X Y:=.f rfl h
def Fm{k b:Kd}{cs a:List C}(c:k=b)(h:cs=a):qr k b cs a:=.mk c h
def dV[Decidable p](h:p)(a:X):Bf (decide p) X Y:=.D (λ_=>a) λe=>absurd h e
def dW[Decidable p](h:¬p)(a:Y):Bf (decide p) X Y:=.D (λe=>absurd e h) λ_=>a
def nV(h:a≠b)(c:X):Bf (a != b) X Y:=.N (λ_=>c) λe=>absurd e h
def nW(h:a=b)(c:Y):Bf (a != b) X Y:=.N (λe=>absurd h e) λ_=>c
def eV(h:a=b)(c:X):Bf (a == b) X Y:=.E (λ_=>c) λe=>absurd h e
def eW(h:a≠b)(c:Y):Bf (a == b) X Y:=.E (λe=>absurd e h) λ_=>c
structure MT(Y:Prop):Prop where
 out:Y
structure ZF(X Y:Prop):Prop where
def ZF.rf{X:Prop}:ZF X X:=⟨⟩
def gO(y:Y)(h:MT Y->X:=by intro y;(conv=>whnf);(first|with_reducible (first|refine Lm ?_|refine Wm ω ?_|refine Bn ?_|refine Fm rfl ?_)|refine Bt ?_|refine Bu ?_|skip);exact y.out)(_:ZF X Y:=by (fail_if_success with_reducible exact ZF.rf);exact ⟨⟩):X:=h ⟨y⟩
def gP(y:Y)(h:MT Y->X:=by intro y;(conv=>whnf);(first|with_reducible (first|refine Lm ?_|refine Wm ω ?_|refine Bn ?_|refine Fm rfl ?_)|refine Bt ?_|refine Bu ?_|refine CA (by assumption) ?_|refine CB (aa (by assumption)) ?_|refine CK rfl (aa (by assumption)) rfl ?_|refine CE ?_|refine CI (by assumption) (.inl rfl) ?_|skip);exact y.out)(_:ZF X Y:=by (fail_if_success with_reducible exact ZF.rf);exact ⟨⟩):X:=h ⟨y⟩
def gD(y:Y)(h:MT Y->X:=by intro y;(conv=>whnf);(first|with_reducible (first|refine Lm ?_|refine Wm ω ?_|refine dV ω ?_|refine dW ω ?_|refine Bn ?_|refine Fm rfl ?_)|refine Bt ?_|refine Bu ?_|skip);exact y.out)(_:ZF X Y:=by (fail_if_success with_reducible exact ZF.rf);exact ⟨⟩):X:=h ⟨y⟩
def gE(y:Y)(h:MT Y->X:=by intro y;(conv=>whnf);(first|with_reducible (first|refine Lm ?_|refine Wm ω ?_|refine dV ω ?_|refine dW ω ?_|refine Bn ?_|refine Fm rfl ?_)|refine Bt ?_|refine Bu ?_|refine CA (by assumption) ?_|refine CB (aa (by assumption)) ?_|refine CK rfl (aa (by assumption)) rfl ?_|refine CE ?_|refine CI (by assumption) (.inl rfl) ?_|skip);exact y.out)(_:ZF X Y:=by (fail_if_success with_reducible exact ZF.rf);exact ⟨⟩):X:=h ⟨y⟩
def gA(y:Y)(h:MT Y->X:=by intro y;(conv=>whnf);(first|with_reducible (first|refine Lm ?_|refine Wm ω ?_|refine dV ω ?_|refine dW ω ?_|refine nV ω ?_|refine nW ω ?_|refine eV ω ?_|refine eW ω ?_|refine Bn ?_|refine Fm rfl ?_)|refine Bt ?_|refine Bu ?_|skip);exact y.out)(_:ZF X Y:=by (fail_if_success with_reducible exact ZF.rf);exact ⟨⟩):X:=h ⟨y⟩
def gB(y:Y)(h:MT Y->X:=by intro y;(conv=>whnf);(first|with_reducible (first|refine Lm ?_|refine Wm ω ?_|refine dV ω ?_|refine dW ω ?_|refine nV ω ?_|refine nW ω ?_|refine eV ω ?_|refine eW ω ?_|refine Bn ?_|refine Fm rfl ?_)|refine Bt ?_|refine Bu ?_|refine CA (by assumption) ?_|refine CB (aa (by assumption)) ?_|refine CK rfl (aa (by assumption)) rfl ?_|refine CE ?_|refine CI (by assumption) (.inl rfl) ?_|skip);exact y.out)(_:ZF X Y:=by (fail_if_success with_reducible exact ZF.rf);exact ⟨⟩):X:=h ⟨y⟩
def ZO(y:Y)(h:MT Y->X:=by intro y;(repeat' first|refine gO ?_|fail);exact y.out):X:=h ⟨y⟩
def ZP(y:Y)(h:MT Y->X:=by intro y;(repeat' first|refine gP ?_|fail);exact y.out):X:=h ⟨y⟩
def ZD(y:Y)(h:MT Y->X:=by intro y;(repeat' first|refine gD ?_|fail);exact y.out):X:=h ⟨y⟩
def ZE(y:Y)(h:MT Y->X:=by intro y;(repeat' first|refine gE ?_|fail);exact y.out):X:=h ⟨y⟩
def ZA(y:Y)(h:MT Y->X:=by intro y;(repeat' first|refine gA ?_|fail);exact y.out):X:=h ⟨y⟩
def ZB(y:Y)(h:MT Y->X:=by intro y;(repeat' first|refine gB ?_|fail);exact y.out):X:=h ⟨y⟩
def Wu{z1 z2:Int}(h:z1=z2):Tt (I z1) (I z2):=by subst h;rfl
def WI(c:C):Tt c c:=(qt [c]).1
def wA(h:X:=by repeat'(first|exact trivial|rfl|refine CC ?_ ?_)):X:=h
def wB(h:X:=by repeat'(first|exact trivial|rfl|refine CC ?_ ?_|(exact Wu (by first|omega|(simp only;omega)|(simp;omega))))):X:=h
def wC(h:X:=by repeat'(first|exact trivial|rfl|exact WI _|refine CC ?_ ?_|(exact Wu (by first|omega|(simp only;omega)|(simp;omega))))):X:=h
variable{rcs: List C}{sh: Bool}{c: Code}{f: Nat}
def fO(n : Nat){a : Func}{A : List RA}{k : Kd}(tb : List (Nat × Nat × List Nat))(d : Tryz.prog.funcs[f]? = some a)(e : a.body = some c)(g : aw Tryz.prog TE ⟨n, [], []⟩ (DF Tryz.prog TE ⟨n, [], []⟩ tb) c (TT TE a.results.toList k rcs) (lay (EC 0 A)))(b : sh = true \/ gk rcs := by exact .inr ⟨trivial, trivial⟩)(h : (a.name == "runtime.NumGoroutine") = false := by kernel_rfl)(i : gJ (pb tb) c = true := by kernel_rfl)(j : A.length + (a.ntmps - A.length) = n := by rfl) : zzA f sh A k rcs := Wb d h e i j b g
def fP(n : Nat){a : Func}{A : List RA}{k : Kd}(mo : List (Nat × List Nat))(tb : List (Nat × Nat × List Nat))(d : Tryz.prog.funcs[f]? = some a)(e : a.body = some c)(g : aw Tryz.prog TE ⟨n, [], mo⟩ (DF Tryz.prog TE ⟨n, [], mo⟩ tb) c (TT TE a.results.toList k rcs) (lay (EC 0 A)))(b : sh = true \/ gk rcs := by exact .inr ⟨trivial, trivial⟩)(h : (a.name == "runtime.NumGoroutine") = false := by kernel_rfl)(i : gJ (pb tb) c = true := by kernel_rfl)(j : A.length + (a.ntmps - A.length) = n := by rfl) : zzA f sh A k rcs := Wb d h e i j b g
def fM(n : Nat){a : Func}{A B : List MA}{k : Kd}(mo : List (Nat × List Nat))(tb : List (Nat × Nat × List Nat))(b : List (Nat × Nat))(g : Tryz.prog.funcs[f]? = some a)(h : a.body = some c)(i : ∀(u : Nat -> Nat -> Value)(p : Nat -> Value), aw Tryz.prog TE ⟨n, MO p 0 A, mo⟩ (DF Tryz.prog TE ⟨n, MO p 0 A, mo⟩ tb) c (UR TE a.results.toList k rcs u A B b) (lay (Ae u 0 A)))(d : sh = true \/ gk rcs := by exact .inr ⟨trivial, trivial⟩)(j : (a.name == "runtime.NumGoroutine") = false := by kernel_rfl)(l : gJ (pb tb) c = true := by kernel_rfl)(o : A.length + (a.ntmps - A.length) = n := by rfl)(e : Lz (GA 0 A b) = true := by rfl) : zzB f sh A B k rcs := VY b g j h l o e d i
section
variable{α:Type}{l:List α}{p:α->Bool}{i:Nat}{x:α}
theorem cO(h:l[i]? = some x)(a:(l.take i).all p=true)(b:p x=true):(l.take (i+1)).all p=true:=by grind [X7]
theorem io(h:l[i]? = some x)(a:p x=false):l.all p=false:=ψ
theorem oR(a:l.length<=i)(b:(l.take i).all p=true):l.all p=true:=by grind [I9]
end
variable{i:Nat}
theorem xV{β:Type}{a:List α}{b:List β}{x:α}{y:β}(c:a[i]? = some x)(d:b[i]? = some y):(a.zip b)[i]? = some (x,y):=ψ
def nth[Inhabited α](xs:List α)(i:Nat):α:=xs.getD i default
theorem ar[Inhabited α]{xs:List α}(h:i<xs.length):xs[i]? = some (nth xs i):=by grind [nth]
theorem b6[Inhabited α]{xs:List α}{y:α}(h:xs[i]? = some y):nth xs i=y:=by grind [nth]
theorem aE[Inhabited α]{xs:List α}(h:i<xs.length):nth xs i∈xs:=I3 (ar h)
def db(n:Nat)(p:Nat->Bool):Bool:=(List.range n).all p
variable{n:Nat}
theorem cq{p:Nat->Bool} : db n p=true↔∀j,j<n->p j=true:=by
 unfold db;simp
theorem bT{p:Nat->Bool}(h:db n p=true)(a:p n=true):db (n+1) p=true:=by grind [cq]
theorem cv{p:Nat->Bool}(a:i<n)(b:p i=false):db n p=false:=by grind [cq]
theorem fS{p:Nat->Bool}(h:db n p=true)(a:i<n):p i=true:=cq.1 h i a
def ky(u:Bool)(v:Int):Bool:=decide (0<=v/\v<=999)&&(u || decide (v=0))
def jh(r:List Int)(u:Bool):Bool:=decide (r.length=16)&&r.all (ky u)
def cK(f:aF):Bool:=decide (1<=f.W.length/\f.W.length<=32)&&(decide (f.c.length=f.W.length)&&(f.W.zip f.c).all λq=>jh q.1 q.2)
def jj{f:aF}{r:List Int}{u:Bool}(a:f.W[i]? = some r)(b:f.c[i]? = some u)(c:jh r u=false):cK f=false:=by
 unfold cK;rw[io (p:=λq=>jh q.1 q.2) (xV a b) c];simp
variable{k:Nat}
theorem ul{r:List Int}{u:Bool}{v:Int}(a:r[k]? = some v)(b:ky u v=false):jh r u=false:=by grind [jh]
theorem Fj{f:aF}(h:cK f=true):1<=f.W.length/\f.W.length<=32/\f.c.length=f.W.length:=by grind [cK]
def mS(a:Int)(e:aN):Bool:=decide (0<=e.l/\e.l<=2/\(e.l=0->e.d=0)/\(e.l≠0->0<=e.d/\e.d<a))
def gU(t:aG)(a:Int):Bool:=db t.J.length (λi=>mS a (nth t.J i))&&decide (1<=t.J.length/\t.J.length<=32)
def RS(t:aG)(f:Int)(i:Nat):Bool:=decide ((nth t.J i).l≠0/\(nth t.J i).d=f)
def lf(t:aG)(f:Int)(n:Nat):List Int:=((List.range n).filter (RS t f)).map λ(i:Nat)=>(i:Int)
def pagesOn(t:aG)(f:Int):List Int:=lf t f t.J.length
theorem Dw{t:aG}{f:Int}(h:RS t f n=true):lf t f (n+1)=lf t f n++[(n:Int)]:=by grind [List.range_succ,lf]
theorem HZ{t:aG}{f:Int}(h:RS t f n=false):lf t f (n+1)=lf t f n:=by grind [List.range_succ,lf]
theorem vW(t:aG)(f:Int)(n:Nat):(lf t f n).length<=n:=by grind [lf]
def aC(t:aG)(p:Int):aN:=if 0<=p/\p<t.J.length then nth t.J p.toNat else⟨0,0⟩
def qm(m:aD)(i:Nat):Bool:=nth m.U.c i == decide (0<(pagesOn m.Q (i:Int)).length)
def dd(m:aD):Bool:=(cK m.U&&gU m.Q m.U.c.length)&&db m.U.c.length (qm m)
def aK(k:af):Bool:=(db k.b.length (λi=>decide (0<=nth k.b i))&&dd k.G)&&decide (0<=k.Calls/\k.Calls<=100000/\k.b.length<=40)
def rangeIn(pages:Int)(r:ay):Bool:=decide (1<=r.o/\r.o<=pages/\0<=r.At/\r.At<=pages - r.o)
def gQ(pages:Int)(xs:List ay)(i:Nat):Bool:=rangeIn pages (nth xs i)&&decide (i=0\/(nth xs (i - 1)).At+(nth xs (i - 1)).o<(nth xs i).At)
def bI(pages:Int)(xs:List ay):Bool:=db xs.length (gQ pages xs)&&decide (1<=pages/\pages<=32)
def xB(page:Int)(r:ay):Bool:=decide (r.At<=page)&&decide (page<IntKind.i64.wrap (r.At+r.o))
def lim(k:Int):Int:=if k=0 then 65535 else if k=1 then 255 else if k=2 then 15 else if k=3 then 3 else 0
def slots(k:Int):Int:=if k=0 then 16 else if k=1 then 8 else if k=2 then 4 else if k=3 then 2 else 0
def bc(s:au):Bool:=decide (0<=s.R/\s.R<=31/\0<=s.Z/\s.Z<=3/\0<=s.r/\s.r<=lim s.Z)
def fT(n:Int):Int:=if 9<=n/\n<=1000 then(n+15) / 16 else 0
def dz(l:aB):Bool:=decide (9<=l.a3/\l.a3<=1000/\l.a0=(l.a3+15) / 16/\0<=l.R/\l.R<=32 - l.a0)
def lpgs(l:aB)(n:Nat):List Int:=(List.range n).map λ(i:Nat)=>l.R+i
def pgs(sp:List au)(la:List aB):List Int:=sp.map (·.R)++la.flatMap λl=>lpgs l l.a0.toNat
def bA(sp:List au)(la:List aB):Bool:=(sp.all bc&&la.all dz)&&decide (pgs sp la).Nodup
def dG(s:au)(a:Int):Bool:=bc s&&decide (16*s.R<=a/\a<=16*s.R+15)
def aX(b i:Int):Bool:=decide (0<=b/\0<=i/\i<=15/\b / 2 ^ i.toNat % 2=1)
def bN(l:aB)(a:Int):Bool:=dz l&&decide (16*l.R<=a/\a<=16*l.R+l.a3 - 1)
def csz(k:Int):Int:=if 0<=k/\k<=3 then 2 ^ k.toNat else 0
def jp(s:au)(a:Int):Int × Int:=if dG s a then((a - 16*s.R) / csz s.Z,(a - 16*s.R) % csz s.Z) else(-1,-1)
def re(i:Nat)(s:au)(a:Int):jL:=⟨if aX s.r ((a - 16*s.R) / csz s.Z) then 1 else 2,i,(a - 16*s.R) / csz s.Z,(a - 16*s.R) % csz s.Z⟩
def denotes(sp:List au)(la:List aB)(a:Int):jL:=
 match sp.findIdx? (dG · a) with
 | some i=>re i (nth sp i) a
 | none=>match la.findIdx? (bN · a) with
  | some i=>⟨3,i,0,a - 16*(nth la i).R⟩
  | none=>⟨0,0,0,0⟩
theorem yc{pr:α->Bool}{xs:List α}{y:α}(a:xs[i]? = some y)(b:pr y=true)(c:∀(j:Nat)(z:α),j<i->xs[j]? = some z->pr z=false):xs.findIdx? pr=some i:=by grind [C9]
theorem FO{pr:α->Bool}{xs:List α}(a:xs.length<=i)(b:∀(j:Nat)(z:α),j<i->xs[j]? = some z->pr z=false):xs.findIdx? pr=none:=
 List.findIdx?_eq_none_iff.2 λz c=>by grind [List.mem_iff_getElem?]
theorem fC{pr:α->Bool}{xs:List α}{y:α}(a:xs[i]? = some y)(b:pr y=false)(c:∀(j:Nat)(z:α),j<i->xs[j]? = some z->pr z=false):∀(j:Nat)(z:α),j<i+1->xs[j]? = some z->pr z=false:=ψ
def eP(pr:α->Bool)(xs:List α):Int:=match xs.findIdx? pr with|some i=>(i:Nat)|none=>-1
theorem gd{pr:α->Bool}{xs:List α}{y:α}(a:xs[i]? = some y)(b:pr y=true)(c:∀(j:Nat)(z:α),j<i->xs[j]? = some z->pr z=false):eP pr xs=(i:Nat):=by
 unfold eP;rw[yc a b c]
theorem iA{pr:α->Bool}{xs:List α}(a:xs.length<=i)(b:∀(j:Nat)(z:α),j<i->xs[j]? = some z->pr z=false):eP pr xs = -1:=by grind [FO,eP]
theorem o9(pr:α->Bool)(xs:List α):decide (eP pr xs≥0)=xs.any pr:=by grind [eP]
def meshable(s t:au):Bool:=(bc s&&bc t)&&decide (s.Z=t.Z/\s.R≠t.R/\s.r.toNat &&& t.r.toNat=0)
def oQ(n:Int)(p:aT):Bool:=decide (0<=p.To/\p.To<=n - 1/\0<=p.Addr)
def Uf(z:Int):Bool:=decide (0<=z)
def iq(m:aM)(i:Nat):Bool:=(nth m.V i).all (oQ m.V.length)&&(nth m.k i).all Uf
def bP(m:aM):Nat->Int
 | 0=>0
 | i+1=>bP m i+((nth m.V i).length+(nth m.k i).length)
def dE(m:aM):Bool:=(decide (1<=m.V.length/\m.V.length<=4/\m.k.length=m.V.length)&&db m.V.length (iq m))&&decide (bP m m.V.length<=30)
def bp(m:aM):List Int:=if dE m then(m.V.flatMap λl=>l.map (·.Addr))++m.k.flatten else []
def fU(a:Int)(y:aL):Bool:=decide (y.Addr=a)
def lH(xs:List aL)(i:Nat):Bool:=decide (0<=(nth xs i).Z/\(nth xs i).Z<=3/\0<=(nth xs i).Addr/\0<=(nth xs i).a8/\(i=0\/(nth xs (i - 1)).a8<=(nth xs i).a8))&&!(xs.take i).any (fU (nth xs i).Addr)
def quarCells(xs:List aL):Nat->Int
 | 0=>0
 | i+1=>quarCells xs i+csz (nth xs i).Z
def jQ(q:aZ):Bool:=db q.u.length (lH q.u)&&decide (0<=q.b1/\q.b1<=500/\quarCells q.u q.u.length<=q.b1)
def pq(xs:List Int)(i:Nat):Bool:=decide (0<=nth xs i/\nth xs i<=15/\(i=0\/nth xs (i - 1)<nth xs i))
def fH(p:aV):Bool:=db p.W.length (pq p.W)&&decide (0<=p.w/\p.w<=31/\0<=p.y/\p.y<=31/\p.w≠p.y)
def kg(j:bk):Bool:=fH j.Y&&decide (0<=j.a1/\j.a1<=5/\0<=j.g/\j.g<=j.Y.W.length)
def xa(j:bk):Bool:=decide (j.Y.w=0/\j.Y.y=0/\j.Y.W.length=0/\j.a1=0/\j.g=0)
def aQ(h:ac)(p:Int):List Int:=if(aC h.K.G.Q p).l=0 then [] else pagesOn h.K.G.Q (aC h.K.G.Q p).d
def nC(p:Int)(s:au):Bool:=decide (s.R=p)
def ic(h:ac)(p:Int):Int:=eP (nC p) h.H
def bQ(n:Int):Int:=if n<1 then -1 else if n<=1 then 0 else if n<=2 then 1 else if n<=4 then 2 else if n<=8 then 3 else -1
set_option maxRecDepth 20000
set_option maxHeartbeats 2000000
def aS(n lo a:Int):zzA 110 false [.val none [I n],.val none [I lo],.val none [I a]] .one [B (decide (lo<=n/\n<=a))]:=by
 refine fO 15 [] Tryz.func110 rfl ?_
 repeat'(first|refine gP ?_|with_reducible refine Bf.D (λb=>?_) (λb=>?_))
 all_goals exact I1 (λz=>[B z]) (by simp;try omega)
def aO(n lo a:Int):zzA 63 false [.val none [I n],.val none [I lo],.val none [I a]] .one [B (decide (lo<=n/\n<=a))]:=by
 refine fO 15 [] Tryz.func63 rfl ?_
 repeat'(first|refine gP ?_|with_reducible refine Bf.D (λb=>?_) (λb=>?_))
 all_goals exact I1 (λz=>[B z]) (by simp;try omega)
def fK(k:Int):zzA 232 false [.val none [I k]] .one [B (decide (0<=k/\k<=3))]:=by
 refine fO 5 [] Tryz.func232 rfl ?_
 repeat'(first|refine gP ?_|refine CA (aO k 0 3) ?_)
 rfl
theorem eC(k:Int):zzA 106 false [.val none [I k]] .one [I (csz k)]:=by
 by_cases b:0<=k/\k<=3
 ·obtain rfl|rfl|rfl|rfl:k=0\/k=1\/k=2\/k=3:=ω
  all_goals
   refine fO 8 [] Tryz.func106 rfl ?_
   repeat'(first|refine gE ?_|with_reducible refine Bf.D (λa=>?_) (λa=>?_)|refine CA (fK _) ?_|refine CP (by decide) ?_|refine CO rfl ?_)
   exact I1 (λz=>[I z]) (by decide)
 refine fO 8 [] Tryz.func106 rfl ?_
 repeat'(first|refine gE ?_|with_reducible refine Bf.D (λa=>?_) (λa=>?_)|refine CA (fK _) ?_)
 exact I1 (λz=>[I z]) (by grind [csz])
theorem gc(k:Int):zzA 361 false [.val none [I k]] .one [I (csz k)]:=by
 by_cases b:0<=k/\k<=3
 ·obtain rfl|rfl|rfl|rfl:k=0\/k=1\/k=2\/k=3:=ω
  all_goals
   refine fO 9 [] Tryz.func361 rfl ?_
   repeat'(first|refine gE ?_|with_reducible refine Bf.D (λa=>?_) (λa=>?_)|refine CA (aS _ 0 3) ?_|refine CP (by decide) ?_|refine CO rfl ?_)
   exact I1 (λz=>[I z]) (by decide)
 refine fO 9 [] Tryz.func361 rfl ?_
 repeat'(first|refine gE ?_|with_reducible refine Bf.D (λa=>?_) (λa=>?_)|refine CA (aS _ 0 3) ?_)
 exact I1 (λz=>[I z]) (by grind [csz])
theorem oA(xs:List Int)(a:Int)(h:xs.length<=9223372036854775807):zzA 353 false [.val none (aH .O xs),.val none [I a]] .one [B (decide (a∈xs))]:=by
 refine fO 18 [] Tryz.func353 rfl ?_
 refine ZP ?_
 refine CH (ι:=Nat) (λi=>[(0,.F .one (aH .O xs)),(1,.F .one [I a]),(5,.F .one [I (i:Nat)])]) (λi=>i<=xs.length/\a∉xs.take i) (λi=>xs.length - i) 0 ?_ ψ λi c=>?_
 ·exact wB
 obtain⟨c,d⟩:=c;by_cases b:i<xs.length
 ·obtain⟨y,e⟩ : ∃y,xs[i]? = some y:=⟨_,X3 b⟩
  repeat'(first|refine gE ?_|with_reducible refine Bf.E (λg=>?_) (λg=>?_))
  ·exact I1 (λz=>[B z]) ψ
  (conv=>whnf)
  refine CF (i+1) ⟨ω,?_⟩ ω ?_
  ·grind [X7]
  exact wB
 refine ZE ?_
 rw[I9 ω]at d;exact I1 (λz=>[B z]) ψ
set_option maxHeartbeats 4000000
def good(k:Int)(s:List Int)(a:Int):Prop:=0<=a/\a<=511/\a.tmod (csz k)=0/\a∉s
instance (k:Int) (s:List Int) (a:Int):Decidable (good k s a):=by unfold good;exact inferInstance
def tM(k:Int):List Int->List Int->Option (List Int)
 | s,[]=>some s
 | s,a::l=>if good k s a then tM k (s++[a]) l else none
def fN(k:Nat)(s l:List Int):Option (List Int):=if l.length<=8/\k<=3 then tM k s l else none
def hB:Nat->List Int->List (List Int)->Option (List Int)
 | _,s,[]=>some s
 | k,s,l::ls=>(fN k s l).bind λa=>hB (k+1) a ls
def bH(c:ax):Bool:=decide (c.T.length=4)&&(hB 0 [] c.T).isSome
theorem sO(k:Int):∀(a s b:List Int),tM k s (a++b)=(tM k s a).bind λc=>tM k c b
 | [],s,b=>rfl
 | x::a,s,b=>by
  simp only[List.cons_append,tM];split
  ·exact sO k a _ b
  rfl
theorem qT:∀(a:List (List Int))(k:Nat)(s:List Int)(b:List (List Int)),hB k s (a++b)=(hB k s a).bind λc=>hB (k+a.length) c b
 | [],k,s,b=>rfl
 | l::a,k,s,b=>by
  simp only[List.cons_append,hB,Option.bind_assoc,List.length_cons]
  congr 1;funext c
  rw[qT a (k+1) c b,show k+1+a.length=k+(a.length+1) by omega]
variable{l:List Int}
theorem My{k:Int}{b s:List Int}{j:Nat}(c:l[j]? = some a)(h:tM k b (l.take j)=some s)(d:good k s a):tM k b (l.take (j+1))=some (s++[a]):=by grind [X7,sO,tM]
theorem QF{b s:List Int}{j:Nat}(c:l[j]? = some a)(h:tM k b (l.take j)=some s)(d:¬good k s a):fN k b l=none:=by
 unfold fN;split
 all_goals grind [List.drop_eq_getElem_cons,List.take_append_drop,sO,tM]
theorem Fw{k:Int} : ∀{l s b:List Int},tM k s l=some b->b.length=s.length+l.length
 | [],s,b,h=>by grind [tM]
 | a::l,s,b,h=>by
  simp only[tM]at h;split at h
  ·have:=Fw h;grind
  cases h
theorem vP{a:List (List Int)}{s:List Int}(b:a[i]? = some l)(h:hB 0 [] (a.take i)=some s):hB 0 [] (a.take (i+1))=fN i s l:=by
 have c:=(Y3.1 b).1;rw[X7,b,Option.toList_some,qT,h];simp only[Option.bind_some,hB,z9,Z2,Nat.min_eq_left (Nat.le_of_lt c)]
 grind
theorem lX{c:ax}{s:List Int}(a:c.T[i]? = some l)(h:hB 0 [] (c.T.take i)=some s)(b:fN i s l=none):bH c=false:=by
 have d:=vP a h
 grind [List.take_append_drop,qT,bH]
theorem JA:∀{b:List (List Int)}{k:Nat}{s a:List Int},hB k s b=some a->a.length<=s.length+8*b.length
 | [],k,s,a,h=>by grind [hB]
 | l::b,k,s,a,h=>by
  simp only[hB]at h;unfold fN at h;split at h
  ·cases c:tM k s l with
   | none=>grind
   | some d=>
    rw[c]at h;have e:=Fw c;have f:=JA (show hB (k+1) d b=some a from h)
    grind
  cases h
def P6(h:i<=3):csz (i:Int)≠0:=by
 obtain rfl|rfl|rfl|rfl:i=0\/i=1\/i=2\/i=3:=ω
 all_goals decide
def cR : ∀r∈l.map (rI .own),r.length=1:=by
 intro r a;obtain⟨z,-,rfl⟩:=Y5.1 a;rfl
theorem ug(c:ax)(t:ax.sml c):zzA 214 false [.val (some 1) (ax.enc .O c)] .one [B (bH c)]:=by
 have G:=t.1;refine fO 60 [] Tryz.func214 rfl ?_
 repeat'(first|refine gP ?_|with_reducible refine Bf.N (λe=>?_) (λe=>?_))
 ·exact I1 (λz=>[B z]) (by grind [bH])
 have H:c.T.length=4:=ω
 (conv=>whnf)
 refine CH (ι:=Nat × List Int) (λi=>[(1,.F .box (ax.enc .O c)),(3,.F .one (aH .own i.2)),(4,.F .one [I (i.1:Nat)])]) (λi=>i.1<=4/\hB 0 [] (c.T.take i.1)=some i.2) (λi=>4 - i.1) (0,[]) ?_ ⟨C1 _,rfl⟩ λi k=>?_
 ·exact wB
 obtain⟨i,s⟩:=i;obtain⟨k,b⟩:=k;simp only at k b |-;have g:=JA b;rw[Z2]at g;simp only[List.length_nil]at g;by_cases u:i<4
 ·obtain⟨l,d⟩ : ∃l,c.T[i]? = some l:=(ψ)
  have w:l.length<=1048576:=t.2 l ψ
  repeat'(first|refine gE ?_|with_reducible refine Bf.D (λe=>?_) (λe=>?_))
  ·exact I1 (λz=>[B z]) (lX d b (by grind [fN])).symm
  have E:l.length<=8:=ω
  (conv=>whnf)
  refine CH (ι:=Nat × List Int) (λj=>[(1,.F .box (ax.enc .O c)),(3,.F .one (aH .own j.2)),(4,.F .one [I (i:Nat)]),(5,.F .one [I (j.1:Nat)])]) (λj=>j.1<=l.length/\tM i s (l.take j.1)=some j.2) (λj=>l.length - j.1) (0,s) ?_ ⟨C1 _,rfl⟩ λj n=>?_
  ·exact wB
  obtain⟨j,o⟩:=j;obtain⟨n,a⟩:=n;simp only at n a |-;have h:=Fw a;rw[Z2]at h;by_cases p:j<l.length
  ·obtain⟨y,q⟩ : ∃y,l[j]? = some y:=⟨_,X3 p⟩
   repeat'(first|refine gE ?_|with_reducible (first|refine Bf.D (λe=>?_) (λe=>?_)|refine Bf.N (λe=>?_) (λe=>?_))|refine CA (aS y 0 511) ?_|refine CA (gc (i:Nat)) ?_|refine CP (P6 ω) ?_|refine CU rfl ?_|refine CJ (oA o y ω) ⟨⟨rfl,dK _⟩,⟨rfl,rfl⟩,trivial⟩ ?_|refine CS cR (λr F=>by rw[I2.1 F];rfl) (by simp[bm,eX]) (by simp;omega) (by simp only[Z1];exact v8 (by simp;omega) (by decide)) rfl ?_)
   all_goals first
    | exact I1 (λz=>[B z]) (lX d b (QF q a λ⟨J,K,L,M⟩=>by first|contradiction|omega)).symm
    | ((conv=>whnf)
       refine CF (j+1,o++[y]) ⟨(by simp only;omega),My q a ⟨ω,ω,(by assumption),(by assumption)⟩⟩ (by simp only;omega) ?_
       (repeat'(first|exact trivial|rfl|exact CC rfl (CC (I1 (C.s dY.own) (by simp[rI])) trivial)|refine CC ?_ ?_)))
  refine ZE ?_
  rw[I9 ω]at a;refine CF (i+1,o) ⟨(by simp only;omega),(by rw[vP d b];grind [fN])⟩ (by simp only;omega) ?_;exact wB
 refine ZE ?_
 rw[I9 ω]at b;exact I1 (λz=>[B z]) (by grind [bH])
def gg(s:List Int):List (Int × Value):=s.map λa=>(a,.bool true)
theorem pn(a:Int):∀(s:List Int),mlook (gg s) a (.bool false)=.bool (decide (a∈s))
 | []=>by simp[gg,mlook]
 | x::s=>by
  have b:=pn a s
  grind [gg,mlook]
theorem vQ{a:Int} : ∀{s:List Int},a∉s->gg (s++[a])=mput (gg s) a (.bool true)
 | [],_=>rfl
 | x::s,h=>by
  simp only[List.mem_cons,not_or]at h;have b:=vQ h.2
  grind [gg,mput]
theorem uN(c:ax)(p:ax.sml c):zzA 80 false [.val (some 1) (ax.enc .O c)] .one [B (bH c)]:=by
 have w:=p.1;refine fO 54 [] Tryz.func80 rfl ?_
 refine ZP ?_
 refine CH (ι:=Nat × List Int) (λi=>[(1,.F .box (ax.enc .O c)),(3,.F .one [.m (gg i.2)]),(10,.F .one (dX .O c.T)),(11,.F .one [I c.T.length]),(12,.F .one [I (i.1:Nat)])]) (λi=>i.1<=c.T.length/\hB 0 [] (c.T.take i.1)=some i.2) (λi=>c.T.length - i.1) (0,[]) ?_ ⟨C1 _,rfl⟩ λi g=>?_
 ·exact wB
 obtain⟨i,s⟩:=i;obtain⟨g,d⟩:=g;simp only at g d |-;by_cases q:i<c.T.length
 ·obtain⟨l,b⟩ : ∃l,c.T[i]? = some l:=(ψ)
  have r:l.length<=1048576:=p.2 l ψ
  repeat'(first|refine gE ?_|with_reducible refine Bf.D (λe=>?_) (λe=>?_)|refine CA (fK (i:Nat)) ?_)
  ·exact I1 (λz=>[B z]) (lX b d (by grind [fN])).symm
  rotate_left
  ·exact I1 (λz=>[B z]) (lX b d (by grind [fN])).symm
  have t:l.length<=8:=ω
  have u:i<=3:=ω
  (conv=>whnf)
  refine CH (ι:=Nat × List Int) (λj=>[(1,.F .box (ax.enc .O c)),(3,.F .one [.m (gg j.2)]),(4,.F .one [I (i:Nat)]),(10,.F .one (dX .O c.T)),(11,.F .one [I c.T.length]),(12,.F .one [I (i:Nat)]),(25,.F .one (aH .O l)),(26,.F .one [I l.length]),(27,.F .one [I (j.1:Nat)])]) (λj=>j.1<=l.length/\tM i s (l.take j.1)=some j.2) (λj=>l.length - j.1) (0,s) ?_ ⟨C1 _,rfl⟩ λj h=>?_
  ·exact wB
  obtain⟨j,k⟩:=j;obtain⟨h,a⟩:=h;simp only at h a |-;by_cases n:j<l.length
  ·obtain⟨y,o⟩ : ∃y,l[j]? = some y:=⟨_,X3 n⟩
   repeat'(first|refine gE ?_|with_reducible (first|refine Bf.D (λe=>?_) (λe=>?_)|refine Bf.N (λe=>?_) (λe=>?_))|refine CA (aO y 0 511) ?_|refine CA (eC (i:Nat)) ?_|refine CP (P6 ω) ?_|refine CU rfl ?_|refine Ml.mk (pn y k) ?_|refine Mu.mk (vQ (by assumption)) ?_)
   all_goals first
    | exact I1 (λz=>[B z]) (lX b d (QF o a λ⟨C,E,F,G⟩=>by first|contradiction|omega)).symm
    | ((conv=>whnf)
       refine CF (j+1,k++[y]) ⟨(by simp only;omega),My o a ⟨ω,ω,(by assumption),(by assumption)⟩⟩ (by simp only;omega) ?_
       (exact wA))
  refine ZE ?_
  rw[I9 ω]at a;refine CF (i+1,k) ⟨(by simp only;omega),(by rw[vP b d];grind [fN])⟩ (by simp only;omega) ?_;exact wB
 refine ZE ?_
 grind [Z0,bH]
theorem L8:∀{b:List (List Int)}{k:Nat}{s c:List Int},hB k s b=some c->∀l∈b,l.length<=8
 | [],k,s,c,h,l,a=>by simp at a
 | x::b,k,s,c,h,l,a=>by
  simp only[hB]at h;unfold fN at h;split at h
  ·rename_i d
   rcases List.mem_cons.1 a with rfl|a
   ·exact d.1
   cases e:tM k s x with
   | none=>grind
   | some f=>rw[e]at h;exact L8 (show hB (k+1) f b=some c from h) l a
  cases h
theorem xg{c:ax}(h:bH c=true):c.T.length=4/\∀l∈c.T,l.length<=8:=by grind [Option.isSome_iff_exists,L8,bH]
theorem sj(f:aF)(h:aF.sml f):zzA 86 false [.val (some 2) (aF.enc .O f)] .one [B (cK f)]:=by
 have C:=h.1.1;have E:f.c.length<=1048576:=h.2;refine fO 61 [] Tryz.func86 rfl ?_
 repeat'(first|refine gP ?_|with_reducible (first|refine Bf.D (λa=>?_) (λa=>?_)|refine Bf.N (λa=>?_) (λa=>?_))|refine CA (aS f.W.length 1 32) ?_)
 ·exact I1 (λz=>[B z]) (by grind [cK])
 rotate_left
 ·exact I1 (λz=>[B z]) (by grind [cK])
 have t:1<=f.W.length/\f.W.length<=32:=ω
 have w:f.c.length=f.W.length:=ω
 (conv=>whnf)
 refine CH (ι:=Nat) (λi=>[(1,.F .box (aF.enc .O f)),(3,.F .one [I (i:Nat)])]) (λi=>i<=f.W.length/\((f.W.zip f.c).take i).all (λq=>jh q.1 q.2)=true) (λi=>f.W.length - i) 0 ?_ ψ λi j=>?_
 ·exact wB
 obtain⟨j,y⟩:=j;by_cases g:i<f.W.length
 ·obtain⟨r,c⟩ : ∃r,f.W[i]? = some r:=⟨_,X3 g⟩
  obtain⟨u,b⟩ : ∃u,f.c[i]? = some u:=⟨_,X3 ω⟩
  repeat'(first|refine gE ?_|with_reducible refine Bf.N (λa=>?_) (λa=>?_))
  ·exact I1 (λz=>[B z]) (jj c b (by grind [jh])).symm
  have l:r.length=16:=ω
  (conv=>whnf)
  refine CH (ι:=Nat) (λk=>[(1,.F .box (aF.enc .O f)),(3,.F .one [I (i:Nat)]),(4,.F .one [I (k:Nat)])]) (λk=>k<=16/\(r.take k).all (ky u)=true) (λk=>16 - k) 0 ?_ ψ λk n=>?_
  ·exact wB
  obtain⟨n,e⟩:=n;by_cases o:k<16
  ·obtain⟨v,d⟩ : ∃v,r[k]? = some v:=⟨_,X3 ω⟩
   cases u with
   | true=>
    repeat'(first|refine gE ?_|with_reducible (first|refine Bf.D (λa=>?_) (λa=>?_)|refine Bf.N (λa=>?_) (λa=>?_))|refine CA (aS v 0 999) ?_)
    all_goals first
     | exact I1 (λz=>[B z]) (jj c b (ul d (by first|(unfold ky;rw[Z0 ω];rfl)|(unfold ky;rw[Z0 (p:=v=0) ω];simp)))).symm
     | ((conv=>whnf)
        refine CF (ι:=Nat) (k+1) ⟨ω,cO d e (by unfold ky;first|(rw[O0 ω];rfl)|(rw[O0 (p:=0<=v/\v<=999) ω,O0 (p:=v=0) ω];rfl))⟩ ω ?_
        (exact wA))
   | false=>
    repeat'(first|refine gE ?_|with_reducible (first|refine Bf.D (λa=>?_) (λa=>?_)|refine Bf.N (λa=>?_) (λa=>?_))|refine CA (aS v 0 999) ?_)
    all_goals first
     | exact I1 (λz=>[B z]) (jj c b (ul d (by first|(unfold ky;rw[Z0 ω];rfl)|(unfold ky;rw[Z0 (p:=v=0) ω];simp)))).symm
     | ((conv=>whnf)
        refine CF (ι:=Nat) (k+1) ⟨ω,cO d e (by unfold ky;first|(rw[O0 ω];rfl)|(rw[O0 (p:=0<=v/\v<=999) ω,O0 (p:=v=0) ω];rfl))⟩ ω ?_
        (exact wA))
  refine ZE ?_
  refine CF (i+1) ⟨ω,cO (xV c b) y (by grind [jh])⟩ ω ?_;exact wB
 refine ZE ?_
 exact I1 (λz=>[B z]) (by grind [List.length_zip,cK])
theorem nO(f:aF)(g:aF.sml f):zzA 242 false [.val (some 2) (aF.enc .O f)] .one [B (cK f)]:=by
 have C:=g.1.1;have E:f.c.length<=1048576:=g.2;refine fO 55 [] Tryz.func242 rfl ?_
 repeat'(first|refine gP ?_|with_reducible (first|refine Bf.D (λa=>?_) (λa=>?_)|refine Bf.N (λa=>?_) (λa=>?_))|refine CA (aO f.W.length 1 32) ?_)
 ·exact I1 (λz=>[B z]) (by grind [cK])
 rotate_left
 ·exact I1 (λz=>[B z]) (by grind [cK])
 have p:1<=f.W.length/\f.W.length<=32:=ω
 have t:f.c.length=f.W.length:=ω
 (conv=>whnf)
 refine CH (ι:=Nat) (λi=>[(1,.F .box (aF.enc .O f)),(22,.F .one (dX .O f.W)),(23,.F .one [I (f.W.length)]),(24,.F .one [I ((i:Nat):Int)])]) (λi=>i<=f.W.length/\((f.W.zip f.c).take i).all (λq=>jh q.1 q.2)=true) (λi=>f.W.length - i) (0) ?_ ψ λi j=>?_
 ·exact wB
 obtain⟨j,w⟩:=j;by_cases h:i<f.W.length
 ·obtain⟨r,c⟩ : ∃r,f.W[i]? = some r:=⟨_,X3 h⟩
  obtain⟨u,b⟩ : ∃u,f.c[i]? = some u:=⟨_,X3 ω⟩
  have y:r.length<=1048576:=g.1.2 r ψ
  repeat'(first|refine gE ?_|with_reducible refine Bf.N (λa=>?_) (λa=>?_))
  ·exact I1 (λz=>[B z]) (jj c b (by grind [jh])).symm
  have l:r.length=16:=ω
  (conv=>whnf)
  refine CH (ι:=Nat) (λk=>[(1,.F .box (aF.enc .O f)),(3,.F .one [I ((i:Nat):Int)]),(22,.F .one (dX .O f.W)),(23,.F .one [I (f.W.length)]),(24,.F .one [I ((i:Nat):Int)]),(32,.F .one (aH .O r)),(33,.F .one [I (r.length)]),(34,.F .one [I ((k:Nat):Int)])]) (λk=>k<=r.length/\(r.take k).all (ky u)=true) (λk=>r.length - k) (0) ?_ ψ λk n=>?_
  ·exact wB
  obtain⟨n,e⟩:=n;by_cases o:k<r.length
  ·obtain⟨v,d⟩ : ∃v,r[k]? = some v:=⟨_,X3 ω⟩
   cases u with
   | true=>
    repeat'(first|refine gE ?_|with_reducible (first|refine Bf.D (λa=>?_) (λa=>?_)|refine Bf.N (λa=>?_) (λa=>?_))|refine CA (aO v 0 999) ?_)
    all_goals first
     | exact I1 (λz=>[B z]) (jj c b (ul d (by unfold ky;grind))).symm
     | ((conv=>whnf)
        refine CF (ι:=Nat) (k+1) ⟨ω,cO d e (by unfold ky;grind)⟩ ω ?_
        (exact wA))
   | false=>
    repeat'(first|refine gE ?_|with_reducible (first|refine Bf.D (λa=>?_) (λa=>?_)|refine Bf.N (λa=>?_) (λa=>?_))|refine CA (aO v 0 999) ?_)
    all_goals first
     | exact I1 (λz=>[B z]) (jj c b (ul d (by unfold ky;grind))).symm
     | ((conv=>whnf)
        refine CF (ι:=Nat) (k+1) ⟨ω,cO d e (by unfold ky;grind)⟩ ω ?_
        (exact wA))
  refine ZE ?_
  refine CF (i+1) ⟨ω,cO (xV c b) w (by grind [jh])⟩ ω ?_;exact wB
 refine ZE ?_
 exact I1 (λz=>[B z]) (by grind [List.length_zip,cK])
theorem F7(t:aG)(b:Int)(e:aG.sml t):zzA 469 false [.val (some 1) (aG.enc .O t),.val none [I b]] .one [B (gU t b)]:=by
 have k:=e.1;refine fO 54 [] Tryz.func469 rfl ?_
 refine ZP ?_
 refine CH (ι:=Nat) (λi=>[(1,.F .one [I (b)]),(2,.F .box (aG.enc .O t)),(5,.F .one [I ((i:Nat):Int)])]) (λi=>i<=t.J.length/\db i (λj=>mS b (nth t.J j))=true) (λi=>t.J.length - i) 0 ?_ ⟨C1 _,rfl⟩ λi c=>?_
 ·exact wB
 obtain⟨c,g⟩:=c;by_cases d:i<t.J.length
 ·have h:=ar d
  repeat'(first|refine gE ?_|with_reducible (first|refine Bf.D (λa=>?_) (λa=>?_)|refine Bf.N (λa=>?_) (λa=>?_)|refine Bf.E (λa=>?_) (λa=>?_))|refine CA (aS _ 0 2) ?_)
  all_goals first
   | exact I1 (λz=>[B z]) ((by symm;unfold gU;rw[cv d (Z0 ψ)];rfl))
   | ((conv=>whnf);refine CF (i+1) ⟨ω,bT g (O0 ψ)⟩ ω ?_;(exact wB))
 repeat'(first|refine gE ?_|refine CA (aS _ 1 32) ?_)
 obtain rfl:i=t.J.length:=ω
 exact I1 (λz=>[B z]) ((by grind [gU]))
theorem Em(t:aG)(b:Int)(e:aG.sml t):zzA 243 false [.val (some 1) (aG.enc .O t),.val none [I b]] .one [B (gU t b)]:=by
 have k:=e.1;refine fO 49 [] Tryz.func243 rfl ?_
 refine ZP ?_
 refine CH (ι:=Nat) (λi=>[(1,.F .one [I (b)]),(2,.F .box (aG.enc .O t)),(8,.F .one (eO .O t.J)),(9,.F .one [I (t.J.length)]),(10,.F .one [I ((i:Nat):Int)])]) (λi=>i<=t.J.length/\db i (λj=>mS b (nth t.J j))=true) (λi=>t.J.length - i) 0 ?_ ⟨C1 _,rfl⟩ λi c=>?_
 ·exact wB
 obtain⟨c,g⟩:=c;by_cases d:i<t.J.length
 ·have h:=ar d
  repeat'(first|refine gE ?_|with_reducible (first|refine Bf.D (λa=>?_) (λa=>?_)|refine Bf.N (λa=>?_) (λa=>?_)|refine Bf.E (λa=>?_) (λa=>?_))|refine CA (aO _ 0 2) ?_)
  all_goals first
   | exact I1 (λz=>[B z]) ((by symm;unfold gU;rw[cv d (Z0 ψ)];rfl))
   | ((conv=>whnf);refine CF (i+1) ⟨ω,bT g (O0 ψ)⟩ ω ?_;(exact wB))
 repeat'(first|refine gE ?_|refine CA (aO _ 1 32) ?_)
 obtain rfl:i=t.J.length:=ω
 exact I1 (λz=>[B z]) ((by grind [gU]))
theorem iu(t:aG)(f:Int)(c:aG.sml t):zzA 470 false [.val (some 1) (aG.enc .O t),.val none [I f]] .one (aH .own (pagesOn t f)):=by
 have j:=c.1;refine fO 37 [] Tryz.func470 rfl ?_ (.inr (bM _))
 refine ZP ?_
 refine CH (ι:=Nat) (λi=>[(1,.F .one [I (f)]),(2,.F .box (aG.enc .O t)),(5,.F .one (aH .own (lf t f i))),(6,.F .one [I ((i:Nat):Int)])]) (λi=>i<=t.J.length) (λi=>t.J.length - i) (0) ?_ (C1 _) λi k=>?_
 ·exact wB
 have d:=vW t f i;by_cases e:i<t.J.length
 ·have g:=ar e
  repeat'(first|refine gE ?_|with_reducible (first|refine Bf.D (λb=>?_) (λb=>?_)|refine Bf.N (λb=>?_) (λb=>?_)|refine Bf.E (λb=>?_) (λb=>?_))|refine CS cR (λr h=>by rw[I2.1 h];rfl) (by simp[bm,eX]) (by simp;omega) (by simp only[Z1];exact v8 (by simp;omega) (by decide)) rfl ?_)
  all_goals first
   |(have a:RS t f i=true:=O0 ψ
     (conv=>whnf)
     refine CF (i+1) ω ω ?_;rw[Dw a]
     (repeat'(first|exact trivial|rfl|exact CC rfl (CC (I1 (C.s dY.own) (by simp[rI])) trivial)|refine CC ?_ ?_)))
   |(have a:RS t f i=false:=Z0 ψ
     (conv=>whnf)
     refine CF (i+1) ω ω ?_;rw[HZ a]
     (exact wA))
 refine ZE ?_
 obtain rfl:i=t.J.length:=ω
 rfl
theorem lA(t:aG)(f:Int)(c:aG.sml t):zzA 244 false [.val (some 1) (aG.enc .O t),.val none [I f]] .one (aH .own (pagesOn t f)):=by
 have j:=c.1;refine fO 32 [] Tryz.func244 rfl ?_ (.inr (bM _))
 refine ZP ?_
 refine CH (ι:=Nat) (λi=>[(1,.F .one [I (f)]),(5,.F .one (aH .own (lf t f i))),(10,.F .one (eO .O t.J)),(11,.F .one [I (t.J.length)]),(12,.F .one [I ((i:Nat):Int)])]) (λi=>i<=t.J.length) (λi=>t.J.length - i) (0) ?_ (C1 _) λi k=>?_
 ·exact wB
 have d:=vW t f i;by_cases e:i<t.J.length
 ·have g:=ar e
  repeat'(first|refine gE ?_|with_reducible (first|refine Bf.D (λb=>?_) (λb=>?_)|refine Bf.N (λb=>?_) (λb=>?_)|refine Bf.E (λb=>?_) (λb=>?_))|refine CS cR (λr h=>by rw[I2.1 h];rfl) (by simp[bm,eX]) (by simp;omega) (by simp only[Z1];exact v8 (by simp;omega) (by decide)) rfl ?_)
  all_goals first
   |(have a:RS t f i=true:=O0 ψ
     (conv=>whnf)
     refine CF (i+1) ω ω ?_;rw[Dw a]
     (repeat'(first|exact trivial|rfl|exact CC rfl (CC (I1 (C.s dY.own) (by simp[rI])) trivial)|refine CC ?_ ?_)))
   |(have a:RS t f i=false:=Z0 ψ
     (conv=>whnf)
     refine CF (i+1) ω ω ?_;rw[HZ a]
     (exact wA))
 refine ZE ?_
 obtain rfl:i=t.J.length:=ω
 rfl
def fZ(t:aG)(p:Int)(b:aG.sml t):zzA 34 false [.val (some 1) (aG.enc .O t),.val none [I p]] .agg (aN.enc .own (aC t p)):=by
 have d:=b.1;refine fO 18 [] Tryz.func34 rfl ?_ (.inr (aN.enc_fr _));by_cases a:0<=p/\p<t.J.length
 ·have c:=ar (xs:=t.J) (i:=p.toNat) ω
  repeat'(first|refine gE ?_|refine CA (aS _ 0 _) ?_|refine CM a.1 (aa c) ?_)
  all_goals(unfold aC;rw[CG a];rfl)
 repeat'(first|refine gE ?_|refine CA (aS _ 0 _) ?_)
 all_goals(unfold aC;rw[CD a];rfl)
def eE(t:aG)(p:Int)(b:aG.sml t):zzA 104 false [.val (some 1) (aG.enc .O t),.val none [I p]] .agg (aN.enc .own (aC t p)):=by
 have d:=b.1;refine fO 18 [] Tryz.func104 rfl ?_ (.inr (aN.enc_fr _));by_cases a:0<=p/\p<t.J.length
 ·have c:=ar (xs:=t.J) (i:=p.toNat) ω
  repeat'(first|refine gE ?_|refine CA (aO _ 0 _) ?_|refine CM a.1 (aa c) ?_)
  all_goals(unfold aC;rw[CG a];rfl)
 repeat'(first|refine gE ?_|refine CA (aO _ 0 _) ?_)
 all_goals(unfold aC;rw[CD a];rfl)
def tq(t:aG)(f:Int):(pagesOn t f).length<=t.J.length:=vW ..
theorem ql(m:aD)(a:aD.sml m):zzA 350 false [.val (some 3) (aD.enc .O m)] .one [B (dd m)]:=by
 have q:m.U.c.length<=1048576:=a.1.2;have k:m.U.W.length<=1048576:=a.1.1.1;have b:=sj m.U a.1;have c:=F7 m.Q m.U.W.length a.2;cases d:cK m.U with
 | false=>
  rw[d]at b;refine fO 39 [(6,13,[26,27,28,29,30,31,32,33,34,35,36,37,38])] Tryz.func350 rfl ?_
  refine ZP ?_
  exact I1 (λz=>[B z]) ((by grind [dd]))
 | true=>
  have g:=Fj d;rw[d]at b;cases e:gU m.Q m.U.c.length with
  | false=>
   rw[show(m.U.W.length:Int)=m.U.c.length by omega,e]at c;refine fO 39 [(6,13,[26,27,28,29,30,31,32,33,34,35,36,37,38])] Tryz.func350 rfl ?_
   repeat'(first|refine gP ?_|refine CA ((show(m.U.W.length:Int)=m.U.c.length by omega) ▸ c) ?_)
   exact I1 (λz=>[B z]) ((by grind [dd]))
  | true=>
   rw[show(m.U.W.length:Int)=m.U.c.length by omega,e]at c;refine fO 39 [(6,13,[26,27,28,29,30,31,32,33,34,35,36,37,38])] Tryz.func350 rfl ?_
   repeat'(first|refine gP ?_|refine CA ((show(m.U.W.length:Int)=m.U.c.length by omega) ▸ c) ?_)
   refine CH (ι:=Nat) (λi=>[(1,.F .box (aD.enc .O m)),(3,.F .one [I ((i:Nat):Int)])]) (λi=>i<=m.U.c.length/\db i (qm m)=true) (λi=>m.U.c.length - i) 0 ?_ ⟨C1 _,rfl⟩ λi h=>?_
   ·exact wB
   obtain⟨h,l⟩:=h;by_cases j:i<m.U.c.length
   ·have n:=ar j
    have o:=tq m.Q (i:Nat)
    repeat'(first|refine gE ?_|with_reducible refine Bf.NB (λp=>?_) (λp=>?_)|refine CA (iu m.Q (i:Nat) a.2) ?_)
    all_goals first
     | exact I1 (λz=>[B z]) ((by symm;unfold dd;rw[d,e,cv j (by unfold qm;grind)];rfl))
     | ((conv=>whnf);refine CF (i+1) ⟨ω,bT l (by unfold qm;grind)⟩ ω ?_;(exact wB))
   refine ZE ?_
   obtain rfl:i=m.U.c.length:=ω
   exact I1 (λz=>[B z]) ((by grind [dd]))
theorem ri(m:aD)(b:aD.sml m):zzA 87 false [.val (some 3) (aD.enc .O m)] .one [B (dd m)]:=by
 have o:m.U.c.length<=1048576:=b.1.2;have a:=nO m.U b.1;have c:=Em m.Q m.U.c.length b.2;cases d:cK m.U with
 | false=>
  rw[d]at a;refine fO 37 [] Tryz.func87 rfl ?_
  refine ZP ?_
  exact I1 (λz=>[B z]) ((by grind [dd]))
 | true=>
  rw[d]at a;cases e:gU m.Q m.U.c.length with
  | false=>
   rw[e]at c;refine fO 37 [] Tryz.func87 rfl ?_
   refine ZP ?_
   exact I1 (λz=>[B z]) ((by grind [dd]))
  | true=>
   rw[e]at c;refine fO 37 [] Tryz.func87 rfl ?_
   refine ZP ?_
   refine CH (ι:=Nat) (λi=>[(1,.F .box (aD.enc .O m)),(21,.F .one (fX .O m.U.c)),(22,.F .one [I (m.U.c.length)]),(23,.F .one [I ((i:Nat):Int)])]) (λi=>i<=m.U.c.length/\db i (qm m)=true) (λi=>m.U.c.length - i) 0 ?_ ⟨C1 _,rfl⟩ λi g=>?_
   ·exact wB
   obtain⟨g,j⟩:=g;by_cases h:i<m.U.c.length
   ·have k:=ar h
    have l:=tq m.Q (i:Nat)
    repeat'(first|refine gE ?_|with_reducible refine Bf.NB (λn=>?_) (λn=>?_)|refine CA (lA m.Q (i:Nat) b.2) ?_)
    all_goals first
     | exact I1 (λz=>[B z]) ((by symm;unfold dd;rw[d,e,cv h (by unfold qm;grind)];rfl))
     | ((conv=>whnf);refine CF (i+1) ⟨ω,bT j (by unfold qm;grind)⟩ ω ?_;(exact wB))
   refine ZE ?_
   obtain rfl:i=m.U.c.length:=ω
   exact I1 (λz=>[B z]) ((by grind [dd]))
def sN(k:af)(d:af.sml k):zzA 208 false [.val (some 5) (af.enc .O k)] .one [B (aK k)]:=by
 have n:k.b.length<=1048576:=d.2;have a:=ql k.G d.1;refine fO 31 [] Tryz.func208 rfl ?_
 refine ZP ?_
 refine CH (ι:=Nat) (λi=>[(1,.F .box (af.enc .O k)),(3,.F .one [I ((i:Nat):Int)])]) (λi=>i<=k.b.length/\db i (λj=>decide (0<=nth k.b j))=true) (λi=>k.b.length - i) 0 ?_ ⟨C1 _,rfl⟩ λi e=>?_
 ·exact wB
 obtain⟨e,g⟩:=e;by_cases h:i<k.b.length
 ·have l:=ar h
  repeat'(first|refine gE ?_|with_reducible refine Bf.D (λc=>?_) (λc=>?_))
  all_goals first
   | exact I1 (λz=>[B z]) ((by symm;unfold aK;rw[cv h (Z0 ω)];rfl))
   | ((conv=>whnf);refine CF (i+1) ⟨ω,bT g (O0 ω)⟩ ω ?_;(exact wB))
 obtain rfl:i=k.b.length:=ω
 cases b:dd k.G with
 | false=>
  rw[b]at a
  refine ZE ?_
  all_goals exact I1 (λz=>[B z]) ((by unfold aK;rw[b];simp))
 | true=>
  rw[b]at a
  repeat'(first|refine gE ?_|with_reducible refine Bf.D (λc=>?_) (λc=>?_)|refine CA (aS _ 0 100000) ?_)
  all_goals exact I1 (λz=>[B z]) ((by unfold aK;rw[b,g];simp only[Bool.true_and];first|exact decide_eq_decide.2 ω|(symm;exact Z0 ω)|(symm;exact O0 ω)))
def sv(k:af)(b:af.sml k):zzA 26 false [.val (some 5) (af.enc .O k)] .one [B (aK k)]:=by
 have l:k.b.length<=1048576:=b.2;have g:=ri k.G b.1;refine fO 29 [] Tryz.func26 rfl ?_
 refine ZP ?_
 refine CH (ι:=Nat) (λi=>[(1,.F .box (af.enc .O k)),(6,.F .one (aH .O k.b)),(7,.F .one [I (k.b.length)]),(8,.F .one [I ((i:Nat):Int)])]) (λi=>i<=k.b.length/\db i (λj=>decide (0<=nth k.b j))=true) (λi=>k.b.length - i) 0 ?_ ⟨C1 _,rfl⟩ λi c=>?_
 ·exact wB
 obtain⟨c,d⟩:=c;by_cases e:i<k.b.length
 ·have h:=ar e
  repeat'(first|refine gE ?_|with_reducible refine Bf.D (λa=>?_) (λa=>?_))
  all_goals first
   | exact I1 (λz=>[B z]) ((by symm;unfold aK;rw[cv e (Z0 ω)];rfl))
   | ((conv=>whnf);refine CF (i+1) ⟨ω,bT d (O0 ω)⟩ ω ?_;(exact wB))
 obtain rfl:i=k.b.length:=ω
 repeat'(first|refine gE ?_|with_reducible refine Bf.D (λa=>?_) (λa=>?_)|refine CA (aO _ 0 100000) ?_)
 all_goals exact I1 (λz=>[B z]) ((by unfold aK;rw[d];cases dd k.G<;>simp only[Bool.true_and,Bool.false_and]<;>first|rfl|exact decide_eq_decide.2 ω|(symm;exact Z0 ω)|(symm;exact O0 ω)))
def Af(pages:Int)(r:ay)(b:0<=pages/\pages<=1048576):zzA 351 false [.val none [I pages],.val (some 2) (ay.enc .O r)] .one [B (rangeIn pages r)]:=by
 refine fO 18 [] Tryz.func351 rfl ?_
 repeat'(first|refine gP ?_|with_reducible refine Bf.D (λa=>?_) (λa=>?_)|refine CA (aS _ 1 _) ?_|refine CA (aS _ 0 _) ?_)
 all_goals exact I1 (λz=>[B z]) ((by unfold rangeIn;first|(symm;exact Z0 ω)|exact decide_eq_decide.2 ω))
def Au(pages:Int)(r:ay)(b:0<=pages/\pages<=1048576):zzA 223 false [.val none [I pages],.val (some 2) (ay.enc .O r)] .one [B (rangeIn pages r)]:=by
 refine fO 18 [] Tryz.func223 rfl ?_
 repeat'(first|refine gP ?_|with_reducible refine Bf.D (λa=>?_) (λa=>?_)|refine CA (aO _ 1 _) ?_|refine CA (aO _ 0 _) ?_)
 all_goals exact I1 (λz=>[B z]) ((by unfold rangeIn;first|(symm;exact Z0 ω)|exact decide_eq_decide.2 ω))
theorem pu(k:Int):zzA 472 false [.val none [I k]] .one [I (slots k)]:=by
 by_cases b:0<=k/\k<=3
 ·obtain rfl|rfl|rfl|rfl:k=0\/k=1\/k=2\/k=3:=ω
  all_goals
   refine fO 9 [] Tryz.func472 rfl ?_
   repeat'(first|refine gE ?_|with_reducible refine Bf.D (λa=>?_) (λa=>?_)|refine CA (aS _ 0 3) ?_|refine CP (by decide) ?_|refine CO rfl ?_|refine CU rfl ?_)
   exact I1 (λz=>[I z]) (by decide)
 refine fO 9 [] Tryz.func472 rfl ?_
 repeat'(first|refine gE ?_|with_reducible refine Bf.D (λa=>?_) (λa=>?_)|refine CA (aS _ 0 3) ?_)
 exact I1 (λz=>[I z]) (by grind [slots])
theorem gm(k:Int):zzA 335 false [.val none [I k]] .one [I (slots k)]:=by
 by_cases b:0<=k/\k<=3
 ·obtain rfl|rfl|rfl|rfl:k=0\/k=1\/k=2\/k=3:=ω
  all_goals
   refine fO 9 [] Tryz.func335 rfl ?_
   repeat'(first|refine gE ?_|with_reducible refine Bf.D (λa=>?_) (λa=>?_)|refine CA (fK _) ?_|refine CA (eC _) ?_|refine CP (by decide) ?_|refine CO rfl ?_|refine CU rfl ?_)
   exact I1 (λz=>[I z]) (by decide)
 refine fO 9 [] Tryz.func335 rfl ?_
 repeat'(first|refine gE ?_|with_reducible refine Bf.D (λa=>?_) (λa=>?_)|refine CA (fK _) ?_)
 exact I1 (λz=>[I z]) (by grind [slots])
def N8(k b:Int):Bool:=decide (0<=k/\k<=3/\0<=b/\b<=lim k)
theorem sg(k b:Int):zzA 471 false [.val none [I (slots k)],.val none [I b]] .one [B (N8 k b)]:=by
 by_cases d:0<=k/\k<=3
 ·obtain rfl|rfl|rfl|rfl:k=0\/k=1\/k=2\/k=3:=ω
  all_goals
   first|rw[show slots 0=16 from rfl]|rw[show slots 1=8 from rfl]|rw[show slots 2=4 from rfl]|rw[show slots 3=2 from rfl]
   refine fO 15 [] Tryz.func471 rfl ?_
   repeat'(first|refine gE ?_|with_reducible refine Bf.D (λa=>?_) (λa=>?_)|refine CA (aS _ 1 16) ?_|refine CA (aS _ 0 _) ?_|refine CP (by decide) ?_|refine CO (show _=(65536:Int) by decide) ?_|refine CO (show _=(65535:Int) by decide) ?_|refine CO (show _=(256:Int) by decide) ?_|refine CO (show _=(255:Int) by decide) ?_|refine CO (show _=(16:Int) by decide) ?_|refine CO (show _=(15:Int) by decide) ?_|refine CO (show _=(4:Int) by decide) ?_|refine CO (show _=(8:Int) by decide) ?_|refine CO (show _=(2:Int) by decide) ?_|refine CO (show _=(3:Int) by decide) ?_)
   all_goals exact I1 (λz=>[B z]) ((decide_eq_decide.2 (by simp[lim])))
 have c:slots k=0:=by grind [slots]
 rw[c];refine fO 15 [] Tryz.func471 rfl ?_
 repeat'(first|refine gE ?_|with_reducible refine Bf.D (λa=>?_) (λa=>?_)|refine CA (aS _ 1 16) ?_)
 exact I1 (λz=>[B z]) ((by symm;exact Z0 ω))
theorem sJ(k b:Int):zzA 375 false [.val none [I (slots k)],.val none [I b]] .one [B (N8 k b)]:=by
 by_cases d:0<=k/\k<=3
 ·obtain rfl|rfl|rfl|rfl:k=0\/k=1\/k=2\/k=3:=ω
  all_goals
   first|rw[show slots 0=16 from rfl]|rw[show slots 1=8 from rfl]|rw[show slots 2=4 from rfl]|rw[show slots 3=2 from rfl]
   refine fO 14 [] Tryz.func375 rfl ?_
   repeat'(first|refine gE ?_|with_reducible refine Bf.D (λa=>?_) (λa=>?_)|refine CA (aO _ 1 16) ?_|refine CA (aO _ 0 _) ?_|refine CP (by decide) ?_|refine CO (gV (by decide) (by decide)) ?_)
   all_goals exact I1 (λz=>[B z]) ((decide_eq_decide.2 (by simp[lim,IntKind.bits])))
 have c:slots k=0:=by grind [slots]
 rw[c];refine fO 14 [] Tryz.func375 rfl ?_
 repeat'(first|refine gE ?_|with_reducible refine Bf.D (λa=>?_) (λa=>?_)|refine CA (aO _ 1 16) ?_)
 exact I1 (λz=>[B z]) ((by symm;exact Z0 ω))
def hO(s:au):zzA 352 false [.val (some 3) (au.enc .O s)] .one [B (bc s)]:=by
 refine fO 14 [(1,12,[3,4,5,6,7,8,9,10,11,12,13,2])] Tryz.func352 rfl ?_
 repeat'(first|refine gP ?_|with_reducible refine Bf.D (λa=>?_) (λa=>?_)|refine CA (aS _ 0 31) ?_|refine CA (pu _) ?_|refine CA (sg _ _) ?_)
 all_goals exact I1 (λz=>[B z]) ((by unfold bc;first|(symm;exact Z0 ω)|exact decide_eq_decide.2 ω))
def hM(s:au):zzA 225 false [.val (some 3) (au.enc .O s)] .one [B (bc s)]:=by
 refine fO 19 [(1,17,[3,4,5,6,7,8,9,10,11,12,13,14,15,16,17,18,2])] Tryz.func225 rfl ?_
 repeat'(first|refine gP ?_|with_reducible refine Bf.D (λa=>?_) (λa=>?_)|refine CA (aO _ 0 31) ?_|refine CA (fK _) ?_|refine CA (gm _) ?_|refine CA (sJ _ _) ?_)
 all_goals exact I1 (λz=>[B z]) ((by unfold bc;first|(symm;exact Z0 ω)|exact decide_eq_decide.2 ω))
section
variable{α:Type}{xs:List α}{p:α->Bool}{i:Nat}{y:α}
theorem FP(h:xs[i]? = some y)(a:p y=true):xs.any p=true:=C5.2 ψ
theorem zF(h:xs[i]? = some y)(a:(xs.take i).any p=false)(b:p y=false):(xs.take (i+1)).any p=false:=by grind [X7]
theorem WB(a:xs.length<=i)(b:(xs.take i).any p=false):xs.any p=false:=by grind [I9]
theorem gW[Inhabited α](a:0<i)(b:i<xs.length):xs[((i:Int) - 1).toNat]? = some (nth xs (i - 1)):=by
 rw[show((i:Int) - 1).toNat=i - 1 by omega];grind [ar]
end
theorem A3{pages:Int}{xs:List ay}(a:db n (gQ pages xs)=true)(b:i<n):1<=(nth xs i).o/\(nth xs i).o<=pages/\0<=(nth xs i).At/\(nth xs i).At<=pages - (nth xs i).o:=by grind [fS,gQ,rangeIn]
theorem n6(pages:Int)(xs:List ay)(d:0<=pages/\pages<=1048576)(k:dD xs):zzA 209 false [.val none [I pages],.val none (aU .O xs)] .one [B (bI pages xs)]:=by
 have n:=k.1;refine fO 46 [(4,32,[12,13,14,15,16,17,18,19,20,21,22,23,24,25,26,27,28,29,30,31,32,33,34,35,36,37,38,39,40,41,42,43])] Tryz.func209 rfl ?_
 refine ZP ?_
 refine CH (ι:=Nat) (λi=>[(0,.F .one [I (pages)]),(1,.F .one (aU .O xs)),(5,.F .one [I ((i:Nat):Int)])]) (λi=>i<=xs.length/\db i (gQ pages xs)=true) (λi=>xs.length - i) 0 ?_ ⟨C1 _,rfl⟩ λi e=>?_
 ·exact wB
 obtain⟨e,g⟩:=e;by_cases c:i<xs.length
 ·have j:=ar c
  have o:0<i->1<=(nth xs (i - 1)).o/\(nth xs (i - 1)).o<=pages/\0<=(nth xs (i - 1)).At/\(nth xs (i - 1)).At<=pages - (nth xs (i - 1)).o:=λh=>A3 g ω
  cases b:rangeIn pages (nth xs i) with
  | false=>
   have a:=Af pages (nth xs i) d;rw[b]at a
   refine ZE ?_
   exact I1 (λz=>[B z]) ((by grind [cv,bI,gQ]))
  | true=>
   have a:=Af pages (nth xs i) d;rw[b]at a
   repeat'(first|refine gE ?_|with_reducible refine Bf.D (λl=>?_) (λl=>?_)|refine CM ω (aa (gW ω c)) ?_)
   all_goals first
    | exact I1 (λz=>[B z]) ((by symm;unfold bI;rw[cv c (by unfold gQ;rw[b,Z0 ω];rfl)];rfl))
    | ((conv=>whnf);refine CF (i+1) ⟨ω,bT g (by unfold gQ;rw[b,O0 ω];rfl)⟩ ω ?_;(exact wB))
 repeat'(first|refine gE ?_|refine CA (aS pages 1 32) ?_)
 grind [bI]
theorem nI(pages:Int)(xs:List ay)(j:0<=pages/\pages<=1048576)(k:dD xs):zzA 75 false [.val none [I pages],.val none (aU .O xs)] .one [B (bI pages xs)]:=by
 have n:=k.1;refine fO 43 [(4,26,[14,15,16,17,18,19,20,21,22,23,24,25,26,27,28,29,30,31,32,33,34,35,36,37,38,39])] Tryz.func75 rfl ?_
 refine ZP ?_
 refine CH (ι:=Nat) (λi=>[(0,.F .one [I (pages)]),(1,.F .one (aU .O xs)),(7,.F .one (aU .O xs)),(8,.F .one [I (xs.length)]),(9,.F .one [I ((i:Nat):Int)])]) (λi=>i<=xs.length/\db i (gQ pages xs)=true) (λi=>xs.length - i) 0 ?_ ⟨C1 _,rfl⟩ λi d=>?_
 ·exact wB
 obtain⟨d,e⟩:=d;by_cases c:i<xs.length
 ·have g:=ar c
  have o:0<i->1<=(nth xs (i - 1)).o/\(nth xs (i - 1)).o<=pages/\0<=(nth xs (i - 1)).At/\(nth xs (i - 1)).At<=pages - (nth xs (i - 1)).o:=λh=>A3 e ω
  have a:=Au pages (nth xs i) j;cases b:rangeIn pages (nth xs i) with
  | false=>
   rw[b]at a
   refine ZE ?_
   exact I1 (λz=>[B z]) ((by grind [cv,bI,gQ]))
  | true=>
   rw[b]at a
   repeat'(first|refine gE ?_|with_reducible refine Bf.D (λl=>?_) (λl=>?_)|refine CM ω (aa (gW ω c)) ?_)
   all_goals first
    | exact I1 (λz=>[B z]) ((by symm;unfold bI;rw[cv c (by unfold gQ;rw[b,Z0 ω];rfl)];rfl))
    | ((conv=>whnf);refine CF (i+1) ⟨ω,bT e (by unfold gQ;rw[b,O0 ω];rfl)⟩ ω ?_;(exact wB))
 repeat'(first|refine gE ?_|refine CA (aO pages 1 32) ?_)
 grind [bI]
theorem BO(xs:List ay)(page:Int)(g:xs.length<=9223372036854775807):zzA 356 false [.val none (aU .O xs),.val none [I page]] .one [B (xs.any (xB page))]:=by
 refine fO 34 [(4,22,[12,13,14,15,16,17,18,19,20,21,22,23,24,25,26,27,28,29,30,31,32,33])] Tryz.func356 rfl ?_
 refine ZP ?_
 refine CH (ι:=Nat) (λi=>[(0,.F .one (aU .O xs)),(1,.F .one [I (page)]),(5,.F .one [I ((i:Nat):Int)])]) (λi=>i<=xs.length/\(xs.take i).any (xB page)=false) (λi=>xs.length - i) (0) ?_ ψ λi b=>?_
 ·exact wB
 obtain⟨b,c⟩:=b;by_cases d:i<xs.length
 ·have a:=ar d
  repeat'(first|refine gE ?_|with_reducible refine Bf.D (λe=>?_) (λe=>?_)|refine CO rfl ?_)
  all_goals first
   | exact I1 (λz=>[B z]) ((FP a (by unfold xB;rw[O0 (by assumption),O0 (by assumption)];rfl)).symm)
   | ((conv=>whnf);refine CF (i+1) ⟨ω,zF a c (by unfold xB;first|(rw[Z0 (by assumption:¬(nth xs i).At<=page)];rfl)|(rw[Z0 (by assumption:¬page<_)];simp))⟩ ω ?_;(exact wB))
 refine ZE ?_
 exact I1 (λz=>[B z]) ψ
def tdiv16(h:0<=z):z.tdiv 16=z / 16:=Int.tdiv_eq_ediv_of_nonneg h
theorem sL(z:Int):zzA 370 false [.val none [I z]] .one [I (fT z)]:=by
 refine fO 10 [] Tryz.func370 rfl ?_;by_cases b:9<=z/\z<=1000
 ·repeat'(first|refine gE ?_|with_reducible refine Bf.D (λa=>?_) (λa=>?_)|refine CA (aS z 9 1000) ?_|refine CP (by decide) ?_|refine CO ((I1 _ (tdiv16 ω)).trans (gV ω ω)) ?_)
  grind [fT]
 repeat'(first|refine gE ?_|with_reducible refine Bf.D (λa=>?_) (λa=>?_)|refine CA (aS z 9 1000) ?_)
 all_goals exact I1 (λz=>[I z]) (by unfold fT;rw[CD b])
theorem su(z:Int):zzA 191 false [.val none [I z]] .one [I (fT z)]:=by
 refine fO 10 [] Tryz.func191 rfl ?_;by_cases b:9<=z/\z<=1000
 ·repeat'(first|refine gE ?_|with_reducible refine Bf.D (λa=>?_) (λa=>?_)|refine CA (aO z 9 1000) ?_|refine CP (by decide) ?_|refine CO ((I1 _ (tdiv16 ω)).trans (gV ω ω)) ?_)
  grind [fT]
 repeat'(first|refine gE ?_|with_reducible refine Bf.D (λa=>?_) (λa=>?_)|refine CA (aO z 9 1000) ?_)
 all_goals exact I1 (λz=>[I z]) (by unfold fT;rw[CD b])
def uU(l:aB):zzA 354 false [.val (some 3) (aB.enc .O l)] .one [B (dz l)]:=by
 have b:=sL l.a3;by_cases c:9<=l.a3/\l.a3<=1000
 ·rw[show fT l.a3=(l.a3+15) / 16 from CG c]at b
  refine fO 22 [] Tryz.func354 rfl ?_
  repeat'(first|refine gP ?_|with_reducible (first|refine Bf.D (λa=>?_) (λa=>?_)|refine Bf.E (λa=>?_) (λa=>?_))|refine CA (aS _ 0 _) ?_)
  all_goals exact I1 (λz=>[B z]) ((by unfold dz;first|(symm;exact Z0 ω)|exact decide_eq_decide.2 ω))
 rw[show fT l.a3=0 from CD c]at b;refine fO 22 [] Tryz.func354 rfl ?_
 repeat'(first|refine gE ?_|with_reducible refine Bf.D (λa=>?_) (λa=>?_))
 all_goals exact I1 (λz=>[B z]) ((by unfold dz;symm;exact Z0 ω))
def uR(l:aB):zzA 226 false [.val (some 3) (aB.enc .O l)] .one [B (dz l)]:=by
 have b:=su l.a3;by_cases c:9<=l.a3/\l.a3<=1000
 ·rw[show fT l.a3=(l.a3+15) / 16 from CG c]at b
  refine fO 22 [(1,20,[3,4,5,6,7,8,9,10,11,12,13,14,15,16,17,18,19,20,21,2])] Tryz.func226 rfl ?_
  repeat'(first|refine gE ?_|with_reducible (first|refine Bf.D (λa=>?_) (λa=>?_)|refine Bf.E (λa=>?_) (λa=>?_))|refine CA (aO _ 9 1000) ?_|refine CA (aO _ 0 _) ?_)
  all_goals exact I1 (λz=>[B z]) ((by unfold dz;first|(symm;exact Z0 ω)|exact decide_eq_decide.2 ω))
 refine fO 22 [(1,20,[3,4,5,6,7,8,9,10,11,12,13,14,15,16,17,18,19,20,21,2])] Tryz.func226 rfl ?_
 repeat'(first|refine gE ?_|with_reducible refine Bf.D (λa=>?_) (λa=>?_)|refine CA (aO _ 9 1000) ?_)
 all_goals exact I1 (λz=>[B z]) ((by unfold dz;symm;exact Z0 ω))
theorem rR(h:0<=z/\z<=9223372036854775807):(BitVec.ofInt IntKind.i64.bits z).toNat=z.toNat:=by
 show(BitVec.ofInt 64 z).toNat=z.toNat
 grind
theorem and64{z1 z2:Int}(a:0<=z1/\z1<=9223372036854775807)(b:0<=z2/\z2<=9223372036854775807):IntKind.i64.wrap ((BitVec.ofInt IntKind.i64.bits z1 &&& BitVec.ofInt IntKind.i64.bits z2).toNat:Nat)=((z1.toNat &&& z2.toNat:Nat):Int):=by grind [rR,Nat.and_le_left,gV]
theorem Lr(k:Int):lim k<=65535:=by grind [lim]
variable{s:au}
def fD(h:bc s=true):0<=s.r/\s.r<=9223372036854775807:=by
 unfold bc at h;simp only[C0]at h;have:=Lr s.Z;omega
def ns(b c:au):zzA 357 false [.val (some 3) (au.enc .O b),.val (some 3) (au.enc .O c)] .one [B (meshable b c)]:=by
 have g:=hO b;have h:=hO c;cases d:bc b<;>rw[d]at g<;>cases e:bc c<;>rw[e]at h
 all_goals
  refine fO 33 [] Tryz.func357 rfl ?_
  repeat'(first|refine gP ?_|with_reducible (first|refine Bf.D (λa=>?_) (λa=>?_)|refine Bf.N (λa=>?_) (λa=>?_)|refine Bf.E (λa=>?_) (λa=>?_))|refine CO (and64 (fD d) (fD e)) ?_)
  all_goals exact I1 (λz=>[B z]) ((by unfold meshable;rw[d,e];first|rfl|(symm;exact Z0 ω)|(rw[X6];simp;omega)))
def nA(b c:au):zzA 229 false [.val (some 3) (au.enc .O b),.val (some 3) (au.enc .O c)] .one [B (meshable b c)]:=by
 have g:=hM b;have h:=hM c;cases d:bc b<;>rw[d]at g<;>cases e:bc c<;>rw[e]at h
 all_goals
  refine fO 33 [] Tryz.func229 rfl ?_
  repeat'(first|refine gP ?_|with_reducible (first|refine Bf.D (λa=>?_) (λa=>?_)|refine Bf.N (λa=>?_) (λa=>?_)|refine Bf.E (λa=>?_) (λa=>?_))|refine CO (and64 (fD d) (fD e)) ?_)
  all_goals exact I1 (λz=>[B z]) ((by unfold meshable;rw[d,e];first|rfl|(symm;exact Z0 ω)|(rw[X6];simp;omega)))
def Di(k:Int):zzA 384 false [.val none [I k]] .one [B (decide (0<=k/\k<=15))]:=by
 refine fO 5 [] Tryz.func384 rfl ?_
 repeat'(first|refine gP ?_|refine CA (aO k 0 15) ?_)
 rfl
def wF(p:aV)(e:aV.sml p):zzA 365 false [.val (some 3) (aV.enc .O p)] .one [B (fH p)]:=by
 have h:p.W.length<=1048576:=e;refine fO 51 [(4,25,[11,12,13,14,15,16,17,18,19,20,21,22,23,24,25,26,27,28,29,30,31,32,33,34,35])] Tryz.func365 rfl ?_
 refine ZP ?_
 refine CH (ι:=Nat) (λi=>[(1,.F .box (aV.enc .O p)),(3,.F .one [I ((i:Nat):Int)])]) (λi=>i<=p.W.length/\db i (pq p.W)=true) (λi=>p.W.length - i) 0 ?_ ⟨C1 _,rfl⟩ λi c=>?_
 ·exact wB
 obtain⟨c,d⟩:=c;by_cases b:i<p.W.length
 ·have g:=ar b
  repeat'(first|refine gE ?_|with_reducible refine Bf.D (λa=>?_) (λa=>?_)|refine CA (aS _ 0 15) ?_|refine CM ω (aa (gW ω b)) ?_)
  all_goals first
   | exact I1 (λz=>[B z]) ((by symm;unfold fH;rw[cv b (Z0 ω)];rfl))
   | ((conv=>whnf);refine CF (i+1) ⟨ω,bT d (O0 ω)⟩ ω ?_;(exact wB))
 obtain rfl:i=p.W.length:=ω
 repeat'(first|refine gE ?_|with_reducible (first|refine Bf.D (λa=>?_) (λa=>?_)|refine Bf.NB (λa=>?_) (λa=>?_)|refine Bf.N (λa=>?_) (λa=>?_))|refine CA (aS _ 0 31) ?_)
 all_goals exact I1 (λz=>[B z]) ((by unfold fH;rw[d];simp only[Bool.true_and];first|(symm;exact Z0 ω)|exact decide_eq_decide.2 ω|(rw[X6];simp;omega)))
def wU(p:aV)(e:aV.sml p):zzA 239 false [.val (some 3) (aV.enc .O p)] .one [B (fH p)]:=by
 have h:p.W.length<=1048576:=e;refine fO 46 [] Tryz.func239 rfl ?_
 refine ZP ?_
 refine CH (ι:=Nat) (λi=>[(1,.F .box (aV.enc .O p)),(6,.F .one (aH .O p.W)),(7,.F .one [I (p.W.length)]),(8,.F .one [I ((i:Nat):Int)])]) (λi=>i<=p.W.length/\db i (pq p.W)=true) (λi=>p.W.length - i) 0 ?_ ⟨C1 _,rfl⟩ λi c=>?_
 ·exact wB
 obtain⟨c,d⟩:=c;by_cases b:i<p.W.length
 ·have g:=ar b
  repeat'(first|refine gE ?_|with_reducible refine Bf.D (λa=>?_) (λa=>?_)|refine CA (Di _) ?_|refine CM ω (aa (gW ω b)) ?_)
  all_goals first
   | exact I1 (λz=>[B z]) ((by symm;unfold fH;rw[cv b (Z0 ω)];rfl))
   | ((conv=>whnf);refine CF (i+1) ⟨ω,bT d (O0 ω)⟩ ω ?_;(exact wB))
 obtain rfl:i=p.W.length:=ω
 repeat'(first|refine gE ?_|with_reducible (first|refine Bf.D (λa=>?_) (λa=>?_)|refine Bf.NB (λa=>?_) (λa=>?_)|refine Bf.N (λa=>?_) (λa=>?_))|refine CA (aO _ 0 31) ?_)
 all_goals exact I1 (λz=>[B z]) ((by unfold fH;rw[d];simp only[Bool.true_and];first|(symm;exact Z0 ω)|exact decide_eq_decide.2 ω|(rw[X6];simp;omega)))
def Aa(j:bk)(a:bk.sml j):zzA 218 false [.val (some 5) (bk.enc .O j)] .one [B (kg j)]:=by
 have e:j.Y.W.length<=1048576:=a;have b:=wF j.Y a;cases c:fH j.Y<;>rw[c]at b
 all_goals
  refine fO 20 [] Tryz.func218 rfl ?_
  repeat'(first|refine gP ?_|with_reducible refine Bf.D (λd=>?_) (λd=>?_)|refine CA (aS _ 0 5) ?_|refine CA (aS _ 0 _) ?_)
  all_goals exact I1 (λz=>[B z]) ((by unfold kg;rw[c];first|rfl|(symm;exact Z0 ω)|(rw[X6];simp;omega)))
def z7(j:bk)(a:bk.sml j):zzA 84 false [.val (some 5) (bk.enc .O j)] .one [B (kg j)]:=by
 have e:j.Y.W.length<=1048576:=a;have b:=wU j.Y a;cases c:fH j.Y<;>rw[c]at b
 all_goals
  refine fO 20 [] Tryz.func84 rfl ?_
  repeat'(first|refine gP ?_|with_reducible refine Bf.D (λd=>?_) (λd=>?_)|refine CA (aO _ 0 5) ?_|refine CA (aO _ 0 _) ?_)
  all_goals exact I1 (λz=>[B z]) ((by unfold kg;rw[c];first|rfl|(symm;exact Z0 ω)|(rw[X6];simp;omega)))
theorem lO(l:aB)(k:Nat):lpgs l (k+1)=lpgs l k++[l.R+(k:Nat)]:=by grind [List.range_succ,lpgs]
theorem HR(l:aB)(k:Nat):(lpgs l k).length=k:=by unfold lpgs;simp
theorem Qj(l:aB)(h:k<=n):lpgs l k <+: lpgs l n:=by
 induction n with
 | zero=>
  grind
 | succ n a=>
  grind [lO]
variable{la:List aB}
theorem qH(sp:List au){l:aB}(h:la[i]? = some l):pgs sp (la.take (i+1))=pgs sp (la.take i)++lpgs l l.a0.toNat:=by grind [X7,pgs]
theorem TS(sp:List au)(la:List aB)(i:Nat):pgs sp (la.take i) <+: pgs sp la:=by grind [List.take_append_drop,pgs]
variable{S:List Int}
theorem PO{all:List Int}{p:Int}(h:(S++[p]) <+: all)(a:p∈S):decide all.Nodup=false:=by grind [List.nodup_append]
theorem mH{p:Int}(h:S.Nodup)(a:p∉S):(S++[p]).Nodup:=ψ
variable{sp:List au}
theorem J8(h:sp[i]? = some s):((sp.take i).map (·.R)++[s.R]) <+: pgs sp la:=by
 have a:(sp.take i).map (·.R)++[s.R]=(sp.take (i+1)).map (·.R):=by grind [X7]
 rw[a];refine List.IsPrefix.trans ?_ (List.prefix_append ..)
 grind
theorem Dk{l:aB}(h:la[i]? = some l)(a:k<l.a0.toNat):(pgs sp (la.take i)++lpgs l k++[l.R+(k:Nat)]) <+: pgs sp la:=by
 refine List.IsPrefix.trans ?_ (TS sp la (i+1));rw[qH sp h,Y7,<-lO]
 grind [List.prefix_append_right_inj,Qj]
theorem ss(h:sp[i]? = some s)(a:bc s=false):bA sp la=false:=by grind [bA]
theorem qu{l:aB}(h:la[i]? = some l)(a:dz l=false):bA sp la=false:=by grind [bA]
theorem ly{p:Int}(h:(S++[p]) <+: pgs sp la)(a:p∈S):bA sp la=false:=by grind [PO,bA]
theorem uE(a:sp.all bc=true)(b:la.all dz=true)(c:(pgs sp la).Nodup):bA sp la=true:=by grind [bA]
theorem cf{l:aB}(h:dz l=true):1<=l.a0/\l.a0<=63/\0<=l.R/\l.R<=31:=by grind [dz]
theorem nL(sp:List au)(la:List aB)(t:cx sp)(u:cB la):zzA 210 false [.val none (bt .O sp),.val none (bz .O la)] .one [B (bA sp la)]:=by
 have J:=t.1;have K:=u.1;refine fO 79 [] Tryz.func210 rfl ?_
 refine ZP ?_
 refine CH (ι:=Nat × List Int) (λi=>[(0,.F .one (bt .O sp)),(1,.F .one (bz .O la)),(5,.F .one (aH .own i.2)),(6,.F .one [I ((i.1:Nat):Int)])]) (λi=>i.1<=sp.length/\i.2=(sp.take i.1).map (·.R)/\(sp.take i.1).all bc=true/\i.2.Nodup) (λi=>sp.length - i.1) ((0,[])) ?_ ψ λi o=>?_
 ·exact wB
 obtain⟨i,S⟩:=i;obtain⟨o,q,d,h⟩:=o;simp only at o q d h |-;have L:S.length=i:=ψ
 by_cases w:i<sp.length
 ·have a:=ar w
  have j:=hO (nth sp i);cases e:bc (nth sp i)<;>rw[e]at j
  ·refine ZE ?_
   exact I1 (λz=>[B z]) ((ss a e).symm)
  repeat'(first|refine gE ?_|with_reducible refine Bf.D (λy=>?_) (λy=>?_)|refine CJ (oA S _ ω) ⟨⟨rfl,dK _⟩,⟨rfl,rfl⟩,trivial⟩ ?_|refine CS cR (λr E=>by rw[I2.1 E];rfl) (by simp[bm,eX]) (by simp;omega) (by simp only[Z1];exact v8 (by simp;omega) (by decide)) rfl ?_)
  all_goals first
   | exact I1 (λz=>[B z]) ((ly (S:=S) (by rw[q];exact J8 a) (by assumption)).symm)
   | ((conv=>whnf)
      refine CF (i+1,S++[(nth sp i).R]) ⟨(by simp only;omega),(by simp only;rw[q,X7,a];simp),(cO a d e),mH h (by assumption)⟩ (by simp only;omega) ?_
      (repeat'(first|exact trivial|rfl|exact CC rfl (CC (I1 (C.s dY.own) (by simp[rI])) trivial)|refine CC ?_ ?_)))
 obtain rfl:i=sp.length:=ω
 rw[C7]at d q
 refine ZE ?_
 refine CH (ι:=Nat × List Int) (λi=>[(1,.F .one (bz .O la)),(5,.F .one (aH .own i.2)),(7,.F .one [I ((i.1:Nat):Int)])]) (λi=>i.1<=la.length/\i.2=pgs sp (la.take i.1)/\(la.take i.1).all dz=true/\i.2.Nodup/\i.2.length<=1048576+64*i.1) (λi=>la.length - i.1) ((0,S)) ?_ (⟨C1 _,by grind [pgs],rfl,h,by simp only;omega⟩) λi o=>?_
 ·exact wB
 obtain⟨i,S2⟩:=i;obtain⟨F,l,b,g,G⟩:=o;simp only at F l b g G |-;by_cases w:i<la.length
 ·have a:=ar w
  have j:=uU (nth la i);cases e:dz (nth la i)<;>rw[e]at j
  ·refine ZE ?_
   exact I1 (λz=>[B z]) ((qu a e).symm)
  have M:=cf e
  refine ZE ?_
  refine CH (ι:=Nat × List Int) (λk=>[(1,.F .one (bz .O la)),(5,.F .one (aH .own k.2)),(7,.F .one [I ((i:Nat):Int)]),(8,.F .one [I ((k.1:Nat):Int)])]) (λk=>k.1<=(nth la i).a0.toNat/\k.2=S2++lpgs (nth la i) k.1/\k.2.Nodup) (λk=>(nth la i).a0.toNat - k.1) ((0,S2)) ?_ (⟨C1 _,by simp[lpgs],g⟩) λk H=>?_
  ·exact wB
  obtain⟨k,p⟩:=k;obtain⟨H,n,c⟩:=H;simp only at H n c |-;have N:p.length=S2.length+k:=by grind [HR]
  by_cases O:k<(nth la i).a0.toNat
  ·repeat'(first|refine gE ?_|with_reducible refine Bf.D (λy=>?_) (λy=>?_)|refine CJ (oA p _ ω) ⟨⟨rfl,dK _⟩,⟨rfl,rfl⟩,trivial⟩ ?_|refine CS cR (λr E=>by rw[I2.1 E];rfl) (by simp[bm,eX]) (by simp;omega) (by show _*8<=_;simp;omega) rfl ?_)
   all_goals first
    | exact I1 (λz=>[B z]) ((ly (S:=p) (by rw[n,l];exact Dk a O) (by assumption)).symm)
    | ((conv=>whnf)
       refine CF (k+1,p++[(nth la i).R+(k:Nat)]) ⟨(by simp only;omega),(by simp only;rw[n,lO,Y7]),mH c (by assumption)⟩ (by simp only;omega) ?_
       (repeat'(first|exact trivial|rfl|exact CC rfl (CC (I1 (C.s dY.own) (by simp[rI])) trivial)|refine CC ?_ ?_)))
  obtain rfl:k=(nth la i).a0.toNat:=ω
  refine ZE ?_
  (refine CF (i+1,p) ⟨(by simp only;omega),(by grind [qH]),(cO a b e),c,(by simp only;omega)⟩ (by simp only;omega) ?_;(exact wB))
 obtain rfl:i=la.length:=ω
 rw[C7]at b l
 refine ZE ?_
 exact I1 (λz=>[B z]) ((uE d b ψ).symm)
def ins(S:List Int)(p:Int):List Int:=if p∈S then S else S++[p]
theorem LT{p:Int} : ∀{S:List Int},p∈S->mput (gg S) p (.bool true)=gg S
 | x::S,h=>by
  simp only[gg,I8,mput];by_cases a:x=p
  ·rw[CG a,a]
  rw[CD a];have:=LT (S:=S) ((List.mem_cons.1 h).resolve_left λe=>a e.symm)
  grind [gg]
theorem zn(S:List Int)(p:Int):gg (ins S p)=mput (gg S) p (.bool true):=by grind [LT,vQ,ins]
theorem R8(S:List Int)(p:Int):zzB 224 false [.val none [I p],.ptr [.m (gg S)]] [.val none [I p],.ptr [.m (gg (ins S p))]] .one [B (decide (p∉S))]:=by
 refine fM 12 [] [] [(0,0),(0,0)] Tryz.func224 rfl (λu q=>?_)
 repeat'(first|refine gP ?_|refine Ml.mk (pn p S) ?_|refine Mu.mk (zn S p) ?_)
 refine CL rfl ?_ ?_
 ·grind
 exact wB
theorem rY(sp:List au)(la:List aB)(t:cx sp)(u:cB la):zzA 76 false [.val none (bt .O sp),.val none (bz .O la)] .one [B (bA sp la)]:=by
 have F:=t.1;have G:=u.1;refine fP 54 [(224,[0,2])] [] Tryz.func76 rfl ?_
 refine ZP ?_
 refine CH (ι:=Nat × List Int) (λi=>[(1,.F .one (bz .O la)),(5,.F .box [.m (gg i.2)]),(6,.fn 224 [5]),(14,.F .one (bt .O sp)),(15,.F .one [I (sp.length)]),(16,.F .one [I ((i.1:Nat):Int)])]) (λi=>i.1<=sp.length/\i.2=(sp.take i.1).map (·.R)/\(sp.take i.1).all bc=true/\i.2.Nodup) (λi=>sp.length - i.1) ((0,[])) ?_ ψ λi p=>?_
 ·exact wB
 obtain⟨i,S⟩:=i;obtain⟨p,r,e,j⟩:=p;simp only at p r e j |-;by_cases w:i<sp.length
 ·have c:=ar w
  have l:=hM (nth sp i);cases g:bc (nth sp i)<;>rw[g]at l
  ·refine ZE ?_
   exact I1 (λz=>[B z]) ((ss c g).symm)
  repeat'(first|refine gE ?_|with_reducible refine Bf.D (λy=>?_) (λy=>?_)|refine CI (R8 S _) (.inl rfl) ?_)
  all_goals first
   | exact I1 (λz=>[B z]) ((ly (S:=S) (by rw[r];exact J8 c) ψ).symm)
   |(have a:(nth sp i).R∉S:=by assumption
     (conv=>whnf)
     refine CF (i+1,ins S (nth sp i).R) ⟨(by simp only;omega),(by simp only;unfold ins;rw[CD a,r,X7,c];simp),(cO c e g),(by simp only;unfold ins;rw[CD a];exact mH j a)⟩ (by simp only;omega) ?_
     (exact wA))
 obtain rfl:i=sp.length:=ω
 rw[C7]at e r
 refine ZE ?_
 refine CH (ι:=Nat × List Int) (λi=>[(5,.F .box [.m (gg i.2)]),(6,.fn 224 [5]),(31,.F .one (bz .O la)),(32,.F .one [I (la.length)]),(33,.F .one [I ((i.1:Nat):Int)])]) (λi=>i.1<=la.length/\i.2=pgs sp (la.take i.1)/\(la.take i.1).all dz=true/\i.2.Nodup) (λi=>la.length - i.1) ((0,S)) ?_ (⟨C1 _,by grind [pgs],rfl,j⟩) λi p=>?_
 ·exact wB
 obtain⟨i,S2⟩:=i;obtain⟨C,n,b,h⟩:=p;simp only at C n b h |-;by_cases w:i<la.length
 ·have c:=ar w
  have l:=uR (nth la i);cases g:dz (nth la i)<;>rw[g]at l
  ·refine ZE ?_
   exact I1 (λz=>[B z]) ((qu c g).symm)
  have H:=cf g
  refine ZE ?_
  refine CH (ι:=Nat × List Int) (λk=>[(5,.F .box [.m (gg k.2)]),(6,.fn 224 [5]),(10,.F .box (aB.enc .O (nth la i))),(11,.F .one [I ((k.1:Nat):Int)]),(31,.F .one (bz .O la)),(32,.F .one [I (la.length)]),(33,.F .one [I ((i:Nat):Int)])]) (λk=>k.1<=(nth la i).a0.toNat/\k.2=S2++lpgs (nth la i) k.1/\k.2.Nodup) (λk=>(nth la i).a0.toNat - k.1) ((0,S2)) ?_ (⟨C1 _,by simp[lpgs],h⟩) λk E=>?_
  ·exact wB
  obtain⟨k,q⟩:=k;obtain⟨E,o,d⟩:=E;simp only at E o d |-;by_cases J:k<(nth la i).a0.toNat
  ·repeat'(first|refine gE ?_|with_reducible refine Bf.D (λy=>?_) (λy=>?_)|refine CI (R8 q _) (.inl rfl) ?_)
   all_goals first
    | exact I1 (λz=>[B z]) ((ly (S:=q) (by rw[o,n];exact Dk c J) ψ).symm)
    |(have a:(nth la i).R+(k:Nat)∉q:=by assumption
      (conv=>whnf)
      refine CF (k+1,ins q ((nth la i).R+(k:Nat))) ⟨(by simp only;omega),(by simp only;unfold ins;rw[CD a,o,lO,Y7]),(by simp only;unfold ins;rw[CD a];exact mH d a)⟩ (by simp only;omega) ?_
      (exact wA))
  obtain rfl:k=(nth la i).a0.toNat:=ω
  refine ZE ?_
  (refine CF (i+1,q) ⟨(by simp only;omega),(by grind [qH]),(cO c b g),d⟩ (by simp only;omega) ?_;(exact wB))
 obtain rfl:i=la.length:=ω
 rw[C7]at b n
 refine ZE ?_
 exact I1 (λz=>[B z]) ((uE e b ψ).symm)
theorem aP(h:bc s=true):0<=s.R/\s.R<=31/\0<=s.Z/\s.Z<=3:=by grind [bc]
theorem dN{k:Int}(h:0<=k/\k<=3):csz k=1\/csz k=2\/csz k=4\/csz k=8:=by
 obtain rfl|rfl|rfl|rfl:k=0\/k=1\/k=2\/k=3:=ω
 all_goals decide
def o7{x y:Int}(h:0<=x):x.tdiv y=x / y:=Int.tdiv_eq_ediv_of_nonneg h
def gZ{x y:Int}(h:0<=x):x.tmod y=x % y:=Int.tmod_eq_emod_of_nonneg h
def S2(p:Int × Int):List C:=[I p.1,I p.2]
theorem Dh{p:Int × Int}(h:(a,b)=p):[I a,I b]=S2 p:=by subst h;rfl
theorem wI(s:au)(a:Int)(k:oh a):zzA 473 false [.val (some 3) (au.enc .O s),.val none [I a]] (.tup [none,none]) (S2 (jp s a)):=by
 have c:=hO s;have l:=gc s.Z;obtain⟨n,o⟩:=k;cases d:bc s<;>rw[d]at c
 ·refine fO 33 [(4,12,[23,24,25,26,27,28,29,30,31,32,4,5])] Tryz.func473 rfl ?_ (.inr ⟨trivial,trivial,trivial⟩)
  refine ZP ?_
  exact Dh (by grind [jp,dG])
 have h:=aP d;have i:=dN ⟨h.2.2.1,h.2.2.2⟩;by_cases g:16*s.R<=a/\a<=16*s.R+15
 ·have j:0<=a:=ω
  refine fO 33 [(4,12,[23,24,25,26,27,28,29,30,31,32,4,5])] Tryz.func473 rfl ?_ (.inr ⟨trivial,trivial,trivial⟩)
  repeat'(first|refine gE ?_|with_reducible refine Bf.N (λb=>?_) (λb=>?_)|refine CP (by decide) ?_|refine CP ω ?_|refine CO ((I1 _ (o7 j)).trans (gV ω ω)) ?_|refine CU (gZ j) ?_|refine CO ((I1 _ (o7 ω)).trans (gV (by rcases i with e|e|e|e<;>rw[e]<;>omega) (by rcases i with e|e|e|e<;>rw[e]<;>omega))) ?_|refine CU (gZ ω) ?_)
  all_goals grind [Dh,jp,dG]
 refine fO 33 [(4,12,[23,24,25,26,27,28,29,30,31,32,4,5])] Tryz.func473 rfl ?_ (.inr ⟨trivial,trivial,trivial⟩)
 repeat'(first|refine gP ?_|with_reducible (first|refine Bf.D (λb=>?_) (λb=>?_)|refine Bf.N (λb=>?_) (λb=>?_))|refine CP (by decide) ?_|refine CO ((I1 _ (o7 ω)).trans (gV ω ω)) ?_)
 all_goals first
  |exact Dh (by unfold jp dG;rw[d,Z0 g];rfl)
  |(exfalso;omega)
theorem Jt(s:au)(a:Int):zzA 379 false [.val (some 3) (au.enc .O s),.val none [I a]] (.tup [none,none]) (S2 (jp s a)):=by
 have b:=hM s;have j:=eC s.Z;cases c:bc s<;>rw[c]at b
 ·refine fO 38 [(4,12,[28,29,30,31,32,33,34,35,36,37,4,5])] Tryz.func379 rfl ?_ (.inr ⟨trivial,trivial,trivial⟩)
  refine ZP ?_
  exact Dh (by grind [jp,dG])
 have h:=aP c;have i:=dN ⟨h.2.2.1,h.2.2.2⟩;by_cases d:16*s.R<=a/\a<=16*s.R+15
 ·refine fO 38 [(4,12,[28,29,30,31,32,33,34,35,36,37,4,5])] Tryz.func379 rfl ?_ (.inr ⟨trivial,trivial,trivial⟩)
  repeat'(first|refine gE ?_|with_reducible refine Bf.D (λg=>?_) (λg=>?_)|refine CA (aO _ _ _) ?_|refine CP ω ?_|refine CO ((I1 _ (o7 ω)).trans (gV (by rcases i with e|e|e|e<;>rw[e]<;>omega) (by rcases i with e|e|e|e<;>rw[e]<;>omega))) ?_|refine CU (gZ ω) ?_)
  grind [Dh,jp,dG]
 refine fO 38 [(4,12,[28,29,30,31,32,33,34,35,36,37,4,5])] Tryz.func379 rfl ?_ (.inr ⟨trivial,trivial,trivial⟩)
 repeat'(first|refine gE ?_|with_reducible refine Bf.D (λg=>?_) (λg=>?_)|refine CA (aO _ _ _) ?_)
 all_goals exact Dh (by unfold jp dG;rw[c,Z0 d];rfl)
def rv(b i:Int):zzA 547 false [.val none [I b],.val none [I i]] .one [B (decide (0<=b/\0<=i/\i<=15))]:=by
 refine fO 11 [] Tryz.func547 rfl ?_
 repeat'(first|refine gP ?_|with_reducible refine Bf.D (λa=>?_) (λa=>?_)|refine CA (aS _ 0 15) ?_)
 all_goals exact I1 (λz=>[B z]) ((by first|(symm;exact Z0 ω)|exact decide_eq_decide.2 ω))
def rH(b i:Int):zzA 457 false [.val none [I b],.val none [I i]] .one [B (decide (0<=b/\0<=i/\i<=15))]:=by
 refine fO 11 [] Tryz.func457 rfl ?_
 repeat'(first|refine gP ?_|with_reducible refine Bf.D (λa=>?_) (λa=>?_)|refine CA (aO _ 0 15) ?_)
 all_goals exact I1 (λz=>[B z]) ((by first|(symm;exact Z0 ω)|exact decide_eq_decide.2 ω))
theorem QS{i:Int}(a:0<=b/\b<=9223372036854775807)(e:0<=i/\i<=15):b.fdiv (2 ^ min i.toNat IntKind.i64.bits)=b / 2 ^ i.toNat/\0<=b / 2 ^ i.toNat/\b / 2 ^ i.toNat<=9223372036854775807:=by
 have d:min i.toNat IntKind.i64.bits=i.toNat:=Nat.min_eq_left (show i.toNat<=64 by omega);rw[d];have c:(0:Int)<=2 ^ i.toNat:=ψ
 refine⟨Int.fdiv_eq_ediv_of_nonneg _ c,Int.ediv_nonneg a.1 c,?_⟩;have:=Int.ediv_le_self (2 ^ i.toNat:Int) a.1;omega
theorem Ao{i:Int}(a:0<=b)(c:0<=i/\i<=15):((((b / 2 ^ i.toNat).toNat &&& (1:Int).toNat:Nat):Int) == 1)=aX b i:=by
 have d:(0:Int)<=b / 2 ^ i.toNat:=Int.ediv_nonneg a ψ
 grind [aX]
theorem jm(b i:Int)(c:b<=9223372036854775807):zzA 474 false [.val none [I b],.val none [I i]] .one [B (aX b i)]:=by
 by_cases h:0<=b/\0<=i/\i<=15
 ·obtain⟨d,g⟩:=QS (b:=b) (i:=i) ⟨h.1,c⟩ h.2
  have j:IntKind.u64.wrap i=i:=by grind [Go.IntKind.wrap,Go.IntKind.bits]
  refine fO 16 [] Tryz.func474 rfl ?_
  repeat'(first|refine gE ?_|with_reducible refine Bf.D (λa=>?_) (λa=>?_)|refine CA (rv _ _) ?_|refine CP ω ?_|refine CO j ?_|refine CU d ?_|refine CO (and64 g ⟨by decide,by decide⟩) ?_)
  grind [Ao]
 refine fO 16 [] Tryz.func474 rfl ?_
 repeat'(first|refine gE ?_|with_reducible refine Bf.D (λa=>?_) (λa=>?_)|refine CA (rv _ _) ?_)
 all_goals exact I1 (λz=>[B z]) ((by unfold aX;symm;exact Z0 λe=>h ⟨e.1,e.2.1,e.2.2.1⟩))
theorem ip(b i:Int)(c:b<=9223372036854775807):zzA 380 false [.val none [I b],.val none [I i]] .one [B (aX b i)]:=by
 by_cases h:0<=b/\0<=i/\i<=15
 ·obtain⟨d,g⟩:=QS (b:=b) (i:=i) ⟨h.1,c⟩ h.2
  refine fO 15 [] Tryz.func380 rfl ?_
  repeat'(first|refine gE ?_|with_reducible refine Bf.D (λa=>?_) (λa=>?_)|refine CA (rH _ _) ?_|refine CP ω ?_|refine CU d ?_|refine CO (and64 g ⟨by decide,by decide⟩) ?_)
  grind [Ao]
 refine fO 15 [] Tryz.func380 rfl ?_
 repeat'(first|refine gE ?_|with_reducible refine Bf.D (λa=>?_) (λa=>?_)|refine CA (rH _ _) ?_)
 all_goals exact I1 (λz=>[B z]) ((by unfold aX;symm;exact Z0 λe=>h ⟨e.1,e.2.1,e.2.2.1⟩))
theorem eA{l:aB}(h:dz l=true):9<=l.a3/\l.a3<=1000/\0<=l.R/\l.R<=31:=by grind [dz]
theorem sw(l:aB)(a:Int):zzA 475 false [.val (some 3) (aB.enc .O l),.val none [I a]] .one [B (bN l a)]:=by
 have b:=uU l;cases c:dz l<;>rw[c]at b
 ·refine fO 24 [] Tryz.func475 rfl ?_
  refine ZP ?_
  exact I1 (λz=>[B z]) ((by grind [bN]))
 have e:=eA c;refine fO 24 [] Tryz.func475 rfl ?_
 repeat'(first|refine gP ?_|with_reducible refine Bf.D (λd=>?_) (λd=>?_))
 all_goals exact I1 (λz=>[B z]) ((by unfold bN;rw[c,Bool.true_and];first|(symm;exact Z0 ω)|exact decide_eq_decide.2 ω))
theorem so(l:aB)(a:Int):zzA 381 false [.val (some 3) (aB.enc .O l),.val none [I a]] .one [B (bN l a)]:=by
 have b:=uR l;cases c:dz l<;>rw[c]at b
 ·refine fO 21 [] Tryz.func381 rfl ?_
  refine ZP ?_
  exact I1 (λz=>[B z]) ((by grind [bN]))
 have e:=eA c;refine fO 21 [] Tryz.func381 rfl ?_
 repeat'(first|refine gP ?_|with_reducible refine Bf.D (λd=>?_) (λd=>?_)|refine CA (aO _ _ _) ?_)
 grind [bN]
theorem vK(l:aB)(a:Int)(h:bN l a=true):zzA 476 false [.val (some 3) (aB.enc .O l),.val none [I a]] .one [I (a - 16*l.R)]:=by
 have b:=sw l a;rw[h]at b;unfold bN at h;simp only[I0,C0]at h;have c:=eA h.1;refine fO 14 [] Tryz.func476 rfl ?_
 refine ZP ?_
 grind
theorem vL(l:aB)(a:Int)(h:bN l a=true):zzA 382 false [.val (some 3) (aB.enc .O l),.val none [I a]] .one [I (a - 16*l.R)]:=by
 have b:=so l a;rw[h]at b;unfold bN at h;simp only[I0,C0]at h;have c:=eA h.1;refine fO 14 [] Tryz.func382 rfl ?_
 refine ZP ?_
 grind
variable{m:aM}
theorem rG(a:i<m.V.length)(h:iq m i=false):dE m=false:=by grind [cv,dE]
theorem y3(h:¬(1<=m.V.length/\m.V.length<=4/\m.k.length=m.V.length)):dE m=false:=by grind [dE]
theorem zI(a:1<=m.V.length/\m.V.length<=4/\m.k.length=m.V.length)(b:db m.V.length (iq m)=true):dE m=decide (bP m m.V.length<=30):=by grind [dE]
theorem wZ(m:aM)(h:aM.sml m):zzA 111 false [.val (some 2) (aM.enc .O m)] .one [B (dE m)]:=by
 have r:m.V.length<=1048576:=h.1.1;have t:m.k.length<=1048576:=h.2.1;by_cases u:1<=m.V.length/\m.V.length<=4/\m.k.length=m.V.length
 ·refine fO 92 [(19,15,[75,76,77,78,79,80,81,82,83,84,85,86,87,88,89])] Tryz.func111 rfl ?_
  repeat'(first|refine gB ?_|with_reducible (first|refine Bf.D (λa=>?_) (λa=>?_)|refine Bf.N (λa=>?_) (λa=>?_))|refine CA (aS _ 1 4) ?_)
  refine CH (ι:=Nat) (λi=>[(1,.F .box (aM.enc .O m)),(3,.F .one [I (m.V.length)]),(4,.F .one [I (bP m i)]),(5,.F .one [I ((i:Nat):Int)])]) (λi=>i<=m.V.length/\db i (iq m)=true/\0<=bP m i/\bP m i<=2097152*i) (λi=>m.V.length - i) (0) ?_ (⟨C1 _,rfl,by simp[bP],by simp[bP]⟩) λi n=>?_
  ·exact wB
  obtain⟨n,w,F,G⟩:=n;by_cases j:i<m.V.length
  ·have l:=ar j
   have o:=ar (xs:=m.k) (i:=i) ω;have y:(nth m.V i).length<=1048576:=(h.1.2 _ (aE j)).1;have C:(nth m.k i).length<=1048576:=h.2.2 _ ψ
   refine ZE ?_
   refine CH (ι:=Nat) (λk=>[(1,.F .box (aM.enc .O m)),(3,.F .one [I (m.V.length)]),(4,.F .one [I (bP m i)]),(5,.F .one [I ((i:Nat):Int)]),(6,.F .one [I ((k:Nat):Int)])]) (λk=>k<=(nth m.V i).length/\((nth m.V i).take k).all (oQ m.V.length)=true) (λk=>(nth m.V i).length - k) (0) ?_ ψ λk p=>?_
   ·exact wB
   obtain⟨p,q⟩:=p;by_cases E:k<(nth m.V i).length
   ·have c:=ar E
    repeat'(first|refine gE ?_|with_reducible refine Bf.D (λa=>?_) (λa=>?_)|refine CA (aS _ 0 _) ?_)
    all_goals first
     | exact I1 (λz=>[B z]) ((rG j (by unfold iq;rw[io c (by unfold oQ;exact Z0 ω)];rfl)).symm)
     | ((conv=>whnf);refine CF (k+1) ⟨ω,cO c q (by unfold oQ;exact O0 ω)⟩ ω ?_;(exact wB))
   have H:=oR ω q
   refine ZE ?_
   refine CH (ι:=Nat) (λb=>[(1,.F .box (aM.enc .O m)),(3,.F .one [I (m.V.length)]),(4,.F .one [I (bP m i)]),(5,.F .one [I ((i:Nat):Int)]),(8,.F .one [I ((b:Nat):Int)])]) (λb=>b<=(nth m.k i).length/\((nth m.k i).take b).all Uf=true) (λb=>(nth m.k i).length - b) (0) ?_ ψ λb e=>?_
   ·exact wB
   obtain⟨e,ak2⟩:=e;by_cases lk2:b<(nth m.k i).length
   ·have c:=ar lk2
    repeat'(first|refine gE ?_|with_reducible refine Bf.D (λa=>?_) (λa=>?_))
    all_goals first
     | exact I1 (λz=>[B z]) ((rG j (by unfold iq;rw[io c (by unfold Uf;exact Z0 ω)];simp)).symm)
     | ((conv=>whnf);refine CF (b+1) ⟨ω,cO c ak2 (by unfold Uf;exact O0 ω)⟩ ω ?_;(exact wB))
   have ae2:=oR ω ak2;have g:bP m (i+1)=bP m i+((nth m.V i).length+(nth m.k i).length):=rfl;have d:bP m (i+1)=bP m i+(nth m.V i).length+(nth m.k i).length:=by rw[g];omega
   refine ZE ?_
   (refine CF (i+1) ⟨ω,bT w (by grind [iq]),ω,ω⟩ ω ?_)
   rw[d];exact wB
  obtain rfl:i=m.V.length:=ω
  refine ZE ?_
  grind [zI]
 refine fO 92 [(19,15,[75,76,77,78,79,80,81,82,83,84,85,86,87,88,89])] Tryz.func111 rfl ?_
 repeat'(first|refine gP ?_|with_reducible (first|refine Bf.D (λa=>?_) (λa=>?_)|refine Bf.N (λa=>?_) (λa=>?_))|refine CA (aS _ 1 4) ?_)
 all_goals first
  | exact I1 (λz=>[B z]) ((y3 u).symm)
  |(exfalso;omega)
theorem wK(m:aM)(g:aM.sml m):zzA 78 false [.val (some 2) (aM.enc .O m)] .one [B (dE m)]:=by
 have q:m.V.length<=1048576:=g.1.1;have r:m.k.length<=1048576:=g.2.1;by_cases t:1<=m.V.length/\m.V.length<=4/\m.k.length=m.V.length
 ·refine fO 82 [(20,15,[64,65,66,67,68,69,70,71,72,73,74,75,76,77,78])] Tryz.func78 rfl ?_
  repeat'(first|refine gB ?_|with_reducible (first|refine Bf.D (λa=>?_) (λa=>?_)|refine Bf.N (λa=>?_) (λa=>?_))|refine CA (aO _ 1 4) ?_)
  refine CH (ι:=Nat) (λi=>[(1,.F .box (aM.enc .O m)),(3,.F .one [I (m.V.length)]),(4,.F .one [I (bP m i)]),(25,.F .one [I (m.V.length)]),(26,.F .one [I ((i:Nat):Int)])]) (λi=>i<=m.V.length/\db i (iq m)=true/\0<=bP m i/\bP m i<=2097152*i) (λi=>m.V.length - i) (0) ?_ (⟨C1 _,rfl,by simp[bP],by simp[bP]⟩) λi n=>?_
  ·exact wB
  obtain⟨n,u,E,F⟩:=n;by_cases h:i<m.V.length
  ·have j:=ar h
   have l:=ar (xs:=m.k) (i:=i) ω;have w:(nth m.V i).length<=1048576:=(g.1.2 _ (aE h)).1;have y:(nth m.k i).length<=1048576:=g.2.2 _ ψ
   refine ZE ?_
   refine CH (ι:=Nat) (λk=>[(1,.F .box (aM.enc .O m)),(3,.F .one [I (m.V.length)]),(4,.F .one [I (bP m i)]),(5,.F .one [I ((i:Nat):Int)]),(25,.F .one [I (m.V.length)]),(26,.F .one [I ((i:Nat):Int)]),(33,.F .one (bK .O (nth m.V i))),(34,.F .one [I ((nth m.V i).length)]),(35,.F .one [I ((k:Nat):Int)])]) (λk=>k<=(nth m.V i).length/\((nth m.V i).take k).all (oQ m.V.length)=true) (λk=>(nth m.V i).length - k) (0) ?_ ψ λk o=>?_
   ·exact wB
   obtain⟨o,p⟩:=o;by_cases C:k<(nth m.V i).length
   ·have c:=ar C
    repeat'(first|refine gE ?_|with_reducible refine Bf.D (λa=>?_) (λa=>?_)|refine CA (aO _ 0 _) ?_)
    all_goals first
     | exact I1 (λz=>[B z]) ((rG h (by unfold iq;rw[io c (by unfold oQ;exact Z0 ω)];rfl)).symm)
     | ((conv=>whnf);refine CF (k+1) ⟨ω,cO c p (by unfold oQ;exact O0 ω)⟩ ω ?_;(exact wB))
   have G:=oR ω p
   refine ZE ?_
   refine CH (ι:=Nat) (λb=>[(1,.F .box (aM.enc .O m)),(3,.F .one [I (m.V.length)]),(4,.F .one [I (bP m i)]),(5,.F .one [I ((i:Nat):Int)]),(25,.F .one [I (m.V.length)]),(26,.F .one [I ((i:Nat):Int)]),(55,.F .one (aH .O (nth m.k i))),(56,.F .one [I ((nth m.k i).length)]),(57,.F .one [I ((b:Nat):Int)])]) (λb=>b<=(nth m.k i).length/\((nth m.k i).take b).all Uf=true) (λb=>(nth m.k i).length - b) (0) ?_ ψ λb d=>?_
   ·exact wB
   obtain⟨d,ak2⟩:=d;by_cases lk2:b<(nth m.k i).length
   ·have c:=ar lk2
    repeat'(first|refine gE ?_|with_reducible refine Bf.D (λa=>?_) (λa=>?_))
    all_goals first
     | exact I1 (λz=>[B z]) ((rG h (by unfold iq;rw[io c (by unfold Uf;exact Z0 ω)];simp)).symm)
     | ((conv=>whnf);refine CF (b+1) ⟨ω,cO c ak2 (by unfold Uf;exact O0 ω)⟩ ω ?_;(exact wB))
   have ae2:=oR ω ak2;have e:bP m (i+1)=bP m i+((nth m.V i).length+(nth m.k i).length):=rfl
   refine ZE ?_
   (refine CF (i+1) ⟨ω,bT u (by grind [iq]),ω,ω⟩ ω ?_)
   rw[e];exact wB
  obtain rfl:i=m.V.length:=ω
  refine ZE ?_
  grind [zI]
 refine fO 82 [(20,15,[64,65,66,67,68,69,70,71,72,73,74,75,76,77,78])] Tryz.func78 rfl ?_
 repeat'(first|refine gP ?_|with_reducible (first|refine Bf.D (λa=>?_) (λa=>?_)|refine Bf.N (λa=>?_) (λa=>?_))|refine CA (aO _ 1 4) ?_)
 all_goals first
  | exact I1 (λz=>[B z]) ((y3 t).symm)
  |(exfalso;omega)
def DA(h:dG s a=false):S2 (jp s a)=[I (-1),I (-1)]:=by
 unfold jp;rw[h];rfl
def zv(h:dG s a=true):S2 (jp s a)=[I ((a - 16*s.R) / csz s.Z),I ((a - 16*s.R) % csz s.Z)]:=by
 unfold jp;rw[h];rfl
theorem uo(h:dG s a=true):bc s=true/\0<=(a - 16*s.R) / csz s.Z/\(a - 16*s.R) / csz s.Z<=15:=by
 unfold dG at h;simp only[I0,C0]at h;have b:=aP h.1
 grind [dN]
def pG(b:i<sp.length)(h:dG (nth sp i) a=true)(c:∀(j:Nat)(z:au),j<i->sp[j]? = some z->dG z a=false):denotes sp la a=re i (nth sp i) a:=by
 unfold denotes;rw[yc (pr:=(dG · a)) (ar b) h c]
def nN(b:sp.length<=n)(c:∀(j:Nat)(z:au),j<n->sp[j]? = some z->dG z a=false)(d:i<la.length)(h:bN (nth la i) a=true)(e:∀(j:Nat)(z:aB),j<i->la[j]? = some z->bN z a=false) :
  denotes sp la a = ⟨3,i,0,a - 16*(nth la i).R⟩:=by
 unfold denotes;rw[FO (pr:=(dG · a)) b c,yc (pr:=(bN · a)) (ar d) h e]
theorem yB(b:sp.length<=n)(c:∀(j:Nat)(z:au),j<n->sp[j]? = some z->dG z a=false)(d:la.length<=k)(e:∀(j:Nat)(z:aB),j<k->la[j]? = some z->bN z a=false):denotes sp la a = ⟨0,0,0,0⟩:=by grind [FO,denotes]
theorem pj(sp:List au)(la:List aB)(a:Int)(d:cx sp)(e:cB la)(g:bA sp la=true)(C:oh a):zzA 362 false [.val none (bt .O sp),.val none (bz .O la),.val none [I a]] .agg (jL.enc .own (denotes sp la a)):=by
 have E:=d.1;have F:=e.1;have p:=nL sp la d e;rw[g]at p;refine fO 67 [] Tryz.func362 rfl ?_ (.inr (jL.enc_fr _))
 refine ZP ?_
 refine CH (ι:=Nat) (λi=>[(0,.F .one (bt .O sp)),(1,.F .one (bz .O la)),(2,.F .one [I (a)]),(6,.F .box ([I 0,I 0,I 0,I 0])),(7,.F .one [I ((i:Nat):Int)])]) (λi=>i<=sp.length/\∀(j:Nat)(z:au),j<i->sp[j]? = some z->dG z a=false) (λi=>sp.length - i) (0) ?_ ψ λi q=>?_
 ·exact wB
 obtain⟨q,l⟩:=q;by_cases r:i<sp.length
 ·have h:=ar r
  have b:=wI (nth sp i) a C;cases c:dG (nth sp i) a with
  | false=>
   rw[DA c]at b
   repeat'(first|refine gE ?_|with_reducible refine Bf.D (λo=>?_) (λo=>?_))
   (refine CF (i+1) ψ ω ?_;(exact wB))
  | true=>
   rw[zv c]at b;obtain⟨G,H,J⟩:=uo c;have t:=jm (nth sp i).r ((a - 16*(nth sp i).R) / csz (nth sp i).Z) (fD G).2;cases u:aX (nth sp i).r ((a - 16*(nth sp i).R) / csz (nth sp i).Z)<;>rw[u]at t
   all_goals
    repeat'(first|refine gE ?_|with_reducible refine Bf.D (λo=>?_) (λo=>?_))
    all_goals(rw[pG r c l];unfold re;rw[u];rfl)
 refine ZE ?_
 refine CH (ι:=Nat) (λk=>[(1,.F .one (bz .O la)),(2,.F .one [I (a)]),(6,.F .box ([I 0,I 0,I 0,I 0])),(11,.F .one [I ((k:Nat):Int)])]) (λk=>k<=la.length/\∀(j:Nat)(z:aB),j<k->la[j]? = some z->bN z a=false) (λk=>la.length - k) (0) ?_ ψ λk w=>?_
 ·exact wB
 obtain⟨w,y⟩:=w;by_cases B:k<la.length
 ·have h:=ar B
  have b:=sw (nth la k) a;cases c:bN (nth la k) a<;>rw[c]at b
  ·refine ZE ?_
   (refine CF (k+1) ψ ω ?_;(exact wB))
  repeat'(first|refine gE ?_|refine CA (vK (nth la k) a c) ?_)
  rw[nN (n:=i) ω l B c y];rfl
 refine ZE ?_
 rw[yB (n:=i) (k:=k) ω l ω y];rfl
theorem oW(sp:List au)(la:List aB)(a:Int)(e:cx sp)(g:cB la):zzA 235 false [.val none (bt .O sp),.val none (bz .O la),.val none [I a]] .agg (jL.enc .own (denotes sp la a)):=by
 have y:=e.1;have B:=g.1;refine fO 56 [] Tryz.func235 rfl ?_ (.inr (jL.enc_fr _))
 refine ZP ?_
 refine CH (ι:=Nat) (λi=>[(1,.F .one (bz .O la)),(2,.F .one [I (a)]),(6,.F .box ([I 0,I 0,I 0,I 0])),(14,.F .one (bt .O sp)),(15,.F .one [I (sp.length)]),(16,.F .one [I ((i:Nat):Int)])]) (λi=>i<=sp.length/\∀(j:Nat)(z:au),j<i->sp[j]? = some z->dG z a=false) (λi=>sp.length - i) (0) ?_ ψ λi o=>?_
 ·exact wB
 obtain⟨o,h⟩:=o;by_cases p:i<sp.length
 ·have d:=ar p
  have b:=Jt (nth sp i) a;cases c:dG (nth sp i) a with
  | false=>
   rw[DA c]at b
   repeat'(first|refine gE ?_|with_reducible refine Bf.D (λl=>?_) (λl=>?_))
   (refine CF (i+1) ψ ω ?_;(exact wB))
  | true=>
   rw[zv c]at b;obtain⟨C,E,F⟩:=uo c;have q:=ip (nth sp i).r ((a - 16*(nth sp i).R) / csz (nth sp i).Z) (fD C).2;cases r:aX (nth sp i).r ((a - 16*(nth sp i).R) / csz (nth sp i).Z)<;>rw[r]at q
   all_goals
    repeat'(first|refine gE ?_|with_reducible refine Bf.D (λl=>?_) (λl=>?_))
    all_goals(rw[pG p c h];unfold re;rw[r];rfl)
 refine ZE ?_
 refine CH (ι:=Nat) (λk=>[(2,.F .one [I (a)]),(6,.F .box ([I 0,I 0,I 0,I 0])),(39,.F .one (bz .O la)),(40,.F .one [I (la.length)]),(41,.F .one [I ((k:Nat):Int)])]) (λk=>k<=la.length/\∀(j:Nat)(z:aB),j<k->la[j]? = some z->bN z a=false) (λk=>la.length - k) (0) ?_ ψ λk t=>?_
 ·exact wB
 obtain⟨t,u⟩:=t;by_cases w:k<la.length
 ·have d:=ar w
  have b:=so (nth la k) a;cases c:bN (nth la k) a<;>rw[c]at b
  ·refine ZE ?_
   (refine CF (k+1) ψ ω ?_;(exact wB))
  repeat'(first|refine gE ?_|refine CA (vL (nth la k) a c) ?_)
  rw[nN (n:=i) ω h w c u];rfl
 refine ZE ?_
 rw[yB (n:=i) (k:=k) ω h ω u];rfl
section
variable{α:Type}
def Dp(ag:Option Nat)(e:α->List C)(pr:α->Bool)(xs:List α):List (Option Nat × List C)->Kd->List C->Prop:=λL k rcs=>∃x,x∈xs/\L=[(ag,e x)]/\k=.one/\rcs=[B (pr x)]
end
def x6(xs:List ay)(pr:ay->Bool)(n:xs.length<=9223372036854775807):zzA 487 false [.val none (aU .O xs),.fn (pY Tryz.prog (Dp (some 2) (ay.enc .O) pr xs))] .one [I (eP pr xs)]:=by
 refine fO 19 [] Tryz.func487 rfl ?_
 refine ZP ?_
 refine CH (ι:=Nat) (λi=>[(0,.F .one (aU .O xs)),(1,.fv (pY Tryz.prog (Dp (some 2) (ay.enc .O) pr xs))),(7,.F .one [I xs.length]),(8,.F .one [I (i:Nat)])]) (λi=>i<=xs.length/\∀(j:Nat)(z:ay),j<i->xs[j]? = some z->pr z=false) (λi=>xs.length - i) 0 ?_ ⟨C1 _,λj z h=>ω⟩ λi e=>?_
 ·exact wB
 obtain⟨e,b⟩:=e;by_cases c:i<xs.length
 ·obtain⟨y,a⟩ : ∃y,xs[i]? = some y:=⟨_,X3 c⟩
  repeat'(first|refine gE ?_|refine Fv.mk (k:=.one) (rcs:=[B (pr y)]) ⟨y,I3 a,rfl,rfl,rfl⟩ ?_|refine Bf.P (λl=>?_) (λl=>?_))
  ·exact I1 (λz=>[I z]) (gd a ‹_› b).symm
  (conv=>whnf)
  refine CF (i+1) ⟨ω,λj z h d=>?_⟩ ω ?_
  ·rcases Nat.lt_or_ge j i with g|g
   ·exact b j z g d
   obtain rfl:j=i:=ω
   rw[a]at d;cases d;assumption
  exact wB
 refine ZE ?_
 exact I1 (λz=>[I z]) (iA ω b).symm
theorem sR(xs:List ay)(pr:ay->Bool)(a:xs.length<=9223372036854775807):zzA 376 false [.val none (aU .O xs),.fn (pY Tryz.prog (Dp (some 2) (ay.enc .O) pr xs))] .one [B (xs.any pr)]:=by
 refine fO 9 [] Tryz.func376 rfl ?_
 repeat'(first|refine gP ?_|refine CA (x6 xs pr a) ?_)
 grind [o9]
def wv(r:ay)(page:Int):zzA 377 false [.val (some 2) (ay.enc .O r),.ptr [I page]] .one [B (xB page r)]:=by
 refine fO 17 [] Tryz.func377 rfl ?_
 repeat'(first|refine gP ?_|with_reducible refine Bf.D (λa=>?_) (λa=>?_)|refine CO rfl ?_)
 all_goals exact I1 (λz=>[B z]) (by unfold xB;first|(rw[O0 (by assumption:r.At<=page)];simp;done)|(rw[Z0 (by assumption:¬r.At<=page)];rfl))
def BA(xs:List ay)(page:Int)(a:xs.length<=9223372036854775807):zzA 228 false [.val none (aU .O xs),.val none [I page]] .one [B (xs.any (xB page))]:=by
 refine fO 8 [] Tryz.func228 rfl ?_
 repeat'(first|refine gP ?_|refine Cq.mk (Dp (some 2) (ay.enc .O) (xB page) xs) (wv default page).has (λL k rcs b=>?_) ?_|refine CA (sR xs (xB page) a) ?_)
 ·obtain⟨x,-,rfl,rfl,rfl⟩:=b
  exact wv x page
 rfl
theorem xD(xs:List aL)(pr:aL->Bool)(g:xs.length<=9223372036854775807):zzA 549 false [.val none (ct .O xs),.fn (pY Tryz.prog (Dp (some 3) (aL.enc .O) pr xs))] .one [I (eP pr xs)]:=by
 refine fO 19 [] Tryz.func549 rfl ?_
 refine ZP ?_
 refine CH (ι:=Nat) (λi=>[(0,.F .one (ct .O xs)),(1,.fv (pY Tryz.prog (Dp (some 3) (aL.enc .O) pr xs))),(7,.F .one [I xs.length]),(8,.F .one [I (i:Nat)])]) (λi=>i<=xs.length/\∀(j:Nat)(z:aL),j<i->xs[j]? = some z->pr z=false) (λi=>xs.length - i) 0 ?_ ψ λi b=>?_
 ·exact wB
 obtain⟨b,d⟩:=b;by_cases a:i<xs.length
 ·obtain⟨y,c⟩ : ∃y,xs[i]? = some y:=⟨_,X3 a⟩
  repeat'(first|refine gE ?_|refine Fv.mk (k:=.one) (rcs:=[B (pr y)]) ⟨y,I3 c,rfl,rfl,rfl⟩ ?_|refine Bf.P (λe=>?_) (λe=>?_))
  ·grind [gd]
  (conv=>whnf)
  refine CF (i+1) ψ ω ?_;exact wB
 refine ZE ?_
 exact I1 (λz=>[I z]) (iA ω d).symm
theorem tJ(xs:List aL)(pr:aL->Bool)(a:xs.length<=9223372036854775807):zzA 488 false [.val none (ct .O xs),.fn (pY Tryz.prog (Dp (some 3) (aL.enc .O) pr xs))] .one [B (xs.any pr)]:=by
 refine fO 9 [] Tryz.func488 rfl ?_
 repeat'(first|refine gP ?_|refine CA (xD xs pr a) ?_)
 grind [o9]
theorem y4(xs:List au)(pr:au->Bool)(g:xs.length<=9223372036854775807):zzA 240 false [.val none (bt .O xs),.fn (pY Tryz.prog (Dp (some 3) (au.enc .O) pr xs))] .one [I (eP pr xs)]:=by
 refine fO 19 [] Tryz.func240 rfl ?_
 refine ZP ?_
 refine CH (ι:=Nat) (λi=>[(0,.F .one (bt .O xs)),(1,.fv (pY Tryz.prog (Dp (some 3) (au.enc .O) pr xs))),(7,.F .one [I xs.length]),(8,.F .one [I (i:Nat)])]) (λi=>i<=xs.length/\∀(j:Nat)(z:au),j<i->xs[j]? = some z->pr z=false) (λi=>xs.length - i) 0 ?_ ψ λi b=>?_
 ·exact wB
 obtain⟨b,d⟩:=b;by_cases a:i<xs.length
 ·obtain⟨y,c⟩ : ∃y,xs[i]? = some y:=⟨_,X3 a⟩
  repeat'(first|refine gE ?_|refine Fv.mk (k:=.one) (rcs:=[B (pr y)]) ⟨y,I3 c,rfl,rfl,rfl⟩ ?_|refine Bf.P (λe=>?_) (λe=>?_))
  ·grind [gd]
  (conv=>whnf)
  refine CF (i+1) ψ ω ?_;exact wB
 refine ZE ?_
 exact I1 (λz=>[I z]) (iA ω d).symm
theorem Bp(xs:List bf)(pr:bf->Bool)(g:xs.length<=9223372036854775807):zzA 88 false [.val none (fg .O xs),.fn (pY Tryz.prog (Dp (some 4) (bf.enc .O) pr xs))] .one [I (eP pr xs)]:=by
 refine fO 19 [] Tryz.func88 rfl ?_
 refine ZP ?_
 refine CH (ι:=Nat) (λi=>[(0,.F .one (fg .O xs)),(1,.fv (pY Tryz.prog (Dp (some 4) (bf.enc .O) pr xs))),(7,.F .one [I xs.length]),(8,.F .one [I (i:Nat)])]) (λi=>i<=xs.length/\∀(j:Nat)(z:bf),j<i->xs[j]? = some z->pr z=false) (λi=>xs.length - i) 0 ?_ ψ λi b=>?_
 ·exact wB
 obtain⟨b,d⟩:=b;by_cases a:i<xs.length
 ·obtain⟨y,c⟩ : ∃y,xs[i]? = some y:=⟨_,X3 a⟩
  repeat'(first|refine gE ?_|refine Fv.mk (k:=.one) (rcs:=[B (pr y)]) ⟨y,I3 c,rfl,rfl,rfl⟩ ?_|refine Bf.P (λe=>?_) (λe=>?_))
  ·grind [gd]
  (conv=>whnf)
  refine CF (i+1) ψ ω ?_;exact wB
 refine ZE ?_
 exact I1 (λz=>[I z]) (iA ω d).symm
theorem vz(xs:List bf)(pr:bf->Bool)(a:xs.length<=9223372036854775807):zzA 233 false [.val none (fg .O xs),.fn (pY Tryz.prog (Dp (some 4) (bf.enc .O) pr xs))] .one [B (xs.any pr)]:=by
 refine fO 9 [] Tryz.func233 rfl ?_
 repeat'(first|refine gP ?_|refine CA (Bp xs pr a) ?_)
 grind [o9]
def T5(a:k<=3):IntKind.i64.wrap (1*2 ^ min ((k:Nat):Int).toNat IntKind.i64.bits)=csz (k:Nat):=by
 obtain rfl|rfl|rfl|rfl:k=0\/k=1\/k=2\/k=3:=ω
 all_goals decide
theorem TP(a:k<=100):IntKind.u64.wrap (k:Nat)=(k:Nat):=by grind [Go.IntKind.wrap,Go.IntKind.bits]
theorem Ge(a:k<=3)(h:csz (k:Nat)<z)(b:z<=8):k<=2:=by
 have c:csz ((3:Nat):Int)=8:=by decide
 grind
theorem z6(a:k<=3)(b:1<=z)(c:k=0\/csz ((k - 1:Nat):Int)<z)(d:¬csz (k:Nat)<z):bQ z=(k:Nat):=by
 have e:csz ((0:Nat):Int)=1:=by decide
 have f:csz ((1:Nat):Int)=2:=by decide
 have g:csz ((2:Nat):Int)=4:=by decide
 have h:csz ((3:Nat):Int)=8:=by decide
 unfold bQ;obtain rfl|rfl|rfl|rfl:k=0\/k=1\/k=2\/k=3:=ω
 all_goals grind
def ve(z:Int):zzA 220 false [.val none [I z]] .one [I (bQ z)]:=by
 refine fO 15 [] Tryz.func220 rfl ?_;by_cases c:1<=z/\z<=8
 ·repeat'(first|refine gE ?_|with_reducible refine Bf.D (λb=>?_) (λb=>?_)|refine CA (aS z 1 8) ?_)
  refine CH (ι:=Nat) (λk=>[(0,.F .one [I (z)]),(3,.F .one [I ((k:Nat):Int)])]) (λk=>k<=3/\(k=0\/csz ((k - 1:Nat):Int)<z)) (λk=>4 - k) (0) ?_ ω λk a=>?_
  ·exact wB
  obtain⟨a,d⟩:=a
  repeat'(first|refine gP ?_|with_reducible refine Bf.D (λb=>?_) (λb=>?_)|refine CO (TP ω) ?_|refine CO (T5 a) ?_|refine CP ω ?_)
  all_goals first
   | exact I1 (λz=>[I z]) (z6 a c.1 d (by assumption)).symm
   | ((conv=>whnf);refine CF (k+1) ⟨by have:=Ge a (by assumption) c.2;omega,.inr (by simpa using (by assumption:csz (k:Nat)<z))⟩ (by have:=Ge a (by assumption) c.2;omega) ?_;(exact wB))
 repeat'(first|refine gE ?_|with_reducible refine Bf.D (λb=>?_) (λb=>?_)|refine CA (aS z 1 8) ?_)
 all_goals exact I1 (λz=>[I z]) (by unfold bQ;(repeat' split)<;>omega)
def uW(z:Int):zzA 64 false [.val none [I z]] .one [I (bQ z)]:=by
 refine fO 14 [] Tryz.func64 rfl ?_;by_cases c:1<=z/\z<=8
 ·repeat'(first|refine gE ?_|with_reducible refine Bf.D (λa=>?_) (λa=>?_)|refine CA (aO z 1 8) ?_)
  refine CH (ι:=Nat) (λk=>[(0,.F .one [I (z)]),(3,.F .one [I ((k:Nat):Int)])]) (λk=>k<=3/\(k=0\/csz ((k - 1:Nat):Int)<z)) (λk=>4 - k) (0) ?_ ω λk b=>?_
  ·exact wB
  obtain⟨b,d⟩:=b
  repeat'(first|refine gP ?_|with_reducible refine Bf.D (λa=>?_) (λa=>?_)|refine CA (eC _) ?_)
  all_goals first
   | exact I1 (λz=>[I z]) (z6 b c.1 d (by assumption)).symm
   | ((conv=>whnf);refine CF (k+1) ⟨by have:=Ge b (by assumption) c.2;omega,.inr (by simpa using (by assumption:csz (k:Nat)<z))⟩ (by have:=Ge b (by assumption) c.2;omega) ?_;(exact wB))
 repeat'(first|refine gE ?_|with_reducible refine Bf.D (λa=>?_) (λa=>?_)|refine CA (aO z 1 8) ?_)
 all_goals exact I1 (λz=>[I z]) (by unfold bQ;(repeat' split)<;>omega)
theorem F6(q:aZ)(a:Int)(d:aZ.sml q):zzA 359 false [.val (some 2) (aZ.enc .O q),.val none [I a]] .one [B (q.u.any (fU a))]:=by
 have j:q.u.length<=1048576:=d.1;refine fO 21 [] Tryz.func359 rfl ?_
 refine ZP ?_
 refine CH (ι:=Nat) (λi=>[(1,.F .one [I (a)]),(2,.F .box (aZ.enc .O q)),(5,.F .one [I ((i:Nat):Int)])]) (λi=>i<=q.u.length/\(q.u.take i).any (fU a)=false) (λi=>q.u.length - i) (0) ?_ ψ λi c=>?_
 ·exact wB
 obtain⟨c,e⟩:=c;by_cases g:i<q.u.length
 ·have b:=ar g
  repeat'(first|refine gE ?_|with_reducible refine Bf.E (λh=>?_) (λh=>?_))
  all_goals first
   | exact I1 (λz=>[B z]) ((FP b (O0 (by assumption))).symm)
   | ((conv=>whnf);refine CF (i+1) ⟨ω,zF b e (Z0 (by assumption))⟩ ω ?_;(exact wB))
 refine ZE ?_
 exact I1 (λz=>[B z]) ψ
def qP(xs:List aL)(i:Nat):quarCells xs (i+1)=quarCells xs i+csz (nth xs i).Z:=rfl
theorem Q4(k:Int):0<=csz k/\csz k<=8:=by grind [dN,csz]
theorem Gt(xs:List aL)(c:fF xs):zzA 360 false [.val none (ct .O xs)] .one [I (quarCells xs xs.length)]:=by
 have g:=c.1;refine fO 20 [] Tryz.func360 rfl ?_
 refine ZP ?_
 refine CH (ι:=Nat) (λi=>[(0,.F .one (ct .O xs)),(3,.F .one [I (quarCells xs i)]),(4,.F .one [I ((i:Nat):Int)])]) (λi=>i<=xs.length/\0<=quarCells xs i/\quarCells xs i<=8*i) (λi=>xs.length - i) (0) ?_ (⟨C1 _,by simp[quarCells],by simp[quarCells]⟩) λi b=>?_
 ·exact wB
 obtain⟨b,h,j⟩:=b;by_cases d:i<xs.length
 ·have e:=ar d
  have k:=Q4 (nth xs i).Z;have a:=qP xs i
  repeat'(first|refine gE ?_|refine CA (gc _) ?_)
  (refine CF (i+1) ω ω ?_)
  rw[a];exact wB
 refine ZE ?_
 grind
theorem zf(xs:List aL)(c:fF xs):zzA 231 false [.val none (ct .O xs)] .one [I (quarCells xs xs.length)]:=by
 have g:=c.1;refine fO 19 [] Tryz.func231 rfl ?_
 refine ZP ?_
 refine CH (ι:=Nat) (λi=>[(3,.F .one [I (quarCells xs i)]),(6,.F .one (ct .O xs)),(7,.F .one [I (xs.length)]),(8,.F .one [I ((i:Nat):Int)])]) (λi=>i<=xs.length/\0<=quarCells xs i/\quarCells xs i<=8*i) (λi=>xs.length - i) (0) ?_ (⟨C1 _,by simp[quarCells],by simp[quarCells]⟩) λi b=>?_
 ·exact wB
 obtain⟨b,h,j⟩:=b;by_cases d:i<xs.length
 ·have e:=ar d
  have k:=Q4 (nth xs i).Z;have a:=qP xs i
  repeat'(first|refine gE ?_|refine CA (eC _) ?_)
  (refine CF (i+1) ω ω ?_)
  rw[a];exact wB
 refine ZE ?_
 grind
def Nb(a:aL):zzA 358 false [.val (some 3) (aL.enc .O a)] .one [B (decide (0<=a.Z/\a.Z<=3/\0<=a.Addr/\0<=a.a8))]:=by
 refine fO 16 [] Tryz.func358 rfl ?_
 repeat'(first|refine gP ?_|with_reducible refine Bf.D (λb=>?_) (λb=>?_)|refine CA (aS _ 0 3) ?_)
 all_goals exact I1 (λz=>[B z]) ((by first|(symm;exact Z0 ω)|exact decide_eq_decide.2 ω))
variable{xs:List aL}
theorem Qe(a:fF xs)(i:Nat):fF (xs.take i):=⟨by have:=a.1;grind,λ_ _=>trivial⟩
def Hk(q:aZ)(a:aZ.sml q):zzA 213 false [.val (some 2) (aZ.enc .O q)] .one [B (jQ q)]:=by
 have l:q.u.length<=1048576:=a.1;refine fO 57 [(5,29,[17,18,19,20,21,22,23,24,25,26,27,28,29,30,31,32,33,34,35,36,37,38,39,40,41,42,43,44,45]),(7,11,[46,47,48,49,50,51,52,53,54,55,56])] Tryz.func213 rfl ?_
 refine ZP ?_
 refine CH (ι:=Nat) (λi=>[(1,.F .box (aZ.enc .O q)),(3,.F .one [I ((i:Nat):Int)])]) (λi=>i<=q.u.length/\db i (lH q.u)=true) (λi=>q.u.length - i) 0 ?_ ⟨C1 _,rfl⟩ λi e=>?_
 ·exact wB
 obtain⟨e,g⟩:=e;by_cases b:i<q.u.length
 ·have j:=ar b
  have h:=F6 ⟨0,q.u.take i⟩ (nth q.u i).Addr (Qe a i);cases c:(q.u.take i).any (fU (nth q.u i).Addr)<;>rw[show(aZ.mk 0 (q.u.take i)).u.any (fU (nth q.u i).Addr)=_ from c]at h
  all_goals
   repeat'(first|refine gE ?_|with_reducible refine Bf.D (λd=>?_) (λd=>?_)|refine CA (Nb _) ?_|refine CM ω (aa (gW ω b)) ?_|refine CX i rfl (by simp;omega) (λr k=>by obtain⟨z,-,rfl⟩:=Y5.1 k;rfl) (O5 ..) ?_)
   all_goals first
    | exact I1 (λz=>[B z]) ((by symm;unfold jQ;rw[cv b (by unfold lH;first|(rw[c];simp;done)|(rw[Z0 ω];rfl))];rfl))
    | ((conv=>whnf);refine CF (i+1) ⟨ω,bT g (by unfold lH;rw[c,O0 ω];rfl)⟩ ω ?_;(exact wB))
 obtain rfl:i=q.u.length:=ω
 repeat'(first|refine gE ?_|with_reducible refine Bf.D (λd=>?_) (λd=>?_)|refine CA (aS _ 0 500) ?_|refine CA (Gt q.u a) ?_)
 all_goals exact I1 (λz=>[B z]) ((by unfold jQ;rw[g];simp only[Bool.true_and];first|(symm;exact Z0 ω)|exact decide_eq_decide.2 ω))
theorem wM(b:aL)(a:Int):zzA 489 false [.val (some 3) (aL.enc .O b),.ptr [I a]] .one [B (fU a b)]:=by
 refine fO 8 [] Tryz.func489 rfl ?_
 refine ZP ?_
 grind [fU]
def BU(xs:List aL)(a:Int)(b:xs.length<=9223372036854775807):zzA 378 false [.val none (ct .O xs),.val none [I a]] .one [B (xs.any (fU a))]:=by
 refine fO 8 [] Tryz.func378 rfl ?_
 repeat'(first|refine gP ?_|refine Cq.mk (Dp (some 3) (aL.enc .O) (fU a) xs) (wM default a).has (λL k rcs c=>?_) ?_|refine CA (tJ xs (fU a) b) ?_)
 ·obtain⟨y,-,rfl,rfl,rfl⟩:=c
  exact wM y a
 rfl
def rp(xs:List aL)(a:aL):Bool:=decide (0<=a.Z/\a.Z<=3/\0<=a.Addr/\0<=a.a8/\(xs.length=0\/(nth xs (xs.length - 1)).a8<=a.a8))&&!xs.any (fU a.Addr)
theorem EW(xs:List aL)(b:aL)(g:xs.length<=1048576):zzA 230 false [.val none (ct .O xs),.val (some 3) (aL.enc .O b)] .one [B (rp xs b)]:=by
 have c:=BU xs b.Addr ω;cases d:xs.any (fU b.Addr)<;>rw[d]at c
 ·by_cases h:xs.length=0
  ·refine fO 40 [(3,15,[25,26,27,28,29,30,31,32,33,34,35,36,37,38,39])] Tryz.func230 rfl ?_
   repeat'(first|refine gP ?_|with_reducible (first|refine Bf.D (λa=>?_) (λa=>?_)|refine Bf.E (λa=>?_) (λa=>?_))|refine CA (fK _) ?_)
   all_goals first
    | exact I1 (λz=>[B z]) ((by unfold rp;rw[d,Bool.not_false,Bool.and_true];first|(symm;exact Z0 ω)|(symm;exact O0 ω)|exact decide_eq_decide.2 ω))
    |(exfalso;omega)
    |trace_state
  have e:xs[((xs.length:Int) - 1).toNat]? = some (nth xs (xs.length - 1)):=by rw[show((xs.length:Int) - 1).toNat=xs.length - 1 by omega];grind [ar]
  refine fO 40 [(3,15,[25,26,27,28,29,30,31,32,33,34,35,36,37,38,39])] Tryz.func230 rfl ?_
  repeat'(first|refine gP ?_|with_reducible (first|refine Bf.D (λa=>?_) (λa=>?_)|refine Bf.E (λa=>?_) (λa=>?_))|refine CA (fK _) ?_|refine CM ω (aa e) ?_)
  all_goals first
   | exact I1 (λz=>[B z]) ((by unfold rp;rw[d,Bool.not_false,Bool.and_true];first|(symm;exact Z0 ω)|(symm;exact O0 ω)|exact decide_eq_decide.2 ω))
   |(exfalso;omega)
   |trace_state
 refine fO 40 [(3,15,[25,26,27,28,29,30,31,32,33,34,35,36,37,38,39])] Tryz.func230 rfl ?_
 repeat'(first|refine gP ?_|with_reducible refine Bf.D (λa=>?_) (λa=>?_)|refine CA (fK _) ?_)
 all_goals exact I1 (λz=>[B z]) ((by unfold rp;rw[d];simp))
theorem Kz(d:i<xs.length):rp (xs.take i) (nth xs i)=lH xs i:=by
 unfold rp lH;have a:(xs.take i).length=i:=ψ
 rw[a]
 congr 1
 refine decide_eq_decide.2 ?_;by_cases b:i=0
 ·subst b;simp
 have c:nth (xs.take i) (i - 1)=nth xs (i - 1):=by
  have:=ar (xs:=xs) (i:=i - 1) ω
  grind [b6]
 rw[c]
theorem HJ(q:aZ)(d:aZ.sml q):zzA 79 false [.val (some 2) (aZ.enc .O q)] .one [B (jQ q)]:=by
 have l:q.u.length<=1048576:=d.1;refine fO 32 [(4,7,[13,14,15,16,17,18,19]),(7,11,[21,22,23,24,25,26,27,28,29,30,31])] Tryz.func79 rfl ?_
 refine ZP ?_
 refine CH (ι:=Nat) (λi=>[(1,.F .box (aZ.enc .O q)),(6,.F .one (ct .O q.u)),(7,.F .one [I (q.u.length)]),(8,.F .one [I ((i:Nat):Int)])]) (λi=>i<=q.u.length/\db i (lH q.u)=true) (λi=>q.u.length - i) 0 ?_ ⟨C1 _,rfl⟩ λi e=>?_
 ·exact wB
 obtain⟨e,g⟩:=e;by_cases a:i<q.u.length
 ·have h:=ar a
  have b:=EW (q.u.take i) (nth q.u i) ψ;rw[Kz a]at b;cases c:lH q.u i<;>rw[c]at b
  all_goals
   repeat'(first|refine gE ?_|refine CX i rfl (by simp;omega) (λr j=>by obtain⟨z,-,rfl⟩:=Y5.1 j;rfl) (O5 ..) ?_)
   all_goals first
    | exact I1 (λz=>[B z]) ((by symm;unfold jQ;rw[cv a c];rfl))
    | ((conv=>whnf);refine CF (i+1) ⟨ω,bT g c⟩ ω ?_;(exact wB))
 obtain rfl:i=q.u.length:=ω
 repeat'(first|refine gE ?_|with_reducible refine Bf.D (λk=>?_) (λk=>?_)|refine CA (aO _ 0 500) ?_|refine CA (zf q.u d) ?_)
 all_goals exact I1 (λz=>[B z]) ((by unfold jQ;rw[g];simp only[Bool.true_and];first|(symm;exact Z0 ω)|exact decide_eq_decide.2 ω))
def iI(a:List Bool):Nat->Int
 | 0=>0
 | i+1=>iI a i+(if nth a i then 1 else 0)
def dC(f:aF):Int:=if cK f then iI f.c f.c.length else 0
def DQ{a:List Bool}(h:nth a i=true):iI a (i+1)=iI a i+1:=by show iI a i+(if nth a i then 1 else 0)=_;rw[h];rfl
def GQ{a:List Bool}(h:nth a i=false):iI a (i+1)=iI a i:=by show iI a i+(if nth a i then 1 else 0)=_;rw[h];simp
theorem pN(f:aF)(g:aF.sml f):zzA 25 false [.val (some 2) (aF.enc .O f)] .one [I (dC f)]:=by
 have l:f.c.length<=1048576:=g.2;have b:=sj f g;cases h:cK f<;>rw[h]at b
 ·refine fO 24 [] Tryz.func25 rfl ?_
  refine ZP ?_
  refine CH (ι:=Nat) (λi=>[(1,.F .box (aF.enc .O f)),(3,.F .one [I ((0:Int))]),(4,.F .one [I ((i:Nat):Int)])]) (λi=>i=0) (λi=>i) (0) ?_ (rfl) λi c=>?_
  ·exact wB
  subst c
  repeat'(first|refine gP ?_|with_reducible refine Bf.D (λj=>?_) (λj=>?_))
  all_goals grind [dC]
 refine fO 24 [] Tryz.func25 rfl ?_
 refine ZP ?_
 refine CH (ι:=Nat) (λi=>[(1,.F .box (aF.enc .O f)),(3,.F .one [I (iI f.c i)]),(4,.F .one [I ((i:Nat):Int)])]) (λi=>i<=f.c.length/\0<=iI f.c i/\iI f.c i<=i) (λi=>f.c.length - i) (0) ?_ (⟨C1 _,by simp[iI],by simp[iI]⟩) λi c=>?_
 ·exact wB
 obtain⟨c,n,o⟩:=c;by_cases k:i<f.c.length
 ·have d:=ar k
  cases e:nth f.c i<;>rw[e]at d
  ·have a:=GQ e
   refine ZE ?_
   (refine CF (i+1) ω ω ?_)
   rw[a];exact wB
  have a:=DQ e
  refine ZE ?_
  (refine CF (i+1) ω ω ?_)
  rw[a];exact wB
 obtain rfl:i=f.c.length:=ω
 refine ZE ?_
 grind [dC]
theorem pS(f:aF)(e:aF.sml f):zzA 93 false [.val (some 2) (aF.enc .O f)] .one [I (dC f)]:=by
 have k:f.c.length<=1048576:=e.2;have b:=nO f e;cases g:cK f<;>rw[g]at b
 ·refine fO 21 [] Tryz.func93 rfl ?_
  refine ZP ?_
  all_goals exact I1 (λz=>[I z]) (by unfold dC;rw[g];rfl)
 refine fO 21 [] Tryz.func93 rfl ?_
 refine ZP ?_
 refine CH (ι:=Nat) (λi=>[(3,.F .one [I (iI f.c i)]),(10,.F .one (fX .O f.c)),(11,.F .one [I (f.c.length)]),(12,.F .one [I ((i:Nat):Int)])]) (λi=>i<=f.c.length/\0<=iI f.c i/\iI f.c i<=i) (λi=>f.c.length - i) (0) ?_ (⟨C1 _,by simp[iI],by simp[iI]⟩) λi h=>?_
 ·exact wB
 obtain⟨h,l,n⟩:=h;by_cases j:i<f.c.length
 ·have c:=ar j
  cases d:nth f.c i<;>rw[d]at c
  ·have a:=GQ d
   refine ZE ?_
   (refine CF (i+1) ω ω ?_)
   rw[a];exact wB
  have a:=DQ d
  refine ZE ?_
  (refine CF (i+1) ω ω ?_)
  rw[a];exact wB
 obtain rfl:i=f.c.length:=ω
 refine ZE ?_
 grind [dC]
def x8(h:ac):Prop:=aG.sml h.K.G.Q
def iN(h:ac)(p:Int)(a:x8 h):zzA 355 false [.val (some 24) (ac.enc .O h),.val none [I p]] .one (aH .own (aQ h p)):=by
 refine fO 23 [] Tryz.func355 rfl ?_ (.inr (bM _))
 repeat'((conv=>whnf);first|with_reducible (first|refine Lm ?_|refine Wm ω ?_|refine Bf.E (λb=>?_) (λb=>?_)|refine Bn ?_|refine qr.wk rfl ?_)|refine Bt ?_|refine Bu ?_|refine CA (fZ h.K.G.Q p a) ?_|refine CA (iu h.K.G.Q _ a) ?_)
 all_goals(unfold aQ;first|rw[CG (by assumption)]|rw[CD (by assumption)])
 all_goals exact⟨rfl,trivial⟩
def kM(h:ac)(p:Int)(a:x8 h):zzA 227 false [.val (some 24) (ac.enc .O h),.val none [I p]] .one (aH .own (aQ h p)):=by
 refine fO 22 [] Tryz.func227 rfl ?_ (.inr (bM _))
 repeat'((conv=>whnf);first|with_reducible (first|refine Lm ?_|refine Wm ω ?_|refine Bf.E (λb=>?_) (λb=>?_)|refine Bn ?_|refine qr.wk rfl ?_)|refine Bt ?_|refine Bu ?_|refine CA (eE h.K.G.Q p a) ?_|refine CA (lA h.K.G.Q _ a) ?_)
 all_goals(unfold aQ;first|rw[CG (by assumption)]|rw[CD (by assumption)])
 all_goals exact⟨rfl,trivial⟩
theorem eU(k:af)(p:Int)(a:aG.sml k.G.Q):zzA 127 false [.val (some 5) (af.enc .O k),.val none [I p]] .one [B (decide ((aC k.G.Q p).l≠0))]:=by
 refine fO 12 [] Tryz.func127 rfl ?_
 repeat'(first|refine gP ?_|refine CA (eE k.G.Q p a) ?_)
 grind
def qq(z:Int):zzA 83 false [.val none [I z]] .one [B (decide (0<=z/\z<=1073741823))]:=by
 refine fO 5 [] Tryz.func83 rfl ?_
 repeat'(first|refine gP ?_|refine CA (aO z 0 1073741823) ?_)
 rfl
theorem mZ(h:ac)(p:Int)(g:h.H.length<=1048576):zzA 219 false [.val (some 24) (ac.enc .O h),.val none [I p]] .one [I (ic h p)]:=by
 refine fO 22 [] Tryz.func219 rfl ?_
 refine ZP ?_
 refine CH (ι:=Nat) (λi=>[(1,.F .one [I (p)]),(2,.F .box (ac.enc .O h)),(5,.F .one [I ((i:Nat):Int)])]) (λi=>i<=h.H.length/\∀(j:Nat)(z:au),j<i->h.H[j]? = some z->nC p z=false) (λi=>h.H.length - i) (0) ?_ ψ λi c=>?_
 ·exact wB
 obtain⟨c,a⟩:=c;by_cases d:i<h.H.length
 ·have b:=ar d
  repeat'(first|refine gE ?_|with_reducible refine Bf.E (λe=>?_) (λe=>?_))
  all_goals first
   | exact I1 (λz=>[I z]) (gd b (O0 (by assumption)) a).symm
   | ((conv=>whnf);refine CF (i+1) ⟨ω,fC b (Z0 (by assumption)) a⟩ ω ?_;(exact wB))
 refine ZE ?_
 exact I1 (λz=>[I z]) (iA ω a).symm
theorem Ee(s:au)(p:Int):zzA 241 false [.val (some 3) (au.enc .O s),.ptr [I p]] .one [B (nC p s)]:=by
 refine fO 8 [] Tryz.func241 rfl ?_
 refine ZP ?_
 grind [nC]
def wx(h:ac)(p:Int)(b:h.H.length<=1048576):zzA 85 false [.val (some 24) (ac.enc .O h),.val none [I p]] .one [I (ic h p)]:=by
 refine fO 9 [] Tryz.func85 rfl ?_
 repeat'(first|refine gP ?_|refine Cq.mk (Dp (some 3) (au.enc .O) (nC p) h.H) (Ee default p).has (λL k rcs a=>?_) ?_|refine CA (y4 h.H (nC p) ω) ?_)
 ·obtain⟨y,-,rfl,rfl,rfl⟩:=a
  exact Ee y p
 rfl
def flight1(m:aM)(i:Nat):List Int:=(m.V.take i).flatMap λl=>l.map (·.Addr)
def flight2(m:aM)(i:Nat):List Int:=(m.k.take i).flatten
theorem pz{l:List aT}(h:m.V[i]? = some l):flight1 m (i+1)=flight1 m i++l.map (·.Addr):=by grind [X7,flight1]
theorem oX(h:m.k[i]? = some l):flight2 m (i+1)=flight2 m i++l:=by grind [X7,flight2]
theorem qi(h:dE m=true):bp m=flight1 m m.V.length++flight2 m m.k.length:=by grind [bp,flight1,flight2]
theorem wR(h:dE m=false):bp m=[]:=by grind [bp]
theorem uC(h:dE m=true):1<=m.V.length/\m.V.length<=4/\m.k.length=m.V.length:=by grind [dE]
def H8 : ∀r∈l.map (rI .O),r.length=1:=by
 intro r a;obtain⟨z,-,rfl⟩:=Y5.1 a;rfl
def LV : ∀r∈l.map (rI .O),bm r=true:=by
 intro r a;obtain⟨z,-,rfl⟩:=Y5.1 a;rfl
theorem Bo(m:aM)(g:aM.sml m):zzA 35 false [.val (some 2) (aM.enc .O m)] .one (aH .own (bp m)):=by
 have h:=wZ m g;cases d:dE m<;>rw[d]at h
 ·refine fO 56 [] Tryz.func35 rfl ?_ (.inr (bM _))
  repeat'((conv=>whnf);first|with_reducible (first|refine Lm ?_|refine Wm ω ?_|refine Bn ?_|refine qr.wk rfl ?_)|refine Bt ?_|refine Bu ?_|refine CA h ?_)
  all_goals(rw[wR d];exact⟨rfl,trivial⟩)
 obtain⟨D,E,F⟩:=uC d;refine fO 56 [] Tryz.func35 rfl ?_ (.inr (bM _))
 refine ZP ?_
 refine CH (ι:=Nat × List Int) (λi=>[(1,.F .box (aM.enc .O m)),(3,.F .one (aH .own i.2)),(4,.F .one [I ((i.1:Nat):Int)])]) (λi=>i.1<=m.V.length/\i.2=flight1 m i.1/\i.2.length<=1048576*i.1) (λi=>m.V.length - i.1) ((0,[])) ?_ (⟨C1 _,rfl,C1 _⟩) λi j=>?_
 ·exact wB
 obtain⟨i,S⟩:=i;obtain⟨j,p,t⟩:=j;simp only at j p t |-;by_cases q:i<m.V.length
 ·have l:=ar q
  have u:(nth m.V i).length<=1048576:=(g.1.2 _ (aE q)).1
  refine ZE ?_
  refine CH (ι:=Nat × List Int) (λk=>[(1,.F .box (aM.enc .O m)),(3,.F .one (aH .own k.2)),(4,.F .one [I ((i:Nat):Int)]),(5,.F .one [I ((k.1:Nat):Int)])]) (λk=>k.1<=(nth m.V i).length/\k.2=S++((nth m.V i).take k.1).map (·.Addr)) (λk=>(nth m.V i).length - k.1) ((0,S)) ?_ ψ λk b=>?_
  ·exact wB
  obtain⟨k,c⟩:=k;obtain⟨b,a⟩:=b;simp only at b a |-;have w:c.length=S.length+k:=ψ
  by_cases e:k<(nth m.V i).length
  ·have n:=ar e
   repeat'(first|refine gE ?_|refine CS cR (λr y=>by rw[I2.1 y];rfl) (by simp[bm,eX]) (by simp;omega) (by show _*8<=_;simp;omega) rfl ?_)
   ((conv=>whnf)
    refine CF (k+1,c++[(nth (nth m.V i) k).Addr]) ⟨(by simp only;omega),(by grind [X7])⟩ (by simp only;omega) ?_
    (repeat'(first|exact trivial|rfl|exact CC rfl (CC (I1 (C.s dY.own) (by simp[rI])) trivial)|refine CC ?_ ?_)))
  obtain rfl:k=(nth m.V i).length:=ω
  rw[C7]at a
  refine ZE ?_
  (refine CF (i+1,c) ⟨(by simp only;omega),(by grind [pz]),(by simp only;omega)⟩ (by simp only;omega) ?_;(exact wB))
 obtain rfl:i=m.V.length:=ω
 refine ZE ?_
 refine CH (ι:=Nat × List Int) (λk=>[(1,.F .box (aM.enc .O m)),(3,.F .one (aH .own k.2)),(6,.F .one [I ((k.1:Nat):Int)])]) (λk=>k.1<=m.k.length/\k.2=S++flight2 m k.1/\k.2.length<=S.length+1048576*k.1) (λk=>m.k.length - k.1) ((0,S)) ?_ (⟨C1 _,by simp[flight2],by simp⟩) λk b=>?_
 ·exact wB
 obtain⟨k,c⟩:=k;obtain⟨b,a,o⟩:=b;simp only at b a o |-;by_cases e:k<m.k.length
 ·have n:=ar e
  have B:(nth m.k k).length<=1048576:=g.2.2 _ (aE e)
  repeat'(first|refine gE ?_|refine CS cR H8 (λ_=>LV) (by simp;omega) (by show _*8<=_;simp;omega) rfl ?_)
  ((conv=>whnf)
   refine CF (k+1,c++nth m.k k) ⟨(by simp only;omega),(by grind [oX]),ψ⟩ (by simp only;omega) ?_
   (repeat'(first|exact trivial|rfl|exact CC rfl (CC (I1 (C.s dY.own) (by simp[rI])) trivial)|refine CC ?_ ?_)))
 obtain rfl:k=m.k.length:=ω
 refine ZE ?_
 rw[qi d,<-p,<-a];rfl
theorem B5(m:aM)(g:aM.sml m):zzA 237 false [.val (some 2) (aM.enc .O m)] .one (aH .own (bp m)):=by
 have h:=wK m g;cases d:dE m<;>rw[d]at h
 ·refine fO 46 [] Tryz.func237 rfl ?_ (.inr (bM _))
  repeat'((conv=>whnf);first|with_reducible (first|refine Lm ?_|refine Wm ω ?_|refine Bn ?_|refine qr.wk rfl ?_)|refine Bt ?_|refine Bu ?_|refine CA h ?_)
  all_goals(rw[wR d];exact⟨rfl,trivial⟩)
 obtain⟨D,E,F⟩:=uC d;refine fO 46 [] Tryz.func237 rfl ?_ (.inr (bM _))
 refine ZP ?_
 refine CH (ι:=Nat × List Int) (λi=>[(1,.F .box (aM.enc .O m)),(3,.F .one (aH .own i.2)),(15,.F .one (dZ .O m.V)),(16,.F .one [I (m.V.length)]),(17,.F .one [I ((i.1:Nat):Int)])]) (λi=>i.1<=m.V.length/\i.2=flight1 m i.1/\i.2.length<=1048576*i.1) (λi=>m.V.length - i.1) ((0,[])) ?_ (⟨C1 _,rfl,C1 _⟩) λi j=>?_
 ·exact wB
 obtain⟨i,S⟩:=i;obtain⟨j,o,q⟩:=j;simp only at j o q |-;by_cases p:i<m.V.length
 ·have t:=ar p
  have u:(nth m.V i).length<=1048576:=(g.1.2 _ (aE p)).1
  refine ZE ?_
  refine CH (ι:=Nat × List Int) (λk=>[(1,.F .box (aM.enc .O m)),(3,.F .one (aH .own k.2)),(15,.F .one (dZ .O m.V)),(16,.F .one [I (m.V.length)]),(17,.F .one [I ((i:Nat):Int)]),(21,.F .one (bK .O (nth m.V i))),(22,.F .one [I ((nth m.V i).length)]),(23,.F .one [I ((k.1:Nat):Int)])]) (λk=>k.1<=(nth m.V i).length/\k.2=S++((nth m.V i).take k.1).map (·.Addr)) (λk=>(nth m.V i).length - k.1) ((0,S)) ?_ ψ λk b=>?_
  ·exact wB
  obtain⟨k,c⟩:=k;obtain⟨b,a⟩:=b;simp only at b a |-;have w:c.length=S.length+k:=ψ
  by_cases e:k<(nth m.V i).length
  ·have l:=ar e
   repeat'(first|refine gE ?_|refine CS cR (λr y=>by rw[I2.1 y];rfl) (by simp[bm,eX]) (by simp;omega) (by show _*8<=_;simp;omega) rfl ?_)
   ((conv=>whnf)
    refine CF (k+1,c++[(nth (nth m.V i) k).Addr]) ⟨(by simp only;omega),(by grind [X7])⟩ (by simp only;omega) ?_
    (repeat'(first|exact trivial|rfl|exact CC rfl (CC (I1 (C.s dY.own) (by simp[rI])) trivial)|refine CC ?_ ?_)))
  obtain rfl:k=(nth m.V i).length:=ω
  rw[C7]at a
  refine ZE ?_
  (refine CF (i+1,c) ⟨(by simp only;omega),(by grind [pz]),(by simp only;omega)⟩ (by simp only;omega) ?_;(exact wB))
 obtain rfl:i=m.V.length:=ω
 refine ZE ?_
 refine CH (ι:=Nat × List Int) (λk=>[(3,.F .one (aH .own k.2)),(35,.F .one (dX .O m.k)),(36,.F .one [I (m.k.length)]),(37,.F .one [I ((k.1:Nat):Int)])]) (λk=>k.1<=m.k.length/\k.2=S++flight2 m k.1/\k.2.length<=S.length+1048576*k.1) (λk=>m.k.length - k.1) ((0,S)) ?_ (⟨C1 _,by simp[flight2],by simp⟩) λk b=>?_
 ·exact wB
 obtain⟨k,c⟩:=k;obtain⟨b,a,n⟩:=b;simp only at b a n |-;by_cases e:k<m.k.length
 ·have l:=ar e
  have B:(nth m.k k).length<=1048576:=g.2.2 _ (aE e)
  repeat'(first|refine gE ?_|refine CS cR H8 (λ_=>LV) (by simp;omega) (by show _*8<=_;simp;omega) rfl ?_)
  ((conv=>whnf)
   refine CF (k+1,c++nth m.k k) ⟨(by simp only;omega),(by grind [oX]),ψ⟩ (by simp only;omega) ?_
   (repeat'(first|exact trivial|rfl|exact CC rfl (CC (I1 (C.s dY.own) (by simp[rI])) trivial)|refine CC ?_ ?_)))
 obtain rfl:k=m.k.length:=ω
 refine ZE ?_
 rw[qi d,<-o,<-a];rfl
def tbl(h:ac):aG:=h.K.G.Q
def gr(h:ac):Nat:=h.K.G.Q.J.length
def A2(xs:List au)(i:Nat):Bool:=decide (i=0\/(nth xs (i - 1)).R<(nth xs i).R)
def Ay(xs:List aB)(i:Nat):Bool:=decide (i=0\/(nth xs (i - 1)).R<(nth xs i).R)
def yF(h:ac)(l:aB)(k:Nat):Bool:=decide ((aQ h (l.R+(k:Nat))).length=1)
def uS(h:ac)(i:Nat):Bool:=Ay h.S i&&db (nth h.S i).a0.toNat (yF h (nth h.S i))
def x4(h:ac)(p:Nat):Bool:=decide ((nth (tbl h).J p).l≠0↔(p:Int)∈pgs h.H h.S)&&(decide ((nth (tbl h).J p).l≠0) != h.a.any (xB (p:Nat)))
def pages0(h:ac):Bool:=((db h.H.length (A2 h.H)&&db h.S.length (uS h))&&(pgs h.H h.S).all λp=>decide (p<gr h))&&db (gr h) (x4 h)
def nS(h:ac)(i:Nat)(q:Int):Bool:=decide (ic h q=(i:Nat)) || (decide (0<=ic h q)&&meshable (nth h.H i) (nth h.H (ic h q).toNat))
def wW(h:ac):Bool:=db h.H.length λi=>(aQ h (nth h.H i).R).all (nS h i)
def ny(h:ac)(i j:Nat):Bool:=decide ((aC (tbl h) (nth h.H i).R).d≠(aC (tbl h) (nth h.H j).R).d) || meshable (nth h.H i) (nth h.H j)
def qj(h:ac):Bool:=db h.H.length λi=>db i (ny h i)
def m9(z:Int)(o:bf):Bool:=decide (o.Id=z)
def lm(h:ac)(o:bf):Bool:=
 let w:=denotes h.H h.S o.Addr
 decide (w.b3=0)&&((decide (w.a6=1)&&decide ((nth h.H w.b2.toNat).Z=bQ o.a3)) || (decide (w.a6=3)&&decide ((nth h.S w.b2.toNat).a3=o.a3)))
def iQ(a:Int)(h:ac)(i:Nat):Bool:=decide ((i=0\/(nth h.X (i - 1)).Addr<(nth h.X i).Addr)/\1<=(nth h.X i).Id/\(nth h.X i).Id<=a/\0<=(nth h.X i).a2/\(nth h.X i).a2<=h.M.length - 1)
def md(a:Int)(h:ac)(i:Nat):Bool:=(iQ a h i&&!(h.X.take i).any (m9 (nth h.X i).Id))&&lm h (nth h.X i)
def gT(h:ac):Bool:=db h.X.length (md (IntKind.i64.wrap (h.g - 1)) h)
def dy(h:ac)(a c:Int):Bool:=
 let w:=denotes h.H h.S a
 (decide (w.a6=1)&&decide (w.b3=0))&&(decide (c<0) || decide ((nth h.H w.b2.toNat).Z=c))
def tQ(h:ac)(c:ax)(k:Nat):Bool:=(nth c.T k).all λa=>dy h a (k:Nat)
def fw(h:ac)(c:ax):Bool:=db c.T.length (tQ h c)
def iD(h:ac)(x:aL):Bool:=dy h x.Addr x.Z
def lG(h:ac)(a:Int):Bool:=dy h a (-1)
def gj(h:ac):List Int:=h.M.flatMap λc=>c.T.flatten
def jU(h:ac):Bool:=((h.M.all (fw h))&&h.q.u.all (iD h))&&(bp h.e).all (lG h)
def holders(h:ac):List Int:=((h.X.map (·.Addr)++gj h)++h.q.u.map (·.Addr))++bp h.e
def kF(sp:List au)(la:List aB)(a:Nat):Bool:=
 let w:=denotes sp la (a:Nat)
 decide (w.b3=0)&&(decide (w.a6=1) || decide (w.a6=3))
def ne(sp:List au)(la:List aB)(n:Nat):List Int:=((List.range n).filter (kF sp la)).map λ(i:Nat)=>(i:Int)
def lh(sp:List au)(la:List aB):List Int:=ne sp la 512
def kq(h:ac):Bool:=(jU h&&decide (holders h).Nodup)&&decide ((holders h).length=(lh h.H h.S).length)
def ni(h:ac):Bool:=h.q.u.all λx=>decide (x.a8<=h.a5)
def dU(h:ac):Bool:=decide (0<=h.a4/\h.a4<=1073741823/\0<=h.a5/\h.a5<=1000000/\0<=h.a9/\h.a9<=1000/\1<=h.g/\h.g<=1000000)
def uB(h:ac):Bool:=if h.j then(kg h.p&&decide (0<=ic h h.p.Y.w))&&decide (0<=ic h h.p.Y.y) else xa h.p
def nl(h:ac):Bool:=((aK h.K&&bI (gr h) h.a)&&bA h.H h.S)&&pages0 h
end Go.Proofs.YtiopgblagimpmaaGreat.Ab
