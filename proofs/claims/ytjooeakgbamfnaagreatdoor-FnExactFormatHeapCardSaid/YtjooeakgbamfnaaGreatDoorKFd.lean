/- The data of the program, its cells, its bulk and its marks. Printed by gen_data.py. No condition. -/
import Derived.Test.YtjooeakgbamfnaaGreatDoorKFc
set_option linter.unusedVariables false
set_option linter.defProp false
set_option linter.unusedSimpArgs false
set_option linter.constructorNameAsVariable false
namespace Go.Proofs.YtjooeakgbamfnaaGreatDoor.Ab
open Go.RowKit
def aK(o:dm)(x:List Int):List C:=[.s o (x.map (rI o))]
def gl(x:List Int):gV (aK .own x)=aK .H x:=by simp[gV,aK,rI,gV]
theorem cu(x:List Int):g9 (aK .own x):=⟨⟨.inl ψ,bc _ _ λy _=>uQ y⟩,trivial⟩
def ri(x:List Int):Prop:=x.length<=9223372036854775807/\∀y∈x,gS y
def fg(x:List Int):Nat:=x.length
def szIntS(x:List Int):Nat:=x.length
def jK(x:List Int):Prop:=x.length<=1048576
def markIntS:List Int->Int->List Int
 | [],_=>[]
 | _::xs,k=>k::markIntS xs (k+1)
def oG:∀(x:List Int)(k:Int),(markIntS x k).length=x.length
 | [],_=>rfl
 | _::xs,k=>by simp[markIntS,oG xs]
def oN:∀(x:List Int)(k:Int)(i:Nat),i<x.length->(markIntS x k)[i]? = some (k+(i:Nat))
 | [],_,i,h=>by simp at h
 | _::xs,k,0,_=>by simp[markIntS]
 | _::xs,k,i+1,h=>by
  simp only[markIntS,List.getElem?_cons_succ];rw[oN xs (k+1) i (by simpa using h)];rw[show k+1+(i:Int)=k+((i+1:Nat):Int) by omega]
def oO(_:List Int)(i:Nat):Nat:=i
def nE{x:List Int}(h:szIntS x<=1048576):jK x:=h
theorem nI(x:List Int):fg x<=8*szIntS x:=by grind [fg,szIntS]
def dn(o:dm)(x:List (List Int)):List C:=[.s o (x.map (aK o))]
def H8(x:List (List Int)):gV (dn .own x)=dn .H x:=by simp[gV,dn,gl,<-hJ,Z2]
theorem Dd(x:List (List Int)):g9 (dn .own x):=⟨⟨.inl ψ,bc _ _ λy _=>cu y⟩,trivial⟩
def nU(x:List (List Int)):Prop:=x.length<=9223372036854775807/\∀y∈x,ri y
def dx:List (List Int)->Nat
 | []=>0
 | x::xs=>fg x+dx xs
def eX:List (List Int)->Nat
 | []=>0
 | x::xs=>szIntS x+eX xs
def szIntSS(x:List (List Int)):Nat:=x.length+eX x
def iC(x:List (List Int)):Prop:=x.length<=1048576/\∀y∈x,jK y
def markIntSS:List (List Int)->Int->List (List Int)
 | [],_=>[]
 | x::xs,k=>markIntS x k::markIntSS xs (k+(fg x:Nat))
def mV:∀(x:List (List Int))(k:Int),(markIntSS x k).length=x.length
 | [],_=>rfl
 | _::xs,k=>by simp[markIntSS,mV xs]
def di:List (List Int)->Nat->Nat
 | [],_=>0
 | _::_,0=>0
 | x::xs,i+1=>fg x+di xs i
def mI:∀(x:List (List Int))(k:Int)(i:Nat)(y:List Int),x[i]? = some y->(markIntSS x k)[i]? = some (markIntS y (k+(di x i:Nat)))
 | [],_,i,y,h=>by simp at h
 | x::xs,k,0,y,h=>by simp at h;subst h;simp[markIntSS,di]
 | x::xs,k,i+1,y,h=>by
  simp only[markIntSS,List.getElem?_cons_succ];rw[mI xs _ i y (by simpa using h)]
  congr 2
  simp only[di];omega
def mP(x:List (List Int)):di x 0=0:=by cases x<;>rfl
def ni:∀(x:List (List Int))(i:Nat)(y:List Int),x[i]? = some y->di x (i+1)=di x i+fg y
 | [],i,y,h=>by simp at h
 | x::xs,0,y,h=>by simp at h;subst h;simp[di,mP]
 | x::xs,i+1,y,h=>by
  simp only[di];rw[ni xs i y (by simpa using h)];omega
def oU:∀(x:List (List Int)),di x x.length=dx x
 | []=>rfl
 | x::xs=>by simp only[List.length_cons,di,dx,oU xs]
def oS:∀{x:List (List Int)}{y:List Int},y∈x->szIntS y<=eX x
 | [],y,h=>by simp at h
 | x::xs,y,h=>by
  simp only[eX];rcases List.mem_cons.1 h with rfl|h
  ·omega
  have:=oS h;omega
theorem lS{x:List (List Int)}(h:szIntSS x<=1048576):iC x:=⟨by grind [szIntSS],λy a=>nE (by have:=oS a;grind [szIntSS])⟩
theorem ov:∀(x:List (List Int)),dx x<=8*eX x
 | []=>by simp[dx]
 | x::xs=>by have:=ov xs;grind [nI,dx,eX]
theorem lZ(x:List (List Int)):dx x<=8*szIntSS x:=by grind [ov,szIntSS]
def dd:List (List Int)->Nat->Nat
 | [],_=>0
 | _::_,0=>0
 | x::xs,i+1=>szIntS x+dd xs i
def iB(x:List (List Int)):dd x 0=0:=by cases x<;>rfl
def mi:∀(x:List (List Int))(i:Nat)(y:List Int),x[i]? = some y->dd x (i+1)=dd x i+szIntS y
 | [],i,y,h=>by simp at h
 | x::xs,0,y,h=>by simp at h;subst h;simp[dd,iB]
 | x::xs,i+1,y,h=>by
  simp only[dd];rw[mi xs i y (by simpa using h)];omega
def ng:∀(x:List (List Int)),dd x x.length=eX x
 | []=>rfl
 | x::xs=>by simp only[List.length_cons,dd,eX,ng xs]
def jW:∀(x:List (List Int))(i:Nat),dd x i<=eX x
 | [],_=>by simp[dd]
 | x::xs,0=>by simp[dd]
 | x::xs,i+1=>by simp only[dd,eX];have:=jW xs i;omega
def qo:∀(x:List (List Int))(i:Nat),di x i<=dx x
 | [],_=>by simp[di]
 | x::xs,0=>by simp[di]
 | x::xs,i+1=>by simp only[di,dx];have:=qo xs i;omega
def fC(o:dm)(x:List Bool):List C:=[.s o (x.map (rB o))]
theorem Dn(x:List Bool):g9 (fC .own x):=⟨⟨.inl ψ,bc _ _ λy _=>wZ y⟩,trivial⟩
def wb(x:List Bool):Prop:=x.length<=9223372036854775807/\∀y∈x,Jw y
def ix(x:List Bool):Nat:=x.length
def szBoolS(x:List Bool):Nat:=x.length
def lD(x:List Bool):Prop:=x.length<=1048576
def markBoolS:List Bool->Int->List Bool
 | [],_=>[]
 | _::xs,k=>decide (k.tmod 3=0)::markBoolS xs (k+1)
def mE:∀(x:List Bool)(k:Int),(markBoolS x k).length=x.length
 | [],_=>rfl
 | _::xs,k=>by simp[markBoolS,mE xs]
def nr:∀(x:List Bool)(k:Int)(i:Nat),i<x.length->(markBoolS x k)[i]? = some (decide ((k+(i:Nat)).tmod 3=0))
 | [],_,i,h=>by simp at h
 | _::xs,k,0,_=>by simp[markBoolS]
 | _::xs,k,i+1,h=>by
  simp only[markBoolS,List.getElem?_cons_succ];rw[nr xs (k+1) i (by simpa using h)];rw[show k+1+(i:Int)=k+((i+1:Nat):Int) by omega]
def lX(_:List Bool)(i:Nat):Nat:=i
def yw{x:List Bool}(h:szBoolS x<=1048576):lD x:=h
theorem xi(x:List Bool):ix x<=8*szBoolS x:=by grind [ix,szBoolS]
structure aC where
 V:List (List Int)
 c:List Bool
deriving DecidableEq,Inhabited
def aC.enc(o:dm)(x:aC):List C:=[.s o (x.V.map (aK o)),.s o (x.c.map (rB o))]
theorem aC.enc_fr(x:aC):g9 (aC.enc .own x):=⟨⟨.inl ψ,bc _ _ λy _=>cu y⟩,⟨.inl ψ,bc _ _ λy _=>wZ y⟩,trivial⟩
def aC.wf(x:aC):Prop:=nU x.V/\wb x.c
def aC.cnt(x:aC):Nat:=dx x.V+ix x.c
def aC.sz(x:aC):Nat:=szIntSS x.V+szBoolS x.c
def aC.sml(x:aC):Prop:=iC x.V/\lD x.c
theorem aC.sml_of{x:aC}(h:aC.sz x<=1048576):aC.sml x:=⟨lS (by grind [aC.sz]),yw (by grind [aC.sz])⟩
theorem aC.cnt_le(x:aC):aC.cnt x<=8*aC.sz x:=by grind [lZ,xi,aC.cnt,aC.sz]
def aC.mark(x:aC)(k:Int):aC:={x with V:=markIntSS x.V (k),c:=markBoolS x.c (k+(dx x.V:Nat))}
structure aD where
 o:Int
 j:Int
deriving DecidableEq,Inhabited
def aD.enc(o:dm)(x:aD):List C:=[I x.o,I x.j]
def aD.enc_fz(x:aD):gV (aD.enc .own x)=aD.enc .H x:=by simp[gV,aD.enc]
def aD.enc_fr(x:aD):g9 (aD.enc .own x):=⟨trivial,trivial,trivial⟩
def aD.wf(x:aD):Prop:=gS x.o/\gS x.j
def aD.cnt(_:aD):Nat:=2
def aD.sml(_:aD):Prop:=True
def aD.mark(_:aD)(k:Int):aD:=⟨k,k+1⟩
def d4(o:dm)(x:List aD):List C:=[.s o (x.map (aD.enc o))]
theorem yq(x:List aD):g9 (d4 .own x):=⟨⟨.inl ψ,bc _ _ λy _=>aD.enc_fr y⟩,trivial⟩
def pa(x:List aD):Prop:=x.length<=9223372036854775807/\∀y∈x,aD.wf y
def d3:List aD->Nat
 | []=>0
 | x::xs=>aD.cnt x+d3 xs
def ir(x:List aD):Nat:=x.length
def iI(x:List aD):Prop:=x.length<=1048576/\∀y∈x,aD.sml y
def dv:List aD->Int->List aD
 | [],_=>[]
 | x::xs,k=>aD.mark x k::dv xs (k+(aD.cnt x:Nat))
def kN:∀(x:List aD)(k:Int),(dv x k).length=x.length
 | [],_=>rfl
 | _::xs,k=>by simp[dv,kN xs]
def ce:List aD->Nat->Nat
 | [],_=>0
 | _::_,0=>0
 | x::xs,i+1=>aD.cnt x+ce xs i
def kA:∀(x:List aD)(k:Int)(i:Nat)(y:aD),x[i]? = some y->(dv x k)[i]? = some (aD.mark y (k+(ce x i:Nat)))
 | [],_,i,y,h=>by simp at h
 | x::xs,k,0,y,h=>by simp at h;subst h;simp[dv,ce]
 | x::xs,k,i+1,y,h=>by
  simp only[dv,List.getElem?_cons_succ];rw[kA xs _ i y (by simpa using h)]
  congr 2
  simp only[ce];omega
def kB(x:List aD):ce x 0=0:=by cases x<;>rfl
def kx:∀(x:List aD)(i:Nat)(y:aD),x[i]? = some y->ce x (i+1)=ce x i+aD.cnt y
 | [],i,y,h=>by simp at h
 | x::xs,0,y,h=>by simp at h;subst h;simp[ce,kB]
 | x::xs,i+1,y,h=>by
  simp only[ce];rw[kx xs i y (by simpa using h)];omega
def lB:∀(x:List aD),ce x x.length=d3 x
 | []=>rfl
 | x::xs=>by simp only[List.length_cons,ce,d3,lB xs]
def tw{x:List aD}(h:ir x<=1048576):iI x:=⟨h,λ_ _=>trivial⟩
theorem mK:∀(x:List aD),d3 x<=8*ir x
 | []=>by simp[d3]
 | x::xs=>by have:=mK xs;grind [d3,ir,aD.cnt]
def mW:∀(x:List aD)(i:Nat),ce x i<=d3 x
 | [],_=>by simp[ce]
 | x::xs,0=>by simp[ce]
 | x::xs,i+1=>by simp only[ce,d3];have:=mW xs i;omega
structure az where
 K:List aD
deriving DecidableEq,Inhabited
def az.enc(o:dm)(x:az):List C:=[.s o (x.K.map (aD.enc o))]
theorem az.enc_fr(x:az):g9 (az.enc .own x):=⟨⟨.inl ψ,bc _ _ λy _=>aD.enc_fr y⟩,trivial⟩
def az.wf(x:az):Prop:=pa x.K
def az.cnt(x:az):Nat:=d3 x.K
def az.sz(x:az):Nat:=ir x.K
def az.sml(x:az):Prop:=iI x.K
theorem az.sml_of{x:az}(h:az.sz x<=1048576):az.sml x:=tw (by grind [az.sz])
theorem az.cnt_le(x:az):az.cnt x<=8*az.sz x:=by grind [mK,az.cnt,az.sz]
def az.mark(x:az)(k:Int):az:={x with K:=dv x.K (k)}
structure aB where
 U:aC
 a:az
deriving DecidableEq,Inhabited
def aB.enc(o:dm)(x:aB):List C:=[.s o (x.U.V.map (aK o)),.s o (x.U.c.map (rB o)),.s o (x.a.K.map (aD.enc o))]
theorem aB.enc_fr(x:aB):g9 (aB.enc .own x):=⟨⟨.inl ψ,bc _ _ λy _=>cu y⟩,⟨.inl ψ,bc _ _ λy _=>wZ y⟩,⟨.inl ψ,bc _ _ λy _=>aD.enc_fr y⟩,trivial⟩
def aB.wf(x:aB):Prop:=aC.wf x.U/\az.wf x.a
def aB.cnt(x:aB):Nat:=aC.cnt x.U+az.cnt x.a
def aB.sz(x:aB):Nat:=aC.sz x.U+az.sz x.a
def aB.sml(x:aB):Prop:=aC.sml x.U/\az.sml x.a
theorem aB.sml_of{x:aB}(h:aB.sz x<=1048576):aB.sml x:=⟨aC.sml_of (by grind [aB.sz]),az.sml_of (by grind [aB.sz])⟩
theorem aB.cnt_le(x:aB):aB.cnt x<=8*aB.sz x:=by grind [aC.cnt_le,az.cnt_le,aB.cnt,aB.sz]
def aB.mark(x:aB)(k:Int):aB:={x with U:=aC.mark x.U (k),a:=az.mark x.a (k+(aC.cnt x.U:Nat))}
structure au where
 R:aB
 a8:Int
 k:List Int
deriving DecidableEq,Inhabited
def au.enc(o:dm)(x:au):List C:=[.s o (x.R.U.V.map (aK o)),.s o (x.R.U.c.map (rB o)),.s o (x.R.a.K.map (aD.enc o)),I x.a8,.s o (x.k.map (rI o))]
theorem au.enc_fr(x:au):g9 (au.enc .own x):=⟨⟨.inl ψ,bc _ _ λy _=>cu y⟩,⟨.inl ψ,bc _ _ λy _=>wZ y⟩,⟨.inl ψ,bc _ _ λy _=>aD.enc_fr y⟩,trivial,⟨.inl ψ,bc _ _ λy _=>uQ y⟩,trivial⟩
def au.wf(x:au):Prop:=aB.wf x.R/\gS x.a8/\ri x.k
def au.cnt(x:au):Nat:=aB.cnt x.R+fg x.k
def au.sz(x:au):Nat:=aB.sz x.R+szIntS x.k
def au.sml(x:au):Prop:=aB.sml x.R/\jK x.k
theorem au.sml_of{x:au}(h:au.sz x<=1048576):au.sml x:=⟨aB.sml_of (by grind [au.sz]),nE (by grind [au.sz])⟩
theorem au.cnt_le(x:au):au.cnt x<=8*au.sz x:=by grind [aB.cnt_le,nI,au.cnt,au.sz]
def au.mark(x:au)(k:Int):au:={x with R:=aB.mark x.R (k),k:=markIntS x.k (k+(aB.cnt x.R:Nat))}
structure aA where
 At:Int
 a2:Int
deriving DecidableEq,Inhabited
def aA.enc(o:dm)(x:aA):List C:=[I x.At,I x.a2]
def aA.enc_fz(x:aA):gV (aA.enc .own x)=aA.enc .H x:=by simp[gV,aA.enc]
def aA.enc_fr(x:aA):g9 (aA.enc .own x):=⟨trivial,trivial,trivial⟩
def aA.wf(x:aA):Prop:=gS x.At/\gS x.a2
def aA.cnt(_:aA):Nat:=2
def aA.sml(_:aA):Prop:=True
def aA.mark(_:aA)(k:Int):aA:=⟨k,k+1⟩
def bQ(o:dm)(x:List aA):List C:=[.s o (x.map (aA.enc o))]
theorem yF(x:List aA):g9 (bQ .own x):=⟨⟨.inl ψ,bc _ _ λy _=>aA.enc_fr y⟩,trivial⟩
def pF(x:List aA):Prop:=x.length<=9223372036854775807/\∀y∈x,aA.wf y
def bF:List aA->Nat
 | []=>0
 | x::xs=>aA.cnt x+bF xs
def iq(x:List aA):Nat:=x.length
def dQ(x:List aA):Prop:=x.length<=1048576/\∀y∈x,aA.sml y
def dq:List aA->Int->List aA
 | [],_=>[]
 | x::xs,k=>aA.mark x k::dq xs (k+(aA.cnt x:Nat))
def kM:∀(x:List aA)(k:Int),(dq x k).length=x.length
 | [],_=>rfl
 | _::xs,k=>by simp[dq,kM xs]
def cf:List aA->Nat->Nat
 | [],_=>0
 | _::_,0=>0
 | x::xs,i+1=>aA.cnt x+cf xs i
def kE:∀(x:List aA)(k:Int)(i:Nat)(y:aA),x[i]? = some y->(dq x k)[i]? = some (aA.mark y (k+(cf x i:Nat)))
 | [],_,i,y,h=>by simp at h
 | x::xs,k,0,y,h=>by simp at h;subst h;simp[dq,cf]
 | x::xs,k,i+1,y,h=>by
  simp only[dq,List.getElem?_cons_succ];rw[kE xs _ i y (by simpa using h)]
  congr 2
  simp only[cf];omega
def kJ(x:List aA):cf x 0=0:=by cases x<;>rfl
def kw:∀(x:List aA)(i:Nat)(y:aA),x[i]? = some y->cf x (i+1)=cf x i+aA.cnt y
 | [],i,y,h=>by simp at h
 | x::xs,0,y,h=>by simp at h;subst h;simp[cf,kJ]
 | x::xs,i+1,y,h=>by
  simp only[cf];rw[kw xs i y (by simpa using h)];omega
def lf:∀(x:List aA),cf x x.length=bF x
 | []=>rfl
 | x::xs=>by simp only[List.length_cons,cf,bF,lf xs]
def tt{x:List aA}(h:iq x<=1048576):dQ x:=⟨h,λ_ _=>trivial⟩
theorem ns:∀(x:List aA),bF x<=8*iq x
 | []=>by simp[bF]
 | x::xs=>by have:=ns xs;grind [bF,iq,aA.cnt]
def mL:∀(x:List aA)(i:Nat),cf x i<=bF x
 | [],_=>by simp[cf]
 | x::xs,0=>by simp[cf]
 | x::xs,i+1=>by simp only[cf,bF];have:=mL xs i;omega
structure ah where
 M:Int
 T:Int
 l:Int
deriving DecidableEq,Inhabited
def ah.enc(o:dm)(x:ah):List C:=[I x.M,I x.T,I x.l]
def ah.enc_fz(x:ah):gV (ah.enc .own x)=ah.enc .H x:=by simp[gV,ah.enc]
def ah.enc_fr(x:ah):g9 (ah.enc .own x):=⟨trivial,trivial,trivial,trivial⟩
def ah.wf(x:ah):Prop:=gS x.M/\gS x.T/\gS x.l
def ah.cnt(_:ah):Nat:=3
def ah.sml(_:ah):Prop:=True
def ah.mark(_:ah)(k:Int):ah:=⟨k,k+1,k+1+1⟩
def bi(o:dm)(x:List ah):List C:=[.s o (x.map (ah.enc o))]
theorem ze(x:List ah):g9 (bi .own x):=⟨⟨.inl ψ,bc _ _ λy _=>ah.enc_fr y⟩,trivial⟩
def rx(x:List ah):Prop:=x.length<=9223372036854775807/\∀y∈x,ah.wf y
def cK:List ah->Nat
 | []=>0
 | x::xs=>ah.cnt x+cK xs
def jy(x:List ah):Nat:=x.length
def bJ(x:List ah):Prop:=x.length<=1048576/\∀y∈x,ah.sml y
def dJ:List ah->Int->List ah
 | [],_=>[]
 | x::xs,k=>ah.mark x k::dJ xs (k+(ah.cnt x:Nat))
def kU:∀(x:List ah)(k:Int),(dJ x k).length=x.length
 | [],_=>rfl
 | _::xs,k=>by simp[dJ,kU xs]
def cN:List ah->Nat->Nat
 | [],_=>0
 | _::_,0=>0
 | x::xs,i+1=>ah.cnt x+cN xs i
def lh:∀(x:List ah)(k:Int)(i:Nat)(y:ah),x[i]? = some y->(dJ x k)[i]? = some (ah.mark y (k+(cN x i:Nat)))
 | [],_,i,y,h=>by simp at h
 | x::xs,k,0,y,h=>by simp at h;subst h;simp[dJ,cN]
 | x::xs,k,i+1,y,h=>by
  simp only[dJ,List.getElem?_cons_succ];rw[lh xs _ i y (by simpa using h)]
  congr 2
  simp only[cN];omega
def lY(x:List ah):cN x 0=0:=by cases x<;>rfl
def lF:∀(x:List ah)(i:Nat)(y:ah),x[i]? = some y->cN x (i+1)=cN x i+ah.cnt y
 | [],i,y,h=>by simp at h
 | x::xs,0,y,h=>by simp at h;subst h;simp[cN,lY]
 | x::xs,i+1,y,h=>by
  simp only[cN];rw[lF xs i y (by simpa using h)];omega
def nq:∀(x:List ah),cN x x.length=cK x
 | []=>rfl
 | x::xs=>by simp only[List.length_cons,cN,cK,nq xs]
def vr{x:List ah}(h:jy x<=1048576):bJ x:=⟨h,λ_ _=>trivial⟩
theorem oH:∀(x:List ah),cK x<=8*jy x
 | []=>by simp[cK]
 | x::xs=>by have:=oH xs;grind [cK,jy,ah.cnt]
def oA:∀(x:List ah)(i:Nat),cN x i<=cK x
 | [],_=>by simp[cN]
 | x::xs,0=>by simp[cN]
 | x::xs,i+1=>by simp only[cN,cK];have:=oA xs i;omega
structure am where
 M:Int
 i:Int
 g:Int
deriving DecidableEq,Inhabited
def am.enc(o:dm)(x:am):List C:=[I x.M,I x.i,I x.g]
def am.enc_fz(x:am):gV (am.enc .own x)=am.enc .H x:=by simp[gV,am.enc]
def am.enc_fr(x:am):g9 (am.enc .own x):=⟨trivial,trivial,trivial,trivial⟩
def am.wf(x:am):Prop:=gS x.M/\gS x.i/\gS x.g
def am.cnt(_:am):Nat:=3
def am.sml(_:am):Prop:=True
def am.mark(_:am)(k:Int):am:=⟨k,k+1,k+1+1⟩
def aP(o:dm)(x:List am):List C:=[.s o (x.map (am.enc o))]
theorem y2(x:List am):g9 (aP .own x):=⟨⟨.inl ψ,bc _ _ λy _=>am.enc_fr y⟩,trivial⟩
def ph(x:List am):Prop:=x.length<=9223372036854775807/\∀y∈x,am.wf y
def cg:List am->Nat
 | []=>0
 | x::xs=>am.cnt x+cg xs
def ip(x:List am):Nat:=x.length
def bw(x:List am):Prop:=x.length<=1048576/\∀y∈x,am.sml y
def dr:List am->Int->List am
 | [],_=>[]
 | x::xs,k=>am.mark x k::dr xs (k+(am.cnt x:Nat))
def kD:∀(x:List am)(k:Int),(dr x k).length=x.length
 | [],_=>rfl
 | _::xs,k=>by simp[dr,kD xs]
def cb:List am->Nat->Nat
 | [],_=>0
 | _::_,0=>0
 | x::xs,i+1=>am.cnt x+cb xs i
def ky:∀(x:List am)(k:Int)(i:Nat)(y:am),x[i]? = some y->(dr x k)[i]? = some (am.mark y (k+(cb x i:Nat)))
 | [],_,i,y,h=>by simp at h
 | x::xs,k,0,y,h=>by simp at h;subst h;simp[dr,cb]
 | x::xs,k,i+1,y,h=>by
  simp only[dr,List.getElem?_cons_succ];rw[ky xs _ i y (by simpa using h)]
  congr 2
  simp only[cb];omega
def kI(x:List am):cb x 0=0:=by cases x<;>rfl
def kL:∀(x:List am)(i:Nat)(y:am),x[i]? = some y->cb x (i+1)=cb x i+am.cnt y
 | [],i,y,h=>by simp at h
 | x::xs,0,y,h=>by simp at h;subst h;simp[cb,kI]
 | x::xs,i+1,y,h=>by
  simp only[cb];rw[kL xs i y (by simpa using h)];omega
def kX:∀(x:List am),cb x x.length=cg x
 | []=>rfl
 | x::xs=>by simp only[List.length_cons,cb,cg,kX xs]
def tP{x:List am}(h:ip x<=1048576):bw x:=⟨h,λ_ _=>trivial⟩
theorem nj:∀(x:List am),cg x<=8*ip x
 | []=>by simp[cg]
 | x::xs=>by have:=nj xs;grind [cg,ip,am.cnt]
def mZ:∀(x:List am)(i:Nat),cb x i<=cg x
 | [],_=>by simp[cb]
 | x::xs,0=>by simp[cb]
 | x::xs,i+1=>by simp only[cb,cg];have:=mZ xs i;omega
structure bg where
 Id:Int
 Z:Int
 g:Int
 a3:Int
deriving DecidableEq,Inhabited
def bg.enc(o:dm)(x:bg):List C:=[I x.Id,I x.Z,I x.g,I x.a3]
def bg.enc_fz(x:bg):gV (bg.enc .own x)=bg.enc .H x:=by simp[gV,bg.enc]
def bg.enc_fr(x:bg):g9 (bg.enc .own x):=⟨trivial,trivial,trivial,trivial,trivial⟩
def bg.wf(x:bg):Prop:=gS x.Id/\gS x.Z/\gS x.g/\gS x.a3
def bg.cnt(_:bg):Nat:=4
def bg.sml(_:bg):Prop:=True
def bg.mark(_:bg)(k:Int):bg:=⟨k,k+1,k+1+1,k+1+1+1⟩
def ee(o:dm)(x:List bg):List C:=[.s o (x.map (bg.enc o))]
theorem Dm(x:List bg):g9 (ee .own x):=⟨⟨.inl ψ,bc _ _ λy _=>bg.enc_fr y⟩,trivial⟩
def wm(x:List bg):Prop:=x.length<=9223372036854775807/\∀y∈x,bg.wf y
def d6:List bg->Nat
 | []=>0
 | x::xs=>bg.cnt x+d6 xs
def mn(x:List bg):Nat:=x.length
def lV(x:List bg):Prop:=x.length<=1048576/\∀y∈x,bg.sml y
def eb:List bg->Int->List bg
 | [],_=>[]
 | x::xs,k=>bg.mark x k::eb xs (k+(bg.cnt x:Nat))
def mO:∀(x:List bg)(k:Int),(eb x k).length=x.length
 | [],_=>rfl
 | _::xs,k=>by simp[eb,mO xs]
def dl:List bg->Nat->Nat
 | [],_=>0
 | _::_,0=>0
 | x::xs,i+1=>bg.cnt x+dl xs i
def mD:∀(x:List bg)(k:Int)(i:Nat)(y:bg),x[i]? = some y->(eb x k)[i]? = some (bg.mark y (k+(dl x i:Nat)))
 | [],_,i,y,h=>by simp at h
 | x::xs,k,0,y,h=>by simp at h;subst h;simp[eb,dl]
 | x::xs,k,i+1,y,h=>by
  simp only[eb,List.getElem?_cons_succ];rw[mD xs _ i y (by simpa using h)]
  congr 2
  simp only[dl];omega
def np(x:List bg):dl x 0=0:=by cases x<;>rfl
def nh:∀(x:List bg)(i:Nat)(y:bg),x[i]? = some y->dl x (i+1)=dl x i+bg.cnt y
 | [],i,y,h=>by simp at h
 | x::xs,0,y,h=>by simp at h;subst h;simp[dl,np]
 | x::xs,i+1,y,h=>by
  simp only[dl];rw[nh xs i y (by simpa using h)];omega
def oz:∀(x:List bg),dl x x.length=d6 x
 | []=>rfl
 | x::xs=>by simp only[List.length_cons,dl,d6,oz xs]
def xx{x:List bg}(h:mn x<=1048576):lV x:=⟨h,λ_ _=>trivial⟩
theorem qq:∀(x:List bg),d6 x<=8*mn x
 | []=>by simp[d6]
 | x::xs=>by have:=qq xs;grind [d6,mn,bg.cnt]
def qu:∀(x:List bg)(i:Nat),dl x i<=d6 x
 | [],_=>by simp[dl]
 | x::xs,0=>by simp[dl]
 | x::xs,i+1=>by simp only[dl,d6];have:=qu xs i;omega
structure ar where
 W:List (List Int)
deriving DecidableEq,Inhabited
def ar.enc(o:dm)(x:ar):List C:=[.s o (x.W.map (aK o))]
def ar.enc_fz(x:ar):gV (ar.enc .own x)=ar.enc .H x:=by simp[gV,ar.enc,gl,<-hJ,Z2]
theorem ar.enc_fr(x:ar):g9 (ar.enc .own x):=⟨⟨.inl ψ,bc _ _ λy _=>cu y⟩,trivial⟩
def ar.wf(x:ar):Prop:=nU x.W
def ar.cnt(x:ar):Nat:=dx x.W
def ar.sz(x:ar):Nat:=szIntSS x.W
def ar.sml(x:ar):Prop:=iC x.W
theorem ar.sml_of{x:ar}(h:ar.sz x<=1048576):ar.sml x:=lS (by grind [ar.sz])
theorem ar.cnt_le(x:ar):ar.cnt x<=8*ar.sz x:=by grind [lZ,ar.cnt,ar.sz]
def ar.mark(x:ar)(k:Int):ar:={x with W:=markIntSS x.W (k)}
def cP(o:dm)(x:List ar):List C:=[.s o (x.map (ar.enc o))]
theorem xt(x:List ar):g9 (cP .own x):=⟨⟨.inl ψ,bc _ _ λy _=>ar.enc_fr y⟩,trivial⟩
def pp(x:List ar):Prop:=x.length<=9223372036854775807/\∀y∈x,ar.wf y
def cG:List ar->Nat
 | []=>0
 | x::xs=>ar.cnt x+cG xs
def dG:List ar->Nat
 | []=>0
 | x::xs=>ar.sz x+dG xs
def ec(x:List ar):Nat:=x.length+dG x
def iM(x:List ar):Prop:=x.length<=1048576/\∀y∈x,ar.sml y
def dt:List ar->Int->List ar
 | [],_=>[]
 | x::xs,k=>ar.mark x k::dt xs (k+(ar.cnt x:Nat))
def kK:∀(x:List ar)(k:Int),(dt x k).length=x.length
 | [],_=>rfl
 | _::xs,k=>by simp[dt,kK xs]
def bX:List ar->Nat->Nat
 | [],_=>0
 | _::_,0=>0
 | x::xs,i+1=>ar.cnt x+bX xs i
def kP:∀(x:List ar)(k:Int)(i:Nat)(y:ar),x[i]? = some y->(dt x k)[i]? = some (ar.mark y (k+(bX x i:Nat)))
 | [],_,i,y,h=>by simp at h
 | x::xs,k,0,y,h=>by simp at h;subst h;simp[dt,bX]
 | x::xs,k,i+1,y,h=>by
  simp only[dt,List.getElem?_cons_succ];rw[kP xs _ i y (by simpa using h)]
  congr 2
  simp only[bX];omega
def kO(x:List ar):bX x 0=0:=by cases x<;>rfl
def k7:∀(x:List ar)(i:Nat)(y:ar),x[i]? = some y->bX x (i+1)=bX x i+ar.cnt y
 | [],i,y,h=>by simp at h
 | x::xs,0,y,h=>by simp at h;subst h;simp[bX,kO]
 | x::xs,i+1,y,h=>by
  simp only[bX];rw[k7 xs i y (by simpa using h)];omega
def lG:∀(x:List ar),bX x x.length=cG x
 | []=>rfl
 | x::xs=>by simp only[List.length_cons,bX,cG,lG xs]
def lT:∀{x:List ar}{y:ar},y∈x->ar.sz y<=dG x
 | [],y,h=>by simp at h
 | x::xs,y,h=>by
  simp only[dG];rcases List.mem_cons.1 h with rfl|h
  ·omega
  have:=lT h;omega
theorem tR{x:List ar}(h:ec x<=1048576):iM x:=⟨by grind [ec],λy a=>ar.sml_of (by have:=lT a;grind [ec])⟩
theorem lb:∀(x:List ar),cG x<=8*dG x
 | []=>by simp[cG]
 | x::xs=>by have:=lb xs;grind [ar.cnt_le,cG,dG]
theorem t9(x:List ar):cG x<=8*ec x:=by grind [lb,ec]
def cj:List ar->Nat->Nat
 | [],_=>0
 | _::_,0=>0
 | x::xs,i+1=>ar.sz x+cj xs i
def fT(x:List ar):cj x 0=0:=by cases x<;>rfl
def js:∀(x:List ar)(i:Nat)(y:ar),x[i]? = some y->cj x (i+1)=cj x i+ar.sz y
 | [],i,y,h=>by simp at h
 | x::xs,0,y,h=>by simp at h;subst h;simp[cj,fT]
 | x::xs,i+1,y,h=>by
  simp only[cj];rw[js xs i y (by simpa using h)];omega
def kj:∀(x:List ar),cj x x.length=dG x
 | []=>rfl
 | x::xs=>by simp only[List.length_cons,cj,dG,kj xs]
def iN:∀(x:List ar)(i:Nat),cj x i<=dG x
 | [],_=>by simp[cj]
 | x::xs,0=>by simp[cj]
 | x::xs,i+1=>by simp only[cj,dG];have:=iN xs i;omega
def mG:∀(x:List ar)(i:Nat),bX x i<=cG x
 | [],_=>by simp[bX]
 | x::xs,0=>by simp[bX]
 | x::xs,i+1=>by simp only[bX,cG];have:=mG xs i;omega
structure aH where
 To:Int
 Z:Int
deriving DecidableEq,Inhabited
def aH.enc(o:dm)(x:aH):List C:=[I x.To,I x.Z]
def aH.enc_fz(x:aH):gV (aH.enc .own x)=aH.enc .H x:=by simp[gV,aH.enc]
def aH.enc_fr(x:aH):g9 (aH.enc .own x):=⟨trivial,trivial,trivial⟩
def aH.wf(x:aH):Prop:=gS x.To/\gS x.Z
def aH.cnt(_:aH):Nat:=2
def aH.sml(_:aH):Prop:=True
def aH.mark(_:aH)(k:Int):aH:=⟨k,k+1⟩
def bV(o:dm)(x:List aH):List C:=[.s o (x.map (aH.enc o))]
def yQ(x:List aH):gV (bV .own x)=bV .H x:=by simp[gV,bV,aH.enc_fz,<-hJ,Z2]
theorem jN(x:List aH):g9 (bV .own x):=⟨⟨.inl ψ,bc _ _ λy _=>aH.enc_fr y⟩,trivial⟩
def ru(x:List aH):Prop:=x.length<=9223372036854775807/\∀y∈x,aH.wf y
def db:List aH->Nat
 | []=>0
 | x::xs=>aH.cnt x+db xs
def fG(x:List aH):Nat:=x.length
def j8(x:List aH):Prop:=x.length<=1048576/\∀y∈x,aH.sml y
def d2:List aH->Int->List aH
 | [],_=>[]
 | x::xs,k=>aH.mark x k::d2 xs (k+(aH.cnt x:Nat))
def mg:∀(x:List aH)(k:Int),(d2 x k).length=x.length
 | [],_=>rfl
 | _::xs,k=>by simp[d2,mg xs]
def cM:List aH->Nat->Nat
 | [],_=>0
 | _::_,0=>0
 | x::xs,i+1=>aH.cnt x+cM xs i
def lr:∀(x:List aH)(k:Int)(i:Nat)(y:aH),x[i]? = some y->(d2 x k)[i]? = some (aH.mark y (k+(cM x i:Nat)))
 | [],_,i,y,h=>by simp at h
 | x::xs,k,0,y,h=>by simp at h;subst h;simp[d2,cM]
 | x::xs,k,i+1,y,h=>by
  simp only[d2,List.getElem?_cons_succ];rw[lr xs _ i y (by simpa using h)]
  congr 2
  simp only[cM];omega
def lL(x:List aH):cM x 0=0:=by cases x<;>rfl
def mc:∀(x:List aH)(i:Nat)(y:aH),x[i]? = some y->cM x (i+1)=cM x i+aH.cnt y
 | [],i,y,h=>by simp at h
 | x::xs,0,y,h=>by simp at h;subst h;simp[cM,lL]
 | x::xs,i+1,y,h=>by
  simp only[cM];rw[mc xs i y (by simpa using h)];omega
def mC:∀(x:List aH),cM x x.length=db x
 | []=>rfl
 | x::xs=>by simp only[List.length_cons,cM,db,mC xs]
def wx{x:List aH}(h:fG x<=1048576):j8 x:=⟨h,λ_ _=>trivial⟩
theorem oX:∀(x:List aH),db x<=8*fG x
 | []=>by simp[db]
 | x::xs=>by have:=oX xs;grind [db,fG,aH.cnt]
def nS:∀(x:List aH)(i:Nat),cM x i<=db x
 | [],_=>by simp[cM]
 | x::xs,0=>by simp[cM]
 | x::xs,i+1=>by simp only[cM,db];have:=nS xs i;omega
def d5(o:dm)(x:List (List aH)):List C:=[.s o (x.map (bV o))]
theorem xm(x:List (List aH)):g9 (d5 .own x):=⟨⟨.inl ψ,bc _ _ λy _=>jN y⟩,trivial⟩
def pm(x:List (List aH)):Prop:=x.length<=9223372036854775807/\∀y∈x,ru y
def cR:List (List aH)->Nat
 | []=>0
 | x::xs=>db x+cR xs
def dH:List (List aH)->Nat
 | []=>0
 | x::xs=>fG x+dH xs
def ea(x:List (List aH)):Nat:=x.length+dH x
def iJ(x:List (List aH)):Prop:=x.length<=1048576/\∀y∈x,j8 y
def dw:List (List aH)->Int->List (List aH)
 | [],_=>[]
 | x::xs,k=>d2 x k::dw xs (k+(db x:Nat))
def kn:∀(x:List (List aH))(k:Int),(dw x k).length=x.length
 | [],_=>rfl
 | _::xs,k=>by simp[dw,kn xs]
def ca:List (List aH)->Nat->Nat
 | [],_=>0
 | _::_,0=>0
 | x::xs,i+1=>db x+ca xs i
def kC:∀(x:List (List aH))(k:Int)(i:Nat)(y:List aH),x[i]? = some y->(dw x k)[i]? = some (d2 y (k+(ca x i:Nat)))
 | [],_,i,y,h=>by simp at h
 | x::xs,k,0,y,h=>by simp at h;subst h;simp[dw,ca]
 | x::xs,k,i+1,y,h=>by
  simp only[dw,List.getElem?_cons_succ];rw[kC xs _ i y (by simpa using h)]
  congr 2
  simp only[ca];omega
def ko(x:List (List aH)):ca x 0=0:=by cases x<;>rfl
def kz:∀(x:List (List aH))(i:Nat)(y:List aH),x[i]? = some y->ca x (i+1)=ca x i+db y
 | [],i,y,h=>by simp at h
 | x::xs,0,y,h=>by simp at h;subst h;simp[ca,ko]
 | x::xs,i+1,y,h=>by
  simp only[ca];rw[kz xs i y (by simpa using h)];omega
def lz:∀(x:List (List aH)),ca x x.length=cR x
 | []=>rfl
 | x::xs=>by simp only[List.length_cons,ca,cR,lz xs]
def lO:∀{x:List (List aH)}{y:List aH},y∈x->fG y<=dH x
 | [],y,h=>by simp at h
 | x::xs,y,h=>by
  simp only[dH];rcases List.mem_cons.1 h with rfl|h
  ·omega
  have:=lO h;omega
theorem tJ{x:List (List aH)}(h:ea x<=1048576):iJ x:=⟨by grind [ea],λy a=>wx (by have:=lO a;grind [ea])⟩
theorem me:∀(x:List (List aH)),cR x<=8*dH x
 | []=>by simp[cR]
 | x::xs=>by have:=me xs;grind [oX,cR,dH]
theorem tY(x:List (List aH)):cR x<=8*ea x:=by grind [me,ea]
def co:List (List aH)->Nat->Nat
 | [],_=>0
 | _::_,0=>0
 | x::xs,i+1=>fG x+co xs i
def fX(x:List (List aH)):co x 0=0:=by cases x<;>rfl
def jv:∀(x:List (List aH))(i:Nat)(y:List aH),x[i]? = some y->co x (i+1)=co x i+fG y
 | [],i,y,h=>by simp at h
 | x::xs,0,y,h=>by simp at h;subst h;simp[co,fX]
 | x::xs,i+1,y,h=>by
  simp only[co];rw[jv xs i y (by simpa using h)];omega
def k8:∀(x:List (List aH)),co x x.length=dH x
 | []=>rfl
 | x::xs=>by simp only[List.length_cons,co,dH,k8 xs]
def iL:∀(x:List (List aH))(i:Nat),co x i<=dH x
 | [],_=>by simp[co]
 | x::xs,0=>by simp[co]
 | x::xs,i+1=>by simp only[co,dH];have:=iL xs i;omega
def mF:∀(x:List (List aH))(i:Nat),ca x i<=cR x
 | [],_=>by simp[ca]
 | x::xs,0=>by simp[ca]
 | x::xs,i+1=>by simp only[ca,cR];have:=mF xs i;omega
structure aI where
 Q:List (List aH)
 e:List (List Int)
deriving DecidableEq,Inhabited
def aI.enc(o:dm)(x:aI):List C:=[.s o (x.Q.map (bV o)),.s o (x.e.map (aK o))]
theorem aI.enc_fr(x:aI):g9 (aI.enc .own x):=⟨⟨.inl ψ,bc _ _ λy _=>jN y⟩,⟨.inl ψ,bc _ _ λy _=>cu y⟩,trivial⟩
def aI.wf(x:aI):Prop:=pm x.Q/\nU x.e
def aI.cnt(x:aI):Nat:=cR x.Q+dx x.e
def aI.sz(x:aI):Nat:=ea x.Q+szIntSS x.e
def aI.sml(x:aI):Prop:=iJ x.Q/\iC x.e
theorem aI.sml_of{x:aI}(h:aI.sz x<=1048576):aI.sml x:=⟨tJ (by grind [aI.sz]),lS (by grind [aI.sz])⟩
theorem aI.cnt_le(x:aI):aI.cnt x<=8*aI.sz x:=by grind [tY,lZ,aI.cnt,aI.sz]
def aI.mark(x:aI)(k:Int):aI:={x with Q:=dw x.Q (k),e:=markIntSS x.e (k+(cR x.Q:Nat))}
structure ay where
 Z:Int
 T:Int
 y:Int
deriving DecidableEq,Inhabited
def ay.enc(o:dm)(x:ay):List C:=[I x.Z,I x.T,I x.y]
def ay.enc_fz(x:ay):gV (ay.enc .own x)=ay.enc .H x:=by simp[gV,ay.enc]
def ay.enc_fr(x:ay):g9 (ay.enc .own x):=⟨trivial,trivial,trivial,trivial⟩
def ay.wf(x:ay):Prop:=gS x.Z/\gS x.T/\gS x.y
def ay.cnt(_:ay):Nat:=3
def ay.sml(_:ay):Prop:=True
def ay.mark(_:ay)(k:Int):ay:=⟨k,k+1,k+1+1⟩
def bO(o:dm)(x:List ay):List C:=[.s o (x.map (ay.enc o))]
theorem yz(x:List ay):g9 (bO .own x):=⟨⟨.inl ψ,bc _ _ λy _=>ay.enc_fr y⟩,trivial⟩
def pA(x:List ay):Prop:=x.length<=9223372036854775807/\∀y∈x,ay.wf y
def dy:List ay->Nat
 | []=>0
 | x::xs=>ay.cnt x+dy xs
def ik(x:List ay):Nat:=x.length
def dS(x:List ay):Prop:=x.length<=1048576/\∀y∈x,ay.sml y
def du:List ay->Int->List ay
 | [],_=>[]
 | x::xs,k=>ay.mark x k::du xs (k+(ay.cnt x:Nat))
def kq:∀(x:List ay)(k:Int),(du x k).length=x.length
 | [],_=>rfl
 | _::xs,k=>by simp[du,kq xs]
def bZ:List ay->Nat->Nat
 | [],_=>0
 | _::_,0=>0
 | x::xs,i+1=>ay.cnt x+bZ xs i
def kv:∀(x:List ay)(k:Int)(i:Nat)(y:ay),x[i]? = some y->(du x k)[i]? = some (ay.mark y (k+(bZ x i:Nat)))
 | [],_,i,y,h=>by simp at h
 | x::xs,k,0,y,h=>by simp at h;subst h;simp[du,bZ]
 | x::xs,k,i+1,y,h=>by
  simp only[du,List.getElem?_cons_succ];rw[kv xs _ i y (by simpa using h)]
  congr 2
  simp only[bZ];omega
def kr(x:List ay):bZ x 0=0:=by cases x<;>rfl
def kF:∀(x:List ay)(i:Nat)(y:ay),x[i]? = some y->bZ x (i+1)=bZ x i+ay.cnt y
 | [],i,y,h=>by simp at h
 | x::xs,0,y,h=>by simp at h;subst h;simp[bZ,kr]
 | x::xs,i+1,y,h=>by
  simp only[bZ];rw[kF xs i y (by simpa using h)];omega
def mf:∀(x:List ay),bZ x x.length=dy x
 | []=>rfl
 | x::xs=>by simp only[List.length_cons,bZ,dy,mf xs]
def tN{x:List ay}(h:ik x<=1048576):dS x:=⟨h,λ_ _=>trivial⟩
theorem mN:∀(x:List ay),dy x<=8*ik x
 | []=>by simp[dy]
 | x::xs=>by have:=mN xs;grind [dy,ik,ay.cnt]
def mS:∀(x:List ay)(i:Nat),bZ x i<=dy x
 | [],_=>by simp[bZ]
 | x::xs,0=>by simp[bZ]
 | x::xs,i+1=>by simp only[bZ,dy];have:=mS xs i;omega
structure aT where
 b4:Int
 d:List ay
deriving DecidableEq,Inhabited
def aT.enc(o:dm)(x:aT):List C:=[I x.b4,.s o (x.d.map (ay.enc o))]
theorem aT.enc_fr(x:aT):g9 (aT.enc .own x):=⟨trivial,⟨.inl ψ,bc _ _ λy _=>ay.enc_fr y⟩,trivial⟩
def aT.wf(x:aT):Prop:=gS x.b4/\pA x.d
def aT.cnt(x:aT):Nat:=dy x.d
def aT.sz(x:aT):Nat:=ik x.d
def aT.sml(x:aT):Prop:=dS x.d
theorem aT.sml_of{x:aT}(h:aT.sz x<=1048576):aT.sml x:=tN (by grind [aT.sz])
theorem aT.cnt_le(x:aT):aT.cnt x<=8*aT.sz x:=by grind [mN,aT.cnt,aT.sz]
def aT.mark(x:aT)(k:Int):aT:={x with d:=du x.d (k)}
structure bf where
 a4:Int
 a1:Int
 V:List Int
deriving DecidableEq,Inhabited
def bf.enc(o:dm)(x:bf):List C:=[I x.a4,I x.a1,.s o (x.V.map (rI o))]
theorem bf.enc_fr(x:bf):g9 (bf.enc .own x):=⟨trivial,trivial,⟨.inl ψ,bc _ _ λy _=>uQ y⟩,trivial⟩
def bf.wf(x:bf):Prop:=gS x.a4/\gS x.a1/\ri x.V
def bf.cnt(x:bf):Nat:=fg x.V
def bf.sz(x:bf):Nat:=szIntS x.V
def bf.sml(x:bf):Prop:=jK x.V
theorem bf.sml_of{x:bf}(h:bf.sz x<=1048576):bf.sml x:=nE (by grind [bf.sz])
theorem bf.cnt_le(x:bf):bf.cnt x<=8*bf.sz x:=by grind [nI,bf.cnt,bf.sz]
def bf.mark(x:bf)(k:Int):bf:={x with V:=markIntS x.V (k)}
structure bA where
 h:bf
 a6:Int
 q:Int
deriving DecidableEq,Inhabited
def bA.enc(o:dm)(x:bA):List C:=[I x.h.a4,I x.h.a1,.s o (x.h.V.map (rI o)),I x.a6,I x.q]
theorem bA.enc_fr(x:bA):g9 (bA.enc .own x):=⟨trivial,trivial,⟨.inl ψ,bc _ _ λy _=>uQ y⟩,trivial,trivial,trivial⟩
def bA.wf(x:bA):Prop:=bf.wf x.h/\gS x.a6/\gS x.q
def bA.cnt(x:bA):Nat:=bf.cnt x.h
def bA.sz(x:bA):Nat:=bf.sz x.h
def bA.sml(x:bA):Prop:=bf.sml x.h
theorem bA.sml_of{x:bA}(h:bA.sz x<=1048576):bA.sml x:=bf.sml_of (by grind [bA.sz])
theorem bA.cnt_le(x:bA):bA.cnt x<=8*bA.sz x:=by grind [bf.cnt_le,bA.cnt,bA.sz]
def bA.mark(x:bA)(k:Int):bA:={x with h:=bf.mark x.h (k)}
structure ac where
 X:au
 p:List aA
 G:List ah
 J:List am
 S:List bg
 O:List ar
 Y:aI
 b:aT
 c0:Int
 b0:Int
 c1:Int
 q:Int
 a0:Bool
 r:bA
deriving DecidableEq,Inhabited
def ac.enc(o:dm)(x:ac):List C:=[.s o (x.X.R.U.V.map (aK o)),.s o (x.X.R.U.c.map (rB o)),.s o (x.X.R.a.K.map (aD.enc o)),I x.X.a8,.s o (x.X.k.map (rI o)),.s o (x.p.map (aA.enc o)),.s o (x.G.map (ah.enc o)),.s o (x.J.map (am.enc o)),.s o (x.S.map (bg.enc o)),.s o (x.O.map (ar.enc o)),.s o (x.Y.Q.map (bV o)),.s o (x.Y.e.map (aK o)),I x.b.b4,.s o (x.b.d.map (ay.enc o)),I x.c0,I x.b0,I x.c1,I x.q,B x.a0,I x.r.h.a4,I x.r.h.a1,.s o (x.r.h.V.map (rI o)),I x.r.a6,I x.r.q]
def ac.enc_fz(x:ac):gV (ac.enc .own x)=ac.enc .H x:=by simp[gV,ac.enc,ar.enc_fz,aD.enc_fz,am.enc_fz,bg.enc_fz,aA.enc_fz,ah.enc_fz,ay.enc_fz,rB,yQ,rI,gl,<-hJ,Z2]
theorem ac.enc_fr(x:ac):g9 (ac.enc .own x):=⟨⟨.inl ψ,bc _ _ λy _=>cu y⟩,⟨.inl ψ,bc _ _ λy _=>wZ y⟩,⟨.inl ψ,bc _ _ λy _=>aD.enc_fr y⟩,trivial,⟨.inl ψ,bc _ _ λy _=>uQ y⟩,⟨.inl ψ,bc _ _ λy _=>aA.enc_fr y⟩,⟨.inl ψ,bc _ _ λy _=>ah.enc_fr y⟩,⟨.inl ψ,bc _ _ λy _=>am.enc_fr y⟩,⟨.inl ψ,bc _ _ λy _=>bg.enc_fr y⟩,⟨.inl ψ,bc _ _ λy _=>ar.enc_fr y⟩,⟨.inl ψ,bc _ _ λy _=>jN y⟩,⟨.inl ψ,bc _ _ λy _=>cu y⟩,trivial,⟨.inl ψ,bc _ _ λy _=>ay.enc_fr y⟩,trivial,trivial,trivial,trivial,trivial,trivial,trivial,⟨.inl ψ,bc _ _ λy _=>uQ y⟩,trivial,trivial,trivial⟩
def ac.wf(x:ac):Prop:=au.wf x.X/\pF x.p/\rx x.G/\ph x.J/\wm x.S/\pp x.O/\aI.wf x.Y/\aT.wf x.b/\gS x.c0/\gS x.b0/\gS x.c1/\gS x.q/\Jw x.a0/\bA.wf x.r
def ac.cnt(x:ac):Nat:=au.cnt x.X+bF x.p+cK x.G+cg x.J+d6 x.S+cG x.O+aI.cnt x.Y+aT.cnt x.b+bA.cnt x.r
def ac.sz(x:ac):Nat:=au.sz x.X+iq x.p+jy x.G+ip x.J+mn x.S+ec x.O+aI.sz x.Y+aT.sz x.b+bA.sz x.r
def ac.sml(x:ac):Prop:=au.sml x.X/\dQ x.p/\bJ x.G/\bw x.J/\lV x.S/\iM x.O/\aI.sml x.Y/\aT.sml x.b/\bA.sml x.r
theorem ac.sml_of{x:ac}(h:ac.sz x<=1048576):ac.sml x:=⟨au.sml_of (by grind [ac.sz]),tt (by grind [ac.sz]),vr (by grind [ac.sz]),tP (by grind [ac.sz]),xx (by grind [ac.sz]),tR (by grind [ac.sz]),aI.sml_of (by grind [ac.sz]),aT.sml_of (by grind [ac.sz]),bA.sml_of (by grind [ac.sz])⟩
theorem ac.cnt_le(x:ac):ac.cnt x<=8*ac.sz x:=by unfold ac.cnt ac.sz;have:=au.cnt_le x.X;have:=ns x.p;grind [oH,nj,qq,t9,aI.cnt_le,aT.cnt_le,bA.cnt_le]
def ac.mark(x:ac)(k:Int):ac:={x with X:=au.mark x.X (k),p:=dq x.p (k+(au.cnt x.X:Nat)),G:=dJ x.G (k+(au.cnt x.X:Nat)+(bF x.p:Nat)),J:=dr x.J (k+(au.cnt x.X:Nat)+(bF x.p:Nat)+(cK x.G:Nat)),S:=eb x.S (k+(au.cnt x.X:Nat)+(bF x.p:Nat)+(cK x.G:Nat)+(cg x.J:Nat)),O:=dt x.O (k+(au.cnt x.X:Nat)+(bF x.p:Nat)+(cK x.G:Nat)+(cg x.J:Nat)+(d6 x.S:Nat)),Y:=aI.mark x.Y (k+(au.cnt x.X:Nat)+(bF x.p:Nat)+(cK x.G:Nat)+(cg x.J:Nat)+(d6 x.S:Nat)+(cG x.O:Nat)),b:=aT.mark x.b (k+(au.cnt x.X:Nat)+(bF x.p:Nat)+(cK x.G:Nat)+(cg x.J:Nat)+(d6 x.S:Nat)+(cG x.O:Nat)+(aI.cnt x.Y:Nat)),r:=bA.mark x.r (k+(au.cnt x.X:Nat)+(bF x.p:Nat)+(cK x.G:Nat)+(cg x.J:Nat)+(d6 x.S:Nat)+(cG x.O:Nat)+(aI.cnt x.Y:Nat)+(aT.cnt x.b:Nat))}
structure fU where
 a7:Int
 a5:Int
 c2:Int
 b3:Int
deriving DecidableEq,Inhabited
def fU.enc(o:dm)(x:fU):List C:=[I x.a7,I x.a5,I x.c2,I x.b3]
def fU.enc_fr(x:fU):g9 (fU.enc .own x):=⟨trivial,trivial,trivial,trivial,trivial⟩
structure JJ where
 Id:Int
 g:Int
 Sum:Int
deriving DecidableEq,Inhabited
structure Aw where
 Id:Int
 V:List Int
deriving DecidableEq,Inhabited
structure sv where
 q:Int
 S:List Aw
deriving DecidableEq,Inhabited
structure JB where
 Heap:ac
 Ref:sv
deriving DecidableEq,Inhabited
structure bB where
 i:Int
 b1:Int
 U:Int
 b5:Int
 b6:Int
 a9:Int
 u:Int
 b2:Int
deriving DecidableEq,Inhabited
def bB.enc(o:dm)(x:bB):List C:=[I x.i,I x.b1,I x.U,I x.b5,I x.b6,I x.a9,I x.u,I x.b2]
def bB.enc_fz(x:bB):gV (bB.enc .own x)=bB.enc .H x:=by simp[gV,bB.enc]
def bB.enc_fr(x:bB):g9 (bB.enc .own x):=⟨trivial,trivial,trivial,trivial,trivial,trivial,trivial,trivial,trivial⟩
def Lm{α β:Type}{f:α->β}{l:List α}{K:Nat->Prop}(h:K l.length):Ln (l.map f).length K:=CH (Q0 ..) h
def Wm{z:Int}{K:Int->Prop}(h : -9223372036854775808<=z/\z<=9223372036854775807)(a:K z):Wr .i64 z K:=CB (iy h.1 h.2) a
def dT{p:Prop}[Decidable p]{X Y:Prop}(h:p)(a:p->X):Bf (decide p) X Y:=.D a λe=>absurd h e
def dF{p:Prop}[Decidable p]{X Y:Prop}(h:¬p)(a:¬p->Y):Bf (decide p) X Y:=.D (λe=>absurd e h) a
def nT{a b:Int}{X Y:Prop}(h:a≠b)(c:a≠b->X):Bf (a != b) X Y:=.N c λe=>absurd e h
def nF{a b:Int}{X Y:Prop}(h:a=b)(c:a=b->Y):Bf (a != b) X Y:=.N (λe=>absurd h e) c
def eT{a b:Int}{X Y:Prop}(h:a=b)(c:a=b->X):Bf (a == b) X Y:=.E c λe=>absurd h e
def eF{a b:Int}{X Y:Prop}(h:a≠b)(c:a≠b->Y):Bf (a == b) X Y:=.E (λe=>absurd e h) c
def Bn{b:Bool}{X Y:Prop}(h:Bf b Y X):Bf (!b) X Y:=.not h
def Bt{X Y:Prop}(h:X):Bf true X Y:=.t rfl h
def Bu{X Y:Prop}(h:Y):Bf false X Y:=.f rfl h
def Fm{k b:Kd}{cs a:List C}(c:k=b)(h:cs=a):nR k b cs a:=.mk c h
def dV{p:Prop}[Decidable p]{X Y:Prop}(h:p)(a:X):Bf (decide p) X Y:=.D (λ_=>a) λe=>absurd h e
def dW{p:Prop}[Decidable p]{X Y:Prop}(h:¬p)(a:Y):Bf (decide p) X Y:=.D (λe=>absurd e h) λ_=>a
def nV{a b:Int}{X Y:Prop}(h:a≠b)(c:X):Bf (a != b) X Y:=.N (λ_=>c) λe=>absurd e h
def nW{a b:Int}{X Y:Prop}(h:a=b)(c:Y):Bf (a != b) X Y:=.N (λe=>absurd h e) λ_=>c
def eV{a b:Int}{X Y:Prop}(h:a=b)(c:X):Bf (a == b) X Y:=.E (λ_=>c) λe=>absurd h e
def eW{a b:Int}{X Y:Prop}(h:a≠b)(c:Y):Bf (a == b) X Y:=.E (λe=>absurd e h) λ_=>c
structure BM(Y:Prop):Prop where
 out:Y
def gO{X Y:Prop}(y:Y)(h:BM Y->X:=by intro y;(conv=>whnf);(first|with_reducible (first|refine Lm ?_|refine Wm ω ?_|refine Bn ?_|refine Fm rfl ?_)|refine Bt ?_|refine Bu ?_|fail);exact y.out):X:=h ⟨y⟩
def gP{X Y:Prop}(y:Y)(h:BM Y->X:=by intro y;(conv=>whnf);(first|with_reducible (first|refine Lm ?_|refine Wm ω ?_|refine Bn ?_|refine Fm rfl ?_)|refine Bt ?_|refine Bu ?_|refine C4 (by assumption) ?_|refine C6 (ab (by assumption)) ?_|refine CM rfl (ab (by assumption)) rfl ?_|refine Sm.rf ?_|fail);exact y.out):X:=h ⟨y⟩
def gD{X Y:Prop}(y:Y)(h:BM Y->X:=by intro y;(conv=>whnf);(first|with_reducible (first|refine Lm ?_|refine Wm ω ?_|refine dV ω ?_|refine dW ω ?_|refine Bn ?_|refine Fm rfl ?_)|refine Bt ?_|refine Bu ?_|fail);exact y.out):X:=h ⟨y⟩
def gE{X Y:Prop}(y:Y)(h:BM Y->X:=by intro y;(conv=>whnf);(first|with_reducible (first|refine Lm ?_|refine Wm ω ?_|refine dV ω ?_|refine dW ω ?_|refine Bn ?_|refine Fm rfl ?_)|refine Bt ?_|refine Bu ?_|refine C4 (by assumption) ?_|refine C6 (ab (by assumption)) ?_|refine CM rfl (ab (by assumption)) rfl ?_|refine Sm.rf ?_|fail);exact y.out):X:=h ⟨y⟩
def gA{X Y:Prop}(y:Y)(h:BM Y->X:=by intro y;(conv=>whnf);(first|with_reducible (first|refine Lm ?_|refine Wm ω ?_|refine dV ω ?_|refine dW ω ?_|refine nV ω ?_|refine nW ω ?_|refine eV ω ?_|refine eW ω ?_|refine Bn ?_|refine Fm rfl ?_)|refine Bt ?_|refine Bu ?_|fail);exact y.out):X:=h ⟨y⟩
def gB{X Y:Prop}(y:Y)(h:BM Y->X:=by intro y;(conv=>whnf);(first|with_reducible (first|refine Lm ?_|refine Wm ω ?_|refine dV ω ?_|refine dW ω ?_|refine nV ω ?_|refine nW ω ?_|refine eV ω ?_|refine eW ω ?_|refine Bn ?_|refine Fm rfl ?_)|refine Bt ?_|refine Bu ?_|refine C4 (by assumption) ?_|refine C6 (ab (by assumption)) ?_|refine CM rfl (ab (by assumption)) rfl ?_|refine Sm.rf ?_|fail);exact y.out):X:=h ⟨y⟩
def HX{a b:Int}(h:a=b):FF (I a) (I b):=by subst h;rfl
def JA(c:C):FF c c:=(lx [c]).1
def wA{X:Prop}(h:X:=by repeat'(first|exact trivial|rfl|refine C5 ?_ ?_)):X:=h
def wB{X:Prop}(h:X:=by repeat'(first|exact trivial|rfl|refine C5 ?_ ?_|(exact HX (by first|omega|(simp only;omega)|(simp;omega))))):X:=h
def wC{X:Prop}(h:X:=by repeat'(first|exact trivial|rfl|exact JA _|refine C5 ?_ ?_|(exact HX (by first|omega|(simp only;omega)|(simp;omega))))):X:=h
def fO(n : Nat){f : Nat}{a : Func}{c : Code}{sh : Bool}{A : List RA}{k : Kd}{rcs : List C}(d : List (Nat × Nat × List Nat))(e : Tryz.prog.funcs[f]? = some a)(g : a.body = some c)(h : aw Tryz.prog TE ⟨n, [], []⟩ (DF Tryz.prog TE ⟨n, [], []⟩ d) c (GD TE a.results.toList k rcs) (lay (vJ 0 A)))(b : sh = true \/ g9 rcs := by exact .inr ⟨trivial, trivial⟩)(i : (a.name == "runtime.NumGoroutine") = false := by kernel_rfl)(j : eN (ma d) c = true := by kernel_rfl)(l : A.length + (a.ntmps - A.length) = n := by rfl) : af Tryz.prog f sh A k rcs := Jl e i g j l b h
def fP(n : Nat){f : Nat}{a : Func}{c : Code}{sh : Bool}{A : List RA}{k : Kd}{rcs : List C}(d : List (Nat × List Nat))(e : List (Nat × Nat × List Nat))(g : Tryz.prog.funcs[f]? = some a)(h : a.body = some c)(i : aw Tryz.prog TE ⟨n, [], d⟩ (DF Tryz.prog TE ⟨n, [], d⟩ e) c (GD TE a.results.toList k rcs) (lay (vJ 0 A)))(b : sh = true \/ g9 rcs := by exact .inr ⟨trivial, trivial⟩)(j : (a.name == "runtime.NumGoroutine") = false := by kernel_rfl)(l : eN (ma e) c = true := by kernel_rfl)(o : A.length + (a.ntmps - A.length) = n := by rfl) : af Tryz.prog f sh A k rcs := Jl g j h l o b i
def fM(n : Nat){f : Nat}{a : Func}{c : Code}{sh : Bool}{A B : List MA}{k : Kd}{rcs : List C}(g : List (Nat × List Nat))(h : List (Nat × Nat × List Nat))(b : List (Nat × Nat))(i : Tryz.prog.funcs[f]? = some a)(j : a.body = some c)(l : ∀(u : Nat -> Nat -> Value)(p : Nat -> Value), aw Tryz.prog TE ⟨n, Bm p 0 A, g⟩ (DF Tryz.prog TE ⟨n, Bm p 0 A, g⟩ h) c (H1 TE a.results.toList k rcs u A B b) (lay (rC u 0 A)))(d : sh = true \/ g9 rcs := by exact .inr ⟨trivial, trivial⟩)(o : (a.name == "runtime.NumGoroutine") = false := by kernel_rfl)(q : eN (ma h) c = true := by kernel_rfl)(r : A.length + (a.ntmps - A.length) = n := by rfl)(e : yU (xN 0 A b) = true := by rfl) : bR Tryz.prog f sh A B k rcs := Jo b i o j q r e d l
section
variable{α:Type}{l:List α}{p:α->Bool}{i:Nat}{x:α}
theorem bT(h:l[i]? = some x)(a:(l.take i).all p=true)(b:p x=true):(l.take (i+1)).all p=true:=by grind [U2]
theorem eD(h:l[i]? = some x)(a:p x=false):l.all p=false:=ψ
theorem jF(a:l.length<=i)(b:(l.take i).all p=true):l.all p=true:=by grind [Q3]
end
theorem qV{α β:Type}{a:List α}{b:List β}{i:Nat}{x:α}{y:β}(c:a[i]? = some x)(d:b[i]? = some y):(a.zip b)[i]? = some (x,y):=ψ
def nth{α:Type}[Inhabited α](xs:List α)(i:Nat):α:=xs.getD i default
theorem ao{α:Type}[Inhabited α]{xs:List α}{i:Nat}(h:i<xs.length):xs[i]? = some (nth xs i):=by grind [nth]
theorem bS{α:Type}[Inhabited α]{xs:List α}{i:Nat}{y:α}(h:xs[i]? = some y):nth xs i=y:=by grind [nth]
theorem aF{α:Type}[Inhabited α]{xs:List α}{i:Nat}(h:i<xs.length):nth xs i∈xs:=X0 (ao h)
def cB(n:Nat)(p:Nat->Bool):Bool:=(List.range n).all p
theorem bW{n:Nat}{p:Nat->Bool} : cB n p=true↔∀j,j<n->p j=true:=by
 unfold cB;simp
theorem bm{n:Nat}{p:Nat->Bool}(h:cB n p=true)(a:p n=true):cB (n+1) p=true:=by grind [bW]
theorem bC{n i:Nat}{p:Nat->Bool}(a:i<n)(b:p i=false):cB n p=false:=by grind [bW]
theorem eJ{n i:Nat}{p:Nat->Bool}(h:cB n p=true)(a:i<n):p i=true:=bW.1 h i a
def jc(u:Bool)(v:Int):Bool:=decide (0<=v/\v<=999)&&(u || decide (v=0))
def j6(r:List Int)(u:Bool):Bool:=decide (r.length=16)&&r.all (jc u)
def cv(f:aC):Bool:=decide (1<=f.V.length/\f.V.length<=32)&&(decide (f.c.length=f.V.length)&&(f.V.zip f.c).all λq=>j6 q.1 q.2)
def f0{f:aC}{i:Nat}{r:List Int}{u:Bool}(a:f.V[i]? = some r)(b:f.c[i]? = some u)(c:j6 r u=false):cv f=false:=by
 unfold cv;rw[eD (p:=λq=>j6 q.1 q.2) (qV a b) c];simp
theorem ow{r:List Int}{u:Bool}{k:Nat}{v:Int}(a:r[k]? = some v)(b:jc u v=false):j6 r u=false:=by grind [j6]
theorem wv{f:aC}(h:cv f=true):1<=f.V.length/\f.V.length<=32/\f.c.length=f.V.length:=by grind [cv]
def A6(a:Int)(e:aD):Bool:=decide (0<=e.o/\e.o<=2/\(e.o=0->e.j=0)/\(e.o≠0->0<=e.j/\e.j<a))
def eY(t:az)(a:Int):Bool:=cB t.K.length (λi=>A6 a (nth t.K i))&&decide (1<=t.K.length/\t.K.length<=32)
def GJ(t:az)(f:Int)(i:Nat):Bool:=decide ((nth t.K i).o≠0/\(nth t.K i).j=f)
def ja(t:az)(f:Int)(n:Nat):List Int:=((List.range n).filter (GJ t f)).map λ(i:Nat)=>(i:Int)
def cZ(t:az)(f:Int):List Int:=ja t f t.K.length
theorem uU{t:az}{f:Int}{n:Nat}(h:GJ t f n=true):ja t f (n+1)=ja t f n++[(n:Int)]:=by grind [List.range_succ,ja]
theorem xU{t:az}{f:Int}{n:Nat}(h:GJ t f n=false):ja t f (n+1)=ja t f n:=by grind [List.range_succ,ja]
theorem pT(t:az)(f:Int)(n:Nat):(ja t f n).length<=n:=by grind [ja]
def aZ(t:az)(p:Int):aD:=if 0<=p/\p<t.K.length then nth t.K p.toNat else⟨0,0⟩
def mh(m:aB)(i:Nat):Bool:=nth m.U.c i == decide (0<(cZ m.a (i:Int)).length)
def cY(m:aB):Bool:=(cv m.U&&eY m.a m.U.c.length)&&cB m.U.c.length (mh m)
def dh(k:au):Bool:=(cB k.k.length (λi=>decide (0<=nth k.k i))&&cY k.R)&&decide (0<=k.a8/\k.a8<=100000/\k.k.length<=40)
def rangeIn(pages:Int)(r:aA):Bool:=decide (1<=r.a2/\r.a2<=pages/\0<=r.At/\r.At<=pages - r.a2)
def eg(pages:Int)(xs:List aA)(i:Nat):Bool:=rangeIn pages (nth xs i)&&decide (i=0\/(nth xs (i - 1)).At+(nth xs (i - 1)).a2<(nth xs i).At)
def cr(pages:Int)(xs:List aA):Bool:=cB xs.length (eg pages xs)&&decide (1<=pages/\pages<=32)
def qC(page:Int)(r:aA):Bool:=decide (r.At<=page)&&decide (page<IntKind.i64.wrap (r.At+r.a2))
def lim(k:Int):Int:=if k=0 then 65535 else if k=1 then 255 else if k=2 then 15 else if k=3 then 3 else 0
def slots(k:Int):Int:=if k=0 then 16 else if k=1 then 8 else if k=2 then 4 else if k=3 then 2 else 0
def bn(s:ah):Bool:=decide (0<=s.M/\s.M<=31/\0<=s.T/\s.T<=3/\0<=s.l/\s.l<=lim s.T)
def fF(n:Int):Int:=if 9<=n/\n<=1000 then(n+15) / 16 else 0
def bU(l:am):Bool:=decide (9<=l.g/\l.g<=1000/\l.i=(l.g+15) / 16/\0<=l.M/\l.M<=32 - l.i)
def lpgs(l:am)(n:Nat):List Int:=(List.range n).map λ(i:Nat)=>l.M+i
def pgs(sp:List ah)(la:List am):List Int:=sp.map (·.M)++la.flatMap λl=>lpgs l l.i.toNat
def bb(sp:List ah)(la:List am):Bool:=(sp.all bn&&la.all bU)&&decide (pgs sp la).Nodup
def ch(s:ah)(a:Int):Bool:=bn s&&decide (16*s.M<=a/\a<=16*s.M+15)
def bp(b i:Int):Bool:=decide (0<=b/\0<=i/\i<=15/\b / 2 ^ i.toNat % 2=1)
def ba(l:am)(a:Int):Bool:=bU l&&decide (16*l.M<=a/\a<=16*l.M+l.g - 1)
def csz(k:Int):Int:=if 0<=k/\k<=3 then 2 ^ k.toNat else 0
def gN(s:ah)(a:Int):Int × Int:=if ch s a then((a - 16*s.M) / csz s.T,(a - 16*s.M) % csz s.T) else(-1,-1)
def kR(i:Nat)(s:ah)(a:Int):fU:=⟨if bp s.l ((a - 16*s.M) / csz s.T) then 1 else 2,i,(a - 16*s.M) / csz s.T,(a - 16*s.M) % csz s.T⟩
def denotes(sp:List ah)(la:List am)(a:Int):fU:=
 match sp.findIdx? (ch · a) with
 | some i=>kR i (nth sp i) a
 | none=>match la.findIdx? (ba · a) with
  | some i=>⟨3,i,0,a - 16*(nth la i).M⟩
  | none=>⟨0,0,0,0⟩
theorem vQ{α:Type}{pr:α->Bool}{xs:List α}{i:Nat}{y:α}(a:xs[i]? = some y)(b:pr y=true)(c:∀(j:Nat)(z:α),j<i->xs[j]? = some z->pr z=false):xs.findIdx? pr=some i:=by grind [P3]
theorem zp{α:Type}{pr:α->Bool}{xs:List α}{i:Nat}(a:xs.length<=i)(b:∀(j:Nat)(z:α),j<i->xs[j]? = some z->pr z=false):xs.findIdx? pr=none:=
 List.findIdx?_eq_none_iff.2 λz c=>by grind [List.mem_iff_getElem?]
theorem Ei{α:Type}{pr:α->Bool}{xs:List α}{i:Nat}{y:α}(a:xs[i]? = some y)(b:pr y=false)(c:∀(j:Nat)(z:α),j<i->xs[j]? = some z->pr z=false):∀(j:Nat)(z:α),j<i+1->xs[j]? = some z->pr z=false:=ψ
def gW{α:Type}(pr:α->Bool)(xs:List α):Int:=match xs.findIdx? pr with|some i=>(i:Nat)|none=>-1
theorem il{α:Type}{pr:α->Bool}{xs:List α}{i:Nat}{y:α}(a:xs[i]? = some y)(b:pr y=true)(c:∀(j:Nat)(z:α),j<i->xs[j]? = some z->pr z=false):gW pr xs=(i:Nat):=by
 unfold gW;rw[vQ a b c]
theorem jz{α:Type}{pr:α->Bool}{xs:List α}{i:Nat}(a:xs.length<=i)(b:∀(j:Nat)(z:α),j<i->xs[j]? = some z->pr z=false):gW pr xs = -1:=by grind [zp,gW]
theorem pI{α:Type}(pr:α->Bool)(xs:List α):decide (gW pr xs≥0)=xs.any pr:=by grind [gW]
def meshable(s t:ah):Bool:=(bn s&&bn t)&&decide (s.T=t.T/\s.M≠t.M/\s.l.toNat &&& t.l.toNat=0)
def nL(n:Int)(p:aH):Bool:=decide (0<=p.To/\p.To<=n - 1/\0<=p.Z)
def Hn(z:Int):Bool:=decide (0<=z)
def fB(m:aI)(i:Nat):Bool:=(nth m.Q i).all (nL m.Q.length)&&(nth m.e i).all Hn
def cx(m:aI):Nat->Int
 | 0=>0
 | i+1=>cx m i+((nth m.Q i).length+(nth m.e i).length)
def de(m:aI):Bool:=(decide (1<=m.Q.length/\m.Q.length<=4/\m.e.length=m.Q.length)&&cB m.Q.length (fB m))&&decide (cx m m.Q.length<=30)
def ax(m:aI):List Int:=if de m then(m.Q.flatMap λl=>l.map (·.Z))++m.e.flatten else []
def dL(a:Int)(y:ay):Bool:=decide (y.Z=a)
def ge(xs:List ay)(i:Nat):Bool:=decide (0<=(nth xs i).T/\(nth xs i).T<=3/\0<=(nth xs i).Z/\0<=(nth xs i).y/\(i=0\/(nth xs (i - 1)).y<=(nth xs i).y))&&!(xs.take i).any (dL (nth xs i).Z)
def quarCells(xs:List ay):Nat->Int
 | 0=>0
 | i+1=>quarCells xs i+csz (nth xs i).T
def fm(q:aT):Bool:=cB q.d.length (ge q.d)&&decide (0<=q.b4/\q.b4<=500/\quarCells q.d q.d.length<=q.b4)
def Am(xs:List Int)(i:Nat):Bool:=decide (0<=nth xs i/\nth xs i<=15/\(i=0\/nth xs (i - 1)<nth xs i))
def kg(p:bf):Bool:=cB p.V.length (Am p.V)&&decide (0<=p.a4/\p.a4<=31/\0<=p.a1/\p.a1<=31/\p.a4≠p.a1)
def oE(j:bA):Bool:=kg j.h&&decide (0<=j.a6/\j.a6<=5/\0<=j.q/\j.q<=j.h.V.length)
def xc(j:bA):Bool:=decide (j.h.a4=0/\j.h.a1=0/\j.h.V.length=0/\j.a6=0/\j.q=0)
def aG(h:ac)(p:Int):List Int:=if(aZ h.X.R.a p).o=0 then [] else cZ h.X.R.a (aZ h.X.R.a p).j
def i9(p:Int)(s:ah):Bool:=decide (s.M=p)
def dE(h:ac)(p:Int):Int:=gW (i9 p) h.G
def cO(n:Int):Int:=if n<1 then -1 else if n<=1 then 0 else if n<=2 then 1 else if n<=4 then 2 else if n<=8 then 3 else -1
set_option maxRecDepth 20000
set_option maxHeartbeats 2000000
def aN(n lo a:Int):af Tryz.prog 96 false [.val none [I n],.val none [I lo],.val none [I a]] .one [B (decide (lo<=n/\n<=a))]:=by
 refine fO 15 [] Tryz.func96 rfl ?_
 repeat'(first|refine gP ?_|(conv=>whnf);first|with_reducible refine Bf.D (λb=>?_) (λb=>?_))
 all_goals exact O0 (λz=>[B z]) (by simp;try omega)
def aE(n lo a:Int):af Tryz.prog 137 false [.val none [I n],.val none [I lo],.val none [I a]] .one [B (decide (lo<=n/\n<=a))]:=by
 refine fO 15 [] Tryz.func137 rfl ?_
 repeat'(first|refine gP ?_|(conv=>whnf);first|with_reducible refine Bf.D (λb=>?_) (λb=>?_))
 all_goals exact O0 (λz=>[B z]) (by simp;try omega)
def dR(k:Int):af Tryz.prog 168 false [.val none [I k]] .one [B (decide (0<=k/\k<=3))]:=by
 refine fO 5 [] Tryz.func168 rfl ?_
 repeat'(first|refine gP ?_|(conv=>whnf);first|refine C4 (aE k 0 3) ?_)
 rfl
theorem bN(k:Int):af Tryz.prog 74 false [.val none [I k]] .one [I (csz k)]:=by
 by_cases b:0<=k/\k<=3
 ·obtain rfl|rfl|rfl|rfl:k=0\/k=1\/k=2\/k=3:=ω
  all_goals
   refine fO 8 [] Tryz.func74 rfl ?_
   repeat'(first|refine gE ?_|(conv=>whnf);first|with_reducible refine Bf.D (λa=>?_) (λa=>?_)|refine C4 (dR _) ?_|refine CD (by decide) ?_|refine CB rfl ?_)
   exact O0 (λz=>[I z]) (by decide)
 refine fO 8 [] Tryz.func74 rfl ?_
 repeat'(first|refine gE ?_|(conv=>whnf);first|with_reducible refine Bf.D (λa=>?_) (λa=>?_)|refine C4 (dR _) ?_)
 exact O0 (λz=>[I z]) (by grind [csz])
theorem cX(k:Int):af Tryz.prog 106 false [.val none [I k]] .one [I (csz k)]:=by
 by_cases b:0<=k/\k<=3
 ·obtain rfl|rfl|rfl|rfl:k=0\/k=1\/k=2\/k=3:=ω
  all_goals
   refine fO 9 [] Tryz.func106 rfl ?_
   repeat'(first|refine gE ?_|(conv=>whnf);first|with_reducible refine Bf.D (λa=>?_) (λa=>?_)|refine C4 (aN _ 0 3) ?_|refine CD (by decide) ?_|refine CB rfl ?_)
   exact O0 (λz=>[I z]) (by decide)
 refine fO 9 [] Tryz.func106 rfl ?_
 repeat'(first|refine gE ?_|(conv=>whnf);first|with_reducible refine Bf.D (λa=>?_) (λa=>?_)|refine C4 (aN _ 0 3) ?_)
 exact O0 (λz=>[I z]) (by grind [csz])
theorem j7(xs:List Int)(a:Int)(h:xs.length<=9223372036854775807):af Tryz.prog 179 false [.val none (aK .H xs),.val none [I a]] .one [B (decide (a∈xs))]:=by
 refine fO 18 [] Tryz.func179 rfl ?_
 repeat'(first|refine gP ?_|fail)
 (conv=>whnf)
 refine C8 (ι:=Nat) (λi=>[(0,.F .one (aK .H xs)),(1,.F .one [I a]),(5,.F .one [I (i:Nat)])]) (λi=>i<=xs.length/\a∉xs.take i) (λi=>xs.length - i) 0 ?_ ψ λi c=>?_
 ·exact wB
 obtain⟨c,d⟩:=c;by_cases b:i<xs.length
 ·obtain⟨y,e⟩ : ∃y,xs[i]? = some y:=⟨_,C1 b⟩
  repeat'(first|refine gE ?_|(conv=>whnf);first|with_reducible (first|refine C6 (ab e) ?_|refine Bf.E (λg=>?_) (λg=>?_)))
  ·exact O0 (λz=>[B z]) ψ
  (conv=>whnf)
  refine C7 (i+1) ⟨ω,?_⟩ ω ?_
  ·grind [U2]
  exact wB
 repeat'(first|refine gE ?_|fail)
 rw[Q3 ω]at d;exact O0 (λz=>[B z]) ψ
set_option maxHeartbeats 4000000
def good(k:Int)(s:List Int)(a:Int):Prop:=0<=a/\a<=511/\a.tmod (csz k)=0/\a∉s
instance (k:Int) (s:List Int) (a:Int):Decidable (good k s a):=by unfold good;exact inferInstance
def wy(k:Int):List Int->List Int->Option (List Int)
 | s,[]=>some s
 | s,a::l=>if good k s a then wy k (s++[a]) l else none
def fE(k:Nat)(s l:List Int):Option (List Int):=if l.length<=8/\k<=3 then wy k s l else none
def jl:Nat->List Int->List (List Int)->Option (List Int)
 | _,s,[]=>some s
 | k,s,l::ls=>(fE k s l).bind λa=>jl (k+1) a ls
def bL(c:ar):Bool:=decide (c.W.length=4)&&(jl 0 [] c.W).isSome
theorem n6(k:Int):∀(a s b:List Int),wy k s (a++b)=(wy k s a).bind λc=>wy k c b
 | [],s,b=>rfl
 | x::a,s,b=>by
  simp only[List.cons_append,wy];split
  ·exact n6 k a _ b
  rfl
theorem lw:∀(a:List (List Int))(k:Nat)(s:List Int)(b:List (List Int)),jl k s (a++b)=(jl k s a).bind λc=>jl (k+a.length) c b
 | [],k,s,b=>rfl
 | l::a,k,s,b=>by
  simp only[List.cons_append,jl,Option.bind_assoc,List.length_cons]
  congr 1;funext c
  rw[lw a (k+1) c b,show k+1+a.length=k+(a.length+1) by omega]
theorem Bd{k:Int}{l b s:List Int}{j:Nat}{a:Int}(c:l[j]? = some a)(h:wy k b (l.take j)=some s)(d:good k s a):wy k b (l.take (j+1))=some (s++[a]):=by grind [U2,n6,wy]
theorem DG{k:Nat}{l b s:List Int}{j:Nat}{a:Int}(c:l[j]? = some a)(h:wy k b (l.take j)=some s)(d:¬good k s a):fE k b l=none:=by
 unfold fE;split
 all_goals grind [List.drop_eq_getElem_cons,List.take_append_drop,n6,wy]
theorem wn{k:Int} : ∀{l s b:List Int},wy k s l=some b->b.length=s.length+l.length
 | [],s,b,h=>by grind [wy]
 | a::l,s,b,h=>by
  simp only[wy]at h;split at h
  ·have:=wn h;grind
  cases h
theorem pn{a:List (List Int)}{i:Nat}{l s:List Int}(b:a[i]? = some l)(h:jl 0 [] (a.take i)=some s):jl 0 [] (a.take (i+1))=fE i s l:=by
 have c:=(I1.1 b).1;rw[U2,b,Option.toList_some,lw,h];simp only[Option.bind_some,jl,O3,U0,Nat.min_eq_left (Nat.le_of_lt c)]
 grind
theorem iz{c:ar}{i:Nat}{l s:List Int}(a:c.W[i]? = some l)(h:jl 0 [] (c.W.take i)=some s)(b:fE i s l=none):bL c=false:=by
 have d:=pn a h
 grind [List.take_append_drop,lw,bL]
theorem xp:∀{b:List (List Int)}{k:Nat}{s a:List Int},jl k s b=some a->a.length<=s.length+8*b.length
 | [],k,s,a,h=>by grind [jl]
 | l::b,k,s,a,h=>by
  simp only[jl]at h;unfold fE at h;split at h
  ·cases c:wy k s l with
   | none=>grind
   | some d=>
    rw[c]at h;have e:=wn c;have f:=xp (show jl (k+1) d b=some a from h)
    grind
  cases h
def DM{i:Nat}(h:i<=3):csz (i:Int)≠0:=by
 obtain rfl|rfl|rfl|rfl:i=0\/i=1\/i=2\/i=3:=ω
 all_goals decide
def cJ{l:List Int} : ∀r∈l.map (rI .own),r.length=1:=by
 intro r a;obtain⟨z,-,rfl⟩:=C2.1 a;rfl
theorem hP(c:ar)(t:ar.sml c):af Tryz.prog 95 false [.val (some 1) (ar.enc .H c)] .one [B (bL c)]:=by
 have G:=t.1;refine fO 60 [] Tryz.func95 rfl ?_
 repeat'(first|refine gP ?_|(conv=>whnf);first|with_reducible refine Bf.N (λe=>?_) (λe=>?_))
 ·exact O0 (λz=>[B z]) (by grind [bL])
 have H:c.W.length=4:=ω
 (conv=>whnf)
 refine C8 (ι:=Nat × List Int) (λi=>[(1,.F .box (ar.enc .H c)),(3,.F .one (aK .own i.2)),(4,.F .one [I (i.1:Nat)])]) (λi=>i.1<=4/\jl 0 [] (c.W.take i.1)=some i.2) (λi=>4 - i.1) (0,[]) ?_ ⟨N0 _,rfl⟩ λi k=>?_
 ·exact wB
 obtain⟨i,s⟩:=i;obtain⟨k,b⟩:=k;simp only at k b |-;have g:=xp b;rw[U0]at g;simp only[List.length_nil]at g;by_cases u:i<4
 ·obtain⟨l,d⟩ : ∃l,c.W[i]? = some l:=(ψ)
  have w:l.length<=1048576:=t.2 l ψ
  repeat'(first|refine gE ?_|(conv=>whnf);first|with_reducible (first|refine C6 (ab d) ?_|refine Bf.D (λe=>?_) (λe=>?_)))
  ·exact O0 (λz=>[B z]) (iz d b (by grind [fE])).symm
  have E:l.length<=8:=ω
  (conv=>whnf)
  refine C8 (ι:=Nat × List Int) (λj=>[(1,.F .box (ar.enc .H c)),(3,.F .one (aK .own j.2)),(4,.F .one [I (i:Nat)]),(5,.F .one [I (j.1:Nat)])]) (λj=>j.1<=l.length/\wy i s (l.take j.1)=some j.2) (λj=>l.length - j.1) (0,s) ?_ ⟨N0 _,rfl⟩ λj n=>?_
  ·exact wB
  obtain⟨j,o⟩:=j;obtain⟨n,a⟩:=n;simp only at n a |-;have h:=wn a;rw[U0]at h;by_cases p:j<l.length
  ·obtain⟨y,q⟩ : ∃y,l[j]? = some y:=⟨_,C1 p⟩
   repeat'(first|refine gE ?_|(conv=>whnf);first|with_reducible (first|refine C6 (ab d) ?_|refine C6 (ab q) ?_|refine Bf.D (λe=>?_) (λe=>?_)|refine Bf.N (λe=>?_) (λe=>?_))|refine C4 (aN y 0 511) ?_|refine C4 (cX (i:Nat)) ?_|refine CD (DM ω) ?_|refine Ev.mk rfl ?_|refine Cl.eq (j7 o y ω) ⟨⟨rfl,gl _⟩,⟨rfl,rfl⟩,trivial⟩ ?_|refine CI cJ (λr F=>by rw[T0.1 F];rfl) (by simp[aQ,cW]) (by simp;omega) (by simp only[Q0];exact tp (by simp;omega) (by decide)) rfl ?_)
   all_goals first
    | exact O0 (λz=>[B z]) (iz d b (DG q a λ⟨J,K,L,M⟩=>by first|contradiction|omega)).symm
    | ((conv=>whnf)
       refine C7 (j+1,o++[y]) ⟨(by simp only;omega),Bd q a ⟨ω,ω,(by assumption),(by assumption)⟩⟩ (by simp only;omega) ?_
       (repeat'(first|exact trivial|rfl|exact C5 rfl (C5 (O0 (C.s dm.own) (by simp[rI])) trivial)|refine C5 ?_ ?_)))
  repeat'(first|refine gE ?_|(conv=>whnf);first|with_reducible refine C6 (ab d) ?_)
  (conv=>whnf)
  rw[Q3 ω]at a;refine C7 (i+1,o) ⟨(by simp only;omega),(by rw[pn d b];grind [fE])⟩ (by simp only;omega) ?_;exact wB
 repeat'(first|refine gE ?_|fail)
 rw[Q3 ω]at b;exact O0 (λz=>[B z]) (by grind [bL])
def dP(s:List Int):List (Int × Value):=s.map λa=>(a,.bool true)
theorem jM(a:Int):∀(s:List Int),mlook (dP s) a (.bool false)=.bool (decide (a∈s))
 | []=>by simp[dP,mlook]
 | x::s=>by
  have b:=jM a s
  grind [dP,mlook]
theorem pB{a:Int} : ∀{s:List Int},a∉s->dP (s++[a])=mput (dP s) a (.bool true)
 | [],_=>rfl
 | x::s,h=>by
  simp only[List.mem_cons,not_or]at h;have b:=pB h.2
  grind [dP,mput]
theorem jO(c:ar)(p:ar.sml c):af Tryz.prog 133 false [.val (some 1) (ar.enc .H c)] .one [B (bL c)]:=by
 have w:=p.1;refine fO 54 [] Tryz.func133 rfl ?_
 repeat'(first|refine gP ?_|fail)
 (conv=>whnf)
 refine C8 (ι:=Nat × List Int) (λi=>[(1,.F .box (ar.enc .H c)),(3,.F .one [.m (dP i.2)]),(10,.F .one (dn .H c.W)),(11,.F .one [I c.W.length]),(12,.F .one [I (i.1:Nat)])]) (λi=>i.1<=c.W.length/\jl 0 [] (c.W.take i.1)=some i.2) (λi=>c.W.length - i.1) (0,[]) ?_ ⟨N0 _,rfl⟩ λi g=>?_
 ·exact wB
 obtain⟨i,s⟩:=i;obtain⟨g,d⟩:=g;simp only at g d |-;by_cases q:i<c.W.length
 ·obtain⟨l,b⟩ : ∃l,c.W[i]? = some l:=(ψ)
  have r:l.length<=1048576:=p.2 l ψ
  repeat'(first|refine gE ?_|(conv=>whnf);first|with_reducible (first|refine C6 (ab b) ?_|refine Bf.D (λe=>?_) (λe=>?_))|refine C4 (dR (i:Nat)) ?_)
  ·exact O0 (λz=>[B z]) (iz b d (by grind [fE])).symm
  rotate_left
  ·exact O0 (λz=>[B z]) (iz b d (by grind [fE])).symm
  have t:l.length<=8:=ω
  have u:i<=3:=ω
  (conv=>whnf)
  refine C8 (ι:=Nat × List Int) (λj=>[(1,.F .box (ar.enc .H c)),(3,.F .one [.m (dP j.2)]),(4,.F .one [I (i:Nat)]),(10,.F .one (dn .H c.W)),(11,.F .one [I c.W.length]),(12,.F .one [I (i:Nat)]),(25,.F .one (aK .H l)),(26,.F .one [I l.length]),(27,.F .one [I (j.1:Nat)])]) (λj=>j.1<=l.length/\wy i s (l.take j.1)=some j.2) (λj=>l.length - j.1) (0,s) ?_ ⟨N0 _,rfl⟩ λj h=>?_
  ·exact wB
  obtain⟨j,k⟩:=j;obtain⟨h,a⟩:=h;simp only at h a |-;by_cases n:j<l.length
  ·obtain⟨y,o⟩ : ∃y,l[j]? = some y:=⟨_,C1 n⟩
   repeat'(first|refine gE ?_|(conv=>whnf);first|with_reducible (first|refine C6 (ab b) ?_|refine C6 (ab o) ?_|refine Bf.D (λe=>?_) (λe=>?_)|refine Bf.N (λe=>?_) (λe=>?_))|refine C4 (aE y 0 511) ?_|refine C4 (bN (i:Nat)) ?_|refine CD (DM ω) ?_|refine Ev.mk rfl ?_|refine Ml.mk (jM y k) ?_|refine Mu.mk (pB (by assumption)) ?_)
   all_goals first
    | exact O0 (λz=>[B z]) (iz b d (DG o a λ⟨C,E,F,G⟩=>by first|contradiction|omega)).symm
    | ((conv=>whnf)
       refine C7 (j+1,k++[y]) ⟨(by simp only;omega),Bd o a ⟨ω,ω,(by assumption),(by assumption)⟩⟩ (by simp only;omega) ?_
       (exact wA))
  repeat'(first|refine gE ?_|fail)
  (conv=>whnf)
  rw[Q3 ω]at a;refine C7 (i+1,k) ⟨(by simp only;omega),(by rw[pn b d];grind [fE])⟩ (by simp only;omega) ?_;exact wB
 repeat'(first|refine gE ?_|fail)
 grind [M0,bL]
def bo:Nat->List (List Int)->Int
 | _,[]=>0
 | k,l::ls=>l.length*csz k+bo (k+1) ls
def aS(c:ar):Int:=if bL c then bo 0 c.W else 0
theorem kG:∀(a:List (List Int))(k:Nat)(l:List Int),bo k (a++[l])=bo k a+l.length*csz (k+a.length:Nat)
 | [],k,l=>by simp[bo]
 | x::a,k,l=>by
  simp only[List.cons_append,bo,List.length_cons];rw[kG a (k+1) l,show k+1+a.length=k+(a.length+1) by omega];omega
theorem dZ{a:List (List Int)}{i:Nat}{l:List Int}(b:a[i]? = some l):bo 0 (a.take (i+1))=bo 0 (a.take i)+l.length*csz i:=by grind [U2,kG]
theorem AM:∀{b:List (List Int)}{k:Nat}{s c:List Int},jl k s b=some c->∀l∈b,l.length<=8
 | [],k,s,c,h,l,a=>by simp at a
 | x::b,k,s,c,h,l,a=>by
  simp only[jl]at h;unfold fE at h;split at h
  ·rename_i d
   rcases List.mem_cons.1 a with rfl|a
   ·exact d.1
   cases e:wy k s x with
   | none=>grind
   | some f=>rw[e]at h;exact AM (show jl (k+1) f b=some c from h) l a
  cases h
theorem gw{c:ar}(h:bL c=true):c.W.length=4/\∀l∈c.W,l.length<=8:=by grind [Option.isSome_iff_exists,AM,bL]
theorem zy(i:Nat):0<=csz (i:Int)/\csz (i:Int)<=8:=by
 by_cases h:i<=3
 ·obtain rfl|rfl|rfl|rfl:i=0\/i=1\/i=2\/i=3:=ω
  all_goals decide
 grind [csz]
def vi{n:Nat}{k:Int}(b:n<=8)(a:0<=k)(c:k<=8):0<=(n:Int)*k/\(n:Int)*k<=64:=by
 refine⟨Int.mul_nonneg ω a,?_⟩;have d:(n:Int)*k<=8*k:=Int.mul_le_mul_of_nonneg_right ω a;omega
theorem mH(f:aC)(h:aC.sml f):af Tryz.prog 189 false [.val (some 2) (aC.enc .H f)] .one [B (cv f)]:=by
 have C:=h.1.1;have E:f.c.length<=1048576:=h.2;refine fO 61 [] Tryz.func189 rfl ?_
 repeat'(first|refine gP ?_|(conv=>whnf);first|with_reducible (first|refine Bf.D (λa=>?_) (λa=>?_)|refine Bf.N (λa=>?_) (λa=>?_))|refine C4 (aN f.V.length 1 32) ?_)
 ·exact O0 (λz=>[B z]) (by grind [cv])
 rotate_left
 ·exact O0 (λz=>[B z]) (by grind [cv])
 have t:1<=f.V.length/\f.V.length<=32:=ω
 have w:f.c.length=f.V.length:=ω
 (conv=>whnf)
 refine C8 (ι:=Nat) (λi=>[(1,.F .box (aC.enc .H f)),(3,.F .one [I (i:Nat)])]) (λi=>i<=f.V.length/\((f.V.zip f.c).take i).all (λq=>j6 q.1 q.2)=true) (λi=>f.V.length - i) 0 ?_ ψ λi j=>?_
 ·exact wB
 obtain⟨j,y⟩:=j;by_cases g:i<f.V.length
 ·obtain⟨r,c⟩ : ∃r,f.V[i]? = some r:=⟨_,C1 g⟩
  obtain⟨u,b⟩ : ∃u,f.c[i]? = some u:=⟨_,C1 ω⟩
  repeat'(first|refine gE ?_|(conv=>whnf);first|with_reducible (first|refine C6 (ab c) ?_|refine Bf.N (λa=>?_) (λa=>?_)))
  ·exact O0 (λz=>[B z]) (f0 c b (by grind [j6])).symm
  have l:r.length=16:=ω
  (conv=>whnf)
  refine C8 (ι:=Nat) (λk=>[(1,.F .box (aC.enc .H f)),(3,.F .one [I (i:Nat)]),(4,.F .one [I (k:Nat)])]) (λk=>k<=16/\(r.take k).all (jc u)=true) (λk=>16 - k) 0 ?_ ψ λk n=>?_
  ·exact wB
  obtain⟨n,e⟩:=n;by_cases o:k<16
  ·obtain⟨v,d⟩ : ∃v,r[k]? = some v:=⟨_,C1 ω⟩
   cases u with
   | true=>
    repeat'(first|refine gE ?_|(conv=>whnf);first|with_reducible (first|refine C6 (ab c) ?_|refine C6 (ab b) ?_|refine C6 (ab d) ?_|refine Bf.D (λa=>?_) (λa=>?_)|refine Bf.N (λa=>?_) (λa=>?_))|refine C4 (aN v 0 999) ?_)
    all_goals first
     | exact O0 (λz=>[B z]) (f0 c b (ow d (by first|(unfold jc;rw[M0 ω];rfl)|(unfold jc;rw[M0 (p:=v=0) ω];simp)))).symm
     | ((conv=>whnf)
        refine C7 (ι:=Nat) (k+1) ⟨ω,bT d e (by unfold jc;first|(rw[L0 ω];rfl)|(rw[L0 (p:=0<=v/\v<=999) ω,L0 (p:=v=0) ω];rfl))⟩ ω ?_
        (exact wA))
   | false=>
    repeat'(first|refine gE ?_|(conv=>whnf);first|with_reducible (first|refine C6 (ab c) ?_|refine C6 (ab b) ?_|refine C6 (ab d) ?_|refine Bf.D (λa=>?_) (λa=>?_)|refine Bf.N (λa=>?_) (λa=>?_))|refine C4 (aN v 0 999) ?_)
    all_goals first
     | exact O0 (λz=>[B z]) (f0 c b (ow d (by first|(unfold jc;rw[M0 ω];rfl)|(unfold jc;rw[M0 (p:=v=0) ω];simp)))).symm
     | ((conv=>whnf)
        refine C7 (ι:=Nat) (k+1) ⟨ω,bT d e (by unfold jc;first|(rw[L0 ω];rfl)|(rw[L0 (p:=0<=v/\v<=999) ω,L0 (p:=v=0) ω];rfl))⟩ ω ?_
        (exact wA))
  repeat'(first|refine gE ?_|fail)
  (conv=>whnf)
  refine C7 (i+1) ⟨ω,bT (qV c b) y (by grind [j6])⟩ ω ?_;exact wB
 repeat'(first|refine gE ?_|fail)
 exact O0 (λz=>[B z]) (by grind [List.length_zip,cv])
theorem mM(f:aC)(g:aC.sml f):af Tryz.prog 166 false [.val (some 2) (aC.enc .H f)] .one [B (cv f)]:=by
 have C:=g.1.1;have E:f.c.length<=1048576:=g.2;refine fO 55 [] Tryz.func166 rfl ?_
 repeat'(first|refine gP ?_|(conv=>whnf);first|with_reducible (first|refine Bf.D (λa=>?_) (λa=>?_)|refine Bf.N (λa=>?_) (λa=>?_))|refine C4 (aE f.V.length 1 32) ?_)
 ·exact O0 (λz=>[B z]) (by grind [cv])
 rotate_left
 ·exact O0 (λz=>[B z]) (by grind [cv])
 have p:1<=f.V.length/\f.V.length<=32:=ω
 have t:f.c.length=f.V.length:=ω
 (conv=>whnf)
 refine C8 (ι:=Nat) (λi=>[(1,.F .box (aC.enc .H f)),(22,.F .one (dn .H f.V)),(23,.F .one [I (f.V.length)]),(24,.F .one [I ((i:Nat):Int)])]) (λi=>i<=f.V.length/\((f.V.zip f.c).take i).all (λq=>j6 q.1 q.2)=true) (λi=>f.V.length - i) (0) ?_ ψ λi j=>?_
 ·exact wB
 obtain⟨j,w⟩:=j;by_cases h:i<f.V.length
 ·obtain⟨r,c⟩ : ∃r,f.V[i]? = some r:=⟨_,C1 h⟩
  obtain⟨u,b⟩ : ∃u,f.c[i]? = some u:=⟨_,C1 ω⟩
  have y:r.length<=1048576:=g.1.2 r ψ
  repeat'(first|refine gE ?_|(conv=>whnf);first|with_reducible (first|refine C6 (ab c) ?_|refine Bf.N (λa=>?_) (λa=>?_)))
  ·exact O0 (λz=>[B z]) (f0 c b (by grind [j6])).symm
  have l:r.length=16:=ω
  (conv=>whnf)
  refine C8 (ι:=Nat) (λk=>[(1,.F .box (aC.enc .H f)),(3,.F .one [I ((i:Nat):Int)]),(22,.F .one (dn .H f.V)),(23,.F .one [I (f.V.length)]),(24,.F .one [I ((i:Nat):Int)]),(32,.F .one (aK .H r)),(33,.F .one [I (r.length)]),(34,.F .one [I ((k:Nat):Int)])]) (λk=>k<=r.length/\(r.take k).all (jc u)=true) (λk=>r.length - k) (0) ?_ ψ λk n=>?_
  ·exact wB
  obtain⟨n,e⟩:=n;by_cases o:k<r.length
  ·obtain⟨v,d⟩ : ∃v,r[k]? = some v:=⟨_,C1 ω⟩
   cases u with
   | true=>
    repeat'(first|refine gE ?_|(conv=>whnf);first|with_reducible (first|refine C6 (ab c) ?_|refine C6 (ab b) ?_|refine C6 (ab d) ?_|refine Bf.D (λa=>?_) (λa=>?_)|refine Bf.N (λa=>?_) (λa=>?_))|refine C4 (aE v 0 999) ?_)
    all_goals first
     | exact O0 (λz=>[B z]) (f0 c b (ow d (by unfold jc;grind))).symm
     | ((conv=>whnf)
        refine C7 (ι:=Nat) (k+1) ⟨ω,bT d e (by unfold jc;grind)⟩ ω ?_
        (exact wA))
   | false=>
    repeat'(first|refine gE ?_|(conv=>whnf);first|with_reducible (first|refine C6 (ab c) ?_|refine C6 (ab b) ?_|refine C6 (ab d) ?_|refine Bf.D (λa=>?_) (λa=>?_)|refine Bf.N (λa=>?_) (λa=>?_))|refine C4 (aE v 0 999) ?_)
    all_goals first
     | exact O0 (λz=>[B z]) (f0 c b (ow d (by unfold jc;grind))).symm
     | ((conv=>whnf)
        refine C7 (ι:=Nat) (k+1) ⟨ω,bT d e (by unfold jc;grind)⟩ ω ?_
        (exact wA))
  repeat'(first|refine gE ?_|fail)
  (conv=>whnf)
  refine C7 (i+1) ⟨ω,bT (qV c b) w (by grind [j6])⟩ ω ?_;exact wB
 repeat'(first|refine gE ?_|fail)
 exact O0 (λz=>[B z]) (by grind [List.length_zip,cv])
theorem vg(t:az)(b:Int)(e:az.sml t):af Tryz.prog 231 false [.val (some 1) (az.enc .H t),.val none [I b]] .one [B (eY t b)]:=by
 have k:=e.1;refine fO 54 [] Tryz.func231 rfl ?_
 repeat'(first|refine gP ?_|fail)
 (conv=>whnf)
 refine C8 (ι:=Nat) (λi=>[(1,.F .one [I (b)]),(2,.F .box (az.enc .H t)),(5,.F .one [I ((i:Nat):Int)])]) (λi=>i<=t.K.length/\cB i (λj=>A6 b (nth t.K j))=true) (λi=>t.K.length - i) 0 ?_ ⟨N0 _,rfl⟩ λi c=>?_
 ·exact wB
 obtain⟨c,g⟩:=c;by_cases d:i<t.K.length
 ·have h:=ao d
  repeat'(first|refine gE ?_|(conv=>whnf);first|with_reducible (first|refine C6 (ab h) ?_|refine Bf.D (λa=>?_) (λa=>?_)|refine Bf.N (λa=>?_) (λa=>?_)|refine Bf.E (λa=>?_) (λa=>?_))|refine C4 (aN _ 0 2) ?_)
  all_goals first
   | exact O0 (λz=>[B z]) ((by symm;unfold eY;rw[bC d (M0 ψ)];rfl))
   | ((conv=>whnf);refine C7 (i+1) ⟨ω,bm g (L0 ψ)⟩ ω ?_;(exact wB))
 repeat'(first|refine gE ?_|(conv=>whnf);first|refine C4 (aN _ 1 32) ?_)
 obtain rfl:i=t.K.length:=ω
 exact O0 (λz=>[B z]) ((by grind [eY]))
theorem wj(t:az)(b:Int)(e:az.sml t):af Tryz.prog 240 false [.val (some 1) (az.enc .H t),.val none [I b]] .one [B (eY t b)]:=by
 have k:=e.1;refine fO 49 [] Tryz.func240 rfl ?_
 repeat'(first|refine gP ?_|fail)
 (conv=>whnf)
 refine C8 (ι:=Nat) (λi=>[(1,.F .one [I (b)]),(2,.F .box (az.enc .H t)),(8,.F .one (d4 .H t.K)),(9,.F .one [I (t.K.length)]),(10,.F .one [I ((i:Nat):Int)])]) (λi=>i<=t.K.length/\cB i (λj=>A6 b (nth t.K j))=true) (λi=>t.K.length - i) 0 ?_ ⟨N0 _,rfl⟩ λi c=>?_
 ·exact wB
 obtain⟨c,g⟩:=c;by_cases d:i<t.K.length
 ·have h:=ao d
  repeat'(first|refine gE ?_|(conv=>whnf);first|with_reducible (first|refine C6 (ab h) ?_|refine Bf.D (λa=>?_) (λa=>?_)|refine Bf.N (λa=>?_) (λa=>?_)|refine Bf.E (λa=>?_) (λa=>?_))|refine C4 (aE _ 0 2) ?_)
  all_goals first
   | exact O0 (λz=>[B z]) ((by symm;unfold eY;rw[bC d (M0 ψ)];rfl))
   | ((conv=>whnf);refine C7 (i+1) ⟨ω,bm g (L0 ψ)⟩ ω ?_;(exact wB))
 repeat'(first|refine gE ?_|(conv=>whnf);first|refine C4 (aE _ 1 32) ?_)
 obtain rfl:i=t.K.length:=ω
 exact O0 (λz=>[B z]) ((by grind [eY]))
theorem od(t:az)(f:Int)(c:az.sml t):af Tryz.prog 114 false [.val (some 1) (az.enc .H t),.val none [I f]] .one (aK .own (cZ t f)):=by
 have j:=c.1;refine fO 37 [] Tryz.func114 rfl ?_ (.inr (cu _))
 repeat'(first|refine gP ?_|fail)
 (conv=>whnf)
 refine C8 (ι:=Nat) (λi=>[(1,.F .one [I (f)]),(2,.F .box (az.enc .H t)),(5,.F .one (aK .own (ja t f i))),(6,.F .one [I ((i:Nat):Int)])]) (λi=>i<=t.K.length) (λi=>t.K.length - i) (0) ?_ (N0 _) λi k=>?_
 ·exact wB
 have d:=pT t f i;by_cases e:i<t.K.length
 ·have g:=ao e
  repeat'(first|refine gE ?_|(conv=>whnf);first|with_reducible (first|refine C6 (ab g) ?_|refine Bf.D (λb=>?_) (λb=>?_)|refine Bf.N (λb=>?_) (λb=>?_)|refine Bf.E (λb=>?_) (λb=>?_))|refine CI cJ (λr h=>by rw[T0.1 h];rfl) (by simp[aQ,cW]) (by simp;omega) (by simp only[Q0];exact tp (by simp;omega) (by decide)) rfl ?_)
  all_goals first
   |(have a:GJ t f i=true:=L0 ψ
     (conv=>whnf)
     refine C7 (i+1) ω ω ?_;rw[uU a]
     (repeat'(first|exact trivial|rfl|exact C5 rfl (C5 (O0 (C.s dm.own) (by simp[rI])) trivial)|refine C5 ?_ ?_)))
   |(have a:GJ t f i=false:=M0 ψ
     (conv=>whnf)
     refine C7 (i+1) ω ω ?_;rw[xU a]
     (exact wA))
 repeat'(first|refine gE ?_|fail)
 obtain rfl:i=t.K.length:=ω
 rfl
theorem og(t:az)(f:Int)(c:az.sml t):af Tryz.prog 141 false [.val (some 1) (az.enc .H t),.val none [I f]] .one (aK .own (cZ t f)):=by
 have j:=c.1;refine fO 32 [] Tryz.func141 rfl ?_ (.inr (cu _))
 repeat'(first|refine gP ?_|fail)
 (conv=>whnf)
 refine C8 (ι:=Nat) (λi=>[(1,.F .one [I (f)]),(5,.F .one (aK .own (ja t f i))),(10,.F .one (d4 .H t.K)),(11,.F .one [I (t.K.length)]),(12,.F .one [I ((i:Nat):Int)])]) (λi=>i<=t.K.length) (λi=>t.K.length - i) (0) ?_ (N0 _) λi k=>?_
 ·exact wB
 have d:=pT t f i;by_cases e:i<t.K.length
 ·have g:=ao e
  repeat'(first|refine gE ?_|(conv=>whnf);first|with_reducible (first|refine C6 (ab g) ?_|refine Bf.D (λb=>?_) (λb=>?_)|refine Bf.N (λb=>?_) (λb=>?_)|refine Bf.E (λb=>?_) (λb=>?_))|refine CI cJ (λr h=>by rw[T0.1 h];rfl) (by simp[aQ,cW]) (by simp;omega) (by simp only[Q0];exact tp (by simp;omega) (by decide)) rfl ?_)
  all_goals first
   |(have a:GJ t f i=true:=L0 ψ
     (conv=>whnf)
     refine C7 (i+1) ω ω ?_;rw[uU a]
     (repeat'(first|exact trivial|rfl|exact C5 rfl (C5 (O0 (C.s dm.own) (by simp[rI])) trivial)|refine C5 ?_ ?_)))
   |(have a:GJ t f i=false:=M0 ψ
     (conv=>whnf)
     refine C7 (i+1) ω ω ?_;rw[xU a]
     (exact wA))
 repeat'(first|refine gE ?_|fail)
 obtain rfl:i=t.K.length:=ω
 rfl
def rg(t:az)(p:Int)(b:az.sml t):af Tryz.prog 113 false [.val (some 1) (az.enc .H t),.val none [I p]] .agg (aD.enc .own (aZ t p)):=by
 have d:=b.1;refine fO 18 [] Tryz.func113 rfl ?_ (.inr (aD.enc_fr _));by_cases a:0<=p/\p<t.K.length
 ·have c:=ao (xs:=t.K) (i:=p.toNat) ω
  repeat'(first|refine gE ?_|(conv=>whnf);first|refine C4 (aN _ 0 _) ?_|refine CJ a.1 (ab c) ?_)
  all_goals(unfold aZ;rw[CA a];rfl)
 repeat'(first|refine gE ?_|(conv=>whnf);first|refine C4 (aN _ 0 _) ?_)
 all_goals(unfold aZ;rw[C9 a];rfl)
def iG(t:az)(p:Int)(b:az.sml t):af Tryz.prog 140 false [.val (some 1) (az.enc .H t),.val none [I p]] .agg (aD.enc .own (aZ t p)):=by
 have d:=b.1;refine fO 18 [] Tryz.func140 rfl ?_ (.inr (aD.enc_fr _));by_cases a:0<=p/\p<t.K.length
 ·have c:=ao (xs:=t.K) (i:=p.toNat) ω
  repeat'(first|refine gE ?_|(conv=>whnf);first|refine C4 (aE _ 0 _) ?_|refine CJ a.1 (ab c) ?_)
  all_goals(unfold aZ;rw[CA a];rfl)
 repeat'(first|refine gE ?_|(conv=>whnf);first|refine C4 (aE _ 0 _) ?_)
 all_goals(unfold aZ;rw[C9 a];rfl)
def ny(t:az)(f:Int):(cZ t f).length<=t.K.length:=pT ..
theorem sX(m:aB)(a:aB.sml m):af Tryz.prog 177 false [.val (some 3) (aB.enc .H m)] .one [B (cY m)]:=by
 have q:m.U.c.length<=1048576:=a.1.2;have k:m.U.V.length<=1048576:=a.1.1.1;have b:=mH m.U a.1;have c:=vg m.a m.U.V.length a.2;cases d:cv m.U with
 | false=>
  rw[d]at b;refine fO 39 [(6,13,[26,27,28,29,30,31,32,33,34,35,36,37,38])] Tryz.func177 rfl ?_
  repeat'(first|refine gP ?_|(conv=>whnf);first|refine C4 b ?_)
  exact O0 (λz=>[B z]) ((by grind [cY]))
 | true=>
  have g:=wv d;rw[d]at b;cases e:eY m.a m.U.c.length with
  | false=>
   rw[show(m.U.V.length:Int)=m.U.c.length by omega,e]at c;refine fO 39 [(6,13,[26,27,28,29,30,31,32,33,34,35,36,37,38])] Tryz.func177 rfl ?_
   repeat'(first|refine gP ?_|(conv=>whnf);first|refine C4 b ?_|refine C4 ((show(m.U.V.length:Int)=m.U.c.length by omega) ▸ c) ?_)
   exact O0 (λz=>[B z]) ((by grind [cY]))
  | true=>
   rw[show(m.U.V.length:Int)=m.U.c.length by omega,e]at c;refine fO 39 [(6,13,[26,27,28,29,30,31,32,33,34,35,36,37,38])] Tryz.func177 rfl ?_
   repeat'(first|refine gP ?_|(conv=>whnf);first|refine C4 b ?_|refine C4 ((show(m.U.V.length:Int)=m.U.c.length by omega) ▸ c) ?_)
   (conv=>whnf)
   refine C8 (ι:=Nat) (λi=>[(1,.F .box (aB.enc .H m)),(3,.F .one [I ((i:Nat):Int)])]) (λi=>i<=m.U.c.length/\cB i (mh m)=true) (λi=>m.U.c.length - i) 0 ?_ ⟨N0 _,rfl⟩ λi h=>?_
   ·exact wB
   obtain⟨h,l⟩:=h;by_cases j:i<m.U.c.length
   ·have n:=ao j
    have o:=ny m.a (i:Nat)
    repeat'(first|refine gE ?_|(conv=>whnf);first|with_reducible (first|refine C6 (ab n) ?_|refine Bf.NB (λp=>?_) (λp=>?_))|refine C4 (od m.a (i:Nat) a.2) ?_)
    all_goals first
     | exact O0 (λz=>[B z]) ((by symm;unfold cY;rw[d,e,bC j (by unfold mh;grind)];rfl))
     | ((conv=>whnf);refine C7 (i+1) ⟨ω,bm l (by unfold mh;grind)⟩ ω ?_;(exact wB))
   repeat'(first|refine gE ?_|fail)
   obtain rfl:i=m.U.c.length:=ω
   exact O0 (λz=>[B z]) ((by grind [cY]))
theorem su(m:aB)(b:aB.sml m):af Tryz.prog 197 false [.val (some 3) (aB.enc .H m)] .one [B (cY m)]:=by
 have o:m.U.c.length<=1048576:=b.1.2;have a:=mM m.U b.1;have c:=wj m.a m.U.c.length b.2;cases d:cv m.U with
 | false=>
  rw[d]at a;refine fO 37 [] Tryz.func197 rfl ?_
  repeat'(first|refine gP ?_|(conv=>whnf);first|refine C4 a ?_)
  exact O0 (λz=>[B z]) ((by grind [cY]))
 | true=>
  rw[d]at a;cases e:eY m.a m.U.c.length with
  | false=>
   rw[e]at c;refine fO 37 [] Tryz.func197 rfl ?_
   repeat'(first|refine gP ?_|(conv=>whnf);first|refine C4 a ?_|refine C4 c ?_)
   exact O0 (λz=>[B z]) ((by grind [cY]))
  | true=>
   rw[e]at c;refine fO 37 [] Tryz.func197 rfl ?_
   repeat'(first|refine gP ?_|(conv=>whnf);first|refine C4 a ?_|refine C4 c ?_)
   (conv=>whnf)
   refine C8 (ι:=Nat) (λi=>[(1,.F .box (aB.enc .H m)),(21,.F .one (fC .H m.U.c)),(22,.F .one [I (m.U.c.length)]),(23,.F .one [I ((i:Nat):Int)])]) (λi=>i<=m.U.c.length/\cB i (mh m)=true) (λi=>m.U.c.length - i) 0 ?_ ⟨N0 _,rfl⟩ λi g=>?_
   ·exact wB
   obtain⟨g,j⟩:=g;by_cases h:i<m.U.c.length
   ·have k:=ao h
    have l:=ny m.a (i:Nat)
    repeat'(first|refine gE ?_|(conv=>whnf);first|with_reducible (first|refine C6 (ab k) ?_|refine Bf.NB (λn=>?_) (λn=>?_))|refine C4 (og m.a (i:Nat) b.2) ?_)
    all_goals first
     | exact O0 (λz=>[B z]) ((by symm;unfold cY;rw[d,e,bC h (by unfold mh;grind)];rfl))
     | ((conv=>whnf);refine C7 (i+1) ⟨ω,bm j (by unfold mh;grind)⟩ ω ?_;(exact wB))
   repeat'(first|refine gE ?_|fail)
   obtain rfl:i=m.U.c.length:=ω
   exact O0 (λz=>[B z]) ((by grind [cY]))
def ug(k:au)(d:au.sml k):af Tryz.prog 88 false [.val (some 5) (au.enc .H k)] .one [B (dh k)]:=by
 have n:k.k.length<=1048576:=d.2;have a:=sX k.R d.1;refine fO 31 [] Tryz.func88 rfl ?_
 repeat'(first|refine gP ?_|fail)
 (conv=>whnf)
 refine C8 (ι:=Nat) (λi=>[(1,.F .box (au.enc .H k)),(3,.F .one [I ((i:Nat):Int)])]) (λi=>i<=k.k.length/\cB i (λj=>decide (0<=nth k.k j))=true) (λi=>k.k.length - i) 0 ?_ ⟨N0 _,rfl⟩ λi e=>?_
 ·exact wB
 obtain⟨e,g⟩:=e;by_cases h:i<k.k.length
 ·have l:=ao h
  repeat'(first|refine gE ?_|(conv=>whnf);first|with_reducible (first|refine C6 (ab l) ?_|refine Bf.D (λc=>?_) (λc=>?_)))
  all_goals first
   | exact O0 (λz=>[B z]) ((by symm;unfold dh;rw[bC h (M0 ω)];rfl))
   | ((conv=>whnf);refine C7 (i+1) ⟨ω,bm g (L0 ω)⟩ ω ?_;(exact wB))
 obtain rfl:i=k.k.length:=ω
 cases b:cY k.R with
 | false=>
  rw[b]at a
  repeat'(first|refine gE ?_|(conv=>whnf);first|refine C4 a ?_)
  all_goals exact O0 (λz=>[B z]) ((by unfold dh;rw[b];simp))
 | true=>
  rw[b]at a
  repeat'(first|refine gE ?_|(conv=>whnf);first|with_reducible refine Bf.D (λc=>?_) (λc=>?_)|refine C4 a ?_|refine C4 (aN _ 0 100000) ?_)
  all_goals exact O0 (λz=>[B z]) ((by unfold dh;rw[b,g];simp only[Bool.true_and];first|exact decide_eq_decide.2 ω|(symm;exact M0 ω)|(symm;exact L0 ω)))
def tL(k:au)(b:au.sml k):af Tryz.prog 127 false [.val (some 5) (au.enc .H k)] .one [B (dh k)]:=by
 have l:k.k.length<=1048576:=b.2;have g:=su k.R b.1;refine fO 29 [] Tryz.func127 rfl ?_
 repeat'(first|refine gP ?_|fail)
 (conv=>whnf)
 refine C8 (ι:=Nat) (λi=>[(1,.F .box (au.enc .H k)),(6,.F .one (aK .H k.k)),(7,.F .one [I (k.k.length)]),(8,.F .one [I ((i:Nat):Int)])]) (λi=>i<=k.k.length/\cB i (λj=>decide (0<=nth k.k j))=true) (λi=>k.k.length - i) 0 ?_ ⟨N0 _,rfl⟩ λi c=>?_
 ·exact wB
 obtain⟨c,d⟩:=c;by_cases e:i<k.k.length
 ·have h:=ao e
  repeat'(first|refine gE ?_|(conv=>whnf);first|with_reducible (first|refine C6 (ab h) ?_|refine Bf.D (λa=>?_) (λa=>?_)))
  all_goals first
   | exact O0 (λz=>[B z]) ((by symm;unfold dh;rw[bC e (M0 ω)];rfl))
   | ((conv=>whnf);refine C7 (i+1) ⟨ω,bm d (L0 ω)⟩ ω ?_;(exact wB))
 obtain rfl:i=k.k.length:=ω
 repeat'(first|refine gE ?_|(conv=>whnf);first|with_reducible refine Bf.D (λa=>?_) (λa=>?_)|refine C4 g ?_|refine C4 (aE _ 0 100000) ?_)
 all_goals exact O0 (λz=>[B z]) ((by unfold dh;rw[d];cases cY k.R<;>simp only[Bool.true_and,Bool.false_and]<;>first|rfl|exact decide_eq_decide.2 ω|(symm;exact M0 ω)|(symm;exact L0 ω)))
def xj(pages:Int)(r:aA)(b:0<=pages/\pages<=1048576):af Tryz.prog 178 false [.val none [I pages],.val (some 2) (aA.enc .H r)] .one [B (rangeIn pages r)]:=by
 refine fO 18 [] Tryz.func178 rfl ?_
 repeat'(first|refine gP ?_|(conv=>whnf);first|with_reducible refine Bf.D (λa=>?_) (λa=>?_)|refine C4 (aN _ 1 _) ?_|refine C4 (aN _ 0 _) ?_)
 all_goals exact O0 (λz=>[B z]) ((by unfold rangeIn;first|(symm;exact M0 ω)|exact decide_eq_decide.2 ω))
def zd(pages:Int)(r:aA)(b:0<=pages/\pages<=1048576):af Tryz.prog 198 false [.val none [I pages],.val (some 2) (aA.enc .H r)] .one [B (rangeIn pages r)]:=by
 refine fO 18 [] Tryz.func198 rfl ?_
 repeat'(first|refine gP ?_|(conv=>whnf);first|with_reducible refine Bf.D (λa=>?_) (λa=>?_)|refine C4 (aE _ 1 _) ?_|refine C4 (aE _ 0 _) ?_)
 all_goals exact O0 (λz=>[B z]) ((by unfold rangeIn;first|(symm;exact M0 ω)|exact decide_eq_decide.2 ω))
theorem wu(k:Int):af Tryz.prog 112 false [.val none [I k]] .one [I (slots k)]:=by
 by_cases b:0<=k/\k<=3
 ·obtain rfl|rfl|rfl|rfl:k=0\/k=1\/k=2\/k=3:=ω
  all_goals
   refine fO 9 [] Tryz.func112 rfl ?_
   repeat'(first|refine gE ?_|(conv=>whnf);first|with_reducible refine Bf.D (λa=>?_) (λa=>?_)|refine C4 (aN _ 0 3) ?_|refine CD (by decide) ?_|refine CB rfl ?_|refine Ev.mk rfl ?_)
   exact O0 (λz=>[I z]) (by decide)
 refine fO 9 [] Tryz.func112 rfl ?_
 repeat'(first|refine gE ?_|(conv=>whnf);first|with_reducible refine Bf.D (λa=>?_) (λa=>?_)|refine C4 (aN _ 0 3) ?_)
 exact O0 (λz=>[I z]) (by grind [slots])
theorem fN(k:Int):af Tryz.prog 80 false [.val none [I k]] .one [I (slots k)]:=by
 by_cases b:0<=k/\k<=3
 ·obtain rfl|rfl|rfl|rfl:k=0\/k=1\/k=2\/k=3:=ω
  all_goals
   refine fO 9 [] Tryz.func80 rfl ?_
   repeat'(first|refine gE ?_|(conv=>whnf);first|with_reducible refine Bf.D (λa=>?_) (λa=>?_)|refine C4 (dR _) ?_|refine C4 (bN _) ?_|refine CD (by decide) ?_|refine CB rfl ?_|refine Ev.mk rfl ?_)
   exact O0 (λz=>[I z]) (by decide)
 refine fO 9 [] Tryz.func80 rfl ?_
 repeat'(first|refine gE ?_|(conv=>whnf);first|with_reducible refine Bf.D (λa=>?_) (λa=>?_)|refine C4 (dR _) ?_)
 exact O0 (λz=>[I z]) (by grind [slots])
def Jd(k b:Int):Bool:=decide (0<=k/\k<=3/\0<=b/\b<=lim k)
theorem tU(k b:Int):af Tryz.prog 191 false [.val none [I (slots k)],.val none [I b]] .one [B (Jd k b)]:=by
 by_cases d:0<=k/\k<=3
 ·obtain rfl|rfl|rfl|rfl:k=0\/k=1\/k=2\/k=3:=ω
  all_goals
   first|rw[show slots 0=16 from rfl]|rw[show slots 1=8 from rfl]|rw[show slots 2=4 from rfl]|rw[show slots 3=2 from rfl]
   refine fO 15 [] Tryz.func191 rfl ?_
   repeat'(first|refine gE ?_|(conv=>whnf);first|with_reducible refine Bf.D (λa=>?_) (λa=>?_)|refine C4 (aN _ 1 16) ?_|refine C4 (aN _ 0 _) ?_|refine CD (by decide) ?_|refine CB (show _=(65536:Int) by decide) ?_|refine CB (show _=(65535:Int) by decide) ?_|refine CB (show _=(256:Int) by decide) ?_|refine CB (show _=(255:Int) by decide) ?_|refine CB (show _=(16:Int) by decide) ?_|refine CB (show _=(15:Int) by decide) ?_|refine CB (show _=(4:Int) by decide) ?_|refine CB (show _=(8:Int) by decide) ?_|refine CB (show _=(2:Int) by decide) ?_|refine CB (show _=(3:Int) by decide) ?_)
   all_goals exact O0 (λz=>[B z]) ((decide_eq_decide.2 (by simp[lim])))
 have c:slots k=0:=by grind [slots]
 rw[c];refine fO 15 [] Tryz.func191 rfl ?_
 repeat'(first|refine gE ?_|(conv=>whnf);first|with_reducible refine Bf.D (λa=>?_) (λa=>?_)|refine C4 (aN _ 1 16) ?_)
 exact O0 (λz=>[B z]) ((by symm;exact M0 ω))
theorem tE(k b:Int):af Tryz.prog 173 false [.val none [I (slots k)],.val none [I b]] .one [B (Jd k b)]:=by
 by_cases d:0<=k/\k<=3
 ·obtain rfl|rfl|rfl|rfl:k=0\/k=1\/k=2\/k=3:=ω
  all_goals
   first|rw[show slots 0=16 from rfl]|rw[show slots 1=8 from rfl]|rw[show slots 2=4 from rfl]|rw[show slots 3=2 from rfl]
   refine fO 14 [] Tryz.func173 rfl ?_
   repeat'(first|refine gE ?_|(conv=>whnf);first|with_reducible refine Bf.D (λa=>?_) (λa=>?_)|refine C4 (aE _ 1 16) ?_|refine C4 (aE _ 0 _) ?_|refine CD (by decide) ?_|refine CB (iy (by decide) (by decide)) ?_)
   all_goals exact O0 (λz=>[B z]) ((decide_eq_decide.2 (by simp[lim,IntKind.bits])))
 have c:slots k=0:=by grind [slots]
 rw[c];refine fO 14 [] Tryz.func173 rfl ?_
 repeat'(first|refine gE ?_|(conv=>whnf);first|with_reducible refine Bf.D (λa=>?_) (λa=>?_)|refine C4 (aE _ 1 16) ?_)
 exact O0 (λz=>[B z]) ((by symm;exact M0 ω))
def gv(s:ah):af Tryz.prog 110 false [.val (some 3) (ah.enc .H s)] .one [B (bn s)]:=by
 refine fO 14 [(1,12,[3,4,5,6,7,8,9,10,11,12,13,2])] Tryz.func110 rfl ?_
 repeat'(first|refine gP ?_|(conv=>whnf);first|with_reducible refine Bf.D (λa=>?_) (λa=>?_)|refine C4 (aN _ 0 31) ?_|refine C4 (wu _) ?_|refine C4 (tU _ _) ?_)
 all_goals exact O0 (λz=>[B z]) ((by unfold bn;first|(symm;exact M0 ω)|exact decide_eq_decide.2 ω))
def f8(s:ah):af Tryz.prog 78 false [.val (some 3) (ah.enc .H s)] .one [B (bn s)]:=by
 refine fO 19 [(1,17,[3,4,5,6,7,8,9,10,11,12,13,14,15,16,17,18,2])] Tryz.func78 rfl ?_
 repeat'(first|refine gP ?_|(conv=>whnf);first|with_reducible refine Bf.D (λa=>?_) (λa=>?_)|refine C4 (aE _ 0 31) ?_|refine C4 (dR _) ?_|refine C4 (fN _) ?_|refine C4 (tE _ _) ?_)
 all_goals exact O0 (λz=>[B z]) ((by unfold bn;first|(symm;exact M0 ω)|exact decide_eq_decide.2 ω))
section
variable{α:Type}{xs:List α}{p:α->Bool}{i:Nat}{y:α}
theorem v8(h:xs[i]? = some y)(a:p y=true):xs.any p=true:=V1.2 ψ
theorem te(h:xs[i]? = some y)(a:(xs.take i).any p=false)(b:p y=false):(xs.take (i+1)).any p=false:=by grind [U2]
theorem eo[Inhabited α](a:0<i)(b:i<xs.length):xs[((i:Int) - 1).toNat]? = some (nth xs (i - 1)):=by
 rw[show((i:Int) - 1).toNat=i - 1 by omega];grind [ao]
end
theorem ss{pages:Int}{xs:List aA}{i n:Nat}(a:cB n (eg pages xs)=true)(b:i<n):1<=(nth xs i).a2/\(nth xs i).a2<=pages/\0<=(nth xs i).At/\(nth xs i).At<=pages - (nth xs i).a2:=by grind [eJ,eg,rangeIn]
theorem tB(pages:Int)(xs:List aA)(d:0<=pages/\pages<=1048576)(k:dQ xs):af Tryz.prog 89 false [.val none [I pages],.val none (bQ .H xs)] .one [B (cr pages xs)]:=by
 have n:=k.1;refine fO 46 [(4,32,[12,13,14,15,16,17,18,19,20,21,22,23,24,25,26,27,28,29,30,31,32,33,34,35,36,37,38,39,40,41,42,43])] Tryz.func89 rfl ?_
 repeat'(first|refine gP ?_|fail)
 (conv=>whnf)
 refine C8 (ι:=Nat) (λi=>[(0,.F .one [I (pages)]),(1,.F .one (bQ .H xs)),(5,.F .one [I ((i:Nat):Int)])]) (λi=>i<=xs.length/\cB i (eg pages xs)=true) (λi=>xs.length - i) 0 ?_ ⟨N0 _,rfl⟩ λi e=>?_
 ·exact wB
 obtain⟨e,g⟩:=e;by_cases c:i<xs.length
 ·have j:=ao c
  have o:0<i->1<=(nth xs (i - 1)).a2/\(nth xs (i - 1)).a2<=pages/\0<=(nth xs (i - 1)).At/\(nth xs (i - 1)).At<=pages - (nth xs (i - 1)).a2:=λh=>ss g ω
  cases b:rangeIn pages (nth xs i) with
  | false=>
   have a:=xj pages (nth xs i) d;rw[b]at a
   repeat'(first|refine gE ?_|(conv=>whnf);first|with_reducible refine C6 (ab j) ?_|refine C4 a ?_)
   exact O0 (λz=>[B z]) ((by grind [bC,cr,eg]))
  | true=>
   have a:=xj pages (nth xs i) d;rw[b]at a
   repeat'(first|refine gE ?_|(conv=>whnf);first|with_reducible (first|refine C6 (ab j) ?_|refine Bf.D (λl=>?_) (λl=>?_))|refine C4 a ?_|refine CJ ω (ab (eo ω c)) ?_)
   all_goals first
    | exact O0 (λz=>[B z]) ((by symm;unfold cr;rw[bC c (by unfold eg;rw[b,M0 ω];rfl)];rfl))
    | ((conv=>whnf);refine C7 (i+1) ⟨ω,bm g (by unfold eg;rw[b,L0 ω];rfl)⟩ ω ?_;(exact wB))
 repeat'(first|refine gE ?_|(conv=>whnf);first|refine C4 (aN pages 1 32) ?_)
 grind [cr]
theorem tK(pages:Int)(xs:List aA)(j:0<=pages/\pages<=1048576)(k:dQ xs):af Tryz.prog 128 false [.val none [I pages],.val none (bQ .H xs)] .one [B (cr pages xs)]:=by
 have n:=k.1;refine fO 43 [(4,26,[14,15,16,17,18,19,20,21,22,23,24,25,26,27,28,29,30,31,32,33,34,35,36,37,38,39])] Tryz.func128 rfl ?_
 repeat'(first|refine gP ?_|fail)
 (conv=>whnf)
 refine C8 (ι:=Nat) (λi=>[(0,.F .one [I (pages)]),(1,.F .one (bQ .H xs)),(7,.F .one (bQ .H xs)),(8,.F .one [I (xs.length)]),(9,.F .one [I ((i:Nat):Int)])]) (λi=>i<=xs.length/\cB i (eg pages xs)=true) (λi=>xs.length - i) 0 ?_ ⟨N0 _,rfl⟩ λi d=>?_
 ·exact wB
 obtain⟨d,e⟩:=d;by_cases c:i<xs.length
 ·have g:=ao c
  have o:0<i->1<=(nth xs (i - 1)).a2/\(nth xs (i - 1)).a2<=pages/\0<=(nth xs (i - 1)).At/\(nth xs (i - 1)).At<=pages - (nth xs (i - 1)).a2:=λh=>ss e ω
  have a:=zd pages (nth xs i) j;cases b:rangeIn pages (nth xs i) with
  | false=>
   rw[b]at a
   repeat'(first|refine gE ?_|(conv=>whnf);first|with_reducible refine C6 (ab g) ?_|refine C4 a ?_)
   exact O0 (λz=>[B z]) ((by grind [bC,cr,eg]))
  | true=>
   rw[b]at a
   repeat'(first|refine gE ?_|(conv=>whnf);first|with_reducible (first|refine C6 (ab g) ?_|refine Bf.D (λl=>?_) (λl=>?_))|refine C4 a ?_|refine CJ ω (ab (eo ω c)) ?_)
   all_goals first
    | exact O0 (λz=>[B z]) ((by symm;unfold cr;rw[bC c (by unfold eg;rw[b,M0 ω];rfl)];rfl))
    | ((conv=>whnf);refine C7 (i+1) ⟨ω,bm e (by unfold eg;rw[b,L0 ω];rfl)⟩ ω ?_;(exact wB))
 repeat'(first|refine gE ?_|(conv=>whnf);first|refine C4 (aE pages 1 32) ?_)
 grind [cr]
theorem tF(xs:List aA)(page:Int)(g:xs.length<=9223372036854775807):af Tryz.prog 181 false [.val none (bQ .H xs),.val none [I page]] .one [B (xs.any (qC page))]:=by
 refine fO 34 [(4,22,[12,13,14,15,16,17,18,19,20,21,22,23,24,25,26,27,28,29,30,31,32,33])] Tryz.func181 rfl ?_
 repeat'(first|refine gP ?_|fail)
 (conv=>whnf)
 refine C8 (ι:=Nat) (λi=>[(0,.F .one (bQ .H xs)),(1,.F .one [I (page)]),(5,.F .one [I ((i:Nat):Int)])]) (λi=>i<=xs.length/\(xs.take i).any (qC page)=false) (λi=>xs.length - i) (0) ?_ ψ λi b=>?_
 ·exact wB
 obtain⟨b,c⟩:=b;by_cases d:i<xs.length
 ·have a:=ao d
  repeat'(first|refine gE ?_|(conv=>whnf);first|with_reducible (first|refine C6 (ab a) ?_|refine Bf.D (λe=>?_) (λe=>?_))|refine CB rfl ?_)
  all_goals first
   | exact O0 (λz=>[B z]) ((v8 a (by unfold qC;rw[L0 (by assumption),L0 (by assumption)];rfl)).symm)
   | ((conv=>whnf);refine C7 (i+1) ⟨ω,te a c (by unfold qC;first|(rw[M0 (by assumption:¬(nth xs i).At<=page)];rfl)|(rw[M0 (by assumption:¬page<_)];simp))⟩ ω ?_;(exact wB))
 repeat'(first|refine gE ?_|fail)
 exact O0 (λz=>[B z]) ψ
def tdiv16{z:Int}(h:0<=z):z.tdiv 16=z / 16:=Int.tdiv_eq_ediv_of_nonneg h
theorem uf(z:Int):af Tryz.prog 232 false [.val none [I z]] .one [I (fF z)]:=by
 refine fO 10 [] Tryz.func232 rfl ?_;by_cases b:9<=z/\z<=1000
 ·repeat'(first|refine gE ?_|(conv=>whnf);first|with_reducible refine Bf.D (λa=>?_) (λa=>?_)|refine C4 (aN z 9 1000) ?_|refine CD (by decide) ?_|refine CB ((O0 _ (tdiv16 ω)).trans (iy ω ω)) ?_)
  grind [fF]
 repeat'(first|refine gE ?_|(conv=>whnf);first|with_reducible refine Bf.D (λa=>?_) (λa=>?_)|refine C4 (aN z 9 1000) ?_)
 all_goals exact O0 (λz=>[I z]) (by unfold fF;rw[C9 b])
theorem uh(z:Int):af Tryz.prog 241 false [.val none [I z]] .one [I (fF z)]:=by
 refine fO 10 [] Tryz.func241 rfl ?_;by_cases b:9<=z/\z<=1000
 ·repeat'(first|refine gE ?_|(conv=>whnf);first|with_reducible refine Bf.D (λa=>?_) (λa=>?_)|refine C4 (aE z 9 1000) ?_|refine CD (by decide) ?_|refine CB ((O0 _ (tdiv16 ω)).trans (iy ω ω)) ?_)
  grind [fF]
 repeat'(first|refine gE ?_|(conv=>whnf);first|with_reducible refine Bf.D (λa=>?_) (λa=>?_)|refine C4 (aE z 9 1000) ?_)
 all_goals exact O0 (λz=>[I z]) (by unfold fF;rw[C9 b])
def o9(l:am):af Tryz.prog 180 false [.val (some 3) (am.enc .H l)] .one [B (bU l)]:=by
 have b:=uf l.g;by_cases c:9<=l.g/\l.g<=1000
 ·rw[show fF l.g=(l.g+15) / 16 from CA c]at b
  refine fO 22 [] Tryz.func180 rfl ?_
  repeat'(first|refine gP ?_|(conv=>whnf);first|with_reducible (first|refine Bf.D (λa=>?_) (λa=>?_)|refine Bf.E (λa=>?_) (λa=>?_))|refine C4 b ?_|refine C4 (aN _ 0 _) ?_)
  all_goals exact O0 (λz=>[B z]) ((by unfold bU;first|(symm;exact M0 ω)|exact decide_eq_decide.2 ω))
 rw[show fF l.g=0 from C9 c]at b;refine fO 22 [] Tryz.func180 rfl ?_
 repeat'(first|refine gE ?_|(conv=>whnf);first|with_reducible refine Bf.D (λa=>?_) (λa=>?_)|refine C4 b ?_)
 all_goals exact O0 (λz=>[B z]) ((by unfold bU;symm;exact M0 ω))
def oe(l:am):af Tryz.prog 200 false [.val (some 3) (am.enc .H l)] .one [B (bU l)]:=by
 have b:=uh l.g;by_cases c:9<=l.g/\l.g<=1000
 ·rw[show fF l.g=(l.g+15) / 16 from CA c]at b
  refine fO 22 [(1,20,[3,4,5,6,7,8,9,10,11,12,13,14,15,16,17,18,19,20,21,2])] Tryz.func200 rfl ?_
  repeat'(first|refine gE ?_|(conv=>whnf);first|with_reducible (first|refine Bf.D (λa=>?_) (λa=>?_)|refine Bf.E (λa=>?_) (λa=>?_))|refine C4 b ?_|refine C4 (aE _ 9 1000) ?_|refine C4 (aE _ 0 _) ?_)
  all_goals exact O0 (λz=>[B z]) ((by unfold bU;first|(symm;exact M0 ω)|exact decide_eq_decide.2 ω))
 refine fO 22 [(1,20,[3,4,5,6,7,8,9,10,11,12,13,14,15,16,17,18,19,20,21,2])] Tryz.func200 rfl ?_
 repeat'(first|refine gE ?_|(conv=>whnf);first|with_reducible refine Bf.D (λa=>?_) (λa=>?_)|refine C4 (aE _ 9 1000) ?_)
 all_goals exact O0 (λz=>[B z]) ((by unfold bU;symm;exact M0 ω))
theorem qU{z:Int}(h:0<=z/\z<=9223372036854775807):(BitVec.ofInt IntKind.i64.bits z).toNat=z.toNat:=by
 show(BitVec.ofInt 64 z).toNat=z.toNat
 grind
theorem and64{a b:Int}(c:0<=a/\a<=9223372036854775807)(d:0<=b/\b<=9223372036854775807):IntKind.i64.wrap ((BitVec.ofInt IntKind.i64.bits a &&& BitVec.ofInt IntKind.i64.bits b).toNat:Nat)=((a.toNat &&& b.toNat:Nat):Int):=by grind [qU,Nat.and_le_left,iy]
theorem Ex(k:Int):lim k<=65535:=by grind [lim]
def dB{s:ah}(h:bn s=true):0<=s.l/\s.l<=9223372036854775807:=by
 unfold bn at h;simp only[C0]at h;have:=Ex s.T;omega
def tA(b c:ah):af Tryz.prog 182 false [.val (some 3) (ah.enc .H b),.val (some 3) (ah.enc .H c)] .one [B (meshable b c)]:=by
 have g:=gv b;have h:=gv c;cases d:bn b<;>rw[d]at g<;>cases e:bn c<;>rw[e]at h
 all_goals
  refine fO 33 [] Tryz.func182 rfl ?_
  repeat'(first|refine gP ?_|(conv=>whnf);first|with_reducible (first|refine Bf.D (λa=>?_) (λa=>?_)|refine Bf.N (λa=>?_) (λa=>?_)|refine Bf.E (λa=>?_) (λa=>?_))|refine C4 g ?_|refine C4 h ?_|refine CB (and64 (dB d) (dB e)) ?_)
  all_goals exact O0 (λz=>[B z]) ((by unfold meshable;rw[d,e];first|rfl|(symm;exact M0 ω)|(rw[N2];simp;omega)))
def tI(b c:ah):af Tryz.prog 203 false [.val (some 3) (ah.enc .H b),.val (some 3) (ah.enc .H c)] .one [B (meshable b c)]:=by
 have g:=f8 b;have h:=f8 c;cases d:bn b<;>rw[d]at g<;>cases e:bn c<;>rw[e]at h
 all_goals
  refine fO 33 [] Tryz.func203 rfl ?_
  repeat'(first|refine gP ?_|(conv=>whnf);first|with_reducible (first|refine Bf.D (λa=>?_) (λa=>?_)|refine Bf.N (λa=>?_) (λa=>?_)|refine Bf.E (λa=>?_) (λa=>?_))|refine C4 g ?_|refine C4 h ?_|refine CB (and64 (dB d) (dB e)) ?_)
  all_goals exact O0 (λz=>[B z]) ((by unfold meshable;rw[d,e];first|rfl|(symm;exact M0 ω)|(rw[N2];simp;omega)))
def Dc(k:Int):af Tryz.prog 248 false [.val none [I k]] .one [B (decide (0<=k/\k<=15))]:=by
 refine fO 5 [] Tryz.func248 rfl ?_
 repeat'(first|refine gP ?_|(conv=>whnf);first|refine C4 (aE k 0 15) ?_)
 rfl
def wS(p:bf)(e:bf.sml p):af Tryz.prog 188 false [.val (some 3) (bf.enc .H p)] .one [B (kg p)]:=by
 have h:p.V.length<=1048576:=e;refine fO 51 [(4,25,[11,12,13,14,15,16,17,18,19,20,21,22,23,24,25,26,27,28,29,30,31,32,33,34,35])] Tryz.func188 rfl ?_
 repeat'(first|refine gP ?_|fail)
 (conv=>whnf)
 refine C8 (ι:=Nat) (λi=>[(1,.F .box (bf.enc .H p)),(3,.F .one [I ((i:Nat):Int)])]) (λi=>i<=p.V.length/\cB i (Am p.V)=true) (λi=>p.V.length - i) 0 ?_ ⟨N0 _,rfl⟩ λi c=>?_
 ·exact wB
 obtain⟨c,d⟩:=c;by_cases b:i<p.V.length
 ·have g:=ao b
  repeat'(first|refine gE ?_|(conv=>whnf);first|with_reducible (first|refine C6 (ab g) ?_|refine Bf.D (λa=>?_) (λa=>?_))|refine C4 (aN _ 0 15) ?_|refine CJ ω (ab (eo ω b)) ?_)
  all_goals first
   | exact O0 (λz=>[B z]) ((by symm;unfold kg;rw[bC b (M0 ω)];rfl))
   | ((conv=>whnf);refine C7 (i+1) ⟨ω,bm d (L0 ω)⟩ ω ?_;(exact wB))
 obtain rfl:i=p.V.length:=ω
 repeat'(first|refine gE ?_|(conv=>whnf);first|with_reducible (first|refine Bf.D (λa=>?_) (λa=>?_)|refine Bf.NB (λa=>?_) (λa=>?_)|refine Bf.N (λa=>?_) (λa=>?_))|refine C4 (aN _ 0 31) ?_)
 all_goals exact O0 (λz=>[B z]) ((by unfold kg;rw[d];simp only[Bool.true_and];first|(symm;exact M0 ω)|exact decide_eq_decide.2 ω|(rw[N2];simp;omega)))
def xq(p:bf)(e:bf.sml p):af Tryz.prog 209 false [.val (some 3) (bf.enc .H p)] .one [B (kg p)]:=by
 have h:p.V.length<=1048576:=e;refine fO 46 [] Tryz.func209 rfl ?_
 repeat'(first|refine gP ?_|fail)
 (conv=>whnf)
 refine C8 (ι:=Nat) (λi=>[(1,.F .box (bf.enc .H p)),(6,.F .one (aK .H p.V)),(7,.F .one [I (p.V.length)]),(8,.F .one [I ((i:Nat):Int)])]) (λi=>i<=p.V.length/\cB i (Am p.V)=true) (λi=>p.V.length - i) 0 ?_ ⟨N0 _,rfl⟩ λi c=>?_
 ·exact wB
 obtain⟨c,d⟩:=c;by_cases b:i<p.V.length
 ·have g:=ao b
  repeat'(first|refine gE ?_|(conv=>whnf);first|with_reducible (first|refine C6 (ab g) ?_|refine Bf.D (λa=>?_) (λa=>?_))|refine C4 (Dc _) ?_|refine CJ ω (ab (eo ω b)) ?_)
  all_goals first
   | exact O0 (λz=>[B z]) ((by symm;unfold kg;rw[bC b (M0 ω)];rfl))
   | ((conv=>whnf);refine C7 (i+1) ⟨ω,bm d (L0 ω)⟩ ω ?_;(exact wB))
 obtain rfl:i=p.V.length:=ω
 repeat'(first|refine gE ?_|(conv=>whnf);first|with_reducible (first|refine Bf.D (λa=>?_) (λa=>?_)|refine Bf.NB (λa=>?_) (λa=>?_)|refine Bf.N (λa=>?_) (λa=>?_))|refine C4 (aE _ 0 31) ?_)
 all_goals exact O0 (λz=>[B z]) ((by unfold kg;rw[d];simp only[Bool.true_and];first|(symm;exact M0 ω)|exact decide_eq_decide.2 ω|(rw[N2];simp;omega)))
def z7(j:bA)(a:bA.sml j):af Tryz.prog 100 false [.val (some 5) (bA.enc .H j)] .one [B (oE j)]:=by
 have e:j.h.V.length<=1048576:=a;have b:=wS j.h a;cases c:kg j.h<;>rw[c]at b
 all_goals
  refine fO 20 [] Tryz.func100 rfl ?_
  repeat'(first|refine gP ?_|(conv=>whnf);first|with_reducible refine Bf.D (λd=>?_) (λd=>?_)|refine C4 b ?_|refine C4 (aN _ 0 5) ?_|refine C4 (aN _ 0 _) ?_)
  all_goals exact O0 (λz=>[B z]) ((by unfold oE;rw[c];first|rfl|(symm;exact M0 ω)|(rw[N2];simp;omega)))
def Af(j:bA)(a:bA.sml j):af Tryz.prog 138 false [.val (some 5) (bA.enc .H j)] .one [B (oE j)]:=by
 have e:j.h.V.length<=1048576:=a;have b:=xq j.h a;cases c:kg j.h<;>rw[c]at b
 all_goals
  refine fO 20 [] Tryz.func138 rfl ?_
  repeat'(first|refine gP ?_|(conv=>whnf);first|with_reducible refine Bf.D (λd=>?_) (λd=>?_)|refine C4 b ?_|refine C4 (aE _ 0 5) ?_|refine C4 (aE _ 0 _) ?_)
  all_goals exact O0 (λz=>[B z]) ((by unfold oE;rw[c];first|rfl|(symm;exact M0 ω)|(rw[N2];simp;omega)))
theorem im(l:am)(k:Nat):lpgs l (k+1)=lpgs l k++[l.M+(k:Nat)]:=by grind [List.range_succ,lpgs]
theorem xn(l:am)(k:Nat):(lpgs l k).length=k:=by unfold lpgs;simp
theorem EU(l:am){k n:Nat}(h:k<=n):lpgs l k <+: lpgs l n:=by
 induction n with
 | zero=>
  grind
 | succ n a=>
  grind [im]
theorem lu(sp:List ah){la:List am}{i:Nat}{l:am}(h:la[i]? = some l):pgs sp (la.take (i+1))=pgs sp (la.take i)++lpgs l l.i.toNat:=by grind [U2,pgs]
theorem G6(sp:List ah)(la:List am)(i:Nat):pgs sp (la.take i) <+: pgs sp la:=by grind [List.take_append_drop,pgs]
theorem Ek{S all:List Int}{p:Int}(h:(S++[p]) <+: all)(a:p∈S):decide all.Nodup=false:=by grind [List.nodup_append]
theorem iF{S:List Int}{p:Int}(h:S.Nodup)(a:p∉S):(S++[p]).Nodup:=ψ
theorem xf{sp:List ah}{la:List am}{i:Nat}{s:ah}(h:sp[i]? = some s):((sp.take i).map (·.M)++[s.M]) <+: pgs sp la:=by
 have a:(sp.take i).map (·.M)++[s.M]=(sp.take (i+1)).map (·.M):=by grind [U2]
 rw[a];refine List.IsPrefix.trans ?_ (List.prefix_append ..)
 grind
theorem uF{sp:List ah}{la:List am}{i k:Nat}{l:am}(h:la[i]? = some l)(a:k<l.i.toNat):(pgs sp (la.take i)++lpgs l k++[l.M+(k:Nat)]) <+: pgs sp la:=by
 refine List.IsPrefix.trans ?_ (G6 sp la (i+1));rw[lu sp h,W2,<-im]
 grind [List.prefix_append_right_inj,EU]
theorem nk{sp:List ah}{la:List am}{i:Nat}{s:ah}(h:sp[i]? = some s)(a:bn s=false):bb sp la=false:=by grind [bb]
theorem lc{sp:List ah}{la:List am}{i:Nat}{l:am}(h:la[i]? = some l)(a:bU l=false):bb sp la=false:=by grind [bb]
theorem ia{sp:List ah}{la:List am}{S:List Int}{p:Int}(h:(S++[p]) <+: pgs sp la)(a:p∈S):bb sp la=false:=by grind [Ek,bb]
theorem oc{sp:List ah}{la:List am}(a:sp.all bn=true)(b:la.all bU=true)(c:(pgs sp la).Nodup):bb sp la=true:=by grind [bb]
theorem bq{l:am}(h:bU l=true):1<=l.i/\l.i<=63/\0<=l.M/\l.M<=31:=by grind [bU]
theorem gk(sp:List ah)(la:List am)(t:bJ sp)(u:bw la):af Tryz.prog 90 false [.val none (bi .H sp),.val none (aP .H la)] .one [B (bb sp la)]:=by
 have J:=t.1;have K:=u.1;refine fO 79 [] Tryz.func90 rfl ?_
 repeat'(first|refine gP ?_|fail)
 (conv=>whnf)
 refine C8 (ι:=Nat × List Int) (λi=>[(0,.F .one (bi .H sp)),(1,.F .one (aP .H la)),(5,.F .one (aK .own i.2)),(6,.F .one [I ((i.1:Nat):Int)])]) (λi=>i.1<=sp.length/\i.2=(sp.take i.1).map (·.M)/\(sp.take i.1).all bn=true/\i.2.Nodup) (λi=>sp.length - i.1) ((0,[])) ?_ ψ λi o=>?_
 ·exact wB
 obtain⟨i,S⟩:=i;obtain⟨o,q,d,h⟩:=o;simp only at o q d h |-;have L:S.length=i:=ψ
 by_cases w:i<sp.length
 ·have a:=ao w
  have j:=gv (nth sp i);cases e:bn (nth sp i)<;>rw[e]at j
  ·repeat'(first|refine gE ?_|(conv=>whnf);first|with_reducible refine C6 (ab a) ?_|refine C4 j ?_)
   exact O0 (λz=>[B z]) ((nk a e).symm)
  repeat'(first|refine gE ?_|(conv=>whnf);first|with_reducible (first|refine C6 (ab a) ?_|refine Bf.D (λy=>?_) (λy=>?_))|refine C4 j ?_|refine Cl.eq (j7 S _ ω) ⟨⟨rfl,gl _⟩,⟨rfl,rfl⟩,trivial⟩ ?_|refine CI cJ (λr E=>by rw[T0.1 E];rfl) (by simp[aQ,cW]) (by simp;omega) (by simp only[Q0];exact tp (by simp;omega) (by decide)) rfl ?_)
  all_goals first
   | exact O0 (λz=>[B z]) ((ia (S:=S) (by rw[q];exact xf a) (by assumption)).symm)
   | ((conv=>whnf)
      refine C7 (i+1,S++[(nth sp i).M]) ⟨(by simp only;omega),(by simp only;rw[q,U2,a];simp),(bT a d e),iF h (by assumption)⟩ (by simp only;omega) ?_
      (repeat'(first|exact trivial|rfl|exact C5 rfl (C5 (O0 (C.s dm.own) (by simp[rI])) trivial)|refine C5 ?_ ?_)))
 obtain rfl:i=sp.length:=ω
 rw[P2]at d q
 repeat'(first|refine gE ?_|fail)
 (conv=>whnf)
 refine C8 (ι:=Nat × List Int) (λi=>[(1,.F .one (aP .H la)),(5,.F .one (aK .own i.2)),(7,.F .one [I ((i.1:Nat):Int)])]) (λi=>i.1<=la.length/\i.2=pgs sp (la.take i.1)/\(la.take i.1).all bU=true/\i.2.Nodup/\i.2.length<=1048576+64*i.1) (λi=>la.length - i.1) ((0,S)) ?_ (⟨N0 _,by grind [pgs],rfl,h,by simp only;omega⟩) λi o=>?_
 ·exact wB
 obtain⟨i,S2⟩:=i;obtain⟨F,l,b,g,G⟩:=o;simp only at F l b g G |-;by_cases w:i<la.length
 ·have a:=ao w
  have j:=o9 (nth la i);cases e:bU (nth la i)<;>rw[e]at j
  ·repeat'(first|refine gE ?_|(conv=>whnf);first|with_reducible refine C6 (ab a) ?_|refine C4 j ?_)
   exact O0 (λz=>[B z]) ((lc a e).symm)
  have M:=bq e
  repeat'(first|refine gE ?_|(conv=>whnf);first|with_reducible refine C6 (ab a) ?_|refine C4 j ?_)
  (conv=>whnf)
  refine C8 (ι:=Nat × List Int) (λk=>[(1,.F .one (aP .H la)),(5,.F .one (aK .own k.2)),(7,.F .one [I ((i:Nat):Int)]),(8,.F .one [I ((k.1:Nat):Int)])]) (λk=>k.1<=(nth la i).i.toNat/\k.2=S2++lpgs (nth la i) k.1/\k.2.Nodup) (λk=>(nth la i).i.toNat - k.1) ((0,S2)) ?_ (⟨N0 _,by simp[lpgs],g⟩) λk H=>?_
  ·exact wB
  obtain⟨k,p⟩:=k;obtain⟨H,n,c⟩:=H;simp only at H n c |-;have N:p.length=S2.length+k:=by grind [xn]
  by_cases O:k<(nth la i).i.toNat
  ·repeat'(first|refine gE ?_|(conv=>whnf);first|with_reducible (first|refine C6 (ab a) ?_|refine Bf.D (λy=>?_) (λy=>?_))|refine Cl.eq (j7 p _ ω) ⟨⟨rfl,gl _⟩,⟨rfl,rfl⟩,trivial⟩ ?_|refine CI cJ (λr E=>by rw[T0.1 E];rfl) (by simp[aQ,cW]) (by simp;omega) (by show _*8<=_;simp;omega) rfl ?_)
   all_goals first
    | exact O0 (λz=>[B z]) ((ia (S:=p) (by rw[n,l];exact uF a O) (by assumption)).symm)
    | ((conv=>whnf)
       refine C7 (k+1,p++[(nth la i).M+(k:Nat)]) ⟨(by simp only;omega),(by simp only;rw[n,im,W2]),iF c (by assumption)⟩ (by simp only;omega) ?_
       (repeat'(first|exact trivial|rfl|exact C5 rfl (C5 (O0 (C.s dm.own) (by simp[rI])) trivial)|refine C5 ?_ ?_)))
  obtain rfl:k=(nth la i).i.toNat:=ω
  repeat'(first|refine gE ?_|(conv=>whnf);first|with_reducible refine C6 (ab a) ?_)
  ((conv=>whnf);refine C7 (i+1,p) ⟨(by simp only;omega),(by grind [lu]),(bT a b e),c,(by simp only;omega)⟩ (by simp only;omega) ?_;(exact wB))
 obtain rfl:i=la.length:=ω
 rw[P2]at b l
 repeat'(first|refine gE ?_|fail)
 exact O0 (λz=>[B z]) ((oc d b ψ).symm)
def ins(S:List Int)(p:Int):List Int:=if p∈S then S else S++[p]
theorem Bb{p:Int} : ∀{S:List Int},p∈S->mput (dP S) p (.bool true)=dP S
 | x::S,h=>by
  simp only[dP,C3,mput];by_cases a:x=p
  ·rw[CA a,a]
  rw[C9 a];have:=Bb (S:=S) ((List.mem_cons.1 h).resolve_left λe=>a e.symm)
  grind [dP]
theorem rz(S:List Int)(p:Int):dP (ins S p)=mput (dP S) p (.bool true):=by grind [Bb,pB,ins]
theorem En(S:List Int)(p:Int):bR Tryz.prog 199 false [.val none [I p],.ptr [.m (dP S)]] [.val none [I p],.ptr [.m (dP (ins S p))]] .one [B (decide (p∉S))]:=by
 refine fM 12 [] [] [(0,0),(0,0)] Tryz.func199 rfl (λu q=>?_)
 repeat'(first|refine gP ?_|(conv=>whnf);first|refine Ml.mk (jM p S) ?_|refine Mu.mk (rz S p) ?_)
 refine CL rfl ?_ ?_
 ·grind
 exact wB
theorem ji(sp:List ah)(la:List am)(t:bJ sp)(u:bw la):af Tryz.prog 129 false [.val none (bi .H sp),.val none (aP .H la)] .one [B (bb sp la)]:=by
 have F:=t.1;have G:=u.1;refine fP 54 [(199,[0,2])] [] Tryz.func129 rfl ?_
 repeat'(first|refine gP ?_|fail)
 (conv=>whnf)
 refine C8 (ι:=Nat × List Int) (λi=>[(1,.F .one (aP .H la)),(5,.F .box [.m (dP i.2)]),(6,.fn 199 [5]),(14,.F .one (bi .H sp)),(15,.F .one [I (sp.length)]),(16,.F .one [I ((i.1:Nat):Int)])]) (λi=>i.1<=sp.length/\i.2=(sp.take i.1).map (·.M)/\(sp.take i.1).all bn=true/\i.2.Nodup) (λi=>sp.length - i.1) ((0,[])) ?_ ψ λi p=>?_
 ·exact wB
 obtain⟨i,S⟩:=i;obtain⟨p,r,e,j⟩:=p;simp only at p r e j |-;by_cases w:i<sp.length
 ·have c:=ao w
  have l:=f8 (nth sp i);cases g:bn (nth sp i)<;>rw[g]at l
  ·repeat'(first|refine gE ?_|(conv=>whnf);first|with_reducible refine C6 (ab c) ?_|refine C4 l ?_)
   exact O0 (λz=>[B z]) ((nk c g).symm)
  repeat'(first|refine gE ?_|(conv=>whnf);first|with_reducible (first|refine C6 (ab c) ?_|refine Bf.D (λy=>?_) (λy=>?_))|refine C4 l ?_|refine CE (En S _) (.inl rfl) ?_)
  all_goals first
   | exact O0 (λz=>[B z]) ((ia (S:=S) (by rw[r];exact xf c) ψ).symm)
   |(have a:(nth sp i).M∉S:=by assumption
     (conv=>whnf)
     refine C7 (i+1,ins S (nth sp i).M) ⟨(by simp only;omega),(by simp only;unfold ins;rw[C9 a,r,U2,c];simp),(bT c e g),(by simp only;unfold ins;rw[C9 a];exact iF j a)⟩ (by simp only;omega) ?_
     (exact wA))
 obtain rfl:i=sp.length:=ω
 rw[P2]at e r
 repeat'(first|refine gE ?_|fail)
 (conv=>whnf)
 refine C8 (ι:=Nat × List Int) (λi=>[(5,.F .box [.m (dP i.2)]),(6,.fn 199 [5]),(31,.F .one (aP .H la)),(32,.F .one [I (la.length)]),(33,.F .one [I ((i.1:Nat):Int)])]) (λi=>i.1<=la.length/\i.2=pgs sp (la.take i.1)/\(la.take i.1).all bU=true/\i.2.Nodup) (λi=>la.length - i.1) ((0,S)) ?_ (⟨N0 _,by grind [pgs],rfl,j⟩) λi p=>?_
 ·exact wB
 obtain⟨i,S2⟩:=i;obtain⟨C,n,b,h⟩:=p;simp only at C n b h |-;by_cases w:i<la.length
 ·have c:=ao w
  have l:=oe (nth la i);cases g:bU (nth la i)<;>rw[g]at l
  ·repeat'(first|refine gE ?_|(conv=>whnf);first|with_reducible refine C6 (ab c) ?_|refine C4 l ?_)
   exact O0 (λz=>[B z]) ((lc c g).symm)
  have H:=bq g
  repeat'(first|refine gE ?_|(conv=>whnf);first|with_reducible refine C6 (ab c) ?_|refine C4 l ?_)
  (conv=>whnf)
  refine C8 (ι:=Nat × List Int) (λk=>[(5,.F .box [.m (dP k.2)]),(6,.fn 199 [5]),(10,.F .box (am.enc .H (nth la i))),(11,.F .one [I ((k.1:Nat):Int)]),(31,.F .one (aP .H la)),(32,.F .one [I (la.length)]),(33,.F .one [I ((i:Nat):Int)])]) (λk=>k.1<=(nth la i).i.toNat/\k.2=S2++lpgs (nth la i) k.1/\k.2.Nodup) (λk=>(nth la i).i.toNat - k.1) ((0,S2)) ?_ (⟨N0 _,by simp[lpgs],h⟩) λk E=>?_
  ·exact wB
  obtain⟨k,q⟩:=k;obtain⟨E,o,d⟩:=E;simp only at E o d |-;by_cases J:k<(nth la i).i.toNat
  ·repeat'(first|refine gE ?_|(conv=>whnf);first|with_reducible refine Bf.D (λy=>?_) (λy=>?_)|refine CE (En q _) (.inl rfl) ?_)
   all_goals first
    | exact O0 (λz=>[B z]) ((ia (S:=q) (by rw[o,n];exact uF c J) ψ).symm)
    |(have a:(nth la i).M+(k:Nat)∉q:=by assumption
      (conv=>whnf)
      refine C7 (k+1,ins q ((nth la i).M+(k:Nat))) ⟨(by simp only;omega),(by simp only;unfold ins;rw[C9 a,o,im,W2]),(by simp only;unfold ins;rw[C9 a];exact iF d a)⟩ (by simp only;omega) ?_
      (exact wA))
  obtain rfl:k=(nth la i).i.toNat:=ω
  repeat'(first|refine gE ?_|fail)
  ((conv=>whnf);refine C7 (i+1,q) ⟨(by simp only;omega),(by grind [lu]),(bT c b g),d⟩ (by simp only;omega) ?_;(exact wB))
 obtain rfl:i=la.length:=ω
 rw[P2]at b n
 repeat'(first|refine gE ?_|fail)
 exact O0 (λz=>[B z]) ((oc e b ψ).symm)
theorem aR{s:ah}(h:bn s=true):0<=s.M/\s.M<=31/\0<=s.T/\s.T<=3:=by grind [bn]
theorem cS{k:Int}(h:0<=k/\k<=3):csz k=1\/csz k=2\/csz k=4\/csz k=8:=by
 obtain rfl|rfl|rfl|rfl:k=0\/k=1\/k=2\/k=3:=ω
 all_goals decide
def iQ{x y:Int}(h:0<=x):x.tdiv y=x / y:=Int.tdiv_eq_ediv_of_nonneg h
def so{x y:Int}(h:0<=x):x.tmod y=x % y:=Int.tmod_eq_emod_of_nonneg h
def S2(p:Int × Int):List C:=[I p.1,I p.2]
theorem uV{a b:Int}{p:Int × Int}(h:(a,b)=p):[I a,I b]=S2 p:=by subst h;rfl
theorem wL(s:ah)(a:Int)(k:gS a):af Tryz.prog 233 false [.val (some 3) (ah.enc .H s),.val none [I a]] (.tup [none,none]) (S2 (gN s a)):=by
 have c:=gv s;have l:=cX s.T;obtain⟨n,o⟩:=k;cases d:bn s<;>rw[d]at c
 ·refine fO 33 [(4,12,[23,24,25,26,27,28,29,30,31,32,4,5])] Tryz.func233 rfl ?_ (.inr ⟨trivial,trivial,trivial⟩)
  repeat'(first|refine gP ?_|(conv=>whnf);first|refine C4 c ?_)
  exact uV (by grind [gN,ch])
 have h:=aR d;have i:=cS ⟨h.2.2.1,h.2.2.2⟩;by_cases g:16*s.M<=a/\a<=16*s.M+15
 ·have j:0<=a:=ω
  refine fO 33 [(4,12,[23,24,25,26,27,28,29,30,31,32,4,5])] Tryz.func233 rfl ?_ (.inr ⟨trivial,trivial,trivial⟩)
  repeat'(first|refine gE ?_|(conv=>whnf);first|with_reducible refine Bf.N (λb=>?_) (λb=>?_)|refine C4 c ?_|refine C4 l ?_|refine CD (by decide) ?_|refine CD ω ?_|refine CB ((O0 _ (iQ j)).trans (iy ω ω)) ?_|refine Ev.mk (so j) ?_|refine CB ((O0 _ (iQ ω)).trans (iy (by rcases i with e|e|e|e<;>rw[e]<;>omega) (by rcases i with e|e|e|e<;>rw[e]<;>omega))) ?_|refine Ev.mk (so ω) ?_)
  all_goals grind [uV,gN,ch]
 refine fO 33 [(4,12,[23,24,25,26,27,28,29,30,31,32,4,5])] Tryz.func233 rfl ?_ (.inr ⟨trivial,trivial,trivial⟩)
 repeat'(first|refine gP ?_|(conv=>whnf);first|with_reducible (first|refine Bf.D (λb=>?_) (λb=>?_)|refine Bf.N (λb=>?_) (λb=>?_))|refine C4 c ?_|refine CD (by decide) ?_|refine CB ((O0 _ (iQ ω)).trans (iy ω ω)) ?_)
 all_goals first
  |exact uV (by unfold gN ch;rw[d,M0 g];rfl)
  |(exfalso;omega)
theorem y8(s:ah)(a:Int):af Tryz.prog 169 false [.val (some 3) (ah.enc .H s),.val none [I a]] (.tup [none,none]) (S2 (gN s a)):=by
 have b:=f8 s;have j:=bN s.T;cases c:bn s<;>rw[c]at b
 ·refine fO 38 [(4,12,[28,29,30,31,32,33,34,35,36,37,4,5])] Tryz.func169 rfl ?_ (.inr ⟨trivial,trivial,trivial⟩)
  repeat'(first|refine gP ?_|(conv=>whnf);first|refine C4 b ?_)
  exact uV (by grind [gN,ch])
 have h:=aR c;have i:=cS ⟨h.2.2.1,h.2.2.2⟩;by_cases d:16*s.M<=a/\a<=16*s.M+15
 ·refine fO 38 [(4,12,[28,29,30,31,32,33,34,35,36,37,4,5])] Tryz.func169 rfl ?_ (.inr ⟨trivial,trivial,trivial⟩)
  repeat'(first|refine gE ?_|(conv=>whnf);first|with_reducible refine Bf.D (λg=>?_) (λg=>?_)|refine C4 b ?_|refine C4 j ?_|refine C4 (aE _ _ _) ?_|refine CD ω ?_|refine CB ((O0 _ (iQ ω)).trans (iy (by rcases i with e|e|e|e<;>rw[e]<;>omega) (by rcases i with e|e|e|e<;>rw[e]<;>omega))) ?_|refine Ev.mk (so ω) ?_)
  grind [uV,gN,ch]
 refine fO 38 [(4,12,[28,29,30,31,32,33,34,35,36,37,4,5])] Tryz.func169 rfl ?_ (.inr ⟨trivial,trivial,trivial⟩)
 repeat'(first|refine gE ?_|(conv=>whnf);first|with_reducible refine Bf.D (λg=>?_) (λg=>?_)|refine C4 b ?_|refine C4 (aE _ _ _) ?_)
 all_goals exact uV (by unfold gN ch;rw[c,M0 d];rfl)
def uM(b i:Int):af Tryz.prog 236 false [.val none [I b],.val none [I i]] .one [B (decide (0<=b/\0<=i/\i<=15))]:=by
 refine fO 11 [] Tryz.func236 rfl ?_
 repeat'(first|refine gP ?_|(conv=>whnf);first|with_reducible refine Bf.D (λa=>?_) (λa=>?_)|refine C4 (aN _ 0 15) ?_)
 all_goals exact O0 (λz=>[B z]) ((by first|(symm;exact M0 ω)|exact decide_eq_decide.2 ω))
def uH(b i:Int):af Tryz.prog 228 false [.val none [I b],.val none [I i]] .one [B (decide (0<=b/\0<=i/\i<=15))]:=by
 refine fO 11 [] Tryz.func228 rfl ?_
 repeat'(first|refine gP ?_|(conv=>whnf);first|with_reducible refine Bf.D (λa=>?_) (λa=>?_)|refine C4 (aE _ 0 15) ?_)
 all_goals exact O0 (λz=>[B z]) ((by first|(symm;exact M0 ω)|exact decide_eq_decide.2 ω))
theorem Fx{b i:Int}(a:0<=b/\b<=9223372036854775807)(e:0<=i/\i<=15):b.fdiv (2 ^ min i.toNat IntKind.i64.bits)=b / 2 ^ i.toNat/\0<=b / 2 ^ i.toNat/\b / 2 ^ i.toNat<=9223372036854775807:=by
 have d:min i.toNat IntKind.i64.bits=i.toNat:=Nat.min_eq_left (show i.toNat<=64 by omega);rw[d];have c:(0:Int)<=2 ^ i.toNat:=ψ
 refine⟨Int.fdiv_eq_ediv_of_nonneg _ c,Int.ediv_nonneg a.1 c,?_⟩;have:=Int.ediv_le_self (2 ^ i.toNat:Int) a.1;omega
theorem td{b i:Int}(a:0<=b)(c:0<=i/\i<=15):((((b / 2 ^ i.toNat).toNat &&& (1:Int).toNat:Nat):Int) == 1)=bp b i:=by
 have d:(0:Int)<=b / 2 ^ i.toNat:=Int.ediv_nonneg a ψ
 grind [bp]
theorem oL(b i:Int)(c:b<=9223372036854775807):af Tryz.prog 192 false [.val none [I b],.val none [I i]] .one [B (bp b i)]:=by
 by_cases h:0<=b/\0<=i/\i<=15
 ·obtain⟨d,g⟩:=Fx (b:=b) (i:=i) ⟨h.1,c⟩ h.2
  have j:IntKind.u64.wrap i=i:=by grind [Go.IntKind.wrap,Go.IntKind.bits]
  refine fO 16 [] Tryz.func192 rfl ?_
  repeat'(first|refine gE ?_|(conv=>whnf);first|with_reducible refine Bf.D (λa=>?_) (λa=>?_)|refine C4 (uM _ _) ?_|refine CD ω ?_|refine CB j ?_|refine Ev.mk d ?_|refine CB (and64 g ⟨by decide,by decide⟩) ?_)
  grind [td]
 refine fO 16 [] Tryz.func192 rfl ?_
 repeat'(first|refine gE ?_|(conv=>whnf);first|with_reducible refine Bf.D (λa=>?_) (λa=>?_)|refine C4 (uM _ _) ?_)
 all_goals exact O0 (λz=>[B z]) ((by unfold bp;symm;exact M0 λe=>h ⟨e.1,e.2.1,e.2.2.1⟩))
theorem jH(b i:Int)(c:b<=9223372036854775807):af Tryz.prog 170 false [.val none [I b],.val none [I i]] .one [B (bp b i)]:=by
 by_cases h:0<=b/\0<=i/\i<=15
 ·obtain⟨d,g⟩:=Fx (b:=b) (i:=i) ⟨h.1,c⟩ h.2
  refine fO 15 [] Tryz.func170 rfl ?_
  repeat'(first|refine gE ?_|(conv=>whnf);first|with_reducible refine Bf.D (λa=>?_) (λa=>?_)|refine C4 (uH _ _) ?_|refine CD ω ?_|refine Ev.mk d ?_|refine CB (and64 g ⟨by decide,by decide⟩) ?_)
  grind [td]
 refine fO 15 [] Tryz.func170 rfl ?_
 repeat'(first|refine gE ?_|(conv=>whnf);first|with_reducible refine Bf.D (λa=>?_) (λa=>?_)|refine C4 (uH _ _) ?_)
 all_goals exact O0 (λz=>[B z]) ((by unfold bp;symm;exact M0 λe=>h ⟨e.1,e.2.1,e.2.2.1⟩))
theorem cV{l:am}(h:bU l=true):9<=l.g/\l.g<=1000/\0<=l.M/\l.M<=31:=by grind [bU]
theorem mY(l:am)(a:Int):af Tryz.prog 234 false [.val (some 3) (am.enc .H l),.val none [I a]] .one [B (ba l a)]:=by
 have b:=o9 l;cases c:bU l<;>rw[c]at b
 ·refine fO 24 [] Tryz.func234 rfl ?_
  repeat'(first|refine gP ?_|(conv=>whnf);first|refine C4 b ?_)
  exact O0 (λz=>[B z]) ((by grind [ba]))
 have e:=cV c;refine fO 24 [] Tryz.func234 rfl ?_
 repeat'(first|refine gP ?_|(conv=>whnf);first|with_reducible refine Bf.D (λd=>?_) (λd=>?_)|refine C4 b ?_)
 all_goals exact O0 (λz=>[B z]) ((by unfold ba;rw[c,Bool.true_and];first|(symm;exact M0 ω)|exact decide_eq_decide.2 ω))
theorem mR(l:am)(a:Int):af Tryz.prog 171 false [.val (some 3) (am.enc .H l),.val none [I a]] .one [B (ba l a)]:=by
 have b:=oe l;cases c:bU l<;>rw[c]at b
 ·refine fO 21 [] Tryz.func171 rfl ?_
  repeat'(first|refine gP ?_|(conv=>whnf);first|refine C4 b ?_)
  exact O0 (λz=>[B z]) ((by grind [ba]))
 have e:=cV c;refine fO 21 [] Tryz.func171 rfl ?_
 repeat'(first|refine gP ?_|(conv=>whnf);first|with_reducible refine Bf.D (λd=>?_) (λd=>?_)|refine C4 b ?_|refine C4 (aE _ _ _) ?_)
 grind [ba]
theorem pR(l:am)(a:Int)(h:ba l a=true):af Tryz.prog 235 false [.val (some 3) (am.enc .H l),.val none [I a]] .one [I (a - 16*l.M)]:=by
 have b:=mY l a;rw[h]at b;unfold ba at h;simp only[I0,C0]at h;have c:=cV h.1;refine fO 14 [] Tryz.func235 rfl ?_
 repeat'(first|refine gP ?_|(conv=>whnf);first|refine C4 b ?_)
 grind
theorem po(l:am)(a:Int)(h:ba l a=true):af Tryz.prog 172 false [.val (some 3) (am.enc .H l),.val none [I a]] .one [I (a - 16*l.M)]:=by
 have b:=mR l a;rw[h]at b;unfold ba at h;simp only[I0,C0]at h;have c:=cV h.1;refine fO 14 [] Tryz.func172 rfl ?_
 repeat'(first|refine gP ?_|(conv=>whnf);first|refine C4 b ?_)
 grind
theorem m5{m:aI}{i:Nat}(a:i<m.Q.length)(h:fB m i=false):de m=false:=by grind [bC,de]
theorem sE{m:aI}(h:¬(1<=m.Q.length/\m.Q.length<=4/\m.e.length=m.Q.length)):de m=false:=by grind [de]
theorem rp{m:aI}(a:1<=m.Q.length/\m.Q.length<=4/\m.e.length=m.Q.length)(b:cB m.Q.length (fB m)=true):de m=decide (cx m m.Q.length<=30):=by grind [de]
theorem qw(m:aI)(h:aI.sml m):af Tryz.prog 93 false [.val (some 2) (aI.enc .H m)] .one [B (de m)]:=by
 have r:m.Q.length<=1048576:=h.1.1;have t:m.e.length<=1048576:=h.2.1;by_cases u:1<=m.Q.length/\m.Q.length<=4/\m.e.length=m.Q.length
 ·refine fO 92 [(19,15,[75,76,77,78,79,80,81,82,83,84,85,86,87,88,89])] Tryz.func93 rfl ?_
  repeat'(first|refine gB ?_|(conv=>whnf);first|with_reducible (first|refine Bf.D (λa=>?_) (λa=>?_)|refine Bf.N (λa=>?_) (λa=>?_))|refine C4 (aN _ 1 4) ?_)
  (conv=>whnf)
  refine C8 (ι:=Nat) (λi=>[(1,.F .box (aI.enc .H m)),(3,.F .one [I (m.Q.length)]),(4,.F .one [I (cx m i)]),(5,.F .one [I ((i:Nat):Int)])]) (λi=>i<=m.Q.length/\cB i (fB m)=true/\0<=cx m i/\cx m i<=2097152*i) (λi=>m.Q.length - i) (0) ?_ (⟨N0 _,rfl,by simp[cx],by simp[cx]⟩) λi n=>?_
  ·exact wB
  obtain⟨n,w,F,G⟩:=n;by_cases j:i<m.Q.length
  ·have l:=ao j
   have o:=ao (xs:=m.e) (i:=i) ω;have y:(nth m.Q i).length<=1048576:=(h.1.2 _ (aF j)).1;have C:(nth m.e i).length<=1048576:=h.2.2 _ ψ
   repeat'(first|refine gE ?_|fail)
   (conv=>whnf)
   refine C8 (ι:=Nat) (λk=>[(1,.F .box (aI.enc .H m)),(3,.F .one [I (m.Q.length)]),(4,.F .one [I (cx m i)]),(5,.F .one [I ((i:Nat):Int)]),(6,.F .one [I ((k:Nat):Int)])]) (λk=>k<=(nth m.Q i).length/\((nth m.Q i).take k).all (nL m.Q.length)=true) (λk=>(nth m.Q i).length - k) (0) ?_ ψ λk p=>?_
   ·exact wB
   obtain⟨p,q⟩:=p;by_cases E:k<(nth m.Q i).length
   ·have c:=ao E
    repeat'(first|refine gE ?_|(conv=>whnf);first|with_reducible (first|refine C6 (ab l) ?_|refine C6 (ab c) ?_|refine Bf.D (λa=>?_) (λa=>?_))|refine C4 (aN _ 0 _) ?_)
    all_goals first
     | exact O0 (λz=>[B z]) ((m5 j (by unfold fB;rw[eD c (by unfold nL;exact M0 ω)];rfl)).symm)
     | ((conv=>whnf);refine C7 (k+1) ⟨ω,bT c q (by unfold nL;exact L0 ω)⟩ ω ?_;(exact wB))
   have H:=jF ω q
   repeat'(first|refine gE ?_|(conv=>whnf);first|with_reducible refine C6 (ab l) ?_)
   (conv=>whnf)
   refine C8 (ι:=Nat) (λb=>[(1,.F .box (aI.enc .H m)),(3,.F .one [I (m.Q.length)]),(4,.F .one [I (cx m i)]),(5,.F .one [I ((i:Nat):Int)]),(8,.F .one [I ((b:Nat):Int)])]) (λb=>b<=(nth m.e i).length/\((nth m.e i).take b).all Hn=true) (λb=>(nth m.e i).length - b) (0) ?_ ψ λb e=>?_
   ·exact wB
   obtain⟨e,ak2⟩:=e;by_cases lk2:b<(nth m.e i).length
   ·have c:=ao lk2
    repeat'(first|refine gE ?_|(conv=>whnf);first|with_reducible (first|refine C6 (ab o) ?_|refine C6 (ab c) ?_|refine Bf.D (λa=>?_) (λa=>?_)))
    all_goals first
     | exact O0 (λz=>[B z]) ((m5 j (by unfold fB;rw[eD c (by unfold Hn;exact M0 ω)];simp)).symm)
     | ((conv=>whnf);refine C7 (b+1) ⟨ω,bT c ak2 (by unfold Hn;exact L0 ω)⟩ ω ?_;(exact wB))
   have ae2:=jF ω ak2;have g:cx m (i+1)=cx m i+((nth m.Q i).length+(nth m.e i).length):=rfl;have d:cx m (i+1)=cx m i+(nth m.Q i).length+(nth m.e i).length:=by rw[g];omega
   repeat'(first|refine gE ?_|(conv=>whnf);first|with_reducible (first|refine C6 (ab l) ?_|refine C6 (ab o) ?_))
   ((conv=>whnf);refine C7 (i+1) ⟨ω,bm w (by grind [fB]),ω,ω⟩ ω ?_)
   rw[d];exact wB
  obtain rfl:i=m.Q.length:=ω
  repeat'(first|refine gE ?_|fail)
  grind [rp]
 refine fO 92 [(19,15,[75,76,77,78,79,80,81,82,83,84,85,86,87,88,89])] Tryz.func93 rfl ?_
 repeat'(first|refine gP ?_|(conv=>whnf);first|with_reducible (first|refine Bf.D (λa=>?_) (λa=>?_)|refine Bf.N (λa=>?_) (λa=>?_))|refine C4 (aN _ 1 4) ?_)
 all_goals first
  | exact O0 (λz=>[B z]) ((sE u).symm)
  |(exfalso;omega)
theorem qB(m:aI)(g:aI.sml m):af Tryz.prog 131 false [.val (some 2) (aI.enc .H m)] .one [B (de m)]:=by
 have q:m.Q.length<=1048576:=g.1.1;have r:m.e.length<=1048576:=g.2.1;by_cases t:1<=m.Q.length/\m.Q.length<=4/\m.e.length=m.Q.length
 ·refine fO 82 [(20,15,[64,65,66,67,68,69,70,71,72,73,74,75,76,77,78])] Tryz.func131 rfl ?_
  repeat'(first|refine gB ?_|(conv=>whnf);first|with_reducible (first|refine Bf.D (λa=>?_) (λa=>?_)|refine Bf.N (λa=>?_) (λa=>?_))|refine C4 (aE _ 1 4) ?_)
  (conv=>whnf)
  refine C8 (ι:=Nat) (λi=>[(1,.F .box (aI.enc .H m)),(3,.F .one [I (m.Q.length)]),(4,.F .one [I (cx m i)]),(25,.F .one [I (m.Q.length)]),(26,.F .one [I ((i:Nat):Int)])]) (λi=>i<=m.Q.length/\cB i (fB m)=true/\0<=cx m i/\cx m i<=2097152*i) (λi=>m.Q.length - i) (0) ?_ (⟨N0 _,rfl,by simp[cx],by simp[cx]⟩) λi n=>?_
  ·exact wB
  obtain⟨n,u,E,F⟩:=n;by_cases h:i<m.Q.length
  ·have j:=ao h
   have l:=ao (xs:=m.e) (i:=i) ω;have w:(nth m.Q i).length<=1048576:=(g.1.2 _ (aF h)).1;have y:(nth m.e i).length<=1048576:=g.2.2 _ ψ
   repeat'(first|refine gE ?_|(conv=>whnf);first|with_reducible refine C6 (ab j) ?_)
   (conv=>whnf)
   refine C8 (ι:=Nat) (λk=>[(1,.F .box (aI.enc .H m)),(3,.F .one [I (m.Q.length)]),(4,.F .one [I (cx m i)]),(5,.F .one [I ((i:Nat):Int)]),(25,.F .one [I (m.Q.length)]),(26,.F .one [I ((i:Nat):Int)]),(33,.F .one (bV .H (nth m.Q i))),(34,.F .one [I ((nth m.Q i).length)]),(35,.F .one [I ((k:Nat):Int)])]) (λk=>k<=(nth m.Q i).length/\((nth m.Q i).take k).all (nL m.Q.length)=true) (λk=>(nth m.Q i).length - k) (0) ?_ ψ λk o=>?_
   ·exact wB
   obtain⟨o,p⟩:=o;by_cases C:k<(nth m.Q i).length
   ·have c:=ao C
    repeat'(first|refine gE ?_|(conv=>whnf);first|with_reducible (first|refine C6 (ab j) ?_|refine C6 (ab c) ?_|refine Bf.D (λa=>?_) (λa=>?_))|refine C4 (aE _ 0 _) ?_)
    all_goals first
     | exact O0 (λz=>[B z]) ((m5 h (by unfold fB;rw[eD c (by unfold nL;exact M0 ω)];rfl)).symm)
     | ((conv=>whnf);refine C7 (k+1) ⟨ω,bT c p (by unfold nL;exact L0 ω)⟩ ω ?_;(exact wB))
   have G:=jF ω p
   repeat'(first|refine gE ?_|(conv=>whnf);first|with_reducible (first|refine C6 (ab j) ?_|refine C6 (ab l) ?_))
   (conv=>whnf)
   refine C8 (ι:=Nat) (λb=>[(1,.F .box (aI.enc .H m)),(3,.F .one [I (m.Q.length)]),(4,.F .one [I (cx m i)]),(5,.F .one [I ((i:Nat):Int)]),(25,.F .one [I (m.Q.length)]),(26,.F .one [I ((i:Nat):Int)]),(55,.F .one (aK .H (nth m.e i))),(56,.F .one [I ((nth m.e i).length)]),(57,.F .one [I ((b:Nat):Int)])]) (λb=>b<=(nth m.e i).length/\((nth m.e i).take b).all Hn=true) (λb=>(nth m.e i).length - b) (0) ?_ ψ λb d=>?_
   ·exact wB
   obtain⟨d,ak2⟩:=d;by_cases lk2:b<(nth m.e i).length
   ·have c:=ao lk2
    repeat'(first|refine gE ?_|(conv=>whnf);first|with_reducible (first|refine C6 (ab l) ?_|refine C6 (ab c) ?_|refine Bf.D (λa=>?_) (λa=>?_)))
    all_goals first
     | exact O0 (λz=>[B z]) ((m5 h (by unfold fB;rw[eD c (by unfold Hn;exact M0 ω)];simp)).symm)
     | ((conv=>whnf);refine C7 (b+1) ⟨ω,bT c ak2 (by unfold Hn;exact L0 ω)⟩ ω ?_;(exact wB))
   have ae2:=jF ω ak2;have e:cx m (i+1)=cx m i+((nth m.Q i).length+(nth m.e i).length):=rfl
   repeat'(first|refine gE ?_|(conv=>whnf);first|with_reducible (first|refine C6 (ab j) ?_|refine C6 (ab l) ?_))
   ((conv=>whnf);refine C7 (i+1) ⟨ω,bm u (by grind [fB]),ω,ω⟩ ω ?_)
   rw[e];exact wB
  obtain rfl:i=m.Q.length:=ω
  repeat'(first|refine gE ?_|fail)
  grind [rp]
 refine fO 82 [(20,15,[64,65,66,67,68,69,70,71,72,73,74,75,76,77,78])] Tryz.func131 rfl ?_
 repeat'(first|refine gP ?_|(conv=>whnf);first|with_reducible (first|refine Bf.D (λa=>?_) (λa=>?_)|refine Bf.N (λa=>?_) (λa=>?_))|refine C4 (aE _ 1 4) ?_)
 all_goals first
  | exact O0 (λz=>[B z]) ((sE t).symm)
  |(exfalso;omega)
def vd{s:ah}{a:Int}(h:ch s a=false):S2 (gN s a)=[I (-1),I (-1)]:=by
 unfold gN;rw[h];rfl
def rD{s:ah}{a:Int}(h:ch s a=true):S2 (gN s a)=[I ((a - 16*s.M) / csz s.T),I ((a - 16*s.M) % csz s.T)]:=by
 unfold gN;rw[h];rfl
theorem oY{s:ah}{a:Int}(h:ch s a=true):bn s=true/\0<=(a - 16*s.M) / csz s.T/\(a - 16*s.M) / csz s.T<=15:=by
 unfold ch at h;simp only[I0,C0]at h;have b:=aR h.1
 grind [cS]
def jE{sp:List ah}{la:List am}{a:Int}{i:Nat}(b:i<sp.length)(h:ch (nth sp i) a=true)(c:∀(j:Nat)(z:ah),j<i->sp[j]? = some z->ch z a=false):denotes sp la a=kR i (nth sp i) a:=by
 unfold denotes;rw[vQ (pr:=(ch · a)) (ao b) h c]
def jf{sp:List ah}{la:List am}{a:Int}{i n:Nat}(b:sp.length<=n)(c:∀(j:Nat)(z:ah),j<n->sp[j]? = some z->ch z a=false)(d:i<la.length)(h:ba (nth la i) a=true)(e:∀(j:Nat)(z:am),j<i->la[j]? = some z->ba z a=false) :
  denotes sp la a = ⟨3,i,0,a - 16*(nth la i).M⟩:=by
 unfold denotes;rw[zp (pr:=(ch · a)) b c,vQ (pr:=(ba · a)) (ao d) h e]
theorem sL{sp:List ah}{la:List am}{a:Int}{n k:Nat}(b:sp.length<=n)(c:∀(j:Nat)(z:ah),j<n->sp[j]? = some z->ch z a=false)(d:la.length<=k)(e:∀(j:Nat)(z:am),j<k->la[j]? = some z->ba z a=false):denotes sp la a = ⟨0,0,0,0⟩:=by grind [zp,denotes]
theorem kf(sp:List ah)(la:List am)(a:Int)(d:bJ sp)(e:bw la)(g:bb sp la=true)(C:gS a):af Tryz.prog 185 false [.val none (bi .H sp),.val none (aP .H la),.val none [I a]] .agg (fU.enc .own (denotes sp la a)):=by
 have E:=d.1;have F:=e.1;have p:=gk sp la d e;rw[g]at p;refine fO 67 [] Tryz.func185 rfl ?_ (.inr (fU.enc_fr _))
 repeat'(first|refine gP ?_|(conv=>whnf);first|refine C4 p ?_)
 (conv=>whnf)
 refine C8 (ι:=Nat) (λi=>[(0,.F .one (bi .H sp)),(1,.F .one (aP .H la)),(2,.F .one [I (a)]),(6,.F .box ([I 0,I 0,I 0,I 0])),(7,.F .one [I ((i:Nat):Int)])]) (λi=>i<=sp.length/\∀(j:Nat)(z:ah),j<i->sp[j]? = some z->ch z a=false) (λi=>sp.length - i) (0) ?_ ψ λi q=>?_
 ·exact wB
 obtain⟨q,l⟩:=q;by_cases r:i<sp.length
 ·have h:=ao r
  have b:=wL (nth sp i) a C;cases c:ch (nth sp i) a with
  | false=>
   rw[vd c]at b
   repeat'(first|refine gE ?_|(conv=>whnf);first|with_reducible (first|refine C6 (ab h) ?_|refine Bf.D (λo=>?_) (λo=>?_))|refine C4 b ?_)
   ((conv=>whnf);refine C7 (i+1) ψ ω ?_;(exact wB))
  | true=>
   rw[rD c]at b;obtain⟨G,H,J⟩:=oY c;have t:=oL (nth sp i).l ((a - 16*(nth sp i).M) / csz (nth sp i).T) (dB G).2;cases u:bp (nth sp i).l ((a - 16*(nth sp i).M) / csz (nth sp i).T)<;>rw[u]at t
   all_goals
    repeat'(first|refine gE ?_|(conv=>whnf);first|with_reducible (first|refine C6 (ab h) ?_|refine Bf.D (λo=>?_) (λo=>?_))|refine C4 b ?_|refine C4 t ?_)
    all_goals(rw[jE r c l];unfold kR;rw[u];rfl)
 repeat'(first|refine gE ?_|fail)
 (conv=>whnf)
 refine C8 (ι:=Nat) (λk=>[(1,.F .one (aP .H la)),(2,.F .one [I (a)]),(6,.F .box ([I 0,I 0,I 0,I 0])),(11,.F .one [I ((k:Nat):Int)])]) (λk=>k<=la.length/\∀(j:Nat)(z:am),j<k->la[j]? = some z->ba z a=false) (λk=>la.length - k) (0) ?_ ψ λk w=>?_
 ·exact wB
 obtain⟨w,y⟩:=w;by_cases B:k<la.length
 ·have h:=ao B
  have b:=mY (nth la k) a;cases c:ba (nth la k) a<;>rw[c]at b
  ·repeat'(first|refine gE ?_|(conv=>whnf);first|with_reducible refine C6 (ab h) ?_|refine C4 b ?_)
   ((conv=>whnf);refine C7 (k+1) ψ ω ?_;(exact wB))
  repeat'(first|refine gE ?_|(conv=>whnf);first|with_reducible refine C6 (ab h) ?_|refine C4 b ?_|refine C4 (pR (nth la k) a c) ?_)
  rw[jf (n:=i) ω l B c y];rfl
 repeat'(first|refine gE ?_|fail)
 rw[sL (n:=i) (k:=k) ω l ω y];rfl
theorem jU(sp:List ah)(la:List am)(a:Int)(e:bJ sp)(g:bw la):af Tryz.prog 77 false [.val none (bi .H sp),.val none (aP .H la),.val none [I a]] .agg (fU.enc .own (denotes sp la a)):=by
 have y:=e.1;have B:=g.1;refine fO 56 [] Tryz.func77 rfl ?_ (.inr (fU.enc_fr _))
 repeat'(first|refine gP ?_|fail)
 (conv=>whnf)
 refine C8 (ι:=Nat) (λi=>[(1,.F .one (aP .H la)),(2,.F .one [I (a)]),(6,.F .box ([I 0,I 0,I 0,I 0])),(14,.F .one (bi .H sp)),(15,.F .one [I (sp.length)]),(16,.F .one [I ((i:Nat):Int)])]) (λi=>i<=sp.length/\∀(j:Nat)(z:ah),j<i->sp[j]? = some z->ch z a=false) (λi=>sp.length - i) (0) ?_ ψ λi o=>?_
 ·exact wB
 obtain⟨o,h⟩:=o;by_cases p:i<sp.length
 ·have d:=ao p
  have b:=y8 (nth sp i) a;cases c:ch (nth sp i) a with
  | false=>
   rw[vd c]at b
   repeat'(first|refine gE ?_|(conv=>whnf);first|with_reducible (first|refine C6 (ab d) ?_|refine Bf.D (λl=>?_) (λl=>?_))|refine C4 b ?_)
   ((conv=>whnf);refine C7 (i+1) ψ ω ?_;(exact wB))
  | true=>
   rw[rD c]at b;obtain⟨C,E,F⟩:=oY c;have q:=jH (nth sp i).l ((a - 16*(nth sp i).M) / csz (nth sp i).T) (dB C).2;cases r:bp (nth sp i).l ((a - 16*(nth sp i).M) / csz (nth sp i).T)<;>rw[r]at q
   all_goals
    repeat'(first|refine gE ?_|(conv=>whnf);first|with_reducible (first|refine C6 (ab d) ?_|refine Bf.D (λl=>?_) (λl=>?_))|refine C4 b ?_|refine C4 q ?_)
    all_goals(rw[jE p c h];unfold kR;rw[r];rfl)
 repeat'(first|refine gE ?_|fail)
 (conv=>whnf)
 refine C8 (ι:=Nat) (λk=>[(2,.F .one [I (a)]),(6,.F .box ([I 0,I 0,I 0,I 0])),(39,.F .one (aP .H la)),(40,.F .one [I (la.length)]),(41,.F .one [I ((k:Nat):Int)])]) (λk=>k<=la.length/\∀(j:Nat)(z:am),j<k->la[j]? = some z->ba z a=false) (λk=>la.length - k) (0) ?_ ψ λk t=>?_
 ·exact wB
 obtain⟨t,u⟩:=t;by_cases w:k<la.length
 ·have d:=ao w
  have b:=mR (nth la k) a;cases c:ba (nth la k) a<;>rw[c]at b
  ·repeat'(first|refine gE ?_|(conv=>whnf);first|with_reducible refine C6 (ab d) ?_|refine C4 b ?_)
   ((conv=>whnf);refine C7 (k+1) ψ ω ?_;(exact wB))
  repeat'(first|refine gE ?_|(conv=>whnf);first|with_reducible refine C6 (ab d) ?_|refine C4 b ?_|refine C4 (po (nth la k) a c) ?_)
  rw[jf (n:=i) ω h w c u];rfl
 repeat'(first|refine gE ?_|fail)
 rw[sL (n:=i) (k:=k) ω h ω u];rfl
section
variable{α:Type}
def yL(ag:Option Nat)(e:α->List C)(pr:α->Bool)(xs:List α):List (Option Nat × List C)->Kd->List C->Prop:=λL k rcs=>∃x,x∈xs/\L=[(ag,e x)]/\k=.one/\rcs=[B (pr x)]
end
def qN(xs:List aA)(pr:aA->Bool)(n:xs.length<=9223372036854775807):af Tryz.prog 273 false [.val none (bQ .H xs),.fn (nK Tryz.prog (yL (some 2) (aA.enc .H) pr xs))] .one [I (gW pr xs)]:=by
 refine fO 19 [] Tryz.func273 rfl ?_
 repeat'(first|refine gP ?_|fail)
 (conv=>whnf)
 refine C8 (ι:=Nat) (λi=>[(0,.F .one (bQ .H xs)),(1,.fv (nK Tryz.prog (yL (some 2) (aA.enc .H) pr xs))),(7,.F .one [I xs.length]),(8,.F .one [I (i:Nat)])]) (λi=>i<=xs.length/\∀(j:Nat)(z:aA),j<i->xs[j]? = some z->pr z=false) (λi=>xs.length - i) 0 ?_ ⟨N0 _,λj z h=>ω⟩ λi e=>?_
 ·exact wB
 obtain⟨e,b⟩:=e;by_cases c:i<xs.length
 ·obtain⟨y,a⟩ : ∃y,xs[i]? = some y:=⟨_,C1 c⟩
  repeat'(first|refine gE ?_|(conv=>whnf);first|with_reducible refine C6 (ab a) ?_|refine Fv.mk (k:=.one) (rcs:=[B (pr y)]) ⟨y,X0 a,rfl,rfl,rfl⟩ ?_|refine Bf.P (λl=>?_) (λl=>?_))
  ·exact O0 (λz=>[I z]) (il a ‹_› b).symm
  (conv=>whnf)
  refine C7 (i+1) ⟨ω,λj z h d=>?_⟩ ω ?_
  ·rcases Nat.lt_or_ge j i with g|g
   ·exact b j z g d
   obtain rfl:j=i:=ω
   rw[a]at d;cases d;assumption
  exact wB
 repeat'(first|refine gE ?_|fail)
 exact O0 (λz=>[I z]) (jz ω b).symm
theorem nA(xs:List aA)(pr:aA->Bool)(a:xs.length<=9223372036854775807):af Tryz.prog 242 false [.val none (bQ .H xs),.fn (nK Tryz.prog (yL (some 2) (aA.enc .H) pr xs))] .one [B (xs.any pr)]:=by
 refine fO 9 [] Tryz.func242 rfl ?_
 repeat'(first|refine gP ?_|(conv=>whnf);first|refine C4 (qN xs pr a) ?_)
 grind [pI]
def qr(r:aA)(page:Int):af Tryz.prog 243 false [.val (some 2) (aA.enc .H r),.ptr [I page]] .one [B (qC page r)]:=by
 refine fO 17 [] Tryz.func243 rfl ?_
 repeat'(first|refine gP ?_|(conv=>whnf);first|with_reducible refine Bf.D (λa=>?_) (λa=>?_)|refine CB rfl ?_)
 all_goals exact O0 (λz=>[B z]) (by unfold qC;first|(rw[L0 (by assumption:r.At<=page)];simp;done)|(rw[M0 (by assumption:¬r.At<=page)];rfl))
def t4(xs:List aA)(page:Int)(a:xs.length<=9223372036854775807):af Tryz.prog 202 false [.val none (bQ .H xs),.val none [I page]] .one [B (xs.any (qC page))]:=by
 refine fO 8 [] Tryz.func202 rfl ?_
 repeat'(first|refine gP ?_|(conv=>whnf);first|refine Cq.mk (yL (some 2) (aA.enc .H) (qC page) xs) (qr default page).has (λL k rcs b=>?_) ?_|refine C4 (nA xs (qC page) a) ?_)
 ·obtain⟨x,-,rfl,rfl,rfl⟩:=b
  exact qr x page
 rfl
theorem qJ(xs:List ay)(pr:ay->Bool)(g:xs.length<=9223372036854775807):af Tryz.prog 311 false [.val none (bO .H xs),.fn (nK Tryz.prog (yL (some 3) (ay.enc .H) pr xs))] .one [I (gW pr xs)]:=by
 refine fO 19 [] Tryz.func311 rfl ?_
 repeat'(first|refine gP ?_|fail)
 (conv=>whnf)
 refine C8 (ι:=Nat) (λi=>[(0,.F .one (bO .H xs)),(1,.fv (nK Tryz.prog (yL (some 3) (ay.enc .H) pr xs))),(7,.F .one [I xs.length]),(8,.F .one [I (i:Nat)])]) (λi=>i<=xs.length/\∀(j:Nat)(z:ay),j<i->xs[j]? = some z->pr z=false) (λi=>xs.length - i) 0 ?_ ψ λi b=>?_
 ·exact wB
 obtain⟨b,d⟩:=b;by_cases a:i<xs.length
 ·obtain⟨y,c⟩ : ∃y,xs[i]? = some y:=⟨_,C1 a⟩
  repeat'(first|refine gE ?_|(conv=>whnf);first|with_reducible refine C6 (ab c) ?_|refine Fv.mk (k:=.one) (rcs:=[B (pr y)]) ⟨y,X0 c,rfl,rfl,rfl⟩ ?_|refine Bf.P (λe=>?_) (λe=>?_))
  ·grind [il]
  (conv=>whnf)
  refine C7 (i+1) ψ ω ?_;exact wB
 repeat'(first|refine gE ?_|fail)
 exact O0 (λz=>[I z]) (jz ω d).symm
theorem nM(xs:List ay)(pr:ay->Bool)(a:xs.length<=9223372036854775807):af Tryz.prog 274 false [.val none (bO .H xs),.fn (nK Tryz.prog (yL (some 3) (ay.enc .H) pr xs))] .one [B (xs.any pr)]:=by
 refine fO 9 [] Tryz.func274 rfl ?_
 repeat'(first|refine gP ?_|(conv=>whnf);first|refine C4 (qJ xs pr a) ?_)
 grind [pI]
theorem rk(xs:List ah)(pr:ah->Bool)(g:xs.length<=9223372036854775807):af Tryz.prog 210 false [.val none (bi .H xs),.fn (nK Tryz.prog (yL (some 3) (ah.enc .H) pr xs))] .one [I (gW pr xs)]:=by
 refine fO 19 [] Tryz.func210 rfl ?_
 repeat'(first|refine gP ?_|fail)
 (conv=>whnf)
 refine C8 (ι:=Nat) (λi=>[(0,.F .one (bi .H xs)),(1,.fv (nK Tryz.prog (yL (some 3) (ah.enc .H) pr xs))),(7,.F .one [I xs.length]),(8,.F .one [I (i:Nat)])]) (λi=>i<=xs.length/\∀(j:Nat)(z:ah),j<i->xs[j]? = some z->pr z=false) (λi=>xs.length - i) 0 ?_ ψ λi b=>?_
 ·exact wB
 obtain⟨b,d⟩:=b;by_cases a:i<xs.length
 ·obtain⟨y,c⟩ : ∃y,xs[i]? = some y:=⟨_,C1 a⟩
  repeat'(first|refine gE ?_|(conv=>whnf);first|with_reducible refine C6 (ab c) ?_|refine Fv.mk (k:=.one) (rcs:=[B (pr y)]) ⟨y,X0 c,rfl,rfl,rfl⟩ ?_|refine Bf.P (λe=>?_) (λe=>?_))
  ·grind [il]
  (conv=>whnf)
  refine C7 (i+1) ψ ω ?_;exact wB
 repeat'(first|refine gE ?_|fail)
 exact O0 (λz=>[I z]) (jz ω d).symm
theorem tq(xs:List bg)(pr:bg->Bool)(g:xs.length<=9223372036854775807):af Tryz.prog 245 false [.val none (ee .H xs),.fn (nK Tryz.prog (yL (some 4) (bg.enc .H) pr xs))] .one [I (gW pr xs)]:=by
 refine fO 19 [] Tryz.func245 rfl ?_
 repeat'(first|refine gP ?_|fail)
 (conv=>whnf)
 refine C8 (ι:=Nat) (λi=>[(0,.F .one (ee .H xs)),(1,.fv (nK Tryz.prog (yL (some 4) (bg.enc .H) pr xs))),(7,.F .one [I xs.length]),(8,.F .one [I (i:Nat)])]) (λi=>i<=xs.length/\∀(j:Nat)(z:bg),j<i->xs[j]? = some z->pr z=false) (λi=>xs.length - i) 0 ?_ ψ λi b=>?_
 ·exact wB
 obtain⟨b,d⟩:=b;by_cases a:i<xs.length
 ·obtain⟨y,c⟩ : ∃y,xs[i]? = some y:=⟨_,C1 a⟩
  repeat'(first|refine gE ?_|(conv=>whnf);first|with_reducible refine C6 (ab c) ?_|refine Fv.mk (k:=.one) (rcs:=[B (pr y)]) ⟨y,X0 c,rfl,rfl,rfl⟩ ?_|refine Bf.P (λe=>?_) (λe=>?_))
  ·grind [il]
  (conv=>whnf)
  refine C7 (i+1) ψ ω ?_;exact wB
 repeat'(first|refine gE ?_|fail)
 exact O0 (λz=>[I z]) (jz ω d).symm
theorem pL(xs:List bg)(pr:bg->Bool)(a:xs.length<=9223372036854775807):af Tryz.prog 205 false [.val none (ee .H xs),.fn (nK Tryz.prog (yL (some 4) (bg.enc .H) pr xs))] .one [B (xs.any pr)]:=by
 refine fO 9 [] Tryz.func205 rfl ?_
 repeat'(first|refine gP ?_|(conv=>whnf);first|refine C4 (tq xs pr a) ?_)
 grind [pI]
def Gy{k:Nat}(a:k<=3):IntKind.i64.wrap (1*2 ^ min ((k:Nat):Int).toNat IntKind.i64.bits)=csz (k:Nat):=by
 obtain rfl|rfl|rfl|rfl:k=0\/k=1\/k=2\/k=3:=ω
 all_goals decide
theorem Gv{k:Nat}(a:k<=100):IntKind.u64.wrap (k:Nat)=(k:Nat):=by grind [Go.IntKind.wrap,Go.IntKind.bits]
theorem vW{k:Nat}{z:Int}(a:k<=3)(h:csz (k:Nat)<z)(b:z<=8):k<=2:=by
 have c:csz ((3:Nat):Int)=8:=by decide
 grind
theorem sr{k:Nat}{z:Int}(a:k<=3)(b:1<=z)(c:k=0\/csz ((k - 1:Nat):Int)<z)(d:¬csz (k:Nat)<z):cO z=(k:Nat):=by
 have e:csz ((0:Nat):Int)=1:=by decide
 have f:csz ((1:Nat):Int)=2:=by decide
 have g:csz ((2:Nat):Int)=4:=by decide
 have h:csz ((3:Nat):Int)=8:=by decide
 unfold cO;obtain rfl|rfl|rfl|rfl:k=0\/k=1\/k=2\/k=3:=ω
 all_goals grind
def jI(z:Int):af Tryz.prog 105 false [.val none [I z]] .one [I (cO z)]:=by
 refine fO 15 [] Tryz.func105 rfl ?_;by_cases c:1<=z/\z<=8
 ·repeat'(first|refine gE ?_|(conv=>whnf);first|with_reducible refine Bf.D (λb=>?_) (λb=>?_)|refine C4 (aN z 1 8) ?_)
  (conv=>whnf)
  refine C8 (ι:=Nat) (λk=>[(0,.F .one [I (z)]),(3,.F .one [I ((k:Nat):Int)])]) (λk=>k<=3/\(k=0\/csz ((k - 1:Nat):Int)<z)) (λk=>4 - k) (0) ?_ ω λk a=>?_
  ·exact wB
  obtain⟨a,d⟩:=a
  repeat'(first|refine gP ?_|(conv=>whnf);first|with_reducible refine Bf.D (λb=>?_) (λb=>?_)|refine CB (Gv ω) ?_|refine CB (Gy a) ?_|refine CD ω ?_)
  all_goals first
   | exact O0 (λz=>[I z]) (sr a c.1 d (by assumption)).symm
   | ((conv=>whnf);refine C7 (k+1) ⟨by have:=vW a (by assumption) c.2;omega,.inr (by simpa using (by assumption:csz (k:Nat)<z))⟩ (by have:=vW a (by assumption) c.2;omega) ?_;(exact wB))
 repeat'(first|refine gE ?_|(conv=>whnf);first|with_reducible refine Bf.D (λb=>?_) (λb=>?_)|refine C4 (aN z 1 8) ?_)
 all_goals exact O0 (λz=>[I z]) (by unfold cO;(repeat' split)<;>omega)
def jZ(z:Int):af Tryz.prog 73 false [.val none [I z]] .one [I (cO z)]:=by
 refine fO 14 [] Tryz.func73 rfl ?_;by_cases c:1<=z/\z<=8
 ·repeat'(first|refine gE ?_|(conv=>whnf);first|with_reducible refine Bf.D (λa=>?_) (λa=>?_)|refine C4 (aE z 1 8) ?_)
  (conv=>whnf)
  refine C8 (ι:=Nat) (λk=>[(0,.F .one [I (z)]),(3,.F .one [I ((k:Nat):Int)])]) (λk=>k<=3/\(k=0\/csz ((k - 1:Nat):Int)<z)) (λk=>4 - k) (0) ?_ ω λk b=>?_
  ·exact wB
  obtain⟨b,d⟩:=b
  repeat'(first|refine gP ?_|(conv=>whnf);first|with_reducible refine Bf.D (λa=>?_) (λa=>?_)|refine C4 (bN _) ?_)
  all_goals first
   | exact O0 (λz=>[I z]) (sr b c.1 d (by assumption)).symm
   | ((conv=>whnf);refine C7 (k+1) ⟨by have:=vW b (by assumption) c.2;omega,.inr (by simpa using (by assumption:csz (k:Nat)<z))⟩ (by have:=vW b (by assumption) c.2;omega) ?_;(exact wB))
 repeat'(first|refine gE ?_|(conv=>whnf);first|with_reducible refine Bf.D (λa=>?_) (λa=>?_)|refine C4 (aE z 1 8) ?_)
 all_goals exact O0 (λz=>[I z]) (by unfold cO;(repeat' split)<;>omega)
theorem v9(q:aT)(a:Int)(d:aT.sml q):af Tryz.prog 184 false [.val (some 2) (aT.enc .H q),.val none [I a]] .one [B (q.d.any (dL a))]:=by
 have j:q.d.length<=1048576:=d.1;refine fO 21 [] Tryz.func184 rfl ?_
 repeat'(first|refine gP ?_|fail)
 (conv=>whnf)
 refine C8 (ι:=Nat) (λi=>[(1,.F .one [I (a)]),(2,.F .box (aT.enc .H q)),(5,.F .one [I ((i:Nat):Int)])]) (λi=>i<=q.d.length/\(q.d.take i).any (dL a)=false) (λi=>q.d.length - i) (0) ?_ ψ λi c=>?_
 ·exact wB
 obtain⟨c,e⟩:=c;by_cases g:i<q.d.length
 ·have b:=ao g
  repeat'(first|refine gE ?_|(conv=>whnf);first|with_reducible (first|refine C6 (ab b) ?_|refine Bf.E (λh=>?_) (λh=>?_)))
  all_goals first
   | exact O0 (λz=>[B z]) ((v8 b (L0 (by assumption))).symm)
   | ((conv=>whnf);refine C7 (i+1) ⟨ω,te b e (M0 (by assumption))⟩ ω ?_;(exact wB))
 repeat'(first|refine gE ?_|fail)
 exact O0 (λz=>[B z]) ψ
def mb(xs:List ay)(i:Nat):quarCells xs (i+1)=quarCells xs i+csz (nth xs i).T:=rfl
theorem kc(k:Int):0<=csz k/\csz k<=8:=by grind [cS,csz]
theorem qm(xs:List ay)(c:dS xs):af Tryz.prog 108 false [.val none (bO .H xs)] .one [I (quarCells xs xs.length)]:=by
 have g:=c.1;refine fO 20 [] Tryz.func108 rfl ?_
 repeat'(first|refine gP ?_|fail)
 (conv=>whnf)
 refine C8 (ι:=Nat) (λi=>[(0,.F .one (bO .H xs)),(3,.F .one [I (quarCells xs i)]),(4,.F .one [I ((i:Nat):Int)])]) (λi=>i<=xs.length/\0<=quarCells xs i/\quarCells xs i<=8*i) (λi=>xs.length - i) (0) ?_ (⟨N0 _,by simp[quarCells],by simp[quarCells]⟩) λi b=>?_
 ·exact wB
 obtain⟨b,h,j⟩:=b;by_cases d:i<xs.length
 ·have e:=ao d
  have k:=kc (nth xs i).T;have a:=mb xs i
  repeat'(first|refine gE ?_|(conv=>whnf);first|with_reducible refine C6 (ab e) ?_|refine C4 (cX _) ?_)
  ((conv=>whnf);refine C7 (i+1) ω ω ?_)
  rw[a];exact wB
 repeat'(first|refine gE ?_|fail)
 grind
theorem lv(xs:List ay)(c:dS xs):af Tryz.prog 72 false [.val none (bO .H xs)] .one [I (quarCells xs xs.length)]:=by
 have g:=c.1;refine fO 19 [] Tryz.func72 rfl ?_
 repeat'(first|refine gP ?_|fail)
 (conv=>whnf)
 refine C8 (ι:=Nat) (λi=>[(3,.F .one [I (quarCells xs i)]),(6,.F .one (bO .H xs)),(7,.F .one [I (xs.length)]),(8,.F .one [I ((i:Nat):Int)])]) (λi=>i<=xs.length/\0<=quarCells xs i/\quarCells xs i<=8*i) (λi=>xs.length - i) (0) ?_ (⟨N0 _,by simp[quarCells],by simp[quarCells]⟩) λi b=>?_
 ·exact wB
 obtain⟨b,h,j⟩:=b;by_cases d:i<xs.length
 ·have e:=ao d
  have k:=kc (nth xs i).T;have a:=mb xs i
  repeat'(first|refine gE ?_|(conv=>whnf);first|with_reducible refine C6 (ab e) ?_|refine C4 (bN _) ?_)
  ((conv=>whnf);refine C7 (i+1) ω ω ?_)
  rw[a];exact wB
 repeat'(first|refine gE ?_|fail)
 grind
def Dx(a:ay):af Tryz.prog 183 false [.val (some 3) (ay.enc .H a)] .one [B (decide (0<=a.T/\a.T<=3/\0<=a.Z/\0<=a.y))]:=by
 refine fO 16 [] Tryz.func183 rfl ?_
 repeat'(first|refine gP ?_|(conv=>whnf);first|with_reducible refine Bf.D (λb=>?_) (λb=>?_)|refine C4 (aN _ 0 3) ?_)
 all_goals exact O0 (λz=>[B z]) ((by first|(symm;exact M0 ω)|exact decide_eq_decide.2 ω))
theorem Ee{xs:List ay}(a:dS xs)(i:Nat):dS (xs.take i):=⟨by have:=a.1;grind,λ_ _=>trivial⟩
def xL(q:aT)(a:aT.sml q):af Tryz.prog 94 false [.val (some 2) (aT.enc .H q)] .one [B (fm q)]:=by
 have l:q.d.length<=1048576:=a.1;refine fO 57 [(5,29,[17,18,19,20,21,22,23,24,25,26,27,28,29,30,31,32,33,34,35,36,37,38,39,40,41,42,43,44,45]),(7,11,[46,47,48,49,50,51,52,53,54,55,56])] Tryz.func94 rfl ?_
 repeat'(first|refine gP ?_|fail)
 (conv=>whnf)
 refine C8 (ι:=Nat) (λi=>[(1,.F .box (aT.enc .H q)),(3,.F .one [I ((i:Nat):Int)])]) (λi=>i<=q.d.length/\cB i (ge q.d)=true) (λi=>q.d.length - i) 0 ?_ ⟨N0 _,rfl⟩ λi e=>?_
 ·exact wB
 obtain⟨e,g⟩:=e;by_cases b:i<q.d.length
 ·have j:=ao b
  have h:=v9 ⟨0,q.d.take i⟩ (nth q.d i).Z (Ee a i);cases c:(q.d.take i).any (dL (nth q.d i).Z)<;>rw[show(aT.mk 0 (q.d.take i)).d.any (dL (nth q.d i).Z)=_ from c]at h
  all_goals
   repeat'(first|refine gE ?_|(conv=>whnf);first|with_reducible (first|refine C6 (ab j) ?_|refine Bf.D (λd=>?_) (λd=>?_))|refine C4 (Dx _) ?_|refine CJ ω (ab (eo ω b)) ?_|refine Sl.pre i rfl (by simp;omega) (λr k=>by obtain⟨z,-,rfl⟩:=C2.1 k;rfl) (Z1 ..) ?_|refine C4 h ?_)
   all_goals first
    | exact O0 (λz=>[B z]) ((by symm;unfold fm;rw[bC b (by unfold ge;first|(rw[c];simp;done)|(rw[M0 ω];rfl))];rfl))
    | ((conv=>whnf);refine C7 (i+1) ⟨ω,bm g (by unfold ge;rw[c,L0 ω];rfl)⟩ ω ?_;(exact wB))
 obtain rfl:i=q.d.length:=ω
 repeat'(first|refine gE ?_|(conv=>whnf);first|with_reducible refine Bf.D (λd=>?_) (λd=>?_)|refine C4 (aN _ 0 500) ?_|refine C4 (qm q.d a) ?_)
 all_goals exact O0 (λz=>[B z]) ((by unfold fm;rw[g];simp only[Bool.true_and];first|(symm;exact M0 ω)|exact decide_eq_decide.2 ω))
theorem qe(b:ay)(a:Int):af Tryz.prog 275 false [.val (some 3) (ay.enc .H b),.ptr [I a]] .one [B (dL a b)]:=by
 refine fO 8 [] Tryz.func275 rfl ?_
 repeat'(first|refine gP ?_|fail)
 grind [dL]
def ue(xs:List ay)(a:Int)(b:xs.length<=9223372036854775807):af Tryz.prog 244 false [.val none (bO .H xs),.val none [I a]] .one [B (xs.any (dL a))]:=by
 refine fO 8 [] Tryz.func244 rfl ?_
 repeat'(first|refine gP ?_|(conv=>whnf);first|refine Cq.mk (yL (some 3) (ay.enc .H) (dL a) xs) (qe default a).has (λL k rcs c=>?_) ?_|refine C4 (nM xs (dL a) b) ?_)
 ·obtain⟨y,-,rfl,rfl,rfl⟩:=c
  exact qe y a
 rfl
def m4(xs:List ay)(a:ay):Bool:=decide (0<=a.T/\a.T<=3/\0<=a.Z/\0<=a.y/\(xs.length=0\/(nth xs (xs.length - 1)).y<=a.y))&&!xs.any (dL a.Z)
theorem wo(xs:List ay)(b:ay)(g:xs.length<=1048576):af Tryz.prog 204 false [.val none (bO .H xs),.val (some 3) (ay.enc .H b)] .one [B (m4 xs b)]:=by
 have c:=ue xs b.Z ω;cases d:xs.any (dL b.Z)<;>rw[d]at c
 ·by_cases h:xs.length=0
  ·refine fO 40 [(3,15,[25,26,27,28,29,30,31,32,33,34,35,36,37,38,39])] Tryz.func204 rfl ?_
   repeat'(first|refine gP ?_|(conv=>whnf);first|with_reducible (first|refine Bf.D (λa=>?_) (λa=>?_)|refine Bf.E (λa=>?_) (λa=>?_))|refine C4 (dR _) ?_|refine C4 c ?_)
   all_goals first
    | exact O0 (λz=>[B z]) ((by unfold m4;rw[d,Bool.not_false,Bool.and_true];first|(symm;exact M0 ω)|(symm;exact L0 ω)|exact decide_eq_decide.2 ω))
    |(exfalso;omega)
    |trace_state
  have e:xs[((xs.length:Int) - 1).toNat]? = some (nth xs (xs.length - 1)):=by rw[show((xs.length:Int) - 1).toNat=xs.length - 1 by omega];grind [ao]
  refine fO 40 [(3,15,[25,26,27,28,29,30,31,32,33,34,35,36,37,38,39])] Tryz.func204 rfl ?_
  repeat'(first|refine gP ?_|(conv=>whnf);first|with_reducible (first|refine Bf.D (λa=>?_) (λa=>?_)|refine Bf.E (λa=>?_) (λa=>?_))|refine C4 (dR _) ?_|refine C4 c ?_|refine CJ ω (ab e) ?_)
  all_goals first
   | exact O0 (λz=>[B z]) ((by unfold m4;rw[d,Bool.not_false,Bool.and_true];first|(symm;exact M0 ω)|(symm;exact L0 ω)|exact decide_eq_decide.2 ω))
   |(exfalso;omega)
   |trace_state
 refine fO 40 [(3,15,[25,26,27,28,29,30,31,32,33,34,35,36,37,38,39])] Tryz.func204 rfl ?_
 repeat'(first|refine gP ?_|(conv=>whnf);first|with_reducible refine Bf.D (λa=>?_) (λa=>?_)|refine C4 (dR _) ?_|refine C4 c ?_)
 all_goals exact O0 (λz=>[B z]) ((by unfold m4;rw[d];simp))
theorem zH{xs:List ay}{i:Nat}(d:i<xs.length):m4 (xs.take i) (nth xs i)=ge xs i:=by
 unfold m4 ge;have a:(xs.take i).length=i:=ψ
 rw[a]
 congr 1
 refine decide_eq_decide.2 ?_;by_cases b:i=0
 ·subst b;simp
 have c:nth (xs.take i) (i - 1)=nth xs (i - 1):=by
  have:=ao (xs:=xs) (i:=i - 1) ω
  grind [bS]
 rw[c]
theorem yg(q:aT)(d:aT.sml q):af Tryz.prog 132 false [.val (some 2) (aT.enc .H q)] .one [B (fm q)]:=by
 have l:q.d.length<=1048576:=d.1;refine fO 32 [(4,7,[13,14,15,16,17,18,19]),(7,11,[21,22,23,24,25,26,27,28,29,30,31])] Tryz.func132 rfl ?_
 repeat'(first|refine gP ?_|fail)
 (conv=>whnf)
 refine C8 (ι:=Nat) (λi=>[(1,.F .box (aT.enc .H q)),(6,.F .one (bO .H q.d)),(7,.F .one [I (q.d.length)]),(8,.F .one [I ((i:Nat):Int)])]) (λi=>i<=q.d.length/\cB i (ge q.d)=true) (λi=>q.d.length - i) 0 ?_ ⟨N0 _,rfl⟩ λi e=>?_
 ·exact wB
 obtain⟨e,g⟩:=e;by_cases a:i<q.d.length
 ·have h:=ao a
  have b:=wo (q.d.take i) (nth q.d i) ψ;rw[zH a]at b;cases c:ge q.d i<;>rw[c]at b
  all_goals
   repeat'(first|refine gE ?_|(conv=>whnf);first|with_reducible refine C6 (ab h) ?_|refine Sl.pre i rfl (by simp;omega) (λr j=>by obtain⟨z,-,rfl⟩:=C2.1 j;rfl) (Z1 ..) ?_|refine C4 b ?_)
   all_goals first
    | exact O0 (λz=>[B z]) ((by symm;unfold fm;rw[bC a c];rfl))
    | ((conv=>whnf);refine C7 (i+1) ⟨ω,bm g c⟩ ω ?_;(exact wB))
 obtain rfl:i=q.d.length:=ω
 repeat'(first|refine gE ?_|(conv=>whnf);first|with_reducible refine Bf.D (λk=>?_) (λk=>?_)|refine C4 (aE _ 0 500) ?_|refine C4 (lv q.d d) ?_)
 all_goals exact O0 (λz=>[B z]) ((by unfold fm;rw[g];simp only[Bool.true_and];first|(symm;exact M0 ω)|exact decide_eq_decide.2 ω))
def eP(a:List Bool):Nat->Int
 | 0=>0
 | i+1=>eP a i+(if nth a i then 1 else 0)
def cT(f:aC):Int:=if cv f then eP f.c f.c.length else 0
def uP{a:List Bool}{i:Nat}(h:nth a i=true):eP a (i+1)=eP a i+1:=by show eP a i+(if nth a i then 1 else 0)=_;rw[h];rfl
def yB{a:List Bool}{i:Nat}(h:nth a i=false):eP a (i+1)=eP a i:=by show eP a i+(if nth a i then 1 else 0)=_;rw[h];simp
theorem qE(f:aC)(g:aC.sml f):af Tryz.prog 103 false [.val (some 2) (aC.enc .H f)] .one [I (cT f)]:=by
 have l:f.c.length<=1048576:=g.2;have b:=mH f g;cases h:cv f<;>rw[h]at b
 ·refine fO 24 [] Tryz.func103 rfl ?_
  repeat'(first|refine gP ?_|fail)
  (conv=>whnf)
  refine C8 (ι:=Nat) (λi=>[(1,.F .box (aC.enc .H f)),(3,.F .one [I ((0:Int))]),(4,.F .one [I ((i:Nat):Int)])]) (λi=>i=0) (λi=>i) (0) ?_ (rfl) λi c=>?_
  ·exact wB
  subst c
  repeat'(first|refine gP ?_|(conv=>whnf);first|with_reducible refine Bf.D (λj=>?_) (λj=>?_)|refine C4 b ?_)
  all_goals grind [cT]
 refine fO 24 [] Tryz.func103 rfl ?_
 repeat'(first|refine gP ?_|fail)
 (conv=>whnf)
 refine C8 (ι:=Nat) (λi=>[(1,.F .box (aC.enc .H f)),(3,.F .one [I (eP f.c i)]),(4,.F .one [I ((i:Nat):Int)])]) (λi=>i<=f.c.length/\0<=eP f.c i/\eP f.c i<=i) (λi=>f.c.length - i) (0) ?_ (⟨N0 _,by simp[eP],by simp[eP]⟩) λi c=>?_
 ·exact wB
 obtain⟨c,n,o⟩:=c;by_cases k:i<f.c.length
 ·have d:=ao k
  cases e:nth f.c i<;>rw[e]at d
  ·have a:=yB e
   repeat'(first|refine gE ?_|(conv=>whnf);first|with_reducible refine C6 (ab d) ?_|refine C4 b ?_)
   ((conv=>whnf);refine C7 (i+1) ω ω ?_)
   rw[a];exact wB
  have a:=uP e
  repeat'(first|refine gE ?_|(conv=>whnf);first|with_reducible refine C6 (ab d) ?_|refine C4 b ?_)
  ((conv=>whnf);refine C7 (i+1) ω ω ?_)
  rw[a];exact wB
 obtain rfl:i=f.c.length:=ω
 repeat'(first|refine gE ?_|(conv=>whnf);first|refine C4 b ?_)
 grind [cT]
theorem qP(f:aC)(e:aC.sml f):af Tryz.prog 70 false [.val (some 2) (aC.enc .H f)] .one [I (cT f)]:=by
 have k:f.c.length<=1048576:=e.2;have b:=mM f e;cases g:cv f<;>rw[g]at b
 ·refine fO 21 [] Tryz.func70 rfl ?_
  repeat'(first|refine gP ?_|(conv=>whnf);first|refine C4 b ?_)
  all_goals exact O0 (λz=>[I z]) (by unfold cT;rw[g];rfl)
 refine fO 21 [] Tryz.func70 rfl ?_
 repeat'(first|refine gP ?_|(conv=>whnf);first|refine C4 b ?_)
 (conv=>whnf)
 refine C8 (ι:=Nat) (λi=>[(3,.F .one [I (eP f.c i)]),(10,.F .one (fC .H f.c)),(11,.F .one [I (f.c.length)]),(12,.F .one [I ((i:Nat):Int)])]) (λi=>i<=f.c.length/\0<=eP f.c i/\eP f.c i<=i) (λi=>f.c.length - i) (0) ?_ (⟨N0 _,by simp[eP],by simp[eP]⟩) λi h=>?_
 ·exact wB
 obtain⟨h,l,n⟩:=h;by_cases j:i<f.c.length
 ·have c:=ao j
  cases d:nth f.c i<;>rw[d]at c
  ·have a:=yB d
   repeat'(first|refine gE ?_|(conv=>whnf);first|with_reducible refine C6 (ab c) ?_)
   ((conv=>whnf);refine C7 (i+1) ω ω ?_)
   rw[a];exact wB
  have a:=uP d
  repeat'(first|refine gE ?_|(conv=>whnf);first|with_reducible refine C6 (ab c) ?_)
  ((conv=>whnf);refine C7 (i+1) ω ω ?_)
  rw[a];exact wB
 obtain rfl:i=f.c.length:=ω
 repeat'(first|refine gE ?_|fail)
 grind [cT]
def vB(h:ac):Prop:=az.sml h.X.R.a
def gQ(h:ac)(p:Int)(a:vB h):af Tryz.prog 32 false [.val (some 24) (ac.enc .H h),.val none [I p]] .one (aK .own (aG h p)):=by
 refine fO 23 [] Tryz.func32 rfl ?_ (.inr (cu _))
 repeat'((conv=>whnf);first|with_reducible (first|refine Lm ?_|refine Wm ω ?_|refine Bf.E (λb=>?_) (λb=>?_)|refine Bn ?_|refine nR.wk rfl ?_)|refine Bt ?_|refine Bu ?_|refine C4 (rg h.X.R.a p a) ?_|refine C4 (od h.X.R.a _ a) ?_)
 all_goals(unfold aG;first|rw[CA (by assumption)]|rw[C9 (by assumption)])
 all_goals exact⟨rfl,trivial⟩
def km(h:ac)(p:Int)(a:vB h):af Tryz.prog 44 false [.val (some 24) (ac.enc .H h),.val none [I p]] .one (aK .own (aG h p)):=by
 refine fO 22 [] Tryz.func44 rfl ?_ (.inr (cu _))
 repeat'((conv=>whnf);first|with_reducible (first|refine Lm ?_|refine Wm ω ?_|refine Bf.E (λb=>?_) (λb=>?_)|refine Bn ?_|refine nR.wk rfl ?_)|refine Bt ?_|refine Bu ?_|refine C4 (iG h.X.R.a p a) ?_|refine C4 (og h.X.R.a _ a) ?_)
 all_goals(unfold aG;first|rw[CA (by assumption)]|rw[C9 (by assumption)])
 all_goals exact⟨rfl,trivial⟩
theorem y6(k:au)(p:Int)(a:az.sml k.R.a):af Tryz.prog 201 false [.val (some 5) (au.enc .H k),.val none [I p]] .one [B (decide ((aZ k.R.a p).o≠0))]:=by
 refine fO 12 [] Tryz.func201 rfl ?_
 repeat'(first|refine gP ?_|(conv=>whnf);first|refine C4 (iG k.R.a p a) ?_)
 grind
def lU(z:Int):af Tryz.prog 136 false [.val none [I z]] .one [B (decide (0<=z/\z<=1073741823))]:=by
 refine fO 5 [] Tryz.func136 rfl ?_
 repeat'(first|refine gP ?_|(conv=>whnf);first|refine C4 (aE z 0 1073741823) ?_)
 rfl
theorem jb(h:ac)(p:Int)(g:h.G.length<=1048576):af Tryz.prog 101 false [.val (some 24) (ac.enc .H h),.val none [I p]] .one [I (dE h p)]:=by
 refine fO 22 [] Tryz.func101 rfl ?_
 repeat'(first|refine gP ?_|fail)
 (conv=>whnf)
 refine C8 (ι:=Nat) (λi=>[(1,.F .one [I (p)]),(2,.F .box (ac.enc .H h)),(5,.F .one [I ((i:Nat):Int)])]) (λi=>i<=h.G.length/\∀(j:Nat)(z:ah),j<i->h.G[j]? = some z->i9 p z=false) (λi=>h.G.length - i) (0) ?_ ψ λi c=>?_
 ·exact wB
 obtain⟨c,a⟩:=c;by_cases d:i<h.G.length
 ·have b:=ao d
  repeat'(first|refine gE ?_|(conv=>whnf);first|with_reducible (first|refine C6 (ab b) ?_|refine Bf.E (λe=>?_) (λe=>?_)))
  all_goals first
   | exact O0 (λz=>[I z]) (il b (L0 (by assumption)) a).symm
   | ((conv=>whnf);refine C7 (i+1) ⟨ω,Ei b (M0 (by assumption)) a⟩ ω ?_;(exact wB))
 repeat'(first|refine gE ?_|fail)
 exact O0 (λz=>[I z]) (jz ω a).symm
theorem u5(s:ah)(p:Int):af Tryz.prog 211 false [.val (some 3) (ah.enc .H s),.ptr [I p]] .one [B (i9 p s)]:=by
 refine fO 8 [] Tryz.func211 rfl ?_
 repeat'(first|refine gP ?_|fail)
 grind [i9]
def qp(h:ac)(p:Int)(b:h.G.length<=1048576):af Tryz.prog 139 false [.val (some 24) (ac.enc .H h),.val none [I p]] .one [I (dE h p)]:=by
 refine fO 9 [] Tryz.func139 rfl ?_
 repeat'(first|refine gP ?_|(conv=>whnf);first|refine Cq.mk (yL (some 3) (ah.enc .H) (i9 p) h.G) (u5 default p).has (λL k rcs a=>?_) ?_|refine C4 (rk h.G (i9 p) ω) ?_)
 ·obtain⟨y,-,rfl,rfl,rfl⟩:=a
  exact u5 y p
 rfl
def flight1(m:aI)(i:Nat):List Int:=(m.Q.take i).flatMap λl=>l.map (·.Z)
def flight2(m:aI)(i:Nat):List Int:=(m.e.take i).flatten
theorem jT{m:aI}{i:Nat}{l:List aH}(h:m.Q[i]? = some l):flight1 m (i+1)=flight1 m i++l.map (·.Z):=by grind [U2,flight1]
theorem ka{m:aI}{i:Nat}{l:List Int}(h:m.e[i]? = some l):flight2 m (i+1)=flight2 m i++l:=by grind [U2,flight2]
theorem lR{m:aI}(h:de m=true):ax m=flight1 m m.Q.length++flight2 m m.e.length:=by grind [ax,flight1,flight2]
theorem qx{m:aI}(h:de m=false):ax m=[]:=by grind [ax]
theorem ib{m:aI}(h:de m=true):1<=m.Q.length/\m.Q.length<=4/\m.e.length=m.Q.length:=by grind [de]
def xl{l:List Int} : ∀r∈l.map (rI .H),r.length=1:=by
 intro r a;obtain⟨z,-,rfl⟩:=C2.1 a;rfl
def A2{l:List Int} : ∀r∈l.map (rI .H),aQ r=true:=by
 intro r a;obtain⟨z,-,rfl⟩:=C2.1 a;rfl
theorem mT(m:aI)(g:aI.sml m):af Tryz.prog 109 false [.val (some 2) (aI.enc .H m)] .one (aK .own (ax m)):=by
 have h:=qw m g;cases d:de m<;>rw[d]at h
 ·refine fO 56 [] Tryz.func109 rfl ?_ (.inr (cu _))
  repeat'((conv=>whnf);first|with_reducible (first|refine Lm ?_|refine Wm ω ?_|refine Bn ?_|refine nR.wk rfl ?_)|refine Bt ?_|refine Bu ?_|refine C4 h ?_)
  all_goals(rw[qx d];exact⟨rfl,trivial⟩)
 obtain⟨D,E,F⟩:=ib d;refine fO 56 [] Tryz.func109 rfl ?_ (.inr (cu _))
 repeat'(first|refine gP ?_|(conv=>whnf);first|refine C4 h ?_)
 (conv=>whnf)
 refine C8 (ι:=Nat × List Int) (λi=>[(1,.F .box (aI.enc .H m)),(3,.F .one (aK .own i.2)),(4,.F .one [I ((i.1:Nat):Int)])]) (λi=>i.1<=m.Q.length/\i.2=flight1 m i.1/\i.2.length<=1048576*i.1) (λi=>m.Q.length - i.1) ((0,[])) ?_ (⟨N0 _,rfl,N0 _⟩) λi j=>?_
 ·exact wB
 obtain⟨i,S⟩:=i;obtain⟨j,p,t⟩:=j;simp only at j p t |-;by_cases q:i<m.Q.length
 ·have l:=ao q
  have u:(nth m.Q i).length<=1048576:=(g.1.2 _ (aF q)).1
  repeat'(first|refine gE ?_|(conv=>whnf);first|with_reducible refine C6 (ab l) ?_)
  (conv=>whnf)
  refine C8 (ι:=Nat × List Int) (λk=>[(1,.F .box (aI.enc .H m)),(3,.F .one (aK .own k.2)),(4,.F .one [I ((i:Nat):Int)]),(5,.F .one [I ((k.1:Nat):Int)])]) (λk=>k.1<=(nth m.Q i).length/\k.2=S++((nth m.Q i).take k.1).map (·.Z)) (λk=>(nth m.Q i).length - k.1) ((0,S)) ?_ ψ λk b=>?_
  ·exact wB
  obtain⟨k,c⟩:=k;obtain⟨b,a⟩:=b;simp only at b a |-;have w:c.length=S.length+k:=ψ
  by_cases e:k<(nth m.Q i).length
  ·have n:=ao e
   repeat'(first|refine gE ?_|(conv=>whnf);first|with_reducible (first|refine C6 (ab l) ?_|refine C6 (ab n) ?_)|refine CI cJ (λr y=>by rw[T0.1 y];rfl) (by simp[aQ,cW]) (by simp;omega) (by show _*8<=_;simp;omega) rfl ?_)
   ((conv=>whnf)
    refine C7 (k+1,c++[(nth (nth m.Q i) k).Z]) ⟨(by simp only;omega),(by grind [U2])⟩ (by simp only;omega) ?_
    (repeat'(first|exact trivial|rfl|exact C5 rfl (C5 (O0 (C.s dm.own) (by simp[rI])) trivial)|refine C5 ?_ ?_)))
  obtain rfl:k=(nth m.Q i).length:=ω
  rw[P2]at a
  repeat'(first|refine gE ?_|(conv=>whnf);first|with_reducible refine C6 (ab l) ?_)
  ((conv=>whnf);refine C7 (i+1,c) ⟨(by simp only;omega),(by grind [jT]),(by simp only;omega)⟩ (by simp only;omega) ?_;(exact wB))
 obtain rfl:i=m.Q.length:=ω
 repeat'(first|refine gE ?_|fail)
 (conv=>whnf)
 refine C8 (ι:=Nat × List Int) (λk=>[(1,.F .box (aI.enc .H m)),(3,.F .one (aK .own k.2)),(6,.F .one [I ((k.1:Nat):Int)])]) (λk=>k.1<=m.e.length/\k.2=S++flight2 m k.1/\k.2.length<=S.length+1048576*k.1) (λk=>m.e.length - k.1) ((0,S)) ?_ (⟨N0 _,by simp[flight2],by simp⟩) λk b=>?_
 ·exact wB
 obtain⟨k,c⟩:=k;obtain⟨b,a,o⟩:=b;simp only at b a o |-;by_cases e:k<m.e.length
 ·have n:=ao e
  have B:(nth m.e k).length<=1048576:=g.2.2 _ (aF e)
  repeat'(first|refine gE ?_|(conv=>whnf);first|with_reducible refine C6 (ab n) ?_|refine CI cJ xl (λ_=>A2) (by simp;omega) (by show _*8<=_;simp;omega) rfl ?_)
  ((conv=>whnf)
   refine C7 (k+1,c++nth m.e k) ⟨(by simp only;omega),(by grind [ka]),ψ⟩ (by simp only;omega) ?_
   (repeat'(first|exact trivial|rfl|exact C5 rfl (C5 (O0 (C.s dm.own) (by simp[rI])) trivial)|refine C5 ?_ ?_)))
 obtain rfl:k=m.e.length:=ω
 repeat'(first|refine gE ?_|fail)
 rw[lR d,<-p,<-a];rfl
theorem mX(m:aI)(g:aI.sml m):af Tryz.prog 76 false [.val (some 2) (aI.enc .H m)] .one (aK .own (ax m)):=by
 have h:=qB m g;cases d:de m<;>rw[d]at h
 ·refine fO 46 [] Tryz.func76 rfl ?_ (.inr (cu _))
  repeat'((conv=>whnf);first|with_reducible (first|refine Lm ?_|refine Wm ω ?_|refine Bn ?_|refine nR.wk rfl ?_)|refine Bt ?_|refine Bu ?_|refine C4 h ?_)
  all_goals(rw[qx d];exact⟨rfl,trivial⟩)
 obtain⟨D,E,F⟩:=ib d;refine fO 46 [] Tryz.func76 rfl ?_ (.inr (cu _))
 repeat'(first|refine gP ?_|(conv=>whnf);first|refine C4 h ?_)
 (conv=>whnf)
 refine C8 (ι:=Nat × List Int) (λi=>[(1,.F .box (aI.enc .H m)),(3,.F .one (aK .own i.2)),(15,.F .one (d5 .H m.Q)),(16,.F .one [I (m.Q.length)]),(17,.F .one [I ((i.1:Nat):Int)])]) (λi=>i.1<=m.Q.length/\i.2=flight1 m i.1/\i.2.length<=1048576*i.1) (λi=>m.Q.length - i.1) ((0,[])) ?_ (⟨N0 _,rfl,N0 _⟩) λi j=>?_
 ·exact wB
 obtain⟨i,S⟩:=i;obtain⟨j,o,q⟩:=j;simp only at j o q |-;by_cases p:i<m.Q.length
 ·have t:=ao p
  have u:(nth m.Q i).length<=1048576:=(g.1.2 _ (aF p)).1
  repeat'(first|refine gE ?_|(conv=>whnf);first|with_reducible refine C6 (ab t) ?_)
  (conv=>whnf)
  refine C8 (ι:=Nat × List Int) (λk=>[(1,.F .box (aI.enc .H m)),(3,.F .one (aK .own k.2)),(15,.F .one (d5 .H m.Q)),(16,.F .one [I (m.Q.length)]),(17,.F .one [I ((i:Nat):Int)]),(21,.F .one (bV .H (nth m.Q i))),(22,.F .one [I ((nth m.Q i).length)]),(23,.F .one [I ((k.1:Nat):Int)])]) (λk=>k.1<=(nth m.Q i).length/\k.2=S++((nth m.Q i).take k.1).map (·.Z)) (λk=>(nth m.Q i).length - k.1) ((0,S)) ?_ ψ λk b=>?_
  ·exact wB
  obtain⟨k,c⟩:=k;obtain⟨b,a⟩:=b;simp only at b a |-;have w:c.length=S.length+k:=ψ
  by_cases e:k<(nth m.Q i).length
  ·have l:=ao e
   repeat'(first|refine gE ?_|(conv=>whnf);first|with_reducible refine C6 (ab l) ?_|refine CI cJ (λr y=>by rw[T0.1 y];rfl) (by simp[aQ,cW]) (by simp;omega) (by show _*8<=_;simp;omega) rfl ?_)
   ((conv=>whnf)
    refine C7 (k+1,c++[(nth (nth m.Q i) k).Z]) ⟨(by simp only;omega),(by grind [U2])⟩ (by simp only;omega) ?_
    (repeat'(first|exact trivial|rfl|exact C5 rfl (C5 (O0 (C.s dm.own) (by simp[rI])) trivial)|refine C5 ?_ ?_)))
  obtain rfl:k=(nth m.Q i).length:=ω
  rw[P2]at a
  repeat'(first|refine gE ?_|fail)
  ((conv=>whnf);refine C7 (i+1,c) ⟨(by simp only;omega),(by grind [jT]),(by simp only;omega)⟩ (by simp only;omega) ?_;(exact wB))
 obtain rfl:i=m.Q.length:=ω
 repeat'(first|refine gE ?_|fail)
 (conv=>whnf)
 refine C8 (ι:=Nat × List Int) (λk=>[(3,.F .one (aK .own k.2)),(35,.F .one (dn .H m.e)),(36,.F .one [I (m.e.length)]),(37,.F .one [I ((k.1:Nat):Int)])]) (λk=>k.1<=m.e.length/\k.2=S++flight2 m k.1/\k.2.length<=S.length+1048576*k.1) (λk=>m.e.length - k.1) ((0,S)) ?_ (⟨N0 _,by simp[flight2],by simp⟩) λk b=>?_
 ·exact wB
 obtain⟨k,c⟩:=k;obtain⟨b,a,n⟩:=b;simp only at b a n |-;by_cases e:k<m.e.length
 ·have l:=ao e
  have B:(nth m.e k).length<=1048576:=g.2.2 _ (aF e)
  repeat'(first|refine gE ?_|(conv=>whnf);first|with_reducible refine C6 (ab l) ?_|refine CI cJ xl (λ_=>A2) (by simp;omega) (by show _*8<=_;simp;omega) rfl ?_)
  ((conv=>whnf)
   refine C7 (k+1,c++nth m.e k) ⟨(by simp only;omega),(by grind [ka]),ψ⟩ (by simp only;omega) ?_
   (repeat'(first|exact trivial|rfl|exact C5 rfl (C5 (O0 (C.s dm.own) (by simp[rI])) trivial)|refine C5 ?_ ?_)))
 obtain rfl:k=m.e.length:=ω
 repeat'(first|refine gE ?_|fail)
 rw[lR d,<-o,<-a];rfl
def tbl(h:ac):az:=h.X.R.a
def fe(h:ac):Nat:=h.X.R.a.K.length
def rr(xs:List ah)(i:Nat):Bool:=decide (i=0\/(nth xs (i - 1)).M<(nth xs i).M)
def rJ(xs:List am)(i:Nat):Bool:=decide (i=0\/(nth xs (i - 1)).M<(nth xs i).M)
def rT(h:ac)(l:am)(k:Nat):Bool:=decide ((aG h (l.M+(k:Nat))).length=1)
def oV(h:ac)(i:Nat):Bool:=rJ h.J i&&cB (nth h.J i).i.toNat (rT h (nth h.J i))
def qM(h:ac)(p:Nat):Bool:=decide ((nth (tbl h).K p).o≠0↔(p:Int)∈pgs h.G h.J)&&(decide ((nth (tbl h).K p).o≠0) != h.p.any (qC (p:Nat)))
def pages0(h:ac):Bool:=((cB h.G.length (rr h.G)&&cB h.J.length (oV h))&&(pgs h.G h.J).all λp=>decide (p<fe h))&&cB (fe h) (qM h)
def jh(h:ac)(i:Nat)(q:Int):Bool:=decide (dE h q=(i:Nat)) || (decide (0<=dE h q)&&meshable (nth h.G i) (nth h.G (dE h q).toNat))
def oF(h:ac):Bool:=cB h.G.length λi=>(aG h (nth h.G i).M).all (jh h i)
def jn(h:ac)(i j:Nat):Bool:=decide ((aZ (tbl h) (nth h.G i).M).j≠(aZ (tbl h) (nth h.G j).M).j) || meshable (nth h.G i) (nth h.G j)
def lI(h:ac):Bool:=cB h.G.length λi=>cB i (jn h i)
def gG(z:Int)(o:bg):Bool:=decide (o.Id=z)
def fJ(h:ac)(o:bg):Bool:=
 let w:=denotes h.G h.J o.Z
 decide (w.b3=0)&&((decide (w.a7=1)&&decide ((nth h.G w.a5.toNat).T=cO o.g)) || (decide (w.a7=3)&&decide ((nth h.J w.a5.toNat).g=o.g)))
def eG(a:Int)(h:ac)(i:Nat):Bool:=decide ((i=0\/(nth h.S (i - 1)).Z<(nth h.S i).Z)/\1<=(nth h.S i).Id/\(nth h.S i).Id<=a/\0<=(nth h.S i).a3/\(nth h.S i).a3<=h.O.length - 1)
def gU(a:Int)(h:ac)(i:Nat):Bool:=(eG a h i&&!(h.S.take i).any (gG (nth h.S i).Id))&&fJ h (nth h.S i)
def dK(h:ac):Bool:=cB h.S.length (gU (IntKind.i64.wrap (h.q - 1)) h)
def ct(h:ac)(a c:Int):Bool:=
 let w:=denotes h.G h.J a
 (decide (w.a7=1)&&decide (w.b3=0))&&(decide (c<0) || decide ((nth h.G w.a5.toNat).T=c))
def oW(h:ac)(c:ar)(k:Nat):Bool:=(nth c.W k).all λa=>ct h a (k:Nat)
def d8(h:ac)(c:ar):Bool:=cB c.W.length (oW h c)
def eS(h:ac)(x:ay):Bool:=ct h x.Z x.T
def gh(h:ac)(a:Int):Bool:=ct h a (-1)
def i6(h:ac):List Int:=h.O.flatMap λc=>c.W.flatten
def fQ(h:ac):Bool:=((h.O.all (d8 h))&&h.b.d.all (eS h))&&(ax h.Y).all (gh h)
def holders(h:ac):List Int:=((h.S.map (·.Z)++i6 h)++h.b.d.map (·.Z))++ax h.Y
def gL(sp:List ah)(la:List am)(a:Nat):Bool:=
 let w:=denotes sp la (a:Nat)
 decide (w.b3=0)&&(decide (w.a7=1) || decide (w.a7=3))
def iW(sp:List ah)(la:List am)(n:Nat):List Int:=((List.range n).filter (gL sp la)).map λ(i:Nat)=>(i:Int)
def gr(sp:List ah)(la:List am):List Int:=iW sp la 512
def fS(h:ac):Bool:=(fQ h&&decide (holders h).Nodup)&&decide ((holders h).length=(gr h.G h.J).length)
def iX(h:ac):Bool:=h.b.d.all λx=>decide (x.y<=h.b0)
def fp(h:ac):Bool:=decide (0<=h.c0/\h.c0<=1073741823/\0<=h.b0/\h.b0<=1000000/\0<=h.c1/\h.c1<=1000/\1<=h.q/\h.q<=1000000)
def o6(h:ac):Bool:=if h.a0 then(oE h.r&&decide (0<=dE h h.r.h.a4))&&decide (0<=dE h h.r.h.a1) else xc h.r
def iv(h:ac):Bool:=((dh h.X&&cr (fe h) h.p)&&bb h.G h.J)&&pages0 h
end Go.Proofs.YtjooeakgbamfnaaGreatDoor.Ab
