/- A job begun: walks. No condition. (wkR) -/
import Derived.Test.YtembpgjjnioagaaGreatJd
import Derived.Test.YtembpgjjnioagaaGreatJf
import Derived.Test.YtembpgjjnioagaaGreatJe
set_option linter.unusedVariables false
set_option linter.unusedSimpArgs false
set_option linter.constructorNameAsVariable false
namespace Go.Proofs.YtembpgjjnioagaaGreat.Ab
open Go.RowKit
set_option maxRecDepth 20000
set_option maxHeartbeats 4000000
theorem Kw{h:ab}{E:List Int}(a:bn h E):h.Spans.length<=32/\dQ h<=32/\yb h/\∀s∈h.Spans,s.Bits<=9223372036854775807:=by
 have b:=a.lens;refine⟨b.spans,b.ents,?_,λs c=>by have:=dU (a.L.sok s c);omega⟩;have:=(bt a.ker).1.2;exact this
theorem Fa(h:ab):(bN h).length<=16:=by unfold bN;rw[O1];omega
theorem Pi(x:List fK)(z:Int):d9 (iW .own x++[I z])=iW .imm x++[I z]:=by
 have h:=Fn x;rw[bW]at h |-;rw[v5,h];simp[fz]
theorem NE(h:ab):(bN h).map (au.enc .imm)=((mz h).map (au.enc .imm)).take 16:=X3
theorem Fh(p:co)(b:eG p=true)(c:co.sml p):ao Tryz.prog 367 false [.val (some 3) (co.enc .imm p)] (.tup [some 5,none]) (xk (vN p)++[B true]):=by
 have h:=(Ec p b c).fzR;have e:d9 (cn.enc .own (vN p)++[B true])=xk (vN p)++[B true]:=by
  have a:=cn.enc_fz (vN p);rw[bW]at a |-;rw[v5,a];simp[fz,cn.enc,xk]
 rwa [e]at h
theorem yf(h:ab)(w:bn h []):aQ Tryz.prog 307 false [.ptr (b6 h)] [.ptr (b6 (started h).1)] .one [B (started h).2]:=by
 obtain⟨w1,Q,H,J⟩:=Kw w;have a:=w.nums;unfold cg at a;rw[C0]at a;have e:=(wH h H ω ω J).fzR;rw[dC]at e;have o:=Fa h;have b:=(un (bN h) h.Seed ⟨a.1,a.2.1⟩ o).fzR;rw[Pi]at b;have g:=pH (bN h) ⟨a.1,a.2.1⟩;have K:=we h h.Spans.length;have y:(mz h).length<=32:=by unfold mz;omega
 have j:=NE h;unfold started;cases C:lR (bN h) h.Seed with
 | nil=>
  rw[C]at b;by_cases L:16<(mz h).length
  ·refine fM 62 [] [(8,275,[34,35,36,37,38,39,40,41,42,43,44,45,46,47,48,33,49,50,6,0,1,2,3,4,5,6,7,8,9,10,11,12,13,14,15,16,17,18,19,1017,20])] [(0,0)] Tryz.func307 rfl (λu q=>?_)
   repeat'(first|refine gD ?_|(conv=>whnf);first|refine CA ?_|refine CD (e) ⟨⟨rfl,bB h⟩,trivial⟩ ?_|refine C7 (b) ?_|refine CT 16 rfl (by rw[X0];omega) (aK λ_=>rfl) j ?_)
   refine CF rfl rfl ?_;exact wC
  ·have k:bN h=mz h:=by unfold bN;exact C6 ω
   rw[k]at b;refine fM 62 [] [(8,275,[34,35,36,37,38,39,40,41,42,43,44,45,46,47,48,33,49,50,6,0,1,2,3,4,5,6,7,8,9,10,11,12,13,14,15,16,17,18,19,1017,20])] [(0,0)] Tryz.func307 rfl (λu q=>?_);rw[k]
   repeat'(first|refine gD ?_|(conv=>whnf);first|refine CA ?_|refine CD (e) ⟨⟨rfl,bB h⟩,trivial⟩ ?_|refine C7 (b) ?_)
   refine CF rfl rfl ?_;exact wC
 | cons q M=>
  rw[C]at b g;obtain⟨E,F,G⟩:=g q (R1 ..);obtain⟨N,O,P⟩:=sw G;have p:=xF _ _ G O P;have t:=Fh _ N (Fw _ _);have c:=ah (xs:=bN h) (i:=q.A.toNat) ω;have d:=ah (xs:=bN h) (i:=q.B.toNat) ω;have l:(q::M)[0]? = some q:=rfl;by_cases L:16<(mz h).length
  ·refine fM 62 [] [(8,275,[34,35,36,37,38,39,40,41,42,43,44,45,46,47,48,33,49,50,6,0,1,2,3,4,5,6,7,8,9,10,11,12,13,14,15,16,17,18,19,1017,20])] [(0,0)] Tryz.func307 rfl (λu r=>?_)
   repeat'(first|refine gD ?_|(conv=>whnf);first|with_reducible refine Bf.D (λn=>absurd n (by simp)) (λn=>?_)|refine CA ?_|refine CD (e) ⟨⟨rfl,bB h⟩,trivial⟩ ?_|refine C7 (b) ?_|refine CT 16 rfl (by rw[X0];omega) (aK λ_=>rfl) j ?_|refine CK (by decide) (aa l) ?_|refine CK E.1 (aa c) ?_|refine CK F.1 (aa d) ?_|refine C7 (p) ?_|refine CD (t) ⟨⟨rfl,co.enc_fz _⟩,trivial⟩ ?_|refine CA ?_)
   refine CF rfl rfl ?_;exact wC
  ·have k:bN h=mz h:=by unfold bN;exact C6 ω
   rw[k]at b p t c d;refine fM 62 [] [(8,275,[34,35,36,37,38,39,40,41,42,43,44,45,46,47,48,33,49,50,6,0,1,2,3,4,5,6,7,8,9,10,11,12,13,14,15,16,17,18,19,1017,20])] [(0,0)] Tryz.func307 rfl (λu r=>?_);rw[k]
   repeat'(first|refine gD ?_|(conv=>whnf);first|with_reducible refine Bf.D (λn=>absurd n (by simp)) (λn=>?_)|refine CA ?_|refine CD (e) ⟨⟨rfl,bB h⟩,trivial⟩ ?_|refine C7 (b) ?_|refine CK (by decide) (aa l) ?_|refine CK E.1 (aa c) ?_|refine CK F.1 (aa d) ?_|refine C7 (p) ?_|refine CD (t) ⟨⟨rfl,co.enc_fz _⟩,trivial⟩ ?_|refine CA ?_)
   refine CF rfl rfl ?_;exact wC
def cS(k:af):af:={k with Calls:=k.Calls+1}
def refd(k:af):Bool:=decide (k.Calls∈k.Refuse)
def qG(k:af)(p:Int)(m:Int):af:={k with Machine:=⟨k.Machine.Frames,⟨k.Machine.Table.Entries.set p.toNat {nth k.Machine.Table.Entries p.toNat with Mode:=m}⟩⟩}
def jg(k:af)(p m:Int):af × Bool:=if refd k=true then(cS k,false) else(qG (cS k) p m,true)
theorem HL(k:af)(p m:Int):af.enc .own (qG k p m)=(af.enc .own k).set 2 (.s .own ((k.Machine.Table.Entries.map (bh.enc .own)).set p.toNat (bh.enc .own {nth k.Machine.Table.Entries p.toNat with Mode:=m}))):=by
 simp[af.enc,qG,O5]
theorem row16{k:af}(a:aB k=true){f:Nat}(b:f<k.Machine.Frames.Cells.length):(nth k.Machine.Frames.Cells f).length=16:=by
 have:=(aY.1 (aC.1 a).2.1).2.2.2 f b;unfold gX at this;simp only[I0,C0]at this;omega
def setCell(k:af)(f:Nat)(c v:Int):af:={k with Machine:=⟨⟨k.Machine.Frames.Cells.set f ((nth k.Machine.Frames.Cells f).set c.toNat v),k.Machine.Frames.Used⟩,k.Machine.Table⟩}
theorem DQ(k:af)(f:Nat)(c v:Int):af.enc .own (setCell k f c v)=(af.enc .own k).set 0 (.s .own ((k.Machine.Frames.Cells.map (aD .own)).set f [.s .own (((nth k.Machine.Frames.Cells f).map (rI .own)).set c.toNat [I v])])):=by
 simp[af.enc,setCell,O5,aD,rI]
def mA(k:af)(p:Int):Nat:=(ar k.Machine.Table p).Frame.toNat
def xp(k:af)(a b c:Int):af:=setCell k (mA k b) c (nth (nth k.Machine.Frames.Cells (mA k a)) c.toNat)
def N9(k:af)(a b c:Int):Nat->af
 | 0=>k
 | _+1=>xp k a b c
def vA(k:af)(p:Nat)(e:bh):af:={k with Machine:=⟨k.Machine.Frames,⟨k.Machine.Table.Entries.set p e⟩⟩}
theorem KB(k:af)(p:Nat)(e:bh):af.enc .own (vA k p e)=(af.enc .own k).set 2 (.s .own ((k.Machine.Table.Entries.map (bh.enc .own)).set p (bh.enc .own e))):=by
 simp[af.enc,vA,O5]
theorem Kr{k:af}(p:Nat)(e:bh)(h:aG.sml k.Machine.Table):aG.sml (vA k p e).Machine.Table:=by
 refine⟨?_,λx _=>trivial⟩;show(k.Machine.Table.Entries.set p e).length<=_;rw[I1];exact h.1
def yS(k:af)(p o:Int):af × Bool:=if refd k=true then(cS k,false) else(fQ (vA (cS k) p.toNat ⟨2,(nth k.Machine.Table.Entries o.toNat).Frame⟩) (nth k.Machine.Table.Entries p.toNat).Frame,true)
def jp(m:aS)(a v:Int):aS × Int:=
 if(ar m.Table (a / 16)).Mode=0 then(m,1) else if(ar m.Table (a / 16)).Mode=1 then(m,2) else
 (⟨⟨m.Frames.Cells.set (ar m.Table (a / 16)).Frame.toNat ((nth m.Frames.Cells (ar m.Table (a / 16)).Frame.toNat).set (a % 16).toNat v),m.Frames.Used⟩,m.Table⟩,0)
theorem EL(m:aS)(f:Nat)(c v:Int):aS.enc .own ⟨⟨m.Frames.Cells.set f ((nth m.Frames.Cells f).set c.toNat v),m.Frames.Used⟩,m.Table⟩ = (aS.enc .own m).set 0 (.s .own ((m.Frames.Cells.map (aD .own)).set f [.s .own (((nth m.Frames.Cells f).map (rI .own)).set c.toNat [I v])])):=by
 simp[aS.enc,O5,aD,rI]
def jmay(k:af)(j:cn):Bool:=(aB k&&decide (k.Calls≠100000))&&(ja j&&decide ((ar k.Machine.Table j.Plan.Keep).Mode≠0/\(ar k.Machine.Table j.Plan.Move).Mode≠0/\(ar k.Machine.Table j.Plan.Keep).Frame≠(ar k.Machine.Table j.Plan.Move).Frame))
def jstep(k:af)(j:cn):af × cn:=
 if j.Phase=0 then((jg k j.Plan.Move 1).1,{j with Phase:=if(jg k j.Plan.Move 1).2=true then 1 else 5})
 else if j.Phase=1 then(if j.Next=j.Plan.Cells.length then(k,{j with Phase:=2}) else(xp k j.Plan.Move j.Plan.Keep (nth j.Plan.Cells j.Next.toNat),{j with Next:=j.Next+1}))
 else if j.Phase=2 then((yS k j.Plan.Move j.Plan.Keep).1,{j with Phase:=if(yS k j.Plan.Move j.Plan.Keep).2=true then 4 else 3})
 else if j.Phase=3 then(if 0<j.Next then({k with Machine:=(jp k.Machine (j.Plan.Keep*16+nth j.Plan.Cells (j.Next - 1).toNat) 0).1},{j with Next:=j.Next - 1}) else((jg k j.Plan.Move 2).1,{j with Phase:=if(jg k j.Plan.Move 2).2=true then 5 else 3}))
 else(k,j)
theorem Lj{k:af}{f:Int}(h1:∀j,j<k.Refuse.length->0<=nth k.Refuse j)(d:df k.Machine.Frames=true)(g:fL k.Machine.Table k.Machine.Frames.Used.length=true)(h:∀j:Nat,j<k.Machine.Frames.Used.length->(j:Int)≠f->nth k.Machine.Frames.Used j=decide (0<(pagesOn k.Machine.Table (j:Int)).length))(t:0<=f/\f<k.Machine.Frames.Used.length)(l:nth k.Machine.Frames.Used f.toNat=true)(i:0<=k.Calls/\k.Calls<=100000/\k.Refuse.length<=40):aB (fQ k f)=true:=by
 obtain⟨n,o,p,q⟩:=aY.1 d;unfold fQ;split
 ·rename_i c
  rw[aC];simp only[I1];refine⟨h1,?_,g,λj b=>?_,i⟩
  ·rw[aY]
   simp only[I1,ci];refine⟨n,o,p,λj b=>?_⟩;by_cases a:f.toNat=j
   ·rw[C9 ⟨a,b⟩,C9 ⟨a,ω⟩];decide
   ·rw[C8 (λe=>a e.1),C8 (λe=>a e.1)];exact q j b
  ·rw[ci]
   by_cases a:f.toNat=j
   ·rw[C9 ⟨a,b⟩]
    have:(j:Int)=f:=ω
    rw[this];exact(R0 λr=>absurd c (Nat.ne_of_gt r)).symm
   ·rw[C8 (λe=>a e.1)];exact h j b ω
 ·rename_i c
  rw[aC];refine⟨h1,d,g,λj b=>?_,i⟩;by_cases a:(j:Int)=f
  ·rw[a,show j=f.toNat by omega,l]
   exact(O0 (Nat.pos_of_ne_zero c)).symm
  ·exact h j b a
def tEq(t a:aG):Prop:=a.Entries.length=t.Entries.length/\∀q:Nat,((nth a.Entries q).Mode≠0↔(nth t.Entries q).Mode≠0)/\(nth a.Entries q).Frame=(nth t.Entries q).Frame
theorem tEq.refl(t:aG):tEq t t:=⟨rfl,λ_=>⟨Iff.rfl,rfl⟩⟩
theorem tEq.of{t a:aG}(h:a=t):tEq t a:=by rw[h];exact tEq.refl t
theorem tEq.pagesOn{t a:aG}(h:tEq t a)(f:Int):Ab.pagesOn a f=Ab.pagesOn t f:=by
 unfold Ab.pagesOn jb;rw[h.1]
 congr 1
 refine List.filter_congr λq _=>?_
 obtain⟨b,c⟩:=h.2 q;unfold Jx;rw[c];exact decide_eq_decide.2 (and_congr b Iff.rfl)
theorem AQ{k:af}(h:aB k=true){a:aG}(c:tEq k.Machine.Table a)(i:∀q,q<a.Entries.length->0<=(nth a.Entries q).Mode/\(nth a.Entries q).Mode<=2):aB {k with Machine:=⟨k.Machine.Frames,a⟩} = true:=by
 obtain⟨l,n,o,p,r⟩:=aC.1 h;obtain⟨t,u,w⟩:=bx.1 o;rw[aC];refine⟨l,n,bx.2 ⟨λj b=>?_,?_,?_⟩,λj b=>?_,r⟩
 ·replace b:j<a.Entries.length:=b
  have e:=t j (by rw[<-c.1];exact b);have d:=i j b;obtain⟨g,y⟩:=c.2 j;show kb _ (nth a.Entries j)=true;unfold kb at e |-;rw[C0]at e |-;rw[y];refine⟨d.1,d.2,λf=>e.2.2.1 (Classical.byContradiction λA=>(g.2 A) f),λf=>e.2.2.2 (g.1 f)⟩
 ·show 1<=a.Entries.length;rw[c.1];exact u
 ·show a.Entries.length<=32;rw[c.1];exact w
 ·show nth k.Machine.Frames.Used j=decide (0<(Ab.pagesOn a (j:Int)).length)
  rw[c.pagesOn];exact p j b
theorem lA{k:af}(h:aB k=true)(f:k.Calls≠100000):aB (cS k)=true:=by
 obtain⟨a,b,c,d,g,i,e⟩:=aC.1 h;rw[aC];exact⟨a,b,c,d,by show 0<=k.Calls+1;omega,by show k.Calls+1<=100000;omega,e⟩
theorem sF{k:af}{p m:Int}(a:(nth k.Machine.Table.Entries p.toNat).Mode≠0)(b:m=1\/m=2):tEq k.Machine.Table (qG k p m).Machine.Table:=by
 refine⟨by simp[qG],λq=>?_⟩;simp only[qG,ci];split
 ·rename_i e
  rw[<-e.1];exact⟨⟨λ_=>a,λ_=>by show m≠0;omega⟩,rfl⟩
 ·exact⟨Iff.rfl,rfl⟩
theorem KK{k:af}(h:aB k=true){p m:Int}(d:(nth k.Machine.Table.Entries p.toNat).Mode≠0)(a:m=1\/m=2):aB (qG k p m)=true:=by
 refine AQ h (sF d a) λq e=>?_
 obtain⟨i,j,f,l,n⟩:=aC.1 h;obtain⟨g,o,r⟩:=bx.1 f;have c:q<k.Machine.Table.Entries.length:=by rw[<-(sF d a).1];exact e
 have b:=g q c;unfold kb at b;rw[C0]at b;simp only[ci];split
 ·show 0<=m/\m<=2;omega
 ·exact⟨b.1,b.2.1⟩
theorem D7{k:af}{p m:Int}(h:aB k=true)(c:k.Calls≠100000)(b:(ar k.Machine.Table p).Mode≠0)(a:m=1\/m=2):aB (jg k p m).1=true/\tEq k.Machine.Table (jg k p m).1.Machine.Table:=by
 obtain⟨e,f,d,-⟩:=cm h b;rw[d]at b;unfold jg;split
 ·exact⟨lA h c,tEq.refl _⟩
 ·exact⟨KK (lA h c) b a,sF (k:=cS k) b a⟩
theorem iP{k:af}(h:aB k=true){p:Int}(b:(ar k.Machine.Table p).Mode≠0):mA k p<k.Machine.Frames.Cells.length/\nth k.Machine.Frames.Used (mA k p)=true/\((mA k p:Nat):Int)=(nth k.Machine.Table.Entries p.toNat).Frame:=by
 obtain⟨f,g,a,i,j⟩:=cm h b;obtain⟨l,d,n,e,o⟩:=aC.1 h;obtain⟨q,r,t,u⟩:=aY.1 d;have c:((mA k p:Nat):Int)=(ar k.Machine.Table p).Frame:=by unfold mA;omega
 refine⟨ω,?_,by rw[c,a]⟩;rw[e _ ω,c];refine O0 (ew.2 ⟨p.toNat,ω,?_,?_⟩)
 ·rw[<-a];exact b
 ·rw[<-a]
theorem J1{k:af}(h:aB k=true){f:Nat}{a:List Int}(c:a.length=16)(d:∀v∈a,0<=v/\v<=999)(g:nth k.Machine.Frames.Used f=true):aB {k with Machine:=⟨⟨k.Machine.Frames.Cells.set f a,k.Machine.Frames.Used⟩,k.Machine.Table⟩} = true:=by
 obtain⟨i,l,n,o,p⟩:=aC.1 h;obtain⟨q,r,t,u⟩:=aY.1 l;refine aC.2 ⟨i,aY.2 ⟨?_,?_,?_,λj b=>?_⟩,n,o,p⟩
 ·simp only[I1];exact q
 ·simp only[I1];exact r
 ·simp only[I1];exact t
 ·simp only[I1]at b |-
  simp only[ci];split
  ·rename_i e
   obtain⟨rfl,-⟩:=e;unfold gX;simp only[I0,C0,V3];refine⟨c,λv w=>?_⟩;have:=d v w;unfold iI;simp[g,this]
  ·exact u j b
theorem zU{k:af}(h:aB k=true){f:Nat}(b:f<k.Machine.Frames.Cells.length):(nth k.Machine.Frames.Cells f).length=16/\∀v∈nth k.Machine.Frames.Cells f,0<=v/\v<=999:=by
 obtain⟨g,c,i,j,l⟩:=aC.1 h;obtain⟨n,o,p,d⟩:=aY.1 c;have a:=d f b;unfold gX at a;simp only[I0,C0,V3]at a;refine⟨a.1,λv e=>?_⟩;have:=a.2 v e;unfold iI at this;simp only[I0,C0]at this;exact this.1
theorem qi{k:af}(h:aB k=true){f:Nat}(b:f<k.Machine.Frames.Cells.length)(d:nth k.Machine.Frames.Used f=true){c v:Int}(e:0<=v/\v<=999):aB (setCell k f c v)=true:=by
 obtain⟨g,i⟩:=zU h b;refine J1 h (by rw[I1];exact g) (λz a=>?_) d;rcases U5 a with a|rfl
 ·exact i z a
 ·exact e
theorem Lh{k:af}(h:aB k=true){a b c:Int}(d:(ar k.Machine.Table a).Mode≠0)(e:(ar k.Machine.Table b).Mode≠0)(l:0<=c/\c<=15):aB (xp k a b c)=true:=by
 obtain⟨f,n,-⟩:=iP h d;obtain⟨g,i,-⟩:=iP h e;obtain⟨o,j⟩:=zU h f;exact qi h g i (j _ (am ω))
theorem Pw{k:af}{p o:Int}(h:aB k=true)(u:k.Calls≠100000)(i:(ar k.Machine.Table p).Mode≠0)(d:(ar k.Machine.Table o).Mode≠0)(w:p≠o):aB (yS k p o).1=true:=by
 unfold yS;split
 ·exact lA h u
 obtain⟨O,y,A⟩:=iP h i;obtain⟨P,Q,R⟩:=iP h d;obtain⟨S,T,B,r,t⟩:=cm h i;obtain⟨U,V,C,D,E⟩:=cm h d;obtain⟨F,G,H,J,W,X,K⟩:=aC.1 h;obtain⟨L,M,N⟩:=bx.1 H;rw[C]at D E d;rw[B]at r t i;have a:∀q,nth (k.Machine.Table.Entries.set p.toNat ⟨2,(nth k.Machine.Table.Entries o.toNat).Frame⟩) q=if p.toNat=q then⟨2,(nth k.Machine.Table.Entries o.toNat).Frame⟩ else nth k.Machine.Table.Entries q:=λq=>by
  rw[ci];by_cases f:p.toNat=q
  ·rw[C9 ⟨f,ω⟩,C9 f]
  ·rw[C8 (λe=>f e.1),C8 f]
 refine Lj F G (bx.2 ⟨λj c=>?_,?_,?_⟩) (λj c l=>?_) ⟨r,t⟩ (by rw[<-A];exact y) ⟨by show 0<=k.Calls+1;omega,by show k.Calls+1<=100000;omega,K⟩
 ·simp only[vA,cS,I1]at c |-
  rw[a];split
  ·unfold kb;rw[C0];simp only;omega
  ·exact L j c
 ·simp only[vA,cS,I1];exact M
 ·simp only[vA,cS,I1];exact N
 ·replace c:j<k.Machine.Frames.Used.length:=c
  show nth k.Machine.Frames.Used j=_;rw[J j c];refine decide_eq_decide.2 ?_;rw[ew,ew];simp only[vA,cS,I1,a];constructor
  ·rintro⟨q,n,g,b⟩
   refine⟨q,n,?_⟩;rw[C8 (λe=>l (by rw[<-b,<-e]))];exact⟨g,b⟩
  ·rintro⟨q,n,g,b⟩
   by_cases e:p.toNat=q
   ·rw[C9 e]at b
    exact⟨o.toNat,ω,d,b⟩
   ·rw[C8 e]at g b
    exact⟨q,n,g,b⟩
theorem Mr{k:af}{p o:Int}(h:aB k=true)(b:(ar k.Machine.Table p).Mode≠0)(a:(yS k p o).2=true)(q:Nat):(yS k p o).1.Machine.Table.Entries.length=k.Machine.Table.Entries.length/\nth (yS k p o).1.Machine.Table.Entries q=if(q:Int)=p then⟨2,(nth k.Machine.Table.Entries o.toNat).Frame⟩ else nth k.Machine.Table.Entries q:=by
 obtain⟨d,f,-⟩:=cm h b;unfold yS at a |-;split at a
 ·cases a
 rename_i c;rw[C8 c];simp only[(oN _ _).1];simp only[vA,cS,I1,ci];refine⟨trivial,?_⟩;by_cases e:(q:Int)=p
 ·rw[C9 ⟨ω,ω⟩,C9 e]
 ·rw[C8 λz=>e ω,C8 e]
theorem NM{k:af}{p o:Int}(a:(yS k p o).2=false):(yS k p o).1=cS k:=by
 unfold yS at a |-;split
 ·rfl
 ·rename_i b;rw[C8 b]at a;cases a
theorem Jd{k:af}{a v:Int}(h:aB k=true)(g:0<=a)(b:0<=v/\v<=999):aB {k with Machine:=(jp k.Machine a v).1} = true/\(jp k.Machine a v).1.Table=k.Machine.Table:=by
 unfold jp;split
 ·exact⟨h,rfl⟩
 rename_i d;split
 ·exact⟨h,rfl⟩
 ·obtain⟨e,f,-⟩:=iP h d
  exact⟨qi h e f (c:=a % 16) b,rfl⟩
def nB(t:aG)(p:Int):Prop:=∀q:Nat,(nth t.Entries q).Mode≠0->(nth t.Entries q).Frame=(nth t.Entries p.toNat).Frame->(q:Int)=p
structure JI(h:ab):Prop where
 ph:h.Meshing=true->0<=h.Job.Phase/\h.Job.Phase<=3
 sp:h.Meshing=true->∃a∈h.Spans,∃b∈h.Spans,a.Page=h.Job.Plan.Keep/\b.Page=h.Job.Plan.Move/\meshable a b=true
 sk:h.Meshing=true->nB (tbl h) h.Job.Plan.Keep
 sm:h.Meshing=true->nB (tbl h) h.Job.Plan.Move
theorem nB.tEq{t a:aG}{p:Int}(h:nB t p)(b:tEq t a):nB a p:=λq c d=>by
 obtain⟨e,f⟩:=b.2 q;exact h q (e.1 c) (by rw[<-f,<-(b.2 p.toNat).2];exact d)
theorem Pg.tEq{t b:aG}{c:List ay}{sp:List au}{la:List ax}(h:Pg t c sp la)(a:tEq t b):Pg b c sp la where
 one l hl p hp q hq h1 h2:=h.one l hl p hp q (by rw[<-a.1];exact hq) ((a.2 q).1.1 h1) (by rw[<-(a.2 q).2,<-(a.2 p).2];exact h2)
 bnd p hp:=by rw[a.1];exact h.bnd p hp
 own p hp:=(a.2 p).1.trans (h.own p (by rw[<-a.1];exact hp))
 fre p hp:=(a.2 p).1.trans (h.fre p (by rw[<-a.1];exact hp))
 mesh s hs u hu hne hf:=h.mesh s hs u hu hne (by rw[<-(a.2 _).2,<-(a.2 u.Page.toNat).2];exact hf)
theorem bn.step{h:ab}{E:List Int}(a:bn h E){k:af}(b:aB k=true)(c:k.Machine.Table.Entries.length=(tbl h).Entries.length)(d:Pg k.Machine.Table h.Free h.Spans h.Larges){j:cn}{m:Bool}(h1:m=true->ja j=true/\(∃s∈h.Spans,s.Page=j.Plan.Keep)/\∃s∈h.Spans,s.Page=j.Plan.Move)(e:m=false->qA j=true):bn {h with Kernel:=k,Meshing:=m,Job:=j} E:=
 {a with
   ker:=b
   rng:=by show bw ((k.Machine.Table.Entries.length:Nat):Int) h.Free=true;rw[c];exact a.rng
   pg:=d
   job:=h1
   noj:=e}
theorem qx.apart{sp:List au}{la:List ax}(b:qx sp la){s:au}(c:s∈sp){l:ax}(d:l∈la){p:Int}(a:p∈lpgs l l.Pages.toNat):s.Page≠p:=by
 unfold lpgs at a;simp only[Z3,List.mem_range]at a;obtain⟨k,e,rfl⟩:=a;exact b.dis s c l d k e
theorem Pg.on{t H:aG}{Q:List ay}{sp:List au}{la:List ax}(h:Pg t Q sp la)(r:qx sp la){a b:au}(w:a∈sp)(L:b∈sp)(R:meshable a b=true)(A:nB t a.Page)(M:(nth t.Entries a.Page.toNat).Mode≠0)(N:(nth t.Entries b.Page.toNat).Mode≠0)(U:0<=b.Page)(J:H.Entries.length=t.Entries.length)(B:∀q:Nat,nth H.Entries q=if(q:Int)=b.Page then⟨2,(nth t.Entries a.Page.toNat).Frame⟩ else nth t.Entries q):Pg H Q sp la:=by
 have c:∀q:Nat,(nth H.Entries q).Mode≠0↔(nth t.Entries q).Mode≠0:=λq=>by
  rw[B];split
  ·rename_i e
   rw[show q=b.Page.toNat by omega];exact⟨λ_=>N,λ_=>by show(2:Int)≠0;omega⟩
  ·rfl
 have V:0<=a.Page:=by have:=r.sok a w;unfold bg at this;rw[C0]at this;omega
 refine⟨λl k p g q W S C=>?_,λp g=>by rw[J];exact h.bnd p g,λp g=>(c p).trans (h.own p (by rw[<-J];exact g)),λp g=>(c p).trans (h.fre p (by rw[<-J];exact g)),λs D u E F n=>?_⟩
 ·have O:¬(p:Int)=b.Page:=λe=>r.apart L k g e.symm
  rw[B p,C8 O,B q]at C;rw[c]at S;by_cases e:(q:Int)=b.Page
  ·rw[C9 e]at C
   have T:=h.one l k p g a.Page.toNat (by have:=h.bnd _ (d2 (la:=la) w);omega) M C;exact absurd (show a.Page=(p:Int) by omega) (r.apart w k g)
  ·rw[C8 e]at C
   exact h.one l k p g q (by rw[<-J];exact W) S C
 ·have X:0<=s.Page:=by have:=r.sok s D;unfold bg at this;rw[C0]at this;omega
  have Y:0<=u.Page:=by have:=r.sok u E;unfold bg at this;rw[C0]at this;omega
  have d:∀x∈sp,∀y∈sp,x.Page=y.Page->x=y:=λx G y Z e=>by
   obtain⟨i,hi,rfl⟩:=bf G;obtain⟨j,hj,rfl⟩:=bf Z;rw[gp (f:=(·.Page)) r.nd hi hj e]
  have o:∀x∈sp,(nth t.Entries x.Page.toNat).Mode≠0:=λx G=>by
   have hx0:0<=x.Page:=by have:=r.sok x G;unfold bg at this;rw[C0]at this;omega
   refine(h.own x.Page.toNat (by have:=h.bnd _ (d2 (la:=la) G);omega)).2 ?_;rw[show((x.Page.toNat:Nat):Int)=x.Page by omega];exact d2 G
  rw[B,B]at n;simp only[show((s.Page.toNat:Nat):Int)=s.Page by omega,show((u.Page.toNat:Nat):Int)=u.Page by omega]at n;by_cases K:s.Page=b.Page
  ·rw[C9 K,C8 (λe=>F (K.trans e.symm))]at n
   have T:=A u.Page.toNat (o u E) n.symm;rw[d s D b L K,d u E a w ω,iO];exact R
  ·rw[C8 K]at n
   by_cases P:u.Page=b.Page
   ·rw[C9 P]at n
    have T:=A s.Page.toNat (o s D) n;rw[d u E b L P,d s D a w ω];exact R
   ·rw[C8 P]at n
    exact h.mesh s D u E F n
def over(j:cn):Bool:=decide (j.Phase=4\/j.Phase=5)
def iH(k:af)(j:cn):af × cn:=if jmay k j=true then jstep k j else(k,j)
def mStep(h:ab):ab:={h with Kernel:=(iH h.Kernel h.Job).1,Meshing:=if over (iH h.Kernel h.Job).2=true then false else h.Meshing,Job:=if over (iH h.Kernel h.Job).2=true then⟨⟨0,0,[]⟩,0,0⟩ else(iH h.Kernel h.Job).2}
def BQ(h:ab):Bool:=decide ((iH h.Kernel h.Job).2.Phase=4)
theorem ek{j:cn} : ja j=true↔eG j.Plan=true/\0<=j.Phase/\j.Phase<=5/\0<=j.Next/\j.Next<=j.Plan.Cells.length:=by
 unfold ja;simp only[I0,C0]
theorem lv{p:co}(h:eG p=true){i:Nat}(a:i<p.Cells.length):0<=nth p.Cells i/\nth p.Cells i<=15:=by
 unfold eG at h;simp only[I0]at h;have:=dH h.1 a;unfold mJ at this;rw[C0]at this;exact⟨this.1,this.2.1⟩
structure JS(h:ab)(k:af)(j:cn):Prop where
 ker:aB k=true
 len:k.Machine.Table.Entries.length=(tbl h).Entries.length
 pg:j.Phase≠4\/JI h->Pg k.Machine.Table h.Free h.Spans h.Larges
 ph:0<=j.Phase/\j.Phase<=5
 plan:j.Plan=h.Job.Plan
 nxt:0<=j.Next/\j.Next<=j.Plan.Cells.length
 eq:j.Phase≠4->tEq (tbl h) k.Machine.Table
 calls:h.Kernel.Calls<=k.Calls/\k.Calls<=h.Kernel.Calls+1/\k.Refuse=h.Kernel.Refuse
theorem wb(k:af)(p m:Int):(jg k p m).1.Calls=k.Calls+1/\(jg k p m).1.Refuse=k.Refuse:=by
 unfold jg;split<;>exact⟨rfl,rfl⟩
theorem Kv(k:af)(p o:Int):(yS k p o).1.Calls=k.Calls+1/\(yS k p o).1.Refuse=k.Refuse:=by
 unfold yS;split
 ·exact⟨rfl,rfl⟩
 ·obtain⟨-,a,b,-⟩:=oN (vA (cS k) p.toNat ⟨2,(nth k.Machine.Table.Entries o.toNat).Frame⟩) (nth k.Machine.Table.Entries p.toNat).Frame
  simp only[a,b];exact⟨rfl,rfl⟩
theorem JS.of{h:ab}{E:List Int}(c:bn h E)(B:h.Meshing=true):JS h (iH h.Kernel h.Job).1 (iH h.Kernel h.Job).2:=by
 obtain⟨R,-,-⟩:=c.job B;obtain⟨O,y,A,o,p⟩:=ek.1 R;unfold iH;split
 case isFalse=>exact⟨c.ker,rfl,λ_=>c.pg,⟨y,A⟩,rfl,⟨o,p⟩,λ_=>tEq.refl _,T4 _,by show h.Kernel.Calls<=h.Kernel.Calls+1;omega,rfl⟩
 rename_i d;unfold jmay at d;simp only[I0,C0]at d;obtain⟨⟨-,C⟩,-,u,r,D⟩:=d;have fin:∀(k:af)(j:cn),aB k=true->tEq (tbl h) k.Machine.Table->0<=j.Phase/\j.Phase<=5->j.Plan=h.Job.Plan->0<=j.Next/\j.Next<=j.Plan.Cells.length->h.Kernel.Calls<=k.Calls/\k.Calls<=h.Kernel.Calls+1/\k.Refuse=h.Kernel.Refuse->JS h k j:=
  λk j S F T U V W=>⟨S,F.1,λ_=>c.pg.tEq F,T,U,V,λ_=>F,W⟩
 have P:=(aC.1 c.ker).2.2.2.2;unfold jstep;split
 ·obtain⟨l,w⟩:=D7 c.ker C r (m:=1) (.inl rfl)
  obtain⟨g,t⟩:=wb h.Kernel h.Job.Plan.Move 1;refine fin _ _ l w ?_ rfl ⟨o,p⟩ ⟨by rw[g];omega,by rw[g];omega,t⟩;show 0<=(if _ then _ else _:Int)/\(if _ then _ else _:Int)<=5;split<;>omega
 split
 ·split
  ·exact fin _ _ c.ker (tEq.refl _) ⟨by show(0:Int)<=2;omega,by show(2:Int)<=5;omega⟩ rfl ⟨o,p⟩ ⟨T4 _,by show h.Kernel.Calls<=h.Kernel.Calls+1;omega,rfl⟩
  ·have n:=lv O (i:=h.Job.Next.toNat) ω
   refine fin _ _ (Lh c.ker r u n) (tEq.refl _) ⟨y,A⟩ rfl ⟨by show 0<=h.Job.Next+1;omega,by show h.Job.Next+1<=h.Job.Plan.Cells.length;omega⟩ ⟨T4 _,by show h.Kernel.Calls<=h.Kernel.Calls+1;omega,rfl⟩
 split
 ·have G:h.Job.Plan.Move≠h.Job.Plan.Keep:=λe=>D (by rw[e])
  have l:=Pw c.ker C r u G;obtain⟨g,t⟩:=Kv h.Kernel h.Job.Plan.Move h.Job.Plan.Keep;cases e:(yS h.Kernel h.Job.Plan.Move h.Job.Plan.Keep).2 with
  | false=>
   rw[C8 (by simp)];refine fin _ _ l (tEq.of ?_) ⟨by show(0:Int)<=3;omega,by show(3:Int)<=5;omega⟩ rfl ⟨o,p⟩ ⟨by rw[g];omega,by rw[g];omega,t⟩;rw[NM e];rfl
  | true=>
   rw[C9 rfl];obtain⟨X,m2,Y,-⟩:=cm c.ker r;obtain⟨n1,n2,Z,-⟩:=cm c.ker u;have f:=Mr c.ker r e;refine⟨l,(f 0).1,λH=>?_,⟨by show(0:Int)<=4;omega,by show(4:Int)<=5;omega⟩,rfl,⟨o,p⟩,λJ=>absurd rfl J,by rw[g];omega,by rw[g];omega,t⟩;have Q:JI h:=H.elim (λJ=>absurd rfl J) id;obtain⟨a,ha,b,hb,K,M,N⟩:=Q.sp B;refine c.pg.on c.L ha hb N (by rw[K];exact Q.sk B) (by rw[K];show(nth h.Kernel.Machine.Table.Entries _).Mode≠0;rw[<-Z];exact u) (by rw[M];show(nth h.Kernel.Machine.Table.Entries _).Mode≠0;rw[<-Y];exact r) (by rw[M];exact X) (f 0).1 λq=>?_
   rw[(f q).2,M,K];rfl
 split
 ·split
  ·rename_i hn0
   have n:=lv O (i:=(h.Job.Next - 1).toNat) ω;have hk0:=(cm c.ker u).1;obtain⟨l,w⟩:=Jd c.ker (a:=h.Job.Plan.Keep*16+nth h.Job.Plan.Cells (h.Job.Next - 1).toNat) (v:=0) ω ⟨ω,ω⟩;exact fin _ _ l (tEq.of w) ⟨y,A⟩ rfl ⟨by show 0<=h.Job.Next - 1;omega,by show h.Job.Next - 1<=h.Job.Plan.Cells.length;omega⟩ ⟨T4 _,by show h.Kernel.Calls<=h.Kernel.Calls+1;omega,rfl⟩
  ·obtain⟨l,w⟩:=D7 c.ker C r (m:=2) (.inr rfl)
   obtain⟨g,t⟩:=wb h.Kernel h.Job.Plan.Move 2;refine fin _ _ l w ?_ rfl ⟨o,p⟩ ⟨by rw[g];omega,by rw[g];omega,t⟩;show 0<=(if _ then _ else _:Int)/\(if _ then _ else _:Int)<=5;split<;>omega
 ·exact fin _ _ c.ker (tEq.refl _) ⟨y,A⟩ rfl ⟨o,p⟩ ⟨T4 _,by show h.Kernel.Calls<=h.Kernel.Calls+1;omega,rfl⟩
theorem bn.mStep{h:ab}{E:List Int}(d:bn h E)(f:JI h)(c:h.Meshing=true):bn (mStep h) E/\JI (mStep h):=by
 have s:=JS.of d c;unfold Ab.mStep;generalize (iH h.Kernel h.Job).1=k at s |-;generalize (iH h.Kernel h.Job).2=j at s |-;cases e:over j with
 | true=>
  refine⟨d.step s.ker s.len (s.pg (.inr f)) (λh=>by simp at h) (λ_=>by simp[qA]),?_⟩;exact⟨λh=>by simp at h,λh=>by simp at h,λh=>by simp at h,λh=>by simp at h⟩
 | false=>
  simp only[Bool.false_eq_true,if_false];unfold over at e;simp only[C4,not_or]at e;have g:=s.eq e.1;have i:=s.ph;refine⟨d.step s.ker s.len (s.pg (.inr f)) (λ_=>⟨ek.2 ⟨by rw[s.plan];exact(ek.1 (d.job c).1).1,s.ph.1,s.ph.2,s.nxt⟩,by rw[s.plan];exact(d.job c).2⟩) (λh=>by rw[c]at h;cases h),?_⟩;refine⟨λ_=>⟨s.ph.1,by show j.Phase<=3;omega⟩,λ_=>?_,λ_=>?_,λ_=>?_⟩
  ·show ∃a∈h.Spans,∃b∈h.Spans,a.Page=j.Plan.Keep/\b.Page=j.Plan.Move/\meshable a b=true
   rw[s.plan];exact f.sp c
  ·show nB k.Machine.Table j.Plan.Keep
   rw[s.plan];exact(f.sk c).tEq g
  ·show nB k.Machine.Table j.Plan.Move
   rw[s.plan];exact(f.sm c).tEq g
def NX(k:af)(a:Int):Int:=nth (nth k.Machine.Frames.Cells (ar k.Machine.Table (a / 16)).Frame.toNat) (a % 16).toNat
def cellsOf(k:af)(a:Int)(n:Nat):List Int:=(List.range n).map λ(i:Nat)=>NX k (a+i)
theorem pC{n:Int}(h:0<=aM n):1<=n/\n<=8:=by
 unfold aM at h;split at h
 ·omega
 ·split at h
  ·omega
  ·split at h
   ·omega
   ·split at h
    ·omega
    ·split at h<;>omega
def Qg{α:Type}[Inhabited α](f:α->Int)(xs:List α):Nat->Int
 | 0=>0
 | i+1=>Qg f xs i+f (nth xs i)
def bor(n m:Int):Int:=((n.toNat ||| m.toNat:Nat):Int)
def r6(sp:List au)(p:Int)(b:Int):Nat->Int
 | 0=>b
 | j+1=>if(nth sp j).Page=p then bor (r6 sp p b j) (nth sp j).Bits else r6 sp p b j
def jv(sp:List au)(ps:List Int)(b:Int):Nat->Int
 | 0=>b
 | k+1=>r6 sp (nth ps k) (jv sp ps b k) sp.length
def gE(h:ab)(i:Nat):Int:=jv h.Spans (aT h (nth h.Spans i).Page) (nth h.Spans i).Bits (aT h (nth h.Spans i).Page).length
theorem KW{n m:Int}(h1:0<=n/\n<=65535)(a:0<=m/\m<=65535):0<=bor n m/\bor n m<=65535:=by
 have b:n.toNat ||| m.toNat<2 ^ 16:=Nat.or_lt_two_pow ω ω
 unfold bor;omega
theorem uD{sp:List au}(h:∀s∈sp,bg s=true){j:Nat}(b:j<sp.length):0<=(nth sp j).Bits/\(nth sp j).Bits<=65535:=by
 have a:=h _ (am b);have c:=E1 (nth sp j).Class;unfold bg at a;rw[C0]at a;omega
theorem uA{sp:List au}(h:∀s∈sp,bg s=true){p b:Int}(a:0<=b/\b<=65535):∀j,j<=sp.length->0<=r6 sp p b j/\r6 sp p b j<=65535
 | 0,_=>a
 | j+1,d=>by
  have c:=uA h (p:=p) a j ω;simp only[r6];split
  ·exact KW c (uD h ω)
  ·exact c
theorem rr{sp:List au}(h:∀s∈sp,bg s=true){ps:List Int}{b:Int}(a:0<=b/\b<=65535):∀k,0<=jv sp ps b k/\jv sp ps b k<=65535
 | 0=>a
 | k+1=>by simp only[jv];exact uA h (rr h a k) _ (X2 _)
theorem m9{b i:Int}(a:0<=b)(c:0<=i/\i<=15):aX b i=b.toNat.testBit i.toNat:=by
 unfold aX;rw[Nat.testBit_eq_decide_div_mod_eq];refine decide_eq_decide.2 ?_;obtain⟨n,rfl⟩ : ∃n:Nat,b=n:=⟨b.toNat,ω⟩
 rw[R2];have d:((n / 2 ^ i.toNat:Nat):Int)=(n:Int) / 2 ^ i.toNat:=by simp
 omega
theorem E4{n m i:Int}(b:0<=n)(c:0<=m)(a:0<=i/\i<=15):aX (bor n m) i=(aX n i || aX m i):=by
 rw[m9 (by unfold bor;omega) a,m9 b a,m9 c a];unfold bor;rw[R2,Nat.testBit_or]
theorem D4{sp:List au}(h:∀s∈sp,bg s=true){p b i:Int}(k:0<=b/\b<=65535)(l:0<=i/\i<=15):∀j,j<=sp.length->(aX (r6 sp p b j) i=true↔aX b i=true\/∃q,q<j/\(nth sp q).Page=p/\aX (nth sp q).Bits i=true)
 | 0,_=>by simp[r6]
 | j+1,t=>by
  have n:=D4 h (p:=p) k l j ω;have o:=uA h (p:=p) k j ω;have r:=uD h (j:=j) ω;simp only[r6];split
  ·rename_i d
   rw[E4 o.1 r.1 l,R5,n];constructor
   ·rintro((e|⟨q,f,a⟩)|e)
    ·exact .inl e
    ·exact .inr ⟨q,ω,a⟩
    ·exact .inr ⟨j,ω,d,e⟩
   ·rintro(e|⟨q,f,a,c⟩)
    ·exact .inl (.inl e)
    ·by_cases g:q=j
     ·subst g;exact .inr c
     ·exact .inl (.inr ⟨q,ω,a,c⟩)
  ·rename_i d
   rw[n];constructor
   ·rintro(e|⟨q,f,a⟩)
    ·exact .inl e
    ·exact .inr ⟨q,ω,a⟩
   ·rintro(e|⟨q,f,a,c⟩)
    ·exact .inl e
    ·by_cases g:q=j
     ·subst g;exact absurd a d
     ·exact .inr ⟨q,ω,a,c⟩
theorem zd{sp:List au}(h:∀s∈sp,bg s=true){ps:List Int}{b i:Int}(d:0<=b/\b<=65535)(f:0<=i/\i<=15):∀k,(aX (jv sp ps b k) i=true↔aX b i=true\/∃u,u<k/\∃q,q<sp.length/\(nth sp q).Page=nth ps u/\aX (nth sp q).Bits i=true)
 | 0=>by simp[jv]
 | k+1=>by
  have g:=zd h (ps:=ps) d f k;have j:=rr h (ps:=ps) d k;simp only[jv];rw[D4 h j f _ (X2 _),g];constructor
  ·rintro((e|⟨u,c,a⟩)|⟨q,c,a⟩)
   ·exact .inl e
   ·exact .inr ⟨u,ω,a⟩
   ·exact .inr ⟨k,ω,q,c,a⟩
  ·rintro(e|⟨u,c,a⟩)
   ·exact .inl (.inl e)
   ·by_cases l:u=k
    ·subst l;exact .inr a
    ·exact .inl (.inr ⟨u,ω,a⟩)
def jC{α:Type}(p:α->Bool)(xs:List α):Nat:=(xs.findIdx? p).getD xs.length
def iY{α:Type}(p:α->Bool)(xs:List α)(y:α):List α:=xs.take (jC p xs)++y::xs.drop (jC p xs)
theorem Nh{α:Type}(p:α->Bool)(xs:List α):jC p xs<=xs.length:=by
 unfold jC;cases e:xs.findIdx? p with
 | none=>exact X2 _
 | some i=>exact Nat.le_of_lt (Z5.1 e).1
theorem jR{α:Type}(p:α->Bool)(xs:List α)(y:α):(iY p xs y).Perm (y::xs):=by
 unfold iY;refine List.perm_middle.trans ?_;rw[List.take_append_drop]
theorem dm{α:Type}{p:α->Bool}{xs:List α}{y z:α} : z∈iY p xs y↔z=y\/z∈xs:=by
 rw[(jR p xs y).mem_iff,List.mem_cons]
theorem uJ{α:Type}{p:α->Bool}{xs:List α}{i:Nat}(c:i<=xs.length)(a:∀(j:Nat)(z:α),j<i->xs[j]? = some z->p z=false)(b:∀z,xs[i]? = some z->p z=true):jC p xs=i:=by
 unfold jC;by_cases e:i<xs.length
 ·rw[uK (Z1 e) (b _ (Z1 e)) a];rfl
 ·rw[vS ω a];show xs.length=i;omega
theorem kL{α:Type}{f:α->Int}{xs:List α}{y:α}(h:xs.Pairwise λa b=>f a<f b)(p:∀z∈xs,f z≠f y):(iY (λz=>decide (f y<=f z)) xs y).Pairwise λa b=>f a<f b:=by
 have q:∀z∈xs.drop (jC (λz=>decide (f y<=f z)) xs),f y<f z:=λz g=>by
  obtain⟨j,k,rfl⟩:=List.mem_drop_iff_getElem.1 g;have C:=p _ (List.getElem_mem k);cases e:xs.findIdx? (λz=>decide (f y<=f z)) with
  | none=>
   have l:jC (λz=>decide (f y<=f z)) xs=xs.length:=by unfold jC;rw[e];rfl
   rw[l]at k;omega
  | some i=>
   have l:jC (λz=>decide (f y<=f z)) xs=i:=by unfold jC;rw[e];rfl
   obtain⟨r,t,-⟩:=Z5.1 e;rw[C0]at t;have c:i+j<xs.length:=by rw[<-l];omega
   have n:f xs[i+j]≠f y:=p _ (List.getElem_mem c);have d:f y<f xs[i+j]:=by
    cases j with
    | zero=>simp only[Nat.add_zero]at n |-;omega
    | succ j=>
     have:=List.pairwise_iff_getElem.1 h i (i+(j+1)) r c ω;omega
   have w:xs[jC (λz=>decide (f y<=f z)) xs+j]? = xs[i+j]?:=by rw[l]
   rw[Z1 ω,Z1 c]at w;rw[Option.some.inj w];exact d
 have A:∀z∈xs.take (jC (λz=>decide (f y<=f z)) xs),f z<f y:=λz g=>by
  obtain⟨j,k,rfl⟩:=List.mem_take_iff_getElem.1 g;unfold jC at k;cases e:xs.findIdx? (λz=>decide (f y<=f z)) with
  | none=>
   have:=List.findIdx?_eq_none_iff.1 e _ (List.getElem_mem (show j<xs.length by omega));simp only[C4]at this;omega
  | some i=>
   obtain⟨r,t,B⟩:=Z5.1 e;simp only[e,Option.getD_some]at k;have:=B j ω;simp only[C0]at this;omega
 unfold iY;refine List.pairwise_append.2 ⟨h.sublist (List.take_sublist ..),List.pairwise_cons.2 ⟨q,h.sublist (List.drop_sublist ..)⟩,λz g u o=>?_⟩;rcases List.mem_cons.1 o with rfl|o
 ·exact A z g
 ·exact Int.lt_trans (A z g) (q u o)
def gv(b i:Int):Int:=((b.toNat ||| 2 ^ i.toNat:Nat):Int)
def pQ(s:au)(i:Int):au:={s with Bits:=gv s.Bits i}
theorem vn(b i:Int)(j:Nat):(gv b i).toNat.testBit j=(b.toNat.testBit j || decide (i.toNat=j)):=by
 unfold gv;rw[R2,Nat.testBit_or,Nat.testBit_two_pow]
theorem EC{b i:Int}(g:0<=b)(e:0<=i/\i<=15)(j:Int):aX (gv b i) j=true↔aX b j=true\/j=i:=by
 rw[fY,fY,vn,R5,C0];have f:0<=gv b i:=by unfold gv;omega
 constructor
 ·rintro⟨h,c,d,a|a⟩
  ·exact .inl ⟨g,c,d,a⟩
  ·exact .inr ω
 ·rintro(⟨h,c,d,a⟩|rfl)
  ·exact⟨f,c,d,.inl a⟩
  ·exact⟨f,e.1,e.2,.inr rfl⟩
theorem gm{k:Int}(h:0<=k/\k<=3):lim k=2 ^ (slots k).toNat - 1/\0<=slots k/\slots k<=16/\slots k*csz k=16:=by
 obtain rfl|rfl|rfl|rfl:k=0\/k=1\/k=2\/k=3:=ω
 all_goals decide
theorem Al{s:au}(h:bg s=true){i:Int}(k:0<=i/\i<slots s.Class):bg (pQ s i)=true:=by
 have b:=aF h;obtain⟨c,l,o,-⟩:=gm b.2.2;unfold bg at h;rw[C0]at h;obtain⟨d,e,f,g,p,a⟩:=h;refine O0 ⟨d,e,f,g,by show 0<=gv s.Bits i;unfold gv;omega,?_⟩;show gv s.Bits i<=lim s.Class;rw[c]at a |-;have j:((2 ^ (slots s.Class).toNat:Nat):Int)=(2:Int) ^ (slots s.Class).toNat:=by norm_cast
 rw[<-j]at a |-;have:=Nat.or_lt_two_pow (x:=s.Bits.toNat) (y:=2 ^ i.toNat) (n:=(slots s.Class).toNat) ω (Nat.pow_lt_pow_right ω ω);unfold gv;omega
theorem yM{s u:au}{i:Int}(b:0<=i/\i<slots s.Class)(c:aX u.Bits i=false)(h:meshable s u=true):meshable (pQ s i) u=true:=by
 unfold meshable at h |-;simp only[I0,C0]at h |-;obtain⟨⟨d,f⟩,k,l,o⟩:=h;have p:=aF d;obtain⟨r,t,w,-⟩:=gm p.2.2;have a:=dU f;refine⟨⟨Al d b,f⟩,k,l,?_⟩;refine Nat.eq_of_testBit_eq λj=>?_
 have g:=U0 (λn=>Nat.testBit n j) o;simp only[Nat.testBit_and,Nat.zero_testBit,pQ,vn]at g |-;by_cases e:i.toNat=j
 ·have:u.Bits.toNat.testBit j=false:=by
   rw[<-Y4];intro q;have:=(fY u.Bits i).2 ⟨a.1,b.1,ω,by rw[e];exact q⟩;rw[this]at c;cases c
  rw[this];simp
 ·rw[R0 e,Bool.or_false];exact g
theorem rN{s:au}(h:bg s=true){i:Int}(n:0<=i/\i<slots s.Class)(b:Int):eL (pQ s i) b↔eL s b\/b=16*s.Page+i*csz s.Class:=by
 have g:=aF h;obtain⟨o,p,k,l⟩:=gm g.2.2;have j:=cx g.2.2;unfold eL;simp only[pQ];rw[EC (dU h).1 ω];constructor
 ·rintro⟨d,f,c,a|a⟩
  ·exact .inl ⟨d,f,c,a⟩
  ·right
   rcases j with e|e|e|e<;>rw[e]at c a |-<;>omega
 ·rintro(⟨d,f,c,a⟩|rfl)
  ·exact⟨d,f,c,.inl a⟩
  ·have q:slots s.Class<=16:=k
   rcases j with e|e|e|e<;>rw[e]at l |-<;>refine⟨?_,?_,?_,.inr ?_⟩<;>omega
theorem Hw{sp:List au}{i:Nat}(k:Int)(a:i<sp.length):(sp.set i (pQ (nth sp i) k)).map (·.Page)=sp.map (·.Page):=by
 rw[O5];refine List.ext_getElem (by simp) λj b c=>?_
 rw[List.getElem_set];split
 ·rename_i e;subst e
  rw[List.getElem_map];show(nth sp i).Page=_;rw[bu (Z1 a)]
 ·rfl
theorem iX.setS{sp:List au}{la:List ax}(p:qx sp la){i:Nat}(g:i<sp.length){k:Int}(h:0<=k/\k<slots (nth sp i).Class)(b c:Int):iX (sp.set i (pQ (nth sp i) k)) b c↔iX sp b c\/(b=16*(nth sp i).Page+k*csz (nth sp i).Class/\(c<0\/(nth sp i).Class=c)):=by
 have d:=p.sok _ (am g);constructor
 ·rintro⟨s,l,f,a⟩
  rcases eY l with rfl|⟨j,n,q,rfl⟩
  ·rcases(rN d h b).1 f with o|o
   ·exact .inl ⟨_,am g,o,a⟩
   ·exact .inr ⟨o,a⟩
  ·exact .inl ⟨_,am n,f,a⟩
 ·rintro(⟨s,l,f,a⟩|⟨f,a⟩)
  ·obtain⟨j,n,rfl⟩:=bf l
   by_cases e:j=i
   ·subst e
    exact⟨_,iv _ g,(rN d h b).2 (.inl f),a⟩
   ·exact⟨_,jh _ n e,f,a⟩
  ·exact⟨_,iv _ g,(rN d h b).2 (.inr f),a⟩
theorem MZ{h:ab}{E:List Int}(d:bn h E){i:Nat}(l:i<h.Spans.length){k:Int}(p:0<=k/\k<=15)(b:aX (gE h i) k=false):aX (nth h.Spans i).Bits k=false/\∀u∈h.Spans,(nth (tbl h).Entries u.Page.toNat).Frame=(nth (tbl h).Entries (nth h.Spans i).Page.toNat).Frame->aX u.Bits k=false:=by
 have e:=d.L;have q:=dU (e.sok _ (am l));unfold gE at b;rw[<-Y4,zd e.sok q p]at b;rw[not_or]at b;have r:aX (nth h.Spans i).Bits k=false:=by simpa using b.1
 have a:∀s∈h.Spans,s.Page.toNat<dQ h/\(nth (tbl h).Entries s.Page.toNat).Mode≠0/\((s.Page.toNat:Nat):Int)=s.Page:=λs f=>by
  have K:=aF (e.sok s f);have M:=d.pg.bnd s.Page (d2 f);have n:s.Page.toNat<(tbl h).Entries.length:=ω
  have o:((s.Page.toNat:Nat):Int)=s.Page:=ω
  exact⟨n,(d.pg.own _ n).2 (by rw[o];exact d2 f),o⟩
 refine⟨r,λu c t=>?_⟩;rw[<-Y4];intro w;obtain⟨y,A,B⟩:=a _ (am l);obtain⟨C,D,F⟩:=a u c;have G:u.Page∈aT h (nth h.Spans i).Page:=by
  rw[<-B,eE y A,<-F];exact d7.2 ⟨C,D,t⟩
 obtain⟨v,H,g⟩:=bf G;obtain⟨j,J,rfl⟩:=bf c;exact b.2 ⟨v,H,j,J,g.symm,w⟩
theorem bn.take{h:ab}{E:List Int}{i:Nat}{k sd:Int}(g:bn h E)(C:i<h.Spans.length)(D:0<=k/\k<slots (nth h.Spans i).Class)(r:aX (gE h i) k=false)(M:0<=sd/\sd<=1073741823) :
  bn {h with Seed:=sd,Spans:=h.Spans.set i (pQ (nth h.Spans i) k)} ((16*(nth h.Spans i).Page+k*csz (nth h.Spans i).Class)::E):=by
 have F:=g.L;have T:=F.sok _ (am C);have Q:=aF T;obtain⟨l1,l2,l3,l4⟩:=gm Q.2.2;have hz:=cx Q.2.2;obtain⟨u1,u2⟩:=MZ g C ⟨D.1,ω⟩ r;have n:=λb c=>iX.setS F C D b c
 have w:=Hw k C;generalize ha:16*(nth h.Spans i).Page+k*csz (nth h.Spans i).Class=a at n |-;have G:¬eL (nth h.Spans i) a:=by
  rintro⟨-,-,-,h4⟩
  have:(a - 16*(nth h.Spans i).Page) / csz (nth h.Spans i).Class=k:=by
   rw[<-ha];rcases hz with e|e|e|e<;>rw[e]<;>omega
  rw[this,u1]at h4;cases h4
 have hrange:16*(nth h.Spans i).Page<=a/\a<=16*(nth h.Spans i).Page+15:=by
  rcases hz with e|e|e|e<;>rw[e]at ha l4<;>omega
 have U:¬lK h.Spans h.Larges a:=by
  rintro(⟨s,p,d,-⟩|⟨l,hl,e⟩)
  ·obtain⟨j,V,rfl⟩:=bf p
   have:=gp (f:=(·.Page)) F.nd V C (by have a1:=d.1;have a2:=d.2.1;omega);subst this;exact G d
  ·exact(wN F hl).1 _ (am C) ω
 have W:a∉E++holders h:=λX=>U ((g.mem a).1 X)
 have q:∀s∈h.Spans.set i (pQ (nth h.Spans i) k),∃u∈h.Spans,u.Page=s.Page/\(s=u\/(u=nth h.Spans i/\s=pQ u k)):=λs p=>by
  rcases eY p with rfl|⟨j,V,hji,rfl⟩
  ·exact⟨_,am C,rfl,.inr ⟨rfl,rfl⟩⟩
  ·exact⟨_,am V,rfl,.inl rfl⟩
 generalize hsp:h.Spans.set i (pQ (nth h.Spans i) k)=sp at n w q |-;have t:pgs sp h.Larges=pgs h.Spans h.Larges:=by unfold pgs;rw[w]
 have N:∀u∈h.Spans,∃s∈sp,s.Page=u.Page:=λu r=>by
  have:u.Page∈sp.map (·.Page):=by rw[w];exact Z3.2 ⟨u,r,rfl⟩
  obtain⟨s,p,e⟩:=Z3.1 this;exact⟨s,p,e⟩
 exact {g with
   lay:=by
     obtain⟨l1,l2,l3⟩:=di g.lay;unfold bj;simp only[I0,C0];refine⟨⟨V3.2 λs p=>?_,l2⟩,by rw[t];exact l3⟩;obtain⟨u,r,-,rfl|⟨rfl,rfl⟩⟩:=q s p
     · exact F.sok _ r
     · exact Al (F.sok _ r) D
   srs:=by
     have d:(h.Spans.map (·.Page)).Pairwise (λa b=>a<b):=List.pairwise_map.2 g.srs;rw[<-w]at d;exact List.pairwise_map.1 d
   pg:=⟨g.pg.one,by rw[t];exact g.pg.bnd,by rw[t];exact g.pg.own,g.pg.fre,λs p u r O hf=>by
     obtain⟨R,A,Y,Z⟩:=q s p;obtain⟨S,B,eu,P⟩:=q u r;have H:(nth (tbl h).Entries R.Page.toNat).Frame=(nth (tbl h).Entries S.Page.toNat).Frame:=by rw[Y,eu];exact hf
     have d:=g.pg.mesh R A S B (by rw[Y,eu];exact O) H;rcases Z with rfl|⟨rfl,rfl⟩
     · rcases P with rfl|⟨rfl,rfl⟩
       · exact d
       · rw[iO]at d |-
         exact yM D (u2 _ A H) d
     · rcases P with rfl|⟨rfl,rfl⟩
       · exact yM D (u2 _ B H.symm) d
       · exact absurd (Y.symm.trans eu) O⟩
   nums:=by
     have:=g.nums;unfold cg at this |-;rw[C0]at this |-;exact⟨M.1,M.2,this.2.2⟩
   oow:=λo ho=>by
     rcases g.oow o ho with⟨s,p,d,h2⟩|d
     · obtain⟨u,r,g1,K⟩:=(n o.Addr (aM o.Size)).2 (.inl ⟨s,p,d,.inr h2⟩)
       refine .inl ⟨u,r,g1,?_⟩;rcases K with K|K
       · have:=aF (F.sok _ p);omega
       · exact K
     · exact .inr d
   hca:=λc Q k D b J=>(n b k).2 (.inl (g.hca c Q k D b J))
   hqu:=λy hy=>(n _ _).2 (.inl (g.hqu y hy))
   hfl:=λb J=>(n _ _).2 (.inl (g.hfl b J))
   hin:=λb J=>by
     rcases List.mem_cons.1 J with rfl|J
     · exact(n _ _).2 (.inr ⟨rfl,.inl (by decide)⟩)
     · exact(n _ _).2 (.inl (g.hin b J))
   nd:=by
     rw[List.cons_append];exact List.nodup_cons.2 ⟨W,g.nd⟩
   mem:=λb=>by
     show b∈a::E++holders h↔lK sp h.Larges b;rw[List.cons_append,List.mem_cons,g.mem b];unfold lK;rw[n];constructor
     · rintro(rfl|d|d)
       · exact .inl (.inr ⟨rfl,.inl (by decide)⟩)
       · exact .inl (.inl d)
       · exact .inr d
     · rintro((d|⟨d,-⟩)|d)
       · exact .inr (.inl d)
       · exact .inl d
       · exact .inr (.inr d)
   job:=λX=>by
     obtain⟨j1,⟨s,p,e1⟩,⟨u,r,e2⟩⟩:=g.job X;obtain⟨R,A,g1⟩:=N s p;obtain⟨S,B,K⟩:=N u r;exact⟨j1,⟨R,A,g1.trans e1⟩,⟨S,B,K.trans e2⟩⟩}
def q7(c:aA)(k:Nat):aA:=⟨c.Lists.set k ((nth c.Lists k).take ((nth c.Lists k).length - 1))⟩
theorem L0{l:List Int}(h:0<l.length):l=l.take (l.length - 1)++[nth l (l.length - 1)]:=by
 have a:l.drop (l.length - 1)=[nth l (l.length - 1)]:=by
  rw[g9 ω,show l.length - 1+1=l.length by omega,List.drop_length]
 rw[<-a,List.take_append_drop]
theorem bn.pop{h:ab}{E:List Int}{t k:Nat}(f:bn h E)(l:t<h.Caches.length)(p:k<(nth h.Caches t).Lists.length)(u:0<(nth (nth h.Caches t).Lists k).length)(w:bo (q7 (nth h.Caches t) k)=true) :
  bn {h with Caches:=h.Caches.set t (q7 (nth h.Caches t) k)} (nth (nth (nth h.Caches t).Lists k) ((nth (nth h.Caches t).Lists k).length - 1)::E)/\iX h.Spans (nth (nth (nth h.Caches t).Lists k) ((nth (nth h.Caches t).Lists k).length - 1)) k:=by
 have q:=L0 u;have n:=f.hca _ (am l) k p (nth (nth (nth h.Caches t).Lists k) ((nth (nth h.Caches t).Lists k).length - 1)) (am ω);refine⟨?_,n⟩;generalize D:nth (nth (nth h.Caches t).Lists k) ((nth (nth h.Caches t).Lists k).length - 1)=a at q n |-;have r:(E++holders h).Perm (a::E++holders {h with Caches:=h.Caches.set t (q7 (nth h.Caches t) k)}):=by
  refine List.perm_iff_count.2 λb=>?_
  have A:=i7 (λc:aA=>c.Lists.flatten) b h.Caches t (q7 (nth h.Caches t) k) l;have B:=i7 (λy:List Int=>y) b (nth h.Caches t).Lists k ((nth (nth h.Caches t).Lists k).take ((nth (nth h.Caches t).Lists k).length - 1)) p;rw[<-ka,<-ka]at B;have C:=U0 (List.count b) q;simp only[I5,List.count_singleton]at C;simp only[q7]at A;simp only[holders,cq,q7,I5,List.cons_append,List.count_cons];omega
 exact {f with
   nc:=by show(h.Caches.set ..).length=_;rw[I1];exact f.nc
   cach:=λc d=>by
     rcases U5 d with d|rfl
     · exact f.cach c d
     · exact w
   onu:=by show ∀o∈h.Objs,1<=o.Id/\o.Id<=h.Next - 1/\0<=o.Thread/\o.Thread<=(h.Caches.set t _).length - 1;rw[I1];exact f.onu
   hca:=λc d j i b g=>by
     rcases U5 d with d|rfl
     · exact f.hca c d j i b g
     · simp only[q7,I1]at i
       simp only[q7,ci]at g;by_cases e:k=j
       · subst e
         rw[C9 ⟨rfl,i⟩]at g;exact f.hca _ (am l) _ i b (List.mem_of_mem_take g)
       · rw[C8 λy=>e y.1]at g
         exact f.hca _ (am l) _ i b g
   hin:=λb g=>by
     rcases List.mem_cons.1 g with rfl|g
     · exact n.any
     · exact f.hin b g
   nd:=r.nodup_iff.1 f.nd
   mem:=λb=>by rw[<-r.mem_iff];exact f.mem b}
def LY(a:Int)(o:bm):Bool:=decide (a<=o.Addr)
def addO(h:ab)(a size t:Int):ab:={h with Objs:=iY (LY a) h.Objs ⟨h.Next,a,size,t⟩,Next:=h.Next+1}
theorem zl{h:ab}(a:cg h=true)(b:h.Next<1000000):decide (0<=h.Seed/\h.Seed<=1073741823/\0<=h.Clock/\h.Clock<=1000000/\0<=h.Limit/\h.Limit<=1000/\1<=h.Next+1/\h.Next+1<=1000000)=true:=by
 unfold cg at a;rw[C0]at a |-;omega
theorem bn.addO{h:ab}{E:List Int}{a size t:Int}(c:bn h (a::E))(d:La h.Spans h.Larges ⟨h.Next,a,size,t⟩)(p:h.Next<1000000)(q:0<=t/\t<=h.Caches.length - 1):bn (addO h a size t) E:=by
 have i:=jR (LY a) h.Objs ⟨h.Next,a,size,t⟩;have n:(a::E++holders h).Perm (E++holders (Ab.addO h a size t)):=by
  have r:=i.map (·.Addr);refine List.perm_iff_count.2 λb=>?_
  have u:=r.count_eq b;simp only[C5,List.count_cons]at u;simp only[holders,cq,Ab.addO,I5,List.cons_append,List.count_cons];omega
 have j:=c.nd;rw[List.cons_append]at j;obtain⟨k,-⟩:=List.nodup_cons.1 j;have l:∀o∈h.Objs,o.Addr≠a:=λo d e=>k (W2.2 (.inr (by unfold holders;simp only[W2];exact .inl (.inl (.inl (Z3.2 ⟨o,d,e⟩))))))
 exact {c with
   nums:=zl c.nums p
   osr:=kL (f:=λo:bm=>o.Addr) (y:=⟨h.Next,a,size,t⟩) c.osr l
   onu:=λo d=>by
     rcases dm.1 d with rfl|d
     · have:=c.nums
       unfold cg at this;rw[C0]at this;exact⟨by show 1<=h.Next;omega,by show h.Next<=h.Next+1 - 1;omega,q⟩
     · have:=c.onu o d
       exact⟨this.1,by show o.Id<=h.Next+1 - 1;omega,this.2.2⟩
   oid:=by
     show((iY (LY a) h.Objs ⟨h.Next,a,size,t⟩).map (·.Id)).Nodup;rw[(i.map _).nodup_iff,C5];refine List.nodup_cons.2 ⟨λw=>?_,c.oid⟩;obtain⟨o,d,e⟩:=Z3.1 w;have:=(c.onu o d).2.1;simp only at e;omega
   oow:=λo g=>by
     rcases dm.1 g with rfl|g
     · exact d
     · exact c.oow o g
   hin:=λb A=>c.hin b (X4 _ A)
   nd:=n.nodup_iff.1 c.nd
   mem:=λb=>by rw[<-n.mem_iff];exact c.mem b}
def iF(xs:List ay)(n:Int):Nat->Int
 | 0=>-1
 | i+1=>if n<=(nth xs i).Len/\(iF xs n i<0\/(nth xs i).Len<(nth xs (iF xs n i).toNat).Len) then(i:Nat) else iF xs n i
def gJ(xs:List ay)(n:Int):Int:=iF xs n xs.length
def a8(xs:List ay)(n:Int):List ay × Int × Bool:=
 if gJ xs n<0 then(xs,-1,false)
 else if(nth xs (gJ xs n).toNat).Len=n then(dele xs (gJ xs n).toNat,(nth xs (gJ xs n).toNat).At,true)
 else(xs.set (gJ xs n).toNat ⟨(nth xs (gJ xs n).toNat).At+n,(nth xs (gJ xs n).toNat).Len - n⟩,(nth xs (gJ xs n).toNat).At,true)
theorem va(xs:List ay)(n:Int):∀i,i<=xs.length->iF xs n i = -1\/(0<=iF xs n i/\iF xs n i<i/\n<=(nth xs (iF xs n i).toNat).Len)
 | 0,_=>.inl rfl
 | i+1,b=>by
  have a:=va xs n i ω;unfold iF;split
  ·rename_i h;right;rw[R2];exact⟨ω,ω,h.1⟩
  ·rcases a with h|h
   ·exact .inl h
   ·exact .inr ⟨h.1,ω,h.2.2⟩
theorem uO{xs:List ay}(h:nq xs){i j:Nat}(a:i<j)(b:j<xs.length):(nth xs i).At+(nth xs i).Len<(nth xs j).At:=by
 have:=List.pairwise_iff_getElem.1 h.1 i j ω b a
 rwa [<-bu (Z1 (show i<xs.length by omega)),<-bu (Z1 b)]at this
theorem uU{xs:List ay}{p:Int} : RH xs p↔∃j,j<xs.length/\(nth xs j).At<=p/\p<(nth xs j).At+(nth xs j).Len:=by
 unfold RH;constructor
 ·rintro⟨r,b,h⟩
  obtain⟨j,a,rfl⟩:=bf b;exact⟨j,a,h⟩
 ·rintro⟨j,a,h⟩
  exact⟨_,am a,h⟩
theorem mw{pages:Int}{xs:List ay}{n:Int}(h:bw pages xs=true)(T:1<=n)(t:(a8 xs n).2.2=true) :
  bw pages (a8 xs n).1=true/\0<=(a8 xs n).2.1/\(a8 xs n).2.1+n<=pages/\(∀p,RH (a8 xs n).1 p↔RH xs p/\¬((a8 xs n).2.1<=p/\p<(a8 xs n).2.1+n))/\∀p,(a8 xs n).2.1<=p->p<(a8 xs n).2.1+n->RH xs p:=by
 obtain⟨o,u,J⟩:=fp.1 h;have K:=va xs n xs.length (X2 _);unfold a8 at t |-;change gJ xs n = -1\/_ at K;split at t
 ·cases t
 rename_i w;rw[C8 w];obtain⟨O,P,L⟩:=K.resolve_left ω;change 0<=gJ xs n at O;change gJ xs n<xs.length at P;change n<=(nth xs (gJ xs n).toNat).Len at L;generalize Q:(gJ xs n).toNat=b at L |-;have g:b<xs.length:=ω
 have M:=u _ (am g);have q:∀j,j<xs.length->j≠b->(nth xs j).At+(nth xs j).Len<(nth xs b).At\/(nth xs b).At+(nth xs b).Len<(nth xs j).At:=λj a k=>by
  rcases Nat.lt_or_gt_of_ne k with A|B
  ·exact .inl (uO o A g)
  ·exact .inr (uO o B a)
 split
 ·rename_i R
  have C:(dele xs b).Sublist xs:=eA ..;refine⟨fp.2 ⟨⟨o.1.sublist C,λy l=>o.2 y (C.subset l)⟩,λy l=>u y (C.subset l),J⟩,M.1,by show(nth xs b).At+n<=pages;omega,λp=>?_,λp D E=>uU.2 ⟨b,g,D,by show p<_;simp only at E;omega⟩⟩;simp only;rw[uU (xs:=xs)];constructor
  ·rintro⟨r,F,f,d⟩
   obtain⟨j,a,k,rfl⟩:=dN.1 F;refine⟨⟨j,a,f,d⟩,λe=>?_⟩;have:=q j a k;omega
  ·rintro⟨⟨j,a,f,d⟩,G⟩
   exact⟨_,dN.2 ⟨j,a,λe=>by subst e;omega,rfl⟩,f,d⟩
 ·rename_i R
  have c:∀j,nth (xs.set b ⟨(nth xs b).At+n,(nth xs b).Len - n⟩) j=if j=b then⟨(nth xs b).At+n,(nth xs b).Len - n⟩ else nth xs j:=λj=>by
   rw[ci];by_cases e:j=b
   ·rw[C9 ⟨e.symm,ω⟩,C9 e]
   ·rw[C8 λz=>e z.1.symm,C8 e]
  refine⟨fp.2 ⟨⟨?_,λy l=>?_⟩,λy l=>?_,J⟩,M.1,by show(nth xs b).At+n<=pages;omega,λp=>?_,λp D E=>uU.2 ⟨b,g,D,by simp only at E;omega⟩⟩
  ·rw[List.pairwise_iff_getElem]
   intro i j N a H;rw[<-bu (Z1 N),<-bu (Z1 a),c,c];simp only[I1]at N a;have S:=uO o H a;split
   ·rename_i e;subst e
    rw[C8 ω];simp only;omega
   ·split
    ·rename_i e;subst e
     simp only;omega
    ·exact S
  ·rcases eY l with rfl|⟨j,a,-,rfl⟩
   ·simp only;omega
   ·exact o.2 _ (am a)
  ·rcases eY l with rfl|⟨j,a,-,rfl⟩
   ·simp only;omega
   ·exact u _ (am a)
  ·simp only
   rw[uU,uU,I1];constructor
   ·rintro⟨j,a,f,d⟩
    rw[c]at f d;split at f
    ·rename_i e;subst e
     rw[C9 rfl]at d;simp only at f d;exact⟨⟨j,a,ω,ω⟩,ω⟩
    ·rename_i e
     rw[C8 e]at d;have:=q j a e;exact⟨⟨j,a,f,d⟩,ω⟩
   ·rintro⟨⟨j,a,f,d⟩,G⟩
    refine⟨j,a,?_⟩;rw[c];split
    ·rename_i e;subst e
     simp only;omega
    ·exact⟨f,d⟩
def qW(k:af):Int:=de (λu=>!u) k.Machine.Frames.Used
def pR(k:af)(p:Int)(f:Nat):af:={k with Machine:=⟨⟨k.Machine.Frames.Cells,k.Machine.Frames.Used.set f true⟩,⟨k.Machine.Table.Entries.set p.toNat ⟨2,(f:Nat)⟩⟩⟩}
def fC(k:af)(p:Int):af × Bool:=if refd k=true\/qW k<0 then(cS k,false) else(pR (cS k) p (qW k).toNat,true)
theorem BG{k:af}(h:¬qW k<0):(qW k).toNat<k.Machine.Frames.Used.length/\nth k.Machine.Frames.Used (qW k).toNat=false:=by
 unfold qW at h |-;rcases nz (λu=>!u) k.Machine.Frames.Used with e|⟨n,a,e,b⟩
 ·omega
 ·rw[e,R2]
  exact⟨a,by simpa using b⟩
theorem yE{k:af}(h:aB k=true){f:Nat}(b:f<k.Machine.Frames.Used.length)(c:nth k.Machine.Frames.Used f=false)(q:Nat)(d:q<k.Machine.Table.Entries.length)(g:(nth k.Machine.Table.Entries q).Mode≠0):(nth k.Machine.Table.Entries q).Frame≠(f:Nat):=by
 obtain⟨j,l,n,i,o⟩:=aC.1 h;intro e;have a:=i f b;rw[c]at a;have:=of_decide_eq_false a.symm;exact this (ew.2 ⟨q,d,g,e⟩)
theorem Mj{k:af}{p:Int}{f:Nat}(h:aB k=true)(L:0<=p/\p<k.Machine.Table.Entries.length)(n:(nth k.Machine.Table.Entries p.toNat).Mode=0)(o:f<k.Machine.Frames.Used.length)(r:nth k.Machine.Frames.Used f=false):aB (pR k p f)=true:=by
 have t:=yE h o r;obtain⟨u,w,y,A,B⟩:=aC.1 h;obtain⟨C,D,E,F⟩:=aY.1 w;obtain⟨G,H,J⟩:=bx.1 y;have a:∀q,nth (k.Machine.Table.Entries.set p.toNat ⟨2,(f:Nat)⟩) q=if p.toNat=q then⟨2,(f:Nat)⟩ else nth k.Machine.Table.Entries q:=λq=>by
  rw[ci];by_cases i:p.toNat=q
  ·rw[C9 ⟨i,ω⟩,C9 i]
  ·rw[C8 (λe=>i e.1),C8 i]
 refine aC.2 ⟨u,aY.2 ⟨C,D,by simp only[pR,I1];exact E,λj b=>?_⟩,bx.2 ⟨λj b=>?_,?_,?_⟩,λj b=>?_,B⟩
 ·replace b:j<k.Machine.Frames.Cells.length:=b
  show gX (nth k.Machine.Frames.Cells j) (nth (k.Machine.Frames.Used.set f true) j)=true;have d:=F j b;rw[ci];split
  ·unfold gX at d |-
   simp only[I0,C0,V3]at d |-;refine⟨d.1,λv K=>?_⟩;have:=d.2 v K;unfold iI at this |-;simp only[I0]at this;rw[this.1];rfl
  ·exact d
 ·simp only[pR,I1]at b |-
  rw[a];split
  ·unfold kb;rw[C0];simp only;omega
  ·exact G j b
 ·simp only[pR,I1];exact H
 ·simp only[pR,I1];exact J
 ·simp only[pR,I1]at b
  show nth (k.Machine.Frames.Used.set f true) j=_;rw[ci];by_cases e:f=j
  ·subst e
   rw[C9 ⟨rfl,b⟩];refine(O0 (ew.2 ⟨p.toNat,?_,?_,?_⟩)).symm
   ·simp only[pR,I1];omega
   ·simp only[pR,a,C9];decide
   ·simp only[pR,a,C9]
  ·rw[C8 λz=>e z.1,A j b]
   refine decide_eq_decide.2 ?_;rw[ew,ew];simp only[pR,I1,a];constructor
   ·rintro⟨q,l,g,c⟩
    refine⟨q,l,?_⟩;rw[C8 λz=>g (by rw[<-z];exact n)];exact⟨g,c⟩
   ·rintro⟨q,l,g,c⟩
    by_cases z:p.toNat=q
    ·rw[C9 z]at c
     simp only at c;omega
    ·rw[C8 z]at g c
     exact⟨q,l,g,c⟩
structure zA(k:af)(p:Int)(r:af × Bool):Prop where
 ker:aB r.1=true
 len:r.1.Machine.Table.Entries.length=k.Machine.Table.Entries.length
 calls:r.1.Calls=k.Calls+1
 ref:r.1.Refuse=k.Refuse
 cells:r.1.Machine.Frames.Cells=k.Machine.Frames.Cells
 no:r.2=false->r.1=cS k
 yes:r.2=true->∃f:Nat,f<k.Machine.Frames.Used.length/\nth k.Machine.Frames.Used f=false/\(∀q:Nat,nth r.1.Machine.Table.Entries q=if(q:Int)=p then⟨2,(f:Nat)⟩ else nth k.Machine.Table.Entries q)/\∀q,q<k.Machine.Table.Entries.length->(nth k.Machine.Table.Entries q).Mode≠0->(nth k.Machine.Table.Entries q).Frame≠(f:Nat)
theorem zA.of{k:af}{p:Int}(h:aB k=true)(c:k.Calls≠100000)(f:0<=p/\p<k.Machine.Table.Entries.length)(g:(nth k.Machine.Table.Entries p.toNat).Mode=0):zA k p (fC k p):=by
 unfold fC;split
 ·exact⟨lA h c,rfl,rfl,rfl,rfl,λ_=>rfl,λe=>by cases e⟩
 ·rename_i d
  rw[not_or]at d;obtain⟨a,b⟩:=BG d.2;refine⟨Mj (lA h c) f g a b,by simp[pR,cS],rfl,rfl,rfl,λe=>(by cases e),λ_=>⟨_,a,b,λq=>?_,λq=>yE h a b q⟩⟩;simp only[pR,cS,ci];by_cases e:(q:Int)=p
  ·rw[C9 ⟨ω,ω⟩,C9 e]
  ·rw[C8 λz=>e ω,C8 e]
def cu(k:af)(p:Int):Nat->af × Nat
 | 0=>(k,0)
 | i+1=>if(cu k p i).2=i then((fC (cu k p i).1 (p+(i:Nat))).1,if(fC (cu k p i).1 (p+(i:Nat))).2=true then i+1 else i) else cu k p i
structure n7(k:af)(p:Int)(i:Nat)(r:af × Nat):Prop where
 ker:aB r.1=true
 len:r.1.Machine.Table.Entries.length=k.Machine.Table.Entries.length
 calls:k.Calls<=r.1.Calls/\r.1.Calls<=k.Calls+i
 ref:r.1.Refuse=k.Refuse
 cells:r.1.Machine.Frames.Cells=k.Machine.Frames.Cells
 le:r.2<=i
 out:∀q:Nat,¬(p<=q/\(q:Int)<p+r.2)->nth r.1.Machine.Table.Entries q=nth k.Machine.Table.Entries q
 new:∀q:Nat,p<=q->(q:Int)<p+r.2->(nth r.1.Machine.Table.Entries q).Mode=2/\∀u:Nat,u<k.Machine.Table.Entries.length->(nth r.1.Machine.Table.Entries u).Mode≠0->(nth r.1.Machine.Table.Entries u).Frame=(nth r.1.Machine.Table.Entries q).Frame->u=q
theorem n7.of{k:af}{p:Int}{n:Nat}(h:aB k=true)(G:k.Calls+n<=100000)(H:0<=p/\p+n<=k.Machine.Table.Entries.length)(C:∀q:Nat,p<=q->(q:Int)<p+n->(nth k.Machine.Table.Entries q).Mode=0):∀i,i<=n->n7 k p i (cu k p i)
 | 0,_=>⟨h,rfl,⟨T4 _,by show k.Calls<=k.Calls+((0:Nat):Int);omega⟩,rfl,rfl,X2 _,λ_ _=>rfl,λq o d=>by simp only[cu]at d;omega⟩
 | i+1,L=>by
  have a:=n7.of h G H C i ω;unfold cu;split
  case isFalse=>exact⟨a.ker,a.len,⟨a.calls.1,by have:=a.calls.2;omega⟩,a.ref,a.cells,by have:=a.le;omega,a.out,a.new⟩
  rename_i t;generalize cu k p i=r at a t |-;have J:=a.calls;have y:(nth r.1.Machine.Table.Entries (p+(i:Nat)).toNat).Mode=0:=by
   rw[a.out _ ω];exact C _ ω ω
  have s:=zA.of (p:=p+(i:Nat)) a.ker ω ⟨ω,by rw[a.len];omega⟩ y;generalize fC r.1 (p+(i:Nat))=w at s |-;refine⟨s.ker,s.len.trans a.len,⟨by simp only[s.calls];omega,by simp only[s.calls];omega⟩,s.ref.trans a.ref,s.cells.trans a.cells,by simp only;split<;>omega,λq j=>?_,λq o d=>?_⟩
  ·simp only at j |-
   cases e:w.2 with
   | false=>
    rw[s.no e];rw[e]at j;exact a.out q (by rw[t];simpa using j)
   | true=>
    obtain⟨f,-,-,g,-⟩:=s.yes e;rw[e,C9 rfl]at j;rw[g,C8 ω];exact a.out q ω
  ·simp only at d |-
   cases e:w.2 with
   | false=>
    rw[s.no e];rw[e]at d;exact a.new q o (by rw[t];simpa using d)
   | true=>
    obtain⟨f,-,-,g,D⟩:=s.yes e;rw[e,C9 rfl]at d;have A:q<k.Machine.Table.Entries.length:=ω
    rw[g];by_cases E:(q:Int)=p+(i:Nat)
    ·rw[C9 E]
     refine⟨rfl,λu B c b=>?_⟩;rw[g]at c b;by_cases l:(u:Int)=p+(i:Nat)
     ·omega
     ·rw[C8 l]at c b
      exact absurd b (D u (by rw[a.len];exact B) c)
    ·rw[C8 E]
     obtain⟨F,K⟩:=a.new q o ω;refine⟨F,λu B c b=>?_⟩;rw[g]at c b;by_cases l:(u:Int)=p+(i:Nat)
     ·rw[C9 l]at b
      exact absurd b.symm (D q (by rw[a.len];exact A) (by rw[F];decide))
     ·rw[C8 l]at c b
      exact K u B c b
theorem n7.undo{k:af}{p:Int}{i:Nat}{r:af × Nat}(s:n7 k p i r)(h:aB k=true)(d:0<=p/\p+i<=k.Machine.Table.Entries.length)(e:∀q:Nat,p<=q->(q:Int)<p+i->(nth k.Machine.Table.Entries q).Mode=0):aB (d3 r.1 p r.2)=true/\tEq k.Machine.Table (d3 r.1 p r.2).Machine.Table:=by
 have f:=s.le;have g:=lr s.ker d.1 r.2 (by rw[s.len];omega);refine⟨jI s.ker p r.2,((gx r.1 p r.2).1).trans s.len,λq=>?_⟩;rw[g];split
 ·rename_i a
  have c:=e q a.1 ω;obtain⟨-,-,j,-⟩:=aC.1 h;have b:=(bx.1 j).1 q ω;unfold kb at b;rw[C0]at b;exact⟨⟨λz=>absurd rfl z,λz=>absurd c z⟩,(b.2.2.1 c).symm⟩
 ·rename_i a
  rw[s.out q a];exact⟨Iff.rfl,rfl⟩
theorem Pg.add{t h:aG}{O r:List ay}{sp b:List au}{la d:List ax}{p:Int}{n:Nat}(i:Pg t O sp la)(E:h.Entries.length=t.Entries.length)(S:p+n<=t.Entries.length)(hp:0<=p)(j:∀q:Nat,¬(p<=q/\(q:Int)<p+n)->nth h.Entries q=nth t.Entries q)(a:∀q:Nat,p<=q->(q:Int)<p+n->(nth h.Entries q).Mode=2/\∀u:Nat,u<t.Entries.length->(nth h.Entries u).Mode≠0->(nth h.Entries u).Frame=(nth h.Entries q).Frame->u=q)(J:∀q,RH r q↔RH O q/\¬(p<=q/\q<p+n))(F:∀q,q∈pgs b d↔q∈pgs sp la\/(p<=q/\q<p+n))(w:∀s∈b,0<=s.Page/\(s∈sp\/(p<=s.Page/\s.Page<p+n)))(K:∀l∈d,l∈la\/∀q∈lpgs l l.Pages.toNat,p<=q/\q<p+n):Pg h r b d:=by
 have f:∀q:Nat,q<t.Entries.length->((nth h.Entries q).Mode≠0↔(q:Int)∈pgs b d):=λq c=>by
  rw[F];by_cases e:p<=q/\(q:Int)<p+n
  ·have:=(a q e.1 e.2).1
   exact⟨λ_=>.inr e,λ_=>by rw[this];decide⟩
  ·rw[j q e,i.own q c]
   exact⟨.inl,λz=>z.resolve_right e⟩
 refine⟨λl A q c u k L G=>?_,λq c=>?_,λq c=>f q (by rw[<-E];exact c),λq c=>?_,λs P u k M H=>?_⟩
 ·rw[E]at k
  have B:=fA (sp:=b) A c;have C:q<t.Entries.length:=by
   rcases(F _).1 B with g|g
   ·have:=i.bnd _ g;omega
   ·omega
  by_cases e:p<=q/\(q:Int)<p+n
  ·exact(a q e.1 e.2).2 u k L G
  ·have N:=(K l A).resolve_right λg=>e (g _ c)
   by_cases o:p<=u/\(u:Int)<p+n
   ·exact((a u o.1 o.2).2 q C ((f q C).2 B) G.symm).symm
   ·rw[j q e,j u o]at G
    rw[j u o]at L;exact i.one l N q c u k L G
 ·rw[E]
  rcases(F _).1 c with g|g
  ·exact i.bnd _ g
  ·omega
 ·rw[E]at c
  rw[J];by_cases e:p<=q/\(q:Int)<p+n
  ·have:=(a q e.1 e.2).1
   exact⟨λ_ z=>z.2 e,λ_=>by rw[this];decide⟩
  ·rw[j q e,i.fre q c]
   exact⟨λz y=>z y.1,λz y=>z ⟨y,e⟩⟩
 ·obtain⟨T,U⟩:=w s P
  obtain⟨V,W⟩:=w u k;have D:∀y∈b,0<=y.Page->y.Page.toNat<t.Entries.length/\((y.Page.toNat:Nat):Int)=y.Page/\(nth h.Entries y.Page.toNat).Mode≠0:=λy X Y=>by
   have g:=d2 (la:=d) X;have Q:y.Page.toNat<t.Entries.length:=by
    rcases(F _).1 g with R|R
    ·have:=i.bnd _ R;omega
    ·omega
   exact⟨Q,ω,(f _ Q).2 (by rw[show((y.Page.toNat:Nat):Int)=y.Page by omega];exact g)⟩
  obtain⟨Z,sc,sd⟩:=D s P T;obtain⟨ub,uc,ud⟩:=D u k V;by_cases es:p<=s.Page/\s.Page<p+n
  ·have:=(a s.Page.toNat ω ω).2 _ ub ud H.symm
   omega
  ·by_cases o:p<=u.Page/\u.Page<p+n
   ·have:=(a u.Page.toNat ω ω).2 _ Z sd H
    omega
   ·rw[j _ ω,j _ ω]at H
    exact i.mesh s (U.resolve_right es) u (W.resolve_right o) M H
theorem Di{sp a:List au}{la b:List ax}(c:a.Perm sp)(d:b.Perm la):(pgs a b).Perm (pgs sp la):=by
 unfold pgs;exact(c.map _).append (d.flatMap_right _)
def HY(p:Int)(s:au):Bool:=decide (p<=s.Page)
def N5(p:Int)(l:ax):Bool:=decide (p<=l.Page)
def addS(h:ab)(k:af)(a:List ay)(p c:Int):ab:={h with Kernel:=k,Free:=a,Spans:=iY (HY p) h.Spans ⟨p,c,0⟩}
theorem kK{h:ab}{E:List Int}(a:bn h E){n:Int}(j:1<=n)(k:(a8 h.Free n).2.2=true):0<=(a8 h.Free n).2.1/\(a8 h.Free n).2.1+n<=(tbl h).Entries.length/\(∀q:Nat,(a8 h.Free n).2.1<=q->(q:Int)<(a8 h.Free n).2.1+n->(nth (tbl h).Entries q).Mode=0)/\∀q:Int,(a8 h.Free n).2.1<=q->q<(a8 h.Free n).2.1+n->q∉pgs h.Spans h.Larges:=by
 obtain⟨r,l,f,t,o⟩:=mw a.rng j k;have g:∀q:Nat,(a8 h.Free n).2.1<=q->(q:Int)<(a8 h.Free n).2.1+n->(nth (tbl h).Entries q).Mode=0:=λq b c=>by
  have d:q<(tbl h).Entries.length:=by
   have:(a8 h.Free n).2.1+n<=((tbl h).Entries.length:Nat):=f;omega
  by_cases e:(nth (tbl h).Entries q).Mode=0
  ·exact e
  ·exact absurd (o q b c) ((a.pg.fre q d).1 e)
 refine⟨l,f,g,λq b c i=>?_⟩;have u:=a.pg.bnd q i;obtain⟨m,rfl⟩:=U2 (show 0<=q by omega);have p:=(a.pg.own m ω).2 i;exact p (g m b c)
theorem bn.addS{h:ab}{E:List Int}{c:Int}(a:bn h E)(H:0<=c/\c<=3)(F:(a8 h.Free 1).2.2=true){k:af}(s:zA h.Kernel (a8 h.Free 1).2.1 (k,true)):bn (addS h k (a8 h.Free 1).1 (a8 h.Free 1).2.1 c) E:=by
 obtain⟨U,G,r3,J,r5⟩:=mw a.rng (T4 _) F;obtain⟨-,V,u3,W⟩:=kK a (T4 _) F;generalize (a8 h.Free 1).2.1=p at G r3 J r5 V u3 W s |-;generalize (a8 h.Free 1).1=fr at U J |-;obtain⟨f,f1,f2,K,f4⟩:=s.yes rfl;have M:=(bx.1 (aC.1 a.ker).2.2.1).2.2;change (tbl h).Entries.length<=32 at M;have X:=a.L;have N:=jR (HY p) h.Spans ⟨p,c,0⟩;have O:=Di N (List.Perm.refl h.Larges);have w:(pgs (iY (HY p) h.Spans ⟨p,c,0⟩) h.Larges).Perm (p::pgs h.Spans h.Larges):=O;have B:p∉pgs h.Spans h.Larges:=W p (T4 _) ω;have P:∀z∈h.Spans,z.Page≠p:=λz g e=>B (by rw[<-e];exact d2 g)
 have i:∀b d,iX (iY (HY p) h.Spans ⟨p,c,0⟩) b d↔iX h.Spans b d:=λb d=>by
  constructor
  ·rintro⟨s,C,A,Q⟩
   rcases dm.1 C with rfl|C
   ·exact absurd A (zC rfl b)
   ·exact⟨s,C,A,Q⟩
  ·rintro⟨s,C,A⟩
   exact⟨s,dm.2 (.inr C),A⟩
 exact {a with
   ker:=s.ker
   rng:=by show bw ((k.Machine.Table.Entries.length:Nat):Int) fr=true;rw[s.len];exact U
   lay:=by
     obtain⟨l1,l2,l3⟩:=di a.lay;unfold bj;simp only[I0,C0];refine⟨⟨V3.2 λz g=>?_,l2⟩,w.nodup_iff.2 (List.nodup_cons.2 ⟨B,l3⟩)⟩;rcases dm.1 g with rfl|g
     · have R:0<=lim c:=by
         have:=(gm H).1;obtain rfl|rfl|rfl|rfl:c=0\/c=1\/c=2\/c=3:=ω
         all_goals decide
       exact O0 ⟨G,by show p<=31;omega,H.1,H.2,T4 _,R⟩
     · exact X.sok z g
   srs:=kL (f:=λz:au=>z.Page) (y:=⟨p,c,0⟩) a.srs P
   pg:=by
     refine a.pg.add (p:=p) (n:=1) s.len (by exact V) G (λq Y=>?_) (λq q1 q2=>?_) (λq=>J q) (λq=>?_) (λz g=>?_) (λl hl=>.inl hl)
     · exact(K q).trans (C8 ω)
     · have Y:(q:Int)=p:=ω
       have Z:nth k.Machine.Table.Entries q = ⟨2,(f:Nat)⟩:=(K q).trans (C9 Y);refine⟨U0 bh.Mode Z,λu S t r=>?_⟩;have fu:nth k.Machine.Table.Entries u=if(u:Int)=p then⟨2,(f:Nat)⟩ else nth h.Kernel.Machine.Table.Entries u:=K u
       change (nth k.Machine.Table.Entries u).Mode≠0 at t;change (nth k.Machine.Table.Entries u).Frame=(nth k.Machine.Table.Entries q).Frame at r;rw[fu]at t r;rw[Z]at r;by_cases eu:(u:Int)=p
       · omega
       · rw[C8 eu]at t r
         exact absurd r (f4 u S t)
     · show q∈pgs (iY (HY p) h.Spans ⟨p,c,0⟩) h.Larges↔_
       rw[w.mem_iff,List.mem_cons];constructor
       · rintro(e|e)
         · exact .inr ⟨ω,ω⟩
         · exact .inl e
       · rintro(e|e)
         · exact .inr e
         · exact .inl ω
     · rcases dm.1 g with rfl|g
       · exact⟨G,.inr ⟨T4 _,by show p<p+((1:Nat):Int);omega⟩⟩
       · exact⟨(aF (X.sok z g)).1,.inl g⟩
   oow:=λo F=>by
     rcases a.oow o F with⟨z,g,A,Q⟩|A
     · exact .inl ⟨z,dm.2 (.inr g),A,Q⟩
     · exact .inr A
   hca:=λd hd j hj b D=>(i b j).2 (a.hca d hd j hj b D)
   hqu:=λy T=>(i _ _).2 (a.hqu y T)
   hfl:=λb D=>(i _ _).2 (a.hfl b D)
   hin:=λb D=>(i _ _).2 (a.hin b D)
   mem:=λb=>(a.mem b).trans (by
     show lK h.Spans h.Larges b↔lK (iY (HY p) h.Spans ⟨p,c,0⟩) h.Larges b;unfold lK;rw[i])
   job:=λhm=>by
     obtain⟨j1,⟨y,T,e1⟩,⟨u,S,e2⟩⟩:=a.job hm;exact⟨j1,⟨y,dm.2 (.inr T),e1⟩,⟨u,dm.2 (.inr S),e2⟩⟩}
def addL(h:ab)(k:af)(a:List ay)(p n size t:Int):ab:={h with Kernel:=k,Free:=a,Larges:=iY (N5 p) h.Larges ⟨p,n,size⟩,Objs:=iY (LY (16*p)) h.Objs ⟨h.Next,16*p,size,t⟩,Next:=h.Next+1}
theorem bn.addL{h:ab}{E:List Int}{size t:Int}{n:Nat}(a:bn h E)(g:9<=size/\size<=1000)(J:(n:Int)=(size+15) / 16)(i:(a8 h.Free n).2.2=true){k:af}(s:n7 h.Kernel (a8 h.Free n).2.1 n (k,n))(hn:h.Next<1000000)(ht:0<=t/\t<=h.Caches.length - 1) :
  bn (addL h k (a8 h.Free n).1 (a8 h.Free n).2.1 n size t) E:=by
 have B:(1:Int)<=n:=ω
 obtain⟨V,K,r3,M,r5⟩:=mw a.rng B i;obtain⟨-,W,u3,H⟩:=kK a B i;generalize (a8 h.Free n).2.1=p at K r3 M r5 W u3 H s |-;generalize (a8 h.Free n).1=fr at V M |-;have N:=(bx.1 (aC.1 a.ker).2.2.1).2.2;change (tbl h).Entries.length<=32 at N;have O:=a.L;have P:=jR (N5 p) h.Larges ⟨p,n,size⟩;have C:=jR (LY (16*p)) h.Objs ⟨h.Next,16*p,size,t⟩;have Q:lpgs ⟨p,n,size⟩ ((n:Nat):Int).toNat=lpgs ⟨p,n,size⟩ n:=by rw[R2]
 have D:(pgs h.Spans (iY (N5 p) h.Larges ⟨p,n,size⟩)).Perm (lpgs ⟨p,n,size⟩ n++pgs h.Spans h.Larges):=by
  refine(Di (List.Perm.refl h.Spans) P).trans ?_;unfold pgs;rw[W5];simp only[Q];rw[<-t5,<-t5];exact List.perm_append_comm.append_right _
 have u:∀q,q∈lpgs ⟨p,n,size⟩ n↔p<=q/\q<p+n:=λq=>by
  rw[dd];constructor
  ·rintro⟨j,hj,rfl⟩;exact⟨by show p<=p+(j:Int);omega,by show p+(j:Int)<_;omega⟩
  ·rintro⟨X,Y⟩;exact⟨(q - p).toNat,ω,by show q=p+_;omega⟩
 have R:(lpgs ⟨p,n,size⟩ n).Nodup:=by
  unfold lpgs List.Nodup;rw[List.pairwise_map];exact List.nodup_range.imp λr e=>r (by simp only at e;omega)
 have r:∀z∈h.Larges,z.Page≠p:=λz g e=>H p (T4 _) ω (by rw[<-e];exact fA g (dd.2 ⟨0,by have:=aU (O.lok z g);omega,ω⟩))
 have S:¬lK h.Spans h.Larges (16*p):=by
  rintro(⟨z,g,d,-⟩|⟨l,c,e⟩)
  ·exact H p (T4 _) ω (by rw[show p=z.Page by have a1:=d.1;have a2:=d.2.1;omega];exact d2 g)
  ·exact r l c ω
 have F:(16*p)∉E++holders h:=λT=>S ((a.mem _).1 T)
 have U:∀o∈h.Objs,o.Addr≠16*p:=λo i e=>F (W2.2 (.inr (by unfold holders;simp only[W2];exact .inl (.inl (.inl (Z3.2 ⟨o,i,e⟩))))))
 have Z:(E++holders (Ab.addL h k fr p n size t)).Perm ((16*p)::(E++holders h)):=by
  have h0:=C.map (·.Addr);refine List.perm_iff_count.2 λb=>?_
  have d:=h0.count_eq b;simp only[C5,List.count_cons]at d;simp only[holders,cq,Ab.addL,I5,List.count_cons];omega
 exact {a with
   ker:=s.ker
   rng:=by show bw ((k.Machine.Table.Entries.length:Nat):Int) fr=true;rw[s.len];exact V
   lay:=by
     obtain⟨l1,l2,l3⟩:=di a.lay;unfold bj;simp only[I0,C0];refine⟨⟨l1,V3.2 λz w=>?_⟩,D.nodup_iff.2 (List.nodup_append.2 ⟨R,l3,λq G b hb e=>?_⟩)⟩
     · rcases dm.1 w with rfl|w
       · exact O0 ⟨g.1,g.2,J,K,by show p<=32 - (n:Int);omega⟩
       · exact O.lok z w
     · subst e
       have:=(u q).1 G;exact H q this.1 this.2 hb
   srl:=kL (f:=λz:ax=>z.Page) (y:=⟨p,n,size⟩) a.srl r
   pg:=by
     refine a.pg.add (p:=p) (n:=n) s.len (by exact W) K (λq G=>s.out q G) (λq X Y=>s.new q X Y) (λq=>M q) (λq=>?_) (λz g=>⟨(aF (O.sok z g)).1,.inl g⟩) (λl c=>?_)
     · show q∈pgs h.Spans (iY (N5 p) h.Larges ⟨p,n,size⟩)↔_
       rw[D.mem_iff,W2,u];exact Or.comm
     · rcases dm.1 c with rfl|c
       · exact .inr λq G=>(u q).1 (by simpa using G)
       · exact .inl c
   nums:=zl a.nums hn
   osr:=kL (f:=λo:bm=>o.Addr) (y:=⟨h.Next,16*p,size,t⟩) a.osr U
   onu:=λo i=>by
     rcases dm.1 i with rfl|i
     · have:=a.nums
       unfold cg at this;rw[C0]at this;exact⟨by show 1<=h.Next;omega,by show h.Next<=h.Next+1 - 1;omega,ht⟩
     · have:=a.onu o i
       exact⟨this.1,by show o.Id<=h.Next+1 - 1;omega,this.2.2⟩
   oid:=by
     show((iY (LY (16*p)) h.Objs ⟨h.Next,16*p,size,t⟩).map (·.Id)).Nodup;rw[(C.map _).nodup_iff,C5];refine List.nodup_cons.2 ⟨λT=>?_,a.oid⟩;obtain⟨o,i,e⟩:=Z3.1 T;have:=(a.onu o i).2.1;simp only at e;omega
   oow:=λo A=>by
     rcases dm.1 A with rfl|A
     · exact .inr ⟨_,dm.2 (.inl rfl),rfl,rfl⟩
     · rcases a.oow o A with d|⟨l,c,d⟩
       · exact .inl d
       · exact .inr ⟨l,dm.2 (.inr c),d⟩
   nd:=Z.nodup_iff.2 (List.nodup_cons.2 ⟨F,a.nd⟩)
   mem:=λb=>by
     rw[Z.mem_iff,List.mem_cons,a.mem b];show _↔lK h.Spans (iY (N5 p) h.Larges ⟨p,n,size⟩) b;unfold lK;constructor
     · rintro(rfl|d|⟨l,c,e⟩)
       · exact .inr ⟨_,dm.2 (.inl rfl),rfl⟩
       · exact .inl d
       · exact .inr ⟨l,dm.2 (.inr c),e⟩
     · rintro(d|⟨l,c,e⟩)
       · exact .inr (.inl d)
       · rcases dm.1 c with rfl|c
         · exact .inl e
         · exact .inr (.inr ⟨l,c,e⟩)}
structure JK(h h':ab):Prop where
 job:h'.Job=h.Job
 msh:h'.Meshing=h.Meshing
 sp:∀s∈h.Spans,eZ h s.Page=true->∃s'∈h'.Spans,s'.Page=s.Page/\∀u,meshable s u=true->meshable s' u=true
 ent:∀q:Nat,(nth (tbl h').Entries q).Mode≠0->((nth (tbl h).Entries q).Mode≠0/\(nth (tbl h').Entries q).Frame=(nth (tbl h).Entries q).Frame)\/∀u:Nat,(nth (tbl h').Entries u).Mode≠0->(nth (tbl h').Entries u).Frame=(nth (tbl h').Entries q).Frame->u=q
theorem JK.refl(h:ab):JK h h:=⟨rfl,rfl,λs a _=>⟨s,a,rfl,λ_ z=>z⟩,λ_ b=>.inl ⟨b,rfl⟩⟩
theorem JK.pg{h h':ab}(k:JK h h')(p:Int):eZ h' p=eZ h p:=by unfold eZ;rw[k.job,k.msh]
theorem JK.trans{h h1 g:ab}(a:JK h h1)(b:JK h1 g):JK h g:=by
 refine⟨b.job.trans a.job,b.msh.trans a.msh,λs o i=>?_,λq j=>?_⟩
 ·obtain⟨p,r,k,t⟩:=a.sp s o i
  obtain⟨w,y,A,B⟩:=b.sp p r (by rw[a.pg,k];exact i);exact⟨w,y,A.trans k,λu c=>B u (t u c)⟩
 ·rcases b.ent q j with⟨d,l⟩|d
  ·rcases a.ent q d with⟨e,C⟩|e
   ·exact .inl ⟨e,l.trans C⟩
   ·refine .inr λu c n=>?_
    rcases b.ent u c with⟨f,D⟩|f
    ·exact e u f (by rw[<-D,<-l];exact n)
    ·exact(f q j n.symm).symm
  ·exact .inr d
theorem nB.keep{h h':ab}{p:Int}(f:0<=p)(d:(nth (tbl h').Entries p.toNat).Mode≠0)(g:nB (tbl h) p)(k:JK h h'):nB (tbl h') p:=λq e c=>by
 rcases k.ent p.toNat d with⟨n,i⟩|a
 ·rcases k.ent q e with⟨j,l⟩|b
  ·exact g q j (by rw[<-l,c,i])
  ·have:=b p.toNat d c.symm;omega
 ·have:=a q e c;omega
theorem bn.mapped{h:ab}{E:List Int}(a:bn h E){s:au}(b:s∈h.Spans):0<=s.Page/\s.Page<(tbl h).Entries.length/\(nth (tbl h).Entries s.Page.toNat).Mode≠0:=by
 have c:=(aF (a.L.sok s b)).1;have d:=a.pg.bnd _ (d2 (la:=h.Larges) b);refine⟨c,d,(a.pg.own s.Page.toNat ω).2 ?_⟩;rw[show((s.Page.toNat:Nat):Int)=s.Page by omega];exact d2 b
theorem JI.keep{h h':ab}{E:List Int}(l:JI h)(p:bn h' E)(k:JK h h'):JI h':=by
 have d:h.Meshing=true->∃a∈h'.Spans,∃b∈h'.Spans,a.Page=h.Job.Plan.Keep/\b.Page=h.Job.Plan.Move/\meshable a b=true:=λc=>by
  obtain⟨a,n,b,o,f,g,e⟩:=l.sp c;obtain⟨q,t,u,w⟩:=k.sp a n (by unfold eZ;rw[c,f];simp);obtain⟨y,A,B,C⟩:=k.sp b o (by unfold eZ;rw[c,g];simp);refine⟨q,t,y,A,u.trans f,B.trans g,?_⟩;have r:=w b e;rw[iO]at r |-;exact C q r
 refine⟨λc=>?_,λc=>?_,λc=>?_,λc=>?_⟩
 ·rw[k.msh]at c;rw[k.job];exact l.ph c
 ·rw[k.msh]at c;rw[k.job];exact d c
 ·rw[k.msh]at c
  obtain⟨a,n,b,o,f,g,e⟩:=d c;obtain⟨i,D,j⟩:=p.mapped n;rw[k.job];rw[f]at i j;exact(l.sk c).keep i j k
 ·rw[k.msh]at c
  obtain⟨a,n,b,o,f,g,e⟩:=d c;obtain⟨i,D,j⟩:=p.mapped o;rw[k.job];rw[g]at i j;exact(l.sm c).keep i j k
theorem JK.less{h h':ab}(h1:h'.Job=h.Job)(c:h'.Meshing=h.Meshing)(d:h'.Spans=h.Spans)(b:∀q:Nat,(nth (tbl h').Entries q).Mode≠0->nth (tbl h').Entries q=nth (tbl h).Entries q):JK h h':=
 ⟨h1,c,λs e _=>⟨s,by rw[d];exact e,rfl,λ_ z=>z⟩,λq a=>.inl ⟨by rw[<-b q a];exact a,by rw[b q a]⟩⟩
theorem JK.eq{h h':ab}(h1:h'.Job=h.Job)(a:h'.Meshing=h.Meshing)(b:h'.Spans=h.Spans)(c:tbl h'=tbl h):JK h h':=.less h1 a b λq _=>by rw[c]
theorem JK.clrS{h:ab}{E:List Int}{a:Int}{i:Nat}(f:bn h E)(c:i<h.Spans.length)(d:eL (nth h.Spans i) a):JK h (clrS h i a):=by
 refine⟨rfl,rfl,λs g _=>?_,λq k=>.inl ⟨k,rfl⟩⟩;obtain⟨j,l,rfl⟩:=bf g;by_cases e:j=i
 ·subst e
  have b:=f.L.sok _ (am c);exact⟨_,iv _ c,rfl,λu n=>sg b (sN b ⟨d.1,d.2.1⟩) n⟩
 ·exact⟨_,jh _ l e,rfl,λ_ z=>z⟩
theorem JK.giveP{h:ab}{E:List Int}{i:Nat}(d:bn h E)(f:i<h.Spans.length)(c:eZ h (nth h.Spans i).Page=false):JK h (giveP h i):=by
 obtain⟨g,k,-⟩:=d.mapped (am f);refine⟨rfl,rfl,λs l a=>?_,λq b=>.inl ?_⟩
 ·obtain⟨j,n,rfl⟩:=bf l
  exact⟨_,dN.2 ⟨j,n,λe=>(by subst e;rw[c]at a;cases a),rfl⟩,rfl,λ_ z=>z⟩
 ·have o:=vK d.ker (p:=(nth h.Spans i).Page) ⟨g,k⟩ q
  change (nth (cb h.Kernel (nth h.Spans i).Page).Machine.Table.Entries q).Mode≠0 at b;show(nth h.Kernel.Machine.Table.Entries q).Mode≠0/\(nth (cb h.Kernel (nth h.Spans i).Page).Machine.Table.Entries q).Frame=(nth h.Kernel.Machine.Table.Entries q).Frame;rw[o]at b |-;split at b
  ·exact absurd rfl b
  ·rename_i e
   rw[C8 e];exact⟨b,rfl⟩
theorem JK.freeS{h:ab}{E:List Int}{a:Int}{i:Nat}(c:bn h (a::E))(b:i<h.Spans.length)(d:eL (nth h.Spans i) a):JK h (freeS h i a):=by
 have g:=c.give b d;have f:=JK.clrS c b d;unfold Ab.freeS;split
 ·rename_i e
  have j:nth (Ab.clrS h i a).Spans i=jx (nth h.Spans i) (dt (nth h.Spans i) a):=by unfold Ab.clrS;simp only[ci,true_and];rw[C9 b]
  exact f.trans (JK.giveP (h:=Ab.clrS h i a) g (by unfold Ab.clrS;simp only[I1];exact b) (by rw[j];exact e.2))
 ·exact f
theorem JK.freeA{h:ab}{E:List Int}{a:Int}(b:bn h (a::E)):JK h (freeA h a):=by
 obtain⟨c,d,-⟩:=b.at (b.hin a (R1 ..));exact JK.freeS b c d
theorem JK.recyc{h:ab}{E:List Int}{a:Int}{t:Nat}(b:bn h (a::E)):JK h (recyc t h a):=by
 unfold Ab.recyc;split
 ·exact JK.eq rfl rfl rfl rfl
 ·exact JK.freeA b
theorem JK.recycs{t:Nat}{E:List Int} : ∀{az:List Int}{h:ab},bn h (az++E)->t<h.Caches.length->JK h (recycs t h az)
 | [],h,_,_=>JK.refl h
 | a::az,h,b,c=>(JK.recyc (t:=t) b).trans (JK.recycs (az:=az) (h:=Ab.recyc t h a) (b.recyc c) (by rw[(qo t h a).1];exact c))
theorem JK.freeAs{E:List Int} : ∀{az:List Int}{h:ab},bn h (az++E)->JK h (freeAs h az)
 | [],h,_=>JK.refl h
 | a::az,h,b=>(JK.freeA b).trans (JK.freeAs (az:=az) (h:=Ab.freeA h a) b.freeA)
theorem JK.flushN{t:Nat}{h:ab}(c:bn h [])(d:t<h.Caches.length):∀{k:Nat},k<=4->JK h (flushN t h k).1
 | 0,_=>JK.refl h
 | k+1,e=>by
  obtain⟨h1,f,-⟩:=jZ c d (k:=k) ω;have a:t<(Ab.flushN t h k).1.Caches.length:=ω
  have b:k<(nth (Ab.flushN t h k).1.Caches t).Lists.length:=by rw[(dL (h1.cach _ (am a))).1];omega
  exact JK.trans (h1:=Ab.spilt (Ab.flushN t h k).1 t k) ((JK.flushN c d (k:=k) ω).trans (JK.eq rfl rfl rfl rfl)) (JK.freeAs (h1.spilt a b))
theorem zq{h:ab}{E:List Int}(a:bn h E){k:Nat}(b:k<h.Larges.length):0<=(nth h.Larges k).Page/\(nth h.Larges k).Page+((nth h.Larges k).Pages.toNat:Nat)<=(tbl h).Entries.length:=by
 have c:=aU (a.L.lok _ (am b));have d:=a.pg.bnd _ (fA (sp:=h.Spans) (am b) (dd.2 ⟨(nth h.Larges k).Pages.toNat - 1,ω,rfl⟩));exact⟨ω,ω⟩
theorem JK.freeL{h:ab}{E:List Int}{i k:Nat}(b:bn h E)(c:k<h.Larges.length):JK h (freeL h i k):=by
 obtain⟨d,f⟩:=zq b c;refine JK.less rfl rfl rfl λq a=>?_
 have g:=lr b.ker d (nth h.Larges k).Pages.toNat f q;change (nth (d3 h.Kernel (nth h.Larges k).Page (nth h.Larges k).Pages.toNat).Machine.Table.Entries q).Mode≠0 at a;show nth (d3 h.Kernel (nth h.Larges k).Page (nth h.Larges k).Pages.toNat).Machine.Table.Entries q=nth h.Kernel.Machine.Table.Entries q;rw[g]at a |-;split at a
 ·exact absurd rfl a
 ·rename_i e;rw[C8 e]
theorem JK.freeOb{h:ab}{t i:Nat}(a:bn h [])(c:i<h.Objs.length)(d:t<h.Caches.length):JK h (freeOb h t i).1:=by
 unfold Ab.freeOb;split
 ·rename_i b
  obtain⟨l,e,h1,-⟩:=(dI a (am c)).1 b;exact JK.freeL a (uy e h1).1
 ·rename_i b
  split
  ·exact JK.refl h
  ·have h1:=a.inQuar c b
   exact JK.trans (h1:=Ab.inQuar h i) (JK.eq rfl rfl rfl rfl) (JK.recycs (E:=[]) (by rw[List.append_nil];exact h1) d)
theorem JK.take{h:ab}{i:Nat}{k sd:Int}(b:eZ h (nth h.Spans i).Page=false):JK h {h with Seed:=sd,Spans:=h.Spans.set i (pQ (nth h.Spans i) k)}:=by
 refine⟨rfl,rfl,λs c a=>?_,λq d=>.inl ⟨d,rfl⟩⟩;obtain⟨j,f,rfl⟩:=bf c;exact⟨_,jh _ f λe=>(by subst e;rw[b]at a;cases a),rfl,λ_ z=>z⟩
theorem zP{t:aG}{q:Nat}(h:(nth t.Entries q).Mode≠0):q<t.Entries.length:=by
 by_cases e:q<t.Entries.length
 ·exact e
 ·exfalso
  apply h;unfold nth;rw[O2,I2 ω]
  rfl
theorem JK.addS{h:ab}{k:af}{l:List ay}{p c:Int}(s:zA h.Kernel p (k,true)):JK h (addS h k l p c):=by
 obtain⟨f,t,w,d,n⟩:=s.yes rfl;have b:k.Machine.Table.Entries.length=h.Kernel.Machine.Table.Entries.length:=s.len;refine⟨rfl,rfl,λz o _=>⟨z,dm.2 (.inr o),rfl,λ_ y=>y⟩,λq g=>?_⟩;change (nth k.Machine.Table.Entries q).Mode≠0 at g;show((nth h.Kernel.Machine.Table.Entries q).Mode≠0/\(nth k.Machine.Table.Entries q).Frame=(nth h.Kernel.Machine.Table.Entries q).Frame)\/∀u:Nat,(nth k.Machine.Table.Entries u).Mode≠0->(nth k.Machine.Table.Entries u).Frame=(nth k.Machine.Table.Entries q).Frame->u=q
 by_cases e:(q:Int)=p
 ·refine .inr λu i a=>?_
  have j:=zP i;have f3u:=d u;have f3q:=d q;simp only at f3u f3q;rw[C9 e]at f3q;rw[f3q]at a;by_cases r:(u:Int)=p
  ·omega
  ·rw[C8 r]at f3u
   rw[f3u]at i a;exact absurd a (n u (by rw[<-b];exact j) i)
 ·have f3q:=d q
  simp only at f3q;rw[C8 e]at f3q;rw[f3q]at g |-;exact .inl ⟨g,rfl⟩
theorem JK.addL{h:ab}{k:af}{g:List ay}{p size t:Int}{n:Nat}(s:n7 h.Kernel p n (k,n)):JK h (addL h k g p n size t):=by
 have a:k.Machine.Table.Entries.length=h.Kernel.Machine.Table.Entries.length:=s.len;refine⟨rfl,rfl,λz i _=>⟨z,i,rfl,λ_ y=>y⟩,λq b=>?_⟩;change (nth k.Machine.Table.Entries q).Mode≠0 at b;show((nth h.Kernel.Machine.Table.Entries q).Mode≠0/\(nth k.Machine.Table.Entries q).Frame=(nth h.Kernel.Machine.Table.Entries q).Frame)\/∀u:Nat,(nth k.Machine.Table.Entries u).Mode≠0->(nth k.Machine.Table.Entries u).Frame=(nth k.Machine.Table.Entries q).Frame->u=q
 by_cases e:p<=q/\(q:Int)<p+n
 ·exact .inr λu d c=>(s.new q e.1 e.2).2 u (by rw[<-a];exact zP d) d c
 ·have f:=s.out q e
  simp only at f;rw[f]at b |-;exact .inl ⟨b,rfl⟩
theorem rX(h:ab):∀{n:Nat},n<=h.Spans.length->∀s∈kD h n,(aT h s.Page).length=1
 | 0,_,s,a=>by cases a
 | n+1,b,s,a=>by
  unfold kD at a;split at a
  ·rename_i e
   rcases W2.1 a with a|a
   ·exact rX h ω s a
   ·unfold yx at e
    simp only[I0,C0]at e;rw[C1.1 a];exact e.2
  ·exact rX h ω s a
theorem bn.sole{h:ab}{E:List Int}(e:bn h E){s:au}(f:s∈h.Spans)(h1:(aT h s.Page).length=1):nB (tbl h) s.Page:=λq a g=>by
 obtain⟨k,l,b⟩:=e.mapped f;have i:s.Page=((s.Page.toNat:Nat):Int):=ω
 rw[i,eE (by show s.Page.toNat<(tbl h).Entries.length;omega) b]at h1;obtain⟨z,j⟩:=List.length_eq_one_iff.1 h1;have c:(s.Page.toNat:Int)∈pagesOn (tbl h) (nth (tbl h).Entries s.Page.toNat).Frame:=d7.2 ⟨ω,b,rfl⟩;have d:(q:Int)∈pagesOn (tbl h) (nth (tbl h).Entries s.Page.toNat).Frame:=d7.2 ⟨zP a,a,g⟩;rw[j]at c d;simp only[C1]at c d;omega
theorem Gb{h:ab}(hi:bn h [])(l:h.Meshing=false):bn (started h).1 []/\JI (started h).1:=by
 have F:=hi.nums;unfold cg at F;rw[C0]at F;have L:=(lO (bN h).length (show 0<=h.Seed/\h.Seed<=1073741823 by omega) ((bN h).length - 1)).2;have n:=pH (bN h) (show 0<=h.Seed/\h.Seed<=1073741823 by omega);have c:cg {h with Seed:=(shuf (bN h).length h.Seed).2} = true:=by
  unfold cg;rw[C0];unfold shuf;simp only;omega
 cases o:lR (bN h) h.Seed with
 | nil=>
  have f:Ab.started h=({h with Seed:=(shuf (bN h).length h.Seed).2},false):=by unfold Ab.started;rw[o]
  rw[f];exact⟨{hi with nums:=c},⟨λe=>by simp[l]at e,λe=>by simp[l]at e,λe=>by simp[l]at e,λe=>by simp[l]at e⟩⟩
 | cons q Q=>
  obtain⟨R,S,g⟩:=n q (by rw[o];exact R1 ..);have f:Ab.started h=({h with Seed:=(shuf (bN h).length h.Seed).2,Meshing:=true,Job:=vN (dB (nth (bN h) q.A.toNat) (nth (bN h) q.B.toNat))},true):=by unfold Ab.started;rw[o]
  rw[f];have d:∀s∈bN h,s∈h.Spans/\nB (tbl h) s.Page:=λs M=>by
   have G:=List.mem_of_mem_take M;have H:=ot h (X2 _) s G;exact⟨H,hi.sole H (rX h (X2 _) s G)⟩
  have j:=d _ (am (xs:=bN h) (i:=q.A.toNat) ω);have k:=d _ (am (xs:=bN h) (i:=q.B.toNat) ω);generalize nth (bN h) q.A.toNat=a at g j |-;generalize nth (bN h) q.B.toNat=b at g k |-;obtain⟨N,T,U⟩:=sw g;have p:(dB a b).Keep=a.Page/\(dB a b).Move=b.Page\/(dB a b).Keep=b.Page/\(dB a b).Move=a.Page:=by
   unfold dB;split
   ·exact .inr ⟨rfl,rfl⟩
   ·exact .inl ⟨rfl,rfl⟩
  have r:ja (vN (dB a b))=true:=ek.2 ⟨N,by show(0:Int)<=0;omega,by show(0:Int)<=5;omega,by show(0:Int)<=0;omega,by show(0:Int)<=(((dB a b).Cells.length:Nat):Int);omega⟩;have t:∃x∈h.Spans,∃y∈h.Spans,x.Page=(dB a b).Keep/\y.Page=(dB a b).Move/\meshable x y=true/\nB (tbl h) x.Page/\nB (tbl h) y.Page:=by
   rcases p with⟨u,w⟩|⟨u,w⟩
   ·exact⟨a,j.1,b,k.1,u.symm,w.symm,g,j.2,k.2⟩
   ·exact⟨b,k.1,a,j.1,u.symm,w.symm,by rw[iO];exact g,k.2,j.2⟩
  obtain⟨x,J,y,K,C,D,E,O,P⟩:=t;exact⟨{hi with nums:=c,job:=λ_=>⟨r,⟨x,J,C⟩,⟨y,K,D⟩⟩,noj:=λe=>by cases e},⟨λ_=>⟨by show(0:Int)<=0;omega,by show(0:Int)<=3;omega⟩,λ_=>⟨x,J,y,K,C,D,E⟩,λ_=>by show nB (tbl h) (dB a b).Keep;rw[<-C];exact O,λ_=>by show nB (tbl h) (dB a b).Move;rw[<-D];exact P⟩⟩
def fJ(m:aI)(f:Nat):aI:=⟨m.Buffers.set f ((nth m.Buffers f).drop 1),m.Inbox.set (nth (nth m.Buffers f) 0).To.toNat (nth m.Inbox (nth (nth m.Buffers f) 0).To.toNat++[(nth (nth m.Buffers f) 0).Addr])⟩
def jU(m:aI)(t:Nat):aI:=⟨m.Buffers,m.Inbox.set t []⟩
def gB(m:aI)(f:Nat)(p:cZ):aI:=⟨m.Buffers.set f (nth m.Buffers f++[p]),m.Inbox⟩
theorem dv{m:aI} : bI m=true↔(1<=m.Buffers.length/\m.Buffers.length<=4/\m.Inbox.length=m.Buffers.length)/\(∀i,i<m.Buffers.length->(∀p∈nth m.Buffers i,0<=p.To/\p.To<=(m.Buffers.length:Int) - 1/\0<=p.Addr)/\∀a∈nth m.Inbox i,0<=a)/\br m m.Buffers.length<=30:=by
 unfold bI;simp only[I0,C0,ch,gq,V3,ml,MM];exact and_assoc
theorem nL(m:aI)(f t:Nat)(x:List cZ)(y:List Int)(g:f<m.Buffers.length)(h:t<m.Inbox.length):∀n:Nat,br ⟨m.Buffers.set f x,m.Inbox.set t y⟩ n=br m n+(if f<n then(x.length:Int) - ((nth m.Buffers f).length:Nat) else 0)+(if t<n then(y.length:Int) - ((nth m.Inbox t).length:Nat) else 0)
 | 0=>by simp[br]
 | n+1=>by
  have i:=nL m f t x y g h n;have j:(nth (m.Buffers.set f x) n).length=if f=n then x.length else(nth m.Buffers n).length:=by
   rw[ci];by_cases e:f=n
   ·rw[C9 ⟨e,ω⟩,C9 e]
   ·rw[C8 λz=>e z.1,C8 e]
  have k:(nth (m.Inbox.set t y) n).length=if t=n then y.length else(nth m.Inbox n).length:=by
   rw[ci];by_cases e:t=n
   ·rw[C9 ⟨e,ω⟩,C9 e]
   ·rw[C8 λz=>e z.1,C8 e]
  simp only[br,i,j,k];by_cases d:f=n
  ·subst d
   by_cases b:t=f
   ·subst b
    simp only[if_true,Nat.lt_irrefl,if_false,Nat.lt_succ_self];omega
   ·simp only[if_true,Nat.lt_irrefl,if_false,Nat.lt_succ_self,C8 b]
    by_cases a:t<f
    ·rw[C9 a,C9 (show t<f+1 by omega)];omega
    ·rw[C8 a,C8 (show ¬t<f+1 by omega)];omega
  ·by_cases b:t=n
   ·subst b
    simp only[if_true,Nat.lt_irrefl,if_false,Nat.lt_succ_self,C8 d];by_cases a:f<t
    ·rw[C9 a,C9 (show f<t+1 by omega)];omega
    ·rw[C8 a,C8 (show ¬f<t+1 by omega)];omega
   ·simp only[C8 d,C8 b]
    by_cases a:f<n
    ·rw[C9 a,C9 (show f<n+1 by omega)]
     by_cases c:t<n
     ·rw[C9 c,C9 (show t<n+1 by omega)];omega
     ·rw[C8 c,C8 (show ¬t<n+1 by omega)];omega
    ·rw[C8 a,C8 (show ¬f<n+1 by omega)]
     by_cases c:t<n
     ·rw[C9 c,C9 (show t<n+1 by omega)];omega
     ·rw[C8 c,C8 (show ¬t<n+1 by omega)];omega
theorem MX{α:Type}[Inhabited α]{xs:List α}{i:Nat}(h:i<xs.length):xs.set i (nth xs i)=xs:=by
 rw[<-C2.1 (ah h) |>.2];exact List.set_getElem_self h
theorem Dh{m:aI}(h:bI m=true){f:Nat}(d:f<m.Buffers.length)(n:0<(nth m.Buffers f).length):bI (fJ m f)=true:=by
 obtain⟨⟨o,q,r⟩,g,y⟩:=dv.1 h;obtain⟨t,A⟩:=g f d;have c:=t _ (am n);have u:(nth (nth m.Buffers f) 0).To.toNat<m.Inbox.length:=ω
 refine dv.2 ⟨⟨?_,?_,?_⟩,λi j=>?_,?_⟩
 ·simp only[fJ,I1];exact o
 ·simp only[fJ,I1];exact q
 ·simp only[fJ,I1];exact r
 ·simp only[fJ,I1]at j |-
  obtain⟨k,l⟩:=g i j;simp only[ci];refine⟨λp c=>?_,λa b=>?_⟩
  ·split at c
   ·rename_i e;rw[<-e.1]at k
    refine(g f d).1 p (List.mem_of_mem_drop c)
   ·exact k p c
  ·split at b
   ·rename_i e
    rcases W2.1 b with b|b
    ·rw[e.1]at b;exact l a b
    ·rw[C1.1 b];exact c.2.2
   ·exact l a b
 ·have w:=nL m f (nth (nth m.Buffers f) 0).To.toNat ((nth m.Buffers f).drop 1) (nth m.Inbox (nth (nth m.Buffers f) 0).To.toNat++[(nth (nth m.Buffers f) 0).Addr]) d u m.Buffers.length
  simp only[fJ,I1];rw[w,C9 d,C9 ω,z3,v3,List.length_singleton];omega
theorem Ms{m:aI}(h:bI m=true){t:Nat}(d:t<m.Inbox.length):bI (jU m t)=true:=by
 obtain⟨⟨e,f,g⟩,j,o⟩:=dv.1 h;refine dv.2 ⟨⟨e,f,?_⟩,λi k=>?_,?_⟩
 ·simp only[jU,I1];exact g
 ·obtain⟨l,n⟩:=j i k
  simp only[jU,ci];refine⟨l,λa b=>?_⟩;split at b
  ·cases b
  ·exact n a b
 ·have c:=nL m t t (nth m.Buffers t) [] ω d m.Buffers.length
  rw[MX ω]at c;show br ⟨m.Buffers,m.Inbox.set t []⟩ m.Buffers.length<=30;rw[c,C9 ω,C9 ω,List.length_nil];omega
theorem jO{m:aI}(h:bI m=true)(b:Int):(aN m).count b=(m.Buffers.flatMap λl=>l.map (·.Addr)).count b+(m.Inbox.flatMap λx=>x).count b:=by
 unfold aN;rw[C9 h,I5,ka]
theorem bn.mailed{h:ab}{E c:List Int}{m:aI}(d:bn h E)(i:bI m=true)(j:m.Buffers.length=h.Mail.Buffers.length)(k:∀b,c.count b+(aN m).count b=E.count b+(aN h.Mail).count b)(f:∀a,a∈c\/a∈aN m->iX h.Spans a (-1)):bn {h with Mail:=m} c:=by
 have g:(E++holders h).Perm (c++holders {h with Mail:=m}):=by
  refine List.perm_iff_count.2 λb=>?_
  have l:=k b;simp only[holders,cq,I5];omega
 exact {d with
   mail:=i
   nc:=d.nc.trans j.symm
   hfl:=λa e=>f a (.inr e)
   hin:=λa e=>f a (.inl e)
   nd:=g.nodup_iff.1 d.nd
   mem:=λb=>by rw[<-g.mem_iff];exact d.mem b}
theorem FC{h:ab}{E d:List Int}{m:aI}(f:bn h E)(g:∀b,d.count b+(aN m).count b=E.count b+(aN h.Mail).count b):∀a,a∈d\/a∈aN m->iX h.Spans a (-1):=λa c=>by
 have i:=g a;have j:0<d.count a+(aN m).count a:=by
  rcases c with c|c
  ·have:=List.count_pos_iff.2 c;omega
  ·have:=List.count_pos_iff.2 c;omega
 by_cases e:0<E.count a
 ·exact f.hin a (List.count_pos_iff.1 e)
 ·exact f.hfl a (List.count_pos_iff.1 ω)
theorem bn.deliv{h:ab}{E:List Int}{f:Nat}(a:bn h E)(e:f<h.Mail.Buffers.length)(d:0<(nth h.Mail.Buffers f).length):bn {h with Mail:=fJ h.Mail f} E:=by
 have c:=Dh a.mail e d;obtain⟨⟨q,r,t⟩,j,u⟩:=dv.1 a.mail;have k:=(j f e).1 _ (am d);have g:∀b,E.count b+(aN (fJ h.Mail f)).count b=E.count b+(aN h.Mail).count b:=λb=>by
  rw[jO c,jO a.mail];have i:=i7 (λl:List cZ=>l.map (·.Addr)) b h.Mail.Buffers f ((nth h.Mail.Buffers f).drop 1) e;have n:=i7 (λx:List Int=>x) b h.Mail.Inbox (nth (nth h.Mail.Buffers f) 0).To.toNat (nth h.Mail.Inbox (nth (nth h.Mail.Buffers f) 0).To.toNat++[(nth (nth h.Mail.Buffers f) 0).Addr]) ω;have o:(nth h.Mail.Buffers f).map (·.Addr)=(nth (nth h.Mail.Buffers f) 0).Addr::((nth h.Mail.Buffers f).drop 1).map (·.Addr):=by
   generalize nth h.Mail.Buffers f=l at d
   match l,d with
   | p::l,_=>rfl
  simp only[fJ];rw[o]at i;simp only[List.count_cons]at i;simp only[I5,List.count_singleton]at n;omega
 exact a.mailed c (by simp[fJ]) g (FC a g)
theorem bn.coll{h:ab}{E:List Int}{t:Nat}(c:bn h E)(d:t<h.Mail.Inbox.length):bn {h with Mail:=jU h.Mail t} (nth h.Mail.Inbox t++E):=by
 have a:=Ms c.mail d;have e:∀b,(nth h.Mail.Inbox t++E).count b+(aN (jU h.Mail t)).count b=E.count b+(aN h.Mail).count b:=λb=>by
  rw[jO a,jO c.mail];have f:=i7 (λx:List Int=>x) b h.Mail.Inbox t [] d;simp only[List.count_nil]at f;simp only[jU,I5];omega
 exact c.mailed a rfl e (FC c e)
theorem bn.send{h:ab}{E:List Int}{f:Nat}{p:cZ}(c:bn h (p.Addr::E))(e:f<h.Mail.Buffers.length)(a:bI (gB h.Mail f p)=true):bn {h with Mail:=gB h.Mail f p} E:=by
 have d:∀b,E.count b+(aN (gB h.Mail f p)).count b=(p.Addr::E).count b+(aN h.Mail).count b:=λb=>by
  rw[jO a,jO c.mail];have g:=i7 (λl:List cZ=>l.map (·.Addr)) b h.Mail.Buffers f (nth h.Mail.Buffers f++[p]) e;simp only[v5,C5,List.map_nil,I5,List.count_singleton]at g;simp only[gB,List.count_cons];omega
 exact c.mailed a (by simp[gB]) d (FC c d)
def q8(now:Int):List aL->Nat
 | []=>0
 | x::xs=>if x.Since<now - 100 then q8 now xs+1 else 0
def aged(h:ab)(n:Int):ab:={h with Clock:=h.Clock+n,Quar:=⟨h.Quar.Room,h.Quar.Lst.drop (q8 (h.Clock+n) h.Quar.Lst)⟩}
def mb(h:ab)(n:Int):List Int:=(h.Quar.Lst.take (q8 (h.Clock+n) h.Quar.Lst)).map (·.Addr)
def tick(h:ab)(n:Int):ab:=freeAs (aged h n) (mb h n)
theorem ny(x:aL)(xs:List aL):∀n,quarCells (x::xs) (n+1)=csz x.Class+quarCells xs n
 | 0=>by simp only[quarCells];show 0+csz x.Class=csz x.Class+0;omega
 | n+1=>by
  rw[i9,ny x xs n,i9];show csz x.Class+quarCells xs n+csz (nth xs n).Class=_;omega
theorem NY(k:Int):0<=csz k:=by
 unfold csz;split
 ·exact Int.le_of_lt (Int.pow_pos (by decide))
 ·decide
theorem Gd:∀(l:List aL)(k:Nat),qc (l.drop k)<=qc l
 | [],k=>by simp
 | x::xs,0=>T4 _
 | x::xs,k+1=>by
  have a:=Gd xs k;have b:=NY x.Class;have c:qc (x::xs)=csz x.Class+qc xs:=ny x xs xs.length;show qc (xs.drop k)<=qc (x::xs);omega
theorem bn.aged{h:ab}{E:List Int}{n:Int}(a:bn h E)(t:0<=n)(u:h.Clock+n<=1000000):bn (aged h n) (mb h n++E):=by
 obtain⟨i,j,k,o,p,q⟩:=ix.1 a.quar;have c:=a.nums;unfold cg at c;rw[C0]at c;have e:=List.drop_sublist (q8 (h.Clock+n) h.Quar.Lst) h.Quar.Lst;have g:(E++holders h).Perm ((mb h n++E)++holders (Ab.aged h n)):=by
  refine List.perm_iff_count.2 λb=>?_
  have r:=U0 (λl:List aL=>(l.map (·.Addr)).count b) (List.take_append_drop (q8 (h.Clock+n) h.Quar.Lst) h.Quar.Lst);simp only[v5,I5]at r;simp only[holders,cq,Ab.aged,mb,I5];omega
 exact {a with
   nums:=by unfold cg;rw[C0];simp only[Ab.aged];omega
   quar:=ix.2 ⟨λy d=>i y (e.subset d),j.sublist e,k.sublist (e.map _),o,p,R4 (Gd _ _) q⟩
   snc:=λy d=>by
     have:=a.snc y (e.subset d);show y.Since<=h.Clock+n;omega
   hqu:=λy d=>a.hqu y (e.subset d)
   hin:=λb f=>by
     rcases W2.1 f with f|f
     · obtain⟨y,d,rfl⟩:=Z3.1 f
       exact(a.hqu y (List.mem_of_mem_take d)).any
     · exact a.hin b f
   nd:=g.nodup_iff.1 a.nd
   mem:=λb=>by rw[<-g.mem_iff];exact a.mem b}
theorem bn.tick{h:ab}{n:Int}(a:bn h [])(b:0<=n)(c:h.Clock+n<=1000000):bn (tick h n) []/\JK h (tick h n):=by
 have h1:=a.aged b c;exact⟨bn.freeAs h1,JK.trans (h1:=Ab.aged h n) (JK.eq rfl rfl rfl rfl) (JK.freeAs h1)⟩
def collect(h:ab)(t:Nat):ab:=recycs t {h with Mail:=jU h.Mail t} (nth h.Mail.Inbox t)
theorem bn.collect{h:ab}{t:Nat}(a:bn h [])(b:t<h.Caches.length):bn (collect h t) []/\JK h (collect h t):=by
 have h1:=a.coll (t:=t) (by rw[(dv.1 a.mail).1.2.2,<-a.nc];exact b);exact⟨bn.recycs h1 b,JK.trans (h1:={h with Mail:=jU h.Mail t}) (JK.eq rfl rfl rfl rfl) (JK.recycs h1 b)⟩
def NA(h:ab)(t i:Nat):ab:={h with Kernel:=dY h.Kernel (nth h.Objs i).Addr (csz (aM (nth h.Objs i).Size)).toNat,Objs:=dele h.Objs i,Mail:=gB h.Mail t ⟨(nth h.Objs i).Thread,(nth h.Objs i).Addr⟩}
def freeT(h:ab)(t i:Nat):ab × Int:=
 if aM (nth h.Objs i).Size<0 then(freeL h i (tX h (nth h.Objs i).Addr),0)
 else if(ar (tbl h) ((nth h.Objs i).Addr / 16)).Mode=1 then(h,5)
 else if(nth h.Objs i).Thread=t then(GG h t i,0)
 else if bI (gB h.Mail t ⟨(nth h.Objs i).Thread,(nth h.Objs i).Addr⟩)=true then(NA h t i,0) else(h,5)
theorem sv{h:ab}{t i:Nat}(e:(nth h.Objs i).Thread=t):freeT h t i=freeOb h t i:=by
 unfold freeT freeOb;rw[C9 e]
theorem bn.freeT{h:ab}{t i:Nat}(a:bn h [])(b:i<h.Objs.length)(c:t<h.Caches.length):bn (freeT h t i).1 []/\JK h (freeT h t i).1:=by
 by_cases e:(nth h.Objs i).Thread=t
 ·rw[sv e];exact⟨a.freeOb b c,JK.freeOb a b c⟩
 have d:=a.freeOb b c;have f:=JK.freeOb a b c;unfold Ab.freeOb at d f;unfold Ab.freeT;split
 ·rename_i g
  rw[C9 g]at d f;exact⟨d,f⟩
 rename_i g;rw[C8 g]at d f;split
 ·exact⟨a,JK.refl h⟩
 split
 ·rename_i j
  obtain⟨⟨s,l,n,o⟩,u⟩:=(dI a (am b)).2 g;have q:=a.dropO b (iX.any ⟨s,l,n,.inr o⟩);have r:=q.cells (k:=dY h.Kernel (nth h.Objs i).Addr (csz (aM (nth h.Objs i).Size)).toNat) (DM a.ker _ _) rfl;exact⟨bn.send (p:=⟨(nth h.Objs i).Thread,(nth h.Objs i).Addr⟩) r (by show t<h.Mail.Buffers.length;rw[<-a.nc];exact c) j,JK.eq rfl rfl rfl rfl⟩
 ·exact⟨a,JK.refl h⟩
def kI(k:af)(a v:Int):af:=setCell k (ed k a) (a % 16) v
theorem xd{k:af}(h:aB k=true){a v:Int}(b:(ar k.Machine.Table (a / 16)).Mode≠0)(c:0<=v/\v<=999):aB (kI k a v)=true:=by
 obtain⟨d,e,-⟩:=iP h b;exact qi h (f:=ed k a) d e c
theorem bn.store{h:ab}{a v:Int}(b:bn h [])(c:(ar h.Kernel.Machine.Table (a / 16)).Mode≠0)(d:0<=v/\v<=999):bn {h with Kernel:=kI h.Kernel a v} []/\JK h {h with Kernel:=kI h.Kernel a v}:=
 ⟨b.cells (xd b.ker c d) rfl,JK.eq rfl rfl rfl rfl⟩
theorem Nc{xs:List Int}{x:Int}(h:cK xs.length (λj=>decide (nth xs j≠x))=true):x∉xs:=λb=>by
 obtain⟨j,a⟩:=List.mem_iff_getElem?.1 b;have:=dH h (C2.1 a).1;rw[bu a]at this;simp at this
theorem B9(xs:List Int)(x:Int)(g:xs.length<=4611686018427387904):ao Tryz.prog 268 false [.val none (aD .imm xs),.val none [I x]] .one [B (decide (x∈xs))]:=by
 refine fO 18 [] Tryz.func268 rfl ?_
 repeat'(first|refine gO ?_|fail)
 (conv=>whnf)
 refine CE (ι:=Nat) (λi=>[(0,.hold .one (aD .imm xs)),(1,.hold .one [I (x)]),(5,.hold .one [I ((i:Nat):Int)])]) (λi=>i<=xs.length/\cK i (λj=>decide (nth xs j≠x))=true) (λi=>xs.length - i) 0 ?_ ⟨T0 _,rfl⟩ λi a=>?_
 ·exact wB
 obtain⟨a,b⟩:=a;by_cases c:i<xs.length
 ·have d:=ah c
  by_cases e:nth xs i=x
  ·repeat'(first|refine gA ?_|(conv=>whnf);first|with_reducible refine CB (aa d) ?_)
   exact U0 (λz=>[B z]) ((by symm;exact O0 (by rw[<-e];exact am c)))
  ·repeat'(first|refine gA ?_|(conv=>whnf);first|with_reducible refine CB (aa d) ?_)
   ((conv=>whnf);refine CC (i+1) ⟨ω,bM b (O0 e)⟩ ω ?_;(exact wB))
 ·repeat'(first|refine gD ?_|fail)
  obtain rfl:i=xs.length:=ω
  exact U0 (λz=>[B z]) ((by symm;exact R0 (Nc b)))
theorem bA.more{M f:ac}{w g:World}(h:bA M w g)(e:∀b o,M b o->f b o):bA f w g:=
 ⟨h.os,h.tape,h.output,h.size,λb a c=>h.blk b a λo d=>c o (e b o d),λb o a c=>h.cel b o a λd=>c (e b o d),λb o a c=>h.fro b o a λd=>c (e b o d)⟩
theorem aQ.wk{P:Program}{f:Nat}{sh:Bool}{c u:List C}{A B:List MA}{k:Kd}{rcs:List C}(h:aQ P f sh A (.ptr c::B) k rcs)(y:Jy c u):aQ P f sh A (.ptr u::B) k rcs:=by
 refine⟨h.has,λw S V i E F l G=>(h.run w S V i E F l G).mono λe w1 H=>?_⟩;obtain⟨v,J,K,X,L,S1,M,n,p,a,q,r,b,N,O,D⟩:=H;refine⟨v,J,K,X,L,S1,M,n,p,a,q,r,b,N,O,?_⟩;cases i with
 | nil=>exact D.elim
 | cons v0 i=>
  obtain⟨⟨Q,Y,R,T,U,⟨g,o,W,Z⟩,d⟩,t⟩:=D;refine⟨⟨Q,Y,R,T,U,⟨g,o,W,λj hj=>Z j (by rw[(ry y).1];exact hj)⟩,Aw y d⟩,t⟩
theorem aQ.frame{P:Program}{f:Nat}{sh:Bool}{c c' r:List C}{A B:List MA}{k:Kd}{rcs:List C}(h:aQ P f sh (.ptr c::A) (.ptr c'::B) k rcs)(hl:c'.length=c.length):aQ P f sh (.ptr (c++r)::A) (.ptr (c'++r)::B) k rcs:=by
 refine⟨h.has,λw S V vs hS hV hVd hA=>?_⟩;cases vs with
 | nil=>exact hA.elim
 | cons v0 vs=>
 obtain⟨⟨X1,Y,hX1,hY,O,⟨g,q,rfl,u⟩,ff,hf1,J,hf3⟩,hA'⟩:=hA;have hlen:(c++r).length=c.length+r.length:=v3
 let V0:ac:=piece g q ff 0 c.length
 let W:Nat->ac:=Le V0 (λi=>V (i+1))
 have hcX:∀o,q<=o->o<q+(c++r).length->X1 g o:=λo l a=>by
  have:=(u (o - q) ω).1
  rwa [show q+(o - q)=o by omega]at this
 have hV0:∀b o,V0 b o->V 0 b o:=λb o p=>by
  rcases p with⟨rfl,l,a⟩|⟨j,-,a,Q⟩
  ·exact hX1 _ _ (hcX o ω ω)
  ·exact hY _ _ (J j ω b o Q)
 have K:∀i b o,W i b o->V i b o:=λi b o p=>by
  cases i with
  | zero=>exact hV0 b o p
  | succ i=>exact p
 have hA2:LX w S W (.ptr c::A) (.pointer (some ⟨g,q,none⟩)::vs):=by
  refine⟨?_,hA'⟩;have:=sV (lo:=0) (n:=c.length) (cs:=c++r) ω u hf1 J hf3 O;rw[show bv (c++r) 0 c.length=c by simp[bv]]at this;simp only[Y5,Nat.add_zero]at this;exact this
 refine(h.run w S W _ hS (λi b o p=>hV i b o (K i b o p)) (λi i' D b o l a=>hVd i i' D b o (K i b o l) (K i' b o a)) hA2).mono λe w1 hv=>?_
 obtain⟨v,he,hk,X,V',S1,hX,E,hS1,hVd',hXV,hXS,hVS1,hh,hr,hm⟩:=hv;have H:∀b o,(∃i,W i b o)->∃i,V i b o:=λb o ⟨i,Z⟩=>⟨i,K i b o Z⟩
 let R:ac:=λb o=>V 0 b o/\¬V0 b o
 have hRW:∀b o,R b o->¬∃i,W i b o:=λb o y ⟨i,Z⟩=>by
  cases i with
  | zero=>exact y.2 Z
  | succ i=>exact hVd 0 (i+1) ω b o y.1 Z
 have F:∀b o,R b o->b<w.heap.size:=λb o y=>(hV 0 b o y.1).1
 have t:∀b o,R b o->¬((∃i,W i b o)\/(b<w1.heap.size/\w.heap.size<=b)):=λb o y p=>by
  rcases p with p|p
  ·exact hRW b o y p
  ·have:=F b o y;omega
 have hRsame:bk R w w1:=λb o y=>⟨hk.cel b o (F b o y) (hRW b o y),hk.fro b o (F b o y) (hRW b o y)⟩
 have hRS1:∀b o,R b o->¬S1 b o:=λb o y hs=>by
  rcases hS1 b o hs with⟨-,l⟩|l
  ·exact(hV 0 b o y.1).2 l
  ·exact t b o y l
 have hSsame:bk S w w1:=λb o hb=>⟨hk.cel b o (hS b o hb) (λ⟨i,Z⟩=>(hV i b o (K i b o Z)).2 hb),hk.fro b o (hS b o hb) (λ⟨i,Z⟩=>(hV i b o (K i b o Z)).2 hb)⟩
 have hRc:∀j,c.length<=j->j<(c++r).length->R g (q+j):=λj l a=>by
  refine⟨hX1 _ _ (u j a).1,λp=>?_⟩;rcases p with⟨-,Q,h4⟩|⟨N,Q,h4,h5⟩
  ·omega
  ·exact O _ _ (u j a).1 (J N ω _ _ h5)
 have L:∀j,c.length<=j->j<(c++r).length->∀b o,ff j b o->R b o:=λj l a b o p=>by
  refine⟨hY _ _ (J j a b o p),λhp=>?_⟩;rcases hp with⟨rfl,Q,h4⟩|⟨N,Q,h4,h5⟩
  ·exact O _ _ (hcX o ω ω) (J j a _ _ p)
  ·exact hf3 j N a ω ω b o p h5
 let U:Nat->ac:=Le (λb o=>V' 0 b o\/R b o) (λi=>V' (i+1))
 have hU:∀i b o,U i b o->V' i b o\/(i=0/\R b o):=λi b o p=>by
  cases i with
  | zero=>exact p.imp id (λh=>⟨rfl,h⟩)
  | succ i=>exact .inl p
 refine⟨v,he,hk.more H,X,U,S1,λb o p=>(hX b o p).imp (H b o) id,λi b o p=>?_,λb o p=>(hS1 b o p).imp id (Or.imp (H b o) id),λi i' D b o l a=>?_,λi b o l a=>?_,hXS,λi b o l a=>?_,hh,hr,?_,hm.2⟩
 ·rcases hU i b o p with l|⟨-,l⟩
  ·exact(E i b o l).imp (H b o) id
  ·exact .inl ⟨0,l.1⟩
 ·rcases hU i b o l with l|⟨e1,l⟩
  ·rcases hU i' b o a with a|⟨e2,a⟩
   ·exact hVd' i i' D b o l a
   ·exact t b o a (E i b o l)
  ·rcases hU i' b o a with a|⟨e2,a⟩
   ·exact t b o l (E i' b o a)
   ·exact D ω
 ·rcases hU i b o a with a|⟨-,a⟩
  ·exact hXV i b o l a
  ·exact t b o a (hX b o l)
 ·rcases hU i b o l with l|⟨-,l⟩
  ·exact hVS1 i b o l a
  ·exact hRS1 b o l a
 ·obtain⟨Xa,Ya,ha1,ha2,ha3,⟨ga,oa,hea,ha4⟩,fa,ha5,ha6,ha7⟩:=(show oX w1 (λb o=>S b o\/S1 b o) (V' 0) (.ptr c') (.pointer (some ⟨g,q,none⟩)) from hm.1)
  obtain⟨rfl,rfl⟩ : g=ga/\q=oa:=by simpa using hea
  have G:(c'++r).length=c.length+r.length:=by rw[v3,hl]
  show oX w1 (λb o=>S b o\/S1 b o) (λb o=>V' 0 b o\/R b o) (.ptr (c'++r)) (.pointer (some ⟨g,q,none⟩));have faV:∀j,j<c.length->∀b o,fa j b o->V' 0 b o:=λj M b o p=>ha2 _ _ (ha6 j ω b o p)
  refine⟨λb o=>Xa b o\/(R b o/\∃j,c.length<=j/\j<(c++r).length/\b=g/\o=q+j),λb o=>Ya b o\/∃j,c.length<=j/\j<(c++r).length/\ff j b o,λb o p=>?_,λb o p=>?_,λb o l a=>?_,⟨g,q,rfl,λj M=>?_⟩,λj=>if j<c.length then fa j else ff j,λj d M=>?_,λj M b o p=>?_,λj N M hj' D b o l a=>?_⟩
  ·exact p.imp (ha1 b o) (·.1)
  ·rcases p with p|⟨j,l,a,Q⟩
   ·exact .inl (ha2 b o p)
   ·exact .inr (L j l a b o Q)
  ·rcases l with l|⟨l,j,j1,j2,rfl,rfl⟩
   ·rcases a with a|⟨j,j1,j2,j3⟩
    ·exact ha3 b o l a
    ·exact t b o (L j j1 j2 b o j3) (E 0 b o (ha1 b o l))
   ·rcases a with a|⟨N,j3,j4,j5⟩
    ·exact t _ _ l (E 0 _ _ (ha2 _ _ a))
    ·exact O _ _ (u j j2).1 (J N j4 _ _ j5)
  ·rw[G]at M
   by_cases hc:j<c.length
   ·have:=ha4 j ω
    exact⟨.inl this.1,this.2⟩
   ·have y:=hRc j ω ω
    have hs:=hRsame _ _ y;have T:=u j ω;refine⟨.inr ⟨y,j,ω,ω,rfl,rfl⟩,?_,?_⟩
    ·rw[hs.1];exact T.2.1
    ·rw[hs.2];exact T.2.2
  ·dsimp only
   by_cases hc:j<c.length
   ·rw[C9 hc]
    rw[v4 ω]at M;exact ha5 j d M
   ·rw[C8 hc]
    rw[z4 ω,hl]at M;have hj2:(c++r)[j]? = some d:=by rw[z4 ω];exact M
    have hjl:=(C2.1 hj2).1;have Q:=(hf1 j d hj2).keep hSsame (λb o p=>hRsame b o (L j ω hjl b o p));have T:=(hRsame _ _ (hRc j ω hjl)).1;have:bT w1 .box (.pointer (some ⟨g,q,none⟩)) j=bT w .box (.pointer (some ⟨g,q,none⟩)) j:=by
     simp only[bT];rw[T]
    rw[this];exact Q.mono (λ_ _ h=>.inl h) (λ_ _ h=>h)
  ·rw[G]at M
   split at p
   ·rename_i hc;exact .inl (ha6 j ω b o p)
   ·exact .inr ⟨j,ω,ω,p⟩
  ·rw[G]at M hj'
   split at l
   ·rename_i c1
    split at a
    ·exact ha7 j N ω ω D b o l a
    ·exact t b o (L N ω ω b o a) (E 0 b o (faV j c1 b o l))
   ·split at a
    ·rename_i c1;exact t b o (L j ω ω b o l) (E 0 b o (faV N c1 b o a))
    ·exact hf3 j N ω ω D b o l a
mutual
theorem PU:∀c:C,fz (fz c)=fz c
 | .v x=>by simp[fz]
 | .s o rows=>by simp only[fz];rw[Gn rows]
 | .x=>by simp[fz]
 | .z=>by simp[fz]
 | .m _=>by simp[fz]
 | .it _ _=>by simp[fz]
theorem Gn:∀a:List (List C),fzR (fzR a)=fzR a
 | []=>rfl
 | r::a=>by simp only[fzR];rw[qt r,Gn a]
theorem qt:∀cs:List C,d9 (d9 cs)=d9 cs
 | []=>rfl
 | c::cs=>by simp only[d9];rw[PU c,qt cs]
end
theorem lV(k:af)(a:aB k=true)(e:k.Calls≠100000):aQ Tryz.prog 347 false [.ptr (af.enc .own k)] [.ptr (af.enc .own (cS k))] .one [B (!refd k)]:=by
 have b:=bt a;have c:=(aC.1 a).2.2.2.2;have d:=B9 k.Refuse k.Calls (by have:=b.2;omega);refine fM 22 [] [(2,9,[11,12,13,14,15,16,17,18,19])] [(0,0)] Tryz.func347 rfl (λu q=>?_)
 repeat'(first|refine gO ?_|(conv=>whnf);first|refine CD (d) ⟨⟨rfl,eB _⟩,⟨rfl,U0 (λz=>[I z]) ω⟩,trivial⟩ ?_)
 refine CF rfl ?_ ?_
 ·rfl
 ·exact wB
theorem mQ(k:af)(p m:Int)(a:aB k=true)(j:k.Calls≠100000)(d:(ar k.Machine.Table p).Mode≠0)(l:m=1\/m=2):aQ Tryz.prog 406 false [.ptr (af.enc .own k),.val none [I p],.val none [I m]] [.ptr (af.enc .own (jg k p m).1),.val none [I p],.val none [I m]] .one [B (jg k p m).2]:=by
 have n:=bt a;have b:=lV k a j;have g:=dJ (cS k) p n.1.2;have c:=aE m 1 2;rw[O0 ω]at c;obtain⟨o,t,w,-⟩:=cm a d;have h:=ah (xs:=k.Machine.Table.Entries) (i:=p.toNat) ω;have r:¬(ar (cS k).Machine.Table p).Mode=0:=d;unfold jg;cases e:refd k<;>rw[e]at b
 ·rw[C8 (by simp),HL]
  refine fM 31 [(347,[2])] [] [(0,0),(0,0),(0,0)] Tryz.func406 rfl (λu q=>?_)
  repeat'(first|refine gA ?_|(conv=>whnf);first|refine CH (b) (.inl rfl) ?_|refine CD (g) ⟨CO (cS k),⟨rfl,rfl⟩,trivial⟩ ?_|refine C7 (c) ?_|refine CK o (aa h) ?_|refine CM rfl rfl (aa h) rfl (Z0 rfl) rfl ?_)
  refine CF rfl ?_ ?_
  ·rfl
  ·exact wB
 ·rw[C9 rfl]
  refine fM 31 [(347,[2])] [] [(0,0),(0,0),(0,0)] Tryz.func406 rfl (λu q=>?_)
  repeat'(first|refine gA ?_|(conv=>whnf);first|refine CH (b) (.inl rfl) ?_|refine CD (g) ⟨CO (cS k),⟨rfl,rfl⟩,trivial⟩ ?_|refine C7 (c) ?_)
  refine CF rfl ?_ ?_
  ·rfl
  ·exact wB
theorem Rw.two{c:List C}{off i k j d e b:Nat}{K:List C->Nat->Prop}{o f:du}{rows rows2:List (List C)}{r a:List C}(h1:c[off]? = some (.s o rows))(g:rows[i]? = some r)(h:r.length=k)(l:r[j]? = some (.s f rows2))(n:rows2[d]? = some a)(p:a.length=e)(q:K a b):Rw c off [(i,k,j),(d,e,b)] K:=
 Rw.mk (r:=a) (j:=b) (by simp[bR,h1,g,h,l,n,p]) q
theorem ym(k:af)(a b c:Int)(h:aB k=true)(F:(ar k.Machine.Table a).Mode≠0)(G:(ar k.Machine.Table b).Mode≠0)(g:0<=c/\c<=15):aQ Tryz.prog 407 false [.ptr (af.enc .own k),.val none [I a],.val none [I b],.val none (aD .imm [c])] [.ptr (af.enc .own (xp k a b c)),.val none [I a],.val none [I b],.val none (aD .imm [c])] .one [B true]:=by
 have w:=bt h;have H:=dJ k a w.1.2;have J:=dJ k b w.1.2;have y:=aE c 0 15;rw[O0 g]at y;obtain⟨K,O,L,C,P⟩:=cm h F;obtain⟨M,Q,D,E,R⟩:=cm h G;have N:=(aY.1 (aC.1 h).2.1).2.2.1;have S:=row16 h (f:=mA k a) (by unfold mA;omega);have T:=row16 h (f:=mA k b) (by unfold mA;omega);have d:k.Machine.Frames.Cells[(ar k.Machine.Table a).Frame.toNat]? = some (nth k.Machine.Frames.Cells (mA k a)):=ah ω;have e:k.Machine.Frames.Cells[(ar k.Machine.Table b).Frame.toNat]? = some (nth k.Machine.Frames.Cells (mA k b)):=ah ω;have l:=ah (xs:=nth k.Machine.Frames.Cells (mA k a)) (i:=c.toNat) ω;have o:=ah (xs:=nth k.Machine.Frames.Cells (mA k b)) (i:=c.toNat) ω;have p:=ah (xs:=k.Machine.Table.Entries) (i:=a.toNat) ω;have r:=ah (xs:=k.Machine.Table.Entries) (i:=b.toNat) ω;rw[L]at C d;rw[D]at E e;have t:[c][0]? = some c:=rfl;refine fM 90 [] [(13,28,[61,62,63,64,65,66,67,68,69,70,71,72,73,74,75,76,77,78,79,80,81,82,83,84,85,86,87,88])] [(0,0),(0,0),(0,0),(0,0)] Tryz.func407 rfl (λu q=>?_)
 repeat'(first|refine gA ?_|(conv=>whnf);first|refine CA ?_|refine CD (H) ⟨CO k,⟨rfl,rfl⟩,trivial⟩ ?_|refine CD (J) ⟨CO k,⟨rfl,rfl⟩,trivial⟩ ?_)
 (conv=>whnf)
 refine CE (ι:=Nat) (λn=>[(0,.hold .box (af.enc .own k)),(1,.hold .one [I (a)]),(2,.hold .one [I (b)]),(3,.hold .one (aD .imm [c])),(9,.hold .one [I ((n:Nat):Int)])]) (λn=>n<=1) (λn=>1 - n) (0) ?_ (T0 _) λn U=>?_
 ·exact wB
 by_cases V:n<1
 ·obtain rfl:n=0:=ω
  repeat'(first|refine gD ?_|(conv=>whnf);first|refine CA ?_|refine CK (by decide) (aa t) ?_|refine C7 (y) ?_)
  ((conv=>whnf);refine CC 1 ω ω ?_;(exact wB))
 ·obtain rfl:n=1:=ω
  repeat'(first|refine gD ?_|(conv=>whnf);first|refine CA ?_|refine CK K (aa p) ?_|refine CK M (aa r) ?_|refine CG rfl (aa p) rfl ?_|refine CG rfl (aa r) rfl ?_)
  (conv=>whnf)
  refine CE (ι:=Nat) (λj=>[(0,.hold .box (af.enc .own (N9 k a b c j))),(3,.hold .one (aD .imm [c])),(10,.hold .one [I ((nth k.Machine.Table.Entries a.toNat).Frame)]),(11,.hold .one [I ((nth k.Machine.Table.Entries b.toNat).Frame)]),(12,.hold .one [I ((j:Nat):Int)])]) (λj=>j<=1) (λj=>1 - j) (0) ?_ (T0 _) λj W=>?_
  ·exact wB
  by_cases X:j<1
  ·obtain rfl:j=0:=ω
   repeat'(first|refine gD ?_|(conv=>whnf);first|refine CA ?_|refine CK (by decide) (aa t) ?_|refine CK C (aa d) ?_|refine CK E (aa e) ?_|refine CK g.1 (aa l) ?_|refine CK g.1 (aa o) ?_|refine CG rfl (aa e) rfl ?_|refine CG rfl (aa d) rfl ?_|refine Rw.two rfl (aa d) rfl rfl (aa l) rfl ?_|refine Pu.two rfl rfl (aa e) rfl rfl rfl (aa o) rfl (X2 _) rfl ?_)
   ((conv=>whnf);refine CC 1 ω ω ?_)
   rw[show N9 k a b c 1=xp k a b c from rfl];unfold xp;rw[DQ,show mA k b=(nth k.Machine.Table.Entries b.toNat).Frame.toNat by unfold mA;rw[D]];exact wB
  ·obtain rfl:j=1:=ω
   repeat'(first|refine gD ?_|(conv=>whnf);first|refine CA ?_)
   refine CF rfl ?_ ?_
   ·rfl
   ·exact wB
theorem F5(k:af)(p o:Int)(a:aB k=true)(y:k.Calls≠100000)(g:(ar k.Machine.Table p).Mode≠0)(h:(ar k.Machine.Table o).Mode≠0)(C:p≠o):aQ Tryz.prog 408 false [.ptr (af.enc .own k),.val none [I p],.val none [I o]] [.ptr (af.enc .own (yS k p o).1),.val none [I p],.val none [I o]] .one [B (yS k p o).2]:=by
 have b:=bt a;have c:=lV k a y;have j:=dJ (cS k) p b.1.2;have l:=dJ (cS k) o b.1.2;obtain⟨D,K,E,n,r⟩:=cm a g;obtain⟨F,L,M,N,O⟩:=cm a h;have G:=(aY.1 (aC.1 a).2.1).2.2.1;have d:=ah (xs:=k.Machine.Table.Entries) (i:=p.toNat) ω;have t:=ah (xs:=k.Machine.Table.Entries) (i:=o.toNat) ω;have H:¬(ar (cS k).Machine.Table p).Mode=0:=g;have J:¬(ar (cS k).Machine.Table o).Mode=0:=h;rw[E]at n r;have w:=qz (vA (cS k) p.toNat ⟨2,(nth k.Machine.Table.Entries o.toNat).Frame⟩) (nth k.Machine.Table.Entries p.toNat).Frame (Kr _ _ b.1.2) ⟨n,by show _<((k.Machine.Frames.Cells.length:Nat):Int);omega,r⟩;rw[KB]at w;unfold yS;cases e:refd k<;>rw[e]at c
 ·rw[C8 (by simp)]
  refine fM 60 [(347,[2]),(349,[2,0])] [(4,274,[38,39,40,41,42,43,44,45,46,47,48,49,50,51,52,53,54,56,0,1,2,3,4,5,6,7,8,9,10,11,12,13,14,15,16,17,1000,1001,1002,1003,1004,1005,1006,18,19])] [(0,0),(0,0),(0,0)] Tryz.func408 rfl (λu q=>?_)
  repeat'(first|refine gA ?_|(conv=>whnf);first|refine CA ?_|refine CH (c) (.inl rfl) ?_|refine CD (j) ⟨CO (cS k),⟨rfl,rfl⟩,trivial⟩ ?_|refine CD (l) ⟨CO (cS k),⟨rfl,rfl⟩,trivial⟩ ?_|refine CK D (aa d) ?_|refine CK F (aa t) ?_|refine CG rfl (aa d) rfl ?_|refine CG rfl (aa t) rfl ?_|refine CM rfl rfl (aa d) rfl (Z0 rfl) rfl ?_|refine CH (w) (.inl rfl) ?_)
  refine CF rfl ?_ ?_
  ·rfl
  ·exact wB
 ·rw[C9 rfl]
  refine fM 60 [(347,[2]),(349,[2,0])] [(4,274,[38,39,40,41,42,43,44,45,46,47,48,49,50,51,52,53,54,56,0,1,2,3,4,5,6,7,8,9,10,11,12,13,14,15,16,17,1000,1001,1002,1003,1004,1005,1006,18,19])] [(0,0),(0,0),(0,0)] Tryz.func408 rfl (λu q=>?_)
  repeat'(first|refine gA ?_|(conv=>whnf);first|refine CA ?_|refine CH (c) (.inl rfl) ?_|refine CD (j) ⟨CO (cS k),⟨rfl,rfl⟩,trivial⟩ ?_|refine CD (l) ⟨CO (cS k),⟨rfl,rfl⟩,trivial⟩ ?_)
  refine CF rfl ?_ ?_
  ·rfl
  ·exact wB
theorem xC(m:aS)(a:Int)(d:aS.sml m)(c:0<=a/\a<512):ao Tryz.prog 411 false [.val (some 3) (aS.enc .imm m),.val none [I a]] (.tup [some 2,none]) (bh.enc .own (ar m.Table (a / 16))++[I (a % 16)]):=by
 have e:=cT m.Table (a / 16) d.2;have b:a.tmod 16=a % 16:=eS c.1;refine fO 16 [] Tryz.func411 rfl ?_ (.inr ⟨trivial,trivial,trivial,trivial⟩)
 repeat'(first|refine gD ?_|(conv=>whnf);first|refine CA ?_|refine C7 (e) ?_|refine CJ (lM c) ?_|refine CL (by decide) ?_|refine CR b ?_)
 rfl
theorem F8(m:aS)(a v:Int)(o:dn m=true)(e:aS.sml m)(p:0<=a/\a<512)(q:0<=v/\v<=999)(r:(ar m.Table (a / 16)).Mode≠0->0<=(ar m.Table (a / 16)).Frame/\(ar m.Table (a / 16)).Frame<m.Frames.Cells.length/\(nth m.Frames.Cells (ar m.Table (a / 16)).Frame.toNat).length=16):ao Tryz.prog 410 false [.val (some 3) (aS.enc .imm m),.val none [I a],.val none [I v]] (.tup [some 3,none]) (aS.enc .own (jp m a v).1++[I (jp m a v).2]):=by
 have c:=oh m e;rw[o]at c;have g:=qP m e;have h:=xC m a e p;have d:=aE v 0 999;rw[O0 q]at d;have b:=aS.enc_fr (jp m a v).1;unfold jp at b |-;by_cases j:(ar m.Table (a / 16)).Mode=0
 ·rw[C9 j]at b |-
  refine fO 47 [] Tryz.func410 rfl ?_ (.inr (aP b ⟨trivial,trivial⟩))
  repeat'(first|refine gA ?_|(conv=>whnf);first|refine CA ?_|refine C7 (c) ?_|refine C7 (g) ?_|refine C7 (h) ?_|refine C7 (d) ?_)
  rfl
 ·rw[C8 j]at b |-
  by_cases l:(ar m.Table (a / 16)).Mode=1
  ·rw[C9 l]at b |-
   refine fO 47 [] Tryz.func410 rfl ?_ (.inr (aP b ⟨trivial,trivial⟩))
   repeat'(first|refine gA ?_|(conv=>whnf);first|refine CA ?_|refine C7 (c) ?_|refine C7 (g) ?_|refine C7 (h) ?_|refine C7 (d) ?_)
   rfl
  ·rw[C8 l]at b |-
   obtain⟨t,u,w⟩:=r j;have k:=ah (xs:=m.Frames.Cells) (i:=(ar m.Table (a / 16)).Frame.toNat) ω;have n:=ah (xs:=nth m.Frames.Cells (ar m.Table (a / 16)).Frame.toNat) (i:=(a % 16).toNat) ω;simp only at b |-;rw[EL]at b |-;refine fO 47 [] Tryz.func410 rfl ?_ (.inr (aP b ⟨trivial,trivial⟩))
   repeat'(first|refine gA ?_|(conv=>whnf);first|refine CA ?_|refine C7 (c) ?_|refine C7 (g) ?_|refine C7 (h) ?_|refine C7 (d) ?_|refine CK t (aa k) ?_|refine CK ω (aa n) ?_|refine CG rfl (aa k) rfl ?_|refine Pu.two rfl rfl (aa k) rfl rfl rfl (aa n) rfl (X2 _) rfl ?_)
   rfl
theorem ly{k:af}{j:cn} : jmay k j=true↔(aB k=true/\k.Calls≠100000)/\ja j=true/\(ar k.Machine.Table j.Plan.Keep).Mode≠0/\(ar k.Machine.Table j.Plan.Move).Mode≠0/\(ar k.Machine.Table j.Plan.Keep).Frame≠(ar k.Machine.Table j.Plan.Move).Frame:=by
 unfold jmay;simp only[I0,C0]
theorem lE{p:co}(h:eG p=true):p.Cells.length<=16:=by
 unfold eG at h;simp only[I0]at h;have a:∀i,i<p.Cells.length->(i:Int)<=nth p.Cells i:=λi=>by
  induction i with
  | zero=>
   intro a;have:=dH h.1 a;unfold mJ at this;rw[C0]at this;exact this.1
  | succ i b=>
   intro a;have c:=b ω;have:=dH h.1 a;unfold mJ at this;rw[C0]at this;have d:=this.2.2.resolve_left ω;rw[Nat.add_sub_cancel]at d;omega
 by_cases e:p.Cells.length<=16
 ·exact e
 ·exfalso
  have c:=a 16 ω;have:=dH h.1 (show 16<p.Cells.length by omega);unfold mJ at this;rw[C0]at this;omega
theorem HX{j:cn}(h:ja j=true):cn.sml j:=by
 have:=lE (ek.1 h).1;show j.Plan.Cells.length<=1048576;omega
theorem rF{k:af}(h:aB k=true):dn k.Machine=true:=by
 unfold aB at h;simp only[I0]at h;exact h.1.2
theorem zB(k:af)(j:cn)(p:jmay k j=true)(g:j.Phase=3):aQ Tryz.prog 409 false [.ptr (af.enc .own k),.ptr (xk j)] [.ptr (af.enc .own (jstep k j).1),.ptr (xk (jstep k j).2)] (.tup []) []:=by
 obtain⟨⟨a,r⟩,t,c,d,w⟩:=ly.1 p;obtain⟨h,H,J,K,L⟩:=ek.1 t;have y:=bt a;obtain⟨M,N,O,B,P⟩:=cm a c;have l:=(bx.1 (aC.1 a).2.2.1).2.2;have C:=lE h;have D:=(aY.1 (aC.1 a).2.1).2.2.1;unfold jstep;rw[C8 ω,C8 ω,C8 ω,C9 g];by_cases n:0<j.Next
 ·rw[C9 n]
  have o:=lv h (i:=(j.Next - 1).toNat) ω;have E:=ah (xs:=j.Plan.Cells) (i:=(j.Next - 1).toNat) ω;have F:0<=j.Plan.Keep*16+nth j.Plan.Cells (j.Next - 1).toNat/\j.Plan.Keep*16+nth j.Plan.Cells (j.Next - 1).toNat<512:=ω
  have G:(j.Plan.Keep*16+nth j.Plan.Cells (j.Next - 1).toNat) / 16=j.Plan.Keep:=ω
  have b:=F8 k.Machine (j.Plan.Keep*16+nth j.Plan.Cells (j.Next - 1).toNat) 0 (rF a) y.1 F ω (λ_=>by rw[G];exact⟨B,ω,row16 a (f:=mA k j.Plan.Keep) (by unfold mA;omega)⟩);generalize (jp k.Machine (j.Plan.Keep*16+nth j.Plan.Cells (j.Next - 1).toNat) 0).1=m at b |-;generalize (jp k.Machine (j.Plan.Keep*16+nth j.Plan.Cells (j.Next - 1).toNat) 0).2=e at b;refine fM 59 [(406,[2,0,0])] [(2,283,[20,21,22,23,24,25,26,27,28,29,30,31,32,33,34,35,36,37,38,39,40,41,42,19,43,44,4,0,1,2,3,4,5,6,7,8,9,10,11,12,13,14,15,16,17,18,19,20,21,22,23,24,25,26,27,1025,28])] [(0,0),(1,0)] Tryz.func409 rfl (λu q=>?_) (.inr trivial)
  repeat'(first|refine gD ?_|(conv=>whnf);first|refine CA ?_|refine CD (b) ⟨⟨rfl,aS.enc_fz k.Machine⟩,⟨rfl,rfl⟩,⟨rfl,rfl⟩,trivial⟩ ?_|refine CK ω (aa E) ?_|refine CA ?_)
  refine CF rfl rfl ?_;exact wC
 ·rw[C8 n]
  have b:=mQ k j.Plan.Move 2 a r d (.inr rfl);cases e:(jg k j.Plan.Move 2).2<;>rw[e]at b
  ·refine fM 59 [(406,[2,0,0])] [(2,283,[20,21,22,23,24,25,26,27,28,29,30,31,32,33,34,35,36,37,38,39,40,41,42,19,43,44,4,0,1,2,3,4,5,6,7,8,9,10,11,12,13,14,15,16,17,18,19,20,21,22,23,24,25,26,27,1025,28])] [(0,0),(1,0)] Tryz.func409 rfl (λu q=>?_) (.inr trivial)
   repeat'(first|refine gD ?_|(conv=>whnf);first|refine CA ?_|refine CH (b) (.inl rfl) ?_)
   refine CF rfl rfl ?_;rw[<-g];exact wC
  ·refine fM 59 [(406,[2,0,0])] [(2,283,[20,21,22,23,24,25,26,27,28,29,30,31,32,33,34,35,36,37,38,39,40,41,42,19,43,44,4,0,1,2,3,4,5,6,7,8,9,10,11,12,13,14,15,16,17,18,19,20,21,22,23,24,25,26,27,1025,28])] [(0,0),(1,0)] Tryz.func409 rfl (λu q=>?_) (.inr trivial)
   repeat'(first|refine gD ?_|(conv=>whnf);first|refine CA ?_|refine CH (b) (.inl rfl) ?_)
   refine CF rfl rfl ?_;exact wC
theorem zy(k:af)(j:cn)(g:jmay k j=true):aQ Tryz.prog 396 false [.ptr (af.enc .own k),.ptr (xk j)] [.ptr (af.enc .own (jstep k j).1),.ptr (xk (jstep k j).2)] (.tup []) []:=by
 obtain⟨⟨h,p⟩,B,c,b,l⟩:=ly.1 g;obtain⟨r,F,G,H,J⟩:=ek.1 B;have n:j.Plan.Move≠j.Plan.Keep:=λe=>l (by rw[e])
 have C:=lE r;by_cases d:j.Phase=0
 ·have a:=mQ k j.Plan.Move 1 h p b (.inl rfl)
  unfold jstep;rw[C9 d];cases e:(jg k j.Plan.Move 1).2<;>rw[e]at a
  ·refine fM 80 [(406,[2,0,0]),(407,[2,0,0,0]),(408,[2,0,0]),(409,[2,2])] [(7,7,[27,28,29,30,31,32,33]),(9,14,[38,39,40,41,42,43,44,45,46,47,48,49,50,51])] [(0,0),(1,0)] Tryz.func396 rfl (λu q=>?_) (.inr trivial)
   repeat'(first|refine gA ?_|(conv=>whnf);first|refine CA ?_|refine CH (a) (.inl rfl) ?_)
   refine CF rfl rfl ?_;exact wC
  ·refine fM 80 [(406,[2,0,0]),(407,[2,0,0,0]),(408,[2,0,0]),(409,[2,2])] [(7,7,[27,28,29,30,31,32,33]),(9,14,[38,39,40,41,42,43,44,45,46,47,48,49,50,51])] [(0,0),(1,0)] Tryz.func396 rfl (λu q=>?_) (.inr trivial)
   repeat'(first|refine gA ?_|(conv=>whnf);first|refine CA ?_|refine CH (a) (.inl rfl) ?_)
   refine CF rfl rfl ?_;exact wC
 by_cases o:j.Phase=1
 ·unfold jstep
  rw[C8 d,C9 o];by_cases t:j.Next=j.Plan.Cells.length
  ·rw[C9 t]
   refine fM 80 [(406,[2,0,0]),(407,[2,0,0,0]),(408,[2,0,0]),(409,[2,2])] [(7,7,[27,28,29,30,31,32,33]),(9,14,[38,39,40,41,42,43,44,45,46,47,48,49,50,51])] [(0,0),(1,0)] Tryz.func396 rfl (λu q=>?_) (.inr trivial)
   repeat'(first|refine gA ?_|(conv=>whnf);first|refine CA ?_|refine CA ?_)
   refine CF rfl rfl ?_;exact wC
  ·rw[C8 t]
   have D:=ah (xs:=j.Plan.Cells) (i:=j.Next.toNat) ω;have a:=ym k j.Plan.Move j.Plan.Keep (nth j.Plan.Cells j.Next.toNat) h b c (lv r ω);have E:=(ly.1 g).2.1;refine fM 80 [(406,[2,0,0]),(407,[2,0,0,0]),(408,[2,0,0]),(409,[2,2])] [(7,7,[27,28,29,30,31,32,33]),(9,14,[38,39,40,41,42,43,44,45,46,47,48,49,50,51])] [(0,0),(1,0)] Tryz.func396 rfl (λu q=>?_) (.inr trivial)
   repeat'(first|refine gA ?_|(conv=>whnf);first|refine CA ?_|refine CH a (.inr ⟨rfl,af.enc_fr _,trivial⟩) ?_|refine CK ω (aa D) ?_|refine CA ?_)
   refine CF rfl rfl ?_;exact wC
 by_cases w:j.Phase=2
 ·have a:=F5 k j.Plan.Move j.Plan.Keep h p b c n
  unfold jstep;rw[C8 d,C8 o,C9 w];cases e:(yS k j.Plan.Move j.Plan.Keep).2<;>rw[e]at a
  ·refine fM 80 [(406,[2,0,0]),(407,[2,0,0,0]),(408,[2,0,0]),(409,[2,2])] [(7,7,[27,28,29,30,31,32,33]),(9,14,[38,39,40,41,42,43,44,45,46,47,48,49,50,51])] [(0,0),(1,0)] Tryz.func396 rfl (λu q=>?_) (.inr trivial)
   repeat'(first|refine gA ?_|(conv=>whnf);first|refine CA ?_|refine CH (a) (.inl rfl) ?_)
   refine CF rfl rfl ?_;exact wC
  ·refine fM 80 [(406,[2,0,0]),(407,[2,0,0,0]),(408,[2,0,0]),(409,[2,2])] [(7,7,[27,28,29,30,31,32,33]),(9,14,[38,39,40,41,42,43,44,45,46,47,48,49,50,51])] [(0,0),(1,0)] Tryz.func396 rfl (λu q=>?_) (.inr trivial)
   repeat'(first|refine gA ?_|(conv=>whnf);first|refine CA ?_|refine CH (a) (.inl rfl) ?_)
   refine CF rfl rfl ?_;exact wC
 by_cases y:j.Phase=3
 ·have a:=zB k j g y
  refine fM 80 [(406,[2,0,0]),(407,[2,0,0,0]),(408,[2,0,0]),(409,[2,2])] [(7,7,[27,28,29,30,31,32,33]),(9,14,[38,39,40,41,42,43,44,45,46,47,48,49,50,51])] [(0,0),(1,0)] Tryz.func396 rfl (λu q=>?_) (.inr trivial)
  repeat'(first|refine gA ?_|(conv=>whnf);first|refine CA ?_|refine CH (a) (.inl rfl) ?_)
  refine CF rfl rfl ?_;exact wC
 ·unfold jstep
  rw[C8 d,C8 o,C8 w,C8 y];refine fM 80 [(406,[2,0,0]),(407,[2,0,0,0]),(408,[2,0,0]),(409,[2,2])] [(7,7,[27,28,29,30,31,32,33]),(9,14,[38,39,40,41,42,43,44,45,46,47,48,49,50,51])] [(0,0),(1,0)] Tryz.func396 rfl (λu q=>?_) (.inr trivial)
  repeat'(first|refine gA ?_|(conv=>whnf);first|refine CA ?_)
  refine CF rfl rfl ?_;exact wC
theorem Bz(k:af)(j:cn)(e:aB k=true)(i:ja j=true):ao Tryz.prog 395 false [.val (some 5) (af.enc .imm k),.val (some 5) (cn.enc .imm j)] .one [B (jmay k j)]:=by
 have c:=bt e;have b:d9 (af.enc .imm k)=af.enc .imm k:=by rw[<-CO k,qt]
 have r:=(aC.1 e).2.2.2.2;have a:=kF k c;rw[e]at a;have d:=v6 j (HX i);rw[i]at d;have l:=dJ k j.Plan.Keep c.1.2;have n:=dJ k j.Plan.Move c.1.2;have t:=cT k.Machine.Table j.Plan.Keep c.1.2;have u:=cT k.Machine.Table j.Plan.Move c.1.2;by_cases o:k.Calls=100000
 ·rw[R0 ω]at a
  rw[show jmay k j=false by rw[<-Y4,ly];exact λh=>h.1.2 o];refine fO 44 [(3,16,[27,28,29,30,31,32,33,34,35,36,37,38,39,40,41,42])] Tryz.func395 rfl ?_
  repeat'(first|refine gO ?_|(conv=>whnf);first|refine CA ?_|refine C7 (a) ?_|refine C7 (d) ?_)
  rfl
 rw[O0 ω]at a;by_cases p:(ar k.Machine.Table j.Plan.Keep).Mode=0
 ·rw[show jmay k j=false by rw[<-Y4,ly];exact λh=>h.2.2.1 p]
  refine fO 44 [(3,16,[27,28,29,30,31,32,33,34,35,36,37,38,39,40,41,42])] Tryz.func395 rfl ?_
  repeat'(first|refine gA ?_|(conv=>whnf);first|refine CA ?_|refine C7 (a) ?_|refine C7 (d) ?_|refine CD (l) ⟨b,⟨rfl,rfl⟩,trivial⟩ ?_|refine CD (n) ⟨b,⟨rfl,rfl⟩,trivial⟩ ?_)
  rfl
 by_cases q:(ar k.Machine.Table j.Plan.Move).Mode=0
 ·rw[show jmay k j=false by rw[<-Y4,ly];exact λh=>h.2.2.2.1 q]
  refine fO 44 [(3,16,[27,28,29,30,31,32,33,34,35,36,37,38,39,40,41,42])] Tryz.func395 rfl ?_
  repeat'(first|refine gA ?_|(conv=>whnf);first|refine CA ?_|refine C7 (a) ?_|refine C7 (d) ?_|refine CD (l) ⟨b,⟨rfl,rfl⟩,trivial⟩ ?_|refine CD (n) ⟨b,⟨rfl,rfl⟩,trivial⟩ ?_)
  rfl
 refine fO 44 [(3,16,[27,28,29,30,31,32,33,34,35,36,37,38,39,40,41,42])] Tryz.func395 rfl ?_
 repeat'(first|refine gA ?_|(conv=>whnf);first|refine CA ?_|refine C7 (a) ?_|refine C7 (d) ?_|refine CD (l) ⟨b,⟨rfl,rfl⟩,trivial⟩ ?_|refine CD (n) ⟨b,⟨rfl,rfl⟩,trivial⟩ ?_|refine C7 (t) ?_|refine C7 (u) ?_|refine CA ?_)
 exact U0 (λz=>[B z]) (by
   unfold jmay;rw[e,i,O0 o];by_cases g:(ar k.Machine.Table j.Plan.Keep).Frame=(ar k.Machine.Table j.Plan.Move).Frame
   · rw[R0 (λh=>h.2.2 g)];simp[g]
   · rw[O0 ⟨p,q,g⟩];simp[g])
theorem zN(j:cn):ao Tryz.prog 397 false [.val (some 5) (cn.enc .imm j)] .one [B (over j)]:=by
 by_cases a:j.Phase=4
 ·rw[show over j=true from O0 (.inl a)]
  refine fO 11 [] Tryz.func397 rfl ?_
  repeat'(first|refine gA ?_|(conv=>whnf);first|refine CA ?_)
  rfl
 ·rw[show over j=decide (j.Phase=5) from decide_eq_decide.2 ω]
  refine fO 11 [] Tryz.func397 rfl ?_
  repeat'(first|refine gA ?_|(conv=>whnf);first|refine CA ?_)
  exact U0 (λz=>[B z]) (by rw[I4];simp)
def Gy(x:ab):List C:=(b6 x).set 21 .z
theorem Eg{x:ab}(h:x.Job.Plan.Cells=[]):Jy (Gy x) (b6 x):=by
 unfold Gy b6;simp only[List.set,h,List.map_nil]
 repeat'(first|exact trivial|exact dc _|refine CI ?_ ?_|rfl)
theorem Bc(h:ab)(j:bn h [])(k:h.Meshing=true):aQ Tryz.prog 368 false [.ptr (b6 h)] [.ptr (b6 (mStep h))] .one [B (BQ h)]:=by
 obtain⟨l,-,-⟩:=j.job k;have b:=Bz h.Kernel h.Job j.ker l;have a:=zN (iH h.Kernel h.Job).2;unfold BQ mStep;cases e:jmay h.Kernel h.Job with
 | false=>
  rw[e]at b;have d:iH h.Kernel h.Job=(h.Kernel,h.Job):=by unfold iH;rw[e];rfl
  rw[d]at a |-;simp only at a |-;cases g:over h.Job<;>rw[g]at a
  ·refine fM 39 [(396,[3,5,5])] [(1,8,[4,5,6,7,8,9,10,11]),(2,6,[13,14,15,16,17,18])] [(0,0)] Tryz.func368 rfl (λu q=>?_)
   repeat'(first|refine gO ?_|(conv=>whnf);first|refine CD (b) ⟨⟨rfl,CO h.Kernel⟩,⟨rfl,rfl⟩,trivial⟩ ?_|refine C7 (a) ?_|refine CA ?_)
   refine CF rfl ?_ ?_
   ·exact U0 (λz=>[B z]) (by rw[I4];simp)
   ·exact wC
  ·refine aQ.wk (c:=Gy _) ?_ (Eg rfl)
   refine fM 39 [(396,[3,5,5])] [(1,8,[4,5,6,7,8,9,10,11]),(2,6,[13,14,15,16,17,18])] [(0,0)] Tryz.func368 rfl (λu q=>?_)
   repeat'(first|refine gO ?_|(conv=>whnf);first|refine CD (b) ⟨⟨rfl,CO h.Kernel⟩,⟨rfl,rfl⟩,trivial⟩ ?_|refine C7 (a) ?_|refine CA ?_)
   refine CF rfl ?_ ?_
   ·exact U0 (λz=>[B z]) (by rw[I4];simp)
   ·exact wC
 | true=>
  rw[e]at b;have d:iH h.Kernel h.Job=jstep h.Kernel h.Job:=by unfold iH;rw[e];rfl
  have i:=zy h.Kernel h.Job e;rw[d]at a |-;generalize jstep h.Kernel h.Job=r at i a |-;cases g:over r.2<;>rw[g]at a
  ·refine fM 39 [(396,[3,5,5])] [(1,8,[4,5,6,7,8,9,10,11]),(2,6,[13,14,15,16,17,18])] [(0,0)] Tryz.func368 rfl (λu q=>?_)
   repeat'(first|refine gO ?_|(conv=>whnf);first|refine CD (b) ⟨⟨rfl,CO h.Kernel⟩,⟨rfl,rfl⟩,trivial⟩ ?_|refine C7 (a) ?_|refine CH (i) (.inl rfl) ?_|refine CA ?_)
   refine CF rfl ?_ ?_
   ·exact U0 (λz=>[B z]) (by rw[I4];simp)
   ·exact wC
  ·refine aQ.wk (c:=Gy _) ?_ (Eg rfl)
   refine fM 39 [(396,[3,5,5])] [(1,8,[4,5,6,7,8,9,10,11]),(2,6,[13,14,15,16,17,18])] [(0,0)] Tryz.func368 rfl (λu q=>?_)
   repeat'(first|refine gO ?_|(conv=>whnf);first|refine CD (b) ⟨⟨rfl,CO h.Kernel⟩,⟨rfl,rfl⟩,trivial⟩ ?_|refine C7 (a) ?_|refine CH (i) (.inl rfl) ?_|refine CA ?_)
   refine CF rfl ?_ ?_
   ·exact U0 (λz=>[B z]) (by rw[I4];simp)
   ·exact wC
theorem Gc{k:Int} : ∀{l s s2 c:List Int}(n:Nat),(∀x∈s2,x∈s)->qp k s l=some c->∃d,qp k s2 (l.take n)=some d/\∀x∈d,x∈c
 | [],s,s2,c,n,h,e=>by
  simp only[qp,W0,List.take_nil]at e |-;subst e;exact⟨s2,rfl,h⟩
 | a::l,s,s2,c,0,h,e=>⟨s2,rfl,λx b=>(oo (λ_ y=>y) e).1 x (h x b)⟩
 | a::l,s,s2,c,n+1,h,e=>by
  simp only[List.take_succ_cons,qp]at e |-;split at e
  ·rename_i g
   rw[C9 (show good k s2 a from⟨g.1,g.2.1,g.2.2.1,λx=>g.2.2.2 (h a x)⟩)];exact Gc (l:=l) (s:=s++[a]) (s2:=s2++[a]) n (λx b=>by
     rcases W2.1 b with b|b
     · exact W2.2 (.inl (h x b))
     · exact W2.2 (.inr b)) e
  ·cases e
theorem Bx:∀{a:List (List Int)}{k:Nat}{s s2:List Int}(i n:Nat),(∀x∈s2,x∈s)->(fU k s a).isSome=true->(fU k s2 (a.set i ((nth a i).take n))).isSome=true
 | [],_,_,_,_,_,_,_=>rfl
 | l::a,k,s,s2,i,n,h,e=>by
  simp only[fU,ef]at e;split at e
  ·rename_i g
   cases b:qp k s l with
   | none=>rw[b]at e;cases e
   | some j=>
    rw[b]at e;cases i with
    | zero=>
     obtain⟨c,d,f⟩:=Gc n h b;simp only[List.set_cons_zero,fU,ef];rw[C9 ⟨by have:=g.1;simp only[nth,List.getD_cons_zero,O1];omega,g.2⟩];show((qp (k:Nat) s2 (l.take n)).bind λj=>fU (k+1) j a).isSome=true;rw[d];exact sL f e
    | succ i=>
     obtain⟨o,c,d,f⟩:=oo h b;simp only[List.set_cons_succ,fU,ef];rw[C9 g,d];exact Bx i n f e
  ·cases e
theorem M5{c:aA}(h:bo c=true)(k:Nat):bo (q7 c k)=true:=by
 unfold bo at h |-;simp only[I0,C0]at h |-;exact⟨by simp only[q7,I1];exact h.1,Bx k _ (λ_ h=>h) h.2⟩
def n6(b:Int):Nat->List Int
 | 0=>[]
 | j+1=>if aX b (j:Nat)=true then n6 b j else n6 b j++[((j:Nat):Int)]
theorem sq{b:Int} : ∀{n:Nat}{z:Int},z∈n6 b n->0<=z/\z<n/\aX b z=false
 | 0,_,h=>by cases h
 | n+1,z,h=>by
  unfold n6 at h;split at h
  ·have:=sq h;exact⟨this.1,ω,this.2.2⟩
  ·rename_i e
   rcases W2.1 h with h|h
   ·have:=sq h;exact⟨this.1,ω,this.2.2⟩
   ·rw[C1.1 h];exact⟨ω,ω,by simpa using e⟩
theorem rY(b:Int):∀n,(n6 b n).length<=n
 | 0=>X2 _
 | n+1=>by have:=rY b n;unfold n6;split<;>simp<;>omega
def pG(k b:Int):List Int:=if L1 k b=true then n6 b (slots k).toNat else []
def mC(h:ab)(i:Nat):List Int:=pG (nth h.Spans i).Class (gE h i)
theorem uW{k b z:Int}(h:z∈pG k b):0<=z/\z<slots k/\aX b z=false:=by
 unfold pG at h;split at h
 ·have:=sq h;exact⟨this.1,ω,this.2.2⟩
 ·cases h
theorem E9(k b:Int):(pG k b).length<=16:=by
 unfold pG;split
 ·rename_i h
  unfold L1 at h;rw[C0]at h;have:=(gm (k:=k) ⟨h.1,h.2.1⟩).2.2.1;have:=rY b (slots k).toNat;omega
 ·exact T0 _
def oY(h:ab)(i:Nat):Int:=nth (mC h i) (K5 h.Seed ((mC h i).length:Nat)).toNat
def slotT(h:ab)(i:Nat):ab:={h with Seed:=G0 h.Seed,Spans:=h.Spans.set i (pQ (nth h.Spans i) (oY h i))}
def td(h:ab)(i:Nat):Int:=16*(nth h.Spans i).Page+oY h i*csz (nth h.Spans i).Class
theorem zn{h:ab}{i:Nat}(a:0<(mC h i).length):oY h i∈mC h i:=by
 have:=w6 h.Seed (n:=((mC h i).length:Nat)) ω;exact am ω
theorem bn.slotT{h:ab}{E:List Int}{i:Nat}(a:bn h E)(b:i<h.Spans.length)(e:0<(mC h i).length):bn (slotT h i) (td h i::E)/\iX (slotT h i).Spans (td h i) (nth h.Spans i).Class:=by
 obtain⟨c,d,f⟩:=uW (zn e);exact⟨a.take b ⟨c,d⟩ f (FQ _),(iX.setS a.L b ⟨c,d⟩ _ _).2 (.inr ⟨rfl,.inr rfl⟩)⟩
def rL(h:ab)(c:Int)(i:Nat):Bool:=decide ((nth h.Spans i).Class=c)&&(!eZ h (nth h.Spans i).Page&&decide (0<(mC h i).length))
def rT(h:ab)(c:Int):Option Nat:=(List.range h.Spans.length).find? (rL h c)
def ur(h:ab)(c:Int):ab:=addS h (fC h.Kernel (a8 h.Free 1).2.1).1 (a8 h.Free 1).1 (a8 h.Free 1).2.1 c
def uw(h:ab):Nat:=jC (HY (a8 h.Free 1).2.1) h.Spans
def lC(h:ab)(i:Nat):ab × Int:=if(mC h i).length=0 then(h,-1) else(slotT h i,td h i)
def eg(h:ab)(t c:Nat):ab × Int:=
 if 0<(nth (nth h.Caches t).Lists c).length then({h with Caches:=h.Caches.set t (q7 (nth h.Caches t) c)},nth (nth (nth h.Caches t).Lists c) ((nth (nth h.Caches t).Lists c).length - 1))
 else match rT h c with
 | some i=>(slotT h i,td h i)
 | none=>if(a8 h.Free 1).2.2=false then(h,-1)
  else if(fC h.Kernel (a8 h.Free 1).2.1).2=false then({h with Kernel:=(fC h.Kernel (a8 h.Free 1).2.1).1},-1)
  else lC (ur h c) (uw h)
theorem GD{α:Type}[Inhabited α](p:α->Bool)(xs:List α)(y:α):jC p xs<(iY p xs y).length/\nth (iY p xs y) (jC p xs)=y:=by
 have b:=Nh p xs;have a:(xs.take (jC p xs)).length=jC p xs:=by rw[O1];omega
 refine⟨by rw[(jR p xs y).length_eq,List.length_cons];omega,bu ?_⟩;unfold iY;rw[z4 ω,a,Nat.sub_self]
 rfl
theorem bn.tEq{h:ab}{E:List Int}(a:bn h E){k:af}(c:aB k=true)(b:tEq (tbl h) k.Machine.Table):bn {h with Kernel:=k} E/\JK h {h with Kernel:=k}:=
 ⟨a.step (j:=h.Job) (m:=h.Meshing) c b.1 (a.pg.tEq b) a.job a.noj,⟨rfl,rfl,λs d _=>⟨s,d,rfl,λ_ z=>z⟩,λq e=>.inl ⟨(b.2 q).1.1 e,(b.2 q).2⟩⟩⟩
structure PV(h:ab)(c:Int)(r:ab × Int):Prop where
 no:r.2<0->bn r.1 []
 yes:0<=r.2->bn r.1 [r.2]/\iX r.1.Spans r.2 c
 jk:JK h r.1
 nx:r.1.Next=h.Next
 cl:r.1.Caches.length=h.Caches.length
theorem iX.nn{h:ab}{E:List Int}(b:bn h E){a c:Int}(d:iX h.Spans a c):0<=a:=(iX.bd b d).1
theorem PV.slot{h h':ab}{i:Nat}{c:Int}(g:bn h' [])(j:i<h'.Spans.length)(k:0<(mC h' i).length)(l:(nth h'.Spans i).Class=c)(n:JK h h')(a:eZ h' (nth h'.Spans i).Page=false)(h1:h'.Next=h.Next)(o:h'.Caches.length=h.Caches.length):PV h c (slotT h' i,td h' i):=by
 obtain⟨d,f⟩:=g.slotT j k;have b:=iX.nn d f;exact⟨λe=>absurd b (by simp only at e;omega),λ_=>⟨d,by rw[<-l];exact f⟩,n.trans (JK.take a),h1,o⟩
theorem yA{h:ab}{t c:Nat}(a:bn h [])(q:t<h.Caches.length)(P:c<=3)(B:h.Kernel.Calls<=90000):PV h c (eg h t c):=by
 have f:=a.cach _ (am q);have C:=tK f;unfold eg;split
 ·rename_i D
  obtain⟨d,b⟩:=a.pop q ω D (M5 f c);have l:=iX.nn a b;exact⟨λe=>absurd l (by simp only at e;omega),λ_=>⟨d,b⟩,JK.eq rfl rfl rfl rfl,rfl,I1 ..⟩
 split
 ·rename_i i r
  have g:=List.find?_some r;have E:=List.mem_range.1 (List.mem_of_find?_eq_some r);unfold rL at g;simp only[I0,C0,Bool.not_eq_true']at g;exact PV.slot a E g.2.2 g.1 (JK.refl h) g.2.1 rfl rfl
 split
 ·exact⟨λ_=>a,λe=>absurd e (by show ¬(0:Int)<=-1;decide),JK.refl h,rfl,rfl⟩
 rename_i F;have j:(a8 h.Free 1).2.2=true:=by simpa using F
 obtain⟨G,H,J,u⟩:=kK a (T4 1) j;have s:=zA.of (p:=(a8 h.Free 1).2.1) a.ker ω ⟨G,by have:(a8 h.Free 1).2.1+1<=(h.Kernel.Machine.Table.Entries.length:Nat):=H;omega⟩ (J _ ω ω);split
 ·rename_i n
  rw[s.no n];obtain⟨d,b⟩:=a.tEq (lA a.ker ω) (tEq.refl _);exact⟨λ_=>d,λe=>absurd e (by show ¬(0:Int)<=-1;decide),b,rfl,rfl⟩
 rename_i n;have o:(fC h.Kernel (a8 h.Free 1).2.1).2=true:=by simpa using n
 have w:zA h.Kernel (a8 h.Free 1).2.1 ((fC h.Kernel (a8 h.Free 1).2.1).1,true):=by rw[<-o];exact s
 have d:=a.addS (c:=c) ⟨ω,ω⟩ j w;have b:JK h (ur h c):=JK.addS w;obtain⟨K,A⟩:=GD (HY (a8 h.Free 1).2.1) h.Spans ⟨(a8 h.Free 1).2.1,c,0⟩;unfold lC;split
 ·exact⟨λ_=>d,λe=>absurd e (by show ¬(0:Int)<=-1;decide),b,rfl,rfl⟩
 ·refine PV.slot (h':=ur h c) (i:=uw h) d K ω (by show(nth (iY (HY (a8 h.Free 1).2.1) h.Spans ⟨(a8 h.Free 1).2.1,c,0⟩) (uw h)).Class=_;unfold uw;rw[A]) b ?_ rfl rfl
  show eZ (ur h c) (nth (iY (HY (a8 h.Free 1).2.1) h.Spans ⟨(a8 h.Free 1).2.1,c,0⟩) (uw h)).Page=false;unfold uw;rw[A,b.pg];rw[<-Y4];intro k;unfold eZ at k;simp only[I0,R5,C0]at k;obtain⟨-,⟨y,L,M⟩,⟨z,N,O⟩⟩:=a.job k.1;rcases k.2 with e|e
  ·exact u _ (T4 _) ω (by rw[e,<-M];exact d2 L)
  ·exact u _ (T4 _) ω (by rw[e,<-O];exact d2 N)
def ky(size:Int):Nat:=((size+15) / 16).toNat
def iN(h:ab)(size:Int):af × Nat:=cu h.Kernel (a8 h.Free (ky size:Nat)).2.1 (ky size)
def mH(h:ab)(t size:Int):ab × Int × Int:=
 if(a8 h.Free (ky size:Nat)).2.2=false then(h,-1,4)
 else if(iN h size).2=ky size then(addL h (iN h size).1 (a8 h.Free (ky size:Nat)).1 (a8 h.Free (ky size:Nat)).2.1 (ky size:Nat) size t,16*(a8 h.Free (ky size:Nat)).2.1,0)
 else({h with Kernel:=d3 (iN h size).1 (a8 h.Free (ky size:Nat)).2.1 (iN h size).2},-1,4)
def so(xs:List bm):Nat->Int
 | 0=>0
 | i+1=>so xs i+(nth xs i).Size
def vi(h:ab):Int:=so h.Objs h.Objs.length
def eO(h:ab)(t size:Int):ab × Int × Int:=
 if 1000000<=h.Next\/90000<h.Kernel.Calls then(h,-1,5)
 else if ¬(0<=t/\t<=h.Caches.length - 1) then(h,-1,1)
 else if ¬(1<=size/\size<=1000) then(h,-1,2)
 else if h.Limit<vi h+size then(h,-1,3)
 else if 0<=aM size then(if(eg h t.toNat (aM size).toNat).2<0 then((eg h t.toNat (aM size).toNat).1,-1,4) else(addO (eg h t.toNat (aM size).toNat).1 (eg h t.toNat (aM size).toNat).2 size t,(eg h t.toNat (aM size).toNat).2,0))
 else mH h t size
theorem HJ{h:ab}{t size:Int}(a:bn h [])(g:9<=size/\size<=1000)(i:h.Next<1000000)(j:h.Kernel.Calls<=90000)(k:0<=t/\t<=h.Caches.length - 1):bn (mH h t size).1 []/\JK h (mH h t size).1:=by
 have l:(ky size:Int)=(size+15) / 16:=by unfold ky;omega
 unfold mH;split
 ·exact⟨a,JK.refl h⟩
 rename_i o;have b:(a8 h.Free (ky size:Nat)).2.2=true:=by simpa using o
 obtain⟨c,d,e,w⟩:=kK a (show(1:Int)<=(ky size:Nat) by omega) b;have s:=n7.of (p:=(a8 h.Free (ky size:Nat)).2.1) (n:=ky size) a.ker ω ⟨c,d⟩ e (ky size) (X2 _);split
 ·rename_i q
  have f:n7 h.Kernel (a8 h.Free (ky size:Nat)).2.1 (ky size) ((iN h size).1,ky size):=by
   have:((iN h size).1,ky size)=iN h size:=by rw[<-q]
   rw[this];exact s
  exact⟨a.addL g l b f i k,JK.addL f⟩
 ·obtain⟨r,u⟩:=s.undo a.ker ⟨c,d⟩ e
  exact a.tEq r u
theorem HR{h:ab}{t size:Int}(a:bn h []):bn (eO h t size).1 []/\JK h (eO h t size).1:=by
 unfold eO;split
 ·exact⟨a,JK.refl h⟩
 rename_i d;rw[not_or]at d;split
 ·exact⟨a,JK.refl h⟩
 rename_i n;split
 ·exact⟨a,JK.refl h⟩
 rename_i o;split
 ·exact⟨a,JK.refl h⟩
 split
 ·rename_i b
  have f:aM size<=3:=by unfold aM;repeat' split<;>omega
  have s:=yA (t:=t.toNat) (c:=(aM size).toNat) a ω ω ω;generalize eg h t.toNat (aM size).toNat=r at s;split
  ·rename_i e;exact⟨s.no e,s.jk⟩
  ·rename_i e
   obtain⟨g,i⟩:=s.yes ω;refine⟨g.addO (.inl ?_) (by rw[s.nx];omega) (by rw[s.cl];omega),s.jk.trans (JK.eq rfl rfl rfl rfl)⟩;obtain⟨z,j,k,p⟩:=i;exact⟨z,j,k,by show z.Class=aM size;omega⟩
 ·rename_i b
  have l:9<=size:=by
   unfold aM at b
   repeat' split at b<;>omega
  exact HJ a ⟨l,ω⟩ ω ω ω
theorem mI{α β:Type}[Inhabited α]{f:α->β}{xs:List α}{i:Nat}{y:α}(a:i<xs.length)(e:f y=f (nth xs i)):(xs.set i y).map f=xs.map f:=by
 rw[O5];refine List.ext_getElem (by simp) λj b c=>?_
 rw[List.getElem_set];split
 ·rename_i g;subst g
  rw[List.getElem_map,e,bu (Z1 a)]
 ·rfl
theorem mP{α β:Type}[Inhabited α](f:α->List β):∀(xs:List α)(i:Nat)(y:α),i<xs.length->(f y).Sublist (f (nth xs i))->((xs.set i y).flatMap f).Sublist (xs.flatMap f)
 | [],_,_,h,_=>absurd h (Nat.not_lt_zero _)
 | x::xs,0,y,_,a=>by
  rw[List.set_cons_zero,W5,W5];exact List.Sublist.append a (List.Sublist.refl _)
 | x::xs,i+1,y,h,a=>by
  rw[List.set_cons_succ,W5,W5];exact List.Sublist.append (List.Sublist.refl _) (mP f xs i y (by simpa using h) a)
def zK(k:af)(a:Int):Nat->af
 | 0=>k
 | m+1=>kI (zK k a m) (a+m) 0
theorem ql(k:af)(a:Int):∀m,(zK k a m).Machine.Table=k.Machine.Table/\(zK k a m).Calls=k.Calls/\(zK k a m).Refuse=k.Refuse
 | 0=>⟨rfl,rfl,rfl⟩
 | m+1=>ql k a m
theorem ND{k:af}(h:aB k=true){a:Int} : ∀{m:Nat},(∀j:Nat,j<m->(ar k.Machine.Table ((a+j) / 16)).Mode≠0)->aB (zK k a m)=true
 | 0,_=>h
 | m+1,b=>xd (ND h λj c=>b j ω) (by rw[(ql k a m).1];exact b m ω) ⟨ω,ω⟩
theorem Fd{h:ab}{E:List Int}(j:bn h E){sp:List au}{la:List ax}{o:List ay}{p:Int}{n:Nat}(y:p+n<=h.Kernel.Machine.Table.Entries.length)(A:sp.Sublist h.Spans)(M:∀l∈la,∀q∈lpgs l l.Pages.toNat,∃w∈h.Larges,q∈lpgs w w.Pages.toNat)(N:0<=p)(B:∀q,q∈pgs sp la↔q∈pgs h.Spans h.Larges/\¬(p<=q/\q<p+n))(O:∀q,RH o q↔RH h.Free q\/(p<=q/\q<p+n)) :
  Pg (d3 h.Kernel p n).Machine.Table o sp la:=by
 have b:=(gx h.Kernel p n).1;have d:=lr j.ker N n y;have f:∀q:Nat,(q:Int)∈pgs sp la->nth (d3 h.Kernel p n).Machine.Table.Entries q=nth (tbl h).Entries q:=λq c=>by rw[d,C8 ((B q).1 c).2];rfl
 have a:∀q:Nat,(nth (d3 h.Kernel p n).Machine.Table.Entries q).Mode≠0↔(nth (tbl h).Entries q).Mode≠0/\¬(p<=q/\(q:Int)<p+n):=λq=>by
  rw[d];by_cases e:p<=q/\(q:Int)<p+n
  ·rw[C9 e];exact⟨λx=>absurd rfl x,λx=>absurd e x.2⟩
  ·rw[C8 e];exact⟨λx=>⟨x,e⟩,λx=>x.1⟩
 refine⟨λl g q c r J C k=>?_,λq c=>?_,λq c=>?_,λq c=>?_,λs g u D F K=>?_⟩
 ·have t:=(a r).1 C
  rw[b]at J;rw[f q (fA g c),d,C8 t.2]at k;obtain⟨w,G,H⟩:=M l g _ c;exact j.pg.one w G q H r J t.1 k
 ·rw[b];exact j.pg.bnd q ((B q).1 c).1
 ·rw[b]at c
  rw[a,B,j.pg.own q c]
 ·rw[b]at c
  rw[a,O,j.pg.fre q c]
  grind
 ·have i:∀s∈sp,0<=s.Page:=λs g=>(aF (j.L.sok s (A.subset g))).1
  have P:=f s.Page.toNat (by rw[Int.toNat_of_nonneg (i s g)];exact d2 g);have Q:=f u.Page.toNat (by rw[Int.toNat_of_nonneg (i u D)];exact d2 D);rw[P,Q]at K;exact j.pg.mesh s (A.subset g) u (A.subset D) F K
def trimL(l:ax)(size:Int):ax:=⟨l.Page,(size+15) / 16,size⟩
def dG(l:ax)(size:Int):Nat:=(l.Pages - (size+15) / 16).toNat
theorem bn.trimL{h:ab}{E:List Int}{i k:Nat}{size:Int}(t:bn h E)(T:i<h.Objs.length)(H:k<h.Larges.length)(Y:(nth h.Objs i).Addr=16*(nth h.Larges k).Page)(N:9<=size/\size<=(nth h.Larges k).Size) :
  ∃o,(dG (nth h.Larges k) size=0->o=h.Free)/\(0<dG (nth h.Larges k) size->bU (dQ h) h.Free ⟨(nth h.Larges k).Page+(size+15) / 16,(dG (nth h.Larges k) size:Nat)⟩ = some o)/\
   bn {h with Kernel:=d3 h.Kernel ((nth h.Larges k).Page+(size+15) / 16) (dG (nth h.Larges k) size),Larges:=h.Larges.set k (trimL (nth h.Larges k) size),Objs:=h.Objs.set i {nth h.Objs i with Size:=size},Free:=o} E:=by
 have U:=t.L;have C:=U.lok _ (am H);have hf:=aU C;unfold bS at C;rw[C0]at C;obtain⟨b1,b2⟩:=zq t H;have O:=U.dis;have G:=λj n=>U.one j k n H
 have y:=(am H:nth h.Larges k∈h.Larges)
 have d:∀z∈h.Larges.set k (Ab.trimL (nth h.Larges k) size),z=Ab.trimL (nth h.Larges k) size\/∃j,j<h.Larges.length/\j≠k/\nth h.Larges j=z:=λz N=>eY N
 have p:Ab.trimL (nth h.Larges k) size∈h.Larges.set k (Ab.trimL (nth h.Larges k) size):=iv _ H;have u:∀j,j<h.Larges.length->j≠k->nth h.Larges j∈h.Larges.set k (Ab.trimL (nth h.Larges k) size):=λj n e=>jh _ n e
 have hpageM:(h.Larges.set k (Ab.trimL (nth h.Larges k) size)).map (·.Page)=h.Larges.map (·.Page):=mI H rfl;have w:(pgs h.Spans (h.Larges.set k (Ab.trimL (nth h.Larges k) size))).Sublist (pgs h.Spans h.Larges):=by
  unfold pgs;refine List.Sublist.append (List.Sublist.refl _) (mP _ _ _ _ H ?_);unfold lpgs;exact(List.range_sublist.2 (by simp only[Ab.trimL];omega)).map _
 obtain⟨l,V⟩ : ∃l,nth h.Larges k=l:=⟨_,rfl⟩
 rw[V]at C hf b1 b2 G y d p u hpageM w Y N |-;generalize hla:h.Larges.set k (Ab.trimL l size)=la at d p u hpageM w |-;have hn1:(1:Int)<=(size+15) / 16/\(size+15) / 16+(dG l size:Nat)=l.Pages:=by unfold dG;omega
 have D:∀q,q∈lpgs l l.Pages.toNat↔l.Page<=q/\q<l.Page+l.Pages:=λq=>by
  rw[dd];constructor
  ·rintro⟨j,n,rfl⟩;omega
  ·rintro⟨Z,q2⟩;exact⟨(q - l.Page).toNat,ω,ω⟩
 have J:∀q,q∈lpgs (Ab.trimL l size) (Ab.trimL l size).Pages.toNat↔l.Page<=q/\q<l.Page+(size+15) / 16:=λq=>by
  rw[dd];simp only[Ab.trimL];constructor
  ·rintro⟨j,n,rfl⟩;omega
  ·rintro⟨Z,q2⟩;exact⟨(q - l.Page).toNat,ω,ω⟩
 have hpe:l.Page+(size+15) / 16+(dG l size:Nat)=l.Page+l.Pages:=ω
 have P:∀q,q∈pgs h.Spans la↔q∈pgs h.Spans h.Larges/\¬(l.Page+(size+15) / 16<=q/\q<l.Page+(size+15) / 16+(dG l size:Nat)):=λq=>by
  rw[oH,oH,hpe];constructor
  ·rintro(⟨s,W,rfl⟩|⟨z,c,B⟩)
   ·exact⟨.inl ⟨s,W,rfl⟩,λe=>O s W l y (s.Page - l.Page).toNat ω ω⟩
   ·rcases d z c with rfl|⟨j,n,hjk,rfl⟩
    ·have:=(J q).1 B
     exact⟨.inr ⟨l,y,(D q).2 ⟨ω,ω⟩⟩,ω⟩
    ·refine⟨.inr ⟨_,am n,B⟩,λe=>?_⟩
     obtain⟨m,hm,rfl⟩:=dd.1 B;exact hjk (G j n m ((nth h.Larges j).Page+(m:Int) - l.Page).toNat hm ω ω)
  ·rintro⟨⟨s,W,rfl⟩|⟨z,c,B⟩,hne⟩
   ·exact .inl ⟨s,W,rfl⟩
   ·obtain⟨j,n,rfl⟩:=bf c
    by_cases e:j=k
    ·subst e
     rw[V]at B;have:=(D q).1 B;exact .inr ⟨_,p,(J q).2 ⟨ω,ω⟩⟩
    ·exact .inr ⟨_,u j n e,B⟩
 have K:∃o,(dG l size=0->o=h.Free)/\(0<dG l size->bU (dQ h) h.Free ⟨l.Page+(size+15) / 16,(dG l size:Nat)⟩ = some o)/\bw (dQ h) o=true/\∀q,RH o q↔RH h.Free q\/(l.Page+(size+15) / 16<=q/\q<l.Page+(size+15) / 16+(dG l size:Nat)):=by
  by_cases e:dG l size=0
  ·refine⟨h.Free,λ_=>rfl,λg=>absurd g ω,t.rng,λq=>⟨.inl,λg=>g.resolve_right ω⟩⟩
  ·obtain⟨o,o1,o2,o3⟩:=tB (r:=⟨l.Page+(size+15) / 16,(dG l size:Nat)⟩) t.rng ⟨by simp only;omega,by simp only;omega,by show l.Page+(size+15) / 16+(dG l size:Nat)<=(dQ h:Int);have:((tbl h).Entries.length:Int)=(dQ h:Int):=rfl;omega⟩ λq Z q2=>by
    simp only at Z q2;obtain⟨m,rfl⟩:=U2 (show 0<=q by omega);have Q:m<(tbl h).Entries.length:=ω
    exact(t.pg.fre m Q).1 ((t.pg.own m Q).2 (fA y ((D _).2 ⟨ω,ω⟩)))
   exact⟨o,λg=>absurd g e,λ_=>o1,o2,o3⟩
 obtain⟨o,o0,o1,o2,o3⟩:=K;have R:=(gx h.Kernel (l.Page+(size+15) / 16) (dG l size)).1;have M:∀z∈h.Objs.set i {nth h.Objs i with Size:=size},z = {nth h.Objs i with Size:=size}\/∃j,j<h.Objs.length/\j≠i/\nth h.Objs j=z:=λz N=>eY N
 have F:(h.Objs.set i {nth h.Objs i with Size:=size}).map (·.Addr)=h.Objs.map (·.Addr):=mI T rfl;have S:(h.Objs.set i {nth h.Objs i with Size:=size}).map (·.Id)=h.Objs.map (·.Id):=mI T rfl;have hli:=(am T:nth h.Objs i∈h.Objs)
 generalize h.Objs.set i {nth h.Objs i with Size:=size} = ob at M F S |-;refine⟨o,o0,o1,{t with
   ker:=jI t.ker _ _
   rng:=by show bw (((d3 h.Kernel (l.Page+(size+15) / 16) (dG l size)).Machine.Table.Entries.length:Nat):Int) o=true;rw[R];exact o2
   lay:=?_
   srl:=?_
   pg:=Fd t (by have:((tbl h).Entries.length:Int)=(h.Kernel.Machine.Table.Entries.length:Int):=rfl;omega) (List.Sublist.refl _) (λz c q B=>?_) ω P o3
   osr:=?_
   onu:=λz c=>?_
   oid:=by show(ob.map (·.Id)).Nodup;rw[S];exact t.oid
   oow:=λz c=>?_
   nd:=?_
   mem:=λb=>?_}⟩
 ·obtain⟨l1,l2,l3⟩:=di t.lay
  unfold bj;simp only[I0,C0];refine⟨⟨l1,V3.2 λz c=>?_⟩,l3.sublist w⟩;rcases d z c with rfl|⟨j,n,-,rfl⟩
  ·exact O0 ⟨N.1,by show size<=1000;omega,rfl,by show 0<=l.Page;omega,by show l.Page<=32 - (size+15) / 16;omega⟩
  ·exact U.lok _ (am n)
 ·have A:(h.Larges.map (·.Page)).Pairwise (λa b=>a<b):=List.pairwise_map.2 t.srl
  rw[<-hpageM]at A;exact List.pairwise_map.1 A
 ·rcases d z c with rfl|⟨j,n,-,rfl⟩
  ·have:=(J q).1 B
   exact⟨l,y,(D q).2 ⟨ω,ω⟩⟩
  ·exact⟨_,am n,B⟩
 ·have A:(h.Objs.map (·.Addr)).Pairwise (λa b=>a<b):=List.pairwise_map.2 t.osr
  rw[<-F]at A;exact List.pairwise_map.1 A
 ·rcases M z c with rfl|⟨j,n,-,rfl⟩
  ·exact t.onu (nth h.Objs i) hli
  ·exact t.onu _ (am n)
 ·rcases M z c with rfl|⟨j,n,hji,rfl⟩
  ·exact .inr ⟨_,p,Y,rfl⟩
  ·rcases t.oow _ (am n) with A|⟨l',hl',e1,X⟩
   ·exact .inl A
   ·obtain⟨m,hm,rfl⟩:=bf hl'
    by_cases e:m=k
    ·subst e
     rw[V]at e1;exact absurd (gp (f:=(·.Addr)) (gj t.osr) n T (e1.trans Y.symm)) hji
    ·exact .inr ⟨_,u m hm e,e1,X⟩
 ·have hh:holders {h with Kernel:=d3 h.Kernel (l.Page+(size+15) / 16) (dG l size),Larges:=la,Objs:=ob,Free:=o} = holders h:=by
   show((ob.map (·.Addr)++cq h)++h.Quar.Lst.map (·.Addr))++aN h.Mail=_;rw[F];rfl
  rw[hh];exact t.nd
 ·have hh:holders {h with Kernel:=d3 h.Kernel (l.Page+(size+15) / 16) (dG l size),Larges:=la,Objs:=ob,Free:=o} = holders h:=by
   show((ob.map (·.Addr)++cq h)++h.Quar.Lst.map (·.Addr))++aN h.Mail=_;rw[F];rfl
  rw[hh,t.mem b];show lK h.Spans h.Larges b↔lK h.Spans la b;unfold lK;constructor
  ·rintro(A|⟨z,c,e⟩)
   ·exact .inl A
   ·obtain⟨j,n,rfl⟩:=bf c
    by_cases X:j=k
    ·subst X
     rw[V]at e;exact .inr ⟨_,p,e⟩
    ·exact .inr ⟨_,u j n X,e⟩
  ·rintro(A|⟨z,c,e⟩)
   ·exact .inl A
   ·rcases d z c with rfl|⟨j,n,-,rfl⟩
    ·exact .inr ⟨l,y,e⟩
    ·exact .inr ⟨_,am n,e⟩
def tP(h:ab)(k:Nat)(size:Int):af:=zK h.Kernel (16*(nth h.Larges k).Page+size) (16*((size+15) / 16) - size).toNat
def Gz(h:ab)(k:Nat)(size:Int):List ay:=if 0<dG (nth h.Larges k) size then(bU (dQ h) h.Free ⟨(nth h.Larges k).Page+(size+15) / 16,(dG (nth h.Larges k) size:Nat)⟩).getD h.Free else h.Free
def trimH(h:ab)(i k:Nat)(size:Int):ab:={h with Kernel:=d3 (tP h k size) ((nth h.Larges k).Page+(size+15) / 16) (dG (nth h.Larges k) size),Larges:=h.Larges.set k (trimL (nth h.Larges k) size),Objs:=h.Objs.set i {nth h.Objs i with Size:=size},Free:=Gz h k size}
theorem nw{h:ab}{E:List Int}(b:bn h E){k:Nat}(c:k<h.Larges.length){a:Int}(g:16*(nth h.Larges k).Page<=a/\a<16*(nth h.Larges k).Page+16*(nth h.Larges k).Pages):(ar h.Kernel.Machine.Table (a / 16)).Mode≠0:=by
 obtain⟨i,j⟩:=zq b c;have l:=aU (b.L.lok _ (am c));have d:(a / 16)∈pgs h.Spans h.Larges:=fA (am c) (dd.2 ⟨(a / 16 - (nth h.Larges k).Page).toNat,ω,ω⟩);have e:=b.pg.bnd _ d;have f:=(b.pg.own (a / 16).toNat ω).2 (by rw[show(((a / 16).toNat:Nat):Int)=a / 16 by omega];exact d);unfold ar;rw[C9 ⟨ω,e⟩];exact f
theorem BV{h:ab}{E:List Int}(b:bn h E){k:Nat}(c:k<h.Larges.length){size:Int}(d:9<=size/\size<=(nth h.Larges k).Size):∀{m:Nat},m<=(16*((size+15) / 16) - size).toNat->aB (zK h.Kernel (16*(nth h.Larges k).Page+size) m)=true:=fun {m} hm=>by
 have a:=b.L.lok _ (am c);unfold bS at a;rw[C0]at a;exact ND b.ker λj e=>nw b c ⟨ω,ω⟩
theorem bn.trimH{h:ab}{i k:Nat}{size:Int}(d:bn h [])(A:i<h.Objs.length)(f:k<h.Larges.length)(B:(nth h.Objs i).Addr=16*(nth h.Larges k).Page)(r:9<=size/\size<=(nth h.Larges k).Size):bn (trimH h i k size) []/\JK h (trimH h i k size):=by
 have t:=BV d f r (X2 _);have l:=(ql h.Kernel (16*(nth h.Larges k).Page+size) (16*((size+15) / 16) - size).toNat).1;have C:=d.cells t l;obtain⟨o,u,w,y⟩:=C.trimL (i:=i) (k:=k) (size:=size) A f B r;simp only at u w y;have n:dQ {h with Kernel:=zK h.Kernel (16*(nth h.Larges k).Page+size) (16*((size+15) / 16) - size).toNat} = dQ h:=by
  unfold dQ;simp only[l]
 have D:Gz h k size=o:=by
  unfold Gz;split
  ·rename_i g;have:=w g;rw[n]at this;rw[this];rfl
  ·exact(u ω).symm
 have E:Ab.trimH h i k size = {h with Kernel:=d3 (tP h k size) ((nth h.Larges k).Page+(size+15) / 16) (dG (nth h.Larges k) size),Larges:=h.Larges.set k (Ab.trimL (nth h.Larges k) size),Objs:=h.Objs.set i {nth h.Objs i with Size:=size},Free:=o}:=by unfold Ab.trimH;rw[D]
 refine⟨by rw[E];exact y,JK.less rfl rfl rfl λq j=>?_⟩;have a:=d.L.lok _ (am f);unfold bS at a;rw[C0]at a;obtain⟨F,G⟩:=zq d f;have b:(tP h k size).Machine.Table=h.Kernel.Machine.Table:=l;have c:=lr (k:=tP h k size) t (p:=(nth h.Larges k).Page+(size+15) / 16) ω (dG (nth h.Larges k) size) (by rw[b];have:((tbl h).Entries.length:Int)=(h.Kernel.Machine.Table.Entries.length:Int):=rfl;unfold dG;omega) q;change (nth (d3 (tP h k size) ((nth h.Larges k).Page+(size+15) / 16) (dG (nth h.Larges k) size)).Machine.Table.Entries q).Mode≠0 at j;show nth (d3 (tP h k size) ((nth h.Larges k).Page+(size+15) / 16) (dG (nth h.Larges k) size)).Machine.Table.Entries q=nth h.Kernel.Machine.Table.Entries q;rw[c]at j |-;split at j
 ·exact absurd rfl j
 ·rename_i e;rw[C8 e,b]
theorem FT{t:Nat}(h:1<=t/\t<=4):bI (dA t)=true:=by
 have f:∀n,n<=t->br (dA t) n=0:=λn=>by
  induction n with
  | zero=>intro _;rfl
  | succ n g=>
   intro j;have a:nth (dA t).Buffers n=[]:=cB ω;have b:nth (dA t).Inbox n=[]:=cB ω;simp only[br,g ω,a,b,List.length_nil]
   decide
 have e:(dA t).Buffers.length=t:=O3 ..;refine dv.2 ⟨⟨ω,ω,by simp[dA]⟩,λi c=>?_,by rw[e,f t (X2 _)];omega⟩;rw[e]at c;have a:nth (dA t).Buffers i=[]:=cB c;have b:nth (dA t).Inbox i=[]:=cB c;rw[a,b];exact⟨λp d=>(by cases d),λp d=>(by cases d)⟩
theorem tn(t:Nat):aN (dA t)=[]:=by
 unfold aN;split
 ·simp[dA]
 ·rfl
def pF(k:af)(t:Nat)(sd ck lim:Int):ab:=⟨k,[⟨0,(k.Machine.Table.Entries.length:Nat)⟩],[],[],[],List.replicate t eM,dA t,⟨16,[]⟩,sd,ck,lim,1,false,⟨⟨0,0,[]⟩,0,0⟩⟩
theorem DG:bo eM=true:=by decide
theorem bn.fresh{k:af}{t:Nat}{lim sd ck:Int}(A:aB k=true)(B:∀q,q<k.Machine.Table.Entries.length->(nth k.Machine.Table.Entries q).Mode=0)(E:1<=t/\t<=4)(g:0<=lim/\lim<=1000)(h:0<=sd/\sd<=1073741823)(d:0<=ck/\ck<=1000000):bn (pF k t sd ck lim) []:=by
 obtain⟨G,H,J⟩:=bx.1 (aC.1 A).2.2.1;have hca:cq (pF k t sd ck lim)=[]:=by
  unfold cq;refine List.flatMap_eq_nil_iff.2 λc d=>?_
  rw[(List.mem_replicate.1 d).2]
  rfl
 have C:holders (pF k t sd ck lim)=[]:=by
  unfold holders;rw[hca];show(([]++[])++[])++aN (dA t)=[];rw[tn];rfl
 have i:∀a,¬lK (pF k t sd ck lim).Spans (pF k t sd ck lim).Larges a:=λa=>by
  rintro(⟨s,h,-⟩|⟨l,g,-⟩)
  ·cases h
  ·cases g
 exact {
   ker:=A
   rng:=fp.2 ⟨⟨List.pairwise_singleton ..,λy n=>by rw[C1.1 n];show(1:Int)<=(k.Machine.Table.Entries.length:Nat);omega⟩,λy n=>by
       rw[C1.1 n];refine⟨T4 _,by show(1:Int)<=(k.Machine.Table.Entries.length:Nat);omega,?_⟩;show(0:Int)+(k.Machine.Table.Entries.length:Nat)<=(k.Machine.Table.Entries.length:Nat);omega,by show(1:Int)<=(k.Machine.Table.Entries.length:Nat);omega,by show((k.Machine.Table.Entries.length:Nat):Int)<=32;omega⟩
   lay:=by show bj [] []=true;decide
   srs:=List.Pairwise.nil
   srl:=List.Pairwise.nil
   pg:=⟨λl g=>(by cases g),λp f=>(by cases f),λp f=>⟨λe=>absurd (B p f) e,λe=>by cases e⟩,λp f=>⟨λe=>absurd (B p f) e,λe=>absurd ⟨_,C1.2 rfl,by show(0:Int)<=p;omega,by
       show(p:Int)<0+(k.Machine.Table.Entries.length:Nat);have F:p<k.Machine.Table.Entries.length:=f;omega⟩ e⟩,λs h=>by cases h⟩
   mail:=FT E
   nc:=by show(List.replicate t eM).length=(List.replicate t _).length;simp
   quar:=by show fw ⟨16,[]⟩ = true;decide
   snc:=λx r=>by cases r
   cach:=λc d=>by rw[(List.mem_replicate.1 d).2];exact DG
   nums:=by unfold cg;rw[C0];simp only[pF];omega
   osr:=List.Pairwise.nil
   onu:=λo u=>by cases u
   oid:=List.nodup_nil
   oow:=λo u=>by cases u
   hca:=λc d j D a b=>by
     rw[(List.mem_replicate.1 d).2]at D b;have w:j<4:=D;have:nth eM.Lists j=[]:=cB w;rw[this]at b;cases b
   hqu:=λx r=>by cases r
   hfl:=λa b=>by
     have:aN (dA t)=[]:=tn t;change a∈aN (dA t) at b;rw[this]at b;cases b
   hin:=λa b=>by cases b
   nd:=by rw[C];exact List.nodup_nil
   mem:=λa=>by rw[C];exact⟨λe=>(by cases e),λe=>absurd e (i a)⟩
   job:=λe=>by cases e
   noj:=λ_=>by show qA ⟨⟨0,0,[]⟩,0,0⟩ = true;decide}
theorem JI.no{h:ab}(a:h.Meshing=false):JI h:=⟨λe=>(by rw[a]at e;cases e),λe=>(by rw[a]at e;cases e),λe=>(by rw[a]at e;cases e),λe=>(by rw[a]at e;cases e)⟩
theorem pv{p f:Nat}{a:List Int}(d:1<=p/\p<=32)(e:1<=f/\f<=32)(b:a.length<=40/\∀x∈a,0<=x):aB (bE p f a)=true:=by
 obtain⟨-,g,h,i,c⟩:=aC.1 (AW d e);exact aC.2 ⟨λj k=>b.2 _ (am k),g,h,i,c.1,c.2.1,b.1⟩
theorem Dx{p f t:Nat}{lim:Int}{a:List Int}(c:1<=p/\p<=32)(d:1<=f/\f<=32)(g:1<=t/\t<=4)(i:0<=lim/\lim<=1000)(j:a.length<=40/\∀x∈a,0<=x):bn (uB p f t lim a) []:=by
 have h:=bn.fresh (k:=bE p f a) (t:=t) (lim:=lim) (sd:=0) (ck:=0) (pv c d j) (λq l=>by
   have b:q<p:=by simpa[bE,dO] using l
   rw[show nth (bE p f a).Machine.Table.Entries q = ⟨0,0⟩ from cB b]) g i ω ω
 have e:(bE p f a).Machine.Table.Entries.length=p:=by simp[bE,dO]
 unfold pF at h;rw[e]at h;exact h
structure dR where
 Kind:Int
 Thread:Int
 N:Int
 At:Int
 Value:Int
deriving DecidableEq,Inhabited
def dR.enc(_:du)(x:dR):List C:=[I x.Kind,I x.Thread,I x.N,I x.At,I x.Value]
def mq(id:Int)(o:bJ):Bool:=decide (o.Id=id)
def nk(r:a7)(id:Int):Int:=de (mq id) r.Objs
def ko(r:a7)(n:Int):a7:=if 1<=n/\n<=1000 then {r with Next:=r.Next+1,Objs:=r.Objs++[⟨r.Next,List.replicate n.toNat 0⟩]} else r
def kz(r:a7)(id:Int):a7:=if nk r id<0 then r else {r with Objs:=dele r.Objs (nk r id).toNat}
def eN(r:a7)(id at_ v:Int):a7:=if 0<=nk r id/\(0<=at_/\at_<=(nth r.Objs (nk r id).toNat).Cells.length - 1)/\0<=v/\v<=999 then {r with Objs:=r.Objs.set (nk r id).toNat ⟨(nth r.Objs (nk r id).toNat).Id,(nth r.Objs (nk r id).toNat).Cells.set at_.toNat v⟩} else r
def gn(r:a7)(id n:Int):a7:=if 0<=nk r id/\1<=n/\n<=(nth r.Objs (nk r id).toNat).Cells.length then {r with Objs:=r.Objs.set (nk r id).toNat ⟨(nth r.Objs (nk r id).toNat).Id,(nth r.Objs (nk r id).toNat).Cells.take n.toNat⟩} else r
structure qI(r:a7)(m:Nat):Prop where
 len:r.Objs.length<=m
 cel:∀o∈r.Objs,o.Cells.length<=1000
 nx:0<=r.Next/\r.Next<=m+1
theorem qI.more{r:a7}{m n:Nat}(h:qI r m)(a:m<=n):qI r n:=⟨by have:=h.len;omega,h.cel,h.nx.1,by have:=h.nx.2;omega⟩
theorem qI.sml{r:a7}{m:Nat}(h:qI r m)(b:m<=1000):a7.sml r:=⟨by have:=h.len;omega,λo a=>by have:=h.cel o a;show o.Cells.length<=1048576;omega⟩
theorem qI.alloc{r:a7}{m:Nat}(h:qI r m)(n:Int):qI (ko r n) (m+1):=by
 unfold ko;split
 ·refine⟨by have:=h.len;simp only[v3,List.length_singleton];omega,λo a=>?_,by have:=h.nx.1;simp only;omega,by have:=h.nx.2;simp only;omega⟩
  rcases W2.1 a with a|a
  ·exact h.cel o a
  ·rw[C1.1 a];simp only[O3];omega
 ·exact h.more ω
theorem qI.free{r:a7}{m:Nat}(h:qI r m)(id:Int):qI (kz r id) m:=by
 unfold kz;split
 ·exact h
 ·have a:=eA r.Objs (nk r id).toNat
  exact⟨O4 a.length_le h.len,λo b=>h.cel o (a.subset b),h.nx⟩
theorem qI.set{r:a7}{m i:Nat}{x:bJ}(h:qI r m)(b:x.Cells.length<=1000):qI {r with Objs:=r.Objs.set i x} m:=
 ⟨by simp only[I1];exact h.len,λo a=>by
   rcases U5 a with a|rfl
   · exact h.cel o a
   · exact b,h.nx⟩
theorem fZ{α:Type}[Inhabited α](p:α->Bool)(xs:List α)(h:0<=de p xs):(de p xs).toNat<xs.length/\p (nth xs (de p xs).toNat)=true/\de p xs=((de p xs).toNat:Nat):=by
 rcases nz p xs with e|⟨n,a,e,b⟩
 ·omega
 ·rw[e,R2];exact⟨a,b,rfl⟩
theorem qI.store{r:a7}{m:Nat}(h:qI r m)(id a v:Int):qI (eN r id a v) m:=by
 unfold eN;split
 ·rename_i e
  refine h.set ?_;simp only[I1];exact h.cel (nth r.Objs (nk r id).toNat) (am (fZ _ _ e.1).1)
 ·exact h
theorem qI.trim{r:a7}{m:Nat}(h:qI r m)(id n:Int):qI (gn r id n) m:=by
 unfold gn;split
 ·rename_i e
  refine h.set ?_;have:=h.cel (nth r.Objs (nk r id).toNat) (am (fZ _ _ e.1).1);simp only[O1];omega
 ·exact h
def LL(id:Int)(o:bm):Bool:=decide (o.Id=id)
def ro(h:ab)(id:Int):Int:=de (LL id) h.Objs
def GY(a:Int)(l:ax):Bool:=decide (l.Page*16=a)
def xI(h:ab)(a:Int):Int:=de (GY a) h.Larges
def nD(h:ab)(a:dR):Prop:=0<=a.Thread/\a.Thread<=h.Caches.length - 1
instance (h:ab) (a:dR):Decidable (nD h a):=by unfold nD;infer_instance
def ox(w:bH)(a:dR)(i:Nat):bH × Int:=
 if w.Heap.Kernel.Calls=100000 then(w,6)
 else if nD w.Heap a then(⟨(freeT w.Heap a.Thread.toNat i).1,if(freeT w.Heap a.Thread.toNat i).2=0 then kz w.Ref (nth w.Heap.Objs i).Id else w.Ref⟩,(freeT w.Heap a.Thread.toNat i).2)
 else(w,1)
def ll(w:bH)(a:dR)(i:Nat):bH × Int:=
 if ¬(0<=a.At/\a.At<=(nth w.Heap.Objs i).Size - 1) then(w,90)
 else if(ar w.Heap.Kernel.Machine.Table (((nth w.Heap.Objs i).Addr+a.At) / 16)).Mode=1 then(w,2)
 else if ¬(0<=a.Value/\a.Value<=999) then(w,3)
 else(⟨{w.Heap with Kernel:=kI w.Heap.Kernel ((nth w.Heap.Objs i).Addr+a.At) a.Value},eN w.Ref (nth w.Heap.Objs i).Id a.At a.Value⟩,0)
def kE(h:ab)(i:Nat)(n:Int):Prop:=0<=xI h (nth h.Objs i).Addr/\9<=n/\n<=(nth h.Larges (xI h (nth h.Objs i).Addr).toNat).Size
instance (h:ab) (i:Nat) (n:Int):Decidable (kE h i n):=by unfold kE;infer_instance
def oG(w:bH)(a:dR)(i:Nat):bH × Int:=
 if w.Heap.Kernel.Calls≠100000/\kE w.Heap i a.Value then(⟨trimH w.Heap i (xI w.Heap (nth w.Heap.Objs i).Addr).toNat a.Value,gn w.Ref (nth w.Heap.Objs i).Id a.Value⟩,0) else(w,90)
def mB(w:bH)(a:dR)(i:Nat):bH × Int:=if a.Kind=2 then ox w a i else if a.Kind=3 then ll w a i else oG w a i
def fD(h:ab)(a:dR):ab × Int:=
 if a.Kind=5 then(if nD h a/\0<(nth h.Mail.Buffers a.Thread.toNat).length then({h with Mail:=fJ h.Mail a.Thread.toNat},0) else(h,90))
 else if ¬(h.Kernel.Calls≠100000/\nD h a) then(h,0)
 else if a.Kind=6 then(collect h a.Thread.toNat,((nth h.Mail.Inbox a.Thread.toNat).length:Nat))
 else((flushN a.Thread.toNat h 4).1,((flushN a.Thread.toNat h 4).2:Nat))
def m7(h:ab)(n:Int):ab × Int:=if h.Kernel.Calls≠100000/\(0<=n/\n<=1000)/\h.Clock+n<=1000000 then(tick h n,((mb h n).length:Nat)) else(h,0)
def q9(h:ab):Bool:=h.Meshing&&decide (h.Kernel.Calls<=99000)
def l9(h:ab):Nat->ab × Nat
 | 0=>(h,0)
 | i+1=>if q9 (l9 h i).1=true then(mStep (l9 h i).1,(l9 h i).2+1) else l9 h i
def mG(h:ab):ab × Int:=if h.Meshing=true then(h,90) else((started h).1,if(started h).2=true then 0 else 90)
def lH(w:bH)(a:dR):bH × Int:=
 if a.Kind=1 then(⟨(eO w.Heap a.Thread a.N).1,if(eO w.Heap a.Thread a.N).2.2=0 then ko w.Ref a.N else w.Ref⟩,(eO w.Heap a.Thread a.N).2.2)
 else if a.Kind=2\/a.Kind=3\/a.Kind=4 then(if ro w.Heap a.N<0 then(w,90) else mB w a (ro w.Heap a.N).toNat)
 else if a.Kind=5\/a.Kind=6\/a.Kind=7 then(⟨(fD w.Heap a).1,w.Ref⟩,(fD w.Heap a).2)
 else if a.Kind=8 then(⟨(m7 w.Heap a.N).1,w.Ref⟩,(m7 w.Heap a.N).2)
 else if a.Kind=9 then(⟨(mG w.Heap).1,w.Ref⟩,(mG w.Heap).2)
 else if a.Kind=10/\0<=a.N/\a.N<=50 then(⟨(l9 w.Heap a.N.toNat).1,w.Ref⟩,((l9 w.Heap a.N.toNat).2:Nat))
 else(w,90)
structure rD(w:bH)(m:Nat):Prop where
 inv:bn w.Heap []
 ji:JI w.Heap
 ref:qI w.Ref m
theorem rD.more{w:bH}{m n:Nat}(h:rD w m)(a:m<=n):rD w n:=⟨h.inv,h.ji,h.ref.more a⟩
theorem rD.jk{w:bH}{m:Nat}(h:rD w m){g:ab}{r:a7}(a:bn g []/\JK w.Heap g)(b:qI r m):rD ⟨g,r⟩ m:=⟨a.1,h.ji.keep a.1 a.2,b⟩
theorem mj{h:ab}{E:List Int}(a:bn h E){o:bm}(p:o∈h.Objs){k:Int}(D:0<=k/\k<=o.Size - 1):(ar h.Kernel.Machine.Table ((o.Addr+k) / 16)).Mode≠0/\0<=o.Addr/\o.Addr+k<512:=by
 rcases a.oow o p with⟨s,g,q,r⟩|⟨l,i,F,G⟩
 ·have b:=a.L.sok s g
  have t:=aF b;obtain⟨u,w,y⟩:=a.mapped g;have d:=cx t.2.2;obtain⟨H,J,A,-⟩:=q;have f:o.Size<=csz s.Class:=by
   have K:=pC (n:=o.Size) ω;rw[r];have:o.Size=1\/o.Size=2\/o.Size=3\/o.Size=4\/o.Size=5\/o.Size=6\/o.Size=7\/o.Size=8:=ω
   rcases this with e|e|e|e|e|e|e|e<;>rw[e]<;>decide
  have B:(o.Addr+k) / 16=s.Page:=by
   rcases d with e|e|e|e<;>rw[e]at A f<;>omega
  rw[B];refine⟨?_,ω,ω⟩;unfold ar;rw[C9 ⟨u,w⟩];exact y
 ·obtain⟨j,C,rfl⟩:=bf i
  have c:=a.L.lok _ i;unfold bS at c;rw[C0]at c;exact⟨nw a C ⟨ω,ω⟩,ω,ω⟩
theorem rD.obj{w:bH}{m:Nat}(h:rD w m)(a:dR){i:Nat}(b:i<w.Heap.Objs.length):rD (mB w a i).1 m:=by
 unfold mB;split
 ·unfold ox
  split
  ·exact h
  split
  ·rename_i d
   unfold nD at d;refine h.jk (h.inv.freeT b ω) ?_;split
   ·exact h.ref.free _
   ·exact h.ref
  ·exact h
 split
 ·unfold ll
  split
  ·exact h
  rename_i l;split
  ·exact h
  split
  ·exact h
  rename_i n;exact h.jk (h.inv.store (mj h.inv (am b) ω).1 ω) (h.ref.store _ _ _)
 ·unfold oG
  split
  ·rename_i e
   obtain⟨-,f,g⟩:=e;obtain⟨j,k,o⟩:=fZ _ _ f;have c:=of_decide_eq_true k;exact h.jk (h.inv.trimH b j (c.symm.trans (Int.mul_comm _ _)) g) (h.ref.trim _ _)
  ·exact h
theorem rD.thread{w:bH}{m:Nat}(h:rD w m)(a:dR):rD ⟨(fD w.Heap a).1,w.Ref⟩ m:=by
 unfold fD;split
 ·split
  ·rename_i e
   obtain⟨b,i⟩:=e;unfold nD at b;exact h.jk (g:={w.Heap with Mail:=fJ w.Heap.Mail a.Thread.toNat}) ⟨h.inv.deliv (by rw[<-h.inv.nc];omega) i,JK.eq rfl rfl rfl rfl⟩ h.ref
  ·exact h
 split
 ·exact h
 rename_i e;have e:=Classical.not_not.1 e;obtain⟨-,b⟩:=e;unfold nD at b;split
 ·exact h.jk (g:=collect w.Heap a.Thread.toNat) (h.inv.collect ω) h.ref
 ·have c:a.Thread.toNat<w.Heap.Caches.length:=ω
  have d:=(jZ h.inv c (X2 4)).1;have f:=JK.flushN h.inv c (X2 4);generalize flushN a.Thread.toNat w.Heap 4=r at d f |-;exact h.jk (g:=r.1) ⟨d,f⟩ h.ref
theorem rZ{h:ab}(a:bn h [])(b:JI h):∀n,bn (l9 h n).1 []/\JI (l9 h n).1
 | 0=>⟨a,b⟩
 | n+1=>by
  obtain⟨c,d⟩:=rZ a b n;unfold l9;split
  ·rename_i e
   unfold q9 at e;rw[I0]at e;exact c.mStep d e.1
  ·exact⟨c,d⟩
theorem rD.act{w:bH}{m:Nat}(h:rD w m)(a:dR):rD (lH w a).1 (m+1):=by
 unfold lH;split
 ·have b:=HR (t:=a.Thread) (size:=a.N) h.inv
  refine⟨b.1,h.ji.keep b.1 b.2,?_⟩;show qI (if _ then _ else _) (m+1);split
  ·exact h.ref.alloc _
  ·exact h.ref.more ω
 refine rD.more (m:=m) ?_ ω;split
 ·split
  ·exact h
  ·rename_i e
   exact h.obj a (fZ _ _ (by unfold ro at e;omega)).1
 split
 ·exact h.thread a
 split
 ·unfold m7
  split
  ·rename_i e
   exact h.jk (h.inv.tick e.2.1.1 e.2.2) h.ref
  ·exact h
 split
 ·unfold mG
  split
  ·exact h
  ·rename_i e
   have b:=Gb h.inv (by simpa using e);exact⟨b.1,b.2,h.ref⟩
 split
 ·have b:=rZ h.inv h.ji a.N.toNat
  exact⟨b.1,b.2,h.ref⟩
 ·exact h
structure cA where
 Pages:Nat
 Frames:Nat
 Threads:Nat
 Limit:Int
 Refuse:List Int
deriving Inhabited
structure Db(c:cA):Prop where
 p:1<=c.Pages/\c.Pages<=32
 f:1<=c.Frames/\c.Frames<=32
 t:1<=c.Threads/\c.Threads<=4
 l:0<=c.Limit/\c.Limit<=1000
 r:c.Refuse.length<=40/\∀x∈c.Refuse,0<=x
def world0(c:cA):bH:=⟨uB c.Pages c.Frames c.Threads c.Limit c.Refuse,{Next:=1,Objs:=[]}⟩
def yw(c:cA)(acts:List dR):Nat->bH × List Int
 | 0=>(world0 c,[])
 | i+1=>((lH (yw c acts i).1 (nth acts i)).1,(yw c acts i).2++[(lH (yw c acts i).1 (nth acts i)).2])
theorem H7{c:cA}(h:Db c):rD (world0 c) 0:=
 ⟨Dx h.p h.f h.t h.l h.r,JI.no rfl,⟨X2 _,λo a=>(by cases a),by show(0:Int)<=1;omega,by show(1:Int)<=((0:Nat):Int)+1;omega⟩⟩
theorem si{c:cA}(h:Db c)(acts:List dR):∀n,rD (yw c acts n).1 n
 | 0=>H7 h
 | n+1=>(si h acts n).act _
theorem or64{z1 z2:Int}(h1:0<=z1/\z1<=65535)(a:0<=z2/\z2<=65535):IntKind.i64.wrap ((BitVec.ofInt IntKind.i64.bits z1 ||| BitVec.ofInt IntKind.i64.bits z2).toNat:Nat)=bor z1 z2:=by
 rw[BitVec.toNat_or,ma ω,ma ω];have b:=KW h1 a;unfold bor at b |-;exact fg ω ω
theorem yc(h:ab)(i:Nat)(n:dy h.Spans)(d:yb h)(a:∀s∈h.Spans,bg s=true)(y:i<h.Spans.length):ao Tryz.prog 342 false [.val (some 24) (ab.enc .imm h),.val none [I (i:Nat)]] .one [I (gE h i)]:=by
 have F:=n.1;have G:=ah y;have g:=uD a y;have B:=aE ((i:Nat):Int) 0 ((h.Spans.length:Int) - 1);rw[O0 (show(0:Int)<=(i:Nat)/\((i:Nat):Int)<=(h.Spans.length:Int) - 1 by omega)]at B;have C:=gK h (nth h.Spans i).Page d;have o:=gz h (nth h.Spans i).Page;have H:dQ h<=1048576:=d.1;have c:gE h i=jv h.Spans (aT h (nth h.Spans i).Page) (nth h.Spans i).Bits (aT h (nth h.Spans i).Page).length:=rfl;obtain⟨ps,q⟩ : ∃ps,aT h (nth h.Spans i).Page=ps:=⟨_,rfl⟩
 obtain⟨b,r⟩ : ∃b,(nth h.Spans i).Bits=b:=⟨_,rfl⟩
 rw[q]at C o c;rw[r]at c g;rw[c];have J:jv h.Spans ps b 0=b:=rfl;refine fO 63 [(4,7,[22,23,24,25,26,27,28]),(11,10,[43,44,45,46,47,48,49,50,51,52])] Tryz.func342 rfl ?_
 repeat'(first|refine gO ?_|(conv=>whnf);first|with_reducible refine CB (aa G) ?_|refine C7 (B) ?_|refine C7 (C) ?_)
 (conv=>whnf)
 refine CE (ι:=Nat) (λu=>[(2,.hold .box (ab.enc .imm h)),(5,.hold .one [I (jv h.Spans ps b u)]),(6,.hold .one (aD .own ps)),(7,.hold .one [I ((u:Nat):Int)])]) (λu=>u<=ps.length) (λu=>ps.length - u) (0) ?_ (T0 _) λu M=>?_
 ·exact wB
 by_cases K:u<ps.length
 ·have l:=ah K
  have t:=rr a (ps:=ps) g u
  repeat'(first|refine gD ?_|fail)
  (conv=>whnf)
  refine CE (ι:=Nat) (λj=>[(2,.hold .box (ab.enc .imm h)),(5,.hold .one [I (r6 h.Spans (nth ps u) (jv h.Spans ps b u) j)]),(6,.hold .one (aD .own ps)),(7,.hold .one [I ((u:Nat):Int)]),(8,.hold .one [I ((j:Nat):Int)])]) (λj=>j<=h.Spans.length) (λj=>h.Spans.length - j) (0) ?_ (T0 _) λj L=>?_
  ·exact wB
  by_cases D:j<h.Spans.length
  ·have E:=ah D
   have w:=uA a (p:=nth ps u) t j L;by_cases e:(nth h.Spans j).Page=nth ps u
   ·have k:r6 h.Spans (nth ps u) (jv h.Spans ps b u) (j+1)=bor (r6 h.Spans (nth ps u) (jv h.Spans ps b u) j) (nth h.Spans j).Bits:=C9 e
    repeat'(first|refine gA ?_|(conv=>whnf);first|with_reducible (first|refine CB (aa l) ?_|refine CB (aa E) ?_)|refine CG rfl (aa l) rfl ?_|refine CJ (or64 w (uD a D)) ?_)
    ((conv=>whnf);refine CC (j+1) ω ω ?_;(exact wB))
   ·have k:r6 h.Spans (nth ps u) (jv h.Spans ps b u) (j+1)=r6 h.Spans (nth ps u) (jv h.Spans ps b u) j:=C8 e
    repeat'(first|refine gA ?_|(conv=>whnf);first|with_reducible (first|refine CB (aa l) ?_|refine CB (aa E) ?_)|refine CG rfl (aa l) rfl ?_)
    ((conv=>whnf);refine CC (j+1) ω ω ?_;(exact wB))
  ·obtain rfl:j=h.Spans.length:=ω
   repeat'(first|refine gD ?_|fail)
   ((conv=>whnf);refine CC (u+1) ω ω ?_;(exact wB))
 ·obtain rfl:u=ps.length:=ω
  repeat'(first|refine gD ?_|fail)
  rfl
theorem rW{xs:List bm}(h:∀o∈xs,0<=o.Size/\o.Size<=1000):∀k:Nat,k<=xs.length->0<=so xs k/\so xs k<=1000*k
 | 0,_=>⟨T4 _,T4 _⟩
 | k+1,a=>by
  have b:=rW h k ω;have c:=h _ (am (xs:=xs) (i:=k) ω);simp only[so];omega
theorem vZ(h:ab)(a:∀o∈h.Objs,0<=o.Size/\o.Size<=1000)(e:h.Objs.length<=1048576):ao Tryz.prog 51 false [.val (some 24) (ab.enc .imm h)] .one [I (vi h)]:=by
 refine fO 21 [] Tryz.func51 rfl ?_
 repeat'(first|refine gO ?_|fail)
 (conv=>whnf)
 refine CE (ι:=Nat) (λk=>[(1,.hold .box (ab.enc .imm h)),(3,.hold .one [I (so h.Objs k)]),(4,.hold .one [I ((k:Nat):Int)])]) (λk=>k<=h.Objs.length) (λk=>h.Objs.length - k) (0) ?_ (T0 _) λk c=>?_
 ·exact wB
 have g:=rW a k c;by_cases b:k<h.Objs.length
 ·have d:=ah b
  have i:=a _ (am b)
  repeat'(first|refine gD ?_|(conv=>whnf);first|refine CB (aa d) ?_)
  ((conv=>whnf);refine CC (k+1) ω ω ?_;(exact wB))
 ·obtain rfl:k=h.Objs.length:=ω
  repeat'(first|refine gD ?_|fail)
  rfl
theorem wF(k b:Int)(h:b<=9223372036854775807):ao Tryz.prog 341 false [.val none [I (slots k)],.val none [I b]] .one (aD .own (pG k b)):=by
 have c:=pz k b;have p:0<=slots k/\slots k<=16:=by unfold slots;repeat' split<;>omega
 unfold pG;cases e:L1 k b<;>rw[e]at c
 ·rw[C8 (by simp)]
  refine fO 27 [] Tryz.func341 rfl ?_ (.inr (bG _))
  repeat'(first|refine gO ?_|fail)
  (conv=>whnf)
  refine CE (ι:=Nat) (λj=>[(0,.hold .one [I (slots k)]),(1,.hold .one [I (b)]),(5,.hold .one (aD .own [])),(6,.hold .one [I ((j:Nat):Int)])]) (λj=>j=0) (λj=>1 - j) (0) ?_ (rfl) λj g=>?_
  ·exact wB
  subst g
  repeat'(first|refine gD ?_|(conv=>whnf);first|with_reducible refine Bf.D (λi=>?_) (λi=>?_)|refine C7 (c) ?_)
  all_goals rfl
 ·rw[C9 rfl]
  refine fO 27 [] Tryz.func341 rfl ?_ (.inr (bG _))
  repeat'(first|refine gO ?_|fail)
  (conv=>whnf)
  refine CE (ι:=Nat) (λj=>[(0,.hold .one [I (slots k)]),(1,.hold .one [I (b)]),(5,.hold .one (aD .own (n6 b j))),(6,.hold .one [I ((j:Nat):Int)])]) (λj=>j<=(slots k).toNat) (λj=>(slots k).toNat - j) (0) ?_ (T0 _) λj g=>?_
  ·exact wB
  have l:=rY b j;by_cases q:j<(slots k).toNat
  ·have d:=ik b (j:Nat) h
   have a:n6 b (j+1)=if aX b (j:Nat)=true then n6 b j else n6 b j++[((j:Nat):Int)]:=rfl
   cases n:aX b (j:Nat)<;>rw[n]at d a
   ·rw[C8 (by simp)]at a
    repeat'(first|refine gD ?_|(conv=>whnf);first|refine C7 (c) ?_|refine C7 (d) ?_|refine CP bV (λr o=>by rw[C1.1 o];rfl) (by simp[aV,dz]) (by simp;omega) (by simp only[X0];exact wi (by simp;omega) (by decide)) rfl ?_)
    ((conv=>whnf);refine CC (j+1) ω ω ?_)
    rw[a]
    repeat'(first|exact trivial|rfl|exact CI rfl (CI (U0 (C.s du.own) (by simp[rI])) trivial)|refine CI ?_ ?_|(exact xv (by first|omega|(simp only;omega)|(simp;omega))))
   ·rw[C9 rfl]at a
    repeat'(first|refine gD ?_|(conv=>whnf);first|refine C7 (c) ?_|refine C7 (d) ?_)
    ((conv=>whnf);refine CC (j+1) ω ω ?_)
    rw[a];exact wB
  ·obtain rfl:j=(slots k).toNat:=ω
   repeat'(first|refine gD ?_|fail)
   rfl
theorem HS(b i:Int):bor b (2 ^ i.toNat)=gv b i:=by
 unfold bor gv;have:((2 ^ i.toNat:Nat):Int)=(2:Int) ^ i.toNat:=Int.natCast_pow 2 i.toNat;rw[<-this,R2]
theorem xy(b i:Int)(d:0<=b/\b<=65535)(a:0<=i/\i<=15):ao Tryz.prog 344 false [.val none [I b],.val none [I i]] .one [I (gv b i)]:=by
 have c:=o8 b i;rw[O0 ω]at c;have e:IntKind.u64.wrap i=i:=by unfold IntKind.wrap;simp[IntKind.signed,IntKind.bits];omega
 have h:=(shl64 a).2;have g:=(or64 (z1:=b) (z2:=2 ^ i.toNat) d ω).trans (HS b i);refine fO 15 [] Tryz.func344 rfl ?_
 repeat'(first|refine gO ?_|(conv=>whnf);first|refine C7 (c) ?_|refine CL ω ?_|refine CJ e ?_|refine CJ (shl64 a).1 ?_|refine CJ g ?_)
 rfl
theorem L8{s:au}(b:bg s=true){k:Int}(d:0<=k/\k<slots s.Class):0<=k*csz s.Class/\k*csz s.Class<=15:=by
 have a:=aF b;have c:=gm a.2.2;rcases cx a.2.2 with e|e|e|e<;>rw[e]at c |-<;>omega
theorem xA(s:au)(k:Int)(a:bg s=true)(d:0<=k/\k<slots s.Class):ao Tryz.prog 345 false [.val (some 3) (au.enc .imm s),.val none [I k]] .one [I (16*s.Page+k*csz s.Class)]:=by
 have e:=aF a;have i:=L8 a d;have j:=gm e.2.2;have b:=gc s;rw[a]at b;have g:=mg s.Class;have c:=aE k 0 (slots s.Class - 1);rw[O0 ω]at c;have h:=d6 s.Class;refine fO 26 [(3,8,[17,18,19,20,21,22,23,24])] Tryz.func345 rfl ?_
 repeat'(first|refine gO ?_|(conv=>whnf);first|refine C7 (b) ?_|refine C7 (g) ?_|refine C7 (c) ?_|refine C7 (h) ?_|refine CA ?_)
 exact U0 (λz=>[I z]) ω
theorem A6(f:aZ)(g:f.Used.length<=1048576):ao Tryz.prog 346 false [.val (some 2) (aZ.enc .imm f)] .one [I (de (λu=>!u) f.Used)]:=by
 refine fO 18 [] Tryz.func346 rfl ?_
 repeat'(first|refine gO ?_|fail)
 (conv=>whnf)
 refine CE (ι:=Nat) (λi=>[(1,.hold .box (aZ.enc .imm f)),(3,.hold .one [I ((i:Nat):Int)])]) (λi=>i<=f.Used.length/\∀(j:Nat)(z:Bool),j<i->f.Used[j]? = some z->(!z)=false) (λi=>f.Used.length - i) (0) ?_ (⟨T0 _,λj z h=>ω⟩) λi c=>?_
 ·exact wB
 obtain⟨c,b⟩:=c;by_cases d:i<f.Used.length
 ·have a:=ah d
  cases e:nth f.Used i<;>rw[e]at a
  ·repeat'(first|refine gD ?_|(conv=>whnf);first|with_reducible refine CB (aa a) ?_)
   exact U0 (λz=>[I z]) (dM a rfl b).symm
  ·repeat'(first|refine gD ?_|(conv=>whnf);first|with_reducible refine CB (aa a) ?_)
   ((conv=>whnf);refine CC (i+1) ⟨ω,dl a rfl b⟩ ω ?_;(exact wB))
 ·repeat'(first|refine gD ?_|fail)
  exact U0 (λz=>[I z]) (fX ω b).symm
end Go.Proofs.YtembpgjjnioagaaGreat.Ab
