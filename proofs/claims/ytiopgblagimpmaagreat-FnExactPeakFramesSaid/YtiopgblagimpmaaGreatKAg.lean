/- Everything but a job's own steps leaves the job alone. No condition. -/
import Derived.Test.YtiopgblagimpmaaGreatKAc
import Derived.Test.YtiopgblagimpmaaGreatKAf
import Derived.Test.YtiopgblagimpmaaGreatKAe
import Derived.Test.YtiopgblagimpmaaGreatKAd
import Derived.Laws.StructEq
set_option linter.unusedVariables false
set_option linter.defProp false
set_option linter.unusedSimpArgs false
set_option linter.constructorNameAsVariable false
namespace Go.Proofs.YtiopgblagimpmaaGreat.Ab
structure JK(h h':ac):Prop where
 job:h'.a5=h.a5
 msh:h'.a2=h.a2
 sp:∀s∈h.K,fY h s.R=true->∃s'∈h'.K,s'.R=s.R/\∀u,meshable s u=true->meshable s' u=true
 ent:∀q:Nat,(nth (tbl h').O q).k≠0->((nth (tbl h).O q).k≠0/\(nth (tbl h').O q).e=(nth (tbl h).O q).e)\/∀u:Nat,(nth (tbl h').O u).k≠0->(nth (tbl h').O u).e=(nth (tbl h').O q).e->u=q
theorem JK.refl(h:ac):JK h h:=⟨rfl,rfl,ψ,ω⟩
variable{h h':ac}
theorem JK.pg(k:JK h h')(p:Int):fY h' p=fY h p:=by grind [JK.job,JK.msh,fY]
theorem JK.trans{h1 c:ac}(a:JK h h1)(b:JK h1 c):JK h c:=by
 refine⟨b.job.trans a.job,b.msh.trans a.msh,λs f g=>?_,λq d=>?_⟩
 ·grind [JK.sp,JK.pg]
 rcases b.ent q d with⟨e,i⟩|e
 all_goals grind [JK.ent]
theorem oC.keep{p:Int}(c:0<=p)(d:(nth (tbl h').O p.toNat).k≠0)(e:oC (tbl h) p)(k:JK h h'):oC (tbl h') p:=λq f g=>by
 rcases k.ent p.toNat d with⟨n,i⟩|a
 ·rcases k.ent q f with⟨j,l⟩|b
  ·exact e q j (by rw[<-l,g,i])
  grind
 grind
variable{E:List Int}
theorem bg.mapped(a:bg h E){s:aA}(b:s∈h.K):0<=s.R/\s.R<(tbl h).O.length/\(nth (tbl h).O s.R.toNat).k≠0:=by
 have c:=(aL (a.L.sok s b)).1;have d:=a.pg.bnd _ (eG (la:=h.J) b);refine⟨c,d,(a.pg.own s.R.toNat ω).2 ?_⟩
 grind [eG]
theorem JI.keep(g:JI h)(j:bg h' E)(k:JK h h'):JI h':=by
 have d:h.a2=true->∃a∈h'.K,∃b∈h'.K,a.R=h.a5.b.a7/\b.R=h.a5.b.a9/\meshable a b=true:=λc=>by grind [JI.sp,JK.sp,jQ,fY]
 refine⟨λc=>?_,λc=>?_,λc=>?_,λc=>?_⟩
 ·rw[k.msh]at c;rw[k.job];exact g.ph c
 ·grind [JK.msh,JK.job]
 ·rw[k.msh]at c
  obtain⟨a,l,b,n,o,p,i⟩:=d c;obtain⟨e,q,f⟩:=j.mapped l;rw[k.job];rw[o]at e f;exact(g.sk c).keep e f k
 rw[k.msh]at c;obtain⟨a,l,b,n,o,p,i⟩:=d c;obtain⟨e,q,f⟩:=j.mapped n;rw[k.job];rw[p]at e f;exact(g.sm c).keep e f k
theorem JK.less(h1:h'.a5=h.a5)(a:h'.a2=h.a2)(b:h'.K=h.K)(c:∀q:Nat,(nth (tbl h').O q).k≠0->nth (tbl h').O q=nth (tbl h).O q):JK h h':=
 ⟨h1,a,ψ,ψ⟩
theorem JK.eq(h1:h'.a5=h.a5)(a:h'.a2=h.a2)(b:h'.K=h.K)(c:tbl h'=tbl h):JK h h':=.less h1 a b ψ
def JK.clrS{h:ac}{E:List Int}{a:Int}{i:Nat}(f:bg h E)(c:i<h.K.length)(d:fT (nth h.K i) a):JK h (clrS h i a):=by
 refine⟨rfl,rfl,λs g _=>?_,λq k=>.inl ⟨k,rfl⟩⟩;obtain⟨j,l,rfl⟩:=bu g;by_cases e:j=i
 ·subst e
  have b:=f.L.sok _ (au c);exact⟨_,jb _ c,rfl,λu n=>BO b (uX b ⟨d.1,d.2.1⟩) n⟩
 exact⟨_,kz _ l e,rfl,λ_ z=>z⟩
theorem JK.giveP{h:ac}{E:List Int}{i:Nat}(a:bg h E)(b:i<h.K.length)(c:fY h (nth h.K i).R=false):JK h (giveP h i):=by
 obtain⟨d,e,-⟩:=a.mapped (au b);refine⟨rfl,rfl,λs f g=>?_,λq k=>.inl ?_⟩
 ·obtain⟨j,l,rfl⟩:=bu f
  exact⟨_,fK.2 ψ,rfl,λ_ z=>z⟩
 have n:=Aa a.ker (p:=(nth h.K i).R) ⟨d,e⟩ q;change (nth (cI h.H (nth h.K i).R).F.Q.O q).k≠0 at k;show(nth h.H.F.Q.O q).k≠0/\(nth (cI h.H (nth h.K i).R).F.Q.O q).e=(nth h.H.F.Q.O q).e
 grind
def JK.freeS{h:ac}{E:List Int}{a:Int}{i:Nat}(c:bg h (a::E))(b:i<h.K.length)(d:fT (nth h.K i) a):JK h (freeS h i a):=by
 have g:=c.give b d;have f:=JK.clrS c b d;unfold Ab.freeS;split
 ·rename_i e
  have j:nth (Ab.clrS h i a).K i=lv (nth h.K i) (dP (nth h.K i) a):=by unfold Ab.clrS;simp only[cL,true_and];rw[CC b]
  exact f.trans (JK.giveP (h:=Ab.clrS h i a) g (by unfold Ab.clrS;simp only[Z1];exact b) (by rw[j];exact e.2))
 exact f
theorem JK.freeA{h:ac}{E:List Int}{a:Int}(b:bg h (a::E)):JK h (freeA h a):=by
 obtain⟨c,d,-⟩:=b.at (b.hin a ψ);exact JK.freeS b c d
def JK.recyc{h:ac}{E:List Int}{a:Int}{t:Nat}(b:bg h (a::E)):JK h (recyc t h a):=by
 unfold Ab.recyc;split
 ·exact JK.eq rfl rfl rfl rfl
 exact JK.freeA b
theorem JK.recycs{t:Nat}{E:List Int} : ∀{az:List Int}{h:ac},bg h (az++E)->t<h.T.length->JK h (recycs t h az)
 | [],h,_,_=>JK.refl h
 | a::az,h,b,c=>(JK.recyc (t:=t) b).trans (JK.recycs (az:=az) (h:=Ab.recyc t h a) (b.recyc c) (by grind [se]))
def JK.freeAs{E:List Int} : ∀{az:List Int}{h:ac},bg h (az++E)->JK h (freeAs h az)
 | [],h,_=>JK.refl h
 | a::az,h,b=>(JK.freeA b).trans (JK.freeAs (az:=az) (h:=Ab.freeA h a) b.freeA)
theorem JK.flushN{t:Nat}{h:ac}(c:bg h [])(d:t<h.T.length):∀{k:Nat},k<=4->JK h (flushN t h k).1
 | 0,_=>JK.refl h
 | k+1,e=>by
  obtain⟨h1,f,-⟩:=jL c d (k:=k) ω;have a:t<(Ab.flushN t h k).1.T.length:=ω
  have b:k<(nth (Ab.flushN t h k).1.T t).X.length:=by grind [dK,bg.cach,au]
  exact JK.trans (h1:=Ab.spilt (Ab.flushN t h k).1 t k) ((JK.flushN c d (k:=k) ω).trans (JK.eq rfl rfl rfl rfl)) (JK.freeAs (h1.spilt a b))
variable{k:Nat}
def DG(a:bg h E)(b:k<h.J.length):0<=(nth h.J k).R/\(nth h.J k).R+((nth h.J k).w.toNat:Nat)<=(tbl h).O.length:=by
 have c:=aX (a.L.lok _ (au b));have d:=a.pg.bnd _ (gk (sp:=h.K) (au b) (dI.2 ⟨(nth h.J k).w.toNat - 1,ω,rfl⟩));omega
theorem JK.freeL{h:ac}{E:List Int}{i k:Nat}(a:bg h E)(b:k<h.J.length):JK h (freeL h i k):=by
 obtain⟨c,d⟩:=DG a b;refine JK.less rfl rfl rfl λq e=>?_
 have f:=nu a.ker c (nth h.J k).w.toNat d q;change (nth (du h.H (nth h.J k).R (nth h.J k).w.toNat).F.Q.O q).k≠0 at e;show nth (du h.H (nth h.J k).R (nth h.J k).w.toNat).F.Q.O q=nth h.H.F.Q.O q
 grind
theorem JK.freeOb{h:ac}{t i:Nat}(b:bg h [])(c:i<h.M.length)(d:t<h.T.length):JK h (freeOb h t i).1:=by
 unfold Ab.freeOb;split
 ·rename_i a
  obtain⟨l,e,h1,-⟩:=(ef b (au c)).1 a
  grind [JK.freeL,ui]
 rename_i a;split
 ·exact JK.refl h
 have h1:=b.inQuar c a;exact JK.trans (h1:=Ab.inQuar h i) (JK.eq rfl rfl rfl rfl) (JK.recycs (E:=[]) ψ d)
variable{i:Nat}
theorem JK.take{k sd:Int}(a:fY h (nth h.K i).R=false):JK h {h with b5:=sd,K:=h.K.set i (rg (nth h.K i) k)}:=by
 refine⟨rfl,rfl,λs d b=>?_,λq c=>.inl ⟨c,rfl⟩⟩
 grind [bu,kz]
theorem ER{t:aO}{q:Nat}(h:(nth t.O q).k≠0):q<t.O.length:=by
 by_cases e:q<t.O.length
 ·exact e
 exfalso;apply h;unfold nth;rw[List.getD_eq_getElem?_getD,z3 ω]
 rfl
theorem JK.addS{h:ac}{k:ah}{b:List aE}{p c:Int}(s:yq h.H p (k,true)):JK h (addS h k b p c):=by
 obtain⟨f,g,i,j,l⟩:=s.yes rfl;have a:k.F.Q.O.length=h.H.F.Q.O.length:=s.len;refine⟨rfl,rfl,λz d _=>⟨z,dL.2 (.inr d),rfl,λ_ y=>y⟩,λq e=>?_⟩;change (nth k.F.Q.O q).k≠0 at e;show((nth h.H.F.Q.O q).k≠0/\(nth k.F.Q.O q).e=(nth h.H.F.Q.O q).e)\/∀u:Nat,(nth k.F.Q.O u).k≠0->(nth k.F.Q.O u).e=(nth k.F.Q.O q).e->u=q
 grind [ER]
theorem JK.addL{h:ac}{k:ah}{d:List aE}{p size t:Int}{n:Nat}(s:iq h.H p n (k,n)):JK h (addL h k d p n size t):=by
 have a:k.F.Q.O.length=h.H.F.Q.O.length:=s.len;refine⟨rfl,rfl,λz f _=>⟨z,f,rfl,λ_ y=>y⟩,λq g=>?_⟩;change (nth k.F.Q.O q).k≠0 at g;show((nth h.H.F.Q.O q).k≠0/\(nth k.F.Q.O q).e=(nth h.H.F.Q.O q).e)\/∀u:Nat,(nth k.F.Q.O u).k≠0->(nth k.F.Q.O u).e=(nth k.F.Q.O q).e->u=q
 by_cases e:p<=q/\(q:Int)<p+n
 ·exact .inr λu c b=>(s.new q e.1 e.2).2 u (by rw[<-a];exact ER c) c b
 have i:=s.out q e
 grind
theorem uT(h:ac):∀{n:Nat},n<=h.K.length->∀s∈je h n,(aV h s.R).length=1
 | 0,_,s,a=>by cases a
 | n+1,b,s,a=>by
  unfold je at a;split at a
  ·rename_i e
   rcases O3.1 a with a|a
   ·exact uT h ω s a
   grind [rR]
  exact uT h ω s a
theorem bg.sole(b:bg h E){s:aA}(c:s∈h.K)(h1:(aV h s.R).length=1):oC (tbl h) s.R:=λq a d=>by
 obtain⟨g,i,e⟩:=b.mapped c;have f:s.R=((s.R.toNat:Nat):Int):=ω
 rw[f,fE (by show s.R.toNat<(tbl h).O.length;omega) e]at h1;obtain⟨z,j⟩:=List.length_eq_one_iff.1 h1;have k:(s.R.toNat:Int)∈pagesOn (tbl h) (nth (tbl h).O s.R.toNat).e:=eY.2 ω;have l:(q:Int)∈pagesOn (tbl h) (nth (tbl h).O s.R.toNat).e:=eY.2 ⟨ER a,a,d⟩
 grind
def JV(hi:bg h [])(l:h.a2=false):bg (started h).1 []/\JI (started h).1:=by
 have F:=hi.nums;unfold cg at F;rw[C0]at F;have L:=(kh (b9 h).length (show 0<=h.b5/\h.b5<=1073741823 by omega) ((b9 h).length - 1)).2;have n:=oy (b9 h) (show 0<=h.b5/\h.b5<=1073741823 by omega);have c:cg {h with b5:=(shuf (b9 h).length h.b5).2} = true:=by
  unfold cg;rw[C0];unfold shuf;simp only;omega
 cases o:ka (b9 h) h.b5 with
 | nil=>
  have f:Ab.started h=({h with b5:=(shuf (b9 h).length h.b5).2},false):=by unfold Ab.started;rw[o]
  rw[f];exact⟨{hi with nums:=c},⟨λe=>by simp[l]at e,λe=>by simp[l]at e,λe=>by simp[l]at e,λe=>by simp[l]at e⟩⟩
 | cons q Q=>
  obtain⟨R,S,g⟩:=n q (by rw[o];exact I2 ..);have f:Ab.started h=({h with b5:=(shuf (b9 h).length h.b5).2,a2:=true,a5:=xf (dY (nth (b9 h) q.A.toNat) (nth (b9 h) q.B.toNat))},true):=by unfold Ab.started;rw[o]
  rw[f];have d:∀s∈b9 h,s∈h.K/\oC (tbl h) s.R:=λs M=>by
   have G:=List.mem_of_mem_take M;have H:=qV h (V3 _) s G;exact⟨H,hi.sole H (uT h (V3 _) s G)⟩
  have j:=d _ (au (xs:=b9 h) (i:=q.A.toNat) ω);have k:=d _ (au (xs:=b9 h) (i:=q.B.toNat) ω);generalize nth (b9 h) q.A.toNat=a at g j |-;generalize nth (b9 h) q.B.toNat=b at g k |-;obtain⟨N,T,U⟩:=qU g;have p:(dY a b).a7=a.R/\(dY a b).a9=b.R\/(dY a b).a7=b.R/\(dY a b).a9=a.R:=by
   unfold dY;split
   ·exact .inr ⟨rfl,rfl⟩
   exact .inl ⟨rfl,rfl⟩
  have r:jA (xf (dY a b))=true:=fV.2 ⟨N,by show(0:Int)<=0;omega,by show(0:Int)<=5;omega,by show(0:Int)<=0;omega,by show(0:Int)<=(((dY a b).W.length:Nat):Int);omega⟩;have t:∃x∈h.K,∃y∈h.K,x.R=(dY a b).a7/\y.R=(dY a b).a9/\meshable x y=true/\oC (tbl h) x.R/\oC (tbl h) y.R:=by
   rcases p with⟨u,w⟩|⟨u,w⟩
   ·exact⟨a,j.1,b,k.1,u.symm,w.symm,g,j.2,k.2⟩
   exact⟨b,k.1,a,j.1,u.symm,w.symm,by rw[jQ];exact g,k.2,j.2⟩
  obtain⟨x,J,y,K,C,D,E,O,P⟩:=t;exact⟨{hi with nums:=c,job:=λ_=>⟨r,⟨x,J,C⟩,⟨y,K,D⟩⟩,noj:=λe=>by cases e},⟨λ_=>⟨by show(0:Int)<=0;omega,by show(0:Int)<=3;omega⟩,λ_=>⟨x,J,y,K,C,D,E⟩,λ_=>by show oC (tbl h) (dY a b).a7;rw[<-C];exact O,λ_=>by show oC (tbl h) (dY a b).a9;rw[<-D];exact P⟩⟩
def fI(m:aN)(f:Nat):aN:=⟨m.U.set f ((nth m.U f).drop 1),m.g.set (nth (nth m.U f) 0).To.toNat (nth m.g (nth (nth m.U f) 0).To.toNat++[(nth (nth m.U f) 0).Addr])⟩
def iK(m:aN)(t:Nat):aN:=⟨m.U,m.g.set t []⟩
def f6(m:aN)(f:Nat)(p:cJ):aN:=⟨m.U.set f (nth m.U f++[p]),m.g⟩
theorem dH{m:aN} : bB m=true↔(1<=m.U.length/\m.U.length<=4/\m.g.length=m.U.length)/\(∀i,i<m.U.length->(∀p∈nth m.U i,0<=p.To/\p.To<=(m.U.length:Int) - 1/\0<=p.Addr)/\∀a∈nth m.g i,0<=a)/\bI m m.U.length<=30:=by grind [cx,bB,gY,nZ,Ru]
theorem qy(m:aN)(f t:Nat)(x:List cJ)(y:List Int)(a:f<m.U.length)(b:t<m.g.length):∀n:Nat,bI ⟨m.U.set f x,m.g.set t y⟩ n=bI m n+(if f<n then(x.length:Int) - ((nth m.U f).length:Nat) else 0)+(if t<n then(y.length:Int) - ((nth m.g t).length:Nat) else 0)
 | 0=>by simp[bI]
 | n+1=>by
  have c:=qy m f t x y a b n
  grind [cL,bI]
variable{α:Type}
theorem DB[Inhabited α]{xs:List α}(h:i<xs.length):xs.set i (nth xs i)=xs:=by
 rw[<-Z2.1 (ar h) |>.2]
 simp_all
variable{f:Nat}
theorem HJ{m:aN}(h:bB m=true)(a:f<m.U.length)(b:0<(nth m.U f).length):bB (fI m f)=true:=by
 obtain⟨⟨e,g,j⟩,c,k⟩:=dH.1 h;obtain⟨d,l⟩:=c f a;have n:=d _ (au b);have o:(nth (nth m.U f) 0).To.toNat<m.g.length:=ω
 refine dH.2 ⟨⟨?_,?_,?_⟩,λi p=>?_,?_⟩
 ·grind [fI]
 ·grind [fI]
 ·grind [fI]
 ·grind [cL,fI]
 grind [qy,fI]
variable{t:Nat}
theorem Rf{m:aN}(h:bB m=true)(a:t<m.g.length):bB (iK m t)=true:=by
 obtain⟨⟨b,c,e⟩,f,g⟩:=dH.1 h;refine dH.2 ⟨⟨b,c,?_⟩,λi j=>?_,?_⟩
 ·grind [iK]
 ·grind [cL,iK]
 have d:=qy m t t (nth m.U t) [] ω a m.U.length;rw[DB ω]at d;show bI ⟨m.U,m.g.set t []⟩ m.U.length<=30
 grind
theorem nA{m:aN}(h:bB m=true)(b:Int):(aU m).count b=(m.U.flatMap λl=>l.map (·.Addr)).count b+(m.g.flatMap λx=>x).count b:=by grind [lX,aU]
theorem bg.mailed{c:List Int}{m:aN}(d:bg h E)(e:bB m=true)(f:m.U.length=h.j.U.length)(i:∀b,c.count b+(aU m).count b=E.count b+(aU h.j).count b)(j:∀a,a∈c\/a∈aU m->jz h.K a (-1)):bg {h with j:=m} c:=by
 have g:(E++holders h).Perm (c++holders {h with j:=m}):=by grind [holders,cH]
 exact {d with
   mail:=e
   nc:=d.nc.trans f.symm
   hfl:=(ψ)
   hin:=(ψ)
   nd:=g.nodup_iff.1 d.nd
   mem:=λb=>by grind [bg.mem]}
theorem Jh{c:List Int}{m:aN}(e:bg h E)(d:∀b,c.count b+(aU m).count b=E.count b+(aU h.j).count b):∀a,a∈c\/a∈aU m->jz h.K a (-1):=λa f=>by
 have g:=d a
 grind [bg.hin,bg.hfl]
theorem bg.deliv(c:bg h E)(d:f<h.j.U.length)(a:0<(nth h.j.U f).length):bg {h with j:=fI h.j f} E:=by
 have e:=HJ c.mail d a;obtain⟨⟨j,k,n⟩,g,o⟩:=dH.1 c.mail;have i:=(g f d).1 _ (au a);have q:∀b,E.count b+(aU (fI h.j f)).count b=E.count b+(aU h.j).count b:=λb=>by
  rw[nA e,nA c.mail];have r:=jm (λl:List cJ=>l.map (·.Addr)) b h.j.U f ((nth h.j.U f).drop 1) d;have t:=jm (λx:List Int=>x) b h.j.g (nth (nth h.j.U f) 0).To.toNat (nth h.j.g (nth (nth h.j.U f) 0).To.toNat++[(nth (nth h.j.U f) 0).Addr]) ω;have u:(nth h.j.U f).map (·.Addr)=(nth (nth h.j.U f) 0).Addr::((nth h.j.U f).drop 1).map (·.Addr):=by
   generalize nth h.j.U f=l at a
   match l,a with
   | p::l,_=>rfl
  grind [fI]
 grind [bg.mailed,Jh,fI]
theorem bg.coll(a:bg h E)(e:t<h.j.g.length):bg {h with j:=iK h.j t} (nth h.j.g t++E):=by
 have c:=Rf a.mail e;have d:∀b,(nth h.j.g t++E).count b+(aU (iK h.j t)).count b=E.count b+(aU h.j).count b:=λb=>by grind [nA,bg.mail,jm,iK]
 exact a.mailed c rfl d (Jh a d)
theorem bg.send{p:cJ}(c:bg h (p.Addr::E))(d:f<h.j.U.length)(a:bB (f6 h.j f p)=true):bg {h with j:=f6 h.j f p} E:=by
 have e:∀b,E.count b+(aU (f6 h.j f p)).count b=(p.Addr::E).count b+(aU h.j).count b:=λb=>by
  rw[nA a,nA c.mail];have g:=jm (λl:List cJ=>l.map (·.Addr)) b h.j.U f (nth h.j.U f++[p]) d
  grind [f6]
 grind [bg.mailed,Jh,f6]
def ou(now:Int):List aQ->Nat
 | []=>0
 | x::xs=>if x.b2<now - 100 then ou now xs+1 else 0
def aged(h:ac)(n:Int):ac:={h with a8:=h.a8+n,a3:=⟨h.a3.b3,h.a3.q.drop (ou (h.a8+n) h.a3.q)⟩}
def ly(h:ac)(n:Int):List Int:=(h.a3.q.take (ou (h.a8+n) h.a3.q)).map (·.Addr)
def tick(h:ac)(n:Int):ac:=freeAs (aged h n) (ly h n)
def pZ(x:aQ)(xs:List aQ):∀n,quarCells (x::xs) (n+1)=csz x.Z+quarCells xs n
 | 0=>by simp only[quarCells];show 0+csz x.Z=csz x.Z+0;omega
 | n+1=>by
  rw[jc,pZ x xs n,jc];show csz x.Z+quarCells xs n+csz (nth xs n).Z=_;omega
theorem RW(k:Int):0<=csz k:=by grind [csz]
theorem Lt:∀(l:List aQ)(k:Nat),qc (l.drop k)<=qc l
 | [],k=>by simp
 | x::xs,0=>C5 _
 | x::xs,k+1=>by
  have a:=Lt xs k;have b:=RW x.Z;have c:qc (x::xs)=csz x.Z+qc xs:=pZ x xs xs.length
  grind
theorem bg.aged{h:ac}{E:List Int}{n:Int}(a:bg h E)(t:0<=n)(u:h.a8+n<=1000000):bg (aged h n) (ly h n++E):=by
 obtain⟨i,j,k,o,p,q⟩:=iz.1 a.quar;have c:=a.nums;unfold cg at c;rw[C0]at c;have e:=List.drop_sublist (ou (h.a8+n) h.a3.q) h.a3.q;have g:(E++holders h).Perm ((ly h n++E)++holders (Ab.aged h n)):=by
  refine List.perm_iff_count.2 λb=>?_
  have r:=Z0 (λl:List aQ=>(l.map (·.Addr)).count b) (List.take_append_drop (ou (h.a8+n) h.a3.q) h.a3.q);simp only[Z5,O6]at r;simp only[holders,cH,Ab.aged,ly,O6];omega
 exact {a with
   nums:=by unfold cg;rw[C0];simp only[Ab.aged];omega
   quar:=iz.2 ⟨λy d=>i y (e.subset d),j.sublist e,k.sublist (e.map _),o,p,Int.le_trans (Lt _ _) q⟩
   snc:=λy d=>by
     have:=a.snc y (e.subset d);show y.b2<=h.a8+n;omega
   hqu:=λy d=>a.hqu y (e.subset d)
   hin:=λb f=>by
     rcases O3.1 f with f|f
     · obtain⟨y,d,rfl⟩:=W4.1 f
       exact(a.hqu y ψ).any
     exact a.hin b f
   nd:=g.nodup_iff.1 a.nd
   mem:=λb=>by rw[<-g.mem_iff];exact a.mem b}
theorem bg.tick{h:ac}{n:Int}(a:bg h [])(b:0<=n)(c:h.a8+n<=1000000):bg (tick h n) []/\JK h (tick h n):=by
 have h1:=a.aged b c;exact⟨bg.freeAs h1,JK.trans (h1:=Ab.aged h n) (JK.eq rfl rfl rfl rfl) (JK.freeAs h1)⟩
def collect(h:ac)(t:Nat):ac:=recycs t {h with j:=iK h.j t} (nth h.j.g t)
theorem bg.collect{h:ac}{t:Nat}(b:bg h [])(a:t<h.T.length):bg (collect h t) []/\JK h (collect h t):=by
 have h1:=b.coll (t:=t) (by grind [dH,bg.mail,bg.nc]);exact⟨bg.recycs h1 a,JK.trans (h1:={h with j:=iK h.j t}) (JK.eq rfl rfl rfl rfl) (JK.recycs h1 a)⟩
def Da(h:ac)(t i:Nat):ac:={h with H:=en h.H (nth h.M i).Addr (csz (aS (nth h.M i).a1)).toNat,M:=dele h.M i,j:=f6 h.j t ⟨(nth h.M i).a0,(nth h.M i).Addr⟩}
def freeT(h:ac)(t i:Nat):ac × Int:=
 if aS (nth h.M i).a1<0 then(freeL h i (uj h (nth h.M i).Addr),0)
 else if(ax (tbl h) ((nth h.M i).Addr / 16)).k=1 then(h,5)
 else if(nth h.M i).a0=t then(KT h t i,0)
 else if bB (f6 h.j t ⟨(nth h.M i).a0,(nth h.M i).Addr⟩)=true then(Da h t i,0) else(h,5)
theorem vk(e:(nth h.M i).a0=t):freeT h t i=freeOb h t i:=by grind [freeT,freeOb]
theorem bg.freeT{h:ac}{t i:Nat}(a:bg h [])(b:i<h.M.length)(c:t<h.T.length):bg (freeT h t i).1 []/\JK h (freeT h t i).1:=by
 by_cases e:(nth h.M i).a0=t
 ·grind [vk,bg.freeOb,JK.freeOb]
 have d:=a.freeOb b c;have f:=JK.freeOb a b c;unfold Ab.freeOb at d f;unfold Ab.freeT;split
 ·grind
 rename_i g;rw[CB g]at d f;split
 ·grind
 split
 ·rename_i j
  obtain⟨⟨s,l,n,o⟩,u⟩:=(ef a (au b)).2 g;have q:=a.dropO b (jz.any ⟨s,l,n,.inr o⟩);have r:=q.cells (k:=en h.H (nth h.M i).Addr (csz (aS (nth h.M i).a1)).toNat) (Gl a.ker _ _) rfl;exact⟨bg.send (p:=⟨(nth h.M i).a0,(nth h.M i).Addr⟩) r (by grind [bg.nc]) j,JK.eq rfl rfl rfl rfl⟩
 grind [JK.refl]
def hO(k:ah)(a v:Int):ah:=setCell k (eM k a) (a % 16) v
variable{a:Int}
def Ak{k:ah}(h:aJ k=true){v:Int}(b:(ax k.F.Q (a / 16)).k≠0)(c:0<=v/\v<=999):aJ (hO k a v)=true:=by
 obtain⟨d,e,-⟩:=jD h b;exact sG h (f:=eM k a) d e c
theorem bg.store{v:Int}(b:bg h [])(c:(ax h.H.F.Q (a / 16)).k≠0)(d:0<=v/\v<=999):bg {h with H:=hO h.H a v} []/\JK h {h with H:=hO h.H a v}:=
 ⟨b.cells (Ak b.ker c d) rfl,JK.eq rfl rfl rfl rfl⟩
theorem K5{k:Int} : ∀{l s s2 b:List Int}(n:Nat),(∀x∈s2,x∈s)->sU k s l=some b->∃c,sU k s2 (l.take n)=some c/\∀x∈c,x∈b
 | [],s,s2,b,n,h,e=>by grind [sU]
 | a::l,s,s2,b,0,h,e=>⟨s2,rfl,λx d=>(qo (λ_ y=>y) e).1 x (h x d)⟩
 | a::l,s,s2,b,n+1,h,e=>by
  simp only[List.take_succ_cons,sU]at e |-;split at e
  ·rename_i g
   rw[CC (show good k s2 a from⟨g.1,g.2.1,g.2.2.1,λx=>g.2.2.2 (h a x)⟩)];exact K5 (l:=l) (s:=s++[a]) (s2:=s2++[a]) n ψ e
  cases e
theorem FS:∀{a:List (List Int)}{k:Nat}{s s2:List Int}(i n:Nat),(∀x∈s2,x∈s)->(hB k s a).isSome=true->(hB k s2 (a.set i ((nth a i).take n))).isSome=true
 | [],_,_,_,_,_,_,_=>rfl
 | l::a,k,s,s2,i,n,h,e=>by
  simp only[hB,fJ]at e;split at e
  ·rename_i g
   cases b:sU k s l with
   | none=>grind
   | some j=>
    rw[b]at e;cases i with
    | zero=>
     obtain⟨c,d,f⟩:=K5 n h b
     grind [C2,uO,hB,fJ,nth]
    | succ i=>
     obtain⟨o,c,d,f⟩:=qo h b;simp only[List.set_cons_succ,hB,fJ];rw[CC g,d];exact FS i n f e
  cases e
theorem KX{c:aF}(h:bz c=true)(k:Nat):bz (sW c k)=true:=by grind [FS,bz,sW]
def ma(b:Int):Nat->List Int
 | 0=>[]
 | j+1=>if bh b (j:Nat)=true then ma b j else ma b j++[((j:Nat):Int)]
theorem uN{b:Int} : ∀{n:Nat}{z:Int},z∈ma b n->0<=z/\z<n/\bh b z=false
 | 0,_,h=>by cases h
 | n+1,z,h=>by
  unfold ma at h;split at h
  ·have:=uN h;grind
  rename_i e;rcases O3.1 h with h|h
  ·have:=uN h;grind
  grind
theorem q9(b:Int):∀n,(ma b n).length<=n
 | 0=>V3 _
 | n+1=>by have:=q9 b n;grind [ma]
def nP(k b:Int):List Int:=if My k b=true then ma b (slots k).toNat else []
def gF(h:ac)(i:Nat):List Int:=nP (nth h.K i).Z (dU h i)
theorem sv{k b z:Int}(h:z∈nP k b):0<=z/\z<slots k/\bh b z=false:=by
 unfold nP at h;split at h
 ·have:=uN h;grind
 cases h
theorem zP(k b:Int):(nP k b).length<=16:=by grind [gn,q9,nP,My]
def ns(h:ac)(i:Nat):Int:=nth (gF h i) (Fx h.b5 ((gF h i).length:Nat)).toNat
def slotT(h:ac)(i:Nat):ac:={h with b5:=Ax h.b5,K:=h.K.set i (rg (nth h.K i) (ns h i))}
def ql(h:ac)(i:Nat):Int:=16*(nth h.K i).R+ns h i*csz (nth h.K i).Z
def vF(a:0<(gF h i).length):ns h i∈gF h i:=by
 have:=qn h.b5 (n:=((gF h i).length:Nat)) ω;exact au ω
def bg.slotT{h:ac}{E:List Int}{i:Nat}(a:bg h E)(b:i<h.K.length)(e:0<(gF h i).length):bg (slotT h i) (ql h i::E)/\jz (slotT h i).K (ql h i) (nth h.K i).Z:=by
 obtain⟨c,d,f⟩:=sv (vF e);exact⟨a.take b ⟨c,d⟩ f (D7 _),(jz.setS a.L b ⟨c,d⟩ _ _).2 (.inr ⟨rfl,.inr rfl⟩)⟩
def pv(h:ac)(c:Int)(i:Nat):Bool:=decide ((nth h.K i).Z=c)&&(!fY h (nth h.K i).R&&decide (0<(gF h i).length))
def ow(h:ac)(c:Int):Option Nat:=(List.range h.K.length).find? (pv h c)
def pz(h:ac)(c:Int):ac:=addS h (dE h.H (aC h.a 1).2.1).1 (aC h.a 1).1 (aC h.a 1).2.1 c
def nY(h:ac):Nat:=kw (Gn (aC h.a 1).2.1) h.K
def kX(h:ac)(i:Nat):ac × Int:=if(gF h i).length=0 then(h,-1) else(slotT h i,ql h i)
def eJ(h:ac)(t c:Nat):ac × Int:=
 if 0<(nth (nth h.T t).X c).length then({h with T:=h.T.set t (sW (nth h.T t) c)},nth (nth (nth h.T t).X c) ((nth (nth h.T t).X c).length - 1))
 else match ow h c with
 | some i=>(slotT h i,ql h i)
 | none=>if(aC h.a 1).2.2=false then(h,-1)
  else if(dE h.H (aC h.a 1).2.1).2=false then({h with H:=(dE h.H (aC h.a 1).2.1).1},-1)
  else kX (pz h c) (nY h)
theorem Lg[Inhabited α](p:α->Bool)(xs:List α)(y:α):kw p xs<(jI p xs y).length/\nth (jI p xs y) (kw p xs)=y:=by
 have a:=QM p xs;have b:(xs.take (kw p xs)).length=kw p xs:=ψ
 refine⟨by grind [List.Perm.length_eq,lD,List.length_cons],b8 ?_⟩
 grind [jI]
theorem bg.tEq{h:ac}{E:List Int}(a:bg h E){k:ah}(c:aJ k=true)(b:tEq (tbl h) k.F.Q):bg {h with H:=k} E/\JK h {h with H:=k}:=
 ⟨a.step (j:=h.a5) (m:=h.a2) c b.1 (a.pg.tEq b) a.job a.noj,⟨rfl,rfl,ψ,λq d=>.inl ⟨(b.2 q).1.1 d,(b.2 q).2⟩⟩⟩
structure Tl(h:ac)(c:Int)(r:ac × Int):Prop where
 no:r.2<0->bg r.1 []
 yes:0<=r.2->bg r.1 [r.2]/\jz r.1.K r.2 c
 jk:JK h r.1
 nx:r.1.o=h.o
 cl:r.1.T.length=h.T.length
variable{c:Int}
def jz.nn(b:bg h E)(d:jz h.K a c):0<=a:=(jz.bd b d).1
theorem Tl.slot(b:bg h' [])(d:i<h'.K.length)(e:0<(gF h' i).length)(n:(nth h'.K i).Z=c)(f:JK h h')(a:fY h' (nth h'.K i).R=false)(h1:h'.o=h.o)(g:h'.T.length=h.T.length):Tl h c (slotT h' i,ql h' i):=by
 obtain⟨j,k⟩:=b.slotT d e;have l:=jz.nn j k;exact⟨ω,ψ,f.trans (JK.take a),h1,g⟩
theorem qY{c:Nat}(a:bg h [])(l:t<h.T.length)(J:c<=3)(r:h.H.Calls<=90000):Tl h c (eJ h t c):=by
 have f:=a.cach _ (au l);have u:=pD f;unfold eJ;split
 ·rename_i w
  obtain⟨d,b⟩:=a.pop l ω w (KX f c);have A:=jz.nn a b;exact⟨ω,λ_=>⟨d,b⟩,JK.eq rfl rfl rfl rfl,rfl,Z1 ..⟩
 split
 ·rename_i i n
  have K:=List.find?_some n;have L:=List.mem_range.1 (List.mem_of_find?_eq_some n)
  grind [Tl.slot,JK.refl,pv]
 split
 ·exact⟨λ_=>a,ω,JK.refl h,rfl,rfl⟩
 rename_i B;have g:(aC h.a 1).2.2=true:=by simpa using B
 obtain⟨C,D,E,o⟩:=kg a (C5 1) g;have s:=yq.of (p:=(aC h.a 1).2.1) a.ker ω ⟨C,by have:(aC h.a 1).2.1+1<=(h.H.F.Q.O.length:Nat):=D;omega⟩ (E _ ω ω);split
 ·rename_i k
  rw[s.no k];obtain⟨d,b⟩:=a.tEq (nz a.ker ω) (tEq.refl _);exact⟨λ_=>d,ω,b,rfl,rfl⟩
 rename_i k;have F:(dE h.H (aC h.a 1).2.1).2=true:=by simpa using k
 have q:yq h.H (aC h.a 1).2.1 ((dE h.H (aC h.a 1).2.1).1,true):=ψ
 have d:=a.addS (c:=c) ω g q;have b:JK h (pz h c):=JK.addS q;obtain⟨G,H⟩:=Lg (Gn (aC h.a 1).2.1) h.K ⟨(aC h.a 1).2.1,c,0⟩;unfold kX;split
 ·exact⟨λ_=>d,ω,b,rfl,rfl⟩
 refine Tl.slot (h':=pz h c) (i:=nY h) d G ω (by show(nth (jI (Gn (aC h.a 1).2.1) h.K ⟨(aC h.a 1).2.1,c,0⟩) (nY h)).Z=_;grind [nY]) b ?_ rfl rfl;show fY (pz h c) (nth (jI (Gn (aC h.a 1).2.1) h.K ⟨(aC h.a 1).2.1,c,0⟩) (nY h)).R=false;unfold nY;rw[H,b.pg];rw[<-W5];intro j;unfold fY at j;simp only[I0,W6,C0]at j;obtain⟨-,⟨y,M,N⟩,⟨z,O,P⟩⟩:=a.job j.1;rcases j.2 with e|e
 ·exact o _ (C5 _) ω (by grind [eG])
 exact o _ (C5 _) ω (by grind [eG])
def lF(size:Int):Nat:=((size+15) / 16).toNat
def jn(h:ac)(size:Int):ah × Nat:=bD h.H (aC h.a (lF size:Nat)).2.1 (lF size)
def sg(h:ac)(t size:Int):ac × Int × Int:=
 if(aC h.a (lF size:Nat)).2.2=false then(h,-1,4)
 else if(jn h size).2=lF size then(addL h (jn h size).1 (aC h.a (lF size:Nat)).1 (aC h.a (lF size:Nat)).2.1 (lF size:Nat) size t,16*(aC h.a (lF size:Nat)).2.1,0)
 else({h with H:=du (jn h size).1 (aC h.a (lF size:Nat)).2.1 (jn h size).2},-1,4)
def rV(xs:List bi):Nat->Int
 | 0=>0
 | i+1=>rV xs i+(nth xs i).a1
def o9(h:ac):Int:=rV h.M h.M.length
def eI(h:ac)(t size:Int):ac × Int × Int:=
 if 1000000<=h.o\/90000<h.H.Calls then(h,-1,5)
 else if ¬(0<=t/\t<=h.T.length - 1) then(h,-1,1)
 else if ¬(1<=size/\size<=1000) then(h,-1,2)
 else if h.b7<o9 h+size then(h,-1,3)
 else if 0<=aS size then(if(eJ h t.toNat (aS size).toNat).2<0 then((eJ h t.toNat (aS size).toNat).1,-1,4) else(addO (eJ h t.toNat (aS size).toNat).1 (eJ h t.toNat (aS size).toNat).2 size t,(eJ h t.toNat (aS size).toNat).2,0))
 else sg h t size
variable{size:Int}
theorem Mm{t:Int}(a:bg h [])(l:9<=size/\size<=1000)(o:h.o<1000000)(f:h.H.Calls<=90000)(q:0<=t/\t<=h.T.length - 1):bg (sg h t size).1 []/\JK h (sg h t size).1:=by
 have r:(lF size:Int)=(size+15) / 16:=by unfold lF;omega
 unfold sg;split
 ·grind [JK.refl]
 rename_i g;have b:(aC h.a (lF size:Nat)).2.2=true:=by simpa using g
 obtain⟨c,d,e,u⟩:=kg a ω b;have s:=iq.of (p:=(aC h.a (lF size:Nat)).2.1) (n:=lF size) a.ker ω ⟨c,d⟩ e (lF size) (V3 _);split
 ·rename_i i
  have w:iq h.H (aC h.a (lF size:Nat)).2.1 (lF size) ((jn h size).1,lF size):=by
   have:((jn h size).1,lF size)=jn h size:=by rw[<-i]
   rw[this];exact s
  grind [bg.addL,JK.addL]
 obtain⟨j,k⟩:=s.undo a.ker ⟨c,d⟩ e;exact a.tEq j k
theorem LI{t:Int}(a:bg h []):bg (eI h t size).1 []/\JK h (eI h t size).1:=by
 unfold eI;split
 ·grind [JK.refl]
 rename_i b;rw[not_or]at b;split
 ·grind [JK.refl]
 rename_i i;split
 ·grind [JK.refl]
 rename_i j;split
 ·grind [JK.refl]
 split
 ·rename_i k
  have d:aS size<=3:=by grind [aS]
  have s:=qY (t:=t.toNat) (c:=(aS size).toNat) a ω ω ω;generalize eJ h t.toNat (aS size).toNat=r at s;split
  ·grind [Tl.no,Tl.jk]
  rename_i e;obtain⟨f,g⟩:=s.yes ω;refine⟨f.addO (.inl ?_) (by rw[s.nx];omega) (by rw[s.cl];omega),s.jk.trans (JK.eq rfl rfl rfl rfl)⟩;obtain⟨z,l,n,o⟩:=g
  grind
 grind [Mm,aS]
def oG{β:Type}[Inhabited α]{f:α->β}{xs:List α}{y:α}(a:i<xs.length)(e:f y=f (nth xs i)):(xs.set i y).map f=xs.map f:=by
 rw[V6];refine List.ext_getElem (by simp) λj b c=>?_
 rw[List.getElem_set];split
 ·rename_i g;subst g
  rw[List.getElem_map,e,b8 (X2 a)]
 rfl
theorem pu{α β:Type}[Inhabited α](f:α->List β):∀(xs:List α)(i:Nat)(y:α),i<xs.length->(f y).Sublist (f (nth xs i))->((xs.set i y).flatMap f).Sublist (xs.flatMap f)
 | [],_,_,h,_=>absurd h (Nat.not_lt_zero _)
 | x::xs,0,y,_,a=>by
  rw[List.set_cons_zero,C7,C7];exact List.Sublist.append a ψ
 | x::xs,i+1,y,h,a=>by
  rw[List.set_cons_succ,C7,C7];exact List.Sublist.append ψ (pu f xs i y (by simpa using h) a)
def zK(k:ah)(a:Int):Nat->ah
 | 0=>k
 | m+1=>hO (zK k a m) (a+m) 0
theorem v7(k:ah)(a:Int):∀m,(zK k a m).F.Q=k.F.Q/\(zK k a m).Calls=k.Calls/\(zK k a m).d=k.d
 | 0=>⟨rfl,rfl,rfl⟩
 | m+1=>v7 k a m
theorem RG{k:ah}(h:aJ k=true){a:Int} : ∀{m:Nat},(∀j:Nat,j<m->(ax k.F.Q ((a+j) / 16)).k≠0)->aJ (zK k a m)=true
 | 0,_=>h
 | m+1,b=>Ak (RG h ψ) (by grind [v7]) ω
variable{n:Nat}
theorem Jf(f:bg h E){sp:List aA}{la:List aD}{o:List aE}{p:Int}(w:p+n<=h.H.F.Q.O.length)(G:sp.Sublist h.K)(H:∀l∈la,∀q∈lpgs l l.w.toNat,∃t∈h.J,q∈lpgs t t.w.toNat)(J:0<=p)(y:∀q,q∈pgs sp la↔q∈pgs h.K h.J/\¬(p<=q/\q<p+n))(K:∀q,RH o q↔RH h.a q\/(p<=q/\q<p+n)) :
  Pg (du h.H p n).F.Q o sp la:=by
 have b:=(gh h.H p n).1;have d:=nu f.ker J n w;have g:∀q:Nat,(q:Int)∈pgs sp la->nth (du h.H p n).F.Q.O q=nth (tbl h).O q:=λq c=>by rw[d,CB ((y q).1 c).2];rfl
 have a:∀q:Nat,(nth (du h.H p n).F.Q.O q).k≠0↔(nth (tbl h).O q).k≠0/\¬(p<=q/\(q:Int)<p+n):=λq=>by
  rw[d];by_cases e:p<=q/\(q:Int)<p+n
  ·grind
  rw[CB e];exact⟨λx=>⟨x,e⟩,λx=>x.1⟩
 refine⟨λl i q c r D A j=>?_,λq c=>?_,λq c=>?_,λq c=>?_,λs i u N M O=>?_⟩
 ·have k:=(a r).1 A
  rw[b]at D;rw[g q (gk i c),d,CB k.2]at j;obtain⟨t,B,C⟩:=H l i _ c;exact f.pg.one t B q C r D k.1 j
 ·rw[b];exact f.pg.bnd q ((y q).1 c).1
 ·rw[b]at c
  rw[a,y,f.pg.own q c]
 ·rw[b]at c
  rw[a,K,f.pg.fre q c]
  grind
 have F:∀s∈sp,0<=s.R:=λs i=>(aL (f.L.sok s (G.subset i))).1
 grind [eG,Pg.mesh,bg.pg]
def trimL(l:aD)(size:Int):aD:=⟨l.R,(size+15) / 16,size⟩
def dm(l:aD)(size:Int):Nat:=(l.w - (size+15) / 16).toNat
def bg.trimL{h:ac}{E:List Int}{i k:Nat}{size:Int}(t:bg h E)(T:i<h.M.length)(H:k<h.J.length)(Y:(nth h.M i).Addr=16*(nth h.J k).R)(N:9<=size/\size<=(nth h.J k).a1) :
  ∃o,(dm (nth h.J k) size=0->o=h.a)/\(0<dm (nth h.J k) size->ce (eO h) h.a ⟨(nth h.J k).R+(size+15) / 16,(dm (nth h.J k) size:Nat)⟩ = some o)/\
   bg {h with H:=du h.H ((nth h.J k).R+(size+15) / 16) (dm (nth h.J k) size),J:=h.J.set k (trimL (nth h.J k) size),M:=h.M.set i {nth h.M i with a1:=size},a:=o} E:=by
 have U:=t.L;have C:=U.lok _ (au H);have hf:=aX C;unfold bZ at C;rw[C0]at C;obtain⟨b1,b2⟩:=DG t H;have O:=U.dis;have G:=λj n=>U.one j k n H
 have y:=(au H:nth h.J k∈h.J)
 have d:∀z∈h.J.set k (Ab.trimL (nth h.J k) size),z=Ab.trimL (nth h.J k) size\/∃j,j<h.J.length/\j≠k/\nth h.J j=z:=λz N=>iU N
 have p:Ab.trimL (nth h.J k) size∈h.J.set k (Ab.trimL (nth h.J k) size):=jb _ H;have u:∀j,j<h.J.length->j≠k->nth h.J j∈h.J.set k (Ab.trimL (nth h.J k) size):=λj n e=>kz _ n e
 have hpageM:(h.J.set k (Ab.trimL (nth h.J k) size)).map (·.R)=h.J.map (·.R):=oG H rfl;have w:(pgs h.K (h.J.set k (Ab.trimL (nth h.J k) size))).Sublist (pgs h.K h.J):=by
  unfold pgs;refine List.Sublist.append (List.Sublist.refl _) (pu _ _ _ _ H ?_);unfold lpgs;exact(List.range_sublist.2 (by simp only[Ab.trimL];omega)).map _
 obtain⟨l,V⟩ : ∃l,nth h.J k=l:=⟨_,rfl⟩
 rw[V]at C hf b1 b2 G y d p u hpageM w Y N |-;generalize hla:h.J.set k (Ab.trimL l size)=la at d p u hpageM w |-;have hn1:(1:Int)<=(size+15) / 16/\(size+15) / 16+(dm l size:Nat)=l.w:=by unfold dm;omega
 have D:∀q,q∈lpgs l l.w.toNat↔l.R<=q/\q<l.R+l.w:=λq=>by
  rw[dI];constructor
  ·rintro⟨j,n,rfl⟩;omega
  rintro⟨Z,q2⟩;exact⟨(q - l.R).toNat,ω,ω⟩
 have J:∀q,q∈lpgs (Ab.trimL l size) (Ab.trimL l size).w.toNat↔l.R<=q/\q<l.R+(size+15) / 16:=λq=>by
  rw[dI];simp only[Ab.trimL];constructor
  ·rintro⟨j,n,rfl⟩;omega
  rintro⟨Z,q2⟩;exact⟨(q - l.R).toNat,ω,ω⟩
 have hpe:l.R+(size+15) / 16+(dm l size:Nat)=l.R+l.w:=ω
 have P:∀q,q∈pgs h.K la↔q∈pgs h.K h.J/\¬(l.R+(size+15) / 16<=q/\q<l.R+(size+15) / 16+(dm l size:Nat)):=λq=>by
  rw[qX,qX,hpe];constructor
  ·rintro(⟨s,W,rfl⟩|⟨z,c,B⟩)
   ·exact⟨.inl ⟨s,W,rfl⟩,λe=>O s W l y (s.R - l.R).toNat ω ω⟩
   rcases d z c with rfl|⟨j,n,hjk,rfl⟩
   ·have:=(J q).1 B
    exact⟨.inr ⟨l,y,(D q).2 ⟨ω,ω⟩⟩,ω⟩
   refine⟨.inr ⟨_,au n,B⟩,λe=>?_⟩;obtain⟨m,hm,rfl⟩:=dI.1 B;exact hjk (G j n m ((nth h.J j).R+(m:Int) - l.R).toNat hm ω ω)
  rintro⟨⟨s,W,rfl⟩|⟨z,c,B⟩,hne⟩
  ·exact .inl ⟨s,W,rfl⟩
  obtain⟨j,n,rfl⟩:=bu c;by_cases e:j=k
  ·subst e
   rw[V]at B;have:=(D q).1 B;exact .inr ⟨_,p,(J q).2 ⟨ω,ω⟩⟩
  exact .inr ⟨_,u j n e,B⟩
 have K:∃o,(dm l size=0->o=h.a)/\(0<dm l size->ce (eO h) h.a ⟨l.R+(size+15) / 16,(dm l size:Nat)⟩ = some o)/\bF (eO h) o=true/\∀q,RH o q↔RH h.a q\/(l.R+(size+15) / 16<=q/\q<l.R+(size+15) / 16+(dm l size:Nat)):=by
  by_cases e:dm l size=0
  ·refine⟨h.a,λ_=>rfl,λg=>absurd g ω,t.rng,λq=>⟨.inl,λg=>g.resolve_right ω⟩⟩
  obtain⟨o,o1,o2,o3⟩:=wt (r:=⟨l.R+(size+15) / 16,(dm l size:Nat)⟩) t.rng ⟨by simp only;omega,by simp only;omega,by show l.R+(size+15) / 16+(dm l size:Nat)<=(eO h:Int);have:((tbl h).O.length:Int)=(eO h:Int):=rfl;omega⟩ λq Z q2=>by
   simp only at Z q2;obtain⟨m,rfl⟩:=I3 (show 0<=q by omega);have Q:m<(tbl h).O.length:=ω
   exact(t.pg.fre m Q).1 ((t.pg.own m Q).2 (gk y ((D _).2 ⟨ω,ω⟩)))
  exact⟨o,λg=>absurd g e,λ_=>o1,o2,o3⟩
 obtain⟨o,o0,o1,o2,o3⟩:=K;have R:=(gh h.H (l.R+(size+15) / 16) (dm l size)).1;have M:∀z∈h.M.set i {nth h.M i with a1:=size},z = {nth h.M i with a1:=size}\/∃j,j<h.M.length/\j≠i/\nth h.M j=z:=λz N=>iU N
 have F:(h.M.set i {nth h.M i with a1:=size}).map (·.Addr)=h.M.map (·.Addr):=oG T rfl;have S:(h.M.set i {nth h.M i with a1:=size}).map (·.Id)=h.M.map (·.Id):=oG T rfl;have hli:=(au T:nth h.M i∈h.M)
 generalize h.M.set i {nth h.M i with a1:=size} = ob at M F S |-;refine⟨o,o0,o1,{t with
   ker:=jl t.ker _ _
   rng:=by show bF (((du h.H (l.R+(size+15) / 16) (dm l size)).F.Q.O.length:Nat):Int) o=true;rw[R];exact o2
   lay:=?_
   srl:=?_
   pg:=Jf t (by have:((tbl h).O.length:Int)=(h.H.F.Q.O.length:Int):=rfl;omega) (List.Sublist.refl _) (λz c q B=>?_) ω P o3
   osr:=?_
   onu:=λz c=>?_
   oid:=by show(ob.map (·.Id)).Nodup;rw[S];exact t.oid
   oow:=λz c=>?_
   nd:=?_
   mem:=λb=>?_}⟩
 ·obtain⟨l1,l2,l3⟩:=eZ t.lay
  unfold bx;simp only[I0,C0];refine⟨⟨l1,C4.2 λz c=>?_⟩,l3.sublist w⟩;rcases d z c with rfl|⟨j,n,-,rfl⟩
  ·exact O0 ⟨N.1,by show size<=1000;omega,rfl,by show 0<=l.R;omega,by show l.R<=32 - (size+15) / 16;omega⟩
  exact U.lok _ (au n)
 ·have A:(h.J.map (·.R)).Pairwise (λa b=>a<b):=List.pairwise_map.2 t.srl
  rw[<-hpageM]at A;exact List.pairwise_map.1 A
 ·rcases d z c with rfl|⟨j,n,-,rfl⟩
  ·have:=(J q).1 B
   exact⟨l,y,(D q).2 ⟨ω,ω⟩⟩
  exact⟨_,au n,B⟩
 ·have A:(h.M.map (·.Addr)).Pairwise (λa b=>a<b):=List.pairwise_map.2 t.osr
  rw[<-F]at A;exact List.pairwise_map.1 A
 ·rcases M z c with rfl|⟨j,n,-,rfl⟩
  ·exact t.onu (nth h.M i) hli
  exact t.onu _ (au n)
 ·rcases M z c with rfl|⟨j,n,hji,rfl⟩
  ·exact .inr ⟨_,p,Y,rfl⟩
  rcases t.oow _ (au n) with A|⟨l',hl',e1,X⟩
  ·exact .inl A
  obtain⟨m,hm,rfl⟩:=bu hl';by_cases e:m=k
  ·subst e
   rw[V]at e1;exact absurd (gz (f:=(·.Addr)) (gp t.osr) n T (e1.trans Y.symm)) hji
  exact .inr ⟨_,u m hm e,e1,X⟩
 ·have hh:holders {h with H:=du h.H (l.R+(size+15) / 16) (dm l size),J:=la,M:=ob,a:=o} = holders h:=by
   show((ob.map (·.Addr)++cH h)++h.a3.q.map (·.Addr))++aU h.j=_;rw[F];rfl
  rw[hh];exact t.nd
 have hh:holders {h with H:=du h.H (l.R+(size+15) / 16) (dm l size),J:=la,M:=ob,a:=o} = holders h:=by
  show((ob.map (·.Addr)++cH h)++h.a3.q.map (·.Addr))++aU h.j=_;rw[F];rfl
 rw[hh,t.mem b];show nw h.K h.J b↔nw h.K la b;unfold nw;constructor
 ·rintro(A|⟨z,c,e⟩)
  ·exact .inl A
  obtain⟨j,n,rfl⟩:=bu c;by_cases X:j=k
  ·subst X
   rw[V]at e;exact .inr ⟨_,p,e⟩
  exact .inr ⟨_,u j n X,e⟩
 rintro(A|⟨z,c,e⟩)
 ·exact .inl A
 rcases d z c with rfl|⟨j,n,-,rfl⟩
 ·exact .inr ⟨l,y,e⟩
 exact .inr ⟨_,au n,e⟩
def pd(h:ac)(k:Nat)(size:Int):ah:=zK h.H (16*(nth h.J k).R+size) (16*((size+15) / 16) - size).toNat
def vT(h:ac)(k:Nat)(size:Int):List aE:=if 0<dm (nth h.J k) size then(ce (eO h) h.a ⟨(nth h.J k).R+(size+15) / 16,(dm (nth h.J k) size:Nat)⟩).getD h.a else h.a
def trimH(h:ac)(i k:Nat)(size:Int):ac:={h with H:=du (pd h k size) ((nth h.J k).R+(size+15) / 16) (dm (nth h.J k) size),J:=h.J.set k (trimL (nth h.J k) size),M:=h.M.set i {nth h.M i with a1:=size},a:=vT h k size}
theorem mr(b:bg h E)(c:k<h.J.length)(g:16*(nth h.J k).R<=a/\a<16*(nth h.J k).R+16*(nth h.J k).w):(ax h.H.F.Q (a / 16)).k≠0:=by
 obtain⟨i,j⟩:=DG b c;have l:=aX (b.L.lok _ (au c));have d:(a / 16)∈pgs h.K h.J:=gk (au c) (dI.2 ⟨(a / 16 - (nth h.J k).R).toNat,ω,ω⟩);have e:=b.pg.bnd _ d;have f:=(b.pg.own (a / 16).toNat ω).2 ψ;unfold ax;rw[CC ⟨ω,e⟩];exact f
theorem zB(a:bg h E)(b:k<h.J.length)(d:9<=size/\size<=(nth h.J k).a1):∀{m:Nat},m<=(16*((size+15) / 16) - size).toNat->aJ (zK h.H (16*(nth h.J k).R+size) m)=true:=fun {m} hm=>by
 have c:=a.L.lok _ (au b)
 grind [RG,bg.ker,mr,bZ]
theorem bg.trimH{h:ac}{i k:Nat}{size:Int}(b:bg h [])(n:i<h.M.length)(c:k<h.J.length)(r:(nth h.M i).Addr=16*(nth h.J k).R)(e:9<=size/\size<=(nth h.J k).a1):bg (trimH h i k size) []/\JK h (trimH h i k size):=by
 have f:=zB b c e (V3 _);have g:=(v7 h.H (16*(nth h.J k).R+size) (16*((size+15) / 16) - size).toNat).1;have t:=b.cells f g;obtain⟨o,u,w,j⟩:=t.trimL (i:=i) (k:=k) (size:=size) n c r e;simp only at u w j;have y:eO {h with H:=zK h.H (16*(nth h.J k).R+size) (16*((size+15) / 16) - size).toNat} = eO h:=by grind [eO]
 have A:vT h k size=o:=by grind [vT]
 have B:Ab.trimH h i k size = {h with H:=du (pd h k size) ((nth h.J k).R+(size+15) / 16) (dm (nth h.J k) size),J:=h.J.set k (Ab.trimL (nth h.J k) size),M:=h.M.set i {nth h.M i with a1:=size},a:=o}:=by unfold Ab.trimH;rw[A]
 refine⟨by rw[B];exact j,JK.less rfl rfl rfl λq C=>?_⟩;have a:=b.L.lok _ (au c);unfold bZ at a;rw[C0]at a;obtain⟨D,E⟩:=DG b c;have d:(pd h k size).F.Q=h.H.F.Q:=g;have l:=nu (k:=pd h k size) f (p:=(nth h.J k).R+(size+15) / 16) ω (dm (nth h.J k) size) (by rw[d];have:((tbl h).O.length:Int)=(h.H.F.Q.O.length:Int):=rfl;unfold dm;omega) q;change (nth (du (pd h k size) ((nth h.J k).R+(size+15) / 16) (dm (nth h.J k) size)).F.Q.O q).k≠0 at C;show nth (du (pd h k size) ((nth h.J k).R+(size+15) / 16) (dm (nth h.J k) size)).F.Q.O q=nth h.H.F.Q.O q
 grind
theorem Jm(e:1<=t/\t<=4):bB (eD t)=true:=by
 have f:∀n,n<=t->bI (eD t) n=0:=λn=>by
  induction n with
  | zero=>intro _;rfl
  | succ n g=>
   intro h;have b:nth (eD t).U n=[]:=eU ω;have c:nth (eD t).g n=[]:=eU ω
   grind [bI]
 have d:(eD t).U.length=t:=List.length_replicate ..;refine dH.2 ⟨⟨ω,ω,by simp[eD]⟩,λi a=>?_,ψ⟩;rw[d]at a;have b:nth (eD t).U i=[]:=eU a;have c:nth (eD t).g i=[]:=eU a
 grind
theorem wo(t:Nat):aU (eD t)=[]:=by
 unfold aU;split
 ·simp[eD]
 rfl
def sH(k:ah)(t:Nat)(sd ck lim:Int):ac:=⟨k,[⟨0,(k.F.Q.O.length:Nat)⟩],[],[],[],List.replicate t fe,eD t,⟨16,[]⟩,sd,ck,lim,1,false,⟨⟨0,0,[]⟩,0,0⟩⟩
def FI:bz fe=true:=by decide
theorem bg.fresh{k:ah}{lim sd ck:Int}(w:aJ k=true)(A:∀q,q<k.F.Q.O.length->(nth k.F.Q.O q).k=0)(C:1<=t/\t<=4)(f:0<=lim/\lim<=1000)(g:0<=sd/\sd<=1073741823)(b:0<=ck/\ck<=1000000):bg (sH k t sd ck lim) []:=by
 obtain⟨F,G,H⟩:=bq.1 (aH.1 w).2.2.1;have hca:cH (sH k t sd ck lim)=[]:=by
  unfold cH;refine List.flatMap_eq_nil_iff.2 λc b=>?_
  rw[(List.mem_replicate.1 b).2]
  rfl
 have J:holders (sH k t sd ck lim)=[]:=by
  unfold holders;rw[hca];show(([]++[])++[])++aU (eD t)=[]
  grind [wo]
 have D:∀a,¬nw (sH k t sd ck lim).K (sH k t sd ck lim).J a:=λa=>by
  rintro(⟨s,g,-⟩|⟨l,f,-⟩)
  ·cases g
  cases f
 exact {
   ker:=w
   rng:=gf.2 ⟨⟨List.pairwise_singleton ..,λy h=>by rw[V1.1 h];grind⟩,λy h=>by
       rw[V1.1 h];refine⟨C5 _,ψ,?_⟩;show(0:Int)+(k.F.Q.O.length:Nat)<=(k.F.Q.O.length:Nat);omega,by show(1:Int)<=(k.F.Q.O.length:Nat);omega,by show((k.F.Q.O.length:Nat):Int)<=32;omega⟩
   lay:=by show bx [] []=true;decide
   srs:=List.Pairwise.nil
   srl:=List.Pairwise.nil
   pg:=⟨λl f=>(by cases f),λp d=>(by cases d),λp d=>⟨λe=>absurd (A p d) e,λe=>by cases e⟩,λp d=>⟨λe=>absurd (A p d) e,λe=>absurd ⟨_,V1.2 rfl,ψ,by
       show(p:Int)<0+(k.F.Q.O.length:Nat);have E:p<k.F.Q.O.length:=d;omega⟩ e⟩,λs g=>by cases g⟩
   mail:=Jm C
   nc:=by show(List.replicate t fe).length=(List.replicate t _).length;simp
   quar:=by show fQ ⟨16,[]⟩ = true;decide
   snc:=λx i=>by cases i
   cach:=λc b=>by rw[(List.mem_replicate.1 b).2];exact FI
   nums:=by grind [cg,sH]
   osr:=List.Pairwise.nil
   onu:=λo n=>by cases n
   oid:=List.nodup_nil
   oow:=λo n=>by cases n
   hca:=λc b j B a r=>by
     rw[(List.mem_replicate.1 b).2]at B r;have u:j<4:=B;have:nth fe.X j=[]:=eU u
     grind
   hqu:=λx i=>by cases i
   hfl:=λa r=>by
     have:aU (eD t)=[]:=wo t;change a∈aU (eD t) at r
     grind
   hin:=(ψ)
   nd:=ψ
   mem:=(ψ)
   job:=λe=>by cases e
   noj:=λ_=>by show u6 ⟨⟨0,0,[]⟩,0,0⟩ = true;decide}
theorem JI.no(a:h.a2=false):JI h:=⟨ψ,ψ,ψ,ψ⟩
def mK{p:Nat}{a:List Int}(d:1<=p/\p<=32)(e:1<=f/\f<=32)(b:a.length<=40/\∀x∈a,0<=x):aJ (bA p f a)=true:=by
 obtain⟨-,g,h,i,c⟩:=aH.1 (tU d e);exact aH.2 ⟨λj k=>b.2 _ (au k),g,h,i,c.1,c.2.1,b.1⟩
theorem GX{p:Nat}{lim:Int}{a:List Int}(b:1<=p/\p<=32)(c:1<=f/\f<=32)(d:1<=t/\t<=4)(g:0<=lim/\lim<=1000)(i:a.length<=40/\∀x∈a,0<=x):bg (qG p f t lim a) []:=by
 have h:=bg.fresh (k:=bA p f a) (t:=t) (lim:=lim) (sd:=0) (ck:=0) (mK b c i) (λq j=>by grind [bA,dS,nth]) d g ω ω;have e:(bA p f a).F.Q.O.length=p:=by grind [bA,dS]
 unfold sH at h;rw[e]at h;exact h
structure cn where
 b0:Int
 a0:Int
 N:Int
 At:Int
 Value:Int
deriving DecidableEq,Inhabited
def cn.enc(_:dA)(x:cn):List C:=[I x.b0,I x.a0,I x.N,I x.At,I x.Value]
def gw(id:Int)(o:aR):Bool:=decide (o.Id=id)
def mf(r:ay)(id:Int):Int:=cj (gw id) r.M
def i7(r:ay)(n:Int):ay:=if 1<=n/\n<=1000 then {r with o:=r.o+1,M:=r.M++[⟨r.o,List.replicate n.toNat 0⟩]} else r
def js(r:ay)(id:Int):ay:=if mf r id<0 then r else {r with M:=dele r.M (mf r id).toNat}
def dy(r:ay)(id at_ v:Int):ay:=if 0<=mf r id/\(0<=at_/\at_<=(nth r.M (mf r id).toNat).W.length - 1)/\0<=v/\v<=999 then {r with M:=r.M.set (mf r id).toNat ⟨(nth r.M (mf r id).toNat).Id,(nth r.M (mf r id).toNat).W.set at_.toNat v⟩} else r
def eC(r:ay)(id n:Int):ay:=if 0<=mf r id/\1<=n/\n<=(nth r.M (mf r id).toNat).W.length then {r with M:=r.M.set (mf r id).toNat ⟨(nth r.M (mf r id).toNat).Id,(nth r.M (mf r id).toNat).W.take n.toNat⟩} else r
structure pb(r:ay)(m:Nat):Prop where
 len:r.M.length<=m
 cel:∀o∈r.M,o.W.length<=1000
 nx:0<=r.o/\r.o<=m+1
variable{m:Nat}{r:ay}
theorem pb.more(h:pb r m)(a:m<=n):pb r n:=⟨by have:=h.len;omega,h.cel,h.nx.1,by have:=h.nx.2;omega⟩
def pb.sml(h:pb r m)(b:m<=1000):ay.sml r:=⟨by have:=h.len;omega,λo a=>by have:=h.cel o a;show o.W.length<=1048576;omega⟩
theorem pb.alloc(h:pb r m)(n:Int):pb (i7 r n) (m+1):=by
 unfold i7;split
 ·refine⟨by have:=h.len;grind,λo a=>?_,by have:=h.nx.1;simp only;omega,by have:=h.nx.2;simp only;omega⟩
  grind [pb.cel]
 grind [pb.more]
theorem pb.free(h:pb r m)(id:Int):pb (js r id) m:=by
 unfold js;split
 ·exact h
 have a:=fA r.M (mf r id).toNat;exact⟨z5 a.length_le h.len,λo b=>h.cel o (a.subset b),h.nx⟩
theorem pb.set{x:aR}(h:pb r m)(a:x.W.length<=1000):pb {r with M:=r.M.set i x} m:=
 ⟨by simp only[Z1];exact h.len,λo b=>by grind [pb.cel],h.nx⟩
theorem ek[Inhabited α](p:α->Bool)(xs:List α)(h:0<=cj p xs):(cj p xs).toNat<xs.length/\p (nth xs (cj p xs).toNat)=true/\cj p xs=((cj p xs).toNat:Nat):=by grind [pS]
theorem pb.store(h:pb r m)(id a v:Int):pb (dy r id a v) m:=by
 unfold dy;split
 ·rename_i e
  refine h.set ?_;simp only[Z1];exact h.cel (nth r.M (mf r id).toNat) (au (ek _ _ e.1).1)
 exact h
theorem pb.trim(h:pb r m)(id n:Int):pb (eC r id n) m:=by
 unfold eC;split
 ·rename_i e
  refine h.set ?_;have:=h.cel (nth r.M (mf r id).toNat) (au (ek _ _ e.1).1)
  grind
 exact h
def KK(id:Int)(o:bi):Bool:=decide (o.Id=id)
def lU(h:ac)(id:Int):Int:=cj (KK id) h.M
def kY(a:Int)(l:aD):Bool:=decide (l.R*16=a)
def p9(h:ac)(a:Int):Int:=cj (kY a) h.J
def lO(h:ac)(a:cn):Prop:=0<=a.a0/\a.a0<=h.T.length - 1
instance (h:ac) (a:cn):Decidable (lO h a):=by unfold lO;infer_instance
def te(w:bw)(a:cn)(i:Nat):bw × Int:=
 if w.Y.H.Calls=100000 then(w,6)
 else if lO w.Y a then(⟨(freeT w.Y a.a0.toNat i).1,if(freeT w.Y a.a0.toNat i).2=0 then js w.c3 (nth w.Y.M i).Id else w.c3⟩,(freeT w.Y a.a0.toNat i).2)
 else(w,1)
def pP(w:bw)(a:cn)(i:Nat):bw × Int:=
 if ¬(0<=a.At/\a.At<=(nth w.Y.M i).a1 - 1) then(w,90)
 else if(ax w.Y.H.F.Q (((nth w.Y.M i).Addr+a.At) / 16)).k=1 then(w,2)
 else if ¬(0<=a.Value/\a.Value<=999) then(w,3)
 else(⟨{w.Y with H:=hO w.Y.H ((nth w.Y.M i).Addr+a.At) a.Value},dy w.c3 (nth w.Y.M i).Id a.At a.Value⟩,0)
def hC(h:ac)(i:Nat)(n:Int):Prop:=0<=p9 h (nth h.M i).Addr/\9<=n/\n<=(nth h.J (p9 h (nth h.M i).Addr).toNat).a1
instance (h:ac) (i:Nat) (n:Int):Decidable (hC h i n):=by unfold hC;infer_instance
def tf(w:bw)(a:cn)(i:Nat):bw × Int:=
 if w.Y.H.Calls≠100000/\hC w.Y i a.Value then(⟨trimH w.Y i (p9 w.Y (nth w.Y.M i).Addr).toNat a.Value,eC w.c3 (nth w.Y.M i).Id a.Value⟩,0) else(w,90)
def mc(w:bw)(a:cn)(i:Nat):bw × Int:=if a.b0=2 then te w a i else if a.b0=3 then pP w a i else tf w a i
def hJ(h:ac)(a:cn):ac × Int:=
 if a.b0=5 then(if lO h a/\0<(nth h.j.U a.a0.toNat).length then({h with j:=fI h.j a.a0.toNat},0) else(h,90))
 else if ¬(h.H.Calls≠100000/\lO h a) then(h,0)
 else if a.b0=6 then(collect h a.a0.toNat,((nth h.j.g a.a0.toNat).length:Nat))
 else((flushN a.a0.toNat h 4).1,((flushN a.a0.toNat h 4).2:Nat))
def rc(h:ac)(n:Int):ac × Int:=if h.H.Calls≠100000/\(0<=n/\n<=1000)/\h.a8+n<=1000000 then(tick h n,((ly h n).length:Nat)) else(h,0)
def nE(h:ac):Bool:=h.a2&&decide (h.H.Calls<=99000)
def kr(h:ac):Nat->ac × Nat
 | 0=>(h,0)
 | i+1=>if nE (kr h i).1=true then(mStep (kr h i).1,(kr h i).2+1) else kr h i
def qK(h:ac):ac × Int:=if h.a2=true then(h,90) else((started h).1,if(started h).2=true then 0 else 90)
def mw(w:bw)(a:cn):bw × Int:=
 if a.b0=1 then(⟨(eI w.Y a.a0 a.N).1,if(eI w.Y a.a0 a.N).2.2=0 then i7 w.c3 a.N else w.c3⟩,(eI w.Y a.a0 a.N).2.2)
 else if a.b0=2\/a.b0=3\/a.b0=4 then(if lU w.Y a.N<0 then(w,90) else mc w a (lU w.Y a.N).toNat)
 else if a.b0=5\/a.b0=6\/a.b0=7 then(⟨(hJ w.Y a).1,w.c3⟩,(hJ w.Y a).2)
 else if a.b0=8 then(⟨(rc w.Y a.N).1,w.c3⟩,(rc w.Y a.N).2)
 else if a.b0=9 then(⟨(qK w.Y).1,w.c3⟩,(qK w.Y).2)
 else if a.b0=10/\0<=a.N/\a.N<=50 then(⟨(kr w.Y a.N.toNat).1,w.c3⟩,((kr w.Y a.N.toNat).2:Nat))
 else(w,90)
structure nl(w:bw)(m:Nat):Prop where
 inv:bg w.Y []
 ji:JI w.Y
 ref:pb w.c3 m
variable{w:bw}
def nl.more(h:nl w m)(a:m<=n):nl w n:=⟨h.inv,h.ji,h.ref.more a⟩
theorem nl.jk(h:nl w m){g:ac}(a:bg g []/\JK w.Y g)(b:pb r m):nl ⟨g,r⟩ m:=⟨a.1,h.ji.keep a.1 a.2,b⟩
theorem jH(b:bg h E){o:bi}(i:o∈h.M){k:Int}(C:0<=k/\k<=o.a1 - 1):(ax h.H.F.Q ((o.Addr+k) / 16)).k≠0/\0<=o.Addr/\o.Addr+k<512:=by
 rcases b.oow o i with⟨s,f,p,q⟩|⟨l,g,D,F⟩
 ·have a:=b.L.sok s f
  have r:=aL a;obtain⟨t,u,w⟩:=b.mapped f;have c:=cW r.2.2;obtain⟨G,H,y,-⟩:=p;have d:o.a1<=csz s.Z:=by
   have J:=oQ (n:=o.a1) ω;rw[q];have:o.a1=1\/o.a1=2\/o.a1=3\/o.a1=4\/o.a1=5\/o.a1=6\/o.a1=7\/o.a1=8:=ω
   rcases this with e|e|e|e|e|e|e|e<;>rw[e]<;>decide
  have A:(o.Addr+k) / 16=s.R:=by
   rcases c with e|e|e|e<;>rw[e]at y d<;>omega
  rw[A];refine⟨?_,ω,ω⟩;unfold ax;rw[CC ⟨t,u⟩];exact w
 obtain⟨j,K,rfl⟩:=bu g;have B:=b.L.lok _ g
 grind [mr,bZ]
theorem nl.obj(h:nl w m)(a:cn)(c:i<w.Y.M.length):nl (mc w a i).1 m:=by
 unfold mc;split
 ·grind [nl.jk,bg.freeT,nl.inv,pb.free,nl.ref,te,lO]
 split
 ·unfold pP;split
  ·exact h
  rename_i A;split
  ·exact h
  split
  ·exact h
  rename_i B;exact h.jk (h.inv.store (jH h.inv (au c) ω).1 ω) (h.ref.store _ _ _)
 unfold tf;split
 ·rename_i e
  obtain⟨-,d,f⟩:=e;obtain⟨g,j,k⟩:=ek _ _ d;have b:=of_decide_eq_true j;exact h.jk (h.inv.trimH c g (b.symm.trans (Int.mul_comm _ _)) f) (h.ref.trim _ _)
 exact h
theorem nl.thread(h:nl w m)(a:cn):nl ⟨(hJ w.Y a).1,w.c3⟩ m:=by
 unfold hJ;split
 ·split
  ·rename_i e
   obtain⟨b,c⟩:=e;unfold lO at b;exact h.jk (g:={w.Y with j:=fI w.Y.j a.a0.toNat}) ⟨h.inv.deliv (by grind [bg.nc,nl.inv]) c,JK.eq rfl rfl rfl rfl⟩ h.ref
  exact h
 split
 ·exact h
 grind [nl.jk,bg.collect,nl.inv,nl.ref,jL,JK.flushN,lO]
theorem zj{h:ac}(a:bg h [])(b:JI h):∀n,bg (kr h n).1 []/\JI (kr h n).1
 | 0=>⟨a,b⟩
 | n+1=>by
  obtain⟨c,d⟩:=zj a b n
  grind [bg.mStep,kr,nE]
theorem nl.act(h:nl w m)(a:cn):nl (mw w a).1 (m+1):=by
 unfold mw;split
 ·have b:=LI (t:=a.a0) (size:=a.N) h.inv
  refine⟨b.1,h.ji.keep b.1 b.2,?_⟩;show pb (if _ then _ else _) (m+1);split
  ·exact h.ref.alloc _
  exact h.ref.more ω
 refine nl.more (m:=m) ?_ ω;split
 ·grind [nl.obj,ek,lU]
 split
 ·exact h.thread a
 split
 ·unfold rc
  split
  ·grind [nl.jk,bg.tick,nl.inv,nl.ref]
  exact h
 split
 ·unfold qK
  split
  ·exact h
  rename_i e;have b:=JV h.inv (by simpa using e);exact⟨b.1,b.2,h.ref⟩
 split
 ·have b:=zj h.inv h.ji a.N.toNat
  exact⟨b.1,b.2,h.ref⟩
 exact h
structure dC where
 w:Nat
 V:Nat
 c1:Nat
 b7:Int
 d:List Int
deriving Inhabited
structure EI(c:dC):Prop where
 p:1<=c.w/\c.w<=32
 f:1<=c.V/\c.V<=32
 t:1<=c.c1/\c.c1<=4
 l:0<=c.b7/\c.b7<=1000
 r:c.d.length<=40/\∀x∈c.d,0<=x
def world0(c:dC):bw:=⟨qG c.w c.V c.c1 c.b7 c.d,{o:=1,M:=[]}⟩
def rn(c:dC)(acts:List cn):Nat->bw × List Int
 | 0=>(world0 c,[])
 | i+1=>((mw (rn c acts i).1 (nth acts i)).1,(rn c acts i).2++[(mw (rn c acts i).1 (nth acts i)).2])
def MK{c:dC}(h:EI c):nl (world0 c) 0:=
 ⟨GX h.p h.f h.t h.l h.r,JI.no rfl,⟨V3 _,λo a=>(by cases a),by show(0:Int)<=1;omega,by show(1:Int)<=((0:Nat):Int)+1;omega⟩⟩
def sQ{c:dC}(h:EI c)(acts:List cn):∀n,nl (rn c acts n).1 n
 | 0=>MK h
 | n+1=>(sQ h acts n).act _
open Go.RowKit
set_option maxRecDepth 20000
set_option maxHeartbeats 4000000
def R7{xs:List Int}{x:Int}(h:df xs.length (λj=>decide (nth xs j≠x))=true):x∉xs:=λb=>by
 obtain⟨j,a⟩:=List.mem_iff_getElem?.1 b;have:=fy h (Z2.1 a).1;rw[b8 a]at this;simp at this
def Gk(xs:List Int)(x:Int)(g:xs.length<=4611686018427387904):zzA 353 false [.val none (aG .S xs),.val none [I x]] .one [B (decide (x∈xs))]:=by
 refine fO 18 [] Tryz.func353 rfl ?_
 refine ZP ?_
 refine CF (ι:=Nat) (λi=>[(0,.G .one (aG .S xs)),(1,.G .one [I (x)]),(5,.G .one [I ((i:Nat):Int)])]) (λi=>i<=xs.length/\df i (λj=>decide (nth xs j≠x))=true) (λi=>xs.length - i) 0 ?_ ⟨X0 _,rfl⟩ λi a=>?_
 ·exact wB
 obtain⟨a,b⟩:=a;by_cases c:i<xs.length
 ·have d:=ar c
  by_cases e:nth xs i=x
  ·refine ZB ?_
   exact Z0 (λz=>[B z]) ((by symm;exact O0 (by rw[<-e];exact au c)))
  refine ZB ?_
  (refine CD (i+1) ⟨ω,bV b (O0 e)⟩ ω ?_;(exact wB))
 refine ZE ?_
 obtain rfl:i=xs.length:=ω
 exact Z0 (λz=>[B z]) ((by symm;exact W0 (R7 b)))
theorem bG.more{M c:af}{w d:World}(h:bG M w d)(f:∀b o,M b o->c b o):bG c w d:=
 ⟨h.os,h.tape,h.output,h.size,λb a e=>h.blk b a ψ,λb o a e=>h.cel b o a ψ,λb o a e=>h.fro b o a ψ⟩
variable{rcs:List C}
theorem aW.wk{P:Program}{sh:Bool}{c u:List C}{A B:List MA}{k:Kd}(h:aW P f sh A (.ptr c::B) k rcs)(D:LZ c u):aW P f sh A (.ptr u::B) k rcs:=by
 refine⟨h.has,λw S V i E F l G=>(h.run w S V i E F l G).mono λe w1 H=>?_⟩;obtain⟨v,J,K,X,L,S1,M,n,p,a,q,r,b,N,O,y⟩:=H;refine⟨v,J,K,X,L,S1,M,n,p,a,q,r,b,N,O,?_⟩;cases i with
 | nil=>exact y.elim
 | cons v0 i=>
  obtain⟨⟨Q,Y,R,T,U,⟨g,o,W,Z⟩,d⟩,t⟩:=y;refine⟨⟨Q,Y,R,T,U,⟨g,o,W,λj hj=>Z j (by grind [td])⟩,Fj D d⟩,t⟩
def aW.frame{P:Program}{sh:Bool}{c c' r:List C}{A B:List MA}{k:Kd}(h:aW P f sh (.ptr c::A) (.ptr c'::B) k rcs)(hl:c'.length=c.length):aW P f sh (.ptr (c++r)::A) (.ptr (c'++r)::B) k rcs:=by
 refine⟨h.has,λw S V vs hS hV hVd hA=>?_⟩;cases vs with
 | nil=>exact hA.elim
 | cons v0 vs=>
 obtain⟨⟨X1,Y,hX1,hY,O,⟨g,q,rfl,u⟩,ff,hf1,J,hf3⟩,hA'⟩:=hA;have hlen:(c++r).length=c.length+r.length:=X3
 let V0:af:=piece g q ff 0 c.length
 let W:Nat->af:=Qj V0 (λi=>V (i+1))
 have hcX:∀o,q<=o->o<q+(c++r).length->X1 g o:=λo l a=>by
  have:=(u (o - q) ω).1
  rwa [show q+(o - q)=o by omega]at this
 have hV0:∀b o,V0 b o->V 0 b o:=λb o p=>by
  rcases p with⟨rfl,l,a⟩|⟨j,-,a,Q⟩
  ·exact hX1 _ _ (hcX o ω ω)
  exact hY _ _ (J j ω b o Q)
 have K:∀i b o,W i b o->V i b o:=λi b o p=>by
  cases i with
  | zero=>exact hV0 b o p
  | succ i=>exact p
 have hA2:MV w S W (.ptr c::A) (.pointer (some ⟨g,q,none⟩)::vs):=by
  refine⟨?_,hA'⟩;have:=uS (lo:=0) (n:=c.length) (cs:=c++r) ω u hf1 J hf3 O;rw[show bL (c++r) 0 c.length=c by simp[bL]]at this;simp only[O7,Nat.add_zero]at this;exact this
 refine(h.run w S W _ hS (λi b o p=>hV i b o (K i b o p)) (λi i' D b o l a=>hVd i i' D b o (K i b o l) (K i' b o a)) hA2).mono λe w1 hv=>?_
 obtain⟨v,he,hk,X,V',S1,hX,E,hS1,hVd',hXV,hXS,hVS1,hh,hr,hm⟩:=hv;have H:∀b o,(∃i,W i b o)->∃i,V i b o:=λb o ⟨i,Z⟩=>⟨i,K i b o Z⟩
 let R:af:=λb o=>V 0 b o/\¬V0 b o
 have hRW:∀b o,R b o->¬∃i,W i b o:=λb o y ⟨i,Z⟩=>by
  cases i with
  | zero=>exact y.2 Z
  | succ i=>exact hVd 0 (i+1) ω b o y.1 Z
 have F:∀b o,R b o->b<w.heap.size:=λb o y=>(hV 0 b o y.1).1
 have t:∀b o,R b o->¬((∃i,W i b o)\/(b<w1.heap.size/\w.heap.size<=b)):=λb o y p=>by
  rcases p with p|p
  ·exact hRW b o y p
  have:=F b o y;omega
 have hRsame:bv R w w1:=λb o y=>⟨hk.cel b o (F b o y) (hRW b o y),hk.fro b o (F b o y) (hRW b o y)⟩
 have hRS1:∀b o,R b o->¬S1 b o:=λb o y hs=>by
  rcases hS1 b o hs with⟨-,l⟩|l
  ·exact(hV 0 b o y.1).2 l
  exact t b o y l
 have hSsame:bv S w w1:=λb o hb=>⟨hk.cel b o (hS b o hb) (λ⟨i,Z⟩=>(hV i b o (K i b o Z)).2 hb),hk.fro b o (hS b o hb) (λ⟨i,Z⟩=>(hV i b o (K i b o Z)).2 hb)⟩
 have hRc:∀j,c.length<=j->j<(c++r).length->R g (q+j):=λj l a=>by
  refine⟨hX1 _ _ (u j a).1,λp=>?_⟩;rcases p with⟨-,Q,h4⟩|⟨N,Q,h4,h5⟩
  ·omega
  exact O _ _ (u j a).1 (J N ω _ _ h5)
 have L:∀j,c.length<=j->j<(c++r).length->∀b o,ff j b o->R b o:=λj l a b o p=>by
  refine⟨hY _ _ (J j a b o p),λhp=>?_⟩;rcases hp with⟨rfl,Q,h4⟩|⟨N,Q,h4,h5⟩
  ·exact O _ _ (hcX o ω ω) (J j a _ _ p)
  exact hf3 j N a ω ω b o p h5
 let U:Nat->af:=Qj (λb o=>V' 0 b o\/R b o) (λi=>V' (i+1))
 have hU:∀i b o,U i b o->V' i b o\/(i=0/\R b o):=λi b o p=>by
  cases i with
  | zero=>exact p.imp id (λh=>⟨rfl,h⟩)
  | succ i=>exact .inl p
 refine⟨v,he,hk.more H,X,U,S1,λb o p=>(hX b o p).imp (H b o) id,λi b o p=>?_,λb o p=>(hS1 b o p).imp id (Or.imp (H b o) id),λi i' D b o l a=>?_,λi b o l a=>?_,hXS,λi b o l a=>?_,hh,hr,?_,hm.2⟩
 ·rcases hU i b o p with l|⟨-,l⟩
  ·exact(E i b o l).imp (H b o) id
  exact .inl ⟨0,l.1⟩
 ·rcases hU i b o l with l|⟨e1,l⟩
  ·rcases hU i' b o a with a|⟨e2,a⟩
   ·exact hVd' i i' D b o l a
   exact t b o a (E i b o l)
  rcases hU i' b o a with a|⟨e2,a⟩
  ·exact t b o l (E i' b o a)
  exact D ω
 ·rcases hU i b o a with a|⟨-,a⟩
  ·exact hXV i b o l a
  exact t b o a (hX b o l)
 ·rcases hU i b o l with l|⟨-,l⟩
  ·exact hVS1 i b o l a
  exact hRS1 b o l a
 obtain⟨Xa,Ya,ha1,ha2,ha3,⟨ga,oa,hea,ha4⟩,fa,ha5,ha6,ha7⟩:=(show rh w1 (λb o=>S b o\/S1 b o) (V' 0) (.ptr c') (.pointer (some ⟨g,q,none⟩)) from hm.1)
 obtain⟨rfl,rfl⟩ : g=ga/\q=oa:=by simpa using hea
 have G:(c'++r).length=c.length+r.length:=by rw[X3,hl]
 show rh w1 (λb o=>S b o\/S1 b o) (λb o=>V' 0 b o\/R b o) (.ptr (c'++r)) (.pointer (some ⟨g,q,none⟩));have faV:∀j,j<c.length->∀b o,fa j b o->V' 0 b o:=λj M b o p=>ha2 _ _ (ha6 j ω b o p)
 refine⟨λb o=>Xa b o\/(R b o/\∃j,c.length<=j/\j<(c++r).length/\b=g/\o=q+j),λb o=>Ya b o\/∃j,c.length<=j/\j<(c++r).length/\ff j b o,λb o p=>?_,λb o p=>?_,λb o l a=>?_,⟨g,q,rfl,λj M=>?_⟩,λj=>if j<c.length then fa j else ff j,λj d M=>?_,λj M b o p=>?_,λj N M hj' D b o l a=>?_⟩
 ·exact p.imp (ha1 b o) (·.1)
 ·rcases p with p|⟨j,l,a,Q⟩
  ·exact .inl (ha2 b o p)
  exact .inr (L j l a b o Q)
 ·rcases l with l|⟨l,j,j1,j2,rfl,rfl⟩
  ·rcases a with a|⟨j,j1,j2,j3⟩
   ·exact ha3 b o l a
   exact t b o (L j j1 j2 b o j3) (E 0 b o (ha1 b o l))
  rcases a with a|⟨N,j3,j4,j5⟩
  ·exact t _ _ l (E 0 _ _ (ha2 _ _ a))
  exact O _ _ (u j j2).1 (J N j4 _ _ j5)
 ·rw[G]at M
  by_cases hc:j<c.length
  ·have:=ha4 j ω
   exact⟨.inl this.1,this.2⟩
  have y:=hRc j ω ω;have hs:=hRsame _ _ y;have T:=u j ω;refine⟨.inr ⟨y,j,ω,ω,rfl,rfl⟩,?_,?_⟩
  ·rw[hs.1];exact T.2.1
  rw[hs.2];exact T.2.2
 ·dsimp only
  by_cases hc:j<c.length
  ·rw[CC hc]
   rw[Y4 ω]at M;exact ha5 j d M
  rw[CB hc];rw[Z4 ω,hl]at M;have hj2:(c++r)[j]? = some d:=by rw[Z4 ω];exact M
  have hjl:=(Z2.1 hj2).1;have Q:=(hf1 j d hj2).keep hSsame (λb o p=>hRsame b o (L j ω hjl b o p));have T:=(hRsame _ _ (hRc j ω hjl)).1;have:cq w1 .box (.pointer (some ⟨g,q,none⟩)) j=cq w .box (.pointer (some ⟨g,q,none⟩)) j:=by
   simp only[cq];rw[T]
  rw[this];exact Q.mono (λ_ _ h=>.inl h) (λ_ _ h=>h)
 ·rw[G]at M
  split at p
  ·rename_i hc;exact .inl (ha6 j ω b o p)
  exact .inr ⟨j,ω,ω,p⟩
 rw[G]at M hj';split at l
 ·rename_i c1
  split at a
  ·exact ha7 j N ω ω D b o l a
  exact t b o (L N ω ω b o a) (E 0 b o (faV j c1 b o l))
 split at a
 ·rename_i c1;exact t b o (L j ω ω b o l) (E 0 b o (faV N c1 b o a))
 exact hf3 j N ω ω D b o l a
mutual
def Ue:∀c:C,fz (fz c)=fz c
 | .v x=>by simp[fz]
 | .s o rows=>by simp only[fz];rw[Ls rows]
 | .x=>by simp[fz]
 | .z=>by simp[fz]
 | .m _=>by simp[fz]
 | .it _ _=>by simp[fz]
def Ls:∀a:List (List C),fzR (fzR a)=fzR a
 | []=>rfl
 | r::a=>by simp only[fzR];rw[x6 r,Ls a]
def x6:∀cs:List C,dB (dB cs)=dB cs
 | []=>rfl
 | c::cs=>by simp only[dB];rw[Ue c,x6 cs]
end
def oN(k:ah)(a:aJ k=true)(e:k.Calls≠100000):zzB 484 false [.ptr (ah.enc .own k)] [.ptr (ah.enc .own (dD k))] .one [B (!refd k)]:=by
 have b:=aZ a;have c:=(aH.1 a).2.2.2.2;have d:=Gk k.d k.Calls (by have:=b.2;omega);refine fM 22 [] [(2,9,[11,12,13,14,15,16,17,18,19])] [(0,0)] Tryz.func484 rfl (λu q=>?_)
 repeat'(first|refine gP ?_|refine CG (d) ⟨⟨rfl,d9 _⟩,⟨rfl,Z0 (λz=>[I z]) ω⟩,trivial⟩ ?_)
 refine CH rfl ?_ ?_
 ·rfl
 exact wB
def pp(k:ah)(p m:Int)(a:aJ k=true)(j:k.Calls≠100000)(d:(ax k.F.Q p).k≠0)(l:m=1\/m=2):zzB 575 false [.ptr (ah.enc .own k),.val none [I p],.val none [I m]] [.ptr (ah.enc .own (iX k p m).1),.val none [I p],.val none [I m]] .one [B (iX k p m).2]:=by
 have n:=aZ a;have b:=oN k a j;have g:=eR (dD k) p n.1.2;have c:=aM m 1 2;rw[O0 ω]at c;obtain⟨o,t,w,-⟩:=bM a d;have h:=ar (xs:=k.F.Q.O) (i:=p.toNat) ω;have r:¬(ax (dD k).F.Q p).k=0:=d;unfold iX;cases e:refd k<;>rw[e]at b
 ·rw[CB (by simp),vP]
  refine fM 31 [(484,[2])] [] [(0,0),(0,0),(0,0)] Tryz.func575 rfl (λu q=>?_)
  repeat'(first|refine gB ?_|refine CG (g) ⟨CO (dD k),⟨rfl,rfl⟩,trivial⟩ ?_|refine CK o (aa h) ?_|refine CM rfl rfl (aa h) rfl (O1 rfl) rfl ?_)
  refine CH rfl ?_ ?_
  ·rfl
  exact wB
 rw[CC rfl];refine fM 31 [(484,[2])] [] [(0,0),(0,0),(0,0)] Tryz.func575 rfl (λu q=>?_)
 repeat'(first|refine gB ?_|refine CG (g) ⟨CO (dD k),⟨rfl,rfl⟩,trivial⟩ ?_)
 refine CH rfl ?_ ?_
 ·rfl
 exact wB
def Rw.two{c:List C}{off j d e b:Nat}{K:List C->Nat->Prop}{o f:dA}{rows rows2:List (List C)}{r a:List C}(h1:c[off]? = some (.s o rows))(g:rows[i]? = some r)(h:r.length=k)(l:r[j]? = some (.s f rows2))(n:rows2[d]? = some a)(p:a.length=e)(q:K a b):Rw c off [(i,k,j),(d,e,b)] K:=
 Rw.mk (r:=a) (j:=b) (by simp[co,h1,g,h,l,n,p]) q
def A2(k:ah)(a b c:Int)(h:aJ k=true)(F:(ax k.F.Q a).k≠0)(G:(ax k.F.Q b).k≠0)(g:0<=c/\c<=15):zzB 576 false [.ptr (ah.enc .own k),.val none [I a],.val none [I b],.val none (aG .S [c])] [.ptr (ah.enc .own (u5 k a b c)),.val none [I a],.val none [I b],.val none (aG .S [c])] .one [B true]:=by
 have w:=aZ h;have H:=eR k a w.1.2;have J:=eR k b w.1.2;have y:=aM c 0 15;rw[O0 g]at y;obtain⟨K,O,L,C,P⟩:=bM h F;obtain⟨M,Q,D,E,R⟩:=bM h G;have N:=(aY.1 (aH.1 h).2.1).2.2.1;have S:=row16 h (f:=jx k a) (by unfold jx;omega);have T:=row16 h (f:=jx k b) (by unfold jx;omega);have d:k.F.V.W[(ax k.F.Q a).e.toNat]? = some (nth k.F.V.W (jx k a)):=ar ω;have e:k.F.V.W[(ax k.F.Q b).e.toNat]? = some (nth k.F.V.W (jx k b)):=ar ω;have l:=ar (xs:=nth k.F.V.W (jx k a)) (i:=c.toNat) ω;have o:=ar (xs:=nth k.F.V.W (jx k b)) (i:=c.toNat) ω;have p:=ar (xs:=k.F.Q.O) (i:=a.toNat) ω;have r:=ar (xs:=k.F.Q.O) (i:=b.toNat) ω;rw[L]at C d;rw[D]at E e;have t:[c][0]? = some c:=rfl;refine fM 90 [] [(13,28,[61,62,63,64,65,66,67,68,69,70,71,72,73,74,75,76,77,78,79,80,81,82,83,84,85,86,87,88])] [(0,0),(0,0),(0,0),(0,0)] Tryz.func576 rfl (λu q=>?_)
 repeat'(first|refine gB ?_|refine CG (H) ⟨CO k,⟨rfl,rfl⟩,trivial⟩ ?_|refine CG (J) ⟨CO k,⟨rfl,rfl⟩,trivial⟩ ?_)
 refine CF (ι:=Nat) (λn=>[(0,.G .box (ah.enc .own k)),(1,.G .one [I (a)]),(2,.G .one [I (b)]),(3,.G .one (aG .S [c])),(9,.G .one [I ((n:Nat):Int)])]) (λn=>n<=1) (λn=>1 - n) (0) ?_ (X0 _) λn U=>?_
 ·exact wB
 by_cases V:n<1
 ·obtain rfl:n=0:=ω
  repeat'(first|refine gE ?_|refine CK (by decide) (aa t) ?_)
  (refine CD 1 ω ω ?_;(exact wB))
 obtain rfl:n=1:=ω
 repeat'(first|refine gE ?_|refine CK K (aa p) ?_|refine CK M (aa r) ?_)
 refine CF (ι:=Nat) (λj=>[(0,.G .box (ah.enc .own (Li k a b c j))),(3,.G .one (aG .S [c])),(10,.G .one [I ((nth k.F.Q.O a.toNat).e)]),(11,.G .one [I ((nth k.F.Q.O b.toNat).e)]),(12,.G .one [I ((j:Nat):Int)])]) (λj=>j<=1) (λj=>1 - j) (0) ?_ (X0 _) λj W=>?_
 ·exact wB
 by_cases X:j<1
 ·obtain rfl:j=0:=ω
  repeat'(first|refine gE ?_|refine CK (by decide) (aa t) ?_|refine CK C (aa d) ?_|refine CK E (aa e) ?_|refine CK g.1 (aa l) ?_|refine CK g.1 (aa o) ?_|refine Rw.two rfl (aa d) rfl rfl (aa l) rfl ?_|refine Pu.two rfl rfl (aa e) rfl rfl rfl (aa o) rfl (V3 _) rfl ?_)
  (refine CD 1 ω ω ?_)
  rw[show Li k a b c 1=u5 k a b c from rfl];unfold u5;rw[wa,show jx k b=(nth k.F.Q.O b.toNat).e.toNat by unfold jx;rw[D]];exact wB
 obtain rfl:j=1:=ω
 refine ZE ?_
 refine CH rfl ?_ ?_
 ·rfl
 exact wB
def JM(k:ah)(p o:Int)(a:aJ k=true)(y:k.Calls≠100000)(g:(ax k.F.Q p).k≠0)(h:(ax k.F.Q o).k≠0)(C:p≠o):zzB 577 false [.ptr (ah.enc .own k),.val none [I p],.val none [I o]] [.ptr (ah.enc .own (Ag k p o).1),.val none [I p],.val none [I o]] .one [B (Ag k p o).2]:=by
 have b:=aZ a;have c:=oN k a y;have j:=eR (dD k) p b.1.2;have l:=eR (dD k) o b.1.2;obtain⟨D,K,E,n,r⟩:=bM a g;obtain⟨F,L,M,N,O⟩:=bM a h;have G:=(aY.1 (aH.1 a).2.1).2.2.1;have d:=ar (xs:=k.F.Q.O) (i:=p.toNat) ω;have t:=ar (xs:=k.F.Q.O) (i:=o.toNat) ω;have H:¬(ax (dD k).F.Q p).k=0:=g;have J:¬(ax (dD k).F.Q o).k=0:=h;rw[E]at n r;have w:=t6 (xl (dD k) p.toNat ⟨2,(nth k.F.Q.O o.toNat).e⟩) (nth k.F.Q.O p.toNat).e (FC _ _ b.1.2) ⟨n,by show _<((k.F.V.W.length:Nat):Int);omega,r⟩;rw[Gp]at w;unfold Ag;cases e:refd k<;>rw[e]at c
 ·rw[CB (by simp)]
  refine fM 60 [(484,[2]),(486,[2,0])] [(4,274,[38,39,40,41,42,43,44,45,46,47,48,49,50,51,52,53,54,56,0,1,2,3,4,5,6,7,8,9,10,11,12,13,14,15,16,17,1000,1001,1002,1003,1004,1005,1006,18,19])] [(0,0),(0,0),(0,0)] Tryz.func577 rfl (λu q=>?_)
  repeat'(first|refine gB ?_|refine CG (j) ⟨CO (dD k),⟨rfl,rfl⟩,trivial⟩ ?_|refine CG (l) ⟨CO (dD k),⟨rfl,rfl⟩,trivial⟩ ?_|refine CK D (aa d) ?_|refine CK F (aa t) ?_|refine CM rfl rfl (aa d) rfl (O1 rfl) rfl ?_)
  refine CH rfl ?_ ?_
  ·rfl
  exact wB
 rw[CC rfl];refine fM 60 [(484,[2]),(486,[2,0])] [(4,274,[38,39,40,41,42,43,44,45,46,47,48,49,50,51,52,53,54,56,0,1,2,3,4,5,6,7,8,9,10,11,12,13,14,15,16,17,1000,1001,1002,1003,1004,1005,1006,18,19])] [(0,0),(0,0),(0,0)] Tryz.func577 rfl (λu q=>?_)
 repeat'(first|refine gB ?_|refine CG (j) ⟨CO (dD k),⟨rfl,rfl⟩,trivial⟩ ?_|refine CG (l) ⟨CO (dD k),⟨rfl,rfl⟩,trivial⟩ ?_)
 refine CH rfl ?_ ?_
 ·rfl
 exact wB
def AE(m:aP)(a:Int)(d:aP.sml m)(c:0<=a/\a<512):zzA 590 false [.val (some 3) (aP.enc .S m),.val none [I a]] (.tup [some 2,none]) (bo.enc .own (ax m.Q (a / 16))++[I (a % 16)]):=by
 have e:=dh m.Q (a / 16) d.2;have b:a.tmod 16=a % 16:=ew c.1;refine fO 16 [] Tryz.func590 rfl ?_ (.inr ⟨trivial,trivial,trivial,trivial⟩)
 repeat'(first|refine gE ?_|refine CL (kH c) ?_|refine CN (by decide) ?_|refine CQ b ?_)
 rfl
def HN(m:aP)(a v:Int)(o:cV m=true)(e:aP.sml m)(p:0<=a/\a<512)(q:0<=v/\v<=999)(r:(ax m.Q (a / 16)).k≠0->0<=(ax m.Q (a / 16)).e/\(ax m.Q (a / 16)).e<m.V.W.length/\(nth m.V.W (ax m.Q (a / 16)).e.toNat).length=16):zzA 588 false [.val (some 3) (aP.enc .S m),.val none [I a],.val none [I v]] (.tup [some 3,none]) (aP.enc .own (gI m a v).1++[I (gI m a v).2]):=by
 have c:=qg m e;rw[o]at c;have g:=uq m e;have h:=AE m a e p;have d:=aM v 0 999;rw[O0 q]at d;have b:=aP.enc_fr (gI m a v).1;unfold gI at b |-;by_cases j:(ax m.Q (a / 16)).k=0
 ·rw[CC j]at b |-
  refine fO 47 [] Tryz.func588 rfl ?_ (.inr (aB b ⟨trivial,trivial⟩))
  refine ZB ?_
  rfl
 rw[CB j]at b |-;by_cases l:(ax m.Q (a / 16)).k=1
 ·rw[CC l]at b |-
  refine fO 47 [] Tryz.func588 rfl ?_ (.inr (aB b ⟨trivial,trivial⟩))
  refine ZB ?_
  rfl
 rw[CB l]at b |-;obtain⟨t,u,w⟩:=r j;have k:=ar (xs:=m.V.W) (i:=(ax m.Q (a / 16)).e.toNat) ω;have n:=ar (xs:=nth m.V.W (ax m.Q (a / 16)).e.toNat) (i:=(a % 16).toNat) ω;simp only at b |-;rw[xF]at b |-;refine fO 47 [] Tryz.func588 rfl ?_ (.inr (aB b ⟨trivial,trivial⟩))
 repeat'(first|refine gB ?_|refine CK t (aa k) ?_|refine CK ω (aa n) ?_|refine Pu.two rfl rfl (aa k) rfl rfl rfl (aa n) rfl (V3 _) rfl ?_)
 rfl
def gJ{k:ah}{j:cz} : jmay k j=true↔(aJ k=true/\k.Calls≠100000)/\jA j=true/\(ax k.F.Q j.b.a7).k≠0/\(ax k.F.Q j.b.a9).k≠0/\(ax k.F.Q j.b.a7).e≠(ax k.F.Q j.b.a9).e:=by
 unfold jmay;simp only[I0,C0]
def lW{p:cf}(h:fH p=true):p.W.length<=16:=by
 unfold fH at h;simp only[I0]at h;have a:∀i,i<p.W.length->(i:Int)<=nth p.W i:=λi=>by
  induction i with
  | zero=>
   intro a;have:=fy h.1 a;unfold o6 at this;rw[C0]at this;exact this.1
  | succ i b=>
   intro a;have c:=b ω;have:=fy h.1 a;unfold o6 at this;rw[C0]at this;have d:=this.2.2.resolve_left ω;rw[Nat.add_sub_cancel]at d;omega
 by_cases e:p.W.length<=16
 ·exact e
 exfalso;have c:=a 16 ω;have:=fy h.1 (show 16<p.W.length by omega);unfold o6 at this;rw[C0]at this;omega
def uR{j:cz}(h:jA j=true):cz.sml j:=by
 have:=lW (fV.1 h).1;show j.b.W.length<=1048576;omega
def gZ{k:ah}(h:aJ k=true):cV k.F=true:=by
 unfold aJ at h;simp only[I0]at h;exact h.1.2
def El(k:ah)(j:cz)(p:jmay k j=true)(g:j.b1=3):zzB 578 false [.ptr (ah.enc .own k),.ptr (xB j)] [.ptr (ah.enc .own (jstep k j).1),.ptr (xB (jstep k j).2)] (.tup []) []:=by
 obtain⟨⟨a,r⟩,t,c,d,w⟩:=gJ.1 p;obtain⟨h,H,J,K,L⟩:=fV.1 t;have y:=aZ a;obtain⟨M,N,O,B,P⟩:=bM a c;have l:=(bq.1 (aH.1 a).2.2.1).2.2;have C:=lW h;have D:=(aY.1 (aH.1 a).2.1).2.2.1;unfold jstep;rw[CB ω,CB ω,CB ω,CC g];by_cases n:0<j.o
 ·rw[CC n]
  have o:=jM h (i:=(j.o - 1).toNat) ω;have E:=ar (xs:=j.b.W) (i:=(j.o - 1).toNat) ω;have F:0<=j.b.a7*16+nth j.b.W (j.o - 1).toNat/\j.b.a7*16+nth j.b.W (j.o - 1).toNat<512:=ω
  have G:(j.b.a7*16+nth j.b.W (j.o - 1).toNat) / 16=j.b.a7:=ω
  have b:=HN k.F (j.b.a7*16+nth j.b.W (j.o - 1).toNat) 0 (gZ a) y.1 F ω (λ_=>by rw[G];exact⟨B,ω,row16 a (f:=jx k j.b.a7) (by unfold jx;omega)⟩);generalize (gI k.F (j.b.a7*16+nth j.b.W (j.o - 1).toNat) 0).1=m at b |-;generalize (gI k.F (j.b.a7*16+nth j.b.W (j.o - 1).toNat) 0).2=e at b;refine fM 59 [(575,[2,0,0])] [(2,283,[20,21,22,23,24,25,26,27,28,29,30,31,32,33,34,35,36,37,38,39,40,41,42,19,43,44,4,0,1,2,3,4,5,6,7,8,9,10,11,12,13,14,15,16,17,18,19,20,21,22,23,24,25,26,27,1025,28])] [(0,0),(1,0)] Tryz.func578 rfl (λu q=>?_) (.inr trivial)
  repeat'(first|refine gE ?_|refine CG (b) ⟨⟨rfl,aP.enc_fz k.F⟩,⟨rfl,rfl⟩,⟨rfl,rfl⟩,trivial⟩ ?_|refine CK ω (aa E) ?_)
  refine CH rfl rfl ?_;exact wC
 rw[CB n];have b:=pp k j.b.a9 2 a r d (.inr rfl);cases e:(iX k j.b.a9 2).2<;>rw[e]at b
 ·refine fM 59 [(575,[2,0,0])] [(2,283,[20,21,22,23,24,25,26,27,28,29,30,31,32,33,34,35,36,37,38,39,40,41,42,19,43,44,4,0,1,2,3,4,5,6,7,8,9,10,11,12,13,14,15,16,17,18,19,20,21,22,23,24,25,26,27,1025,28])] [(0,0),(1,0)] Tryz.func578 rfl (λu q=>?_) (.inr trivial)
  refine ZE ?_
  refine CH rfl rfl ?_;rw[<-g];exact wC
 refine fM 59 [(575,[2,0,0])] [(2,283,[20,21,22,23,24,25,26,27,28,29,30,31,32,33,34,35,36,37,38,39,40,41,42,19,43,44,4,0,1,2,3,4,5,6,7,8,9,10,11,12,13,14,15,16,17,18,19,20,21,22,23,24,25,26,27,1025,28])] [(0,0),(1,0)] Tryz.func578 rfl (λu q=>?_) (.inr trivial)
 refine ZE ?_
 refine CH rfl rfl ?_;exact wC
def DH(k:ah)(j:cz)(g:jmay k j=true):zzB 529 false [.ptr (ah.enc .own k),.ptr (xB j)] [.ptr (ah.enc .own (jstep k j).1),.ptr (xB (jstep k j).2)] (.tup []) []:=by
 obtain⟨⟨h,p⟩,B,c,b,l⟩:=gJ.1 g;obtain⟨r,F,G,H,J⟩:=fV.1 B;have n:j.b.a9≠j.b.a7:=λe=>l (by rw[e])
 have C:=lW r;by_cases d:j.b1=0
 ·have a:=pp k j.b.a9 1 h p b (.inl rfl)
  unfold jstep;rw[CC d];cases e:(iX k j.b.a9 1).2<;>rw[e]at a
  ·refine fM 80 [(575,[2,0,0]),(576,[2,0,0,0]),(577,[2,0,0]),(578,[2,2])] [(7,7,[27,28,29,30,31,32,33]),(9,14,[38,39,40,41,42,43,44,45,46,47,48,49,50,51])] [(0,0),(1,0)] Tryz.func529 rfl (λu q=>?_) (.inr trivial)
   refine ZB ?_
   refine CH rfl rfl ?_;exact wC
  refine fM 80 [(575,[2,0,0]),(576,[2,0,0,0]),(577,[2,0,0]),(578,[2,2])] [(7,7,[27,28,29,30,31,32,33]),(9,14,[38,39,40,41,42,43,44,45,46,47,48,49,50,51])] [(0,0),(1,0)] Tryz.func529 rfl (λu q=>?_) (.inr trivial)
  refine ZB ?_
  refine CH rfl rfl ?_;exact wC
 by_cases o:j.b1=1
 ·unfold jstep
  rw[CB d,CC o];by_cases t:j.o=j.b.W.length
  ·rw[CC t]
   refine fM 80 [(575,[2,0,0]),(576,[2,0,0,0]),(577,[2,0,0]),(578,[2,2])] [(7,7,[27,28,29,30,31,32,33]),(9,14,[38,39,40,41,42,43,44,45,46,47,48,49,50,51])] [(0,0),(1,0)] Tryz.func529 rfl (λu q=>?_) (.inr trivial)
   refine ZB ?_
   refine CH rfl rfl ?_;exact wC
  rw[CB t];have D:=ar (xs:=j.b.W) (i:=j.o.toNat) ω;have a:=A2 k j.b.a9 j.b.a7 (nth j.b.W j.o.toNat) h b c (jM r ω);have E:=(gJ.1 g).2.1;refine fM 80 [(575,[2,0,0]),(576,[2,0,0,0]),(577,[2,0,0]),(578,[2,2])] [(7,7,[27,28,29,30,31,32,33]),(9,14,[38,39,40,41,42,43,44,45,46,47,48,49,50,51])] [(0,0),(1,0)] Tryz.func529 rfl (λu q=>?_) (.inr trivial)
  repeat'(first|refine gB ?_|refine CI a (.inr ⟨rfl,CX _,trivial⟩) ?_|refine CK ω (aa D) ?_)
  refine CH rfl rfl ?_;exact wC
 by_cases w:j.b1=2
 ·have a:=JM k j.b.a9 j.b.a7 h p b c n
  unfold jstep;rw[CB d,CB o,CC w];cases e:(Ag k j.b.a9 j.b.a7).2<;>rw[e]at a
  ·refine fM 80 [(575,[2,0,0]),(576,[2,0,0,0]),(577,[2,0,0]),(578,[2,2])] [(7,7,[27,28,29,30,31,32,33]),(9,14,[38,39,40,41,42,43,44,45,46,47,48,49,50,51])] [(0,0),(1,0)] Tryz.func529 rfl (λu q=>?_) (.inr trivial)
   refine ZB ?_
   refine CH rfl rfl ?_;exact wC
  refine fM 80 [(575,[2,0,0]),(576,[2,0,0,0]),(577,[2,0,0]),(578,[2,2])] [(7,7,[27,28,29,30,31,32,33]),(9,14,[38,39,40,41,42,43,44,45,46,47,48,49,50,51])] [(0,0),(1,0)] Tryz.func529 rfl (λu q=>?_) (.inr trivial)
  refine ZB ?_
  refine CH rfl rfl ?_;exact wC
 by_cases y:j.b1=3
 ·have a:=El k j g y
  refine fM 80 [(575,[2,0,0]),(576,[2,0,0,0]),(577,[2,0,0]),(578,[2,2])] [(7,7,[27,28,29,30,31,32,33]),(9,14,[38,39,40,41,42,43,44,45,46,47,48,49,50,51])] [(0,0),(1,0)] Tryz.func529 rfl (λu q=>?_) (.inr trivial)
  refine ZB ?_
  refine CH rfl rfl ?_;exact wC
 unfold jstep;rw[CB d,CB o,CB w,CB y];refine fM 80 [(575,[2,0,0]),(576,[2,0,0,0]),(577,[2,0,0]),(578,[2,2])] [(7,7,[27,28,29,30,31,32,33]),(9,14,[38,39,40,41,42,43,44,45,46,47,48,49,50,51])] [(0,0),(1,0)] Tryz.func529 rfl (λu q=>?_) (.inr trivial)
 refine ZB ?_
 refine CH rfl rfl ?_;exact wC
def Gt(k:ah)(j:cz)(e:aJ k=true)(i:jA j=true):zzA 528 false [.val (some 5) (ah.enc .S k),.val (some 5) (cz.enc .S j)] .one [B (jmay k j)]:=by
 have c:=aZ e;have b:dB (ah.enc .S k)=ah.enc .S k:=by rw[<-CO k,x6]
 have r:=(aH.1 e).2.2.2.2;have a:=m8 k c;rw[e]at a;have d:=yZ j (uR i);rw[i]at d;have l:=eR k j.b.a7 c.1.2;have n:=eR k j.b.a9 c.1.2;have t:=dh k.F.Q j.b.a7 c.1.2;have u:=dh k.F.Q j.b.a9 c.1.2;by_cases o:k.Calls=100000
 ·rw[W0 ω]at a
  rw[show jmay k j=false by rw[<-W5,gJ];exact λh=>h.1.2 o];refine fO 44 [(3,16,[27,28,29,30,31,32,33,34,35,36,37,38,39,40,41,42])] Tryz.func528 rfl ?_
  refine ZP ?_
  rfl
 rw[O0 ω]at a;by_cases p:(ax k.F.Q j.b.a7).k=0
 ·rw[show jmay k j=false by rw[<-W5,gJ];exact λh=>h.2.2.1 p]
  refine fO 44 [(3,16,[27,28,29,30,31,32,33,34,35,36,37,38,39,40,41,42])] Tryz.func528 rfl ?_
  repeat'(first|refine gB ?_|refine CG (l) ⟨b,⟨rfl,rfl⟩,trivial⟩ ?_|refine CG (n) ⟨b,⟨rfl,rfl⟩,trivial⟩ ?_)
  rfl
 by_cases q:(ax k.F.Q j.b.a9).k=0
 ·rw[show jmay k j=false by rw[<-W5,gJ];exact λh=>h.2.2.2.1 q]
  refine fO 44 [(3,16,[27,28,29,30,31,32,33,34,35,36,37,38,39,40,41,42])] Tryz.func528 rfl ?_
  repeat'(first|refine gB ?_|refine CG (l) ⟨b,⟨rfl,rfl⟩,trivial⟩ ?_|refine CG (n) ⟨b,⟨rfl,rfl⟩,trivial⟩ ?_)
  rfl
 refine fO 44 [(3,16,[27,28,29,30,31,32,33,34,35,36,37,38,39,40,41,42])] Tryz.func528 rfl ?_
 repeat'(first|refine gB ?_|refine CG (l) ⟨b,⟨rfl,rfl⟩,trivial⟩ ?_|refine CG (n) ⟨b,⟨rfl,rfl⟩,trivial⟩ ?_)
 exact Z0 (λz=>[B z]) (by
   unfold jmay;rw[e,i,O0 o];by_cases g:(ax k.F.Q j.b.a7).e=(ax k.F.Q j.b.a9).e
   · rw[W0 (λh=>h.2.2 g)];simp[g]
   rw[O0 ⟨p,q,g⟩];simp[g])
def Fu(j:cz):zzA 530 false [.val (some 5) (cz.enc .S j)] .one [B (over j)]:=by
 by_cases a:j.b1=4
 ·rw[show over j=true from O0 (.inl a)]
  refine fO 11 [] Tryz.func530 rfl ?_
  refine ZB ?_
  rfl
 rw[show over j=decide (j.b1=5) from decide_eq_decide.2 ω];refine fO 11 [] Tryz.func530 rfl ?_
 refine ZB ?_
 exact Z0 (λz=>[B z]) (by rw[v5];simp)
def Lh(x:ac):List C:=(bK x).set 21 .z
def Ge{x:ac}(h:x.a5.b.W=[]):LZ (Lh x) (bK x):=by
 unfold Lh bK;simp only[List.set,h,List.map_nil]
 repeat'(first|exact trivial|exact eQ _|refine CJ ?_ ?_|rfl)
def DE(h:ac)(j:bg h [])(k:h.a2=true):zzB 431 false [.ptr (bK h)] [.ptr (bK (mStep h))] .one [B (Gu h)]:=by
 obtain⟨l,-,-⟩:=j.job k;have b:=Gt h.H h.a5 j.ker l;have a:=Fu (gj h.H h.a5).2;unfold Gu mStep;cases e:jmay h.H h.a5 with
 | false=>
  rw[e]at b;have d:gj h.H h.a5=(h.H,h.a5):=by unfold gj;rw[e];rfl
  rw[d]at a |-;simp only at a |-;cases g:over h.a5<;>rw[g]at a
  ·refine fM 39 [(529,[3,5,5])] [(1,8,[4,5,6,7,8,9,10,11]),(2,6,[13,14,15,16,17,18])] [(0,0)] Tryz.func431 rfl (λu q=>?_)
   repeat'(first|refine gP ?_|refine CG (b) ⟨⟨rfl,CO h.H⟩,⟨rfl,rfl⟩,trivial⟩ ?_)
   refine CH rfl ?_ ?_
   ·exact Z0 (λz=>[B z]) (by rw[v5];simp)
   exact wC
  refine aW.wk (c:=Lh _) ?_ (Ge rfl);refine fM 39 [(529,[3,5,5])] [(1,8,[4,5,6,7,8,9,10,11]),(2,6,[13,14,15,16,17,18])] [(0,0)] Tryz.func431 rfl (λu q=>?_)
  repeat'(first|refine gP ?_|refine CG (b) ⟨⟨rfl,CO h.H⟩,⟨rfl,rfl⟩,trivial⟩ ?_)
  refine CH rfl ?_ ?_
  ·exact Z0 (λz=>[B z]) (by rw[v5];simp)
  exact wC
 | true=>
  rw[e]at b;have d:gj h.H h.a5=jstep h.H h.a5:=by unfold gj;rw[e];rfl
  have i:=DH h.H h.a5 e;rw[d]at a |-;generalize jstep h.H h.a5=r at i a |-;cases g:over r.2<;>rw[g]at a
  ·refine fM 39 [(529,[3,5,5])] [(1,8,[4,5,6,7,8,9,10,11]),(2,6,[13,14,15,16,17,18])] [(0,0)] Tryz.func431 rfl (λu q=>?_)
   repeat'(first|refine gP ?_|refine CG (b) ⟨⟨rfl,CO h.H⟩,⟨rfl,rfl⟩,trivial⟩ ?_)
   refine CH rfl ?_ ?_
   ·exact Z0 (λz=>[B z]) (by rw[v5];simp)
   exact wC
  refine aW.wk (c:=Lh _) ?_ (Ge rfl);refine fM 39 [(529,[3,5,5])] [(1,8,[4,5,6,7,8,9,10,11]),(2,6,[13,14,15,16,17,18])] [(0,0)] Tryz.func431 rfl (λu q=>?_)
  repeat'(first|refine gP ?_|refine CG (b) ⟨⟨rfl,CO h.H⟩,⟨rfl,rfl⟩,trivial⟩ ?_)
  refine CH rfl ?_ ?_
  ·exact Z0 (λz=>[B z]) (by rw[v5];simp)
  exact wC
def or64{z1 z2:Int}(h1:0<=z1/\z1<=65535)(a:0<=z2/\z2<=65535):IntKind.i64.wrap ((BitVec.ofInt IntKind.i64.bits z1 ||| BitVec.ofInt IntKind.i64.bits z2).toNat:Nat)=bor z1 z2:=by
 rw[BitVec.toNat_or,qC ω,qC ω];have b:=J1 h1 a;unfold bor at b |-;exact fW ω ω
def AO(h:ac)(i:Nat)(n:dM h.K)(d:wT h)(a:∀s∈h.K,bk s=true)(y:i<h.K.length):zzA 479 false [.val (some 24) (ac.enc .S h),.val none [I (i:Nat)]] .one [I (dU h i)]:=by
 have F:=n.1;have G:=ar y;have g:=mB a y;have B:=aM ((i:Nat):Int) 0 ((h.K.length:Int) - 1);rw[O0 (show(0:Int)<=(i:Nat)/\((i:Nat):Int)<=(h.K.length:Int) - 1 by omega)]at B;have C:=iC h (nth h.K i).R d;have o:=fG h (nth h.K i).R;have H:eO h<=1048576:=d.1;have c:dU h i=i6 h.K (aV h (nth h.K i).R) (nth h.K i).a6 (aV h (nth h.K i).R).length:=rfl;obtain⟨ps,q⟩ : ∃ps,aV h (nth h.K i).R=ps:=⟨_,rfl⟩
 obtain⟨b,r⟩ : ∃b,(nth h.K i).a6=b:=⟨_,rfl⟩
 rw[q]at C o c;rw[r]at c g;rw[c];have J:i6 h.K ps b 0=b:=rfl;refine fO 63 [(4,7,[22,23,24,25,26,27,28]),(11,10,[43,44,45,46,47,48,49,50,51,52])] Tryz.func479 rfl ?_
 refine ZP ?_
 refine CF (ι:=Nat) (λu=>[(2,.G .box (ac.enc .S h)),(5,.G .one [I (i6 h.K ps b u)]),(6,.G .one (aG .own ps)),(7,.G .one [I ((u:Nat):Int)])]) (λu=>u<=ps.length) (λu=>ps.length - u) (0) ?_ (X0 _) λu M=>?_
 ·exact wB
 by_cases K:u<ps.length
 ·have l:=ar K
  have t:=lT a (ps:=ps) g u
  refine ZE ?_
  refine CF (ι:=Nat) (λj=>[(2,.G .box (ac.enc .S h)),(5,.G .one [I (pO h.K (nth ps u) (i6 h.K ps b u) j)]),(6,.G .one (aG .own ps)),(7,.G .one [I ((u:Nat):Int)]),(8,.G .one [I ((j:Nat):Int)])]) (λj=>j<=h.K.length) (λj=>h.K.length - j) (0) ?_ (X0 _) λj L=>?_
  ·exact wB
  by_cases D:j<h.K.length
  ·have E:=ar D
   have w:=xy a (p:=nth ps u) t j L;by_cases e:(nth h.K j).R=nth ps u
   ·have k:pO h.K (nth ps u) (i6 h.K ps b u) (j+1)=bor (pO h.K (nth ps u) (i6 h.K ps b u) j) (nth h.K j).a6:=CC e
    repeat'(first|refine gB ?_|refine CL (or64 w (mB a D)) ?_)
    (refine CD (j+1) ω ω ?_;(exact wB))
   have k:pO h.K (nth ps u) (i6 h.K ps b u) (j+1)=pO h.K (nth ps u) (i6 h.K ps b u) j:=CB e
   refine ZB ?_
   (refine CD (j+1) ω ω ?_;(exact wB))
  obtain rfl:j=h.K.length:=ω
  refine ZE ?_
  (refine CD (u+1) ω ω ?_;(exact wB))
 obtain rfl:u=ps.length:=ω
 refine ZE ?_
 rfl
def np{xs:List bi}(h:∀o∈xs,0<=o.a1/\o.a1<=1000):∀k:Nat,k<=xs.length->0<=rV xs k/\rV xs k<=1000*k
 | 0,_=>⟨C5 _,C5 _⟩
 | k+1,a=>by
  have b:=np h k ω;have c:=h _ (au (xs:=xs) (i:=k) ω);simp only[rV];omega
def xK(h:ac)(a:∀o∈h.M,0<=o.a1/\o.a1<=1000)(e:h.M.length<=1048576):zzA 19 false [.val (some 24) (ac.enc .S h)] .one [I (o9 h)]:=by
 refine fO 21 [] Tryz.func19 rfl ?_
 refine ZP ?_
 refine CF (ι:=Nat) (λk=>[(1,.G .box (ac.enc .S h)),(3,.G .one [I (rV h.M k)]),(4,.G .one [I ((k:Nat):Int)])]) (λk=>k<=h.M.length) (λk=>h.M.length - k) (0) ?_ (X0 _) λk c=>?_
 ·exact wB
 have g:=np a k c;by_cases b:k<h.M.length
 ·have d:=ar b
  have i:=a _ (au b)
  refine ZE ?_
  (refine CD (k+1) ω ω ?_;(exact wB))
 obtain rfl:k=h.M.length:=ω
 refine ZE ?_
 rfl
def zE(k b:Int)(h:b<=9223372036854775807):zzA 478 false [.val none [I (slots k)],.val none [I b]] .one (aG .own (nP k b)):=by
 have c:=rz k b;have p:0<=slots k/\slots k<=16:=by unfold slots;repeat' split<;>omega
 unfold nP;cases e:My k b<;>rw[e]at c
 ·rw[CB (by simp)]
  refine fO 27 [] Tryz.func478 rfl ?_ (.inr (bO _))
  refine ZP ?_
  refine CF (ι:=Nat) (λj=>[(0,.G .one [I (slots k)]),(1,.G .one [I (b)]),(5,.G .one (aG .own [])),(6,.G .one [I ((j:Nat):Int)])]) (λj=>j=0) (λj=>1 - j) (0) ?_ (rfl) λj g=>?_
  ·exact wB
  subst g
  repeat'(first|refine gE ?_|with_reducible refine Bf.D (λi=>?_) (λi=>?_))
  all_goals rfl
 rw[CC rfl];refine fO 27 [] Tryz.func478 rfl ?_ (.inr (bO _))
 refine ZP ?_
 refine CF (ι:=Nat) (λj=>[(0,.G .one [I (slots k)]),(1,.G .one [I (b)]),(5,.G .one (aG .own (ma b j))),(6,.G .one [I ((j:Nat):Int)])]) (λj=>j<=(slots k).toNat) (λj=>(slots k).toNat - j) (0) ?_ (X0 _) λj g=>?_
 ·exact wB
 have l:=q9 b j;by_cases q:j<(slots k).toNat
 ·have d:=jj b (j:Nat) h
  have a:ma b (j+1)=if bh b (j:Nat)=true then ma b j else ma b j++[((j:Nat):Int)]:=rfl
  cases n:bh b (j:Nat)<;>rw[n]at d a
  ·rw[CB (by simp)]at a
   repeat'(first|refine gE ?_|refine CT cR (λr o=>by rw[V1.1 o];rfl) (by simp[bn,eP]) (by simp;omega) (by simp only[I1];exact xi (by simp;omega) (by decide)) rfl ?_)
   (refine CD (j+1) ω ω ?_)
   rw[a]
   repeat'(first|exact trivial|rfl|exact CJ rfl (CJ (Z0 (C.s dA.own) (by simp[rI])) trivial)|refine CJ ?_ ?_|(exact Fy (by first|omega|(simp only;omega)|(simp;omega))))
  rw[CC rfl]at a
  refine ZE ?_
  (refine CD (j+1) ω ω ?_)
  rw[a];exact wB
 obtain rfl:j=(slots k).toNat:=ω
 refine ZE ?_
 rfl
def Di(b i:Int):bor b (2 ^ i.toNat)=gC b i:=by
 unfold bor gC;have:((2 ^ i.toNat:Nat):Int)=(2:Int) ^ i.toNat:=Int.natCast_pow 2 i.toNat;rw[<-this,C3]
def B1(b i:Int)(d:0<=b/\b<=65535)(a:0<=i/\i<=15):zzA 481 false [.val none [I b],.val none [I i]] .one [I (gC b i)]:=by
 have c:=qR b i;rw[O0 ω]at c;have e:IntKind.u64.wrap i=i:=by unfold IntKind.wrap;simp[IntKind.signed,IntKind.bits];omega
 have h:=(shl64 a).2;have g:=(or64 (z1:=b) (z2:=2 ^ i.toNat) d ω).trans (Di b i);refine fO 15 [] Tryz.func481 rfl ?_
 repeat'(first|refine gP ?_|refine CN ω ?_|refine CL e ?_|refine CL (shl64 a).1 ?_|refine CL g ?_)
 rfl
def Nk{s:aA}(b:bk s=true){k:Int}(d:0<=k/\k<slots s.Z):0<=k*csz s.Z/\k*csz s.Z<=15:=by
 have a:=aL b;have c:=gn a.2.2;rcases cW a.2.2 with e|e|e|e<;>rw[e]at c |-<;>omega
def Be(s:aA)(k:Int)(a:bk s=true)(d:0<=k/\k<slots s.Z):zzA 482 false [.val (some 3) (aA.enc .S s),.val none [I k]] .one [I (16*s.R+k*csz s.Z)]:=by
 have e:=aL a;have i:=Nk a d;have j:=gn e.2.2;have b:=gS s;rw[a]at b;have g:=oM s.Z;have c:=aM k 0 (slots s.Z - 1);rw[O0 ω]at c;have h:=eg s.Z;refine fO 26 [(3,8,[17,18,19,20,21,22,23,24])] Tryz.func482 rfl ?_
 refine ZP ?_
 exact Z0 (λz=>[I z]) ω
def Fo(f:aT)(g:f.y.length<=1048576):zzA 483 false [.val (some 2) (aT.enc .S f)] .one [I (cj (λu=>!u) f.y)]:=by
 refine fO 18 [] Tryz.func483 rfl ?_
 refine ZP ?_
 refine CF (ι:=Nat) (λi=>[(1,.G .box (aT.enc .S f)),(3,.G .one [I ((i:Nat):Int)])]) (λi=>i<=f.y.length/\∀(j:Nat)(z:Bool),j<i->f.y[j]? = some z->(!z)=false) (λi=>f.y.length - i) (0) ?_ (⟨X0 _,λj z h=>ω⟩) λi c=>?_
 ·exact wB
 obtain⟨c,b⟩:=c;by_cases d:i<f.y.length
 ·have a:=ar d
  cases e:nth f.y i<;>rw[e]at a
  ·refine ZE ?_
   exact Z0 (λz=>[I z]) (dw a rfl b).symm
  refine ZE ?_
  (refine CD (i+1) ⟨ω,ep a rfl b⟩ ω ?_;(exact wB))
 refine ZE ?_
 exact Z0 (λz=>[I z]) (fg ω b).symm
def Ll(x:List aR):fz (.s .own (x.map (aR.enc .own)))=.s .S (x.map (aR.enc .S)):=(List.cons.inj (List.cons.inj (Ca ⟨0,x⟩)).2).1
def bU:∀a b:List C,dB (a++b)=dB a++dB b
 | [],_=>rfl
 | x::xs,b=>by show fz x::dB (xs++b)=fz x::(dB xs++dB b);rw[bU xs b]
def f8(r:ay)(c:ay.sml r):zzA 281 false [.val (some 2) (ay.enc .S r)] .agg (ay.enc .own r):=by
 have e:r.M.length<=1048576:=c.1;refine fO 36 [(5,272,[15,16,17,18,19,20,21,22,23,24,25,26,27,28,29,34,0,1,2,3,4,5,6,7,8,9,10,11,12,13,14,15,1000,1001,1002,1003,1004,1005,1006,1007,16,1000,1001,17,1000,1001,18,19,20])] Tryz.func281 rfl ?_ (.inr (ay.enc_fr _))
 refine ZP ?_
 refine CF (ι:=Nat) (λi=>[(1,.G .box (ay.enc .S r)),(2,.G .box [I 0,.z]),(3,.G .box [I r.o,.s .own ((r.M.take i).map (aR.enc .own))]),(4,.G .one [I ((i:Nat):Int)])]) (λi=>i<=r.M.length) (λi=>r.M.length - i) (0) ?_ (X0 _) λi g=>?_
 ·exact wC
 by_cases b:i<r.M.length
 ·have d:=ar b
  have a:(nth r.M i).W.length<=1048576:=c.2 _ (au b)
  repeat'(first|refine gE ?_|refine CU (λ_=>rfl) (λ_=>rfl) a (by decide) ?_|refine CP (λ_=>rfl) (λ_=>rfl) a (by decide) ?_|refine Ap.sn (aK λ_=>rfl) rfl (by simp;omega) (by decide) (fm b) ?_)
  (refine CD (i+1) ω ω ?_;(exact wC))
 refine ZE ?_
 obtain rfl:i=r.M.length:=ω
 rw[I5]
 rfl
def iF(r:ay)(id:Int)(g:r.M.length<=1048576):zzA 516 false [.val (some 2) (ay.enc .S r),.val none [I id]] .one [I (mf r id)]:=by
 refine fO 22 [] Tryz.func516 rfl ?_
 refine ZP ?_
 refine CF (ι:=Nat) (λi=>[(1,.G .one [I (id)]),(2,.G .box (ay.enc .S r)),(5,.G .one [I ((i:Nat):Int)])]) (λi=>i<=r.M.length/\∀(j:Nat)(z:aR),j<i->r.M[j]? = some z->gw id z=false) (λi=>r.M.length - i) (0) ?_ (⟨X0 _,λj z h=>ω⟩) λi c=>?_
 ·exact wC
 obtain⟨c,b⟩:=c;by_cases d:i<r.M.length
 ·have a:=ar d
  by_cases e:(nth r.M i).Id=id
  ·refine ZB ?_
   exact Z0 (λz=>[I z]) (dw a (O0 e) b).symm
  refine ZB ?_
  (refine CD (i+1) ⟨ω,ep a (W0 e) b⟩ ω ?_;(exact wC))
 refine ZE ?_
 exact Z0 (λz=>[I z]) (fg ω b).symm
def nS(r:ay)(c:C)(h:Rp c):g0 (ay.enc .own r++[c]):=aB (ay.enc_fr _) ⟨h,trivial⟩
def AH(r:ay)(n:Int)(m:Nat)(b:pb r m)(h:m<=1000)(c:1<=n/\n<=1000):zzA 273 false [.val (some 2) (ay.enc .S r),.val none [I n]] (.tup [some 2,none]) (ay.enc .S (i7 r n)++[I r.o]):=by
 have i:=b.sml h;have d:=b.len;have j:=b.nx;have k:=f8 r i;have e:=aM n 1 1000;rw[O0 c]at e;have key:zzA 273 false [.val (some 2) (ay.enc .S r),.val none [I n]] (.tup [some 2,none]) (ay.enc .own (i7 r n)++[I r.o]):=by
  have a:=nS (i7 r n) (I r.o) trivial;unfold i7 at a |-;rw[CC c]at a |-;have l:ay.enc .own {r with o:=r.o+1,M:=r.M++[⟨r.o,List.replicate n.toNat 0⟩]} = [I (r.o+1),.s .own (r.M.map (aR.enc .own)++[[I r.o,.s .own (List.replicate n.toNat [I 0])]])]:=by
   simp[ay.enc,aR.enc,rI]
  rw[l]at a |-;refine fO 30 [(4,263,[13,14,15,16,17,18,22,0,1,2,3,4,5,6,1000,1001,7,1000,1001,8,9,10]),(6,259,[27,28,29,0,1,2,3,1001,1002,4])] Tryz.func273 rfl ?_ (.inr a)
  repeat'(first|refine gP ?_|refine Mk.mk n.toNat ω ω ω (xi ω (by decide)) rfl ?_|refine Ap.sn (aK λ_=>rfl) rfl (by simp;omega) (by decide) rfl ?_)
  rfl
 have g:=key.fzR;rw[bU,Ca]at g;exact g
def EQ(r:ay)(id:Int)(m:Nat)(d:pb r m)(k:m<=1000):zzA 417 true [.val (some 2) (ay.enc .S r),.val none [I id]] (.tup [some 2,none]) (ay.enc .S (js r id)++[B (!decide (mf r id<0))]):=by
 have g:=d.sml k;have h:=d.len;have i:=f8 r g;have b:=iF r id g.1;by_cases e:mf r id<0
 ·have key:zzA 417 true [.val (some 2) (ay.enc .S r),.val none [I id]] (.tup [some 2,none]) (ay.enc .own r++[B false]):=by
   refine fO 30 [(5,267,[16,17,18,19,20,22,23,24,25,26,28,0,1,2,3,4,6,7,8,9,10,5,1006,1007,1008,1009,1010,11,12,13]),(1048581,6,[1])] Tryz.func417 rfl ?_ (.inl rfl)
   refine ZE ?_
   rfl
  have a:=key.fzR;rw[bU,Ca]at a;unfold js;rw[CC e,O0 e];exact a
 have n:js r id = {r with M:=dele r.M (mf r id).toNat}:=by unfold js;rw[CB e]
 obtain⟨t,u,w⟩:=ek (gw id) r.M (by unfold mf at e;omega);obtain⟨j,c⟩:=I3 (show 0<=mf r id by omega);have o:j<r.M.length:=by unfold mf at c;omega
 have key:zzA 417 true [.val (some 2) (ay.enc .S r),.val none [I id]] (.tup [some 2,none]) ([I r.o,.s .own ((dele r.M j).map (aR.enc .S))]++[B true]):=by
  rw[c]at b;refine fO 30 [(5,267,[16,17,18,19,20,22,23,24,25,26,28,0,1,2,3,4,6,7,8,9,10,5,1006,1007,1008,1009,1010,11,12,13]),(1048581,6,[1])] Tryz.func417 rfl ?_ (.inl rfl)
  repeat'(first|refine gE ?_|refine HK.mk rfl (Ll r.M) rfl ?_|refine CS j rfl (by rw[I1];omega) (aK λ_=>rfl) O4 ?_|refine CW (j+1) ω (by rw[I1];omega) (aK λ_=>rfl) V4 ?_|refine CP (λ_=>rfl) (λ_=>rfl) (by rw[C2];omega) (by decide) ?_|refine CU (λ_=>rfl) (λ_=>rfl) (by rw[C2];omega) (by decide) ?_|refine Ap.dele (λ_=>rfl) (λ_=>rfl) ω (by decide) ?_)
  rfl
 have a:=key.fzR;have p:dB ([I r.o,.s .own ((dele r.M j).map (aR.enc .S))]++[B true])=ay.enc .S (js r id)++[B (!decide (mf r id<0))]:=by
  have:∀l:List aR,fzR (l.map (aR.enc .S))=l.map (aR.enc .S):=λl=>by
   induction l with
   | nil=>rfl
   | cons x xs q=>rw[I6,fzR,q,<-aR.enc_fz,x6]
  rw[n,c,W0 ω];simp[dB,fz,ay.enc,this]
 rw[p]at a;exact a
def Bh(r:ay)(id a v:Int)(m:Nat)(o:pb r m)(D:m<=1000)(h:0<=mf r id)(c:0<=a/\a<=(nth r.M (mf r id).toNat).W.length - 1)(p:0<=v/\v<=999):zzA 419 false [.val (some 2) (ay.enc .S r),.val none [I id],.val none [I a],.val none [I v]] (.tup [some 2,none]) (ay.enc .S (dy r id a v)++[B true]):=by
 have k:=o.sml D;have q:=o.len;have E:=f8 r k;have t:=iF r id k.1;obtain⟨J,K,L⟩:=ek (gw id) r.M h;obtain⟨j,l⟩:=I3 h;have d:j<r.M.length:=by unfold mf at l;omega
 have e:=ar d;have F:(nth r.M j).W.length<=1048576:=k.2 _ (au d);obtain⟨b,g⟩:=I3 c.1;have G:dy r id a v = {r with M:=r.M.set j ⟨(nth r.M j).Id,(nth r.M j).W.set b v⟩}:=by
  unfold dy;rw[CC ⟨h,c,p⟩,l,g];rfl
 rw[l]at t c;rw[g]at c |-;simp only[C3]at c;have u:=ar (xs:=(nth r.M j).W) (i:=b) ω;have w:=aM (b:Nat) 0 (((nth r.M j).W.length:Nat) - 1:Int);rw[O0 ω]at w;have y:=aM v 0 999;rw[O0 p]at y;have key:zzA 419 false [.val (some 2) (ay.enc .S r),.val none [I id],.val none [I (b:Nat)],.val none [I v]] (.tup [some 2,none]) (ay.enc .own (dy r id (b:Nat) v)++[B true]):=by
  have n:=nS (dy r id (b:Nat) v) (B true) trivial;rw[<-g,G]at n |-;have H:ay.enc .own {r with M:=r.M.set j ⟨(nth r.M j).Id,(nth r.M j).W.set b v⟩} = [I r.o,.s .own ((r.M.map (aR.enc .own)).set j [I (nth r.M j).Id,.s .own (((nth r.M j).W.map (rI .own)).set b [I v])])]:=by
   simp[ay.enc,aR.enc,rI,V6]
  rw[H]at n |-;rw[g];refine fO 48 [] Tryz.func419 rfl ?_ (.inr n)
  repeat'(first|refine gE ?_|with_reducible refine CK ω (aa e) ?_|refine Pu.two rfl rfl (aa e) rfl rfl rfl (aa u) rfl (V3 _) rfl ?_)
  rfl
 have C:=key.fzR;rw[bU,Ca]at C;exact C
def DT(r:ay)(id n:Int)(m:Nat)(l:pb r m)(u:m<=1000)(g:0<=mf r id)(c:1<=n/\n<=(nth r.M (mf r id).toNat).W.length):zzA 421 false [.val (some 2) (ay.enc .S r),.val none [I id],.val none [I n]] (.tup [some 2,none]) (ay.enc .S (eC r id n)++[B true]):=by
 have h:=l.sml u;have o:=l.len;have w:=f8 r h;have p:=iF r id h.1;obtain⟨E,F,G⟩:=ek (gw id) r.M g;obtain⟨j,i⟩:=I3 g;have a:j<r.M.length:=by unfold mf at i;omega
 have d:=ar a;have y:(nth r.M j).W.length<=1048576:=h.2 _ (au a);obtain⟨b,e⟩:=I3 (show 0<=n by omega);have C:eC r id n = {r with M:=r.M.set j ⟨(nth r.M j).Id,(nth r.M j).W.take b⟩}:=by
  unfold eC;rw[CC ⟨g,c⟩,i,e];rfl
 rw[i]at p c;rw[e]at c |-;simp only[C3]at c;have q:=aM (b:Nat) 1 (((nth r.M j).W.length:Nat):Int);rw[O0 ω]at q;have key:zzA 421 false [.val (some 2) (ay.enc .S r),.val none [I id],.val none [I (b:Nat)]] (.tup [some 2,none]) (ay.enc .own (eC r id (b:Nat))++[B true]):=by
  have k:=nS (eC r id (b:Nat)) (B true) trivial;rw[<-e,C]at k |-;have D:ay.enc .own {r with M:=r.M.set j ⟨(nth r.M j).Id,(nth r.M j).W.take b⟩} = [I r.o,.s .own ((r.M.map (aR.enc .own)).set j [I (nth r.M j).Id,.s .own (((nth r.M j).W.take b).map (rI .S))])]:=by
   simp only[ay.enc,V6]
   rfl
  rw[D]at k |-;rw[e];refine fO 46 [(5,270,[30,31,32,33,34,35,36,37,38,39,40,41,43,44,0,1,2,3,4,5,6,7,8,9,10,11,12,1000,1001,1002,13,14,15])] Tryz.func421 rfl ?_ (.inr k)
  repeat'(first|refine gE ?_|with_reducible refine CK ω (aa d) ?_|refine CS b rfl (by rw[I1];omega) (aK λ_=>rfl) O4 ?_|refine CU (λ_=>rfl) (λ_=>rfl) (by rw[C2];omega) (by decide) ?_|refine CP (λ_=>rfl) (λ_=>rfl) (by rw[C2];omega) (by decide) ?_|refine CM rfl rfl (aa d) rfl (O1 rfl) rfl ?_)
  rfl
 have t:=key.fzR;rw[bU,Ca]at t;exact t
def E9(r:ay)(id a v:Int)(m:Nat)(h:pb r m)(l:m<=1000)(u:0<=v/\v<=999):∃b:Bool,zzA 419 false [.val (some 2) (ay.enc .S r),.val none [I id],.val none [I a],.val none [I v]] (.tup [some 2,none]) (ay.enc .S (dy r id a v)++[B b]):=by
 by_cases i:0<=mf r id
 ·by_cases d:0<=a/\a<=(nth r.M (mf r id).toNat).W.length - 1
  ·exact⟨true,Bh r id a v m h l i d u⟩
  refine⟨false,?_⟩;have c:=h.sml l;have o:=h.len;have n:=f8 r c;have k:=iF r id c.1;obtain⟨C,D,E⟩:=ek (gw id) r.M i;obtain⟨j,p⟩:=I3 i;have e:j<r.M.length:=by unfold mf at p;omega
  have q:=ar e;have w:(nth r.M j).W.length<=1048576:=c.2 _ (au e);have y:dy r id a v=r:=by unfold dy;rw[CB (λx=>d x.2.1)]
  rw[p]at k d;simp only[C3]at d;have t:=aM a 0 (((nth r.M j).W.length:Nat) - 1:Int);rw[W0 d]at t;rw[y];have key:zzA 419 false [.val (some 2) (ay.enc .S r),.val none [I id],.val none [I a],.val none [I v]] (.tup [some 2,none]) (ay.enc .own r++[B false]):=by
   refine fO 48 [] Tryz.func419 rfl ?_ (.inr (nS r (B false) trivial))
   refine ZE ?_
   rfl
  have g:=key.fzR;rw[bU,Ca]at g;exact g
 refine⟨false,?_⟩;have c:=h.sml l;have n:=f8 r c;have k:=iF r id c.1;rw[show dy r id a v=r by unfold dy;rw[CB (λx=>i x.1)]];have key:zzA 419 false [.val (some 2) (ay.enc .S r),.val none [I id],.val none [I a],.val none [I v]] (.tup [some 2,none]) (ay.enc .own r++[B false]):=by
  refine fO 48 [] Tryz.func419 rfl ?_ (.inr (nS r (B false) trivial))
  refine ZE ?_
  rfl
 have g:=key.fzR;rw[bU,Ca]at g;exact g
def HE(r:ay)(id n:Int)(m:Nat)(g:pb r m)(k:m<=1000):∃b:Bool,zzA 421 false [.val (some 2) (ay.enc .S r),.val none [I id],.val none [I n]] (.tup [some 2,none]) (ay.enc .S (eC r id n)++[B b]):=by
 by_cases h:0<=mf r id
 ·by_cases c:1<=n/\n<=(nth r.M (mf r id).toNat).W.length
  ·exact⟨true,DT r id n m g k h c⟩
  refine⟨false,?_⟩;have a:=g.sml k;have o:=g.len;have l:=f8 r a;have i:=iF r id a.1;obtain⟨y,C,D⟩:=ek (gw id) r.M h;obtain⟨j,p⟩:=I3 h;have d:j<r.M.length:=by unfold mf at p;omega
  have q:=ar d;have u:(nth r.M j).W.length<=1048576:=a.2 _ (au d);have w:eC r id n=r:=by unfold eC;rw[CB (λx=>c x.2)]
  rw[p]at i c;simp only[C3]at c;have t:=aM n 1 (((nth r.M j).W.length:Nat):Int);rw[W0 c]at t;rw[w];have key:zzA 421 false [.val (some 2) (ay.enc .S r),.val none [I id],.val none [I n]] (.tup [some 2,none]) (ay.enc .own r++[B false]):=by
   refine fO 46 [(5,270,[30,31,32,33,34,35,36,37,38,39,40,41,43,44,0,1,2,3,4,5,6,7,8,9,10,11,12,1000,1001,1002,13,14,15])] Tryz.func421 rfl ?_ (.inr (nS r (B false) trivial))
   refine ZE ?_
   rfl
  have e:=key.fzR;rw[bU,Ca]at e;exact e
 refine⟨false,?_⟩;have a:=g.sml k;have l:=f8 r a;have i:=iF r id a.1;rw[show eC r id n=r by unfold eC;rw[CB (λx=>h x.1)]];have key:zzA 421 false [.val (some 2) (ay.enc .S r),.val none [I id],.val none [I n]] (.tup [some 2,none]) (ay.enc .own r++[B false]):=by
  refine fO 46 [(5,270,[30,31,32,33,34,35,36,37,38,39,40,41,43,44,0,1,2,3,4,5,6,7,8,9,10,11,12,1000,1001,1002,13,14,15])] Tryz.func421 rfl ?_ (.inr (nS r (B false) trivial))
  refine ZE ?_
  rfl
 have e:=key.fzR;rw[bU,Ca]at e;exact e
set_option maxHeartbeats 2000000
def LG(x:List Int)(e:l8 x):zzA 176 false [.val none (aG .S x)] .one (aG .own x):=by
 refine fO 22 [] Tryz.func176 rfl ?_ (.inr (bO x));have g:x.length<=1048576:=e;have a:(x.map (rI .own)).length=(List.replicate x.length ([I 0]:List C)).length:=by simp
 repeat'(first|refine gP ?_|refine Mk.mk _ rfl rfl ω (xi g (by decide)) rfl ?_)
 refine CF (ι:=Nat) (λi=>[(0,.G .one (aG .S x)),(3,.G .one [.s .own (yD (x.map (rI .own)) (List.replicate x.length [I 0]) i)]),(4,.G .one [I (i:Nat)])]) (λi=>i<=x.length) (λi=>x.length - i) 0 ?_ (X0 _) λi h=>?_
 ·rw[Hj]
  exact wA
 by_cases b:i<x.length
 ·obtain⟨y,d⟩ : ∃y,x[i]? = some y:=⟨_,X2 b⟩
  have c:=Kg a i (by simp;omega);rw[K6 b]at c
  repeat'(first|refine gE ?_|with_reducible refine CA c ?_|refine CM rfl rfl c rfl (V3 _) rfl ?_|refine CD (i+1) ω ω ?_)
  repeat'(first|exact trivial|rfl|exact CJ rfl (CJ (Z0 (C.s dA.own) (KD a (aa d))) trivial)|refine CJ ?_ ?_)
 refine ZE ?_
 rw[KV _ a (by simp;omega)]
 rfl
set_option maxHeartbeats 2000000
def LX(x:List Int)(left:Int)(b:0<=left)(h1:left<=1048576)(a:gr x):zzA 175 false [.val none (aG .S x),.val none [I left]] .one [I (R8 (szIntS x) left)]:=by
 refine fO 12 [] Tryz.func175 rfl ?_;have c:=a.1
 repeat'(first|refine gE ?_|with_reducible refine Bf.D (λh=>?_) (λh=>?_))
 all_goals exact Z0 (λz=>[I z]) (by unfold R8 szIntS;split<;>omega)
set_option maxHeartbeats 2000000
theorem M9(a b:List Int)(p:l8 a):zzA 178 false [.val none (aG .S a),.val none (aG .S b)] .one [B (decide (a=b))]:=by
 refine fO 26 [(6,9,[17,18,19,20,21,22,23,24,25])] Tryz.func178 rfl ?_;have r:a.length<=1048576:=p
 repeat'(first|refine gP ?_|with_reducible refine Bf.N (λh=>?_) (λh=>?_))
 ·refine Z0 (λz=>[B z]) (W0 λe=>?_).symm
  subst e;omega
 have k:a.length=b.length:=ω
 (conv=>whnf)
 refine CF (ι:=Nat) (λi=>[(0,.G .one (aG .S a)),(1,.G .one (aG .S b)),(5,.G .one [I (i:Nat)])]) (λi=>i<=a.length/\∀j,j<i->a[j]? = b[j]?) (λi=>a.length - i) 0 ?_ ⟨X0 _,λj q=>ω⟩ λi l=>?_
 ·exact wA
 obtain⟨l,c⟩:=l;by_cases g:i<a.length
 ·obtain⟨x,n⟩ : ∃x,a[i]? = some x:=⟨_,X2 g⟩
  obtain⟨y,o⟩ : ∃y,b[i]? = some y:=⟨_,X2 ω⟩
  repeat'(first|refine gE ?_|with_reducible (first|refine Bf.N (λh=>?_) (λh=>?_)|refine Bf.NB (λh=>?_) (λh=>?_)|refine Bf.D (λh=>?_) (λh=>?_)))
  all_goals first
   |(show [B false]=[B (decide (a=b))]
     refine Z0 (λz=>[B z]) (W0 λe=>?_).symm;subst e
     simp_all)
   | ((conv=>whnf)
      refine CD (i+1) ⟨ω,λj q=>?_⟩ ω ?_
      · rcases Nat.lt_or_ge j i with d|d
        · exact c j d
        obtain rfl:j=i:=ω
        rw[n,o]
        simp_all
      exact wA)
 refine ZE ?_
 refine Z0 (λz=>[B z]) (O0 ?_).symm;refine List.ext_getElem? λj=>?_
 rcases Nat.lt_or_ge j i with d|d
 ·exact c j d
 rw[z3 ω,z3 ω]
def oR(m:aN):∀(n i:Nat),i<n->((nth m.U i).length:Int)+(nth m.g i).length<=bI m n/\0<=bI m n
 | 0,i,h=>absurd h (Nat.not_lt_zero i)
 | n+1,i,h=>by
  have a:0<=bI m n:=by
   cases n with
   | zero=>exact C5 _
   | succ k=>exact(oR m (k+1) 0 ω).2
  simp only[bI];by_cases e:i=n
  ·subst e;omega
  have:=(oR m n i ω).1;omega
structure jw(m:aN):Prop where
 b4:1<=m.U.length/\m.U.length<=4
 i4:m.g.length=m.U.length
 bl:∀i,i<m.U.length->(nth m.U i).length<=30
 il:∀i,i<m.U.length->(nth m.g i).length<=30
def jw.of{m:aN}(h:bB m=true):jw m:=by
 obtain⟨⟨b,c,d⟩,-,e⟩:=dH.1 h;exact⟨⟨b,c⟩,d,λi a=>by have:=(oR m m.U.length i a).1;omega,λi a=>by have:=(oR m m.U.length i a).1;omega⟩
def jw.sml{m:aN}(h:jw m):aN.sml m:=by
 have c:=h.b4;have d:=h.i4;refine⟨⟨ω,λl a=>?_⟩,⟨ω,λl a=>?_⟩⟩
 ·obtain⟨i,b,rfl⟩:=bu a
  have:=h.bl i b;exact⟨ω,λ_ _=>trivial⟩
 obtain⟨i,b,rfl⟩:=bu a;have:=h.il i ω;show(nth m.g i).length<=1048576;omega
def tV(m:aN)(k:Int)(a:aN.sml m):zzA 520 false [.val (some 2) (aN.enc .S m),.val none [I k]] .one [B (bB m&&decide (0<=k/\k<=m.U.length - 1))]:=by
 have b:=mE m a;have c:m.U.length<=1048576:=a.1.1;cases e:bB m<;>rw[e]at b
 all_goals
  refine fO 15 [] Tryz.func520 rfl ?_
  repeat'(first|refine gP ?_|refine C8 (aM k 0 (m.U.length - 1:Int)) ?_)
  all_goals rfl
def QX{m:aN}(a:f<m.U.length):m.U[f]? = some (nth m.U f):=ar a
def uL(m:aN)(f:Nat)(p:cJ):aN.enc .own (f6 m f p)=[.s .own ((m.U.map (bJ .own)).set f (bJ .own (nth m.U f++[p]))),.s .own (m.g.map (aG .own))]:=by simp[aN.enc,f6,V6]
def BM{m:aN}(h:jw m)(c:f<m.U.length)(p:cJ):aN.sml (f6 m f p):=by
 have d:=h.b4;have b:=h.sml;refine⟨⟨by simp only[f6,Z1];omega,λl a=>?_⟩,b.2⟩;rcases Y6 a with a|rfl
 ·exact b.1.2 l a
 have:=h.bl f c;exact⟨by simp;omega,λ_ _=>trivial⟩
def Mn(m:aN)(f:Nat)(p:cJ)(j:bB m=true)(g:f<m.U.length):zzA 512 false [.val (some 2) (aN.enc .S m),.val none [I (f:Nat)],.val (some 2) (cJ.enc .S p)] (.tup [some 2,none]) (aN.enc .own (if bB (f6 m f p)=true then f6 m f p else m)++[B (bB (f6 m f p))]):=by
 have c:=jw.of j;have k:=c.sml;have q:=c.b4;have h:=tV m f k;rw[j,O0 ω]at h;have l:=gg m k;have b:=BM c g p;have i:=mE (f6 m f p) b;have n:=gg (f6 m f p) b;have a:=QX g;have o:=c.bl f g;have d:=Cf (f6 m f p);rw[uL]at d;cases e:bB (f6 m f p)<;>rw[e]at i
 ·rw[CB (by simp)]
  refine fO 35 [(4,267,[16,17,18,19,20,21,22,23,24,25,27,0,1,2,3,4,5,6,7,8,9,10,1000,1001,1002,11,12])] Tryz.func512 rfl ?_ (.inr (aB (Ce _) ⟨trivial,trivial⟩))
  repeat'(first|refine gP ?_|refine CA (cy a) ?_|refine CE rfl (cy a) rfl ?_|refine Lq.one rfl rfl (aa a) rfl (O1 rfl) rfl rfl ?_|refine CM rfl rfl (cy a) rfl (O1 rfl) (show [C.s dA.own ((m.U.map (bJ .own)).set f (bJ .own (nth m.U f++[p]))),C.s .own (m.g.map (aG .own))]=_ from by simp only[List.set_cons_zero,List.set_set,C3];rfl) ?_|refine CV (aK λ_=>rfl) rfl (by simp;omega) (by decide) (dR _ _ _) ?_|refine CG (i) ⟨⟨rfl,d⟩,trivial⟩ ?_)
  rfl
 rw[CC rfl];refine fO 35 [(4,267,[16,17,18,19,20,21,22,23,24,25,27,0,1,2,3,4,5,6,7,8,9,10,1000,1001,1002,11,12])] Tryz.func512 rfl ?_ (.inr (aB (Ce _) ⟨trivial,trivial⟩))
 repeat'(first|refine gP ?_|refine CA (cy a) ?_|refine CE rfl (cy a) rfl ?_|refine Lq.one rfl rfl (aa a) rfl (O1 rfl) rfl rfl ?_|refine CM rfl rfl (cy a) rfl (O1 rfl) (show [C.s dA.own ((m.U.map (bJ .own)).set f (bJ .own (nth m.U f++[p]))),C.s .own (m.g.map (aG .own))]=_ from by simp only[List.set_cons_zero,List.set_set,C3];rfl) ?_|refine CV (aK λ_=>rfl) rfl (by simp;omega) (by decide) (dR _ _ _) ?_|refine CG (i) ⟨⟨rfl,d⟩,trivial⟩ ?_|refine CG (n) ⟨⟨rfl,d⟩,trivial⟩ ?_)
 rfl
def HM(m:aN)(f:Int)(a:bB m=true)(d:¬(0<=f/\f<=m.U.length - 1)):zzA 422 false [.val (some 2) (aN.enc .S m),.val none [I f]] (.tup [some 2,none]) (aN.enc .own m++[B false]):=by
 have e:=jw.of a;have b:=e.sml;have c:=tV m f b;rw[a,W0 d]at c;have g:=gg m b;refine fO 60 [(5,267,[31,32,33,34,35,36,37,38,39,40,42,0,1,2,3,4,5,6,7,8,9,10,1000,1001,1002,11,12]),(6,270,[43,44,45,46,47,48,49,50,51,52,53,54,55,57,0,1,2,3,4,5,6,7,8,9,10,11,12,13,1000,1001,1002,1003,14,15])] Tryz.func422 rfl ?_ (.inr (aB (Ce _) ⟨trivial,trivial⟩))
 refine ZP ?_
 rfl
def zy(m:aN)(f t:Nat)(a:(nth (nth m.U f) 0).To=t):aN.enc .own (fI m f)=[.s .own ((m.U.map (bJ .own)).set f [.s .own (((nth m.U f).drop 1).map (cJ.enc .S))]),.s .own ((m.g.map (aG .own)).set t (aG .own (nth m.g t++[(nth (nth m.U f) 0).Addr])))]:=by
 unfold aN.enc fI;simp only[V6,a,C3]
 rfl
def FO(m:aN)(f:Nat)(h:bB m=true)(i:f<m.U.length):zzA 422 false [.val (some 2) (aN.enc .S m),.val none [I (f:Nat)]] (.tup [some 2,none]) (aN.enc .own (if 0<(nth m.U f).length then fI m f else m)++[B (decide (0<(nth m.U f).length))]):=by
 have d:=jw.of h;have u:=d.sml;have K:=d.b4;have D:=d.i4;have j:=tV m f u;rw[h,O0 ω]at j;have w:=gg m u;have a:=QX i;have F:=d.bl f i;by_cases e:0<(nth m.U f).length
 ·rw[CC e,O0 e]
  have g:=((dH.1 h).2.1 f i).1 _ (au e);obtain⟨t,k⟩:=I3 g.1;have l:t<m.g.length:=ω
  have y:=ar e;have c:=ar l;have G:=d.il t ω;have n:=(jw.of (HJ h i e)).sml;have H:=gg (fI m f) n;have o:=Cf (fI m f);rw[zy m f t k]at o;have q:=aB (b:=[B true]) (Ce (fI m f)) ⟨trivial,trivial⟩;generalize L:nth (nth m.U f) 0=p at *;obtain⟨M,J⟩:=p;simp only at k g o;subst k;refine fO 60 [(5,267,[31,32,33,34,35,36,37,38,39,40,42,0,1,2,3,4,5,6,7,8,9,10,1000,1001,1002,11,12]),(6,270,[43,44,45,46,47,48,49,50,51,52,53,54,55,57,0,1,2,3,4,5,6,7,8,9,10,11,12,13,1000,1001,1002,1003,14,15])] Tryz.func422 rfl ?_ (.inr q)
  repeat'(first|refine gB ?_|with_reducible refine Bf.E (λr=>?_) (λr=>?_)|refine CK (by decide) (aa y) ?_|refine CA (cy a) ?_|refine CA (cy c) ?_|refine CE rfl (cy a) rfl ?_|refine CE rfl (cy c) rfl ?_|refine Lq.one rfl rfl (aa c) rfl (O1 rfl) rfl rfl ?_|refine CW 1 rfl (by rw[I1];omega) (aK λ_=>rfl) V4 ?_|refine CU (λ_=>rfl) (λ_=>rfl) (by rw[Y3];omega) (by decide) ?_|refine CP (λ_=>rfl) (λ_=>rfl) (by rw[Y3];omega) (by decide) ?_|refine CM rfl rfl (aa a) rfl (O1 rfl) rfl ?_|refine CM rfl rfl (cy c) rfl (O1 rfl) (show [C.s dA.own ((m.U.map (bJ .own)).set f [.s .own (((nth m.U f).drop 1).map (cJ.enc .S))]),C.s .own ((m.g.map (aG .own)).set t (aG .own (nth m.g t++[J])))]=_ from by simp only[List.set_cons_zero,List.set_cons_succ,List.set_set,C3];rfl) ?_|refine CV (aK λ_=>rfl) rfl (by simp;omega) (by decide) (dR _ _ _) ?_|refine CG (H) ⟨⟨rfl,o⟩,trivial⟩ ?_)
  rfl
 rw[CB e,W0 e];refine fO 60 [(5,267,[31,32,33,34,35,36,37,38,39,40,42,0,1,2,3,4,5,6,7,8,9,10,1000,1001,1002,11,12]),(6,270,[43,44,45,46,47,48,49,50,51,52,53,54,55,57,0,1,2,3,4,5,6,7,8,9,10,11,12,13,1000,1001,1002,1003,14,15])] Tryz.func422 rfl ?_ (.inr (aB (Ce _) ⟨trivial,trivial⟩))
 repeat'(first|refine gB ?_|with_reducible refine Bf.E (λr=>?_) (λr=>?_))
 rfl
def Mb.set(rows:List (List C))(i:Nat){r r':List C}(h:MZ r r'):Mb (.s .own (rows.set i r)) (.s .own (rows.set i r')):=by
 refine .own_ _ _ (by simp) (λj a b d f=>?_) (λj l a b c o d f n g=>?_)
 ·by_cases e:i=j
  ·subst e
   have k:i<rows.length:=by have:=(Z2.1 d).1;simpa using this
   rw[t4 k]at d f;cases d;cases f;exact h.1
  rw[List.getElem?_set_ne e]at d f;rw[d]at f;cases f;rfl
 by_cases e:i=j
 ·subst e
  have k:i<rows.length:=by have:=(Z2.1 d).1;simpa using this
  rw[t4 k]at d f;cases d;cases f;exact h.2 l c o n g
 rw[List.getElem?_set_ne e]at d f;rw[d]at f;cases f;rw[n]at g;cases g;exact .rfl_ _
def E6(m:aN)(t:Nat)(d:bB m=true)(h:t<m.U.length):zzA 521 false [.val (some 2) (aN.enc .S m),.val none [I (t:Nat)]] (.tup [some 2,none]) (aN.enc .own (iK m t)++aG .own (nth m.g t)):=by
 have b:=jw.of d;have e:=b.sml;have o:=b.b4;have j:=b.i4;have g:=tV m t e;rw[d,O0 ω]at g;have k:=gg m e;have c:=ar (xs:=m.g) (i:=t) ω;have l:=b.il t h;have a:=aB (Ce (iK m t)) (bO (nth m.g t));have n:aN.enc .own (iK m t)=[.s .own (m.U.map (bJ .own)),.s .own ((m.g.map (aG .own)).set t [.s .own []])]:=by simp[aN.enc,iK,V6];rfl
 rw[n]at a |-;refine fO 28 [(5,263,[20,21,22,23,24,25,26,0,1,2,3,4,5,6,7,1000,8,9])] Tryz.func521 rfl ?_ (.inr a)
 repeat'((conv=>whnf);first|with_reducible (first|refine Lm ?_|refine Wm ω ?_|refine CA (aa c) ?_|refine Bn ?_|refine jo.dk rfl ?_)|refine Bt ?_|refine Bu ?_|refine C9 ?_|refine C8 (g) ?_|refine C8 (k) ?_|refine CE rfl (aa c) rfl ?_|refine CM rfl rfl (aa c) rfl (O1 rfl) rfl ?_|refine CU (λ_=>rfl) (λ_=>rfl) ω (by decide) ?_|refine CP (λ_=>rfl) (λ_=>rfl) ω (by decide) ?_|refine C9 ?_)
 exact .cons (.rfl_ _) (.cons (Mb.set _ _ (.cons .z_ .nil)) (.cons (.rfl_ _) .nil))
def EZ(now:Int):∀{l:List aQ}{i:Nat},i<=l.length->(∀j,j<i->(nth l j).b2<now - 100)->(i<l.length->¬(nth l i).b2<now - 100)->ou now l=i
 | [],i,h,_,_=>by simp at h;subst h;rfl
 | x::xs,0,_,_,h=>by
  unfold ou;exact CB (h (by simp))
 | x::xs,i+1,b,a,c=>by
  unfold ou;refine(CC (a 0 ω)).trans ?_;rw[EZ now (l:=xs) (i:=i) (by simp at b;omega) (λj d=>a (j+1) ω) (λe=>c (by simp;omega))]
def Hv(q:bt)(now:Int):List C:=bt.enc .own ⟨q.b3,q.q.drop (ou now q.q)⟩++cr .own (q.q.take (ou now q.q))
def wP(q:bt)(now:Int)(g:fQ q=true)(G:q.q.length<=4096)(u:0<=now/\now<=1000000):zzA 425 false [.val (some 2) (bt.enc .S q),.val none [I now],.val none [I 100]] (.tup [some 2,none]) (Hv q now):=by
 have w:bt.sml q:=⟨ω,λ_ _=>trivial⟩
 have n:=qm q w;rw[g]at n;have o:=aM now 0 1000000;rw[O0 u]at o;have p:=aM 100 0 1000000;rw[O0 (by decide)]at p;have h:=(iz.1 g).1;have a:g0 (Hv q now):=aB (bt.enc_fr _) (m0 _);have y:∀i,i<q.q.length->0<=(nth q.q i).b2:=λi b=>(h _ (au b)).2.2.2
 unfold Hv at a |-;generalize B:ou now q.q=k at a |-;refine fO 59 [(6,270,[44,45,46,47,48,49,50,51,53,54,55,56,57,58,0,1,2,3,4,5,6,7,9,10,11,12,13,14,8,1009,1010,1011,1012,1013,1014,15,16])] Tryz.func425 rfl ?_ (.inr a)
 refine ZP ?_
 refine CF (ι:=Nat) (λi=>[(1,.G .one [I (now)]),(2,.G .one [I (100)]),(3,.G .box (bt.enc .S q)),(6,.G .box [I 0,.z]),(8,.G .one [I ((i:Nat):Int)])]) (λi=>i<=q.q.length/\∀j,j<i->(nth q.q j).b2<now - 100) (λi=>q.q.length - i) (0) ?_ (⟨X0 _,λj C=>ω⟩) λi b=>?_
 ·exact wC
 obtain⟨b,r⟩:=b;by_cases l:i<q.q.length/\(nth q.q i).b2<now - 100
 ·have c:=ar l.1
  refine ZE ?_
  (refine CD (i+1) ⟨ω,λj C=>by by_cases e:j=i;(subst e;exact l.2);exact r j ω⟩ ω ?_;(exact wC))
 have d:=EZ now (i:=i) b r (λE F=>l ⟨E,F⟩);rw[B]at d;subst d;by_cases t:k<q.q.length
 ·have c:=ar t
  have:=y k t
  repeat'(first|refine gE ?_|with_reducible refine Bf.D (λg=>?_) (λg=>?_)|refine CS k rfl (by rw[I1];omega) (aK λ_=>rfl) O4 ?_|refine CW k rfl (by rw[I1];omega) (aK λ_=>rfl) V4 ?_|refine CU (λ_=>rfl) (λ_=>rfl) (by rw[C2];omega) (by decide) ?_|refine CU (λ_=>rfl) (λ_=>rfl) (by rw[Y3];omega) (by decide) ?_|refine CP (λ_=>rfl) (λ_=>rfl) (by rw[Y3];omega) (by decide) ?_)
  rfl
 repeat'(first|refine gE ?_|refine CS k rfl (by rw[I1];omega) (aK λ_=>rfl) O4 ?_|refine CW k rfl (by rw[I1];omega) (aK λ_=>rfl) V4 ?_|refine CU (λ_=>rfl) (λ_=>rfl) (by rw[C2];omega) (by decide) ?_|refine CU (λ_=>rfl) (λ_=>rfl) (by rw[Y3];omega) (by decide) ?_|refine CP (λ_=>rfl) (λ_=>rfl) (by rw[Y3];omega) (by decide) ?_)
 rfl
def Ff(h:ac)(n:Int)(g:bg h [])(r:0<=n/\n<=1000)(p:h.a8+n<=1000000):zzB 278 false [.ptr (bK h),.val none [I n]] [.ptr (bK (tick h n)),.val none [I n]] .one [I ((ly h n).length:Nat)]:=by
 have a:=g.nums;unfold cg at a;rw[C0]at a;have t:=g.lens.quar;have i:=wP h.a3 (h.a8+n) g.quar ω ⟨ω,p⟩;have j:=g.aged r.1 p;unfold Hv at i;unfold tick ly aged at *;have l:(h.a3.q.take (ou (h.a8+n) h.a3.q)).length<=4096:=by rw[C2];omega
 rw[I1];generalize h.a3.q.take (ou (h.a8+n) h.a3.q)=out at i j l |-;generalize h.a3.q.drop (ou (h.a8+n) h.a3.q)=rest at i j |-;refine fM 48 [(426,[2,0])] [(2,269,[18,19,20,21,22,23,24,25,26,17,27,28,5,0,1,2,3,4,5,6,7,8,9,10,11,12,13,1011,14])] [(0,0),(0,0)] Tryz.func278 rfl (λu q=>?_)
 repeat'(first|refine gP ?_|refine CG (i) ⟨⟨rfl,bt.enc_fz h.a3⟩,⟨rfl,rfl⟩,⟨rfl,rfl⟩,trivial⟩ ?_)
 refine CF (ι:=Nat) (λk=>[(0,.G .box (bK (freeAs {h with a8:=h.a8+n,a3:=⟨h.a3.b3,rest⟩} ((out.map (·.Addr)).take k)))),(6,.G .one (cr .own out)),(7,.G .one [I ((k:Nat):Int)])]) (λk=>k<=out.length) (λk=>out.length - k) (0) ?_ (X0 _) λk y=>?_
 ·exact wC
 by_cases o:k<out.length
 ·have b:=ar o
  have c:k<(out.map (·.Addr)).length:=by rw[I1];exact o
  have d:nth (out.map (·.Addr)) k=(nth out k).Addr:=b8 (by rw[W3,ar o];rfl);have e:bg (freeAs {h with a8:=h.a8+n,a3:=⟨h.a3.b3,rest⟩} ((out.map (·.Addr)).take k)) (nth (out.map (·.Addr)) k::(out.map (·.Addr)).drop (k+1)):=by
   refine bg.freeAs ?_;rw[<-fN c,List.take_append_drop];rw[List.append_nil]at j;exact j
  rw[d]at e;have w:=oI _ _ _ e
  refine ZE ?_
  (refine CD (k+1) ω ω ?_)
  rw[qz _ _ _ c,d];exact wC
 obtain rfl:k=out.length:=ω
 rw[V7 (by rw[I1];omega)]
 refine ZE ?_
 refine CH rfl rfl ?_;exact wC
def vY(t:Nat)(h:ac)(az:List Int)(k:Nat)(a:k<az.length):recycs t h (az.take (k+1))=recyc t (recycs t h (az.take k)) (nth az k):=by
 unfold recycs;rw[X5,ar a,Option.toList_some,List.foldl_append];rfl
def wW(h:ac)(t:Nat)(a:bg h [])(i:t<h.T.length):zzB 423 false [.ptr (bK h),.val none [I (t:Nat)]] [.ptr (bK (collect h t)),.val none [I (t:Nat)]] .one [I ((nth h.j.g t).length:Nat)]:=by
 have l:=a.nc;have n:=(dH.1 a.mail).1.2.2;have j:=E6 h.j t a.mail ω;have c:=(jw.of a.mail).il t ω;have d:=a.coll (t:=t) ω;rw[List.append_nil]at d;unfold collect;generalize nth h.j.g t=out at j d c |-;refine fM 36 [(515,[2,0,0])] [] [(0,0),(0,0)] Tryz.func423 rfl (λu q=>?_)
 repeat'(first|refine gP ?_|refine CG (j) ⟨⟨rfl,Cf h.j⟩,⟨rfl,rfl⟩,trivial⟩ ?_)
 refine CF (ι:=Nat) (λk=>[(0,.G .box (bK (recycs t {h with j:=iK h.j t} (out.take k)))),(1,.G .one [I ((t:Nat):Int)]),(6,.G .one (aG .own out)),(7,.G .one [I ((k:Nat):Int)])]) (λk=>k<=out.length) (λk=>out.length - k) (0) ?_ (X0 _) λk p=>?_
 ·exact wC
 by_cases e:k<out.length
 ·have b:=ar e
  have g:bg (recycs t {h with j:=iK h.j t} (out.take k)) (nth out k::out.drop (k+1)):=by
   refine bg.recycs ?_ i;rw[<-fN e,List.take_append_drop];exact d
  have o:=pe _ _ t _ g (by rw[(f7 t _ _).1];exact i)
  refine ZE ?_
  (refine CD (k+1) ω ω ?_)
  rw[vY _ _ _ _ e];exact wC
 obtain rfl:k=out.length:=ω
 rw[I5]
 refine ZE ?_
 refine CH rfl rfl ?_;exact wC
def ta(a:Int)(o:bi):Bool:=decide (o.Addr<=a/\a<o.Addr+o.a1)
def JG(h:ac)(E:List Int)(a:Int)(d:bg h E):zzB 517 false [.ptr (bK h),.val none [I a]] [.ptr (bK h),.val none [I a]] .one [I (cj (ta a) h.M)]:=by
 have r:=d.lens.objs;refine fM 47 [] [(4,29,[15,16,17,18,19,20,21,22,23,24,25,26,27,28,29,30,31,32,33,34,35,36,37,38,39,40,41,42,43])] [(0,0),(0,0)] Tryz.func517 rfl (λu q=>?_)
 refine ZP ?_
 refine CF (ι:=Nat) (λi=>[(0,.G .box (bK h)),(1,.G .one [I (a)]),(5,.G .one [I ((i:Nat):Int)])]) (λi=>i<=h.M.length/\∀(j:Nat)(z:bi),j<i->h.M[j]? = some z->ta a z=false) (λi=>h.M.length - i) (0) ?_ (⟨X0 _,λj z C=>ω⟩) λi d=>?_
 ·exact wC
 obtain⟨t,c⟩:=d;by_cases e:i<h.M.length
 ·have b:=ar e
  have w:=nh ‹bg h E› (au e);have y:0<=(nth h.M i).a1/\(nth h.M i).a1<=1000:=by
   rcases bg.oow ‹bg h E› _ (au e) with⟨s,B,F,G⟩|⟨l,g,k,o⟩
   ·have H:=aL ((bg.L ‹bg h E›).sok s B)
    have:=oQ (n:=(nth h.M i).a1) ω;omega
   have J:=cF ((bg.L ‹bg h E›).lok l g);omega
  by_cases k:(nth h.M i).Addr<=a
  ·by_cases o:a<(nth h.M i).Addr+(nth h.M i).a1
   ·refine ZE ?_
    refine CH rfl (Z0 (λz=>[I z]) (dw b (O0 ⟨k,o⟩) c).symm) ?_;exact wC
   repeat'(first|refine gE ?_|with_reducible refine Bf.D (λp=>?_) (λp=>?_))
   (refine CD (i+1) ⟨ω,ep b (W0 λx=>o x.2) c⟩ ω ?_;(exact wC))
  repeat'(first|refine gE ?_|with_reducible refine Bf.D (λp=>?_) (λp=>?_))
  (refine CD (i+1) ⟨ω,ep b (W0 λx=>k x.1) c⟩ ω ?_;(exact wC))
 refine ZE ?_
 refine CH rfl (Z0 (λz=>[I z]) (fg ω c).symm) ?_;exact wC
def KG(h:ac)(a v:Int):bK {h with H:=hO h.H a v} = (bK h).set 0 (.s .own ((h.H.F.V.W.map (aG .own)).set (ax h.H.F.Q (a / 16)).e.toNat ((aG .own (nth h.H.F.V.W (eM h.H a))).set 0 (.s .own (((nth h.H.F.V.W (eM h.H a)).map (rI .own)).set (a % 16).toNat (splice (rI .own (nth (nth h.H.F.V.W (eM h.H a)) (a % 16).toNat)) 0 [I v])))))):=by
 simp[bK,hO,setCell,V6,aG,splice,eM,rI]
def yk{p:α->Bool}{xs:List α}{x:α}(a:x∈xs)(b:p x=true):0<=cj p xs:=by
 have:=lK p xs;rw[show xs.any p=true from z4.2 ⟨x,a,b⟩,C0]at this;exact this
def Bk(h:ac)(i:Nat)(j v:Int)(e:bg h [])(C:i<h.M.length)(D:0<=j/\j<=(nth h.M i).a1 - 1):zzB 418 false [.ptr (bK h),.val none [I ((nth h.M i).Addr+j)],.val none [I v]]
  [.ptr (bK (if(ax h.H.F.Q (((nth h.M i).Addr+j) / 16)).k=1\/¬(0<=v/\v<=999) then h else {h with H:=hO h.H ((nth h.M i).Addr+j) v})),.val none [I ((nth h.M i).Addr+j)],.val none [I v]] .one [I (if(ax h.H.F.Q (((nth h.M i).Addr+j) / 16)).k=1 then 2 else if ¬(0<=v/\v<=999) then 3 else 0)]:=by
 obtain⟨E,J,K⟩:=jH e (au C) D;have F:0<=cj (ta ((nth h.M i).Addr+j)) h.M:=yk (au C) (O0 ω);have p:=JG h [] ((nth h.M i).Addr+j) e;have r:=aZ e.ker;have t:=dh h.H.F.Q (((nth h.M i).Addr+j) / 16) r.1.2;have n:=aM v 0 999;generalize L:(nth h.M i).Addr+j=a at *;have b:0<=a/\a<512:=ω
 obtain⟨-,-,-,G,M⟩:=bM e.ker E;have H:=(aY.1 (aH.1 e.ker).2.1).2.2.1;have k:eM h.H a<h.H.F.V.W.length:=by unfold eM;omega
 have d:h.H.F.V.W[(ax h.H.F.Q (a / 16)).e.toNat]? = some (nth h.H.F.V.W (eM h.H a)):=ar k;have w:=e.lens.row _ (au k);have l:=ar (xs:=nth h.H.F.V.W (eM h.H a)) (i:=(a % 16).toNat) (by rw[w];omega);have B:a.tmod 16=a % 16:=ew b.1;refine fM 42 [(517,[2,0])] [(8,14,[27,28,29,30,31,32,33,34,35,36,37,38,39,40])] [(0,0),(0,0),(0,0)] Tryz.func418 rfl (λu q=>?_);by_cases o:(ax h.H.F.Q (a / 16)).k=1
 ·rw[CC (Or.inl o),CC o]
  repeat'(first|refine gB ?_|refine CG (t) ⟨⟨rfl,CZ _⟩,⟨rfl,rfl⟩,trivial⟩ ?_|refine CN (by decide) ?_|refine CL (kH b) ?_)
  refine CH rfl rfl ?_;exact wC
 rw[CB (c:=_=(1:Int)) o];by_cases g:0<=v/\v<=999
 ·rw[O0 g]at n
  rw[CB (c:=¬(0<=v/\v<=999)) (I4 g),CB (c:=_\/¬(0<=v/\v<=999)) (λy=>y.elim o λy=>y g)]
  repeat'(first|refine gB ?_|refine CG (t) ⟨⟨rfl,CZ _⟩,⟨rfl,rfl⟩,trivial⟩ ?_|refine CN (by decide) ?_|refine CL (kH b) ?_|refine CQ B ?_|refine CK G (aa d) ?_|refine CK ω (aa l) ?_|refine Pu.two rfl rfl (aa d) rfl rfl rfl (aa l) rfl (V3 _) (KG h a v) ?_)
  refine CH rfl rfl ?_;exact wC
 rw[W0 g]at n;rw[CC (Or.inr g),CC g]
 repeat'(first|refine gB ?_|refine CG (t) ⟨⟨rfl,CZ _⟩,⟨rfl,rfl⟩,trivial⟩ ?_|refine CN (by decide) ?_|refine CL (kH b) ?_)
 refine CH rfl rfl ?_;exact wC
def iL(l:aD)(n:Int):aE:=if(n+15) / 16<l.w then⟨l.R+(n+15) / 16,l.w - (n+15) / 16⟩ else⟨0,0⟩
def zl(l:aD)(n:Int)(d:bZ l=true):zzA 518 false [.val (some 3) (aD.enc .S l),.val none [I n]] (.tup [some 3,some 2,none]) (if 9<=n/\n<=l.a1 then aD.enc .own (trimL l n)++aE.enc .own (iL l n)++[B true] else aD.enc .own l++[I 0,I 0]++[B false]):=by
 have b:=nL l;rw[d]at b;have a:=aM n 9 l.a1;have g:=d;unfold bZ at g;rw[C0]at g;by_cases e:9<=n/\n<=l.a1
 ·rw[O0 e]at a
  rw[CC e];have c:=ne n;rw[show er n=(n+15) / 16 by unfold er;rw[CC ω]]at c;unfold iL;by_cases h:(n+15) / 16<l.w
  ·rw[CC h]
   refine fO 43 [(7,261,[37,38,39,40,42,0,1,2,3,5,4,1005,6,1005,7,8])] Tryz.func518 rfl ?_ (.inr ⟨trivial,trivial,trivial,trivial,trivial,trivial,trivial⟩)
   refine ZE ?_
   rfl
  rw[CB h];refine fO 43 [(7,261,[37,38,39,40,42,0,1,2,3,5,4,1005,6,1005,7,8])] Tryz.func518 rfl ?_ (.inr ⟨trivial,trivial,trivial,trivial,trivial,trivial,trivial⟩)
  refine ZE ?_
  rfl
 rw[W0 e]at a;rw[CB e];refine fO 43 [(7,261,[37,38,39,40,42,0,1,2,3,5,4,1005,6,1005,7,8])] Tryz.func518 rfl ?_ (.inr ⟨trivial,trivial,trivial,trivial,trivial,trivial,trivial⟩)
 refine ZP ?_
 rfl
def EF(h:ac)(t a:Int)(c:h.T.length<=4)(d:¬(0<=t/\t<=h.T.length - 1)):zzB 416 false [.ptr (bK h),.val none [I t],.val none [I a]] [.ptr (bK h),.val none [I t],.val none [I a]] .one [I 1]:=by
 have b:=aM t 0 (h.T.length - 1:Int);rw[W0 d]at b;refine fM 148 [(511,[2,0]),(513,[2,0]),(515,[2,0,0]),(510,[2,0])] [(15,269,[68,69,70,71,72,73,74,75,77,67,78,79,11,0,1,2,3,4,5,6,7,13,8,1000,1001,1002,1003,1004,1013,9,10,11,12,14,1012,15]),(22,15,[92,93,94,95,96,97,98,99,100,101,102,103,104,105,106]),(25,271,[116,117,118,119,120,121,122,123,124,125,127,115,128,129,14,0,1,2,3,4,5,6,7,8,9,15,10,1000,1001,1002,1003,1015,11,12,13,14,16,1014,17])] [(0,0),(0,0),(0,0)] Tryz.func416 rfl (λu q=>?_)
 refine ZP ?_
 refine CH rfl rfl ?_;exact wC
def G3(h:ac)(i t:Nat)(a:bg h [])(j:i<h.M.length)(U:t<h.T.length)(K:(nth h.M i).a0≠t):zzB 416 false [.ptr (bK h),.val none [I (t:Nat)],.val none [I (nth h.M i).Addr]] [.ptr (bK (freeT h t i).1),.val none [I (t:Nat)],.val none [I (nth h.M i).Addr]] .one [I (freeT h t i).2]:=by
 have F:=au j;obtain⟨-,L,d⟩:=a.objAt F;have N:jB h (nth h.M i).Addr=i:=by
  have V:=(a.objAt F).1;exact gz (f:=(·.Addr)) (gp a.osr) V j (by rw[L])
 rw[N]at d;have b:=nh a F;have W:=a.onu _ F;have n:=a.lens;have X:=n.objs;have Y:=a.nc;have Z:=jw.of a.mail;have hb4:=Z.b4;have o:=aM (t:Nat) 0 (h.T.length - 1:Int);rw[O0 ω]at o;have p:=sO h (nth h.M i).Addr ω;rw[d]at p;have e:=ar j;have G:=lh (nth h.M i).a1;have O:=aZ a.ker;have P:=dh h.H.F.Q ((nth h.M i).Addr / 16) O.1.2;unfold freeT;by_cases H:aS (nth h.M i).a1<0
 ·rw[CC H]
  have c3:=ru h i a j H;refine fM 148 [(511,[2,0]),(513,[2,0]),(515,[2,0,0]),(510,[2,0])] [(15,269,[68,69,70,71,72,73,74,75,77,67,78,79,11,0,1,2,3,4,5,6,7,13,8,1000,1001,1002,1003,1004,1013,9,10,11,12,14,1012,15]),(22,15,[92,93,94,95,96,97,98,99,100,101,102,103,104,105,106]),(25,271,[116,117,118,119,120,121,122,123,124,125,127,115,128,129,14,0,1,2,3,4,5,6,7,8,9,15,10,1000,1001,1002,1003,1015,11,12,13,14,16,1014,17])] [(0,0),(0,0),(0,0)] Tryz.func416 rfl (λu q=>?_)
  repeat'(first|refine gE ?_|with_reducible refine Bf.D (λc=>?_) (λc=>?_)|refine CG (p) ⟨⟨rfl,bN h⟩,⟨rfl,rfl⟩,trivial⟩ ?_)
  refine CH rfl rfl ?_;exact wC
 rw[CB H];obtain⟨s1,s2,s3,s4⟩:=TC.of a (au j) H;by_cases J:(ax (tbl h) ((nth h.M i).Addr / 16)).k=1
 ·rw[CC J]
  unfold tbl at J;refine fM 148 [(511,[2,0]),(513,[2,0]),(515,[2,0,0]),(510,[2,0])] [(15,269,[68,69,70,71,72,73,74,75,77,67,78,79,11,0,1,2,3,4,5,6,7,13,8,1000,1001,1002,1003,1004,1013,9,10,11,12,14,1012,15]),(22,15,[92,93,94,95,96,97,98,99,100,101,102,103,104,105,106]),(25,271,[116,117,118,119,120,121,122,123,124,125,127,115,128,129,14,0,1,2,3,4,5,6,7,8,9,15,10,1000,1001,1002,1003,1015,11,12,13,14,16,1014,17])] [(0,0),(0,0),(0,0)] Tryz.func416 rfl (λu q=>?_)
  repeat'(first|refine gB ?_|with_reducible refine Bf.D (λc=>?_) (λc=>?_)|refine CN (by decide) ?_|refine CL (kH b) ?_|refine CG (p) ⟨⟨rfl,bN h⟩,⟨rfl,rfl⟩,trivial⟩ ?_|refine CG (P) ⟨⟨rfl,CZ _⟩,⟨rfl,rfl⟩,trivial⟩ ?_)
  refine CH rfl rfl ?_;exact wC
 rw[CB J,CB K];unfold tbl at J;have r:=Mn h.j t ⟨(nth h.M i).a0,(nth h.M i).Addr⟩ a.mail ω;by_cases l:bB (f6 h.j t ⟨(nth h.M i).a0,(nth h.M i).Addr⟩)=true;rotate_left
 ·rw[CB l]
  rw[CB l,show bB (f6 h.j t ⟨(nth h.M i).a0,(nth h.M i).Addr⟩)=false by simpa using l]at r;refine fM 148 [(511,[2,0]),(513,[2,0]),(515,[2,0,0]),(510,[2,0])] [(15,269,[68,69,70,71,72,73,74,75,77,67,78,79,11,0,1,2,3,4,5,6,7,13,8,1000,1001,1002,1003,1004,1013,9,10,11,12,14,1012,15]),(22,15,[92,93,94,95,96,97,98,99,100,101,102,103,104,105,106]),(25,271,[116,117,118,119,120,121,122,123,124,125,127,115,128,129,14,0,1,2,3,4,5,6,7,8,9,15,10,1000,1001,1002,1003,1015,11,12,13,14,16,1014,17])] [(0,0),(0,0),(0,0)] Tryz.func416 rfl (λu q=>?_)
  repeat'(first|refine gB ?_|with_reducible refine Bf.D (λc=>?_) (λc=>?_)|refine CN (by decide) ?_|refine CL (kH b) ?_|refine CG (p) ⟨⟨rfl,bN h⟩,⟨rfl,rfl⟩,trivial⟩ ?_|refine CG (P) ⟨⟨rfl,CZ _⟩,⟨rfl,rfl⟩,trivial⟩ ?_|refine CG (r) ⟨⟨rfl,Cf h.j⟩,⟨rfl,rfl⟩,⟨rfl,rfl⟩,trivial⟩ ?_)
  refine CH rfl rfl ?_;exact wC
 rw[CC l];rw[CC l,l]at r;have w:eM h.H (nth h.M i).Addr<h.H.F.V.W.length:=by unfold eM;omega
 have hcz:=EJ s1;have B:=eg (aS (nth h.M i).a1);unfold Da;generalize f6 h.j t ⟨(nth h.M i).a0,(nth h.M i).Addr⟩ = M at r;refine fM 148 [(511,[2,0]),(513,[2,0]),(515,[2,0,0]),(510,[2,0])] [(15,269,[68,69,70,71,72,73,74,75,77,67,78,79,11,0,1,2,3,4,5,6,7,13,8,1000,1001,1002,1003,1004,1013,9,10,11,12,14,1012,15]),(22,15,[92,93,94,95,96,97,98,99,100,101,102,103,104,105,106]),(25,271,[116,117,118,119,120,121,122,123,124,125,127,115,128,129,14,0,1,2,3,4,5,6,7,8,9,15,10,1000,1001,1002,1003,1015,11,12,13,14,16,1014,17])] [(0,0),(0,0),(0,0)] Tryz.func416 rfl (λu q=>?_)
 repeat'(first|refine gB ?_|with_reducible refine Bf.D (λc=>?_) (λc=>?_)|refine CN (by decide) ?_|refine CL (kH b) ?_|refine CG (p) ⟨⟨rfl,bN h⟩,⟨rfl,rfl⟩,trivial⟩ ?_|refine CG (P) ⟨⟨rfl,CZ _⟩,⟨rfl,rfl⟩,trivial⟩ ?_|refine CG (r) ⟨⟨rfl,Cf h.j⟩,⟨rfl,rfl⟩,⟨rfl,rfl⟩,trivial⟩ ?_)
 have Q:({{h with j:=M} with H:=en h.H (nth h.M i).Addr 0} : ac) = {h with j:=M}:=Fc {h with j:=M} _ w;have R:=Z0 (λy:ac=>C.s .own (y.H.F.V.W.map (aG .own))) Q
 (conv=>whnf)
 refine CF (ι:=Nat) (λk=>[(0,.G .box (bK {{h with j:=M} with H:=en h.H (nth h.M i).Addr k})),(1,.G .one [I ((t:Nat):Int)]),(2,.G .one [I ((nth h.M i).Addr)]),(7,.G .one [I ((i:Nat):Int)]),(8,.G .box (bi.enc .own (nth h.M i))),(9,.G .one [I (aS (nth h.M i).a1)]),(10,.G .box (bo.enc .own (ax h.H.F.Q ((nth h.M i).Addr / 16)))),(13,.G .one [I ((k:Nat):Int)])]) (λk=>k<=(csz (aS (nth h.M i).a1)).toNat) (λk=>(csz (aS (nth h.M i).a1)).toNat - k) (0) ?_ (X0 _) λk hk=>?_
 ·repeat'(first|exact trivial|rfl |exact nU R|exact eQ _|refine CJ ?_ ?_|(exact Fy (by first|omega|(simp only;omega)|(simp;omega))))
 have T:IntKind.i64.wrap 0=0:=rfl;have S:(nth h.M i).Addr.tmod 16=(nth h.M i).Addr % 16:=ew b.1;have g:(en h.H (nth h.M i).Addr k).F.V.W[(ax h.H.F.Q ((nth h.M i).Addr / 16)).e.toNat]? = some (iM (nth h.H.F.V.W (eM h.H (nth h.M i).Addr)) ((nth h.M i).Addr % 16).toNat k):=t4 w;by_cases lk:k<(csz (aS (nth h.M i).a1)).toNat
 ·have E:=ar (xs:=iM (nth h.H.F.V.W (eM h.H (nth h.M i).Addr)) ((nth h.M i).Addr % 16).toNat k) (i:=((nth h.M i).Addr % 16+k).toNat) (by rw[n9,s4];omega)
  repeat'(first|refine gE ?_|refine CN (by decide) ?_|refine CQ S ?_|refine CK s2.1 (aa g) ?_|refine CK ω (aa E) ?_|refine Pu.two rfl rfl (aa g) rfl rfl rfl (aa E) rfl (V3 _) (FN {h with j:=M} _ k _ b.1) ?_)
  (refine CD (k+1) ω ω ?_;(exact wC))
 obtain rfl:k=(csz (aS (nth h.M i).a1)).toNat:=ω
 have c6:=nN {{h with j:=M} with H:=en h.H (nth h.M i).Addr (csz (aS (nth h.M i).a1)).toNat} i j (by show h.M.length<=_;omega)
 repeat'(first|refine gB ?_|with_reducible refine Bf.D (λc=>?_) (λc=>?_))
 refine CH rfl rfl ?_;exact wC
def QV(h:ac)(i:Nat)(t:Int)(a:bg h [])(d:i<h.M.length):zzB 416 false [.ptr (bK h),.val none [I t],.val none [I (nth h.M i).Addr]] [.ptr (bK (if 0<=t/\t<=h.T.length - 1 then(freeT h t.toNat i).1 else h)),.val none [I t],.val none [I (nth h.M i).Addr]] .one [I (if 0<=t/\t<=h.T.length - 1 then(freeT h t.toNat i).2 else 1)]:=by
 have c:h.T.length<=4:=by have:=(dH.1 a.mail).1.2.1;have:=a.nc;omega
 by_cases b:0<=t/\t<=h.T.length - 1
 ·rw[CC b,CC b]
  obtain⟨n,rfl⟩:=I3 b.1;simp only[C3];by_cases e:(nth h.M i).a0=n
  ·have:=HS h (nth h.M i) n a (au d) e c
   have g:jB h (nth h.M i).Addr=i:=by
    obtain⟨k,j,-⟩:=a.objAt (au d);exact gz (f:=(·.Addr)) (gp a.osr) k d (by rw[j])
   rw[g,<-vk e]at this;exact this
  exact G3 h i n a d ω e
 rw[CB b,CB b];exact EF h t _ c b
def F6(c:aF)(k:Nat):aF.enc .own (sW c k)=[.s .own ((c.X.map (aG .own)).set k (aG .own ((nth c.X k).take ((nth c.X k).length - 1))))]:=by simp[aF.enc,sW,V6]
def MW(xs:List Int)(n:Nat):(xs.take n).map (rI .S)=(xs.map (rI .S)).take n:=O4
def TR(c:aF)(k:Nat):List C:=if 0<(nth c.X k).length then aF.enc .own (sW c k)++[I (nth (nth c.X k) ((nth c.X k).length - 1)),B true] else aF.enc .own c++[I (-1),B false]
def Tz(c:aF)(k:Nat):g0 (TR c k):=by
 unfold TR;split
 ·exact aB (Cg _) ⟨trivial,trivial,trivial⟩
 exact aB (Cg _) ⟨trivial,trivial,trivial⟩
def zF(c:aF)(k:Nat)(h:bz c=true)(u:k<=3):zzA 366 false [.val (some 1) (aF.enc .S c),.val none [I (k:Nat)]] (.tup [some 1,none,none]) (TR c k):=by
 obtain⟨w,j⟩:=dK h;have n:aF.sml c:=⟨ω,λl r=>by have:=j l r;show l.length<=1048576;omega⟩
 have d:=yH c k n;rw[h,O0 ω]at d;have o:=iZ c n;have b:=lJ (c:=c) (k:=k) ω;have t:=j _ (au (xs:=c.X) (i:=k) ω);have a:=Tz c k;unfold TR at a |-;by_cases p:0<(nth c.X k).length
 ·rw[CC p]at a |-
  have q:=ar (xs:=nth c.X k) (i:=(nth c.X k).length - 1) ω;have e:(nth c.X k)[(((nth c.X k).length:Int) - 1).toNat]? = some (nth (nth c.X k) ((nth c.X k).length - 1)):=by rw[show(((nth c.X k).length:Int) - 1).toNat=(nth c.X k).length - 1 by omega];exact q
  have g:((((nth c.X k).length:Nat):Int) - 1)=(((nth c.X k).length - 1:Nat):Int):=ω
  rw[F6]at a |-;refine fO 54 [(5,268,[32,33,34,35,36,37,38,39,40,41,42,44,0,1,2,3,4,5,6,7,8,9,10,11,1000,1001,1002,12,13]),(6,265,[45,46,47,48,49,50,51,52,53,0,1,2,3,4,5,6,7,8,9,1001,1002,1003,1004,1005,1006,1007,1008,10,11])] Tryz.func366 rfl ?_ (.inr a)
  repeat'(first|refine gB ?_|refine CK ω (aa e) ?_|refine CS ((nth c.X k).length - 1) g (by rw[I1];omega) (aK λ_=>rfl) (MW _ _) ?_|refine CU (λ_=>rfl) (λ_=>rfl) (by rw[C2];omega) (by decide) ?_|refine CP (λ_=>rfl) (λ_=>rfl) (by rw[C2];omega) (by decide) ?_|refine CM rfl rfl (aa b) rfl (O1 rfl) rfl ?_)
  rfl
 rw[CB p]at a |-;refine fO 54 [(5,268,[32,33,34,35,36,37,38,39,40,41,42,44,0,1,2,3,4,5,6,7,8,9,10,11,1000,1001,1002,12,13]),(6,265,[45,46,47,48,49,50,51,52,53,0,1,2,3,4,5,6,7,8,9,1001,1002,1003,1004,1005,1006,1007,1008,10,11])] Tryz.func366 rfl ?_ (.inr a)
 refine ZB ?_
 rfl
def TT(xs:List aE)(n:Int):List C:=bp .own (aC xs n).1++[I (aC xs n).2.1,B (aC xs n).2.2]
def T7(xs:List aE)(n:Int):g0 (TT xs n):=aB (iR _) ⟨trivial,trivial,trivial⟩
def pF(pages:Int)(xs:List aE)(n:Int)(w:0<=pages/\pages<=1048576)(l:bF pages xs=true)(J:1<=n/\n<=1000)(K:xs.length<=4096):zzA 371 false [.val none [I pages],.val none (bp .S xs),.val none [I n]] (.tup [none,none,none]) (TT xs n):=by
 have o:=mO pages xs w ⟨ω,λ_ _=>trivial⟩;rw[l]at o;have p:=(tZ l).2;refine fO 98 [(8,21,[31,32,33,34,35,36,37,38,39,40,41,42,43,44,45,46,47,48,49,50,51]),(14,265,[71,72,73,74,76,77,78,79,81,0,1,2,3,5,6,7,8,10,4,1005,1006,1007,1008,1010,9,1010,11,1010,12,13])] Tryz.func371 rfl ?_ (.inr (T7 xs n))
 repeat'(first|refine gE ?_|refine CP (λ_=>rfl) (λ_=>rfl) ω (by decide) ?_)
 refine CF (ι:=Nat) (λi=>[(1,.G .one (bp .S xs)),(2,.G .one [I (n)]),(9,.G .one (bp .own xs)),(10,.G .one [I (fS xs n i)]),(11,.G .one [I ((i:Nat):Int)])]) (λi=>i<=xs.length) (λi=>xs.length - i) (0) ?_ (X0 _) λi y=>?_
 ·exact wC
 have h:=u7 xs n i y;by_cases q:i<xs.length
 ·have j:=ar q
  have E:=p _ (au q);have a:fS xs n (i+1)=if n<=(nth xs i).a4/\(fS xs n i<0\/(nth xs i).a4<(nth xs (fS xs n i).toNat).a4) then((i:Nat):Int) else fS xs n i:=rfl
  by_cases r:n<=(nth xs i).a4
  ·by_cases F:fS xs n i<0
   ·rw[CC ⟨r,.inl F⟩]at a
    repeat'(first|refine gE ?_|with_reducible refine Bf.D (λc=>?_) (λc=>?_))
    (refine CD (i+1) ω ω ?_)
    rw[a];exact wC
   have d:=ar (xs:=xs) (i:=(fS xs n i).toNat) ω;by_cases G:(nth xs i).a4<(nth xs (fS xs n i).toNat).a4
   ·rw[CC ⟨r,.inr G⟩]at a
    repeat'(first|refine gE ?_|with_reducible (first|refine CK ω (aa d) ?_|refine Bf.D (λc=>?_) (λc=>?_)))
    (refine CD (i+1) ω ω ?_)
    rw[a];exact wC
   rw[CB ω]at a
   repeat'(first|refine gE ?_|with_reducible (first|refine CK ω (aa d) ?_|refine Bf.D (λc=>?_) (λc=>?_)))
   (refine CD (i+1) ω ω ?_)
   rw[a];exact wC
  rw[CB ω]at a
  repeat'(first|refine gE ?_|with_reducible refine Bf.D (λc=>?_) (λc=>?_))
  (refine CD (i+1) ω ω ?_)
  rw[a];exact wC
 obtain rfl:i=xs.length:=ω
 change f9 xs n = -1\/_ at h;unfold TT aC;rw[show fS xs n xs.length=f9 xs n from rfl];by_cases e:f9 xs n<0
 ·rw[CC e]
  rw[show f9 xs n = -1 from h.resolve_right λg=>by have L:0<=f9 xs n:=g.1;omega]
  repeat'(first|refine gE ?_|with_reducible refine Bf.D (λc=>?_) (λc=>?_))
  rfl
 rw[CB e];obtain⟨H,t,M⟩:=h.resolve_left ω;change 0<=f9 xs n at H;change f9 xs n<xs.length at t;obtain⟨b,k⟩:=I3 (show 0<=f9 xs n by omega);rw[k]at t |-;simp only[C3];have d:=ar (xs:=xs) (i:=b) ω;have E:=p _ (au (xs:=xs) (i:=b) ω);by_cases u:(nth xs b).a4=n
 ·rw[CC u]
  repeat'(first|refine gB ?_|with_reducible refine Bf.D (λc=>?_) (λc=>?_)|refine CS b rfl (by rw[I1];omega) (aK λ_=>rfl) O4 ?_|refine CW (b+1) rfl (by rw[I1];omega) (aK λ_=>rfl) V4 ?_|refine CU (λ_=>rfl) (λ_=>rfl) (by rw[C2];omega) (by decide) ?_|refine Ap.dele (λ_=>rfl) (λ_=>rfl) ω (by decide) ?_|refine CP (λ_=>rfl) (λ_=>rfl) (by rw[C2];omega) (by decide) ?_)
  rfl
 rw[CB u]
 repeat'(first|refine gB ?_|with_reducible refine Bf.D (λc=>?_) (λc=>?_)|refine CM rfl rfl (aa d) rfl (O1 rfl) rfl ?_)
 exact Z0 (λz=>z++[I (nth xs b).At,B true]) (show [C.s dA.own _]=_ from by simp[bp,V6];rfl)
def zX(k:ah)(p:Int)(f:Nat):ah.enc .own (vd k p f)=((ah.enc .own k).set 1 (.s .own ((k.F.V.y.map (rB .own)).set f (rB .own true)))).set 2 (.s .own ((k.F.Q.O.map (bo.enc .own)).set p.toNat (bo.enc .own ⟨2,(f:Nat)⟩))):=by
 simp[ah.enc,vd,V6]
def GQ(k:ah)(p:Int)(c:aJ k=true)(y:k.Calls≠100000)(o:0<=p/\p<k.F.Q.O.length)(C:(nth k.F.Q.O p.toNat).k=0):zzB 373 false [.ptr (ah.enc .own k),.val none [I p]] [.ptr (ah.enc .own (dE k p).1),.val none [I p]] .one [B (dE k p).2]:=by
 have E:=aZ c;have F:=aY.1 (aH.1 c).2.1;have G:=(bq.1 (aH.1 c).2.2.1).2.2;have H:(dD k).F.Q.O.length<=32:=G;have a:=Fo k.F.V ω;have d:=oN k c y;have g:=eR (dD k) p E.1.2;have l:ax (dD k).F.Q p=nth k.F.Q.O p.toNat:=by unfold ax;exact CC o
 rw[l,C]at g;have h:=aM p 0 ((k.F.Q.O.length:Int) - 1);rw[O0 ω]at h;have r:=ar (xs:=k.F.Q.O) (i:=p.toNat) ω;change am _ _ _ _ _ [I (oY k)]at a;unfold dE;cases e:refd k<;>rw[e]at d
 ·by_cases j:oY k<0
  ·rw[CC (.inr j)]
   refine fM 56 [(484,[2])] [] [(0,0),(0,0)] Tryz.func373 rfl (λu q=>?_)
   repeat'(first|refine gB ?_|with_reducible refine Bf.D (λb=>?_) (λb=>?_)|refine CG (a) ⟨⟨rfl,aT.enc_fz _⟩,trivial⟩ ?_|refine CG (g) ⟨CO (dD k),⟨rfl,rfl⟩,trivial⟩ ?_)
   refine CH rfl ?_ ?_
   ·rfl
   exact wC
  rw[CB (by simp[j])];obtain⟨n,t⟩:=HC j;obtain⟨f,J⟩:=I3 (show 0<=oY k by omega);rw[J]at a n t j |-;simp only[C3]at n t |-;have w:=ar (xs:=k.F.V.y) (i:=f) n;rw[zX];refine fM 56 [(484,[2])] [] [(0,0),(0,0)] Tryz.func373 rfl (λu q=>?_)
  repeat'(first|refine gB ?_|with_reducible refine Bf.D (λb=>?_) (λb=>?_)|refine CG (a) ⟨⟨rfl,aT.enc_fz _⟩,trivial⟩ ?_|refine CG (g) ⟨CO (dD k),⟨rfl,rfl⟩,trivial⟩ ?_|refine CK o.1 (aa r) ?_|refine CM rfl rfl (aa w) rfl (O1 rfl) rfl ?_|refine CM rfl rfl (aa r) rfl (O1 rfl) rfl ?_)
  refine CH rfl ?_ ?_
  ·rfl
  exact wC
 rw[CC (.inl rfl)];refine fM 56 [(484,[2])] [] [(0,0),(0,0)] Tryz.func373 rfl (λu q=>?_)
 repeat'(first|refine gB ?_|with_reducible refine Bf.D (λb=>?_) (λb=>?_)|refine CG (a) ⟨⟨rfl,aT.enc_fz _⟩,trivial⟩ ?_|refine CG (g) ⟨CO (dD k),⟨rfl,rfl⟩,trivial⟩ ?_)
 refine CH rfl ?_ ?_
 ·rfl
 exact wC
def Uf(h:ac):List C:=(bK h).drop 5
def Fz(h:ac)(p:Int)(a:aJ h.H=true)(b:h.H.Calls≠100000)(c:0<=p/\p<h.H.F.Q.O.length)(d:(nth h.H.F.Q.O p.toNat).k=0):zzB 373 false [.ptr (bK h),.val none [I p]] [.ptr (bK {h with H:=(dE h.H p).1}),.val none [I p]] .one [B (dE h.H p).2]:=
 (GQ h.H p a b c d).frame (r:=Uf h) rfl
def MB(h:ac)(i:Nat):bK (slotT h i)=((bK h).set 14 (I (Ax h.b5))).set 6 (.s .own ((h.K.map (aA.enc .own)).set i [I (nth h.K i).R,I (nth h.K i).Z,I (gC (nth h.K i).a6 (ns h i))])):=by
 simp[bK,slotT,rg,V6,aA.enc]
def tQ(h:ac)(E:List Int)(i:Nat)(c:bg h E)(k:i<h.K.length):zzB 368 false [.ptr (bK h),.val none [I (i:Nat)]] [.ptr (bK (kX h i).1),.val none [I (i:Nat)]] .one [I (kX h i).2]:=by
 have F:=c.lens;have G:=F.spans;have d:=ar k;have b:=c.L.sok _ (au k);have e:=ec b;have a:=c.nums;unfold cg at a;rw[C0]at a;have t:=(bq.1 (aH.1 c.ker).2.2.1).2.2;have l:=lT c.L.sok (ps:=aV h (nth h.K i).R) e (aV h (nth h.K i).R).length;change 0<=dU h i/\dU h i<=65535 at l;have w:=oM (nth h.K i).Z;have y:=AO h i ⟨ω,λ_ _=>trivial⟩ ⟨by show h.H.F.Q.O.length<=_;omega,λ_ _=>trivial⟩ c.L.sok k;have o:=zE (nth h.K i).Z (dU h i) ω;change am _ _ _ _ _ (aG .own (gF h i)) at o;have p:=zP (nth h.K i).Z (dU h i);change (gF h i).length<=16 at p;unfold kX;by_cases B:(gF h i).length=0
 ·rw[CC B]
  refine fM 68 [] [(2,7,[16,17,18,19,20,21,22]),(7,12,[42,43,44,45,46,47,48,49,50,51,52,53]),(8,11,[56,57,58,59,60,61,62,63,64,65,66])] [(0,0),(0,0)] Tryz.func368 rfl (λu q=>?_)
  repeat'(first|refine gB ?_|refine CG (y) ⟨⟨rfl,bN h⟩,⟨rfl,rfl⟩,trivial⟩ ?_)
  refine CH rfl rfl ?_;exact wC
 rw[CB B];have H:=vF (h:=h) (i:=i) ω;obtain⟨C,D,O⟩:=sv H;have J:=(gn (aL b).2.2).2.2.1;have r:=qn h.b5 (n:=((gF h i).length:Nat)) ω;have K:=vW h.b5 ((gF h i).length:Nat) ω ω;have M:=B1 (nth h.K i).a6 (ns h i) e ω;have N:=Be (rg (nth h.K i) (ns h i)) (ns h i) (Fp b ⟨C,D⟩) ⟨C,D⟩;have g:(gF h i)[(Fx h.b5 ((gF h i).length:Nat)).toNat]? = some (ns h i):=ar ω;have j:((h.K.map (aA.enc .own)).set i [I (nth h.K i).R,I (nth h.K i).Z,I (gC (nth h.K i).a6 (ns h i))])[i]? = some [I (nth h.K i).R,I (nth h.K i).Z,I (gC (nth h.K i).a6 (ns h i))]:=jy k;unfold ql;rw[MB];refine fM 68 [] [(2,7,[16,17,18,19,20,21,22]),(7,12,[42,43,44,45,46,47,48,49,50,51,52,53]),(8,11,[56,57,58,59,60,61,62,63,64,65,66])] [(0,0),(0,0)] Tryz.func368 rfl (λu q=>?_)
 repeat'(first|refine gB ?_|refine CA j ?_|refine CE rfl j rfl ?_|refine CG (y) ⟨⟨rfl,bN h⟩,⟨rfl,rfl⟩,trivial⟩ ?_|refine CK r.1 (aa g) ?_|refine CM rfl rfl (aa d) rfl (O1 rfl) rfl ?_)
 refine CH rfl ?_ ?_
 ·rfl
 exact wC
def Ap.ins{e:α->List C}{xs:List α}{y:α}{r:List C}{sz by_:Nat}{K:List (List C)->Prop}(a:r=e y)(b:∀y,(e y).length=sz)(c:∀y,bn (e y)=true)(h:xs.length<=1048576)(d:by_<=1000)(f:K ((xs.take i++y::xs.drop i).map e)):Ap true ((xs.take i).map e++[r]) ((xs.drop i).map e) sz by_ K:=by
 subst a;have g:(xs.take i).length+1+(xs.drop i).length<=3145728:=by rw[C2,Y3];omega
 refine CT (λr a=>?_) (aK b) (λ_ r a=>by obtain⟨y,-,rfl⟩:=W4.1 a;exact c y) (by simp only[X3,I1,List.length_singleton];omega) (by simp only[X3,I1,List.length_singleton];exact z5 (Nat.mul_le_mul g d) (by decide)) ?_ f
 ·rcases O3.1 a with a|a
  ·exact aK b r a
  rw[V1.1 a];exact b y
 rw[Z5,I6,Y5];rfl
def mz{p:α->Bool}{xs:List α}{y:α}(h:kw p xs=i):jI p xs y=xs.take i++y::xs.drop i:=by unfold jI;rw[h]
def Kj(h:ac)(c:Int):ac × Int:=
 if(aC h.a 1).2.2=false then(h,-1)
 else if(dE h.H (aC h.a 1).2.1).2=false then({h with H:=(dE h.H (aC h.a 1).2.1).1},-1)
 else(pz h c,(nY h:Nat))
def D9(h:ac)(E:List Int)(c:Nat)(g:bg h E)(J:h.H.Calls<=90000):zzB 369 false [.ptr (bK h),.val none [I (c:Nat)]] [.ptr (bK (Kj h c).1),.val none [I (c:Nat)]] .one [I (Kj h c).2]:=by
 have B:=g.lens;have K:=B.spans;have L:eO h<=32:=B.ents;have C:=iy h;have l:=pF (eO h:Nat) h.a 1 ⟨ω,ω⟩ g.rng (by decide) (by have:=B.free;omega);unfold TT at l;have d:=kg g (C5 1);unfold Kj pz nY;generalize aC h.a 1=r at l d |-;obtain⟨o,p,ok⟩:=r;simp only at l d |-;cases ok with
 | false=>
  rw[CC rfl];refine fM 79 [(373,[2,0]),(2000010,[0,6])] [(1,267,[11,12,13,14,15,16,17,10,18,19,20,0,1,2,3,4,5,6,7,8,9,10,11,1009,1010,12,1010,13])] [(0,0),(0,0)] Tryz.func369 rfl (λu q=>?_)
  repeat'(first|refine gP ?_|refine CG (C) ⟨bN h,trivial⟩ ?_|refine CG (l) ⟨⟨rfl,rfl⟩,⟨rfl,dO h.a⟩,⟨rfl,rfl⟩,trivial⟩ ?_)
  refine CH rfl rfl ?_;exact wC
 | true=>
  rw[CB (by simp)];obtain⟨M,N,O,V⟩:=d rfl;have F:0<=p/\p<h.H.F.Q.O.length:=⟨M,by have:p+1<=((tbl h).O.length:Nat):=N;unfold tbl at this;omega⟩
  have t:=Fz h p g.ker ω F (O p.toNat ω ω);generalize dE h.H p=w at t |-;obtain⟨k,b⟩:=w;simp only at t |-;cases b with
  | false=>
   rw[CC rfl];refine fM 79 [(373,[2,0]),(2000010,[0,6])] [(1,267,[11,12,13,14,15,16,17,10,18,19,20,0,1,2,3,4,5,6,7,8,9,10,11,1009,1010,12,1010,13])] [(0,0),(0,0)] Tryz.func369 rfl (λu q=>?_)
   repeat'(first|refine gP ?_|refine CG (C) ⟨bN h,trivial⟩ ?_|refine CG (l) ⟨⟨rfl,rfl⟩,⟨rfl,dO h.a⟩,⟨rfl,rfl⟩,trivial⟩ ?_)
   refine CH rfl rfl ?_;exact wC
  | true=>
   rw[CB (by simp)];refine fM 79 [(373,[2,0]),(2000010,[0,6])] [(1,267,[11,12,13,14,15,16,17,10,18,19,20,0,1,2,3,4,5,6,7,8,9,10,11,1009,1010,12,1010,13])] [(0,0),(0,0)] Tryz.func369 rfl (λu q=>?_)
   repeat'(first|refine gP ?_|refine CG (C) ⟨bN h,trivial⟩ ?_|refine CG (l) ⟨⟨rfl,rfl⟩,⟨rfl,dO h.a⟩,⟨rfl,rfl⟩,trivial⟩ ?_)
   refine CF (ι:=Nat) (λi=>[(0,.G .box (bK {h with H:=k,a:=o})),(1,.G .one [I ((c:Nat):Int)]),(6,.G .one [I (p)]),(8,.G .one [I ((i:Nat):Int)])]) (λi=>i<=h.K.length/\∀(j:Nat)(z:aA),j<i->h.K[j]? = some z->Gn p z=false) (λi=>h.K.length - i) (0) ?_ (⟨X0 _,λj z W=>ω⟩) λi g=>?_
   ·exact wC
   obtain⟨P,G⟩:=g;have Q:({h with H:=k,a:=o} : ac).K.length=h.K.length:=rfl;by_cases R:i<h.K.length/\(nth h.K i).R<p
   ·have n:=ar R.1
    refine ZE ?_
    (refine CD (i+1) ⟨ω,ep n (W0 ω) G⟩ ω ?_;(exact wC))
   have a:kw (Gn p) h.K=i:=my ω G λz H=>by
    have S:=(Z2.1 H).1;have:z=nth h.K i:=(b8 H).symm;subst this;exact O0 ω
   have n:i<h.K.length->h.K[i]? = some (nth h.K i):=λT=>ar T
   rw[show addS h k o p (c:Nat) = {h with H:=k,a:=o,K:=h.K.take i++⟨p,(c:Nat),0⟩::h.K.drop i} by unfold addS;rw[mz a],a]
   repeat'(first|refine gE ?_|with_reducible (first|refine CA (aa (n ω)) ?_|refine Bf.D (λU=>?_) (λU=>?_))|refine CE rfl (aa (n ω)) rfl ?_|refine HK.mk rfl (xR h.K) rfl ?_|refine CS i rfl (by rw[I1];omega) (aK λ_=>rfl) O4 ?_|refine CW i rfl (by rw[I1];omega) (aK λ_=>rfl) V4 ?_|refine CP (λ_=>rfl) (λ_=>rfl) (by rw[C2];omega) (by decide) ?_|refine Ap.sn (aK λ_=>rfl) rfl (by rw[I1,C2];omega) (by decide) rfl ?_|refine Ap.ins (e:=aA.enc .S) (y:=⟨p,(c:Nat),0⟩) rfl (λ_=>rfl) (λ_=>rfl) ω (by decide) ?_)
   all_goals
    refine CH rfl rfl ?_;exact wC
def wd(a:i<h.K.length)(b:pv h c i=true)(d:∀j,j<i->pv h c j=false):ow h c=some i:=
 List.find?_range_eq_some.2 ⟨b,List.mem_range.2 a,λj e=>by rw[d j e];rfl⟩
def vV(a:∀j,j<h.K.length->pv h c j=false):ow h c=none:=
 List.find?_range_eq_none.2 λj b=>by rw[a j b];rfl
def lH(a:pv h c i=false)(b:∀j,j<i->pv h c j=false):∀j,j<i+1->pv h c j=false:=λj d=>by
 by_cases e:j=i
 ·rw[e];exact a
 exact b j ω
def MO(h:ac)(t:Nat)(c:aF):bK {h with T:=h.T.set t c} = (bK h).set 9 (.s .own ((h.T.map (aF.enc .own)).set t (aF.enc .own c))):=by
 simp[bK,V6]
def FD{c:Nat}(b:bg h [])(l:c<=3)(e:h.H.Calls<=90000)(h1:¬(aC h.a 1).2.2=false)(f:¬(dE h.H (aC h.a 1).2.1).2=false):bg (pz h c) []/\nY h<(pz h c).K.length:=by
 have a:(aC h.a 1).2.2=true:=by simpa using h1
 obtain⟨g,i,j,n⟩:=kg b (C5 1) a;have s:=yq.of (p:=(aC h.a 1).2.1) b.ker ω ⟨g,by have:(aC h.a 1).2.1+1<=(h.H.F.Q.O.length:Nat):=i;omega⟩ (j _ ω ω);have d:(dE h.H (aC h.a 1).2.1).2=true:=by simpa using f
 have k:yq h.H (aC h.a 1).2.1 ((dE h.H (aC h.a 1).2.1).1,true):=by rw[<-d];exact s
 exact⟨b.addS (c:=c) ⟨ω,ω⟩ a k,(Lg (Gn (aC h.a 1).2.1) h.K ⟨(aC h.a 1).2.1,c,0⟩).1⟩
def AG(h:ac)(t c:Nat)(o:bg h [])(M:t<h.T.length)(N:c<=3)(p:h.H.Calls<=90000):zzB 221 false [.ptr (bK h),.val none [I (t:Nat)],.val none [I (c:Nat)]] [.ptr (bK (eJ h t c).1),.val none [I (t:Nat)],.val none [I (c:Nat)]] .one [I (eJ h t c).2]:=by
 have E:=o.cach _ (au M);have e:=ar M;have r:=zF (nth h.T t) c E N;have Q:=o.lens.spans;have B:=o;unfold TR at r;by_cases F:0<(nth (nth h.T t).X c).length
 ·unfold eJ
  rw[CC F]at r |-;simp only;rw[MO];refine fM 80 [(368,[2,0]),(369,[2,0])] [(3,6,[27,28,29,30,31,32])] [(0,0),(0,0),(0,0)] Tryz.func221 rfl (λu q=>?_)
  repeat'(first|refine gP ?_|refine CG (r) ⟨⟨rfl,CY _⟩,⟨rfl,rfl⟩,trivial⟩ ?_|refine CM rfl rfl (aa e) rfl (O1 rfl) rfl ?_)
  refine CH rfl rfl ?_;exact wC
 rw[CB F]at r;have d:eJ h t c=match ow h c with
  | some i=>(slotT h i,ql h i)
  | none=>if(aC h.a 1).2.2=false then(h,-1)
   else if(dE h.H (aC h.a 1).2.1).2=false then({h with H:=(dE h.H (aC h.a 1).2.1).1},-1)
   else kX (pz h c) (nY h):=by unfold eJ;exact CB F
 refine fM 80 [(368,[2,0]),(369,[2,0])] [(3,6,[27,28,29,30,31,32])] [(0,0),(0,0),(0,0)] Tryz.func221 rfl (λu q=>?_)
 repeat'(first|refine gP ?_|refine CG (r) ⟨⟨rfl,CY _⟩,⟨rfl,rfl⟩,trivial⟩ ?_)
 refine CF (ι:=Nat) (λi=>[(0,.G .box (bK h)),(1,.G .one [I ((t:Nat):Int)]),(2,.G .one [I ((c:Nat):Int)]),(10,.G .one [I ((i:Nat):Int)])]) (λi=>i<=h.K.length/\∀j,j<i->pv h c j=false) (λi=>h.K.length - i) (0) ?_ (⟨X0 _,λj W=>ω⟩) λi o=>?_
 ·exact wC
 obtain⟨R,w⟩:=o;by_cases C:i<h.K.length
 ·have l:=ar C
  by_cases O:(nth h.K i).Z=c
  ·have y:=vS h (nth h.K i).R
   cases D:fY h (nth h.K i).R with
   | true=>
    rw[D]at y
    repeat'(first|refine gB ?_|refine CG (y) ⟨bN h,⟨rfl,rfl⟩,trivial⟩ ?_)
    (refine CD (i+1) ⟨ω,lH (by unfold pv;rw[D];simp) w⟩ ω ?_;(exact wC))
   | false=>
    rw[D]at y;have n:=tQ h [] i B C;unfold kX at n;by_cases P:(gF h i).length=0
    ·rw[CC P]at n
     repeat'(first|refine gB ?_|refine CG (y) ⟨bN h,⟨rfl,rfl⟩,trivial⟩ ?_)
     (refine CD (i+1) ⟨ω,lH (by unfold pv;rw[W0 (by omega:¬0<(gF h i).length)];simp) w⟩ ω ?_;(exact wC))
    rw[CB P]at n;have G:ow h c=some i:=wd C (by unfold pv;rw[O0 O,D,O0 ω];rfl) w;rw[G]at d;simp only at d;obtain⟨S,T⟩:=B.slotT C (by omega:0<(gF h i).length);have H:=jz.nn S T;rw[d];generalize slotT h i=g at n |-;generalize ql h i=a at n H |-
    repeat'(first|refine gB ?_|refine CG (y) ⟨bN h,⟨rfl,rfl⟩,trivial⟩ ?_)
    refine CH rfl rfl ?_;exact wC
  refine ZB ?_
  (refine CD (i+1) ⟨ω,lH (by unfold pv;rw[W0 O];rfl) w⟩ ω ?_;(exact wC))
 obtain rfl:i=h.K.length:=ω
 have G:ow h c=none:=vV w;rw[G]at d;simp only at d;have k:=D9 h [] c B p;rw[d];unfold Kj at k;by_cases J:(aC h.a 1).2.2=false
 ·rw[CC J]at k |-
  refine ZE ?_
  refine CH rfl rfl ?_;exact wC
 rw[CB J]at k |-;by_cases K:(dE h.H (aC h.a 1).2.1).2=false
 ·rw[CC K]at k |-
  refine ZE ?_
  refine CH rfl rfl ?_;exact wC
 rw[CB K]at k |-;obtain⟨U,V⟩:=FD B N p J K;have L:=tQ (pz h c) [] (nY h) U V;generalize pz h c=g at k L |-;generalize nY h=b at k L |-
 refine ZE ?_
 refine CH rfl rfl ?_;exact wC
def Bc(h:ac)(size:Int):ac × Int:=
 if(aC h.a (lF size:Nat)).2.2=false then(h,-1)
 else if(jn h size).2=lF size then({h with H:=(jn h size).1,a:=(aC h.a (lF size:Nat)).1,J:=jI (Qt (aC h.a (lF size:Nat)).2.1) h.J ⟨(aC h.a (lF size:Nat)).2.1,(lF size:Nat),size⟩},16*(aC h.a (lF size:Nat)).2.1)
 else({h with H:=du (jn h size).1 (aC h.a (lF size:Nat)).2.1 (jn h size).2},-1)
def zo(k:ah)(p:Int)(i:Nat):bD k p (i+1)=if(bD k p i).2=i then((dE (bD k p i).1 (p+(i:Nat))).1,if(dE (bD k p i).1 (p+(i:Nat))).2=true then i+1 else i) else bD k p i:=rfl
def FW(k:ah)(p:Int):∀i,(bD k p i).2<=i
 | 0=>V3 _
 | i+1=>by
  have b:=FW k p i;rw[zo];by_cases e:(bD k p i).2=i
  ·rw[CC e]
   show(if _ then i+1 else i)<=i+1;by_cases a:(dE (bD k p i).1 (p+(i:Nat))).2=true
   ·rw[CC a];exact V3 _
   rw[CB a];exact Nat.le_succ _
  rw[CB e];omega
def jO{k:ah}{p:Int}{i:Nat}(h:(bD k p i).2≠i):∀j,bD k p (i+j)=bD k p i/\(bD k p (i+j)).2<i+j
 | 0=>⟨rfl,by show(bD k p i).2<i;have:=FW k p i;omega⟩
 | j+1=>by
  have a:=jO h j;have e:bD k p (i+(j+1))=bD k p (i+j):=by
   show bD k p (i+j+1)=_;rw[zo,CB ω]
  exact⟨e.trans a.1,by rw[e];omega⟩
def A6(h:ac)(size:Int)(l:bg h [])(C:9<=size/\size<=1000)(V:h.H.Calls<=90000):zzB 222 false [.ptr (bK h),.val none [I size]] [.ptr (bK (Bc h size).1),.val none [I size]] .one [I (Bc h size).2]:=by
 have E:=l.lens;have W:=E.larges;have Q:=l;have F:eO h<=32:=E.ents;have G:er size=((lF size:Nat):Int):=by unfold er lF;split<;>omega
 have hN:1<=lF size/\lF size<=63:=by unfold lF;omega
 have H:=ne size;rw[G]at H;have R:=iy h;have t:=pF (eO h:Nat) h.a (lF size:Nat) ⟨ω,ω⟩ l.rng ⟨ω,ω⟩ (by have:=E.free;omega);unfold TT at t;have b:=kg l (show(1:Int)<=(lF size:Nat) by omega);unfold Bc jn;generalize lF size=N at *;generalize aC h.a (N:Nat)=r at t b |-;obtain⟨J,p,ok⟩:=r;simp only at t b |-;refine fM 105 [(373,[2,0]),(374,[2,0]),(2000018,[0,7])] [(2,268,[16,17,18,19,20,21,22,23,15,24,25,26,0,1,2,3,4,5,6,7,8,9,10,11,12,1010,1011,13,1011,14])] [(0,0),(0,0)] Tryz.func222 rfl (λu q=>?_);cases ok with
 | false=>
  rw[CC rfl]
  repeat'(first|refine gP ?_|refine CG (R) ⟨bN h,trivial⟩ ?_|refine CG (t) ⟨⟨rfl,rfl⟩,⟨rfl,dO h.a⟩,⟨rfl,rfl⟩,trivial⟩ ?_)
  refine CH rfl rfl ?_;exact wC
 | true=>
  rw[CB (by simp)];obtain⟨S,K,B,u4⟩:=b rfl;change p+(N:Nat)<=(h.H.F.Q.O.length:Nat) at K;change ∀q:Nat,p<=q->(q:Int)<p+(N:Nat)->(nth h.H.F.Q.O q).k=0 at B
  have X:h.H.F.Q.O.length<=32:=F
  repeat'(first|refine gP ?_|refine CG (R) ⟨bN h,trivial⟩ ?_|refine CG (t) ⟨⟨rfl,rfl⟩,⟨rfl,dO h.a⟩,⟨rfl,rfl⟩,trivial⟩ ?_)
  refine CF (ι:=Nat) (λi=>[(0,.G .box (bK {h with H:=(bD h.H p i).1})),(1,.G .one [I (size)]),(5,.G .one [I ((N:Nat):Int)]),(6,.G .one (bp .own J)),(7,.G .one [I (p)]),(9,.G .one [I ((i:Nat):Int)])]) (λi=>i<=N/\(bD h.H p i).2=i) (λi=>N - i) (0) ?_ (⟨X0 _,rfl⟩) λi l=>?_
  ·exact wC
  obtain⟨L,M⟩:=l;have s:=iq.of (p:=p) (n:=N) Q.ker ω ⟨S,K⟩ B i L;have Y:=s.calls;have Z:=s.len;by_cases li:i<N
  ·have O:(nth (bD h.H p i).1.F.Q.O (p+(i:Nat)).toNat).k=0:=by
    rw[s.out _ (by rw[M];omega)];exact B _ ω ω
   have c:=Fz {h with H:=(bD h.H p i).1} (p+(i:Nat)) s.ker (by show(bD h.H p i).1.Calls≠100000;omega) ⟨ω,by show p+(i:Nat)<((bD h.H p i).1.F.Q.O.length:Nat);omega⟩ O;have a:bD h.H p (i+1)=((dE (bD h.H p i).1 (p+(i:Nat))).1,if(dE (bD h.H p i).1 (p+(i:Nat))).2=true then i+1 else i):=by
    show(if(bD h.H p i).2=i then _ else _)=_;rw[CC M]
   simp only at c;cases e:(dE (bD h.H p i).1 (p+(i:Nat))).2 with
   | true=>
    rw[e]at c a;rw[CC rfl]at a;have P:(dE (bD h.H p i).1 (p+(i:Nat))).1=(bD h.H p (i+1)).1:=by rw[a]
    rw[P]at c
    refine ZE ?_
    (refine CD (i+1) ⟨ω,by rw[a]⟩ ω ?_;(exact wC))
   | false=>
    rw[e]at c a;rw[CB (by simp)]at a;have d:=jO (k:=h.H) (p:=p) (i:=i+1) (by rw[a];simp only;omega) (N - (i+1));rw[show i+1+(N - (i+1))=N by omega]at d;rw[d.1]at d;have T:=iq.of (p:=p) (n:=N) Q.ker ω ⟨S,K⟩ B (i+1) ω;rw[CB (by have:=jO (k:=h.H) (p:=p) (i:=i+1) (by rw[a];simp only;omega) (N - (i+1));rw[show i+1+(N - (i+1))=N by omega]at this;omega)];rw[show bD h.H p N=bD h.H p (i+1) by have:=jO (k:=h.H) (p:=p) (i:=i+1) (by rw[a];simp only;omega) (N - (i+1));rw[show i+1+(N - (i+1))=N by omega]at this;exact this.1];rw[a]at T |-;have g:=T.ker;simp only at g |-;generalize (dE (bD h.H p i).1 (p+(i:Nat))).1=k at c g |-
    refine ZE ?_
    refine CF (ι:=Nat) (λj=>[(0,.G .box (bK {h with H:=du k p j})),(1,.G .one [I (size)]),(5,.G .one [I ((N:Nat):Int)]),(7,.G .one [I (p)]),(9,.G .one [I ((i:Nat):Int)]),(10,.G .one [I ((j:Nat):Int)])]) (λj=>j<=i) (λj=>i - j) (0) ?_ (X0 _) λj hj=>?_
    ·exact wC
    have c4:=o8 {h with H:=du k p j} (p+(j:Nat)) (jl g p j);by_cases lj:j<i
    ·refine ZE ?_
     (refine CD (j+1) ω ω ?_;(exact wC))
    obtain rfl:j=i:=ω
    refine ZE ?_
    refine CH rfl rfl ?_;exact wC
  obtain rfl:i=N:=ω
  rw[CC M];generalize (bD h.H p i).1=k
  refine ZE ?_
  refine CF (ι:=Nat) (λm=>[(0,.G .box (bK {h with H:=k,a:=J})),(1,.G .one [I (size)]),(5,.G .one [I ((i:Nat):Int)]),(7,.G .one [I (p)]),(11,.G .one [I ((m:Nat):Int)])]) (λm=>m<=h.J.length/\∀(j:Nat)(z:aD),j<m->h.J[j]? = some z->Qt p z=false) (λm=>h.J.length - m) (0) ?_ (⟨X0 _,λj z hj=>ω⟩) λm hm=>?_
  ·exact wC
  obtain⟨hm',U⟩:=hm;have hl2:({h with H:=k,a:=J} : ac).J.length=h.J.length:=rfl;by_cases go:m<h.J.length/\(nth h.J m).R<p
  ·have o:=ar go.1
   refine ZE ?_
   (refine CD (m+1) ⟨ω,ep o (W0 ω) U⟩ ω ?_;(exact wC))
  have w:kw (Qt p) h.J=m:=my ω U λz C=>by
   have hlt:=(Z2.1 C).1;have:z=nth h.J m:=(b8 C).symm;subst this;exact O0 ω
  have o:m<h.J.length->h.J[m]? = some (nth h.J m):=λhh=>ar hh
  rw[mz w]
  repeat'(first|refine gE ?_|with_reducible (first|refine CA (aa (o ω)) ?_|refine Bf.D (λhq=>?_) (λhq=>?_))|refine CE rfl (aa (o ω)) rfl ?_|refine HK.mk rfl (vG h.J) rfl ?_|refine CS m rfl (by rw[I1];omega) (aK λ_=>rfl) O4 ?_|refine CW m rfl (by rw[I1];omega) (aK λ_=>rfl) V4 ?_|refine CP (λ_=>rfl) (λ_=>rfl) (by rw[C2];omega) (by decide) ?_|refine Ap.sn (aK λ_=>rfl) rfl (by rw[I1,C2];omega) (by decide) rfl ?_|refine Ap.ins (e:=aD.enc .S) (y:=⟨p,(i:Nat),size⟩) rfl (λ_=>rfl) (λ_=>rfl) ω (by decide) ?_)
  all_goals
   refine CH rfl ?_ ?_
   ·exact Z0 (λz=>[I z]) ω
   exact wC
end Go.Proofs.YtiopgblagimpmaaGreat.Ab
