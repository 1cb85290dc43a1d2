/- Everything but a job's own steps leaves the job alone. No condition. -/
import Derived.Test.YtembpgjjnioagaaGreatId
import Derived.Test.YtembpgjjnioagaaGreatIf
import Derived.Test.YtembpgjjnioagaaGreatIe
set_option linter.unusedVariables false
set_option linter.unusedSimpArgs false
set_option linter.constructorNameAsVariable false
namespace Go.Proofs.YtembpgjjnioagaaGreat.Ab
structure JK(h h':ac):Prop where
 job:h'.Job=h.Job
 msh:h'.Meshing=h.Meshing
 sp:∀s∈h.Spans,gc h s.Page=true->∃s'∈h'.Spans,s'.Page=s.Page/\∀u,meshable s u=true->meshable s' u=true
 ent:∀q:Nat,(nth (tbl h').Entries q).Mode≠0->((nth (tbl h).Entries q).Mode≠0/\(nth (tbl h').Entries q).Frame=(nth (tbl h).Entries q).Frame)\/∀u:Nat,(nth (tbl h').Entries u).Mode≠0->(nth (tbl h').Entries u).Frame=(nth (tbl h').Entries q).Frame->u=q
theorem JK.refl(h:ac):JK h h:=⟨rfl,rfl,λs a _=>⟨s,a,rfl,λ_ z=>z⟩,λ_ b=>.inl ⟨b,rfl⟩⟩
theorem JK.pg{h h':ac}(k:JK h h')(p:Int):gc h' p=gc h p:=by unfold gc;rw[k.job,k.msh]
theorem JK.trans{h h1 g:ac}(a:JK h h1)(b:JK h1 g):JK h g:=by
 refine⟨b.job.trans a.job,b.msh.trans a.msh,λs o i=>?_,λq j=>?_⟩
 ·obtain⟨p,r,k,t⟩:=a.sp s o i
  obtain⟨w,y,A,B⟩:=b.sp p r (by rw[a.pg,k];exact i);exact⟨w,y,A.trans k,λu c=>B u (t u c)⟩
 ·rcases b.ent q j with⟨d,l⟩|d
  ·rcases a.ent q d with⟨e,C⟩|e
   ·exact .inl ⟨e,l.trans C⟩
   ·refine .inr λu c n=>?_
    rcases b.ent u c with⟨f,D⟩|f
    ·exact e u f (by rw[<-D,<-l];exact n)
    ·exact(f q j n.symm).symm
  ·exact .inr d
theorem ng.keep{h h':ac}{p:Int}(f:0<=p)(d:(nth (tbl h').Entries p.toNat).Mode≠0)(g:ng (tbl h) p)(k:JK h h'):ng (tbl h') p:=λq e c=>by
 rcases k.ent p.toNat d with⟨n,i⟩|a
 ·rcases k.ent q e with⟨j,l⟩|b
  ·exact g q j (by rw[<-l,c,i])
  ·have:=b p.toNat d c.symm;omega
 ·have:=a q e c;omega
theorem bn.mapped{h:ac}{E:List Int}(a:bn h E){s:au}(b:s∈h.Spans):0<=s.Page/\s.Page<(tbl h).Entries.length/\(nth (tbl h).Entries s.Page.toNat).Mode≠0:=by
 have c:=(aE (a.L.sok s b)).1;have d:=a.pg.bnd _ (di (la:=h.Larges) b);refine⟨c,d,(a.pg.own s.Page.toNat ω).2 ?_⟩;rw[show((s.Page.toNat:Nat):Int)=s.Page by omega];exact di b
theorem JI.keep{h h':ac}{E:List Int}(l:JI h)(p:bn h' E)(k:JK h h'):JI h':=by
 have d:h.Meshing=true->∃a∈h'.Spans,∃b∈h'.Spans,a.Page=h.Job.Plan.Keep/\b.Page=h.Job.Plan.Move/\meshable a b=true:=λc=>by
  obtain⟨a,n,b,o,f,g,e⟩:=l.sp c;obtain⟨q,t,u,w⟩:=k.sp a n (by unfold gc;rw[c,f];simp);obtain⟨y,A,B,C⟩:=k.sp b o (by unfold gc;rw[c,g];simp);refine⟨q,t,y,A,u.trans f,B.trans g,?_⟩;have r:=w b e;rw[ia]at r |-;exact C q r
 refine⟨λc=>?_,λc=>?_,λc=>?_,λc=>?_⟩
 ·rw[k.msh]at c;rw[k.job];exact l.ph c
 ·rw[k.msh]at c;rw[k.job];exact d c
 ·rw[k.msh]at c
  obtain⟨a,n,b,o,f,g,e⟩:=d c;obtain⟨i,D,j⟩:=p.mapped n;rw[k.job];rw[f]at i j;exact(l.sk c).keep i j k
 ·rw[k.msh]at c
  obtain⟨a,n,b,o,f,g,e⟩:=d c;obtain⟨i,D,j⟩:=p.mapped o;rw[k.job];rw[g]at i j;exact(l.sm c).keep i j k
theorem JK.less{h h':ac}(h1:h'.Job=h.Job)(c:h'.Meshing=h.Meshing)(d:h'.Spans=h.Spans)(b:∀q:Nat,(nth (tbl h').Entries q).Mode≠0->nth (tbl h').Entries q=nth (tbl h).Entries q):JK h h':=
 ⟨h1,c,λs e _=>⟨s,by rw[d];exact e,rfl,λ_ z=>z⟩,λq a=>.inl ⟨by rw[<-b q a];exact a,by rw[b q a]⟩⟩
theorem JK.eq{h h':ac}(h1:h'.Job=h.Job)(a:h'.Meshing=h.Meshing)(b:h'.Spans=h.Spans)(c:tbl h'=tbl h):JK h h':=.less h1 a b λq _=>by rw[c]
theorem JK.clrS{h:ac}{E:List Int}{a:Int}{i:Nat}(f:bn h E)(c:i<h.Spans.length)(d:eJ (nth h.Spans i) a):JK h (clrS h i a):=by
 refine⟨rfl,rfl,λs g _=>?_,λq k=>.inl ⟨k,rfl⟩⟩;obtain⟨j,l,rfl⟩:=bc g;by_cases e:j=i
 ·subst e
  have b:=f.L.sok _ (am c);exact⟨_,gT _ c,rfl,λu n=>qz b (qW b ⟨d.1,d.2.1⟩) n⟩
 ·exact⟨_,iy _ l e,rfl,λ_ z=>z⟩
theorem JK.giveP{h:ac}{E:List Int}{i:Nat}(d:bn h E)(f:i<h.Spans.length)(c:gc h (nth h.Spans i).Page=false):JK h (giveP h i):=by
 obtain⟨g,k,-⟩:=d.mapped (am f);refine⟨rfl,rfl,λs l a=>?_,λq b=>.inl ?_⟩
 ·obtain⟨j,n,rfl⟩:=bc l
  exact⟨_,dP.2 ⟨j,n,λe=>(by subst e;rw[c]at a;cases a),rfl⟩,rfl,λ_ z=>z⟩
 ·have o:=ug d.ker (p:=(nth h.Spans i).Page) ⟨g,k⟩ q
  change (nth (dB h.Kernel (nth h.Spans i).Page).Machine.Table.Entries q).Mode≠0 at b;show(nth h.Kernel.Machine.Table.Entries q).Mode≠0/\(nth (dB h.Kernel (nth h.Spans i).Page).Machine.Table.Entries q).Frame=(nth h.Kernel.Machine.Table.Entries q).Frame;rw[o]at b |-;split at b
  ·exact absurd rfl b
  ·rename_i e
   rw[C6 e];exact⟨b,rfl⟩
theorem JK.freeS{h:ac}{E:List Int}{a:Int}{i:Nat}(c:bn h (a::E))(b:i<h.Spans.length)(d:eJ (nth h.Spans i) a):JK h (freeS h i a):=by
 have g:=c.give b d;have f:=JK.clrS c b d;unfold Ab.freeS;split
 ·rename_i e
  have j:nth (Ab.clrS h i a).Spans i=lw (nth h.Spans i) (dI (nth h.Spans i) a):=by unfold Ab.clrS;simp only[cq,true_and];rw[C7 b]
  exact f.trans (JK.giveP (h:=Ab.clrS h i a) g (by unfold Ab.clrS;simp only[X0];exact b) (by rw[j];exact e.2))
 ·exact f
theorem JK.freeA{h:ac}{E:List Int}{a:Int}(b:bn h (a::E)):JK h (freeA h a):=by
 obtain⟨c,d,-⟩:=b.at (b.hin a (C1 ..));exact JK.freeS b c d
theorem JK.recyc{h:ac}{E:List Int}{a:Int}{t:Nat}(b:bn h (a::E)):JK h (recyc t h a):=by
 unfold Ab.recyc;split
 ·exact JK.eq rfl rfl rfl rfl
 ·exact JK.freeA b
theorem JK.recycs{t:Nat}{E:List Int} : ∀{az:List Int}{h:ac},bn h (az++E)->t<h.Caches.length->JK h (recycs t h az)
 | [],h,_,_=>JK.refl h
 | a::az,h,b,c=>(JK.recyc (t:=t) b).trans (JK.recycs (az:=az) (h:=Ab.recyc t h a) (b.recyc c) (by rw[(oV t h a).1];exact c))
theorem JK.freeAs{E:List Int} : ∀{az:List Int}{h:ac},bn h (az++E)->JK h (freeAs h az)
 | [],h,_=>JK.refl h
 | a::az,h,b=>(JK.freeA b).trans (JK.freeAs (az:=az) (h:=Ab.freeA h a) b.freeA)
theorem JK.flushN{t:Nat}{h:ac}(c:bn h [])(d:t<h.Caches.length):∀{k:Nat},k<=4->JK h (flushN t h k).1
 | 0,_=>JK.refl h
 | k+1,e=>by
  obtain⟨h1,f,-⟩:=jw c d (k:=k) ω;have a:t<(Ab.flushN t h k).1.Caches.length:=ω
  have b:k<(nth (Ab.flushN t h k).1.Caches t).Lists.length:=by rw[(dR (h1.cach _ (am a))).1];omega
  exact JK.trans (h1:=Ab.spilt (Ab.flushN t h k).1 t k) ((JK.flushN c d (k:=k) ω).trans (JK.eq rfl rfl rfl rfl)) (JK.freeAs (h1.spilt a b))
theorem yk{h:ac}{E:List Int}(a:bn h E){k:Nat}(b:k<h.Larges.length):0<=(nth h.Larges k).Page/\(nth h.Larges k).Page+((nth h.Larges k).Pages.toNat:Nat)<=(tbl h).Entries.length:=by
 have c:=aT (a.L.lok _ (am b));have d:=a.pg.bnd _ (eO (sp:=h.Spans) (am b) (cZ.2 ⟨(nth h.Larges k).Pages.toNat - 1,ω,rfl⟩));exact⟨ω,ω⟩
theorem JK.freeL{h:ac}{E:List Int}{i k:Nat}(b:bn h E)(c:k<h.Larges.length):JK h (freeL h i k):=by
 obtain⟨d,f⟩:=yk b c;refine JK.less rfl rfl rfl λq a=>?_
 have g:=kR b.ker d (nth h.Larges k).Pages.toNat f q;change (nth (dH h.Kernel (nth h.Larges k).Page (nth h.Larges k).Pages.toNat).Machine.Table.Entries q).Mode≠0 at a;show nth (dH h.Kernel (nth h.Larges k).Page (nth h.Larges k).Pages.toNat).Machine.Table.Entries q=nth h.Kernel.Machine.Table.Entries q;rw[g]at a |-;split at a
 ·exact absurd rfl a
 ·rename_i e;rw[C6 e]
theorem JK.freeOb{h:ac}{t i:Nat}(a:bn h [])(c:i<h.Objs.length)(d:t<h.Caches.length):JK h (freeOb h t i).1:=by
 unfold Ab.freeOb;split
 ·rename_i b
  obtain⟨l,e,h1,-⟩:=(eG a (am c)).1 b;exact JK.freeL a (yw e h1).1
 ·rename_i b
  split
  ·exact JK.refl h
  ·have h1:=a.inQuar c b
   exact JK.trans (h1:=Ab.inQuar h i) (JK.eq rfl rfl rfl rfl) (JK.recycs (E:=[]) (by rw[List.append_nil];exact h1) d)
theorem JK.take{h:ac}{i:Nat}{k sd:Int}(b:gc h (nth h.Spans i).Page=false):JK h {h with Seed:=sd,Spans:=h.Spans.set i (oQ (nth h.Spans i) k)}:=by
 refine⟨rfl,rfl,λs c a=>?_,λq d=>.inl ⟨d,rfl⟩⟩;obtain⟨j,f,rfl⟩:=bc c;exact⟨_,iy _ f λe=>(by subst e;rw[b]at a;cases a),rfl,λ_ z=>z⟩
theorem xW{t:aG}{q:Nat}(h:(nth t.Entries q).Mode≠0):q<t.Entries.length:=by
 by_cases e:q<t.Entries.length
 ·exact e
 ·exfalso
  apply h;unfold nth;rw[R1,Q1 ω]
  rfl
theorem JK.addS{h:ac}{k:af}{l:List a7}{p c:Int}(s:zb h.Kernel p (k,true)):JK h (addS h k l p c):=by
 obtain⟨f,t,w,d,n⟩:=s.yes rfl;have b:k.Machine.Table.Entries.length=h.Kernel.Machine.Table.Entries.length:=s.len;refine⟨rfl,rfl,λz o _=>⟨z,cU.2 (.inr o),rfl,λ_ y=>y⟩,λq g=>?_⟩;change (nth k.Machine.Table.Entries q).Mode≠0 at g;show((nth h.Kernel.Machine.Table.Entries q).Mode≠0/\(nth k.Machine.Table.Entries q).Frame=(nth h.Kernel.Machine.Table.Entries q).Frame)\/∀u:Nat,(nth k.Machine.Table.Entries u).Mode≠0->(nth k.Machine.Table.Entries u).Frame=(nth k.Machine.Table.Entries q).Frame->u=q
 by_cases e:(q:Int)=p
 ·refine .inr λu i a=>?_
  have j:=xW i;have f3u:=d u;have f3q:=d q;simp only at f3u f3q;rw[C7 e]at f3q;rw[f3q]at a;by_cases r:(u:Int)=p
  ·omega
  ·rw[C6 r]at f3u
   rw[f3u]at i a;exact absurd a (n u (by rw[<-b];exact j) i)
 ·have f3q:=d q
  simp only at f3q;rw[C6 e]at f3q;rw[f3q]at g |-;exact .inl ⟨g,rfl⟩
theorem JK.addL{h:ac}{k:af}{g:List a7}{p size t:Int}{n:Nat}(s:m9 h.Kernel p n (k,n)):JK h (addL h k g p n size t):=by
 have a:k.Machine.Table.Entries.length=h.Kernel.Machine.Table.Entries.length:=s.len;refine⟨rfl,rfl,λz i _=>⟨z,i,rfl,λ_ y=>y⟩,λq b=>?_⟩;change (nth k.Machine.Table.Entries q).Mode≠0 at b;show((nth h.Kernel.Machine.Table.Entries q).Mode≠0/\(nth k.Machine.Table.Entries q).Frame=(nth h.Kernel.Machine.Table.Entries q).Frame)\/∀u:Nat,(nth k.Machine.Table.Entries u).Mode≠0->(nth k.Machine.Table.Entries u).Frame=(nth k.Machine.Table.Entries q).Frame->u=q
 by_cases e:p<=q/\(q:Int)<p+n
 ·exact .inr λu d c=>(s.new q e.1 e.2).2 u (by rw[<-a];exact xW d) d c
 ·have f:=s.out q e
  simp only at f;rw[f]at b |-;exact .inl ⟨b,rfl⟩
theorem qC(h:ac):∀{n:Nat},n<=h.Spans.length->∀s∈jX h n,(aK h s.Page).length=1
 | 0,_,s,a=>by cases a
 | n+1,b,s,a=>by
  unfold jX at a;split at a
  ·rename_i e
   rcases W1.1 a with a|a
   ·exact qC h ω s a
   ·unfold xl at e
    simp only[I0,C0]at e;rw[W0.1 a];exact e.2
  ·exact qC h ω s a
theorem bn.sole{h:ac}{E:List Int}(e:bn h E){s:au}(f:s∈h.Spans)(h1:(aK h s.Page).length=1):ng (tbl h) s.Page:=λq a g=>by
 obtain⟨k,l,b⟩:=e.mapped f;have i:s.Page=((s.Page.toNat:Nat):Int):=ω
 rw[i,dY (by show s.Page.toNat<(tbl h).Entries.length;omega) b]at h1;obtain⟨z,j⟩:=List.length_eq_one_iff.1 h1;have c:(s.Page.toNat:Int)∈pagesOn (tbl h) (nth (tbl h).Entries s.Page.toNat).Frame:=df.2 ⟨ω,b,rfl⟩;have d:(q:Int)∈pagesOn (tbl h) (nth (tbl h).Entries s.Page.toNat).Frame:=df.2 ⟨xW a,a,g⟩;rw[j]at c d;simp only[W0]at c d;omega
theorem D0{h:ac}(l:bn h [])(n:h.Meshing=false):bn (started h).1 []/\JI (started h).1:=by
 have G:=l.nums;unfold ca at G;rw[C0]at G;have M:=(kH (bJ h).length (show 0<=h.Seed/\h.Seed<=1073741823 by omega) ((bJ h).length - 1)).2;have o:=oP (bJ h) (show 0<=h.Seed/\h.Seed<=1073741823 by omega);have c:ca {h with Seed:=(shuf (bJ h).length h.Seed).2} = true:=by
  unfold ca;rw[C0];unfold shuf;simp only;omega
 cases p:lF (bJ h) h.Seed with
 | nil=>
  have f:Ab.started h=({h with Seed:=(shuf (bJ h).length h.Seed).2},false):=by unfold Ab.started;rw[p]
  rw[f];exact⟨{l with nums:=c},⟨λe=>by simp[n]at e,λe=>by simp[n]at e,λe=>by simp[n]at e,λe=>by simp[n]at e⟩⟩
 | cons q R=>
  obtain⟨S,T,g⟩:=o q (by rw[p];exact C1 ..);have f:Ab.started h=({h with Seed:=(shuf (bJ h).length h.Seed).2,Meshing:=true,Job:=tL (dw (nth (bJ h) q.A.toNat) (nth (bJ h) q.B.toNat))},true):=by unfold Ab.started;rw[p]
  rw[f];have d:∀s∈bJ h,s∈h.Spans/\ng (tbl h) s.Page:=λs N=>by
   have H:=List.mem_of_mem_take N;have J:=nI h (Z1 _) s H;exact⟨J,l.sole J (qC h (Z1 _) s H)⟩
  have j:=d _ (am (xs:=bJ h) (i:=q.A.toNat) ω);have k:=d _ (am (xs:=bJ h) (i:=q.B.toNat) ω);generalize nth (bJ h) q.A.toNat=a at g j |-;generalize nth (bJ h) q.B.toNat=b at g k |-;obtain⟨O,U,V⟩:=rh g;have r:(dw a b).Keep=a.Page/\(dw a b).Move=b.Page\/(dw a b).Keep=b.Page/\(dw a b).Move=a.Page:=by
   unfold dw;split
   ·exact .inr ⟨rfl,rfl⟩
   ·exact .inl ⟨rfl,rfl⟩
  have t:iB (tL (dw a b))=true:=eQ.2 ⟨O,by show(0:Int)<=0;omega,by show(0:Int)<=5;omega,by show(0:Int)<=0;omega,by show(0:Int)<=(((dw a b).Cells.length:Nat):Int);omega⟩;have u:∃x∈h.Spans,∃y∈h.Spans,x.Page=(dw a b).Keep/\y.Page=(dw a b).Move/\meshable x y=true/\ng (tbl h) x.Page/\ng (tbl h) y.Page:=by
   rcases r with⟨w,C⟩|⟨w,C⟩
   ·exact⟨a,j.1,b,k.1,w.symm,C.symm,g,j.2,k.2⟩
   ·exact⟨b,k.1,a,j.1,w.symm,C.symm,by rw[ia];exact g,k.2,j.2⟩
  obtain⟨x,K,y,L,D,E,F,P,Q⟩:=u;exact⟨{l with nums:=c,job:=λ_=>⟨t,⟨x,K,D⟩,⟨y,L,E⟩⟩,noj:=λe=>by cases e},⟨λ_=>⟨by show(0:Int)<=0;omega,by show(0:Int)<=3;omega⟩,λ_=>⟨x,K,y,L,D,E,F⟩,λ_=>by show ng (tbl h) (dw a b).Keep;rw[<-D];exact P,λ_=>by show ng (tbl h) (dw a b).Move;rw[<-E];exact Q⟩⟩
def fe(m:aJ)(f:Nat):aJ:=⟨m.Buffers.set f ((nth m.Buffers f).drop 1),m.Inbox.set (nth (nth m.Buffers f) 0).To.toNat (nth m.Inbox (nth (nth m.Buffers f) 0).To.toNat++[(nth (nth m.Buffers f) 0).Addr])⟩
def jP(m:aJ)(t:Nat):aJ:=⟨m.Buffers,m.Inbox.set t []⟩
def ge(m:aJ)(f:Nat)(p:cP):aJ:=⟨m.Buffers.set f (nth m.Buffers f++[p]),m.Inbox⟩
theorem dv{m:aJ} : b9 m=true↔(1<=m.Buffers.length/\m.Buffers.length<=4/\m.Inbox.length=m.Buffers.length)/\(∀i,i<m.Buffers.length->(∀p∈nth m.Buffers i,0<=p.To/\p.To<=(m.Buffers.length:Int) - 1/\0<=p.Addr)/\∀a∈nth m.Inbox i,0<=a)/\bm m m.Buffers.length<=30:=by
 unfold b9;simp only[I0,C0,ch,fT,X2,lJ,KA];exact and_assoc
theorem mu(m:aJ)(f t:Nat)(x:List cP)(y:List Int)(g:f<m.Buffers.length)(h:t<m.Inbox.length):∀n:Nat,bm ⟨m.Buffers.set f x,m.Inbox.set t y⟩ n=bm m n+(if f<n then(x.length:Int) - ((nth m.Buffers f).length:Nat) else 0)+(if t<n then(y.length:Int) - ((nth m.Inbox t).length:Nat) else 0)
 | 0=>by simp[bm]
 | n+1=>by
  have i:=mu m f t x y g h n;have j:(nth (m.Buffers.set f x) n).length=if f=n then x.length else(nth m.Buffers n).length:=by
   rw[cq];by_cases e:f=n
   ·rw[C7 ⟨e,ω⟩,C7 e]
   ·rw[C6 λz=>e z.1,C6 e]
  have k:(nth (m.Inbox.set t y) n).length=if t=n then y.length else(nth m.Inbox n).length:=by
   rw[cq];by_cases e:t=n
   ·rw[C7 ⟨e,ω⟩,C7 e]
   ·rw[C6 λz=>e z.1,C6 e]
  simp only[bm,i,j,k];by_cases d:f=n
  ·subst d
   by_cases b:t=f
   ·subst b
    simp only[if_true,Nat.lt_irrefl,if_false,Nat.lt_succ_self];omega
   ·simp only[if_true,Nat.lt_irrefl,if_false,Nat.lt_succ_self,C6 b]
    by_cases a:t<f
    ·rw[C7 a,C7 (show t<f+1 by omega)];omega
    ·rw[C6 a,C6 (show ¬t<f+1 by omega)];omega
  ·by_cases b:t=n
   ·subst b
    simp only[if_true,Nat.lt_irrefl,if_false,Nat.lt_succ_self,C6 d];by_cases a:f<t
    ·rw[C7 a,C7 (show f<t+1 by omega)];omega
    ·rw[C6 a,C6 (show ¬f<t+1 by omega)];omega
   ·simp only[C6 d,C6 b]
    by_cases a:f<n
    ·rw[C7 a,C7 (show f<n+1 by omega)]
     by_cases c:t<n
     ·rw[C7 c,C7 (show t<n+1 by omega)];omega
     ·rw[C6 c,C6 (show ¬t<n+1 by omega)];omega
    ·rw[C6 a,C6 (show ¬f<n+1 by omega)]
     by_cases c:t<n
     ·rw[C7 c,C7 (show t<n+1 by omega)];omega
     ·rw[C6 c,C6 (show ¬t<n+1 by omega)];omega
theorem KY{α:Type}[Inhabited α]{xs:List α}{i:Nat}(h:i<xs.length):xs.set i (nth xs i)=xs:=by
 rw[<-P1.1 (ah h) |>.2];exact List.set_getElem_self h
theorem B5{m:aJ}(h:b9 m=true){f:Nat}(d:f<m.Buffers.length)(n:0<(nth m.Buffers f).length):b9 (fe m f)=true:=by
 obtain⟨⟨o,q,r⟩,g,y⟩:=dv.1 h;obtain⟨t,A⟩:=g f d;have c:=t _ (am n);have u:(nth (nth m.Buffers f) 0).To.toNat<m.Inbox.length:=ω
 refine dv.2 ⟨⟨?_,?_,?_⟩,λi j=>?_,?_⟩
 ·simp only[fe,X0];exact o
 ·simp only[fe,X0];exact q
 ·simp only[fe,X0];exact r
 ·simp only[fe,X0]at j |-
  obtain⟨k,l⟩:=g i j;simp only[cq];refine⟨λp c=>?_,λa b=>?_⟩
  ·split at c
   ·rename_i e;rw[<-e.1]at k
    refine(g f d).1 p (List.mem_of_mem_drop c)
   ·exact k p c
  ·split at b
   ·rename_i e
    rcases W1.1 b with b|b
    ·rw[e.1]at b;exact l a b
    ·rw[W0.1 b];exact c.2.2
   ·exact l a b
 ·have w:=mu m f (nth (nth m.Buffers f) 0).To.toNat ((nth m.Buffers f).drop 1) (nth m.Inbox (nth (nth m.Buffers f) 0).To.toNat++[(nth (nth m.Buffers f) 0).Addr]) d u m.Buffers.length
  simp only[fe,X0];rw[w,C7 d,C7 ω,N2,I2,List.length_singleton];omega
theorem KU{m:aJ}(h:b9 m=true){t:Nat}(d:t<m.Inbox.length):b9 (jP m t)=true:=by
 obtain⟨⟨e,f,g⟩,j,o⟩:=dv.1 h;refine dv.2 ⟨⟨e,f,?_⟩,λi k=>?_,?_⟩
 ·simp only[jP,X0];exact g
 ·obtain⟨l,n⟩:=j i k
  simp only[jP,cq];refine⟨l,λa b=>?_⟩;split at b
  ·cases b
  ·exact n a b
 ·have c:=mu m t t (nth m.Buffers t) [] ω d m.Buffers.length
  rw[KY ω]at c;show bm ⟨m.Buffers,m.Inbox.set t []⟩ m.Buffers.length<=30;rw[c,C7 ω,C7 ω,List.length_nil];omega
theorem jj{m:aJ}(h:b9 m=true)(b:Int):(aL m).count b=(m.Buffers.flatMap λl=>l.map (·.Addr)).count b+(m.Inbox.flatMap λx=>x).count b:=by
 unfold aL;rw[C7 h,C4,js]
theorem bn.mailed{h:ac}{E c:List Int}{m:aJ}(d:bn h E)(i:b9 m=true)(j:m.Buffers.length=h.Mail.Buffers.length)(k:∀b,c.count b+(aL m).count b=E.count b+(aL h.Mail).count b)(f:∀a,a∈c\/a∈aL m->iK h.Spans a (-1)):bn {h with Mail:=m} c:=by
 have g:(E++holders h).Perm (c++holders {h with Mail:=m}):=by
  refine List.perm_iff_count.2 λb=>?_
  have l:=k b;simp only[holders,bY,C4];omega
 exact {d with
   mail:=i
   nc:=d.nc.trans j.symm
   hfl:=λa e=>f a (.inr e)
   hin:=λa e=>f a (.inl e)
   nd:=g.nodup_iff.1 d.nd
   mem:=λb=>by rw[<-g.mem_iff];exact d.mem b}
theorem Ed{h:ac}{E d:List Int}{m:aJ}(f:bn h E)(g:∀b,d.count b+(aL m).count b=E.count b+(aL h.Mail).count b):∀a,a∈d\/a∈aL m->iK h.Spans a (-1):=λa c=>by
 have i:=g a;have j:0<d.count a+(aL m).count a:=by
  rcases c with c|c
  ·have:=List.count_pos_iff.2 c;omega
  ·have:=List.count_pos_iff.2 c;omega
 by_cases e:0<E.count a
 ·exact f.hin a (List.count_pos_iff.1 e)
 ·exact f.hfl a (List.count_pos_iff.1 ω)
theorem bn.deliv{h:ac}{E:List Int}{f:Nat}(a:bn h E)(e:f<h.Mail.Buffers.length)(d:0<(nth h.Mail.Buffers f).length):bn {h with Mail:=fe h.Mail f} E:=by
 have c:=B5 a.mail e d;obtain⟨⟨q,r,t⟩,j,u⟩:=dv.1 a.mail;have k:=(j f e).1 _ (am d);have g:∀b,E.count b+(aL (fe h.Mail f)).count b=E.count b+(aL h.Mail).count b:=λb=>by
  rw[jj c,jj a.mail];have i:=gJ (λl:List cP=>l.map (·.Addr)) b h.Mail.Buffers f ((nth h.Mail.Buffers f).drop 1) e;have n:=gJ (λx:List Int=>x) b h.Mail.Inbox (nth (nth h.Mail.Buffers f) 0).To.toNat (nth h.Mail.Inbox (nth (nth h.Mail.Buffers f) 0).To.toNat++[(nth (nth h.Mail.Buffers f) 0).Addr]) ω;have o:(nth h.Mail.Buffers f).map (·.Addr)=(nth (nth h.Mail.Buffers f) 0).Addr::((nth h.Mail.Buffers f).drop 1).map (·.Addr):=by
   generalize nth h.Mail.Buffers f=l at d
   match l,d with
   | p::l,_=>rfl
  simp only[fe];rw[o]at i;simp only[List.count_cons]at i;simp only[C4,List.count_singleton]at n;omega
 exact a.mailed c (by simp[fe]) g (Ed a g)
theorem bn.coll{h:ac}{E:List Int}{t:Nat}(c:bn h E)(d:t<h.Mail.Inbox.length):bn {h with Mail:=jP h.Mail t} (nth h.Mail.Inbox t++E):=by
 have a:=KU c.mail d;have e:∀b,(nth h.Mail.Inbox t++E).count b+(aL (jP h.Mail t)).count b=E.count b+(aL h.Mail).count b:=λb=>by
  rw[jj a,jj c.mail];have f:=gJ (λx:List Int=>x) b h.Mail.Inbox t [] d;simp only[List.count_nil]at f;simp only[jP,C4];omega
 exact c.mailed a rfl e (Ed c e)
theorem bn.send{h:ac}{E:List Int}{f:Nat}{p:cP}(c:bn h (p.Addr::E))(e:f<h.Mail.Buffers.length)(a:b9 (ge h.Mail f p)=true):bn {h with Mail:=ge h.Mail f p} E:=by
 have d:∀b,E.count b+(aL (ge h.Mail f p)).count b=(p.Addr::E).count b+(aL h.Mail).count b:=λb=>by
  rw[jj a,jj c.mail];have g:=gJ (λl:List cP=>l.map (·.Addr)) b h.Mail.Buffers f (nth h.Mail.Buffers f++[p]) e;simp only[t4,z4,List.map_nil,C4,List.count_singleton]at g;simp only[ge,List.count_cons];omega
 exact c.mailed a (by simp[ge]) d (Ed c d)
def qm(now:Int):List aM->Nat
 | []=>0
 | x::xs=>if x.Since<now - 100 then qm now xs+1 else 0
def aged(h:ac)(n:Int):ac:={h with Clock:=h.Clock+n,Quar:=⟨h.Quar.Room,h.Quar.Lst.drop (qm (h.Clock+n) h.Quar.Lst)⟩}
def lV(h:ac)(n:Int):List Int:=(h.Quar.Lst.take (qm (h.Clock+n) h.Quar.Lst)).map (·.Addr)
def tick(h:ac)(n:Int):ac:=freeAs (aged h n) (lV h n)
theorem mF(x:aM)(xs:List aM):∀n,quarCells (x::xs) (n+1)=csz x.Class+quarCells xs n
 | 0=>by simp only[quarCells];show 0+csz x.Class=csz x.Class+0;omega
 | n+1=>by
  rw[gK,mF x xs n,gK];show csz x.Class+quarCells xs n+csz (nth xs n).Class=_;omega
theorem LF(k:Int):0<=csz k:=by
 unfold csz;split
 ·exact Int.le_of_lt (Int.pow_pos (by decide))
 ·decide
theorem EO:∀(l:List aM)(k:Nat),qc (l.drop k)<=qc l
 | [],k=>by simp
 | x::xs,0=>T3 _
 | x::xs,k+1=>by
  have a:=EO xs k;have b:=LF x.Class;have c:qc (x::xs)=csz x.Class+qc xs:=mF x xs xs.length;show qc (xs.drop k)<=qc (x::xs);omega
theorem bn.aged{h:ac}{E:List Int}{n:Int}(a:bn h E)(t:0<=n)(u:h.Clock+n<=1000000):bn (aged h n) (lV h n++E):=by
 obtain⟨i,j,k,o,p,q⟩:=iE.1 a.quar;have c:=a.nums;unfold ca at c;rw[C0]at c;have e:=List.drop_sublist (qm (h.Clock+n) h.Quar.Lst) h.Quar.Lst;have g:(E++holders h).Perm ((lV h n++E)++holders (Ab.aged h n)):=by
  refine List.perm_iff_count.2 λb=>?_
  have r:=Q0 (λl:List aM=>(l.map (·.Addr)).count b) (List.take_append_drop (qm (h.Clock+n) h.Quar.Lst) h.Quar.Lst);simp only[t4,C4]at r;simp only[holders,bY,Ab.aged,lV,C4];omega
 exact {a with
   nums:=by unfold ca;rw[C0];simp only[Ab.aged];omega
   quar:=iE.2 ⟨λy d=>i y (e.subset d),j.sublist e,k.sublist (e.map _),o,p,Int.le_trans (EO _ _) q⟩
   snc:=λy d=>by
     have:=a.snc y (e.subset d);show y.Since<=h.Clock+n;omega
   hqu:=λy d=>a.hqu y (e.subset d)
   hin:=λb f=>by
     rcases W1.1 f with f|f
     · obtain⟨y,d,rfl⟩:=C3.1 f
       exact(a.hqu y (List.mem_of_mem_take d)).any
     · exact a.hin b f
   nd:=g.nodup_iff.1 a.nd
   mem:=λb=>by rw[<-g.mem_iff];exact a.mem b}
theorem bn.tick{h:ac}{n:Int}(a:bn h [])(b:0<=n)(c:h.Clock+n<=1000000):bn (tick h n) []/\JK h (tick h n):=by
 have h1:=a.aged b c;exact⟨bn.freeAs h1,JK.trans (h1:=Ab.aged h n) (JK.eq rfl rfl rfl rfl) (JK.freeAs h1)⟩
def collect(h:ac)(t:Nat):ac:=recycs t {h with Mail:=jP h.Mail t} (nth h.Mail.Inbox t)
theorem bn.collect{h:ac}{t:Nat}(a:bn h [])(b:t<h.Caches.length):bn (collect h t) []/\JK h (collect h t):=by
 have h1:=a.coll (t:=t) (by rw[(dv.1 a.mail).1.2.2,<-a.nc];exact b);exact⟨bn.recycs h1 b,JK.trans (h1:={h with Mail:=jP h.Mail t}) (JK.eq rfl rfl rfl rfl) (JK.recycs h1 b)⟩
def Lf(h:ac)(t i:Nat):ac:={h with Kernel:=f9 h.Kernel (nth h.Objs i).Addr (csz (aN (nth h.Objs i).Size)).toNat,Objs:=dele h.Objs i,Mail:=ge h.Mail t ⟨(nth h.Objs i).Thread,(nth h.Objs i).Addr⟩}
def freeT(h:ac)(t i:Nat):ac × Int:=
 if aN (nth h.Objs i).Size<0 then(freeL h i (wH h (nth h.Objs i).Addr),0)
 else if(ar (tbl h) ((nth h.Objs i).Addr / 16)).Mode=1 then(h,5)
 else if(nth h.Objs i).Thread=t then(H5 h t i,0)
 else if b9 (ge h.Mail t ⟨(nth h.Objs i).Thread,(nth h.Objs i).Addr⟩)=true then(Lf h t i,0) else(h,5)
theorem xk{h:ac}{t i:Nat}(e:(nth h.Objs i).Thread=t):freeT h t i=freeOb h t i:=by
 unfold freeT freeOb;rw[C7 e]
theorem bn.freeT{h:ac}{t i:Nat}(a:bn h [])(b:i<h.Objs.length)(c:t<h.Caches.length):bn (freeT h t i).1 []/\JK h (freeT h t i).1:=by
 by_cases e:(nth h.Objs i).Thread=t
 ·rw[xk e];exact⟨a.freeOb b c,JK.freeOb a b c⟩
 have d:=a.freeOb b c;have f:=JK.freeOb a b c;unfold Ab.freeOb at d f;unfold Ab.freeT;split
 ·rename_i g
  rw[C7 g]at d f;exact⟨d,f⟩
 rename_i g;rw[C6 g]at d f;split
 ·exact⟨a,JK.refl h⟩
 split
 ·rename_i j
  obtain⟨⟨s,l,n,o⟩,u⟩:=(eG a (am b)).2 g;have q:=a.dropO b (iK.any ⟨s,l,n,.inr o⟩);have r:=q.cells (k:=f9 h.Kernel (nth h.Objs i).Addr (csz (aN (nth h.Objs i).Size)).toNat) (Ad a.ker _ _) rfl;exact⟨bn.send (p:=⟨(nth h.Objs i).Thread,(nth h.Objs i).Addr⟩) r (by show t<h.Mail.Buffers.length;rw[<-a.nc];exact c) j,JK.eq rfl rfl rfl rfl⟩
 ·exact⟨a,JK.refl h⟩
def kb(k:af)(a v:Int):af:=setCell k (fD k a) (a % 16) v
theorem vF{k:af}(h:aA k=true){a v:Int}(b:(ar k.Machine.Table (a / 16)).Mode≠0)(c:0<=v/\v<=999):aA (kb k a v)=true:=by
 obtain⟨d,e,-⟩:=ij h b;exact pe h (f:=fD k a) d e c
theorem bn.store{h:ac}{a v:Int}(b:bn h [])(c:(ar h.Kernel.Machine.Table (a / 16)).Mode≠0)(d:0<=v/\v<=999):bn {h with Kernel:=kb h.Kernel a v} []/\JK h {h with Kernel:=kb h.Kernel a v}:=
 ⟨b.cells (vF b.ker c d) rfl,JK.eq rfl rfl rfl rfl⟩
open Go.RowKit
set_option maxRecDepth 20000
set_option maxHeartbeats 4000000
theorem KZ{xs:List Int}{x:Int}(h:cw xs.length (λj=>decide (nth xs j≠x))=true):x∉xs:=λb=>by
 obtain⟨j,a⟩:=List.mem_iff_getElem?.1 b;have:=d6 h (P1.1 a).1;rw[bp a]at this;simp at this
theorem B4(xs:List Int)(x:Int)(g:xs.length<=4611686018427387904):ao Tryz.prog 268 false [.val none (aF .imm xs),.val none [I x]] .one [B (decide (x∈xs))]:=by
 refine fO 18 [] Tryz.func268 rfl ?_
 repeat'(first|refine gO ?_|fail)
 (conv=>whnf)
 refine CB (ι:=Nat) (λi=>[(0,.hold .one (aF .imm xs)),(1,.hold .one [I (x)]),(5,.hold .one [I ((i:Nat):Int)])]) (λi=>i<=xs.length/\cw i (λj=>decide (nth xs j≠x))=true) (λi=>xs.length - i) 0 ?_ ⟨P0 _,rfl⟩ λi a=>?_
 ·exact wB
 obtain⟨a,b⟩:=a;by_cases c:i<xs.length
 ·have d:=ah c
  by_cases e:nth xs i=x
  ·repeat'(first|refine gA ?_|(conv=>whnf);first|with_reducible refine C9 (aa d) ?_)
   exact Q0 (λz=>[B z]) ((by symm;exact N0 (by rw[<-e];exact am c)))
  ·repeat'(first|refine gA ?_|(conv=>whnf);first|with_reducible refine C9 (aa d) ?_)
   ((conv=>whnf);refine CA (i+1) ⟨ω,bH b (N0 e)⟩ ω ?_;(exact wB))
 ·repeat'(first|refine gD ?_|fail)
  obtain rfl:i=xs.length:=ω
  exact Q0 (λz=>[B z]) ((by symm;exact O0 (KZ b)))
theorem bE.more{M f:ab}{w g:World}(h:bE M w g)(e:∀b o,M b o->f b o):bE f w g:=
 ⟨h.os,h.tape,h.output,h.size,λb a c=>h.blk b a λo d=>c o (e b o d),λb o a c=>h.cel b o a λd=>c (e b o d),λb o a c=>h.fro b o a λd=>c (e b o d)⟩
theorem aQ.wk{P:Program}{f:Nat}{sh:Bool}{c u:List C}{A B:List MA}{k:Kd}{rcs:List C}(h:aQ P f sh A (.ptr c::B) k rcs)(y:HZ c u):aQ P f sh A (.ptr u::B) k rcs:=by
 refine⟨h.has,λw S V i E F l G=>(h.run w S V i E F l G).mono λe w1 H=>?_⟩;obtain⟨v,J,K,X,L,M,N,n,p,a,q,r,b,O,Q,D⟩:=H;refine⟨v,J,K,X,L,M,N,n,p,a,q,r,b,O,Q,?_⟩;cases i with
 | nil=>exact D.elim
 | cons v0 i=>
  obtain⟨⟨R,Y,T,U,W,⟨g,o,Z,e2⟩,d⟩,t⟩:=D;refine⟨⟨R,Y,T,U,W,⟨g,o,Z,λj hj=>e2 j (by rw[(pn y).1];exact hj)⟩,xZ y d⟩,t⟩
theorem aQ.frame{P:Program}{f:Nat}{sh:Bool}{c c' r:List C}{A B:List MA}{k:Kd}{rcs:List C}(h:aQ P f sh (.ptr c::A) (.ptr c'::B) k rcs)(hl:c'.length=c.length):aQ P f sh (.ptr (c++r)::A) (.ptr (c'++r)::B) k rcs:=by
 refine⟨h.has,λw S V vs hS hV hVd hA=>?_⟩;cases vs with
 | nil=>exact hA.elim
 | cons v0 vs=>
 obtain⟨⟨X1,Y,hX1,hY,O,⟨g,q,rfl,u⟩,ff,hf1,J,hf3⟩,hA'⟩:=hA;have hlen:(c++r).length=c.length+r.length:=I2
 let V0:ab:=piece g q ff 0 c.length
 let W:Nat->ab:=HF V0 (λi=>V (i+1))
 have hcX:∀o,q<=o->o<q+(c++r).length->X1 g o:=λo l a=>by
  have:=(u (o - q) ω).1
  rwa [show q+(o - q)=o by omega]at this
 have hV0:∀b o,V0 b o->V 0 b o:=λb o p=>by
  rcases p with⟨rfl,l,a⟩|⟨j,-,a,Q⟩
  ·exact hX1 _ _ (hcX o ω ω)
  ·exact hY _ _ (J j ω b o Q)
 have K:∀i b o,W i b o->V i b o:=λi b o p=>by
  cases i with
  | zero=>exact hV0 b o p
  | succ i=>exact p
 have hA2:JG w S W (.ptr c::A) (.pointer (some ⟨g,q,none⟩)::vs):=by
  refine⟨?_,hA'⟩;have:=re (lo:=0) (n:=c.length) (cs:=c++r) ω u hf1 J hf3 O;rw[show bo (c++r) 0 c.length=c by simp[bo]]at this;simp only[U4,Nat.add_zero]at this;exact this
 refine(h.run w S W _ hS (λi b o p=>hV i b o (K i b o p)) (λi i' D b o l a=>hVd i i' D b o (K i b o l) (K i' b o a)) hA2).mono λe w1 hv=>?_
 obtain⟨v,he,hk,X,V',S1,hX,E,hS1,hVd',hXV,hXS,hVS1,hh,hr,hm⟩:=hv;have H:∀b o,(∃i,W i b o)->∃i,V i b o:=λb o ⟨i,Z⟩=>⟨i,K i b o Z⟩
 let R:ab:=λb o=>V 0 b o/\¬V0 b o
 have hRW:∀b o,R b o->¬∃i,W i b o:=λb o y ⟨i,Z⟩=>by
  cases i with
  | zero=>exact y.2 Z
  | succ i=>exact hVd 0 (i+1) ω b o y.1 Z
 have F:∀b o,R b o->b<w.heap.size:=λb o y=>(hV 0 b o y.1).1
 have t:∀b o,R b o->¬((∃i,W i b o)\/(b<w1.heap.size/\w.heap.size<=b)):=λb o y p=>by
  rcases p with p|p
  ·exact hRW b o y p
  ·have:=F b o y;omega
 have hRsame:bh R w w1:=λb o y=>⟨hk.cel b o (F b o y) (hRW b o y),hk.fro b o (F b o y) (hRW b o y)⟩
 have hRS1:∀b o,R b o->¬S1 b o:=λb o y hs=>by
  rcases hS1 b o hs with⟨-,l⟩|l
  ·exact(hV 0 b o y.1).2 l
  ·exact t b o y l
 have hSsame:bh S w w1:=λb o hb=>⟨hk.cel b o (hS b o hb) (λ⟨i,Z⟩=>(hV i b o (K i b o Z)).2 hb),hk.fro b o (hS b o hb) (λ⟨i,Z⟩=>(hV i b o (K i b o Z)).2 hb)⟩
 have hRc:∀j,c.length<=j->j<(c++r).length->R g (q+j):=λj l a=>by
  refine⟨hX1 _ _ (u j a).1,λp=>?_⟩;rcases p with⟨-,Q,h4⟩|⟨N,Q,h4,h5⟩
  ·omega
  ·exact O _ _ (u j a).1 (J N ω _ _ h5)
 have L:∀j,c.length<=j->j<(c++r).length->∀b o,ff j b o->R b o:=λj l a b o p=>by
  refine⟨hY _ _ (J j a b o p),λhp=>?_⟩;rcases hp with⟨rfl,Q,h4⟩|⟨N,Q,h4,h5⟩
  ·exact O _ _ (hcX o ω ω) (J j a _ _ p)
  ·exact hf3 j N a ω ω b o p h5
 let U:Nat->ab:=HF (λb o=>V' 0 b o\/R b o) (λi=>V' (i+1))
 have hU:∀i b o,U i b o->V' i b o\/(i=0/\R b o):=λi b o p=>by
  cases i with
  | zero=>exact p.imp id (λh=>⟨rfl,h⟩)
  | succ i=>exact .inl p
 refine⟨v,he,hk.more H,X,U,S1,λb o p=>(hX b o p).imp (H b o) id,λi b o p=>?_,λb o p=>(hS1 b o p).imp id (Or.imp (H b o) id),λi i' D b o l a=>?_,λi b o l a=>?_,hXS,λi b o l a=>?_,hh,hr,?_,hm.2⟩
 ·rcases hU i b o p with l|⟨-,l⟩
  ·exact(E i b o l).imp (H b o) id
  ·exact .inl ⟨0,l.1⟩
 ·rcases hU i b o l with l|⟨e1,l⟩
  ·rcases hU i' b o a with a|⟨e2,a⟩
   ·exact hVd' i i' D b o l a
   ·exact t b o a (E i b o l)
  ·rcases hU i' b o a with a|⟨e2,a⟩
   ·exact t b o l (E i' b o a)
   ·exact D ω
 ·rcases hU i b o a with a|⟨-,a⟩
  ·exact hXV i b o l a
  ·exact t b o a (hX b o l)
 ·rcases hU i b o l with l|⟨-,l⟩
  ·exact hVS1 i b o l a
  ·exact hRS1 b o l a
 ·obtain⟨Xa,Ya,ha1,ha2,ha3,⟨ga,oa,hea,ha4⟩,fa,ha5,ha6,ha7⟩:=(show nM w1 (λb o=>S b o\/S1 b o) (V' 0) (.ptr c') (.pointer (some ⟨g,q,none⟩)) from hm.1)
  obtain⟨rfl,rfl⟩ : g=ga/\q=oa:=by simpa using hea
  have G:(c'++r).length=c.length+r.length:=by rw[I2,hl]
  show nM w1 (λb o=>S b o\/S1 b o) (λb o=>V' 0 b o\/R b o) (.ptr (c'++r)) (.pointer (some ⟨g,q,none⟩));have faV:∀j,j<c.length->∀b o,fa j b o->V' 0 b o:=λj M b o p=>ha2 _ _ (ha6 j ω b o p)
  refine⟨λb o=>Xa b o\/(R b o/\∃j,c.length<=j/\j<(c++r).length/\b=g/\o=q+j),λb o=>Ya b o\/∃j,c.length<=j/\j<(c++r).length/\ff j b o,λb o p=>?_,λb o p=>?_,λb o l a=>?_,⟨g,q,rfl,λj M=>?_⟩,λj=>if j<c.length then fa j else ff j,λj d M=>?_,λj M b o p=>?_,λj N M hj' D b o l a=>?_⟩
  ·exact p.imp (ha1 b o) (·.1)
  ·rcases p with p|⟨j,l,a,Q⟩
   ·exact .inl (ha2 b o p)
   ·exact .inr (L j l a b o Q)
  ·rcases l with l|⟨l,j,j1,j2,rfl,rfl⟩
   ·rcases a with a|⟨j,j1,j2,j3⟩
    ·exact ha3 b o l a
    ·exact t b o (L j j1 j2 b o j3) (E 0 b o (ha1 b o l))
   ·rcases a with a|⟨N,j3,j4,j5⟩
    ·exact t _ _ l (E 0 _ _ (ha2 _ _ a))
    ·exact O _ _ (u j j2).1 (J N j4 _ _ j5)
  ·rw[G]at M
   by_cases hc:j<c.length
   ·have:=ha4 j ω
    exact⟨.inl this.1,this.2⟩
   ·have y:=hRc j ω ω
    have hs:=hRsame _ _ y;have T:=u j ω;refine⟨.inr ⟨y,j,ω,ω,rfl,rfl⟩,?_,?_⟩
    ·rw[hs.1];exact T.2.1
    ·rw[hs.2];exact T.2.2
  ·dsimp only
   by_cases hc:j<c.length
   ·rw[C7 hc]
    rw[N3 ω]at M;exact ha5 j d M
   ·rw[C6 hc]
    rw[O3 ω,hl]at M;have hj2:(c++r)[j]? = some d:=by rw[O3 ω];exact M
    have hjl:=(P1.1 hj2).1;have Q:=(hf1 j d hj2).keep hSsame (λb o p=>hRsame b o (L j ω hjl b o p));have T:=(hRsame _ _ (hRc j ω hjl)).1;have:bQ w1 .box (.pointer (some ⟨g,q,none⟩)) j=bQ w .box (.pointer (some ⟨g,q,none⟩)) j:=by
     simp only[bQ];rw[T]
    rw[this];exact Q.mono (λ_ _ h=>.inl h) (λ_ _ h=>h)
  ·rw[G]at M
   split at p
   ·rename_i hc;exact .inl (ha6 j ω b o p)
   ·exact .inr ⟨j,ω,ω,p⟩
  ·rw[G]at M hj'
   split at l
   ·rename_i c1
    split at a
    ·exact ha7 j N ω ω D b o l a
    ·exact t b o (L N ω ω b o a) (E 0 b o (faV j c1 b o l))
   ·split at a
    ·rename_i c1;exact t b o (L j ω ω b o l) (E 0 b o (faV N c1 b o a))
    ·exact hf3 j N ω ω D b o l a
mutual
theorem M7:∀c:C,fz (fz c)=fz c
 | .v x=>by simp[fz]
 | .s o rows=>by simp only[fz];rw[E8 rows]
 | .x=>by simp[fz]
 | .z=>by simp[fz]
 | .m _=>by simp[fz]
 | .it _ _=>by simp[fz]
theorem E8:∀a:List (List C),fzR (fzR a)=fzR a
 | []=>rfl
 | r::a=>by simp only[fzR];rw[pE r,E8 a]
theorem pE:∀cs:List C,d5 (d5 cs)=d5 cs
 | []=>rfl
 | c::cs=>by simp only[d5];rw[M7 c,pE cs]
end
theorem ll(k:af)(a:aA k=true)(e:k.Calls≠100000):aQ Tryz.prog 347 false [.ptr (af.enc .own k)] [.ptr (af.enc .own (de k))] .one [B (!refd k)]:=by
 have b:=b8 a;have c:=(aC.1 a).2.2.2.2;have d:=B4 k.Refuse k.Calls (by have:=b.2;omega);refine fM 22 [] [(2,9,[11,12,13,14,15,16,17,18,19])] [(0,0)] Tryz.func347 rfl (λu q=>?_)
 repeat'(first|refine gO ?_|(conv=>whnf);first|refine CD (d) ⟨⟨rfl,dz _⟩,⟨rfl,Q0 (λz=>[I z]) ω⟩,trivial⟩ ?_)
 refine CC rfl ?_ ?_
 ·rfl
 ·exact wB
theorem mb(k:af)(p m:Int)(a:aA k=true)(j:k.Calls≠100000)(d:(ar k.Machine.Table p).Mode≠0)(l:m=1\/m=2):aQ Tryz.prog 406 false [.ptr (af.enc .own k),.val none [I p],.val none [I m]] [.ptr (af.enc .own (jF k p m).1),.val none [I p],.val none [I m]] .one [B (jF k p m).2]:=by
 have n:=b8 a;have b:=ll k a j;have g:=dO (de k) p n.1.2;have c:=aD m 1 2;rw[N0 ω]at c;obtain⟨o,t,w,-⟩:=co a d;have h:=ah (xs:=k.Machine.Table.Entries) (i:=p.toNat) ω;have r:¬(ar (de k).Machine.Table p).Mode=0:=d;unfold jF;cases e:refd k<;>rw[e]at b
 ·rw[C6 (by simp),FJ]
  refine fM 31 [(347,[2])] [] [(0,0),(0,0),(0,0)] Tryz.func406 rfl (λu q=>?_)
  repeat'(first|refine gA ?_|(conv=>whnf);first|refine CF (b) (.inl rfl) ?_|refine CD (g) ⟨CL (de k),⟨rfl,rfl⟩,trivial⟩ ?_|refine C5 (c) ?_|refine CI o (aa h) ?_|refine CK rfl rfl (aa h) rfl (U0 rfl) rfl ?_)
  refine CC rfl ?_ ?_
  ·rfl
  ·exact wB
 ·rw[C7 rfl]
  refine fM 31 [(347,[2])] [] [(0,0),(0,0),(0,0)] Tryz.func406 rfl (λu q=>?_)
  repeat'(first|refine gA ?_|(conv=>whnf);first|refine CF (b) (.inl rfl) ?_|refine CD (g) ⟨CL (de k),⟨rfl,rfl⟩,trivial⟩ ?_|refine C5 (c) ?_)
  refine CC rfl ?_ ?_
  ·rfl
  ·exact wB
theorem Rw.two{c:List C}{off i k j d e b:Nat}{K:List C->Nat->Prop}{o f:du}{rows rows2:List (List C)}{r a:List C}(h1:c[off]? = some (.s o rows))(g:rows[i]? = some r)(h:r.length=k)(l:r[j]? = some (.s f rows2))(n:rows2[d]? = some a)(p:a.length=e)(q:K a b):Rw c off [(i,k,j),(d,e,b)] K:=
 Rw.mk (r:=a) (j:=b) (by simp[bO,h1,g,h,l,n,p]) q
theorem wu(k:af)(a b c:Int)(h:aA k=true)(F:(ar k.Machine.Table a).Mode≠0)(G:(ar k.Machine.Table b).Mode≠0)(g:0<=c/\c<=15):aQ Tryz.prog 407 false [.ptr (af.enc .own k),.val none [I a],.val none [I b],.val none (aF .imm [c])] [.ptr (af.enc .own (wQ k a b c)),.val none [I a],.val none [I b],.val none (aF .imm [c])] .one [B true]:=by
 have w:=b8 h;have H:=dO k a w.1.2;have J:=dO k b w.1.2;have y:=aD c 0 15;rw[N0 g]at y;obtain⟨K,O,L,C,P⟩:=co h F;obtain⟨M,Q,D,E,R⟩:=co h G;have N:=(bf.1 (aC.1 h).2.1).2.2.1;have S:=row16 h (f:=l7 k a) (by unfold l7;omega);have T:=row16 h (f:=l7 k b) (by unfold l7;omega);have d:k.Machine.Frames.Cells[(ar k.Machine.Table a).Frame.toNat]? = some (nth k.Machine.Frames.Cells (l7 k a)):=ah ω;have e:k.Machine.Frames.Cells[(ar k.Machine.Table b).Frame.toNat]? = some (nth k.Machine.Frames.Cells (l7 k b)):=ah ω;have l:=ah (xs:=nth k.Machine.Frames.Cells (l7 k a)) (i:=c.toNat) ω;have o:=ah (xs:=nth k.Machine.Frames.Cells (l7 k b)) (i:=c.toNat) ω;have p:=ah (xs:=k.Machine.Table.Entries) (i:=a.toNat) ω;have r:=ah (xs:=k.Machine.Table.Entries) (i:=b.toNat) ω;rw[L]at C d;rw[D]at E e;have t:[c][0]? = some c:=rfl;refine fM 90 [] [(13,28,[61,62,63,64,65,66,67,68,69,70,71,72,73,74,75,76,77,78,79,80,81,82,83,84,85,86,87,88])] [(0,0),(0,0),(0,0),(0,0)] Tryz.func407 rfl (λu q=>?_)
 repeat'(first|refine gA ?_|(conv=>whnf);first|refine C8 ?_|refine CD (H) ⟨CL k,⟨rfl,rfl⟩,trivial⟩ ?_|refine CD (J) ⟨CL k,⟨rfl,rfl⟩,trivial⟩ ?_)
 (conv=>whnf)
 refine CB (ι:=Nat) (λn=>[(0,.hold .box (af.enc .own k)),(1,.hold .one [I (a)]),(2,.hold .one [I (b)]),(3,.hold .one (aF .imm [c])),(9,.hold .one [I ((n:Nat):Int)])]) (λn=>n<=1) (λn=>1 - n) (0) ?_ (P0 _) λn U=>?_
 ·exact wB
 by_cases V:n<1
 ·obtain rfl:n=0:=ω
  repeat'(first|refine gD ?_|(conv=>whnf);first|refine C8 ?_|refine CI (by decide) (aa t) ?_|refine C5 (y) ?_)
  ((conv=>whnf);refine CA 1 ω ω ?_;(exact wB))
 ·obtain rfl:n=1:=ω
  repeat'(first|refine gD ?_|(conv=>whnf);first|refine C8 ?_|refine CI K (aa p) ?_|refine CI M (aa r) ?_|refine CE rfl (aa p) rfl ?_|refine CE rfl (aa r) rfl ?_)
  (conv=>whnf)
  refine CB (ι:=Nat) (λj=>[(0,.hold .box (af.enc .own (Lb k a b c j))),(3,.hold .one (aF .imm [c])),(10,.hold .one [I ((nth k.Machine.Table.Entries a.toNat).Frame)]),(11,.hold .one [I ((nth k.Machine.Table.Entries b.toNat).Frame)]),(12,.hold .one [I ((j:Nat):Int)])]) (λj=>j<=1) (λj=>1 - j) (0) ?_ (P0 _) λj W=>?_
  ·exact wB
  by_cases X:j<1
  ·obtain rfl:j=0:=ω
   repeat'(first|refine gD ?_|(conv=>whnf);first|refine C8 ?_|refine CI (by decide) (aa t) ?_|refine CI C (aa d) ?_|refine CI E (aa e) ?_|refine CI g.1 (aa l) ?_|refine CI g.1 (aa o) ?_|refine CE rfl (aa e) rfl ?_|refine CE rfl (aa d) rfl ?_|refine Rw.two rfl (aa d) rfl rfl (aa l) rfl ?_|refine Pu.two rfl rfl (aa e) rfl rfl rfl (aa o) rfl (Z1 _) rfl ?_)
   ((conv=>whnf);refine CA 1 ω ω ?_)
   rw[show Lb k a b c 1=wQ k a b c from rfl];unfold wQ;rw[Aa,show l7 k b=(nth k.Machine.Table.Entries b.toNat).Frame.toNat by unfold l7;rw[D]];exact wB
  ·obtain rfl:j=1:=ω
   repeat'(first|refine gD ?_|(conv=>whnf);first|refine C8 ?_)
   refine CC rfl ?_ ?_
   ·rfl
   ·exact wB
theorem D1(k:af)(p o:Int)(a:aA k=true)(y:k.Calls≠100000)(g:(ar k.Machine.Table p).Mode≠0)(h:(ar k.Machine.Table o).Mode≠0)(C:p≠o):aQ Tryz.prog 408 false [.ptr (af.enc .own k),.val none [I p],.val none [I o]] [.ptr (af.enc .own (ya k p o).1),.val none [I p],.val none [I o]] .one [B (ya k p o).2]:=by
 have b:=b8 a;have c:=ll k a y;have j:=dO (de k) p b.1.2;have l:=dO (de k) o b.1.2;obtain⟨D,K,E,n,r⟩:=co a g;obtain⟨F,L,M,N,O⟩:=co a h;have G:=(bf.1 (aC.1 a).2.1).2.2.1;have d:=ah (xs:=k.Machine.Table.Entries) (i:=p.toNat) ω;have t:=ah (xs:=k.Machine.Table.Entries) (i:=o.toNat) ω;have H:¬(ar (de k).Machine.Table p).Mode=0:=g;have J:¬(ar (de k).Machine.Table o).Mode=0:=h;rw[E]at n r;have w:=yF (ve (de k) p.toNat ⟨2,(nth k.Machine.Table.Entries o.toNat).Frame⟩) (nth k.Machine.Table.Entries p.toNat).Frame (GL _ _ b.1.2) ⟨n,by show _<((k.Machine.Frames.Cells.length:Nat):Int);omega,r⟩;rw[Hz]at w;unfold ya;cases e:refd k<;>rw[e]at c
 ·rw[C6 (by simp)]
  refine fM 60 [(347,[2]),(349,[2,0])] [(4,274,[38,39,40,41,42,43,44,45,46,47,48,49,50,51,52,53,54,56,0,1,2,3,4,5,6,7,8,9,10,11,12,13,14,15,16,17,1000,1001,1002,1003,1004,1005,1006,18,19])] [(0,0),(0,0),(0,0)] Tryz.func408 rfl (λu q=>?_)
  repeat'(first|refine gA ?_|(conv=>whnf);first|refine C8 ?_|refine CF (c) (.inl rfl) ?_|refine CD (j) ⟨CL (de k),⟨rfl,rfl⟩,trivial⟩ ?_|refine CD (l) ⟨CL (de k),⟨rfl,rfl⟩,trivial⟩ ?_|refine CI D (aa d) ?_|refine CI F (aa t) ?_|refine CE rfl (aa d) rfl ?_|refine CE rfl (aa t) rfl ?_|refine CK rfl rfl (aa d) rfl (U0 rfl) rfl ?_|refine CF (w) (.inl rfl) ?_)
  refine CC rfl ?_ ?_
  ·rfl
  ·exact wB
 ·rw[C7 rfl]
  refine fM 60 [(347,[2]),(349,[2,0])] [(4,274,[38,39,40,41,42,43,44,45,46,47,48,49,50,51,52,53,54,56,0,1,2,3,4,5,6,7,8,9,10,11,12,13,14,15,16,17,1000,1001,1002,1003,1004,1005,1006,18,19])] [(0,0),(0,0),(0,0)] Tryz.func408 rfl (λu q=>?_)
  repeat'(first|refine gA ?_|(conv=>whnf);first|refine C8 ?_|refine CF (c) (.inl rfl) ?_|refine CD (j) ⟨CL (de k),⟨rfl,rfl⟩,trivial⟩ ?_|refine CD (l) ⟨CL (de k),⟨rfl,rfl⟩,trivial⟩ ?_)
  refine CC rfl ?_ ?_
  ·rfl
  ·exact wB
theorem vX(m:aS)(a:Int)(d:aS.sml m)(c:0<=a/\a<512):ao Tryz.prog 411 false [.val (some 3) (aS.enc .imm m),.val none [I a]] (.tup [some 2,none]) (bj.enc .own (ar m.Table (a / 16))++[I (a % 16)]):=by
 have e:=cH m.Table (a / 16) d.2;have b:a.tmod 16=a % 16:=f8 c.1;refine fO 16 [] Tryz.func411 rfl ?_ (.inr ⟨trivial,trivial,trivial,trivial⟩)
 repeat'(first|refine gD ?_|(conv=>whnf);first|refine C8 ?_|refine C5 (e) ?_|refine CH (od c) ?_|refine CJ (by decide) ?_|refine CP b ?_)
 rfl
theorem BZ(m:aS)(a v:Int)(o:db m=true)(e:aS.sml m)(p:0<=a/\a<512)(q:0<=v/\v<=999)(r:(ar m.Table (a / 16)).Mode≠0->0<=(ar m.Table (a / 16)).Frame/\(ar m.Table (a / 16)).Frame<m.Frames.Cells.length/\(nth m.Frames.Cells (ar m.Table (a / 16)).Frame.toNat).length=16):ao Tryz.prog 410 false [.val (some 3) (aS.enc .imm m),.val none [I a],.val none [I v]] (.tup [some 3,none]) (aS.enc .own (kv m a v).1++[I (kv m a v).2]):=by
 have c:=mE m e;rw[o]at c;have g:=pD m e;have h:=vX m a e p;have d:=aD v 0 999;rw[N0 q]at d;have b:=aS.enc_fr (kv m a v).1;unfold kv at b |-;by_cases j:(ar m.Table (a / 16)).Mode=0
 ·rw[C7 j]at b |-
  refine fO 47 [] Tryz.func410 rfl ?_ (.inr (aO b ⟨trivial,trivial⟩))
  repeat'(first|refine gA ?_|(conv=>whnf);first|refine C8 ?_|refine C5 (c) ?_|refine C5 (g) ?_|refine C5 (h) ?_|refine C5 (d) ?_)
  rfl
 ·rw[C6 j]at b |-
  by_cases l:(ar m.Table (a / 16)).Mode=1
  ·rw[C7 l]at b |-
   refine fO 47 [] Tryz.func410 rfl ?_ (.inr (aO b ⟨trivial,trivial⟩))
   repeat'(first|refine gA ?_|(conv=>whnf);first|refine C8 ?_|refine C5 (c) ?_|refine C5 (g) ?_|refine C5 (h) ?_|refine C5 (d) ?_)
   rfl
  ·rw[C6 l]at b |-
   obtain⟨t,u,w⟩:=r j;have k:=ah (xs:=m.Frames.Cells) (i:=(ar m.Table (a / 16)).Frame.toNat) ω;have n:=ah (xs:=nth m.Frames.Cells (ar m.Table (a / 16)).Frame.toNat) (i:=(a % 16).toNat) ω;simp only at b |-;rw[BY]at b |-;refine fO 47 [] Tryz.func410 rfl ?_ (.inr (aO b ⟨trivial,trivial⟩))
   repeat'(first|refine gA ?_|(conv=>whnf);first|refine C8 ?_|refine C5 (c) ?_|refine C5 (g) ?_|refine C5 (h) ?_|refine C5 (d) ?_|refine CI t (aa k) ?_|refine CI ω (aa n) ?_|refine CE rfl (aa k) rfl ?_|refine Pu.two rfl rfl (aa k) rfl rfl rfl (aa n) rfl (Z1 _) rfl ?_)
   rfl
theorem kB{k:af}{j:cF} : jmay k j=true↔(aA k=true/\k.Calls≠100000)/\iB j=true/\(ar k.Machine.Table j.Plan.Keep).Mode≠0/\(ar k.Machine.Table j.Plan.Move).Mode≠0/\(ar k.Machine.Table j.Plan.Keep).Frame≠(ar k.Machine.Table j.Plan.Move).Frame:=by
 unfold jmay;simp only[I0,C0]
theorem kT{p:cr}(h:ef p=true):p.Cells.length<=16:=by
 unfold ef at h;simp only[I0]at h;have a:∀i,i<p.Cells.length->(i:Int)<=nth p.Cells i:=λi=>by
  induction i with
  | zero=>
   intro a;have:=d6 h.1 a;unfold ly at this;rw[C0]at this;exact this.1
  | succ i b=>
   intro a;have c:=b ω;have:=d6 h.1 a;unfold ly at this;rw[C0]at this;have d:=this.2.2.resolve_left ω;rw[Nat.add_sub_cancel]at d;omega
 by_cases e:p.Cells.length<=16
 ·exact e
 ·exfalso
  have c:=a 16 ω;have:=d6 h.1 (show 16<p.Cells.length by omega);unfold ly at this;rw[C0]at this;omega
theorem G2{j:cF}(h:iB j=true):cF.sml j:=by
 have:=kT (eQ.1 h).1;show j.Plan.Cells.length<=1048576;omega
theorem qO{k:af}(h:aA k=true):db k.Machine=true:=by
 unfold aA at h;simp only[I0]at h;exact h.1.2
theorem yG(k:af)(j:cF)(p:jmay k j=true)(g:j.Phase=3):aQ Tryz.prog 409 false [.ptr (af.enc .own k),.ptr (ur j)] [.ptr (af.enc .own (jstep k j).1),.ptr (ur (jstep k j).2)] (.tup []) []:=by
 obtain⟨⟨a,r⟩,t,c,d,w⟩:=kB.1 p;obtain⟨h,H,J,K,L⟩:=eQ.1 t;have y:=b8 a;obtain⟨M,N,O,B,P⟩:=co a c;have l:=(bx.1 (aC.1 a).2.2.1).2.2;have C:=kT h;have D:=(bf.1 (aC.1 a).2.1).2.2.1;unfold jstep;rw[C6 ω,C6 ω,C6 ω,C7 g];by_cases n:0<j.Next
 ·rw[C7 n]
  have o:=kI h (i:=(j.Next - 1).toNat) ω;have E:=ah (xs:=j.Plan.Cells) (i:=(j.Next - 1).toNat) ω;have F:0<=j.Plan.Keep*16+nth j.Plan.Cells (j.Next - 1).toNat/\j.Plan.Keep*16+nth j.Plan.Cells (j.Next - 1).toNat<512:=ω
  have G:(j.Plan.Keep*16+nth j.Plan.Cells (j.Next - 1).toNat) / 16=j.Plan.Keep:=ω
  have b:=BZ k.Machine (j.Plan.Keep*16+nth j.Plan.Cells (j.Next - 1).toNat) 0 (qO a) y.1 F ω (λ_=>by rw[G];exact⟨B,ω,row16 a (f:=l7 k j.Plan.Keep) (by unfold l7;omega)⟩);generalize (kv k.Machine (j.Plan.Keep*16+nth j.Plan.Cells (j.Next - 1).toNat) 0).1=m at b |-;generalize (kv k.Machine (j.Plan.Keep*16+nth j.Plan.Cells (j.Next - 1).toNat) 0).2=e at b;refine fM 59 [(406,[2,0,0])] [(2,283,[20,21,22,23,24,25,26,27,28,29,30,31,32,33,34,35,36,37,38,39,40,41,42,19,43,44,4,0,1,2,3,4,5,6,7,8,9,10,11,12,13,14,15,16,17,18,19,20,21,22,23,24,25,26,27,1025,28])] [(0,0),(1,0)] Tryz.func409 rfl (λu q=>?_) (.inr trivial)
  repeat'(first|refine gD ?_|(conv=>whnf);first|refine C8 ?_|refine CD (b) ⟨⟨rfl,aS.enc_fz k.Machine⟩,⟨rfl,rfl⟩,⟨rfl,rfl⟩,trivial⟩ ?_|refine CI ω (aa E) ?_|refine C8 ?_)
  refine CC rfl rfl ?_;exact wC
 ·rw[C6 n]
  have b:=mb k j.Plan.Move 2 a r d (.inr rfl);cases e:(jF k j.Plan.Move 2).2<;>rw[e]at b
  ·refine fM 59 [(406,[2,0,0])] [(2,283,[20,21,22,23,24,25,26,27,28,29,30,31,32,33,34,35,36,37,38,39,40,41,42,19,43,44,4,0,1,2,3,4,5,6,7,8,9,10,11,12,13,14,15,16,17,18,19,20,21,22,23,24,25,26,27,1025,28])] [(0,0),(1,0)] Tryz.func409 rfl (λu q=>?_) (.inr trivial)
   repeat'(first|refine gD ?_|(conv=>whnf);first|refine C8 ?_|refine CF (b) (.inl rfl) ?_)
   refine CC rfl rfl ?_;rw[<-g];exact wC
  ·refine fM 59 [(406,[2,0,0])] [(2,283,[20,21,22,23,24,25,26,27,28,29,30,31,32,33,34,35,36,37,38,39,40,41,42,19,43,44,4,0,1,2,3,4,5,6,7,8,9,10,11,12,13,14,15,16,17,18,19,20,21,22,23,24,25,26,27,1025,28])] [(0,0),(1,0)] Tryz.func409 rfl (λu q=>?_) (.inr trivial)
   repeat'(first|refine gD ?_|(conv=>whnf);first|refine C8 ?_|refine CF (b) (.inl rfl) ?_)
   refine CC rfl rfl ?_;exact wC
theorem yy(k:af)(j:cF)(g:jmay k j=true):aQ Tryz.prog 396 false [.ptr (af.enc .own k),.ptr (ur j)] [.ptr (af.enc .own (jstep k j).1),.ptr (ur (jstep k j).2)] (.tup []) []:=by
 obtain⟨⟨h,p⟩,B,c,b,l⟩:=kB.1 g;obtain⟨r,F,G,H,J⟩:=eQ.1 B;have n:j.Plan.Move≠j.Plan.Keep:=λe=>l (by rw[e])
 have C:=kT r;by_cases d:j.Phase=0
 ·have a:=mb k j.Plan.Move 1 h p b (.inl rfl)
  unfold jstep;rw[C7 d];cases e:(jF k j.Plan.Move 1).2<;>rw[e]at a
  ·refine fM 80 [(406,[2,0,0]),(407,[2,0,0,0]),(408,[2,0,0]),(409,[2,2])] [(7,7,[27,28,29,30,31,32,33]),(9,14,[38,39,40,41,42,43,44,45,46,47,48,49,50,51])] [(0,0),(1,0)] Tryz.func396 rfl (λu q=>?_) (.inr trivial)
   repeat'(first|refine gA ?_|(conv=>whnf);first|refine C8 ?_|refine CF (a) (.inl rfl) ?_)
   refine CC rfl rfl ?_;exact wC
  ·refine fM 80 [(406,[2,0,0]),(407,[2,0,0,0]),(408,[2,0,0]),(409,[2,2])] [(7,7,[27,28,29,30,31,32,33]),(9,14,[38,39,40,41,42,43,44,45,46,47,48,49,50,51])] [(0,0),(1,0)] Tryz.func396 rfl (λu q=>?_) (.inr trivial)
   repeat'(first|refine gA ?_|(conv=>whnf);first|refine C8 ?_|refine CF (a) (.inl rfl) ?_)
   refine CC rfl rfl ?_;exact wC
 by_cases o:j.Phase=1
 ·unfold jstep
  rw[C6 d,C7 o];by_cases t:j.Next=j.Plan.Cells.length
  ·rw[C7 t]
   refine fM 80 [(406,[2,0,0]),(407,[2,0,0,0]),(408,[2,0,0]),(409,[2,2])] [(7,7,[27,28,29,30,31,32,33]),(9,14,[38,39,40,41,42,43,44,45,46,47,48,49,50,51])] [(0,0),(1,0)] Tryz.func396 rfl (λu q=>?_) (.inr trivial)
   repeat'(first|refine gA ?_|(conv=>whnf);first|refine C8 ?_|refine C8 ?_)
   refine CC rfl rfl ?_;exact wC
  ·rw[C6 t]
   have D:=ah (xs:=j.Plan.Cells) (i:=j.Next.toNat) ω;have a:=wu k j.Plan.Move j.Plan.Keep (nth j.Plan.Cells j.Next.toNat) h b c (kI r ω);have E:=(kB.1 g).2.1;refine fM 80 [(406,[2,0,0]),(407,[2,0,0,0]),(408,[2,0,0]),(409,[2,2])] [(7,7,[27,28,29,30,31,32,33]),(9,14,[38,39,40,41,42,43,44,45,46,47,48,49,50,51])] [(0,0),(1,0)] Tryz.func396 rfl (λu q=>?_) (.inr trivial)
   repeat'(first|refine gA ?_|(conv=>whnf);first|refine C8 ?_|refine CF a (.inr ⟨rfl,af.enc_fr _,trivial⟩) ?_|refine CI ω (aa D) ?_|refine C8 ?_)
   refine CC rfl rfl ?_;exact wC
 by_cases w:j.Phase=2
 ·have a:=D1 k j.Plan.Move j.Plan.Keep h p b c n
  unfold jstep;rw[C6 d,C6 o,C7 w];cases e:(ya k j.Plan.Move j.Plan.Keep).2<;>rw[e]at a
  ·refine fM 80 [(406,[2,0,0]),(407,[2,0,0,0]),(408,[2,0,0]),(409,[2,2])] [(7,7,[27,28,29,30,31,32,33]),(9,14,[38,39,40,41,42,43,44,45,46,47,48,49,50,51])] [(0,0),(1,0)] Tryz.func396 rfl (λu q=>?_) (.inr trivial)
   repeat'(first|refine gA ?_|(conv=>whnf);first|refine C8 ?_|refine CF (a) (.inl rfl) ?_)
   refine CC rfl rfl ?_;exact wC
  ·refine fM 80 [(406,[2,0,0]),(407,[2,0,0,0]),(408,[2,0,0]),(409,[2,2])] [(7,7,[27,28,29,30,31,32,33]),(9,14,[38,39,40,41,42,43,44,45,46,47,48,49,50,51])] [(0,0),(1,0)] Tryz.func396 rfl (λu q=>?_) (.inr trivial)
   repeat'(first|refine gA ?_|(conv=>whnf);first|refine C8 ?_|refine CF (a) (.inl rfl) ?_)
   refine CC rfl rfl ?_;exact wC
 by_cases y:j.Phase=3
 ·have a:=yG k j g y
  refine fM 80 [(406,[2,0,0]),(407,[2,0,0,0]),(408,[2,0,0]),(409,[2,2])] [(7,7,[27,28,29,30,31,32,33]),(9,14,[38,39,40,41,42,43,44,45,46,47,48,49,50,51])] [(0,0),(1,0)] Tryz.func396 rfl (λu q=>?_) (.inr trivial)
  repeat'(first|refine gA ?_|(conv=>whnf);first|refine C8 ?_|refine CF (a) (.inl rfl) ?_)
  refine CC rfl rfl ?_;exact wC
 ·unfold jstep
  rw[C6 d,C6 o,C6 w,C6 y];refine fM 80 [(406,[2,0,0]),(407,[2,0,0,0]),(408,[2,0,0]),(409,[2,2])] [(7,7,[27,28,29,30,31,32,33]),(9,14,[38,39,40,41,42,43,44,45,46,47,48,49,50,51])] [(0,0),(1,0)] Tryz.func396 rfl (λu q=>?_) (.inr trivial)
  repeat'(first|refine gA ?_|(conv=>whnf);first|refine C8 ?_)
  refine CC rfl rfl ?_;exact wC
theorem Bq(k:af)(j:cF)(e:aA k=true)(i:iB j=true):ao Tryz.prog 395 false [.val (some 5) (af.enc .imm k),.val (some 5) (cF.enc .imm j)] .one [B (jmay k j)]:=by
 have c:=b8 e;have b:d5 (af.enc .imm k)=af.enc .imm k:=by rw[<-CL k,pE]
 have r:=(aC.1 e).2.2.2.2;have a:=kh k c;rw[e]at a;have d:=tz j (G2 i);rw[i]at d;have l:=dO k j.Plan.Keep c.1.2;have n:=dO k j.Plan.Move c.1.2;have t:=cH k.Machine.Table j.Plan.Keep c.1.2;have u:=cH k.Machine.Table j.Plan.Move c.1.2;by_cases o:k.Calls=100000
 ·rw[O0 ω]at a
  rw[show jmay k j=false by rw[<-X3,kB];exact λh=>h.1.2 o];refine fO 44 [(3,16,[27,28,29,30,31,32,33,34,35,36,37,38,39,40,41,42])] Tryz.func395 rfl ?_
  repeat'(first|refine gO ?_|(conv=>whnf);first|refine C8 ?_|refine C5 (a) ?_|refine C5 (d) ?_)
  rfl
 rw[N0 ω]at a;by_cases p:(ar k.Machine.Table j.Plan.Keep).Mode=0
 ·rw[show jmay k j=false by rw[<-X3,kB];exact λh=>h.2.2.1 p]
  refine fO 44 [(3,16,[27,28,29,30,31,32,33,34,35,36,37,38,39,40,41,42])] Tryz.func395 rfl ?_
  repeat'(first|refine gA ?_|(conv=>whnf);first|refine C8 ?_|refine C5 (a) ?_|refine C5 (d) ?_|refine CD (l) ⟨b,⟨rfl,rfl⟩,trivial⟩ ?_|refine CD (n) ⟨b,⟨rfl,rfl⟩,trivial⟩ ?_)
  rfl
 by_cases q:(ar k.Machine.Table j.Plan.Move).Mode=0
 ·rw[show jmay k j=false by rw[<-X3,kB];exact λh=>h.2.2.2.1 q]
  refine fO 44 [(3,16,[27,28,29,30,31,32,33,34,35,36,37,38,39,40,41,42])] Tryz.func395 rfl ?_
  repeat'(first|refine gA ?_|(conv=>whnf);first|refine C8 ?_|refine C5 (a) ?_|refine C5 (d) ?_|refine CD (l) ⟨b,⟨rfl,rfl⟩,trivial⟩ ?_|refine CD (n) ⟨b,⟨rfl,rfl⟩,trivial⟩ ?_)
  rfl
 refine fO 44 [(3,16,[27,28,29,30,31,32,33,34,35,36,37,38,39,40,41,42])] Tryz.func395 rfl ?_
 repeat'(first|refine gA ?_|(conv=>whnf);first|refine C8 ?_|refine C5 (a) ?_|refine C5 (d) ?_|refine CD (l) ⟨b,⟨rfl,rfl⟩,trivial⟩ ?_|refine CD (n) ⟨b,⟨rfl,rfl⟩,trivial⟩ ?_|refine C5 (t) ?_|refine C5 (u) ?_|refine C8 ?_)
 exact Q0 (λz=>[B z]) (by
   unfold jmay;rw[e,i,N0 o];by_cases g:(ar k.Machine.Table j.Plan.Keep).Frame=(ar k.Machine.Table j.Plan.Move).Frame
   · rw[O0 (λh=>h.2.2 g)];simp[g]
   · rw[N0 ⟨p,q,g⟩];simp[g])
theorem ze(j:cF):ao Tryz.prog 397 false [.val (some 5) (cF.enc .imm j)] .one [B (over j)]:=by
 by_cases a:j.Phase=4
 ·rw[show over j=true from N0 (.inl a)]
  refine fO 11 [] Tryz.func397 rfl ?_
  repeat'(first|refine gA ?_|(conv=>whnf);first|refine C8 ?_)
  rfl
 ·rw[show over j=decide (j.Phase=5) from decide_eq_decide.2 ω]
  refine fO 11 [] Tryz.func397 rfl ?_
  repeat'(first|refine gA ?_|(conv=>whnf);first|refine C8 ?_)
  exact Q0 (λz=>[B z]) (by rw[Q3];simp)
def El(x:ac):List C:=(bu x).set 21 .z
theorem B9{x:ac}(h:x.Job.Plan.Cells=[]):HZ (El x) (bu x):=by
 unfold El bu;simp only[List.set,h,List.map_nil]
 repeat'(first|exact trivial|exact dE _|refine CG ?_ ?_|rfl)
theorem zd(h:ac)(j:bn h [])(k:h.Meshing=true):aQ Tryz.prog 368 false [.ptr (bu h)] [.ptr (bu (mStep h))] .one [B (Au h)]:=by
 obtain⟨l,-,-⟩:=j.job k;have b:=Bq h.Kernel h.Job j.ker l;have a:=ze (iC h.Kernel h.Job).2;unfold Au mStep;cases e:jmay h.Kernel h.Job with
 | false=>
  rw[e]at b;have d:iC h.Kernel h.Job=(h.Kernel,h.Job):=by unfold iC;rw[e];rfl
  rw[d]at a |-;simp only at a |-;cases g:over h.Job<;>rw[g]at a
  ·refine fM 39 [(396,[3,5,5])] [(1,8,[4,5,6,7,8,9,10,11]),(2,6,[13,14,15,16,17,18])] [(0,0)] Tryz.func368 rfl (λu q=>?_)
   repeat'(first|refine gO ?_|(conv=>whnf);first|refine CD (b) ⟨⟨rfl,CL h.Kernel⟩,⟨rfl,rfl⟩,trivial⟩ ?_|refine C5 (a) ?_|refine C8 ?_)
   refine CC rfl ?_ ?_
   ·exact Q0 (λz=>[B z]) (by rw[Q3];simp)
   ·exact wC
  ·refine aQ.wk (c:=El _) ?_ (B9 rfl)
   refine fM 39 [(396,[3,5,5])] [(1,8,[4,5,6,7,8,9,10,11]),(2,6,[13,14,15,16,17,18])] [(0,0)] Tryz.func368 rfl (λu q=>?_)
   repeat'(first|refine gO ?_|(conv=>whnf);first|refine CD (b) ⟨⟨rfl,CL h.Kernel⟩,⟨rfl,rfl⟩,trivial⟩ ?_|refine C5 (a) ?_|refine C8 ?_)
   refine CC rfl ?_ ?_
   ·exact Q0 (λz=>[B z]) (by rw[Q3];simp)
   ·exact wC
 | true=>
  rw[e]at b;have d:iC h.Kernel h.Job=jstep h.Kernel h.Job:=by unfold iC;rw[e];rfl
  have i:=yy h.Kernel h.Job e;rw[d]at a |-;generalize jstep h.Kernel h.Job=r at i a |-;cases g:over r.2<;>rw[g]at a
  ·refine fM 39 [(396,[3,5,5])] [(1,8,[4,5,6,7,8,9,10,11]),(2,6,[13,14,15,16,17,18])] [(0,0)] Tryz.func368 rfl (λu q=>?_)
   repeat'(first|refine gO ?_|(conv=>whnf);first|refine CD (b) ⟨⟨rfl,CL h.Kernel⟩,⟨rfl,rfl⟩,trivial⟩ ?_|refine C5 (a) ?_|refine CF (i) (.inl rfl) ?_|refine C8 ?_)
   refine CC rfl ?_ ?_
   ·exact Q0 (λz=>[B z]) (by rw[Q3];simp)
   ·exact wC
  ·refine aQ.wk (c:=El _) ?_ (B9 rfl)
   refine fM 39 [(396,[3,5,5])] [(1,8,[4,5,6,7,8,9,10,11]),(2,6,[13,14,15,16,17,18])] [(0,0)] Tryz.func368 rfl (λu q=>?_)
   repeat'(first|refine gO ?_|(conv=>whnf);first|refine CD (b) ⟨⟨rfl,CL h.Kernel⟩,⟨rfl,rfl⟩,trivial⟩ ?_|refine C5 (a) ?_|refine CF (i) (.inl rfl) ?_|refine C8 ?_)
   refine CC rfl ?_ ?_
   ·exact Q0 (λz=>[B z]) (by rw[Q3];simp)
   ·exact wC
theorem Em{k:Int} : ∀{l s s2 c:List Int}(n:Nat),(∀x∈s2,x∈s)->pk k s l=some c->∃d,pk k s2 (l.take n)=some d/\∀x∈d,x∈c
 | [],s,s2,c,n,h,e=>by
  simp only[pk,R0,List.take_nil]at e |-;subst e;exact⟨s2,rfl,h⟩
 | a::l,s,s2,c,0,h,e=>⟨s2,rfl,λx b=>(mP (λ_ y=>y) e).1 x (h x b)⟩
 | a::l,s,s2,c,n+1,h,e=>by
  simp only[List.take_succ_cons,pk]at e |-;split at e
  ·rename_i g
   rw[C7 (show good k s2 a from⟨g.1,g.2.1,g.2.2.1,λx=>g.2.2.2 (h a x)⟩)];exact Em (l:=l) (s:=s++[a]) (s2:=s2++[a]) n (λx b=>by
     rcases W1.1 b with b|b
     · exact W1.2 (.inl (h x b))
     · exact W1.2 (.inr b)) e
  ·cases e
theorem AK:∀{a:List (List Int)}{k:Nat}{s s2:List Int}(i n:Nat),(∀x∈s2,x∈s)->(fp k s a).isSome=true->(fp k s2 (a.set i ((nth a i).take n))).isSome=true
 | [],_,_,_,_,_,_,_=>rfl
 | l::a,k,s,s2,i,n,h,e=>by
  simp only[fp,dK]at e;split at e
  ·rename_i g
   cases b:pk k s l with
   | none=>rw[b]at e;cases e
   | some j=>
    rw[b]at e;cases i with
    | zero=>
     obtain⟨c,d,f⟩:=Em n h b;simp only[List.set_cons_zero,fp,dK];rw[C7 ⟨by have:=g.1;simp only[nth,List.getD_cons_zero,Z0];omega,g.2⟩];show((pk (k:Nat) s2 (l.take n)).bind λj=>fp (k+1) j a).isSome=true;rw[d];exact qI f e
    | succ i=>
     obtain⟨o,c,d,f⟩:=mP h b;simp only[List.set_cons_succ,fp,dK];rw[C7 g,d];exact AK i n f e
  ·cases e
theorem Ky{c:aB}(h:bq c=true)(k:Nat):bq (qv c k)=true:=by
 unfold bq at h |-;simp only[I0,C0]at h |-;exact⟨by simp only[qv,X0];exact h.1,AK k _ (λ_ h=>h) h.2⟩
def ne(b:Int):Nat->List Int
 | 0=>[]
 | j+1=>if aW b (j:Nat)=true then ne b j else ne b j++[((j:Nat):Int)]
theorem qV{b:Int} : ∀{n:Nat}{z:Int},z∈ne b n->0<=z/\z<n/\aW b z=false
 | 0,_,h=>by cases h
 | n+1,z,h=>by
  unfold ne at h;split at h
  ·have:=qV h;exact⟨this.1,ω,this.2.2⟩
  ·rename_i e
   rcases W1.1 h with h|h
   ·have:=qV h;exact⟨this.1,ω,this.2.2⟩
   ·rw[W0.1 h];exact⟨ω,ω,by simpa using e⟩
theorem qS(b:Int):∀n,(ne b n).length<=n
 | 0=>Z1 _
 | n+1=>by have:=qS b n;unfold ne;split<;>simp<;>omega
def oD(k b:Int):List Int:=if Jt k b=true then ne b (slots k).toNat else []
def lT(h:ac)(i:Nat):List Int:=oD (nth h.Spans i).Class (fZ h i)
theorem vt{k b z:Int}(h:z∈oD k b):0<=z/\z<slots k/\aW b z=false:=by
 unfold oD at h;split at h
 ·have:=qV h;exact⟨this.1,ω,this.2.2⟩
 ·cases h
theorem BQ(k b:Int):(oD k b).length<=16:=by
 unfold oD;split
 ·rename_i h
  unfold Jt at h;rw[C0]at h;have:=(fH (k:=k) ⟨h.1,h.2.1⟩).2.2.1;have:=qS b (slots k).toNat;omega
 ·exact P0 _
def oo(h:ac)(i:Nat):Int:=nth (lT h i) (GP h.Seed ((lT h i).length:Nat)).toNat
def slotT(h:ac)(i:Nat):ac:={h with Seed:=Fa h.Seed,Spans:=h.Spans.set i (oQ (nth h.Spans i) (oo h i))}
def rJ(h:ac)(i:Nat):Int:=16*(nth h.Spans i).Page+oo h i*csz (nth h.Spans i).Class
theorem xf{h:ac}{i:Nat}(a:0<(lT h i).length):oo h i∈lT h i:=by
 have:=uZ h.Seed (n:=((lT h i).length:Nat)) ω;exact am ω
theorem bn.slotT{h:ac}{E:List Int}{i:Nat}(a:bn h E)(b:i<h.Spans.length)(e:0<(lT h i).length):bn (slotT h i) (rJ h i::E)/\iK (slotT h i).Spans (rJ h i) (nth h.Spans i).Class:=by
 obtain⟨c,d,f⟩:=vt (xf e);exact⟨a.take b ⟨c,d⟩ f (DZ _),(iK.setS a.L b ⟨c,d⟩ _ _).2 (.inr ⟨rfl,.inr rfl⟩)⟩
def q8(h:ac)(c:Int)(i:Nat):Bool:=decide ((nth h.Spans i).Class=c)&&(!gc h (nth h.Spans i).Page&&decide (0<(lT h i).length))
def qH(h:ac)(c:Int):Option Nat:=(List.range h.Spans.length).find? (q8 h c)
def uP(h:ac)(c:Int):ac:=addS h (fI h.Kernel (ay h.Free 1).2.1).1 (ay h.Free 1).1 (ay h.Free 1).2.1 c
def sw(h:ac):Nat:=jh (Fo (ay h.Free 1).2.1) h.Spans
def qn(h:ac)(i:Nat):ac × Int:=if(lT h i).length=0 then(h,-1) else(slotT h i,rJ h i)
def fX(h:ac)(t c:Nat):ac × Int:=
 if 0<(nth (nth h.Caches t).Lists c).length then({h with Caches:=h.Caches.set t (qv (nth h.Caches t) c)},nth (nth (nth h.Caches t).Lists c) ((nth (nth h.Caches t).Lists c).length - 1))
 else match qH h c with
 | some i=>(slotT h i,rJ h i)
 | none=>if(ay h.Free 1).2.2=false then(h,-1)
  else if(fI h.Kernel (ay h.Free 1).2.1).2=false then({h with Kernel:=(fI h.Kernel (ay h.Free 1).2.1).1},-1)
  else qn (uP h c) (sw h)
theorem EM{α:Type}[Inhabited α](p:α->Bool)(xs:List α)(y:α):jh p xs<(ix p xs y).length/\nth (ix p xs y) (jh p xs)=y:=by
 have b:=Kq p xs;have a:(xs.take (jh p xs)).length=jh p xs:=by rw[Z0];omega
 refine⟨by rw[(jo p xs y).length_eq,List.length_cons];omega,bp ?_⟩;unfold ix;rw[O3 ω,a,Nat.sub_self]
 rfl
theorem bn.tEq{h:ac}{E:List Int}(a:bn h E){k:af}(c:aA k=true)(b:tEq (tbl h) k.Machine.Table):bn {h with Kernel:=k} E/\JK h {h with Kernel:=k}:=
 ⟨a.step (j:=h.Job) (m:=h.Meshing) c b.1 (a.pg.tEq b) a.job a.noj,⟨rfl,rfl,λs d _=>⟨s,d,rfl,λ_ z=>z⟩,λq e=>.inl ⟨(b.2 q).1.1 e,(b.2 q).2⟩⟩⟩
structure Mx(h:ac)(c:Int)(r:ac × Int):Prop where
 no:r.2<0->bn r.1 []
 yes:0<=r.2->bn r.1 [r.2]/\iK r.1.Spans r.2 c
 jk:JK h r.1
 nx:r.1.Next=h.Next
 cl:r.1.Caches.length=h.Caches.length
theorem iK.nn{h:ac}{E:List Int}(b:bn h E){a c:Int}(d:iK h.Spans a c):0<=a:=(iK.bd b d).1
theorem Mx.slot{h h':ac}{i:Nat}{c:Int}(g:bn h' [])(j:i<h'.Spans.length)(k:0<(lT h' i).length)(l:(nth h'.Spans i).Class=c)(n:JK h h')(a:gc h' (nth h'.Spans i).Page=false)(h1:h'.Next=h.Next)(o:h'.Caches.length=h.Caches.length):Mx h c (slotT h' i,rJ h' i):=by
 obtain⟨d,f⟩:=g.slotT j k;have b:=iK.nn d f;exact⟨λe=>absurd b (by simp only at e;omega),λ_=>⟨d,by rw[<-l];exact f⟩,n.trans (JK.take a),h1,o⟩
theorem wZ{h:ac}{t c:Nat}(a:bn h [])(q:t<h.Caches.length)(P:c<=3)(B:h.Kernel.Calls<=90000):Mx h c (fX h t c):=by
 have f:=a.cach _ (am q);have C:=rX f;unfold fX;split
 ·rename_i D
  obtain⟨d,b⟩:=a.pop q ω D (Ky f c);have l:=iK.nn a b;exact⟨λe=>absurd l (by simp only at e;omega),λ_=>⟨d,b⟩,JK.eq rfl rfl rfl rfl,rfl,X0 ..⟩
 split
 ·rename_i i r
  have g:=List.find?_some r;have E:=List.mem_range.1 (List.mem_of_find?_eq_some r);unfold q8 at g;simp only[I0,C0,Bool.not_eq_true']at g;exact Mx.slot a E g.2.2 g.1 (JK.refl h) g.2.1 rfl rfl
 split
 ·exact⟨λ_=>a,λe=>absurd e (by show ¬(0:Int)<=-1;decide),JK.refl h,rfl,rfl⟩
 rename_i F;have j:(ay h.Free 1).2.2=true:=by simpa using F
 obtain⟨G,H,J,u⟩:=jZ a (T3 1) j;have s:=zb.of (p:=(ay h.Free 1).2.1) a.ker ω ⟨G,by have:(ay h.Free 1).2.1+1<=(h.Kernel.Machine.Table.Entries.length:Nat):=H;omega⟩ (J _ ω ω);split
 ·rename_i n
  rw[s.no n];obtain⟨d,b⟩:=a.tEq (kL a.ker ω) (tEq.refl _);exact⟨λ_=>d,λe=>absurd e (by show ¬(0:Int)<=-1;decide),b,rfl,rfl⟩
 rename_i n;have o:(fI h.Kernel (ay h.Free 1).2.1).2=true:=by simpa using n
 have w:zb h.Kernel (ay h.Free 1).2.1 ((fI h.Kernel (ay h.Free 1).2.1).1,true):=by rw[<-o];exact s
 have d:=a.addS (c:=c) ⟨ω,ω⟩ j w;have b:JK h (uP h c):=JK.addS w;obtain⟨K,A⟩:=EM (Fo (ay h.Free 1).2.1) h.Spans ⟨(ay h.Free 1).2.1,c,0⟩;unfold qn;split
 ·exact⟨λ_=>d,λe=>absurd e (by show ¬(0:Int)<=-1;decide),b,rfl,rfl⟩
 ·refine Mx.slot (h':=uP h c) (i:=sw h) d K ω (by show(nth (ix (Fo (ay h.Free 1).2.1) h.Spans ⟨(ay h.Free 1).2.1,c,0⟩) (sw h)).Class=_;unfold sw;rw[A]) b ?_ rfl rfl
  show gc (uP h c) (nth (ix (Fo (ay h.Free 1).2.1) h.Spans ⟨(ay h.Free 1).2.1,c,0⟩) (sw h)).Page=false;unfold sw;rw[A,b.pg];rw[<-X3];intro k;unfold gc at k;simp only[I0,N4,C0]at k;obtain⟨-,⟨y,L,M⟩,⟨z,N,O⟩⟩:=a.job k.1;rcases k.2 with e|e
  ·exact u _ (T3 _) ω (by rw[e,<-M];exact di L)
  ·exact u _ (T3 _) ω (by rw[e,<-O];exact di N)
def kQ(size:Int):Nat:=((size+15) / 16).toNat
def ik(h:ac)(size:Int):af × Nat:=cB h.Kernel (ay h.Free (kQ size:Nat)).2.1 (kQ size)
def oE(h:ac)(t size:Int):ac × Int × Int:=
 if(ay h.Free (kQ size:Nat)).2.2=false then(h,-1,4)
 else if(ik h size).2=kQ size then(addL h (ik h size).1 (ay h.Free (kQ size:Nat)).1 (ay h.Free (kQ size:Nat)).2.1 (kQ size:Nat) size t,16*(ay h.Free (kQ size:Nat)).2.1,0)
 else({h with Kernel:=dH (ik h size).1 (ay h.Free (kQ size:Nat)).2.1 (ik h size).2},-1,4)
def rj(xs:List bG):Nat->Int
 | 0=>0
 | i+1=>rj xs i+(nth xs i).Size
def tJ(h:ac):Int:=rj h.Objs h.Objs.length
def fW(h:ac)(t size:Int):ac × Int × Int:=
 if 1000000<=h.Next\/90000<h.Kernel.Calls then(h,-1,5)
 else if ¬(0<=t/\t<=h.Caches.length - 1) then(h,-1,1)
 else if ¬(1<=size/\size<=1000) then(h,-1,2)
 else if h.Limit<tJ h+size then(h,-1,3)
 else if 0<=aN size then(if(fX h t.toNat (aN size).toNat).2<0 then((fX h t.toNat (aN size).toNat).1,-1,4) else(addO (fX h t.toNat (aN size).toNat).1 (fX h t.toNat (aN size).toNat).2 size t,(fX h t.toNat (aN size).toNat).2,0))
 else oE h t size
theorem Fs{h:ac}{t size:Int}(a:bn h [])(g:9<=size/\size<=1000)(i:h.Next<1000000)(j:h.Kernel.Calls<=90000)(k:0<=t/\t<=h.Caches.length - 1):bn (oE h t size).1 []/\JK h (oE h t size).1:=by
 have l:(kQ size:Int)=(size+15) / 16:=by unfold kQ;omega
 unfold oE;split
 ·exact⟨a,JK.refl h⟩
 rename_i o;have b:(ay h.Free (kQ size:Nat)).2.2=true:=by simpa using o
 obtain⟨c,d,e,w⟩:=jZ a (show(1:Int)<=(kQ size:Nat) by omega) b;have s:=m9.of (p:=(ay h.Free (kQ size:Nat)).2.1) (n:=kQ size) a.ker ω ⟨c,d⟩ e (kQ size) (Z1 _);split
 ·rename_i q
  have f:m9 h.Kernel (ay h.Free (kQ size:Nat)).2.1 (kQ size) ((ik h size).1,kQ size):=by
   have:((ik h size).1,kQ size)=ik h size:=by rw[<-q]
   rw[this];exact s
  exact⟨a.addL g l b f i k,JK.addL f⟩
 ·obtain⟨r,u⟩:=s.undo a.ker ⟨c,d⟩ e
  exact a.tEq r u
theorem G5{h:ac}{t size:Int}(a:bn h []):bn (fW h t size).1 []/\JK h (fW h t size).1:=by
 unfold fW;split
 ·exact⟨a,JK.refl h⟩
 rename_i d;rw[not_or]at d;split
 ·exact⟨a,JK.refl h⟩
 rename_i n;split
 ·exact⟨a,JK.refl h⟩
 rename_i o;split
 ·exact⟨a,JK.refl h⟩
 split
 ·rename_i b
  have f:aN size<=3:=by unfold aN;repeat' split<;>omega
  have s:=wZ (t:=t.toNat) (c:=(aN size).toNat) a ω ω ω;generalize fX h t.toNat (aN size).toNat=r at s;split
  ·rename_i e;exact⟨s.no e,s.jk⟩
  ·rename_i e
   obtain⟨g,i⟩:=s.yes ω;refine⟨g.addO (.inl ?_) (by rw[s.nx];omega) (by rw[s.cl];omega),s.jk.trans (JK.eq rfl rfl rfl rfl)⟩;obtain⟨z,j,k,p⟩:=i;exact⟨z,j,k,by show z.Class=aN size;omega⟩
 ·rename_i b
  have l:9<=size:=by
   unfold aN at b
   repeat' split at b<;>omega
  exact Fs a ⟨l,ω⟩ ω ω ω
theorem lS{α β:Type}[Inhabited α]{f:α->β}{xs:List α}{i:Nat}{y:α}(a:i<xs.length)(e:f y=f (nth xs i)):(xs.set i y).map f=xs.map f:=by
 rw[I4];refine List.ext_getElem (by simp) λj b c=>?_
 rw[List.getElem_set];split
 ·rename_i g;subst g
  rw[List.getElem_map,e,bp (O1 a)]
 ·rfl
theorem md{α β:Type}[Inhabited α](f:α->List β):∀(xs:List α)(i:Nat)(y:α),i<xs.length->(f y).Sublist (f (nth xs i))->((xs.set i y).flatMap f).Sublist (xs.flatMap f)
 | [],_,_,h,_=>absurd h (Nat.not_lt_zero _)
 | x::xs,0,y,_,a=>by
  rw[List.set_cons_zero,R4,R4];exact List.Sublist.append a (List.Sublist.refl _)
 | x::xs,i+1,y,h,a=>by
  rw[List.set_cons_succ,R4,R4];exact List.Sublist.append (List.Sublist.refl _) (md f xs i y (by simpa using h) a)
def zK(k:af)(a:Int):Nat->af
 | 0=>k
 | m+1=>kb (zK k a m) (a+m) 0
theorem vE(k:af)(a:Int):∀m,(zK k a m).Machine.Table=k.Machine.Table/\(zK k a m).Calls=k.Calls/\(zK k a m).Refuse=k.Refuse
 | 0=>⟨rfl,rfl,rfl⟩
 | m+1=>vE k a m
theorem Lh{k:af}(h:aA k=true){a:Int} : ∀{m:Nat},(∀j:Nat,j<m->(ar k.Machine.Table ((a+j) / 16)).Mode≠0)->aA (zK k a m)=true
 | 0,_=>h
 | m+1,b=>vF (Lh h λj c=>b j ω) (by rw[(vE k a m).1];exact b m ω) ⟨ω,ω⟩
theorem Dv{h:ac}{E:List Int}(j:bn h E){sp:List au}{la:List a8}{o:List a7}{p:Int}{n:Nat}(y:p+n<=h.Kernel.Machine.Table.Entries.length)(A:sp.Sublist h.Spans)(M:∀l∈la,∀q∈lpgs l l.Pages.toNat,∃w∈h.Larges,q∈lpgs w w.Pages.toNat)(N:0<=p)(B:∀q,q∈pgs sp la↔q∈pgs h.Spans h.Larges/\¬(p<=q/\q<p+n))(O:∀q,RH o q↔RH h.Free q\/(p<=q/\q<p+n)) :
  Pg (dH h.Kernel p n).Machine.Table o sp la:=by
 have b:=(gS h.Kernel p n).1;have d:=kR j.ker N n y;have f:∀q:Nat,(q:Int)∈pgs sp la->nth (dH h.Kernel p n).Machine.Table.Entries q=nth (tbl h).Entries q:=λq c=>by rw[d,C6 ((B q).1 c).2];rfl
 have a:∀q:Nat,(nth (dH h.Kernel p n).Machine.Table.Entries q).Mode≠0↔(nth (tbl h).Entries q).Mode≠0/\¬(p<=q/\(q:Int)<p+n):=λq=>by
  rw[d];by_cases e:p<=q/\(q:Int)<p+n
  ·rw[C7 e];exact⟨λx=>absurd rfl x,λx=>absurd e x.2⟩
  ·rw[C6 e];exact⟨λx=>⟨x,e⟩,λx=>x.1⟩
 refine⟨λl g q c r J C k=>?_,λq c=>?_,λq c=>?_,λq c=>?_,λs g u D F K=>?_⟩
 ·have t:=(a r).1 C
  rw[b]at J;rw[f q (eO g c),d,C6 t.2]at k;obtain⟨w,G,H⟩:=M l g _ c;exact j.pg.one w G q H r J t.1 k
 ·rw[b];exact j.pg.bnd q ((B q).1 c).1
 ·rw[b]at c
  rw[a,B,j.pg.own q c]
 ·rw[b]at c
  rw[a,O,j.pg.fre q c]
  grind
 ·have i:∀s∈sp,0<=s.Page:=λs g=>(aE (j.L.sok s (A.subset g))).1
  have P:=f s.Page.toNat (by rw[Int.toNat_of_nonneg (i s g)];exact di g);have Q:=f u.Page.toNat (by rw[Int.toNat_of_nonneg (i u D)];exact di D);rw[P,Q]at K;exact j.pg.mesh s (A.subset g) u (A.subset D) F K
def trimL(l:a8)(size:Int):a8:=⟨l.Page,(size+15) / 16,size⟩
def d3(l:a8)(size:Int):Nat:=(l.Pages - (size+15) / 16).toNat
theorem bn.trimL{h:ac}{E:List Int}{i k:Nat}{size:Int}(t:bn h E)(T:i<h.Objs.length)(H:k<h.Larges.length)(Y:(nth h.Objs i).Addr=16*(nth h.Larges k).Page)(N:9<=size/\size<=(nth h.Larges k).Size) :
  ∃o,(d3 (nth h.Larges k) size=0->o=h.Free)/\(0<d3 (nth h.Larges k) size->dl (dG h) h.Free ⟨(nth h.Larges k).Page+(size+15) / 16,(d3 (nth h.Larges k) size:Nat)⟩ = some o)/\
   bn {h with Kernel:=dH h.Kernel ((nth h.Larges k).Page+(size+15) / 16) (d3 (nth h.Larges k) size),Larges:=h.Larges.set k (trimL (nth h.Larges k) size),Objs:=h.Objs.set i {nth h.Objs i with Size:=size},Free:=o} E:=by
 have U:=t.L;have C:=U.lok _ (am H);have hf:=aT C;unfold bP at C;rw[C0]at C;obtain⟨b1,b2⟩:=yk t H;have O:=U.dis;have G:=λj n=>U.one j k n H
 have y:=(am H:nth h.Larges k∈h.Larges)
 have d:∀z∈h.Larges.set k (Ab.trimL (nth h.Larges k) size),z=Ab.trimL (nth h.Larges k) size\/∃j,j<h.Larges.length/\j≠k/\nth h.Larges j=z:=λz N=>en N
 have p:Ab.trimL (nth h.Larges k) size∈h.Larges.set k (Ab.trimL (nth h.Larges k) size):=gT _ H;have u:∀j,j<h.Larges.length->j≠k->nth h.Larges j∈h.Larges.set k (Ab.trimL (nth h.Larges k) size):=λj n e=>iy _ n e
 have hpageM:(h.Larges.set k (Ab.trimL (nth h.Larges k) size)).map (·.Page)=h.Larges.map (·.Page):=lS H rfl;have w:(pgs h.Spans (h.Larges.set k (Ab.trimL (nth h.Larges k) size))).Sublist (pgs h.Spans h.Larges):=by
  unfold pgs;refine List.Sublist.append (List.Sublist.refl _) (md _ _ _ _ H ?_);unfold lpgs;exact(List.range_sublist.2 (by simp only[Ab.trimL];omega)).map _
 obtain⟨l,V⟩ : ∃l,nth h.Larges k=l:=⟨_,rfl⟩
 rw[V]at C hf b1 b2 G y d p u hpageM w Y N |-;generalize hla:h.Larges.set k (Ab.trimL l size)=la at d p u hpageM w |-;have hn1:(1:Int)<=(size+15) / 16/\(size+15) / 16+(d3 l size:Nat)=l.Pages:=by unfold d3;omega
 have D:∀q,q∈lpgs l l.Pages.toNat↔l.Page<=q/\q<l.Page+l.Pages:=λq=>by
  rw[cZ];constructor
  ·rintro⟨j,n,rfl⟩;omega
  ·rintro⟨Z,q2⟩;exact⟨(q - l.Page).toNat,ω,ω⟩
 have J:∀q,q∈lpgs (Ab.trimL l size) (Ab.trimL l size).Pages.toNat↔l.Page<=q/\q<l.Page+(size+15) / 16:=λq=>by
  rw[cZ];simp only[Ab.trimL];constructor
  ·rintro⟨j,n,rfl⟩;omega
  ·rintro⟨Z,q2⟩;exact⟨(q - l.Page).toNat,ω,ω⟩
 have hpe:l.Page+(size+15) / 16+(d3 l size:Nat)=l.Page+l.Pages:=ω
 have P:∀q,q∈pgs h.Spans la↔q∈pgs h.Spans h.Larges/\¬(l.Page+(size+15) / 16<=q/\q<l.Page+(size+15) / 16+(d3 l size:Nat)):=λq=>by
  rw[nB,nB,hpe];constructor
  ·rintro(⟨s,W,rfl⟩|⟨z,c,B⟩)
   ·exact⟨.inl ⟨s,W,rfl⟩,λe=>O s W l y (s.Page - l.Page).toNat ω ω⟩
   ·rcases d z c with rfl|⟨j,n,hjk,rfl⟩
    ·have:=(J q).1 B
     exact⟨.inr ⟨l,y,(D q).2 ⟨ω,ω⟩⟩,ω⟩
    ·refine⟨.inr ⟨_,am n,B⟩,λe=>?_⟩
     obtain⟨m,hm,rfl⟩:=cZ.1 B;exact hjk (G j n m ((nth h.Larges j).Page+(m:Int) - l.Page).toNat hm ω ω)
  ·rintro⟨⟨s,W,rfl⟩|⟨z,c,B⟩,hne⟩
   ·exact .inl ⟨s,W,rfl⟩
   ·obtain⟨j,n,rfl⟩:=bc c
    by_cases e:j=k
    ·subst e
     rw[V]at B;have:=(D q).1 B;exact .inr ⟨_,p,(J q).2 ⟨ω,ω⟩⟩
    ·exact .inr ⟨_,u j n e,B⟩
 have K:∃o,(d3 l size=0->o=h.Free)/\(0<d3 l size->dl (dG h) h.Free ⟨l.Page+(size+15) / 16,(d3 l size:Nat)⟩ = some o)/\bw (dG h) o=true/\∀q,RH o q↔RH h.Free q\/(l.Page+(size+15) / 16<=q/\q<l.Page+(size+15) / 16+(d3 l size:Nat)):=by
  by_cases e:d3 l size=0
  ·refine⟨h.Free,λ_=>rfl,λg=>absurd g ω,t.rng,λq=>⟨.inl,λg=>g.resolve_right ω⟩⟩
  ·obtain⟨o,o1,o2,o3⟩:=rE (r:=⟨l.Page+(size+15) / 16,(d3 l size:Nat)⟩) t.rng ⟨by simp only;omega,by simp only;omega,by show l.Page+(size+15) / 16+(d3 l size:Nat)<=(dG h:Int);have:((tbl h).Entries.length:Int)=(dG h:Int):=rfl;omega⟩ λq Z q2=>by
    simp only at Z q2;obtain⟨m,rfl⟩:=V1 (show 0<=q by omega);have Q:m<(tbl h).Entries.length:=ω
    exact(t.pg.fre m Q).1 ((t.pg.own m Q).2 (eO y ((D _).2 ⟨ω,ω⟩)))
   exact⟨o,λg=>absurd g e,λ_=>o1,o2,o3⟩
 obtain⟨o,o0,o1,o2,o3⟩:=K;have R:=(gS h.Kernel (l.Page+(size+15) / 16) (d3 l size)).1;have M:∀z∈h.Objs.set i {nth h.Objs i with Size:=size},z = {nth h.Objs i with Size:=size}\/∃j,j<h.Objs.length/\j≠i/\nth h.Objs j=z:=λz N=>en N
 have F:(h.Objs.set i {nth h.Objs i with Size:=size}).map (·.Addr)=h.Objs.map (·.Addr):=lS T rfl;have S:(h.Objs.set i {nth h.Objs i with Size:=size}).map (·.Id)=h.Objs.map (·.Id):=lS T rfl;have hli:=(am T:nth h.Objs i∈h.Objs)
 generalize h.Objs.set i {nth h.Objs i with Size:=size} = ob at M F S |-;refine⟨o,o0,o1,{t with
   ker:=jM t.ker _ _
   rng:=by show bw (((dH h.Kernel (l.Page+(size+15) / 16) (d3 l size)).Machine.Table.Entries.length:Nat):Int) o=true;rw[R];exact o2
   lay:=?_
   srl:=?_
   pg:=Dv t (by have:((tbl h).Entries.length:Int)=(h.Kernel.Machine.Table.Entries.length:Int):=rfl;omega) (List.Sublist.refl _) (λz c q B=>?_) ω P o3
   osr:=?_
   onu:=λz c=>?_
   oid:=by show(ob.map (·.Id)).Nodup;rw[S];exact t.oid
   oow:=λz c=>?_
   nd:=?_
   mem:=λb=>?_}⟩
 ·obtain⟨l1,l2,l3⟩:=cT t.lay
  unfold bi;simp only[I0,C0];refine⟨⟨l1,X2.2 λz c=>?_⟩,l3.sublist w⟩;rcases d z c with rfl|⟨j,n,-,rfl⟩
  ·exact N0 ⟨N.1,by show size<=1000;omega,rfl,by show 0<=l.Page;omega,by show l.Page<=32 - (size+15) / 16;omega⟩
  ·exact U.lok _ (am n)
 ·have A:(h.Larges.map (·.Page)).Pairwise (λa b=>a<b):=List.pairwise_map.2 t.srl
  rw[<-hpageM]at A;exact List.pairwise_map.1 A
 ·rcases d z c with rfl|⟨j,n,-,rfl⟩
  ·have:=(J q).1 B
   exact⟨l,y,(D q).2 ⟨ω,ω⟩⟩
  ·exact⟨_,am n,B⟩
 ·have A:(h.Objs.map (·.Addr)).Pairwise (λa b=>a<b):=List.pairwise_map.2 t.osr
  rw[<-F]at A;exact List.pairwise_map.1 A
 ·rcases M z c with rfl|⟨j,n,-,rfl⟩
  ·exact t.onu (nth h.Objs i) hli
  ·exact t.onu _ (am n)
 ·rcases M z c with rfl|⟨j,n,hji,rfl⟩
  ·exact .inr ⟨_,p,Y,rfl⟩
  ·rcases t.oow _ (am n) with A|⟨l',hl',e1,X⟩
   ·exact .inl A
   ·obtain⟨m,hm,rfl⟩:=bc hl'
    by_cases e:m=k
    ·subst e
     rw[V]at e1;exact absurd (fG (f:=(·.Addr)) (fK t.osr) n T (e1.trans Y.symm)) hji
    ·exact .inr ⟨_,u m hm e,e1,X⟩
 ·have hh:holders {h with Kernel:=dH h.Kernel (l.Page+(size+15) / 16) (d3 l size),Larges:=la,Objs:=ob,Free:=o} = holders h:=by
   show((ob.map (·.Addr)++bY h)++h.Quar.Lst.map (·.Addr))++aL h.Mail=_;rw[F];rfl
  rw[hh];exact t.nd
 ·have hh:holders {h with Kernel:=dH h.Kernel (l.Page+(size+15) / 16) (d3 l size),Larges:=la,Objs:=ob,Free:=o} = holders h:=by
   show((ob.map (·.Addr)++bY h)++h.Quar.Lst.map (·.Addr))++aL h.Mail=_;rw[F];rfl
  rw[hh,t.mem b];show kG h.Spans h.Larges b↔kG h.Spans la b;unfold kG;constructor
  ·rintro(A|⟨z,c,e⟩)
   ·exact .inl A
   ·obtain⟨j,n,rfl⟩:=bc c
    by_cases X:j=k
    ·subst X
     rw[V]at e;exact .inr ⟨_,p,e⟩
    ·exact .inr ⟨_,u j n X,e⟩
  ·rintro(A|⟨z,c,e⟩)
   ·exact .inl A
   ·rcases d z c with rfl|⟨j,n,-,rfl⟩
    ·exact .inr ⟨l,y,e⟩
    ·exact .inr ⟨_,am n,e⟩
def so(h:ac)(k:Nat)(size:Int):af:=zK h.Kernel (16*(nth h.Larges k).Page+size) (16*((size+15) / 16) - size).toNat
def Ff(h:ac)(k:Nat)(size:Int):List a7:=if 0<d3 (nth h.Larges k) size then(dl (dG h) h.Free ⟨(nth h.Larges k).Page+(size+15) / 16,(d3 (nth h.Larges k) size:Nat)⟩).getD h.Free else h.Free
def trimH(h:ac)(i k:Nat)(size:Int):ac:={h with Kernel:=dH (so h k size) ((nth h.Larges k).Page+(size+15) / 16) (d3 (nth h.Larges k) size),Larges:=h.Larges.set k (trimL (nth h.Larges k) size),Objs:=h.Objs.set i {nth h.Objs i with Size:=size},Free:=Ff h k size}
theorem nk{h:ac}{E:List Int}(b:bn h E){k:Nat}(c:k<h.Larges.length){a:Int}(g:16*(nth h.Larges k).Page<=a/\a<16*(nth h.Larges k).Page+16*(nth h.Larges k).Pages):(ar h.Kernel.Machine.Table (a / 16)).Mode≠0:=by
 obtain⟨i,j⟩:=yk b c;have l:=aT (b.L.lok _ (am c));have d:(a / 16)∈pgs h.Spans h.Larges:=eO (am c) (cZ.2 ⟨(a / 16 - (nth h.Larges k).Page).toNat,ω,ω⟩);have e:=b.pg.bnd _ d;have f:=(b.pg.own (a / 16).toNat ω).2 (by rw[show(((a / 16).toNat:Nat):Int)=a / 16 by omega];exact d);unfold ar;rw[C7 ⟨ω,e⟩];exact f
theorem AJ{h:ac}{E:List Int}(b:bn h E){k:Nat}(c:k<h.Larges.length){size:Int}(d:9<=size/\size<=(nth h.Larges k).Size):∀{m:Nat},m<=(16*((size+15) / 16) - size).toNat->aA (zK h.Kernel (16*(nth h.Larges k).Page+size) m)=true:=fun {m} hm=>by
 have a:=b.L.lok _ (am c);unfold bP at a;rw[C0]at a;exact Lh b.ker λj e=>nk b c ⟨ω,ω⟩
theorem bn.trimH{h:ac}{i k:Nat}{size:Int}(d:bn h [])(A:i<h.Objs.length)(f:k<h.Larges.length)(B:(nth h.Objs i).Addr=16*(nth h.Larges k).Page)(r:9<=size/\size<=(nth h.Larges k).Size):bn (trimH h i k size) []/\JK h (trimH h i k size):=by
 have t:=AJ d f r (Z1 _);have l:=(vE h.Kernel (16*(nth h.Larges k).Page+size) (16*((size+15) / 16) - size).toNat).1;have C:=d.cells t l;obtain⟨o,u,w,y⟩:=C.trimL (i:=i) (k:=k) (size:=size) A f B r;simp only at u w y;have n:dG {h with Kernel:=zK h.Kernel (16*(nth h.Larges k).Page+size) (16*((size+15) / 16) - size).toNat} = dG h:=by
  unfold dG;simp only[l]
 have D:Ff h k size=o:=by
  unfold Ff;split
  ·rename_i g;have:=w g;rw[n]at this;rw[this];rfl
  ·exact(u ω).symm
 have E:Ab.trimH h i k size = {h with Kernel:=dH (so h k size) ((nth h.Larges k).Page+(size+15) / 16) (d3 (nth h.Larges k) size),Larges:=h.Larges.set k (Ab.trimL (nth h.Larges k) size),Objs:=h.Objs.set i {nth h.Objs i with Size:=size},Free:=o}:=by unfold Ab.trimH;rw[D]
 refine⟨by rw[E];exact y,JK.less rfl rfl rfl λq j=>?_⟩;have a:=d.L.lok _ (am f);unfold bP at a;rw[C0]at a;obtain⟨F,G⟩:=yk d f;have b:(so h k size).Machine.Table=h.Kernel.Machine.Table:=l;have c:=kR (k:=so h k size) t (p:=(nth h.Larges k).Page+(size+15) / 16) ω (d3 (nth h.Larges k) size) (by rw[b];have:((tbl h).Entries.length:Int)=(h.Kernel.Machine.Table.Entries.length:Int):=rfl;unfold d3;omega) q;change (nth (dH (so h k size) ((nth h.Larges k).Page+(size+15) / 16) (d3 (nth h.Larges k) size)).Machine.Table.Entries q).Mode≠0 at j;show nth (dH (so h k size) ((nth h.Larges k).Page+(size+15) / 16) (d3 (nth h.Larges k) size)).Machine.Table.Entries q=nth h.Kernel.Machine.Table.Entries q;rw[c]at j |-;split at j
 ·exact absurd rfl j
 ·rename_i e;rw[C6 e,b]
theorem DP{t:Nat}(h:1<=t/\t<=4):b9 (dt t)=true:=by
 have f:∀n,n<=t->bm (dt t) n=0:=λn=>by
  induction n with
  | zero=>intro _;rfl
  | succ n g=>
   intro j;have a:nth (dt t).Buffers n=[]:=cI ω;have b:nth (dt t).Inbox n=[]:=cI ω;simp only[bm,g ω,a,b,List.length_nil]
   decide
 have e:(dt t).Buffers.length=t:=Q2 ..;refine dv.2 ⟨⟨ω,ω,by simp[dt]⟩,λi c=>?_,by rw[e,f t (Z1 _)];omega⟩;rw[e]at c;have a:nth (dt t).Buffers i=[]:=cI c;have b:nth (dt t).Inbox i=[]:=cI c;rw[a,b];exact⟨λp d=>(by cases d),λp d=>(by cases d)⟩
theorem sg(t:Nat):aL (dt t)=[]:=by
 unfold aL;split
 ·simp[dt]
 ·rfl
def oN(k:af)(t:Nat)(sd ck lim:Int):ac:=⟨k,[⟨0,(k.Machine.Table.Entries.length:Nat)⟩],[],[],[],List.replicate t d2,dt t,⟨16,[]⟩,sd,ck,lim,1,false,⟨⟨0,0,[]⟩,0,0⟩⟩
theorem By:bq d2=true:=by decide
theorem bn.fresh{k:af}{t:Nat}{lim sd ck:Int}(B:aA k=true)(C:∀q,q<k.Machine.Table.Entries.length->(nth k.Machine.Table.Entries q).Mode=0)(F:1<=t/\t<=4)(h:0<=lim/\lim<=1000)(i:0<=sd/\sd<=1073741823)(d:0<=ck/\ck<=1000000):bn (oN k t sd ck lim) []:=by
 obtain⟨H,J,K⟩:=bx.1 (aC.1 B).2.2.1;have g:bY (oN k t sd ck lim)=[]:=by
  unfold bY;refine List.flatMap_eq_nil_iff.2 λc d=>?_
  rw[(List.mem_replicate.1 d).2]
  rfl
 have D:holders (oN k t sd ck lim)=[]:=by
  unfold holders;rw[g];show(([]++[])++[])++aL (dt t)=[];rw[sg];rfl
 have n:∀a,¬kG (oN k t sd ck lim).Spans (oN k t sd ck lim).Larges a:=λa=>by
  rintro(⟨s,i,-⟩|⟨l,h,-⟩)
  ·cases i
  ·cases h
 exact {
   ker:=B
   rng:=eI.2 ⟨⟨List.pairwise_singleton ..,λy r=>by rw[W0.1 r];show(1:Int)<=(k.Machine.Table.Entries.length:Nat);omega⟩,λy r=>by
       rw[W0.1 r];refine⟨T3 _,by show(1:Int)<=(k.Machine.Table.Entries.length:Nat);omega,?_⟩;show(0:Int)+(k.Machine.Table.Entries.length:Nat)<=(k.Machine.Table.Entries.length:Nat);omega,by show(1:Int)<=(k.Machine.Table.Entries.length:Nat);omega,by show((k.Machine.Table.Entries.length:Nat):Int)<=32;omega⟩
   lay:=by show bi [] []=true;decide
   srs:=List.Pairwise.nil
   srl:=List.Pairwise.nil
   pg:=⟨λl h=>(by cases h),λp f=>(by cases f),λp f=>⟨λe=>absurd (C p f) e,λe=>by cases e⟩,λp f=>⟨λe=>absurd (C p f) e,λe=>absurd ⟨_,W0.2 rfl,by show(0:Int)<=p;omega,by
       show(p:Int)<0+(k.Machine.Table.Entries.length:Nat);have G:p<k.Machine.Table.Entries.length:=f;omega⟩ e⟩,λs i=>by cases i⟩
   mail:=DP F
   nc:=by show(List.replicate t d2).length=(List.replicate t _).length;simp
   quar:=by show eX ⟨16,[]⟩ = true;decide
   snc:=λx u=>by cases u
   cach:=λc d=>by rw[(List.mem_replicate.1 d).2];exact By
   nums:=by unfold ca;rw[C0];simp only[oN];omega
   osr:=List.Pairwise.nil
   onu:=λo w=>by cases w
   oid:=List.nodup_nil
   oow:=λo w=>by cases w
   hca:=λc d j E a b=>by
     rw[(List.mem_replicate.1 d).2]at E b;have A:j<4:=E;have:nth d2.Lists j=[]:=cI A;rw[this]at b;cases b
   hqu:=λx u=>by cases u
   hfl:=λa b=>by
     have:aL (dt t)=[]:=sg t;change a∈aL (dt t) at b;rw[this]at b;cases b
   hin:=λa b=>by cases b
   nd:=by rw[D];exact List.nodup_nil
   mem:=λa=>by rw[D];exact⟨λe=>(by cases e),λe=>absurd e (n a)⟩
   job:=λe=>by cases e
   noj:=λ_=>by show p7 ⟨⟨0,0,[]⟩,0,0⟩ = true;decide}
theorem JI.no{h:ac}(a:h.Meshing=false):JI h:=⟨λe=>(by rw[a]at e;cases e),λe=>(by rw[a]at e;cases e),λe=>(by rw[a]at e;cases e),λe=>(by rw[a]at e;cases e)⟩
theorem oe{p f:Nat}{rf:List Int}(c:1<=p/\p<=32)(d:1<=f/\f<=32)(a:rf.length<=40/\∀x∈rf,0<=x):aA (br p f rf)=true:=by
 obtain⟨-,e,g,h,b⟩:=aC.1 (qd c d);exact aC.2 ⟨λj i=>a.2 _ (am i),e,g,h,b.1,b.2.1,a.1⟩
theorem rK{p f t:Nat}{lim:Int}{rf:List Int}(b:1<=p/\p<=32)(c:1<=f/\f<=32)(d:1<=t/\t<=4)(g:0<=lim/\lim<=1000)(i:rf.length<=40/\∀x∈rf,0<=x):bn (iu p f t lim rf) []:=by
 have h:=bn.fresh (k:=br p f rf) (t:=t) (lim:=lim) (sd:=0) (ck:=0) (oe b c i) (λq j=>by
   have a:q<p:=by simpa[br,cR] using j
   rw[show nth (br p f rf).Machine.Table.Entries q = ⟨0,0⟩ from cI a]) d g ω ω
 have e:(br p f rf).Machine.Table.Entries.length=p:=by simp[br,cR]
 unfold oN at h;rw[e]at h;exact h
structure dX where
 Kind:Int
 Thread:Int
 N:Int
 At:Int
 Value:Int
deriving DecidableEq,Inhabited
def dX.enc(_:du)(x:dX):List C:=[I x.Kind,I x.Thread,I x.N,I x.At,I x.Value]
def kY(id:Int)(o:bB):Bool:=decide (o.Id=id)
def mV(r:ax)(id:Int):Int:=cQ (kY id) r.Objs
def j9(r:ax)(n:Int):ax:=if 1<=n/\n<=1000 then {r with Next:=r.Next+1,Objs:=r.Objs++[⟨r.Next,List.replicate n.toNat 0⟩]} else r
def jQ(r:ax)(id:Int):ax:=if mV r id<0 then r else {r with Objs:=dele r.Objs (mV r id).toNat}
def eg(r:ax)(id at_ v:Int):ax:=if 0<=mV r id/\(0<=at_/\at_<=(nth r.Objs (mV r id).toNat).Cells.length - 1)/\0<=v/\v<=999 then {r with Objs:=r.Objs.set (mV r id).toNat ⟨(nth r.Objs (mV r id).toNat).Id,(nth r.Objs (mV r id).toNat).Cells.set at_.toNat v⟩} else r
def fN(r:ax)(id n:Int):ax:=if 0<=mV r id/\1<=n/\n<=(nth r.Objs (mV r id).toNat).Cells.length then {r with Objs:=r.Objs.set (mV r id).toNat ⟨(nth r.Objs (mV r id).toNat).Id,(nth r.Objs (mV r id).toNat).Cells.take n.toNat⟩} else r
structure pT(r:ax)(m:Nat):Prop where
 len:r.Objs.length<=m
 cel:∀o∈r.Objs,o.Cells.length<=1000
 nx:0<=r.Next/\r.Next<=m+1
theorem pT.more{r:ax}{m n:Nat}(h:pT r m)(a:m<=n):pT r n:=⟨by have:=h.len;omega,h.cel,h.nx.1,by have:=h.nx.2;omega⟩
theorem pT.sml{r:ax}{m:Nat}(h:pT r m)(b:m<=1000):ax.sml r:=⟨by have:=h.len;omega,λo a=>by have:=h.cel o a;show o.Cells.length<=1048576;omega⟩
theorem pT.alloc{r:ax}{m:Nat}(h:pT r m)(n:Int):pT (j9 r n) (m+1):=by
 unfold j9;split
 ·refine⟨by have:=h.len;simp only[I2,List.length_singleton];omega,λo a=>?_,by have:=h.nx.1;simp only;omega,by have:=h.nx.2;simp only;omega⟩
  rcases W1.1 a with a|a
  ·exact h.cel o a
  ·rw[W0.1 a];simp only[Q2];omega
 ·exact h.more ω
theorem pT.free{r:ax}{m:Nat}(h:pT r m)(id:Int):pT (jQ r id) m:=by
 unfold jQ;split
 ·exact h
 ·have a:=eM r.Objs (mV r id).toNat
  exact⟨R3 a.length_le h.len,λo b=>h.cel o (a.subset b),h.nx⟩
theorem pT.set{r:ax}{m i:Nat}{x:bB}(h:pT r m)(b:x.Cells.length<=1000):pT {r with Objs:=r.Objs.set i x} m:=
 ⟨by simp only[X0];exact h.len,λo a=>by
   rcases P4 a with a|rfl
   · exact h.cel o a
   · exact b,h.nx⟩
theorem eL{α:Type}[Inhabited α](p:α->Bool)(xs:List α)(h:0<=cQ p xs):(cQ p xs).toNat<xs.length/\p (nth xs (cQ p xs).toNat)=true/\cQ p xs=((cQ p xs).toNat:Nat):=by
 rcases jR p xs with e|⟨n,a,e,b⟩
 ·omega
 ·rw[e,U1];exact⟨a,b,rfl⟩
theorem pT.store{r:ax}{m:Nat}(h:pT r m)(id a v:Int):pT (eg r id a v) m:=by
 unfold eg;split
 ·rename_i e
  refine h.set ?_;simp only[X0];exact h.cel (nth r.Objs (mV r id).toNat) (am (eL _ _ e.1).1)
 ·exact h
theorem pT.trim{r:ax}{m:Nat}(h:pT r m)(id n:Int):pT (fN r id n) m:=by
 unfold fN;split
 ·rename_i e
  refine h.set ?_;have:=h.cel (nth r.Objs (mV r id).toNat) (am (eL _ _ e.1).1);simp only[Z0];omega
 ·exact h
def HY(id:Int)(o:bG):Bool:=decide (o.Id=id)
def qf(h:ac)(id:Int):Int:=cQ (HY id) h.Objs
def Fb(a:Int)(l:a8):Bool:=decide (l.Page*16=a)
def vT(h:ac)(a:Int):Int:=cQ (Fb a) h.Larges
def mB(h:ac)(a:dX):Prop:=0<=a.Thread/\a.Thread<=h.Caches.length - 1
instance (h:ac) (a:dX):Decidable (mB h a):=by unfold mB;infer_instance
def sU(w:bD)(a:dX)(i:Nat):bD × Int:=
 if w.Heap.Kernel.Calls=100000 then(w,6)
 else if mB w.Heap a then(⟨(freeT w.Heap a.Thread.toNat i).1,if(freeT w.Heap a.Thread.toNat i).2=0 then jQ w.Ref (nth w.Heap.Objs i).Id else w.Ref⟩,(freeT w.Heap a.Thread.toNat i).2)
 else(w,1)
def qi(w:bD)(a:dX)(i:Nat):bD × Int:=
 if ¬(0<=a.At/\a.At<=(nth w.Heap.Objs i).Size - 1) then(w,90)
 else if(ar w.Heap.Kernel.Machine.Table (((nth w.Heap.Objs i).Addr+a.At) / 16)).Mode=1 then(w,2)
 else if ¬(0<=a.Value/\a.Value<=999) then(w,3)
 else(⟨{w.Heap with Kernel:=kb w.Heap.Kernel ((nth w.Heap.Objs i).Addr+a.At) a.Value},eg w.Ref (nth w.Heap.Objs i).Id a.At a.Value⟩,0)
def jV(h:ac)(i:Nat)(n:Int):Prop:=0<=vT h (nth h.Objs i).Addr/\9<=n/\n<=(nth h.Larges (vT h (nth h.Objs i).Addr).toNat).Size
instance (h:ac) (i:Nat) (n:Int):Decidable (jV h i n):=by unfold jV;infer_instance
def sT(w:bD)(a:dX)(i:Nat):bD × Int:=
 if w.Heap.Kernel.Calls≠100000/\jV w.Heap i a.Value then(⟨trimH w.Heap i (vT w.Heap (nth w.Heap.Objs i).Addr).toNat a.Value,fN w.Ref (nth w.Heap.Objs i).Id a.Value⟩,0) else(w,90)
def oG(w:bD)(a:dX)(i:Nat):bD × Int:=if a.Kind=2 then sU w a i else if a.Kind=3 then qi w a i else sT w a i
def gy(h:ac)(a:dX):ac × Int:=
 if a.Kind=5 then(if mB h a/\0<(nth h.Mail.Buffers a.Thread.toNat).length then({h with Mail:=fe h.Mail a.Thread.toNat},0) else(h,90))
 else if ¬(h.Kernel.Calls≠100000/\mB h a) then(h,0)
 else if a.Kind=6 then(collect h a.Thread.toNat,((nth h.Mail.Inbox a.Thread.toNat).length:Nat))
 else((flushN a.Thread.toNat h 4).1,((flushN a.Thread.toNat h 4).2:Nat))
def pF(h:ac)(n:Int):ac × Int:=if h.Kernel.Calls≠100000/\(0<=n/\n<=1000)/\h.Clock+n<=1000000 then(tick h n,((lV h n).length:Nat)) else(h,0)
def sE(h:ac):Bool:=h.Meshing&&decide (h.Kernel.Calls<=99000)
def ml(h:ac):Nat->ac × Nat
 | 0=>(h,0)
 | i+1=>if sE (ml h i).1=true then(mStep (ml h i).1,(ml h i).2+1) else ml h i
def pY(h:ac):ac × Int:=if h.Meshing=true then(h,90) else((started h).1,if(started h).2=true then 0 else 90)
def pR(w:bD)(a:dX):bD × Int:=
 if a.Kind=1 then(⟨(fW w.Heap a.Thread a.N).1,if(fW w.Heap a.Thread a.N).2.2=0 then j9 w.Ref a.N else w.Ref⟩,(fW w.Heap a.Thread a.N).2.2)
 else if a.Kind=2\/a.Kind=3\/a.Kind=4 then(if qf w.Heap a.N<0 then(w,90) else oG w a (qf w.Heap a.N).toNat)
 else if a.Kind=5\/a.Kind=6\/a.Kind=7 then(⟨(gy w.Heap a).1,w.Ref⟩,(gy w.Heap a).2)
 else if a.Kind=8 then(⟨(pF w.Heap a.N).1,w.Ref⟩,(pF w.Heap a.N).2)
 else if a.Kind=9 then(⟨(pY w.Heap).1,w.Ref⟩,(pY w.Heap).2)
 else if a.Kind=10/\0<=a.N/\a.N<=50 then(⟨(ml w.Heap a.N.toNat).1,w.Ref⟩,((ml w.Heap a.N.toNat).2:Nat))
 else(w,90)
structure rS(w:bD)(m:Nat):Prop where
 inv:bn w.Heap []
 ji:JI w.Heap
 ref:pT w.Ref m
theorem rS.more{w:bD}{m n:Nat}(h:rS w m)(a:m<=n):rS w n:=⟨h.inv,h.ji,h.ref.more a⟩
theorem rS.jk{w:bD}{m:Nat}(h:rS w m){g:ac}{r:ax}(a:bn g []/\JK w.Heap g)(b:pT r m):rS ⟨g,r⟩ m:=⟨a.1,h.ji.keep a.1 a.2,b⟩
theorem lz{h:ac}{E:List Int}(a:bn h E){o:bG}(p:o∈h.Objs){k:Int}(D:0<=k/\k<=o.Size - 1):(ar h.Kernel.Machine.Table ((o.Addr+k) / 16)).Mode≠0/\0<=o.Addr/\o.Addr+k<512:=by
 rcases a.oow o p with⟨s,g,q,r⟩|⟨l,i,F,G⟩
 ·have b:=a.L.sok s g
  have t:=aE b;obtain⟨u,w,y⟩:=a.mapped g;have d:=ce t.2.2;obtain⟨H,J,A,-⟩:=q;have f:o.Size<=csz s.Class:=by
   have K:=oY (n:=o.Size) ω;rw[r];have:o.Size=1\/o.Size=2\/o.Size=3\/o.Size=4\/o.Size=5\/o.Size=6\/o.Size=7\/o.Size=8:=ω
   rcases this with e|e|e|e|e|e|e|e<;>rw[e]<;>decide
  have B:(o.Addr+k) / 16=s.Page:=by
   rcases d with e|e|e|e<;>rw[e]at A f<;>omega
  rw[B];refine⟨?_,ω,ω⟩;unfold ar;rw[C7 ⟨u,w⟩];exact y
 ·obtain⟨j,C,rfl⟩:=bc i
  have c:=a.L.lok _ i;unfold bP at c;rw[C0]at c;exact⟨nk a C ⟨ω,ω⟩,ω,ω⟩
theorem rS.obj{w:bD}{m:Nat}(h:rS w m)(a:dX){i:Nat}(b:i<w.Heap.Objs.length):rS (oG w a i).1 m:=by
 unfold oG;split
 ·unfold sU
  split
  ·exact h
  split
  ·rename_i d
   unfold mB at d;refine h.jk (h.inv.freeT b ω) ?_;split
   ·exact h.ref.free _
   ·exact h.ref
  ·exact h
 split
 ·unfold qi
  split
  ·exact h
  rename_i l;split
  ·exact h
  split
  ·exact h
  rename_i n;exact h.jk (h.inv.store (lz h.inv (am b) ω).1 ω) (h.ref.store _ _ _)
 ·unfold sT
  split
  ·rename_i e
   obtain⟨-,f,g⟩:=e;obtain⟨j,k,o⟩:=eL _ _ f;have c:=of_decide_eq_true k;exact h.jk (h.inv.trimH b j (c.symm.trans (Int.mul_comm _ _)) g) (h.ref.trim _ _)
  ·exact h
theorem rS.thread{w:bD}{m:Nat}(h:rS w m)(a:dX):rS ⟨(gy w.Heap a).1,w.Ref⟩ m:=by
 unfold gy;split
 ·split
  ·rename_i e
   obtain⟨b,i⟩:=e;unfold mB at b;exact h.jk (g:={w.Heap with Mail:=fe w.Heap.Mail a.Thread.toNat}) ⟨h.inv.deliv (by rw[<-h.inv.nc];omega) i,JK.eq rfl rfl rfl rfl⟩ h.ref
  ·exact h
 split
 ·exact h
 rename_i e;have e:=Classical.not_not.1 e;obtain⟨-,b⟩:=e;unfold mB at b;split
 ·exact h.jk (g:=collect w.Heap a.Thread.toNat) (h.inv.collect ω) h.ref
 ·have c:a.Thread.toNat<w.Heap.Caches.length:=ω
  have d:=(jw h.inv c (Z1 4)).1;have f:=JK.flushN h.inv c (Z1 4);generalize flushN a.Thread.toNat w.Heap 4=r at d f |-;exact h.jk (g:=r.1) ⟨d,f⟩ h.ref
theorem zf{h:ac}(a:bn h [])(b:JI h):∀n,bn (ml h n).1 []/\JI (ml h n).1
 | 0=>⟨a,b⟩
 | n+1=>by
  obtain⟨c,d⟩:=zf a b n;unfold ml;split
  ·rename_i e
   unfold sE at e;rw[I0]at e;exact c.mStep d e.1
  ·exact⟨c,d⟩
theorem rS.act{w:bD}{m:Nat}(h:rS w m)(a:dX):rS (pR w a).1 (m+1):=by
 unfold pR;split
 ·have b:=G5 (t:=a.Thread) (size:=a.N) h.inv
  refine⟨b.1,h.ji.keep b.1 b.2,?_⟩;show pT (if _ then _ else _) (m+1);split
  ·exact h.ref.alloc _
  ·exact h.ref.more ω
 refine rS.more (m:=m) ?_ ω;split
 ·split
  ·exact h
  ·rename_i e
   exact h.obj a (eL _ _ (by unfold qf at e;omega)).1
 split
 ·exact h.thread a
 split
 ·unfold pF
  split
  ·rename_i e
   exact h.jk (h.inv.tick e.2.1.1 e.2.2) h.ref
  ·exact h
 split
 ·unfold pY
  split
  ·exact h
  ·rename_i e
   have b:=D0 h.inv (by simpa using e);exact⟨b.1,b.2,h.ref⟩
 split
 ·have b:=zf h.inv h.ji a.N.toNat
  exact⟨b.1,b.2,h.ref⟩
 ·exact h
structure cA where
 Pages:Nat
 Frames:Nat
 Threads:Nat
 Limit:Int
 Refuse:List Int
deriving Inhabited
structure Fz(c:cA):Prop where
 p:1<=c.Pages/\c.Pages<=32
 f:1<=c.Frames/\c.Frames<=32
 t:1<=c.Threads/\c.Threads<=4
 l:0<=c.Limit/\c.Limit<=1000
 r:c.Refuse.length<=40/\∀x∈c.Refuse,0<=x
def world0(c:cA):bD:=⟨iu c.Pages c.Frames c.Threads c.Limit c.Refuse,{Next:=1,Objs:=[]}⟩
def zA(c:cA)(acts:List dX):Nat->bD × List Int
 | 0=>(world0 c,[])
 | i+1=>((pR (zA c acts i).1 (nth acts i)).1,(zA c acts i).2++[(pR (zA c acts i).1 (nth acts i)).2])
theorem Fi{c:cA}(h:Fz c):rS (world0 c) 0:=
 ⟨rK h.p h.f h.t h.l h.r,JI.no rfl,⟨Z1 _,λo a=>(by cases a),by show(0:Int)<=1;omega,by show(1:Int)<=((0:Nat):Int)+1;omega⟩⟩
theorem zc{c:cA}(h:Fz c)(acts:List dX):∀n,rS (zA c acts n).1 n
 | 0=>Fi h
 | n+1=>(zc h acts n).act _
theorem or64{z1 z2:Int}(h1:0<=z1/\z1<=65535)(a:0<=z2/\z2<=65535):IntKind.i64.wrap ((BitVec.ofInt IntKind.i64.bits z1 ||| BitVec.ofInt IntKind.i64.bits z2).toNat:Nat)=bor z1 z2:=by
 rw[BitVec.toNat_or,lA ω,lA ω];have b:=Da h1 a;unfold bor at b |-;exact er ω ω
theorem wq(h:ac)(i:Nat)(n:dc h.Spans)(d:sI h)(a:∀s∈h.Spans,aX s=true)(y:i<h.Spans.length):ao Tryz.prog 342 false [.val (some 24) (ac.enc .imm h),.val none [I (i:Nat)]] .one [I (fZ h i)]:=by
 have F:=n.1;have G:=ah y;have g:=ka a y;have B:=aD ((i:Nat):Int) 0 ((h.Spans.length:Int) - 1);rw[N0 (show(0:Int)<=(i:Nat)/\((i:Nat):Int)<=(h.Spans.length:Int) - 1 by omega)]at B;have C:=gk h (nth h.Spans i).Page d;have o:=eS h (nth h.Spans i).Page;have H:dG h<=1048576:=d.1;have c:fZ h i=iU h.Spans (aK h (nth h.Spans i).Page) (nth h.Spans i).Bits (aK h (nth h.Spans i).Page).length:=rfl;obtain⟨ps,q⟩ : ∃ps,aK h (nth h.Spans i).Page=ps:=⟨_,rfl⟩
 obtain⟨b,r⟩ : ∃b,(nth h.Spans i).Bits=b:=⟨_,rfl⟩
 rw[q]at C o c;rw[r]at c g;rw[c];have J:iU h.Spans ps b 0=b:=rfl;refine fO 63 [(4,7,[22,23,24,25,26,27,28]),(11,10,[43,44,45,46,47,48,49,50,51,52])] Tryz.func342 rfl ?_
 repeat'(first|refine gO ?_|(conv=>whnf);first|with_reducible refine C9 (aa G) ?_|refine C5 (B) ?_|refine C5 (C) ?_)
 (conv=>whnf)
 refine CB (ι:=Nat) (λu=>[(2,.hold .box (ac.enc .imm h)),(5,.hold .one [I (iU h.Spans ps b u)]),(6,.hold .one (aF .own ps)),(7,.hold .one [I ((u:Nat):Int)])]) (λu=>u<=ps.length) (λu=>ps.length - u) (0) ?_ (P0 _) λu M=>?_
 ·exact wB
 by_cases K:u<ps.length
 ·have l:=ah K
  have t:=qt a (ps:=ps) g u
  repeat'(first|refine gD ?_|fail)
  (conv=>whnf)
  refine CB (ι:=Nat) (λj=>[(2,.hold .box (ac.enc .imm h)),(5,.hold .one [I (pv h.Spans (nth ps u) (iU h.Spans ps b u) j)]),(6,.hold .one (aF .own ps)),(7,.hold .one [I ((u:Nat):Int)]),(8,.hold .one [I ((j:Nat):Int)])]) (λj=>j<=h.Spans.length) (λj=>h.Spans.length - j) (0) ?_ (P0 _) λj L=>?_
  ·exact wB
  by_cases D:j<h.Spans.length
  ·have E:=ah D
   have w:=sV a (p:=nth ps u) t j L;by_cases e:(nth h.Spans j).Page=nth ps u
   ·have k:pv h.Spans (nth ps u) (iU h.Spans ps b u) (j+1)=bor (pv h.Spans (nth ps u) (iU h.Spans ps b u) j) (nth h.Spans j).Bits:=C7 e
    repeat'(first|refine gA ?_|(conv=>whnf);first|with_reducible (first|refine C9 (aa l) ?_|refine C9 (aa E) ?_)|refine CE rfl (aa l) rfl ?_|refine CH (or64 w (ka a D)) ?_)
    ((conv=>whnf);refine CA (j+1) ω ω ?_;(exact wB))
   ·have k:pv h.Spans (nth ps u) (iU h.Spans ps b u) (j+1)=pv h.Spans (nth ps u) (iU h.Spans ps b u) j:=C6 e
    repeat'(first|refine gA ?_|(conv=>whnf);first|with_reducible (first|refine C9 (aa l) ?_|refine C9 (aa E) ?_)|refine CE rfl (aa l) rfl ?_)
    ((conv=>whnf);refine CA (j+1) ω ω ?_;(exact wB))
  ·obtain rfl:j=h.Spans.length:=ω
   repeat'(first|refine gD ?_|fail)
   ((conv=>whnf);refine CA (u+1) ω ω ?_;(exact wB))
 ·obtain rfl:u=ps.length:=ω
  repeat'(first|refine gD ?_|fail)
  rfl
theorem ru{xs:List bG}(h:∀o∈xs,0<=o.Size/\o.Size<=1000):∀k:Nat,k<=xs.length->0<=rj xs k/\rj xs k<=1000*k
 | 0,_=>⟨T3 _,T3 _⟩
 | k+1,a=>by
  have b:=ru h k ω;have c:=h _ (am (xs:=xs) (i:=k) ω);simp only[rj];omega
theorem th(h:ac)(a:∀o∈h.Objs,0<=o.Size/\o.Size<=1000)(e:h.Objs.length<=1048576):ao Tryz.prog 51 false [.val (some 24) (ac.enc .imm h)] .one [I (tJ h)]:=by
 refine fO 21 [] Tryz.func51 rfl ?_
 repeat'(first|refine gO ?_|fail)
 (conv=>whnf)
 refine CB (ι:=Nat) (λk=>[(1,.hold .box (ac.enc .imm h)),(3,.hold .one [I (rj h.Objs k)]),(4,.hold .one [I ((k:Nat):Int)])]) (λk=>k<=h.Objs.length) (λk=>h.Objs.length - k) (0) ?_ (P0 _) λk c=>?_
 ·exact wB
 have g:=ru a k c;by_cases b:k<h.Objs.length
 ·have d:=ah b
  have i:=a _ (am b)
  repeat'(first|refine gD ?_|(conv=>whnf);first|refine C9 (aa d) ?_)
  ((conv=>whnf);refine CA (k+1) ω ω ?_;(exact wB))
 ·obtain rfl:k=h.Objs.length:=ω
  repeat'(first|refine gD ?_|fail)
  rfl
theorem uK(k b:Int)(h:b<=9223372036854775807):ao Tryz.prog 341 false [.val none [I (slots k)],.val none [I b]] .one (aF .own (oD k b)):=by
 have c:=ou k b;have p:0<=slots k/\slots k<=16:=by unfold slots;repeat' split<;>omega
 unfold oD;cases e:Jt k b<;>rw[e]at c
 ·rw[C6 (by simp)]
  refine fO 27 [] Tryz.func341 rfl ?_ (.inr (bM _))
  repeat'(first|refine gO ?_|fail)
  (conv=>whnf)
  refine CB (ι:=Nat) (λj=>[(0,.hold .one [I (slots k)]),(1,.hold .one [I (b)]),(5,.hold .one (aF .own [])),(6,.hold .one [I ((j:Nat):Int)])]) (λj=>j=0) (λj=>1 - j) (0) ?_ (rfl) λj g=>?_
  ·exact wB
  subst g
  repeat'(first|refine gD ?_|(conv=>whnf);first|with_reducible refine Bf.D (λi=>?_) (λi=>?_)|refine C5 (c) ?_)
  all_goals rfl
 ·rw[C7 rfl]
  refine fO 27 [] Tryz.func341 rfl ?_ (.inr (bM _))
  repeat'(first|refine gO ?_|fail)
  (conv=>whnf)
  refine CB (ι:=Nat) (λj=>[(0,.hold .one [I (slots k)]),(1,.hold .one [I (b)]),(5,.hold .one (aF .own (ne b j))),(6,.hold .one [I ((j:Nat):Int)])]) (λj=>j<=(slots k).toNat) (λj=>(slots k).toNat - j) (0) ?_ (P0 _) λj g=>?_
  ·exact wB
  have l:=qS b j;by_cases q:j<(slots k).toNat
  ·have d:=gV b (j:Nat) h
   have a:ne b (j+1)=if aW b (j:Nat)=true then ne b j else ne b j++[((j:Nat):Int)]:=rfl
   cases n:aW b (j:Nat)<;>rw[n]at d a
   ·rw[C6 (by simp)]at a
    repeat'(first|refine gD ?_|(conv=>whnf);first|refine C5 (c) ?_|refine C5 (d) ?_|refine CO cv (λr o=>by rw[W0.1 o];rfl) (by simp[aU,dx]) (by simp;omega) (by simp only[T0];exact vL (by simp;omega) (by decide)) rfl ?_)
    ((conv=>whnf);refine CA (j+1) ω ω ?_)
    rw[a]
    repeat'(first|exact trivial|rfl|exact CG rfl (CG (Q0 (C.s du.own) (by simp[rI])) trivial)|refine CG ?_ ?_|(exact AQ (by first|omega|(simp only;omega)|(simp;omega))))
   ·rw[C7 rfl]at a
    repeat'(first|refine gD ?_|(conv=>whnf);first|refine C5 (c) ?_|refine C5 (d) ?_)
    ((conv=>whnf);refine CA (j+1) ω ω ?_)
    rw[a];exact wB
  ·obtain rfl:j=(slots k).toNat:=ω
   repeat'(first|refine gD ?_|fail)
   rfl
theorem FU(b i:Int):bor b (2 ^ i.toNat)=fY b i:=by
 unfold bor fY;have:((2 ^ i.toNat:Nat):Int)=(2:Int) ^ i.toNat:=Int.natCast_pow 2 i.toNat;rw[<-this,U1]
theorem wd(b i:Int)(d:0<=b/\b<=65535)(a:0<=i/\i<=15):ao Tryz.prog 344 false [.val none [I b],.val none [I i]] .one [I (fY b i)]:=by
 have c:=nG b i;rw[N0 ω]at c;have e:IntKind.u64.wrap i=i:=by unfold IntKind.wrap;simp[IntKind.signed,IntKind.bits];omega
 have h:=(shl64 a).2;have g:=(or64 (z1:=b) (z2:=2 ^ i.toNat) d ω).trans (FU b i);refine fO 15 [] Tryz.func344 rfl ?_
 repeat'(first|refine gO ?_|(conv=>whnf);first|refine C5 (c) ?_|refine CJ ω ?_|refine CH e ?_|refine CH (shl64 a).1 ?_|refine CH g ?_)
 rfl
theorem Jb{s:au}(b:aX s=true){k:Int}(d:0<=k/\k<slots s.Class):0<=k*csz s.Class/\k*csz s.Class<=15:=by
 have a:=aE b;have c:=fH a.2.2;rcases ce a.2.2 with e|e|e|e<;>rw[e]at c |-<;>omega
theorem wa(s:au)(k:Int)(a:aX s=true)(d:0<=k/\k<slots s.Class):ao Tryz.prog 345 false [.val (some 3) (au.enc .imm s),.val none [I k]] .one [I (16*s.Page+k*csz s.Class)]:=by
 have e:=aE a;have i:=Jb a d;have j:=fH e.2.2;have b:=f6 s;rw[a]at b;have g:=lG s.Class;have c:=aD k 0 (slots s.Class - 1);rw[N0 ω]at c;have h:=dq s.Class;refine fO 26 [(3,8,[17,18,19,20,21,22,23,24])] Tryz.func345 rfl ?_
 repeat'(first|refine gO ?_|(conv=>whnf);first|refine C5 (b) ?_|refine C5 (g) ?_|refine C5 (c) ?_|refine C5 (h) ?_|refine C8 ?_)
 exact Q0 (λz=>[I z]) ω
theorem yW(f:aZ)(g:f.Used.length<=1048576):ao Tryz.prog 346 false [.val (some 2) (aZ.enc .imm f)] .one [I (cQ (λu=>!u) f.Used)]:=by
 refine fO 18 [] Tryz.func346 rfl ?_
 repeat'(first|refine gO ?_|fail)
 (conv=>whnf)
 refine CB (ι:=Nat) (λi=>[(1,.hold .box (aZ.enc .imm f)),(3,.hold .one [I ((i:Nat):Int)])]) (λi=>i<=f.Used.length/\∀(j:Nat)(z:Bool),j<i->f.Used[j]? = some z->(!z)=false) (λi=>f.Used.length - i) (0) ?_ (⟨P0 _,λj z h=>ω⟩) λi c=>?_
 ·exact wB
 obtain⟨c,b⟩:=c;by_cases d:i<f.Used.length
 ·have a:=ah d
  cases e:nth f.Used i<;>rw[e]at a
  ·repeat'(first|refine gD ?_|(conv=>whnf);first|with_reducible refine C9 (aa a) ?_)
   exact Q0 (λz=>[I z]) (d9 a rfl b).symm
  ·repeat'(first|refine gD ?_|(conv=>whnf);first|with_reducible refine C9 (aa a) ?_)
   ((conv=>whnf);refine CA (i+1) ⟨ω,cW a rfl b⟩ ω ?_;(exact wB))
 ·repeat'(first|refine gD ?_|fail)
  exact Q0 (λz=>[I z]) (f7 ω b).symm
theorem lU(m:aJ):∀(n i:Nat),i<n->((nth m.Buffers i).length:Int)+(nth m.Inbox i).length<=bm m n/\0<=bm m n
 | 0,i,h=>absurd h (Nat.not_lt_zero i)
 | n+1,i,h=>by
  have a:0<=bm m n:=by
   cases n with
   | zero=>exact T3 _
   | succ k=>exact(lU m (k+1) 0 ω).2
  simp only[bm];by_cases e:i=n
  ·subst e;omega
  ·have:=(lU m n i ω).1;omega
structure ki(m:aJ):Prop where
 b4:1<=m.Buffers.length/\m.Buffers.length<=4
 i4:m.Inbox.length=m.Buffers.length
 bl:∀i,i<m.Buffers.length->(nth m.Buffers i).length<=30
 il:∀i,i<m.Buffers.length->(nth m.Inbox i).length<=30
theorem ki.of{m:aJ}(h:b9 m=true):ki m:=by
 obtain⟨⟨b,c,d⟩,-,e⟩:=dv.1 h;exact⟨⟨b,c⟩,d,λi a=>by have:=(lU m m.Buffers.length i a).1;omega,λi a=>by have:=(lU m m.Buffers.length i a).1;omega⟩
theorem ki.sml{m:aJ}(h:ki m):aJ.sml m:=by
 have c:=h.b4;have d:=h.i4;refine⟨⟨ω,λl a=>?_⟩,⟨ω,λl a=>?_⟩⟩
 ·obtain⟨i,b,rfl⟩:=bc a
  have:=h.bl i b;exact⟨ω,λ_ _=>trivial⟩
 ·obtain⟨i,b,rfl⟩:=bc a
  have:=h.il i ω;show(nth m.Inbox i).length<=1048576;omega
theorem pZ(m:aJ)(k:Int)(a:aJ.sml m):ao Tryz.prog 388 false [.val (some 2) (aJ.enc .imm m),.val none [I k]] .one [B (b9 m&&decide (0<=k/\k<=m.Buffers.length - 1))]:=by
 have b:=jY m a;have c:m.Buffers.length<=1048576:=a.1.1;cases e:b9 m<;>rw[e]at b
 all_goals
  refine fO 15 [] Tryz.func388 rfl ?_
  repeat'(first|refine gO ?_|(conv=>whnf);first|refine C8 ?_|refine C5 (b) ?_|refine C5 (aD k 0 (m.Buffers.length - 1:Int)) ?_)
  all_goals rfl
theorem Mp{m:aJ}{f:Nat}(a:f<m.Buffers.length):m.Buffers[f]? = some (nth m.Buffers f):=ah a
theorem FE(m:aJ)(f:Nat)(p:cP):aJ.enc .own (ge m f p)=[.s .own ((m.Buffers.map (cL .own)).set f (cL .own (nth m.Buffers f++[p]))),.s .own (m.Inbox.map (aF .own))]:=by simp[aJ.enc,ge,I4]
theorem FM{m:aJ}(h:ki m){f:Nat}(c:f<m.Buffers.length)(p:cP):aJ.sml (ge m f p):=by
 have d:=h.b4;have b:=h.sml;refine⟨⟨by simp only[ge,X0];omega,λl a=>?_⟩,b.2⟩;rcases P4 a with a|rfl
 ·exact b.1.2 l a
 ·have:=h.bl f c
  exact⟨by simp;omega,λ_ _=>trivial⟩
theorem Fy(m:aJ)(f:Nat)(p:cP)(j:b9 m=true)(g:f<m.Buffers.length):ao Tryz.prog 381 false [.val (some 2) (aJ.enc .imm m),.val none [I (f:Nat)],.val (some 2) (cP.enc .imm p)] (.tup [some 2,none]) (aJ.enc .own (if b9 (ge m f p)=true then ge m f p else m)++[B (b9 (ge m f p))]):=by
 have c:=ki.of j;have k:=c.sml;have q:=c.b4;have h:=pZ m f k;rw[j,N0 ω]at h;have l:=eE m k;have b:=FM c g p;have i:=jY (ge m f p) b;have n:=eE (ge m f p) b;have a:=Mp g;have o:=c.bl f g;have d:=aJ.enc_fz (ge m f p);rw[FE]at d;cases e:b9 (ge m f p)<;>rw[e]at i
 ·rw[C6 (by simp)]
  refine fO 35 [(4,267,[16,17,18,19,20,21,22,23,24,25,27,0,1,2,3,4,5,6,7,8,9,10,1000,1001,1002,11,12])] Tryz.func381 rfl ?_ (.inr (aO (aJ.enc_fr _) ⟨trivial,trivial⟩))
  repeat'(first|refine gO ?_|(conv=>whnf);first|with_reducible refine C9 (aa a) ?_|refine C8 ?_|refine C9 (fA a) ?_|refine CE rfl (fA a) rfl ?_|refine C5 (h) ?_|refine C5 (l) ?_|refine Lq.one rfl rfl (aa a) rfl (U0 rfl) rfl rfl ?_|refine CE rfl (aa a) rfl ?_|refine CK rfl rfl (fA a) rfl (U0 rfl) (show [C.s du.own ((m.Buffers.map (cL .own)).set f (cL .own (nth m.Buffers f++[p]))),C.s .own (m.Inbox.map (aF .own))]=_ from by simp only[List.set_cons_zero,List.set_set,U1];rfl) ?_|refine Ap.sm (aR λ_=>rfl) rfl (by simp;omega) (by decide) (gN _ _ _) ?_|refine CD (i) ⟨⟨rfl,d⟩,trivial⟩ ?_)
  rfl
 ·rw[C7 rfl]
  refine fO 35 [(4,267,[16,17,18,19,20,21,22,23,24,25,27,0,1,2,3,4,5,6,7,8,9,10,1000,1001,1002,11,12])] Tryz.func381 rfl ?_ (.inr (aO (aJ.enc_fr _) ⟨trivial,trivial⟩))
  repeat'(first|refine gO ?_|(conv=>whnf);first|with_reducible refine C9 (aa a) ?_|refine C8 ?_|refine C9 (fA a) ?_|refine CE rfl (fA a) rfl ?_|refine C5 (h) ?_|refine C5 (l) ?_|refine Lq.one rfl rfl (aa a) rfl (U0 rfl) rfl rfl ?_|refine CE rfl (aa a) rfl ?_|refine CK rfl rfl (fA a) rfl (U0 rfl) (show [C.s du.own ((m.Buffers.map (cL .own)).set f (cL .own (nth m.Buffers f++[p]))),C.s .own (m.Inbox.map (aF .own))]=_ from by simp only[List.set_cons_zero,List.set_set,U1];rfl) ?_|refine Ap.sm (aR λ_=>rfl) rfl (by simp;omega) (by decide) (gN _ _ _) ?_|refine CD (i) ⟨⟨rfl,d⟩,trivial⟩ ?_|refine CD (n) ⟨⟨rfl,d⟩,trivial⟩ ?_)
  rfl
theorem BT(m:aJ)(f:Int)(a:b9 m=true)(d:¬(0<=f/\f<=m.Buffers.length - 1)):ao Tryz.prog 360 false [.val (some 2) (aJ.enc .imm m),.val none [I f]] (.tup [some 2,none]) (aJ.enc .own m++[B false]):=by
 have e:=ki.of a;have b:=e.sml;have c:=pZ m f b;rw[a,O0 d]at c;have g:=eE m b;refine fO 60 [(5,267,[31,32,33,34,35,36,37,38,39,40,42,0,1,2,3,4,5,6,7,8,9,10,1000,1001,1002,11,12]),(6,270,[43,44,45,46,47,48,49,50,51,52,53,54,55,57,0,1,2,3,4,5,6,7,8,9,10,11,12,13,1000,1001,1002,1003,14,15])] Tryz.func360 rfl ?_ (.inr (aO (aJ.enc_fr _) ⟨trivial,trivial⟩))
 repeat'(first|refine gO ?_|(conv=>whnf);first|refine C8 ?_|refine C5 (c) ?_|refine C5 (g) ?_)
 rfl
theorem DN(m:aJ)(f t:Nat)(a:(nth (nth m.Buffers f) 0).To=t):aJ.enc .own (fe m f)=[.s .own ((m.Buffers.map (cL .own)).set f [.s .own (((nth m.Buffers f).drop 1).map (cP.enc .imm))]),.s .own ((m.Inbox.map (aF .own)).set t (aF .own (nth m.Inbox t++[(nth (nth m.Buffers f) 0).Addr])))]:=by
 unfold aJ.enc fe;simp only[I4,a,U1]
 rfl
theorem Ak(m:aJ)(f:Nat)(h:b9 m=true)(i:f<m.Buffers.length):ao Tryz.prog 360 false [.val (some 2) (aJ.enc .imm m),.val none [I (f:Nat)]] (.tup [some 2,none]) (aJ.enc .own (if 0<(nth m.Buffers f).length then fe m f else m)++[B (decide (0<(nth m.Buffers f).length))]):=by
 have d:=ki.of h;have u:=d.sml;have K:=d.b4;have D:=d.i4;have j:=pZ m f u;rw[h,N0 ω]at j;have w:=eE m u;have a:=Mp i;have F:=d.bl f i;by_cases e:0<(nth m.Buffers f).length
 ·rw[C7 e,N0 e]
  have g:=((dv.1 h).2.1 f i).1 _ (am e);obtain⟨t,k⟩:=V1 g.1;have l:t<m.Inbox.length:=ω
  have y:=ah e;have c:=ah l;have G:=d.il t ω;have n:=(ki.of (B5 h i e)).sml;have H:=eE (fe m f) n;have o:=aJ.enc_fz (fe m f);rw[DN m f t k]at o;have q:=aO (b:=[B true]) (aJ.enc_fr (fe m f)) ⟨trivial,trivial⟩;generalize L:nth (nth m.Buffers f) 0=p at *;obtain⟨M,J⟩:=p;simp only at k g o;subst k;refine fO 60 [(5,267,[31,32,33,34,35,36,37,38,39,40,42,0,1,2,3,4,5,6,7,8,9,10,1000,1001,1002,11,12]),(6,270,[43,44,45,46,47,48,49,50,51,52,53,54,55,57,0,1,2,3,4,5,6,7,8,9,10,11,12,13,1000,1001,1002,1003,14,15])] Tryz.func360 rfl ?_ (.inr q)
  repeat'(first|refine gA ?_|(conv=>whnf);first|with_reducible (first|refine C9 (aa a) ?_|refine C9 (aa c) ?_|refine Bf.E (λr=>?_) (λr=>?_))|refine C8 ?_|refine CI (by decide) (aa y) ?_|refine C9 (fA a) ?_|refine C9 (fA c) ?_|refine CE rfl (fA a) rfl ?_|refine CE rfl (fA c) rfl ?_|refine C5 (j) ?_|refine C5 (w) ?_|refine CE rfl (aa a) rfl ?_|refine CE rfl (aa c) rfl ?_|refine CE rfl (aa y) rfl ?_|refine Lq.one rfl rfl (aa c) rfl (U0 rfl) rfl rfl ?_|refine Sl.suf 1 rfl (by rw[T0];omega) (aR λ_=>rfl) z3 ?_|refine CQ (λ_=>rfl) (λ_=>rfl) (by rw[N2];omega) (by decide) ?_|refine CN (λ_=>rfl) (λ_=>rfl) (by rw[N2];omega) (by decide) ?_|refine CK rfl rfl (aa a) rfl (U0 rfl) rfl ?_|refine CK rfl rfl (fA c) rfl (U0 rfl) (show [C.s du.own ((m.Buffers.map (cL .own)).set f [.s .own (((nth m.Buffers f).drop 1).map (cP.enc .imm))]),C.s .own ((m.Inbox.map (aF .own)).set t (aF .own (nth m.Inbox t++[J])))]=_ from by simp only[List.set_cons_zero,List.set_cons_succ,List.set_set,U1];rfl) ?_|refine Ap.sm (aR λ_=>rfl) rfl (by simp;omega) (by decide) (gN _ _ _) ?_|refine C8 ?_|refine CD (H) ⟨⟨rfl,o⟩,trivial⟩ ?_)
  rfl
 ·rw[C6 e,O0 e]
  refine fO 60 [(5,267,[31,32,33,34,35,36,37,38,39,40,42,0,1,2,3,4,5,6,7,8,9,10,1000,1001,1002,11,12]),(6,270,[43,44,45,46,47,48,49,50,51,52,53,54,55,57,0,1,2,3,4,5,6,7,8,9,10,11,12,13,1000,1001,1002,1003,14,15])] Tryz.func360 rfl ?_ (.inr (aO (aJ.enc_fr _) ⟨trivial,trivial⟩))
  repeat'(first|refine gA ?_|(conv=>whnf);first|with_reducible (first|refine C9 (aa a) ?_|refine Bf.E (λr=>?_) (λr=>?_))|refine C8 ?_|refine C5 (j) ?_|refine C5 (w) ?_|refine CE rfl (aa a) rfl ?_)
  rfl
theorem G6.set(rows:List (List C))(i:Nat){r n:List C}(h:Jc r n):G6 (.s .own (rows.set i r)) (.s .own (rows.set i n)):=by
 refine .own_ _ _ (by simp) (λj a b d f=>?_) (λj l a b c p d f o g=>?_)
 ·by_cases e:i=j
  ·subst e
   have k:i<rows.length:=by have:=(P1.1 d).1;simpa using this
   rw[P2 k]at d f;cases d;cases f;exact h.1
  ·rw[List.getElem?_set_ne e]at d f
   rw[d]at f;cases f;rfl
 ·by_cases e:i=j
  ·subst e
   have k:i<rows.length:=by have:=(P1.1 d).1;simpa using this
   rw[P2 k]at d f;cases d;cases f;exact h.2 l c p o g
  ·rw[List.getElem?_set_ne e]at d f
   rw[d]at f;cases f;rw[o]at g;cases g;exact .rfl_ _
theorem xS(m:aJ)(t:Nat)(d:b9 m=true)(h:t<m.Buffers.length):ao Tryz.prog 389 false [.val (some 2) (aJ.enc .imm m),.val none [I (t:Nat)]] (.tup [some 2,none]) (aJ.enc .own (jP m t)++aF .own (nth m.Inbox t)):=by
 have b:=ki.of d;have e:=b.sml;have o:=b.b4;have j:=b.i4;have g:=pZ m t e;rw[d,N0 ω]at g;have k:=eE m e;have c:=ah (xs:=m.Inbox) (i:=t) ω;have l:=b.il t h;have a:=aO (aJ.enc_fr (jP m t)) (bM (nth m.Inbox t));have n:aJ.enc .own (jP m t)=[.s .own (m.Buffers.map (cL .own)),.s .own ((m.Inbox.map (aF .own)).set t [.s .own []])]:=by simp[aJ.enc,jP,I4];rfl
 rw[n]at a |-;refine fO 28 [(5,263,[20,21,22,23,24,25,26,0,1,2,3,4,5,6,7,1000,8,9])] Tryz.func389 rfl ?_ (.inr a)
 repeat'((conv=>whnf);first|with_reducible (first|refine Lm ?_|refine Wm ω ?_|refine C9 (aa c) ?_|refine Bn ?_|refine io.dk rfl ?_)|refine Bt ?_|refine Bu ?_|refine C8 ?_|refine C5 (g) ?_|refine C5 (k) ?_|refine CE rfl (aa c) rfl ?_|refine CK rfl rfl (aa c) rfl (U0 rfl) rfl ?_|refine CQ (λ_=>rfl) (λ_=>rfl) ω (by decide) ?_|refine CN (λ_=>rfl) (λ_=>rfl) ω (by decide) ?_|refine C8 ?_)
 exact .cons (.rfl_ _) (.cons (G6.set _ _ (.cons .z_ .nil)) (.cons (.rfl_ _) .nil))
theorem EX(now:Int):∀{l:List aM}{i:Nat},i<=l.length->(∀j,j<i->(nth l j).Since<now - 100)->(i<l.length->¬(nth l i).Since<now - 100)->qm now l=i
 | [],i,h,_,_=>by simp at h;subst h;rfl
 | x::xs,0,_,_,h=>by
  unfold qm;exact C6 (h (by simp))
 | x::xs,i+1,b,a,c=>by
  unfold qm;refine(C7 (a 0 ω)).trans ?_;rw[EX now (l:=xs) (i:=i) (by simp at b;omega) (λj d=>a (j+1) ω) (λe=>c (by simp;omega))]
def K2(q:bC)(now:Int):List C:=bC.enc .own ⟨q.Room,q.Lst.drop (qm now q.Lst)⟩++cu .own (q.Lst.take (qm now q.Lst))
theorem sq(q:bC)(now:Int)(g:eX q=true)(G:q.Lst.length<=4096)(u:0<=now/\now<=1000000):ao Tryz.prog 363 false [.val (some 2) (bC.enc .imm q),.val none [I now],.val none [I 100]] (.tup [some 2,none]) (K2 q now):=by
 have w:bC.sml q:=⟨ω,λ_ _=>trivial⟩
 have n:=na q w;rw[g]at n;have o:=aD now 0 1000000;rw[N0 u]at o;have p:=aD 100 0 1000000;rw[N0 (by decide)]at p;have h:=(iE.1 g).1;have a:gv (K2 q now):=aO (bC.enc_fr _) (rF _);have y:∀i,i<q.Lst.length->0<=(nth q.Lst i).Since:=λi b=>(h _ (am b)).2.2.2
 unfold K2 at a |-;generalize B:qm now q.Lst=k at a |-;refine fO 59 [(6,270,[44,45,46,47,48,49,50,51,53,54,55,56,57,58,0,1,2,3,4,5,6,7,9,10,11,12,13,14,8,1009,1010,1011,1012,1013,1014,15,16])] Tryz.func363 rfl ?_ (.inr a)
 repeat'(first|refine gO ?_|(conv=>whnf);first|refine C8 ?_|refine C5 (n) ?_|refine C5 (o) ?_|refine C5 (p) ?_)
 (conv=>whnf)
 refine CB (ι:=Nat) (λi=>[(1,.hold .one [I (now)]),(2,.hold .one [I (100)]),(3,.hold .box (bC.enc .imm q)),(6,.hold .box [I 0,.z]),(8,.hold .one [I ((i:Nat):Int)])]) (λi=>i<=q.Lst.length/\∀j,j<i->(nth q.Lst j).Since<now - 100) (λi=>q.Lst.length - i) (0) ?_ (⟨P0 _,λj C=>ω⟩) λi b=>?_
 ·exact wC
 obtain⟨b,r⟩:=b;by_cases l:i<q.Lst.length/\(nth q.Lst i).Since<now - 100
 ·have c:=ah l.1
  repeat'(first|refine gD ?_|(conv=>whnf);first|with_reducible refine C9 (aa c) ?_|refine C8 ?_|refine CE rfl (aa c) rfl ?_)
  ((conv=>whnf);refine CA (i+1) ⟨ω,λj C=>by by_cases e:j=i;(subst e;exact l.2);exact r j ω⟩ ω ?_;(exact wC))
 ·have d:=EX now (i:=i) b r (λE F=>l ⟨E,F⟩)
  rw[B]at d;subst d;by_cases t:k<q.Lst.length
  ·have c:=ah t
   have:=y k t
   repeat'(first|refine gD ?_|(conv=>whnf);first|with_reducible (first|refine C9 (aa c) ?_|refine Bf.D (λg=>?_) (λg=>?_))|refine C8 ?_|refine CE rfl (aa c) rfl ?_|refine CR k rfl (by rw[T0];omega) (aR λ_=>rfl) v3 ?_|refine Sl.suf k rfl (by rw[T0];omega) (aR λ_=>rfl) z3 ?_|refine CQ (λ_=>rfl) (λ_=>rfl) (by rw[Z0];omega) (by decide) ?_|refine CQ (λ_=>rfl) (λ_=>rfl) (by rw[N2];omega) (by decide) ?_|refine CN (λ_=>rfl) (λ_=>rfl) (by rw[N2];omega) (by decide) ?_|refine C8 ?_)
   rfl
  ·repeat'(first|refine gD ?_|(conv=>whnf);first|refine C8 ?_|refine CR k rfl (by rw[T0];omega) (aR λ_=>rfl) v3 ?_|refine Sl.suf k rfl (by rw[T0];omega) (aR λ_=>rfl) z3 ?_|refine CQ (λ_=>rfl) (λ_=>rfl) (by rw[Z0];omega) (by decide) ?_|refine CQ (λ_=>rfl) (λ_=>rfl) (by rw[N2];omega) (by decide) ?_|refine CN (λ_=>rfl) (λ_=>rfl) (by rw[N2];omega) (by decide) ?_|refine C8 ?_)
   rfl
theorem yN(h:ac)(n:Int)(g:bn h [])(r:0<=n/\n<=1000)(p:h.Clock+n<=1000000):aQ Tryz.prog 306 false [.ptr (bu h),.val none [I n]] [.ptr (bu (tick h n)),.val none [I n]] .one [I ((lV h n).length:Nat)]:=by
 have a:=g.nums;unfold ca at a;rw[C0]at a;have t:=g.lens.quar;have i:=sq h.Quar (h.Clock+n) g.quar ω ⟨ω,p⟩;have j:=g.aged r.1 p;unfold K2 at i;unfold tick lV aged at *;have l:(h.Quar.Lst.take (qm (h.Clock+n) h.Quar.Lst)).length<=4096:=by rw[Z0];omega
 rw[T0];generalize h.Quar.Lst.take (qm (h.Clock+n) h.Quar.Lst)=out at i j l |-;generalize h.Quar.Lst.drop (qm (h.Clock+n) h.Quar.Lst)=rest at i j |-;refine fM 48 [(364,[2,0])] [(2,269,[18,19,20,21,22,23,24,25,26,17,27,28,5,0,1,2,3,4,5,6,7,8,9,10,11,12,13,1011,14])] [(0,0),(0,0)] Tryz.func306 rfl (λu q=>?_)
 repeat'(first|refine gO ?_|(conv=>whnf);first|refine C8 ?_|refine CD (i) ⟨⟨rfl,bC.enc_fz h.Quar⟩,⟨rfl,rfl⟩,⟨rfl,rfl⟩,trivial⟩ ?_|refine C8 ?_)
 (conv=>whnf)
 refine CB (ι:=Nat) (λk=>[(0,.hold .box (bu (freeAs {h with Clock:=h.Clock+n,Quar:=⟨h.Quar.Room,rest⟩} ((out.map (·.Addr)).take k)))),(6,.hold .one (cu .own out)),(7,.hold .one [I ((k:Nat):Int)])]) (λk=>k<=out.length) (λk=>out.length - k) (0) ?_ (P0 _) λk y=>?_
 ·exact wC
 by_cases o:k<out.length
 ·have b:=ah o
  have c:k<(out.map (·.Addr)).length:=by rw[T0];exact o
  have d:nth (out.map (·.Addr)) k=(nth out k).Addr:=bp (by rw[C2,ah o];rfl);have e:bn (freeAs {h with Clock:=h.Clock+n,Quar:=⟨h.Quar.Room,rest⟩} ((out.map (·.Addr)).take k)) (nth (out.map (·.Addr)) k::(out.map (·.Addr)).drop (k+1)):=by
   refine bn.freeAs ?_;rw[<-iH c,List.take_append_drop];rw[List.append_nil]at j;exact j
  rw[d]at e;have w:=lM _ _ _ e
  repeat'(first|refine gD ?_|(conv=>whnf);first|refine C8 ?_|refine C9 (aa b) ?_|refine CE rfl (aa b) rfl ?_|refine CF (w) (.inl rfl) ?_)
  ((conv=>whnf);refine CA (k+1) ω ω ?_)
  rw[rL _ _ _ c,d];exact wC
 ·obtain rfl:k=out.length:=ω
  rw[W4 (by rw[T0];omega)]
  repeat'(first|refine gD ?_|(conv=>whnf);first|refine C8 ?_)
  refine CC rfl rfl ?_;exact wC
theorem Bx(t:Nat)(h:ac)(az:List Int)(k:Nat)(a:k<az.length):recycs t h (az.take (k+1))=recyc t (recycs t h (az.take k)) (nth az k):=by
 unfold recycs;rw[Y3,ah a,Option.toList_some,List.foldl_append];rfl
theorem sD(h:ac)(t:Nat)(a:bn h [])(i:t<h.Caches.length):aQ Tryz.prog 361 false [.ptr (bu h),.val none [I (t:Nat)]] [.ptr (bu (collect h t)),.val none [I (t:Nat)]] .one [I ((nth h.Mail.Inbox t).length:Nat)]:=by
 have l:=a.nc;have n:=(dv.1 a.mail).1.2.2;have j:=xS h.Mail t a.mail ω;have c:=(ki.of a.mail).il t ω;have d:=a.coll (t:=t) ω;rw[List.append_nil]at d;unfold collect;generalize nth h.Mail.Inbox t=out at j d c |-;refine fM 36 [(384,[2,0,0])] [] [(0,0),(0,0)] Tryz.func361 rfl (λu q=>?_)
 repeat'(first|refine gO ?_|(conv=>whnf);first|refine C8 ?_|refine CD (j) ⟨⟨rfl,aJ.enc_fz h.Mail⟩,⟨rfl,rfl⟩,trivial⟩ ?_)
 (conv=>whnf)
 refine CB (ι:=Nat) (λk=>[(0,.hold .box (bu (recycs t {h with Mail:=jP h.Mail t} (out.take k)))),(1,.hold .one [I ((t:Nat):Int)]),(6,.hold .one (aF .own out)),(7,.hold .one [I ((k:Nat):Int)])]) (λk=>k<=out.length) (λk=>out.length - k) (0) ?_ (P0 _) λk p=>?_
 ·exact wC
 by_cases e:k<out.length
 ·have b:=ah e
  have g:bn (recycs t {h with Mail:=jP h.Mail t} (out.take k)) (nth out k::out.drop (k+1)):=by
   refine bn.recycs ?_ i;rw[<-iH e,List.take_append_drop];exact d
  have o:=me _ _ t _ g (by rw[(i9 t _ _).1];exact i)
  repeat'(first|refine gD ?_|(conv=>whnf);first|refine C8 ?_|refine C9 (aa b) ?_|refine CE rfl (aa b) rfl ?_|refine CF (o) (.inl rfl) ?_)
  ((conv=>whnf);refine CA (k+1) ω ω ?_)
  rw[Bx _ _ _ _ e];exact wC
 ·obtain rfl:k=out.length:=ω
  rw[U3]
  repeat'(first|refine gD ?_|(conv=>whnf);first|refine C8 ?_)
  refine CC rfl rfl ?_;exact wC
def Hf(a:Int)(o:bG):Bool:=decide (o.Addr<=a/\a<o.Addr+o.Size)
theorem Dq(h:ac)(E:List Int)(a:Int)(d:bn h E):aQ Tryz.prog 126 false [.ptr (bu h),.val none [I a]] [.ptr (bu h),.val none [I a]] .one [I (cQ (Hf a) h.Objs)]:=by
 have r:=d.lens.objs;refine fM 47 [] [(4,29,[15,16,17,18,19,20,21,22,23,24,25,26,27,28,29,30,31,32,33,34,35,36,37,38,39,40,41,42,43])] [(0,0),(0,0)] Tryz.func126 rfl (λu q=>?_)
 repeat'(first|refine gO ?_|(conv=>whnf);first|refine C8 ?_)
 (conv=>whnf)
 refine CB (ι:=Nat) (λi=>[(0,.hold .box (bu h)),(1,.hold .one [I (a)]),(5,.hold .one [I ((i:Nat):Int)])]) (λi=>i<=h.Objs.length/\∀(j:Nat)(z:bG),j<i->h.Objs[j]? = some z->Hf a z=false) (λi=>h.Objs.length - i) (0) ?_ (⟨P0 _,λj z C=>ω⟩) λi d=>?_
 ·exact wC
 obtain⟨t,c⟩:=d;by_cases e:i<h.Objs.length
 ·have b:=ah e
  have w:=oz ‹bn h E› (am e);have y:0<=(nth h.Objs i).Size/\(nth h.Objs i).Size<=1000:=by
   rcases bn.oow ‹bn h E› _ (am e) with⟨s,B,F,G⟩|⟨l,g,k,o⟩
   ·have H:=aE ((bn.L ‹bn h E›).sok s B)
    have:=oY (n:=(nth h.Objs i).Size) ω;omega
   ·have J:=ci ((bn.L ‹bn h E›).lok l g)
    omega
  by_cases k:(nth h.Objs i).Addr<=a
  ·by_cases o:a<(nth h.Objs i).Addr+(nth h.Objs i).Size
   ·repeat'(first|refine gD ?_|(conv=>whnf);first|with_reducible refine C9 (aa b) ?_|refine C8 ?_|refine CE rfl (aa b) rfl ?_|refine C8 ?_)
    refine CC rfl (Q0 (λz=>[I z]) (d9 b (N0 ⟨k,o⟩) c).symm) ?_;exact wC
   ·repeat'(first|refine gD ?_|(conv=>whnf);first|with_reducible (first|refine C9 (aa b) ?_|refine Bf.D (λp=>?_) (λp=>?_))|refine C8 ?_|refine CE rfl (aa b) rfl ?_|refine C8 ?_)
    ((conv=>whnf);refine CA (i+1) ⟨ω,cW b (O0 λx=>o x.2) c⟩ ω ?_;(exact wC))
  ·repeat'(first|refine gD ?_|(conv=>whnf);first|with_reducible (first|refine C9 (aa b) ?_|refine Bf.D (λp=>?_) (λp=>?_))|refine C8 ?_|refine CE rfl (aa b) rfl ?_|refine C8 ?_)
   ((conv=>whnf);refine CA (i+1) ⟨ω,cW b (O0 λx=>k x.1) c⟩ ω ?_;(exact wC))
 ·repeat'(first|refine gD ?_|(conv=>whnf);first|refine C8 ?_)
  refine CC rfl (Q0 (λz=>[I z]) (f7 ω c).symm) ?_;exact wC
theorem E6(h:ac)(a v:Int):bu {h with Kernel:=kb h.Kernel a v} = (bu h).set 0 (.s .own ((h.Kernel.Machine.Frames.Cells.map (aF .own)).set (ar h.Kernel.Machine.Table (a / 16)).Frame.toNat ((aF .own (nth h.Kernel.Machine.Frames.Cells (fD h.Kernel a))).set 0 (.s .own (((nth h.Kernel.Machine.Frames.Cells (fD h.Kernel a)).map (rI .own)).set (a % 16).toNat (splice (rI .own (nth (nth h.Kernel.Machine.Frames.Cells (fD h.Kernel a)) (a % 16).toNat)) 0 [I v])))))):=by
 simp[bu,kb,setCell,I4,aF,splice,fD,rI]
theorem A3{α:Type}{p:α->Bool}{xs:List α}{x:α}(a:x∈xs)(b:p x=true):0<=cQ p xs:=by
 have:=jl p xs;rw[show xs.any p=true from W2.2 ⟨x,a,b⟩,C0]at this;exact this
theorem wG(h:ac)(i:Nat)(j v:Int)(e:bn h [])(C:i<h.Objs.length)(D:0<=j/\j<=(nth h.Objs i).Size - 1):aQ Tryz.prog 356 false [.ptr (bu h),.val none [I ((nth h.Objs i).Addr+j)],.val none [I v]]
  [.ptr (bu (if(ar h.Kernel.Machine.Table (((nth h.Objs i).Addr+j) / 16)).Mode=1\/¬(0<=v/\v<=999) then h else {h with Kernel:=kb h.Kernel ((nth h.Objs i).Addr+j) v})),.val none [I ((nth h.Objs i).Addr+j)],.val none [I v]] .one [I (if(ar h.Kernel.Machine.Table (((nth h.Objs i).Addr+j) / 16)).Mode=1 then 2 else if ¬(0<=v/\v<=999) then 3 else 0)]:=by
 obtain⟨E,J,K⟩:=lz e (am C) D;have F:0<=cQ (Hf ((nth h.Objs i).Addr+j)) h.Objs:=A3 (am C) (N0 ω);have p:=Dq h [] ((nth h.Objs i).Addr+j) e;have r:=b8 e.ker;have t:=cH h.Kernel.Machine.Table (((nth h.Objs i).Addr+j) / 16) r.1.2;have n:=aD v 0 999;generalize L:(nth h.Objs i).Addr+j=a at *;have b:0<=a/\a<512:=ω
 obtain⟨-,-,-,G,M⟩:=co e.ker E;have H:=(bf.1 (aC.1 e.ker).2.1).2.2.1;have k:fD h.Kernel a<h.Kernel.Machine.Frames.Cells.length:=by unfold fD;omega
 have d:h.Kernel.Machine.Frames.Cells[(ar h.Kernel.Machine.Table (a / 16)).Frame.toNat]? = some (nth h.Kernel.Machine.Frames.Cells (fD h.Kernel a)):=ah k;have w:=e.lens.row _ (am k);have l:=ah (xs:=nth h.Kernel.Machine.Frames.Cells (fD h.Kernel a)) (i:=(a % 16).toNat) (by rw[w];omega);have B:a.tmod 16=a % 16:=f8 b.1;refine fM 42 [(126,[2,0])] [(8,14,[27,28,29,30,31,32,33,34,35,36,37,38,39,40])] [(0,0),(0,0),(0,0)] Tryz.func356 rfl (λu q=>?_);by_cases o:(ar h.Kernel.Machine.Table (a / 16)).Mode=1
 ·rw[C7 (Or.inl o),C7 o]
  repeat'(first|refine gA ?_|(conv=>whnf);first|refine C8 ?_|refine CF (p) (.inl rfl) ?_|refine CD (t) ⟨⟨rfl,CT _⟩,⟨rfl,rfl⟩,trivial⟩ ?_|refine CJ (by decide) ?_|refine CH (od b) ?_)
  refine CC rfl rfl ?_;exact wC
 rw[C6 (c:=_=(1:Int)) o];by_cases g:0<=v/\v<=999
 ·rw[N0 g]at n
  rw[C6 (c:=¬(0<=v/\v<=999)) (Z2 g),C6 (c:=_\/¬(0<=v/\v<=999)) (λy=>y.elim o λy=>y g)]
  repeat'(first|refine gA ?_|(conv=>whnf);first|refine C8 ?_|refine CF (p) (.inl rfl) ?_|refine CD (t) ⟨⟨rfl,CT _⟩,⟨rfl,rfl⟩,trivial⟩ ?_|refine C5 (n) ?_|refine CJ (by decide) ?_|refine CH (od b) ?_|refine CP B ?_|refine CI G (aa d) ?_|refine CE rfl (aa d) rfl ?_|refine CI ω (aa l) ?_|refine Pu.two rfl rfl (aa d) rfl rfl rfl (aa l) rfl (Z1 _) (E6 h a v) ?_|refine C8 ?_)
  refine CC rfl rfl ?_;exact wC
 ·rw[O0 g]at n
  rw[C7 (Or.inr g),C7 g]
  repeat'(first|refine gA ?_|(conv=>whnf);first|refine C8 ?_|refine CF (p) (.inl rfl) ?_|refine CD (t) ⟨⟨rfl,CT _⟩,⟨rfl,rfl⟩,trivial⟩ ?_|refine C5 (n) ?_|refine CJ (by decide) ?_|refine CH (od b) ?_)
  refine CC rfl rfl ?_;exact wC
def ue(l:a8)(n:Int):a7:=if(n+15) / 16<l.Pages then⟨l.Page+(n+15) / 16,l.Pages - (n+15) / 16⟩ else⟨0,0⟩
theorem vd(l:a8)(n:Int)(d:bP l=true):ao Tryz.prog 386 false [.val (some 3) (a8.enc .imm l),.val none [I n]] (.tup [some 3,some 2,none]) (if 9<=n/\n<=l.Size then a8.enc .own (trimL l n)++a7.enc .own (ue l n)++[B true] else a8.enc .own l++[I 0,I 0]++[B false]):=by
 have b:=lh l;rw[d]at b;have a:=aD n 9 l.Size;have g:=d;unfold bP at g;rw[C0]at g;by_cases e:9<=n/\n<=l.Size
 ·rw[N0 e]at a
  rw[C7 e];have c:=ky n;rw[show ed n=(n+15) / 16 by unfold ed;rw[C7 ω]]at c;unfold ue;by_cases h:(n+15) / 16<l.Pages
  ·rw[C7 h]
   refine fO 43 [(7,261,[37,38,39,40,42,0,1,2,3,5,4,1005,6,1005,7,8])] Tryz.func386 rfl ?_ (.inr ⟨trivial,trivial,trivial,trivial,trivial,trivial,trivial⟩)
   repeat'(first|refine gD ?_|(conv=>whnf);first|refine C8 ?_|refine C5 (b) ?_|refine C5 (a) ?_|refine C5 (c) ?_|refine C8 ?_)
   rfl
  ·rw[C6 h]
   refine fO 43 [(7,261,[37,38,39,40,42,0,1,2,3,5,4,1005,6,1005,7,8])] Tryz.func386 rfl ?_ (.inr ⟨trivial,trivial,trivial,trivial,trivial,trivial,trivial⟩)
   repeat'(first|refine gD ?_|(conv=>whnf);first|refine C8 ?_|refine C5 (b) ?_|refine C5 (a) ?_|refine C5 (c) ?_|refine C8 ?_)
   rfl
 ·rw[O0 e]at a
  rw[C6 e];refine fO 43 [(7,261,[37,38,39,40,42,0,1,2,3,5,4,1005,6,1005,7,8])] Tryz.func386 rfl ?_ (.inr ⟨trivial,trivial,trivial,trivial,trivial,trivial,trivial⟩)
  repeat'(first|refine gO ?_|(conv=>whnf);first|refine C8 ?_|refine C5 (b) ?_|refine C5 (a) ?_|refine C8 ?_)
  rfl
theorem yt(h:ac)(t a:Int)(c:h.Caches.length<=4)(d:¬(0<=t/\t<=h.Caches.length - 1)):aQ Tryz.prog 354 false [.ptr (bu h),.val none [I t],.val none [I a]] [.ptr (bu h),.val none [I t],.val none [I a]] .one [I 1]:=by
 have b:=aD t 0 (h.Caches.length - 1:Int);rw[O0 d]at b;refine fM 148 [(380,[2,0]),(382,[2,0]),(384,[2,0,0]),(379,[2,0])] [(15,269,[68,69,70,71,72,73,74,75,77,67,78,79,11,0,1,2,3,4,5,6,7,13,8,1000,1001,1002,1003,1004,1013,9,10,11,12,14,1012,15]),(22,15,[92,93,94,95,96,97,98,99,100,101,102,103,104,105,106]),(25,271,[116,117,118,119,120,121,122,123,124,125,127,115,128,129,14,0,1,2,3,4,5,6,7,8,9,15,10,1000,1001,1002,1003,1015,11,12,13,14,16,1014,17])] [(0,0),(0,0),(0,0)] Tryz.func354 rfl (λu q=>?_)
 repeat'(first|refine gO ?_|(conv=>whnf);first|refine C8 ?_|refine C5 (b) ?_)
 refine CC rfl rfl ?_;exact wC
theorem Br(h:ac)(i t:Nat)(a:bn h [])(j:i<h.Objs.length)(U:t<h.Caches.length)(K:(nth h.Objs i).Thread≠t):aQ Tryz.prog 354 false [.ptr (bu h),.val none [I (t:Nat)],.val none [I (nth h.Objs i).Addr]] [.ptr (bu (freeT h t i).1),.val none [I (t:Nat)],.val none [I (nth h.Objs i).Addr]] .one [I (freeT h t i).2]:=by
 have F:=am j;obtain⟨-,L,d⟩:=a.objAt F;have N:m6 h (nth h.Objs i).Addr=i:=by
  have V:=(a.objAt F).1;exact fG (f:=(·.Addr)) (fK a.osr) V j (by rw[L])
 rw[N]at d;have b:=oz a F;have W:=a.onu _ F;have n:=a.lens;have X:=n.objs;have Y:=a.nc;have Z:=ki.of a.mail;have hb4:=Z.b4;have o:=aD (t:Nat) 0 (h.Caches.length - 1:Int);rw[N0 ω]at o;have p:=oB h (nth h.Objs i).Addr ω;rw[d]at p;have e:=ah j;have G:=je (nth h.Objs i).Size;have O:=b8 a.ker;have P:=cH h.Kernel.Machine.Table ((nth h.Objs i).Addr / 16) O.1.2;unfold freeT;by_cases H:aN (nth h.Objs i).Size<0
 ·rw[C7 H]
  have c3:=ov h i a j H;refine fM 148 [(380,[2,0]),(382,[2,0]),(384,[2,0,0]),(379,[2,0])] [(15,269,[68,69,70,71,72,73,74,75,77,67,78,79,11,0,1,2,3,4,5,6,7,13,8,1000,1001,1002,1003,1004,1013,9,10,11,12,14,1012,15]),(22,15,[92,93,94,95,96,97,98,99,100,101,102,103,104,105,106]),(25,271,[116,117,118,119,120,121,122,123,124,125,127,115,128,129,14,0,1,2,3,4,5,6,7,8,9,15,10,1000,1001,1002,1003,1015,11,12,13,14,16,1014,17])] [(0,0),(0,0),(0,0)] Tryz.func354 rfl (λu q=>?_)
  repeat'(first|refine gD ?_|(conv=>whnf);first|with_reducible refine Bf.D (λc=>?_) (λc=>?_)|refine C8 ?_|refine C5 (o) ?_|refine CD (p) ⟨⟨rfl,bz h⟩,⟨rfl,rfl⟩,trivial⟩ ?_|refine C9 (aa e) ?_|refine CE rfl (aa e) rfl ?_|refine C5 (G) ?_|refine CF (c3) (.inl rfl) ?_)
  refine CC rfl rfl ?_;exact wC
 rw[C6 H];obtain⟨s1,s2,s3,s4⟩:=MC.of a (am j) H;by_cases J:(ar (tbl h) ((nth h.Objs i).Addr / 16)).Mode=1
 ·rw[C7 J]
  unfold tbl at J;refine fM 148 [(380,[2,0]),(382,[2,0]),(384,[2,0,0]),(379,[2,0])] [(15,269,[68,69,70,71,72,73,74,75,77,67,78,79,11,0,1,2,3,4,5,6,7,13,8,1000,1001,1002,1003,1004,1013,9,10,11,12,14,1012,15]),(22,15,[92,93,94,95,96,97,98,99,100,101,102,103,104,105,106]),(25,271,[116,117,118,119,120,121,122,123,124,125,127,115,128,129,14,0,1,2,3,4,5,6,7,8,9,15,10,1000,1001,1002,1003,1015,11,12,13,14,16,1014,17])] [(0,0),(0,0),(0,0)] Tryz.func354 rfl (λu q=>?_)
  repeat'(first|refine gA ?_|(conv=>whnf);first|with_reducible refine Bf.D (λc=>?_) (λc=>?_)|refine C8 ?_|refine CJ (by decide) ?_|refine CH (od b) ?_|refine C5 (o) ?_|refine CD (p) ⟨⟨rfl,bz h⟩,⟨rfl,rfl⟩,trivial⟩ ?_|refine C9 (aa e) ?_|refine CE rfl (aa e) rfl ?_|refine C5 (G) ?_|refine CD (P) ⟨⟨rfl,CT _⟩,⟨rfl,rfl⟩,trivial⟩ ?_)
  refine CC rfl rfl ?_;exact wC
 rw[C6 J,C6 K];unfold tbl at J;have r:=Fy h.Mail t ⟨(nth h.Objs i).Thread,(nth h.Objs i).Addr⟩ a.mail ω;by_cases l:b9 (ge h.Mail t ⟨(nth h.Objs i).Thread,(nth h.Objs i).Addr⟩)=true;rotate_left
 ·rw[C6 l]
  rw[C6 l,show b9 (ge h.Mail t ⟨(nth h.Objs i).Thread,(nth h.Objs i).Addr⟩)=false by simpa using l]at r;refine fM 148 [(380,[2,0]),(382,[2,0]),(384,[2,0,0]),(379,[2,0])] [(15,269,[68,69,70,71,72,73,74,75,77,67,78,79,11,0,1,2,3,4,5,6,7,13,8,1000,1001,1002,1003,1004,1013,9,10,11,12,14,1012,15]),(22,15,[92,93,94,95,96,97,98,99,100,101,102,103,104,105,106]),(25,271,[116,117,118,119,120,121,122,123,124,125,127,115,128,129,14,0,1,2,3,4,5,6,7,8,9,15,10,1000,1001,1002,1003,1015,11,12,13,14,16,1014,17])] [(0,0),(0,0),(0,0)] Tryz.func354 rfl (λu q=>?_)
  repeat'(first|refine gA ?_|(conv=>whnf);first|with_reducible refine Bf.D (λc=>?_) (λc=>?_)|refine C8 ?_|refine CJ (by decide) ?_|refine CH (od b) ?_|refine C5 (o) ?_|refine CD (p) ⟨⟨rfl,bz h⟩,⟨rfl,rfl⟩,trivial⟩ ?_|refine C9 (aa e) ?_|refine CE rfl (aa e) rfl ?_|refine C5 (G) ?_|refine CD (P) ⟨⟨rfl,CT _⟩,⟨rfl,rfl⟩,trivial⟩ ?_|refine CD (r) ⟨⟨rfl,aJ.enc_fz h.Mail⟩,⟨rfl,rfl⟩,⟨rfl,rfl⟩,trivial⟩ ?_|refine C8 ?_)
  refine CC rfl rfl ?_;exact wC
 rw[C7 l];rw[C7 l,l]at r;have w:fD h.Kernel (nth h.Objs i).Addr<h.Kernel.Machine.Frames.Cells.length:=by unfold fD;omega
 have hcz:=He s1;have B:=dq (aN (nth h.Objs i).Size);unfold Lf;generalize ge h.Mail t ⟨(nth h.Objs i).Thread,(nth h.Objs i).Addr⟩ = M at r;refine fM 148 [(380,[2,0]),(382,[2,0]),(384,[2,0,0]),(379,[2,0])] [(15,269,[68,69,70,71,72,73,74,75,77,67,78,79,11,0,1,2,3,4,5,6,7,13,8,1000,1001,1002,1003,1004,1013,9,10,11,12,14,1012,15]),(22,15,[92,93,94,95,96,97,98,99,100,101,102,103,104,105,106]),(25,271,[116,117,118,119,120,121,122,123,124,125,127,115,128,129,14,0,1,2,3,4,5,6,7,8,9,15,10,1000,1001,1002,1003,1015,11,12,13,14,16,1014,17])] [(0,0),(0,0),(0,0)] Tryz.func354 rfl (λu q=>?_)
 repeat'(first|refine gA ?_|(conv=>whnf);first|with_reducible refine Bf.D (λc=>?_) (λc=>?_)|refine C8 ?_|refine CJ (by decide) ?_|refine CH (od b) ?_|refine C5 (o) ?_|refine CD (p) ⟨⟨rfl,bz h⟩,⟨rfl,rfl⟩,trivial⟩ ?_|refine C9 (aa e) ?_|refine CE rfl (aa e) rfl ?_|refine C5 (G) ?_|refine CD (P) ⟨⟨rfl,CT _⟩,⟨rfl,rfl⟩,trivial⟩ ?_|refine CD (r) ⟨⟨rfl,aJ.enc_fz h.Mail⟩,⟨rfl,rfl⟩,⟨rfl,rfl⟩,trivial⟩ ?_|refine C8 ?_)
 have Q:({{h with Mail:=M} with Kernel:=f9 h.Kernel (nth h.Objs i).Addr 0} : ac) = {h with Mail:=M}:=EZ {h with Mail:=M} _ w;have R:=Q0 (λy:ac=>C.s .own (y.Kernel.Machine.Frames.Cells.map (aF .own))) Q
 (conv=>whnf)
 refine CB (ι:=Nat) (λk=>[(0,.hold .box (bu {{h with Mail:=M} with Kernel:=f9 h.Kernel (nth h.Objs i).Addr k})),(1,.hold .one [I ((t:Nat):Int)]),(2,.hold .one [I ((nth h.Objs i).Addr)]),(7,.hold .one [I ((i:Nat):Int)]),(8,.hold .box (bG.enc .own (nth h.Objs i))),(9,.hold .one [I (aN (nth h.Objs i).Size)]),(10,.hold .box (bj.enc .own (ar h.Kernel.Machine.Table ((nth h.Objs i).Addr / 16)))),(13,.hold .one [I ((k:Nat):Int)])]) (λk=>k<=(csz (aN (nth h.Objs i).Size)).toNat) (λk=>(csz (aN (nth h.Objs i).Size)).toNat - k) (0) ?_ (P0 _) λk hk=>?_
 ·repeat'(first|exact trivial|rfl |exact nj R|exact dE _|refine CG ?_ ?_|(exact AQ (by first|omega|(simp only;omega)|(simp;omega))))
 have T:IntKind.i64.wrap 0=0:=rfl;have S:(nth h.Objs i).Addr.tmod 16=(nth h.Objs i).Addr % 16:=f8 b.1;have g:(f9 h.Kernel (nth h.Objs i).Addr k).Machine.Frames.Cells[(ar h.Kernel.Machine.Table ((nth h.Objs i).Addr / 16)).Frame.toNat]? = some (kP (nth h.Kernel.Machine.Frames.Cells (fD h.Kernel (nth h.Objs i).Addr)) ((nth h.Objs i).Addr % 16).toNat k):=P2 w;by_cases lk:k<(csz (aN (nth h.Objs i).Size)).toNat
 ·have E:=ah (xs:=kP (nth h.Kernel.Machine.Frames.Cells (fD h.Kernel (nth h.Objs i).Addr)) ((nth h.Objs i).Addr % 16).toNat k) (i:=((nth h.Objs i).Addr % 16+k).toNat) (by rw[ny,s4];omega)
  repeat'(first|refine gD ?_|(conv=>whnf);first|refine C8 ?_|refine CJ (by decide) ?_|refine CP S ?_|refine C5 (B) ?_|refine CI s2.1 (aa g) ?_|refine CE rfl (aa g) rfl ?_|refine CI ω (aa E) ?_|refine Pu.two rfl rfl (aa g) rfl rfl rfl (aa E) rfl (Z1 _) (Al {h with Mail:=M} _ k _ b.1) ?_)
  ((conv=>whnf);refine CA (k+1) ω ω ?_;(exact wC))
 ·obtain rfl:k=(csz (aN (nth h.Objs i).Size)).toNat:=ω
  have c6:=lX {{h with Mail:=M} with Kernel:=f9 h.Kernel (nth h.Objs i).Addr (csz (aN (nth h.Objs i).Size)).toNat} i j (by show h.Objs.length<=_;omega)
  repeat'(first|refine gA ?_|(conv=>whnf);first|with_reducible refine Bf.D (λc=>?_) (λc=>?_)|refine C8 ?_|refine C5 (B) ?_|refine CF (c6) (.inl rfl) ?_)
  refine CC rfl rfl ?_;exact wC
theorem JM(h:ac)(i:Nat)(t:Int)(a:bn h [])(d:i<h.Objs.length):aQ Tryz.prog 354 false [.ptr (bu h),.val none [I t],.val none [I (nth h.Objs i).Addr]] [.ptr (bu (if 0<=t/\t<=h.Caches.length - 1 then(freeT h t.toNat i).1 else h)),.val none [I t],.val none [I (nth h.Objs i).Addr]] .one [I (if 0<=t/\t<=h.Caches.length - 1 then(freeT h t.toNat i).2 else 1)]:=by
 have c:h.Caches.length<=4:=by have:=(dv.1 a.mail).1.2.1;have:=a.nc;omega
 by_cases b:0<=t/\t<=h.Caches.length - 1
 ·rw[C7 b,C7 b]
  obtain⟨n,rfl⟩:=V1 b.1;simp only[U1];by_cases e:(nth h.Objs i).Thread=n
  ·have:=DH h (nth h.Objs i) n a (am d) e c
   have g:m6 h (nth h.Objs i).Addr=i:=by
    obtain⟨k,j,-⟩:=a.objAt (am d);exact fG (f:=(·.Addr)) (fK a.osr) k d (by rw[j])
   rw[g,<-xk e]at this;exact this
  ·exact Br h i n a d ω e
 ·rw[C6 b,C6 b]
  exact yt h t _ c b
theorem Hi(c:aB)(k:Nat):aB.enc .own (qv c k)=[.s .own ((c.Lists.map (aF .own)).set k (aF .own ((nth c.Lists k).take ((nth c.Lists k).length - 1))))]:=by simp[aB.enc,qv,I4]
theorem LG(xs:List Int)(n:Nat):(xs.take n).map (rI .imm)=(xs.map (rI .imm)).take n:=v3
def Mw(c:aB)(k:Nat):List C:=if 0<(nth c.Lists k).length then aB.enc .own (qv c k)++[I (nth (nth c.Lists k) ((nth c.Lists k).length - 1)),B true] else aB.enc .own c++[I (-1),B false]
theorem Ls(c:aB)(k:Nat):gv (Mw c k):=by
 unfold Mw;split
 ·exact aO (aB.enc_fr _) ⟨trivial,trivial,trivial⟩
 ·exact aO (aB.enc_fr _) ⟨trivial,trivial,trivial⟩
theorem tw(c:aB)(k:Nat)(h:bq c=true)(u:k<=3):ao Tryz.prog 289 false [.val (some 1) (aB.enc .imm c),.val none [I (k:Nat)]] (.tup [some 1,none,none]) (Mw c k):=by
 obtain⟨w,j⟩:=dR h;have n:aB.sml c:=⟨ω,λl r=>by have:=j l r;show l.length<=1048576;omega⟩
 have d:=uy c k n;rw[h,N0 ω]at d;have o:=gX c n;have b:=qR (c:=c) (k:=k) ω;have t:=j _ (am (xs:=c.Lists) (i:=k) ω);have a:=Ls c k;unfold Mw at a |-;by_cases p:0<(nth c.Lists k).length
 ·rw[C7 p]at a |-
  have q:=ah (xs:=nth c.Lists k) (i:=(nth c.Lists k).length - 1) ω;have e:(nth c.Lists k)[(((nth c.Lists k).length:Int) - 1).toNat]? = some (nth (nth c.Lists k) ((nth c.Lists k).length - 1)):=by rw[show(((nth c.Lists k).length:Int) - 1).toNat=(nth c.Lists k).length - 1 by omega];exact q
  have g:((((nth c.Lists k).length:Nat):Int) - 1)=(((nth c.Lists k).length - 1:Nat):Int):=ω
  rw[Hi]at a |-;refine fO 54 [(5,268,[32,33,34,35,36,37,38,39,40,41,42,44,0,1,2,3,4,5,6,7,8,9,10,11,1000,1001,1002,12,13]),(6,265,[45,46,47,48,49,50,51,52,53,0,1,2,3,4,5,6,7,8,9,1001,1002,1003,1004,1005,1006,1007,1008,10,11])] Tryz.func289 rfl ?_ (.inr a)
  repeat'(first|refine gA ?_|(conv=>whnf);first|with_reducible refine C9 (aa b) ?_|refine C8 ?_|refine CE rfl (aa b) rfl ?_|refine C5 (d) ?_|refine C5 (o) ?_|refine CI ω (aa e) ?_|refine C9 (aa q) ?_|refine CR ((nth c.Lists k).length - 1) g (by rw[T0];omega) (aR λ_=>rfl) (LG _ _) ?_|refine C8 ?_|refine CQ (λ_=>rfl) (λ_=>rfl) (by rw[Z0];omega) (by decide) ?_|refine CN (λ_=>rfl) (λ_=>rfl) (by rw[Z0];omega) (by decide) ?_|refine CK rfl rfl (aa b) rfl (U0 rfl) rfl ?_)
  rfl
 ·rw[C6 p]at a |-
  refine fO 54 [(5,268,[32,33,34,35,36,37,38,39,40,41,42,44,0,1,2,3,4,5,6,7,8,9,10,11,1000,1001,1002,12,13]),(6,265,[45,46,47,48,49,50,51,52,53,0,1,2,3,4,5,6,7,8,9,1001,1002,1003,1004,1005,1006,1007,1008,10,11])] Tryz.func289 rfl ?_ (.inr a)
  repeat'(first|refine gA ?_|(conv=>whnf);first|with_reducible refine C9 (aa b) ?_|refine C8 ?_|refine CE rfl (aa b) rfl ?_|refine C5 (d) ?_|refine C5 (o) ?_)
  rfl
def Mj(xs:List a7)(n:Int):List C:=bF .own (ay xs n).1++[I (ay xs n).2.1,B (ay xs n).2.2]
theorem Lt(xs:List a7)(n:Int):gv (Mj xs n):=aO (mG _) ⟨trivial,trivial,trivial⟩
theorem mr(pages:Int)(xs:List a7)(n:Int)(w:0<=pages/\pages<=1048576)(l:bw pages xs=true)(J:1<=n/\n<=1000)(K:xs.length<=4096):ao Tryz.prog 294 false [.val none [I pages],.val none (bF .imm xs),.val none [I n]] (.tup [none,none,none]) (Mj xs n):=by
 have o:=kr pages xs w ⟨ω,λ_ _=>trivial⟩;rw[l]at o;have p:=(yu l).2;refine fO 98 [(8,21,[31,32,33,34,35,36,37,38,39,40,41,42,43,44,45,46,47,48,49,50,51]),(14,265,[71,72,73,74,76,77,78,79,81,0,1,2,3,5,6,7,8,10,4,1005,1006,1007,1008,1010,9,1010,11,1010,12,13])] Tryz.func294 rfl ?_ (.inr (Lt xs n))
 repeat'(first|refine gD ?_|(conv=>whnf);first|refine C8 ?_|refine C5 (o) ?_|refine CN (λ_=>rfl) (λ_=>rfl) ω (by decide) ?_)
 (conv=>whnf)
 refine CB (ι:=Nat) (λi=>[(1,.hold .one (bF .imm xs)),(2,.hold .one [I (n)]),(9,.hold .one (bF .own xs)),(10,.hold .one [I (hJ xs n i)]),(11,.hold .one [I ((i:Nat):Int)])]) (λi=>i<=xs.length) (λi=>xs.length - i) (0) ?_ (P0 _) λi y=>?_
 ·exact wC
 have h:=vg xs n i y;by_cases q:i<xs.length
 ·have j:=ah q
  have E:=p _ (am q);have a:hJ xs n (i+1)=if n<=(nth xs i).Len/\(hJ xs n i<0\/(nth xs i).Len<(nth xs (hJ xs n i).toNat).Len) then((i:Nat):Int) else hJ xs n i:=rfl
  by_cases r:n<=(nth xs i).Len
  ·by_cases F:hJ xs n i<0
   ·rw[C7 ⟨r,.inl F⟩]at a
    repeat'(first|refine gD ?_|(conv=>whnf);first|with_reducible (first|refine C9 (aa j) ?_|refine Bf.D (λc=>?_) (λc=>?_))|refine C8 ?_)
    ((conv=>whnf);refine CA (i+1) ω ω ?_)
    rw[a];exact wC
   ·have d:=ah (xs:=xs) (i:=(hJ xs n i).toNat) ω
    by_cases G:(nth xs i).Len<(nth xs (hJ xs n i).toNat).Len
    ·rw[C7 ⟨r,.inr G⟩]at a
     repeat'(first|refine gD ?_|(conv=>whnf);first|with_reducible (first|refine C9 (aa j) ?_|refine CI ω (aa d) ?_|refine Bf.D (λc=>?_) (λc=>?_))|refine C8 ?_)
     ((conv=>whnf);refine CA (i+1) ω ω ?_)
     rw[a];exact wC
    ·rw[C6 ω]at a
     repeat'(first|refine gD ?_|(conv=>whnf);first|with_reducible (first|refine C9 (aa j) ?_|refine CI ω (aa d) ?_|refine Bf.D (λc=>?_) (λc=>?_))|refine C8 ?_)
     ((conv=>whnf);refine CA (i+1) ω ω ?_)
     rw[a];exact wC
  ·rw[C6 ω]at a
   repeat'(first|refine gD ?_|(conv=>whnf);first|with_reducible (first|refine C9 (aa j) ?_|refine Bf.D (λc=>?_) (λc=>?_))|refine C8 ?_)
   ((conv=>whnf);refine CA (i+1) ω ω ?_)
   rw[a];exact wC
 ·obtain rfl:i=xs.length:=ω
  change gj xs n = -1\/_ at h;unfold Mj ay;rw[show hJ xs n xs.length=gj xs n from rfl];by_cases e:gj xs n<0
  ·rw[C7 e]
   rw[show gj xs n = -1 from h.resolve_right λg=>by have L:0<=gj xs n:=g.1;omega]
   repeat'(first|refine gD ?_|(conv=>whnf);first|with_reducible refine Bf.D (λc=>?_) (λc=>?_)|refine C8 ?_)
   rfl
  ·rw[C6 e]
   obtain⟨H,t,M⟩:=h.resolve_left ω;change 0<=gj xs n at H;change gj xs n<xs.length at t;obtain⟨b,k⟩:=V1 (show 0<=gj xs n by omega);rw[k]at t |-;simp only[U1];have d:=ah (xs:=xs) (i:=b) ω;have E:=p _ (am (xs:=xs) (i:=b) ω);by_cases u:(nth xs b).Len=n
   ·rw[C7 u]
    repeat'(first|refine gA ?_|(conv=>whnf);first|with_reducible (first|refine C9 (aa d) ?_|refine Bf.D (λc=>?_) (λc=>?_))|refine C8 ?_|refine CR b rfl (by rw[T0];omega) (aR λ_=>rfl) v3 ?_|refine Sl.suf (b+1) rfl (by rw[T0];omega) (aR λ_=>rfl) z3 ?_|refine CQ (λ_=>rfl) (λ_=>rfl) (by rw[Z0];omega) (by decide) ?_|refine Ap.dele (λ_=>rfl) (λ_=>rfl) ω (by decide) ?_|refine CN (λ_=>rfl) (λ_=>rfl) (by rw[Z0];omega) (by decide) ?_|refine C8 ?_)
    rfl
   ·rw[C6 u]
    repeat'(first|refine gA ?_|(conv=>whnf);first|with_reducible (first|refine C9 (aa d) ?_|refine Bf.D (λc=>?_) (λc=>?_))|refine C8 ?_|refine CK rfl rfl (aa d) rfl (U0 rfl) rfl ?_)
    exact Q0 (λz=>z++[I (nth xs b).At,B true]) (show [C.s du.own _]=_ from by simp[bF,I4];rfl)
theorem J4(k:af)(p:Int)(f:Nat):af.enc .own (oZ k p f)=((af.enc .own k).set 1 (.s .own ((k.Machine.Frames.Used.map (rB .own)).set f (rB .own true)))).set 2 (.s .own ((k.Machine.Table.Entries.map (bj.enc .own)).set p.toNat (bj.enc .own ⟨2,(f:Nat)⟩))):=by
 simp[af.enc,oZ,I4]
theorem BH(k:af)(p:Int)(c:aA k=true)(y:k.Calls≠100000)(o:0<=p/\p<k.Machine.Table.Entries.length)(C:(nth k.Machine.Table.Entries p.toNat).Mode=0):aQ Tryz.prog 296 false [.ptr (af.enc .own k),.val none [I p]] [.ptr (af.enc .own (fI k p).1),.val none [I p]] .one [B (fI k p).2]:=by
 have E:=b8 c;have F:=bf.1 (aC.1 c).2.1;have G:=(bx.1 (aC.1 c).2.2.1).2.2;have H:(de k).Machine.Table.Entries.length<=32:=G;have a:=yW k.Machine.Frames ω;have d:=ll k c y;have g:=dO (de k) p E.1.2;have l:ar (de k).Machine.Table p=nth k.Machine.Table.Entries p.toNat:=by unfold ar;exact C7 o
 rw[l,C]at g;have h:=aD p 0 ((k.Machine.Table.Entries.length:Int) - 1);rw[N0 ω]at h;have r:=ah (xs:=k.Machine.Table.Entries) (i:=p.toNat) ω;change ao _ _ _ _ _ [I (pK k)]at a;unfold fI;cases e:refd k<;>rw[e]at d
 ·by_cases j:pK k<0
  ·rw[C7 (.inr j)]
   refine fM 56 [(347,[2])] [] [(0,0),(0,0)] Tryz.func296 rfl (λu q=>?_)
   repeat'(first|refine gA ?_|(conv=>whnf);first|with_reducible refine Bf.D (λb=>?_) (λb=>?_)|refine CD (a) ⟨⟨rfl,aZ.enc_fz _⟩,trivial⟩ ?_|refine CF (d) (.inl rfl) ?_|refine C5 (h) ?_|refine CD (g) ⟨CL (de k),⟨rfl,rfl⟩,trivial⟩ ?_)
   refine CC rfl ?_ ?_
   ·rfl
   ·exact wC
  ·rw[C6 (by simp[j])]
   obtain⟨n,t⟩:=B3 j;obtain⟨f,J⟩:=V1 (show 0<=pK k by omega);rw[J]at a n t j |-;simp only[U1]at n t |-;have w:=ah (xs:=k.Machine.Frames.Used) (i:=f) n;rw[J4];refine fM 56 [(347,[2])] [] [(0,0),(0,0)] Tryz.func296 rfl (λu q=>?_)
   repeat'(first|refine gA ?_|(conv=>whnf);first|with_reducible refine Bf.D (λb=>?_) (λb=>?_)|refine CD (a) ⟨⟨rfl,aZ.enc_fz _⟩,trivial⟩ ?_|refine CF (d) (.inl rfl) ?_|refine C5 (h) ?_|refine CD (g) ⟨CL (de k),⟨rfl,rfl⟩,trivial⟩ ?_|refine C9 (aa w) ?_|refine CI o.1 (aa r) ?_|refine CK rfl rfl (aa w) rfl (U0 rfl) rfl ?_|refine CK rfl rfl (aa r) rfl (U0 rfl) rfl ?_)
   refine CC rfl ?_ ?_
   ·rfl
   ·exact wC
 ·rw[C7 (.inl rfl)]
  refine fM 56 [(347,[2])] [] [(0,0),(0,0)] Tryz.func296 rfl (λu q=>?_)
  repeat'(first|refine gA ?_|(conv=>whnf);first|with_reducible refine Bf.D (λb=>?_) (λb=>?_)|refine CD (a) ⟨⟨rfl,aZ.enc_fz _⟩,trivial⟩ ?_|refine CF (d) (.inl rfl) ?_|refine C5 (h) ?_|refine CD (g) ⟨CL (de k),⟨rfl,rfl⟩,trivial⟩ ?_)
  refine CC rfl ?_ ?_
  ·rfl
  ·exact wC
def Ms(h:ac):List C:=(bu h).drop 5
theorem AD(h:ac)(p:Int)(a:aA h.Kernel=true)(b:h.Kernel.Calls≠100000)(c:0<=p/\p<h.Kernel.Machine.Table.Entries.length)(d:(nth h.Kernel.Machine.Table.Entries p.toNat).Mode=0):aQ Tryz.prog 296 false [.ptr (bu h),.val none [I p]] [.ptr (bu {h with Kernel:=(fI h.Kernel p).1}),.val none [I p]] .one [B (fI h.Kernel p).2]:=
 (BH h.Kernel p a b c d).frame (r:=Ms h) rfl
theorem FW(h:ac)(i:Nat):bu (slotT h i)=((bu h).set 14 (I (Fa h.Seed))).set 6 (.s .own ((h.Spans.map (au.enc .own)).set i [I (nth h.Spans i).Page,I (nth h.Spans i).Class,I (fY (nth h.Spans i).Bits (oo h i))])):=by
 simp[bu,slotT,oQ,I4,au.enc]
theorem pM(h:ac)(E:List Int)(i:Nat)(c:bn h E)(k:i<h.Spans.length):aQ Tryz.prog 291 false [.ptr (bu h),.val none [I (i:Nat)]] [.ptr (bu (qn h i).1),.val none [I (i:Nat)]] .one [I (qn h i).2]:=by
 have F:=c.lens;have G:=F.spans;have d:=ah k;have b:=c.L.sok _ (am k);have e:=dZ b;have a:=c.nums;unfold ca at a;rw[C0]at a;have t:=(bx.1 (aC.1 c.ker).2.2.1).2.2;have l:=qt c.L.sok (ps:=aK h (nth h.Spans i).Page) e (aK h (nth h.Spans i).Page).length;change 0<=fZ h i/\fZ h i<=65535 at l;have w:=lG (nth h.Spans i).Class;have y:=wq h i ⟨ω,λ_ _=>trivial⟩ ⟨by show h.Kernel.Machine.Table.Entries.length<=_;omega,λ_ _=>trivial⟩ c.L.sok k;have o:=uK (nth h.Spans i).Class (fZ h i) ω;change ao _ _ _ _ _ (aF .own (lT h i)) at o;have p:=BQ (nth h.Spans i).Class (fZ h i);change (lT h i).length<=16 at p;unfold qn;by_cases B:(lT h i).length=0
 ·rw[C7 B]
  refine fM 68 [] [(2,7,[16,17,18,19,20,21,22]),(7,12,[42,43,44,45,46,47,48,49,50,51,52,53]),(8,11,[56,57,58,59,60,61,62,63,64,65,66])] [(0,0),(0,0)] Tryz.func291 rfl (λu q=>?_)
  repeat'(first|refine gA ?_|(conv=>whnf);first|refine C9 (aa d) ?_|refine CE rfl (aa d) rfl ?_|refine C5 (w) ?_|refine CD (y) ⟨⟨rfl,bz h⟩,⟨rfl,rfl⟩,trivial⟩ ?_|refine C5 (o) ?_|refine C8 ?_)
  refine CC rfl rfl ?_;exact wC
 ·rw[C6 B]
  have H:=xf (h:=h) (i:=i) ω;obtain⟨C,D,O⟩:=vt H;have J:=(fH (aE b).2.2).2.2.1;have r:=uZ h.Seed (n:=((lT h i).length:Nat)) ω;have K:=rN h.Seed ((lT h i).length:Nat) ω ω;have M:=wd (nth h.Spans i).Bits (oo h i) e ω;have N:=wa (oQ (nth h.Spans i) (oo h i)) (oo h i) (zw b ⟨C,D⟩) ⟨C,D⟩;have g:(lT h i)[(GP h.Seed ((lT h i).length:Nat)).toNat]? = some (oo h i):=ah ω;have j:((h.Spans.map (au.enc .own)).set i [I (nth h.Spans i).Page,I (nth h.Spans i).Class,I (fY (nth h.Spans i).Bits (oo h i))])[i]? = some [I (nth h.Spans i).Page,I (nth h.Spans i).Class,I (fY (nth h.Spans i).Bits (oo h i))]:=qk k;unfold rJ;rw[FW];refine fM 68 [] [(2,7,[16,17,18,19,20,21,22]),(7,12,[42,43,44,45,46,47,48,49,50,51,52,53]),(8,11,[56,57,58,59,60,61,62,63,64,65,66])] [(0,0),(0,0)] Tryz.func291 rfl (λu q=>?_)
  repeat'(first|refine gA ?_|(conv=>whnf);first|refine C9 (aa d) ?_|refine C9 j ?_|refine CE rfl (aa g) rfl ?_|refine CE rfl (aa d) rfl ?_|refine CE rfl j rfl ?_|refine C5 (w) ?_|refine CD (y) ⟨⟨rfl,bz h⟩,⟨rfl,rfl⟩,trivial⟩ ?_|refine C5 (o) ?_|refine C5 (K) ?_|refine C5 (M) ?_|refine C5 (N) ?_|refine CI r.1 (aa g) ?_|refine C8 ?_|refine CK rfl rfl (aa d) rfl (U0 rfl) rfl ?_)
  refine CC rfl ?_ ?_
  ·rfl
  ·exact wC
theorem Ap.ins{α:Type}{e:α->List C}{xs:List α}{y:α}{r:List C}{i sz by_:Nat}{K:List (List C)->Prop}(a:r=e y)(b:∀y,(e y).length=sz)(c:∀y,aU (e y)=true)(h:xs.length<=1048576)(d:by_<=1000)(f:K ((xs.take i++y::xs.drop i).map e)):Ap true ((xs.take i).map e++[r]) ((xs.drop i).map e) sz by_ K:=by
 subst a;have g:(xs.take i).length+1+(xs.drop i).length<=3145728:=by rw[Z0,N2];omega
 refine CO (λr a=>?_) (aR b) (λ_ r a=>by obtain⟨y,-,rfl⟩:=C3.1 a;exact c y) (by simp only[I2,T0,List.length_singleton];omega) (by simp only[I2,T0,List.length_singleton];exact R3 (Nat.mul_le_mul g d) (by decide)) ?_ f
 ·rcases W1.1 a with a|a
  ·exact aR b r a
  ·rw[W0.1 a];exact b y
 ·rw[t4,z4,Z3];rfl
theorem sZ{α:Type}{p:α->Bool}{xs:List α}{y:α}{i:Nat}(h:jh p xs=i):ix p xs y=xs.take i++y::xs.drop i:=by unfold ix;rw[h]
def Ep(h:ac)(c:Int):ac × Int:=
 if(ay h.Free 1).2.2=false then(h,-1)
 else if(fI h.Kernel (ay h.Free 1).2.1).2=false then({h with Kernel:=(fI h.Kernel (ay h.Free 1).2.1).1},-1)
 else(uP h c,(sw h:Nat))
theorem zz(h:ac)(E:List Int)(c:Nat)(g:bn h E)(J:h.Kernel.Calls<=90000):aQ Tryz.prog 292 false [.ptr (bu h),.val none [I (c:Nat)]] [.ptr (bu (Ep h c).1),.val none [I (c:Nat)]] .one [I (Ep h c).2]:=by
 have B:=g.lens;have K:=B.spans;have L:dG h<=32:=B.ents;have C:=gf h;have l:=mr (dG h:Nat) h.Free 1 ⟨ω,ω⟩ g.rng (by decide) (by have:=B.free;omega);unfold Mj at l;have d:=jZ g (T3 1);unfold Ep uP sw;generalize ay h.Free 1=r at l d |-;obtain⟨o,p,ok⟩:=r;simp only at l d |-;cases ok with
 | false=>
  rw[C7 rfl];refine fM 79 [(296,[2,0]),(2000010,[0,6])] [(1,267,[11,12,13,14,15,16,17,10,18,19,20,0,1,2,3,4,5,6,7,8,9,10,11,1009,1010,12,1010,13])] [(0,0),(0,0)] Tryz.func292 rfl (λu q=>?_)
  repeat'(first|refine gO ?_|(conv=>whnf);first|refine C8 ?_|refine CD (C) ⟨bz h,trivial⟩ ?_|refine CD (l) ⟨⟨rfl,rfl⟩,⟨rfl,d8 h.Free⟩,⟨rfl,rfl⟩,trivial⟩ ?_|refine C8 ?_)
  refine CC rfl rfl ?_;exact wC
 | true=>
  rw[C6 (by simp)];obtain⟨M,N,O,V⟩:=d rfl;have F:0<=p/\p<h.Kernel.Machine.Table.Entries.length:=⟨M,by have:p+1<=((tbl h).Entries.length:Nat):=N;unfold tbl at this;omega⟩
  have t:=AD h p g.ker ω F (O p.toNat ω ω);generalize fI h.Kernel p=w at t |-;obtain⟨k,b⟩:=w;simp only at t |-;cases b with
  | false=>
   rw[C7 rfl];refine fM 79 [(296,[2,0]),(2000010,[0,6])] [(1,267,[11,12,13,14,15,16,17,10,18,19,20,0,1,2,3,4,5,6,7,8,9,10,11,1009,1010,12,1010,13])] [(0,0),(0,0)] Tryz.func292 rfl (λu q=>?_)
   repeat'(first|refine gO ?_|(conv=>whnf);first|refine C8 ?_|refine CD (C) ⟨bz h,trivial⟩ ?_|refine CD (l) ⟨⟨rfl,rfl⟩,⟨rfl,d8 h.Free⟩,⟨rfl,rfl⟩,trivial⟩ ?_|refine CF (t) (.inl rfl) ?_|refine C8 ?_)
   refine CC rfl rfl ?_;exact wC
  | true=>
   rw[C6 (by simp)];refine fM 79 [(296,[2,0]),(2000010,[0,6])] [(1,267,[11,12,13,14,15,16,17,10,18,19,20,0,1,2,3,4,5,6,7,8,9,10,11,1009,1010,12,1010,13])] [(0,0),(0,0)] Tryz.func292 rfl (λu q=>?_)
   repeat'(first|refine gO ?_|(conv=>whnf);first|refine C8 ?_|refine CD (C) ⟨bz h,trivial⟩ ?_|refine CD (l) ⟨⟨rfl,rfl⟩,⟨rfl,d8 h.Free⟩,⟨rfl,rfl⟩,trivial⟩ ?_|refine CF (t) (.inl rfl) ?_|refine C8 ?_)
   (conv=>whnf)
   refine CB (ι:=Nat) (λi=>[(0,.hold .box (bu {h with Kernel:=k,Free:=o})),(1,.hold .one [I ((c:Nat):Int)]),(6,.hold .one [I (p)]),(8,.hold .one [I ((i:Nat):Int)])]) (λi=>i<=h.Spans.length/\∀(j:Nat)(z:au),j<i->h.Spans[j]? = some z->Fo p z=false) (λi=>h.Spans.length - i) (0) ?_ (⟨P0 _,λj z W=>ω⟩) λi g=>?_
   ·exact wC
   obtain⟨P,G⟩:=g;have Q:({h with Kernel:=k,Free:=o} : ac).Spans.length=h.Spans.length:=rfl;by_cases R:i<h.Spans.length/\(nth h.Spans i).Page<p
   ·have n:=ah R.1
    repeat'(first|refine gD ?_|(conv=>whnf);first|with_reducible refine C9 (aa n) ?_|refine C8 ?_|refine CE rfl (aa n) rfl ?_)
    ((conv=>whnf);refine CA (i+1) ⟨ω,cW n (O0 ω) G⟩ ω ?_;(exact wC))
   ·have a:jh (Fo p) h.Spans=i:=sQ ω G λz H=>by
     have S:=(P1.1 H).1;have:z=nth h.Spans i:=(bp H).symm;subst this;exact N0 ω
    have n:i<h.Spans.length->h.Spans[i]? = some (nth h.Spans i):=λT=>ah T
    rw[show addS h k o p (c:Nat) = {h with Kernel:=k,Free:=o,Spans:=h.Spans.take i++⟨p,(c:Nat),0⟩::h.Spans.drop i} by unfold addS;rw[sZ a],a]
    repeat'(first|refine gD ?_|(conv=>whnf);first|with_reducible (first|refine C9 (aa (n ω)) ?_|refine Bf.D (λU=>?_) (λU=>?_))|refine C8 ?_|refine CE rfl (aa (n ω)) rfl ?_|refine DQ.mk rfl (zZ h.Spans) rfl ?_|refine CR i rfl (by rw[T0];omega) (aR λ_=>rfl) v3 ?_|refine Sl.suf i rfl (by rw[T0];omega) (aR λ_=>rfl) z3 ?_|refine CN (λ_=>rfl) (λ_=>rfl) (by rw[Z0];omega) (by decide) ?_|refine Ap.sn (aR λ_=>rfl) rfl (by rw[T0,Z0];omega) (by decide) rfl ?_|refine Ap.ins (e:=au.enc .imm) (y:=⟨p,(c:Nat),0⟩) rfl (λ_=>rfl) (λ_=>rfl) ω (by decide) ?_)
    all_goals
     refine CC rfl rfl ?_;exact wC
theorem AA{h:ac}{c:Int}{i:Nat}(a:i<h.Spans.length)(b:q8 h c i=true)(d:∀j,j<i->q8 h c j=false):qH h c=some i:=
 List.find?_range_eq_some.2 ⟨b,List.mem_range.2 a,λj e=>by rw[d j e];rfl⟩
theorem BC{h:ac}{c:Int}(a:∀j,j<h.Spans.length->q8 h c j=false):qH h c=none:=
 List.find?_range_eq_none.2 λj b=>by rw[a j b];rfl
theorem qY{h:ac}{c:Int}{i:Nat}(a:q8 h c i=false)(b:∀j,j<i->q8 h c j=false):∀j,j<i+1->q8 h c j=false:=λj d=>by
 by_cases e:j=i
 ·rw[e];exact a
 ·exact b j ω
theorem Fn(h:ac)(t:Nat)(c:aB):bu {h with Caches:=h.Caches.set t c} = (bu h).set 9 (.s .own ((h.Caches.map (aB.enc .own)).set t (aB.enc .own c))):=by
 simp[bu,I4]
theorem GZ{h:ac}{c:Nat}(b:bn h [])(l:c<=3)(e:h.Kernel.Calls<=90000)(h1:¬(ay h.Free 1).2.2=false)(f:¬(fI h.Kernel (ay h.Free 1).2.1).2=false):bn (uP h c) []/\sw h<(uP h c).Spans.length:=by
 have a:(ay h.Free 1).2.2=true:=by simpa using h1
 obtain⟨g,i,j,n⟩:=jZ b (T3 1) a;have s:=zb.of (p:=(ay h.Free 1).2.1) b.ker ω ⟨g,by have:(ay h.Free 1).2.1+1<=(h.Kernel.Machine.Table.Entries.length:Nat):=i;omega⟩ (j _ ω ω);have d:(fI h.Kernel (ay h.Free 1).2.1).2=true:=by simpa using f
 have k:zb h.Kernel (ay h.Free 1).2.1 ((fI h.Kernel (ay h.Free 1).2.1).1,true):=by rw[<-d];exact s
 exact⟨b.addS (c:=c) ⟨ω,ω⟩ a k,(EM (Fo (ay h.Free 1).2.1) h.Spans ⟨(ay h.Free 1).2.1,c,0⟩).1⟩
theorem wt(h:ac)(t c:Nat)(o:bn h [])(M:t<h.Caches.length)(N:c<=3)(p:h.Kernel.Calls<=90000):aQ Tryz.prog 234 false [.ptr (bu h),.val none [I (t:Nat)],.val none [I (c:Nat)]] [.ptr (bu (fX h t c).1),.val none [I (t:Nat)],.val none [I (c:Nat)]] .one [I (fX h t c).2]:=by
 have E:=o.cach _ (am M);have e:=ah M;have r:=tw (nth h.Caches t) c E N;have Q:=o.lens.spans;have B:=o;unfold Mw at r;by_cases F:0<(nth (nth h.Caches t).Lists c).length
 ·unfold fX
  rw[C7 F]at r |-;simp only;rw[Fn];refine fM 80 [(291,[2,0]),(292,[2,0])] [(3,6,[27,28,29,30,31,32])] [(0,0),(0,0),(0,0)] Tryz.func234 rfl (λu q=>?_)
  repeat'(first|refine gO ?_|(conv=>whnf);first|with_reducible refine C9 (aa e) ?_|refine CE rfl (aa e) rfl ?_|refine CD (r) ⟨⟨rfl,aB.enc_fz _⟩,⟨rfl,rfl⟩,trivial⟩ ?_|refine C8 ?_|refine CK rfl rfl (aa e) rfl (U0 rfl) rfl ?_)
  refine CC rfl rfl ?_;exact wC
 ·rw[C6 F]at r
  have d:fX h t c=match qH h c with
   | some i=>(slotT h i,rJ h i)
   | none=>if(ay h.Free 1).2.2=false then(h,-1)
    else if(fI h.Kernel (ay h.Free 1).2.1).2=false then({h with Kernel:=(fI h.Kernel (ay h.Free 1).2.1).1},-1)
    else qn (uP h c) (sw h):=by unfold fX;exact C6 F
  refine fM 80 [(291,[2,0]),(292,[2,0])] [(3,6,[27,28,29,30,31,32])] [(0,0),(0,0),(0,0)] Tryz.func234 rfl (λu q=>?_)
  repeat'(first|refine gO ?_|(conv=>whnf);first|with_reducible refine C9 (aa e) ?_|refine CE rfl (aa e) rfl ?_|refine CD (r) ⟨⟨rfl,aB.enc_fz _⟩,⟨rfl,rfl⟩,trivial⟩ ?_|refine C8 ?_)
  (conv=>whnf)
  refine CB (ι:=Nat) (λi=>[(0,.hold .box (bu h)),(1,.hold .one [I ((t:Nat):Int)]),(2,.hold .one [I ((c:Nat):Int)]),(10,.hold .one [I ((i:Nat):Int)])]) (λi=>i<=h.Spans.length/\∀j,j<i->q8 h c j=false) (λi=>h.Spans.length - i) (0) ?_ (⟨P0 _,λj W=>ω⟩) λi o=>?_
  ·exact wC
  obtain⟨R,w⟩:=o;by_cases C:i<h.Spans.length
  ·have l:=ah C
   by_cases O:(nth h.Spans i).Class=c
   ·have y:=rP h (nth h.Spans i).Page
    cases D:gc h (nth h.Spans i).Page with
    | true=>
     rw[D]at y
     repeat'(first|refine gA ?_|(conv=>whnf);first|with_reducible refine C9 (aa l) ?_|refine CE rfl (aa l) rfl ?_|refine CD (y) ⟨bz h,⟨rfl,rfl⟩,trivial⟩ ?_)
     ((conv=>whnf);refine CA (i+1) ⟨ω,qY (by unfold q8;rw[D];simp) w⟩ ω ?_;(exact wC))
    | false=>
     rw[D]at y;have n:=pM h [] i B C;unfold qn at n;by_cases P:(lT h i).length=0
     ·rw[C7 P]at n
      repeat'(first|refine gA ?_|(conv=>whnf);first|with_reducible refine C9 (aa l) ?_|refine CE rfl (aa l) rfl ?_|refine CD (y) ⟨bz h,⟨rfl,rfl⟩,trivial⟩ ?_|refine CF (n) (.inl rfl) ?_)
      ((conv=>whnf);refine CA (i+1) ⟨ω,qY (by unfold q8;rw[O0 (by omega:¬0<(lT h i).length)];simp) w⟩ ω ?_;(exact wC))
     ·rw[C6 P]at n
      have G:qH h c=some i:=AA C (by unfold q8;rw[N0 O,D,N0 ω];rfl) w;rw[G]at d;simp only at d;obtain⟨S,T⟩:=B.slotT C (by omega:0<(lT h i).length);have H:=iK.nn S T;rw[d];generalize slotT h i=g at n |-;generalize rJ h i=a at n H |-
      repeat'(first|refine gA ?_|(conv=>whnf);first|with_reducible refine C9 (aa l) ?_|refine CE rfl (aa l) rfl ?_|refine CD (y) ⟨bz h,⟨rfl,rfl⟩,trivial⟩ ?_|refine CF (n) (.inl rfl) ?_)
      refine CC rfl rfl ?_;exact wC
   ·repeat'(first|refine gA ?_|(conv=>whnf);first|with_reducible refine C9 (aa l) ?_|refine CE rfl (aa l) rfl ?_)
    ((conv=>whnf);refine CA (i+1) ⟨ω,qY (by unfold q8;rw[O0 O];rfl) w⟩ ω ?_;(exact wC))
  ·obtain rfl:i=h.Spans.length:=ω
   have G:qH h c=none:=BC w;rw[G]at d;simp only at d;have k:=zz h [] c B p;rw[d];unfold Ep at k;by_cases J:(ay h.Free 1).2.2=false
   ·rw[C7 J]at k |-
    repeat'(first|refine gD ?_|(conv=>whnf);first|refine CF (k) (.inl rfl) ?_)
    refine CC rfl rfl ?_;exact wC
   ·rw[C6 J]at k |-
    by_cases K:(fI h.Kernel (ay h.Free 1).2.1).2=false
    ·rw[C7 K]at k |-
     repeat'(first|refine gD ?_|(conv=>whnf);first|refine CF (k) (.inl rfl) ?_)
     refine CC rfl rfl ?_;exact wC
    ·rw[C6 K]at k |-
     obtain⟨U,V⟩:=GZ B N p J K;have L:=pM (uP h c) [] (sw h) U V;generalize uP h c=g at k L |-;generalize sw h=b at k L |-
     repeat'(first|refine gD ?_|(conv=>whnf);first|refine CF (k) (.inl rfl) ?_|refine CF (L) (.inl rfl) ?_)
     refine CC rfl rfl ?_;exact wC
def FZ(h:ac)(size:Int):ac × Int:=
 if(ay h.Free (kQ size:Nat)).2.2=false then(h,-1)
 else if(ik h size).2=kQ size then({h with Kernel:=(ik h size).1,Free:=(ay h.Free (kQ size:Nat)).1,Larges:=ix (Ll (ay h.Free (kQ size:Nat)).2.1) h.Larges ⟨(ay h.Free (kQ size:Nat)).2.1,(kQ size:Nat),size⟩},16*(ay h.Free (kQ size:Nat)).2.1)
 else({h with Kernel:=dH (ik h size).1 (ay h.Free (kQ size:Nat)).2.1 (ik h size).2},-1)
theorem uR(k:af)(p:Int)(i:Nat):cB k p (i+1)=if(cB k p i).2=i then((fI (cB k p i).1 (p+(i:Nat))).1,if(fI (cB k p i).1 (p+(i:Nat))).2=true then i+1 else i) else cB k p i:=rfl
theorem B8(k:af)(p:Int):∀i,(cB k p i).2<=i
 | 0=>Z1 _
 | i+1=>by
  have b:=B8 k p i;rw[uR];by_cases e:(cB k p i).2=i
  ·rw[C7 e]
   show(if _ then i+1 else i)<=i+1;by_cases a:(fI (cB k p i).1 (p+(i:Nat))).2=true
   ·rw[C7 a];exact Z1 _
   ·rw[C6 a];exact Nat.le_succ _
  ·rw[C6 e];omega
theorem lB{k:af}{p:Int}{i:Nat}(h:(cB k p i).2≠i):∀j,cB k p (i+j)=cB k p i/\(cB k p (i+j)).2<i+j
 | 0=>⟨rfl,by show(cB k p i).2<i;have:=B8 k p i;omega⟩
 | j+1=>by
  have a:=lB h j;have e:cB k p (i+(j+1))=cB k p (i+j):=by
   show cB k p (i+j+1)=_;rw[uR,C6 ω]
  exact⟨e.trans a.1,by rw[e];omega⟩
theorem ww(h:ac)(size:Int)(l:bn h [])(C:9<=size/\size<=1000)(V:h.Kernel.Calls<=90000):aQ Tryz.prog 235 false [.ptr (bu h),.val none [I size]] [.ptr (bu (FZ h size).1),.val none [I size]] .one [I (FZ h size).2]:=by
 have E:=l.lens;have W:=E.larges;have Q:=l;have F:dG h<=32:=E.ents;have G:ed size=((kQ size:Nat):Int):=by unfold ed kQ;split<;>omega
 have hN:1<=kQ size/\kQ size<=63:=by unfold kQ;omega
 have H:=ky size;rw[G]at H;have R:=gf h;have t:=mr (dG h:Nat) h.Free (kQ size:Nat) ⟨ω,ω⟩ l.rng ⟨ω,ω⟩ (by have:=E.free;omega);unfold Mj at t;have b:=jZ l (show(1:Int)<=(kQ size:Nat) by omega);unfold FZ ik;generalize kQ size=N at *;generalize ay h.Free (N:Nat)=r at t b |-;obtain⟨J,p,ok⟩:=r;simp only at t b |-;refine fM 105 [(296,[2,0]),(297,[2,0]),(2000018,[0,7])] [(2,268,[16,17,18,19,20,21,22,23,15,24,25,26,0,1,2,3,4,5,6,7,8,9,10,11,12,1010,1011,13,1011,14])] [(0,0),(0,0)] Tryz.func235 rfl (λu q=>?_);cases ok with
 | false=>
  rw[C7 rfl]
  repeat'(first|refine gO ?_|(conv=>whnf);first|refine C8 ?_|refine C5 (H) ?_|refine CD (R) ⟨bz h,trivial⟩ ?_|refine CD (t) ⟨⟨rfl,rfl⟩,⟨rfl,d8 h.Free⟩,⟨rfl,rfl⟩,trivial⟩ ?_|refine C8 ?_)
  refine CC rfl rfl ?_;exact wC
 | true=>
  rw[C6 (by simp)];obtain⟨S,K,B,u4⟩:=b rfl;change p+(N:Nat)<=(h.Kernel.Machine.Table.Entries.length:Nat) at K;change ∀q:Nat,p<=q->(q:Int)<p+(N:Nat)->(nth h.Kernel.Machine.Table.Entries q).Mode=0 at B
  have X:h.Kernel.Machine.Table.Entries.length<=32:=F
  repeat'(first|refine gO ?_|(conv=>whnf);first|refine C8 ?_|refine C5 (H) ?_|refine CD (R) ⟨bz h,trivial⟩ ?_|refine CD (t) ⟨⟨rfl,rfl⟩,⟨rfl,d8 h.Free⟩,⟨rfl,rfl⟩,trivial⟩ ?_|refine C8 ?_)
  (conv=>whnf)
  refine CB (ι:=Nat) (λi=>[(0,.hold .box (bu {h with Kernel:=(cB h.Kernel p i).1})),(1,.hold .one [I (size)]),(5,.hold .one [I ((N:Nat):Int)]),(6,.hold .one (bF .own J)),(7,.hold .one [I (p)]),(9,.hold .one [I ((i:Nat):Int)])]) (λi=>i<=N/\(cB h.Kernel p i).2=i) (λi=>N - i) (0) ?_ (⟨P0 _,rfl⟩) λi l=>?_
  ·exact wC
  obtain⟨L,M⟩:=l;have s:=m9.of (p:=p) (n:=N) Q.ker ω ⟨S,K⟩ B i L;have Y:=s.calls;have Z:=s.len;by_cases li:i<N
  ·have O:(nth (cB h.Kernel p i).1.Machine.Table.Entries (p+(i:Nat)).toNat).Mode=0:=by
    rw[s.out _ (by rw[M];omega)];exact B _ ω ω
   have c:=AD {h with Kernel:=(cB h.Kernel p i).1} (p+(i:Nat)) s.ker (by show(cB h.Kernel p i).1.Calls≠100000;omega) ⟨ω,by show p+(i:Nat)<((cB h.Kernel p i).1.Machine.Table.Entries.length:Nat);omega⟩ O;have a:cB h.Kernel p (i+1)=((fI (cB h.Kernel p i).1 (p+(i:Nat))).1,if(fI (cB h.Kernel p i).1 (p+(i:Nat))).2=true then i+1 else i):=by
    show(if(cB h.Kernel p i).2=i then _ else _)=_;rw[C7 M]
   simp only at c;cases e:(fI (cB h.Kernel p i).1 (p+(i:Nat))).2 with
   | true=>
    rw[e]at c a;rw[C7 rfl]at a;have P:(fI (cB h.Kernel p i).1 (p+(i:Nat))).1=(cB h.Kernel p (i+1)).1:=by rw[a]
    rw[P]at c
    repeat'(first|refine gD ?_|(conv=>whnf);first|refine C8 ?_|refine CF (c) (.inl rfl) ?_)
    ((conv=>whnf);refine CA (i+1) ⟨ω,by rw[a]⟩ ω ?_;(exact wC))
   | false=>
    rw[e]at c a;rw[C6 (by simp)]at a;have d:=lB (k:=h.Kernel) (p:=p) (i:=i+1) (by rw[a];simp only;omega) (N - (i+1));rw[show i+1+(N - (i+1))=N by omega]at d;rw[d.1]at d;have T:=m9.of (p:=p) (n:=N) Q.ker ω ⟨S,K⟩ B (i+1) ω;rw[C6 (by have:=lB (k:=h.Kernel) (p:=p) (i:=i+1) (by rw[a];simp only;omega) (N - (i+1));rw[show i+1+(N - (i+1))=N by omega]at this;omega)];rw[show cB h.Kernel p N=cB h.Kernel p (i+1) by have:=lB (k:=h.Kernel) (p:=p) (i:=i+1) (by rw[a];simp only;omega) (N - (i+1));rw[show i+1+(N - (i+1))=N by omega]at this;exact this.1];rw[a]at T |-;have g:=T.ker;simp only at g |-;generalize (fI (cB h.Kernel p i).1 (p+(i:Nat))).1=k at c g |-
    repeat'(first|refine gD ?_|(conv=>whnf);first|refine C8 ?_|refine CF (c) (.inl rfl) ?_)
    (conv=>whnf)
    refine CB (ι:=Nat) (λj=>[(0,.hold .box (bu {h with Kernel:=dH k p j})),(1,.hold .one [I (size)]),(5,.hold .one [I ((N:Nat):Int)]),(7,.hold .one [I (p)]),(9,.hold .one [I ((i:Nat):Int)]),(10,.hold .one [I ((j:Nat):Int)])]) (λj=>j<=i) (λj=>i - j) (0) ?_ (P0 _) λj hj=>?_
    ·exact wC
    have c4:=lb {h with Kernel:=dH k p j} (p+(j:Nat)) (jM g p j);by_cases lj:j<i
    ·repeat'(first|refine gD ?_|(conv=>whnf);first|refine C8 ?_|refine CF (c4) (.inl rfl) ?_)
     ((conv=>whnf);refine CA (j+1) ω ω ?_;(exact wC))
    ·obtain rfl:j=i:=ω
     repeat'(first|refine gD ?_|(conv=>whnf);first|refine C8 ?_)
     refine CC rfl rfl ?_;exact wC
  ·obtain rfl:i=N:=ω
   rw[C7 M];generalize (cB h.Kernel p i).1=k
   repeat'(first|refine gD ?_|(conv=>whnf);first|refine C8 ?_)
   (conv=>whnf)
   refine CB (ι:=Nat) (λm=>[(0,.hold .box (bu {h with Kernel:=k,Free:=J})),(1,.hold .one [I (size)]),(5,.hold .one [I ((i:Nat):Int)]),(7,.hold .one [I (p)]),(11,.hold .one [I ((m:Nat):Int)])]) (λm=>m<=h.Larges.length/\∀(j:Nat)(z:a8),j<m->h.Larges[j]? = some z->Ll p z=false) (λm=>h.Larges.length - m) (0) ?_ (⟨P0 _,λj z hj=>ω⟩) λm hm=>?_
   ·exact wC
   obtain⟨hm',U⟩:=hm;have hl2:({h with Kernel:=k,Free:=J} : ac).Larges.length=h.Larges.length:=rfl;by_cases go:m<h.Larges.length/\(nth h.Larges m).Page<p
   ·have o:=ah go.1
    repeat'(first|refine gD ?_|(conv=>whnf);first|with_reducible refine C9 (aa o) ?_|refine C8 ?_|refine CE rfl (aa o) rfl ?_)
    ((conv=>whnf);refine CA (m+1) ⟨ω,cW o (O0 ω) U⟩ ω ?_;(exact wC))
   ·have w:jh (Ll p) h.Larges=m:=sQ ω U λz C=>by
     have hlt:=(P1.1 C).1;have:z=nth h.Larges m:=(bp C).symm;subst this;exact N0 ω
    have o:m<h.Larges.length->h.Larges[m]? = some (nth h.Larges m):=λhh=>ah hh
    rw[sZ w]
    repeat'(first|refine gD ?_|(conv=>whnf);first|with_reducible (first|refine C9 (aa (o ω)) ?_|refine Bf.D (λhq=>?_) (λhq=>?_))|refine C8 ?_|refine CE rfl (aa (o ω)) rfl ?_|refine DQ.mk rfl (xv h.Larges) rfl ?_|refine CR m rfl (by rw[T0];omega) (aR λ_=>rfl) v3 ?_|refine Sl.suf m rfl (by rw[T0];omega) (aR λ_=>rfl) z3 ?_|refine CN (λ_=>rfl) (λ_=>rfl) (by rw[Z0];omega) (by decide) ?_|refine Ap.sn (aR λ_=>rfl) rfl (by rw[T0,Z0];omega) (by decide) rfl ?_|refine Ap.ins (e:=a8.enc .imm) (y:=⟨p,(i:Nat),size⟩) rfl (λ_=>rfl) (λ_=>rfl) ω (by decide) ?_)
    all_goals
     refine CC rfl ?_ ?_
     ·exact Q0 (λz=>[I z]) ω
     ·exact wC
theorem Bd{k:af}(h:aA k=true)(b:im k.Refuse):af.wf k:=by
 obtain⟨p,f,g,q,t⟩:=aC.1 h;obtain⟨u,w,y,A⟩:=bf.1 f;obtain⟨i,B,C⟩:=bx.1 g;refine⟨⟨⟨⟨ω,λr b=>?_⟩,⟨ω,λ_ _=>trivial⟩⟩,⟨ω,λe l=>?_⟩⟩,⟨ω,ω⟩,b⟩
 ·obtain⟨j,c,rfl⟩:=bc b
  obtain⟨D,n⟩:=y5 h c;exact⟨ω,λv o=>by have:=n v o;exact⟨ω,ω⟩⟩
 ·obtain⟨j,c,rfl⟩:=bc l
  have a:=i j c;unfold j8 at a;rw[C0]at a;by_cases d:(nth k.Machine.Table.Entries j).Mode=0
  ·have:=a.2.2.1 d;exact⟨⟨ω,ω⟩,⟨ω,ω⟩⟩
  ·have:=a.2.2.2 d;exact⟨⟨ω,ω⟩,⟨ω,ω⟩⟩
theorem ET{p:cr}(h:ef p=true):cr.wf p:=by
 have a:=λi b=>kI h (i:=i) b
 have e:p.Cells.length<=16:=kT h;unfold ef at h;simp only[I0,C0]at h;exact⟨⟨ω,ω⟩,⟨ω,ω⟩,⟨ω,λv c=>by
   obtain⟨j,d,rfl⟩:=bc c;have:=a j d;exact⟨ω,ω⟩⟩⟩
theorem bn.jobWf{h:ac}{E:List Int}(a:bn h E):cF.wf h.Job/\cF.sml h.Job:=by
 cases b:h.Meshing with
 | true=>
  obtain⟨c,f,g,i,j⟩:=eQ.1 (a.job b).1;have k:=kT c;exact⟨⟨ET c,⟨ω,ω⟩,⟨ω,ω⟩⟩,by show h.Job.Plan.Cells.length<=1048576;omega⟩
 | false=>
  have:=a.noj b;unfold p7 at this;rw[C0]at this;obtain⟨l,n,e,o,p⟩:=this;refine⟨⟨⟨⟨ω,ω⟩,⟨ω,ω⟩,⟨ω,λv d=>?_⟩⟩,⟨ω,ω⟩,⟨ω,ω⟩⟩,by show h.Job.Plan.Cells.length<=1048576;omega⟩;rw[Y4 e]at d;cases d
theorem uW{n:Int}(h:0<=aN n):1<=n/\n<=8:=by
 unfold aN at h
 repeat' split at h
 all_goals omega
theorem iK.wf{h:ac}{E:List Int}(b:bn h E){a c:Int}(d:iK h.Spans a c):kX a:=by
 have:=d.bd b;exact⟨ω,ω⟩
theorem bn.wf{h:ac}{E:List Int}(d:bn h E)(M:im h.Kernel.Refuse):ac.wf h:=by
 have q:=d.lens;have r:=d.L;have D:=d.nums;unfold ca at D;rw[C0]at D;obtain⟨X,N,Y⟩:=eI.1 d.rng;obtain⟨O,-,-,Z,q5,-⟩:=iE.1 d.quar;have w:=d.mail;have k:=d.hfl;unfold aL at k;rw[C7 w]at k;unfold b9 at w;simp only[I0,C0,ch,fT,X2,lJ,KA]at w;obtain⟨⟨⟨m1,m2,m3⟩,P⟩,m5⟩:=w;have A:=q.free;have Q:=q.spans;have h3:=q.larges;have h4:=q.objs;have h5:=q.caches;have h6:=q.quar;have t:∀n:Nat,bm h.Mail n<=bm h.Mail (n+1):=λn=>by simp only[bm];omega
 have g:∀a b:Nat,a<=b->bm h.Mail a<=bm h.Mail b:=λa b u=>by
  induction u with
  | refl=>exact T3 _
  | step _ R=>exact Int.le_trans R (t _)
 have B:∀n:Nat,0<=bm h.Mail n:=λn=>g 0 n (P0 _)
 have o:∀i,i<h.Mail.Buffers.length->(nth h.Mail.Buffers i).length<=30/\(nth h.Mail.Inbox i).length<=30:=λi f=>by
  have F:=g (i+1) h.Mail.Buffers.length ω;have S:=B i;simp only[bm]at F;omega
 refine⟨Bd d.ker M,⟨ω,λx e=>?_⟩,⟨ω,λx e=>?_⟩,⟨ω,λx e=>?_⟩,⟨ω,λx e=>?_⟩,⟨ω,λx e=>?_⟩,⟨⟨ω,λl c=>?_⟩,⟨ω,λl c=>?_⟩⟩,⟨⟨ω,ω⟩,⟨ω,λx e=>?_⟩⟩,⟨ω,ω⟩,⟨ω,ω⟩,⟨ω,ω⟩,⟨ω,ω⟩,trivial,d.jobWf.1⟩
 ·have:=N x e;exact⟨⟨ω,ω⟩,⟨ω,ω⟩⟩
 ·have y:=r.sok x e
  have G:=dZ y;have T:=aE y;exact⟨⟨ω,ω⟩,⟨ω,ω⟩,⟨ω,ω⟩⟩
 ·have H:=aT (r.lok x e)
  have J:=ci (r.lok x e);exact⟨⟨ω,ω⟩,⟨ω,ω⟩,⟨ω,ω⟩⟩
 ·obtain⟨o1,o2,o3,o4⟩:=d.onu x e
  have u:0<=x.Addr/\x.Addr<512/\-1000<=x.Size/\x.Size<=1000:=by
   rcases d.oow x e with⟨s,y,A,Q⟩|⟨l,c,F,S⟩
   ·have T:=aE (r.sok s y)
    have:=uW (n:=x.Size) ω;exact⟨by have:=A.1;omega,by have:=A.2.1;omega,ω,ω⟩
   ·have H:=aT (r.lok l c)
    have J:=ci (r.lok l c);omega
  exact⟨⟨ω,ω⟩,⟨ω,ω⟩,⟨ω,ω⟩,⟨ω,ω⟩⟩
 ·obtain⟨c1,U⟩:=q.lists x e
  refine⟨ω,λl c=>⟨by have:=U l c;omega,λa C=>?_⟩⟩;obtain⟨j,V,rfl⟩:=bc c;exact iK.wf d (d.hca x e j V a C)
 ·obtain⟨i,f,rfl⟩:=bc c
  have G:=o i f;refine⟨ω,λp K=>?_⟩;have W:=(P i f).1 p K;exact⟨⟨ω,ω⟩,iK.wf d (k p.Addr (W1.2 (.inl (List.mem_flatMap.2 ⟨_,am f,C3.2 ⟨p,K,rfl⟩⟩))))⟩
 ·obtain⟨i,f,rfl⟩:=bc c
  have G:=o i ω;exact⟨ω,λa C=>iK.wf d (k a (W1.2 (.inr (List.mem_flatten.2 ⟨_,am f,C⟩))))⟩
 ·have H:=O x e
  have J:=d.snc x e;exact⟨iK.wf d (d.hqu x e),⟨ω,ω⟩,⟨ω,ω⟩⟩
structure Nh(h:ac):Prop where
 ker:aA h.Kernel=true
 wf:ac.wf h
 sml:ac.sml h
 lens:Kr h
theorem bn.fit{h:ac}{E:List Int}(a:bn h E)(b:im h.Kernel.Refuse)(c:aJ.sml h.Mail):Nh h:=⟨a.ker,a.wf b,a.lens.sml a.ker c a.jobWf.2,a.lens⟩
theorem Dk{h:ac}(b:bn h [])(c:h.Meshing=true):aA (mStep h).Kernel=true/\(mStep h).Kernel.Calls<=h.Kernel.Calls+1/\(mStep h).Kernel.Refuse=h.Kernel.Refuse/\(mStep h).Mail=h.Mail/\(Au h=true->(mStep h).Meshing=false)/\cF.wf (mStep h).Job/\cF.sml (mStep h).Job:=by
 have s:=JS.of b c;refine⟨s.ker,s.calls.2.1,s.calls.2.2,rfl,λa=>?_,?_⟩
 ·unfold Au at a
  rw[C0]at a;show(if over _=true then false else h.Meshing)=false;rw[C7 (show over (iC h.Kernel h.Job).2=true from N0 (.inl a))]
 ·show cF.wf (if over _=true then _ else _)/\cF.sml (if over _=true then _ else _)
  split
  ·exact⟨⟨⟨⟨by decide,by decide⟩,⟨by decide,by decide⟩,⟨by decide,λv f=>by cases f⟩⟩,⟨by decide,by decide⟩,⟨by decide,by decide⟩⟩,by show(0:Nat)<=1048576;omega⟩
  ·have d:=(eQ.1 (b.job c).1).1
   have g:=kT d;obtain⟨j,k⟩:=s.ph;obtain⟨l,i⟩:=s.nxt;have e:=s.plan;refine⟨⟨by rw[e];exact ET d,⟨ω,ω⟩,⟨ω,by rw[e]at i;omega⟩⟩,by show((iC h.Kernel h.Job).2.Plan.Cells).length<=1048576;rw[e];omega⟩
def sL(h:ac):Nat->ac × Bool
 | 0=>(h,false)
 | i+1=>if(sL h i).1.Meshing=true then(mStep (sL h i).1,Au (sL h i).1) else sL h i
def fin(h:ac):ac × Bool:=sL h 100
theorem B6{h:ac}(g:bn h []):bn (started h).1 []/\(started h).1.Kernel=h.Kernel/\(started h).1.Mail=h.Mail:=by
 have t:=g.nums;unfold ca at t;rw[C0]at t;have u:=(kH (bJ h).length (show 0<=h.Seed/\h.Seed<=1073741823 by omega) ((bJ h).length - 1)).2;have j:=oP (bJ h) (show 0<=h.Seed/\h.Seed<=1073741823 by omega);have c:ca {h with Seed:=(shuf (bJ h).length h.Seed).2} = true:=by
  unfold ca;rw[C0];unfold shuf;simp only;omega
 cases k:lF (bJ h) h.Seed with
 | nil=>
  have f:Ab.started h=({h with Seed:=(shuf (bJ h).length h.Seed).2},false):=by unfold Ab.started;rw[k]
  rw[f];exact⟨{g with nums:=c},rfl,rfl⟩
 | cons q C=>
  obtain⟨D,E,l⟩:=j q (by rw[k];exact C1 ..);have f:Ab.started h=({h with Seed:=(shuf (bJ h).length h.Seed).2,Meshing:=true,Job:=tL (dw (nth (bJ h) q.A.toNat) (nth (bJ h) q.B.toNat))},true):=by unfold Ab.started;rw[k]
  rw[f];have d:∀s∈bJ h,s∈h.Spans:=λs w=>nI h (Z1 _) s (List.mem_of_mem_take w)
  have n:=d _ (am (xs:=bJ h) (i:=q.A.toNat) ω);have o:=d _ (am (xs:=bJ h) (i:=q.B.toNat) ω);generalize nth (bJ h) q.A.toNat=a at l n |-;generalize nth (bJ h) q.B.toNat=b at l o |-;obtain⟨y,F,G⟩:=rh l;have p:iB (tL (dw a b))=true:=eQ.2 ⟨y,by show(0:Int)<=0;omega,by show(0:Int)<=5;omega,by show(0:Int)<=0;omega,by show(0:Int)<=(((dw a b).Cells.length:Nat):Int);omega⟩;have r:(∃s∈h.Spans,s.Page=(dw a b).Keep)/\∃s∈h.Spans,s.Page=(dw a b).Move:=by
   unfold dw;split
   ·exact⟨⟨b,o,rfl⟩,⟨a,n,rfl⟩⟩
   ·exact⟨⟨a,n,rfl⟩,⟨b,o,rfl⟩⟩
  exact⟨{g with nums:=c,job:=λ_=>⟨p,r⟩,noj:=λe=>by cases e},rfl,rfl⟩
end Go.Proofs.YtembpgjjnioagaaGreat.Ab
