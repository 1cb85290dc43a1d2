/- co that keep what holds of a heap with addresses in hand. No condition. -/
import Derived.Test.YtembpgjjnioagaaGreatWwd
import Derived.Test.YtembpgjjnioagaaGreatWwe
import Derived.Deep.LoopGhost
import Derived.Deep.RegionLaw
import Derived.Lib.Walk
import Derived.Sort.WalkB12
import Derived.Lib.SliceRun
import Derived.Shelf.RegionOpenPlain
set_option linter.unusedVariables false
set_option linter.unusedSimpArgs false
set_option linter.constructorNameAsVariable false
namespace Go.Proofs.YtembpgjjnioagaaGreat.Ab
def dele{α:Type}(xs:List α)(i:Nat):List α:=xs.take i++xs.drop (i+1)
theorem ep{α:Type}(xs:List α)(i:Nat):(dele xs i).Sublist xs:=by
 unfold dele;rw[<-List.eraseIdx_eq_take_drop_succ];exact List.eraseIdx_sublist ..
theorem yY{α:Type}[Inhabited α]{xs:List α}{i:Nat}(a:i<xs.length):xs.Perm (nth xs i::dele xs i):=by
 have:xs=xs.take i++nth xs i::xs.drop (i+1):=by rw[<-gB a,List.take_append_drop]
 conv=>lhs;rw[this]
 exact List.perm_middle
theorem ib{α:Type}[Inhabited α](f:α->List Int)(a:Int):∀(xs:List α)(i:Nat)(y:α),i<xs.length->((xs.set i y).flatMap f).count a+(f (nth xs i)).count a=(xs.flatMap f).count a+(f y).count a
 | [],i,_,h=>by cases h
 | x::xs,0,y,_=>by
  show((y::xs).flatMap f).count a+(f x).count a=((x::xs).flatMap f).count a+(f y).count a;rw[I5,I5,Y4,Y4];omega
 | x::xs,i+1,y,h=>by
  have:=ib f a xs i y (by simpa using h);show((x::xs.set i y).flatMap f).count a+(f (nth xs i)).count a=((x::xs).flatMap f).count a+(f y).count a;rw[I5,I5,Y4,Y4];omega
theorem jV(a:List (List Int)):a.flatten=a.flatMap λx=>x:=by
 induction a with
 | nil=>rfl
 | cons x xs b=>rw[List.flatten_cons,I5,b]
theorem jd.any{sp:List au}{a c:Int}(h:jd sp a c):jd sp a (-1):=by
 obtain⟨s,b,d,-⟩:=h;exact⟨s,b,d,.inl (by decide)⟩
theorem bn.cells{h:ab}{E:List Int}(a:bn h E){k:af}(c:aB k=true)(b:k.Machine.Table=h.Kernel.Machine.Table):bn {h with Kernel:=k} E:=
 {a with
   ker:=c
   rng:=by show bx ((k.Machine.Table.Entries.length:Nat):Int) h.Free=true;rw[b];exact a.rng
   pg:=by show Pg k.Machine.Table h.Free h.Spans h.Larges;rw[b];exact a.pg}
theorem bn.dropO{h:ab}{E:List Int}{i:Nat}(b:bn h E)(g:i<h.Objs.length)(j:jd h.Spans (nth h.Objs i).Addr (-1)):bn {h with Objs:=dele h.Objs i} ((nth h.Objs i).Addr::E):=by
 have f:(E++holders h).Perm (((nth h.Objs i).Addr::E)++holders {h with Objs:=dele h.Objs i}):=by
  have k:=(yY g).map (·.Addr);refine List.perm_iff_count.2 λa=>?_
  have l:=k.count_eq a;simp only[X4,List.count_cons]at l;simp only[holders,cn,Y4,List.cons_append,List.count_cons];omega
 have c:(dele h.Objs i).Sublist h.Objs:=ep ..;exact {b with
   osr:=b.osr.sublist c
   onu:=λo d=>b.onu o (c.subset d)
   oid:=b.oid.sublist (c.map _)
   oow:=λo d=>b.oow o (c.subset d)
   hin:=λa e=>by
     rcases List.mem_cons.1 e with rfl|e
     · exact j
     · exact b.hin a e
   nd:=f.nodup_iff.1 b.nd
   mem:=λa=>by rw[<-f.mem_iff];exact b.mem a}
def jo(c:aA)(k:Nat)(a:Int):aA:=⟨c.Lists.set k (nth c.Lists k++[a])⟩
theorem bn.put{h:ab}{E:List Int}{a:Int}{t k:Nat}(g:bn h (a::E))(l:t<h.Caches.length)(q:k<(nth h.Caches t).Lists.length)(r:jd h.Spans a k)(u:bo (jo (nth h.Caches t) k a)=true):bn {h with Caches:=h.Caches.set t (jo (nth h.Caches t) k a)} E:=by
 have n:(a::E++holders h).Perm (E++holders {h with Caches:=h.Caches.set t (jo (nth h.Caches t) k a)}):=by
  refine List.perm_iff_count.2 λb=>?_
  have w:=ib (λc:aA=>c.Lists.flatten) b h.Caches t (jo (nth h.Caches t) k a) l;have p:=ib (λx:List Int=>x) b (nth h.Caches t).Lists k (nth (nth h.Caches t).Lists k++[a]) q;rw[<-jV,<-jV]at p;simp only[Y4,List.count_singleton]at p;simp only[jo]at w;simp only[holders,cn,jo,Y4,List.cons_append,List.count_cons];omega
 exact {g with
   nc:=by show(h.Caches.set ..).length=_;rw[C1];exact g.nc
   cach:=λc d=>by
     rcases z5 d with d|rfl
     · exact g.cach c d
     · exact u
   onu:=by show ∀o∈h.Objs,1<=o.Id/\o.Id<=h.Next - 1/\0<=o.Thread/\o.Thread<=(h.Caches.set t _).length - 1;rw[C1];exact g.onu
   hca:=λc d j i b f=>by
     rcases z5 d with d|rfl
     · exact g.hca c d j i b f
     · simp only[jo,C1]at i
       simp only[jo,cw]at f;by_cases e:k=j
       · subst e
         rw[C8 ⟨rfl,i⟩]at f;rcases Q2.1 f with f|f
         · exact g.hca _ (am l) _ i b f
         · rw[Z0.1 f];exact r
       · rw[C7 λx=>e x.1]at f
         exact g.hca _ (am l) _ i b f
   hin:=λb f=>g.hin b (Q4 _ f)
   nd:=n.nodup_iff.1 g.nd
   mem:=λb=>by rw[<-n.mem_iff];exact g.mem b}
theorem bn.toQuar{h:ab}{E:List Int}{x:aL}{q:bz}{out:List aL}(d:bn h (x.Addr::E))(i:fj q=true)(f:h.Quar.Lst++[x]=out++q.Lst)(j:x.Since<=h.Clock)(k:jd h.Spans x.Addr x.Class):bn {h with Quar:=q} (out.map (·.Addr)++E):=by
 have c:∀y∈out++q.Lst,y.Since<=h.Clock/\jd h.Spans y.Addr y.Class:=λy a=>by
  rw[<-f]at a;rcases Q2.1 a with a|a
  ·exact⟨d.snc y a,d.hqu y a⟩
  ·rw[Z0.1 a];exact⟨j,k⟩
 have g:(x.Addr::E++holders h).Perm ((out.map (·.Addr)++E)++holders {h with Quar:=q}):=by
  refine List.perm_iff_count.2 λb=>?_
  have n:=T0 (λl:List aL=>(l.map (·.Addr)).count b) f;simp only[V4,Y4,X4,List.map_nil,List.count_singleton]at n;simp only[holders,cn,Y4,List.cons_append,List.count_cons];omega
 exact {d with
   quar:=i
   snc:=λy a=>(c y (Q2.2 (.inr a))).1
   hqu:=λy a=>(c y (Q2.2 (.inr a))).2
   hin:=λb e=>by
     rcases Q2.1 e with e|e
     · obtain⟨y,a,rfl⟩:=U3.1 e
       exact(c y (Q2.2 (.inl a))).2.any
     · exact d.hin b (Q4 _ e)
   nd:=g.nodup_iff.1 d.nd
   mem:=λb=>by rw[<-g.mem_iff];exact d.mem b}
def wj(b i:Int):Int:=((BitVec.ofInt IntKind.i64.bits b &&& ~~~BitVec.ofInt IntKind.i64.bits (2 ^ i.toNat)).toNat:Nat)
def jJ(s:au)(i:Int):au:={s with Bits:=wj s.Bits i}
theorem fN(b i:Int):aX b i=true↔0<=b/\0<=i/\i<=15/\b.toNat.testBit i.toNat=true:=by
 unfold aX;rw[C0];refine and_congr_right λa=>and_congr_right λc=>and_congr_right λ_=>?_
 obtain⟨n,rfl⟩:=O2 a;rw[Nat.testBit_eq_decide_div_mod_eq,C0,I2]
 norm_cast
theorem Dj{b i:Int}(f:0<=b/\b<=65535)(a:0<=i/\i<=15)(j:Nat):(wj b i).toNat.testBit j=(b.toNat.testBit j&&decide (i.toNat≠j)):=by
 have g:(2:Int) ^ i.toNat<=32768/\0<=(2:Int) ^ i.toNat:=by
  obtain⟨n,rfl⟩:=O2 a.1;rw[I2];have:(2:Nat) ^ n<=2 ^ 15:=Nat.pow_le_pow_right (by decide) ω;have c:((2 ^ n:Nat):Int)=(2:Int) ^ n:=Int.natCast_pow 2 n;rw[<-c];exact⟨Int.ofNat_le.2 this,Int.natCast_nonneg _⟩
 unfold wj;rw[I2,BitVec.testBit_toNat,BitVec.getLsbD_and,BitVec.getLsbD_not,<-BitVec.testBit_toNat,<-BitVec.testBit_toNat,my ω,my ω];rw[show((2:Int) ^ i.toNat).toNat=2 ^ i.toNat by rw[show(2:Int) ^ i.toNat=((2 ^ i.toNat:Nat):Int) by norm_cast,I2],Nat.testBit_two_pow];by_cases d:j<64
 ·rw[show decide (j<IntKind.i64.bits)=true from O0 d,Bool.true_and]
  congr 1
  by_cases e:i.toNat=j
  ·rw[O0 e,Q0 (λx=>x e)];rfl
  ·rw[Q0 e,O0 e];rfl
 ·rw[Nat.testBit_lt_two_pow (x:=b.toNat) (i:=j) (z3 (show b.toNat<2 ^ 16 by omega) (Nat.pow_le_pow_right (by decide) ω))]
  rfl
theorem Am{b i:Int}(a:0<=b/\b<=65535):0<=wj b i/\wj b i<=b:=by
 unfold wj;refine⟨ω,?_⟩;rw[BitVec.toNat_and,my ω];have:=Nat.and_le_left (n:=b.toNat) (m:=(~~~BitVec.ofInt IntKind.i64.bits (2 ^ i.toNat)).toNat);omega
theorem LE{b i:Int}(a:0<=b/\b<=65535)(h:0<=i/\i<=15)(j:Int):aX (wj b i) j=true↔aX b j=true/\j≠i:=by
 rw[fN,fN,Dj a h,I0,C0];have:=Am (i:=i) a;constructor
 ·rintro⟨k,c,d,f,g⟩;exact⟨⟨a.1,c,d,f⟩,λe=>g (by rw[e])⟩
 ·rintro⟨⟨k,c,d,f⟩,g⟩;exact⟨this.1,c,d,f,λe=>g ω⟩
theorem dS{s:au}(h:bc s=true):0<=s.Bits/\s.Bits<=65535:=by
 unfold bc at h;simp only[C0]at h;have:=FS s.Class;omega
theorem GO{s:au}(h:bc s=true)(i:Int):bc (jJ s i)=true:=by
 have b:=dS h;have a:=Am (i:=i) b;unfold bc at h;rw[C0]at h;obtain⟨c,d,e,f,j,g⟩:=h;exact O0 ⟨c,d,e,f,a.1,v4 a.2 g⟩
theorem ss{s u:au}(a:bc s=true){i:Int}(b:0<=i/\i<=15)(h:meshable s u=true):meshable (jJ s i) u=true:=by
 unfold meshable at h |-;simp only[I0,C0]at h |-;obtain⟨⟨c,d⟩,e,f,g⟩:=h;refine⟨⟨GO c i,d⟩,e,f,?_⟩;refine Nat.eq_of_testBit_eq λj=>?_
 have:=T0 (λn=>Nat.testBit n j) g;simp only[Nat.testBit_and,Nat.zero_testBit,jJ,Dj (dS a) b]at this |-;cases k:s.Bits.toNat.testBit j<;>cases l:u.Bits.toNat.testBit j<;>rw[k,l]at this<;>simp_all
def dv(s:au)(a:Int):Int:=(a - 16*s.Page) / csz s.Class
theorem rS{s:au}(h:bc s=true){a:Int}(c:16*s.Page<=a/\a<=16*s.Page+15):0<=dv s a/\dv s a<=15:=by
 have b:=aF h;unfold dv;rcases cv ⟨b.2.2.1,b.2.2.2⟩ with e|e|e|e<;>rw[e]<;>omega
theorem FH{s:au}(h:bc s=true){a b:Int}(d:(a - 16*s.Page) % csz s.Class=0)(f:(b - 16*s.Page) % csz s.Class=0)(e:dv s a=dv s b):a=b:=by
 have c:=aF h;unfold dv at e;rcases cv ⟨c.2.2.1,c.2.2.2⟩ with z|z|z|z<;>rw[z]at d f e<;>omega
theorem za{s:au}(h:bc s=true){a:Int}(k:eI s a)(b:Int):eI (jJ s (dv s a)) b↔eI s b/\b≠a:=by
 obtain⟨l,n,o,p⟩:=k;have d:=rS h ⟨l,n⟩;unfold eI;simp only[jJ];rw[LE (dS h) d];constructor
 ·rintro⟨f,g,c,i,j⟩
  exact⟨⟨f,g,c,i⟩,λe=>j (by rw[e];rfl)⟩
 ·rintro⟨⟨f,g,c,i⟩,j⟩
  exact⟨f,g,c,i,λe=>j (FH h c o e)⟩
theorem eQ{α:Type}[Inhabited α]{xs:List α}{i:Nat}{y z:α}(h:z∈xs.set i y):z=y\/∃j,j<xs.length/\j≠i/\nth xs j=z:=by
 obtain⟨j,a,rfl⟩:=List.mem_iff_getElem.1 h;rw[List.getElem_set];by_cases e:i=j
 ·subst e;simp
 ·rw[C7 e]
  rw[C1]at a;exact .inr ⟨j,a,λx=>e x.symm,bw (U1 a)⟩
theorem iW{α:Type}[Inhabited α]{xs:List α}{i j:Nat}(y:α)(a:j<xs.length)(e:j≠i):nth xs j∈xs.set i y:=by
 have:nth (xs.set i y) j=nth xs j:=by rw[cw,C7 λx=>e x.1.symm]
 rw[<-this];exact am (by rw[C1];exact a)
theorem ig{α:Type}{xs:List α}{i:Nat}(y:α)(a:i<xs.length):y∈xs.set i y:=by
 refine List.mem_iff_getElem.2 ⟨i,by rw[C1];exact a,by simp⟩
theorem KM{sp:List au}{i:Nat}(k:Int)(a:i<sp.length):(sp.set i (jJ (nth sp i) k)).map (·.Page)=sp.map (·.Page):=by
 rw[Z4];refine List.ext_getElem (by simp) λj b c=>?_
 rw[List.getElem_set];split
 ·rename_i e;subst e
  rw[List.getElem_map];show(nth sp i).Page=_;rw[bw (U1 a)]
 ·rfl
theorem jd.set{sp:List au}{la:List ax}(q:ri sp la){i:Nat}(k:i<sp.length){a:Int}(l:eI (nth sp i) a)(b c:Int):jd (sp.set i (jJ (nth sp i) (dv (nth sp i) a))) b c↔jd sp b c/\b≠a:=by
 have g:=q.sok _ (am k);constructor
 ·rintro⟨s,o,d,h⟩
  rcases eQ o with rfl|⟨j,n,r,rfl⟩
  ·have:=(za g l b).1 d
   exact⟨⟨_,am k,this.1,h⟩,this.2⟩
  ·refine⟨⟨_,am n,d,h⟩,λe=>?_⟩
   subst e;have:=gG (f:=(·.Page)) q.nd k n (by have t:=l.1;have u:=l.2.1;have w:=d.1;have y:=d.2.1;omega);omega
 ·rintro⟨⟨s,o,d,h⟩,p⟩
  obtain⟨j,n,rfl⟩:=bf o;by_cases e:j=i
  ·subst e
   exact⟨_,ig _ k,(za g l b).2 ⟨d,p⟩,h⟩
  ·exact⟨_,iW _ n e,d,h⟩
theorem bn.give{h:ab}{E:List Int}{a:Int}{i:Nat}(d:bn h (a::E))(J:i<h.Spans.length)(K:eI (nth h.Spans i) a):bn {h with Spans:=h.Spans.set i (jJ (nth h.Spans i) (dv (nth h.Spans i) a))} E:=by
 have G:=d.L;have Q:=G.sok _ (am J);have M:=rS Q ⟨K.1,K.2.1⟩;have f:=λb c=>jd.set G J K b c
 have A:=KM (dv (nth h.Spans i) a) J;generalize R:h.Spans.set i (jJ (nth h.Spans i) (dv (nth h.Spans i) a))=sp at f A;have q:pgs sp h.Larges=pgs h.Spans h.Larges:=by unfold pgs;rw[A]
 have B:=d.nd;rw[List.cons_append]at B;obtain⟨S,B⟩:=List.nodup_cons.1 B;have r:∀b,b∈E++holders h->b≠a:=λb g e=>S (by rw[<-e];exact g)
 have C:∀b,b∈holders h->b≠a:=λb g=>r b (Q2.2 (.inr g))
 have T:∀l∈h.Larges,16*l.Page≠a:=λl O e=>(wt G O).1 _ (am J) (by have a1:=K.1;have a2:=K.2.1;omega)
 have t:∀s∈sp,∃u∈h.Spans,u.Page=s.Page/\(s=u\/s=jJ u (dv (nth h.Spans i) a)):=λs p=>by
  rw[<-R]at p;rcases eQ p with rfl|⟨j,hj,hji,rfl⟩
  ·exact⟨_,am J,rfl,.inr rfl⟩
  ·exact⟨_,am hj,rfl,.inl rfl⟩
 have N:∀u∈h.Spans,∃s∈sp,s.Page=u.Page:=λu y=>by
  have:u.Page∈sp.map (·.Page):=by rw[A];exact U3.2 ⟨u,y,rfl⟩
  obtain⟨s,p,e⟩:=U3.1 this;exact⟨s,p,e⟩
 exact {d with
   lay:=by
     obtain⟨l1,l2,l3⟩:=dm d.lay;unfold bg;simp only[I0,C0];refine⟨⟨O3.2 λs p=>?_,l2⟩,by rw[q];exact l3⟩;obtain⟨u,y,-,rfl|rfl⟩:=t s p
     · exact G.sok _ y
     · exact GO (G.sok _ y) _
   srs:=by
     have n:(h.Spans.map (·.Page)).Pairwise (λa b=>a<b):=List.pairwise_map.2 d.srs;rw[<-A]at n;exact List.pairwise_map.1 n
   pg:=⟨d.pg.one,by rw[q];exact d.pg.bnd,by rw[q];exact d.pg.own,d.pg.fre,λs p u y r hf=>by
     obtain⟨U,D,Z,V⟩:=t s p;obtain⟨P,F,eu,W⟩:=t u y;have n:=d.pg.mesh U D P F (by rw[Z,eu];exact r) (by rw[Z,eu];exact hf);have w:meshable s P=true:=by
       rcases V with rfl|rfl
       · exact n
       · exact ss (G.sok _ D) M n
     rcases W with rfl|rfl
     · exact w
     · rw[iM]at w |-;exact ss (G.sok _ F) M w⟩
   oow:=λo ho=>by
     have X:o.Addr≠a:=C _ (by unfold holders;simp only[Q2];exact .inl (.inl (.inl (U3.2 ⟨o,ho,rfl⟩))));rcases d.oow o ho with⟨s,p,n,w⟩|n
     · obtain⟨u,y,Y,H⟩:=(f o.Addr (aK o.Size)).2 ⟨⟨s,p,n,.inr w⟩,X⟩
       refine .inl ⟨u,y,Y,?_⟩;rcases H with H|H
       · have:=aF (G.sok _ p);omega
       · exact H
     · exact .inr n
   hca:=λc hc k hk b g=>(f b k).2 ⟨d.hca c hc k hk b g,C b (by
     unfold holders cn;simp only[Q2];exact .inl (.inl (.inr (List.mem_flatMap.2 ⟨c,hc,List.mem_flatten.2 ⟨_,am hk,g⟩⟩))))⟩
   hqu:=λx hx=>(f _ _).2 ⟨d.hqu x hx,C _ (by unfold holders;simp only[Q2];exact .inl (.inr (U3.2 ⟨x,hx,rfl⟩)))⟩
   hfl:=λb g=>(f _ _).2 ⟨d.hfl b g,C _ (by unfold holders;simp only[Q2];exact .inr g)⟩
   hin:=λb g=>(f _ _).2 ⟨d.hin b (Q4 _ g),r b (Q2.2 (.inl g))⟩
   nd:=B
   mem:=λb=>by
     show b∈E++holders h↔lr sp h.Larges b;have n:=d.mem b;rw[List.cons_append,List.mem_cons]at n;unfold lr at n |-;rw[f];constructor
     · intro g
       rcases n.1 (.inr g) with w|w
       · exact .inl ⟨w,r b g⟩
       · exact .inr w
     · rintro(⟨w,h3⟩|⟨l,O,rfl⟩)
       · exact(n.2 (.inl w)).resolve_left h3
       · exact(n.2 (.inr ⟨l,O,rfl⟩)).resolve_left (T l O)
   job:=λhm=>by
     obtain⟨j1,⟨s,p,e1⟩,⟨u,y,e2⟩⟩:=d.job hm;obtain⟨U,D,Y⟩:=N s p;obtain⟨P,F,H⟩:=N u y;exact⟨j1,⟨U,D,Y.trans e1⟩,⟨P,F,H.trans e2⟩⟩}
def d6(k:af)(p:Int):Nat->af
 | 0=>k
 | n+1=>cr (d6 k p n) (p+n)
theorem jB{k:af}(h:aB k=true)(p:Int):∀n,aB (d6 k p n)=true
 | 0=>h
 | n+1=>v6 _ (jB h p n)
theorem gz(k:af)(p:Int):∀n,(d6 k p n).Machine.Table.Entries.length=k.Machine.Table.Entries.length/\(d6 k p n).Calls=k.Calls/\(d6 k p n).Refuse=k.Refuse
 | 0=>⟨rfl,rfl,rfl⟩
 | n+1=>by
  obtain⟨a,b,c⟩:=gz k p n;obtain⟨d,e,f⟩:=pL (d6 k p n) (p+n);exact⟨d.trans a,e.trans b,f.trans c⟩
theorem vd{k:af}(h:aB k=true){p:Int}(d:0<=p/\p<k.Machine.Table.Entries.length)(q:Nat):nth (cr k p).Machine.Table.Entries q=if(q:Int)=p then⟨0,0⟩ else nth k.Machine.Table.Entries q:=by
 have g:ar k.Machine.Table p=nth k.Machine.Table.Entries p.toNat:=by unfold ar;rw[C8 d]
 unfold cr;split
 ·rename_i a
  split
  ·rename_i i
   rw[g]at a;have b:=(br.1 (aC.1 h).2.2.1).1 p.toNat ω;unfold kj at b;rw[C0]at b;have c:=b.2.2.1 a;rw[show q=p.toNat by omega];generalize nth k.Machine.Table.Entries p.toNat=e at a c;obtain⟨m,f⟩:=e;simp only at a c;rw[a,c]
  ·rfl
 ·rw[(ou _ _).1]
  simp only[jS,cw];by_cases e:(q:Int)=p
  ·rw[C8 ⟨ω,ω⟩,C8 e]
  ·rw[C7 λx=>e ω,C7 e]
theorem lz{k:af}(h:aB k=true){p:Int}(b:0<=p):∀n:Nat,p+n<=k.Machine.Table.Entries.length->∀q:Nat,nth (d6 k p n).Machine.Table.Entries q=if p<=q/\(q:Int)<p+n then⟨0,0⟩ else nth k.Machine.Table.Entries q
 | 0,_,q=>by rw[C7 ω];rfl
 | n+1,f,q=>by
  have c:=lz h b n ω q;have d:=vd (jB h p n) (p:=p+n) ⟨ω,by rw[(gz k p n).1];omega⟩ q;show nth (cr (d6 k p n) (p+n)).Machine.Table.Entries q=_;rw[d,c];by_cases e:(q:Int)=p+n
  ·rw[C8 e,C8 ⟨ω,ω⟩]
  ·rw[C7 e]
   by_cases a:p<=q/\(q:Int)<p+n
   ·rw[C8 a,C8 ⟨ω,ω⟩]
   ·rw[C7 a,C7 ω]
theorem Ds{α β:Type}(f:α->List β){xs c:List α}(h:xs.Sublist c):(xs.flatMap f).Sublist (c.flatMap f):=by
 induction h with
 | slnil=>exact List.Sublist.refl _
 | cons a _ b=>rw[I5];exact b.trans (List.sublist_append_right ..)
 | cons_cons a _ b=>rw[I5,I5];exact List.Sublist.append (List.Sublist.refl _) b
theorem wT{h:ab}{E:List Int}(c:bn h E){sp:List au}{la:List ax}{p:Int}{n:Nat}(Y:1<=n)(w:sp.Sublist h.Spans)(D:la.Sublist h.Larges)(j:∀q:Int,p<=q->q<p+n->q∈pgs h.Spans h.Larges)(K:0<=p)(F:∀q,q∈pgs sp la↔q∈pgs h.Spans h.Larges/\¬(p<=q/\q<p+n)) :
  ∃o,bX (dU h) h.Free ⟨p,n⟩ = some o/\aB (d6 h.Kernel p n)=true/\bx ((d6 h.Kernel p n).Machine.Table.Entries.length:Nat) o=true/\bg sp la=true/\Pg (d6 h.Kernel p n).Machine.Table o sp la:=by
 have t:=c.pg.bnd _ (j (p+n - 1) ω ω);have a:=(gz h.Kernel p n).1;have y:p+n<=h.Kernel.Machine.Table.Entries.length:=by unfold tbl at t;omega
 have g:=lz c.ker K n y;obtain⟨o,Q,R,S⟩:=tw (r:=⟨p,n⟩) c.rng ⟨K,by simp only;omega,y⟩ λq M N=>by
  simp only at M N;obtain⟨m,rfl⟩:=O2 (show 0<=q by omega);have A:m<(tbl h).Entries.length:=by unfold tbl;omega
  exact(c.pg.fre m A).1 ((c.pg.own m A).2 (j _ M N))
 refine⟨o,Q,jB c.ker p n,by rw[a];exact R,?_,?_⟩
 ·obtain⟨T,U,V⟩:=dm c.lay
  unfold bg;simp only[I0,C0];exact⟨⟨O3.2 λs d=>O3.1 T s (w.subset d),O3.2 λl d=>O3.1 U l (D.subset d)⟩,V.sublist ((w.map _).append (Ds _ D))⟩
 ·have i:∀q:Nat,(q:Int)∈pgs sp la->nth (d6 h.Kernel p n).Machine.Table.Entries q=nth (tbl h).Entries q:=λq f=>by rw[g,C7 ((F q).1 f).2];rfl
  have b:∀q:Nat,(nth (d6 h.Kernel p n).Machine.Table.Entries q).Mode≠0↔(nth (tbl h).Entries q).Mode≠0/\¬(p<=q/\(q:Int)<p+n):=λq=>by
   rw[g];by_cases e:p<=q/\(q:Int)<p+n
   ·rw[C8 e];exact⟨λx=>absurd rfl x,λx=>absurd e x.2⟩
   ·rw[C7 e];exact⟨λx=>⟨x,e⟩,λx=>x.1⟩
  refine⟨λl d q f r O G B=>?_,λq f=>?_,λq f=>?_,λq f=>?_,λs d u H J P=>?_⟩
  ·have C:=(b r).1 G
   rw[a]at O;rw[i q (fw d f),g,C7 C.2]at B;exact c.pg.one l (D.subset d) q f r O C.1 B
  ·rw[a];exact c.pg.bnd q ((F q).1 f).1
  ·rw[a]at f
   rw[b,F,c.pg.own q f]
  ·rw[a]at f
   rw[b,S,c.pg.fre q f];simp only
   grind
  ·have k:∀s∈sp,0<=s.Page:=λs d=>(aF (c.L.sok s (w.subset d))).1
   have W:=i s.Page.toNat (by rw[Int.toNat_of_nonneg (k s d)];exact d3 d);have X:=i u.Page.toNat (by rw[Int.toNat_of_nonneg (k u H)];exact d3 H);rw[W,X]at P;exact c.pg.mesh s (w.subset d) u (w.subset H) J P
theorem er{α:Type}[Inhabited α]{xs:List α}{k:Nat}{z:α} : z∈dele xs k↔∃j,j<xs.length/\j≠k/\nth xs j=z:=by
 unfold dele;rw[Q2];constructor
 ·rintro(h|h)
  ·obtain⟨j,a,rfl⟩:=List.mem_take_iff_getElem.1 h
   exact⟨j,ω,ω,bw (U1 ω)⟩
  ·obtain⟨j,a,rfl⟩:=List.mem_drop_iff_getElem.1 h
   exact⟨k+1+j,ω,ω,bw (U1 ω)⟩
 ·rintro⟨j,a,b,rfl⟩
  rw[bw (U1 a)];by_cases e:j<k
  ·exact .inl (List.mem_take_iff_getElem.2 ⟨j,ω,rfl⟩)
  ·refine .inr (List.mem_drop_iff_getElem.2 ⟨j - (k+1),ω,?_⟩)
   congr 1;omega
theorem o7{sp:List au}{la:List ax}{q:Int} : q∈pgs sp la↔(∃s∈sp,s.Page=q)\/∃l∈la,q∈lpgs l l.Pages.toNat:=by
 unfold pgs;simp only[Q2,U3,List.mem_flatMap]
theorem zB{s:au}(h:s.Bits=0)(a:Int):¬eI s a:=by
 rintro⟨-,-,-,b⟩
 rw[fN,h]at b;simp at b
theorem bn.giveSpan{h:ab}{E:List Int}{i:Nat}(g:bn h E)(B:i<h.Spans.length)(y:(nth h.Spans i).Bits=0)(W:h.Meshing=true->(nth h.Spans i).Page≠h.Job.Plan.Keep/\(nth h.Spans i).Page≠h.Job.Plan.Move) :
  ∃o,bX (dU h) h.Free ⟨(nth h.Spans i).Page,1⟩ = some o/\bn {h with Kernel:=cr h.Kernel (nth h.Spans i).Page,Spans:=dele h.Spans i,Free:=o} E:=by
 have F:=g.L;have G:=aF (F.sok _ (am B));have A:∀q,q∈pgs (dele h.Spans i) h.Larges↔q∈pgs h.Spans h.Larges/\¬((nth h.Spans i).Page<=q/\q<(nth h.Spans i).Page+(1:Nat)):=λq=>by
  rw[o7,o7];constructor
  ·rintro(⟨s,r,rfl⟩|⟨l,C,D⟩)
   ·obtain⟨j,d,H,rfl⟩:=er.1 r
    refine⟨.inl ⟨_,am d,rfl⟩,λe=>H (gG (f:=(·.Page)) F.nd d B ω)⟩
   ·refine⟨.inr ⟨l,C,D⟩,λe=>?_⟩
    obtain⟨k,J,rfl⟩:=df.1 D;exact F.dis _ (am B) l C k J ω
  ·rintro⟨⟨s,r,rfl⟩|⟨l,C,D⟩,K⟩
   ·obtain⟨j,d,rfl⟩:=bf r
    refine .inl ⟨_,er.2 ⟨j,d,λe=>K (by subst e;omega),rfl⟩,rfl⟩
   ·exact .inr ⟨l,C,D⟩
 obtain⟨o,X,Q,R,Y,S⟩:=wT g (sp:=dele h.Spans i) (la:=h.Larges) (p:=(nth h.Spans i).Page) (n:=1) (R2 _) (ep ..) (List.Sublist.refl _) (λq q1 q2=>by rw[show q=(nth h.Spans i).Page by omega];exact d3 (am B)) G.1 A;have M:d6 h.Kernel (nth h.Spans i).Page 1=cr h.Kernel (nth h.Spans i).Page:=by show cr h.Kernel ((nth h.Spans i).Page+((0:Nat):Int))=_;rw[show(nth h.Spans i).Page+((0:Nat):Int)=(nth h.Spans i).Page by omega]
 rw[M]at Q R S;have t:∀b c,jd (dele h.Spans i) b c↔jd h.Spans b c:=λb c=>by
  constructor
  ·rintro⟨s,r,w⟩;exact⟨s,(ep ..).subset r,w⟩
  ·rintro⟨s,r,w,N⟩
   obtain⟨j,d,rfl⟩:=bf r;exact⟨_,er.2 ⟨j,d,λe=>zB y b (by rw[<-e];exact w),rfl⟩,w,N⟩
 refine⟨o,X,{g with
   ker:=Q
   rng:=R
   lay:=Y
   srs:=g.srs.sublist (ep ..)
   pg:=S
   oow:=λZ ho=>?_
   hca:=λc G k J b y=>(t b k).2 (g.hca c G k J b y)
   hqu:=λx hx=>(t _ _).2 (g.hqu x hx)
   hfl:=λb y=>(t _ _).2 (g.hfl b y)
   hin:=λb y=>(t _ _).2 (g.hin b y)
   mem:=λb=>(g.mem b).trans ?_
   job:=λT=>?_}⟩
 ·rcases g.oow Z ho with⟨s,r,w,N⟩|w
  ·obtain⟨j,d,rfl⟩:=bf r
   exact .inl ⟨_,er.2 ⟨j,d,λe=>zB y _ (by rw[<-e];exact w),rfl⟩,w,N⟩
  ·exact .inr w
 ·unfold lr;rw[t]
 ·obtain⟨j1,⟨s,r,U⟩,⟨u,M,V⟩⟩:=g.job T
  obtain⟨n1,n2⟩:=W T;obtain⟨a,O,rfl⟩:=bf r;obtain⟨b,P,rfl⟩:=bf M;exact⟨j1,⟨_,er.2 ⟨a,O,λe=>n1 (by rw[<-e];exact U),rfl⟩,U⟩,⟨_,er.2 ⟨b,P,λe=>n2 (by rw[<-e];exact V),rfl⟩,V⟩⟩
theorem bn.dropL{h:ab}{E:List Int}{i k:Nat}(d:bn h E)(S:i<h.Objs.length)(y:k<h.Larges.length)(G:(nth h.Objs i).Addr=16*(nth h.Larges k).Page) :
  ∃o,bX (dU h) h.Free ⟨(nth h.Larges k).Page,(nth h.Larges k).Pages⟩ = some o/\bn {h with Kernel:=d6 h.Kernel (nth h.Larges k).Page (nth h.Larges k).Pages.toNat,Larges:=dele h.Larges k,Free:=o,Objs:=dele h.Objs i} E:=by
 have A:=d.L;have T:=aS (A.lok _ (am y));have C:∀q,q∈pgs h.Spans (dele h.Larges k)↔q∈pgs h.Spans h.Larges/\¬((nth h.Larges k).Page<=q/\q<(nth h.Larges k).Page+((nth h.Larges k).Pages.toNat:Nat)):=λq=>by
  rw[o7,o7];constructor
  ·rintro(⟨s,B,rfl⟩|⟨l,f,D⟩)
   ·refine⟨.inl ⟨s,B,rfl⟩,λe=>A.dis s B _ (am y) (s.Page - (nth h.Larges k).Page).toNat ω ω⟩
   ·obtain⟨j,c,t,rfl⟩:=er.1 f
    refine⟨.inr ⟨_,am c,D⟩,λe=>?_⟩;obtain⟨m,N,rfl⟩:=df.1 D;exact t (A.one j k c y m ((nth h.Larges j).Page+(m:Int) - (nth h.Larges k).Page).toNat N ω ω)
  ·rintro⟨⟨s,B,rfl⟩|⟨l,f,D⟩,g⟩
   ·exact .inl ⟨s,B,rfl⟩
   ·obtain⟨j,c,rfl⟩:=bf f
    refine .inr ⟨_,er.2 ⟨j,c,λe=>g ?_,rfl⟩,D⟩;subst e;obtain⟨m,N,rfl⟩:=df.1 D;omega
 obtain⟨o,O,U,V,W,X⟩:=wT d (sp:=h.Spans) (la:=dele h.Larges k) (p:=(nth h.Larges k).Page) (n:=(nth h.Larges k).Pages.toNat) ω (List.Sublist.refl _) (ep ..) (λq q1 q2=>fw (am y) (df.2 ⟨(q - (nth h.Larges k).Page).toNat,ω,ω⟩)) T.2.2.1 C;rw[Int.toNat_of_nonneg ω]at O;have P:(E++holders h).Perm ((nth h.Objs i).Addr::(E++holders {h with Objs:=dele h.Objs i})):=by
  have Y:=(yY S).map (·.Addr);refine List.perm_iff_count.2 λa=>?_
  have r:=Y.count_eq a;simp only[X4,List.count_cons]at r;simp only[holders,cn,Y4,List.count_cons];omega
 have u:=P.nodup_iff.1 d.nd;obtain⟨K,u⟩:=List.nodup_cons.1 u;have w:∀b,(b=(nth h.Objs i).Addr\/b∈E++holders {h with Objs:=dele h.Objs i})↔lr h.Spans h.Larges b:=λb=>by rw[<-d.mem b,P.mem_iff,List.mem_cons]
 have g:∀b,b∈E++holders {h with Objs:=dele h.Objs i}->b≠(nth h.Objs i).Addr:=λb H e=>K (by rw[<-e];exact H)
 refine⟨o,O,{d with
   ker:=U
   rng:=V
   lay:=W
   srl:=d.srl.sublist (ep ..)
   pg:=X
   osr:=d.osr.sublist (ep ..)
   onu:=λF J=>d.onu F ((ep ..).subset J)
   oid:=d.oid.sublist ((ep ..).map _)
   oow:=λF J=>?_
   nd:=u
   mem:=λb=>?_}⟩
 ·rcases d.oow F ((ep ..).subset J) with r|⟨l,f,Q,Z⟩
  ·exact .inl r
  ·obtain⟨j,c,rfl⟩:=bf f
   refine .inr ⟨_,er.2 ⟨j,c,λe=>?_,rfl⟩,Q,Z⟩;subst e;refine g F.Addr (Q2.2 (.inr ?_)) (by rw[G];exact Q);unfold holders;simp only[Q2];exact .inl (.inl (.inl (U3.2 ⟨F,J,rfl⟩)))
 ·constructor
  ·intro H
   rcases(w b).1 (.inr H) with r|⟨l,f,rfl⟩
   ·exact .inl r
   ·obtain⟨j,c,rfl⟩:=bf f
    exact .inr ⟨_,er.2 ⟨j,c,λe=>g _ H (by rw[G,e]),rfl⟩,rfl⟩
  ·rintro(r|⟨l,f,rfl⟩)
   ·refine((w b).2 (.inl r)).resolve_left λe=>?_
    obtain⟨s,B,⟨M,R,-⟩,-⟩:=r;exact(wt A (am y)).1 s B (by rw[e,G]at M R;exact⟨M,R⟩)
   ·obtain⟨j,c,t,rfl⟩:=er.1 f
    refine((w _).2 (.inr ⟨_,am c,rfl⟩)).resolve_left λe=>t ?_
    have M:=aS (A.lok _ (am c));rw[G]at e;exact A.one j k c y 0 0 ω ω ω
def eR(h:ab)(p:Int):Bool:=h.Meshing&&(decide (p=h.Job.Plan.Keep) || decide (p=h.Job.Plan.Move))
def giveP(h:ab)(i:Nat):ab:={h with Kernel:=cr h.Kernel (nth h.Spans i).Page,Spans:=dele h.Spans i,Free:=(bX (dU h) h.Free ⟨(nth h.Spans i).Page,1⟩).getD h.Free}
def clrS(h:ab)(i:Nat)(a:Int):ab:={h with Spans:=h.Spans.set i (jJ (nth h.Spans i) (dv (nth h.Spans i) a))}
def freeS(h:ab)(i:Nat)(a:Int):ab:=if(jJ (nth h.Spans i) (dv (nth h.Spans i) a)).Bits=0/\eR h (nth h.Spans i).Page=false then giveP (clrS h i a) i else clrS h i a
def rD(h:ab)(a:Int):Nat:=(fY h (a / 16)).toNat
def freeA(h:ab)(a:Int):ab:=freeS h (rD h a) a
def cput(c:aA)(k a:Int):Option aA:=if bo c=true/\0<=k/\k<=3/\bo (jo c k.toNat a)=true then some (jo c k.toNat a) else none
def recyc(t:Nat)(h:ab)(a:Int):ab:=match cput (nth h.Caches t) (nth h.Spans (rD h a)).Class a with
 | some c=>{h with Caches:=h.Caches.set t c}
 | none=>freeA h a
theorem bn.at{h:ab}{E:List Int}{a:Int}(e:bn h E)(f:jd h.Spans a (-1)):rD h a<h.Spans.length/\eI (nth h.Spans (rD h a)) a/\fY h (a / 16)=(rD h a:Nat):=by
 obtain⟨s,g,c,-⟩:=f;obtain⟨i,d,rfl⟩:=bf g;have j:(nth h.Spans i).Page=a / 16:=by have l:=c.1;have n:=c.2.1;omega
 have b:=sH e.L d;rw[j]at b;have k:rD h a=i:=by unfold rD;rw[b];rfl
 rw[k];exact⟨d,c,b⟩
theorem JE{h:ab}{p:Int}(e:eR h p=false)(a:h.Meshing=true):p≠h.Job.Plan.Keep/\p≠h.Job.Plan.Move:=by
 unfold eR at e;rw[a]at e;simpa using e
theorem bn.freeS{h:ab}{E:List Int}{a:Int}{i:Nat}(f:bn h (a::E))(b:i<h.Spans.length)(g:eI (nth h.Spans i) a):bn (freeS h i a) E:=by
 have c:=f.give b g;unfold Ab.freeS;split
 ·rename_i e
  have d:nth (clrS h i a).Spans i=jJ (nth h.Spans i) (dv (nth h.Spans i) a):=by unfold clrS;simp only[cw,true_and];rw[C8 b]
  obtain⟨o,j,k⟩:=bn.giveSpan (h:=clrS h i a) c (i:=i) (by unfold clrS;simp only[C1];exact b) (by rw[d];exact e.1) (λl=>by rw[d];exact JE e.2 l);unfold giveP;rw[j];exact k
 ·exact c
theorem bn.freeA{h:ab}{E:List Int}{a:Int}(b:bn h (a::E)):bn (freeA h a) E:=by
 obtain⟨c,d,-⟩:=b.at (b.hin a (O1 ..));exact b.freeS c d
theorem sX{c:aA}(h:bo c=true):c.Lists.length=4:=by
 unfold bo at h;simp only[I0,C0]at h;exact h.1
theorem bn.recyc{h:ab}{E:List Int}{a:Int}{t:Nat}(b:bn h (a::E))(f:t<h.Caches.length):bn (recyc t h a) E:=by
 obtain⟨g,i,-⟩:=b.at (b.hin a (O1 ..));unfold Ab.recyc;split
 ·rename_i c d
  unfold cput at d;split at d
  ·rename_i e
   cases d;obtain⟨j,l,n,k⟩:=e;exact b.put f (by rw[sX j];omega) ⟨_,am g,i,.inr ω⟩ k
  ·cases d
 ·exact b.freeA
theorem uE(h:ab)(i:Nat)(a:Int):(freeS h i a).Caches=h.Caches/\(freeS h i a).Objs=h.Objs/\(freeS h i a).Kernel.Calls=h.Kernel.Calls/\(freeS h i a).Mail=h.Mail/\(freeS h i a).Job=h.Job/\(freeS h i a).Clock=h.Clock/\(freeS h i a).Quar=h.Quar/\(freeS h i a).Kernel.Refuse=h.Kernel.Refuse:=by
 unfold freeS;split
 ·obtain⟨-,b,c⟩:=pL (clrS h i a).Kernel (nth (clrS h i a).Spans i).Page
  exact⟨rfl,rfl,b,rfl,rfl,rfl,rfl,c⟩
 ·exact⟨rfl,rfl,rfl,rfl,rfl,rfl,rfl,rfl⟩
theorem pS(t:Nat)(h:ab)(a:Int):(recyc t h a).Caches.length=h.Caches.length/\(recyc t h a).Objs=h.Objs/\(recyc t h a).Kernel.Calls=h.Kernel.Calls/\(recyc t h a).Mail=h.Mail/\(recyc t h a).Job=h.Job/\(recyc t h a).Clock=h.Clock/\(recyc t h a).Quar=h.Quar/\(recyc t h a).Kernel.Refuse=h.Kernel.Refuse:=by
 unfold recyc;split
 ·exact⟨C1 ..,rfl,rfl,rfl,rfl,rfl,rfl,rfl⟩
 ·obtain⟨b,c⟩:=uE h (rD h a) a
  exact⟨T0 _ b,c⟩
def recycs(t:Nat)(h:ab)(az:List Int):ab:=az.foldl (recyc t) h
theorem ek(t:Nat):∀(az:List Int)(h:ab),(recycs t h az).Caches.length=h.Caches.length/\(recycs t h az).Objs=h.Objs/\(recycs t h az).Kernel.Calls=h.Kernel.Calls/\(recycs t h az).Mail=h.Mail/\(recycs t h az).Job=h.Job/\(recycs t h az).Clock=h.Clock/\(recycs t h az).Quar=h.Quar/\(recycs t h az).Kernel.Refuse=h.Kernel.Refuse
 | [],h=>⟨rfl,rfl,rfl,rfl,rfl,rfl,rfl,rfl⟩
 | a::az,h=>by
  obtain⟨b,c,d,e,f,g,i,j⟩:=ek t az (recyc t h a);obtain⟨k,l,n,o,p,q,r,u⟩:=pS t h a;exact⟨b.trans k,c.trans l,d.trans n,e.trans o,f.trans p,g.trans q,i.trans r,j.trans u⟩
theorem bn.recycs{t:Nat}{E:List Int} : ∀{az:List Int}{h:ab},bn h (az++E)->t<h.Caches.length->bn (recycs t h az) E
 | [],h,b,_=>b
 | a::az,h,b,c=>bn.recycs (az:=az) (h:=Ab.recyc t h a) (b.recyc c) (by rw[(pS t h a).1];exact c)
def qc(l:List aL):Int:=quarCells l l.length
def hO(room:Int):List aL->Nat
 | []=>0
 | x::xs=>if room<qc (x::xs) then hO room xs+1 else 0
def HX(q:bz)(x:aL):bz:=⟨q.Room,(q.Lst++[x]).drop (hO q.Room (q.Lst++[x]))⟩
def se(q:bz)(x:aL):List aL:=(q.Lst++[x]).take (hO q.Room (q.Lst++[x]))
theorem wz(room:Int):∀l,hO room l<=l.length
 | []=>R2 _
 | x::xs=>by unfold hO;split;(have:=wz room xs;simp only[List.length_cons];omega);omega
theorem u7{room:Int}(a:0<=room):∀l:List aL,qc (l.drop (hO room l))<=room
 | []=>a
 | x::xs=>by
  unfold hO;split
  ·exact u7 a xs
  ·rename_i h;show qc (x::xs)<=room;omega
theorem rz{room:Int} : ∀{l:List aL}{k:Nat},k<hO room l->room<qc (l.drop k)
 | [],k,h=>by cases h
 | x::xs,0,h=>by
  unfold hO at h;split at h
  ·assumption
  ·omega
 | x::xs,k+1,h=>by
  unfold hO at h;split at h
  ·exact rz (l:=xs) ω
  ·omega
theorem ij{q:bz} : fj q=true↔(∀x∈q.Lst,0<=x.Class/\x.Class<=3/\0<=x.Addr/\0<=x.Since)/\(q.Lst.Pairwise λa b=>a.Since<=b.Since)/\(q.Lst.map (·.Addr)).Nodup/\0<=q.Room/\q.Room<=500/\qc q.Lst<=q.Room:=by
 refine Iff.trans ?_ (and_congr Iff.rfl (and_congr (ur (λa b:Int=>a<=b) (λa b c=>v4) (λs:aL=>s.Since) q.Lst) (and_congr (yq (λs:aL=>s.Addr) q.Lst) Iff.rfl)));unfold fj qc;simp only[I0,C0,ce,jF,Bool.not_eq_true',List.any_eq_false,d9];constructor
 ·rintro⟨e,f⟩
  refine⟨λx l=>?_,λi d=>(e i d).1.2.2.2.2,λi d=>(e i d).2,f⟩;obtain⟨i,d,rfl⟩:=bf l;obtain⟨⟨g,h,j,k,-⟩,-⟩:=e i d;exact⟨g,h,j,k⟩
 ·rintro⟨e,f,n,o⟩
  refine⟨λi d=>?_,o⟩;obtain⟨g,h,j,k⟩:=e _ (am d);exact⟨⟨g,h,j,k,f i d⟩,n i d⟩
theorem Ni{q:bz}{x:aL}(h:fj q=true)(i:0<=x.Class/\x.Class<=3/\0<=x.Addr/\0<=x.Since)(j:∀y∈q.Lst,y.Since<=x.Since)(k:∀y∈q.Lst,y.Addr≠x.Addr):fj (HX q x)=true:=by
 obtain⟨l,n,o,g,p,r⟩:=ij.1 h;have c:(HX q x).Lst.Sublist (q.Lst++[x]):=List.drop_sublist ..;refine ij.2 ⟨λy d=>?_,List.Pairwise.sublist c ?_,List.Nodup.sublist (c.map _) ?_,g,p,u7 g _⟩
 ·rcases Q2.1 (c.subset d) with d|d
  ·exact l y d
  ·rw[Z0.1 d];exact i
 ·exact List.pairwise_append.2 ⟨n,List.pairwise_singleton ..,λa f b e=>by rw[Z0.1 e];exact j a f⟩
 ·rw[V4]
  refine List.nodup_append.2 ⟨o,by simp,λa f b e=>?_⟩;obtain⟨y,d,rfl⟩:=U3.1 f;simp only[X4,List.map_nil,Z0]at e;rw[e];exact k y d
def iB(r:List Int)(o:Nat):Nat->List Int
 | 0=>r
 | n+1=>(iB r o n).set (o+n) 0
def dZ(k:af)(a:Int):Nat:=(ar k.Machine.Table (a / 16)).Frame.toNat
def dP(k:af)(a:Int)(n:Nat):af:={k with Machine:=⟨⟨k.Machine.Frames.Cells.set (dZ k a) (iB (nth k.Machine.Frames.Cells (dZ k a)) (a % 16).toNat n),k.Machine.Frames.Used⟩,k.Machine.Table⟩}
theorem lv(r:List Int)(o:Nat):∀n,(iB r o n).length=r.length
 | 0=>rfl
 | n+1=>by unfold iB;rw[C1,lv r o n]
theorem zb{r:List Int}{o:Nat} : ∀{n:Nat}{v:Int},v∈iB r o n->v∈r\/v=0
 | 0,v,h=>.inl h
 | n+1,v,h=>by
  rcases z5 h with h|h
  ·exact zb h
  ·exact .inr h
theorem BG{k:af}(h:aB k=true)(a:Int)(n:Nat):aB (dP k a n)=true:=by
 obtain⟨g,i,l,o,p⟩:=aC.1 h;obtain⟨q,r,t,f⟩:=aY.1 i;refine aC.2 ⟨g,aY.2 ⟨?_,?_,?_,λj c=>?_⟩,l,o,p⟩
 ·simp only[dP,C1];exact q
 ·simp only[dP,C1];exact r
 ·simp only[dP,C1];exact t
 ·simp only[dP,C1]at c |-
  simp only[cw];split
  ·rename_i e
   have b:=f j c;unfold hJ at b |-;simp only[I0,C0,O3]at b |-;rw[e.1]at *;refine⟨by rw[lv];exact b.1,λv d=>?_⟩;rcases zb d with d|rfl
   ·exact b.2 v d
   ·unfold iD;simp
  ·exact f j c
def rj(h:ab)(a:Int):Nat:=(h.Larges.findIdx? λl=>decide (l.Page*16=a)).getD 0
def freeL(h:ab)(i k:Nat):ab:={h with Kernel:=d6 h.Kernel (nth h.Larges k).Page (nth h.Larges k).Pages.toNat,Larges:=dele h.Larges k,Free:=(bX (dU h) h.Free ⟨(nth h.Larges k).Page,(nth h.Larges k).Pages⟩).getD h.Free,Objs:=dele h.Objs i}
def ix(h:ab)(o:bm):aL:=⟨o.Addr,aK o.Size,h.Clock⟩
def inQuar(h:ab)(i:Nat):ab:={h with Kernel:=dP h.Kernel (nth h.Objs i).Addr (csz (aK (nth h.Objs i).Size)).toNat,Objs:=dele h.Objs i,Quar:=HX h.Quar (ix h (nth h.Objs i))}
def G5(h:ab)(t i:Nat):ab:=recycs t (inQuar h i) ((se h.Quar (ix h (nth h.Objs i))).map (·.Addr))
def freeOb(h:ab)(t i:Nat):ab × Int:=
 if aK (nth h.Objs i).Size<0 then(freeL h i (rj h (nth h.Objs i).Addr),0)
 else if(ar (tbl h) ((nth h.Objs i).Addr / 16)).Mode=1 then(h,5)
 else(G5 h t i,0)
theorem q8{h:ab}{l:ax}(d:l∈h.Larges){a:Int}(e:a=16*l.Page):rj h a<h.Larges.length/\a=16*(nth h.Larges (rj h a)).Page/\(∀j,j<rj h a->(nth h.Larges j).Page*16≠a)/\h.Larges.findIdx? (λl=>decide (l.Page*16=a))=some (rj h a):=by
 cases b:h.Larges.findIdx? λl=>decide (l.Page*16=a) with
 | none=>
  have:=List.findIdx?_eq_none_iff.1 b l d;rw[Y3]at this;omega
 | some k=>
  obtain⟨c,f,g⟩:=R5.1 b;have i:rj h a=k:=by unfold rj;rw[b];rfl
  rw[i];rw[<-bw (U1 c),C0]at f;refine⟨c,ω,λj n=>?_,rfl⟩;have:=g j n;rw[<-bw (U1 (show j<h.Larges.length by omega))]at this;simpa using this
theorem d2{h:ab}{E:List Int}(a:bn h E){o:bm}(g:o∈h.Objs):(aK o.Size<0->Qj h.Larges o.Addr o.Size)/\(¬aK o.Size<0->(∃s∈h.Spans,eI s o.Addr/\s.Class=aK o.Size)/\aK o.Size<=3):=by
 rcases a.oow o g with⟨s,d,b,c⟩|⟨l,f,b,c⟩
 ·have i:=aF (a.L.sok s d)
  exact⟨λe=>ω,λ_=>⟨⟨s,d,b,c⟩,ω⟩⟩
 ·have j:=cz (a.L.lok l f)
  refine⟨λ_=>⟨l,f,b,c⟩,λe=>absurd ?_ e⟩;unfold aK;rw[C7 ω,C7 ω,C7 ω,C7 ω,C7 ω]
  decide
theorem bn.inQuar{h:ab}{i:Nat}(a:bn h [])(j:i<h.Objs.length)(r:¬aK (nth h.Objs i).Size<0):bn (inQuar h i) ((se h.Quar (ix h (nth h.Objs i))).map (·.Addr)):=by
 obtain⟨⟨s,l,n,t⟩,u⟩:=(d2 a (am j)).2 r;have b:jd h.Spans (nth h.Objs i).Addr (aK (nth h.Objs i).Size):=⟨s,l,n,.inr t⟩
 have d:=a.nums;unfold cm at d;rw[C0]at d;have w:=aF (a.L.sok s l);have o:=a.dropO j b.any;have A:=o.cells (k:=dP h.Kernel (nth h.Objs i).Addr (csz (aK (nth h.Objs i).Size)).toNat) (BG a.ker _ _) rfl;have f:∀y∈h.Quar.Lst,y.Addr≠(nth h.Objs i).Addr:=λy g e=>by
  have c:=o.nd;rw[List.cons_append,List.nil_append]at c;refine(List.nodup_cons.1 c).1 ?_;rw[<-e];unfold holders;simp only[Q2];exact .inl (.inr (U3.2 ⟨y,g,rfl⟩))
 have p:=bn.toQuar (x:=ix h (nth h.Objs i)) (q:=HX h.Quar (ix h (nth h.Objs i))) (out:=se h.Quar (ix h (nth h.Objs i))) A (Ni a.quar ⟨by show 0<=aK _;omega,u,by show 0<=(nth h.Objs i).Addr;have:=n.1;omega,d.2.2.1⟩ (λy g=>a.snc y g) f) (by unfold se HX;simp only[List.take_append_drop]) (z4 _) b;rw[List.append_nil]at p;exact p
theorem bn.freeOb{h:ab}{t i:Nat}(a:bn h [])(b:i<h.Objs.length)(e:t<h.Caches.length):bn (freeOb h t i).1 []:=by
 unfold Ab.freeOb;split
 ·rename_i c
  obtain⟨l,f,d,-⟩:=(d2 a (am b)).1 c;obtain⟨g,j,-⟩:=q8 f d;obtain⟨o,k,n⟩:=a.dropL b g j;unfold Ab.freeL;rw[k];exact n
 ·rename_i c
  split
  ·exact a
  ·have d:=a.inQuar b c
   refine bn.recycs (E:=[]) ?_ e;rw[List.append_nil];exact d
theorem GG:∀{H L:List Int},H.Nodup->(∀x∈H,x∈L)->H.length<=L.length
 | [],L,_,_=>R0 _
 | y::H,L,f,b=>by
  have c:y∈L:=b y (O1 ..);have a:=List.nodup_cons.1 f;have:=GG (L:=L.erase y) a.2 λz d=>(List.mem_erase_of_ne (λe:z=y=>a.1 (by rw[<-e];exact d))).2 (b z (Q4 _ d))
  rw[List.length_erase_of_mem c]at this;have g:=List.length_pos_of_mem c;simp only[List.length_cons];omega
theorem uY{H:List Int}{n:Nat}(c:H.Nodup)(a:∀x∈H,0<=x/\x<n):H.length<=n:=by
 have:=GG (L:=(List.range n).map λ(i:Nat)=>(i:Int)) c λx b=>U3.2 ⟨x.toNat,List.mem_range.2 (by have:=a x b;omega),by have:=a x b;omega⟩
 simpa using this
theorem gY{α:Type}{f:α->Int}{xs:List α}(h:xs.Pairwise λa b=>f a<f b):(xs.map f).Nodup:=by
 unfold List.Nodup;rw[List.pairwise_map];exact h.imp λh e=>ω
theorem KL:∀(b:List (List Int))(k:Nat)(s:List Int),(fK k s b).isSome=true->∀l∈b,l.length<=8
 | [],_,_,_,l,a=>by cases a
 | x::b,k,s,h,l,a=>by
  simp only[fK]at h;cases e:dY k s x with
  | none=>rw[e]at h;cases h
  | some d=>
   rw[e]at h;rcases List.mem_cons.1 a with rfl|a
   ·unfold dY at e
    split at e
    ·rename_i c;exact c.1
    ·cases e
   ·exact KL b (k+1) d h l a
theorem dL{c:aA}(h:bo c=true):c.Lists.length=4/\∀l∈c.Lists,l.length<=8:=by
 have a:=h;unfold bo at h;simp only[I0,C0]at h;exact⟨h.1,KL _ _ _ h.2⟩
structure MZ(h:ab):Prop where
 cells:h.Kernel.Machine.Frames.Cells.length<=32
 row:∀r∈h.Kernel.Machine.Frames.Cells,r.length=16
 used:h.Kernel.Machine.Frames.Used.length<=32
 ents:h.Kernel.Machine.Table.Entries.length<=32
 ref:h.Kernel.Refuse.length<=40
 free:h.Free.length<=32
 spans:h.Spans.length<=32
 larges:h.Larges.length<=32
 objs:h.Objs.length<=512
 caches:h.Caches.length<=4
 lists:∀c∈h.Caches,c.Lists.length=4/\∀l∈c.Lists,l.length<=8
 quar:h.Quar.Lst.length<=512
theorem jd.bd{h:ab}{E:List Int}(b:bn h E){a c:Int}(d:jd h.Spans a c):0<=a/\a<512:=by
 obtain⟨s,e,⟨f,g,-⟩,-⟩:=d;have i:=aF (b.L.sok s e);omega
theorem bn.lens{h:ab}{E:List Int}(d:bn h E):MZ h:=by
 obtain⟨O,t,u,P,Q,R,w⟩:=aC.1 d.ker;obtain⟨S,A,T,B⟩:=aY.1 t;obtain⟨U,V,C⟩:=br.1 u;obtain⟨p,D,W⟩:=fh.1 d.rng;obtain⟨X,Y,F,Z⟩:=ij.1 d.quar;have q:=d.mail;unfold b6 at q;simp only[I0,C0]at q;have G:=d.nc;refine⟨A,λr g=>?_,ω,C,w,?_,?_,?_,?_,ω,λc J=>dL (d.cach c J),?_⟩
 ·obtain⟨j,K,rfl⟩:=bf g
  have:=B j K;unfold hJ at this;simp only[I0,C0]at this;exact this.1
 ·have:=uY (H:=h.Free.map (·.At)) (n:=32) (gY (p.1.imp_of_mem fun {a b} ha hb h=>by have:=p.2 a ha;omega)) λx f=>by
   obtain⟨r,g,rfl⟩:=U3.1 f;have:=D r g;omega
  simpa using this
 ·have:=uY (H:=h.Spans.map (·.Page)) (n:=32) d.L.nd λx f=>by
   obtain⟨s,i,rfl⟩:=U3.1 f;have:=aF (d.L.sok s i);omega
  simpa using this
 ·have:=uY (H:=h.Larges.map (·.Page)) (n:=32) (gY d.srl) λx f=>by
   obtain⟨l,k,rfl⟩:=U3.1 f;have:=aS (d.L.lok l k);omega
  simpa using this
 ·have:=uY (H:=h.Objs.map (·.Addr)) (n:=512) (gY d.osr) λx f=>by
   obtain⟨o,M,rfl⟩:=U3.1 f;rcases d.oow o M with⟨s,i,⟨k1,k2,-⟩,-⟩|⟨l,k,e,-⟩
   ·have:=aF (d.L.sok s i);omega
   ·have:=aS (d.L.lok l k);omega
  simpa using this
 ·have:=uY (H:=h.Quar.Lst.map (·.Addr)) (n:=512) F λx f=>by
   obtain⟨y,N,rfl⟩:=U3.1 f;exact(d.hqu y N).bd d
  simpa using this
theorem MZ.sml{h:ab}(a:MZ h)(d:aB h.Kernel=true)(e:aH.sml h.Mail)(f:cj.sml h.Job):ab.sml h:=
 ⟨bp d,⟨by have:=a.free;omega,λ_ _=>trivial⟩,⟨by have:=a.spans;omega,λ_ _=>trivial⟩,⟨by have:=a.larges;omega,λ_ _=>trivial⟩,⟨by have:=a.objs;omega,λ_ _=>trivial⟩,⟨by have:=a.caches;omega,λc b=>⟨by have:=(a.lists c b).1;omega,λl g=>by have:=(a.lists c b).2 l g;show l.length<=1048576;omega⟩⟩,e,⟨by have:=a.quar;omega,λ_ _=>trivial⟩,f⟩
def fL(a:Int)(o:bm):Bool:=decide (o.Addr=a)
def gX(h:ab)(a:Int):Nat:=(cX (fL a) h.Objs).toNat
theorem bn.objAt{h:ab}{E:List Int}(k:bn h E){o:bm}(l:o∈h.Objs):gX h o.Addr<h.Objs.length/\nth h.Objs (gX h o.Addr)=o/\cX (fL o.Addr) h.Objs=(gX h o.Addr:Nat):=by
 obtain⟨i,a,rfl⟩:=bf l;have d:cX (fL (nth h.Objs i).Addr) h.Objs=(i:Nat):=dN (ah a) (by unfold fL;simp) λj z p g=>by
  have b:=bw g;have c:=(V1.1 g).1;subst b;unfold fL;refine Q0 λe=>?_
  have:=gG (f:=(·.Addr)) (gY k.osr) c a e;omega
 have n:gX h (nth h.Objs i).Addr=i:=by unfold gX;rw[d];rfl
 rw[n];exact⟨a,rfl,d⟩
theorem iO(k:af)(p:Int)(n:Nat):(d6 k p n).Calls=k.Calls/\(d6 k p n).Refuse=k.Refuse:=(gz k p n).2
open Go.RowKit
set_option maxRecDepth 20000
set_option maxHeartbeats 4000000
theorem Ky(y:ay)(a:List ay):cY [] (y::a)=cY [y] a:=by rw[cY];rfl
theorem Dm{α:Type}[Inhabited α]{xs:List α}(h:xs≠[]):xs.getLast? = some (nth xs (xs.length - 1)):=by
 have a:0<xs.length:=List.length_pos_iff.2 h;rw[List.getLast?_eq_getElem?,ah ω]
theorem JP{α:Type}{xs:List α}(h:xs≠[])(v:α):xs.dropLast++[v]=xs.set (xs.length - 1) v:=by
 have b:0<xs.length:=List.length_pos_iff.2 h;refine List.ext_getElem (by simp;omega) λi a c=>?_
 rw[List.getElem_set];by_cases e:xs.length - 1=i
 ·subst e
  rw[C8 rfl,List.getElem_append_right (by simp)];simp
 ·rw[C7 e,List.getElem_append_left (by simp at a |-;omega),List.getElem_dropLast]
theorem KQ{out:List ay}{y:ay}{a:List ay}(h:out≠[])(e:(nth out (out.length - 1)).At+(nth out (out.length - 1)).Len=y.At):cY out (y::a)=cY (out.set (out.length - 1) ⟨(nth out (out.length - 1)).At,(nth out (out.length - 1)).Len+y.Len⟩) a:=by
 rw[cY,Dm h];simp only;rw[C8 e,JP h]
theorem MM{out:List ay}{y:ay}{a:List ay}(h:out≠[])(e:¬(nth out (out.length - 1)).At+(nth out (out.length - 1)).Len=y.At):cY out (y::a)=cY (out++[y]) a:=by
 rw[cY,Dm h];simp only;rw[C7 e]
theorem rx(xs:List ay)(B:xs.length<=4194304)(o:∀y∈xs,0<=y.At/\1<=y.Len/\y.At+y.Len<=1048576):ao Tryz.prog 404 false [.val none (bk .imm xs)] .one (bk .own (cY [] xs)):=by
 refine fO 63 [(6,21,[15,16,17,18,19,20,21,22,23,24,25,26,27,28,29,30,31,32,33,34,35]),(7,15,[38,39,40,41,42,43,44,45,46,47,48,49,50,51,52])] Tryz.func404 rfl ?_ (.inr (kJ _))
 repeat'(first|refine gO ?_|fail)
 (conv=>whnf)
 refine CC (ι:=Nat × List ay) (λq=>[(0,.hold .one (bk .imm xs)),(3,.hold .one (bk .own q.2)),(4,.hold .one [I ((q.1:Nat):Int)])]) (λq=>q.1<=xs.length/\cY q.2 (xs.drop q.1)=cY [] xs/\q.2.length<=q.1/\∀y∈q.2,0<=y.At/\1<=y.Len/\y.At+y.Len<=1048576) (λq=>xs.length - q.1) ((0,[])) ?_ (⟨R0 _,rfl,R2 _,λy g=>by cases g⟩) λq p=>?_
 ·exact wB
 obtain⟨i,out⟩:=q;obtain⟨t,b,j,c⟩:=p;simp only at t b j c |-;by_cases k:i<xs.length
 ·have l:=ah k
  have g:=o _ (am k);rw[gB k]at b;by_cases h:out=[]
  ·subst h
   rw[Ky]at b;have D:([]:List ay).length=0:=rfl
   repeat'(first|refine gD ?_|(conv=>whnf);first|with_reducible refine CA (aa l) ?_|refine Ln.mk (show List.length _=0 from rfl) ?_|refine CT (λr u=>by cases u) rfl (by simp) (by decide) rfl ?_)
   ((conv=>whnf)
    refine CB (i+1,[nth xs i]) ⟨(by simp only;omega),b,(by simp),(λy a=>by rw[Z0.1 a];exact g)⟩ (by simp only;omega) ?_
    (repeat'(first|exact trivial|rfl|exact CH rfl (CH (T0 (C.s dw.own) (by simp[ay.enc])) trivial)|refine CH ?_ ?_)))
  ·have n:0<out.length:=List.length_pos_iff.2 h
   have d:out[((out.length:Int) - 1).toNat]? = some (nth out (out.length - 1)):=by
    rw[show((out.length:Int) - 1).toNat=out.length - 1 by omega];exact ah ω
   have w:=c _ (am (xs:=out) (i:=out.length - 1) ω);by_cases e:(nth out (out.length - 1)).At+(nth out (out.length - 1)).Len=(nth xs i).At
   ·rw[KQ h e]at b
    repeat'(first|refine gA ?_|(conv=>whnf);first|with_reducible refine CA (aa l) ?_|refine CJ ω (aa d) ?_|refine CF rfl (aa d) rfl ?_|refine CL rfl rfl (aa d) rfl (X0 rfl) rfl ?_)
    ((conv=>whnf)
     refine CB (i+1,out.set (out.length - 1) ⟨(nth out (out.length - 1)).At,(nth out (out.length - 1)).Len+(nth xs i).Len⟩) ⟨(by simp only;omega),b,(by simp only;rw[C1];omega),(λy a=>?_)⟩ (by simp only;omega) ?_)
    ·rcases z5 a with a|rfl
     ·exact c y a
     ·simp only;omega
    ·(repeat'(first|exact trivial|rfl|exact CH rfl (CH (T0 (C.s dw.own) (by rw[show((out.length:Int) - 1).toNat=out.length - 1 by omega,Z4];rfl)) trivial)|refine CH ?_ ?_))
   ·rw[MM h e]at b
    repeat'(first|refine gA ?_|(conv=>whnf);first|with_reducible refine CA (aa l) ?_|refine CJ ω (aa d) ?_|refine CF rfl (aa d) rfl ?_|refine CT (aI λ_=>rfl) rfl (by simp;omega) (by decide) rfl ?_)
    ((conv=>whnf)
     refine CB (i+1,out++[nth xs i]) ⟨(by simp only;omega),b,(by simp;omega),(λy a=>?_)⟩ (by simp only;omega) ?_)
    ·rcases Q2.1 a with a|a
     ·exact c y a
     ·rw[Z0.1 a];exact g
    ·(repeat'(first|exact trivial|rfl|exact CH rfl (CH (T0 (C.s dw.own) (by simp[ay.enc])) trivial)|refine CH ?_ ?_))
 ·obtain rfl:i=xs.length:=ω
  rw[List.drop_length]at b
  repeat'(first|refine gD ?_|fail)
  rw[<-b];rfl
theorem yz(r y:ay)(a:List ay)(put:Bool):l8 r (y::a) put=if ovl y r then none else if !put&&decide (y.At > r.At) then(l8 r a true).map λt=>r::y::t else(l8 r a put).map λt=>y::t:=by rw[l8]
theorem kX(pages:Int)(xs:List ay)(r:ay)(H:0<=pages/\pages<=1048576)(J:gd xs):ao Tryz.prog 387 false [.val none [I pages],.val none (bk .imm xs),.val (some 2) (ay.enc .imm r)] (.tup [none,none]) (zC xs (bX pages xs r)):=by
 have w:=J.1;have n:=kW pages xs H J;have E:=wQ pages r H;cases o:bx pages xs<;>rw[o]at n
 ·rw[show bX pages xs r=none by unfold bX;rw[C7 (by rw[o];simp)]]
  refine fO 82 [] Tryz.func387 rfl ?_ (.inr (jL _ _))
  repeat'(first|refine gO ?_|(conv=>whnf);first|refine C6 (n) ?_|refine CM (λ_=>rfl) (λ_=>rfl) w (by decide) ?_)
  rfl
 cases k:rangeIn pages r<;>rw[k]at E
 ·rw[show bX pages xs r=none by unfold bX;rw[C7 (by rw[k];simp)]]
  refine fO 82 [] Tryz.func387 rfl ?_ (.inr (jL _ _))
  repeat'(first|refine gO ?_|(conv=>whnf);first|refine C6 (n) ?_|refine C6 (E) ?_|refine CM (λ_=>rfl) (λ_=>rfl) w (by decide) ?_)
  rfl
 obtain⟨K,L⟩:=uo o;have p:0<=r.At/\1<=r.Len/\r.At+r.Len<=pages:=by
  unfold rangeIn at k;rw[C0]at k;omega
 rw[show bX pages xs r=(l8 r xs false).map (cY []) by unfold bX;rw[C8 ⟨o,k⟩,yJ (pages:=pages) K p.2.1 λz M=>by simp at M]];refine fO 82 [] Tryz.func387 rfl ?_ (.inr (jL _ _))
 repeat'(first|refine gO ?_|(conv=>whnf);first|refine C6 (n) ?_|refine C6 (E) ?_|refine CM (λ_=>rfl) (λ_=>rfl) w (by decide) ?_)
 (conv=>whnf)
 refine CC (ι:=Nat × List ay × Bool) (λq=>[(1,.hold .one (bk .imm xs)),(5,.hold .box (ay.enc .imm r)),(8,.hold .one (bk .own xs)),(9,.hold .one (bk .own q.2.1)),(10,.hold .one [B (q.2.2)]),(11,.hold .one [I ((q.1:Nat):Int)])]) (λq=>q.1<=xs.length/\(l8 r (xs.drop q.1) q.2.2).map (q.2.1++·)=l8 r xs false/\q.2.1.length<=q.1+q.2.2.toNat/\(∀y∈q.2.1,0<=y.At/\1<=y.Len/\y.At+y.Len<=1048576)) (λq=>xs.length - q.1) ((0,[],false)) ?_ (⟨R0 _,by simp,by simp,by simp⟩) λq g=>?_
 ·exact wB
 obtain⟨i,out,put⟩:=q;obtain⟨N,b,d,e⟩:=g;simp only at N b d e |-;have l:0<=r.At/\1<=r.Len/\r.At+r.Len<=1048576:=ω
 by_cases F:i<xs.length
 ·have u:=ah F
  have O:=L _ (am F);have h:0<=(nth xs i).At/\1<=(nth xs i).Len/\(nth xs i).At+(nth xs i).Len<=1048576:=ω
  rw[gB F]at b;by_cases j:ovl (nth xs i) r=true
  ·rw[<-b]
   rw[yz,C8 j];unfold ovl at j;rw[C0]at j
   repeat'(first|refine gD ?_|(conv=>whnf);first|with_reducible (first|refine CA (aa u) ?_|refine Bf.D (λg=>?_) (λg=>?_)))
   rfl
  ·rw[yz,C7 j]at b
   unfold ovl at j;rw[C0]at j;cases put with
   | false=>
    have d:out.length<=i:=by simpa using d
    by_cases P:(nth xs i).At > r.At
    ·rw[C8 (by simp;omega),Option.map_map]at b
     repeat'(first|refine gD ?_|(conv=>whnf);first|with_reducible (first|refine CA (aa u) ?_|refine Bf.D (λg=>?_) (λg=>?_))|refine CT (aI λ_=>rfl) rfl (by simp;omega) (by decide) rfl ?_|refine CT (λr p=>by simp at p;rcases p with⟨a,_,rfl⟩|rfl<;>rfl) rfl (by simp;omega) (by decide) rfl ?_)
     ((conv=>whnf)
      refine CB (i+1,out++[r,nth xs i],true) ⟨(by simp only;omega),(by rw[<-b];congr 1;funext t;simp),(by simp;omega),(λy c=>?_)⟩ (by simp only;omega) ?_)
     ·rcases Q2.1 c with c|c
      ·exact e y c
      ·rcases List.mem_cons.1 c with rfl|c
       ·exact l
       ·rw[Z0.1 c];exact h
     ·(repeat'(first|exact trivial|rfl|exact CH rfl (CH (T0 (C.s dw.own) (by simp[ay.enc])) trivial)|refine CH ?_ ?_))
    ·rw[C7 (by simp;omega),Option.map_map]at b
     repeat'(first|refine gD ?_|(conv=>whnf);first|with_reducible (first|refine CA (aa u) ?_|refine Bf.D (λg=>?_) (λg=>?_))|refine CT (aI λ_=>rfl) rfl (by simp;omega) (by decide) rfl ?_)
     ((conv=>whnf)
      refine CB (i+1,out++[nth xs i],false) ⟨(by simp only;omega),(by rw[<-b];congr 1;funext t;simp),(by simp;omega),(λy c=>?_)⟩ (by simp only;omega) ?_)
     ·rcases Q2.1 c with c|c
      ·exact e y c
      ·rw[Z0.1 c];exact h
     ·(repeat'(first|exact trivial|rfl|exact CH rfl (CH (T0 (C.s dw.own) (by simp[ay.enc])) trivial)|refine CH ?_ ?_))
   | true=>
    have d:out.length<=i+1:=d;rw[C7 (by simp),Option.map_map]at b;by_cases Q:(nth xs i).At<r.At+r.Len
    all_goals
     repeat'(first|refine gD ?_|(conv=>whnf);first|with_reducible (first|refine CA (aa u) ?_|refine Bf.D (λg=>?_) (λg=>?_))|refine CT (aI λ_=>rfl) rfl (by simp;omega) (by decide) rfl ?_)
     ((conv=>whnf)
      refine CB (i+1,out++[nth xs i],true) ⟨(by simp only;omega),(by rw[<-b];congr 1;funext t;simp),(by simp;omega),(λy c=>?_)⟩ (by simp only;omega) ?_)
     ·rcases Q2.1 c with c|c
      ·exact e y c
      ·rw[Z0.1 c];exact h
     ·(repeat'(first|exact trivial|rfl|exact CH rfl (CH (T0 (C.s dw.own) (by simp[ay.enc])) trivial)|refine CH ?_ ?_))
 ·obtain rfl:i=xs.length:=ω
  rw[List.drop_length]at b;cases put with
  | false=>
   have d:out.length<=xs.length:=by simpa using d
   rw[<-b];have G:=rx (out++[r]) (by simp;omega) (λy c=>by
     rcases Q2.1 c with c|c
     · exact e y c
     · rw[Z0.1 c];exact l)
   repeat'(first|refine gD ?_|(conv=>whnf);first|refine CT (aI λ_=>rfl) rfl (by simp;omega) (by decide) (show(out++[r]).map (ay.enc .own)=_ by simp[ay.enc]) ?_|refine CD (G) ⟨⟨rfl,d5 _⟩,trivial⟩ ?_)
   rfl
  | true=>
   have d:out.length<=xs.length+1:=d;rw[<-b];have G:=rx out ω e
   repeat'(first|refine gD ?_|(conv=>whnf);first|refine CD (G) ⟨⟨rfl,d5 _⟩,trivial⟩ ?_)
   simp[l8,zC]
   rfl
theorem shl64{i:Int}(d:0<=i/\i<=15):IntKind.i64.wrap (1*2 ^ min i.toNat IntKind.i64.bits)=2 ^ i.toNat/\0<=(2:Int) ^ i.toNat/\(2:Int) ^ i.toNat<=32768:=by
 have a:min i.toNat IntKind.i64.bits=i.toNat:=Nat.min_eq_left (show i.toNat<=64 by omega);have b:(0:Int)<=2 ^ i.toNat/\(2:Int) ^ i.toNat<=32768:=by
  have:(2:Nat) ^ i.toNat<=2 ^ 15:=Nat.pow_le_pow_right (by decide) ω;have c:((2 ^ i.toNat:Nat):Int)=(2:Int) ^ i.toNat:=Int.natCast_pow 2 i.toNat;rw[<-c];exact⟨Int.natCast_nonneg _,Int.ofNat_le.2 this⟩
 rw[a,Int.one_mul];exact⟨eS ω ω,b⟩
theorem clr64{b i:Int}(a:0<=b/\b<=65535):IntKind.i64.wrap ((BitVec.ofInt IntKind.i64.bits b &&& ~~~BitVec.ofInt IntKind.i64.bits (2 ^ i.toNat)).toNat:Nat)=wj b i:=by
 have:=Am (i:=i) a;unfold wj at this |-;exact eS ω ω
theorem sI(b i:Int)(c:0<=b/\b<=65535)(d:0<=i/\i<=15):ao Tryz.prog 405 false [.val none [I b],.val none [I i]] .one [I (wj b i)]:=by
 have a:=oJ b i;rw[O0 ω]at a;have e:IntKind.u64.wrap i=i:=by unfold IntKind.wrap;simp[IntKind.signed,IntKind.bits];omega
 refine fO 15 [] Tryz.func405 rfl ?_
 repeat'(first|refine gO ?_|(conv=>whnf);first|refine C9 ?_|refine C6 (a) ?_|refine CK ω ?_|refine CI e ?_|refine CI (shl64 d).1 ?_|refine CI (clr64 c) ?_)
 rfl
theorem sN(b i:Int)(c:0<=b/\b<=65535)(d:0<=i/\i<=15):ao Tryz.prog 298 false [.val none [I b],.val none [I i]] .one [I (wj b i)]:=by
 have a:=si b i;rw[O0 ω]at a;refine fO 14 [] Tryz.func298 rfl ?_
 repeat'(first|refine gO ?_|(conv=>whnf);first|refine C9 ?_|refine C6 (a) ?_|refine CK ω ?_|refine CI (shl64 d).1 ?_|refine CI (clr64 c) ?_)
 rfl
theorem GK{s:au}{k:Int}(a:aX s.Bits k=true):0<=k/\k<=15:=by
 have:=(fN _ _).1 a;omega
theorem ym(s:au)(k:Int)(a:bc s=true)(b:aX s.Bits k=true):ao Tryz.prog 391 false [.val (some 3) (au.enc .imm s),.val none [I k]] (.tup [some 3,none]) (au.enc .own (jJ s k)++[B true]):=by
 have e:=dS a;have g:=GK b;have c:=fZ s;have d:=ir s.Bits k ω;rw[a]at c;rw[b]at d;refine fO 23 [] Tryz.func391 rfl ?_ (.inr (aM (au.enc_fr _) ⟨trivial,trivial⟩))
 repeat'(first|refine gO ?_|(conv=>whnf);first|refine C9 ?_|refine C6 (c) ?_|refine C6 (d) ?_|refine C6 (sI s.Bits k e g) ?_)
 rfl
theorem xP(s:au)(k:Int)(a:bc s=true)(b:aX s.Bits k=true):ao Tryz.prog 238 false [.val (some 3) (au.enc .imm s),.val none [I k]] (.tup [some 3,none]) (au.enc .own (jJ s k)++[B true]):=by
 have e:=dS a;have g:=GK b;have c:=gS s;have d:=lW s.Bits k ω;rw[a]at c;rw[b]at d;refine fO 23 [] Tryz.func238 rfl ?_ (.inr (aM (au.enc_fr _) ⟨trivial,trivial⟩))
 repeat'(first|refine gO ?_|(conv=>whnf);first|refine C9 ?_|refine C6 (c) ?_|refine C6 (d) ?_|refine C6 (sN s.Bits k e g) ?_)
 rfl
theorem uS(c:aA)(k:Int)(b:aA.sml c):ao Tryz.prog 340 false [.val (some 1) (aA.enc .imm c),.val none [I k]] .one [B (bo c&&decide (0<=k/\k<=3))]:=by
 have a:=mw c b;cases e:bo c<;>rw[e]at a
 all_goals
  refine fO 11 [] Tryz.func340 rfl ?_
  repeat'(first|refine gO ?_|(conv=>whnf);first|refine C9 ?_|refine C6 (a) ?_|refine C6 (aE k 0 3) ?_)
  all_goals rfl
theorem Ff(c:aA)(k:Int)(a:aA.sml c):ao Tryz.prog 237 false [.val (some 1) (aA.enc .imm c),.val none [I k]] .one [B (decide (0<=k/\k<=3)&&bo c)]:=by
 have b:=lY c a;refine fO 11 [] Tryz.func237 rfl ?_
 repeat'(first|refine gO ?_|(conv=>whnf);first|with_reducible refine Bf.D (λd=>?_) (λd=>?_)|refine C9 ?_|refine C6 (b) ?_|refine C6 (eB k) ?_)
 all_goals exact T0 (λz=>[B z]) ((by simp[*]))
theorem oz{c:aA}{k:Nat}(a:k<c.Lists.length):c.Lists[k]? = some (nth c.Lists k):=ah a
theorem DU{c:aA}(h:bo c=true)(k:Nat)(a:Int):aA.sml (jo c k a):=by
 obtain⟨f,d⟩:=dL h;refine⟨by simp only[jo,C1];omega,λl b=>?_⟩;rcases z5 b with b|rfl
 ·have:=d l b;show l.length<=1048576;omega
 ·show(nth c.Lists k++[a]).length<=1048576
  by_cases e:k<c.Lists.length
  ·have:=d _ (am e);simp;omega
  ·have:nth c.Lists k=[]:=by unfold nth;rw[C2,Z1 ω];rfl
   rw[this];simp
theorem vY(c:aA)(k:Nat)(a:Int):aA.enc .own (jo c k a)=[.s .own ((c.Lists.map (aD .own)).set k (aD .own (nth c.Lists k++[a])))]:=by simp[aA.enc,jo,Z4]
theorem dn{α:Type}{f:α->List C}{xs:List α}{k:Nat}{y:α}{r:List C}(h:xs[k]? = some y):((xs.map f).set k r)[k]? = some r:=by
 rw[v3 (by rw[W0];exact(V1.1 h).1)]
theorem ew{α β:Type}(f:α->β)(xs:List α)(y:α):(xs++[y]).map f=xs.map f++[f y]:=by simp
def vD(c:aA)(k a:Int):List C:=aA.enc .own ((cput c k a).getD c)++[B (cput c k a).isSome]
theorem DY(c:aA)(k a:Int):gr (vD c k a):=aM (aA.enc_fr _) ⟨trivial,trivial⟩
theorem xU(c:aA)(k:Nat)(a:Int)(h:bo c=true)(B:k<=3):ao Tryz.prog 403 false [.val (some 1) (aA.enc .imm c),.val none [I (k:Nat)],.val none [I a]] (.tup [some 1,none]) (vD c k a):=by
 obtain⟨D,q⟩:=dL h;have r:aA.sml c:=⟨ω,λl u=>by have:=q l u;show l.length<=1048576;omega⟩
 have n:=uS c k r;rw[h,O0 ω]at n;have t:=ip c r;have d:=DU h k a;have o:=mw (jo c k a) d;have w:=ip (jo c k a) d;have b:=oz (c:=c) (k:=k) ω;have y:=q _ (am (xs:=c.Lists) (i:=k) ω);have j:=CY (jo c k a);rw[vY]at j;have g:=DY c k a;unfold vD at g |-;cases e:bo (jo c k a)<;>rw[e]at o
 ·have p:cput c k a=none:=by unfold cput;rw[C7 λx=>by have:=x.2.2.2;rw[I2,e]at this;cases this]
  rw[p]at g |-;refine fO 35 [(4,267,[16,17,18,19,20,21,22,23,24,25,27,0,1,2,3,4,5,6,7,8,9,10,1000,1001,1002,11,12])] Tryz.func403 rfl ?_ (.inr g)
  repeat'(first|refine gO ?_|(conv=>whnf);first|with_reducible refine CA (aa b) ?_|refine C9 ?_|refine CA (dn b) ?_|refine CF rfl (dn b) rfl ?_|refine C6 (n) ?_|refine C6 (t) ?_|refine Lq.one rfl rfl (aa b) rfl (X0 rfl) rfl rfl ?_|refine CF rfl (aa b) rfl ?_|refine CL rfl rfl (dn b) rfl (X0 rfl) (show [C.s dw.own ((c.Lists.map (aD .own)).set k (aD .own (nth c.Lists k++[a])))]=_ from by simp only[List.set_cons_zero,List.set_set,I2];rfl) ?_|refine CT (aI λ_=>rfl) rfl (by simp;omega) (by decide) (ew _ _ _) ?_|refine CD (o) ⟨⟨rfl,j⟩,trivial⟩ ?_)
  rfl
 ·have p:cput c k a=some (jo c k a):=by unfold cput;rw[C8 ⟨h,ω,ω,by rw[I2];exact e⟩,I2]
  rw[p]at g |-;refine fO 35 [(4,267,[16,17,18,19,20,21,22,23,24,25,27,0,1,2,3,4,5,6,7,8,9,10,1000,1001,1002,11,12])] Tryz.func403 rfl ?_ (.inr g)
  repeat'(first|refine gO ?_|(conv=>whnf);first|with_reducible refine CA (aa b) ?_|refine C9 ?_|refine CA (dn b) ?_|refine CF rfl (dn b) rfl ?_|refine C6 (n) ?_|refine C6 (t) ?_|refine Lq.one rfl rfl (aa b) rfl (X0 rfl) rfl rfl ?_|refine CF rfl (aa b) rfl ?_|refine CL rfl rfl (dn b) rfl (X0 rfl) (show [C.s dw.own ((c.Lists.map (aD .own)).set k (aD .own (nth c.Lists k++[a])))]=_ from by simp only[List.set_cons_zero,List.set_set,I2];rfl) ?_|refine CT (aI λ_=>rfl) rfl (by simp;omega) (by decide) (ew _ _ _) ?_|refine CD (o) ⟨⟨rfl,j⟩,trivial⟩ ?_|refine CD (w) ⟨⟨rfl,j⟩,trivial⟩ ?_)
  rfl
theorem D5(o:bm)(a:Int):ao Tryz.prog 102 false [.val (some 4) (bm.enc .imm o),.ptr [I a]] .one [B (fL a o)]:=by
 refine fO 8 [] Tryz.func102 rfl ?_
 repeat'(first|refine gO ?_|(conv=>whnf);first|refine C9 ?_)
 exact T0 (λz=>[B z]) ((by unfold fL;rw[Z3];simp))
theorem pW(h:ab)(a:Int)(c:h.Objs.length<=1048576):ao Tryz.prog 29 false [.val (some 24) (ab.enc .imm h),.val none [I a]] .one [I (cX (fL a) h.Objs)]:=by
 refine fO 9 [] Tryz.func29 rfl ?_
 repeat'(first|refine gO ?_|(conv=>whnf);first|refine C9 ?_|refine Cq.mk (xW (some 4) (bm.enc .imm) (fL a) h.Objs) (D5 default a).has (λL k rcs b=>?_) ?_|refine C6 (p8 h.Objs (fL a) ω) ?_)
 ·obtain⟨y,-,rfl,rfl,rfl⟩:=b
  exact D5 y a
 ·rfl
theorem mS(xs:List ax)(pr:ax->Bool)(g:xs.length<=9223372036854775807):ao Tryz.prog 132 false [.val none (bC .imm xs),.fn (nk Tryz.prog (xW (some 3) (ax.enc .imm) pr xs))] .one [I (cX pr xs)]:=by
 refine fO 19 [] Tryz.func132 rfl ?_
 repeat'(first|refine gO ?_|(conv=>whnf);first|refine C9 ?_)
 (conv=>whnf)
 refine CC (ι:=Nat) (λi=>[(0,.hold .one (bC .imm xs)),(1,.fv (nk Tryz.prog (xW (some 3) (ax.enc .imm) pr xs))),(7,.hold .one [I xs.length]),(8,.hold .one [I (i:Nat)])]) (λi=>i<=xs.length/\∀(j:Nat)(z:ax),j<i->xs[j]? = some z->pr z=false) (λi=>xs.length - i) 0 ?_ ⟨R0 _,λj z h=>ω⟩ λi d=>?_
 ·exact wB
 ·obtain⟨d,b⟩:=d
  by_cases c:i<xs.length
  ·obtain⟨y,a⟩ : ∃y,xs[i]? = some y:=⟨_,U1 c⟩
   repeat'(first|refine gD ?_|(conv=>whnf);first|with_reducible refine CA (aa a) ?_|refine C9 ?_|refine Fv.mk (k:=.one) (rcs:=[B (pr y)]) ⟨y,Q1 a,rfl,rfl,rfl⟩ ?_|refine Bf.P (λe=>?_) (λe=>?_))
   ·exact T0 (λz=>[I z]) (dN a ‹_› b).symm
   ·(conv=>whnf)
    refine CB (i+1) ⟨ω,di a (by assumption) b⟩ ω ?_;exact wB
  ·repeat'(first|refine gD ?_|(conv=>whnf);first|refine C9 ?_)
   exact T0 (λz=>[I z]) (fT ω b).symm
def b8(x:ab):List C:=[.s .own (x.Kernel.Machine.Frames.Cells.map (aD .own)),.s .own (x.Kernel.Machine.Frames.Used.map (rB .own)),.s .own (x.Kernel.Machine.Table.Entries.map (bi.enc .own)),I x.Kernel.Calls,.s .own (x.Kernel.Refuse.map (rI .own)),.s .own (x.Free.map (ay.enc .own)),.s .own (x.Spans.map (au.enc .own)),.s .own (x.Larges.map (ax.enc .own)),.s .own (x.Objs.map (bm.enc .own)),.s .own (x.Caches.map (aA.enc .own)),.s .own (x.Mail.Buffers.map (bN .own)),.s .own (x.Mail.Inbox.map (aD .own)),I x.Quar.Room,.s .own (x.Quar.Lst.map (aL.enc .own)),I x.Seed,I x.Clock,I x.Limit,I x.Next,B x.Meshing,I x.Job.Plan.Keep,I x.Job.Plan.Move,.s .imm (x.Job.Plan.Cells.map (rI .imm)),I x.Job.Phase,I x.Job.Next]
theorem bA(x:ab):dA (b8 x)=ab.enc .imm x:=by simp[dA,b8,ab.enc,CY,bi.enc_fz,ax.enc_fz,bm.enc_fz,ay.enc_fz,au.enc_fz,aL.enc_fz,rB,pY,rI,en,<-ca,W4]
def xi(x:cj):List C:=[I x.Plan.Keep,I x.Plan.Move,.s .imm (x.Plan.Cells.map (rI .imm)),I x.Phase,I x.Next]
theorem Pu.two{g a:List C}{off i k j h l c:Nat}{cs:List C}{K:List C->Prop}{o d:dw}{rows rows2:List (List C)}{r f:List C}(h1:g[off]? = some (.s o rows))(u:o.mine=true)(n:rows[i]? = some r)(w:r.length=k)(p:r[j]? = some (.s d rows2))(y:d.mine=true)(q:rows2[h]? = some f)(A:f.length=l)(E:c+cs.length<=l)(B:a=g.set off (.s o (rows.set i (r.set j (.s d (rows2.set h (splice f c cs)))))))(D:K a):Pu g off [(i,k,j),(h,l,c)] cs K:=by
 have t:o≠.imm:=λe=>by subst e;cases u
 have b:d≠.imm:=λe=>by subst e;cases y
 refine Pu.mk (r:=f) (j:=c) (by simp[bS,h1,n,w,p,q,A]) (by simp[ju,h1,n,t,p,q,b]) ω (by rw[B];simp[fp,h1,n,p,q]) D
theorem uD(x:List au):fz (.s .own (x.map (au.enc .own)))=.s .imm (x.map (au.enc .imm)):=(List.cons.inj (dE x)).1
theorem rC(x:List ax):fz (.s .own (x.map (ax.enc .own)))=.s .imm (x.map (ax.enc .imm)):=(List.cons.inj (gU x)).1
theorem ul(x:List bm):fz (.s .own (x.map (bm.enc .own)))=.s .imm (x.map (bm.enc .imm)):=(List.cons.inj (HL x)).1
theorem Ap.dele{α:Type}{e:α->List C}{xs:List α}{i sz by_:Nat}{K:List (List C)->Prop}(a:∀y,(e y).length=sz)(b:∀y,aV (e y)=true)(h:xs.length<=1048576)(c:by_<=1000)(d:K ((Ab.dele xs i).map e)):Ap true ((xs.take i).map e) ((xs.drop (i+1)).map e) sz by_ K:=by
 have f:(xs.take i).length+(xs.drop (i+1)).length<=2097152:=by rw[I1,X2];omega
 refine CQ (aI a) (aI a) (λ_ r g=>by obtain⟨y,-,rfl⟩:=U3.1 g;exact b y) (by rw[W0,W0];omega) (by rw[W0,W0];exact t4 (Nat.mul_le_mul f c) (by decide)) ?_ d;unfold Ab.dele;rw[V4]
theorem Hm(h:ab)(p:Int)(a:aG.sml h.Kernel.Machine.Table):ao Tryz.prog 348 false [.ptr (ab.enc .imm h),.val none [I p]] .one [I (ar h.Kernel.Machine.Table p).Mode]:=by
 refine fO 13 [] Tryz.func348 rfl ?_
 repeat'(first|refine gO ?_|(conv=>whnf);first|refine C9 ?_|refine C6 (cT h.Kernel.Machine.Table p a) ?_)
 rfl
def Nz(h:ab):List C:=(b8 h).drop 5
theorem PC(h:ab)(k:af):b8 {h with Kernel:=k} = af.enc .own k++Nz h:=rfl
theorem By(h:ab):Nz h=[.s .own (h.Free.map (ay.enc .own)),.s .own (h.Spans.map (au.enc .own)),.s .own (h.Larges.map (ax.enc .own)),.s .own (h.Objs.map (bm.enc .own)),.s .own (h.Caches.map (aA.enc .own)),.s .own (h.Mail.Buffers.map (bN .own)),.s .own (h.Mail.Inbox.map (aD .own)),I h.Quar.Room,.s .own (h.Quar.Lst.map (aL.enc .own)),I h.Seed,I h.Clock,I h.Limit,I h.Next,B h.Meshing,I h.Job.Plan.Keep,I h.Job.Plan.Move,.s .imm (h.Job.Plan.Cells.map (rI .imm)),I h.Job.Phase,I h.Job.Next]:=rfl
theorem Jr(h:ab)(f:Int)(a:aG.sml h.Kernel.Machine.Table)(b:0<=f/\f<h.Kernel.Machine.Frames.Cells.length/\f<h.Kernel.Machine.Frames.Used.length) :
  aP Tryz.prog 349 false [.ptr (b8 h),.val none [I f]] [.ptr (b8 {h with Kernel:=gn h.Kernel f}),.val none [I f]] (.tup []) []:=by
 have c:=ah (xs:=h.Kernel.Machine.Frames.Cells) (i:=f.toNat) ω;have d:=ah (xs:=h.Kernel.Machine.Frames.Used) (i:=f.toNat) ω;rw[PC h (gn h.Kernel f)];by_cases e:(pagesOn h.Kernel.Machine.Table f).length=0
 ·rw[sr e,By]
  refine fM 30 [] [(2,8,[21,22,23,24,25,26,27,28])] [(0,0),(0,0)] Tryz.func349 rfl (λu q=>?_) (.inr trivial)
  repeat'(first|refine gA ?_|(conv=>whnf);first|with_reducible (first|refine CJ b.1 (aa d) ?_|refine CJ b.1 (aa c) ?_)|refine C9 ?_|refine CD (gi h.Kernel.Machine.Table f a) ⟨⟨rfl,CV h.Kernel.Machine.Table⟩,⟨rfl,rfl⟩,trivial⟩ ?_|refine CL rfl rfl (aa c) rfl (X0 rfl) rfl ?_|refine CL rfl rfl (aa d) rfl (X0 rfl) rfl ?_|refine Mk.mk 16 rfl rfl (by decide) (by decide) rfl ?_)
  refine CE rfl rfl ?_;exact wB
 ·rw[vQ e]
  show aP _ _ _ [.ptr (b8 h),_] [.ptr (b8 h),_] _ _;refine fM 30 [] [(2,8,[21,22,23,24,25,26,27,28])] [(0,0),(0,0)] Tryz.func349 rfl (λu q=>?_) (.inr trivial)
  repeat'(first|refine gA ?_|(conv=>whnf);first|refine C9 ?_|refine CD (gi h.Kernel.Machine.Table f a) ⟨⟨rfl,CV h.Kernel.Machine.Table⟩,⟨rfl,rfl⟩,trivial⟩ ?_)
  refine CE rfl rfl ?_;exact wB
theorem lQ(h:ab)(p:Int)(b:aB h.Kernel=true) :
  aP Tryz.prog 297 false [.ptr (b8 h),.val none [I p]] [.ptr (b8 {h with Kernel:=cr h.Kernel p}),.val none [I p]] .one [B (decide ((ar h.Kernel.Machine.Table p).Mode≠0))]:=by
 have k:=bp b;have c:=Hm h p k.1.2;by_cases a:(ar h.Kernel.Machine.Table p).Mode=0
 ·rw[show cr h.Kernel p=h.Kernel by unfold cr;rw[C8 a]]
  refine fM 32 [(349,[2,0])] [] [(0,0),(0,0)] Tryz.func297 rfl (λu q=>?_)
  repeat'(first|refine gA ?_|(conv=>whnf);first|refine C9 ?_|refine CD (c) ⟨bA h,⟨rfl,rfl⟩,trivial⟩ ?_)
  refine CE rfl ?_ ?_
  ·exact T0 (λz=>[B z]) ((by simp[a]))
  ·exact wB
 ·obtain⟨l,r,n,d,o⟩:=ch b a
  have j:=(aY.1 (aC.1 b).2.1).2.2.1;rw[show cr h.Kernel p=gn (jS h.Kernel p) (ar h.Kernel.Machine.Table p).Frame by unfold cr;rw[C7 a]];have e:=Jr {h with Kernel:=jS h.Kernel p} (ar h.Kernel.Machine.Table p).Frame (wi b) ⟨d,by simp only[jS];omega,by simp only[jS];omega⟩;rw[PC h (jS h.Kernel p),vj,By]at e;have g:=ah (xs:=h.Kernel.Machine.Table.Entries) (i:=p.toNat) ω;rw[n]at c e a |-;refine fM 32 [(349,[2,0])] [] [(0,0),(0,0)] Tryz.func297 rfl (λu q=>?_)
  repeat'(first|refine gA ?_|(conv=>whnf);first|with_reducible refine CJ l (aa g) ?_|refine C9 ?_|refine CD (c) ⟨bA h,⟨rfl,rfl⟩,trivial⟩ ?_|refine CL rfl rfl (aa g) rfl (X0 rfl) rfl ?_|refine CF rfl (aa g) rfl ?_|refine CG (e) (.inl rfl) ?_)
  refine CE rfl ?_ ?_
  ·exact T0 (λz=>[B z]) ((by simp[a]))
  ·exact wB
theorem t7(h:ab)(p:Int):ao Tryz.prog 290 false [.ptr (ab.enc .imm h),.val none [I p]] .one [B (eR h p)]:=by
 cases e:h.Meshing
 all_goals
  have b:ab.enc .imm h=(ab.enc .imm h).set 18 (B h.Meshing):=rfl;rw[e]at b;rw[b];refine fO 29 [] Tryz.func290 rfl ?_
  repeat'(first|refine gO ?_|(conv=>whnf);first|with_reducible (first|refine Bf.D (λa=>?_) (λa=>?_)|refine Bf.E (λa=>?_) (λa=>?_)|refine Bf.N (λa=>?_) (λa=>?_))|refine C9 ?_)
  all_goals exact T0 (λz=>[B z]) ((by unfold eR;rw[e];first|(simp[*];done)|(simp[*];rw[Z3];simp)))
theorem gw(h:ab):ao Tryz.prog 295 false [.ptr (ab.enc .imm h)] .one [I (dU h:Nat)]:=by
 refine fO 11 [] Tryz.func295 rfl ?_
 repeat'(first|refine gO ?_|(conv=>whnf);first|refine C9 ?_)
 rfl
theorem mn(h:ab)(a:Int)(k:h.Objs.length<=1048576):ao Tryz.prog 53 false [.val (some 24) (ab.enc .imm h),.val none [I a]] .one [I (cX (fL a) h.Objs)]:=by
 refine fO 22 [] Tryz.func53 rfl ?_
 repeat'(first|refine gO ?_|(conv=>whnf);first|refine C9 ?_)
 (conv=>whnf)
 refine CC (ι:=Nat) (λi=>[(1,.hold .one [I (a)]),(2,.hold .box (ab.enc .imm h)),(5,.hold .one [I ((i:Nat):Int)])]) (λi=>i<=h.Objs.length/\∀(j:Nat)(z:bm),j<i->h.Objs[j]? = some z->fL a z=false) (λi=>h.Objs.length - i) (0) ?_ (⟨R0 _,λj z l=>ω⟩) λi d=>?_
 ·exact wB
 obtain⟨d,c⟩:=d;by_cases g:i<h.Objs.length
 ·have b:=ah g
  by_cases e:(nth h.Objs i).Addr=a
  ·repeat'(first|refine gA ?_|(conv=>whnf);first|with_reducible refine CA (aa b) ?_|refine C9 ?_)
   exact T0 (λz=>[I z]) (dN b (by unfold fL;simp[e]) c).symm
  ·repeat'(first|refine gA ?_|(conv=>whnf);first|with_reducible refine CA (aa b) ?_|refine C9 ?_)
   ((conv=>whnf);refine CB (i+1) ⟨ω,di b (by unfold fL;simp[e]) c⟩ ω ?_;(exact wB))
 ·repeat'(first|refine gD ?_|(conv=>whnf);first|refine C9 ?_)
  exact T0 (λz=>[I z]) (fT ω c).symm
theorem mD(h:ab)(i:Nat)(b:i<h.Objs.length)(a:h.Objs.length<=1048576):aP Tryz.prog 382 false [.ptr (b8 h),.val none [I (i:Nat)]] [.ptr (b8 {h with Objs:=dele h.Objs i}),.val none [I (i:Nat)]] (.tup []) []:=by
 refine fM 23 [] [(0,273,[4,5,6,7,8,9,10,11,13,14,15,16,17,18,19,21,22,0,1,2,3,4,5,6,7,9,10,11,12,13,14,15,8,1000,1009,1010,1011,1012,1013,1014,1015,16,1000,17,18,19]),(1048576,0,[8])] [(0,0),(0,0)] Tryz.func382 rfl (λu q=>?_) (.inr trivial)
 repeat'(first|refine gO ?_|(conv=>whnf);first|refine C9 ?_|refine Fa.mk rfl (ul h.Objs) rfl ?_|refine CS i rfl (by rw[W0];omega) (aI λ_=>rfl) R3 ?_|refine CU (i+1) rfl (by rw[W0];omega) (aI λ_=>rfl) T3 ?_|refine CR (λ_=>rfl) (λ_=>rfl) (by rw[I1];omega) (by decide) ?_|refine Ap.dele (λ_=>rfl) (λ_=>rfl) a (by decide) ?_|refine CM (λ_=>rfl) (λ_=>rfl) (by rw[I1];omega) (by decide) ?_|refine C9 ?_)
 refine CE rfl rfl ?_;exact wB
theorem Ax(h:ab)(E:List Int)(i:Nat)(b:bn h E)(e:i<h.Spans.length):aP Tryz.prog 392 false [.ptr (b8 h),.val none [I (i:Nat)]] [.ptr (b8 (giveP h i)),.val none [I (i:Nat)]] (.tup []) []:=by
 have a:=b.lens;have g:=a.spans;have c:=ah e;have j:=lQ {h with Spans:=dele h.Spans i} (nth h.Spans i).Page b.ker;have d:=gw {h with Kernel:=cr h.Kernel (nth h.Spans i).Page,Spans:=dele h.Spans i};rw[show dU {h with Kernel:=cr h.Kernel (nth h.Spans i).Page,Spans:=dele h.Spans i} = dU h from(pL _ _).1]at d;have k:dU h<=32:=a.ents;have l:=kX (dU h:Nat) h.Free ⟨(nth h.Spans i).Page,1⟩ ⟨ω,ω⟩ ⟨by have:=a.free;omega,λ_ _=>trivial⟩;refine fM 52 [(297,[2,0])] [(1,273,[13,14,15,16,17,18,19,20,22,23,24,25,26,27,28,30,31,0,1,2,3,4,5,6,7,9,10,11,12,13,14,15,8,1000,1009,1010,1011,1012,1013,1014,1015,16,1000,17,18,19]),(1048577,0,[6]),(3,270,[38,39,40,41,42,43,44,45,47,37,48,49,50,51,0,1,2,3,4,5,6,7,8,1000,1001,1002,1003,1004,1005,1006,9,10,11,12,13,14,15,1012])] [(0,0),(0,0)] Tryz.func392 rfl (λu q=>?_) (.inr trivial)
 repeat'(first|refine gO ?_|(conv=>whnf);first|with_reducible refine CA (aa c) ?_|refine C9 ?_|refine Fa.mk rfl (uD h.Spans) rfl ?_|refine CS i rfl (by rw[W0];omega) (aI λ_=>rfl) R3 ?_|refine CU (i+1) rfl (by rw[W0];omega) (aI λ_=>rfl) T3 ?_|refine CR (λ_=>rfl) (λ_=>rfl) (by rw[I1];omega) (by decide) ?_|refine Ap.dele (λ_=>rfl) (λ_=>rfl) ω (by decide) ?_|refine CM (λ_=>rfl) (λ_=>rfl) (by rw[I1];omega) (by decide) ?_|refine CF rfl (aa c) rfl ?_|refine C9 ?_|refine CG (j) (.inl rfl) ?_|refine CD (d) ⟨bA _,trivial⟩ ?_|refine CD (l) ⟨⟨rfl,rfl⟩,⟨rfl,d5 h.Free⟩,⟨rfl,rfl⟩,trivial⟩ ?_)
 refine CE rfl rfl ?_;exact wB
theorem ww(h:ab)(i:Nat)(a:Int):b8 (clrS h i a)=(b8 h).set 6 (.s .own ((h.Spans.map (au.enc .own)).set i (au.enc .own (jJ (nth h.Spans i) (dv (nth h.Spans i) a))))):=by
 simp[b8,clrS,Z4]
theorem lZ{α β:Type}{f:α->β}{xs:List α}{i:Nat}{y:β}(a:i<xs.length):((xs.map f).set i y)[i]? = some y:=by
 rw[v3 (by rw[W0];exact a)]
theorem HV{s:au}(c:bc s=true){a:Int}(b:eI s a):iv s a=(dv s a,0):=by
 unfold iv;rw[C8 ((fU c).2 ⟨b.1,b.2.1⟩),b.2.2.1];rfl
theorem lR(h:ab)(E:List Int)(a:Int)(c:bn h (a::E)):aP Tryz.prog 364 false [.ptr (b8 h),.val none [I a]] [.ptr (b8 (freeA h a)),.val none [I a]] (.tup []) []:=by
 obtain⟨g,n,t⟩:=c.at (c.hin a (O1 ..));have d:=(c.hin a (O1 ..)).bd c;have B:=c.lens;have C:=B.spans;have e:=c.L.sok _ (am g);have k:=jb h (a / 16) ω;rw[t]at k;unfold freeA;generalize rD h a=i at g n k e;have b:=ah g;have o:=tD (nth h.Spans i) a ⟨ω,ω⟩;rw[HV e n]at o;have w:=ym (nth h.Spans i) (dv (nth h.Spans i) a) e n.2.2.2;have D:=c.give g n;have l:=t7 (clrS h i a) (nth h.Spans i).Page;rw[show eR (clrS h i a) (nth h.Spans i).Page=eR h (nth h.Spans i).Page from rfl]at l;have p:=Ax (clrS h i a) E i D (by unfold clrS;simp only[C1];exact g);have r:=bA (clrS h i a);rw[ww]at p r;have j:((h.Spans.map (au.enc .own)).set i (au.enc .own (jJ (nth h.Spans i) (dv (nth h.Spans i) a))))[i]? = some (au.enc .own (jJ (nth h.Spans i) (dv (nth h.Spans i) a))):=lZ g;unfold freeS;by_cases y:(jJ (nth h.Spans i) (dv (nth h.Spans i) a)).Bits=0
 ·cases F:eR h (nth h.Spans i).Page<;>rw[F]at l
  ·rw[C8 ⟨y,rfl⟩]
   refine fM 68 [(392,[2,0])] [(2,274,[26,27,28,29,30,31,32,33,34,35,36,37,38,39,25,40,41,42,0,1,2,3,4,5,6,7,8,9,10,11,12,13,14,15,16,17,18,1016])] [(0,0),(0,0)] Tryz.func364 rfl (λu q=>?_) (.inr trivial)
   repeat'(first|refine gA ?_|(conv=>whnf);first|with_reducible refine CI ((T0 _ (tdiv16 d.1)).trans (eS ω ω)) ?_|refine C9 ?_|refine CK (by decide) ?_|refine CD (k) ⟨⟨rfl,bA h⟩,⟨rfl,rfl⟩,trivial⟩ ?_|refine CA (aa b) ?_|refine CA j ?_|refine CF rfl (aa b) rfl ?_|refine CF rfl j rfl ?_|refine C6 (o) ?_|refine C6 (w) ?_|refine C9 ?_|refine CL rfl rfl (aa b) rfl (X0 rfl) rfl ?_|refine CD (l) ⟨r,⟨rfl,rfl⟩,trivial⟩ ?_|refine CG (p) (.inl rfl) ?_)
   refine CE rfl rfl ?_;exact wB
  ·rw[C7 λx=>by cases x.2]
   rw[ww];refine fM 68 [(392,[2,0])] [(2,274,[26,27,28,29,30,31,32,33,34,35,36,37,38,39,25,40,41,42,0,1,2,3,4,5,6,7,8,9,10,11,12,13,14,15,16,17,18,1016])] [(0,0),(0,0)] Tryz.func364 rfl (λu q=>?_) (.inr trivial)
   repeat'(first|refine gA ?_|(conv=>whnf);first|with_reducible refine CI ((T0 _ (tdiv16 d.1)).trans (eS ω ω)) ?_|refine C9 ?_|refine CK (by decide) ?_|refine CD (k) ⟨⟨rfl,bA h⟩,⟨rfl,rfl⟩,trivial⟩ ?_|refine CA (aa b) ?_|refine CA j ?_|refine CF rfl (aa b) rfl ?_|refine CF rfl j rfl ?_|refine C6 (o) ?_|refine C6 (w) ?_|refine C9 ?_|refine CL rfl rfl (aa b) rfl (X0 rfl) rfl ?_|refine CD (l) ⟨r,⟨rfl,rfl⟩,trivial⟩ ?_|refine CG (p) (.inl rfl) ?_)
   refine CE rfl rfl ?_;exact wB
 ·rw[C7 λx=>y x.1]
  rw[ww];refine fM 68 [(392,[2,0])] [(2,274,[26,27,28,29,30,31,32,33,34,35,36,37,38,39,25,40,41,42,0,1,2,3,4,5,6,7,8,9,10,11,12,13,14,15,16,17,18,1016])] [(0,0),(0,0)] Tryz.func364 rfl (λu q=>?_) (.inr trivial)
  repeat'(first|refine gA ?_|(conv=>whnf);first|with_reducible refine CI ((T0 _ (tdiv16 d.1)).trans (eS ω ω)) ?_|refine C9 ?_|refine CK (by decide) ?_|refine CD (k) ⟨⟨rfl,bA h⟩,⟨rfl,rfl⟩,trivial⟩ ?_|refine CA (aa b) ?_|refine CA j ?_|refine CF rfl (aa b) rfl ?_|refine CF rfl j rfl ?_|refine C6 (o) ?_|refine C6 (w) ?_|refine C9 ?_|refine CL rfl rfl (aa b) rfl (X0 rfl) rfl ?_|refine CD (l) ⟨r,⟨rfl,rfl⟩,trivial⟩ ?_|refine CG (p) (.inl rfl) ?_)
  refine CE rfl rfl ?_;exact wB
theorem Kl(h:ab)(t:Nat)(c:aA):b8 {h with Caches:=h.Caches.set t c} = (b8 h).set 9 (.s .own ((h.Caches.map (aA.enc .own)).set t (aA.enc .own c))):=by
 simp[b8,Z4]
theorem mW(h:ab)(E:List Int)(t:Nat)(a:Int)(b:bn h (a::E))(w:t<h.Caches.length):aP Tryz.prog 384 false [.ptr (b8 h),.val none [I (t:Nat)],.val none [I a]] [.ptr (b8 (recyc t h a)),.val none [I (t:Nat)],.val none [I a]] (.tup []) []:=by
 obtain⟨o,y,p⟩:=b.at (b.hin a (O1 ..));have g:=(b.hin a (O1 ..)).bd b;have B:=b.lens;have C:=B.spans;have j:=aF (b.L.sok _ (am o));have r:=b.cach _ (am w);have l:=jb h (a / 16) ω;rw[p]at l;have D:=lR h E a b;unfold recyc;generalize rD h a=i at o y l j;have n:=ah o;have k:=ah w;have d:=xU (nth h.Caches t) (nth h.Spans i).Class.toNat a r ω;rw[Int.toNat_of_nonneg j.2.2.1]at d;unfold vD at d;cases e:cput (nth h.Caches t) (nth h.Spans i).Class a with
 | none=>
  rw[e]at d;refine fM 46 [(364,[2,0])] [(1,277,[16,17,18,19,20,21,22,23,24,25,26,27,28,29,30,31,32,15,33,34,7,0,1,2,3,4,5,6,7,8,9,10,11,12,13,14,15,16,17,18,19,20,21,1019,22]),(3,6,[36,37,38,39,40,41])] [(0,0),(0,0),(0,0)] Tryz.func384 rfl (λu q=>?_) (.inr trivial)
  repeat'(first|refine gO ?_|(conv=>whnf);first|with_reducible refine CI ((T0 _ (tdiv16 g.1)).trans (eS ω ω)) ?_|refine C9 ?_|refine CK (by decide) ?_|refine CD (l) ⟨⟨rfl,bA h⟩,⟨rfl,rfl⟩,trivial⟩ ?_|refine CA (aa n) ?_|refine CA (aa k) ?_|refine CF rfl (aa n) rfl ?_|refine CF rfl (aa k) rfl ?_|refine CD (d) ⟨⟨rfl,CY _⟩,⟨rfl,rfl⟩,⟨rfl,rfl⟩,trivial⟩ ?_|refine C9 ?_|refine CG (D) (.inl rfl) ?_)
  refine CE rfl rfl ?_;exact wB
 | some c=>
  rw[e]at d;simp only;rw[Kl];refine fM 46 [(364,[2,0])] [(1,277,[16,17,18,19,20,21,22,23,24,25,26,27,28,29,30,31,32,15,33,34,7,0,1,2,3,4,5,6,7,8,9,10,11,12,13,14,15,16,17,18,19,20,21,1019,22]),(3,6,[36,37,38,39,40,41])] [(0,0),(0,0),(0,0)] Tryz.func384 rfl (λu q=>?_) (.inr trivial)
  repeat'(first|refine gO ?_|(conv=>whnf);first|with_reducible refine CI ((T0 _ (tdiv16 g.1)).trans (eS ω ω)) ?_|refine C9 ?_|refine CK (by decide) ?_|refine CD (l) ⟨⟨rfl,bA h⟩,⟨rfl,rfl⟩,trivial⟩ ?_|refine CA (aa n) ?_|refine CA (aa k) ?_|refine CF rfl (aa n) rfl ?_|refine CF rfl (aa k) rfl ?_|refine CD (d) ⟨⟨rfl,CY _⟩,⟨rfl,rfl⟩,⟨rfl,rfl⟩,trivial⟩ ?_|refine C9 ?_|refine CL rfl rfl (aa k) rfl (X0 rfl) rfl ?_)
  refine CE rfl rfl ?_;exact wB
theorem pv(h:ab)(i:Nat)(d:bn h [])(o:i<h.Objs.length)(t:aK (nth h.Objs i).Size<0):aP Tryz.prog 380 false [.ptr (b8 h),.val none [I (i:Nat)]] [.ptr (b8 (freeL h i (rj h (nth h.Objs i).Addr))),.val none [I (i:Nat)]] (.tup []) []:=by
 obtain⟨l,w,y,-⟩:=(d2 d (am o)).1 t;obtain⟨p,B,c,-⟩:=q8 w y;generalize rj h (nth h.Objs i).Addr=g at p B c;have a:=d.lens;have C:=a.larges;have D:=a.objs;have b:=ah o;have N:=aS (d.L.lok _ (am p));have E:dU h<=32:=a.ents;refine fM 89 [(297,[2,0]),(382,[2,0])] [(4,11,[23,24,25,26,27,28,29,30,31,32,33]),(8,7,[41,42,43,44,45,46,47]),(9,273,[50,51,52,53,54,55,56,57,58,59,60,62,49,63,64,65,66,0,1,2,3,4,5,6,7,8,9,10,11,1000,1001,1002,1003,1004,1005,1006,12,13,14,15,16,17,18,1015]),(10,273,[67,68,69,70,71,72,73,74,76,77,78,79,80,81,82,84,85,0,1,2,3,4,5,6,7,9,10,11,12,13,14,15,8,1000,1009,1010,1011,1012,1013,1014,1015,16,1000,17,18,19]),(1048586,0,[7])] [(0,0),(0,0)] Tryz.func380 rfl (λu q=>?_) (.inr trivial)
 repeat'(first|refine gO ?_|(conv=>whnf);first|refine C9 ?_)
 (conv=>whnf)
 refine CC (ι:=Nat) (λk=>[(0,.hold .box (b8 h)),(1,.hold .one [I ((i:Nat):Int)]),(4,.hold .one [I ((k:Nat):Int)])]) (λk=>k<=g) (λk=>g - k) (0) ?_ (R0 _) λk O=>?_
 ·exact wB
 have j:=ah (xs:=h.Larges) (i:=k) ω;have F:=aS (d.L.lok _ (am (xs:=h.Larges) (i:=k) ω));have G:0<=(nth h.Objs i).Addr/\(nth h.Objs i).Addr<=512:=ω
 by_cases e:k=g
 ·subst e
  repeat'(first|refine gA ?_|(conv=>whnf);first|with_reducible refine CA (aa j) ?_|refine C9 ?_|refine CF rfl (aa j) rfl ?_|refine CF rfl (aa b) rfl ?_|refine CA (aa b) ?_)
  (conv=>whnf)
  refine CC (ι:=Nat) (λn=>[(0,.hold .box (b8 {h with Kernel:=d6 h.Kernel (nth h.Larges k).Page n})),(1,.hold .one [I ((i:Nat):Int)]),(4,.hold .one [I ((k:Nat):Int)]),(5,.hold .box (ax.enc .own (nth h.Larges k))),(6,.hold .one [I ((n:Nat):Int)])]) (λn=>n<=(nth h.Larges k).Pages.toNat) (λn=>(nth h.Larges k).Pages.toNat - n) (0) ?_ (R0 _) λn P=>?_
  ·exact wB
  by_cases Q:n<(nth h.Larges k).Pages.toNat
  ·have H:=lQ {h with Kernel:=d6 h.Kernel (nth h.Larges k).Page n} ((nth h.Larges k).Page+n) (jB d.ker _ _)
   repeat'(first|refine gD ?_|(conv=>whnf);first|refine C9 ?_|refine CG (H) (.inl rfl) ?_|refine C9 ?_)
   ((conv=>whnf);refine CB (n+1) ω ω ?_;(exact wB))
  ·obtain rfl:n=(nth h.Larges k).Pages.toNat:=ω
   have r:=gw {h with Kernel:=d6 h.Kernel (nth h.Larges k).Page (nth h.Larges k).Pages.toNat};rw[show dU {h with Kernel:=d6 h.Kernel (nth h.Larges k).Page (nth h.Larges k).Pages.toNat} = dU h from(gz _ _ _).1]at r;have J:=kX (dU h:Nat) h.Free ⟨(nth h.Larges k).Page,(nth h.Larges k).Pages⟩ ⟨ω,ω⟩ ⟨by have:=a.free;omega,λ_ _=>trivial⟩;have K:=mD {h with Kernel:=d6 h.Kernel (nth h.Larges k).Page (nth h.Larges k).Pages.toNat,Larges:=dele h.Larges k,Free:=(bX (dU h) h.Free ⟨(nth h.Larges k).Page,(nth h.Larges k).Pages⟩).getD h.Free} i o (by show h.Objs.length<=_;omega)
   repeat'(first|refine gD ?_|(conv=>whnf);first|refine C9 ?_|refine Fa.mk rfl (rC h.Larges) rfl ?_|refine CS k rfl (by rw[W0];omega) (aI λ_=>rfl) R3 ?_|refine CU (k+1) rfl (by rw[W0];omega) (aI λ_=>rfl) T3 ?_|refine CR (λ_=>rfl) (λ_=>rfl) (by rw[I1];omega) (by decide) ?_|refine Ap.dele (λ_=>rfl) (λ_=>rfl) ω (by decide) ?_|refine CM (λ_=>rfl) (λ_=>rfl) (by rw[I1];omega) (by decide) ?_|refine C9 ?_|refine CD (r) ⟨bA _,trivial⟩ ?_|refine CD (J) ⟨⟨rfl,rfl⟩,⟨rfl,d5 h.Free⟩,⟨rfl,rfl⟩,trivial⟩ ?_|refine CG (K) (.inl rfl) ?_)
   refine CE rfl rfl ?_;exact wB
 ·have M:=c k ω
  repeat'(first|refine gA ?_|(conv=>whnf);first|with_reducible refine CA (aa j) ?_|refine C9 ?_|refine CF rfl (aa j) rfl ?_|refine CF rfl (aa b) rfl ?_|refine CA (aa b) ?_)
  ((conv=>whnf);refine CB (k+1) ω ω ?_;(exact wB))
def JH(q:bz)(x:aL):List C:=bz.enc .own (HX q x)++bQ .own (se q x)
theorem FZ(q:bz)(x:aL):gr (JH q x):=aM (bz.enc_fr _) (mZ _)
theorem Bc(q:bz)(a:aL)(K:q.Lst.length<=4096)(e:fj q=true)(r:0<=a.Class/\a.Class<=3/\0<=a.Addr/\0<=a.Since)(t:∀y∈q.Lst,y.Since<=a.Since)(u:∀y∈q.Lst,y.Addr≠a.Addr) :
  ao Tryz.prog 383 false [.val (some 2) (bz.enc .imm q),.val (some 3) (aL.enc .imm a)] (.tup [some 2,none]) (JH q a):=by
 have b:bz.sml q:=⟨ω,λ_ _=>trivial⟩
 have w:=qY q b;have l:=nK q b;rw[e]at l;have n:=y9 a;rw[O0 r]at n;have o:=qW q a.Addr b;rw[show q.Lst.any (d9 a.Addr)=false by rw[List.any_eq_false];intro y B;unfold d9;simpa using u y B]at o;have C:=(ij.1 e).2.2.2;have g:=FZ q a;have L:(aL.mk a.Addr a.Class a.Since)=a:=rfl;have c:=wz q.Room (q.Lst++[a]);simp only[W2,List.length_singleton]at c;by_cases E:q.Lst.length=0
 all_goals
  try have h:(nth q.Lst (q.Lst.length - 1)).Since<=a.Since:=t _ (am ω)
  try have j:=ah (xs:=q.Lst) (i:=q.Lst.length - 1) ω
  try have d:q.Lst[((q.Lst.length:Int) - 1).toNat]? = some (nth q.Lst (q.Lst.length - 1)):=by rw[show((q.Lst.length:Int) - 1).toNat=q.Lst.length - 1 by omega];exact j
  refine fO 74 [(3,27,[15,16,17,18,19,20,21,22,23,24,25,26,27,28,29,30,31,32,33,34,35,36,37,38,39,40,41]),(7,6,[52,53,54,55,56,57]),(9,268,[61,62,63,64,65,66,67,69,70,71,72,73,0,1,2,3,4,5,6,8,9,10,11,12,7,1008,1009,1010,1011,1012,13,14])] Tryz.func383 rfl ?_ (.inr g)
  repeat'(first|refine gD ?_|(conv=>whnf);first|with_reducible refine Bf.D (λe=>?_) (λe=>?_)|refine C9 ?_|refine C6 (w) ?_|refine C6 (l) ?_|refine C6 (n) ?_|refine C6 (o) ?_|refine CJ ω (aa d) ?_|refine CT (aI λ_=>rfl) rfl (by simp;omega) (by decide) (ew (aL.enc .own) q.Lst a) ?_)
  (conv=>whnf)
  refine Lp.fz 8 (ι:=Nat) (λk=>[(2,.hold .box (bz.enc .imm q)),(4,.hold .box [I 0,.z]),(8,.hold .one (bQ .imm (q.Lst++[a]))),(9,.hold .one [I (k:Nat)])]) (λk=>k<=hO q.Room (q.Lst++[a])) (λk=>hO q.Room (q.Lst++[a]) - k) 0 ?_ (R0 _) λk M=>?_
  ·(repeat'(first|exact trivial|rfl|exact CH rfl (show Jx (dA (bQ .own (q.Lst++[a]))) (bQ .imm (q.Lst++[a])) by rw[Eg];exact jZ _)|refine CH ?_ ?_))
  have N:(q.Lst++[a]).length=q.Lst.length+1:=by simp
  have F:((q.Lst++[a]).drop k).length<=5000:=by rw[X2];omega
  have G:((q.Lst++[a]).take k).length<=5000:=by rw[I1];omega
  have p:=th ((q.Lst++[a]).drop k) ⟨ω,λ_ _=>trivial⟩;by_cases H:k<hO q.Room (q.Lst++[a])
  ·have J:q.Room<quarCells ((q.Lst++[a]).drop k) ((q.Lst++[a]).drop k).length:=rz H
   repeat'(first|refine gD ?_|(conv=>whnf);first|refine C9 ?_|refine CU k rfl (by rw[W0];omega) (aI λ_=>rfl) T3 ?_|refine C6 (p) ?_|refine C9 ?_)
   ((conv=>whnf);refine CB (k+1) ω ω ?_;(exact wB))
  ·obtain rfl:k=hO q.Room (q.Lst++[a]):=ω
   have J:quarCells ((q.Lst++[a]).drop (hO q.Room (q.Lst++[a]))) ((q.Lst++[a]).drop (hO q.Room (q.Lst++[a]))).length<=q.Room:=u7 C.1 _
   repeat'(first|refine gD ?_|(conv=>whnf);first|refine C9 ?_|refine CU (hO q.Room (q.Lst++[a])) rfl (by rw[W0];omega) (aI λ_=>rfl) T3 ?_|refine CS (hO q.Room (q.Lst++[a])) rfl (by rw[W0];omega) (aI λ_=>rfl) R3 ?_|refine C6 (p) ?_|refine C9 ?_|refine CR (λ_=>rfl) (λ_=>rfl) ω (by decide) ?_|refine CM (λ_=>rfl) (λ_=>rfl) ω (by decide) ?_)
   rfl
theorem js{z:Int}(h:0<=z/\z<512):IntKind.i64.wrap (z.tdiv 16)=z / 16:=(T0 _ (tdiv16 h.1)).trans (eS ω ω)
theorem nQ{h:ab}{E:List Int}(a:bn h E){o:bm}(b:o∈h.Objs):0<=o.Addr/\o.Addr<512:=by
 rcases a.oow o b with⟨s,c,⟨f,g,-⟩,-⟩|⟨l,d,e,-⟩
 ·have:=aF (a.L.sok s c);omega
 ·have:=aS (a.L.lok l d);omega
theorem Al{k:Int}(h:0<=k/\k<=3):1<=csz k/\csz k<=8:=by
 rcases cv h with e|e|e|e<;>rw[e]<;>decide
structure Pr(h:ab)(o:bm):Prop where
 cl:0<=aK o.Size/\aK o.Size<=3
 fr:0<=(ar h.Kernel.Machine.Table (o.Addr / 16)).Frame/\(ar h.Kernel.Machine.Table (o.Addr / 16)).Frame<h.Kernel.Machine.Frames.Cells.length
 fit:o.Addr % 16+csz (aK o.Size)<=16
 row:(nth h.Kernel.Machine.Frames.Cells (dZ h.Kernel o.Addr)).length=16
theorem Pr.of{h:ab}{E:List Int}(b:bn h E){o:bm}(l:o∈h.Objs)(q:¬aK o.Size<0):Pr h o:=by
 obtain⟨⟨s,d,f,r⟩,B⟩:=(d2 b l).2 q;have t:=aF (b.L.sok s d);have u:=nQ b l;have n:s.Page=o.Addr / 16:=by have C:=f.1;have D:=f.2.1;omega
 have c:(o.Addr / 16).toNat<(tbl h).Entries.length:=by have:=b.pg.bnd _ (d3 (la:=h.Larges) d);omega
 have a:(((o.Addr / 16).toNat:Nat):Int)=o.Addr / 16:=ω
 have p:=(b.pg.own _ c).2 (by rw[a,<-n];exact d3 d);have g:(ar h.Kernel.Machine.Table (o.Addr / 16)).Mode≠0:=by rw[<-a];unfold tbl at p c;rw[lh c];exact p
 obtain⟨-,-,-,i,w⟩:=ch b.ker g;have y:=(aY.1 (aC.1 b.ker).2.1).2.2.1;have j:dZ h.Kernel o.Addr<h.Kernel.Machine.Frames.Cells.length:=by unfold dZ;omega
 refine⟨ω,⟨i,ω⟩,?_,b.lens.row _ (am j)⟩;have A:=f.2.2.1;rw[n,<-r]at *;rcases cv (k:=s.Class) ⟨ω,ω⟩ with e|e|e|e<;>rw[e]at A |-<;>omega
theorem AG(h:ab)(a:Int)(b:dZ h.Kernel a<h.Kernel.Machine.Frames.Cells.length):({h with Kernel:=dP h.Kernel a 0} : ab)=h:=by
 have e:h.Kernel.Machine.Frames.Cells.set (dZ h.Kernel a) (nth h.Kernel.Machine.Frames.Cells (dZ h.Kernel a))=h.Kernel.Machine.Frames.Cells:=by
  refine List.ext_getElem? λi=>?_
  rw[C3];split
  ·rename_i e
   subst e;exact(ah b).symm
  ·rfl
 unfold dP iB;rw[e]
theorem Dz(h:ab)(a:Int)(k:Nat)(v:Int)(_:0<=a):b8 {h with Kernel:=dP h.Kernel a (k+1)} = (b8 {h with Kernel:=dP h.Kernel a k}).set 0 (.s .own (((dP h.Kernel a k).Machine.Frames.Cells.map (aD .own)).set (ar h.Kernel.Machine.Table (a / 16)).Frame.toNat ((aD .own (iB (nth h.Kernel.Machine.Frames.Cells (dZ h.Kernel a)) (a % 16).toNat k)).set 0 (.s .own (((iB (nth h.Kernel.Machine.Frames.Cells (dZ h.Kernel a)) (a % 16).toNat k).map (rI .own)).set (a % 16+k).toNat (splice (rI .own v) 0 [I 0])))))):=by
 have e:(a % 16+k).toNat=(a % 16).toNat+k:=ω
 rw[e];simp[b8,dP,Z4,iB,aD,splice,dZ]
 rfl
theorem tl(t:Nat)(h:ab)(xs:List aL)(k:Nat)(a:k<xs.length):recycs t h ((xs.take (k+1)).map (·.Addr))=recyc t (recycs t h ((xs.take k).map (·.Addr))) (nth xs k).Addr:=by
 unfold recycs;rw[T4,ah a];simp
theorem EW(h:ab)(o:bm)(t:Nat)(a:bn h [])(P:o∈h.Objs)(ht:o.Thread=t)(hlc:h.Caches.length<=4):aP Tryz.prog 354 false [.ptr (b8 h),.val none [I (t:Nat)],.val none [I o.Addr]] [.ptr (b8 (freeOb h t (gX h o.Addr)).1),.val none [I (t:Nat)],.val none [I o.Addr]] .one [I (freeOb h t (gX h o.Addr)).2]:=by
 obtain⟨l,B,C⟩:=a.objAt P;have b:=nQ a P;have hon:=a.onu o P;have d:=a.lens;have hno:=d.objs;have E:t<h.Caches.length:=ω
 have M:=aE (t:Nat) 0 (h.Caches.length - 1:Int);rw[O0 ω]at M;have F:=mn h o.Addr ω;rw[C]at F;generalize gX h o.Addr=i at l B F;subst B;have r:=ah l;have Q:=jy (nth h.Objs i).Size;unfold freeOb;have R:=bp a.ker;have Z:=cT h.Kernel.Machine.Table ((nth h.Objs i).Addr / 16) R.1.2;by_cases w:aK (nth h.Objs i).Size<0
 ·rw[C8 w]
  have c3:=pv h i a l w;refine fM 148 [(380,[2,0]),(382,[2,0]),(384,[2,0,0]),(379,[2,0])] [(15,269,[68,69,70,71,72,73,74,75,77,67,78,79,11,0,1,2,3,4,5,6,7,13,8,1000,1001,1002,1003,1004,1013,9,10,11,12,14,1012,15]),(22,15,[92,93,94,95,96,97,98,99,100,101,102,103,104,105,106]),(25,271,[116,117,118,119,120,121,122,123,124,125,127,115,128,129,14,0,1,2,3,4,5,6,7,8,9,15,10,1000,1001,1002,1003,1015,11,12,13,14,16,1014,17])] [(0,0),(0,0),(0,0)] Tryz.func354 rfl (λu q=>?_)
  repeat'(first|refine gD ?_|(conv=>whnf);first|with_reducible refine Bf.D (λn=>?_) (λn=>?_)|refine C9 ?_|refine C6 (M) ?_|refine CD (F) ⟨⟨rfl,bA h⟩,⟨rfl,rfl⟩,trivial⟩ ?_|refine CA (aa r) ?_|refine CF rfl (aa r) rfl ?_|refine C6 (Q) ?_|refine CG (c3) (.inl rfl) ?_)
  refine CE rfl rfl ?_;exact wB
 rw[C7 w];obtain⟨S,s2,s3,s4⟩:=Pr.of a (am l) w;by_cases N:(ar (tbl h) ((nth h.Objs i).Addr / 16)).Mode=1
 ·rw[C8 N]
  unfold tbl at N;refine fM 148 [(380,[2,0]),(382,[2,0]),(384,[2,0,0]),(379,[2,0])] [(15,269,[68,69,70,71,72,73,74,75,77,67,78,79,11,0,1,2,3,4,5,6,7,13,8,1000,1001,1002,1003,1004,1013,9,10,11,12,14,1012,15]),(22,15,[92,93,94,95,96,97,98,99,100,101,102,103,104,105,106]),(25,271,[116,117,118,119,120,121,122,123,124,125,127,115,128,129,14,0,1,2,3,4,5,6,7,8,9,15,10,1000,1001,1002,1003,1015,11,12,13,14,16,1014,17])] [(0,0),(0,0),(0,0)] Tryz.func354 rfl (λu q=>?_)
  repeat'(first|refine gA ?_|(conv=>whnf);first|with_reducible refine Bf.D (λn=>?_) (λn=>?_)|refine C9 ?_|refine CK (by decide) ?_|refine CI (js b) ?_|refine C6 (M) ?_|refine CD (F) ⟨⟨rfl,bA h⟩,⟨rfl,rfl⟩,trivial⟩ ?_|refine CA (aa r) ?_|refine CF rfl (aa r) rfl ?_|refine C6 (Q) ?_|refine CD (Z) ⟨⟨rfl,CV _⟩,⟨rfl,rfl⟩,trivial⟩ ?_)
  refine CE rfl rfl ?_;exact wB
 rw[C7 N];unfold tbl at N;have G:dZ h.Kernel (nth h.Objs i).Addr<h.Kernel.Machine.Frames.Cells.length:=by unfold dZ;omega
 have hcz:=Al S;have g:=a.inQuar l w;have H:=d4 (aK (nth h.Objs i).Size);refine fM 148 [(380,[2,0]),(382,[2,0]),(384,[2,0,0]),(379,[2,0])] [(15,269,[68,69,70,71,72,73,74,75,77,67,78,79,11,0,1,2,3,4,5,6,7,13,8,1000,1001,1002,1003,1004,1013,9,10,11,12,14,1012,15]),(22,15,[92,93,94,95,96,97,98,99,100,101,102,103,104,105,106]),(25,271,[116,117,118,119,120,121,122,123,124,125,127,115,128,129,14,0,1,2,3,4,5,6,7,8,9,15,10,1000,1001,1002,1003,1015,11,12,13,14,16,1014,17])] [(0,0),(0,0),(0,0)] Tryz.func354 rfl (λu q=>?_)
 repeat'(first|refine gA ?_|(conv=>whnf);first|with_reducible refine Bf.D (λn=>?_) (λn=>?_)|refine C9 ?_|refine CK (by decide) ?_|refine CI (js b) ?_|refine C6 (M) ?_|refine CD (F) ⟨⟨rfl,bA h⟩,⟨rfl,rfl⟩,trivial⟩ ?_|refine CA (aa r) ?_|refine CF rfl (aa r) rfl ?_|refine C6 (Q) ?_|refine CD (Z) ⟨⟨rfl,CV _⟩,⟨rfl,rfl⟩,trivial⟩ ?_)
 rw[show b8 h=b8 {h with Kernel:=dP h.Kernel (nth h.Objs i).Addr 0} by rw[AG h _ G]]
 (conv=>whnf)
 refine CC (ι:=Nat) (λk=>[(0,.hold .box (b8 {h with Kernel:=dP h.Kernel (nth h.Objs i).Addr k})),(1,.hold .one [I ((t:Nat):Int)]),(2,.hold .one [I ((nth h.Objs i).Addr)]),(7,.hold .one [I ((i:Nat):Int)]),(8,.hold .box (bm.enc .own (nth h.Objs i))),(9,.hold .one [I (aK (nth h.Objs i).Size)]),(10,.hold .box (bi.enc .own (ar h.Kernel.Machine.Table ((nth h.Objs i).Addr / 16)))),(13,.hold .one [I ((k:Nat):Int)])]) (λk=>k<=(csz (aK (nth h.Objs i).Size)).toNat) (λk=>(csz (aK (nth h.Objs i).Size)).toNat - k) (0) ?_ (R0 _) λk hk=>?_
 ·exact wB
 have hmod:IntKind.i64.wrap 0=0:=rfl;have T:(nth h.Objs i).Addr.tmod 16=(nth h.Objs i).Addr % 16:=eM b.1;have p:(dP h.Kernel (nth h.Objs i).Addr k).Machine.Frames.Cells[(ar h.Kernel.Machine.Table ((nth h.Objs i).Addr / 16)).Frame.toNat]? = some (iB (nth h.Kernel.Machine.Frames.Cells (dZ h.Kernel (nth h.Objs i).Addr)) ((nth h.Objs i).Addr % 16).toNat k):=v3 G;by_cases O:k<(csz (aK (nth h.Objs i).Size)).toNat
 ·have J:=ah (xs:=iB (nth h.Kernel.Machine.Frames.Cells (dZ h.Kernel (nth h.Objs i).Addr)) ((nth h.Objs i).Addr % 16).toNat k) (i:=((nth h.Objs i).Addr % 16+k).toNat) (by rw[lv,s4];omega)
  repeat'(first|refine gD ?_|(conv=>whnf);first|refine C9 ?_|refine CK (by decide) ?_|refine CO T ?_|refine C6 (H) ?_|refine CJ s2.1 (aa p) ?_|refine CF rfl (aa p) rfl ?_|refine CJ ω (aa J) ?_|refine Pu.two rfl rfl (aa p) rfl rfl rfl (aa J) rfl (R2 _) (Dz h _ k _ b.1) ?_)
  ((conv=>whnf);refine CB (k+1) ω ω ?_;(exact wB))
 ·obtain rfl:k=(csz (aK (nth h.Objs i).Size)).toNat:=ω
  have c5:=mD {h with Kernel:=dP h.Kernel (nth h.Objs i).Addr (csz (aK (nth h.Objs i).Size)).toNat} i l (by show h.Objs.length<=_;omega);have j:=a.nums;unfold cm at j;rw[C0]at j;have K:=(a.dropO l (jd.any (c:=aK (nth h.Objs i).Size) (by obtain⟨⟨s,hs,k1,k2⟩,-⟩:=(d2 a (am l)).2 w;exact⟨s,hs,k1,.inr k2⟩))).nd;rw[List.cons_append,List.nil_append]at K;have c6:=Bc h.Quar (ix h (nth h.Objs i)) (by have:=d.quar;omega) a.quar ⟨S.1,S.2,b.1,j.2.2.1⟩ (λy U=>a.snc y U) (λy U e=>(List.nodup_cons.1 K).1 (by rw[show(nth h.Objs i).Addr=y.Addr from e.symm];unfold holders;simp only[Q2];exact .inl (.inr (U3.2 ⟨y,U,rfl⟩))));unfold JH at c6;have V:(se h.Quar (ix h (nth h.Objs i))).length<=513:=by have:=d.quar;unfold se;rw[I1,W2];simp only[List.length_singleton];omega
  repeat'(first|refine gA ?_|(conv=>whnf);first|with_reducible refine Bf.D (λn=>?_) (λn=>?_)|refine C9 ?_|refine C6 (H) ?_|refine CG (c5) (.inl rfl) ?_|refine CD (c6) ⟨⟨rfl,bz.enc_fz h.Quar⟩,⟨rfl,rfl⟩,trivial⟩ ?_|refine C9 ?_)
  have W:G5 h t i=recycs t (inQuar h i) ((se h.Quar (ix h (nth h.Objs i))).map (·.Addr)):=rfl;simp only;rw[W];have hqn:(inQuar h i).Caches.length=h.Caches.length:=rfl;generalize se h.Quar (ix h (nth h.Objs i))=out at g V
  (conv=>whnf)
  refine CC (ι:=Nat) (λk=>[(0,.hold .box (b8 (recycs t (inQuar h i) ((out.take k).map (·.Addr))))),(1,.hold .one [I ((t:Nat):Int)]),(15,.hold .one (bQ .own out)),(16,.hold .one [I ((k:Nat):Int)])]) (λk=>k<=out.length) (λk=>out.length - k) (0) ?_ (R0 _) λk hk=>?_
  ·exact wB
  by_cases O:k<out.length
  ·have L:=ah O
   have X:out.map (·.Addr)=(out.take k).map (·.Addr)++(nth out k).Addr::(out.drop (k+1)).map (·.Addr):=by
    conv=>lhs;rw[<-List.take_append_drop k out,gB O]
    simp
   have Y:bn (recycs t (inQuar h i) ((out.take k).map (·.Addr))) ((nth out k).Addr::(out.drop (k+1)).map (·.Addr)):=bn.recycs (by rw[<-X];exact g) E;have c7:=mW _ _ t _ Y (by rw[(ek t _ _).1];exact E)
   repeat'(first|refine gD ?_|(conv=>whnf);first|refine C9 ?_|refine CA (aa L) ?_|refine CF rfl (aa L) rfl ?_|refine CG (c7) (.inl rfl) ?_)
   ((conv=>whnf);refine CB (k+1) ω ω ?_)
   rw[tl t _ out k O];exact wB
  ·obtain rfl:k=out.length:=ω
   rw[I4]
   repeat'(first|refine gD ?_|(conv=>whnf);first|refine C9 ?_)
   refine CE rfl rfl ?_;exact wB
def oE(rows:List (List C)):C:=match rows with|[]=>.s .imm []|_=>.s .own rows
theorem vb{rows:List (List C)}(h:rows≠[]):oE rows=.s .own rows:=by cases rows with|nil=>exact absurd rfl h|cons=>rfl
theorem Au{P:Program}(w:World)(t e k:Nat)(z:Value)(p:P.underlying t=some (.slice e))(d:∀w,(zeroValue e).run P w=.ok z w)(q:z.cells.size=k)(h1:∀v∈z.cells.toList,v.oneCell'=true)(b o n:Nat)(u:0<n)(i:0<k)(r:∀j,j<n*k->(w.cell? ⟨b,o+j,none⟩).isSome=true)(y:∀j,j<n*k->w.frozen? ⟨b,o+j,none⟩ = false) :
  ∃zs:List Value,zs.length=n*k/\(∀v∈zs,v.oneCell'=true)/\∀(ty:TypeId)(c:Nat),(Builtin.clear_ #[t] ty #[.slice (some ⟨b,o,none⟩) n c]).run P w=.ok (.tuple #[]) (w.setCells b o zs):=by
 subst q;have f:(Builtin.zeroCells z.cells n).toList.length=n*z.cells.size:=by simp[Builtin.zeroCells]
 have a:∀v∈(Builtin.zeroCells z.cells n).toList,v.oneCell'=true:=by
  intro v d;rw[Array.mem_toList_iff]at d;simp only[Builtin.zeroCells,Array.mem_map,Array.mem_range]at d;obtain⟨j,l,rfl⟩:=d;have g:j % z.cells.size<z.cells.size:=Nat.mod_lt _ i;rw[getElem!_pos z.cells (j % z.cells.size) g];exact h1 _ (Array.mem_toList_iff.2 (Array.getElem_mem g))
 refine⟨_,f,a,λty c=>?_⟩;have h:=run_storeCells_cells (P:=P) b o (Builtin.zeroCells z.cells n).toList 0 w (λj l=>by simpa using r j ω) (λj l=>by simp) a;simp only[Nat.add_zero]at h;obtain⟨m,rfl⟩ : ∃m,n=m+1:=⟨n - 1,ω⟩
 simp[Builtin.clear_,run_underlying p,d,h]
structure Lh(w w':World)(g k n i:Nat):Prop where
 keep:bB (λb o=>b=g/\o<n*k) w w'
 lo:∀q,q<i*k->cel w' g q=cel w g q
 mid:∀q,i*k<=q->q<(n - 1)*k->cel w' g q=cel w g (q+k)
 hi:∀q,(n - 1)*k<=q->q<n*k->∃z,cel w' g q=some z/\z.oneCell'=true
 fro:∀b q,fro w' b q=fro w b q
theorem bB.up{M a:ac}{w c:World}(h:bB M w c)(d:∀b o,M b o->a b o):bB a w c:=(CW a w).trans h λb o e=>.inr (d b o e)
theorem EK(w:World):bB NO w w.drew:=⟨rfl,rfl,rfl,R2 _,λ_ _ _=>rfl,λ_ _ _ _=>rfl,λ_ _ _ _=>rfl⟩
theorem Ja{w:World}{g k n i:Nat}{news zs:List Value}(B:i<n)(a:∀q,q<n*k->∃z,cel w g q=some z)(H:news.length=(n - (i+1))*k)(d:∀t u,news[t]? = some u->cel w g ((i+1)*k+t)=some u)(J:zs.length=k)(l:∀v∈zs,v.oneCell'=true) :
  Lh w ((w.drew.setCells g (i*k) news).setCells g ((n - 1)*k) zs) g k n i:=by
 have K:i*k+(n - (i+1))*k=(n - 1)*k:=by rw[<-Nat.add_mul];congr 1;omega
 have L:(n - 1)*k+k=n*k:=by rw[show(n - 1)*k+k=(n - 1+1)*k by rw[Nat.add_mul,Nat.one_mul]];congr 1;omega
 have M:(i+1)*k=i*k+k:=by rw[Nat.add_mul,Nat.one_mul]
 have r:∀b q,cel w.drew b q=cel w b q:=λ_ _=>rfl
 have c:∀j,j<news.length->∃z,cel w.drew g (i*k+j)=some z:=λj p=>by rw[r];exact a _ ω
 have C:∀q,q<n*k->∃z,cel (w.drew.setCells g (i*k) news) g q=some z:=λq y=>by
  by_cases h:i*k<=q/\q<i*k+news.length
  ·have:=cW c (U1 (show q - i*k<news.length by omega))
   rw[show i*k+(q - i*k)=q by omega]at this;exact⟨_,this⟩
  ·rw[bT (λx=>h x.2),r];exact a q y
 refine⟨?_,λq y=>?_,λq D E=>?_,λq D E=>?_,λb q=>?_⟩
 ·have F:=ia (g:=g) (X:=λb o=>b=g/\o<n*k) news (i*k) w.drew λj p=>⟨rfl,ω⟩
  have G:=ia (g:=g) (X:=λb o=>b=g/\o<n*k) zs ((n - 1)*k) (w.drew.setCells g (i*k) news) λj p=>⟨rfl,ω⟩
  exact((EK w).up λ_ _ h=>h.elim).trans (F.trans G λ_ _ h=>.inr h) λ_ _ h=>.inr h
 ·rw[bT ω,bT ω];rfl
 ·rw[bT ω]
  obtain⟨u,e⟩ : ∃u,news[q - i*k]? = some u:=⟨_,U1 ω⟩
  have f:=cW c e;have A:=d _ u e;rw[show i*k+(q - i*k)=q by omega]at f;rw[show(i+1)*k+(q - i*k)=q+k by omega]at A;rw[f,A]
 ·obtain⟨u,e⟩ : ∃u,zs[q - (n - 1)*k]? = some u:=⟨_,U1 ω⟩
  have f:=cW (w:=w.drew.setCells g (i*k) news) (o:=(n - 1)*k) (vs:=zs) (λj p=>C _ ω) e;rw[show(n - 1)*k+(q - (n - 1)*k)=q by omega]at f;exact⟨u,f,l u (Q1 e)⟩
 ·rw[cC,cC];rfl
def PQ(rows:List (List C)):Prop:=∀r∈rows,∀c∈r,∃z,c=.v z
def zG(P:Program)(f k:Nat):Prop:=H5 P f/\∀(w:World)(g n a i:Nat)(news:List Value),i<n->n<=a->news.length=(n - (i+1))*k->(∀t u,news[t]? = some u->cel w g ((i+1)*k+t)=some u)->(∀u∈news,u.oneCell'=true)->
 (∀q,q<n*k->(w.cell? ⟨g,q,none⟩).isSome=true/\w.frozen? ⟨g,q,none⟩ = false)->
 Calls P f #[.slice (some ⟨g,0,none⟩) n a,.int .i64 i,.int .i64 ((i+1:Nat):Int)] w λe c=>e=.returned (.slice (some ⟨g,0,none⟩) (n - 1) a)/\∃b:List Value,b.length=k/\(∀v∈b,v.oneCell'=true)/\c=(w.drew.setCells g (i*k) news).setCells g ((n - 1)*k) b
theorem F4{P:Program}{f k:Nat}(hf:zG P f k){rows:List (List C)}{i:Nat}(hi:i<rows.length)(hk:∀r∈rows,r.length=k)(hsc:PQ rows) :
  aP P f false [.mut none [.s .own rows],.val none [I (i:Nat)],.val none [I ((i+1:Nat):Int)]] [.mut none [.x],.val none [I (i:Nat)],.val none [I ((i+1:Nat):Int)]] .one [oE (dele rows i)]:=by
 refine⟨hf.1,λw S V vs hS hV hVV hA=>?_⟩
 match vs,hA with
 | [v,v1,v2],⟨hA,hA1,hA2,_⟩=>
  have L:=bD.rep1 (show bD w S (V 0) none [C.s .own rows] v from hA);have e1:v1=.int .i64 (i:Nat):=by
   have:=bD.rep1 (show bD w S NO none [C.v (.int .i64 (i:Nat))] v1 from hA1);cases this;rfl
  have e2:v2=.int .i64 ((i+1:Nat):Int):=by
   have:=bD.rep1 (show bD w S NO none [C.v (.int .i64 ((i+1:Nat):Int))] v2 from hA2);cases this;rfl
  subst e1 e2;have G:(dele rows i).length=rows.length - 1:=by unfold dele;simp;omega
  generalize O:C.s .own rows=cc at L;cases L with
  | nil _ o a ho=>cases O;simp at hi
  | own _ o g d n p rows' u f' ho hn H M hpos hF hu hff hd hc=>
   cases O;have hkk:d=k:=by rw[<-H _ (List.getElem_mem hi),<-hk _ (List.getElem_mem hi)]
   subst hkk;have N:∀a b r c,rows[a]? = some r->r[b]? = some c->∃z,c=.v z/\cel w g (a*d+b)=some z:=λa b r c D Q=>by
    obtain⟨z,rfl⟩:=hsc r (Q1 D) c (Q1 Q);have E:=hc a b r _ D Q;have J:=Az hn H D Q;have Z:=hu (a*d+b) (eE J.1 J.2);generalize u (a*d+b)=y at E Z;cases E;exact⟨_,rfl,Z⟩
   have hnk:n*d<=p*d:=U5 _ M;have j:∀q,q<p*d->∃z,cel w g q=some z/\z.oneCell'=true:=λq A=>(hF q A).2.1
   have e3:(i+1)*d+(n - (i+1))*d=n*d:=by rw[<-Nat.add_mul];congr 1;omega
   obtain⟨news,hnl,hnw,hn1⟩ : ∃news:List Value,news.length=(n - (i+1))*d/\(∀t u,news[t]? = some u->cel w g ((i+1)*d+t)=some u)/\∀u∈news,u.oneCell'=true:=by
    refine⟨(List.range ((n - (i+1))*d)).map λt=>(cel w g ((i+1)*d+t)).getD undef,by simp,λt y Y=>?_,λy hy=>?_⟩
    ·have hl:=(V1.1 Y).1
     simp only[W0,List.length_range]at hl;rw[U2,O5 hl]at Y;obtain⟨z,l,-⟩:=j ((i+1)*d+t) ω;rw[O4,l]at Y;rw[l];simpa using Y
    ·obtain⟨t,Y,rfl⟩:=U3.1 hy
     have hl:=List.mem_range.1 Y;obtain⟨z,l,F⟩:=j ((i+1)*d+t) ω;rw[l];exact F
   refine(hf.2 w g n p i news ω M hnl hnw hn1 (λq A=>?_)).mono λe w' ⟨he,zs,z1,z2,hw'⟩=>?_
   ·obtain⟨a1,⟨z,a2,a3⟩,a4⟩:=hF q ω
    exact⟨by show(cel w g q).isSome=true;rw[a2];rfl,T0 Prod.fst a4⟩
   have K:=Ja (w:=w) (by omega:i<n) (λq A=>by obtain⟨z,l,-⟩:=j q ω;exact⟨z,l⟩) hnl hnw z1 z2;rw[<-hw']at K;have R:∀q,q<p*d->V 0 g q:=λq A=>(hF q A).1
   have T:bB (λb o=>∃i,V i b o) w w':=K.keep.up λb o ⟨E,Z⟩=>⟨0,by rw[E];exact R o ω⟩
   have e4:(n - 1)*d+d=n*d:=by rw[show(n - 1)*d+d=(n - 1+1)*d by rw[Nat.add_mul,Nat.one_mul]];congr 1;omega
   have B:∀q,q<p*d->∃z,cel w' g q=some z/\z.oneCell'=true:=λq A=>by
    by_cases E:q<i*d
    ·rw[K.lo q E];exact j q A
    by_cases Z:q<(n - 1)*d
    ·rw[K.mid q ω Z];exact j _ ω
    by_cases h3:q<n*d
    ·exact K.hi q ω h3
    ·have J:=(hV 0 g q (R q A)).1
     rw[K.keep.cel g q J (λx=>h3 x.2)];exact j q A
   have hrow:cH w' NO (V 0) [oE (dele rows i)] (λ_=>.slice (some ⟨g,0,none⟩) (n - 1) p):=by
    refine row1 ?_;by_cases l:dele rows i=[]
    ·rw[l]
     have hn0:n - 1=0:=by rw[l]at G;simp at G;omega
     rw[hn0];exact .imm _ g 0 d 0 p [] (λ_=>undef) rfl (λr hr=>by cases hr) (R0 _) (λq A=>ω) (λa b r c D=>by simp at D)
    ·rw[vb l]
     have U:0<n - 1:=by
      have:=List.length_pos_iff.2 l;omega
     refine .own _ .own g d (n - 1) p _ (λq=>(cel w' g q).getD undef) (λ_=>NO) trivial (by rw[G];omega) (λr hr=>H r ((ep ..).subset hr)) ω U (λq A=>⟨R q A,B q A,(K.fro g q).trans (hF q A).2.2⟩) (λq A=>?_) (λ_ _ _ _ h=>h.elim) (λ_ _ _ _ _ _ _ h=>h.elim) (λa b r c D Q=>?_)
     ·obtain⟨z,l,-⟩:=B q ω
      rw[l];rfl
     ·have hbk:b<d:=by
       have:=H r ((ep ..).subset (Q1 D));rw[<-this];exact(V1.1 Q).1
      have hal:=(V1.1 D).1;rw[G]at hal;have hal2:a<n - 1:=ω
      have W:a*d+b<(n - 1)*d:=eE hal2 hbk;have X:∃z,c=.v z/\cel w' g (a*d+b)=some z:=by
       unfold dele at D;by_cases E:a<i
       ·rw[W3 (by rw[I1];omega),List.getElem?_take,C8 E]at D
        obtain⟨z,l,F⟩:=N a b r c D Q;refine⟨z,l,?_⟩;rw[K.lo _ (eE E hbk)];exact F
       ·rw[X3 (by rw[I1];omega),I1,List.getElem?_drop]at D
        rw[show i+1+(a - min i rows.length)=a+1 by omega]at D;obtain⟨z,l,F⟩:=N (a+1) b r c D Q;refine⟨z,l,?_⟩;have:i*d<=a*d:=U5 _ ω;rw[K.mid _ ω W,<-F]
        congr 1
        rw[Nat.add_mul,Nat.one_mul];omega
      obtain⟨z,rfl,l⟩:=X;simp only[l,Option.getD_some];exact .v _ _ (by obtain⟨z',hz',E⟩:=B (a*d+b) ω;rw[l]at hz';cases hz';exact E)
   exact⟨_,he,T,V 0,λ_=>NO,NO,λb o h=>.inl ⟨0,h⟩,λ_ _ _ h=>h.elim,λ_ _ h=>h.elim,λ_ _ _ _ _ h=>h.elim,λ_ _ _ _ h=>h.elim,λ_ _ _ h=>h.elim,λ_ _ _ h=>h.elim,rfl,hrow,⟨⟨rfl,λ_=>.slice (some ⟨g,0,none⟩) n p,rfl,row1 (.x _ _ rfl)⟩,trivial,trivial,trivial⟩⟩
  | _=>cases O
set_option maxRecDepth 100000
theorem AS{w:World}{g n cap i k:Nat}{news:List Value}(c:news.length=(n - (i+1))*k)(b:n<=cap)(d:i<n)(h:∀t u,news[t]? = some u->cel w g ((i+1)*k+t)=some u):∃A:Addr,(if cap=i+1 then some (⟨g,0,none⟩ : Addr) else some ⟨g,(i+1)*k,none⟩)=some A/\∀t u,news[t]? = some u->w.drew.cell? (A.add t)=some u:=by
 by_cases e:cap=i+1
 ·refine⟨⟨g,0,none⟩,by simp[e],λt u a=>?_⟩
  have f:news.length=0:=by rw[c,show n - (i+1)=0 by omega,Nat.zero_mul]
  rw[List.length_eq_zero_iff.1 f]at a;simp at a
 ·refine⟨⟨g,(i+1)*k,none⟩,by simp[e],λt u a=>?_⟩
  rw[Addr.add_lit];exact h t u a
theorem KY:∀w,(zeroValue 71).run Tryz.prog w=.ok (.agg #[.int .i64 0,.int .i64 0,.int .i64 0,.int .i64 0]) w:=λ_=>by kernel_rfl
theorem E3:zG Tryz.prog 131 4:=by
 refine⟨⟨_,Tryz.func131,by kernel_rfl,by kernel_rfl⟩,λw g n c i news r y o B C b=>?_⟩;obtain⟨A,X,a⟩:=AS o y r B;have a:Hid (∀t u,news[t]? = some u->w.drew.cell? (A.add t)=some u):=a;have T:Hid (news.length=(n - (i+1))*4):=o;have Y:Hid (∀u∈news,u.oneCell'=true):=C;have Z:Hid (∀t,t<news.length->(w.drew.cell? ⟨g,0+i*4+t,none⟩).isSome=true/\w.drew.frozen? ⟨g,0+i*4+t,none⟩ = false):=λt ht=>by
  rw[Q5];exact b (i*4+t) ω
 obtain⟨p,d⟩ : ∃p,p=w.drew.setCells g (0+i*4) news:=⟨_,rfl⟩
 have K:∀q,q<n*4->(p.cell? ⟨g,q,none⟩).isSome=true/\p.frozen? ⟨g,q,none⟩ = false:=λq U=>by
  have D:∀j,j<news.length->∃z,cel w.drew g (0+i*4+j)=some z:=λj L=>by
   have:=(b (0+i*4+j) ω).1;exact Option.isSome_iff_exists.1 this
  refine⟨?_,by rw[d];exact(T0 Prod.fst (cC g _ news w.drew g q)).trans (b q U).2⟩;rw[d];by_cases h:0+i*4<=q/\q<0+i*4+news.length
  ·have:=cW D (U1 (show q - (0+i*4)<news.length by omega))
   rw[show 0+i*4+(q - (0+i*4))=q by omega]at this;show(cel _ g q).isSome=true;rw[this];rfl
  ·show(cel _ g q).isSome=true
   rw[bT (λx=>h x.2)];exact(b q U).1
 obtain⟨M,E,F,G⟩:=Au (P:=Tryz.prog) p 39 71 4 (.agg #[.int .i64 0,.int .i64 0,.int .i64 0,.int .i64 0]) Tryz.underlying39 KY rfl (by intro v V;simp[Value.cells]at V;subst V;rfl) g ((i+(n - (i+1)))*4) (n - (i+(n - (i+1)))) ω (by decide) (λj L=>(K _ ω).1) (λj L=>(K _ ω).2);have k:Hid (M.length=(n - (i+(n - (i+1))))*4):=E;have H:Hid (∀v∈M,v.oneCell'=true):=F;have W:Hid (p=w.drew.setCells g (0+i*4) news):=d;have hic:i<=c:=ω
 have N:i+1<=c:=ω
 have O:¬i=i+1:=ω
 have Q:i+1<=n:=r;have l:n - 1=i+(n - (i+1)):=ω
 clear d K b B C o E F;rw[l];generalize L:i+1=j at X a T G k N O Q l |-;obtain⟨J,R,S⟩ : ∃J,Tryz.prog.info? 71=some J/\J.size=4:=by
  have h:=(qC 71 _ rfl).1;cases e : Tryz.prog.info? 71 with
  | none=>rw[e]at h;cases h
  | some x=>rw[e]at h;simp only[O4,U0,Prod.mk.injEq]at h;exact⟨x,rfl,h.2.1⟩
 have mixed : Tryz.prog.follows .mixedOrders=true:=by kernel_rfl
 go_enter Tryz.func131,Tryz.ntmps131
 go_wp2_with fail
 go_region_law_o (refine step_append_room rfl (.tmp 22) (.tmp 25) 39 rfl 71 J 4 Tryz.underlying39 R S g 0 i c (by simp[Act.eval,Act.put]) A (n - j) (c - j) news (by simp[Act.eval,Act.put]) T.out a.out Y.out ω Z.out ?_;rw[<-W.out])
 go_wp2
 go_ret
 refine⟨rfl,M,by have:=k.out;omega,H.out,?_⟩;rw[W.out,Q5]
theorem E6(xs:List bm):PQ (xs.map (bm.enc .own)):=λr b c a=>by
 obtain⟨s,-,rfl⟩:=U3.1 b;simp[bm.enc]at a;rcases a with rfl|rfl|rfl|rfl<;>exact⟨_,rfl⟩
theorem uL(xs:List bm)(i:Nat)(a:i<xs.length):aP Tryz.prog 131 false [.mut none [.s .own (xs.map (bm.enc .own))],.val none [I (i:Nat)],.val none [I ((i+1:Nat):Int)]] [.mut none [.x],.val none [I (i:Nat)],.val none [I ((i+1:Nat):Int)]] .one [oE ((dele xs i).map (bm.enc .own))]:=by
 have h:=F4 E3 (rows:=xs.map (bm.enc .own)) (i:=i) (by rw[W0];exact a) (aI λ_=>rfl) (E6 xs)
 rwa [show dele (xs.map (bm.enc .own)) i=(dele xs i).map (bm.enc .own) by simp[dele,R3,T3]]at h
theorem Fw:∀w,(zeroValue 173).run Tryz.prog w=.ok (.agg #[.int .i64 0,.int .i64 0,.int .i64 0]) w:=λ_=>by kernel_rfl
theorem Be:zG Tryz.prog 134 3:=by
 refine⟨⟨_,Tryz.func134,by kernel_rfl,by kernel_rfl⟩,λw g n c i news r y o B C b=>?_⟩;obtain⟨A,X,a⟩:=AS o y r B;have a:Hid (∀t u,news[t]? = some u->w.drew.cell? (A.add t)=some u):=a;have T:Hid (news.length=(n - (i+1))*3):=o;have Y:Hid (∀u∈news,u.oneCell'=true):=C;have Z:Hid (∀t,t<news.length->(w.drew.cell? ⟨g,0+i*3+t,none⟩).isSome=true/\w.drew.frozen? ⟨g,0+i*3+t,none⟩ = false):=λt ht=>by
  rw[Q5];exact b (i*3+t) ω
 obtain⟨p,d⟩ : ∃p,p=w.drew.setCells g (0+i*3) news:=⟨_,rfl⟩
 have K:∀q,q<n*3->(p.cell? ⟨g,q,none⟩).isSome=true/\p.frozen? ⟨g,q,none⟩ = false:=λq U=>by
  have D:∀j,j<news.length->∃z,cel w.drew g (0+i*3+j)=some z:=λj L=>by
   have:=(b (0+i*3+j) ω).1;exact Option.isSome_iff_exists.1 this
  refine⟨?_,by rw[d];exact(T0 Prod.fst (cC g _ news w.drew g q)).trans (b q U).2⟩;rw[d];by_cases h:0+i*3<=q/\q<0+i*3+news.length
  ·have:=cW D (U1 (show q - (0+i*3)<news.length by omega))
   rw[show 0+i*3+(q - (0+i*3))=q by omega]at this;show(cel _ g q).isSome=true;rw[this];rfl
  ·show(cel _ g q).isSome=true
   rw[bT (λx=>h x.2)];exact(b q U).1
 obtain⟨M,E,F,G⟩:=Au (P:=Tryz.prog) p 38 173 3 (.agg #[.int .i64 0,.int .i64 0,.int .i64 0]) Tryz.underlying38 Fw rfl (by intro v V;simp[Value.cells]at V;subst V;rfl) g ((i+(n - (i+1)))*3) (n - (i+(n - (i+1)))) ω (by decide) (λj L=>(K _ ω).1) (λj L=>(K _ ω).2);have k:Hid (M.length=(n - (i+(n - (i+1))))*3):=E;have H:Hid (∀v∈M,v.oneCell'=true):=F;have W:Hid (p=w.drew.setCells g (0+i*3) news):=d;have hic:i<=c:=ω
 have N:i+1<=c:=ω
 have O:¬i=i+1:=ω
 have Q:i+1<=n:=r;have l:n - 1=i+(n - (i+1)):=ω
 clear d K b B C o E F;rw[l];generalize L:i+1=j at X a T G k N O Q l |-;obtain⟨J,R,S⟩ : ∃J,Tryz.prog.info? 173=some J/\J.size=3:=by
  have h:=(qC 173 _ rfl).1;cases e : Tryz.prog.info? 173 with
  | none=>rw[e]at h;cases h
  | some x=>rw[e]at h;simp only[O4,U0,Prod.mk.injEq]at h;exact⟨x,rfl,h.2.1⟩
 have mixed : Tryz.prog.follows .mixedOrders=true:=by kernel_rfl
 go_enter Tryz.func134,Tryz.ntmps134
 go_wp2_with fail
 go_region_law_o (refine step_append_room rfl (.tmp 22) (.tmp 25) 38 rfl 173 J 3 Tryz.underlying38 R S g 0 i c (by simp[Act.eval,Act.put]) A (n - j) (c - j) news (by simp[Act.eval,Act.put]) T.out a.out Y.out ω Z.out ?_;rw[<-W.out])
 go_wp2
 go_ret
 refine⟨rfl,M,by have:=k.out;omega,H.out,?_⟩;rw[W.out,Q5]
theorem zT(xs:List ax):PQ (xs.map (ax.enc .own)):=λr b c a=>by
 obtain⟨s,-,rfl⟩:=U3.1 b;simp[ax.enc]at a;rcases a with rfl|rfl|rfl<;>exact⟨_,rfl⟩
theorem qZ(xs:List ax)(i:Nat)(a:i<xs.length):aP Tryz.prog 134 false [.mut none [.s .own (xs.map (ax.enc .own))],.val none [I (i:Nat)],.val none [I ((i+1:Nat):Int)]] [.mut none [.x],.val none [I (i:Nat)],.val none [I ((i+1:Nat):Int)]] .one [oE ((dele xs i).map (ax.enc .own))]:=by
 have h:=F4 Be (rows:=xs.map (ax.enc .own)) (i:=i) (by rw[W0];exact a) (aI λ_=>rfl) (zT xs)
 rwa [show dele (xs.map (ax.enc .own)) i=(dele xs i).map (ax.enc .own) by simp[dele,R3,T3]]at h
theorem Hl:∀w,(zeroValue 75).run Tryz.prog w=.ok (.agg #[.int .i64 0,.int .i64 0,.int .i64 0]) w:=λ_=>by kernel_rfl
theorem DM:zG Tryz.prog 188 3:=by
 refine⟨⟨_,Tryz.func188,by kernel_rfl,by kernel_rfl⟩,λw g n c i news r y o B C b=>?_⟩;obtain⟨A,X,a⟩:=AS o y r B;have a:Hid (∀t u,news[t]? = some u->w.drew.cell? (A.add t)=some u):=a;have T:Hid (news.length=(n - (i+1))*3):=o;have Y:Hid (∀u∈news,u.oneCell'=true):=C;have Z:Hid (∀t,t<news.length->(w.drew.cell? ⟨g,0+i*3+t,none⟩).isSome=true/\w.drew.frozen? ⟨g,0+i*3+t,none⟩ = false):=λt ht=>by
  rw[Q5];exact b (i*3+t) ω
 obtain⟨p,d⟩ : ∃p,p=w.drew.setCells g (0+i*3) news:=⟨_,rfl⟩
 have K:∀q,q<n*3->(p.cell? ⟨g,q,none⟩).isSome=true/\p.frozen? ⟨g,q,none⟩ = false:=λq U=>by
  have D:∀j,j<news.length->∃z,cel w.drew g (0+i*3+j)=some z:=λj L=>by
   have:=(b (0+i*3+j) ω).1;exact Option.isSome_iff_exists.1 this
  refine⟨?_,by rw[d];exact(T0 Prod.fst (cC g _ news w.drew g q)).trans (b q U).2⟩;rw[d];by_cases h:0+i*3<=q/\q<0+i*3+news.length
  ·have:=cW D (U1 (show q - (0+i*3)<news.length by omega))
   rw[show 0+i*3+(q - (0+i*3))=q by omega]at this;show(cel _ g q).isSome=true;rw[this];rfl
  ·show(cel _ g q).isSome=true
   rw[bT (λx=>h x.2)];exact(b q U).1
 obtain⟨M,E,F,G⟩:=Au (P:=Tryz.prog) p 37 75 3 (.agg #[.int .i64 0,.int .i64 0,.int .i64 0]) Tryz.underlying37 Hl rfl (by intro v V;simp[Value.cells]at V;subst V;rfl) g ((i+(n - (i+1)))*3) (n - (i+(n - (i+1)))) ω (by decide) (λj L=>(K _ ω).1) (λj L=>(K _ ω).2);have k:Hid (M.length=(n - (i+(n - (i+1))))*3):=E;have H:Hid (∀v∈M,v.oneCell'=true):=F;have W:Hid (p=w.drew.setCells g (0+i*3) news):=d;have hic:i<=c:=ω
 have N:i+1<=c:=ω
 have O:¬i=i+1:=ω
 have Q:i+1<=n:=r;have l:n - 1=i+(n - (i+1)):=ω
 clear d K b B C o E F;rw[l];generalize L:i+1=j at X a T G k N O Q l |-;obtain⟨J,R,S⟩ : ∃J,Tryz.prog.info? 75=some J/\J.size=3:=by
  have h:=(qC 75 _ rfl).1;cases e : Tryz.prog.info? 75 with
  | none=>rw[e]at h;cases h
  | some x=>rw[e]at h;simp only[O4,U0,Prod.mk.injEq]at h;exact⟨x,rfl,h.2.1⟩
 have mixed : Tryz.prog.follows .mixedOrders=true:=by kernel_rfl
 go_enter Tryz.func188,Tryz.ntmps188
 go_wp2_with fail
 go_region_law_o (refine step_append_room rfl (.tmp 22) (.tmp 25) 37 rfl 75 J 3 Tryz.underlying37 R S g 0 i c (by simp[Act.eval,Act.put]) A (n - j) (c - j) news (by simp[Act.eval,Act.put]) T.out a.out Y.out ω Z.out ?_;rw[<-W.out])
 go_wp2
 go_ret
 refine⟨rfl,M,by have:=k.out;omega,H.out,?_⟩;rw[W.out,Q5]
theorem DR(xs:List au):PQ (xs.map (au.enc .own)):=λr b c a=>by
 obtain⟨s,-,rfl⟩:=U3.1 b;simp[au.enc]at a;rcases a with rfl|rfl|rfl<;>exact⟨_,rfl⟩
theorem Bq(xs:List au)(i:Nat)(a:i<xs.length):aP Tryz.prog 188 false [.mut none [.s .own (xs.map (au.enc .own))],.val none [I (i:Nat)],.val none [I ((i+1:Nat):Int)]] [.mut none [.x],.val none [I (i:Nat)],.val none [I ((i+1:Nat):Int)]] .one [oE ((dele xs i).map (au.enc .own))]:=by
 have h:=F4 DM (rows:=xs.map (au.enc .own)) (i:=i) (by rw[W0];exact a) (aI λ_=>rfl) (DR xs)
 rwa [show dele (xs.map (au.enc .own)) i=(dele xs i).map (au.enc .own) by simp[dele,R3,T3]]at h
theorem xp(c:aA)(k:Nat)(a:Int)(g:bo c=true)(y:k<=3):ao Tryz.prog 225 false [.val (some 1) (aA.enc .imm c),.val none [I (k:Nat)],.val none [I a]] (.tup [some 1,none]) (vD c k a):=by
 obtain⟨B,q⟩:=dL g;have r:aA.sml c:=⟨ω,λl u=>by have:=q l u;show l.length<=1048576;omega⟩
 have h:=Ff c k r;rw[g,O0 ω]at h;have t:=nz c r;have j:=DU g k a;have n:=lY (jo c k a) j;have b:=oz (c:=c) (k:=k) ω;have w:=q _ (am (xs:=c.Lists) (i:=k) ω);have o:=CY (jo c k a);rw[vY]at o;have d:=DY c k a;unfold vD at d |-;cases e:bo (jo c k a)<;>rw[e]at n
 ·have p:cput c k a=none:=by unfold cput;rw[C7 λx=>by have:=x.2.2.2;rw[I2,e]at this;cases this]
  rw[p]at d |-;refine fO 35 [(4,267,[17,18,19,20,21,22,23,24,25,26,28,0,1,2,3,4,5,6,7,8,9,10,1000,1001,1002,11,12])] Tryz.func225 rfl ?_ (.inr d)
  repeat'(first|refine gO ?_|(conv=>whnf);first|with_reducible refine CA (aa b) ?_|refine C9 ?_|refine CA (dn b) ?_|refine CF rfl (dn b) rfl ?_|refine C6 (h) ?_|refine C6 (t) ?_|refine Lq.one rfl rfl (aa b) rfl (X0 rfl) rfl rfl ?_|refine CF rfl (aa b) rfl ?_|refine CL rfl rfl (dn b) rfl (X0 rfl) (show [C.s dw.own ((c.Lists.map (aD .own)).set k (aD .own (nth c.Lists k++[a])))]=_ from by simp only[List.set_cons_zero,List.set_set,I2];rfl) ?_|refine CT (aI λ_=>rfl) rfl (by simp;omega) (by decide) (ew _ _ _) ?_|refine CD (n) ⟨⟨rfl,o⟩,trivial⟩ ?_)
  rfl
 ·have p:cput c k a=some (jo c k a):=by unfold cput;rw[C8 ⟨g,ω,ω,by rw[I2];exact e⟩,I2]
  rw[p]at d |-;rw[show(some (jo c k a)).getD c=jo c k a from rfl,vY]at d |-;refine fO 35 [(4,267,[17,18,19,20,21,22,23,24,25,26,28,0,1,2,3,4,5,6,7,8,9,10,1000,1001,1002,11,12])] Tryz.func225 rfl ?_ (.inr d)
  repeat'(first|refine gO ?_|(conv=>whnf);first|with_reducible refine CA (aa b) ?_|refine C9 ?_|refine CA (dn b) ?_|refine CF rfl (dn b) rfl ?_|refine C6 (h) ?_|refine C6 (t) ?_|refine Lq.one rfl rfl (aa b) rfl (X0 rfl) rfl rfl ?_|refine CF rfl (aa b) rfl ?_|refine CL rfl rfl (dn b) rfl (X0 rfl) (show [C.s dw.own ((c.Lists.map (aD .own)).set k (aD .own (nth c.Lists k++[a])))]=_ from by simp only[List.set_cons_zero,List.set_set,I2];rfl) ?_|refine CT (aI λ_=>rfl) rfl (by simp;omega) (by decide) (ew _ _ _) ?_|refine CD (n) ⟨⟨rfl,o⟩,trivial⟩ ?_)
  rfl
theorem FB(c:Nat)(W:World):Calls Tryz.prog 224 #[.slice none 0 c] W λe g=>∃B q h,e=.returned (.slice B 0 0)/\g=Sort.grow (W.drewN q) h:=by
 have q22:∀(w:World)(a:Option Addr)(n c b d:Nat),(binOp .eql 44 (.slice a n c) (.slice none b d)).run Tryz.prog w=.ok (.bool a.isNone) w:=λw a n c b d=>Lib.run_eql_slice_nil w _ _ a n c b d Tryz.underlying44
 go_enter Tryz.func224,Tryz.ntmps224
 go_wp2
 go_ret
 exact⟨none,0,#[],rfl,by simp[Sort.grow,World.drewN]⟩
theorem B5(a:Addr)(c:Nat)(W:World):Calls Tryz.prog 224 #[.slice (some a) 0 c] W λe g=>∃B q h,e=.returned (.slice B 0 0)/\g=Sort.grow (W.drewN q) h:=by
 have q22:∀(w:World)(a:Option Addr)(n c b d:Nat),(binOp .eql 44 (.slice a n c) (.slice none b d)).run Tryz.prog w=.ok (.bool a.isNone) w:=λw a n c b d=>Lib.run_eql_slice_nil w _ _ a n c b d Tryz.underlying44
 go_enter Tryz.func224,Tryz.ntmps224
 go_wp2
 go_ret
 exact⟨some ⟨W.heap.size,0,none⟩,0,#[.cells #[] 185],rfl,by rw[Sort.alloc_eq_grow];rfl⟩
theorem qH(xs:List aL)(o:xs.length<=1048576):ao Tryz.prog 224 false [.val none (bQ .imm xs)] .one (bQ .own xs):=by
 by_cases d:xs=[]
 ·subst d
  refine⟨⟨_,Tryz.func224,by kernel_rfl,by kernel_rfl⟩,λw S p t g=>?_⟩
  match p,g with
  | [v],⟨g,_⟩=>
   have c:=bD.rep1 (show bD w S NO none [C.s .imm []] v from g);obtain⟨l,b,rfl⟩:=c.slice;have r:Calls Tryz.prog 224 #[.slice l 0 b] w λe n=>∃B q i,e=.returned (.slice B 0 0)/\n=Sort.grow (w.drewN q) i:=by
    cases l with
    | none=>exact FB b w
    | some a=>exact B5 a b w
   refine r.mono λe n ⟨B,q,i,d,j⟩=>?_
   subst j;exact⟨.slice B 0 0,d,vI w q i,NO,NO,λ_ _ h=>h.elim,λ_ _ h=>h.elim,λ_ _ h=>h.elim,rfl,row1 (.nil _ .own B trivial)⟩
 ·have k:xs.map (aL.enc .imm)≠[]:=λe=>d (List.map_eq_nil_iff.1 e)
  refine fO 8 [] Tryz.func224 rfl ?_ (.inr (mZ _))
  repeat'(first|refine gO ?_|(conv=>whnf);first|refine C9 ?_|refine Nn.mk k ?_|refine CM (λ_=>rfl) (λ_=>rfl) o (by decide) ?_)
  rfl
theorem Aw(q:bz)(a:aL)(F:q.Lst.length<=4096)(i:fj q=true)(d:0<=a.Class/\a.Class<=3/\0<=a.Addr/\0<=a.Since)(o:∀y∈q.Lst,y.Since<=a.Since)(p:∀y∈q.Lst,y.Addr≠a.Addr) :
  ao Tryz.prog 138 false [.val (some 2) (bz.enc .imm q),.val (some 3) (aL.enc .imm a)] (.tup [some 2,none]) (JH q a):=by
 have b:bz.sml q:=⟨ω,λ_ _=>trivial⟩
 have r:=pd q b;have j:=sW q b;rw[i]at j;have l:=qt q.Lst a ω;have t:q.Lst.length=0\/(nth q.Lst (q.Lst.length - 1)).Since<=a.Since:=by
  by_cases e:q.Lst.length=0
  ·exact .inl e
  ·exact .inr (o _ (am ω))
 have g:kL q.Lst a=true:=by
  unfold kL;rw[O0 ⟨d.1,d.2.1,d.2.2.1,d.2.2.2,t⟩,show q.Lst.any (d9 a.Addr)=false by rw[List.any_eq_false];intro y u;unfold d9;simpa using p y u];rfl
 rw[g]at l;have w:=(ij.1 i).2.2.2;have h:=FZ q a;have c:=wz q.Room (q.Lst++[a]);simp only[W2,List.length_singleton]at c;have G:(q.Lst++[a]).length=q.Lst.length+1:=by simp
 refine fO 51 [(6,7,[28,29,30,31,32,33,34])] Tryz.func138 rfl ?_ (.inr h)
 repeat'(first|refine gO ?_|(conv=>whnf);first|refine C9 ?_|refine C6 (r) ?_|refine C6 (j) ?_|refine C6 (l) ?_|refine CT (aI λ_=>rfl) rfl (by simp;omega) (by decide) (ew (aL.enc .own) q.Lst a) ?_)
 (conv=>whnf)
 refine Lp.fz 6 (ι:=Nat) (λk=>[(2,.hold .box (bz.enc .imm q)),(4,.hold .box [I 0,.z]),(6,.hold .box (bz.enc .imm ⟨q.Room,q.Lst++[a]⟩)),(7,.hold .one [I (k:Nat)])]) (λk=>k<=hO q.Room (q.Lst++[a])) (λk=>hO q.Room (q.Lst++[a]) - k) 0 ?_ (R0 _) λk H=>?_
 ·(repeat'(first|exact trivial|rfl|exact CH rfl (show Jx (dA (bz.enc .own ⟨q.Room,q.Lst++[a]⟩)) (bz.enc .imm ⟨q.Room,q.Lst++[a]⟩) by rw[bz.enc_fz];exact jZ _)|refine CH ?_ ?_))
 have B:((q.Lst++[a]).drop k).length<=5000:=by rw[X2];omega
 have C:((q.Lst++[a]).take k).length<=5000:=by rw[I1];omega
 have n:=nC ((q.Lst++[a]).drop k) ⟨ω,λ_ _=>trivial⟩;by_cases D:k<hO q.Room (q.Lst++[a])
 ·have E:q.Room<quarCells ((q.Lst++[a]).drop k) ((q.Lst++[a]).drop k).length:=rz D
  repeat'(first|refine gD ?_|(conv=>whnf);first|refine C9 ?_|refine CU k rfl (by rw[W0];show k<=(q.Lst++[a]).length;omega) (aI λ_=>rfl) T3 ?_|refine C6 (n) ?_|refine C9 ?_)
  ((conv=>whnf);refine CB (k+1) ω ω ?_;(exact wB))
 ·obtain rfl:k=hO q.Room (q.Lst++[a]):=ω
  have E:quarCells ((q.Lst++[a]).drop (hO q.Room (q.Lst++[a]))) ((q.Lst++[a]).drop (hO q.Room (q.Lst++[a]))).length<=q.Room:=u7 w.1 _
  repeat'(first|refine gD ?_|(conv=>whnf);first|refine C9 ?_|refine CU (hO q.Room (q.Lst++[a])) rfl (by rw[W0];show hO q.Room (q.Lst++[a])<=(q.Lst++[a]).length;omega) (aI λ_=>rfl) T3 ?_|refine CS (hO q.Room (q.Lst++[a])) rfl (by rw[W0];show hO q.Room (q.Lst++[a])<=(q.Lst++[a]).length;omega) (aI λ_=>rfl) R3 ?_|refine C6 (n) ?_|refine C6 (qH ((q.Lst++[a]).take (hO q.Room (q.Lst++[a]))) ω) ?_|refine C6 (qH ((q.Lst++[a]).drop (hO q.Room (q.Lst++[a]))) ω) ?_)
  rfl
theorem H1(h:ab)(p:Int):ao Tryz.prog 104 false [.val (some 24) (ab.enc .imm h),.val none [I p]] .one [B (eR h p)]:=by
 cases e:h.Meshing
 all_goals
  have b:ab.enc .imm h=(ab.enc .imm h).set 18 (B h.Meshing):=rfl;rw[e]at b;rw[b];refine fO 23 [] Tryz.func104 rfl ?_
  repeat'(first|refine gO ?_|(conv=>whnf);first|with_reducible (first|refine Bf.D (λa=>?_) (λa=>?_)|refine Bf.E (λa=>?_) (λa=>?_)|refine Bf.N (λa=>?_) (λa=>?_))|refine C9 ?_)
  all_goals exact T0 (λz=>[B z]) ((by unfold eR;rw[e];first|(simp[*];done)|(simp[*];rw[Z3];simp;try omega)|(rw[Z3];simp[*];try omega)))
theorem zX(h:ab):ao Tryz.prog 66 false [.val (some 24) (ab.enc .imm h)] .one [I (dU h:Nat)]:=by
 refine fO 9 [] Tryz.func66 rfl ?_
 repeat'(first|refine gO ?_|(conv=>whnf);first|refine C9 ?_)
 rfl
theorem dx(c:C):LZ c c:=(jZ [c]).1
def cE(h:ab)(s l o:C):List C:=[.s .own (h.Kernel.Machine.Frames.Cells.map (aD .own)),.s .own (h.Kernel.Machine.Frames.Used.map (rB .own)),.s .own (h.Kernel.Machine.Table.Entries.map (bi.enc .own)),I h.Kernel.Calls,.s .own (h.Kernel.Refuse.map (rI .own)),.s .own (h.Free.map (ay.enc .own)),s,l,o,.s .own (h.Caches.map (aA.enc .own)),.s .own (h.Mail.Buffers.map (bN .own)),.s .own (h.Mail.Inbox.map (aD .own)),I h.Quar.Room,.s .own (h.Quar.Lst.map (aL.enc .own)),I h.Seed,I h.Clock,I h.Limit,I h.Next,B h.Meshing,I h.Job.Plan.Keep,I h.Job.Plan.Move,.s .own (h.Job.Plan.Cells.map (rI .own)),I h.Job.Phase,I h.Job.Next]
def oS(h:ab):C:=oE (h.Spans.map (au.enc .own))
def oL(h:ab):C:=oE (h.Larges.map (ax.enc .own))
def oO(h:ab):C:=oE (h.Objs.map (bm.enc .own))
def gq(h:ab):List C:=cE h (oS h) (oL h) (oO h)
theorem JJ(rows:List (List C)):fz (oE rows)=fz (.s .own rows):=by cases rows<;>rfl
theorem oV{rows:List (List C)} : oE rows=.s .own rows\/(rows=[]/\oE rows=.s .imm []):=by cases rows with|nil=>exact .inr ⟨rfl,rfl⟩|cons=>exact .inl rfl
theorem P2(h:ab){s l o:C}(a:fz s=.s .imm (h.Spans.map (au.enc .imm)))(b:fz l=.s .imm (h.Larges.map (ax.enc .imm)))(c:fz o=.s .imm (h.Objs.map (bm.enc .imm))):dA (cE h s l o)=ab.enc .imm h:=by
 have d:=ab.enc_fz h;have e:dA (cE h s l o)=(((dA (ab.enc .own h)).set 6 (fz s)).set 7 (fz l)).set 8 (fz o):=rfl;rw[e,d,a,b,c];rfl
theorem PO(h:ab):fz (oS h)=.s .imm (h.Spans.map (au.enc .imm)):=(JJ _).trans (uD _)
theorem Nr(h:ab):fz (oL h)=.s .imm (h.Larges.map (ax.enc .imm)):=(JJ _).trans (rC _)
theorem PK(h:ab):fz (oO h)=.s .imm (h.Objs.map (bm.enc .imm)):=(JJ _).trans (ul _)
theorem uy(h:ab):dA (gq h)=ab.enc .imm h:=P2 h (PO h) (Nr h) (PK h)
theorem EF{rows:List (List C)}(h:Nw rows):NH (oE rows):=by cases rows with|nil=>exact⟨.inr rfl,trivial⟩|cons r a=>exact⟨.inl λe=>(by cases e),h⟩
theorem iQ(h:ab):gr (gq h):=by
 have a:=ab.enc_fr h;simp only[ab.enc,gr]at a;unfold gq cE;simp only[gr];refine⟨a.1,a.2.1,a.2.2.1,a.2.2.2.1,a.2.2.2.2.1,a.2.2.2.2.2.1,EF ?_,EF ?_,EF ?_,a.2.2.2.2.2.2.2.2.2⟩
 ·exact a.2.2.2.2.2.2.1.2
 ·exact a.2.2.2.2.2.2.2.1.2
 ·exact a.2.2.2.2.2.2.2.2.1.2
theorem Fg{w:World}{S Y:ac}{rows:List (List C)}{v:Value}(h:dX w S Y (.s .own rows) v):dX w S Y (oE rows) v:=by
 cases rows with
 | cons=>exact h
 | nil=>
  cases h with
  | nil _ o a d=>exact .nil _ .imm a trivial
  | own _ o g k n e rows u f d i j b c l p q r t=>simp at i;omega
theorem Ku{w:World}{S Y:ac}{h:ab}{u:Nat->Value}(d:cH w S Y (ab.enc .own h) u):cH w S Y (gq h) u:=by
 obtain⟨f,b,e,g⟩:=d;refine⟨f,λj c a=>?_,e,g⟩;have i:gq h=(((ab.enc .own h).set 6 (oS h)).set 7 (oL h)).set 8 (oO h):=rfl;rw[i]at a;by_cases k:j=8
 ·subst k
  have:c=oO h:=by simpa[ab.enc] using a.symm
  rw[this];exact Fg (b 8 _ rfl)
 by_cases l:j=7
 ·subst l
  have:c=oL h:=by simpa[ab.enc] using a.symm
  rw[this];exact Fg (b 7 _ rfl)
 by_cases n:j=6
 ·subst n
  have:c=oS h:=by simpa[ab.enc] using a.symm
  rw[this];exact Fg (b 6 _ rfl)
 ·rw[List.getElem?_set_ne ω,List.getElem?_set_ne ω,List.getElem?_set_ne ω]at a
  exact b j c a
theorem w7(h:ab)(a:ab.sml h):ao Tryz.prog 65 false [.val (some 24) (ab.enc .imm h)] .agg (gq h):=by
 obtain⟨b,c⟩:=yl h a;refine⟨b,λw S d g i=>(c w S d g i).mono λe w1 j=>?_⟩;obtain⟨v,k,l,X,n,o,p,q,r,t⟩:=j;exact⟨v,k,l,X,n,o,p,q,r,Ku t⟩
theorem HB(h:ab)(s l o:C)(a:Int)(k:Nat)(v:Int)(b:0<=a):cE {h with Kernel:=dP h.Kernel a (k+1)} s l o=(cE {h with Kernel:=dP h.Kernel a k} s l o).set 0 (.s .own (((dP h.Kernel a k).Machine.Frames.Cells.map (aD .own)).set (ar h.Kernel.Machine.Table (a / 16)).Frame.toNat ((aD .own (iB (nth h.Kernel.Machine.Frames.Cells (dZ h.Kernel a)) (a % 16).toNat k)).set 0 (.s .own (((iB (nth h.Kernel.Machine.Frames.Cells (dZ h.Kernel a)) (a % 16).toNat k).map (rI .own)).set (a % 16+k).toNat (splice (rI .own v) 0 [I 0])))))):=by
 have e:(a % 16+k).toNat=(a % 16).toNat+k:=ω
 rw[e];simp[cE,dP,Z4,iB,aD,splice,dZ]
 rfl
theorem mN(h:ab)(s l o:C)(a:Int)(n:Nat)(p:aB h.Kernel=true)(e:0<=a/\a<512)(r:0<=(ar h.Kernel.Machine.Table (a / 16)).Frame/\(ar h.Kernel.Machine.Table (a / 16)).Frame<h.Kernel.Machine.Frames.Cells.length)(y:a % 16+n<=16)(t:(nth h.Kernel.Machine.Frames.Cells (dZ h.Kernel a)).length=16) :
  aP Tryz.prog 136 false [.ptr (cE h s l o),.val none [I a],.val none [I (n:Nat)]] [.ptr (cE {h with Kernel:=dP h.Kernel a n} s l o),.val none [I a],.val none [I (n:Nat)]] (.tup []) []:=by
 have g:=bp p;have w:=eK h.Kernel.Machine.Table (a / 16) g.1.2;have c:dZ h.Kernel a<h.Kernel.Machine.Frames.Cells.length:=by unfold dZ;omega
 refine fM 36 [] [] [(0,0),(0,0),(0,0)] Tryz.func136 rfl (λu q=>?_) (.inr trivial)
 repeat'(first|refine gO ?_|(conv=>whnf);first|refine C9 ?_|refine CK (by decide) ?_|refine CI (js e) ?_|refine CD (w) ⟨⟨rfl,CV _⟩,⟨rfl,rfl⟩,trivial⟩ ?_)
 rw[show cE h s l o=cE {h with Kernel:=dP h.Kernel a 0} s l o by rw[AG h a c]]
 (conv=>whnf)
 refine CC (ι:=Nat) (λk=>[(0,.hold .box (cE {h with Kernel:=dP h.Kernel a k} s l o)),(1,.hold .one [I (a)]),(2,.hold .one [I ((n:Nat):Int)]),(6,.hold .one [I ((ar h.Kernel.Machine.Table (a / 16)).Frame)]),(7,.hold .one [I ((k:Nat):Int)])]) (λk=>k<=n) (λk=>n - k) (0) ?_ (R0 _) λk p=>?_
 ·exact wC
 have j:a.tmod 16=a % 16:=eM e.1;have b:(dP h.Kernel a k).Machine.Frames.Cells[(ar h.Kernel.Machine.Table (a / 16)).Frame.toNat]? = some (iB (nth h.Kernel.Machine.Frames.Cells (dZ h.Kernel a)) (a % 16).toNat k):=v3 c;by_cases B:k<n
 ·have d:=ah (xs:=iB (nth h.Kernel.Machine.Frames.Cells (dZ h.Kernel a)) (a % 16).toNat k) (i:=(a % 16+k).toNat) (by rw[lv,t];omega)
  repeat'(first|refine gD ?_|(conv=>whnf);first|refine C9 ?_|refine CK (by decide) ?_|refine CO j ?_|refine CJ r.1 (aa b) ?_|refine CF rfl (aa b) rfl ?_|refine CJ ω (aa d) ?_|refine Pu.two rfl rfl (aa b) rfl rfl rfl (aa d) rfl (R2 _) (HB h s l o a k _ e.1) ?_)
  ((conv=>whnf);refine CB (k+1) ω ω ?_;(exact wC))
 ·obtain rfl:k=n:=ω
  repeat'(first|refine gD ?_|(conv=>whnf);first|refine C9 ?_)
  refine CE rfl rfl ?_;exact wC
theorem ka(h:ab)(r:ay)(n:Nat)(a:aB h.Kernel=true)(e:h.Kernel.Calls≠100000)(b:h.Free.length<=1048576)(l:r.Len=n/\0<=r.At/\r.At<=1000/\n<=1000) :
  aP Tryz.prog 135 false [.ptr (gq h),.val (some 2) (ay.enc .imm r)] [.ptr (gq {h with Kernel:=d6 h.Kernel r.At n,Free:=(bX (dU h) h.Free r).getD h.Free}),.val (some 2) (ay.enc .imm r)] (.tup []) []:=by
 have c:=a;have g:dU h<=32:=(br.1 (aC.1 a).2.2.1).2.2;have d:=zX {h with Kernel:=d6 h.Kernel r.At n};rw[show dU {h with Kernel:=d6 h.Kernel r.At n} = dU h from(gz _ _ _).1]at d;have i:=xB (dU h:Nat) h.Free r ⟨ω,ω⟩ ⟨b,λ_ _=>trivial⟩;refine fM 44 [] [(5,272,[29,30,31,32,33,34,35,36,37,38,39,28,40,41,42,43,0,1,2,3,4,5,6,7,8,9,10,11,12,13,14,15,16,1013])] [(0,0),(0,0)] Tryz.func135 rfl (λu q=>?_) (.inr trivial)
 repeat'(first|refine gO ?_|(conv=>whnf);first|refine C9 ?_)
 (conv=>whnf)
 refine CC (ι:=Nat) (λk=>[(0,.hold .box (gq {h with Kernel:=d6 h.Kernel r.At k})),(3,.hold .box (ay.enc .imm r)),(4,.hold .one [I ((r.At+k))])]) (λk=>k<=n) (λk=>n - k) (0) ?_ (R0 _) λk a=>?_
 ·exact wC
 by_cases o:k<n
 ·have j:=BM (d6 h.Kernel r.At k) (r.At+k) (jB c _ _) (by rw[(iO _ _ _).1];exact e)
  repeat'(first|refine gD ?_|(conv=>whnf);first|refine C9 ?_|refine CD (j) ⟨⟨rfl,CN _⟩,⟨rfl,rfl⟩,trivial⟩ ?_)
  ((conv=>whnf);refine CB (k+1) ω ω ?_;(exact wC))
 ·obtain rfl:k=n:=ω
  repeat'(first|refine gD ?_|(conv=>whnf);first|refine C9 ?_|refine CD (d) ⟨⟨rfl,uy _⟩,trivial⟩ ?_|refine CD (i) ⟨⟨rfl,rfl⟩,⟨rfl,d5 h.Free⟩,⟨rfl,rfl⟩,trivial⟩ ?_|refine C9 ?_)
  refine CE rfl rfl ?_;exact wC
theorem kP{c a:C}(h:a=c):LZ c a:=by subst h;exact dx _
theorem Ly(k:af)(p:Int):d6 k p 1=cr k p:=by show cr k (p+((0:Nat):Int))=_;rw[show p+((0:Nat):Int)=p by omega]
theorem rn{h:ab}(a:h.Spans≠[]):gq h=cE h (.s .own (h.Spans.map (au.enc .own))) (oL h) (oO h):=by
 unfold gq oS;rw[vb λe=>a (List.map_eq_nil_iff.1 e)]
theorem N2(h:ab):oL h=.s .own (h.Larges.map (ax.enc .own))\/(h.Larges=[]/\oL h=.s .imm []):=by
 rcases oV (rows:=h.Larges.map (ax.enc .own)) with e|⟨a,b⟩
 ·exact .inl e
 ·exact .inr ⟨List.map_eq_nil_iff.1 a,b⟩
theorem fV{α:Type}{xs:List α}{i:Nat}(h:i<xs.length):xs≠[]:=λe=>by subst e;cases h
theorem xK(h:ab)(i:Nat)(j:aB h.Kernel=true)(k:h.Kernel.Calls≠100000)(b:h.Free.length<=1048576)(c:i<h.Spans.length)(l:h.Spans.length<=1048576)(n:0<=(nth h.Spans i).Page/\(nth h.Spans i).Page<=31) :
  aP Tryz.prog 105 false [.ptr (gq h),.val none [I (i:Nat)]] [.ptr (gq (giveP h i)),.val none [I (i:Nat)]] (.tup []) []:=by
 have d:=ah c;have g:=Bq h.Spans i c;have a:=ka {h with Spans:=dele h.Spans i} ⟨(nth h.Spans i).Page,1⟩ 1 j k b ⟨rfl,n.1,by show(nth h.Spans i).Page<=1000;omega,ω⟩;rw[show d6 ({h with Spans:=dele h.Spans i} : ab).Kernel (ay.mk (nth h.Spans i).Page 1).At 1=cr h.Kernel (nth h.Spans i).Page from Ly _ _]at a;have o:gq {h with Spans:=dele h.Spans i} = cE h (oE ((dele h.Spans i).map (au.enc .own))) (oL h) (oO h):=rfl;rw[rn (fV c)];rcases oV (rows:=(dele h.Spans i).map (au.enc .own)) with e|⟨-,e⟩
 all_goals
  rw[o]at a;rw[e]at g a;refine fM 28 [(188,[1,0,0]),(135,[2,0])] [] [(0,0),(0,0)] Tryz.func105 rfl (λu q=>?_) (.inr trivial)
  repeat'(first|refine gO ?_|(conv=>whnf);first|with_reducible refine CA (aa d) ?_|refine C9 ?_|refine CF rfl (aa d) rfl ?_|refine CG (g) (.inl rfl) ?_|refine CG (a) (.inl rfl) ?_)
  refine CE rfl rfl ?_;exact wB
theorem K5{h:ab}{E:List Int}(c:bn h E){i:Nat}(d:i<h.Spans.length){a:Int}(b:eI (nth h.Spans i) a):denotes h.Spans h.Larges a = ⟨1,i,dv (nth h.Spans i) a,0⟩:=by
 rw[gC c.L d ⟨b.1,b.2.1⟩];unfold oh;rw[b.2.2.2,b.2.2.1];rfl
theorem tZ(h:ab)(E:List Int)(a:Int)(b:bn h (a::E))(G:h.Kernel.Calls≠100000):aP Tryz.prog 147 false [.ptr (gq h),.val none [I a]] [.ptr (gq (freeA h a)),.val none [I a]] (.tup []) []:=by
 obtain⟨c,t,H⟩:=b.at (b.hin a (O1 ..));have J:=(b.hin a (O1 ..)).bd b;have w:=b.lens;have K:=w.spans;have M:=w.larges;unfold freeA;generalize rD h a=i at c t;have l:=b.L.sok _ (am c);have N:=aF l;have d:=ah c;have j:=i7 h.Spans h.Larges a ⟨ω,λ_ _=>trivial⟩ ⟨ω,λ_ _=>trivial⟩;rw[K5 b c t]at j;have y:=xP (nth h.Spans i) (dv (nth h.Spans i) a) l t.2.2.2;have P:=b.give c t;have n:=H1 (clrS h i a) (nth h.Spans i).Page;rw[show eR (clrS h i a) (nth h.Spans i).Page=eR h (nth h.Spans i).Page from rfl]at n;have o:i<(clrS h i a).Spans.length:=by unfold clrS;simp only[C1];exact c
 have B:(nth (clrS h i a).Spans i).Page=(nth h.Spans i).Page:=by unfold clrS;simp only[cw,true_and];rw[C8 c];rfl
 have p:=xK (clrS h i a) i b.ker G (by show h.Free.length<=_;have:=w.free;omega) o (by unfold clrS;simp only[C1];omega) (by rw[B];omega);have g:gq (clrS h i a)=cE h (.s .own ((h.Spans.map (au.enc .own)).set i (au.enc .own (jJ (nth h.Spans i) (dv (nth h.Spans i) a))))) (oL h) (oO h):=by
  rw[rn (fV o)];show cE h (.s .own ((h.Spans.set i _).map _)) (oL h) (oO h)=_;rw[Z4]
 have r:=uy (clrS h i a);rw[g]at r p;have k:((h.Spans.map (au.enc .own)).set i (au.enc .own (jJ (nth h.Spans i) (dv (nth h.Spans i) a))))[i]? = some (au.enc .own (jJ (nth h.Spans i) (dv (nth h.Spans i) a))):=lZ c;rw[rn (fV c)];have C:=Nr h;unfold freeS;rcases N2 h with e|⟨D,e⟩
 all_goals
  try rw[D]at j
  rw[e]at p r C g |-;by_cases F:(jJ (nth h.Spans i) (dv (nth h.Spans i) a)).Bits=0
  ·cases O:eR h (nth h.Spans i).Page<;>rw[O]at n
   ·rw[C8 ⟨F,rfl⟩]
    refine fM 64 [(105,[2,0])] [(0,11,[6,7,8,9,10,11,12,13,14,15,4]),(2,277,[20,21,22,23,24,25,26,27,28,29,30,31,32,33,34,35,36,19,37,38,39,0,1,2,3,4,5,6,7,8,9,10,11,12,13,14,15,16,17,18,19,20,21,1019]),(3,9,[40,41,42,43,44,45,46,47,5]),(4,9,[48,49,50,51,52,53,54,55,56])] [(0,0),(0,0)] Tryz.func147 rfl (λu q=>?_) (.inr trivial)
    repeat'(first|refine gA ?_|(conv=>whnf);first|refine C9 ?_|refine CD (j) ⟨⟨rfl,dE _⟩,⟨rfl,gU _⟩,⟨rfl,rfl⟩,trivial⟩ ?_|refine CD (j) ⟨⟨rfl,dE _⟩,⟨rfl,rfl⟩,⟨rfl,rfl⟩,trivial⟩ ?_|refine CA (aa d) ?_|refine CA k ?_|refine CF rfl (aa d) rfl ?_|refine CF rfl k rfl ?_|refine C6 (y) ?_|refine C9 ?_|refine CL rfl rfl (aa d) rfl (X0 rfl) rfl ?_|refine CD (n) ⟨⟨rfl,r⟩,⟨rfl,rfl⟩,trivial⟩ ?_|refine CG (p) (.inl rfl) ?_)
    refine CE rfl rfl ?_;exact wB
   ·rw[C7 (λx=>by cases x.2),g]
    refine fM 64 [(105,[2,0])] [(0,11,[6,7,8,9,10,11,12,13,14,15,4]),(2,277,[20,21,22,23,24,25,26,27,28,29,30,31,32,33,34,35,36,19,37,38,39,0,1,2,3,4,5,6,7,8,9,10,11,12,13,14,15,16,17,18,19,20,21,1019]),(3,9,[40,41,42,43,44,45,46,47,5]),(4,9,[48,49,50,51,52,53,54,55,56])] [(0,0),(0,0)] Tryz.func147 rfl (λu q=>?_) (.inr trivial)
    repeat'(first|refine gA ?_|(conv=>whnf);first|refine C9 ?_|refine CD (j) ⟨⟨rfl,dE _⟩,⟨rfl,gU _⟩,⟨rfl,rfl⟩,trivial⟩ ?_|refine CD (j) ⟨⟨rfl,dE _⟩,⟨rfl,rfl⟩,⟨rfl,rfl⟩,trivial⟩ ?_|refine CA (aa d) ?_|refine CA k ?_|refine CF rfl (aa d) rfl ?_|refine CF rfl k rfl ?_|refine C6 (y) ?_|refine C9 ?_|refine CL rfl rfl (aa d) rfl (X0 rfl) rfl ?_|refine CD (n) ⟨⟨rfl,r⟩,⟨rfl,rfl⟩,trivial⟩ ?_|refine CG (p) (.inl rfl) ?_)
    refine CE rfl rfl ?_;exact wB
  ·rw[C7 (λx=>F x.1),g]
   refine fM 64 [(105,[2,0])] [(0,11,[6,7,8,9,10,11,12,13,14,15,4]),(2,277,[20,21,22,23,24,25,26,27,28,29,30,31,32,33,34,35,36,19,37,38,39,0,1,2,3,4,5,6,7,8,9,10,11,12,13,14,15,16,17,18,19,20,21,1019]),(3,9,[40,41,42,43,44,45,46,47,5]),(4,9,[48,49,50,51,52,53,54,55,56])] [(0,0),(0,0)] Tryz.func147 rfl (λu q=>?_) (.inr trivial)
   repeat'(first|refine gA ?_|(conv=>whnf);first|refine C9 ?_|refine CD (j) ⟨⟨rfl,dE _⟩,⟨rfl,gU _⟩,⟨rfl,rfl⟩,trivial⟩ ?_|refine CD (j) ⟨⟨rfl,dE _⟩,⟨rfl,rfl⟩,⟨rfl,rfl⟩,trivial⟩ ?_|refine CA (aa d) ?_|refine CA k ?_|refine CF rfl (aa d) rfl ?_|refine CF rfl k rfl ?_|refine C6 (y) ?_|refine C9 ?_|refine CL rfl rfl (aa d) rfl (X0 rfl) rfl ?_|refine CD (n) ⟨⟨rfl,r⟩,⟨rfl,rfl⟩,trivial⟩ ?_|refine CG (p) (.inl rfl) ?_)
   refine CE rfl rfl ?_;exact wB
theorem zw(h:ab)(E:List Int)(t:Nat)(a:Int)(b:bn h (a::E))(y:t<h.Caches.length)(F:h.Kernel.Calls≠100000):aP Tryz.prog 139 false [.ptr (gq h),.val none [I (t:Nat)],.val none [I a]] [.ptr (gq (recyc t h a)),.val none [I (t:Nat)],.val none [I a]] (.tup []) []:=by
 obtain⟨d,B,G⟩:=b.at (b.hin a (O1 ..));have H:=(b.hin a (O1 ..)).bd b;have C:=b.lens;have J:=C.spans;have K:=C.larges;have o:=b.cach _ (am y);have p:=tZ h E a b F;unfold recyc;generalize rD h a=i at d B;have r:=aF (b.L.sok _ (am d));have n:=ah d;have k:=ah y;have g:=i7 h.Spans h.Larges a ⟨ω,λ_ _=>trivial⟩ ⟨ω,λ_ _=>trivial⟩;rw[K5 b d B]at g;have j:=xp (nth h.Caches t) (nth h.Spans i).Class.toNat a o ω;rw[Int.toNat_of_nonneg r.2.2.1]at j;unfold vD at j;have l:∀c,gq {h with Caches:=h.Caches.set t c} = (cE h (.s .own (h.Spans.map (au.enc .own))) (oL h) (oO h)).set 9 (.s .own ((h.Caches.map (aA.enc .own)).set t (aA.enc .own c))):=λc=>by
  rw[rn (h:={h with Caches:=h.Caches.set t c}) (fV d)];show cE {h with Caches:=h.Caches.set t c} _ (oL h) (oO h)=_;simp[cE,Z4]
 rw[rn (fV d)]at p |-;rcases N2 h with e|⟨w,e⟩
 all_goals
  try rw[w]at g
  rw[e]at p l |-;cases D:cput (nth h.Caches t) (nth h.Spans i).Class a with
  | none=>
   rw[D]at j;refine fM 54 [(147,[2,0])] [(0,11,[9,10,11,12,13,14,15,16,17,18,6]),(2,278,[23,24,25,26,27,28,29,30,31,32,33,34,35,36,37,38,39,40,22,41,42,7,0,1,2,3,4,5,6,7,8,9,10,11,12,13,14,15,16,17,18,19,20,21,22,1020,23]),(4,6,[44,45,46,47,48,49])] [(0,0),(0,0),(0,0)] Tryz.func139 rfl (λu q=>?_) (.inr trivial)
   repeat'(first|refine gA ?_|(conv=>whnf);first|refine C9 ?_|refine CD (g) ⟨⟨rfl,dE _⟩,⟨rfl,gU _⟩,⟨rfl,rfl⟩,trivial⟩ ?_|refine CD (g) ⟨⟨rfl,dE _⟩,⟨rfl,rfl⟩,⟨rfl,rfl⟩,trivial⟩ ?_|refine CA (aa n) ?_|refine CA (aa k) ?_|refine CF rfl (aa n) rfl ?_|refine CF rfl (aa k) rfl ?_|refine CD (j) ⟨⟨rfl,CY _⟩,⟨rfl,rfl⟩,⟨rfl,rfl⟩,trivial⟩ ?_|refine C9 ?_|refine CG (p) (.inl rfl) ?_)
   refine CE rfl rfl ?_;exact wB
  | some c=>
   rw[D]at j;simp only;rw[l];refine fM 54 [(147,[2,0])] [(0,11,[9,10,11,12,13,14,15,16,17,18,6]),(2,278,[23,24,25,26,27,28,29,30,31,32,33,34,35,36,37,38,39,40,22,41,42,7,0,1,2,3,4,5,6,7,8,9,10,11,12,13,14,15,16,17,18,19,20,21,22,1020,23]),(4,6,[44,45,46,47,48,49])] [(0,0),(0,0),(0,0)] Tryz.func139 rfl (λu q=>?_) (.inr trivial)
   repeat'(first|refine gA ?_|(conv=>whnf);first|refine C9 ?_|refine CD (g) ⟨⟨rfl,dE _⟩,⟨rfl,gU _⟩,⟨rfl,rfl⟩,trivial⟩ ?_|refine CD (g) ⟨⟨rfl,dE _⟩,⟨rfl,rfl⟩,⟨rfl,rfl⟩,trivial⟩ ?_|refine CA (aa n) ?_|refine CA (aa k) ?_|refine CF rfl (aa n) rfl ?_|refine CF rfl (aa k) rfl ?_|refine CD (j) ⟨⟨rfl,CY _⟩,⟨rfl,rfl⟩,⟨rfl,rfl⟩,trivial⟩ ?_|refine C9 ?_|refine CL rfl rfl (aa k) rfl (X0 rfl) rfl ?_)
   refine CE rfl rfl ?_;exact wB
def Hf(c:aA)(k:Nat):aA:=⟨c.Lists.set k []⟩
theorem MX(c:aA)(k:Nat):aA.enc .own (Hf c k)=[.s .own ((c.Lists.map (aD .own)).set k (aD .own []))]:=by simp[aA.enc,Hf,Z4]
theorem Lu(xs:List Int):([]:List Int).map (rI .imm)=(xs.map (rI .imm)).drop xs.length:=by rw[List.drop_eq_nil_of_le (by rw[W0];omega)];rfl
theorem K3(xs:List Int):xs.map (rI .imm)=(xs.map (rI .imm)).take xs.length:=by rw[T5 (by rw[W0];omega)]
def PX(c:aA)(k:Nat):List C:=aA.enc .own (Hf c k)++aD .own (nth c.Lists k)
theorem Ph(c:aA)(k:Nat):gr (PX c k):=aM (aA.enc_fr _) (bK _)
theorem tM(c:aA)(k:Nat)(d:bo c=true)(p:k<=3):ao Tryz.prog 390 false [.val (some 1) (aA.enc .imm c),.val none [I (k:Nat)],.val none [I 8]] (.tup [some 1,none]) (PX c k):=by
 obtain⟨q,e⟩:=dL d;have g:aA.sml c:=⟨ω,λl j=>by have:=e l j;show l.length<=1048576;omega⟩
 have h:=uS c k g;rw[d,O0 ω]at h;have n:=ip c g;have a:=oz (c:=c) (k:=k) ω;have o:=e _ (am (xs:=c.Lists) (i:=k) ω);have b:=Ph c k;unfold PX at b |-;rw[MX]at b |-;refine fO 52 [(5,268,[29,30,31,32,33,34,35,36,37,38,39,41,0,1,2,3,4,5,6,7,8,9,10,11,1000,1001,1002,12,13]),(6,265,[42,43,44,45,46,47,48,49,50,0,1,2,3,4,5,6,7,8,9,1000,10,11])] Tryz.func390 rfl ?_ (.inr b)
 repeat'(first|refine gO ?_|(conv=>whnf);first|with_reducible refine CA (aa a) ?_|refine C9 ?_|refine CF rfl (aa a) rfl ?_|refine C6 (h) ?_|refine C6 (n) ?_|refine CO (z:=((nth c.Lists k).length:Int)) (by simp;omega) ?_|refine CU (nth c.Lists k).length rfl (by rw[W0];omega) (aI λ_=>rfl) (Lu _) ?_|refine CS (nth c.Lists k).length rfl (by rw[W0];omega) (aI λ_=>rfl) (K3 _) ?_|refine C9 ?_|refine CR (λ_=>rfl) (λ_=>rfl) (by simp) (by decide) ?_|refine CM (λ_=>rfl) (λ_=>rfl) (by simp) (by decide) ?_|refine CR (λ_=>rfl) (λ_=>rfl) ω (by decide) ?_|refine CM (λ_=>rfl) (λ_=>rfl) ω (by decide) ?_|refine CL rfl rfl (aa a) rfl (X0 rfl) rfl ?_)
 rfl
theorem oc{k:Int} : ∀{l s s2 c:List Int},(∀x∈s2,x∈s)->qi k s l=some c->(∀x∈s,x∈c)/\∃d,qi k s2 l=some d/\∀x∈d,x∈c
 | [],s,s2,c,h,e=>by
  simp only[qi,U0]at e |-;subst e;exact⟨λ_ h=>h,s2,rfl,h⟩
 | a::l,s,s2,c,h,e=>by
  simp only[qi]at e |-;split at e
  ·rename_i g
   rw[C8 (show good k s2 a from⟨g.1,g.2.1,g.2.2.1,λx=>g.2.2.2 (h a x)⟩)];obtain⟨f,i⟩:=oc (l:=l) (s:=s++[a]) (s2:=s2++[a]) (λx b=>by
     rcases Q2.1 b with b|b
     · exact Q2.2 (.inl (h x b))
     · exact Q2.2 (.inr b)) e
   exact⟨λx b=>f x (Q2.2 (.inl b)),i⟩
  ·cases e
theorem rW:∀{a:List (List Int)}{k:Nat}{s s2:List Int},(∀x∈s2,x∈s)->(fK k s a).isSome=true->(fK k s2 a).isSome=true
 | [],_,_,_,_,_=>rfl
 | l::a,k,s,s2,h,e=>by
  simp only[fK,dY]at e |-;split at e
  ·rename_i g
   rw[C8 g];cases b:qi k s l with
   | none=>rw[b]at e;cases e
   | some i=>
    rw[b]at e;obtain⟨-,c,d,f⟩:=oc h b;rw[d];exact rW f e
  ·cases e
theorem Dd:∀{a:List (List Int)}{k:Nat}{s s2:List Int}(i:Nat),(∀x∈s2,x∈s)->(fK k s a).isSome=true->(fK k s2 (a.set i [])).isSome=true
 | [],_,_,_,_,_,_=>rfl
 | l::a,k,s,s2,i,h,e=>by
  simp only[fK,dY]at e;split at e
  ·rename_i g
   cases b:qi k s l with
   | none=>rw[b]at e;cases e
   | some o=>
    rw[b]at e;obtain⟨c,d,f,j⟩:=oc h b;cases i with
    | zero=>
     simp only[List.set_cons_zero,fK,dY];rw[C8 ⟨by simp,g.2⟩];exact rW (λx n=>c x (h x n)) e
    | succ i=>
     simp only[List.set_cons_succ,fK,dY];rw[C8 g,f];exact Dd i j e
  ·cases e
theorem N8{c:aA}(h:bo c=true)(k:Nat):bo (Hf c k)=true:=by
 unfold bo at h |-;simp only[I0,C0]at h |-;exact⟨by simp only[Hf,C1];exact h.1,Dd k (λ_ h=>h) h.2⟩
def spilt(h:ab)(t k:Nat):ab:={h with Caches:=h.Caches.set t (Hf (nth h.Caches t) k)}
theorem bn.spilt{h:ab}{E:List Int}{t k:Nat}(f:bn h E)(i:t<h.Caches.length)(n:k<(nth h.Caches t).Lists.length):bn (spilt h t k) (nth (nth h.Caches t).Lists k++E):=by
 have p:(E++holders h).Perm (nth (nth h.Caches t).Lists k++E++holders (Ab.spilt h t k)):=by
  refine List.perm_iff_count.2 λb=>?_
  have r:=ib (λc:aA=>c.Lists.flatten) b h.Caches t (Hf (nth h.Caches t) k) i;have q:=ib (λx:List Int=>x) b (nth h.Caches t).Lists k [] n;rw[<-jV,<-jV]at q;simp only[List.count_nil]at q;simp only[Hf]at r;simp only[holders,cn,Ab.spilt,Hf,Y4];omega
 have g:∀c∈(Ab.spilt h t k).Caches,c∈h.Caches\/c=Hf (nth h.Caches t) k:=λc u=>z5 u
 exact {f with
   nc:=by show(h.Caches.set ..).length=_;rw[C1];exact f.nc
   cach:=λc a=>by
     rcases g c a with a|rfl
     · exact f.cach c a
     · exact N8 (f.cach _ (am i)) k
   onu:=by show ∀o∈h.Objs,1<=o.Id/\o.Id<=h.Next - 1/\0<=o.Thread/\o.Thread<=(h.Caches.set t _).length - 1;rw[C1];exact f.onu
   hca:=λc a j l b d=>by
     rcases g c a with a|rfl
     · exact f.hca c a j l b d
     · simp only[Hf,C1]at l
       simp only[Hf,cw]at d;by_cases e:k=j
       · subst e
         rw[C8 ⟨rfl,l⟩]at d;cases d
       · rw[C7 λx=>e x.1]at d
         exact f.hca _ (am i) _ l b d
   hin:=λb d=>by
     rcases Q2.1 d with d|d
     · exact(f.hca _ (am i) k n b d).any
     · exact f.hin b d
   nd:=p.nodup_iff.1 f.nd
   mem:=λb=>by rw[<-p.mem_iff];exact f.mem b}
def freeAs(h:ab)(az:List Int):ab:=az.foldl freeA h
theorem hB:∀(az:List Int)(h:ab),(freeAs h az).Caches=h.Caches/\(freeAs h az).Objs=h.Objs/\(freeAs h az).Kernel.Calls=h.Kernel.Calls/\(freeAs h az).Mail=h.Mail/\(freeAs h az).Job=h.Job/\(freeAs h az).Clock=h.Clock/\(freeAs h az).Quar=h.Quar/\(freeAs h az).Kernel.Refuse=h.Kernel.Refuse
 | [],h=>⟨rfl,rfl,rfl,rfl,rfl,rfl,rfl,rfl⟩
 | a::az,h=>by
  obtain⟨b,c,d,e,f,g,i,j⟩:=hB az (freeA h a);obtain⟨k,l,n,o,p,q,r,t⟩:=uE h (rD h a) a;exact⟨b.trans k,c.trans l,d.trans n,e.trans o,f.trans p,g.trans q,i.trans r,j.trans t⟩
theorem bn.freeAs{E:List Int} : ∀{az:List Int}{h:ab},bn h (az++E)->bn (freeAs h az) E
 | [],_,b=>b
 | a::az,h,b=>bn.freeAs (az:=az) (h:=Ab.freeA h a) b.freeA
theorem sV(h:ab)(az:List Int)(k:Nat)(a:k<az.length):freeAs h (az.take (k+1))=freeA (freeAs h (az.take k)) (nth az k):=by
 rw[T4,ah a];simp[freeAs]
def flushN(t:Nat)(h:ab):Nat->ab × Nat
 | 0=>(h,0)
 | k+1=>(freeAs (spilt (flushN t h k).1 t k) (nth (nth (flushN t h k).1.Caches t).Lists k),(flushN t h k).2+(nth (nth (flushN t h k).1.Caches t).Lists k).length)
theorem ki{t:Nat}{h:ab}(c:bn h [])(e:t<h.Caches.length):∀{k:Nat},k<=4->bn (flushN t h k).1 []/\(flushN t h k).1.Caches.length=h.Caches.length/\(flushN t h k).1.Kernel.Calls=h.Kernel.Calls/\(flushN t h k).1.Objs=h.Objs/\(flushN t h k).1.Mail=h.Mail/\(flushN t h k).1.Job=h.Job/\(flushN t h k).2<=8*k
 | 0,_=>⟨c,rfl,rfl,rfl,rfl,rfl,R0 _⟩
 | k+1,y=>by
  obtain⟨d,f,g,i,j,l,A⟩:=ki c e (k:=k) ω;have a:t<(flushN t h k).1.Caches.length:=ω
  obtain⟨B,n⟩:=dL (d.cach _ (am a));have b:k<(nth (flushN t h k).1.Caches t).Lists.length:=ω
  have o:=d.spilt a b;have C:=n _ (am b);obtain⟨p,q,r,u,w,-⟩:=hB (nth (nth (flushN t h k).1.Caches t).Lists k) (Ab.spilt (flushN t h k).1 t k);refine⟨bn.freeAs o,?_,r.trans g,q.trans i,u.trans j,w.trans l,?_⟩
  ·show(Ab.freeAs _ _).Caches.length=_
   rw[p];simp only[Ab.spilt,C1];exact f
  ·simp only[flushN];omega
theorem Di{h:ab}{t k:Nat}(d:bn h [])(e:t<h.Caches.length)(j:k<4):t<(flushN t h k).1.Caches.length/\bo (nth (flushN t h k).1.Caches t)=true/\k<(nth (flushN t h k).1.Caches t).Lists.length/\(nth (nth (flushN t h k).1.Caches t).Lists k).length<=8/\(flushN t h k).2<=8*k:=by
 obtain⟨f,l,-,-,-,-,g⟩:=ki d e (k:=k) ω;have a:t<(flushN t h k).1.Caches.length:=ω
 have c:=f.cach _ (am a);obtain⟨n,i⟩:=dL c;have b:k<(nth (flushN t h k).1.Caches t).Lists.length:=ω
 exact⟨a,c,b,i _ (am b),g⟩
theorem Kk{h:ab}{t k j:Nat}(a:bn h [])(b:t<h.Caches.length)(d:k<4)(e:j<(nth (nth (flushN t h k).1.Caches t).Lists k).length):bn (freeAs (spilt (flushN t h k).1 t k) ((nth (nth (flushN t h k).1.Caches t).Lists k).take j)) (nth (nth (nth (flushN t h k).1.Caches t).Lists k) j::(nth (nth (flushN t h k).1.Caches t).Lists k).drop (j+1)):=by
 obtain⟨f,g⟩:=Di a b d;have c:=((ki a b (k:=k) ω).1).spilt f g.2.1;rw[List.append_nil]at c;refine bn.freeAs ?_;rw[<-gB e,List.take_append_drop];exact c
theorem x4(h:ab)(t:Nat)(i:bn h [])(l:t<h.Caches.length):aP Tryz.prog 362 false [.ptr (b8 h),.val none [I (t:Nat)]] [.ptr (b8 (flushN t h 4).1),.val none [I (t:Nat)]] .one [I ((flushN t h 4).2:Nat)]:=by
 refine fM 48 [(364,[2,0])] [(6,6,[26,27,28,29,30,31])] [(0,0),(0,0)] Tryz.func362 rfl (λu q=>?_)
 repeat'(first|refine gO ?_|fail)
 (conv=>whnf)
 refine CC (ι:=Nat) (λk=>[(0,.hold .box (b8 (flushN t h k).1)),(1,.hold .one [I ((t:Nat):Int)]),(5,.hold .one [I (((flushN t h k).2:Nat):Int)]),(6,.hold .one [I ((k:Nat):Int)])]) (λk=>k<=4) (λk=>4 - k) (0) ?_ (R0 _) λk D=>?_
 ·repeat'(first|exact trivial|rfl |exact kP a|exact dx _|refine CH ?_ ?_|(exact yP (by first|omega|(simp only;omega)|(simp;omega))))
 by_cases n:k<4
 ·obtain⟨o,p,E,F,G⟩:=Di i l n
  have r:=tM (nth (flushN t h k).1.Caches t) k p ω;have c:=λj=>Kk i l n (j:=j)
  have e:=ah o;have w:(flushN t h (k+1)).1=freeAs (spilt (flushN t h k).1 t k) (nth (nth (flushN t h k).1.Caches t).Lists k):=rfl;have y:(flushN t h (k+1)).2=(flushN t h k).2+(nth (nth (flushN t h k).1.Caches t).Lists k).length:=rfl;have a:C.s dw.own ((spilt (flushN t h k).1 t k).Caches.map (aA.enc .own))=C.s dw.own (((flushN t h k).1.Caches.map (aA.enc .own)).set t (aA.enc .own (Hf (nth (flushN t h k).1.Caches t) k))):=by simp[spilt,Z4]
  repeat'(first|refine gD ?_|(conv=>whnf);first|refine CA (aa e) ?_|refine CF rfl (aa e) rfl ?_|refine CD (r) ⟨⟨rfl,CY _⟩,⟨rfl,rfl⟩,⟨rfl,rfl⟩,trivial⟩ ?_|refine C9 ?_|refine CL rfl rfl (aa e) rfl (X0 rfl) rfl ?_)
  generalize (flushN t h k).1=d at *;generalize (flushN t h k).2=m at *
  (conv=>whnf)
  refine CC (ι:=Nat) (λj=>[(0,.hold .box (b8 (freeAs (spilt d t k) ((nth (nth d.Caches t).Lists k).take j)))),(1,.hold .one [I ((t:Nat):Int)]),(5,.hold .one [I (((m+j):Nat):Int)]),(6,.hold .one [I ((k:Nat):Int)]),(8,.hold .one (aD .own (nth (nth d.Caches t).Lists k))),(9,.hold .one [I ((j:Nat):Int)])]) (λj=>j<=(nth (nth d.Caches t).Lists k).length) (λj=>(nth (nth d.Caches t).Lists k).length - j) (0) ?_ (R0 _) λj H=>?_
  ·repeat'(first|exact trivial|rfl |exact kP a|exact dx _|refine CH ?_ ?_|(exact yP (by first|omega|(simp only;omega)|(simp;omega))))
  by_cases g:j<(nth (nth d.Caches t).Lists k).length
  ·have b:=ah g
   have B:=lR _ _ _ (c j g)
   repeat'(first|refine gD ?_|(conv=>whnf);first|refine CA (aa b) ?_|refine CF rfl (aa b) rfl ?_|refine CG (B) (.inl rfl) ?_)
   ((conv=>whnf);refine CB (j+1) ω ω ?_)
   rw[sV _ _ _ g];exact wC
  ·obtain rfl:j=(nth (nth d.Caches t).Lists k).length:=ω
   rw[I4]
   repeat'(first|refine gD ?_|fail)
   ((conv=>whnf);refine CB (k+1) ω ω ?_)
   rw[w,y];exact wC
 ·obtain rfl:k=4:=ω
  repeat'(first|refine gD ?_|fail)
  refine CE rfl rfl ?_;exact wC
def Gz(s:Int):Int:=(1103515245*s+12345) % 1073741824
theorem EJ(s:Int):0<=Gz s/\Gz s<=1073741823:=by unfold Gz;omega
theorem xC(s:Int)(b:0<=s/\s<=1073741823):ao Tryz.prog 377 false [.val none [I s]] .one [I (Gz s)]:=by
 have a:=aE s 0 1073741823;rw[O0 b]at a;refine fO 10 [] Tryz.func377 rfl ?_
 repeat'(first|refine gO ?_|(conv=>whnf);first|refine C9 ?_|refine CO (z:=Gz s) (eM ω) ?_|refine C6 (a) ?_|refine CK (by decide) ?_)
 rfl
def Ks(s n:Int):Int:=Gz s / 1024 % n
theorem vk(s:Int){n:Int}(h:1<=n):0<=Ks s n/\Ks s n<n:=⟨Int.emod_nonneg _ ω,Int.emod_lt_of_pos _ ω⟩
theorem te(s n:Int)(b:0<=s/\s<=1073741823)(c:1<=n/\n<=1000):ao Tryz.prog 343 false [.val none [I s],.val none [I n]] (.tup [none,none]) [I (Ks s n),I (Gz s)]:=by
 have d:=aE s 0 1073741823;have e:=aE n 1 1000;rw[O0 b]at d;rw[O0 c]at e;have g:=EJ s;have i:=vk s c.1;have a:(Gz s).tdiv 1024=Gz s / 1024:=Int.tdiv_eq_ediv_of_nonneg g.1;have h:((Gz s).tdiv 1024).tmod n=Ks s n:=by rw[a];exact eM ω
 refine fO 23 [] Tryz.func343 rfl ?_ (.inr ⟨trivial,trivial,trivial⟩)
 repeat'(first|refine gO ?_|(conv=>whnf);first|refine C9 ?_|refine C6 (d) ?_|refine C6 (e) ?_|refine C6 (xC s b) ?_|refine CK (by decide) ?_|refine CK ω ?_|refine CO h ?_|refine CI (eS (by rw[a];omega) (by rw[a];omega)) ?_)
 rfl
def qO(n:Nat):List Int:=(List.range n).map λ(i:Nat)=>(i:Int)
theorem Fp(n:Nat):qO (n+1)=qO n++[(n:Int)]:=by unfold qO;rw[List.range_succ,V4];rfl
theorem yU(n:Nat):(qO n).length=n:=by simp[qO]
def ve(xs:List Int)(i k:Nat):List Int:=(xs.set i (nth xs k)).set k (nth xs i)
theorem H6(xs:List Int)(i k:Nat):(ve xs i k).length=xs.length:=by simp[ve]
def gx(n:Nat)(s:Int):Nat->List Int × Int
 | 0=>(qO n,s)
 | j+1=>(ve (gx n s j).1 (n - 1 - j) (Ks (gx n s j).2 ((n - 1 - j:Nat)+1:Int)).toNat,Gz (gx n s j).2)
theorem lB(n:Nat){s:Int}(a:0<=s/\s<=1073741823):∀j,(gx n s j).1.length=n/\0<=(gx n s j).2/\(gx n s j).2<=1073741823
 | 0=>⟨yU n,a⟩
 | j+1=>⟨by simp only[gx,H6];exact(lB n a j).1,EJ _⟩
def shuf(n:Nat)(s:Int):List Int × Int:=gx n s (n - 1)
theorem KH(xs:List Int)(i k:Nat):(ve xs i k).map (rI .own)=((xs.map (rI .own)).set i (rI .own (nth xs k))).set k (rI .own (nth xs i)):=by simp[ve,Z4]
theorem Ha{xs:List Int}{i k:Nat}(v:Int)(a:k<xs.length):((xs.map (rI .own)).set i (rI .own v))[k]? = some (rI .own (nth (xs.set i v) k)):=by
 rw[<-Z4];exact aa (ah (by rw[C1];exact a))
theorem yn(n:Nat)(s:Int)(d:0<=s/\s<=1073741823)(w:n<=64):ao Tryz.prog 393 false [.val none [I s],.val none [I (n:Nat)]] (.tup [none,none]) (aD .own (shuf n s).1++[I (shuf n s).2]):=by
 have e:=aE s 0 1073741823;have g:=aE (n:Nat) 0 64;rw[O0 d]at e;rw[O0 ω]at g;refine fO 63 [] Tryz.func393 rfl ?_ (.inr (aM (bK _) ⟨trivial,trivial⟩))
 repeat'(first|refine gO ?_|(conv=>whnf);first|refine C9 ?_|refine C6 (e) ?_|refine C6 (g) ?_)
 (conv=>whnf)
 refine CC (ι:=Nat) (λk=>[(0,.hold .one [I (s)]),(1,.hold .one [I ((n:Nat):Int)]),(6,.hold .one (aD .own (qO k))),(7,.hold .one [I ((k:Nat):Int)])]) (λk=>k<=n) (λk=>n - k) (0) ?_ (R0 _) λk y=>?_
 ·exact wB
 have h:=yU k;by_cases B:k<n
 ·repeat'(first|refine gD ?_|(conv=>whnf);first|refine C9 ?_|refine CT (aI λ_=>rfl) rfl (by simp;omega) (by decide) (ew (rI .own) (qO k) (k:Int)) ?_)
  ((conv=>whnf);refine CB (k+1) ω ω ?_)
  rw[Fp];exact wB
 ·obtain rfl:k=n:=ω
  repeat'(first|refine gD ?_|(conv=>whnf);first|refine C9 ?_)
  (conv=>whnf)
  refine CC (ι:=Nat) (λj=>[(0,.hold .one [I ((gx k s j).2)]),(6,.hold .one (aD .own (gx k s j).1)),(8,.hold .one [I (((k:Int) - 1 - j))])]) (λj=>(j<=k - 1/\j<=k)) (λj=>k - j) (0) ?_ (⟨R0 _,R0 _⟩) λj C=>?_
  ·exact wB
  obtain⟨D,l,o⟩:=lB k d j;by_cases E:j<k - 1
  ·have q:(k:Int) - 1 - j=((k - 1 - j:Nat):Int):=ω
   have r:=vk (gx k s j).2 (n:=((k - 1 - j:Nat)+1:Int)) ω;have t:=te (gx k s j).2 ((k - 1 - j:Nat)+1:Int) ⟨l,o⟩ ω;have u:gx k s (j+1)=(ve (gx k s j).1 (k - 1 - j) (Ks (gx k s j).2 ((k - 1 - j:Nat)+1:Int)).toNat,Gz (gx k s j).2):=rfl;rw[q];generalize gx k s j=p at *;obtain⟨xs,z⟩:=p;simp only at *;generalize k - 1 - j=i at *;have a:=ah (xs:=xs) (i:=i) ω;have b:=ah (xs:=xs) (i:=(Ks z (i+1)).toNat) ω;have c:=Ha (xs:=xs) (i:=i) (k:=(Ks z (i+1)).toNat) (nth xs (Ks z (i+1)).toNat) ω
   repeat'(first|refine gD ?_|(conv=>whnf);first|refine C9 ?_|refine C6 (t) ?_|refine CJ ω (aa b) ?_|refine CA (aa a) ?_|refine CF rfl (aa a) rfl ?_|refine CF rfl (aa b) rfl ?_|refine CL rfl rfl (aa a) rfl (X0 rfl) rfl ?_|refine CJ ω c ?_|refine CL rfl rfl c rfl (X0 rfl) rfl ?_)
   ((conv=>whnf);refine CB (j+1) ω ω ?_)
   rw[u];simp only[aD,KH];exact wB
  ·obtain rfl:j=k - 1:=ω
   repeat'(first|refine gD ?_|(conv=>whnf);first|refine C9 ?_)
   rfl
def AI(b:Int):Nat->Nat
 | 0=>0
 | n+1=>AI b n+(if aX b (n:Nat)=true then 1 else 0)
theorem AA(b:Int):∀n,AI b n<=n
 | 0=>R2 _
 | n+1=>by have:=AA b n;simp only[AI];split<;>omega
theorem tT(b:Int)(d:b<=9223372036854775807):ao Tryz.prog 112 false [.val none [I b]] .one [I (AI b 16:Nat)]:=by
 refine fO 15 [] Tryz.func112 rfl ?_
 repeat'(first|refine gO ?_|fail)
 (conv=>whnf)
 refine CC (ι:=Nat) (λk=>[(0,.hold .one [I (b)]),(3,.hold .one [I ((AI b k:Nat):Int)]),(4,.hold .one [I ((k:Nat):Int)])]) (λk=>k<=16) (λk=>16 - k) (0) ?_ (R0 _) λk g=>?_
 ·exact wB
 have h:=AA b k;by_cases i:k<16
 ·have a:=ir b (k:Nat) d
  have c:AI b (k+1)=AI b k+(if aX b (k:Nat)=true then 1 else 0):=rfl;cases e:aX b (k:Nat)<;>rw[e]at a c
  all_goals
   repeat'(first|refine gD ?_|(conv=>whnf);first|refine C6 (a) ?_)
   ((conv=>whnf);refine CB (k+1) ω ω ?_)
   rw[c];exact wB
 ·obtain rfl:k=16:=ω
  repeat'(first|refine gD ?_|fail)
  rfl
def zc(h:ab)(s:au):Bool:=decide (0<AI s.Bits 16)&&decide ((aT h s.Page).length=1)
def kE(h:ab):Nat->List au
 | 0=>[]
 | n+1=>if zc h (nth h.Spans n)=true then kE h n++[nth h.Spans n] else kE h n
def ml(h:ab):List au:=kE h h.Spans.length
theorem vz(h:ab):∀n,(kE h n).length<=n
 | 0=>R2 _
 | n+1=>by have:=vz h n;simp only[kE];split<;>simp<;>omega
theorem oN(h:ab):∀{n:Nat},n<=h.Spans.length->∀s∈kE h n,s∈h.Spans
 | 0,_,s,a=>by cases a
 | n+1,b,s,a=>by
  simp only[kE]at a;split at a
  ·rcases Q2.1 a with a|a
   ·exact oN h ω s a
   ·rw[Z0.1 a];exact am ω
  ·exact oN h ω s a
theorem wa(h:ab)(j:x8 h)(q:h.Spans.length<=1000)(r:dU h<=1000)(l:∀s∈h.Spans,s.Bits<=9223372036854775807):ao Tryz.prog 38 false [.val (some 24) (ab.enc .imm h)] .one (bR .own (ml h)):=by
 refine fO 42 [(5,16,[13,14,15,16,17,18,19,20,21,22,23,24,25,26,27,28])] Tryz.func38 rfl ?_ (.inr (F9 _))
 repeat'(first|refine gO ?_|fail)
 (conv=>whnf)
 refine CC (ι:=Nat) (λk=>[(1,.hold .box (ab.enc .imm h)),(3,.hold .one (bR .own (kE h k))),(4,.hold .one [I ((k:Nat):Int)])]) (λk=>k<=h.Spans.length) (λk=>h.Spans.length - k) (0) ?_ (R0 _) λk t=>?_
 ·exact wB
 have n:=vz h k;by_cases e:k<h.Spans.length
 ·have c:=ah e
  have d:=tT (nth h.Spans k).Bits (l _ (am e));have b:=gE h (nth h.Spans k).Page j;have o:=g9 h (nth h.Spans k).Page;have p:=AA (nth h.Spans k).Bits 16;have a:kE h (k+1)=if zc h (nth h.Spans k)=true then kE h k++[nth h.Spans k] else kE h k:=rfl
  by_cases g:0<AI (nth h.Spans k).Bits 16
  ·by_cases i:(aT h (nth h.Spans k).Page).length=1
   ·rw[C8 (by unfold zc;simp[g,i])]at a
    repeat'(first|refine gA ?_|(conv=>whnf);first|refine CA (aa c) ?_|refine C6 (d) ?_|refine CD (b) ⟨⟨rfl,rfl⟩,⟨rfl,rfl⟩,trivial⟩ ?_|refine C6 (b) ?_|refine C9 ?_|refine CT (aI λ_=>rfl) rfl (by simp;omega) (by decide) (ew (au.enc .own) (kE h k) (nth h.Spans k)) ?_)
    ((conv=>whnf);refine CB (k+1) ω ω ?_)
    rw[a];exact wB
   ·rw[C7 (by unfold zc;simp[i])]at a
    repeat'(first|refine gA ?_|(conv=>whnf);first|refine CA (aa c) ?_|refine C6 (d) ?_|refine C6 (b) ?_|refine C9 ?_)
    ((conv=>whnf);refine CB (k+1) ω ω ?_)
    rw[a];exact wB
  ·rw[C7 (by unfold zc;simp[g])]at a
   repeat'(first|refine gD ?_|(conv=>whnf);first|refine CA (aa c) ?_|refine C6 (d) ?_|refine C6 (b) ?_|refine C9 ?_)
   ((conv=>whnf);refine CB (k+1) ω ω ?_)
   rw[a];exact wB
 ·obtain rfl:k=h.Spans.length:=ω
  repeat'(first|refine gD ?_|fail)
  rfl
def Bb(s:au)(c:Nat):Bool:=aX s.Bits (((c:Nat):Int) / csz s.Class)
def u6(s:au)(n:Nat):List Int:=((List.range n).filter (Bb s)).map λ(i:Nat)=>(i:Int)
theorem Mv{s:au}{n:Nat}(h:Bb s n=true):u6 s (n+1)=u6 s n++[(n:Int)]:=by
 unfold u6;rw[List.range_succ,List.filter_append,V4];simp[h]
theorem NN{s:au}{n:Nat}(h:Bb s n=false):u6 s (n+1)=u6 s n:=by
 unfold u6;rw[List.range_succ,List.filter_append,V4];simp[h]
theorem qD(s:au)(n:Nat):(u6 s n).length<=n:=by
 unfold u6;rw[W0];exact t4 (List.length_filter_le _ _) (by simp)
theorem Mt{s:au}(a:bc s=true){c:Nat}(d:c<16):0<=((c:Nat):Int) / csz s.Class/\((c:Nat):Int) / csz s.Class<=15:=by
 have f:=aF a;have b:csz s.Class=1\/csz s.Class=2\/csz s.Class=4\/csz s.Class=8:=cv ω;rcases b with e|e|e|e<;>rw[e]<;>omega
theorem nO(s:au)(a:bc s=true):ao Tryz.prog 394 false [.val (some 3) (au.enc .imm s)] .one (aD .own (u6 s 16)):=by
 have b:=fZ s;rw[a]at b;have g:=aF a;have n:=cv g.2.2;refine fO 27 [(5,7,[14,15,16,17,18,19,20])] Tryz.func394 rfl ?_ (.inr (bK _))
 repeat'(first|refine gO ?_|fail)
 (conv=>whnf)
 refine CC (ι:=Nat) (λi=>[(1,.hold .box (au.enc .imm s)),(3,.hold .one (aD .own (u6 s i))),(4,.hold .one [I ((i:Nat):Int)])]) (λi=>i<=16) (λi=>16 - i) (0) ?_ (R0 _) λi o=>?_
 ·exact wB
 have h:=qD s i;by_cases j:i<16
 ·have k:=Mt a j
  have d:IntKind.i64.wrap (((i:Nat):Int).tdiv (csz s.Class))=((i:Nat):Int) / csz s.Class:=by rw[nL ω];exact eS ω ω
  have c:=ir s.Bits (((i:Nat):Int) / csz s.Class) (eX a).2;cases e:Bb s i
  ·rw[show aX s.Bits (((i:Nat):Int) / csz s.Class)=false from e]at c
   repeat'(first|refine gD ?_|(conv=>whnf);first|refine C6 (b) ?_|refine C6 (d4 _) ?_|refine CK ω ?_|refine CI d ?_|refine C6 (c) ?_)
   ((conv=>whnf);refine CB (i+1) ω ω ?_)
   rw[NN e];exact wB
  ·rw[show aX s.Bits (((i:Nat):Int) / csz s.Class)=true from e]at c
   repeat'(first|refine gD ?_|(conv=>whnf);first|refine C6 (b) ?_|refine C6 (d4 _) ?_|refine CK ω ?_|refine CI d ?_|refine C6 (c) ?_|refine CQ cx (λr l=>by rw[Z0.1 l];rfl) (by simp[aV,dC]) (by simp;omega) (by simp only[W0];exact yk (by simp;omega) (by decide)) rfl ?_)
   ((conv=>whnf);refine CB (i+1) ω ω ?_)
   rw[Mv e]
   (repeat'(first|exact trivial|rfl|exact CH rfl (CH (T0 (C.s dw.own) (by simp[rI])) trivial)|refine CH ?_ ?_))
 ·obtain rfl:i=16:=ω
  repeat'(first|refine gD ?_|(conv=>whnf);first|refine C6 (b) ?_)
  rfl
structure fD where
 A:Int
 B:Int
deriving DecidableEq,Inhabited
def fD.enc(_:dw)(x:fD):List C:=[I x.A,I x.B]
def iT(o:dw)(x:List fD):List C:=[.s o (x.map (fD.enc o))]
theorem Fs(x:List fD):gr (iT .own x):=⟨⟨.inl λh=>(by cases h),aZ _ _ λ_ _=>⟨trivial,trivial,trivial⟩⟩,trivial⟩
def Nb(i:Int)(p:fD):Bool:=decide (p.A=i) || decide (p.B=i)
def dD(a b:au):ci:=if(u6 a 16).length<(u6 b 16).length then⟨b.Page,a.Page,u6 a 16⟩ else⟨a.Page,b.Page,u6 b 16⟩
theorem xv(a b:au)(g:meshable a b=true)(h:bc a=true)(i:bc b=true):ao Tryz.prog 366 false [.val (some 3) (au.enc .imm a),.val (some 3) (au.enc .imm b)] (.tup [some 3,none]) (ci.enc .own (dD a b)++[B true]):=by
 have c:=lb a b;rw[g]at c;have d:=nO a h;have e:=nO b i;have j:=qD a 16;have k:=qD b 16;unfold dD;split
 ·refine fO 27 [(3,6,[11,12,13,14,15,16]),(5,6,[20,21,22,23,24,25])] Tryz.func366 rfl ?_ (.inr (aM (ci.enc_fr _) ⟨trivial,trivial⟩))
  repeat'(first|refine gD ?_|(conv=>whnf);first|refine C6 (c) ?_|refine C6 (d) ?_|refine C6 (e) ?_|refine C9 ?_)
  rfl
 ·refine fO 27 [(3,6,[11,12,13,14,15,16]),(5,6,[20,21,22,23,24,25])] Tryz.func366 rfl ?_ (.inr (aM (ci.enc_fr _) ⟨trivial,trivial⟩))
  repeat'(first|refine gD ?_|(conv=>whnf);first|refine C6 (c) ?_|refine C6 (d) ?_|refine C6 (e) ?_|refine C9 ?_)
  rfl
def vB(p:ci):cj:=⟨p,0,0⟩
theorem BO(p:ci)(c:eH p=true)(a:ci.sml p):ao Tryz.prog 367 false [.val (some 3) (ci.enc .imm p)] (.tup [some 5,none]) (cj.enc .own (vB p)++[B true]):=by
 have b:=tz p a;rw[c]at b;have d:=qL (vB p) a;refine fO 11 [] Tryz.func367 rfl ?_ (.inr (aM (cj.enc_fr _) ⟨trivial,trivial⟩))
 repeat'(first|refine gO ?_|(conv=>whnf);first|refine C6 (b) ?_|refine C6 (d) ?_)
 rfl
theorem sE(n:Nat){s:Int}(c:0<=s/\s<=1073741823):∀{j:Nat},j<=n - 1->∀x∈(gx n s j).1,0<=x/\x<n
 | 0,_,x,a=>by
  simp only[gx,qO,U3,List.mem_range]at a;obtain⟨i,d,rfl⟩:=a;omega
 | j+1,e,x,a=>by
  have f:=(lB n c j).1;have b:=sE n c (j:=j) ω;have g:=vk (gx n s j).2 (n:=((n - 1 - j:Nat)+1:Int)) ω;simp only[gx,ve]at a;rcases z5 a with a|rfl
  ·rcases z5 a with a|rfl
   ·exact b x a
   ·exact b _ (am ω)
  ·exact b _ (am ω)
def tkn(out:List fD)(a:Int):Bool:=out.any (Nb a)
def stp(a:List au)(p:List Int)(t i:Nat)(out:List fD):List fD:=
 if tkn out (nth p i)=false/\tkn out (nth p (p.length / 2+(i+t) % (p.length - p.length / 2)))=false/\meshable (nth a (nth p i).toNat) (nth a (nth p (p.length / 2+(i+t) % (p.length - p.length / 2))).toNat)=true then out++[⟨nth p i,nth p (p.length / 2+(i+t) % (p.length - p.length / 2))⟩] else out
def ui(a:List au)(p:List Int)(t:Nat)(out:List fD):Nat->List fD
 | 0=>out
 | i+1=>stp a p t i (ui a p t out i)
def pO(a:List au)(p:List Int):Nat->List fD
 | 0=>[]
 | t+1=>ui a p t (pO a p t) (p.length / 2)
theorem Nh(a:List au)(p:List Int)(t i:Nat)(out:List fD):(stp a p t i out).length<=out.length+1:=by unfold stp;split<;>simp
theorem vc(a:List au)(p:List Int)(t:Nat)(out:List fD):∀i,(ui a p t out i).length<=out.length+i
 | 0=>R2 _
 | i+1=>by have b:=vc a p t out i;have c:=Nh a p t i (ui a p t out i);simp only[ui];omega
theorem DJ(a:List au)(p:List Int):∀t,(pO a p t).length<=t*(p.length / 2)
 | 0=>R0 _
 | t+1=>by have b:=DJ a p t;have c:=vc a p t (pO a p t) (p.length / 2);simp only[pO];rw[Nat.add_mul];omega
def mu(a:List au)(s:Int):List fD:=pO a (shuf a.length s).1 3
def mM(n:Nat)(out:List fD):List Bool:=(List.range n).map λ(i:Nat)=>tkn out (i:Nat)
theorem FY{n:Nat}{out:List fD}{a:Int}(h:0<=a/\a<n):(mM n out)[a.toNat]? = some (tkn out a):=by
 unfold mM;rw[U2,O5 ω];show some (tkn out ((a.toNat:Nat):Int))=_;rw[Int.toNat_of_nonneg h.1]
theorem J6{n:Nat}{out:List fD}{a b:Int}(f:0<=a/\a<n)(g:0<=b/\b<n):mM n (out++[⟨a,b⟩])=((mM n out).set a.toNat true).set b.toNat true:=by
 unfold mM;apply List.ext_getElem?;intro i;by_cases c:i<n
 ·rw[U2,O5 c]
  by_cases d:b.toNat=i
  ·subst d
   rw[v3 (by simp;omega)];simp only[O4,tkn,List.any_append,List.any_cons,List.any_nil,Nb];rw[Int.toNat_of_nonneg g.1];simp
  ·rw[List.getElem?_set_ne d]
   by_cases e:a.toNat=i
   ·subst e
    rw[v3 (by simp;omega)];simp only[O4,tkn,List.any_append,List.any_cons,List.any_nil,Nb];rw[Int.toNat_of_nonneg f.1];simp
   ·rw[List.getElem?_set_ne e,U2,O5 c]
    simp only[O4,tkn,List.any_append,List.any_cons,List.any_nil,Nb];rw[Q0 ω,Q0 ω];simp
 ·rw[Z1 (by simp;omega),Z1 (by simp;omega)]
theorem M8(n:Nat):(mM n []).map (rB .own)=List.replicate n [B false]:=by
 unfold mM;rw[List.map_map];apply List.ext_getElem?;intro i;rw[U2];by_cases a:i<n
 ·rw[O5 a,List.getElem?_replicate];simp[a];rfl
 ·rw[Z1 (by simp;omega),List.getElem?_replicate];simp[a]
theorem Jl{xs:List Bool}{i k:Nat}(v:Bool)(a:k<xs.length):((xs.map (rB .own)).set i (rB .own v))[k]? = some (rB .own (nth (xs.set i v) k)):=by
 rw[<-Z4];exact aa (ah (by rw[C1];exact a))
theorem tU(c:List au)(s:Int)(u:0<=s/\s<=1073741823)(V:c.length<=16):ao Tryz.prog 365 false [.val none (bR .imm c),.val none [I s],.val none [I 3]] (.tup [none,none]) (iT .own (mu c s)++[I (shuf c.length s).2]):=by
 have J:=aE s 0 1073741823;rw[O0 u]at J;have K:=aE 3 0 16;rw[O0 ω]at K;have Q:=yn c.length s u ω;have D:=(lB c.length u (c.length - 1)).1;have e:=sE c.length u (R2 _);unfold mu;change (shuf c.length s).1.length=_ at D;change ∀x∈(shuf c.length s).1,_ at e
 have E:gr (iT .own (pO c (shuf c.length s).1 3)++[I (shuf c.length s).2]):=aM (Fs _) ⟨trivial,trivial⟩;generalize shuf c.length s=q at *;obtain⟨p,z⟩:=q;simp only at *;have F:((p.length:Nat):Int).tdiv 2=((p.length / 2:Nat):Int):=by rw[Int.tdiv_eq_ediv_of_nonneg ω];omega
 have g:C.s dw.own ((mM c.length []).map (rB .own))=C.s dw.own (List.replicate c.length [B false]):=by rw[M8]
 have h:∀i:Nat,i<p.length->0<=nth p i/\nth p i<c.length:=λi R=>e _ (am R)
 refine fO 110 [(15,21,[73,74,75,76,77,78,79,80,81,82,83,84,85,86,87,88,89,90,91,92,93])] Tryz.func365 rfl ?_ (.inr E)
 repeat'(first|refine gD ?_|(conv=>whnf);first|with_reducible refine CI ((T0 _ F).trans (eS ω ω)) ?_|refine C6 (J) ?_|refine C6 (K) ?_|refine C6 (Q) ?_|refine CK (by decide) ?_|refine Mk.mk c.length rfl rfl ω (yk ω (by decide)) rfl ?_)
 (conv=>whnf)
 refine CC (ι:=Nat) (λt=>[(0,.hold .one (bR .imm c)),(2,.hold .one [I (3)]),(8,.hold .one (iT .own (pO c p t))),(9,.hold .one (aD .own p)),(10,.hold .one [I (z)]),(11,.hold .one [I (((p.length / 2):Nat):Int)]),(12,.hold .one (om .own (mM c.length (pO c p t)))),(13,.hold .one [I ((t:Nat):Int)])]) (λt=>t<=3) (λt=>3 - t) (0) ?_ (R0 _) λt S=>?_
 ·repeat'(first|exact trivial|rfl |exact kP g|refine CH ?_ ?_|(exact yP (by first|omega|(simp only;omega)|(simp;omega))))
 have W:=DJ c p t;have ol2:t*(p.length / 2)<=3*8:=Nat.mul_le_mul S ω;by_cases X:t<3
 ·repeat'(first|refine gD ?_|fail)
  (conv=>whnf)
  refine CC (ι:=Nat) (λj=>[(0,.hold .one (bR .imm c)),(2,.hold .one [I (3)]),(8,.hold .one (iT .own (ui c p t (pO c p t) j))),(9,.hold .one (aD .own p)),(10,.hold .one [I (z)]),(11,.hold .one [I (((p.length / 2):Nat):Int)]),(12,.hold .one (om .own (mM c.length (ui c p t (pO c p t) j)))),(13,.hold .one [I ((t:Nat):Int)]),(14,.hold .one [I ((j:Nat):Int)])]) (λj=>j<=p.length / 2) (λj=>p.length / 2 - j) (0) ?_ (R0 _) λj Y=>?_
  ·repeat'(first|exact trivial|rfl |exact kP g|refine CH ?_ ?_|(exact yP (by first|omega|(simp only;omega)|(simp;omega))))
  have Z:=vc c p t (pO c p t) j;by_cases lj:j<p.length / 2
  ·have L:(j+t) % (p.length - p.length / 2)<p.length - p.length / 2:=Nat.mod_lt _ ω
   have G:((j:Int)+t).tmod ((p.length:Int) - (p.length / 2:Nat))=(((j+t) % (p.length - p.length / 2):Nat):Int):=by
    rw[eM ω,Int.natCast_emod];congr 1;omega
   have d:ui c p t (pO c p t) (j+1)=stp c p t j (ui c p t (pO c p t) j):=rfl;unfold stp at d;generalize ui c p t (pO c p t) j=out at *;have l:p.length / 2+(j+t) % (p.length - p.length / 2)<p.length:=ω
   generalize hk:(j+t) % (p.length - p.length / 2)=k at *;have n:=ah (xs:=p) (i:=j) ω;have o:=ah (xs:=p) (i:=p.length / 2+k) l;have w:=h j ω;have r:=h _ l;generalize nth p j=a at *;generalize nth p (p.length / 2+k)=b at *;have y:=FY (out:=out) w;have H:=FY (out:=out) r;have T:=ah (xs:=c) (i:=a.toNat) ω;have U:=ah (xs:=c) (i:=b.toNat) ω;have M:=lb (nth c a.toNat) (nth c b.toNat);have ub2:=Jl (xs:=mM c.length out) (i:=a.toNat) (k:=b.toNat) true (by simp[mM];omega);cases N:tkn out a<;>cases O:tkn out b<;>cases P:meshable (nth c a.toNat) (nth c b.toNat)
   all_goals
    rw[N]at y;rw[O]at H;rw[P]at M;rw[N,O,P]at d;simp only[and_true,true_and,if_true,Bool.false_eq_true,Bool.true_eq_false,and_false,false_and,if_false]at d
    repeat'(first|refine gD ?_|(conv=>whnf);first|refine CO G ?_|refine CK ω ?_|refine CA (aa n) ?_|refine CJ ω (aa o) ?_|refine CJ w.1 (aa y) ?_|refine CJ r.1 (aa H) ?_|refine CJ w.1 (aa T) ?_|refine CJ r.1 (aa U) ?_|refine CF rfl (aa n) rfl ?_|refine CF rfl (aa o) rfl ?_|refine CF rfl (aa y) rfl ?_|refine CF rfl (aa H) rfl ?_|refine C6 (M) ?_|refine C9 ?_|refine CL rfl rfl (aa y) rfl (X0 rfl) rfl ?_|refine CJ r.1 ub2 ?_|refine CL rfl rfl ub2 rfl (X0 rfl) rfl ?_|refine CT (aI λ_=>rfl) rfl (by simp;omega) (by decide) (ew (fD.enc .own) out ⟨a,b⟩) ?_)
    ((conv=>whnf);refine CB (j+1) ω ω ?_)
    rw[d]
    first|(rw[J6 w r];simp only[om,Z4])|skip
    exact wB
  ·obtain rfl:j=p.length / 2:=ω
   repeat'(first|refine gD ?_|fail)
   ((conv=>whnf);refine CB (t+1) ω ω ?_;(exact wB))
 ·obtain rfl:t=3:=ω
  repeat'(first|refine gD ?_|fail)
  rfl
theorem Fy(x:List fD):dA (iT .own x)=iT .imm x:=by simp[dA,iT,fD.enc,<-ca,W4]
theorem ao.fzR{P:Program}{f:Nat}{sh:Bool}{A:List RA}{k:Kd}{rcs:List C}(h:ao P f sh A k rcs):ao P f sh A k (dA rcs):=by
 obtain⟨c,d⟩:=h;refine⟨c,λw S g i j=>(d w S g i j).mono λe w1 l=>?_⟩;obtain⟨v,n,p,X,q,r,t,B,u,y⟩:=l;refine⟨v,n,p,NO,λb o=>q b o\/X b o,λ_ _ h=>h.elim,λb o a=>?_,λ_ _ h=>h.elim,by rw[ca,W0];exact u,y.freeze⟩;rcases a with a|a
 ·exact t b o a
 ·exact .inr (r b o a)
structure MB(ls:List au)(q:fD):Prop where
 a:0<=q.A/\q.A<ls.length
 b:0<=q.B/\q.B<ls.length
 m:meshable (nth ls q.A.toNat) (nth ls q.B.toNat)=true
theorem Gr{b:List au}{p:List Int}(c:∀x∈p,0<=x/\x<b.length)(t:Nat){out:List fD}(d:∀q∈out,MB b q):∀{i:Nat},i<=p.length / 2->∀q∈ui b p t out i,MB b q
 | 0,_=>d
 | i+1,h=>λq a=>by
  have e:=Gr c t d (i:=i) ω;simp only[ui,stp]at a;split at a
  ·rename_i g
   rcases Q2.1 a with a|a
   ·exact e q a
   ·obtain rfl:=Z0.1 a
    have f:(i+t) % (p.length - p.length / 2)<p.length - p.length / 2:=Nat.mod_lt _ ω;exact⟨c _ (am ω),c _ (am ω),g.2.2⟩
  ·exact e q a
theorem GF{a:List au}{p:List Int}(b:∀x∈p,0<=x/\x<a.length):∀t,∀q∈pO a p t,MB a q
 | 0=>λq c=>by cases c
 | t+1=>Gr b t (GF b t) (R2 _)
theorem qb(a:List au){s:Int}(b:0<=s/\s<=1073741823):∀q∈mu a s,MB a q:=GF (sE a.length b (R2 _)) 3
theorem M6(s:au)(n:Nat):(u6 s n).Pairwise (· < ·):=by
 unfold u6;rw[List.pairwise_map];exact(List.pairwise_lt_range.sublist List.filter_sublist).imp λh=>ω
theorem NM{s:au}{n:Nat} : ∀z∈u6 s n,0<=z/\z<n:=λz a=>by
 unfold u6 at a;simp only[U3,V3,List.mem_range]at a;obtain⟨c,⟨b,-⟩,rfl⟩:=a;omega
theorem w5(s:au):cL (u6 s 16).length (mb (u6 s 16))=true:=by
 refine ce.2 λj a=>?_
 have c:=NM _ (am a);unfold mb;refine O0 ⟨ω,ω,?_⟩;by_cases e:j=0
 ·exact .inl e
 ·refine .inr ?_
  have b:=List.pairwise_iff_getElem.1 (M6 s 16) (j - 1) j ω a ω;rw[show nth (u6 s 16) (j - 1)=(u6 s 16)[j - 1] from bw (U1 ω),show nth (u6 s 16) j=(u6 s 16)[j] from bw (U1 a)];exact b
theorem sf{a b:au}(c:meshable a b=true):eH (dD a b)=true/\bc a=true/\bc b=true:=by
 unfold meshable at c;simp only[I0,C0]at c;have d:=aF c.1.1;have e:=aF c.1.2;refine⟨?_,c.1⟩;unfold dD eH;split
 ·simp only[I0,C0];exact⟨w5 a,ω⟩
 ·simp only[I0,C0];exact⟨w5 b,ω⟩
theorem FG(a b:au):ci.sml (dD a b):=by
 have c:=qD a 16;have d:=qD b 16;unfold dD ci.sml rd;split<;>simp only<;>omega
def bO(h:ab):List au:=(ml h).take 16
def started(h:ab):ab × Bool:=match mu (bO h) h.Seed with
 | []=>({h with Seed:=(shuf (bO h).length h.Seed).2},false)
 | q::_=>({h with Seed:=(shuf (bO h).length h.Seed).2,Meshing:=true,Job:=vB (dD (nth (bO h) q.A.toNat) (nth (bO h) q.B.toNat))},true)
theorem LM{h:ab}{E:List Int}(a:bn h E):h.Spans.length<=32/\dU h<=32/\x8 h/\∀s∈h.Spans,s.Bits<=9223372036854775807:=by
 have b:=a.lens;refine⟨b.spans,b.ents,?_,λs c=>by have:=dS (a.L.sok s c);omega⟩;have:=(bp a.ker).1.2;exact this
theorem FD(h:ab):(bO h).length<=16:=by unfold bO;rw[I1];omega
theorem ND(x:List fD)(z:Int):dA (iT .own x++[I z])=iT .imm x++[I z]:=by
 have h:=Fy x;rw[ca]at h |-;rw[V4,h];simp[fz]
theorem NU(h:ab):(bO h).map (au.enc .imm)=((ml h).map (au.enc .imm)).take 16:=R3
theorem EP(p:ci)(b:eH p=true)(c:ci.sml p):ao Tryz.prog 367 false [.val (some 3) (ci.enc .imm p)] (.tup [some 5,none]) (xi (vB p)++[B true]):=by
 have h:=(BO p b c).fzR;have e:dA (cj.enc .own (vB p)++[B true])=xi (vB p)++[B true]:=by
  have a:=cj.enc_fz (vB p);rw[ca]at a |-;rw[V4,a];simp[fz,cj.enc,xi]
 rwa [e]at h
theorem x9(h:ab)(w:bn h []):aP Tryz.prog 307 false [.ptr (b8 h)] [.ptr (b8 (started h).1)] .one [B (started h).2]:=by
 obtain⟨w1,Q,H,J⟩:=LM w;have a:=w.nums;unfold cm at a;rw[C0]at a;have e:=(wa h H ω ω J).fzR;rw[dE]at e;have o:=FD h;have b:=(tU (bO h) h.Seed ⟨a.1,a.2.1⟩ o).fzR;rw[ND]at b;have g:=qb (bO h) ⟨a.1,a.2.1⟩;have K:=vz h h.Spans.length;have y:(ml h).length<=32:=by unfold ml;omega
 have j:=NU h;unfold started;cases C:mu (bO h) h.Seed with
 | nil=>
  rw[C]at b;by_cases L:16<(ml h).length
  ·refine fM 62 [] [(8,275,[34,35,36,37,38,39,40,41,42,43,44,45,46,47,48,33,49,50,6,0,1,2,3,4,5,6,7,8,9,10,11,12,13,14,15,16,17,18,19,1017,20])] [(0,0)] Tryz.func307 rfl (λu q=>?_)
   repeat'(first|refine gD ?_|(conv=>whnf);first|refine C9 ?_|refine CD (e) ⟨⟨rfl,bA h⟩,trivial⟩ ?_|refine C6 (b) ?_|refine CS 16 rfl (by rw[W0];omega) (aI λ_=>rfl) j ?_)
   refine CE rfl rfl ?_;exact wC
  ·have k:bO h=ml h:=by unfold bO;exact T5 ω
   rw[k]at b;refine fM 62 [] [(8,275,[34,35,36,37,38,39,40,41,42,43,44,45,46,47,48,33,49,50,6,0,1,2,3,4,5,6,7,8,9,10,11,12,13,14,15,16,17,18,19,1017,20])] [(0,0)] Tryz.func307 rfl (λu q=>?_);rw[k]
   repeat'(first|refine gD ?_|(conv=>whnf);first|refine C9 ?_|refine CD (e) ⟨⟨rfl,bA h⟩,trivial⟩ ?_|refine C6 (b) ?_)
   refine CE rfl rfl ?_;exact wC
 | cons q M=>
  rw[C]at b g;obtain⟨E,F,G⟩:=g q (O1 ..);obtain⟨N,O,P⟩:=sf G;have p:=xv _ _ G O P;have t:=EP _ N (FG _ _);have c:=ah (xs:=bO h) (i:=q.A.toNat) ω;have d:=ah (xs:=bO h) (i:=q.B.toNat) ω;have l:(q::M)[0]? = some q:=rfl;by_cases L:16<(ml h).length
  ·refine fM 62 [] [(8,275,[34,35,36,37,38,39,40,41,42,43,44,45,46,47,48,33,49,50,6,0,1,2,3,4,5,6,7,8,9,10,11,12,13,14,15,16,17,18,19,1017,20])] [(0,0)] Tryz.func307 rfl (λu r=>?_)
   repeat'(first|refine gD ?_|(conv=>whnf);first|with_reducible refine Bf.D (λn=>absurd n (by simp)) (λn=>?_)|refine C9 ?_|refine CD (e) ⟨⟨rfl,bA h⟩,trivial⟩ ?_|refine C6 (b) ?_|refine CS 16 rfl (by rw[W0];omega) (aI λ_=>rfl) j ?_|refine CJ (by decide) (aa l) ?_|refine CJ E.1 (aa c) ?_|refine CJ F.1 (aa d) ?_|refine C6 (p) ?_|refine CD (t) ⟨⟨rfl,ci.enc_fz _⟩,trivial⟩ ?_|refine C9 ?_)
   refine CE rfl rfl ?_;exact wC
  ·have k:bO h=ml h:=by unfold bO;exact T5 ω
   rw[k]at b p t c d;refine fM 62 [] [(8,275,[34,35,36,37,38,39,40,41,42,43,44,45,46,47,48,33,49,50,6,0,1,2,3,4,5,6,7,8,9,10,11,12,13,14,15,16,17,18,19,1017,20])] [(0,0)] Tryz.func307 rfl (λu r=>?_);rw[k]
   repeat'(first|refine gD ?_|(conv=>whnf);first|with_reducible refine Bf.D (λn=>absurd n (by simp)) (λn=>?_)|refine C9 ?_|refine CD (e) ⟨⟨rfl,bA h⟩,trivial⟩ ?_|refine C6 (b) ?_|refine CJ (by decide) (aa l) ?_|refine CJ E.1 (aa c) ?_|refine CJ F.1 (aa d) ?_|refine C6 (p) ?_|refine CD (t) ⟨⟨rfl,ci.enc_fz _⟩,trivial⟩ ?_|refine C9 ?_)
   refine CE rfl rfl ?_;exact wC
def du(k:af):af:={k with Calls:=k.Calls+1}
def refd(k:af):Bool:=decide (k.Calls∈k.Refuse)
def vm(k:af)(p:Int)(m:Int):af:={k with Machine:=⟨k.Machine.Frames,⟨k.Machine.Table.Entries.set p.toNat {nth k.Machine.Table.Entries p.toNat with Mode:=m}⟩⟩}
def jQ(k:af)(p m:Int):af × Bool:=if refd k=true then(du k,false) else(vm (du k) p m,true)
theorem Hj(k:af)(p m:Int):af.enc .own (vm k p m)=(af.enc .own k).set 2 (.s .own ((k.Machine.Table.Entries.map (bi.enc .own)).set p.toNat (bi.enc .own {nth k.Machine.Table.Entries p.toNat with Mode:=m}))):=by
 simp[af.enc,vm,Z4]
end Go.Proofs.YtembpgjjnioagaaGreat.Ab
