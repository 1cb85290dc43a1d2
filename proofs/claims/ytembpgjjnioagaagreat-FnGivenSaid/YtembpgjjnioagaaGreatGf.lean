/- ch that keep what holds of a heap with addresses in hand. No condition. -/
import Derived.Test.YtembpgjjnioagaaGreatGd
import Derived.Test.YtembpgjjnioagaaGreatGe
import Derived.Deep.LoopGhost
import Derived.Deep.RegionLaw
import Derived.Lib.Walk
import Derived.Sort.WalkB12
import Derived.Lib.SliceRun
import Derived.Shelf.RegionOpenPlain
set_option linter.unusedVariables false
set_option linter.unusedSimpArgs false
set_option linter.constructorNameAsVariable false
namespace Go.Proofs.YtembpgjjnioagaaGreat.Ab
def dele{α:Type}(xs:List α)(i:Nat):List α:=xs.take i++xs.drop (i+1)
theorem dY{α:Type}(xs:List α)(i:Nat):(dele xs i).Sublist xs:=by
 unfold dele;rw[<-List.eraseIdx_eq_take_drop_succ];exact List.eraseIdx_sublist ..
theorem xP{α:Type}[Inhabited α]{xs:List α}{i:Nat}(a:i<xs.length):xs.Perm (nth xs i::dele xs i):=by
 have:xs=xs.take i++nth xs i::xs.drop (i+1):=by rw[<-gU a,List.take_append_drop]
 conv=>lhs;rw[this]
 exact List.perm_middle
theorem ia{α:Type}[Inhabited α](f:α->List Int)(a:Int):∀(xs:List α)(i:Nat)(y:α),i<xs.length->((xs.set i y).flatMap f).count a+(f (nth xs i)).count a=(xs.flatMap f).count a+(f y).count a
 | [],i,_,h=>by cases h
 | x::xs,0,y,_=>by
  show((y::xs).flatMap f).count a+(f x).count a=((x::xs).flatMap f).count a+(f y).count a;rw[O5,O5,Z4,Z4];omega
 | x::xs,i+1,y,h=>by
  have:=ia f a xs i y (by simpa using h);show((x::xs.set i y).flatMap f).count a+(f (nth xs i)).count a=((x::xs).flatMap f).count a+(f y).count a;rw[O5,O5,Z4,Z4];omega
theorem jG(a:List (List Int)):a.flatten=a.flatMap λx=>x:=by
 induction a with
 | nil=>rfl
 | cons x xs b=>rw[List.flatten_cons,O5,b]
theorem iR.any{sp:List au}{a c:Int}(h:iR sp a c):iR sp a (-1):=by
 obtain⟨s,b,d,-⟩:=h;exact⟨s,b,d,.inl (by decide)⟩
theorem bm.cells{h:ab}{E:List Int}(a:bm h E){k:af}(c:aA k=true)(b:k.Machine.Table=h.Kernel.Machine.Table):bm {h with Kernel:=k} E:=
 {a with
   ker:=c
   rng:=by show br ((k.Machine.Table.Entries.length:Nat):Int) h.Free=true;rw[b];exact a.rng
   pg:=by show Pg k.Machine.Table h.Free h.Spans h.Larges;rw[b];exact a.pg}
theorem bm.dropO{h:ab}{E:List Int}{i:Nat}(b:bm h E)(g:i<h.Objs.length)(j:iR h.Spans (nth h.Objs i).Addr (-1)):bm {h with Objs:=dele h.Objs i} ((nth h.Objs i).Addr::E):=by
 have f:(E++holders h).Perm (((nth h.Objs i).Addr::E)++holders {h with Objs:=dele h.Objs i}):=by
  have k:=(xP g).map (·.Addr);refine List.perm_iff_count.2 λa=>?_
  have l:=k.count_eq a;simp only[Y4,List.count_cons]at l;simp only[holders,ce,Z4,List.cons_append,List.count_cons];omega
 have c:(dele h.Objs i).Sublist h.Objs:=dY ..;exact {b with
   osr:=b.osr.sublist c
   onu:=λo d=>b.onu o (c.subset d)
   oid:=b.oid.sublist (c.map _)
   oow:=λo d=>b.oow o (c.subset d)
   hin:=λa e=>by
     rcases List.mem_cons.1 e with rfl|e
     · exact j
     · exact b.hin a e
   nd:=f.nodup_iff.1 b.nd
   mem:=λa=>by rw[<-f.mem_iff];exact b.mem a}
def lK(c:aB)(k:Nat)(a:Int):aB:=⟨c.Lists.set k (nth c.Lists k++[a])⟩
theorem bm.put{h:ab}{E:List Int}{a:Int}{t k:Nat}(g:bm h (a::E))(l:t<h.Caches.length)(q:k<(nth h.Caches t).Lists.length)(r:iR h.Spans a k)(u:bt (lK (nth h.Caches t) k a)=true):bm {h with Caches:=h.Caches.set t (lK (nth h.Caches t) k a)} E:=by
 have n:(a::E++holders h).Perm (E++holders {h with Caches:=h.Caches.set t (lK (nth h.Caches t) k a)}):=by
  refine List.perm_iff_count.2 λb=>?_
  have w:=ia (λc:aB=>c.Lists.flatten) b h.Caches t (lK (nth h.Caches t) k a) l;have p:=ia (λx:List Int=>x) b (nth h.Caches t).Lists k (nth (nth h.Caches t).Lists k++[a]) q;rw[<-jG,<-jG]at p;simp only[Z4,List.count_singleton]at p;simp only[lK]at w;simp only[holders,ce,lK,Z4,List.cons_append,List.count_cons];omega
 exact {g with
   nc:=by show(h.Caches.set ..).length=_;rw[C1];exact g.nc
   cach:=λc d=>by
     rcases C5 d with d|rfl
     · exact g.cach c d
     · exact u
   onu:=by show ∀o∈h.Objs,1<=o.Id/\o.Id<=h.Next - 1/\0<=o.Thread/\o.Thread<=(h.Caches.set t _).length - 1;rw[C1];exact g.onu
   hca:=λc d j i b f=>by
     rcases C5 d with d|rfl
     · exact g.hca c d j i b f
     · simp only[lK,C1]at i
       simp only[lK,cB]at f;by_cases e:k=j
       · subst e
         rw[C8 ⟨rfl,i⟩]at f;rcases Q2.1 f with f|f
         · exact g.hca _ (am l) _ i b f
         · rw[Z0.1 f];exact r
       · rw[C7 λx=>e x.1]at f
         exact g.hca _ (am l) _ i b f
   hin:=λb f=>g.hin b (R4 _ f)
   nd:=n.nodup_iff.1 g.nd
   mem:=λb=>by rw[<-n.mem_iff];exact g.mem b}
theorem bm.toQuar{h:ab}{E:List Int}{x:aK}{q:bC}{out:List aK}(d:bm h (x.Addr::E))(i:fp q=true)(f:h.Quar.Lst++[x]=out++q.Lst)(j:x.Since<=h.Clock)(k:iR h.Spans x.Addr x.Class):bm {h with Quar:=q} (out.map (·.Addr)++E):=by
 have c:∀y∈out++q.Lst,y.Since<=h.Clock/\iR h.Spans y.Addr y.Class:=λy a=>by
  rw[<-f]at a;rcases Q2.1 a with a|a
  ·exact⟨d.snc y a,d.hqu y a⟩
  ·rw[Z0.1 a];exact⟨j,k⟩
 have g:(x.Addr::E++holders h).Perm ((out.map (·.Addr)++E)++holders {h with Quar:=q}):=by
  refine List.perm_iff_count.2 λb=>?_
  have n:=T0 (λl:List aK=>(l.map (·.Addr)).count b) f;simp only[W4,Z4,Y4,List.map_nil,List.count_singleton]at n;simp only[holders,ce,Z4,List.cons_append,List.count_cons];omega
 exact {d with
   quar:=i
   snc:=λy a=>(c y (Q2.2 (.inr a))).1
   hqu:=λy a=>(c y (Q2.2 (.inr a))).2
   hin:=λb e=>by
     rcases Q2.1 e with e|e
     · obtain⟨y,a,rfl⟩:=V3.1 e
       exact(c y (Q2.2 (.inl a))).2.any
     · exact d.hin b (R4 _ e)
   nd:=g.nodup_iff.1 d.nd
   mem:=λb=>by rw[<-g.mem_iff];exact d.mem b}
def wZ(b i:Int):Int:=((BitVec.ofInt IntKind.i64.bits b &&& ~~~BitVec.ofInt IntKind.i64.bits (2 ^ i.toNat)).toNat:Nat)
def lD(s:au)(i:Int):au:={s with Bits:=wZ s.Bits i}
theorem fN(b i:Int):aX b i=true↔0<=b/\0<=i/\i<=15/\b.toNat.testBit i.toNat=true:=by
 unfold aX;rw[C0];refine and_congr_right λa=>and_congr_right λc=>and_congr_right λ_=>?_
 obtain⟨n,rfl⟩:=O2 a;rw[Nat.testBit_eq_decide_div_mod_eq,C0,I2]
 norm_cast
theorem Bc{b i:Int}(f:0<=b/\b<=65535)(a:0<=i/\i<=15)(j:Nat):(wZ b i).toNat.testBit j=(b.toNat.testBit j&&decide (i.toNat≠j)):=by
 have g:(2:Int) ^ i.toNat<=32768/\0<=(2:Int) ^ i.toNat:=by
  obtain⟨n,rfl⟩:=O2 a.1;rw[I2];have:(2:Nat) ^ n<=2 ^ 15:=Nat.pow_le_pow_right (by decide) ω;have c:((2 ^ n:Nat):Int)=(2:Int) ^ n:=Int.natCast_pow 2 n;rw[<-c];exact⟨Int.ofNat_le.2 this,Int.natCast_nonneg _⟩
 unfold wZ;rw[I2,BitVec.testBit_toNat,BitVec.getLsbD_and,BitVec.getLsbD_not,<-BitVec.testBit_toNat,<-BitVec.testBit_toNat,lC ω,lC ω];rw[show((2:Int) ^ i.toNat).toNat=2 ^ i.toNat by rw[show(2:Int) ^ i.toNat=((2 ^ i.toNat:Nat):Int) by norm_cast,I2],Nat.testBit_two_pow];by_cases d:j<64
 ·rw[show decide (j<IntKind.i64.bits)=true from O0 d,Bool.true_and]
  congr 1
  by_cases e:i.toNat=j
  ·rw[O0 e,Q0 (λx=>x e)];rfl
  ·rw[Q0 e,O0 e];rfl
 ·rw[Nat.testBit_lt_two_pow (x:=b.toNat) (i:=j) (C3 (show b.toNat<2 ^ 16 by omega) (Nat.pow_le_pow_right (by decide) ω))]
  rfl
theorem yM{b i:Int}(a:0<=b/\b<=65535):0<=wZ b i/\wZ b i<=b:=by
 unfold wZ;refine⟨ω,?_⟩;rw[BitVec.toNat_and,lC ω];have:=Nat.and_le_left (n:=b.toNat) (m:=(~~~BitVec.ofInt IntKind.i64.bits (2 ^ i.toNat)).toNat);omega
theorem HS{b i:Int}(a:0<=b/\b<=65535)(h:0<=i/\i<=15)(j:Int):aX (wZ b i) j=true↔aX b j=true/\j≠i:=by
 rw[fN,fN,Bc a h,I0,C0];have:=yM (i:=i) a;constructor
 ·rintro⟨k,c,d,f,g⟩;exact⟨⟨a.1,c,d,f⟩,λe=>g (by rw[e])⟩
 ·rintro⟨⟨k,c,d,f⟩,g⟩;exact⟨this.1,c,d,f,λe=>g ω⟩
theorem ef{s:au}(h:bf s=true):0<=s.Bits/\s.Bits<=65535:=by
 unfold bf at h;simp only[C0]at h;have:=DI s.Class;omega
theorem Fj{s:au}(h:bf s=true)(i:Int):bf (lD s i)=true:=by
 have b:=ef h;have a:=yM (i:=i) b;unfold bf at h;rw[C0]at h;obtain⟨c,d,e,f,j,g⟩:=h;exact O0 ⟨c,d,e,f,a.1,z4 a.2 g⟩
theorem rx{s u:au}(a:bf s=true){i:Int}(b:0<=i/\i<=15)(h:meshable s u=true):meshable (lD s i) u=true:=by
 unfold meshable at h |-;simp only[I0,C0]at h |-;obtain⟨⟨c,d⟩,e,f,g⟩:=h;refine⟨⟨Fj c i,d⟩,e,f,?_⟩;refine Nat.eq_of_testBit_eq λj=>?_
 have:=T0 (λn=>Nat.testBit n j) g;simp only[Nat.testBit_and,Nat.zero_testBit,lD,Bc (ef a) b]at this |-;cases k:s.Bits.toNat.testBit j<;>cases l:u.Bits.toNat.testBit j<;>rw[k,l]at this<;>simp_all
def dL(s:au)(a:Int):Int:=(a - 16*s.Page) / csz s.Class
theorem rc{s:au}(h:bf s=true){a:Int}(c:16*s.Page<=a/\a<=16*s.Page+15):0<=dL s a/\dL s a<=15:=by
 have b:=aE h;unfold dL;rcases co ⟨b.2.2.1,b.2.2.2⟩ with e|e|e|e<;>rw[e]<;>omega
theorem El{s:au}(h:bf s=true){a b:Int}(d:(a - 16*s.Page) % csz s.Class=0)(f:(b - 16*s.Page) % csz s.Class=0)(e:dL s a=dL s b):a=b:=by
 have c:=aE h;unfold dL at e;rcases co ⟨c.2.2.1,c.2.2.2⟩ with z|z|z|z<;>rw[z]at d f e<;>omega
theorem xL{s:au}(h:bf s=true){a:Int}(k:eS s a)(b:Int):eS (lD s (dL s a)) b↔eS s b/\b≠a:=by
 obtain⟨l,n,o,p⟩:=k;have d:=rc h ⟨l,n⟩;unfold eS;simp only[lD];rw[HS (ef h) d];constructor
 ·rintro⟨f,g,c,i,j⟩
  exact⟨⟨f,g,c,i⟩,λe=>j (by rw[e];rfl)⟩
 ·rintro⟨⟨f,g,c,i⟩,j⟩
  exact⟨f,g,c,i,λe=>j (El h c o e)⟩
theorem eJ{α:Type}[Inhabited α]{xs:List α}{i:Nat}{y z:α}(h:z∈xs.set i y):z=y\/∃j,j<xs.length/\j≠i/\nth xs j=z:=by
 obtain⟨j,a,rfl⟩:=List.mem_iff_getElem.1 h;rw[List.getElem_set];by_cases e:i=j
 ·subst e;simp
 ·rw[C7 e]
  rw[C1]at a;exact .inr ⟨j,a,λx=>e x.symm,bq (U1 a)⟩
theorem iL{α:Type}[Inhabited α]{xs:List α}{i j:Nat}(y:α)(a:j<xs.length)(e:j≠i):nth xs j∈xs.set i y:=by
 have:nth (xs.set i y) j=nth xs j:=by rw[cB,C7 λx=>e x.1.symm]
 rw[<-this];exact am (by rw[C1];exact a)
theorem hO{α:Type}{xs:List α}{i:Nat}(y:α)(a:i<xs.length):y∈xs.set i y:=by
 refine List.mem_iff_getElem.2 ⟨i,by rw[C1];exact a,by simp⟩
theorem Hx{sp:List au}{i:Nat}(k:Int)(a:i<sp.length):(sp.set i (lD (nth sp i) k)).map (·.Page)=sp.map (·.Page):=by
 rw[t5];refine List.ext_getElem (by simp) λj b c=>?_
 rw[List.getElem_set];split
 ·rename_i e;subst e
  rw[List.getElem_map];show(nth sp i).Page=_;rw[bq (U1 a)]
 ·rfl
theorem iR.set{sp:List au}{la:List a8}(q:qL sp la){i:Nat}(k:i<sp.length){a:Int}(l:eS (nth sp i) a)(b c:Int):iR (sp.set i (lD (nth sp i) (dL (nth sp i) a))) b c↔iR sp b c/\b≠a:=by
 have g:=q.sok _ (am k);constructor
 ·rintro⟨s,o,d,h⟩
  rcases eJ o with rfl|⟨j,n,r,rfl⟩
  ·have:=(xL g l b).1 d
   exact⟨⟨_,am k,this.1,h⟩,this.2⟩
  ·refine⟨⟨_,am n,d,h⟩,λe=>?_⟩
   subst e;have:=gu (f:=(·.Page)) q.nd k n (by have t:=l.1;have u:=l.2.1;have w:=d.1;have y:=d.2.1;omega);omega
 ·rintro⟨⟨s,o,d,h⟩,p⟩
  obtain⟨j,n,rfl⟩:=bc o;by_cases e:j=i
  ·subst e
   exact⟨_,hO _ k,(xL g l b).2 ⟨d,p⟩,h⟩
  ·exact⟨_,iL _ n e,d,h⟩
theorem bm.give{h:ab}{E:List Int}{a:Int}{i:Nat}(d:bm h (a::E))(J:i<h.Spans.length)(K:eS (nth h.Spans i) a):bm {h with Spans:=h.Spans.set i (lD (nth h.Spans i) (dL (nth h.Spans i) a))} E:=by
 have G:=d.L;have Q:=G.sok _ (am J);have M:=rc Q ⟨K.1,K.2.1⟩;have f:=λb c=>iR.set G J K b c
 have A:=Hx (dL (nth h.Spans i) a) J;generalize R:h.Spans.set i (lD (nth h.Spans i) (dL (nth h.Spans i) a))=sp at f A;have q:pgs sp h.Larges=pgs h.Spans h.Larges:=by unfold pgs;rw[A]
 have B:=d.nd;rw[List.cons_append]at B;obtain⟨S,B⟩:=List.nodup_cons.1 B;have r:∀b,b∈E++holders h->b≠a:=λb g e=>S (by rw[<-e];exact g)
 have C:∀b,b∈holders h->b≠a:=λb g=>r b (Q2.2 (.inr g))
 have T:∀l∈h.Larges,16*l.Page≠a:=λl O e=>(vJ G O).1 _ (am J) (by have a1:=K.1;have a2:=K.2.1;omega)
 have t:∀s∈sp,∃u∈h.Spans,u.Page=s.Page/\(s=u\/s=lD u (dL (nth h.Spans i) a)):=λs p=>by
  rw[<-R]at p;rcases eJ p with rfl|⟨j,hj,hji,rfl⟩
  ·exact⟨_,am J,rfl,.inr rfl⟩
  ·exact⟨_,am hj,rfl,.inl rfl⟩
 have N:∀u∈h.Spans,∃s∈sp,s.Page=u.Page:=λu y=>by
  have:u.Page∈sp.map (·.Page):=by rw[A];exact V3.2 ⟨u,y,rfl⟩
  obtain⟨s,p,e⟩:=V3.1 this;exact⟨s,p,e⟩
 exact {d with
   lay:=by
     obtain⟨l1,l2,l3⟩:=dd d.lay;unfold bj;simp only[I0,C0];refine⟨⟨Q3.2 λs p=>?_,l2⟩,by rw[q];exact l3⟩;obtain⟨u,y,-,rfl|rfl⟩:=t s p
     · exact G.sok _ y
     · exact Fj (G.sok _ y) _
   srs:=by
     have n:(h.Spans.map (·.Page)).Pairwise (λa b=>a<b):=List.pairwise_map.2 d.srs;rw[<-A]at n;exact List.pairwise_map.1 n
   pg:=⟨d.pg.one,by rw[q];exact d.pg.bnd,by rw[q];exact d.pg.own,d.pg.fre,λs p u y r hf=>by
     obtain⟨U,D,Z,V⟩:=t s p;obtain⟨P,F,eu,W⟩:=t u y;have n:=d.pg.mesh U D P F (by rw[Z,eu];exact r) (by rw[Z,eu];exact hf);have w:meshable s P=true:=by
       rcases V with rfl|rfl
       · exact n
       · exact rx (G.sok _ D) M n
     rcases W with rfl|rfl
     · exact w
     · rw[i6]at w |-;exact rx (G.sok _ F) M w⟩
   oow:=λo ho=>by
     have X:o.Addr≠a:=C _ (by unfold holders;simp only[Q2];exact .inl (.inl (.inl (V3.2 ⟨o,ho,rfl⟩))));rcases d.oow o ho with⟨s,p,n,w⟩|n
     · obtain⟨u,y,Y,H⟩:=(f o.Addr (aN o.Size)).2 ⟨⟨s,p,n,.inr w⟩,X⟩
       refine .inl ⟨u,y,Y,?_⟩;rcases H with H|H
       · have:=aE (G.sok _ p);omega
       · exact H
     · exact .inr n
   hca:=λc hc k hk b g=>(f b k).2 ⟨d.hca c hc k hk b g,C b (by
     unfold holders ce;simp only[Q2];exact .inl (.inl (.inr (List.mem_flatMap.2 ⟨c,hc,List.mem_flatten.2 ⟨_,am hk,g⟩⟩))))⟩
   hqu:=λx hx=>(f _ _).2 ⟨d.hqu x hx,C _ (by unfold holders;simp only[Q2];exact .inl (.inr (V3.2 ⟨x,hx,rfl⟩)))⟩
   hfl:=λb g=>(f _ _).2 ⟨d.hfl b g,C _ (by unfold holders;simp only[Q2];exact .inr g)⟩
   hin:=λb g=>(f _ _).2 ⟨d.hin b (R4 _ g),r b (Q2.2 (.inl g))⟩
   nd:=B
   mem:=λb=>by
     show b∈E++holders h↔ll sp h.Larges b;have n:=d.mem b;rw[List.cons_append,List.mem_cons]at n;unfold ll at n |-;rw[f];constructor
     · intro g
       rcases n.1 (.inr g) with w|w
       · exact .inl ⟨w,r b g⟩
       · exact .inr w
     · rintro(⟨w,h3⟩|⟨l,O,rfl⟩)
       · exact(n.2 (.inl w)).resolve_left h3
       · exact(n.2 (.inr ⟨l,O,rfl⟩)).resolve_left (T l O)
   job:=λhm=>by
     obtain⟨j1,⟨s,p,e1⟩,⟨u,y,e2⟩⟩:=d.job hm;obtain⟨U,D,Y⟩:=N s p;obtain⟨P,F,H⟩:=N u y;exact⟨j1,⟨U,D,Y.trans e1⟩,⟨P,F,H.trans e2⟩⟩}
def dy(k:af)(p:Int):Nat->af
 | 0=>k
 | n+1=>cb (dy k p n) (p+n)
theorem jo{k:af}(h:aA k=true)(p:Int):∀n,aA (dy k p n)=true
 | 0=>h
 | n+1=>vk _ (jo h p n)
theorem ew(k:af)(p:Int):∀n,(dy k p n).Machine.Table.Entries.length=k.Machine.Table.Entries.length/\(dy k p n).Calls=k.Calls/\(dy k p n).Refuse=k.Refuse
 | 0=>⟨rfl,rfl,rfl⟩
 | n+1=>by
  obtain⟨a,b,c⟩:=ew k p n;obtain⟨d,e,f⟩:=j9 (dy k p n) (p+n);exact⟨d.trans a,e.trans b,f.trans c⟩
theorem vj{k:af}(h:aA k=true){p:Int}(d:0<=p/\p<k.Machine.Table.Entries.length)(q:Nat):nth (cb k p).Machine.Table.Entries q=if(q:Int)=p then⟨0,0⟩ else nth k.Machine.Table.Entries q:=by
 have g:ar k.Machine.Table p=nth k.Machine.Table.Entries p.toNat:=by unfold ar;rw[C8 d]
 unfold cb;split
 ·rename_i a
  split
  ·rename_i i
   rw[g]at a;have b:=(bu.1 (aC.1 h).2.2.1).1 p.toNat ω;unfold jF at b;rw[C0]at b;have c:=b.2.2.1 a;rw[show q=p.toNat by omega];generalize nth k.Machine.Table.Entries p.toNat=e at a c;obtain⟨m,f⟩:=e;simp only at a c;rw[a,c]
  ·rfl
 ·rw[(oe _ _).1]
  simp only[jC,cB];by_cases e:(q:Int)=p
  ·rw[C8 ⟨ω,ω⟩,C8 e]
  ·rw[C7 λx=>e ω,C7 e]
theorem kM{k:af}(h:aA k=true){p:Int}(b:0<=p):∀n:Nat,p+n<=k.Machine.Table.Entries.length->∀q:Nat,nth (dy k p n).Machine.Table.Entries q=if p<=q/\(q:Int)<p+n then⟨0,0⟩ else nth k.Machine.Table.Entries q
 | 0,_,q=>by rw[C7 ω];rfl
 | n+1,f,q=>by
  have c:=kM h b n ω q;have d:=vj (jo h p n) (p:=p+n) ⟨ω,by rw[(ew k p n).1];omega⟩ q;show nth (cb (dy k p n) (p+n)).Machine.Table.Entries q=_;rw[d,c];by_cases e:(q:Int)=p+n
  ·rw[C8 e,C8 ⟨ω,ω⟩]
  ·rw[C7 e]
   by_cases a:p<=q/\(q:Int)<p+n
   ·rw[C8 a,C8 ⟨ω,ω⟩]
   ·rw[C7 a,C7 ω]
theorem AJ{α β:Type}(f:α->List β){xs c:List α}(h:xs.Sublist c):(xs.flatMap f).Sublist (c.flatMap f):=by
 induction h with
 | slnil=>exact List.Sublist.refl _
 | cons a _ b=>rw[O5];exact b.trans (List.sublist_append_right ..)
 | cons_cons a _ b=>rw[O5,O5];exact List.Sublist.append (List.Sublist.refl _) b
theorem ug{h:ab}{E:List Int}(c:bm h E){sp:List au}{la:List a8}{p:Int}{n:Nat}(Y:1<=n)(w:sp.Sublist h.Spans)(D:la.Sublist h.Larges)(j:∀q:Int,p<=q->q<p+n->q∈pgs h.Spans h.Larges)(K:0<=p)(F:∀q,q∈pgs sp la↔q∈pgs h.Spans h.Larges/\¬(p<=q/\q<p+n)) :
  ∃o,bS (dE h) h.Free ⟨p,n⟩ = some o/\aA (dy h.Kernel p n)=true/\br ((dy h.Kernel p n).Machine.Table.Entries.length:Nat) o=true/\bj sp la=true/\Pg (dy h.Kernel p n).Machine.Table o sp la:=by
 have t:=c.pg.bnd _ (j (p+n - 1) ω ω);have a:=(ew h.Kernel p n).1;have y:p+n<=h.Kernel.Machine.Table.Entries.length:=by unfold tbl at t;omega
 have g:=kM c.ker K n y;obtain⟨o,Q,R,S⟩:=sA (r:=⟨p,n⟩) c.rng ⟨K,by simp only;omega,y⟩ λq M N=>by
  simp only at M N;obtain⟨m,rfl⟩:=O2 (show 0<=q by omega);have A:m<(tbl h).Entries.length:=by unfold tbl;omega
  exact(c.pg.fre m A).1 ((c.pg.own m A).2 (j _ M N))
 refine⟨o,Q,jo c.ker p n,by rw[a];exact R,?_,?_⟩
 ·obtain⟨T,U,V⟩:=dd c.lay
  unfold bj;simp only[I0,C0];exact⟨⟨Q3.2 λs d=>Q3.1 T s (w.subset d),Q3.2 λl d=>Q3.1 U l (D.subset d)⟩,V.sublist ((w.map _).append (AJ _ D))⟩
 ·have i:∀q:Nat,(q:Int)∈pgs sp la->nth (dy h.Kernel p n).Machine.Table.Entries q=nth (tbl h).Entries q:=λq f=>by rw[g,C7 ((F q).1 f).2];rfl
  have b:∀q:Nat,(nth (dy h.Kernel p n).Machine.Table.Entries q).Mode≠0↔(nth (tbl h).Entries q).Mode≠0/\¬(p<=q/\(q:Int)<p+n):=λq=>by
   rw[g];by_cases e:p<=q/\(q:Int)<p+n
   ·rw[C8 e];exact⟨λx=>absurd rfl x,λx=>absurd e x.2⟩
   ·rw[C7 e];exact⟨λx=>⟨x,e⟩,λx=>x.1⟩
  refine⟨λl d q f r O G B=>?_,λq f=>?_,λq f=>?_,λq f=>?_,λs d u H J P=>?_⟩
  ·have C:=(b r).1 G
   rw[a]at O;rw[i q (eY d f),g,C7 C.2]at B;exact c.pg.one l (D.subset d) q f r O C.1 B
  ·rw[a];exact c.pg.bnd q ((F q).1 f).1
  ·rw[a]at f
   rw[b,F,c.pg.own q f]
  ·rw[a]at f
   rw[b,S,c.pg.fre q f];simp only
   grind
  ·have k:∀s∈sp,0<=s.Page:=λs d=>(aE (c.L.sok s (w.subset d))).1
   have W:=i s.Page.toNat (by rw[Int.toNat_of_nonneg (k s d)];exact dl d);have X:=i u.Page.toNat (by rw[Int.toNat_of_nonneg (k u H)];exact dl H);rw[W,X]at P;exact c.pg.mesh s (w.subset d) u (w.subset H) J P
theorem dU{α:Type}[Inhabited α]{xs:List α}{k:Nat}{z:α} : z∈dele xs k↔∃j,j<xs.length/\j≠k/\nth xs j=z:=by
 unfold dele;rw[Q2];constructor
 ·rintro(h|h)
  ·obtain⟨j,a,rfl⟩:=List.mem_take_iff_getElem.1 h
   exact⟨j,ω,ω,bq (U1 ω)⟩
  ·obtain⟨j,a,rfl⟩:=List.mem_drop_iff_getElem.1 h
   exact⟨k+1+j,ω,ω,bq (U1 ω)⟩
 ·rintro⟨j,a,b,rfl⟩
  rw[bq (U1 a)];by_cases e:j<k
  ·exact .inl (List.mem_take_iff_getElem.2 ⟨j,ω,rfl⟩)
  ·refine .inr (List.mem_drop_iff_getElem.2 ⟨j - (k+1),ω,?_⟩)
   congr 1;omega
theorem nP{sp:List au}{la:List a8}{q:Int} : q∈pgs sp la↔(∃s∈sp,s.Page=q)\/∃l∈la,q∈lpgs l l.Pages.toNat:=by
 unfold pgs;simp only[Q2,V3,List.mem_flatMap]
theorem zG{s:au}(h:s.Bits=0)(a:Int):¬eS s a:=by
 rintro⟨-,-,-,b⟩
 rw[fN,h]at b;simp at b
theorem bm.giveSpan{h:ab}{E:List Int}{i:Nat}(g:bm h E)(B:i<h.Spans.length)(y:(nth h.Spans i).Bits=0)(W:h.Meshing=true->(nth h.Spans i).Page≠h.Job.Plan.Keep/\(nth h.Spans i).Page≠h.Job.Plan.Move) :
  ∃o,bS (dE h) h.Free ⟨(nth h.Spans i).Page,1⟩ = some o/\bm {h with Kernel:=cb h.Kernel (nth h.Spans i).Page,Spans:=dele h.Spans i,Free:=o} E:=by
 have F:=g.L;have G:=aE (F.sok _ (am B));have A:∀q,q∈pgs (dele h.Spans i) h.Larges↔q∈pgs h.Spans h.Larges/\¬((nth h.Spans i).Page<=q/\q<(nth h.Spans i).Page+(1:Nat)):=λq=>by
  rw[nP,nP];constructor
  ·rintro(⟨s,r,rfl⟩|⟨l,C,D⟩)
   ·obtain⟨j,d,H,rfl⟩:=dU.1 r
    refine⟨.inl ⟨_,am d,rfl⟩,λe=>H (gu (f:=(·.Page)) F.nd d B ω)⟩
   ·refine⟨.inr ⟨l,C,D⟩,λe=>?_⟩
    obtain⟨k,J,rfl⟩:=dc.1 D;exact F.dis _ (am B) l C k J ω
  ·rintro⟨⟨s,r,rfl⟩|⟨l,C,D⟩,K⟩
   ·obtain⟨j,d,rfl⟩:=bc r
    refine .inl ⟨_,dU.2 ⟨j,d,λe=>K (by subst e;omega),rfl⟩,rfl⟩
   ·exact .inr ⟨l,C,D⟩
 obtain⟨o,X,Q,R,Y,S⟩:=ug g (sp:=dele h.Spans i) (la:=h.Larges) (p:=(nth h.Spans i).Page) (n:=1) (R2 _) (dY ..) (List.Sublist.refl _) (λq q1 q2=>by rw[show q=(nth h.Spans i).Page by omega];exact dl (am B)) G.1 A;have M:dy h.Kernel (nth h.Spans i).Page 1=cb h.Kernel (nth h.Spans i).Page:=by show cb h.Kernel ((nth h.Spans i).Page+((0:Nat):Int))=_;rw[show(nth h.Spans i).Page+((0:Nat):Int)=(nth h.Spans i).Page by omega]
 rw[M]at Q R S;have t:∀b c,iR (dele h.Spans i) b c↔iR h.Spans b c:=λb c=>by
  constructor
  ·rintro⟨s,r,w⟩;exact⟨s,(dY ..).subset r,w⟩
  ·rintro⟨s,r,w,N⟩
   obtain⟨j,d,rfl⟩:=bc r;exact⟨_,dU.2 ⟨j,d,λe=>zG y b (by rw[<-e];exact w),rfl⟩,w,N⟩
 refine⟨o,X,{g with
   ker:=Q
   rng:=R
   lay:=Y
   srs:=g.srs.sublist (dY ..)
   pg:=S
   oow:=λZ ho=>?_
   hca:=λc G k J b y=>(t b k).2 (g.hca c G k J b y)
   hqu:=λx hx=>(t _ _).2 (g.hqu x hx)
   hfl:=λb y=>(t _ _).2 (g.hfl b y)
   hin:=λb y=>(t _ _).2 (g.hin b y)
   mem:=λb=>(g.mem b).trans ?_
   job:=λT=>?_}⟩
 ·rcases g.oow Z ho with⟨s,r,w,N⟩|w
  ·obtain⟨j,d,rfl⟩:=bc r
   exact .inl ⟨_,dU.2 ⟨j,d,λe=>zG y _ (by rw[<-e];exact w),rfl⟩,w,N⟩
  ·exact .inr w
 ·unfold ll;rw[t]
 ·obtain⟨j1,⟨s,r,U⟩,⟨u,M,V⟩⟩:=g.job T
  obtain⟨n1,n2⟩:=W T;obtain⟨a,O,rfl⟩:=bc r;obtain⟨b,P,rfl⟩:=bc M;exact⟨j1,⟨_,dU.2 ⟨a,O,λe=>n1 (by rw[<-e];exact U),rfl⟩,U⟩,⟨_,dU.2 ⟨b,P,λe=>n2 (by rw[<-e];exact V),rfl⟩,V⟩⟩
theorem bm.dropL{h:ab}{E:List Int}{i k:Nat}(d:bm h E)(S:i<h.Objs.length)(y:k<h.Larges.length)(G:(nth h.Objs i).Addr=16*(nth h.Larges k).Page) :
  ∃o,bS (dE h) h.Free ⟨(nth h.Larges k).Page,(nth h.Larges k).Pages⟩ = some o/\bm {h with Kernel:=dy h.Kernel (nth h.Larges k).Page (nth h.Larges k).Pages.toNat,Larges:=dele h.Larges k,Free:=o,Objs:=dele h.Objs i} E:=by
 have A:=d.L;have T:=aT (A.lok _ (am y));have C:∀q,q∈pgs h.Spans (dele h.Larges k)↔q∈pgs h.Spans h.Larges/\¬((nth h.Larges k).Page<=q/\q<(nth h.Larges k).Page+((nth h.Larges k).Pages.toNat:Nat)):=λq=>by
  rw[nP,nP];constructor
  ·rintro(⟨s,B,rfl⟩|⟨l,f,D⟩)
   ·refine⟨.inl ⟨s,B,rfl⟩,λe=>A.dis s B _ (am y) (s.Page - (nth h.Larges k).Page).toNat ω ω⟩
   ·obtain⟨j,c,t,rfl⟩:=dU.1 f
    refine⟨.inr ⟨_,am c,D⟩,λe=>?_⟩;obtain⟨m,N,rfl⟩:=dc.1 D;exact t (A.one j k c y m ((nth h.Larges j).Page+(m:Int) - (nth h.Larges k).Page).toNat N ω ω)
  ·rintro⟨⟨s,B,rfl⟩|⟨l,f,D⟩,g⟩
   ·exact .inl ⟨s,B,rfl⟩
   ·obtain⟨j,c,rfl⟩:=bc f
    refine .inr ⟨_,dU.2 ⟨j,c,λe=>g ?_,rfl⟩,D⟩;subst e;obtain⟨m,N,rfl⟩:=dc.1 D;omega
 obtain⟨o,O,U,V,W,X⟩:=ug d (sp:=h.Spans) (la:=dele h.Larges k) (p:=(nth h.Larges k).Page) (n:=(nth h.Larges k).Pages.toNat) ω (List.Sublist.refl _) (dY ..) (λq q1 q2=>eY (am y) (dc.2 ⟨(q - (nth h.Larges k).Page).toNat,ω,ω⟩)) T.2.2.1 C;rw[Int.toNat_of_nonneg ω]at O;have P:(E++holders h).Perm ((nth h.Objs i).Addr::(E++holders {h with Objs:=dele h.Objs i})):=by
  have Y:=(xP S).map (·.Addr);refine List.perm_iff_count.2 λa=>?_
  have r:=Y.count_eq a;simp only[Y4,List.count_cons]at r;simp only[holders,ce,Z4,List.count_cons];omega
 have u:=P.nodup_iff.1 d.nd;obtain⟨K,u⟩:=List.nodup_cons.1 u;have w:∀b,(b=(nth h.Objs i).Addr\/b∈E++holders {h with Objs:=dele h.Objs i})↔ll h.Spans h.Larges b:=λb=>by rw[<-d.mem b,P.mem_iff,List.mem_cons]
 have g:∀b,b∈E++holders {h with Objs:=dele h.Objs i}->b≠(nth h.Objs i).Addr:=λb H e=>K (by rw[<-e];exact H)
 refine⟨o,O,{d with
   ker:=U
   rng:=V
   lay:=W
   srl:=d.srl.sublist (dY ..)
   pg:=X
   osr:=d.osr.sublist (dY ..)
   onu:=λF J=>d.onu F ((dY ..).subset J)
   oid:=d.oid.sublist ((dY ..).map _)
   oow:=λF J=>?_
   nd:=u
   mem:=λb=>?_}⟩
 ·rcases d.oow F ((dY ..).subset J) with r|⟨l,f,Q,Z⟩
  ·exact .inl r
  ·obtain⟨j,c,rfl⟩:=bc f
   refine .inr ⟨_,dU.2 ⟨j,c,λe=>?_,rfl⟩,Q,Z⟩;subst e;refine g F.Addr (Q2.2 (.inr ?_)) (by rw[G];exact Q);unfold holders;simp only[Q2];exact .inl (.inl (.inl (V3.2 ⟨F,J,rfl⟩)))
 ·constructor
  ·intro H
   rcases(w b).1 (.inr H) with r|⟨l,f,rfl⟩
   ·exact .inl r
   ·obtain⟨j,c,rfl⟩:=bc f
    exact .inr ⟨_,dU.2 ⟨j,c,λe=>g _ H (by rw[G,e]),rfl⟩,rfl⟩
  ·rintro(r|⟨l,f,rfl⟩)
   ·refine((w b).2 (.inl r)).resolve_left λe=>?_
    obtain⟨s,B,⟨M,R,-⟩,-⟩:=r;exact(vJ A (am y)).1 s B (by rw[e,G]at M R;exact⟨M,R⟩)
   ·obtain⟨j,c,t,rfl⟩:=dU.1 f
    refine((w _).2 (.inr ⟨_,am c,rfl⟩)).resolve_left λe=>t ?_
    have M:=aT (A.lok _ (am c));rw[G]at e;exact A.one j k c y 0 0 ω ω ω
def dZ(h:ab)(p:Int):Bool:=h.Meshing&&(decide (p=h.Job.Plan.Keep) || decide (p=h.Job.Plan.Move))
def giveP(h:ab)(i:Nat):ab:={h with Kernel:=cb h.Kernel (nth h.Spans i).Page,Spans:=dele h.Spans i,Free:=(bS (dE h) h.Free ⟨(nth h.Spans i).Page,1⟩).getD h.Free}
def clrS(h:ab)(i:Nat)(a:Int):ab:={h with Spans:=h.Spans.set i (lD (nth h.Spans i) (dL (nth h.Spans i) a))}
def freeS(h:ab)(i:Nat)(a:Int):ab:=if(lD (nth h.Spans i) (dL (nth h.Spans i) a)).Bits=0/\dZ h (nth h.Spans i).Page=false then giveP (clrS h i a) i else clrS h i a
def uR(h:ab)(a:Int):Nat:=(eA h (a / 16)).toNat
def freeA(h:ab)(a:Int):ab:=freeS h (uR h a) a
def cput(c:aB)(k a:Int):Option aB:=if bt c=true/\0<=k/\k<=3/\bt (lK c k.toNat a)=true then some (lK c k.toNat a) else none
def recyc(t:Nat)(h:ab)(a:Int):ab:=match cput (nth h.Caches t) (nth h.Spans (uR h a)).Class a with
 | some c=>{h with Caches:=h.Caches.set t c}
 | none=>freeA h a
theorem bm.at{h:ab}{E:List Int}{a:Int}(e:bm h E)(f:iR h.Spans a (-1)):uR h a<h.Spans.length/\eS (nth h.Spans (uR h a)) a/\eA h (a / 16)=(uR h a:Nat):=by
 obtain⟨s,g,c,-⟩:=f;obtain⟨i,d,rfl⟩:=bc g;have j:(nth h.Spans i).Page=a / 16:=by have l:=c.1;have n:=c.2.1;omega
 have b:=oh e.L d;rw[j]at b;have k:uR h a=i:=by unfold uR;rw[b];rfl
 rw[k];exact⟨d,c,b⟩
theorem J4{h:ab}{p:Int}(e:dZ h p=false)(a:h.Meshing=true):p≠h.Job.Plan.Keep/\p≠h.Job.Plan.Move:=by
 unfold dZ at e;rw[a]at e;simpa using e
theorem bm.freeS{h:ab}{E:List Int}{a:Int}{i:Nat}(f:bm h (a::E))(b:i<h.Spans.length)(g:eS (nth h.Spans i) a):bm (freeS h i a) E:=by
 have c:=f.give b g;unfold Ab.freeS;split
 ·rename_i e
  have d:nth (clrS h i a).Spans i=lD (nth h.Spans i) (dL (nth h.Spans i) a):=by unfold clrS;simp only[cB,true_and];rw[C8 b]
  obtain⟨o,j,k⟩:=bm.giveSpan (h:=clrS h i a) c (i:=i) (by unfold clrS;simp only[C1];exact b) (by rw[d];exact e.1) (λl=>by rw[d];exact J4 e.2 l);unfold giveP;rw[j];exact k
 ·exact c
theorem bm.freeA{h:ab}{E:List Int}{a:Int}(b:bm h (a::E)):bm (freeA h a) E:=by
 obtain⟨c,d,-⟩:=b.at (b.hin a (O1 ..));exact b.freeS c d
theorem sJ{c:aB}(h:bt c=true):c.Lists.length=4:=by
 unfold bt at h;simp only[I0,C0]at h;exact h.1
theorem bm.recyc{h:ab}{E:List Int}{a:Int}{t:Nat}(b:bm h (a::E))(f:t<h.Caches.length):bm (recyc t h a) E:=by
 obtain⟨g,i,-⟩:=b.at (b.hin a (O1 ..));unfold Ab.recyc;split
 ·rename_i c d
  unfold cput at d;split at d
  ·rename_i e
   cases d;obtain⟨j,l,n,k⟩:=e;exact b.put f (by rw[sJ j];omega) ⟨_,am g,i,.inr ω⟩ k
  ·cases d
 ·exact b.freeA
theorem uo(h:ab)(i:Nat)(a:Int):(freeS h i a).Caches=h.Caches/\(freeS h i a).Objs=h.Objs/\(freeS h i a).Kernel.Calls=h.Kernel.Calls/\(freeS h i a).Mail=h.Mail/\(freeS h i a).Job=h.Job/\(freeS h i a).Clock=h.Clock/\(freeS h i a).Quar=h.Quar/\(freeS h i a).Kernel.Refuse=h.Kernel.Refuse:=by
 unfold freeS;split
 ·obtain⟨-,b,c⟩:=j9 (clrS h i a).Kernel (nth (clrS h i a).Spans i).Page
  exact⟨rfl,rfl,b,rfl,rfl,rfl,rfl,c⟩
 ·exact⟨rfl,rfl,rfl,rfl,rfl,rfl,rfl,rfl⟩
theorem pD(t:Nat)(h:ab)(a:Int):(recyc t h a).Caches.length=h.Caches.length/\(recyc t h a).Objs=h.Objs/\(recyc t h a).Kernel.Calls=h.Kernel.Calls/\(recyc t h a).Mail=h.Mail/\(recyc t h a).Job=h.Job/\(recyc t h a).Clock=h.Clock/\(recyc t h a).Quar=h.Quar/\(recyc t h a).Kernel.Refuse=h.Kernel.Refuse:=by
 unfold recyc;split
 ·exact⟨C1 ..,rfl,rfl,rfl,rfl,rfl,rfl,rfl⟩
 ·obtain⟨b,c⟩:=uo h (uR h a) a
  exact⟨T0 _ b,c⟩
def recycs(t:Nat)(h:ab)(az:List Int):ab:=az.foldl (recyc t) h
theorem fL(t:Nat):∀(az:List Int)(h:ab),(recycs t h az).Caches.length=h.Caches.length/\(recycs t h az).Objs=h.Objs/\(recycs t h az).Kernel.Calls=h.Kernel.Calls/\(recycs t h az).Mail=h.Mail/\(recycs t h az).Job=h.Job/\(recycs t h az).Clock=h.Clock/\(recycs t h az).Quar=h.Quar/\(recycs t h az).Kernel.Refuse=h.Kernel.Refuse
 | [],h=>⟨rfl,rfl,rfl,rfl,rfl,rfl,rfl,rfl⟩
 | a::az,h=>by
  obtain⟨b,c,d,e,f,g,i,j⟩:=fL t az (recyc t h a);obtain⟨k,l,n,o,p,q,r,u⟩:=pD t h a;exact⟨b.trans k,c.trans l,d.trans n,e.trans o,f.trans p,g.trans q,i.trans r,j.trans u⟩
theorem bm.recycs{t:Nat}{E:List Int} : ∀{az:List Int}{h:ab},bm h (az++E)->t<h.Caches.length->bm (recycs t h az) E
 | [],h,b,_=>b
 | a::az,h,b,c=>bm.recycs (az:=az) (h:=Ab.recyc t h a) (b.recyc c) (by rw[(pD t h a).1];exact c)
def qc(l:List aK):Int:=quarCells l l.length
def mC(room:Int):List aK->Nat
 | []=>0
 | x::xs=>if room<qc (x::xs) then mC room xs+1 else 0
def GV(q:bC)(x:aK):bC:=⟨q.Room,(q.Lst++[x]).drop (mC q.Room (q.Lst++[x]))⟩
def yH(q:bC)(x:aK):List aK:=(q.Lst++[x]).take (mC q.Room (q.Lst++[x]))
theorem AZ(room:Int):∀l,mC room l<=l.length
 | []=>R2 _
 | x::xs=>by unfold mC;split;(have:=AZ room xs;simp only[List.length_cons];omega);omega
theorem y4{room:Int}(a:0<=room):∀l:List aK,qc (l.drop (mC room l))<=room
 | []=>a
 | x::xs=>by
  unfold mC;split
  ·exact y4 a xs
  ·rename_i h;show qc (x::xs)<=room;omega
theorem yl{room:Int} : ∀{l:List aK}{k:Nat},k<mC room l->room<qc (l.drop k)
 | [],k,h=>by cases h
 | x::xs,0,h=>by
  unfold mC at h;split at h
  ·assumption
  ·omega
 | x::xs,k+1,h=>by
  unfold mC at h;split at h
  ·exact yl (l:=xs) ω
  ·omega
theorem iE{q:bC} : fp q=true↔(∀x∈q.Lst,0<=x.Class/\x.Class<=3/\0<=x.Addr/\0<=x.Since)/\(q.Lst.Pairwise λa b=>a.Since<=b.Since)/\(q.Lst.map (·.Addr)).Nodup/\0<=q.Room/\q.Room<=500/\qc q.Lst<=q.Room:=by
 refine Iff.trans ?_ (and_congr Iff.rfl (and_congr (tH (λa b:Int=>a<=b) (λa b c=>z4) (λs:aK=>s.Since) q.Lst) (and_congr (xN (λs:aK=>s.Addr) q.Lst) Iff.rfl)));unfold fp qc;simp only[I0,C0,cw,jb,Bool.not_eq_true',List.any_eq_false,dD];constructor
 ·rintro⟨e,f⟩
  refine⟨λx l=>?_,λi d=>(e i d).1.2.2.2.2,λi d=>(e i d).2,f⟩;obtain⟨i,d,rfl⟩:=bc l;obtain⟨⟨g,h,j,k,-⟩,-⟩:=e i d;exact⟨g,h,j,k⟩
 ·rintro⟨e,f,n,o⟩
  refine⟨λi d=>?_,o⟩;obtain⟨g,h,j,k⟩:=e _ (am d);exact⟨⟨g,h,j,k,f i d⟩,n i d⟩
theorem Mh{q:bC}{x:aK}(h:fp q=true)(i:0<=x.Class/\x.Class<=3/\0<=x.Addr/\0<=x.Since)(j:∀y∈q.Lst,y.Since<=x.Since)(k:∀y∈q.Lst,y.Addr≠x.Addr):fp (GV q x)=true:=by
 obtain⟨l,n,o,g,p,r⟩:=iE.1 h;have c:(GV q x).Lst.Sublist (q.Lst++[x]):=List.drop_sublist ..;refine iE.2 ⟨λy d=>?_,List.Pairwise.sublist c ?_,List.Nodup.sublist (c.map _) ?_,g,p,y4 g _⟩
 ·rcases Q2.1 (c.subset d) with d|d
  ·exact l y d
  ·rw[Z0.1 d];exact i
 ·exact List.pairwise_append.2 ⟨n,List.pairwise_singleton ..,λa f b e=>by rw[Z0.1 e];exact j a f⟩
 ·rw[W4]
  refine List.nodup_append.2 ⟨o,by simp,λa f b e=>?_⟩;obtain⟨y,d,rfl⟩:=V3.1 f;simp only[Y4,List.map_nil,Z0]at e;rw[e];exact k y d
def lg(r:List Int)(o:Nat):Nat->List Int
 | 0=>r
 | n+1=>(lg r o n).set (o+n) 0
def fE(k:af)(a:Int):Nat:=(ar k.Machine.Table (a / 16)).Frame.toNat
def fG(k:af)(a:Int)(n:Nat):af:={k with Machine:=⟨⟨k.Machine.Frames.Cells.set (fE k a) (lg (nth k.Machine.Frames.Cells (fE k a)) (a % 16).toNat n),k.Machine.Frames.Used⟩,k.Machine.Table⟩}
theorem nK(r:List Int)(o:Nat):∀n,(lg r o n).length=r.length
 | 0=>rfl
 | n+1=>by unfold lg;rw[C1,nK r o n]
theorem yq{r:List Int}{o:Nat} : ∀{n:Nat}{v:Int},v∈lg r o n->v∈r\/v=0
 | 0,v,h=>.inl h
 | n+1,v,h=>by
  rcases C5 h with h|h
  ·exact yq h
  ·exact .inr h
theorem Bw{k:af}(h:aA k=true)(a:Int)(n:Nat):aA (fG k a n)=true:=by
 obtain⟨g,i,l,o,p⟩:=aC.1 h;obtain⟨q,r,t,f⟩:=aW.1 i;refine aC.2 ⟨g,aW.2 ⟨?_,?_,?_,λj c=>?_⟩,l,o,p⟩
 ·simp only[fG,C1];exact q
 ·simp only[fG,C1];exact r
 ·simp only[fG,C1];exact t
 ·simp only[fG,C1]at c |-
  simp only[cB];split
  ·rename_i e
   have b:=f j c;unfold gK at b |-;simp only[I0,C0,Q3]at b |-;rw[e.1]at *;refine⟨by rw[nK];exact b.1,λv d=>?_⟩;rcases yq d with d|rfl
   ·exact b.2 v d
   ·unfold ik;simp
  ·exact f j c
def wx(h:ab)(a:Int):Nat:=(h.Larges.findIdx? λl=>decide (l.Page*16=a)).getD 0
def freeL(h:ab)(i k:Nat):ab:={h with Kernel:=dy h.Kernel (nth h.Larges k).Page (nth h.Larges k).Pages.toNat,Larges:=dele h.Larges k,Free:=(bS (dE h) h.Free ⟨(nth h.Larges k).Page,(nth h.Larges k).Pages⟩).getD h.Free,Objs:=dele h.Objs i}
def kF(h:ab)(o:bH):aK:=⟨o.Addr,aN o.Size,h.Clock⟩
def inQuar(h:ab)(i:Nat):ab:={h with Kernel:=fG h.Kernel (nth h.Objs i).Addr (csz (aN (nth h.Objs i).Size)).toNat,Objs:=dele h.Objs i,Quar:=GV h.Quar (kF h (nth h.Objs i))}
def JW(h:ab)(t i:Nat):ab:=recycs t (inQuar h i) ((yH h.Quar (kF h (nth h.Objs i))).map (·.Addr))
def freeOb(h:ab)(t i:Nat):ab × Int:=
 if aN (nth h.Objs i).Size<0 then(freeL h i (wx h (nth h.Objs i).Addr),0)
 else if(ar (tbl h) ((nth h.Objs i).Addr / 16)).Mode=1 then(h,5)
 else(JW h t i,0)
theorem zr{h:ab}{l:a8}(d:l∈h.Larges){a:Int}(e:a=16*l.Page):wx h a<h.Larges.length/\a=16*(nth h.Larges (wx h a)).Page/\(∀j,j<wx h a->(nth h.Larges j).Page*16≠a)/\h.Larges.findIdx? (λl=>decide (l.Page*16=a))=some (wx h a):=by
 cases b:h.Larges.findIdx? λl=>decide (l.Page*16=a) with
 | none=>
  have:=List.findIdx?_eq_none_iff.1 b l d;rw[Z3]at this;omega
 | some k=>
  obtain⟨c,f,g⟩:=T5.1 b;have i:wx h a=k:=by unfold wx;rw[b];rfl
  rw[i];rw[<-bq (U1 c),C0]at f;refine⟨c,ω,λj n=>?_,rfl⟩;have:=g j n;rw[<-bq (U1 (show j<h.Larges.length by omega))]at this;simpa using this
theorem eP{h:ab}{E:List Int}(a:bm h E){o:bH}(g:o∈h.Objs):(aN o.Size<0->Pv h.Larges o.Addr o.Size)/\(¬aN o.Size<0->(∃s∈h.Spans,eS s o.Addr/\s.Class=aN o.Size)/\aN o.Size<=3):=by
 rcases a.oow o g with⟨s,d,b,c⟩|⟨l,f,b,c⟩
 ·have i:=aE (a.L.sok s d)
  exact⟨λe=>ω,λ_=>⟨⟨s,d,b,c⟩,ω⟩⟩
 ·have j:=cx (a.L.lok l f)
  refine⟨λ_=>⟨l,f,b,c⟩,λe=>absurd ?_ e⟩;unfold aN;rw[C7 ω,C7 ω,C7 ω,C7 ω,C7 ω]
  decide
theorem bm.inQuar{h:ab}{i:Nat}(a:bm h [])(j:i<h.Objs.length)(r:¬aN (nth h.Objs i).Size<0):bm (inQuar h i) ((yH h.Quar (kF h (nth h.Objs i))).map (·.Addr)):=by
 obtain⟨⟨s,l,n,t⟩,u⟩:=(eP a (am j)).2 r;have b:iR h.Spans (nth h.Objs i).Addr (aN (nth h.Objs i).Size):=⟨s,l,n,.inr t⟩
 have d:=a.nums;unfold cm at d;rw[C0]at d;have w:=aE (a.L.sok s l);have o:=a.dropO j b.any;have A:=o.cells (k:=fG h.Kernel (nth h.Objs i).Addr (csz (aN (nth h.Objs i).Size)).toNat) (Bw a.ker _ _) rfl;have f:∀y∈h.Quar.Lst,y.Addr≠(nth h.Objs i).Addr:=λy g e=>by
  have c:=o.nd;rw[List.cons_append,List.nil_append]at c;refine(List.nodup_cons.1 c).1 ?_;rw[<-e];unfold holders;simp only[Q2];exact .inl (.inr (V3.2 ⟨y,g,rfl⟩))
 have p:=bm.toQuar (x:=kF h (nth h.Objs i)) (q:=GV h.Quar (kF h (nth h.Objs i))) (out:=yH h.Quar (kF h (nth h.Objs i))) A (Mh a.quar ⟨by show 0<=aN _;omega,u,by show 0<=(nth h.Objs i).Addr;have:=n.1;omega,d.2.2.1⟩ (λy g=>a.snc y g) f) (by unfold yH GV;simp only[List.take_append_drop]) (C4 _) b;rw[List.append_nil]at p;exact p
theorem bm.freeOb{h:ab}{t i:Nat}(a:bm h [])(b:i<h.Objs.length)(e:t<h.Caches.length):bm (freeOb h t i).1 []:=by
 unfold Ab.freeOb;split
 ·rename_i c
  obtain⟨l,f,d,-⟩:=(eP a (am b)).1 c;obtain⟨g,j,-⟩:=zr f d;obtain⟨o,k,n⟩:=a.dropL b g j;unfold Ab.freeL;rw[k];exact n
 ·rename_i c
  split
  ·exact a
  ·have d:=a.inQuar b c
   refine bm.recycs (E:=[]) ?_ e;rw[List.append_nil];exact d
theorem Fy:∀{H L:List Int},H.Nodup->(∀x∈H,x∈L)->H.length<=L.length
 | [],L,_,_=>R0 _
 | y::H,L,f,b=>by
  have c:y∈L:=b y (O1 ..);have a:=List.nodup_cons.1 f;have:=Fy (L:=L.erase y) a.2 λz d=>(List.mem_erase_of_ne (λe:z=y=>a.1 (by rw[<-e];exact d))).2 (b z (R4 _ d))
  rw[List.length_erase_of_mem c]at this;have g:=List.length_pos_of_mem c;simp only[List.length_cons];omega
theorem uH{H:List Int}{n:Nat}(c:H.Nodup)(a:∀x∈H,0<=x/\x<n):H.length<=n:=by
 have:=Fy (L:=(List.range n).map λ(i:Nat)=>(i:Int)) c λx b=>V3.2 ⟨x.toNat,List.mem_range.2 (by have:=a x b;omega),by have:=a x b;omega⟩
 simpa using this
theorem gF{α:Type}{f:α->Int}{xs:List α}(h:xs.Pairwise λa b=>f a<f b):(xs.map f).Nodup:=by
 unfold List.Nodup;rw[List.pairwise_map];exact h.imp λh e=>ω
theorem KA:∀(b:List (List Int))(k:Nat)(s:List Int),(fC k s b).isSome=true->∀l∈b,l.length<=8
 | [],_,_,_,l,a=>by cases a
 | x::b,k,s,h,l,a=>by
  simp only[fC]at h;cases e:dM k s x with
  | none=>rw[e]at h;cases h
  | some d=>
   rw[e]at h;rcases List.mem_cons.1 a with rfl|a
   ·unfold dM at e
    split at e
    ·rename_i c;exact c.1
    ·cases e
   ·exact KA b (k+1) d h l a
theorem dX{c:aB}(h:bt c=true):c.Lists.length=4/\∀l∈c.Lists,l.length<=8:=by
 have a:=h;unfold bt at h;simp only[I0,C0]at h;exact⟨h.1,KA _ _ _ h.2⟩
structure LY(h:ab):Prop where
 cells:h.Kernel.Machine.Frames.Cells.length<=32
 row:∀r∈h.Kernel.Machine.Frames.Cells,r.length=16
 used:h.Kernel.Machine.Frames.Used.length<=32
 ents:h.Kernel.Machine.Table.Entries.length<=32
 ref:h.Kernel.Refuse.length<=40
 free:h.Free.length<=32
 spans:h.Spans.length<=32
 larges:h.Larges.length<=32
 objs:h.Objs.length<=512
 caches:h.Caches.length<=4
 lists:∀c∈h.Caches,c.Lists.length=4/\∀l∈c.Lists,l.length<=8
 quar:h.Quar.Lst.length<=512
theorem iR.bd{h:ab}{E:List Int}(b:bm h E){a c:Int}(d:iR h.Spans a c):0<=a/\a<512:=by
 obtain⟨s,e,⟨f,g,-⟩,-⟩:=d;have i:=aE (b.L.sok s e);omega
theorem bm.lens{h:ab}{E:List Int}(d:bm h E):LY h:=by
 obtain⟨O,t,u,P,Q,R,w⟩:=aC.1 d.ker;obtain⟨S,A,T,B⟩:=aW.1 t;obtain⟨U,V,C⟩:=bu.1 u;obtain⟨p,D,W⟩:=eR.1 d.rng;obtain⟨X,Y,F,Z⟩:=iE.1 d.quar;have q:=d.mail;unfold bE at q;simp only[I0,C0]at q;have G:=d.nc;refine⟨A,λr g=>?_,ω,C,w,?_,?_,?_,?_,ω,λc J=>dX (d.cach c J),?_⟩
 ·obtain⟨j,K,rfl⟩:=bc g
  have:=B j K;unfold gK at this;simp only[I0,C0]at this;exact this.1
 ·have:=uH (H:=h.Free.map (·.At)) (n:=32) (gF (p.1.imp_of_mem fun {a b} ha hb h=>by have:=p.2 a ha;omega)) λx f=>by
   obtain⟨r,g,rfl⟩:=V3.1 f;have:=D r g;omega
  simpa using this
 ·have:=uH (H:=h.Spans.map (·.Page)) (n:=32) d.L.nd λx f=>by
   obtain⟨s,i,rfl⟩:=V3.1 f;have:=aE (d.L.sok s i);omega
  simpa using this
 ·have:=uH (H:=h.Larges.map (·.Page)) (n:=32) (gF d.srl) λx f=>by
   obtain⟨l,k,rfl⟩:=V3.1 f;have:=aT (d.L.lok l k);omega
  simpa using this
 ·have:=uH (H:=h.Objs.map (·.Addr)) (n:=512) (gF d.osr) λx f=>by
   obtain⟨o,M,rfl⟩:=V3.1 f;rcases d.oow o M with⟨s,i,⟨k1,k2,-⟩,-⟩|⟨l,k,e,-⟩
   ·have:=aE (d.L.sok s i);omega
   ·have:=aT (d.L.lok l k);omega
  simpa using this
 ·have:=uH (H:=h.Quar.Lst.map (·.Addr)) (n:=512) F λx f=>by
   obtain⟨y,N,rfl⟩:=V3.1 f;exact(d.hqu y N).bd d
  simpa using this
theorem LY.sml{h:ab}(a:LY h)(d:aA h.Kernel=true)(e:aH.sml h.Mail)(f:cv.sml h.Job):ab.sml h:=
 ⟨b6 d,⟨by have:=a.free;omega,λ_ _=>trivial⟩,⟨by have:=a.spans;omega,λ_ _=>trivial⟩,⟨by have:=a.larges;omega,λ_ _=>trivial⟩,⟨by have:=a.objs;omega,λ_ _=>trivial⟩,⟨by have:=a.caches;omega,λc b=>⟨by have:=(a.lists c b).1;omega,λl g=>by have:=(a.lists c b).2 l g;show l.length<=1048576;omega⟩⟩,e,⟨by have:=a.quar;omega,λ_ _=>trivial⟩,f⟩
def kx(a:Int)(o:bH):Bool:=decide (o.Addr=a)
def n7(h:ab)(a:Int):Nat:=(dm (kx a) h.Objs).toNat
theorem bm.objAt{h:ab}{E:List Int}(k:bm h E){o:bH}(l:o∈h.Objs):n7 h o.Addr<h.Objs.length/\nth h.Objs (n7 h o.Addr)=o/\dm (kx o.Addr) h.Objs=(n7 h o.Addr:Nat):=by
 obtain⟨i,a,rfl⟩:=bc l;have d:dm (kx (nth h.Objs i).Addr) h.Objs=(i:Nat):=dQ (ah a) (by unfold kx;simp) λj z p g=>by
  have b:=bq g;have c:=(V1.1 g).1;subst b;unfold kx;refine Q0 λe=>?_
  have:=gu (f:=(·.Addr)) (gF k.osr) c a e;omega
 have n:n7 h (nth h.Objs i).Addr=i:=by unfold n7;rw[d];rfl
 rw[n];exact⟨a,rfl,d⟩
theorem ix(k:af)(p:Int)(n:Nat):(dy k p n).Calls=k.Calls/\(dy k p n).Refuse=k.Refuse:=(ew k p n).2
open Go.RowKit
set_option maxRecDepth 20000
set_option maxHeartbeats 4000000
theorem Kz(y:ax)(a:List ax):cU [] (y::a)=cU [y] a:=by rw[cU];rfl
theorem BA{α:Type}[Inhabited α]{xs:List α}(h:xs≠[]):xs.getLast? = some (nth xs (xs.length - 1)):=by
 have a:0<xs.length:=List.length_pos_iff.2 h;rw[List.getLast?_eq_getElem?,ah ω]
theorem HV{α:Type}{xs:List α}(h:xs≠[])(v:α):xs.dropLast++[v]=xs.set (xs.length - 1) v:=by
 have b:0<xs.length:=List.length_pos_iff.2 h;refine List.ext_getElem (by simp;omega) λi a c=>?_
 rw[List.getElem_set];by_cases e:xs.length - 1=i
 ·subst e
  rw[C8 rfl,List.getElem_append_right (by simp)];simp
 ·rw[C7 e,List.getElem_append_left (by simp at a |-;omega),List.getElem_dropLast]
theorem Hv{out:List ax}{y:ax}{a:List ax}(h:out≠[])(e:(nth out (out.length - 1)).At+(nth out (out.length - 1)).Len=y.At):cU out (y::a)=cU (out.set (out.length - 1) ⟨(nth out (out.length - 1)).At,(nth out (out.length - 1)).Len+y.Len⟩) a:=by
 rw[cU,BA h];simp only;rw[C8 e,HV h]
theorem Lf{out:List ax}{y:ax}{a:List ax}(h:out≠[])(e:¬(nth out (out.length - 1)).At+(nth out (out.length - 1)).Len=y.At):cU out (y::a)=cU (out++[y]) a:=by
 rw[cU,BA h];simp only;rw[C7 e]
theorem qF(xs:List ax)(B:xs.length<=4194304)(o:∀y∈xs,0<=y.At/\1<=y.Len/\y.At+y.Len<=1048576):ao Tryz.prog 404 false [.val none (bx .imm xs)] .one (bx .own (cU [] xs)):=by
 refine fO 63 [(6,21,[15,16,17,18,19,20,21,22,23,24,25,26,27,28,29,30,31,32,33,34,35]),(7,15,[38,39,40,41,42,43,44,45,46,47,48,49,50,51,52])] Tryz.func404 rfl ?_ (.inr (kf _))
 repeat'(first|refine gO ?_|fail)
 (conv=>whnf)
 refine CC (ι:=Nat × List ax) (λq=>[(0,.hold .one (bx .imm xs)),(3,.hold .one (bx .own q.2)),(4,.hold .one [I ((q.1:Nat):Int)])]) (λq=>q.1<=xs.length/\cU q.2 (xs.drop q.1)=cU [] xs/\q.2.length<=q.1/\∀y∈q.2,0<=y.At/\1<=y.Len/\y.At+y.Len<=1048576) (λq=>xs.length - q.1) ((0,[])) ?_ (⟨R0 _,rfl,R2 _,λy g=>by cases g⟩) λq p=>?_
 ·exact wB
 obtain⟨i,out⟩:=q;obtain⟨t,b,j,c⟩:=p;simp only at t b j c |-;by_cases k:i<xs.length
 ·have l:=ah k
  have g:=o _ (am k);rw[gU k]at b;by_cases h:out=[]
  ·subst h
   rw[Kz]at b;have D:([]:List ax).length=0:=rfl
   repeat'(first|refine gD ?_|(conv=>whnf);first|with_reducible refine CA (aa l) ?_|refine Ln.mk (show List.length _=0 from rfl) ?_|refine Ap.sm (λr u=>by cases u) rfl (by simp) (by decide) rfl ?_)
   ((conv=>whnf)
    refine CB (i+1,[nth xs i]) ⟨(by simp only;omega),b,(by simp),(λy a=>by rw[Z0.1 a];exact g)⟩ (by simp only;omega) ?_
    (repeat'(first|exact trivial|rfl|exact CH rfl (CH (T0 (C.s du.own) (by simp[ax.enc])) trivial)|refine CH ?_ ?_)))
  ·have n:0<out.length:=List.length_pos_iff.2 h
   have d:out[((out.length:Int) - 1).toNat]? = some (nth out (out.length - 1)):=by
    rw[show((out.length:Int) - 1).toNat=out.length - 1 by omega];exact ah ω
   have w:=c _ (am (xs:=out) (i:=out.length - 1) ω);by_cases e:(nth out (out.length - 1)).At+(nth out (out.length - 1)).Len=(nth xs i).At
   ·rw[Hv h e]at b
    repeat'(first|refine gA ?_|(conv=>whnf);first|with_reducible refine CA (aa l) ?_|refine CJ ω (aa d) ?_|refine CF rfl (aa d) rfl ?_|refine CM rfl rfl (aa d) rfl (X0 rfl) rfl ?_)
    ((conv=>whnf)
     refine CB (i+1,out.set (out.length - 1) ⟨(nth out (out.length - 1)).At,(nth out (out.length - 1)).Len+(nth xs i).Len⟩) ⟨(by simp only;omega),b,(by simp only;rw[C1];omega),(λy a=>?_)⟩ (by simp only;omega) ?_)
    ·rcases C5 a with a|rfl
     ·exact c y a
     ·simp only;omega
    ·(repeat'(first|exact trivial|rfl|exact CH rfl (CH (T0 (C.s du.own) (by rw[show((out.length:Int) - 1).toNat=out.length - 1 by omega,t5];rfl)) trivial)|refine CH ?_ ?_))
   ·rw[Lf h e]at b
    repeat'(first|refine gA ?_|(conv=>whnf);first|with_reducible refine CA (aa l) ?_|refine CJ ω (aa d) ?_|refine CF rfl (aa d) rfl ?_|refine Ap.sm (aL λ_=>rfl) rfl (by simp;omega) (by decide) rfl ?_)
    ((conv=>whnf)
     refine CB (i+1,out++[nth xs i]) ⟨(by simp only;omega),b,(by simp;omega),(λy a=>?_)⟩ (by simp only;omega) ?_)
    ·rcases Q2.1 a with a|a
     ·exact c y a
     ·rw[Z0.1 a];exact g
    ·(repeat'(first|exact trivial|rfl|exact CH rfl (CH (T0 (C.s du.own) (by simp[ax.enc])) trivial)|refine CH ?_ ?_))
 ·obtain rfl:i=xs.length:=ω
  rw[List.drop_length]at b
  repeat'(first|refine gD ?_|fail)
  rw[<-b];rfl
theorem yb(r y:ax)(a:List ax)(put:Bool):kV r (y::a) put=if ovl y r then none else if !put&&decide (y.At > r.At) then(kV r a true).map λt=>r::y::t else(kV r a put).map λt=>y::t:=by rw[kV]
theorem kw(pages:Int)(xs:List ax)(r:ax)(H:0<=pages/\pages<=1048576)(J:fD xs):ao Tryz.prog 387 false [.val none [I pages],.val none (bx .imm xs),.val (some 2) (ax.enc .imm r)] (.tup [none,none]) (yx xs (bS pages xs r)):=by
 have w:=J.1;have n:=kE pages xs H J;have E:=tZ pages r H;cases o:br pages xs<;>rw[o]at n
 ·rw[show bS pages xs r=none by unfold bS;rw[C7 (by rw[o];simp)]]
  refine fO 82 [] Tryz.func387 rfl ?_ (.inr (js _ _))
  repeat'(first|refine gO ?_|(conv=>whnf);first|refine C6 (n) ?_|refine CL (λ_=>rfl) (λ_=>rfl) w (by decide) ?_)
  rfl
 cases k:rangeIn pages r<;>rw[k]at E
 ·rw[show bS pages xs r=none by unfold bS;rw[C7 (by rw[k];simp)]]
  refine fO 82 [] Tryz.func387 rfl ?_ (.inr (js _ _))
  repeat'(first|refine gO ?_|(conv=>whnf);first|refine C6 (n) ?_|refine C6 (E) ?_|refine CL (λ_=>rfl) (λ_=>rfl) w (by decide) ?_)
  rfl
 obtain⟨K,L⟩:=tw o;have p:0<=r.At/\1<=r.Len/\r.At+r.Len<=pages:=by
  unfold rangeIn at k;rw[C0]at k;omega
 rw[show bS pages xs r=(kV r xs false).map (cU []) by unfold bS;rw[C8 ⟨o,k⟩,yn (pages:=pages) K p.2.1 λz M=>by simp at M]];refine fO 82 [] Tryz.func387 rfl ?_ (.inr (js _ _))
 repeat'(first|refine gO ?_|(conv=>whnf);first|refine C6 (n) ?_|refine C6 (E) ?_|refine CL (λ_=>rfl) (λ_=>rfl) w (by decide) ?_)
 (conv=>whnf)
 refine CC (ι:=Nat × List ax × Bool) (λq=>[(1,.hold .one (bx .imm xs)),(5,.hold .box (ax.enc .imm r)),(8,.hold .one (bx .own xs)),(9,.hold .one (bx .own q.2.1)),(10,.hold .one [B (q.2.2)]),(11,.hold .one [I ((q.1:Nat):Int)])]) (λq=>q.1<=xs.length/\(kV r (xs.drop q.1) q.2.2).map (q.2.1++·)=kV r xs false/\q.2.1.length<=q.1+q.2.2.toNat/\(∀y∈q.2.1,0<=y.At/\1<=y.Len/\y.At+y.Len<=1048576)) (λq=>xs.length - q.1) ((0,[],false)) ?_ (⟨R0 _,by simp,by simp,by simp⟩) λq g=>?_
 ·exact wB
 obtain⟨i,out,put⟩:=q;obtain⟨N,b,d,e⟩:=g;simp only at N b d e |-;have l:0<=r.At/\1<=r.Len/\r.At+r.Len<=1048576:=ω
 by_cases F:i<xs.length
 ·have u:=ah F
  have O:=L _ (am F);have h:0<=(nth xs i).At/\1<=(nth xs i).Len/\(nth xs i).At+(nth xs i).Len<=1048576:=ω
  rw[gU F]at b;by_cases j:ovl (nth xs i) r=true
  ·rw[<-b]
   rw[yb,C8 j];unfold ovl at j;rw[C0]at j
   repeat'(first|refine gD ?_|(conv=>whnf);first|with_reducible (first|refine CA (aa u) ?_|refine Bf.D (λg=>?_) (λg=>?_)))
   rfl
  ·rw[yb,C7 j]at b
   unfold ovl at j;rw[C0]at j;cases put with
   | false=>
    have d:out.length<=i:=by simpa using d
    by_cases P:(nth xs i).At > r.At
    ·rw[C8 (by simp;omega),Option.map_map]at b
     repeat'(first|refine gD ?_|(conv=>whnf);first|with_reducible (first|refine CA (aa u) ?_|refine Bf.D (λg=>?_) (λg=>?_))|refine Ap.sm (aL λ_=>rfl) rfl (by simp;omega) (by decide) rfl ?_|refine Ap.sm (λr p=>by simp at p;rcases p with⟨a,_,rfl⟩|rfl<;>rfl) rfl (by simp;omega) (by decide) rfl ?_)
     ((conv=>whnf)
      refine CB (i+1,out++[r,nth xs i],true) ⟨(by simp only;omega),(by rw[<-b];congr 1;funext t;simp),(by simp;omega),(λy c=>?_)⟩ (by simp only;omega) ?_)
     ·rcases Q2.1 c with c|c
      ·exact e y c
      ·rcases List.mem_cons.1 c with rfl|c
       ·exact l
       ·rw[Z0.1 c];exact h
     ·(repeat'(first|exact trivial|rfl|exact CH rfl (CH (T0 (C.s du.own) (by simp[ax.enc])) trivial)|refine CH ?_ ?_))
    ·rw[C7 (by simp;omega),Option.map_map]at b
     repeat'(first|refine gD ?_|(conv=>whnf);first|with_reducible (first|refine CA (aa u) ?_|refine Bf.D (λg=>?_) (λg=>?_))|refine Ap.sm (aL λ_=>rfl) rfl (by simp;omega) (by decide) rfl ?_)
     ((conv=>whnf)
      refine CB (i+1,out++[nth xs i],false) ⟨(by simp only;omega),(by rw[<-b];congr 1;funext t;simp),(by simp;omega),(λy c=>?_)⟩ (by simp only;omega) ?_)
     ·rcases Q2.1 c with c|c
      ·exact e y c
      ·rw[Z0.1 c];exact h
     ·(repeat'(first|exact trivial|rfl|exact CH rfl (CH (T0 (C.s du.own) (by simp[ax.enc])) trivial)|refine CH ?_ ?_))
   | true=>
    have d:out.length<=i+1:=d;rw[C7 (by simp),Option.map_map]at b;by_cases Q:(nth xs i).At<r.At+r.Len
    all_goals
     repeat'(first|refine gD ?_|(conv=>whnf);first|with_reducible (first|refine CA (aa u) ?_|refine Bf.D (λg=>?_) (λg=>?_))|refine Ap.sm (aL λ_=>rfl) rfl (by simp;omega) (by decide) rfl ?_)
     ((conv=>whnf)
      refine CB (i+1,out++[nth xs i],true) ⟨(by simp only;omega),(by rw[<-b];congr 1;funext t;simp),(by simp;omega),(λy c=>?_)⟩ (by simp only;omega) ?_)
     ·rcases Q2.1 c with c|c
      ·exact e y c
      ·rw[Z0.1 c];exact h
     ·(repeat'(first|exact trivial|rfl|exact CH rfl (CH (T0 (C.s du.own) (by simp[ax.enc])) trivial)|refine CH ?_ ?_))
 ·obtain rfl:i=xs.length:=ω
  rw[List.drop_length]at b;cases put with
  | false=>
   have d:out.length<=xs.length:=by simpa using d
   rw[<-b];have G:=qF (out++[r]) (by simp;omega) (λy c=>by
     rcases Q2.1 c with c|c
     · exact e y c
     · rw[Z0.1 c];exact l)
   repeat'(first|refine gD ?_|(conv=>whnf);first|refine Ap.sm (aL λ_=>rfl) rfl (by simp;omega) (by decide) (show(out++[r]).map (ax.enc .own)=_ by simp[ax.enc]) ?_|refine CE (G) ⟨⟨rfl,dz _⟩,trivial⟩ ?_)
   rfl
  | true=>
   have d:out.length<=xs.length+1:=d;rw[<-b];have G:=qF out ω e
   repeat'(first|refine gD ?_|(conv=>whnf);first|refine CE (G) ⟨⟨rfl,dz _⟩,trivial⟩ ?_)
   simp[kV,yx]
   rfl
theorem shl64{i:Int}(d:0<=i/\i<=15):IntKind.i64.wrap (1*2 ^ min i.toNat IntKind.i64.bits)=2 ^ i.toNat/\0<=(2:Int) ^ i.toNat/\(2:Int) ^ i.toNat<=32768:=by
 have a:min i.toNat IntKind.i64.bits=i.toNat:=Nat.min_eq_left (show i.toNat<=64 by omega);have b:(0:Int)<=2 ^ i.toNat/\(2:Int) ^ i.toNat<=32768:=by
  have:(2:Nat) ^ i.toNat<=2 ^ 15:=Nat.pow_le_pow_right (by decide) ω;have c:((2 ^ i.toNat:Nat):Int)=(2:Int) ^ i.toNat:=Int.natCast_pow 2 i.toNat;rw[<-c];exact⟨Int.natCast_nonneg _,Int.ofNat_le.2 this⟩
 rw[a,Int.one_mul];exact⟨eK ω ω,b⟩
theorem clr64{b i:Int}(a:0<=b/\b<=65535):IntKind.i64.wrap ((BitVec.ofInt IntKind.i64.bits b &&& ~~~BitVec.ofInt IntKind.i64.bits (2 ^ i.toNat)).toNat:Nat)=wZ b i:=by
 have:=yM (i:=i) a;unfold wZ at this |-;exact eK ω ω
theorem rQ(b i:Int)(c:0<=b/\b<=65535)(d:0<=i/\i<=15):ao Tryz.prog 405 false [.val none [I b],.val none [I i]] .one [I (wZ b i)]:=by
 have a:=nM b i;rw[O0 ω]at a;have e:IntKind.u64.wrap i=i:=by unfold IntKind.wrap;simp[IntKind.signed,IntKind.bits];omega
 refine fO 15 [] Tryz.func405 rfl ?_
 repeat'(first|refine gO ?_|(conv=>whnf);first|refine C9 ?_|refine C6 (a) ?_|refine CK ω ?_|refine CI e ?_|refine CI (shl64 d).1 ?_|refine CI (clr64 c) ?_)
 rfl
theorem Lt{s:au}{k:Int}(a:aX s.Bits k=true):0<=k/\k<=15:=by
 have:=(fN _ _).1 a;omega
theorem xm(s:au)(k:Int)(a:bf s=true)(b:aX s.Bits k=true):ao Tryz.prog 391 false [.val (some 3) (au.enc .imm s),.val none [I k]] (.tup [some 3,none]) (au.enc .own (lD s k)++[B true]):=by
 have e:=ef a;have g:=Lt b;have c:=fR s;have d:=gP s.Bits k ω;rw[a]at c;rw[b]at d;refine fO 23 [] Tryz.func391 rfl ?_ (.inr (aR (au.enc_fr _) ⟨trivial,trivial⟩))
 repeat'(first|refine gO ?_|(conv=>whnf);first|refine C9 ?_|refine C6 (c) ?_|refine C6 (d) ?_|refine C6 (rQ s.Bits k e g) ?_)
 rfl
theorem wj(c:aB)(k:Int)(b:aB.sml c):ao Tryz.prog 340 false [.val (some 1) (aB.enc .imm c),.val none [I k]] .one [B (bt c&&decide (0<=k/\k<=3))]:=by
 have a:=ml c b;cases e:bt c<;>rw[e]at a
 all_goals
  refine fO 11 [] Tryz.func340 rfl ?_
  repeat'(first|refine gO ?_|(conv=>whnf);first|refine C9 ?_|refine C6 (a) ?_|refine C6 (aD k 0 3) ?_)
  all_goals rfl
theorem rJ{c:aB}{k:Nat}(a:k<c.Lists.length):c.Lists[k]? = some (nth c.Lists k):=ah a
theorem HF{c:aB}(h:bt c=true)(k:Nat)(a:Int):aB.sml (lK c k a):=by
 obtain⟨f,d⟩:=dX h;refine⟨by simp only[lK,C1];omega,λl b=>?_⟩;rcases C5 b with b|rfl
 ·have:=d l b;show l.length<=1048576;omega
 ·show(nth c.Lists k++[a]).length<=1048576
  by_cases e:k<c.Lists.length
  ·have:=d _ (am e);simp;omega
  ·have:nth c.Lists k=[]:=by unfold nth;rw[C2,Z1 ω];rfl
   rw[this];simp
theorem HX(c:aB)(k:Nat)(a:Int):aB.enc .own (lK c k a)=[.s .own ((c.Lists.map (aF .own)).set k (aF .own (nth c.Lists k++[a])))]:=by simp[aB.enc,lK,t5]
theorem fH{α:Type}{f:α->List C}{xs:List α}{k:Nat}{y:α}{r:List C}(h:xs[k]? = some y):((xs.map f).set k r)[k]? = some r:=by
 rw[v3 (by rw[W0];exact(V1.1 h).1)]
theorem gQ{α β:Type}(f:α->β)(xs:List α)(y:α):(xs++[y]).map f=xs.map f++[f y]:=by simp
def FJ(c:aB)(k a:Int):List C:=aB.enc .own ((cput c k a).getD c)++[B (cput c k a).isSome]
theorem K2(c:aB)(k a:Int):gg (FJ c k a):=aR (aB.enc_fr _) ⟨trivial,trivial⟩
theorem wP(c:aB)(k:Nat)(a:Int)(h:bt c=true)(B:k<=3):ao Tryz.prog 403 false [.val (some 1) (aB.enc .imm c),.val none [I (k:Nat)],.val none [I a]] (.tup [some 1,none]) (FJ c k a):=by
 obtain⟨D,q⟩:=dX h;have r:aB.sml c:=⟨ω,λl u=>by have:=q l u;show l.length<=1048576;omega⟩
 have n:=wj c k r;rw[h,O0 ω]at n;have t:=gT c r;have d:=HF h k a;have o:=ml (lK c k a) d;have w:=gT (lK c k a) d;have b:=rJ (c:=c) (k:=k) ω;have y:=q _ (am (xs:=c.Lists) (i:=k) ω);have j:=aB.enc_fz (lK c k a);rw[HX]at j;have g:=K2 c k a;unfold FJ at g |-;cases e:bt (lK c k a)<;>rw[e]at o
 ·have p:cput c k a=none:=by unfold cput;rw[C7 λx=>by have:=x.2.2.2;rw[I2,e]at this;cases this]
  rw[p]at g |-;refine fO 35 [(4,267,[16,17,18,19,20,21,22,23,24,25,27,0,1,2,3,4,5,6,7,8,9,10,1000,1001,1002,11,12])] Tryz.func403 rfl ?_ (.inr g)
  repeat'(first|refine gO ?_|(conv=>whnf);first|with_reducible refine CA (aa b) ?_|refine C9 ?_|refine CA (fH b) ?_|refine CF rfl (fH b) rfl ?_|refine C6 (n) ?_|refine C6 (t) ?_|refine Lq.one rfl rfl (aa b) rfl (X0 rfl) rfl rfl ?_|refine CF rfl (aa b) rfl ?_|refine CM rfl rfl (fH b) rfl (X0 rfl) (show [C.s du.own ((c.Lists.map (aF .own)).set k (aF .own (nth c.Lists k++[a])))]=_ from by simp only[List.set_cons_zero,List.set_set,I2];rfl) ?_|refine Ap.sm (aL λ_=>rfl) rfl (by simp;omega) (by decide) (gQ _ _ _) ?_|refine CE (o) ⟨⟨rfl,j⟩,trivial⟩ ?_)
  rfl
 ·have p:cput c k a=some (lK c k a):=by unfold cput;rw[C8 ⟨h,ω,ω,by rw[I2];exact e⟩,I2]
  rw[p]at g |-;refine fO 35 [(4,267,[16,17,18,19,20,21,22,23,24,25,27,0,1,2,3,4,5,6,7,8,9,10,1000,1001,1002,11,12])] Tryz.func403 rfl ?_ (.inr g)
  repeat'(first|refine gO ?_|(conv=>whnf);first|with_reducible refine CA (aa b) ?_|refine C9 ?_|refine CA (fH b) ?_|refine CF rfl (fH b) rfl ?_|refine C6 (n) ?_|refine C6 (t) ?_|refine Lq.one rfl rfl (aa b) rfl (X0 rfl) rfl rfl ?_|refine CF rfl (aa b) rfl ?_|refine CM rfl rfl (fH b) rfl (X0 rfl) (show [C.s du.own ((c.Lists.map (aF .own)).set k (aF .own (nth c.Lists k++[a])))]=_ from by simp only[List.set_cons_zero,List.set_set,I2];rfl) ?_|refine Ap.sm (aL λ_=>rfl) rfl (by simp;omega) (by decide) (gQ _ _ _) ?_|refine CE (o) ⟨⟨rfl,j⟩,trivial⟩ ?_|refine CE (w) ⟨⟨rfl,j⟩,trivial⟩ ?_)
  rfl
def bv(x:ab):List C:=[.s .own (x.Kernel.Machine.Frames.Cells.map (aF .own)),.s .own (x.Kernel.Machine.Frames.Used.map (rB .own)),.s .own (x.Kernel.Machine.Table.Entries.map (bh.enc .own)),I x.Kernel.Calls,.s .own (x.Kernel.Refuse.map (rI .own)),.s .own (x.Free.map (ax.enc .own)),.s .own (x.Spans.map (au.enc .own)),.s .own (x.Larges.map (a8.enc .own)),.s .own (x.Objs.map (bH.enc .own)),.s .own (x.Caches.map (aB.enc .own)),.s .own (x.Mail.Buffers.map (cu .own)),.s .own (x.Mail.Inbox.map (aF .own)),I x.Quar.Room,.s .own (x.Quar.Lst.map (aK.enc .own)),I x.Seed,I x.Clock,I x.Limit,I x.Next,B x.Meshing,I x.Job.Plan.Keep,I x.Job.Plan.Move,.s .imm (x.Job.Plan.Cells.map (rI .imm)),I x.Job.Phase,I x.Job.Next]
theorem b8(x:ab):d2 (bv x)=ab.enc .imm x:=by simp[d2,bv,ab.enc,aB.enc_fz,bh.enc_fz,a8.enc_fz,bH.enc_fz,ax.enc_fz,au.enc_fz,aK.enc_fz,rB,pb,rI,dR,<-bT,X4]
def ul(x:cv):List C:=[I x.Plan.Keep,I x.Plan.Move,.s .imm (x.Plan.Cells.map (rI .imm)),I x.Phase,I x.Next]
theorem Pu.two{g a:List C}{off i k j h l c:Nat}{cs:List C}{K:List C->Prop}{o d:du}{rows rows2:List (List C)}{r f:List C}(h1:g[off]? = some (.s o rows))(u:o.mine=true)(n:rows[i]? = some r)(w:r.length=k)(p:r[j]? = some (.s d rows2))(y:d.mine=true)(q:rows2[h]? = some f)(A:f.length=l)(E:c+cs.length<=l)(B:a=g.set off (.s o (rows.set i (r.set j (.s d (rows2.set h (splice f c cs)))))))(D:K a):Pu g off [(i,k,j),(h,l,c)] cs K:=by
 have t:o≠.imm:=λe=>by subst e;cases u
 have b:d≠.imm:=λe=>by subst e;cases y
 refine Pu.mk (r:=f) (j:=c) (by simp[bP,h1,n,w,p,q,A]) (by simp[iX,h1,n,t,p,q,b]) ω (by rw[B];simp[eZ,h1,n,p,q]) D
theorem uy(x:List au):fz (.s .own (x.map (au.enc .own)))=.s .imm (x.map (au.enc .imm)):=(List.cons.inj (we x)).1
theorem rF(x:List a8):fz (.s .own (x.map (a8.enc .own)))=.s .imm (x.map (a8.enc .imm)):=(List.cons.inj (Do x)).1
theorem t6(x:List bH):fz (.s .own (x.map (bH.enc .own)))=.s .imm (x.map (bH.enc .imm)):=(List.cons.inj (GH x)).1
theorem Ap.dele{α:Type}{e:α->List C}{xs:List α}{i sz by_:Nat}{K:List (List C)->Prop}(a:∀y,(e y).length=sz)(b:∀y,aU (e y)=true)(h:xs.length<=1048576)(c:by_<=1000)(d:K ((Ab.dele xs i).map e)):Ap true ((xs.take i).map e) ((xs.drop (i+1)).map e) sz by_ K:=by
 have f:(xs.take i).length+(xs.drop (i+1)).length<=2097152:=by rw[I1,X2];omega
 refine CP (aL a) (aL a) (λ_ r g=>by obtain⟨y,-,rfl⟩:=V3.1 g;exact b y) (by rw[W0,W0];omega) (by rw[W0,W0];exact v4 (Nat.mul_le_mul f c) (by decide)) ?_ d;unfold Ab.dele;rw[W4]
theorem GA(h:ab)(p:Int)(a:aG.sml h.Kernel.Machine.Table):ao Tryz.prog 348 false [.ptr (ab.enc .imm h),.val none [I p]] .one [I (ar h.Kernel.Machine.Table p).Mode]:=by
 refine fO 13 [] Tryz.func348 rfl ?_
 repeat'(first|refine gO ?_|(conv=>whnf);first|refine C9 ?_|refine C6 (cR h.Kernel.Machine.Table p a) ?_)
 rfl
def M1(h:ab):List C:=(bv h).drop 5
theorem N2(h:ab)(k:af):bv {h with Kernel:=k} = af.enc .own k++M1 h:=rfl
theorem A8(h:ab):M1 h=[.s .own (h.Free.map (ax.enc .own)),.s .own (h.Spans.map (au.enc .own)),.s .own (h.Larges.map (a8.enc .own)),.s .own (h.Objs.map (bH.enc .own)),.s .own (h.Caches.map (aB.enc .own)),.s .own (h.Mail.Buffers.map (cu .own)),.s .own (h.Mail.Inbox.map (aF .own)),I h.Quar.Room,.s .own (h.Quar.Lst.map (aK.enc .own)),I h.Seed,I h.Clock,I h.Limit,I h.Next,B h.Meshing,I h.Job.Plan.Keep,I h.Job.Plan.Move,.s .imm (h.Job.Plan.Cells.map (rI .imm)),I h.Job.Phase,I h.Job.Next]:=rfl
theorem Hd(h:ab)(f:Int)(a:aG.sml h.Kernel.Machine.Table)(b:0<=f/\f<h.Kernel.Machine.Frames.Cells.length/\f<h.Kernel.Machine.Frames.Used.length) :
  aO Tryz.prog 349 false [.ptr (bv h),.val none [I f]] [.ptr (bv {h with Kernel:=gc h.Kernel f}),.val none [I f]] (.tup []) []:=by
 have c:=ah (xs:=h.Kernel.Machine.Frames.Cells) (i:=f.toNat) ω;have d:=ah (xs:=h.Kernel.Machine.Frames.Used) (i:=f.toNat) ω;rw[N2 h (gc h.Kernel f)];by_cases e:(pagesOn h.Kernel.Machine.Table f).length=0
 ·rw[qO e,A8]
  refine fM 30 [] [(2,8,[21,22,23,24,25,26,27,28])] [(0,0),(0,0)] Tryz.func349 rfl (λu q=>?_) (.inr trivial)
  repeat'(first|refine gA ?_|(conv=>whnf);first|with_reducible (first|refine CJ b.1 (aa d) ?_|refine CJ b.1 (aa c) ?_)|refine C9 ?_|refine CE (fW h.Kernel.Machine.Table f a) ⟨⟨rfl,CU h.Kernel.Machine.Table⟩,⟨rfl,rfl⟩,trivial⟩ ?_|refine CM rfl rfl (aa c) rfl (X0 rfl) rfl ?_|refine CM rfl rfl (aa d) rfl (X0 rfl) rfl ?_|refine Mk.mk 16 rfl rfl (by decide) (by decide) rfl ?_)
  refine CD rfl rfl ?_;exact wB
 ·rw[vt e]
  show aO _ _ _ [.ptr (bv h),_] [.ptr (bv h),_] _ _;refine fM 30 [] [(2,8,[21,22,23,24,25,26,27,28])] [(0,0),(0,0)] Tryz.func349 rfl (λu q=>?_) (.inr trivial)
  repeat'(first|refine gA ?_|(conv=>whnf);first|refine C9 ?_|refine CE (fW h.Kernel.Machine.Table f a) ⟨⟨rfl,CU h.Kernel.Machine.Table⟩,⟨rfl,rfl⟩,trivial⟩ ?_)
  refine CD rfl rfl ?_;exact wB
theorem l9(h:ab)(p:Int)(b:aA h.Kernel=true) :
  aO Tryz.prog 297 false [.ptr (bv h),.val none [I p]] [.ptr (bv {h with Kernel:=cb h.Kernel p}),.val none [I p]] .one [B (decide ((ar h.Kernel.Machine.Table p).Mode≠0))]:=by
 have k:=b6 b;have c:=GA h p k.1.2;by_cases a:(ar h.Kernel.Machine.Table p).Mode=0
 ·rw[show cb h.Kernel p=h.Kernel by unfold cb;rw[C8 a]]
  refine fM 32 [(349,[2,0])] [] [(0,0),(0,0)] Tryz.func297 rfl (λu q=>?_)
  repeat'(first|refine gA ?_|(conv=>whnf);first|refine C9 ?_|refine CE (c) ⟨b8 h,⟨rfl,rfl⟩,trivial⟩ ?_)
  refine CD rfl ?_ ?_
  ·exact T0 (λz=>[B z]) ((by simp[a]))
  ·exact wB
 ·obtain⟨l,r,n,d,o⟩:=bZ b a
  have j:=(aW.1 (aC.1 b).2.1).2.2.1;rw[show cb h.Kernel p=gc (jC h.Kernel p) (ar h.Kernel.Machine.Table p).Frame by unfold cb;rw[C7 a]];have e:=Hd {h with Kernel:=jC h.Kernel p} (ar h.Kernel.Machine.Table p).Frame (tX b) ⟨d,by simp only[jC];omega,by simp only[jC];omega⟩;rw[N2 h (jC h.Kernel p),wc,A8]at e;have g:=ah (xs:=h.Kernel.Machine.Table.Entries) (i:=p.toNat) ω;rw[n]at c e a |-;refine fM 32 [(349,[2,0])] [] [(0,0),(0,0)] Tryz.func297 rfl (λu q=>?_)
  repeat'(first|refine gA ?_|(conv=>whnf);first|with_reducible refine CJ l (aa g) ?_|refine C9 ?_|refine CE (c) ⟨b8 h,⟨rfl,rfl⟩,trivial⟩ ?_|refine CM rfl rfl (aa g) rfl (X0 rfl) rfl ?_|refine CF rfl (aa g) rfl ?_|refine CG (e) (.inl rfl) ?_)
  refine CD rfl ?_ ?_
  ·exact T0 (λz=>[B z]) ((by simp[a]))
  ·exact wB
theorem sO(h:ab)(p:Int):ao Tryz.prog 290 false [.ptr (ab.enc .imm h),.val none [I p]] .one [B (dZ h p)]:=by
 cases e:h.Meshing
 all_goals
  have b:ab.enc .imm h=(ab.enc .imm h).set 18 (B h.Meshing):=rfl;rw[e]at b;rw[b];refine fO 29 [] Tryz.func290 rfl ?_
  repeat'(first|refine gO ?_|(conv=>whnf);first|with_reducible (first|refine Bf.D (λa=>?_) (λa=>?_)|refine Bf.E (λa=>?_) (λa=>?_)|refine Bf.N (λa=>?_) (λa=>?_))|refine C9 ?_)
  all_goals exact T0 (λz=>[B z]) ((by unfold dZ;rw[e];first|(simp[*];done)|(simp[*];rw[t4];simp)))
theorem gj(h:ab):ao Tryz.prog 295 false [.ptr (ab.enc .imm h)] .one [I (dE h:Nat)]:=by
 refine fO 11 [] Tryz.func295 rfl ?_
 repeat'(first|refine gO ?_|(conv=>whnf);first|refine C9 ?_)
 rfl
theorem p6(h:ab)(a:Int)(k:h.Objs.length<=1048576):ao Tryz.prog 53 false [.val (some 24) (ab.enc .imm h),.val none [I a]] .one [I (dm (kx a) h.Objs)]:=by
 refine fO 22 [] Tryz.func53 rfl ?_
 repeat'(first|refine gO ?_|(conv=>whnf);first|refine C9 ?_)
 (conv=>whnf)
 refine CC (ι:=Nat) (λi=>[(1,.hold .one [I (a)]),(2,.hold .box (ab.enc .imm h)),(5,.hold .one [I ((i:Nat):Int)])]) (λi=>i<=h.Objs.length/\∀(j:Nat)(z:bH),j<i->h.Objs[j]? = some z->kx a z=false) (λi=>h.Objs.length - i) (0) ?_ (⟨R0 _,λj z l=>ω⟩) λi d=>?_
 ·exact wB
 obtain⟨d,c⟩:=d;by_cases g:i<h.Objs.length
 ·have b:=ah g
  by_cases e:(nth h.Objs i).Addr=a
  ·repeat'(first|refine gA ?_|(conv=>whnf);first|with_reducible refine CA (aa b) ?_|refine C9 ?_)
   exact T0 (λz=>[I z]) (dQ b (by unfold kx;simp[e]) c).symm
  ·repeat'(first|refine gA ?_|(conv=>whnf);first|with_reducible refine CA (aa b) ?_|refine C9 ?_)
   ((conv=>whnf);refine CB (i+1) ⟨ω,dn b (by unfold kx;simp[e]) c⟩ ω ?_;(exact wB))
 ·repeat'(first|refine gD ?_|(conv=>whnf);first|refine C9 ?_)
  exact T0 (λz=>[I z]) (gm ω c).symm
theorem lU(h:ab)(i:Nat)(b:i<h.Objs.length)(a:h.Objs.length<=1048576):aO Tryz.prog 382 false [.ptr (bv h),.val none [I (i:Nat)]] [.ptr (bv {h with Objs:=dele h.Objs i}),.val none [I (i:Nat)]] (.tup []) []:=by
 refine fM 23 [] [(0,273,[4,5,6,7,8,9,10,11,13,14,15,16,17,18,19,21,22,0,1,2,3,4,5,6,7,9,10,11,12,13,14,15,8,1000,1009,1010,1011,1012,1013,1014,1015,16,1000,17,18,19]),(1048576,0,[8])] [(0,0),(0,0)] Tryz.func382 rfl (λu q=>?_) (.inr trivial)
 repeat'(first|refine gO ?_|(conv=>whnf);first|refine C9 ?_|refine D0.mk rfl (t6 h.Objs) rfl ?_|refine CS i rfl (by rw[W0];omega) (aL λ_=>rfl) T3 ?_|refine Sl.suf (i+1) rfl (by rw[W0];omega) (aL λ_=>rfl) U3 ?_|refine CR (λ_=>rfl) (λ_=>rfl) (by rw[I1];omega) (by decide) ?_|refine Ap.dele (λ_=>rfl) (λ_=>rfl) a (by decide) ?_|refine CL (λ_=>rfl) (λ_=>rfl) (by rw[I1];omega) (by decide) ?_|refine C9 ?_)
 refine CD rfl rfl ?_;exact wB
theorem Ad(h:ab)(E:List Int)(i:Nat)(b:bm h E)(e:i<h.Spans.length):aO Tryz.prog 392 false [.ptr (bv h),.val none [I (i:Nat)]] [.ptr (bv (giveP h i)),.val none [I (i:Nat)]] (.tup []) []:=by
 have a:=b.lens;have g:=a.spans;have c:=ah e;have j:=l9 {h with Spans:=dele h.Spans i} (nth h.Spans i).Page b.ker;have d:=gj {h with Kernel:=cb h.Kernel (nth h.Spans i).Page,Spans:=dele h.Spans i};rw[show dE {h with Kernel:=cb h.Kernel (nth h.Spans i).Page,Spans:=dele h.Spans i} = dE h from(j9 _ _).1]at d;have k:dE h<=32:=a.ents;have l:=kw (dE h:Nat) h.Free ⟨(nth h.Spans i).Page,1⟩ ⟨ω,ω⟩ ⟨by have:=a.free;omega,λ_ _=>trivial⟩;refine fM 52 [(297,[2,0])] [(1,273,[13,14,15,16,17,18,19,20,22,23,24,25,26,27,28,30,31,0,1,2,3,4,5,6,7,9,10,11,12,13,14,15,8,1000,1009,1010,1011,1012,1013,1014,1015,16,1000,17,18,19]),(1048577,0,[6]),(3,270,[38,39,40,41,42,43,44,45,47,37,48,49,50,51,0,1,2,3,4,5,6,7,8,1000,1001,1002,1003,1004,1005,1006,9,10,11,12,13,14,15,1012])] [(0,0),(0,0)] Tryz.func392 rfl (λu q=>?_) (.inr trivial)
 repeat'(first|refine gO ?_|(conv=>whnf);first|with_reducible refine CA (aa c) ?_|refine C9 ?_|refine D0.mk rfl (uy h.Spans) rfl ?_|refine CS i rfl (by rw[W0];omega) (aL λ_=>rfl) T3 ?_|refine Sl.suf (i+1) rfl (by rw[W0];omega) (aL λ_=>rfl) U3 ?_|refine CR (λ_=>rfl) (λ_=>rfl) (by rw[I1];omega) (by decide) ?_|refine Ap.dele (λ_=>rfl) (λ_=>rfl) ω (by decide) ?_|refine CL (λ_=>rfl) (λ_=>rfl) (by rw[I1];omega) (by decide) ?_|refine CF rfl (aa c) rfl ?_|refine C9 ?_|refine CG (j) (.inl rfl) ?_|refine CE (d) ⟨b8 _,trivial⟩ ?_|refine CE (l) ⟨⟨rfl,rfl⟩,⟨rfl,dz h.Free⟩,⟨rfl,rfl⟩,trivial⟩ ?_)
 refine CD rfl rfl ?_;exact wB
theorem vM(h:ab)(i:Nat)(a:Int):bv (clrS h i a)=(bv h).set 6 (.s .own ((h.Spans.map (au.enc .own)).set i (au.enc .own (lD (nth h.Spans i) (dL (nth h.Spans i) a))))):=by
 simp[bv,clrS,t5]
theorem pU{α β:Type}{f:α->β}{xs:List α}{i:Nat}{y:β}(a:i<xs.length):((xs.map f).set i y)[i]? = some y:=by
 rw[v3 (by rw[W0];exact a)]
theorem GI{s:au}(c:bf s=true){a:Int}(b:eS s a):gR s a=(dL s a,0):=by
 unfold gR;rw[C8 ((fI c).2 ⟨b.1,b.2.1⟩),b.2.2.1];rfl
theorem lW(h:ab)(E:List Int)(a:Int)(c:bm h (a::E)):aO Tryz.prog 364 false [.ptr (bv h),.val none [I a]] [.ptr (bv (freeA h a)),.val none [I a]] (.tup []) []:=by
 obtain⟨g,n,t⟩:=c.at (c.hin a (O1 ..));have d:=(c.hin a (O1 ..)).bd c;have B:=c.lens;have C:=B.spans;have e:=c.L.sok _ (am g);have k:=iQ h (a / 16) ω;rw[t]at k;unfold freeA;generalize uR h a=i at g n k e;have b:=ah g;have o:=sf (nth h.Spans i) a ⟨ω,ω⟩;rw[GI e n]at o;have w:=xm (nth h.Spans i) (dL (nth h.Spans i) a) e n.2.2.2;have D:=c.give g n;have l:=sO (clrS h i a) (nth h.Spans i).Page;rw[show dZ (clrS h i a) (nth h.Spans i).Page=dZ h (nth h.Spans i).Page from rfl]at l;have p:=Ad (clrS h i a) E i D (by unfold clrS;simp only[C1];exact g);have r:=b8 (clrS h i a);rw[vM]at p r;have j:((h.Spans.map (au.enc .own)).set i (au.enc .own (lD (nth h.Spans i) (dL (nth h.Spans i) a))))[i]? = some (au.enc .own (lD (nth h.Spans i) (dL (nth h.Spans i) a))):=pU g;unfold freeS;by_cases y:(lD (nth h.Spans i) (dL (nth h.Spans i) a)).Bits=0
 ·cases F:dZ h (nth h.Spans i).Page<;>rw[F]at l
  ·rw[C8 ⟨y,rfl⟩]
   refine fM 68 [(392,[2,0])] [(2,274,[26,27,28,29,30,31,32,33,34,35,36,37,38,39,25,40,41,42,0,1,2,3,4,5,6,7,8,9,10,11,12,13,14,15,16,17,18,1016])] [(0,0),(0,0)] Tryz.func364 rfl (λu q=>?_) (.inr trivial)
   repeat'(first|refine gA ?_|(conv=>whnf);first|with_reducible refine CI ((T0 _ (tdiv16 d.1)).trans (eK ω ω)) ?_|refine C9 ?_|refine CK (by decide) ?_|refine CE (k) ⟨⟨rfl,b8 h⟩,⟨rfl,rfl⟩,trivial⟩ ?_|refine CA (aa b) ?_|refine CA j ?_|refine CF rfl (aa b) rfl ?_|refine CF rfl j rfl ?_|refine C6 (o) ?_|refine C6 (w) ?_|refine C9 ?_|refine CM rfl rfl (aa b) rfl (X0 rfl) rfl ?_|refine CE (l) ⟨r,⟨rfl,rfl⟩,trivial⟩ ?_|refine CG (p) (.inl rfl) ?_)
   refine CD rfl rfl ?_;exact wB
  ·rw[C7 λx=>by cases x.2]
   rw[vM];refine fM 68 [(392,[2,0])] [(2,274,[26,27,28,29,30,31,32,33,34,35,36,37,38,39,25,40,41,42,0,1,2,3,4,5,6,7,8,9,10,11,12,13,14,15,16,17,18,1016])] [(0,0),(0,0)] Tryz.func364 rfl (λu q=>?_) (.inr trivial)
   repeat'(first|refine gA ?_|(conv=>whnf);first|with_reducible refine CI ((T0 _ (tdiv16 d.1)).trans (eK ω ω)) ?_|refine C9 ?_|refine CK (by decide) ?_|refine CE (k) ⟨⟨rfl,b8 h⟩,⟨rfl,rfl⟩,trivial⟩ ?_|refine CA (aa b) ?_|refine CA j ?_|refine CF rfl (aa b) rfl ?_|refine CF rfl j rfl ?_|refine C6 (o) ?_|refine C6 (w) ?_|refine C9 ?_|refine CM rfl rfl (aa b) rfl (X0 rfl) rfl ?_|refine CE (l) ⟨r,⟨rfl,rfl⟩,trivial⟩ ?_|refine CG (p) (.inl rfl) ?_)
   refine CD rfl rfl ?_;exact wB
 ·rw[C7 λx=>y x.1]
  rw[vM];refine fM 68 [(392,[2,0])] [(2,274,[26,27,28,29,30,31,32,33,34,35,36,37,38,39,25,40,41,42,0,1,2,3,4,5,6,7,8,9,10,11,12,13,14,15,16,17,18,1016])] [(0,0),(0,0)] Tryz.func364 rfl (λu q=>?_) (.inr trivial)
  repeat'(first|refine gA ?_|(conv=>whnf);first|with_reducible refine CI ((T0 _ (tdiv16 d.1)).trans (eK ω ω)) ?_|refine C9 ?_|refine CK (by decide) ?_|refine CE (k) ⟨⟨rfl,b8 h⟩,⟨rfl,rfl⟩,trivial⟩ ?_|refine CA (aa b) ?_|refine CA j ?_|refine CF rfl (aa b) rfl ?_|refine CF rfl j rfl ?_|refine C6 (o) ?_|refine C6 (w) ?_|refine C9 ?_|refine CM rfl rfl (aa b) rfl (X0 rfl) rfl ?_|refine CE (l) ⟨r,⟨rfl,rfl⟩,trivial⟩ ?_|refine CG (p) (.inl rfl) ?_)
  refine CD rfl rfl ?_;exact wB
theorem J5(h:ab)(t:Nat)(c:aB):bv {h with Caches:=h.Caches.set t c} = (bv h).set 9 (.s .own ((h.Caches.map (aB.enc .own)).set t (aB.enc .own c))):=by
 simp[bv,t5]
theorem m7(h:ab)(E:List Int)(t:Nat)(a:Int)(b:bm h (a::E))(w:t<h.Caches.length):aO Tryz.prog 384 false [.ptr (bv h),.val none [I (t:Nat)],.val none [I a]] [.ptr (bv (recyc t h a)),.val none [I (t:Nat)],.val none [I a]] (.tup []) []:=by
 obtain⟨o,y,p⟩:=b.at (b.hin a (O1 ..));have g:=(b.hin a (O1 ..)).bd b;have B:=b.lens;have C:=B.spans;have j:=aE (b.L.sok _ (am o));have r:=b.cach _ (am w);have l:=iQ h (a / 16) ω;rw[p]at l;have D:=lW h E a b;unfold recyc;generalize uR h a=i at o y l j;have n:=ah o;have k:=ah w;have d:=wP (nth h.Caches t) (nth h.Spans i).Class.toNat a r ω;rw[Int.toNat_of_nonneg j.2.2.1]at d;unfold FJ at d;cases e:cput (nth h.Caches t) (nth h.Spans i).Class a with
 | none=>
  rw[e]at d;refine fM 46 [(364,[2,0])] [(1,277,[16,17,18,19,20,21,22,23,24,25,26,27,28,29,30,31,32,15,33,34,7,0,1,2,3,4,5,6,7,8,9,10,11,12,13,14,15,16,17,18,19,20,21,1019,22]),(3,6,[36,37,38,39,40,41])] [(0,0),(0,0),(0,0)] Tryz.func384 rfl (λu q=>?_) (.inr trivial)
  repeat'(first|refine gO ?_|(conv=>whnf);first|with_reducible refine CI ((T0 _ (tdiv16 g.1)).trans (eK ω ω)) ?_|refine C9 ?_|refine CK (by decide) ?_|refine CE (l) ⟨⟨rfl,b8 h⟩,⟨rfl,rfl⟩,trivial⟩ ?_|refine CA (aa n) ?_|refine CA (aa k) ?_|refine CF rfl (aa n) rfl ?_|refine CF rfl (aa k) rfl ?_|refine CE (d) ⟨⟨rfl,aB.enc_fz _⟩,⟨rfl,rfl⟩,⟨rfl,rfl⟩,trivial⟩ ?_|refine C9 ?_|refine CG (D) (.inl rfl) ?_)
  refine CD rfl rfl ?_;exact wB
 | some c=>
  rw[e]at d;simp only;rw[J5];refine fM 46 [(364,[2,0])] [(1,277,[16,17,18,19,20,21,22,23,24,25,26,27,28,29,30,31,32,15,33,34,7,0,1,2,3,4,5,6,7,8,9,10,11,12,13,14,15,16,17,18,19,20,21,1019,22]),(3,6,[36,37,38,39,40,41])] [(0,0),(0,0),(0,0)] Tryz.func384 rfl (λu q=>?_) (.inr trivial)
  repeat'(first|refine gO ?_|(conv=>whnf);first|with_reducible refine CI ((T0 _ (tdiv16 g.1)).trans (eK ω ω)) ?_|refine C9 ?_|refine CK (by decide) ?_|refine CE (l) ⟨⟨rfl,b8 h⟩,⟨rfl,rfl⟩,trivial⟩ ?_|refine CA (aa n) ?_|refine CA (aa k) ?_|refine CF rfl (aa n) rfl ?_|refine CF rfl (aa k) rfl ?_|refine CE (d) ⟨⟨rfl,aB.enc_fz _⟩,⟨rfl,rfl⟩,⟨rfl,rfl⟩,trivial⟩ ?_|refine C9 ?_|refine CM rfl rfl (aa k) rfl (X0 rfl) rfl ?_)
  refine CD rfl rfl ?_;exact wB
theorem oJ(h:ab)(i:Nat)(d:bm h [])(o:i<h.Objs.length)(t:aN (nth h.Objs i).Size<0):aO Tryz.prog 380 false [.ptr (bv h),.val none [I (i:Nat)]] [.ptr (bv (freeL h i (wx h (nth h.Objs i).Addr))),.val none [I (i:Nat)]] (.tup []) []:=by
 obtain⟨l,w,y,-⟩:=(eP d (am o)).1 t;obtain⟨p,B,c,-⟩:=zr w y;generalize wx h (nth h.Objs i).Addr=g at p B c;have a:=d.lens;have C:=a.larges;have D:=a.objs;have b:=ah o;have N:=aT (d.L.lok _ (am p));have E:dE h<=32:=a.ents;refine fM 89 [(297,[2,0]),(382,[2,0])] [(4,11,[23,24,25,26,27,28,29,30,31,32,33]),(8,7,[41,42,43,44,45,46,47]),(9,273,[50,51,52,53,54,55,56,57,58,59,60,62,49,63,64,65,66,0,1,2,3,4,5,6,7,8,9,10,11,1000,1001,1002,1003,1004,1005,1006,12,13,14,15,16,17,18,1015]),(10,273,[67,68,69,70,71,72,73,74,76,77,78,79,80,81,82,84,85,0,1,2,3,4,5,6,7,9,10,11,12,13,14,15,8,1000,1009,1010,1011,1012,1013,1014,1015,16,1000,17,18,19]),(1048586,0,[7])] [(0,0),(0,0)] Tryz.func380 rfl (λu q=>?_) (.inr trivial)
 repeat'(first|refine gO ?_|(conv=>whnf);first|refine C9 ?_)
 (conv=>whnf)
 refine CC (ι:=Nat) (λk=>[(0,.hold .box (bv h)),(1,.hold .one [I ((i:Nat):Int)]),(4,.hold .one [I ((k:Nat):Int)])]) (λk=>k<=g) (λk=>g - k) (0) ?_ (R0 _) λk O=>?_
 ·exact wB
 have j:=ah (xs:=h.Larges) (i:=k) ω;have F:=aT (d.L.lok _ (am (xs:=h.Larges) (i:=k) ω));have G:0<=(nth h.Objs i).Addr/\(nth h.Objs i).Addr<=512:=ω
 by_cases e:k=g
 ·subst e
  repeat'(first|refine gA ?_|(conv=>whnf);first|with_reducible refine CA (aa j) ?_|refine C9 ?_|refine CF rfl (aa j) rfl ?_|refine CF rfl (aa b) rfl ?_|refine CA (aa b) ?_)
  (conv=>whnf)
  refine CC (ι:=Nat) (λn=>[(0,.hold .box (bv {h with Kernel:=dy h.Kernel (nth h.Larges k).Page n})),(1,.hold .one [I ((i:Nat):Int)]),(4,.hold .one [I ((k:Nat):Int)]),(5,.hold .box (a8.enc .own (nth h.Larges k))),(6,.hold .one [I ((n:Nat):Int)])]) (λn=>n<=(nth h.Larges k).Pages.toNat) (λn=>(nth h.Larges k).Pages.toNat - n) (0) ?_ (R0 _) λn P=>?_
  ·exact wB
  by_cases Q:n<(nth h.Larges k).Pages.toNat
  ·have H:=l9 {h with Kernel:=dy h.Kernel (nth h.Larges k).Page n} ((nth h.Larges k).Page+n) (jo d.ker _ _)
   repeat'(first|refine gD ?_|(conv=>whnf);first|refine C9 ?_|refine CG (H) (.inl rfl) ?_|refine C9 ?_)
   ((conv=>whnf);refine CB (n+1) ω ω ?_;(exact wB))
  ·obtain rfl:n=(nth h.Larges k).Pages.toNat:=ω
   have r:=gj {h with Kernel:=dy h.Kernel (nth h.Larges k).Page (nth h.Larges k).Pages.toNat};rw[show dE {h with Kernel:=dy h.Kernel (nth h.Larges k).Page (nth h.Larges k).Pages.toNat} = dE h from(ew _ _ _).1]at r;have J:=kw (dE h:Nat) h.Free ⟨(nth h.Larges k).Page,(nth h.Larges k).Pages⟩ ⟨ω,ω⟩ ⟨by have:=a.free;omega,λ_ _=>trivial⟩;have K:=lU {h with Kernel:=dy h.Kernel (nth h.Larges k).Page (nth h.Larges k).Pages.toNat,Larges:=dele h.Larges k,Free:=(bS (dE h) h.Free ⟨(nth h.Larges k).Page,(nth h.Larges k).Pages⟩).getD h.Free} i o (by show h.Objs.length<=_;omega)
   repeat'(first|refine gD ?_|(conv=>whnf);first|refine C9 ?_|refine D0.mk rfl (rF h.Larges) rfl ?_|refine CS k rfl (by rw[W0];omega) (aL λ_=>rfl) T3 ?_|refine Sl.suf (k+1) rfl (by rw[W0];omega) (aL λ_=>rfl) U3 ?_|refine CR (λ_=>rfl) (λ_=>rfl) (by rw[I1];omega) (by decide) ?_|refine Ap.dele (λ_=>rfl) (λ_=>rfl) ω (by decide) ?_|refine CL (λ_=>rfl) (λ_=>rfl) (by rw[I1];omega) (by decide) ?_|refine C9 ?_|refine CE (r) ⟨b8 _,trivial⟩ ?_|refine CE (J) ⟨⟨rfl,rfl⟩,⟨rfl,dz h.Free⟩,⟨rfl,rfl⟩,trivial⟩ ?_|refine CG (K) (.inl rfl) ?_)
   refine CD rfl rfl ?_;exact wB
 ·have M:=c k ω
  repeat'(first|refine gA ?_|(conv=>whnf);first|with_reducible refine CA (aa j) ?_|refine C9 ?_|refine CF rfl (aa j) rfl ?_|refine CF rfl (aa b) rfl ?_|refine CA (aa b) ?_)
  ((conv=>whnf);refine CB (k+1) ω ω ?_;(exact wB))
def ML(q:bC)(x:aK):List C:=bC.enc .own (GV q x)++cC .own (yH q x)
theorem LC(q:bC)(x:aK):gg (ML q x):=aR (bC.enc_fr _) (si _)
theorem ze(q:bC)(a:aK)(K:q.Lst.length<=4096)(e:fp q=true)(r:0<=a.Class/\a.Class<=3/\0<=a.Addr/\0<=a.Since)(t:∀y∈q.Lst,y.Since<=a.Since)(u:∀y∈q.Lst,y.Addr≠a.Addr) :
  ao Tryz.prog 383 false [.val (some 2) (bC.enc .imm q),.val (some 3) (aK.enc .imm a)] (.tup [some 2,none]) (ML q a):=by
 have b:bC.sml q:=⟨ω,λ_ _=>trivial⟩
 have w:=qJ q b;have l:=nv q b;rw[e]at l;have n:=xz a;rw[O0 r]at n;have o:=qC q a.Addr b;rw[show q.Lst.any (dD a.Addr)=false by rw[List.any_eq_false];intro y B;unfold dD;simpa using u y B]at o;have C:=(iE.1 e).2.2.2;have g:=LC q a;have L:(aK.mk a.Addr a.Class a.Since)=a:=rfl;have c:=AZ q.Room (q.Lst++[a]);simp only[W2,List.length_singleton]at c;by_cases E:q.Lst.length=0
 all_goals
  try have h:(nth q.Lst (q.Lst.length - 1)).Since<=a.Since:=t _ (am ω)
  try have j:=ah (xs:=q.Lst) (i:=q.Lst.length - 1) ω
  try have d:q.Lst[((q.Lst.length:Int) - 1).toNat]? = some (nth q.Lst (q.Lst.length - 1)):=by rw[show((q.Lst.length:Int) - 1).toNat=q.Lst.length - 1 by omega];exact j
  refine fO 74 [(3,27,[15,16,17,18,19,20,21,22,23,24,25,26,27,28,29,30,31,32,33,34,35,36,37,38,39,40,41]),(7,6,[52,53,54,55,56,57]),(9,268,[61,62,63,64,65,66,67,69,70,71,72,73,0,1,2,3,4,5,6,8,9,10,11,12,7,1008,1009,1010,1011,1012,13,14])] Tryz.func383 rfl ?_ (.inr g)
  repeat'(first|refine gD ?_|(conv=>whnf);first|with_reducible refine Bf.D (λe=>?_) (λe=>?_)|refine C9 ?_|refine C6 (w) ?_|refine C6 (l) ?_|refine C6 (n) ?_|refine C6 (o) ?_|refine CJ ω (aa d) ?_|refine Ap.sm (aL λ_=>rfl) rfl (by simp;omega) (by decide) (gQ (aK.enc .own) q.Lst a) ?_)
  (conv=>whnf)
  refine Lp.fz 8 (ι:=Nat) (λk=>[(2,.hold .box (bC.enc .imm q)),(4,.hold .box [I 0,.z]),(8,.hold .one (cC .imm (q.Lst++[a]))),(9,.hold .one [I (k:Nat)])]) (λk=>k<=mC q.Room (q.Lst++[a])) (λk=>mC q.Room (q.Lst++[a]) - k) 0 ?_ (R0 _) λk M=>?_
  ·(repeat'(first|exact trivial|rfl|exact CH rfl (show JF (d2 (cC .own (q.Lst++[a]))) (cC .imm (q.Lst++[a])) by rw[AX];exact kR _)|refine CH ?_ ?_))
  have N:(q.Lst++[a]).length=q.Lst.length+1:=by simp
  have F:((q.Lst++[a]).drop k).length<=5000:=by rw[X2];omega
  have G:((q.Lst++[a]).take k).length<=5000:=by rw[I1];omega
  have p:=rX ((q.Lst++[a]).drop k) ⟨ω,λ_ _=>trivial⟩;by_cases H:k<mC q.Room (q.Lst++[a])
  ·have J:q.Room<quarCells ((q.Lst++[a]).drop k) ((q.Lst++[a]).drop k).length:=yl H
   repeat'(first|refine gD ?_|(conv=>whnf);first|refine C9 ?_|refine Sl.suf k rfl (by rw[W0];omega) (aL λ_=>rfl) U3 ?_|refine C6 (p) ?_|refine C9 ?_)
   ((conv=>whnf);refine CB (k+1) ω ω ?_;(exact wB))
  ·obtain rfl:k=mC q.Room (q.Lst++[a]):=ω
   have J:quarCells ((q.Lst++[a]).drop (mC q.Room (q.Lst++[a]))) ((q.Lst++[a]).drop (mC q.Room (q.Lst++[a]))).length<=q.Room:=y4 C.1 _
   repeat'(first|refine gD ?_|(conv=>whnf);first|refine C9 ?_|refine Sl.suf (mC q.Room (q.Lst++[a])) rfl (by rw[W0];omega) (aL λ_=>rfl) U3 ?_|refine CS (mC q.Room (q.Lst++[a])) rfl (by rw[W0];omega) (aL λ_=>rfl) T3 ?_|refine C6 (p) ?_|refine C9 ?_|refine CR (λ_=>rfl) (λ_=>rfl) ω (by decide) ?_|refine CL (λ_=>rfl) (λ_=>rfl) ω (by decide) ?_)
   rfl
theorem o8{z:Int}(h:0<=z/\z<512):IntKind.i64.wrap (z.tdiv 16)=z / 16:=(T0 _ (tdiv16 h.1)).trans (eK ω ω)
theorem rk{h:ab}{E:List Int}(a:bm h E){o:bH}(b:o∈h.Objs):0<=o.Addr/\o.Addr<512:=by
 rcases a.oow o b with⟨s,c,⟨f,g,-⟩,-⟩|⟨l,d,e,-⟩
 ·have:=aE (a.L.sok s c);omega
 ·have:=aT (a.L.lok l d);omega
theorem HO{k:Int}(h:0<=k/\k<=3):1<=csz k/\csz k<=8:=by
 rcases co h with e|e|e|e<;>rw[e]<;>decide
structure NZ(h:ab)(o:bH):Prop where
 cl:0<=aN o.Size/\aN o.Size<=3
 fr:0<=(ar h.Kernel.Machine.Table (o.Addr / 16)).Frame/\(ar h.Kernel.Machine.Table (o.Addr / 16)).Frame<h.Kernel.Machine.Frames.Cells.length
 fit:o.Addr % 16+csz (aN o.Size)<=16
 row:(nth h.Kernel.Machine.Frames.Cells (fE h.Kernel o.Addr)).length=16
theorem NZ.of{h:ab}{E:List Int}(b:bm h E){o:bH}(l:o∈h.Objs)(q:¬aN o.Size<0):NZ h o:=by
 obtain⟨⟨s,d,f,r⟩,B⟩:=(eP b l).2 q;have t:=aE (b.L.sok s d);have u:=rk b l;have n:s.Page=o.Addr / 16:=by have C:=f.1;have D:=f.2.1;omega
 have c:(o.Addr / 16).toNat<(tbl h).Entries.length:=by have:=b.pg.bnd _ (dl (la:=h.Larges) d);omega
 have a:(((o.Addr / 16).toNat:Nat):Int)=o.Addr / 16:=ω
 have p:=(b.pg.own _ c).2 (by rw[a,<-n];exact dl d);have g:(ar h.Kernel.Machine.Table (o.Addr / 16)).Mode≠0:=by rw[<-a];unfold tbl at p c;rw[ky c];exact p
 obtain⟨-,-,-,i,w⟩:=bZ b.ker g;have y:=(aW.1 (aC.1 b.ker).2.1).2.2.1;have j:fE h.Kernel o.Addr<h.Kernel.Machine.Frames.Cells.length:=by unfold fE;omega
 refine⟨ω,⟨i,ω⟩,?_,b.lens.row _ (am j)⟩;have A:=f.2.2.1;rw[n,<-r]at *;rcases co (k:=s.Class) ⟨ω,ω⟩ with e|e|e|e<;>rw[e]at A |-<;>omega
theorem ET(h:ab)(a:Int)(b:fE h.Kernel a<h.Kernel.Machine.Frames.Cells.length):({h with Kernel:=fG h.Kernel a 0} : ab)=h:=by
 have e:h.Kernel.Machine.Frames.Cells.set (fE h.Kernel a) (nth h.Kernel.Machine.Frames.Cells (fE h.Kernel a))=h.Kernel.Machine.Frames.Cells:=by
  refine List.ext_getElem? λi=>?_
  rw[I3];split
  ·rename_i e
   subst e;exact(ah b).symm
  ·rfl
 unfold fG lg;rw[e]
theorem Be(h:ab)(a:Int)(k:Nat)(v:Int)(_:0<=a):bv {h with Kernel:=fG h.Kernel a (k+1)} = (bv {h with Kernel:=fG h.Kernel a k}).set 0 (.s .own (((fG h.Kernel a k).Machine.Frames.Cells.map (aF .own)).set (ar h.Kernel.Machine.Table (a / 16)).Frame.toNat ((aF .own (lg (nth h.Kernel.Machine.Frames.Cells (fE h.Kernel a)) (a % 16).toNat k)).set 0 (.s .own (((lg (nth h.Kernel.Machine.Frames.Cells (fE h.Kernel a)) (a % 16).toNat k).map (rI .own)).set (a % 16+k).toNat (splice (rI .own v) 0 [I 0])))))):=by
 have e:(a % 16+k).toNat=(a % 16).toNat+k:=ω
 rw[e];simp[bv,fG,t5,lg,aF,splice,fE]
 rfl
theorem B7(t:Nat)(h:ab)(xs:List aK)(k:Nat)(a:k<xs.length):recycs t h ((xs.take (k+1)).map (·.Addr))=recyc t (recycs t h ((xs.take k).map (·.Addr))) (nth xs k).Addr:=by
 unfold recycs;rw[U4,ah a];simp
theorem EK(h:ab)(o:bH)(t:Nat)(a:bm h [])(P:o∈h.Objs)(ht:o.Thread=t)(hlc:h.Caches.length<=4):aO Tryz.prog 354 false [.ptr (bv h),.val none [I (t:Nat)],.val none [I o.Addr]] [.ptr (bv (freeOb h t (n7 h o.Addr)).1),.val none [I (t:Nat)],.val none [I o.Addr]] .one [I (freeOb h t (n7 h o.Addr)).2]:=by
 obtain⟨l,B,C⟩:=a.objAt P;have b:=rk a P;have hon:=a.onu o P;have d:=a.lens;have hno:=d.objs;have E:t<h.Caches.length:=ω
 have M:=aD (t:Nat) 0 (h.Caches.length - 1:Int);rw[O0 ω]at M;have F:=p6 h o.Addr ω;rw[C]at F;generalize n7 h o.Addr=i at l B F;subst B;have r:=ah l;have Q:=je (nth h.Objs i).Size;unfold freeOb;have R:=b6 a.ker;have Z:=cR h.Kernel.Machine.Table ((nth h.Objs i).Addr / 16) R.1.2;by_cases w:aN (nth h.Objs i).Size<0
 ·rw[C8 w]
  have c3:=oJ h i a l w;refine fM 148 [(380,[2,0]),(382,[2,0]),(384,[2,0,0]),(379,[2,0])] [(15,269,[68,69,70,71,72,73,74,75,77,67,78,79,11,0,1,2,3,4,5,6,7,13,8,1000,1001,1002,1003,1004,1013,9,10,11,12,14,1012,15]),(22,15,[92,93,94,95,96,97,98,99,100,101,102,103,104,105,106]),(25,271,[116,117,118,119,120,121,122,123,124,125,127,115,128,129,14,0,1,2,3,4,5,6,7,8,9,15,10,1000,1001,1002,1003,1015,11,12,13,14,16,1014,17])] [(0,0),(0,0),(0,0)] Tryz.func354 rfl (λu q=>?_)
  repeat'(first|refine gD ?_|(conv=>whnf);first|with_reducible refine Bf.D (λn=>?_) (λn=>?_)|refine C9 ?_|refine C6 (M) ?_|refine CE (F) ⟨⟨rfl,b8 h⟩,⟨rfl,rfl⟩,trivial⟩ ?_|refine CA (aa r) ?_|refine CF rfl (aa r) rfl ?_|refine C6 (Q) ?_|refine CG (c3) (.inl rfl) ?_)
  refine CD rfl rfl ?_;exact wB
 rw[C7 w];obtain⟨S,s2,s3,s4⟩:=NZ.of a (am l) w;by_cases N:(ar (tbl h) ((nth h.Objs i).Addr / 16)).Mode=1
 ·rw[C8 N]
  unfold tbl at N;refine fM 148 [(380,[2,0]),(382,[2,0]),(384,[2,0,0]),(379,[2,0])] [(15,269,[68,69,70,71,72,73,74,75,77,67,78,79,11,0,1,2,3,4,5,6,7,13,8,1000,1001,1002,1003,1004,1013,9,10,11,12,14,1012,15]),(22,15,[92,93,94,95,96,97,98,99,100,101,102,103,104,105,106]),(25,271,[116,117,118,119,120,121,122,123,124,125,127,115,128,129,14,0,1,2,3,4,5,6,7,8,9,15,10,1000,1001,1002,1003,1015,11,12,13,14,16,1014,17])] [(0,0),(0,0),(0,0)] Tryz.func354 rfl (λu q=>?_)
  repeat'(first|refine gA ?_|(conv=>whnf);first|with_reducible refine Bf.D (λn=>?_) (λn=>?_)|refine C9 ?_|refine CK (by decide) ?_|refine CI (o8 b) ?_|refine C6 (M) ?_|refine CE (F) ⟨⟨rfl,b8 h⟩,⟨rfl,rfl⟩,trivial⟩ ?_|refine CA (aa r) ?_|refine CF rfl (aa r) rfl ?_|refine C6 (Q) ?_|refine CE (Z) ⟨⟨rfl,CU _⟩,⟨rfl,rfl⟩,trivial⟩ ?_)
  refine CD rfl rfl ?_;exact wB
 rw[C7 N];unfold tbl at N;have G:fE h.Kernel (nth h.Objs i).Addr<h.Kernel.Machine.Frames.Cells.length:=by unfold fE;omega
 have hcz:=HO S;have g:=a.inQuar l w;have H:=dw (aN (nth h.Objs i).Size);refine fM 148 [(380,[2,0]),(382,[2,0]),(384,[2,0,0]),(379,[2,0])] [(15,269,[68,69,70,71,72,73,74,75,77,67,78,79,11,0,1,2,3,4,5,6,7,13,8,1000,1001,1002,1003,1004,1013,9,10,11,12,14,1012,15]),(22,15,[92,93,94,95,96,97,98,99,100,101,102,103,104,105,106]),(25,271,[116,117,118,119,120,121,122,123,124,125,127,115,128,129,14,0,1,2,3,4,5,6,7,8,9,15,10,1000,1001,1002,1003,1015,11,12,13,14,16,1014,17])] [(0,0),(0,0),(0,0)] Tryz.func354 rfl (λu q=>?_)
 repeat'(first|refine gA ?_|(conv=>whnf);first|with_reducible refine Bf.D (λn=>?_) (λn=>?_)|refine C9 ?_|refine CK (by decide) ?_|refine CI (o8 b) ?_|refine C6 (M) ?_|refine CE (F) ⟨⟨rfl,b8 h⟩,⟨rfl,rfl⟩,trivial⟩ ?_|refine CA (aa r) ?_|refine CF rfl (aa r) rfl ?_|refine C6 (Q) ?_|refine CE (Z) ⟨⟨rfl,CU _⟩,⟨rfl,rfl⟩,trivial⟩ ?_)
 rw[show bv h=bv {h with Kernel:=fG h.Kernel (nth h.Objs i).Addr 0} by rw[ET h _ G]]
 (conv=>whnf)
 refine CC (ι:=Nat) (λk=>[(0,.hold .box (bv {h with Kernel:=fG h.Kernel (nth h.Objs i).Addr k})),(1,.hold .one [I ((t:Nat):Int)]),(2,.hold .one [I ((nth h.Objs i).Addr)]),(7,.hold .one [I ((i:Nat):Int)]),(8,.hold .box (bH.enc .own (nth h.Objs i))),(9,.hold .one [I (aN (nth h.Objs i).Size)]),(10,.hold .box (bh.enc .own (ar h.Kernel.Machine.Table ((nth h.Objs i).Addr / 16)))),(13,.hold .one [I ((k:Nat):Int)])]) (λk=>k<=(csz (aN (nth h.Objs i).Size)).toNat) (λk=>(csz (aN (nth h.Objs i).Size)).toNat - k) (0) ?_ (R0 _) λk hk=>?_
 ·exact wB
 have hmod:IntKind.i64.wrap 0=0:=rfl;have T:(nth h.Objs i).Addr.tmod 16=(nth h.Objs i).Addr % 16:=fK b.1;have p:(fG h.Kernel (nth h.Objs i).Addr k).Machine.Frames.Cells[(ar h.Kernel.Machine.Table ((nth h.Objs i).Addr / 16)).Frame.toNat]? = some (lg (nth h.Kernel.Machine.Frames.Cells (fE h.Kernel (nth h.Objs i).Addr)) ((nth h.Objs i).Addr % 16).toNat k):=v3 G;by_cases O:k<(csz (aN (nth h.Objs i).Size)).toNat
 ·have J:=ah (xs:=lg (nth h.Kernel.Machine.Frames.Cells (fE h.Kernel (nth h.Objs i).Addr)) ((nth h.Objs i).Addr % 16).toNat k) (i:=((nth h.Objs i).Addr % 16+k).toNat) (by rw[nK,s4];omega)
  repeat'(first|refine gD ?_|(conv=>whnf);first|refine C9 ?_|refine CK (by decide) ?_|refine CQ T ?_|refine C6 (H) ?_|refine CJ s2.1 (aa p) ?_|refine CF rfl (aa p) rfl ?_|refine CJ ω (aa J) ?_|refine Pu.two rfl rfl (aa p) rfl rfl rfl (aa J) rfl (R2 _) (Be h _ k _ b.1) ?_)
  ((conv=>whnf);refine CB (k+1) ω ω ?_;(exact wB))
 ·obtain rfl:k=(csz (aN (nth h.Objs i).Size)).toNat:=ω
  have c5:=lU {h with Kernel:=fG h.Kernel (nth h.Objs i).Addr (csz (aN (nth h.Objs i).Size)).toNat} i l (by show h.Objs.length<=_;omega);have j:=a.nums;unfold cm at j;rw[C0]at j;have K:=(a.dropO l (iR.any (c:=aN (nth h.Objs i).Size) (by obtain⟨⟨s,hs,k1,k2⟩,-⟩:=(eP a (am l)).2 w;exact⟨s,hs,k1,.inr k2⟩))).nd;rw[List.cons_append,List.nil_append]at K;have c6:=ze h.Quar (kF h (nth h.Objs i)) (by have:=d.quar;omega) a.quar ⟨S.1,S.2,b.1,j.2.2.1⟩ (λy U=>a.snc y U) (λy U e=>(List.nodup_cons.1 K).1 (by rw[show(nth h.Objs i).Addr=y.Addr from e.symm];unfold holders;simp only[Q2];exact .inl (.inr (V3.2 ⟨y,U,rfl⟩))));unfold ML at c6;have V:(yH h.Quar (kF h (nth h.Objs i))).length<=513:=by have:=d.quar;unfold yH;rw[I1,W2];simp only[List.length_singleton];omega
  repeat'(first|refine gA ?_|(conv=>whnf);first|with_reducible refine Bf.D (λn=>?_) (λn=>?_)|refine C9 ?_|refine C6 (H) ?_|refine CG (c5) (.inl rfl) ?_|refine CE (c6) ⟨⟨rfl,bC.enc_fz h.Quar⟩,⟨rfl,rfl⟩,trivial⟩ ?_|refine C9 ?_)
  have W:JW h t i=recycs t (inQuar h i) ((yH h.Quar (kF h (nth h.Objs i))).map (·.Addr)):=rfl;simp only;rw[W];have hqn:(inQuar h i).Caches.length=h.Caches.length:=rfl;generalize yH h.Quar (kF h (nth h.Objs i))=out at g V
  (conv=>whnf)
  refine CC (ι:=Nat) (λk=>[(0,.hold .box (bv (recycs t (inQuar h i) ((out.take k).map (·.Addr))))),(1,.hold .one [I ((t:Nat):Int)]),(15,.hold .one (cC .own out)),(16,.hold .one [I ((k:Nat):Int)])]) (λk=>k<=out.length) (λk=>out.length - k) (0) ?_ (R0 _) λk hk=>?_
  ·exact wB
  by_cases O:k<out.length
  ·have L:=ah O
   have X:out.map (·.Addr)=(out.take k).map (·.Addr)++(nth out k).Addr::(out.drop (k+1)).map (·.Addr):=by
    conv=>lhs;rw[<-List.take_append_drop k out,gU O]
    simp
   have Y:bm (recycs t (inQuar h i) ((out.take k).map (·.Addr))) ((nth out k).Addr::(out.drop (k+1)).map (·.Addr)):=bm.recycs (by rw[<-X];exact g) E;have c7:=m7 _ _ t _ Y (by rw[(fL t _ _).1];exact E)
   repeat'(first|refine gD ?_|(conv=>whnf);first|refine C9 ?_|refine CA (aa L) ?_|refine CF rfl (aa L) rfl ?_|refine CG (c7) (.inl rfl) ?_)
   ((conv=>whnf);refine CB (k+1) ω ω ?_)
   rw[B7 t _ out k O];exact wB
  ·obtain rfl:k=out.length:=ω
   rw[O4]
   repeat'(first|refine gD ?_|(conv=>whnf);first|refine C9 ?_)
   refine CD rfl rfl ?_;exact wB
def oE(rows:List (List C)):C:=match rows with|[]=>.s .imm []|_=>.s .own rows
theorem M2{rows:List (List C)}(h:rows≠[]):oE rows=.s .own rows:=by cases rows with|nil=>exact absurd rfl h|cons=>rfl
theorem yO{P:Program}(w:World)(t e k:Nat)(z:Value)(p:P.underlying t=some (.slice e))(d:∀w,(zeroValue e).run P w=.ok z w)(q:z.cells.size=k)(h1:∀v∈z.cells.toList,v.oneCell'=true)(b o n:Nat)(u:0<n)(i:0<k)(r:∀j,j<n*k->(w.cell? ⟨b,o+j,none⟩).isSome=true)(y:∀j,j<n*k->w.frozen? ⟨b,o+j,none⟩ = false) :
  ∃zs:List Value,zs.length=n*k/\(∀v∈zs,v.oneCell'=true)/\∀(ty:TypeId)(c:Nat),(Builtin.clear_ #[t] ty #[.slice (some ⟨b,o,none⟩) n c]).run P w=.ok (.tuple #[]) (w.setCells b o zs):=by
 subst q;have f:(Builtin.zeroCells z.cells n).toList.length=n*z.cells.size:=by simp[Builtin.zeroCells]
 have a:∀v∈(Builtin.zeroCells z.cells n).toList,v.oneCell'=true:=by
  intro v d;rw[Array.mem_toList_iff]at d;simp only[Builtin.zeroCells,Array.mem_map,Array.mem_range]at d;obtain⟨j,l,rfl⟩:=d;have g:j % z.cells.size<z.cells.size:=Nat.mod_lt _ i;rw[getElem!_pos z.cells (j % z.cells.size) g];exact h1 _ (Array.mem_toList_iff.2 (Array.getElem_mem g))
 refine⟨_,f,a,λty c=>?_⟩;have h:=run_storeCells_cells (P:=P) b o (Builtin.zeroCells z.cells n).toList 0 w (λj l=>by simpa using r j ω) (λj l=>by simp) a;simp only[Nat.add_zero]at h;obtain⟨m,rfl⟩ : ∃m,n=m+1:=⟨n - 1,ω⟩
 simp[Builtin.clear_,run_underlying p,d,h]
structure HM(w w':World)(g k n i:Nat):Prop where
 keep:bz (λb o=>b=g/\o<n*k) w w'
 lo:∀q,q<i*k->cel w' g q=cel w g q
 mid:∀q,i*k<=q->q<(n - 1)*k->cel w' g q=cel w g (q+k)
 hi:∀q,(n - 1)*k<=q->q<n*k->∃z,cel w' g q=some z/\z.oneCell'=true
 fro:∀b q,fro w' b q=fro w b q
theorem bz.up{M a:ac}{w c:World}(h:bz M w c)(d:∀b o,M b o->a b o):bz a w c:=(CT a w).trans h λb o e=>.inr (d b o e)
theorem Ey(w:World):bz NO w w.drew:=⟨rfl,rfl,rfl,R2 _,λ_ _ _=>rfl,λ_ _ _ _=>rfl,λ_ _ _ _=>rfl⟩
theorem GR{w:World}{g k n i:Nat}{news zs:List Value}(B:i<n)(a:∀q,q<n*k->∃z,cel w g q=some z)(H:news.length=(n - (i+1))*k)(d:∀t u,news[t]? = some u->cel w g ((i+1)*k+t)=some u)(J:zs.length=k)(l:∀v∈zs,v.oneCell'=true) :
  HM w ((w.drew.setCells g (i*k) news).setCells g ((n - 1)*k) zs) g k n i:=by
 have K:i*k+(n - (i+1))*k=(n - 1)*k:=by rw[<-Nat.add_mul];congr 1;omega
 have L:(n - 1)*k+k=n*k:=by rw[show(n - 1)*k+k=(n - 1+1)*k by rw[Nat.add_mul,Nat.one_mul]];congr 1;omega
 have M:(i+1)*k=i*k+k:=by rw[Nat.add_mul,Nat.one_mul]
 have r:∀b q,cel w.drew b q=cel w b q:=λ_ _=>rfl
 have c:∀j,j<news.length->∃z,cel w.drew g (i*k+j)=some z:=λj p=>by rw[r];exact a _ ω
 have C:∀q,q<n*k->∃z,cel (w.drew.setCells g (i*k) news) g q=some z:=λq y=>by
  by_cases h:i*k<=q/\q<i*k+news.length
  ·have:=cS c (U1 (show q - i*k<news.length by omega))
   rw[show i*k+(q - i*k)=q by omega]at this;exact⟨_,this⟩
  ·rw[bO (λx=>h x.2),r];exact a q y
 refine⟨?_,λq y=>?_,λq D E=>?_,λq D E=>?_,λb q=>?_⟩
 ·have F:=gZ (g:=g) (X:=λb o=>b=g/\o<n*k) news (i*k) w.drew λj p=>⟨rfl,ω⟩
  have G:=gZ (g:=g) (X:=λb o=>b=g/\o<n*k) zs ((n - 1)*k) (w.drew.setCells g (i*k) news) λj p=>⟨rfl,ω⟩
  exact((Ey w).up λ_ _ h=>h.elim).trans (F.trans G λ_ _ h=>.inr h) λ_ _ h=>.inr h
 ·rw[bO ω,bO ω];rfl
 ·rw[bO ω]
  obtain⟨u,e⟩ : ∃u,news[q - i*k]? = some u:=⟨_,U1 ω⟩
  have f:=cS c e;have A:=d _ u e;rw[show i*k+(q - i*k)=q by omega]at f;rw[show(i+1)*k+(q - i*k)=q+k by omega]at A;rw[f,A]
 ·obtain⟨u,e⟩ : ∃u,zs[q - (n - 1)*k]? = some u:=⟨_,U1 ω⟩
  have f:=cS (w:=w.drew.setCells g (i*k) news) (o:=(n - 1)*k) (vs:=zs) (λj p=>C _ ω) e;rw[show(n - 1)*k+(q - (n - 1)*k)=q by omega]at f;exact⟨u,f,l u (Q1 e)⟩
 ·rw[cy,cy];rfl
def Pw(rows:List (List C)):Prop:=∀r∈rows,∀c∈r,∃z,c=.v z
def yI(P:Program)(f k:Nat):Prop:=FX P f/\∀(w:World)(g n a i:Nat)(news:List Value),i<n->n<=a->news.length=(n - (i+1))*k->(∀t u,news[t]? = some u->cel w g ((i+1)*k+t)=some u)->(∀u∈news,u.oneCell'=true)->
 (∀q,q<n*k->(w.cell? ⟨g,q,none⟩).isSome=true/\w.frozen? ⟨g,q,none⟩ = false)->
 Calls P f #[.slice (some ⟨g,0,none⟩) n a,.int .i64 i,.int .i64 ((i+1:Nat):Int)] w λe c=>e=.returned (.slice (some ⟨g,0,none⟩) (n - 1) a)/\∃b:List Value,b.length=k/\(∀v∈b,v.oneCell'=true)/\c=(w.drew.setCells g (i*k) news).setCells g ((n - 1)*k) b
theorem M9{P:Program}{f k:Nat}(hf:yI P f k){rows:List (List C)}{i:Nat}(hi:i<rows.length)(hk:∀r∈rows,r.length=k)(hsc:Pw rows) :
  aO P f false [.mut none [.s .own rows],.val none [I (i:Nat)],.val none [I ((i+1:Nat):Int)]] [.mut none [.x],.val none [I (i:Nat)],.val none [I ((i+1:Nat):Int)]] .one [oE (dele rows i)]:=by
 refine⟨hf.1,λw S V vs hS hV hVV hA=>?_⟩
 match vs,hA with
 | [v,v1,v2],⟨hA,hA1,hA2,_⟩=>
  have L:=bD.rep1 (show bD w S (V 0) none [C.s .own rows] v from hA);have e1:v1=.int .i64 (i:Nat):=by
   have:=bD.rep1 (show bD w S NO none [C.v (.int .i64 (i:Nat))] v1 from hA1);cases this;rfl
  have e2:v2=.int .i64 ((i+1:Nat):Int):=by
   have:=bD.rep1 (show bD w S NO none [C.v (.int .i64 ((i+1:Nat):Int))] v2 from hA2);cases this;rfl
  subst e1 e2;have G:(dele rows i).length=rows.length - 1:=by unfold dele;simp;omega
  generalize O:C.s .own rows=cc at L;cases L with
  | nil _ o a ho=>cases O;simp at hi
  | own _ o g d n p rows' u f' ho hn H M hpos hF hu hff hd hc=>
   cases O;have hkk:d=k:=by rw[<-H _ (List.getElem_mem hi),<-hk _ (List.getElem_mem hi)]
   subst hkk;have N:∀a b r c,rows[a]? = some r->r[b]? = some c->∃z,c=.v z/\cel w g (a*d+b)=some z:=λa b r c D Q=>by
    obtain⟨z,rfl⟩:=hsc r (Q1 D) c (Q1 Q);have E:=hc a b r _ D Q;have J:=zx hn H D Q;have Z:=hu (a*d+b) (ek J.1 J.2);generalize u (a*d+b)=y at E Z;cases E;exact⟨_,rfl,Z⟩
   have hnk:n*d<=p*d:=V5 _ M;have j:∀q,q<p*d->∃z,cel w g q=some z/\z.oneCell'=true:=λq A=>(hF q A).2.1
   have e3:(i+1)*d+(n - (i+1))*d=n*d:=by rw[<-Nat.add_mul];congr 1;omega
   obtain⟨news,hnl,hnw,hn1⟩ : ∃news:List Value,news.length=(n - (i+1))*d/\(∀t u,news[t]? = some u->cel w g ((i+1)*d+t)=some u)/\∀u∈news,u.oneCell'=true:=by
    refine⟨(List.range ((n - (i+1))*d)).map λt=>(cel w g ((i+1)*d+t)).getD undef,by simp,λt y Y=>?_,λy hy=>?_⟩
    ·have hl:=(V1.1 Y).1
     simp only[W0,List.length_range]at hl;rw[U2,Q5 hl]at Y;obtain⟨z,l,-⟩:=j ((i+1)*d+t) ω;rw[Q4,l]at Y;rw[l];simpa using Y
    ·obtain⟨t,Y,rfl⟩:=V3.1 hy
     have hl:=List.mem_range.1 Y;obtain⟨z,l,F⟩:=j ((i+1)*d+t) ω;rw[l];exact F
   refine(hf.2 w g n p i news ω M hnl hnw hn1 (λq A=>?_)).mono λe w' ⟨he,zs,z1,z2,hw'⟩=>?_
   ·obtain⟨a1,⟨z,a2,a3⟩,a4⟩:=hF q ω
    exact⟨by show(cel w g q).isSome=true;rw[a2];rfl,T0 Prod.fst a4⟩
   have K:=GR (w:=w) (by omega:i<n) (λq A=>by obtain⟨z,l,-⟩:=j q ω;exact⟨z,l⟩) hnl hnw z1 z2;rw[<-hw']at K;have R:∀q,q<p*d->V 0 g q:=λq A=>(hF q A).1
   have T:bz (λb o=>∃i,V i b o) w w':=K.keep.up λb o ⟨E,Z⟩=>⟨0,by rw[E];exact R o ω⟩
   have e4:(n - 1)*d+d=n*d:=by rw[show(n - 1)*d+d=(n - 1+1)*d by rw[Nat.add_mul,Nat.one_mul]];congr 1;omega
   have B:∀q,q<p*d->∃z,cel w' g q=some z/\z.oneCell'=true:=λq A=>by
    by_cases E:q<i*d
    ·rw[K.lo q E];exact j q A
    by_cases Z:q<(n - 1)*d
    ·rw[K.mid q ω Z];exact j _ ω
    by_cases h3:q<n*d
    ·exact K.hi q ω h3
    ·have J:=(hV 0 g q (R q A)).1
     rw[K.keep.cel g q J (λx=>h3 x.2)];exact j q A
   have hrow:cG w' NO (V 0) [oE (dele rows i)] (λ_=>.slice (some ⟨g,0,none⟩) (n - 1) p):=by
    refine row1 ?_;by_cases l:dele rows i=[]
    ·rw[l]
     have hn0:n - 1=0:=by rw[l]at G;simp at G;omega
     rw[hn0];exact .imm _ g 0 d 0 p [] (λ_=>undef) rfl (λr hr=>by cases hr) (R0 _) (λq A=>ω) (λa b r c D=>by simp at D)
    ·rw[M2 l]
     have U:0<n - 1:=by
      have:=List.length_pos_iff.2 l;omega
     refine .own _ .own g d (n - 1) p _ (λq=>(cel w' g q).getD undef) (λ_=>NO) trivial (by rw[G];omega) (λr hr=>H r ((dY ..).subset hr)) ω U (λq A=>⟨R q A,B q A,(K.fro g q).trans (hF q A).2.2⟩) (λq A=>?_) (λ_ _ _ _ h=>h.elim) (λ_ _ _ _ _ _ _ h=>h.elim) (λa b r c D Q=>?_)
     ·obtain⟨z,l,-⟩:=B q ω
      rw[l];rfl
     ·have hbk:b<d:=by
       have:=H r ((dY ..).subset (Q1 D));rw[<-this];exact(V1.1 Q).1
      have hal:=(V1.1 D).1;rw[G]at hal;have hal2:a<n - 1:=ω
      have W:a*d+b<(n - 1)*d:=ek hal2 hbk;have X:∃z,c=.v z/\cel w' g (a*d+b)=some z:=by
       unfold dele at D;by_cases E:a<i
       ·rw[X3 (by rw[I1];omega),List.getElem?_take,C8 E]at D
        obtain⟨z,l,F⟩:=N a b r c D Q;refine⟨z,l,?_⟩;rw[K.lo _ (ek E hbk)];exact F
       ·rw[Y3 (by rw[I1];omega),I1,List.getElem?_drop]at D
        rw[show i+1+(a - min i rows.length)=a+1 by omega]at D;obtain⟨z,l,F⟩:=N (a+1) b r c D Q;refine⟨z,l,?_⟩;have:i*d<=a*d:=V5 _ ω;rw[K.mid _ ω W,<-F]
        congr 1
        rw[Nat.add_mul,Nat.one_mul];omega
      obtain⟨z,rfl,l⟩:=X;simp only[l,Option.getD_some];exact .v _ _ (by obtain⟨z',hz',E⟩:=B (a*d+b) ω;rw[l]at hz';cases hz';exact E)
   exact⟨_,he,T,V 0,λ_=>NO,NO,λb o h=>.inl ⟨0,h⟩,λ_ _ _ h=>h.elim,λ_ _ h=>h.elim,λ_ _ _ _ _ h=>h.elim,λ_ _ _ _ h=>h.elim,λ_ _ _ h=>h.elim,λ_ _ _ h=>h.elim,rfl,hrow,⟨⟨rfl,λ_=>.slice (some ⟨g,0,none⟩) n p,rfl,row1 (.x _ _ rfl)⟩,trivial,trivial,trivial⟩⟩
  | _=>cases O
set_option maxRecDepth 100000
theorem zo{w:World}{g n cap i k:Nat}{news:List Value}(c:news.length=(n - (i+1))*k)(b:n<=cap)(d:i<n)(h:∀t u,news[t]? = some u->cel w g ((i+1)*k+t)=some u):∃A:Addr,(if cap=i+1 then some (⟨g,0,none⟩ : Addr) else some ⟨g,(i+1)*k,none⟩)=some A/\∀t u,news[t]? = some u->w.drew.cell? (A.add t)=some u:=by
 by_cases e:cap=i+1
 ·refine⟨⟨g,0,none⟩,by simp[e],λt u a=>?_⟩
  have f:news.length=0:=by rw[c,show n - (i+1)=0 by omega,Nat.zero_mul]
  rw[List.length_eq_zero_iff.1 f]at a;simp at a
 ·refine⟨⟨g,(i+1)*k,none⟩,by simp[e],λt u a=>?_⟩
  rw[Addr.add_lit];exact h t u a
theorem J2:∀w,(zeroValue 71).run Tryz.prog w=.ok (.agg #[.int .i64 0,.int .i64 0,.int .i64 0,.int .i64 0]) w:=λ_=>by kernel_rfl
theorem MM:yI Tryz.prog 131 4:=by
 refine⟨⟨_,Tryz.func131,by kernel_rfl,by kernel_rfl⟩,λw g n c i news r y o B C b=>?_⟩;obtain⟨A,X,a⟩:=zo o y r B;have a:Hid (∀t u,news[t]? = some u->w.drew.cell? (A.add t)=some u):=a;have T:Hid (news.length=(n - (i+1))*4):=o;have Y:Hid (∀u∈news,u.oneCell'=true):=C;have Z:Hid (∀t,t<news.length->(w.drew.cell? ⟨g,0+i*4+t,none⟩).isSome=true/\w.drew.frozen? ⟨g,0+i*4+t,none⟩ = false):=λt ht=>by
  rw[R5];exact b (i*4+t) ω
 obtain⟨p,d⟩ : ∃p,p=w.drew.setCells g (0+i*4) news:=⟨_,rfl⟩
 have K:∀q,q<n*4->(p.cell? ⟨g,q,none⟩).isSome=true/\p.frozen? ⟨g,q,none⟩ = false:=λq U=>by
  have D:∀j,j<news.length->∃z,cel w.drew g (0+i*4+j)=some z:=λj L=>by
   have:=(b (0+i*4+j) ω).1;exact Option.isSome_iff_exists.1 this
  refine⟨?_,by rw[d];exact(T0 Prod.fst (cy g _ news w.drew g q)).trans (b q U).2⟩;rw[d];by_cases h:0+i*4<=q/\q<0+i*4+news.length
  ·have:=cS D (U1 (show q - (0+i*4)<news.length by omega))
   rw[show 0+i*4+(q - (0+i*4))=q by omega]at this;show(cel _ g q).isSome=true;rw[this];rfl
  ·show(cel _ g q).isSome=true
   rw[bO (λx=>h x.2)];exact(b q U).1
 obtain⟨M,E,F,G⟩:=yO (P:=Tryz.prog) p 39 71 4 (.agg #[.int .i64 0,.int .i64 0,.int .i64 0,.int .i64 0]) Tryz.underlying39 J2 rfl (by intro v V;simp[Value.cells]at V;subst V;rfl) g ((i+(n - (i+1)))*4) (n - (i+(n - (i+1)))) ω (by decide) (λj L=>(K _ ω).1) (λj L=>(K _ ω).2);have k:Hid (M.length=(n - (i+(n - (i+1))))*4):=E;have H:Hid (∀v∈M,v.oneCell'=true):=F;have W:Hid (p=w.drew.setCells g (0+i*4) news):=d;have hic:i<=c:=ω
 have N:i+1<=c:=ω
 have O:¬i=i+1:=ω
 have Q:i+1<=n:=r;have l:n - 1=i+(n - (i+1)):=ω
 clear d K b B C o E F;rw[l];generalize L:i+1=j at X a T G k N O Q l |-;obtain⟨J,R,S⟩ : ∃J,Tryz.prog.info? 71=some J/\J.size=4:=by
  have h:=(qx 71 _ rfl).1;cases e : Tryz.prog.info? 71 with
  | none=>rw[e]at h;cases h
  | some x=>rw[e]at h;simp only[Q4,U0,Prod.mk.injEq]at h;exact⟨x,rfl,h.2.1⟩
 have mixed : Tryz.prog.follows .mixedOrders=true:=by kernel_rfl
 go_enter Tryz.func131,Tryz.ntmps131
 go_wp2_with fail
 go_region_law_o (refine step_append_room rfl (.tmp 22) (.tmp 25) 39 rfl 71 J 4 Tryz.underlying39 R S g 0 i c (by simp[Act.eval,Act.put]) A (n - j) (c - j) news (by simp[Act.eval,Act.put]) T.out a.out Y.out ω Z.out ?_;rw[<-W.out])
 go_wp2
 go_ret
 refine⟨rfl,M,by have:=k.out;omega,H.out,?_⟩;rw[W.out,R5]
theorem Ea:∀w,(zeroValue 173).run Tryz.prog w=.ok (.agg #[.int .i64 0,.int .i64 0,.int .i64 0]) w:=λ_=>by kernel_rfl
theorem KV:yI Tryz.prog 134 3:=by
 refine⟨⟨_,Tryz.func134,by kernel_rfl,by kernel_rfl⟩,λw g n c i news r y o B C b=>?_⟩;obtain⟨A,X,a⟩:=zo o y r B;have a:Hid (∀t u,news[t]? = some u->w.drew.cell? (A.add t)=some u):=a;have T:Hid (news.length=(n - (i+1))*3):=o;have Y:Hid (∀u∈news,u.oneCell'=true):=C;have Z:Hid (∀t,t<news.length->(w.drew.cell? ⟨g,0+i*3+t,none⟩).isSome=true/\w.drew.frozen? ⟨g,0+i*3+t,none⟩ = false):=λt ht=>by
  rw[R5];exact b (i*3+t) ω
 obtain⟨p,d⟩ : ∃p,p=w.drew.setCells g (0+i*3) news:=⟨_,rfl⟩
 have K:∀q,q<n*3->(p.cell? ⟨g,q,none⟩).isSome=true/\p.frozen? ⟨g,q,none⟩ = false:=λq U=>by
  have D:∀j,j<news.length->∃z,cel w.drew g (0+i*3+j)=some z:=λj L=>by
   have:=(b (0+i*3+j) ω).1;exact Option.isSome_iff_exists.1 this
  refine⟨?_,by rw[d];exact(T0 Prod.fst (cy g _ news w.drew g q)).trans (b q U).2⟩;rw[d];by_cases h:0+i*3<=q/\q<0+i*3+news.length
  ·have:=cS D (U1 (show q - (0+i*3)<news.length by omega))
   rw[show 0+i*3+(q - (0+i*3))=q by omega]at this;show(cel _ g q).isSome=true;rw[this];rfl
  ·show(cel _ g q).isSome=true
   rw[bO (λx=>h x.2)];exact(b q U).1
 obtain⟨M,E,F,G⟩:=yO (P:=Tryz.prog) p 38 173 3 (.agg #[.int .i64 0,.int .i64 0,.int .i64 0]) Tryz.underlying38 Ea rfl (by intro v V;simp[Value.cells]at V;subst V;rfl) g ((i+(n - (i+1)))*3) (n - (i+(n - (i+1)))) ω (by decide) (λj L=>(K _ ω).1) (λj L=>(K _ ω).2);have k:Hid (M.length=(n - (i+(n - (i+1))))*3):=E;have H:Hid (∀v∈M,v.oneCell'=true):=F;have W:Hid (p=w.drew.setCells g (0+i*3) news):=d;have hic:i<=c:=ω
 have N:i+1<=c:=ω
 have O:¬i=i+1:=ω
 have Q:i+1<=n:=r;have l:n - 1=i+(n - (i+1)):=ω
 clear d K b B C o E F;rw[l];generalize L:i+1=j at X a T G k N O Q l |-;obtain⟨J,R,S⟩ : ∃J,Tryz.prog.info? 173=some J/\J.size=3:=by
  have h:=(qx 173 _ rfl).1;cases e : Tryz.prog.info? 173 with
  | none=>rw[e]at h;cases h
  | some x=>rw[e]at h;simp only[Q4,U0,Prod.mk.injEq]at h;exact⟨x,rfl,h.2.1⟩
 have mixed : Tryz.prog.follows .mixedOrders=true:=by kernel_rfl
 go_enter Tryz.func134,Tryz.ntmps134
 go_wp2_with fail
 go_region_law_o (refine step_append_room rfl (.tmp 22) (.tmp 25) 38 rfl 173 J 3 Tryz.underlying38 R S g 0 i c (by simp[Act.eval,Act.put]) A (n - j) (c - j) news (by simp[Act.eval,Act.put]) T.out a.out Y.out ω Z.out ?_;rw[<-W.out])
 go_wp2
 go_ret
 refine⟨rfl,M,by have:=k.out;omega,H.out,?_⟩;rw[W.out,R5]
theorem Gd:∀w,(zeroValue 75).run Tryz.prog w=.ok (.agg #[.int .i64 0,.int .i64 0,.int .i64 0]) w:=λ_=>by kernel_rfl
theorem Bp:yI Tryz.prog 188 3:=by
 refine⟨⟨_,Tryz.func188,by kernel_rfl,by kernel_rfl⟩,λw g n c i news r y o B C b=>?_⟩;obtain⟨A,X,a⟩:=zo o y r B;have a:Hid (∀t u,news[t]? = some u->w.drew.cell? (A.add t)=some u):=a;have T:Hid (news.length=(n - (i+1))*3):=o;have Y:Hid (∀u∈news,u.oneCell'=true):=C;have Z:Hid (∀t,t<news.length->(w.drew.cell? ⟨g,0+i*3+t,none⟩).isSome=true/\w.drew.frozen? ⟨g,0+i*3+t,none⟩ = false):=λt ht=>by
  rw[R5];exact b (i*3+t) ω
 obtain⟨p,d⟩ : ∃p,p=w.drew.setCells g (0+i*3) news:=⟨_,rfl⟩
 have K:∀q,q<n*3->(p.cell? ⟨g,q,none⟩).isSome=true/\p.frozen? ⟨g,q,none⟩ = false:=λq U=>by
  have D:∀j,j<news.length->∃z,cel w.drew g (0+i*3+j)=some z:=λj L=>by
   have:=(b (0+i*3+j) ω).1;exact Option.isSome_iff_exists.1 this
  refine⟨?_,by rw[d];exact(T0 Prod.fst (cy g _ news w.drew g q)).trans (b q U).2⟩;rw[d];by_cases h:0+i*3<=q/\q<0+i*3+news.length
  ·have:=cS D (U1 (show q - (0+i*3)<news.length by omega))
   rw[show 0+i*3+(q - (0+i*3))=q by omega]at this;show(cel _ g q).isSome=true;rw[this];rfl
  ·show(cel _ g q).isSome=true
   rw[bO (λx=>h x.2)];exact(b q U).1
 obtain⟨M,E,F,G⟩:=yO (P:=Tryz.prog) p 37 75 3 (.agg #[.int .i64 0,.int .i64 0,.int .i64 0]) Tryz.underlying37 Gd rfl (by intro v V;simp[Value.cells]at V;subst V;rfl) g ((i+(n - (i+1)))*3) (n - (i+(n - (i+1)))) ω (by decide) (λj L=>(K _ ω).1) (λj L=>(K _ ω).2);have k:Hid (M.length=(n - (i+(n - (i+1))))*3):=E;have H:Hid (∀v∈M,v.oneCell'=true):=F;have W:Hid (p=w.drew.setCells g (0+i*3) news):=d;have hic:i<=c:=ω
 have N:i+1<=c:=ω
 have O:¬i=i+1:=ω
 have Q:i+1<=n:=r;have l:n - 1=i+(n - (i+1)):=ω
 clear d K b B C o E F;rw[l];generalize L:i+1=j at X a T G k N O Q l |-;obtain⟨J,R,S⟩ : ∃J,Tryz.prog.info? 75=some J/\J.size=3:=by
  have h:=(qx 75 _ rfl).1;cases e : Tryz.prog.info? 75 with
  | none=>rw[e]at h;cases h
  | some x=>rw[e]at h;simp only[Q4,U0,Prod.mk.injEq]at h;exact⟨x,rfl,h.2.1⟩
 have mixed : Tryz.prog.follows .mixedOrders=true:=by kernel_rfl
 go_enter Tryz.func188,Tryz.ntmps188
 go_wp2_with fail
 go_region_law_o (refine step_append_room rfl (.tmp 22) (.tmp 25) 37 rfl 75 J 3 Tryz.underlying37 R S g 0 i c (by simp[Act.eval,Act.put]) A (n - j) (c - j) news (by simp[Act.eval,Act.put]) T.out a.out Y.out ω Z.out ?_;rw[<-W.out])
 go_wp2
 go_ret
 refine⟨rfl,M,by have:=k.out;omega,H.out,?_⟩;rw[W.out,R5]
theorem AF(xs:List au):Pw (xs.map (au.enc .own)):=λr b c a=>by
 obtain⟨s,-,rfl⟩:=V3.1 b;simp[au.enc]at a;rcases a with rfl|rfl|rfl<;>exact⟨_,rfl⟩
theorem B4(xs:List au)(i:Nat)(a:i<xs.length):aO Tryz.prog 188 false [.mut none [.s .own (xs.map (au.enc .own))],.val none [I (i:Nat)],.val none [I ((i+1:Nat):Int)]] [.mut none [.x],.val none [I (i:Nat)],.val none [I ((i+1:Nat):Int)]] .one [oE ((dele xs i).map (au.enc .own))]:=by
 have h:=M9 Bp (rows:=xs.map (au.enc .own)) (i:=i) (by rw[W0];exact a) (aL λ_=>rfl) (AF xs)
 rwa [show dele (xs.map (au.enc .own)) i=(dele xs i).map (au.enc .own) by simp[dele,T3,U3]]at h
theorem He(h:ab)(p:Int):ao Tryz.prog 104 false [.val (some 24) (ab.enc .imm h),.val none [I p]] .one [B (dZ h p)]:=by
 cases e:h.Meshing
 all_goals
  have b:ab.enc .imm h=(ab.enc .imm h).set 18 (B h.Meshing):=rfl;rw[e]at b;rw[b];refine fO 23 [] Tryz.func104 rfl ?_
  repeat'(first|refine gO ?_|(conv=>whnf);first|with_reducible (first|refine Bf.D (λa=>?_) (λa=>?_)|refine Bf.E (λa=>?_) (λa=>?_)|refine Bf.N (λa=>?_) (λa=>?_))|refine C9 ?_)
  all_goals exact T0 (λz=>[B z]) ((by unfold dZ;rw[e];first|(simp[*];done)|(simp[*];rw[t4];simp;try omega)|(rw[t4];simp[*];try omega)))
theorem zv(h:ab):ao Tryz.prog 66 false [.val (some 24) (ab.enc .imm h)] .one [I (dE h:Nat)]:=by
 refine fO 9 [] Tryz.func66 rfl ?_
 repeat'(first|refine gO ?_|(conv=>whnf);first|refine C9 ?_)
 rfl
theorem dG(c:C):Lb c c:=(kR [c]).1
def cE(h:ab)(s l o:C):List C:=[.s .own (h.Kernel.Machine.Frames.Cells.map (aF .own)),.s .own (h.Kernel.Machine.Frames.Used.map (rB .own)),.s .own (h.Kernel.Machine.Table.Entries.map (bh.enc .own)),I h.Kernel.Calls,.s .own (h.Kernel.Refuse.map (rI .own)),.s .own (h.Free.map (ax.enc .own)),s,l,o,.s .own (h.Caches.map (aB.enc .own)),.s .own (h.Mail.Buffers.map (cu .own)),.s .own (h.Mail.Inbox.map (aF .own)),I h.Quar.Room,.s .own (h.Quar.Lst.map (aK.enc .own)),I h.Seed,I h.Clock,I h.Limit,I h.Next,B h.Meshing,I h.Job.Plan.Keep,I h.Job.Plan.Move,.s .own (h.Job.Plan.Cells.map (rI .own)),I h.Job.Phase,I h.Job.Next]
def oS(h:ab):C:=oE (h.Spans.map (au.enc .own))
def oL(h:ab):C:=oE (h.Larges.map (a8.enc .own))
def oO(h:ab):C:=oE (h.Objs.map (bH.enc .own))
def ot(h:ab):List C:=cE h (oS h) (oL h) (oO h)
theorem Jl(rows:List (List C)):fz (oE rows)=fz (.s .own rows):=by cases rows<;>rfl
theorem NG{rows:List (List C)} : oE rows=.s .own rows\/(rows=[]/\oE rows=.s .imm []):=by cases rows with|nil=>exact .inr ⟨rfl,rfl⟩|cons=>exact .inl rfl
theorem NT(h:ab){s l o:C}(a:fz s=.s .imm (h.Spans.map (au.enc .imm)))(b:fz l=.s .imm (h.Larges.map (a8.enc .imm)))(c:fz o=.s .imm (h.Objs.map (bH.enc .imm))):d2 (cE h s l o)=ab.enc .imm h:=by
 have d:=ab.enc_fz h;have e:d2 (cE h s l o)=(((d2 (ab.enc .own h)).set 6 (fz s)).set 7 (fz l)).set 8 (fz o):=rfl;rw[e,d,a,b,c];rfl
theorem NW(h:ab):fz (oS h)=.s .imm (h.Spans.map (au.enc .imm)):=(Jl _).trans (uy _)
theorem NM(h:ab):fz (oL h)=.s .imm (h.Larges.map (a8.enc .imm)):=(Jl _).trans (rF _)
theorem NQ(h:ab):fz (oO h)=.s .imm (h.Objs.map (bH.enc .imm)):=(Jl _).trans (t6 _)
theorem EY(h:ab):d2 (ot h)=ab.enc .imm h:=NT h (NW h) (NM h) (NQ h)
theorem DK{rows:List (List C)}(h:M6 rows):Nr (oE rows):=by cases rows with|nil=>exact⟨.inr rfl,trivial⟩|cons r a=>exact⟨.inl λe=>(by cases e),h⟩
theorem tG(h:ab):gg (ot h):=by
 have a:=ab.enc_fr h;simp only[ab.enc,gg]at a;unfold ot cE;simp only[gg];refine⟨a.1,a.2.1,a.2.2.1,a.2.2.2.1,a.2.2.2.2.1,a.2.2.2.2.2.1,DK ?_,DK ?_,DK ?_,a.2.2.2.2.2.2.2.2.2⟩
 ·exact a.2.2.2.2.2.2.1.2
 ·exact a.2.2.2.2.2.2.2.1.2
 ·exact a.2.2.2.2.2.2.2.2.1.2
theorem EJ{w:World}{S Y:ac}{rows:List (List C)}{v:Value}(h:dK w S Y (.s .own rows) v):dK w S Y (oE rows) v:=by
 cases rows with
 | cons=>exact h
 | nil=>
  cases h with
  | nil _ o a d=>exact .nil _ .imm a trivial
  | own _ o g k n e rows u f d i j b c l p q r t=>simp at i;omega
theorem Ki{w:World}{S Y:ac}{h:ab}{u:Nat->Value}(d:cG w S Y (ab.enc .own h) u):cG w S Y (ot h) u:=by
 obtain⟨f,b,e,g⟩:=d;refine⟨f,λj c a=>?_,e,g⟩;have i:ot h=(((ab.enc .own h).set 6 (oS h)).set 7 (oL h)).set 8 (oO h):=rfl;rw[i]at a;by_cases k:j=8
 ·subst k
  have:c=oO h:=by simpa[ab.enc] using a.symm
  rw[this];exact EJ (b 8 _ rfl)
 by_cases l:j=7
 ·subst l
  have:c=oL h:=by simpa[ab.enc] using a.symm
  rw[this];exact EJ (b 7 _ rfl)
 by_cases n:j=6
 ·subst n
  have:c=oS h:=by simpa[ab.enc] using a.symm
  rw[this];exact EJ (b 6 _ rfl)
 ·rw[List.getElem?_set_ne ω,List.getElem?_set_ne ω,List.getElem?_set_ne ω]at a
  exact b j c a
theorem v8(h:ab)(a:ab.sml h):ao Tryz.prog 65 false [.val (some 24) (ab.enc .imm h)] .agg (ot h):=by
 obtain⟨b,c⟩:=w9 h a;refine⟨b,λw S d g i=>(c w S d g i).mono λe w1 j=>?_⟩;obtain⟨v,k,l,X,n,o,p,q,r,t⟩:=j;exact⟨v,k,l,X,n,o,p,q,r,Ki t⟩
theorem vQ(h:ab)(r:ax)(n:Nat)(a:aA h.Kernel=true)(e:h.Kernel.Calls≠100000)(b:h.Free.length<=1048576)(l:r.Len=n/\0<=r.At/\r.At<=1000/\n<=1000) :
  aO Tryz.prog 135 false [.ptr (ot h),.val (some 2) (ax.enc .imm r)] [.ptr (ot {h with Kernel:=dy h.Kernel r.At n,Free:=(bS (dE h) h.Free r).getD h.Free}),.val (some 2) (ax.enc .imm r)] (.tup []) []:=by
 have c:=a;have g:dE h<=32:=(bu.1 (aC.1 a).2.2.1).2.2;have d:=zv {h with Kernel:=dy h.Kernel r.At n};rw[show dE {h with Kernel:=dy h.Kernel r.At n} = dE h from(ew _ _ _).1]at d;have i:=wy (dE h:Nat) h.Free r ⟨ω,ω⟩ ⟨b,λ_ _=>trivial⟩;refine fM 44 [] [(5,272,[29,30,31,32,33,34,35,36,37,38,39,28,40,41,42,43,0,1,2,3,4,5,6,7,8,9,10,11,12,13,14,15,16,1013])] [(0,0),(0,0)] Tryz.func135 rfl (λu q=>?_) (.inr trivial)
 repeat'(first|refine gO ?_|(conv=>whnf);first|refine C9 ?_)
 (conv=>whnf)
 refine CC (ι:=Nat) (λk=>[(0,.hold .box (ot {h with Kernel:=dy h.Kernel r.At k})),(3,.hold .box (ax.enc .imm r)),(4,.hold .one [I ((r.At+k))])]) (λk=>k<=n) (λk=>n - k) (0) ?_ (R0 _) λk a=>?_
 ·exact wC
 by_cases o:k<n
 ·have j:=BK (dy h.Kernel r.At k) (r.At+k) (jo c _ _) (by rw[(ix _ _ _).1];exact e)
  repeat'(first|refine gD ?_|(conv=>whnf);first|refine C9 ?_|refine CE (j) ⟨⟨rfl,CN _⟩,⟨rfl,rfl⟩,trivial⟩ ?_)
  ((conv=>whnf);refine CB (k+1) ω ω ?_;(exact wC))
 ·obtain rfl:k=n:=ω
  repeat'(first|refine gD ?_|(conv=>whnf);first|refine C9 ?_|refine CE (d) ⟨⟨rfl,EY _⟩,trivial⟩ ?_|refine CE (i) ⟨⟨rfl,rfl⟩,⟨rfl,dz h.Free⟩,⟨rfl,rfl⟩,trivial⟩ ?_|refine C9 ?_)
  refine CD rfl rfl ?_;exact wC
theorem mV{c a:C}(h:a=c):Lb c a:=by subst h;exact dG _
theorem J8(k:af)(p:Int):dy k p 1=cb k p:=by show cb k (p+((0:Nat):Int))=_;rw[show p+((0:Nat):Int)=p by omega]
theorem LP{h:ab}(a:h.Spans≠[]):ot h=cE h (.s .own (h.Spans.map (au.enc .own))) (oL h) (oO h):=by
 unfold ot oS;rw[M2 λe=>a (List.map_eq_nil_iff.1 e)]
theorem Hw{α:Type}{xs:List α}{i:Nat}(h:i<xs.length):xs≠[]:=λe=>by subst e;cases h
theorem wU(h:ab)(i:Nat)(j:aA h.Kernel=true)(k:h.Kernel.Calls≠100000)(b:h.Free.length<=1048576)(c:i<h.Spans.length)(l:h.Spans.length<=1048576)(n:0<=(nth h.Spans i).Page/\(nth h.Spans i).Page<=31) :
  aO Tryz.prog 105 false [.ptr (ot h),.val none [I (i:Nat)]] [.ptr (ot (giveP h i)),.val none [I (i:Nat)]] (.tup []) []:=by
 have d:=ah c;have g:=B4 h.Spans i c;have a:=vQ {h with Spans:=dele h.Spans i} ⟨(nth h.Spans i).Page,1⟩ 1 j k b ⟨rfl,n.1,by show(nth h.Spans i).Page<=1000;omega,ω⟩;rw[show dy ({h with Spans:=dele h.Spans i} : ab).Kernel (ax.mk (nth h.Spans i).Page 1).At 1=cb h.Kernel (nth h.Spans i).Page from J8 _ _]at a;have o:ot {h with Spans:=dele h.Spans i} = cE h (oE ((dele h.Spans i).map (au.enc .own))) (oL h) (oO h):=rfl;rw[LP (Hw c)];rcases NG (rows:=(dele h.Spans i).map (au.enc .own)) with e|⟨-,e⟩
 all_goals
  rw[o]at a;rw[e]at g a;refine fM 28 [(188,[1,0,0]),(135,[2,0])] [] [(0,0),(0,0)] Tryz.func105 rfl (λu q=>?_) (.inr trivial)
  repeat'(first|refine gO ?_|(conv=>whnf);first|with_reducible refine CA (aa d) ?_|refine C9 ?_|refine CF rfl (aa d) rfl ?_|refine CG (g) (.inl rfl) ?_|refine CG (a) (.inl rfl) ?_)
  refine CD rfl rfl ?_;exact wB
def Gm(c:aB)(k:Nat):aB:=⟨c.Lists.set k []⟩
theorem KX(c:aB)(k:Nat):aB.enc .own (Gm c k)=[.s .own ((c.Lists.map (aF .own)).set k (aF .own []))]:=by simp[aB.enc,Gm,t5]
theorem HR(xs:List Int):([]:List Int).map (rI .imm)=(xs.map (rI .imm)).drop xs.length:=by rw[List.drop_eq_nil_of_le (by rw[W0];omega)];rfl
theorem H8(xs:List Int):xs.map (rI .imm)=(xs.map (rI .imm)).take xs.length:=by rw[U5 (by rw[W0];omega)]
def Pj(c:aB)(k:Nat):List C:=aB.enc .own (Gm c k)++aF .own (nth c.Lists k)
theorem MI(c:aB)(k:Nat):gg (Pj c k):=aR (aB.enc_fr _) (bM _)
theorem tl(c:aB)(k:Nat)(d:bt c=true)(p:k<=3):ao Tryz.prog 390 false [.val (some 1) (aB.enc .imm c),.val none [I (k:Nat)],.val none [I 8]] (.tup [some 1,none]) (Pj c k):=by
 obtain⟨q,e⟩:=dX d;have g:aB.sml c:=⟨ω,λl j=>by have:=e l j;show l.length<=1048576;omega⟩
 have h:=wj c k g;rw[d,O0 ω]at h;have n:=gT c g;have a:=rJ (c:=c) (k:=k) ω;have o:=e _ (am (xs:=c.Lists) (i:=k) ω);have b:=MI c k;unfold Pj at b |-;rw[KX]at b |-;refine fO 52 [(5,268,[29,30,31,32,33,34,35,36,37,38,39,41,0,1,2,3,4,5,6,7,8,9,10,11,1000,1001,1002,12,13]),(6,265,[42,43,44,45,46,47,48,49,50,0,1,2,3,4,5,6,7,8,9,1000,10,11])] Tryz.func390 rfl ?_ (.inr b)
 repeat'(first|refine gO ?_|(conv=>whnf);first|with_reducible refine CA (aa a) ?_|refine C9 ?_|refine CF rfl (aa a) rfl ?_|refine C6 (h) ?_|refine C6 (n) ?_|refine CQ (z:=((nth c.Lists k).length:Int)) (by simp;omega) ?_|refine Sl.suf (nth c.Lists k).length rfl (by rw[W0];omega) (aL λ_=>rfl) (HR _) ?_|refine CS (nth c.Lists k).length rfl (by rw[W0];omega) (aL λ_=>rfl) (H8 _) ?_|refine C9 ?_|refine CR (λ_=>rfl) (λ_=>rfl) (by simp) (by decide) ?_|refine CL (λ_=>rfl) (λ_=>rfl) (by simp) (by decide) ?_|refine CR (λ_=>rfl) (λ_=>rfl) ω (by decide) ?_|refine CL (λ_=>rfl) (λ_=>rfl) ω (by decide) ?_|refine CM rfl rfl (aa a) rfl (X0 rfl) rfl ?_)
 rfl
theorem nh{k:Int} : ∀{l s s2 c:List Int},(∀x∈s2,x∈s)->pG k s l=some c->(∀x∈s,x∈c)/\∃d,pG k s2 l=some d/\∀x∈d,x∈c
 | [],s,s2,c,h,e=>by
  simp only[pG,U0]at e |-;subst e;exact⟨λ_ h=>h,s2,rfl,h⟩
 | a::l,s,s2,c,h,e=>by
  simp only[pG]at e |-;split at e
  ·rename_i g
   rw[C8 (show good k s2 a from⟨g.1,g.2.1,g.2.2.1,λx=>g.2.2.2 (h a x)⟩)];obtain⟨f,i⟩:=nh (l:=l) (s:=s++[a]) (s2:=s2++[a]) (λx b=>by
     rcases Q2.1 b with b|b
     · exact Q2.2 (.inl (h x b))
     · exact Q2.2 (.inr b)) e
   exact⟨λx b=>f x (Q2.2 (.inl b)),i⟩
  ·cases e
theorem rN:∀{a:List (List Int)}{k:Nat}{s s2:List Int},(∀x∈s2,x∈s)->(fC k s a).isSome=true->(fC k s2 a).isSome=true
 | [],_,_,_,_,_=>rfl
 | l::a,k,s,s2,h,e=>by
  simp only[fC,dM]at e |-;split at e
  ·rename_i g
   rw[C8 g];cases b:pG k s l with
   | none=>rw[b]at e;cases e
   | some i=>
    rw[b]at e;obtain⟨-,c,d,f⟩:=nh h b;rw[d];exact rN f e
  ·cases e
theorem B0:∀{a:List (List Int)}{k:Nat}{s s2:List Int}(i:Nat),(∀x∈s2,x∈s)->(fC k s a).isSome=true->(fC k s2 (a.set i [])).isSome=true
 | [],_,_,_,_,_,_=>rfl
 | l::a,k,s,s2,i,h,e=>by
  simp only[fC,dM]at e;split at e
  ·rename_i g
   cases b:pG k s l with
   | none=>rw[b]at e;cases e
   | some o=>
    rw[b]at e;obtain⟨c,d,f,j⟩:=nh h b;cases i with
    | zero=>
     simp only[List.set_cons_zero,fC,dM];rw[C8 ⟨by simp,g.2⟩];exact rN (λx n=>c x (h x n)) e
    | succ i=>
     simp only[List.set_cons_succ,fC,dM];rw[C8 g,f];exact B0 i j e
  ·cases e
theorem MW{c:aB}(h:bt c=true)(k:Nat):bt (Gm c k)=true:=by
 unfold bt at h |-;simp only[I0,C0]at h |-;exact⟨by simp only[Gm,C1];exact h.1,B0 k (λ_ h=>h) h.2⟩
def spilt(h:ab)(t k:Nat):ab:={h with Caches:=h.Caches.set t (Gm (nth h.Caches t) k)}
theorem bm.spilt{h:ab}{E:List Int}{t k:Nat}(f:bm h E)(i:t<h.Caches.length)(n:k<(nth h.Caches t).Lists.length):bm (spilt h t k) (nth (nth h.Caches t).Lists k++E):=by
 have p:(E++holders h).Perm (nth (nth h.Caches t).Lists k++E++holders (Ab.spilt h t k)):=by
  refine List.perm_iff_count.2 λb=>?_
  have r:=ia (λc:aB=>c.Lists.flatten) b h.Caches t (Gm (nth h.Caches t) k) i;have q:=ia (λx:List Int=>x) b (nth h.Caches t).Lists k [] n;rw[<-jG,<-jG]at q;simp only[List.count_nil]at q;simp only[Gm]at r;simp only[holders,ce,Ab.spilt,Gm,Z4];omega
 have g:∀c∈(Ab.spilt h t k).Caches,c∈h.Caches\/c=Gm (nth h.Caches t) k:=λc u=>C5 u
 exact {f with
   nc:=by show(h.Caches.set ..).length=_;rw[C1];exact f.nc
   cach:=λc a=>by
     rcases g c a with a|rfl
     · exact f.cach c a
     · exact MW (f.cach _ (am i)) k
   onu:=by show ∀o∈h.Objs,1<=o.Id/\o.Id<=h.Next - 1/\0<=o.Thread/\o.Thread<=(h.Caches.set t _).length - 1;rw[C1];exact f.onu
   hca:=λc a j l b d=>by
     rcases g c a with a|rfl
     · exact f.hca c a j l b d
     · simp only[Gm,C1]at l
       simp only[Gm,cB]at d;by_cases e:k=j
       · subst e
         rw[C8 ⟨rfl,l⟩]at d;cases d
       · rw[C7 λx=>e x.1]at d
         exact f.hca _ (am i) _ l b d
   hin:=λb d=>by
     rcases Q2.1 d with d|d
     · exact(f.hca _ (am i) k n b d).any
     · exact f.hin b d
   nd:=p.nodup_iff.1 f.nd
   mem:=λb=>by rw[<-p.mem_iff];exact f.mem b}
def freeAs(h:ab)(az:List Int):ab:=az.foldl freeA h
theorem gJ:∀(az:List Int)(h:ab),(freeAs h az).Caches=h.Caches/\(freeAs h az).Objs=h.Objs/\(freeAs h az).Kernel.Calls=h.Kernel.Calls/\(freeAs h az).Mail=h.Mail/\(freeAs h az).Job=h.Job/\(freeAs h az).Clock=h.Clock/\(freeAs h az).Quar=h.Quar/\(freeAs h az).Kernel.Refuse=h.Kernel.Refuse
 | [],h=>⟨rfl,rfl,rfl,rfl,rfl,rfl,rfl,rfl⟩
 | a::az,h=>by
  obtain⟨b,c,d,e,f,g,i,j⟩:=gJ az (freeA h a);obtain⟨k,l,n,o,p,q,r,t⟩:=uo h (uR h a) a;exact⟨b.trans k,c.trans l,d.trans n,e.trans o,f.trans p,g.trans q,i.trans r,j.trans t⟩
theorem bm.freeAs{E:List Int} : ∀{az:List Int}{h:ab},bm h (az++E)->bm (freeAs h az) E
 | [],_,b=>b
 | a::az,h,b=>bm.freeAs (az:=az) (h:=Ab.freeA h a) b.freeA
theorem sD(h:ab)(az:List Int)(k:Nat)(a:k<az.length):freeAs h (az.take (k+1))=freeA (freeAs h (az.take k)) (nth az k):=by
 rw[U4,ah a];simp[freeAs]
def flushN(t:Nat)(h:ab):Nat->ab × Nat
 | 0=>(h,0)
 | k+1=>(freeAs (spilt (flushN t h k).1 t k) (nth (nth (flushN t h k).1.Caches t).Lists k),(flushN t h k).2+(nth (nth (flushN t h k).1.Caches t).Lists k).length)
theorem jQ{t:Nat}{h:ab}(c:bm h [])(e:t<h.Caches.length):∀{k:Nat},k<=4->bm (flushN t h k).1 []/\(flushN t h k).1.Caches.length=h.Caches.length/\(flushN t h k).1.Kernel.Calls=h.Kernel.Calls/\(flushN t h k).1.Objs=h.Objs/\(flushN t h k).1.Mail=h.Mail/\(flushN t h k).1.Job=h.Job/\(flushN t h k).2<=8*k
 | 0,_=>⟨c,rfl,rfl,rfl,rfl,rfl,R0 _⟩
 | k+1,y=>by
  obtain⟨d,f,g,i,j,l,A⟩:=jQ c e (k:=k) ω;have a:t<(flushN t h k).1.Caches.length:=ω
  obtain⟨B,n⟩:=dX (d.cach _ (am a));have b:k<(nth (flushN t h k).1.Caches t).Lists.length:=ω
  have o:=d.spilt a b;have C:=n _ (am b);obtain⟨p,q,r,u,w,-⟩:=gJ (nth (nth (flushN t h k).1.Caches t).Lists k) (Ab.spilt (flushN t h k).1 t k);refine⟨bm.freeAs o,?_,r.trans g,q.trans i,u.trans j,w.trans l,?_⟩
  ·show(Ab.freeAs _ _).Caches.length=_
   rw[p];simp only[Ab.spilt,C1];exact f
  ·simp only[flushN];omega
theorem AI{h:ab}{t k:Nat}(d:bm h [])(e:t<h.Caches.length)(j:k<4):t<(flushN t h k).1.Caches.length/\bt (nth (flushN t h k).1.Caches t)=true/\k<(nth (flushN t h k).1.Caches t).Lists.length/\(nth (nth (flushN t h k).1.Caches t).Lists k).length<=8/\(flushN t h k).2<=8*k:=by
 obtain⟨f,l,-,-,-,-,g⟩:=jQ d e (k:=k) ω;have a:t<(flushN t h k).1.Caches.length:=ω
 have c:=f.cach _ (am a);obtain⟨n,i⟩:=dX c;have b:k<(nth (flushN t h k).1.Caches t).Lists.length:=ω
 exact⟨a,c,b,i _ (am b),g⟩
theorem HI{h:ab}{t k j:Nat}(a:bm h [])(b:t<h.Caches.length)(d:k<4)(e:j<(nth (nth (flushN t h k).1.Caches t).Lists k).length):bm (freeAs (spilt (flushN t h k).1 t k) ((nth (nth (flushN t h k).1.Caches t).Lists k).take j)) (nth (nth (nth (flushN t h k).1.Caches t).Lists k) j::(nth (nth (flushN t h k).1.Caches t).Lists k).drop (j+1)):=by
 obtain⟨f,g⟩:=AI a b d;have c:=((jQ a b (k:=k) ω).1).spilt f g.2.1;rw[List.append_nil]at c;refine bm.freeAs ?_;rw[<-gU e,List.take_append_drop];exact c
theorem wV(h:ab)(t:Nat)(i:bm h [])(l:t<h.Caches.length):aO Tryz.prog 362 false [.ptr (bv h),.val none [I (t:Nat)]] [.ptr (bv (flushN t h 4).1),.val none [I (t:Nat)]] .one [I ((flushN t h 4).2:Nat)]:=by
 refine fM 48 [(364,[2,0])] [(6,6,[26,27,28,29,30,31])] [(0,0),(0,0)] Tryz.func362 rfl (λu q=>?_)
 repeat'(first|refine gO ?_|fail)
 (conv=>whnf)
 refine CC (ι:=Nat) (λk=>[(0,.hold .box (bv (flushN t h k).1)),(1,.hold .one [I ((t:Nat):Int)]),(5,.hold .one [I (((flushN t h k).2:Nat):Int)]),(6,.hold .one [I ((k:Nat):Int)])]) (λk=>k<=4) (λk=>4 - k) (0) ?_ (R0 _) λk D=>?_
 ·repeat'(first|exact trivial|rfl |exact mV a|exact dG _|refine CH ?_ ?_|(exact Dl (by first|omega|(simp only;omega)|(simp;omega))))
 by_cases n:k<4
 ·obtain⟨o,p,E,F,G⟩:=AI i l n
  have r:=tl (nth (flushN t h k).1.Caches t) k p ω;have c:=λj=>HI i l n (j:=j)
  have e:=ah o;have w:(flushN t h (k+1)).1=freeAs (spilt (flushN t h k).1 t k) (nth (nth (flushN t h k).1.Caches t).Lists k):=rfl;have y:(flushN t h (k+1)).2=(flushN t h k).2+(nth (nth (flushN t h k).1.Caches t).Lists k).length:=rfl;have a:C.s du.own ((spilt (flushN t h k).1 t k).Caches.map (aB.enc .own))=C.s du.own (((flushN t h k).1.Caches.map (aB.enc .own)).set t (aB.enc .own (Gm (nth (flushN t h k).1.Caches t) k))):=by simp[spilt,t5]
  repeat'(first|refine gD ?_|(conv=>whnf);first|refine CA (aa e) ?_|refine CF rfl (aa e) rfl ?_|refine CE (r) ⟨⟨rfl,aB.enc_fz _⟩,⟨rfl,rfl⟩,⟨rfl,rfl⟩,trivial⟩ ?_|refine C9 ?_|refine CM rfl rfl (aa e) rfl (X0 rfl) rfl ?_)
  generalize (flushN t h k).1=d at *;generalize (flushN t h k).2=m at *
  (conv=>whnf)
  refine CC (ι:=Nat) (λj=>[(0,.hold .box (bv (freeAs (spilt d t k) ((nth (nth d.Caches t).Lists k).take j)))),(1,.hold .one [I ((t:Nat):Int)]),(5,.hold .one [I (((m+j):Nat):Int)]),(6,.hold .one [I ((k:Nat):Int)]),(8,.hold .one (aF .own (nth (nth d.Caches t).Lists k))),(9,.hold .one [I ((j:Nat):Int)])]) (λj=>j<=(nth (nth d.Caches t).Lists k).length) (λj=>(nth (nth d.Caches t).Lists k).length - j) (0) ?_ (R0 _) λj H=>?_
  ·repeat'(first|exact trivial|rfl |exact mV a|exact dG _|refine CH ?_ ?_|(exact Dl (by first|omega|(simp only;omega)|(simp;omega))))
  by_cases g:j<(nth (nth d.Caches t).Lists k).length
  ·have b:=ah g
   have B:=lW _ _ _ (c j g)
   repeat'(first|refine gD ?_|(conv=>whnf);first|refine CA (aa b) ?_|refine CF rfl (aa b) rfl ?_|refine CG (B) (.inl rfl) ?_)
   ((conv=>whnf);refine CB (j+1) ω ω ?_)
   rw[sD _ _ _ g];exact wC
  ·obtain rfl:j=(nth (nth d.Caches t).Lists k).length:=ω
   rw[O4]
   repeat'(first|refine gD ?_|fail)
   ((conv=>whnf);refine CB (k+1) ω ω ?_)
   rw[w,y];exact wC
 ·obtain rfl:k=4:=ω
  repeat'(first|refine gD ?_|fail)
  refine CD rfl rfl ?_;exact wC
def ER(s:Int):Int:=(1103515245*s+12345) % 1073741824
theorem EE(s:Int):0<=ER s/\ER s<=1073741823:=by unfold ER;omega
theorem wK(s:Int)(b:0<=s/\s<=1073741823):ao Tryz.prog 377 false [.val none [I s]] .one [I (ER s)]:=by
 have a:=aD s 0 1073741823;rw[O0 b]at a;refine fO 10 [] Tryz.func377 rfl ?_
 repeat'(first|refine gO ?_|(conv=>whnf);first|refine C9 ?_|refine CQ (z:=ER s) (fK ω) ?_|refine C6 (a) ?_|refine CK (by decide) ?_)
 rfl
def Jw(s n:Int):Int:=ER s / 1024 % n
theorem uw(s:Int){n:Int}(h:1<=n):0<=Jw s n/\Jw s n<n:=⟨Int.emod_nonneg _ ω,Int.emod_lt_of_pos _ ω⟩
theorem sM(s n:Int)(b:0<=s/\s<=1073741823)(c:1<=n/\n<=1000):ao Tryz.prog 343 false [.val none [I s],.val none [I n]] (.tup [none,none]) [I (Jw s n),I (ER s)]:=by
 have d:=aD s 0 1073741823;have e:=aD n 1 1000;rw[O0 b]at d;rw[O0 c]at e;have g:=EE s;have i:=uw s c.1;have a:(ER s).tdiv 1024=ER s / 1024:=Int.tdiv_eq_ediv_of_nonneg g.1;have h:((ER s).tdiv 1024).tmod n=Jw s n:=by rw[a];exact fK ω
 refine fO 23 [] Tryz.func343 rfl ?_ (.inr ⟨trivial,trivial,trivial⟩)
 repeat'(first|refine gO ?_|(conv=>whnf);first|refine C9 ?_|refine C6 (d) ?_|refine C6 (e) ?_|refine C6 (wK s b) ?_|refine CK (by decide) ?_|refine CK ω ?_|refine CQ h ?_|refine CI (eK (by rw[a];omega) (by rw[a];omega)) ?_)
 rfl
def pS(n:Nat):List Int:=(List.range n).map λ(i:Nat)=>(i:Int)
theorem DO(n:Nat):pS (n+1)=pS n++[(n:Int)]:=by unfold pS;rw[List.range_succ,W4];rfl
theorem xT(n:Nat):(pS n).length=n:=by simp[pS]
def uT(xs:List Int)(i k:Nat):List Int:=(xs.set i (nth xs k)).set k (nth xs i)
theorem G2(xs:List Int)(i k:Nat):(uT xs i k).length=xs.length:=by simp[uT]
def gk(n:Nat)(s:Int):Nat->List Int × Int
 | 0=>(pS n,s)
 | j+1=>(uT (gk n s j).1 (n - 1 - j) (Jw (gk n s j).2 ((n - 1 - j:Nat)+1:Int)).toNat,ER (gk n s j).2)
theorem kO(n:Nat){s:Int}(a:0<=s/\s<=1073741823):∀j,(gk n s j).1.length=n/\0<=(gk n s j).2/\(gk n s j).2<=1073741823
 | 0=>⟨xT n,a⟩
 | j+1=>⟨by simp only[gk,G2];exact(kO n a j).1,EE _⟩
def shuf(n:Nat)(s:Int):List Int × Int:=gk n s (n - 1)
theorem Kj(xs:List Int)(i k:Nat):(uT xs i k).map (rI .own)=((xs.map (rI .own)).set i (rI .own (nth xs k))).set k (rI .own (nth xs i)):=by simp[uT,t5]
theorem GS{xs:List Int}{i k:Nat}(v:Int)(a:k<xs.length):((xs.map (rI .own)).set i (rI .own v))[k]? = some (rI .own (nth (xs.set i v) k)):=by
 rw[<-t5];exact aa (ah (by rw[C1];exact a))
theorem w6(n:Nat)(s:Int)(d:0<=s/\s<=1073741823)(w:n<=64):ao Tryz.prog 393 false [.val none [I s],.val none [I (n:Nat)]] (.tup [none,none]) (aF .own (shuf n s).1++[I (shuf n s).2]):=by
 have e:=aD s 0 1073741823;have g:=aD (n:Nat) 0 64;rw[O0 d]at e;rw[O0 ω]at g;refine fO 63 [] Tryz.func393 rfl ?_ (.inr (aR (bM _) ⟨trivial,trivial⟩))
 repeat'(first|refine gO ?_|(conv=>whnf);first|refine C9 ?_|refine C6 (e) ?_|refine C6 (g) ?_)
 (conv=>whnf)
 refine CC (ι:=Nat) (λk=>[(0,.hold .one [I (s)]),(1,.hold .one [I ((n:Nat):Int)]),(6,.hold .one (aF .own (pS k))),(7,.hold .one [I ((k:Nat):Int)])]) (λk=>k<=n) (λk=>n - k) (0) ?_ (R0 _) λk y=>?_
 ·exact wB
 have h:=xT k;by_cases B:k<n
 ·repeat'(first|refine gD ?_|(conv=>whnf);first|refine C9 ?_|refine Ap.sm (aL λ_=>rfl) rfl (by simp;omega) (by decide) (gQ (rI .own) (pS k) (k:Int)) ?_)
  ((conv=>whnf);refine CB (k+1) ω ω ?_)
  rw[DO];exact wB
 ·obtain rfl:k=n:=ω
  repeat'(first|refine gD ?_|(conv=>whnf);first|refine C9 ?_)
  (conv=>whnf)
  refine CC (ι:=Nat) (λj=>[(0,.hold .one [I ((gk k s j).2)]),(6,.hold .one (aF .own (gk k s j).1)),(8,.hold .one [I (((k:Int) - 1 - j))])]) (λj=>(j<=k - 1/\j<=k)) (λj=>k - j) (0) ?_ (⟨R0 _,R0 _⟩) λj C=>?_
  ·exact wB
  obtain⟨D,l,o⟩:=kO k d j;by_cases E:j<k - 1
  ·have q:(k:Int) - 1 - j=((k - 1 - j:Nat):Int):=ω
   have r:=uw (gk k s j).2 (n:=((k - 1 - j:Nat)+1:Int)) ω;have t:=sM (gk k s j).2 ((k - 1 - j:Nat)+1:Int) ⟨l,o⟩ ω;have u:gk k s (j+1)=(uT (gk k s j).1 (k - 1 - j) (Jw (gk k s j).2 ((k - 1 - j:Nat)+1:Int)).toNat,ER (gk k s j).2):=rfl;rw[q];generalize gk k s j=p at *;obtain⟨xs,z⟩:=p;simp only at *;generalize k - 1 - j=i at *;have a:=ah (xs:=xs) (i:=i) ω;have b:=ah (xs:=xs) (i:=(Jw z (i+1)).toNat) ω;have c:=GS (xs:=xs) (i:=i) (k:=(Jw z (i+1)).toNat) (nth xs (Jw z (i+1)).toNat) ω
   repeat'(first|refine gD ?_|(conv=>whnf);first|refine C9 ?_|refine C6 (t) ?_|refine CJ ω (aa b) ?_|refine CA (aa a) ?_|refine CF rfl (aa a) rfl ?_|refine CF rfl (aa b) rfl ?_|refine CM rfl rfl (aa a) rfl (X0 rfl) rfl ?_|refine CJ ω c ?_|refine CM rfl rfl c rfl (X0 rfl) rfl ?_)
   ((conv=>whnf);refine CB (j+1) ω ω ?_)
   rw[u];simp only[aF,Kj];exact wB
  ·obtain rfl:j=k - 1:=ω
   repeat'(first|refine gD ?_|(conv=>whnf);first|refine C9 ?_)
   rfl
def zU(b:Int):Nat->Nat
 | 0=>0
 | n+1=>zU b n+(if aX b (n:Nat)=true then 1 else 0)
theorem zb(b:Int):∀n,zU b n<=n
 | 0=>R2 _
 | n+1=>by have:=zb b n;simp only[zU];split<;>omega
theorem sZ(b:Int)(d:b<=9223372036854775807):ao Tryz.prog 112 false [.val none [I b]] .one [I (zU b 16:Nat)]:=by
 refine fO 15 [] Tryz.func112 rfl ?_
 repeat'(first|refine gO ?_|fail)
 (conv=>whnf)
 refine CC (ι:=Nat) (λk=>[(0,.hold .one [I (b)]),(3,.hold .one [I ((zU b k:Nat):Int)]),(4,.hold .one [I ((k:Nat):Int)])]) (λk=>k<=16) (λk=>16 - k) (0) ?_ (R0 _) λk g=>?_
 ·exact wB
 have h:=zb b k;by_cases i:k<16
 ·have a:=gP b (k:Nat) d
  have c:zU b (k+1)=zU b k+(if aX b (k:Nat)=true then 1 else 0):=rfl;cases e:aX b (k:Nat)<;>rw[e]at a c
  all_goals
   repeat'(first|refine gD ?_|(conv=>whnf);first|refine C6 (a) ?_)
   ((conv=>whnf);refine CB (k+1) ω ω ?_)
   rw[c];exact wB
 ·obtain rfl:k=16:=ω
  repeat'(first|refine gD ?_|fail)
  rfl
def xR(h:ab)(s:au):Bool:=decide (0<zU s.Bits 16)&&decide ((aS h s.Page).length=1)
def kq(h:ab):Nat->List au
 | 0=>[]
 | n+1=>if xR h (nth h.Spans n)=true then kq h n++[nth h.Spans n] else kq h n
def lJ(h:ab):List au:=kq h h.Spans.length
theorem uE(h:ab):∀n,(kq h n).length<=n
 | 0=>R2 _
 | n+1=>by have:=uE h n;simp only[kq];split<;>simp<;>omega
theorem nN(h:ab):∀{n:Nat},n<=h.Spans.length->∀s∈kq h n,s∈h.Spans
 | 0,_,s,a=>by cases a
 | n+1,b,s,a=>by
  simp only[kq]at a;split at a
  ·rcases Q2.1 a with a|a
   ·exact nN h ω s a
   ·rw[Z0.1 a];exact am ω
  ·exact nN h ω s a
theorem vZ(h:ab)(j:wG h)(q:h.Spans.length<=1000)(r:dE h<=1000)(l:∀s∈h.Spans,s.Bits<=9223372036854775807):ao Tryz.prog 38 false [.val (some 24) (ab.enc .imm h)] .one (cg .own (lJ h)):=by
 refine fO 42 [(5,16,[13,14,15,16,17,18,19,20,21,22,23,24,25,26,27,28])] Tryz.func38 rfl ?_ (.inr (DB _))
 repeat'(first|refine gO ?_|fail)
 (conv=>whnf)
 refine CC (ι:=Nat) (λk=>[(1,.hold .box (ab.enc .imm h)),(3,.hold .one (cg .own (kq h k))),(4,.hold .one [I ((k:Nat):Int)])]) (λk=>k<=h.Spans.length) (λk=>h.Spans.length - k) (0) ?_ (R0 _) λk t=>?_
 ·exact wB
 have n:=uE h k;by_cases e:k<h.Spans.length
 ·have c:=ah e
  have d:=sZ (nth h.Spans k).Bits (l _ (am e));have b:=gw h (nth h.Spans k).Page j;have o:=gh h (nth h.Spans k).Page;have p:=zb (nth h.Spans k).Bits 16;have a:kq h (k+1)=if xR h (nth h.Spans k)=true then kq h k++[nth h.Spans k] else kq h k:=rfl
  by_cases g:0<zU (nth h.Spans k).Bits 16
  ·by_cases i:(aS h (nth h.Spans k).Page).length=1
   ·rw[C8 (by unfold xR;simp[g,i])]at a
    repeat'(first|refine gA ?_|(conv=>whnf);first|refine CA (aa c) ?_|refine C6 (d) ?_|refine CE (b) ⟨⟨rfl,rfl⟩,⟨rfl,rfl⟩,trivial⟩ ?_|refine C6 (b) ?_|refine C9 ?_|refine Ap.sm (aL λ_=>rfl) rfl (by simp;omega) (by decide) (gQ (au.enc .own) (kq h k) (nth h.Spans k)) ?_)
    ((conv=>whnf);refine CB (k+1) ω ω ?_)
    rw[a];exact wB
   ·rw[C7 (by unfold xR;simp[i])]at a
    repeat'(first|refine gA ?_|(conv=>whnf);first|refine CA (aa c) ?_|refine C6 (d) ?_|refine C6 (b) ?_|refine C9 ?_)
    ((conv=>whnf);refine CB (k+1) ω ω ?_)
    rw[a];exact wB
  ·rw[C7 (by unfold xR;simp[g])]at a
   repeat'(first|refine gD ?_|(conv=>whnf);first|refine CA (aa c) ?_|refine C6 (d) ?_|refine C6 (b) ?_|refine C9 ?_)
   ((conv=>whnf);refine CB (k+1) ω ω ?_)
   rw[a];exact wB
 ·obtain rfl:k=h.Spans.length:=ω
  repeat'(first|refine gD ?_|fail)
  rfl
def zJ(s:au)(c:Nat):Bool:=aX s.Bits (((c:Nat):Int) / csz s.Class)
def tt(s:au)(n:Nat):List Int:=((List.range n).filter (zJ s)).map λ(i:Nat)=>(i:Int)
theorem Mf{s:au}{n:Nat}(h:zJ s n=true):tt s (n+1)=tt s n++[(n:Int)]:=by
 unfold tt;rw[List.range_succ,List.filter_append,W4];simp[h]
theorem Np{s:au}{n:Nat}(h:zJ s n=false):tt s (n+1)=tt s n:=by
 unfold tt;rw[List.range_succ,List.filter_append,W4];simp[h]
theorem pP(s:au)(n:Nat):(tt s n).length<=n:=by
 unfold tt;rw[W0];exact v4 (List.length_filter_le _ _) (by simp)
theorem La{s:au}(a:bf s=true){c:Nat}(d:c<16):0<=((c:Nat):Int) / csz s.Class/\((c:Nat):Int) / csz s.Class<=15:=by
 have f:=aE a;have b:csz s.Class=1\/csz s.Class=2\/csz s.Class=4\/csz s.Class=8:=co ω;rcases b with e|e|e|e<;>rw[e]<;>omega
theorem mY(s:au)(a:bf s=true):ao Tryz.prog 394 false [.val (some 3) (au.enc .imm s)] .one (aF .own (tt s 16)):=by
 have b:=fR s;rw[a]at b;have g:=aE a;have n:=co g.2.2;refine fO 27 [(5,7,[14,15,16,17,18,19,20])] Tryz.func394 rfl ?_ (.inr (bM _))
 repeat'(first|refine gO ?_|fail)
 (conv=>whnf)
 refine CC (ι:=Nat) (λi=>[(1,.hold .box (au.enc .imm s)),(3,.hold .one (aF .own (tt s i))),(4,.hold .one [I ((i:Nat):Int)])]) (λi=>i<=16) (λi=>16 - i) (0) ?_ (R0 _) λi o=>?_
 ·exact wB
 have h:=pP s i;by_cases j:i<16
 ·have k:=La a j
  have d:IntKind.i64.wrap (((i:Nat):Int).tdiv (csz s.Class))=((i:Nat):Int) / csz s.Class:=by rw[nu ω];exact eK ω ω
  have c:=gP s.Bits (((i:Nat):Int) / csz s.Class) (eL a).2;cases e:zJ s i
  ·rw[show aX s.Bits (((i:Nat):Int) / csz s.Class)=false from e]at c
   repeat'(first|refine gD ?_|(conv=>whnf);first|refine C6 (b) ?_|refine C6 (dw _) ?_|refine CK ω ?_|refine CI d ?_|refine C6 (c) ?_)
   ((conv=>whnf);refine CB (i+1) ω ω ?_)
   rw[Np e];exact wB
  ·rw[show aX s.Bits (((i:Nat):Int) / csz s.Class)=true from e]at c
   repeat'(first|refine gD ?_|(conv=>whnf);first|refine C6 (b) ?_|refine C6 (dw _) ?_|refine CK ω ?_|refine CI d ?_|refine C6 (c) ?_|refine CP cF (λr l=>by rw[Z0.1 l];rfl) (by simp[aU,d6]) (by simp;omega) (by simp only[W0];exact xM (by simp;omega) (by decide)) rfl ?_)
   ((conv=>whnf);refine CB (i+1) ω ω ?_)
   rw[Mf e]
   (repeat'(first|exact trivial|rfl|exact CH rfl (CH (T0 (C.s du.own) (by simp[rI])) trivial)|refine CH ?_ ?_))
 ·obtain rfl:i=16:=ω
  repeat'(first|refine gD ?_|(conv=>whnf);first|refine C6 (b) ?_)
  rfl
structure f6 where
 A:Int
 B:Int
deriving DecidableEq,Inhabited
def f6.enc(_:du)(x:f6):List C:=[I x.A,I x.B]
def iC(o:du)(x:List f6):List C:=[.s o (x.map (f6.enc o))]
theorem DV(x:List f6):gg (iC .own x):=⟨⟨.inl λh=>(by cases h),aZ _ _ λ_ _=>⟨trivial,trivial,trivial⟩⟩,trivial⟩
def KW(i:Int)(p:f6):Bool:=decide (p.A=i) || decide (p.B=i)
def d4(a b:au):ca:=if(tt a 16).length<(tt b 16).length then⟨b.Page,a.Page,tt a 16⟩ else⟨a.Page,b.Page,tt b 16⟩
theorem xb(a b:au)(g:meshable a b=true)(h:bf a=true)(i:bf b=true):ao Tryz.prog 366 false [.val (some 3) (au.enc .imm a),.val (some 3) (au.enc .imm b)] (.tup [some 3,none]) (ca.enc .own (d4 a b)++[B true]):=by
 have c:=kD a b;rw[g]at c;have d:=mY a h;have e:=mY b i;have j:=pP a 16;have k:=pP b 16;unfold d4;split
 ·refine fO 27 [(3,6,[11,12,13,14,15,16]),(5,6,[20,21,22,23,24,25])] Tryz.func366 rfl ?_ (.inr (aR (ca.enc_fr _) ⟨trivial,trivial⟩))
  repeat'(first|refine gD ?_|(conv=>whnf);first|refine C6 (c) ?_|refine C6 (d) ?_|refine C6 (e) ?_|refine C9 ?_)
  rfl
 ·refine fO 27 [(3,6,[11,12,13,14,15,16]),(5,6,[20,21,22,23,24,25])] Tryz.func366 rfl ?_ (.inr (aR (ca.enc_fr _) ⟨trivial,trivial⟩))
  repeat'(first|refine gD ?_|(conv=>whnf);first|refine C6 (c) ?_|refine C6 (d) ?_|refine C6 (e) ?_|refine C9 ?_)
  rfl
def uv(p:ca):cv:=⟨p,0,0⟩
theorem BX(p:ca)(c:en p=true)(a:ca.sml p):ao Tryz.prog 367 false [.val (some 3) (ca.enc .imm p)] (.tup [some 5,none]) (cv.enc .own (uv p)++[B true]):=by
 have b:=sI p a;rw[c]at b;have d:=qj (uv p) a;refine fO 11 [] Tryz.func367 rfl ?_ (.inr (aR (cv.enc_fr _) ⟨trivial,trivial⟩))
 repeat'(first|refine gO ?_|(conv=>whnf);first|refine C6 (b) ?_|refine C6 (d) ?_)
 rfl
theorem rK(n:Nat){s:Int}(c:0<=s/\s<=1073741823):∀{j:Nat},j<=n - 1->∀x∈(gk n s j).1,0<=x/\x<n
 | 0,_,x,a=>by
  simp only[gk,pS,V3,List.mem_range]at a;obtain⟨i,d,rfl⟩:=a;omega
 | j+1,e,x,a=>by
  have f:=(kO n c j).1;have b:=rK n c (j:=j) ω;have g:=uw (gk n s j).2 (n:=((n - 1 - j:Nat)+1:Int)) ω;simp only[gk,uT]at a;rcases C5 a with a|rfl
  ·rcases C5 a with a|rfl
   ·exact b x a
   ·exact b _ (am ω)
  ·exact b _ (am ω)
def tkn(out:List f6)(a:Int):Bool:=out.any (KW a)
def stp(a:List au)(p:List Int)(t i:Nat)(out:List f6):List f6:=
 if tkn out (nth p i)=false/\tkn out (nth p (p.length / 2+(i+t) % (p.length - p.length / 2)))=false/\meshable (nth a (nth p i).toNat) (nth a (nth p (p.length / 2+(i+t) % (p.length - p.length / 2))).toNat)=true then out++[⟨nth p i,nth p (p.length / 2+(i+t) % (p.length - p.length / 2))⟩] else out
def sR(a:List au)(p:List Int)(t:Nat)(out:List f6):Nat->List f6
 | 0=>out
 | i+1=>stp a p t i (sR a p t out i)
def pz(a:List au)(p:List Int):Nat->List f6
 | 0=>[]
 | t+1=>sR a p t (pz a p t) (p.length / 2)
theorem KU(a:List au)(p:List Int)(t i:Nat)(out:List f6):(stp a p t i out).length<=out.length+1:=by unfold stp;split<;>simp
theorem vH(a:List au)(p:List Int)(t:Nat)(out:List f6):∀i,(sR a p t out i).length<=out.length+i
 | 0=>R2 _
 | i+1=>by have b:=vH a p t out i;have c:=KU a p t i (sR a p t out i);simp only[sR];omega
theorem Di(a:List au)(p:List Int):∀t,(pz a p t).length<=t*(p.length / 2)
 | 0=>R0 _
 | t+1=>by have b:=Di a p t;have c:=vH a p t (pz a p t) (p.length / 2);simp only[pz];rw[Nat.add_mul];omega
def l7(a:List au)(s:Int):List f6:=pz a (shuf a.length s).1 3
def m8(n:Nat)(out:List f6):List Bool:=(List.range n).map λ(i:Nat)=>tkn out (i:Nat)
theorem EW{n:Nat}{out:List f6}{a:Int}(h:0<=a/\a<n):(m8 n out)[a.toNat]? = some (tkn out a):=by
 unfold m8;rw[U2,Q5 ω];show some (tkn out ((a.toNat:Nat):Int))=_;rw[Int.toNat_of_nonneg h.1]
theorem HK{n:Nat}{out:List f6}{a b:Int}(f:0<=a/\a<n)(g:0<=b/\b<n):m8 n (out++[⟨a,b⟩])=((m8 n out).set a.toNat true).set b.toNat true:=by
 unfold m8;apply List.ext_getElem?;intro i;by_cases c:i<n
 ·rw[U2,Q5 c]
  by_cases d:b.toNat=i
  ·subst d
   rw[v3 (by simp;omega)];simp only[Q4,tkn,List.any_append,List.any_cons,List.any_nil,KW];rw[Int.toNat_of_nonneg g.1];simp
  ·rw[List.getElem?_set_ne d]
   by_cases e:a.toNat=i
   ·subst e
    rw[v3 (by simp;omega)];simp only[Q4,tkn,List.any_append,List.any_cons,List.any_nil,KW];rw[Int.toNat_of_nonneg f.1];simp
   ·rw[List.getElem?_set_ne e,U2,Q5 c]
    simp only[Q4,tkn,List.any_append,List.any_cons,List.any_nil,KW];rw[Q0 ω,Q0 ω];simp
 ·rw[Z1 (by simp;omega),Z1 (by simp;omega)]
theorem LR(n:Nat):(m8 n []).map (rB .own)=List.replicate n [B false]:=by
 unfold m8;rw[List.map_map];apply List.ext_getElem?;intro i;rw[U2];by_cases a:i<n
 ·rw[Q5 a,List.getElem?_replicate];simp[a];rfl
 ·rw[Z1 (by simp;omega),List.getElem?_replicate];simp[a]
theorem FU{xs:List Bool}{i k:Nat}(v:Bool)(a:k<xs.length):((xs.map (rB .own)).set i (rB .own v))[k]? = some (rB .own (nth (xs.set i v) k)):=by
 rw[<-t5];exact aa (ah (by rw[C1];exact a))
theorem te(c:List au)(s:Int)(u:0<=s/\s<=1073741823)(V:c.length<=16):ao Tryz.prog 365 false [.val none (cg .imm c),.val none [I s],.val none [I 3]] (.tup [none,none]) (iC .own (l7 c s)++[I (shuf c.length s).2]):=by
 have J:=aD s 0 1073741823;rw[O0 u]at J;have K:=aD 3 0 16;rw[O0 ω]at K;have Q:=w6 c.length s u ω;have D:=(kO c.length u (c.length - 1)).1;have e:=rK c.length u (R2 _);unfold l7;change (shuf c.length s).1.length=_ at D;change ∀x∈(shuf c.length s).1,_ at e
 have E:gg (iC .own (pz c (shuf c.length s).1 3)++[I (shuf c.length s).2]):=aR (DV _) ⟨trivial,trivial⟩;generalize shuf c.length s=q at *;obtain⟨p,z⟩:=q;simp only at *;have F:((p.length:Nat):Int).tdiv 2=((p.length / 2:Nat):Int):=by rw[Int.tdiv_eq_ediv_of_nonneg ω];omega
 have g:C.s du.own ((m8 c.length []).map (rB .own))=C.s du.own (List.replicate c.length [B false]):=by rw[LR]
 have h:∀i:Nat,i<p.length->0<=nth p i/\nth p i<c.length:=λi R=>e _ (am R)
 refine fO 110 [(15,21,[73,74,75,76,77,78,79,80,81,82,83,84,85,86,87,88,89,90,91,92,93])] Tryz.func365 rfl ?_ (.inr E)
 repeat'(first|refine gD ?_|(conv=>whnf);first|with_reducible refine CI ((T0 _ F).trans (eK ω ω)) ?_|refine C6 (J) ?_|refine C6 (K) ?_|refine C6 (Q) ?_|refine CK (by decide) ?_|refine Mk.mk c.length rfl rfl ω (xM ω (by decide)) rfl ?_)
 (conv=>whnf)
 refine CC (ι:=Nat) (λt=>[(0,.hold .one (cg .imm c)),(2,.hold .one [I (3)]),(8,.hold .one (iC .own (pz c p t))),(9,.hold .one (aF .own p)),(10,.hold .one [I (z)]),(11,.hold .one [I (((p.length / 2):Nat):Int)]),(12,.hold .one (y8 .own (m8 c.length (pz c p t)))),(13,.hold .one [I ((t:Nat):Int)])]) (λt=>t<=3) (λt=>3 - t) (0) ?_ (R0 _) λt S=>?_
 ·repeat'(first|exact trivial|rfl |exact mV g|refine CH ?_ ?_|(exact Dl (by first|omega|(simp only;omega)|(simp;omega))))
 have W:=Di c p t;have ol2:t*(p.length / 2)<=3*8:=Nat.mul_le_mul S ω;by_cases X:t<3
 ·repeat'(first|refine gD ?_|fail)
  (conv=>whnf)
  refine CC (ι:=Nat) (λj=>[(0,.hold .one (cg .imm c)),(2,.hold .one [I (3)]),(8,.hold .one (iC .own (sR c p t (pz c p t) j))),(9,.hold .one (aF .own p)),(10,.hold .one [I (z)]),(11,.hold .one [I (((p.length / 2):Nat):Int)]),(12,.hold .one (y8 .own (m8 c.length (sR c p t (pz c p t) j)))),(13,.hold .one [I ((t:Nat):Int)]),(14,.hold .one [I ((j:Nat):Int)])]) (λj=>j<=p.length / 2) (λj=>p.length / 2 - j) (0) ?_ (R0 _) λj Y=>?_
  ·repeat'(first|exact trivial|rfl |exact mV g|refine CH ?_ ?_|(exact Dl (by first|omega|(simp only;omega)|(simp;omega))))
  have Z:=vH c p t (pz c p t) j;by_cases lj:j<p.length / 2
  ·have L:(j+t) % (p.length - p.length / 2)<p.length - p.length / 2:=Nat.mod_lt _ ω
   have G:((j:Int)+t).tmod ((p.length:Int) - (p.length / 2:Nat))=(((j+t) % (p.length - p.length / 2):Nat):Int):=by
    rw[fK ω,Int.natCast_emod];congr 1;omega
   have d:sR c p t (pz c p t) (j+1)=stp c p t j (sR c p t (pz c p t) j):=rfl;unfold stp at d;generalize sR c p t (pz c p t) j=out at *;have l:p.length / 2+(j+t) % (p.length - p.length / 2)<p.length:=ω
   generalize hk:(j+t) % (p.length - p.length / 2)=k at *;have n:=ah (xs:=p) (i:=j) ω;have o:=ah (xs:=p) (i:=p.length / 2+k) l;have w:=h j ω;have r:=h _ l;generalize nth p j=a at *;generalize nth p (p.length / 2+k)=b at *;have y:=EW (out:=out) w;have H:=EW (out:=out) r;have T:=ah (xs:=c) (i:=a.toNat) ω;have U:=ah (xs:=c) (i:=b.toNat) ω;have M:=kD (nth c a.toNat) (nth c b.toNat);have ub2:=FU (xs:=m8 c.length out) (i:=a.toNat) (k:=b.toNat) true (by simp[m8];omega);cases N:tkn out a<;>cases O:tkn out b<;>cases P:meshable (nth c a.toNat) (nth c b.toNat)
   all_goals
    rw[N]at y;rw[O]at H;rw[P]at M;rw[N,O,P]at d;simp only[and_true,true_and,if_true,Bool.false_eq_true,Bool.true_eq_false,and_false,false_and,if_false]at d
    repeat'(first|refine gD ?_|(conv=>whnf);first|refine CQ G ?_|refine CK ω ?_|refine CA (aa n) ?_|refine CJ ω (aa o) ?_|refine CJ w.1 (aa y) ?_|refine CJ r.1 (aa H) ?_|refine CJ w.1 (aa T) ?_|refine CJ r.1 (aa U) ?_|refine CF rfl (aa n) rfl ?_|refine CF rfl (aa o) rfl ?_|refine CF rfl (aa y) rfl ?_|refine CF rfl (aa H) rfl ?_|refine C6 (M) ?_|refine C9 ?_|refine CM rfl rfl (aa y) rfl (X0 rfl) rfl ?_|refine CJ r.1 ub2 ?_|refine CM rfl rfl ub2 rfl (X0 rfl) rfl ?_|refine Ap.sm (aL λ_=>rfl) rfl (by simp;omega) (by decide) (gQ (f6.enc .own) out ⟨a,b⟩) ?_)
    ((conv=>whnf);refine CB (j+1) ω ω ?_)
    rw[d]
    first|(rw[HK w r];simp only[y8,t5])|skip
    exact wB
  ·obtain rfl:j=p.length / 2:=ω
   repeat'(first|refine gD ?_|fail)
   ((conv=>whnf);refine CB (t+1) ω ω ?_;(exact wB))
 ·obtain rfl:t=3:=ω
  repeat'(first|refine gD ?_|fail)
  rfl
theorem D2(x:List f6):d2 (iC .own x)=iC .imm x:=by simp[d2,iC,f6.enc,<-bT,X4]
theorem ao.fzR{P:Program}{f:Nat}{sh:Bool}{A:List RA}{k:Kd}{rcs:List C}(h:ao P f sh A k rcs):ao P f sh A k (d2 rcs):=by
 obtain⟨c,d⟩:=h;refine⟨c,λw S g i j=>(d w S g i j).mono λe w1 l=>?_⟩;obtain⟨v,n,p,X,q,r,t,B,u,y⟩:=l;refine⟨v,n,p,NO,λb o=>q b o\/X b o,λ_ _ h=>h.elim,λb o a=>?_,λ_ _ h=>h.elim,by rw[bT,W0];exact u,y.freeze⟩;rcases a with a|a
 ·exact t b o a
 ·exact .inr (r b o a)
structure Mo(ls:List au)(q:f6):Prop where
 a:0<=q.A/\q.A<ls.length
 b:0<=q.B/\q.B<ls.length
 m:meshable (nth ls q.A.toNat) (nth ls q.B.toNat)=true
theorem Fz{b:List au}{p:List Int}(c:∀x∈p,0<=x/\x<b.length)(t:Nat){out:List f6}(d:∀q∈out,Mo b q):∀{i:Nat},i<=p.length / 2->∀q∈sR b p t out i,Mo b q
 | 0,_=>d
 | i+1,h=>λq a=>by
  have e:=Fz c t d (i:=i) ω;simp only[sR,stp]at a;split at a
  ·rename_i g
   rcases Q2.1 a with a|a
   ·exact e q a
   ·obtain rfl:=Z0.1 a
    have f:(i+t) % (p.length - p.length / 2)<p.length - p.length / 2:=Nat.mod_lt _ ω;exact⟨c _ (am ω),c _ (am ω),g.2.2⟩
  ·exact e q a
theorem EX{a:List au}{p:List Int}(b:∀x∈p,0<=x/\x<a.length):∀t,∀q∈pz a p t,Mo a q
 | 0=>λq c=>by cases c
 | t+1=>Fz b t (EX b t) (R2 _)
theorem pA(a:List au){s:Int}(b:0<=s/\s<=1073741823):∀q∈l7 a s,Mo a q:=EX (rK a.length b (R2 _)) 3
theorem Le(s:au)(n:Nat):(tt s n).Pairwise (· < ·):=by
 unfold tt;rw[List.pairwise_map];exact(List.pairwise_lt_range.sublist List.filter_sublist).imp λh=>ω
theorem Ns{s:au}{n:Nat} : ∀z∈tt s n,0<=z/\z<n:=λz a=>by
 unfold tt at a;simp only[V3,W3,List.mem_range]at a;obtain⟨c,⟨b,-⟩,rfl⟩:=a;omega
theorem uS(s:au):cJ (tt s 16).length (lG (tt s 16))=true:=by
 refine cw.2 λj a=>?_
 have c:=Ns _ (am a);unfold lG;refine O0 ⟨ω,ω,?_⟩;by_cases e:j=0
 ·exact .inl e
 ·refine .inr ?_
  have b:=List.pairwise_iff_getElem.1 (Le s 16) (j - 1) j ω a ω;rw[show nth (tt s 16) (j - 1)=(tt s 16)[j - 1] from bq (U1 ω),show nth (tt s 16) j=(tt s 16)[j] from bq (U1 a)];exact b
theorem qX{a b:au}(c:meshable a b=true):en (d4 a b)=true/\bf a=true/\bf b=true:=by
 unfold meshable at c;simp only[I0,C0]at c;have d:=aE c.1.1;have e:=aE c.1.2;refine⟨?_,c.1⟩;unfold d4 en;split
 ·simp only[I0,C0];exact⟨uS a,ω⟩
 ·simp only[I0,C0];exact⟨uS b,ω⟩
theorem DT(a b:au):ca.sml (d4 a b):=by
 have c:=pP a 16;have d:=pP b 16;unfold d4 ca.sml pV;split<;>simp only<;>omega
def bJ(h:ab):List au:=(lJ h).take 16
def started(h:ab):ab × Bool:=match l7 (bJ h) h.Seed with
 | []=>({h with Seed:=(shuf (bJ h).length h.Seed).2},false)
 | q::_=>({h with Seed:=(shuf (bJ h).length h.Seed).2,Meshing:=true,Job:=uv (d4 (nth (bJ h) q.A.toNat) (nth (bJ h) q.B.toNat))},true)
theorem HW{h:ab}{E:List Int}(a:bm h E):h.Spans.length<=32/\dE h<=32/\wG h/\∀s∈h.Spans,s.Bits<=9223372036854775807:=by
 have b:=a.lens;refine⟨b.spans,b.ents,?_,λs c=>by have:=ef (a.L.sok s c);omega⟩;have:=(b6 a.ker).1.2;exact this
theorem DM(h:ab):(bJ h).length<=16:=by unfold bJ;rw[I1];omega
theorem MB(x:List f6)(z:Int):d2 (iC .own x++[I z])=iC .imm x++[I z]:=by
 have h:=D2 x;rw[bT]at h |-;rw[W4,h];simp[fz]
theorem MS(h:ab):(bJ h).map (au.enc .imm)=((lJ h).map (au.enc .imm)).take 16:=T3
theorem Eo(p:ca)(b:en p=true)(c:ca.sml p):ao Tryz.prog 367 false [.val (some 3) (ca.enc .imm p)] (.tup [some 5,none]) (ul (uv p)++[B true]):=by
 have h:=(BX p b c).fzR;have e:d2 (cv.enc .own (uv p)++[B true])=ul (uv p)++[B true]:=by
  have a:=cv.enc_fz (uv p);rw[bT]at a |-;rw[W4,a];simp[fz,cv.enc,ul]
 rwa [e]at h
theorem wo(h:ab)(w:bm h []):aO Tryz.prog 307 false [.ptr (bv h)] [.ptr (bv (started h).1)] .one [B (started h).2]:=by
 obtain⟨w1,Q,H,J⟩:=HW w;have a:=w.nums;unfold cm at a;rw[C0]at a;have e:=(vZ h H ω ω J).fzR;rw[we]at e;have o:=DM h;have b:=(te (bJ h) h.Seed ⟨a.1,a.2.1⟩ o).fzR;rw[MB]at b;have g:=pA (bJ h) ⟨a.1,a.2.1⟩;have K:=uE h h.Spans.length;have y:(lJ h).length<=32:=by unfold lJ;omega
 have j:=MS h;unfold started;cases C:l7 (bJ h) h.Seed with
 | nil=>
  rw[C]at b;by_cases L:16<(lJ h).length
  ·refine fM 62 [] [(8,275,[34,35,36,37,38,39,40,41,42,43,44,45,46,47,48,33,49,50,6,0,1,2,3,4,5,6,7,8,9,10,11,12,13,14,15,16,17,18,19,1017,20])] [(0,0)] Tryz.func307 rfl (λu q=>?_)
   repeat'(first|refine gD ?_|(conv=>whnf);first|refine C9 ?_|refine CE (e) ⟨⟨rfl,b8 h⟩,trivial⟩ ?_|refine C6 (b) ?_|refine CS 16 rfl (by rw[W0];omega) (aL λ_=>rfl) j ?_)
   refine CD rfl rfl ?_;exact wC
  ·have k:bJ h=lJ h:=by unfold bJ;exact U5 ω
   rw[k]at b;refine fM 62 [] [(8,275,[34,35,36,37,38,39,40,41,42,43,44,45,46,47,48,33,49,50,6,0,1,2,3,4,5,6,7,8,9,10,11,12,13,14,15,16,17,18,19,1017,20])] [(0,0)] Tryz.func307 rfl (λu q=>?_);rw[k]
   repeat'(first|refine gD ?_|(conv=>whnf);first|refine C9 ?_|refine CE (e) ⟨⟨rfl,b8 h⟩,trivial⟩ ?_|refine C6 (b) ?_)
   refine CD rfl rfl ?_;exact wC
 | cons q M=>
  rw[C]at b g;obtain⟨E,F,G⟩:=g q (O1 ..);obtain⟨N,O,P⟩:=qX G;have p:=xb _ _ G O P;have t:=Eo _ N (DT _ _);have c:=ah (xs:=bJ h) (i:=q.A.toNat) ω;have d:=ah (xs:=bJ h) (i:=q.B.toNat) ω;have l:(q::M)[0]? = some q:=rfl;by_cases L:16<(lJ h).length
  ·refine fM 62 [] [(8,275,[34,35,36,37,38,39,40,41,42,43,44,45,46,47,48,33,49,50,6,0,1,2,3,4,5,6,7,8,9,10,11,12,13,14,15,16,17,18,19,1017,20])] [(0,0)] Tryz.func307 rfl (λu r=>?_)
   repeat'(first|refine gD ?_|(conv=>whnf);first|with_reducible refine Bf.D (λn=>absurd n (by simp)) (λn=>?_)|refine C9 ?_|refine CE (e) ⟨⟨rfl,b8 h⟩,trivial⟩ ?_|refine C6 (b) ?_|refine CS 16 rfl (by rw[W0];omega) (aL λ_=>rfl) j ?_|refine CJ (by decide) (aa l) ?_|refine CJ E.1 (aa c) ?_|refine CJ F.1 (aa d) ?_|refine C6 (p) ?_|refine CE (t) ⟨⟨rfl,ca.enc_fz _⟩,trivial⟩ ?_|refine C9 ?_)
   refine CD rfl rfl ?_;exact wC
  ·have k:bJ h=lJ h:=by unfold bJ;exact U5 ω
   rw[k]at b p t c d;refine fM 62 [] [(8,275,[34,35,36,37,38,39,40,41,42,43,44,45,46,47,48,33,49,50,6,0,1,2,3,4,5,6,7,8,9,10,11,12,13,14,15,16,17,18,19,1017,20])] [(0,0)] Tryz.func307 rfl (λu r=>?_);rw[k]
   repeat'(first|refine gD ?_|(conv=>whnf);first|with_reducible refine Bf.D (λn=>absurd n (by simp)) (λn=>?_)|refine C9 ?_|refine CE (e) ⟨⟨rfl,b8 h⟩,trivial⟩ ?_|refine C6 (b) ?_|refine CJ (by decide) (aa l) ?_|refine CJ E.1 (aa c) ?_|refine CJ F.1 (aa d) ?_|refine C6 (p) ?_|refine CE (t) ⟨⟨rfl,ca.enc_fz _⟩,trivial⟩ ?_|refine C9 ?_)
   refine CD rfl rfl ?_;exact wC
def dh(k:af):af:={k with Calls:=k.Calls+1}
def refd(k:af):Bool:=decide (k.Calls∈k.Refuse)
def u7(k:af)(p:Int)(m:Int):af:={k with Machine:=⟨k.Machine.Frames,⟨k.Machine.Table.Entries.set p.toNat {nth k.Machine.Table.Entries p.toNat with Mode:=m}⟩⟩}
def jK(k:af)(p m:Int):af × Bool:=if refd k=true then(dh k,false) else(u7 (dh k) p m,true)
theorem G6(k:af)(p m:Int):af.enc .own (u7 k p m)=(af.enc .own k).set 2 (.s .own ((k.Machine.Table.Entries.map (bh.enc .own)).set p.toNat (bh.enc .own {nth k.Machine.Table.Entries p.toNat with Mode:=m}))):=by
 simp[af.enc,u7,t5]
theorem row16{k:af}(a:aA k=true){f:Nat}(b:f<k.Machine.Frames.Cells.length):(nth k.Machine.Frames.Cells f).length=16:=by
 have:=(aW.1 (aC.1 a).2.1).2.2.2 f b;unfold gK at this;simp only[I0,C0]at this;omega
def setCell(k:af)(f:Nat)(c v:Int):af:={k with Machine:=⟨⟨k.Machine.Frames.Cells.set f ((nth k.Machine.Frames.Cells f).set c.toNat v),k.Machine.Frames.Used⟩,k.Machine.Table⟩}
theorem Bz(k:af)(f:Nat)(c v:Int):af.enc .own (setCell k f c v)=(af.enc .own k).set 0 (.s .own ((k.Machine.Frames.Cells.map (aF .own)).set f [.s .own (((nth k.Machine.Frames.Cells f).map (rI .own)).set c.toNat [I v])])):=by
 simp[af.enc,setCell,t5,aF,rI]
def lV(k:af)(p:Int):Nat:=(ar k.Machine.Table p).Frame.toNat
def xF(k:af)(a b c:Int):af:=setCell k (lV k b) c (nth (nth k.Machine.Frames.Cells (lV k a)) c.toNat)
def Mx(k:af)(a b c:Int):Nat->af
 | 0=>k
 | _+1=>xF k a b c
def vb(k:af)(p:Nat)(e:bh):af:={k with Machine:=⟨k.Machine.Frames,⟨k.Machine.Table.Entries.set p e⟩⟩}
theorem HH(k:af)(p:Nat)(e:bh):af.enc .own (vb k p e)=(af.enc .own k).set 2 (.s .own ((k.Machine.Table.Entries.map (bh.enc .own)).set p (bh.enc .own e))):=by
 simp[af.enc,vb,t5]
theorem Jo{k:af}(p:Nat)(e:bh)(h:aG.sml k.Machine.Table):aG.sml (vb k p e).Machine.Table:=by
 refine⟨?_,λx _=>trivial⟩;show(k.Machine.Table.Entries.set p e).length<=_;rw[C1];exact h.1
def zd(k:af)(p o:Int):af × Bool:=if refd k=true then(dh k,false) else(gc (vb (dh k) p.toNat ⟨2,(nth k.Machine.Table.Entries o.toNat).Frame⟩) (nth k.Machine.Table.Entries p.toNat).Frame,true)
def k6(m:aQ)(a v:Int):aQ × Int:=
 if(ar m.Table (a / 16)).Mode=0 then(m,1) else if(ar m.Table (a / 16)).Mode=1 then(m,2) else
 (⟨⟨m.Frames.Cells.set (ar m.Table (a / 16)).Frame.toNat ((nth m.Frames.Cells (ar m.Table (a / 16)).Frame.toNat).set (a % 16).toNat v),m.Frames.Used⟩,m.Table⟩,0)
theorem En(m:aQ)(f:Nat)(c v:Int):aQ.enc .own ⟨⟨m.Frames.Cells.set f ((nth m.Frames.Cells f).set c.toNat v),m.Frames.Used⟩,m.Table⟩ = (aQ.enc .own m).set 0 (.s .own ((m.Frames.Cells.map (aF .own)).set f [.s .own (((nth m.Frames.Cells f).map (rI .own)).set c.toNat [I v])])):=by
 simp[aQ.enc,t5,aF,rI]
def jmay(k:af)(j:cv):Bool:=(aA k&&decide (k.Calls≠100000))&&(iG j&&decide ((ar k.Machine.Table j.Plan.Keep).Mode≠0/\(ar k.Machine.Table j.Plan.Move).Mode≠0/\(ar k.Machine.Table j.Plan.Keep).Frame≠(ar k.Machine.Table j.Plan.Move).Frame))
def jstep(k:af)(j:cv):af × cv:=
 if j.Phase=0 then((jK k j.Plan.Move 1).1,{j with Phase:=if(jK k j.Plan.Move 1).2=true then 1 else 5})
 else if j.Phase=1 then(if j.Next=j.Plan.Cells.length then(k,{j with Phase:=2}) else(xF k j.Plan.Move j.Plan.Keep (nth j.Plan.Cells j.Next.toNat),{j with Next:=j.Next+1}))
 else if j.Phase=2 then((zd k j.Plan.Move j.Plan.Keep).1,{j with Phase:=if(zd k j.Plan.Move j.Plan.Keep).2=true then 4 else 3})
 else if j.Phase=3 then(if 0<j.Next then({k with Machine:=(k6 k.Machine (j.Plan.Keep*16+nth j.Plan.Cells (j.Next - 1).toNat) 0).1},{j with Next:=j.Next - 1}) else((jK k j.Plan.Move 2).1,{j with Phase:=if(jK k j.Plan.Move 2).2=true then 5 else 3}))
 else(k,j)
theorem Jh{k:af}{f:Int}(h1:∀j,j<k.Refuse.length->0<=nth k.Refuse j)(d:cY k.Machine.Frames=true)(g:f8 k.Machine.Table k.Machine.Frames.Used.length=true)(h:∀j:Nat,j<k.Machine.Frames.Used.length->(j:Int)≠f->nth k.Machine.Frames.Used j=decide (0<(pagesOn k.Machine.Table (j:Int)).length))(t:0<=f/\f<k.Machine.Frames.Used.length)(l:nth k.Machine.Frames.Used f.toNat=true)(i:0<=k.Calls/\k.Calls<=100000/\k.Refuse.length<=40):aA (gc k f)=true:=by
 obtain⟨n,o,p,q⟩:=aW.1 d;unfold gc;split
 ·rename_i c
  rw[aC];simp only[C1];refine⟨h1,?_,g,λj b=>?_,i⟩
  ·rw[aW]
   simp only[C1,cB];refine⟨n,o,p,λj b=>?_⟩;by_cases a:f.toNat=j
   ·rw[C8 ⟨a,b⟩,C8 ⟨a,ω⟩];decide
   ·rw[C7 (λe=>a e.1),C7 (λe=>a e.1)];exact q j b
  ·rw[cB]
   by_cases a:f.toNat=j
   ·rw[C8 ⟨a,b⟩]
    have:(j:Int)=f:=ω
    rw[this];exact(Q0 λr=>absurd c (Nat.ne_of_gt r)).symm
   ·rw[C7 (λe=>a e.1)];exact h j b ω
 ·rename_i c
  rw[aC];refine⟨h1,d,g,λj b=>?_,i⟩;by_cases a:(j:Int)=f
  ·rw[a,show j=f.toNat by omega,l]
   exact(O0 (Nat.pos_of_ne_zero c)).symm
  ·exact h j b a
def tEq(t a:aG):Prop:=a.Entries.length=t.Entries.length/\∀q:Nat,((nth a.Entries q).Mode≠0↔(nth t.Entries q).Mode≠0)/\(nth a.Entries q).Frame=(nth t.Entries q).Frame
theorem tEq.refl(t:aG):tEq t t:=⟨rfl,λ_=>⟨Iff.rfl,rfl⟩⟩
theorem tEq.of{t a:aG}(h:a=t):tEq t a:=by rw[h];exact tEq.refl t
theorem tEq.pagesOn{t a:aG}(h:tEq t a)(f:Int):Ab.pagesOn a f=Ab.pagesOn t f:=by
 unfold Ab.pagesOn iI;rw[h.1]
 congr 1
 refine List.filter_congr λq _=>?_
 obtain⟨b,c⟩:=h.2 q;unfold Hq;rw[c];exact decide_eq_decide.2 (and_congr b Iff.rfl)
theorem yA{k:af}(h:aA k=true){a:aG}(c:tEq k.Machine.Table a)(i:∀q,q<a.Entries.length->0<=(nth a.Entries q).Mode/\(nth a.Entries q).Mode<=2):aA {k with Machine:=⟨k.Machine.Frames,a⟩} = true:=by
 obtain⟨l,n,o,p,r⟩:=aC.1 h;obtain⟨t,u,w⟩:=bu.1 o;rw[aC];refine⟨l,n,bu.2 ⟨λj b=>?_,?_,?_⟩,λj b=>?_,r⟩
 ·replace b:j<a.Entries.length:=b
  have e:=t j (by rw[<-c.1];exact b);have d:=i j b;obtain⟨g,y⟩:=c.2 j;show jF _ (nth a.Entries j)=true;unfold jF at e |-;rw[C0]at e |-;rw[y];refine⟨d.1,d.2,λf=>e.2.2.1 (Classical.byContradiction λA=>(g.2 A) f),λf=>e.2.2.2 (g.1 f)⟩
 ·show 1<=a.Entries.length;rw[c.1];exact u
 ·show a.Entries.length<=32;rw[c.1];exact w
 ·show nth k.Machine.Frames.Used j=decide (0<(Ab.pagesOn a (j:Int)).length)
  rw[c.pagesOn];exact p j b
theorem kP{k:af}(h:aA k=true)(f:k.Calls≠100000):aA (dh k)=true:=by
 obtain⟨a,b,c,d,g,i,e⟩:=aC.1 h;rw[aC];exact⟨a,b,c,d,by show 0<=k.Calls+1;omega,by show k.Calls+1<=100000;omega,e⟩
theorem r8{k:af}{p m:Int}(a:(nth k.Machine.Table.Entries p.toNat).Mode≠0)(b:m=1\/m=2):tEq k.Machine.Table (u7 k p m).Machine.Table:=by
 refine⟨by simp[u7],λq=>?_⟩;simp only[u7,cB];split
 ·rename_i e
  rw[<-e.1];exact⟨⟨λ_=>a,λ_=>by show m≠0;omega⟩,rfl⟩
 ·exact⟨Iff.rfl,rfl⟩
theorem KH{k:af}(h:aA k=true){p m:Int}(d:(nth k.Machine.Table.Entries p.toNat).Mode≠0)(a:m=1\/m=2):aA (u7 k p m)=true:=by
 refine yA h (r8 d a) λq e=>?_
 obtain⟨i,j,f,l,n⟩:=aC.1 h;obtain⟨g,o,r⟩:=bu.1 f;have c:q<k.Machine.Table.Entries.length:=by rw[<-(r8 d a).1];exact e
 have b:=g q c;unfold jF at b;rw[C0]at b;simp only[cB];split
 ·show 0<=m/\m<=2;omega
 ·exact⟨b.1,b.2.1⟩
theorem A5{k:af}{p m:Int}(h:aA k=true)(c:k.Calls≠100000)(b:(ar k.Machine.Table p).Mode≠0)(a:m=1\/m=2):aA (jK k p m).1=true/\tEq k.Machine.Table (jK k p m).1.Machine.Table:=by
 obtain⟨e,f,d,-⟩:=bZ h b;rw[d]at b;unfold jK;split
 ·exact⟨kP h c,tEq.refl _⟩
 ·exact⟨KH (kP h c) b a,r8 (k:=dh k) b a⟩
theorem ir{k:af}(h:aA k=true){p:Int}(b:(ar k.Machine.Table p).Mode≠0):lV k p<k.Machine.Frames.Cells.length/\nth k.Machine.Frames.Used (lV k p)=true/\((lV k p:Nat):Int)=(nth k.Machine.Table.Entries p.toNat).Frame:=by
 obtain⟨f,g,a,i,j⟩:=bZ h b;obtain⟨l,d,n,e,o⟩:=aC.1 h;obtain⟨q,r,t,u⟩:=aW.1 d;have c:((lV k p:Nat):Int)=(ar k.Machine.Table p).Frame:=by unfold lV;omega
 refine⟨ω,?_,by rw[c,a]⟩;rw[e _ ω,c];refine O0 (dS.2 ⟨p.toNat,ω,?_,?_⟩)
 ·rw[<-a];exact b
 ·rw[<-a]
theorem Jn{k:af}(h:aA k=true){f:Nat}{a:List Int}(c:a.length=16)(d:∀v∈a,0<=v/\v<=999)(g:nth k.Machine.Frames.Used f=true):aA {k with Machine:=⟨⟨k.Machine.Frames.Cells.set f a,k.Machine.Frames.Used⟩,k.Machine.Table⟩} = true:=by
 obtain⟨i,l,n,o,p⟩:=aC.1 h;obtain⟨q,r,t,u⟩:=aW.1 l;refine aC.2 ⟨i,aW.2 ⟨?_,?_,?_,λj b=>?_⟩,n,o,p⟩
 ·simp only[C1];exact q
 ·simp only[C1];exact r
 ·simp only[C1];exact t
 ·simp only[C1]at b |-
  simp only[cB];split
  ·rename_i e
   obtain⟨rfl,-⟩:=e;unfold gK;simp only[I0,C0,Q3];refine⟨c,λv w=>?_⟩;have:=d v w;unfold ik;simp[g,this]
  ·exact u j b
theorem zf{k:af}(h:aA k=true){f:Nat}(b:f<k.Machine.Frames.Cells.length):(nth k.Machine.Frames.Cells f).length=16/\∀v∈nth k.Machine.Frames.Cells f,0<=v/\v<=999:=by
 obtain⟨g,c,i,j,l⟩:=aC.1 h;obtain⟨n,o,p,d⟩:=aW.1 c;have a:=d f b;unfold gK at a;simp only[I0,C0,Q3]at a;refine⟨a.1,λv e=>?_⟩;have:=a.2 v e;unfold ik at this;simp only[I0,C0]at this;exact this.1
theorem p7{k:af}(h:aA k=true){f:Nat}(b:f<k.Machine.Frames.Cells.length)(d:nth k.Machine.Frames.Used f=true){c v:Int}(e:0<=v/\v<=999):aA (setCell k f c v)=true:=by
 obtain⟨g,i⟩:=zf h b;refine Jn h (by rw[C1];exact g) (λz a=>?_) d;rcases C5 a with a|rfl
 ·exact i z a
 ·exact e
theorem JJ{k:af}(h:aA k=true){a b c:Int}(d:(ar k.Machine.Table a).Mode≠0)(e:(ar k.Machine.Table b).Mode≠0)(l:0<=c/\c<=15):aA (xF k a b c)=true:=by
 obtain⟨f,n,-⟩:=ir h d;obtain⟨g,i,-⟩:=ir h e;obtain⟨o,j⟩:=zf h f;exact p7 h g i (j _ (am ω))
theorem Nk{k:af}{p o:Int}(h:aA k=true)(u:k.Calls≠100000)(i:(ar k.Machine.Table p).Mode≠0)(d:(ar k.Machine.Table o).Mode≠0)(w:p≠o):aA (zd k p o).1=true:=by
 unfold zd;split
 ·exact kP h u
 obtain⟨O,y,A⟩:=ir h i;obtain⟨P,Q,R⟩:=ir h d;obtain⟨S,T,B,r,t⟩:=bZ h i;obtain⟨U,V,C,D,E⟩:=bZ h d;obtain⟨F,G,H,J,W,X,K⟩:=aC.1 h;obtain⟨L,M,N⟩:=bu.1 H;rw[C]at D E d;rw[B]at r t i;have a:∀q,nth (k.Machine.Table.Entries.set p.toNat ⟨2,(nth k.Machine.Table.Entries o.toNat).Frame⟩) q=if p.toNat=q then⟨2,(nth k.Machine.Table.Entries o.toNat).Frame⟩ else nth k.Machine.Table.Entries q:=λq=>by
  rw[cB];by_cases f:p.toNat=q
  ·rw[C8 ⟨f,ω⟩,C8 f]
  ·rw[C7 (λe=>f e.1),C7 f]
 refine Jh F G (bu.2 ⟨λj c=>?_,?_,?_⟩) (λj c l=>?_) ⟨r,t⟩ (by rw[<-A];exact y) ⟨by show 0<=k.Calls+1;omega,by show k.Calls+1<=100000;omega,K⟩
 ·simp only[vb,dh,C1]at c |-
  rw[a];split
  ·unfold jF;rw[C0];simp only;omega
  ·exact L j c
 ·simp only[vb,dh,C1];exact M
 ·simp only[vb,dh,C1];exact N
 ·replace c:j<k.Machine.Frames.Used.length:=c
  show nth k.Machine.Frames.Used j=_;rw[J j c];refine decide_eq_decide.2 ?_;rw[dS,dS];simp only[vb,dh,C1,a];constructor
  ·rintro⟨q,n,g,b⟩
   refine⟨q,n,?_⟩;rw[C7 (λe=>l (by rw[<-b,<-e]))];exact⟨g,b⟩
  ·rintro⟨q,n,g,b⟩
   by_cases e:p.toNat=q
   ·rw[C8 e]at b
    exact⟨o.toNat,ω,d,b⟩
   ·rw[C7 e]at g b
    exact⟨q,n,g,b⟩
theorem Mr{k:af}{p o:Int}(h:aA k=true)(b:(ar k.Machine.Table p).Mode≠0)(a:(zd k p o).2=true)(q:Nat):(zd k p o).1.Machine.Table.Entries.length=k.Machine.Table.Entries.length/\nth (zd k p o).1.Machine.Table.Entries q=if(q:Int)=p then⟨2,(nth k.Machine.Table.Entries o.toNat).Frame⟩ else nth k.Machine.Table.Entries q:=by
 obtain⟨d,f,-⟩:=bZ h b;unfold zd at a |-;split at a
 ·cases a
 rename_i c;rw[C7 c];simp only[(oe _ _).1];simp only[vb,dh,C1,cB];refine⟨trivial,?_⟩;by_cases e:(q:Int)=p
 ·rw[C8 ⟨ω,ω⟩,C8 e]
 ·rw[C7 λz=>e ω,C7 e]
theorem MN{k:af}{p o:Int}(a:(zd k p o).2=false):(zd k p o).1=dh k:=by
 unfold zd at a |-;split
 ·rfl
 ·rename_i b;rw[C7 b]at a;cases a
theorem Gl{k:af}{a v:Int}(h:aA k=true)(g:0<=a)(b:0<=v/\v<=999):aA {k with Machine:=(k6 k.Machine a v).1} = true/\(k6 k.Machine a v).1.Table=k.Machine.Table:=by
 unfold k6;split
 ·exact⟨h,rfl⟩
 rename_i d;split
 ·exact⟨h,rfl⟩
 ·obtain⟨e,f,-⟩:=ir h d
  exact⟨p7 h e f (c:=a % 16) b,rfl⟩
def mT(t:aG)(p:Int):Prop:=∀q:Nat,(nth t.Entries q).Mode≠0->(nth t.Entries q).Frame=(nth t.Entries p.toNat).Frame->(q:Int)=p
structure JI(h:ab):Prop where
 ph:h.Meshing=true->0<=h.Job.Phase/\h.Job.Phase<=3
 sp:h.Meshing=true->∃a∈h.Spans,∃b∈h.Spans,a.Page=h.Job.Plan.Keep/\b.Page=h.Job.Plan.Move/\meshable a b=true
 sk:h.Meshing=true->mT (tbl h) h.Job.Plan.Keep
 sm:h.Meshing=true->mT (tbl h) h.Job.Plan.Move
theorem mT.tEq{t a:aG}{p:Int}(h:mT t p)(b:tEq t a):mT a p:=λq c d=>by
 obtain⟨e,f⟩:=b.2 q;exact h q (e.1 c) (by rw[<-f,<-(b.2 p.toNat).2];exact d)
theorem Pg.tEq{t b:aG}{c:List ax}{sp:List au}{la:List a8}(h:Pg t c sp la)(a:tEq t b):Pg b c sp la where
 one l hl p hp q hq h1 h2:=h.one l hl p hp q (by rw[<-a.1];exact hq) ((a.2 q).1.1 h1) (by rw[<-(a.2 q).2,<-(a.2 p).2];exact h2)
 bnd p hp:=by rw[a.1];exact h.bnd p hp
 own p hp:=(a.2 p).1.trans (h.own p (by rw[<-a.1];exact hp))
 fre p hp:=(a.2 p).1.trans (h.fre p (by rw[<-a.1];exact hp))
 mesh s hs u hu hne hf:=h.mesh s hs u hu hne (by rw[<-(a.2 _).2,<-(a.2 u.Page.toNat).2];exact hf)
theorem bm.step{h:ab}{E:List Int}(a:bm h E){k:af}(b:aA k=true)(c:k.Machine.Table.Entries.length=(tbl h).Entries.length)(d:Pg k.Machine.Table h.Free h.Spans h.Larges){j:cv}{m:Bool}(h1:m=true->iG j=true/\(∃s∈h.Spans,s.Page=j.Plan.Keep)/\∃s∈h.Spans,s.Page=j.Plan.Move)(e:m=false->pK j=true):bm {h with Kernel:=k,Meshing:=m,Job:=j} E:=
 {a with
   ker:=b
   rng:=by show br ((k.Machine.Table.Entries.length:Nat):Int) h.Free=true;rw[c];exact a.rng
   pg:=d
   job:=h1
   noj:=e}
theorem qL.apart{sp:List au}{la:List a8}(b:qL sp la){s:au}(c:s∈sp){l:a8}(d:l∈la){p:Int}(a:p∈lpgs l l.Pages.toNat):s.Page≠p:=by
 unfold lpgs at a;simp only[V3,List.mem_range]at a;obtain⟨k,e,rfl⟩:=a;exact b.dis s c l d k e
theorem Pg.on{t H:aG}{Q:List ax}{sp:List au}{la:List a8}(h:Pg t Q sp la)(r:qL sp la){a b:au}(w:a∈sp)(L:b∈sp)(R:meshable a b=true)(A:mT t a.Page)(M:(nth t.Entries a.Page.toNat).Mode≠0)(N:(nth t.Entries b.Page.toNat).Mode≠0)(U:0<=b.Page)(J:H.Entries.length=t.Entries.length)(B:∀q:Nat,nth H.Entries q=if(q:Int)=b.Page then⟨2,(nth t.Entries a.Page.toNat).Frame⟩ else nth t.Entries q):Pg H Q sp la:=by
 have c:∀q:Nat,(nth H.Entries q).Mode≠0↔(nth t.Entries q).Mode≠0:=λq=>by
  rw[B];split
  ·rename_i e
   rw[show q=b.Page.toNat by omega];exact⟨λ_=>N,λ_=>by show(2:Int)≠0;omega⟩
  ·rfl
 have V:0<=a.Page:=by have:=r.sok a w;unfold bf at this;rw[C0]at this;omega
 refine⟨λl k p g q W S C=>?_,λp g=>by rw[J];exact h.bnd p g,λp g=>(c p).trans (h.own p (by rw[<-J];exact g)),λp g=>(c p).trans (h.fre p (by rw[<-J];exact g)),λs D u E F n=>?_⟩
 ·have O:¬(p:Int)=b.Page:=λe=>r.apart L k g e.symm
  rw[B p,C7 O,B q]at C;rw[c]at S;by_cases e:(q:Int)=b.Page
  ·rw[C8 e]at C
   have T:=h.one l k p g a.Page.toNat (by have:=h.bnd _ (dl (la:=la) w);omega) M C;exact absurd (show a.Page=(p:Int) by omega) (r.apart w k g)
  ·rw[C7 e]at C
   exact h.one l k p g q (by rw[<-J];exact W) S C
 ·have X:0<=s.Page:=by have:=r.sok s D;unfold bf at this;rw[C0]at this;omega
  have Y:0<=u.Page:=by have:=r.sok u E;unfold bf at this;rw[C0]at this;omega
  have d:∀x∈sp,∀y∈sp,x.Page=y.Page->x=y:=λx G y Z e=>by
   obtain⟨i,hi,rfl⟩:=bc G;obtain⟨j,hj,rfl⟩:=bc Z;rw[gu (f:=(·.Page)) r.nd hi hj e]
  have o:∀x∈sp,(nth t.Entries x.Page.toNat).Mode≠0:=λx G=>by
   have hx0:0<=x.Page:=by have:=r.sok x G;unfold bf at this;rw[C0]at this;omega
   refine(h.own x.Page.toNat (by have:=h.bnd _ (dl (la:=la) G);omega)).2 ?_;rw[show((x.Page.toNat:Nat):Int)=x.Page by omega];exact dl G
  rw[B,B]at n;simp only[show((s.Page.toNat:Nat):Int)=s.Page by omega,show((u.Page.toNat:Nat):Int)=u.Page by omega]at n;by_cases K:s.Page=b.Page
  ·rw[C8 K,C7 (λe=>F (K.trans e.symm))]at n
   have T:=A u.Page.toNat (o u E) n.symm;rw[d s D b L K,d u E a w ω,i6];exact R
  ·rw[C7 K]at n
   by_cases P:u.Page=b.Page
   ·rw[C8 P]at n
    have T:=A s.Page.toNat (o s D) n;rw[d u E b L P,d s D a w ω];exact R
   ·rw[C7 P]at n
    exact h.mesh s D u E F n
def over(j:cv):Bool:=decide (j.Phase=4\/j.Phase=5)
def iJ(k:af)(j:cv):af × cv:=if jmay k j=true then jstep k j else(k,j)
def mStep(h:ab):ab:={h with Kernel:=(iJ h.Kernel h.Job).1,Meshing:=if over (iJ h.Kernel h.Job).2=true then false else h.Meshing,Job:=if over (iJ h.Kernel h.Job).2=true then⟨⟨0,0,[]⟩,0,0⟩ else(iJ h.Kernel h.Job).2}
def Ba(h:ab):Bool:=decide ((iJ h.Kernel h.Job).2.Phase=4)
theorem fm{j:cv} : iG j=true↔en j.Plan=true/\0<=j.Phase/\j.Phase<=5/\0<=j.Next/\j.Next<=j.Plan.Cells.length:=by
 unfold iG;simp only[I0,C0]
theorem kJ{p:ca}(h:en p=true){i:Nat}(a:i<p.Cells.length):0<=nth p.Cells i/\nth p.Cells i<=15:=by
 unfold en at h;simp only[I0]at h;have:=dC h.1 a;unfold lG at this;rw[C0]at this;exact⟨this.1,this.2.1⟩
structure JS(h:ab)(k:af)(j:cv):Prop where
 ker:aA k=true
 len:k.Machine.Table.Entries.length=(tbl h).Entries.length
 pg:j.Phase≠4\/JI h->Pg k.Machine.Table h.Free h.Spans h.Larges
 ph:0<=j.Phase/\j.Phase<=5
 plan:j.Plan=h.Job.Plan
 nxt:0<=j.Next/\j.Next<=j.Plan.Cells.length
 eq:j.Phase≠4->tEq (tbl h) k.Machine.Table
 calls:h.Kernel.Calls<=k.Calls/\k.Calls<=h.Kernel.Calls+1/\k.Refuse=h.Kernel.Refuse
theorem uO(k:af)(p m:Int):(jK k p m).1.Calls=k.Calls+1/\(jK k p m).1.Refuse=k.Refuse:=by
 unfold jK;split<;>exact⟨rfl,rfl⟩
theorem Jm(k:af)(p o:Int):(zd k p o).1.Calls=k.Calls+1/\(zd k p o).1.Refuse=k.Refuse:=by
 unfold zd;split
 ·exact⟨rfl,rfl⟩
 ·obtain⟨-,a,b,-⟩:=oe (vb (dh k) p.toNat ⟨2,(nth k.Machine.Table.Entries o.toNat).Frame⟩) (nth k.Machine.Table.Entries p.toNat).Frame
  simp only[a,b];exact⟨rfl,rfl⟩
theorem JS.of{h:ab}{E:List Int}(c:bm h E)(B:h.Meshing=true):JS h (iJ h.Kernel h.Job).1 (iJ h.Kernel h.Job).2:=by
 obtain⟨R,-,-⟩:=c.job B;obtain⟨O,y,A,o,p⟩:=fm.1 R;unfold iJ;split
 case isFalse=>exact⟨c.ker,rfl,λ_=>c.pg,⟨y,A⟩,rfl,⟨o,p⟩,λ_=>tEq.refl _,C4 _,by show h.Kernel.Calls<=h.Kernel.Calls+1;omega,rfl⟩
 rename_i d;unfold jmay at d;simp only[I0,C0]at d;obtain⟨⟨-,C⟩,-,u,r,D⟩:=d;have fin:∀(k:af)(j:cv),aA k=true->tEq (tbl h) k.Machine.Table->0<=j.Phase/\j.Phase<=5->j.Plan=h.Job.Plan->0<=j.Next/\j.Next<=j.Plan.Cells.length->h.Kernel.Calls<=k.Calls/\k.Calls<=h.Kernel.Calls+1/\k.Refuse=h.Kernel.Refuse->JS h k j:=
  λk j S F T U V W=>⟨S,F.1,λ_=>c.pg.tEq F,T,U,V,λ_=>F,W⟩
 have P:=(aC.1 c.ker).2.2.2.2;unfold jstep;split
 ·obtain⟨l,w⟩:=A5 c.ker C r (m:=1) (.inl rfl)
  obtain⟨g,t⟩:=uO h.Kernel h.Job.Plan.Move 1;refine fin _ _ l w ?_ rfl ⟨o,p⟩ ⟨by rw[g];omega,by rw[g];omega,t⟩;show 0<=(if _ then _ else _:Int)/\(if _ then _ else _:Int)<=5;split<;>omega
 split
 ·split
  ·exact fin _ _ c.ker (tEq.refl _) ⟨by show(0:Int)<=2;omega,by show(2:Int)<=5;omega⟩ rfl ⟨o,p⟩ ⟨C4 _,by show h.Kernel.Calls<=h.Kernel.Calls+1;omega,rfl⟩
  ·have n:=kJ O (i:=h.Job.Next.toNat) ω
   refine fin _ _ (JJ c.ker r u n) (tEq.refl _) ⟨y,A⟩ rfl ⟨by show 0<=h.Job.Next+1;omega,by show h.Job.Next+1<=h.Job.Plan.Cells.length;omega⟩ ⟨C4 _,by show h.Kernel.Calls<=h.Kernel.Calls+1;omega,rfl⟩
 split
 ·have G:h.Job.Plan.Move≠h.Job.Plan.Keep:=λe=>D (by rw[e])
  have l:=Nk c.ker C r u G;obtain⟨g,t⟩:=Jm h.Kernel h.Job.Plan.Move h.Job.Plan.Keep;cases e:(zd h.Kernel h.Job.Plan.Move h.Job.Plan.Keep).2 with
  | false=>
   rw[C7 (by simp)];refine fin _ _ l (tEq.of ?_) ⟨by show(0:Int)<=3;omega,by show(3:Int)<=5;omega⟩ rfl ⟨o,p⟩ ⟨by rw[g];omega,by rw[g];omega,t⟩;rw[MN e];rfl
  | true=>
   rw[C8 rfl];obtain⟨X,m2,Y,-⟩:=bZ c.ker r;obtain⟨n1,n2,Z,-⟩:=bZ c.ker u;have f:=Mr c.ker r e;refine⟨l,(f 0).1,λH=>?_,⟨by show(0:Int)<=4;omega,by show(4:Int)<=5;omega⟩,rfl,⟨o,p⟩,λJ=>absurd rfl J,by rw[g];omega,by rw[g];omega,t⟩;have Q:JI h:=H.elim (λJ=>absurd rfl J) id;obtain⟨a,ha,b,hb,K,M,N⟩:=Q.sp B;refine c.pg.on c.L ha hb N (by rw[K];exact Q.sk B) (by rw[K];show(nth h.Kernel.Machine.Table.Entries _).Mode≠0;rw[<-Z];exact u) (by rw[M];show(nth h.Kernel.Machine.Table.Entries _).Mode≠0;rw[<-Y];exact r) (by rw[M];exact X) (f 0).1 λq=>?_
   rw[(f q).2,M,K];rfl
 split
 ·split
  ·rename_i hn0
   have n:=kJ O (i:=(h.Job.Next - 1).toNat) ω;have hk0:=(bZ c.ker u).1;obtain⟨l,w⟩:=Gl c.ker (a:=h.Job.Plan.Keep*16+nth h.Job.Plan.Cells (h.Job.Next - 1).toNat) (v:=0) ω ⟨ω,ω⟩;exact fin _ _ l (tEq.of w) ⟨y,A⟩ rfl ⟨by show 0<=h.Job.Next - 1;omega,by show h.Job.Next - 1<=h.Job.Plan.Cells.length;omega⟩ ⟨C4 _,by show h.Kernel.Calls<=h.Kernel.Calls+1;omega,rfl⟩
  ·obtain⟨l,w⟩:=A5 c.ker C r (m:=2) (.inr rfl)
   obtain⟨g,t⟩:=uO h.Kernel h.Job.Plan.Move 2;refine fin _ _ l w ?_ rfl ⟨o,p⟩ ⟨by rw[g];omega,by rw[g];omega,t⟩;show 0<=(if _ then _ else _:Int)/\(if _ then _ else _:Int)<=5;split<;>omega
 ·exact fin _ _ c.ker (tEq.refl _) ⟨y,A⟩ rfl ⟨o,p⟩ ⟨C4 _,by show h.Kernel.Calls<=h.Kernel.Calls+1;omega,rfl⟩
theorem bm.mStep{h:ab}{E:List Int}(d:bm h E)(f:JI h)(c:h.Meshing=true):bm (mStep h) E/\JI (mStep h):=by
 have s:=JS.of d c;unfold Ab.mStep;generalize (iJ h.Kernel h.Job).1=k at s |-;generalize (iJ h.Kernel h.Job).2=j at s |-;cases e:over j with
 | true=>
  refine⟨d.step s.ker s.len (s.pg (.inr f)) (λh=>by simp at h) (λ_=>by simp[pK]),?_⟩;exact⟨λh=>by simp at h,λh=>by simp at h,λh=>by simp at h,λh=>by simp at h⟩
 | false=>
  simp only[Bool.false_eq_true,if_false];unfold over at e;simp only[Z3,not_or]at e;have g:=s.eq e.1;have i:=s.ph;refine⟨d.step s.ker s.len (s.pg (.inr f)) (λ_=>⟨fm.2 ⟨by rw[s.plan];exact(fm.1 (d.job c).1).1,s.ph.1,s.ph.2,s.nxt⟩,by rw[s.plan];exact(d.job c).2⟩) (λh=>by rw[c]at h;cases h),?_⟩;refine⟨λ_=>⟨s.ph.1,by show j.Phase<=3;omega⟩,λ_=>?_,λ_=>?_,λ_=>?_⟩
  ·show ∃a∈h.Spans,∃b∈h.Spans,a.Page=j.Plan.Keep/\b.Page=j.Plan.Move/\meshable a b=true
   rw[s.plan];exact f.sp c
  ·show mT k.Machine.Table j.Plan.Keep
   rw[s.plan];exact(f.sk c).tEq g
  ·show mT k.Machine.Table j.Plan.Move
   rw[s.plan];exact(f.sm c).tEq g
end Go.Proofs.YtembpgjjnioagaaGreat.Ab
