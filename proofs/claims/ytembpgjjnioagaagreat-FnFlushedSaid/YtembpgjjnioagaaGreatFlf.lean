/- cx that keep what holds of a heap with addresses in hand. No condition. -/
import Derived.Test.YtembpgjjnioagaaGreatFld
import Derived.Test.YtembpgjjnioagaaGreatFle
import Derived.Deep.LoopGhost
import Derived.Deep.RegionLaw
import Derived.Lib.Walk
import Derived.Sort.WalkB12
import Derived.Lib.SliceRun
import Derived.Shelf.RegionOpenPlain
set_option linter.unusedVariables false
set_option linter.unusedSimpArgs false
set_option linter.constructorNameAsVariable false
namespace Go.Proofs.YtembpgjjnioagaaGreat.Ab
def dele{α:Type}(xs:List α)(i:Nat):List α:=xs.take i++xs.drop (i+1)
theorem eL{α:Type}(xs:List α)(i:Nat):(dele xs i).Sublist xs:=by
 unfold dele;rw[<-List.eraseIdx_eq_take_drop_succ];exact List.eraseIdx_sublist ..
theorem yN{α:Type}[Inhabited α]{xs:List α}{i:Nat}(a:i<xs.length):xs.Perm (nth xs i::dele xs i):=by
 have:xs=xs.take i++nth xs i::xs.drop (i+1):=by rw[<-gQ a,List.take_append_drop]
 conv=>lhs;rw[this]
 exact List.perm_middle
theorem iB{α:Type}[Inhabited α](f:α->List Int)(a:Int):∀(xs:List α)(i:Nat)(y:α),i<xs.length->((xs.set i y).flatMap f).count a+(f (nth xs i)).count a=(xs.flatMap f).count a+(f y).count a
 | [],i,_,h=>by cases h
 | x::xs,0,y,_=>by
  show((y::xs).flatMap f).count a+(f x).count a=((x::xs).flatMap f).count a+(f y).count a;rw[I6,I6,V5,V5];omega
 | x::xs,i+1,y,h=>by
  have:=iB f a xs i y (by simpa using h);show((x::xs.set i y).flatMap f).count a+(f (nth xs i)).count a=((x::xs).flatMap f).count a+(f y).count a;rw[I6,I6,V5,V5];omega
theorem kC(a:List (List Int)):a.flatten=a.flatMap λx=>x:=by
 induction a with
 | nil=>rfl
 | cons x xs b=>rw[List.flatten_cons,I6,b]
theorem jj.any{sp:List ar}{a c:Int}(h:jj sp a c):jj sp a (-1):=by
 obtain⟨s,b,d,-⟩:=h;exact⟨s,b,d,.inl (by decide)⟩
theorem bm.cells{h:ab}{E:List Int}(a:bm h E){k:af}(c:aB k=true)(b:k.Machine.Table=h.Kernel.Machine.Table):bm {h with Kernel:=k} E:=
 {a with
   ker:=c
   rng:=by show bt ((k.Machine.Table.Entries.length:Nat):Int) h.Free=true;rw[b];exact a.rng
   pg:=by show Pg k.Machine.Table h.Free h.Spans h.Larges;rw[b];exact a.pg}
theorem bm.dropO{h:ab}{E:List Int}{i:Nat}(b:bm h E)(g:i<h.Objs.length)(j:jj h.Spans (nth h.Objs i).Addr (-1)):bm {h with Objs:=dele h.Objs i} ((nth h.Objs i).Addr::E):=by
 have f:(E++holders h).Perm (((nth h.Objs i).Addr::E)++holders {h with Objs:=dele h.Objs i}):=by
  have k:=(yN g).map (·.Addr);refine List.perm_iff_count.2 λa=>?_
  have l:=k.count_eq a;simp only[U5,List.count_cons]at l;simp only[holders,cb,V5,List.cons_append,List.count_cons];omega
 have c:(dele h.Objs i).Sublist h.Objs:=eL ..;exact {b with
   osr:=b.osr.sublist c
   onu:=λo d=>b.onu o (c.subset d)
   oid:=b.oid.sublist (c.map _)
   oow:=λo d=>b.oow o (c.subset d)
   hin:=λa e=>by
     rcases List.mem_cons.1 e with rfl|e
     · exact j
     · exact b.hin a e
   nd:=f.nodup_iff.1 b.nd
   mem:=λa=>by rw[<-f.mem_iff];exact b.mem a}
def mR(c:aA)(k:Nat)(a:Int):aA:=⟨c.Lists.set k (nth c.Lists k++[a])⟩
theorem bm.put{h:ab}{E:List Int}{a:Int}{t k:Nat}(g:bm h (a::E))(l:t<h.Caches.length)(q:k<(nth h.Caches t).Lists.length)(r:jj h.Spans a k)(u:bn (mR (nth h.Caches t) k a)=true):bm {h with Caches:=h.Caches.set t (mR (nth h.Caches t) k a)} E:=by
 have n:(a::E++holders h).Perm (E++holders {h with Caches:=h.Caches.set t (mR (nth h.Caches t) k a)}):=by
  refine List.perm_iff_count.2 λb=>?_
  have w:=iB (λc:aA=>c.Lists.flatten) b h.Caches t (mR (nth h.Caches t) k a) l;have p:=iB (λx:List Int=>x) b (nth h.Caches t).Lists k (nth (nth h.Caches t).Lists k++[a]) q;rw[<-kC,<-kC]at p;simp only[V5,List.count_singleton]at p;simp only[mR]at w;simp only[holders,cb,mR,V5,List.cons_append,List.count_cons];omega
 exact {g with
   nc:=by show(h.Caches.set ..).length=_;rw[O1];exact g.nc
   cach:=λc d=>by
     rcases Z5 d with d|rfl
     · exact g.cach c d
     · exact u
   onu:=by show ∀o∈h.Objs,1<=o.Id/\o.Id<=h.Next - 1/\0<=o.Thread/\o.Thread<=(h.Caches.set t _).length - 1;rw[O1];exact g.onu
   hca:=λc d j i b f=>by
     rcases Z5 d with d|rfl
     · exact g.hca c d j i b f
     · simp only[mR,O1]at i
       simp only[mR,ch]at f;by_cases e:k=j
       · subst e
         rw[C9 ⟨rfl,i⟩]at f;rcases v3.1 f with f|f
         · exact g.hca _ (am l) _ i b f
         · rw[I1.1 f];exact r
       · rw[C8 λx=>e x.1]at f
         exact g.hca _ (am l) _ i b f
   hin:=λb f=>g.hin b (v5 _ f)
   nd:=n.nodup_iff.1 g.nd
   mem:=λb=>by rw[<-n.mem_iff];exact g.mem b}
theorem bm.toQuar{h:ab}{E:List Int}{x:aK}{q:bu}{out:List aK}(d:bm h (x.Addr::E))(i:eQ q=true)(f:h.Quar.Lst++[x]=out++q.Lst)(j:x.Since<=h.Clock)(k:jj h.Spans x.Addr x.Class):bm {h with Quar:=q} (out.map (·.Addr)++E):=by
 have c:∀y∈out++q.Lst,y.Since<=h.Clock/\jj h.Spans y.Addr y.Class:=λy a=>by
  rw[<-f]at a;rcases v3.1 a with a|a
  ·exact⟨d.snc y a,d.hqu y a⟩
  ·rw[I1.1 a];exact⟨j,k⟩
 have g:(x.Addr::E++holders h).Perm ((out.map (·.Addr)++E)++holders {h with Quar:=q}):=by
  refine List.perm_iff_count.2 λb=>?_
  have n:=W0 (λl:List aK=>(l.map (·.Addr)).count b) f;simp only[O5,V5,U5,List.map_nil,List.count_singleton]at n;simp only[holders,cb,V5,List.cons_append,List.count_cons];omega
 exact {d with
   quar:=i
   snc:=λy a=>(c y (v3.2 (.inr a))).1
   hqu:=λy a=>(c y (v3.2 (.inr a))).2
   hin:=λb e=>by
     rcases v3.1 e with e|e
     · obtain⟨y,a,rfl⟩:=z4.1 e
       exact(c y (v3.2 (.inl a))).2.any
     · exact d.hin b (v5 _ e)
   nd:=g.nodup_iff.1 d.nd
   mem:=λb=>by rw[<-g.mem_iff];exact d.mem b}
def xm(b i:Int):Int:=((BitVec.ofInt IntKind.i64.bits b &&& ~~~BitVec.ofInt IntKind.i64.bits (2 ^ i.toNat)).toNat:Nat)
def jM(s:ar)(i:Int):ar:={s with Bits:=xm s.Bits i}
theorem gt(b i:Int):aU b i=true↔0<=b/\0<=i/\i<=15/\b.toNat.testBit i.toNat=true:=by
 unfold aU;rw[C0];refine and_congr_right λa=>and_congr_right λc=>and_congr_right λ_=>?_
 obtain⟨n,rfl⟩:=Z2 a;rw[Nat.testBit_eq_decide_div_mod_eq,C0,X2]
 norm_cast
theorem En{b i:Int}(f:0<=b/\b<=65535)(a:0<=i/\i<=15)(j:Nat):(xm b i).toNat.testBit j=(b.toNat.testBit j&&decide (i.toNat≠j)):=by
 have g:(2:Int) ^ i.toNat<=32768/\0<=(2:Int) ^ i.toNat:=by
  obtain⟨n,rfl⟩:=Z2 a.1;rw[X2];have:(2:Nat) ^ n<=2 ^ 15:=Nat.pow_le_pow_right (by decide) ω;have c:((2 ^ n:Nat):Int)=(2:Int) ^ n:=Int.natCast_pow 2 n;rw[<-c];exact⟨Int.ofNat_le.2 this,Int.natCast_nonneg _⟩
 unfold xm;rw[X2,BitVec.testBit_toNat,BitVec.getLsbD_and,BitVec.getLsbD_not,<-BitVec.testBit_toNat,<-BitVec.testBit_toNat,np ω,np ω];rw[show((2:Int) ^ i.toNat).toNat=2 ^ i.toNat by rw[show(2:Int) ^ i.toNat=((2 ^ i.toNat:Nat):Int) by norm_cast,X2],Nat.testBit_two_pow];by_cases d:j<64
 ·rw[show decide (j<IntKind.i64.bits)=true from O0 d,Bool.true_and]
  congr 1
  by_cases e:i.toNat=j
  ·rw[O0 e,T0 (λx=>x e)];rfl
  ·rw[T0 e,O0 e];rfl
 ·rw[Nat.testBit_lt_two_pow (x:=b.toNat) (i:=j) (V3 (show b.toNat<2 ^ 16 by omega) (Nat.pow_le_pow_right (by decide) ω))]
  rfl
theorem A2{b i:Int}(a:0<=b/\b<=65535):0<=xm b i/\xm b i<=b:=by
 unfold xm;refine⟨ω,?_⟩;rw[BitVec.toNat_and,np ω];have:=Nat.and_le_left (n:=b.toNat) (m:=(~~~BitVec.ofInt IntKind.i64.bits (2 ^ i.toNat)).toNat);omega
theorem KX{b i:Int}(a:0<=b/\b<=65535)(h:0<=i/\i<=15)(j:Int):aU (xm b i) j=true↔aU b j=true/\j≠i:=by
 rw[gt,gt,En a h,I0,C0];have:=A2 (i:=i) a;constructor
 ·rintro⟨k,c,d,f,g⟩;exact⟨⟨a.1,c,d,f⟩,λe=>g (by rw[e])⟩
 ·rintro⟨⟨k,c,d,f⟩,g⟩;exact⟨this.1,c,d,f,λe=>g ω⟩
theorem en{s:ar}(h:aY s=true):0<=s.Bits/\s.Bits<=65535:=by
 unfold aY at h;simp only[C0]at h;have:=Gn s.Class;omega
theorem Hk{s:ar}(h:aY s=true)(i:Int):aY (jM s i)=true:=by
 have b:=en h;have a:=A2 (i:=i) b;unfold aY at h;rw[C0]at h;obtain⟨c,d,e,f,j,g⟩:=h;exact O0 ⟨c,d,e,f,a.1,W4 a.2 g⟩
theorem t7{s u:ar}(a:aY s=true){i:Int}(b:0<=i/\i<=15)(h:meshable s u=true):meshable (jM s i) u=true:=by
 unfold meshable at h |-;simp only[I0,C0]at h |-;obtain⟨⟨c,d⟩,e,f,g⟩:=h;refine⟨⟨Hk c i,d⟩,e,f,?_⟩;refine Nat.eq_of_testBit_eq λj=>?_
 have:=W0 (λn=>Nat.testBit n j) g;simp only[Nat.testBit_and,Nat.zero_testBit,jM,En (en a) b]at this |-;cases k:s.Bits.toNat.testBit j<;>cases l:u.Bits.toNat.testBit j<;>rw[k,l]at this<;>simp_all
def dB(s:ar)(a:Int):Int:=(a - 16*s.Page) / csz s.Class
theorem tw{s:ar}(h:aY s=true){a:Int}(c:16*s.Page<=a/\a<=16*s.Page+15):0<=dB s a/\dB s a<=15:=by
 have b:=aC h;unfold dB;rcases bO ⟨b.2.2.1,b.2.2.2⟩ with e|e|e|e<;>rw[e]<;>omega
theorem Fp{s:ar}(h:aY s=true){a b:Int}(d:(a - 16*s.Page) % csz s.Class=0)(f:(b - 16*s.Page) % csz s.Class=0)(e:dB s a=dB s b):a=b:=by
 have c:=aC h;unfold dB at e;rcases bO ⟨c.2.2.1,c.2.2.2⟩ with z|z|z|z<;>rw[z]at d f e<;>omega
theorem zc{s:ar}(h:aY s=true){a:Int}(k:eE s a)(b:Int):eE (jM s (dB s a)) b↔eE s b/\b≠a:=by
 obtain⟨l,n,o,p⟩:=k;have d:=tw h ⟨l,n⟩;unfold eE;simp only[jM];rw[KX (en h) d];constructor
 ·rintro⟨f,g,c,i,j⟩
  exact⟨⟨f,g,c,i⟩,λe=>j (by rw[e];rfl)⟩
 ·rintro⟨⟨f,g,c,i⟩,j⟩
  exact⟨f,g,c,i,λe=>j (Fp h c o e)⟩
theorem fw{α:Type}[Inhabited α]{xs:List α}{i:Nat}{y z:α}(h:z∈xs.set i y):z=y\/∃j,j<xs.length/\j≠i/\nth xs j=z:=by
 obtain⟨j,a,rfl⟩:=List.mem_iff_getElem.1 h;rw[List.getElem_set];by_cases e:i=j
 ·subst e;simp
 ·rw[C8 e]
  rw[O1]at a;exact .inr ⟨j,a,λx=>e x.symm,bq (I2 a)⟩
theorem jo{α:Type}[Inhabited α]{xs:List α}{i j:Nat}(y:α)(a:j<xs.length)(e:j≠i):nth xs j∈xs.set i y:=by
 have:nth (xs.set i y) j=nth xs j:=by rw[ch,C8 λx=>e x.1.symm]
 rw[<-this];exact am (by rw[O1];exact a)
theorem iI{α:Type}{xs:List α}{i:Nat}(y:α)(a:i<xs.length):y∈xs.set i y:=by
 refine List.mem_iff_getElem.2 ⟨i,by rw[O1];exact a,by simp⟩
theorem LR{sp:List ar}{i:Nat}(k:Int)(a:i<sp.length):(sp.set i (jM (nth sp i) k)).map (·.Page)=sp.map (·.Page):=by
 rw[W5];refine List.ext_getElem (by simp) λj b c=>?_
 rw[List.getElem_set];split
 ·rename_i e;subst e
  rw[List.getElem_map];show(nth sp i).Page=_;rw[bq (I2 a)]
 ·rfl
theorem jj.set{sp:List ar}{la:List a7}(q:qx sp la){i:Nat}(k:i<sp.length){a:Int}(l:eE (nth sp i) a)(b c:Int):jj (sp.set i (jM (nth sp i) (dB (nth sp i) a))) b c↔jj sp b c/\b≠a:=by
 have g:=q.sok _ (am k);constructor
 ·rintro⟨s,o,d,h⟩
  rcases fw o with rfl|⟨j,n,r,rfl⟩
  ·have:=(zc g l b).1 d
   exact⟨⟨_,am k,this.1,h⟩,this.2⟩
  ·refine⟨⟨_,am n,d,h⟩,λe=>?_⟩
   subst e;have:=gY (f:=(·.Page)) q.nd k n (by have t:=l.1;have u:=l.2.1;have w:=d.1;have y:=d.2.1;omega);omega
 ·rintro⟨⟨s,o,d,h⟩,p⟩
  obtain⟨j,n,rfl⟩:=aW o;by_cases e:j=i
  ·subst e
   exact⟨_,iI _ k,(zc g l b).2 ⟨d,p⟩,h⟩
  ·exact⟨_,jo _ n e,d,h⟩
theorem bm.give{h:ab}{E:List Int}{a:Int}{i:Nat}(d:bm h (a::E))(J:i<h.Spans.length)(K:eE (nth h.Spans i) a):bm {h with Spans:=h.Spans.set i (jM (nth h.Spans i) (dB (nth h.Spans i) a))} E:=by
 have G:=d.L;have Q:=G.sok _ (am J);have M:=tw Q ⟨K.1,K.2.1⟩;have f:=λb c=>jj.set G J K b c
 have A:=LR (dB (nth h.Spans i) a) J;generalize R:h.Spans.set i (jM (nth h.Spans i) (dB (nth h.Spans i) a))=sp at f A;have q:pgs sp h.Larges=pgs h.Spans h.Larges:=by unfold pgs;rw[A]
 have B:=d.nd;rw[List.cons_append]at B;obtain⟨S,B⟩:=List.nodup_cons.1 B;have r:∀b,b∈E++holders h->b≠a:=λb g e=>S (by rw[<-e];exact g)
 have C:∀b,b∈holders h->b≠a:=λb g=>r b (v3.2 (.inr g))
 have T:∀l∈h.Larges,16*l.Page≠a:=λl O e=>(vz G O).1 _ (am J) (by have a1:=K.1;have a2:=K.2.1;omega)
 have t:∀s∈sp,∃u∈h.Spans,u.Page=s.Page/\(s=u\/s=jM u (dB (nth h.Spans i) a)):=λs p=>by
  rw[<-R]at p;rcases fw p with rfl|⟨j,hj,hji,rfl⟩
  ·exact⟨_,am J,rfl,.inr rfl⟩
  ·exact⟨_,am hj,rfl,.inl rfl⟩
 have N:∀u∈h.Spans,∃s∈sp,s.Page=u.Page:=λu y=>by
  have:u.Page∈sp.map (·.Page):=by rw[A];exact z4.2 ⟨u,y,rfl⟩
  obtain⟨s,p,e⟩:=z4.1 this;exact⟨s,p,e⟩
 exact {d with
   lay:=by
     obtain⟨l1,l2,l3⟩:=db d.lay;unfold bh;simp only[I0,C0];refine⟨⟨Y3.2 λs p=>?_,l2⟩,by rw[q];exact l3⟩;obtain⟨u,y,-,rfl|rfl⟩:=t s p
     · exact G.sok _ y
     · exact Hk (G.sok _ y) _
   srs:=by
     have n:(h.Spans.map (·.Page)).Pairwise (λa b=>a<b):=List.pairwise_map.2 d.srs;rw[<-A]at n;exact List.pairwise_map.1 n
   pg:=⟨d.pg.one,by rw[q];exact d.pg.bnd,by rw[q];exact d.pg.own,d.pg.fre,λs p u y r hf=>by
     obtain⟨U,D,Z,V⟩:=t s p;obtain⟨P,F,eu,W⟩:=t u y;have n:=d.pg.mesh U D P F (by rw[Z,eu];exact r) (by rw[Z,eu];exact hf);have w:meshable s P=true:=by
       rcases V with rfl|rfl
       · exact n
       · exact t7 (G.sok _ D) M n
     rcases W with rfl|rfl
     · exact w
     · rw[iT]at w |-;exact t7 (G.sok _ F) M w⟩
   oow:=λo ho=>by
     have X:o.Addr≠a:=C _ (by unfold holders;simp only[v3];exact .inl (.inl (.inl (z4.2 ⟨o,ho,rfl⟩))));rcases d.oow o ho with⟨s,p,n,w⟩|n
     · obtain⟨u,y,Y,H⟩:=(f o.Addr (aL o.Size)).2 ⟨⟨s,p,n,.inr w⟩,X⟩
       refine .inl ⟨u,y,Y,?_⟩;rcases H with H|H
       · have:=aC (G.sok _ p);omega
       · exact H
     · exact .inr n
   hca:=λc hc k hk b g=>(f b k).2 ⟨d.hca c hc k hk b g,C b (by
     unfold holders cb;simp only[v3];exact .inl (.inl (.inr (List.mem_flatMap.2 ⟨c,hc,List.mem_flatten.2 ⟨_,am hk,g⟩⟩))))⟩
   hqu:=λx hx=>(f _ _).2 ⟨d.hqu x hx,C _ (by unfold holders;simp only[v3];exact .inl (.inr (z4.2 ⟨x,hx,rfl⟩)))⟩
   hfl:=λb g=>(f _ _).2 ⟨d.hfl b g,C _ (by unfold holders;simp only[v3];exact .inr g)⟩
   hin:=λb g=>(f _ _).2 ⟨d.hin b (v5 _ g),r b (v3.2 (.inl g))⟩
   nd:=B
   mem:=λb=>by
     show b∈E++holders h↔Live sp h.Larges b;have n:=d.mem b;rw[List.cons_append,List.mem_cons]at n;unfold Live at n |-;rw[f];constructor
     · intro g
       rcases n.1 (.inr g) with w|w
       · exact .inl ⟨w,r b g⟩
       · exact .inr w
     · rintro(⟨w,h3⟩|⟨l,O,rfl⟩)
       · exact(n.2 (.inl w)).resolve_left h3
       · exact(n.2 (.inr ⟨l,O,rfl⟩)).resolve_left (T l O)
   job:=λhm=>by
     obtain⟨j1,⟨s,p,e1⟩,⟨u,y,e2⟩⟩:=d.job hm;obtain⟨U,D,Y⟩:=N s p;obtain⟨P,F,H⟩:=N u y;exact⟨j1,⟨U,D,Y.trans e1⟩,⟨P,F,H.trans e2⟩⟩}
def dO(k:af)(p:Int):Nat->af
 | 0=>k
 | n+1=>cA (dO k p n) (p+n)
theorem jV{k:af}(h:aB k=true)(p:Int):∀n,aB (dO k p n)=true
 | 0=>h
 | n+1=>xR _ (jV h p n)
theorem gM(k:af)(p:Int):∀n,(dO k p n).Machine.Table.Entries.length=k.Machine.Table.Entries.length/\(dO k p n).Calls=k.Calls/\(dO k p n).Refuse=k.Refuse
 | 0=>⟨rfl,rfl,rfl⟩
 | n+1=>by
  obtain⟨a,b,c⟩:=gM k p n;obtain⟨d,e,f⟩:=qL (dO k p n) (p+n);exact⟨d.trans a,e.trans b,f.trans c⟩
theorem wZ{k:af}(h:aB k=true){p:Int}(d:0<=p/\p<k.Machine.Table.Entries.length)(q:Nat):nth (cA k p).Machine.Table.Entries q=if(q:Int)=p then⟨0,0⟩ else nth k.Machine.Table.Entries q:=by
 have g:au k.Machine.Table p=nth k.Machine.Table.Entries p.toNat:=by unfold au;rw[C9 d]
 unfold cA;split
 ·rename_i a
  split
  ·rename_i i
   rw[g]at a;have b:=(bx.1 (aD.1 h).2.2.1).1 p.toNat ω;unfold ku at b;rw[C0]at b;have c:=b.2.2.1 a;rw[show q=p.toNat by omega];generalize nth k.Machine.Table.Entries p.toNat=e at a c;obtain⟨m,f⟩:=e;simp only at a c;rw[a,c]
  ·rfl
 ·rw[(pc _ _).1]
  simp only[ko,ch];by_cases e:(q:Int)=p
  ·rw[C9 ⟨ω,ω⟩,C9 e]
  ·rw[C8 λx=>e ω,C8 e]
theorem lU{k:af}(h:aB k=true){p:Int}(b:0<=p):∀n:Nat,p+n<=k.Machine.Table.Entries.length->∀q:Nat,nth (dO k p n).Machine.Table.Entries q=if p<=q/\(q:Int)<p+n then⟨0,0⟩ else nth k.Machine.Table.Entries q
 | 0,_,q=>by rw[C8 ω];rfl
 | n+1,f,q=>by
  have c:=lU h b n ω q;have d:=wZ (jV h p n) (p:=p+n) ⟨ω,by rw[(gM k p n).1];omega⟩ q;show nth (cA (dO k p n) (p+n)).Machine.Table.Entries q=_;rw[d,c];by_cases e:(q:Int)=p+n
  ·rw[C9 e,C9 ⟨ω,ω⟩]
  ·rw[C8 e]
   by_cases a:p<=q/\(q:Int)<p+n
   ·rw[C9 a,C9 ⟨ω,ω⟩]
   ·rw[C8 a,C8 ω]
theorem E5{α β:Type}(f:α->List β){xs c:List α}(h:xs.Sublist c):(xs.flatMap f).Sublist (c.flatMap f):=by
 induction h with
 | slnil=>exact List.Sublist.refl _
 | cons a _ b=>rw[I6];exact b.trans (List.sublist_append_right ..)
 | cons_cons a _ b=>rw[I6,I6];exact List.Sublist.append (List.Sublist.refl _) b
theorem xo{h:ab}{E:List Int}(c:bm h E){sp:List ar}{la:List a7}{p:Int}{n:Nat}(Y:1<=n)(w:sp.Sublist h.Spans)(D:la.Sublist h.Larges)(j:∀q:Int,p<=q->q<p+n->q∈pgs h.Spans h.Larges)(K:0<=p)(F:∀q,q∈pgs sp la↔q∈pgs h.Spans h.Larges/\¬(p<=q/\q<p+n)) :
  ∃o,ca (dS h) h.Free ⟨p,n⟩ = some o/\aB (dO h.Kernel p n)=true/\bt ((dO h.Kernel p n).Machine.Table.Entries.length:Nat) o=true/\bh sp la=true/\Pg (dO h.Kernel p n).Machine.Table o sp la:=by
 have t:=c.pg.bnd _ (j (p+n - 1) ω ω);have a:=(gM h.Kernel p n).1;have y:p+n<=h.Kernel.Machine.Table.Entries.length:=by unfold tbl at t;omega
 have g:=lU c.ker K n y;obtain⟨o,Q,R,S⟩:=um (r:=⟨p,n⟩) c.rng ⟨K,by simp only;omega,y⟩ λq M N=>by
  simp only at M N;obtain⟨m,rfl⟩:=Z2 (show 0<=q by omega);have A:m<(tbl h).Entries.length:=by unfold tbl;omega
  exact(c.pg.fre m A).1 ((c.pg.own m A).2 (j _ M N))
 refine⟨o,Q,jV c.ker p n,by rw[a];exact R,?_,?_⟩
 ·obtain⟨T,U,V⟩:=db c.lay
  unfold bh;simp only[I0,C0];exact⟨⟨Y3.2 λs d=>Y3.1 T s (w.subset d),Y3.2 λl d=>Y3.1 U l (D.subset d)⟩,V.sublist ((w.map _).append (E5 _ D))⟩
 ·have i:∀q:Nat,(q:Int)∈pgs sp la->nth (dO h.Kernel p n).Machine.Table.Entries q=nth (tbl h).Entries q:=λq f=>by rw[g,C8 ((F q).1 f).2];rfl
  have b:∀q:Nat,(nth (dO h.Kernel p n).Machine.Table.Entries q).Mode≠0↔(nth (tbl h).Entries q).Mode≠0/\¬(p<=q/\(q:Int)<p+n):=λq=>by
   rw[g];by_cases e:p<=q/\(q:Int)<p+n
   ·rw[C9 e];exact⟨λx=>absurd rfl x,λx=>absurd e x.2⟩
   ·rw[C8 e];exact⟨λx=>⟨x,e⟩,λx=>x.1⟩
  refine⟨λl d q f r O G B=>?_,λq f=>?_,λq f=>?_,λq f=>?_,λs d u H J P=>?_⟩
  ·have C:=(b r).1 G
   rw[a]at O;rw[i q (fE d f),g,C8 C.2]at B;exact c.pg.one l (D.subset d) q f r O C.1 B
  ·rw[a];exact c.pg.bnd q ((F q).1 f).1
  ·rw[a]at f
   rw[b,F,c.pg.own q f]
  ·rw[a]at f
   rw[b,S,c.pg.fre q f];simp only
   grind
  ·have k:∀s∈sp,0<=s.Page:=λs d=>(aC (c.L.sok s (w.subset d))).1
   have W:=i s.Page.toNat (by rw[Int.toNat_of_nonneg (k s d)];exact dJ d);have X:=i u.Page.toNat (by rw[Int.toNat_of_nonneg (k u H)];exact dJ H);rw[W,X]at P;exact c.pg.mesh s (w.subset d) u (w.subset H) J P
theorem eK{α:Type}[Inhabited α]{xs:List α}{k:Nat}{z:α} : z∈dele xs k↔∃j,j<xs.length/\j≠k/\nth xs j=z:=by
 unfold dele;rw[v3];constructor
 ·rintro(h|h)
  ·obtain⟨j,a,rfl⟩:=List.mem_take_iff_getElem.1 h
   exact⟨j,ω,ω,bq (I2 ω)⟩
  ·obtain⟨j,a,rfl⟩:=List.mem_drop_iff_getElem.1 h
   exact⟨k+1+j,ω,ω,bq (I2 ω)⟩
 ·rintro⟨j,a,b,rfl⟩
  rw[bq (I2 a)];by_cases e:j<k
  ·exact .inl (List.mem_take_iff_getElem.2 ⟨j,ω,rfl⟩)
  ·refine .inr (List.mem_drop_iff_getElem.2 ⟨j - (k+1),ω,?_⟩)
   congr 1;omega
theorem p9{sp:List ar}{la:List a7}{q:Int} : q∈pgs sp la↔(∃s∈sp,s.Page=q)\/∃l∈la,q∈lpgs l l.Pages.toNat:=by
 unfold pgs;simp only[v3,z4,List.mem_flatMap]
theorem B5{s:ar}(h:s.Bits=0)(a:Int):¬eE s a:=by
 rintro⟨-,-,-,b⟩
 rw[gt,h]at b;simp at b
theorem bm.giveSpan{h:ab}{E:List Int}{i:Nat}(g:bm h E)(B:i<h.Spans.length)(y:(nth h.Spans i).Bits=0)(W:h.Meshing=true->(nth h.Spans i).Page≠h.Job.Plan.Keep/\(nth h.Spans i).Page≠h.Job.Plan.Move) :
  ∃o,ca (dS h) h.Free ⟨(nth h.Spans i).Page,1⟩ = some o/\bm {h with Kernel:=cA h.Kernel (nth h.Spans i).Page,Spans:=dele h.Spans i,Free:=o} E:=by
 have F:=g.L;have G:=aC (F.sok _ (am B));have A:∀q,q∈pgs (dele h.Spans i) h.Larges↔q∈pgs h.Spans h.Larges/\¬((nth h.Spans i).Page<=q/\q<(nth h.Spans i).Page+(1:Nat)):=λq=>by
  rw[p9,p9];constructor
  ·rintro(⟨s,r,rfl⟩|⟨l,C,D⟩)
   ·obtain⟨j,d,H,rfl⟩:=eK.1 r
    refine⟨.inl ⟨_,am d,rfl⟩,λe=>H (gY (f:=(·.Page)) F.nd d B ω)⟩
   ·refine⟨.inr ⟨l,C,D⟩,λe=>?_⟩
    obtain⟨k,J,rfl⟩:=dn.1 D;exact F.dis _ (am B) l C k J ω
  ·rintro⟨⟨s,r,rfl⟩|⟨l,C,D⟩,K⟩
   ·obtain⟨j,d,rfl⟩:=aW r
    refine .inl ⟨_,eK.2 ⟨j,d,λe=>K (by subst e;omega),rfl⟩,rfl⟩
   ·exact .inr ⟨l,C,D⟩
 obtain⟨o,X,Q,R,Y,S⟩:=xo g (sp:=dele h.Spans i) (la:=h.Larges) (p:=(nth h.Spans i).Page) (n:=1) (z3 _) (eL ..) (List.Sublist.refl _) (λq q1 q2=>by rw[show q=(nth h.Spans i).Page by omega];exact dJ (am B)) G.1 A;have M:dO h.Kernel (nth h.Spans i).Page 1=cA h.Kernel (nth h.Spans i).Page:=by show cA h.Kernel ((nth h.Spans i).Page+((0:Nat):Int))=_;rw[show(nth h.Spans i).Page+((0:Nat):Int)=(nth h.Spans i).Page by omega]
 rw[M]at Q R S;have t:∀b c,jj (dele h.Spans i) b c↔jj h.Spans b c:=λb c=>by
  constructor
  ·rintro⟨s,r,w⟩;exact⟨s,(eL ..).subset r,w⟩
  ·rintro⟨s,r,w,N⟩
   obtain⟨j,d,rfl⟩:=aW r;exact⟨_,eK.2 ⟨j,d,λe=>B5 y b (by rw[<-e];exact w),rfl⟩,w,N⟩
 refine⟨o,X,{g with
   ker:=Q
   rng:=R
   lay:=Y
   srs:=g.srs.sublist (eL ..)
   pg:=S
   oow:=λZ ho=>?_
   hca:=λc G k J b y=>(t b k).2 (g.hca c G k J b y)
   hqu:=λx hx=>(t _ _).2 (g.hqu x hx)
   hfl:=λb y=>(t _ _).2 (g.hfl b y)
   hin:=λb y=>(t _ _).2 (g.hin b y)
   mem:=λb=>(g.mem b).trans ?_
   job:=λT=>?_}⟩
 ·rcases g.oow Z ho with⟨s,r,w,N⟩|w
  ·obtain⟨j,d,rfl⟩:=aW r
   exact .inl ⟨_,eK.2 ⟨j,d,λe=>B5 y _ (by rw[<-e];exact w),rfl⟩,w,N⟩
  ·exact .inr w
 ·unfold Live;rw[t]
 ·obtain⟨j1,⟨s,r,U⟩,⟨u,M,V⟩⟩:=g.job T
  obtain⟨n1,n2⟩:=W T;obtain⟨a,O,rfl⟩:=aW r;obtain⟨b,P,rfl⟩:=aW M;exact⟨j1,⟨_,eK.2 ⟨a,O,λe=>n1 (by rw[<-e];exact U),rfl⟩,U⟩,⟨_,eK.2 ⟨b,P,λe=>n2 (by rw[<-e];exact V),rfl⟩,V⟩⟩
theorem bm.dropL{h:ab}{E:List Int}{i k:Nat}(d:bm h E)(S:i<h.Objs.length)(y:k<h.Larges.length)(G:(nth h.Objs i).Addr=16*(nth h.Larges k).Page) :
  ∃o,ca (dS h) h.Free ⟨(nth h.Larges k).Page,(nth h.Larges k).Pages⟩ = some o/\bm {h with Kernel:=dO h.Kernel (nth h.Larges k).Page (nth h.Larges k).Pages.toNat,Larges:=dele h.Larges k,Free:=o,Objs:=dele h.Objs i} E:=by
 have A:=d.L;have T:=aQ (A.lok _ (am y));have C:∀q,q∈pgs h.Spans (dele h.Larges k)↔q∈pgs h.Spans h.Larges/\¬((nth h.Larges k).Page<=q/\q<(nth h.Larges k).Page+((nth h.Larges k).Pages.toNat:Nat)):=λq=>by
  rw[p9,p9];constructor
  ·rintro(⟨s,B,rfl⟩|⟨l,f,D⟩)
   ·refine⟨.inl ⟨s,B,rfl⟩,λe=>A.dis s B _ (am y) (s.Page - (nth h.Larges k).Page).toNat ω ω⟩
   ·obtain⟨j,c,t,rfl⟩:=eK.1 f
    refine⟨.inr ⟨_,am c,D⟩,λe=>?_⟩;obtain⟨m,N,rfl⟩:=dn.1 D;exact t (A.one j k c y m ((nth h.Larges j).Page+(m:Int) - (nth h.Larges k).Page).toNat N ω ω)
  ·rintro⟨⟨s,B,rfl⟩|⟨l,f,D⟩,g⟩
   ·exact .inl ⟨s,B,rfl⟩
   ·obtain⟨j,c,rfl⟩:=aW f
    refine .inr ⟨_,eK.2 ⟨j,c,λe=>g ?_,rfl⟩,D⟩;subst e;obtain⟨m,N,rfl⟩:=dn.1 D;omega
 obtain⟨o,O,U,V,W,X⟩:=xo d (sp:=h.Spans) (la:=dele h.Larges k) (p:=(nth h.Larges k).Page) (n:=(nth h.Larges k).Pages.toNat) ω (List.Sublist.refl _) (eL ..) (λq q1 q2=>fE (am y) (dn.2 ⟨(q - (nth h.Larges k).Page).toNat,ω,ω⟩)) T.2.2.1 C;rw[Int.toNat_of_nonneg ω]at O;have P:(E++holders h).Perm ((nth h.Objs i).Addr::(E++holders {h with Objs:=dele h.Objs i})):=by
  have Y:=(yN S).map (·.Addr);refine List.perm_iff_count.2 λa=>?_
  have r:=Y.count_eq a;simp only[U5,List.count_cons]at r;simp only[holders,cb,V5,List.count_cons];omega
 have u:=P.nodup_iff.1 d.nd;obtain⟨K,u⟩:=List.nodup_cons.1 u;have w:∀b,(b=(nth h.Objs i).Addr\/b∈E++holders {h with Objs:=dele h.Objs i})↔Live h.Spans h.Larges b:=λb=>by rw[<-d.mem b,P.mem_iff,List.mem_cons]
 have g:∀b,b∈E++holders {h with Objs:=dele h.Objs i}->b≠(nth h.Objs i).Addr:=λb H e=>K (by rw[<-e];exact H)
 refine⟨o,O,{d with
   ker:=U
   rng:=V
   lay:=W
   srl:=d.srl.sublist (eL ..)
   pg:=X
   osr:=d.osr.sublist (eL ..)
   onu:=λF J=>d.onu F ((eL ..).subset J)
   oid:=d.oid.sublist ((eL ..).map _)
   oow:=λF J=>?_
   nd:=u
   mem:=λb=>?_}⟩
 ·rcases d.oow F ((eL ..).subset J) with r|⟨l,f,Q,Z⟩
  ·exact .inl r
  ·obtain⟨j,c,rfl⟩:=aW f
   refine .inr ⟨_,eK.2 ⟨j,c,λe=>?_,rfl⟩,Q,Z⟩;subst e;refine g F.Addr (v3.2 (.inr ?_)) (by rw[G];exact Q);unfold holders;simp only[v3];exact .inl (.inl (.inl (z4.2 ⟨F,J,rfl⟩)))
 ·constructor
  ·intro H
   rcases(w b).1 (.inr H) with r|⟨l,f,rfl⟩
   ·exact .inl r
   ·obtain⟨j,c,rfl⟩:=aW f
    exact .inr ⟨_,eK.2 ⟨j,c,λe=>g _ H (by rw[G,e]),rfl⟩,rfl⟩
  ·rintro(r|⟨l,f,rfl⟩)
   ·refine((w b).2 (.inl r)).resolve_left λe=>?_
    obtain⟨s,B,⟨M,R,-⟩,-⟩:=r;exact(vz A (am y)).1 s B (by rw[e,G]at M R;exact⟨M,R⟩)
   ·obtain⟨j,c,t,rfl⟩:=eK.1 f
    refine((w _).2 (.inr ⟨_,am c,rfl⟩)).resolve_left λe=>t ?_
    have M:=aQ (A.lok _ (am c));rw[G]at e;exact A.one j k c y 0 0 ω ω ω
def fo(h:ab)(p:Int):Bool:=h.Meshing&&(decide (p=h.Job.Plan.Keep) || decide (p=h.Job.Plan.Move))
def giveP(h:ab)(i:Nat):ab:={h with Kernel:=cA h.Kernel (nth h.Spans i).Page,Spans:=dele h.Spans i,Free:=(ca (dS h) h.Free ⟨(nth h.Spans i).Page,1⟩).getD h.Free}
def clrS(h:ab)(i:Nat)(a:Int):ab:={h with Spans:=h.Spans.set i (jM (nth h.Spans i) (dB (nth h.Spans i) a))}
def freeS(h:ab)(i:Nat)(a:Int):ab:=if(jM (nth h.Spans i) (dB (nth h.Spans i) a)).Bits=0/\fo h (nth h.Spans i).Page=false then giveP (clrS h i a) i else clrS h i a
def uN(h:ab)(a:Int):Nat:=(eB h (a / 16)).toNat
def freeA(h:ab)(a:Int):ab:=freeS h (uN h a) a
def cput(c:aA)(k a:Int):Option aA:=if bn c=true/\0<=k/\k<=3/\bn (mR c k.toNat a)=true then some (mR c k.toNat a) else none
def recyc(t:Nat)(h:ab)(a:Int):ab:=match cput (nth h.Caches t) (nth h.Spans (uN h a)).Class a with
 | some c=>{h with Caches:=h.Caches.set t c}
 | none=>freeA h a
theorem bm.at{h:ab}{E:List Int}{a:Int}(e:bm h E)(f:jj h.Spans a (-1)):uN h a<h.Spans.length/\eE (nth h.Spans (uN h a)) a/\eB h (a / 16)=(uN h a:Nat):=by
 obtain⟨s,g,c,-⟩:=f;obtain⟨i,d,rfl⟩:=aW g;have j:(nth h.Spans i).Page=a / 16:=by have l:=c.1;have n:=c.2.1;omega
 have b:=jZ e.L d;rw[j]at b;have k:uN h a=i:=by unfold uN;rw[b];rfl
 rw[k];exact⟨d,c,b⟩
theorem KY{h:ab}{p:Int}(e:fo h p=false)(a:h.Meshing=true):p≠h.Job.Plan.Keep/\p≠h.Job.Plan.Move:=by
 unfold fo at e;rw[a]at e;simpa using e
theorem bm.freeS{h:ab}{E:List Int}{a:Int}{i:Nat}(f:bm h (a::E))(b:i<h.Spans.length)(g:eE (nth h.Spans i) a):bm (freeS h i a) E:=by
 have c:=f.give b g;unfold Ab.freeS;split
 ·rename_i e
  have d:nth (clrS h i a).Spans i=jM (nth h.Spans i) (dB (nth h.Spans i) a):=by unfold clrS;simp only[ch,true_and];rw[C9 b]
  obtain⟨o,j,k⟩:=bm.giveSpan (h:=clrS h i a) c (i:=i) (by unfold clrS;simp only[O1];exact b) (by rw[d];exact e.1) (λl=>by rw[d];exact KY e.2 l);unfold giveP;rw[j];exact k
 ·exact c
theorem bm.freeA{h:ab}{E:List Int}{a:Int}(b:bm h (a::E)):bm (freeA h a) E:=by
 obtain⟨c,d,-⟩:=b.at (b.hin a (V1 ..));exact b.freeS c d
theorem ux{c:aA}(h:bn c=true):c.Lists.length=4:=by
 unfold bn at h;simp only[I0,C0]at h;exact h.1
theorem bm.recyc{h:ab}{E:List Int}{a:Int}{t:Nat}(b:bm h (a::E))(f:t<h.Caches.length):bm (recyc t h a) E:=by
 obtain⟨g,i,-⟩:=b.at (b.hin a (V1 ..));unfold Ab.recyc;split
 ·rename_i c d
  unfold cput at d;split at d
  ·rename_i e
   cases d;obtain⟨j,l,n,k⟩:=e;exact b.put f (by rw[ux j];omega) ⟨_,am g,i,.inr ω⟩ k
  ·cases d
 ·exact b.freeA
theorem vY(h:ab)(i:Nat)(a:Int):(freeS h i a).Caches=h.Caches/\(freeS h i a).Objs=h.Objs/\(freeS h i a).Kernel.Calls=h.Kernel.Calls/\(freeS h i a).Mail=h.Mail/\(freeS h i a).Job=h.Job/\(freeS h i a).Clock=h.Clock/\(freeS h i a).Quar=h.Quar/\(freeS h i a).Kernel.Refuse=h.Kernel.Refuse:=by
 unfold freeS;split
 ·obtain⟨-,b,c⟩:=qL (clrS h i a).Kernel (nth (clrS h i a).Spans i).Page
  exact⟨rfl,rfl,b,rfl,rfl,rfl,rfl,c⟩
 ·exact⟨rfl,rfl,rfl,rfl,rfl,rfl,rfl,rfl⟩
theorem qE(t:Nat)(h:ab)(a:Int):(recyc t h a).Caches.length=h.Caches.length/\(recyc t h a).Objs=h.Objs/\(recyc t h a).Kernel.Calls=h.Kernel.Calls/\(recyc t h a).Mail=h.Mail/\(recyc t h a).Job=h.Job/\(recyc t h a).Clock=h.Clock/\(recyc t h a).Quar=h.Quar/\(recyc t h a).Kernel.Refuse=h.Kernel.Refuse:=by
 unfold recyc;split
 ·exact⟨O1 ..,rfl,rfl,rfl,rfl,rfl,rfl,rfl⟩
 ·obtain⟨b,c⟩:=vY h (uN h a) a
  exact⟨W0 _ b,c⟩
def recycs(t:Nat)(h:ab)(az:List Int):ab:=az.foldl (recyc t) h
theorem eP(t:Nat):∀(az:List Int)(h:ab),(recycs t h az).Caches.length=h.Caches.length/\(recycs t h az).Objs=h.Objs/\(recycs t h az).Kernel.Calls=h.Kernel.Calls/\(recycs t h az).Mail=h.Mail/\(recycs t h az).Job=h.Job/\(recycs t h az).Clock=h.Clock/\(recycs t h az).Quar=h.Quar/\(recycs t h az).Kernel.Refuse=h.Kernel.Refuse
 | [],h=>⟨rfl,rfl,rfl,rfl,rfl,rfl,rfl,rfl⟩
 | a::az,h=>by
  obtain⟨b,c,d,e,f,g,i,j⟩:=eP t az (recyc t h a);obtain⟨k,l,n,o,p,q,r,u⟩:=qE t h a;exact⟨b.trans k,c.trans l,d.trans n,e.trans o,f.trans p,g.trans q,i.trans r,j.trans u⟩
theorem bm.recycs{t:Nat}{E:List Int} : ∀{az:List Int}{h:ab},bm h (az++E)->t<h.Caches.length->bm (recycs t h az) E
 | [],h,b,_=>b
 | a::az,h,b,c=>bm.recycs (az:=az) (h:=Ab.recyc t h a) (b.recyc c) (by rw[(qE t h a).1];exact c)
def qc(l:List aK):Int:=quarCells l l.length
def nH(room:Int):List aK->Nat
 | []=>0
 | x::xs=>if room<qc (x::xs) then nH room xs+1 else 0
def Jt(q:bu)(x:aK):bu:=⟨q.Room,(q.Lst++[x]).drop (nH q.Room (q.Lst++[x]))⟩
def BK(q:bu)(x:aK):List aK:=(q.Lst++[x]).take (nH q.Room (q.Lst++[x]))
theorem EM(room:Int):∀l,nH room l<=l.length
 | []=>z3 _
 | x::xs=>by unfold nH;split;(have:=EM room xs;simp only[List.length_cons];omega);omega
theorem Ac{room:Int}(a:0<=room):∀l:List aK,qc (l.drop (nH room l))<=room
 | []=>a
 | x::xs=>by
  unfold nH;split
  ·exact Ac a xs
  ·rename_i h;show qc (x::xs)<=room;omega
theorem zq{room:Int} : ∀{l:List aK}{k:Nat},k<nH room l->room<qc (l.drop k)
 | [],k,h=>by cases h
 | x::xs,0,h=>by
  unfold nH at h;split at h
  ·assumption
  ·omega
 | x::xs,k+1,h=>by
  unfold nH at h;split at h
  ·exact zq (l:=xs) ω
  ·omega
theorem iA{q:bu} : eQ q=true↔(∀x∈q.Lst,0<=x.Class/\x.Class<=3/\0<=x.Addr/\0<=x.Since)/\(q.Lst.Pairwise λa b=>a.Since<=b.Since)/\(q.Lst.map (·.Addr)).Nodup/\0<=q.Room/\q.Room<=500/\qc q.Lst<=q.Room:=by
 refine Iff.trans ?_ (and_congr Iff.rfl (and_congr (vh (λa b:Int=>a<=b) (λa b c=>W4) (λs:aK=>s.Since) q.Lst) (and_congr (yP (λs:aK=>s.Addr) q.Lst) Iff.rfl)));unfold eQ qc;simp only[I0,C0,cn,je,Bool.not_eq_true',List.any_eq_false,ep];constructor
 ·rintro⟨e,f⟩
  refine⟨λx l=>?_,λi d=>(e i d).1.2.2.2.2,λi d=>(e i d).2,f⟩;obtain⟨i,d,rfl⟩:=aW l;obtain⟨⟨g,h,j,k,-⟩,-⟩:=e i d;exact⟨g,h,j,k⟩
 ·rintro⟨e,f,n,o⟩
  refine⟨λi d=>?_,o⟩;obtain⟨g,h,j,k⟩:=e _ (am d);exact⟨⟨g,h,j,k,f i d⟩,n i d⟩
theorem Ny{q:bu}{x:aK}(h:eQ q=true)(i:0<=x.Class/\x.Class<=3/\0<=x.Addr/\0<=x.Since)(j:∀y∈q.Lst,y.Since<=x.Since)(k:∀y∈q.Lst,y.Addr≠x.Addr):eQ (Jt q x)=true:=by
 obtain⟨l,n,o,g,p,r⟩:=iA.1 h;have c:(Jt q x).Lst.Sublist (q.Lst++[x]):=List.drop_sublist ..;refine iA.2 ⟨λy d=>?_,List.Pairwise.sublist c ?_,List.Nodup.sublist (c.map _) ?_,g,p,Ac g _⟩
 ·rcases v3.1 (c.subset d) with d|d
  ·exact l y d
  ·rw[I1.1 d];exact i
 ·exact List.pairwise_append.2 ⟨n,List.pairwise_singleton ..,λa f b e=>by rw[I1.1 e];exact j a f⟩
 ·rw[O5]
  refine List.nodup_append.2 ⟨o,by simp,λa f b e=>?_⟩;obtain⟨y,d,rfl⟩:=z4.1 f;simp only[U5,List.map_nil,I1]at e;rw[e];exact k y d
def mh(r:List Int)(o:Nat):Nat->List Int
 | 0=>r
 | n+1=>(mh r o n).set (o+n) 0
def gi(k:af)(a:Int):Nat:=(au k.Machine.Table (a / 16)).Frame.toNat
def gg(k:af)(a:Int)(n:Nat):af:={k with Machine:=⟨⟨k.Machine.Frames.Cells.set (gi k a) (mh (nth k.Machine.Frames.Cells (gi k a)) (a % 16).toNat n),k.Machine.Frames.Used⟩,k.Machine.Table⟩}
theorem pw(r:List Int)(o:Nat):∀n,(mh r o n).length=r.length
 | 0=>rfl
 | n+1=>by unfold mh;rw[O1,pw r o n]
theorem zJ{r:List Int}{o:Nat} : ∀{n:Nat}{v:Int},v∈mh r o n->v∈r\/v=0
 | 0,v,h=>.inl h
 | n+1,v,h=>by
  rcases Z5 h with h|h
  ·exact zJ h
  ·exact .inr h
theorem EN{k:af}(h:aB k=true)(a:Int)(n:Nat):aB (gg k a n)=true:=by
 obtain⟨g,i,l,o,p⟩:=aD.1 h;obtain⟨q,r,t,f⟩:=bc.1 i;refine aD.2 ⟨g,bc.2 ⟨?_,?_,?_,λj c=>?_⟩,l,o,p⟩
 ·simp only[gg,O1];exact q
 ·simp only[gg,O1];exact r
 ·simp only[gg,O1];exact t
 ·simp only[gg,O1]at c |-
  simp only[ch];split
  ·rename_i e
   have b:=f j c;unfold ir at b |-;simp only[I0,C0,Y3]at b |-;rw[e.1]at *;refine⟨by rw[pw];exact b.1,λv d=>?_⟩;rcases zJ d with d|rfl
   ·exact b.2 v d
   ·unfold iO;simp
  ·exact f j c
def u9(h:ab)(a:Int):Nat:=(h.Larges.findIdx? λl=>decide (l.Page*16=a)).getD 0
def freeL(h:ab)(i k:Nat):ab:={h with Kernel:=dO h.Kernel (nth h.Larges k).Page (nth h.Larges k).Pages.toNat,Larges:=dele h.Larges k,Free:=(ca (dS h) h.Free ⟨(nth h.Larges k).Page,(nth h.Larges k).Pages⟩).getD h.Free,Objs:=dele h.Objs i}
def lN(h:ab)(o:bK):aK:=⟨o.Addr,aL o.Size,h.Clock⟩
def inQuar(h:ab)(i:Nat):ab:={h with Kernel:=gg h.Kernel (nth h.Objs i).Addr (csz (aL (nth h.Objs i).Size)).toNat,Objs:=dele h.Objs i,Quar:=Jt h.Quar (lN h (nth h.Objs i))}
def ME(h:ab)(t i:Nat):ab:=recycs t (inQuar h i) ((BK h.Quar (lN h (nth h.Objs i))).map (·.Addr))
def freeOb(h:ab)(t i:Nat):ab × Int:=
 if aL (nth h.Objs i).Size<0 then(freeL h i (u9 h (nth h.Objs i).Addr),0)
 else if(au (tbl h) ((nth h.Objs i).Addr / 16)).Mode=1 then(h,5)
 else(ME h t i,0)
theorem uZ{h:ab}{l:a7}(d:l∈h.Larges){a:Int}(e:a=16*l.Page):u9 h a<h.Larges.length/\a=16*(nth h.Larges (u9 h a)).Page/\(∀j,j<u9 h a->(nth h.Larges j).Page*16≠a)/\h.Larges.findIdx? (λl=>decide (l.Page*16=a))=some (u9 h a):=by
 cases b:h.Larges.findIdx? λl=>decide (l.Page*16=a) with
 | none=>
  have:=List.findIdx?_eq_none_iff.1 b l d;rw[T4]at this;omega
 | some k=>
  obtain⟨c,f,g⟩:=U6.1 b;have i:u9 h a=k:=by unfold u9;rw[b];rfl
  rw[i];rw[<-bq (I2 c),C0]at f;refine⟨c,ω,λj n=>?_,rfl⟩;have:=g j n;rw[<-bq (I2 (show j<h.Larges.length by omega))]at this;simpa using this
theorem f9{h:ab}{E:List Int}(a:bm h E){o:bK}(g:o∈h.Objs):(aL o.Size<0->Rx h.Larges o.Addr o.Size)/\(¬aL o.Size<0->(∃s∈h.Spans,eE s o.Addr/\s.Class=aL o.Size)/\aL o.Size<=3):=by
 rcases a.oow o g with⟨s,d,b,c⟩|⟨l,f,b,c⟩
 ·have i:=aC (a.L.sok s d)
  exact⟨λe=>ω,λ_=>⟨⟨s,d,b,c⟩,ω⟩⟩
 ·have j:=bS (a.L.lok l f)
  refine⟨λ_=>⟨l,f,b,c⟩,λe=>absurd ?_ e⟩;unfold aL;rw[C8 ω,C8 ω,C8 ω,C8 ω,C8 ω]
  decide
theorem bm.inQuar{h:ab}{i:Nat}(a:bm h [])(j:i<h.Objs.length)(r:¬aL (nth h.Objs i).Size<0):bm (inQuar h i) ((BK h.Quar (lN h (nth h.Objs i))).map (·.Addr)):=by
 obtain⟨⟨s,l,n,t⟩,u⟩:=(f9 a (am j)).2 r;have b:jj h.Spans (nth h.Objs i).Addr (aL (nth h.Objs i).Size):=⟨s,l,n,.inr t⟩
 have d:=a.nums;unfold bX at d;rw[C0]at d;have w:=aC (a.L.sok s l);have o:=a.dropO j b.any;have A:=o.cells (k:=gg h.Kernel (nth h.Objs i).Addr (csz (aL (nth h.Objs i).Size)).toNat) (EN a.ker _ _) rfl;have f:∀y∈h.Quar.Lst,y.Addr≠(nth h.Objs i).Addr:=λy g e=>by
  have c:=o.nd;rw[List.cons_append,List.nil_append]at c;refine(List.nodup_cons.1 c).1 ?_;rw[<-e];unfold holders;simp only[v3];exact .inl (.inr (z4.2 ⟨y,g,rfl⟩))
 have p:=bm.toQuar (x:=lN h (nth h.Objs i)) (q:=Jt h.Quar (lN h (nth h.Objs i))) (out:=BK h.Quar (lN h (nth h.Objs i))) A (Ny a.quar ⟨by show 0<=aL _;omega,u,by show 0<=(nth h.Objs i).Addr;have:=n.1;omega,d.2.2.1⟩ (λy g=>a.snc y g) f) (by unfold BK Jt;simp only[List.take_append_drop]) (X4 _) b;rw[List.append_nil]at p;exact p
theorem bm.freeOb{h:ab}{t i:Nat}(a:bm h [])(b:i<h.Objs.length)(e:t<h.Caches.length):bm (freeOb h t i).1 []:=by
 unfold Ab.freeOb;split
 ·rename_i c
  obtain⟨l,f,d,-⟩:=(f9 a (am b)).1 c;obtain⟨g,j,-⟩:=uZ f d;obtain⟨o,k,n⟩:=a.dropL b g j;unfold Ab.freeL;rw[k];exact n
 ·rename_i c
  split
  ·exact a
  ·have d:=a.inQuar b c
   refine bm.recycs (E:=[]) ?_ e;rw[List.append_nil];exact d
theorem HE:∀{H L:List Int},H.Nodup->(∀x∈H,x∈L)->H.length<=L.length
 | [],L,_,_=>U0 _
 | y::H,L,f,b=>by
  have c:y∈L:=b y (V1 ..);have a:=List.nodup_cons.1 f;have:=HE (L:=L.erase y) a.2 λz d=>(List.mem_erase_of_ne (λe:z=y=>a.1 (by rw[<-e];exact d))).2 (b z (v5 _ d))
  rw[List.length_erase_of_mem c]at this;have g:=List.length_pos_of_mem c;simp only[List.length_cons];omega
theorem xQ{H:List Int}{n:Nat}(c:H.Nodup)(a:∀x∈H,0<=x/\x<n):H.length<=n:=by
 have:=HE (L:=(List.range n).map λ(i:Nat)=>(i:Int)) c λx b=>z4.2 ⟨x.toNat,List.mem_range.2 (by have:=a x b;omega),by have:=a x b;omega⟩
 simpa using this
theorem iq{α:Type}{f:α->Int}{xs:List α}(h:xs.Pairwise λa b=>f a<f b):(xs.map f).Nodup:=by
 unfold List.Nodup;rw[List.pairwise_map];exact h.imp λh e=>ω
theorem Mz:∀(b:List (List Int))(k:Nat)(s:List Int),(gd k s b).isSome=true->∀l∈b,l.length<=8
 | [],_,_,_,l,a=>by cases a
 | x::b,k,s,h,l,a=>by
  simp only[gd]at h;cases e:eH k s x with
  | none=>rw[e]at h;cases h
  | some d=>
   rw[e]at h;rcases List.mem_cons.1 a with rfl|a
   ·unfold eH at e
    split at e
    ·rename_i c;exact c.1
    ·cases e
   ·exact Mz b (k+1) d h l a
theorem dq{c:aA}(h:bn c=true):c.Lists.length=4/\∀l∈c.Lists,l.length<=8:=by
 have a:=h;unfold bn at h;simp only[I0,C0]at h;exact⟨h.1,Mz _ _ _ h.2⟩
structure Nz(h:ab):Prop where
 cells:h.Kernel.Machine.Frames.Cells.length<=32
 row:∀r∈h.Kernel.Machine.Frames.Cells,r.length=16
 used:h.Kernel.Machine.Frames.Used.length<=32
 ents:h.Kernel.Machine.Table.Entries.length<=32
 ref:h.Kernel.Refuse.length<=40
 free:h.Free.length<=32
 spans:h.Spans.length<=32
 larges:h.Larges.length<=32
 objs:h.Objs.length<=512
 caches:h.Caches.length<=4
 lists:∀c∈h.Caches,c.Lists.length=4/\∀l∈c.Lists,l.length<=8
 quar:h.Quar.Lst.length<=512
theorem jj.bd{h:ab}{E:List Int}(b:bm h E){a c:Int}(d:jj h.Spans a c):0<=a/\a<512:=by
 obtain⟨s,e,⟨f,g,-⟩,-⟩:=d;have i:=aC (b.L.sok s e);omega
theorem bm.lens{h:ab}{E:List Int}(d:bm h E):Nz h:=by
 obtain⟨O,t,u,P,Q,R,w⟩:=aD.1 d.ker;obtain⟨S,A,T,B⟩:=bc.1 t;obtain⟨U,V,C⟩:=bx.1 u;obtain⟨p,D,W⟩:=fD.1 d.rng;obtain⟨X,Y,F,Z⟩:=iA.1 d.quar;have q:=d.mail;unfold bI at q;simp only[I0,C0]at q;have G:=d.nc;refine⟨A,λr g=>?_,ω,C,w,?_,?_,?_,?_,ω,λc J=>dq (d.cach c J),?_⟩
 ·obtain⟨j,K,rfl⟩:=aW g
  have:=B j K;unfold ir at this;simp only[I0,C0]at this;exact this.1
 ·have:=xQ (H:=h.Free.map (·.At)) (n:=32) (iq (p.1.imp_of_mem fun {a b} ha hb h=>by have:=p.2 a ha;omega)) λx f=>by
   obtain⟨r,g,rfl⟩:=z4.1 f;have:=D r g;omega
  simpa using this
 ·have:=xQ (H:=h.Spans.map (·.Page)) (n:=32) d.L.nd λx f=>by
   obtain⟨s,i,rfl⟩:=z4.1 f;have:=aC (d.L.sok s i);omega
  simpa using this
 ·have:=xQ (H:=h.Larges.map (·.Page)) (n:=32) (iq d.srl) λx f=>by
   obtain⟨l,k,rfl⟩:=z4.1 f;have:=aQ (d.L.lok l k);omega
  simpa using this
 ·have:=xQ (H:=h.Objs.map (·.Addr)) (n:=512) (iq d.osr) λx f=>by
   obtain⟨o,M,rfl⟩:=z4.1 f;rcases d.oow o M with⟨s,i,⟨k1,k2,-⟩,-⟩|⟨l,k,e,-⟩
   ·have:=aC (d.L.sok s i);omega
   ·have:=aQ (d.L.lok l k);omega
  simpa using this
 ·have:=xQ (H:=h.Quar.Lst.map (·.Addr)) (n:=512) F λx f=>by
   obtain⟨y,N,rfl⟩:=z4.1 f;exact(d.hqu y N).bd d
  simpa using this
theorem Nz.sml{h:ab}(a:Nz h)(d:aB h.Kernel=true)(e:aI.sml h.Mail)(f:cG.sml h.Job):ab.sml h:=
 ⟨bA d,⟨by have:=a.free;omega,λ_ _=>trivial⟩,⟨by have:=a.spans;omega,λ_ _=>trivial⟩,⟨by have:=a.larges;omega,λ_ _=>trivial⟩,⟨by have:=a.objs;omega,λ_ _=>trivial⟩,⟨by have:=a.caches;omega,λc b=>⟨by have:=(a.lists c b).1;omega,λl g=>by have:=(a.lists c b).2 l g;show l.length<=1048576;omega⟩⟩,e,⟨by have:=a.quar;omega,λ_ _=>trivial⟩,f⟩
def l7(a:Int)(o:bK):Bool:=decide (o.Addr=a)
def nK(h:ab)(a:Int):Nat:=(dP (l7 a) h.Objs).toNat
theorem bm.objAt{h:ab}{E:List Int}(k:bm h E){o:bK}(l:o∈h.Objs):nK h o.Addr<h.Objs.length/\nth h.Objs (nK h o.Addr)=o/\dP (l7 o.Addr) h.Objs=(nK h o.Addr:Nat):=by
 obtain⟨i,a,rfl⟩:=aW l;have d:dP (l7 (nth h.Objs i).Addr) h.Objs=(i:Nat):=eI (ah a) (by unfold l7;simp) λj z p g=>by
  have b:=bq g;have c:=(O2.1 g).1;subst b;unfold l7;refine T0 λe=>?_
  have:=gY (f:=(·.Addr)) (iq k.osr) c a e;omega
 have n:nK h (nth h.Objs i).Addr=i:=by unfold nK;rw[d];rfl
 rw[n];exact⟨a,rfl,d⟩
theorem iU(k:af)(p:Int)(n:Nat):(dO k p n).Calls=k.Calls/\(dO k p n).Refuse=k.Refuse:=(gM k p n).2
open Go.RowKit
set_option maxRecDepth 20000
set_option maxHeartbeats 4000000
theorem M2(y:ax)(a:List ax):dl [] (y::a)=dl [y] a:=by rw[dl];rfl
theorem Eh{α:Type}[Inhabited α]{xs:List α}(h:xs≠[]):xs.getLast? = some (nth xs (xs.length - 1)):=by
 have a:0<xs.length:=List.length_pos_iff.2 h;rw[List.getLast?_eq_getElem?,ah ω]
theorem Mx{α:Type}{xs:List α}(h:xs≠[])(v:α):xs.dropLast++[v]=xs.set (xs.length - 1) v:=by
 have b:0<xs.length:=List.length_pos_iff.2 h;refine List.ext_getElem (by simp;omega) λi a c=>?_
 rw[List.getElem_set];by_cases e:xs.length - 1=i
 ·subst e
  rw[C9 rfl,List.getElem_append_right (by simp)];simp
 ·rw[C8 e,List.getElem_append_left (by simp at a |-;omega),List.getElem_dropLast]
theorem Li{out:List ax}{y:ax}{a:List ax}(h:out≠[])(e:(nth out (out.length - 1)).At+(nth out (out.length - 1)).Len=y.At):dl out (y::a)=dl (out.set (out.length - 1) ⟨(nth out (out.length - 1)).At,(nth out (out.length - 1)).Len+y.Len⟩) a:=by
 rw[dl,Eh h];simp only;rw[C9 e,Mx h]
theorem N8{out:List ax}{y:ax}{a:List ax}(h:out≠[])(e:¬(nth out (out.length - 1)).At+(nth out (out.length - 1)).Len=y.At):dl out (y::a)=dl (out++[y]) a:=by
 rw[dl,Eh h];simp only;rw[C8 e]
theorem ry(xs:List ax)(B:xs.length<=4194304)(o:∀y∈xs,0<=y.At/\1<=y.Len/\y.At+y.Len<=1048576):ao Tryz.prog 404 false [.val none (b8 .imm xs)] .one (b8 .own (dl [] xs)):=by
 refine fO 63 [(6,21,[15,16,17,18,19,20,21,22,23,24,25,26,27,28,29,30,31,32,33,34,35]),(7,15,[38,39,40,41,42,43,44,45,46,47,48,49,50,51,52])] Tryz.func404 rfl ?_ (.inr (kX _))
 repeat'(first|refine gO ?_|fail)
 (conv=>whnf)
 refine CE (ι:=Nat × List ax) (λq=>[(0,.hold .one (b8 .imm xs)),(3,.hold .one (b8 .own q.2)),(4,.hold .one [I ((q.1:Nat):Int)])]) (λq=>q.1<=xs.length/\dl q.2 (xs.drop q.1)=dl [] xs/\q.2.length<=q.1/\∀y∈q.2,0<=y.At/\1<=y.Len/\y.At+y.Len<=1048576) (λq=>xs.length - q.1) ((0,[])) ?_ (⟨U0 _,rfl,z3 _,λy g=>by cases g⟩) λq p=>?_
 ·exact wB
 obtain⟨i,out⟩:=q;obtain⟨t,b,j,c⟩:=p;simp only at t b j c |-;by_cases k:i<xs.length
 ·have l:=ah k
  have g:=o _ (am k);rw[gQ k]at b;by_cases h:out=[]
  ·subst h
   rw[M2]at b;have D:([]:List ax).length=0:=rfl
   repeat'(first|refine gD ?_|(conv=>whnf);first|with_reducible refine CB (aa l) ?_|refine Ln.mk (show List.length _=0 from rfl) ?_|refine Ap.sm (λr u=>by cases u) rfl (by simp) (by decide) rfl ?_)
   ((conv=>whnf)
    refine CD (i+1,[nth xs i]) ⟨(by simp only;omega),b,(by simp),(λy a=>by rw[I1.1 a];exact g)⟩ (by simp only;omega) ?_
    (repeat'(first|exact trivial|rfl|exact CJ rfl (CJ (W0 (C.s d7.own) (by simp[ax.enc])) trivial)|refine CJ ?_ ?_)))
  ·have n:0<out.length:=List.length_pos_iff.2 h
   have d:out[((out.length:Int) - 1).toNat]? = some (nth out (out.length - 1)):=by
    rw[show((out.length:Int) - 1).toNat=out.length - 1 by omega];exact ah ω
   have w:=c _ (am (xs:=out) (i:=out.length - 1) ω);by_cases e:(nth out (out.length - 1)).At+(nth out (out.length - 1)).Len=(nth xs i).At
   ·rw[Li h e]at b
    repeat'(first|refine gA ?_|(conv=>whnf);first|with_reducible refine CB (aa l) ?_|refine CL ω (aa d) ?_|refine CH rfl (aa d) rfl ?_|refine CN rfl rfl (aa d) rfl (C1 rfl) rfl ?_)
    ((conv=>whnf)
     refine CD (i+1,out.set (out.length - 1) ⟨(nth out (out.length - 1)).At,(nth out (out.length - 1)).Len+(nth xs i).Len⟩) ⟨(by simp only;omega),b,(by simp only;rw[O1];omega),(λy a=>?_)⟩ (by simp only;omega) ?_)
    ·rcases Z5 a with a|rfl
     ·exact c y a
     ·simp only;omega
    ·(repeat'(first|exact trivial|rfl|exact CJ rfl (CJ (W0 (C.s d7.own) (by rw[show((out.length:Int) - 1).toNat=out.length - 1 by omega,W5];rfl)) trivial)|refine CJ ?_ ?_))
   ·rw[N8 h e]at b
    repeat'(first|refine gA ?_|(conv=>whnf);first|with_reducible refine CB (aa l) ?_|refine CL ω (aa d) ?_|refine CH rfl (aa d) rfl ?_|refine Ap.sm (aM λ_=>rfl) rfl (by simp;omega) (by decide) rfl ?_)
    ((conv=>whnf)
     refine CD (i+1,out++[nth xs i]) ⟨(by simp only;omega),b,(by simp;omega),(λy a=>?_)⟩ (by simp only;omega) ?_)
    ·rcases v3.1 a with a|a
     ·exact c y a
     ·rw[I1.1 a];exact g
    ·(repeat'(first|exact trivial|rfl|exact CJ rfl (CJ (W0 (C.s d7.own) (by simp[ax.enc])) trivial)|refine CJ ?_ ?_))
 ·obtain rfl:i=xs.length:=ω
  rw[List.drop_length]at b
  repeat'(first|refine gD ?_|fail)
  rw[<-b];rfl
theorem zo(r y:ax)(a:List ax)(put:Bool):md r (y::a) put=if ovl y r then none else if !put&&decide (y.At > r.At) then(md r a true).map λt=>r::y::t else(md r a put).map λt=>y::t:=by rw[md]
theorem lK(pages:Int)(xs:List ax)(r:ax)(H:0<=pages/\pages<=1048576)(J:gp xs):ao Tryz.prog 387 false [.val none [I pages],.val none (b8 .imm xs),.val (some 2) (ax.enc .imm r)] (.tup [none,none]) (AU xs (ca pages xs r)):=by
 have w:=J.1;have n:=lI pages xs H J;have E:=w8 pages r H;cases o:bt pages xs<;>rw[o]at n
 ·rw[show ca pages xs r=none by unfold ca;rw[C8 (by rw[o];simp)]]
  refine fO 82 [] Tryz.func387 rfl ?_ (.inr (kf _ _))
  repeat'(first|refine gO ?_|(conv=>whnf);first|refine C7 (n) ?_|refine CO (λ_=>rfl) (λ_=>rfl) w (by decide) ?_)
  rfl
 cases k:rangeIn pages r<;>rw[k]at E
 ·rw[show ca pages xs r=none by unfold ca;rw[C8 (by rw[k];simp)]]
  refine fO 82 [] Tryz.func387 rfl ?_ (.inr (kf _ _))
  repeat'(first|refine gO ?_|(conv=>whnf);first|refine C7 (n) ?_|refine C7 (E) ?_|refine CO (λ_=>rfl) (λ_=>rfl) w (by decide) ?_)
  rfl
 obtain⟨K,L⟩:=vc o;have p:0<=r.At/\1<=r.Len/\r.At+r.Len<=pages:=by
  unfold rangeIn at k;rw[C0]at k;omega
 rw[show ca pages xs r=(md r xs false).map (dl []) by unfold ca;rw[C9 ⟨o,k⟩,yW (pages:=pages) K p.2.1 λz M=>by simp at M]];refine fO 82 [] Tryz.func387 rfl ?_ (.inr (kf _ _))
 repeat'(first|refine gO ?_|(conv=>whnf);first|refine C7 (n) ?_|refine C7 (E) ?_|refine CO (λ_=>rfl) (λ_=>rfl) w (by decide) ?_)
 (conv=>whnf)
 refine CE (ι:=Nat × List ax × Bool) (λq=>[(1,.hold .one (b8 .imm xs)),(5,.hold .box (ax.enc .imm r)),(8,.hold .one (b8 .own xs)),(9,.hold .one (b8 .own q.2.1)),(10,.hold .one [B (q.2.2)]),(11,.hold .one [I ((q.1:Nat):Int)])]) (λq=>q.1<=xs.length/\(md r (xs.drop q.1) q.2.2).map (q.2.1++·)=md r xs false/\q.2.1.length<=q.1+q.2.2.toNat/\(∀y∈q.2.1,0<=y.At/\1<=y.Len/\y.At+y.Len<=1048576)) (λq=>xs.length - q.1) ((0,[],false)) ?_ (⟨U0 _,by simp,by simp,by simp⟩) λq g=>?_
 ·exact wB
 obtain⟨i,out,put⟩:=q;obtain⟨N,b,d,e⟩:=g;simp only at N b d e |-;have l:0<=r.At/\1<=r.Len/\r.At+r.Len<=1048576:=ω
 by_cases F:i<xs.length
 ·have u:=ah F
  have O:=L _ (am F);have h:0<=(nth xs i).At/\1<=(nth xs i).Len/\(nth xs i).At+(nth xs i).Len<=1048576:=ω
  rw[gQ F]at b;by_cases j:ovl (nth xs i) r=true
  ·rw[<-b]
   rw[zo,C9 j];unfold ovl at j;rw[C0]at j
   repeat'(first|refine gD ?_|(conv=>whnf);first|with_reducible (first|refine CB (aa u) ?_|refine Bf.D (λg=>?_) (λg=>?_)))
   rfl
  ·rw[zo,C8 j]at b
   unfold ovl at j;rw[C0]at j;cases put with
   | false=>
    have d:out.length<=i:=by simpa using d
    by_cases P:(nth xs i).At > r.At
    ·rw[C9 (by simp;omega),Option.map_map]at b
     repeat'(first|refine gD ?_|(conv=>whnf);first|with_reducible (first|refine CB (aa u) ?_|refine Bf.D (λg=>?_) (λg=>?_))|refine Ap.sm (aM λ_=>rfl) rfl (by simp;omega) (by decide) rfl ?_|refine Ap.sm (λr p=>by simp at p;rcases p with⟨a,_,rfl⟩|rfl<;>rfl) rfl (by simp;omega) (by decide) rfl ?_)
     ((conv=>whnf)
      refine CD (i+1,out++[r,nth xs i],true) ⟨(by simp only;omega),(by rw[<-b];congr 1;funext t;simp),(by simp;omega),(λy c=>?_)⟩ (by simp only;omega) ?_)
     ·rcases v3.1 c with c|c
      ·exact e y c
      ·rcases List.mem_cons.1 c with rfl|c
       ·exact l
       ·rw[I1.1 c];exact h
     ·(repeat'(first|exact trivial|rfl|exact CJ rfl (CJ (W0 (C.s d7.own) (by simp[ax.enc])) trivial)|refine CJ ?_ ?_))
    ·rw[C8 (by simp;omega),Option.map_map]at b
     repeat'(first|refine gD ?_|(conv=>whnf);first|with_reducible (first|refine CB (aa u) ?_|refine Bf.D (λg=>?_) (λg=>?_))|refine Ap.sm (aM λ_=>rfl) rfl (by simp;omega) (by decide) rfl ?_)
     ((conv=>whnf)
      refine CD (i+1,out++[nth xs i],false) ⟨(by simp only;omega),(by rw[<-b];congr 1;funext t;simp),(by simp;omega),(λy c=>?_)⟩ (by simp only;omega) ?_)
     ·rcases v3.1 c with c|c
      ·exact e y c
      ·rw[I1.1 c];exact h
     ·(repeat'(first|exact trivial|rfl|exact CJ rfl (CJ (W0 (C.s d7.own) (by simp[ax.enc])) trivial)|refine CJ ?_ ?_))
   | true=>
    have d:out.length<=i+1:=d;rw[C8 (by simp),Option.map_map]at b;by_cases Q:(nth xs i).At<r.At+r.Len
    all_goals
     repeat'(first|refine gD ?_|(conv=>whnf);first|with_reducible (first|refine CB (aa u) ?_|refine Bf.D (λg=>?_) (λg=>?_))|refine Ap.sm (aM λ_=>rfl) rfl (by simp;omega) (by decide) rfl ?_)
     ((conv=>whnf)
      refine CD (i+1,out++[nth xs i],true) ⟨(by simp only;omega),(by rw[<-b];congr 1;funext t;simp),(by simp;omega),(λy c=>?_)⟩ (by simp only;omega) ?_)
     ·rcases v3.1 c with c|c
      ·exact e y c
      ·rw[I1.1 c];exact h
     ·(repeat'(first|exact trivial|rfl|exact CJ rfl (CJ (W0 (C.s d7.own) (by simp[ax.enc])) trivial)|refine CJ ?_ ?_))
 ·obtain rfl:i=xs.length:=ω
  rw[List.drop_length]at b;cases put with
  | false=>
   have d:out.length<=xs.length:=by simpa using d
   rw[<-b];have G:=ry (out++[r]) (by simp;omega) (λy c=>by
     rcases v3.1 c with c|c
     · exact e y c
     · rw[I1.1 c];exact l)
   repeat'(first|refine gD ?_|(conv=>whnf);first|refine Ap.sm (aM λ_=>rfl) rfl (by simp;omega) (by decide) (show(out++[r]).map (ax.enc .own)=_ by simp[ax.enc]) ?_|refine CG (G) ⟨⟨rfl,d8 _⟩,trivial⟩ ?_)
   rfl
  | true=>
   have d:out.length<=xs.length+1:=d;rw[<-b];have G:=ry out ω e
   repeat'(first|refine gD ?_|(conv=>whnf);first|refine CG (G) ⟨⟨rfl,d8 _⟩,trivial⟩ ?_)
   simp[md,AU]
   rfl
theorem shl64{i:Int}(d:0<=i/\i<=15):IntKind.i64.wrap (1*2 ^ min i.toNat IntKind.i64.bits)=2 ^ i.toNat/\0<=(2:Int) ^ i.toNat/\(2:Int) ^ i.toNat<=32768:=by
 have a:min i.toNat IntKind.i64.bits=i.toNat:=Nat.min_eq_left (show i.toNat<=64 by omega);have b:(0:Int)<=2 ^ i.toNat/\(2:Int) ^ i.toNat<=32768:=by
  have:(2:Nat) ^ i.toNat<=2 ^ 15:=Nat.pow_le_pow_right (by decide) ω;have c:((2 ^ i.toNat:Nat):Int)=(2:Int) ^ i.toNat:=Int.natCast_pow 2 i.toNat;rw[<-c];exact⟨Int.natCast_nonneg _,Int.ofNat_le.2 this⟩
 rw[a,Int.one_mul];exact⟨eM ω ω,b⟩
theorem clr64{b i:Int}(a:0<=b/\b<=65535):IntKind.i64.wrap ((BitVec.ofInt IntKind.i64.bits b &&& ~~~BitVec.ofInt IntKind.i64.bits (2 ^ i.toNat)).toNat:Nat)=xm b i:=by
 have:=A2 (i:=i) a;unfold xm at this |-;exact eM ω ω
theorem t6(b i:Int)(c:0<=b/\b<=65535)(d:0<=i/\i<=15):ao Tryz.prog 405 false [.val none [I b],.val none [I i]] .one [I (xm b i)]:=by
 have a:=po b i;rw[O0 ω]at a;have e:IntKind.u64.wrap i=i:=by unfold IntKind.wrap;simp[IntKind.signed,IntKind.bits];omega
 refine fO 15 [] Tryz.func405 rfl ?_
 repeat'(first|refine gO ?_|(conv=>whnf);first|refine CA ?_|refine C7 (a) ?_|refine CM ω ?_|refine CK e ?_|refine CK (shl64 d).1 ?_|refine CK (clr64 c) ?_)
 rfl
theorem sR(b i:Int)(c:0<=b/\b<=65535)(d:0<=i/\i<=15):ao Tryz.prog 298 false [.val none [I b],.val none [I i]] .one [I (xm b i)]:=by
 have a:=tt b i;rw[O0 ω]at a;refine fO 14 [] Tryz.func298 rfl ?_
 repeat'(first|refine gO ?_|(conv=>whnf);first|refine CA ?_|refine C7 (a) ?_|refine CM ω ?_|refine CK (shl64 d).1 ?_|refine CK (clr64 c) ?_)
 rfl
theorem Hw{s:ar}{k:Int}(a:aU s.Bits k=true):0<=k/\k<=15:=by
 have:=(gt _ _).1 a;omega
theorem xW(s:ar)(k:Int)(a:aY s=true)(b:aU s.Bits k=true):ao Tryz.prog 391 false [.val (some 3) (ar.enc .imm s),.val none [I k]] (.tup [some 3,none]) (ar.enc .own (jM s k)++[B true]):=by
 have e:=en a;have g:=Hw b;have c:=f6 s;have d:=gv s.Bits k ω;rw[a]at c;rw[b]at d;refine fO 23 [] Tryz.func391 rfl ?_ (.inr (aS (ar.enc_fr _) ⟨trivial,trivial⟩))
 repeat'(first|refine gO ?_|(conv=>whnf);first|refine CA ?_|refine C7 (c) ?_|refine C7 (d) ?_|refine C7 (t6 s.Bits k e g) ?_)
 rfl
theorem yH(s:ar)(k:Int)(a:aY s=true)(b:aU s.Bits k=true):ao Tryz.prog 238 false [.val (some 3) (ar.enc .imm s),.val none [I k]] (.tup [some 3,none]) (ar.enc .own (jM s k)++[B true]):=by
 have e:=en a;have g:=Hw b;have c:=ge s;have d:=jK s.Bits k ω;rw[a]at c;rw[b]at d;refine fO 23 [] Tryz.func238 rfl ?_ (.inr (aS (ar.enc_fr _) ⟨trivial,trivial⟩))
 repeat'(first|refine gO ?_|(conv=>whnf);first|refine CA ?_|refine C7 (c) ?_|refine C7 (d) ?_|refine C7 (sR s.Bits k e g) ?_)
 rfl
theorem xL(c:aA)(k:Int)(b:aA.sml c):ao Tryz.prog 340 false [.val (some 1) (aA.enc .imm c),.val none [I k]] .one [B (bn c&&decide (0<=k/\k<=3))]:=by
 have a:=nl c b;cases e:bn c<;>rw[e]at a
 all_goals
  refine fO 11 [] Tryz.func340 rfl ?_
  repeat'(first|refine gO ?_|(conv=>whnf);first|refine CA ?_|refine C7 (a) ?_|refine C7 (aG k 0 3) ?_)
  all_goals rfl
theorem Fz(c:aA)(k:Int)(a:aA.sml c):ao Tryz.prog 237 false [.val (some 1) (aA.enc .imm c),.val none [I k]] .one [B (decide (0<=k/\k<=3)&&bn c)]:=by
 have b:=jI c a;refine fO 11 [] Tryz.func237 rfl ?_
 repeat'(first|refine gO ?_|(conv=>whnf);first|with_reducible refine Bf.D (λd=>?_) (λd=>?_)|refine CA ?_|refine C7 (b) ?_|refine C7 (eS k) ?_)
 all_goals exact W0 (λz=>[B z]) ((by simp[*]))
theorem pu{c:aA}{k:Nat}(a:k<c.Lists.length):c.Lists[k]? = some (nth c.Lists k):=ah a
theorem LO{c:aA}(h:bn c=true)(k:Nat)(a:Int):aA.sml (mR c k a):=by
 obtain⟨f,d⟩:=dq h;refine⟨by simp only[mR,O1];omega,λl b=>?_⟩;rcases Z5 b with b|rfl
 ·have:=d l b;show l.length<=1048576;omega
 ·show(nth c.Lists k++[a]).length<=1048576
  by_cases e:k<c.Lists.length
  ·have:=d _ (am e);simp;omega
  ·have:nth c.Lists k=[]:=by unfold nth;rw[W2,U2 ω];rfl
   rw[this];simp
theorem My(c:aA)(k:Nat)(a:Int):aA.enc .own (mR c k a)=[.s .own ((c.Lists.map (aF .own)).set k (aF .own (nth c.Lists k++[a])))]:=by simp[aA.enc,mR,W5]
theorem gj{α:Type}{f:α->List C}{xs:List α}{k:Nat}{y:α}{r:List C}(h:xs[k]? = some y):((xs.map f).set k r)[k]? = some r:=by
 rw[U3 (by rw[Z0];exact(O2.1 h).1)]
theorem iK{α β:Type}(f:α->β)(xs:List α)(y:α):(xs++[y]).map f=xs.map f++[f y]:=by simp
def GR(c:aA)(k a:Int):List C:=aA.enc .own ((cput c k a).getD c)++[B (cput c k a).isSome]
theorem La(c:aA)(k a:Int):gH (GR c k a):=aS (aA.enc_fr _) ⟨trivial,trivial⟩
theorem yn(c:aA)(k:Nat)(a:Int)(h:bn c=true)(B:k<=3):ao Tryz.prog 403 false [.val (some 1) (aA.enc .imm c),.val none [I (k:Nat)],.val none [I a]] (.tup [some 1,none]) (GR c k a):=by
 obtain⟨D,q⟩:=dq h;have r:aA.sml c:=⟨ω,λl u=>by have:=q l u;show l.length<=1048576;omega⟩
 have n:=xL c k r;rw[h,O0 ω]at n;have t:=i7 c r;have d:=LO h k a;have o:=nl (mR c k a) d;have w:=i7 (mR c k a) d;have b:=pu (c:=c) (k:=k) ω;have y:=q _ (am (xs:=c.Lists) (i:=k) ω);have j:=aA.enc_fz (mR c k a);rw[My]at j;have g:=La c k a;unfold GR at g |-;cases e:bn (mR c k a)<;>rw[e]at o
 ·have p:cput c k a=none:=by unfold cput;rw[C8 λx=>by have:=x.2.2.2;rw[X2,e]at this;cases this]
  rw[p]at g |-;refine fO 35 [(4,267,[16,17,18,19,20,21,22,23,24,25,27,0,1,2,3,4,5,6,7,8,9,10,1000,1001,1002,11,12])] Tryz.func403 rfl ?_ (.inr g)
  repeat'(first|refine gO ?_|(conv=>whnf);first|with_reducible refine CB (aa b) ?_|refine CA ?_|refine CB (gj b) ?_|refine CH rfl (gj b) rfl ?_|refine C7 (n) ?_|refine C7 (t) ?_|refine Lq.one rfl rfl (aa b) rfl (C1 rfl) rfl rfl ?_|refine CH rfl (aa b) rfl ?_|refine CN rfl rfl (gj b) rfl (C1 rfl) (show [C.s d7.own ((c.Lists.map (aF .own)).set k (aF .own (nth c.Lists k++[a])))]=_ from by simp only[List.set_cons_zero,List.set_set,X2];rfl) ?_|refine Ap.sm (aM λ_=>rfl) rfl (by simp;omega) (by decide) (iK _ _ _) ?_|refine CG (o) ⟨⟨rfl,j⟩,trivial⟩ ?_)
  rfl
 ·have p:cput c k a=some (mR c k a):=by unfold cput;rw[C9 ⟨h,ω,ω,by rw[X2];exact e⟩,X2]
  rw[p]at g |-;refine fO 35 [(4,267,[16,17,18,19,20,21,22,23,24,25,27,0,1,2,3,4,5,6,7,8,9,10,1000,1001,1002,11,12])] Tryz.func403 rfl ?_ (.inr g)
  repeat'(first|refine gO ?_|(conv=>whnf);first|with_reducible refine CB (aa b) ?_|refine CA ?_|refine CB (gj b) ?_|refine CH rfl (gj b) rfl ?_|refine C7 (n) ?_|refine C7 (t) ?_|refine Lq.one rfl rfl (aa b) rfl (C1 rfl) rfl rfl ?_|refine CH rfl (aa b) rfl ?_|refine CN rfl rfl (gj b) rfl (C1 rfl) (show [C.s d7.own ((c.Lists.map (aF .own)).set k (aF .own (nth c.Lists k++[a])))]=_ from by simp only[List.set_cons_zero,List.set_set,X2];rfl) ?_|refine Ap.sm (aM λ_=>rfl) rfl (by simp;omega) (by decide) (iK _ _ _) ?_|refine CG (o) ⟨⟨rfl,j⟩,trivial⟩ ?_|refine CG (w) ⟨⟨rfl,j⟩,trivial⟩ ?_)
  rfl
def bz(x:ab):List C:=[.s .own (x.Kernel.Machine.Frames.Cells.map (aF .own)),.s .own (x.Kernel.Machine.Frames.Used.map (rB .own)),.s .own (x.Kernel.Machine.Table.Entries.map (bf.enc .own)),I x.Kernel.Calls,.s .own (x.Kernel.Refuse.map (rI .own)),.s .own (x.Free.map (ax.enc .own)),.s .own (x.Spans.map (ar.enc .own)),.s .own (x.Larges.map (a7.enc .own)),.s .own (x.Objs.map (bK.enc .own)),.s .own (x.Caches.map (aA.enc .own)),.s .own (x.Mail.Buffers.map (cz .own)),.s .own (x.Mail.Inbox.map (aF .own)),I x.Quar.Room,.s .own (x.Quar.Lst.map (aK.enc .own)),I x.Seed,I x.Clock,I x.Limit,I x.Next,B x.Meshing,I x.Job.Plan.Keep,I x.Job.Plan.Move,.s .imm (x.Job.Plan.Cells.map (rI .imm)),I x.Job.Phase,I x.Job.Next]
theorem bC(x:ab):dw (bz x)=ab.enc .imm x:=by simp[dw,bz,ab.enc,aA.enc_fz,bf.enc_fz,a7.enc_fz,bK.enc_fz,ax.enc_fz,ar.enc_fz,aK.enc_fz,rB,nr,rI,dL,<-bR,T5]
def xF(x:cG):List C:=[I x.Plan.Keep,I x.Plan.Move,.s .imm (x.Plan.Cells.map (rI .imm)),I x.Phase,I x.Next]
theorem Pu.two{f bs':List C}{off i k j g h b:Nat}{cs:List C}{K:List C->Prop}{o c:d7}{rows rows2:List (List C)}{r d:List C}(h1:f[off]? = some (.s o rows))(t:o.mine=true)(l:rows[i]? = some r)(u:r.length=k)(n:r[j]? = some (.s c rows2))(w:c.mine=true)(p:rows2[g]? = some d)(y:d.length=h)(D:b+cs.length<=h)(A:bs'=f.set off (.s o (rows.set i (r.set j (.s c (rows2.set g (splice d b cs)))))))(B:K bs'):Pu f off [(i,k,j),(g,h,b)] cs K:=by
 have q:o≠.imm:=λe=>by subst e;cases t
 have a:c≠.imm:=λe=>by subst e;cases w
 refine Pu.mk (r:=d) (j:=b) (by simp[bW,h1,l,u,n,p,y]) (by simp[jD,h1,l,q,n,p,a]) ω (by rw[A];simp[fF,h1,l,n,p]) B
theorem x8(x:List ar):fz (.s .own (x.map (ar.enc .own)))=.s .imm (x.map (ar.enc .imm)):=(List.cons.inj (fB x)).1
theorem tf(x:List a7):fz (.s .own (x.map (a7.enc .own)))=.s .imm (x.map (a7.enc .imm)):=(List.cons.inj (jt x)).1
theorem vi(x:List bK):fz (.s .own (x.map (bK.enc .own)))=.s .imm (x.map (bK.enc .imm)):=(List.cons.inj (yY x)).1
theorem Ap.dele{α:Type}{e:α->List C}{xs:List α}{i sz by_:Nat}{K:List (List C)->Prop}(a:∀y,(e y).length=sz)(b:∀y,aX (e y)=true)(h:xs.length<=1048576)(c:by_<=1000)(d:K ((Ab.dele xs i).map e)):Ap true ((xs.take i).map e) ((xs.drop (i+1)).map e) sz by_ K:=by
 have f:(xs.take i).length+(xs.drop (i+1)).length<=2097152:=by rw[U1,O3];omega
 refine CQ (aM a) (aM a) (λ_ r g=>by obtain⟨y,-,rfl⟩:=z4.1 g;exact b y) (by rw[Z0,Z0];omega) (by rw[Z0,Z0];exact V4 (Nat.mul_le_mul f c) (by decide)) ?_ d;unfold Ab.dele;rw[O5]
theorem Jp(h:ab)(p:Int)(a:aH.sml h.Kernel.Machine.Table):ao Tryz.prog 348 false [.ptr (ab.enc .imm h),.val none [I p]] .one [I (au h.Kernel.Machine.Table p).Mode]:=by
 refine fO 13 [] Tryz.func348 rfl ?_
 repeat'(first|refine gO ?_|(conv=>whnf);first|refine CA ?_|refine C7 (cY h.Kernel.Machine.Table p a) ?_)
 rfl
def P2(h:ab):List C:=(bz h).drop 5
theorem QF(h:ab)(k:af):bz {h with Kernel:=k} = af.enc .own k++P2 h:=rfl
theorem EO(h:ab):P2 h=[.s .own (h.Free.map (ax.enc .own)),.s .own (h.Spans.map (ar.enc .own)),.s .own (h.Larges.map (a7.enc .own)),.s .own (h.Objs.map (bK.enc .own)),.s .own (h.Caches.map (aA.enc .own)),.s .own (h.Mail.Buffers.map (cz .own)),.s .own (h.Mail.Inbox.map (aF .own)),I h.Quar.Room,.s .own (h.Quar.Lst.map (aK.enc .own)),I h.Seed,I h.Clock,I h.Limit,I h.Next,B h.Meshing,I h.Job.Plan.Keep,I h.Job.Plan.Move,.s .imm (h.Job.Plan.Cells.map (rI .imm)),I h.Job.Phase,I h.Job.Next]:=rfl
theorem JB(h:ab)(f:Int)(a:aH.sml h.Kernel.Machine.Table)(b:0<=f/\f<h.Kernel.Machine.Frames.Cells.length/\f<h.Kernel.Machine.Frames.Used.length) :
  aO Tryz.prog 349 false [.ptr (bz h),.val none [I f]] [.ptr (bz {h with Kernel:=gF h.Kernel f}),.val none [I f]] (.tup []) []:=by
 have c:=ah (xs:=h.Kernel.Machine.Frames.Cells) (i:=f.toNat) ω;have d:=ah (xs:=h.Kernel.Machine.Frames.Used) (i:=f.toNat) ω;rw[QF h (gF h.Kernel f)];by_cases e:(pagesOn h.Kernel.Machine.Table f).length=0
 ·rw[tA e,EO]
  refine fM 30 [] [(2,8,[21,22,23,24,25,26,27,28])] [(0,0),(0,0)] Tryz.func349 rfl (λu q=>?_) (.inr trivial)
  repeat'(first|refine gA ?_|(conv=>whnf);first|with_reducible (first|refine CL b.1 (aa d) ?_|refine CL b.1 (aa c) ?_)|refine CA ?_|refine CG (gx h.Kernel.Machine.Table f a) ⟨⟨rfl,CY h.Kernel.Machine.Table⟩,⟨rfl,rfl⟩,trivial⟩ ?_|refine CN rfl rfl (aa c) rfl (C1 rfl) rfl ?_|refine CN rfl rfl (aa d) rfl (C1 rfl) rfl ?_|refine Mk.mk 16 rfl rfl (by decide) (by decide) rfl ?_)
  refine CF rfl rfl ?_;exact wB
 ·rw[wz e]
  show aO _ _ _ [.ptr (bz h),_] [.ptr (bz h),_] _ _;refine fM 30 [] [(2,8,[21,22,23,24,25,26,27,28])] [(0,0),(0,0)] Tryz.func349 rfl (λu q=>?_) (.inr trivial)
  repeat'(first|refine gA ?_|(conv=>whnf);first|refine CA ?_|refine CG (gx h.Kernel.Machine.Table f a) ⟨⟨rfl,CY h.Kernel.Machine.Table⟩,⟨rfl,rfl⟩,trivial⟩ ?_)
  refine CF rfl rfl ?_;exact wB
theorem nv(h:ab)(p:Int)(b:aB h.Kernel=true) :
  aO Tryz.prog 297 false [.ptr (bz h),.val none [I p]] [.ptr (bz {h with Kernel:=cA h.Kernel p}),.val none [I p]] .one [B (decide ((au h.Kernel.Machine.Table p).Mode≠0))]:=by
 have k:=bA b;have c:=Jp h p k.1.2;by_cases a:(au h.Kernel.Machine.Table p).Mode=0
 ·rw[show cA h.Kernel p=h.Kernel by unfold cA;rw[C9 a]]
  refine fM 32 [(349,[2,0])] [] [(0,0),(0,0)] Tryz.func297 rfl (λu q=>?_)
  repeat'(first|refine gA ?_|(conv=>whnf);first|refine CA ?_|refine CG (c) ⟨bC h,⟨rfl,rfl⟩,trivial⟩ ?_)
  refine CF rfl ?_ ?_
  ·exact W0 (λz=>[B z]) ((by simp[a]))
  ·exact wB
 ·obtain⟨l,r,n,d,o⟩:=cu b a
  have j:=(bc.1 (aD.1 b).2.1).2.2.1;rw[show cA h.Kernel p=gF (ko h.Kernel p) (au h.Kernel.Machine.Table p).Frame by unfold cA;rw[C8 a]];have e:=JB {h with Kernel:=ko h.Kernel p} (au h.Kernel.Machine.Table p).Frame (xw b) ⟨d,by simp only[ko];omega,by simp only[ko];omega⟩;rw[QF h (ko h.Kernel p),wG,EO]at e;have g:=ah (xs:=h.Kernel.Machine.Table.Entries) (i:=p.toNat) ω;rw[n]at c e a |-;refine fM 32 [(349,[2,0])] [] [(0,0),(0,0)] Tryz.func297 rfl (λu q=>?_)
  repeat'(first|refine gA ?_|(conv=>whnf);first|with_reducible refine CL l (aa g) ?_|refine CA ?_|refine CG (c) ⟨bC h,⟨rfl,rfl⟩,trivial⟩ ?_|refine CN rfl rfl (aa g) rfl (C1 rfl) rfl ?_|refine CH rfl (aa g) rfl ?_|refine CI (e) (.inl rfl) ?_)
  refine CF rfl ?_ ?_
  ·exact W0 (λz=>[B z]) ((by simp[a]))
  ·exact wB
theorem u5(h:ab)(p:Int):ao Tryz.prog 290 false [.ptr (ab.enc .imm h),.val none [I p]] .one [B (fo h p)]:=by
 cases e:h.Meshing
 all_goals
  have b:ab.enc .imm h=(ab.enc .imm h).set 18 (B h.Meshing):=rfl;rw[e]at b;rw[b];refine fO 29 [] Tryz.func290 rfl ?_
  repeat'(first|refine gO ?_|(conv=>whnf);first|with_reducible (first|refine Bf.D (λa=>?_) (λa=>?_)|refine Bf.E (λa=>?_) (λa=>?_)|refine Bf.N (λa=>?_) (λa=>?_))|refine CA ?_)
  all_goals exact W0 (λz=>[B z]) ((by unfold fo;rw[e];first|(simp[*];done)|(simp[*];rw[U4];simp)))
theorem gU(h:ab):ao Tryz.prog 295 false [.ptr (ab.enc .imm h)] .one [I (dS h:Nat)]:=by
 refine fO 11 [] Tryz.func295 rfl ?_
 repeat'(first|refine gO ?_|(conv=>whnf);first|refine CA ?_)
 rfl
theorem qu(h:ab)(a:Int)(k:h.Objs.length<=1048576):ao Tryz.prog 53 false [.val (some 24) (ab.enc .imm h),.val none [I a]] .one [I (dP (l7 a) h.Objs)]:=by
 refine fO 22 [] Tryz.func53 rfl ?_
 repeat'(first|refine gO ?_|(conv=>whnf);first|refine CA ?_)
 (conv=>whnf)
 refine CE (ι:=Nat) (λi=>[(1,.hold .one [I (a)]),(2,.hold .box (ab.enc .imm h)),(5,.hold .one [I ((i:Nat):Int)])]) (λi=>i<=h.Objs.length/\∀(j:Nat)(z:bK),j<i->h.Objs[j]? = some z->l7 a z=false) (λi=>h.Objs.length - i) (0) ?_ (⟨U0 _,λj z l=>ω⟩) λi d=>?_
 ·exact wB
 obtain⟨d,c⟩:=d;by_cases g:i<h.Objs.length
 ·have b:=ah g
  by_cases e:(nth h.Objs i).Addr=a
  ·repeat'(first|refine gA ?_|(conv=>whnf);first|with_reducible refine CB (aa b) ?_|refine CA ?_)
   exact W0 (λz=>[I z]) (eI b (by unfold l7;simp[e]) c).symm
  ·repeat'(first|refine gA ?_|(conv=>whnf);first|with_reducible refine CB (aa b) ?_|refine CA ?_)
   ((conv=>whnf);refine CD (i+1) ⟨ω,dC b (by unfold l7;simp[e]) c⟩ ω ?_;(exact wB))
 ·repeat'(first|refine gD ?_|(conv=>whnf);first|refine CA ?_)
  exact W0 (λz=>[I z]) (gk ω c).symm
theorem mP(h:ab)(i:Nat)(b:i<h.Objs.length)(a:h.Objs.length<=1048576):aO Tryz.prog 382 false [.ptr (bz h),.val none [I (i:Nat)]] [.ptr (bz {h with Objs:=dele h.Objs i}),.val none [I (i:Nat)]] (.tup []) []:=by
 refine fM 23 [] [(0,273,[4,5,6,7,8,9,10,11,13,14,15,16,17,18,19,21,22,0,1,2,3,4,5,6,7,9,10,11,12,13,14,15,8,1000,1009,1010,1011,1012,1013,1014,1015,16,1000,17,18,19]),(1048576,0,[8])] [(0,0),(0,0)] Tryz.func382 rfl (λu q=>?_) (.inr trivial)
 repeat'(first|refine gO ?_|(conv=>whnf);first|refine CA ?_|refine CV rfl (vi h.Objs) rfl ?_|refine CT i rfl (by rw[Z0];omega) (aM λ_=>rfl) t4 ?_|refine CW (i+1) rfl (by rw[Z0];omega) (aM λ_=>rfl) v4 ?_|refine CU (λ_=>rfl) (λ_=>rfl) (by rw[U1];omega) (by decide) ?_|refine Ap.dele (λ_=>rfl) (λ_=>rfl) a (by decide) ?_|refine CO (λ_=>rfl) (λ_=>rfl) (by rw[U1];omega) (by decide) ?_|refine CA ?_)
 refine CF rfl rfl ?_;exact wB
theorem B8(h:ab)(E:List Int)(i:Nat)(b:bm h E)(e:i<h.Spans.length):aO Tryz.prog 392 false [.ptr (bz h),.val none [I (i:Nat)]] [.ptr (bz (giveP h i)),.val none [I (i:Nat)]] (.tup []) []:=by
 have a:=b.lens;have g:=a.spans;have c:=ah e;have j:=nv {h with Spans:=dele h.Spans i} (nth h.Spans i).Page b.ker;have d:=gU {h with Kernel:=cA h.Kernel (nth h.Spans i).Page,Spans:=dele h.Spans i};rw[show dS {h with Kernel:=cA h.Kernel (nth h.Spans i).Page,Spans:=dele h.Spans i} = dS h from(qL _ _).1]at d;have k:dS h<=32:=a.ents;have l:=lK (dS h:Nat) h.Free ⟨(nth h.Spans i).Page,1⟩ ⟨ω,ω⟩ ⟨by have:=a.free;omega,λ_ _=>trivial⟩;refine fM 52 [(297,[2,0])] [(1,273,[13,14,15,16,17,18,19,20,22,23,24,25,26,27,28,30,31,0,1,2,3,4,5,6,7,9,10,11,12,13,14,15,8,1000,1009,1010,1011,1012,1013,1014,1015,16,1000,17,18,19]),(1048577,0,[6]),(3,270,[38,39,40,41,42,43,44,45,47,37,48,49,50,51,0,1,2,3,4,5,6,7,8,1000,1001,1002,1003,1004,1005,1006,9,10,11,12,13,14,15,1012])] [(0,0),(0,0)] Tryz.func392 rfl (λu q=>?_) (.inr trivial)
 repeat'(first|refine gO ?_|(conv=>whnf);first|with_reducible refine CB (aa c) ?_|refine CA ?_|refine CV rfl (x8 h.Spans) rfl ?_|refine CT i rfl (by rw[Z0];omega) (aM λ_=>rfl) t4 ?_|refine CW (i+1) rfl (by rw[Z0];omega) (aM λ_=>rfl) v4 ?_|refine CU (λ_=>rfl) (λ_=>rfl) (by rw[U1];omega) (by decide) ?_|refine Ap.dele (λ_=>rfl) (λ_=>rfl) ω (by decide) ?_|refine CO (λ_=>rfl) (λ_=>rfl) (by rw[U1];omega) (by decide) ?_|refine CH rfl (aa c) rfl ?_|refine CA ?_|refine CI (j) (.inl rfl) ?_|refine CG (d) ⟨bC _,trivial⟩ ?_|refine CG (l) ⟨⟨rfl,rfl⟩,⟨rfl,d8 h.Free⟩,⟨rfl,rfl⟩,trivial⟩ ?_)
 refine CF rfl rfl ?_;exact wB
theorem wv(h:ab)(i:Nat)(a:Int):bz (clrS h i a)=(bz h).set 6 (.s .own ((h.Spans.map (ar.enc .own)).set i (ar.enc .own (jM (nth h.Spans i) (dB (nth h.Spans i) a))))):=by
 simp[bz,clrS,W5]
theorem m6{α β:Type}{f:α->β}{xs:List α}{i:Nat}{y:β}(a:i<xs.length):((xs.map f).set i y)[i]? = some y:=by
 rw[U3 (by rw[Z0];exact a)]
theorem HN{s:ar}(c:aY s=true){a:Int}(b:eE s a):iD s a=(dB s a,0):=by
 unfold iD;rw[C9 ((fA c).2 ⟨b.1,b.2.1⟩),b.2.2.1];rfl
theorem m7(h:ab)(E:List Int)(a:Int)(c:bm h (a::E)):aO Tryz.prog 364 false [.ptr (bz h),.val none [I a]] [.ptr (bz (freeA h a)),.val none [I a]] (.tup []) []:=by
 obtain⟨g,n,t⟩:=c.at (c.hin a (V1 ..));have d:=(c.hin a (V1 ..)).bd c;have B:=c.lens;have C:=B.spans;have e:=c.L.sok _ (am g);have k:=jr h (a / 16) ω;rw[t]at k;unfold freeA;generalize uN h a=i at g n k e;have b:=ah g;have o:=ui (nth h.Spans i) a ⟨ω,ω⟩;rw[HN e n]at o;have w:=xW (nth h.Spans i) (dB (nth h.Spans i) a) e n.2.2.2;have D:=c.give g n;have l:=u5 (clrS h i a) (nth h.Spans i).Page;rw[show fo (clrS h i a) (nth h.Spans i).Page=fo h (nth h.Spans i).Page from rfl]at l;have p:=B8 (clrS h i a) E i D (by unfold clrS;simp only[O1];exact g);have r:=bC (clrS h i a);rw[wv]at p r;have j:((h.Spans.map (ar.enc .own)).set i (ar.enc .own (jM (nth h.Spans i) (dB (nth h.Spans i) a))))[i]? = some (ar.enc .own (jM (nth h.Spans i) (dB (nth h.Spans i) a))):=m6 g;unfold freeS;by_cases y:(jM (nth h.Spans i) (dB (nth h.Spans i) a)).Bits=0
 ·cases F:fo h (nth h.Spans i).Page<;>rw[F]at l
  ·rw[C9 ⟨y,rfl⟩]
   refine fM 68 [(392,[2,0])] [(2,274,[26,27,28,29,30,31,32,33,34,35,36,37,38,39,25,40,41,42,0,1,2,3,4,5,6,7,8,9,10,11,12,13,14,15,16,17,18,1016])] [(0,0),(0,0)] Tryz.func364 rfl (λu q=>?_) (.inr trivial)
   repeat'(first|refine gA ?_|(conv=>whnf);first|with_reducible refine CK ((W0 _ (tdiv16 d.1)).trans (eM ω ω)) ?_|refine CA ?_|refine CM (by decide) ?_|refine CG (k) ⟨⟨rfl,bC h⟩,⟨rfl,rfl⟩,trivial⟩ ?_|refine CB (aa b) ?_|refine CB j ?_|refine CH rfl (aa b) rfl ?_|refine CH rfl j rfl ?_|refine C7 (o) ?_|refine C7 (w) ?_|refine CA ?_|refine CN rfl rfl (aa b) rfl (C1 rfl) rfl ?_|refine CG (l) ⟨r,⟨rfl,rfl⟩,trivial⟩ ?_|refine CI (p) (.inl rfl) ?_)
   refine CF rfl rfl ?_;exact wB
  ·rw[C8 λx=>by cases x.2]
   rw[wv];refine fM 68 [(392,[2,0])] [(2,274,[26,27,28,29,30,31,32,33,34,35,36,37,38,39,25,40,41,42,0,1,2,3,4,5,6,7,8,9,10,11,12,13,14,15,16,17,18,1016])] [(0,0),(0,0)] Tryz.func364 rfl (λu q=>?_) (.inr trivial)
   repeat'(first|refine gA ?_|(conv=>whnf);first|with_reducible refine CK ((W0 _ (tdiv16 d.1)).trans (eM ω ω)) ?_|refine CA ?_|refine CM (by decide) ?_|refine CG (k) ⟨⟨rfl,bC h⟩,⟨rfl,rfl⟩,trivial⟩ ?_|refine CB (aa b) ?_|refine CB j ?_|refine CH rfl (aa b) rfl ?_|refine CH rfl j rfl ?_|refine C7 (o) ?_|refine C7 (w) ?_|refine CA ?_|refine CN rfl rfl (aa b) rfl (C1 rfl) rfl ?_|refine CG (l) ⟨r,⟨rfl,rfl⟩,trivial⟩ ?_|refine CI (p) (.inl rfl) ?_)
   refine CF rfl rfl ?_;exact wB
 ·rw[C8 λx=>y x.1]
  rw[wv];refine fM 68 [(392,[2,0])] [(2,274,[26,27,28,29,30,31,32,33,34,35,36,37,38,39,25,40,41,42,0,1,2,3,4,5,6,7,8,9,10,11,12,13,14,15,16,17,18,1016])] [(0,0),(0,0)] Tryz.func364 rfl (λu q=>?_) (.inr trivial)
  repeat'(first|refine gA ?_|(conv=>whnf);first|with_reducible refine CK ((W0 _ (tdiv16 d.1)).trans (eM ω ω)) ?_|refine CA ?_|refine CM (by decide) ?_|refine CG (k) ⟨⟨rfl,bC h⟩,⟨rfl,rfl⟩,trivial⟩ ?_|refine CB (aa b) ?_|refine CB j ?_|refine CH rfl (aa b) rfl ?_|refine CH rfl j rfl ?_|refine C7 (o) ?_|refine C7 (w) ?_|refine CA ?_|refine CN rfl rfl (aa b) rfl (C1 rfl) rfl ?_|refine CG (l) ⟨r,⟨rfl,rfl⟩,trivial⟩ ?_|refine CI (p) (.inl rfl) ?_)
  refine CF rfl rfl ?_;exact wB
theorem ML(h:ab)(t:Nat)(c:aA):bz {h with Caches:=h.Caches.set t c} = (bz h).set 9 (.s .own ((h.Caches.map (aA.enc .own)).set t (aA.enc .own c))):=by
 simp[bz,W5]
theorem nz(h:ab)(E:List Int)(t:Nat)(a:Int)(b:bm h (a::E))(w:t<h.Caches.length):aO Tryz.prog 384 false [.ptr (bz h),.val none [I (t:Nat)],.val none [I a]] [.ptr (bz (recyc t h a)),.val none [I (t:Nat)],.val none [I a]] (.tup []) []:=by
 obtain⟨o,y,p⟩:=b.at (b.hin a (V1 ..));have g:=(b.hin a (V1 ..)).bd b;have B:=b.lens;have C:=B.spans;have j:=aC (b.L.sok _ (am o));have r:=b.cach _ (am w);have l:=jr h (a / 16) ω;rw[p]at l;have D:=m7 h E a b;unfold recyc;generalize uN h a=i at o y l j;have n:=ah o;have k:=ah w;have d:=yn (nth h.Caches t) (nth h.Spans i).Class.toNat a r ω;rw[Int.toNat_of_nonneg j.2.2.1]at d;unfold GR at d;cases e:cput (nth h.Caches t) (nth h.Spans i).Class a with
 | none=>
  rw[e]at d;refine fM 46 [(364,[2,0])] [(1,277,[16,17,18,19,20,21,22,23,24,25,26,27,28,29,30,31,32,15,33,34,7,0,1,2,3,4,5,6,7,8,9,10,11,12,13,14,15,16,17,18,19,20,21,1019,22]),(3,6,[36,37,38,39,40,41])] [(0,0),(0,0),(0,0)] Tryz.func384 rfl (λu q=>?_) (.inr trivial)
  repeat'(first|refine gO ?_|(conv=>whnf);first|with_reducible refine CK ((W0 _ (tdiv16 g.1)).trans (eM ω ω)) ?_|refine CA ?_|refine CM (by decide) ?_|refine CG (l) ⟨⟨rfl,bC h⟩,⟨rfl,rfl⟩,trivial⟩ ?_|refine CB (aa n) ?_|refine CB (aa k) ?_|refine CH rfl (aa n) rfl ?_|refine CH rfl (aa k) rfl ?_|refine CG (d) ⟨⟨rfl,aA.enc_fz _⟩,⟨rfl,rfl⟩,⟨rfl,rfl⟩,trivial⟩ ?_|refine CA ?_|refine CI (D) (.inl rfl) ?_)
  refine CF rfl rfl ?_;exact wB
 | some c=>
  rw[e]at d;simp only;rw[ML];refine fM 46 [(364,[2,0])] [(1,277,[16,17,18,19,20,21,22,23,24,25,26,27,28,29,30,31,32,15,33,34,7,0,1,2,3,4,5,6,7,8,9,10,11,12,13,14,15,16,17,18,19,20,21,1019,22]),(3,6,[36,37,38,39,40,41])] [(0,0),(0,0),(0,0)] Tryz.func384 rfl (λu q=>?_) (.inr trivial)
  repeat'(first|refine gO ?_|(conv=>whnf);first|with_reducible refine CK ((W0 _ (tdiv16 g.1)).trans (eM ω ω)) ?_|refine CA ?_|refine CM (by decide) ?_|refine CG (l) ⟨⟨rfl,bC h⟩,⟨rfl,rfl⟩,trivial⟩ ?_|refine CB (aa n) ?_|refine CB (aa k) ?_|refine CH rfl (aa n) rfl ?_|refine CH rfl (aa k) rfl ?_|refine CG (d) ⟨⟨rfl,aA.enc_fz _⟩,⟨rfl,rfl⟩,⟨rfl,rfl⟩,trivial⟩ ?_|refine CA ?_|refine CN rfl rfl (aa k) rfl (C1 rfl) rfl ?_)
  refine CF rfl rfl ?_;exact wB
theorem pZ(h:ab)(i:Nat)(d:bm h [])(o:i<h.Objs.length)(t:aL (nth h.Objs i).Size<0):aO Tryz.prog 380 false [.ptr (bz h),.val none [I (i:Nat)]] [.ptr (bz (freeL h i (u9 h (nth h.Objs i).Addr))),.val none [I (i:Nat)]] (.tup []) []:=by
 obtain⟨l,w,y,-⟩:=(f9 d (am o)).1 t;obtain⟨p,B,c,-⟩:=uZ w y;generalize u9 h (nth h.Objs i).Addr=g at p B c;have a:=d.lens;have C:=a.larges;have D:=a.objs;have b:=ah o;have N:=aQ (d.L.lok _ (am p));have E:dS h<=32:=a.ents;refine fM 89 [(297,[2,0]),(382,[2,0])] [(4,11,[23,24,25,26,27,28,29,30,31,32,33]),(8,7,[41,42,43,44,45,46,47]),(9,273,[50,51,52,53,54,55,56,57,58,59,60,62,49,63,64,65,66,0,1,2,3,4,5,6,7,8,9,10,11,1000,1001,1002,1003,1004,1005,1006,12,13,14,15,16,17,18,1015]),(10,273,[67,68,69,70,71,72,73,74,76,77,78,79,80,81,82,84,85,0,1,2,3,4,5,6,7,9,10,11,12,13,14,15,8,1000,1009,1010,1011,1012,1013,1014,1015,16,1000,17,18,19]),(1048586,0,[7])] [(0,0),(0,0)] Tryz.func380 rfl (λu q=>?_) (.inr trivial)
 repeat'(first|refine gO ?_|(conv=>whnf);first|refine CA ?_)
 (conv=>whnf)
 refine CE (ι:=Nat) (λk=>[(0,.hold .box (bz h)),(1,.hold .one [I ((i:Nat):Int)]),(4,.hold .one [I ((k:Nat):Int)])]) (λk=>k<=g) (λk=>g - k) (0) ?_ (U0 _) λk O=>?_
 ·exact wB
 have j:=ah (xs:=h.Larges) (i:=k) ω;have F:=aQ (d.L.lok _ (am (xs:=h.Larges) (i:=k) ω));have G:0<=(nth h.Objs i).Addr/\(nth h.Objs i).Addr<=512:=ω
 by_cases e:k=g
 ·subst e
  repeat'(first|refine gA ?_|(conv=>whnf);first|with_reducible refine CB (aa j) ?_|refine CA ?_|refine CH rfl (aa j) rfl ?_|refine CH rfl (aa b) rfl ?_|refine CB (aa b) ?_)
  (conv=>whnf)
  refine CE (ι:=Nat) (λn=>[(0,.hold .box (bz {h with Kernel:=dO h.Kernel (nth h.Larges k).Page n})),(1,.hold .one [I ((i:Nat):Int)]),(4,.hold .one [I ((k:Nat):Int)]),(5,.hold .box (a7.enc .own (nth h.Larges k))),(6,.hold .one [I ((n:Nat):Int)])]) (λn=>n<=(nth h.Larges k).Pages.toNat) (λn=>(nth h.Larges k).Pages.toNat - n) (0) ?_ (U0 _) λn P=>?_
  ·exact wB
  by_cases Q:n<(nth h.Larges k).Pages.toNat
  ·have H:=nv {h with Kernel:=dO h.Kernel (nth h.Larges k).Page n} ((nth h.Larges k).Page+n) (jV d.ker _ _)
   repeat'(first|refine gD ?_|(conv=>whnf);first|refine CA ?_|refine CI (H) (.inl rfl) ?_|refine CA ?_)
   ((conv=>whnf);refine CD (n+1) ω ω ?_;(exact wB))
  ·obtain rfl:n=(nth h.Larges k).Pages.toNat:=ω
   have r:=gU {h with Kernel:=dO h.Kernel (nth h.Larges k).Page (nth h.Larges k).Pages.toNat};rw[show dS {h with Kernel:=dO h.Kernel (nth h.Larges k).Page (nth h.Larges k).Pages.toNat} = dS h from(gM _ _ _).1]at r;have J:=lK (dS h:Nat) h.Free ⟨(nth h.Larges k).Page,(nth h.Larges k).Pages⟩ ⟨ω,ω⟩ ⟨by have:=a.free;omega,λ_ _=>trivial⟩;have K:=mP {h with Kernel:=dO h.Kernel (nth h.Larges k).Page (nth h.Larges k).Pages.toNat,Larges:=dele h.Larges k,Free:=(ca (dS h) h.Free ⟨(nth h.Larges k).Page,(nth h.Larges k).Pages⟩).getD h.Free} i o (by show h.Objs.length<=_;omega)
   repeat'(first|refine gD ?_|(conv=>whnf);first|refine CA ?_|refine CV rfl (tf h.Larges) rfl ?_|refine CT k rfl (by rw[Z0];omega) (aM λ_=>rfl) t4 ?_|refine CW (k+1) rfl (by rw[Z0];omega) (aM λ_=>rfl) v4 ?_|refine CU (λ_=>rfl) (λ_=>rfl) (by rw[U1];omega) (by decide) ?_|refine Ap.dele (λ_=>rfl) (λ_=>rfl) ω (by decide) ?_|refine CO (λ_=>rfl) (λ_=>rfl) (by rw[U1];omega) (by decide) ?_|refine CA ?_|refine CG (r) ⟨bC _,trivial⟩ ?_|refine CG (J) ⟨⟨rfl,rfl⟩,⟨rfl,d8 h.Free⟩,⟨rfl,rfl⟩,trivial⟩ ?_|refine CI (K) (.inl rfl) ?_)
   refine CF rfl rfl ?_;exact wB
 ·have M:=c k ω
  repeat'(first|refine gA ?_|(conv=>whnf);first|with_reducible refine CB (aa j) ?_|refine CA ?_|refine CH rfl (aa j) rfl ?_|refine CH rfl (aa b) rfl ?_|refine CB (aa b) ?_)
  ((conv=>whnf);refine CD (k+1) ω ω ?_;(exact wB))
def PF(q:bu)(x:aK):List C:=bu.enc .own (Jt q x)++cq .own (BK q x)
theorem Np(q:bu)(x:aK):gH (PF q x):=aS (bu.enc_fr _) (lh _)
theorem Af(q:bu)(a:aK)(K:q.Lst.length<=4096)(e:eQ q=true)(r:0<=a.Class/\a.Class<=3/\0<=a.Addr/\0<=a.Since)(t:∀y∈q.Lst,y.Since<=a.Since)(u:∀y∈q.Lst,y.Addr≠a.Addr) :
  ao Tryz.prog 383 false [.val (some 2) (bu.enc .imm q),.val (some 3) (aK.enc .imm a)] (.tup [some 2,none]) (PF q a):=by
 have b:bu.sml q:=⟨ω,λ_ _=>trivial⟩
 have w:=rT q b;have l:=od q b;rw[e]at l;have n:=zb a;rw[O0 r]at n;have o:=rX q a.Addr b;rw[show q.Lst.any (ep a.Addr)=false by rw[List.any_eq_false];intro y B;unfold ep;simpa using u y B]at o;have C:=(iA.1 e).2.2.2;have g:=Np q a;have L:(aK.mk a.Addr a.Class a.Since)=a:=rfl;have c:=EM q.Room (q.Lst++[a]);simp only[I3,List.length_singleton]at c;by_cases E:q.Lst.length=0
 all_goals
  try have h:(nth q.Lst (q.Lst.length - 1)).Since<=a.Since:=t _ (am ω)
  try have j:=ah (xs:=q.Lst) (i:=q.Lst.length - 1) ω
  try have d:q.Lst[((q.Lst.length:Int) - 1).toNat]? = some (nth q.Lst (q.Lst.length - 1)):=by rw[show((q.Lst.length:Int) - 1).toNat=q.Lst.length - 1 by omega];exact j
  refine fO 74 [(3,27,[15,16,17,18,19,20,21,22,23,24,25,26,27,28,29,30,31,32,33,34,35,36,37,38,39,40,41]),(7,6,[52,53,54,55,56,57]),(9,268,[61,62,63,64,65,66,67,69,70,71,72,73,0,1,2,3,4,5,6,8,9,10,11,12,7,1008,1009,1010,1011,1012,13,14])] Tryz.func383 rfl ?_ (.inr g)
  repeat'(first|refine gD ?_|(conv=>whnf);first|with_reducible refine Bf.D (λe=>?_) (λe=>?_)|refine CA ?_|refine C7 (w) ?_|refine C7 (l) ?_|refine C7 (n) ?_|refine C7 (o) ?_|refine CL ω (aa d) ?_|refine Ap.sm (aM λ_=>rfl) rfl (by simp;omega) (by decide) (iK (aK.enc .own) q.Lst a) ?_)
  (conv=>whnf)
  refine Lp.fz 8 (ι:=Nat) (λk=>[(2,.hold .box (bu.enc .imm q)),(4,.hold .box [I 0,.z]),(8,.hold .one (cq .imm (q.Lst++[a]))),(9,.hold .one [I (k:Nat)])]) (λk=>k<=nH q.Room (q.Lst++[a])) (λk=>nH q.Room (q.Lst++[a]) - k) 0 ?_ (U0 _) λk M=>?_
  ·(repeat'(first|exact trivial|rfl|exact CJ rfl (show Kn (dw (cq .own (q.Lst++[a]))) (cq .imm (q.Lst++[a])) by rw[uj];exact km _)|refine CJ ?_ ?_))
  have N:(q.Lst++[a]).length=q.Lst.length+1:=by simp
  have F:((q.Lst++[a]).drop k).length<=5000:=by rw[O3];omega
  have G:((q.Lst++[a]).take k).length<=5000:=by rw[U1];omega
  have p:=ug ((q.Lst++[a]).drop k) ⟨ω,λ_ _=>trivial⟩;by_cases H:k<nH q.Room (q.Lst++[a])
  ·have J:q.Room<quarCells ((q.Lst++[a]).drop k) ((q.Lst++[a]).drop k).length:=zq H
   repeat'(first|refine gD ?_|(conv=>whnf);first|refine CA ?_|refine CW k rfl (by rw[Z0];omega) (aM λ_=>rfl) v4 ?_|refine C7 (p) ?_|refine CA ?_)
   ((conv=>whnf);refine CD (k+1) ω ω ?_;(exact wB))
  ·obtain rfl:k=nH q.Room (q.Lst++[a]):=ω
   have J:quarCells ((q.Lst++[a]).drop (nH q.Room (q.Lst++[a]))) ((q.Lst++[a]).drop (nH q.Room (q.Lst++[a]))).length<=q.Room:=Ac C.1 _
   repeat'(first|refine gD ?_|(conv=>whnf);first|refine CA ?_|refine CW (nH q.Room (q.Lst++[a])) rfl (by rw[Z0];omega) (aM λ_=>rfl) v4 ?_|refine CT (nH q.Room (q.Lst++[a])) rfl (by rw[Z0];omega) (aM λ_=>rfl) t4 ?_|refine C7 (p) ?_|refine CA ?_|refine CU (λ_=>rfl) (λ_=>rfl) ω (by decide) ?_|refine CO (λ_=>rfl) (λ_=>rfl) ω (by decide) ?_)
   rfl
theorem qe{z:Int}(h:0<=z/\z<512):IntKind.i64.wrap (z.tdiv 16)=z / 16:=(W0 _ (tdiv16 h.1)).trans (eM ω ω)
theorem sD{h:ab}{E:List Int}(a:bm h E){o:bK}(b:o∈h.Objs):0<=o.Addr/\o.Addr<512:=by
 rcases a.oow o b with⟨s,c,⟨f,g,-⟩,-⟩|⟨l,d,e,-⟩
 ·have:=aC (a.L.sok s c);omega
 ·have:=aQ (a.L.lok l d);omega
theorem Ku{k:Int}(h:0<=k/\k<=3):1<=csz k/\csz k<=8:=by
 rcases bO h with e|e|e|e<;>rw[e]<;>decide
structure Ra(h:ab)(o:bK):Prop where
 cl:0<=aL o.Size/\aL o.Size<=3
 fr:0<=(au h.Kernel.Machine.Table (o.Addr / 16)).Frame/\(au h.Kernel.Machine.Table (o.Addr / 16)).Frame<h.Kernel.Machine.Frames.Cells.length
 fit:o.Addr % 16+csz (aL o.Size)<=16
 row:(nth h.Kernel.Machine.Frames.Cells (gi h.Kernel o.Addr)).length=16
theorem Ra.of{h:ab}{E:List Int}(b:bm h E){o:bK}(l:o∈h.Objs)(q:¬aL o.Size<0):Ra h o:=by
 obtain⟨⟨s,d,f,r⟩,B⟩:=(f9 b l).2 q;have t:=aC (b.L.sok s d);have u:=sD b l;have n:s.Page=o.Addr / 16:=by have C:=f.1;have D:=f.2.1;omega
 have c:(o.Addr / 16).toNat<(tbl h).Entries.length:=by have:=b.pg.bnd _ (dJ (la:=h.Larges) d);omega
 have a:(((o.Addr / 16).toNat:Nat):Int)=o.Addr / 16:=ω
 have p:=(b.pg.own _ c).2 (by rw[a,<-n];exact dJ d);have g:(au h.Kernel.Machine.Table (o.Addr / 16)).Mode≠0:=by rw[<-a];unfold tbl at p c;rw[lA c];exact p
 obtain⟨-,-,-,i,w⟩:=cu b.ker g;have y:=(bc.1 (aD.1 b.ker).2.1).2.2.1;have j:gi h.Kernel o.Addr<h.Kernel.Machine.Frames.Cells.length:=by unfold gi;omega
 refine⟨ω,⟨i,ω⟩,?_,b.lens.row _ (am j)⟩;have A:=f.2.2.1;rw[n,<-r]at *;rcases bO (k:=s.Class) ⟨ω,ω⟩ with e|e|e|e<;>rw[e]at A |-<;>omega
theorem H0(h:ab)(a:Int)(b:gi h.Kernel a<h.Kernel.Machine.Frames.Cells.length):({h with Kernel:=gg h.Kernel a 0} : ab)=h:=by
 have e:h.Kernel.Machine.Frames.Cells.set (gi h.Kernel a) (nth h.Kernel.Machine.Frames.Cells (gi h.Kernel a))=h.Kernel.Machine.Frames.Cells:=by
  refine List.ext_getElem? λi=>?_
  rw[W3];split
  ·rename_i e
   subst e;exact(ah b).symm
  ·rfl
 unfold gg mh;rw[e]
theorem Eg(h:ab)(a:Int)(k:Nat)(v:Int)(_:0<=a):bz {h with Kernel:=gg h.Kernel a (k+1)} = (bz {h with Kernel:=gg h.Kernel a k}).set 0 (.s .own (((gg h.Kernel a k).Machine.Frames.Cells.map (aF .own)).set (au h.Kernel.Machine.Table (a / 16)).Frame.toNat ((aF .own (mh (nth h.Kernel.Machine.Frames.Cells (gi h.Kernel a)) (a % 16).toNat k)).set 0 (.s .own (((mh (nth h.Kernel.Machine.Frames.Cells (gi h.Kernel a)) (a % 16).toNat k).map (rI .own)).set (a % 16+k).toNat (splice (rI .own v) 0 [I 0])))))):=by
 have e:(a % 16+k).toNat=(a % 16).toNat+k:=ω
 rw[e];simp[bz,gg,W5,mh,aF,splice,gi]
 rfl
theorem E6(t:Nat)(h:ab)(xs:List aK)(k:Nat)(a:k<xs.length):recycs t h ((xs.take (k+1)).map (·.Addr))=recyc t (recycs t h ((xs.take k).map (·.Addr))) (nth xs k).Addr:=by
 unfold recycs;rw[C5,ah a];simp
theorem Fx(h:ab)(o:bK)(t:Nat)(a:bm h [])(P:o∈h.Objs)(ht:o.Thread=t)(hlc:h.Caches.length<=4):aO Tryz.prog 354 false [.ptr (bz h),.val none [I (t:Nat)],.val none [I o.Addr]] [.ptr (bz (freeOb h t (nK h o.Addr)).1),.val none [I (t:Nat)],.val none [I o.Addr]] .one [I (freeOb h t (nK h o.Addr)).2]:=by
 obtain⟨l,B,C⟩:=a.objAt P;have b:=sD a P;have hon:=a.onu o P;have d:=a.lens;have hno:=d.objs;have E:t<h.Caches.length:=ω
 have M:=aG (t:Nat) 0 (h.Caches.length - 1:Int);rw[O0 ω]at M;have F:=qu h o.Addr ω;rw[C]at F;generalize nK h o.Addr=i at l B F;subst B;have r:=ah l;have Q:=jX (nth h.Objs i).Size;unfold freeOb;have R:=bA a.ker;have Z:=cY h.Kernel.Machine.Table ((nth h.Objs i).Addr / 16) R.1.2;by_cases w:aL (nth h.Objs i).Size<0
 ·rw[C9 w]
  have c3:=pZ h i a l w;refine fM 148 [(380,[2,0]),(382,[2,0]),(384,[2,0,0]),(379,[2,0])] [(15,269,[68,69,70,71,72,73,74,75,77,67,78,79,11,0,1,2,3,4,5,6,7,13,8,1000,1001,1002,1003,1004,1013,9,10,11,12,14,1012,15]),(22,15,[92,93,94,95,96,97,98,99,100,101,102,103,104,105,106]),(25,271,[116,117,118,119,120,121,122,123,124,125,127,115,128,129,14,0,1,2,3,4,5,6,7,8,9,15,10,1000,1001,1002,1003,1015,11,12,13,14,16,1014,17])] [(0,0),(0,0),(0,0)] Tryz.func354 rfl (λu q=>?_)
  repeat'(first|refine gD ?_|(conv=>whnf);first|with_reducible refine Bf.D (λn=>?_) (λn=>?_)|refine CA ?_|refine C7 (M) ?_|refine CG (F) ⟨⟨rfl,bC h⟩,⟨rfl,rfl⟩,trivial⟩ ?_|refine CB (aa r) ?_|refine CH rfl (aa r) rfl ?_|refine C7 (Q) ?_|refine CI (c3) (.inl rfl) ?_)
  refine CF rfl rfl ?_;exact wB
 rw[C8 w];obtain⟨S,s2,s3,s4⟩:=Ra.of a (am l) w;by_cases N:(au (tbl h) ((nth h.Objs i).Addr / 16)).Mode=1
 ·rw[C9 N]
  unfold tbl at N;refine fM 148 [(380,[2,0]),(382,[2,0]),(384,[2,0,0]),(379,[2,0])] [(15,269,[68,69,70,71,72,73,74,75,77,67,78,79,11,0,1,2,3,4,5,6,7,13,8,1000,1001,1002,1003,1004,1013,9,10,11,12,14,1012,15]),(22,15,[92,93,94,95,96,97,98,99,100,101,102,103,104,105,106]),(25,271,[116,117,118,119,120,121,122,123,124,125,127,115,128,129,14,0,1,2,3,4,5,6,7,8,9,15,10,1000,1001,1002,1003,1015,11,12,13,14,16,1014,17])] [(0,0),(0,0),(0,0)] Tryz.func354 rfl (λu q=>?_)
  repeat'(first|refine gA ?_|(conv=>whnf);first|with_reducible refine Bf.D (λn=>?_) (λn=>?_)|refine CA ?_|refine CM (by decide) ?_|refine CK (qe b) ?_|refine C7 (M) ?_|refine CG (F) ⟨⟨rfl,bC h⟩,⟨rfl,rfl⟩,trivial⟩ ?_|refine CB (aa r) ?_|refine CH rfl (aa r) rfl ?_|refine C7 (Q) ?_|refine CG (Z) ⟨⟨rfl,CY _⟩,⟨rfl,rfl⟩,trivial⟩ ?_)
  refine CF rfl rfl ?_;exact wB
 rw[C8 N];unfold tbl at N;have G:gi h.Kernel (nth h.Objs i).Addr<h.Kernel.Machine.Frames.Cells.length:=by unfold gi;omega
 have hcz:=Ku S;have g:=a.inQuar l w;have H:=de (aL (nth h.Objs i).Size);refine fM 148 [(380,[2,0]),(382,[2,0]),(384,[2,0,0]),(379,[2,0])] [(15,269,[68,69,70,71,72,73,74,75,77,67,78,79,11,0,1,2,3,4,5,6,7,13,8,1000,1001,1002,1003,1004,1013,9,10,11,12,14,1012,15]),(22,15,[92,93,94,95,96,97,98,99,100,101,102,103,104,105,106]),(25,271,[116,117,118,119,120,121,122,123,124,125,127,115,128,129,14,0,1,2,3,4,5,6,7,8,9,15,10,1000,1001,1002,1003,1015,11,12,13,14,16,1014,17])] [(0,0),(0,0),(0,0)] Tryz.func354 rfl (λu q=>?_)
 repeat'(first|refine gA ?_|(conv=>whnf);first|with_reducible refine Bf.D (λn=>?_) (λn=>?_)|refine CA ?_|refine CM (by decide) ?_|refine CK (qe b) ?_|refine C7 (M) ?_|refine CG (F) ⟨⟨rfl,bC h⟩,⟨rfl,rfl⟩,trivial⟩ ?_|refine CB (aa r) ?_|refine CH rfl (aa r) rfl ?_|refine C7 (Q) ?_|refine CG (Z) ⟨⟨rfl,CY _⟩,⟨rfl,rfl⟩,trivial⟩ ?_)
 rw[show bz h=bz {h with Kernel:=gg h.Kernel (nth h.Objs i).Addr 0} by rw[H0 h _ G]]
 (conv=>whnf)
 refine CE (ι:=Nat) (λk=>[(0,.hold .box (bz {h with Kernel:=gg h.Kernel (nth h.Objs i).Addr k})),(1,.hold .one [I ((t:Nat):Int)]),(2,.hold .one [I ((nth h.Objs i).Addr)]),(7,.hold .one [I ((i:Nat):Int)]),(8,.hold .box (bK.enc .own (nth h.Objs i))),(9,.hold .one [I (aL (nth h.Objs i).Size)]),(10,.hold .box (bf.enc .own (au h.Kernel.Machine.Table ((nth h.Objs i).Addr / 16)))),(13,.hold .one [I ((k:Nat):Int)])]) (λk=>k<=(csz (aL (nth h.Objs i).Size)).toNat) (λk=>(csz (aL (nth h.Objs i).Size)).toNat - k) (0) ?_ (U0 _) λk hk=>?_
 ·exact wB
 have hmod:IntKind.i64.wrap 0=0:=rfl;have T:(nth h.Objs i).Addr.tmod 16=(nth h.Objs i).Addr % 16:=gm b.1;have p:(gg h.Kernel (nth h.Objs i).Addr k).Machine.Frames.Cells[(au h.Kernel.Machine.Table ((nth h.Objs i).Addr / 16)).Frame.toNat]? = some (mh (nth h.Kernel.Machine.Frames.Cells (gi h.Kernel (nth h.Objs i).Addr)) ((nth h.Objs i).Addr % 16).toNat k):=U3 G;by_cases O:k<(csz (aL (nth h.Objs i).Size)).toNat
 ·have J:=ah (xs:=mh (nth h.Kernel.Machine.Frames.Cells (gi h.Kernel (nth h.Objs i).Addr)) ((nth h.Objs i).Addr % 16).toNat k) (i:=((nth h.Objs i).Addr % 16+k).toNat) (by rw[pw,s4];omega)
  repeat'(first|refine gD ?_|(conv=>whnf);first|refine CA ?_|refine CM (by decide) ?_|refine CS T ?_|refine C7 (H) ?_|refine CL s2.1 (aa p) ?_|refine CH rfl (aa p) rfl ?_|refine CL ω (aa J) ?_|refine Pu.two rfl rfl (aa p) rfl rfl rfl (aa J) rfl (z3 _) (Eg h _ k _ b.1) ?_)
  ((conv=>whnf);refine CD (k+1) ω ω ?_;(exact wB))
 ·obtain rfl:k=(csz (aL (nth h.Objs i).Size)).toNat:=ω
  have c5:=mP {h with Kernel:=gg h.Kernel (nth h.Objs i).Addr (csz (aL (nth h.Objs i).Size)).toNat} i l (by show h.Objs.length<=_;omega);have j:=a.nums;unfold bX at j;rw[C0]at j;have K:=(a.dropO l (jj.any (c:=aL (nth h.Objs i).Size) (by obtain⟨⟨s,hs,k1,k2⟩,-⟩:=(f9 a (am l)).2 w;exact⟨s,hs,k1,.inr k2⟩))).nd;rw[List.cons_append,List.nil_append]at K;have c6:=Af h.Quar (lN h (nth h.Objs i)) (by have:=d.quar;omega) a.quar ⟨S.1,S.2,b.1,j.2.2.1⟩ (λy U=>a.snc y U) (λy U e=>(List.nodup_cons.1 K).1 (by rw[show(nth h.Objs i).Addr=y.Addr from e.symm];unfold holders;simp only[v3];exact .inl (.inr (z4.2 ⟨y,U,rfl⟩))));unfold PF at c6;have V:(BK h.Quar (lN h (nth h.Objs i))).length<=513:=by have:=d.quar;unfold BK;rw[U1,I3];simp only[List.length_singleton];omega
  repeat'(first|refine gA ?_|(conv=>whnf);first|with_reducible refine Bf.D (λn=>?_) (λn=>?_)|refine CA ?_|refine C7 (H) ?_|refine CI (c5) (.inl rfl) ?_|refine CG (c6) ⟨⟨rfl,bu.enc_fz h.Quar⟩,⟨rfl,rfl⟩,trivial⟩ ?_|refine CA ?_)
  have W:ME h t i=recycs t (inQuar h i) ((BK h.Quar (lN h (nth h.Objs i))).map (·.Addr)):=rfl;simp only;rw[W];have hqn:(inQuar h i).Caches.length=h.Caches.length:=rfl;generalize BK h.Quar (lN h (nth h.Objs i))=out at g V
  (conv=>whnf)
  refine CE (ι:=Nat) (λk=>[(0,.hold .box (bz (recycs t (inQuar h i) ((out.take k).map (·.Addr))))),(1,.hold .one [I ((t:Nat):Int)]),(15,.hold .one (cq .own out)),(16,.hold .one [I ((k:Nat):Int)])]) (λk=>k<=out.length) (λk=>out.length - k) (0) ?_ (U0 _) λk hk=>?_
  ·exact wB
  by_cases O:k<out.length
  ·have L:=ah O
   have X:out.map (·.Addr)=(out.take k).map (·.Addr)++(nth out k).Addr::(out.drop (k+1)).map (·.Addr):=by
    conv=>lhs;rw[<-List.take_append_drop k out,gQ O]
    simp
   have Y:bm (recycs t (inQuar h i) ((out.take k).map (·.Addr))) ((nth out k).Addr::(out.drop (k+1)).map (·.Addr)):=bm.recycs (by rw[<-X];exact g) E;have c7:=nz _ _ t _ Y (by rw[(eP t _ _).1];exact E)
   repeat'(first|refine gD ?_|(conv=>whnf);first|refine CA ?_|refine CB (aa L) ?_|refine CH rfl (aa L) rfl ?_|refine CI (c7) (.inl rfl) ?_)
   ((conv=>whnf);refine CD (k+1) ω ω ?_)
   rw[E6 t _ out k O];exact wB
  ·obtain rfl:k=out.length:=ω
   rw[Z4]
   repeat'(first|refine gD ?_|(conv=>whnf);first|refine CA ?_)
   refine CF rfl rfl ?_;exact wB
def oE(rows:List (List C)):C:=match rows with|[]=>.s .imm []|_=>.s .own rows
theorem P5{rows:List (List C)}(h:rows≠[]):oE rows=.s .own rows:=by cases rows with|nil=>exact absurd rfl h|cons=>rfl
theorem A8{P:Program}(w:World)(t e k:Nat)(z:Value)(p:P.underlying t=some (.slice e))(d:∀w,(zeroValue e).run P w=.ok z w)(q:z.cells.size=k)(h1:∀v∈z.cells.toList,v.oneCell'=true)(b o n:Nat)(u:0<n)(i:0<k)(r:∀j,j<n*k->(w.cell? ⟨b,o+j,none⟩).isSome=true)(y:∀j,j<n*k->w.frozen? ⟨b,o+j,none⟩ = false) :
  ∃zs:List Value,zs.length=n*k/\(∀v∈zs,v.oneCell'=true)/\∀(ty:TypeId)(c:Nat),(Builtin.clear_ #[t] ty #[.slice (some ⟨b,o,none⟩) n c]).run P w=.ok (.tuple #[]) (w.setCells b o zs):=by
 subst q;have f:(Builtin.zeroCells z.cells n).toList.length=n*z.cells.size:=by simp[Builtin.zeroCells]
 have a:∀v∈(Builtin.zeroCells z.cells n).toList,v.oneCell'=true:=by
  intro v d;rw[Array.mem_toList_iff]at d;simp only[Builtin.zeroCells,Array.mem_map,Array.mem_range]at d;obtain⟨j,l,rfl⟩:=d;have g:j % z.cells.size<z.cells.size:=Nat.mod_lt _ i;rw[getElem!_pos z.cells (j % z.cells.size) g];exact h1 _ (Array.mem_toList_iff.2 (Array.getElem_mem g))
 refine⟨_,f,a,λty c=>?_⟩;have h:=run_storeCells_cells (P:=P) b o (Builtin.zeroCells z.cells n).toList 0 w (λj l=>by simpa using r j ω) (λj l=>by simp) a;simp only[Nat.add_zero]at h;obtain⟨m,rfl⟩ : ∃m,n=m+1:=⟨n - 1,ω⟩
 simp[Builtin.clear_,run_underlying p,d,h]
structure LB(w w':World)(g k n i:Nat):Prop where
 keep:bB (λb o=>b=g/\o<n*k) w w'
 lo:∀q,q<i*k->cel w' g q=cel w g q
 mid:∀q,i*k<=q->q<(n - 1)*k->cel w' g q=cel w g (q+k)
 hi:∀q,(n - 1)*k<=q->q<n*k->∃z,cel w' g q=some z/\z.oneCell'=true
 fro:∀b q,fro w' b q=fro w b q
theorem bB.up{M a:ac}{w c:World}(h:bB M w c)(d:∀b o,M b o->a b o):bB a w c:=(CX a w).trans h λb o e=>.inr (d b o e)
theorem G5(w:World):bB NO w w.drew:=⟨rfl,rfl,rfl,z3 _,λ_ _ _=>rfl,λ_ _ _ _=>rfl,λ_ _ _ _=>rfl⟩
theorem Jl{w:World}{g k n i:Nat}{news zs:List Value}(B:i<n)(a:∀q,q<n*k->∃z,cel w g q=some z)(H:news.length=(n - (i+1))*k)(d:∀t u,news[t]? = some u->cel w g ((i+1)*k+t)=some u)(J:zs.length=k)(l:∀v∈zs,v.oneCell'=true) :
  LB w ((w.drew.setCells g (i*k) news).setCells g ((n - 1)*k) zs) g k n i:=by
 have K:i*k+(n - (i+1))*k=(n - 1)*k:=by rw[<-Nat.add_mul];congr 1;omega
 have L:(n - 1)*k+k=n*k:=by rw[show(n - 1)*k+k=(n - 1+1)*k by rw[Nat.add_mul,Nat.one_mul]];congr 1;omega
 have M:(i+1)*k=i*k+k:=by rw[Nat.add_mul,Nat.one_mul]
 have r:∀b q,cel w.drew b q=cel w b q:=λ_ _=>rfl
 have c:∀j,j<news.length->∃z,cel w.drew g (i*k+j)=some z:=λj p=>by rw[r];exact a _ ω
 have C:∀q,q<n*k->∃z,cel (w.drew.setCells g (i*k) news) g q=some z:=λq y=>by
  by_cases h:i*k<=q/\q<i*k+news.length
  ·have:=dh c (I2 (show q - i*k<news.length by omega))
   rw[show i*k+(q - i*k)=q by omega]at this;exact⟨_,this⟩
  ·rw[bV (λx=>h x.2),r];exact a q y
 refine⟨?_,λq y=>?_,λq D E=>?_,λq D E=>?_,λb q=>?_⟩
 ·have F:=iG (g:=g) (X:=λb o=>b=g/\o<n*k) news (i*k) w.drew λj p=>⟨rfl,ω⟩
  have G:=iG (g:=g) (X:=λb o=>b=g/\o<n*k) zs ((n - 1)*k) (w.drew.setCells g (i*k) news) λj p=>⟨rfl,ω⟩
  exact((G5 w).up λ_ _ h=>h.elim).trans (F.trans G λ_ _ h=>.inr h) λ_ _ h=>.inr h
 ·rw[bV ω,bV ω];rfl
 ·rw[bV ω]
  obtain⟨u,e⟩ : ∃u,news[q - i*k]? = some u:=⟨_,I2 ω⟩
  have f:=dh c e;have A:=d _ u e;rw[show i*k+(q - i*k)=q by omega]at f;rw[show(i+1)*k+(q - i*k)=q+k by omega]at A;rw[f,A]
 ·obtain⟨u,e⟩ : ∃u,zs[q - (n - 1)*k]? = some u:=⟨_,I2 ω⟩
  have f:=dh (w:=w.drew.setCells g (i*k) news) (o:=(n - 1)*k) (vs:=zs) (λj p=>C _ ω) e;rw[show(n - 1)*k+(q - (n - 1)*k)=q by omega]at f;exact⟨u,f,l u (Z1 e)⟩
 ·rw[cM,cM];rfl
def Rv(rows:List (List C)):Prop:=∀r∈rows,∀c∈r,∃z,c=.v z
def AL(P:Program)(f k:Nat):Prop:=J5 P f/\∀(w:World)(g n a i:Nat)(news:List Value),i<n->n<=a->news.length=(n - (i+1))*k->(∀t u,news[t]? = some u->cel w g ((i+1)*k+t)=some u)->(∀u∈news,u.oneCell'=true)->
 (∀q,q<n*k->(w.cell? ⟨g,q,none⟩).isSome=true/\w.frozen? ⟨g,q,none⟩ = false)->
 Calls P f #[.slice (some ⟨g,0,none⟩) n a,.int .i64 i,.int .i64 ((i+1:Nat):Int)] w λe c=>e=.returned (.slice (some ⟨g,0,none⟩) (n - 1) a)/\∃b:List Value,b.length=k/\(∀v∈b,v.oneCell'=true)/\c=(w.drew.setCells g (i*k) news).setCells g ((n - 1)*k) b
theorem Qe{P:Program}{f k:Nat}(hf:AL P f k){rows:List (List C)}{i:Nat}(hi:i<rows.length)(hk:∀r∈rows,r.length=k)(hsc:Rv rows) :
  aO P f false [.mut none [.s .own rows],.val none [I (i:Nat)],.val none [I ((i+1:Nat):Int)]] [.mut none [.x],.val none [I (i:Nat)],.val none [I ((i+1:Nat):Int)]] .one [oE (dele rows i)]:=by
 refine⟨hf.1,λw S V vs hS hV hVV hA=>?_⟩
 match vs,hA with
 | [v,v1,v2],⟨hA,hA1,hA2,_⟩=>
  have L:=bE.rep1 (show bE w S (V 0) none [C.s .own rows] v from hA);have e1:v1=.int .i64 (i:Nat):=by
   have:=bE.rep1 (show bE w S NO none [C.v (.int .i64 (i:Nat))] v1 from hA1);cases this;rfl
  have e2:v2=.int .i64 ((i+1:Nat):Int):=by
   have:=bE.rep1 (show bE w S NO none [C.v (.int .i64 ((i+1:Nat):Int))] v2 from hA2);cases this;rfl
  subst e1 e2;have G:(dele rows i).length=rows.length - 1:=by unfold dele;simp;omega
  generalize O:C.s .own rows=cc at L;cases L with
  | nil _ o a ho=>cases O;simp at hi
  | own _ o g d n p rows' u f' ho hn H M hpos hF hu hff hd hc=>
   cases O;have hkk:d=k:=by rw[<-H _ (List.getElem_mem hi),<-hk _ (List.getElem_mem hi)]
   subst hkk;have N:∀a b r c,rows[a]? = some r->r[b]? = some c->∃z,c=.v z/\cel w g (a*d+b)=some z:=λa b r c D Q=>by
    obtain⟨z,rfl⟩:=hsc r (Z1 D) c (Z1 Q);have E:=hc a b r _ D Q;have J:=Bl hn H D Q;have Z:=hu (a*d+b) (eY J.1 J.2);generalize u (a*d+b)=y at E Z;cases E;exact⟨_,rfl,Z⟩
   have hnk:n*d<=p*d:=W6 _ M;have j:∀q,q<p*d->∃z,cel w g q=some z/\z.oneCell'=true:=λq A=>(hF q A).2.1
   have e3:(i+1)*d+(n - (i+1))*d=n*d:=by rw[<-Nat.add_mul];congr 1;omega
   obtain⟨news,hnl,hnw,hn1⟩ : ∃news:List Value,news.length=(n - (i+1))*d/\(∀t u,news[t]? = some u->cel w g ((i+1)*d+t)=some u)/\∀u∈news,u.oneCell'=true:=by
    refine⟨(List.range ((n - (i+1))*d)).map λt=>(cel w g ((i+1)*d+t)).getD undef,by simp,λt y Y=>?_,λy hy=>?_⟩
    ·have hl:=(O2.1 Y).1
     simp only[Z0,List.length_range]at hl;rw[C3,O6 hl]at Y;obtain⟨z,l,-⟩:=j ((i+1)*d+t) ω;rw[t5,l]at Y;rw[l];simpa using Y
    ·obtain⟨t,Y,rfl⟩:=z4.1 hy
     have hl:=List.mem_range.1 Y;obtain⟨z,l,F⟩:=j ((i+1)*d+t) ω;rw[l];exact F
   refine(hf.2 w g n p i news ω M hnl hnw hn1 (λq A=>?_)).mono λe w' ⟨he,zs,z1,z2,hw'⟩=>?_
   ·obtain⟨a1,⟨z,a2,a3⟩,a4⟩:=hF q ω
    exact⟨by show(cel w g q).isSome=true;rw[a2];rfl,W0 Prod.fst a4⟩
   have K:=Jl (w:=w) (by omega:i<n) (λq A=>by obtain⟨z,l,-⟩:=j q ω;exact⟨z,l⟩) hnl hnw z1 z2;rw[<-hw']at K;have R:∀q,q<p*d->V 0 g q:=λq A=>(hF q A).1
   have T:bB (λb o=>∃i,V i b o) w w':=K.keep.up λb o ⟨E,Z⟩=>⟨0,by rw[E];exact R o ω⟩
   have e4:(n - 1)*d+d=n*d:=by rw[show(n - 1)*d+d=(n - 1+1)*d by rw[Nat.add_mul,Nat.one_mul]];congr 1;omega
   have B:∀q,q<p*d->∃z,cel w' g q=some z/\z.oneCell'=true:=λq A=>by
    by_cases E:q<i*d
    ·rw[K.lo q E];exact j q A
    by_cases Z:q<(n - 1)*d
    ·rw[K.mid q ω Z];exact j _ ω
    by_cases h3:q<n*d
    ·exact K.hi q ω h3
    ·have J:=(hV 0 g q (R q A)).1
     rw[K.keep.cel g q J (λx=>h3 x.2)];exact j q A
   have hrow:cP w' NO (V 0) [oE (dele rows i)] (λ_=>.slice (some ⟨g,0,none⟩) (n - 1) p):=by
    refine row1 ?_;by_cases l:dele rows i=[]
    ·rw[l]
     have hn0:n - 1=0:=by rw[l]at G;simp at G;omega
     rw[hn0];exact .imm _ g 0 d 0 p [] (λ_=>undef) rfl (λr hr=>by cases hr) (U0 _) (λq A=>ω) (λa b r c D=>by simp at D)
    ·rw[P5 l]
     have U:0<n - 1:=by
      have:=List.length_pos_iff.2 l;omega
     refine .own _ .own g d (n - 1) p _ (λq=>(cel w' g q).getD undef) (λ_=>NO) trivial (by rw[G];omega) (λr hr=>H r ((eL ..).subset hr)) ω U (λq A=>⟨R q A,B q A,(K.fro g q).trans (hF q A).2.2⟩) (λq A=>?_) (λ_ _ _ _ h=>h.elim) (λ_ _ _ _ _ _ _ h=>h.elim) (λa b r c D Q=>?_)
     ·obtain⟨z,l,-⟩:=B q ω
      rw[l];rfl
     ·have hbk:b<d:=by
       have:=H r ((eL ..).subset (Z1 D));rw[<-this];exact(O2.1 Q).1
      have hal:=(O2.1 D).1;rw[G]at hal;have hal2:a<n - 1:=ω
      have W:a*d+b<(n - 1)*d:=eY hal2 hbk;have X:∃z,c=.v z/\cel w' g (a*d+b)=some z:=by
       unfold dele at D;by_cases E:a<i
       ·rw[I4 (by rw[U1];omega),List.getElem?_take,C9 E]at D
        obtain⟨z,l,F⟩:=N a b r c D Q;refine⟨z,l,?_⟩;rw[K.lo _ (eY E hbk)];exact F
       ·rw[O4 (by rw[U1];omega),U1,List.getElem?_drop]at D
        rw[show i+1+(a - min i rows.length)=a+1 by omega]at D;obtain⟨z,l,F⟩:=N (a+1) b r c D Q;refine⟨z,l,?_⟩;have:i*d<=a*d:=W6 _ ω;rw[K.mid _ ω W,<-F]
        congr 1
        rw[Nat.add_mul,Nat.one_mul];omega
      obtain⟨z,rfl,l⟩:=X;simp only[l,Option.getD_some];exact .v _ _ (by obtain⟨z',hz',E⟩:=B (a*d+b) ω;rw[l]at hz';cases hz';exact E)
   exact⟨_,he,T,V 0,λ_=>NO,NO,λb o h=>.inl ⟨0,h⟩,λ_ _ _ h=>h.elim,λ_ _ h=>h.elim,λ_ _ _ _ _ h=>h.elim,λ_ _ _ _ h=>h.elim,λ_ _ _ h=>h.elim,λ_ _ _ h=>h.elim,rfl,hrow,⟨⟨rfl,λ_=>.slice (some ⟨g,0,none⟩) n p,rfl,row1 (.x _ _ rfl)⟩,trivial,trivial,trivial⟩⟩
  | _=>cases O
set_option maxRecDepth 100000
theorem zY{w:World}{g n cap i k:Nat}{news:List Value}(c:news.length=(n - (i+1))*k)(b:n<=cap)(d:i<n)(h:∀t u,news[t]? = some u->cel w g ((i+1)*k+t)=some u):∃A:Addr,(if cap=i+1 then some (⟨g,0,none⟩ : Addr) else some ⟨g,(i+1)*k,none⟩)=some A/\∀t u,news[t]? = some u->w.drew.cell? (A.add t)=some u:=by
 by_cases e:cap=i+1
 ·refine⟨⟨g,0,none⟩,by simp[e],λt u a=>?_⟩
  have f:news.length=0:=by rw[c,show n - (i+1)=0 by omega,Nat.zero_mul]
  rw[List.length_eq_zero_iff.1 f]at a;simp at a
 ·refine⟨⟨g,(i+1)*k,none⟩,by simp[e],λt u a=>?_⟩
  rw[Addr.add_lit];exact h t u a
theorem K8:∀w,(zeroValue 71).run Tryz.prog w=.ok (.agg #[.int .i64 0,.int .i64 0,.int .i64 0,.int .i64 0]) w:=λ_=>by kernel_rfl
theorem Qw:AL Tryz.prog 131 4:=by
 refine⟨⟨_,Tryz.func131,by kernel_rfl,by kernel_rfl⟩,λw g n c i news r y o B C b=>?_⟩;obtain⟨A,X,a⟩:=zY o y r B;have a:Hid (∀t u,news[t]? = some u->w.drew.cell? (A.add t)=some u):=a;have T:Hid (news.length=(n - (i+1))*4):=o;have Y:Hid (∀u∈news,u.oneCell'=true):=C;have Z:Hid (∀t,t<news.length->(w.drew.cell? ⟨g,0+i*4+t,none⟩).isSome=true/\w.drew.frozen? ⟨g,0+i*4+t,none⟩ = false):=λt ht=>by
  rw[T6];exact b (i*4+t) ω
 obtain⟨p,d⟩ : ∃p,p=w.drew.setCells g (0+i*4) news:=⟨_,rfl⟩
 have K:∀q,q<n*4->(p.cell? ⟨g,q,none⟩).isSome=true/\p.frozen? ⟨g,q,none⟩ = false:=λq U=>by
  have D:∀j,j<news.length->∃z,cel w.drew g (0+i*4+j)=some z:=λj L=>by
   have:=(b (0+i*4+j) ω).1;exact Option.isSome_iff_exists.1 this
  refine⟨?_,by rw[d];exact(W0 Prod.fst (cM g _ news w.drew g q)).trans (b q U).2⟩;rw[d];by_cases h:0+i*4<=q/\q<0+i*4+news.length
  ·have:=dh D (I2 (show q - (0+i*4)<news.length by omega))
   rw[show 0+i*4+(q - (0+i*4))=q by omega]at this;show(cel _ g q).isSome=true;rw[this];rfl
  ·show(cel _ g q).isSome=true
   rw[bV (λx=>h x.2)];exact(b q U).1
 obtain⟨M,E,F,G⟩:=A8 (P:=Tryz.prog) p 39 71 4 (.agg #[.int .i64 0,.int .i64 0,.int .i64 0,.int .i64 0]) Tryz.underlying39 K8 rfl (by intro v V;simp[Value.cells]at V;subst V;rfl) g ((i+(n - (i+1)))*4) (n - (i+(n - (i+1)))) ω (by decide) (λj L=>(K _ ω).1) (λj L=>(K _ ω).2);have k:Hid (M.length=(n - (i+(n - (i+1))))*4):=E;have H:Hid (∀v∈M,v.oneCell'=true):=F;have W:Hid (p=w.drew.setCells g (0+i*4) news):=d;have hic:i<=c:=ω
 have N:i+1<=c:=ω
 have O:¬i=i+1:=ω
 have Q:i+1<=n:=r;have l:n - 1=i+(n - (i+1)):=ω
 clear d K b B C o E F;rw[l];generalize L:i+1=j at X a T G k N O Q l |-;obtain⟨J,R,S⟩ : ∃J,Tryz.prog.info? 71=some J/\J.size=4:=by
  have h:=(rS 71 _ rfl).1;cases e : Tryz.prog.info? 71 with
  | none=>rw[e]at h;cases h
  | some x=>rw[e]at h;simp only[t5,X0,Prod.mk.injEq]at h;exact⟨x,rfl,h.2.1⟩
 have mixed : Tryz.prog.follows .mixedOrders=true:=by kernel_rfl
 go_enter Tryz.func131,Tryz.ntmps131
 go_wp2_with fail
 go_region_law_o (refine step_append_room rfl (.tmp 22) (.tmp 25) 39 rfl 71 J 4 Tryz.underlying39 R S g 0 i c (by simp[Act.eval,Act.put]) A (n - j) (c - j) news (by simp[Act.eval,Act.put]) T.out a.out Y.out ω Z.out ?_;rw[<-W.out])
 go_wp2
 go_ret
 refine⟨rfl,M,by have:=k.out;omega,H.out,?_⟩;rw[W.out,T6]
theorem Gh:∀w,(zeroValue 173).run Tryz.prog w=.ok (.agg #[.int .i64 0,.int .i64 0,.int .i64 0]) w:=λ_=>by kernel_rfl
theorem Pp:AL Tryz.prog 134 3:=by
 refine⟨⟨_,Tryz.func134,by kernel_rfl,by kernel_rfl⟩,λw g n c i news r y o B C b=>?_⟩;obtain⟨A,X,a⟩:=zY o y r B;have a:Hid (∀t u,news[t]? = some u->w.drew.cell? (A.add t)=some u):=a;have T:Hid (news.length=(n - (i+1))*3):=o;have Y:Hid (∀u∈news,u.oneCell'=true):=C;have Z:Hid (∀t,t<news.length->(w.drew.cell? ⟨g,0+i*3+t,none⟩).isSome=true/\w.drew.frozen? ⟨g,0+i*3+t,none⟩ = false):=λt ht=>by
  rw[T6];exact b (i*3+t) ω
 obtain⟨p,d⟩ : ∃p,p=w.drew.setCells g (0+i*3) news:=⟨_,rfl⟩
 have K:∀q,q<n*3->(p.cell? ⟨g,q,none⟩).isSome=true/\p.frozen? ⟨g,q,none⟩ = false:=λq U=>by
  have D:∀j,j<news.length->∃z,cel w.drew g (0+i*3+j)=some z:=λj L=>by
   have:=(b (0+i*3+j) ω).1;exact Option.isSome_iff_exists.1 this
  refine⟨?_,by rw[d];exact(W0 Prod.fst (cM g _ news w.drew g q)).trans (b q U).2⟩;rw[d];by_cases h:0+i*3<=q/\q<0+i*3+news.length
  ·have:=dh D (I2 (show q - (0+i*3)<news.length by omega))
   rw[show 0+i*3+(q - (0+i*3))=q by omega]at this;show(cel _ g q).isSome=true;rw[this];rfl
  ·show(cel _ g q).isSome=true
   rw[bV (λx=>h x.2)];exact(b q U).1
 obtain⟨M,E,F,G⟩:=A8 (P:=Tryz.prog) p 38 173 3 (.agg #[.int .i64 0,.int .i64 0,.int .i64 0]) Tryz.underlying38 Gh rfl (by intro v V;simp[Value.cells]at V;subst V;rfl) g ((i+(n - (i+1)))*3) (n - (i+(n - (i+1)))) ω (by decide) (λj L=>(K _ ω).1) (λj L=>(K _ ω).2);have k:Hid (M.length=(n - (i+(n - (i+1))))*3):=E;have H:Hid (∀v∈M,v.oneCell'=true):=F;have W:Hid (p=w.drew.setCells g (0+i*3) news):=d;have hic:i<=c:=ω
 have N:i+1<=c:=ω
 have O:¬i=i+1:=ω
 have Q:i+1<=n:=r;have l:n - 1=i+(n - (i+1)):=ω
 clear d K b B C o E F;rw[l];generalize L:i+1=j at X a T G k N O Q l |-;obtain⟨J,R,S⟩ : ∃J,Tryz.prog.info? 173=some J/\J.size=3:=by
  have h:=(rS 173 _ rfl).1;cases e : Tryz.prog.info? 173 with
  | none=>rw[e]at h;cases h
  | some x=>rw[e]at h;simp only[t5,X0,Prod.mk.injEq]at h;exact⟨x,rfl,h.2.1⟩
 have mixed : Tryz.prog.follows .mixedOrders=true:=by kernel_rfl
 go_enter Tryz.func134,Tryz.ntmps134
 go_wp2_with fail
 go_region_law_o (refine step_append_room rfl (.tmp 22) (.tmp 25) 38 rfl 173 J 3 Tryz.underlying38 R S g 0 i c (by simp[Act.eval,Act.put]) A (n - j) (c - j) news (by simp[Act.eval,Act.put]) T.out a.out Y.out ω Z.out ?_;rw[<-W.out])
 go_wp2
 go_ret
 refine⟨rfl,M,by have:=k.out;omega,H.out,?_⟩;rw[W.out,T6]
theorem HW:∀w,(zeroValue 75).run Tryz.prog w=.ok (.agg #[.int .i64 0,.int .i64 0,.int .i64 0]) w:=λ_=>by kernel_rfl
theorem DW:AL Tryz.prog 188 3:=by
 refine⟨⟨_,Tryz.func188,by kernel_rfl,by kernel_rfl⟩,λw g n c i news r y o B C b=>?_⟩;obtain⟨A,X,a⟩:=zY o y r B;have a:Hid (∀t u,news[t]? = some u->w.drew.cell? (A.add t)=some u):=a;have T:Hid (news.length=(n - (i+1))*3):=o;have Y:Hid (∀u∈news,u.oneCell'=true):=C;have Z:Hid (∀t,t<news.length->(w.drew.cell? ⟨g,0+i*3+t,none⟩).isSome=true/\w.drew.frozen? ⟨g,0+i*3+t,none⟩ = false):=λt ht=>by
  rw[T6];exact b (i*3+t) ω
 obtain⟨p,d⟩ : ∃p,p=w.drew.setCells g (0+i*3) news:=⟨_,rfl⟩
 have K:∀q,q<n*3->(p.cell? ⟨g,q,none⟩).isSome=true/\p.frozen? ⟨g,q,none⟩ = false:=λq U=>by
  have D:∀j,j<news.length->∃z,cel w.drew g (0+i*3+j)=some z:=λj L=>by
   have:=(b (0+i*3+j) ω).1;exact Option.isSome_iff_exists.1 this
  refine⟨?_,by rw[d];exact(W0 Prod.fst (cM g _ news w.drew g q)).trans (b q U).2⟩;rw[d];by_cases h:0+i*3<=q/\q<0+i*3+news.length
  ·have:=dh D (I2 (show q - (0+i*3)<news.length by omega))
   rw[show 0+i*3+(q - (0+i*3))=q by omega]at this;show(cel _ g q).isSome=true;rw[this];rfl
  ·show(cel _ g q).isSome=true
   rw[bV (λx=>h x.2)];exact(b q U).1
 obtain⟨M,E,F,G⟩:=A8 (P:=Tryz.prog) p 37 75 3 (.agg #[.int .i64 0,.int .i64 0,.int .i64 0]) Tryz.underlying37 HW rfl (by intro v V;simp[Value.cells]at V;subst V;rfl) g ((i+(n - (i+1)))*3) (n - (i+(n - (i+1)))) ω (by decide) (λj L=>(K _ ω).1) (λj L=>(K _ ω).2);have k:Hid (M.length=(n - (i+(n - (i+1))))*3):=E;have H:Hid (∀v∈M,v.oneCell'=true):=F;have W:Hid (p=w.drew.setCells g (0+i*3) news):=d;have hic:i<=c:=ω
 have N:i+1<=c:=ω
 have O:¬i=i+1:=ω
 have Q:i+1<=n:=r;have l:n - 1=i+(n - (i+1)):=ω
 clear d K b B C o E F;rw[l];generalize L:i+1=j at X a T G k N O Q l |-;obtain⟨J,R,S⟩ : ∃J,Tryz.prog.info? 75=some J/\J.size=3:=by
  have h:=(rS 75 _ rfl).1;cases e : Tryz.prog.info? 75 with
  | none=>rw[e]at h;cases h
  | some x=>rw[e]at h;simp only[t5,X0,Prod.mk.injEq]at h;exact⟨x,rfl,h.2.1⟩
 have mixed : Tryz.prog.follows .mixedOrders=true:=by kernel_rfl
 go_enter Tryz.func188,Tryz.ntmps188
 go_wp2_with fail
 go_region_law_o (refine step_append_room rfl (.tmp 22) (.tmp 25) 37 rfl 75 J 3 Tryz.underlying37 R S g 0 i c (by simp[Act.eval,Act.put]) A (n - j) (c - j) news (by simp[Act.eval,Act.put]) T.out a.out Y.out ω Z.out ?_;rw[<-W.out])
 go_wp2
 go_ret
 refine⟨rfl,M,by have:=k.out;omega,H.out,?_⟩;rw[W.out,T6]
theorem ED(xs:List ar):Rv (xs.map (ar.enc .own)):=λr b c a=>by
 obtain⟨s,-,rfl⟩:=z4.1 b;simp[ar.enc]at a;rcases a with rfl|rfl|rfl<;>exact⟨_,rfl⟩
theorem D3(xs:List ar)(i:Nat)(a:i<xs.length):aO Tryz.prog 188 false [.mut none [.s .own (xs.map (ar.enc .own))],.val none [I (i:Nat)],.val none [I ((i+1:Nat):Int)]] [.mut none [.x],.val none [I (i:Nat)],.val none [I ((i+1:Nat):Int)]] .one [oE ((dele xs i).map (ar.enc .own))]:=by
 have h:=Qe DW (rows:=xs.map (ar.enc .own)) (i:=i) (by rw[Z0];exact a) (aM λ_=>rfl) (ED xs)
 rwa [show dele (xs.map (ar.enc .own)) i=(dele xs i).map (ar.enc .own) by simp[dele,t4,v4]]at h
theorem Fo(c:Nat)(W:World):Calls Tryz.prog 224 #[.slice none 0 c] W λe g=>∃B q h,e=.returned (.slice B 0 0)/\g=Sort.grow (W.drewN q) h:=by
 have q22:∀(w:World)(a:Option Addr)(n c b d:Nat),(binOp .eql 44 (.slice a n c) (.slice none b d)).run Tryz.prog w=.ok (.bool a.isNone) w:=λw a n c b d=>Lib.run_eql_slice_nil w _ _ a n c b d Tryz.underlying44
 go_enter Tryz.func224,Tryz.ntmps224
 go_wp2
 go_ret
 exact⟨none,0,#[],rfl,by simp[Sort.grow,World.drewN]⟩
theorem Ec(a:Addr)(c:Nat)(W:World):Calls Tryz.prog 224 #[.slice (some a) 0 c] W λe g=>∃B q h,e=.returned (.slice B 0 0)/\g=Sort.grow (W.drewN q) h:=by
 have q22:∀(w:World)(a:Option Addr)(n c b d:Nat),(binOp .eql 44 (.slice a n c) (.slice none b d)).run Tryz.prog w=.ok (.bool a.isNone) w:=λw a n c b d=>Lib.run_eql_slice_nil w _ _ a n c b d Tryz.underlying44
 go_enter Tryz.func224,Tryz.ntmps224
 go_wp2
 go_ret
 exact⟨some ⟨W.heap.size,0,none⟩,0,#[.cells #[] 185],rfl,by rw[Sort.alloc_eq_grow];rfl⟩
theorem ru(xs:List aK)(o:xs.length<=1048576):ao Tryz.prog 224 false [.val none (cq .imm xs)] .one (cq .own xs):=by
 by_cases d:xs=[]
 ·subst d
  refine⟨⟨_,Tryz.func224,by kernel_rfl,by kernel_rfl⟩,λw S p t g=>?_⟩
  match p,g with
  | [v],⟨g,_⟩=>
   have c:=bE.rep1 (show bE w S NO none [C.s .imm []] v from g);obtain⟨l,b,rfl⟩:=c.slice;have r:Calls Tryz.prog 224 #[.slice l 0 b] w λe n=>∃B q i,e=.returned (.slice B 0 0)/\n=Sort.grow (w.drewN q) i:=by
    cases l with
    | none=>exact Fo b w
    | some a=>exact Ec a b w
   refine r.mono λe n ⟨B,q,i,d,j⟩=>?_
   subst j;exact⟨.slice B 0 0,d,wH w q i,NO,NO,λ_ _ h=>h.elim,λ_ _ h=>h.elim,λ_ _ h=>h.elim,rfl,row1 (.nil _ .own B trivial)⟩
 ·have k:xs.map (aK.enc .imm)≠[]:=λe=>d (List.map_eq_nil_iff.1 e)
  refine fO 8 [] Tryz.func224 rfl ?_ (.inr (lh _))
  repeat'(first|refine gO ?_|(conv=>whnf);first|refine CA ?_|refine Nn.mk k ?_|refine CO (λ_=>rfl) (λ_=>rfl) o (by decide) ?_)
  rfl
theorem JN(h:ab)(p:Int):ao Tryz.prog 104 false [.val (some 24) (ab.enc .imm h),.val none [I p]] .one [B (fo h p)]:=by
 cases e:h.Meshing
 all_goals
  have b:ab.enc .imm h=(ab.enc .imm h).set 18 (B h.Meshing):=rfl;rw[e]at b;rw[b];refine fO 23 [] Tryz.func104 rfl ?_
  repeat'(first|refine gO ?_|(conv=>whnf);first|with_reducible (first|refine Bf.D (λa=>?_) (λa=>?_)|refine Bf.E (λa=>?_) (λa=>?_)|refine Bf.N (λa=>?_) (λa=>?_))|refine CA ?_)
  all_goals exact W0 (λz=>[B z]) ((by unfold fo;rw[e];first|(simp[*];done)|(simp[*];rw[U4];simp;try omega)|(rw[U4];simp[*];try omega)))
theorem An(h:ab):ao Tryz.prog 66 false [.val (some 24) (ab.enc .imm h)] .one [I (dS h:Nat)]:=by
 refine fO 9 [] Tryz.func66 rfl ?_
 repeat'(first|refine gO ?_|(conv=>whnf);first|refine CA ?_)
 rfl
theorem dN(c:C):NG c c:=(km [c]).1
def cE(h:ab)(s l o:C):List C:=[.s .own (h.Kernel.Machine.Frames.Cells.map (aF .own)),.s .own (h.Kernel.Machine.Frames.Used.map (rB .own)),.s .own (h.Kernel.Machine.Table.Entries.map (bf.enc .own)),I h.Kernel.Calls,.s .own (h.Kernel.Refuse.map (rI .own)),.s .own (h.Free.map (ax.enc .own)),s,l,o,.s .own (h.Caches.map (aA.enc .own)),.s .own (h.Mail.Buffers.map (cz .own)),.s .own (h.Mail.Inbox.map (aF .own)),I h.Quar.Room,.s .own (h.Quar.Lst.map (aK.enc .own)),I h.Seed,I h.Clock,I h.Limit,I h.Next,B h.Meshing,I h.Job.Plan.Keep,I h.Job.Plan.Move,.s .own (h.Job.Plan.Cells.map (rI .own)),I h.Job.Phase,I h.Job.Next]
def oS(h:ab):C:=oE (h.Spans.map (ar.enc .own))
def oL(h:ab):C:=oE (h.Larges.map (a7.enc .own))
def oO(h:ab):C:=oE (h.Objs.map (bK.enc .own))
def iM(h:ab):List C:=cE h (oS h) (oL h) (oO h)
theorem M3(rows:List (List C)):fz (oE rows)=fz (.s .own rows):=by cases rows<;>rfl
theorem Py{rows:List (List C)} : oE rows=.s .own rows\/(rows=[]/\oE rows=.s .imm []):=by cases rows with|nil=>exact .inr ⟨rfl,rfl⟩|cons=>exact .inl rfl
theorem QL(h:ab){s l o:C}(a:fz s=.s .imm (h.Spans.map (ar.enc .imm)))(b:fz l=.s .imm (h.Larges.map (a7.enc .imm)))(c:fz o=.s .imm (h.Objs.map (bK.enc .imm))):dw (cE h s l o)=ab.enc .imm h:=by
 have d:=ab.enc_fz h;have e:dw (cE h s l o)=(((dw (ab.enc .own h)).set 6 (fz s)).set 7 (fz l)).set 8 (fz o):=rfl;rw[e,d,a,b,c];rfl
theorem QT(h:ab):fz (oS h)=.s .imm (h.Spans.map (ar.enc .imm)):=(M3 _).trans (x8 _)
theorem P6(h:ab):fz (oL h)=.s .imm (h.Larges.map (a7.enc .imm)):=(M3 _).trans (tf _)
theorem Q6(h:ab):fz (oO h)=.s .imm (h.Objs.map (bK.enc .imm)):=(M3 _).trans (vi _)
theorem rP(h:ab):dw (iM h)=ab.enc .imm h:=QL h (QT h) (P6 h) (Q6 h)
theorem FP{rows:List (List C)}(h:P4 rows):Ql (oE rows):=by cases rows with|nil=>exact⟨.inr rfl,trivial⟩|cons r a=>exact⟨.inl λe=>(by cases e),h⟩
theorem GI(h:ab):gH (iM h):=by
 have a:=ab.enc_fr h;simp only[ab.enc,gH]at a;unfold iM cE;simp only[gH];refine⟨a.1,a.2.1,a.2.2.1,a.2.2.2.1,a.2.2.2.2.1,a.2.2.2.2.2.1,FP ?_,FP ?_,FP ?_,a.2.2.2.2.2.2.2.2.2⟩
 ·exact a.2.2.2.2.2.2.1.2
 ·exact a.2.2.2.2.2.2.2.1.2
 ·exact a.2.2.2.2.2.2.2.2.1.2
theorem FY{w:World}{S Y:ac}{rows:List (List C)}{v:Value}(h:eC w S Y (.s .own rows) v):eC w S Y (oE rows) v:=by
 cases rows with
 | cons=>exact h
 | nil=>
  cases h with
  | nil _ o a d=>exact .nil _ .imm a trivial
  | own _ o g k n e rows u f d i j b c l p q r t=>simp at i;omega
theorem Mv{w:World}{S Y:ac}{h:ab}{u:Nat->Value}(d:cP w S Y (ab.enc .own h) u):cP w S Y (iM h) u:=by
 obtain⟨f,b,e,g⟩:=d;refine⟨f,λj c a=>?_,e,g⟩;have i:iM h=(((ab.enc .own h).set 6 (oS h)).set 7 (oL h)).set 8 (oO h):=rfl;rw[i]at a;by_cases k:j=8
 ·subst k
  have:c=oO h:=by simpa[ab.enc] using a.symm
  rw[this];exact FY (b 8 _ rfl)
 by_cases l:j=7
 ·subst l
  have:c=oL h:=by simpa[ab.enc] using a.symm
  rw[this];exact FY (b 7 _ rfl)
 by_cases n:j=6
 ·subst n
  have:c=oS h:=by simpa[ab.enc] using a.symm
  rw[this];exact FY (b 6 _ rfl)
 ·rw[List.getElem?_set_ne ω,List.getElem?_set_ne ω,List.getElem?_set_ne ω]at a
  exact b j c a
theorem w7(h:ab)(a:ab.sml h):ao Tryz.prog 65 false [.val (some 24) (ab.enc .imm h)] .agg (iM h):=by
 obtain⟨b,c⟩:=yw h a;refine⟨b,λw S d g i=>(c w S d g i).mono λe w1 j=>?_⟩;obtain⟨v,k,l,X,n,o,p,q,r,t⟩:=j;exact⟨v,k,l,X,n,o,p,q,r,Mv t⟩
theorem vO(h:ab)(r:ax)(n:Nat)(a:aB h.Kernel=true)(e:h.Kernel.Calls≠100000)(b:h.Free.length<=1048576)(l:r.Len=n/\0<=r.At/\r.At<=1000/\n<=1000) :
  aO Tryz.prog 135 false [.ptr (iM h),.val (some 2) (ax.enc .imm r)] [.ptr (iM {h with Kernel:=dO h.Kernel r.At n,Free:=(ca (dS h) h.Free r).getD h.Free}),.val (some 2) (ax.enc .imm r)] (.tup []) []:=by
 have c:=a;have g:dS h<=32:=(bx.1 (aD.1 a).2.2.1).2.2;have d:=An {h with Kernel:=dO h.Kernel r.At n};rw[show dS {h with Kernel:=dO h.Kernel r.At n} = dS h from(gM _ _ _).1]at d;have i:=yf (dS h:Nat) h.Free r ⟨ω,ω⟩ ⟨b,λ_ _=>trivial⟩;refine fM 44 [] [(5,272,[29,30,31,32,33,34,35,36,37,38,39,28,40,41,42,43,0,1,2,3,4,5,6,7,8,9,10,11,12,13,14,15,16,1013])] [(0,0),(0,0)] Tryz.func135 rfl (λu q=>?_) (.inr trivial)
 repeat'(first|refine gO ?_|(conv=>whnf);first|refine CA ?_)
 (conv=>whnf)
 refine CE (ι:=Nat) (λk=>[(0,.hold .box (iM {h with Kernel:=dO h.Kernel r.At k})),(3,.hold .box (ax.enc .imm r)),(4,.hold .one [I ((r.At+k))])]) (λk=>k<=n) (λk=>n - k) (0) ?_ (U0 _) λk a=>?_
 ·exact wC
 by_cases o:k<n
 ·have j:=D7 (dO h.Kernel r.At k) (r.At+k) (jV c _ _) (by rw[(iU _ _ _).1];exact e)
  repeat'(first|refine gD ?_|(conv=>whnf);first|refine CA ?_|refine CG (j) ⟨⟨rfl,CP _⟩,⟨rfl,rfl⟩,trivial⟩ ?_)
  ((conv=>whnf);refine CD (k+1) ω ω ?_;(exact wC))
 ·obtain rfl:k=n:=ω
  repeat'(first|refine gD ?_|(conv=>whnf);first|refine CA ?_|refine CG (d) ⟨⟨rfl,rP _⟩,trivial⟩ ?_|refine CG (i) ⟨⟨rfl,rfl⟩,⟨rfl,d8 h.Free⟩,⟨rfl,rfl⟩,trivial⟩ ?_|refine CA ?_)
  refine CF rfl rfl ?_;exact wC
theorem nh{c a:C}(h:a=c):NG c a:=by subst h;exact dN _
theorem MK(k:af)(p:Int):dO k p 1=cA k p:=by show cA k (p+((0:Nat):Int))=_;rw[show p+((0:Nat):Int)=p by omega]
theorem Aq{h:ab}(a:h.Spans≠[]):iM h=cE h (.s .own (h.Spans.map (ar.enc .own))) (oL h) (oO h):=by
 unfold iM oS;rw[P5 λe=>a (List.map_eq_nil_iff.1 e)]
theorem QU(h:ab):oL h=.s .own (h.Larges.map (a7.enc .own))\/(h.Larges=[]/\oL h=.s .imm []):=by
 rcases Py (rows:=h.Larges.map (a7.enc .own)) with e|⟨a,b⟩
 ·exact .inl e
 ·exact .inr ⟨List.map_eq_nil_iff.1 a,b⟩
theorem wV{α:Type}{xs:List α}{i:Nat}(h:i<xs.length):xs≠[]:=λe=>by subst e;cases h
theorem yl(h:ab)(i:Nat)(j:aB h.Kernel=true)(k:h.Kernel.Calls≠100000)(b:h.Free.length<=1048576)(c:i<h.Spans.length)(l:h.Spans.length<=1048576)(n:0<=(nth h.Spans i).Page/\(nth h.Spans i).Page<=31) :
  aO Tryz.prog 105 false [.ptr (iM h),.val none [I (i:Nat)]] [.ptr (iM (giveP h i)),.val none [I (i:Nat)]] (.tup []) []:=by
 have d:=ah c;have g:=D3 h.Spans i c;have a:=vO {h with Spans:=dele h.Spans i} ⟨(nth h.Spans i).Page,1⟩ 1 j k b ⟨rfl,n.1,by show(nth h.Spans i).Page<=1000;omega,ω⟩;rw[show dO ({h with Spans:=dele h.Spans i} : ab).Kernel (ax.mk (nth h.Spans i).Page 1).At 1=cA h.Kernel (nth h.Spans i).Page from MK _ _]at a;have o:iM {h with Spans:=dele h.Spans i} = cE h (oE ((dele h.Spans i).map (ar.enc .own))) (oL h) (oO h):=rfl;rw[Aq (wV c)];rcases Py (rows:=(dele h.Spans i).map (ar.enc .own)) with e|⟨-,e⟩
 all_goals
  rw[o]at a;rw[e]at g a;refine fM 28 [(188,[1,0,0]),(135,[2,0])] [] [(0,0),(0,0)] Tryz.func105 rfl (λu q=>?_) (.inr trivial)
  repeat'(first|refine gO ?_|(conv=>whnf);first|with_reducible refine CB (aa d) ?_|refine CA ?_|refine CH rfl (aa d) rfl ?_|refine CI (g) (.inl rfl) ?_|refine CI (a) (.inl rfl) ?_)
  refine CF rfl rfl ?_;exact wB
theorem PM{h:ab}{E:List Int}(c:bm h E){i:Nat}(d:i<h.Spans.length){a:Int}(b:eE (nth h.Spans i) a):denotes h.Spans h.Larges a = ⟨1,i,dB (nth h.Spans i) a,0⟩:=by
 rw[gP c.L d ⟨b.1,b.2.1⟩];unfold mV;rw[b.2.2.2,b.2.2.1];rfl
theorem nA(h:ab)(E:List Int)(a:Int)(b:bm h (a::E))(G:h.Kernel.Calls≠100000):aO Tryz.prog 147 false [.ptr (iM h),.val none [I a]] [.ptr (iM (freeA h a)),.val none [I a]] (.tup []) []:=by
 obtain⟨c,t,H⟩:=b.at (b.hin a (V1 ..));have J:=(b.hin a (V1 ..)).bd b;have w:=b.lens;have K:=w.spans;have M:=w.larges;unfold freeA;generalize uN h a=i at c t;have l:=b.L.sok _ (am c);have N:=aC l;have d:=ah c;have j:=jN h.Spans h.Larges a ⟨ω,λ_ _=>trivial⟩ ⟨ω,λ_ _=>trivial⟩;rw[PM b c t]at j;have y:=yH (nth h.Spans i) (dB (nth h.Spans i) a) l t.2.2.2;have P:=b.give c t;have n:=JN (clrS h i a) (nth h.Spans i).Page;rw[show fo (clrS h i a) (nth h.Spans i).Page=fo h (nth h.Spans i).Page from rfl]at n;have o:i<(clrS h i a).Spans.length:=by unfold clrS;simp only[O1];exact c
 have B:(nth (clrS h i a).Spans i).Page=(nth h.Spans i).Page:=by unfold clrS;simp only[ch,true_and];rw[C9 c];rfl
 have p:=yl (clrS h i a) i b.ker G (by show h.Free.length<=_;have:=w.free;omega) o (by unfold clrS;simp only[O1];omega) (by rw[B];omega);have g:iM (clrS h i a)=cE h (.s .own ((h.Spans.map (ar.enc .own)).set i (ar.enc .own (jM (nth h.Spans i) (dB (nth h.Spans i) a))))) (oL h) (oO h):=by
  rw[Aq (wV o)];show cE h (.s .own ((h.Spans.set i _).map _)) (oL h) (oO h)=_;rw[W5]
 have r:=rP (clrS h i a);rw[g]at r p;have k:((h.Spans.map (ar.enc .own)).set i (ar.enc .own (jM (nth h.Spans i) (dB (nth h.Spans i) a))))[i]? = some (ar.enc .own (jM (nth h.Spans i) (dB (nth h.Spans i) a))):=m6 c;rw[Aq (wV c)];have C:=P6 h;unfold freeS;rcases QU h with e|⟨D,e⟩
 all_goals
  try rw[D]at j
  rw[e]at p r C g |-;by_cases F:(jM (nth h.Spans i) (dB (nth h.Spans i) a)).Bits=0
  ·cases O:fo h (nth h.Spans i).Page<;>rw[O]at n
   ·rw[C9 ⟨F,rfl⟩]
    refine fM 64 [(105,[2,0])] [(0,11,[6,7,8,9,10,11,12,13,14,15,4]),(2,277,[20,21,22,23,24,25,26,27,28,29,30,31,32,33,34,35,36,19,37,38,39,0,1,2,3,4,5,6,7,8,9,10,11,12,13,14,15,16,17,18,19,20,21,1019]),(3,9,[40,41,42,43,44,45,46,47,5]),(4,9,[48,49,50,51,52,53,54,55,56])] [(0,0),(0,0)] Tryz.func147 rfl (λu q=>?_) (.inr trivial)
    repeat'(first|refine gA ?_|(conv=>whnf);first|refine CA ?_|refine CG (j) ⟨⟨rfl,fB _⟩,⟨rfl,jt _⟩,⟨rfl,rfl⟩,trivial⟩ ?_|refine CG (j) ⟨⟨rfl,fB _⟩,⟨rfl,rfl⟩,⟨rfl,rfl⟩,trivial⟩ ?_|refine CB (aa d) ?_|refine CB k ?_|refine CH rfl (aa d) rfl ?_|refine CH rfl k rfl ?_|refine C7 (y) ?_|refine CA ?_|refine CN rfl rfl (aa d) rfl (C1 rfl) rfl ?_|refine CG (n) ⟨⟨rfl,r⟩,⟨rfl,rfl⟩,trivial⟩ ?_|refine CI (p) (.inl rfl) ?_)
    refine CF rfl rfl ?_;exact wB
   ·rw[C8 (λx=>by cases x.2),g]
    refine fM 64 [(105,[2,0])] [(0,11,[6,7,8,9,10,11,12,13,14,15,4]),(2,277,[20,21,22,23,24,25,26,27,28,29,30,31,32,33,34,35,36,19,37,38,39,0,1,2,3,4,5,6,7,8,9,10,11,12,13,14,15,16,17,18,19,20,21,1019]),(3,9,[40,41,42,43,44,45,46,47,5]),(4,9,[48,49,50,51,52,53,54,55,56])] [(0,0),(0,0)] Tryz.func147 rfl (λu q=>?_) (.inr trivial)
    repeat'(first|refine gA ?_|(conv=>whnf);first|refine CA ?_|refine CG (j) ⟨⟨rfl,fB _⟩,⟨rfl,jt _⟩,⟨rfl,rfl⟩,trivial⟩ ?_|refine CG (j) ⟨⟨rfl,fB _⟩,⟨rfl,rfl⟩,⟨rfl,rfl⟩,trivial⟩ ?_|refine CB (aa d) ?_|refine CB k ?_|refine CH rfl (aa d) rfl ?_|refine CH rfl k rfl ?_|refine C7 (y) ?_|refine CA ?_|refine CN rfl rfl (aa d) rfl (C1 rfl) rfl ?_|refine CG (n) ⟨⟨rfl,r⟩,⟨rfl,rfl⟩,trivial⟩ ?_|refine CI (p) (.inl rfl) ?_)
    refine CF rfl rfl ?_;exact wB
  ·rw[C8 (λx=>F x.1),g]
   refine fM 64 [(105,[2,0])] [(0,11,[6,7,8,9,10,11,12,13,14,15,4]),(2,277,[20,21,22,23,24,25,26,27,28,29,30,31,32,33,34,35,36,19,37,38,39,0,1,2,3,4,5,6,7,8,9,10,11,12,13,14,15,16,17,18,19,20,21,1019]),(3,9,[40,41,42,43,44,45,46,47,5]),(4,9,[48,49,50,51,52,53,54,55,56])] [(0,0),(0,0)] Tryz.func147 rfl (λu q=>?_) (.inr trivial)
   repeat'(first|refine gA ?_|(conv=>whnf);first|refine CA ?_|refine CG (j) ⟨⟨rfl,fB _⟩,⟨rfl,jt _⟩,⟨rfl,rfl⟩,trivial⟩ ?_|refine CG (j) ⟨⟨rfl,fB _⟩,⟨rfl,rfl⟩,⟨rfl,rfl⟩,trivial⟩ ?_|refine CB (aa d) ?_|refine CB k ?_|refine CH rfl (aa d) rfl ?_|refine CH rfl k rfl ?_|refine C7 (y) ?_|refine CA ?_|refine CN rfl rfl (aa d) rfl (C1 rfl) rfl ?_|refine CG (n) ⟨⟨rfl,r⟩,⟨rfl,rfl⟩,trivial⟩ ?_|refine CI (p) (.inl rfl) ?_)
   refine CF rfl rfl ?_;exact wB
theorem eC.frz_at{w:World}{S F:ac}{rows:List (List C)}{v:Value}{i:Nat}{c:C}(h:eC w S F (.s .own rows) v)(D:rows[i]? = some [c]):∃V:ac,(∀b o,V b o->F b o)/\eC w (λb o=>S b o\/V b o) (λb o=>F b o/\¬V b o) (.s .own (rows.set i [fz c])) v:=by
 cases h with
 | nil _ o a O=>simp at D
 | own _ o g k n G rows u f O T H A B P Q E J K=>
  have U:i<rows.length:=(O2.1 D).1;obtain rfl:k=1:=by rw[<-H [c] (Z1 D)];rfl
  simp only[Nat.mul_one]at P Q E J K;refine⟨f i,λb o d=>(E i ω b o d).1,?_⟩;refine .own _ .own g 1 n G _ u (λq=>if q=i then NO else f q) O (by simpa using T) (λr h=>?_) A B (λq L=>?_) (λq L=>Q q ω) (λq L b o d=>?_) (λq W L X t b o d y=>?_) (λM N r R l p=>?_)
  ·rcases Z5 h with h|rfl
   ·exact H r h
   ·rfl
  ·have:=P q ω
   exact⟨⟨this.1,λd=>(E i ω g q d).2 ⟨rfl,ω⟩⟩,this.2⟩
  ·split at d
   ·exact d.elim
   ·rename_i t
    have:=E q ω b o d;exact⟨⟨this.1,λY=>J q i ω ω t b o d Y⟩,ω⟩
  ·split at d
   ·exact d.elim
   ·split at y
    ·exact y.elim
    ·exact J q W ω ω t b o d y
  ·by_cases e:M=i
   ·subst e
    rw[U3 U]at l;obtain rfl:=Option.some.inj l;cases N with
    | succ j=>simp at p
    | zero=>
     obtain rfl:fz c=R:=by simpa using p
     have:=(K M 0 [c] c D rfl).freeze;simp only[Nat.add_zero,Nat.mul_one,if_true]at this |-;exact this.mono (λ_ _ h=>h) (λ_ _ h=>h)
   ·rw[List.getElem?_set_ne (λh=>e h.symm)]at l
    have Z:r.length=1:=H r (Z1 l);have hj:N<r.length:=(O2.1 p).1;obtain rfl:N=0:=ω
    have:=K M 0 r R l p;simp only[Nat.add_zero,Nat.mul_one,C8 e]at this |-;exact this.mono (λ_ _ h=>.inl h) (λ_ _ h=>h)
theorem ao.frz{P:Program}{f:Nat}{sh:Bool}{A:List RA}{k:Kd}{rows:List (List C)}{i:Nat}{c:C}(h:ao P f sh A k [.s .own rows])(u:rows[i]? = some [c]):ao P f sh A k [.s .own (rows.set i [fz c])]:=by
 obtain⟨p,q⟩:=h;refine⟨p,λw S y B D=>(q w S y B D).mono λe w1 E=>?_⟩;obtain⟨v,F,G,X,H,r,J,K,L,g,M,t,W⟩:=E;obtain⟨V,N,O⟩:=(M 0 _ rfl).frz_at u;have l:∀b o,V b o->X b o:=λb o a=>t 0 (by simp) b o (N b o a)
 refine⟨v,F,G,λb o=>X b o/\¬V b o,λb o=>H b o\/V b o,λb o a=>r b o a.1,λb o a=>?_,λb o a h=>?_,L,λj=>if j=0 then(λb o=>g 0 b o/\¬V b o) else NO,λj Q d=>?_,λj d b o a=>?_,λj R d n T b o a U=>?_⟩
 ·rcases a with a|a
  ·exact J b o a
  ·exact .inr (r b o (l b o a))
 ·rcases h with h|h
  ·exact K b o a.1 h
  ·exact a.2 h
 ·cases j with
  | succ j=>simp at d
  | zero=>
   obtain rfl:C.s .own (rows.set i [fz c])=Q:=by simpa using d
   exact O.mono (λ_ _ h=>h) (λ_ _ h=>h)
 ·obtain rfl:j=0:=by simpa using d
  exact⟨t 0 (by simp) b o a.1,a.2⟩
 ·have p:j<1:=d
  have q:R<1:=n;omega
def Gw(c:aA)(k:Nat):aA:=⟨c.Lists.set k []⟩
theorem GM(c:aA)(k:Nat):aA.enc .own (Gw c k)=[.s .own ((c.Lists.map (aF .own)).set k (aF .own []))]:=by simp[aA.enc,Gw,W5]
theorem EK(xs:List Int):([]:List Int).map (rI .imm)=(xs.map (rI .imm)).drop xs.length:=by rw[List.drop_eq_nil_of_le (by rw[Z0];omega)];rfl
theorem Di(xs:List Int):xs.map (rI .imm)=(xs.map (rI .imm)).take xs.length:=by rw[V6 (by rw[Z0];omega)]
theorem sS{rows:List (List C)}{k:Nat}{r:List C}(h:k<rows.length):(rows.set k r)[k]? = some r:=U3 h
def QY(c:aA)(k:Nat):List C:=aA.enc .own (Gw c k)++aF .own (nth c.Lists k)
theorem KR(c:aA)(k:Nat):gH (QY c k):=aS (aA.enc_fr _) (bJ _)
theorem uG(c:aA)(k:Nat)(d:bn c=true)(p:k<=3):ao Tryz.prog 390 false [.val (some 1) (aA.enc .imm c),.val none [I (k:Nat)],.val none [I 8]] (.tup [some 1,none]) (QY c k):=by
 obtain⟨q,e⟩:=dq d;have g:aA.sml c:=⟨ω,λl j=>by have:=e l j;show l.length<=1048576;omega⟩
 have h:=xL c k g;rw[d,O0 ω]at h;have n:=i7 c g;have a:=pu (c:=c) (k:=k) ω;have o:=e _ (am (xs:=c.Lists) (i:=k) ω);have b:=KR c k;unfold QY at b |-;rw[GM]at b |-;refine fO 52 [(5,268,[29,30,31,32,33,34,35,36,37,38,39,41,0,1,2,3,4,5,6,7,8,9,10,11,1000,1001,1002,12,13]),(6,265,[42,43,44,45,46,47,48,49,50,0,1,2,3,4,5,6,7,8,9,1000,10,11])] Tryz.func390 rfl ?_ (.inr b)
 repeat'(first|refine gO ?_|(conv=>whnf);first|with_reducible refine CB (aa a) ?_|refine CA ?_|refine CH rfl (aa a) rfl ?_|refine C7 (h) ?_|refine C7 (n) ?_|refine CS (z:=((nth c.Lists k).length:Int)) (by simp;omega) ?_|refine CW (nth c.Lists k).length rfl (by rw[Z0];omega) (aM λ_=>rfl) (EK _) ?_|refine CT (nth c.Lists k).length rfl (by rw[Z0];omega) (aM λ_=>rfl) (Di _) ?_|refine CA ?_|refine CU (λ_=>rfl) (λ_=>rfl) (by simp) (by decide) ?_|refine CO (λ_=>rfl) (λ_=>rfl) (by simp) (by decide) ?_|refine CU (λ_=>rfl) (λ_=>rfl) ω (by decide) ?_|refine CO (λ_=>rfl) (λ_=>rfl) ω (by decide) ?_|refine CN rfl rfl (aa a) rfl (C1 rfl) rfl ?_)
 rfl
theorem uO(c:aA)(k:Nat)(e:bn c=true)(q:k<=3):ao Tryz.prog 146 false [.val (some 1) (aA.enc .imm c),.val none [I (k:Nat)],.val none [I 8]] (.tup [some 1,none]) (QY c k):=by
 obtain⟨r,g⟩:=dq e;have h:aA.sml c:=⟨ω,λl o=>by have:=g l o;show l.length<=1048576;omega⟩
 have j:=Fz c k h;rw[e,O0 ω]at j;have b:=pu (c:=c) (k:=k) ω;have p:=g _ (am (xs:=c.Lists) (i:=k) ω);have n:=ao.frz (nP c h) (i:=k) (c:=.s .own ((nth c.Lists k).map (rI .own))) (aa b);rw[show fz (.s .own ((nth c.Lists k).map (rI .own)))=.s .imm ((nth c.Lists k).map (rI .imm)) from(List.cons.inj (dL (nth c.Lists k))).1]at n;have a:k<(c.Lists.map (aF .own)).length:=by rw[Z0];omega
 have d:=KR c k;unfold QY at d |-;rw[GM]at d |-;refine fO 43 [(6,7,[30,31,32,33,34,35,36]),(7,5,[38,39,40,41,42])] Tryz.func146 rfl ?_ (.inr d)
 repeat'(first|refine gO ?_|(conv=>whnf);first|with_reducible refine CB (aa b) ?_|refine CA ?_|refine CH rfl (aa b) rfl ?_|refine C7 (j) ?_|refine C7 (n) ?_|refine CS (z:=((nth c.Lists k).length:Int)) (by simp;omega) ?_|refine CW (nth c.Lists k).length rfl (by rw[Z0];omega) (aM λ_=>rfl) (EK _) ?_|refine CT (nth c.Lists k).length rfl (by rw[Z0];omega) (aM λ_=>rfl) (Di _) ?_|refine CA ?_|refine C7 (fK [] (by simp)) ?_|refine C7 (fK (nth c.Lists k) ω) ?_|refine CH rfl (sS a) rfl ?_|refine CN rfl rfl (sS a) rfl (C1 rfl) (by simp only[List.set_cons_zero,List.set_set];rfl) ?_|refine CB (sS a) ?_)
 simp only[List.set_set,X2];rfl
theorem oH{k:Int} : ∀{l s s2 c:List Int},(∀x∈s2,x∈s)->qQ k s l=some c->(∀x∈s,x∈c)/\∃d,qQ k s2 l=some d/\∀x∈d,x∈c
 | [],s,s2,c,h,e=>by
  simp only[qQ,X0]at e |-;subst e;exact⟨λ_ h=>h,s2,rfl,h⟩
 | a::l,s,s2,c,h,e=>by
  simp only[qQ]at e |-;split at e
  ·rename_i g
   rw[C9 (show good k s2 a from⟨g.1,g.2.1,g.2.2.1,λx=>g.2.2.2 (h a x)⟩)];obtain⟨f,i⟩:=oH (l:=l) (s:=s++[a]) (s2:=s2++[a]) (λx b=>by
     rcases v3.1 b with b|b
     · exact v3.2 (.inl (h x b))
     · exact v3.2 (.inr b)) e
   exact⟨λx b=>f x (v3.2 (.inl b)),i⟩
  ·cases e
theorem sP:∀{a:List (List Int)}{k:Nat}{s s2:List Int},(∀x∈s2,x∈s)->(gd k s a).isSome=true->(gd k s2 a).isSome=true
 | [],_,_,_,_,_=>rfl
 | l::a,k,s,s2,h,e=>by
  simp only[gd,eH]at e |-;split at e
  ·rename_i g
   rw[C9 g];cases b:qQ k s l with
   | none=>rw[b]at e;cases e
   | some i=>
    rw[b]at e;obtain⟨-,c,d,f⟩:=oH h b;rw[d];exact sP f e
  ·cases e
theorem BP:∀{a:List (List Int)}{k:Nat}{s s2:List Int}(i:Nat),(∀x∈s2,x∈s)->(gd k s a).isSome=true->(gd k s2 (a.set i [])).isSome=true
 | [],_,_,_,_,_,_=>rfl
 | l::a,k,s,s2,i,h,e=>by
  simp only[gd,eH]at e;split at e
  ·rename_i g
   cases b:qQ k s l with
   | none=>rw[b]at e;cases e
   | some o=>
    rw[b]at e;obtain⟨c,d,f,j⟩:=oH h b;cases i with
    | zero=>
     simp only[List.set_cons_zero,gd,eH];rw[C9 ⟨by simp,g.2⟩];exact sP (λx n=>c x (h x n)) e
    | succ i=>
     simp only[List.set_cons_succ,gd,eH];rw[C9 g,f];exact BP i j e
  ·cases e
theorem Qa{c:aA}(h:bn c=true)(k:Nat):bn (Gw c k)=true:=by
 unfold bn at h |-;simp only[I0,C0]at h |-;exact⟨by simp only[Gw,O1];exact h.1,BP k (λ_ h=>h) h.2⟩
def spilt(h:ab)(t k:Nat):ab:={h with Caches:=h.Caches.set t (Gw (nth h.Caches t) k)}
theorem bm.spilt{h:ab}{E:List Int}{t k:Nat}(f:bm h E)(i:t<h.Caches.length)(n:k<(nth h.Caches t).Lists.length):bm (spilt h t k) (nth (nth h.Caches t).Lists k++E):=by
 have p:(E++holders h).Perm (nth (nth h.Caches t).Lists k++E++holders (Ab.spilt h t k)):=by
  refine List.perm_iff_count.2 λb=>?_
  have r:=iB (λc:aA=>c.Lists.flatten) b h.Caches t (Gw (nth h.Caches t) k) i;have q:=iB (λx:List Int=>x) b (nth h.Caches t).Lists k [] n;rw[<-kC,<-kC]at q;simp only[List.count_nil]at q;simp only[Gw]at r;simp only[holders,cb,Ab.spilt,Gw,V5];omega
 have g:∀c∈(Ab.spilt h t k).Caches,c∈h.Caches\/c=Gw (nth h.Caches t) k:=λc u=>Z5 u
 exact {f with
   nc:=by show(h.Caches.set ..).length=_;rw[O1];exact f.nc
   cach:=λc a=>by
     rcases g c a with a|rfl
     · exact f.cach c a
     · exact Qa (f.cach _ (am i)) k
   onu:=by show ∀o∈h.Objs,1<=o.Id/\o.Id<=h.Next - 1/\0<=o.Thread/\o.Thread<=(h.Caches.set t _).length - 1;rw[O1];exact f.onu
   hca:=λc a j l b d=>by
     rcases g c a with a|rfl
     · exact f.hca c a j l b d
     · simp only[Gw,O1]at l
       simp only[Gw,ch]at d;by_cases e:k=j
       · subst e
         rw[C9 ⟨rfl,l⟩]at d;cases d
       · rw[C8 λx=>e x.1]at d
         exact f.hca _ (am i) _ l b d
   hin:=λb d=>by
     rcases v3.1 d with d|d
     · exact(f.hca _ (am i) k n b d).any
     · exact f.hin b d
   nd:=p.nodup_iff.1 f.nd
   mem:=λb=>by rw[<-p.mem_iff];exact f.mem b}
def freeAs(h:ab)(az:List Int):ab:=az.foldl freeA h
theorem dy:∀(az:List Int)(h:ab),(freeAs h az).Caches=h.Caches/\(freeAs h az).Objs=h.Objs/\(freeAs h az).Kernel.Calls=h.Kernel.Calls/\(freeAs h az).Mail=h.Mail/\(freeAs h az).Job=h.Job/\(freeAs h az).Clock=h.Clock/\(freeAs h az).Quar=h.Quar/\(freeAs h az).Kernel.Refuse=h.Kernel.Refuse
 | [],h=>⟨rfl,rfl,rfl,rfl,rfl,rfl,rfl,rfl⟩
 | a::az,h=>by
  obtain⟨b,c,d,e,f,g,i,j⟩:=dy az (freeA h a);obtain⟨k,l,n,o,p,q,r,t⟩:=vY h (uN h a) a;exact⟨b.trans k,c.trans l,d.trans n,e.trans o,f.trans p,g.trans q,i.trans r,j.trans t⟩
theorem bm.freeAs{E:List Int} : ∀{az:List Int}{h:ab},bm h (az++E)->bm (freeAs h az) E
 | [],_,b=>b
 | a::az,h,b=>bm.freeAs (az:=az) (h:=Ab.freeA h a) b.freeA
theorem nS(h:ab)(az:List Int)(k:Nat)(a:k<az.length):freeAs h (az.take (k+1))=freeA (freeAs h (az.take k)) (nth az k):=by
 rw[C5,ah a];simp[freeAs]
def flushN(t:Nat)(h:ab):Nat->ab × Nat
 | 0=>(h,0)
 | k+1=>(freeAs (spilt (flushN t h k).1 t k) (nth (nth (flushN t h k).1.Caches t).Lists k),(flushN t h k).2+(nth (nth (flushN t h k).1.Caches t).Lists k).length)
theorem gr{t:Nat}{h:ab}(c:bm h [])(e:t<h.Caches.length):∀{k:Nat},k<=4->bm (flushN t h k).1 []/\(flushN t h k).1.Caches.length=h.Caches.length/\(flushN t h k).1.Kernel.Calls=h.Kernel.Calls/\(flushN t h k).1.Objs=h.Objs/\(flushN t h k).1.Mail=h.Mail/\(flushN t h k).1.Job=h.Job/\(flushN t h k).2<=8*k
 | 0,_=>⟨c,rfl,rfl,rfl,rfl,rfl,U0 _⟩
 | k+1,y=>by
  obtain⟨d,f,g,i,j,l,A⟩:=gr c e (k:=k) ω;have a:t<(flushN t h k).1.Caches.length:=ω
  obtain⟨B,n⟩:=dq (d.cach _ (am a));have b:k<(nth (flushN t h k).1.Caches t).Lists.length:=ω
  have o:=d.spilt a b;have C:=n _ (am b);obtain⟨p,q,r,u,w,-⟩:=dy (nth (nth (flushN t h k).1.Caches t).Lists k) (Ab.spilt (flushN t h k).1 t k);refine⟨bm.freeAs o,?_,r.trans g,q.trans i,u.trans j,w.trans l,?_⟩
  ·show(Ab.freeAs _ _).Caches.length=_
   rw[p];simp only[Ab.spilt,O1];exact f
  ·simp only[flushN];omega
theorem wM{h:ab}{t k:Nat}(d:bm h [])(e:t<h.Caches.length)(j:k<4):t<(flushN t h k).1.Caches.length/\bn (nth (flushN t h k).1.Caches t)=true/\k<(nth (flushN t h k).1.Caches t).Lists.length/\(nth (nth (flushN t h k).1.Caches t).Lists k).length<=8/\(flushN t h k).2<=8*k:=by
 obtain⟨f,l,-,-,-,-,g⟩:=gr d e (k:=k) ω;have a:t<(flushN t h k).1.Caches.length:=ω
 have c:=f.cach _ (am a);obtain⟨n,i⟩:=dq c;have b:k<(nth (flushN t h k).1.Caches t).Lists.length:=ω
 exact⟨a,c,b,i _ (am b),g⟩
theorem Da{h:ab}{t k j:Nat}(a:bm h [])(b:t<h.Caches.length)(d:k<4)(e:j<(nth (nth (flushN t h k).1.Caches t).Lists k).length):bm (freeAs (spilt (flushN t h k).1 t k) ((nth (nth (flushN t h k).1.Caches t).Lists k).take j)) (nth (nth (nth (flushN t h k).1.Caches t).Lists k) j::(nth (nth (flushN t h k).1.Caches t).Lists k).drop (j+1)):=by
 obtain⟨f,g⟩:=wM a b d;have c:=((gr a b (k:=k) ω).1).spilt f g.2.1;rw[List.append_nil]at c;refine bm.freeAs ?_;rw[<-gQ e,List.take_append_drop];exact c
theorem yB(h:ab)(t:Nat)(i:bm h [])(l:t<h.Caches.length):aO Tryz.prog 362 false [.ptr (bz h),.val none [I (t:Nat)]] [.ptr (bz (flushN t h 4).1),.val none [I (t:Nat)]] .one [I ((flushN t h 4).2:Nat)]:=by
 refine fM 48 [(364,[2,0])] [(6,6,[26,27,28,29,30,31])] [(0,0),(0,0)] Tryz.func362 rfl (λu q=>?_)
 repeat'(first|refine gO ?_|fail)
 (conv=>whnf)
 refine CE (ι:=Nat) (λk=>[(0,.hold .box (bz (flushN t h k).1)),(1,.hold .one [I ((t:Nat):Int)]),(5,.hold .one [I (((flushN t h k).2:Nat):Int)]),(6,.hold .one [I ((k:Nat):Int)])]) (λk=>k<=4) (λk=>4 - k) (0) ?_ (U0 _) λk D=>?_
 ·repeat'(first|exact trivial|rfl |exact nh a|exact dN _|refine CJ ?_ ?_|(exact zw (by first|omega|(simp only;omega)|(simp;omega))))
 by_cases n:k<4
 ·obtain⟨o,p,E,F,G⟩:=wM i l n
  have r:=uG (nth (flushN t h k).1.Caches t) k p ω;have c:=λj=>Da i l n (j:=j)
  have e:=ah o;have w:(flushN t h (k+1)).1=freeAs (spilt (flushN t h k).1 t k) (nth (nth (flushN t h k).1.Caches t).Lists k):=rfl;have y:(flushN t h (k+1)).2=(flushN t h k).2+(nth (nth (flushN t h k).1.Caches t).Lists k).length:=rfl;have a:C.s d7.own ((spilt (flushN t h k).1 t k).Caches.map (aA.enc .own))=C.s d7.own (((flushN t h k).1.Caches.map (aA.enc .own)).set t (aA.enc .own (Gw (nth (flushN t h k).1.Caches t) k))):=by simp[spilt,W5]
  repeat'(first|refine gD ?_|(conv=>whnf);first|refine CB (aa e) ?_|refine CH rfl (aa e) rfl ?_|refine CG (r) ⟨⟨rfl,aA.enc_fz _⟩,⟨rfl,rfl⟩,⟨rfl,rfl⟩,trivial⟩ ?_|refine CA ?_|refine CN rfl rfl (aa e) rfl (C1 rfl) rfl ?_)
  generalize (flushN t h k).1=d at *;generalize (flushN t h k).2=m at *
  (conv=>whnf)
  refine CE (ι:=Nat) (λj=>[(0,.hold .box (bz (freeAs (spilt d t k) ((nth (nth d.Caches t).Lists k).take j)))),(1,.hold .one [I ((t:Nat):Int)]),(5,.hold .one [I (((m+j):Nat):Int)]),(6,.hold .one [I ((k:Nat):Int)]),(8,.hold .one (aF .own (nth (nth d.Caches t).Lists k))),(9,.hold .one [I ((j:Nat):Int)])]) (λj=>j<=(nth (nth d.Caches t).Lists k).length) (λj=>(nth (nth d.Caches t).Lists k).length - j) (0) ?_ (U0 _) λj H=>?_
  ·repeat'(first|exact trivial|rfl |exact nh a|exact dN _|refine CJ ?_ ?_|(exact zw (by first|omega|(simp only;omega)|(simp;omega))))
  by_cases g:j<(nth (nth d.Caches t).Lists k).length
  ·have b:=ah g
   have B:=m7 _ _ _ (c j g)
   repeat'(first|refine gD ?_|(conv=>whnf);first|refine CB (aa b) ?_|refine CH rfl (aa b) rfl ?_|refine CI (B) (.inl rfl) ?_)
   ((conv=>whnf);refine CD (j+1) ω ω ?_)
   rw[nS _ _ _ g];exact wC
  ·obtain rfl:j=(nth (nth d.Caches t).Lists k).length:=ω
   rw[Z4]
   repeat'(first|refine gD ?_|fail)
   ((conv=>whnf);refine CD (k+1) ω ω ?_)
   rw[w,y];exact wC
 ·obtain rfl:k=4:=ω
  repeat'(first|refine gD ?_|fail)
  refine CF rfl rfl ?_;exact wC
theorem B1(h:ab)(t:Int)(a:ab.sml h):ao Tryz.prog 145 false [.val (some 24) (ab.enc .imm h),.val none [I t]] .one [B (decide (0<=t/\t<=h.Caches.length - 1)&&decide (h.Kernel.Calls≠100000)&&dM h)]:=by
 have b:=lw h a;rw[pp]at b;have d:h.Caches.length<=1048576:=a.2.2.2.2.2.1.1;have c:=aN t 0 (h.Caches.length - 1:Int);cases e:decide (0<=t/\t<=(h.Caches.length:Int) - 1)<;>rw[e]at c
 all_goals
  cases g:decide (h.Kernel.Calls≠100000)
  all_goals
   simp only[C0,T4]at g;refine fO 21 [] Tryz.func145 rfl ?_
   repeat'(first|refine gO ?_|(conv=>whnf);first|with_reducible refine Bf.N (λi=>?_) (λi=>?_)|refine C7 (b) ?_|refine C7 (c) ?_)
   all_goals first|rfl|(exfalso;omega)
theorem wq(h:ab)(t:Nat)(p:ab.sml h)(q:dM h=true)(r:h.Kernel.Calls≠100000)(c:t<h.Caches.length):ao Tryz.prog 58 false [.val (some 24) (ab.enc .imm h),.val none [I (t:Nat)]] (.tup [some 24,none]) (iM (flushN t h 4).1++[I ((flushN t h 4).2:Nat)]):=by
 have e:=bm.of q;have u:=B1 h t p;rw[q,O0 ω,O0 r]at u;have y:=w7 h p;refine fP 52 [(147,[2,0])] [] Tryz.func58 rfl ?_ (.inr (aS (GI _) ⟨trivial,trivial⟩))
 repeat'(first|refine gO ?_|(conv=>whnf);first|refine C7 (u) ?_|refine C7 (y) ?_)
 (conv=>whnf)
 refine CE (ι:=Nat) (λk=>[(1,.hold .one [I ((t:Nat):Int)]),(4,.hold .box D9),(6,.hold .box (iM (flushN t h k).1)),(7,.hold .one [I (((flushN t h k).2:Nat):Int)]),(8,.hold .one [I ((k:Nat):Int)])]) (λk=>k<=4) (λk=>4 - k) (0) ?_ (U0 _) λk J=>?_
 ·repeat'(first|exact trivial|rfl |exact nh a|exact dN _|refine CJ ?_ ?_|(exact zw (by first|omega|(simp only;omega)|(simp;omega))))
 by_cases w:k<4
 ·obtain⟨B,D,K,L,M⟩:=wM e c w
  have E:=uO (nth (flushN t h k).1.Caches t) k D ω;have g:=λj=>Da e c w (j:=j)
  have i:=λj=>(dy ((nth (nth (flushN t h k).1.Caches t).Lists k).take j) (spilt (flushN t h k).1 t k)).2.2.1
  have l:(spilt (flushN t h k).1 t k).Kernel.Calls≠100000:=by have:=(gr e c (k:=k) ω).2.2.1;show(flushN t h k).1.Kernel.Calls≠100000;rw[this];exact r
  have n:=ah B;have F:(flushN t h (k+1)).1=freeAs (spilt (flushN t h k).1 t k) (nth (nth (flushN t h k).1.Caches t).Lists k):=rfl;have G:(flushN t h (k+1)).2=(flushN t h k).2+(nth (nth (flushN t h k).1.Caches t).Lists k).length:=rfl;have a:C.s d7.own ((spilt (flushN t h k).1 t k).Caches.map (aA.enc .own))=C.s d7.own (((flushN t h k).1.Caches.map (aA.enc .own)).set t (aA.enc .own (Gw (nth (flushN t h k).1.Caches t) k))):=by simp[spilt,W5]
  repeat'(first|refine gD ?_|(conv=>whnf);first|refine CB (aa n) ?_|refine CH rfl (aa n) rfl ?_|refine CG (E) ⟨⟨rfl,aA.enc_fz _⟩,⟨rfl,rfl⟩,⟨rfl,rfl⟩,trivial⟩ ?_|refine CA ?_|refine CN rfl rfl (aa n) rfl (C1 rfl) rfl ?_)
  generalize (flushN t h k).1=d at *;generalize (flushN t h k).2=m at *
  (conv=>whnf)
  refine CE (ι:=Nat) (λj=>[(1,.hold .one [I ((t:Nat):Int)]),(4,.hold .box D9),(6,.hold .box (iM (freeAs (spilt d t k) ((nth (nth d.Caches t).Lists k).take j)))),(7,.hold .one [I (((m+j):Nat):Int)]),(8,.hold .one [I ((k:Nat):Int)]),(10,.hold .one (aF .own (nth (nth d.Caches t).Lists k))),(39,.bor 10 0 [] none),(40,.hold .one [I ((nth (nth d.Caches t).Lists k).length)]),(41,.hold .one [I ((j:Nat):Int)])]) (λj=>j<=(nth (nth d.Caches t).Lists k).length) (λj=>(nth (nth d.Caches t).Lists k).length - j) (0) ?_ (U0 _) λj N=>?_
  ·repeat'(first|exact trivial|rfl |exact nh a|exact dN _|refine CJ ?_ ?_|(exact zw (by first|omega|(simp only;omega)|(simp;omega))))
  by_cases o:j<(nth (nth d.Caches t).Lists k).length
  ·have b:=ah o
   have H:=nA _ _ _ (g j o) (by rw[i];exact l)
   repeat'(first|refine gD ?_|(conv=>whnf);first|refine CB (aa b) ?_|refine CH rfl (aa b) rfl ?_|refine CI (H) (.inl rfl) ?_)
   ((conv=>whnf);refine CD (j+1) ω ω ?_)
   rw[nS _ _ _ o];exact wC
  ·obtain rfl:j=(nth (nth d.Caches t).Lists k).length:=ω
   rw[Z4]
   repeat'(first|refine gD ?_|fail)
   ((conv=>whnf);refine CD (k+1) ω ω ?_)
   rw[F,G];exact wC
 ·obtain rfl:k=4:=ω
  repeat'(first|refine gD ?_|fail)
  rfl
def GT(s:Int):Int:=(1103515245*s+12345) % 1073741824
theorem G6(s:Int):0<=GT s/\GT s<=1073741823:=by unfold GT;omega
theorem yF(s:Int)(b:0<=s/\s<=1073741823):ao Tryz.prog 377 false [.val none [I s]] .one [I (GT s)]:=by
 have a:=aG s 0 1073741823;rw[O0 b]at a;refine fO 10 [] Tryz.func377 rfl ?_
 repeat'(first|refine gO ?_|(conv=>whnf);first|refine CA ?_|refine CS (z:=GT s) (gm ω) ?_|refine C7 (a) ?_|refine CM (by decide) ?_)
 rfl
def Mc(s n:Int):Int:=GT s / 1024 % n
theorem xa(s:Int){n:Int}(h:1<=n):0<=Mc s n/\Mc s n<n:=⟨Int.emod_nonneg _ ω,Int.emod_lt_of_pos _ ω⟩
theorem uw(s n:Int)(b:0<=s/\s<=1073741823)(c:1<=n/\n<=1000):ao Tryz.prog 343 false [.val none [I s],.val none [I n]] (.tup [none,none]) [I (Mc s n),I (GT s)]:=by
 have d:=aG s 0 1073741823;have e:=aG n 1 1000;rw[O0 b]at d;rw[O0 c]at e;have g:=G6 s;have i:=xa s c.1;have a:(GT s).tdiv 1024=GT s / 1024:=Int.tdiv_eq_ediv_of_nonneg g.1;have h:((GT s).tdiv 1024).tmod n=Mc s n:=by rw[a];exact gm ω
 refine fO 23 [] Tryz.func343 rfl ?_ (.inr ⟨trivial,trivial,trivial⟩)
 repeat'(first|refine gO ?_|(conv=>whnf);first|refine CA ?_|refine C7 (d) ?_|refine C7 (e) ?_|refine C7 (yF s b) ?_|refine CM (by decide) ?_|refine CM ω ?_|refine CS h ?_|refine CK (eM (by rw[a];omega) (by rw[a];omega)) ?_)
 rfl
def rM(n:Nat):List Int:=(List.range n).map λ(i:Nat)=>(i:Int)
theorem Gd(n:Nat):rM (n+1)=rM n++[(n:Int)]:=by unfold rM;rw[List.range_succ,O5];rfl
theorem yM(n:Nat):(rM n).length=n:=by simp[rM]
def xj(xs:List Int)(i k:Nat):List Int:=(xs.set i (nth xs k)).set k (nth xs i)
theorem Jh(xs:List Int)(i k:Nat):(xj xs i k).length=xs.length:=by simp[xj]
def gV(n:Nat)(s:Int):Nat->List Int × Int
 | 0=>(rM n,s)
 | j+1=>(xj (gV n s j).1 (n - 1 - j) (Mc (gV n s j).2 ((n - 1 - j:Nat)+1:Int)).toNat,GT (gV n s j).2)
theorem me(n:Nat){s:Int}(a:0<=s/\s<=1073741823):∀j,(gV n s j).1.length=n/\0<=(gV n s j).2/\(gV n s j).2<=1073741823
 | 0=>⟨yM n,a⟩
 | j+1=>⟨by simp only[gV,Jh];exact(me n a j).1,G6 _⟩
def shuf(n:Nat)(s:Int):List Int × Int:=gV n s (n - 1)
theorem Mm(xs:List Int)(i k:Nat):(xj xs i k).map (rI .own)=((xs.map (rI .own)).set i (rI .own (nth xs k))).set k (rI .own (nth xs i)):=by simp[xj,W5]
theorem JX{xs:List Int}{i k:Nat}(v:Int)(a:k<xs.length):((xs.map (rI .own)).set i (rI .own v))[k]? = some (rI .own (nth (xs.set i v) k)):=by
 rw[<-W5];exact aa (ah (by rw[O1];exact a))
theorem yE(n:Nat)(s:Int)(d:0<=s/\s<=1073741823)(w:n<=64):ao Tryz.prog 393 false [.val none [I s],.val none [I (n:Nat)]] (.tup [none,none]) (aF .own (shuf n s).1++[I (shuf n s).2]):=by
 have e:=aG s 0 1073741823;have g:=aG (n:Nat) 0 64;rw[O0 d]at e;rw[O0 ω]at g;refine fO 63 [] Tryz.func393 rfl ?_ (.inr (aS (bJ _) ⟨trivial,trivial⟩))
 repeat'(first|refine gO ?_|(conv=>whnf);first|refine CA ?_|refine C7 (e) ?_|refine C7 (g) ?_)
 (conv=>whnf)
 refine CE (ι:=Nat) (λk=>[(0,.hold .one [I (s)]),(1,.hold .one [I ((n:Nat):Int)]),(6,.hold .one (aF .own (rM k))),(7,.hold .one [I ((k:Nat):Int)])]) (λk=>k<=n) (λk=>n - k) (0) ?_ (U0 _) λk y=>?_
 ·exact wB
 have h:=yM k;by_cases B:k<n
 ·repeat'(first|refine gD ?_|(conv=>whnf);first|refine CA ?_|refine Ap.sm (aM λ_=>rfl) rfl (by simp;omega) (by decide) (iK (rI .own) (rM k) (k:Int)) ?_)
  ((conv=>whnf);refine CD (k+1) ω ω ?_)
  rw[Gd];exact wB
 ·obtain rfl:k=n:=ω
  repeat'(first|refine gD ?_|(conv=>whnf);first|refine CA ?_)
  (conv=>whnf)
  refine CE (ι:=Nat) (λj=>[(0,.hold .one [I ((gV k s j).2)]),(6,.hold .one (aF .own (gV k s j).1)),(8,.hold .one [I (((k:Int) - 1 - j))])]) (λj=>(j<=k - 1/\j<=k)) (λj=>k - j) (0) ?_ (⟨U0 _,U0 _⟩) λj C=>?_
  ·exact wB
  obtain⟨D,l,o⟩:=me k d j;by_cases E:j<k - 1
  ·have q:(k:Int) - 1 - j=((k - 1 - j:Nat):Int):=ω
   have r:=xa (gV k s j).2 (n:=((k - 1 - j:Nat)+1:Int)) ω;have t:=uw (gV k s j).2 ((k - 1 - j:Nat)+1:Int) ⟨l,o⟩ ω;have u:gV k s (j+1)=(xj (gV k s j).1 (k - 1 - j) (Mc (gV k s j).2 ((k - 1 - j:Nat)+1:Int)).toNat,GT (gV k s j).2):=rfl;rw[q];generalize gV k s j=p at *;obtain⟨xs,z⟩:=p;simp only at *;generalize k - 1 - j=i at *;have a:=ah (xs:=xs) (i:=i) ω;have b:=ah (xs:=xs) (i:=(Mc z (i+1)).toNat) ω;have c:=JX (xs:=xs) (i:=i) (k:=(Mc z (i+1)).toNat) (nth xs (Mc z (i+1)).toNat) ω
   repeat'(first|refine gD ?_|(conv=>whnf);first|refine CA ?_|refine C7 (t) ?_|refine CL ω (aa b) ?_|refine CB (aa a) ?_|refine CH rfl (aa a) rfl ?_|refine CH rfl (aa b) rfl ?_|refine CN rfl rfl (aa a) rfl (C1 rfl) rfl ?_|refine CL ω c ?_|refine CN rfl rfl c rfl (C1 rfl) rfl ?_)
   ((conv=>whnf);refine CD (j+1) ω ω ?_)
   rw[u];simp only[aF,Mm];exact wB
  ·obtain rfl:j=k - 1:=ω
   repeat'(first|refine gD ?_|(conv=>whnf);first|refine CA ?_)
   rfl
def A9(b:Int):Nat->Nat
 | 0=>0
 | n+1=>A9 b n+(if aU b (n:Nat)=true then 1 else 0)
theorem Ag(b:Int):∀n,A9 b n<=n
 | 0=>z3 _
 | n+1=>by have:=Ag b n;simp only[A9];split<;>omega
theorem uP(b:Int)(d:b<=9223372036854775807):ao Tryz.prog 112 false [.val none [I b]] .one [I (A9 b 16:Nat)]:=by
 refine fO 15 [] Tryz.func112 rfl ?_
 repeat'(first|refine gO ?_|fail)
 (conv=>whnf)
 refine CE (ι:=Nat) (λk=>[(0,.hold .one [I (b)]),(3,.hold .one [I ((A9 b k:Nat):Int)]),(4,.hold .one [I ((k:Nat):Int)])]) (λk=>k<=16) (λk=>16 - k) (0) ?_ (U0 _) λk g=>?_
 ·exact wB
 have h:=Ag b k;by_cases i:k<16
 ·have a:=gv b (k:Nat) d
  have c:A9 b (k+1)=A9 b k+(if aU b (k:Nat)=true then 1 else 0):=rfl;cases e:aU b (k:Nat)<;>rw[e]at a c
  all_goals
   repeat'(first|refine gD ?_|(conv=>whnf);first|refine C7 (a) ?_)
   ((conv=>whnf);refine CD (k+1) ω ω ?_)
   rw[c];exact wB
 ·obtain rfl:k=16:=ω
  repeat'(first|refine gD ?_|fail)
  rfl
def zd(h:ab)(s:ar):Bool:=decide (0<A9 s.Bits 16)&&decide ((aT h s.Page).length=1)
def kW(h:ab):Nat->List ar
 | 0=>[]
 | n+1=>if zd h (nth h.Spans n)=true then kW h n++[nth h.Spans n] else kW h n
def nu(h:ab):List ar:=kW h h.Spans.length
theorem wK(h:ab):∀n,(kW h n).length<=n
 | 0=>z3 _
 | n+1=>by have:=wK h n;simp only[kW];split<;>simp<;>omega
theorem pb(h:ab):∀{n:Nat},n<=h.Spans.length->∀s∈kW h n,s∈h.Spans
 | 0,_,s,a=>by cases a
 | n+1,b,s,a=>by
  simp only[kW]at a;split at a
  ·rcases v3.1 a with a|a
   ·exact pb h ω s a
   ·rw[I1.1 a];exact am ω
  ·exact pb h ω s a
theorem xJ(h:ab)(j:ya h)(q:h.Spans.length<=1000)(r:dS h<=1000)(l:∀s∈h.Spans,s.Bits<=9223372036854775807):ao Tryz.prog 38 false [.val (some 24) (ab.enc .imm h)] .one (ci .own (nu h)):=by
 refine fO 42 [(5,16,[13,14,15,16,17,18,19,20,21,22,23,24,25,26,27,28])] Tryz.func38 rfl ?_ (.inr (FF _))
 repeat'(first|refine gO ?_|fail)
 (conv=>whnf)
 refine CE (ι:=Nat) (λk=>[(1,.hold .box (ab.enc .imm h)),(3,.hold .one (ci .own (kW h k))),(4,.hold .one [I ((k:Nat):Int)])]) (λk=>k<=h.Spans.length) (λk=>h.Spans.length - k) (0) ?_ (U0 _) λk t=>?_
 ·exact wB
 have n:=wK h k;by_cases e:k<h.Spans.length
 ·have c:=ah e
  have d:=uP (nth h.Spans k).Bits (l _ (am e));have b:=gZ h (nth h.Spans k).Page j;have o:=gR h (nth h.Spans k).Page;have p:=Ag (nth h.Spans k).Bits 16;have a:kW h (k+1)=if zd h (nth h.Spans k)=true then kW h k++[nth h.Spans k] else kW h k:=rfl
  by_cases g:0<A9 (nth h.Spans k).Bits 16
  ·by_cases i:(aT h (nth h.Spans k).Page).length=1
   ·rw[C9 (by unfold zd;simp[g,i])]at a
    repeat'(first|refine gA ?_|(conv=>whnf);first|refine CB (aa c) ?_|refine C7 (d) ?_|refine CG (b) ⟨⟨rfl,rfl⟩,⟨rfl,rfl⟩,trivial⟩ ?_|refine C7 (b) ?_|refine CA ?_|refine Ap.sm (aM λ_=>rfl) rfl (by simp;omega) (by decide) (iK (ar.enc .own) (kW h k) (nth h.Spans k)) ?_)
    ((conv=>whnf);refine CD (k+1) ω ω ?_)
    rw[a];exact wB
   ·rw[C8 (by unfold zd;simp[i])]at a
    repeat'(first|refine gA ?_|(conv=>whnf);first|refine CB (aa c) ?_|refine C7 (d) ?_|refine C7 (b) ?_|refine CA ?_)
    ((conv=>whnf);refine CD (k+1) ω ω ?_)
    rw[a];exact wB
  ·rw[C8 (by unfold zd;simp[g])]at a
   repeat'(first|refine gD ?_|(conv=>whnf);first|refine CB (aa c) ?_|refine C7 (d) ?_|refine C7 (b) ?_|refine CA ?_)
   ((conv=>whnf);refine CD (k+1) ω ω ?_)
   rw[a];exact wB
 ·obtain rfl:k=h.Spans.length:=ω
  repeat'(first|refine gD ?_|fail)
  rfl
def Bk(s:ar)(c:Nat):Bool:=aU s.Bits (((c:Nat):Int) / csz s.Class)
def ve(s:ar)(n:Nat):List Int:=((List.range n).filter (Bk s)).map λ(i:Nat)=>(i:Int)
theorem Pn{s:ar}{n:Nat}(h:Bk s n=true):ve s (n+1)=ve s n++[(n:Int)]:=by
 unfold ve;rw[List.range_succ,List.filter_append,O5];simp[h]
theorem Qh{s:ar}{n:Nat}(h:Bk s n=false):ve s (n+1)=ve s n:=by
 unfold ve;rw[List.range_succ,List.filter_append,O5];simp[h]
theorem r6(s:ar)(n:Nat):(ve s n).length<=n:=by
 unfold ve;rw[Z0];exact V4 (List.length_filter_le _ _) (by simp)
theorem MX{s:ar}(a:aY s=true){c:Nat}(d:c<16):0<=((c:Nat):Int) / csz s.Class/\((c:Nat):Int) / csz s.Class<=15:=by
 have f:=aC a;have b:csz s.Class=1\/csz s.Class=2\/csz s.Class=4\/csz s.Class=8:=bO ω;rcases b with e|e|e|e<;>rw[e]<;>omega
theorem oU(s:ar)(a:aY s=true):ao Tryz.prog 394 false [.val (some 3) (ar.enc .imm s)] .one (aF .own (ve s 16)):=by
 have b:=f6 s;rw[a]at b;have g:=aC a;have n:=bO g.2.2;refine fO 27 [(5,7,[14,15,16,17,18,19,20])] Tryz.func394 rfl ?_ (.inr (bJ _))
 repeat'(first|refine gO ?_|fail)
 (conv=>whnf)
 refine CE (ι:=Nat) (λi=>[(1,.hold .box (ar.enc .imm s)),(3,.hold .one (aF .own (ve s i))),(4,.hold .one [I ((i:Nat):Int)])]) (λi=>i<=16) (λi=>16 - i) (0) ?_ (U0 _) λi o=>?_
 ·exact wB
 have h:=r6 s i;by_cases j:i<16
 ·have k:=MX a j
  have d:IntKind.i64.wrap (((i:Nat):Int).tdiv (csz s.Class))=((i:Nat):Int) / csz s.Class:=by rw[kr ω];exact eM ω ω
  have c:=gv s.Bits (((i:Nat):Int) / csz s.Class) (eg a).2;cases e:Bk s i
  ·rw[show aU s.Bits (((i:Nat):Int) / csz s.Class)=false from e]at c
   repeat'(first|refine gD ?_|(conv=>whnf);first|refine C7 (b) ?_|refine C7 (de _) ?_|refine CM ω ?_|refine CK d ?_|refine C7 (c) ?_)
   ((conv=>whnf);refine CD (i+1) ω ω ?_)
   rw[Qh e];exact wB
  ·rw[show aU s.Bits (((i:Nat):Int) / csz s.Class)=true from e]at c
   repeat'(first|refine gD ?_|(conv=>whnf);first|refine C7 (b) ?_|refine C7 (de _) ?_|refine CM ω ?_|refine CK d ?_|refine C7 (c) ?_|refine CQ co (λr l=>by rw[I1.1 l];rfl) (by simp[aX,dH]) (by simp;omega) (by simp only[Z0];exact vq (by simp;omega) (by decide)) rfl ?_)
   ((conv=>whnf);refine CD (i+1) ω ω ?_)
   rw[Pn e]
   (repeat'(first|exact trivial|rfl|exact CJ rfl (CJ (W0 (C.s d7.own) (by simp[rI])) trivial)|refine CJ ?_ ?_))
 ·obtain rfl:i=16:=ω
  repeat'(first|refine gD ?_|(conv=>whnf);first|refine C7 (b) ?_)
  rfl
structure fW where
 A:Int
 B:Int
deriving DecidableEq,Inhabited
def fW.enc(_:d7)(x:fW):List C:=[I x.A,I x.B]
def jd(o:d7)(x:List fW):List C:=[.s o (x.map (fW.enc o))]
theorem Fj(x:List fW):gH (jd .own x):=⟨⟨.inl λh=>(by cases h),bg _ _ λ_ _=>⟨trivial,trivial,trivial⟩⟩,trivial⟩
def Nr(i:Int)(p:fW):Bool:=decide (p.A=i) || decide (p.B=i)
def dU(a b:ar):cv:=if(ve a 16).length<(ve b 16).length then⟨b.Page,a.Page,ve a 16⟩ else⟨a.Page,b.Page,ve b 16⟩
theorem y1(a b:ar)(g:meshable a b=true)(h:aY a=true)(i:aY b=true):ao Tryz.prog 366 false [.val (some 3) (ar.enc .imm a),.val (some 3) (ar.enc .imm b)] (.tup [some 3,none]) (cv.enc .own (dU a b)++[B true]):=by
 have c:=l8 a b;rw[g]at c;have d:=oU a h;have e:=oU b i;have j:=r6 a 16;have k:=r6 b 16;unfold dU;split
 ·refine fO 27 [(3,6,[11,12,13,14,15,16]),(5,6,[20,21,22,23,24,25])] Tryz.func366 rfl ?_ (.inr (aS (cv.enc_fr _) ⟨trivial,trivial⟩))
  repeat'(first|refine gD ?_|(conv=>whnf);first|refine C7 (c) ?_|refine C7 (d) ?_|refine C7 (e) ?_|refine CA ?_)
  rfl
 ·refine fO 27 [(3,6,[11,12,13,14,15,16]),(5,6,[20,21,22,23,24,25])] Tryz.func366 rfl ?_ (.inr (aS (cv.enc_fr _) ⟨trivial,trivial⟩))
  repeat'(first|refine gD ?_|(conv=>whnf);first|refine C7 (c) ?_|refine C7 (d) ?_|refine C7 (e) ?_|refine CA ?_)
  rfl
def xN(p:cv):cG:=⟨p,0,0⟩
theorem EI(p:cv)(c:fj p=true)(a:cv.sml p):ao Tryz.prog 367 false [.val (some 3) (cv.enc .imm p)] (.tup [some 5,none]) (cG.enc .own (xN p)++[B true]):=by
 have b:=uk p a;rw[c]at b;have d:=rN (xN p) a;refine fO 11 [] Tryz.func367 rfl ?_ (.inr (aS (cG.enc_fr _) ⟨trivial,trivial⟩))
 repeat'(first|refine gO ?_|(conv=>whnf);first|refine C7 (b) ?_|refine C7 (d) ?_)
 rfl
theorem tp(n:Nat){s:Int}(c:0<=s/\s<=1073741823):∀{j:Nat},j<=n - 1->∀x∈(gV n s j).1,0<=x/\x<n
 | 0,_,x,a=>by
  simp only[gV,rM,z4,List.mem_range]at a;obtain⟨i,d,rfl⟩:=a;omega
 | j+1,e,x,a=>by
  have f:=(me n c j).1;have b:=tp n c (j:=j) ω;have g:=xa (gV n s j).2 (n:=((n - 1 - j:Nat)+1:Int)) ω;simp only[gV,xj]at a;rcases Z5 a with a|rfl
  ·rcases Z5 a with a|rfl
   ·exact b x a
   ·exact b _ (am ω)
  ·exact b _ (am ω)
def tkn(out:List fW)(a:Int):Bool:=out.any (Nr a)
def stp(a:List ar)(p:List Int)(t i:Nat)(out:List fW):List fW:=
 if tkn out (nth p i)=false/\tkn out (nth p (p.length / 2+(i+t) % (p.length - p.length / 2)))=false/\meshable (nth a (nth p i).toNat) (nth a (nth p (p.length / 2+(i+t) % (p.length - p.length / 2))).toNat)=true then out++[⟨nth p i,nth p (p.length / 2+(i+t) % (p.length - p.length / 2))⟩] else out
def uR(a:List ar)(p:List Int)(t:Nat)(out:List fW):Nat->List fW
 | 0=>out
 | i+1=>stp a p t i (uR a p t out i)
def qy(a:List ar)(p:List Int):Nat->List fW
 | 0=>[]
 | t+1=>uR a p t (qy a p t) (p.length / 2)
theorem NT(a:List ar)(p:List Int)(t i:Nat)(out:List fW):(stp a p t i out).length<=out.length+1:=by unfold stp;split<;>simp
theorem wN(a:List ar)(p:List Int)(t:Nat)(out:List fW):∀i,(uR a p t out i).length<=out.length+i
 | 0=>z3 _
 | i+1=>by have b:=wN a p t out i;have c:=NT a p t i (uR a p t out i);simp only[uR];omega
theorem Ek(a:List ar)(p:List Int):∀t,(qy a p t).length<=t*(p.length / 2)
 | 0=>U0 _
 | t+1=>by have b:=Ek a p t;have c:=wN a p t (qy a p t) (p.length / 2);simp only[qy];rw[Nat.add_mul];omega
def m8(a:List ar)(s:Int):List fW:=qy a (shuf a.length s).1 3
def nD(n:Nat)(out:List fW):List Bool:=(List.range n).map λ(i:Nat)=>tkn out (i:Nat)
theorem HD{n:Nat}{out:List fW}{a:Int}(h:0<=a/\a<n):(nD n out)[a.toNat]? = some (tkn out a):=by
 unfold nD;rw[C3,O6 ω];show some (tkn out ((a.toNat:Nat):Int))=_;rw[Int.toNat_of_nonneg h.1]
theorem Mw{n:Nat}{out:List fW}{a b:Int}(f:0<=a/\a<n)(g:0<=b/\b<n):nD n (out++[⟨a,b⟩])=((nD n out).set a.toNat true).set b.toNat true:=by
 unfold nD;apply List.ext_getElem?;intro i;by_cases c:i<n
 ·rw[C3,O6 c]
  by_cases d:b.toNat=i
  ·subst d
   rw[U3 (by simp;omega)];simp only[t5,tkn,List.any_append,List.any_cons,List.any_nil,Nr];rw[Int.toNat_of_nonneg g.1];simp
  ·rw[List.getElem?_set_ne d]
   by_cases e:a.toNat=i
   ·subst e
    rw[U3 (by simp;omega)];simp only[t5,tkn,List.any_append,List.any_cons,List.any_nil,Nr];rw[Int.toNat_of_nonneg f.1];simp
   ·rw[List.getElem?_set_ne e,C3,O6 c]
    simp only[t5,tkn,List.any_append,List.any_cons,List.any_nil,Nr];rw[T0 ω,T0 ω];simp
 ·rw[U2 (by simp;omega),U2 (by simp;omega)]
theorem ND(n:Nat):(nD n []).map (rB .own)=List.replicate n [B false]:=by
 unfold nD;rw[List.map_map];apply List.ext_getElem?;intro i;rw[C3];by_cases a:i<n
 ·rw[O6 a,List.getElem?_replicate];simp[a];rfl
 ·rw[U2 (by simp;omega),List.getElem?_replicate];simp[a]
theorem HL{xs:List Bool}{i k:Nat}(v:Bool)(a:k<xs.length):((xs.map (rB .own)).set i (rB .own v))[k]? = some (rB .own (nth (xs.set i v) k)):=by
 rw[<-W5];exact aa (ah (by rw[O1];exact a))
theorem uK(c:List ar)(s:Int)(u:0<=s/\s<=1073741823)(V:c.length<=16):ao Tryz.prog 365 false [.val none (ci .imm c),.val none [I s],.val none [I 3]] (.tup [none,none]) (jd .own (m8 c s)++[I (shuf c.length s).2]):=by
 have J:=aG s 0 1073741823;rw[O0 u]at J;have K:=aG 3 0 16;rw[O0 ω]at K;have Q:=yE c.length s u ω;have D:=(me c.length u (c.length - 1)).1;have e:=tp c.length u (z3 _);unfold m8;change (shuf c.length s).1.length=_ at D;change ∀x∈(shuf c.length s).1,_ at e
 have E:gH (jd .own (qy c (shuf c.length s).1 3)++[I (shuf c.length s).2]):=aS (Fj _) ⟨trivial,trivial⟩;generalize shuf c.length s=q at *;obtain⟨p,z⟩:=q;simp only at *;have F:((p.length:Nat):Int).tdiv 2=((p.length / 2:Nat):Int):=by rw[Int.tdiv_eq_ediv_of_nonneg ω];omega
 have g:C.s d7.own ((nD c.length []).map (rB .own))=C.s d7.own (List.replicate c.length [B false]):=by rw[ND]
 have h:∀i:Nat,i<p.length->0<=nth p i/\nth p i<c.length:=λi R=>e _ (am R)
 refine fO 110 [(15,21,[73,74,75,76,77,78,79,80,81,82,83,84,85,86,87,88,89,90,91,92,93])] Tryz.func365 rfl ?_ (.inr E)
 repeat'(first|refine gD ?_|(conv=>whnf);first|with_reducible refine CK ((W0 _ F).trans (eM ω ω)) ?_|refine C7 (J) ?_|refine C7 (K) ?_|refine C7 (Q) ?_|refine CM (by decide) ?_|refine Mk.mk c.length rfl rfl ω (vq ω (by decide)) rfl ?_)
 (conv=>whnf)
 refine CE (ι:=Nat) (λt=>[(0,.hold .one (ci .imm c)),(2,.hold .one [I (3)]),(8,.hold .one (jd .own (qy c p t))),(9,.hold .one (aF .own p)),(10,.hold .one [I (z)]),(11,.hold .one [I (((p.length / 2):Nat):Int)]),(12,.hold .one (oP .own (nD c.length (qy c p t)))),(13,.hold .one [I ((t:Nat):Int)])]) (λt=>t<=3) (λt=>3 - t) (0) ?_ (U0 _) λt S=>?_
 ·repeat'(first|exact trivial|rfl |exact nh g|refine CJ ?_ ?_|(exact zw (by first|omega|(simp only;omega)|(simp;omega))))
 have W:=Ek c p t;have ol2:t*(p.length / 2)<=3*8:=Nat.mul_le_mul S ω;by_cases X:t<3
 ·repeat'(first|refine gD ?_|fail)
  (conv=>whnf)
  refine CE (ι:=Nat) (λj=>[(0,.hold .one (ci .imm c)),(2,.hold .one [I (3)]),(8,.hold .one (jd .own (uR c p t (qy c p t) j))),(9,.hold .one (aF .own p)),(10,.hold .one [I (z)]),(11,.hold .one [I (((p.length / 2):Nat):Int)]),(12,.hold .one (oP .own (nD c.length (uR c p t (qy c p t) j)))),(13,.hold .one [I ((t:Nat):Int)]),(14,.hold .one [I ((j:Nat):Int)])]) (λj=>j<=p.length / 2) (λj=>p.length / 2 - j) (0) ?_ (U0 _) λj Y=>?_
  ·repeat'(first|exact trivial|rfl |exact nh g|refine CJ ?_ ?_|(exact zw (by first|omega|(simp only;omega)|(simp;omega))))
  have Z:=wN c p t (qy c p t) j;by_cases lj:j<p.length / 2
  ·have L:(j+t) % (p.length - p.length / 2)<p.length - p.length / 2:=Nat.mod_lt _ ω
   have G:((j:Int)+t).tmod ((p.length:Int) - (p.length / 2:Nat))=(((j+t) % (p.length - p.length / 2):Nat):Int):=by
    rw[gm ω,Int.natCast_emod];congr 1;omega
   have d:uR c p t (qy c p t) (j+1)=stp c p t j (uR c p t (qy c p t) j):=rfl;unfold stp at d;generalize uR c p t (qy c p t) j=out at *;have l:p.length / 2+(j+t) % (p.length - p.length / 2)<p.length:=ω
   generalize hk:(j+t) % (p.length - p.length / 2)=k at *;have n:=ah (xs:=p) (i:=j) ω;have o:=ah (xs:=p) (i:=p.length / 2+k) l;have w:=h j ω;have r:=h _ l;generalize nth p j=a at *;generalize nth p (p.length / 2+k)=b at *;have y:=HD (out:=out) w;have H:=HD (out:=out) r;have T:=ah (xs:=c) (i:=a.toNat) ω;have U:=ah (xs:=c) (i:=b.toNat) ω;have M:=l8 (nth c a.toNat) (nth c b.toNat);have ub2:=HL (xs:=nD c.length out) (i:=a.toNat) (k:=b.toNat) true (by simp[nD];omega);cases N:tkn out a<;>cases O:tkn out b<;>cases P:meshable (nth c a.toNat) (nth c b.toNat)
   all_goals
    rw[N]at y;rw[O]at H;rw[P]at M;rw[N,O,P]at d;simp only[and_true,true_and,if_true,Bool.false_eq_true,Bool.true_eq_false,and_false,false_and,if_false]at d
    repeat'(first|refine gD ?_|(conv=>whnf);first|refine CS G ?_|refine CM ω ?_|refine CB (aa n) ?_|refine CL ω (aa o) ?_|refine CL w.1 (aa y) ?_|refine CL r.1 (aa H) ?_|refine CL w.1 (aa T) ?_|refine CL r.1 (aa U) ?_|refine CH rfl (aa n) rfl ?_|refine CH rfl (aa o) rfl ?_|refine CH rfl (aa y) rfl ?_|refine CH rfl (aa H) rfl ?_|refine C7 (M) ?_|refine CA ?_|refine CN rfl rfl (aa y) rfl (C1 rfl) rfl ?_|refine CL r.1 ub2 ?_|refine CN rfl rfl ub2 rfl (C1 rfl) rfl ?_|refine Ap.sm (aM λ_=>rfl) rfl (by simp;omega) (by decide) (iK (fW.enc .own) out ⟨a,b⟩) ?_)
    ((conv=>whnf);refine CD (j+1) ω ω ?_)
    rw[d]
    first|(rw[Mw w r];simp only[oP,W5])|skip
    exact wB
  ·obtain rfl:j=p.length / 2:=ω
   repeat'(first|refine gD ?_|fail)
   ((conv=>whnf);refine CD (t+1) ω ω ?_;(exact wB))
 ·obtain rfl:t=3:=ω
  repeat'(first|refine gD ?_|fail)
  rfl
theorem FX(x:List fW):dw (jd .own x)=jd .imm x:=by simp[dw,jd,fW.enc,<-bR,T5]
theorem ao.fzR{P:Program}{f:Nat}{sh:Bool}{A:List RA}{k:Kd}{rcs:List C}(h:ao P f sh A k rcs):ao P f sh A k (dw rcs):=by
 obtain⟨c,d⟩:=h;refine⟨c,λw S g i j=>(d w S g i j).mono λe w1 l=>?_⟩;obtain⟨v,n,p,X,q,r,t,B,u,y⟩:=l;refine⟨v,n,p,NO,λb o=>q b o\/X b o,λ_ _ h=>h.elim,λb o a=>?_,λ_ _ h=>h.elim,by rw[bR,Z0];exact u,y.freeze⟩;rcases a with a|a
 ·exact t b o a
 ·exact .inr (r b o a)
structure MW(ls:List ar)(q:fW):Prop where
 a:0<=q.A/\q.A<ls.length
 b:0<=q.B/\q.B<ls.length
 m:meshable (nth ls q.A.toNat) (nth ls q.B.toNat)=true
theorem GO{b:List ar}{p:List Int}(c:∀x∈p,0<=x/\x<b.length)(t:Nat){out:List fW}(d:∀q∈out,MW b q):∀{i:Nat},i<=p.length / 2->∀q∈uR b p t out i,MW b q
 | 0,_=>d
 | i+1,h=>λq a=>by
  have e:=GO c t d (i:=i) ω;simp only[uR,stp]at a;split at a
  ·rename_i g
   rcases v3.1 a with a|a
   ·exact e q a
   ·obtain rfl:=I1.1 a
    have f:(i+t) % (p.length - p.length / 2)<p.length - p.length / 2:=Nat.mod_lt _ ω;exact⟨c _ (am ω),c _ (am ω),g.2.2⟩
  ·exact e q a
theorem H7{a:List ar}{p:List Int}(b:∀x∈p,0<=x/\x<a.length):∀t,∀q∈qy a p t,MW a q
 | 0=>λq c=>by cases c
 | t+1=>GO b t (H7 b t) (z3 _)
theorem qB(a:List ar){s:Int}(b:0<=s/\s<=1073741823):∀q∈m8 a s,MW a q:=H7 (tp a.length b (z3 _)) 3
theorem Pq(s:ar)(n:Nat):(ve s n).Pairwise (· < ·):=by
 unfold ve;rw[List.pairwise_map];exact(List.pairwise_lt_range.sublist List.filter_sublist).imp λh=>ω
theorem PW{s:ar}{n:Nat} : ∀z∈ve s n,0<=z/\z<n:=λz a=>by
 unfold ve at a;simp only[z4,C4,List.mem_range]at a;obtain⟨c,⟨b,-⟩,rfl⟩:=a;omega
theorem xz(s:ar):cS (ve s 16).length (mJ (ve s 16))=true:=by
 refine cn.2 λj a=>?_
 have c:=PW _ (am a);unfold mJ;refine O0 ⟨ω,ω,?_⟩;by_cases e:j=0
 ·exact .inl e
 ·refine .inr ?_
  have b:=List.pairwise_iff_getElem.1 (Pq s 16) (j - 1) j ω a ω;rw[show nth (ve s 16) (j - 1)=(ve s 16)[j - 1] from bq (I2 ω),show nth (ve s 16) j=(ve s 16)[j] from bq (I2 a)];exact b
theorem ss{a b:ar}(c:meshable a b=true):fj (dU a b)=true/\aY a=true/\aY b=true:=by
 unfold meshable at c;simp only[I0,C0]at c;have d:=aC c.1.1;have e:=aC c.1.2;refine⟨?_,c.1⟩;unfold dU fj;split
 ·simp only[I0,C0];exact⟨xz a,ω⟩
 ·simp only[I0,C0];exact⟨xz b,ω⟩
theorem Gq(a b:ar):cv.sml (dU a b):=by
 have c:=r6 a 16;have d:=r6 b 16;unfold dU cv.sml rF;split<;>simp only<;>omega
def bN(h:ab):List ar:=(nu h).take 16
def started(h:ab):ab × Bool:=match m8 (bN h) h.Seed with
 | []=>({h with Seed:=(shuf (bN h).length h.Seed).2},false)
 | q::_=>({h with Seed:=(shuf (bN h).length h.Seed).2,Meshing:=true,Job:=xN (dU (nth (bN h) q.A.toNat) (nth (bN h) q.B.toNat))},true)
theorem Le{h:ab}{E:List Int}(a:bm h E):h.Spans.length<=32/\dS h<=32/\ya h/\∀s∈h.Spans,s.Bits<=9223372036854775807:=by
 have b:=a.lens;refine⟨b.spans,b.ents,?_,λs c=>by have:=en (a.L.sok s c);omega⟩;have:=(bA a.ker).1.2;exact this
theorem Ge(h:ab):(bN h).length<=16:=by unfold bN;rw[U1];omega
theorem PQ(x:List fW)(z:Int):dw (jd .own x++[I z])=jd .imm x++[I z]:=by
 have h:=FX x;rw[bR]at h |-;rw[O5,h];simp[fz]
theorem PP(h:ab):(bN h).map (ar.enc .imm)=((nu h).map (ar.enc .imm)).take 16:=t4
theorem Fu(p:cv)(b:fj p=true)(c:cv.sml p):ao Tryz.prog 367 false [.val (some 3) (cv.enc .imm p)] (.tup [some 5,none]) (xF (xN p)++[B true]):=by
 have h:=(EI p b c).fzR;have e:dw (cG.enc .own (xN p)++[B true])=xF (xN p)++[B true]:=by
  have a:=cG.enc_fz (xN p);rw[bR]at a |-;rw[O5,a];simp[fz,cG.enc,xF]
 rwa [e]at h
theorem yb(h:ab)(w:bm h []):aO Tryz.prog 307 false [.ptr (bz h)] [.ptr (bz (started h).1)] .one [B (started h).2]:=by
 obtain⟨w1,Q,H,J⟩:=Le w;have a:=w.nums;unfold bX at a;rw[C0]at a;have e:=(xJ h H ω ω J).fzR;rw[fB]at e;have o:=Ge h;have b:=(uK (bN h) h.Seed ⟨a.1,a.2.1⟩ o).fzR;rw[PQ]at b;have g:=qB (bN h) ⟨a.1,a.2.1⟩;have K:=wK h h.Spans.length;have y:(nu h).length<=32:=by unfold nu;omega
 have j:=PP h;unfold started;cases C:m8 (bN h) h.Seed with
 | nil=>
  rw[C]at b;by_cases L:16<(nu h).length
  ·refine fM 62 [] [(8,275,[34,35,36,37,38,39,40,41,42,43,44,45,46,47,48,33,49,50,6,0,1,2,3,4,5,6,7,8,9,10,11,12,13,14,15,16,17,18,19,1017,20])] [(0,0)] Tryz.func307 rfl (λu q=>?_)
   repeat'(first|refine gD ?_|(conv=>whnf);first|refine CA ?_|refine CG (e) ⟨⟨rfl,bC h⟩,trivial⟩ ?_|refine C7 (b) ?_|refine CT 16 rfl (by rw[Z0];omega) (aM λ_=>rfl) j ?_)
   refine CF rfl rfl ?_;exact wC
  ·have k:bN h=nu h:=by unfold bN;exact V6 ω
   rw[k]at b;refine fM 62 [] [(8,275,[34,35,36,37,38,39,40,41,42,43,44,45,46,47,48,33,49,50,6,0,1,2,3,4,5,6,7,8,9,10,11,12,13,14,15,16,17,18,19,1017,20])] [(0,0)] Tryz.func307 rfl (λu q=>?_);rw[k]
   repeat'(first|refine gD ?_|(conv=>whnf);first|refine CA ?_|refine CG (e) ⟨⟨rfl,bC h⟩,trivial⟩ ?_|refine C7 (b) ?_)
   refine CF rfl rfl ?_;exact wC
 | cons q M=>
  rw[C]at b g;obtain⟨E,F,G⟩:=g q (V1 ..);obtain⟨N,O,P⟩:=ss G;have p:=y1 _ _ G O P;have t:=Fu _ N (Gq _ _);have c:=ah (xs:=bN h) (i:=q.A.toNat) ω;have d:=ah (xs:=bN h) (i:=q.B.toNat) ω;have l:(q::M)[0]? = some q:=rfl;by_cases L:16<(nu h).length
  ·refine fM 62 [] [(8,275,[34,35,36,37,38,39,40,41,42,43,44,45,46,47,48,33,49,50,6,0,1,2,3,4,5,6,7,8,9,10,11,12,13,14,15,16,17,18,19,1017,20])] [(0,0)] Tryz.func307 rfl (λu r=>?_)
   repeat'(first|refine gD ?_|(conv=>whnf);first|with_reducible refine Bf.D (λn=>absurd n (by simp)) (λn=>?_)|refine CA ?_|refine CG (e) ⟨⟨rfl,bC h⟩,trivial⟩ ?_|refine C7 (b) ?_|refine CT 16 rfl (by rw[Z0];omega) (aM λ_=>rfl) j ?_|refine CL (by decide) (aa l) ?_|refine CL E.1 (aa c) ?_|refine CL F.1 (aa d) ?_|refine C7 (p) ?_|refine CG (t) ⟨⟨rfl,cv.enc_fz _⟩,trivial⟩ ?_|refine CA ?_)
   refine CF rfl rfl ?_;exact wC
  ·have k:bN h=nu h:=by unfold bN;exact V6 ω
   rw[k]at b p t c d;refine fM 62 [] [(8,275,[34,35,36,37,38,39,40,41,42,43,44,45,46,47,48,33,49,50,6,0,1,2,3,4,5,6,7,8,9,10,11,12,13,14,15,16,17,18,19,1017,20])] [(0,0)] Tryz.func307 rfl (λu r=>?_);rw[k]
   repeat'(first|refine gD ?_|(conv=>whnf);first|with_reducible refine Bf.D (λn=>absurd n (by simp)) (λn=>?_)|refine CA ?_|refine CG (e) ⟨⟨rfl,bC h⟩,trivial⟩ ?_|refine C7 (b) ?_|refine CL (by decide) (aa l) ?_|refine CL E.1 (aa c) ?_|refine CL F.1 (aa d) ?_|refine C7 (p) ?_|refine CG (t) ⟨⟨rfl,cv.enc_fz _⟩,trivial⟩ ?_|refine CA ?_)
   refine CF rfl rfl ?_;exact wC
def dx(k:af):af:={k with Calls:=k.Calls+1}
def refd(k:af):Bool:=decide (k.Calls∈k.Refuse)
def w5(k:af)(p:Int)(m:Int):af:={k with Machine:=⟨k.Machine.Frames,⟨k.Machine.Table.Entries.set p.toNat {nth k.Machine.Table.Entries p.toNat with Mode:=m}⟩⟩}
def kj(k:af)(p m:Int):af × Bool:=if refd k=true then(dx k,false) else(w5 (dx k) p m,true)
theorem HI(k:af)(p m:Int):af.enc .own (w5 k p m)=(af.enc .own k).set 2 (.s .own ((k.Machine.Table.Entries.map (bf.enc .own)).set p.toNat (bf.enc .own {nth k.Machine.Table.Entries p.toNat with Mode:=m}))):=by
 simp[af.enc,w5,W5]
theorem row16{k:af}(a:aB k=true){f:Nat}(b:f<k.Machine.Frames.Cells.length):(nth k.Machine.Frames.Cells f).length=16:=by
 have:=(bc.1 (aD.1 a).2.1).2.2.2 f b;unfold ir at this;simp only[I0,C0]at this;omega
def setCell(k:af)(f:Nat)(c v:Int):af:={k with Machine:=⟨⟨k.Machine.Frames.Cells.set f ((nth k.Machine.Frames.Cells f).set c.toNat v),k.Machine.Frames.Used⟩,k.Machine.Table⟩}
theorem Dd(k:af)(f:Nat)(c v:Int):af.enc .own (setCell k f c v)=(af.enc .own k).set 0 (.s .own ((k.Machine.Frames.Cells.map (aF .own)).set f [.s .own (((nth k.Machine.Frames.Cells f).map (rI .own)).set c.toNat [I v])])):=by
 simp[af.enc,setCell,W5,aF,rI]
def ng(k:af)(p:Int):Nat:=(au k.Machine.Table p).Frame.toNat
def z8(k:af)(a b c:Int):af:=setCell k (ng k b) c (nth (nth k.Machine.Frames.Cells (ng k a)) c.toNat)
def P0(k:af)(a b c:Int):Nat->af
 | 0=>k
 | _+1=>z8 k a b c
def xe(k:af)(p:Nat)(e:bf):af:={k with Machine:=⟨k.Machine.Frames,⟨k.Machine.Table.Entries.set p e⟩⟩}
theorem KP(k:af)(p:Nat)(e:bf):af.enc .own (xe k p e)=(af.enc .own k).set 2 (.s .own ((k.Machine.Table.Entries.map (bf.enc .own)).set p (bf.enc .own e))):=by
 simp[af.enc,xe,W5]
theorem LY{k:af}(p:Nat)(e:bf)(h:aH.sml k.Machine.Table):aH.sml (xe k p e).Machine.Table:=by
 refine⟨?_,λx _=>trivial⟩;show(k.Machine.Table.Entries.set p e).length<=_;rw[O1];exact h.1
def Bq(k:af)(p o:Int):af × Bool:=if refd k=true then(dx k,false) else(gF (xe (dx k) p.toNat ⟨2,(nth k.Machine.Table.Entries o.toNat).Frame⟩) (nth k.Machine.Table.Entries p.toNat).Frame,true)
def lF(m:aR)(a v:Int):aR × Int:=
 if(au m.Table (a / 16)).Mode=0 then(m,1) else if(au m.Table (a / 16)).Mode=1 then(m,2) else
 (⟨⟨m.Frames.Cells.set (au m.Table (a / 16)).Frame.toNat ((nth m.Frames.Cells (au m.Table (a / 16)).Frame.toNat).set (a % 16).toNat v),m.Frames.Used⟩,m.Table⟩,0)
theorem F7(m:aR)(f:Nat)(c v:Int):aR.enc .own ⟨⟨m.Frames.Cells.set f ((nth m.Frames.Cells f).set c.toNat v),m.Frames.Used⟩,m.Table⟩ = (aR.enc .own m).set 0 (.s .own ((m.Frames.Cells.map (aF .own)).set f [.s .own (((nth m.Frames.Cells f).map (rI .own)).set c.toNat [I v])])):=by
 simp[aR.enc,W5,aF,rI]
def jmay(k:af)(j:cG):Bool:=(aB k&&decide (k.Calls≠100000))&&(jx j&&decide ((au k.Machine.Table j.Plan.Keep).Mode≠0/\(au k.Machine.Table j.Plan.Move).Mode≠0/\(au k.Machine.Table j.Plan.Keep).Frame≠(au k.Machine.Table j.Plan.Move).Frame))
def jstep(k:af)(j:cG):af × cG:=
 if j.Phase=0 then((kj k j.Plan.Move 1).1,{j with Phase:=if(kj k j.Plan.Move 1).2=true then 1 else 5})
 else if j.Phase=1 then(if j.Next=j.Plan.Cells.length then(k,{j with Phase:=2}) else(z8 k j.Plan.Move j.Plan.Keep (nth j.Plan.Cells j.Next.toNat),{j with Next:=j.Next+1}))
 else if j.Phase=2 then((Bq k j.Plan.Move j.Plan.Keep).1,{j with Phase:=if(Bq k j.Plan.Move j.Plan.Keep).2=true then 4 else 3})
 else if j.Phase=3 then(if 0<j.Next then({k with Machine:=(lF k.Machine (j.Plan.Keep*16+nth j.Plan.Cells (j.Next - 1).toNat) 0).1},{j with Next:=j.Next - 1}) else((kj k j.Plan.Move 2).1,{j with Phase:=if(kj k j.Plan.Move 2).2=true then 5 else 3}))
 else(k,j)
end Go.Proofs.YtembpgjjnioagaaGreat.Ab
