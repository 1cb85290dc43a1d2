/- cw that keep what holds of a heap with addresses in hand. No condition. -/
import Derived.Test.YtembpgjjnioagaaGreatJd
import Derived.Test.YtembpgjjnioagaaGreatJe
import Derived.Deep.LoopGhost
import Derived.Deep.RegionLaw
import Derived.Lib.Walk
import Derived.Sort.WalkB12
import Derived.Lib.SliceRun
import Derived.Shelf.RegionOpenPlain
set_option linter.unusedVariables false
set_option linter.unusedSimpArgs false
set_option linter.constructorNameAsVariable false
namespace Go.Proofs.YtembpgjjnioagaaGreat.Ab
def dele{α:Type}(xs:List α)(i:Nat):List α:=xs.take i++xs.drop (i+1)
theorem eA{α:Type}(xs:List α)(i:Nat):(dele xs i).Sublist xs:=by
 unfold dele;rw[<-List.eraseIdx_eq_take_drop_succ];exact List.eraseIdx_sublist ..
theorem oA{α:Type}[Inhabited α]{xs:List α}{i:Nat}(a:i<xs.length):xs.Perm (nth xs i::dele xs i):=by
 have:xs=xs.take i++nth xs i::xs.drop (i+1):=by rw[<-g9 a,List.take_append_drop]
 conv=>lhs;rw[this]
 exact List.perm_middle
theorem i7{α:Type}[Inhabited α](f:α->List Int)(a:Int):∀(xs:List α)(i:Nat)(y:α),i<xs.length->((xs.set i y).flatMap f).count a+(f (nth xs i)).count a=(xs.flatMap f).count a+(f y).count a
 | [],i,_,h=>by cases h
 | x::xs,0,y,_=>by
  show((y::xs).flatMap f).count a+(f x).count a=((x::xs).flatMap f).count a+(f y).count a;rw[W5,W5,I5,I5];omega
 | x::xs,i+1,y,h=>by
  have:=i7 f a xs i y (by simpa using h);show((x::xs.set i y).flatMap f).count a+(f (nth xs i)).count a=((x::xs).flatMap f).count a+(f y).count a;rw[W5,W5,I5,I5];omega
theorem ka(a:List (List Int)):a.flatten=a.flatMap λx=>x:=by
 induction a with
 | nil=>rfl
 | cons x xs b=>rw[List.flatten_cons,W5,b]
theorem iX.any{sp:List au}{a c:Int}(h:iX sp a c):iX sp a (-1):=by
 obtain⟨s,b,d,-⟩:=h;exact⟨s,b,d,.inl (by decide)⟩
theorem bn.cells{h:ab}{E:List Int}(a:bn h E){k:af}(c:aB k=true)(b:k.Machine.Table=h.Kernel.Machine.Table):bn {h with Kernel:=k} E:=
 {a with
   ker:=c
   rng:=by show bw ((k.Machine.Table.Entries.length:Nat):Int) h.Free=true;rw[b];exact a.rng
   pg:=by show Pg k.Machine.Table h.Free h.Spans h.Larges;rw[b];exact a.pg}
theorem bn.dropO{h:ab}{E:List Int}{i:Nat}(b:bn h E)(g:i<h.Objs.length)(j:iX h.Spans (nth h.Objs i).Addr (-1)):bn {h with Objs:=dele h.Objs i} ((nth h.Objs i).Addr::E):=by
 have f:(E++holders h).Perm (((nth h.Objs i).Addr::E)++holders {h with Objs:=dele h.Objs i}):=by
  have k:=(oA g).map (·.Addr);refine List.perm_iff_count.2 λa=>?_
  have l:=k.count_eq a;simp only[C5,List.count_cons]at l;simp only[holders,cq,I5,List.cons_append,List.count_cons];omega
 have c:(dele h.Objs i).Sublist h.Objs:=eA ..;exact {b with
   osr:=b.osr.sublist c
   onu:=λo d=>b.onu o (c.subset d)
   oid:=b.oid.sublist (c.map _)
   oow:=λo d=>b.oow o (c.subset d)
   hin:=λa e=>by
     rcases List.mem_cons.1 e with rfl|e
     · exact j
     · exact b.hin a e
   nd:=f.nodup_iff.1 b.nd
   mem:=λa=>by rw[<-f.mem_iff];exact b.mem a}
def js(c:aA)(k:Nat)(a:Int):aA:=⟨c.Lists.set k (nth c.Lists k++[a])⟩
theorem bn.put{h:ab}{E:List Int}{a:Int}{t k:Nat}(g:bn h (a::E))(l:t<h.Caches.length)(q:k<(nth h.Caches t).Lists.length)(r:iX h.Spans a k)(u:bo (js (nth h.Caches t) k a)=true):bn {h with Caches:=h.Caches.set t (js (nth h.Caches t) k a)} E:=by
 have n:(a::E++holders h).Perm (E++holders {h with Caches:=h.Caches.set t (js (nth h.Caches t) k a)}):=by
  refine List.perm_iff_count.2 λb=>?_
  have w:=i7 (λc:aA=>c.Lists.flatten) b h.Caches t (js (nth h.Caches t) k a) l;have p:=i7 (λx:List Int=>x) b (nth h.Caches t).Lists k (nth (nth h.Caches t).Lists k++[a]) q;rw[<-ka,<-ka]at p;simp only[I5,List.count_singleton]at p;simp only[js]at w;simp only[holders,cq,js,I5,List.cons_append,List.count_cons];omega
 exact {g with
   nc:=by show(h.Caches.set ..).length=_;rw[I1];exact g.nc
   cach:=λc d=>by
     rcases U5 d with d|rfl
     · exact g.cach c d
     · exact u
   onu:=by show ∀o∈h.Objs,1<=o.Id/\o.Id<=h.Next - 1/\0<=o.Thread/\o.Thread<=(h.Caches.set t _).length - 1;rw[I1];exact g.onu
   hca:=λc d j i b f=>by
     rcases U5 d with d|rfl
     · exact g.hca c d j i b f
     · simp only[js,I1]at i
       simp only[js,ci]at f;by_cases e:k=j
       · subst e
         rw[C9 ⟨rfl,i⟩]at f;rcases W2.1 f with f|f
         · exact g.hca _ (am l) _ i b f
         · rw[C1.1 f];exact r
       · rw[C8 λx=>e x.1]at f
         exact g.hca _ (am l) _ i b f
   hin:=λb f=>g.hin b (X4 _ f)
   nd:=n.nodup_iff.1 g.nd
   mem:=λb=>by rw[<-n.mem_iff];exact g.mem b}
theorem bn.toQuar{h:ab}{E:List Int}{x:aL}{q:bz}{out:List aL}(d:bn h (x.Addr::E))(i:fw q=true)(f:h.Quar.Lst++[x]=out++q.Lst)(j:x.Since<=h.Clock)(k:iX h.Spans x.Addr x.Class):bn {h with Quar:=q} (out.map (·.Addr)++E):=by
 have c:∀y∈out++q.Lst,y.Since<=h.Clock/\iX h.Spans y.Addr y.Class:=λy a=>by
  rw[<-f]at a;rcases W2.1 a with a|a
  ·exact⟨d.snc y a,d.hqu y a⟩
  ·rw[C1.1 a];exact⟨j,k⟩
 have g:(x.Addr::E++holders h).Perm ((out.map (·.Addr)++E)++holders {h with Quar:=q}):=by
  refine List.perm_iff_count.2 λb=>?_
  have n:=U0 (λl:List aL=>(l.map (·.Addr)).count b) f;simp only[v5,I5,C5,List.map_nil,List.count_singleton]at n;simp only[holders,cq,I5,List.cons_append,List.count_cons];omega
 exact {d with
   quar:=i
   snc:=λy a=>(c y (W2.2 (.inr a))).1
   hqu:=λy a=>(c y (W2.2 (.inr a))).2
   hin:=λb e=>by
     rcases W2.1 e with e|e
     · obtain⟨y,a,rfl⟩:=Z3.1 e
       exact(c y (W2.2 (.inl a))).2.any
     · exact d.hin b (X4 _ e)
   nd:=g.nodup_iff.1 d.nd
   mem:=λb=>by rw[<-g.mem_iff];exact d.mem b}
def wt(b i:Int):Int:=((BitVec.ofInt IntKind.i64.bits b &&& ~~~BitVec.ofInt IntKind.i64.bits (2 ^ i.toNat)).toNat:Nat)
def jx(s:au)(i:Int):au:={s with Bits:=wt s.Bits i}
theorem fY(b i:Int):aX b i=true↔0<=b/\0<=i/\i<=15/\b.toNat.testBit i.toNat=true:=by
 unfold aX;rw[C0];refine and_congr_right λa=>and_congr_right λc=>and_congr_right λ_=>?_
 obtain⟨n,rfl⟩:=U2 a;rw[Nat.testBit_eq_decide_div_mod_eq,C0,R2]
 norm_cast
theorem DA{b i:Int}(f:0<=b/\b<=65535)(a:0<=i/\i<=15)(j:Nat):(wt b i).toNat.testBit j=(b.toNat.testBit j&&decide (i.toNat≠j)):=by
 have g:(2:Int) ^ i.toNat<=32768/\0<=(2:Int) ^ i.toNat:=by
  obtain⟨n,rfl⟩:=U2 a.1;rw[R2];have:(2:Nat) ^ n<=2 ^ 15:=Nat.pow_le_pow_right (by decide) ω;have c:((2 ^ n:Nat):Int)=(2:Int) ^ n:=Int.natCast_pow 2 n;rw[<-c];exact⟨Int.ofNat_le.2 this,Int.natCast_nonneg _⟩
 unfold wt;rw[R2,BitVec.testBit_toNat,BitVec.getLsbD_and,BitVec.getLsbD_not,<-BitVec.testBit_toNat,<-BitVec.testBit_toNat,ma ω,ma ω];rw[show((2:Int) ^ i.toNat).toNat=2 ^ i.toNat by rw[show(2:Int) ^ i.toNat=((2 ^ i.toNat:Nat):Int) by norm_cast,R2],Nat.testBit_two_pow];by_cases d:j<64
 ·rw[show decide (j<IntKind.i64.bits)=true from O0 d,Bool.true_and]
  congr 1
  by_cases e:i.toNat=j
  ·rw[O0 e,R0 (λx=>x e)];rfl
  ·rw[R0 e,O0 e];rfl
 ·rw[Nat.testBit_lt_two_pow (x:=b.toNat) (i:=j) (R3 (show b.toNat<2 ^ 16 by omega) (Nat.pow_le_pow_right (by decide) ω))]
  rfl
theorem AD{b i:Int}(a:0<=b/\b<=65535):0<=wt b i/\wt b i<=b:=by
 unfold wt;refine⟨ω,?_⟩;rw[BitVec.toNat_and,ma ω];have:=Nat.and_le_left (n:=b.toNat) (m:=(~~~BitVec.ofInt IntKind.i64.bits (2 ^ i.toNat)).toNat);omega
theorem LC{b i:Int}(a:0<=b/\b<=65535)(h:0<=i/\i<=15)(j:Int):aX (wt b i) j=true↔aX b j=true/\j≠i:=by
 rw[fY,fY,DA a h,I0,C0];have:=AD (i:=i) a;constructor
 ·rintro⟨k,c,d,f,g⟩;exact⟨⟨a.1,c,d,f⟩,λe=>g (by rw[e])⟩
 ·rintro⟨⟨k,c,d,f⟩,g⟩;exact⟨this.1,c,d,f,λe=>g ω⟩
theorem dU{s:au}(h:bg s=true):0<=s.Bits/\s.Bits<=65535:=by
 unfold bg at h;simp only[C0]at h;have:=E1 s.Class;omega
theorem G7{s:au}(h:bg s=true)(i:Int):bg (jx s i)=true:=by
 have b:=dU h;have a:=AD (i:=i) b;unfold bg at h;rw[C0]at h;obtain⟨c,d,e,f,j,g⟩:=h;exact O0 ⟨c,d,e,f,a.1,R4 a.2 g⟩
theorem sg{s u:au}(a:bg s=true){i:Int}(b:0<=i/\i<=15)(h:meshable s u=true):meshable (jx s i) u=true:=by
 unfold meshable at h |-;simp only[I0,C0]at h |-;obtain⟨⟨c,d⟩,e,f,g⟩:=h;refine⟨⟨G7 c i,d⟩,e,f,?_⟩;refine Nat.eq_of_testBit_eq λj=>?_
 have:=U0 (λn=>Nat.testBit n j) g;simp only[Nat.testBit_and,Nat.zero_testBit,jx,DA (dU a) b]at this |-;cases k:s.Bits.toNat.testBit j<;>cases l:u.Bits.toNat.testBit j<;>rw[k,l]at this<;>simp_all
def dt(s:au)(a:Int):Int:=(a - 16*s.Page) / csz s.Class
theorem sN{s:au}(h:bg s=true){a:Int}(c:16*s.Page<=a/\a<=16*s.Page+15):0<=dt s a/\dt s a<=15:=by
 have b:=aF h;unfold dt;rcases cx ⟨b.2.2.1,b.2.2.2⟩ with e|e|e|e<;>rw[e]<;>omega
theorem E2{s:au}(h:bg s=true){a b:Int}(d:(a - 16*s.Page) % csz s.Class=0)(f:(b - 16*s.Page) % csz s.Class=0)(e:dt s a=dt s b):a=b:=by
 have c:=aF h;unfold dt at e;rcases cx ⟨c.2.2.1,c.2.2.2⟩ with z|z|z|z<;>rw[z]at d f e<;>omega
theorem yO{s:au}(h:bg s=true){a:Int}(k:eL s a)(b:Int):eL (jx s (dt s a)) b↔eL s b/\b≠a:=by
 obtain⟨l,n,o,p⟩:=k;have d:=sN h ⟨l,n⟩;unfold eL;simp only[jx];rw[LC (dU h) d];constructor
 ·rintro⟨f,g,c,i,j⟩
  exact⟨⟨f,g,c,i⟩,λe=>j (by rw[e];rfl)⟩
 ·rintro⟨⟨f,g,c,i⟩,j⟩
  exact⟨f,g,c,i,λe=>j (E2 h c o e)⟩
theorem eY{α:Type}[Inhabited α]{xs:List α}{i:Nat}{y z:α}(h:z∈xs.set i y):z=y\/∃j,j<xs.length/\j≠i/\nth xs j=z:=by
 obtain⟨j,a,rfl⟩:=List.mem_iff_getElem.1 h;rw[List.getElem_set];by_cases e:i=j
 ·subst e;simp
 ·rw[C8 e]
  rw[I1]at a;exact .inr ⟨j,a,λx=>e x.symm,bu (Z1 a)⟩
theorem jh{α:Type}[Inhabited α]{xs:List α}{i j:Nat}(y:α)(a:j<xs.length)(e:j≠i):nth xs j∈xs.set i y:=by
 have:nth (xs.set i y) j=nth xs j:=by rw[ci,C8 λx=>e x.1.symm]
 rw[<-this];exact am (by rw[I1];exact a)
theorem iv{α:Type}{xs:List α}{i:Nat}(y:α)(a:i<xs.length):y∈xs.set i y:=by
 refine List.mem_iff_getElem.2 ⟨i,by rw[I1];exact a,by simp⟩
theorem KY{sp:List au}{i:Nat}(k:Int)(a:i<sp.length):(sp.set i (jx (nth sp i) k)).map (·.Page)=sp.map (·.Page):=by
 rw[O5];refine List.ext_getElem (by simp) λj b c=>?_
 rw[List.getElem_set];split
 ·rename_i e;subst e
  rw[List.getElem_map];show(nth sp i).Page=_;rw[bu (Z1 a)]
 ·rfl
theorem iX.set{sp:List au}{la:List ax}(q:qx sp la){i:Nat}(k:i<sp.length){a:Int}(l:eL (nth sp i) a)(b c:Int):iX (sp.set i (jx (nth sp i) (dt (nth sp i) a))) b c↔iX sp b c/\b≠a:=by
 have g:=q.sok _ (am k);constructor
 ·rintro⟨s,o,d,h⟩
  rcases eY o with rfl|⟨j,n,r,rfl⟩
  ·have:=(yO g l b).1 d
   exact⟨⟨_,am k,this.1,h⟩,this.2⟩
  ·refine⟨⟨_,am n,d,h⟩,λe=>?_⟩
   subst e;have:=gp (f:=(·.Page)) q.nd k n (by have t:=l.1;have u:=l.2.1;have w:=d.1;have y:=d.2.1;omega);omega
 ·rintro⟨⟨s,o,d,h⟩,p⟩
  obtain⟨j,n,rfl⟩:=bf o;by_cases e:j=i
  ·subst e
   exact⟨_,iv _ k,(yO g l b).2 ⟨d,p⟩,h⟩
  ·exact⟨_,jh _ n e,d,h⟩
theorem bn.give{h:ab}{E:List Int}{a:Int}{i:Nat}(d:bn h (a::E))(J:i<h.Spans.length)(K:eL (nth h.Spans i) a):bn {h with Spans:=h.Spans.set i (jx (nth h.Spans i) (dt (nth h.Spans i) a))} E:=by
 have G:=d.L;have Q:=G.sok _ (am J);have M:=sN Q ⟨K.1,K.2.1⟩;have f:=λb c=>iX.set G J K b c
 have A:=KY (dt (nth h.Spans i) a) J;generalize R:h.Spans.set i (jx (nth h.Spans i) (dt (nth h.Spans i) a))=sp at f A;have q:pgs sp h.Larges=pgs h.Spans h.Larges:=by unfold pgs;rw[A]
 have B:=d.nd;rw[List.cons_append]at B;obtain⟨S,B⟩:=List.nodup_cons.1 B;have r:∀b,b∈E++holders h->b≠a:=λb g e=>S (by rw[<-e];exact g)
 have C:∀b,b∈holders h->b≠a:=λb g=>r b (W2.2 (.inr g))
 have T:∀l∈h.Larges,16*l.Page≠a:=λl O e=>(wN G O).1 _ (am J) (by have a1:=K.1;have a2:=K.2.1;omega)
 have t:∀s∈sp,∃u∈h.Spans,u.Page=s.Page/\(s=u\/s=jx u (dt (nth h.Spans i) a)):=λs p=>by
  rw[<-R]at p;rcases eY p with rfl|⟨j,hj,hji,rfl⟩
  ·exact⟨_,am J,rfl,.inr rfl⟩
  ·exact⟨_,am hj,rfl,.inl rfl⟩
 have N:∀u∈h.Spans,∃s∈sp,s.Page=u.Page:=λu y=>by
  have:u.Page∈sp.map (·.Page):=by rw[A];exact Z3.2 ⟨u,y,rfl⟩
  obtain⟨s,p,e⟩:=Z3.1 this;exact⟨s,p,e⟩
 exact {d with
   lay:=by
     obtain⟨l1,l2,l3⟩:=di d.lay;unfold bj;simp only[I0,C0];refine⟨⟨V3.2 λs p=>?_,l2⟩,by rw[q];exact l3⟩;obtain⟨u,y,-,rfl|rfl⟩:=t s p
     · exact G.sok _ y
     · exact G7 (G.sok _ y) _
   srs:=by
     have n:(h.Spans.map (·.Page)).Pairwise (λa b=>a<b):=List.pairwise_map.2 d.srs;rw[<-A]at n;exact List.pairwise_map.1 n
   pg:=⟨d.pg.one,by rw[q];exact d.pg.bnd,by rw[q];exact d.pg.own,d.pg.fre,λs p u y r hf=>by
     obtain⟨U,D,Z,V⟩:=t s p;obtain⟨P,F,eu,W⟩:=t u y;have n:=d.pg.mesh U D P F (by rw[Z,eu];exact r) (by rw[Z,eu];exact hf);have w:meshable s P=true:=by
       rcases V with rfl|rfl
       · exact n
       · exact sg (G.sok _ D) M n
     rcases W with rfl|rfl
     · exact w
     · rw[iO]at w |-;exact sg (G.sok _ F) M w⟩
   oow:=λo ho=>by
     have X:o.Addr≠a:=C _ (by unfold holders;simp only[W2];exact .inl (.inl (.inl (Z3.2 ⟨o,ho,rfl⟩))));rcases d.oow o ho with⟨s,p,n,w⟩|n
     · obtain⟨u,y,Y,H⟩:=(f o.Addr (aM o.Size)).2 ⟨⟨s,p,n,.inr w⟩,X⟩
       refine .inl ⟨u,y,Y,?_⟩;rcases H with H|H
       · have:=aF (G.sok _ p);omega
       · exact H
     · exact .inr n
   hca:=λc hc k hk b g=>(f b k).2 ⟨d.hca c hc k hk b g,C b (by
     unfold holders cq;simp only[W2];exact .inl (.inl (.inr (List.mem_flatMap.2 ⟨c,hc,List.mem_flatten.2 ⟨_,am hk,g⟩⟩))))⟩
   hqu:=λx hx=>(f _ _).2 ⟨d.hqu x hx,C _ (by unfold holders;simp only[W2];exact .inl (.inr (Z3.2 ⟨x,hx,rfl⟩)))⟩
   hfl:=λb g=>(f _ _).2 ⟨d.hfl b g,C _ (by unfold holders;simp only[W2];exact .inr g)⟩
   hin:=λb g=>(f _ _).2 ⟨d.hin b (X4 _ g),r b (W2.2 (.inl g))⟩
   nd:=B
   mem:=λb=>by
     show b∈E++holders h↔lK sp h.Larges b;have n:=d.mem b;rw[List.cons_append,List.mem_cons]at n;unfold lK at n |-;rw[f];constructor
     · intro g
       rcases n.1 (.inr g) with w|w
       · exact .inl ⟨w,r b g⟩
       · exact .inr w
     · rintro(⟨w,h3⟩|⟨l,O,rfl⟩)
       · exact(n.2 (.inl w)).resolve_left h3
       · exact(n.2 (.inr ⟨l,O,rfl⟩)).resolve_left (T l O)
   job:=λhm=>by
     obtain⟨j1,⟨s,p,e1⟩,⟨u,y,e2⟩⟩:=d.job hm;obtain⟨U,D,Y⟩:=N s p;obtain⟨P,F,H⟩:=N u y;exact⟨j1,⟨U,D,Y.trans e1⟩,⟨P,F,H.trans e2⟩⟩}
def d3(k:af)(p:Int):Nat->af
 | 0=>k
 | n+1=>cb (d3 k p n) (p+n)
theorem jI{k:af}(h:aB k=true)(p:Int):∀n,aB (d3 k p n)=true
 | 0=>h
 | n+1=>wl _ (jI h p n)
theorem gx(k:af)(p:Int):∀n,(d3 k p n).Machine.Table.Entries.length=k.Machine.Table.Entries.length/\(d3 k p n).Calls=k.Calls/\(d3 k p n).Refuse=k.Refuse
 | 0=>⟨rfl,rfl,rfl⟩
 | n+1=>by
  obtain⟨a,b,c⟩:=gx k p n;obtain⟨d,e,f⟩:=qd (d3 k p n) (p+n);exact⟨d.trans a,e.trans b,f.trans c⟩
theorem vK{k:af}(h:aB k=true){p:Int}(d:0<=p/\p<k.Machine.Table.Entries.length)(q:Nat):nth (cb k p).Machine.Table.Entries q=if(q:Int)=p then⟨0,0⟩ else nth k.Machine.Table.Entries q:=by
 have g:ar k.Machine.Table p=nth k.Machine.Table.Entries p.toNat:=by unfold ar;rw[C9 d]
 unfold cb;split
 ·rename_i a
  split
  ·rename_i i
   rw[g]at a;have b:=(bx.1 (aC.1 h).2.2.1).1 p.toNat ω;unfold kb at b;rw[C0]at b;have c:=b.2.2.1 a;rw[show q=p.toNat by omega];generalize nth k.Machine.Table.Entries p.toNat=e at a c;obtain⟨m,f⟩:=e;simp only at a c;rw[a,c]
  ·rfl
 ·rw[(oN _ _).1]
  simp only[j7,ci];by_cases e:(q:Int)=p
  ·rw[C9 ⟨ω,ω⟩,C9 e]
  ·rw[C8 λx=>e ω,C8 e]
theorem lr{k:af}(h:aB k=true){p:Int}(b:0<=p):∀n:Nat,p+n<=k.Machine.Table.Entries.length->∀q:Nat,nth (d3 k p n).Machine.Table.Entries q=if p<=q/\(q:Int)<p+n then⟨0,0⟩ else nth k.Machine.Table.Entries q
 | 0,_,q=>by rw[C8 ω];rfl
 | n+1,f,q=>by
  have c:=lr h b n ω q;have d:=vK (jI h p n) (p:=p+n) ⟨ω,by rw[(gx k p n).1];omega⟩ q;show nth (cb (d3 k p n) (p+n)).Machine.Table.Entries q=_;rw[d,c];by_cases e:(q:Int)=p+n
  ·rw[C9 e,C9 ⟨ω,ω⟩]
  ·rw[C8 e]
   by_cases a:p<=q/\(q:Int)<p+n
   ·rw[C9 a,C9 ⟨ω,ω⟩]
   ·rw[C8 a,C8 ω]
theorem BE{α β:Type}(f:α->List β){xs c:List α}(h:xs.Sublist c):(xs.flatMap f).Sublist (c.flatMap f):=by
 induction h with
 | slnil=>exact List.Sublist.refl _
 | cons a _ b=>rw[W5];exact b.trans (List.sublist_append_right ..)
 | cons_cons a _ b=>rw[W5,W5];exact List.Sublist.append (List.Sublist.refl _) b
theorem vq{h:ab}{E:List Int}(c:bn h E){sp:List au}{la:List ax}{p:Int}{n:Nat}(Y:1<=n)(w:sp.Sublist h.Spans)(D:la.Sublist h.Larges)(j:∀q:Int,p<=q->q<p+n->q∈pgs h.Spans h.Larges)(K:0<=p)(F:∀q,q∈pgs sp la↔q∈pgs h.Spans h.Larges/\¬(p<=q/\q<p+n)) :
  ∃o,bU (dQ h) h.Free ⟨p,n⟩ = some o/\aB (d3 h.Kernel p n)=true/\bw ((d3 h.Kernel p n).Machine.Table.Entries.length:Nat) o=true/\bj sp la=true/\Pg (d3 h.Kernel p n).Machine.Table o sp la:=by
 have t:=c.pg.bnd _ (j (p+n - 1) ω ω);have a:=(gx h.Kernel p n).1;have y:p+n<=h.Kernel.Machine.Table.Entries.length:=by unfold tbl at t;omega
 have g:=lr c.ker K n y;obtain⟨o,Q,R,S⟩:=tB (r:=⟨p,n⟩) c.rng ⟨K,by simp only;omega,y⟩ λq M N=>by
  simp only at M N;obtain⟨m,rfl⟩:=U2 (show 0<=q by omega);have A:m<(tbl h).Entries.length:=by unfold tbl;omega
  exact(c.pg.fre m A).1 ((c.pg.own m A).2 (j _ M N))
 refine⟨o,Q,jI c.ker p n,by rw[a];exact R,?_,?_⟩
 ·obtain⟨T,U,V⟩:=di c.lay
  unfold bj;simp only[I0,C0];exact⟨⟨V3.2 λs d=>V3.1 T s (w.subset d),V3.2 λl d=>V3.1 U l (D.subset d)⟩,V.sublist ((w.map _).append (BE _ D))⟩
 ·have i:∀q:Nat,(q:Int)∈pgs sp la->nth (d3 h.Kernel p n).Machine.Table.Entries q=nth (tbl h).Entries q:=λq f=>by rw[g,C8 ((F q).1 f).2];rfl
  have b:∀q:Nat,(nth (d3 h.Kernel p n).Machine.Table.Entries q).Mode≠0↔(nth (tbl h).Entries q).Mode≠0/\¬(p<=q/\(q:Int)<p+n):=λq=>by
   rw[g];by_cases e:p<=q/\(q:Int)<p+n
   ·rw[C9 e];exact⟨λx=>absurd rfl x,λx=>absurd e x.2⟩
   ·rw[C8 e];exact⟨λx=>⟨x,e⟩,λx=>x.1⟩
  refine⟨λl d q f r O G B=>?_,λq f=>?_,λq f=>?_,λq f=>?_,λs d u H J P=>?_⟩
  ·have C:=(b r).1 G
   rw[a]at O;rw[i q (fA d f),g,C8 C.2]at B;exact c.pg.one l (D.subset d) q f r O C.1 B
  ·rw[a];exact c.pg.bnd q ((F q).1 f).1
  ·rw[a]at f
   rw[b,F,c.pg.own q f]
  ·rw[a]at f
   rw[b,S,c.pg.fre q f];simp only
   grind
  ·have k:∀s∈sp,0<=s.Page:=λs d=>(aF (c.L.sok s (w.subset d))).1
   have W:=i s.Page.toNat (by rw[Int.toNat_of_nonneg (k s d)];exact d2 d);have X:=i u.Page.toNat (by rw[Int.toNat_of_nonneg (k u H)];exact d2 H);rw[W,X]at P;exact c.pg.mesh s (w.subset d) u (w.subset H) J P
theorem dN{α:Type}[Inhabited α]{xs:List α}{k:Nat}{z:α} : z∈dele xs k↔∃j,j<xs.length/\j≠k/\nth xs j=z:=by
 unfold dele;rw[W2];constructor
 ·rintro(h|h)
  ·obtain⟨j,a,rfl⟩:=List.mem_take_iff_getElem.1 h
   exact⟨j,ω,ω,bu (Z1 ω)⟩
  ·obtain⟨j,a,rfl⟩:=List.mem_drop_iff_getElem.1 h
   exact⟨k+1+j,ω,ω,bu (Z1 ω)⟩
 ·rintro⟨j,a,b,rfl⟩
  rw[bu (Z1 a)];by_cases e:j<k
  ·exact .inl (List.mem_take_iff_getElem.2 ⟨j,ω,rfl⟩)
  ·refine .inr (List.mem_drop_iff_getElem.2 ⟨j - (k+1),ω,?_⟩)
   congr 1;omega
theorem oH{sp:List au}{la:List ax}{q:Int} : q∈pgs sp la↔(∃s∈sp,s.Page=q)\/∃l∈la,q∈lpgs l l.Pages.toNat:=by
 unfold pgs;simp only[W2,Z3,List.mem_flatMap]
theorem zC{s:au}(h:s.Bits=0)(a:Int):¬eL s a:=by
 rintro⟨-,-,-,b⟩
 rw[fY,h]at b;simp at b
theorem bn.giveSpan{h:ab}{E:List Int}{i:Nat}(g:bn h E)(B:i<h.Spans.length)(y:(nth h.Spans i).Bits=0)(W:h.Meshing=true->(nth h.Spans i).Page≠h.Job.Plan.Keep/\(nth h.Spans i).Page≠h.Job.Plan.Move) :
  ∃o,bU (dQ h) h.Free ⟨(nth h.Spans i).Page,1⟩ = some o/\bn {h with Kernel:=cb h.Kernel (nth h.Spans i).Page,Spans:=dele h.Spans i,Free:=o} E:=by
 have F:=g.L;have G:=aF (F.sok _ (am B));have A:∀q,q∈pgs (dele h.Spans i) h.Larges↔q∈pgs h.Spans h.Larges/\¬((nth h.Spans i).Page<=q/\q<(nth h.Spans i).Page+(1:Nat)):=λq=>by
  rw[oH,oH];constructor
  ·rintro(⟨s,r,rfl⟩|⟨l,C,D⟩)
   ·obtain⟨j,d,H,rfl⟩:=dN.1 r
    refine⟨.inl ⟨_,am d,rfl⟩,λe=>H (gp (f:=(·.Page)) F.nd d B ω)⟩
   ·refine⟨.inr ⟨l,C,D⟩,λe=>?_⟩
    obtain⟨k,J,rfl⟩:=dd.1 D;exact F.dis _ (am B) l C k J ω
  ·rintro⟨⟨s,r,rfl⟩|⟨l,C,D⟩,K⟩
   ·obtain⟨j,d,rfl⟩:=bf r
    refine .inl ⟨_,dN.2 ⟨j,d,λe=>K (by subst e;omega),rfl⟩,rfl⟩
   ·exact .inr ⟨l,C,D⟩
 obtain⟨o,X,Q,R,Y,S⟩:=vq g (sp:=dele h.Spans i) (la:=h.Larges) (p:=(nth h.Spans i).Page) (n:=1) (X2 _) (eA ..) (List.Sublist.refl _) (λq q1 q2=>by rw[show q=(nth h.Spans i).Page by omega];exact d2 (am B)) G.1 A;have M:d3 h.Kernel (nth h.Spans i).Page 1=cb h.Kernel (nth h.Spans i).Page:=by show cb h.Kernel ((nth h.Spans i).Page+((0:Nat):Int))=_;rw[show(nth h.Spans i).Page+((0:Nat):Int)=(nth h.Spans i).Page by omega]
 rw[M]at Q R S;have t:∀b c,iX (dele h.Spans i) b c↔iX h.Spans b c:=λb c=>by
  constructor
  ·rintro⟨s,r,w⟩;exact⟨s,(eA ..).subset r,w⟩
  ·rintro⟨s,r,w,N⟩
   obtain⟨j,d,rfl⟩:=bf r;exact⟨_,dN.2 ⟨j,d,λe=>zC y b (by rw[<-e];exact w),rfl⟩,w,N⟩
 refine⟨o,X,{g with
   ker:=Q
   rng:=R
   lay:=Y
   srs:=g.srs.sublist (eA ..)
   pg:=S
   oow:=λZ ho=>?_
   hca:=λc G k J b y=>(t b k).2 (g.hca c G k J b y)
   hqu:=λx hx=>(t _ _).2 (g.hqu x hx)
   hfl:=λb y=>(t _ _).2 (g.hfl b y)
   hin:=λb y=>(t _ _).2 (g.hin b y)
   mem:=λb=>(g.mem b).trans ?_
   job:=λT=>?_}⟩
 ·rcases g.oow Z ho with⟨s,r,w,N⟩|w
  ·obtain⟨j,d,rfl⟩:=bf r
   exact .inl ⟨_,dN.2 ⟨j,d,λe=>zC y _ (by rw[<-e];exact w),rfl⟩,w,N⟩
  ·exact .inr w
 ·unfold lK;rw[t]
 ·obtain⟨j1,⟨s,r,U⟩,⟨u,M,V⟩⟩:=g.job T
  obtain⟨n1,n2⟩:=W T;obtain⟨a,O,rfl⟩:=bf r;obtain⟨b,P,rfl⟩:=bf M;exact⟨j1,⟨_,dN.2 ⟨a,O,λe=>n1 (by rw[<-e];exact U),rfl⟩,U⟩,⟨_,dN.2 ⟨b,P,λe=>n2 (by rw[<-e];exact V),rfl⟩,V⟩⟩
theorem bn.dropL{h:ab}{E:List Int}{i k:Nat}(d:bn h E)(S:i<h.Objs.length)(y:k<h.Larges.length)(G:(nth h.Objs i).Addr=16*(nth h.Larges k).Page) :
  ∃o,bU (dQ h) h.Free ⟨(nth h.Larges k).Page,(nth h.Larges k).Pages⟩ = some o/\bn {h with Kernel:=d3 h.Kernel (nth h.Larges k).Page (nth h.Larges k).Pages.toNat,Larges:=dele h.Larges k,Free:=o,Objs:=dele h.Objs i} E:=by
 have A:=d.L;have T:=aU (A.lok _ (am y));have C:∀q,q∈pgs h.Spans (dele h.Larges k)↔q∈pgs h.Spans h.Larges/\¬((nth h.Larges k).Page<=q/\q<(nth h.Larges k).Page+((nth h.Larges k).Pages.toNat:Nat)):=λq=>by
  rw[oH,oH];constructor
  ·rintro(⟨s,B,rfl⟩|⟨l,f,D⟩)
   ·refine⟨.inl ⟨s,B,rfl⟩,λe=>A.dis s B _ (am y) (s.Page - (nth h.Larges k).Page).toNat ω ω⟩
   ·obtain⟨j,c,t,rfl⟩:=dN.1 f
    refine⟨.inr ⟨_,am c,D⟩,λe=>?_⟩;obtain⟨m,N,rfl⟩:=dd.1 D;exact t (A.one j k c y m ((nth h.Larges j).Page+(m:Int) - (nth h.Larges k).Page).toNat N ω ω)
  ·rintro⟨⟨s,B,rfl⟩|⟨l,f,D⟩,g⟩
   ·exact .inl ⟨s,B,rfl⟩
   ·obtain⟨j,c,rfl⟩:=bf f
    refine .inr ⟨_,dN.2 ⟨j,c,λe=>g ?_,rfl⟩,D⟩;subst e;obtain⟨m,N,rfl⟩:=dd.1 D;omega
 obtain⟨o,O,U,V,W,X⟩:=vq d (sp:=h.Spans) (la:=dele h.Larges k) (p:=(nth h.Larges k).Page) (n:=(nth h.Larges k).Pages.toNat) ω (List.Sublist.refl _) (eA ..) (λq q1 q2=>fA (am y) (dd.2 ⟨(q - (nth h.Larges k).Page).toNat,ω,ω⟩)) T.2.2.1 C;rw[Int.toNat_of_nonneg ω]at O;have P:(E++holders h).Perm ((nth h.Objs i).Addr::(E++holders {h with Objs:=dele h.Objs i})):=by
  have Y:=(oA S).map (·.Addr);refine List.perm_iff_count.2 λa=>?_
  have r:=Y.count_eq a;simp only[C5,List.count_cons]at r;simp only[holders,cq,I5,List.count_cons];omega
 have u:=P.nodup_iff.1 d.nd;obtain⟨K,u⟩:=List.nodup_cons.1 u;have w:∀b,(b=(nth h.Objs i).Addr\/b∈E++holders {h with Objs:=dele h.Objs i})↔lK h.Spans h.Larges b:=λb=>by rw[<-d.mem b,P.mem_iff,List.mem_cons]
 have g:∀b,b∈E++holders {h with Objs:=dele h.Objs i}->b≠(nth h.Objs i).Addr:=λb H e=>K (by rw[<-e];exact H)
 refine⟨o,O,{d with
   ker:=U
   rng:=V
   lay:=W
   srl:=d.srl.sublist (eA ..)
   pg:=X
   osr:=d.osr.sublist (eA ..)
   onu:=λF J=>d.onu F ((eA ..).subset J)
   oid:=d.oid.sublist ((eA ..).map _)
   oow:=λF J=>?_
   nd:=u
   mem:=λb=>?_}⟩
 ·rcases d.oow F ((eA ..).subset J) with r|⟨l,f,Q,Z⟩
  ·exact .inl r
  ·obtain⟨j,c,rfl⟩:=bf f
   refine .inr ⟨_,dN.2 ⟨j,c,λe=>?_,rfl⟩,Q,Z⟩;subst e;refine g F.Addr (W2.2 (.inr ?_)) (by rw[G];exact Q);unfold holders;simp only[W2];exact .inl (.inl (.inl (Z3.2 ⟨F,J,rfl⟩)))
 ·constructor
  ·intro H
   rcases(w b).1 (.inr H) with r|⟨l,f,rfl⟩
   ·exact .inl r
   ·obtain⟨j,c,rfl⟩:=bf f
    exact .inr ⟨_,dN.2 ⟨j,c,λe=>g _ H (by rw[G,e]),rfl⟩,rfl⟩
  ·rintro(r|⟨l,f,rfl⟩)
   ·refine((w b).2 (.inl r)).resolve_left λe=>?_
    obtain⟨s,B,⟨M,R,-⟩,-⟩:=r;exact(wN A (am y)).1 s B (by rw[e,G]at M R;exact⟨M,R⟩)
   ·obtain⟨j,c,t,rfl⟩:=dN.1 f
    refine((w _).2 (.inr ⟨_,am c,rfl⟩)).resolve_left λe=>t ?_
    have M:=aU (A.lok _ (am c));rw[G]at e;exact A.one j k c y 0 0 ω ω ω
def eZ(h:ab)(p:Int):Bool:=h.Meshing&&(decide (p=h.Job.Plan.Keep) || decide (p=h.Job.Plan.Move))
def giveP(h:ab)(i:Nat):ab:={h with Kernel:=cb h.Kernel (nth h.Spans i).Page,Spans:=dele h.Spans i,Free:=(bU (dQ h) h.Free ⟨(nth h.Spans i).Page,1⟩).getD h.Free}
def clrS(h:ab)(i:Nat)(a:Int):ab:={h with Spans:=h.Spans.set i (jx (nth h.Spans i) (dt (nth h.Spans i) a))}
def freeS(h:ab)(i:Nat)(a:Int):ab:=if(jx (nth h.Spans i) (dt (nth h.Spans i) a)).Bits=0/\eZ h (nth h.Spans i).Page=false then giveP (clrS h i a) i else clrS h i a
def qV(h:ab)(a:Int):Nat:=(fV h (a / 16)).toNat
def freeA(h:ab)(a:Int):ab:=freeS h (qV h a) a
def cput(c:aA)(k a:Int):Option aA:=if bo c=true/\0<=k/\k<=3/\bo (js c k.toNat a)=true then some (js c k.toNat a) else none
def recyc(t:Nat)(h:ab)(a:Int):ab:=match cput (nth h.Caches t) (nth h.Spans (qV h a)).Class a with
 | some c=>{h with Caches:=h.Caches.set t c}
 | none=>freeA h a
theorem bn.at{h:ab}{E:List Int}{a:Int}(e:bn h E)(f:iX h.Spans a (-1)):qV h a<h.Spans.length/\eL (nth h.Spans (qV h a)) a/\fV h (a / 16)=(qV h a:Nat):=by
 obtain⟨s,g,c,-⟩:=f;obtain⟨i,d,rfl⟩:=bf g;have j:(nth h.Spans i).Page=a / 16:=by have l:=c.1;have n:=c.2.1;omega
 have b:=sH e.L d;rw[j]at b;have k:qV h a=i:=by unfold qV;rw[b];rfl
 rw[k];exact⟨d,c,b⟩
theorem JC{h:ab}{p:Int}(e:eZ h p=false)(a:h.Meshing=true):p≠h.Job.Plan.Keep/\p≠h.Job.Plan.Move:=by
 unfold eZ at e;rw[a]at e;simpa using e
theorem bn.freeS{h:ab}{E:List Int}{a:Int}{i:Nat}(f:bn h (a::E))(b:i<h.Spans.length)(g:eL (nth h.Spans i) a):bn (freeS h i a) E:=by
 have c:=f.give b g;unfold Ab.freeS;split
 ·rename_i e
  have d:nth (clrS h i a).Spans i=jx (nth h.Spans i) (dt (nth h.Spans i) a):=by unfold clrS;simp only[ci,true_and];rw[C9 b]
  obtain⟨o,j,k⟩:=bn.giveSpan (h:=clrS h i a) c (i:=i) (by unfold clrS;simp only[I1];exact b) (by rw[d];exact e.1) (λl=>by rw[d];exact JC e.2 l);unfold giveP;rw[j];exact k
 ·exact c
theorem bn.freeA{h:ab}{E:List Int}{a:Int}(b:bn h (a::E)):bn (freeA h a) E:=by
 obtain⟨c,d,-⟩:=b.at (b.hin a (R1 ..));exact b.freeS c d
theorem tK{c:aA}(h:bo c=true):c.Lists.length=4:=by
 unfold bo at h;simp only[I0,C0]at h;exact h.1
theorem bn.recyc{h:ab}{E:List Int}{a:Int}{t:Nat}(b:bn h (a::E))(f:t<h.Caches.length):bn (recyc t h a) E:=by
 obtain⟨g,i,-⟩:=b.at (b.hin a (R1 ..));unfold Ab.recyc;split
 ·rename_i c d
  unfold cput at d;split at d
  ·rename_i e
   cases d;obtain⟨j,l,n,k⟩:=e;exact b.put f (by rw[tK j];omega) ⟨_,am g,i,.inr ω⟩ k
  ·cases d
 ·exact b.freeA
theorem vY(h:ab)(i:Nat)(a:Int):(freeS h i a).Caches=h.Caches/\(freeS h i a).Objs=h.Objs/\(freeS h i a).Kernel.Calls=h.Kernel.Calls/\(freeS h i a).Mail=h.Mail/\(freeS h i a).Job=h.Job/\(freeS h i a).Clock=h.Clock/\(freeS h i a).Quar=h.Quar/\(freeS h i a).Kernel.Refuse=h.Kernel.Refuse:=by
 unfold freeS;split
 ·obtain⟨-,b,c⟩:=qd (clrS h i a).Kernel (nth (clrS h i a).Spans i).Page
  exact⟨rfl,rfl,b,rfl,rfl,rfl,rfl,c⟩
 ·exact⟨rfl,rfl,rfl,rfl,rfl,rfl,rfl,rfl⟩
theorem qo(t:Nat)(h:ab)(a:Int):(recyc t h a).Caches.length=h.Caches.length/\(recyc t h a).Objs=h.Objs/\(recyc t h a).Kernel.Calls=h.Kernel.Calls/\(recyc t h a).Mail=h.Mail/\(recyc t h a).Job=h.Job/\(recyc t h a).Clock=h.Clock/\(recyc t h a).Quar=h.Quar/\(recyc t h a).Kernel.Refuse=h.Kernel.Refuse:=by
 unfold recyc;split
 ·exact⟨I1 ..,rfl,rfl,rfl,rfl,rfl,rfl,rfl⟩
 ·obtain⟨b,c⟩:=vY h (qV h a) a
  exact⟨U0 _ b,c⟩
def recycs(t:Nat)(h:ab)(az:List Int):ab:=az.foldl (recyc t) h
theorem d4(t:Nat):∀(az:List Int)(h:ab),(recycs t h az).Caches.length=h.Caches.length/\(recycs t h az).Objs=h.Objs/\(recycs t h az).Kernel.Calls=h.Kernel.Calls/\(recycs t h az).Mail=h.Mail/\(recycs t h az).Job=h.Job/\(recycs t h az).Clock=h.Clock/\(recycs t h az).Quar=h.Quar/\(recycs t h az).Kernel.Refuse=h.Kernel.Refuse
 | [],h=>⟨rfl,rfl,rfl,rfl,rfl,rfl,rfl,rfl⟩
 | a::az,h=>by
  obtain⟨b,c,d,e,f,g,i,j⟩:=d4 t az (recyc t h a);obtain⟨k,l,n,o,p,q,r,u⟩:=qo t h a;exact⟨b.trans k,c.trans l,d.trans n,e.trans o,f.trans p,g.trans q,i.trans r,j.trans u⟩
theorem bn.recycs{t:Nat}{E:List Int} : ∀{az:List Int}{h:ab},bn h (az++E)->t<h.Caches.length->bn (recycs t h az) E
 | [],h,b,_=>b
 | a::az,h,b,c=>bn.recycs (az:=az) (h:=Ab.recyc t h a) (b.recyc c) (by rw[(qo t h a).1];exact c)
def qc(l:List aL):Int:=quarCells l l.length
def ij(room:Int):List aL->Nat
 | []=>0
 | x::xs=>if room<qc (x::xs) then ij room xs+1 else 0
def HB(q:bz)(x:aL):bz:=⟨q.Room,(q.Lst++[x]).drop (ij q.Room (q.Lst++[x]))⟩
def qK(q:bz)(x:aL):List aL:=(q.Lst++[x]).take (ij q.Room (q.Lst++[x]))
theorem w8(room:Int):∀l,ij room l<=l.length
 | []=>X2 _
 | x::xs=>by unfold ij;split;(have:=w8 room xs;simp only[List.length_cons];omega);omega
theorem u6{room:Int}(a:0<=room):∀l:List aL,qc (l.drop (ij room l))<=room
 | []=>a
 | x::xs=>by
  unfold ij;split
  ·exact u6 a xs
  ·rename_i h;show qc (x::xs)<=room;omega
theorem sS{room:Int} : ∀{l:List aL}{k:Nat},k<ij room l->room<qc (l.drop k)
 | [],k,h=>by cases h
 | x::xs,0,h=>by
  unfold ij at h;split at h
  ·assumption
  ·omega
 | x::xs,k+1,h=>by
  unfold ij at h;split at h
  ·exact sS (l:=xs) ω
  ·omega
theorem ix{q:bz} : fw q=true↔(∀x∈q.Lst,0<=x.Class/\x.Class<=3/\0<=x.Addr/\0<=x.Since)/\(q.Lst.Pairwise λa b=>a.Since<=b.Since)/\(q.Lst.map (·.Addr)).Nodup/\0<=q.Room/\q.Room<=500/\qc q.Lst<=q.Room:=by
 refine Iff.trans ?_ (and_congr Iff.rfl (and_congr (uI (λa b:Int=>a<=b) (λa b c=>R4) (λs:aL=>s.Since) q.Lst) (and_congr (yJ (λs:aL=>s.Addr) q.Lst) Iff.rfl)));unfold fw qc;simp only[I0,C0,ch,jL,Bool.not_eq_true',List.any_eq_false,d5];constructor
 ·rintro⟨e,f⟩
  refine⟨λx l=>?_,λi d=>(e i d).1.2.2.2.2,λi d=>(e i d).2,f⟩;obtain⟨i,d,rfl⟩:=bf l;obtain⟨⟨g,h,j,k,-⟩,-⟩:=e i d;exact⟨g,h,j,k⟩
 ·rintro⟨e,f,n,o⟩
  refine⟨λi d=>?_,o⟩;obtain⟨g,h,j,k⟩:=e _ (am d);exact⟨⟨g,h,j,k,f i d⟩,n i d⟩
theorem Np{q:bz}{x:aL}(h:fw q=true)(i:0<=x.Class/\x.Class<=3/\0<=x.Addr/\0<=x.Since)(j:∀y∈q.Lst,y.Since<=x.Since)(k:∀y∈q.Lst,y.Addr≠x.Addr):fw (HB q x)=true:=by
 obtain⟨l,n,o,g,p,r⟩:=ix.1 h;have c:(HB q x).Lst.Sublist (q.Lst++[x]):=List.drop_sublist ..;refine ix.2 ⟨λy d=>?_,List.Pairwise.sublist c ?_,List.Nodup.sublist (c.map _) ?_,g,p,u6 g _⟩
 ·rcases W2.1 (c.subset d) with d|d
  ·exact l y d
  ·rw[C1.1 d];exact i
 ·exact List.pairwise_append.2 ⟨n,List.pairwise_singleton ..,λa f b e=>by rw[C1.1 e];exact j a f⟩
 ·rw[v5]
  refine List.nodup_append.2 ⟨o,by simp,λa f b e=>?_⟩;obtain⟨y,d,rfl⟩:=Z3.1 f;simp only[C5,List.map_nil,C1]at e;rw[e];exact k y d
def iG(r:List Int)(o:Nat):Nat->List Int
 | 0=>r
 | n+1=>(iG r o n).set (o+n) 0
def ed(k:af)(a:Int):Nat:=(ar k.Machine.Table (a / 16)).Frame.toNat
def dY(k:af)(a:Int)(n:Nat):af:={k with Machine:=⟨⟨k.Machine.Frames.Cells.set (ed k a) (iG (nth k.Machine.Frames.Cells (ed k a)) (a % 16).toNat n),k.Machine.Frames.Used⟩,k.Machine.Table⟩}
theorem lI(r:List Int)(o:Nat):∀n,(iG r o n).length=r.length
 | 0=>rfl
 | n+1=>by unfold iG;rw[I1,lI r o n]
theorem yD{r:List Int}{o:Nat} : ∀{n:Nat}{v:Int},v∈iG r o n->v∈r\/v=0
 | 0,v,h=>.inl h
 | n+1,v,h=>by
  rcases U5 h with h|h
  ·exact yD h
  ·exact .inr h
theorem DM{k:af}(h:aB k=true)(a:Int)(n:Nat):aB (dY k a n)=true:=by
 obtain⟨g,i,l,o,p⟩:=aC.1 h;obtain⟨q,r,t,f⟩:=aY.1 i;refine aC.2 ⟨g,aY.2 ⟨?_,?_,?_,λj c=>?_⟩,l,o,p⟩
 ·simp only[dY,I1];exact q
 ·simp only[dY,I1];exact r
 ·simp only[dY,I1];exact t
 ·simp only[dY,I1]at c |-
  simp only[ci];split
  ·rename_i e
   have b:=f j c;unfold gX at b |-;simp only[I0,C0,V3]at b |-;rw[e.1]at *;refine⟨by rw[lI];exact b.1,λv d=>?_⟩;rcases yD d with d|rfl
   ·exact b.2 v d
   ·unfold iI;simp
  ·exact f j c
def tX(h:ab)(a:Int):Nat:=(h.Larges.findIdx? λl=>decide (l.Page*16=a)).getD 0
def freeL(h:ab)(i k:Nat):ab:={h with Kernel:=d3 h.Kernel (nth h.Larges k).Page (nth h.Larges k).Pages.toNat,Larges:=dele h.Larges k,Free:=(bU (dQ h) h.Free ⟨(nth h.Larges k).Page,(nth h.Larges k).Pages⟩).getD h.Free,Objs:=dele h.Objs i}
def gS(h:ab)(o:bm):aL:=⟨o.Addr,aM o.Size,h.Clock⟩
def inQuar(h:ab)(i:Nat):ab:={h with Kernel:=dY h.Kernel (nth h.Objs i).Addr (csz (aM (nth h.Objs i).Size)).toNat,Objs:=dele h.Objs i,Quar:=HB h.Quar (gS h (nth h.Objs i))}
def GG(h:ab)(t i:Nat):ab:=recycs t (inQuar h i) ((qK h.Quar (gS h (nth h.Objs i))).map (·.Addr))
def freeOb(h:ab)(t i:Nat):ab × Int:=
 if aM (nth h.Objs i).Size<0 then(freeL h i (tX h (nth h.Objs i).Addr),0)
 else if(ar (tbl h) ((nth h.Objs i).Addr / 16)).Mode=1 then(h,5)
 else(GG h t i,0)
theorem uy{h:ab}{l:ax}(d:l∈h.Larges){a:Int}(e:a=16*l.Page):tX h a<h.Larges.length/\a=16*(nth h.Larges (tX h a)).Page/\(∀j,j<tX h a->(nth h.Larges j).Page*16≠a)/\h.Larges.findIdx? (λl=>decide (l.Page*16=a))=some (tX h a):=by
 cases b:h.Larges.findIdx? λl=>decide (l.Page*16=a) with
 | none=>
  have:=List.findIdx?_eq_none_iff.1 b l d;rw[C4]at this;omega
 | some k=>
  obtain⟨c,f,g⟩:=Z5.1 b;have i:tX h a=k:=by unfold tX;rw[b];rfl
  rw[i];rw[<-bu (Z1 c),C0]at f;refine⟨c,ω,λj n=>?_,rfl⟩;have:=g j n;rw[<-bu (Z1 (show j<h.Larges.length by omega))]at this;simpa using this
theorem dI{h:ab}{E:List Int}(a:bn h E){o:bm}(g:o∈h.Objs):(aM o.Size<0->Qu h.Larges o.Addr o.Size)/\(¬aM o.Size<0->(∃s∈h.Spans,eL s o.Addr/\s.Class=aM o.Size)/\aM o.Size<=3):=by
 rcases a.oow o g with⟨s,d,b,c⟩|⟨l,f,b,c⟩
 ·have i:=aF (a.L.sok s d)
  exact⟨λe=>ω,λ_=>⟨⟨s,d,b,c⟩,ω⟩⟩
 ·have j:=cC (a.L.lok l f)
  refine⟨λ_=>⟨l,f,b,c⟩,λe=>absurd ?_ e⟩;unfold aM;rw[C8 ω,C8 ω,C8 ω,C8 ω,C8 ω]
  decide
theorem bn.inQuar{h:ab}{i:Nat}(a:bn h [])(j:i<h.Objs.length)(r:¬aM (nth h.Objs i).Size<0):bn (inQuar h i) ((qK h.Quar (gS h (nth h.Objs i))).map (·.Addr)):=by
 obtain⟨⟨s,l,n,t⟩,u⟩:=(dI a (am j)).2 r;have b:iX h.Spans (nth h.Objs i).Addr (aM (nth h.Objs i).Size):=⟨s,l,n,.inr t⟩
 have d:=a.nums;unfold cg at d;rw[C0]at d;have w:=aF (a.L.sok s l);have o:=a.dropO j b.any;have A:=o.cells (k:=dY h.Kernel (nth h.Objs i).Addr (csz (aM (nth h.Objs i).Size)).toNat) (DM a.ker _ _) rfl;have f:∀y∈h.Quar.Lst,y.Addr≠(nth h.Objs i).Addr:=λy g e=>by
  have c:=o.nd;rw[List.cons_append,List.nil_append]at c;refine(List.nodup_cons.1 c).1 ?_;rw[<-e];unfold holders;simp only[W2];exact .inl (.inr (Z3.2 ⟨y,g,rfl⟩))
 have p:=bn.toQuar (x:=gS h (nth h.Objs i)) (q:=HB h.Quar (gS h (nth h.Objs i))) (out:=qK h.Quar (gS h (nth h.Objs i))) A (Np a.quar ⟨by show 0<=aM _;omega,u,by show 0<=(nth h.Objs i).Addr;have:=n.1;omega,d.2.2.1⟩ (λy g=>a.snc y g) f) (by unfold qK HB;simp only[List.take_append_drop]) (T4 _) b;rw[List.append_nil]at p;exact p
theorem bn.freeOb{h:ab}{t i:Nat}(a:bn h [])(b:i<h.Objs.length)(e:t<h.Caches.length):bn (freeOb h t i).1 []:=by
 unfold Ab.freeOb;split
 ·rename_i c
  obtain⟨l,f,d,-⟩:=(dI a (am b)).1 c;obtain⟨g,j,-⟩:=uy f d;obtain⟨o,k,n⟩:=a.dropL b g j;unfold Ab.freeL;rw[k];exact n
 ·rename_i c
  split
  ·exact a
  ·have d:=a.inQuar b c
   refine bn.recycs (E:=[]) ?_ e;rw[List.append_nil];exact d
theorem GB:∀{H L:List Int},H.Nodup->(∀x∈H,x∈L)->H.length<=L.length
 | [],L,_,_=>T0 _
 | y::H,L,f,b=>by
  have c:y∈L:=b y (R1 ..);have a:=List.nodup_cons.1 f;have:=GB (L:=L.erase y) a.2 λz d=>(List.mem_erase_of_ne (λe:z=y=>a.1 (by rw[<-e];exact d))).2 (b z (X4 _ d))
  rw[List.length_erase_of_mem c]at this;have g:=List.length_pos_of_mem c;simp only[List.length_cons];omega
theorem wG{H:List Int}{n:Nat}(c:H.Nodup)(a:∀x∈H,0<=x/\x<n):H.length<=n:=by
 have:=GB (L:=(List.range n).map λ(i:Nat)=>(i:Int)) c λx b=>Z3.2 ⟨x.toNat,List.mem_range.2 (by have:=a x b;omega),by have:=a x b;omega⟩
 simpa using this
theorem gj{α:Type}{f:α->Int}{xs:List α}(h:xs.Pairwise λa b=>f a<f b):(xs.map f).Nodup:=by
 unfold List.Nodup;rw[List.pairwise_map];exact h.imp λh e=>ω
theorem KD:∀(b:List (List Int))(k:Nat)(s:List Int),(fU k s b).isSome=true->∀l∈b,l.length<=8
 | [],_,_,_,l,a=>by cases a
 | x::b,k,s,h,l,a=>by
  simp only[fU]at h;cases e:ef k s x with
  | none=>rw[e]at h;cases h
  | some d=>
   rw[e]at h;rcases List.mem_cons.1 a with rfl|a
   ·unfold ef at e
    split at e
    ·rename_i c;exact c.1
    ·cases e
   ·exact KD b (k+1) d h l a
theorem dL{c:aA}(h:bo c=true):c.Lists.length=4/\∀l∈c.Lists,l.length<=8:=by
 have a:=h;unfold bo at h;simp only[I0,C0]at h;exact⟨h.1,KD _ _ _ h.2⟩
structure M4(h:ab):Prop where
 cells:h.Kernel.Machine.Frames.Cells.length<=32
 row:∀r∈h.Kernel.Machine.Frames.Cells,r.length=16
 used:h.Kernel.Machine.Frames.Used.length<=32
 ents:h.Kernel.Machine.Table.Entries.length<=32
 ref:h.Kernel.Refuse.length<=40
 free:h.Free.length<=32
 spans:h.Spans.length<=32
 larges:h.Larges.length<=32
 objs:h.Objs.length<=512
 caches:h.Caches.length<=4
 lists:∀c∈h.Caches,c.Lists.length=4/\∀l∈c.Lists,l.length<=8
 quar:h.Quar.Lst.length<=512
theorem iX.bd{h:ab}{E:List Int}(b:bn h E){a c:Int}(d:iX h.Spans a c):0<=a/\a<512:=by
 obtain⟨s,e,⟨f,g,-⟩,-⟩:=d;have i:=aF (b.L.sok s e);omega
theorem bn.lens{h:ab}{E:List Int}(d:bn h E):M4 h:=by
 obtain⟨O,t,u,P,Q,R,w⟩:=aC.1 d.ker;obtain⟨S,A,T,B⟩:=aY.1 t;obtain⟨U,V,C⟩:=bx.1 u;obtain⟨p,D,W⟩:=fp.1 d.rng;obtain⟨X,Y,F,Z⟩:=ix.1 d.quar;have q:=d.mail;unfold bI at q;simp only[I0,C0]at q;have G:=d.nc;refine⟨A,λr g=>?_,ω,C,w,?_,?_,?_,?_,ω,λc J=>dL (d.cach c J),?_⟩
 ·obtain⟨j,K,rfl⟩:=bf g
  have:=B j K;unfold gX at this;simp only[I0,C0]at this;exact this.1
 ·have:=wG (H:=h.Free.map (·.At)) (n:=32) (gj (p.1.imp_of_mem fun {a b} ha hb h=>by have:=p.2 a ha;omega)) λx f=>by
   obtain⟨r,g,rfl⟩:=Z3.1 f;have:=D r g;omega
  simpa using this
 ·have:=wG (H:=h.Spans.map (·.Page)) (n:=32) d.L.nd λx f=>by
   obtain⟨s,i,rfl⟩:=Z3.1 f;have:=aF (d.L.sok s i);omega
  simpa using this
 ·have:=wG (H:=h.Larges.map (·.Page)) (n:=32) (gj d.srl) λx f=>by
   obtain⟨l,k,rfl⟩:=Z3.1 f;have:=aU (d.L.lok l k);omega
  simpa using this
 ·have:=wG (H:=h.Objs.map (·.Addr)) (n:=512) (gj d.osr) λx f=>by
   obtain⟨o,M,rfl⟩:=Z3.1 f;rcases d.oow o M with⟨s,i,⟨k1,k2,-⟩,-⟩|⟨l,k,e,-⟩
   ·have:=aF (d.L.sok s i);omega
   ·have:=aU (d.L.lok l k);omega
  simpa using this
 ·have:=wG (H:=h.Quar.Lst.map (·.Addr)) (n:=512) F λx f=>by
   obtain⟨y,N,rfl⟩:=Z3.1 f;exact(d.hqu y N).bd d
  simpa using this
theorem M4.sml{h:ab}(a:M4 h)(d:aB h.Kernel=true)(e:aI.sml h.Mail)(f:cn.sml h.Job):ab.sml h:=
 ⟨bt d,⟨by have:=a.free;omega,λ_ _=>trivial⟩,⟨by have:=a.spans;omega,λ_ _=>trivial⟩,⟨by have:=a.larges;omega,λ_ _=>trivial⟩,⟨by have:=a.objs;omega,λ_ _=>trivial⟩,⟨by have:=a.caches;omega,λc b=>⟨by have:=(a.lists c b).1;omega,λl g=>by have:=(a.lists c b).2 l g;show l.length<=1048576;omega⟩⟩,e,⟨by have:=a.quar;omega,λ_ _=>trivial⟩,f⟩
def gR(a:Int)(o:bm):Bool:=decide (o.Addr=a)
def eX(h:ab)(a:Int):Nat:=(de (gR a) h.Objs).toNat
theorem bn.objAt{h:ab}{E:List Int}(k:bn h E){o:bm}(l:o∈h.Objs):eX h o.Addr<h.Objs.length/\nth h.Objs (eX h o.Addr)=o/\de (gR o.Addr) h.Objs=(eX h o.Addr:Nat):=by
 obtain⟨i,a,rfl⟩:=bf l;have d:de (gR (nth h.Objs i).Addr) h.Objs=(i:Nat):=dM (ah a) (by unfold gR;simp) λj z p g=>by
  have b:=bu g;have c:=(C2.1 g).1;subst b;unfold gR;refine R0 λe=>?_
  have:=gp (f:=(·.Addr)) (gj k.osr) c a e;omega
 have n:eX h (nth h.Objs i).Addr=i:=by unfold eX;rw[d];rfl
 rw[n];exact⟨a,rfl,d⟩
def aH(h:ab)(t:Nat):Nat->ab × Int
 | 0=>(h,0)
 | n+1=>if(nth h.Objs n).Thread=t then
   ((freeOb (aH h t n).1 t (eX (aH h t n).1 (nth h.Objs n).Addr)).1,if(freeOb (aH h t n).1 t (eX (aH h t n).1 (nth h.Objs n).Addr)).2=0 then(aH h t n).2+1 else(aH h t n).2)
  else aH h t n
theorem ia(k:af)(p:Int)(n:Nat):(d3 k p n).Calls=k.Calls/\(d3 k p n).Refuse=k.Refuse:=(gx k p n).2
theorem BL(h:ab)(t i:Nat):((freeOb h t i).1.Objs=h.Objs\/(freeOb h t i).1.Objs=dele h.Objs i)/\(freeOb h t i).1.Caches.length=h.Caches.length/\(freeOb h t i).1.Kernel.Calls=h.Kernel.Calls/\(freeOb h t i).1.Mail=h.Mail/\(freeOb h t i).1.Job=h.Job:=by
 unfold freeOb;split
 ·exact⟨.inr rfl,rfl,(ia _ _ _).1,rfl,rfl⟩
 ·split
  ·exact⟨.inl rfl,rfl,rfl,rfl,rfl⟩
  ·obtain⟨a,b,c,d,e,-⟩:=d4 t ((qK h.Quar (gS h (nth h.Objs i))).map (·.Addr)) (inQuar h i)
   exact⟨.inr b,a,c,d,e⟩
structure FA(h:ab)(t n:Nat):Prop where
 inv:bn (aH h t n).1 []
 nc:(aH h t n).1.Caches.length=h.Caches.length
 calls:(aH h t n).1.Kernel.Calls=h.Kernel.Calls
 mail:(aH h t n).1.Mail=h.Mail
 job:(aH h t n).1.Job=h.Job
 left:∀j,n<=j->j<h.Objs.length->nth h.Objs j∈(aH h t n).1.Objs
 num:0<=(aH h t n).2/\(aH h t n).2<=n
theorem FA.of{h:ab}(c:bn h []){t:Nat}(p:t<h.Caches.length):∀n,n<=h.Objs.length->FA h t n
 | 0,_=>⟨c,rfl,rfl,rfl,rfl,λj _ d=>am d,T4 _,T4 _⟩
 | n+1,J=>by
  obtain⟨g,i,q,r,u,k,K,L⟩:=FA.of c p n ω;by_cases e:(nth h.Objs n).Thread=t
  ·have l:aH h t (n+1)=((freeOb (aH h t n).1 t (eX (aH h t n).1 (nth h.Objs n).Addr)).1,if(freeOb (aH h t n).1 t (eX (aH h t n).1 (nth h.Objs n).Addr)).2=0 then(aH h t n).2+1 else(aH h t n).2):=by rw[aH,C9 e]
   obtain⟨y,A,M⟩:=g.objAt (k n (X2 _) ω);obtain⟨b,B,C,D,E⟩:=BL (aH h t n).1 t (eX (aH h t n).1 (nth h.Objs n).Addr);have F:=g.freeOb y (by rw[i];exact p);constructor<;>rw[l]
   ·exact F
   ·exact B.trans i
   ·exact C.trans q
   ·exact D.trans r
   ·exact E.trans u
   ·intro j d a
    have w:=k j ω a;simp only;rcases b with b|b
    ·rw[b];exact w
    ·rw[b]
     obtain⟨m,G,o⟩:=bf w;refine dN.2 ⟨m,G,λH=>?_,o⟩;rw[H,A]at o;have:=gp (f:=(·.Addr)) (gj c.osr) ω a (U0 (·.Addr) o);omega
   ·simp only;split<;>omega
  ·have l:aH h t (n+1)=aH h t n:=by rw[aH,C8 e]
   constructor<;>rw[l]
   ·exact g
   ·exact i
   ·exact q
   ·exact r
   ·exact u
   ·exact λj d a=>k j ω a
   ·omega
def mN(h:ab)(t:Int):Bool:=eR h&&(decide (0<=t/\t<=h.Caches.length - 1)&&decide (h.Kernel.Calls≠100000))
def kB(h:ab)(t:Int):ab × Int:=if mN h t=true then aH h t.toNat h.Objs.length else(h,0)
open Go.RowKit
set_option maxRecDepth 20000
set_option maxHeartbeats 4000000
theorem Lr(y:ay)(a:List ay):cX [] (y::a)=cX [y] a:=by rw[cX];rfl
theorem DX{α:Type}[Inhabited α]{xs:List α}(h:xs≠[]):xs.getLast? = some (nth xs (xs.length - 1)):=by
 have a:0<xs.length:=List.length_pos_iff.2 h;rw[List.getLast?_eq_getElem?,ah ω]
theorem LK{α:Type}{xs:List α}(h:xs≠[])(v:α):xs.dropLast++[v]=xs.set (xs.length - 1) v:=by
 have b:0<xs.length:=List.length_pos_iff.2 h;refine List.ext_getElem (by simp;omega) λi a c=>?_
 rw[List.getElem_set];by_cases e:xs.length - 1=i
 ·subst e
  rw[C9 rfl,List.getElem_append_right (by simp)];simp
 ·rw[C8 e,List.getElem_append_left (by simp at a |-;omega),List.getElem_dropLast]
theorem LF{out:List ay}{y:ay}{a:List ay}(h:out≠[])(e:(nth out (out.length - 1)).At+(nth out (out.length - 1)).Len=y.At):cX out (y::a)=cX (out.set (out.length - 1) ⟨(nth out (out.length - 1)).At,(nth out (out.length - 1)).Len+y.Len⟩) a:=by
 rw[cX,DX h];simp only;rw[C9 e,LK h]
theorem Nj{out:List ay}{y:ay}{a:List ay}(h:out≠[])(e:¬(nth out (out.length - 1)).At+(nth out (out.length - 1)).Len=y.At):cX out (y::a)=cX (out++[y]) a:=by
 rw[cX,DX h];simp only;rw[C8 e]
theorem r7(xs:List ay)(B:xs.length<=4194304)(o:∀y∈xs,0<=y.At/\1<=y.Len/\y.At+y.Len<=1048576):ao Tryz.prog 404 false [.val none (b8 .imm xs)] .one (b8 .own (cX [] xs)):=by
 refine fO 63 [(6,21,[15,16,17,18,19,20,21,22,23,24,25,26,27,28,29,30,31,32,33,34,35]),(7,15,[38,39,40,41,42,43,44,45,46,47,48,49,50,51,52])] Tryz.func404 rfl ?_ (.inr (kJ _))
 repeat'(first|refine gO ?_|fail)
 (conv=>whnf)
 refine CE (ι:=Nat × List ay) (λq=>[(0,.hold .one (b8 .imm xs)),(3,.hold .one (b8 .own q.2)),(4,.hold .one [I ((q.1:Nat):Int)])]) (λq=>q.1<=xs.length/\cX q.2 (xs.drop q.1)=cX [] xs/\q.2.length<=q.1/\∀y∈q.2,0<=y.At/\1<=y.Len/\y.At+y.Len<=1048576) (λq=>xs.length - q.1) ((0,[])) ?_ (⟨T0 _,rfl,X2 _,λy g=>by cases g⟩) λq p=>?_
 ·exact wB
 obtain⟨i,out⟩:=q;obtain⟨t,b,j,c⟩:=p;simp only at t b j c |-;by_cases k:i<xs.length
 ·have l:=ah k
  have g:=o _ (am k);rw[g9 k]at b;by_cases h:out=[]
  ·subst h
   rw[Lr]at b;have D:([]:List ay).length=0:=rfl
   repeat'(first|refine gD ?_|(conv=>whnf);first|with_reducible refine CB (aa l) ?_|refine Ln.mk (show List.length _=0 from rfl) ?_|refine Ap.sm (λr u=>by cases u) rfl (by simp) (by decide) rfl ?_)
   ((conv=>whnf)
    refine CC (i+1,[nth xs i]) ⟨(by simp only;omega),b,(by simp),(λy a=>by rw[C1.1 a];exact g)⟩ (by simp only;omega) ?_
    (repeat'(first|exact trivial|rfl|exact CI rfl (CI (U0 (C.s du.own) (by simp[ay.enc])) trivial)|refine CI ?_ ?_)))
  ·have n:0<out.length:=List.length_pos_iff.2 h
   have d:out[((out.length:Int) - 1).toNat]? = some (nth out (out.length - 1)):=by
    rw[show((out.length:Int) - 1).toNat=out.length - 1 by omega];exact ah ω
   have w:=c _ (am (xs:=out) (i:=out.length - 1) ω);by_cases e:(nth out (out.length - 1)).At+(nth out (out.length - 1)).Len=(nth xs i).At
   ·rw[LF h e]at b
    repeat'(first|refine gA ?_|(conv=>whnf);first|with_reducible refine CB (aa l) ?_|refine CK ω (aa d) ?_|refine CG rfl (aa d) rfl ?_|refine CM rfl rfl (aa d) rfl (Z0 rfl) rfl ?_)
    ((conv=>whnf)
     refine CC (i+1,out.set (out.length - 1) ⟨(nth out (out.length - 1)).At,(nth out (out.length - 1)).Len+(nth xs i).Len⟩) ⟨(by simp only;omega),b,(by simp only;rw[I1];omega),(λy a=>?_)⟩ (by simp only;omega) ?_)
    ·rcases U5 a with a|rfl
     ·exact c y a
     ·simp only;omega
    ·(repeat'(first|exact trivial|rfl|exact CI rfl (CI (U0 (C.s du.own) (by rw[show((out.length:Int) - 1).toNat=out.length - 1 by omega,O5];rfl)) trivial)|refine CI ?_ ?_))
   ·rw[Nj h e]at b
    repeat'(first|refine gA ?_|(conv=>whnf);first|with_reducible refine CB (aa l) ?_|refine CK ω (aa d) ?_|refine CG rfl (aa d) rfl ?_|refine Ap.sm (aK λ_=>rfl) rfl (by simp;omega) (by decide) rfl ?_)
    ((conv=>whnf)
     refine CC (i+1,out++[nth xs i]) ⟨(by simp only;omega),b,(by simp;omega),(λy a=>?_)⟩ (by simp only;omega) ?_)
    ·rcases W2.1 a with a|a
     ·exact c y a
     ·rw[C1.1 a];exact g
    ·(repeat'(first|exact trivial|rfl|exact CI rfl (CI (U0 (C.s du.own) (by simp[ay.enc])) trivial)|refine CI ?_ ?_))
 ·obtain rfl:i=xs.length:=ω
  rw[List.drop_length]at b
  repeat'(first|refine gD ?_|fail)
  rw[<-b];rfl
theorem yP(r y:ay)(a:List ay)(put:Bool):l7 r (y::a) put=if ovl y r then none else if !put&&decide (y.At > r.At) then(l7 r a true).map λt=>r::y::t else(l7 r a put).map λt=>y::t:=by rw[l7]
theorem lf(pages:Int)(xs:List ay)(r:ay)(H:0<=pages/\pages<=1048576)(J:fW xs):ao Tryz.prog 387 false [.val none [I pages],.val none (b8 .imm xs),.val (some 2) (ay.enc .imm r)] (.tup [none,none]) (Ac xs (bU pages xs r)):=by
 have w:=J.1;have n:=kY pages xs H J;have E:=wZ pages r H;cases o:bw pages xs<;>rw[o]at n
 ·rw[show bU pages xs r=none by unfold bU;rw[C8 (by rw[o];simp)]]
  refine fO 82 [] Tryz.func387 rfl ?_ (.inr (jQ _ _))
  repeat'(first|refine gO ?_|(conv=>whnf);first|refine C7 (n) ?_|refine CN (λ_=>rfl) (λ_=>rfl) w (by decide) ?_)
  rfl
 cases k:rangeIn pages r<;>rw[k]at E
 ·rw[show bU pages xs r=none by unfold bU;rw[C8 (by rw[k];simp)]]
  refine fO 82 [] Tryz.func387 rfl ?_ (.inr (jQ _ _))
  repeat'(first|refine gO ?_|(conv=>whnf);first|refine C7 (n) ?_|refine C7 (E) ?_|refine CN (λ_=>rfl) (λ_=>rfl) w (by decide) ?_)
  rfl
 obtain⟨K,L⟩:=uE o;have p:0<=r.At/\1<=r.Len/\r.At+r.Len<=pages:=by
  unfold rangeIn at k;rw[C0]at k;omega
 rw[show bU pages xs r=(l7 r xs false).map (cX []) by unfold bU;rw[C9 ⟨o,k⟩,zi (pages:=pages) K p.2.1 λz M=>by simp at M]];refine fO 82 [] Tryz.func387 rfl ?_ (.inr (jQ _ _))
 repeat'(first|refine gO ?_|(conv=>whnf);first|refine C7 (n) ?_|refine C7 (E) ?_|refine CN (λ_=>rfl) (λ_=>rfl) w (by decide) ?_)
 (conv=>whnf)
 refine CE (ι:=Nat × List ay × Bool) (λq=>[(1,.hold .one (b8 .imm xs)),(5,.hold .box (ay.enc .imm r)),(8,.hold .one (b8 .own xs)),(9,.hold .one (b8 .own q.2.1)),(10,.hold .one [B (q.2.2)]),(11,.hold .one [I ((q.1:Nat):Int)])]) (λq=>q.1<=xs.length/\(l7 r (xs.drop q.1) q.2.2).map (q.2.1++·)=l7 r xs false/\q.2.1.length<=q.1+q.2.2.toNat/\(∀y∈q.2.1,0<=y.At/\1<=y.Len/\y.At+y.Len<=1048576)) (λq=>xs.length - q.1) ((0,[],false)) ?_ (⟨T0 _,by simp,by simp,by simp⟩) λq g=>?_
 ·exact wB
 obtain⟨i,out,put⟩:=q;obtain⟨N,b,d,e⟩:=g;simp only at N b d e |-;have l:0<=r.At/\1<=r.Len/\r.At+r.Len<=1048576:=ω
 by_cases F:i<xs.length
 ·have u:=ah F
  have O:=L _ (am F);have h:0<=(nth xs i).At/\1<=(nth xs i).Len/\(nth xs i).At+(nth xs i).Len<=1048576:=ω
  rw[g9 F]at b;by_cases j:ovl (nth xs i) r=true
  ·rw[<-b]
   rw[yP,C9 j];unfold ovl at j;rw[C0]at j
   repeat'(first|refine gD ?_|(conv=>whnf);first|with_reducible (first|refine CB (aa u) ?_|refine Bf.D (λg=>?_) (λg=>?_)))
   rfl
  ·rw[yP,C8 j]at b
   unfold ovl at j;rw[C0]at j;cases put with
   | false=>
    have d:out.length<=i:=by simpa using d
    by_cases P:(nth xs i).At > r.At
    ·rw[C9 (by simp;omega),Option.map_map]at b
     repeat'(first|refine gD ?_|(conv=>whnf);first|with_reducible (first|refine CB (aa u) ?_|refine Bf.D (λg=>?_) (λg=>?_))|refine Ap.sm (aK λ_=>rfl) rfl (by simp;omega) (by decide) rfl ?_|refine Ap.sm (λr p=>by simp at p;rcases p with⟨a,_,rfl⟩|rfl<;>rfl) rfl (by simp;omega) (by decide) rfl ?_)
     ((conv=>whnf)
      refine CC (i+1,out++[r,nth xs i],true) ⟨(by simp only;omega),(by rw[<-b];congr 1;funext t;simp),(by simp;omega),(λy c=>?_)⟩ (by simp only;omega) ?_)
     ·rcases W2.1 c with c|c
      ·exact e y c
      ·rcases List.mem_cons.1 c with rfl|c
       ·exact l
       ·rw[C1.1 c];exact h
     ·(repeat'(first|exact trivial|rfl|exact CI rfl (CI (U0 (C.s du.own) (by simp[ay.enc])) trivial)|refine CI ?_ ?_))
    ·rw[C8 (by simp;omega),Option.map_map]at b
     repeat'(first|refine gD ?_|(conv=>whnf);first|with_reducible (first|refine CB (aa u) ?_|refine Bf.D (λg=>?_) (λg=>?_))|refine Ap.sm (aK λ_=>rfl) rfl (by simp;omega) (by decide) rfl ?_)
     ((conv=>whnf)
      refine CC (i+1,out++[nth xs i],false) ⟨(by simp only;omega),(by rw[<-b];congr 1;funext t;simp),(by simp;omega),(λy c=>?_)⟩ (by simp only;omega) ?_)
     ·rcases W2.1 c with c|c
      ·exact e y c
      ·rw[C1.1 c];exact h
     ·(repeat'(first|exact trivial|rfl|exact CI rfl (CI (U0 (C.s du.own) (by simp[ay.enc])) trivial)|refine CI ?_ ?_))
   | true=>
    have d:out.length<=i+1:=d;rw[C8 (by simp),Option.map_map]at b;by_cases Q:(nth xs i).At<r.At+r.Len
    all_goals
     repeat'(first|refine gD ?_|(conv=>whnf);first|with_reducible (first|refine CB (aa u) ?_|refine Bf.D (λg=>?_) (λg=>?_))|refine Ap.sm (aK λ_=>rfl) rfl (by simp;omega) (by decide) rfl ?_)
     ((conv=>whnf)
      refine CC (i+1,out++[nth xs i],true) ⟨(by simp only;omega),(by rw[<-b];congr 1;funext t;simp),(by simp;omega),(λy c=>?_)⟩ (by simp only;omega) ?_)
     ·rcases W2.1 c with c|c
      ·exact e y c
      ·rw[C1.1 c];exact h
     ·(repeat'(first|exact trivial|rfl|exact CI rfl (CI (U0 (C.s du.own) (by simp[ay.enc])) trivial)|refine CI ?_ ?_))
 ·obtain rfl:i=xs.length:=ω
  rw[List.drop_length]at b;cases put with
  | false=>
   have d:out.length<=xs.length:=by simpa using d
   rw[<-b];have G:=r7 (out++[r]) (by simp;omega) (λy c=>by
     rcases W2.1 c with c|c
     · exact e y c
     · rw[C1.1 c];exact l)
   repeat'(first|refine gD ?_|(conv=>whnf);first|refine Ap.sm (aK λ_=>rfl) rfl (by simp;omega) (by decide) (show(out++[r]).map (ay.enc .own)=_ by simp[ay.enc]) ?_|refine CD (G) ⟨⟨rfl,d8 _⟩,trivial⟩ ?_)
   rfl
  | true=>
   have d:out.length<=xs.length+1:=d;rw[<-b];have G:=r7 out ω e
   repeat'(first|refine gD ?_|(conv=>whnf);first|refine CD (G) ⟨⟨rfl,d8 _⟩,trivial⟩ ?_)
   simp[l7,Ac]
   rfl
theorem shl64{i:Int}(d:0<=i/\i<=15):IntKind.i64.wrap (1*2 ^ min i.toNat IntKind.i64.bits)=2 ^ i.toNat/\0<=(2:Int) ^ i.toNat/\(2:Int) ^ i.toNat<=32768:=by
 have a:min i.toNat IntKind.i64.bits=i.toNat:=Nat.min_eq_left (show i.toNat<=64 by omega);have b:(0:Int)<=2 ^ i.toNat/\(2:Int) ^ i.toNat<=32768:=by
  have:(2:Nat) ^ i.toNat<=2 ^ 15:=Nat.pow_le_pow_right (by decide) ω;have c:((2 ^ i.toNat:Nat):Int)=(2:Int) ^ i.toNat:=Int.natCast_pow 2 i.toNat;rw[<-c];exact⟨Int.natCast_nonneg _,Int.ofNat_le.2 this⟩
 rw[a,Int.one_mul];exact⟨fg ω ω,b⟩
theorem clr64{b i:Int}(a:0<=b/\b<=65535):IntKind.i64.wrap ((BitVec.ofInt IntKind.i64.bits b &&& ~~~BitVec.ofInt IntKind.i64.bits (2 ^ i.toNat)).toNat:Nat)=wt b i:=by
 have:=AD (i:=i) a;unfold wt at this |-;exact fg ω ω
theorem sU(b i:Int)(c:0<=b/\b<=65535)(d:0<=i/\i<=15):ao Tryz.prog 405 false [.val none [I b],.val none [I i]] .one [I (wt b i)]:=by
 have a:=o8 b i;rw[O0 ω]at a;have e:IntKind.u64.wrap i=i:=by unfold IntKind.wrap;simp[IntKind.signed,IntKind.bits];omega
 refine fO 15 [] Tryz.func405 rfl ?_
 repeat'(first|refine gO ?_|(conv=>whnf);first|refine CA ?_|refine C7 (a) ?_|refine CL ω ?_|refine CJ e ?_|refine CJ (shl64 d).1 ?_|refine CJ (clr64 c) ?_)
 rfl
theorem rG(b i:Int)(c:0<=b/\b<=65535)(d:0<=i/\i<=15):ao Tryz.prog 298 false [.val none [I b],.val none [I i]] .one [I (wt b i)]:=by
 have a:=sJ b i;rw[O0 ω]at a;refine fO 14 [] Tryz.func298 rfl ?_
 repeat'(first|refine gO ?_|(conv=>whnf);first|refine CA ?_|refine C7 (a) ?_|refine CL ω ?_|refine CJ (shl64 d).1 ?_|refine CJ (clr64 c) ?_)
 rfl
theorem G5{s:au}{k:Int}(a:aX s.Bits k=true):0<=k/\k<=15:=by
 have:=(fY _ _).1 a;omega
theorem xY(s:au)(k:Int)(a:bg s=true)(b:aX s.Bits k=true):ao Tryz.prog 391 false [.val (some 3) (au.enc .imm s),.val none [I k]] (.tup [some 3,none]) (au.enc .own (jx s k)++[B true]):=by
 have e:=dU a;have g:=G5 b;have c:=gc s;have d:=ik s.Bits k ω;rw[a]at c;rw[b]at d;refine fO 23 [] Tryz.func391 rfl ?_ (.inr (aP (au.enc_fr _) ⟨trivial,trivial⟩))
 repeat'(first|refine gO ?_|(conv=>whnf);first|refine CA ?_|refine C7 (c) ?_|refine C7 (d) ?_|refine C7 (sU s.Bits k e g) ?_)
 rfl
theorem yn(s:au)(k:Int)(a:bg s=true)(b:aX s.Bits k=true):ao Tryz.prog 238 false [.val (some 3) (au.enc .imm s),.val none [I k]] (.tup [some 3,none]) (au.enc .own (jx s k)++[B true]):=by
 have e:=dU a;have g:=G5 b;have c:=ic s;have d:=m8 s.Bits k ω;rw[a]at c;rw[b]at d;refine fO 23 [] Tryz.func238 rfl ?_ (.inr (aP (au.enc_fr _) ⟨trivial,trivial⟩))
 repeat'(first|refine gO ?_|(conv=>whnf);first|refine CA ?_|refine C7 (c) ?_|refine C7 (d) ?_|refine C7 (rG s.Bits k e g) ?_)
 rfl
theorem xo(c:aA)(k:Int)(b:aA.sml c):ao Tryz.prog 340 false [.val (some 1) (aA.enc .imm c),.val none [I k]] .one [B (bo c&&decide (0<=k/\k<=3))]:=by
 have a:=mu c b;cases e:bo c<;>rw[e]at a
 all_goals
  refine fO 11 [] Tryz.func340 rfl ?_
  repeat'(first|refine gO ?_|(conv=>whnf);first|refine CA ?_|refine C7 (a) ?_|refine C7 (aE k 0 3) ?_)
  all_goals rfl
theorem Ey(c:aA)(k:Int)(a:aA.sml c):ao Tryz.prog 237 false [.val (some 1) (aA.enc .imm c),.val none [I k]] .one [B (decide (0<=k/\k<=3)&&bo c)]:=by
 have b:=m0 c a;refine fO 11 [] Tryz.func237 rfl ?_
 repeat'(first|refine gO ?_|(conv=>whnf);first|with_reducible refine Bf.D (λd=>?_) (λd=>?_)|refine CA ?_|refine C7 (b) ?_|refine C7 (eC k) ?_)
 all_goals exact U0 (λz=>[B z]) ((by simp[*]))
theorem oQ{c:aA}{k:Nat}(a:k<c.Lists.length):c.Lists[k]? = some (nth c.Lists k):=ah a
theorem DR{c:aA}(h:bo c=true)(k:Nat)(a:Int):aA.sml (js c k a):=by
 obtain⟨f,d⟩:=dL h;refine⟨by simp only[js,I1];omega,λl b=>?_⟩;rcases U5 b with b|rfl
 ·have:=d l b;show l.length<=1048576;omega
 ·show(nth c.Lists k++[a]).length<=1048576
  by_cases e:k<c.Lists.length
  ·have:=d _ (am e);simp;omega
  ·have:nth c.Lists k=[]:=by unfold nth;rw[O2,I2 ω];rfl
   rw[this];simp
theorem w9(c:aA)(k:Nat)(a:Int):aA.enc .own (js c k a)=[.s .own ((c.Lists.map (aD .own)).set k (aD .own (nth c.Lists k++[a])))]:=by simp[aA.enc,js,O5]
theorem dX{α:Type}{f:α->List C}{xs:List α}{k:Nat}{y:α}{r:List C}(h:xs[k]? = some y):((xs.map f).set k r)[k]? = some r:=by
 rw[I3 (by rw[X0];exact(C2.1 h).1)]
theorem fB{α β:Type}(f:α->β)(xs:List α)(y:α):(xs++[y]).map f=xs.map f++[f y]:=by simp
def vQ(c:aA)(k a:Int):List C:=aA.enc .own ((cput c k a).getD c)++[B (cput c k a).isSome]
theorem BS(c:aA)(k a:Int):gw (vQ c k a):=aP (aA.enc_fr _) ⟨trivial,trivial⟩
theorem ye(c:aA)(k:Nat)(a:Int)(h:bo c=true)(B:k<=3):ao Tryz.prog 403 false [.val (some 1) (aA.enc .imm c),.val none [I (k:Nat)],.val none [I a]] (.tup [some 1,none]) (vQ c k a):=by
 obtain⟨D,q⟩:=dL h;have r:aA.sml c:=⟨ω,λl u=>by have:=q l u;show l.length<=1048576;omega⟩
 have n:=xo c k r;rw[h,O0 ω]at n;have t:=iw c r;have d:=DR h k a;have o:=mu (js c k a) d;have w:=iw (js c k a) d;have b:=oQ (c:=c) (k:=k) ω;have y:=q _ (am (xs:=c.Lists) (i:=k) ω);have j:=CX (js c k a);rw[w9]at j;have g:=BS c k a;unfold vQ at g |-;cases e:bo (js c k a)<;>rw[e]at o
 ·have p:cput c k a=none:=by unfold cput;rw[C8 λx=>by have:=x.2.2.2;rw[R2,e]at this;cases this]
  rw[p]at g |-;refine fO 35 [(4,267,[16,17,18,19,20,21,22,23,24,25,27,0,1,2,3,4,5,6,7,8,9,10,1000,1001,1002,11,12])] Tryz.func403 rfl ?_ (.inr g)
  repeat'(first|refine gO ?_|(conv=>whnf);first|with_reducible refine CB (aa b) ?_|refine CA ?_|refine CB (dX b) ?_|refine CG rfl (dX b) rfl ?_|refine C7 (n) ?_|refine C7 (t) ?_|refine Lq.one rfl rfl (aa b) rfl (Z0 rfl) rfl rfl ?_|refine CG rfl (aa b) rfl ?_|refine CM rfl rfl (dX b) rfl (Z0 rfl) (show [C.s du.own ((c.Lists.map (aD .own)).set k (aD .own (nth c.Lists k++[a])))]=_ from by simp only[List.set_cons_zero,List.set_set,R2];rfl) ?_|refine Ap.sm (aK λ_=>rfl) rfl (by simp;omega) (by decide) (fB _ _ _) ?_|refine CD (o) ⟨⟨rfl,j⟩,trivial⟩ ?_)
  rfl
 ·have p:cput c k a=some (js c k a):=by unfold cput;rw[C9 ⟨h,ω,ω,by rw[R2];exact e⟩,R2]
  rw[p]at g |-;refine fO 35 [(4,267,[16,17,18,19,20,21,22,23,24,25,27,0,1,2,3,4,5,6,7,8,9,10,1000,1001,1002,11,12])] Tryz.func403 rfl ?_ (.inr g)
  repeat'(first|refine gO ?_|(conv=>whnf);first|with_reducible refine CB (aa b) ?_|refine CA ?_|refine CB (dX b) ?_|refine CG rfl (dX b) rfl ?_|refine C7 (n) ?_|refine C7 (t) ?_|refine Lq.one rfl rfl (aa b) rfl (Z0 rfl) rfl rfl ?_|refine CG rfl (aa b) rfl ?_|refine CM rfl rfl (dX b) rfl (Z0 rfl) (show [C.s du.own ((c.Lists.map (aD .own)).set k (aD .own (nth c.Lists k++[a])))]=_ from by simp only[List.set_cons_zero,List.set_set,R2];rfl) ?_|refine Ap.sm (aK λ_=>rfl) rfl (by simp;omega) (by decide) (fB _ _ _) ?_|refine CD (o) ⟨⟨rfl,j⟩,trivial⟩ ?_|refine CD (w) ⟨⟨rfl,j⟩,trivial⟩ ?_)
  rfl
theorem DS(o:bm)(a:Int):ao Tryz.prog 102 false [.val (some 4) (bm.enc .imm o),.ptr [I a]] .one [B (gR a o)]:=by
 refine fO 8 [] Tryz.func102 rfl ?_
 repeat'(first|refine gO ?_|(conv=>whnf);first|refine CA ?_)
 exact U0 (λz=>[B z]) ((by unfold gR;rw[I4];simp))
theorem FY(h:ab)(a:Int)(c:h.Objs.length<=1048576):ao Tryz.prog 29 false [.val (some 24) (ab.enc .imm h),.val none [I a]] .one [I (de (gR a) h.Objs)]:=by
 refine fO 9 [] Tryz.func29 rfl ?_
 repeat'(first|refine gO ?_|(conv=>whnf);first|refine CA ?_|refine Cq.mk (yR (some 4) (bm.enc .imm) (gR a) h.Objs) (DS default a).has (λL k rcs b=>?_) ?_|refine C7 (pq h.Objs (gR a) ω) ?_)
 ·obtain⟨y,-,rfl,rfl,rfl⟩:=b
  exact DS y a
 ·rfl
theorem tV(xs:List ax)(pr:ax->Bool)(g:xs.length<=9223372036854775807):ao Tryz.prog 132 false [.val none (bQ .imm xs),.fn (nZ Tryz.prog (yR (some 3) (ax.enc .imm) pr xs))] .one [I (de pr xs)]:=by
 refine fO 19 [] Tryz.func132 rfl ?_
 repeat'(first|refine gO ?_|(conv=>whnf);first|refine CA ?_)
 (conv=>whnf)
 refine CE (ι:=Nat) (λi=>[(0,.hold .one (bQ .imm xs)),(1,.fv (nZ Tryz.prog (yR (some 3) (ax.enc .imm) pr xs))),(7,.hold .one [I xs.length]),(8,.hold .one [I (i:Nat)])]) (λi=>i<=xs.length/\∀(j:Nat)(z:ax),j<i->xs[j]? = some z->pr z=false) (λi=>xs.length - i) 0 ?_ ⟨T0 _,λj z h=>ω⟩ λi d=>?_
 ·exact wB
 ·obtain⟨d,b⟩:=d
  by_cases c:i<xs.length
  ·obtain⟨y,a⟩ : ∃y,xs[i]? = some y:=⟨_,Z1 c⟩
   repeat'(first|refine gD ?_|(conv=>whnf);first|with_reducible refine CB (aa a) ?_|refine CA ?_|refine Fv.mk (k:=.one) (rcs:=[B (pr y)]) ⟨y,U1 a,rfl,rfl,rfl⟩ ?_|refine Bf.P (λe=>?_) (λe=>?_))
   ·exact U0 (λz=>[I z]) (dM a ‹_› b).symm
   ·(conv=>whnf)
    refine CC (i+1) ⟨ω,dl a (by assumption) b⟩ ω ?_;exact wB
  ·repeat'(first|refine gD ?_|(conv=>whnf);first|refine CA ?_)
   exact U0 (λz=>[I z]) (fX ω b).symm
def b6(x:ab):List C:=[.s .own (x.Kernel.Machine.Frames.Cells.map (aD .own)),.s .own (x.Kernel.Machine.Frames.Used.map (rB .own)),.s .own (x.Kernel.Machine.Table.Entries.map (bh.enc .own)),I x.Kernel.Calls,.s .own (x.Kernel.Refuse.map (rI .own)),.s .own (x.Free.map (ay.enc .own)),.s .own (x.Spans.map (au.enc .own)),.s .own (x.Larges.map (ax.enc .own)),.s .own (x.Objs.map (bm.enc .own)),.s .own (x.Caches.map (aA.enc .own)),.s .own (x.Mail.Buffers.map (cz .own)),.s .own (x.Mail.Inbox.map (aD .own)),I x.Quar.Room,.s .own (x.Quar.Lst.map (aL.enc .own)),I x.Seed,I x.Clock,I x.Limit,I x.Next,B x.Meshing,I x.Job.Plan.Keep,I x.Job.Plan.Move,.s .imm (x.Job.Plan.Cells.map (rI .imm)),I x.Job.Phase,I x.Job.Next]
theorem bB(x:ab):d9 (b6 x)=ab.enc .imm x:=by simp[d9,b6,ab.enc,CX,bh.enc_fz,ax.enc_fz,bm.enc_fz,ay.enc_fz,au.enc_fz,aL.enc_fz,rB,qn,rI,eB,<-bW,z5]
def xk(x:cn):List C:=[I x.Plan.Keep,I x.Plan.Move,.s .imm (x.Plan.Cells.map (rI .imm)),I x.Phase,I x.Next]
theorem Pu.two{g a:List C}{off i k j h l c:Nat}{cs:List C}{K:List C->Prop}{o d:du}{rows rows2:List (List C)}{r f:List C}(h1:g[off]? = some (.s o rows))(u:o.mine=true)(n:rows[i]? = some r)(w:r.length=k)(p:r[j]? = some (.s d rows2))(y:d.mine=true)(q:rows2[h]? = some f)(A:f.length=l)(E:c+cs.length<=l)(B:a=g.set off (.s o (rows.set i (r.set j (.s d (rows2.set h (splice f c cs)))))))(D:K a):Pu g off [(i,k,j),(h,l,c)] cs K:=by
 have t:o≠.imm:=λe=>by subst e;cases u
 have b:d≠.imm:=λe=>by subst e;cases y
 refine Pu.mk (r:=f) (j:=c) (by simp[bR,h1,n,w,p,q,A]) (by simp[jt,h1,n,t,p,q,b]) ω (by rw[B];simp[f9,h1,n,p,q]) D
theorem xa(x:List au):fz (.s .own (x.map (au.enc .own)))=.s .imm (x.map (au.enc .imm)):=(List.cons.inj (dC x)).1
theorem sY(x:List ax):fz (.s .own (x.map (ax.enc .own)))=.s .imm (x.map (ax.enc .imm)):=(List.cons.inj (gY x)).1
theorem u7(x:List bm):fz (.s .own (x.map (bm.enc .own)))=.s .imm (x.map (bm.enc .imm)):=(List.cons.inj (He x)).1
theorem Ap.dele{α:Type}{e:α->List C}{xs:List α}{i sz by_:Nat}{K:List (List C)->Prop}(a:∀y,(e y).length=sz)(b:∀y,aV (e y)=true)(h:xs.length<=1048576)(c:by_<=1000)(d:K ((Ab.dele xs i).map e)):Ap true ((xs.take i).map e) ((xs.drop (i+1)).map e) sz by_ K:=by
 have f:(xs.take i).length+(xs.drop (i+1)).length<=2097152:=by rw[O1,z3];omega
 refine CP (aK a) (aK a) (λ_ r g=>by obtain⟨y,-,rfl⟩:=Z3.1 g;exact b y) (by rw[X0,X0];omega) (by rw[X0,X0];exact O4 (Nat.mul_le_mul f c) (by decide)) ?_ d;unfold Ab.dele;rw[v5]
theorem HK(h:ab)(p:Int)(a:aG.sml h.Kernel.Machine.Table):ao Tryz.prog 348 false [.ptr (ab.enc .imm h),.val none [I p]] .one [I (ar h.Kernel.Machine.Table p).Mode]:=by
 refine fO 13 [] Tryz.func348 rfl ?_
 repeat'(first|refine gO ?_|(conv=>whnf);first|refine CA ?_|refine C7 (cT h.Kernel.Machine.Table p a) ?_)
 rfl
def N2(h:ab):List C:=(b6 h).drop 5
theorem P6(h:ab)(k:af):b6 {h with Kernel:=k} = af.enc .own k++N2 h:=rfl
theorem Eu(h:ab):N2 h=[.s .own (h.Free.map (ay.enc .own)),.s .own (h.Spans.map (au.enc .own)),.s .own (h.Larges.map (ax.enc .own)),.s .own (h.Objs.map (bm.enc .own)),.s .own (h.Caches.map (aA.enc .own)),.s .own (h.Mail.Buffers.map (cz .own)),.s .own (h.Mail.Inbox.map (aD .own)),I h.Quar.Room,.s .own (h.Quar.Lst.map (aL.enc .own)),I h.Seed,I h.Clock,I h.Limit,I h.Next,B h.Meshing,I h.Job.Plan.Keep,I h.Job.Plan.Move,.s .imm (h.Job.Plan.Cells.map (rI .imm)),I h.Job.Phase,I h.Job.Next]:=rfl
theorem HG(h:ab)(f:Int)(a:aG.sml h.Kernel.Machine.Table)(b:0<=f/\f<h.Kernel.Machine.Frames.Cells.length/\f<h.Kernel.Machine.Frames.Used.length) :
  aQ Tryz.prog 349 false [.ptr (b6 h),.val none [I f]] [.ptr (b6 {h with Kernel:=fQ h.Kernel f}),.val none [I f]] (.tup []) []:=by
 have c:=ah (xs:=h.Kernel.Machine.Frames.Cells) (i:=f.toNat) ω;have d:=ah (xs:=h.Kernel.Machine.Frames.Used) (i:=f.toNat) ω;rw[P6 h (fQ h.Kernel f)];by_cases e:(pagesOn h.Kernel.Machine.Table f).length=0
 ·rw[rK e,Eu]
  refine fM 30 [] [(2,8,[21,22,23,24,25,26,27,28])] [(0,0),(0,0)] Tryz.func349 rfl (λu q=>?_) (.inr trivial)
  repeat'(first|refine gA ?_|(conv=>whnf);first|with_reducible (first|refine CK b.1 (aa d) ?_|refine CK b.1 (aa c) ?_)|refine CA ?_|refine CD (gl h.Kernel.Machine.Table f a) ⟨⟨rfl,CV h.Kernel.Machine.Table⟩,⟨rfl,rfl⟩,trivial⟩ ?_|refine CM rfl rfl (aa c) rfl (Z0 rfl) rfl ?_|refine CM rfl rfl (aa d) rfl (Z0 rfl) rfl ?_|refine Mk.mk 16 rfl rfl (by decide) (by decide) rfl ?_)
  refine CF rfl rfl ?_;exact wB
 ·rw[vT e]
  show aQ _ _ _ [.ptr (b6 h),_] [.ptr (b6 h),_] _ _;refine fM 30 [] [(2,8,[21,22,23,24,25,26,27,28])] [(0,0),(0,0)] Tryz.func349 rfl (λu q=>?_) (.inr trivial)
  repeat'(first|refine gA ?_|(conv=>whnf);first|refine CA ?_|refine CD (gl h.Kernel.Machine.Table f a) ⟨⟨rfl,CV h.Kernel.Machine.Table⟩,⟨rfl,rfl⟩,trivial⟩ ?_)
  refine CF rfl rfl ?_;exact wB
theorem mL(h:ab)(p:Int)(b:aB h.Kernel=true) :
  aQ Tryz.prog 297 false [.ptr (b6 h),.val none [I p]] [.ptr (b6 {h with Kernel:=cb h.Kernel p}),.val none [I p]] .one [B (decide ((ar h.Kernel.Machine.Table p).Mode≠0))]:=by
 have k:=bt b;have c:=HK h p k.1.2;by_cases a:(ar h.Kernel.Machine.Table p).Mode=0
 ·rw[show cb h.Kernel p=h.Kernel by unfold cb;rw[C9 a]]
  refine fM 32 [(349,[2,0])] [] [(0,0),(0,0)] Tryz.func297 rfl (λu q=>?_)
  repeat'(first|refine gA ?_|(conv=>whnf);first|refine CA ?_|refine CD (c) ⟨bB h,⟨rfl,rfl⟩,trivial⟩ ?_)
  refine CF rfl ?_ ?_
  ·exact U0 (λz=>[B z]) ((by simp[a]))
  ·exact wB
 ·obtain⟨l,r,n,d,o⟩:=cm b a
  have j:=(aY.1 (aC.1 b).2.1).2.2.1;rw[show cb h.Kernel p=fQ (j7 h.Kernel p) (ar h.Kernel.Machine.Table p).Frame by unfold cb;rw[C8 a]];have e:=HG {h with Kernel:=j7 h.Kernel p} (ar h.Kernel.Machine.Table p).Frame (vE b) ⟨d,by simp only[j7];omega,by simp only[j7];omega⟩;rw[P6 h (j7 h.Kernel p),xe,Eu]at e;have g:=ah (xs:=h.Kernel.Machine.Table.Entries) (i:=p.toNat) ω;rw[n]at c e a |-;refine fM 32 [(349,[2,0])] [] [(0,0),(0,0)] Tryz.func297 rfl (λu q=>?_)
  repeat'(first|refine gA ?_|(conv=>whnf);first|with_reducible refine CK l (aa g) ?_|refine CA ?_|refine CD (c) ⟨bB h,⟨rfl,rfl⟩,trivial⟩ ?_|refine CM rfl rfl (aa g) rfl (Z0 rfl) rfl ?_|refine CG rfl (aa g) rfl ?_|refine CH (e) (.inl rfl) ?_)
  refine CF rfl ?_ ?_
  ·exact U0 (λz=>[B z]) ((by simp[a]))
  ·exact wB
theorem tw(h:ab)(p:Int):ao Tryz.prog 290 false [.ptr (ab.enc .imm h),.val none [I p]] .one [B (eZ h p)]:=by
 cases e:h.Meshing
 all_goals
  have b:ab.enc .imm h=(ab.enc .imm h).set 18 (B h.Meshing):=rfl;rw[e]at b;rw[b];refine fO 29 [] Tryz.func290 rfl ?_
  repeat'(first|refine gO ?_|(conv=>whnf);first|with_reducible (first|refine Bf.D (λa=>?_) (λa=>?_)|refine Bf.E (λa=>?_) (λa=>?_)|refine Bf.N (λa=>?_) (λa=>?_))|refine CA ?_)
  all_goals exact U0 (λz=>[B z]) ((by unfold eZ;rw[e];first|(simp[*];done)|(simp[*];rw[I4];simp)))
theorem gH(h:ab):ao Tryz.prog 295 false [.ptr (ab.enc .imm h)] .one [I (dQ h:Nat)]:=by
 refine fO 11 [] Tryz.func295 rfl ?_
 repeat'(first|refine gO ?_|(conv=>whnf);first|refine CA ?_)
 rfl
theorem qm(h:ab)(a:Int)(k:h.Objs.length<=1048576):ao Tryz.prog 53 false [.val (some 24) (ab.enc .imm h),.val none [I a]] .one [I (de (gR a) h.Objs)]:=by
 refine fO 22 [] Tryz.func53 rfl ?_
 repeat'(first|refine gO ?_|(conv=>whnf);first|refine CA ?_)
 (conv=>whnf)
 refine CE (ι:=Nat) (λi=>[(1,.hold .one [I (a)]),(2,.hold .box (ab.enc .imm h)),(5,.hold .one [I ((i:Nat):Int)])]) (λi=>i<=h.Objs.length/\∀(j:Nat)(z:bm),j<i->h.Objs[j]? = some z->gR a z=false) (λi=>h.Objs.length - i) (0) ?_ (⟨T0 _,λj z l=>ω⟩) λi d=>?_
 ·exact wB
 obtain⟨d,c⟩:=d;by_cases g:i<h.Objs.length
 ·have b:=ah g
  by_cases e:(nth h.Objs i).Addr=a
  ·repeat'(first|refine gA ?_|(conv=>whnf);first|with_reducible refine CB (aa b) ?_|refine CA ?_)
   exact U0 (λz=>[I z]) (dM b (by unfold gR;simp[e]) c).symm
  ·repeat'(first|refine gA ?_|(conv=>whnf);first|with_reducible refine CB (aa b) ?_|refine CA ?_)
   ((conv=>whnf);refine CC (i+1) ⟨ω,dl b (by unfold gR;simp[e]) c⟩ ω ?_;(exact wB))
 ·repeat'(first|refine gD ?_|(conv=>whnf);first|refine CA ?_)
  exact U0 (λz=>[I z]) (fX ω c).symm
theorem my(h:ab)(i:Nat)(b:i<h.Objs.length)(a:h.Objs.length<=1048576):aQ Tryz.prog 382 false [.ptr (b6 h),.val none [I (i:Nat)]] [.ptr (b6 {h with Objs:=dele h.Objs i}),.val none [I (i:Nat)]] (.tup []) []:=by
 refine fM 23 [] [(0,273,[4,5,6,7,8,9,10,11,13,14,15,16,17,18,19,21,22,0,1,2,3,4,5,6,7,9,10,11,12,13,14,15,8,1000,1009,1010,1011,1012,1013,1014,1015,16,1000,17,18,19]),(1048576,0,[8])] [(0,0),(0,0)] Tryz.func382 rfl (λu q=>?_) (.inr trivial)
 repeat'(first|refine gO ?_|(conv=>whnf);first|refine CA ?_|refine Ft.mk rfl (u7 h.Objs) rfl ?_|refine CT i rfl (by rw[X0];omega) (aK λ_=>rfl) X3 ?_|refine CU (i+1) rfl (by rw[X0];omega) (aK λ_=>rfl) Y3 ?_|refine CS (λ_=>rfl) (λ_=>rfl) (by rw[O1];omega) (by decide) ?_|refine Ap.dele (λ_=>rfl) (λ_=>rfl) a (by decide) ?_|refine CN (λ_=>rfl) (λ_=>rfl) (by rw[O1];omega) (by decide) ?_|refine CA ?_)
 refine CF rfl rfl ?_;exact wB
theorem AM(h:ab)(E:List Int)(i:Nat)(b:bn h E)(e:i<h.Spans.length):aQ Tryz.prog 392 false [.ptr (b6 h),.val none [I (i:Nat)]] [.ptr (b6 (giveP h i)),.val none [I (i:Nat)]] (.tup []) []:=by
 have a:=b.lens;have g:=a.spans;have c:=ah e;have j:=mL {h with Spans:=dele h.Spans i} (nth h.Spans i).Page b.ker;have d:=gH {h with Kernel:=cb h.Kernel (nth h.Spans i).Page,Spans:=dele h.Spans i};rw[show dQ {h with Kernel:=cb h.Kernel (nth h.Spans i).Page,Spans:=dele h.Spans i} = dQ h from(qd _ _).1]at d;have k:dQ h<=32:=a.ents;have l:=lf (dQ h:Nat) h.Free ⟨(nth h.Spans i).Page,1⟩ ⟨ω,ω⟩ ⟨by have:=a.free;omega,λ_ _=>trivial⟩;refine fM 52 [(297,[2,0])] [(1,273,[13,14,15,16,17,18,19,20,22,23,24,25,26,27,28,30,31,0,1,2,3,4,5,6,7,9,10,11,12,13,14,15,8,1000,1009,1010,1011,1012,1013,1014,1015,16,1000,17,18,19]),(1048577,0,[6]),(3,270,[38,39,40,41,42,43,44,45,47,37,48,49,50,51,0,1,2,3,4,5,6,7,8,1000,1001,1002,1003,1004,1005,1006,9,10,11,12,13,14,15,1012])] [(0,0),(0,0)] Tryz.func392 rfl (λu q=>?_) (.inr trivial)
 repeat'(first|refine gO ?_|(conv=>whnf);first|with_reducible refine CB (aa c) ?_|refine CA ?_|refine Ft.mk rfl (xa h.Spans) rfl ?_|refine CT i rfl (by rw[X0];omega) (aK λ_=>rfl) X3 ?_|refine CU (i+1) rfl (by rw[X0];omega) (aK λ_=>rfl) Y3 ?_|refine CS (λ_=>rfl) (λ_=>rfl) (by rw[O1];omega) (by decide) ?_|refine Ap.dele (λ_=>rfl) (λ_=>rfl) ω (by decide) ?_|refine CN (λ_=>rfl) (λ_=>rfl) (by rw[O1];omega) (by decide) ?_|refine CG rfl (aa c) rfl ?_|refine CA ?_|refine CH (j) (.inl rfl) ?_|refine CD (d) ⟨bB _,trivial⟩ ?_|refine CD (l) ⟨⟨rfl,rfl⟩,⟨rfl,d8 h.Free⟩,⟨rfl,rfl⟩,trivial⟩ ?_)
 refine CF rfl rfl ?_;exact wB
theorem uQ(h:ab)(i:Nat)(a:Int):b6 (clrS h i a)=(b6 h).set 6 (.s .own ((h.Spans.map (au.enc .own)).set i (au.enc .own (jx (nth h.Spans i) (dt (nth h.Spans i) a))))):=by
 simp[b6,clrS,O5]
theorem lY{α β:Type}{f:α->β}{xs:List α}{i:Nat}{y:β}(a:i<xs.length):((xs.map f).set i y)[i]? = some y:=by
 rw[I3 (by rw[X0];exact a)]
theorem Jf{s:au}(c:bg s=true){a:Int}(b:eL s a):iy s a=(dt s a,0):=by
 unfold iy;rw[C9 ((ge c).2 ⟨b.1,b.2.1⟩),b.2.2.1];rfl
theorem lS(h:ab)(E:List Int)(a:Int)(c:bn h (a::E)):aQ Tryz.prog 364 false [.ptr (b6 h),.val none [I a]] [.ptr (b6 (freeA h a)),.val none [I a]] (.tup []) []:=by
 obtain⟨g,n,t⟩:=c.at (c.hin a (R1 ..));have d:=(c.hin a (R1 ..)).bd c;have B:=c.lens;have C:=B.spans;have e:=c.L.sok _ (am g);have k:=je h (a / 16) ω;rw[t]at k;unfold freeA;generalize qV h a=i at g n k e;have b:=ah g;have o:=t7 (nth h.Spans i) a ⟨ω,ω⟩;rw[Jf e n]at o;have w:=xY (nth h.Spans i) (dt (nth h.Spans i) a) e n.2.2.2;have D:=c.give g n;have l:=tw (clrS h i a) (nth h.Spans i).Page;rw[show eZ (clrS h i a) (nth h.Spans i).Page=eZ h (nth h.Spans i).Page from rfl]at l;have p:=AM (clrS h i a) E i D (by unfold clrS;simp only[I1];exact g);have r:=bB (clrS h i a);rw[uQ]at p r;have j:((h.Spans.map (au.enc .own)).set i (au.enc .own (jx (nth h.Spans i) (dt (nth h.Spans i) a))))[i]? = some (au.enc .own (jx (nth h.Spans i) (dt (nth h.Spans i) a))):=lY g;unfold freeS;by_cases y:(jx (nth h.Spans i) (dt (nth h.Spans i) a)).Bits=0
 ·cases F:eZ h (nth h.Spans i).Page<;>rw[F]at l
  ·rw[C9 ⟨y,rfl⟩]
   refine fM 68 [(392,[2,0])] [(2,274,[26,27,28,29,30,31,32,33,34,35,36,37,38,39,25,40,41,42,0,1,2,3,4,5,6,7,8,9,10,11,12,13,14,15,16,17,18,1016])] [(0,0),(0,0)] Tryz.func364 rfl (λu q=>?_) (.inr trivial)
   repeat'(first|refine gA ?_|(conv=>whnf);first|with_reducible refine CJ ((U0 _ (tdiv16 d.1)).trans (fg ω ω)) ?_|refine CA ?_|refine CL (by decide) ?_|refine CD (k) ⟨⟨rfl,bB h⟩,⟨rfl,rfl⟩,trivial⟩ ?_|refine CB (aa b) ?_|refine CB j ?_|refine CG rfl (aa b) rfl ?_|refine CG rfl j rfl ?_|refine C7 (o) ?_|refine C7 (w) ?_|refine CA ?_|refine CM rfl rfl (aa b) rfl (Z0 rfl) rfl ?_|refine CD (l) ⟨r,⟨rfl,rfl⟩,trivial⟩ ?_|refine CH (p) (.inl rfl) ?_)
   refine CF rfl rfl ?_;exact wB
  ·rw[C8 λx=>by cases x.2]
   rw[uQ];refine fM 68 [(392,[2,0])] [(2,274,[26,27,28,29,30,31,32,33,34,35,36,37,38,39,25,40,41,42,0,1,2,3,4,5,6,7,8,9,10,11,12,13,14,15,16,17,18,1016])] [(0,0),(0,0)] Tryz.func364 rfl (λu q=>?_) (.inr trivial)
   repeat'(first|refine gA ?_|(conv=>whnf);first|with_reducible refine CJ ((U0 _ (tdiv16 d.1)).trans (fg ω ω)) ?_|refine CA ?_|refine CL (by decide) ?_|refine CD (k) ⟨⟨rfl,bB h⟩,⟨rfl,rfl⟩,trivial⟩ ?_|refine CB (aa b) ?_|refine CB j ?_|refine CG rfl (aa b) rfl ?_|refine CG rfl j rfl ?_|refine C7 (o) ?_|refine C7 (w) ?_|refine CA ?_|refine CM rfl rfl (aa b) rfl (Z0 rfl) rfl ?_|refine CD (l) ⟨r,⟨rfl,rfl⟩,trivial⟩ ?_|refine CH (p) (.inl rfl) ?_)
   refine CF rfl rfl ?_;exact wB
 ·rw[C8 λx=>y x.1]
  rw[uQ];refine fM 68 [(392,[2,0])] [(2,274,[26,27,28,29,30,31,32,33,34,35,36,37,38,39,25,40,41,42,0,1,2,3,4,5,6,7,8,9,10,11,12,13,14,15,16,17,18,1016])] [(0,0),(0,0)] Tryz.func364 rfl (λu q=>?_) (.inr trivial)
  repeat'(first|refine gA ?_|(conv=>whnf);first|with_reducible refine CJ ((U0 _ (tdiv16 d.1)).trans (fg ω ω)) ?_|refine CA ?_|refine CL (by decide) ?_|refine CD (k) ⟨⟨rfl,bB h⟩,⟨rfl,rfl⟩,trivial⟩ ?_|refine CB (aa b) ?_|refine CB j ?_|refine CG rfl (aa b) rfl ?_|refine CG rfl j rfl ?_|refine C7 (o) ?_|refine C7 (w) ?_|refine CA ?_|refine CM rfl rfl (aa b) rfl (Z0 rfl) rfl ?_|refine CD (l) ⟨r,⟨rfl,rfl⟩,trivial⟩ ?_|refine CH (p) (.inl rfl) ?_)
  refine CF rfl rfl ?_;exact wB
theorem Kp(h:ab)(t:Nat)(c:aA):b6 {h with Caches:=h.Caches.set t c} = (b6 h).set 9 (.s .own ((h.Caches.map (aA.enc .own)).set t (aA.enc .own c))):=by
 simp[b6,O5]
theorem mR(h:ab)(E:List Int)(t:Nat)(a:Int)(b:bn h (a::E))(w:t<h.Caches.length):aQ Tryz.prog 384 false [.ptr (b6 h),.val none [I (t:Nat)],.val none [I a]] [.ptr (b6 (recyc t h a)),.val none [I (t:Nat)],.val none [I a]] (.tup []) []:=by
 obtain⟨o,y,p⟩:=b.at (b.hin a (R1 ..));have g:=(b.hin a (R1 ..)).bd b;have B:=b.lens;have C:=B.spans;have j:=aF (b.L.sok _ (am o));have r:=b.cach _ (am w);have l:=je h (a / 16) ω;rw[p]at l;have D:=lS h E a b;unfold recyc;generalize qV h a=i at o y l j;have n:=ah o;have k:=ah w;have d:=ye (nth h.Caches t) (nth h.Spans i).Class.toNat a r ω;rw[Int.toNat_of_nonneg j.2.2.1]at d;unfold vQ at d;cases e:cput (nth h.Caches t) (nth h.Spans i).Class a with
 | none=>
  rw[e]at d;refine fM 46 [(364,[2,0])] [(1,277,[16,17,18,19,20,21,22,23,24,25,26,27,28,29,30,31,32,15,33,34,7,0,1,2,3,4,5,6,7,8,9,10,11,12,13,14,15,16,17,18,19,20,21,1019,22]),(3,6,[36,37,38,39,40,41])] [(0,0),(0,0),(0,0)] Tryz.func384 rfl (λu q=>?_) (.inr trivial)
  repeat'(first|refine gO ?_|(conv=>whnf);first|with_reducible refine CJ ((U0 _ (tdiv16 g.1)).trans (fg ω ω)) ?_|refine CA ?_|refine CL (by decide) ?_|refine CD (l) ⟨⟨rfl,bB h⟩,⟨rfl,rfl⟩,trivial⟩ ?_|refine CB (aa n) ?_|refine CB (aa k) ?_|refine CG rfl (aa n) rfl ?_|refine CG rfl (aa k) rfl ?_|refine CD (d) ⟨⟨rfl,CX _⟩,⟨rfl,rfl⟩,⟨rfl,rfl⟩,trivial⟩ ?_|refine CA ?_|refine CH (D) (.inl rfl) ?_)
  refine CF rfl rfl ?_;exact wB
 | some c=>
  rw[e]at d;simp only;rw[Kp];refine fM 46 [(364,[2,0])] [(1,277,[16,17,18,19,20,21,22,23,24,25,26,27,28,29,30,31,32,15,33,34,7,0,1,2,3,4,5,6,7,8,9,10,11,12,13,14,15,16,17,18,19,20,21,1019,22]),(3,6,[36,37,38,39,40,41])] [(0,0),(0,0),(0,0)] Tryz.func384 rfl (λu q=>?_) (.inr trivial)
  repeat'(first|refine gO ?_|(conv=>whnf);first|with_reducible refine CJ ((U0 _ (tdiv16 g.1)).trans (fg ω ω)) ?_|refine CA ?_|refine CL (by decide) ?_|refine CD (l) ⟨⟨rfl,bB h⟩,⟨rfl,rfl⟩,trivial⟩ ?_|refine CB (aa n) ?_|refine CB (aa k) ?_|refine CG rfl (aa n) rfl ?_|refine CG rfl (aa k) rfl ?_|refine CD (d) ⟨⟨rfl,CX _⟩,⟨rfl,rfl⟩,⟨rfl,rfl⟩,trivial⟩ ?_|refine CA ?_|refine CM rfl rfl (aa k) rfl (Z0 rfl) rfl ?_)
  refine CF rfl rfl ?_;exact wB
theorem p7(h:ab)(i:Nat)(d:bn h [])(o:i<h.Objs.length)(t:aM (nth h.Objs i).Size<0):aQ Tryz.prog 380 false [.ptr (b6 h),.val none [I (i:Nat)]] [.ptr (b6 (freeL h i (tX h (nth h.Objs i).Addr))),.val none [I (i:Nat)]] (.tup []) []:=by
 obtain⟨l,w,y,-⟩:=(dI d (am o)).1 t;obtain⟨p,B,c,-⟩:=uy w y;generalize tX h (nth h.Objs i).Addr=g at p B c;have a:=d.lens;have C:=a.larges;have D:=a.objs;have b:=ah o;have N:=aU (d.L.lok _ (am p));have E:dQ h<=32:=a.ents;refine fM 89 [(297,[2,0]),(382,[2,0])] [(4,11,[23,24,25,26,27,28,29,30,31,32,33]),(8,7,[41,42,43,44,45,46,47]),(9,273,[50,51,52,53,54,55,56,57,58,59,60,62,49,63,64,65,66,0,1,2,3,4,5,6,7,8,9,10,11,1000,1001,1002,1003,1004,1005,1006,12,13,14,15,16,17,18,1015]),(10,273,[67,68,69,70,71,72,73,74,76,77,78,79,80,81,82,84,85,0,1,2,3,4,5,6,7,9,10,11,12,13,14,15,8,1000,1009,1010,1011,1012,1013,1014,1015,16,1000,17,18,19]),(1048586,0,[7])] [(0,0),(0,0)] Tryz.func380 rfl (λu q=>?_) (.inr trivial)
 repeat'(first|refine gO ?_|(conv=>whnf);first|refine CA ?_)
 (conv=>whnf)
 refine CE (ι:=Nat) (λk=>[(0,.hold .box (b6 h)),(1,.hold .one [I ((i:Nat):Int)]),(4,.hold .one [I ((k:Nat):Int)])]) (λk=>k<=g) (λk=>g - k) (0) ?_ (T0 _) λk O=>?_
 ·exact wB
 have j:=ah (xs:=h.Larges) (i:=k) ω;have F:=aU (d.L.lok _ (am (xs:=h.Larges) (i:=k) ω));have G:0<=(nth h.Objs i).Addr/\(nth h.Objs i).Addr<=512:=ω
 by_cases e:k=g
 ·subst e
  repeat'(first|refine gA ?_|(conv=>whnf);first|with_reducible refine CB (aa j) ?_|refine CA ?_|refine CG rfl (aa j) rfl ?_|refine CG rfl (aa b) rfl ?_|refine CB (aa b) ?_)
  (conv=>whnf)
  refine CE (ι:=Nat) (λn=>[(0,.hold .box (b6 {h with Kernel:=d3 h.Kernel (nth h.Larges k).Page n})),(1,.hold .one [I ((i:Nat):Int)]),(4,.hold .one [I ((k:Nat):Int)]),(5,.hold .box (ax.enc .own (nth h.Larges k))),(6,.hold .one [I ((n:Nat):Int)])]) (λn=>n<=(nth h.Larges k).Pages.toNat) (λn=>(nth h.Larges k).Pages.toNat - n) (0) ?_ (T0 _) λn P=>?_
  ·exact wB
  by_cases Q:n<(nth h.Larges k).Pages.toNat
  ·have H:=mL {h with Kernel:=d3 h.Kernel (nth h.Larges k).Page n} ((nth h.Larges k).Page+n) (jI d.ker _ _)
   repeat'(first|refine gD ?_|(conv=>whnf);first|refine CA ?_|refine CH (H) (.inl rfl) ?_|refine CA ?_)
   ((conv=>whnf);refine CC (n+1) ω ω ?_;(exact wB))
  ·obtain rfl:n=(nth h.Larges k).Pages.toNat:=ω
   have r:=gH {h with Kernel:=d3 h.Kernel (nth h.Larges k).Page (nth h.Larges k).Pages.toNat};rw[show dQ {h with Kernel:=d3 h.Kernel (nth h.Larges k).Page (nth h.Larges k).Pages.toNat} = dQ h from(gx _ _ _).1]at r;have J:=lf (dQ h:Nat) h.Free ⟨(nth h.Larges k).Page,(nth h.Larges k).Pages⟩ ⟨ω,ω⟩ ⟨by have:=a.free;omega,λ_ _=>trivial⟩;have K:=my {h with Kernel:=d3 h.Kernel (nth h.Larges k).Page (nth h.Larges k).Pages.toNat,Larges:=dele h.Larges k,Free:=(bU (dQ h) h.Free ⟨(nth h.Larges k).Page,(nth h.Larges k).Pages⟩).getD h.Free} i o (by show h.Objs.length<=_;omega)
   repeat'(first|refine gD ?_|(conv=>whnf);first|refine CA ?_|refine Ft.mk rfl (sY h.Larges) rfl ?_|refine CT k rfl (by rw[X0];omega) (aK λ_=>rfl) X3 ?_|refine CU (k+1) rfl (by rw[X0];omega) (aK λ_=>rfl) Y3 ?_|refine CS (λ_=>rfl) (λ_=>rfl) (by rw[O1];omega) (by decide) ?_|refine Ap.dele (λ_=>rfl) (λ_=>rfl) ω (by decide) ?_|refine CN (λ_=>rfl) (λ_=>rfl) (by rw[O1];omega) (by decide) ?_|refine CA ?_|refine CD (r) ⟨bB _,trivial⟩ ?_|refine CD (J) ⟨⟨rfl,rfl⟩,⟨rfl,d8 h.Free⟩,⟨rfl,rfl⟩,trivial⟩ ?_|refine CH (K) (.inl rfl) ?_)
   refine CF rfl rfl ?_;exact wB
 ·have M:=c k ω
  repeat'(first|refine gA ?_|(conv=>whnf);first|with_reducible refine CB (aa j) ?_|refine CA ?_|refine CG rfl (aa j) rfl ?_|refine CG rfl (aa b) rfl ?_|refine CB (aa b) ?_)
  ((conv=>whnf);refine CC (k+1) ω ω ?_;(exact wB))
def Lw(q:bz)(x:aL):List C:=bz.enc .own (HB q x)++ce .own (qK q x)
theorem GR(q:bz)(x:aL):gw (Lw q x):=aP (bz.enc_fr _) (nl _)
theorem zI(q:bz)(a:aL)(K:q.Lst.length<=4096)(e:fw q=true)(r:0<=a.Class/\a.Class<=3/\0<=a.Addr/\0<=a.Since)(t:∀y∈q.Lst,y.Since<=a.Since)(u:∀y∈q.Lst,y.Addr≠a.Addr) :
  ao Tryz.prog 383 false [.val (some 2) (bz.enc .imm q),.val (some 3) (aL.enc .imm a)] (.tup [some 2,none]) (Lw q a):=by
 have b:bz.sml q:=⟨ω,λ_ _=>trivial⟩
 have w:=qv q b;have l:=nX q b;rw[e]at l;have n:=yQ a;rw[O0 r]at n;have o:=rz q a.Addr b;rw[show q.Lst.any (d5 a.Addr)=false by rw[List.any_eq_false];intro y B;unfold d5;simpa using u y B]at o;have C:=(ix.1 e).2.2.2;have g:=GR q a;have L:(aL.mk a.Addr a.Class a.Since)=a:=rfl;have c:=w8 q.Room (q.Lst++[a]);simp only[v3,List.length_singleton]at c;by_cases E:q.Lst.length=0
 all_goals
  try have h:(nth q.Lst (q.Lst.length - 1)).Since<=a.Since:=t _ (am ω)
  try have j:=ah (xs:=q.Lst) (i:=q.Lst.length - 1) ω
  try have d:q.Lst[((q.Lst.length:Int) - 1).toNat]? = some (nth q.Lst (q.Lst.length - 1)):=by rw[show((q.Lst.length:Int) - 1).toNat=q.Lst.length - 1 by omega];exact j
  refine fO 74 [(3,27,[15,16,17,18,19,20,21,22,23,24,25,26,27,28,29,30,31,32,33,34,35,36,37,38,39,40,41]),(7,6,[52,53,54,55,56,57]),(9,268,[61,62,63,64,65,66,67,69,70,71,72,73,0,1,2,3,4,5,6,8,9,10,11,12,7,1008,1009,1010,1011,1012,13,14])] Tryz.func383 rfl ?_ (.inr g)
  repeat'(first|refine gD ?_|(conv=>whnf);first|with_reducible refine Bf.D (λe=>?_) (λe=>?_)|refine CA ?_|refine C7 (w) ?_|refine C7 (l) ?_|refine C7 (n) ?_|refine C7 (o) ?_|refine CK ω (aa d) ?_|refine Ap.sm (aK λ_=>rfl) rfl (by simp;omega) (by decide) (fB (aL.enc .own) q.Lst a) ?_)
  (conv=>whnf)
  refine Lp.fz 8 (ι:=Nat) (λk=>[(2,.hold .box (bz.enc .imm q)),(4,.hold .box [I 0,.z]),(8,.hold .one (ce .imm (q.Lst++[a]))),(9,.hold .one [I (k:Nat)])]) (λk=>k<=ij q.Room (q.Lst++[a])) (λk=>ij q.Room (q.Lst++[a]) - k) 0 ?_ (T0 _) λk M=>?_
  ·(repeat'(first|exact trivial|rfl|exact CI rfl (show Jy (d9 (ce .own (q.Lst++[a]))) (ce .imm (q.Lst++[a])) by rw[BY];exact jY _)|refine CI ?_ ?_))
  have N:(q.Lst++[a]).length=q.Lst.length+1:=by simp
  have F:((q.Lst++[a]).drop k).length<=5000:=by rw[z3];omega
  have G:((q.Lst++[a]).take k).length<=5000:=by rw[O1];omega
  have p:=tI ((q.Lst++[a]).drop k) ⟨ω,λ_ _=>trivial⟩;by_cases H:k<ij q.Room (q.Lst++[a])
  ·have J:q.Room<quarCells ((q.Lst++[a]).drop k) ((q.Lst++[a]).drop k).length:=sS H
   repeat'(first|refine gD ?_|(conv=>whnf);first|refine CA ?_|refine CU k rfl (by rw[X0];omega) (aK λ_=>rfl) Y3 ?_|refine C7 (p) ?_|refine CA ?_)
   ((conv=>whnf);refine CC (k+1) ω ω ?_;(exact wB))
  ·obtain rfl:k=ij q.Room (q.Lst++[a]):=ω
   have J:quarCells ((q.Lst++[a]).drop (ij q.Room (q.Lst++[a]))) ((q.Lst++[a]).drop (ij q.Room (q.Lst++[a]))).length<=q.Room:=u6 C.1 _
   repeat'(first|refine gD ?_|(conv=>whnf);first|refine CA ?_|refine CU (ij q.Room (q.Lst++[a])) rfl (by rw[X0];omega) (aK λ_=>rfl) Y3 ?_|refine CT (ij q.Room (q.Lst++[a])) rfl (by rw[X0];omega) (aK λ_=>rfl) X3 ?_|refine C7 (p) ?_|refine CA ?_|refine CS (λ_=>rfl) (λ_=>rfl) ω (by decide) ?_|refine CN (λ_=>rfl) (λ_=>rfl) ω (by decide) ?_)
   rfl
theorem lM{z:Int}(h:0<=z/\z<512):IntKind.i64.wrap (z.tdiv 16)=z / 16:=(U0 _ (tdiv16 h.1)).trans (fg ω ω)
theorem pL{h:ab}{E:List Int}(a:bn h E){o:bm}(b:o∈h.Objs):0<=o.Addr/\o.Addr<512:=by
 rcases a.oow o b with⟨s,c,⟨f,g,-⟩,-⟩|⟨l,d,e,-⟩
 ·have:=aF (a.L.sok s c);omega
 ·have:=aU (a.L.lok l d);omega
theorem EF{k:Int}(h:0<=k/\k<=3):1<=csz k/\csz k<=8:=by
 rcases cx h with e|e|e|e<;>rw[e]<;>decide
structure PA(h:ab)(o:bm):Prop where
 cl:0<=aM o.Size/\aM o.Size<=3
 fr:0<=(ar h.Kernel.Machine.Table (o.Addr / 16)).Frame/\(ar h.Kernel.Machine.Table (o.Addr / 16)).Frame<h.Kernel.Machine.Frames.Cells.length
 fit:o.Addr % 16+csz (aM o.Size)<=16
 row:(nth h.Kernel.Machine.Frames.Cells (ed h.Kernel o.Addr)).length=16
theorem PA.of{h:ab}{E:List Int}(b:bn h E){o:bm}(l:o∈h.Objs)(q:¬aM o.Size<0):PA h o:=by
 obtain⟨⟨s,d,f,r⟩,B⟩:=(dI b l).2 q;have t:=aF (b.L.sok s d);have u:=pL b l;have n:s.Page=o.Addr / 16:=by have C:=f.1;have D:=f.2.1;omega
 have c:(o.Addr / 16).toNat<(tbl h).Entries.length:=by have:=b.pg.bnd _ (d2 (la:=h.Larges) d);omega
 have a:(((o.Addr / 16).toNat:Nat):Int)=o.Addr / 16:=ω
 have p:=(b.pg.own _ c).2 (by rw[a,<-n];exact d2 d);have g:(ar h.Kernel.Machine.Table (o.Addr / 16)).Mode≠0:=by rw[<-a];unfold tbl at p c;rw[kW c];exact p
 obtain⟨-,-,-,i,w⟩:=cm b.ker g;have y:=(aY.1 (aC.1 b.ker).2.1).2.2.1;have j:ed h.Kernel o.Addr<h.Kernel.Machine.Frames.Cells.length:=by unfold ed;omega
 refine⟨ω,⟨i,ω⟩,?_,b.lens.row _ (am j)⟩;have A:=f.2.2.1;rw[n,<-r]at *;rcases cx (k:=s.Class) ⟨ω,ω⟩ with e|e|e|e<;>rw[e]at A |-<;>omega
theorem AG(h:ab)(a:Int)(b:ed h.Kernel a<h.Kernel.Machine.Frames.Cells.length):({h with Kernel:=dY h.Kernel a 0} : ab)=h:=by
 have e:h.Kernel.Machine.Frames.Cells.set (ed h.Kernel a) (nth h.Kernel.Machine.Frames.Cells (ed h.Kernel a))=h.Kernel.Machine.Frames.Cells:=by
  refine List.ext_getElem? λi=>?_
  rw[T3];split
  ·rename_i e
   subst e;exact(ah b).symm
  ·rfl
 unfold dY iG;rw[e]
theorem B4(h:ab)(a:Int)(k:Nat)(v:Int)(_:0<=a):b6 {h with Kernel:=dY h.Kernel a (k+1)} = (b6 {h with Kernel:=dY h.Kernel a k}).set 0 (.s .own (((dY h.Kernel a k).Machine.Frames.Cells.map (aD .own)).set (ar h.Kernel.Machine.Table (a / 16)).Frame.toNat ((aD .own (iG (nth h.Kernel.Machine.Frames.Cells (ed h.Kernel a)) (a % 16).toNat k)).set 0 (.s .own (((iG (nth h.Kernel.Machine.Frames.Cells (ed h.Kernel a)) (a % 16).toNat k).map (rI .own)).set (a % 16+k).toNat (splice (rI .own v) 0 [I 0])))))):=by
 have e:(a % 16+k).toNat=(a % 16).toNat+k:=ω
 rw[e];simp[b6,dY,O5,iG,aD,splice,ed]
 rfl
theorem th(t:Nat)(h:ab)(xs:List aL)(k:Nat)(a:k<xs.length):recycs t h ((xs.take (k+1)).map (·.Addr))=recyc t (recycs t h ((xs.take k).map (·.Addr))) (nth xs k).Addr:=by
 unfold recycs;rw[Z4,ah a];simp
theorem EY(h:ab)(o:bm)(t:Nat)(a:bn h [])(P:o∈h.Objs)(ht:o.Thread=t)(hlc:h.Caches.length<=4):aQ Tryz.prog 354 false [.ptr (b6 h),.val none [I (t:Nat)],.val none [I o.Addr]] [.ptr (b6 (freeOb h t (eX h o.Addr)).1),.val none [I (t:Nat)],.val none [I o.Addr]] .one [I (freeOb h t (eX h o.Addr)).2]:=by
 obtain⟨l,B,C⟩:=a.objAt P;have b:=pL a P;have hon:=a.onu o P;have d:=a.lens;have hno:=d.objs;have E:t<h.Caches.length:=ω
 have M:=aE (t:Nat) 0 (h.Caches.length - 1:Int);rw[O0 ω]at M;have F:=qm h o.Addr ω;rw[C]at F;generalize eX h o.Addr=i at l B F;subst B;have r:=ah l;have Q:=jz (nth h.Objs i).Size;unfold freeOb;have R:=bt a.ker;have Z:=cT h.Kernel.Machine.Table ((nth h.Objs i).Addr / 16) R.1.2;by_cases w:aM (nth h.Objs i).Size<0
 ·rw[C9 w]
  have c3:=p7 h i a l w;refine fM 148 [(380,[2,0]),(382,[2,0]),(384,[2,0,0]),(379,[2,0])] [(15,269,[68,69,70,71,72,73,74,75,77,67,78,79,11,0,1,2,3,4,5,6,7,13,8,1000,1001,1002,1003,1004,1013,9,10,11,12,14,1012,15]),(22,15,[92,93,94,95,96,97,98,99,100,101,102,103,104,105,106]),(25,271,[116,117,118,119,120,121,122,123,124,125,127,115,128,129,14,0,1,2,3,4,5,6,7,8,9,15,10,1000,1001,1002,1003,1015,11,12,13,14,16,1014,17])] [(0,0),(0,0),(0,0)] Tryz.func354 rfl (λu q=>?_)
  repeat'(first|refine gD ?_|(conv=>whnf);first|with_reducible refine Bf.D (λn=>?_) (λn=>?_)|refine CA ?_|refine C7 (M) ?_|refine CD (F) ⟨⟨rfl,bB h⟩,⟨rfl,rfl⟩,trivial⟩ ?_|refine CB (aa r) ?_|refine CG rfl (aa r) rfl ?_|refine C7 (Q) ?_|refine CH (c3) (.inl rfl) ?_)
  refine CF rfl rfl ?_;exact wB
 rw[C8 w];obtain⟨S,s2,s3,s4⟩:=PA.of a (am l) w;by_cases N:(ar (tbl h) ((nth h.Objs i).Addr / 16)).Mode=1
 ·rw[C9 N]
  unfold tbl at N;refine fM 148 [(380,[2,0]),(382,[2,0]),(384,[2,0,0]),(379,[2,0])] [(15,269,[68,69,70,71,72,73,74,75,77,67,78,79,11,0,1,2,3,4,5,6,7,13,8,1000,1001,1002,1003,1004,1013,9,10,11,12,14,1012,15]),(22,15,[92,93,94,95,96,97,98,99,100,101,102,103,104,105,106]),(25,271,[116,117,118,119,120,121,122,123,124,125,127,115,128,129,14,0,1,2,3,4,5,6,7,8,9,15,10,1000,1001,1002,1003,1015,11,12,13,14,16,1014,17])] [(0,0),(0,0),(0,0)] Tryz.func354 rfl (λu q=>?_)
  repeat'(first|refine gA ?_|(conv=>whnf);first|with_reducible refine Bf.D (λn=>?_) (λn=>?_)|refine CA ?_|refine CL (by decide) ?_|refine CJ (lM b) ?_|refine C7 (M) ?_|refine CD (F) ⟨⟨rfl,bB h⟩,⟨rfl,rfl⟩,trivial⟩ ?_|refine CB (aa r) ?_|refine CG rfl (aa r) rfl ?_|refine C7 (Q) ?_|refine CD (Z) ⟨⟨rfl,CV _⟩,⟨rfl,rfl⟩,trivial⟩ ?_)
  refine CF rfl rfl ?_;exact wB
 rw[C8 N];unfold tbl at N;have G:ed h.Kernel (nth h.Objs i).Addr<h.Kernel.Machine.Frames.Cells.length:=by unfold ed;omega
 have hcz:=EF S;have g:=a.inQuar l w;have H:=d6 (aM (nth h.Objs i).Size);refine fM 148 [(380,[2,0]),(382,[2,0]),(384,[2,0,0]),(379,[2,0])] [(15,269,[68,69,70,71,72,73,74,75,77,67,78,79,11,0,1,2,3,4,5,6,7,13,8,1000,1001,1002,1003,1004,1013,9,10,11,12,14,1012,15]),(22,15,[92,93,94,95,96,97,98,99,100,101,102,103,104,105,106]),(25,271,[116,117,118,119,120,121,122,123,124,125,127,115,128,129,14,0,1,2,3,4,5,6,7,8,9,15,10,1000,1001,1002,1003,1015,11,12,13,14,16,1014,17])] [(0,0),(0,0),(0,0)] Tryz.func354 rfl (λu q=>?_)
 repeat'(first|refine gA ?_|(conv=>whnf);first|with_reducible refine Bf.D (λn=>?_) (λn=>?_)|refine CA ?_|refine CL (by decide) ?_|refine CJ (lM b) ?_|refine C7 (M) ?_|refine CD (F) ⟨⟨rfl,bB h⟩,⟨rfl,rfl⟩,trivial⟩ ?_|refine CB (aa r) ?_|refine CG rfl (aa r) rfl ?_|refine C7 (Q) ?_|refine CD (Z) ⟨⟨rfl,CV _⟩,⟨rfl,rfl⟩,trivial⟩ ?_)
 rw[show b6 h=b6 {h with Kernel:=dY h.Kernel (nth h.Objs i).Addr 0} by rw[AG h _ G]]
 (conv=>whnf)
 refine CE (ι:=Nat) (λk=>[(0,.hold .box (b6 {h with Kernel:=dY h.Kernel (nth h.Objs i).Addr k})),(1,.hold .one [I ((t:Nat):Int)]),(2,.hold .one [I ((nth h.Objs i).Addr)]),(7,.hold .one [I ((i:Nat):Int)]),(8,.hold .box (bm.enc .own (nth h.Objs i))),(9,.hold .one [I (aM (nth h.Objs i).Size)]),(10,.hold .box (bh.enc .own (ar h.Kernel.Machine.Table ((nth h.Objs i).Addr / 16)))),(13,.hold .one [I ((k:Nat):Int)])]) (λk=>k<=(csz (aM (nth h.Objs i).Size)).toNat) (λk=>(csz (aM (nth h.Objs i).Size)).toNat - k) (0) ?_ (T0 _) λk hk=>?_
 ·exact wB
 have hmod:IntKind.i64.wrap 0=0:=rfl;have T:(nth h.Objs i).Addr.tmod 16=(nth h.Objs i).Addr % 16:=eS b.1;have p:(dY h.Kernel (nth h.Objs i).Addr k).Machine.Frames.Cells[(ar h.Kernel.Machine.Table ((nth h.Objs i).Addr / 16)).Frame.toNat]? = some (iG (nth h.Kernel.Machine.Frames.Cells (ed h.Kernel (nth h.Objs i).Addr)) ((nth h.Objs i).Addr % 16).toNat k):=I3 G;by_cases O:k<(csz (aM (nth h.Objs i).Size)).toNat
 ·have J:=ah (xs:=iG (nth h.Kernel.Machine.Frames.Cells (ed h.Kernel (nth h.Objs i).Addr)) ((nth h.Objs i).Addr % 16).toNat k) (i:=((nth h.Objs i).Addr % 16+k).toNat) (by rw[lI,s4];omega)
  repeat'(first|refine gD ?_|(conv=>whnf);first|refine CA ?_|refine CL (by decide) ?_|refine CR T ?_|refine C7 (H) ?_|refine CK s2.1 (aa p) ?_|refine CG rfl (aa p) rfl ?_|refine CK ω (aa J) ?_|refine Pu.two rfl rfl (aa p) rfl rfl rfl (aa J) rfl (X2 _) (B4 h _ k _ b.1) ?_)
  ((conv=>whnf);refine CC (k+1) ω ω ?_;(exact wB))
 ·obtain rfl:k=(csz (aM (nth h.Objs i).Size)).toNat:=ω
  have c5:=my {h with Kernel:=dY h.Kernel (nth h.Objs i).Addr (csz (aM (nth h.Objs i).Size)).toNat} i l (by show h.Objs.length<=_;omega);have j:=a.nums;unfold cg at j;rw[C0]at j;have K:=(a.dropO l (iX.any (c:=aM (nth h.Objs i).Size) (by obtain⟨⟨s,hs,k1,k2⟩,-⟩:=(dI a (am l)).2 w;exact⟨s,hs,k1,.inr k2⟩))).nd;rw[List.cons_append,List.nil_append]at K;have c6:=zI h.Quar (gS h (nth h.Objs i)) (by have:=d.quar;omega) a.quar ⟨S.1,S.2,b.1,j.2.2.1⟩ (λy U=>a.snc y U) (λy U e=>(List.nodup_cons.1 K).1 (by rw[show(nth h.Objs i).Addr=y.Addr from e.symm];unfold holders;simp only[W2];exact .inl (.inr (Z3.2 ⟨y,U,rfl⟩))));unfold Lw at c6;have V:(qK h.Quar (gS h (nth h.Objs i))).length<=513:=by have:=d.quar;unfold qK;rw[O1,v3];simp only[List.length_singleton];omega
  repeat'(first|refine gA ?_|(conv=>whnf);first|with_reducible refine Bf.D (λn=>?_) (λn=>?_)|refine CA ?_|refine C7 (H) ?_|refine CH (c5) (.inl rfl) ?_|refine CD (c6) ⟨⟨rfl,bz.enc_fz h.Quar⟩,⟨rfl,rfl⟩,trivial⟩ ?_|refine CA ?_)
  have W:GG h t i=recycs t (inQuar h i) ((qK h.Quar (gS h (nth h.Objs i))).map (·.Addr)):=rfl;simp only;rw[W];have hqn:(inQuar h i).Caches.length=h.Caches.length:=rfl;generalize qK h.Quar (gS h (nth h.Objs i))=out at g V
  (conv=>whnf)
  refine CE (ι:=Nat) (λk=>[(0,.hold .box (b6 (recycs t (inQuar h i) ((out.take k).map (·.Addr))))),(1,.hold .one [I ((t:Nat):Int)]),(15,.hold .one (ce .own out)),(16,.hold .one [I ((k:Nat):Int)])]) (λk=>k<=out.length) (λk=>out.length - k) (0) ?_ (T0 _) λk hk=>?_
  ·exact wB
  by_cases O:k<out.length
  ·have L:=ah O
   have X:out.map (·.Addr)=(out.take k).map (·.Addr)++(nth out k).Addr::(out.drop (k+1)).map (·.Addr):=by
    conv=>lhs;rw[<-List.take_append_drop k out,g9 O]
    simp
   have Y:bn (recycs t (inQuar h i) ((out.take k).map (·.Addr))) ((nth out k).Addr::(out.drop (k+1)).map (·.Addr)):=bn.recycs (by rw[<-X];exact g) E;have c7:=mR _ _ t _ Y (by rw[(d4 t _ _).1];exact E)
   repeat'(first|refine gD ?_|(conv=>whnf);first|refine CA ?_|refine CB (aa L) ?_|refine CG rfl (aa L) rfl ?_|refine CH (c7) (.inl rfl) ?_)
   ((conv=>whnf);refine CC (k+1) ω ω ?_)
   rw[th t _ out k O];exact wB
  ·obtain rfl:k=out.length:=ω
   rw[V4]
   repeat'(first|refine gD ?_|(conv=>whnf);first|refine CA ?_)
   refine CF rfl rfl ?_;exact wB
def oE(rows:List (List C)):C:=match rows with|[]=>.s .imm []|_=>.s .own rows
theorem B7{rows:List (List C)}(h:rows≠[]):oE rows=.s .own rows:=by cases rows with|nil=>exact absurd rfl h|cons=>rfl
theorem zE{P:Program}(w:World)(t e k:Nat)(z:Value)(p:P.underlying t=some (.slice e))(d:∀w,(zeroValue e).run P w=.ok z w)(q:z.cells.size=k)(h1:∀v∈z.cells.toList,v.oneCell'=true)(b o n:Nat)(u:0<n)(i:0<k)(r:∀j,j<n*k->(w.cell? ⟨b,o+j,none⟩).isSome=true)(y:∀j,j<n*k->w.frozen? ⟨b,o+j,none⟩ = false) :
  ∃zs:List Value,zs.length=n*k/\(∀v∈zs,v.oneCell'=true)/\∀(ty:TypeId)(c:Nat),(Builtin.clear_ #[t] ty #[.slice (some ⟨b,o,none⟩) n c]).run P w=.ok (.tuple #[]) (w.setCells b o zs):=by
 subst q;have f:(Builtin.zeroCells z.cells n).toList.length=n*z.cells.size:=by simp[Builtin.zeroCells]
 have a:∀v∈(Builtin.zeroCells z.cells n).toList,v.oneCell'=true:=by
  intro v d;rw[Array.mem_toList_iff]at d;simp only[Builtin.zeroCells,Array.mem_map,Array.mem_range]at d;obtain⟨j,l,rfl⟩:=d;have g:j % z.cells.size<z.cells.size:=Nat.mod_lt _ i;rw[getElem!_pos z.cells (j % z.cells.size) g];exact h1 _ (Array.mem_toList_iff.2 (Array.getElem_mem g))
 refine⟨_,f,a,λty c=>?_⟩;have h:=run_storeCells_cells (P:=P) b o (Builtin.zeroCells z.cells n).toList 0 w (λj l=>by simpa using r j ω) (λj l=>by simp) a;simp only[Nat.add_zero]at h;obtain⟨m,rfl⟩ : ∃m,n=m+1:=⟨n - 1,ω⟩
 simp[Builtin.clear_,run_underlying p,d,h]
structure Ka(w w':World)(g k n i:Nat):Prop where
 keep:bA (λb o=>b=g/\o<n*k) w w'
 lo:∀q,q<i*k->cel w' g q=cel w g q
 mid:∀q,i*k<=q->q<(n - 1)*k->cel w' g q=cel w g (q+k)
 hi:∀q,(n - 1)*k<=q->q<n*k->∃z,cel w' g q=some z/\z.oneCell'=true
 fro:∀b q,fro w' b q=fro w b q
theorem bA.up{M a:ac}{w c:World}(h:bA M w c)(d:∀b o,M b o->a b o):bA a w c:=(CW a w).trans h λb o e=>.inr (d b o e)
theorem FJ(w:World):bA NO w w.drew:=⟨rfl,rfl,rfl,X2 _,λ_ _ _=>rfl,λ_ _ _ _=>rfl,λ_ _ _ _=>rfl⟩
theorem Jc{w:World}{g k n i:Nat}{news zs:List Value}(B:i<n)(a:∀q,q<n*k->∃z,cel w g q=some z)(H:news.length=(n - (i+1))*k)(d:∀t u,news[t]? = some u->cel w g ((i+1)*k+t)=some u)(J:zs.length=k)(l:∀v∈zs,v.oneCell'=true) :
  Ka w ((w.drew.setCells g (i*k) news).setCells g ((n - 1)*k) zs) g k n i:=by
 have K:i*k+(n - (i+1))*k=(n - 1)*k:=by rw[<-Nat.add_mul];congr 1;omega
 have L:(n - 1)*k+k=n*k:=by rw[show(n - 1)*k+k=(n - 1+1)*k by rw[Nat.add_mul,Nat.one_mul]];congr 1;omega
 have M:(i+1)*k=i*k+k:=by rw[Nat.add_mul,Nat.one_mul]
 have r:∀b q,cel w.drew b q=cel w b q:=λ_ _=>rfl
 have c:∀j,j<news.length->∃z,cel w.drew g (i*k+j)=some z:=λj p=>by rw[r];exact a _ ω
 have C:∀q,q<n*k->∃z,cel (w.drew.setCells g (i*k) news) g q=some z:=λq y=>by
  by_cases h:i*k<=q/\q<i*k+news.length
  ·have:=cW c (Z1 (show q - i*k<news.length by omega))
   rw[show i*k+(q - i*k)=q by omega]at this;exact⟨_,this⟩
  ·rw[bP (λx=>h x.2),r];exact a q y
 refine⟨?_,λq y=>?_,λq D E=>?_,λq D E=>?_,λb q=>?_⟩
 ·have F:=io (g:=g) (X:=λb o=>b=g/\o<n*k) news (i*k) w.drew λj p=>⟨rfl,ω⟩
  have G:=io (g:=g) (X:=λb o=>b=g/\o<n*k) zs ((n - 1)*k) (w.drew.setCells g (i*k) news) λj p=>⟨rfl,ω⟩
  exact((FJ w).up λ_ _ h=>h.elim).trans (F.trans G λ_ _ h=>.inr h) λ_ _ h=>.inr h
 ·rw[bP ω,bP ω];rfl
 ·rw[bP ω]
  obtain⟨u,e⟩ : ∃u,news[q - i*k]? = some u:=⟨_,Z1 ω⟩
  have f:=cW c e;have A:=d _ u e;rw[show i*k+(q - i*k)=q by omega]at f;rw[show(i+1)*k+(q - i*k)=q+k by omega]at A;rw[f,A]
 ·obtain⟨u,e⟩ : ∃u,zs[q - (n - 1)*k]? = some u:=⟨_,Z1 ω⟩
  have f:=cW (w:=w.drew.setCells g (i*k) news) (o:=(n - 1)*k) (vs:=zs) (λj p=>C _ ω) e;rw[show(n - 1)*k+(q - (n - 1)*k)=q by omega]at f;exact⟨u,f,l u (U1 e)⟩
 ·rw[cG,cG];rfl
def Qd(rows:List (List C)):Prop:=∀r∈rows,∀c∈r,∃z,c=.v z
def zT(P:Program)(f k:Nat):Prop:=Hd P f/\∀(w:World)(g n a i:Nat)(news:List Value),i<n->n<=a->news.length=(n - (i+1))*k->(∀t u,news[t]? = some u->cel w g ((i+1)*k+t)=some u)->(∀u∈news,u.oneCell'=true)->
 (∀q,q<n*k->(w.cell? ⟨g,q,none⟩).isSome=true/\w.frozen? ⟨g,q,none⟩ = false)->
 Calls P f #[.slice (some ⟨g,0,none⟩) n a,.int .i64 i,.int .i64 ((i+1:Nat):Int)] w λe c=>e=.returned (.slice (some ⟨g,0,none⟩) (n - 1) a)/\∃b:List Value,b.length=k/\(∀v∈b,v.oneCell'=true)/\c=(w.drew.setCells g (i*k) news).setCells g ((n - 1)*k) b
theorem EB{P:Program}{f k:Nat}(hf:zT P f k){rows:List (List C)}{i:Nat}(hi:i<rows.length)(hk:∀r∈rows,r.length=k)(hsc:Qd rows) :
  aQ P f false [.mut none [.s .own rows],.val none [I (i:Nat)],.val none [I ((i+1:Nat):Int)]] [.mut none [.x],.val none [I (i:Nat)],.val none [I ((i+1:Nat):Int)]] .one [oE (dele rows i)]:=by
 refine⟨hf.1,λw S V vs hS hV hVV hA=>?_⟩
 match vs,hA with
 | [v,v1,v2],⟨hA,hA1,hA2,_⟩=>
  have L:=bC.rep1 (show bC w S (V 0) none [C.s .own rows] v from hA);have e1:v1=.int .i64 (i:Nat):=by
   have:=bC.rep1 (show bC w S NO none [C.v (.int .i64 (i:Nat))] v1 from hA1);cases this;rfl
  have e2:v2=.int .i64 ((i+1:Nat):Int):=by
   have:=bC.rep1 (show bC w S NO none [C.v (.int .i64 ((i+1:Nat):Int))] v2 from hA2);cases this;rfl
  subst e1 e2;have G:(dele rows i).length=rows.length - 1:=by unfold dele;simp;omega
  generalize O:C.s .own rows=cc at L;cases L with
  | nil _ o a ho=>cases O;simp at hi
  | own _ o g d n p rows' u f' ho hn H M hpos hF hu hff hd hc=>
   cases O;have hkk:d=k:=by rw[<-H _ (List.getElem_mem hi),<-hk _ (List.getElem_mem hi)]
   subst hkk;have N:∀a b r c,rows[a]? = some r->r[b]? = some c->∃z,c=.v z/\cel w g (a*d+b)=some z:=λa b r c D Q=>by
    obtain⟨z,rfl⟩:=hsc r (U1 D) c (U1 Q);have E:=hc a b r _ D Q;have J:=AC hn H D Q;have Z:=hu (a*d+b) (eI J.1 J.2);generalize u (a*d+b)=y at E Z;cases E;exact⟨_,rfl,Z⟩
   have hnk:n*d<=p*d:=I6 _ M;have j:∀q,q<p*d->∃z,cel w g q=some z/\z.oneCell'=true:=λq A=>(hF q A).2.1
   have e3:(i+1)*d+(n - (i+1))*d=n*d:=by rw[<-Nat.add_mul];congr 1;omega
   obtain⟨news,hnl,hnw,hn1⟩ : ∃news:List Value,news.length=(n - (i+1))*d/\(∀t u,news[t]? = some u->cel w g ((i+1)*d+t)=some u)/\∀u∈news,u.oneCell'=true:=by
    refine⟨(List.range ((n - (i+1))*d)).map λt=>(cel w g ((i+1)*d+t)).getD undef,by simp,λt y Y=>?_,λy hy=>?_⟩
    ·have hl:=(C2.1 Y).1
     simp only[X0,List.length_range]at hl;rw[Z2,X5 hl]at Y;obtain⟨z,l,-⟩:=j ((i+1)*d+t) ω;rw[W4,l]at Y;rw[l];simpa using Y
    ·obtain⟨t,Y,rfl⟩:=Z3.1 hy
     have hl:=List.mem_range.1 Y;obtain⟨z,l,F⟩:=j ((i+1)*d+t) ω;rw[l];exact F
   refine(hf.2 w g n p i news ω M hnl hnw hn1 (λq A=>?_)).mono λe w' ⟨he,zs,z1,z2,hw'⟩=>?_
   ·obtain⟨a1,⟨z,a2,a3⟩,a4⟩:=hF q ω
    exact⟨by show(cel w g q).isSome=true;rw[a2];rfl,U0 Prod.fst a4⟩
   have K:=Jc (w:=w) (by omega:i<n) (λq A=>by obtain⟨z,l,-⟩:=j q ω;exact⟨z,l⟩) hnl hnw z1 z2;rw[<-hw']at K;have R:∀q,q<p*d->V 0 g q:=λq A=>(hF q A).1
   have T:bA (λb o=>∃i,V i b o) w w':=K.keep.up λb o ⟨E,Z⟩=>⟨0,by rw[E];exact R o ω⟩
   have e4:(n - 1)*d+d=n*d:=by rw[show(n - 1)*d+d=(n - 1+1)*d by rw[Nat.add_mul,Nat.one_mul]];congr 1;omega
   have B:∀q,q<p*d->∃z,cel w' g q=some z/\z.oneCell'=true:=λq A=>by
    by_cases E:q<i*d
    ·rw[K.lo q E];exact j q A
    by_cases Z:q<(n - 1)*d
    ·rw[K.mid q ω Z];exact j _ ω
    by_cases h3:q<n*d
    ·exact K.hi q ω h3
    ·have J:=(hV 0 g q (R q A)).1
     rw[K.keep.cel g q J (λx=>h3 x.2)];exact j q A
   have hrow:cI w' NO (V 0) [oE (dele rows i)] (λ_=>.slice (some ⟨g,0,none⟩) (n - 1) p):=by
    refine row1 ?_;by_cases l:dele rows i=[]
    ·rw[l]
     have hn0:n - 1=0:=by rw[l]at G;simp at G;omega
     rw[hn0];exact .imm _ g 0 d 0 p [] (λ_=>undef) rfl (λr hr=>by cases hr) (T0 _) (λq A=>ω) (λa b r c D=>by simp at D)
    ·rw[B7 l]
     have U:0<n - 1:=by
      have:=List.length_pos_iff.2 l;omega
     refine .own _ .own g d (n - 1) p _ (λq=>(cel w' g q).getD undef) (λ_=>NO) trivial (by rw[G];omega) (λr hr=>H r ((eA ..).subset hr)) ω U (λq A=>⟨R q A,B q A,(K.fro g q).trans (hF q A).2.2⟩) (λq A=>?_) (λ_ _ _ _ h=>h.elim) (λ_ _ _ _ _ _ _ h=>h.elim) (λa b r c D Q=>?_)
     ·obtain⟨z,l,-⟩:=B q ω
      rw[l];rfl
     ·have hbk:b<d:=by
       have:=H r ((eA ..).subset (U1 D));rw[<-this];exact(C2.1 Q).1
      have hal:=(C2.1 D).1;rw[G]at hal;have hal2:a<n - 1:=ω
      have W:a*d+b<(n - 1)*d:=eI hal2 hbk;have X:∃z,c=.v z/\cel w' g (a*d+b)=some z:=by
       unfold dele at D;by_cases E:a<i
       ·rw[v4 (by rw[O1];omega),List.getElem?_take,C9 E]at D
        obtain⟨z,l,F⟩:=N a b r c D Q;refine⟨z,l,?_⟩;rw[K.lo _ (eI E hbk)];exact F
       ·rw[z4 (by rw[O1];omega),O1,List.getElem?_drop]at D
        rw[show i+1+(a - min i rows.length)=a+1 by omega]at D;obtain⟨z,l,F⟩:=N (a+1) b r c D Q;refine⟨z,l,?_⟩;have:i*d<=a*d:=I6 _ ω;rw[K.mid _ ω W,<-F]
        congr 1
        rw[Nat.add_mul,Nat.one_mul];omega
      obtain⟨z,rfl,l⟩:=X;simp only[l,Option.getD_some];exact .v _ _ (by obtain⟨z',hz',E⟩:=B (a*d+b) ω;rw[l]at hz';cases hz';exact E)
   exact⟨_,he,T,V 0,λ_=>NO,NO,λb o h=>.inl ⟨0,h⟩,λ_ _ _ h=>h.elim,λ_ _ h=>h.elim,λ_ _ _ _ _ h=>h.elim,λ_ _ _ _ h=>h.elim,λ_ _ _ h=>h.elim,λ_ _ _ h=>h.elim,rfl,hrow,⟨⟨rfl,λ_=>.slice (some ⟨g,0,none⟩) n p,rfl,row1 (.x _ _ rfl)⟩,trivial,trivial,trivial⟩⟩
  | _=>cases O
set_option maxRecDepth 100000
theorem AJ{w:World}{g n cap i k:Nat}{news:List Value}(c:news.length=(n - (i+1))*k)(b:n<=cap)(d:i<n)(h:∀t u,news[t]? = some u->cel w g ((i+1)*k+t)=some u):∃A:Addr,(if cap=i+1 then some (⟨g,0,none⟩ : Addr) else some ⟨g,(i+1)*k,none⟩)=some A/\∀t u,news[t]? = some u->w.drew.cell? (A.add t)=some u:=by
 by_cases e:cap=i+1
 ·refine⟨⟨g,0,none⟩,by simp[e],λt u a=>?_⟩
  have f:news.length=0:=by rw[c,show n - (i+1)=0 by omega,Nat.zero_mul]
  rw[List.length_eq_zero_iff.1 f]at a;simp at a
 ·refine⟨⟨g,(i+1)*k,none⟩,by simp[e],λt u a=>?_⟩
  rw[Addr.add_lit];exact h t u a
theorem JJ:∀w,(zeroValue 71).run Tryz.prog w=.ok (.agg #[.int .i64 0,.int .i64 0,.int .i64 0,.int .i64 0]) w:=λ_=>by kernel_rfl
theorem FW:zT Tryz.prog 131 4:=by
 refine⟨⟨_,Tryz.func131,by kernel_rfl,by kernel_rfl⟩,λw g n c i news r y o B C b=>?_⟩;obtain⟨A,X,a⟩:=AJ o y r B;have a:Hid (∀t u,news[t]? = some u->w.drew.cell? (A.add t)=some u):=a;have T:Hid (news.length=(n - (i+1))*4):=o;have Y:Hid (∀u∈news,u.oneCell'=true):=C;have Z:Hid (∀t,t<news.length->(w.drew.cell? ⟨g,0+i*4+t,none⟩).isSome=true/\w.drew.frozen? ⟨g,0+i*4+t,none⟩ = false):=λt ht=>by
  rw[Y5];exact b (i*4+t) ω
 obtain⟨p,d⟩ : ∃p,p=w.drew.setCells g (0+i*4) news:=⟨_,rfl⟩
 have K:∀q,q<n*4->(p.cell? ⟨g,q,none⟩).isSome=true/\p.frozen? ⟨g,q,none⟩ = false:=λq U=>by
  have D:∀j,j<news.length->∃z,cel w.drew g (0+i*4+j)=some z:=λj L=>by
   have:=(b (0+i*4+j) ω).1;exact Option.isSome_iff_exists.1 this
  refine⟨?_,by rw[d];exact(U0 Prod.fst (cG g _ news w.drew g q)).trans (b q U).2⟩;rw[d];by_cases h:0+i*4<=q/\q<0+i*4+news.length
  ·have:=cW D (Z1 (show q - (0+i*4)<news.length by omega))
   rw[show 0+i*4+(q - (0+i*4))=q by omega]at this;show(cel _ g q).isSome=true;rw[this];rfl
  ·show(cel _ g q).isSome=true
   rw[bP (λx=>h x.2)];exact(b q U).1
 obtain⟨M,E,F,G⟩:=zE (P:=Tryz.prog) p 39 71 4 (.agg #[.int .i64 0,.int .i64 0,.int .i64 0,.int .i64 0]) Tryz.underlying39 JJ rfl (by intro v V;simp[Value.cells]at V;subst V;rfl) g ((i+(n - (i+1)))*4) (n - (i+(n - (i+1)))) ω (by decide) (λj L=>(K _ ω).1) (λj L=>(K _ ω).2);have k:Hid (M.length=(n - (i+(n - (i+1))))*4):=E;have H:Hid (∀v∈M,v.oneCell'=true):=F;have W:Hid (p=w.drew.setCells g (0+i*4) news):=d;have hic:i<=c:=ω
 have N:i+1<=c:=ω
 have O:¬i=i+1:=ω
 have Q:i+1<=n:=r;have l:n - 1=i+(n - (i+1)):=ω
 clear d K b B C o E F;rw[l];generalize L:i+1=j at X a T G k N O Q l |-;obtain⟨J,R,S⟩ : ∃J,Tryz.prog.info? 71=some J/\J.size=4:=by
  have h:=(qU 71 _ rfl).1;cases e : Tryz.prog.info? 71 with
  | none=>rw[e]at h;cases h
  | some x=>rw[e]at h;simp only[W4,W0,Prod.mk.injEq]at h;exact⟨x,rfl,h.2.1⟩
 have mixed : Tryz.prog.follows .mixedOrders=true:=by kernel_rfl
 go_enter Tryz.func131,Tryz.ntmps131
 go_wp2_with fail
 go_region_law_o (refine step_append_room rfl (.tmp 22) (.tmp 25) 39 rfl 71 J 4 Tryz.underlying39 R S g 0 i c (by simp[Act.eval,Act.put]) A (n - j) (c - j) news (by simp[Act.eval,Act.put]) T.out a.out Y.out ω Z.out ?_;rw[<-W.out])
 go_wp2
 go_ret
 refine⟨rfl,M,by have:=k.out;omega,H.out,?_⟩;rw[W.out,Y5]
theorem Fj(xs:List bm):Qd (xs.map (bm.enc .own)):=λr b c a=>by
 obtain⟨s,-,rfl⟩:=Z3.1 b;simp[bm.enc]at a;rcases a with rfl|rfl|rfl|rfl<;>exact⟨_,rfl⟩
theorem FD(xs:List bm)(i:Nat)(a:i<xs.length):aQ Tryz.prog 131 false [.mut none [.s .own (xs.map (bm.enc .own))],.val none [I (i:Nat)],.val none [I ((i+1:Nat):Int)]] [.mut none [.x],.val none [I (i:Nat)],.val none [I ((i+1:Nat):Int)]] .one [oE ((dele xs i).map (bm.enc .own))]:=by
 have h:=EB FW (rows:=xs.map (bm.enc .own)) (i:=i) (by rw[X0];exact a) (aK λ_=>rfl) (Fj xs)
 rwa [show dele (xs.map (bm.enc .own)) i=(dele xs i).map (bm.enc .own) by simp[dele,X3,Y3]]at h
theorem Fg:∀w,(zeroValue 173).run Tryz.prog w=.ok (.agg #[.int .i64 0,.int .i64 0,.int .i64 0]) w:=λ_=>by kernel_rfl
theorem z7:zT Tryz.prog 134 3:=by
 refine⟨⟨_,Tryz.func134,by kernel_rfl,by kernel_rfl⟩,λw g n c i news r y o B C b=>?_⟩;obtain⟨A,X,a⟩:=AJ o y r B;have a:Hid (∀t u,news[t]? = some u->w.drew.cell? (A.add t)=some u):=a;have T:Hid (news.length=(n - (i+1))*3):=o;have Y:Hid (∀u∈news,u.oneCell'=true):=C;have Z:Hid (∀t,t<news.length->(w.drew.cell? ⟨g,0+i*3+t,none⟩).isSome=true/\w.drew.frozen? ⟨g,0+i*3+t,none⟩ = false):=λt ht=>by
  rw[Y5];exact b (i*3+t) ω
 obtain⟨p,d⟩ : ∃p,p=w.drew.setCells g (0+i*3) news:=⟨_,rfl⟩
 have K:∀q,q<n*3->(p.cell? ⟨g,q,none⟩).isSome=true/\p.frozen? ⟨g,q,none⟩ = false:=λq U=>by
  have D:∀j,j<news.length->∃z,cel w.drew g (0+i*3+j)=some z:=λj L=>by
   have:=(b (0+i*3+j) ω).1;exact Option.isSome_iff_exists.1 this
  refine⟨?_,by rw[d];exact(U0 Prod.fst (cG g _ news w.drew g q)).trans (b q U).2⟩;rw[d];by_cases h:0+i*3<=q/\q<0+i*3+news.length
  ·have:=cW D (Z1 (show q - (0+i*3)<news.length by omega))
   rw[show 0+i*3+(q - (0+i*3))=q by omega]at this;show(cel _ g q).isSome=true;rw[this];rfl
  ·show(cel _ g q).isSome=true
   rw[bP (λx=>h x.2)];exact(b q U).1
 obtain⟨M,E,F,G⟩:=zE (P:=Tryz.prog) p 38 173 3 (.agg #[.int .i64 0,.int .i64 0,.int .i64 0]) Tryz.underlying38 Fg rfl (by intro v V;simp[Value.cells]at V;subst V;rfl) g ((i+(n - (i+1)))*3) (n - (i+(n - (i+1)))) ω (by decide) (λj L=>(K _ ω).1) (λj L=>(K _ ω).2);have k:Hid (M.length=(n - (i+(n - (i+1))))*3):=E;have H:Hid (∀v∈M,v.oneCell'=true):=F;have W:Hid (p=w.drew.setCells g (0+i*3) news):=d;have hic:i<=c:=ω
 have N:i+1<=c:=ω
 have O:¬i=i+1:=ω
 have Q:i+1<=n:=r;have l:n - 1=i+(n - (i+1)):=ω
 clear d K b B C o E F;rw[l];generalize L:i+1=j at X a T G k N O Q l |-;obtain⟨J,R,S⟩ : ∃J,Tryz.prog.info? 173=some J/\J.size=3:=by
  have h:=(qU 173 _ rfl).1;cases e : Tryz.prog.info? 173 with
  | none=>rw[e]at h;cases h
  | some x=>rw[e]at h;simp only[W4,W0,Prod.mk.injEq]at h;exact⟨x,rfl,h.2.1⟩
 have mixed : Tryz.prog.follows .mixedOrders=true:=by kernel_rfl
 go_enter Tryz.func134,Tryz.ntmps134
 go_wp2_with fail
 go_region_law_o (refine step_append_room rfl (.tmp 22) (.tmp 25) 38 rfl 173 J 3 Tryz.underlying38 R S g 0 i c (by simp[Act.eval,Act.put]) A (n - j) (c - j) news (by simp[Act.eval,Act.put]) T.out a.out Y.out ω Z.out ?_;rw[<-W.out])
 go_wp2
 go_ret
 refine⟨rfl,M,by have:=k.out;omega,H.out,?_⟩;rw[W.out,Y5]
theorem Ak(xs:List ax):Qd (xs.map (ax.enc .own)):=λr b c a=>by
 obtain⟨s,-,rfl⟩:=Z3.1 b;simp[ax.enc]at a;rcases a with rfl|rfl|rfl<;>exact⟨_,rfl⟩
theorem Ah(xs:List ax)(i:Nat)(a:i<xs.length):aQ Tryz.prog 134 false [.mut none [.s .own (xs.map (ax.enc .own))],.val none [I (i:Nat)],.val none [I ((i+1:Nat):Int)]] [.mut none [.x],.val none [I (i:Nat)],.val none [I ((i+1:Nat):Int)]] .one [oE ((dele xs i).map (ax.enc .own))]:=by
 have h:=EB z7 (rows:=xs.map (ax.enc .own)) (i:=i) (by rw[X0];exact a) (aK λ_=>rfl) (Ak xs)
 rwa [show dele (xs.map (ax.enc .own)) i=(dele xs i).map (ax.enc .own) by simp[dele,X3,Y3]]at h
theorem HH:∀w,(zeroValue 75).run Tryz.prog w=.ok (.agg #[.int .i64 0,.int .i64 0,.int .i64 0]) w:=λ_=>by kernel_rfl
theorem DH:zT Tryz.prog 188 3:=by
 refine⟨⟨_,Tryz.func188,by kernel_rfl,by kernel_rfl⟩,λw g n c i news r y o B C b=>?_⟩;obtain⟨A,X,a⟩:=AJ o y r B;have a:Hid (∀t u,news[t]? = some u->w.drew.cell? (A.add t)=some u):=a;have T:Hid (news.length=(n - (i+1))*3):=o;have Y:Hid (∀u∈news,u.oneCell'=true):=C;have Z:Hid (∀t,t<news.length->(w.drew.cell? ⟨g,0+i*3+t,none⟩).isSome=true/\w.drew.frozen? ⟨g,0+i*3+t,none⟩ = false):=λt ht=>by
  rw[Y5];exact b (i*3+t) ω
 obtain⟨p,d⟩ : ∃p,p=w.drew.setCells g (0+i*3) news:=⟨_,rfl⟩
 have K:∀q,q<n*3->(p.cell? ⟨g,q,none⟩).isSome=true/\p.frozen? ⟨g,q,none⟩ = false:=λq U=>by
  have D:∀j,j<news.length->∃z,cel w.drew g (0+i*3+j)=some z:=λj L=>by
   have:=(b (0+i*3+j) ω).1;exact Option.isSome_iff_exists.1 this
  refine⟨?_,by rw[d];exact(U0 Prod.fst (cG g _ news w.drew g q)).trans (b q U).2⟩;rw[d];by_cases h:0+i*3<=q/\q<0+i*3+news.length
  ·have:=cW D (Z1 (show q - (0+i*3)<news.length by omega))
   rw[show 0+i*3+(q - (0+i*3))=q by omega]at this;show(cel _ g q).isSome=true;rw[this];rfl
  ·show(cel _ g q).isSome=true
   rw[bP (λx=>h x.2)];exact(b q U).1
 obtain⟨M,E,F,G⟩:=zE (P:=Tryz.prog) p 37 75 3 (.agg #[.int .i64 0,.int .i64 0,.int .i64 0]) Tryz.underlying37 HH rfl (by intro v V;simp[Value.cells]at V;subst V;rfl) g ((i+(n - (i+1)))*3) (n - (i+(n - (i+1)))) ω (by decide) (λj L=>(K _ ω).1) (λj L=>(K _ ω).2);have k:Hid (M.length=(n - (i+(n - (i+1))))*3):=E;have H:Hid (∀v∈M,v.oneCell'=true):=F;have W:Hid (p=w.drew.setCells g (0+i*3) news):=d;have hic:i<=c:=ω
 have N:i+1<=c:=ω
 have O:¬i=i+1:=ω
 have Q:i+1<=n:=r;have l:n - 1=i+(n - (i+1)):=ω
 clear d K b B C o E F;rw[l];generalize L:i+1=j at X a T G k N O Q l |-;obtain⟨J,R,S⟩ : ∃J,Tryz.prog.info? 75=some J/\J.size=3:=by
  have h:=(qU 75 _ rfl).1;cases e : Tryz.prog.info? 75 with
  | none=>rw[e]at h;cases h
  | some x=>rw[e]at h;simp only[W4,W0,Prod.mk.injEq]at h;exact⟨x,rfl,h.2.1⟩
 have mixed : Tryz.prog.follows .mixedOrders=true:=by kernel_rfl
 go_enter Tryz.func188,Tryz.ntmps188
 go_wp2_with fail
 go_region_law_o (refine step_append_room rfl (.tmp 22) (.tmp 25) 37 rfl 75 J 3 Tryz.underlying37 R S g 0 i c (by simp[Act.eval,Act.put]) A (n - j) (c - j) news (by simp[Act.eval,Act.put]) T.out a.out Y.out ω Z.out ?_;rw[<-W.out])
 go_wp2
 go_ret
 refine⟨rfl,M,by have:=k.out;omega,H.out,?_⟩;rw[W.out,Y5]
theorem Et(xs:List au):Qd (xs.map (au.enc .own)):=λr b c a=>by
 obtain⟨s,-,rfl⟩:=Z3.1 b;simp[au.enc]at a;rcases a with rfl|rfl|rfl<;>exact⟨_,rfl⟩
theorem Bw(xs:List au)(i:Nat)(a:i<xs.length):aQ Tryz.prog 188 false [.mut none [.s .own (xs.map (au.enc .own))],.val none [I (i:Nat)],.val none [I ((i+1:Nat):Int)]] [.mut none [.x],.val none [I (i:Nat)],.val none [I ((i+1:Nat):Int)]] .one [oE ((dele xs i).map (au.enc .own))]:=by
 have h:=EB DH (rows:=xs.map (au.enc .own)) (i:=i) (by rw[X0];exact a) (aK λ_=>rfl) (Et xs)
 rwa [show dele (xs.map (au.enc .own)) i=(dele xs i).map (au.enc .own) by simp[dele,X3,Y3]]at h
theorem ya(c:aA)(k:Nat)(a:Int)(g:bo c=true)(y:k<=3):ao Tryz.prog 225 false [.val (some 1) (aA.enc .imm c),.val none [I (k:Nat)],.val none [I a]] (.tup [some 1,none]) (vQ c k a):=by
 obtain⟨B,q⟩:=dL g;have r:aA.sml c:=⟨ω,λl u=>by have:=q l u;show l.length<=1048576;omega⟩
 have h:=Ey c k r;rw[g,O0 ω]at h;have t:=og c r;have j:=DR g k a;have n:=m0 (js c k a) j;have b:=oQ (c:=c) (k:=k) ω;have w:=q _ (am (xs:=c.Lists) (i:=k) ω);have o:=CX (js c k a);rw[w9]at o;have d:=BS c k a;unfold vQ at d |-;cases e:bo (js c k a)<;>rw[e]at n
 ·have p:cput c k a=none:=by unfold cput;rw[C8 λx=>by have:=x.2.2.2;rw[R2,e]at this;cases this]
  rw[p]at d |-;refine fO 35 [(4,267,[17,18,19,20,21,22,23,24,25,26,28,0,1,2,3,4,5,6,7,8,9,10,1000,1001,1002,11,12])] Tryz.func225 rfl ?_ (.inr d)
  repeat'(first|refine gO ?_|(conv=>whnf);first|with_reducible refine CB (aa b) ?_|refine CA ?_|refine CB (dX b) ?_|refine CG rfl (dX b) rfl ?_|refine C7 (h) ?_|refine C7 (t) ?_|refine Lq.one rfl rfl (aa b) rfl (Z0 rfl) rfl rfl ?_|refine CG rfl (aa b) rfl ?_|refine CM rfl rfl (dX b) rfl (Z0 rfl) (show [C.s du.own ((c.Lists.map (aD .own)).set k (aD .own (nth c.Lists k++[a])))]=_ from by simp only[List.set_cons_zero,List.set_set,R2];rfl) ?_|refine Ap.sm (aK λ_=>rfl) rfl (by simp;omega) (by decide) (fB _ _ _) ?_|refine CD (n) ⟨⟨rfl,o⟩,trivial⟩ ?_)
  rfl
 ·have p:cput c k a=some (js c k a):=by unfold cput;rw[C9 ⟨g,ω,ω,by rw[R2];exact e⟩,R2]
  rw[p]at d |-;rw[show(some (js c k a)).getD c=js c k a from rfl,w9]at d |-;refine fO 35 [(4,267,[17,18,19,20,21,22,23,24,25,26,28,0,1,2,3,4,5,6,7,8,9,10,1000,1001,1002,11,12])] Tryz.func225 rfl ?_ (.inr d)
  repeat'(first|refine gO ?_|(conv=>whnf);first|with_reducible refine CB (aa b) ?_|refine CA ?_|refine CB (dX b) ?_|refine CG rfl (dX b) rfl ?_|refine C7 (h) ?_|refine C7 (t) ?_|refine Lq.one rfl rfl (aa b) rfl (Z0 rfl) rfl rfl ?_|refine CG rfl (aa b) rfl ?_|refine CM rfl rfl (dX b) rfl (Z0 rfl) (show [C.s du.own ((c.Lists.map (aD .own)).set k (aD .own (nth c.Lists k++[a])))]=_ from by simp only[List.set_cons_zero,List.set_set,R2];rfl) ?_|refine Ap.sm (aK λ_=>rfl) rfl (by simp;omega) (by decide) (fB _ _ _) ?_|refine CD (n) ⟨⟨rfl,o⟩,trivial⟩ ?_)
  rfl
theorem ER(c:Nat)(W:World):Calls Tryz.prog 224 #[.slice none 0 c] W λe g=>∃B q h,e=.returned (.slice B 0 0)/\g=Sort.grow (W.drewN q) h:=by
 have q22:∀(w:World)(a:Option Addr)(n c b d:Nat),(binOp .eql 44 (.slice a n c) (.slice none b d)).run Tryz.prog w=.ok (.bool a.isNone) w:=λw a n c b d=>Lib.run_eql_slice_nil w _ _ a n c b d Tryz.underlying44
 go_enter Tryz.func224,Tryz.ntmps224
 go_wp2
 go_ret
 exact⟨none,0,#[],rfl,by simp[Sort.grow,World.drewN]⟩
theorem DB(a:Addr)(c:Nat)(W:World):Calls Tryz.prog 224 #[.slice (some a) 0 c] W λe g=>∃B q h,e=.returned (.slice B 0 0)/\g=Sort.grow (W.drewN q) h:=by
 have q22:∀(w:World)(a:Option Addr)(n c b d:Nat),(binOp .eql 44 (.slice a n c) (.slice none b d)).run Tryz.prog w=.ok (.bool a.isNone) w:=λw a n c b d=>Lib.run_eql_slice_nil w _ _ a n c b d Tryz.underlying44
 go_enter Tryz.func224,Tryz.ntmps224
 go_wp2
 go_ret
 exact⟨some ⟨W.heap.size,0,none⟩,0,#[.cells #[] 185],rfl,by rw[Sort.alloc_eq_grow];rfl⟩
theorem ru(xs:List aL)(o:xs.length<=1048576):ao Tryz.prog 224 false [.val none (ce .imm xs)] .one (ce .own xs):=by
 by_cases d:xs=[]
 ·subst d
  refine⟨⟨_,Tryz.func224,by kernel_rfl,by kernel_rfl⟩,λw S p t g=>?_⟩
  match p,g with
  | [v],⟨g,_⟩=>
   have c:=bC.rep1 (show bC w S NO none [C.s .imm []] v from g);obtain⟨l,b,rfl⟩:=c.slice;have r:Calls Tryz.prog 224 #[.slice l 0 b] w λe n=>∃B q i,e=.returned (.slice B 0 0)/\n=Sort.grow (w.drewN q) i:=by
    cases l with
    | none=>exact ER b w
    | some a=>exact DB a b w
   refine r.mono λe n ⟨B,q,i,d,j⟩=>?_
   subst j;exact⟨.slice B 0 0,d,wY w q i,NO,NO,λ_ _ h=>h.elim,λ_ _ h=>h.elim,λ_ _ h=>h.elim,rfl,row1 (.nil _ .own B trivial)⟩
 ·have k:xs.map (aL.enc .imm)≠[]:=λe=>d (List.map_eq_nil_iff.1 e)
  refine fO 8 [] Tryz.func224 rfl ?_ (.inr (nl _))
  repeat'(first|refine gO ?_|(conv=>whnf);first|refine CA ?_|refine Nn.mk k ?_|refine CN (λ_=>rfl) (λ_=>rfl) o (by decide) ?_)
  rfl
theorem zX(q:bz)(a:aL)(F:q.Lst.length<=4096)(i:fw q=true)(d:0<=a.Class/\a.Class<=3/\0<=a.Addr/\0<=a.Since)(o:∀y∈q.Lst,y.Since<=a.Since)(p:∀y∈q.Lst,y.Addr≠a.Addr) :
  ao Tryz.prog 138 false [.val (some 2) (bz.enc .imm q),.val (some 3) (aL.enc .imm a)] (.tup [some 2,none]) (Lw q a):=by
 have b:bz.sml q:=⟨ω,λ_ _=>trivial⟩
 have r:=pA q b;have j:=tp q b;rw[i]at j;have l:=ri q.Lst a ω;have t:q.Lst.length=0\/(nth q.Lst (q.Lst.length - 1)).Since<=a.Since:=by
  by_cases e:q.Lst.length=0
  ·exact .inl e
  ·exact .inr (o _ (am ω))
 have g:k4 q.Lst a=true:=by
  unfold k4;rw[O0 ⟨d.1,d.2.1,d.2.2.1,d.2.2.2,t⟩,show q.Lst.any (d5 a.Addr)=false by rw[List.any_eq_false];intro y u;unfold d5;simpa using p y u];rfl
 rw[g]at l;have w:=(ix.1 i).2.2.2;have h:=GR q a;have c:=w8 q.Room (q.Lst++[a]);simp only[v3,List.length_singleton]at c;have G:(q.Lst++[a]).length=q.Lst.length+1:=by simp
 refine fO 51 [(6,7,[28,29,30,31,32,33,34])] Tryz.func138 rfl ?_ (.inr h)
 repeat'(first|refine gO ?_|(conv=>whnf);first|refine CA ?_|refine C7 (r) ?_|refine C7 (j) ?_|refine C7 (l) ?_|refine Ap.sm (aK λ_=>rfl) rfl (by simp;omega) (by decide) (fB (aL.enc .own) q.Lst a) ?_)
 (conv=>whnf)
 refine Lp.fz 6 (ι:=Nat) (λk=>[(2,.hold .box (bz.enc .imm q)),(4,.hold .box [I 0,.z]),(6,.hold .box (bz.enc .imm ⟨q.Room,q.Lst++[a]⟩)),(7,.hold .one [I (k:Nat)])]) (λk=>k<=ij q.Room (q.Lst++[a])) (λk=>ij q.Room (q.Lst++[a]) - k) 0 ?_ (T0 _) λk H=>?_
 ·(repeat'(first|exact trivial|rfl|exact CI rfl (show Jy (d9 (bz.enc .own ⟨q.Room,q.Lst++[a]⟩)) (bz.enc .imm ⟨q.Room,q.Lst++[a]⟩) by rw[bz.enc_fz];exact jY _)|refine CI ?_ ?_))
 have B:((q.Lst++[a]).drop k).length<=5000:=by rw[z3];omega
 have C:((q.Lst++[a]).take k).length<=5000:=by rw[O1];omega
 have n:=n9 ((q.Lst++[a]).drop k) ⟨ω,λ_ _=>trivial⟩;by_cases D:k<ij q.Room (q.Lst++[a])
 ·have E:q.Room<quarCells ((q.Lst++[a]).drop k) ((q.Lst++[a]).drop k).length:=sS D
  repeat'(first|refine gD ?_|(conv=>whnf);first|refine CA ?_|refine CU k rfl (by rw[X0];show k<=(q.Lst++[a]).length;omega) (aK λ_=>rfl) Y3 ?_|refine C7 (n) ?_|refine CA ?_)
  ((conv=>whnf);refine CC (k+1) ω ω ?_;(exact wB))
 ·obtain rfl:k=ij q.Room (q.Lst++[a]):=ω
  have E:quarCells ((q.Lst++[a]).drop (ij q.Room (q.Lst++[a]))) ((q.Lst++[a]).drop (ij q.Room (q.Lst++[a]))).length<=q.Room:=u6 w.1 _
  repeat'(first|refine gD ?_|(conv=>whnf);first|refine CA ?_|refine CU (ij q.Room (q.Lst++[a])) rfl (by rw[X0];show ij q.Room (q.Lst++[a])<=(q.Lst++[a]).length;omega) (aK λ_=>rfl) Y3 ?_|refine CT (ij q.Room (q.Lst++[a])) rfl (by rw[X0];show ij q.Room (q.Lst++[a])<=(q.Lst++[a]).length;omega) (aK λ_=>rfl) X3 ?_|refine C7 (n) ?_|refine C7 (ru ((q.Lst++[a]).take (ij q.Room (q.Lst++[a]))) ω) ?_|refine C7 (ru ((q.Lst++[a]).drop (ij q.Room (q.Lst++[a]))) ω) ?_)
  rfl
theorem Jp(h:ab)(p:Int):ao Tryz.prog 104 false [.val (some 24) (ab.enc .imm h),.val none [I p]] .one [B (eZ h p)]:=by
 cases e:h.Meshing
 all_goals
  have b:ab.enc .imm h=(ab.enc .imm h).set 18 (B h.Meshing):=rfl;rw[e]at b;rw[b];refine fO 23 [] Tryz.func104 rfl ?_
  repeat'(first|refine gO ?_|(conv=>whnf);first|with_reducible (first|refine Bf.D (λa=>?_) (λa=>?_)|refine Bf.E (λa=>?_) (λa=>?_)|refine Bf.N (λa=>?_) (λa=>?_))|refine CA ?_)
  all_goals exact U0 (λz=>[B z]) ((by unfold eZ;rw[e];first|(simp[*];done)|(simp[*];rw[I4];simp;try omega)|(rw[I4];simp[*];try omega)))
theorem AL(h:ab):ao Tryz.prog 66 false [.val (some 24) (ab.enc .imm h)] .one [I (dQ h:Nat)]:=by
 refine fO 9 [] Tryz.func66 rfl ?_
 repeat'(first|refine gO ?_|(conv=>whnf);first|refine CA ?_)
 rfl
theorem dc(c:C):M6 c c:=(jY [c]).1
def cE(h:ab)(s l o:C):List C:=[.s .own (h.Kernel.Machine.Frames.Cells.map (aD .own)),.s .own (h.Kernel.Machine.Frames.Used.map (rB .own)),.s .own (h.Kernel.Machine.Table.Entries.map (bh.enc .own)),I h.Kernel.Calls,.s .own (h.Kernel.Refuse.map (rI .own)),.s .own (h.Free.map (ay.enc .own)),s,l,o,.s .own (h.Caches.map (aA.enc .own)),.s .own (h.Mail.Buffers.map (cz .own)),.s .own (h.Mail.Inbox.map (aD .own)),I h.Quar.Room,.s .own (h.Quar.Lst.map (aL.enc .own)),I h.Seed,I h.Clock,I h.Limit,I h.Next,B h.Meshing,I h.Job.Plan.Keep,I h.Job.Plan.Move,.s .own (h.Job.Plan.Cells.map (rI .own)),I h.Job.Phase,I h.Job.Next]
def oS(h:ab):C:=oE (h.Spans.map (au.enc .own))
def oL(h:ab):C:=oE (h.Larges.map (ax.enc .own))
def oO(h:ab):C:=oE (h.Objs.map (bm.enc .own))
def gG(h:ab):List C:=cE h (oS h) (oL h) (oO h)
theorem J8(rows:List (List C)):fz (oE rows)=fz (.s .own rows):=by cases rows<;>rfl
theorem uM{rows:List (List C)} : oE rows=.s .own rows\/(rows=[]/\oE rows=.s .imm []):=by cases rows with|nil=>exact .inr ⟨rfl,rfl⟩|cons=>exact .inl rfl
theorem PZ(h:ab){s l o:C}(a:fz s=.s .imm (h.Spans.map (au.enc .imm)))(b:fz l=.s .imm (h.Larges.map (ax.enc .imm)))(c:fz o=.s .imm (h.Objs.map (bm.enc .imm))):d9 (cE h s l o)=ab.enc .imm h:=by
 have d:=ab.enc_fz h;have e:d9 (cE h s l o)=(((d9 (ab.enc .own h)).set 6 (fz s)).set 7 (fz l)).set 8 (fz o):=rfl;rw[e,d,a,b,c];rfl
theorem PO(h:ab):fz (oS h)=.s .imm (h.Spans.map (au.enc .imm)):=(J8 _).trans (xa _)
theorem N4(h:ab):fz (oL h)=.s .imm (h.Larges.map (ax.enc .imm)):=(J8 _).trans (sY _)
theorem PY(h:ab):fz (oO h)=.s .imm (h.Objs.map (bm.enc .imm)):=(J8 _).trans (u7 _)
theorem ow(h:ab):d9 (gG h)=ab.enc .imm h:=PZ h (PO h) (N4 h) (PY h)
theorem EZ{rows:List (List C)}(h:N7 rows):NU (oE rows):=by cases rows with|nil=>exact⟨.inr rfl,trivial⟩|cons r a=>exact⟨.inl λe=>(by cases e),h⟩
theorem kG(h:ab):gw (gG h):=by
 have a:=ab.enc_fr h;simp only[ab.enc,gw]at a;unfold gG cE;simp only[gw];refine⟨a.1,a.2.1,a.2.2.1,a.2.2.2.1,a.2.2.2.2.1,a.2.2.2.2.2.1,EZ ?_,EZ ?_,EZ ?_,a.2.2.2.2.2.2.2.2.2⟩
 ·exact a.2.2.2.2.2.2.1.2
 ·exact a.2.2.2.2.2.2.2.1.2
 ·exact a.2.2.2.2.2.2.2.2.1.2
theorem EP{w:World}{S Y:ac}{rows:List (List C)}{v:Value}(h:ec w S Y (.s .own rows) v):ec w S Y (oE rows) v:=by
 cases rows with
 | cons=>exact h
 | nil=>
  cases h with
  | nil _ o a d=>exact .nil _ .imm a trivial
  | own _ o g k n e rows u f d i j b c l p q r t=>simp at i;omega
theorem Lc{w:World}{S Y:ac}{h:ab}{u:Nat->Value}(d:cI w S Y (ab.enc .own h) u):cI w S Y (gG h) u:=by
 obtain⟨f,b,e,g⟩:=d;refine⟨f,λj c a=>?_,e,g⟩;have i:gG h=(((ab.enc .own h).set 6 (oS h)).set 7 (oL h)).set 8 (oO h):=rfl;rw[i]at a;by_cases k:j=8
 ·subst k
  have:c=oO h:=by simpa[ab.enc] using a.symm
  rw[this];exact EP (b 8 _ rfl)
 by_cases l:j=7
 ·subst l
  have:c=oL h:=by simpa[ab.enc] using a.symm
  rw[this];exact EP (b 7 _ rfl)
 by_cases n:j=6
 ·subst n
  have:c=oS h:=by simpa[ab.enc] using a.symm
  rw[this];exact EP (b 6 _ rfl)
 ·rw[List.getElem?_set_ne ω,List.getElem?_set_ne ω,List.getElem?_set_ne ω]at a
  exact b j c a
theorem pB(h:ab)(a:ab.sml h):ao Tryz.prog 65 false [.val (some 24) (ab.enc .imm h)] .agg (gG h):=by
 obtain⟨b,c⟩:=yi h a;refine⟨b,λw S d g i=>(c w S d g i).mono λe w1 j=>?_⟩;obtain⟨v,k,l,X,S1,n,o,p,q,r⟩:=j;exact⟨v,k,l,X,S1,n,o,p,q,Lc r⟩
theorem Jj(h:ab)(s l o:C)(a:Int)(k:Nat)(v:Int)(b:0<=a):cE {h with Kernel:=dY h.Kernel a (k+1)} s l o=(cE {h with Kernel:=dY h.Kernel a k} s l o).set 0 (.s .own (((dY h.Kernel a k).Machine.Frames.Cells.map (aD .own)).set (ar h.Kernel.Machine.Table (a / 16)).Frame.toNat ((aD .own (iG (nth h.Kernel.Machine.Frames.Cells (ed h.Kernel a)) (a % 16).toNat k)).set 0 (.s .own (((iG (nth h.Kernel.Machine.Frames.Cells (ed h.Kernel a)) (a % 16).toNat k).map (rI .own)).set (a % 16+k).toNat (splice (rI .own v) 0 [I 0])))))):=by
 have e:(a % 16+k).toNat=(a % 16).toNat+k:=ω
 rw[e];simp[cE,dY,O5,iG,aD,splice,ed]
 rfl
theorem tR(h:ab)(s l o:C)(a:Int)(n:Nat)(p:aB h.Kernel=true)(e:0<=a/\a<512)(r:0<=(ar h.Kernel.Machine.Table (a / 16)).Frame/\(ar h.Kernel.Machine.Table (a / 16)).Frame<h.Kernel.Machine.Frames.Cells.length)(y:a % 16+n<=16)(t:(nth h.Kernel.Machine.Frames.Cells (ed h.Kernel a)).length=16) :
  aQ Tryz.prog 136 false [.ptr (cE h s l o),.val none [I a],.val none [I (n:Nat)]] [.ptr (cE {h with Kernel:=dY h.Kernel a n} s l o),.val none [I a],.val none [I (n:Nat)]] (.tup []) []:=by
 have g:=bt p;have w:=gi h.Kernel.Machine.Table (a / 16) g.1.2;have c:ed h.Kernel a<h.Kernel.Machine.Frames.Cells.length:=by unfold ed;omega
 refine fM 36 [] [] [(0,0),(0,0),(0,0)] Tryz.func136 rfl (λu q=>?_) (.inr trivial)
 repeat'(first|refine gO ?_|(conv=>whnf);first|refine CA ?_|refine CL (by decide) ?_|refine CJ (lM e) ?_|refine CD (w) ⟨⟨rfl,CV _⟩,⟨rfl,rfl⟩,trivial⟩ ?_)
 rw[show cE h s l o=cE {h with Kernel:=dY h.Kernel a 0} s l o by rw[AG h a c]]
 (conv=>whnf)
 refine CE (ι:=Nat) (λk=>[(0,.hold .box (cE {h with Kernel:=dY h.Kernel a k} s l o)),(1,.hold .one [I (a)]),(2,.hold .one [I ((n:Nat):Int)]),(6,.hold .one [I ((ar h.Kernel.Machine.Table (a / 16)).Frame)]),(7,.hold .one [I ((k:Nat):Int)])]) (λk=>k<=n) (λk=>n - k) (0) ?_ (T0 _) λk p=>?_
 ·exact wC
 have j:a.tmod 16=a % 16:=eS e.1;have b:(dY h.Kernel a k).Machine.Frames.Cells[(ar h.Kernel.Machine.Table (a / 16)).Frame.toNat]? = some (iG (nth h.Kernel.Machine.Frames.Cells (ed h.Kernel a)) (a % 16).toNat k):=I3 c;by_cases B:k<n
 ·have d:=ah (xs:=iG (nth h.Kernel.Machine.Frames.Cells (ed h.Kernel a)) (a % 16).toNat k) (i:=(a % 16+k).toNat) (by rw[lI,t];omega)
  repeat'(first|refine gD ?_|(conv=>whnf);first|refine CA ?_|refine CL (by decide) ?_|refine CR j ?_|refine CK r.1 (aa b) ?_|refine CG rfl (aa b) rfl ?_|refine CK ω (aa d) ?_|refine Pu.two rfl rfl (aa b) rfl rfl rfl (aa d) rfl (X2 _) (Jj h s l o a k _ e.1) ?_)
  ((conv=>whnf);refine CC (k+1) ω ω ?_;(exact wC))
 ·obtain rfl:k=n:=ω
  repeat'(first|refine gD ?_|(conv=>whnf);first|refine CA ?_)
  refine CF rfl rfl ?_;exact wC
theorem nv(h:ab)(r:ay)(n:Nat)(a:aB h.Kernel=true)(e:h.Kernel.Calls≠100000)(b:h.Free.length<=1048576)(l:r.Len=n/\0<=r.At/\r.At<=1000/\n<=1000) :
  aQ Tryz.prog 135 false [.ptr (gG h),.val (some 2) (ay.enc .imm r)] [.ptr (gG {h with Kernel:=d3 h.Kernel r.At n,Free:=(bU (dQ h) h.Free r).getD h.Free}),.val (some 2) (ay.enc .imm r)] (.tup []) []:=by
 have c:=a;have g:dQ h<=32:=(bx.1 (aC.1 a).2.2.1).2.2;have d:=AL {h with Kernel:=d3 h.Kernel r.At n};rw[show dQ {h with Kernel:=d3 h.Kernel r.At n} = dQ h from(gx _ _ _).1]at d;have i:=xz (dQ h:Nat) h.Free r ⟨ω,ω⟩ ⟨b,λ_ _=>trivial⟩;refine fM 44 [] [(5,272,[29,30,31,32,33,34,35,36,37,38,39,28,40,41,42,43,0,1,2,3,4,5,6,7,8,9,10,11,12,13,14,15,16,1013])] [(0,0),(0,0)] Tryz.func135 rfl (λu q=>?_) (.inr trivial)
 repeat'(first|refine gO ?_|(conv=>whnf);first|refine CA ?_)
 (conv=>whnf)
 refine CE (ι:=Nat) (λk=>[(0,.hold .box (gG {h with Kernel:=d3 h.Kernel r.At k})),(3,.hold .box (ay.enc .imm r)),(4,.hold .one [I ((r.At+k))])]) (λk=>k<=n) (λk=>n - k) (0) ?_ (T0 _) λk a=>?_
 ·exact wC
 by_cases o:k<n
 ·have j:=Dj (d3 h.Kernel r.At k) (r.At+k) (jI c _ _) (by rw[(ia _ _ _).1];exact e)
  repeat'(first|refine gD ?_|(conv=>whnf);first|refine CA ?_|refine CD (j) ⟨⟨rfl,CO _⟩,⟨rfl,rfl⟩,trivial⟩ ?_)
  ((conv=>whnf);refine CC (k+1) ω ω ?_;(exact wC))
 ·obtain rfl:k=n:=ω
  repeat'(first|refine gD ?_|(conv=>whnf);first|refine CA ?_|refine CD (d) ⟨⟨rfl,ow _⟩,trivial⟩ ?_|refine CD (i) ⟨⟨rfl,rfl⟩,⟨rfl,d8 h.Free⟩,⟨rfl,rfl⟩,trivial⟩ ?_|refine CA ?_)
  refine CF rfl rfl ?_;exact wC
theorem jT{c a:C}(h:a=c):M6 c a:=by subst h;exact dc _
theorem K6(k:af)(p:Int):d3 k p 1=cb k p:=by show cb k (p+((0:Nat):Int))=_;rw[show p+((0:Nat):Int)=p by omega]
theorem rp{h:ab}(a:h.Spans≠[]):gG h=cE h (.s .own (h.Spans.map (au.enc .own))) (oL h) (oO h):=by
 unfold gG oS;rw[B7 λe=>a (List.map_eq_nil_iff.1 e)]
theorem N0(h:ab):oL h=.s .own (h.Larges.map (ax.enc .own))\/(h.Larges=[]/\oL h=.s .imm []):=by
 rcases uM (rows:=h.Larges.map (ax.enc .own)) with e|⟨a,b⟩
 ·exact .inl e
 ·exact .inr ⟨List.map_eq_nil_iff.1 a,b⟩
theorem jf{α:Type}{xs:List α}{i:Nat}(h:i<xs.length):xs≠[]:=λe=>by subst e;cases h
theorem xH(h:ab)(i:Nat)(j:aB h.Kernel=true)(k:h.Kernel.Calls≠100000)(b:h.Free.length<=1048576)(c:i<h.Spans.length)(l:h.Spans.length<=1048576)(n:0<=(nth h.Spans i).Page/\(nth h.Spans i).Page<=31) :
  aQ Tryz.prog 105 false [.ptr (gG h),.val none [I (i:Nat)]] [.ptr (gG (giveP h i)),.val none [I (i:Nat)]] (.tup []) []:=by
 have d:=ah c;have g:=Bw h.Spans i c;have a:=nv {h with Spans:=dele h.Spans i} ⟨(nth h.Spans i).Page,1⟩ 1 j k b ⟨rfl,n.1,by show(nth h.Spans i).Page<=1000;omega,ω⟩;rw[show d3 ({h with Spans:=dele h.Spans i} : ab).Kernel (ay.mk (nth h.Spans i).Page 1).At 1=cb h.Kernel (nth h.Spans i).Page from K6 _ _]at a;have o:gG {h with Spans:=dele h.Spans i} = cE h (oE ((dele h.Spans i).map (au.enc .own))) (oL h) (oO h):=rfl;rw[rp (jf c)];rcases uM (rows:=(dele h.Spans i).map (au.enc .own)) with e|⟨-,e⟩
 all_goals
  rw[o]at a;rw[e]at g a;refine fM 28 [(188,[1,0,0]),(135,[2,0])] [] [(0,0),(0,0)] Tryz.func105 rfl (λu q=>?_) (.inr trivial)
  repeat'(first|refine gO ?_|(conv=>whnf);first|with_reducible refine CB (aa d) ?_|refine CA ?_|refine CG rfl (aa d) rfl ?_|refine CH (g) (.inl rfl) ?_|refine CH (a) (.inl rfl) ?_)
  refine CF rfl rfl ?_;exact wB
theorem LB{h:ab}{E:List Int}(c:bn h E){i:Nat}(d:i<h.Spans.length){a:Int}(b:eL (nth h.Spans i) a):denotes h.Spans h.Larges a = ⟨1,i,dt (nth h.Spans i) a,0⟩:=by
 rw[gF c.L d ⟨b.1,b.2.1⟩];unfold ns;rw[b.2.2.2,b.2.2.1];rfl
theorem tY(h:ab)(E:List Int)(a:Int)(b:bn h (a::E))(G:h.Kernel.Calls≠100000):aQ Tryz.prog 147 false [.ptr (gG h),.val none [I a]] [.ptr (gG (freeA h a)),.val none [I a]] (.tup []) []:=by
 obtain⟨c,t,H⟩:=b.at (b.hin a (R1 ..));have J:=(b.hin a (R1 ..)).bd b;have w:=b.lens;have K:=w.spans;have M:=w.larges;unfold freeA;generalize qV h a=i at c t;have l:=b.L.sok _ (am c);have N:=aF l;have d:=ah c;have j:=jE h.Spans h.Larges a ⟨ω,λ_ _=>trivial⟩ ⟨ω,λ_ _=>trivial⟩;rw[LB b c t]at j;have y:=yn (nth h.Spans i) (dt (nth h.Spans i) a) l t.2.2.2;have P:=b.give c t;have n:=Jp (clrS h i a) (nth h.Spans i).Page;rw[show eZ (clrS h i a) (nth h.Spans i).Page=eZ h (nth h.Spans i).Page from rfl]at n;have o:i<(clrS h i a).Spans.length:=by unfold clrS;simp only[I1];exact c
 have B:(nth (clrS h i a).Spans i).Page=(nth h.Spans i).Page:=by unfold clrS;simp only[ci,true_and];rw[C9 c];rfl
 have p:=xH (clrS h i a) i b.ker G (by show h.Free.length<=_;have:=w.free;omega) o (by unfold clrS;simp only[I1];omega) (by rw[B];omega);have g:gG (clrS h i a)=cE h (.s .own ((h.Spans.map (au.enc .own)).set i (au.enc .own (jx (nth h.Spans i) (dt (nth h.Spans i) a))))) (oL h) (oO h):=by
  rw[rp (jf o)];show cE h (.s .own ((h.Spans.set i _).map _)) (oL h) (oO h)=_;rw[O5]
 have r:=ow (clrS h i a);rw[g]at r p;have k:((h.Spans.map (au.enc .own)).set i (au.enc .own (jx (nth h.Spans i) (dt (nth h.Spans i) a))))[i]? = some (au.enc .own (jx (nth h.Spans i) (dt (nth h.Spans i) a))):=lY c;rw[rp (jf c)];have C:=N4 h;unfold freeS;rcases N0 h with e|⟨D,e⟩
 all_goals
  try rw[D]at j
  rw[e]at p r C g |-;by_cases F:(jx (nth h.Spans i) (dt (nth h.Spans i) a)).Bits=0
  ·cases O:eZ h (nth h.Spans i).Page<;>rw[O]at n
   ·rw[C9 ⟨F,rfl⟩]
    refine fM 64 [(105,[2,0])] [(0,11,[6,7,8,9,10,11,12,13,14,15,4]),(2,277,[20,21,22,23,24,25,26,27,28,29,30,31,32,33,34,35,36,19,37,38,39,0,1,2,3,4,5,6,7,8,9,10,11,12,13,14,15,16,17,18,19,20,21,1019]),(3,9,[40,41,42,43,44,45,46,47,5]),(4,9,[48,49,50,51,52,53,54,55,56])] [(0,0),(0,0)] Tryz.func147 rfl (λu q=>?_) (.inr trivial)
    repeat'(first|refine gA ?_|(conv=>whnf);first|refine CA ?_|refine CD (j) ⟨⟨rfl,dC _⟩,⟨rfl,gY _⟩,⟨rfl,rfl⟩,trivial⟩ ?_|refine CD (j) ⟨⟨rfl,dC _⟩,⟨rfl,rfl⟩,⟨rfl,rfl⟩,trivial⟩ ?_|refine CB (aa d) ?_|refine CB k ?_|refine CG rfl (aa d) rfl ?_|refine CG rfl k rfl ?_|refine C7 (y) ?_|refine CA ?_|refine CM rfl rfl (aa d) rfl (Z0 rfl) rfl ?_|refine CD (n) ⟨⟨rfl,r⟩,⟨rfl,rfl⟩,trivial⟩ ?_|refine CH (p) (.inl rfl) ?_)
    refine CF rfl rfl ?_;exact wB
   ·rw[C8 (λx=>by cases x.2),g]
    refine fM 64 [(105,[2,0])] [(0,11,[6,7,8,9,10,11,12,13,14,15,4]),(2,277,[20,21,22,23,24,25,26,27,28,29,30,31,32,33,34,35,36,19,37,38,39,0,1,2,3,4,5,6,7,8,9,10,11,12,13,14,15,16,17,18,19,20,21,1019]),(3,9,[40,41,42,43,44,45,46,47,5]),(4,9,[48,49,50,51,52,53,54,55,56])] [(0,0),(0,0)] Tryz.func147 rfl (λu q=>?_) (.inr trivial)
    repeat'(first|refine gA ?_|(conv=>whnf);first|refine CA ?_|refine CD (j) ⟨⟨rfl,dC _⟩,⟨rfl,gY _⟩,⟨rfl,rfl⟩,trivial⟩ ?_|refine CD (j) ⟨⟨rfl,dC _⟩,⟨rfl,rfl⟩,⟨rfl,rfl⟩,trivial⟩ ?_|refine CB (aa d) ?_|refine CB k ?_|refine CG rfl (aa d) rfl ?_|refine CG rfl k rfl ?_|refine C7 (y) ?_|refine CA ?_|refine CM rfl rfl (aa d) rfl (Z0 rfl) rfl ?_|refine CD (n) ⟨⟨rfl,r⟩,⟨rfl,rfl⟩,trivial⟩ ?_|refine CH (p) (.inl rfl) ?_)
    refine CF rfl rfl ?_;exact wB
  ·rw[C8 (λx=>F x.1),g]
   refine fM 64 [(105,[2,0])] [(0,11,[6,7,8,9,10,11,12,13,14,15,4]),(2,277,[20,21,22,23,24,25,26,27,28,29,30,31,32,33,34,35,36,19,37,38,39,0,1,2,3,4,5,6,7,8,9,10,11,12,13,14,15,16,17,18,19,20,21,1019]),(3,9,[40,41,42,43,44,45,46,47,5]),(4,9,[48,49,50,51,52,53,54,55,56])] [(0,0),(0,0)] Tryz.func147 rfl (λu q=>?_) (.inr trivial)
   repeat'(first|refine gA ?_|(conv=>whnf);first|refine CA ?_|refine CD (j) ⟨⟨rfl,dC _⟩,⟨rfl,gY _⟩,⟨rfl,rfl⟩,trivial⟩ ?_|refine CD (j) ⟨⟨rfl,dC _⟩,⟨rfl,rfl⟩,⟨rfl,rfl⟩,trivial⟩ ?_|refine CB (aa d) ?_|refine CB k ?_|refine CG rfl (aa d) rfl ?_|refine CG rfl k rfl ?_|refine C7 (y) ?_|refine CA ?_|refine CM rfl rfl (aa d) rfl (Z0 rfl) rfl ?_|refine CD (n) ⟨⟨rfl,r⟩,⟨rfl,rfl⟩,trivial⟩ ?_|refine CH (p) (.inl rfl) ?_)
   refine CF rfl rfl ?_;exact wB
theorem A2(h:ab)(E:List Int)(t:Nat)(a:Int)(b:bn h (a::E))(y:t<h.Caches.length)(F:h.Kernel.Calls≠100000):aQ Tryz.prog 139 false [.ptr (gG h),.val none [I (t:Nat)],.val none [I a]] [.ptr (gG (recyc t h a)),.val none [I (t:Nat)],.val none [I a]] (.tup []) []:=by
 obtain⟨d,B,G⟩:=b.at (b.hin a (R1 ..));have H:=(b.hin a (R1 ..)).bd b;have C:=b.lens;have J:=C.spans;have K:=C.larges;have o:=b.cach _ (am y);have p:=tY h E a b F;unfold recyc;generalize qV h a=i at d B;have r:=aF (b.L.sok _ (am d));have n:=ah d;have k:=ah y;have g:=jE h.Spans h.Larges a ⟨ω,λ_ _=>trivial⟩ ⟨ω,λ_ _=>trivial⟩;rw[LB b d B]at g;have j:=ya (nth h.Caches t) (nth h.Spans i).Class.toNat a o ω;rw[Int.toNat_of_nonneg r.2.2.1]at j;unfold vQ at j;have l:∀c,gG {h with Caches:=h.Caches.set t c} = (cE h (.s .own (h.Spans.map (au.enc .own))) (oL h) (oO h)).set 9 (.s .own ((h.Caches.map (aA.enc .own)).set t (aA.enc .own c))):=λc=>by
  rw[rp (h:={h with Caches:=h.Caches.set t c}) (jf d)];show cE {h with Caches:=h.Caches.set t c} _ (oL h) (oO h)=_;simp[cE,O5]
 rw[rp (jf d)]at p |-;rcases N0 h with e|⟨w,e⟩
 all_goals
  try rw[w]at g
  rw[e]at p l |-;cases D:cput (nth h.Caches t) (nth h.Spans i).Class a with
  | none=>
   rw[D]at j;refine fM 54 [(147,[2,0])] [(0,11,[9,10,11,12,13,14,15,16,17,18,6]),(2,278,[23,24,25,26,27,28,29,30,31,32,33,34,35,36,37,38,39,40,22,41,42,7,0,1,2,3,4,5,6,7,8,9,10,11,12,13,14,15,16,17,18,19,20,21,22,1020,23]),(4,6,[44,45,46,47,48,49])] [(0,0),(0,0),(0,0)] Tryz.func139 rfl (λu q=>?_) (.inr trivial)
   repeat'(first|refine gA ?_|(conv=>whnf);first|refine CA ?_|refine CD (g) ⟨⟨rfl,dC _⟩,⟨rfl,gY _⟩,⟨rfl,rfl⟩,trivial⟩ ?_|refine CD (g) ⟨⟨rfl,dC _⟩,⟨rfl,rfl⟩,⟨rfl,rfl⟩,trivial⟩ ?_|refine CB (aa n) ?_|refine CB (aa k) ?_|refine CG rfl (aa n) rfl ?_|refine CG rfl (aa k) rfl ?_|refine CD (j) ⟨⟨rfl,CX _⟩,⟨rfl,rfl⟩,⟨rfl,rfl⟩,trivial⟩ ?_|refine CA ?_|refine CH (p) (.inl rfl) ?_)
   refine CF rfl rfl ?_;exact wB
  | some c=>
   rw[D]at j;simp only;rw[l];refine fM 54 [(147,[2,0])] [(0,11,[9,10,11,12,13,14,15,16,17,18,6]),(2,278,[23,24,25,26,27,28,29,30,31,32,33,34,35,36,37,38,39,40,22,41,42,7,0,1,2,3,4,5,6,7,8,9,10,11,12,13,14,15,16,17,18,19,20,21,22,1020,23]),(4,6,[44,45,46,47,48,49])] [(0,0),(0,0),(0,0)] Tryz.func139 rfl (λu q=>?_) (.inr trivial)
   repeat'(first|refine gA ?_|(conv=>whnf);first|refine CA ?_|refine CD (g) ⟨⟨rfl,dC _⟩,⟨rfl,gY _⟩,⟨rfl,rfl⟩,trivial⟩ ?_|refine CD (g) ⟨⟨rfl,dC _⟩,⟨rfl,rfl⟩,⟨rfl,rfl⟩,trivial⟩ ?_|refine CB (aa n) ?_|refine CB (aa k) ?_|refine CG rfl (aa n) rfl ?_|refine CG rfl (aa k) rfl ?_|refine CD (j) ⟨⟨rfl,CX _⟩,⟨rfl,rfl⟩,⟨rfl,rfl⟩,trivial⟩ ?_|refine CA ?_|refine CM rfl rfl (aa k) rfl (Z0 rfl) rfl ?_)
   refine CF rfl rfl ?_;exact wB
theorem NL{h:ab}{t n:Nat}(e:(nth h.Objs n).Thread=t):aH h t (n+1)=((freeOb (aH h t n).1 t (eX (aH h t n).1 (nth h.Objs n).Addr)).1,if(freeOb (aH h t n).1 t (eX (aH h t n).1 (nth h.Objs n).Addr)).2=0 then(aH h t n).2+1 else(aH h t n).2):=by rw[aH,C9 e]
theorem PP{h:ab}{t n:Nat}(e:¬(nth h.Objs n).Thread=t):aH h t (n+1)=aH h t n:=by rw[aH,C8 e]
theorem FA.sml{h:ab}{t n:Nat}(f:FA h t n)(a:ab.sml h):ab.sml (aH h t n).1:=
 f.inv.lens.sml f.inv.ker (by rw[f.mail];exact a.2.2.2.2.2.2.1) (by rw[f.job];exact a.2.2.2.2.2.2.2.2)
theorem pN{h:ab}{t:Int}(e:mN h t=false):kB h t=(h,0):=by unfold kB;rw[e];rfl
theorem Ed{h:ab}{t:Int}(e:mN h t=true):kB h t=aH h t.toNat h.Objs.length:=by unfold kB;rw[e];rfl
def Jw(c:aA)(k:Nat):aA:=⟨c.Lists.set k []⟩
theorem MU(c:aA)(k:Nat):aA.enc .own (Jw c k)=[.s .own ((c.Lists.map (aD .own)).set k (aD .own []))]:=by simp[aA.enc,Jw,O5]
theorem KU(xs:List Int):([]:List Int).map (rI .imm)=(xs.map (rI .imm)).drop xs.length:=by rw[List.drop_eq_nil_of_le (by rw[X0];omega)];rfl
theorem Kn(xs:List Int):xs.map (rI .imm)=(xs.map (rI .imm)).take xs.length:=by rw[C6 (by rw[X0];omega)]
def Qj(c:aA)(k:Nat):List C:=aA.enc .own (Jw c k)++aD .own (nth c.Lists k)
theorem Ps(c:aA)(k:Nat):gw (Qj c k):=aP (aA.enc_fr _) (bG _)
theorem uj(c:aA)(k:Nat)(d:bo c=true)(p:k<=3):ao Tryz.prog 390 false [.val (some 1) (aA.enc .imm c),.val none [I (k:Nat)],.val none [I 8]] (.tup [some 1,none]) (Qj c k):=by
 obtain⟨q,e⟩:=dL d;have g:aA.sml c:=⟨ω,λl j=>by have:=e l j;show l.length<=1048576;omega⟩
 have h:=xo c k g;rw[d,O0 ω]at h;have n:=iw c g;have a:=oQ (c:=c) (k:=k) ω;have o:=e _ (am (xs:=c.Lists) (i:=k) ω);have b:=Ps c k;unfold Qj at b |-;rw[MU]at b |-;refine fO 52 [(5,268,[29,30,31,32,33,34,35,36,37,38,39,41,0,1,2,3,4,5,6,7,8,9,10,11,1000,1001,1002,12,13]),(6,265,[42,43,44,45,46,47,48,49,50,0,1,2,3,4,5,6,7,8,9,1000,10,11])] Tryz.func390 rfl ?_ (.inr b)
 repeat'(first|refine gO ?_|(conv=>whnf);first|with_reducible refine CB (aa a) ?_|refine CA ?_|refine CG rfl (aa a) rfl ?_|refine C7 (h) ?_|refine C7 (n) ?_|refine CR (z:=((nth c.Lists k).length:Int)) (by simp;omega) ?_|refine CU (nth c.Lists k).length rfl (by rw[X0];omega) (aK λ_=>rfl) (KU _) ?_|refine CT (nth c.Lists k).length rfl (by rw[X0];omega) (aK λ_=>rfl) (Kn _) ?_|refine CA ?_|refine CS (λ_=>rfl) (λ_=>rfl) (by simp) (by decide) ?_|refine CN (λ_=>rfl) (λ_=>rfl) (by simp) (by decide) ?_|refine CS (λ_=>rfl) (λ_=>rfl) ω (by decide) ?_|refine CN (λ_=>rfl) (λ_=>rfl) ω (by decide) ?_|refine CM rfl rfl (aa a) rfl (Z0 rfl) rfl ?_)
 rfl
theorem oo{k:Int} : ∀{l s s2 c:List Int},(∀x∈s2,x∈s)->qp k s l=some c->(∀x∈s,x∈c)/\∃d,qp k s2 l=some d/\∀x∈d,x∈c
 | [],s,s2,c,h,e=>by
  simp only[qp,W0]at e |-;subst e;exact⟨λ_ h=>h,s2,rfl,h⟩
 | a::l,s,s2,c,h,e=>by
  simp only[qp]at e |-;split at e
  ·rename_i g
   rw[C9 (show good k s2 a from⟨g.1,g.2.1,g.2.2.1,λx=>g.2.2.2 (h a x)⟩)];obtain⟨f,i⟩:=oo (l:=l) (s:=s++[a]) (s2:=s2++[a]) (λx b=>by
     rcases W2.1 b with b|b
     · exact W2.2 (.inl (h x b))
     · exact W2.2 (.inr b)) e
   exact⟨λx b=>f x (W2.2 (.inl b)),i⟩
  ·cases e
theorem sL:∀{a:List (List Int)}{k:Nat}{s s2:List Int},(∀x∈s2,x∈s)->(fU k s a).isSome=true->(fU k s2 a).isSome=true
 | [],_,_,_,_,_=>rfl
 | l::a,k,s,s2,h,e=>by
  simp only[fU,ef]at e |-;split at e
  ·rename_i g
   rw[C9 g];cases b:qp k s l with
   | none=>rw[b]at e;cases e
   | some i=>
    rw[b]at e;obtain⟨-,c,d,f⟩:=oo h b;rw[d];exact sL f e
  ·cases e
theorem Dq:∀{a:List (List Int)}{k:Nat}{s s2:List Int}(i:Nat),(∀x∈s2,x∈s)->(fU k s a).isSome=true->(fU k s2 (a.set i [])).isSome=true
 | [],_,_,_,_,_,_=>rfl
 | l::a,k,s,s2,i,h,e=>by
  simp only[fU,ef]at e;split at e
  ·rename_i g
   cases b:qp k s l with
   | none=>rw[b]at e;cases e
   | some o=>
    rw[b]at e;obtain⟨c,d,f,j⟩:=oo h b;cases i with
    | zero=>
     simp only[List.set_cons_zero,fU,ef];rw[C9 ⟨by simp,g.2⟩];exact sL (λx n=>c x (h x n)) e
    | succ i=>
     simp only[List.set_cons_succ,fU,ef];rw[C9 g,f];exact Dq i j e
  ·cases e
theorem NS{c:aA}(h:bo c=true)(k:Nat):bo (Jw c k)=true:=by
 unfold bo at h |-;simp only[I0,C0]at h |-;exact⟨by simp only[Jw,I1];exact h.1,Dq k (λ_ h=>h) h.2⟩
def spilt(h:ab)(t k:Nat):ab:={h with Caches:=h.Caches.set t (Jw (nth h.Caches t) k)}
theorem bn.spilt{h:ab}{E:List Int}{t k:Nat}(f:bn h E)(i:t<h.Caches.length)(n:k<(nth h.Caches t).Lists.length):bn (spilt h t k) (nth (nth h.Caches t).Lists k++E):=by
 have p:(E++holders h).Perm (nth (nth h.Caches t).Lists k++E++holders (Ab.spilt h t k)):=by
  refine List.perm_iff_count.2 λb=>?_
  have r:=i7 (λc:aA=>c.Lists.flatten) b h.Caches t (Jw (nth h.Caches t) k) i;have q:=i7 (λx:List Int=>x) b (nth h.Caches t).Lists k [] n;rw[<-ka,<-ka]at q;simp only[List.count_nil]at q;simp only[Jw]at r;simp only[holders,cq,Ab.spilt,Jw,I5];omega
 have g:∀c∈(Ab.spilt h t k).Caches,c∈h.Caches\/c=Jw (nth h.Caches t) k:=λc u=>U5 u
 exact {f with
   nc:=by show(h.Caches.set ..).length=_;rw[I1];exact f.nc
   cach:=λc a=>by
     rcases g c a with a|rfl
     · exact f.cach c a
     · exact NS (f.cach _ (am i)) k
   onu:=by show ∀o∈h.Objs,1<=o.Id/\o.Id<=h.Next - 1/\0<=o.Thread/\o.Thread<=(h.Caches.set t _).length - 1;rw[I1];exact f.onu
   hca:=λc a j l b d=>by
     rcases g c a with a|rfl
     · exact f.hca c a j l b d
     · simp only[Jw,I1]at l
       simp only[Jw,ci]at d;by_cases e:k=j
       · subst e
         rw[C9 ⟨rfl,l⟩]at d;cases d
       · rw[C8 λx=>e x.1]at d
         exact f.hca _ (am i) _ l b d
   hin:=λb d=>by
     rcases W2.1 d with d|d
     · exact(f.hca _ (am i) k n b d).any
     · exact f.hin b d
   nd:=p.nodup_iff.1 f.nd
   mem:=λb=>by rw[<-p.mem_iff];exact f.mem b}
def freeAs(h:ab)(az:List Int):ab:=az.foldl freeA h
theorem gZ:∀(az:List Int)(h:ab),(freeAs h az).Caches=h.Caches/\(freeAs h az).Objs=h.Objs/\(freeAs h az).Kernel.Calls=h.Kernel.Calls/\(freeAs h az).Mail=h.Mail/\(freeAs h az).Job=h.Job/\(freeAs h az).Clock=h.Clock/\(freeAs h az).Quar=h.Quar/\(freeAs h az).Kernel.Refuse=h.Kernel.Refuse
 | [],h=>⟨rfl,rfl,rfl,rfl,rfl,rfl,rfl,rfl⟩
 | a::az,h=>by
  obtain⟨b,c,d,e,f,g,i,j⟩:=gZ az (freeA h a);obtain⟨k,l,n,o,p,q,r,t⟩:=vY h (qV h a) a;exact⟨b.trans k,c.trans l,d.trans n,e.trans o,f.trans p,g.trans q,i.trans r,j.trans t⟩
theorem bn.freeAs{E:List Int} : ∀{az:List Int}{h:ab},bn h (az++E)->bn (freeAs h az) E
 | [],_,b=>b
 | a::az,h,b=>bn.freeAs (az:=az) (h:=Ab.freeA h a) b.freeA
theorem tt(h:ab)(az:List Int)(k:Nat)(a:k<az.length):freeAs h (az.take (k+1))=freeA (freeAs h (az.take k)) (nth az k):=by
 rw[Z4,ah a];simp[freeAs]
def flushN(t:Nat)(h:ab):Nat->ab × Nat
 | 0=>(h,0)
 | k+1=>(freeAs (spilt (flushN t h k).1 t k) (nth (nth (flushN t h k).1.Caches t).Lists k),(flushN t h k).2+(nth (nth (flushN t h k).1.Caches t).Lists k).length)
theorem jZ{t:Nat}{h:ab}(c:bn h [])(e:t<h.Caches.length):∀{k:Nat},k<=4->bn (flushN t h k).1 []/\(flushN t h k).1.Caches.length=h.Caches.length/\(flushN t h k).1.Kernel.Calls=h.Kernel.Calls/\(flushN t h k).1.Objs=h.Objs/\(flushN t h k).1.Mail=h.Mail/\(flushN t h k).1.Job=h.Job/\(flushN t h k).2<=8*k
 | 0,_=>⟨c,rfl,rfl,rfl,rfl,rfl,T0 _⟩
 | k+1,y=>by
  obtain⟨d,f,g,i,j,l,A⟩:=jZ c e (k:=k) ω;have a:t<(flushN t h k).1.Caches.length:=ω
  obtain⟨B,n⟩:=dL (d.cach _ (am a));have b:k<(nth (flushN t h k).1.Caches t).Lists.length:=ω
  have o:=d.spilt a b;have C:=n _ (am b);obtain⟨p,q,r,u,w,-⟩:=gZ (nth (nth (flushN t h k).1.Caches t).Lists k) (Ab.spilt (flushN t h k).1 t k);refine⟨bn.freeAs o,?_,r.trans g,q.trans i,u.trans j,w.trans l,?_⟩
  ·show(Ab.freeAs _ _).Caches.length=_
   rw[p];simp only[Ab.spilt,I1];exact f
  ·simp only[flushN];omega
theorem Dn{h:ab}{t k:Nat}(d:bn h [])(e:t<h.Caches.length)(j:k<4):t<(flushN t h k).1.Caches.length/\bo (nth (flushN t h k).1.Caches t)=true/\k<(nth (flushN t h k).1.Caches t).Lists.length/\(nth (nth (flushN t h k).1.Caches t).Lists k).length<=8/\(flushN t h k).2<=8*k:=by
 obtain⟨f,l,-,-,-,-,g⟩:=jZ d e (k:=k) ω;have a:t<(flushN t h k).1.Caches.length:=ω
 have c:=f.cach _ (am a);obtain⟨n,i⟩:=dL c;have b:k<(nth (flushN t h k).1.Caches t).Lists.length:=ω
 exact⟨a,c,b,i _ (am b),g⟩
theorem KQ{h:ab}{t k j:Nat}(a:bn h [])(b:t<h.Caches.length)(d:k<4)(e:j<(nth (nth (flushN t h k).1.Caches t).Lists k).length):bn (freeAs (spilt (flushN t h k).1 t k) ((nth (nth (flushN t h k).1.Caches t).Lists k).take j)) (nth (nth (nth (flushN t h k).1.Caches t).Lists k) j::(nth (nth (flushN t h k).1.Caches t).Lists k).drop (j+1)):=by
 obtain⟨f,g⟩:=Dn a b d;have c:=((jZ a b (k:=k) ω).1).spilt f g.2.1;rw[List.append_nil]at c;refine bn.freeAs ?_;rw[<-g9 e,List.take_append_drop];exact c
theorem yd(h:ab)(t:Nat)(i:bn h [])(l:t<h.Caches.length):aQ Tryz.prog 362 false [.ptr (b6 h),.val none [I (t:Nat)]] [.ptr (b6 (flushN t h 4).1),.val none [I (t:Nat)]] .one [I ((flushN t h 4).2:Nat)]:=by
 refine fM 48 [(364,[2,0])] [(6,6,[26,27,28,29,30,31])] [(0,0),(0,0)] Tryz.func362 rfl (λu q=>?_)
 repeat'(first|refine gO ?_|fail)
 (conv=>whnf)
 refine CE (ι:=Nat) (λk=>[(0,.hold .box (b6 (flushN t h k).1)),(1,.hold .one [I ((t:Nat):Int)]),(5,.hold .one [I (((flushN t h k).2:Nat):Int)]),(6,.hold .one [I ((k:Nat):Int)])]) (λk=>k<=4) (λk=>4 - k) (0) ?_ (T0 _) λk D=>?_
 ·repeat'(first|exact trivial|rfl |exact jT a|exact dc _|refine CI ?_ ?_|(exact xv (by first|omega|(simp only;omega)|(simp;omega))))
 by_cases n:k<4
 ·obtain⟨o,p,E,F,G⟩:=Dn i l n
  have r:=uj (nth (flushN t h k).1.Caches t) k p ω;have c:=λj=>KQ i l n (j:=j)
  have e:=ah o;have w:(flushN t h (k+1)).1=freeAs (spilt (flushN t h k).1 t k) (nth (nth (flushN t h k).1.Caches t).Lists k):=rfl;have y:(flushN t h (k+1)).2=(flushN t h k).2+(nth (nth (flushN t h k).1.Caches t).Lists k).length:=rfl;have a:C.s du.own ((spilt (flushN t h k).1 t k).Caches.map (aA.enc .own))=C.s du.own (((flushN t h k).1.Caches.map (aA.enc .own)).set t (aA.enc .own (Jw (nth (flushN t h k).1.Caches t) k))):=by simp[spilt,O5]
  repeat'(first|refine gD ?_|(conv=>whnf);first|refine CB (aa e) ?_|refine CG rfl (aa e) rfl ?_|refine CD (r) ⟨⟨rfl,CX _⟩,⟨rfl,rfl⟩,⟨rfl,rfl⟩,trivial⟩ ?_|refine CA ?_|refine CM rfl rfl (aa e) rfl (Z0 rfl) rfl ?_)
  generalize (flushN t h k).1=d at *;generalize (flushN t h k).2=m at *
  (conv=>whnf)
  refine CE (ι:=Nat) (λj=>[(0,.hold .box (b6 (freeAs (spilt d t k) ((nth (nth d.Caches t).Lists k).take j)))),(1,.hold .one [I ((t:Nat):Int)]),(5,.hold .one [I (((m+j):Nat):Int)]),(6,.hold .one [I ((k:Nat):Int)]),(8,.hold .one (aD .own (nth (nth d.Caches t).Lists k))),(9,.hold .one [I ((j:Nat):Int)])]) (λj=>j<=(nth (nth d.Caches t).Lists k).length) (λj=>(nth (nth d.Caches t).Lists k).length - j) (0) ?_ (T0 _) λj H=>?_
  ·repeat'(first|exact trivial|rfl |exact jT a|exact dc _|refine CI ?_ ?_|(exact xv (by first|omega|(simp only;omega)|(simp;omega))))
  by_cases g:j<(nth (nth d.Caches t).Lists k).length
  ·have b:=ah g
   have B:=lS _ _ _ (c j g)
   repeat'(first|refine gD ?_|(conv=>whnf);first|refine CB (aa b) ?_|refine CG rfl (aa b) rfl ?_|refine CH (B) (.inl rfl) ?_)
   ((conv=>whnf);refine CC (j+1) ω ω ?_)
   rw[tt _ _ _ g];exact wC
  ·obtain rfl:j=(nth (nth d.Caches t).Lists k).length:=ω
   rw[V4]
   repeat'(first|refine gD ?_|fail)
   ((conv=>whnf);refine CC (k+1) ω ω ?_)
   rw[w,y];exact wC
 ·obtain rfl:k=4:=ω
  repeat'(first|refine gD ?_|fail)
  refine CF rfl rfl ?_;exact wC
def G0(s:Int):Int:=(1103515245*s+12345) % 1073741824
theorem FQ(s:Int):0<=G0 s/\G0 s<=1073741823:=by unfold G0;omega
theorem x8(s:Int)(b:0<=s/\s<=1073741823):ao Tryz.prog 377 false [.val none [I s]] .one [I (G0 s)]:=by
 have a:=aE s 0 1073741823;rw[O0 b]at a;refine fO 10 [] Tryz.func377 rfl ?_
 repeat'(first|refine gO ?_|(conv=>whnf);first|refine CA ?_|refine CR (z:=G0 s) (eS ω) ?_|refine C7 (a) ?_|refine CL (by decide) ?_)
 rfl
def K5(s n:Int):Int:=G0 s / 1024 % n
theorem w6(s:Int){n:Int}(h:1<=n):0<=K5 s n/\K5 s n<n:=⟨Int.emod_nonneg _ ω,Int.emod_lt_of_pos _ ω⟩
theorem tj(s n:Int)(b:0<=s/\s<=1073741823)(c:1<=n/\n<=1000):ao Tryz.prog 343 false [.val none [I s],.val none [I n]] (.tup [none,none]) [I (K5 s n),I (G0 s)]:=by
 have d:=aE s 0 1073741823;have e:=aE n 1 1000;rw[O0 b]at d;rw[O0 c]at e;have g:=FQ s;have i:=w6 s c.1;have a:(G0 s).tdiv 1024=G0 s / 1024:=Int.tdiv_eq_ediv_of_nonneg g.1;have h:((G0 s).tdiv 1024).tmod n=K5 s n:=by rw[a];exact eS ω
 refine fO 23 [] Tryz.func343 rfl ?_ (.inr ⟨trivial,trivial,trivial⟩)
 repeat'(first|refine gO ?_|(conv=>whnf);first|refine CA ?_|refine C7 (d) ?_|refine C7 (e) ?_|refine C7 (x8 s b) ?_|refine CL (by decide) ?_|refine CL ω ?_|refine CR h ?_|refine CJ (fg (by rw[a];omega) (by rw[a];omega)) ?_)
 rfl
def qN(n:Nat):List Int:=(List.range n).map λ(i:Nat)=>(i:Int)
theorem FS(n:Nat):qN (n+1)=qN n++[(n:Int)]:=by unfold qN;rw[List.range_succ,v5];rfl
theorem y6(n:Nat):(qN n).length=n:=by simp[qN]
def vp(xs:List Int)(i k:Nat):List Int:=(xs.set i (nth xs k)).set k (nth xs i)
theorem HC(xs:List Int)(i k:Nat):(vp xs i k).length=xs.length:=by simp[vp]
def gy(n:Nat)(s:Int):Nat->List Int × Int
 | 0=>(qN n,s)
 | j+1=>(vp (gy n s j).1 (n - 1 - j) (K5 (gy n s j).2 ((n - 1 - j:Nat)+1:Int)).toNat,G0 (gy n s j).2)
theorem lO(n:Nat){s:Int}(a:0<=s/\s<=1073741823):∀j,(gy n s j).1.length=n/\0<=(gy n s j).2/\(gy n s j).2<=1073741823
 | 0=>⟨y6 n,a⟩
 | j+1=>⟨by simp only[gy,HC];exact(lO n a j).1,FQ _⟩
def shuf(n:Nat)(s:Int):List Int × Int:=gy n s (n - 1)
theorem K4(xs:List Int)(i k:Nat):(vp xs i k).map (rI .own)=((xs.map (rI .own)).set i (rI .own (nth xs k))).set k (rI .own (nth xs i)):=by simp[vp,O5]
theorem H9{xs:List Int}{i k:Nat}(v:Int)(a:k<xs.length):((xs.map (rI .own)).set i (rI .own v))[k]? = some (rI .own (nth (xs.set i v) k)):=by
 rw[<-O5];exact aa (ah (by rw[I1];exact a))
theorem xG(n:Nat)(s:Int)(d:0<=s/\s<=1073741823)(w:n<=64):ao Tryz.prog 393 false [.val none [I s],.val none [I (n:Nat)]] (.tup [none,none]) (aD .own (shuf n s).1++[I (shuf n s).2]):=by
 have e:=aE s 0 1073741823;have g:=aE (n:Nat) 0 64;rw[O0 d]at e;rw[O0 ω]at g;refine fO 63 [] Tryz.func393 rfl ?_ (.inr (aP (bG _) ⟨trivial,trivial⟩))
 repeat'(first|refine gO ?_|(conv=>whnf);first|refine CA ?_|refine C7 (e) ?_|refine C7 (g) ?_)
 (conv=>whnf)
 refine CE (ι:=Nat) (λk=>[(0,.hold .one [I (s)]),(1,.hold .one [I ((n:Nat):Int)]),(6,.hold .one (aD .own (qN k))),(7,.hold .one [I ((k:Nat):Int)])]) (λk=>k<=n) (λk=>n - k) (0) ?_ (T0 _) λk y=>?_
 ·exact wB
 have h:=y6 k;by_cases B:k<n
 ·repeat'(first|refine gD ?_|(conv=>whnf);first|refine CA ?_|refine Ap.sm (aK λ_=>rfl) rfl (by simp;omega) (by decide) (fB (rI .own) (qN k) (k:Int)) ?_)
  ((conv=>whnf);refine CC (k+1) ω ω ?_)
  rw[FS];exact wB
 ·obtain rfl:k=n:=ω
  repeat'(first|refine gD ?_|(conv=>whnf);first|refine CA ?_)
  (conv=>whnf)
  refine CE (ι:=Nat) (λj=>[(0,.hold .one [I ((gy k s j).2)]),(6,.hold .one (aD .own (gy k s j).1)),(8,.hold .one [I (((k:Int) - 1 - j))])]) (λj=>(j<=k - 1/\j<=k)) (λj=>k - j) (0) ?_ (⟨T0 _,T0 _⟩) λj C=>?_
  ·exact wB
  obtain⟨D,l,o⟩:=lO k d j;by_cases E:j<k - 1
  ·have q:(k:Int) - 1 - j=((k - 1 - j:Nat):Int):=ω
   have r:=w6 (gy k s j).2 (n:=((k - 1 - j:Nat)+1:Int)) ω;have t:=tj (gy k s j).2 ((k - 1 - j:Nat)+1:Int) ⟨l,o⟩ ω;have u:gy k s (j+1)=(vp (gy k s j).1 (k - 1 - j) (K5 (gy k s j).2 ((k - 1 - j:Nat)+1:Int)).toNat,G0 (gy k s j).2):=rfl;rw[q];generalize gy k s j=p at *;obtain⟨xs,z⟩:=p;simp only at *;generalize k - 1 - j=i at *;have a:=ah (xs:=xs) (i:=i) ω;have b:=ah (xs:=xs) (i:=(K5 z (i+1)).toNat) ω;have c:=H9 (xs:=xs) (i:=i) (k:=(K5 z (i+1)).toNat) (nth xs (K5 z (i+1)).toNat) ω
   repeat'(first|refine gD ?_|(conv=>whnf);first|refine CA ?_|refine C7 (t) ?_|refine CK ω (aa b) ?_|refine CB (aa a) ?_|refine CG rfl (aa a) rfl ?_|refine CG rfl (aa b) rfl ?_|refine CM rfl rfl (aa a) rfl (Z0 rfl) rfl ?_|refine CK ω c ?_|refine CM rfl rfl c rfl (Z0 rfl) rfl ?_)
   ((conv=>whnf);refine CC (j+1) ω ω ?_)
   rw[u];simp only[aD,K4];exact wB
  ·obtain rfl:j=k - 1:=ω
   repeat'(first|refine gD ?_|(conv=>whnf);first|refine CA ?_)
   rfl
def zL(b:Int):Nat->Nat
 | 0=>0
 | n+1=>zL b n+(if aX b (n:Nat)=true then 1 else 0)
theorem AH(b:Int):∀n,zL b n<=n
 | 0=>X2 _
 | n+1=>by have:=AH b n;simp only[zL];split<;>omega
theorem tZ(b:Int)(d:b<=9223372036854775807):ao Tryz.prog 112 false [.val none [I b]] .one [I (zL b 16:Nat)]:=by
 refine fO 15 [] Tryz.func112 rfl ?_
 repeat'(first|refine gO ?_|fail)
 (conv=>whnf)
 refine CE (ι:=Nat) (λk=>[(0,.hold .one [I (b)]),(3,.hold .one [I ((zL b k:Nat):Int)]),(4,.hold .one [I ((k:Nat):Int)])]) (λk=>k<=16) (λk=>16 - k) (0) ?_ (T0 _) λk g=>?_
 ·exact wB
 have h:=AH b k;by_cases i:k<16
 ·have a:=ik b (k:Nat) d
  have c:zL b (k+1)=zL b k+(if aX b (k:Nat)=true then 1 else 0):=rfl;cases e:aX b (k:Nat)<;>rw[e]at a c
  all_goals
   repeat'(first|refine gD ?_|(conv=>whnf);first|refine C7 (a) ?_)
   ((conv=>whnf);refine CC (k+1) ω ω ?_)
   rw[c];exact wB
 ·obtain rfl:k=16:=ω
  repeat'(first|refine gD ?_|fail)
  rfl
def yx(h:ab)(s:au):Bool:=decide (0<zL s.Bits 16)&&decide ((aT h s.Page).length=1)
def kD(h:ab):Nat->List au
 | 0=>[]
 | n+1=>if yx h (nth h.Spans n)=true then kD h n++[nth h.Spans n] else kD h n
def mz(h:ab):List au:=kD h h.Spans.length
theorem we(h:ab):∀n,(kD h n).length<=n
 | 0=>X2 _
 | n+1=>by have:=we h n;simp only[kD];split<;>simp<;>omega
theorem ot(h:ab):∀{n:Nat},n<=h.Spans.length->∀s∈kD h n,s∈h.Spans
 | 0,_,s,a=>by cases a
 | n+1,b,s,a=>by
  simp only[kD]at a;split at a
  ·rcases W2.1 a with a|a
   ·exact ot h ω s a
   ·rw[C1.1 a];exact am ω
  ·exact ot h ω s a
theorem wH(h:ab)(j:yb h)(q:h.Spans.length<=1000)(r:dQ h<=1000)(l:∀s∈h.Spans,s.Bits<=9223372036854775807):ao Tryz.prog 38 false [.val (some 24) (ab.enc .imm h)] .one (cr .own (mz h)):=by
 refine fO 42 [(5,16,[13,14,15,16,17,18,19,20,21,22,23,24,25,26,27,28])] Tryz.func38 rfl ?_ (.inr (EN _))
 repeat'(first|refine gO ?_|fail)
 (conv=>whnf)
 refine CE (ι:=Nat) (λk=>[(1,.hold .box (ab.enc .imm h)),(3,.hold .one (cr .own (kD h k))),(4,.hold .one [I ((k:Nat):Int)])]) (λk=>k<=h.Spans.length) (λk=>h.Spans.length - k) (0) ?_ (T0 _) λk t=>?_
 ·exact wB
 have n:=we h k;by_cases e:k<h.Spans.length
 ·have c:=ah e
  have d:=tZ (nth h.Spans k).Bits (l _ (am e));have b:=gK h (nth h.Spans k).Page j;have o:=gz h (nth h.Spans k).Page;have p:=AH (nth h.Spans k).Bits 16;have a:kD h (k+1)=if yx h (nth h.Spans k)=true then kD h k++[nth h.Spans k] else kD h k:=rfl
  by_cases g:0<zL (nth h.Spans k).Bits 16
  ·by_cases i:(aT h (nth h.Spans k).Page).length=1
   ·rw[C9 (by unfold yx;simp[g,i])]at a
    repeat'(first|refine gA ?_|(conv=>whnf);first|refine CB (aa c) ?_|refine C7 (d) ?_|refine CD (b) ⟨⟨rfl,rfl⟩,⟨rfl,rfl⟩,trivial⟩ ?_|refine C7 (b) ?_|refine CA ?_|refine Ap.sm (aK λ_=>rfl) rfl (by simp;omega) (by decide) (fB (au.enc .own) (kD h k) (nth h.Spans k)) ?_)
    ((conv=>whnf);refine CC (k+1) ω ω ?_)
    rw[a];exact wB
   ·rw[C8 (by unfold yx;simp[i])]at a
    repeat'(first|refine gA ?_|(conv=>whnf);first|refine CB (aa c) ?_|refine C7 (d) ?_|refine C7 (b) ?_|refine CA ?_)
    ((conv=>whnf);refine CC (k+1) ω ω ?_)
    rw[a];exact wB
  ·rw[C8 (by unfold yx;simp[g])]at a
   repeat'(first|refine gD ?_|(conv=>whnf);first|refine CB (aa c) ?_|refine C7 (d) ?_|refine C7 (b) ?_|refine CA ?_)
   ((conv=>whnf);refine CC (k+1) ω ω ?_)
   rw[a];exact wB
 ·obtain rfl:k=h.Spans.length:=ω
  repeat'(first|refine gD ?_|fail)
  rfl
def AU(s:au)(c:Nat):Bool:=aX s.Bits (((c:Nat):Int) / csz s.Class)
def uH(s:au)(n:Nat):List Int:=((List.range n).filter (AU s)).map λ(i:Nat)=>(i:Int)
theorem Ns{s:au}{n:Nat}(h:AU s n=true):uH s (n+1)=uH s n++[(n:Int)]:=by
 unfold uH;rw[List.range_succ,List.filter_append,v5];simp[h]
theorem Pp{s:au}{n:Nat}(h:AU s n=false):uH s (n+1)=uH s n:=by
 unfold uH;rw[List.range_succ,List.filter_append,v5];simp[h]
theorem qM(s:au)(n:Nat):(uH s n).length<=n:=by
 unfold uH;rw[X0];exact O4 (List.length_filter_le _ _) (by simp)
theorem Nv{s:au}(a:bg s=true){c:Nat}(d:c<16):0<=((c:Nat):Int) / csz s.Class/\((c:Nat):Int) / csz s.Class<=15:=by
 have f:=aF a;have b:csz s.Class=1\/csz s.Class=2\/csz s.Class=4\/csz s.Class=8:=cx ω;rcases b with e|e|e|e<;>rw[e]<;>omega
theorem n8(s:au)(a:bg s=true):ao Tryz.prog 394 false [.val (some 3) (au.enc .imm s)] .one (aD .own (uH s 16)):=by
 have b:=gc s;rw[a]at b;have g:=aF a;have n:=cx g.2.2;refine fO 27 [(5,7,[14,15,16,17,18,19,20])] Tryz.func394 rfl ?_ (.inr (bG _))
 repeat'(first|refine gO ?_|fail)
 (conv=>whnf)
 refine CE (ι:=Nat) (λi=>[(1,.hold .box (au.enc .imm s)),(3,.hold .one (aD .own (uH s i))),(4,.hold .one [I ((i:Nat):Int)])]) (λi=>i<=16) (λi=>16 - i) (0) ?_ (T0 _) λi o=>?_
 ·exact wB
 have h:=qM s i;by_cases j:i<16
 ·have k:=Nv a j
  have d:IntKind.i64.wrap (((i:Nat):Int).tdiv (csz s.Class))=((i:Nat):Int) / csz s.Class:=by rw[nQ ω];exact fg ω ω
  have c:=ik s.Bits (((i:Nat):Int) / csz s.Class) (fe a).2;cases e:AU s i
  ·rw[show aX s.Bits (((i:Nat):Int) / csz s.Class)=false from e]at c
   repeat'(first|refine gD ?_|(conv=>whnf);first|refine C7 (b) ?_|refine C7 (d6 _) ?_|refine CL ω ?_|refine CJ d ?_|refine C7 (c) ?_)
   ((conv=>whnf);refine CC (i+1) ω ω ?_)
   rw[Pp e];exact wB
  ·rw[show aX s.Bits (((i:Nat):Int) / csz s.Class)=true from e]at c
   repeat'(first|refine gD ?_|(conv=>whnf);first|refine C7 (b) ?_|refine C7 (d6 _) ?_|refine CL ω ?_|refine CJ d ?_|refine C7 (c) ?_|refine CP bV (λr l=>by rw[C1.1 l];rfl) (by simp[aV,dz]) (by simp;omega) (by simp only[X0];exact wi (by simp;omega) (by decide)) rfl ?_)
   ((conv=>whnf);refine CC (i+1) ω ω ?_)
   rw[Ns e]
   (repeat'(first|exact trivial|rfl|exact CI rfl (CI (U0 (C.s du.own) (by simp[rI])) trivial)|refine CI ?_ ?_))
 ·obtain rfl:i=16:=ω
  repeat'(first|refine gD ?_|(conv=>whnf);first|refine C7 (b) ?_)
  rfl
structure fK where
 A:Int
 B:Int
deriving DecidableEq,Inhabited
def fK.enc(_:du)(x:fK):List C:=[I x.A,I x.B]
def iW(o:du)(x:List fK):List C:=[.s o (x.map (fK.enc o))]
theorem EG(x:List fK):gw (iW .own x):=⟨⟨.inl λh=>(by cases h),bc _ _ λ_ _=>⟨trivial,trivial,trivial⟩⟩,trivial⟩
def Nd(i:Int)(p:fK):Bool:=decide (p.A=i) || decide (p.B=i)
def dB(a b:au):co:=if(uH a 16).length<(uH b 16).length then⟨b.Page,a.Page,uH a 16⟩ else⟨a.Page,b.Page,uH b 16⟩
theorem xF(a b:au)(g:meshable a b=true)(h:bg a=true)(i:bg b=true):ao Tryz.prog 366 false [.val (some 3) (au.enc .imm a),.val (some 3) (au.enc .imm b)] (.tup [some 3,none]) (co.enc .own (dB a b)++[B true]):=by
 have c:=kX a b;rw[g]at c;have d:=n8 a h;have e:=n8 b i;have j:=qM a 16;have k:=qM b 16;unfold dB;split
 ·refine fO 27 [(3,6,[11,12,13,14,15,16]),(5,6,[20,21,22,23,24,25])] Tryz.func366 rfl ?_ (.inr (aP (co.enc_fr _) ⟨trivial,trivial⟩))
  repeat'(first|refine gD ?_|(conv=>whnf);first|refine C7 (c) ?_|refine C7 (d) ?_|refine C7 (e) ?_|refine CA ?_)
  rfl
 ·refine fO 27 [(3,6,[11,12,13,14,15,16]),(5,6,[20,21,22,23,24,25])] Tryz.func366 rfl ?_ (.inr (aP (co.enc_fr _) ⟨trivial,trivial⟩))
  repeat'(first|refine gD ?_|(conv=>whnf);first|refine C7 (c) ?_|refine C7 (d) ?_|refine C7 (e) ?_|refine CA ?_)
  rfl
def vN(p:co):cn:=⟨p,0,0⟩
theorem Ec(p:co)(c:eG p=true)(a:co.sml p):ao Tryz.prog 367 false [.val (some 3) (co.enc .imm p)] (.tup [some 5,none]) (cn.enc .own (vN p)++[B true]):=by
 have b:=tf p a;rw[c]at b;have d:=qZ (vN p) a;refine fO 11 [] Tryz.func367 rfl ?_ (.inr (aP (cn.enc_fr _) ⟨trivial,trivial⟩))
 repeat'(first|refine gO ?_|(conv=>whnf);first|refine C7 (b) ?_|refine C7 (d) ?_)
 rfl
theorem sO(n:Nat){s:Int}(c:0<=s/\s<=1073741823):∀{j:Nat},j<=n - 1->∀x∈(gy n s j).1,0<=x/\x<n
 | 0,_,x,a=>by
  simp only[gy,qN,Z3,List.mem_range]at a;obtain⟨i,d,rfl⟩:=a;omega
 | j+1,e,x,a=>by
  have f:=(lO n c j).1;have b:=sO n c (j:=j) ω;have g:=w6 (gy n s j).2 (n:=((n - 1 - j:Nat)+1:Int)) ω;simp only[gy,vp]at a;rcases U5 a with a|rfl
  ·rcases U5 a with a|rfl
   ·exact b x a
   ·exact b _ (am ω)
  ·exact b _ (am ω)
def tkn(out:List fK)(a:Int):Bool:=out.any (Nd a)
def stp(a:List au)(p:List Int)(t i:Nat)(out:List fK):List fK:=
 if tkn out (nth p i)=false/\tkn out (nth p (p.length / 2+(i+t) % (p.length - p.length / 2)))=false/\meshable (nth a (nth p i).toNat) (nth a (nth p (p.length / 2+(i+t) % (p.length - p.length / 2))).toNat)=true then out++[⟨nth p i,nth p (p.length / 2+(i+t) % (p.length - p.length / 2))⟩] else out
def uo(a:List au)(p:List Int)(t:Nat)(out:List fK):Nat->List fK
 | 0=>out
 | i+1=>stp a p t i (uo a p t out i)
def qh(a:List au)(p:List Int):Nat->List fK
 | 0=>[]
 | t+1=>uo a p t (qh a p t) (p.length / 2)
theorem My(a:List au)(p:List Int)(t i:Nat)(out:List fK):(stp a p t i out).length<=out.length+1:=by unfold stp;split<;>simp
theorem uY(a:List au)(p:List Int)(t:Nat)(out:List fK):∀i,(uo a p t out i).length<=out.length+i
 | 0=>X2 _
 | i+1=>by have b:=uY a p t out i;have c:=My a p t i (uo a p t out i);simp only[uo];omega
theorem Du(a:List au)(p:List Int):∀t,(qh a p t).length<=t*(p.length / 2)
 | 0=>T0 _
 | t+1=>by have b:=Du a p t;have c:=uY a p t (qh a p t) (p.length / 2);simp only[qh];rw[Nat.add_mul];omega
def lR(a:List au)(s:Int):List fK:=qh a (shuf a.length s).1 3
def mS(n:Nat)(out:List fK):List Bool:=(List.range n).map λ(i:Nat)=>tkn out (i:Nat)
theorem GX{n:Nat}{out:List fK}{a:Int}(h:0<=a/\a<n):(mS n out)[a.toNat]? = some (tkn out a):=by
 unfold mS;rw[Z2,X5 ω];show some (tkn out ((a.toNat:Nat):Int))=_;rw[Int.toNat_of_nonneg h.1]
theorem LO{n:Nat}{out:List fK}{a b:Int}(f:0<=a/\a<n)(g:0<=b/\b<n):mS n (out++[⟨a,b⟩])=((mS n out).set a.toNat true).set b.toNat true:=by
 unfold mS;apply List.ext_getElem?;intro i;by_cases c:i<n
 ·rw[Z2,X5 c]
  by_cases d:b.toNat=i
  ·subst d
   rw[I3 (by simp;omega)];simp only[W4,tkn,List.any_append,List.any_cons,List.any_nil,Nd];rw[Int.toNat_of_nonneg g.1];simp
  ·rw[List.getElem?_set_ne d]
   by_cases e:a.toNat=i
   ·subst e
    rw[I3 (by simp;omega)];simp only[W4,tkn,List.any_append,List.any_cons,List.any_nil,Nd];rw[Int.toNat_of_nonneg f.1];simp
   ·rw[List.getElem?_set_ne e,Z2,X5 c]
    simp only[W4,tkn,List.any_append,List.any_cons,List.any_nil,Nd];rw[R0 ω,R0 ω];simp
 ·rw[I2 (by simp;omega),I2 (by simp;omega)]
theorem M2(n:Nat):(mS n []).map (rB .own)=List.replicate n [B false]:=by
 unfold mS;rw[List.map_map];apply List.ext_getElem?;intro i;rw[Z2];by_cases a:i<n
 ·rw[X5 a,List.getElem?_replicate];simp[a];rfl
 ·rw[I2 (by simp;omega),List.getElem?_replicate];simp[a]
theorem H1{xs:List Bool}{i k:Nat}(v:Bool)(a:k<xs.length):((xs.map (rB .own)).set i (rB .own v))[k]? = some (rB .own (nth (xs.set i v) k)):=by
 rw[<-O5];exact aa (ah (by rw[I1];exact a))
theorem un(c:List au)(s:Int)(u:0<=s/\s<=1073741823)(V:c.length<=16):ao Tryz.prog 365 false [.val none (cr .imm c),.val none [I s],.val none [I 3]] (.tup [none,none]) (iW .own (lR c s)++[I (shuf c.length s).2]):=by
 have J:=aE s 0 1073741823;rw[O0 u]at J;have K:=aE 3 0 16;rw[O0 ω]at K;have Q:=xG c.length s u ω;have D:=(lO c.length u (c.length - 1)).1;have e:=sO c.length u (X2 _);unfold lR;change (shuf c.length s).1.length=_ at D;change ∀x∈(shuf c.length s).1,_ at e
 have E:gw (iW .own (qh c (shuf c.length s).1 3)++[I (shuf c.length s).2]):=aP (EG _) ⟨trivial,trivial⟩;generalize shuf c.length s=q at *;obtain⟨p,z⟩:=q;simp only at *;have F:((p.length:Nat):Int).tdiv 2=((p.length / 2:Nat):Int):=by rw[Int.tdiv_eq_ediv_of_nonneg ω];omega
 have g:C.s du.own ((mS c.length []).map (rB .own))=C.s du.own (List.replicate c.length [B false]):=by rw[M2]
 have h:∀i:Nat,i<p.length->0<=nth p i/\nth p i<c.length:=λi R=>e _ (am R)
 refine fO 110 [(15,21,[73,74,75,76,77,78,79,80,81,82,83,84,85,86,87,88,89,90,91,92,93])] Tryz.func365 rfl ?_ (.inr E)
 repeat'(first|refine gD ?_|(conv=>whnf);first|with_reducible refine CJ ((U0 _ F).trans (fg ω ω)) ?_|refine C7 (J) ?_|refine C7 (K) ?_|refine C7 (Q) ?_|refine CL (by decide) ?_|refine Mk.mk c.length rfl rfl ω (wi ω (by decide)) rfl ?_)
 (conv=>whnf)
 refine CE (ι:=Nat) (λt=>[(0,.hold .one (cr .imm c)),(2,.hold .one [I (3)]),(8,.hold .one (iW .own (qh c p t))),(9,.hold .one (aD .own p)),(10,.hold .one [I (z)]),(11,.hold .one [I (((p.length / 2):Nat):Int)]),(12,.hold .one (Ar .own (mS c.length (qh c p t)))),(13,.hold .one [I ((t:Nat):Int)])]) (λt=>t<=3) (λt=>3 - t) (0) ?_ (T0 _) λt S=>?_
 ·repeat'(first|exact trivial|rfl |exact jT g|refine CI ?_ ?_|(exact xv (by first|omega|(simp only;omega)|(simp;omega))))
 have W:=Du c p t;have ol2:t*(p.length / 2)<=3*8:=Nat.mul_le_mul S ω;by_cases X:t<3
 ·repeat'(first|refine gD ?_|fail)
  (conv=>whnf)
  refine CE (ι:=Nat) (λj=>[(0,.hold .one (cr .imm c)),(2,.hold .one [I (3)]),(8,.hold .one (iW .own (uo c p t (qh c p t) j))),(9,.hold .one (aD .own p)),(10,.hold .one [I (z)]),(11,.hold .one [I (((p.length / 2):Nat):Int)]),(12,.hold .one (Ar .own (mS c.length (uo c p t (qh c p t) j)))),(13,.hold .one [I ((t:Nat):Int)]),(14,.hold .one [I ((j:Nat):Int)])]) (λj=>j<=p.length / 2) (λj=>p.length / 2 - j) (0) ?_ (T0 _) λj Y=>?_
  ·repeat'(first|exact trivial|rfl |exact jT g|refine CI ?_ ?_|(exact xv (by first|omega|(simp only;omega)|(simp;omega))))
  have Z:=uY c p t (qh c p t) j;by_cases lj:j<p.length / 2
  ·have L:(j+t) % (p.length - p.length / 2)<p.length - p.length / 2:=Nat.mod_lt _ ω
   have G:((j:Int)+t).tmod ((p.length:Int) - (p.length / 2:Nat))=(((j+t) % (p.length - p.length / 2):Nat):Int):=by
    rw[eS ω,Int.natCast_emod];congr 1;omega
   have d:uo c p t (qh c p t) (j+1)=stp c p t j (uo c p t (qh c p t) j):=rfl;unfold stp at d;generalize uo c p t (qh c p t) j=out at *;have l:p.length / 2+(j+t) % (p.length - p.length / 2)<p.length:=ω
   generalize hk:(j+t) % (p.length - p.length / 2)=k at *;have n:=ah (xs:=p) (i:=j) ω;have o:=ah (xs:=p) (i:=p.length / 2+k) l;have w:=h j ω;have r:=h _ l;generalize nth p j=a at *;generalize nth p (p.length / 2+k)=b at *;have y:=GX (out:=out) w;have H:=GX (out:=out) r;have T:=ah (xs:=c) (i:=a.toNat) ω;have U:=ah (xs:=c) (i:=b.toNat) ω;have M:=kX (nth c a.toNat) (nth c b.toNat);have ub2:=H1 (xs:=mS c.length out) (i:=a.toNat) (k:=b.toNat) true (by simp[mS];omega);cases N:tkn out a<;>cases O:tkn out b<;>cases P:meshable (nth c a.toNat) (nth c b.toNat)
   all_goals
    rw[N]at y;rw[O]at H;rw[P]at M;rw[N,O,P]at d;simp only[and_true,true_and,if_true,Bool.false_eq_true,Bool.true_eq_false,and_false,false_and,if_false]at d
    repeat'(first|refine gD ?_|(conv=>whnf);first|refine CR G ?_|refine CL ω ?_|refine CB (aa n) ?_|refine CK ω (aa o) ?_|refine CK w.1 (aa y) ?_|refine CK r.1 (aa H) ?_|refine CK w.1 (aa T) ?_|refine CK r.1 (aa U) ?_|refine CG rfl (aa n) rfl ?_|refine CG rfl (aa o) rfl ?_|refine CG rfl (aa y) rfl ?_|refine CG rfl (aa H) rfl ?_|refine C7 (M) ?_|refine CA ?_|refine CM rfl rfl (aa y) rfl (Z0 rfl) rfl ?_|refine CK r.1 ub2 ?_|refine CM rfl rfl ub2 rfl (Z0 rfl) rfl ?_|refine Ap.sm (aK λ_=>rfl) rfl (by simp;omega) (by decide) (fB (fK.enc .own) out ⟨a,b⟩) ?_)
    ((conv=>whnf);refine CC (j+1) ω ω ?_)
    rw[d]
    first|(rw[LO w r];simp only[Ar,O5])|skip
    exact wB
  ·obtain rfl:j=p.length / 2:=ω
   repeat'(first|refine gD ?_|fail)
   ((conv=>whnf);refine CC (t+1) ω ω ?_;(exact wB))
 ·obtain rfl:t=3:=ω
  repeat'(first|refine gD ?_|fail)
  rfl
theorem Fn(x:List fK):d9 (iW .own x)=iW .imm x:=by simp[d9,iW,fK.enc,<-bW,z5]
theorem ao.fzR{P:Program}{f:Nat}{sh:Bool}{A:List RA}{k:Kd}{rcs:List C}(h:ao P f sh A k rcs):ao P f sh A k (d9 rcs):=by
 obtain⟨c,d⟩:=h;refine⟨c,λw S g i j=>(d w S g i j).mono λe w1 l=>?_⟩;obtain⟨v,n,p,X,S1,q,r,y,t,u⟩:=l;refine⟨v,n,p,NO,λb o=>S1 b o\/X b o,λ_ _ h=>h.elim,λb o a=>?_,λ_ _ h=>h.elim,by rw[bW,X0];exact t,u.freeze⟩;rcases a with a|a
 ·exact r b o a
 ·exact .inr (q b o a)
structure Mp(ls:List au)(q:fK):Prop where
 a:0<=q.A/\q.A<ls.length
 b:0<=q.B/\q.B<ls.length
 m:meshable (nth ls q.A.toNat) (nth ls q.B.toNat)=true
theorem GU{b:List au}{p:List Int}(c:∀x∈p,0<=x/\x<b.length)(t:Nat){out:List fK}(d:∀q∈out,Mp b q):∀{i:Nat},i<=p.length / 2->∀q∈uo b p t out i,Mp b q
 | 0,_=>d
 | i+1,h=>λq a=>by
  have e:=GU c t d (i:=i) ω;simp only[uo,stp]at a;split at a
  ·rename_i g
   rcases W2.1 a with a|a
   ·exact e q a
   ·obtain rfl:=C1.1 a
    have f:(i+t) % (p.length - p.length / 2)<p.length - p.length / 2:=Nat.mod_lt _ ω;exact⟨c _ (am ω),c _ (am ω),g.2.2⟩
  ·exact e q a
theorem GM{a:List au}{p:List Int}(b:∀x∈p,0<=x/\x<a.length):∀t,∀q∈qh a p t,Mp a q
 | 0=>λq c=>by cases c
 | t+1=>GU b t (GM b t) (X2 _)
theorem pH(a:List au){s:Int}(b:0<=s/\s<=1073741823):∀q∈lR a s,Mp a q:=GM (sO a.length b (X2 _)) 3
theorem Ng(s:au)(n:Nat):(uH s n).Pairwise (· < ·):=by
 unfold uH;rw[List.pairwise_map];exact(List.pairwise_lt_range.sublist List.filter_sublist).imp λh=>ω
theorem Pn{s:au}{n:Nat} : ∀z∈uH s n,0<=z/\z<n:=λz a=>by
 unfold uH at a;simp only[Z3,t4,List.mem_range]at a;obtain⟨c,⟨b,-⟩,rfl⟩:=a;omega
theorem vP(s:au):cK (uH s 16).length (mJ (uH s 16))=true:=by
 refine ch.2 λj a=>?_
 have c:=Pn _ (am a);unfold mJ;refine O0 ⟨ω,ω,?_⟩;by_cases e:j=0
 ·exact .inl e
 ·refine .inr ?_
  have b:=List.pairwise_iff_getElem.1 (Ng s 16) (j - 1) j ω a ω;rw[show nth (uH s 16) (j - 1)=(uH s 16)[j - 1] from bu (Z1 ω),show nth (uH s 16) j=(uH s 16)[j] from bu (Z1 a)];exact b
theorem sw{a b:au}(c:meshable a b=true):eG (dB a b)=true/\bg a=true/\bg b=true:=by
 unfold meshable at c;simp only[I0,C0]at c;have d:=aF c.1.1;have e:=aF c.1.2;refine⟨?_,c.1⟩;unfold dB eG;split
 ·simp only[I0,C0];exact⟨vP a,ω⟩
 ·simp only[I0,C0];exact⟨vP b,ω⟩
theorem Fw(a b:au):co.sml (dB a b):=by
 have c:=qM a 16;have d:=qM b 16;unfold dB co.sml r9;split<;>simp only<;>omega
def bN(h:ab):List au:=(mz h).take 16
def started(h:ab):ab × Bool:=match lR (bN h) h.Seed with
 | []=>({h with Seed:=(shuf (bN h).length h.Seed).2},false)
 | q::_=>({h with Seed:=(shuf (bN h).length h.Seed).2,Meshing:=true,Job:=vN (dB (nth (bN h) q.A.toNat) (nth (bN h) q.B.toNat))},true)
end Go.Proofs.YtembpgjjnioagaaGreat.Ab
