/- A valid heap is one of which no address is in hand. No condition. -/
import Derived.Test.YtecefhjnejfheaaGreatKed
import Derived.Test.YtecefhjnejfheaaGreatKee
import Derived.Deep.LoopGhost
import Derived.Deep.RegionLaw
import Derived.Lib.Walk
import Derived.Sort.WalkB12
import Derived.Lib.SliceRun
import Derived.Shelf.RegionOpenPlain
set_option linter.unusedVariables false
set_option linter.unusedSimpArgs false
set_option linter.constructorNameAsVariable false
namespace Go.Proofs.YtecefhjnejfheaaGreat.Ab
structure Pg(t:aH)(fr:List aA)(sp:List ax)(la:List a8):Prop where
 one:∀l∈la,∀p:Nat,(p:Int)∈lpgs l l.a2.toNat->∀q:Nat,q<t.J.length->(nth t.J q).j≠0->(nth t.J q).e=(nth t.J p).e->q=p
 bnd:∀p∈pgs sp la,p<t.J.length
 own:∀p:Nat,p<t.J.length->((nth t.J p).j≠0↔(p:Int)∈pgs sp la)
 fre:∀p:Nat,p<t.J.length->((nth t.J p).j≠0↔¬RH fr p)
 mesh:∀s∈sp,∀u∈sp,s.Q≠u.Q->(nth t.J s.Q.toNat).e=(nth t.J u.Q.toNat).e->meshable s u=true
structure aV(h:ab)(E:List Int):Prop where
 ker:a7 h.G=true
 rng:b9 (eM h) h.q=true
 lay:bk h.M h.K=true
 srs:h.M.Pairwise λa b=>a.Q<b.Q
 srl:h.K.Pairwise λa b=>a.Q<b.Q
 pg:Pg (tbl h) h.q h.M h.K
 mail:bJ h.w=true
 nc:h.T.length=h.w.U.length
 quar:fT h.a6=true
 snc:∀x∈h.a6.a5,x.b7<=h.b5
 cach:∀c∈h.T,bw c=true
 nums:cg h=true
 osr:h.O.Pairwise λa b=>a.Addr<b.Addr
 onu:∀o∈h.O,1<=o.Id/\o.Id<=h.a - 1/\0<=o.a3/\o.a3<=h.T.length - 1
 oid:(h.O.map (·.Id)).Nodup
 oow:∀o∈h.O,Mr h.M h.K o
 hca:∀c∈h.T,∀k:Nat,k<c.d.length->∀a∈nth c.d k,jH h.M a k
 hqu:∀x∈h.a6.a5,jH h.M x.Addr x.b
 hfl:∀a∈aL h.w,jH h.M a (-1)
 hin:∀a∈E,jH h.M a (-1)
 nd:(E++holders h).Nodup
 mem:∀a,a∈E++holders h↔mb h.M h.K a
 job:h.u=true->jx h.Y=true/\(∃s∈h.M,s.Q=h.Y.W.a4)/\∃s∈h.M,s.Q=h.Y.W.a1
 noj:h.u=false->qO h.Y=true
theorem aV.L{h:ab}{E:List Int}(a:aV h E):rT h.M h.K:=rT.of a.lay
theorem xK(t:aH)(f:Int):(pagesOn t f).Nodup:=by
 unfold pagesOn j9 List.Nodup;rw[List.pairwise_map];exact(List.nodup_range.sublist List.filter_sublist).imp λh e=>h ω
theorem NZ{l:List Int}{a:Int}(b:l.Nodup)(d:a∈l)(c:∀x∈l,x=a):l.length=1:=by
 match l with
 | []=>cases d
 | [_]=>rfl
 | x::y::r=>
  exfalso;have e:=c x (by simp);have f:=c y (by simp);rw[e,f]at b;simp at b
theorem dx{sp:List ax}{la:List a8}{s:ax}(a:s∈sp):s.Q∈pgs sp la:=by
 unfold pgs;exact U2.2 (.inl (C4.2 ⟨s,a,rfl⟩))
theorem fI{sp:List ax}{la:List a8}{l:a8}(a:l∈la){p:Int}(b:p∈lpgs l l.a2.toNat):p∈pgs sp la:=by
 unfold pgs;exact U2.2 (.inr (List.mem_flatMap.2 ⟨l,a,b⟩))
theorem Rd{h:ab}(n:bk h.M h.K=true)(P:b9 (eM h) h.q=true)(J:pages0 h=true)(t:np h=true):Pg (tbl h) h.q h.M h.K:=by
 have Q:=rT.of n;obtain⟨R,y,K⟩:=qX J;have S:∀p:Nat,p<eM h->((nth (tbl h).J p).j≠0↔¬RH h.q p):=λp a=>by
  have d:=J;unfold pages0 at d;simp only[I0]at d;have A:=dC d.2 a;unfold u9 at A;rw[I0]at A;have L:=A.2;rw[<-BP P];cases e:h.q.any (pX (p:Int))<;>rw[e]at L<;>simpa using L
 refine⟨λl B p f q T C D=>?_,y,K,S,λs U u V E M=>?_⟩
 ·obtain⟨i,o,rfl⟩:=aJ B
  obtain⟨k,w,F⟩:=dm.1 f;have a:p<eM h:=by have:=y _ (fI (sp:=h.M) B f);omega
  have r:=(K p a).2 (fI B f);have b:=R i o k w;rw[<-F,eY a r]at b;have N:(p:Int)∈pagesOn (tbl h) (nth (tbl h).J p).e:=dM.2 ⟨a,r,rfl⟩;have O:(q:Int)∈pagesOn (tbl h) (nth (tbl h).J p).e:=dM.2 ⟨T,C,D⟩;obtain⟨z,W⟩:=List.length_eq_one_iff.1 b;rw[W]at N O;simp only[C1]at N O;omega
 obtain⟨i,o,rfl⟩:=aJ U;obtain⟨j,G,rfl⟩:=aJ V;have c:∀k,k<h.M.length->ac (tbl h) (nth h.M k).Q=nth (tbl h).J (nth h.M k).Q.toNat:=λk w=>by
  have X:=aC (Q.sok _ (am w));have Y:=y _ (dx (la:=h.K) (am w));rw[show(nth h.M k).Q=(((nth h.M k).Q.toNat:Nat):Int) by omega];exact vF ω
 unfold np at t;rw[cH]at t;rcases Nat.lt_trichotomy i j with g|H|g
 ·have b:=dC (t j G) g
  unfold kD at b;rw[c i o,c j G,X5,C0]at b;rw[gt];exact b.resolve_left λe=>e M.symm
 ·subst H;exact absurd rfl E
 have b:=dC (t i o) g;unfold kD at b;rw[c i o,c j G,X5,C0]at b;exact b.resolve_left λe=>e M
theorem HF(sp:List ax):cR sp.length (ve sp)=true↔sp.Pairwise λa b=>a.Q<b.Q:=by
 rw[cH];refine Iff.trans ?_ (uJ (λa b:Int=>a<b) (λa b c=>Int.lt_trans) (λs:ax=>s.Q) sp);unfold ve;simp only[C0]
theorem HY(la:List a8):cR la.length (vJ la)=true↔la.Pairwise λa b=>a.Q<b.Q:=by
 rw[cH];refine Iff.trans ?_ (uJ (λa b:Int=>a<b) (λa b c=>Int.lt_trans) (λs:a8=>s.Q) la);unfold vJ;simp only[C0]
theorem Q4{h:ab}(r:bk h.M h.K=true)(D:b9 (eM h) h.q=true)(h1:h.M.Pairwise λa b=>a.Q<b.Q)(E:h.K.Pairwise λa b=>a.Q<b.Q)(c:Pg (tbl h) h.q h.M h.K):pages0 h=true/\np h=true:=by
 have A:=rT.of r;constructor
 ·unfold pages0
  simp only[I0];refine⟨⟨⟨(HF _).2 h1,cH.2 λi o=>?_⟩,W3.2 λp d=>O0 (c.bnd p d)⟩,cH.2 λp d=>?_⟩
  ·unfold si
   rw[I0];refine⟨dC ((HY _).2 E) o,cH.2 λk w=>?_⟩;have y:=am o;have L:=aM (A.lok _ y);obtain⟨p,d⟩ : ∃p:Nat,(nth h.K i).Q+(k:Nat)=(p:Nat):=⟨((nth h.K i).Q+k).toNat,ω⟩
   have g:(p:Int)∈lpgs (nth h.K i) (nth h.K i).a2.toNat:=dm.2 ⟨k,w,d.symm⟩;have l:p<eM h:=by have:=c.bnd _ (fI (sp:=h.M) y g);exact Int.ofNat_lt.1 this
   have t:=(c.own p l).2 (fI y g);unfold xa;rw[C0,d,eY l t];refine NZ (xK ..) (dM.2 ⟨l,t,rfl⟩) λx C=>?_
   obtain⟨q,rfl⟩:=tU C;obtain⟨F,G,H⟩:=dM.1 C;rw[c.one _ y p g q F G H]
  unfold u9;rw[I0,C0];refine⟨c.own p d,?_⟩;have B:=c.fre p d;rw[<-BP D]at B;cases e:h.q.any (pX (p:Int))<;>rw[e]at B<;>simpa using B
 unfold np;refine cH.2 λi o=>cH.2 λj M=>?_
 have n:j<h.M.length:=ω
 have u:∀k,k<h.M.length->ac (tbl h) (nth h.M k).Q=nth (tbl h).J (nth h.M k).Q.toNat:=λk w=>by
  have N:=aC (A.sok _ (am w));have J:=c.bnd _ (dx (la:=h.K) (am w));rw[show(nth h.M k).Q=(((nth h.M k).Q.toNat:Nat):Int) by omega];exact vF (by unfold eM;unfold tbl at J;omega)
 unfold kD;rw[u i o,u j n,X5,C0];by_cases e:(nth (tbl h).J (nth h.M i).Q.toNat).e=(nth (tbl h).J (nth h.M j).Q.toNat).e
 ·refine .inr (c.mesh _ (am o) _ (am n) (λK=>?_) e)
  have:=cE (f:=(·.Q)) A.nd o n K;omega
 exact .inl e
theorem LS{h:ab}(n:cg h=true)(q:rT h.M h.K):fe h=true↔(h.O.Pairwise λa b=>a.Addr<b.Addr)/\(∀o∈h.O,1<=o.Id/\o.Id<=h.a - 1/\0<=o.a3/\o.a3<=h.T.length - 1)/\(h.O.map (·.Id)).Nodup/\∀o∈h.O,Mr h.M h.K o:=by
 unfold cg at n;rw[C0]at n;refine Iff.trans ?_ (and_congr (uJ (λa b:Int=>a<b) (λa b c=>Int.lt_trans) (λo:br=>o.Addr) h.O) (and_congr Iff.rfl (and_congr (y4 (λo:br=>o.Id) h.O) Iff.rfl)));unfold fe;rw[eE ω ω,cH];have p:∀i,i<h.O.length->(objAt (h.a - 1) h i=true↔(i=0\/(nth h.O (i - 1)).Addr<(nth h.O i).Addr)/\(1<=(nth h.O i).Id/\(nth h.O i).Id<=h.a - 1/\0<=(nth h.O i).a3/\(nth h.O i).a3<=h.T.length - 1)/\(∀o∈h.O.take i,o.Id≠(nth h.O i).Id)/\Mr h.M h.K (nth h.O i)):=λi d=>by
  unfold objAt gx;rw[I0,I0,C0,LO q,Bool.not_eq_true',List.any_eq_false];simp only[eG,C0];constructor
  ·rintro⟨⟨⟨e,f⟩,g⟩,j⟩;exact⟨e,f,g,j⟩
  rintro⟨e,f,g,j⟩;exact⟨⟨⟨e,f⟩,g⟩,j⟩
 constructor
 ·intro r
  have k:=λi d=>(p i d).1 (r i d)
  refine⟨λi d=>(k i d).1,λo l=>?_,λi d=>(k i d).2.2.1,λo l=>?_⟩
  ·obtain⟨i,d,rfl⟩:=aJ l;exact(k i d).2.1
  obtain⟨i,d,rfl⟩:=aJ l;exact(k i d).2.2.2
 rintro⟨e,f,g,j⟩ i d
 exact(p i d).2 ⟨e i d,f _ (am d),g i d,j _ (am d)⟩
theorem EP{h:ab}(b:rT h.M h.K):gX h=true↔(∀c∈h.T,∀k:Nat,k<c.d.length->∀a∈nth c.d k,jH h.M a k)/\(∀x∈h.a6.a5,jH h.M x.Addr x.b)/\∀a∈aL h.w,jH h.M a (-1):=by
 rw[kU];simp only[W3,eJ,cH,rr,gT,kh,LD b,and_assoc]
theorem GW{p:Int}{h:ab} : 0<=gm h p↔∃s∈h.M,s.Q=p:=by
 unfold gm;rw[show(0<=dD (jL p) h.M)↔(decide (dD (jL p) h.M≥0)=true) by simp,lL,V3];simp[jL]
theorem aV.to{h:ab}(b:aV h []):dO h=true:=by
 have d:=b.L;obtain⟨g,j⟩:=Q4 b.lay b.rng b.srs b.srl b.pg;have e:=(LS b.nums d).2 ⟨b.osr,b.onu,b.oid,b.oow⟩;have f:=(EP d).2 ⟨b.hca,b.hqu,b.hfl⟩;unfold dO l9;simp only[I0];refine⟨⟨⟨⟨⟨⟨⟨⟨⟨⟨b.ker,b.rng⟩,b.lay⟩,g⟩,by rw[zn b.lay g];exact j⟩,?_⟩,?_⟩,W3.2 b.cach⟩,b.nums⟩,e,?_⟩,?_⟩
 ·unfold dw
  rw[b.mail,b.quar,O0 b.nc];rfl
 ·unfold kS
  exact W3.2 λx k=>O0 (b.snc x k)
 ·unfold iR
  have i:(holders h).Nodup:=by simpa using b.nd
  have c:∀a,a∈holders h↔a∈iA h.M h.K:=λa=>by rw[LR d,<-b.mem a];simp
  have l:(holders h).Perm (iA h.M h.K):=(List.perm_ext_iff_of_nodup i (nL ..)).2 c;rw[f,O0 i,O0 l.length_eq];rfl
 unfold tN;cases c:h.u with
 | true=>
  obtain⟨n,o,p⟩:=b.job c;rw[C9 rfl,n,O0 (GW.2 o),O0 (GW.2 p)];rfl
 | false=>rw[C8 (by simp)];exact b.noj c
def dele{α:Type}(xs:List α)(i:Nat):List α:=xs.take i++xs.drop (i+1)
theorem fk{α:Type}(xs:List α)(i:Nat):(dele xs i).Sublist xs:=by
 unfold dele;rw[<-List.eraseIdx_eq_take_drop_succ];exact List.eraseIdx_sublist ..
theorem yL{α:Type}[Inhabited α]{xs:List α}{i:Nat}(a:i<xs.length):xs.Perm (nth xs i::dele xs i):=by
 have:xs=xs.take i++nth xs i::xs.drop (i+1):=by rw[<-jD a,List.take_append_drop]
 conv=>lhs;rw[this]
 exact List.perm_middle
theorem i9{α:Type}[Inhabited α](f:α->List Int)(a:Int):∀(xs:List α)(i:Nat)(y:α),i<xs.length->((xs.set i y).flatMap f).count a+(f (nth xs i)).count a=(xs.flatMap f).count a+(f y).count a
 | [],i,_,h=>by cases h
 | x::xs,0,y,_=>by
  show((y::xs).flatMap f).count a+(f x).count a=((x::xs).flatMap f).count a+(f y).count a;rw[I6,I6,V5,V5];omega
 | x::xs,i+1,y,h=>by
  have:=i9 f a xs i y (by simpa using h);show((x::xs.set i y).flatMap f).count a+(f (nth xs i)).count a=((x::xs).flatMap f).count a+(f y).count a;rw[I6,I6,V5,V5];omega
theorem kE(a:List (List Int)):a.flatten=a.flatMap λx=>x:=by
 induction a with
 | nil=>rfl
 | cons x xs b=>rw[List.flatten_cons,I6,b]
theorem jH.any{sp:List ax}{a c:Int}(h:jH sp a c):jH sp a (-1):=by
 obtain⟨s,b,d,-⟩:=h;exact⟨s,b,d,.inl (by decide)⟩
theorem aV.cells{h:ab}{E:List Int}(a:aV h E){k:ah}(c:a7 k=true)(b:k.F.R=h.G.F.R):aV {h with G:=k} E:=
 {a with
   ker:=c
   rng:=by show b9 ((k.F.R.J.length:Nat):Int) h.q=true;rw[b];exact a.rng
   pg:=by show Pg k.F.R h.q h.M h.K;rw[b];exact a.pg}
theorem aV.dropO{h:ab}{E:List Int}{i:Nat}(b:aV h E)(g:i<h.O.length)(j:jH h.M (nth h.O i).Addr (-1)):aV {h with O:=dele h.O i} ((nth h.O i).Addr::E):=by
 have f:(E++holders h).Perm (((nth h.O i).Addr::E)++holders {h with O:=dele h.O i}):=by
  have k:=(yL g).map (·.Addr);refine List.perm_iff_count.2 λa=>?_
  have l:=k.count_eq a;simp only[U5,List.count_cons]at l;simp only[holders,cy,V5,List.cons_append,List.count_cons];omega
 have c:(dele h.O i).Sublist h.O:=fk ..;exact {b with
   osr:=b.osr.sublist c
   onu:=λo d=>b.onu o (c.subset d)
   oid:=b.oid.sublist (c.map _)
   oow:=λo d=>b.oow o (c.subset d)
   hin:=λa e=>by
     rcases List.mem_cons.1 e with rfl|e
     · exact j
     exact b.hin a e
   nd:=f.nodup_iff.1 b.nd
   mem:=λa=>by rw[<-f.mem_iff];exact b.mem a}
def mt(c:aE)(k:Nat)(a:Int):aE:=⟨c.d.set k (nth c.d k++[a])⟩
theorem aV.put{h:ab}{E:List Int}{a:Int}{t k:Nat}(g:aV h (a::E))(l:t<h.T.length)(q:k<(nth h.T t).d.length)(r:jH h.M a k)(u:bw (mt (nth h.T t) k a)=true):aV {h with T:=h.T.set t (mt (nth h.T t) k a)} E:=by
 have n:(a::E++holders h).Perm (E++holders {h with T:=h.T.set t (mt (nth h.T t) k a)}):=by
  refine List.perm_iff_count.2 λb=>?_
  have w:=i9 (λc:aE=>c.d.flatten) b h.T t (mt (nth h.T t) k a) l;have p:=i9 (λx:List Int=>x) b (nth h.T t).d k (nth (nth h.T t).d k++[a]) q;rw[<-kE,<-kE]at p;simp only[V5,List.count_singleton]at p;simp only[mt]at w;simp only[holders,cy,mt,V5,List.cons_append,List.count_cons];omega
 exact {g with
   nc:=by show(h.T.set ..).length=_;rw[I1];exact g.nc
   cach:=λc d=>by
     rcases Z5 d with d|rfl
     · exact g.cach c d
     exact u
   onu:=by show ∀o∈h.O,1<=o.Id/\o.Id<=h.a - 1/\0<=o.a3/\o.a3<=(h.T.set t _).length - 1;rw[I1];exact g.onu
   hca:=λc d j i b f=>by
     rcases Z5 d with d|rfl
     · exact g.hca c d j i b f
     simp only[mt,I1]at i;simp only[mt,bA]at f;by_cases e:k=j
     · subst e
       rw[C9 ⟨rfl,i⟩]at f;rcases U2.1 f with f|f
       · exact g.hca _ (am l) _ i b f
       rw[C1.1 f];exact r
     rw[C8 λx=>e x.1]at f;exact g.hca _ (am l) _ i b f
   hin:=λb f=>g.hin b (Z4 _ f)
   nd:=n.nodup_iff.1 g.nd
   mem:=λb=>by rw[<-n.mem_iff];exact g.mem b}
theorem aV.toQuar{h:ab}{E:List Int}{x:aN}{q:bQ}{out:List aN}(d:aV h (x.Addr::E))(i:fT q=true)(f:h.a6.a5++[x]=out++q.a5)(j:x.b7<=h.b5)(k:jH h.M x.Addr x.b):aV {h with a6:=q} (out.map (·.Addr)++E):=by
 have c:∀y∈out++q.a5,y.b7<=h.b5/\jH h.M y.Addr y.b:=λy a=>by
  rw[<-f]at a;rcases U2.1 a with a|a
  ·exact⟨d.snc y a,d.hqu y a⟩
  rw[C1.1 a];exact⟨j,k⟩
 have g:(x.Addr::E++holders h).Perm ((out.map (·.Addr)++E)++holders {h with a6:=q}):=by
  refine List.perm_iff_count.2 λb=>?_
  have n:=U0 (λl:List aN=>(l.map (·.Addr)).count b) f;simp only[R5,V5,U5,List.map_nil,List.count_singleton]at n;simp only[holders,cy,V5,List.cons_append,List.count_cons];omega
 exact {d with
   quar:=i
   snc:=λy a=>(c y (U2.2 (.inr a))).1
   hqu:=λy a=>(c y (U2.2 (.inr a))).2
   hin:=λb e=>by
     rcases U2.1 e with e|e
     · obtain⟨y,a,rfl⟩:=C4.1 e
       exact(c y (U2.2 (.inl a))).2.any
     exact d.hin b (Z4 _ e)
   nd:=g.nodup_iff.1 d.nd
   mem:=λb=>by rw[<-g.mem_iff];exact d.mem b}
def yi(b i:Int):Int:=((BitVec.ofInt IntKind.i64.bits b &&& ~~~BitVec.ofInt IntKind.i64.bits (2 ^ i.toNat)).toNat:Nat)
def mc(s:ax)(i:Int):ax:={s with b1:=yi s.b1 i}
theorem dH(b i:Int):aR b i=true↔0<=b/\0<=i/\i<=15/\b.toNat.testBit i.toNat=true:=by
 unfold aR;rw[C0];refine and_congr_right λa=>and_congr_right λc=>and_congr_right λ_=>?_
 obtain⟨n,rfl⟩:=R2 a;rw[Nat.testBit_eq_decide_div_mod_eq,C0,O2]
 norm_cast
theorem D1{b i:Int}(f:0<=b/\b<=65535)(a:0<=i/\i<=15)(j:Nat):(yi b i).toNat.testBit j=(b.toNat.testBit j&&decide (i.toNat≠j)):=by
 have g:(2:Int) ^ i.toNat<=32768/\0<=(2:Int) ^ i.toNat:=by
  obtain⟨n,rfl⟩:=R2 a.1;rw[O2];have:(2:Nat) ^ n<=2 ^ 15:=Nat.pow_le_pow_right (by decide) ω;have c:((2 ^ n:Nat):Int)=(2:Int) ^ n:=Int.natCast_pow 2 n;rw[<-c];exact⟨Int.ofNat_le.2 this,Int.natCast_nonneg _⟩
 unfold yi;rw[O2,BitVec.testBit_toNat,BitVec.getLsbD_and,BitVec.getLsbD_not,<-BitVec.testBit_toNat,<-BitVec.testBit_toNat,mP ω,mP ω];rw[show((2:Int) ^ i.toNat).toNat=2 ^ i.toNat by rw[show(2:Int) ^ i.toNat=((2 ^ i.toNat:Nat):Int) by norm_cast,O2],Nat.testBit_two_pow];by_cases d:j<64
 ·rw[show decide (j<IntKind.i64.bits)=true from O0 d,Bool.true_and]
  congr 1
  by_cases e:i.toNat=j
  ·rw[O0 e,R0 (λx=>x e)];rfl
  rw[R0 e,O0 e];rfl
 rw[Nat.testBit_lt_two_pow (x:=b.toNat) (i:=j) (T3 (show b.toNat<2 ^ 16 by omega) (Nat.pow_le_pow_right (by decide) ω))]
 rfl
theorem Ag{b i:Int}(a:0<=b/\b<=65535):0<=yi b i/\yi b i<=b:=by
 unfold yi;refine⟨ω,?_⟩;rw[BitVec.toNat_and,mP ω];have:=Nat.and_le_left (n:=b.toNat) (m:=(~~~BitVec.ofInt IntKind.i64.bits (2 ^ i.toNat)).toNat);omega
theorem Ef{b i:Int}(a:0<=b/\b<=65535)(h:0<=i/\i<=15)(j:Int):aR (yi b i) j=true↔aR b j=true/\j≠i:=by
 rw[dH,dH,D1 a h,I0,C0];have:=Ag (i:=i) a;constructor
 ·rintro⟨k,c,d,f,g⟩;exact⟨⟨a.1,c,d,f⟩,λe=>g (by rw[e])⟩
 rintro⟨⟨k,c,d,f⟩,g⟩;exact⟨this.1,c,d,f,λe=>g ω⟩
theorem eC{s:ax}(h:bg s=true):0<=s.b1/\s.b1<=65535:=by
 unfold bg at h;simp only[C0]at h;have:=FP s.b;omega
theorem Hu{s:ax}(h:bg s=true)(i:Int):bg (mc s i)=true:=by
 have b:=eC h;have a:=Ag (i:=i) b;unfold bg at h;rw[C0]at h;obtain⟨c,d,e,f,j,g⟩:=h;exact O0 ⟨c,d,e,f,a.1,Int.le_trans a.2 g⟩
theorem sZ{s u:ax}(a:bg s=true){i:Int}(b:0<=i/\i<=15)(h:meshable s u=true):meshable (mc s i) u=true:=by
 unfold meshable at h |-;simp only[I0,C0]at h |-;obtain⟨⟨c,d⟩,e,f,g⟩:=h;refine⟨⟨Hu c i,d⟩,e,f,?_⟩;refine Nat.eq_of_testBit_eq λj=>?_
 have:=U0 (λn=>Nat.testBit n j) g;simp only[Nat.testBit_and,Nat.zero_testBit,mc,D1 (eC a) b]at this |-;cases k:s.b1.toNat.testBit j<;>cases l:u.b1.toNat.testBit j<;>rw[k,l]at this<;>simp_all
def dr(s:ax)(a:Int):Int:=(a - 16*s.Q) / csz s.b
theorem oG{s:ax}(h:bg s=true){a:Int}(c:16*s.Q<=a/\a<=16*s.Q+15):0<=dr s a/\dr s a<=15:=by
 have b:=aC h;unfold dr;rcases bM ⟨b.2.2.1,b.2.2.2⟩ with e|e|e|e<;>rw[e]<;>omega
theorem wl{s:ax}(h:bg s=true){a b:Int}(d:(a - 16*s.Q) % csz s.b=0)(f:(b - 16*s.Q) % csz s.b=0)(e:dr s a=dr s b):a=b:=by
 have c:=aC h;unfold dr at e;rcases bM ⟨c.2.2.1,c.2.2.2⟩ with z|z|z|z<;>rw[z]at d f e<;>omega
theorem z6{s:ax}(h:bg s=true){a:Int}(k:dX s a)(b:Int):dX (mc s (dr s a)) b↔dX s b/\b≠a:=by
 obtain⟨l,n,o,p⟩:=k;have d:=oG h ⟨l,n⟩;unfold dX;simp only[mc];rw[Ef (eC h) d];constructor
 ·rintro⟨f,g,c,i,j⟩
  exact⟨⟨f,g,c,i⟩,λe=>j (by rw[e];rfl)⟩
 rintro⟨⟨f,g,c,i⟩,j⟩
 exact⟨f,g,c,i,λe=>j (wl h c o e)⟩
theorem dI{α:Type}[Inhabited α]{xs:List α}{i:Nat}{y z:α}(h:z∈xs.set i y):z=y\/∃j,j<xs.length/\j≠i/\nth xs j=z:=by
 obtain⟨j,a,rfl⟩:=List.mem_iff_getElem.1 h;rw[List.getElem_set];by_cases e:i=j
 ·subst e;simp
 rw[C8 e];rw[I1]at a;exact .inr ⟨j,a,λx=>e x.symm,bc (W1 a)⟩
theorem jt{α:Type}[Inhabited α]{xs:List α}{i j:Nat}(y:α)(a:j<xs.length)(e:j≠i):nth xs j∈xs.set i y:=by
 have:nth (xs.set i y) j=nth xs j:=by rw[bA,C8 λx=>e x.1.symm]
 rw[<-this];exact am (by rw[I1];exact a)
theorem iB{α:Type}{xs:List α}{i:Nat}(y:α)(a:i<xs.length):y∈xs.set i y:=by
 refine List.mem_iff_getElem.2 ⟨i,by rw[I1];exact a,by simp⟩
theorem KP{sp:List ax}{i:Nat}(k:Int)(a:i<sp.length):(sp.set i (mc (nth sp i) k)).map (·.Q)=sp.map (·.Q):=by
 rw[W5];refine List.ext_getElem (by simp) λj b c=>?_
 rw[List.getElem_set];split
 ·rename_i e;subst e
  rw[List.getElem_map];show(nth sp i).Q=_;rw[bc (W1 a)]
 rfl
theorem jH.set{sp:List ax}{la:List a8}(q:rT sp la){i:Nat}(k:i<sp.length){a:Int}(l:dX (nth sp i) a)(b c:Int):jH (sp.set i (mc (nth sp i) (dr (nth sp i) a))) b c↔jH sp b c/\b≠a:=by
 have g:=q.sok _ (am k);constructor
 ·rintro⟨s,o,d,h⟩
  rcases dI o with rfl|⟨j,n,r,rfl⟩
  ·have:=(z6 g l b).1 d
   exact⟨⟨_,am k,this.1,h⟩,this.2⟩
  refine⟨⟨_,am n,d,h⟩,λe=>?_⟩;subst e;have:=cE (f:=(·.Q)) q.nd k n (by have t:=l.1;have u:=l.2.1;have w:=d.1;have y:=d.2.1;omega);omega
 rintro⟨⟨s,o,d,h⟩,p⟩
 obtain⟨j,n,rfl⟩:=aJ o;by_cases e:j=i
 ·subst e
  exact⟨_,iB _ k,(z6 g l b).2 ⟨d,p⟩,h⟩
 exact⟨_,jt _ n e,d,h⟩
theorem aV.give{h:ab}{E:List Int}{a:Int}{i:Nat}(d:aV h (a::E))(J:i<h.M.length)(K:dX (nth h.M i) a):aV {h with M:=h.M.set i (mc (nth h.M i) (dr (nth h.M i) a))} E:=by
 have G:=d.L;have Q:=G.sok _ (am J);have M:=oG Q ⟨K.1,K.2.1⟩;have f:=λb c=>jH.set G J K b c
 have A:=KP (dr (nth h.M i) a) J;generalize R:h.M.set i (mc (nth h.M i) (dr (nth h.M i) a))=sp at f A;have q:pgs sp h.K=pgs h.M h.K:=by unfold pgs;rw[A]
 have B:=d.nd;rw[List.cons_append]at B;obtain⟨S,B⟩:=List.nodup_cons.1 B;have r:∀b,b∈E++holders h->b≠a:=λb g e=>S (by rw[<-e];exact g)
 have C:∀b,b∈holders h->b≠a:=λb g=>r b (U2.2 (.inr g))
 have T:∀l∈h.K,16*l.Q≠a:=λl O e=>(vk G O).1 _ (am J) (by have a1:=K.1;have a2:=K.2.1;omega)
 have t:∀s∈sp,∃u∈h.M,u.Q=s.Q/\(s=u\/s=mc u (dr (nth h.M i) a)):=λs p=>by
  rw[<-R]at p;rcases dI p with rfl|⟨j,hj,hji,rfl⟩
  ·exact⟨_,am J,rfl,.inr rfl⟩
  exact⟨_,am hj,rfl,.inl rfl⟩
 have N:∀u∈h.M,∃s∈sp,s.Q=u.Q:=λu y=>by
  have:u.Q∈sp.map (·.Q):=by rw[A];exact C4.2 ⟨u,y,rfl⟩
  obtain⟨s,p,e⟩:=C4.1 this;exact⟨s,p,e⟩
 exact {d with
   lay:=by
     obtain⟨l1,l2,l3⟩:=du d.lay;unfold bk;simp only[I0,C0];refine⟨⟨W3.2 λs p=>?_,l2⟩,by rw[q];exact l3⟩;obtain⟨u,y,-,rfl|rfl⟩:=t s p
     · exact G.sok _ y
     exact Hu (G.sok _ y) _
   srs:=by
     have n:(h.M.map (·.Q)).Pairwise (λa b=>a<b):=List.pairwise_map.2 d.srs;rw[<-A]at n;exact List.pairwise_map.1 n
   pg:=⟨d.pg.one,by rw[q];exact d.pg.bnd,by rw[q];exact d.pg.own,d.pg.fre,λs p u y r hf=>by
     obtain⟨U,D,Z,V⟩:=t s p;obtain⟨P,F,eu,W⟩:=t u y;have n:=d.pg.mesh U D P F (by rw[Z,eu];exact r) (by rw[Z,eu];exact hf);have w:meshable s P=true:=by
       rcases V with rfl|rfl
       · exact n
       exact sZ (G.sok _ D) M n
     rcases W with rfl|rfl
     · exact w
     rw[gt]at w |-;exact sZ (G.sok _ F) M w⟩
   oow:=λo ho=>by
     have X:o.Addr≠a:=C _ (by unfold holders;simp only[U2];exact .inl (.inl (.inl (C4.2 ⟨o,ho,rfl⟩))));rcases d.oow o ho with⟨s,p,n,w⟩|n
     · obtain⟨u,y,Y,H⟩:=(f o.Addr (aI o.o)).2 ⟨⟨s,p,n,.inr w⟩,X⟩
       refine .inl ⟨u,y,Y,?_⟩;rcases H with H|H
       · have:=aC (G.sok _ p);omega
       exact H
     exact .inr n
   hca:=λc hc k hk b g=>(f b k).2 ⟨d.hca c hc k hk b g,C b (by
     unfold holders cy;simp only[U2];exact .inl (.inl (.inr (List.mem_flatMap.2 ⟨c,hc,List.mem_flatten.2 ⟨_,am hk,g⟩⟩))))⟩
   hqu:=λx hx=>(f _ _).2 ⟨d.hqu x hx,C _ (by unfold holders;simp only[U2];exact .inl (.inr (C4.2 ⟨x,hx,rfl⟩)))⟩
   hfl:=λb g=>(f _ _).2 ⟨d.hfl b g,C _ (by unfold holders;simp only[U2];exact .inr g)⟩
   hin:=λb g=>(f _ _).2 ⟨d.hin b (Z4 _ g),r b (U2.2 (.inl g))⟩
   nd:=B
   mem:=λb=>by
     show b∈E++holders h↔mb sp h.K b;have n:=d.mem b;rw[List.cons_append,List.mem_cons]at n;unfold mb at n |-;rw[f];constructor
     · intro g
       rcases n.1 (.inr g) with w|w
       · exact .inl ⟨w,r b g⟩
       exact .inr w
     rintro(⟨w,h3⟩|⟨l,O,rfl⟩)
     · exact(n.2 (.inl w)).resolve_left h3
     exact(n.2 (.inr ⟨l,O,rfl⟩)).resolve_left (T l O)
   job:=λhm=>by
     obtain⟨j1,⟨s,p,e1⟩,⟨u,y,e2⟩⟩:=d.job hm;obtain⟨U,D,Y⟩:=N s p;obtain⟨P,F,H⟩:=N u y;exact⟨j1,⟨U,D,Y.trans e1⟩,⟨P,F,H.trans e2⟩⟩}
def unmN(k:ah)(p:Int):Nat->ah
 | 0=>k
 | n+1=>dJ (unmN k p n) (p+n)
theorem iM{k:ah}(h:a7 k=true)(p:Int):∀n,a7 (unmN k p n)=true
 | 0=>h
 | n+1=>xj _ (iM h p n)
theorem fo(k:ah)(p:Int):∀n,(unmN k p n).F.R.J.length=k.F.R.J.length/\(unmN k p n).Calls=k.Calls/\(unmN k p n).y=k.y
 | 0=>⟨rfl,rfl,rfl⟩
 | n+1=>by
  obtain⟨a,b,c⟩:=fo k p n;obtain⟨d,e,f⟩:=kH (unmN k p n) (p+n);exact⟨d.trans a,e.trans b,f.trans c⟩
theorem qn{k:ah}(h:a7 k=true){p:Int}(d:0<=p/\p<k.F.R.J.length)(q:Nat):nth (dJ k p).F.R.J q=if(q:Int)=p then⟨0,0⟩ else nth k.F.R.J q:=by
 have g:ac k.F.R p=nth k.F.R.J p.toNat:=by unfold ac;rw[C9 d]
 unfold dJ;split
 ·rename_i a
  split
  ·rename_i i
   rw[g]at a;have b:=(bx.1 (aD.1 h).2.2.1).1 p.toNat ω;unfold jS at b;rw[C0]at b;have c:=b.2.2.1 a;rw[show q=p.toNat by omega];generalize nth k.F.R.J p.toNat=e at a c;obtain⟨m,f⟩:=e;simp only at a c;rw[a,c]
  rfl
 rw[(me _ _).1];simp only[pk,bA];by_cases e:(q:Int)=p
 ·rw[C9 ⟨ω,ω⟩,C9 e]
 rw[C8 λx=>e ω,C8 e]
theorem ma{k:ah}(h:a7 k=true){p:Int}(b:0<=p):∀n:Nat,p+n<=k.F.R.J.length->∀q:Nat,nth (unmN k p n).F.R.J q=if p<=q/\(q:Int)<p+n then⟨0,0⟩ else nth k.F.R.J q
 | 0,_,q=>by rw[C8 ω];rfl
 | n+1,f,q=>by
  have c:=ma h b n ω q;have d:=qn (iM h p n) (p:=p+n) ⟨ω,by rw[(fo k p n).1];omega⟩ q;show nth (dJ (unmN k p n) (p+n)).F.R.J q=_;rw[d,c];by_cases e:(q:Int)=p+n
  ·rw[C9 e,C9 ⟨ω,ω⟩]
  rw[C8 e];by_cases a:p<=q/\(q:Int)<p+n
  ·rw[C9 a,C9 ⟨ω,ω⟩]
  rw[C8 a,C8 ω]
theorem D8{α β:Type}(f:α->List β){xs c:List α}(h:xs.Sublist c):(xs.flatMap f).Sublist (c.flatMap f):=by
 induction h with
 | slnil=>exact List.Sublist.refl _
 | cons a _ b=>rw[I6];exact b.trans (List.sublist_append_right ..)
 | cons_cons a _ b=>rw[I6,I6];exact List.Sublist.append (List.Sublist.refl _) b
theorem vi{h:ab}{E:List Int}(c:aV h E){sp:List ax}{la:List a8}{p:Int}{n:Nat}(Y:1<=n)(w:sp.Sublist h.M)(D:la.Sublist h.K)(j:∀q:Int,p<=q->q<p+n->q∈pgs h.M h.K)(K:0<=p)(F:∀q,q∈pgs sp la↔q∈pgs h.M h.K/\¬(p<=q/\q<p+n)) :
  ∃o,d5 (eM h) h.q ⟨p,n⟩ = some o/\a7 (unmN h.G p n)=true/\b9 ((unmN h.G p n).F.R.J.length:Nat) o=true/\bk sp la=true/\Pg (unmN h.G p n).F.R o sp la:=by
 have t:=c.pg.bnd _ (j (p+n - 1) ω ω);have a:=(fo h.G p n).1;have y:p+n<=h.G.F.R.J.length:=by unfold tbl at t;omega
 have g:=ma c.ker K n y;obtain⟨o,Q,R,S⟩:=tX (r:=⟨p,n⟩) c.rng ⟨K,by simp only;omega,y⟩ λq M N=>by
  simp only at M N;obtain⟨m,rfl⟩:=R2 (show 0<=q by omega);have A:m<(tbl h).J.length:=by unfold tbl;omega
  exact(c.pg.fre m A).1 ((c.pg.own m A).2 (j _ M N))
 refine⟨o,Q,iM c.ker p n,by rw[a];exact R,?_,?_⟩
 ·obtain⟨T,U,V⟩:=du c.lay
  unfold bk;simp only[I0,C0];exact⟨⟨W3.2 λs d=>W3.1 T s (w.subset d),W3.2 λl d=>W3.1 U l (D.subset d)⟩,V.sublist ((w.map _).append (D8 _ D))⟩
 have i:∀q:Nat,(q:Int)∈pgs sp la->nth (unmN h.G p n).F.R.J q=nth (tbl h).J q:=λq f=>by rw[g,C8 ((F q).1 f).2];rfl
 have b:∀q:Nat,(nth (unmN h.G p n).F.R.J q).j≠0↔(nth (tbl h).J q).j≠0/\¬(p<=q/\(q:Int)<p+n):=λq=>by
  rw[g];by_cases e:p<=q/\(q:Int)<p+n
  ·rw[C9 e];exact⟨λx=>absurd rfl x,λx=>absurd e x.2⟩
  rw[C8 e];exact⟨λx=>⟨x,e⟩,λx=>x.1⟩
 refine⟨λl d q f r O G B=>?_,λq f=>?_,λq f=>?_,λq f=>?_,λs d u H J P=>?_⟩
 ·have C:=(b r).1 G
  rw[a]at O;rw[i q (fI d f),g,C8 C.2]at B;exact c.pg.one l (D.subset d) q f r O C.1 B
 ·rw[a];exact c.pg.bnd q ((F q).1 f).1
 ·rw[a]at f
  rw[b,F,c.pg.own q f]
 ·rw[a]at f
  rw[b,S,c.pg.fre q f];simp only
  grind
 have k:∀s∈sp,0<=s.Q:=λs d=>(aC (c.L.sok s (w.subset d))).1
 have W:=i s.Q.toNat (by rw[Int.toNat_of_nonneg (k s d)];exact dx d);have X:=i u.Q.toNat (by rw[Int.toNat_of_nonneg (k u H)];exact dx H);rw[W,X]at P;exact c.pg.mesh s (w.subset d) u (w.subset H) J P
theorem cQ{α:Type}[Inhabited α]{xs:List α}{k:Nat}{z:α} : z∈dele xs k↔∃j,j<xs.length/\j≠k/\nth xs j=z:=by
 unfold dele;rw[U2];constructor
 ·rintro(h|h)
  ·obtain⟨j,a,rfl⟩:=List.mem_take_iff_getElem.1 h
   exact⟨j,ω,ω,bc (W1 ω)⟩
  obtain⟨j,a,rfl⟩:=List.mem_drop_iff_getElem.1 h;exact⟨k+1+j,ω,ω,bc (W1 ω)⟩
 rintro⟨j,a,b,rfl⟩
 rw[bc (W1 a)];by_cases e:j<k
 ·exact .inl (List.mem_take_iff_getElem.2 ⟨j,ω,rfl⟩)
 refine .inr (List.mem_drop_iff_getElem.2 ⟨j - (k+1),ω,?_⟩)
 congr 1;omega
theorem oM{sp:List ax}{la:List a8}{q:Int} : q∈pgs sp la↔(∃s∈sp,s.Q=q)\/∃l∈la,q∈lpgs l l.a2.toNat:=by
 unfold pgs;simp only[U2,C4,List.mem_flatMap]
theorem uS{s:ax}(h:s.b1=0)(a:Int):¬dX s a:=by
 rintro⟨-,-,-,b⟩
 rw[dH,h]at b;simp at b
theorem aV.giveSpan{h:ab}{E:List Int}{i:Nat}(g:aV h E)(B:i<h.M.length)(y:(nth h.M i).b1=0)(W:h.u=true->(nth h.M i).Q≠h.Y.W.a4/\(nth h.M i).Q≠h.Y.W.a1) :
  ∃o,d5 (eM h) h.q ⟨(nth h.M i).Q,1⟩ = some o/\aV {h with G:=dJ h.G (nth h.M i).Q,M:=dele h.M i,q:=o} E:=by
 have F:=g.L;have G:=aC (F.sok _ (am B));have A:∀q,q∈pgs (dele h.M i) h.K↔q∈pgs h.M h.K/\¬((nth h.M i).Q<=q/\q<(nth h.M i).Q+(1:Nat)):=λq=>by
  rw[oM,oM];constructor
  ·rintro(⟨s,r,rfl⟩|⟨l,C,D⟩)
   ·obtain⟨j,d,H,rfl⟩:=cQ.1 r
    refine⟨.inl ⟨_,am d,rfl⟩,λe=>H (cE (f:=(·.Q)) F.nd d B ω)⟩
   refine⟨.inr ⟨l,C,D⟩,λe=>?_⟩;obtain⟨k,J,rfl⟩:=dm.1 D;exact F.dis _ (am B) l C k J ω
  rintro⟨⟨s,r,rfl⟩|⟨l,C,D⟩,K⟩
  ·obtain⟨j,d,rfl⟩:=aJ r
   refine .inl ⟨_,cQ.2 ⟨j,d,λe=>K (by subst e;omega),rfl⟩,rfl⟩
  exact .inr ⟨l,C,D⟩
 obtain⟨o,X,Q,R,Y,S⟩:=vi g (sp:=dele h.M i) (la:=h.K) (p:=(nth h.M i).Q) (n:=1) (W2 _) (fk ..) (List.Sublist.refl _) (λq q1 q2=>by rw[show q=(nth h.M i).Q by omega];exact dx (am B)) G.1 A;have M:unmN h.G (nth h.M i).Q 1=dJ h.G (nth h.M i).Q:=by show dJ h.G ((nth h.M i).Q+((0:Nat):Int))=_;rw[show(nth h.M i).Q+((0:Nat):Int)=(nth h.M i).Q by omega]
 rw[M]at Q R S;have t:∀b c,jH (dele h.M i) b c↔jH h.M b c:=λb c=>by
  constructor
  ·rintro⟨s,r,w⟩;exact⟨s,(fk ..).subset r,w⟩
  rintro⟨s,r,w,N⟩
  obtain⟨j,d,rfl⟩:=aJ r;exact⟨_,cQ.2 ⟨j,d,λe=>uS y b (by rw[<-e];exact w),rfl⟩,w,N⟩
 refine⟨o,X,{g with
   ker:=Q
   rng:=R
   lay:=Y
   srs:=g.srs.sublist (fk ..)
   pg:=S
   oow:=λZ ho=>?_
   hca:=λc G k J b y=>(t b k).2 (g.hca c G k J b y)
   hqu:=λx hx=>(t _ _).2 (g.hqu x hx)
   hfl:=λb y=>(t _ _).2 (g.hfl b y)
   hin:=λb y=>(t _ _).2 (g.hin b y)
   mem:=λb=>(g.mem b).trans ?_
   job:=λT=>?_}⟩
 ·rcases g.oow Z ho with⟨s,r,w,N⟩|w
  ·obtain⟨j,d,rfl⟩:=aJ r
   exact .inl ⟨_,cQ.2 ⟨j,d,λe=>uS y _ (by rw[<-e];exact w),rfl⟩,w,N⟩
  exact .inr w
 ·unfold mb;rw[t]
 obtain⟨j1,⟨s,r,U⟩,⟨u,M,V⟩⟩:=g.job T;obtain⟨n1,n2⟩:=W T;obtain⟨a,O,rfl⟩:=aJ r;obtain⟨b,P,rfl⟩:=aJ M;exact⟨j1,⟨_,cQ.2 ⟨a,O,λe=>n1 (by rw[<-e];exact U),rfl⟩,U⟩,⟨_,cQ.2 ⟨b,P,λe=>n2 (by rw[<-e];exact V),rfl⟩,V⟩⟩
theorem aV.dropL{h:ab}{E:List Int}{i k:Nat}(d:aV h E)(S:i<h.O.length)(y:k<h.K.length)(G:(nth h.O i).Addr=16*(nth h.K k).Q) :
  ∃o,d5 (eM h) h.q ⟨(nth h.K k).Q,(nth h.K k).a2⟩ = some o/\aV {h with G:=unmN h.G (nth h.K k).Q (nth h.K k).a2.toNat,K:=dele h.K k,q:=o,O:=dele h.O i} E:=by
 have A:=d.L;have T:=aM (A.lok _ (am y));have C:∀q,q∈pgs h.M (dele h.K k)↔q∈pgs h.M h.K/\¬((nth h.K k).Q<=q/\q<(nth h.K k).Q+((nth h.K k).a2.toNat:Nat)):=λq=>by
  rw[oM,oM];constructor
  ·rintro(⟨s,B,rfl⟩|⟨l,f,D⟩)
   ·refine⟨.inl ⟨s,B,rfl⟩,λe=>A.dis s B _ (am y) (s.Q - (nth h.K k).Q).toNat ω ω⟩
   obtain⟨j,c,t,rfl⟩:=cQ.1 f;refine⟨.inr ⟨_,am c,D⟩,λe=>?_⟩;obtain⟨m,N,rfl⟩:=dm.1 D;exact t (A.one j k c y m ((nth h.K j).Q+(m:Int) - (nth h.K k).Q).toNat N ω ω)
  rintro⟨⟨s,B,rfl⟩|⟨l,f,D⟩,g⟩
  ·exact .inl ⟨s,B,rfl⟩
  obtain⟨j,c,rfl⟩:=aJ f;refine .inr ⟨_,cQ.2 ⟨j,c,λe=>g ?_,rfl⟩,D⟩;subst e;obtain⟨m,N,rfl⟩:=dm.1 D;omega
 obtain⟨o,O,U,V,W,X⟩:=vi d (sp:=h.M) (la:=dele h.K k) (p:=(nth h.K k).Q) (n:=(nth h.K k).a2.toNat) ω (List.Sublist.refl _) (fk ..) (λq q1 q2=>fI (am y) (dm.2 ⟨(q - (nth h.K k).Q).toNat,ω,ω⟩)) T.2.2.1 C;rw[Int.toNat_of_nonneg ω]at O;have P:(E++holders h).Perm ((nth h.O i).Addr::(E++holders {h with O:=dele h.O i})):=by
  have Y:=(yL S).map (·.Addr);refine List.perm_iff_count.2 λa=>?_
  have r:=Y.count_eq a;simp only[U5,List.count_cons]at r;simp only[holders,cy,V5,List.count_cons];omega
 have u:=P.nodup_iff.1 d.nd;obtain⟨K,u⟩:=List.nodup_cons.1 u;have w:∀b,(b=(nth h.O i).Addr\/b∈E++holders {h with O:=dele h.O i})↔mb h.M h.K b:=λb=>by rw[<-d.mem b,P.mem_iff,List.mem_cons]
 have g:∀b,b∈E++holders {h with O:=dele h.O i}->b≠(nth h.O i).Addr:=λb H e=>K (by rw[<-e];exact H)
 refine⟨o,O,{d with
   ker:=U
   rng:=V
   lay:=W
   srl:=d.srl.sublist (fk ..)
   pg:=X
   osr:=d.osr.sublist (fk ..)
   onu:=λF J=>d.onu F ((fk ..).subset J)
   oid:=d.oid.sublist ((fk ..).map _)
   oow:=λF J=>?_
   nd:=u
   mem:=λb=>?_}⟩
 ·rcases d.oow F ((fk ..).subset J) with r|⟨l,f,Q,Z⟩
  ·exact .inl r
  obtain⟨j,c,rfl⟩:=aJ f;refine .inr ⟨_,cQ.2 ⟨j,c,λe=>?_,rfl⟩,Q,Z⟩;subst e;refine g F.Addr (U2.2 (.inr ?_)) (by rw[G];exact Q);unfold holders;simp only[U2];exact .inl (.inl (.inl (C4.2 ⟨F,J,rfl⟩)))
 constructor
 ·intro H
  rcases(w b).1 (.inr H) with r|⟨l,f,rfl⟩
  ·exact .inl r
  obtain⟨j,c,rfl⟩:=aJ f;exact .inr ⟨_,cQ.2 ⟨j,c,λe=>g _ H (by rw[G,e]),rfl⟩,rfl⟩
 rintro(r|⟨l,f,rfl⟩)
 ·refine((w b).2 (.inl r)).resolve_left λe=>?_
  obtain⟨s,B,⟨M,R,-⟩,-⟩:=r;exact(vk A (am y)).1 s B (by rw[e,G]at M R;exact⟨M,R⟩)
 obtain⟨j,c,t,rfl⟩:=cQ.1 f;refine((w _).2 (.inr ⟨_,am c,rfl⟩)).resolve_left λe=>t ?_
 have M:=aM (A.lok _ (am c));rw[G]at e;exact A.one j k c y 0 0 ω ω ω
def fJ(h:ab)(p:Int):Bool:=h.u&&(decide (p=h.Y.W.a4) || decide (p=h.Y.W.a1))
def giveP(h:ab)(i:Nat):ab:={h with G:=dJ h.G (nth h.M i).Q,M:=dele h.M i,q:=(d5 (eM h) h.q ⟨(nth h.M i).Q,1⟩).getD h.q}
def clrS(h:ab)(i:Nat)(a:Int):ab:={h with M:=h.M.set i (mc (nth h.M i) (dr (nth h.M i) a))}
def freeS(h:ab)(i:Nat)(a:Int):ab:=if(mc (nth h.M i) (dr (nth h.M i) a)).b1=0/\fJ h (nth h.M i).Q=false then giveP (clrS h i a) i else clrS h i a
def t7(h:ab)(a:Int):Nat:=(gm h (a / 16)).toNat
def freeA(h:ab)(a:Int):ab:=freeS h (t7 h a) a
def cput(c:aE)(k a:Int):Option aE:=if bw c=true/\0<=k/\k<=3/\bw (mt c k.toNat a)=true then some (mt c k.toNat a) else none
def recyc(t:Nat)(h:ab)(a:Int):ab:=match cput (nth h.T t) (nth h.M (t7 h a)).b a with
 | some c=>{h with T:=h.T.set t c}
 | none=>freeA h a
theorem aV.at{h:ab}{E:List Int}{a:Int}(e:aV h E)(f:jH h.M a (-1)):t7 h a<h.M.length/\dX (nth h.M (t7 h a)) a/\gm h (a / 16)=(t7 h a:Nat):=by
 obtain⟨s,g,c,-⟩:=f;obtain⟨i,d,rfl⟩:=aJ g;have j:(nth h.M i).Q=a / 16:=by have l:=c.1;have n:=c.2.1;omega
 have b:=sO e.L d;rw[j]at b;have k:t7 h a=i:=by unfold t7;rw[b];rfl
 rw[k];exact⟨d,c,b⟩
theorem vo{h:ab}{p:Int}(e:fJ h p=false)(a:h.u=true):p≠h.Y.W.a4/\p≠h.Y.W.a1:=by
 unfold fJ at e;rw[a]at e;simpa using e
theorem aV.freeS{h:ab}{E:List Int}{a:Int}{i:Nat}(f:aV h (a::E))(b:i<h.M.length)(g:dX (nth h.M i) a):aV (freeS h i a) E:=by
 have c:=f.give b g;unfold Ab.freeS;split
 ·rename_i e
  have d:nth (clrS h i a).M i=mc (nth h.M i) (dr (nth h.M i) a):=by unfold clrS;simp only[bA,true_and];rw[C9 b]
  obtain⟨o,j,k⟩:=aV.giveSpan (h:=clrS h i a) c (i:=i) (by unfold clrS;simp only[I1];exact b) (by rw[d];exact e.1) (λl=>by rw[d];exact vo e.2 l);unfold giveP;rw[j];exact k
 exact c
theorem aV.freeA{h:ab}{E:List Int}{a:Int}(b:aV h (a::E)):aV (freeA h a) E:=by
 obtain⟨c,d,-⟩:=b.at (b.hin a (R1 ..));exact b.freeS c d
theorem ot{c:aE}(h:bw c=true):c.d.length=4:=by
 unfold bw at h;simp only[I0,C0]at h;exact h.1
theorem aV.recyc{h:ab}{E:List Int}{a:Int}{t:Nat}(b:aV h (a::E))(f:t<h.T.length):aV (recyc t h a) E:=by
 obtain⟨g,i,-⟩:=b.at (b.hin a (R1 ..));unfold Ab.recyc;split
 ·rename_i c d
  unfold cput at d;split at d
  ·rename_i e
   cases d;obtain⟨j,l,n,k⟩:=e;exact b.put f (by rw[ot j];omega) ⟨_,am g,i,.inr ω⟩ k
  cases d
 exact b.freeA
theorem wK(h:ab)(i:Nat)(a:Int):(freeS h i a).T=h.T/\(freeS h i a).O=h.O/\(freeS h i a).G.Calls=h.G.Calls/\(freeS h i a).w=h.w/\(freeS h i a).Y=h.Y/\(freeS h i a).b5=h.b5/\(freeS h i a).a6=h.a6/\(freeS h i a).G.y=h.G.y:=by
 unfold freeS;split
 ·obtain⟨-,b,c⟩:=kH (clrS h i a).G (nth (clrS h i a).M i).Q
  exact⟨rfl,rfl,b,rfl,rfl,rfl,rfl,c⟩
 exact⟨rfl,rfl,rfl,rfl,rfl,rfl,rfl,rfl⟩
theorem mF(t:Nat)(h:ab)(a:Int):(recyc t h a).T.length=h.T.length/\(recyc t h a).O=h.O/\(recyc t h a).G.Calls=h.G.Calls/\(recyc t h a).w=h.w/\(recyc t h a).Y=h.Y/\(recyc t h a).b5=h.b5/\(recyc t h a).a6=h.a6/\(recyc t h a).G.y=h.G.y:=by
 unfold recyc;split
 ·exact⟨I1 ..,rfl,rfl,rfl,rfl,rfl,rfl,rfl⟩
 obtain⟨b,c⟩:=wK h (t7 h a) a;exact⟨U0 _ b,c⟩
def recycs(t:Nat)(h:ab)(az:List Int):ab:=az.foldl (recyc t) h
theorem gn(t:Nat):∀(az:List Int)(h:ab),(recycs t h az).T.length=h.T.length/\(recycs t h az).O=h.O/\(recycs t h az).G.Calls=h.G.Calls/\(recycs t h az).w=h.w/\(recycs t h az).Y=h.Y/\(recycs t h az).b5=h.b5/\(recycs t h az).a6=h.a6/\(recycs t h az).G.y=h.G.y
 | [],h=>⟨rfl,rfl,rfl,rfl,rfl,rfl,rfl,rfl⟩
 | a::az,h=>by
  obtain⟨b,c,d,e,f,g,i,j⟩:=gn t az (recyc t h a);obtain⟨k,l,n,o,p,q,r,u⟩:=mF t h a;exact⟨b.trans k,c.trans l,d.trans n,e.trans o,f.trans p,g.trans q,i.trans r,j.trans u⟩
theorem aV.recycs{t:Nat}{E:List Int} : ∀{az:List Int}{h:ab},aV h (az++E)->t<h.T.length->aV (recycs t h az) E
 | [],h,b,_=>b
 | a::az,h,b,c=>aV.recycs (az:=az) (h:=Ab.recyc t h a) (b.recyc c) (by rw[(mF t h a).1];exact c)
def qc(l:List aN):Int:=quarCells l l.length
def n8(room:Int):List aN->Nat
 | []=>0
 | x::xs=>if room<qc (x::xs) then n8 room xs+1 else 0
def HH(q:bQ)(x:aN):bQ:=⟨q.c1,(q.a5++[x]).drop (n8 q.c1 (q.a5++[x]))⟩
def xN(q:bQ)(x:aN):List aN:=(q.a5++[x]).take (n8 q.c1 (q.a5++[x]))
theorem Dh(room:Int):∀l,n8 room l<=l.length
 | []=>W2 _
 | x::xs=>by unfold n8;split;(have:=Dh room xs;simp only[List.length_cons];omega);omega
theorem A3{room:Int}(a:0<=room):∀l:List aN,qc (l.drop (n8 room l))<=room
 | []=>a
 | x::xs=>by
  unfold n8;split
  ·exact A3 a xs
  rename_i h;show qc (x::xs)<=room;omega
theorem y5{room:Int} : ∀{l:List aN}{k:Nat},k<n8 room l->room<qc (l.drop k)
 | [],k,h=>by cases h
 | x::xs,0,h=>by
  unfold n8 at h;split at h
  ·assumption
  omega
 | x::xs,k+1,h=>by
  unfold n8 at h;split at h
  ·exact y5 (l:=xs) ω
  omega
theorem jA{q:bQ} : fT q=true↔(∀x∈q.a5,0<=x.b/\x.b<=3/\0<=x.Addr/\0<=x.b7)/\(q.a5.Pairwise λa b=>a.b7<=b.b7)/\(q.a5.map (·.Addr)).Nodup/\0<=q.c1/\q.c1<=500/\qc q.a5<=q.c1:=by
 refine Iff.trans ?_ (and_congr Iff.rfl (and_congr (uJ (λa b:Int=>a<=b) (λa b c=>Int.le_trans) (λs:aN=>s.b7) q.a5) (and_congr (y4 (λs:aN=>s.Addr) q.a5) Iff.rfl)));unfold fT qc;simp only[I0,C0,cH,kb,Bool.not_eq_true',List.any_eq_false,eA];constructor
 ·rintro⟨e,f⟩
  refine⟨λx l=>?_,λi d=>(e i d).1.2.2.2.2,λi d=>(e i d).2,f⟩;obtain⟨i,d,rfl⟩:=aJ l;obtain⟨⟨g,h,j,k,-⟩,-⟩:=e i d;exact⟨g,h,j,k⟩
 rintro⟨e,f,n,o⟩
 refine⟨λi d=>?_,o⟩;obtain⟨g,h,j,k⟩:=e _ (am d);exact⟨⟨g,h,j,k,f i d⟩,n i d⟩
theorem N7{q:bQ}{x:aN}(h:fT q=true)(i:0<=x.b/\x.b<=3/\0<=x.Addr/\0<=x.b7)(j:∀y∈q.a5,y.b7<=x.b7)(k:∀y∈q.a5,y.Addr≠x.Addr):fT (HH q x)=true:=by
 obtain⟨l,n,o,g,p,r⟩:=jA.1 h;have c:(HH q x).a5.Sublist (q.a5++[x]):=List.drop_sublist ..;refine jA.2 ⟨λy d=>?_,List.Pairwise.sublist c ?_,List.Nodup.sublist (c.map _) ?_,g,p,A3 g _⟩
 ·rcases U2.1 (c.subset d) with d|d
  ·exact l y d
  rw[C1.1 d];exact i
 ·exact List.pairwise_append.2 ⟨n,List.pairwise_singleton ..,λa f b e=>by rw[C1.1 e];exact j a f⟩
 rw[R5];refine List.nodup_append.2 ⟨o,by simp,λa f b e=>?_⟩;obtain⟨y,d,rfl⟩:=C4.1 f;simp only[U5,List.map_nil,C1]at e;rw[e];exact k y d
def kI(r:List Int)(o:Nat):Nat->List Int
 | 0=>r
 | n+1=>(kI r o n).set (o+n) 0
def cL(k:ah)(a:Int):Nat:=(ac k.F.R (a / 16)).e.toNat
def eQ(k:ah)(a:Int)(n:Nat):ah:={k with F:=⟨⟨k.F.V.S.set (cL k a) (kI (nth k.F.V.S (cL k a)) (a % 16).toNat n),k.F.V.a9⟩,k.F.R⟩}
theorem lV(r:List Int)(o:Nat):∀n,(kI r o n).length=r.length
 | 0=>rfl
 | n+1=>by unfold kI;rw[I1,lV r o n]
theorem yE{r:List Int}{o:Nat} : ∀{n:Nat}{v:Int},v∈kI r o n->v∈r\/v=0
 | 0,v,h=>.inl h
 | n+1,v,h=>by
  rcases Z5 h with h|h
  ·exact yE h
  exact .inr h
theorem Dk{k:ah}(h:a7 k=true)(a:Int)(n:Nat):a7 (eQ k a n)=true:=by
 obtain⟨g,i,l,o,p⟩:=aD.1 h;obtain⟨q,r,t,f⟩:=aW.1 i;refine aD.2 ⟨g,aW.2 ⟨?_,?_,?_,λj c=>?_⟩,l,o,p⟩
 ·simp only[eQ,I1];exact q
 ·simp only[eQ,I1];exact r
 ·simp only[eQ,I1];exact t
 simp only[eQ,I1]at c |-;simp only[bA];split
 ·rename_i e
  have b:=f j c;unfold gF at b |-;simp only[I0,C0,W3]at b |-;rw[e.1]at *;refine⟨by rw[lV];exact b.1,λv d=>?_⟩;rcases yE d with d|rfl
  ·exact b.2 v d
  unfold ij;simp
 exact f j c
def yj(h:ab)(a:Int):Nat:=(h.K.findIdx? λl=>decide (l.Q*16=a)).getD 0
def freeL(h:ab)(i k:Nat):ab:={h with G:=unmN h.G (nth h.K k).Q (nth h.K k).a2.toNat,K:=dele h.K k,q:=(d5 (eM h) h.q ⟨(nth h.K k).Q,(nth h.K k).a2⟩).getD h.q,O:=dele h.O i}
def kK(h:ab)(o:br):aN:=⟨o.Addr,aI o.o,h.b5⟩
def inQuar(h:ab)(i:Nat):ab:={h with G:=eQ h.G (nth h.O i).Addr (csz (aI (nth h.O i).o)).toNat,O:=dele h.O i,a6:=HH h.a6 (kK h (nth h.O i))}
def Dw(h:ab)(t i:Nat):ab:=recycs t (inQuar h i) ((xN h.a6 (kK h (nth h.O i))).map (·.Addr))
def freeOb(h:ab)(t i:Nat):ab × Int:=
 if aI (nth h.O i).o<0 then(freeL h i (yj h (nth h.O i).Addr),0)
 else if(ac (tbl h) ((nth h.O i).Addr / 16)).j=1 then(h,5)
 else(Dw h t i,0)
theorem uI{h:ab}{l:a8}(d:l∈h.K){a:Int}(e:a=16*l.Q):yj h a<h.K.length/\a=16*(nth h.K (yj h a)).Q/\(∀j,j<yj h a->(nth h.K j).Q*16≠a)/\h.K.findIdx? (λl=>decide (l.Q*16=a))=some (yj h a):=by
 cases b:h.K.findIdx? λl=>decide (l.Q*16=a) with
 | none=>
  have:=List.findIdx?_eq_none_iff.1 b l d;rw[T4]at this;omega
 | some k=>
  obtain⟨c,f,g⟩:=T6.1 b;have i:yj h a=k:=by unfold yj;rw[b];rfl
  rw[i];rw[<-bc (W1 c),C0]at f;refine⟨c,ω,λj n=>?_,rfl⟩;have:=g j n;rw[<-bc (W1 (show j<h.K.length by omega))]at this;simpa using this
theorem dA{h:ab}{E:List Int}(a:aV h E){o:br}(g:o∈h.O):(aI o.o<0->Rc h.K o.Addr o.o)/\(¬aI o.o<0->(∃s∈h.M,dX s o.Addr/\s.b=aI o.o)/\aI o.o<=3):=by
 rcases a.oow o g with⟨s,d,b,c⟩|⟨l,f,b,c⟩
 ·have i:=aC (a.L.sok s d)
  exact⟨λe=>ω,λ_=>⟨⟨s,d,b,c⟩,ω⟩⟩
 have j:=cw (a.L.lok l f);refine⟨λ_=>⟨l,f,b,c⟩,λe=>absurd ?_ e⟩;unfold aI;rw[C8 ω,C8 ω,C8 ω,C8 ω,C8 ω]
 decide
theorem aV.inQuar{h:ab}{i:Nat}(a:aV h [])(j:i<h.O.length)(r:¬aI (nth h.O i).o<0):aV (inQuar h i) ((xN h.a6 (kK h (nth h.O i))).map (·.Addr)):=by
 obtain⟨⟨s,l,n,t⟩,u⟩:=(dA a (am j)).2 r;have b:jH h.M (nth h.O i).Addr (aI (nth h.O i).o):=⟨s,l,n,.inr t⟩
 have d:=a.nums;unfold cg at d;rw[C0]at d;have w:=aC (a.L.sok s l);have o:=a.dropO j b.any;have A:=o.cells (k:=eQ h.G (nth h.O i).Addr (csz (aI (nth h.O i).o)).toNat) (Dk a.ker _ _) rfl;have f:∀y∈h.a6.a5,y.Addr≠(nth h.O i).Addr:=λy g e=>by
  have c:=o.nd;rw[List.cons_append,List.nil_append]at c;refine(List.nodup_cons.1 c).1 ?_;rw[<-e];unfold holders;simp only[U2];exact .inl (.inr (C4.2 ⟨y,g,rfl⟩))
 have p:=aV.toQuar (x:=kK h (nth h.O i)) (q:=HH h.a6 (kK h (nth h.O i))) (out:=xN h.a6 (kK h (nth h.O i))) A (N7 a.quar ⟨by show 0<=aI _;omega,u,by show 0<=(nth h.O i).Addr;have:=n.1;omega,d.2.2.1⟩ (λy g=>a.snc y g) f) (by unfold xN HH;simp only[List.take_append_drop]) (W4 _) b;rw[List.append_nil]at p;exact p
theorem aV.freeOb{h:ab}{t i:Nat}(a:aV h [])(b:i<h.O.length)(e:t<h.T.length):aV (freeOb h t i).1 []:=by
 unfold Ab.freeOb;split
 ·rename_i c
  obtain⟨l,f,d,-⟩:=(dA a (am b)).1 c;obtain⟨g,j,-⟩:=uI f d;obtain⟨o,k,n⟩:=a.dropL b g j;unfold Ab.freeL;rw[k];exact n
 rename_i c;split
 ·exact a
 have d:=a.inQuar b c;refine aV.recycs (E:=[]) ?_ e;rw[List.append_nil];exact d
theorem Hr:∀{H L:List Int},H.Nodup->(∀x∈H,x∈L)->H.length<=L.length
 | [],L,_,_=>T0 _
 | y::H,L,f,b=>by
  have c:y∈L:=b y (R1 ..);have a:=List.nodup_cons.1 f;have:=Hr (L:=L.erase y) a.2 λz d=>(List.mem_erase_of_ne (λe:z=y=>a.1 (by rw[<-e];exact d))).2 (b z (Z4 _ d))
  rw[List.length_erase_of_mem c]at this;have g:=List.length_pos_of_mem c;simp only[List.length_cons];omega
theorem uY{H:List Int}{n:Nat}(c:H.Nodup)(a:∀x∈H,0<=x/\x<n):H.length<=n:=by
 have:=Hr (L:=(List.range n).map λ(i:Nat)=>(i:Int)) c λx b=>C4.2 ⟨x.toNat,List.mem_range.2 (by have:=a x b;omega),by have:=a x b;omega⟩
 simpa using this
theorem cN{α:Type}{f:α->Int}{xs:List α}(h:xs.Pairwise λa b=>f a<f b):(xs.map f).Nodup:=by
 unfold List.Nodup;rw[List.pairwise_map];exact h.imp λh e=>ω
theorem KO:∀(b:List (List Int))(k:Nat)(s:List Int),(ge k s b).isSome=true->∀l∈b,l.length<=8
 | [],_,_,_,l,a=>by cases a
 | x::b,k,s,h,l,a=>by
  simp only[ge]at h;cases e:eH k s x with
  | none=>rw[e]at h;cases h
  | some d=>
   rw[e]at h;rcases List.mem_cons.1 a with rfl|a
   ·unfold eH at e
    split at e
    ·rename_i c;exact c.1
    cases e
   exact KO b (k+1) d h l a
theorem eL{c:aE}(h:bw c=true):c.d.length=4/\∀l∈c.d,l.length<=8:=by
 have a:=h;unfold bw at h;simp only[I0,C0]at h;exact⟨h.1,KO _ _ _ h.2⟩
structure ND(h:ab):Prop where
 cells:h.G.F.V.S.length<=32
 row:∀r∈h.G.F.V.S,r.length=16
 used:h.G.F.V.a9.length<=32
 ents:h.G.F.R.J.length<=32
 ref:h.G.y.length<=40
 free:h.q.length<=32
 spans:h.M.length<=32
 larges:h.K.length<=32
 objs:h.O.length<=512
 caches:h.T.length<=4
 lists:∀c∈h.T,c.d.length=4/\∀l∈c.d,l.length<=8
 quar:h.a6.a5.length<=512
theorem jH.bd{h:ab}{E:List Int}(b:aV h E){a c:Int}(d:jH h.M a c):0<=a/\a<512:=by
 obtain⟨s,e,⟨f,g,-⟩,-⟩:=d;have i:=aC (b.L.sok s e);omega
theorem aV.lens{h:ab}{E:List Int}(d:aV h E):ND h:=by
 obtain⟨O,t,u,P,Q,R,w⟩:=aD.1 d.ker;obtain⟨S,A,T,B⟩:=aW.1 t;obtain⟨U,V,C⟩:=bx.1 u;obtain⟨p,D,W⟩:=fA.1 d.rng;obtain⟨X,Y,F,Z⟩:=jA.1 d.quar;have q:=d.mail;unfold bJ at q;simp only[I0,C0]at q;have G:=d.nc;refine⟨A,λr g=>?_,ω,C,w,?_,?_,?_,?_,ω,λc J=>eL (d.cach c J),?_⟩
 ·obtain⟨j,K,rfl⟩:=aJ g
  have:=B j K;unfold gF at this;simp only[I0,C0]at this;exact this.1
 ·have:=uY (H:=h.q.map (·.At)) (n:=32) (cN (p.1.imp_of_mem fun {a b} ha hb h=>by have:=p.2 a ha;omega)) λx f=>by
   obtain⟨r,g,rfl⟩:=C4.1 f;have:=D r g;omega
  simpa using this
 ·have:=uY (H:=h.M.map (·.Q)) (n:=32) d.L.nd λx f=>by
   obtain⟨s,i,rfl⟩:=C4.1 f;have:=aC (d.L.sok s i);omega
  simpa using this
 ·have:=uY (H:=h.K.map (·.Q)) (n:=32) (cN d.srl) λx f=>by
   obtain⟨l,k,rfl⟩:=C4.1 f;have:=aM (d.L.lok l k);omega
  simpa using this
 ·have:=uY (H:=h.O.map (·.Addr)) (n:=512) (cN d.osr) λx f=>by
   obtain⟨o,M,rfl⟩:=C4.1 f;rcases d.oow o M with⟨s,i,⟨k1,k2,-⟩,-⟩|⟨l,k,e,-⟩
   ·have:=aC (d.L.sok s i);omega
   have:=aM (d.L.lok l k);omega
  simpa using this
 have:=uY (H:=h.a6.a5.map (·.Addr)) (n:=512) F λx f=>by
  obtain⟨y,N,rfl⟩:=C4.1 f;exact(d.hqu y N).bd d
 simpa using this
theorem ND.sml{h:ab}(a:ND h)(d:a7 h.G=true)(e:aK.sml h.w)(f:cK.sml h.Y):ab.sml h:=
 ⟨bH d,⟨by have:=a.free;omega,λ_ _=>trivial⟩,⟨by have:=a.spans;omega,λ_ _=>trivial⟩,⟨by have:=a.larges;omega,λ_ _=>trivial⟩,⟨by have:=a.objs;omega,λ_ _=>trivial⟩,⟨by have:=a.caches;omega,λc b=>⟨by have:=(a.lists c b).1;omega,λl g=>by have:=(a.lists c b).2 l g;show l.length<=1048576;omega⟩⟩,e,⟨by have:=a.quar;omega,λ_ _=>trivial⟩,f⟩
def lz(a:Int)(o:br):Bool:=decide (o.Addr=a)
def o7(h:ab)(a:Int):Nat:=(dD (lz a) h.O).toNat
theorem aV.objAt{h:ab}{E:List Int}(k:aV h E){o:br}(l:o∈h.O):o7 h o.Addr<h.O.length/\nth h.O (o7 h o.Addr)=o/\dD (lz o.Addr) h.O=(o7 h o.Addr:Nat):=by
 obtain⟨i,a,rfl⟩:=aJ l;have d:dD (lz (nth h.O i).Addr) h.O=(i:Nat):=ed (ao a) (by unfold lz;simp) λj z p g=>by
  have b:=bc g;have c:=(Z1.1 g).1;subst b;unfold lz;refine R0 λe=>?_
  have:=cE (f:=(·.Addr)) (cN k.osr) c a e;omega
 have n:o7 h (nth h.O i).Addr=i:=by unfold o7;rw[d];rfl
 rw[n];exact⟨a,rfl,d⟩
theorem su(k:ah)(p:Int)(n:Nat):(unmN k p n).Calls=k.Calls/\(unmN k p n).y=k.y:=(fo k p n).2
open Go.RowKit
set_option maxRecDepth 20000
set_option maxHeartbeats 4000000
theorem Mm(y:aA)(a:List aA):df [] (y::a)=df [y] a:=by rw[df];rfl
theorem BD{α:Type}[Inhabited α]{xs:List α}(h:xs≠[]):xs.getLast? = some (nth xs (xs.length - 1)):=by
 have a:0<xs.length:=List.length_pos_iff.2 h;rw[List.getLast?_eq_getElem?,ao ω]
theorem LK{α:Type}{xs:List α}(h:xs≠[])(v:α):xs.dropLast++[v]=xs.set (xs.length - 1) v:=by
 have b:0<xs.length:=List.length_pos_iff.2 h;refine List.ext_getElem (by simp;omega) λi a c=>?_
 rw[List.getElem_set];by_cases e:xs.length - 1=i
 ·subst e
  rw[C9 rfl,List.getElem_append_right (by simp)];simp
 rw[C8 e,List.getElem_append_left (by simp at a |-;omega),List.getElem_dropLast]
theorem Kg{out:List aA}{y:aA}{a:List aA}(h:out≠[])(e:(nth out (out.length - 1)).At+(nth out (out.length - 1)).b0=y.At):df out (y::a)=df (out.set (out.length - 1) ⟨(nth out (out.length - 1)).At,(nth out (out.length - 1)).b0+y.b0⟩) a:=by
 rw[df,BD h];simp only;rw[C9 e,LK h]
theorem Nb{out:List aA}{y:aA}{a:List aA}(h:out≠[])(e:¬(nth out (out.length - 1)).At+(nth out (out.length - 1)).b0=y.At):df out (y::a)=df (out++[y]) a:=by
 rw[df,BD h];simp only;rw[C8 e]
theorem qC(xs:List aA)(B:xs.length<=4194304)(o:∀y∈xs,0<=y.At/\1<=y.b0/\y.At+y.b0<=1048576):ar Tryz.prog 584 false [.val none (bO .X xs)] .one (bO .own (df [] xs)):=by
 refine fO 63 [(6,21,[15,16,17,18,19,20,21,22,23,24,25,26,27,28,29,30,31,32,33,34,35]),(7,15,[38,39,40,41,42,43,44,45,46,47,48,49,50,51,52])] Tryz.func584 rfl ?_ (.inr (oB _))
 repeat'(first|refine gO ?_|fail)
 (conv=>whnf)
 refine CE (ι:=Nat × List aA) (λq=>[(0,.H .one (bO .X xs)),(3,.H .one (bO .own q.2)),(4,.H .one [I ((q.1:Nat):Int)])]) (λq=>q.1<=xs.length/\df q.2 (xs.drop q.1)=df [] xs/\q.2.length<=q.1/\∀y∈q.2,0<=y.At/\1<=y.b0/\y.At+y.b0<=1048576) (λq=>xs.length - q.1) ((0,[])) ?_ (⟨T0 _,rfl,W2 _,λy g=>by cases g⟩) λq p=>?_
 ·exact wB
 obtain⟨i,out⟩:=q;obtain⟨t,b,j,c⟩:=p;simp only at t b j c |-;by_cases k:i<xs.length
 ·have l:=ao k
  have g:=o _ (am k);rw[jD k]at b;by_cases h:out=[]
  ·subst h
   rw[Mm]at b;have D:([]:List aA).length=0:=rfl
   repeat'(first|refine gD ?_|(conv=>whnf);first|with_reducible refine CC (aa l) ?_|refine Ln.mk (show List.length _=0 from rfl) ?_|refine Ap.sm (λr u=>by cases u) rfl (by simp) (by decide) rfl ?_)
   ((conv=>whnf)
    refine CD (i+1,[nth xs i]) ⟨(by simp only;omega),b,(by simp),(λy a=>by rw[C1.1 a];exact g)⟩ (by simp only;omega) ?_
    (repeat'(first|exact trivial|rfl|exact CK rfl (CK (U0 (C.s dK.own) (by simp[aA.enc])) trivial)|refine CK ?_ ?_)))
  have n:0<out.length:=List.length_pos_iff.2 h;have d:out[((out.length:Int) - 1).toNat]? = some (nth out (out.length - 1)):=by
   rw[show((out.length:Int) - 1).toNat=out.length - 1 by omega];exact ao ω
  have w:=c _ (am (xs:=out) (i:=out.length - 1) ω);by_cases e:(nth out (out.length - 1)).At+(nth out (out.length - 1)).b0=(nth xs i).At
  ·rw[Kg h e]at b
   repeat'(first|refine gA ?_|(conv=>whnf);first|with_reducible refine CC (aa l) ?_|refine CM ω (aa d) ?_|refine CH rfl (aa d) rfl ?_|refine CO rfl rfl (aa d) rfl (Z0 rfl) rfl ?_)
   ((conv=>whnf)
    refine CD (i+1,out.set (out.length - 1) ⟨(nth out (out.length - 1)).At,(nth out (out.length - 1)).b0+(nth xs i).b0⟩) ⟨(by simp only;omega),b,(by simp only;rw[I1];omega),(λy a=>?_)⟩ (by simp only;omega) ?_)
   ·rcases Z5 a with a|rfl
    ·exact c y a
    simp only;omega
   (repeat'(first|exact trivial|rfl|exact CK rfl (CK (U0 (C.s dK.own) (by rw[show((out.length:Int) - 1).toNat=out.length - 1 by omega,W5];rfl)) trivial)|refine CK ?_ ?_))
  rw[Nb h e]at b
  repeat'(first|refine gA ?_|(conv=>whnf);first|with_reducible refine CC (aa l) ?_|refine CM ω (aa d) ?_|refine CH rfl (aa d) rfl ?_|refine Ap.sm (aQ λ_=>rfl) rfl (by simp;omega) (by decide) rfl ?_)
  ((conv=>whnf)
   refine CD (i+1,out++[nth xs i]) ⟨(by simp only;omega),b,(by simp;omega),(λy a=>?_)⟩ (by simp only;omega) ?_)
  ·rcases U2.1 a with a|a
   ·exact c y a
   rw[C1.1 a];exact g
  (repeat'(first|exact trivial|rfl|exact CK rfl (CK (U0 (C.s dK.own) (by simp[aA.enc])) trivial)|refine CK ?_ ?_))
 obtain rfl:i=xs.length:=ω
 rw[List.drop_length]at b
 repeat'(first|refine gD ?_|fail)
 rw[<-b];rfl
theorem zx(r y:aA)(a:List aA)(put:Bool):mi r (y::a) put=if ovl y r then none else if !put&&decide (y.At > r.At) then(mi r a true).map λt=>r::y::t else(mi r a put).map λt=>y::t:=by rw[mi]
theorem lJ(pages:Int)(xs:List aA)(r:aA)(H:0<=pages/\pages<=1048576)(J:iT xs):ar Tryz.prog 568 false [.val none [I pages],.val none (bO .X xs),.val (some 2) (aA.enc .X r)] (.tup [none,none]) (Fb xs (d5 pages xs r)):=by
 have w:=J.1;have n:=l8 pages xs H J;have E:=vP pages r H;cases o:b9 pages xs<;>rw[o]at n
 ·rw[show d5 pages xs r=none by unfold d5;rw[C8 (by rw[o];simp)]]
  refine fO 82 [] Tryz.func568 rfl ?_ (.inr (sJ _ _))
  repeat'(first|refine gO ?_|(conv=>whnf);first|refine C7 (n) ?_|refine CR (λ_=>rfl) (λ_=>rfl) w (by decide) ?_)
  rfl
 cases k:rangeIn pages r<;>rw[k]at E
 ·rw[show d5 pages xs r=none by unfold d5;rw[C8 (by rw[k];simp)]]
  refine fO 82 [] Tryz.func568 rfl ?_ (.inr (sJ _ _))
  repeat'(first|refine gO ?_|(conv=>whnf);first|refine C7 (n) ?_|refine C7 (E) ?_|refine CR (λ_=>rfl) (λ_=>rfl) w (by decide) ?_)
  rfl
 obtain⟨K,L⟩:=Bw o;have p:0<=r.At/\1<=r.b0/\r.At+r.b0<=pages:=by
  unfold rangeIn at k;rw[C0]at k;omega
 rw[show d5 pages xs r=(mi r xs false).map (df []) by unfold d5;rw[C9 ⟨o,k⟩,zd (pages:=pages) K p.2.1 λz M=>by simp at M]];refine fO 82 [] Tryz.func568 rfl ?_ (.inr (sJ _ _))
 repeat'(first|refine gO ?_|(conv=>whnf);first|refine C7 (n) ?_|refine C7 (E) ?_|refine CR (λ_=>rfl) (λ_=>rfl) w (by decide) ?_)
 (conv=>whnf)
 refine CE (ι:=Nat × List aA × Bool) (λq=>[(1,.H .one (bO .X xs)),(5,.H .box (aA.enc .X r)),(8,.H .one (bO .own xs)),(9,.H .one (bO .own q.2.1)),(10,.H .one [B (q.2.2)]),(11,.H .one [I ((q.1:Nat):Int)])]) (λq=>q.1<=xs.length/\(mi r (xs.drop q.1) q.2.2).map (q.2.1++·)=mi r xs false/\q.2.1.length<=q.1+q.2.2.toNat/\(∀y∈q.2.1,0<=y.At/\1<=y.b0/\y.At+y.b0<=1048576)) (λq=>xs.length - q.1) ((0,[],false)) ?_ (⟨T0 _,by simp,by simp,by simp⟩) λq g=>?_
 ·exact wB
 obtain⟨i,out,put⟩:=q;obtain⟨N,b,d,e⟩:=g;simp only at N b d e |-;have l:0<=r.At/\1<=r.b0/\r.At+r.b0<=1048576:=ω
 by_cases F:i<xs.length
 ·have u:=ao F
  have O:=L _ (am F);have h:0<=(nth xs i).At/\1<=(nth xs i).b0/\(nth xs i).At+(nth xs i).b0<=1048576:=ω
  rw[jD F]at b;by_cases j:ovl (nth xs i) r=true
  ·rw[<-b]
   rw[zx,C9 j];unfold ovl at j;rw[C0]at j
   repeat'(first|refine gD ?_|(conv=>whnf);first|with_reducible (first|refine CC (aa u) ?_|refine Bf.D (λg=>?_) (λg=>?_)))
   rfl
  rw[zx,C8 j]at b;unfold ovl at j;rw[C0]at j;cases put with
  | false=>
   have d:out.length<=i:=by simpa using d
   by_cases P:(nth xs i).At > r.At
   ·rw[C9 (by simp;omega),Option.map_map]at b
    repeat'(first|refine gD ?_|(conv=>whnf);first|with_reducible (first|refine CC (aa u) ?_|refine Bf.D (λg=>?_) (λg=>?_))|refine Ap.sm (aQ λ_=>rfl) rfl (by simp;omega) (by decide) rfl ?_|refine Ap.sm (λr p=>by simp at p;rcases p with⟨a,_,rfl⟩|rfl<;>rfl) rfl (by simp;omega) (by decide) rfl ?_)
    ((conv=>whnf)
     refine CD (i+1,out++[r,nth xs i],true) ⟨(by simp only;omega),(by rw[<-b];congr 1;funext t;simp),(by simp;omega),(λy c=>?_)⟩ (by simp only;omega) ?_)
    ·rcases U2.1 c with c|c
     ·exact e y c
     rcases List.mem_cons.1 c with rfl|c
     ·exact l
     rw[C1.1 c];exact h
    (repeat'(first|exact trivial|rfl|exact CK rfl (CK (U0 (C.s dK.own) (by simp[aA.enc])) trivial)|refine CK ?_ ?_))
   rw[C8 (by simp;omega),Option.map_map]at b
   repeat'(first|refine gD ?_|(conv=>whnf);first|with_reducible (first|refine CC (aa u) ?_|refine Bf.D (λg=>?_) (λg=>?_))|refine Ap.sm (aQ λ_=>rfl) rfl (by simp;omega) (by decide) rfl ?_)
   ((conv=>whnf)
    refine CD (i+1,out++[nth xs i],false) ⟨(by simp only;omega),(by rw[<-b];congr 1;funext t;simp),(by simp;omega),(λy c=>?_)⟩ (by simp only;omega) ?_)
   ·rcases U2.1 c with c|c
    ·exact e y c
    rw[C1.1 c];exact h
   (repeat'(first|exact trivial|rfl|exact CK rfl (CK (U0 (C.s dK.own) (by simp[aA.enc])) trivial)|refine CK ?_ ?_))
  | true=>
   have d:out.length<=i+1:=d;rw[C8 (by simp),Option.map_map]at b;by_cases Q:(nth xs i).At<r.At+r.b0
   all_goals
    repeat'(first|refine gD ?_|(conv=>whnf);first|with_reducible (first|refine CC (aa u) ?_|refine Bf.D (λg=>?_) (λg=>?_))|refine Ap.sm (aQ λ_=>rfl) rfl (by simp;omega) (by decide) rfl ?_)
    ((conv=>whnf)
     refine CD (i+1,out++[nth xs i],true) ⟨(by simp only;omega),(by rw[<-b];congr 1;funext t;simp),(by simp;omega),(λy c=>?_)⟩ (by simp only;omega) ?_)
    ·rcases U2.1 c with c|c
     ·exact e y c
     rw[C1.1 c];exact h
    (repeat'(first|exact trivial|rfl|exact CK rfl (CK (U0 (C.s dK.own) (by simp[aA.enc])) trivial)|refine CK ?_ ?_))
 obtain rfl:i=xs.length:=ω
 rw[List.drop_length]at b;cases put with
 | false=>
  have d:out.length<=xs.length:=by simpa using d
  rw[<-b];have G:=qC (out++[r]) (by simp;omega) (λy c=>by
    rcases U2.1 c with c|c
    · exact e y c
    rw[C1.1 c];exact l)
  repeat'(first|refine gD ?_|(conv=>whnf);first|refine Ap.sm (aQ λ_=>rfl) rfl (by simp;omega) (by decide) (show(out++[r]).map (aA.enc .own)=_ by simp[aA.enc]) ?_|refine CG (G) ⟨⟨rfl,dZ _⟩,trivial⟩ ?_)
  rfl
 | true=>
  have d:out.length<=xs.length+1:=d;rw[<-b];have G:=qC out ω e
  repeat'(first|refine gD ?_|(conv=>whnf);first|refine CG (G) ⟨⟨rfl,dZ _⟩,trivial⟩ ?_)
  simp[mi,Fb]
  rfl
theorem shl64{i:Int}(d:0<=i/\i<=15):IntKind.i64.wrap (1*2 ^ min i.toNat IntKind.i64.bits)=2 ^ i.toNat/\0<=(2:Int) ^ i.toNat/\(2:Int) ^ i.toNat<=32768:=by
 have a:min i.toNat IntKind.i64.bits=i.toNat:=Nat.min_eq_left (show i.toNat<=64 by omega);have b:(0:Int)<=2 ^ i.toNat/\(2:Int) ^ i.toNat<=32768:=by
  have:(2:Nat) ^ i.toNat<=2 ^ 15:=Nat.pow_le_pow_right (by decide) ω;have c:((2 ^ i.toNat:Nat):Int)=(2:Int) ^ i.toNat:=Int.natCast_pow 2 i.toNat;rw[<-c];exact⟨Int.natCast_nonneg _,Int.ofNat_le.2 this⟩
 rw[a,Int.one_mul];exact⟨eE ω ω,b⟩
theorem clr64{b i:Int}(a:0<=b/\b<=65535):IntKind.i64.wrap ((BitVec.ofInt IntKind.i64.bits b &&& ~~~BitVec.ofInt IntKind.i64.bits (2 ^ i.toNat)).toNat:Nat)=yi b i:=by
 have:=Ag (i:=i) a;unfold yi at this |-;exact eE ω ω
theorem sT(b i:Int)(c:0<=b/\b<=65535)(d:0<=i/\i<=15):ar Tryz.prog 579 false [.val none [I b],.val none [I i]] .one [I (yi b i)]:=by
 have a:=oF b i;rw[O0 ω]at a;have e:IntKind.u64.wrap i=i:=by unfold IntKind.wrap;simp[IntKind.signed,IntKind.bits];omega
 refine fO 15 [] Tryz.func579 rfl ?_
 repeat'(first|refine gO ?_|(conv=>whnf);first|refine CB ?_|refine C7 (a) ?_|refine CN ω ?_|refine CL e ?_|refine CL (shl64 d).1 ?_|refine CL (clr64 c) ?_)
 rfl
theorem NM{s:ax}{k:Int}(a:aR s.b1 k=true):0<=k/\k<=15:=by
 have:=(dH _ _).1 a;omega
theorem yu(s:ax)(k:Int)(a:bg s=true)(b:aR s.b1 k=true):ar Tryz.prog 553 false [.val (some 3) (ax.enc .X s),.val none [I k]] (.tup [some 3,none]) (ax.enc .own (mc s k)++[B true]):=by
 have e:=eC a;have g:=NM b;have c:=gi s;have d:=i7 s.b1 k ω;rw[a]at c;rw[b]at d;refine fO 23 [] Tryz.func553 rfl ?_ (.inr (aZ (ax.enc_fr _) ⟨trivial,trivial⟩))
 repeat'(first|refine gO ?_|(conv=>whnf);first|refine CB ?_|refine C7 (c) ?_|refine C7 (d) ?_|refine C7 (sT s.b1 k e g) ?_)
 rfl
theorem w7(c:aE)(k:Int)(b:aE.sml c):ar Tryz.prog 480 false [.val (some 1) (aE.enc .X c),.val none [I k]] .one [B (bw c&&decide (0<=k/\k<=3))]:=by
 have a:=nh c b;cases e:bw c<;>rw[e]at a
 all_goals
  refine fO 11 [] Tryz.func480 rfl ?_
  repeat'(first|refine gO ?_|(conv=>whnf);first|refine CB ?_|refine C7 (a) ?_|refine C7 (aF k 0 3) ?_)
  all_goals rfl
theorem se{c:aE}{k:Nat}(a:k<c.d.length):c.d[k]? = some (nth c.d k):=ao a
theorem KG{c:aE}(h:bw c=true)(k:Nat)(a:Int):aE.sml (mt c k a):=by
 obtain⟨f,d⟩:=eL h;refine⟨by simp only[mt,I1];omega,λl b=>?_⟩;rcases Z5 b with b|rfl
 ·have:=d l b;show l.length<=1048576;omega
 show(nth c.d k++[a]).length<=1048576;by_cases e:k<c.d.length
 ·have:=d _ (am e);simp;omega
 have:nth c.d k=[]:=by unfold nth;rw[I2,C2 ω];rfl
 rw[this];simp
theorem K9(c:aE)(k:Nat)(a:Int):aE.enc .own (mt c k a)=[.s .own ((c.d.map (aG .own)).set k (aG .own (nth c.d k++[a])))]:=by simp[aE.enc,mt,W5]
theorem gq{α:Type}{f:α->List C}{xs:List α}{k:Nat}{y:α}{r:List C}(h:xs[k]? = some y):((xs.map f).set k r)[k]? = some r:=by
 rw[O3 (by rw[X0];exact(Z1.1 h).1)]
theorem iF{α β:Type}(f:α->β)(xs:List α)(y:α):(xs++[y]).map f=xs.map f++[f y]:=by simp
def Hd(c:aE)(k a:Int):List C:=aE.enc .own ((cput c k a).getD c)++[B (cput c k a).isSome]
theorem La(c:aE)(k a:Int):gR (Hd c k a):=aZ (aE.enc_fr _) ⟨trivial,trivial⟩
theorem xR(c:aE)(k:Nat)(a:Int)(h:bw c=true)(B:k<=3):ar Tryz.prog 583 false [.val (some 1) (aE.enc .X c),.val none [I (k:Nat)],.val none [I a]] (.tup [some 1,none]) (Hd c k a):=by
 obtain⟨D,q⟩:=eL h;have r:aE.sml c:=⟨ω,λl u=>by have:=q l u;show l.length<=1048576;omega⟩
 have n:=w7 c k r;rw[h,O0 ω]at n;have t:=iu c r;have d:=KG h k a;have o:=nh (mt c k a) d;have w:=iu (mt c k a) d;have b:=se (c:=c) (k:=k) ω;have y:=q _ (am (xs:=c.d) (i:=k) ω);have j:=aE.enc_fz (mt c k a);rw[K9]at j;have g:=La c k a;unfold Hd at g |-;cases e:bw (mt c k a)<;>rw[e]at o
 ·have p:cput c k a=none:=by unfold cput;rw[C8 λx=>by have:=x.2.2.2;rw[O2,e]at this;cases this]
  rw[p]at g |-;refine fO 35 [(4,267,[16,17,18,19,20,21,22,23,24,25,27,0,1,2,3,4,5,6,7,8,9,10,1000,1001,1002,11,12])] Tryz.func583 rfl ?_ (.inr g)
  repeat'(first|refine gO ?_|(conv=>whnf);first|with_reducible refine CC (aa b) ?_|refine CB ?_|refine CC (gq b) ?_|refine CH rfl (gq b) rfl ?_|refine C7 (n) ?_|refine C7 (t) ?_|refine Lq.one rfl rfl (aa b) rfl (Z0 rfl) rfl rfl ?_|refine CH rfl (aa b) rfl ?_|refine CO rfl rfl (gq b) rfl (Z0 rfl) (show [C.s dK.own ((c.d.map (aG .own)).set k (aG .own (nth c.d k++[a])))]=_ from by simp only[List.set_cons_zero,List.set_set,O2];rfl) ?_|refine Ap.sm (aQ λ_=>rfl) rfl (by simp;omega) (by decide) (iF _ _ _) ?_|refine CG (o) ⟨⟨rfl,j⟩,trivial⟩ ?_)
  rfl
 have p:cput c k a=some (mt c k a):=by unfold cput;rw[C9 ⟨h,ω,ω,by rw[O2];exact e⟩,O2]
 rw[p]at g |-;refine fO 35 [(4,267,[16,17,18,19,20,21,22,23,24,25,27,0,1,2,3,4,5,6,7,8,9,10,1000,1001,1002,11,12])] Tryz.func583 rfl ?_ (.inr g)
 repeat'(first|refine gO ?_|(conv=>whnf);first|with_reducible refine CC (aa b) ?_|refine CB ?_|refine CC (gq b) ?_|refine CH rfl (gq b) rfl ?_|refine C7 (n) ?_|refine C7 (t) ?_|refine Lq.one rfl rfl (aa b) rfl (Z0 rfl) rfl rfl ?_|refine CH rfl (aa b) rfl ?_|refine CO rfl rfl (gq b) rfl (Z0 rfl) (show [C.s dK.own ((c.d.map (aG .own)).set k (aG .own (nth c.d k++[a])))]=_ from by simp only[List.set_cons_zero,List.set_set,O2];rfl) ?_|refine Ap.sm (aQ λ_=>rfl) rfl (by simp;omega) (by decide) (iF _ _ _) ?_|refine CG (o) ⟨⟨rfl,j⟩,trivial⟩ ?_|refine CG (w) ⟨⟨rfl,j⟩,trivial⟩ ?_)
 rfl
def bz(x:ab):List C:=[.s .own (x.G.F.V.S.map (aG .own)),.s .own (x.G.F.V.a9.map (rB .own)),.s .own (x.G.F.R.J.map (bi.enc .own)),I x.G.Calls,.s .own (x.G.y.map (rI .own)),.s .own (x.q.map (aA.enc .own)),.s .own (x.M.map (ax.enc .own)),.s .own (x.K.map (a8.enc .own)),.s .own (x.O.map (br.enc .own)),.s .own (x.T.map (aE.enc .own)),.s .own (x.w.U.map (dd .own)),.s .own (x.w.a0.map (aG .own)),I x.a6.c1,.s .own (x.a6.a5.map (aN.enc .own)),I x.c0,I x.b5,I x.c3,I x.a,B x.u,I x.Y.W.a4,I x.Y.W.a1,.s .X (x.Y.W.S.map (rI .X)),I x.Y.b2,I x.Y.a]
theorem bD(x:ab):dP (bz x)=ab.enc .X x:=by simp[dP,bz,ab.enc,aE.enc_fz,bi.enc_fz,a8.enc_fz,br.enc_fz,aA.enc_fz,ax.enc_fz,aN.enc_fz,rB,pY,rI,eN,<-bZ,T5]
def vc(x:cK):List C:=[I x.W.a4,I x.W.a1,.s .X (x.W.S.map (rI .X)),I x.b2,I x.a]
theorem Pu.two{g a:List C}{off i k j h l c:Nat}{cs:List C}{K:List C->Prop}{o d:dK}{rows rows2:List (List C)}{r f:List C}(h1:g[off]? = some (.s o rows))(u:o.mine=true)(n:rows[i]? = some r)(w:r.length=k)(p:r[j]? = some (.s d rows2))(y:d.mine=true)(q:rows2[h]? = some f)(A:f.length=l)(E:c+cs.length<=l)(B:a=g.set off (.s o (rows.set i (r.set j (.s d (rows2.set h (splice f c cs)))))))(D:K a):Pu g off [(i,k,j),(h,l,c)] cs K:=by
 have t:o≠.X:=λe=>by subst e;cases u
 have b:d≠.X:=λe=>by subst e;cases y
 refine Pu.mk (r:=f) (j:=c) (by simp[bW,h1,n,w,p,q,A]) (by simp[jT,h1,n,t,p,q,b]) ω (by rw[B];simp[fK,h1,n,p,q]) D
theorem Ex(x:List ax):fz (.s .own (x.map (ax.enc .own)))=.s .X (x.map (ax.enc .X)):=(List.cons.inj (wM x)).1
theorem y9(x:List a8):fz (.s .own (x.map (a8.enc .own)))=.s .X (x.map (a8.enc .X)):=(List.cons.inj (E2 x)).1
theorem Bh(x:List br):fz (.s .own (x.map (br.enc .own)))=.s .X (x.map (br.enc .X)):=(List.cons.inj (Hx x)).1
theorem Ap.dele{α:Type}{e:α->List C}{xs:List α}{i sz by_:Nat}{K:List (List C)->Prop}(a:∀y,(e y).length=sz)(b:∀y,aX (e y)=true)(h:xs.length<=1048576)(c:by_<=1000)(d:K ((Ab.dele xs i).map e)):Ap true ((xs.take i).map e) ((xs.drop (i+1)).map e) sz by_ K:=by
 have f:(xs.take i).length+(xs.drop (i+1)).length<=2097152:=by rw[O1,C3];omega
 refine CT (aQ a) (aQ a) (λ_ r g=>by obtain⟨y,-,rfl⟩:=C4.1 g;exact b y) (by rw[X0,X0];omega) (by rw[X0,X0];exact V4 (Nat.mul_le_mul f c) (by decide)) ?_ d;unfold Ab.dele;rw[R5]
theorem H6(h:ab)(p:Int)(a:aH.sml h.G.F.R):ar Tryz.prog 488 false [.ptr (ab.enc .X h),.val none [I p]] .one [I (ac h.G.F.R p).j]:=by
 refine fO 13 [] Tryz.func488 rfl ?_
 repeat'(first|refine gO ?_|(conv=>whnf);first|refine CB ?_|refine C7 (db h.G.F.R p a) ?_)
 rfl
def Pp(h:ab):List C:=(bz h).drop 5
theorem Qz(h:ab)(k:ah):bz {h with G:=k} = ah.enc .own k++Pp h:=rfl
theorem EB(h:ab):Pp h=[.s .own (h.q.map (aA.enc .own)),.s .own (h.M.map (ax.enc .own)),.s .own (h.K.map (a8.enc .own)),.s .own (h.O.map (br.enc .own)),.s .own (h.T.map (aE.enc .own)),.s .own (h.w.U.map (dd .own)),.s .own (h.w.a0.map (aG .own)),I h.a6.c1,.s .own (h.a6.a5.map (aN.enc .own)),I h.c0,I h.b5,I h.c3,I h.a,B h.u,I h.Y.W.a4,I h.Y.W.a1,.s .X (h.Y.W.S.map (rI .X)),I h.Y.b2,I h.Y.a]:=rfl
theorem HG(h:ab)(f:Int)(a:aH.sml h.G.F.R)(b:0<=f/\f<h.G.F.V.S.length/\f<h.G.F.V.a9.length) :
  aS Tryz.prog 489 false [.ptr (bz h),.val none [I f]] [.ptr (bz {h with G:=gH h.G f}),.val none [I f]] (.tup []) []:=by
 have c:=ao (xs:=h.G.F.V.S) (i:=f.toNat) ω;have d:=ao (xs:=h.G.F.V.a9) (i:=f.toNat) ω;rw[Qz h (gH h.G f)];by_cases e:(pagesOn h.G.F.R f).length=0
 ·rw[zB e,EB]
  refine fM 30 [] [(2,8,[21,22,23,24,25,26,27,28])] [(0,0),(0,0)] Tryz.func489 rfl (λu q=>?_) (.inr trivial)
  repeat'(first|refine gA ?_|(conv=>whnf);first|with_reducible (first|refine CM b.1 (aa d) ?_|refine CM b.1 (aa c) ?_)|refine CB ?_|refine CG (gw h.G.F.R f a) ⟨⟨rfl,CZ h.G.F.R⟩,⟨rfl,rfl⟩,trivial⟩ ?_|refine CO rfl rfl (aa c) rfl (Z0 rfl) rfl ?_|refine CO rfl rfl (aa d) rfl (Z0 rfl) rfl ?_|refine Mk.mk 16 rfl rfl (by decide) (by decide) rfl ?_)
  refine CF rfl rfl ?_;exact wB
 rw[D9 e];show aS _ _ _ [.ptr (bz h),_] [.ptr (bz h),_] _ _;refine fM 30 [] [(2,8,[21,22,23,24,25,26,27,28])] [(0,0),(0,0)] Tryz.func489 rfl (λu q=>?_) (.inr trivial)
 repeat'(first|refine gA ?_|(conv=>whnf);first|refine CB ?_|refine CG (gw h.G.F.R f a) ⟨⟨rfl,CZ h.G.F.R⟩,⟨rfl,rfl⟩,trivial⟩ ?_)
 refine CF rfl rfl ?_;exact wB
theorem mV(h:ab)(p:Int)(b:a7 h.G=true) :
  aS Tryz.prog 388 false [.ptr (bz h),.val none [I p]] [.ptr (bz {h with G:=dJ h.G p}),.val none [I p]] .one [B (decide ((ac h.G.F.R p).j≠0))]:=by
 have k:=bH b;have c:=H6 h p k.1.2;by_cases a:(ac h.G.F.R p).j=0
 ·rw[show dJ h.G p=h.G by unfold dJ;rw[C9 a]]
  refine fM 32 [(489,[2,0])] [] [(0,0),(0,0)] Tryz.func388 rfl (λu q=>?_)
  repeat'(first|refine gA ?_|(conv=>whnf);first|refine CB ?_|refine CG (c) ⟨bD h,⟨rfl,rfl⟩,trivial⟩ ?_)
  refine CF rfl ?_ ?_
  ·exact U0 (λz=>[B z]) ((by simp[a]))
  exact wB
 obtain⟨l,r,n,d,o⟩:=bX b a;have j:=(aW.1 (aD.1 b).2.1).2.2.1;rw[show dJ h.G p=gH (pk h.G p) (ac h.G.F.R p).e by unfold dJ;rw[C8 a]];have e:=HG {h with G:=pk h.G p} (ac h.G.F.R p).e (KN b) ⟨d,by simp only[pk];omega,by simp only[pk];omega⟩;rw[Qz h (pk h.G p),Lu,EB]at e;have g:=ao (xs:=h.G.F.R.J) (i:=p.toNat) ω;rw[n]at c e a |-;refine fM 32 [(489,[2,0])] [] [(0,0),(0,0)] Tryz.func388 rfl (λu q=>?_)
 repeat'(first|refine gA ?_|(conv=>whnf);first|with_reducible refine CM l (aa g) ?_|refine CB ?_|refine CG (c) ⟨bD h,⟨rfl,rfl⟩,trivial⟩ ?_|refine CO rfl rfl (aa g) rfl (Z0 rfl) rfl ?_|refine CH rfl (aa g) rfl ?_|refine CJ (e) (.inl rfl) ?_)
 refine CF rfl ?_ ?_
 ·exact U0 (λz=>[B z]) ((by simp[a]))
 exact wB
theorem ui(h:ab)(p:Int):ar Tryz.prog 381 false [.ptr (ab.enc .X h),.val none [I p]] .one [B (fJ h p)]:=by
 cases e:h.u
 all_goals
  have b:ab.enc .X h=(ab.enc .X h).set 18 (B h.u):=rfl;rw[e]at b;rw[b];refine fO 29 [] Tryz.func381 rfl ?_
  repeat'(first|refine gO ?_|(conv=>whnf);first|with_reducible (first|refine Bf.D (λa=>?_) (λa=>?_)|refine Bf.E (λa=>?_) (λa=>?_)|refine Bf.N (λa=>?_) (λa=>?_))|refine CB ?_)
  all_goals exact U0 (λz=>[B z]) ((by unfold fJ;rw[e];first|(simp[*];done)|(simp[*];rw[U4];simp)))
theorem gV(h:ab):ar Tryz.prog 386 false [.ptr (ab.enc .X h)] .one [I (eM h:Nat)]:=by
 refine fO 11 [] Tryz.func386 rfl ?_
 repeat'(first|refine gO ?_|(conv=>whnf);first|refine CB ?_)
 rfl
theorem qp(h:ab)(a:Int)(k:h.O.length<=1048576):ar Tryz.prog 558 false [.val (some 24) (ab.enc .X h),.val none [I a]] .one [I (dD (lz a) h.O)]:=by
 refine fO 22 [] Tryz.func558 rfl ?_
 repeat'(first|refine gO ?_|(conv=>whnf);first|refine CB ?_)
 (conv=>whnf)
 refine CE (ι:=Nat) (λi=>[(1,.H .one [I (a)]),(2,.H .box (ab.enc .X h)),(5,.H .one [I ((i:Nat):Int)])]) (λi=>i<=h.O.length/\∀(j:Nat)(z:br),j<i->h.O[j]? = some z->lz a z=false) (λi=>h.O.length - i) (0) ?_ (⟨T0 _,λj z l=>ω⟩) λi d=>?_
 ·exact wB
 obtain⟨d,c⟩:=d;by_cases g:i<h.O.length
 ·have b:=ao g
  by_cases e:(nth h.O i).Addr=a
  ·repeat'(first|refine gA ?_|(conv=>whnf);first|with_reducible refine CC (aa b) ?_|refine CB ?_)
   exact U0 (λz=>[I z]) (ed b (by unfold lz;simp[e]) c).symm
  repeat'(first|refine gA ?_|(conv=>whnf);first|with_reducible refine CC (aa b) ?_|refine CB ?_)
  ((conv=>whnf);refine CD (i+1) ⟨ω,d4 b (by unfold lz;simp[e]) c⟩ ω ?_;(exact wB))
 repeat'(first|refine gD ?_|(conv=>whnf);first|refine CB ?_)
 exact U0 (λz=>[I z]) (gP ω c).symm
theorem nj(h:ab)(i:Nat)(b:i<h.O.length)(a:h.O.length<=1048576):aS Tryz.prog 562 false [.ptr (bz h),.val none [I (i:Nat)]] [.ptr (bz {h with O:=dele h.O i}),.val none [I (i:Nat)]] (.tup []) []:=by
 refine fM 23 [] [(0,273,[4,5,6,7,8,9,10,11,13,14,15,16,17,18,19,21,22,0,1,2,3,4,5,6,7,9,10,11,12,13,14,15,8,1000,1009,1010,1011,1012,1013,1014,1015,16,1000,17,18,19]),(1048576,0,[8])] [(0,0),(0,0)] Tryz.func562 rfl (λu q=>?_) (.inr trivial)
 repeat'(first|refine gO ?_|(conv=>whnf);first|refine CB ?_|refine EF.mk rfl (Bh h.O) rfl ?_|refine CV i rfl (by rw[X0];omega) (aQ λ_=>rfl) Y3 ?_|refine Sl.suf (i+1) rfl (by rw[X0];omega) (aQ λ_=>rfl) Z3 ?_|refine CU (λ_=>rfl) (λ_=>rfl) (by rw[O1];omega) (by decide) ?_|refine Ap.dele (λ_=>rfl) (λ_=>rfl) a (by decide) ?_|refine CR (λ_=>rfl) (λ_=>rfl) (by rw[O1];omega) (by decide) ?_|refine CB ?_)
 refine CF rfl rfl ?_;exact wB
theorem zS(h:ab)(E:List Int)(i:Nat)(b:aV h E)(e:i<h.M.length):aS Tryz.prog 554 false [.ptr (bz h),.val none [I (i:Nat)]] [.ptr (bz (giveP h i)),.val none [I (i:Nat)]] (.tup []) []:=by
 have a:=b.lens;have g:=a.spans;have c:=ao e;have j:=mV {h with M:=dele h.M i} (nth h.M i).Q b.ker;have d:=gV {h with G:=dJ h.G (nth h.M i).Q,M:=dele h.M i};rw[show eM {h with G:=dJ h.G (nth h.M i).Q,M:=dele h.M i} = eM h from(kH _ _).1]at d;have k:eM h<=32:=a.ents;have l:=lJ (eM h:Nat) h.q ⟨(nth h.M i).Q,1⟩ ⟨ω,ω⟩ ⟨by have:=a.free;omega,λ_ _=>trivial⟩;refine fM 52 [(388,[2,0])] [(1,273,[13,14,15,16,17,18,19,20,22,23,24,25,26,27,28,30,31,0,1,2,3,4,5,6,7,9,10,11,12,13,14,15,8,1000,1009,1010,1011,1012,1013,1014,1015,16,1000,17,18,19]),(1048577,0,[6]),(3,270,[38,39,40,41,42,43,44,45,47,37,48,49,50,51,0,1,2,3,4,5,6,7,8,1000,1001,1002,1003,1004,1005,1006,9,10,11,12,13,14,15,1012])] [(0,0),(0,0)] Tryz.func554 rfl (λu q=>?_) (.inr trivial)
 repeat'(first|refine gO ?_|(conv=>whnf);first|with_reducible refine CC (aa c) ?_|refine CB ?_|refine EF.mk rfl (Ex h.M) rfl ?_|refine CV i rfl (by rw[X0];omega) (aQ λ_=>rfl) Y3 ?_|refine Sl.suf (i+1) rfl (by rw[X0];omega) (aQ λ_=>rfl) Z3 ?_|refine CU (λ_=>rfl) (λ_=>rfl) (by rw[O1];omega) (by decide) ?_|refine Ap.dele (λ_=>rfl) (λ_=>rfl) ω (by decide) ?_|refine CR (λ_=>rfl) (λ_=>rfl) (by rw[O1];omega) (by decide) ?_|refine CH rfl (aa c) rfl ?_|refine CB ?_|refine CJ (j) (.inl rfl) ?_|refine CG (d) ⟨bD _,trivial⟩ ?_|refine CG (l) ⟨⟨rfl,rfl⟩,⟨rfl,dZ h.q⟩,⟨rfl,rfl⟩,trivial⟩ ?_)
 refine CF rfl rfl ?_;exact wB
theorem vV(h:ab)(i:Nat)(a:Int):bz (clrS h i a)=(bz h).set 6 (.s .own ((h.M.map (ax.enc .own)).set i (ax.enc .own (mc (nth h.M i) (dr (nth h.M i) a))))):=by
 simp[bz,clrS,W5]
theorem rO{α β:Type}{f:α->β}{xs:List α}{i:Nat}{y:β}(a:i<xs.length):((xs.map f).set i y)[i]? = some y:=by
 rw[O3 (by rw[X0];exact a)]
theorem Hy{s:ax}(c:bg s=true){a:Int}(b:dX s a):iK s a=(dr s a,0):=by
 unfold iK;rw[C9 ((gk c).2 ⟨b.1,b.2.1⟩),b.2.2.1];rfl
theorem ng(h:ab)(E:List Int)(a:Int)(c:aV h (a::E)):aS Tryz.prog 511 false [.ptr (bz h),.val none [I a]] [.ptr (bz (freeA h a)),.val none [I a]] (.tup []) []:=by
 obtain⟨g,n,t⟩:=c.at (c.hin a (R1 ..));have d:=(c.hin a (R1 ..)).bd c;have B:=c.lens;have C:=B.spans;have e:=c.L.sok _ (am g);have k:=jw h (a / 16) ω;rw[t]at k;unfold freeA;generalize t7 h a=i at g n k e;have b:=ao g;have o:=ug (nth h.M i) a ⟨ω,ω⟩;rw[Hy e n]at o;have w:=yu (nth h.M i) (dr (nth h.M i) a) e n.2.2.2;have D:=c.give g n;have l:=ui (clrS h i a) (nth h.M i).Q;rw[show fJ (clrS h i a) (nth h.M i).Q=fJ h (nth h.M i).Q from rfl]at l;have p:=zS (clrS h i a) E i D (by unfold clrS;simp only[I1];exact g);have r:=bD (clrS h i a);rw[vV]at p r;have j:((h.M.map (ax.enc .own)).set i (ax.enc .own (mc (nth h.M i) (dr (nth h.M i) a))))[i]? = some (ax.enc .own (mc (nth h.M i) (dr (nth h.M i) a))):=rO g;unfold freeS;by_cases y:(mc (nth h.M i) (dr (nth h.M i) a)).b1=0
 ·cases F:fJ h (nth h.M i).Q<;>rw[F]at l
  ·rw[C9 ⟨y,rfl⟩]
   refine fM 68 [(554,[2,0])] [(2,274,[26,27,28,29,30,31,32,33,34,35,36,37,38,39,25,40,41,42,0,1,2,3,4,5,6,7,8,9,10,11,12,13,14,15,16,17,18,1016])] [(0,0),(0,0)] Tryz.func511 rfl (λu q=>?_) (.inr trivial)
   repeat'(first|refine gA ?_|(conv=>whnf);first|with_reducible refine CL ((U0 _ (tdiv16 d.1)).trans (eE ω ω)) ?_|refine CB ?_|refine CN (by decide) ?_|refine CG (k) ⟨⟨rfl,bD h⟩,⟨rfl,rfl⟩,trivial⟩ ?_|refine CC (aa b) ?_|refine CC j ?_|refine CH rfl (aa b) rfl ?_|refine CH rfl j rfl ?_|refine C7 (o) ?_|refine C7 (w) ?_|refine CB ?_|refine CO rfl rfl (aa b) rfl (Z0 rfl) rfl ?_|refine CG (l) ⟨r,⟨rfl,rfl⟩,trivial⟩ ?_|refine CJ (p) (.inl rfl) ?_)
   refine CF rfl rfl ?_;exact wB
  rw[C8 λx=>by cases x.2];rw[vV];refine fM 68 [(554,[2,0])] [(2,274,[26,27,28,29,30,31,32,33,34,35,36,37,38,39,25,40,41,42,0,1,2,3,4,5,6,7,8,9,10,11,12,13,14,15,16,17,18,1016])] [(0,0),(0,0)] Tryz.func511 rfl (λu q=>?_) (.inr trivial)
  repeat'(first|refine gA ?_|(conv=>whnf);first|with_reducible refine CL ((U0 _ (tdiv16 d.1)).trans (eE ω ω)) ?_|refine CB ?_|refine CN (by decide) ?_|refine CG (k) ⟨⟨rfl,bD h⟩,⟨rfl,rfl⟩,trivial⟩ ?_|refine CC (aa b) ?_|refine CC j ?_|refine CH rfl (aa b) rfl ?_|refine CH rfl j rfl ?_|refine C7 (o) ?_|refine C7 (w) ?_|refine CB ?_|refine CO rfl rfl (aa b) rfl (Z0 rfl) rfl ?_|refine CG (l) ⟨r,⟨rfl,rfl⟩,trivial⟩ ?_|refine CJ (p) (.inl rfl) ?_)
  refine CF rfl rfl ?_;exact wB
 rw[C8 λx=>y x.1];rw[vV];refine fM 68 [(554,[2,0])] [(2,274,[26,27,28,29,30,31,32,33,34,35,36,37,38,39,25,40,41,42,0,1,2,3,4,5,6,7,8,9,10,11,12,13,14,15,16,17,18,1016])] [(0,0),(0,0)] Tryz.func511 rfl (λu q=>?_) (.inr trivial)
 repeat'(first|refine gA ?_|(conv=>whnf);first|with_reducible refine CL ((U0 _ (tdiv16 d.1)).trans (eE ω ω)) ?_|refine CB ?_|refine CN (by decide) ?_|refine CG (k) ⟨⟨rfl,bD h⟩,⟨rfl,rfl⟩,trivial⟩ ?_|refine CC (aa b) ?_|refine CC j ?_|refine CH rfl (aa b) rfl ?_|refine CH rfl j rfl ?_|refine C7 (o) ?_|refine C7 (w) ?_|refine CB ?_|refine CO rfl rfl (aa b) rfl (Z0 rfl) rfl ?_|refine CG (l) ⟨r,⟨rfl,rfl⟩,trivial⟩ ?_|refine CJ (p) (.inl rfl) ?_)
 refine CF rfl rfl ?_;exact wB
theorem KQ(h:ab)(t:Nat)(c:aE):bz {h with T:=h.T.set t c} = (bz h).set 9 (.s .own ((h.T.map (aE.enc .own)).set t (aE.enc .own c))):=by
 simp[bz,W5]
theorem nr(h:ab)(E:List Int)(t:Nat)(a:Int)(b:aV h (a::E))(w:t<h.T.length):aS Tryz.prog 564 false [.ptr (bz h),.val none [I (t:Nat)],.val none [I a]] [.ptr (bz (recyc t h a)),.val none [I (t:Nat)],.val none [I a]] (.tup []) []:=by
 obtain⟨o,y,p⟩:=b.at (b.hin a (R1 ..));have g:=(b.hin a (R1 ..)).bd b;have B:=b.lens;have C:=B.spans;have j:=aC (b.L.sok _ (am o));have r:=b.cach _ (am w);have l:=jw h (a / 16) ω;rw[p]at l;have D:=ng h E a b;unfold recyc;generalize t7 h a=i at o y l j;have n:=ao o;have k:=ao w;have d:=xR (nth h.T t) (nth h.M i).b.toNat a r ω;rw[Int.toNat_of_nonneg j.2.2.1]at d;unfold Hd at d;cases e:cput (nth h.T t) (nth h.M i).b a with
 | none=>
  rw[e]at d;refine fM 46 [(511,[2,0])] [(1,277,[16,17,18,19,20,21,22,23,24,25,26,27,28,29,30,31,32,15,33,34,7,0,1,2,3,4,5,6,7,8,9,10,11,12,13,14,15,16,17,18,19,20,21,1019,22]),(3,6,[36,37,38,39,40,41])] [(0,0),(0,0),(0,0)] Tryz.func564 rfl (λu q=>?_) (.inr trivial)
  repeat'(first|refine gO ?_|(conv=>whnf);first|with_reducible refine CL ((U0 _ (tdiv16 g.1)).trans (eE ω ω)) ?_|refine CB ?_|refine CN (by decide) ?_|refine CG (l) ⟨⟨rfl,bD h⟩,⟨rfl,rfl⟩,trivial⟩ ?_|refine CC (aa n) ?_|refine CC (aa k) ?_|refine CH rfl (aa n) rfl ?_|refine CH rfl (aa k) rfl ?_|refine CG (d) ⟨⟨rfl,aE.enc_fz _⟩,⟨rfl,rfl⟩,⟨rfl,rfl⟩,trivial⟩ ?_|refine CB ?_|refine CJ (D) (.inl rfl) ?_)
  refine CF rfl rfl ?_;exact wB
 | some c=>
  rw[e]at d;simp only;rw[KQ];refine fM 46 [(511,[2,0])] [(1,277,[16,17,18,19,20,21,22,23,24,25,26,27,28,29,30,31,32,15,33,34,7,0,1,2,3,4,5,6,7,8,9,10,11,12,13,14,15,16,17,18,19,20,21,1019,22]),(3,6,[36,37,38,39,40,41])] [(0,0),(0,0),(0,0)] Tryz.func564 rfl (λu q=>?_) (.inr trivial)
  repeat'(first|refine gO ?_|(conv=>whnf);first|with_reducible refine CL ((U0 _ (tdiv16 g.1)).trans (eE ω ω)) ?_|refine CB ?_|refine CN (by decide) ?_|refine CG (l) ⟨⟨rfl,bD h⟩,⟨rfl,rfl⟩,trivial⟩ ?_|refine CC (aa n) ?_|refine CC (aa k) ?_|refine CH rfl (aa n) rfl ?_|refine CH rfl (aa k) rfl ?_|refine CG (d) ⟨⟨rfl,aE.enc_fz _⟩,⟨rfl,rfl⟩,⟨rfl,rfl⟩,trivial⟩ ?_|refine CB ?_|refine CO rfl rfl (aa k) rfl (Z0 rfl) rfl ?_)
  refine CF rfl rfl ?_;exact wB
theorem pI(h:ab)(i:Nat)(d:aV h [])(o:i<h.O.length)(t:aI (nth h.O i).o<0):aS Tryz.prog 560 false [.ptr (bz h),.val none [I (i:Nat)]] [.ptr (bz (freeL h i (yj h (nth h.O i).Addr))),.val none [I (i:Nat)]] (.tup []) []:=by
 obtain⟨l,w,y,-⟩:=(dA d (am o)).1 t;obtain⟨p,B,c,-⟩:=uI w y;generalize yj h (nth h.O i).Addr=g at p B c;have a:=d.lens;have C:=a.larges;have D:=a.objs;have b:=ao o;have N:=aM (d.L.lok _ (am p));have E:eM h<=32:=a.ents;refine fM 89 [(388,[2,0]),(562,[2,0])] [(4,11,[23,24,25,26,27,28,29,30,31,32,33]),(8,7,[41,42,43,44,45,46,47]),(9,273,[50,51,52,53,54,55,56,57,58,59,60,62,49,63,64,65,66,0,1,2,3,4,5,6,7,8,9,10,11,1000,1001,1002,1003,1004,1005,1006,12,13,14,15,16,17,18,1015]),(10,273,[67,68,69,70,71,72,73,74,76,77,78,79,80,81,82,84,85,0,1,2,3,4,5,6,7,9,10,11,12,13,14,15,8,1000,1009,1010,1011,1012,1013,1014,1015,16,1000,17,18,19]),(1048586,0,[7])] [(0,0),(0,0)] Tryz.func560 rfl (λu q=>?_) (.inr trivial)
 repeat'(first|refine gO ?_|(conv=>whnf);first|refine CB ?_)
 (conv=>whnf)
 refine CE (ι:=Nat) (λk=>[(0,.H .box (bz h)),(1,.H .one [I ((i:Nat):Int)]),(4,.H .one [I ((k:Nat):Int)])]) (λk=>k<=g) (λk=>g - k) (0) ?_ (T0 _) λk O=>?_
 ·exact wB
 have j:=ao (xs:=h.K) (i:=k) ω;have F:=aM (d.L.lok _ (am (xs:=h.K) (i:=k) ω));have G:0<=(nth h.O i).Addr/\(nth h.O i).Addr<=512:=ω
 by_cases e:k=g
 ·subst e
  repeat'(first|refine gA ?_|(conv=>whnf);first|with_reducible refine CC (aa j) ?_|refine CB ?_|refine CH rfl (aa j) rfl ?_|refine CH rfl (aa b) rfl ?_|refine CC (aa b) ?_)
  (conv=>whnf)
  refine CE (ι:=Nat) (λn=>[(0,.H .box (bz {h with G:=unmN h.G (nth h.K k).Q n})),(1,.H .one [I ((i:Nat):Int)]),(4,.H .one [I ((k:Nat):Int)]),(5,.H .box (a8.enc .own (nth h.K k))),(6,.H .one [I ((n:Nat):Int)])]) (λn=>n<=(nth h.K k).a2.toNat) (λn=>(nth h.K k).a2.toNat - n) (0) ?_ (T0 _) λn P=>?_
  ·exact wB
  by_cases Q:n<(nth h.K k).a2.toNat
  ·have H:=mV {h with G:=unmN h.G (nth h.K k).Q n} ((nth h.K k).Q+n) (iM d.ker _ _)
   repeat'(first|refine gD ?_|(conv=>whnf);first|refine CB ?_|refine CJ (H) (.inl rfl) ?_|refine CB ?_)
   ((conv=>whnf);refine CD (n+1) ω ω ?_;(exact wB))
  obtain rfl:n=(nth h.K k).a2.toNat:=ω
  have r:=gV {h with G:=unmN h.G (nth h.K k).Q (nth h.K k).a2.toNat};rw[show eM {h with G:=unmN h.G (nth h.K k).Q (nth h.K k).a2.toNat} = eM h from(fo _ _ _).1]at r;have J:=lJ (eM h:Nat) h.q ⟨(nth h.K k).Q,(nth h.K k).a2⟩ ⟨ω,ω⟩ ⟨by have:=a.free;omega,λ_ _=>trivial⟩;have K:=nj {h with G:=unmN h.G (nth h.K k).Q (nth h.K k).a2.toNat,K:=dele h.K k,q:=(d5 (eM h) h.q ⟨(nth h.K k).Q,(nth h.K k).a2⟩).getD h.q} i o (by show h.O.length<=_;omega)
  repeat'(first|refine gD ?_|(conv=>whnf);first|refine CB ?_|refine EF.mk rfl (y9 h.K) rfl ?_|refine CV k rfl (by rw[X0];omega) (aQ λ_=>rfl) Y3 ?_|refine Sl.suf (k+1) rfl (by rw[X0];omega) (aQ λ_=>rfl) Z3 ?_|refine CU (λ_=>rfl) (λ_=>rfl) (by rw[O1];omega) (by decide) ?_|refine Ap.dele (λ_=>rfl) (λ_=>rfl) ω (by decide) ?_|refine CR (λ_=>rfl) (λ_=>rfl) (by rw[O1];omega) (by decide) ?_|refine CB ?_|refine CG (r) ⟨bD _,trivial⟩ ?_|refine CG (J) ⟨⟨rfl,rfl⟩,⟨rfl,dZ h.q⟩,⟨rfl,rfl⟩,trivial⟩ ?_|refine CJ (K) (.inl rfl) ?_)
  refine CF rfl rfl ?_;exact wB
 have M:=c k ω
 repeat'(first|refine gA ?_|(conv=>whnf);first|with_reducible refine CC (aa j) ?_|refine CB ?_|refine CH rfl (aa j) rfl ?_|refine CH rfl (aa b) rfl ?_|refine CC (aa b) ?_)
 ((conv=>whnf);refine CD (k+1) ω ω ?_;(exact wB))
def PW(q:bQ)(x:aN):List C:=bQ.enc .own (HH q x)++cS .own (xN q x)
theorem N1(q:bQ)(x:aN):gR (PW q x):=aZ (bQ.enc_fr _) (tD _)
theorem AN(q:bQ)(a:aN)(K:q.a5.length<=4096)(e:fT q=true)(r:0<=a.b/\a.b<=3/\0<=a.Addr/\0<=a.b7)(t:∀y∈q.a5,y.b7<=a.b7)(u:∀y∈q.a5,y.Addr≠a.Addr) :
  ar Tryz.prog 563 false [.val (some 2) (bQ.enc .X q),.val (some 3) (aN.enc .X a)] (.tup [some 2,none]) (PW q a):=by
 have b:bQ.sml q:=⟨ω,λ_ _=>trivial⟩
 have w:=q7 q b;have l:=oo q b;rw[e]at l;have n:=yD a;rw[O0 r]at n;have o:=rm q a.Addr b;rw[show q.a5.any (eA a.Addr)=false by rw[List.any_eq_false];intro y B;unfold eA;simpa using u y B]at o;have C:=(jA.1 e).2.2.2;have g:=N1 q a;have L:(aN.mk a.Addr a.b a.b7)=a:=rfl;have c:=Dh q.c1 (q.a5++[a]);simp only[Z2,List.length_singleton]at c;by_cases E:q.a5.length=0
 all_goals
  try have h:(nth q.a5 (q.a5.length - 1)).b7<=a.b7:=t _ (am ω)
  try have j:=ao (xs:=q.a5) (i:=q.a5.length - 1) ω
  try have d:q.a5[((q.a5.length:Int) - 1).toNat]? = some (nth q.a5 (q.a5.length - 1)):=by rw[show((q.a5.length:Int) - 1).toNat=q.a5.length - 1 by omega];exact j
  refine fO 74 [(3,27,[15,16,17,18,19,20,21,22,23,24,25,26,27,28,29,30,31,32,33,34,35,36,37,38,39,40,41]),(7,6,[52,53,54,55,56,57]),(9,268,[61,62,63,64,65,66,67,69,70,71,72,73,0,1,2,3,4,5,6,8,9,10,11,12,7,1008,1009,1010,1011,1012,13,14])] Tryz.func563 rfl ?_ (.inr g)
  repeat'(first|refine gD ?_|(conv=>whnf);first|with_reducible refine Bf.D (λe=>?_) (λe=>?_)|refine CB ?_|refine C7 (w) ?_|refine C7 (l) ?_|refine C7 (n) ?_|refine C7 (o) ?_|refine CM ω (aa d) ?_|refine Ap.sm (aQ λ_=>rfl) rfl (by simp;omega) (by decide) (iF (aN.enc .own) q.a5 a) ?_)
  (conv=>whnf)
  refine Lp.fz 8 (ι:=Nat) (λk=>[(2,.H .box (bQ.enc .X q)),(4,.H .box [I 0,.z]),(8,.H .one (cS .X (q.a5++[a]))),(9,.H .one [I (k:Nat)])]) (λk=>k<=n8 q.c1 (q.a5++[a])) (λk=>n8 q.c1 (q.a5++[a]) - k) 0 ?_ (T0 _) λk M=>?_
  ·(repeat'(first|exact trivial|rfl|exact CK rfl (show Lx (dP (cS .own (q.a5++[a]))) (cS .X (q.a5++[a])) by rw[BK];exact lM _)|refine CK ?_ ?_))
  have N:(q.a5++[a]).length=q.a5.length+1:=by simp
  have F:((q.a5++[a]).drop k).length<=5000:=by rw[C3];omega
  have G:((q.a5++[a]).take k).length<=5000:=by rw[O1];omega
  have p:=tC ((q.a5++[a]).drop k) ⟨ω,λ_ _=>trivial⟩;by_cases H:k<n8 q.c1 (q.a5++[a])
  ·have J:q.c1<quarCells ((q.a5++[a]).drop k) ((q.a5++[a]).drop k).length:=y5 H
   repeat'(first|refine gD ?_|(conv=>whnf);first|refine CB ?_|refine Sl.suf k rfl (by rw[X0];omega) (aQ λ_=>rfl) Z3 ?_|refine C7 (p) ?_|refine CB ?_)
   ((conv=>whnf);refine CD (k+1) ω ω ?_;(exact wB))
  obtain rfl:k=n8 q.c1 (q.a5++[a]):=ω
  have J:quarCells ((q.a5++[a]).drop (n8 q.c1 (q.a5++[a]))) ((q.a5++[a]).drop (n8 q.c1 (q.a5++[a]))).length<=q.c1:=A3 C.1 _
  repeat'(first|refine gD ?_|(conv=>whnf);first|refine CB ?_|refine Sl.suf (n8 q.c1 (q.a5++[a])) rfl (by rw[X0];omega) (aQ λ_=>rfl) Z3 ?_|refine CV (n8 q.c1 (q.a5++[a])) rfl (by rw[X0];omega) (aQ λ_=>rfl) Y3 ?_|refine C7 (p) ?_|refine CB ?_|refine CU (λ_=>rfl) (λ_=>rfl) ω (by decide) ?_|refine CR (λ_=>rfl) (λ_=>rfl) ω (by decide) ?_)
  rfl
theorem pB{z:Int}(h:0<=z/\z<512):IntKind.i64.wrap (z.tdiv 16)=z / 16:=(U0 _ (tdiv16 h.1)).trans (eE ω ω)
theorem tl{h:ab}{E:List Int}(a:aV h E){o:br}(b:o∈h.O):0<=o.Addr/\o.Addr<512:=by
 rcases a.oow o b with⟨s,c,⟨f,g,-⟩,-⟩|⟨l,d,e,-⟩
 ·have:=aC (a.L.sok s c);omega
 have:=aM (a.L.lok l d);omega
theorem JV{k:Int}(h:0<=k/\k<=3):1<=csz k/\csz k<=8:=by
 rcases bM h with e|e|e|e<;>rw[e]<;>decide
structure QG(h:ab)(o:br):Prop where
 cl:0<=aI o.o/\aI o.o<=3
 fr:0<=(ac h.G.F.R (o.Addr / 16)).e/\(ac h.G.F.R (o.Addr / 16)).e<h.G.F.V.S.length
 fit:o.Addr % 16+csz (aI o.o)<=16
 row:(nth h.G.F.V.S (cL h.G o.Addr)).length=16
theorem QG.of{h:ab}{E:List Int}(b:aV h E){o:br}(l:o∈h.O)(q:¬aI o.o<0):QG h o:=by
 obtain⟨⟨s,d,f,r⟩,B⟩:=(dA b l).2 q;have t:=aC (b.L.sok s d);have u:=tl b l;have n:s.Q=o.Addr / 16:=by have C:=f.1;have D:=f.2.1;omega
 have c:(o.Addr / 16).toNat<(tbl h).J.length:=by have:=b.pg.bnd _ (dx (la:=h.K) d);omega
 have a:(((o.Addr / 16).toNat:Nat):Int)=o.Addr / 16:=ω
 have p:=(b.pg.own _ c).2 (by rw[a,<-n];exact dx d);have g:(ac h.G.F.R (o.Addr / 16)).j≠0:=by rw[<-a];unfold tbl at p c;rw[lC c];exact p
 obtain⟨-,-,-,i,w⟩:=bX b.ker g;have y:=(aW.1 (aD.1 b.ker).2.1).2.2.1;have j:cL h.G o.Addr<h.G.F.V.S.length:=by unfold cL;omega
 refine⟨ω,⟨i,ω⟩,?_,b.lens.row _ (am j)⟩;have A:=f.2.2.1;rw[n,<-r]at *;rcases bM (k:=s.b) ⟨ω,ω⟩ with e|e|e|e<;>rw[e]at A |-<;>omega
theorem GZ(h:ab)(a:Int)(b:cL h.G a<h.G.F.V.S.length):({h with G:=eQ h.G a 0} : ab)=h:=by
 have e:h.G.F.V.S.set (cL h.G a) (nth h.G.F.V.S (cL h.G a))=h.G.F.V.S:=by
  refine List.ext_getElem? λi=>?_
  rw[U3];split
  ·rename_i e
   subst e;exact(ao b).symm
  rfl
 unfold eQ kI;rw[e]
theorem E0(h:ab)(a:Int)(k:Nat)(v:Int)(_:0<=a):bz {h with G:=eQ h.G a (k+1)} = (bz {h with G:=eQ h.G a k}).set 0 (.s .own (((eQ h.G a k).F.V.S.map (aG .own)).set (ac h.G.F.R (a / 16)).e.toNat ((aG .own (kI (nth h.G.F.V.S (cL h.G a)) (a % 16).toNat k)).set 0 (.s .own (((kI (nth h.G.F.V.S (cL h.G a)) (a % 16).toNat k).map (rI .own)).set (a % 16+k).toNat (splice (rI .own v) 0 [I 0])))))):=by
 have e:(a % 16+k).toNat=(a % 16).toNat+k:=ω
 rw[e];simp[bz,eQ,W5,kI,aG,splice,cL]
 rfl
theorem Dy(t:Nat)(h:ab)(xs:List aN)(k:Nat)(a:k<xs.length):recycs t h ((xs.take (k+1)).map (·.Addr))=recyc t (recycs t h ((xs.take k).map (·.Addr))) (nth xs k).Addr:=by
 unfold recycs;rw[I5,ao a];simp
theorem Fg(h:ab)(o:br)(t:Nat)(a:aV h [])(P:o∈h.O)(ht:o.a3=t)(hlc:h.T.length<=4):aS Tryz.prog 527 false [.ptr (bz h),.val none [I (t:Nat)],.val none [I o.Addr]] [.ptr (bz (freeOb h t (o7 h o.Addr)).1),.val none [I (t:Nat)],.val none [I o.Addr]] .one [I (freeOb h t (o7 h o.Addr)).2]:=by
 obtain⟨l,B,C⟩:=a.objAt P;have b:=tl a P;have hon:=a.onu o P;have d:=a.lens;have hno:=d.objs;have E:t<h.T.length:=ω
 have M:=aF (t:Nat) 0 (h.T.length - 1:Int);rw[O0 ω]at M;have F:=qp h o.Addr ω;rw[C]at F;generalize o7 h o.Addr=i at l B F;subst B;have r:=ao l;have Q:=jZ (nth h.O i).o;unfold freeOb;have R:=bH a.ker;have Z:=db h.G.F.R ((nth h.O i).Addr / 16) R.1.2;by_cases w:aI (nth h.O i).o<0
 ·rw[C9 w]
  have c3:=pI h i a l w;refine fM 148 [(560,[2,0]),(562,[2,0]),(564,[2,0,0]),(559,[2,0])] [(15,269,[68,69,70,71,72,73,74,75,77,67,78,79,11,0,1,2,3,4,5,6,7,13,8,1000,1001,1002,1003,1004,1013,9,10,11,12,14,1012,15]),(22,15,[92,93,94,95,96,97,98,99,100,101,102,103,104,105,106]),(25,271,[116,117,118,119,120,121,122,123,124,125,127,115,128,129,14,0,1,2,3,4,5,6,7,8,9,15,10,1000,1001,1002,1003,1015,11,12,13,14,16,1014,17])] [(0,0),(0,0),(0,0)] Tryz.func527 rfl (λu q=>?_)
  repeat'(first|refine gD ?_|(conv=>whnf);first|with_reducible refine Bf.D (λn=>?_) (λn=>?_)|refine CB ?_|refine C7 (M) ?_|refine CG (F) ⟨⟨rfl,bD h⟩,⟨rfl,rfl⟩,trivial⟩ ?_|refine CC (aa r) ?_|refine CH rfl (aa r) rfl ?_|refine C7 (Q) ?_|refine CJ (c3) (.inl rfl) ?_)
  refine CF rfl rfl ?_;exact wB
 rw[C8 w];obtain⟨S,s2,s3,s4⟩:=QG.of a (am l) w;by_cases N:(ac (tbl h) ((nth h.O i).Addr / 16)).j=1
 ·rw[C9 N]
  unfold tbl at N;refine fM 148 [(560,[2,0]),(562,[2,0]),(564,[2,0,0]),(559,[2,0])] [(15,269,[68,69,70,71,72,73,74,75,77,67,78,79,11,0,1,2,3,4,5,6,7,13,8,1000,1001,1002,1003,1004,1013,9,10,11,12,14,1012,15]),(22,15,[92,93,94,95,96,97,98,99,100,101,102,103,104,105,106]),(25,271,[116,117,118,119,120,121,122,123,124,125,127,115,128,129,14,0,1,2,3,4,5,6,7,8,9,15,10,1000,1001,1002,1003,1015,11,12,13,14,16,1014,17])] [(0,0),(0,0),(0,0)] Tryz.func527 rfl (λu q=>?_)
  repeat'(first|refine gA ?_|(conv=>whnf);first|with_reducible refine Bf.D (λn=>?_) (λn=>?_)|refine CB ?_|refine CN (by decide) ?_|refine CL (pB b) ?_|refine C7 (M) ?_|refine CG (F) ⟨⟨rfl,bD h⟩,⟨rfl,rfl⟩,trivial⟩ ?_|refine CC (aa r) ?_|refine CH rfl (aa r) rfl ?_|refine C7 (Q) ?_|refine CG (Z) ⟨⟨rfl,CZ _⟩,⟨rfl,rfl⟩,trivial⟩ ?_)
  refine CF rfl rfl ?_;exact wB
 rw[C8 N];unfold tbl at N;have G:cL h.G (nth h.O i).Addr<h.G.F.V.S.length:=by unfold cL;omega
 have hcz:=JV S;have g:=a.inQuar l w;have H:=dE (aI (nth h.O i).o);refine fM 148 [(560,[2,0]),(562,[2,0]),(564,[2,0,0]),(559,[2,0])] [(15,269,[68,69,70,71,72,73,74,75,77,67,78,79,11,0,1,2,3,4,5,6,7,13,8,1000,1001,1002,1003,1004,1013,9,10,11,12,14,1012,15]),(22,15,[92,93,94,95,96,97,98,99,100,101,102,103,104,105,106]),(25,271,[116,117,118,119,120,121,122,123,124,125,127,115,128,129,14,0,1,2,3,4,5,6,7,8,9,15,10,1000,1001,1002,1003,1015,11,12,13,14,16,1014,17])] [(0,0),(0,0),(0,0)] Tryz.func527 rfl (λu q=>?_)
 repeat'(first|refine gA ?_|(conv=>whnf);first|with_reducible refine Bf.D (λn=>?_) (λn=>?_)|refine CB ?_|refine CN (by decide) ?_|refine CL (pB b) ?_|refine C7 (M) ?_|refine CG (F) ⟨⟨rfl,bD h⟩,⟨rfl,rfl⟩,trivial⟩ ?_|refine CC (aa r) ?_|refine CH rfl (aa r) rfl ?_|refine C7 (Q) ?_|refine CG (Z) ⟨⟨rfl,CZ _⟩,⟨rfl,rfl⟩,trivial⟩ ?_)
 rw[show bz h=bz {h with G:=eQ h.G (nth h.O i).Addr 0} by rw[GZ h _ G]]
 (conv=>whnf)
 refine CE (ι:=Nat) (λk=>[(0,.H .box (bz {h with G:=eQ h.G (nth h.O i).Addr k})),(1,.H .one [I ((t:Nat):Int)]),(2,.H .one [I ((nth h.O i).Addr)]),(7,.H .one [I ((i:Nat):Int)]),(8,.H .box (br.enc .own (nth h.O i))),(9,.H .one [I (aI (nth h.O i).o)]),(10,.H .box (bi.enc .own (ac h.G.F.R ((nth h.O i).Addr / 16)))),(13,.H .one [I ((k:Nat):Int)])]) (λk=>k<=(csz (aI (nth h.O i).o)).toNat) (λk=>(csz (aI (nth h.O i).o)).toNat - k) (0) ?_ (T0 _) λk hk=>?_
 ·exact wB
 have hmod:IntKind.i64.wrap 0=0:=rfl;have T:(nth h.O i).Addr.tmod 16=(nth h.O i).Addr % 16:=eR b.1;have p:(eQ h.G (nth h.O i).Addr k).F.V.S[(ac h.G.F.R ((nth h.O i).Addr / 16)).e.toNat]? = some (kI (nth h.G.F.V.S (cL h.G (nth h.O i).Addr)) ((nth h.O i).Addr % 16).toNat k):=O3 G;by_cases O:k<(csz (aI (nth h.O i).o)).toNat
 ·have J:=ao (xs:=kI (nth h.G.F.V.S (cL h.G (nth h.O i).Addr)) ((nth h.O i).Addr % 16).toNat k) (i:=((nth h.O i).Addr % 16+k).toNat) (by rw[lV,s4];omega)
  repeat'(first|refine gD ?_|(conv=>whnf);first|refine CB ?_|refine CN (by decide) ?_|refine CS T ?_|refine C7 (H) ?_|refine CM s2.1 (aa p) ?_|refine CH rfl (aa p) rfl ?_|refine CM ω (aa J) ?_|refine Pu.two rfl rfl (aa p) rfl rfl rfl (aa J) rfl (W2 _) (E0 h _ k _ b.1) ?_)
  ((conv=>whnf);refine CD (k+1) ω ω ?_;(exact wB))
 obtain rfl:k=(csz (aI (nth h.O i).o)).toNat:=ω
 have c5:=nj {h with G:=eQ h.G (nth h.O i).Addr (csz (aI (nth h.O i).o)).toNat} i l (by show h.O.length<=_;omega);have j:=a.nums;unfold cg at j;rw[C0]at j;have K:=(a.dropO l (jH.any (c:=aI (nth h.O i).o) (by obtain⟨⟨s,hs,k1,k2⟩,-⟩:=(dA a (am l)).2 w;exact⟨s,hs,k1,.inr k2⟩))).nd;rw[List.cons_append,List.nil_append]at K;have c6:=AN h.a6 (kK h (nth h.O i)) (by have:=d.quar;omega) a.quar ⟨S.1,S.2,b.1,j.2.2.1⟩ (λy U=>a.snc y U) (λy U e=>(List.nodup_cons.1 K).1 (by rw[show(nth h.O i).Addr=y.Addr from e.symm];unfold holders;simp only[U2];exact .inl (.inr (C4.2 ⟨y,U,rfl⟩))));unfold PW at c6;have V:(xN h.a6 (kK h (nth h.O i))).length<=513:=by have:=d.quar;unfold xN;rw[O1,Z2];simp only[List.length_singleton];omega
 repeat'(first|refine gA ?_|(conv=>whnf);first|with_reducible refine Bf.D (λn=>?_) (λn=>?_)|refine CB ?_|refine C7 (H) ?_|refine CJ (c5) (.inl rfl) ?_|refine CG (c6) ⟨⟨rfl,bQ.enc_fz h.a6⟩,⟨rfl,rfl⟩,trivial⟩ ?_|refine CB ?_)
 have W:Dw h t i=recycs t (inQuar h i) ((xN h.a6 (kK h (nth h.O i))).map (·.Addr)):=rfl;simp only;rw[W];have hqn:(inQuar h i).T.length=h.T.length:=rfl;generalize xN h.a6 (kK h (nth h.O i))=out at g V
 (conv=>whnf)
 refine CE (ι:=Nat) (λk=>[(0,.H .box (bz (recycs t (inQuar h i) ((out.take k).map (·.Addr))))),(1,.H .one [I ((t:Nat):Int)]),(15,.H .one (cS .own out)),(16,.H .one [I ((k:Nat):Int)])]) (λk=>k<=out.length) (λk=>out.length - k) (0) ?_ (T0 _) λk hk=>?_
 ·exact wB
 by_cases O:k<out.length
 ·have L:=ao O
  have X:out.map (·.Addr)=(out.take k).map (·.Addr)++(nth out k).Addr::(out.drop (k+1)).map (·.Addr):=by
   conv=>lhs;rw[<-List.take_append_drop k out,jD O]
   simp
  have Y:aV (recycs t (inQuar h i) ((out.take k).map (·.Addr))) ((nth out k).Addr::(out.drop (k+1)).map (·.Addr)):=aV.recycs (by rw[<-X];exact g) E;have c7:=nr _ _ t _ Y (by rw[(gn t _ _).1];exact E)
  repeat'(first|refine gD ?_|(conv=>whnf);first|refine CB ?_|refine CC (aa L) ?_|refine CH rfl (aa L) rfl ?_|refine CJ (c7) (.inl rfl) ?_)
  ((conv=>whnf);refine CD (k+1) ω ω ?_)
  rw[Dy t _ out k O];exact wB
 obtain rfl:k=out.length:=ω
 rw[X4]
 repeat'(first|refine gD ?_|(conv=>whnf);first|refine CB ?_)
 refine CF rfl rfl ?_;exact wB
set_option maxRecDepth 100000
theorem ee(c:C):N9 c c:=(lM [c]).1
theorem o6{c a:C}(h:a=c):N9 c a:=by subst h;exact ee _
def Jb(c:aE)(k:Nat):aE:=⟨c.d.set k []⟩
theorem Pe(c:aE)(k:Nat):aE.enc .own (Jb c k)=[.s .own ((c.d.map (aG .own)).set k (aG .own []))]:=by simp[aE.enc,Jb,W5]
theorem JM(xs:List Int):([]:List Int).map (rI .X)=(xs.map (rI .X)).drop xs.length:=by rw[List.drop_eq_nil_of_le (by rw[X0];omega)];rfl
theorem Lw(xs:List Int):xs.map (rI .X)=(xs.map (rI .X)).take xs.length:=by rw[U6 (by rw[X0];omega)]
def QO(c:aE)(k:Nat):List C:=aE.enc .own (Jb c k)++aG .own (nth c.d k)
theorem Qe(c:aE)(k:Nat):gR (QO c k):=aZ (aE.enc_fr _) (bV _)
theorem u7(c:aE)(k:Nat)(d:bw c=true)(p:k<=3):ar Tryz.prog 510 false [.val (some 1) (aE.enc .X c),.val none [I (k:Nat)],.val none [I 8]] (.tup [some 1,none]) (QO c k):=by
 obtain⟨q,e⟩:=eL d;have g:aE.sml c:=⟨ω,λl j=>by have:=e l j;show l.length<=1048576;omega⟩
 have h:=w7 c k g;rw[d,O0 ω]at h;have n:=iu c g;have a:=se (c:=c) (k:=k) ω;have o:=e _ (am (xs:=c.d) (i:=k) ω);have b:=Qe c k;unfold QO at b |-;rw[Pe]at b |-;refine fO 52 [(5,268,[29,30,31,32,33,34,35,36,37,38,39,41,0,1,2,3,4,5,6,7,8,9,10,11,1000,1001,1002,12,13]),(6,265,[42,43,44,45,46,47,48,49,50,0,1,2,3,4,5,6,7,8,9,1000,10,11])] Tryz.func510 rfl ?_ (.inr b)
 repeat'(first|refine gO ?_|(conv=>whnf);first|with_reducible refine CC (aa a) ?_|refine CB ?_|refine CH rfl (aa a) rfl ?_|refine C7 (h) ?_|refine C7 (n) ?_|refine CS (z:=((nth c.d k).length:Int)) (by simp;omega) ?_|refine Sl.suf (nth c.d k).length rfl (by rw[X0];omega) (aQ λ_=>rfl) (JM _) ?_|refine CV (nth c.d k).length rfl (by rw[X0];omega) (aQ λ_=>rfl) (Lw _) ?_|refine CB ?_|refine CU (λ_=>rfl) (λ_=>rfl) (by simp) (by decide) ?_|refine CR (λ_=>rfl) (λ_=>rfl) (by simp) (by decide) ?_|refine CU (λ_=>rfl) (λ_=>rfl) ω (by decide) ?_|refine CR (λ_=>rfl) (λ_=>rfl) ω (by decide) ?_|refine CO rfl rfl (aa a) rfl (Z0 rfl) rfl ?_)
 rfl
theorem oA{k:Int} : ∀{l s s2 c:List Int},(∀x∈s2,x∈s)->qz k s l=some c->(∀x∈s,x∈c)/\∃d,qz k s2 l=some d/\∀x∈d,x∈c
 | [],s,s2,c,h,e=>by
  simp only[qz,W0]at e |-;subst e;exact⟨λ_ h=>h,s2,rfl,h⟩
 | a::l,s,s2,c,h,e=>by
  simp only[qz]at e |-;split at e
  ·rename_i g
   rw[C9 (show good k s2 a from⟨g.1,g.2.1,g.2.2.1,λx=>g.2.2.2 (h a x)⟩)];obtain⟨f,i⟩:=oA (l:=l) (s:=s++[a]) (s2:=s2++[a]) (λx b=>by
     rcases U2.1 b with b|b
     · exact U2.2 (.inl (h x b))
     exact U2.2 (.inr b)) e
   exact⟨λx b=>f x (U2.2 (.inl b)),i⟩
  cases e
theorem sX:∀{a:List (List Int)}{k:Nat}{s s2:List Int},(∀x∈s2,x∈s)->(ge k s a).isSome=true->(ge k s2 a).isSome=true
 | [],_,_,_,_,_=>rfl
 | l::a,k,s,s2,h,e=>by
  simp only[ge,eH]at e |-;split at e
  ·rename_i g
   rw[C9 g];cases b:qz k s l with
   | none=>rw[b]at e;cases e
   | some i=>
    rw[b]at e;obtain⟨-,c,d,f⟩:=oA h b;rw[d];exact sX f e
  cases e
theorem B5:∀{a:List (List Int)}{k:Nat}{s s2:List Int}(i:Nat),(∀x∈s2,x∈s)->(ge k s a).isSome=true->(ge k s2 (a.set i [])).isSome=true
 | [],_,_,_,_,_,_=>rfl
 | l::a,k,s,s2,i,h,e=>by
  simp only[ge,eH]at e;split at e
  ·rename_i g
   cases b:qz k s l with
   | none=>rw[b]at e;cases e
   | some o=>
    rw[b]at e;obtain⟨c,d,f,j⟩:=oA h b;cases i with
    | zero=>
     simp only[List.set_cons_zero,ge,eH];rw[C9 ⟨by simp,g.2⟩];exact sX (λx n=>c x (h x n)) e
    | succ i=>
     simp only[List.set_cons_succ,ge,eH];rw[C9 g,f];exact B5 i j e
  cases e
theorem PY{c:aE}(h:bw c=true)(k:Nat):bw (Jb c k)=true:=by
 unfold bw at h |-;simp only[I0,C0]at h |-;exact⟨by simp only[Jb,I1];exact h.1,B5 k (λ_ h=>h) h.2⟩
def spilt(h:ab)(t k:Nat):ab:={h with T:=h.T.set t (Jb (nth h.T t) k)}
theorem aV.spilt{h:ab}{E:List Int}{t k:Nat}(f:aV h E)(i:t<h.T.length)(n:k<(nth h.T t).d.length):aV (spilt h t k) (nth (nth h.T t).d k++E):=by
 have p:(E++holders h).Perm (nth (nth h.T t).d k++E++holders (Ab.spilt h t k)):=by
  refine List.perm_iff_count.2 λb=>?_
  have r:=i9 (λc:aE=>c.d.flatten) b h.T t (Jb (nth h.T t) k) i;have q:=i9 (λx:List Int=>x) b (nth h.T t).d k [] n;rw[<-kE,<-kE]at q;simp only[List.count_nil]at q;simp only[Jb]at r;simp only[holders,cy,Ab.spilt,Jb,V5];omega
 have g:∀c∈(Ab.spilt h t k).T,c∈h.T\/c=Jb (nth h.T t) k:=λc u=>Z5 u
 exact {f with
   nc:=by show(h.T.set ..).length=_;rw[I1];exact f.nc
   cach:=λc a=>by
     rcases g c a with a|rfl
     · exact f.cach c a
     exact PY (f.cach _ (am i)) k
   onu:=by show ∀o∈h.O,1<=o.Id/\o.Id<=h.a - 1/\0<=o.a3/\o.a3<=(h.T.set t _).length - 1;rw[I1];exact f.onu
   hca:=λc a j l b d=>by
     rcases g c a with a|rfl
     · exact f.hca c a j l b d
     simp only[Jb,I1]at l;simp only[Jb,bA]at d;by_cases e:k=j
     · subst e
       rw[C9 ⟨rfl,l⟩]at d;cases d
     rw[C8 λx=>e x.1]at d;exact f.hca _ (am i) _ l b d
   hin:=λb d=>by
     rcases U2.1 d with d|d
     · exact(f.hca _ (am i) k n b d).any
     exact f.hin b d
   nd:=p.nodup_iff.1 f.nd
   mem:=λb=>by rw[<-p.mem_iff];exact f.mem b}
def freeAs(h:ab)(az:List Int):ab:=az.foldl freeA h
theorem ig:∀(az:List Int)(h:ab),(freeAs h az).T=h.T/\(freeAs h az).O=h.O/\(freeAs h az).G.Calls=h.G.Calls/\(freeAs h az).w=h.w/\(freeAs h az).Y=h.Y/\(freeAs h az).b5=h.b5/\(freeAs h az).a6=h.a6/\(freeAs h az).G.y=h.G.y
 | [],h=>⟨rfl,rfl,rfl,rfl,rfl,rfl,rfl,rfl⟩
 | a::az,h=>by
  obtain⟨b,c,d,e,f,g,i,j⟩:=ig az (freeA h a);obtain⟨k,l,n,o,p,q,r,t⟩:=wK h (t7 h a) a;exact⟨b.trans k,c.trans l,d.trans n,e.trans o,f.trans p,g.trans q,i.trans r,j.trans t⟩
theorem aV.freeAs{E:List Int} : ∀{az:List Int}{h:ab},aV h (az++E)->aV (freeAs h az) E
 | [],_,b=>b
 | a::az,h,b=>aV.freeAs (az:=az) (h:=Ab.freeA h a) b.freeA
theorem tP(h:ab)(az:List Int)(k:Nat)(a:k<az.length):freeAs h (az.take (k+1))=freeA (freeAs h (az.take k)) (nth az k):=by
 rw[I5,ao a];simp[freeAs]
def flushN(t:Nat)(h:ab):Nat->ab × Nat
 | 0=>(h,0)
 | k+1=>(freeAs (spilt (flushN t h k).1 t k) (nth (nth (flushN t h k).1.T t).d k),(flushN t h k).2+(nth (nth (flushN t h k).1.T t).d k).length)
theorem iY{t:Nat}{h:ab}(c:aV h [])(e:t<h.T.length):∀{k:Nat},k<=4->aV (flushN t h k).1 []/\(flushN t h k).1.T.length=h.T.length/\(flushN t h k).1.G.Calls=h.G.Calls/\(flushN t h k).1.O=h.O/\(flushN t h k).1.w=h.w/\(flushN t h k).1.Y=h.Y/\(flushN t h k).2<=8*k
 | 0,_=>⟨c,rfl,rfl,rfl,rfl,rfl,T0 _⟩
 | k+1,y=>by
  obtain⟨d,f,g,i,j,l,A⟩:=iY c e (k:=k) ω;have a:t<(flushN t h k).1.T.length:=ω
  obtain⟨B,n⟩:=eL (d.cach _ (am a));have b:k<(nth (flushN t h k).1.T t).d.length:=ω
  have o:=d.spilt a b;have C:=n _ (am b);obtain⟨p,q,r,u,w,-⟩:=ig (nth (nth (flushN t h k).1.T t).d k) (Ab.spilt (flushN t h k).1 t k);refine⟨aV.freeAs o,?_,r.trans g,q.trans i,u.trans j,w.trans l,?_⟩
  ·show(Ab.freeAs _ _).T.length=_
   rw[p];simp only[Ab.spilt,I1];exact f
  simp only[flushN];omega
theorem Db{h:ab}{t k:Nat}(d:aV h [])(e:t<h.T.length)(j:k<4):t<(flushN t h k).1.T.length/\bw (nth (flushN t h k).1.T t)=true/\k<(nth (flushN t h k).1.T t).d.length/\(nth (nth (flushN t h k).1.T t).d k).length<=8/\(flushN t h k).2<=8*k:=by
 obtain⟨f,l,-,-,-,-,g⟩:=iY d e (k:=k) ω;have a:t<(flushN t h k).1.T.length:=ω
 have c:=f.cach _ (am a);obtain⟨n,i⟩:=eL c;have b:k<(nth (flushN t h k).1.T t).d.length:=ω
 exact⟨a,c,b,i _ (am b),g⟩
theorem M0{h:ab}{t k j:Nat}(a:aV h [])(b:t<h.T.length)(d:k<4)(e:j<(nth (nth (flushN t h k).1.T t).d k).length):aV (freeAs (spilt (flushN t h k).1 t k) ((nth (nth (flushN t h k).1.T t).d k).take j)) (nth (nth (nth (flushN t h k).1.T t).d k) j::(nth (nth (flushN t h k).1.T t).d k).drop (j+1)):=by
 obtain⟨f,g⟩:=Db a b d;have c:=((iY a b (k:=k) ω).1).spilt f g.2.1;rw[List.append_nil]at c;refine aV.freeAs ?_;rw[<-jD e,List.take_append_drop];exact c
theorem xG(h:ab)(t:Nat)(i:aV h [])(l:t<h.T.length):aS Tryz.prog 433 false [.ptr (bz h),.val none [I (t:Nat)]] [.ptr (bz (flushN t h 4).1),.val none [I (t:Nat)]] .one [I ((flushN t h 4).2:Nat)]:=by
 refine fM 48 [(511,[2,0])] [(6,6,[26,27,28,29,30,31])] [(0,0),(0,0)] Tryz.func433 rfl (λu q=>?_)
 repeat'(first|refine gO ?_|fail)
 (conv=>whnf)
 refine CE (ι:=Nat) (λk=>[(0,.H .box (bz (flushN t h k).1)),(1,.H .one [I ((t:Nat):Int)]),(5,.H .one [I (((flushN t h k).2:Nat):Int)]),(6,.H .one [I ((k:Nat):Int)])]) (λk=>k<=4) (λk=>4 - k) (0) ?_ (T0 _) λk D=>?_
 ·repeat'(first|exact trivial|rfl |exact o6 a|exact ee _|refine CK ?_ ?_|(exact DY (by first|omega|(simp only;omega)|(simp;omega))))
 by_cases n:k<4
 ·obtain⟨o,p,E,F,G⟩:=Db i l n
  have r:=u7 (nth (flushN t h k).1.T t) k p ω;have c:=λj=>M0 i l n (j:=j)
  have e:=ao o;have w:(flushN t h (k+1)).1=freeAs (spilt (flushN t h k).1 t k) (nth (nth (flushN t h k).1.T t).d k):=rfl;have y:(flushN t h (k+1)).2=(flushN t h k).2+(nth (nth (flushN t h k).1.T t).d k).length:=rfl;have a:C.s dK.own ((spilt (flushN t h k).1 t k).T.map (aE.enc .own))=C.s dK.own (((flushN t h k).1.T.map (aE.enc .own)).set t (aE.enc .own (Jb (nth (flushN t h k).1.T t) k))):=by simp[spilt,W5]
  repeat'(first|refine gD ?_|(conv=>whnf);first|refine CC (aa e) ?_|refine CH rfl (aa e) rfl ?_|refine CG (r) ⟨⟨rfl,aE.enc_fz _⟩,⟨rfl,rfl⟩,⟨rfl,rfl⟩,trivial⟩ ?_|refine CB ?_|refine CO rfl rfl (aa e) rfl (Z0 rfl) rfl ?_)
  generalize (flushN t h k).1=d at *;generalize (flushN t h k).2=m at *
  (conv=>whnf)
  refine CE (ι:=Nat) (λj=>[(0,.H .box (bz (freeAs (spilt d t k) ((nth (nth d.T t).d k).take j)))),(1,.H .one [I ((t:Nat):Int)]),(5,.H .one [I (((m+j):Nat):Int)]),(6,.H .one [I ((k:Nat):Int)]),(8,.H .one (aG .own (nth (nth d.T t).d k))),(9,.H .one [I ((j:Nat):Int)])]) (λj=>j<=(nth (nth d.T t).d k).length) (λj=>(nth (nth d.T t).d k).length - j) (0) ?_ (T0 _) λj H=>?_
  ·repeat'(first|exact trivial|rfl |exact o6 a|exact ee _|refine CK ?_ ?_|(exact DY (by first|omega|(simp only;omega)|(simp;omega))))
  by_cases g:j<(nth (nth d.T t).d k).length
  ·have b:=ao g
   have B:=ng _ _ _ (c j g)
   repeat'(first|refine gD ?_|(conv=>whnf);first|refine CC (aa b) ?_|refine CH rfl (aa b) rfl ?_|refine CJ (B) (.inl rfl) ?_)
   ((conv=>whnf);refine CD (j+1) ω ω ?_)
   rw[tP _ _ _ g];exact wC
  obtain rfl:j=(nth (nth d.T t).d k).length:=ω
  rw[X4]
  repeat'(first|refine gD ?_|fail)
  ((conv=>whnf);refine CD (k+1) ω ω ?_)
  rw[w,y];exact wC
 obtain rfl:k=4:=ω
 repeat'(first|refine gD ?_|fail)
 refine CF rfl rfl ?_;exact wC
def Hm(s:Int):Int:=(1103515245*s+12345) % 1073741824
theorem FL(s:Int):0<=Hm s/\Hm s<=1073741823:=by unfold Hm;omega
theorem xL(s:Int)(b:0<=s/\s<=1073741823):ar Tryz.prog 540 false [.val none [I s]] .one [I (Hm s)]:=by
 have a:=aF s 0 1073741823;rw[O0 b]at a;refine fO 10 [] Tryz.func540 rfl ?_
 repeat'(first|refine gO ?_|(conv=>whnf);first|refine CB ?_|refine CS (z:=Hm s) (eR ω) ?_|refine C7 (a) ?_|refine CN (by decide) ?_)
 rfl
def LT(s n:Int):Int:=Hm s / 1024 % n
theorem v8(s:Int){n:Int}(h:1<=n):0<=LT s n/\LT s n<n:=⟨Int.emod_nonneg _ ω,Int.emod_lt_of_pos _ ω⟩
theorem tM(s n:Int)(b:0<=s/\s<=1073741823)(c:1<=n/\n<=1000):ar Tryz.prog 483 false [.val none [I s],.val none [I n]] (.tup [none,none]) [I (LT s n),I (Hm s)]:=by
 have d:=aF s 0 1073741823;have e:=aF n 1 1000;rw[O0 b]at d;rw[O0 c]at e;have g:=FL s;have i:=v8 s c.1;have a:(Hm s).tdiv 1024=Hm s / 1024:=Int.tdiv_eq_ediv_of_nonneg g.1;have h:((Hm s).tdiv 1024).tmod n=LT s n:=by rw[a];exact eR ω
 refine fO 23 [] Tryz.func483 rfl ?_ (.inr ⟨trivial,trivial,trivial⟩)
 repeat'(first|refine gO ?_|(conv=>whnf);first|refine CB ?_|refine C7 (d) ?_|refine C7 (e) ?_|refine C7 (xL s b) ?_|refine CN (by decide) ?_|refine CN ω ?_|refine CS h ?_|refine CL (eE (by rw[a];omega) (by rw[a];omega)) ?_)
 rfl
def rv(n:Nat):List Int:=(List.range n).map λ(i:Nat)=>(i:Int)
theorem Gk(n:Nat):rv (n+1)=rv n++[(n:Int)]:=by unfold rv;rw[List.range_succ,R5];rfl
theorem zb(n:Nat):(rv n).length=n:=by simp[rv]
def vq(xs:List Int)(i k:Nat):List Int:=(xs.set i (nth xs k)).set k (nth xs i)
theorem HK(xs:List Int)(i k:Nat):(vq xs i k).length=xs.length:=by simp[vq]
def gS(n:Nat)(s:Int):Nat->List Int × Int
 | 0=>(rv n,s)
 | j+1=>(vq (gS n s j).1 (n - 1 - j) (LT (gS n s j).2 ((n - 1 - j:Nat)+1:Int)).toNat,Hm (gS n s j).2)
theorem lX(n:Nat){s:Int}(a:0<=s/\s<=1073741823):∀j,(gS n s j).1.length=n/\0<=(gS n s j).2/\(gS n s j).2<=1073741823
 | 0=>⟨zb n,a⟩
 | j+1=>⟨by simp only[gS,HK];exact(lX n a j).1,FL _⟩
def shuf(n:Nat)(s:Int):List Int × Int:=gS n s (n - 1)
theorem LQ(xs:List Int)(i k:Nat):(vq xs i k).map (rI .own)=((xs.map (rI .own)).set i (rI .own (nth xs k))).set k (rI .own (nth xs i)):=by simp[vq,W5]
theorem HP{xs:List Int}{i k:Nat}(v:Int)(a:k<xs.length):((xs.map (rI .own)).set i (rI .own v))[k]? = some (rI .own (nth (xs.set i v) k)):=by
 rw[<-W5];exact aa (ao (by rw[I1];exact a))
theorem yr(n:Nat)(s:Int)(d:0<=s/\s<=1073741823)(w:n<=64):ar Tryz.prog 425 false [.val none [I s],.val none [I (n:Nat)]] (.tup [none,none]) (aG .own (shuf n s).1++[I (shuf n s).2]):=by
 have e:=aF s 0 1073741823;have g:=aF (n:Nat) 0 64;rw[O0 d]at e;rw[O0 ω]at g;refine fO 63 [] Tryz.func425 rfl ?_ (.inr (aZ (bV _) ⟨trivial,trivial⟩))
 repeat'(first|refine gO ?_|(conv=>whnf);first|refine CB ?_|refine C7 (e) ?_|refine C7 (g) ?_)
 (conv=>whnf)
 refine CE (ι:=Nat) (λk=>[(0,.H .one [I (s)]),(1,.H .one [I ((n:Nat):Int)]),(6,.H .one (aG .own (rv k))),(7,.H .one [I ((k:Nat):Int)])]) (λk=>k<=n) (λk=>n - k) (0) ?_ (T0 _) λk y=>?_
 ·exact wB
 have h:=zb k;by_cases B:k<n
 ·repeat'(first|refine gD ?_|(conv=>whnf);first|refine CB ?_|refine Ap.sm (aQ λ_=>rfl) rfl (by simp;omega) (by decide) (iF (rI .own) (rv k) (k:Int)) ?_)
  ((conv=>whnf);refine CD (k+1) ω ω ?_)
  rw[Gk];exact wB
 obtain rfl:k=n:=ω
 repeat'(first|refine gD ?_|(conv=>whnf);first|refine CB ?_)
 (conv=>whnf)
 refine CE (ι:=Nat) (λj=>[(0,.H .one [I ((gS k s j).2)]),(6,.H .one (aG .own (gS k s j).1)),(8,.H .one [I (((k:Int) - 1 - j))])]) (λj=>(j<=k - 1/\j<=k)) (λj=>k - j) (0) ?_ (⟨T0 _,T0 _⟩) λj C=>?_
 ·exact wB
 obtain⟨D,l,o⟩:=lX k d j;by_cases E:j<k - 1
 ·have q:(k:Int) - 1 - j=((k - 1 - j:Nat):Int):=ω
  have r:=v8 (gS k s j).2 (n:=((k - 1 - j:Nat)+1:Int)) ω;have t:=tM (gS k s j).2 ((k - 1 - j:Nat)+1:Int) ⟨l,o⟩ ω;have u:gS k s (j+1)=(vq (gS k s j).1 (k - 1 - j) (LT (gS k s j).2 ((k - 1 - j:Nat)+1:Int)).toNat,Hm (gS k s j).2):=rfl;rw[q];generalize gS k s j=p at *;obtain⟨xs,z⟩:=p;simp only at *;generalize k - 1 - j=i at *;have a:=ao (xs:=xs) (i:=i) ω;have b:=ao (xs:=xs) (i:=(LT z (i+1)).toNat) ω;have c:=HP (xs:=xs) (i:=i) (k:=(LT z (i+1)).toNat) (nth xs (LT z (i+1)).toNat) ω
  repeat'(first|refine gD ?_|(conv=>whnf);first|refine CB ?_|refine C7 (t) ?_|refine CM ω (aa b) ?_|refine CC (aa a) ?_|refine CH rfl (aa a) rfl ?_|refine CH rfl (aa b) rfl ?_|refine CO rfl rfl (aa a) rfl (Z0 rfl) rfl ?_|refine CM ω c ?_|refine CO rfl rfl c rfl (Z0 rfl) rfl ?_)
  ((conv=>whnf);refine CD (j+1) ω ω ?_)
  rw[u];simp only[aG,LQ];exact wB
 obtain rfl:j=k - 1:=ω
 repeat'(first|refine gD ?_|(conv=>whnf);first|refine CB ?_)
 rfl
def AJ(b:Int):Nat->Nat
 | 0=>0
 | n+1=>AJ b n+(if aR b (n:Nat)=true then 1 else 0)
theorem zO(b:Int):∀n,AJ b n<=n
 | 0=>W2 _
 | n+1=>by have:=zO b n;simp only[AJ];split<;>omega
theorem u5(b:Int)(d:b<=9223372036854775807):ar Tryz.prog 424 false [.val none [I b]] .one [I (AJ b 16:Nat)]:=by
 refine fO 15 [] Tryz.func424 rfl ?_
 repeat'(first|refine gO ?_|fail)
 (conv=>whnf)
 refine CE (ι:=Nat) (λk=>[(0,.H .one [I (b)]),(3,.H .one [I ((AJ b k:Nat):Int)]),(4,.H .one [I ((k:Nat):Int)])]) (λk=>k<=16) (λk=>16 - k) (0) ?_ (T0 _) λk g=>?_
 ·exact wB
 have h:=zO b k;by_cases i:k<16
 ·have a:=i7 b (k:Nat) d
  have c:AJ b (k+1)=AJ b k+(if aR b (k:Nat)=true then 1 else 0):=rfl;cases e:aR b (k:Nat)<;>rw[e]at a c
  all_goals
   repeat'(first|refine gD ?_|(conv=>whnf);first|refine C7 (a) ?_)
   ((conv=>whnf);refine CD (k+1) ω ω ?_)
   rw[c];exact wB
 obtain rfl:k=16:=ω
 repeat'(first|refine gD ?_|fail)
 rfl
def yX(h:ab)(s:ax):Bool:=decide (0<AJ s.b1 16)&&decide ((aP h s.Q).length=1)
def lg(h:ab):Nat->List ax
 | 0=>[]
 | n+1=>if yX h (nth h.M n)=true then lg h n++[nth h.M n] else lg h n
def m7(h:ab):List ax:=lg h h.M.length
theorem wN(h:ab):∀n,(lg h n).length<=n
 | 0=>W2 _
 | n+1=>by have:=wN h n;simp only[lg];split<;>simp<;>omega
theorem lY(h:ab):∀{n:Nat},n<=h.M.length->∀s∈lg h n,s∈h.M
 | 0,_,s,a=>by cases a
 | n+1,b,s,a=>by
  simp only[lg]at a;split at a
  ·rcases U2.1 a with a|a
   ·exact lY h ω s a
   rw[C1.1 a];exact am ω
  exact lY h ω s a
theorem wo(h:ab)(j:xD h)(q:h.M.length<=1000)(r:eM h<=1000)(l:∀s∈h.M,s.b1<=9223372036854775807):ar Tryz.prog 289 false [.val (some 24) (ab.enc .X h)] .one (cz .own (m7 h)):=by
 refine fO 42 [(5,16,[13,14,15,16,17,18,19,20,21,22,23,24,25,26,27,28])] Tryz.func289 rfl ?_ (.inr (Fc _))
 repeat'(first|refine gO ?_|fail)
 (conv=>whnf)
 refine CE (ι:=Nat) (λk=>[(1,.H .box (ab.enc .X h)),(3,.H .one (cz .own (lg h k))),(4,.H .one [I ((k:Nat):Int)])]) (λk=>k<=h.M.length) (λk=>h.M.length - k) (0) ?_ (T0 _) λk t=>?_
 ·exact wB
 have n:=wN h k;by_cases e:k<h.M.length
 ·have c:=ao e
  have d:=u5 (nth h.M k).b1 (l _ (am e));have b:=gY h (nth h.M k).Q j;have o:=gU h (nth h.M k).Q;have p:=zO (nth h.M k).b1 16;have a:lg h (k+1)=if yX h (nth h.M k)=true then lg h k++[nth h.M k] else lg h k:=rfl
  by_cases g:0<AJ (nth h.M k).b1 16
  ·by_cases i:(aP h (nth h.M k).Q).length=1
   ·rw[C9 (by unfold yX;simp[g,i])]at a
    repeat'(first|refine gA ?_|(conv=>whnf);first|refine CC (aa c) ?_|refine C7 (d) ?_|refine CG (b) ⟨⟨rfl,rfl⟩,⟨rfl,rfl⟩,trivial⟩ ?_|refine C7 (b) ?_|refine CB ?_|refine Ap.sm (aQ λ_=>rfl) rfl (by simp;omega) (by decide) (iF (ax.enc .own) (lg h k) (nth h.M k)) ?_)
    ((conv=>whnf);refine CD (k+1) ω ω ?_)
    rw[a];exact wB
   rw[C8 (by unfold yX;simp[i])]at a
   repeat'(first|refine gA ?_|(conv=>whnf);first|refine CC (aa c) ?_|refine C7 (d) ?_|refine C7 (b) ?_|refine CB ?_)
   ((conv=>whnf);refine CD (k+1) ω ω ?_)
   rw[a];exact wB
  rw[C8 (by unfold yX;simp[g])]at a
  repeat'(first|refine gD ?_|(conv=>whnf);first|refine CC (aa c) ?_|refine C7 (d) ?_|refine C7 (b) ?_|refine CB ?_)
  ((conv=>whnf);refine CD (k+1) ω ω ?_)
  rw[a];exact wB
 obtain rfl:k=h.M.length:=ω
 repeat'(first|refine gD ?_|fail)
 rfl
def td(s:ax)(c:Nat):Bool:=aR s.b1 (((c:Nat):Int) / csz s.b)
def tz(s:ax)(n:Nat):List Int:=((List.range n).filter (td s)).map λ(i:Nat)=>(i:Int)
theorem MI{s:ax}{n:Nat}(h:td s n=true):tz s (n+1)=tz s n++[(n:Int)]:=by
 unfold tz;rw[List.range_succ,List.filter_append,R5];simp[h]
theorem PN{s:ax}{n:Nat}(h:td s n=false):tz s (n+1)=tz s n:=by
 unfold tz;rw[List.range_succ,List.filter_append,R5];simp[h]
theorem qF(s:ax)(n:Nat):(tz s n).length<=n:=by
 unfold tz;rw[X0];exact V4 (List.length_filter_le _ _) (by simp)
theorem N0{s:ax}(a:bg s=true){c:Nat}(d:c<16):0<=((c:Nat):Int) / csz s.b/\((c:Nat):Int) / csz s.b<=15:=by
 have f:=aC a;have b:csz s.b=1\/csz s.b=2\/csz s.b=4\/csz s.b=8:=bM ω;rcases b with e|e|e|e<;>rw[e]<;>omega
theorem nN(s:ax)(a:bg s=true):ar Tryz.prog 426 false [.val (some 3) (ax.enc .X s)] .one (aG .own (tz s 16)):=by
 have b:=gi s;rw[a]at b;have g:=aC a;have n:=bM g.2.2;refine fO 27 [(5,7,[14,15,16,17,18,19,20])] Tryz.func426 rfl ?_ (.inr (bV _))
 repeat'(first|refine gO ?_|fail)
 (conv=>whnf)
 refine CE (ι:=Nat) (λi=>[(1,.H .box (ax.enc .X s)),(3,.H .one (aG .own (tz s i))),(4,.H .one [I ((i:Nat):Int)])]) (λi=>i<=16) (λi=>16 - i) (0) ?_ (T0 _) λi o=>?_
 ·exact wB
 have h:=qF s i;by_cases j:i<16
 ·have k:=N0 a j
  have d:IntKind.i64.wrap (((i:Nat):Int).tdiv (csz s.b))=((i:Nat):Int) / csz s.b:=by rw[mj ω];exact eE ω ω
  have c:=i7 s.b1 (((i:Nat):Int) / csz s.b) (fy a).2;cases e:td s i
  ·rw[show aR s.b1 (((i:Nat):Int) / csz s.b)=false from e]at c
   repeat'(first|refine gD ?_|(conv=>whnf);first|refine C7 (b) ?_|refine C7 (dE _) ?_|refine CN ω ?_|refine CL d ?_|refine C7 (c) ?_)
   ((conv=>whnf);refine CD (i+1) ω ω ?_)
   rw[PN e];exact wB
  rw[show aR s.b1 (((i:Nat):Int) / csz s.b)=true from e]at c
  repeat'(first|refine gD ?_|(conv=>whnf);first|refine C7 (b) ?_|refine C7 (dE _) ?_|refine CN ω ?_|refine CL d ?_|refine C7 (c) ?_|refine CT cI (λr l=>by rw[C1.1 l];rfl) (by simp[aX,dU]) (by simp;omega) (by simp only[X0];exact yM (by simp;omega) (by decide)) rfl ?_)
  ((conv=>whnf);refine CD (i+1) ω ω ?_)
  rw[MI e]
  (repeat'(first|exact trivial|rfl|exact CK rfl (CK (U0 (C.s dK.own) (by simp[rI])) trivial)|refine CK ?_ ?_))
 obtain rfl:i=16:=ω
 repeat'(first|refine gD ?_|(conv=>whnf);first|refine C7 (b) ?_)
 rfl
structure gc where
 A:Int
 B:Int
deriving DecidableEq,Inhabited
def gc.enc(_:dK)(x:gc):List C:=[I x.A,I x.B]
def jr(o:dK)(x:List gc):List C:=[.s o (x.map (gc.enc o))]
theorem Fu(x:List gc):gR (jr .own x):=⟨⟨.inl λh=>(by cases h),bf _ _ λ_ _=>⟨trivial,trivial,trivial⟩⟩,trivial⟩
def N5(i:Int)(p:gc):Bool:=decide (p.A=i) || decide (p.B=i)
def dc(a b:ax):cM:=if(tz a 16).length<(tz b 16).length then⟨b.Q,a.Q,tz a 16⟩ else⟨a.Q,b.Q,tz b 16⟩
theorem xF(a b:ax)(g:meshable a b=true)(h:bg a=true)(i:bg b=true):ar Tryz.prog 291 false [.val (some 3) (ax.enc .X a),.val (some 3) (ax.enc .X b)] (.tup [some 3,none]) (cM.enc .own (dc a b)++[B true]):=by
 have c:=lw a b;rw[g]at c;have d:=nN a h;have e:=nN b i;have j:=qF a 16;have k:=qF b 16;unfold dc;split
 ·refine fO 27 [(3,6,[11,12,13,14,15,16]),(5,6,[20,21,22,23,24,25])] Tryz.func291 rfl ?_ (.inr (aZ (cM.enc_fr _) ⟨trivial,trivial⟩))
  repeat'(first|refine gD ?_|(conv=>whnf);first|refine C7 (c) ?_|refine C7 (d) ?_|refine C7 (e) ?_|refine CB ?_)
  rfl
 refine fO 27 [(3,6,[11,12,13,14,15,16]),(5,6,[20,21,22,23,24,25])] Tryz.func291 rfl ?_ (.inr (aZ (cM.enc_fr _) ⟨trivial,trivial⟩))
 repeat'(first|refine gD ?_|(conv=>whnf);first|refine C7 (c) ?_|refine C7 (d) ?_|refine C7 (e) ?_|refine CB ?_)
 rfl
def sE(p:cM):cK:=⟨p,0,0⟩
theorem BR(p:cM)(c:ew p=true)(a:cM.sml p):ar Tryz.prog 292 false [.val (some 3) (cM.enc .X p)] (.tup [some 5,none]) (cK.enc .own (sE p)++[B true]):=by
 have b:=tB p a;rw[c]at b;have d:=qR (sE p) a;refine fO 11 [] Tryz.func292 rfl ?_ (.inr (aZ (cK.enc_fr _) ⟨trivial,trivial⟩))
 repeat'(first|refine gO ?_|(conv=>whnf);first|refine C7 (b) ?_|refine C7 (d) ?_)
 rfl
theorem sC(n:Nat){s:Int}(c:0<=s/\s<=1073741823):∀{j:Nat},j<=n - 1->∀x∈(gS n s j).1,0<=x/\x<n
 | 0,_,x,a=>by
  simp only[gS,rv,C4,List.mem_range]at a;obtain⟨i,d,rfl⟩:=a;omega
 | j+1,e,x,a=>by
  have f:=(lX n c j).1;have b:=sC n c (j:=j) ω;have g:=v8 (gS n s j).2 (n:=((n - 1 - j:Nat)+1:Int)) ω;simp only[gS,vq]at a;rcases Z5 a with a|rfl
  ·rcases Z5 a with a|rfl
   ·exact b x a
   exact b _ (am ω)
  exact b _ (am ω)
def tkn(out:List gc)(a:Int):Bool:=out.any (N5 a)
def stp(a:List ax)(p:List Int)(t i:Nat)(out:List gc):List gc:=
 if tkn out (nth p i)=false/\tkn out (nth p (p.length / 2+(i+t) % (p.length - p.length / 2)))=false/\meshable (nth a (nth p i).toNat) (nth a (nth p (p.length / 2+(i+t) % (p.length - p.length / 2))).toNat)=true then out++[⟨nth p i,nth p (p.length / 2+(i+t) % (p.length - p.length / 2))⟩] else out
def uE(a:List ax)(p:List Int)(t:Nat)(out:List gc):Nat->List gc
 | 0=>out
 | i+1=>stp a p t i (uE a p t out i)
def qx(a:List ax)(p:List Int):Nat->List gc
 | 0=>[]
 | t+1=>uE a p t (qx a p t) (p.length / 2)
theorem Pb(a:List ax)(p:List Int)(t i:Nat)(out:List gc):(stp a p t i out).length<=out.length+1:=by unfold stp;split<;>simp
theorem vz(a:List ax)(p:List Int)(t:Nat)(out:List gc):∀i,(uE a p t out i).length<=out.length+i
 | 0=>W2 _
 | i+1=>by have b:=vz a p t out i;have c:=Pb a p t i (uE a p t out i);simp only[uE];omega
theorem Dg(a:List ax)(p:List Int):∀t,(qx a p t).length<=t*(p.length / 2)
 | 0=>T0 _
 | t+1=>by have b:=Dg a p t;have c:=vz a p t (qx a p t) (p.length / 2);simp only[qx];rw[Nat.add_mul];omega
def lh(a:List ax)(s:Int):List gc:=qx a (shuf a.length s).1 3
def nq(n:Nat)(out:List gc):List Bool:=(List.range n).map λ(i:Nat)=>tkn out (i:Nat)
theorem Gt{n:Nat}{out:List gc}{a:Int}(h:0<=a/\a<n):(nq n out)[a.toNat]? = some (tkn out a):=by
 unfold nq;rw[X2,O6 ω];show some (tkn out ((a.toNat:Nat):Int))=_;rw[Int.toNat_of_nonneg h.1]
theorem Ld{n:Nat}{out:List gc}{a b:Int}(f:0<=a/\a<n)(g:0<=b/\b<n):nq n (out++[⟨a,b⟩])=((nq n out).set a.toNat true).set b.toNat true:=by
 unfold nq;apply List.ext_getElem?;intro i;by_cases c:i<n
 ·rw[X2,O6 c]
  by_cases d:b.toNat=i
  ·subst d
   rw[O3 (by simp;omega)];simp only[Y4,tkn,List.any_append,List.any_cons,List.any_nil,N5];rw[Int.toNat_of_nonneg g.1];simp
  rw[List.getElem?_set_ne d];by_cases e:a.toNat=i
  ·subst e
   rw[O3 (by simp;omega)];simp only[Y4,tkn,List.any_append,List.any_cons,List.any_nil,N5];rw[Int.toNat_of_nonneg f.1];simp
  rw[List.getElem?_set_ne e,X2,O6 c];simp only[Y4,tkn,List.any_append,List.any_cons,List.any_nil,N5];rw[R0 ω,R0 ω];simp
 rw[C2 (by simp;omega),C2 (by simp;omega)]
theorem MY(n:Nat):(nq n []).map (rB .own)=List.replicate n [B false]:=by
 unfold nq;rw[List.map_map];apply List.ext_getElem?;intro i;rw[X2];by_cases a:i<n
 ·rw[O6 a,List.getElem?_replicate];simp[a];rfl
 rw[C2 (by simp;omega),List.getElem?_replicate];simp[a]
theorem J0{xs:List Bool}{i k:Nat}(v:Bool)(a:k<xs.length):((xs.map (rB .own)).set i (rB .own v))[k]? = some (rB .own (nth (xs.set i v) k)):=by
 rw[<-W5];exact aa (ao (by rw[I1];exact a))
theorem uD(c:List ax)(s:Int)(u:0<=s/\s<=1073741823)(V:c.length<=16):ar Tryz.prog 290 false [.val none (cz .X c),.val none [I s],.val none [I 3]] (.tup [none,none]) (jr .own (lh c s)++[I (shuf c.length s).2]):=by
 have J:=aF s 0 1073741823;rw[O0 u]at J;have K:=aF 3 0 16;rw[O0 ω]at K;have Q:=yr c.length s u ω;have D:=(lX c.length u (c.length - 1)).1;have e:=sC c.length u (W2 _);unfold lh;change (shuf c.length s).1.length=_ at D;change ∀x∈(shuf c.length s).1,_ at e
 have E:gR (jr .own (qx c (shuf c.length s).1 3)++[I (shuf c.length s).2]):=aZ (Fu _) ⟨trivial,trivial⟩;generalize shuf c.length s=q at *;obtain⟨p,z⟩:=q;simp only at *;have F:((p.length:Nat):Int).tdiv 2=((p.length / 2:Nat):Int):=by rw[Int.tdiv_eq_ediv_of_nonneg ω];omega
 have g:C.s dK.own ((nq c.length []).map (rB .own))=C.s dK.own (List.replicate c.length [B false]):=by rw[MY]
 have h:∀i:Nat,i<p.length->0<=nth p i/\nth p i<c.length:=λi R=>e _ (am R)
 refine fO 110 [(15,21,[73,74,75,76,77,78,79,80,81,82,83,84,85,86,87,88,89,90,91,92,93])] Tryz.func290 rfl ?_ (.inr E)
 repeat'(first|refine gD ?_|(conv=>whnf);first|with_reducible refine CL ((U0 _ F).trans (eE ω ω)) ?_|refine C7 (J) ?_|refine C7 (K) ?_|refine C7 (Q) ?_|refine CN (by decide) ?_|refine Mk.mk c.length rfl rfl ω (yM ω (by decide)) rfl ?_)
 (conv=>whnf)
 refine CE (ι:=Nat) (λt=>[(0,.H .one (cz .X c)),(2,.H .one [I (3)]),(8,.H .one (jr .own (qx c p t))),(9,.H .one (aG .own p)),(10,.H .one [I (z)]),(11,.H .one [I (((p.length / 2):Nat):Int)]),(12,.H .one (A9 .own (nq c.length (qx c p t)))),(13,.H .one [I ((t:Nat):Int)])]) (λt=>t<=3) (λt=>3 - t) (0) ?_ (T0 _) λt S=>?_
 ·repeat'(first|exact trivial|rfl |exact o6 g|refine CK ?_ ?_|(exact DY (by first|omega|(simp only;omega)|(simp;omega))))
 have W:=Dg c p t;have ol2:t*(p.length / 2)<=3*8:=Nat.mul_le_mul S ω;by_cases X:t<3
 ·repeat'(first|refine gD ?_|fail)
  (conv=>whnf)
  refine CE (ι:=Nat) (λj=>[(0,.H .one (cz .X c)),(2,.H .one [I (3)]),(8,.H .one (jr .own (uE c p t (qx c p t) j))),(9,.H .one (aG .own p)),(10,.H .one [I (z)]),(11,.H .one [I (((p.length / 2):Nat):Int)]),(12,.H .one (A9 .own (nq c.length (uE c p t (qx c p t) j)))),(13,.H .one [I ((t:Nat):Int)]),(14,.H .one [I ((j:Nat):Int)])]) (λj=>j<=p.length / 2) (λj=>p.length / 2 - j) (0) ?_ (T0 _) λj Y=>?_
  ·repeat'(first|exact trivial|rfl |exact o6 g|refine CK ?_ ?_|(exact DY (by first|omega|(simp only;omega)|(simp;omega))))
  have Z:=vz c p t (qx c p t) j;by_cases lj:j<p.length / 2
  ·have L:(j+t) % (p.length - p.length / 2)<p.length - p.length / 2:=Nat.mod_lt _ ω
   have G:((j:Int)+t).tmod ((p.length:Int) - (p.length / 2:Nat))=(((j+t) % (p.length - p.length / 2):Nat):Int):=by
    rw[eR ω,Int.natCast_emod];congr 1;omega
   have d:uE c p t (qx c p t) (j+1)=stp c p t j (uE c p t (qx c p t) j):=rfl;unfold stp at d;generalize uE c p t (qx c p t) j=out at *;have l:p.length / 2+(j+t) % (p.length - p.length / 2)<p.length:=ω
   generalize hk:(j+t) % (p.length - p.length / 2)=k at *;have n:=ao (xs:=p) (i:=j) ω;have o:=ao (xs:=p) (i:=p.length / 2+k) l;have w:=h j ω;have r:=h _ l;generalize nth p j=a at *;generalize nth p (p.length / 2+k)=b at *;have y:=Gt (out:=out) w;have H:=Gt (out:=out) r;have T:=ao (xs:=c) (i:=a.toNat) ω;have U:=ao (xs:=c) (i:=b.toNat) ω;have M:=lw (nth c a.toNat) (nth c b.toNat);have ub2:=J0 (xs:=nq c.length out) (i:=a.toNat) (k:=b.toNat) true (by simp[nq];omega);cases N:tkn out a<;>cases O:tkn out b<;>cases P:meshable (nth c a.toNat) (nth c b.toNat)
   all_goals
    rw[N]at y;rw[O]at H;rw[P]at M;rw[N,O,P]at d;simp only[and_true,true_and,if_true,Bool.false_eq_true,Bool.true_eq_false,and_false,false_and,if_false]at d
    repeat'(first|refine gD ?_|(conv=>whnf);first|refine CS G ?_|refine CN ω ?_|refine CC (aa n) ?_|refine CM ω (aa o) ?_|refine CM w.1 (aa y) ?_|refine CM r.1 (aa H) ?_|refine CM w.1 (aa T) ?_|refine CM r.1 (aa U) ?_|refine CH rfl (aa n) rfl ?_|refine CH rfl (aa o) rfl ?_|refine CH rfl (aa y) rfl ?_|refine CH rfl (aa H) rfl ?_|refine C7 (M) ?_|refine CB ?_|refine CO rfl rfl (aa y) rfl (Z0 rfl) rfl ?_|refine CM r.1 ub2 ?_|refine CO rfl rfl ub2 rfl (Z0 rfl) rfl ?_|refine Ap.sm (aQ λ_=>rfl) rfl (by simp;omega) (by decide) (iF (gc.enc .own) out ⟨a,b⟩) ?_)
    ((conv=>whnf);refine CD (j+1) ω ω ?_)
    rw[d]
    first|(rw[Ld w r];simp only[A9,W5])|skip
    exact wB
  obtain rfl:j=p.length / 2:=ω
  repeat'(first|refine gD ?_|fail)
  ((conv=>whnf);refine CD (t+1) ω ω ?_;(exact wB))
 obtain rfl:t=3:=ω
 repeat'(first|refine gD ?_|fail)
 rfl
theorem Gc(x:List gc):dP (jr .own x)=jr .X x:=by simp[dP,jr,gc.enc,<-bZ,T5]
theorem ar.fzR{P:Program}{f:Nat}{sh:Bool}{A:List RA}{k:Kd}{rcs:List C}(h:ar P f sh A k rcs):ar P f sh A k (dP rcs):=by
 obtain⟨c,d⟩:=h;refine⟨c,λw S g i j=>(d w S g i j).mono λe w1 l=>?_⟩;obtain⟨v,n,p,X,q,r,t,B,u,y⟩:=l;refine⟨v,n,p,NO,λb o=>q b o\/X b o,λ_ _ h=>h.elim,λb o a=>?_,λ_ _ h=>h.elim,by rw[bZ,X0];exact u,y.freeze⟩;rcases a with a|a
 ·exact t b o a
 exact .inr (r b o a)
structure Nk(ls:List ax)(q:gc):Prop where
 a:0<=q.A/\q.A<ls.length
 b:0<=q.B/\q.B<ls.length
 m:meshable (nth ls q.A.toNat) (nth ls q.B.toNat)=true
theorem Hb{b:List ax}{p:List Int}(c:∀x∈p,0<=x/\x<b.length)(t:Nat){out:List gc}(d:∀q∈out,Nk b q):∀{i:Nat},i<=p.length / 2->∀q∈uE b p t out i,Nk b q
 | 0,_=>d
 | i+1,h=>λq a=>by
  have e:=Hb c t d (i:=i) ω;simp only[uE,stp]at a;split at a
  ·rename_i g
   rcases U2.1 a with a|a
   ·exact e q a
   obtain rfl:=C1.1 a;have f:(i+t) % (p.length - p.length / 2)<p.length - p.length / 2:=Nat.mod_lt _ ω;exact⟨c _ (am ω),c _ (am ω),g.2.2⟩
  exact e q a
theorem GE{a:List ax}{p:List Int}(b:∀x∈p,0<=x/\x<a.length):∀t,∀q∈qx a p t,Nk a q
 | 0=>λq c=>by cases c
 | t+1=>Hb b t (GE b t) (W2 _)
theorem nl(a:List ax){s:Int}(b:0<=s/\s<=1073741823):∀q∈lh a s,Nk a q:=GE (sC a.length b (W2 _)) 3
theorem MO(s:ax)(n:Nat):(tz s n).Pairwise (· < ·):=by
 unfold tz;rw[List.pairwise_map];exact(List.pairwise_lt_range.sublist List.filter_sublist).imp λh=>ω
theorem Qb{s:ax}{n:Nat} : ∀z∈tz s n,0<=z/\z<n:=λz a=>by
 unfold tz at a;simp only[C4,I4,List.mem_range]at a;obtain⟨c,⟨b,-⟩,rfl⟩:=a;omega
theorem vC(s:ax):cR (tz s 16).length (lB (tz s 16))=true:=by
 refine cH.2 λj a=>?_
 have c:=Qb _ (am a);unfold lB;refine O0 ⟨ω,ω,?_⟩;by_cases e:j=0
 ·exact .inl e
 refine .inr ?_;have b:=List.pairwise_iff_getElem.1 (MO s 16) (j - 1) j ω a ω;rw[show nth (tz s 16) (j - 1)=(tz s 16)[j - 1] from bc (W1 ω),show nth (tz s 16) j=(tz s 16)[j] from bc (W1 a)];exact b
theorem sR{a b:ax}(c:meshable a b=true):ew (dc a b)=true/\bg a=true/\bg b=true:=by
 unfold meshable at c;simp only[I0,C0]at c;have d:=aC c.1.1;have e:=aC c.1.2;refine⟨?_,c.1⟩;unfold dc ew;split
 ·simp only[I0,C0];exact⟨vC a,ω⟩
 simp only[I0,C0];exact⟨vC b,ω⟩
theorem FB(a b:ax):cM.sml (dc a b):=by
 have c:=qF a 16;have d:=qF b 16;unfold dc cM.sml qQ;split<;>simp only<;>omega
def bB(h:ab):List ax:=(m7 h).take 16
def started(h:ab):ab × Bool:=match lh (bB h) h.c0 with
 | []=>({h with c0:=(shuf (bB h).length h.c0).2},false)
 | q::_=>({h with c0:=(shuf (bB h).length h.c0).2,u:=true,Y:=sE (dc (nth (bB h) q.A.toNat) (nth (bB h) q.B.toNat))},true)
theorem Lh{h:ab}{E:List Int}(a:aV h E):h.M.length<=32/\eM h<=32/\xD h/\∀s∈h.M,s.b1<=9223372036854775807:=by
 have b:=a.lens;refine⟨b.spans,b.ents,?_,λs c=>by have:=eC (a.L.sok s c);omega⟩;have:=(bH a.ker).1.2;exact this
theorem Ge(h:ab):(bB h).length<=16:=by unfold bB;rw[O1];omega
theorem PQ(x:List gc)(z:Int):dP (jr .own x++[I z])=jr .X x++[I z]:=by
 have h:=Gc x;rw[bZ]at h |-;rw[R5,h];simp[fz]
theorem PK(h:ab):(bB h).map (ax.enc .X)=((m7 h).map (ax.enc .X)).take 16:=Y3
theorem FN(p:cM)(b:ew p=true)(c:cM.sml p):ar Tryz.prog 292 false [.val (some 3) (cM.enc .X p)] (.tup [some 5,none]) (vc (sE p)++[B true]):=by
 have h:=(BR p b c).fzR;have e:dP (cK.enc .own (sE p)++[B true])=vc (sE p)++[B true]:=by
  have a:=cK.enc_fz (sE p);rw[bZ]at a |-;rw[R5,a];simp[fz,cK.enc,vc]
 rwa [e]at h
theorem yl(h:ab)(w:aV h []):aS Tryz.prog 130 false [.ptr (bz h)] [.ptr (bz (started h).1)] .one [B (started h).2]:=by
 obtain⟨w1,Q,H,J⟩:=Lh w;have a:=w.nums;unfold cg at a;rw[C0]at a;have e:=(wo h H ω ω J).fzR;rw[wM]at e;have o:=Ge h;have b:=(uD (bB h) h.c0 ⟨a.1,a.2.1⟩ o).fzR;rw[PQ]at b;have g:=nl (bB h) ⟨a.1,a.2.1⟩;have K:=wN h h.M.length;have y:(m7 h).length<=32:=by unfold m7;omega
 have j:=PK h;unfold started;cases C:lh (bB h) h.c0 with
 | nil=>
  rw[C]at b;by_cases L:16<(m7 h).length
  ·refine fM 62 [] [(8,275,[34,35,36,37,38,39,40,41,42,43,44,45,46,47,48,33,49,50,6,0,1,2,3,4,5,6,7,8,9,10,11,12,13,14,15,16,17,18,19,1017,20])] [(0,0)] Tryz.func130 rfl (λu q=>?_)
   repeat'(first|refine gD ?_|(conv=>whnf);first|refine CB ?_|refine CG (e) ⟨⟨rfl,bD h⟩,trivial⟩ ?_|refine C7 (b) ?_|refine CV 16 rfl (by rw[X0];omega) (aQ λ_=>rfl) j ?_)
   refine CF rfl rfl ?_;exact wC
  have k:bB h=m7 h:=by unfold bB;exact U6 ω
  rw[k]at b;refine fM 62 [] [(8,275,[34,35,36,37,38,39,40,41,42,43,44,45,46,47,48,33,49,50,6,0,1,2,3,4,5,6,7,8,9,10,11,12,13,14,15,16,17,18,19,1017,20])] [(0,0)] Tryz.func130 rfl (λu q=>?_);rw[k]
  repeat'(first|refine gD ?_|(conv=>whnf);first|refine CB ?_|refine CG (e) ⟨⟨rfl,bD h⟩,trivial⟩ ?_|refine C7 (b) ?_)
  refine CF rfl rfl ?_;exact wC
 | cons q M=>
  rw[C]at b g;obtain⟨E,F,G⟩:=g q (R1 ..);obtain⟨N,O,P⟩:=sR G;have p:=xF _ _ G O P;have t:=FN _ N (FB _ _);have c:=ao (xs:=bB h) (i:=q.A.toNat) ω;have d:=ao (xs:=bB h) (i:=q.B.toNat) ω;have l:(q::M)[0]? = some q:=rfl;by_cases L:16<(m7 h).length
  ·refine fM 62 [] [(8,275,[34,35,36,37,38,39,40,41,42,43,44,45,46,47,48,33,49,50,6,0,1,2,3,4,5,6,7,8,9,10,11,12,13,14,15,16,17,18,19,1017,20])] [(0,0)] Tryz.func130 rfl (λu r=>?_)
   repeat'(first|refine gD ?_|(conv=>whnf);first|with_reducible refine Bf.D (λn=>absurd n (by simp)) (λn=>?_)|refine CB ?_|refine CG (e) ⟨⟨rfl,bD h⟩,trivial⟩ ?_|refine C7 (b) ?_|refine CV 16 rfl (by rw[X0];omega) (aQ λ_=>rfl) j ?_|refine CM (by decide) (aa l) ?_|refine CM E.1 (aa c) ?_|refine CM F.1 (aa d) ?_|refine C7 (p) ?_|refine CG (t) ⟨⟨rfl,cM.enc_fz _⟩,trivial⟩ ?_|refine CB ?_)
   refine CF rfl rfl ?_;exact wC
  have k:bB h=m7 h:=by unfold bB;exact U6 ω
  rw[k]at b p t c d;refine fM 62 [] [(8,275,[34,35,36,37,38,39,40,41,42,43,44,45,46,47,48,33,49,50,6,0,1,2,3,4,5,6,7,8,9,10,11,12,13,14,15,16,17,18,19,1017,20])] [(0,0)] Tryz.func130 rfl (λu r=>?_);rw[k]
  repeat'(first|refine gD ?_|(conv=>whnf);first|with_reducible refine Bf.D (λn=>absurd n (by simp)) (λn=>?_)|refine CB ?_|refine CG (e) ⟨⟨rfl,bD h⟩,trivial⟩ ?_|refine C7 (b) ?_|refine CM (by decide) (aa l) ?_|refine CM E.1 (aa c) ?_|refine CM F.1 (aa d) ?_|refine C7 (p) ?_|refine CG (t) ⟨⟨rfl,cM.enc_fz _⟩,trivial⟩ ?_|refine CB ?_)
  refine CF rfl rfl ?_;exact wC
def bY(k:ah):ah:={k with Calls:=k.Calls+1}
def refd(k:ah):Bool:=decide (k.Calls∈k.y)
def iQ(k:ah)(p:Int)(m:Int):ah:={k with F:=⟨k.F.V,⟨k.F.R.J.set p.toNat {nth k.F.R.J p.toNat with j:=m}⟩⟩}
def jG(k:ah)(p m:Int):ah × Bool:=if refd k=true then(bY k,false) else(iQ (bY k) p m,true)
theorem Jv(k:ah)(p m:Int):ah.enc .own (iQ k p m)=(ah.enc .own k).set 2 (.s .own ((k.F.R.J.map (bi.enc .own)).set p.toNat (bi.enc .own {nth k.F.R.J p.toNat with j:=m}))):=by
 simp[ah.enc,iQ,W5]
theorem row16{k:ah}(a:a7 k=true){f:Nat}(b:f<k.F.V.S.length):(nth k.F.V.S f).length=16:=by
 have:=(aW.1 (aD.1 a).2.1).2.2.2 f b;unfold gF at this;simp only[I0,C0]at this;omega
def setCell(k:ah)(f:Nat)(c v:Int):ah:={k with F:=⟨⟨k.F.V.S.set f ((nth k.F.V.S f).set c.toNat v),k.F.V.a9⟩,k.F.R⟩}
theorem EA(k:ah)(f:Nat)(c v:Int):ah.enc .own (setCell k f c v)=(ah.enc .own k).set 0 (.s .own ((k.F.V.S.map (aG .own)).set f [.s .own (((nth k.F.V.S f).map (rI .own)).set c.toNat [I v])])):=by
 simp[ah.enc,setCell,W5,aG,rI]
def bG(k:ah)(p:Int):Nat:=(ac k.F.R p).e.toNat
def qN(k:ah)(a b c:Int):ah:=setCell k (bG k b) c (nth (nth k.F.V.S (bG k a)) c.toNat)
def Po(k:ah)(a b c:Int):Nat->ah
 | 0=>k
 | _+1=>qN k a b c
def ux(k:ah)(p:Nat)(e:bi):ah:={k with F:=⟨k.F.V,⟨k.F.R.J.set p e⟩⟩}
theorem Lo(k:ah)(p:Nat)(e:bi):ah.enc .own (ux k p e)=(ah.enc .own k).set 2 (.s .own ((k.F.R.J.map (bi.enc .own)).set p (bi.enc .own e))):=by
 simp[ah.enc,ux,W5]
theorem K7{k:ah}(p:Nat)(e:bi)(h:aH.sml k.F.R):aH.sml (ux k p e).F.R:=by
 refine⟨?_,λx _=>trivial⟩;show(k.F.R.J.set p e).length<=_;rw[I1];exact h.1
def uo(k:ah)(p o:Int):ah × Bool:=if refd k=true then(bY k,false) else(gH (ux (bY k) p.toNat ⟨2,(nth k.F.R.J o.toNat).e⟩) (nth k.F.R.J p.toNat).e,true)
def iJ(m:aU)(a v:Int):aU × Int:=
 if(ac m.R (a / 16)).j=0 then(m,1) else if(ac m.R (a / 16)).j=1 then(m,2) else
 (⟨⟨m.V.S.set (ac m.R (a / 16)).e.toNat ((nth m.V.S (ac m.R (a / 16)).e.toNat).set (a % 16).toNat v),m.V.a9⟩,m.R⟩,0)
theorem FQ(m:aU)(f:Nat)(c v:Int):aU.enc .own ⟨⟨m.V.S.set f ((nth m.V.S f).set c.toNat v),m.V.a9⟩,m.R⟩ = (aU.enc .own m).set 0 (.s .own ((m.V.S.map (aG .own)).set f [.s .own (((nth m.V.S f).map (rI .own)).set c.toNat [I v])])):=by
 simp[aU.enc,W5,aG,rI]
def jmay(k:ah)(j:cK):Bool:=(a7 k&&decide (k.Calls≠100000))&&(jx j&&decide ((ac k.F.R j.W.a4).j≠0/\(ac k.F.R j.W.a1).j≠0/\(ac k.F.R j.W.a4).e≠(ac k.F.R j.W.a1).e))
def jstep(k:ah)(j:cK):ah × cK:=
 if j.b2=0 then((jG k j.W.a1 1).1,{j with b2:=if(jG k j.W.a1 1).2=true then 1 else 5})
 else if j.b2=1 then(if j.a=j.W.S.length then(k,{j with b2:=2}) else(qN k j.W.a1 j.W.a4 (nth j.W.S j.a.toNat),{j with a:=j.a+1}))
 else if j.b2=2 then((uo k j.W.a1 j.W.a4).1,{j with b2:=if(uo k j.W.a1 j.W.a4).2=true then 4 else 3})
 else if j.b2=3 then(if 0<j.a then({k with F:=(iJ k.F (j.W.a4*16+nth j.W.S (j.a - 1).toNat) 0).1},{j with a:=j.a - 1}) else((jG k j.W.a1 2).1,{j with b2:=if(jG k j.W.a1 2).2=true then 5 else 3}))
 else(k,j)
theorem KV{k:ah}{f:Int}(h1:∀j,j<k.y.length->0<=nth k.y j)(d:dv k.F.V=true)(g:fY k.F.R k.F.V.a9.length=true)(h:∀j:Nat,j<k.F.V.a9.length->(j:Int)≠f->nth k.F.V.a9 j=decide (0<(pagesOn k.F.R (j:Int)).length))(t:0<=f/\f<k.F.V.a9.length)(l:nth k.F.V.a9 f.toNat=true)(i:0<=k.Calls/\k.Calls<=100000/\k.y.length<=40):a7 (gH k f)=true:=by
 obtain⟨n,o,p,q⟩:=aW.1 d;unfold gH;split
 ·rename_i c
  rw[aD];simp only[I1];refine⟨h1,?_,g,λj b=>?_,i⟩
  ·rw[aW]
   simp only[I1,bA];refine⟨n,o,p,λj b=>?_⟩;by_cases a:f.toNat=j
   ·rw[C9 ⟨a,b⟩,C9 ⟨a,ω⟩];decide
   rw[C8 (λe=>a e.1),C8 (λe=>a e.1)];exact q j b
  rw[bA];by_cases a:f.toNat=j
  ·rw[C9 ⟨a,b⟩]
   have:(j:Int)=f:=ω
   rw[this];exact(R0 λr=>absurd c (Nat.ne_of_gt r)).symm
  rw[C8 (λe=>a e.1)];exact h j b ω
 rename_i c;rw[aD];refine⟨h1,d,g,λj b=>?_,i⟩;by_cases a:(j:Int)=f
 ·rw[a,show j=f.toNat by omega,l]
  exact(O0 (Nat.pos_of_ne_zero c)).symm
 exact h j b a
def tEq(t a:aH):Prop:=a.J.length=t.J.length/\∀q:Nat,((nth a.J q).j≠0↔(nth t.J q).j≠0)/\(nth a.J q).e=(nth t.J q).e
theorem tEq.refl(t:aH):tEq t t:=⟨rfl,λ_=>⟨Iff.rfl,rfl⟩⟩
theorem tEq.of{t a:aH}(h:a=t):tEq t a:=by rw[h];exact tEq.refl t
theorem tEq.pagesOn{t a:aH}(h:tEq t a)(f:Int):Ab.pagesOn a f=Ab.pagesOn t f:=by
 unfold Ab.pagesOn j9;rw[h.1]
 congr 1
 refine List.filter_congr λq _=>?_
 obtain⟨b,c⟩:=h.2 q;unfold JE;rw[c];exact decide_eq_decide.2 (and_congr b Iff.rfl)
theorem AQ{k:ah}(h:a7 k=true){a:aH}(c:tEq k.F.R a)(i:∀q,q<a.J.length->0<=(nth a.J q).j/\(nth a.J q).j<=2):a7 {k with F:=⟨k.F.V,a⟩} = true:=by
 obtain⟨l,n,o,p,r⟩:=aD.1 h;obtain⟨t,u,w⟩:=bx.1 o;rw[aD];refine⟨l,n,bx.2 ⟨λj b=>?_,?_,?_⟩,λj b=>?_,r⟩
 ·replace b:j<a.J.length:=b
  have e:=t j (by rw[<-c.1];exact b);have d:=i j b;obtain⟨g,y⟩:=c.2 j;show jS _ (nth a.J j)=true;unfold jS at e |-;rw[C0]at e |-;rw[y];refine⟨d.1,d.2,λf=>e.2.2.1 (Classical.byContradiction λA=>(g.2 A) f),λf=>e.2.2.2 (g.1 f)⟩
 ·show 1<=a.J.length;rw[c.1];exact u
 ·show a.J.length<=32;rw[c.1];exact w
 show nth k.F.V.a9 j=decide (0<(Ab.pagesOn a (j:Int)).length);rw[c.pagesOn];exact p j b
theorem ml{k:ah}(h:a7 k=true)(f:k.Calls≠100000):a7 (bY k)=true:=by
 obtain⟨a,b,c,d,g,i,e⟩:=aD.1 h;rw[aD];exact⟨a,b,c,d,by show 0<=k.Calls+1;omega,by show k.Calls+1<=100000;omega,e⟩
theorem sA{k:ah}{p m:Int}(a:(nth k.F.R.J p.toNat).j≠0)(b:m=1\/m=2):tEq k.F.R (iQ k p m).F.R:=by
 refine⟨by simp[iQ],λq=>?_⟩;simp only[iQ,bA];split
 ·rename_i e
  rw[<-e.1];exact⟨⟨λ_=>a,λ_=>by show m≠0;omega⟩,rfl⟩
 exact⟨Iff.rfl,rfl⟩
theorem Mw{k:ah}(h:a7 k=true){p m:Int}(d:(nth k.F.R.J p.toNat).j≠0)(a:m=1\/m=2):a7 (iQ k p m)=true:=by
 refine AQ h (sA d a) λq e=>?_
 obtain⟨i,j,f,l,n⟩:=aD.1 h;obtain⟨g,o,r⟩:=bx.1 f;have c:q<k.F.R.J.length:=by rw[<-(sA d a).1];exact e
 have b:=g q c;unfold jS at b;rw[C0]at b;simp only[bA];split
 ·show 0<=m/\m<=2;omega
 exact⟨b.1,b.2.1⟩
theorem BW{k:ah}{p m:Int}(h:a7 k=true)(c:k.Calls≠100000)(b:(ac k.F.R p).j≠0)(a:m=1\/m=2):a7 (jG k p m).1=true/\tEq k.F.R (jG k p m).1.F.R:=by
 obtain⟨e,f,d,-⟩:=bX h b;rw[d]at b;unfold jG;split
 ·exact⟨ml h c,tEq.refl _⟩
 exact⟨Mw (ml h c) b a,sA (k:=bY k) b a⟩
theorem gg{k:ah}(h:a7 k=true){p:Int}(b:(ac k.F.R p).j≠0):bG k p<k.F.V.S.length/\nth k.F.V.a9 (bG k p)=true/\((bG k p:Nat):Int)=(nth k.F.R.J p.toNat).e:=by
 obtain⟨f,g,a,i,j⟩:=bX h b;obtain⟨l,d,n,e,o⟩:=aD.1 h;obtain⟨q,r,t,u⟩:=aW.1 d;have c:((bG k p:Nat):Int)=(ac k.F.R p).e:=by unfold bG;omega
 refine⟨ω,?_,by rw[c,a]⟩;rw[e _ ω,c];refine O0 (dL.2 ⟨p.toNat,ω,?_,?_⟩)
 ·rw[<-a];exact b
 rw[<-a]
theorem Ll{k:ah}(h:a7 k=true){f:Nat}{a:List Int}(c:a.length=16)(d:∀v∈a,0<=v/\v<=999)(g:nth k.F.V.a9 f=true):a7 {k with F:=⟨⟨k.F.V.S.set f a,k.F.V.a9⟩,k.F.R⟩} = true:=by
 obtain⟨i,l,n,o,p⟩:=aD.1 h;obtain⟨q,r,t,u⟩:=aW.1 l;refine aD.2 ⟨i,aW.2 ⟨?_,?_,?_,λj b=>?_⟩,n,o,p⟩
 ·simp only[I1];exact q
 ·simp only[I1];exact r
 ·simp only[I1];exact t
 simp only[I1]at b |-;simp only[bA];split
 ·rename_i e
  obtain⟨rfl,-⟩:=e;unfold gF;simp only[I0,C0,W3];refine⟨c,λv w=>?_⟩;have:=d v w;unfold ij;simp[g,this]
 exact u j b
theorem sN{k:ah}(h:a7 k=true){f:Nat}(b:f<k.F.V.S.length):(nth k.F.V.S f).length=16/\∀v∈nth k.F.V.S f,0<=v/\v<=999:=by
 obtain⟨g,c,i,j,l⟩:=aD.1 h;obtain⟨n,o,p,d⟩:=aW.1 c;have a:=d f b;unfold gF at a;simp only[I0,C0,W3]at a;refine⟨a.1,λv e=>?_⟩;have:=a.2 v e;unfold ij at this;simp only[I0,C0]at this;exact this.1
theorem qi{k:ah}(h:a7 k=true){f:Nat}(b:f<k.F.V.S.length)(d:nth k.F.V.a9 f=true){c v:Int}(e:0<=v/\v<=999):a7 (setCell k f c v)=true:=by
 obtain⟨g,i⟩:=sN h b;refine Ll h (by rw[I1];exact g) (λz a=>?_) d;rcases Z5 a with a|rfl
 ·exact i z a
 exact e
theorem Ly{k:ah}(h:a7 k=true){a b c:Int}(d:(ac k.F.R a).j≠0)(e:(ac k.F.R b).j≠0)(l:0<=c/\c<=15):a7 (qN k a b c)=true:=by
 obtain⟨f,n,-⟩:=gg h d;obtain⟨g,i,-⟩:=gg h e;obtain⟨o,j⟩:=sN h f;exact qi h g i (j _ (am ω))
theorem Mv{k:ah}{p o:Int}(h:a7 k=true)(u:k.Calls≠100000)(i:(ac k.F.R p).j≠0)(d:(ac k.F.R o).j≠0)(w:p≠o):a7 (uo k p o).1=true:=by
 unfold uo;split
 ·exact ml h u
 obtain⟨O,y,A⟩:=gg h i;obtain⟨P,Q,R⟩:=gg h d;obtain⟨S,T,B,r,t⟩:=bX h i;obtain⟨U,V,C,D,E⟩:=bX h d;obtain⟨F,G,H,J,W,X,K⟩:=aD.1 h;obtain⟨L,M,N⟩:=bx.1 H;rw[C]at D E d;rw[B]at r t i;have a:∀q,nth (k.F.R.J.set p.toNat ⟨2,(nth k.F.R.J o.toNat).e⟩) q=if p.toNat=q then⟨2,(nth k.F.R.J o.toNat).e⟩ else nth k.F.R.J q:=λq=>by
  rw[bA];by_cases f:p.toNat=q
  ·rw[C9 ⟨f,ω⟩,C9 f]
  rw[C8 (λe=>f e.1),C8 f]
 refine KV F G (bx.2 ⟨λj c=>?_,?_,?_⟩) (λj c l=>?_) ⟨r,t⟩ (by rw[<-A];exact y) ⟨by show 0<=k.Calls+1;omega,by show k.Calls+1<=100000;omega,K⟩
 ·simp only[ux,bY,I1]at c |-
  rw[a];split
  ·unfold jS;rw[C0];simp only;omega
  exact L j c
 ·simp only[ux,bY,I1];exact M
 ·simp only[ux,bY,I1];exact N
 replace c:j<k.F.V.a9.length:=c;show nth k.F.V.a9 j=_;rw[J j c];refine decide_eq_decide.2 ?_;rw[dL,dL];simp only[ux,bY,I1,a];constructor
 ·rintro⟨q,n,g,b⟩
  refine⟨q,n,?_⟩;rw[C8 (λe=>l (by rw[<-b,<-e]))];exact⟨g,b⟩
 rintro⟨q,n,g,b⟩
 by_cases e:p.toNat=q
 ·rw[C9 e]at b
  exact⟨o.toNat,ω,d,b⟩
 rw[C8 e]at g b;exact⟨q,n,g,b⟩
theorem GH{k:ah}{p o:Int}(h:a7 k=true)(b:(ac k.F.R p).j≠0)(a:(uo k p o).2=true)(q:Nat):(uo k p o).1.F.R.J.length=k.F.R.J.length/\nth (uo k p o).1.F.R.J q=if(q:Int)=p then⟨2,(nth k.F.R.J o.toNat).e⟩ else nth k.F.R.J q:=by
 obtain⟨d,f,-⟩:=bX h b;unfold uo at a |-;split at a
 ·cases a
 rename_i c;rw[C8 c];simp only[(me _ _).1];simp only[ux,bY,I1,bA];refine⟨trivial,?_⟩;by_cases e:(q:Int)=p
 ·rw[C9 ⟨ω,ω⟩,C9 e]
 rw[C8 λz=>e ω,C8 e]
theorem Mc{k:ah}{p o:Int}(a:(uo k p o).2=false):(uo k p o).1=bY k:=by
 unfold uo at a |-;split
 ·rfl
 rename_i b;rw[C8 b]at a;cases a
theorem HU{k:ah}{a v:Int}(h:a7 k=true)(g:0<=a)(b:0<=v/\v<=999):a7 {k with F:=(iJ k.F a v).1} = true/\(iJ k.F a v).1.R=k.F.R:=by
 unfold iJ;split
 ·exact⟨h,rfl⟩
 rename_i d;split
 ·exact⟨h,rfl⟩
 obtain⟨e,f,-⟩:=gg h d;exact⟨qi h e f (c:=a % 16) b,rfl⟩
def n7(t:aH)(p:Int):Prop:=∀q:Nat,(nth t.J q).j≠0->(nth t.J q).e=(nth t.J p.toNat).e->(q:Int)=p
structure JI(h:ab):Prop where
 ph:h.u=true->0<=h.Y.b2/\h.Y.b2<=3
 sp:h.u=true->∃a∈h.M,∃b∈h.M,a.Q=h.Y.W.a4/\b.Q=h.Y.W.a1/\meshable a b=true
 sk:h.u=true->n7 (tbl h) h.Y.W.a4
 sm:h.u=true->n7 (tbl h) h.Y.W.a1
theorem n7.tEq{t a:aH}{p:Int}(h:n7 t p)(b:tEq t a):n7 a p:=λq c d=>by
 obtain⟨e,f⟩:=b.2 q;exact h q (e.1 c) (by rw[<-f,<-(b.2 p.toNat).2];exact d)
theorem Pg.tEq{t b:aH}{c:List aA}{sp:List ax}{la:List a8}(h:Pg t c sp la)(a:tEq t b):Pg b c sp la where
 one l hl p hp q hq h1 h2:=h.one l hl p hp q (by rw[<-a.1];exact hq) ((a.2 q).1.1 h1) (by rw[<-(a.2 q).2,<-(a.2 p).2];exact h2)
 bnd p hp:=by rw[a.1];exact h.bnd p hp
 own p hp:=(a.2 p).1.trans (h.own p (by rw[<-a.1];exact hp))
 fre p hp:=(a.2 p).1.trans (h.fre p (by rw[<-a.1];exact hp))
 mesh s hs u hu hne hf:=h.mesh s hs u hu hne (by rw[<-(a.2 _).2,<-(a.2 u.Q.toNat).2];exact hf)
theorem aV.step{h:ab}{E:List Int}(a:aV h E){k:ah}(b:a7 k=true)(c:k.F.R.J.length=(tbl h).J.length)(d:Pg k.F.R h.q h.M h.K){j:cK}{m:Bool}(h1:m=true->jx j=true/\(∃s∈h.M,s.Q=j.W.a4)/\∃s∈h.M,s.Q=j.W.a1)(e:m=false->qO j=true):aV {h with G:=k,u:=m,Y:=j} E:=
 {a with
   ker:=b
   rng:=by show b9 ((k.F.R.J.length:Nat):Int) h.q=true;rw[c];exact a.rng
   pg:=d
   job:=h1
   noj:=e}
theorem rT.apart{sp:List ax}{la:List a8}(b:rT sp la){s:ax}(c:s∈sp){l:a8}(d:l∈la){p:Int}(a:p∈lpgs l l.a2.toNat):s.Q≠p:=by
 unfold lpgs at a;simp only[C4,List.mem_range]at a;obtain⟨k,e,rfl⟩:=a;exact b.dis s c l d k e
theorem Pg.on{t H:aH}{Q:List aA}{sp:List ax}{la:List a8}(h:Pg t Q sp la)(r:rT sp la){a b:ax}(w:a∈sp)(L:b∈sp)(R:meshable a b=true)(A:n7 t a.Q)(M:(nth t.J a.Q.toNat).j≠0)(N:(nth t.J b.Q.toNat).j≠0)(U:0<=b.Q)(J:H.J.length=t.J.length)(B:∀q:Nat,nth H.J q=if(q:Int)=b.Q then⟨2,(nth t.J a.Q.toNat).e⟩ else nth t.J q):Pg H Q sp la:=by
 have c:∀q:Nat,(nth H.J q).j≠0↔(nth t.J q).j≠0:=λq=>by
  rw[B];split
  ·rename_i e
   rw[show q=b.Q.toNat by omega];exact⟨λ_=>N,λ_=>by show(2:Int)≠0;omega⟩
  rfl
 have V:0<=a.Q:=by have:=r.sok a w;unfold bg at this;rw[C0]at this;omega
 refine⟨λl k p g q W S C=>?_,λp g=>by rw[J];exact h.bnd p g,λp g=>(c p).trans (h.own p (by rw[<-J];exact g)),λp g=>(c p).trans (h.fre p (by rw[<-J];exact g)),λs D u E F n=>?_⟩
 ·have O:¬(p:Int)=b.Q:=λe=>r.apart L k g e.symm
  rw[B p,C8 O,B q]at C;rw[c]at S;by_cases e:(q:Int)=b.Q
  ·rw[C9 e]at C
   have T:=h.one l k p g a.Q.toNat (by have:=h.bnd _ (dx (la:=la) w);omega) M C;exact absurd (show a.Q=(p:Int) by omega) (r.apart w k g)
  rw[C8 e]at C;exact h.one l k p g q (by rw[<-J];exact W) S C
 have X:0<=s.Q:=by have:=r.sok s D;unfold bg at this;rw[C0]at this;omega
 have Y:0<=u.Q:=by have:=r.sok u E;unfold bg at this;rw[C0]at this;omega
 have d:∀x∈sp,∀y∈sp,x.Q=y.Q->x=y:=λx G y Z e=>by
  obtain⟨i,hi,rfl⟩:=aJ G;obtain⟨j,hj,rfl⟩:=aJ Z;rw[cE (f:=(·.Q)) r.nd hi hj e]
 have o:∀x∈sp,(nth t.J x.Q.toNat).j≠0:=λx G=>by
  have hx0:0<=x.Q:=by have:=r.sok x G;unfold bg at this;rw[C0]at this;omega
  refine(h.own x.Q.toNat (by have:=h.bnd _ (dx (la:=la) G);omega)).2 ?_;rw[show((x.Q.toNat:Nat):Int)=x.Q by omega];exact dx G
 rw[B,B]at n;simp only[show((s.Q.toNat:Nat):Int)=s.Q by omega,show((u.Q.toNat:Nat):Int)=u.Q by omega]at n;by_cases K:s.Q=b.Q
 ·rw[C9 K,C8 (λe=>F (K.trans e.symm))]at n
  have T:=A u.Q.toNat (o u E) n.symm;rw[d s D b L K,d u E a w ω,gt];exact R
 rw[C8 K]at n;by_cases P:u.Q=b.Q
 ·rw[C9 P]at n
  have T:=A s.Q.toNat (o s D) n;rw[d u E b L P,d s D a w ω];exact R
 rw[C8 P]at n;exact h.mesh s D u E F n
def over(j:cK):Bool:=decide (j.b2=4\/j.b2=5)
def gE(k:ah)(j:cK):ah × cK:=if jmay k j=true then jstep k j else(k,j)
def mStep(h:ab):ab:={h with G:=(gE h.G h.Y).1,u:=if over (gE h.G h.Y).2=true then false else h.u,Y:=if over (gE h.G h.Y).2=true then⟨⟨0,0,[]⟩,0,0⟩ else(gE h.G h.Y).2}
def Dv(h:ab):Bool:=decide ((gE h.G h.Y).2.b2=4)
theorem dq{j:cK} : jx j=true↔ew j.W=true/\0<=j.b2/\j.b2<=5/\0<=j.a/\j.a<=j.W.S.length:=by
 unfold jx;simp only[I0,C0]
theorem fR{p:cM}(h:ew p=true){i:Nat}(a:i<p.S.length):0<=nth p.S i/\nth p.S i<=15:=by
 unfold ew at h;simp only[I0]at h;have:=dC h.1 a;unfold lB at this;rw[C0]at this;exact⟨this.1,this.2.1⟩
structure JS(h:ab)(k:ah)(j:cK):Prop where
 ker:a7 k=true
 len:k.F.R.J.length=(tbl h).J.length
 pg:j.b2≠4\/JI h->Pg k.F.R h.q h.M h.K
 ph:0<=j.b2/\j.b2<=5
 plan:j.W=h.Y.W
 nxt:0<=j.a/\j.a<=j.W.S.length
 eq:j.b2≠4->tEq (tbl h) k.F.R
 calls:h.G.Calls<=k.Calls/\k.Calls<=h.G.Calls+1/\k.y=h.G.y
theorem wt(k:ah)(p m:Int):(jG k p m).1.Calls=k.Calls+1/\(jG k p m).1.y=k.y:=by
 unfold jG;split<;>exact⟨rfl,rfl⟩
theorem K4(k:ah)(p o:Int):(uo k p o).1.Calls=k.Calls+1/\(uo k p o).1.y=k.y:=by
 unfold uo;split
 ·exact⟨rfl,rfl⟩
 obtain⟨-,a,b,-⟩:=me (ux (bY k) p.toNat ⟨2,(nth k.F.R.J o.toNat).e⟩) (nth k.F.R.J p.toNat).e;simp only[a,b];exact⟨rfl,rfl⟩
theorem JS.of{h:ab}{E:List Int}(c:aV h E)(B:h.u=true):JS h (gE h.G h.Y).1 (gE h.G h.Y).2:=by
 obtain⟨R,-,-⟩:=c.job B;obtain⟨O,y,A,o,p⟩:=dq.1 R;unfold gE;split
 case isFalse=>exact⟨c.ker,rfl,λ_=>c.pg,⟨y,A⟩,rfl,⟨o,p⟩,λ_=>tEq.refl _,W4 _,by show h.G.Calls<=h.G.Calls+1;omega,rfl⟩
 rename_i d;unfold jmay at d;simp only[I0,C0]at d;obtain⟨⟨-,C⟩,-,u,r,D⟩:=d;have fin:∀(k:ah)(j:cK),a7 k=true->tEq (tbl h) k.F.R->0<=j.b2/\j.b2<=5->j.W=h.Y.W->0<=j.a/\j.a<=j.W.S.length->h.G.Calls<=k.Calls/\k.Calls<=h.G.Calls+1/\k.y=h.G.y->JS h k j:=
  λk j S F T U V W=>⟨S,F.1,λ_=>c.pg.tEq F,T,U,V,λ_=>F,W⟩
 have P:=(aD.1 c.ker).2.2.2.2;unfold jstep;split
 ·obtain⟨l,w⟩:=BW c.ker C r (m:=1) (.inl rfl)
  obtain⟨g,t⟩:=wt h.G h.Y.W.a1 1;refine fin _ _ l w ?_ rfl ⟨o,p⟩ ⟨by rw[g];omega,by rw[g];omega,t⟩;show 0<=(if _ then _ else _:Int)/\(if _ then _ else _:Int)<=5;split<;>omega
 split
 ·split
  ·exact fin _ _ c.ker (tEq.refl _) ⟨by show(0:Int)<=2;omega,by show(2:Int)<=5;omega⟩ rfl ⟨o,p⟩ ⟨W4 _,by show h.G.Calls<=h.G.Calls+1;omega,rfl⟩
  have n:=fR O (i:=h.Y.a.toNat) ω;refine fin _ _ (Ly c.ker r u n) (tEq.refl _) ⟨y,A⟩ rfl ⟨by show 0<=h.Y.a+1;omega,by show h.Y.a+1<=h.Y.W.S.length;omega⟩ ⟨W4 _,by show h.G.Calls<=h.G.Calls+1;omega,rfl⟩
 split
 ·have G:h.Y.W.a1≠h.Y.W.a4:=λe=>D (by rw[e])
  have l:=Mv c.ker C r u G;obtain⟨g,t⟩:=K4 h.G h.Y.W.a1 h.Y.W.a4;cases e:(uo h.G h.Y.W.a1 h.Y.W.a4).2 with
  | false=>
   rw[C8 (by simp)];refine fin _ _ l (tEq.of ?_) ⟨by show(0:Int)<=3;omega,by show(3:Int)<=5;omega⟩ rfl ⟨o,p⟩ ⟨by rw[g];omega,by rw[g];omega,t⟩;rw[Mc e];rfl
  | true=>
   rw[C9 rfl];obtain⟨X,m2,Y,-⟩:=bX c.ker r;obtain⟨n1,n2,Z,-⟩:=bX c.ker u;have f:=GH c.ker r e;refine⟨l,(f 0).1,λH=>?_,⟨by show(0:Int)<=4;omega,by show(4:Int)<=5;omega⟩,rfl,⟨o,p⟩,λJ=>absurd rfl J,by rw[g];omega,by rw[g];omega,t⟩;have Q:JI h:=H.elim (λJ=>absurd rfl J) id;obtain⟨a,ha,b,hb,K,M,N⟩:=Q.sp B;refine c.pg.on c.L ha hb N (by rw[K];exact Q.sk B) (by rw[K];show(nth h.G.F.R.J _).j≠0;rw[<-Z];exact u) (by rw[M];show(nth h.G.F.R.J _).j≠0;rw[<-Y];exact r) (by rw[M];exact X) (f 0).1 λq=>?_
   rw[(f q).2,M,K];rfl
 split
 ·split
  ·rename_i hn0
   have n:=fR O (i:=(h.Y.a - 1).toNat) ω;have hk0:=(bX c.ker u).1;obtain⟨l,w⟩:=HU c.ker (a:=h.Y.W.a4*16+nth h.Y.W.S (h.Y.a - 1).toNat) (v:=0) ω ⟨ω,ω⟩;exact fin _ _ l (tEq.of w) ⟨y,A⟩ rfl ⟨by show 0<=h.Y.a - 1;omega,by show h.Y.a - 1<=h.Y.W.S.length;omega⟩ ⟨W4 _,by show h.G.Calls<=h.G.Calls+1;omega,rfl⟩
  obtain⟨l,w⟩:=BW c.ker C r (m:=2) (.inr rfl);obtain⟨g,t⟩:=wt h.G h.Y.W.a1 2;refine fin _ _ l w ?_ rfl ⟨o,p⟩ ⟨by rw[g];omega,by rw[g];omega,t⟩;show 0<=(if _ then _ else _:Int)/\(if _ then _ else _:Int)<=5;split<;>omega
 exact fin _ _ c.ker (tEq.refl _) ⟨y,A⟩ rfl ⟨o,p⟩ ⟨W4 _,by show h.G.Calls<=h.G.Calls+1;omega,rfl⟩
theorem aV.mStep{h:ab}{E:List Int}(d:aV h E)(f:JI h)(c:h.u=true):aV (mStep h) E/\JI (mStep h):=by
 have s:=JS.of d c;unfold Ab.mStep;generalize (gE h.G h.Y).1=k at s |-;generalize (gE h.G h.Y).2=j at s |-;cases e:over j with
 | true=>
  refine⟨d.step s.ker s.len (s.pg (.inr f)) (λh=>by simp at h) (λ_=>by simp[qO]),?_⟩;exact⟨λh=>by simp at h,λh=>by simp at h,λh=>by simp at h,λh=>by simp at h⟩
 | false=>
  simp only[Bool.false_eq_true,if_false];unfold over at e;simp only[T4,not_or]at e;have g:=s.eq e.1;have i:=s.ph;refine⟨d.step s.ker s.len (s.pg (.inr f)) (λ_=>⟨dq.2 ⟨by rw[s.plan];exact(dq.1 (d.job c).1).1,s.ph.1,s.ph.2,s.nxt⟩,by rw[s.plan];exact(d.job c).2⟩) (λh=>by rw[c]at h;cases h),?_⟩;refine⟨λ_=>⟨s.ph.1,by show j.b2<=3;omega⟩,λ_=>?_,λ_=>?_,λ_=>?_⟩
  ·show ∃a∈h.M,∃b∈h.M,a.Q=j.W.a4/\b.Q=j.W.a1/\meshable a b=true
   rw[s.plan];exact f.sp c
  ·show n7 k.F.R j.W.a4
   rw[s.plan];exact(f.sk c).tEq g
  show n7 k.F.R j.W.a1;rw[s.plan];exact(f.sm c).tEq g
def dG(k:ah)(a:Int):Int:=nth (nth k.F.V.S (ac k.F.R (a / 16)).e.toNat) (a % 16).toNat
def cellsOf(k:ah)(a:Int)(n:Nat):List Int:=(List.range n).map λ(i:Nat)=>dG k (a+i)
theorem gh(k:ah)(a:Int)(n:Nat):(cellsOf k a n).length=n:=by simp[cellsOf]
theorem Be(k:ah)(a:Int)(n:Nat):cellsOf k a (n+1)=cellsOf k a n++[dG k (a+n)]:=by
 unfold cellsOf;rw[List.range_succ,R5];rfl
theorem B1(k:ah)(a:Int){n i:Nat}(b:i<n):(cellsOf k a n)[i]? = some (dG k (a+i)):=by
 unfold cellsOf;rw[X2,O6 b];rfl
theorem Dq{k:ah}(b:a7 k=true)(p:Int):0<=(ac k.F.R p).e/\(ac k.F.R p).e<k.F.V.S.length:=by
 obtain⟨-,c,d,-⟩:=aD.1 b;obtain⟨e,f,g,h⟩:=aW.1 c;unfold ac;split
 ·rename_i i
  have:=(bx.1 d).1 p.toNat ω;unfold jS at this;rw[C0]at this;by_cases a:(nth k.F.R.J p.toNat).j=0
  ·have:=this.2.2.1 a;omega
  have:=this.2.2.2 a;omega
 simp only;omega
theorem JT{k:ah}(a:a7 k=true){j:Nat}(b:j<k.F.V.S.length):(nth k.F.V.S j).length=16/\∀i,i<16->0<=nth (nth k.F.V.S j) i/\nth (nth k.F.V.S j) i<=999:=by
 obtain⟨-,c,-⟩:=aD.1 a;obtain⟨e,f,g,d⟩:=aW.1 c;have:=d j b;unfold gF at this;rw[I0,C0,W3]at this;refine⟨this.1,λi l=>?_⟩;have h:=this.2 _ (am (xs:=nth k.F.V.S j) (i:=i) ω);unfold ij at h;rw[I0,C0]at h;exact h.1
theorem yx{k:ah}(b:a7 k=true)(a:Int):0<=dG k a/\dG k a<=999:=by
 obtain⟨c,d⟩:=Dq b (a / 16);exact(JT b (j:=(ac k.F.R (a / 16)).e.toNat) ω).2 (a % 16).toNat ω
theorem zW(h:ab)(a n:Int)(b:a7 h.G=true)(q:0<=a/\a<=1000000)(r:n<=1000000) :
  ar Tryz.prog 87 false [.val (some 24) (ab.enc .X h),.val none [I a],.val none [I n]] .one (aG .own (cellsOf h.G a n.toNat)):=by
 have c:=bH b;refine fO 44 [] Tryz.func87 rfl ?_ (.inr (bV _))
 repeat'(first|refine gO ?_|fail)
 (conv=>whnf)
 refine CE (ι:=Nat) (λi=>[(1,.H .one [I (a)]),(2,.H .one [I (n)]),(3,.H .box (ab.enc .X h)),(7,.H .one (aG .own (cellsOf h.G a i))),(8,.H .one [I ((i:Nat):Int)])]) (λi=>i<=n.toNat) (λi=>n.toNat - i) (0) ?_ (T0 _) λi t=>?_
 ·exact wB
 have d:=gh h.G a i;by_cases u:i<n.toNat
 ·obtain⟨e,w⟩:=Dq b ((a+i) / 16)
  have g:=ao (xs:=h.G.F.V.S) (i:=(ac h.G.F.R ((a+i) / 16)).e.toNat) ω;have k:=(JT b (j:=(ac h.G.F.R ((a+i) / 16)).e.toNat) ω).1;have l:=ao (xs:=nth h.G.F.V.S (ac h.G.F.R ((a+i) / 16)).e.toNat) (i:=((a+i) % 16).toNat) ω;have o:IntKind.i64.wrap ((a+(i:Int)).tdiv 16)=(a+i) / 16:=by rw[mj ω];exact eE ω ω
  have p:(a+(i:Int)).tmod 16=(a+i) % 16:=eR ω
  repeat'(first|refine gD ?_|(conv=>whnf);first|refine CN (by decide) ?_|refine CL o ?_|refine CS p ?_|refine C7 (iD h.G.F.R _ c.1.2) ?_|refine CM e (aa g) ?_|refine CM ω (aa l) ?_|refine Ap.sn cI rfl (by simp;omega) (by decide) rfl ?_)
  (conv=>whnf)
  refine CD (i+1) ω ω ?_;rw[Be]
  (repeat'(first|exact trivial|rfl|exact CK rfl (CK (U0 (C.s dK.own) (by simp[rI,dG])) trivial)|refine CK ?_ ?_))
 repeat'(first|refine gD ?_|fail)
 obtain rfl:i=n.toNat:=ω
 rfl
theorem Au{sp:List ax}{la:List a8}{a:Int}(h:(denotes sp la a).b6=1):∃i:Nat,i<sp.length/\(denotes sp la a).c4=i/\cq (nth sp i) a=true/\denotes sp la a=nz i (nth sp i) a:=by
 unfold denotes at h |-;cases e:sp.findIdx? (cq · a) with
 | some i=>
  obtain⟨b,d,-⟩:=T6.1 e;refine⟨i,b,rfl,?_,rfl⟩;rw[bc (W1 b)];exact d
 | none=>
  rw[e]at h;simp only at h;cases c:la.findIdx? (bn · a) with
  | some i=>rw[c]at h;simp at h
  | none=>rw[c]at h;simp at h
theorem DJ{sp:List ax}{la:List a8}{a:Int}(h:(denotes sp la a).b6=3):∃i:Nat,i<la.length/\(denotes sp la a).c4=i/\bn (nth la i) a=true/\denotes sp la a = ⟨3,i,0,a - 16*(nth la i).Q⟩:=by
 unfold denotes at h |-;cases e:sp.findIdx? (cq · a) with
 | some i=>
  rw[e]at h;simp only[nz]at h;split at h<;>simp at h
 | none=>
  rw[e]at h;simp only at h |-;cases b:la.findIdx? (bn · a) with
  | some i=>
   obtain⟨c,d,-⟩:=T6.1 b;refine⟨i,c,rfl,?_,rfl⟩;rw[bc (W1 c)];exact d
  | none=>rw[b]at h;simp at h
theorem gf{n:Int}(h:0<=aI n):1<=n/\n<=8:=by
 unfold aI at h;split at h
 ·omega
 split at h
 ·omega
 split at h
 ·omega
 split at h
 ·omega
 split at h<;>omega
theorem NI{h:ab}{o:br}(c:iz h o=true):0<=o.Addr/\o.Addr<=2000/\1<=o.o/\o.o<=1000:=by
 unfold iz at c;simp only[I0,X5,C0]at c;obtain⟨-,⟨d,e⟩|⟨d,e⟩⟩:=c
 ·obtain⟨i,f,a,b,-⟩:=Au d
  rw[a,O2]at e;unfold cq bg at b;simp only[I0,C0]at b;have:=gf (n:=o.o) ω;omega
 obtain⟨i,f,a,b,-⟩:=DJ d;rw[a,O2]at e;unfold bn bE at b;simp only[I0,C0]at b;omega
theorem xu{h:ab}(a:dO h=true):cg h=true/\fe h=true:=by
 unfold dO at a;simp only[I0]at a;exact⟨a.1.1.2,a.1.2.1⟩
theorem Gx{h:ab}(a:dO h=true):1<=h.a/\h.a<=1000000:=by
 have:=(xu a).1;unfold cg at this;rw[C0]at this;omega
theorem uQ{h:ab}(c:dO h=true){i:Nat}(f:i<h.O.length):1<=(nth h.O i).Id/\(nth h.O i).Id<h.a/\0<=(nth h.O i).Addr/\(nth h.O i).Addr<=2000/\1<=(nth h.O i).o/\(nth h.O i).o<=1000/\∀j,j<i->(nth h.O j).Id≠(nth h.O i).Id:=by
 obtain⟨-,g⟩:=xu c;obtain⟨o,p⟩:=Gx c;have a:=dC g f;rw[eE ω ω]at a;unfold objAt gx at a;simp only[I0,C0,Bool.not_eq_true']at a;obtain⟨⟨k,d⟩,l⟩:=a;have b:=NI l;refine⟨k.2.1,ω,b.1,b.2.1,b.2.2.1,b.2.2.2,λj n e=>?_⟩;rw[List.any_eq_false]at d;refine d (nth h.O j) ?_ (by unfold eG;exact O0 e);have:(h.O.take i)[j]? = some (nth h.O j):=by rw[List.getElem?_take,C9 n,ao ω]
 exact U1 this
theorem Qd{h:ab}(a:dO h=true){i j:Nat}(c:i<h.O.length)(d:j<h.O.length)(f:i≠j):(nth h.O i).Id≠(nth h.O j).Id:=by
 rcases Nat.lt_or_ge i j with b|b
 ·exact(uQ a d).2.2.2.2.2.2 i b
 exact λe=>(uQ a c).2.2.2.2.2.2 j ω e.symm
def ro(cs:List Int):Nat->Int
 | 0=>0
 | n+1=>(ro cs n+(n+1)*nth cs n) % 9973
theorem ME(cs:List Int):∀n,0<=ro cs n/\ro cs n<=9972
 | 0=>by simp[ro]
 | n+1=>by simp only[ro];omega
def mw(k:ah)(o:br):cn:=⟨o.Id,o.o,ro (cellsOf k o.Addr o.o.toNat) o.o.toNat⟩
def i6(h:ab):Nat->List cn
 | 0=>[]
 | n+1=>i6 h n++(h.O.filter (eG n)).map (mw h.G)
theorem nI{h:ab}{x:cn} : ∀{n:Nat},x∈i6 h n↔∃o∈h.O,(∃m:Nat,m<n/\o.Id=m)/\mw h.G o=x
 | 0=>by simp[i6]
 | n+1=>by
  rw[i6,U2,nI,C4];simp only[I4,eG,C0];constructor
  ·rintro(⟨o,a,⟨m,d,b⟩,c⟩|⟨o,⟨a,d⟩,b⟩)
   ·exact⟨o,a,⟨m,ω,b⟩,c⟩
   exact⟨o,a,⟨n,ω,d⟩,b⟩
  rintro⟨o,a,⟨m,d,b⟩,c⟩
  rcases Nat.lt_or_ge m n with e|e
  ·exact .inl ⟨o,a,⟨m,e,b⟩,c⟩
  obtain rfl:m=n:=ω
  exact .inr ⟨o,⟨a,b⟩,c⟩
theorem Hs{h:ab}(b:dO h=true):∀o∈h.O,1<=o.Id/\o.Id<h.a:=λo c=>by
 obtain⟨j,a⟩:=List.mem_iff_getElem?.1 c;have:=uQ b (Z1.1 a).1;rw[bc a]at this;exact⟨this.1,this.2.1⟩
theorem rL(n:Nat):∀(l:List br),(l.filter λo:br=>decide (o.Id<((n+1:Nat):Int))).length=(l.filter λo:br=>decide (o.Id<(n:Int))).length+(l.filter (eG n)).length
 | []=>rfl
 | o::l=>by
  have a:=rL n l;simp only[List.filter_cons];rcases Int.lt_trichotomy o.Id n with h|h|h
  ·rw[C9 (by simp;omega),C9 (by simp;omega),C8 (by simp[eG];omega)]
   simp only[List.length_cons];omega
  ·rw[C9 (by simp;omega),C8 (by simp;omega),C9 (by simp[eG];omega)]
   simp only[List.length_cons];omega
  rw[C8 (by simp;omega),C8 (by simp;omega),C8 (by simp[eG];omega)];exact a
theorem tO{h:ab}(a:∀o∈h.O,0<=o.Id):∀n:Nat,(i6 h n).length=(h.O.filter λo:br=>decide (o.Id<(n:Int))).length
 | 0=>by
  rw[List.filter_eq_nil_iff.2 (λo b=>by have:=a o b;simp;omega)];rfl
 | n+1=>by
  rw[i6,Z2,X0,tO a n,rL]
def jf(h:ab):List cn:=if dO h then i6 h h.a.toNat else []
def QS{α:Type}[Inhabited α](f:α->Int)(xs:List α):Nat->Int
 | 0=>0
 | i+1=>QS f xs i+f (nth xs i)
def Na(s:ax)(c:Nat):Bool:=aR s.b1 (((c:Nat):Int) / csz s.b)
def Qq(h:ab)(p:Nat):List Int:=nth h.G.F.V.S (nth (tbl h).J p).e.toNat
def PG(h:ab)(p c:Nat):Bool:=(h.M.any λs=>decide (s.Q∈aP h (p:Nat))&&Na s c) || h.K.any λl=>bn l (16*(p:Nat)+(c:Nat))
def HQ(h:ab)(p:Nat):Bool:=cR 16 λc=>decide (nth (Qq h p) c=0) || PG h p c
def bor(n m:Int):Int:=((n.toNat ||| m.toNat:Nat):Int)
def rq(sp:List ax)(p:Int)(b:Int):Nat->Int
 | 0=>b
 | j+1=>if(nth sp j).Q=p then bor (rq sp p b j) (nth sp j).b1 else rq sp p b j
def jQ(sp:List ax)(ps:List Int)(b:Int):Nat->Int
 | 0=>b
 | k+1=>rq sp (nth ps k) (jQ sp ps b k) sp.length
def gM(h:ab)(i:Nat):Int:=jQ h.M (aP h (nth h.M i).Q) (nth h.M i).b1 (aP h (nth h.M i).Q).length
theorem Ke{n m:Int}(h1:0<=n/\n<=65535)(a:0<=m/\m<=65535):0<=bor n m/\bor n m<=65535:=by
 have b:n.toNat ||| m.toNat<2 ^ 16:=Nat.or_lt_two_pow ω ω
 unfold bor;omega
theorem uV{sp:List ax}(h:∀s∈sp,bg s=true){j:Nat}(b:j<sp.length):0<=(nth sp j).b1/\(nth sp j).b1<=65535:=by
 have a:=h _ (am b);have c:=FP (nth sp j).b;unfold bg at a;rw[C0]at a;omega
theorem uL{sp:List ax}(h:∀s∈sp,bg s=true){p b:Int}(a:0<=b/\b<=65535):∀j,j<=sp.length->0<=rq sp p b j/\rq sp p b j<=65535
 | 0,_=>a
 | j+1,d=>by
  have c:=uL h (p:=p) a j ω;simp only[rq];split
  ·exact Ke c (uV h ω)
  exact c
theorem rC{sp:List ax}(h:∀s∈sp,bg s=true){ps:List Int}{b:Int}(a:0<=b/\b<=65535):∀k,0<=jQ sp ps b k/\jQ sp ps b k<=65535
 | 0=>a
 | k+1=>by simp only[jQ];exact uL h (rC h a k) _ (W2 _)
theorem mE{b i:Int}(a:0<=b)(c:0<=i/\i<=15):aR b i=b.toNat.testBit i.toNat:=by
 unfold aR;rw[Nat.testBit_eq_decide_div_mod_eq];refine decide_eq_decide.2 ?_;obtain⟨n,rfl⟩ : ∃n:Nat,b=n:=⟨b.toNat,ω⟩
 rw[O2];have d:((n / 2 ^ i.toNat:Nat):Int)=(n:Int) / 2 ^ i.toNat:=by simp
 omega
theorem FG{n m i:Int}(b:0<=n)(c:0<=m)(a:0<=i/\i<=15):aR (bor n m) i=(aR n i || aR m i):=by
 rw[mE (by unfold bor;omega) a,mE b a,mE c a];unfold bor;rw[O2,Nat.testBit_or]
theorem Dr{sp:List ax}(h:∀s∈sp,bg s=true){p b i:Int}(k:0<=b/\b<=65535)(l:0<=i/\i<=15):∀j,j<=sp.length->(aR (rq sp p b j) i=true↔aR b i=true\/∃q,q<j/\(nth sp q).Q=p/\aR (nth sp q).b1 i=true)
 | 0,_=>by simp[rq]
 | j+1,t=>by
  have n:=Dr h (p:=p) k l j ω;have o:=uL h (p:=p) k j ω;have r:=uV h (j:=j) ω;simp only[rq];split
  ·rename_i d
   rw[FG o.1 r.1 l,X5,n];constructor
   ·rintro((e|⟨q,f,a⟩)|e)
    ·exact .inl e
    ·exact .inr ⟨q,ω,a⟩
    exact .inr ⟨j,ω,d,e⟩
   rintro(e|⟨q,f,a,c⟩)
   ·exact .inl (.inl e)
   by_cases g:q=j
   ·subst g;exact .inr c
   exact .inl (.inr ⟨q,ω,a,c⟩)
  rename_i d;rw[n];constructor
  ·rintro(e|⟨q,f,a⟩)
   ·exact .inl e
   exact .inr ⟨q,ω,a⟩
  rintro(e|⟨q,f,a,c⟩)
  ·exact .inl e
  by_cases g:q=j
  ·subst g;exact absurd a d
  exact .inr ⟨q,ω,a,c⟩
theorem zy{sp:List ax}(h:∀s∈sp,bg s=true){ps:List Int}{b i:Int}(d:0<=b/\b<=65535)(f:0<=i/\i<=15):∀k,(aR (jQ sp ps b k) i=true↔aR b i=true\/∃u,u<k/\∃q,q<sp.length/\(nth sp q).Q=nth ps u/\aR (nth sp q).b1 i=true)
 | 0=>by simp[jQ]
 | k+1=>by
  have g:=zy h (ps:=ps) d f k;have j:=rC h (ps:=ps) d k;simp only[jQ];rw[Dr h j f _ (W2 _),g];constructor
  ·rintro((e|⟨u,c,a⟩)|⟨q,c,a⟩)
   ·exact .inl e
   ·exact .inr ⟨u,ω,a⟩
   exact .inr ⟨k,ω,q,c,a⟩
  rintro(e|⟨u,c,a⟩)
  ·exact .inl (.inl e)
  by_cases l:u=k
  ·subst l;exact .inr a
  exact .inl (.inr ⟨u,ω,a⟩)
end Go.Proofs.YtecefhjnejfheaaGreat.Ab
