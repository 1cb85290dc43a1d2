/- The calls of the kernel in a run: never near their bound. No condition. -/
import Derived.Test.YtembpgjjnioagaaGreatFld
import Derived.Test.YtembpgjjnioagaaGreatFlh
import Derived.Test.YtembpgjjnioagaaGreatFle
import Derived.Test.YtembpgjjnioagaaGreatFlg
import Derived.Test.YtembpgjjnioagaaGreatFlf
import Derived.ProofKit
import Derived.OpenShut
import Derived.Deep.Slices
import Derived.Deep.Fields
import Derived.ChangeSame
import Derived.WideShapes
set_option linter.unusedVariables false
set_option linter.unusedSimpArgs false
set_option linter.constructorNameAsVariable false
namespace Go.Proofs.YtembpgjjnioagaaGreat.Ab
def cls(h:ab):Int:=h.Kernel.Calls
theorem BC(k:af)(p:Int):(gc k p).1.Calls=k.Calls+1:=by unfold gc;split<;>rfl
theorem DP(k:af)(p:Int):∀n:Nat,(cI k p n).1.Calls<=k.Calls+n
 | 0=>by show k.Calls<=k.Calls+0;omega
 | n+1=>by
  have a:=DP k p n;unfold cI;split
  ·refine W4 (Y4 (BC (cI k p n).1 (p+(n:Nat)))) ?_
   omega
  ·omega
theorem M0(h:ab)(i:Nat):cls (lQ h i).1=cls h:=by unfold lQ;split<;>rfl
theorem Je(h:ab)(t c:Nat):cls (eG h t c).1<=cls h+1:=by
 unfold eG;split
 ·show cls h<=_;omega
 split
 ·show cls h<=_;omega
 split
 ·show cls h<=_;omega
 split
 ·exact Y4 (BC _ _)
 ·exact Y4 ((M0 _ _).trans (BC _ _))
theorem HV(h:ab)(t n:Int)(a:cls h<=99001):cls (fk h t n).1<=99001:=by
 unfold fk;split
 ·exact a
 rename_i d;have c:cls h<=90000:=by unfold cls;omega
 split
 ·exact a
 split
 ·exact a
 rename_i e;split
 ·exact a
 split
 ·have:=Je h t.toNat (aL n).toNat
  split
  ·show cls (eG h t.toNat (aL n).toNat).1<=_;omega
  ·show cls (eG h t.toNat (aL n).toNat).1<=_;omega
 ·have f:(kO n:Int)<=63:=by unfold kO;omega
  unfold mz;split
  ·exact a
  have b:=DP h.Kernel (a8 h.Free (kO n:Nat)).2.1 (kO n);unfold cls at c;split
  ·exact W4 b ω
  ·exact W4 (Y4 (iU _ _ _).1) (W4 b ω)
theorem KS(h:ab)(t i:Nat):cls (freeT h t i).1=cls h:=by
 unfold freeT;split
 ·exact(iU _ _ _).1
 split
 ·rfl
 split
 ·exact(eP t _ _).2.2.1
 split<;>rfl
theorem yV(t:Nat)(h:ab):∀k,cls (flushN t h k).1=cls h
 | 0=>rfl
 | k+1=>((dy _ (spilt (flushN t h k).1 t k)).2.2.1).trans (yV t h k)
theorem Ll{h:ab}(a:bm h [])(b:JI h)(c:cls h<=99001):∀n,cls (ma h n).1<=99001
 | 0=>c
 | n+1=>by
  obtain⟨d,f⟩:=wb a b n;unfold ma;split
  ·rename_i e
   unfold sJ at e;rw[I0,C0]at e;exact W4 ((xd d e.1).2.1) ω
  ·exact Ll a b c n
theorem LG{w:bD}{m:Nat}(h:sK w m)(a:ew)(b:cls w.Heap<=99001):cls (lv w a).1.Heap<=99001:=by
 unfold lv;split
 ·exact HV _ _ _ b
 split
 ·split
  ·exact b
  unfold my;split
  ·unfold oY
   split
   ·exact b
   split
   ·exact W4 (Y4 (KS _ _ _)) b
   ·exact b
  split
  ·unfold ml
   split
   ·exact b
   split
   ·exact b
   split<;>exact b
  ·unfold pC
   split
   ·exact W4 (Y4 (((iU _ _ _).1).trans (tG _ _ _).2.1)) b
   ·exact b
 split
 ·unfold fI
  split
  ·split<;>exact b
  split
  ·exact b
  split
  ·exact W4 (Y4 (eP _ _ _).2.2.1) b
  ·exact W4 (Y4 (yV _ _ _)) b
 split
 ·unfold mC
  split
  ·exact W4 (Y4 (dy _ _).2.2.1) b
  ·exact b
 split
 ·unfold mt
  split
  ·exact b
  ·show cls (started w.Heap).1<=_
   unfold cls;rw[(tV h.inv).2.1];exact b
 split
 ·exact Ll h.inv h.ji b _
 ·exact b
theorem Mi{c:cF}(h:Fd c)(acts:List ew):∀n,cls (xV c acts n).1.Heap<=99001
 | 0=>by show(0:Int)<=99001;decide
 | n+1=>LG (vP h acts n) _ (Mi h acts n)
open Go.RowKit
set_option maxRecDepth 20000
set_option maxHeartbeats 4000000
set_option maxHeartbeats 2000000
set_option maxHeartbeats 2000000
set_option maxHeartbeats 2000000
set_option maxHeartbeats 2000000
set_option maxHeartbeats 2000000
set_option maxHeartbeats 2000000
theorem DJ(zs:List Int):ja (drawn zs).Heap.Kernel.Refuse:=by
 have a:(rR zs).i<=zs.length:=U0 _;have:=FB (ow a).1 (kM zs (dQ zs)).1 (kM zs (dQ zs)).1.length;unfold rfs at this;show ja (xV _ _ _).1.Heap.Kernel.Refuse;rw[this];exact Em zs _
theorem KF(zs:List Int):(drawn zs).Heap.Kernel.Calls<=99001:=Mi (ow (U0 _)).1 _ _
theorem HS(zs:List Int):ab.sml (drawn zs).Heap/\ab.wf (drawn zs).Heap:=(EX zs).fit (DJ zs)
theorem Qu(zs:List Int)(a:zs.length<=9223372036854775807):ao Tryz.prog 15 false [.val none (QK zs)] .one [B (decide ((zs.length:Int) > 1048576))]:=by
 refine fO 6 [] Tryz.func15 rfl ?_
 repeat'(first|refine gO ?_|fail)
 rfl
theorem Kq(h:ab)(i:Nat):(lQ h i).1.Clock=h.Clock:=by unfold lQ;split<;>rfl
theorem zC(h:ab)(t c:Nat):(eG h t c).1.Clock=h.Clock:=by
 unfold eG;split
 ·rfl
 split
 ·rfl
 split
 ·rfl
 split
 ·rfl
 ·exact Kq (uJ h c) _
theorem J2(h:ab)(t n:Int):(fk h t n).1.Clock=h.Clock:=by
 unfold fk;split
 ·rfl
 split
 ·rfl
 split
 ·rfl
 split
 ·rfl
 split
 ·split
  ·exact zC _ _ _
  ·exact zC _ _ _
 ·unfold mz
  split
  ·rfl
  split<;>rfl
theorem LT(h:ab)(t i:Nat):(freeT h t i).1.Clock=h.Clock:=by
 unfold freeT;split
 ·rfl
 split
 ·rfl
 split
 ·exact(eP t _ _).2.2.2.2.2.1
 split<;>rfl
theorem ta(t:Nat)(h:ab):∀k,(flushN t h k).1.Clock=h.Clock
 | 0=>rfl
 | k+1=>((dy _ (spilt (flushN t h k).1 t k)).2.2.2.2.2.1).trans (ta t h k)
theorem G8(h:ab):∀n,(ma h n).1.Clock=h.Clock
 | 0=>rfl
 | n+1=>by
  unfold ma;split
  ·exact G8 h n
  ·exact G8 h n
theorem Kp(w:bD)(a:ew):(lv w a).1.Heap.Clock<=w.Heap.Clock+1000:=by
 have b:∀c:Int,c=w.Heap.Clock->c<=w.Heap.Clock+1000:=λc e=>ω
 unfold lv;split
 ·exact b _ (J2 _ _ _)
 split
 ·split
  ·exact b _ rfl
  unfold my;split
  ·unfold oY
   split
   ·exact b _ rfl
   split
   ·exact b _ (LT _ _ _)
   ·exact b _ rfl
  split
  ·unfold ml
   split
   ·exact b _ rfl
   split
   ·exact b _ rfl
   split<;>exact b _ rfl
  ·unfold pC
   split<;>exact b _ rfl
 split
 ·unfold fI
  split
  ·split<;>exact b _ rfl
  split
  ·exact b _ rfl
  split
  ·exact b _ (eP _ _ _).2.2.2.2.2.1
  ·exact b _ (ta _ _ _)
 split
 ·unfold mC
  split
  ·rename_i e
   have d:(tick w.Heap a.N).Clock=w.Heap.Clock+a.N:=(dy _ _).2.2.2.2.2.1;show(tick w.Heap a.N).Clock<=_;omega
  ·exact b _ rfl
 split
 ·unfold mt
  split
  ·exact b _ rfl
  ·refine b _ ?_
   show(started w.Heap).1.Clock=_;unfold started;split<;>rfl
 split
 ·exact b _ (G8 _ _)
 ·exact b _ rfl
theorem KA(c:cF)(acts:List ew):∀n:Nat,(xV c acts n).1.Heap.Clock<=1000*n
 | 0=>by show(0:Int)<=1000*((0:Nat):Int);omega
 | n+1=>by
  have a:=Kp (xV c acts n).1 (nth acts n);have b:=KA c acts n;show(lv (xV c acts n).1 (nth acts n)).1.Heap.Clock<=_;omega
def sm{α:Type}(f:α->Int):List α->Int
 | []=>0
 | a::l=>f a+sm f l
theorem oJ{α:Type}(f:α->Int):∀l m:List α,sm f (l++m)=sm f l+sm f m
 | [],m=>by simp[sm]
 | a::l,m=>by simp only[List.cons_append,sm,oJ f l m];omega
theorem NE{α:Type}(f:α->Int){l m:List α}(h:l.Perm m):sm f l=sm f m:=by
 induction h with
 | nil=>rfl
 | cons x _ a=>simp only[sm,a]
 | swap x y l=>simp only[sm];omega
 | trans _ _ b c=>exact b.trans c
theorem BR{α β:Type}{f:α->Int}{g:β->Int}(k:α->β):∀l:List α,(∀a∈l,g (k a)=f a)->sm g (l.map k)=sm f l
 | [],_=>rfl
 | a::l,h=>by
  simp only[U5,sm];rw[h a (V1 ..),BR k l λb c=>h b (v5 _ c)]
theorem Br{α β:Type}{f:α->Int}{g:β->Int}(k:α->List β):∀l:List α,(∀a∈l,sm g (k a)=f a)->sm g (l.flatMap k)=sm f l
 | [],_=>rfl
 | a::l,h=>by
  rw[I6,oJ];simp only[sm];rw[h a (V1 ..),Br k l λb c=>h b (v5 _ c)]
theorem rL{α:Type}{f:α->Int}{c:Int} : ∀l:List α,(∀a∈l,f a=c)->sm f l=l.length*c
 | [],_=>by simp[sm]
 | a::l,h=>by
  simp only[sm];rw[h a (V1 ..),rL l λb d=>h b (v5 _ d),List.length_cons,Int.natCast_succ,Int.add_mul];omega
theorem jg{α:Type}[Inhabited α](f:α->Int)(xs:List α):dD f xs xs.length=sm f xs:=by
 have h:∀n,n<=xs.length->dD f xs n=sm f (xs.take n):=λn=>by
  induction n with
  | zero=>intro _;rfl
  | succ n a=>
   intro c;have b:=ah (xs:=xs) (i:=n) ω;rw[C5,b,oJ];show dD f xs n+f (nth xs n)=_;rw[a ω];simp[sm]
 rw[h _ (z3 _),Z4]
def cst(h:ab)(a:Int):Int:=if 0<=eB h (a / 16) then ed h a else(nth h.Larges (u9 h a)).Size
theorem BV{h:ab}{p:Int}(a:∀s∈h.Spans,s.Page≠p):eB h p = -1:=by
 unfold eB;refine gk (i:=h.Spans.length) (z3 _) λj z c b=>?_
 unfold iS;exact T0 (a z (Z1 b))
theorem rh{h:ab}{E:List Int}(f:bm h E){a c:Int}(l:0<=c)(d:jj h.Spans a c):cst h a=csz c:=by
 obtain⟨s,d,e,g⟩:=d;obtain⟨i,j,rfl⟩:=aW d;have k:(nth h.Spans i).Page=a / 16:=by have n:=e.1;have o:=e.2.1;omega
 have b:=jZ f.L j;rw[k]at b;unfold cst ed;rw[b,C9 ω,X2,g.resolve_left ω]
theorem Nl{h:ab}{E:List Int}(e:bm h E){a:Int}(c:jj h.Spans a (-1)):cst h a=ed h a:=by
 obtain⟨s,c,d,-⟩:=c;obtain⟨i,f,rfl⟩:=aW c;have g:(nth h.Spans i).Page=a / 16:=by have j:=d.1;have k:=d.2.1;omega
 have b:=jZ e.L f;rw[g]at b;unfold cst;rw[b,C9 ω]
theorem zl{h:ab}{E:List Int}(a:bm h E){l:a7}(b:l∈h.Larges):cst h (16*l.Page)=l.Size:=by
 have o:=bS (a.L.lok l b);have g:=aQ (a.L.lok l b);have i:16*l.Page / 16=l.Page:=ω
 have c:eB h l.Page = -1:=BV λs k e=>a.L.dis s k l b 0 ω ω
 unfold cst;rw[i,c,C8 (by decide)];obtain⟨f,p,-⟩:=uZ b rfl;obtain⟨j,n,d⟩:=aW b;have q:=aQ (a.L.lok _ (am f));have:=a.L.one (u9 h (16*l.Page)) j f n 0 0 ω (by rw[d];omega) (by rw[d];omega);rw[this,d]
def Nu(s:ar):List Int:=((List.range 16).filter λi=>decide (((i:Nat):Int) % csz s.Class=0)&&aU s.Bits (((i:Nat):Int) / csz s.Class)).map λi=>16*s.Page+(i:Nat)
theorem pn{s:ar}{a:Int} : a∈Nu s↔eE s a:=by
 unfold Nu eE;rw[z4];constructor
 ·rintro⟨i,b,rfl⟩
  rw[C4,I0,C0,List.mem_range]at b;rw[show 16*s.Page+((i:Nat):Int) - 16*s.Page=(i:Nat) by omega];exact⟨ω,ω,b.2.1,b.2.2⟩
 ·rintro⟨e,f,c,d⟩
  refine⟨(a - 16*s.Page).toNat,?_,ω⟩;rw[C4,I0,C0,List.mem_range];rw[show(((a - 16*s.Page).toNat:Nat):Int)=a - 16*s.Page by omega];exact⟨ω,c,d⟩
theorem PR(s:ar):(Nu s).Nodup:=by
 unfold Nu List.Nodup;rw[List.pairwise_map];exact(List.nodup_range.sublist List.filter_sublist).imp λh e=>h ω
def fil(f:Nat->Bool)(n:Nat):Nat:=((List.range n).filter f).length
theorem rp(f:Nat->Bool)(n:Nat):fil f (n+1)=fil f n+if f n=true then 1 else 0:=by
 unfold fil;rw[List.range_succ,List.filter_append,I3];cases e:f n<;>simp[e]
theorem N0(f g p:Nat->Bool)(k:Nat)(a:0<k)(b:∀m j,j<k->f (k*m+j)=p m)(c:∀m j,j<k->g (k*m+j)=(decide (j=0)&&p m))(n:Nat):fil f (k*n)=k*fil g (k*n):=by
 induction n with
 | zero=>rfl
 | succ n d=>
  have h:∀j,j<=k->fil f (k*n+j)=fil f (k*n)+(if p n=true then j else 0)/\fil g (k*n+j)=fil g (k*n)+(if p n=true/\0<j then 1 else 0):=λj=>by
   induction j with
   | zero=>intro _;cases p n<;>simp
   | succ j ih2=>
    intro r;obtain⟨i,l⟩:=ih2 ω;rw[<-Nat.add_assoc,rp,rp,i,l,b n j ω,c n j ω];cases p n with
    | false=>simp
    | true=>
     by_cases e:j=0
     ·subst e;simp
     ·simp[e,Nat.pos_of_ne_zero e,Nat.add_assoc]
  obtain⟨o,q⟩:=h k (z3 _);rw[Nat.mul_succ,o,q,d,Nat.mul_add];cases p n<;>simp[a]
theorem Qq{s:ar}(f:aY s=true):Jm s=(Nu s).length*csz s.Class:=by
 have d:=aC f;obtain⟨k,b⟩:=Z2 (show 0<=csz s.Class by rcases bO d.2.2 with e|e|e|e<;>rw[e]<;>decide);have g:∃n,16=k*n/\0<k:=by
  rcases bO d.2.2 with e|e|e|e<;>rw[e]at b
  ·exact⟨16,ω,ω⟩
  ·exact⟨8,ω,ω⟩
  ·exact⟨4,ω,ω⟩
  ·exact⟨2,ω,ω⟩
 obtain⟨n,l,a⟩:=g;have h:=N0 (mY s) (λi=>decide (((i:Nat):Int) % csz s.Class=0)&&aU s.Bits (((i:Nat):Int) / csz s.Class)) (λm=>aU s.Bits ((m:Nat):Int)) k a (λm j c=>by
   unfold mY;rw[b,<-Int.natCast_ediv,Nat.mul_add_div a,Nat.div_eq_of_lt c,Nat.add_zero]) (λm j c=>by
   rw[b,<-Int.natCast_ediv,<-Int.natCast_emod,Nat.mul_add_div a,Nat.div_eq_of_lt c,Nat.add_zero,Nat.mul_add_mod,Nat.mod_eq_of_lt c]
   congr 1
   exact decide_eq_decide.2 ⟨λe=>ω,λe=>ω⟩) n
 rw[<-l]at h;unfold Jm qP Nu;rw[Z0,Z0,b];unfold fil at h;rw[h,Int.natCast_mul,Int.mul_comm,b]
def HF(h:ab):List Int:=h.Spans.flatMap Nu++h.Larges.map λl=>16*l.Page
theorem GD{h:ab}(f:bm h []):(holders h).Perm (HF h):=by
 have g:=f.nd;rw[List.nil_append]at g;have o:=f.L;refine(List.perm_ext_iff_of_nodup g ?_).2 λa=>?_
 ·unfold HF
  rw[List.nodup_append];refine⟨?_,?_,?_⟩
  ·unfold List.Nodup
   rw[List.pairwise_flatMap];refine⟨λs _=>PR s,?_⟩;refine f.srs.imp fun {s u} j a k b n=>?_
   have c:=pn.1 k;have p:=pn.1 n;have:=c.2.1;have:=p.1;omega
  ·unfold List.Nodup
   rw[List.pairwise_map];exact f.srl.imp λj=>ω
  ·intro a k b n e
   obtain⟨s,i,c⟩:=List.mem_flatMap.1 k;obtain⟨l,d,rfl⟩:=z4.1 n;have c:=pn.1 c;have q:=aQ (o.lok l d);have r:=c.1;have t:=c.2.1;exact o.dis s i l d 0 ω ω
 ·have:=f.mem a
  rw[List.nil_append]at this;rw[this];unfold Live HF;rw[v3,List.mem_flatMap,z4];constructor
  ·rintro(⟨s,i,c,-⟩|⟨l,d,e⟩)
   ·exact .inl ⟨s,i,pn.2 c⟩
   ·exact .inr ⟨l,d,e.symm⟩
  ·rintro(⟨s,i,c⟩|⟨l,d,e⟩)
   ·exact .inl ⟨s,i,pn.1 c,.inl (by decide)⟩
   ·exact .inr ⟨l,d,e.symm⟩
theorem MF{h:ab}(b:bm h []):sm (cst h) (holders h)=kb h.Spans h.Larges:=by
 have e:=b.L;rw[NE _ (GD b)];unfold HF kb;rw[oJ,jg,jg]
 congr 1
 ·refine Br Nu h.Spans λs d=>?_
  have f:=aC (e.sok s d);rw[rL (c:=csz s.Class) (Nu s) λa g=>rh b f.2.2.1 ⟨s,d,pn.1 g,.inr rfl⟩,Qq (e.sok s d)]
 ·exact BR _ h.Larges λl i=>zl b i
theorem zB{h:ab}(f:Int->Int):∀(b:List (List Int))(k:Nat),(∀j:Nat,j<b.length->∀a∈nth b j,f a=csz ((k+j:Nat):Int))->sm f b.flatten=cK k b
 | [],_,_=>rfl
 | l::b,k,e=>by
  rw[List.flatten_cons,oJ,cK];rw[rL (c:=csz (k:Nat)) l λa d=>e 0 (by simp) a d,zB (h:=h) f b (k+1) λj g a d=>by
    rw[show k+1+j=k+(j+1) by omega];exact e (j+1) (by simp;omega) a d]
theorem r9(xs:List aK):quarCells xs xs.length=sm (λx=>csz x.Class) xs:=by
 have h:∀n,quarCells xs n=dD (λx:aK=>csz x.Class) xs n:=λn=>by
  induction n with
  | zero=>rfl
  | succ n a=>simp only[quarCells,dD,a]
 rw[h,jg]
theorem Fk{h:ab}(a:bm h []){o:bK}(d:o∈h.Objs):cst h o.Addr=dK o:=by
 unfold dK;rcases a.oow o d with⟨s,b,e,f⟩|⟨l,c,g,i⟩
 ·have j:=aC (a.L.sok s b)
  rw[C9 ω,<-f];exact rh a j.2.2.1 ⟨s,b,e,.inr rfl⟩
 ·have k:=bS (a.L.lok l c)
  rw[C8 (by unfold aL;repeat' split<;>omega),g,zl a c,i]
theorem balance{h:ab}(b:bm h []):(cC h).Held=(cC h).Live+(cC h).Cached+(cC h).Stale+(cC h).Posted:=by
 show kb h.Spans h.Larges=dD dK h.Objs h.Objs.length+dD bj h.Caches h.Caches.length+quarCells h.Quar.Lst h.Quar.Lst.length+dD (ed h) (aE h.Mail) (aE h.Mail).length;rw[<-MF b];unfold holders;rw[oJ,oJ,oJ,jg,jg,jg,r9];have q:sm (cst h) (h.Objs.map (·.Addr))=sm dK h.Objs:=BR _ _ λo r=>Fk b r
 have t:sm (cst h) (cb h)=sm bj h.Caches:=Br _ _ λc d=>by
  unfold bj;rw[C9 (b.cach c d)];exact zB (h:=h) (cst h) c.Lists 0 λj u a e=>by rw[T6];exact rh b ω (b.hca c d j u a e)
 have w:sm (cst h) (h.Quar.Lst.map (·.Addr))=sm (λx:aK=>csz x.Class) h.Quar.Lst:=BR _ _ λx n=>by
  have p:=b.hqu x n;obtain⟨s,i,-,B⟩:=id p;have d:=aC (b.L.sok s i);have k:0<=x.Class:=by
   have l:=b.quar;unfold eQ at l;rw[I0]at l;obtain⟨j,y,rfl⟩:=aW n;have:=dI l.1 y;unfold je at this;simp only[I0,C0]at this;exact this.1.1
  exact rh b k p
 have A:sm (cst h) (aE h.Mail)=sm (ed h) (aE h.Mail):=by
  have:=BR (f:=ed h) (g:=cst h) (λa:Int=>a) (aE h.Mail) λa e=>Nl b (b.hfl a e)
  rwa [List.map_id']at this
 rw[q,t,w,A]
theorem vJ(t:aH):fy t=((fil (λp=>decide ((nth t.Entries p).Mode≠0)) t.Entries.length:Nat):Int):=by
 have h:∀n,dD bZ t.Entries n=((fil (λp=>decide ((nth t.Entries p).Mode≠0)) n:Nat):Int):=λn=>by
  induction n with
  | zero=>rfl
  | succ n a=>
   rw[rp];show dD bZ t.Entries n+bZ (nth t.Entries n)=_;rw[a];unfold bZ;by_cases e:(nth t.Entries n).Mode=0<;>simp[e]
 exact h _
theorem MI:∀{l m:List Nat},l.Nodup->(∀a∈l,a∈m)->l.length<=m.length
 | [],_,_,_=>U0 _
 | a::l,m,g,c=>by
  obtain⟨h,i⟩:=List.nodup_cons.1 g;have d:=c a (V1 ..);have:=MI (l:=l) (m:=m.erase a) i λb f=>(List.mem_erase_of_ne (λe=>by subst e;exact h f)).2 (c b (v5 _ f))
  rw[List.length_erase_of_mem d]at this;have:=List.length_pos_of_mem d;rw[List.length_cons];omega
theorem MG(a:List Bool):gX a a.length=((fil (nth a) a.length:Nat):Int):=by
 have h:∀n,gX a n=((fil (nth a) n:Nat):Int):=λn=>by
  induction n with
  | zero=>rfl
  | succ n b=>
   rw[rp];show gX a n+(if nth a n then 1 else 0)=_;rw[b];cases nth a n<;>simp
 exact h _
theorem Pw{h:ab}(e:bm h []):0<=dX h.Kernel.Machine.Frames/\dX h.Kernel.Machine.Frames<=fy (tbl h):=by
 obtain⟨-,f,-,g,-⟩:=aD.1 e.ker;unfold dX;rw[C9 f,MG,vJ];refine⟨ω,Int.ofNat_le.2 ?_⟩;have:=MI (l:=(List.range h.Kernel.Machine.Frames.Used.length).filter (nth h.Kernel.Machine.Frames.Used)) (m:=((List.range (tbl h).Entries.length).filter λp=>decide ((nth (tbl h).Entries p).Mode≠0)).map λp=>(nth (tbl h).Entries p).Frame.toNat) (List.nodup_range.sublist List.filter_sublist) λj b=>by
  rw[C4,List.mem_range]at b;have c:=g j b.1;rw[b.2]at c;have i:0<(pagesOn (tbl h) (j:Int)).length:=of_decide_eq_true c.symm;obtain⟨y,d⟩:=List.exists_mem_of_length_pos i;have a:=d;unfold pagesOn at a;obtain⟨p,-,rfl⟩:=z4.1 a;obtain⟨k,n,o⟩:=d9.1 d;rw[z4];refine⟨p,?_,by rw[o];rfl⟩;rw[C4,List.mem_range,C0];exact⟨k,n⟩
 rw[Z0]at this;exact this
theorem D8{α:Type}{f:α->Int} : ∀l:List α,(∀a∈l,0<=f a)->0<=sm f l
 | [],_=>X4 _
 | a::l,h=>by
  have d:=h a (V1 ..);have e:=D8 l λb c=>h b (v5 _ c)
  simp only[sm];omega
theorem uf:∀(a:List (List Int))(k:Nat),0<=cK k a
 | [],_=>X4 _
 | l::a,k=>by
  have b:=uf a (k+1);have c:=Int.mul_nonneg (show(0:Int)<=l.length by omega) (csz8 (k:Nat)).1;simp only[cK];omega
theorem NU{h:ab}(a:bm h []):BF (cC h)=true:=by
 have n:=balance a;have d:=a.lens;have g:=a.to;have q:=Pw a;have r:(cC h).Mapped=fy (tbl h):=rfl;have t:(cC h).Frames=dX h.Kernel.Machine.Frames:=rfl;have u:(cC h).Pages=(dS h:Nat):=rfl;have i:fy (tbl h)<=(dS h:Nat):=by
  rw[vJ];have:fil (λp=>decide ((nth (tbl h).Entries p).Mode≠0)) (tbl h).Entries.length<=(tbl h).Entries.length:=by
   unfold fil;exact V4 (List.length_filter_le _ _) (by simp)
  exact Int.ofNat_le.2 this
 have j:dS h<=32:=d.ents;have w:0<=(cC h).Live:=by
  show 0<=dD dK h.Objs h.Objs.length;rw[jg];refine D8 _ λo k=>?_
  have:=vH g o k;unfold dK;split
  ·exact(csz8 _).1
  ·omega
 have y:0<=(cC h).Cached:=by
  show 0<=dD bj h.Caches h.Caches.length;rw[jg];refine D8 _ λc A=>?_
  unfold bj;split
  ·exact uf _ _
  ·exact X4 _
 have B:0<=(cC h).Stale:=by
  show 0<=quarCells h.Quar.Lst h.Quar.Lst.length;rw[r9];exact D8 _ λx _=>(csz8 _).1
 have C:0<=(cC h).Posted:=by
  show 0<=dD (ed h) (aE h.Mail) (aE h.Mail).length;rw[jg];exact D8 _ λx _=>(csz8 _).1
 have D:(cC h).Held<=16*32+1000*32:=by
  show dD Jm h.Spans h.Spans.length+dD (·.Size) h.Larges h.Larges.length<=_;have E:=(jh (f:=Jm) (xs:=h.Spans) (b:=16) (λs _=>LC s) h.Spans.length (z3 _)).2;have F:=(jh (f:=λl:a7=>l.Size) (xs:=h.Larges) (b:=1000) (λl e=>by
    have:=bS (a.L.lok l e);omega) h.Larges.length (z3 _)).2
  have:=d.spans;have:=d.larges;omega
 unfold BF;rw[C0];omega
theorem uX(q:bu)(now:Int)(l:eQ q=true)(M:q.Lst.length<=4096)(F:0<=now/\now<=1000000)(b:∀y∈q.Lst,y.Since<=1000000):ao Tryz.prog 148 false [.val (some 2) (bu.enc .imm q),.val none [I now],.val none [I 100]] (.tup [some 2,none]) (BW q now):=by
 have p:bu.sml q:=⟨ω,λ_ _=>trivial⟩
 have G:=pS q p;have r:=uo q p;rw[l]at r;have t:=aN now 0 1000000;rw[O0 F]at t;have u:=aN 100 0 1000000;rw[O0 (by decide)]at u;have n:=(iA.1 l).1;have a:gH (BW q now):=aS (bu.enc_fr _) (lh _);have w:∀i,i<q.Lst.length->0<=(nth q.Lst i).Since:=λi c=>(n _ (am c)).2.2.2
 unfold BW at a |-;generalize H:kI now q.Lst=k at a |-;refine fO 59 [] Tryz.func148 rfl ?_ (.inr a)
 repeat'(first|refine gO ?_|(conv=>whnf);first|refine C7 (G) ?_|refine C7 (r) ?_|refine C7 (t) ?_|refine C7 (u) ?_)
 (conv=>whnf)
 refine Lp.fz 8 (ι:=Nat) (λi=>[(1,.hold .one [I now]),(2,.hold .one [I 100]),(3,.hold .box (bu.enc .imm q)),(6,.hold .box [I 0,.z]),(8,.hold .box (bu.enc .imm q)),(9,.hold .one [I (i:Nat)])]) (λi=>i<=q.Lst.length/\∀j,j<i->(nth q.Lst j).Since<now - 100) (λi=>q.Lst.length - i) 0 ?_ ⟨U0 _,λj J=>ω⟩ λi c=>?_
 ·(repeat'(first|exact trivial|rfl|exact CJ rfl (show Kn (dw (bu.enc .own q)) (bu.enc .imm q) by rw[bu.enc_fz];exact km _)|refine CJ ?_ ?_))
 obtain⟨c,B⟩:=c;by_cases d:i<q.Lst.length/\(nth q.Lst i).Since<now - 100
 ·have g:=ah d.1
  have:=w i d.1;have:=b _ (am d.1)
  repeat'(first|refine gD ?_|(conv=>whnf);first|with_reducible refine CB (aa g) ?_|refine CH rfl (aa g) rfl ?_)
  ((conv=>whnf);refine CD (i+1) ⟨ω,λj J=>by by_cases e:j=i;(subst e;exact d.2);exact B j ω⟩ ω ?_;(exact wC))
 ·have h:=Bc now (i:=i) c B (λK L=>d ⟨K,L⟩)
  rw[H]at h;subst h;have C:=ru (q.Lst.take k) (by rw[U1];omega);have E:=ru (q.Lst.drop k) (by rw[O3];omega);by_cases o:k<q.Lst.length
  ·have g:=ah o
   have:=w k o;have:=b _ (am o)
   repeat'(first|refine gD ?_|(conv=>whnf);first|with_reducible (first|refine CB (aa g) ?_|refine Bf.D (λl=>?_) (λl=>?_))|refine CH rfl (aa g) rfl ?_|refine CT k rfl (by rw[Z0];omega) (aM λ_=>rfl) t4 ?_|refine CW k rfl (by rw[Z0];omega) (aM λ_=>rfl) v4 ?_|refine C7 (C) ?_|refine C7 (E) ?_|refine CA ?_)
   rfl
  ·repeat'(first|refine gD ?_|(conv=>whnf);first|refine CT k rfl (by rw[Z0];omega) (aM λ_=>rfl) t4 ?_|refine CW k rfl (by rw[Z0];omega) (aM λ_=>rfl) v4 ?_|refine C7 (C) ?_|refine C7 (E) ?_|refine CA ?_)
   rfl
theorem Jo(h:ab)(xs:List aK)(k:Nat)(a:k<xs.length):freeAs h ((xs.take (k+1)).map (·.Addr))=freeA (freeAs h ((xs.take k).map (·.Addr))) (nth xs k).Addr:=by
 unfold freeAs;rw[C5,ah a];simp
theorem yy(h:ab)(n:Int)(o:ab.sml h)(c:bm h [])(u:h.Kernel.Calls≠100000)(p:0<=n/\n<=1000)(e:h.Clock+n<=1000000):ao Tryz.prog 59 false [.val (some 24) (ab.enc .imm h),.val none [I n]] (.tup [some 24,none]) (iM (tick h n)++[I ((jf h n).length:Nat)]):=by
 have w:=w7 h o;have q:=lw h o;rw[pp,c.to]at q;have r:=aN n 0 1000;rw[O0 p]at r;have a:=c.nums;unfold bX at a;rw[C0]at a;have B:=c.lens.quar;have t:=uX h.Quar (h.Clock+n) c.quar ω ω (λy C=>by have:=c.snc y C;omega);unfold BW at t;have b:=c.aged (n:=n) p.1 e;have D:((h.Quar.Lst.take (kI (h.Clock+n) h.Quar.Lst))).length<=512:=by rw[U1];omega
 have g:jf h n=(h.Quar.Lst.take (kI (h.Clock+n) h.Quar.Lst)).map (·.Addr):=rfl;have E:iM (aged h n)=((iM h).set 15 (I (h.Clock+n))).set 13 (.s .own ((h.Quar.Lst.drop (kI (h.Clock+n) h.Quar.Lst)).map (aK.enc .own))):=rfl;unfold tick;rw[g]at b |-;rw[List.append_nil]at b;generalize h.Quar.Lst.take (kI (h.Clock+n) h.Quar.Lst)=out at *;refine fP 63 [(147,[2,0])] [] Tryz.func59 rfl ?_ (.inr (aS (GI _) ⟨trivial,trivial⟩))
 repeat'(first|refine gA ?_|(conv=>whnf);first|refine C7 (w) ?_|refine C7 (q) ?_|refine C7 (r) ?_|refine C7 (t) ?_)
 (conv=>whnf)
 refine CE (ι:=Nat) (λk=>[(4,.hold .box D9),(6,.hold .box (iM (freeAs (aged h n) ((out.take k).map (·.Addr))))),(8,.hold .one (cq .own out)),(50,.bor 8 0 [] none),(51,.hold .one [I (out.length)]),(52,.hold .one [I ((k:Nat):Int)])]) (λk=>k<=out.length) (λk=>out.length - k) (0) ?_ (U0 _) λk G=>?_
 ·exact wC
 by_cases i:k<out.length
 ·have d:=ah i
  have j:out.map (·.Addr)=(out.take k).map (·.Addr)++(nth out k).Addr::(out.drop (k+1)).map (·.Addr):=by
   conv=>lhs;rw[<-List.take_append_drop k out,gQ i]
   simp
  have l:bm (freeAs (aged h n) ((out.take k).map (·.Addr))) ((nth out k).Addr::(out.drop (k+1)).map (·.Addr)):=bm.freeAs (by rw[<-j];exact b);have F:=nA _ _ _ l (by rw[(dy _ _).2.2.1];exact u)
  repeat'(first|refine gD ?_|(conv=>whnf);first|refine CB (aa d) ?_|refine CH rfl (aa d) rfl ?_|refine CI (F) (.inl rfl) ?_)
  ((conv=>whnf);refine CD (k+1) ω ω ?_)
  rw[Jo _ out k i];exact wC
 ·obtain rfl:k=out.length:=ω
  rw[Z4]
  repeat'(first|refine gD ?_|fail)
  rw[Z0]
  rfl
theorem FT{l:List aA}{i:Nat}{x:aA}(h:l[i]? = some x):(l.take (i+1)).map bj=(l.take i).map bj++[bj x]:=by
 rw[C5,h];simp
theorem su(h:ab)(c:wL h.Caches):ao Tryz.prog 60 false [.val (some 24) (ab.enc .imm h)] .one (aF .own (h.Caches.map bj)):=by
 have e:=c.1;refine fO 21 [] Tryz.func60 rfl ?_ (.inr (bJ _))
 repeat'(first|refine gO ?_|fail)
 (conv=>whnf)
 refine CE (ι:=Nat) (λi=>[(3,.hold .one (aF .own ((h.Caches.take i).map bj))),(8,.hold .one (gN .imm h.Caches)),(9,.hold .one [I h.Caches.length]),(10,.hold .one [I (i:Nat)])]) (λi=>i<=h.Caches.length) (λi=>h.Caches.length - i) 0 ?_ (U0 _) λi g=>?_
 ·exact wB
 ·by_cases a:i<h.Caches.length
  ·obtain⟨x,b⟩ : ∃x,h.Caches[i]? = some x:=⟨_,I2 a⟩
   repeat'(first|refine gD ?_|(conv=>whnf);first|with_reducible refine CB (aa b) ?_|refine C7 (nC x (c.2 x (Z1 b))) ?_|refine CQ co (λr d=>by rw[I1.1 d];rfl) (by simp[aX,dH]) (by simp;omega) (by simp only[Z0];exact vq (by simp;omega) (by decide)) rfl ?_|refine CD (i+1) ω ω ?_)
   rw[FT b]
   repeat'(first|exact trivial|rfl|exact CJ rfl (CJ (W0 (C.s d7.own) (by simp[rI])) trivial)|refine CJ ?_ ?_|(exact zw (by first|omega|(simp only;omega)|(simp;omega))))
  ·repeat'(first|refine gD ?_|fail)
   rw[V6 ω]
   rfl
theorem Ls(zs:List Int):(drawn zs).Heap.Clock<=80000:=by
 have a:(rR zs).i<=zs.length:=U0 _;obtain⟨d,b⟩:=ow a;have e:=bF zs (dQ zs) (n:=41) (by decide);obtain⟨f,g,-⟩:=nY (zs:=zs) (c:=dQ zs) b (n:=(bw zs (dQ zs) 41).1.toNat) ω;have h:=KA (nN zs (rR zs)) (kM zs (dQ zs)).1 (kM zs (dQ zs)).1.length;have j:(kM zs (dQ zs)).1.length<=80:=by show(kJ zs (dQ zs) _).1.length<=80;omega
 change (drawn zs).Heap.Clock<=_ at h;omega
theorem zh{t:Nat}{h:ab}(c:bm h [])(d:t<h.Caches.length):∀k,k<=4->(∀s,s≠t->nth (flushN t h k).1.Caches s=nth h.Caches s)/\∀j,j<k->nth (nth (flushN t h k).1.Caches t).Lists j=[]
 | 0,_=>⟨λ_ _=>rfl,λj g=>ω⟩
 | k+1,p=>by
  obtain⟨i,l⟩:=zh c d k ω;obtain⟨n,q,-⟩:=gr c d (k:=k) ω;have a:t<(flushN t h k).1.Caches.length:=ω
  obtain⟨r,-⟩:=dq (n.cach _ (am a));have o:(flushN t h (k+1)).1.Caches=(flushN t h k).1.Caches.set t (Gw (nth (flushN t h k).1.Caches t) k):=(dy _ (spilt (flushN t h k).1 t k)).1;rw[o];refine⟨λs f=>?_,λj g=>?_⟩
  ·rw[ch,C8 (λx=>f x.1.symm)];exact i s f
  ·rw[ch,C9 ⟨rfl,a⟩]
   show nth ((nth (flushN t h k).1.Caches t).Lists.set k []) j=[];rw[ch];split
   ·rfl
   ·rename_i b
    by_cases e:j=k
    ·exact absurd ⟨e.symm,ω⟩ b
    ·exact l j ω
def lL(h:ab):Nat->ab
 | 0=>h
 | t+1=>(flushN t (lL h t) 4).1
structure FL(h:ab)(t:Nat):Prop where
 inv:bm (lL h t) []
 nc:(lL h t).Caches.length=h.Caches.length
 calls:(lL h t).Kernel.Calls=h.Kernel.Calls
 rf:(lL h t).Kernel.Refuse=h.Kernel.Refuse
 mail:(lL h t).Mail=h.Mail
 ck:(lL h t).Clock=h.Clock
 em:∀s,s<t->∀l∈(nth (lL h t).Caches s).Lists,l=[]
theorem FL.of{h:ab}(c:bm h []):∀t,t<=h.Caches.length->FL h t
 | 0,_=>⟨c,rfl,rfl,rfl,rfl,rfl,λs n=>ω⟩
 | t+1,w=>by
  have f:=FL.of c t ω;have a:t<(lL h t).Caches.length:=by rw[f.nc];omega
  obtain⟨d,g,o,-,p,-,-⟩:=gr f.inv a (k:=4) (z3 _);obtain⟨q,r⟩:=zh f.inv a 4 (z3 _);refine⟨d,g.trans f.nc,o.trans f.calls,(sL _ _ _).trans f.rf,p.trans f.mail,(ta _ _ _).trans f.ck,λs n l b=>?_⟩;by_cases e:s=t
  ·subst e
   obtain⟨y,-⟩:=dq (d.cach _ (am (xs:=(flushN s (lL h s) 4).1.Caches) (i:=s) (by rw[g];exact a)));obtain⟨j,u,rfl⟩:=aW b;exact r j (by change j<(nth (flushN s (lL h s) 4).1.Caches s).Lists.length at u;omega)
  ·change l∈(nth (flushN t (lL h t) 4).1.Caches s).Lists at b
   rw[q s e]at b;exact f.em s ω l b
theorem rv:∀(a:List (List Int))(k:Nat),(∀l∈a,l=[])->cK k a=0
 | [],_,_=>rfl
 | l::a,k,h=>by
  rw[cK,h l (V1 ..),rv a (k+1) λm b=>h m (v5 _ b)];simp
theorem EQ{now:Int} : ∀{l:List aK},(∀x∈l,x.Since<now - 100)->kI now l=l.length
 | [],_=>rfl
 | x::xs,h=>by
  unfold kI;rw[C9 (h x (V1 ..)),EQ λy a=>h y (v5 _ a),List.length_cons]
theorem KH{h:ab}(g:bm h [])(i:h.Clock<=80000):bm (tick (lL h h.Caches.length) 500) []/\(tick (lL h h.Caches.length) 500).Kernel.Refuse=h.Kernel.Refuse/\(tick (lL h h.Caches.length) 500).Mail=h.Mail/\(tick (lL h h.Caches.length) 500).Caches.length=h.Caches.length/\(∀c∈(tick (lL h h.Caches.length) 500).Caches,bj c=0)/\(tick (lL h h.Caches.length) 500).Quar.Lst=[]:=by
 have f:=FL.of g h.Caches.length (z3 _);have a:=f.inv.nums;unfold bX at a;rw[C0]at a;have t:=f.ck;obtain⟨k,-⟩:=f.inv.tick (n:=500) (by decide) ω;obtain⟨e,u,w,l,y,A,o,p⟩:=dy (jf (lL h h.Caches.length) 500) (aged (lL h h.Caches.length) 500);have q:kI ((lL h h.Caches.length).Clock+500) (lL h h.Caches.length).Quar.Lst=(lL h h.Caches.length).Quar.Lst.length:=EQ λx r=>by have:=f.inv.snc x r;omega
 refine⟨k,p.trans f.rf,l.trans f.mail,?_,λc b=>?_,?_⟩
 ·show(freeAs _ _).Caches.length=_
  rw[e];exact f.nc
 ·change c∈(freeAs _ _).Caches at b
  rw[e]at b;obtain⟨j,d,rfl⟩:=aW b;change j<(lL h h.Caches.length).Caches.length at d;unfold bj;split
  ·exact rv _ _ (f.em j (by rw[f.nc]at d;exact d))
  ·rfl
 ·show(freeAs _ _).Quar.Lst=[]
  rw[o];show(lL h h.Caches.length).Quar.Lst.drop (kI ((lL h h.Caches.length).Clock+500) (lL h h.Caches.length).Quar.Lst)=[];rw[q,List.drop_length]
def rd(a b c d e f g h i j o10 o11 o12 o13:d7)(x:bD):List C:=[.s a (x.Heap.Kernel.Machine.Frames.Cells.map (aF a)),.s b (x.Heap.Kernel.Machine.Frames.Used.map (rB b)),.s c (x.Heap.Kernel.Machine.Table.Entries.map (bf.enc c)),I x.Heap.Kernel.Calls,.s d (x.Heap.Kernel.Refuse.map (rI d)),.s e (x.Heap.Free.map (ax.enc e)),.s f (x.Heap.Spans.map (ar.enc f)),.s g (x.Heap.Larges.map (a7.enc g)),.s h (x.Heap.Objs.map (bK.enc h)),.s i (x.Heap.Caches.map (aA.enc i)),.s j (x.Heap.Mail.Buffers.map (cz j)),.s o10 (x.Heap.Mail.Inbox.map (aF o10)),I x.Heap.Quar.Room,.s o11 (x.Heap.Quar.Lst.map (aK.enc o11)),I x.Heap.Seed,I x.Heap.Clock,I x.Heap.Limit,I x.Heap.Next,B x.Heap.Meshing,I x.Heap.Job.Plan.Keep,I x.Heap.Job.Plan.Move,.s o12 (x.Heap.Job.Plan.Cells.map (rI o12)),I x.Heap.Job.Phase,I x.Heap.Job.Next,I x.Ref.Next,.s o13 (x.Ref.Objs.map (b9.enc o13))]
def R1(h:ab):Nat->List C
 | 0=>ab.enc .imm h
 | t+1=>iM (lL h (t+1))
theorem Flushed_law(zs:List Int)(G:zs.length<=9223372036854775807/\∀y∈zs,0<=y/\y<=255):ao Tryz.prog 14 false [.val none (QK zs)] .one [B true]:=by
 have n:=Qu zs G.1;by_cases H:(zs.length:Int) > 1048576
 ·rw[O0 H]at n
  refine fP 97 [(2000004,[3,0,1,2,4,5,6,7,8,9,10,11,13,21,25])] [] Tryz.func14 rfl ?_
  repeat'(first|refine gO ?_|(conv=>whnf);first|refine C7 (n) ?_)
  rfl
 rw[T0 H]at n;have P:j8 zs:=⟨ω,G.2⟩
 have cD:=wF zs P;have g:=(EX zs).inv;obtain⟨p,Q⟩:=HS zs;have h:=DJ zs;have R:=KF zs;have q:=Ls zs;generalize drawn zs=w at *;have J:w.Heap.Kernel.Calls≠100000:=ω
 have S:=g.lens.caches;have T:0<w.Heap.Caches.length:=by
  obtain⟨⟨m1,-,-⟩,-⟩:=dE.1 g.mail;have:=g.nc;omega
 obtain⟨k,U,V,W,K,d6⟩:=KH g q;have fN:=FL.of g w.Heap.Caches.length (z3 _);have fNs:=(fN.inv.fit (by rw[fN.rf];exact h) (by rw[fN.mail];exact p.2.2.2.2.2.2.1)).sml;have hkN:=fN.ck;have u:=yy (lL w.Heap w.Heap.Caches.length) 500 fNs fN.inv (by rw[fN.calls];exact J) (by decide) ω;have d:∀t,t<w.Heap.Caches.length->ao Tryz.prog 58 false [.val (some 24) (ab.enc .imm (lL w.Heap t)),.val none [I (t:Nat)]] (.tup [some 24,none]) (iM (lL w.Heap (t+1))++[I ((flushN t (lL w.Heap t) 4).2:Nat)]):=λt L=>by
  have f:=FL.of g t ω;exact wq (lL w.Heap t) t (f.inv.fit (by rw[f.rf];exact h) (by rw[f.mail];exact p.2.2.2.2.2.2.1)).sml f.inv.to (by rw[f.calls];exact J) (by rw[f.nc];exact L)
 have D:=(k.fit (by rw[U];exact h) (by rw[V];exact p.2.2.2.2.2.2.1)).sml;generalize hX:tick (lL w.Heap w.Heap.Caches.length) 500=X at *;have c3:=vD X D k.to;have c4:=su X D.2.2.2.2.2.1;have M:=lw X D;rw[pp,k.to]at M;have eb:=balance k;have e1:(cC X).Cached=0:=by
  show dD bj X.Caches X.Caches.length=0;rw[jg,rL (c:=0) X.Caches K];omega
 have e2:(cC X).Stale=0:=by
  show quarCells X.Quar.Lst X.Quar.Lst.length=0;rw[d6]
  rfl
 have l:=NU k;unfold BF at l;rw[C0]at l;have e3:(cC X).Pages=(X.Kernel.Machine.Table.Entries.length:Nat):=rfl;have j:=rP X;have hll:(X.Caches.map bj).length=w.Heap.Caches.length:=by rw[Z0];exact W
 have E:∀i,i<(X.Caches.map bj).length->(X.Caches.map bj)[i]? = some 0:=λi F=>by
  rw[Z0]at F;rw[C3,ah F,t5,K _ (am F)]
 generalize X.Caches.map bj=xs at *;refine fP 97 [(2000004,[3,0,1,2,4,5,6,7,8,9,10,11,13,21,25])] [] Tryz.func14 rfl ?_
 repeat'(first|refine gO ?_|(conv=>whnf);first|refine C7 (n) ?_|refine C7 (cD) ?_|refine CV (off:=0) (bs':=rd .imm .own .own .own .own .own .own .own .own .own .own .own .own .own w) rfl (List.cons.inj (zy _)).1 rfl ?_|refine CV (off:=1) (bs':=rd .imm .imm .own .own .own .own .own .own .own .own .own .own .own .own w) rfl (List.cons.inj (Jd _)).1 rfl ?_|refine CV (off:=2) (bs':=rd .imm .imm .imm .own .own .own .own .own .own .own .own .own .own .own w) rfl (List.cons.inj (E9 _)).1 rfl ?_|refine CV (off:=4) (bs':=rd .imm .imm .imm .imm .own .own .own .own .own .own .own .own .own .own w) rfl (List.cons.inj (dL _)).1 rfl ?_|refine CV (off:=5) (bs':=rd .imm .imm .imm .imm .imm .own .own .own .own .own .own .own .own .own w) rfl (List.cons.inj (d8 _)).1 rfl ?_|refine CV (off:=6) (bs':=rd .imm .imm .imm .imm .imm .imm .own .own .own .own .own .own .own .own w) rfl (List.cons.inj (fB _)).1 rfl ?_|refine CV (off:=7) (bs':=rd .imm .imm .imm .imm .imm .imm .imm .own .own .own .own .own .own .own w) rfl (List.cons.inj (jt _)).1 rfl ?_|refine CV (off:=8) (bs':=rd .imm .imm .imm .imm .imm .imm .imm .imm .own .own .own .own .own .own w) rfl (List.cons.inj (yY _)).1 rfl ?_|refine CV (off:=9) (bs':=rd .imm .imm .imm .imm .imm .imm .imm .imm .imm .own .own .own .own .own w) rfl (List.cons.inj (E4 _)).1 rfl ?_|refine CV (off:=10) (bs':=rd .imm .imm .imm .imm .imm .imm .imm .imm .imm .imm .own .own .own .own w) rfl (List.cons.inj (D1 _)).1 rfl ?_|refine CV (off:=11) (bs':=rd .imm .imm .imm .imm .imm .imm .imm .imm .imm .imm .imm .own .own .own w) rfl (List.cons.inj (zy _)).1 rfl ?_|refine CV (off:=13) (bs':=rd .imm .imm .imm .imm .imm .imm .imm .imm .imm .imm .imm .imm .own .own w) rfl (List.cons.inj (uj _)).1 rfl ?_|refine CV (off:=21) (bs':=rd .imm .imm .imm .imm .imm .imm .imm .imm .imm .imm .imm .imm .imm .own w) rfl (List.cons.inj (dL _)).1 rfl ?_|refine CV (off:=25) (bs':=rd .imm .imm .imm .imm .imm .imm .imm .imm .imm .imm .imm .imm .imm .imm w) rfl (List.cons.inj (AY _)).1 rfl ?_)
 obtain⟨m,hm⟩ : ∃m,w.Heap.Caches.length=m+1:=⟨w.Heap.Caches.length - 1,ω⟩
 rw[hm]at u;obtain⟨Gf,N,o⟩ : ∃Gf:Nat->List C,Gf 0=ab.enc .imm w.Heap/\∀t,Gf (t+1)=iM (lL w.Heap (t+1)):=⟨R1 w.Heap,rfl,λ_=>rfl⟩
 (conv=>whnf)
 refine CE (ι:=Nat) (λt=>[(3,.hold .box (bD.enc .imm w)),(4,.hold .box (Gf t)),(5,.hold .one [I (t:Nat)])]) (λt=>t<=w.Heap.Caches.length) (λt=>w.Heap.Caches.length - t) 0 ?_ (U0 _) λt L=>?_
 ·simp only[N]
  exact wC
 by_cases lt:t<w.Heap.Caches.length
 ·have e:=d t lt
  have a:=rP (lL w.Heap t);cases t with
  | zero=>
   generalize hY:lL w.Heap (0+1)=Y at e;change ao _ _ _ [.val (some 24) (ab.enc .imm w.Heap),_] _ _ at e;generalize (flushN 0 (lL w.Heap 0) 4).2=r at e;clear d a;simp only[N]
   repeat'(first|refine gD ?_|(conv=>whnf);first|refine CG (e) ⟨⟨rfl,rfl⟩,⟨rfl,rfl⟩,trivial⟩ ?_)
   ((conv=>whnf);refine CD (0+1) ω ω ?_)
   simp only[o,hY];exact wC
  | succ t=>
   generalize hZ:lL w.Heap (t+1+1)=Z at e;generalize (flushN (t+1) (lL w.Heap (t+1)) 4).2=r at e;have b:=o t;generalize lL w.Heap (t+1)=Y at e a b;clear d;simp only[b]
   repeat'(first|refine gD ?_|(conv=>whnf);first|refine CG (e) ⟨⟨rfl,a⟩,⟨rfl,rfl⟩,trivial⟩ ?_)
   ((conv=>whnf);refine CD (t+1+1) ω ω ?_)
   simp only[o,hZ];exact wC
 obtain rfl:t=m+1:=ω
 have a:=rP (lL w.Heap (m+1));have b:=o m;clear d;generalize lL w.Heap (m+1)=Y at u a b;simp only[b]
 repeat'(first|refine gD ?_|(conv=>whnf);first|refine CG (u) ⟨⟨rfl,a⟩,⟨rfl,rfl⟩,trivial⟩ ?_|refine CG (c3) ⟨⟨rfl,j⟩,trivial⟩ ?_|refine CG (c4) ⟨⟨rfl,j⟩,trivial⟩ ?_)
 (conv=>whnf)
 refine CE (ι:=Nat) (λi=>[(3,.hold .box (bD.enc .imm w)),(4,.hold .box (iM X)),(6,.hold .box (gS.enc .own (cC X))),(7,.hold .one [I (0)]),(8,.hold .one (aF .own xs)),(9,.hold .one [I ((i:Nat):Int)])]) (λi=>i<=xs.length) (λi=>xs.length - i) (0) ?_ (U0 _) λi g=>?_
 ·exact wC
 by_cases lx:i<xs.length
 ·have O:=E i lx
  repeat'(first|refine gD ?_|(conv=>whnf);first|refine CB (aa O) ?_|refine CH rfl (aa O) rfl ?_)
  ((conv=>whnf);refine CD (i+1) ω ω ?_;(exact wC))
 obtain rfl:i=xs.length:=ω
 repeat'(first|refine gA ?_|(conv=>whnf);first|refine CG (M) ⟨⟨rfl,j⟩,trivial⟩ ?_)
 exact W0 (λz=>[B z]) (by rw[e3];exact beq_self_eq_true _)
open Go.RowKit Go.ChangeShapes Go.WideShapes Go.Deep
def ALL(w:World):ac:=λb _=>b<w.heap.size
def QZ{H:Type}(e:TypeId × Value->H)(P:Program)(w:World)(t n:Nat){α:Type}(enc:α->List C)(c:α->Prop):Prop:=
 ∀(fuel:Nat)(b:List Value)(x:DataW H × List MemPlace),DataW.trod e P w 0 (λ_=>true) true fuel t b=some x->b.length=n/\∃a,c a/\(enc a).length=n/\cP w (ALL w) NO (enc a) (λj=>b.getD j undef)
section
variable{H:Type}{e:TypeId × Value->H}{P:Program}{w:World}
theorem AD{S F:ac}{c:C}{u:Nat->Value}(h:eC w S F c (u 0)):cP w S F [c] u:=
 ⟨λ_=>F,λj e a=>by cases j with
   | zero=>simp at a;subst a;exact h
   | succ j=>simp at a,λ_ _ _ _ h=>h,λj f a b d=>by simp at a b;omega⟩
theorem pick{α β:Type}(n:Nat){Q:Nat->β->Prop}(h:∀i,i<n->∃b,Q i b):∃l:List β,l.length=n/\∀i b,l[i]? = some b->Q i b:=by
 induction n with
 | zero=>exact⟨[],rfl,λi b h=>by simp at h⟩
 | succ n c=>
  obtain⟨l,d,e⟩:=c λi a=>h i ω
  obtain⟨b,f⟩:=h n ω;refine⟨l++[b],by simp[d],λi g a=>?_⟩;by_cases j:i<n
  ·rw[I4 ω]at a;exact e i g a
  ·rw[O4 ω]at a
   have:i - l.length=0:=by
    have:=(O2.1 a).1;simp at this;omega
   rw[this]at a;simp at a;subst a;rw[show i=n by omega];exact f
theorem KN{t T n:Nat}{α:Type}{enc:α->List C}{U:α->Prop}(V:QZ e P w T n enc U)(ht:P.underlying t=some (.slice T))(hn:P.cellsOf T=n)(p:0<n) :
  QZ e P w t 1 (λxs:List α=>[.s .imm (xs.map enc)]) (λxs=>xs.length<=9223372036854775807/\∀y∈xs,U y):=by
 intro fuel cs x h;rcases open_slice ht h with⟨rfl,-⟩|⟨k,len,cap,m,n',D,Pl,rfl,-,hl,hm,K,-,u⟩
 ·exact⟨rfl,[],⟨by simp,by simp⟩,rfl,AD (.nil _ _ _ trivial)⟩
 ·simp only[if_true]at K
  subst K;have L:0<m->k.spot=none:=λW=>by
   obtain⟨E,M,N⟩:=u 0 W;rw[hn]at M;obtain⟨_,X,F⟩:=World.cells?_some M;have:=F 0 p;rw[I2 ω]at this;have:=World.cell?_spot this;simpa[Addr.add] using this
  have key:∀i,i<len->∃a,U a/\(enc a).length=n/\(∀d,d<n->∃z,cel w k.block (k.off+(i*n+d))=some z)/\k.spot=none/\cP w (ALL w) NO (enc a) (λd=>(cel w k.block (k.off+(i*n+d))).getD undef):=λi hil=>by
   have g:=L ω;obtain⟨E,M,N⟩:=u i ω;rw[hn]at M;obtain⟨h1,a,h3,h4,h5⟩:=V _ _ _ N;obtain⟨_,X,F⟩:=World.cells?_some M;have O:∀d,k.add d = ⟨k.block,k.off+d,none⟩:=λd=>by
    obtain⟨b,o,sp⟩:=k;simp only at g;subst g;unfold Addr.add;split<;>simp_all
   have A:∀d,d<n->cel w k.block (k.off+(i*n+d))=E[d]?:=λd J=>by
    have:=F d J;rw[Go.Deep.add_add,O]at this;exact this
   refine⟨a,h3,h4,λd J=>⟨_,by rw[A d J,I2 ω]⟩,g,h5.congr λd J=>?_⟩;show(cel w k.block (k.off+(i*n+d))).getD undef=E.getD d undef;rw[A d ω,List.getD]
  obtain⟨l,Q,B⟩:=pick (α:=α) len key;refine⟨rfl,l,⟨by simp only[maxLen]at hm;omega,λy R=>?_⟩,rfl,AD ?_⟩
  ·obtain⟨i,G⟩:=List.mem_iff_getElem?.1 R
   exact(B i y G).1
  ·show eC w (ALL w) NO (.s .imm (l.map enc)) (.slice (some k) len m)
   by_cases h0:len=0
   ·subst h0
    have:l=[]:=X6 Q;subst this;by_cases Y:m=0
    ·subst Y;exact .nil _ _ _ trivial
    ·have g:=L ω
     obtain⟨b,o,sp⟩:=k;simp only at g;subst g;exact .imm _ b o n 0 m [] (λ_=>undef) rfl (λr Z=>by simp at Z) hl (λq hq=>by simp at hq) (λi j r c u=>by simp at u)
   ·obtain⟨y0,hy0⟩ : ∃y,l[0]? = some y:=⟨_,I2 ω⟩
    have g:=(B 0 y0 hy0).2.2.2.1;obtain⟨b,o,sp⟩:=k;simp only at g;subst g;refine .imm _ b o n len m (l.map enc) (λq=>(cel w b (o+q)).getD undef) (by simpa using Q) (λr Z=>?_) hl (λq hq=>?_) (λi j r c u hj=>?_)
    ·obtain⟨y,R,rfl⟩:=z4.1 Z
     obtain⟨i,G⟩:=List.mem_iff_getElem?.1 R;exact(B i y G).2.1
    ·have hqd:q / n<len:=(Nat.div_lt_iff_lt_mul p).2 hq
     obtain⟨y,R⟩ : ∃y,l[q / n]? = some y:=⟨_,I2 ω⟩
     obtain⟨z,S⟩:=(B _ y R).2.2.1 (q % n) (Nat.mod_lt _ p);have J:q / n*n+q % n=q:=by rw[Nat.mul_comm];exact Nat.div_add_mod q n
     rw[J]at S;exact⟨PO S,by simp only at S |-;rw[S];rfl⟩
    ·rw[C3]at u
     cases H:l[i]? with
     | none=>rw[H]at u;cases u
     | some y=>
      rw[H]at u;simp only[t5,X0]at u;subst u;obtain⟨f,h1,h2,-⟩:=(B i y H).2.2.2.2;have hjl:=(O2.1 hj).1;exact(h1 j c hj).mono (λ_ _ h=>h) (h2 j hjl)
theorem row_val{S F:ac}{x:Value}{u:Nat->Value}(h:cP w S F [.v x] u):u 0=x:=by
 obtain⟨f,a,-⟩:=h;have:=a 0 _ rfl;cases this
 rfl
end
open Go.RowKit Go.ChangeShapes Go.WideShapes
section
variable{H:Type}{e:TypeId × Value->H}{P:Program}{w:World}
theorem NP{t:Nat}(b:P.underlying t=some (.int .u8)):QZ e P w t 1 rU (λz=>0<=z/\z<=255):=by
 intro fuel c x h;obtain⟨n,rfl,-,a⟩:=DataW.trod_int b h;refine⟨rfl,n,?_,rfl,AD (.v _ _ rfl)⟩;simp only[Lit.wf,I0,C0]at a;exact a
theorem op_ByteS:QZ e Tryz.prog w 22 1 (λzs:List Int=>[.s .imm (zs.map rU)]) (λzs=>zs.length<=9223372036854775807/\∀y∈zs,0<=y/\y<=255):=KN (NP Tryz.underlying5) Tryz.underlying22 (by kernel_rfl) (by decide)
end
end Go.Proofs.YtembpgjjnioagaaGreat.Ab
