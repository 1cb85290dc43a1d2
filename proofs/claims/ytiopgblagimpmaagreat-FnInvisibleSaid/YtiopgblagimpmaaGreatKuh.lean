/- The library's Delete at ranges: its own text, walked. No condition. -/
import Derived.Test.YtiopgblagimpmaaGreatKuc
import Derived.Test.YtiopgblagimpmaaGreatKue
import Derived.Test.YtiopgblagimpmaaGreatKug
import Derived.Lib.Overlaps
import Derived.Lib.AppendZerosOnto
import Derived.Laws.NewBlocks
import Derived.Laws.Externs
import Derived.Test.YtiopgblagimpmaaGreatKud
import Derived.Test.YtiopgblagimpmaaGreatKuf
set_option linter.unusedVariables false
set_option linter.defProp false
set_option linter.unusedSimpArgs false
set_option linter.constructorNameAsVariable false
namespace Go.Proofs.YtiopgblagimpmaaGreat.Ab
open Go.RowKit
set_option maxRecDepth 100000
set_option maxHeartbeats 4000000
def JT:∀w,(zeroValue 180).run Tryz.prog w=.ok (.agg #[.int .i64 0,.int .i64 0]) w:=λ_=>by kernel_rfl
def D1:vd Tryz.prog 458 2:=by
 refine⟨⟨_,Tryz.func458,by kernel_rfl,by kernel_rfl⟩,λw g n c i news r y o B C b=>?_⟩;obtain⟨A,W,a⟩:=tp o y r B;have a:Hid (∀t u,news[t]? = some u->w.drew.cell? (A.add t)=some u):=a;have S:Hid (news.length=(n - (i+1))*2):=o;have X:Hid (∀u∈news,u.oneCell'=true):=C;have Y:Hid (∀t,t<news.length->(w.drew.cell? ⟨g,0+i*2+t,none⟩).isSome=true/\w.drew.frozen? ⟨g,0+i*2+t,none⟩ = false):=λt ht=>by
  rw[W9];exact b (i*2+t) ω
 obtain⟨p,d⟩ : ∃p,p=w.drew.setCells g (0+i*2) news:=⟨_,rfl⟩
 have K:∀q,q<n*2->(p.cell? ⟨g,q,none⟩).isSome=true/\p.frozen? ⟨g,q,none⟩ = false:=λq T=>by
  have D:∀j,j<news.length->∃z,cel w.drew g (0+i*2+j)=some z:=λj L=>by
   have:=(b (0+i*2+j) ω).1;exact Option.isSome_iff_exists.1 this
  refine⟨?_,by rw[d];exact(C1 Prod.fst (bM g _ news w.drew g q)).trans (b q T).2⟩;rw[d];by_cases h:0+i*2<=q/\q<0+i*2+news.length
  ·have:=bo D (I3 (show q - (0+i*2)<news.length by omega))
   rw[show 0+i*2+(q - (0+i*2))=q by omega]at this;show(cel _ g q).isSome=true;rw[this];rfl
  show(cel _ g q).isSome=true;rw[aW (λx=>h x.2)];exact(b q T).1
 obtain⟨zs,E,F,G⟩:=tG (P:=Tryz.prog) p 36 180 2 (.agg #[.int .i64 0,.int .i64 0]) Tryz.underlying36 JT rfl (by intro v U;simp[Value.cells]at U;subst U;rfl) g ((i+(n - (i+1)))*2) (n - (i+(n - (i+1)))) ω (by decide) (λj L=>(K _ ω).1) (λj L=>(K _ ω).2);have k:Hid (zs.length=(n - (i+(n - (i+1))))*2):=E;have H:Hid (∀v∈zs,v.oneCell'=true):=F;have V:Hid (p=w.drew.setCells g (0+i*2) news):=d;have Z:i<=c:=ω
 have M:i+1<=c:=ω
 have N:¬i=i+1:=ω
 have O:i+1<=n:=r;have l:n - 1=i+(n - (i+1)):=ω
 clear d K b B C o E F;rw[l];generalize L:i+1=j at W a S G k M N O l |-;obtain⟨J,Q,R⟩ : ∃J,Tryz.prog.info? 180=some J/\J.size=2:=by
  have h:=(mF 180 _ rfl).1;cases e : Tryz.prog.info? 180 with
  | none=>rw[e]at h;cases h
  | some x=>rw[e]at h;simp only[O7,I1,Prod.mk.injEq]at h;exact⟨x,rfl,h.2.1⟩
 have mixed : Tryz.prog.follows .mixedOrders=true:=by kernel_rfl
 go_enter Tryz.func458,Tryz.ntmps458
 go_wp2_with fail
 go_region_law_o (refine step_append_room rfl (.tmp 22) (.tmp 25) 36 rfl 180 J 2 Tryz.underlying36 Q R g 0 i c (by simp[Act.eval,Act.put]) A (n - j) (c - j) news (by simp[Act.eval,Act.put]) S.out a.out X.out ω Y.out ?_;rw[<-V.out])
 go_wp2
 go_ret
 refine⟨rfl,zs,by have:=k.out;omega,H.out,?_⟩;rw[V.out,W9]
def EU(xs:List aC)(i:Nat)(a:i<xs.length):zzB 458 false [.mut none [.s .own (xs.map (aC.enc .own))],.val none [I (i:Nat)],.val none [I ((i+1:Nat):Int)]] [.mut none [.x],.val none [I (i:Nat)],.val none [I ((i+1:Nat):Int)]] .one [oE ((dele xs i).map (aC.enc .own))]:=by
 have h:=xQ D1 (rows:=xs.map (aC.enc .own)) (i:=i) (by rw[O1];exact a) (aS λ_=>rfl) (bc _ _ λx _=>aC.enc_fr x)
 rwa [show dele (xs.map (aC.enc .own)) i=(dele xs i).map (aC.enc .own) by simp[dele,Y5,Z5]]at h
variable{α:Type}
def Pc(xs:List α)(b:Nat)(y:α):dele (xs.set b y) b=dele xs b:=by
 unfold dele;rw[List.take_set_of_le (O4 b),List.drop_set_of_lt (Nat.lt_succ_self b)]
set_option maxRecDepth 20000
def sW(k:am)(p:Int)(c:aF k=true)(w:k.Calls≠100000)(n:0<=p/\p<k.F.Q.J.length)(y:(nth k.F.Q.J p.toNat).e=0):zzA 341 false [.val (some 5) (am.enc .S k),.val none [I p]] (.tup [some 5,none]) (am.enc .own (newK k p).1++[B (newK k p).2]):=by
 have h:=bX c;have C:=(aH.1 c).2.2.2;have D:=(bu.1 (aH.1 c).2.2.1).2.2;have d:=ig k h;rw[c,O0 w]at d;have g:=ox k h ⟨ω,ω⟩;have a:=x6 k.F.X (aH.1 c).2.1 h.1.1;have j:af k.F.Q p=nth k.F.Q.J p.toNat:=by unfold af;exact CD n
 have o:=aG p 0 ((k.F.Q.J.length:Int) - 1);rw[O0 ω]at o;have q:=eP k p h.1.2;rw[j,y,X0 (by decide)]at q;have r:=ax (xs:=k.F.Q.J) (i:=p.toNat) ω;unfold wj at a;unfold newK;cases e:refd k<;>rw[e]at g
 ·by_cases b:tY k<0
  ·rw[CD (.inr b)]
   rw[CD (show cF (λu=>!u) k.F.X.a4<0 from b)]at a;simp only at a;refine fO 64 [] Tryz.func341 rfl ?_ (.inr (aD (CZ _) ⟨trivial,trivial⟩))
   repeat'(first|refine gP ?_|(conv=>whnf);first|refine CB (d) ?_|refine CB (g) ?_|refine CB (a) ?_)
   rfl
  rw[CC (by simp[b])];rw[CC (show ¬cF (λu=>!u) k.F.X.a4<0 from b)]at a;simp only at a;obtain⟨f,t⟩:=C4 (show 0<=tY k by omega);have l:cF (λu=>!u) k.F.X.a4=(f:Nat):=t;rw[l]at a;rw[t];simp only[Z3]at a |-;rw[B0]at a;rw[HX];refine fO 64 [] Tryz.func341 rfl ?_ (.inr (aD (by rw[<-HX];exact CZ _) ⟨trivial,trivial⟩))
  repeat'(first|refine gP ?_|(conv=>whnf);first|refine CB (d) ?_|refine CB (g) ?_|refine CB (a) ?_|refine CB (o) ?_|refine CB (q) ?_|refine CP n.1 (aa r) ?_|refine CR rfl rfl (aa r) rfl (Z1 rfl) rfl ?_)
  rfl
 rw[CD (.inl rfl)];by_cases b:tY k<0
 ·rw[CD (show cF (λu=>!u) k.F.X.a4<0 from b)]at a
  simp only at a;refine fO 64 [] Tryz.func341 rfl ?_ (.inr (aD (CZ _) ⟨trivial,trivial⟩))
  repeat'(first|refine gP ?_|(conv=>whnf);first|refine CB (d) ?_|refine CB (g) ?_|refine CB (a) ?_)
  rfl
 rw[CC (show ¬cF (λu=>!u) k.F.X.a4<0 from b)]at a;simp only at a;refine fO 64 [] Tryz.func341 rfl ?_ (.inr (aD (CZ _) ⟨trivial,trivial⟩))
 repeat'(first|refine gP ?_|(conv=>whnf);first|refine CB (d) ?_|refine CB (g) ?_|refine CB (a) ?_)
 rfl
def VB(xs:List aC)(n:Int):List C:=(if(ay xs n).2.2=true then [oE ((ay xs n).1.map (aC.enc .own))] else bF .own xs)++[I (ay xs n).2.1,B (ay xs n).2.2]
def Vf(xs:List aC)(n:Int):iq (VB xs n):=by
 unfold VB;split
 ·exact aD ⟨EX (kM _).1.2,trivial⟩ ⟨trivial,trivial,trivial⟩
 exact aD (kM _) ⟨trivial,trivial,trivial⟩
def Bb(xs:List aC)(b:Nat)(y:aC):(xs.set b y).map (aC.enc .own)=(xs.map (aC.enc .own)).set b [I y.At,I y.a6]:=by rw[X8];rfl
def ye(pages:Int)(xs:List aC)(n:Int)(K:0<=pages/\pages<=1048576)(u:bH pages xs=true)(R:1<=n/\n<=1000)(S:xs.length<=4096):zzA 340 false [.val none [I pages],.val none (bF .S xs),.val none [I n]] (.tup [none,none,none]) (VB xs n):=by
 have p:gM xs:=⟨ω,λ_ _=>trivial⟩
 have w:=mS pages xs K p;rw[u]at w;have L:=kR xs p;have B:=(xa u).2;refine fP 91 [(458,[1,0,0])] [(8,15,[32,33,34,35,36,37,38,39,40,41,42,43,44,45,46])] Tryz.func340 rfl ?_ (.inr (Vf xs n))
 repeat'(first|refine gE ?_|(conv=>whnf);first|refine CB (w) ?_|refine CB (L) ?_)
 (conv=>whnf)
 refine CH (ι:=Nat) (λi=>[(1,.H .one (bF .S xs)),(2,.H .one [I (n)]),(9,.H .one (bF .own xs)),(10,.H .one [I (jH xs n i)]),(25,.H .one (bF .S xs)),(26,.H .one [I (xs.length)]),(27,.H .one [I ((i:Nat):Int)])]) (λi=>i<=xs.length) (λi=>xs.length - i) (0) ?_ (Z0 _) λi M=>?_
 ·exact wC
 have l:=yq xs n i M;by_cases E:i<xs.length
 ·have k:=ax E
  have N:=B _ (au E);have d:jH xs n (i+1)=if n<=(nth xs i).a6/\(jH xs n i<0\/(nth xs i).a6<(nth xs (jH xs n i).toNat).a6) then((i:Nat):Int) else jH xs n i:=rfl
  by_cases F:n<=(nth xs i).a6
  ·by_cases O:jH xs n i<0
   ·rw[CD ⟨F,.inl O⟩]at d
    repeat'(first|refine gE ?_|(conv=>whnf);first|with_reducible (first|refine CF (aa k) ?_|refine Bf.D (λh=>?_) (λh=>?_))|refine CJ rfl (aa k) rfl ?_)
    ((conv=>whnf);refine CG (i+1) ω ω ?_)
    rw[d];exact wC
   have a:=ax (xs:=xs) (i:=(jH xs n i).toNat) ω;by_cases P:(nth xs i).a6<(nth xs (jH xs n i).toNat).a6
   ·rw[CD ⟨F,.inr P⟩]at d
    repeat'(first|refine gE ?_|(conv=>whnf);first|with_reducible (first|refine CF (aa k) ?_|refine CP ω (aa a) ?_|refine Bf.D (λh=>?_) (λh=>?_))|refine CJ rfl (aa k) rfl ?_)
    ((conv=>whnf);refine CG (i+1) ω ω ?_)
    rw[d];exact wC
   rw[CC ω]at d
   repeat'(first|refine gE ?_|(conv=>whnf);first|with_reducible (first|refine CF (aa k) ?_|refine CP ω (aa a) ?_|refine Bf.D (λh=>?_) (λh=>?_))|refine CJ rfl (aa k) rfl ?_)
   ((conv=>whnf);refine CG (i+1) ω ω ?_)
   rw[d];exact wC
  rw[CC ω]at d
  repeat'(first|refine gE ?_|(conv=>whnf);first|with_reducible (first|refine CF (aa k) ?_|refine Bf.D (λh=>?_) (λh=>?_))|refine CJ rfl (aa k) rfl ?_)
  ((conv=>whnf);refine CG (i+1) ω ω ?_)
  rw[d];exact wC
 obtain rfl:i=xs.length:=ω
 change iD xs n = -1\/_ at l;unfold VB ay;rw[show jH xs n xs.length=iD xs n from rfl];by_cases e:iD xs n<0
 ·rw[CD e]
  rw[show iD xs n = -1 from l.resolve_right λg=>by have T:0<=iD xs n:=g.1;omega]
  repeat'(first|refine gE ?_|(conv=>whnf);first|with_reducible refine Bf.D (λh=>?_) (λh=>?_))
  rfl
 rw[CC e];obtain⟨Q,G,U⟩:=l.resolve_left ω;change 0<=iD xs n at Q;change iD xs n<xs.length at G;obtain⟨b,r⟩:=C4 (show 0<=iD xs n by omega);rw[r]at G |-;simp only[Z3];have a:=ax (xs:=xs) (i:=b) ω;have N:=B _ (au (xs:=xs) (i:=b) ω);have c:((xs.map (aC.enc .own)).set b [I ((nth xs b).At+n),I (nth xs b).a6])[b]? = some [I ((nth xs b).At+n),I (nth xs b).a6]:=lH ω;have j:((xs.set b ⟨(nth xs b).At+n,(nth xs b).a6 - n⟩).map (aC.enc .own))[b]? = some [I ((nth xs b).At+n),I ((nth xs b).a6 - n)]:=by rw[Bb];exact lH ω
 have o:∀t:List C,t.set 0 (.s .own (((xs.map (aC.enc .own)).set b [I ((nth xs b).At+n),I (nth xs b).a6]).set b [I ((nth xs b).At+n),I ((nth xs b).a6 - n)]))=t.set 0 (.s .own ((xs.set b ⟨(nth xs b).At+n,(nth xs b).a6 - n⟩).map (aC.enc .own))):=λt=>by rw[Bb,List.set_set]
 have q:=EU (xs.set b ⟨(nth xs b).At+n,(nth xs b).a6 - n⟩) b (by rw[I2];omega);rw[Pc]at q;by_cases H:(nth xs b).a6=n
 ·rw[CD H]
  generalize dele xs b=J at q |-;cases J with
  | nil=>
   repeat'(first|refine gB ?_|(conv=>whnf);first|with_reducible (first|refine CF (aa a) ?_|refine Bf.D (λh=>?_) (λh=>?_))|refine CF c ?_|refine CF j ?_|refine CJ rfl (aa a) rfl ?_|refine CJ rfl c rfl ?_|refine CJ rfl j rfl ?_|refine CR rfl rfl (aa a) rfl (Z1 rfl) rfl ?_|refine CR rfl rfl c rfl (Z1 rfl) (o _).symm ?_|refine CK (q) (.inl rfl) ?_)
   rfl
  | cons y J=>
   repeat'(first|refine gB ?_|(conv=>whnf);first|with_reducible (first|refine CF (aa a) ?_|refine Bf.D (λh=>?_) (λh=>?_))|refine CF c ?_|refine CF j ?_|refine CJ rfl (aa a) rfl ?_|refine CJ rfl c rfl ?_|refine CJ rfl j rfl ?_|refine CR rfl rfl (aa a) rfl (Z1 rfl) rfl ?_|refine CR rfl rfl c rfl (Z1 rfl) (o _).symm ?_|refine CK (q) (.inl rfl) ?_)
   rfl
 rw[CC H]
 repeat'(first|refine gB ?_|(conv=>whnf);first|with_reducible (first|refine CF (aa a) ?_|refine Bf.D (λh=>?_) (λh=>?_))|refine CF c ?_|refine CF j ?_|refine CJ rfl (aa a) rfl ?_|refine CJ rfl c rfl ?_|refine CJ rfl j rfl ?_|refine CR rfl rfl (aa a) rfl (Z1 rfl) rfl ?_|refine CR rfl rfl c rfl (Z1 rfl) (o _).symm ?_)
 rw[CD rfl,oM (by rw[Ne,List.map_eq_nil_iff,<-List.length_eq_zero_iff,I2];omega)]
 rfl
variable{P:Program}
def eG(w:World)(dT sT ty elem:TypeId)(k b o dLen dCap:Nat)(a:Addr)(sLen sCap n:Nat)(cs:List Value)(h:P.underlying dT=some (.slice elem))(g:(P.info? elem).map (·.size)=some k)(l:Nat.min sLen dLen=n)(p:cs.length=n*k)(c:∀j v,cs[j]? = some v->w.cell? (a.add j)=some v)(q:∀j,j<cs.length->(w.cell? ⟨b,o+j,none⟩).isSome=true)(r:∀j,j<cs.length->w.frozen? ⟨b,o+j,none⟩ = false)(h1:∀v∈cs,v.oneCell'=true) :
  (Builtin.copy_ #[dT,sT] ty #[.slice (some ⟨b,o,none⟩) dLen dCap,.slice (some a) sLen sCap]).run P w=.ok (goInt n) (w.setCells b o cs):=by
 have d:=run_loadCells_list (P:=P) w a cs c;have e:=run_storeCells_cells (P:=P) b o cs 0 w (by simpa using q) (by simpa using r) h1;rw[p]at d;cases f:P.info? elem with
 | none=>simp[f]at g
 | some i=>
  have t:i.size=k:=by simpa[f] using g
  simp[Builtin.copy_,run_underlying h,Builtin.lenOf,Builtin.firstCells,sizeOf,typeInfo,f,t,l,d,e]
variable{Q:Exit->Act->World->Prop}{ops:Array Oper}
def ee(w:World){rest:List Oper}{o:Oper}{a:Act}(b:o.guard=none)(d s:Operand)(t c:TypeId)(f:o.op=.call {callee:=.builtin .copy,args:=#[d,s],argTypes:=#[t,c]})(v u:Value)(g:a.eval d=v)(i:a.eval s=u){e:Value}{w':World}(j:(Builtin.copy_ #[t,c] o.type #[v,u]).run P w=.ok e w')(h:wpList P ops Q rest (a.put o.dst e) w'):wpList P ops Q (o::rest) a w:=by
 refine wpList_plain b λ_ k=>?_
 unfold Oper.wp execOp;simp only[f,resolve,invoke,builtin,Sem.run_bind,Sem.run_pure,Result.andThen_ok,List.map_toArray,O8,List.map_nil,g,i,j];exact k _ _ h
variable{w:World}
def iR{o:Oper}{a:Act}{K:Act->World->Prop}{E:Prop}(e:o.guard=none)(d x:Operand)(dT sT:TypeId)(b:o.op=Op.call {callee:=Callee.builtin Builtin.copy,args:=#[d,x],argTypes:=#[dT,sT]})(v u:Value)(f:a.eval d=v)(g:a.eval x=u){c:Value}{w':World}(h:(Builtin.copy_ #[dT,sT] o.type #[v,u]).run P w=.ok c w')(i:K (a.put o.dst c) w') :
  if Region.wanted o (yielded ops a.tmps)=true then Oper.wp P o a w K Q else E:=by
 have j:Region.wanted o (yielded ops a.tmps)=true:=by simp[Region.wanted,e]
 rw[CD j];unfold Oper.wp;simp[execOp,b,resolve,invoke,builtin,f,g,h,Result.andThen];exact i
def wU(b:Nat):∀(vs:List Value)(o:Nat)(w:World),(w.setCells b o vs).drew=w.drew.setCells b o vs
 | [],_,_=>rfl
 | v::r,o,w=>by rw[World.setCells,World.setCells,wU b r];rfl
def lK(b:Nat)(vs:List Value)(o:Nat)(w:World)(h:∀j,j<vs.length->(w.cell? ⟨b,o+j,none⟩).isSome=true)(q:Nat)(a:(w.cell? ⟨b,q,none⟩).isSome=true):((w.setCells b o vs).cell? ⟨b,q,none⟩).isSome=true:=by
 by_cases c:o<=q/\q<o+vs.length
 ·have:=World.cell?_setCells_in b vs o w h (q - o) ω
  rw[show o+(q - o)=q by omega]at this;rw[this];rfl
 rw[World.cell?_setCells_out b vs o w ⟨b,q,none⟩ (λ_ _=>by show q<o\/o+vs.length<=q;omega)];exact a
variable{g:Nat}
def G2{z:Value}(a:cel w g 0=some z)(d:fro w g 0=NF):∃t k,w.shape? g=some (t,k)/\k≠0/\w.frozen? ⟨g,0,none⟩ = false/\w.frozen? ⟨g,k,none⟩ = false:=by
 have f:=C1 Prod.fst d;have b:=C1 Prod.snd d;simp only[fro]at f b;unfold mp at b;unfold cel World.cell? at a;unfold World.shape?;simp only at a;cases e:w.heap[g]? with
 | none=>rw[e]at a;cases a
 | some x=>
  rw[e]at a b;cases x with
  | cells c t i=>
   obtain⟨j,l⟩:=i;simp only[Option.isSome_none,Bool.false_eq_true,if_false]at a;have o:0<c.size:=by
    rcases Nat.eq_zero_or_pos c.size with h|h
    ·rw[Array.getElem?_eq_none ω]at a;cases a
    exact h
   refine⟨t,c.size,rfl,ω,f,?_⟩;unfold World.frozen?;simp only[e];simp only at b;split at b
   ·cases b
   rename_i n;have:¬(j<=c.size/\c.size<l):=n;simp only[Bool.and_eq_false_imp,C0,X6];omega
  | _=>cases a
variable{e b:Nat}
def qi{tS tR k a:Nat}{z h:Value}(i:P.underlying tS=some (.slice e))(j:∀w,(Go.sizeOf e).run P w=.ok k w)(c:a≠b)(h1:cel w a 0=some z)(l:fro w a 0=NF)(n:cel w b 0=some h)(o:fro w b 0=NF)(x la d f g:Nat) :
  (Extern.SlicesOverlaps.overlaps #[tS,tS] #[tR] #[.slice (some ⟨a,0,none⟩) la d,.slice (some ⟨b,x,none⟩) f g]).run P w=.ok (.bool false) w:=by
 obtain⟨tA,kA,p,y,q,r⟩:=G2 h1 l;obtain⟨tB,kB,t,u,-,-⟩:=G2 n o;exact Lib.run_overlaps_apart w tS tR e i k j ⟨a,0,none⟩ ⟨b,x,none⟩ la d f g c tA tB kA kB p t u q r
structure yn(w w':World)(g G k n c c' i:Nat)(olds vs:List Value):Prop where
 keep:bw (λb o=>b=g/\o<c*k) w w'
 cel:∀q u,(olds.take (i*k)++vs++olds.drop (i*k))[q]? = some u->cel w' G q=some u
 all:∀q,q<c'*k->(∃z,Ab.cel w' G q=some z/\z.oneCell'=true)/\fro w' G q=NF
 at_:(G=g/\c'=c)\/(w.heap.size<=G/\G<w'.heap.size)
variable{i:Nat}{olds vs:List Value}
def FV{k n q:Nat}{u:Value}(j:i<n)(d:olds.length=n*k)(b:vs.length=k)(h:(olds.take (i*k)++vs++olds.drop (i*k))[q]? = some u) :
  q<(n+1)*k/\((q<i*k/\olds[q]? = some u)\/(i*k<=q/\q<i*k+k/\vs[q - i*k]? = some u)\/(i*k+k<=q/\(olds.drop (i*k))[q - (i*k+k)]? = some u)):=by
 have e:i*k<=n*k:=Z9 k ω;have l:(n+1)*k=n*k+k:=by rw[Nat.add_mul,Nat.one_mul]
 have a:(olds.take (i*k)).length=i*k:=by rw[O2];omega
 have f:=(O3.1 h).1;simp only[X4,a,b,Y4,d]at f;refine⟨ω,?_⟩;by_cases c:q<i*k
 ·rw[Z7,O6 ω,List.getElem?_take,CD c]at h
  exact .inl ⟨c,h⟩
 by_cases g:q<i*k+k
 ·rw[O6 (by rw[X4];omega),S6 ω,a]at h
  exact .inr (.inl ⟨ω,g,h⟩)
 rw[S6 (by rw[X4];omega),X4,a,b]at h;exact .inr (.inr ⟨ω,h⟩)
variable{c:Nat}
def qe{k n:Nat}(B:i<n)(C:n+1<=c)(y:olds.length=n*k)(D:vs.length=k)(E:∀t u,olds[t]? = some u->cel w g t=some u)(h1:∀u∈olds,u.oneCell'=true)(F:∀u∈vs,u.oneCell'=true)(a:∀q,q<c*k->(∃z,cel w g q=some z/\z.oneCell'=true)/\fro w g q=NF) :
  yn w ((w.drew.setCells g ((i+1)*k) (olds.drop (i*k))).setCells g (i*k) vs) g g k n c c i olds vs:=by
 have G:i*k<=n*k:=Z9 k ω;have H:(n+1)*k<=c*k:=Z9 k C;have N:(n+1)*k=n*k+k:=by rw[Nat.add_mul,Nat.one_mul]
 have O:(i+1)*k=i*k+k:=by rw[Nat.add_mul,Nat.one_mul]
 have J:(olds.drop (i*k)).length=n*k - i*k:=by rw[Y4,y]
 have P:∀b q,cel w.drew b q=cel w b q:=λ_ _=>rfl
 have in1:∀j,j<(olds.drop (i*k)).length->∃z,cel w.drew g ((i+1)*k+j)=some z:=λj p=>by
  obtain⟨⟨z,r,-⟩,-⟩:=a ((i+1)*k+j) ω;exact⟨z,r⟩
 have all1:∀q,q<c*k->∃z,cel (w.drew.setCells g ((i+1)*k) (olds.drop (i*k))) g q=some z/\z.oneCell'=true:=λq e=>by
  by_cases h:(i+1)*k<=q/\q<(i+1)*k+(olds.drop (i*k)).length
  ·obtain⟨u,f⟩ : ∃u,(olds.drop (i*k))[q - (i+1)*k]? = some u:=⟨_,I3 ω⟩
   have d:=bo in1 f;rw[show(i+1)*k+(q - (i+1)*k)=q by omega]at d;exact⟨u,d,h1 u (List.mem_of_mem_drop (Z2 f))⟩
  rw[aW (λx=>h x.2)];exact(a q e).1
 have in2:∀j,j<vs.length->∃z,cel (w.drew.setCells g ((i+1)*k) (olds.drop (i*k))) g (i*k+j)=some z:=λj p=>by
  obtain⟨z,r,-⟩:=all1 (i*k+j) ω;exact⟨z,r⟩
 refine⟨?_,λq u e=>?_,λq e=>⟨?_,by rw[bM,bM];exact(a q e).2⟩,.inl ⟨rfl,rfl⟩⟩
 ·have K:=eC (g:=g) (X:=λb o=>b=g/\o<c*k) (olds.drop (i*k)) ((i+1)*k) w.drew λj p=>⟨rfl,ω⟩
  have L:=eC (g:=g) (X:=λb o=>b=g/\o<c*k) vs (i*k) (w.drew.setCells g ((i+1)*k) (olds.drop (i*k))) λj p=>⟨rfl,ω⟩
  exact((y3 w).up λ_ _ h=>h.elim).trans (K.trans L λ_ _ h=>.inr h) λ_ _ h=>.inr h
 ·obtain⟨-,⟨A,l⟩|⟨A,l,M⟩|⟨A,l⟩⟩:=FV B y D e
  ·rw[aW ω,aW ω];exact E q u l
  ·have d:=bo in2 M
   rwa [show i*k+(q - i*k)=q by omega]at d
  rw[aW ω];have d:=bo in1 l;rw[show(i+1)*k+(q - (i*k+k))=q by omega]at d;exact d
 by_cases h:i*k<=q/\q<i*k+vs.length
 ·obtain⟨u,f⟩ : ∃u,vs[q - i*k]? = some u:=⟨_,I3 ω⟩
  have d:=bo in2 f;rw[show i*k+(q - i*k)=q by omega]at d;exact⟨u,d,F u (Z2 f)⟩
 rw[aW (λx=>h x.2)];exact all1 q e
def rL{a:World}{k n G:Nat}{Z:Array Value}(y:a.heap=(w.alloc (.cells ((olds.take (i*k)).toArray++Builtin.zeroCells Z (n+1 - i)++Builtin.zeroCells Z (G - (n+1))) e)).heap)(Q:a.os=w.os)(R:a.tape=w.tape)(S:a.output=w.output)(hi:i<n)(hG:n+1<=G)(hZ:Z.size=k)(T:∀v∈Z.toList,v.oneCell'=true)(U:olds.length=n*k)(d:vs.length=k)(h1:∀u∈olds,u.oneCell'=true)(h2:∀u∈vs,u.oneCell'=true) :
  yn w ((a.setCells w.heap.size (i*k) vs).setCells w.heap.size ((i+1)*k) (olds.drop (i*k))) g w.heap.size k n c G i olds vs:=by
 have V:i*k<=n*k:=Z9 k ω;have hGk:(n+1)*k<=G*k:=Z9 k hG;have e1:(n+1)*k=n*k+k:=by rw[Nat.add_mul,Nat.one_mul]
 have e2:(i+1)*k=i*k+k:=by rw[Nat.add_mul,Nat.one_mul]
 have hdl:(olds.drop (i*k)).length=n*k - i*k:=by rw[Y4,U]
 generalize hcells:(olds.take (i*k)).toArray++Builtin.zeroCells Z (n+1 - i)++Builtin.zeroCells Z (G - (n+1))=cells at y;have C:∀b q,cel a b q=cel (w.alloc (.cells cells e)) b q:=λb q=>by unfold cel World.cell?;rw[y]
 have D:∀b q,fro a b q=fro (w.alloc (.cells cells e)) b q:=λb q=>by unfold fro World.frozen? mp;rw[y]
 have hsz:cells.size=G*k:=by
  rw[<-hcells];simp only[Array.size_append,List.size_toArray,O2,size_zeroCells,hZ,U,Nat.min_eq_left V];rw[<-Nat.add_mul,<-Nat.add_mul]
  congr 1;omega
 have E:∀v∈cells.toList,v.oneCell'=true:=by
  have F:∀m,∀v∈(Builtin.zeroCells Z m).toList,v.oneCell'=true:=λm v d=>by
   rw[Array.mem_toList_iff]at d;simp only[Builtin.zeroCells,Array.mem_map,Array.mem_range]at d;obtain⟨j,A,rfl⟩:=d;have B:0<Z.size:=by rcases Nat.eq_zero_or_pos Z.size with h|h;rw[h]at A;simp at A;exact h
   have H:j % Z.size<Z.size:=Nat.mod_lt _ B;rw[getElem!_pos Z (j % Z.size) H];exact T _ (Array.mem_toList_iff.2 (Array.getElem_mem H))
  intro v d;rw[<-hcells]at d;simp only[Array.toList_append,I4]at d;rcases d with(d|d)|d
  ·exact h1 v (List.mem_of_mem_take d)
  ·exact F _ v d
  exact F _ v d
 have l:∀q,cel a w.heap.size q=cells[q]?:=λq=>(C _ _).trans (i6 w cells e q)
 have J:∀q,q<G*k->∃z,cel a w.heap.size q=some z/\z.oneCell'=true:=λq p=>by
  have K:q<cells.size:=ω
  exact⟨cells[q],by rw[l,Z8 K],E _ (Array.mem_toList_iff.2 (Array.getElem_mem K))⟩
 have r:∀q u,q<i*k->olds[q]? = some u->cells[q]? = some u:=λq u p t=>by
  rw[<-hcells,Array.append_assoc,Array.getElem?_append_left (by simp;omega)];simp[p,t]
 have L:∀q,fro a w.heap.size q=NF:=λq=>(D _ _).trans (iA w cells e q)
 have hK:bw NO w a:=by
  have B:bw NO w (w.alloc (.cells cells e)):=cQ w _;exact⟨Q,R,S,by rw[y];exact B.size,λb M N=>by rw[y];exact B.blk b M N,λb o M N=>(C b o).trans (B.cel b o M N),λb o M N=>(D b o).trans (B.fro b o M N)⟩
 have hS:a.heap.size=w.heap.size+1:=by rw[y];exact kh w _
 have k1:=eC (g:=w.heap.size) (X:=λb o=>b=w.heap.size) vs (i*k) a λj A=>rfl
 have k2:=eC (g:=w.heap.size) (X:=λb o=>b=w.heap.size) (olds.drop (i*k)) ((i+1)*k) (a.setCells w.heap.size (i*k) vs) λj A=>rfl
 have in1:∀j,j<vs.length->∃z,cel a w.heap.size (i*k+j)=some z:=λj A=>by
  obtain⟨z,W,-⟩:=J (i*k+j) ω;exact⟨z,W⟩
 have all1:∀q,q<G*k->∃z,cel (a.setCells w.heap.size (i*k) vs) w.heap.size q=some z/\z.oneCell'=true:=λq p=>by
  by_cases h:i*k<=q/\q<i*k+vs.length
  ·obtain⟨u,t⟩ : ∃u,vs[q - i*k]? = some u:=⟨_,I3 ω⟩
   have f:=bo in1 t;rw[show i*k+(q - i*k)=q by omega]at f;exact⟨u,f,h2 u (Z2 t)⟩
  rw[aW (λx=>h x.2)];exact J q p
 have in2:∀j,j<(olds.drop (i*k)).length->∃z,cel (a.setCells w.heap.size (i*k) vs) w.heap.size ((i+1)*k+j)=some z:=λj A=>by
  obtain⟨z,W,-⟩:=all1 ((i+1)*k+j) ω;exact⟨z,W⟩
 have O:w.heap.size<((a.setCells w.heap.size (i*k) vs).setCells w.heap.size ((i+1)*k) (olds.drop (i*k))).heap.size:=by
  have:=k1.size;have:=k2.size;omega
 refine⟨?_,λq u p=>?_,λq p=>⟨?_,by rw[bM,bM];exact L q⟩,.inr ⟨O4 _,O⟩⟩
 ·exact(hK.up λ_ _ h=>h.elim).trans (k1.trans k2 λ_ _ h=>.inr h) λ_ _ h=>.inl (by rw[h];exact O4 _)
 ·obtain⟨-,⟨Y,P⟩|⟨Y,P,a3⟩|⟨Y,P⟩⟩:=FV hi U d p
  ·rw[aW ω,aW ω,l];exact r q u Y P
  ·rw[aW ω]
   have f:=bo in1 a3
   rwa [show i*k+(q - i*k)=q by omega]at f
  have f:=bo in2 P;rw[show(i+1)*k+(q - (i*k+k))=q by omega]at f;exact f
 by_cases h:(i+1)*k<=q/\q<(i+1)*k+(olds.drop (i*k)).length
 ·obtain⟨u,t⟩ : ∃u,(olds.drop (i*k))[q - (i+1)*k]? = some u:=⟨_,I3 ω⟩
  have f:=bo in2 t;rw[show(i+1)*k+(q - (i+1)*k)=q by omega]at f;exact⟨u,f,h1 u (List.mem_of_mem_drop (Z2 t))⟩
 rw[aW (λx=>h x.2)];exact all1 q p
structure DE(P:Program)(f k T b:Nat):Prop where
 has:LH P f
 end_:∀(w w1:World)(base:Option Addr)(n c vb m vc:Nat)(r:Value),m=1->n<=c->n<=1073741824->(base=none->n=0/\c=0)->(Builtin.append_ #[T,T] T #[.slice base n c,.slice (some ⟨vb,0,none⟩) m vc]).run P w=.ok r w1->
  Calls P f #[.slice base n c,.int .i64 n,.slice (some ⟨vb,0,none⟩) m vc] w λe w'=>e=.returned r/\w'=w1
 mid:∀(w:World)(g n c i vb m vc:Nat)(olds vs:List Value),m=1->i<n->n<=c->n<=1073741824->b<=1000->olds.length=n*k->vs.length=k->(∀t u,olds[t]? = some u->cel w g t=some u)->(∀t u,vs[t]? = some u->cel w vb t=some u)->
  (∀u∈olds,u.oneCell'=true)->(∀u∈vs,u.oneCell'=true)->(∀q,q<c*k->(∃z,cel w g q=some z/\z.oneCell'=true)/\fro w g q=NF)->fro w vb 0=NF->vb≠g->
  Calls P f #[.slice (some ⟨g,0,none⟩) n c,.int .i64 i,.slice (some ⟨vb,0,none⟩) m vc] w λe w'=>∃G c',e=.returned (.slice (some ⟨G,0,none⟩) (n+1) c')/\n+1<=c'/\yn w w' g G k n c c' i olds vs
def inse(xs:List α)(i:Nat)(y:α):List α:=xs.take i++y::xs.drop i
def HJ(xs:List α)(i:Nat)(y:α):(inse xs i y).length=xs.length+1:=by
 unfold inse;rw[X4,List.length_cons,O2,Y4];omega
def yA{xs:List α}{y z:α}(h:z∈inse xs i y):z=y\/z∈xs:=by
 unfold inse at h;rcases I4.1 h with h|h
 ·exact .inr (List.mem_of_mem_take h)
 rcases List.mem_cons.1 h with h|h
 ·exact .inl h
 exact .inr (List.mem_of_mem_drop h)
def zy{β:Type}(e:α->β)(xs:List α)(i:Nat)(y:α):inse (xs.map e) i (e y)=(inse xs i y).map e:=by
 unfold inse;simp only[C8,O8,Y5,Z5]
variable{row:List C}{rows:List (List C)}
def Qu{k a:Nat}{r:List C}{c:C}(g:i<=rows.length)(A:olds.length=rows.length*k)(n:vs.length=k)(o:b<k)(j:∀(a b:Nat)(r:List C)(c:C),rows[a]? = some r->r[b]? = some c->∃z,c=C.v z/\olds[a*k+b]? = some z)(p:∀(b:Nat)(c:C),row[b]? = some c->∃z,c=C.v z/\vs[b]? = some z)(h1:(inse rows i row)[a]? = some r)(e:r[b]? = some c):∃z,c=.v z/\(olds.take (i*k)++vs++olds.drop (i*k))[a*k+b]? = some z:=by
 have q:i*k<=rows.length*k:=Z9 k g;have l:(olds.take (i*k)).length=i*k:=by rw[O2];omega
 unfold inse at h1;by_cases h:a<i
 ·rw[O6 (by rw[O2];omega),List.getElem?_take,CD h]at h1
  obtain⟨z,rfl,d⟩:=j a b r c h1 e;have f:a*k+b<i*k:=dR h o;exact⟨z,rfl,by rw[Z7,O6 ω,List.getElem?_take,CD f];exact d⟩
 rw[S6 (by rw[O2];omega),O2,Nat.min_eq_left g]at h1;have t:i*k<=a*k:=Z9 k ω;by_cases u:a=i
 ·subst u
  simp only[Nat.sub_self,List.getElem?_cons_zero,I1]at h1;subst h1;obtain⟨z,rfl,d⟩:=p b c e;exact⟨z,rfl,by rw[O6 (by rw[X4];omega),S6 ω,l,show a*k+b - a*k=b by omega];exact d⟩
 obtain⟨m,rfl⟩ : ∃m,a=i+(m+1):=⟨a - i - 1,ω⟩
 rw[show i+(m+1) - i=m+1 by omega,List.getElem?_cons_succ,List.getElem?_drop]at h1;obtain⟨z,rfl,d⟩:=j (i+m) b r c h1 e;have w:(i+(m+1))*k=i*k+k+m*k:=by rw[<-Nat.add_assoc,Nat.add_mul,Nat.add_mul,Nat.one_mul];omega
 have y:(i+m)*k=i*k+m*k:=Nat.add_mul ..;refine⟨z,rfl,?_⟩;rw[S6 (by rw[X4];omega),X4,l,n,List.getElem?_drop,w,show i*k+(i*k+k+m*k+b - (i*k+k))=i*k+m*k+b by omega,<-y];exact d
def V8(h:UM rows):R9 rows:=by
 have b:∀r:List C,(∀c∈r,∃z,c=C.v z)->iq r:=by
  intro r
  induction r with
  | nil=>exact λ_=>trivial
  | cons c r a=>intro h;obtain⟨z,rfl⟩:=h c (by simp);exact⟨trivial,a λc d=>h c (by simp[d])⟩
 induction rows with
 | nil=>exact trivial
 | cons r f a=>exact⟨b r (h r (by simp)),a λr e=>h r (by simp[e])⟩
variable{f:Nat}
def KQ{k T:Nat}{d:TypeInfo}{z0:Value}(ht:P.underlying T=some (.slice e))(hi0:P.info? e=some d)(hk0:d.size=k)(hz:d.zero=some z0)(hzs:z0.cells.size=d.size)(hz1:∀x∈z0.cells.toList,x.oneCell'=true)(hby:d.bytes<=1000)(hf:DE P f k T d.bytes)(hi:i<=rows.length)(hk:∀r∈rows,r.length=k)(hr:row.length=k)(hpk:0<k)(hsc:UM rows)(hsr:UM [row])(hlen:rows.length+1<=1073741824) :
  bg P f false [.mut none [.s .own rows],.val none [I (i:Nat)],.mut none [.s .own [row]]] [.mut none [.x],.val none [I (i:Nat)],.mut none [.x]] .one [.s .own (inse rows i row)]:=by
 subst hk0;refine⟨hf.has,λw S V vs hS hV hVV R=>?_⟩
 match vs,R with
 | [v,v1,v2],⟨R,hA1,hA2,_⟩=>
  have E:=br.rep1 (show br w S (V 0) none [C.s .own rows] v from R);have e1:v1=.int .i64 (i:Nat):=by
   have:=br.rep1 (show br w S NO none [C.v (.int .i64 (i:Nat))] v1 from hA1);cases this;rfl
  have N:=br.rep1 (show br w S (V 2) none [C.s .own [row]] v2 from hA2);subst e1;have hk2:∀r∈[row],r.length=d.size:=λr H=>by simp only[C2]at H;subst H;exact hr
  have hsc':UM (inse rows i row):=λr H=>(yA H).elim (λh=>hsr r (by simp[h])) (hsc r)
  have O:∀(w1:World)(vv:Value)(X:ah),bw (λb o=>∃i,V i b o) w w1->(∀b o,X b o->V 0 b o\/V 2 b o\/(w.heap.size<=b/\b<w1.heap.size))->dK w1 S X (.s .own (inse rows i row)) vv->
    ∃v',Ending.returned vv=Ending.returned v'/\bw (λb o=>∃i,V i b o) w w1/\∃(X:ah)(V':Nat->ah)(S1:ah),
   (∀b o,X b o->(∃i,V i b o)\/(b<w1.heap.size/\w.heap.size<=b))/\(∀i b o,V' i b o->(∃i,V i b o)\/(b<w1.heap.size/\w.heap.size<=b))/\
   (∀b o,S1 b o->(false=true/\S b o)\/(∃i,V i b o)\/(b<w1.heap.size/\w.heap.size<=b))/\
   (∀i i',i≠i'->∀b o,V' i b o->¬V' i' b o)/\(∀i b o,X b o->¬V' i b o)/\(∀b o,X b o->¬S1 b o)/\(∀i b o,V' i b o->¬S1 b o)/\
   fN w1 NO .one 1 v'/\cK w1 S1 X [.s .own (inse rows i row)] (cn w1 .one v')/\Ef w1 (λb o=>S b o\/S1 b o) V' [.mut none [.x],.val none [I (i:Nat)],.mut none [.x]] [v,.int .i64 (i:Nat),v2]:=by
   intro w1 vv X D hX hR;have hfr:U0 (.s .own (inse rows i row)):=by simp only[U0];exact⟨.inl (by simp),V8 hsc'⟩
   exact⟨_,rfl,D,X,λ_=>NO,NO,λb o h=>by
       rcases hX b o h with h|h|h
       · exact .inl ⟨0,h⟩
       · exact .inl ⟨2,h⟩
       · exact .inr ⟨h.2,h.1⟩,λ_ _ _ h=>h.elim,λ_ _ h=>h.elim,λ_ _ _ _ _ h=>h.elim,λ_ _ _ _ h=>h.elim,λ_ _ _ h=>h.elim,λ_ _ _ h=>h.elim,rfl,row1 (hR.fresh hfr),
       ⟨⟨rfl,λ_=>v,rfl,row1 (.x _ _ E.one)⟩,trivial,⟨rfl,λ_=>v2,rfl,row1 (.x _ _ N.one)⟩,trivial⟩⟩
  rcases N.els (by simp) hk2 with⟨h,-⟩|⟨vb,vc,u2,f2,rfl,-,hvc,hcell2,hu2,J⟩
  ·cases h
  simp only[List.length_singleton,Nat.one_mul]at hvc hu2;by_cases W:i=rows.length
  ·have hreads:oI w (some ⟨vb,0,none⟩) ([row].length*d.size) ((List.range ([row].length*d.size)).map u2):=by
    refine⟨by simp,λh=>(by cases h),λad j u had l=>?_⟩;cases had;rw[Addr.add_lit,W9];rw[S4]at l;cases L:(List.range ([row].length*d.size))[j]? with
    | none=>rw[L]at l;cases l
    | some j'=>
     obtain⟨U,a2⟩:=O3.1 L;simp only[List.length_singleton,Nat.one_mul,List.length_range,List.getElem_range]at U a2;subst a2;rw[L]at l;simp only[O7,I1]at l;subst l;exact hu2 j U
   obtain⟨v',w1,hrun,hk1,hR⟩:=rQ (P:=P) (ty:=T) ht hi0 hz hzs hz1 E hk (V:=V 2) (xr:=[row]) (u2:=u2) (f2:=f2) ⟨J.hk,λq L b o h=>(J.hf q L b o h).1,J.hd,J.hc⟩ (b:=some ⟨vb,0,none⟩) (c:=vc)
    hreads
    (λb o h h'=>hVV 0 2 (by decide) b o h h') (λb o h=>(hV 0 b o h).2) (λb o h=>(hV 0 b o h).1) (λb o h=>(hV 2 b o h).1) hS (by simp;omega) (by
      have:(rows.length+[row].length)*d.bytes<=1073741824*1000:=Nat.mul_le_mul (by simpa using hlen) hby;omega)
   have hins:inse rows i row=rows++[row]:=by unfold inse;rw[W,I7,List.drop_length]
   rw[<-hins]at hR;have hfin:∀(base:Option Addr)(c:Nat),v=.slice base rows.length c->rows.length<=c->(base=none->rows.length=0/\c=0)->Calls P f #[v,.int .i64 (i:Nat),.slice (some ⟨vb,0,none⟩) 1 vc] w λe w'=>e=.returned v'/\w'=w1:=λbase c hv hc hb=>by
    subst hv;rw[W];exact hf.end_ w w1 base rows.length c vb 1 vc v' rfl hc ω hb hrun
   have hgo:Calls P f #[v,.int .i64 (i:Nat),.slice (some ⟨vb,0,none⟩) 1 vc] w λe w'=>e=.returned v'/\w'=w1:=by
    rcases E.els (by simp) hk with⟨h0,a0,hv⟩|⟨g,Y,u,f',hv,hpos,F,-⟩
    ·exact hfin a0 0 (by rw[hv,h0];rfl) (by rw[h0];exact O4 0) λ_=>⟨by rw[h0];rfl,rfl⟩
    exact hfin _ Y hv F λh=>by cases h
   refine hgo.mono λe w' ⟨he,hw⟩=>?_
   subst he hw;exact O w' v' _ (hk1.up λb o h=>⟨0,h⟩) (λb o h=>h) hR
  rcases E.els (by simp) hk with⟨h0,a0,hv⟩|⟨g,Y,u,f',rfl,hpos,F,p,hu,hE⟩
  ·rw[h0]at hi W;simp at hi W;omega
  have hlt:i<rows.length:=ω
  have A:∀(n j:Nat)(y:Value)(uu:Nat->Value),((List.range n).map uu)[j]? = some y->j<n/\y=uu j:=λn j y uu l=>by
   rw[S4]at l;cases hr:(List.range n)[j]? with
   | none=>rw[hr]at l;cases l
   | some j'=>
    obtain⟨h1,M⟩:=O3.1 hr;simp at h1 M;subst M;rw[hr]at l;simp only[O7,I1]at l;exact⟨h1,l.symm⟩
  have Q:∀(n j:Nat)(uu:Nat->Value),j<n->((List.range n).map uu)[j]? = some (uu j):=λn j uu l=>by
   rw[S4,S9 l];rfl
  obtain⟨olds,B⟩ : ∃olds,olds=(List.range (rows.length*d.size)).map u:=⟨_,rfl⟩
  obtain⟨vs,Z⟩ : ∃vs,vs=(List.range d.size).map u2:=⟨_,rfl⟩
  have hol:olds.length=rows.length*d.size:=by rw[B];simp
  have hvl:vs.length=d.size:=by rw[Z];simp
  have hck:rows.length*d.size<=Y*d.size:=Z9 _ F;have hv0:=hcell2 0 (Nat.mul_pos ω hpk);have hg0:=p 0 (Nat.mul_pos ω hpk);have hne:vb≠g:=λh=>by
   subst h;exact hVV 0 2 (by decide) vb 0 hg0.1 hv0.1
  refine(hf.mid w g rows.length Y i vb 1 vc olds vs rfl hlt F ω hby hol hvl (λt y K=>by
      rw[B]at K;obtain⟨U,rfl⟩:=A _ _ _ _ K;exact hu t U) (λt y K=>by
      rw[Z]at K;obtain⟨U,rfl⟩:=A _ _ _ _ K;exact hu2 t U) (λy K=>by
      rw[B]at K;obtain⟨j,l⟩:=List.getElem?_of_mem K;obtain⟨U,rfl⟩:=A _ _ _ _ l;exact hE.one U) (λy K=>by
      rw[Z]at K;obtain⟨j,l⟩:=List.getElem?_of_mem K;obtain⟨U,rfl⟩:=A _ _ _ _ l;exact J.one (by simpa using U)) (λq L=>(p q L).2) hv0.2.2 hne).mono λe w' ⟨G,c',he,hc',R⟩=>?_
  subst he;have D:bw (λb o=>∃i,V i b o) w w':=R.keep.up λb o ⟨h1,M⟩=>⟨0,by rw[h1];exact(p o M).1⟩
  refine O w' _ (λb o=>V 0 b o\/(w.heap.size<=b/\b<w'.heap.size)) D (λb o h=>h.elim .inl (λh=>.inr (.inr h))) ?_;refine .own _ .own G d.size (rows.length+1) c' _ (λq=>(cel w' G q).getD undef) (λ_=>NO) trivial (HJ ..) (λr H=>(yA H).elim (λh=>by rw[h];exact hr) (hk r)) hc' ω (λq L=>⟨?_,R.all q L⟩) (λq L=>?_) (λ_ _ _ _ h=>h.elim) (λ_ _ _ _ _ _ _ h=>h.elim) (λa b r c ha hb=>?_)
  ·rcases R.at_ with⟨rfl,rfl⟩|h
   ·exact .inl (p q L).1
   exact .inr h
  ·obtain⟨z,hz',-⟩:=(R.all q (O5 L (Z9 _ hc'))).1
   rw[hz'];rfl
  have hbk:b<d.size:=by
   have:r.length=d.size:=(yA (Z2 ha)).elim (λh=>by rw[h];exact hr) (hk r);rw[<-this];exact(O3.1 hb).1
  have hal:=(O3.1 ha).1;rw[HJ]at hal;obtain⟨y,rfl,K⟩:=Qu (olds:=olds) (vs:=vs) hi hol hvl hbk (λa b r c h1 M=>by
      obtain⟨y,rfl⟩:=hsc r (Z2 h1) c (Z2 M);have h3:=hE.hc a b r _ h1 M;have h4:=rX rfl hk h1 M;generalize hyy:u (a*d.size+b)=yy at h3;cases h3;exact⟨_,rfl,by rw[B,Q _ _ _ (dR h4.1 h4.2),hyy]⟩) (λb c M=>by
      obtain⟨y,rfl⟩:=hsr row (by simp) c (Z2 M);have h3:=J.hc 0 b row _ rfl M;simp only[Nat.zero_mul,W9]at h3;have h4:=(O3.1 M).1;generalize hyy:u2 b=yy at h3;cases h3;exact⟨_,rfl,by rw[Z,Q _ _ _ ω,hyy]⟩) ha hb
  have hz':=R.cel _ y K;simp only[hz',Option.getD_some];obtain⟨z,h5,h6⟩:=(R.all (a*d.size+b) (O5 (dR hal hbk) (Z9 _ hc'))).1;rw[hz']at h5;cases h5;exact .v _ _ h6
set_option maxRecDepth 100000
def xE:∃(b:TypeInfo)(c:Value),Tryz.prog.info? 74=some b/\b.size=4/\b.zero=some c/\c.cells.size=4/\(∀v∈c.cells.toList,v.oneCell'=true)/\b.bytes=32:=by
 have h:=(mF 74 _ rfl).1;cases e : Tryz.prog.info? 74 with
 | none=>rw[e]at h;cases h
 | some x=>
  rw[e]at h;simp only[O7,I1,Prod.mk.injEq]at h;obtain⟨a,g,i⟩:=h;cases d:x.zero with
  | none=>rw[d]at a;cases a
  | some z=>
   rw[d]at a;simp only[O7,I1]at a;refine⟨x,z,rfl,g,d,?_,λv f=>?_,i⟩
   ·rw[<-Array.length_toList,a];rfl
   rw[a]at f;have j:(List.map cval [I 0,I 0,I 0,I 0]).all (λv=>v.oneCell')=true:=rfl;exact X5.1 j v f
def Kz:∀w,(Go.sizeOf 74).run Tryz.prog w=.ok 4 w:=λ_=>by kernel_rfl
def KM(w w1:World)(base:Option Addr)(n c d m g:Nat)(r:Value)(i:m=1)(j:n<=c)(h:n<=1073741824)(k:base=none->n=0/\c=0)(b:(Builtin.append_ #[39,39] 39 #[.slice base n c,.slice (some ⟨d,0,none⟩) m g]).run Tryz.prog w=.ok r w1) :
  Calls Tryz.prog 67 #[.slice base n c,.int .i64 n,.slice (some ⟨d,0,none⟩) m g] w λe w'=>e=.returned r/\w'=w1:=by
 have mixed : Tryz.prog.follows .mixedOrders=true:=by kernel_rfl
 have l:0<m:=ω
 have o:m<=1:=ω
 clear i;have p:¬((m:Int)=0):=ω
 go_enter Tryz.func67,Tryz.ntmps67
 cases base with
 | none=>
  obtain⟨rfl,rfl⟩:=k rfl
  go_wp2_with (at_builtin;refine Lib.wpList_append_run _ rfl _ _ _ _ rfl _ _ rfl rfl _ _ b ?_)
  go_ret
  exact⟨rfl,rfl⟩
 | some a=>
  obtain⟨q,u,asp⟩:=a
  go_wp2_with (at_builtin;refine Lib.wpList_append_run _ rfl _ _ _ _ rfl _ _ rfl rfl _ _ b ?_)
  all_goals(go_ret;exact⟨rfl,rfl⟩)
def Fi(w:World)(g n c i p m C:Nat)(olds vs:List Value)(Z:m=1)(hi:i<n)(X:n<=1073741824)(M:n+m<=c)(N:olds.length=n*4)(D:vs.length=4)(ho:∀t u,olds[t]? = some u->cel w g t=some u)(L:∀t u,vs[t]? = some u->cel w p t=some u)(h1:∀u∈olds,u.oneCell'=true)(h2:∀u∈vs,u.oneCell'=true)(b:∀q,q<c*4->(∃z,cel w g q=some z/\z.oneCell'=true)/\fro w g q=NF)(O:fro w p 0=NF)(E:p≠g) :
  Calls Tryz.prog 67 #[.slice (some ⟨g,0,none⟩) n c,.int .i64 i,.slice (some ⟨p,0,none⟩) m C] w λe w'=>e=.returned (.slice (some ⟨g,0,none⟩) (n+m) c)/\w'=(w.drew.setCells g ((i+m)*4) (olds.drop (i*4))).setCells g (i*4) vs:=by
 have mixed : Tryz.prog.follows .mixedOrders=true:=by kernel_rfl
 have hm1:0<m:=ω
 have hm2:m<=1:=ω
 clear Z;have hz1:¬((m:Int)=0):=ω
 have hz2:¬((i:Int)=(n:Int)):=ω
 have hz3:¬((c:Int)<(n:Int)+(m:Int)):=ω
 have F:(Tryz.prog.info? 74).map (·.size)=some 4:=by obtain⟨i0,z0,e1,e2,-⟩:=xE;rw[e1];simp[e2]
 have cell:∀q,q<(n+m)*4->(w.cell? ⟨g,q,none⟩).isSome=true/\w.frozen? ⟨g,q,none⟩ = false:=λq Y=>by
  obtain⟨⟨z,hz,-⟩,hf⟩:=b q ω;exact⟨by show(cel w g q).isSome=true;rw[hz];rfl,C1 Prod.fst hf⟩
 have P:∀Q R,(callFunc 193 #[.slice (some ⟨p,0,none⟩) m C,.slice (some ⟨g,(i+m)*4,none⟩) Q R]).run Tryz.prog w=.ok (.value (.bool false)) w:=λQ R=>by
  obtain⟨y,hy⟩ : ∃y,vs[0]? = some y:=⟨_,I3 ω⟩
  obtain⟨⟨y',S,-⟩,T⟩:=b 0 ω;rw[run_callFunc_extern Tryz.func193 (by kernel_rfl) (by kernel_rfl) (by kernel_rfl) (e:=Extern.SlicesOverlaps.overlaps #[39,39] #[4]) (by kernel_rfl),
    qi (e:=74) (k:=4) Tryz.underlying39 Kz E (L 0 y hy) O S T _ m C Q R]
  rfl
 have l:(olds.drop (i*4)).length=(n - i)*4:=by rw[Y4,N];omega
 have hw1:IntKind.i64.wrap ((i:Int)+(m:Int))=(i:Int)+(m:Int):=by rw[IntKind.wrap_i64];omega
 have hw2:IntKind.i64.wrap ((n:Int)+(m:Int))=(n:Int)+(m:Int):=by rw[IntKind.wrap_i64];omega
 have hb1:(0:Int)<=(i:Int)+(m:Int):=ω
 have hin:i<=n:=ω
 have htn:((i:Int)+(m:Int)).toNat=i+m:=ω
 have hb2:¬(c=i+m):=ω
 have hb3:(i:Int)<=(n:Int)+(m:Int):=ω
 have hb4:¬(c=i):=ω
 have o:∀r B U,(Builtin.copy_ #[39,39] r #[.slice (some ⟨g,(i+m)*4,none⟩) (n+m - (i+m)) B,.slice (some ⟨g,i*4,none⟩) (n+m - i) U]).run Tryz.prog w.drew=.ok (goInt ((n - i:Nat):Int)) (w.drew.setCells g ((i+m)*4) (olds.drop (i*4))):=λr B U=>
  eG w.drew _ _ r 74 4 g ((i+m)*4) (n+m - (i+m)) B ⟨g,i*4,none⟩ (n+m - i) U (n - i) (olds.drop (i*4)) Tryz.underlying39 F (by simp only[Nat.min_def];split<;>omega) l
   (λj v a=>by rw[Addr.add_lit];exact ho (i*4+j) v (by rwa [List.getElem?_drop]at a))
   (λj a=>by rw[l]at a;exact(cell _ ω).1) (λj a=>by rw[l]at a;exact(cell _ ω).2) (λv L=>h1 v (List.mem_of_mem_drop L))
 obtain⟨G,d⟩ : ∃G,G=w.drew.setCells g ((i+m)*4) (olds.drop (i*4)):=⟨_,rfl⟩
 have H:∀q,q<(n+m)*4->(G.cell? ⟨g,q,none⟩).isSome=true:=λq Y=>by
  rw[d];exact lK g _ _ _ (λj a=>by rw[l]at a;exact(cell _ ω).1) _ (cell q Y).1
 have J:∀(W:World),(∀x,W.cell? x=G.cell? x)->(∀x,W.frozen? x=G.frozen? x)->∀r B,(Builtin.copy_ #[39,39] r #[.slice (some ⟨g,i*4,none⟩) (n+m - i) B,.slice (some ⟨p,0,none⟩) m C]).run Tryz.prog W=.ok (goInt ((1:Nat):Int)) (W.setCells g (i*4) vs):=λW K V r B=>
  eG W _ _ r 74 4 g (i*4) (n+m - i) B ⟨p,0,none⟩ m C 1 vs Tryz.underlying39 F (by simp only[Nat.min_def];split<;>omega) ω
   (λj v a=>by
     rw[Addr.add_lit,W9,K,d,World.cell?_setCells_out g _ _ _ _ (λh _=>absurd h E)];exact L j v a)
   (λj a=>by rw[K];rw[D]at a;exact H _ ω) (λj a=>by rw[V,d,World.frozen?_setCells];rw[D]at a;exact(cell _ ω).2) h2
 rw[<-d]at o;clear cell b
 go_enter Tryz.func67,Tryz.ntmps67
 go_wp2_with (simp only[P])
 go_region_law_o (refine iR rfl _ _ 39 39 rfl _ _ (by simp[Act.eval,Act.put]) (by simp[Act.eval,Act.put]) (o _ _ _) ?_)
 go_wp2_with (at_builtin;refine ee _ rfl _ _ 39 39 rfl _ _ rfl rfl (J _ (λ_=>rfl) (λ_=>rfl) _ _) ?_)
 go_ret
 first|exact⟨rfl,rfl⟩|exact⟨rfl,by rw[d]⟩
variable{q:Value}{H:TypeInfo}
def HL(J : Tryz.prog.info? 74=some H)(K:H.size=4)(V:H.zero=some q)(X:q.cells.size=4)(L:H.bytes=32)(w:World)(g n c i r m Y:Nat)(olds vs:List Value)(hm:m=1)(hi:i<n)(hn63:n<=1073741824)(hnc:n<=c)(C:c<n+m)(M:olds.length=n*4)(N:vs.length=4)(Z:∀t u,olds[t]? = some u->cel w g t=some u)(T:∀t u,vs[t]? = some u->cel w r t=some u)(h1:∀u∈olds,u.oneCell'=true)(h2:∀u∈vs,u.oneCell'=true) :
  Calls Tryz.prog 67 #[.slice (some ⟨g,0,none⟩) n c,.int .i64 i,.slice (some ⟨r,0,none⟩) m Y] w λe w'=>e=.returned (.slice (some ⟨w.heap.size,0,none⟩) (n+m) (grownCap w (n+m) c 74))/\
   w'=(((w.alloc (.cells ((olds.take (i*4)).toArray++Builtin.zeroCells q.cells (n+m - i)++Builtin.zeroCells q.cells (grownCap w (n+m) c 74 - (n+m))) 74)).drew.setCells w.heap.size (i*4) vs).drew).setCells w.heap.size ((i+m)*4) (olds.drop (i*4)):=by
 have mixed : Tryz.prog.follows .mixedOrders=true:=by kernel_rfl
 have hm1:0<m:=ω
 have hm2:m<=1:=ω
 clear hm;have hz1:¬((m:Int)=0):=ω
 have hz2:¬((i:Int)=(n:Int)):=ω
 have hz3:(c:Int)<(n:Int)+(m:Int):=ω
 have O:(Tryz.prog.info? 74).map (·.size)=some 4:=by rw[J];simp[K]
 have hbw:g<w.heap.size:=block_lt_of_cell (Z 0 _ (I3 ω));have hvw:r<w.heap.size:=block_lt_of_cell (T 0 _ (I3 ω));have P:(n:Int)+(m:Int) - (i:Int)=((n+m - i:Nat):Int):=ω
 have D:i+(n+m - i)=n+m:=ω
 have y:(Builtin.firstCells H.size i (.slice (some ⟨g,0,none⟩) i c)).run Tryz.prog w.drew=.ok (olds.take (i*4)).toArray w.drew:=by
  rw[K];exact run_firstCells_some w.drew 4 i ⟨g,0,none⟩ i c (olds.take (i*4)) (by rw[O2];omega) (λj v a=>by
    rw[Addr.add_lit,W9];rw[List.getElem?_take]at a;split at a
    · exact Z j v a
    cases a)
 have p:∀d,(Builtin.append_ #[39,3] d #[.slice (some ⟨g,0,none⟩) i c,.int .i64 ((n:Int)+(m:Int) - (i:Int))]).run Tryz.prog w =
   .ok (.slice (some ⟨w.heap.size,0,none⟩) (n+m) (grownCap w (n+m) c 74)) (w.drew.alloc (.cells ((olds.take (i*4)).toArray++Builtin.zeroCells q.cells (n+m - i)++Builtin.zeroCells q.cells (grownCap w (n+m) c 74 - (n+m))) 74)):=λd=>by
  have h:=Lib.run_append_grow_zeros w 39 3 d 74 H _ .i64 .i64 Tryz.underlying39 Tryz.underlying3 J V (some ⟨g,0,none⟩) i c (olds.take (i*4)) y (n+m - i) ω ω ω ω (by rw[L];omega) (by rw[L,D];exact growslice_fits C ω);rw[D]at h;rw[P];exact h
 obtain⟨G,U⟩ : ∃G,G=grownCap w (n+m) c 74:=⟨_,rfl⟩
 obtain⟨ROW,k⟩ : ∃ROW:Array Value,ROW=(olds.take (i*4)).toArray++Builtin.zeroCells q.cells (n+m - i)++Builtin.zeroCells q.cells (G - (n+m)):=⟨_,rfl⟩
 rw[<-U]at p |-;rw[<-k]at p |-;have hRl:(n+m)*4<=ROW.size:=by
  rw[k];simp only[Array.size_append,List.size_toArray,O2,size_zeroCells,X,M];omega
 obtain⟨o,b⟩ : ∃o,o=w.drew.alloc (.cells ROW 74):=⟨_,rfl⟩
 rw[<-b]at p;have hN:∀j,j<(n+m)*4->(o.cell? ⟨w.heap.size,j,none⟩).isSome=true:=λj a=>by
  rw[b,World.cell?_alloc_at (w:=w.drew) ROW _ w.heap.size j rfl,Z8 ω];rfl
 have Q:∀j,o.frozen? ⟨w.heap.size,j,none⟩ = false:=λj=>by rw[b];exact World.frozen?_alloc_at (w:=w.drew) ROW _ w.heap.size j rfl
 have hOb:∀j v,w.cell? ⟨g,j,none⟩ = some v->o.cell? ⟨g,j,none⟩ = some v:=λj v h=>by rw[b,World.cell?_alloc_past (w:=w.drew) _ g j hbw];exact h
 have hOv:∀j v,w.cell? ⟨r,j,none⟩ = some v->o.cell? ⟨r,j,none⟩ = some v:=λj v h=>by rw[b,World.cell?_alloc_past (w:=w.drew) _ r j hvw];exact h
 have R:∀(W:World),(∀x,W.cell? x=o.cell? x)->(∀x,W.frozen? x=o.frozen? x)->∀d E,(Builtin.copy_ #[39,39] d #[.slice (some ⟨w.heap.size,i*4,none⟩) (n+m - i) E,.slice (some ⟨r,0,none⟩) m Y]).run Tryz.prog W=.ok (goInt ((1:Nat):Int)) (W.setCells w.heap.size (i*4) vs):=λW l F d E=>
  eG W _ _ d 74 4 w.heap.size (i*4) (n+m - i) E ⟨r,0,none⟩ m Y 1 vs Tryz.underlying39 O (by simp only[Nat.min_def];split<;>omega) ω
   (λj v a=>by rw[Addr.add_lit,W9,l];exact hOv _ v (T j v a))
   (λj a=>by rw[l];rw[N]at a;exact hN _ ω) (λj a=>by rw[F];exact Q _) h2
 have hGn:n+m<=G:=by rw[U];exact grownCap_ge w _ _ _
 have hG63:G<=9223372036854775807:=by
  have:=grownCap_le_maxLen w (n+m) c 74 (by unfold maxLen;omega);rw[<-U]at this;unfold maxLen at this;omega
 have hGi:¬(G=i):=ω
 have hGim:¬(G=i+m):=ω
 have hci:¬(c=i):=ω
 have hbN:g≠w.heap.size:=ω
 have S:(olds.drop (i*4)).length=(n - i)*4:=by rw[Y4,M];omega
 have B:∀(W:World),(∀x,W.cell? x=(o.setCells w.heap.size (i*4) vs).cell? x)->(∀x,W.frozen? x=(o.setCells w.heap.size (i*4) vs).frozen? x)->∀d E sc,(Builtin.copy_ #[39,39] d #[.slice (some ⟨w.heap.size,(i+m)*4,none⟩) (n+m - (i+m)) E,.slice (some ⟨g,i*4,none⟩) (n - i) sc]).run Tryz.prog W=.ok (goInt ((n - i:Nat):Int)) (W.setCells w.heap.size ((i+m)*4) (olds.drop (i*4))):=λW l F d E sc=>
  eG W _ _ d 74 4 w.heap.size ((i+m)*4) (n+m - (i+m)) E ⟨g,i*4,none⟩ (n - i) sc (n - i) (olds.drop (i*4)) Tryz.underlying39 O (by simp only[Nat.min_def];split<;>omega) S
   (λj v a=>by
     rw[Addr.add_lit,l,World.cell?_setCells_out _ _ _ _ _ (λh _=>absurd h hbN)];exact hOb _ v (Z (i*4+j) v (by rwa [List.getElem?_drop]at a)))
   (λj a=>by rw[l];rw[S]at a;exact lK _ _ _ _ (λt ht=>by rw[N]at ht;exact hN _ ω) _ (hN _ ω))
   (λj a=>by rw[F,World.frozen?_setCells];exact Q _) (λv T=>h1 v (List.mem_of_mem_drop T))
 subst b;have hE1:∀x,((w.alloc (.cells ROW 74)).drew).cell? x=(w.drew.alloc (.cells ROW 74)).cell? x:=λx=>rfl
 have hE2:∀x,((w.alloc (.cells ROW 74)).drew).frozen? x=(w.drew.alloc (.cells ROW 74)).frozen? x:=λx=>rfl
 have hF1:∀x,(((w.alloc (.cells ROW 74)).drew.setCells w.heap.size (i*4) vs).drew).cell? x=((w.drew.alloc (.cells ROW 74)).setCells w.heap.size (i*4) vs).cell? x:=λx=>rfl
 have hF2:∀x,(((w.alloc (.cells ROW 74)).drew.setCells w.heap.size (i*4) vs).drew).frozen? x=((w.drew.alloc (.cells ROW 74)).setCells w.heap.size (i*4) vs).frozen? x:=λx=>rfl
 have hw1:IntKind.i64.wrap ((i:Int)+(m:Int))=(i:Int)+(m:Int):=by rw[IntKind.wrap_i64];omega
 have hw2:IntKind.i64.wrap ((n:Int)+(m:Int))=(n:Int)+(m:Int):=by rw[IntKind.wrap_i64];omega
 have hw3:IntKind.i64.wrap ((n:Int)+(m:Int) - (i:Int))=(n:Int)+(m:Int) - (i:Int):=by rw[IntKind.wrap_i64];omega
 have hb1:(0:Int)<=(i:Int)+(m:Int):=ω
 have hin:i<=n:=ω
 have htn:((i:Int)+(m:Int)).toNat=i+m:=ω
 have hb3:(i:Int)<=(n:Int):=ω
 clear P D y k U hRl
 go_enter Tryz.func67,Tryz.ntmps67
 go_wp2_with (first
   | (at_builtin;refine Lib.wpList_append_run _ rfl _ _ _ _ rfl _ _ rfl rfl _ _ (p _) ?_)
   | (at_builtin;refine ee _ rfl _ _ 39 39 rfl _ _ rfl rfl (R _ hE1 hE2 _ _) ?_)
   | (at_builtin;refine ee _ rfl _ _ 39 39 rfl _ _ rfl rfl (B _ (λ_=>rfl) (λ_=>rfl) _ _ _) ?_))
 go_region_law_o (refine iR rfl _ _ 39 39 rfl (.slice (some ⟨w.heap.size,(i+m)*4,none⟩) (n+m - (i+m)) (G - (i+m))) (.slice (some ⟨g,i*4,none⟩) (n - i) (c - i)) (by simp[Act.eval,Act.put]) (by simp[Act.eval,Act.put]) (B _ hF1 hF2 3 (G - (i+m)) (c - i)) ?_)
 go_wp2
 go_ret
 exact⟨rfl,rfl⟩
def JD:DE Tryz.prog 67 4 39 32:=by
 refine⟨⟨_,Tryz.func67,by kernel_rfl,by kernel_rfl⟩,KM,λw g n c i K m L olds M l o r h O b d u N p q j y B=>?_⟩;obtain⟨P,Q,C,D,E,k,F,G⟩:=xE;by_cases a:n+m<=c
 ·refine(Fi w g n c i K m L olds M l o h a b d u N p q j y B).mono λe w' ⟨H,J⟩=>?_
  subst l;rw[J];exact⟨g,c,H,a,qe o a b d u p q j⟩
 refine(HL C D E k G w g n c i K m L olds M l o h r ω b d u N p q).mono λe w' ⟨H,J⟩=>?_
 subst l;rw[J,wU];exact⟨_,_,H,grownCap_ge w _ _ _,rL (e:=74) rfl rfl rfl rfl o (grownCap_ge w _ _ _) k F b d p q⟩
def vO(xs:List aU):UM (xs.map (aU.enc .own)):=λr b c a=>by
 obtain⟨s,-,rfl⟩:=C6.1 b;simp[aU.enc]at a;rcases a with rfl|rfl|rfl|rfl<;>exact⟨_,rfl⟩
def y7(xs:List aU)(i:Nat)(x:aU)(j:i<=xs.length)(k:xs.length+1<=1073741824):zzB 67 false [.mut none [.s .own (xs.map (aU.enc .own))],.val none [I (i:Nat)],.mut none [.s .own [aU.enc .own x]]] [.mut none [.x],.val none [I (i:Nat)],.mut none [.x]] .one [.s .own ((inse xs i x).map (aU.enc .own))]:=by
 obtain⟨l,n,c,a,d,e,g,b⟩:=xE;have h:=KQ (row:=aU.enc .own x) Tryz.underlying39 c a d (by rw[a,e]) g (by rw[b];decide) (by rw[b];exact JD) (rows:=xs.map (aU.enc .own)) (i:=i) (by rw[O1];exact j) (aS λ_=>rfl) rfl (by decide) (vO xs) (vO [x]) (by rw[O1];exact k)
 rwa [zy]at h
def so:∃(b:TypeInfo)(c:Value),Tryz.prog.info? 175=some b/\b.size=3/\b.zero=some c/\c.cells.size=3/\(∀v∈c.cells.toList,v.oneCell'=true)/\b.bytes=24:=by
 have h:=(mF 175 _ rfl).1;cases e : Tryz.prog.info? 175 with
 | none=>rw[e]at h;cases h
 | some x=>
  rw[e]at h;simp only[O7,I1,Prod.mk.injEq]at h;obtain⟨a,g,i⟩:=h;cases d:x.zero with
  | none=>rw[d]at a;cases a
  | some z=>
   rw[d]at a;simp only[O7,I1]at a;refine⟨x,z,rfl,g,d,?_,λv f=>?_,i⟩
   ·rw[<-Array.length_toList,a];rfl
   rw[a]at f;have j:(List.map cval [I 0,I 0,I 0]).all (λv=>v.oneCell')=true:=rfl;exact X5.1 j v f
def Dw:∀w,(Go.sizeOf 175).run Tryz.prog w=.ok 3 w:=λ_=>by kernel_rfl
def EI(w w1:World)(base:Option Addr)(n c d m g:Nat)(r:Value)(i:m=1)(j:n<=c)(h:n<=1073741824)(k:base=none->n=0/\c=0)(b:(Builtin.append_ #[38,38] 38 #[.slice base n c,.slice (some ⟨d,0,none⟩) m g]).run Tryz.prog w=.ok r w1) :
  Calls Tryz.prog 192 #[.slice base n c,.int .i64 n,.slice (some ⟨d,0,none⟩) m g] w λe w'=>e=.returned r/\w'=w1:=by
 have mixed : Tryz.prog.follows .mixedOrders=true:=by kernel_rfl
 have l:0<m:=ω
 have o:m<=1:=ω
 clear i;have p:¬((m:Int)=0):=ω
 go_enter Tryz.func192,Tryz.ntmps192
 cases base with
 | none=>
  obtain⟨rfl,rfl⟩:=k rfl
  go_wp2_with (at_builtin;refine Lib.wpList_append_run _ rfl _ _ _ _ rfl _ _ rfl rfl _ _ b ?_)
  go_ret
  exact⟨rfl,rfl⟩
 | some a=>
  obtain⟨q,u,asp⟩:=a
  go_wp2_with (at_builtin;refine Lib.wpList_append_run _ rfl _ _ _ _ rfl _ _ rfl rfl _ _ b ?_)
  all_goals(go_ret;exact⟨rfl,rfl⟩)
def zc(w:World)(g n c i p m C:Nat)(olds vs:List Value)(Z:m=1)(hi:i<n)(X:n<=1073741824)(M:n+m<=c)(N:olds.length=n*3)(D:vs.length=3)(ho:∀t u,olds[t]? = some u->cel w g t=some u)(L:∀t u,vs[t]? = some u->cel w p t=some u)(h1:∀u∈olds,u.oneCell'=true)(h2:∀u∈vs,u.oneCell'=true)(b:∀q,q<c*3->(∃z,cel w g q=some z/\z.oneCell'=true)/\fro w g q=NF)(O:fro w p 0=NF)(E:p≠g) :
  Calls Tryz.prog 192 #[.slice (some ⟨g,0,none⟩) n c,.int .i64 i,.slice (some ⟨p,0,none⟩) m C] w λe w'=>e=.returned (.slice (some ⟨g,0,none⟩) (n+m) c)/\w'=(w.drew.setCells g ((i+m)*3) (olds.drop (i*3))).setCells g (i*3) vs:=by
 have mixed : Tryz.prog.follows .mixedOrders=true:=by kernel_rfl
 have hm1:0<m:=ω
 have hm2:m<=1:=ω
 clear Z;have hz1:¬((m:Int)=0):=ω
 have hz2:¬((i:Int)=(n:Int)):=ω
 have hz3:¬((c:Int)<(n:Int)+(m:Int)):=ω
 have F:(Tryz.prog.info? 175).map (·.size)=some 3:=by obtain⟨i0,z0,e1,e2,-⟩:=so;rw[e1];simp[e2]
 have cell:∀q,q<(n+m)*3->(w.cell? ⟨g,q,none⟩).isSome=true/\w.frozen? ⟨g,q,none⟩ = false:=λq Y=>by
  obtain⟨⟨z,hz,-⟩,hf⟩:=b q ω;exact⟨by show(cel w g q).isSome=true;rw[hz];rfl,C1 Prod.fst hf⟩
 have P:∀Q R,(callFunc 343 #[.slice (some ⟨p,0,none⟩) m C,.slice (some ⟨g,(i+m)*3,none⟩) Q R]).run Tryz.prog w=.ok (.value (.bool false)) w:=λQ R=>by
  obtain⟨y,hy⟩ : ∃y,vs[0]? = some y:=⟨_,I3 ω⟩
  obtain⟨⟨y',S,-⟩,T⟩:=b 0 ω;rw[run_callFunc_extern Tryz.func343 (by kernel_rfl) (by kernel_rfl) (by kernel_rfl) (e:=Extern.SlicesOverlaps.overlaps #[38,38] #[4]) (by kernel_rfl),
    qi (e:=175) (k:=3) Tryz.underlying38 Dw E (L 0 y hy) O S T _ m C Q R]
  rfl
 have l:(olds.drop (i*3)).length=(n - i)*3:=by rw[Y4,N];omega
 have hw1:IntKind.i64.wrap ((i:Int)+(m:Int))=(i:Int)+(m:Int):=by rw[IntKind.wrap_i64];omega
 have hw2:IntKind.i64.wrap ((n:Int)+(m:Int))=(n:Int)+(m:Int):=by rw[IntKind.wrap_i64];omega
 have hb1:(0:Int)<=(i:Int)+(m:Int):=ω
 have hin:i<=n:=ω
 have htn:((i:Int)+(m:Int)).toNat=i+m:=ω
 have hb2:¬(c=i+m):=ω
 have hb3:(i:Int)<=(n:Int)+(m:Int):=ω
 have hb4:¬(c=i):=ω
 have o:∀r B U,(Builtin.copy_ #[38,38] r #[.slice (some ⟨g,(i+m)*3,none⟩) (n+m - (i+m)) B,.slice (some ⟨g,i*3,none⟩) (n+m - i) U]).run Tryz.prog w.drew=.ok (goInt ((n - i:Nat):Int)) (w.drew.setCells g ((i+m)*3) (olds.drop (i*3))):=λr B U=>
  eG w.drew _ _ r 175 3 g ((i+m)*3) (n+m - (i+m)) B ⟨g,i*3,none⟩ (n+m - i) U (n - i) (olds.drop (i*3)) Tryz.underlying38 F (by simp only[Nat.min_def];split<;>omega) l
   (λj v a=>by rw[Addr.add_lit];exact ho (i*3+j) v (by rwa [List.getElem?_drop]at a))
   (λj a=>by rw[l]at a;exact(cell _ ω).1) (λj a=>by rw[l]at a;exact(cell _ ω).2) (λv L=>h1 v (List.mem_of_mem_drop L))
 obtain⟨G,d⟩ : ∃G,G=w.drew.setCells g ((i+m)*3) (olds.drop (i*3)):=⟨_,rfl⟩
 have H:∀q,q<(n+m)*3->(G.cell? ⟨g,q,none⟩).isSome=true:=λq Y=>by
  rw[d];exact lK g _ _ _ (λj a=>by rw[l]at a;exact(cell _ ω).1) _ (cell q Y).1
 have J:∀(W:World),(∀x,W.cell? x=G.cell? x)->(∀x,W.frozen? x=G.frozen? x)->∀r B,(Builtin.copy_ #[38,38] r #[.slice (some ⟨g,i*3,none⟩) (n+m - i) B,.slice (some ⟨p,0,none⟩) m C]).run Tryz.prog W=.ok (goInt ((1:Nat):Int)) (W.setCells g (i*3) vs):=λW K V r B=>
  eG W _ _ r 175 3 g (i*3) (n+m - i) B ⟨p,0,none⟩ m C 1 vs Tryz.underlying38 F (by simp only[Nat.min_def];split<;>omega) ω
   (λj v a=>by
     rw[Addr.add_lit,W9,K,d,World.cell?_setCells_out g _ _ _ _ (λh _=>absurd h E)];exact L j v a)
   (λj a=>by rw[K];rw[D]at a;exact H _ ω) (λj a=>by rw[V,d,World.frozen?_setCells];rw[D]at a;exact(cell _ ω).2) h2
 rw[<-d]at o;clear cell b
 go_enter Tryz.func192,Tryz.ntmps192
 go_wp2_with (simp only[P])
 go_region_law_o (refine iR rfl _ _ 38 38 rfl _ _ (by simp[Act.eval,Act.put]) (by simp[Act.eval,Act.put]) (o _ _ _) ?_)
 go_wp2_with (at_builtin;refine ee _ rfl _ _ 38 38 rfl _ _ rfl rfl (J _ (λ_=>rfl) (λ_=>rfl) _ _) ?_)
 go_ret
 first|exact⟨rfl,rfl⟩|exact⟨rfl,by rw[d]⟩
def Al(J : Tryz.prog.info? 175=some H)(K:H.size=3)(V:H.zero=some q)(X:q.cells.size=3)(L:H.bytes=24)(w:World)(g n c i r m Y:Nat)(olds vs:List Value)(hm:m=1)(hi:i<n)(hn63:n<=1073741824)(hnc:n<=c)(C:c<n+m)(M:olds.length=n*3)(N:vs.length=3)(Z:∀t u,olds[t]? = some u->cel w g t=some u)(T:∀t u,vs[t]? = some u->cel w r t=some u)(h1:∀u∈olds,u.oneCell'=true)(h2:∀u∈vs,u.oneCell'=true) :
  Calls Tryz.prog 192 #[.slice (some ⟨g,0,none⟩) n c,.int .i64 i,.slice (some ⟨r,0,none⟩) m Y] w λe w'=>e=.returned (.slice (some ⟨w.heap.size,0,none⟩) (n+m) (grownCap w (n+m) c 175))/\
   w'=(((w.alloc (.cells ((olds.take (i*3)).toArray++Builtin.zeroCells q.cells (n+m - i)++Builtin.zeroCells q.cells (grownCap w (n+m) c 175 - (n+m))) 175)).drew.setCells w.heap.size (i*3) vs).drew).setCells w.heap.size ((i+m)*3) (olds.drop (i*3)):=by
 have mixed : Tryz.prog.follows .mixedOrders=true:=by kernel_rfl
 have hm1:0<m:=ω
 have hm2:m<=1:=ω
 clear hm;have hz1:¬((m:Int)=0):=ω
 have hz2:¬((i:Int)=(n:Int)):=ω
 have hz3:(c:Int)<(n:Int)+(m:Int):=ω
 have O:(Tryz.prog.info? 175).map (·.size)=some 3:=by rw[J];simp[K]
 have hbw:g<w.heap.size:=block_lt_of_cell (Z 0 _ (I3 ω));have hvw:r<w.heap.size:=block_lt_of_cell (T 0 _ (I3 ω));have P:(n:Int)+(m:Int) - (i:Int)=((n+m - i:Nat):Int):=ω
 have D:i+(n+m - i)=n+m:=ω
 have y:(Builtin.firstCells H.size i (.slice (some ⟨g,0,none⟩) i c)).run Tryz.prog w.drew=.ok (olds.take (i*3)).toArray w.drew:=by
  rw[K];exact run_firstCells_some w.drew 3 i ⟨g,0,none⟩ i c (olds.take (i*3)) (by rw[O2];omega) (λj v a=>by
    rw[Addr.add_lit,W9];rw[List.getElem?_take]at a;split at a
    · exact Z j v a
    cases a)
 have p:∀d,(Builtin.append_ #[38,3] d #[.slice (some ⟨g,0,none⟩) i c,.int .i64 ((n:Int)+(m:Int) - (i:Int))]).run Tryz.prog w =
   .ok (.slice (some ⟨w.heap.size,0,none⟩) (n+m) (grownCap w (n+m) c 175)) (w.drew.alloc (.cells ((olds.take (i*3)).toArray++Builtin.zeroCells q.cells (n+m - i)++Builtin.zeroCells q.cells (grownCap w (n+m) c 175 - (n+m))) 175)):=λd=>by
  have h:=Lib.run_append_grow_zeros w 38 3 d 175 H _ .i64 .i64 Tryz.underlying38 Tryz.underlying3 J V (some ⟨g,0,none⟩) i c (olds.take (i*3)) y (n+m - i) ω ω ω ω (by rw[L];omega) (by rw[L,D];exact growslice_fits C ω);rw[D]at h;rw[P];exact h
 obtain⟨G,U⟩ : ∃G,G=grownCap w (n+m) c 175:=⟨_,rfl⟩
 obtain⟨ROW,k⟩ : ∃ROW:Array Value,ROW=(olds.take (i*3)).toArray++Builtin.zeroCells q.cells (n+m - i)++Builtin.zeroCells q.cells (G - (n+m)):=⟨_,rfl⟩
 rw[<-U]at p |-;rw[<-k]at p |-;have hRl:(n+m)*3<=ROW.size:=by
  rw[k];simp only[Array.size_append,List.size_toArray,O2,size_zeroCells,X,M];omega
 obtain⟨o,b⟩ : ∃o,o=w.drew.alloc (.cells ROW 175):=⟨_,rfl⟩
 rw[<-b]at p;have hN:∀j,j<(n+m)*3->(o.cell? ⟨w.heap.size,j,none⟩).isSome=true:=λj a=>by
  rw[b,World.cell?_alloc_at (w:=w.drew) ROW _ w.heap.size j rfl,Z8 ω];rfl
 have Q:∀j,o.frozen? ⟨w.heap.size,j,none⟩ = false:=λj=>by rw[b];exact World.frozen?_alloc_at (w:=w.drew) ROW _ w.heap.size j rfl
 have hOb:∀j v,w.cell? ⟨g,j,none⟩ = some v->o.cell? ⟨g,j,none⟩ = some v:=λj v h=>by rw[b,World.cell?_alloc_past (w:=w.drew) _ g j hbw];exact h
 have hOv:∀j v,w.cell? ⟨r,j,none⟩ = some v->o.cell? ⟨r,j,none⟩ = some v:=λj v h=>by rw[b,World.cell?_alloc_past (w:=w.drew) _ r j hvw];exact h
 have R:∀(W:World),(∀x,W.cell? x=o.cell? x)->(∀x,W.frozen? x=o.frozen? x)->∀d E,(Builtin.copy_ #[38,38] d #[.slice (some ⟨w.heap.size,i*3,none⟩) (n+m - i) E,.slice (some ⟨r,0,none⟩) m Y]).run Tryz.prog W=.ok (goInt ((1:Nat):Int)) (W.setCells w.heap.size (i*3) vs):=λW l F d E=>
  eG W _ _ d 175 3 w.heap.size (i*3) (n+m - i) E ⟨r,0,none⟩ m Y 1 vs Tryz.underlying38 O (by simp only[Nat.min_def];split<;>omega) ω
   (λj v a=>by rw[Addr.add_lit,W9,l];exact hOv _ v (T j v a))
   (λj a=>by rw[l];rw[N]at a;exact hN _ ω) (λj a=>by rw[F];exact Q _) h2
 have hGn:n+m<=G:=by rw[U];exact grownCap_ge w _ _ _
 have hG63:G<=9223372036854775807:=by
  have:=grownCap_le_maxLen w (n+m) c 175 (by unfold maxLen;omega);rw[<-U]at this;unfold maxLen at this;omega
 have hGi:¬(G=i):=ω
 have hGim:¬(G=i+m):=ω
 have hci:¬(c=i):=ω
 have hbN:g≠w.heap.size:=ω
 have S:(olds.drop (i*3)).length=(n - i)*3:=by rw[Y4,M];omega
 have B:∀(W:World),(∀x,W.cell? x=(o.setCells w.heap.size (i*3) vs).cell? x)->(∀x,W.frozen? x=(o.setCells w.heap.size (i*3) vs).frozen? x)->∀d E sc,(Builtin.copy_ #[38,38] d #[.slice (some ⟨w.heap.size,(i+m)*3,none⟩) (n+m - (i+m)) E,.slice (some ⟨g,i*3,none⟩) (n - i) sc]).run Tryz.prog W=.ok (goInt ((n - i:Nat):Int)) (W.setCells w.heap.size ((i+m)*3) (olds.drop (i*3))):=λW l F d E sc=>
  eG W _ _ d 175 3 w.heap.size ((i+m)*3) (n+m - (i+m)) E ⟨g,i*3,none⟩ (n - i) sc (n - i) (olds.drop (i*3)) Tryz.underlying38 O (by simp only[Nat.min_def];split<;>omega) S
   (λj v a=>by
     rw[Addr.add_lit,l,World.cell?_setCells_out _ _ _ _ _ (λh _=>absurd h hbN)];exact hOb _ v (Z (i*3+j) v (by rwa [List.getElem?_drop]at a)))
   (λj a=>by rw[l];rw[S]at a;exact lK _ _ _ _ (λt ht=>by rw[N]at ht;exact hN _ ω) _ (hN _ ω))
   (λj a=>by rw[F,World.frozen?_setCells];exact Q _) (λv T=>h1 v (List.mem_of_mem_drop T))
 subst b;have hE1:∀x,((w.alloc (.cells ROW 175)).drew).cell? x=(w.drew.alloc (.cells ROW 175)).cell? x:=λx=>rfl
 have hE2:∀x,((w.alloc (.cells ROW 175)).drew).frozen? x=(w.drew.alloc (.cells ROW 175)).frozen? x:=λx=>rfl
 have hF1:∀x,(((w.alloc (.cells ROW 175)).drew.setCells w.heap.size (i*3) vs).drew).cell? x=((w.drew.alloc (.cells ROW 175)).setCells w.heap.size (i*3) vs).cell? x:=λx=>rfl
 have hF2:∀x,(((w.alloc (.cells ROW 175)).drew.setCells w.heap.size (i*3) vs).drew).frozen? x=((w.drew.alloc (.cells ROW 175)).setCells w.heap.size (i*3) vs).frozen? x:=λx=>rfl
 have hw1:IntKind.i64.wrap ((i:Int)+(m:Int))=(i:Int)+(m:Int):=by rw[IntKind.wrap_i64];omega
 have hw2:IntKind.i64.wrap ((n:Int)+(m:Int))=(n:Int)+(m:Int):=by rw[IntKind.wrap_i64];omega
 have hw3:IntKind.i64.wrap ((n:Int)+(m:Int) - (i:Int))=(n:Int)+(m:Int) - (i:Int):=by rw[IntKind.wrap_i64];omega
 have hb1:(0:Int)<=(i:Int)+(m:Int):=ω
 have hin:i<=n:=ω
 have htn:((i:Int)+(m:Int)).toNat=i+m:=ω
 have hb3:(i:Int)<=(n:Int):=ω
 clear P D y k U hRl
 go_enter Tryz.func192,Tryz.ntmps192
 go_wp2_with (first
   | (at_builtin;refine Lib.wpList_append_run _ rfl _ _ _ _ rfl _ _ rfl rfl _ _ (p _) ?_)
   | (at_builtin;refine ee _ rfl _ _ 38 38 rfl _ _ rfl rfl (R _ hE1 hE2 _ _) ?_)
   | (at_builtin;refine ee _ rfl _ _ 38 38 rfl _ _ rfl rfl (B _ (λ_=>rfl) (λ_=>rfl) _ _ _) ?_))
 go_region_law_o (refine iR rfl _ _ 38 38 rfl (.slice (some ⟨w.heap.size,(i+m)*3,none⟩) (n+m - (i+m)) (G - (i+m))) (.slice (some ⟨g,i*3,none⟩) (n - i) (c - i)) (by simp[Act.eval,Act.put]) (by simp[Act.eval,Act.put]) (B _ hF1 hF2 3 (G - (i+m)) (c - i)) ?_)
 go_wp2
 go_ret
 exact⟨rfl,rfl⟩
def DV:DE Tryz.prog 192 3 38 24:=by
 refine⟨⟨_,Tryz.func192,by kernel_rfl,by kernel_rfl⟩,EI,λw g n c i K m L olds M l o r h O b d u N p q j y B=>?_⟩;obtain⟨P,Q,C,D,E,k,F,G⟩:=so;by_cases a:n+m<=c
 ·refine(zc w g n c i K m L olds M l o h a b d u N p q j y B).mono λe w' ⟨H,J⟩=>?_
  subst l;rw[J];exact⟨g,c,H,a,qe o a b d u p q j⟩
 refine(Al C D E k G w g n c i K m L olds M l o h r ω b d u N p q).mono λe w' ⟨H,J⟩=>?_
 subst l;rw[J,wU];exact⟨_,_,H,grownCap_ge w _ _ _,rL (e:=175) rfl rfl rfl rfl o (grownCap_ge w _ _ _) k F b d p q⟩
def rm(xs:List aB):UM (xs.map (aB.enc .own)):=λr b c a=>by
 obtain⟨s,-,rfl⟩:=C6.1 b;simp[aB.enc]at a;rcases a with rfl|rfl|rfl<;>exact⟨_,rfl⟩
def Em(xs:List aB)(i:Nat)(x:aB)(j:i<=xs.length)(k:xs.length+1<=1073741824):zzB 192 false [.mut none [.s .own (xs.map (aB.enc .own))],.val none [I (i:Nat)],.mut none [.s .own [aB.enc .own x]]] [.mut none [.x],.val none [I (i:Nat)],.mut none [.x]] .one [.s .own ((inse xs i x).map (aB.enc .own))]:=by
 obtain⟨l,n,c,a,d,e,g,b⟩:=so;have h:=KQ (row:=aB.enc .own x) Tryz.underlying38 c a d (by rw[a,e]) g (by rw[b];decide) (by rw[b];exact DV) (rows:=xs.map (aB.enc .own)) (i:=i) (by rw[O1];exact j) (aS λ_=>rfl) rfl (by decide) (rm xs) (rm [x]) (by rw[O1];exact k)
 rwa [zy]at h
def vn:∃(b:TypeInfo)(c:Value),Tryz.prog.info? 267=some b/\b.size=3/\b.zero=some c/\c.cells.size=3/\(∀v∈c.cells.toList,v.oneCell'=true)/\b.bytes=24:=by
 have h:=(mF 267 _ rfl).1;cases e : Tryz.prog.info? 267 with
 | none=>rw[e]at h;cases h
 | some x=>
  rw[e]at h;simp only[O7,I1,Prod.mk.injEq]at h;obtain⟨a,g,i⟩:=h;cases d:x.zero with
  | none=>rw[d]at a;cases a
  | some z=>
   rw[d]at a;simp only[O7,I1]at a;refine⟨x,z,rfl,g,d,?_,λv f=>?_,i⟩
   ·rw[<-Array.length_toList,a];rfl
   rw[a]at f;have j:(List.map cval [I 0,I 0,I 0]).all (λv=>v.oneCell')=true:=rfl;exact X5.1 j v f
def HC:∀w,(Go.sizeOf 267).run Tryz.prog w=.ok 3 w:=λ_=>by kernel_rfl
def Hl(w w1:World)(base:Option Addr)(n c d m g:Nat)(r:Value)(i:m=1)(j:n<=c)(h:n<=1073741824)(k:base=none->n=0/\c=0)(b:(Builtin.append_ #[37,37] 37 #[.slice base n c,.slice (some ⟨d,0,none⟩) m g]).run Tryz.prog w=.ok r w1) :
  Calls Tryz.prog 342 #[.slice base n c,.int .i64 n,.slice (some ⟨d,0,none⟩) m g] w λe w'=>e=.returned r/\w'=w1:=by
 have mixed : Tryz.prog.follows .mixedOrders=true:=by kernel_rfl
 have l:0<m:=ω
 have o:m<=1:=ω
 clear i;have p:¬((m:Int)=0):=ω
 go_enter Tryz.func342,Tryz.ntmps342
 cases base with
 | none=>
  obtain⟨rfl,rfl⟩:=k rfl
  go_wp2_with (at_builtin;refine Lib.wpList_append_run _ rfl _ _ _ _ rfl _ _ rfl rfl _ _ b ?_)
  go_ret
  exact⟨rfl,rfl⟩
 | some a=>
  obtain⟨q,u,asp⟩:=a
  go_wp2_with (at_builtin;refine Lib.wpList_append_run _ rfl _ _ _ _ rfl _ _ rfl rfl _ _ b ?_)
  all_goals(go_ret;exact⟨rfl,rfl⟩)
def A6(w:World)(g n c i p m C:Nat)(olds vs:List Value)(Z:m=1)(hi:i<n)(X:n<=1073741824)(M:n+m<=c)(N:olds.length=n*3)(D:vs.length=3)(ho:∀t u,olds[t]? = some u->cel w g t=some u)(L:∀t u,vs[t]? = some u->cel w p t=some u)(h1:∀u∈olds,u.oneCell'=true)(h2:∀u∈vs,u.oneCell'=true)(b:∀q,q<c*3->(∃z,cel w g q=some z/\z.oneCell'=true)/\fro w g q=NF)(O:fro w p 0=NF)(E:p≠g) :
  Calls Tryz.prog 342 #[.slice (some ⟨g,0,none⟩) n c,.int .i64 i,.slice (some ⟨p,0,none⟩) m C] w λe w'=>e=.returned (.slice (some ⟨g,0,none⟩) (n+m) c)/\w'=(w.drew.setCells g ((i+m)*3) (olds.drop (i*3))).setCells g (i*3) vs:=by
 have mixed : Tryz.prog.follows .mixedOrders=true:=by kernel_rfl
 have hm1:0<m:=ω
 have hm2:m<=1:=ω
 clear Z;have hz1:¬((m:Int)=0):=ω
 have hz2:¬((i:Int)=(n:Int)):=ω
 have hz3:¬((c:Int)<(n:Int)+(m:Int)):=ω
 have F:(Tryz.prog.info? 267).map (·.size)=some 3:=by obtain⟨i0,z0,e1,e2,-⟩:=vn;rw[e1];simp[e2]
 have cell:∀q,q<(n+m)*3->(w.cell? ⟨g,q,none⟩).isSome=true/\w.frozen? ⟨g,q,none⟩ = false:=λq Y=>by
  obtain⟨⟨z,hz,-⟩,hf⟩:=b q ω;exact⟨by show(cel w g q).isSome=true;rw[hz];rfl,C1 Prod.fst hf⟩
 have P:∀Q R,(callFunc 461 #[.slice (some ⟨p,0,none⟩) m C,.slice (some ⟨g,(i+m)*3,none⟩) Q R]).run Tryz.prog w=.ok (.value (.bool false)) w:=λQ R=>by
  obtain⟨y,hy⟩ : ∃y,vs[0]? = some y:=⟨_,I3 ω⟩
  obtain⟨⟨y',S,-⟩,T⟩:=b 0 ω;rw[run_callFunc_extern Tryz.func461 (by kernel_rfl) (by kernel_rfl) (by kernel_rfl) (e:=Extern.SlicesOverlaps.overlaps #[37,37] #[4]) (by kernel_rfl),
    qi (e:=267) (k:=3) Tryz.underlying37 HC E (L 0 y hy) O S T _ m C Q R]
  rfl
 have l:(olds.drop (i*3)).length=(n - i)*3:=by rw[Y4,N];omega
 have hw1:IntKind.i64.wrap ((i:Int)+(m:Int))=(i:Int)+(m:Int):=by rw[IntKind.wrap_i64];omega
 have hw2:IntKind.i64.wrap ((n:Int)+(m:Int))=(n:Int)+(m:Int):=by rw[IntKind.wrap_i64];omega
 have hb1:(0:Int)<=(i:Int)+(m:Int):=ω
 have hin:i<=n:=ω
 have htn:((i:Int)+(m:Int)).toNat=i+m:=ω
 have hb2:¬(c=i+m):=ω
 have hb3:(i:Int)<=(n:Int)+(m:Int):=ω
 have hb4:¬(c=i):=ω
 have o:∀r B U,(Builtin.copy_ #[37,37] r #[.slice (some ⟨g,(i+m)*3,none⟩) (n+m - (i+m)) B,.slice (some ⟨g,i*3,none⟩) (n+m - i) U]).run Tryz.prog w.drew=.ok (goInt ((n - i:Nat):Int)) (w.drew.setCells g ((i+m)*3) (olds.drop (i*3))):=λr B U=>
  eG w.drew _ _ r 267 3 g ((i+m)*3) (n+m - (i+m)) B ⟨g,i*3,none⟩ (n+m - i) U (n - i) (olds.drop (i*3)) Tryz.underlying37 F (by simp only[Nat.min_def];split<;>omega) l
   (λj v a=>by rw[Addr.add_lit];exact ho (i*3+j) v (by rwa [List.getElem?_drop]at a))
   (λj a=>by rw[l]at a;exact(cell _ ω).1) (λj a=>by rw[l]at a;exact(cell _ ω).2) (λv L=>h1 v (List.mem_of_mem_drop L))
 obtain⟨G,d⟩ : ∃G,G=w.drew.setCells g ((i+m)*3) (olds.drop (i*3)):=⟨_,rfl⟩
 have H:∀q,q<(n+m)*3->(G.cell? ⟨g,q,none⟩).isSome=true:=λq Y=>by
  rw[d];exact lK g _ _ _ (λj a=>by rw[l]at a;exact(cell _ ω).1) _ (cell q Y).1
 have J:∀(W:World),(∀x,W.cell? x=G.cell? x)->(∀x,W.frozen? x=G.frozen? x)->∀r B,(Builtin.copy_ #[37,37] r #[.slice (some ⟨g,i*3,none⟩) (n+m - i) B,.slice (some ⟨p,0,none⟩) m C]).run Tryz.prog W=.ok (goInt ((1:Nat):Int)) (W.setCells g (i*3) vs):=λW K V r B=>
  eG W _ _ r 267 3 g (i*3) (n+m - i) B ⟨p,0,none⟩ m C 1 vs Tryz.underlying37 F (by simp only[Nat.min_def];split<;>omega) ω
   (λj v a=>by
     rw[Addr.add_lit,W9,K,d,World.cell?_setCells_out g _ _ _ _ (λh _=>absurd h E)];exact L j v a)
   (λj a=>by rw[K];rw[D]at a;exact H _ ω) (λj a=>by rw[V,d,World.frozen?_setCells];rw[D]at a;exact(cell _ ω).2) h2
 rw[<-d]at o;clear cell b
 go_enter Tryz.func342,Tryz.ntmps342
 go_wp2_with (simp only[P])
 go_region_law_o (refine iR rfl _ _ 37 37 rfl _ _ (by simp[Act.eval,Act.put]) (by simp[Act.eval,Act.put]) (o _ _ _) ?_)
 go_wp2_with (at_builtin;refine ee _ rfl _ _ 37 37 rfl _ _ rfl rfl (J _ (λ_=>rfl) (λ_=>rfl) _ _) ?_)
 go_ret
 first|exact⟨rfl,rfl⟩|exact⟨rfl,by rw[d]⟩
def Fs(J : Tryz.prog.info? 267=some H)(K:H.size=3)(V:H.zero=some q)(X:q.cells.size=3)(L:H.bytes=24)(w:World)(g n c i r m Y:Nat)(olds vs:List Value)(hm:m=1)(hi:i<n)(hn63:n<=1073741824)(hnc:n<=c)(C:c<n+m)(M:olds.length=n*3)(N:vs.length=3)(Z:∀t u,olds[t]? = some u->cel w g t=some u)(T:∀t u,vs[t]? = some u->cel w r t=some u)(h1:∀u∈olds,u.oneCell'=true)(h2:∀u∈vs,u.oneCell'=true) :
  Calls Tryz.prog 342 #[.slice (some ⟨g,0,none⟩) n c,.int .i64 i,.slice (some ⟨r,0,none⟩) m Y] w λe w'=>e=.returned (.slice (some ⟨w.heap.size,0,none⟩) (n+m) (grownCap w (n+m) c 267))/\
   w'=(((w.alloc (.cells ((olds.take (i*3)).toArray++Builtin.zeroCells q.cells (n+m - i)++Builtin.zeroCells q.cells (grownCap w (n+m) c 267 - (n+m))) 267)).drew.setCells w.heap.size (i*3) vs).drew).setCells w.heap.size ((i+m)*3) (olds.drop (i*3)):=by
 have mixed : Tryz.prog.follows .mixedOrders=true:=by kernel_rfl
 have hm1:0<m:=ω
 have hm2:m<=1:=ω
 clear hm;have hz1:¬((m:Int)=0):=ω
 have hz2:¬((i:Int)=(n:Int)):=ω
 have hz3:(c:Int)<(n:Int)+(m:Int):=ω
 have O:(Tryz.prog.info? 267).map (·.size)=some 3:=by rw[J];simp[K]
 have hbw:g<w.heap.size:=block_lt_of_cell (Z 0 _ (I3 ω));have hvw:r<w.heap.size:=block_lt_of_cell (T 0 _ (I3 ω));have P:(n:Int)+(m:Int) - (i:Int)=((n+m - i:Nat):Int):=ω
 have D:i+(n+m - i)=n+m:=ω
 have y:(Builtin.firstCells H.size i (.slice (some ⟨g,0,none⟩) i c)).run Tryz.prog w.drew=.ok (olds.take (i*3)).toArray w.drew:=by
  rw[K];exact run_firstCells_some w.drew 3 i ⟨g,0,none⟩ i c (olds.take (i*3)) (by rw[O2];omega) (λj v a=>by
    rw[Addr.add_lit,W9];rw[List.getElem?_take]at a;split at a
    · exact Z j v a
    cases a)
 have p:∀d,(Builtin.append_ #[37,3] d #[.slice (some ⟨g,0,none⟩) i c,.int .i64 ((n:Int)+(m:Int) - (i:Int))]).run Tryz.prog w =
   .ok (.slice (some ⟨w.heap.size,0,none⟩) (n+m) (grownCap w (n+m) c 267)) (w.drew.alloc (.cells ((olds.take (i*3)).toArray++Builtin.zeroCells q.cells (n+m - i)++Builtin.zeroCells q.cells (grownCap w (n+m) c 267 - (n+m))) 267)):=λd=>by
  have h:=Lib.run_append_grow_zeros w 37 3 d 267 H _ .i64 .i64 Tryz.underlying37 Tryz.underlying3 J V (some ⟨g,0,none⟩) i c (olds.take (i*3)) y (n+m - i) ω ω ω ω (by rw[L];omega) (by rw[L,D];exact growslice_fits C ω);rw[D]at h;rw[P];exact h
 obtain⟨G,U⟩ : ∃G,G=grownCap w (n+m) c 267:=⟨_,rfl⟩
 obtain⟨ROW,k⟩ : ∃ROW:Array Value,ROW=(olds.take (i*3)).toArray++Builtin.zeroCells q.cells (n+m - i)++Builtin.zeroCells q.cells (G - (n+m)):=⟨_,rfl⟩
 rw[<-U]at p |-;rw[<-k]at p |-;have hRl:(n+m)*3<=ROW.size:=by
  rw[k];simp only[Array.size_append,List.size_toArray,O2,size_zeroCells,X,M];omega
 obtain⟨o,b⟩ : ∃o,o=w.drew.alloc (.cells ROW 267):=⟨_,rfl⟩
 rw[<-b]at p;have hN:∀j,j<(n+m)*3->(o.cell? ⟨w.heap.size,j,none⟩).isSome=true:=λj a=>by
  rw[b,World.cell?_alloc_at (w:=w.drew) ROW _ w.heap.size j rfl,Z8 ω];rfl
 have Q:∀j,o.frozen? ⟨w.heap.size,j,none⟩ = false:=λj=>by rw[b];exact World.frozen?_alloc_at (w:=w.drew) ROW _ w.heap.size j rfl
 have hOb:∀j v,w.cell? ⟨g,j,none⟩ = some v->o.cell? ⟨g,j,none⟩ = some v:=λj v h=>by rw[b,World.cell?_alloc_past (w:=w.drew) _ g j hbw];exact h
 have hOv:∀j v,w.cell? ⟨r,j,none⟩ = some v->o.cell? ⟨r,j,none⟩ = some v:=λj v h=>by rw[b,World.cell?_alloc_past (w:=w.drew) _ r j hvw];exact h
 have R:∀(W:World),(∀x,W.cell? x=o.cell? x)->(∀x,W.frozen? x=o.frozen? x)->∀d E,(Builtin.copy_ #[37,37] d #[.slice (some ⟨w.heap.size,i*3,none⟩) (n+m - i) E,.slice (some ⟨r,0,none⟩) m Y]).run Tryz.prog W=.ok (goInt ((1:Nat):Int)) (W.setCells w.heap.size (i*3) vs):=λW l F d E=>
  eG W _ _ d 267 3 w.heap.size (i*3) (n+m - i) E ⟨r,0,none⟩ m Y 1 vs Tryz.underlying37 O (by simp only[Nat.min_def];split<;>omega) ω
   (λj v a=>by rw[Addr.add_lit,W9,l];exact hOv _ v (T j v a))
   (λj a=>by rw[l];rw[N]at a;exact hN _ ω) (λj a=>by rw[F];exact Q _) h2
 have hGn:n+m<=G:=by rw[U];exact grownCap_ge w _ _ _
 have hG63:G<=9223372036854775807:=by
  have:=grownCap_le_maxLen w (n+m) c 267 (by unfold maxLen;omega);rw[<-U]at this;unfold maxLen at this;omega
 have hGi:¬(G=i):=ω
 have hGim:¬(G=i+m):=ω
 have hci:¬(c=i):=ω
 have hbN:g≠w.heap.size:=ω
 have S:(olds.drop (i*3)).length=(n - i)*3:=by rw[Y4,M];omega
 have B:∀(W:World),(∀x,W.cell? x=(o.setCells w.heap.size (i*3) vs).cell? x)->(∀x,W.frozen? x=(o.setCells w.heap.size (i*3) vs).frozen? x)->∀d E sc,(Builtin.copy_ #[37,37] d #[.slice (some ⟨w.heap.size,(i+m)*3,none⟩) (n+m - (i+m)) E,.slice (some ⟨g,i*3,none⟩) (n - i) sc]).run Tryz.prog W=.ok (goInt ((n - i:Nat):Int)) (W.setCells w.heap.size ((i+m)*3) (olds.drop (i*3))):=λW l F d E sc=>
  eG W _ _ d 267 3 w.heap.size ((i+m)*3) (n+m - (i+m)) E ⟨g,i*3,none⟩ (n - i) sc (n - i) (olds.drop (i*3)) Tryz.underlying37 O (by simp only[Nat.min_def];split<;>omega) S
   (λj v a=>by
     rw[Addr.add_lit,l,World.cell?_setCells_out _ _ _ _ _ (λh _=>absurd h hbN)];exact hOb _ v (Z (i*3+j) v (by rwa [List.getElem?_drop]at a)))
   (λj a=>by rw[l];rw[S]at a;exact lK _ _ _ _ (λt ht=>by rw[N]at ht;exact hN _ ω) _ (hN _ ω))
   (λj a=>by rw[F,World.frozen?_setCells];exact Q _) (λv T=>h1 v (List.mem_of_mem_drop T))
 subst b;have hE1:∀x,((w.alloc (.cells ROW 267)).drew).cell? x=(w.drew.alloc (.cells ROW 267)).cell? x:=λx=>rfl
 have hE2:∀x,((w.alloc (.cells ROW 267)).drew).frozen? x=(w.drew.alloc (.cells ROW 267)).frozen? x:=λx=>rfl
 have hF1:∀x,(((w.alloc (.cells ROW 267)).drew.setCells w.heap.size (i*3) vs).drew).cell? x=((w.drew.alloc (.cells ROW 267)).setCells w.heap.size (i*3) vs).cell? x:=λx=>rfl
 have hF2:∀x,(((w.alloc (.cells ROW 267)).drew.setCells w.heap.size (i*3) vs).drew).frozen? x=((w.drew.alloc (.cells ROW 267)).setCells w.heap.size (i*3) vs).frozen? x:=λx=>rfl
 have hw1:IntKind.i64.wrap ((i:Int)+(m:Int))=(i:Int)+(m:Int):=by rw[IntKind.wrap_i64];omega
 have hw2:IntKind.i64.wrap ((n:Int)+(m:Int))=(n:Int)+(m:Int):=by rw[IntKind.wrap_i64];omega
 have hw3:IntKind.i64.wrap ((n:Int)+(m:Int) - (i:Int))=(n:Int)+(m:Int) - (i:Int):=by rw[IntKind.wrap_i64];omega
 have hb1:(0:Int)<=(i:Int)+(m:Int):=ω
 have hin:i<=n:=ω
 have htn:((i:Int)+(m:Int)).toNat=i+m:=ω
 have hb3:(i:Int)<=(n:Int):=ω
 clear P D y k U hRl
 go_enter Tryz.func342,Tryz.ntmps342
 go_wp2_with (first
   | (at_builtin;refine Lib.wpList_append_run _ rfl _ _ _ _ rfl _ _ rfl rfl _ _ (p _) ?_)
   | (at_builtin;refine ee _ rfl _ _ 37 37 rfl _ _ rfl rfl (R _ hE1 hE2 _ _) ?_)
   | (at_builtin;refine ee _ rfl _ _ 37 37 rfl _ _ rfl rfl (B _ (λ_=>rfl) (λ_=>rfl) _ _ _) ?_))
 go_region_law_o (refine iR rfl _ _ 37 37 rfl (.slice (some ⟨w.heap.size,(i+m)*3,none⟩) (n+m - (i+m)) (G - (i+m))) (.slice (some ⟨g,i*3,none⟩) (n - i) (c - i)) (by simp[Act.eval,Act.put]) (by simp[Act.eval,Act.put]) (B _ hF1 hF2 3 (G - (i+m)) (c - i)) ?_)
 go_wp2
 go_ret
 exact⟨rfl,rfl⟩
def HE:DE Tryz.prog 342 3 37 24:=by
 refine⟨⟨_,Tryz.func342,by kernel_rfl,by kernel_rfl⟩,Hl,λw g n c i K m L olds M l o r h O b d u N p q j y B=>?_⟩;obtain⟨P,Q,C,D,E,k,F,G⟩:=vn;by_cases a:n+m<=c
 ·refine(A6 w g n c i K m L olds M l o h a b d u N p q j y B).mono λe w' ⟨H,J⟩=>?_
  subst l;rw[J];exact⟨g,c,H,a,qe o a b d u p q j⟩
 refine(Fs C D E k G w g n c i K m L olds M l o h r ω b d u N p q).mono λe w' ⟨H,J⟩=>?_
 subst l;rw[J,wU];exact⟨_,_,H,grownCap_ge w _ _ _,rL (e:=267) rfl rfl rfl rfl o (grownCap_ge w _ _ _) k F b d p q⟩
def ta(xs:List aA):UM (xs.map (aA.enc .own)):=λr b c a=>by
 obtain⟨s,-,rfl⟩:=C6.1 b;simp[aA.enc]at a;rcases a with rfl|rfl|rfl<;>exact⟨_,rfl⟩
def Ja(xs:List aA)(i:Nat)(x:aA)(j:i<=xs.length)(k:xs.length+1<=1073741824):zzB 342 false [.mut none [.s .own (xs.map (aA.enc .own))],.val none [I (i:Nat)],.mut none [.s .own [aA.enc .own x]]] [.mut none [.x],.val none [I (i:Nat)],.mut none [.x]] .one [.s .own ((inse xs i x).map (aA.enc .own))]:=by
 obtain⟨l,n,c,a,d,e,g,b⟩:=vn;have h:=KQ (row:=aA.enc .own x) Tryz.underlying37 c a d (by rw[a,e]) g (by rw[b];decide) (by rw[b];exact HE) (rows:=xs.map (aA.enc .own)) (i:=i) (by rw[O1];exact j) (aS λ_=>rfl) rfl (by decide) (ta xs) (ta [x]) (by rw[O1];exact k)
 rwa [zy]at h
def oF(h:ac):C:=oE (h.o.map (aC.enc .own))
def gL(h:ac):List C:=[.s .own (h.G.F.X.V.map (aJ .own)),.s .own (h.G.F.X.a4.map (rB .own)),.s .own (h.G.F.Q.J.map (bm.enc .own)),I h.G.Calls,.s .own (h.G.w.map (rI .own)),oF h,.s .own (h.K.map (aA.enc .own)),.s .own (h.M.map (aB.enc .own)),.s .own (h.O.map (aU.enc .own)),.s .own (h.T.map (aE.enc .own)),.s .own (h.a1.U.map (bO .own)),.s .own (h.a1.u.map (aJ .own)),I h.a7.b7,.s .own (h.a7.a5.map (aO.enc .own)),I h.b3,I h.b1,I h.c0,I h.b,B h.k,I h.Y.W.a3,I h.Y.W.a0,.s .own (h.Y.W.V.map (rI .own)),I h.Y.a9,I h.Y.b]
def Ld(h:ac):List C:=[.x,.x,.x,.x,.x,oF h,.s .own (h.K.map (aA.enc .own)),.s .own (h.M.map (aB.enc .own)),.s .own (h.O.map (aU.enc .own)),.s .own (h.T.map (aE.enc .own)),.s .own (h.a1.U.map (bO .own)),.s .own (h.a1.u.map (aJ .own)),I h.a7.b7,.s .own (h.a7.a5.map (aO.enc .own)),I h.b3,I h.b1,I h.c0,I h.b,B h.k,I h.Y.W.a3,I h.Y.W.a0,.s .own (h.Y.W.V.map (rI .own)),I h.Y.a9,I h.Y.b]
def Us(h:ac):fz (oF h)=.s .S (h.o.map (aC.enc .S)):=(GV _).trans (List.cons.inj (kG h.o)).1
def iH(h:ac):ed (gL h)=ac.enc .S h:=by
 have a:=ac.enc_fz h;have b:ed (gL h)=(ed (ac.enc .own h)).set 5 (fz (oF h)):=rfl;rw[b,a,Us];rfl
variable{h:ac}
def Rr{S Y:ah}{u:Nat->Value}(d:cK w S Y (ac.enc .own h) u):cK w S Y (gL h) u:=by
 obtain⟨f,b,e,g⟩:=d;refine⟨f,λj c a=>?_,e,g⟩;have i:gL h=(ac.enc .own h).set 5 (oF h):=rfl;rw[i]at a;by_cases k:j=5
 ·subst k
  have:c=oF h:=by simpa[ac.enc] using a.symm
  rw[this];exact rz (b 5 _ rfl)
 rw[List.getElem?_set_ne ω]at a;exact b j c a
def Kn(h:ac)(a:ac.sml h):zzA 62 false [.val (some 24) (ac.enc .S h)] .agg (gL h):=by
 obtain⟨b,c⟩:=i7 h a;refine⟨b,λw S d g i=>(c w S d g i).mono λe w1 j=>?_⟩;obtain⟨v,k,l,X,S1,n,o,p,q,r⟩:=j;exact⟨v,k,l,X,S1,n,o,p,q,Rr r⟩
def UR{b:Bool}{X Y:Prop}(h:b=true)(a:X):cond b X Y:=by subst h;exact a
def Jy{b:Bool}{X Y:Prop}(h:b=false)(a:Y):cond b X Y:=by subst h;exact a
def VH(h:ac):bp [oF h]=false\/(bp [oF h]=true/\h.o=[]):=by
 unfold oF;cases a:h.o with
 | nil=>exact .inr ⟨rfl,rfl⟩
 | cons y b=>exact .inl rfl
def VG(a:bp [oF h]=true):[oF h]=bF .S h.o:=by
 unfold oF at a |-;cases b:h.o with
 | nil=>rfl
 | cons y c=>rw[b]at a;simp[oE,bp,fx]at a
def zC(h:ac)(n:Nat):ac × Int × Bool:=
 if(ay h.o (n:Nat)).2.2=false then(h,-1,false)
 else if(newsK h.G (ay h.o (n:Nat)).2.1 n).2=n then({h with G:=(newsK h.G (ay h.o (n:Nat)).2.1 n).1,o:=(ay h.o (n:Nat)).1},(ay h.o (n:Nat)).2.1,true)
 else({h with G:=unmN (newsK h.G (ay h.o (n:Nat)).2.1 n).1 (ay h.o (n:Nat)).2.1 (newsK h.G (ay h.o (n:Nat)).2.1 n).2},-1,false)
def pX(h:ac)(n:Nat)(w:aX h [])(U:h.G.Calls<=90000)(hn:1<=n/\n<=63):zzB 189 false [.ptr (gL h),.val none [I (n:Nat)]] [.ptr (gL (zC h n).1),.val none [I (n:Nat)]] (.tup [none,none]) [I (zC h n).2.1,B (zC h n).2.2]:=by
 have P:gY h<=32:=w.lens.ents;have M:=w;have C:ed [oF h]=bF .S h.o:=C1 (λy=>[y]) (Us h);have N:=tW h;have t:=ye (gY h:Nat) h.o (n:Nat) ⟨ω,ω⟩ w.rng ⟨ω,ω⟩ (by have:=w.lens.free;omega);unfold VB at t;have D:=kv w (show(1:Int)<=(n:Nat) by omega);unfold zC;have c:bp [oF h]=false\/(bp [oF h]=true/\(ay h.o (n:Nat)).2.2=false):=(VH h).imp id λg=>⟨g.1,by rw[g.2];rfl⟩
 generalize ay h.o (n:Nat)=r at t D c |-;obtain⟨V,p,ok⟩:=r;simp only at t D c |-;refine fM 76 [] [(1,270,[15,16,17,18,19,20,21,22,23,24,14,25,26,27,0,1,2,3,4,5,6,7,8,9,10,11,12,13,14,1012,1013,15,1013,16])] [(0,0),(0,0)] Tryz.func189 rfl (λu q=>?_) (.inr ⟨trivial,trivial,trivial⟩);rcases c with c|⟨c,Q⟩
 ·cases ok with
   | false=>
    rw[CD rfl];rw[CC (by simp)]at t
    repeat'(first|refine gP ?_|(conv=>whnf);first|refine CE ?_|refine CN (N) ⟨⟨rfl,iH h⟩,trivial⟩ ?_|refine CN (t) ⟨⟨rfl,rfl⟩,⟨rfl,C⟩,⟨rfl,rfl⟩,trivial⟩ ?_|refine CE ?_|refine Jy c ?_)
    refine CO rfl rfl ?_;exact wC
   | true=>
    rw[CC (by simp)];rw[CD rfl]at t;obtain⟨O,L,E,u4⟩:=D rfl;change p+(n:Nat)<=(h.G.F.Q.J.length:Nat) at L;change ∀q:Nat,p<=q->(q:Int)<p+(n:Nat)->(nth h.G.F.Q.J q).e=0 at E
    have W:h.G.F.Q.J.length<=32:=P;cases V with
    | nil=>
      repeat'(first|refine gP ?_|(conv=>whnf);first|refine CE ?_|refine CN (N) ⟨⟨rfl,iH h⟩,trivial⟩ ?_|refine CN (t) ⟨⟨rfl,rfl⟩,⟨rfl,C⟩,⟨rfl,rfl⟩,trivial⟩ ?_|refine CE ?_|refine Jy c ?_)
      (conv=>whnf)
      refine CH (ι:=Nat) (λi=>[(0,.H .box (Ld h)),(1,.H .one [I ((n:Nat):Int)]),(6,.H .one ([oE (([]:List aC).map (aC.enc .own))])),(7,.H .one [I (p)]),(9,.H .box (am.enc .own (newsK h.G p i).1)),(10,.H .one [I ((i:Nat):Int)])]) (λi=>i<=n/\(newsK h.G p i).2=i) (λi=>n - i) (0) ?_ (⟨Z0 _,rfl⟩) λi w=>?_
      ·exact wC
      obtain⟨F,G⟩:=w;have s:=lv.of (p:=p) (n:=n) M.ker ω ⟨O,L⟩ E i F;have R:=s.calls;have S:=s.len;by_cases X:i<n
      ·have H:(nth (newsK h.G p i).1.F.Q.J (p+(i:Nat)).toNat).e=0:=by
        rw[s.out _ (by rw[G];omega)];exact E _ ω ω
       have l:=sW (newsK h.G p i).1 (p+(i:Nat)) s.ker ω ⟨ω,ω⟩ H;have a:newsK h.G p (i+1)=((newK (newsK h.G p i).1 (p+(i:Nat))).1,if(newK (newsK h.G p i).1 (p+(i:Nat))).2=true then i+1 else i):=by
        show(if(newsK h.G p i).2=i then _ else _)=_;rw[CD G]
       cases e:(newK (newsK h.G p i).1 (p+(i:Nat))).2 with
       | true=>
        rw[e]at l a;rw[CD rfl]at a;have J:(newK (newsK h.G p i).1 (p+(i:Nat))).1=(newsK h.G p (i+1)).1:=by rw[a]
        rw[J]at l
        repeat'(first|refine gE ?_|(conv=>whnf);first|refine CE ?_|refine CN (l) ⟨⟨rfl,am.enc_fz _⟩,⟨rfl,rfl⟩,trivial⟩ ?_)
        ((conv=>whnf);refine CG (i+1) ⟨ω,by rw[a]⟩ ω ?_;(exact wC))
       | false=>
        rw[e]at l a;rw[CC (by simp)]at a;have o:=rJ (k:=h.G) (p:=p) (i:=i+1) (by rw[a];simp only;omega) (n - (i+1));rw[show i+1+(n - (i+1))=n by omega]at o;have K:=lv.of (p:=p) (n:=n) M.ker ω ⟨O,L⟩ E (i+1) ω;rw[CC ω,o.1];have b:=K.calls;rw[a]at K b |-;have d:=K.ker;simp only at d b |-;generalize (newK (newsK h.G p i).1 (p+(i:Nat))).1=k at l d b |-
        repeat'(first|refine gE ?_|(conv=>whnf);first|refine CE ?_|refine CN (l) ⟨⟨rfl,am.enc_fz _⟩,⟨rfl,rfl⟩,trivial⟩ ?_)
        (conv=>whnf)
        refine CH (ι:=Nat) (λj=>[(0,.H .box (Ld h)),(7,.H .one [I (p)]),(9,.H .box (am.enc .own (unmN k p j))),(10,.H .one [I ((i:Nat):Int)]),(13,.H .one [I (p+(j:Nat))])]) (λj=>j<=i) (λj=>i - j) (0) ?_ (Z0 _) λj Y=>?_
        ·exact wC
        have T:=pM (unmN k p j) (p+(j:Nat)) (je d p j) (by rw[(f9 k p j).2.1];omega);by_cases Z:j<i
        ·repeat'(first|refine gE ?_|(conv=>whnf);first|refine CE ?_|refine CN (T) ⟨⟨rfl,am.enc_fz _⟩,⟨rfl,rfl⟩,trivial⟩ ?_)
         ((conv=>whnf);refine CG (j+1) ω ω ?_;(exact wC))
        obtain rfl:j=i:=ω
        repeat'(first|refine gE ?_|(conv=>whnf);first|refine CE ?_)
        refine CO rfl rfl ?_;exact wC
      obtain rfl:i=n:=ω
      rw[CD G];generalize (newsK h.G p i).1=k
      repeat'(first|refine gE ?_|(conv=>whnf);first|refine CE ?_)
      refine CO rfl rfl ?_;exact wC
    | cons y ys=>
      repeat'(first|refine gP ?_|(conv=>whnf);first|refine CE ?_|refine CN (N) ⟨⟨rfl,iH h⟩,trivial⟩ ?_|refine CN (t) ⟨⟨rfl,rfl⟩,⟨rfl,C⟩,⟨rfl,rfl⟩,trivial⟩ ?_|refine CE ?_|refine Jy c ?_)
      (conv=>whnf)
      refine CH (ι:=Nat) (λi=>[(0,.H .box (Ld h)),(1,.H .one [I ((n:Nat):Int)]),(6,.H .one ([oE ((y::ys).map (aC.enc .own))])),(7,.H .one [I (p)]),(9,.H .box (am.enc .own (newsK h.G p i).1)),(10,.H .one [I ((i:Nat):Int)])]) (λi=>i<=n/\(newsK h.G p i).2=i) (λi=>n - i) (0) ?_ (⟨Z0 _,rfl⟩) λi w=>?_
      ·exact wC
      obtain⟨F,G⟩:=w;have s:=lv.of (p:=p) (n:=n) M.ker ω ⟨O,L⟩ E i F;have R:=s.calls;have S:=s.len;by_cases X:i<n
      ·have H:(nth (newsK h.G p i).1.F.Q.J (p+(i:Nat)).toNat).e=0:=by
        rw[s.out _ (by rw[G];omega)];exact E _ ω ω
       have l:=sW (newsK h.G p i).1 (p+(i:Nat)) s.ker ω ⟨ω,ω⟩ H;have a:newsK h.G p (i+1)=((newK (newsK h.G p i).1 (p+(i:Nat))).1,if(newK (newsK h.G p i).1 (p+(i:Nat))).2=true then i+1 else i):=by
        show(if(newsK h.G p i).2=i then _ else _)=_;rw[CD G]
       cases e:(newK (newsK h.G p i).1 (p+(i:Nat))).2 with
       | true=>
        rw[e]at l a;rw[CD rfl]at a;have J:(newK (newsK h.G p i).1 (p+(i:Nat))).1=(newsK h.G p (i+1)).1:=by rw[a]
        rw[J]at l
        repeat'(first|refine gE ?_|(conv=>whnf);first|refine CE ?_|refine CN (l) ⟨⟨rfl,am.enc_fz _⟩,⟨rfl,rfl⟩,trivial⟩ ?_)
        ((conv=>whnf);refine CG (i+1) ⟨ω,by rw[a]⟩ ω ?_;(exact wC))
       | false=>
        rw[e]at l a;rw[CC (by simp)]at a;have o:=rJ (k:=h.G) (p:=p) (i:=i+1) (by rw[a];simp only;omega) (n - (i+1));rw[show i+1+(n - (i+1))=n by omega]at o;have K:=lv.of (p:=p) (n:=n) M.ker ω ⟨O,L⟩ E (i+1) ω;rw[CC ω,o.1];have b:=K.calls;rw[a]at K b |-;have d:=K.ker;simp only at d b |-;generalize (newK (newsK h.G p i).1 (p+(i:Nat))).1=k at l d b |-
        repeat'(first|refine gE ?_|(conv=>whnf);first|refine CE ?_|refine CN (l) ⟨⟨rfl,am.enc_fz _⟩,⟨rfl,rfl⟩,trivial⟩ ?_)
        (conv=>whnf)
        refine CH (ι:=Nat) (λj=>[(0,.H .box (Ld h)),(7,.H .one [I (p)]),(9,.H .box (am.enc .own (unmN k p j))),(10,.H .one [I ((i:Nat):Int)]),(13,.H .one [I (p+(j:Nat))])]) (λj=>j<=i) (λj=>i - j) (0) ?_ (Z0 _) λj Y=>?_
        ·exact wC
        have T:=pM (unmN k p j) (p+(j:Nat)) (je d p j) (by rw[(f9 k p j).2.1];omega);by_cases Z:j<i
        ·repeat'(first|refine gE ?_|(conv=>whnf);first|refine CE ?_|refine CN (T) ⟨⟨rfl,am.enc_fz _⟩,⟨rfl,rfl⟩,trivial⟩ ?_)
         ((conv=>whnf);refine CG (j+1) ω ω ?_;(exact wC))
        obtain rfl:j=i:=ω
        repeat'(first|refine gE ?_|(conv=>whnf);first|refine CE ?_)
        refine CO rfl rfl ?_;exact wC
      obtain rfl:i=n:=ω
      rw[CD G];generalize (newsK h.G p i).1=k
      repeat'(first|refine gE ?_|(conv=>whnf);first|refine CE ?_)
      refine CO rfl rfl ?_;exact wC
 subst Q;rw[CD rfl];rw[CC (by simp)]at t
 repeat'(first|refine gP ?_|(conv=>whnf);first|refine CE ?_|refine CN (N) ⟨⟨rfl,iH h⟩,trivial⟩ ?_|refine CN (t) ⟨⟨rfl,rfl⟩,⟨rfl,VG c⟩,⟨rfl,rfl⟩,trivial⟩ ?_|refine CE ?_|refine UR c ?_)
 refine CO rfl rfl ?_;exact wC
def wH(h:ac)(p c:Int)(w:h.K.length<=4096):zzB 190 false [.ptr (gL h),.val (some 3) [I p,I c,I 0]] [.ptr (gL {h with K:=jG (GT p) h.K ⟨p,c,0⟩}),.val (some 3) [I p,I c,I 0]] .one [I (kU (GT p) h.K:Nat)]:=by
 refine fM 40 [(342,[1,0,1])] [(2,18,[6,7,8,9,10,11,12,13,14,15,16,17,18,19,20,21,22,23]),(4,264,[28,29,30,31,32,33,34,35,0,1,2,3,4,5,6,7,8,1000,9,10,11])] [(0,0),(0,0)] Tryz.func190 rfl (λu q=>?_)
 repeat'(first|refine gP ?_|(conv=>whnf);first|refine CE ?_)
 (conv=>whnf)
 refine CH (ι:=Nat) (λi=>[(0,.H .box (gL h)),(3,.H .box ([I p,I c,I 0])),(5,.H .one [I ((i:Nat):Int)])]) (λi=>i<=h.K.length/\∀(j:Nat)(z:aA),j<i->h.K[j]? = some z->GT p z=false) (λi=>h.K.length - i) (0) ?_ (⟨Z0 _,λj z y=>ω⟩) λi g=>?_
 ·exact wC
 obtain⟨k,d⟩:=g;by_cases l:i<h.K.length/\(nth h.K i).R<p
 ·have b:=ax l.1
  repeat'(first|refine gE ?_|(conv=>whnf);first|with_reducible refine CF (aa b) ?_|refine CE ?_|refine CJ rfl (aa b) rfl ?_)
  ((conv=>whnf);refine CG (i+1) ⟨ω,iE b (X0 ω) d⟩ ω ?_;(exact wC))
 have a:kU (GT p) h.K=i:=wV ω d λz e=>by
  have n:=(O3.1 e).1;have:z=nth h.K i:=(bk e).symm;subst this;exact O0 ω
 have b:i<h.K.length->h.K[i]? = some (nth h.K i):=λo=>ax o
 have r:=Ja h.K i ⟨p,c,0⟩ ω ω;rw[xd a,a]
 repeat'(first|refine gE ?_|(conv=>whnf);first|with_reducible (first|refine CF (aa (b ω)) ?_|refine Bf.D (λt=>?_) (λt=>?_))|refine CE ?_|refine CJ rfl (aa (b ω)) rfl ?_|refine CK (r) (.inl rfl) ?_)
 all_goals
  refine CO rfl rfl ?_;exact wC
def KK(h:ac)(i:Nat):gL (slotT h i)=((gL h).set 14 (I (Aa h.b3))).set 6 (.s .own ((h.K.map (aA.enc .own)).set i [I (nth h.K i).R,I (nth h.K i).d,I (jB (nth h.K i).a8 (B5 h i))])):=by
 simp[gL,slotT,tF,X8,aA.enc,oF]
def Ak(h:ac)(E:List Int)(i:Nat)(a:aX h E)(b:i<h.K.length)(p:(lg h i).length=0):zzA 188 false [.ptr (ac.enc .S h),.val none [I (i:Nat)]] (.tup [none,none]) [I (-1),B false]:=by
 have g:=ax b;have c:=a.L.sok _ (au b);have d:=dY c;have j:=(bu.1 (aH.1 a.ker).2.2.1).2.2;have n:=a.lens.spans;have e:=qa a.L.sok (ps:=bB h (nth h.K i).R) d (bB h (nth h.K i).R).length;change 0<=gk h i/\gk h i<=65535 at e;have o:=gh (nth h.K i).d;have k:=qY h i ⟨ω,λ_ _=>trivial⟩ ⟨by show h.G.F.Q.J.length<=_;omega,λ_ _=>trivial⟩ a.L.sok b;rw[vQ a.L.sok b]at k;have l:=pH (nth h.K i).d (gk h i) ω;change ar _ _ _ _ _ (aJ .own (lg h i)) at l;refine fO 63 [(2,7,[17,18,19,20,21,22,23]),(7,12,[43,44,45,46,47,48,49,50,51,52,53,54]),(8,5,[57,58,59,60,61])] Tryz.func188 rfl ?_ (.inr ⟨trivial,trivial,trivial⟩)
 repeat'(first|refine gB ?_|(conv=>whnf);first|refine CE ?_|refine CF (aa g) ?_|refine CJ rfl (aa g) rfl ?_|refine CB (o) ?_|refine CB (k) ?_|refine CB (l) ?_|refine CE ?_)
 rfl
def oU(h:ac)(E:List Int)(i:Nat)(b:aX h E)(j:i<h.K.length):zzB 188 false [.ptr (gL h),.val none [I (i:Nat)]] [.ptr (gL (oT h i).1),.val none [I (i:Nat)]] (.tup [none,none]) [I (oT h i).2,B (decide (0<(lg h i).length))]:=by
 have F:=b.lens.spans;have d:=ax j;have c:=b.L.sok _ (au j);have e:=dY c;have a:=b.nums;unfold cT at a;rw[C0]at a;have y:=(bu.1 (aH.1 b.ker).2.2.1).2.2;have k:=qa b.L.sok (ps:=bB h (nth h.K i).R) e (bB h (nth h.K i).R).length;change 0<=gk h i/\gk h i<=65535 at k;have C:=gh (nth h.K i).d;have l:=qY h i ⟨ω,λ_ _=>trivial⟩ ⟨by show h.G.F.Q.J.length<=_;omega,λ_ _=>trivial⟩ b.L.sok j;rw[vQ b.L.sok j]at l;have o:=pH (nth h.K i).d (gk h i) ω;change ar _ _ _ _ _ (aJ .own (lg h i)) at o;have p:=Kr (nth h.K i).d (gk h i);change (lg h i).length<=16 at p;unfold oT;by_cases D:(lg h i).length=0
 ·rw[CD D,X0 ω]
  refine fM 63 [] [(2,7,[17,18,19,20,21,22,23]),(7,12,[43,44,45,46,47,48,49,50,51,52,53,54]),(8,5,[57,58,59,60,61])] [(0,0),(0,0)] Tryz.func188 rfl (λu q=>?_) (.inr ⟨trivial,trivial,trivial⟩)
  repeat'(first|refine gB ?_|(conv=>whnf);first|refine CE ?_|refine CF (aa d) ?_|refine CJ rfl (aa d) rfl ?_|refine CB (C) ?_|refine CN (l) ⟨⟨rfl,iH h⟩,⟨rfl,rfl⟩,trivial⟩ ?_|refine CB (o) ?_|refine CE ?_)
  refine CO rfl rfl ?_;exact wC
 rw[CC D,O0 ω];have G:=Bo (h:=h) (i:=i) ω;obtain⟨H,O,P⟩:=xB G;have J:=(jM (aK c).2.2).2.2.1;have r:=rP h.b3 (n:=((lg h i).length:Nat)) ω;have K:=vJ h.b3 ((lg h i).length:Nat) ω ω;have M:=Ao (nth h.K i).a8 (B5 h i) e ω;obtain⟨N,t⟩:=C4 H;have w:=re (nth h.K i) N c ω;unfold kQ at w;rw[<-t]at w;have g:(lg h i)[(H7 h.b3 ((lg h i).length:Nat)).toNat]? = some (B5 h i):=ax ω;unfold vX;rw[KK];refine fM 63 [] [(2,7,[17,18,19,20,21,22,23]),(7,12,[43,44,45,46,47,48,49,50,51,52,53,54]),(8,5,[57,58,59,60,61])] [(0,0),(0,0)] Tryz.func188 rfl (λu q=>?_) (.inr ⟨trivial,trivial,trivial⟩)
 repeat'(first|refine gB ?_|(conv=>whnf);first|refine CE ?_|refine CF (aa d) ?_|refine CJ rfl (aa g) rfl ?_|refine CJ rfl (aa d) rfl ?_|refine CB (C) ?_|refine CN (l) ⟨⟨rfl,iH h⟩,⟨rfl,rfl⟩,trivial⟩ ?_|refine CB (o) ?_|refine CB (K) ?_|refine CB (M) ?_|refine CB (w) ?_|refine CP r.1 (aa g) ?_|refine CE ?_|refine CR rfl rfl (aa d) rfl (Z1 rfl) rfl ?_)
 refine CO rfl ?_ ?_
 ·rfl
 exact wC
def MX(k:am)(p:Int):newsK k p 1=((newK k p).1,if(newK k p).2=true then 1 else 0):=by
 show(if(0:Nat)=0 then((newK k (p+((0:Nat):Int))).1,if(newK k (p+((0:Nat):Int))).2=true then 0+1 else 0) else(k,0))=_;rw[CD rfl,show p+((0:Nat):Int)=p by omega]
def ME(h:ac):zC h 1=if(ay h.o 1).2.2=false then(h,-1,false)
  else if(newK h.G (ay h.o 1).2.1).2=false then({h with G:=(newK h.G (ay h.o 1).2.1).1},-1,false)
  else({h with G:=(newK h.G (ay h.o 1).2.1).1,o:=(ay h.o 1).1},(ay h.o 1).2.1,true):=by
 unfold zC;rw[show((1:Nat):Int)=1 from rfl,MX];cases e:(newK h.G (ay h.o 1).2.1).2
 ·simp[unmN]
 simp
def NS(h:ac)(a:C):List C:=(gL h).set 9 a
def qP(h:ac)(a:C):Prop:=fz a=.s .S (h.T.map (aE.enc .S))
def RJ{a:C}(b:qP h a):ed (NS h a)=ac.enc .S h:=by
 have c:ed (NS h a)=(ed (gL h)).set 9 (fz a):=rfl;rw[c,iH,b];rfl
def qP.own(h:ac):qP h (.s .own (h.T.map (aE.enc .own))):=by
 have a:=C1 (λl:List C=>l[9]?) (iH h);have b:(ed (gL h))[9]? = some (fz (.s .own (h.T.map (aE.enc .own)))):=rfl;have c:(ac.enc .S h)[9]? = some (.s .S (h.T.map (aE.enc .S))):=rfl;simp only[b,c,I1]at a;exact a
def Wd(h:ac)(t c:Nat):C:=.s .own ((h.T.map (aE.enc .own)).set t [.s .own (((nth h.T t).a.map (aJ .own)).set c (aJ .S ((nth (nth h.T t).a c).take ((nth (nth h.T t).a c).length - 1))))])
def UL(h:ac)(t c:Nat):qP {h with T:=h.T.set t (rG (nth h.T t) c)} (Wd h t c):=by
 have b:fz (.s .own (h.T.map (aE.enc .own)))=.s .S (h.T.map (aE.enc .S)):=qP.own h;have e:∀a:List (List C),fz (.s .own a)=.s .S (a.map ed):=λa=>by rw[ML];congr 1;apply List.map_congr_left;intro r _;rw[cg]
 unfold qP Wd;rw[e]at b |-;simp only[C.s.injEq,true_and]at b |-;rw[X8,b,X8]
 congr 1
 have d:=Cb (rG (nth h.T t) c);rw[PN]at d;rw[<-d];simp only[ed,e,X8]
 congr 3
def Nm(h:ac){t:Nat}(a:t<h.T.length)(r:List C):gL h=((gL h).set 9 (.s .own ((h.T.map (aE.enc .own)).set t r))).set 9 (.s .own (((h.T.map (aE.enc .own)).set t r).set t (aE.enc .own (nth h.T t)))):=by
 have e:(h.T.map (aE.enc .own)).set t (aE.enc .own (nth h.T t))=h.T.map (aE.enc .own):=by
  rw[<-X8,Ed a]
 rw[List.set_set,List.set_set,e];rfl
def xw(h:ac)(t c:Nat)(o:aX h [])(E:t<h.T.length)(T:c<=3)(r:h.G.Calls<=90000):∃W,qP (smallA h t c).1 W/\zzB 65 false [.ptr (gL h),.val none [I (t:Nat)],.val none [I (c:Nat)]] [.ptr (NS (smallA h t c).1 W),.val none [I (t:Nat)],.val none [I (c:Nat)]] (.tup [none,none]) [I (smallA h t c).2,B (decide (0<=(smallA h t c).2))]:=by
 have w:=o.cach _ (au E);have hl4:=mL w;have d:=ax E;have F:=yM (nth h.T t) c w T;have hls:=o.lens.spans;have C:=o;have G:=Nm h E;unfold VX at F;by_cases N:0<(nth (nth h.T t).a c).length
 ·obtain⟨O,H⟩:=o.pop E ω N (L2 w c)
  have k:=jT.nn o H;unfold smallA;rw[CD N]at F |-;refine⟨Wd h t c,UL h t c,?_⟩;simp only;rw[O0 k];refine fM 86 [(186,[1,0]),(188,[2,0]),(189,[2,0]),(190,[2,0]),(4000062,[]),(5000077,[])] [(3,6,[31,32,33,34,35,36]),(8,10,[49,50,51,52,53,54,55,56,57,58])] [(0,0),(0,0),(0,0)] Tryz.func65 rfl (λu q=>?_) (.inr ⟨trivial,trivial,trivial⟩)
  repeat'(first|refine gP ?_|(conv=>whnf);first|with_reducible refine CF (aa d) ?_|refine CE ?_|refine CF (fD d) ?_|refine CJ rfl (aa d) rfl ?_|refine CJ rfl (fD d) rfl ?_|refine Lq.one rfl rfl (aa d) rfl (Z1 rfl) rfl rfl ?_|refine CK (F) (.inl rfl) ?_|refine CE ?_|refine CR rfl rfl (fD d) rfl (Z1 rfl) (G _) ?_|refine CR rfl rfl (aa d) rfl (Z1 rfl) rfl ?_)
  refine CO rfl rfl ?_;exact wC
 rw[CC N]at F;refine⟨_,qP.own _,?_⟩;change bg _ _ _ _ [.ptr (gL (smallA h t c).1),_,_] _ _;have e:smallA h t c=match uE h c with
  | some i=>(slotT h i,vX h i)
  | none=>if(ay h.o 1).2.2=false then(h,-1)
   else if(newK h.G (ay h.o 1).2.1).2=false then({h with G:=(newK h.G (ay h.o 1).2.1).1},-1)
   else oT (pU h c) (pm h):=by unfold smallA;exact CC N
 refine fM 86 [(186,[1,0]),(188,[2,0]),(189,[2,0]),(190,[2,0]),(4000062,[]),(5000077,[])] [(3,6,[31,32,33,34,35,36]),(8,10,[49,50,51,52,53,54,55,56,57,58])] [(0,0),(0,0),(0,0)] Tryz.func65 rfl (λu q=>?_) (.inr ⟨trivial,trivial,trivial⟩)
 repeat'(first|refine gP ?_|(conv=>whnf);first|with_reducible refine CF (aa d) ?_|refine CE ?_|refine CF (fD d) ?_|refine CJ rfl (aa d) rfl ?_|refine CJ rfl (fD d) rfl ?_|refine Lq.one rfl rfl (aa d) rfl (Z1 rfl) rfl rfl ?_|refine CK (F) (.inl rfl) ?_|refine CE ?_|refine CR rfl rfl (fD d) rfl (Z1 rfl) (G _) ?_)
 (conv=>whnf)
 refine CH (ι:=Nat) (λi=>[(0,.H .box (gL h)),(2,.H .one [I ((c:Nat):Int)]),(42,.c1 0 6 [] none),(43,.H .one [I (h.K.length)]),(44,.H .one [I ((i:Nat):Int)])]) (λi=>i<=h.K.length/\∀j,j<i->tJ h c j=false) (λi=>h.K.length - i) (0) ?_ (⟨Z0 _,λj hj=>ω⟩) λi o=>?_
 ·exact wC
 obtain⟨hi1,J⟩:=o;by_cases K:i<h.K.length
 ·have n:=ax K
  by_cases X:(nth h.K i).d=c
  ·have L:=B4 h (nth h.K i).R
   cases P:fe h (nth h.K i).R with
   | true=>
    rw[P]at L
    repeat'(first|refine gB ?_|(conv=>whnf);first|with_reducible refine CF (aa n) ?_|refine CE ?_|refine CJ rfl (aa n) rfl ?_|refine CN (L) ⟨⟨rfl,iH h⟩,⟨rfl,rfl⟩,trivial⟩ ?_|refine CE ?_)
    ((conv=>whnf);refine CG (i+1) ⟨ω,vC (by unfold tJ;rw[P];simp) J⟩ ω ?_;(exact wC))
   | false=>
    rw[P]at L;by_cases M:(lg h i).length=0
    ·have y:=Ak h [] i C K M
     repeat'(first|refine gB ?_|(conv=>whnf);first|with_reducible refine CF (aa n) ?_|refine CE ?_|refine CJ rfl (aa n) rfl ?_|refine CN (L) ⟨⟨rfl,iH h⟩,⟨rfl,rfl⟩,trivial⟩ ?_|refine Ch.pl ?_|refine CN (y) ⟨iH h,⟨rfl,rfl⟩,trivial⟩ ?_|refine CE ?_)
     ((conv=>whnf);refine CG (i+1) ⟨ω,vC (by unfold tJ;rw[X0 (by omega:¬0<(lg h i).length)];simp) J⟩ ω ?_;(exact wC))
    have y:=oU h [] i C K;unfold oT at y;rw[CC M,O0 (by omega:0<(lg h i).length)]at y;have U:uE h c=some i:=H4 K (by unfold tJ;rw[O0 X,P,O0 ω];rfl) J;rw[U]at e;simp only at e;obtain⟨O,H⟩:=C.slotT K (by omega:0<(lg h i).length);have k:=jT.nn O H;rw[e];generalize slotT h i=g at y |-;generalize vX h i=a at y k |-;rw[O0 k]
    repeat'(first|refine gB ?_|(conv=>whnf);first|with_reducible refine CF (aa n) ?_|refine CE ?_|refine CJ rfl (aa n) rfl ?_|refine CN (L) ⟨⟨rfl,iH h⟩,⟨rfl,rfl⟩,trivial⟩ ?_|refine Ch.lt ?_|refine CK (y) (.inl rfl) ?_|refine CE ?_)
    refine CO rfl rfl ?_;exact wC
  repeat'(first|refine gB ?_|(conv=>whnf);first|with_reducible refine CF (aa n) ?_|refine CE ?_|refine CJ rfl (aa n) rfl ?_|refine CE ?_)
  ((conv=>whnf);refine CG (i+1) ⟨ω,vC (by unfold tJ;rw[X0 X];rfl) J⟩ ω ?_;(exact wC))
 obtain rfl:i=h.K.length:=ω
 have U:uE h c=none:=GM J;rw[U]at e;simp only at e;have l:=pX h 1 C r ⟨ω,ω⟩;rw[ME]at l;rw[e];by_cases Q:(ay h.o 1).2.2=false
 ·rw[CD Q]at l |-
  repeat'(first|refine gE ?_|(conv=>whnf);first|refine CE ?_|refine CK (l) (.inl rfl) ?_)
  refine CO rfl rfl ?_;exact wC
 rw[CC Q]at l |-;by_cases R:(newK h.G (ay h.o 1).2.1).2=false
 ·rw[CD R]at l |-
  repeat'(first|refine gE ?_|(conv=>whnf);first|refine CE ?_|refine CK (l) (.inl rfl) ?_)
  refine CO rfl rfl ?_;exact wC
 rw[CC R]at l |-;obtain⟨Y,Z⟩:=Rv C T r Q R;have D:=wH {h with G:=(newK h.G (ay h.o 1).2.1).1,o:=(ay h.o 1).1} (ay h.o 1).2.1 (c:Nat) (by show h.K.length<=4096;omega);have S:=oU (pU h c) [] (pm h) Y Z;have V:=qM C E T r;rw[e,CC Q,CC R]at V;have k:decide (0<(lg (pU h c) (pm h)).length)=decide (0<=(oT (pU h c) (pm h)).2):=by
  unfold oT;by_cases M:(lg (pU h c) (pm h)).length=0
  ·rw[CD M,X0 ω];rfl
  rw[CC M,O0 ω];obtain⟨O,H⟩:=Y.slotT Z ω;exact(O0 (jT.nn O H)).symm
 rw[k]at S;change bg _ _ _ _ [.ptr (gL (pU h c)),_] _ [I ((pm h:Nat):Int)]at D;generalize (ay h.o 1).2.1=p at l D;generalize pU h c=g at D S |-;generalize pm h=b at D S |-;generalize ({h with G:=(newK h.G p).1,o:=(ay h.o 1).1} : ac)=h1 at l D
 repeat'(first|refine gE ?_|(conv=>whnf);first|refine CE ?_|refine CK (l) (.inl rfl) ?_|refine CK (D) (.inl rfl) ?_|refine CK (S) (.inl rfl) ?_)
 refine CO rfl rfl ?_;exact wC
def yU(h:ac)(size:Int)(e:aX h [])(l:9<=size/\size<=1000)(n:h.G.Calls<=90000):zzB 66 false [.ptr (gL h),.val none [I size]] [.ptr (gL (LN h size).1),.val none [I size]] (.tup [none,none]) [I (LN h size).2,B (decide (0<=(LN h size).2))]:=by
 have E:=e.lens.larges;have R:=e;have o:fU size=((iy size:Nat):Int):=by unfold fU iy;split<;>omega
 have F:1<=iy size/\iy size<=63:=by unfold iy;omega
 have g:=mQ size;rw[o]at g;have a:=pX h (iy size) e n F;have c:=kv e (show(1:Int)<=(iy size:Nat) by omega);unfold zC at a;unfold LN dZ;generalize iy size=N at *;generalize ay h.o (N:Nat)=r at a c |-;obtain⟨G,p,ok⟩:=r;simp only at a c |-;refine fM 56 [(189,[2,0]),(192,[1,0,1])] [(7,268,[39,40,41,42,43,44,45,46,47,48,49,50,0,1,2,3,4,5,6,7,8,9,10,11,12,1000,13,14,15])] [(0,0),(0,0)] Tryz.func66 rfl (λu q=>?_) (.inr ⟨trivial,trivial,trivial⟩);cases ok with
 | false=>
  rw[CD rfl]at a |-
  repeat'(first|refine gP ?_|(conv=>whnf);first|refine CE ?_|refine CB (g) ?_|refine CK (a) (.inl rfl) ?_)
  refine CO rfl rfl ?_;exact wC
 | true=>
  rw[CC (by simp)]at a |-;obtain⟨S,H,-,-⟩:=c rfl;have J:h.G.F.Q.J.length<=32:=e.lens.ents;have t:p+(N:Nat)<=(h.G.F.Q.J.length:Nat):=H;by_cases w:(newsK h.G p N).2=N
  ·rw[CD w]at a |-
   rw[O0 (show(0:Int)<=16*p by omega)];generalize (newsK h.G p N).1=k at a |-
   repeat'(first|refine gP ?_|(conv=>whnf);first|refine CE ?_|refine CB (g) ?_|refine CK (a) (.inl rfl) ?_)
   (conv=>whnf)
   refine CH (ι:=Nat) (λm=>[(0,.H .box (gL {h with G:=k,o:=G})),(1,.H .one [I (size)]),(6,.H .one [I (p)]),(8,.H .one [I ((m:Nat):Int)])]) (λm=>m<=h.M.length/\∀(j:Nat)(z:aB),j<m->h.M[j]? = some z->Uz p z=false) (λm=>h.M.length - m) (0) ?_ (⟨Z0 _,λj z T=>ω⟩) λm K=>?_
   ·exact wC
   obtain⟨L,C⟩:=K;by_cases M:m<h.M.length/\(nth h.M m).R<p
   ·have d:=ax M.1
    repeat'(first|refine gP ?_|(conv=>whnf);first|refine CE ?_|refine Bf.D (λb=>?_) (λb=>absurd b (by first|omega|(simp only at *;omega)))|refine CF (aa d) ?_|refine CJ rfl (aa d) rfl ?_)
    ((conv=>whnf);refine CG (m+1) ⟨ω,iE d (X0 ω) C⟩ ω ?_;(exact wC))
   have i:kU (Uz p) h.M=m:=wV ω C λz l=>by
    have O:=(O3.1 l).1;have:z=nth h.M m:=(bk l).symm;subst this;exact O0 ω
   have d:m<h.M.length->h.M[m]? = some (nth h.M m):=λP=>ax P
   have Q:=Em h.M m ⟨p,(N:Nat),size⟩ ω ω;rw[xd i]
   repeat'(first|refine gP ?_|(conv=>whnf);first|refine CE ?_|refine Bf.D (λb=>?_) (λb=>absurd b (by first|omega|(simp only at *;omega)))|refine Bf.D (λb=>absurd b (by first|omega|(simp only at *;omega))) (λb=>?_)|refine Bf.D (λb=>?_) (λb=>?_)|refine CF (aa (d (by first|omega|(simp only at *;omega)))) ?_|refine CJ rfl (aa (d (by first|omega|(simp only at *;omega)))) rfl ?_|refine CB (g) ?_|refine CK (Q) (.inl rfl) ?_|refine CE ?_)
   all_goals
    refine CO rfl ?_ ?_
    ·exact C1 (λy=>[I y,B true]) (show p*16=16*p by omega)
    exact wC
  rw[CC w]at a |-
  repeat'(first|refine gP ?_|(conv=>whnf);first|refine CE ?_|refine CB (g) ?_|refine CK (a) (.inl rfl) ?_)
  refine CO rfl rfl ?_;exact wC
def HQ(h:ac)(t size:Int)(hs:ac.sml h)(l:aX h [])(P:kC h=true):∃E,qP (allocH h t size).1 E/\zzA 17 true [.val (some 24) (ac.enc .S h),.val none [I t],.val none [I size]] (.tup [some 24,none,none]) (NS (allocH h t size).1 E++[I (allocH h t size).2.1,I (allocH h t size).2.2]):=by
 have hl:=l.lens;have hlc:=hl.caches;have Q:=hl.objs;have r:=l.nums;unfold cT at r;rw[C0]at r;have R:=uF l.objSz h.O.length (O4 _);change 0<=vz h/\vz h<=_ at R;have p:=Kn h hs;have o:=cr h hs;rw[P]at o;have q:=aG t 0 ((h.T.length:Int) - 1);have u:=aG size 1 1000;have F:=zL h l.objSz ω;have G:=lG size;unfold allocH;by_cases h1:1000000<=h.b
 ·rw[CD (.inl h1)]
  refine⟨_,qP.own _,?_⟩;change ar _ _ _ _ _ (gL _++_);refine fP 108 [(65,[2,0,0]),(66,[2,0]),(67,[1,0,1])] [(8,6,[47,48,49,50,51,52])] Tryz.func17 rfl ?_ (.inl rfl)
  repeat'(first|refine gB ?_|(conv=>whnf);first|refine CB (p) ?_|refine CB (o) ?_)
  rfl
 by_cases h2:90000<h.G.Calls
 ·rw[CD (.inr h2)]
  refine⟨_,qP.own _,?_⟩;change ar _ _ _ _ _ (gL _++_);refine fP 108 [(65,[2,0,0]),(66,[2,0]),(67,[1,0,1])] [(8,6,[47,48,49,50,51,52])] Tryz.func17 rfl ?_ (.inl rfl)
  repeat'(first|refine gB ?_|(conv=>whnf);first|with_reducible refine Bf.D (λb=>?_) (λb=>?_)|refine CB (p) ?_|refine CB (o) ?_)
  rfl
 rw[CC ω];by_cases B:¬(0<=t/\t<=h.T.length - 1)
 ·rw[CD B]
  rw[X0 B]at q;refine⟨_,qP.own _,?_⟩;change ar _ _ _ _ _ (gL _++_);refine fP 108 [(65,[2,0,0]),(66,[2,0]),(67,[1,0,1])] [(8,6,[47,48,49,50,51,52])] Tryz.func17 rfl ?_ (.inl rfl)
  repeat'(first|refine gB ?_|(conv=>whnf);first|with_reducible refine Bf.D (λb=>?_) (λb=>?_)|refine CB (p) ?_|refine CB (o) ?_|refine CB (q) ?_)
  rfl
 rw[CC B];replace B:=Decidable.not_not.1 B;rw[O0 B]at q;by_cases y:¬(1<=size/\size<=1000)
 ·rw[CD y]
  rw[X0 y]at u;refine⟨_,qP.own _,?_⟩;change ar _ _ _ _ _ (gL _++_);refine fP 108 [(65,[2,0,0]),(66,[2,0]),(67,[1,0,1])] [(8,6,[47,48,49,50,51,52])] Tryz.func17 rfl ?_ (.inl rfl)
  repeat'(first|refine gB ?_|(conv=>whnf);first|with_reducible refine Bf.D (λb=>?_) (λb=>?_)|refine CB (p) ?_|refine CB (o) ?_|refine CB (q) ?_|refine CB (u) ?_)
  rfl
 rw[CC y];replace y:=Decidable.not_not.1 y;rw[O0 y]at u;by_cases h5:h.c0<vz h+size
 ·rw[CD h5]
  refine⟨_,qP.own _,?_⟩;change ar _ _ _ _ _ (gL _++_);refine fP 108 [(65,[2,0,0]),(66,[2,0]),(67,[1,0,1])] [(8,6,[47,48,49,50,51,52])] Tryz.func17 rfl ?_ (.inl rfl)
  repeat'(first|refine gB ?_|(conv=>whnf);first|with_reducible refine Bf.D (λb=>?_) (λb=>?_)|refine CB (p) ?_|refine CB (o) ?_|refine CB (q) ?_|refine CB (u) ?_|refine CB (F) ?_|refine CE ?_)
  rfl
 rw[CC h5];by_cases H:0<=aP size
 ·rw[CD H]
  have hc3:aP size<=3:=by unfold aP;repeat' split<;>omega
  obtain⟨T,rfl⟩:=C4 B.1;obtain⟨K,hK⟩:=C4 H;obtain⟨E,C,d⟩:=xw h T K l ω ω ω;have s:=qM (t:=T) (c:=K) l ω ω ω;rw[hK]at G |-;simp only[Z3];generalize smallA h T K=w at d s C |-;obtain⟨g,a⟩:=w;have e:g.b=h.b:=s.nx;simp only at d |-;by_cases J:a<0
  ·rw[CD J]
   rw[X0 ω]at d;refine⟨E,C,?_⟩;refine fP 108 [(65,[2,0,0]),(66,[2,0]),(67,[1,0,1])] [(8,6,[47,48,49,50,51,52])] Tryz.func17 rfl ?_ (.inl rfl)
   repeat'(first|refine gB ?_|(conv=>whnf);first|with_reducible refine Bf.D (λb=>?_) (λb=>?_)|refine CB (p) ?_|refine CB (o) ?_|refine CB (q) ?_|refine CB (u) ?_|refine CB (F) ?_|refine CE ?_|refine CB (G) ?_|refine CK (d) (.inl rfl) ?_)
   rfl
  rw[CC J];rw[O0 ω]at d;obtain⟨k1,k2⟩:=s.yes (show(0:Int)<=a by omega);have S:g.O.length<=512:=k1.lens.objs;have U:1<=g.b/\g.b<=1000000:=ω
  refine⟨E,C,?_⟩;refine fP 108 [(65,[2,0,0]),(66,[2,0]),(67,[1,0,1])] [(8,6,[47,48,49,50,51,52])] Tryz.func17 rfl ?_ (.inl rfl)
  repeat'(first|refine gB ?_|(conv=>whnf);first|with_reducible refine Bf.D (λb=>?_) (λb=>?_)|refine CB (p) ?_|refine CB (o) ?_|refine CB (q) ?_|refine CB (u) ?_|refine CB (F) ?_|refine CE ?_|refine CB (G) ?_|refine CK (d) (.inl rfl) ?_)
  (conv=>whnf)
  refine CH (ι:=Nat) (λi=>[(1,.H .one [I ((T:Nat):Int)]),(2,.H .one [I (size)]),(3,.H .box (ac.enc .S h)),(6,.H .box (tZ)),(9,.H .box (NS g E)),(10,.H .one [I (a)]),(13,.H .one [I ((i:Nat):Int)])]) (λi=>i<=g.O.length/\∀(j:Nat)(z:aU),j<i->g.O[j]? = some z->RE a z=false) (λi=>g.O.length - i) (0) ?_ (⟨Z0 _,λj z hj=>ω⟩) λi l=>?_
  ·exact wC
  obtain⟨V,L⟩:=l;by_cases W:i<g.O.length/\(nth g.O i).Addr<a
  ·have k:=ax W.1
   repeat'(first|refine gE ?_|(conv=>whnf);first|with_reducible refine CF (aa k) ?_|refine CJ rfl (aa k) rfl ?_)
   ((conv=>whnf);refine CG (i+1) ⟨ω,iE k (X0 ω) L⟩ ω ?_;(exact wC))
  have n:kU (RE a) g.O=i:=wV ω L λz M=>by
   have X:=(O3.1 M).1;have:z=nth g.O i:=(bk M).symm;subst this;exact O0 ω
  have k:i<g.O.length->g.O[i]? = some (nth g.O i):=λY=>ax Y
  have Z:=y7 g.O i ⟨h.b,a,size,(T:Nat)⟩ ω ω;rw[show addO g a size (T:Nat) = {g with O:=g.O.take i++⟨g.b,a,size,(T:Nat)⟩::g.O.drop i,b:=g.b+1} by unfold addO;rw[xd n],e]
  repeat'(first|refine gE ?_|(conv=>whnf);first|with_reducible (first|refine CF (aa (k ω)) ?_|refine Bf.D (λb=>?_) (λb=>?_))|refine CJ rfl (aa (k ω)) rfl ?_|refine CK (Z) (.inl rfl) ?_|refine CE ?_)
  all_goals
   rw[e];rfl
 rw[CC H];have N:9<=size:=by unfold aP at H;repeat' split at H<;>omega
 have d:=yU h size l ⟨N,y.2⟩ ω;rw[N8 t l ⟨N,y.2⟩];have hg:(LN h size).1.b=h.b/\(LN h size).1.O=h.O:=by
  unfold LN;split
  ·exact⟨rfl,rfl⟩
  split<;>exact⟨rfl,rfl⟩
 generalize LN h size=w at d hg |-;obtain⟨g,a⟩:=w;obtain⟨e,O⟩:=hg;simp only at d e O |-;have S:g.O.length<=512:=by rw[O];exact Q
 have U:1<=g.b/\g.b<=1000000:=ω
 by_cases J:a<0
 ·rw[CD J]
  rw[X0 ω]at d;refine⟨_,qP.own _,?_⟩;change ar _ _ _ _ _ (gL _++_);refine fP 108 [(65,[2,0,0]),(66,[2,0]),(67,[1,0,1])] [(8,6,[47,48,49,50,51,52])] Tryz.func17 rfl ?_ (.inl rfl)
  repeat'(first|refine gB ?_|(conv=>whnf);first|with_reducible refine Bf.D (λb=>?_) (λb=>?_)|refine CB (p) ?_|refine CB (o) ?_|refine CB (q) ?_|refine CB (u) ?_|refine CB (F) ?_|refine CE ?_|refine CB (G) ?_|refine CK (d) (.inl rfl) ?_)
  rfl
 rw[CC J];rw[O0 ω]at d;refine⟨_,qP.own _,?_⟩;change ar _ _ _ _ _ (gL _++_);refine fP 108 [(65,[2,0,0]),(66,[2,0]),(67,[1,0,1])] [(8,6,[47,48,49,50,51,52])] Tryz.func17 rfl ?_ (.inl rfl)
 repeat'(first|refine gB ?_|(conv=>whnf);first|with_reducible refine Bf.D (λb=>?_) (λb=>?_)|refine CB (p) ?_|refine CB (o) ?_|refine CB (q) ?_|refine CB (u) ?_|refine CB (F) ?_|refine CE ?_|refine CB (G) ?_|refine CK (d) (.inl rfl) ?_)
 (conv=>whnf)
 refine CH (ι:=Nat) (λi=>[(1,.H .one [I (t)]),(2,.H .one [I (size)]),(3,.H .box (ac.enc .S h)),(6,.H .box (tZ)),(9,.H .box (gL g)),(10,.H .one [I (a)]),(13,.H .one [I ((i:Nat):Int)])]) (λi=>i<=g.O.length/\∀(j:Nat)(z:aU),j<i->g.O[j]? = some z->RE a z=false) (λi=>g.O.length - i) (0) ?_ (⟨Z0 _,λj z hj=>ω⟩) λi l=>?_
 ·exact wC
 obtain⟨V,L⟩:=l;by_cases W:i<g.O.length/\(nth g.O i).Addr<a
 ·have k:=ax W.1
  repeat'(first|refine gE ?_|(conv=>whnf);first|with_reducible refine CF (aa k) ?_|refine CJ rfl (aa k) rfl ?_)
  ((conv=>whnf);refine CG (i+1) ⟨ω,iE k (X0 ω) L⟩ ω ?_;(exact wC))
 have n:kU (RE a) g.O=i:=wV ω L λz M=>by
  have X:=(O3.1 M).1;have:z=nth g.O i:=(bk M).symm;subst this;exact O0 ω
 have k:i<g.O.length->g.O[i]? = some (nth g.O i):=λY=>ax Y
 have Z:=y7 g.O i ⟨h.b,a,size,t⟩ ω ω;rw[show addO g a size t = {g with O:=g.O.take i++⟨g.b,a,size,t⟩::g.O.drop i,b:=g.b+1} by unfold addO;rw[xd n],e]
 repeat'(first|refine gE ?_|(conv=>whnf);first|with_reducible (first|refine CF (aa (k ω)) ?_|refine Bf.D (λb=>?_) (λb=>?_))|refine CJ rfl (aa (k ω)) rfl ?_|refine CK (Z) (.inl rfl) ?_|refine CE ?_)
 all_goals
  rw[e];rfl
def cl(k:am)(f c:Nat):Int:=nth (nth k.F.X.V f) c
structure At(k:am)(a:Int)(f c:Nat):Prop where
 m:(af k.F.Q (a / 16)).e≠0
 f:(af k.F.Q (a / 16)).j=f
 c:a % 16=c
variable{a:Int}{k:am}
def At.cell(h:At k a f c):ew k a=cl k f c:=by
 unfold ew cl;rw[h.f,h.c,Z3,Z3]
def At.mk'(c:aF k=true)(b:(af k.F.Q (a / 16)).e≠0):At k a (dG k a) (a % 16).toNat:=by
 obtain⟨-,-,-,d,-⟩:=bR c b;exact⟨b,by unfold dG;omega,ω⟩
def At.uniq{d:Nat}(h:At k a f c)(h':At k a b d):f=b/\c=d:=by
 have e:=h.f;have g:=h'.f;have i:=h.c;have j:=h'.c;omega
def Pr(h:ac)(a:Int)(f c:Nat):Prop:=
 (∃s∈h.K,eH s a/\(af (tbl h) s.R).j=f/\(c:Int) / csz s.d=cM s a/\c<16)\/
 ∃l∈h.M,a=16*l.R/\∃b:Int,16*l.R<=b/\b<16*(l.R+l.a2)/\At h.G b f c
variable{E:List Int}
def aX.pe(a:aX h E){s:aA}(b:s∈h.K):af (tbl h) s.R=nth (tbl h).J s.R.toNat:=by
 obtain⟨c,d,-⟩:=a.mapped b;unfold af;rw[CD ⟨c,d⟩]
def sM{l:aB}(a:bK l=true){b:Int}(h1:16*l.R<=b)(c:b<16*(l.R+l.a2)):∃k:Nat,k<l.a2.toNat/\b / 16=l.R+(k:Nat):=by
 have:=aR a;exact⟨(b / 16 - l.R).toNat,ω,ω⟩
def mH(e:aX h E){l:aB}(i:l∈h.M){b:Int}(h1:16*l.R<=b)(o:b<16*(l.R+l.a2))(j:At h.G b f c){q:Int}(n:(af (tbl h) q).e≠0)(g:(af (tbl h) q).j=f):q=b / 16:=by
 obtain⟨k,p,u⟩:=sM (e.L.lok l i) h1 o;obtain⟨w,y,r,-⟩:=bR e.ker j.m;obtain⟨A,B,t,-⟩:=bR e.ker n;have d:=j.f;rw[r]at d;have a:=n;change (af h.G.F.Q q).e≠0 at a;change (af h.G.F.Q q).j=f at g;rw[t]at a g;have:=e.pg.one l i (b / 16).toNat (dB.2 ⟨k,p,ω⟩) q.toNat (by show q.toNat<h.G.F.Q.J.length;omega) a (by show _=(nth h.G.F.Q.J _).j;rw[d];exact g);omega
def wX(d:aX h E){b:Int}(T:Pr h a f c)(U:Pr h b f c):a=b:=by
 have G:∀s∈h.K,(af (tbl h) s.R).j=f->∀l∈h.M,∀x:Int,16*l.R<=x->x<16*(l.R+l.a2)->At h.G x f c->False:=λs g V l o x H J W=>by
  obtain⟨K,t,q⟩:=d.mapped g;obtain⟨k,w,X⟩:=sM (d.L.lok l o) H J;have:=mH d o H J W (by rw[d.pe g];exact q) V;exact d.L.dis s g l o k w ω
 rcases T with⟨s,g,M,N,O,s4⟩|⟨l,o,Y,x,A,B,P⟩<;>rcases U with⟨u,r,Q,R,S,u4⟩|⟨m,p,K,y,t,q,C⟩
 ·by_cases e:s.R=u.R
  ·obtain⟨i,D,rfl⟩:=aN g
   obtain⟨j,F,rfl⟩:=aN r;have:=cU (f:=(·.R)) d.L.nd D F e;subst this;exact yH (d.L.sok _ g) M.2.2.1 Q.2.2.1 (O.symm.trans S)
  exfalso;have p:=d.pg.mesh s g u r e (by rw[<-d.pe g,<-d.pe r,N,R]);unfold meshable at p;simp only[I0,C0]at p;obtain⟨⟨o1,o2⟩,Z,-,e3⟩:=p;have b1:=(eQ _ _).1 M.2.2.2;have b2:=(eQ _ _).1 Q.2.2.2;have hn:(a - 16*s.R) / csz s.d=(b - 16*u.R) / csz u.d:=by
   have z1:cM s a=cM u b:=by rw[<-O,<-S,Z]
   exact z1
  have:=C1 (λn=>Nat.testBit n ((a - 16*s.R) / csz s.d).toNat) e3;simp only[Nat.testBit_and,Nat.zero_testBit]at this;rw[b1.2.2.2,hn,b2.2.2.2]at this;cases this
 ·exact(G s g N m p y t q C).elim
 ·exact(G u r R l o x A B P).elim
 have hq:=mH d o A B P C.m C.f;obtain⟨i,D,rfl⟩:=aN o;obtain⟨j,F,rfl⟩:=aN p;obtain⟨k,w,X⟩:=sM (d.L.lok _ o) A B;obtain⟨k',k3,k4⟩:=sM (d.L.lok _ p) t q;have:=d.L.one i j D F k k' w k3 ω;subst this;rw[Y,K]
def qW(h:ac)(o:aU)(f c:Nat):Prop:=∃j:Int,0<=j/\j<o.q/\At h.G (o.Addr+j) f c
variable{o:aU}
def kq(i:aX h E)(B:o∈h.O)(C:qW h o f c):Pr h o.Addr f c:=by
 obtain⟨k,J,K,a⟩:=C;rcases i.oow o B with⟨s,r,t,D⟩|⟨l,u,F,M⟩
 ·have b:=i.L.sok s r
  have j:=aK b;have d:=bZ j.2.2;have p:=t;obtain⟨N,O,w,-⟩:=t;have g:o.q<=csz s.d:=by
   have P:=jP (n:=o.q) ω;rw[D];have:o.q=1\/o.q=2\/o.q=3\/o.q=4\/o.q=5\/o.q=6\/o.q=7\/o.q=8:=ω
   rcases this with e|e|e|e|e|e|e|e<;>rw[e]<;>decide
  have G:(o.Addr+k) / 16=s.R:=by rcases d with e|e|e|e<;>rw[e]at w g<;>omega
  have y:=a.f;have H:=a.c;rw[G]at y;refine .inl ⟨s,r,p,y,?_,ω⟩;unfold cM;rcases d with e|e|e|e<;>rw[e]at w g |-<;>omega
 have q:=i.L.lok l u;have A:=q;unfold bK at A;rw[C0]at A;exact .inr ⟨l,u,F,o.Addr+k,ω,ω,a⟩
def LG(a:aX h E){u:aU}(b:o∈h.O)(d:u∈h.O)(h1:qW h o f c)(g:qW h u f c):o=u:=by
 have e:=wX a (kq a b h1) (kq a d g);obtain⟨i,k,rfl⟩:=aN b;obtain⟨j,l,rfl⟩:=aN d;rw[cU (f:=(·.Addr)) (d9 a.osr) k l e]
def JX(h:ac)(f c:Nat):Prop:=h.k=true/\(af (tbl h) h.Y.W.a3).j=f/\(c:Int)∈h.Y.W.V.take h.Y.b.toNat
structure CI(h:ac):Prop where
 z:∀f c:Nat,c<16->cl h.G f c≠0->(∃o∈h.O,qW h o f c)\/JX h f c
 jv:h.k=true->∀c:Nat,(c:Int)∈h.Y.W.V.take h.Y.b.toNat->cl h.G (bN h.G h.Y.W.a3) c=cl h.G (bN h.G h.Y.W.a0) c
 jd:h.k=true->∀s∈h.K,s.R=h.Y.W.a3->∀c:Nat,c<16->(c:Int)∈h.Y.W.V->aT s.a8 ((c:Int) / csz s.d)=false
 jc:h.k=true->∀s∈h.K,s.R=h.Y.W.a0->∀c:Nat,c<16->aT s.a8 ((c:Int) / csz s.d)=true->(c:Int)∈h.Y.W.V
 jn:h.k=true->(h.Y.a9=0->h.Y.b=0)/\(h.Y.a9=2->h.Y.b=h.Y.W.V.length)
 m1:∀q:Nat,(nth (tbl h).J q).e=1->h.k=true/\(q:Int)=h.Y.W.a0/\h.Y.a9≠0
 m2:h.k=true->h.Y.a9≠0->(af (tbl h) h.Y.W.a0).e=1
variable{h':ac}
theorem CI.keep(j:CI h)(g:h'.Y=h.Y)(k:h'.k=h.k)(r:∀q:Nat,(nth (tbl h').J q).e=1->(nth (tbl h).J q).e=1)(l:h.k=true->af (tbl h') h.Y.W.a3=af (tbl h) h.Y.W.a3/\af (tbl h') h.Y.W.a0=af (tbl h) h.Y.W.a0)(t:∀f c:Nat,c<16->cl h'.G f c≠0->cl h.G f c=cl h'.G f c\/∃o∈h'.O,qW h' o f c)(n:∀o∈h.O,∀f c:Nat,c<16->qW h o f c->cl h'.G f c≠0->∃F∈h'.O,qW h' F f c)(u:h.k=true->∀c:Nat,(c:Int)∈h.Y.W.V.take h.Y.b.toNat->cl h'.G (bN h.G h.Y.W.a3) c=cl h.G (bN h.G h.Y.W.a3) c/\cl h'.G (bN h.G h.Y.W.a0) c=cl h.G (bN h.G h.Y.W.a0) c)(p:h.k=true->∀d∈h'.K,d.R=h.Y.W.a3\/d.R=h.Y.W.a0->∃s∈h.K,s.R=d.R/\s.d=d.d/\∀i,aT d.a8 i=true->aT s.a8 i=true):CI h' where
 z f c b w:=by
  rcases t f c b w with e|e
  ·rcases j.z f c b (by rw[e];exact w) with⟨o,G,y⟩|⟨E,H,J⟩
   ·exact .inl (n o G f c b y w)
   exact .inr ⟨by rw[k];exact E,by rw[g,(l E).1];exact H,by rw[g];exact J⟩
  exact .inl e
 jv a c h2:=by
  rw[k]at a;rw[g]at h2 |-;obtain⟨K,L⟩:=u a c h2;obtain⟨M,N⟩:=l a;have O:bN h'.G h.Y.W.a3=bN h.G h.Y.W.a3:=C1 (λe:bm=>e.j.toNat) M;have P:bN h'.G h.Y.W.a0=bN h.G h.Y.W.a0:=C1 (λe:bm=>e.j.toNat) N;rw[O,P,K,L];exact j.jv a c h2
 jd a d hs' hp c b hcm:=by
  rw[k]at a;rw[g]at hp hcm;obtain⟨s,A,B,C,D⟩:=p a d hs' (.inl hp);have:=j.jd a s A (B.trans hp) c b hcm;rw[<-C];rw[<-X7]at this |-;exact λe=>this (D _ e)
 jc a d hs' hp c b hb:=by
  rw[k]at a;rw[g]at hp |-;obtain⟨s,A,B,C,D⟩:=p a d hs' (.inr hp);exact j.jc a s A (B.trans hp) c b (by rw[C];exact D _ hb)
 jn a:=by rw[k]at a;rw[g];exact j.jn a
 m1 q Q:=by rw[k,g];exact j.m1 q (r q Q)
 m2 a h2:=by
  rw[k]at a;rw[g]at h2 |-;rw[(l a).2];exact j.m2 a h2
def Kp(h h':ac):Prop:=∀o∈h'.O,o∈h.O/\∀j:Int,0<=j->j<o.q->ew h'.G (o.Addr+j)=ew h.G (o.Addr+j)
def Kp.refl(h:ac):Kp h h:=λ_ a=>⟨a,λ_ _ _=>rfl⟩
def CX:type_of% @Kp.refl:=@Kp.refl
def Kp.trans{h1 c:ac}(a:Kp h h1)(b:Kp h1 c):Kp h c:=λo f=>by
 obtain⟨g,i⟩:=b o f;obtain⟨k,l⟩:=a o g;exact⟨k,λj d e=>(i j d e).trans (l j d e)⟩
def aX.jobM(c:aX h E)(f:h.k=true):(af (tbl h) h.Y.W.a3).e≠0/\(af (tbl h) h.Y.W.a0).e≠0:=by
 obtain⟨-,⟨a,d,g⟩,b,e,i⟩:=c.job f;rw[<-g,<-i,c.pe d,c.pe e];exact⟨(c.mapped d).2.2,(c.mapped e).2.2⟩
variable{p:Int}
def mr(a:aF k=true)(b:(af k.F.Q p).e≠0):(af k.F.Q p).j=(bN k p:Nat):=by
 obtain⟨-,-,-,c,-⟩:=bR a b;unfold bN;omega
def CI.kern(A:aX h E)(M:CI h)(n:∀o∈h'.O,o∈h.O)(N:h'.Y=h.Y)(B:h'.k=h.k)(b:∀o∈h.O,o∉h'.O->∀f c:Nat,c<16->qW h o f c->cl h'.G f c=0)(F:∀q:Nat,(nth (tbl h').J q).e=1->(nth (tbl h).J q).e=1)(d:h.k=true->af (tbl h') h.Y.W.a3=af (tbl h) h.Y.W.a3/\af (tbl h') h.Y.W.a0=af (tbl h) h.Y.W.a0)(r:∀o∈h'.O,∀j:Int,0<=j->j<o.q->af (tbl h') ((o.Addr+j) / 16)=af (tbl h) ((o.Addr+j) / 16))(t:∀f c:Nat,cl h'.G f c=cl h.G f c\/(cl h'.G f c=0/\∀p:Int,(af (tbl h') p).e≠0->(af (tbl h') p).j≠f))(G:h.k=true->∀u∈h'.K,u.R=h.Y.W.a3\/u.R=h.Y.W.a0->∃s∈h.K,s.R=u.R/\s.d=u.d/\∀i,aT u.a8 i=true->aT s.a8 i=true):CI h'/\Kp h h':=by
 have cov:∀o∈h'.O,∀f c:Nat,qW h o f c->qW h' o f c:=λo O f c ⟨j,w,C,l⟩=>by
  have e:=r o O j w C;unfold tbl at e;exact⟨j,w,C,by rw[e];exact l.m,by rw[e];exact l.f,l.c⟩
 have H:∀{p:Int},af (tbl h') p=af (tbl h) p->(af (tbl h) p).e≠0->∀c,cl h'.G (bN h.G p) c=cl h.G (bN h.G p) c:=fun {p} e B c=>by
  rcases t (bN h.G p) c with g|⟨-,g⟩
  ·exact g
  refine absurd ?_ (g p (by rw[e];exact B));rw[e];exact mr A.ker B
 refine⟨M.keep N B F d (λf c _ J=>.inl ?_) (λo a f c K y J=>?_) (λD c _=>⟨H (d D).1 (A.jobM D).1 c,H (d D).2 (A.jobM D).2 c⟩) G,λo a=>⟨n o a,λj w C=>?_⟩⟩
 ·rcases t f c with g|g
  ·exact g.symm
  exact absurd g.1 J
 ·by_cases e:o∈h'.O
  ·exact⟨o,e,cov o e f c y⟩
  exact absurd (b o a e f c K y) J
 have e:=r o a j w C;have L:=(cX A (n o a) (k:=j) ⟨w,ω⟩).1;have:=H e L ((o.Addr+j) % 16).toNat;unfold ew;unfold tbl at e;rw[e];exact this
def zp(d:aX h E)(y:Pr h a f c){s:aA}(n:s∈h.K)(g:oY (tbl h) s.R)(r:(af (tbl h) s.R).j=f):eH s a/\(c:Int) / csz s.d=cM s a/\a / 16=s.R:=by
 obtain⟨K,M,A⟩:=d.mapped n;rcases y with⟨u,o,p,B,C,N⟩|⟨l,q,-,b,t,w,D⟩
 ·obtain⟨O,P,F⟩:=d.mapped o
  have:=g u.R.toNat F (by rw[<-d.pe o,<-d.pe n,B,r]);obtain⟨i,G,rfl⟩:=aN n;obtain⟨j,H,rfl⟩:=aN o;have e:=cU (f:=(·.R)) d.L.nd G H ω;subst e;exact⟨p,C,by have:=p.1;have:=p.2.1;omega⟩
 exfalso;obtain⟨k,J,Q⟩:=sM (d.L.lok l q) t w;have:=mH d q t w D (by rw[d.pe n];exact A) r;exact d.L.dis s n l q k J ω
def tH(n:aX h E)(d:JI h)(o:CI h)(e:h.k=true)(p:Pr h a f c)(g:c<16)(i:(c:Int)∈h.Y.W.V):(af (tbl h) h.Y.W.a3).j≠f:=λq=>by
 obtain⟨s,k,b,-,j,-,-⟩:=d.sp e;obtain⟨r,t,-⟩:=zp n p k (by rw[j];exact d.sk e) (by rw[j];exact q);have:=o.jd e s k j c g i;rw[t]at this;have l:=r.2.2.2;unfold cM at this;rw[this]at l;cases l
def He(n:aX h E)(d:JI h)(j:CI h)(g:h.k=true)(o:Pr h a f c)(k:(af (tbl h) (a / 16)).e≠1)(e:(c:Int)∈h.Y.W.V.take h.Y.b.toNat):(af (tbl h) h.Y.W.a0).j≠f:=λp=>by
 obtain⟨-,-,b,q,-,i,-⟩:=d.sp g;obtain⟨-,-,r⟩:=zp n o q (by rw[i];exact d.sm g) (by rw[i];exact p);by_cases l:h.Y.a9=0
 ·rw[(j.jn g).1 l]at e;cases e
 have:=j.m2 g l;rw[r,i]at k;exact k this
def BO(n c:Nat):nth (List.replicate n (0:Int)) c=0:=by
 unfold nth;rw[Y3,List.getElem?_replicate];split<;>rfl
structure KL(k k':am)(lo n:Int):Prop where
 out:∀q:Int,¬(lo<=q/\q<lo+n)->af k'.F.Q q=af k.F.Q q
 ins:∀q:Int,lo<=q->q<lo+n->(af k'.F.Q q).e=0
 cel:∀f c:Nat,cl k' f c=cl k f c\/(cl k' f c=0/\∀p:Int,(af k'.F.Q p).e≠0->(af k'.F.Q p).j≠f)
def Mo(k:am)(F:Int)(f c:Nat):cl (gp k F) f c=cl k f c\/(cl (gp k F) f c=0/\F.toNat=f/\(pagesOn k.F.Q F).length=0):=by
 unfold gp;split
 ·rename_i e
  unfold cl;simp only[bz];split
  ·rename_i a;exact .inr ⟨BO _ _,a.1,e⟩
  exact .inl rfl
 exact .inl rfl
def nz{t:aL}(h:(af t p).e≠0):0<=p/\p<t.J.length/\af t p=nth t.J p.toNat:=by
 unfold af at h |-;split
 ·rename_i e;exact⟨e.1,e.2,rfl⟩
 rename_i e;rw[CC e]at h;exact absurd rfl h
def Rz{t:aL}{F:Int}(h:(pagesOn t F).length=0)(a:(af t p).e≠0):(af t p).j≠F:=λe=>by
 obtain⟨c,d,b⟩:=nz a;rw[b]at a e;have:0<(pagesOn t F).length:=eg.2 ⟨p.toNat,ω,a,e⟩;omega
def KL.refl(k:am)(lo:Int):KL k k lo 0:=⟨λ_ _=>rfl,λq a b=>ω,λ_ _=>.inl rfl⟩
def KL.unmap(h:aF k=true)(j:0<=p/\p<k.F.Q.J.length):KL k (cy k p) p 1:=by
 have b:=sD h j;have d:=(lY k p).1;have i:∀q:Int,af (cy k p).F.Q q=if q=p then⟨0,0⟩ else af k.F.Q q:=λq=>by
  unfold af;rw[d];by_cases e:0<=q/\q<k.F.Q.J.length
  ·rw[CD e,CD e,b q.toNat]
   by_cases a:q=p
   ·rw[CD a,CD ω]
   rw[CC a,CC ω]
  rw[CC e,CC e];by_cases a:q=p
  ·rw[CD a]
  rw[CC a]
 refine⟨λq g=>by rw[i,CC ω],λq t u=>by rw[i,CD ω],λf c=>?_⟩;unfold cy;split
 ·exact .inl rfl
 rename_i l;rcases Mo (mh k p) (af k.F.Q p).j f c with e|⟨n,a,o⟩
 ·exact .inl e
 refine .inr ⟨n,λq g=>?_⟩;rw[(nw _ _).1]at g |-;have:=Rz o g;have r:=mr h l;unfold bN at r;rw[<-a];omega
variable{lo n:Int}
def KL.trans{i j:am}{m:Int}(t:0<=n/\0<=m)(a:KL k i lo n)(b:KL i j (lo+n) m):KL k j lo (n+m):=by
 refine⟨λq u=>(b.out q ω).trans (a.out q ω),λq l w=>?_,λf c=>?_⟩
 ·by_cases e:lo+n<=q
  ·exact b.ins q e ω
  rw[b.out q ω];exact a.ins q l ω
 rcases b.cel f c with e|e
 ·rcases a.cel f c with g|⟨o,r⟩
  ·exact .inl (e.trans g)
  refine .inr ⟨e.trans o,λp d=>?_⟩;by_cases h:lo+n<=p/\p<lo+n+m
  ·exact absurd (b.ins p h.1 h.2) d
  rw[b.out p h]at d |-;exact r p d
 exact .inr e
def KL.unmN{k:am}(a:aF k=true){p:Int}(b:0<=p):∀n:Nat,p+n<=k.F.Q.J.length->KL k (unmN k p n) p n
 | 0,_=>KL.refl k p
 | n+1,h=>by
  have c:=KL.unmN a b n ω;have d:=KL.unmap (je a p n) (p:=p+n) ⟨ω,by rw[(f9 k p n).1];omega⟩;have:=KL.trans ⟨ω,ω⟩ c d;rw[show((n:Nat):Int)+1=((n+1:Nat):Int) by omega]at this;exact this
def KL.md{b:am}(a:KL k b lo n)(f:b.F.Q.J.length=k.F.Q.J.length)(q:Nat)(h:(nth b.F.Q.J q).e≠0):nth b.F.Q.J q=nth k.F.Q.J q:=by
 have g:=th h;have c:af b.F.Q (q:Nat)=nth b.F.Q.J q:=by unfold af;rw[CD ⟨ω,ω⟩];rfl
 have d:af k.F.Q (q:Nat)=nth k.F.Q.J q:=by unfold af;rw[CD ⟨ω,ω⟩];rfl
 by_cases e:lo<=q/\(q:Int)<lo+n
 ·rw[<-c,a.ins q e.1 e.2]at h;exact absurd rfl h
 rw[<-c,<-d,a.out q e]
def EW(h:0<=aP n):n<=csz (aP n):=by
 have a:=jP h;have:n=1\/n=2\/n=3\/n=4\/n=5\/n=6\/n=7\/n=8:=ω
 rcases this with e|e|e|e|e|e|e|e<;>rw[e]<;>decide
def Qq(k:aX h E)(p:o∈h.O)(g:¬aP o.q<0)(i:qW h o f c):f=dG h.G o.Addr/\(o.Addr % 16).toNat<=c/\c<(o.Addr % 16).toNat+(csz (aP o.q)).toNat:=by
 obtain⟨⟨s,q,r,t⟩,-⟩:=(dL k p).2 g;obtain⟨A,B,l,-⟩:=r;have a:=EW (n:=o.q) ω;have b:=bZ (aK (k.L.sok s q)).2.2;rw[<-t]at a |-;obtain⟨j,C,D,d⟩:=i;have u:=d.c;have w:=d.f;have y:(o.Addr+j) / 16=o.Addr / 16:=by rcases b with e|e|e|e<;>rw[e]at l a<;>omega
 rw[y]at w;refine⟨by unfold dG;omega,?_⟩;rcases b with e|e|e|e<;>rw[e]at l a |-<;>omega
def CI.clrS{h:ac}{E:List Int}(n:aX h E)(p:CI h){i:Nat}{a:Int}(g:i<h.K.length)(l:eH (nth h.K i) a):CI (clrS h i a):=by
 have b:=n.L.sok _ (au g);refine p.keep rfl rfl (λq h=>h) (λ_=>⟨rfl,rfl⟩) (λf c _ _=>.inl rfl) (λo r f c _ d _=>⟨o,r,d⟩) (λ_ c _=>⟨rfl,rfl⟩) λ_ w e _=>?_
 rcases eA e with rfl|⟨j,t,-,rfl⟩
 ·refine⟨_,au g,rfl,rfl,λk u=>((H3 (dY b) (qG b ⟨l.1,l.2.1⟩) k).1 u).1⟩
 exact⟨_,au t,rfl,rfl,λ_ h=>h⟩
variable{j:Int}
def QX(a:aX h E)(p:o∈h.O)(h1:0<=j)(J:j<o.q){s:aA}(r:s∈h.K)(T:(o.Addr+j) / 16=s.R):eH s o.Addr:=by
 obtain⟨U,V,W⟩:=a.mapped r;have t:=(cX a p (k:=j) ⟨h1,ω⟩).1;have w:=At.mk' a.ker t;rcases kq a p ⟨j,h1,J,w⟩ with⟨u,K,G,-,-,-⟩|⟨l,b,X,-⟩
 ·rcases a.oow o p with⟨v,q,c,M⟩|⟨l,b,N,O⟩
  ·have y:=a.L.sok v q
   have A:=aK y;have B:=bZ A.2.2;have C:=c;obtain⟨Y,Z,P,-⟩:=c;have D:o.q<=csz v.d:=by
    have hb:=jP (n:=o.q) ω;rw[M];have:o.q=1\/o.q=2\/o.q=3\/o.q=4\/o.q=5\/o.q=6\/o.q=7\/o.q=8:=ω
    rcases this with e|e|e|e|e|e|e|e<;>rw[e]<;>decide
   have Q:(o.Addr+j) / 16=v.R:=by rcases B with e|e|e|e<;>rw[e]at P D<;>omega
   obtain⟨i,R,rfl⟩:=aN r;obtain⟨k,S,rfl⟩:=aN q;have:=cU (f:=(·.R)) a.L.nd R S (by show(nth h.K i).R=(nth h.K k).R;omega);subst this;exact C
  exfalso;have:=aR (a.L.lok l b);exact a.L.dis u K l b 0 ω (by have:=G.1;have:=G.2.1;omega)
 exfalso;have H:=a.L.lok l b;unfold bK at H;rw[C0]at H;rcases a.oow o p with⟨v,q,c,-⟩|⟨F,d,N,O⟩
 ·exact a.L.dis v q l b 0 ω (by have:=c.1;have:=c.2.1;omega)
 have g:=a.L.lok F d;unfold bK at g;rw[C0]at g;exact a.L.dis s r F d ((o.Addr+j) / 16 - F.R).toNat ω ω
def CI.giveP{h:ac}{E:List Int}(b:aX h E)(f:CI h){i:Nat}(e:i<h.K.length)(g:(nth h.K i).a8=0)(c:fe h (nth h.K i).R=false):CI (giveP h i)/\Kp h (giveP h i):=by
 obtain⟨k,l,A⟩:=b.mapped (au e);have kl:=KL.unmap b.ker (p:=(nth h.K i).R) ⟨k,l⟩;refine CI.kern b f (λo a=>a) rfl rfl (λo a n=>absurd a n) (λq r=>?_) (λt=>?_) (λo a j u w=>?_) kl.cel (λ_ B d _=>?_)
 ·have:=kl.md (lY _ _).1 q (by show(nth (tbl (Ab.giveP h i)).J q).e≠0;omega)
  show(nth h.G.F.Q.J q).e=1;rw[<-this];exact r
 ·obtain⟨C,D⟩:=xF c t
  exact⟨kl.out _ ω,kl.out _ ω⟩
 ·refine kl.out _ λF=>?_
  exact xc g _ (QX b a u w (au e) ω)
 obtain⟨j,y,-,rfl⟩:=dl.1 d;exact⟨_,au y,rfl,rfl,λ_ h=>h⟩
def CI.freeS{h:ac}{E:List Int}{a:Int}{i:Nat}(c:aX h (a::E))(j:CI h)(b:i<h.K.length)(d:eH (nth h.K i) a):CI (freeS h i a)/\Kp h (freeS h i a):=by
 have k:=c.give b d;have f:=CI.clrS c j b d;unfold Ab.freeS;split
 ·rename_i e
  have g:nth (Ab.clrS h i a).K i=kW (nth h.K i) (cM (nth h.K i) a):=by unfold Ab.clrS;simp only[bz,true_and];rw[CD b]
  obtain⟨l,n⟩:=CI.giveP (h:=Ab.clrS h i a) k f (i:=i) (by unfold Ab.clrS;simp only[I2];exact b) (by rw[g];exact e.1) (by rw[g];exact e.2);exact⟨l,n⟩
 exact⟨f,CX h⟩
def CI.freeA{h:ac}{E:List Int}{a:Int}(b:aX h (a::E))(c:CI h):CI (freeA h a)/\Kp h (freeA h a):=by
 obtain⟨d,e,-⟩:=b.at (b.hin a (X2 ..));exact CI.freeS b c d e
def CI.recyc{h:ac}{E:List Int}{a:Int}{t:Nat}(c:aX h (a::E))(b:CI h):CI (recyc t h a)/\Kp h (recyc t h a):=by
 unfold Ab.recyc;split
 ·exact⟨⟨b.z,b.jv,b.jd,b.jc,b.jn,b.m1,b.m2⟩,CX h⟩
 exact CI.freeA c b
def CI.recycs{t:Nat}{E:List Int} : ∀{az:List Int}{h:ac},aX h (az++E)->t<h.T.length->CI h->CI (recycs t h az)/\Kp h (recycs t h az)
 | [],h,_,_,b=>⟨b,CX h⟩
 | a::az,h,c,d,b=>by
  obtain⟨e,f⟩:=CI.recyc (t:=t) c b;obtain⟨g,i⟩:=CI.recycs (az:=az) (h:=Ab.recyc t h a) (c.recyc d) (by rw[(nZ t h a).1];exact d) e;exact⟨g,f.trans i⟩
def CI.freeAs{E:List Int} : ∀{az:List Int}{h:ac},aX h (az++E)->CI h->CI (freeAs h az)/\Kp h (freeAs h az)
 | [],h,_,b=>⟨b,CX h⟩
 | a::az,h,c,b=>by
  obtain⟨d,e⟩:=CI.freeA c b;obtain⟨f,g⟩:=CI.freeAs (az:=az) (h:=Ab.freeA h a) c.freeA d;exact⟨f,e.trans g⟩
def CI.flushN{t:Nat}{h:ac}(c:aX h [])(d:t<h.T.length)(e:CI h):∀{k:Nat},k<=4->CI (flushN t h k).1/\Kp h (flushN t h k).1
 | 0,_=>⟨e,CX h⟩
 | k+1,p=>by
  obtain⟨a,g⟩:=CI.flushN c d e (k:=k) ω;obtain⟨f,q,-⟩:=iQ c d (k:=k) ω;have b:t<(Ab.flushN t h k).1.T.length:=ω
  have i:=mL (f.cach _ (au b));have j:=f.spilt b (k:=k) ω;have l:CI (spilt (Ab.flushN t h k).1 t k):=⟨a.z,a.jv,a.jd,a.jc,a.jn,a.m1,a.m2⟩
  obtain⟨n,o⟩:=CI.freeAs j l;exact⟨n,g.trans o⟩
def CI.tick{h:ac}{n:Int}(c:aX h [])(a:CI h)(d:0<=n)(b:h.b1+n<=1000000):CI (tick h n)/\Kp h (tick h n):=by
 have e:=c.aged d b;have f:CI (aged h n):=⟨a.z,a.jv,a.jd,a.jc,a.jn,a.m1,a.m2⟩
 exact CI.freeAs e f
def CI.collect{h:ac}{t:Nat}(b:aX h [])(a:CI h)(c:t<h.T.length):CI (collect h t)/\Kp h (collect h t):=by
 have g:=(eY.1 b.mail).1;have d:=b.nc;have e:=b.coll (t:=t) ω;have f:CI {h with a1:=mg h.a1 t}:=⟨a.z,a.jv,a.jd,a.jc,a.jn,a.m1,a.m2⟩
 exact CI.recycs e c f
def uR(r:List Int)(o:Nat):∀(n c:Nat),nth (lT r o n) c=if o<=c/\c<o+n then 0 else nth r c
 | 0,c=>by rw[CC ω];rfl
 | n+1,c=>by
  unfold lT;rw[bz,uR r o n c,qt];by_cases e:o+n=c
  ·rw[CD (show o<=c/\c<o+(n+1) by omega)]
   by_cases a:c<r.length
   ·rw[CD ⟨e,a⟩]
   rw[CC ω,CC ω];unfold nth;rw[Y3,X3 ω];rfl
  rw[CC ω];by_cases a:o<=c/\c<o+n
  ·rw[CD a,CD ω]
  rw[CC a,CC ω]
def xk(k:am)(a:Int)(n f c:Nat):cl (fA k a n) f c=cl k f c\/(cl (fA k a n) f c=0/\f=dG k a/\(a % 16).toNat<=c/\c<(a % 16).toNat+n):=by
 unfold cl fA;simp only[bz];split
 ·rename_i e
  rw[uR];split
  ·rename_i b;exact .inr ⟨rfl,e.1.symm,b.1,b.2⟩
  rw[e.1];exact .inl rfl
 exact .inl rfl
def FR{n:Nat}(h1:(a % 16).toNat<=c)(b:c<(a % 16).toNat+n):cl (fA k a n) (dG k a) c=0:=by
 unfold cl fA;simp only[bz];by_cases e:dG k a<k.F.X.V.length
 ·rw[CD ⟨trivial,e⟩,uR,CD ⟨h1,b⟩]
 rw[CC (λx=>e x.2)];have:nth k.F.X.V (dG k a)=[]:=by
  unfold nth;rw[Y3,X3 ω];rfl
 rw[this];rfl
def CI.clearO(b:aX h E)(u:JI h)(O:CI h)(P:i<h.O.length)(w:¬aP (nth h.O i).q<0)(hw:(af (tbl h) ((nth h.O i).Addr / 16)).e≠1)(y:h'.G=fA h.G (nth h.O i).Addr (csz (aP (nth h.O i).q)).toNat)(e2:h'.O=dele h.O i)(e3:h'.K=h.K)(e4:h'.Y=h.Y)(e5:h'.k=h.k):CI h'/\Kp h h':=by
 obtain⟨⟨s,H,s1,s2⟩,hc3⟩:=(dL b (au P)).2 w;have Q:=s1;obtain⟨g1,g2,g3,-⟩:=s1;have A:=b.L.sok s H;have B:=bZ (aK A).2.2;obtain⟨m1,m2,m3⟩:=b.mapped H;have R:(nth h.O i).Addr / 16=s.R:=ω
 have J:tbl h'=tbl h:=by unfold tbl;rw[y];rfl
 have S:(af (tbl h) s.R).j=(dG h.G (nth h.O i).Addr:Nat):=by
  unfold dG;rw[R];exact mr b.ker (by show(af (tbl h) s.R).e≠0;rw[b.pe H];exact m3)
 have ex:∀c:Nat,((nth h.O i).Addr % 16).toNat<=c->c<((nth h.O i).Addr % 16).toNat+(csz (aP (nth h.O i).q)).toNat->Pr h (nth h.O i).Addr (dG h.G (nth h.O i).Addr) c/\c<16:=λc h1 T=>by
  rw[<-s2]at T;have r:c<16:=by rcases B with e|e|e|e<;>rw[e]at g3 T<;>omega
  refine⟨.inl ⟨s,H,Q,S,?_,r⟩,r⟩;unfold cM;rcases B with e|e|e|e<;>rw[e]at g3 T |-<;>omega
 have cv:∀o∈h.O,∀f c:Nat,qW h o f c->qW h' o f c:=λo d f c ⟨j,K,U,a⟩=>by
  have e:h'.G.F.Q=h.G.F.Q:=J;exact⟨j,K,U,by rw[e];exact a.m,by rw[e];exact a.f,a.c⟩
 have same:∀o∈h.O,o≠nth h.O i->∀f c:Nat,qW h o f c->cl h'.G f c=cl h.G f c:=λo d V f c l=>by
  rw[y];rcases xk h.G (nth h.O i).Addr (csz (aP (nth h.O i).q)).toNat f c with g|⟨-,W,X,Y⟩
  ·exact g
  exfalso;have hx:=(ex c X Y).1;rw[<-W]at hx;have ea:=wX b (kq b d l) hx;obtain⟨k,n,rfl⟩:=aN d;have:=cU (f:=(·.Addr)) (d9 b.osr) n P ea;subst this;exact V rfl
 have notO:∀o∈h'.O,o≠nth h.O i/\o∈h.O:=λo d=>by
  rw[e2]at d;obtain⟨k,n,Z,rfl⟩:=dl.1 d;refine⟨λe=>Z ?_,au n⟩;exact cU (f:=(·.Addr)) (d9 b.osr) n P (by rw[e])
 refine⟨O.keep e4 e5 (by rw[J];exact λq h=>h) (λ_=>by rw[J];exact⟨rfl,rfl⟩) (λf c _ M=>.inl ?_) (λo d f c r l M=>?_) (λN c C=>?_) (λ_ s' hs' _=>⟨s',by rw[<-e3];exact hs',rfl,rfl,λ_ h=>h⟩),λo d=>⟨(notO o d).2,λj K U=>?_⟩⟩
 ·rw[y]at M |-
  rcases xk h.G (nth h.O i).Addr (csz (aP (nth h.O i).q)).toNat f c with g|g
  ·exact g.symm
  exact absurd g.1 M
 ·by_cases e:o=nth h.O i
  ·exfalso
   subst e;obtain⟨t,D,F⟩:=Qq b d w l;exact M (by rw[y,t];exact FR D F)
  refine⟨o,?_,cv o d f c l⟩;rw[e2];obtain⟨k,n,rfl⟩:=aN d;exact dl.2 ⟨k,n,λx=>e (by rw[x]),rfl⟩
 ·have hc16:c<16:=by
   have hm2:=List.mem_of_mem_take C;obtain⟨k,n,e⟩:=aN hm2;have:=gu (dM.1 (b.job N).1).1 n;omega
  have key:∀p:Int,(af (tbl h) p).e≠0->(∀c:Nat,Pr h (nth h.O i).Addr (dG h.G (nth h.O i).Addr) c->c<16->(c:Int)∈h.Y.W.V.take h.Y.b.toNat->(af (tbl h) p).j≠(dG h.G (nth h.O i).Addr:Nat))->cl h'.G (bN h.G p) c=cl h.G (bN h.G p) c:=λp hp Z=>by
   rw[y];rcases xk h.G (nth h.O i).Addr (csz (aP (nth h.O i).q)).toNat (bN h.G p) c with g|⟨-,W,X,Y⟩
   ·exact g
   exfalso;obtain⟨t,D⟩:=ex c X Y;refine Z c t D C ?_;rw[<-W];exact mr b.ker hp
  obtain⟨jm1,jm2⟩:=b.jobM N;exact⟨key _ jm1 λc t D F=>tH b u O N t D (List.mem_of_mem_take F),key _ jm2 λc t _ F=>He b u O N t hw F⟩
 obtain⟨o1,o2⟩:=notO o d;have a:=At.mk' b.ker (cX b o2 (k:=j) ⟨K,ω⟩).1;have G:At h'.G (o.Addr+j) (dG h.G (o.Addr+j)) ((o.Addr+j) % 16).toNat:=by
  have e:h'.G.F.Q=h.G.F.Q:=J;exact⟨by rw[e];exact a.m,by rw[e];exact a.f,a.c⟩
 rw[G.cell,a.cell];exact same o o2 o1 _ _ ⟨j,K,U,a⟩
def p9(h:aF k=true)(d:∀p:Int,(af k.F.Q p).e≠0->(af k.F.Q p).j≠f)(c:Nat):cl k f c=0:=by
 obtain⟨-,i,-,j,-⟩:=aH.1 h;obtain⟨-,-,w,n⟩:=aZ.1 i;unfold cl;by_cases o:f<k.F.X.V.length
 ·have r:nth k.F.X.a4 f=false:=by
   rw[j f ω,X6];intro a;obtain⟨q,y,t,u⟩:=eg.1 a;have e:af k.F.Q (q:Nat)=nth k.F.Q.J q:=by unfold af;rw[CD ⟨ω,ω⟩];rfl
   exact d (q:Nat) (by rw[e];exact t) (by rw[e];exact u)
  have b:=n f o;unfold ip at b;rw[r]at b;simp only[I0,C0,X5]at b;by_cases g:c<(nth k.F.X.V f).length
  ·have:=b.2 _ (au g)
   unfold iU at this;rw[I0,Bool.false_or,C0,C0]at this;exact this.2
  unfold nth;rw[Y3 (l:=List.getD _ _ _),X3 (by unfold nth at g;omega)];rfl
 have:nth k.F.X.V f=[]:=by
  unfold nth;rw[Y3,X3 ω];rfl
 rw[this];rfl
def CI.freeL{h:ac}{E:List Int}(d:aX h E)(T:CI h){i k:Nat}(O:i<h.O.length)(r:k<h.M.length)(U:(nth h.O i).Addr=16*(nth h.M k).R):CI (freeL h i k)/\Kp h (freeL h i k):=by
 obtain⟨V,W⟩:=uX d r;have t:=d.L.lok _ (au r);have X:=aR t;have kl:=KL.unmN d.ker V _ W;have ker:=je d.ker (nth h.M k).R (nth h.M k).a2.toNat;have u:=(f9 h.G (nth h.M k).R (nth h.M k).a2.toNat).1;have notO:∀o∈dele h.O i,o≠nth h.O i/\o∈h.O:=λo n=>by
  obtain⟨j,y,Y,rfl⟩:=dl.1 n;exact⟨λe=>Y (cU (f:=(·.Addr)) (d9 d.osr) y O (by rw[e])),au y⟩
 have onL:∀b:Int,(nth h.M k).R<=b / 16->b / 16<(nth h.M k).R+((nth h.M k).a2.toNat:Nat)->∀f c:Nat,At h.G b f c->Pr h (nth h.O i).Addr f c:=λb h1 h2 f c g=>.inr ⟨_,au r,U,b,ω,ω,g⟩
 refine CI.kern d T (λo n=>(notO o n).2) rfl rfl (λo n Z f c h16 C=>?_) (λq hq=>?_) (λhm=>?_) (λo n j D P=>?_) kl.cel (λ_ s' F _=>⟨s',F,rfl,rfl,λ_ h=>h⟩)
 ·-- the object itself
  have G:o=nth h.O i:=by
   refine Classical.byContradiction λe=>Z ?_
   obtain⟨j,y,rfl⟩:=aN n;exact dl.2 ⟨j,y,λx=>e (by rw[x]),rfl⟩
  subst G;rcases kl.cel f c with e|e
  ·refine p9 ker (λp A H=>?_) c
   obtain⟨j,D,P,g⟩:=C;have hsz:(nth h.O i).q<=16*(nth h.M k).a2:=by
    rcases d.oow _ n with⟨s,J,Q,-⟩|⟨l,R,e1,e2⟩
    ·exact absurd (show s.R=(nth h.M k).R+((0:Nat):Int) by have:=Q.1;have:=Q.2.1;omega) (d.L.dis s J _ (au r) 0 ω)
    obtain⟨m,K,rfl⟩:=aN R;have:=d.L.one m k K r 0 0 (by have:=aR (d.L.lok _ R);omega) ω ω;subst this;unfold bK at t;rw[C0]at t;omega
   by_cases B:(nth h.M k).R<=p/\p<(nth h.M k).R+((nth h.M k).a2.toNat:Nat)
   ·exact A (kl.ins p B.1 B.2)
   have w:=kl.out p B;change af (unmN h.G (nth h.M k).R (nth h.M k).a2.toNat).F.Q p=_ at w;change (af (unmN h.G (nth h.M k).R (nth h.M k).a2.toNat).F.Q p).e≠0 at A;change (af (unmN h.G (nth h.M k).R (nth h.M k).a2.toNat).F.Q p).j=_ at H;rw[w]at A H;have:=mH d (au r) (b:=(nth h.O i).Addr+j) ω ω g A H;omega
  exact e.1
 ·have:=kl.md u q (by show(nth (tbl (Ab.freeL h i k)).J q).e≠0;omega)
  show(nth h.G.F.Q.J q).e=1;rw[<-this];exact hq
 ·obtain⟨-,⟨a,ha,M⟩,b,hb,eb⟩:=d.job hm
  have no:∀s∈h.K,¬((nth h.M k).R<=s.R/\s.R<(nth h.M k).R+((nth h.M k).a2.toNat:Nat)):=λs J B=>d.L.dis s J _ (au r) (s.R - (nth h.M k).R).toNat ω ω
  exact⟨by rw[<-M];exact kl.out _ (no a ha),by rw[<-eb];exact kl.out _ (no b hb)⟩
 obtain⟨o1,N⟩:=notO o n;refine kl.out _ λS=>o1 ?_
 have g:=At.mk' d.ker (cX d N (k:=j) ⟨D,ω⟩).1;have e:=wX d (kq d N ⟨j,D,P,g⟩) (onL _ S.1 S.2 _ _ g);obtain⟨m,K,rfl⟩:=aN N;rw[cU (f:=(·.Addr)) (d9 d.osr) K O e]
def CI.freeT{h:ac}{t i:Nat}(b:aX h [])(c:JI h)(d:CI h)(e:i<h.O.length)(n:t<h.T.length):CI (freeT h t i).1/\Kp h (freeT h t i).1:=by
 unfold Ab.freeT;split
 ·rename_i a
  obtain⟨l,o,f,-⟩:=(dL b (au e)).1 a;obtain⟨g,j,-⟩:=uh o f;exact CI.freeL b d e g j
 rename_i a;split
 ·exact⟨d,CX h⟩
 rename_i k;split
 ·obtain⟨p,g⟩:=CI.clearO (h':=inQuar h i) b c d e a k rfl rfl rfl rfl rfl
  have f:=b.inQuar e a;obtain⟨q,j⟩:=CI.recycs (t:=t) (E:=[]) (az:=(Aw h.a7 (mz h (nth h.O i))).map (·.Addr)) (h:=inQuar h i) (by rw[List.append_nil];exact f) n p;exact⟨q,g.trans j⟩
 split
 ·exact CI.clearO (h':=Bi h t i) b c d e a k rfl rfl rfl rfl rfl
 exact⟨d,CX h⟩
structure KA(k k':am)(lo n:Int):Prop where
 out:∀q:Int,¬(lo<=q/\q<lo+n)->af k'.F.Q q=af k.F.Q q
 md:∀q:Nat,(nth k'.F.Q.J q).e=1->(nth k.F.Q.J q).e=1
 cel:∀f c:Nat,cl k' f c=cl k f c
def Rj{a:am}(b:a.F.Q.J.length=k.F.Q.J.length)(h:∀q:Nat,¬(lo<=q/\(q:Int)<lo+n)->nth a.F.Q.J q=nth k.F.Q.J q)(q:Int)(c:¬(lo<=q/\q<lo+n)):af a.F.Q q=af k.F.Q q:=by
 unfold af;rw[b];by_cases e:0<=q/\q<k.F.Q.J.length
 ·rw[CD e,CD e];exact h q.toNat ω
 rw[CC e,CC e]
def KA.newK{r:am × Bool}(s:ww k p r):KA k r.1 p 1:=by
 cases e:r.2 with
 | false=>rw[s.no e];exact⟨λ_ _=>rfl,λ_ h=>h,λ_ _=>rfl⟩
 | true=>
  obtain⟨f,-,-,b,-⟩:=s.yes e;refine⟨Rj s.len λq a=>by rw[b,CC ω],λq a=>?_,λf c=>by unfold cl;rw[s.cells]⟩;rw[b]at a;split at a
  ·exact absurd a (by show ¬(2:Int)=1;decide)
  exact a
def KA.newsK{n:Nat}{r:am × Nat}(s:lv k p n r):KA k r.1 p r.2:=by
 refine⟨Rj s.len s.out,λq a=>?_,λf c=>by unfold cl;rw[s.cells]⟩;by_cases e:p<=q/\(q:Int)<p+r.2
 ·rw[(s.new q e.1 e.2).1]at a;exact absurd a (by decide)
 rw[s.out q e]at a;exact a
def nU(d:aX h E)(b:∀q:Nat,lo<=q->(q:Int)<lo+n->(nth (tbl h).J q).e=0)(a:(af (tbl h) p).e≠0):¬(lo<=p/\p<lo+n):=λe=>by
 obtain⟨f,-,c⟩:=nz a;rw[c]at a;exact a (b p.toNat ω ω)
def CI.mapped(b:aX h E)(t:CI h)(e:KA h.G h'.G lo n)(g:∀q:Nat,lo<=q->(q:Int)<lo+n->(nth (tbl h).J q).e=0)(i:h'.O=h.O)(u:h'.Y=h.Y)(l:h'.k=h.k)(p:h.k=true->∀d∈h'.K,d.R=h.Y.W.a3\/d.R=h.Y.W.a0->d∈h.K):CI h'/\Kp h h':=by
 refine CI.kern b t (λo a=>by rw[<-i];exact a) u l (λo a r=>absurd (by rw[i];exact a) r) e.md (λa=>?_) (λo a j w C=>?_) (λf c=>.inl (e.cel f c)) (λa d r y=>⟨d,p a d r y,rfl,rfl,λ_ h=>h⟩)
 ·obtain⟨A,B⟩:=b.jobM a
  exact⟨e.out _ (nU b g A),e.out _ (nU b g B)⟩
 rw[i]at a;exact e.out _ (nU b g (cX b a (k:=j) ⟨w,ω⟩).1)
structure CA(h:ac)(r:ac):Prop where
 ci:CI r
 kp:Kp h r
 ob:r.O=h.O
def CI.slotT{h:ac}(e:CI h){i:Nat}(t:i<h.K.length)(a:fe h (nth h.K i).R=false):CI (slotT h i):=by
 refine e.keep rfl rfl (λq h=>h) (λ_=>⟨rfl,rfl⟩) (λf c _ _=>.inl rfl) (λo g f c _ b _=>⟨o,g,b⟩) (λ_ c _=>⟨rfl,rfl⟩) λk u d l=>?_
 rcases eA d with rfl|⟨j,n,-,rfl⟩
 ·obtain⟨p,r⟩:=xF a k
  exact(l.elim p r).elim
 exact⟨_,au n,rfl,rfl,λ_ h=>h⟩
def CI.smallA{h:ac}{t c:Nat}(d:aX h [])(a:CI h)(V:t<h.T.length)(G:c<=3)(H:h.G.Calls<=90000):CA h (smallA h t c).1:=by
 unfold Ab.smallA;split
 ·exact⟨⟨a.z,a.jv,a.jd,a.jc,a.jn,a.m1,a.m2⟩,CX h,rfl⟩
 split
 ·rename_i i D
  have o:=List.find?_some D;have b:=List.mem_range.1 (List.mem_of_find?_eq_some D);unfold tJ at o;simp only[I0,C0,Bool.not_eq_true']at o;exact⟨CI.slotT a b o.2.1,CX h,rfl⟩
 split
 ·exact⟨a,CX h,rfl⟩
 rename_i J;have f:(ay h.o 1).2.2=true:=by simpa using J
 obtain⟨K,L,r,E⟩:=kv d (C7 1) f;have s:=ww.of (p:=(ay h.o 1).2.1) d.ker ω ⟨K,by have:(ay h.o 1).2.1+1<=(h.G.F.Q.J.length:Nat):=L;omega⟩ (r _ ω ω);have F:=KA.newK s;split
 ·obtain⟨g,j⟩:=CI.mapped (h':={h with G:=(newK h.G (ay h.o 1).2.1).1}) d a F (λq u w=>r q u w) rfl rfl rfl (λ_ k b _=>b)
  exact⟨g,j,rfl⟩
 rename_i M;have A:(newK h.G (ay h.o 1).2.1).2=true:=by simpa using M
 have k:ww h.G (ay h.o 1).2.1 ((newK h.G (ay h.o 1).2.1).1,true):=by rw[<-A];exact s
 have W:=d.addS (c:=c) ⟨ω,ω⟩ f k;have N:JK h (pU h c):=JK.addS k;have jno:∀l:h.k=true,(ay h.o 1).2.1≠h.Y.W.a3/\(ay h.o 1).2.1≠h.Y.W.a0:=λl=>by
  obtain⟨-,⟨y,O,P⟩,⟨z,Q,R⟩⟩:=d.job l;exact⟨λe=>E _ (C7 _) ω (by rw[e,<-P];exact dJ O),λe=>E _ (C7 _) ω (by rw[e,<-R];exact dJ Q)⟩
 obtain⟨g,j⟩:=CI.mapped (h':=pU h c) d a F (λq u w=>r q u w) rfl rfl rfl (λl k b S=>by
   rcases cL.1 b with rfl|b
   · obtain⟨B,C⟩:=jno l
     exact(S.elim B C).elim
   exact b)
 obtain⟨T,U⟩:=E9 (GT (ay h.o 1).2.1) h.K ⟨(ay h.o 1).2.1,c,0⟩;unfold oT;split
 ·exact⟨g,j,rfl⟩
 refine⟨CI.slotT (h:=pU h c) g (i:=pm h) T ?_,j,rfl⟩;show fe (pU h c) (nth (jG (GT (ay h.o 1).2.1) h.K ⟨(ay h.o 1).2.1,c,0⟩) (pm h)).R=false;unfold pm;rw[U,N.pg,<-X7];intro n;unfold fe at n;simp only[I0,Y8,C0]at n;obtain⟨B,C⟩:=jno n.1;exact n.2.elim B C
structure Vq(h h':ac)(x:aU):Prop where
 mem:∀o,o∈h'.O↔o=x\/o∈h.O
 ze:∀j:Int,0<=j->j<x.q->ew h'.G (x.Addr+j)=0
 ke:∀o∈h.O,∀j:Int,0<=j->j<o.q->ew h'.G (o.Addr+j)=ew h.G (o.Addr+j)
def Vq.of{g:ac}{L:List Int}{x:aU}(A:aX g E)(M:CI g)(b:aX h' L)(r:JI h')(B:CI h')(C:∀p:Int,(af (tbl g) p).e≠0->af (tbl h') p=af (tbl g) p)(d:∀f c,cl h'.G f c=cl g.G f c)(l:∀o,o∈h'.O↔o=x\/o∈g.O)(N:x∉g.O)(G:h'.Y=g.Y)(O:h'.k=g.k)(D:g.O=h.O)(P:Kp h g):Vq h h' x:=by
 have Q:∀o∈g.O,∀f c:Nat,qW g o f c->qW h' o f c:=λo D f c ⟨j,n,t,a⟩=>by
  have e:=C _ a.m;unfold tbl at e;exact⟨j,n,t,by rw[e];exact a.m,by rw[e];exact a.f,a.c⟩
 refine⟨λo=>by rw[l,D],λj n t=>?_,λo u j n t=>?_⟩
 ·have q:=(l x).2 (.inl rfl)
  have a:=At.mk' b.ker (cX b q (k:=j) ⟨n,ω⟩).1;rw[a.cell];refine Classical.byContradiction λH=>?_
  have w:((x.Addr+j) % 16).toNat<16:=ω
  rw[d]at H;have i:qW h' x _ _:=⟨j,n,t,a⟩
  rcases M.z _ _ w H with⟨o,u,F⟩|⟨J,R,S⟩
  ·have:=LG b ((l o).2 (.inr u)) q (Q o u _ _ F) i
   subst this;exact N u
  refine tH b r B (by rw[O];exact J) (kq b q i) w (by rw[G];exact List.mem_of_mem_take S) ?_;rw[G,C _ (A.jobM J).1];exact R
 have K:o∈g.O:=by rw[D];exact u
 refine Eq.trans ?_ ((P o K).2 j n t);have a:=At.mk' A.ker (cX A K (k:=j) ⟨n,ω⟩).1;have e:=C _ a.m;have y:At h'.G (o.Addr+j) (dG g.G (o.Addr+j)) ((o.Addr+j) % 16).toNat:=by
  unfold tbl at e;exact⟨by rw[e];exact a.m,by rw[e];exact a.f,a.c⟩
 rw[y.cell,a.cell,d]
def CI.addO{h:ac}(e:CI h)(a size t:Int):CI (addO h a size t):=
 e.keep rfl rfl (λq h=>h) (λ_=>⟨rfl,rfl⟩) (λf c _ _=>.inl rfl) (λo g f c _ b _=>⟨o,cL.2 (.inr g),b⟩) (λ_ c _=>⟨rfl,rfl⟩) λ_ i d _=>⟨i,d,rfl,rfl,λ_ h=>h⟩
structure AL(h:ac)(t size:Int)(r:ac × Int × Int):Prop where
 ci:CI r.1
 no:r.2.2≠0->r.1.O=h.O/\Kp h r.1/\r.1.b=h.b/\r.2.1 = -1
 yes:r.2.2=0->Vq h r.1 ⟨h.b,r.2.1,size,t⟩/\r.1.b=h.b+1/\1<=size/\size<=1000/\0<=r.2.1
def Pm(b:aX h E){size t:Int} : (⟨h.b,a,size,t⟩ : aU)∉h.O:=λc=>by
 have:=(b.onu _ c).2.1;simp only at this;omega
def CI.largeA{h:ac}{t size:Int}(b:aX h [])(C:JI h)(y:CI h)(L:9<=size/\size<=1000)(D:h.b<1000000)(E:h.G.Calls<=90000)(U:0<=t/\t<=h.T.length - 1):AL h t size (largeA h t size):=by
 have hl:(iy size:Int)=(size+15) / 16:=by unfold iy;omega
 have a:=Bj b L D E U;unfold Ab.largeA at a |-;by_cases F:(ay h.o (iy size:Nat)).2.2=false
 ·rw[CD F]
  exact⟨y,λ_=>⟨rfl,CX h,rfl,rfl⟩,λe=>by cases e⟩
 rw[CC F]at a |-;have G:(ay h.o (iy size:Nat)).2.2=true:=by simpa using F
 obtain⟨M,N,O,u4⟩:=kv b (show(1:Int)<=(iy size:Nat) by omega) G;have s:lv h.G (ay h.o (iy size:Nat)).2.1 (iy size) (dZ h size):=lv.of (p:=(ay h.o (iy size:Nat)).2.1) (n:=iy size) b.ker ω ⟨M,N⟩ O (iy size) (O4 _);have d:=KA.newsK s;have V:=s.le;have i:∀q:Nat,(ay h.o (iy size:Nat)).2.1<=q->(q:Int)<(ay h.o (iy size:Nat)).2.1+(dZ h size).2->(nth (tbl h).J q).e=0:=λq W q2=>O q W ω
 by_cases P:(dZ h size).2=iy size
 ·rw[CD P]at a |-
  obtain⟨Q,H⟩:=a;have ji1:=C.keep Q H;have w:∀o,o∈(addL h (dZ h size).1 (ay h.o (iy size:Nat)).1 (ay h.o (iy size:Nat)).2.1 (iy size:Nat) size t).O↔o = ⟨h.b,16*(ay h.o (iy size:Nat)).2.1,size,t⟩\/o∈h.O:=λo=>cL
  have X:=CI.mapped (h':={h with G:=(dZ h size).1}) b y d i rfl rfl rfl (λ_ A Y _=>Y);have B:CI (addL h (dZ h size).1 (ay h.o (iy size:Nat)).1 (ay h.o (iy size:Nat)).2.1 (iy size:Nat) size t):=
   X.1.keep rfl rfl (λq h=>h) (λ_=>⟨rfl,rfl⟩) (λf c _ _=>.inl rfl) (λo l f c _ J _=>⟨o,cL.2 (.inr l),J⟩) (λ_ c _=>⟨rfl,rfl⟩) λ_ A r _=>⟨A,r,rfl,rfl,λ_ h=>h⟩
  refine⟨B,λe=>absurd rfl e,λ_=>⟨?_,rfl,ω,L.2,by show 0<=16*_;omega⟩⟩;exact Vq.of (g:=h) b y Q ji1 B (λp Z=>d.out p (nU b i Z)) d.cel w (Pm b) rfl rfl rfl (CX h)
 rw[CC P]at a |-;have K:=s.len;have kl:=KL.unmN s.ker M (dZ h size).2 (by rw[K];have:(ay h.o (iy size:Nat)).2.1+((iy size:Nat):Int)<=(h.G.F.Q.J.length:Nat):=N;omega);have u:=((f9 (dZ h size).1 (ay h.o (iy size:Nat)).2.1 (dZ h size).2).1)
 obtain⟨B,k1⟩:=CI.kern (h':={h with G:=unmN (dZ h size).1 (ay h.o (iy size:Nat)).2.1 (dZ h size).2}) b y (λo l=>l) rfl rfl (λo l D=>absurd l D) (λq R=>d.md q (by rw[<-kl.md u q (by show(nth (unmN (dZ h size).1 _ _).F.Q.J q).e≠0;have:(nth (unmN (dZ h size).1 (ay h.o (iy size:Nat)).2.1 (dZ h size).2).F.Q.J q).e=1:=R;omega)];exact R)) (λhm=>by
     obtain⟨S,T⟩:=b.jobM hm;exact⟨(kl.out _ (nU b i S)).trans (d.out _ (nU b i S)),(kl.out _ (nU b i T)).trans (d.out _ (nU b i T))⟩) (λo l j H j2=>by
     have:=nU b i (cX b l (k:=j) ⟨H,ω⟩).1;exact(kl.out _ this).trans (d.out _ this)) (λf c=>by
     rcases kl.cel f c with e|e
     · exact .inl (e.trans (d.cel f c))
     exact .inr e) (λ_ A r _=>⟨A,r,rfl,rfl,λ_ h=>h⟩)
 exact⟨B,λ_=>⟨rfl,k1,rfl,rfl⟩,λe=>by cases e⟩
def CI.allocH{h:ac}{t size:Int}(i:aX h [])(f:JI h)(j:CI h):AL h t size (allocH h t size):=by
 have a:=Dg (t:=t) (size:=size) i;have no:∀n:Int,n≠0->AL h t size (h,-1,n):=λn B=>⟨j,λ_=>⟨rfl,CX h,rfl,rfl⟩,λe=>absurd e B⟩
 unfold Ab.allocH at a |-;by_cases k:1000000<=h.b\/90000<h.G.Calls
 ·rw[CD k];exact no 5 (by decide)
 rw[CC k]at a |-;by_cases l:¬(0<=t/\t<=h.T.length - 1)
 ·rw[CD l];exact no 1 (by decide)
 rw[CC l]at a |-;by_cases q:¬(1<=size/\size<=1000)
 ·rw[CD q];exact no 2 (by decide)
 rw[CC q]at a |-;by_cases u:h.c0<vz h+size
 ·rw[CD u];exact no 3 (by decide)
 rw[CC u]at a |-;by_cases b:0<=aP size
 ·rw[CD b]at a |-
  have C:aP size<=3:=by unfold aP;repeat' split<;>omega
  have s:=qM (t:=t.toNat) (c:=(aP size).toNat) i ω ω ω;have d:=CI.smallA (t:=t.toNat) (c:=(aP size).toNat) i j ω ω ω;generalize Ab.smallA h t.toNat (aP size).toNat=r at s d a |-;by_cases e:r.2<0
  ·rw[CD e]at a |-
   exact⟨d.ci,λ_=>⟨d.ob,d.kp,s.nx,rfl⟩,λe=>by cases e⟩
  rw[CC e]at a |-;obtain⟨w,D⟩:=a;obtain⟨y,-⟩:=s.yes ω;have A:=CI.addO d.ci r.2 size t;refine⟨A,λe=>absurd rfl e,λ_=>⟨?_,by show r.1.b+1=h.b+1;rw[s.nx],ω,ω,by show 0<=r.2;omega⟩⟩;have:=Vq.of (h:=h) (g:=r.1) (x:=⟨r.1.b,r.2,size,t⟩) y d.ci w (f.keep w D) A (λp _=>rfl) (λ_ _=>rfl) (λo=>cL) (Pm y) rfl rfl d.ob d.kp;rw[s.nx]at this;exact this
 rw[CC b];have E:9<=size:=by
  unfold aP at b
  repeat' split at b<;>omega
 exact CI.largeA i f j ⟨E,ω⟩ ω ω ω
def r7(k:am)(a v:Int)(f c:Nat):cl (dD k a v) f c=cl k f c\/(cl (dD k a v) f c=v/\f=dG k a/\c=(a % 16).toNat):=by
 unfold cl dD setCell;simp only[bz];by_cases e:dG k a=f/\f<k.F.X.V.length
 ·rw[CD e,bz]
  by_cases b:(a % 16).toNat=c/\c<(nth k.F.X.V (dG k a)).length
  ·rw[CD b];exact .inr ⟨rfl,e.1.symm,b.1.symm⟩
  rw[CC b,e.1];exact .inl rfl
 rw[CC e];exact .inl rfl
variable{v:Int}
def BD(c:aF k=true)(e:(af k.F.Q (a / 16)).e≠0):cl (dD k a v) (dG k a) (a % 16).toNat=v:=by
 have d:=(gW c e).1;have b:=(xN c (f:=dG k a) d).1;unfold cl dD setCell;show nth (nth (List.set _ _ _) _) _=v;rw[bz,CD ⟨rfl,d⟩,bz,CD ⟨rfl,by rw[b];omega⟩]
def Ma(d:qW h o f c):qW {h with G:=dD h.G a v} o f c:=by
 obtain⟨j,e,g,b⟩:=d;exact⟨j,e,g,⟨b.m,b.f,b.c⟩⟩
def TV(d:aX h E)(q:o∈h.O){x:Int}(y:0<=x/\x<o.q)(A:0<=j/\j<o.q)(h1:At h.G (o.Addr+x) f c)(g:At h.G (o.Addr+j) f c):x=j:=by
 have B:=h1.c;have C:=g.c;rcases d.oow o q with⟨s,r,t,u⟩|⟨l,k,D,F⟩
 ·have i:=aK (d.L.sok s r)
  have a:=EW (n:=o.q) ω;rw[<-u]at a;obtain⟨G,H,w,-⟩:=t;rcases bZ i.2.2 with e|e|e|e<;>rw[e]at w a<;>omega
 have p:=d.L.lok l k;unfold bK at p;rw[C0]at p;have:=mH d k (b:=o.Addr+x) ω ω h1 g.m g.f;omega
def CI.store(b:aX h E)(A:JI h)(N:CI h)(O:i<h.O.length)(P:0<=j/\j<=(nth h.O i).q - 1)(Y:(af (tbl h) (((nth h.O i).Addr+j) / 16)).e≠1):CI {h with G:=dD h.G ((nth h.O i).Addr+j) v}/\
  ∀o∈h.O,∀x:Int,0<=x->x<o.q->ew (dD h.G ((nth h.O i).Addr+j) v) (o.Addr+x)=if o=nth h.O i/\x=j then v else ew h.G (o.Addr+x):=by
 have g:=au O;have F:=(cX b g P).1;have G:=At.mk' b.ker F;have d:qW h (nth h.O i) _ _:=⟨j,P.1,ω,G⟩
 have r:=kq b g d;have Z:(((nth h.O i).Addr+j) % 16).toNat<16:=ω
 have key:∀p:Int,(af (tbl h) p).e≠0->(af (tbl h) p).j≠(dG h.G ((nth h.O i).Addr+j):Nat)->∀c,cl (dD h.G ((nth h.O i).Addr+j) v) (bN h.G p) c=cl h.G (bN h.G p) c:=λp Q B c=>by
  rcases r7 h.G ((nth h.O i).Addr+j) v (bN h.G p) c with e|⟨-,e,-⟩
  ·exact e
  refine absurd ?_ B;rw[<-e];exact mr b.ker Q
 refine⟨N.keep rfl rfl (λq h=>h) (λ_=>⟨rfl,rfl⟩) (λf c _ _=>?_) (λo g f c _ d _=>⟨o,g,Ma d⟩) (λH c C=>?_) (λ_ s' R _=>⟨s',R,rfl,rfl,λ_ h=>h⟩),λo g x S W=>?_⟩
 ·rcases r7 h.G ((nth h.O i).Addr+j) v f c with e|⟨-,u,w⟩
  ·exact .inl e.symm
  refine .inr ⟨_,g,?_⟩;rw[u,w];exact Ma d
 ·obtain⟨jm1,jm2⟩:=b.jobM H
  have J:c<16:=by
   obtain⟨k,lk,e⟩:=aN (List.mem_of_mem_take C);have:=gu (dM.1 (b.job H).1).1 lk;omega
  constructor
  ·rcases r7 h.G ((nth h.O i).Addr+j) v (bN h.G h.Y.W.a3) c with e|⟨-,u,w⟩
   ·exact e
   exfalso;rw[<-u,<-w]at r;exact tH b A N H r J (List.mem_of_mem_take C) (mr b.ker jm1)
  rcases r7 h.G ((nth h.O i).Addr+j) v (bN h.G h.Y.W.a0) c with e|⟨-,u,w⟩
  ·exact e
  exfalso;rw[<-u,<-w]at r;refine He b A N H r ?_ C (mr b.ker jm2);rcases b.oow _ g with⟨s,hs,s1,s2⟩|⟨l,X,l1,-⟩
  ·have T:=aK (b.L.sok s hs)
   have K:=EW (n:=(nth h.O i).q) ω;rw[<-s2]at K;obtain⟨g1,g2,g3,-⟩:=s1;have Q:((nth h.O i).Addr+j) / 16=(nth h.O i).Addr / 16:=by rcases bZ T.2.2 with e|e|e|e<;>rw[e]at g3 K<;>omega
   rw[<-Q];exact Y
  intro M;obtain⟨a1,a2,a3⟩:=nz (t:=tbl h) (p:=(nth h.O i).Addr / 16) ω;rw[a3]at M;have h3:=(N.m1 _ M).2.1;obtain⟨-,-,y,hy,-,ey,-⟩:=A.sp H;have hpl:=aR (b.L.lok l X);exact b.L.dis y hy l X 0 ω ω
 have U:=(cX b g (k:=x) ⟨S,ω⟩).1;have a:=At.mk' b.ker U;have D:At (dD h.G ((nth h.O i).Addr+j) v) (o.Addr+x) (dG h.G (o.Addr+x)) ((o.Addr+x) % 16).toNat:=⟨a.m,a.f,a.c⟩
 rw[D.cell,a.cell];split
 ·rename_i e
  obtain⟨u,w⟩:=e;subst u w;exact BD b.ker F
 rename_i B;rcases r7 h.G ((nth h.O i).Addr+j) v (dG h.G (o.Addr+x)) ((o.Addr+x) % 16).toNat with e|⟨-,u,w⟩
 ·exact e
 exfalso;rw[u,w]at a;have V:qW h o _ _:=⟨x,S,W,a⟩
 have eo:=LG b g (au O) V d;subst eo;refine B ⟨rfl,?_⟩;exact TV b (au O) ⟨S,W⟩ ⟨P.1,ω⟩ a G
end Go.Proofs.YtiopgblagimpmaaGreat.Ab
