/- The library's Insert of one element, at rows of several cells. No condition. -/
import Derived.Test.YtiopgblagimpmaaGreatKAc
import Derived.Test.YtiopgblagimpmaaGreatKAf
import Derived.Lib.Overlaps
import Derived.Lib.AppendZerosOnto
import Derived.Laws.NewBlocks
import Derived.Laws.Externs
import Derived.Test.YtiopgblagimpmaaGreatKAh
import Derived.Test.YtiopgblagimpmaaGreatKAe
import Derived.Test.YtiopgblagimpmaaGreatKAg
import Derived.ProofKit
import Derived.OpenShut
import Derived.Deep.Slices
import Derived.Deep.Fields
import Derived.ChangeSame
import Derived.WideShapes
set_option linter.unusedVariables false
set_option linter.defProp false
set_option linter.unusedSimpArgs false
set_option linter.constructorNameAsVariable false
namespace Go.Proofs.YtiopgblagimpmaaGreat.Ab
open Go.RowKit
set_option maxRecDepth 20000
set_option maxHeartbeats 4000000
variable{P:Program}
def nM(w:World)(dT sT ty elem:TypeId)(k b o dLen dCap:Nat)(a:Addr)(sLen sCap n:Nat)(cs:List Value)(h:P.underlying dT=some (.slice elem))(g:(P.info? elem).map (·.size)=some k)(l:Nat.min sLen dLen=n)(p:cs.length=n*k)(c:∀j v,cs[j]? = some v->w.cell? (a.add j)=some v)(q:∀j,j<cs.length->(w.cell? ⟨b,o+j,none⟩).isSome=true)(r:∀j,j<cs.length->w.frozen? ⟨b,o+j,none⟩ = false)(h1:∀v∈cs,v.oneCell'=true) :
  (Builtin.copy_ #[dT,sT] ty #[.slice (some ⟨b,o,none⟩) dLen dCap,.slice (some a) sLen sCap]).run P w=.ok (goInt n) (w.setCells b o cs):=by
 have d:=run_loadCells_list (P:=P) w a cs c;have e:=run_storeCells_cells (P:=P) b o cs 0 w (by simpa using q) (by simpa using r) h1;rw[p]at d;cases f:P.info? elem with
 | none=>simp[f]at g
 | some i=>
  have t:i.size=k:=by simpa[f] using g
  simp[Builtin.copy_,run_underlying h,Builtin.lenOf,Builtin.firstCells,sizeOf,typeInfo,f,t,l,d,e]
variable{Q:Exit->Act->World->Prop}{ops:Array Oper}
def mI(w:World){rest:List Oper}{o:Oper}{a:Act}(b:o.guard=none)(d s:Operand)(t c:TypeId)(g:o.op=.call {callee:=.builtin .copy,args:=#[d,s],argTypes:=#[t,c]})(v u:Value)(i:a.eval d=v)(j:a.eval s=u){e:Value}{f:World}(k:(Builtin.copy_ #[t,c] o.type #[v,u]).run P w=.ok e f)(h:wpList P ops Q rest (a.put o.dst e) f):wpList P ops Q (o::rest) a w:=by
 refine wpList_plain b λ_ l=>?_
 unfold Oper.wp execOp;simp only[g,resolve,invoke,builtin,Sem.run_bind,Sem.run_pure,Result.andThen_ok,List.map_toArray,I6,List.map_nil,i,j,k];exact l _ _ h
variable{w:World}
def wc{o:Oper}{a:Act}{K:Act->World->Prop}{E:Prop}(f:o.guard=none)(d x:Operand)(dT sT:TypeId)(b:o.op=Op.call {callee:=Callee.builtin Builtin.copy,args:=#[d,x],argTypes:=#[dT,sT]})(v u:Value)(g:a.eval d=v)(h:a.eval x=u){c:Value}{e:World}(i:(Builtin.copy_ #[dT,sT] o.type #[v,u]).run P w=.ok c e)(j:K (a.put o.dst c) e) :
  if Region.wanted o (yielded ops a.tmps)=true then Oper.wp P o a w K Q else E:=by
 have k:Region.wanted o (yielded ops a.tmps)=true:=by simp[Region.wanted,f]
 rw[CC k];unfold Oper.wp;simp[execOp,b,resolve,invoke,builtin,g,h,i,Result.andThen];exact j
def Lf(b:Nat):∀(vs:List Value)(o:Nat)(w:World),(w.setCells b o vs).drew=w.drew.setCells b o vs
 | [],_,_=>rfl
 | v::r,o,w=>by rw[World.setCells,World.setCells,Lf b r];rfl
def BG(b:Nat)(vs:List Value)(o:Nat)(w:World)(h:∀j,j<vs.length->(w.cell? ⟨b,o+j,none⟩).isSome=true)(q:Nat)(a:(w.cell? ⟨b,q,none⟩).isSome=true):((w.setCells b o vs).cell? ⟨b,q,none⟩).isSome=true:=by
 by_cases c:o<=q/\q<o+vs.length
 ·have:=World.cell?_setCells_in b vs o w h (q - o) ω
  rw[show o+(q - o)=q by omega]at this;rw[this];rfl
 rw[World.cell?_setCells_out b vs o w ⟨b,q,none⟩ (λ_ _=>by show q<o\/o+vs.length<=q;omega)];exact a
variable{g:Nat}
def FJ{z:Value}(a:cel w g 0=some z)(d:fro w g 0=NF):∃t k,w.shape? g=some (t,k)/\k≠0/\w.frozen? ⟨g,0,none⟩ = false/\w.frozen? ⟨g,k,none⟩ = false:=by
 have f:=Z0 Prod.fst d;have b:=Z0 Prod.snd d;simp only[fro]at f b;unfold mp at b;unfold cel World.cell? at a;unfold World.shape?;simp only at a;cases e:w.heap[g]? with
 | none=>rw[e]at a;cases a
 | some x=>
  rw[e]at a b;cases x with
  | cells c t i=>
   obtain⟨j,l⟩:=i;simp only[Option.isSome_none,Bool.false_eq_true,if_false]at a;have o:0<c.size:=by
    rcases Nat.eq_zero_or_pos c.size with h|h
    ·rw[Array.getElem?_eq_none ω]at a;cases a
    exact h
   refine⟨t,c.size,rfl,ω,f,?_⟩;unfold World.frozen?;simp only[e];simp only at b;split at b
   ·cases b
   rename_i n;have:¬(j<=c.size/\c.size<l):=n;simp only[Bool.and_eq_false_imp,C0,t5];omega
  | _=>cases a
variable{e k:Nat}
def GW{tS tR a b:Nat}{z h:Value}(i:P.underlying tS=some (.slice e))(j:∀w,(Go.sizeOf e).run P w=.ok k w)(c:a≠b)(h1:cel w a 0=some z)(l:fro w a 0=NF)(n:cel w b 0=some h)(o:fro w b 0=NF)(x la d f g:Nat) :
  (Extern.SlicesOverlaps.overlaps #[tS,tS] #[tR] #[.slice (some ⟨a,0,none⟩) la d,.slice (some ⟨b,x,none⟩) f g]).run P w=.ok (.bool false) w:=by
 obtain⟨tA,kA,p,y,q,r⟩:=FJ h1 l;obtain⟨tB,kB,t,u,-,-⟩:=FJ n o;exact Lib.run_overlaps_apart w tS tR e i k j ⟨a,0,none⟩ ⟨b,x,none⟩ la d f g c tA tB kA kB p t u q r
structure zw(w w':World)(g G k n c c' i:Nat)(olds vs:List Value):Prop where
 keep:bG (λb o=>b=g/\o<c*k) w w'
 cel:∀q u,(olds.take (i*k)++vs++olds.drop (i*k))[q]? = some u->cel w' G q=some u
 all:∀q,q<c'*k->(∃z,Ab.cel w' G q=some z/\z.oneCell'=true)/\fro w' G q=NF
 at_:(G=g/\c'=c)\/(w.heap.size<=G/\G<w'.heap.size)
variable{i n:Nat}{olds vs:List Value}
def FU{q:Nat}{u:Value}(j:i<n)(d:olds.length=n*k)(b:vs.length=k)(h:(olds.take (i*k)++vs++olds.drop (i*k))[q]? = some u) :
  q<(n+1)*k/\((q<i*k/\olds[q]? = some u)\/(i*k<=q/\q<i*k+k/\vs[q - i*k]? = some u)\/(i*k+k<=q/\(olds.drop (i*k))[q - (i*k+k)]? = some u)):=by
 have e:i*k<=n*k:=W7 k ω;have l:(n+1)*k=n*k+k:=by rw[Nat.add_mul,Nat.one_mul]
 have a:(olds.take (i*k)).length=i*k:=by rw[C2];omega
 have f:=(Z2.1 h).1;simp only[X3,a,b,Y3,d]at f;refine⟨ω,?_⟩;by_cases c:q<i*k
 ·rw[Y5,Y4 ω,List.getElem?_take,CC c]at h
  exact .inl ⟨c,h⟩
 by_cases g:q<i*k+k
 ·rw[Y4 (by rw[X3];omega),Z4 ω,a]at h
  exact .inr (.inl ⟨ω,g,h⟩)
 rw[Z4 (by rw[X3];omega),X3,a,b]at h;exact .inr (.inr ⟨ω,h⟩)
variable{c:Nat}
def Hu(B:i<n)(C:n+1<=c)(y:olds.length=n*k)(D:vs.length=k)(E:∀t u,olds[t]? = some u->cel w g t=some u)(h1:∀u∈olds,u.oneCell'=true)(F:∀u∈vs,u.oneCell'=true)(a:∀q,q<c*k->(∃z,cel w g q=some z/\z.oneCell'=true)/\fro w g q=NF) :
  zw w ((w.drew.setCells g ((i+1)*k) (olds.drop (i*k))).setCells g (i*k) vs) g g k n c c i olds vs:=by
 have G:i*k<=n*k:=W7 k ω;have H:(n+1)*k<=c*k:=W7 k C;have N:(n+1)*k=n*k+k:=by rw[Nat.add_mul,Nat.one_mul]
 have O:(i+1)*k=i*k+k:=by rw[Nat.add_mul,Nat.one_mul]
 have J:(olds.drop (i*k)).length=n*k - i*k:=by rw[Y3,y]
 have P:∀b q,cel w.drew b q=cel w b q:=λ_ _=>rfl
 have in1:∀j,j<(olds.drop (i*k)).length->∃z,cel w.drew g ((i+1)*k+j)=some z:=λj p=>by
  obtain⟨⟨z,r,-⟩,-⟩:=a ((i+1)*k+j) ω;exact⟨z,r⟩
 have all1:∀q,q<c*k->∃z,cel (w.drew.setCells g ((i+1)*k) (olds.drop (i*k))) g q=some z/\z.oneCell'=true:=λq e=>by
  by_cases h:(i+1)*k<=q/\q<(i+1)*k+(olds.drop (i*k)).length
  ·obtain⟨u,f⟩ : ∃u,(olds.drop (i*k))[q - (i+1)*k]? = some u:=⟨_,X2 ω⟩
   have d:=br in1 f;rw[show(i+1)*k+(q - (i+1)*k)=q by omega]at d;exact⟨u,d,h1 u (List.mem_of_mem_drop (O2 f))⟩
  rw[bf (λx=>h x.2)];exact(a q e).1
 have in2:∀j,j<vs.length->∃z,cel (w.drew.setCells g ((i+1)*k) (olds.drop (i*k))) g (i*k+j)=some z:=λj p=>by
  obtain⟨z,r,-⟩:=all1 (i*k+j) ω;exact⟨z,r⟩
 refine⟨?_,λq u e=>?_,λq e=>⟨?_,by rw[bP,bP];exact(a q e).2⟩,.inl ⟨rfl,rfl⟩⟩
 ·have K:=eA (g:=g) (X:=λb o=>b=g/\o<c*k) (olds.drop (i*k)) ((i+1)*k) w.drew λj p=>⟨rfl,ω⟩
  have L:=eA (g:=g) (X:=λb o=>b=g/\o<c*k) vs (i*k) (w.drew.setCells g ((i+1)*k) (olds.drop (i*k))) λj p=>⟨rfl,ω⟩
  exact((y6 w).up λ_ _ h=>h.elim).trans (K.trans L λ_ _ h=>.inr h) λ_ _ h=>.inr h
 ·obtain⟨-,⟨A,l⟩|⟨A,l,M⟩|⟨A,l⟩⟩:=FU B y D e
  ·rw[bf ω,bf ω];exact E q u l
  ·have d:=br in2 M
   rwa [show i*k+(q - i*k)=q by omega]at d
  rw[bf ω];have d:=br in1 l;rw[show(i+1)*k+(q - (i*k+k))=q by omega]at d;exact d
 by_cases h:i*k<=q/\q<i*k+vs.length
 ·obtain⟨u,f⟩ : ∃u,vs[q - i*k]? = some u:=⟨_,X2 ω⟩
  have d:=br in2 f;rw[show i*k+(q - i*k)=q by omega]at d;exact⟨u,d,F u (O2 f)⟩
 rw[bf (λx=>h x.2)];exact all1 q e
def Jl{a:World}{G:Nat}{Z:Array Value}(y:a.heap=(w.alloc (.cells ((olds.take (i*k)).toArray++Builtin.zeroCells Z (n+1 - i)++Builtin.zeroCells Z (G - (n+1))) e)).heap)(Q:a.os=w.os)(R:a.tape=w.tape)(S:a.output=w.output)(hi:i<n)(hG:n+1<=G)(hZ:Z.size=k)(T:∀v∈Z.toList,v.oneCell'=true)(U:olds.length=n*k)(d:vs.length=k)(h1:∀u∈olds,u.oneCell'=true)(h2:∀u∈vs,u.oneCell'=true) :
  zw w ((a.setCells w.heap.size (i*k) vs).setCells w.heap.size ((i+1)*k) (olds.drop (i*k))) g w.heap.size k n c G i olds vs:=by
 have V:i*k<=n*k:=W7 k ω;have hGk:(n+1)*k<=G*k:=W7 k hG;have e1:(n+1)*k=n*k+k:=by rw[Nat.add_mul,Nat.one_mul]
 have e2:(i+1)*k=i*k+k:=by rw[Nat.add_mul,Nat.one_mul]
 have hdl:(olds.drop (i*k)).length=n*k - i*k:=by rw[Y3,U]
 generalize hcells:(olds.take (i*k)).toArray++Builtin.zeroCells Z (n+1 - i)++Builtin.zeroCells Z (G - (n+1))=cells at y;have C:∀b q,cel a b q=cel (w.alloc (.cells cells e)) b q:=λb q=>by unfold cel World.cell?;rw[y]
 have D:∀b q,fro a b q=fro (w.alloc (.cells cells e)) b q:=λb q=>by unfold fro World.frozen? mp;rw[y]
 have hsz:cells.size=G*k:=by
  rw[<-hcells];simp only[Array.size_append,List.size_toArray,C2,size_zeroCells,hZ,U,Nat.min_eq_left V];rw[<-Nat.add_mul,<-Nat.add_mul]
  congr 1;omega
 have E:∀v∈cells.toList,v.oneCell'=true:=by
  have F:∀m,∀v∈(Builtin.zeroCells Z m).toList,v.oneCell'=true:=λm v d=>by
   rw[Array.mem_toList_iff]at d;simp only[Builtin.zeroCells,Array.mem_map,Array.mem_range]at d;obtain⟨j,A,rfl⟩:=d;have B:0<Z.size:=by rcases Nat.eq_zero_or_pos Z.size with h|h;rw[h]at A;simp at A;exact h
   have H:j % Z.size<Z.size:=Nat.mod_lt _ B;rw[getElem!_pos Z (j % Z.size) H];exact T _ (Array.mem_toList_iff.2 (Array.getElem_mem H))
  intro v d;rw[<-hcells]at d;simp only[Array.toList_append,O3]at d;rcases d with(d|d)|d
  ·exact h1 v (List.mem_of_mem_take d)
  ·exact F _ v d
  exact F _ v d
 have l:∀q,cel a w.heap.size q=cells[q]?:=λq=>(C _ _).trans (ir w cells e q)
 have J:∀q,q<G*k->∃z,cel a w.heap.size q=some z/\z.oneCell'=true:=λq p=>by
  have K:q<cells.size:=ω
  exact⟨cells[q],by rw[l,X6 K],E _ (Array.mem_toList_iff.2 (Array.getElem_mem K))⟩
 have r:∀q u,q<i*k->olds[q]? = some u->cells[q]? = some u:=λq u p t=>by
  rw[<-hcells,Array.append_assoc,Array.getElem?_append_left (by simp;omega)];simp[p,t]
 have L:∀q,fro a w.heap.size q=NF:=λq=>(D _ _).trans (iv w cells e q)
 have hK:bG NO w a:=by
  have B:bG NO w (w.alloc (.cells cells e)):=cM w _;exact⟨Q,R,S,by rw[y];exact B.size,λb M N=>by rw[y];exact B.blk b M N,λb o M N=>(C b o).trans (B.cel b o M N),λb o M N=>(D b o).trans (B.fro b o M N)⟩
 have hS:a.heap.size=w.heap.size+1:=by rw[y];exact jS w _
 have k1:=eA (g:=w.heap.size) (X:=λb o=>b=w.heap.size) vs (i*k) a λj A=>rfl
 have k2:=eA (g:=w.heap.size) (X:=λb o=>b=w.heap.size) (olds.drop (i*k)) ((i+1)*k) (a.setCells w.heap.size (i*k) vs) λj A=>rfl
 have in1:∀j,j<vs.length->∃z,cel a w.heap.size (i*k+j)=some z:=λj A=>by
  obtain⟨z,W,-⟩:=J (i*k+j) ω;exact⟨z,W⟩
 have all1:∀q,q<G*k->∃z,cel (a.setCells w.heap.size (i*k) vs) w.heap.size q=some z/\z.oneCell'=true:=λq p=>by
  by_cases h:i*k<=q/\q<i*k+vs.length
  ·obtain⟨u,t⟩ : ∃u,vs[q - i*k]? = some u:=⟨_,X2 ω⟩
   have f:=br in1 t;rw[show i*k+(q - i*k)=q by omega]at f;exact⟨u,f,h2 u (O2 t)⟩
  rw[bf (λx=>h x.2)];exact J q p
 have in2:∀j,j<(olds.drop (i*k)).length->∃z,cel (a.setCells w.heap.size (i*k) vs) w.heap.size ((i+1)*k+j)=some z:=λj A=>by
  obtain⟨z,W,-⟩:=all1 ((i+1)*k+j) ω;exact⟨z,W⟩
 have O:w.heap.size<((a.setCells w.heap.size (i*k) vs).setCells w.heap.size ((i+1)*k) (olds.drop (i*k))).heap.size:=by
  have:=k1.size;have:=k2.size;omega
 refine⟨?_,λq u p=>?_,λq p=>⟨?_,by rw[bP,bP];exact L q⟩,.inr ⟨V3 _,O⟩⟩
 ·exact(hK.up λ_ _ h=>h.elim).trans (k1.trans k2 λ_ _ h=>.inr h) λ_ _ h=>.inl (by rw[h];exact V3 _)
 ·obtain⟨-,⟨Y,P⟩|⟨Y,P,a3⟩|⟨Y,P⟩⟩:=FU hi U d p
  ·rw[bf ω,bf ω,l];exact r q u Y P
  ·rw[bf ω]
   have f:=br in1 a3
   rwa [show i*k+(q - i*k)=q by omega]at f
  have f:=br in2 P;rw[show(i+1)*k+(q - (i*k+k))=q by omega]at f;exact f
 by_cases h:(i+1)*k<=q/\q<(i+1)*k+(olds.drop (i*k)).length
 ·obtain⟨u,t⟩ : ∃u,(olds.drop (i*k))[q - (i+1)*k]? = some u:=⟨_,X2 ω⟩
  have f:=br in2 t;rw[show(i+1)*k+(q - (i+1)*k)=q by omega]at f;exact⟨u,f,h1 u (List.mem_of_mem_drop (O2 t))⟩
 rw[bf (λx=>h x.2)];exact all1 q p
structure N1(P:Program)(f k T b:Nat):Prop where
 has:JA P f
 end_:∀(w w1:World)(base:Option Addr)(n c vb m vc:Nat)(r:Value),m=1->n<=c->n<=1073741824->(base=none->n=0/\c=0)->(Builtin.append_ #[T,T] T #[.slice base n c,.slice (some ⟨vb,0,none⟩) m vc]).run P w=.ok r w1->
  Calls P f #[.slice base n c,.int .i64 n,.slice (some ⟨vb,0,none⟩) m vc] w λe w'=>e=.returned r/\w'=w1
 mid:∀(w:World)(g n c i vb m vc:Nat)(olds vs:List Value),m=1->i<n->n<=c->n<=1073741824->b<=1000->olds.length=n*k->vs.length=k->(∀t u,olds[t]? = some u->cel w g t=some u)->(∀t u,vs[t]? = some u->cel w vb t=some u)->
  (∀u∈olds,u.oneCell'=true)->(∀u∈vs,u.oneCell'=true)->(∀q,q<c*k->(∃z,cel w g q=some z/\z.oneCell'=true)/\fro w g q=NF)->fro w vb 0=NF->vb≠g->
  Calls P f #[.slice (some ⟨g,0,none⟩) n c,.int .i64 i,.slice (some ⟨vb,0,none⟩) m vc] w λe w'=>∃G c',e=.returned (.slice (some ⟨G,0,none⟩) (n+1) c')/\n+1<=c'/\zw w w' g G k n c c' i olds vs
variable{α:Type}
def inse(xs:List α)(i:Nat)(y:α):List α:=xs.take i++y::xs.drop i
def F7(xs:List α)(i:Nat)(y:α):(inse xs i y).length=xs.length+1:=by
 unfold inse;rw[X3,List.length_cons,C2,Y3];omega
def Ac{xs:List α}{y z:α}(h:z∈inse xs i y):z=y\/z∈xs:=by
 unfold inse at h;rcases O3.1 h with h|h
 ·exact .inr (List.mem_of_mem_take h)
 rcases List.mem_cons.1 h with h|h
 ·exact .inl h
 exact .inr (List.mem_of_mem_drop h)
def ye{β:Type}(e:α->β)(xs:List α)(i:Nat)(y:α):inse (xs.map e) i (e y)=(inse xs i y).map e:=by
 unfold inse;simp only[Z5,I6,O4,V4]
variable{row:List C}{rows:List (List C)}
def N6{a b:Nat}{r:List C}{c:C}(g:i<=rows.length)(A:olds.length=rows.length*k)(n:vs.length=k)(o:b<k)(j:∀(a b:Nat)(r:List C)(c:C),rows[a]? = some r->r[b]? = some c->∃z,c=C.v z/\olds[a*k+b]? = some z)(p:∀(b:Nat)(c:C),row[b]? = some c->∃z,c=C.v z/\vs[b]? = some z)(h1:(inse rows i row)[a]? = some r)(e:r[b]? = some c):∃z,c=.v z/\(olds.take (i*k)++vs++olds.drop (i*k))[a*k+b]? = some z:=by
 have q:i*k<=rows.length*k:=W7 k g;have l:(olds.take (i*k)).length=i*k:=by rw[C2];omega
 unfold inse at h1;by_cases h:a<i
 ·rw[Y4 (by rw[C2];omega),List.getElem?_take,CC h]at h1
  obtain⟨z,rfl,d⟩:=j a b r c h1 e;have f:a*k+b<i*k:=dQ h o;exact⟨z,rfl,by rw[Y5,Y4 ω,List.getElem?_take,CC f];exact d⟩
 rw[Z4 (by rw[C2];omega),C2,Nat.min_eq_left g]at h1;have t:i*k<=a*k:=W7 k ω;by_cases u:a=i
 ·subst u
  simp only[Nat.sub_self,List.getElem?_cons_zero,C1]at h1;subst h1;obtain⟨z,rfl,d⟩:=p b c e;exact⟨z,rfl,by rw[Y4 (by rw[X3];omega),Z4 ω,l,show a*k+b - a*k=b by omega];exact d⟩
 obtain⟨m,rfl⟩ : ∃m,a=i+(m+1):=⟨a - i - 1,ω⟩
 rw[show i+(m+1) - i=m+1 by omega,List.getElem?_cons_succ,List.getElem?_drop]at h1;obtain⟨z,rfl,d⟩:=j (i+m) b r c h1 e;have w:(i+(m+1))*k=i*k+k+m*k:=by rw[<-Nat.add_assoc,Nat.add_mul,Nat.add_mul,Nat.one_mul];omega
 have y:(i+m)*k=i*k+m*k:=Nat.add_mul ..;refine⟨z,rfl,?_⟩;rw[Z4 (by rw[X3];omega),X3,l,n,List.getElem?_drop,w,show i*k+(i*k+k+m*k+b - (i*k+k))=i*k+m*k+b by omega,<-y];exact d
def Ul(h:Ty rows):Qp rows:=by
 have b:∀r:List C,(∀c∈r,∃z,c=C.v z)->g0 r:=by
  intro r
  induction r with
  | nil=>exact λ_=>trivial
  | cons c r a=>intro h;obtain⟨z,rfl⟩:=h c (by simp);exact⟨trivial,a λc d=>h c (by simp[d])⟩
 induction rows with
 | nil=>exact trivial
 | cons r f a=>exact⟨b r (h r (by simp)),a λr e=>h r (by simp[e])⟩
variable{f:Nat}
def J9{T:Nat}{d:TypeInfo}{z0:Value}(ht:P.underlying T=some (.slice e))(hi0:P.info? e=some d)(hk0:d.size=k)(hz:d.zero=some z0)(hzs:z0.cells.size=d.size)(hz1:∀x∈z0.cells.toList,x.oneCell'=true)(hby:d.bytes<=1000)(hf:N1 P f k T d.bytes)(hi:i<=rows.length)(hk:∀r∈rows,r.length=k)(hr:row.length=k)(hpk:0<k)(hsc:Ty rows)(hsr:Ty [row])(hlen:rows.length+1<=1073741824) :
  aW P f false [.mut none [.s .own rows],.val none [I (i:Nat)],.mut none [.s .own [row]]] [.mut none [.x],.val none [I (i:Nat)],.mut none [.x]] .one [.s .own (inse rows i row)]:=by
 subst hk0;refine⟨hf.has,λw S V vs hS hV hVV R=>?_⟩
 match vs,R with
 | [v,v1,v2],⟨R,hA1,hA2,_⟩=>
  have E:=bC.rep1 (show bC w S (V 0) none [C.s .own rows] v from R);have e1:v1=.int .i64 (i:Nat):=by
   have:=bC.rep1 (show bC w S NO none [C.v (.int .i64 (i:Nat))] v1 from hA1);cases this;rfl
  have N:=bC.rep1 (show bC w S (V 2) none [C.s .own [row]] v2 from hA2);subst e1;have hk2:∀r∈[row],r.length=d.size:=λr H=>by simp only[V1]at H;subst H;exact hr
  have hsc':Ty (inse rows i row):=λr H=>(Ac H).elim (λh=>hsr r (by simp[h])) (hsc r)
  have O:∀(w1:World)(vv:Value)(X:af),bG (λb o=>∃i,V i b o) w w1->(∀b o,X b o->V 0 b o\/V 2 b o\/(w.heap.size<=b/\b<w1.heap.size))->dN w1 S X (.s .own (inse rows i row)) vv->
    ∃v',Ending.returned vv=Ending.returned v'/\bG (λb o=>∃i,V i b o) w w1/\∃(X:af)(V':Nat->af)(S1:af),
   (∀b o,X b o->(∃i,V i b o)\/(b<w1.heap.size/\w.heap.size<=b))/\(∀i b o,V' i b o->(∃i,V i b o)\/(b<w1.heap.size/\w.heap.size<=b))/\
   (∀b o,S1 b o->(false=true/\S b o)\/(∃i,V i b o)\/(b<w1.heap.size/\w.heap.size<=b))/\
   (∀i i',i≠i'->∀b o,V' i b o->¬V' i' b o)/\(∀i b o,X b o->¬V' i b o)/\(∀b o,X b o->¬S1 b o)/\(∀i b o,V' i b o->¬S1 b o)/\
   gd w1 NO .one 1 v'/\cC w1 S1 X [.s .own (inse rows i row)] (cq w1 .one v')/\E5 w1 (λb o=>S b o\/S1 b o) V' [.mut none [.x],.val none [I (i:Nat)],.mut none [.x]] [v,.int .i64 (i:Nat),v2]:=by
   intro w1 vv X D hX hR;have hfr:Rp (.s .own (inse rows i row)):=by simp only[Rp];exact⟨.inl (by simp),Ul hsc'⟩
   exact⟨_,rfl,D,X,λ_=>NO,NO,λb o h=>by
       rcases hX b o h with h|h|h
       · exact .inl ⟨0,h⟩
       · exact .inl ⟨2,h⟩
       · exact .inr ⟨h.2,h.1⟩,λ_ _ _ h=>h.elim,λ_ _ h=>h.elim,λ_ _ _ _ _ h=>h.elim,λ_ _ _ _ h=>h.elim,λ_ _ _ h=>h.elim,λ_ _ _ h=>h.elim,rfl,row1 (hR.fresh hfr),
       ⟨⟨rfl,λ_=>v,rfl,row1 (.x _ _ E.one)⟩,trivial,⟨rfl,λ_=>v2,rfl,row1 (.x _ _ N.one)⟩,trivial⟩⟩
  rcases N.els (by simp) hk2 with⟨h,-⟩|⟨vb,vc,u2,f2,rfl,-,hvc,hcell2,hu2,J⟩
  ·cases h
  simp only[List.length_singleton,Nat.one_mul]at hvc hu2;by_cases Y:i=rows.length
  ·have hreads:pj w (some ⟨vb,0,none⟩) ([row].length*d.size) ((List.range ([row].length*d.size)).map u2):=by
    refine⟨by simp,λh=>(by cases h),λad j u had l=>?_⟩;cases had;rw[Addr.add_lit,O7];rw[W3]at l;cases L:(List.range ([row].length*d.size))[j]? with
    | none=>rw[L]at l;cases l
    | some j'=>
     obtain⟨U,a2⟩:=Z2.1 L;simp only[List.length_singleton,Nat.one_mul,List.length_range,List.getElem_range]at U a2;subst a2;rw[L]at l;simp only[O5,C1]at l;subst l;exact hu2 j U
   obtain⟨v',w1,hrun,hk1,hR⟩:=sF (P:=P) (ty:=T) ht hi0 hz hzs hz1 E hk (V:=V 2) (xr:=[row]) (u2:=u2) (f2:=f2) ⟨J.hk,λq L b o h=>(J.hf q L b o h).1,J.hd,J.hc⟩ (b:=some ⟨vb,0,none⟩) (c:=vc)
    hreads
    (λb o h h'=>hVV 0 2 (by decide) b o h h') (λb o h=>(hV 0 b o h).2) (λb o h=>(hV 0 b o h).1) (λb o h=>(hV 2 b o h).1) hS (by simp;omega) (by
      have:(rows.length+[row].length)*d.bytes<=1073741824*1000:=Nat.mul_le_mul (by simpa using hlen) hby;omega)
   have hins:inse rows i row=rows++[row]:=by unfold inse;rw[Y,I5,List.drop_length]
   rw[<-hins]at hR;have hfin:∀(base:Option Addr)(c:Nat),v=.slice base rows.length c->rows.length<=c->(base=none->rows.length=0/\c=0)->Calls P f #[v,.int .i64 (i:Nat),.slice (some ⟨vb,0,none⟩) 1 vc] w λe W=>e=.returned v'/\W=w1:=λbase c hv hc hb=>by
    subst hv;rw[Y];exact hf.end_ w w1 base rows.length c vb 1 vc v' rfl hc ω hb hrun
   have hgo:Calls P f #[v,.int .i64 (i:Nat),.slice (some ⟨vb,0,none⟩) 1 vc] w λe W=>e=.returned v'/\W=w1:=by
    rcases E.els (by simp) hk with⟨h0,a0,hv⟩|⟨g,Z,u,f',hv,hpos,F,-⟩
    ·exact hfin a0 0 (by rw[hv,h0];rfl) (by rw[h0];exact V3 0) λ_=>⟨by rw[h0];rfl,rfl⟩
    exact hfin _ Z hv F λh=>by cases h
   refine hgo.mono λe W ⟨he,hw⟩=>?_
   subst he hw;exact O W v' _ (hk1.up λb o h=>⟨0,h⟩) (λb o h=>h) hR
  rcases E.els (by simp) hk with⟨h0,a0,hv⟩|⟨g,Z,u,f',rfl,hpos,F,p,hu,hE⟩
  ·rw[h0]at hi Y;simp at hi Y;omega
  have hlt:i<rows.length:=ω
  have A:∀(n j:Nat)(y:Value)(uu:Nat->Value),((List.range n).map uu)[j]? = some y->j<n/\y=uu j:=λn j y uu l=>by
   rw[W3]at l;cases hr:(List.range n)[j]? with
   | none=>rw[hr]at l;cases l
   | some j'=>
    obtain⟨h1,M⟩:=Z2.1 hr;simp at h1 M;subst M;rw[hr]at l;simp only[O5,C1]at l;exact⟨h1,l.symm⟩
  have Q:∀(n j:Nat)(uu:Nat->Value),j<n->((List.range n).map uu)[j]? = some (uu j):=λn j uu l=>by
   rw[W3,I7 l];rfl
  obtain⟨olds,B⟩ : ∃olds,olds=(List.range (rows.length*d.size)).map u:=⟨_,rfl⟩
  obtain⟨vs,hvs⟩ : ∃vs,vs=(List.range d.size).map u2:=⟨_,rfl⟩
  have hol:olds.length=rows.length*d.size:=by rw[B];simp
  have hvl:vs.length=d.size:=by rw[hvs];simp
  have hck:rows.length*d.size<=Z*d.size:=W7 _ F;have hv0:=hcell2 0 (Nat.mul_pos ω hpk);have hg0:=p 0 (Nat.mul_pos ω hpk);have hne:vb≠g:=λh=>by
   subst h;exact hVV 0 2 (by decide) vb 0 hg0.1 hv0.1
  refine(hf.mid w g rows.length Z i vb 1 vc olds vs rfl hlt F ω hby hol hvl (λt y K=>by
      rw[B]at K;obtain⟨U,rfl⟩:=A _ _ _ _ K;exact hu t U) (λt y K=>by
      rw[hvs]at K;obtain⟨U,rfl⟩:=A _ _ _ _ K;exact hu2 t U) (λy K=>by
      rw[B]at K;obtain⟨j,l⟩:=List.getElem?_of_mem K;obtain⟨U,rfl⟩:=A _ _ _ _ l;exact hE.one U) (λy K=>by
      rw[hvs]at K;obtain⟨j,l⟩:=List.getElem?_of_mem K;obtain⟨U,rfl⟩:=A _ _ _ _ l;exact J.one (by simpa using U)) (λq L=>(p q L).2) hv0.2.2 hne).mono λe W ⟨G,c',he,hc',R⟩=>?_
  subst he;have D:bG (λb o=>∃i,V i b o) w W:=R.keep.up λb o ⟨h1,M⟩=>⟨0,by rw[h1];exact(p o M).1⟩
  refine O W _ (λb o=>V 0 b o\/(w.heap.size<=b/\b<W.heap.size)) D (λb o h=>h.elim .inl (λh=>.inr (.inr h))) ?_;refine .own _ .own G d.size (rows.length+1) c' _ (λq=>(cel W G q).getD undef) (λ_=>NO) trivial (F7 ..) (λr H=>(Ac H).elim (λh=>by rw[h];exact hr) (hk r)) hc' ω (λq L=>⟨?_,R.all q L⟩) (λq L=>?_) (λ_ _ _ _ h=>h.elim) (λ_ _ _ _ _ _ _ h=>h.elim) (λa b r c ha hb=>?_)
  ·rcases R.at_ with⟨rfl,rfl⟩|h
   ·exact .inl (p q L).1
   exact .inr h
  ·obtain⟨z,hz',-⟩:=(R.all q (v4 L (W7 _ hc'))).1
   rw[hz'];rfl
  have hbk:b<d.size:=by
   have:r.length=d.size:=(Ac (O2 ha)).elim (λh=>by rw[h];exact hr) (hk r);rw[<-this];exact(Z2.1 hb).1
  have hal:=(Z2.1 ha).1;rw[F7]at hal;obtain⟨y,rfl,K⟩:=N6 (olds:=olds) (vs:=vs) hi hol hvl hbk (λa b r c h1 M=>by
      obtain⟨y,rfl⟩:=hsc r (O2 h1) c (O2 M);have h3:=hE.hc a b r _ h1 M;have h4:=sD rfl hk h1 M;generalize hyy:u (a*d.size+b)=yy at h3;cases h3;exact⟨_,rfl,by rw[B,Q _ _ _ (dQ h4.1 h4.2),hyy]⟩) (λb c M=>by
      obtain⟨y,rfl⟩:=hsr row (by simp) c (O2 M);have h3:=J.hc 0 b row _ rfl M;simp only[Nat.zero_mul,O7]at h3;have h4:=(Z2.1 M).1;generalize hyy:u2 b=yy at h3;cases h3;exact⟨_,rfl,by rw[hvs,Q _ _ _ ω,hyy]⟩) ha hb
  have hz':=R.cel _ y K;simp only[hz',Option.getD_some];obtain⟨z,h5,h6⟩:=(R.all (a*d.size+b) (v4 (dQ hal hbk) (W7 _ hc'))).1;rw[hz']at h5;cases h5;exact .v _ _ h6
set_option maxRecDepth 100000
inductive IQ:Nat->Nat->Nat->Nat->Nat->Prop
 |oq:IQ 67 193 39 74 4
 |lq:IQ 192 343 38 175 3
 |sq:IQ 342 461 37 267 3
section
variable{f v S E k:Nat}
def IQ.u(q:IQ f v S E k) : Tryz.prog.underlying S=some (.slice E):=by cases q<;>kernel_rfl
def IQ.sz(q:IQ f v S E k):∀w,(Go.sizeOf E).run Tryz.prog w=.ok k w:=by cases q<;>exact λ_=>by kernel_rfl
def IQ.pos(q:IQ f v S E k):3<=k/\k<=4:=by cases q<;>exact⟨by decide,by decide⟩
def Q5{E:Nat}{t:TI}{n:Nat}(g:TE E=some t)(i:t.size=n)(j:t.zero.length=n)(k:t.bytes=8*n)(l:(t.zero.map cval).all (λv=>v.oneCell')=true):∃(b:TypeInfo)(c:Value),Tryz.prog.info? E=some b/\b.size=n/\b.zero=some c/\c.cells.size=n/\(∀v∈c.cells.toList,v.oneCell'=true)/\b.bytes=8*n:=by
 have h:=(rp E _ g).1;cases e : Tryz.prog.info? E with
 | none=>rw[e]at h;cases h
 | some x=>
  rw[e]at h;simp only[O5,C1,Prod.mk.injEq]at h;obtain⟨a,o,p⟩:=h;cases d:x.zero with
  | none=>rw[d]at a;cases a
  | some z=>
   rw[d]at a;simp only[O5,C1]at a;refine⟨x,z,rfl,o.trans i,d,?_,λv f=>?_,p.trans k⟩
   ·rw[<-Array.length_toList,a,I1];exact j
   rw[a]at f;exact C4.1 l v f
def Ai(q:IQ f v S E k):∃(a:TypeInfo)(b:Value),Tryz.prog.info? E=some a/\a.size=k/\a.zero=some b/\b.cells.size=k/\(∀v∈b.cells.toList,v.oneCell'=true)/\a.bytes=8*k:=by cases q<;>exact Q5 rfl rfl rfl rfl rfl
def IQ.has(q:IQ f v S E k):JA Tryz.prog f:=by
 cases q
 ·exact⟨_,Tryz.func67,by kernel_rfl,by kernel_rfl⟩
 ·exact⟨_,Tryz.func192,by kernel_rfl,by kernel_rfl⟩
 exact⟨_,Tryz.func342,by kernel_rfl,by kernel_rfl⟩
def Te(q:IQ f v S E k){w:World}{a g m n:Nat}{y p:Value}(o:Nat)(b:a≠g)(r:cel w a 0=some y)(c:fro w a 0=NF)(d:cel w g 0=some p)(h:fro w g 0=NF):∀i j,(callFunc v #[.slice (some ⟨a,0,none⟩) m n,.slice (some ⟨g,o,none⟩) i j]).run Tryz.prog w=.ok (.value (.bool false)) w:=λi j=>by
 have l:=GW (tR:=4) q.u q.sz b r c d h o m n i j;cases q
 ·rw[run_callFunc_extern Tryz.func193 (by kernel_rfl) (by kernel_rfl) (by kernel_rfl) (e:=Extern.SlicesOverlaps.overlaps #[39,39] #[4]) (by kernel_rfl),l];rfl
 ·rw[run_callFunc_extern Tryz.func343 (by kernel_rfl) (by kernel_rfl) (by kernel_rfl) (e:=Extern.SlicesOverlaps.overlaps #[38,38] #[4]) (by kernel_rfl),l];rfl
 rw[run_callFunc_extern Tryz.func461 (by kernel_rfl) (by kernel_rfl) (by kernel_rfl) (e:=Extern.SlicesOverlaps.overlaps #[37,37] #[4]) (by kernel_rfl),l];rfl
def Po(q:IQ f v S E k)(w w1:World)(base:Option Addr)(n c d m g:Nat)(r:Value)(i:m=1)(j:n<=c)(h:n<=1073741824)(l:base=none->n=0/\c=0)(b:(Builtin.append_ #[S,S] S #[.slice base n c,.slice (some ⟨d,0,none⟩) m g]).run Tryz.prog w=.ok r w1) :
  Calls Tryz.prog f #[.slice base n c,.int .i64 n,.slice (some ⟨d,0,none⟩) m g] w λe o=>e=.returned r/\o=w1:=by
 have mixed : Tryz.prog.follows .mixedOrders=true:=by kernel_rfl
 have p:0<m:=ω
 have t:m<=1:=ω
 clear i;have u:¬((m:Int)=0):=ω
 cases q
 case' oq=>go_enter Tryz.func67,Tryz.ntmps67
 case' lq=>go_enter Tryz.func192,Tryz.ntmps192
 case' sq=>go_enter Tryz.func342,Tryz.ntmps342
 all_goals
  cases base with
  | none=>
   obtain⟨rfl,rfl⟩:=l rfl
   go_wp2_with (at_builtin;refine Lib.wpList_append_run _ rfl _ _ _ _ rfl _ _ rfl rfl _ _ b ?_)
   go_ret
   exact⟨rfl,rfl⟩
  | some a=>
   obtain⟨y,B,asp⟩:=a
   go_wp2_with (at_builtin;refine Lib.wpList_append_run _ rfl _ _ _ _ rfl _ _ rfl rfl _ _ b ?_)
   all_goals(go_ret;exact⟨rfl,rfl⟩)
def Jn(q:IQ f v S E k)(w:World)(g n c i p m M:Nat)(olds vs:List Value)(X:m=1)(hi:i<n)(Y:n<=1073741824)(r:n+m<=c)(O:olds.length=n*k)(D:vs.length=k)(ho:∀t u,olds[t]? = some u->cel w g t=some u)(N:∀t u,vs[t]? = some u->cel w p t=some u)(h1:∀u∈olds,u.oneCell'=true)(h2:∀u∈vs,u.oneCell'=true)(b:∀q,q<c*k->(∃z,cel w g q=some z/\z.oneCell'=true)/\fro w g q=NF)(P:fro w p 0=NF)(F:p≠g) :
  Calls Tryz.prog f #[.slice (some ⟨g,0,none⟩) n c,.int .i64 i,.slice (some ⟨p,0,none⟩) m M] w λe w'=>e=.returned (.slice (some ⟨g,0,none⟩) (n+m) c)/\w'=(w.drew.setCells g ((i+m)*k) (olds.drop (i*k))).setCells g (i*k) vs:=by
 have mixed : Tryz.prog.follows .mixedOrders=true:=by kernel_rfl
 have hm1:0<m:=ω
 have hm2:m<=1:=ω
 have hk:=q.pos;have p3:m*k=k:=by rw[X,Nat.one_mul]
 have p1:=Nat.add_mul n m k;have p2:=Nat.add_mul i m k;have p4:=Nat.sub_mul n i k;have p5:i*k+k<=n*k:=by rw[<-Nat.succ_mul];exact W7 k hi
 have p6:(n+m)*k<=c*k:=W7 k r;clear X;have hz1:¬((m:Int)=0):=ω
 have hz2:¬((i:Int)=(n:Int)):=ω
 have hz3:¬((c:Int)<(n:Int)+(m:Int)):=ω
 have G:(Tryz.prog.info? E).map (·.size)=some k:=by obtain⟨i0,z0,e1,e2,-⟩:=Ai q;rw[e1];simp[e2]
 have cell:∀q,q<(n+m)*k->(w.cell? ⟨g,q,none⟩).isSome=true/\w.frozen? ⟨g,q,none⟩ = false:=λq Z=>by
  obtain⟨⟨z,hz,-⟩,hf⟩:=b q ω;exact⟨by show(cel w g q).isSome=true;rw[hz];rfl,Z0 Prod.fst hf⟩
 have Q:∀lb cb,(callFunc v #[.slice (some ⟨p,0,none⟩) m M,.slice (some ⟨g,(i+m)*k,none⟩) lb cb]).run Tryz.prog w=.ok (.value (.bool false)) w:=by
  obtain⟨y,hy⟩ : ∃y,vs[0]? = some y:=⟨_,X2 ω⟩
  obtain⟨⟨y',R,-⟩,T⟩:=b 0 ω;exact Te q _ F (N 0 y hy) P R T
 have l:(olds.drop (i*k)).length=(n - i)*k:=by rw[Y3,O];omega
 have hw1:IntKind.i64.wrap ((i:Int)+(m:Int))=(i:Int)+(m:Int):=by rw[IntKind.wrap_i64];omega
 have hw2:IntKind.i64.wrap ((n:Int)+(m:Int))=(n:Int)+(m:Int):=by rw[IntKind.wrap_i64];omega
 have hb1:(0:Int)<=(i:Int)+(m:Int):=ω
 have hin:i<=n:=ω
 have htn:((i:Int)+(m:Int)).toNat=i+m:=ω
 have hb2:¬(c=i+m):=ω
 have hb3:(i:Int)<=(n:Int)+(m:Int):=ω
 have hb4:¬(c=i):=ω
 have o:∀B C U,(Builtin.copy_ #[S,S] B #[.slice (some ⟨g,(i+m)*k,none⟩) (n+m - (i+m)) C,.slice (some ⟨g,i*k,none⟩) (n+m - i) U]).run Tryz.prog w.drew=.ok (goInt ((n - i:Nat):Int)) (w.drew.setCells g ((i+m)*k) (olds.drop (i*k))):=λB C U=>
  nM w.drew _ _ B E k g ((i+m)*k) (n+m - (i+m)) C ⟨g,i*k,none⟩ (n+m - i) U (n - i) (olds.drop (i*k)) q.u G (by simp only[Nat.min_def];split<;>omega) l
   (λj v a=>by rw[Addr.add_lit];exact ho (i*k+j) v (by rwa [List.getElem?_drop]at a))
   (λj a=>by rw[l]at a;exact(cell _ ω).1) (λj a=>by rw[l]at a;exact(cell _ ω).2) (λv N=>h1 v (List.mem_of_mem_drop N))
 obtain⟨H,d⟩ : ∃H,H=w.drew.setCells g ((i+m)*k) (olds.drop (i*k)):=⟨_,rfl⟩
 have J:∀q,q<(n+m)*k->(H.cell? ⟨g,q,none⟩).isSome=true:=λq Z=>by
  rw[d];exact BG g _ _ _ (λj a=>by rw[l]at a;exact(cell _ ω).1) _ (cell q Z).1
 have K:∀(W:World),(∀x,W.cell? x=H.cell? x)->(∀x,W.frozen? x=H.frozen? x)->∀B C,(Builtin.copy_ #[S,S] B #[.slice (some ⟨g,i*k,none⟩) (n+m - i) C,.slice (some ⟨p,0,none⟩) m M]).run Tryz.prog W=.ok (goInt ((1:Nat):Int)) (W.setCells g (i*k) vs):=λW L V B C=>
  nM W _ _ B E k g (i*k) (n+m - i) C ⟨p,0,none⟩ m M 1 vs q.u G (by simp only[Nat.min_def];split<;>omega) ω
   (λj v a=>by
     rw[Addr.add_lit,O7,L,d,World.cell?_setCells_out g _ _ _ _ (λh _=>absurd h F)];exact N j v a)
   (λj a=>by rw[L];rw[D]at a;exact J _ ω) (λj a=>by rw[V,d,World.frozen?_setCells];rw[D]at a;exact(cell _ ω).2) h2
 rw[<-d]at o;clear cell b p1 p2 p3 p4 p5 p6 hk;cases q
 case' oq=>go_enter Tryz.func67,Tryz.ntmps67
 case' lq=>go_enter Tryz.func192,Tryz.ntmps192
 case' sq=>go_enter Tryz.func342,Tryz.ntmps342
 all_goals
  go_wp2_with (simp only[Q])
  go_region_law_o (refine wc rfl _ _ _ _ rfl _ _ (by simp[Act.eval,Act.put]) (by simp[Act.eval,Act.put]) (o _ _ _) ?_)
  go_wp2_with (at_builtin;refine mI _ rfl _ _ _ _ rfl _ _ rfl rfl (K _ (λ_=>rfl) (λ_=>rfl) _ _) ?_)
  go_ret
  first|exact⟨rfl,rfl⟩|exact⟨rfl,by rw[d]⟩
def LQ(q:IQ f v S E k){L:TypeInfo}{y:Value}(M : Tryz.prog.info? E=some L)(N:L.size=k)(hz0:L.zero=some y)(hzz:y.cells.size=k)(O:L.bytes=8*k)(w:World)(g n c i B m vc:Nat)(olds vs:List Value)(hm:m=1)(hi:i<n)(hn63:n<=1073741824)(hnc:n<=c)(F:c<n+m)(P:olds.length=n*k)(Q:vs.length=k)(ho:∀t u,olds[t]? = some u->cel w g t=some u)(Y:∀t u,vs[t]? = some u->cel w B t=some u)(h1:∀u∈olds,u.oneCell'=true)(h2:∀u∈vs,u.oneCell'=true) :
  Calls Tryz.prog f #[.slice (some ⟨g,0,none⟩) n c,.int .i64 i,.slice (some ⟨B,0,none⟩) m vc] w λe w'=>e=.returned (.slice (some ⟨w.heap.size,0,none⟩) (n+m) (grownCap w (n+m) c E))/\
   w'=(((w.alloc (.cells ((olds.take (i*k)).toArray++Builtin.zeroCells y.cells (n+m - i)++Builtin.zeroCells y.cells (grownCap w (n+m) c E - (n+m))) E)).drew.setCells w.heap.size (i*k) vs).drew).setCells w.heap.size ((i+m)*k) (olds.drop (i*k)):=by
 have mixed : Tryz.prog.follows .mixedOrders=true:=by kernel_rfl
 have hm1:0<m:=ω
 have hm2:m<=1:=ω
 have hk:=q.pos;have p3:m*k=k:=by rw[hm,Nat.one_mul]
 have p1:=Nat.add_mul n m k;have p2:=Nat.add_mul i m k;have p4:=Nat.sub_mul n i k;have p5:i*k+k<=n*k:=by rw[<-Nat.succ_mul];exact W7 k hi
 have p7:=Nat.sub_mul (n+m) i k;clear hm;have hz1:¬((m:Int)=0):=ω
 have hz2:¬((i:Int)=(n:Int)):=ω
 have hz3:(c:Int)<(n:Int)+(m:Int):=ω
 have R:(Tryz.prog.info? E).map (·.size)=some k:=by rw[M];simp[N]
 have hbw:g<w.heap.size:=block_lt_of_cell (ho 0 _ (X2 ω));have hvw:B<w.heap.size:=block_lt_of_cell (Y 0 _ (X2 ω));have T:(n:Int)+(m:Int) - (i:Int)=((n+m - i:Nat):Int):=ω
 have H:i+(n+m - i)=n+m:=ω
 have C:(Builtin.firstCells L.size i (.slice (some ⟨g,0,none⟩) i c)).run Tryz.prog w.drew=.ok (olds.take (i*k)).toArray w.drew:=by
  rw[N];exact run_firstCells_some w.drew k i ⟨g,0,none⟩ i c (olds.take (i*k)) (by rw[C2];omega) (λj v a=>by
    rw[Addr.add_lit,O7];rw[List.getElem?_take]at a;split at a
    · exact ho j v a
    cases a)
 have r:∀d,(Builtin.append_ #[S,3] d #[.slice (some ⟨g,0,none⟩) i c,.int .i64 ((n:Int)+(m:Int) - (i:Int))]).run Tryz.prog w =
   .ok (.slice (some ⟨w.heap.size,0,none⟩) (n+m) (grownCap w (n+m) c E)) (w.drew.alloc (.cells ((olds.take (i*k)).toArray++Builtin.zeroCells y.cells (n+m - i)++Builtin.zeroCells y.cells (grownCap w (n+m) c E - (n+m))) E)):=λd=>by
  have h:=Lib.run_append_grow_zeros w S 3 d E L _ .i64 .i64 q.u Tryz.underlying3 M hz0 (some ⟨g,0,none⟩) i c (olds.take (i*k)) C (n+m - i) ω ω ω ω (by rw[O];exact z5 (Nat.mul_le_mul_left _ (show 8*k<=32 by omega)) ω) (by rw[O,H];exact growslice_fits F (z5 (Nat.mul_le_mul_left _ (show 8*k<=32 by omega)) ω));rw[H]at h;rw[T];exact h
 obtain⟨G,Z⟩ : ∃G,G=grownCap w (n+m) c E:=⟨_,rfl⟩
 obtain⟨ROW,l⟩ : ∃ROW:Array Value,ROW=(olds.take (i*k)).toArray++Builtin.zeroCells y.cells (n+m - i)++Builtin.zeroCells y.cells (G - (n+m)):=⟨_,rfl⟩
 rw[<-Z]at r |-;rw[<-l]at r |-;have hRl:(n+m)*k<=ROW.size:=by
  rw[l];simp only[Array.size_append,List.size_toArray,C2,size_zeroCells,hzz,P];omega
 obtain⟨p,b⟩ : ∃p,p=w.drew.alloc (.cells ROW E):=⟨_,rfl⟩
 rw[<-b]at r;have hN:∀j,j<(n+m)*k->(p.cell? ⟨w.heap.size,j,none⟩).isSome=true:=λj a=>by
  rw[b,World.cell?_alloc_at (w:=w.drew) ROW _ w.heap.size j rfl,X6 ω];rfl
 have U:∀j,p.frozen? ⟨w.heap.size,j,none⟩ = false:=λj=>by rw[b];exact World.frozen?_alloc_at (w:=w.drew) ROW _ w.heap.size j rfl
 have hOb:∀j v,w.cell? ⟨g,j,none⟩ = some v->p.cell? ⟨g,j,none⟩ = some v:=λj v h=>by rw[b,World.cell?_alloc_past (w:=w.drew) _ g j hbw];exact h
 have hOv:∀j v,w.cell? ⟨B,j,none⟩ = some v->p.cell? ⟨B,j,none⟩ = some v:=λj v h=>by rw[b,World.cell?_alloc_past (w:=w.drew) _ B j hvw];exact h
 have V:∀(W:World),(∀x,W.cell? x=p.cell? x)->(∀x,W.frozen? x=p.frozen? x)->∀d J,(Builtin.copy_ #[S,S] d #[.slice (some ⟨w.heap.size,i*k,none⟩) (n+m - i) J,.slice (some ⟨B,0,none⟩) m vc]).run Tryz.prog W=.ok (goInt ((1:Nat):Int)) (W.setCells w.heap.size (i*k) vs):=λW o K d J=>
  nM W _ _ d E k w.heap.size (i*k) (n+m - i) J ⟨B,0,none⟩ m vc 1 vs q.u R (by simp only[Nat.min_def];split<;>omega) ω
   (λj v a=>by rw[Addr.add_lit,O7,o];exact hOv _ v (Y j v a))
   (λj a=>by rw[o];rw[Q]at a;exact hN _ ω) (λj a=>by rw[K];exact U _) h2
 have hGn:n+m<=G:=by rw[Z];exact grownCap_ge w _ _ _
 have hG63:G<=9223372036854775807:=by
  have:=grownCap_le_maxLen w (n+m) c E (by unfold maxLen;omega);rw[<-Z]at this;unfold maxLen at this;omega
 have hGi:¬(G=i):=ω
 have hGim:¬(G=i+m):=ω
 have hci:¬(c=i):=ω
 have hbN:g≠w.heap.size:=ω
 have X:(olds.drop (i*k)).length=(n - i)*k:=by rw[Y3,P];omega
 have D:∀(W:World),(∀x,W.cell? x=(p.setCells w.heap.size (i*k) vs).cell? x)->(∀x,W.frozen? x=(p.setCells w.heap.size (i*k) vs).frozen? x)->∀d J sc,(Builtin.copy_ #[S,S] d #[.slice (some ⟨w.heap.size,(i+m)*k,none⟩) (n+m - (i+m)) J,.slice (some ⟨g,i*k,none⟩) (n - i) sc]).run Tryz.prog W=.ok (goInt ((n - i:Nat):Int)) (W.setCells w.heap.size ((i+m)*k) (olds.drop (i*k))):=λW o K d J sc=>
  nM W _ _ d E k w.heap.size ((i+m)*k) (n+m - (i+m)) J ⟨g,i*k,none⟩ (n - i) sc (n - i) (olds.drop (i*k)) q.u R (by simp only[Nat.min_def];split<;>omega) X
   (λj v a=>by
     rw[Addr.add_lit,o,World.cell?_setCells_out _ _ _ _ _ (λh _=>absurd h hbN)];exact hOb _ v (ho (i*k+j) v (by rwa [List.getElem?_drop]at a)))
   (λj a=>by rw[o];rw[X]at a;exact BG _ _ _ _ (λt ht=>by rw[Q]at ht;exact hN _ ω) _ (hN _ ω))
   (λj a=>by rw[K,World.frozen?_setCells];exact U _) (λv Y=>h1 v (List.mem_of_mem_drop Y))
 subst b;have hE1:∀x,((w.alloc (.cells ROW E)).drew).cell? x=(w.drew.alloc (.cells ROW E)).cell? x:=λx=>rfl
 have hE2:∀x,((w.alloc (.cells ROW E)).drew).frozen? x=(w.drew.alloc (.cells ROW E)).frozen? x:=λx=>rfl
 have hF1:∀x,(((w.alloc (.cells ROW E)).drew.setCells w.heap.size (i*k) vs).drew).cell? x=((w.drew.alloc (.cells ROW E)).setCells w.heap.size (i*k) vs).cell? x:=λx=>rfl
 have hF2:∀x,(((w.alloc (.cells ROW E)).drew.setCells w.heap.size (i*k) vs).drew).frozen? x=((w.drew.alloc (.cells ROW E)).setCells w.heap.size (i*k) vs).frozen? x:=λx=>rfl
 have hw1:IntKind.i64.wrap ((i:Int)+(m:Int))=(i:Int)+(m:Int):=by rw[IntKind.wrap_i64];omega
 have hw2:IntKind.i64.wrap ((n:Int)+(m:Int))=(n:Int)+(m:Int):=by rw[IntKind.wrap_i64];omega
 have hw3:IntKind.i64.wrap ((n:Int)+(m:Int) - (i:Int))=(n:Int)+(m:Int) - (i:Int):=by rw[IntKind.wrap_i64];omega
 have hb1:(0:Int)<=(i:Int)+(m:Int):=ω
 have hin:i<=n:=ω
 have htn:((i:Int)+(m:Int)).toNat=i+m:=ω
 have hb3:(i:Int)<=(n:Int):=ω
 clear T H C l Z hRl p1 p2 p3 p4 p5 p7 hk;cases q
 case' oq=>go_enter Tryz.func67,Tryz.ntmps67
 case' lq=>go_enter Tryz.func192,Tryz.ntmps192
 case' sq=>go_enter Tryz.func342,Tryz.ntmps342
 all_goals
  go_wp2_with (first
    | (at_builtin;refine Lib.wpList_append_run _ rfl _ _ _ _ rfl _ _ rfl rfl _ _ (r _) ?_)
    | (at_builtin;refine mI _ rfl _ _ _ _ rfl _ _ rfl rfl (V _ hE1 hE2 _ _) ?_)
    | (at_builtin;refine mI _ rfl _ _ _ _ rfl _ _ rfl rfl (D _ (λ_=>rfl) (λ_=>rfl) _ _ _) ?_))
  go_region_law_o (refine wc rfl _ _ _ _ rfl (.slice (some ⟨w.heap.size,(i+m)*_,none⟩) (n+m - (i+m)) (G - (i+m))) (.slice (some ⟨g,i*_,none⟩) (n - i) (c - i)) (by simp[Act.eval,Act.put]) (by simp[Act.eval,Act.put]) (D _ hF1 hF2 3 (G - (i+m)) (c - i)) ?_)
  go_wp2
  go_ret
  exact⟨rfl,rfl⟩
def zd(q:IQ f v S E k):N1 Tryz.prog f k S (8*k):=by
 refine⟨q.has,Po q,λw g n c i M m N olds O o p u h R b d y P r t j B C=>?_⟩;obtain⟨T,U,D,F,G,l,H,J⟩:=Ai q;by_cases a:n+m<=c
 ·refine(Jn q w g n c i M m N olds O o p h a b d y P r t j B C).mono λe Q ⟨K,L⟩=>?_
  subst o;rw[L];exact⟨g,c,K,a,Hu p a b d y r t j⟩
 refine(LQ q D F G l J w g n c i M m N olds O o p h u ω b d y P r t).mono λe Q ⟨K,L⟩=>?_
 subst o;rw[L,Lf];exact⟨_,_,K,grownCap_ge w _ _ _,Jl (e:=E) rfl rfl rfl rfl p (grownCap_ge w _ _ _) l H b d r t⟩
end
def w9(xs:List bi):Ty (xs.map (bi.enc .own)):=λr b c a=>by
 obtain⟨s,-,rfl⟩:=W4.1 b;simp[bi.enc]at a;rcases a with rfl|rfl|rfl|rfl<;>exact⟨_,rfl⟩
def zv(xs:List bi)(i:Nat)(x:bi)(j:i<=xs.length)(k:xs.length+1<=1073741824):zzB 67 false [.mut none [.s .own (xs.map (bi.enc .own))],.val none [I (i:Nat)],.mut none [.s .own [bi.enc .own x]]] [.mut none [.x],.val none [I (i:Nat)],.mut none [.x]] .one [.s .own ((inse xs i x).map (bi.enc .own))]:=by
 obtain⟨l,n,c,a,d,e,g,b⟩:=Ai .oq;have h:=J9 (row:=bi.enc .own x) (IQ.u .oq) c a d (by rw[a,e]) g (by rw[b];decide) (by rw[b];exact zd .oq) (rows:=xs.map (bi.enc .own)) (i:=i) (by rw[I1];exact j) (aK λ_=>rfl) rfl (by decide) (w9 xs) (w9 [x]) (by rw[I1];exact k)
 rwa [ye]at h
def rA(xs:List aD):Ty (xs.map (aD.enc .own)):=λr b c a=>by
 obtain⟨s,-,rfl⟩:=W4.1 b;simp[aD.enc]at a;rcases a with rfl|rfl|rfl<;>exact⟨_,rfl⟩
def Ef(xs:List aD)(i:Nat)(x:aD)(j:i<=xs.length)(k:xs.length+1<=1073741824):zzB 192 false [.mut none [.s .own (xs.map (aD.enc .own))],.val none [I (i:Nat)],.mut none [.s .own [aD.enc .own x]]] [.mut none [.x],.val none [I (i:Nat)],.mut none [.x]] .one [.s .own ((inse xs i x).map (aD.enc .own))]:=by
 obtain⟨l,n,c,a,d,e,g,b⟩:=Ai .lq;have h:=J9 (row:=aD.enc .own x) (IQ.u .lq) c a d (by rw[a,e]) g (by rw[b];decide) (by rw[b];exact zd .lq) (rows:=xs.map (aD.enc .own)) (i:=i) (by rw[I1];exact j) (aK λ_=>rfl) rfl (by decide) (rA xs) (rA [x]) (by rw[I1];exact k)
 rwa [ye]at h
def tq(xs:List aA):Ty (xs.map (aA.enc .own)):=λr b c a=>by
 obtain⟨s,-,rfl⟩:=W4.1 b;simp[aA.enc]at a;rcases a with rfl|rfl|rfl<;>exact⟨_,rfl⟩
def GR(xs:List aA)(i:Nat)(x:aA)(j:i<=xs.length)(k:xs.length+1<=1073741824):zzB 342 false [.mut none [.s .own (xs.map (aA.enc .own))],.val none [I (i:Nat)],.mut none [.s .own [aA.enc .own x]]] [.mut none [.x],.val none [I (i:Nat)],.mut none [.x]] .one [.s .own ((inse xs i x).map (aA.enc .own))]:=by
 obtain⟨l,n,c,a,d,e,g,b⟩:=Ai .sq;have h:=J9 (row:=aA.enc .own x) (IQ.u .sq) c a d (by rw[a,e]) g (by rw[b];decide) (by rw[b];exact zd .sq) (rows:=xs.map (aA.enc .own)) (i:=i) (by rw[I1];exact j) (aK λ_=>rfl) rfl (by decide) (tq xs) (tq [x]) (by rw[I1];exact k)
 rwa [ye]at h
def oF(h:ac):C:=oE (h.a.map (aE.enc .own))
def gL(h:ac):List C:=[.s .own (h.H.F.V.W.map (aG .own)),.s .own (h.H.F.V.y.map (rB .own)),.s .own (h.H.F.Q.O.map (bo.enc .own)),I h.H.Calls,.s .own (h.H.d.map (rI .own)),oF h,.s .own (h.K.map (aA.enc .own)),.s .own (h.J.map (aD.enc .own)),.s .own (h.M.map (bi.enc .own)),.s .own (h.T.map (aF.enc .own)),.s .own (h.j.U.map (bJ .own)),.s .own (h.j.g.map (aG .own)),I h.a3.b3,.s .own (h.a3.q.map (aQ.enc .own)),I h.b5,I h.a8,I h.b7,I h.o,B h.a2,I h.a5.b.a7,I h.a5.b.a9,.s .own (h.a5.b.W.map (rI .own)),I h.a5.b1,I h.a5.o]
def Ks(h:ac):List C:=[.x,.x,.x,.x,.x,oF h,.s .own (h.K.map (aA.enc .own)),.s .own (h.J.map (aD.enc .own)),.s .own (h.M.map (bi.enc .own)),.s .own (h.T.map (aF.enc .own)),.s .own (h.j.U.map (bJ .own)),.s .own (h.j.g.map (aG .own)),I h.a3.b3,.s .own (h.a3.q.map (aQ.enc .own)),I h.b5,I h.a8,I h.b7,I h.o,B h.a2,I h.a5.b.a7,I h.a5.b.a9,.s .own (h.a5.b.W.map (rI .own)),I h.a5.b1,I h.a5.o]
def RF(h:ac):fz (oF h)=.s .S (h.a.map (aE.enc .S)):=(GA _).trans (List.cons.inj (dO h.a)).1
def iB(h:ac):dB (gL h)=ac.enc .S h:=by
 have a:=ac.enc_fz h;have b:dB (gL h)=(dB (ac.enc .own h)).set 5 (fz (oF h)):=rfl;rw[b,a,RF];rfl
variable{h:ac}
def P0{S Y:af}{u:Nat->Value}(d:cC w S Y (ac.enc .own h) u):cC w S Y (gL h) u:=by
 obtain⟨f,b,e,g⟩:=d;refine⟨f,λj c a=>?_,e,g⟩;have i:gL h=(ac.enc .own h).set 5 (oF h):=rfl;rw[i]at a;by_cases k:j=5
 ·subst k
  have:c=oF h:=by simpa[ac.enc] using a.symm
  rw[this];exact sB (b 5 _ rfl)
 rw[List.getElem?_set_ne ω]at a;exact b j c a
def Jg(h:ac)(a:ac.sml h):zzA 62 false [.val (some 24) (ac.enc .S h)] .agg (gL h):=by
 obtain⟨b,c⟩:=iu h a;refine⟨b,λw S d g i=>(c w S d g i).mono λe w1 j=>?_⟩;obtain⟨v,k,l,X,S1,n,o,p,q,r⟩:=j;exact⟨v,k,l,X,S1,n,o,p,q,P0 r⟩
def Tb{b:Bool}{X Y:Prop}(h:b=true)(a:X):cond b X Y:=by subst h;exact a
def JW{b:Bool}{X Y:Prop}(h:b=false)(a:Y):cond b X Y:=by subst h;exact a
def Ur(h:ac):bn [oF h]=false\/(bn [oF h]=true/\h.a=[]):=by
 unfold oF;cases a:h.a with
 | nil=>exact .inr ⟨rfl,rfl⟩
 | cons y b=>exact .inl rfl
def TL(a:bn [oF h]=true):[oF h]=bp .S h.a:=by
 unfold oF at a |-;cases b:h.a with
 | nil=>rfl
 | cons y c=>rw[b]at a;simp[oE,bn,eP]at a
def Aw(h:ac)(n:Nat):ac × Int × Bool:=
 if(aC h.a (n:Nat)).2.2=false then(h,-1,false)
 else if(bD h.H (aC h.a (n:Nat)).2.1 n).2=n then({h with H:=(bD h.H (aC h.a (n:Nat)).2.1 n).1,a:=(aC h.a (n:Nat)).1},(aC h.a (n:Nat)).2.1,true)
 else({h with H:=du (bD h.H (aC h.a (n:Nat)).2.1 n).1 (aC h.a (n:Nat)).2.1 (bD h.H (aC h.a (n:Nat)).2.1 n).2},-1,false)
def pT(h:ac)(n:Nat)(w:bg h [])(U:h.H.Calls<=90000)(hn:1<=n/\n<=63):zzB 189 false [.ptr (gL h),.val none [I (n:Nat)]] [.ptr (gL (Aw h n).1),.val none [I (n:Nat)]] (.tup [none,none]) [I (Aw h n).2.1,B (Aw h n).2.2]:=by
 have P:eO h<=32:=w.lens.ents;have M:=w;have C:dB [oF h]=bp .S h.a:=Z0 (λy=>[y]) (RF h);have N:=tY h;have t:=An (eO h:Nat) h.a (n:Nat) ⟨ω,ω⟩ w.rng ⟨ω,ω⟩ (by have:=w.lens.free;omega);unfold Ua at t;have D:=kg w (show(1:Int)<=(n:Nat) by omega);unfold Aw;have c:bn [oF h]=false\/(bn [oF h]=true/\(aC h.a (n:Nat)).2.2=false):=(Ur h).imp id λg=>⟨g.1,by rw[g.2];rfl⟩
 generalize aC h.a (n:Nat)=r at t D c |-;obtain⟨V,p,ok⟩:=r;simp only at t D c |-;refine fM 76 [] [(1,270,[15,16,17,18,19,20,21,22,23,24,14,25,26,27,0,1,2,3,4,5,6,7,8,9,10,11,12,13,14,1012,1013,15,1013,16])] [(0,0),(0,0)] Tryz.func189 rfl (λu q=>?_) (.inr ⟨trivial,trivial,trivial⟩);rcases c with c|⟨c,Q⟩
 ·cases ok with
   | false=>
    rw[CC rfl];rw[CB (by simp)]at t
    repeat'(first|refine gP ?_|refine CG (N) ⟨⟨rfl,iB h⟩,trivial⟩ ?_|refine CG (t) ⟨⟨rfl,rfl⟩,⟨rfl,C⟩,⟨rfl,rfl⟩,trivial⟩ ?_|refine JW c ?_)
    refine CH rfl rfl ?_;exact wC
   | true=>
    rw[CB (by simp)];rw[CC rfl]at t;obtain⟨O,L,E,u4⟩:=D rfl;change p+(n:Nat)<=(h.H.F.Q.O.length:Nat) at L;change ∀q:Nat,p<=q->(q:Int)<p+(n:Nat)->(nth h.H.F.Q.O q).k=0 at E
    have W:h.H.F.Q.O.length<=32:=P;cases V with
    | nil=>
      repeat'(first|refine gP ?_|refine CG (N) ⟨⟨rfl,iB h⟩,trivial⟩ ?_|refine CG (t) ⟨⟨rfl,rfl⟩,⟨rfl,C⟩,⟨rfl,rfl⟩,trivial⟩ ?_|refine JW c ?_)
      refine CF (ι:=Nat) (λi=>[(0,.G .box (Ks h)),(1,.G .one [I ((n:Nat):Int)]),(6,.G .one ([oE (([]:List aE).map (aE.enc .own))])),(7,.G .one [I (p)]),(9,.G .box (ah.enc .own (bD h.H p i).1)),(10,.G .one [I ((i:Nat):Int)])]) (λi=>i<=n/\(bD h.H p i).2=i) (λi=>n - i) (0) ?_ (⟨X0 _,rfl⟩) λi w=>?_
      ·exact wC
      obtain⟨F,G⟩:=w;have s:=iq.of (p:=p) (n:=n) M.ker ω ⟨O,L⟩ E i F;have R:=s.calls;have S:=s.len;by_cases X:i<n
      ·have H:(nth (bD h.H p i).1.F.Q.O (p+(i:Nat)).toNat).k=0:=by
        rw[s.out _ (by rw[G];omega)];exact E _ ω ω
       have l:=tL (bD h.H p i).1 (p+(i:Nat)) s.ker ω ⟨ω,ω⟩ H;have a:bD h.H p (i+1)=((dE (bD h.H p i).1 (p+(i:Nat))).1,if(dE (bD h.H p i).1 (p+(i:Nat))).2=true then i+1 else i):=by
        show(if(bD h.H p i).2=i then _ else _)=_;rw[CC G]
       cases e:(dE (bD h.H p i).1 (p+(i:Nat))).2 with
       | true=>
        rw[e]at l a;rw[CC rfl]at a;have J:(dE (bD h.H p i).1 (p+(i:Nat))).1=(bD h.H p (i+1)).1:=by rw[a]
        rw[J]at l
        repeat'(first|refine gE ?_|refine CG (l) ⟨⟨rfl,CO _⟩,⟨rfl,rfl⟩,trivial⟩ ?_)
        (refine CD (i+1) ⟨ω,by rw[a]⟩ ω ?_;(exact wC))
       | false=>
        rw[e]at l a;rw[CB (by simp)]at a;have o:=jO (k:=h.H) (p:=p) (i:=i+1) (by rw[a];simp only;omega) (n - (i+1));rw[show i+1+(n - (i+1))=n by omega]at o;have K:=iq.of (p:=p) (n:=n) M.ker ω ⟨O,L⟩ E (i+1) ω;rw[CB ω,o.1];have b:=K.calls;rw[a]at K b |-;have d:=K.ker;simp only at d b |-;generalize (dE (bD h.H p i).1 (p+(i:Nat))).1=k at l d b |-
        repeat'(first|refine gE ?_|refine CG (l) ⟨⟨rfl,CO _⟩,⟨rfl,rfl⟩,trivial⟩ ?_)
        refine CF (ι:=Nat) (λj=>[(0,.G .box (Ks h)),(7,.G .one [I (p)]),(9,.G .box (ah.enc .own (du k p j))),(10,.G .one [I ((i:Nat):Int)]),(13,.G .one [I (p+(j:Nat))])]) (λj=>j<=i) (λj=>i - j) (0) ?_ (X0 _) λj Y=>?_
        ·exact wC
        have T:=pC (du k p j) (p+(j:Nat)) (jl d p j) (by rw[(gh k p j).2.1];omega);by_cases Z:j<i
        ·repeat'(first|refine gE ?_|refine CG (T) ⟨⟨rfl,CO _⟩,⟨rfl,rfl⟩,trivial⟩ ?_)
         (refine CD (j+1) ω ω ?_;(exact wC))
        obtain rfl:j=i:=ω
        refine ZE ?_
        refine CH rfl rfl ?_;exact wC
      obtain rfl:i=n:=ω
      rw[CC G];generalize (bD h.H p i).1=k
      refine ZE ?_
      refine CH rfl rfl ?_;exact wC
    | cons y ys=>
      repeat'(first|refine gP ?_|refine CG (N) ⟨⟨rfl,iB h⟩,trivial⟩ ?_|refine CG (t) ⟨⟨rfl,rfl⟩,⟨rfl,C⟩,⟨rfl,rfl⟩,trivial⟩ ?_|refine JW c ?_)
      refine CF (ι:=Nat) (λi=>[(0,.G .box (Ks h)),(1,.G .one [I ((n:Nat):Int)]),(6,.G .one ([oE ((y::ys).map (aE.enc .own))])),(7,.G .one [I (p)]),(9,.G .box (ah.enc .own (bD h.H p i).1)),(10,.G .one [I ((i:Nat):Int)])]) (λi=>i<=n/\(bD h.H p i).2=i) (λi=>n - i) (0) ?_ (⟨X0 _,rfl⟩) λi w=>?_
      ·exact wC
      obtain⟨F,G⟩:=w;have s:=iq.of (p:=p) (n:=n) M.ker ω ⟨O,L⟩ E i F;have R:=s.calls;have S:=s.len;by_cases X:i<n
      ·have H:(nth (bD h.H p i).1.F.Q.O (p+(i:Nat)).toNat).k=0:=by
        rw[s.out _ (by rw[G];omega)];exact E _ ω ω
       have l:=tL (bD h.H p i).1 (p+(i:Nat)) s.ker ω ⟨ω,ω⟩ H;have a:bD h.H p (i+1)=((dE (bD h.H p i).1 (p+(i:Nat))).1,if(dE (bD h.H p i).1 (p+(i:Nat))).2=true then i+1 else i):=by
        show(if(bD h.H p i).2=i then _ else _)=_;rw[CC G]
       cases e:(dE (bD h.H p i).1 (p+(i:Nat))).2 with
       | true=>
        rw[e]at l a;rw[CC rfl]at a;have J:(dE (bD h.H p i).1 (p+(i:Nat))).1=(bD h.H p (i+1)).1:=by rw[a]
        rw[J]at l
        repeat'(first|refine gE ?_|refine CG (l) ⟨⟨rfl,CO _⟩,⟨rfl,rfl⟩,trivial⟩ ?_)
        (refine CD (i+1) ⟨ω,by rw[a]⟩ ω ?_;(exact wC))
       | false=>
        rw[e]at l a;rw[CB (by simp)]at a;have o:=jO (k:=h.H) (p:=p) (i:=i+1) (by rw[a];simp only;omega) (n - (i+1));rw[show i+1+(n - (i+1))=n by omega]at o;have K:=iq.of (p:=p) (n:=n) M.ker ω ⟨O,L⟩ E (i+1) ω;rw[CB ω,o.1];have b:=K.calls;rw[a]at K b |-;have d:=K.ker;simp only at d b |-;generalize (dE (bD h.H p i).1 (p+(i:Nat))).1=k at l d b |-
        repeat'(first|refine gE ?_|refine CG (l) ⟨⟨rfl,CO _⟩,⟨rfl,rfl⟩,trivial⟩ ?_)
        refine CF (ι:=Nat) (λj=>[(0,.G .box (Ks h)),(7,.G .one [I (p)]),(9,.G .box (ah.enc .own (du k p j))),(10,.G .one [I ((i:Nat):Int)]),(13,.G .one [I (p+(j:Nat))])]) (λj=>j<=i) (λj=>i - j) (0) ?_ (X0 _) λj Y=>?_
        ·exact wC
        have T:=pC (du k p j) (p+(j:Nat)) (jl d p j) (by rw[(gh k p j).2.1];omega);by_cases Z:j<i
        ·repeat'(first|refine gE ?_|refine CG (T) ⟨⟨rfl,CO _⟩,⟨rfl,rfl⟩,trivial⟩ ?_)
         (refine CD (j+1) ω ω ?_;(exact wC))
        obtain rfl:j=i:=ω
        refine ZE ?_
        refine CH rfl rfl ?_;exact wC
      obtain rfl:i=n:=ω
      rw[CC G];generalize (bD h.H p i).1=k
      refine ZE ?_
      refine CH rfl rfl ?_;exact wC
 subst Q;rw[CC rfl];rw[CB (by simp)]at t
 repeat'(first|refine gP ?_|refine CG (N) ⟨⟨rfl,iB h⟩,trivial⟩ ?_|refine CG (t) ⟨⟨rfl,rfl⟩,⟨rfl,TL c⟩,⟨rfl,rfl⟩,trivial⟩ ?_|refine Tb c ?_)
 refine CH rfl rfl ?_;exact wC
def wV(h:ac)(p c:Int)(w:h.K.length<=4096):zzB 190 false [.ptr (gL h),.val (some 3) [I p,I c,I 0]] [.ptr (gL {h with K:=jI (Gn p) h.K ⟨p,c,0⟩}),.val (some 3) [I p,I c,I 0]] .one [I (kw (Gn p) h.K:Nat)]:=by
 refine fM 40 [(342,[1,0,1])] [(2,18,[6,7,8,9,10,11,12,13,14,15,16,17,18,19,20,21,22,23]),(4,264,[28,29,30,31,32,33,34,35,0,1,2,3,4,5,6,7,8,1000,9,10,11])] [(0,0),(0,0)] Tryz.func190 rfl (λu q=>?_)
 refine ZP ?_
 refine CF (ι:=Nat) (λi=>[(0,.G .box (gL h)),(3,.G .box ([I p,I c,I 0])),(5,.G .one [I ((i:Nat):Int)])]) (λi=>i<=h.K.length/\∀(j:Nat)(z:aA),j<i->h.K[j]? = some z->Gn p z=false) (λi=>h.K.length - i) (0) ?_ (⟨X0 _,λj z y=>ω⟩) λi g=>?_
 ·exact wC
 obtain⟨k,d⟩:=g;by_cases l:i<h.K.length/\(nth h.K i).R<p
 ·have b:=ar l.1
  refine ZE ?_
  (refine CD (i+1) ⟨ω,ep b (W0 ω) d⟩ ω ?_;(exact wC))
 have a:kw (Gn p) h.K=i:=my ω d λz e=>by
  have n:=(Z2.1 e).1;have:z=nth h.K i:=(b8 e).symm;subst this;exact O0 ω
 have b:i<h.K.length->h.K[i]? = some (nth h.K i):=λo=>ar o
 have r:=GR h.K i ⟨p,c,0⟩ ω ω;rw[mz a,a]
 repeat'(first|refine gE ?_|with_reducible (first|refine CA (aa (b ω)) ?_|refine Bf.D (λt=>?_) (λt=>?_))|refine CE rfl (aa (b ω)) rfl ?_)
 all_goals
  refine CH rfl rfl ?_;exact wC
def HZ(h:ac)(i:Nat):gL (slotT h i)=((gL h).set 14 (I (Ax h.b5))).set 6 (.s .own ((h.K.map (aA.enc .own)).set i [I (nth h.K i).R,I (nth h.K i).Z,I (gC (nth h.K i).a6 (ns h i))])):=by
 simp[gL,slotT,rg,V6,aA.enc,oF]
def Bd(h:ac)(E:List Int)(i:Nat)(a:bg h E)(b:i<h.K.length)(p:(gF h i).length=0):zzA 188 false [.ptr (ac.enc .S h),.val none [I (i:Nat)]] (.tup [none,none]) [I (-1),B false]:=by
 have g:=ar b;have c:=a.L.sok _ (au b);have d:=ec c;have j:=(bq.1 (aH.1 a.ker).2.2.1).2.2;have n:=a.lens.spans;have e:=lT a.L.sok (ps:=aV h (nth h.K i).R) d (aV h (nth h.K i).R).length;change 0<=dU h i/\dU h i<=65535 at e;have o:=ge (nth h.K i).Z;have k:=rF h i ⟨ω,λ_ _=>trivial⟩ ⟨by show h.H.F.Q.O.length<=_;omega,λ_ _=>trivial⟩ a.L.sok b;rw[w7 a.L.sok b]at k;have l:=pX (nth h.K i).Z (dU h i) ω;change am _ _ _ _ _ (aG .own (gF h i)) at l;refine fO 63 [(2,7,[17,18,19,20,21,22,23]),(7,12,[43,44,45,46,47,48,49,50,51,52,53,54]),(8,5,[57,58,59,60,61])] Tryz.func188 rfl ?_ (.inr ⟨trivial,trivial,trivial⟩)
 refine ZB ?_
 rfl
def pq(h:ac)(E:List Int)(i:Nat)(b:bg h E)(j:i<h.K.length):zzB 188 false [.ptr (gL h),.val none [I (i:Nat)]] [.ptr (gL (kX h i).1),.val none [I (i:Nat)]] (.tup [none,none]) [I (kX h i).2,B (decide (0<(gF h i).length))]:=by
 have F:=b.lens.spans;have d:=ar j;have c:=b.L.sok _ (au j);have e:=ec c;have a:=b.nums;unfold cg at a;rw[C0]at a;have y:=(bq.1 (aH.1 b.ker).2.2.1).2.2;have k:=lT b.L.sok (ps:=aV h (nth h.K i).R) e (aV h (nth h.K i).R).length;change 0<=dU h i/\dU h i<=65535 at k;have C:=ge (nth h.K i).Z;have l:=rF h i ⟨ω,λ_ _=>trivial⟩ ⟨by show h.H.F.Q.O.length<=_;omega,λ_ _=>trivial⟩ b.L.sok j;rw[w7 b.L.sok j]at l;have o:=pX (nth h.K i).Z (dU h i) ω;change am _ _ _ _ _ (aG .own (gF h i)) at o;have p:=zP (nth h.K i).Z (dU h i);change (gF h i).length<=16 at p;unfold kX;by_cases D:(gF h i).length=0
 ·rw[CC D,W0 ω]
  refine fM 63 [] [(2,7,[17,18,19,20,21,22,23]),(7,12,[43,44,45,46,47,48,49,50,51,52,53,54]),(8,5,[57,58,59,60,61])] [(0,0),(0,0)] Tryz.func188 rfl (λu q=>?_) (.inr ⟨trivial,trivial,trivial⟩)
  repeat'(first|refine gB ?_|refine CG (l) ⟨⟨rfl,iB h⟩,⟨rfl,rfl⟩,trivial⟩ ?_)
  refine CH rfl rfl ?_;exact wC
 rw[CB D,O0 ω];have G:=vF (h:=h) (i:=i) ω;obtain⟨H,O,P⟩:=sv G;have J:=(gn (aL c).2.2).2.2.1;have r:=qn h.b5 (n:=((gF h i).length:Nat)) ω;have K:=wL h.b5 ((gF h i).length:Nat) ω ω;have M:=AQ (nth h.K i).a6 (ns h i) e ω;obtain⟨N,t⟩:=I3 H;have w:=rD (nth h.K i) N c ω;unfold kq at w;rw[<-t]at w;have g:(gF h i)[(Fx h.b5 ((gF h i).length:Nat)).toNat]? = some (ns h i):=ar ω;unfold ql;rw[HZ];refine fM 63 [] [(2,7,[17,18,19,20,21,22,23]),(7,12,[43,44,45,46,47,48,49,50,51,52,53,54]),(8,5,[57,58,59,60,61])] [(0,0),(0,0)] Tryz.func188 rfl (λu q=>?_) (.inr ⟨trivial,trivial,trivial⟩)
 repeat'(first|refine gB ?_|refine CG (l) ⟨⟨rfl,iB h⟩,⟨rfl,rfl⟩,trivial⟩ ?_|refine CK r.1 (aa g) ?_|refine CM rfl rfl (aa d) rfl (O1 rfl) rfl ?_)
 refine CH rfl ?_ ?_
 ·rfl
 exact wC
def MI(k:ah)(p:Int):bD k p 1=((dE k p).1,if(dE k p).2=true then 1 else 0):=by
 show(if(0:Nat)=0 then((dE k (p+((0:Nat):Int))).1,if(dE k (p+((0:Nat):Int))).2=true then 0+1 else 0) else(k,0))=_;rw[CC rfl,show p+((0:Nat):Int)=p by omega]
def Mz(h:ac):Aw h 1=if(aC h.a 1).2.2=false then(h,-1,false)
  else if(dE h.H (aC h.a 1).2.1).2=false then({h with H:=(dE h.H (aC h.a 1).2.1).1},-1,false)
  else({h with H:=(dE h.H (aC h.a 1).2.1).1,a:=(aC h.a 1).1},(aC h.a 1).2.1,true):=by
 unfold Aw;rw[show((1:Nat):Int)=1 from rfl,MI];cases e:(dE h.H (aC h.a 1).2.1).2
 ·simp[du]
 simp
def Nb(h:ac)(a:C):List C:=(gL h).set 9 a
def rm(h:ac)(a:C):Prop:=fz a=.s .S (h.T.map (aF.enc .S))
def Rt{a:C}(b:rm h a):dB (Nb h a)=ac.enc .S h:=by
 have c:dB (Nb h a)=(dB (gL h)).set 9 (fz a):=rfl;rw[c,iB,b];rfl
def rm.own(h:ac):rm h (.s .own (h.T.map (aF.enc .own))):=by
 have a:=Z0 (λl:List C=>l[9]?) (iB h);have b:(dB (gL h))[9]? = some (fz (.s .own (h.T.map (aF.enc .own)))):=rfl;have c:(ac.enc .S h)[9]? = some (.s .S (h.T.map (aF.enc .S))):=rfl;simp only[b,c,C1]at a;exact a
def U5(h:ac)(t c:Nat):C:=.s .own ((h.T.map (aF.enc .own)).set t [.s .own (((nth h.T t).X.map (aG .own)).set c (aG .S ((nth (nth h.T t).X c).take ((nth (nth h.T t).X c).length - 1))))])
def Tr(h:ac)(t c:Nat):rm {h with T:=h.T.set t (sW (nth h.T t) c)} (U5 h t c):=by
 have b:fz (.s .own (h.T.map (aF.enc .own)))=.s .S (h.T.map (aF.enc .S)):=rm.own h;have e:∀a:List (List C),fz (.s .own a)=.s .S (a.map dB):=λa=>by rw[MD];congr 1;apply List.map_congr_left;intro r _;rw[bS]
 unfold rm U5;rw[e]at b |-;simp only[C.s.injEq,true_and]at b |-;rw[V6,b,V6]
 congr 1
 have d:=CY (sW (nth h.T t) c);rw[F6]at d;rw[<-d];simp only[dB,e,V6]
 congr 3
def Mf(h:ac){t:Nat}(a:t<h.T.length)(r:List C):gL h=((gL h).set 9 (.s .own ((h.T.map (aF.enc .own)).set t r))).set 9 (.s .own (((h.T.map (aF.enc .own)).set t r).set t (aF.enc .own (nth h.T t)))):=by
 have e:(h.T.map (aF.enc .own)).set t (aF.enc .own (nth h.T t))=h.T.map (aF.enc .own):=by
  rw[<-V6,DB a]
 rw[List.set_set,List.set_set,e];rfl
def xX(h:ac)(t c:Nat)(o:bg h [])(E:t<h.T.length)(T:c<=3)(r:h.H.Calls<=90000):∃W,rm (eJ h t c).1 W/\zzB 65 false [.ptr (gL h),.val none [I (t:Nat)],.val none [I (c:Nat)]] [.ptr (Nb (eJ h t c).1 W),.val none [I (t:Nat)],.val none [I (c:Nat)]] (.tup [none,none]) [I (eJ h t c).2,B (decide (0<=(eJ h t c).2))]:=by
 have w:=o.cach _ (au E);have hl4:=pD w;have d:=ar E;have F:=zz (nth h.T t) c w T;have hls:=o.lens.spans;have C:=o;have G:=Mf h E;unfold UC at F;by_cases N:0<(nth (nth h.T t).X c).length
 ·obtain⟨O,H⟩:=o.pop E ω N (KX w c)
  have k:=jz.nn o H;unfold eJ;rw[CC N]at F |-;refine⟨U5 h t c,Tr h t c,?_⟩;simp only;rw[O0 k];refine fM 86 [(186,[1,0]),(188,[2,0]),(189,[2,0]),(190,[2,0]),(4000062,[]),(5000077,[])] [(3,6,[31,32,33,34,35,36]),(8,10,[49,50,51,52,53,54,55,56,57,58])] [(0,0),(0,0),(0,0)] Tryz.func65 rfl (λu q=>?_) (.inr ⟨trivial,trivial,trivial⟩)
  repeat'(first|refine gP ?_|refine CA (cy d) ?_|refine CE rfl (cy d) rfl ?_|refine Lq.one rfl rfl (aa d) rfl (O1 rfl) rfl rfl ?_|refine CM rfl rfl (cy d) rfl (O1 rfl) (G _) ?_|refine CM rfl rfl (aa d) rfl (O1 rfl) rfl ?_)
  refine CH rfl rfl ?_;exact wC
 rw[CB N]at F;refine⟨_,rm.own _,?_⟩;change aW _ _ _ _ [.ptr (gL (eJ h t c).1),_,_] _ _;have e:eJ h t c=match ow h c with
  | some i=>(slotT h i,ql h i)
  | none=>if(aC h.a 1).2.2=false then(h,-1)
   else if(dE h.H (aC h.a 1).2.1).2=false then({h with H:=(dE h.H (aC h.a 1).2.1).1},-1)
   else kX (pz h c) (nY h):=by unfold eJ;exact CB N
 refine fM 86 [(186,[1,0]),(188,[2,0]),(189,[2,0]),(190,[2,0]),(4000062,[]),(5000077,[])] [(3,6,[31,32,33,34,35,36]),(8,10,[49,50,51,52,53,54,55,56,57,58])] [(0,0),(0,0),(0,0)] Tryz.func65 rfl (λu q=>?_) (.inr ⟨trivial,trivial,trivial⟩)
 repeat'(first|refine gP ?_|refine CA (cy d) ?_|refine CE rfl (cy d) rfl ?_|refine Lq.one rfl rfl (aa d) rfl (O1 rfl) rfl rfl ?_|refine CM rfl rfl (cy d) rfl (O1 rfl) (G _) ?_)
 refine CF (ι:=Nat) (λi=>[(0,.G .box (gL h)),(2,.G .one [I ((c:Nat):Int)]),(42,.c2 0 6 [] none),(43,.G .one [I (h.K.length)]),(44,.G .one [I ((i:Nat):Int)])]) (λi=>i<=h.K.length/\∀j,j<i->pv h c j=false) (λi=>h.K.length - i) (0) ?_ (⟨X0 _,λj hj=>ω⟩) λi o=>?_
 ·exact wC
 obtain⟨hi1,J⟩:=o;by_cases K:i<h.K.length
 ·have n:=ar K
  by_cases X:(nth h.K i).Z=c
  ·have L:=BK h (nth h.K i).R
   cases P:fY h (nth h.K i).R with
   | true=>
    rw[P]at L
    repeat'(first|refine gB ?_|refine CG (L) ⟨⟨rfl,iB h⟩,⟨rfl,rfl⟩,trivial⟩ ?_)
    (refine CD (i+1) ⟨ω,lH (by unfold pv;rw[P];simp) J⟩ ω ?_;(exact wC))
   | false=>
    rw[P]at L;by_cases M:(gF h i).length=0
    ·have y:=Bd h [] i C K M
     repeat'(first|refine gB ?_|refine CG (L) ⟨⟨rfl,iB h⟩,⟨rfl,rfl⟩,trivial⟩ ?_|refine Ch.pl ?_|refine CG (y) ⟨iB h,⟨rfl,rfl⟩,trivial⟩ ?_)
     (refine CD (i+1) ⟨ω,lH (by unfold pv;rw[W0 (by omega:¬0<(gF h i).length)];simp) J⟩ ω ?_;(exact wC))
    have y:=pq h [] i C K;unfold kX at y;rw[CB M,O0 (by omega:0<(gF h i).length)]at y;have U:ow h c=some i:=wd K (by unfold pv;rw[O0 X,P,O0 ω];rfl) J;rw[U]at e;simp only at e;obtain⟨O,H⟩:=C.slotT K (by omega:0<(gF h i).length);have k:=jz.nn O H;rw[e];generalize slotT h i=g at y |-;generalize ql h i=a at y k |-;rw[O0 k]
    repeat'(first|refine gB ?_|refine CG (L) ⟨⟨rfl,iB h⟩,⟨rfl,rfl⟩,trivial⟩ ?_|refine Ch.lt ?_)
    refine CH rfl rfl ?_;exact wC
  refine ZB ?_
  (refine CD (i+1) ⟨ω,lH (by unfold pv;rw[W0 X];rfl) J⟩ ω ?_;(exact wC))
 obtain rfl:i=h.K.length:=ω
 have U:ow h c=none:=vV J;rw[U]at e;simp only at e;have l:=pT h 1 C r ⟨ω,ω⟩;rw[Mz]at l;rw[e];by_cases Q:(aC h.a 1).2.2=false
 ·rw[CC Q]at l |-
  refine ZE ?_
  refine CH rfl rfl ?_;exact wC
 rw[CB Q]at l |-;by_cases R:(dE h.H (aC h.a 1).2.1).2=false
 ·rw[CC R]at l |-
  refine ZE ?_
  refine CH rfl rfl ?_;exact wC
 rw[CB R]at l |-;obtain⟨Y,Z⟩:=FD C T r Q R;have D:=wV {h with H:=(dE h.H (aC h.a 1).2.1).1,a:=(aC h.a 1).1} (aC h.a 1).2.1 (c:Nat) (by show h.K.length<=4096;omega);have S:=pq (pz h c) [] (nY h) Y Z;have V:=qY C E T r;rw[e,CB Q,CB R]at V;have k:decide (0<(gF (pz h c) (nY h)).length)=decide (0<=(kX (pz h c) (nY h)).2):=by
  unfold kX;by_cases M:(gF (pz h c) (nY h)).length=0
  ·rw[CC M,W0 ω];rfl
  rw[CB M,O0 ω];obtain⟨O,H⟩:=Y.slotT Z ω;exact(O0 (jz.nn O H)).symm
 rw[k]at S;change aW _ _ _ _ [.ptr (gL (pz h c)),_] _ [I ((nY h:Nat):Int)]at D;generalize (aC h.a 1).2.1=p at l D;generalize pz h c=g at D S |-;generalize nY h=b at D S |-;generalize ({h with H:=(dE h.H p).1,a:=(aC h.a 1).1} : ac)=h1 at l D
 refine ZE ?_
 refine CH rfl rfl ?_;exact wC
def yw(h:ac)(size:Int)(e:bg h [])(l:9<=size/\size<=1000)(n:h.H.Calls<=90000):zzB 66 false [.ptr (gL h),.val none [I size]] [.ptr (gL (Bc h size).1),.val none [I size]] (.tup [none,none]) [I (Bc h size).2,B (decide (0<=(Bc h size).2))]:=by
 have E:=e.lens.larges;have R:=e;have o:er size=((lF size:Nat):Int):=by unfold er lF;split<;>omega
 have F:1<=lF size/\lF size<=63:=by unfold lF;omega
 have g:=mQ size;rw[o]at g;have a:=pT h (lF size) e n F;have c:=kg e (show(1:Int)<=(lF size:Nat) by omega);unfold Aw at a;unfold Bc jn;generalize lF size=N at *;generalize aC h.a (N:Nat)=r at a c |-;obtain⟨G,p,ok⟩:=r;simp only at a c |-;refine fM 56 [(189,[2,0]),(192,[1,0,1])] [(7,268,[39,40,41,42,43,44,45,46,47,48,49,50,0,1,2,3,4,5,6,7,8,9,10,11,12,1000,13,14,15])] [(0,0),(0,0)] Tryz.func66 rfl (λu q=>?_) (.inr ⟨trivial,trivial,trivial⟩);cases ok with
 | false=>
  rw[CC rfl]at a |-
  refine ZP ?_
  refine CH rfl rfl ?_;exact wC
 | true=>
  rw[CB (by simp)]at a |-;obtain⟨S,H,-,-⟩:=c rfl;have J:h.H.F.Q.O.length<=32:=e.lens.ents;have t:p+(N:Nat)<=(h.H.F.Q.O.length:Nat):=H;by_cases w:(bD h.H p N).2=N
  ·rw[CC w]at a |-
   rw[O0 (show(0:Int)<=16*p by omega)];generalize (bD h.H p N).1=k at a |-
   refine ZP ?_
   refine CF (ι:=Nat) (λm=>[(0,.G .box (gL {h with H:=k,a:=G})),(1,.G .one [I (size)]),(6,.G .one [I (p)]),(8,.G .one [I ((m:Nat):Int)])]) (λm=>m<=h.J.length/\∀(j:Nat)(z:aD),j<m->h.J[j]? = some z->Qt p z=false) (λm=>h.J.length - m) (0) ?_ (⟨X0 _,λj z T=>ω⟩) λm K=>?_
   ·exact wC
   obtain⟨L,C⟩:=K;by_cases M:m<h.J.length/\(nth h.J m).R<p
   ·have d:=ar M.1
    repeat'(first|refine gP ?_|refine Bf.D (λb=>?_) (λb=>absurd b (by first|omega|(simp only at *;omega))))
    (refine CD (m+1) ⟨ω,ep d (W0 ω) C⟩ ω ?_;(exact wC))
   have i:kw (Qt p) h.J=m:=my ω C λz l=>by
    have O:=(Z2.1 l).1;have:z=nth h.J m:=(b8 l).symm;subst this;exact O0 ω
   have d:m<h.J.length->h.J[m]? = some (nth h.J m):=λP=>ar P
   have Q:=Ef h.J m ⟨p,(N:Nat),size⟩ ω ω;rw[mz i]
   repeat'(first|refine gP ?_|refine Bf.D (λb=>?_) (λb=>absurd b (by first|omega|(simp only at *;omega)))|refine Bf.D (λb=>absurd b (by first|omega|(simp only at *;omega))) (λb=>?_)|refine Bf.D (λb=>?_) (λb=>?_)|refine CA (aa (d (by first|omega|(simp only at *;omega)))) ?_|refine CE rfl (aa (d (by first|omega|(simp only at *;omega)))) rfl ?_)
   all_goals
    refine CH rfl ?_ ?_
    ·exact Z0 (λy=>[I y,B true]) (show p*16=16*p by omega)
    exact wC
  rw[CB w]at a |-
  refine ZP ?_
  refine CH rfl rfl ?_;exact wC
def FQ(h:ac)(t size:Int)(hs:ac.sml h)(l:bg h [])(P:k7 h=true):∃E,rm (eI h t size).1 E/\zzA 17 true [.val (some 24) (ac.enc .S h),.val none [I t],.val none [I size]] (.tup [some 24,none,none]) (Nb (eI h t size).1 E++[I (eI h t size).2.1,I (eI h t size).2.2]):=by
 have hl:=l.lens;have hlc:=hl.caches;have Q:=hl.objs;have r:=l.nums;unfold cg at r;rw[C0]at r;have R:=np l.objSz h.M.length (V3 _);change 0<=o9 h/\o9 h<=_ at R;have p:=Jg h hs;have o:=cT h hs;rw[P]at o;have q:=aI t 0 ((h.T.length:Int) - 1);have u:=aI size 1 1000;have F:=Af h l.objSz ω;have G:=lr size;unfold eI;by_cases h1:1000000<=h.o
 ·rw[CC (.inl h1)]
  refine⟨_,rm.own _,?_⟩;change am _ _ _ _ _ (gL _++_);refine fP 108 [(65,[2,0,0]),(66,[2,0]),(67,[1,0,1])] [(8,6,[47,48,49,50,51,52])] Tryz.func17 rfl ?_ (.inl rfl)
  refine ZB ?_
  rfl
 by_cases h2:90000<h.H.Calls
 ·rw[CC (.inr h2)]
  refine⟨_,rm.own _,?_⟩;change am _ _ _ _ _ (gL _++_);refine fP 108 [(65,[2,0,0]),(66,[2,0]),(67,[1,0,1])] [(8,6,[47,48,49,50,51,52])] Tryz.func17 rfl ?_ (.inl rfl)
  repeat'(first|refine gB ?_|with_reducible refine Bf.D (λb=>?_) (λb=>?_))
  rfl
 rw[CB ω];by_cases B:¬(0<=t/\t<=h.T.length - 1)
 ·rw[CC B]
  rw[W0 B]at q;refine⟨_,rm.own _,?_⟩;change am _ _ _ _ _ (gL _++_);refine fP 108 [(65,[2,0,0]),(66,[2,0]),(67,[1,0,1])] [(8,6,[47,48,49,50,51,52])] Tryz.func17 rfl ?_ (.inl rfl)
  repeat'(first|refine gB ?_|with_reducible refine Bf.D (λb=>?_) (λb=>?_))
  rfl
 rw[CB B];replace B:=Decidable.not_not.1 B;rw[O0 B]at q;by_cases y:¬(1<=size/\size<=1000)
 ·rw[CC y]
  rw[W0 y]at u;refine⟨_,rm.own _,?_⟩;change am _ _ _ _ _ (gL _++_);refine fP 108 [(65,[2,0,0]),(66,[2,0]),(67,[1,0,1])] [(8,6,[47,48,49,50,51,52])] Tryz.func17 rfl ?_ (.inl rfl)
  repeat'(first|refine gB ?_|with_reducible refine Bf.D (λb=>?_) (λb=>?_))
  rfl
 rw[CB y];replace y:=Decidable.not_not.1 y;rw[O0 y]at u;by_cases h5:h.b7<o9 h+size
 ·rw[CC h5]
  refine⟨_,rm.own _,?_⟩;change am _ _ _ _ _ (gL _++_);refine fP 108 [(65,[2,0,0]),(66,[2,0]),(67,[1,0,1])] [(8,6,[47,48,49,50,51,52])] Tryz.func17 rfl ?_ (.inl rfl)
  repeat'(first|refine gB ?_|with_reducible refine Bf.D (λb=>?_) (λb=>?_))
  rfl
 rw[CB h5];by_cases H:0<=aS size
 ·rw[CC H]
  have hc3:aS size<=3:=by unfold aS;repeat' split<;>omega
  obtain⟨T,rfl⟩:=I3 B.1;obtain⟨K,hK⟩:=I3 H;obtain⟨E,C,d⟩:=xX h T K l ω ω ω;have s:=qY (t:=T) (c:=K) l ω ω ω;rw[hK]at G |-;simp only[C3];generalize eJ h T K=w at d s C |-;obtain⟨g,a⟩:=w;have e:g.o=h.o:=s.nx;simp only at d |-;by_cases J:a<0
  ·rw[CC J]
   rw[W0 ω]at d;refine⟨E,C,?_⟩;refine fP 108 [(65,[2,0,0]),(66,[2,0]),(67,[1,0,1])] [(8,6,[47,48,49,50,51,52])] Tryz.func17 rfl ?_ (.inl rfl)
   repeat'(first|refine gB ?_|with_reducible refine Bf.D (λb=>?_) (λb=>?_))
   rfl
  rw[CB J];rw[O0 ω]at d;obtain⟨k1,k2⟩:=s.yes (show(0:Int)<=a by omega);have S:g.M.length<=512:=k1.lens.objs;have U:1<=g.o/\g.o<=1000000:=ω
  refine⟨E,C,?_⟩;refine fP 108 [(65,[2,0,0]),(66,[2,0]),(67,[1,0,1])] [(8,6,[47,48,49,50,51,52])] Tryz.func17 rfl ?_ (.inl rfl)
  repeat'(first|refine gB ?_|with_reducible refine Bf.D (λb=>?_) (λb=>?_))
  refine CF (ι:=Nat) (λi=>[(1,.G .one [I ((T:Nat):Int)]),(2,.G .one [I (size)]),(3,.G .box (ac.enc .S h)),(6,.G .box (md)),(9,.G .box (Nb g E)),(10,.G .one [I (a)]),(13,.G .one [I ((i:Nat):Int)])]) (λi=>i<=g.M.length/\∀(j:Nat)(z:bi),j<i->g.M[j]? = some z->KI a z=false) (λi=>g.M.length - i) (0) ?_ (⟨X0 _,λj z hj=>ω⟩) λi l=>?_
  ·exact wC
  obtain⟨V,L⟩:=l;by_cases W:i<g.M.length/\(nth g.M i).Addr<a
  ·have k:=ar W.1
   refine ZE ?_
   (refine CD (i+1) ⟨ω,ep k (W0 ω) L⟩ ω ?_;(exact wC))
  have n:kw (KI a) g.M=i:=my ω L λz M=>by
   have X:=(Z2.1 M).1;have:z=nth g.M i:=(b8 M).symm;subst this;exact O0 ω
  have k:i<g.M.length->g.M[i]? = some (nth g.M i):=λY=>ar Y
  have Z:=zv g.M i ⟨h.o,a,size,(T:Nat)⟩ ω ω;rw[show addO g a size (T:Nat) = {g with M:=g.M.take i++⟨g.o,a,size,(T:Nat)⟩::g.M.drop i,o:=g.o+1} by unfold addO;rw[mz n],e]
  repeat'(first|refine gE ?_|with_reducible (first|refine CA (aa (k ω)) ?_|refine Bf.D (λb=>?_) (λb=>?_))|refine CE rfl (aa (k ω)) rfl ?_)
  all_goals
   rw[e];rfl
 rw[CB H];have N:9<=size:=by unfold aS at H;repeat' split at H<;>omega
 have d:=yw h size l ⟨N,y.2⟩ ω;rw[BY t l ⟨N,y.2⟩];have hg:(Bc h size).1.o=h.o/\(Bc h size).1.M=h.M:=by
  unfold Bc;split
  ·exact⟨rfl,rfl⟩
  split<;>exact⟨rfl,rfl⟩
 generalize Bc h size=w at d hg |-;obtain⟨g,a⟩:=w;obtain⟨e,O⟩:=hg;simp only at d e O |-;have S:g.M.length<=512:=by rw[O];exact Q
 have U:1<=g.o/\g.o<=1000000:=ω
 by_cases J:a<0
 ·rw[CC J]
  rw[W0 ω]at d;refine⟨_,rm.own _,?_⟩;change am _ _ _ _ _ (gL _++_);refine fP 108 [(65,[2,0,0]),(66,[2,0]),(67,[1,0,1])] [(8,6,[47,48,49,50,51,52])] Tryz.func17 rfl ?_ (.inl rfl)
  repeat'(first|refine gB ?_|with_reducible refine Bf.D (λb=>?_) (λb=>?_))
  rfl
 rw[CB J];rw[O0 ω]at d;refine⟨_,rm.own _,?_⟩;change am _ _ _ _ _ (gL _++_);refine fP 108 [(65,[2,0,0]),(66,[2,0]),(67,[1,0,1])] [(8,6,[47,48,49,50,51,52])] Tryz.func17 rfl ?_ (.inl rfl)
 repeat'(first|refine gB ?_|with_reducible refine Bf.D (λb=>?_) (λb=>?_))
 refine CF (ι:=Nat) (λi=>[(1,.G .one [I (t)]),(2,.G .one [I (size)]),(3,.G .box (ac.enc .S h)),(6,.G .box (md)),(9,.G .box (gL g)),(10,.G .one [I (a)]),(13,.G .one [I ((i:Nat):Int)])]) (λi=>i<=g.M.length/\∀(j:Nat)(z:bi),j<i->g.M[j]? = some z->KI a z=false) (λi=>g.M.length - i) (0) ?_ (⟨X0 _,λj z hj=>ω⟩) λi l=>?_
 ·exact wC
 obtain⟨V,L⟩:=l;by_cases W:i<g.M.length/\(nth g.M i).Addr<a
 ·have k:=ar W.1
  refine ZE ?_
  (refine CD (i+1) ⟨ω,ep k (W0 ω) L⟩ ω ?_;(exact wC))
 have n:kw (KI a) g.M=i:=my ω L λz M=>by
  have X:=(Z2.1 M).1;have:z=nth g.M i:=(b8 M).symm;subst this;exact O0 ω
 have k:i<g.M.length->g.M[i]? = some (nth g.M i):=λY=>ar Y
 have Z:=zv g.M i ⟨h.o,a,size,t⟩ ω ω;rw[show addO g a size t = {g with M:=g.M.take i++⟨g.o,a,size,t⟩::g.M.drop i,o:=g.o+1} by unfold addO;rw[mz n],e]
 repeat'(first|refine gE ?_|with_reducible (first|refine CA (aa (k ω)) ?_|refine Bf.D (λb=>?_) (λb=>?_))|refine CE rfl (aa (k ω)) rfl ?_)
 all_goals
  rw[e];rfl
def cl(k:ah)(f c:Nat):Int:=nth (nth k.F.V.W f) c
structure At(k:ah)(a:Int)(f c:Nat):Prop where
 m:(ax k.F.Q (a / 16)).k≠0
 f:(ax k.F.Q (a / 16)).e=f
 c:a % 16=c
def At.cell{k:ah}{a:Int}(h:At k a f c):vn k a=cl k f c:=by
 unfold vn cl;rw[h.f,h.c,C3,C3]
structure Vj(h h':ac)(x:bi):Prop where
 mem:∀o,o∈h'.M↔o=x\/o∈h.M
 ze:∀j:Int,0<=j->j<x.a1->vn h'.H (x.Addr+j)=0
 ke:∀o∈h.M,∀j:Int,0<=j->j<o.a1->vn h'.H (o.Addr+j)=vn h.H (o.Addr+j)
def hE(h:ac)(k:ah):ac:={h with H:=k,a2:=false,a5:=⟨⟨0,0,[]⟩,0,0⟩}
def sm{α:Type}(f:α->Int):List α->Int
 | []=>0
 | a::l=>f a+sm f l
def cells1(xs:List Int)(i:Nat)(h:i<xs.length):[rI .S (nth xs i)]=((xs.map (rI .S)).take (i+1)).drop i:=by
 rw[List.drop_take,<-V4,fN h,show i+1 - i=1 by omega]
 rfl
def EO(k:ah)(j:cz)(c:aJ k=true)(D:jA j=true):zzA 493 false [.val (some 5) (ah.enc .S k),.val (some 5) (cz.enc .S j)] (.tup [some 5,some 5]) (ah.enc .own (gj k j).1++cz.enc .own (gj k j).2):=by
 obtain⟨F,Y,Z,Q,j6⟩:=fV.1 D;have R:=lW F;have y:=aZ c;have g:=gm k y;have l:=tc j (uR D);have b:=gV k y;rw[c,Bool.and_true]at b;have o:=yF j (uR D);rw[D]at o;have d:=eX k j.b.a7 y.1.2;have p:=eX k j.b.a9 y.1.2;have r:=cN k.F.Q j.b.a7 y.1.2;have t:=cN k.F.Q j.b.a9 y.1.2;have L:=(bq.1 (aH.1 c).2.2.1).2.2;have S:=(aY.1 (aH.1 c).2.1).2.2.1;have q:jmay k j=false->gj k j=(k,j):=λe=>by unfold gj;rw[e];rfl
 refine fO 149 [(1,262,[11,12,13,14,15,16,0,1,2,3,4,5,6,1003,1004,1005,7]),(2,6,[17,18,19,20,8,9]),(3,33,[21,22,23,24,25,26,27,28,29,30,31,32,33,34,35,36,37,38,39,40,41,42,43,44,45,46,47,48,49,50,51,52,53]),(4,258,[56,57,0,1,2,1001,3]),(15,272,[82,83,84,85,86,87,88,89,90,91,92,93,94,81,95,96,0,1,2,3,4,5,6,7,8,9,10,11,12,13,14,15,16,1015]),(25,273,[123,124,125,126,127,128,129,130,131,132,133,134,135,122,136,137,138,0,1,2,3,4,5,6,7,8,9,10,11,12,13,14,15,16,17,1015]),(29,258,[147,148,0,1,2,1001,3])] Tryz.func493 rfl ?_ (.inr (aB (CX _) (cz.enc_fr _)));by_cases u:k.Calls=100000
 ·rw[W0 (λn=>n u)]at b
  rw[q (by rw[<-W5,gJ];exact λh=>h.1.2 u)]
  refine ZP ?_
  rfl
 rw[O0 u]at b;by_cases B:(ax k.F.Q j.b.a7).k=0
 ·rw[W0 (λn=>n B)]at d
  rw[q (by rw[<-W5,gJ];exact λh=>h.2.2.1 B)]
  refine ZP ?_
  rfl
 rw[O0 B]at d;by_cases w:(ax k.F.Q j.b.a9).k=0
 ·rw[W0 (λn=>n w)]at p
  rw[q (by rw[<-W5,gJ];exact λh=>h.2.2.2.1 w)]
  refine ZP ?_
  rfl
 rw[O0 w]at p;by_cases G:(ax k.F.Q j.b.a7).e=(ax k.F.Q j.b.a9).e
 ·rw[q (by rw[<-W5,gJ];exact λh=>h.2.2.2.2 G)]
  refine ZB ?_
  rfl
 have T:jmay k j=true:=gJ.2 ⟨⟨c,u⟩,D,B,w,G⟩;rw[show gj k j=jstep k j by unfold gj;rw[T];rfl];have H:j.b.a9≠j.b.a7:=λe=>G (by rw[e])
 unfold jstep;by_cases M:j.b1=0
 ·rw[CC M]
  have a:=rq k j.b.a9 1 c u w (.inl rfl);cases e:(iX k j.b.a9 1).2<;>rw[e]at a
  all_goals
   refine ZB ?_
   rfl
 rw[CB M];by_cases N:j.b1=1
 ·rw[CC N]
  by_cases E:j.o=j.b.W.length
  ·rw[CC E]
   refine ZB ?_
   rfl
  rw[CB E];obtain⟨n,C⟩:=I3 Q;have a:=Jd k j.b.a9 j.b.a7 (nth j.b.W j.o.toNat) c u w B (jM F ω);rw[C,C3]at a;have J:n<j.b.W.length:=ω
  rw[show nth j.b.W j.o.toNat=nth j.b.W n by rw[C];rfl]
  repeat'(first|refine gB ?_|refine Sl.mid (rows':=[rI .S (nth j.b.W n)]) n (n+1) C ω ω (by rw[I1];omega) (aK λ_=>rfl) (cells1 _ _ J) ?_)
  rfl
 rw[CB N];by_cases O:j.b1=2
 ·rw[CC O]
  have a:=Hi k j.b.a9 j.b.a7 c u w B H;cases e:(Ag k j.b.a9 j.b.a7).2<;>rw[e]at a
  all_goals
   refine ZB ?_
   rfl
 rw[CB O];by_cases K:j.b1=3
 ·rw[CC K]
  obtain⟨p1,p2,p3,U,p5⟩:=bM c B;by_cases E:0<j.o
  ·rw[CC E]
   have P:=jM F (i:=(j.o - 1).toNat) ω;have V:=ar (xs:=j.b.W) (i:=(j.o - 1).toNat) ω;have W:0<=j.b.a7*16+nth j.b.W (j.o - 1).toNat/\j.b.a7*16+nth j.b.W (j.o - 1).toNat<512:=ω
   have X:(j.b.a7*16+nth j.b.W (j.o - 1).toNat) / 16=j.b.a7:=ω
   have a:=y1 k.F (j.b.a7*16+nth j.b.W (j.o - 1).toNat) 0 (gZ c) y.1 W ω (λ_=>by rw[X];exact⟨U,ω,row16 c (f:=jx k j.b.a7) (by unfold jx;omega)⟩);generalize (gI k.F (j.b.a7*16+nth j.b.W (j.o - 1).toNat) 0).1=m at a |-;generalize (gI k.F (j.b.a7*16+nth j.b.W (j.o - 1).toNat) 0).2=e at a
   repeat'(first|refine gB ?_|refine CK ω (aa V) ?_)
   rfl
  rw[CB E];have a:=rq k j.b.a9 2 c u w (.inr rfl);cases e:(iX k j.b.a9 2).2<;>rw[e]at a
  all_goals
   refine ZB ?_
   first|rfl|(rw[<-K];rfl)
 rw[CB K]
 refine ZB ?_
 rfl
def U7(h:ac):Int:=(gj h.H h.a5).2.b1
def B2(h:ac)(l:bg h [])(n:h.a2=true)(o:ac.sml h)(t:h.H.Calls<=99000):zzA 387 false [.val (some 24) (ac.enc .S h)] (.tup [some 24,none,none]) (ac.enc .own (mStep h)++[I (U7 h),B true]):=by
 obtain⟨q,-,-⟩:=l.job n;have i:=iu h o;have c:=cT h o;rw[ee,l.to]at c;have j:=EO h.H h.a5 l.ker q;have a:=aB (b:=[I (U7 h),B true]) (ac.enc_fr (mStep h)) ⟨trivial,trivial,trivial⟩;unfold U7 mStep at a |-;generalize gj h.H h.a5=r at j a |-;have d:(ac.enc .S h)=(ac.enc .S h).set 18 (B true):=by rw[<-n];rfl
 rw[d];rw[d]at i c;by_cases e:r.2.b1=4
 ·rw[CC (show over r.2=true from O0 (.inl e)),CC (show over r.2=true from O0 (.inl e))]at a |-
  refine fO 51 [(3,260,[23,24,25,26,0,1,2,3,4,1001,1002,1003,5,6])] Tryz.func387 rfl ?_ (.inr a)
  repeat'((conv=>whnf);first|with_reducible (first|refine Lm ?_|refine Wm ω ?_|refine dF ω (λg=>?_)|refine eT ω (λg=>?_)|refine eF ω (λg=>?_)|refine Bn ?_|refine jo.wk rfl ?_)|refine Bt ?_|refine Bu ?_|refine C9 ?_|refine C8 (i) ?_|refine C8 (c) ?_|refine C8 (j) ?_|refine C9 ?_)
  rw[e];exact wC
 by_cases k:r.2.b1=5
 ·rw[CC (show over r.2=true from O0 (.inr k)),CC (show over r.2=true from O0 (.inr k))]at a |-
  refine fO 51 [(3,260,[23,24,25,26,0,1,2,3,4,1001,1002,1003,5,6])] Tryz.func387 rfl ?_ (.inr a)
  repeat'((conv=>whnf);first|with_reducible (first|refine Lm ?_|refine Wm ω ?_|refine dF ω (λg=>?_)|refine eT ω (λg=>?_)|refine eF ω (λg=>?_)|refine Bn ?_|refine jo.wk rfl ?_)|refine Bt ?_|refine Bu ?_|refine C9 ?_|refine C8 (i) ?_|refine C8 (c) ?_|refine C8 (j) ?_|refine C9 ?_)
  rw[k];exact wC
 have p:¬over r.2=true:=by unfold over;simp[e,k]
 rw[CB p,CB p]at a |-;refine fO 51 [(3,260,[23,24,25,26,0,1,2,3,4,1001,1002,1003,5,6])] Tryz.func387 rfl ?_ (.inr a)
 refine ZB ?_
 rw[n]
 rfl
section
variable{P:Program}{w0 w w1:World}{M S0 S:af}{N:fo}{φ:Nat->af}{F:Nat->AV}{a:Act}{TE:Nat->Option TI}
end
def Mj{S Y:af}{t:List C}{u:Nat->Value}(d:cC w S Y (ac.enc .own h++t) u):cC w S Y (cY h++t) u:=by
 obtain⟨f,b,e,g⟩:=d;refine⟨f,λj c a=>?_,e,g⟩;have i:cY h++t=(((ac.enc .own h++t).set 6 (oS h)).set 7 (oL h)).set 8 (oO h):=rfl;rw[i]at a;by_cases k:j=8
 ·subst k
  have:c=oO h:=by simpa[ac.enc] using a.symm
  rw[this];exact sB (b 8 _ rfl)
 by_cases l:j=7
 ·subst l
  have:c=oL h:=by simpa[ac.enc] using a.symm
  rw[this];exact sB (b 7 _ rfl)
 by_cases n:j=6
 ·subst n
  have:c=oS h:=by simpa[ac.enc] using a.symm
  rw[this];exact sB (b 6 _ rfl)
 rw[List.getElem?_set_ne ω,List.getElem?_set_ne ω,List.getElem?_set_ne ω]at a;exact b j c a
def am.E{sh:Bool}{A:List RA}{k:Kd}{t:List C}(c:am P f sh A k (ac.enc .own h++t)):am P f sh A k (cY h++t):=by
 obtain⟨a,b⟩:=c;refine⟨a,λw S d g i=>(b w S d g i).mono λe w1 j=>?_⟩;obtain⟨v,l,n,X,S1,o,p,q,r,u⟩:=j;exact⟨v,l,n,X,S1,o,p,q,r,Mj u⟩
def wn(h:ac)(a:ac.sml h)(b:h.a2=false):zzA 387 false [.val (some 24) (ac.enc .S h)] (.tup [some 24,none,none]) (cY h++[I h.a5.b1,B false]):=by
 have c:=dt h a;refine fO 51 [(3,260,[23,24,25,26,0,1,2,3,4,1001,1002,1003,5,6])] Tryz.func387 rfl ?_ (.inr (aB (bX _) ⟨trivial,trivial,trivial⟩))
 repeat'(first|refine gP ?_|refine Bf.f b ?_)
 rfl
def stp1(h:ac):ac:=if h.a2=true then mStep h else h
def Jj(h:ac)(d:bg h [])(b:ac.sml h)(e:h.H.Calls<=99000):zzA 269 false [.val (some 24) (ac.enc .S h)] (.tup [some 24,none]) (cY (stp1 h)++[B h.a2]):=by
 unfold stp1;cases c:h.a2 with
 | true=>
  rw[CC rfl];have a:=(B2 h d c b e).E;generalize mStep h=g at a |-;refine fO 15 [] Tryz.func269 rfl ?_ (.inr (aB (bX _) ⟨trivial,trivial⟩))
  refine ZP ?_
  rfl
 | false=>
  rw[CB (by simp)];have a:=wn h b c;refine fO 15 [] Tryz.func269 rfl ?_ (.inr (aB (bX _) ⟨trivial,trivial⟩))
  refine ZP ?_
  rfl
def wZ(q:bt)(now:Int)(l:fQ q=true)(M:q.q.length<=4096)(F:0<=now/\now<=1000000)(b:∀y∈q.q,y.b2<=1000000):zzA 411 false [.val (some 2) (bt.enc .S q),.val none [I now],.val none [I 100]] (.tup [some 2,none]) (Hv q now):=by
 have p:bt.sml q:=⟨ω,λ_ _=>trivial⟩
 have G:=mF q p;have r:=qr q p;rw[l]at r;have t:=aI now 0 1000000;rw[O0 F]at t;have u:=aI 100 0 1000000;rw[O0 (by decide)]at u;have n:=(iz.1 l).1;have a:g0 (Hv q now):=aB (bt.enc_fr _) (m0 _);have w:∀i,i<q.q.length->0<=(nth q.q i).b2:=λi c=>(n _ (au c)).2.2.2
 unfold Hv at a |-;generalize H:ou now q.q=k at a |-;refine fO 59 [] Tryz.func411 rfl ?_ (.inr a)
 refine ZP ?_
 refine Lp.fz 8 (ι:=Nat) (λi=>[(1,.G .one [I now]),(2,.G .one [I 100]),(3,.G .box (bt.enc .S q)),(6,.G .box [I 0,.z]),(8,.G .box (bt.enc .S q)),(9,.G .one [I (i:Nat)])]) (λi=>i<=q.q.length/\∀j,j<i->(nth q.q j).b2<now - 100) (λi=>q.q.length - i) 0 ?_ ⟨X0 _,λj J=>ω⟩ λi c=>?_
 ·(repeat'(first|exact trivial|rfl|exact CJ rfl (show LZ (dB (bt.enc .own q)) (bt.enc .S q) by rw[bt.enc_fz];exact kF _)|refine CJ ?_ ?_))
 obtain⟨c,B⟩:=c;by_cases d:i<q.q.length/\(nth q.q i).b2<now - 100
 ·have g:=ar d.1
  have:=w i d.1;have:=b _ (au d.1)
  refine ZE ?_
  (refine CD (i+1) ⟨ω,λj J=>by by_cases e:j=i;(subst e;exact d.2);exact B j ω⟩ ω ?_;(exact wC))
 have h:=EZ now (i:=i) c B (λK L=>d ⟨K,L⟩);rw[H]at h;subst h;have C:=l9 (q.q.take k) (by rw[C2];omega);have E:=l9 (q.q.drop k) (by rw[Y3];omega);by_cases o:k<q.q.length
 ·have g:=ar o
  have:=w k o;have:=b _ (au o)
  repeat'(first|refine gE ?_|with_reducible refine Bf.D (λl=>?_) (λl=>?_)|refine CS k rfl (by rw[I1];omega) (aK λ_=>rfl) O4 ?_|refine CW k rfl (by rw[I1];omega) (aK λ_=>rfl) V4 ?_)
  rfl
 repeat'(first|refine gE ?_|refine CS k rfl (by rw[I1];omega) (aK λ_=>rfl) O4 ?_|refine CW k rfl (by rw[I1];omega) (aK λ_=>rfl) V4 ?_)
 rfl
def MH(h:ac)(xs:List aQ)(k:Nat)(a:k<xs.length):freeAs h ((xs.take (k+1)).map (·.Addr))=freeA (freeAs h ((xs.take k).map (·.Addr))) (nth xs k).Addr:=by
 unfold freeAs;rw[X5,ar a];simp
def Br(h:ac)(n:Int)(o:ac.sml h)(c:bg h [])(u:h.H.Calls≠100000)(p:0<=n/\n<=1000)(e:h.a8+n<=1000000):zzA 268 false [.val (some 24) (ac.enc .S h),.val none [I n]] (.tup [some 24,none]) (cY (tick h n)++[I ((ly h n).length:Nat)]):=by
 have w:=dt h o;have q:=cT h o;rw[ee,c.to]at q;have r:=aI n 0 1000;rw[O0 p]at r;have a:=c.nums;unfold cg at a;rw[C0]at a;have B:=c.lens.quar;have t:=wZ h.a3 (h.a8+n) c.quar ω ω (λy C=>by have:=c.snc y C;omega);unfold Hv at t;have b:=c.aged (n:=n) p.1 e;have D:((h.a3.q.take (ou (h.a8+n) h.a3.q))).length<=512:=by rw[C2];omega
 have g:ly h n=(h.a3.q.take (ou (h.a8+n) h.a3.q)).map (·.Addr):=rfl;have E:cY (aged h n)=((cY h).set 15 (I (h.a8+n))).set 13 (.s .own ((h.a3.q.drop (ou (h.a8+n) h.a3.q)).map (aQ.enc .own))):=rfl;unfold tick;rw[g]at b |-;rw[List.append_nil]at b;generalize h.a3.q.take (ou (h.a8+n) h.a3.q)=out at *;refine fP 63 [(247,[2,0])] [] Tryz.func268 rfl ?_ (.inr (aB (bX _) ⟨trivial,trivial⟩))
 refine ZB ?_
 refine CF (ι:=Nat) (λk=>[(4,.G .box md),(6,.G .box (cY (freeAs (aged h n) ((out.take k).map (·.Addr))))),(8,.G .one (cr .own out)),(50,.c2 8 0 [] none),(51,.G .one [I (out.length)]),(52,.G .one [I ((k:Nat):Int)])]) (λk=>k<=out.length) (λk=>out.length - k) (0) ?_ (X0 _) λk G=>?_
 ·exact wC
 by_cases i:k<out.length
 ·have d:=ar i
  have j:out.map (·.Addr)=(out.take k).map (·.Addr)++(nth out k).Addr::(out.drop (k+1)).map (·.Addr):=by
   conv=>lhs;rw[<-List.take_append_drop k out,fN i]
   simp
  have l:bg (freeAs (aged h n) ((out.take k).map (·.Addr))) ((nth out k).Addr::(out.drop (k+1)).map (·.Addr)):=bg.freeAs (by rw[<-j];exact b);have F:=kR _ _ _ l (by rw[(iN _ _).2.2.1];exact u)
  refine ZE ?_
  (refine CD (k+1) ω ω ?_)
  rw[MH _ out k i];exact wC
 obtain rfl:k=out.length:=ω
 rw[I5]
 refine ZE ?_
 rw[I1]
 rfl
def am.fzE{sh:Bool}{A:List RA}{k:Kd}{g:ac}{x:C}(c:am P f sh A k (cY g++[x]))(b:fz x=x):am P f sh A k (ac.enc .S g++[x]):=by
 have a:=c.fzR;rw[bU,Ee]at a;change am _ _ _ _ _ (_++[fz x]) at a
 rwa [b]at a
def DN(h:ac)(t:Int)(a:ac.sml h)(c:bg h [])(d:¬(h.H.Calls≠100000/\0<=t/\t<=h.T.length - 1)):zzA 91 false [.val (some 24) (ac.enc .S h),.val none [I t]] (.tup [some 24,none]) (cY h++[I 0]):=by
 have e:=dt h a;have b:=oh h t a;rw[c.to,show(decide (0<=t/\t<=h.T.length - 1)&&decide (h.H.Calls≠100000)&&true)=false by
   rw[Bool.and_true,<-W5,I0,C0,C0];exact λx=>d ⟨x.2,x.1⟩]at b
 refine fP 52 [(247,[2,0])] [] Tryz.func91 rfl ?_ (.inr (aB (bX _) ⟨trivial,trivial⟩))
 refine ZP ?_
 rfl
def G6(h:ac)(n:Int)(g:ac.sml h)(i:bg h [])(j:¬(h.H.Calls≠100000/\(0<=n/\n<=1000)/\h.a8+n<=1000000)):zzA 268 false [.val (some 24) (ac.enc .S h),.val none [I n]] (.tup [some 24,none]) (cY h++[I 0]):=by
 have d:=dt h g;have b:=cT h g;rw[ee,i.to]at b;have c:=aI n 0 1000;have a:=i.nums;unfold cg at a;rw[C0]at a;by_cases k:h.H.Calls=100000
 ·refine fP 63 [(247,[2,0])] [] Tryz.func268 rfl ?_ (.inr (aB (bX _) ⟨trivial,trivial⟩))
  refine ZB ?_
  rfl
 by_cases e:0<=n/\n<=1000
 ·rw[O0 e]at c
  have l:¬h.a8+n<=1000000:=λx=>j ⟨k,e,x⟩
  refine fP 63 [(247,[2,0])] [] Tryz.func268 rfl ?_ (.inr (aB (bX _) ⟨trivial,trivial⟩))
  refine ZB ?_
  rfl
 rw[W0 e]at c;refine fP 63 [(247,[2,0])] [] Tryz.func268 rfl ?_ (.inr (aB (bX _) ⟨trivial,trivial⟩))
 refine ZB ?_
 rfl
def F9(h:ac)(a:ac.sml h)(b:h.a2=true)(d:99000<h.H.Calls):zzA 387 false [.val (some 24) (ac.enc .S h)] (.tup [some 24,none,none]) (cY h++[I h.a5.b1,B false]):=by
 have c:=dt h a;refine fO 51 [(3,260,[23,24,25,26,0,1,2,3,4,1001,1002,1003,5,6])] Tryz.func387 rfl ?_ (.inr (aB (bX _) ⟨trivial,trivial,trivial⟩))
 repeat'(first|refine gE ?_|refine Bf.t b ?_)
 rfl
def ED(h:ac)(i:bg h [])(a:ac.sml h):zzA 269 false [.val (some 24) (ac.enc .S h)] (.tup [some 24,none]) (cY (if nE h=true then mStep h else h)++[B (nE h)]):=by
 by_cases b:h.H.Calls<=99000
 ·have c:=Jj h i a b
  unfold stp1 at c;have e:nE h=h.a2:=by unfold nE;rw[O0 b,Bool.and_true]
  rw[e];exact c
 have e:nE h=false:=by unfold nE;rw[W0 b,Bool.and_false]
 rw[e,CB (by simp)];cases g:h.a2 with
 | true=>
  have d:=F9 h a g ω;refine fO 15 [] Tryz.func269 rfl ?_ (.inr (aB (bX _) ⟨trivial,trivial⟩))
  refine ZP ?_
  rfl
 | false=>
  have d:=wn h a g;refine fO 15 [] Tryz.func269 rfl ?_ (.inr (aB (bX _) ⟨trivial,trivial⟩))
  refine ZP ?_
  rfl
def Lc(h:ac):∀k,(kr h k).2<=k
 | 0=>V3 _
 | k+1=>by
  have:=Lc h k;unfold kr;split
  ·show(kr h k).2+1<=_;omega
  omega
def QG{w:bw}{m:Nat}(h:nl w m)(d:gr w.Y.H.d)(k:Nat)(f:k<=50):ac.sml (kr w.Y k).1:=by
 have e:∀a:cn,a.b0=10->a.N=(k:Nat)->(mw w a).1.Y=(kr w.Y k).1:=λa c b=>by
  unfold mw;rw[CB ω,CB ω,CB ω,CB ω,CB ω,CC ω];show(kr w.Y a.N.toNat).1=_;rw[b];rfl
 have c:=h.act ⟨10,0,(k:Nat),0,0⟩;have b:=GI h ⟨10,0,(k:Nat),0,0⟩;unfold rfs at b;rw[<-e ⟨10,0,(k:Nat),0,0⟩ rfl rfl];exact(c.fit (by rw[b];exact d)).1
def Bq(w:bw)(a:cn)(i m:Nat)(h:nl w m)(T:m<=900)(o:ac.sml w.Y)(p:i<w.Y.M.length):zzA 264 true [.val (some 26) (bw.enc .S w),.val (some 5) (cn.enc .S a),.val (some 4) (bi.enc .S (nth w.Y.M i))] (.tup [some 26,none]) (bw.enc .S (mc w a i).1++[I (mc w a i).2]):=by
 have d:=h.inv;have K:=nh d (au p);have M:=jH d (au p) (k:=0);have N:1<=(nth w.Y.M i).a1/\(nth w.Y.M i).a1<=1000:=by
  rcases d.oow _ (au p) with⟨s,o,U,G⟩|⟨l,B,c,g⟩
  ·have V:=aL (d.L.sok s o)
   have:=oQ (n:=(nth w.Y.M i).a1) ω;omega
  have W:=cF (d.L.lok l B);omega
 have C:jB w.Y (nth w.Y.M i).Addr=i:=by
  obtain⟨G,y,-⟩:=d.objAt (au p);exact gz (f:=(·.Addr)) (gp d.osr) G p (by rw[y])
 have O:=d.lens.caches;unfold mc;by_cases H:a.b0=2
 ·rw[CC H]
  unfold te;by_cases c:w.Y.H.Calls=100000
  ·rw[CC c]
   have j:=(DP w.Y a.a0 (nth w.Y.M i).Addr o d.to c).fzE rfl;refine fO 102 [] Tryz.func264 rfl ?_ (.inl rfl)
   repeat'(first|refine gB ?_|with_reducible refine Bf.E (λb=>?_) (λb=>?_)|refine Cl.sh j rfl ?_)
   rfl
  rw[CB c];by_cases g:0<=a.a0/\a.a0<=w.Y.T.length - 1
  ·rw[CC (show lO w.Y a from g)]
   obtain⟨t,P⟩:=I3 g.1;have j:=(EW w.Y (nth w.Y.M i) t o d.to c (au p) ω).fzE rfl;rw[C,<-P]at j;rw[show a.a0.toNat=t by omega];have Q:=Fd w.c3 (nth w.Y.M i).Id m h.ref ω;generalize freeT w.Y t i=f at j |-;by_cases q:f.2=0
   ·rw[CC q]
    refine fO 102 [] Tryz.func264 rfl ?_ (.inl rfl)
    repeat'(first|refine gB ?_|with_reducible refine Bf.E (λb=>?_) (λb=>?_)|refine Cl.sh Q rfl ?_)
    rfl
   rw[CB q];refine fO 102 [] Tryz.func264 rfl ?_ (.inl rfl)
   repeat'(first|refine gB ?_|with_reducible refine Bf.E (λb=>?_) (λb=>?_))
   rfl
  rw[CB (show ¬lO w.Y a from g)];have j:=(Fs w.Y a.a0 (nth w.Y.M i).Addr o d.to c g).fzE rfl;refine fO 102 [] Tryz.func264 rfl ?_ (.inl rfl)
  repeat'(first|refine gB ?_|with_reducible refine Bf.E (λb=>?_) (λb=>?_))
  rfl
 rw[CB H];by_cases J:a.b0=3
 ·rw[CC J]
  unfold pP;have r:=aI a.At 0 ((nth w.Y.M i).a1 - 1);by_cases c:0<=a.At/\a.At<=(nth w.Y.M i).a1 - 1;rotate_left
  ·rw[CC c]
   rw[W0 c]at r;refine fO 102 [] Tryz.func264 rfl ?_ (.inl rfl)
   repeat'(first|refine gB ?_|with_reducible refine Bf.E (λb=>?_) (λb=>?_))
   rfl
  rw[CB (I4 c)];rw[O0 c]at r;have D:0<=Hm w.Y ((nth w.Y.M i).Addr+a.At):=yk (au p) (O0 ω);by_cases q:0<=a.Value/\a.Value<=999;rotate_left
  ·have e:=(Bj w.Y ((nth w.Y.M i).Addr+a.At) a.Value o d q D).fzE rfl
   unfold tbl at e;by_cases g:(ax w.Y.H.F.Q (((nth w.Y.M i).Addr+a.At) / 16)).k=1
   ·rw[CC g]at e |-
    refine fO 102 [] Tryz.func264 rfl ?_ (.inl rfl)
    repeat'(first|refine gB ?_|with_reducible refine Bf.E (λb=>?_) (λb=>?_))
    rfl
   rw[CB g]at e |-;rw[CC q];refine fO 102 [] Tryz.func264 rfl ?_ (.inl rfl)
   repeat'(first|refine gB ?_|with_reducible refine Bf.E (λb=>?_) (λb=>?_))
   rfl
  have e:=(zS w.Y ((nth w.Y.M i).Addr+a.At) a.Value o d q).fzE rfl;unfold EE tbl at e;rw[CB (show ¬Hm w.Y ((nth w.Y.M i).Addr+a.At)<0 by omega)]at e;by_cases g:(ax w.Y.H.F.Q (((nth w.Y.M i).Addr+a.At) / 16)).k=1
  ·rw[CC g]at e |-
   refine fO 102 [] Tryz.func264 rfl ?_ (.inl rfl)
   repeat'(first|refine gB ?_|with_reducible refine Bf.E (λb=>?_) (λb=>?_))
   rfl
  rw[CB g]at e |-;rw[CB (I4 q)];obtain⟨X,R⟩:=AL w.c3 (nth w.Y.M i).Id a.At a.Value m h.ref ω q;simp only at e;refine fO 102 [] Tryz.func264 rfl ?_ (.inl rfl)
  repeat'(first|refine gB ?_|with_reducible refine Bf.E (λb=>?_) (λb=>?_)|refine Cl.sh R rfl ?_)
  rfl
 rw[CB J];unfold tf;have u:=(By w.Y i a.Value o d p).fzE rfl;by_cases c:w.Y.H.Calls≠100000/\hC w.Y i a.Value
 ·rw[CC c]at u |-
  rw[O0 c]at u;have F:=jU true;obtain⟨Y,S⟩:=DJ w.c3 (nth w.Y.M i).Id a.Value m h.ref ω;refine fO 102 [] Tryz.func264 rfl ?_ (.inl rfl)
  repeat'(first|refine gB ?_|with_reducible refine Bf.E (λb=>?_) (λb=>?_)|refine Cl.sh S rfl ?_)
  rfl
 rw[CB c]at u |-;rw[W0 c]at u;have F:=jU false;refine fO 102 [] Tryz.func264 rfl ?_ (.inl rfl)
 repeat'(first|refine gB ?_|with_reducible refine Bf.E (λb=>?_) (λb=>?_))
 rfl
def yc(w:bw)(a:cn)(m:Nat)(h:nl w m)(Y:m<=900)(O:gr w.Y.H.d):zzA 116 true [.val (some 26) (bw.enc .S w),.val (some 5) (cn.enc .S a)] (.tup [some 26,none]) (bw.enc .S (mw w a).1++[I (mw w a).2]):=by
 have l:=h.inv;have p:=(h.fit O).1;have C:=h.ref.sml (by omega:m<=1000);have g:=(xV w p C).fzR;rw[bw.enc_fz]at g;have i:=cT w.Y p;rw[ee,l.to]at i;have Z:=l.lens.objs;unfold mw;by_cases P:a.b0=1
 ·rw[CC P]
  obtain⟨cc,r,d⟩:=FQ w.Y a.a0 a.N p l (by rw[ee];exact l.to);have c:=d.fzR;rw[bU,Rt r]at c;change am _ _ _ _ _ (_++[I _,I _]) at c;by_cases e:(eI w.Y a.a0 a.N).2.2=0
  ·rw[CC e]
   have F:1<=a.N/\a.N<=1000:=by
    refine Classical.byContradiction λQ=>?_
    unfold eI at e;rw[CC Q]at e;split at e
    ·exact absurd (show(5:Int)=0 from e) (by decide)
    split at e
    ·exact absurd (show(1:Int)=0 from e) (by decide)
    exact absurd (show(2:Int)=0 from e) (by decide)
   have j:=AN w.c3 a.N m h.ref ω F;clear d r;generalize eI w.Y a.a0 a.N=f at c e |-;refine fO 148 [(15,11,[56,57,58,59,60,61,62,63,64,65,66])] Tryz.func116 rfl ?_ (.inl rfl)
   repeat'(first|refine gB ?_|with_reducible refine Bf.E (λb=>?_) (λb=>?_)|refine Cl.sh c rfl ?_|refine Cl.sh j rfl ?_)
   rfl
  rw[CB e];clear d r;generalize eI w.Y a.a0 a.N=f at c e |-;refine fO 148 [(15,11,[56,57,58,59,60,61,62,63,64,65,66])] Tryz.func116 rfl ?_ (.inl rfl)
  repeat'(first|refine gB ?_|with_reducible refine Bf.E (λb=>?_) (λb=>?_)|refine Cl.sh c rfl ?_)
  rfl
 rw[CB P];by_cases u:a.b0=2\/a.b0=3\/a.b0=4
 ·rw[CC u]
  have G:=jZ w.Y.M (ic a.N) ω;change am _ _ _ _ _ [I (lU w.Y a.N)]at G;by_cases e:lU w.Y a.N<0
  ·rw[CC e]
   rcases u with k|k|k
   all_goals
    refine fO 148 [(15,11,[56,57,58,59,60,61,62,63,64,65,66])] Tryz.func116 rfl ?_ (.inl rfl)
    repeat'(first|refine gB ?_|with_reducible (first|refine Bf.D (λb=>?_) (λb=>?_)|refine Bf.E (λb=>?_) (λb=>?_))|refine Cq.mk (pk (some 4) (bi.enc .S) (ic a.N) w.Y.M) (tz default a).has (λL k rcs H=>?_) ?_)
    ·obtain⟨y,-,rfl,rfl,rfl⟩:=H
     exact tz y a
    rfl
  rw[CB e];obtain⟨R,f2,f3⟩:=ek (KK a.N) w.Y.M (by unfold lU at e;omega);have S:=Bq w a (lU w.Y a.N).toNat m h Y p R;have J:=ar R;change w.Y.M[(lU w.Y a.N).toNat]? = _ at J;generalize mc w a (lU w.Y a.N).toNat=f at S |-;rcases u with k|k|k
  all_goals
   refine fO 148 [(15,11,[56,57,58,59,60,61,62,63,64,65,66])] Tryz.func116 rfl ?_ (.inl rfl)
   repeat'(first|refine gB ?_|with_reducible (first|refine Bf.D (λb=>?_) (λb=>?_)|refine Bf.E (λb=>?_) (λb=>?_))|refine Cq.mk (pk (some 4) (bi.enc .S) (ic a.N) w.Y.M) (tz default a).has (λL k rcs H=>?_) ?_|refine CK ω (aa J) ?_|refine Cl.sh S rfl ?_)
   ·obtain⟨y,-,rfl,rfl,rfl⟩:=H
    exact tz y a
   rfl
 rw[CB u];by_cases T:a.b0=5\/a.b0=6\/a.b0=7
 ·rw[CC T]
  unfold hJ;by_cases U:a.b0=5
  ·rw[CC U]
   have c:=vf w.Y a.a0 p l;by_cases e:(0<=a.a0/\a.a0<=w.Y.T.length - 1)/\0<(nth w.Y.j.U a.a0.toNat).length
   ·rw[CC (show lO w.Y a/\0<(nth w.Y.j.U a.a0.toNat).length from e)]
    rw[CC e,O0 e]at c;have j:=jU true;refine fO 148 [(15,11,[56,57,58,59,60,61,62,63,64,65,66])] Tryz.func116 rfl ?_ (.inl rfl)
    repeat'(first|refine gB ?_|with_reducible refine Bf.E (λb=>?_) (λb=>?_)|refine Cl.sh c rfl ?_)
    rfl
   rw[CB (show ¬(lO w.Y a/\0<(nth w.Y.j.U a.a0.toNat).length) from e)];rw[CB e,W0 e]at c;have j:=jU false;refine fO 148 [(15,11,[56,57,58,59,60,61,62,63,64,65,66])] Tryz.func116 rfl ?_ (.inl rfl)
   repeat'(first|refine gB ?_|with_reducible refine Bf.E (λb=>?_) (λb=>?_)|refine Cl.sh c rfl ?_)
   rfl
  rw[CB U];by_cases e:w.Y.H.Calls≠100000/\0<=a.a0/\a.a0<=w.Y.T.length - 1;rotate_left
  ·rw[CC (show ¬(w.Y.H.Calls≠100000/\lO w.Y a) from e)]
   by_cases K:a.b0=6
   ·have d:=nB w.Y a.a0 p l
    rw[CB e,CB e]at d;have c:=d.fzE rfl;refine fO 148 [(15,11,[56,57,58,59,60,61,62,63,64,65,66])] Tryz.func116 rfl ?_ (.inl rfl)
    repeat'(first|refine gB ?_|with_reducible refine Bf.E (λb=>?_) (λb=>?_))
    rfl
   have e7:a.b0=7:=ω
   have c:=(DN w.Y a.a0 p l e).fzE rfl;refine fO 148 [(15,11,[56,57,58,59,60,61,62,63,64,65,66])] Tryz.func116 rfl ?_ (.inl rfl)
   repeat'(first|refine gB ?_|with_reducible refine Bf.E (λb=>?_) (λb=>?_))
   rfl
  rw[CB (show ¬¬(w.Y.H.Calls≠100000/\lO w.Y a) from I4 e)];by_cases K:a.b0=6
  ·rw[CC K]
   have d:=nB w.Y a.a0 p l;rw[CC e,CC e]at d;have c:=d.fzE rfl;refine fO 148 [(15,11,[56,57,58,59,60,61,62,63,64,65,66])] Tryz.func116 rfl ?_ (.inl rfl)
   repeat'(first|refine gB ?_|with_reducible refine Bf.E (λb=>?_) (λb=>?_))
   rfl
  rw[CB K];have e7:a.b0=7:=ω
  obtain⟨t,ht⟩:=I3 e.2.1;have c:=(yV w.Y t p l.to e.1 ω).fzE rfl;rw[<-ht]at c;rw[show a.a0.toNat=t by omega];refine fO 148 [(15,11,[56,57,58,59,60,61,62,63,64,65,66])] Tryz.func116 rfl ?_ (.inl rfl)
  repeat'(first|refine gB ?_|with_reducible refine Bf.E (λb=>?_) (λb=>?_))
  rfl
 rw[CB T];by_cases V:a.b0=8
 ·rw[CC V]
  unfold rc;by_cases e:w.Y.H.Calls≠100000/\(0<=a.N/\a.N<=1000)/\w.Y.a8+a.N<=1000000
  ·rw[CC e]
   have c:=(Br w.Y a.N p l e.1 e.2.1 e.2.2).fzE rfl;refine fO 148 [(15,11,[56,57,58,59,60,61,62,63,64,65,66])] Tryz.func116 rfl ?_ (.inl rfl)
   repeat'(first|refine gB ?_|with_reducible refine Bf.E (λb=>?_) (λb=>?_))
   rfl
  rw[CB e];have c:=(G6 w.Y a.N p l e).fzE rfl;refine fO 148 [(15,11,[56,57,58,59,60,61,62,63,64,65,66])] Tryz.func116 rfl ?_ (.inl rfl)
  repeat'(first|refine gB ?_|with_reducible refine Bf.E (λb=>?_) (λb=>?_))
  rfl
 rw[CB V];by_cases W:a.b0=9
 ·rw[CC W]
  unfold qK;have c:=(yJ w.Y p).fzE rfl;unfold EV at c;rw[l.to]at c;cases q:w.Y.a2 with
  | true=>
   rw[CC rfl];rw[CB (λx=>by rw[q]at x;cases x.1)]at c;have j:=jU false;refine fO 148 [(15,11,[56,57,58,59,60,61,62,63,64,65,66])] Tryz.func116 rfl ?_ (.inl rfl)
   repeat'(first|refine gB ?_|with_reducible refine Bf.E (λb=>?_) (λb=>?_))
   rfl
  | false=>
   rw[CB (by simp)];rw[CC ⟨q,rfl⟩]at c;have j:=jU (started w.Y).2;refine fO 148 [(15,11,[56,57,58,59,60,61,62,63,64,65,66])] Tryz.func116 rfl ?_ (.inl rfl)
   repeat'(first|refine gB ?_|with_reducible refine Bf.E (λb=>?_) (λb=>?_))
   rfl
 rw[CB W];by_cases k10:a.b0=10;rotate_left
 ·rw[CB (λx=>k10 x.1)]
  refine fO 148 [(15,11,[56,57,58,59,60,61,62,63,64,65,66])] Tryz.func116 rfl ?_ (.inl rfl)
  repeat'(first|refine gB ?_|with_reducible refine Bf.E (λb=>?_) (λb=>?_))
  all_goals first|omega|rfl
 have c:=aI a.N 0 50;by_cases q:0<=a.N/\a.N<=50;rotate_left
 ·rw[CB (λx=>q x.2)]
  rw[W0 q]at c;refine fO 148 [(15,11,[56,57,58,59,60,61,62,63,64,65,66])] Tryz.func116 rfl ?_ (.inl rfl)
  repeat'(first|refine gB ?_|with_reducible refine Bf.E (λb=>?_) (λb=>?_))
  rfl
 rw[CC ⟨k10,q⟩];rw[O0 q]at c;obtain⟨n,Q⟩:=I3 q.1;rw[show a.N.toNat=n by omega];refine fO 148 [(15,11,[56,57,58,59,60,61,62,63,64,65,66])] Tryz.func116 rfl ?_ (.inl rfl)
 repeat'(first|refine gB ?_|with_reducible refine Bf.E (λb=>?_) (λb=>?_))
 refine CF (ι:=Nat) (λk=>[(3,.G .box (cn.enc .S a)),(4,.G .box [.z,.z,.z,I 0,.z,.z,.z,.z,.z,.z,.z,.z,I 0,.z,I 0,I 0,I 0,I 0,B false,I 0,I 0,.z,I 0,I 0,I 0,.z]),(6,.G .box (bw.enc .S ⟨(kr w.Y k).1,w.c3⟩)),(7,.G .one [I (((kr w.Y k).2:Nat):Int)]),(10,.G .one [I ((k:Nat):Int)])]) (λk=>k<=n) (λk=>n - k) (0) ?_ (X0 _) λk hk=>?_
 ·exact wC
 obtain⟨g1,g2⟩:=zj l h.ji k;have M:=QG h O k ω;have hk2:(kr w.Y k).2<=k:=Lc w.Y k;have j:=(ED (kr w.Y k).1 g1 M).fzE rfl;by_cases lk:k<n
 ·have o:kr w.Y (k+1)=if nE (kr w.Y k).1=true then(mStep (kr w.Y k).1,(kr w.Y k).2+1) else kr w.Y k:=rfl
  cases X:nE (kr w.Y k).1 with
  | true=>
   rw[X]at o j;rw[CC rfl]at o j
   repeat'(first|refine gE ?_|with_reducible refine Bf.D (λb=>?_) (λb=>?_))
   (refine CD (k+1) ω ω ?_)
   rw[o];exact wC
  | false=>
   rw[X]at o j;rw[CB (by simp)]at o j
   repeat'(first|refine gE ?_|with_reducible refine Bf.D (λb=>?_) (λb=>?_))
   (refine CD (k+1) ω ω ?_)
   rw[o];exact wC
 obtain rfl:k=n:=ω
 repeat'(first|refine gE ?_|with_reducible refine Bf.D (λb=>?_) (λb=>?_))
 rfl
def Vb(h:ac):Int:=cQ h.H.F.V
def Fw(c:dC)(acts:List cn):Nat->Int
 | 0=>0
 | i+1=>max (Fw c acts i) (Vb (rn c acts (i+1)).1.Y)
def KS(c:dC)(acts:List cn):∀i,(rn c acts i).2.length=i
 | 0=>rfl
 | k+1=>by show((rn c acts k).2++[_]).length=_;rw[X3,KS c acts k];rfl
def Rk(c:dC)(acts:List cn)(h:EI c)(b:gr c.d)(n:acts.length<=80):zzA 39 true [.val (some 5) (dC.enc .S c),.val none (eS .S acts)] (.tup [some 26,none]) (bw.enc .S (rn c acts acts.length).1++aG .own (rn c acts acts.length).2):=by
 have d:=(ng c h).fzR;rw[bU,bw.enc_fz]at d;change am _ _ _ _ _ (_++[B true]) at d;refine fO 47 [(5,3,[27,28,29]),(6,1,[30])] Tryz.func39 rfl ?_ (.inl rfl)
 refine ZE ?_
 refine CF (ι:=Nat) (λi=>[(1,.G .one (eS .S acts)),(4,.G .box [.z,.z,.z,I 0,.z,.z,.z,.z,.z,.z,.z,.z,I 0,.z,I 0,I 0,I 0,I 0,B false,I 0,I 0,.z,I 0,I 0,I 0,.z]),(6,.G .box (bw.enc .S (rn c acts i).1)),(8,.G .one (aG .own (rn c acts i).2)),(27,.G .one (eS .S acts)),(28,.G .one [I (acts.length)]),(29,.G .one [I ((i:Nat):Int)])]) (λi=>i<=acts.length) (λi=>acts.length - i) (0) ?_ (X0 _) λi o=>?_
 ·exact wC
 have j:=sQ h acts i;have a:=vK h acts i;have e:=KS c acts i;by_cases k:i<acts.length
 ·have g:=ar k
  have l:=yc (rn c acts i).1 (nth acts i) i j ω (by unfold rfs at a;rw[a];exact b)
  repeat'(first|refine gE ?_|refine Cl.sh l rfl ?_|refine CT cR (λr b=>by rw[V1.1 b];rfl) (by simp[bn,eP]) (by simp;omega) (by simp only[I1];exact xi (by simp;omega) (by decide)) rfl ?_)
  (refine CD (i+1) ω ω ?_)
  repeat'(first|exact trivial|rfl| exact eQ _ |exact CJ rfl (CJ (Z0 (C.s dA.own) (by simp[rn,rI])) trivial)|refine CJ ?_ ?_|(exact Fy (by first|omega|(simp only;omega)|(simp;omega))))
 obtain rfl:i=acts.length:=ω
 refine ZE ?_
 rfl
def xj(c:dC)(acts:List cn)(h:EI c)(j:gr c.d)(q:acts.length<=80):zzA 40 false [.val (some 5) (dC.enc .S c),.val none (eS .S acts)] .one [I (Fw c acts acts.length)]:=by
 have d:=(ng c h).fzR;rw[bU,bw.enc_fz]at d;change am _ _ _ _ _ (_++[B true]) at d;refine fO 44 [(5,3,[22,23,24]),(6,1,[25])] Tryz.func40 rfl ?_
 refine ZE ?_
 refine CF (ι:=Nat) (λi=>[(1,.G .one (eS .S acts)),(5,.G .box (bw.enc .S (rn c acts i).1)),(7,.G .one [I (Fw c acts i)]),(22,.G .one (eS .S acts)),(23,.G .one [I (acts.length)]),(24,.G .one [I ((i:Nat):Int)])]) (λi=>i<=acts.length) (λi=>acts.length - i) (0) ?_ (X0 _) λi r=>?_
 ·exact wC
 have n:=sQ h acts i;have b:=vK h acts i;have a:=vK h acts (i+1);have e:=((sQ h acts (i+1)).fit (by unfold rfs at a;rw[a];exact j)).1;by_cases o:i<acts.length
 ·have k:=ar o
  have l:=yc (rn c acts i).1 (nth acts i) i n ω (by unfold rfs at b;rw[b];exact j);have p:=wU (rn c acts (i+1)).1.Y.H.F.V e.1.1.1;change am _ _ _ _ _ (bw.enc .S (rn c acts (i+1)).1++_) at l;have g:(if true=true then if cQ (rn c acts (i+1)).1.Y.H.F.V > Fw c acts i then cQ (rn c acts (i+1)).1.Y.H.F.V else Fw c acts i else if cQ (rn c acts (i+1)).1.Y.H.F.V<Fw c acts i then cQ (rn c acts (i+1)).1.Y.H.F.V else Fw c acts i)=Fw c acts (i+1):=by
   rw[CC rfl];show _=max (Fw c acts i) (cQ (rn c acts (i+1)).1.Y.H.F.V);split<;>omega
  repeat'(first|refine gE ?_|refine Cl.sh l rfl ?_|refine CQ g ?_)
  (refine CD (i+1) ω ω ?_;(exact wC))
 obtain rfl:i=acts.length:=ω
 refine ZE ?_
 rfl
structure bR where
 w:Int
 V:Int
 c1:Int
 b7:Int
 d:List Int
deriving DecidableEq,Inhabited
def bR.enc(o:dA)(x:bR):List C:=[I x.w,I x.V,I x.c1,I x.b7,.s o (x.d.map (rI o))]
def bR.enc_fz(x:bR):dB (bR.enc .own x)=bR.enc .S x:=by simp[dB,bR.enc,rI,<-bS,C6]
def bR.enc_fr(x:bR):g0 (bR.enc .own x):=⟨trivial,trivial,trivial,trivial,⟨.inl λh=>(by cases h),bj _ _ λy _=>rG y⟩,trivial⟩
def bR.wf(x:bR):Prop:=kV x.w/\kV x.V/\kV x.c1/\kV x.b7/\gr x.d
def bR.sz(x:bR):Nat:=szIntS x.d
def bR.sml(x:bR):Prop:=l8 x.d
def bR.sml_of{x:bR}(h:bR.sz x<=1048576):bR.sml x:=JN (by unfold bR.sz at h;omega)
def cn.wf(x:cn):Prop:=kV x.b0/\kV x.a0/\kV x.N/\kV x.At/\kV x.Value
def cn.sml(_:cn):Prop:=True
def EU(x:List cn):Prop:=x.length<=9223372036854775807/\∀y∈x,cn.wf y
def x3(x:List cn):Nat:=x.length
def zD(x:List cn):Prop:=x.length<=1048576/\∀y∈x,cn.sml y
def FA{x:List cn}(h:x3 x<=1048576):zD x:=⟨h,λ_ _=>trivial⟩
def lL(n:Int):Prop:=1<=n/\n<=32
def uF(a:List Int):Prop:=a.length<=40/\∀x∈a,0<=x
instance (n:Int):Decidable (lL n):=by unfold lL;infer_instance
instance (rf:List Int):Decidable (uF rf):=by unfold uF;infer_instance
def uD{p:Nat}{a:List Int}(h:¬uF a):aJ (bA p f a)=false:=by
 cases e:aJ (bA p f a) with
 | false=>rfl
 | true=>
  refine absurd ?_ h;unfold aJ at e;simp only[I0,C0]at e;obtain⟨⟨b,-⟩,-,-,c⟩:=e;refine⟨c,λx d=>?_⟩;obtain⟨i,g,rfl⟩:=bu d;have:=of_decide_eq_true (fy b g);exact this
def r9{p:Nat}{a:List Int}(b:1<=p/\p<=32)(c:1<=f/\f<=32)(d:a.length<=1048576):ah.sml (bA p f a):=⟨(aZ (tU b c)).1,d⟩
def uA(n:Int)(b:¬lL n):zzA 465 false [.val none [I n]] (.tup [some 2,none]) [.z,.z,B false]:=by
 have a:=aI n 1 32;rw[W0 (show ¬(1<=n/\n<=32) from b)]at a;refine fO 25 [(7,4,[18,19,20,21])] Tryz.func465 rfl ?_ (.inr ⟨trivial,trivial,trivial,trivial⟩)
 refine ZP ?_
 rfl
def nD(n:Int)(b:¬lL n):zzA 466 false [.val none [I n]] (.tup [some 1,none]) [.z,B false]:=by
 have a:=aI n 1 32;rw[W0 (show ¬(1<=n/\n<=32) from b)]at a;refine fO 11 [] Tryz.func466 rfl ?_ (.inr ⟨trivial,trivial,trivial⟩)
 refine ZP ?_
 rfl
def ss(p f:Int)(h:¬(lL p/\lL f)):zzA 348 false [.val none [I p],.val none [I f]] (.tup [some 3,none]) [.z,.z,.z,B false]:=by
 by_cases c:lL f
 ·have a:¬lL p:=λx=>h ⟨x,c⟩
  obtain⟨f,rfl⟩:=I3 (show 0<=f by have:=c.1;omega);have d:=qk f (by have:=c;unfold lL at this;omega);have b:=nD p a;refine fO 30 [] Tryz.func348 rfl ?_ (.inr ⟨trivial,trivial,trivial,trivial,trivial⟩)
  refine ZP ?_
  rfl
 have d:=uA f c;by_cases a:lL p
 ·obtain⟨p,rfl⟩:=I3 (show 0<=p by have:=a.1;omega)
  have b:=rP p (by have:=a;unfold lL at this;omega);refine fO 30 [] Tryz.func348 rfl ?_ (.inr ⟨trivial,trivial,trivial,trivial,trivial⟩)
  refine ZP ?_
  rfl
 have b:=nD p a;refine fO 30 [] Tryz.func348 rfl ?_ (.inr ⟨trivial,trivial,trivial,trivial,trivial⟩)
 refine ZP ?_
 rfl
def oZ(n:Int)(b:¬(1<=n/\n<=4)):zzA 200 false [.val none [I n]] (.tup [some 2,none]) [.z,.z,B false]:=by
 have a:=aI n 1 4;rw[W0 b]at a;refine fO 13 [(3,4,[8,9,10,11])] Tryz.func200 rfl ?_ (.inr ⟨trivial,trivial,trivial,trivial⟩)
 refine ZP ?_
 rfl
def tI(p f:Int)(a:List Int)(j:a.length<=1048576)(h:¬((lL p/\lL f)/\uF a)):zzA 199 false [.val none [I p],.val none [I f],.val none (aG .S a)] (.tup [some 5,none]) [.z,.z,.z,I 0,.z,B false]:=by
 by_cases g:lL p/\lL f
 ·obtain⟨b,c⟩:=g
  have k:¬uF a:=λx=>h ⟨⟨b,c⟩,x⟩
  obtain⟨p,rfl⟩:=I3 (show 0<=p by have:=b.1;omega);obtain⟨f,rfl⟩:=I3 (show 0<=f by have:=c.1;omega);unfold lL at b c;have d:=pm p f ω ω;have i:=jY (bA p f a) (r9 ω ω j);rw[uD k]at i;have e:=cD a ω;refine fO 30 [(2,260,[17,18,19,10,0,1,2,4,3,1004,5])] Tryz.func199 rfl ?_ (.inr ⟨trivial,trivial,trivial,trivial,trivial,trivial,trivial⟩)
  repeat'(first|refine gP ?_|refine CG (i) ⟨⟨rfl,CO (bA p f a)⟩,trivial⟩ ?_)
  rfl
 have d:=ss p f g;have e:=cD a ω;refine fO 30 [(2,260,[17,18,19,10,0,1,2,4,3,1004,5])] Tryz.func199 rfl ?_ (.inr ⟨trivial,trivial,trivial,trivial,trivial,trivial,trivial⟩)
 refine ZP ?_
 rfl
def xa(p f t lim:Int)(c:List Int)(o:c.length<=1048576)(h:¬(((lL p/\lL f)/\uF c)/\(1<=t/\t<=4)/\0<=lim/\lim<=1000)):zzA 70 false [.val none [I p],.val none [I f],.val none [I t],.val none [I lim],.val none (aG .S c)] (.tup [some 24,none]) (md++[B false]):=by
 have k:=aI lim 0 1000;have a:g0 (md++[B false]):=by repeat' first|exact trivial|refine CJ ?_ ?_
 by_cases g:(lL p/\lL f)/\uF c
 ·have i:=g
  obtain⟨⟨l,n⟩,q⟩:=g;obtain⟨p,rfl⟩:=I3 (show 0<=p by have:=l.1;omega);obtain⟨f,rfl⟩:=I3 (show 0<=f by have:=n.1;omega);unfold lL at l n;have d:=uk p f c ω ω q;by_cases e:1<=t/\t<=4
  ·have j:¬(0<=lim/\lim<=1000):=λx=>h ⟨i,e,x⟩
   rw[W0 j]at k;obtain⟨t,rfl⟩:=I3 (show 0<=t by omega);have b:=ox t ω;refine fO 68 [(10,4,[61,62,63,64])] Tryz.func70 rfl ?_ (.inr a)
   refine ZP ?_
   rfl
  have b:=oZ t e;refine fO 68 [(10,4,[61,62,63,64])] Tryz.func70 rfl ?_ (.inr a)
  refine ZP ?_
  rfl
 have d:=tI p f c o g;by_cases e:1<=t/\t<=4
 ·obtain⟨t,rfl⟩:=I3 (show 0<=t by omega)
  have b:=ox t ω;refine fO 68 [(10,4,[61,62,63,64])] Tryz.func70 rfl ?_ (.inr a)
  refine ZP ?_
  rfl
 have b:=oZ t e;refine fO 68 [(10,4,[61,62,63,64])] Tryz.func70 rfl ?_ (.inr a)
 refine ZP ?_
 rfl
def uV(c:bR)(a:c.d.length<=1048576)(h:¬(((lL c.w/\lL c.V)/\uF c.d)/\(1<=c.c1/\c.c1<=4)/\0<=c.b7/\c.b7<=1000)):zzA 115 false [.val (some 5) (bR.enc .S c)] (.tup [some 26,none]) (md++[I 0,.z]++[B false]):=by
 have b:=xa c.w c.V c.c1 c.b7 c.d a h;refine fO 26 [(4,2,[23,24])] Tryz.func115 rfl ?_ (.inr (by repeat' first|exact trivial|refine CJ ?_ ?_))
 refine ZP ?_
 rfl
def sS(n:Int)(b:¬lL n):zzA 569 false [.val none [I n]] (.tup [some 2,none]) [.z,.z,B false]:=by
 have a:=aM n 1 32;rw[W0 (show ¬(1<=n/\n<=32) from b)]at a;refine fO 28 [(7,4,[16,17,18,19])] Tryz.func569 rfl ?_ (.inr ⟨trivial,trivial,trivial,trivial⟩)
 refine ZP ?_
 rfl
def n8(n:Int)(b:¬lL n):zzA 570 false [.val none [I n]] (.tup [some 1,none]) [.z,B false]:=by
 have a:=aM n 1 32;rw[W0 (show ¬(1<=n/\n<=32) from b)]at a;refine fO 11 [] Tryz.func570 rfl ?_ (.inr ⟨trivial,trivial,trivial⟩)
 refine ZP ?_
 rfl
def sj(p f:Int)(h:¬(lL p/\lL f)):zzA 508 false [.val none [I p],.val none [I f]] (.tup [some 3,none]) [.z,.z,.z,B false]:=by
 by_cases c:lL f
 ·have a:¬lL p:=λx=>h ⟨x,c⟩
  obtain⟨f,rfl⟩:=I3 (show 0<=f by have:=c.1;omega);have d:=pN f (by have:=c;unfold lL at this;omega);have b:=n8 p a;refine fO 30 [] Tryz.func508 rfl ?_ (.inr ⟨trivial,trivial,trivial,trivial,trivial⟩)
  refine ZP ?_
  rfl
 have d:=sS f c;by_cases a:lL p
 ·obtain⟨p,rfl⟩:=I3 (show 0<=p by have:=a.1;omega)
  have b:=rL p (by have:=a;unfold lL at this;omega);refine fO 30 [] Tryz.func508 rfl ?_ (.inr ⟨trivial,trivial,trivial,trivial,trivial⟩)
  refine ZP ?_
  rfl
 have b:=n8 p a;refine fO 30 [] Tryz.func508 rfl ?_ (.inr ⟨trivial,trivial,trivial,trivial,trivial⟩)
 refine ZP ?_
 rfl
def pi(n:Int)(b:¬(1<=n/\n<=4)):zzA 413 false [.val none [I n]] (.tup [some 2,none]) [.z,.z,B false]:=by
 have a:=aM n 1 4;rw[W0 b]at a;refine fO 13 [(3,4,[8,9,10,11])] Tryz.func413 rfl ?_ (.inr ⟨trivial,trivial,trivial,trivial⟩)
 refine ZP ?_
 rfl
def uo(p f:Int)(a:List Int)(i:a.length<=1048576)(h:¬((lL p/\lL f)/\uF a)):zzA 412 false [.val none [I p],.val none [I f],.val none (aG .S a)] (.tup [some 5,none]) [.z,.z,.z,I 0,.z,B false]:=by
 by_cases e:lL p/\lL f
 ·obtain⟨b,c⟩:=e
  have j:¬uF a:=λx=>h ⟨⟨b,c⟩,x⟩
  obtain⟨p,rfl⟩:=I3 (show 0<=p by have:=b.1;omega);obtain⟨f,rfl⟩:=I3 (show 0<=f by have:=c.1;omega);unfold lL at b c;have d:=oV p f ω ω;have g:=kb (bA p f a) (r9 ω ω i);rw[uD j]at g;have k:=cD a ω;refine fO 31 [(2,260,[17,18,19,10,0,1,2,5,3,1000,1005,4,1005,6])] Tryz.func412 rfl ?_ (.inr ⟨trivial,trivial,trivial,trivial,trivial,trivial,trivial⟩)
  repeat'(first|refine gP ?_|refine CP (λ_=>rfl) (λ_=>rfl) ω (by decide) ?_|refine CU (λ_=>rfl) (λ_=>rfl) ω (by decide) ?_|refine CG (g) ⟨⟨rfl,CO (bA p f a)⟩,trivial⟩ ?_)
  rfl
 have d:=sj p f e;have k:=cD a ω;refine fO 31 [(2,260,[17,18,19,10,0,1,2,5,3,1000,1005,4,1005,6])] Tryz.func412 rfl ?_ (.inr ⟨trivial,trivial,trivial,trivial,trivial,trivial,trivial⟩)
 repeat'(first|refine gP ?_|refine CP (λ_=>rfl) (λ_=>rfl) ω (by decide) ?_|refine CU (λ_=>rfl) (λ_=>rfl) ω (by decide) ?_)
 rfl
def xe(p f t lim:Int)(c:List Int)(o:c.length<=1048576)(h:¬(((lL p/\lL f)/\uF c)/\(1<=t/\t<=4)/\0<=lim/\lim<=1000)):zzA 271 false [.val none [I p],.val none [I f],.val none [I t],.val none [I lim],.val none (aG .S c)] (.tup [some 24,none]) (md++[B false]):=by
 have k:=aM lim 0 1000;have a:g0 (md++[B false]):=by repeat' first|exact trivial|refine CJ ?_ ?_
 by_cases g:(lL p/\lL f)/\uF c
 ·have i:=g
  obtain⟨⟨l,n⟩,q⟩:=g;obtain⟨p,rfl⟩:=I3 (show 0<=p by have:=l.1;omega);obtain⟨f,rfl⟩:=I3 (show 0<=f by have:=n.1;omega);unfold lL at l n;have d:=pI p f c ω ω q;by_cases e:1<=t/\t<=4
  ·have j:¬(0<=lim/\lim<=1000):=λx=>h ⟨i,e,x⟩
   rw[W0 j]at k;obtain⟨t,rfl⟩:=I3 (show 0<=t by omega);have b:=nO t ω;refine fO 66 [(9,4,[54,55,56,57])] Tryz.func271 rfl ?_ (.inr a)
   refine ZP ?_
   rfl
  have b:=pi t e;refine fO 66 [(9,4,[54,55,56,57])] Tryz.func271 rfl ?_ (.inr a)
  refine ZP ?_
  rfl
 have d:=uo p f c o g;by_cases e:1<=t/\t<=4
 ·obtain⟨t,rfl⟩:=I3 (show 0<=t by omega)
  have b:=nO t ω;refine fO 66 [(9,4,[54,55,56,57])] Tryz.func271 rfl ?_ (.inr a)
  refine ZP ?_
  rfl
 have b:=pi t e;refine fO 66 [(9,4,[54,55,56,57])] Tryz.func271 rfl ?_ (.inr a)
 refine ZP ?_
 rfl
def v8(c:bR)(a:c.d.length<=1048576)(h:¬(((lL c.w/\lL c.V)/\uF c.d)/\(1<=c.c1/\c.c1<=4)/\0<=c.b7/\c.b7<=1000)):zzA 120 false [.val (some 5) (bR.enc .S c)] (.tup [some 26,none]) (md++[I 0,.z]++[B false]):=by
 have b:=xe c.w c.V c.c1 c.b7 c.d a h;refine fO 26 [(4,2,[23,24])] Tryz.func120 rfl ?_ (.inr (by repeat' first|exact trivial|refine CJ ?_ ?_))
 refine ZP ?_
 rfl
def xc(c:dC)(acts:List cn)(h:EI c)(g:gr c.d)(r:acts.length<=80):zzA 54 false [.val (some 5) (dC.enc .S c),.val none (eS .S acts)] .one [I (Fw c acts acts.length)]:=by
 have l:=rJ c h;refine fP 41 [(121,[2,0]),(2000005,[5,21,25])] [] Tryz.func54 rfl ?_
 repeat'(first|refine gE ?_|refine HK.mk rfl rfl rfl ?_)
 refine CF (ι:=Nat) (λi=>[(1,.G .one (eS .S acts)),(5,.G .box (sY (rn c acts i).1)),(7,.G .one [I (Fw c acts i)]),(8,.G .one [I ((i:Nat):Int)])]) (λi=>i<=acts.length) (λi=>acts.length - i) (0) ?_ (X0 _) λi t=>?_
 ·repeat'(first|exact trivial|rfl |exact nU n|exact eQ _|refine CJ ?_ ?_|(exact Fy (by first|omega|(simp only;omega)|(simp;omega))))
 have o:=sQ h acts i;have b:=vK h acts i;have a:=vK h acts (i+1);have d:=((sQ h acts (i+1)).fit (by unfold rfs at a;rw[a];exact g)).1;by_cases p:i<acts.length
 ·have j:=ar p
  have k:=J0 (rn c acts i).1 (nth acts i) i o ω (by unfold rfs at b;rw[b];exact g);have q:=xm (rn c acts (i+1)).1.Y.H.F.V d.1.1.1;change aW _ _ _ _ [.ptr (sY (rn c acts (i+1)).1),_] _ _ at k;have e:(if true=true then if cQ (rn c acts (i+1)).1.Y.H.F.V > Fw c acts i then cQ (rn c acts (i+1)).1.Y.H.F.V else Fw c acts i else if cQ (rn c acts (i+1)).1.Y.H.F.V<Fw c acts i then cQ (rn c acts (i+1)).1.Y.H.F.V else Fw c acts i)=Fw c acts (i+1):=by
   rw[CC rfl];show _=max (Fw c acts i) (cQ (rn c acts (i+1)).1.Y.H.F.V);split<;>omega
  repeat'(first|refine gE ?_|refine CG (q) ⟨⟨rfl,aT.enc_fz _⟩,trivial⟩ ?_|refine CQ e ?_)
  (refine CD (i+1) ω ω ?_;(exact wC))
 obtain rfl:i=acts.length:=ω
 refine ZE ?_
 rfl
def uM(c:bR):Prop:=((lL c.w/\lL c.V)/\uF c.d)/\(1<=c.c1/\c.c1<=4)/\0<=c.b7/\c.b7<=1000
instance (c:bR):Decidable (uM c):=by unfold uM;infer_instance
def RE(c:bR):dC:=⟨c.w.toNat,c.V.toNat,c.c1.toNat,c.b7,c.d⟩
def N8{c:bR}(h:uM c):EI (RE c)/\bR.enc .S c=dC.enc .S (RE c):=by
 obtain⟨⟨⟨a,b⟩,d⟩,f,e⟩:=h;unfold lL at a b;refine⟨⟨?_,?_,?_,e,d⟩,?_⟩
 ·show 1<=c.w.toNat/\c.w.toNat<=32;omega
 ·show 1<=c.V.toNat/\c.V.toNat<=32;omega
 ·show 1<=c.c1.toNat/\c.c1.toNat<=4;omega
 unfold bR.enc dC.enc RE;simp only;rw[show((c.w.toNat:Nat):Int)=c.w by omega,show((c.V.toNat:Nat):Int)=c.V by omega,show((c.c1.toNat:Nat):Int)=c.c1 by omega]
def Gy(c:bR)(acts:List cn):Int:=if uM c/\acts.length<=80 then Fw (RE c) acts acts.length else 0
def LC(c:bR)(acts:List cn)(h:gr c.d)(i:c.d.length<=1048576)(j:acts.length<=1048576):zzA 40 false [.val (some 5) (bR.enc .S c),.val none (eS .S acts)] .one [I (Gy c acts)]:=by
 unfold Gy;by_cases b:uM c
 ·obtain⟨e,g⟩:=N8 b
  by_cases d:acts.length<=80
  ·rw[CC ⟨b,d⟩,g]
   exact xj (RE c) acts e h d
  rw[CB (λx=>d x.2),g];have a:=(ng (RE c) e).fzR;rw[bU,bw.enc_fz]at a;change am _ _ _ _ _ (_++[B true]) at a;refine fO 44 [(5,3,[22,23,24]),(6,1,[25])] Tryz.func40 rfl ?_
  refine ZE ?_
  rfl
 rw[CB (λx=>b x.1)];have a:=uV c i b;refine fO 44 [(5,3,[22,23,24]),(6,1,[25])] Tryz.func40 rfl ?_
 refine ZP ?_
 rfl
def Mi(c:bR)(acts:List cn)(h:gr c.d)(i:c.d.length<=1048576)(j:acts.length<=1048576):zzA 54 false [.val (some 5) (bR.enc .S c),.val none (eS .S acts)] .one [I (Gy c acts)]:=by
 unfold Gy;by_cases a:uM c
 ·obtain⟨e,g⟩:=N8 a
  by_cases b:acts.length<=80
  ·rw[CC ⟨a,b⟩,g]
   exact xc (RE c) acts e h b
  rw[CB (λx=>b x.2),g];have d:=rJ (RE c) e;refine fO 41 [] Tryz.func54 rfl ?_
  refine ZE ?_
  rfl
 rw[CB (λx=>a x.1)];have d:=v8 c i a;refine fO 41 [] Tryz.func54 rfl ?_
 refine ZP ?_
 rfl
set_option maxHeartbeats 2000000
def GK(x:bR)(a:bR.sml x):zzA 55 false [.val (some 5) (bR.enc .S x)] .agg (bR.enc .own x):=by
 have b:=a;refine fO 21 [] Tryz.func55 rfl ?_ (.inr (bR.enc_fr x))
 repeat'(first|refine gP ?_|refine C8 (LG x.d b) ?_)
 rfl
def Pz(x:cn)(a:cn.sml x):zzA 177 false [.val (some 5) (cn.enc .S x)] .agg (cn.enc .own x):=by
 refine fO 20 [] Tryz.func177 rfl ?_ (.inr (cn.enc_fr x))
 refine ZP ?_
 rfl
def LY(x:List cn)(e:zD x):zzA 56 false [.val none (eS .S x)] .one (eS .own x):=by
 refine fO 23 [] Tryz.func56 rfl ?_ (.inr (M8 x));have g:x.length<=1048576:=e.1;have a:(x.map (cn.enc .own)).length=(List.replicate x.length ([I 0,I 0,I 0,I 0,I 0]:List C)).length:=by simp
 repeat'(first|refine gP ?_|refine Mk.mk _ rfl rfl ω (xi g (by decide)) rfl ?_)
 refine CF (ι:=Nat) (λi=>[(0,.G .one (eS .S x)),(3,.G .one [.s .own (yD (x.map (cn.enc .own)) (List.replicate x.length [I 0,I 0,I 0,I 0,I 0]) i)]),(4,.G .one [I (i:Nat)])]) (λi=>i<=x.length) (λi=>x.length - i) 0 ?_ (X0 _) λi h=>?_
 ·rw[Hj]
  exact wA
 by_cases b:i<x.length
 ·obtain⟨y,d⟩ : ∃y,x[i]? = some y:=⟨_,X2 b⟩
  have c:=Kg a i (by simp;omega);rw[K6 b]at c
  repeat'(first|refine gE ?_|with_reducible refine CA c ?_|refine C8 (Pz y trivial) ?_|refine CM rfl rfl c rfl (V3 _) rfl ?_|refine CD (i+1) ω ω ?_)
  repeat'(first|exact trivial|rfl|exact CJ rfl (CJ (Z0 (C.s dA.own) (KD a (aa d))) trivial)|refine CJ ?_ ?_)
 refine ZE ?_
 rw[KV _ a (by simp;omega)]
 rfl
def wx(x:bR)(left:Int)(b:0<=left)(h1:left<=1048576)(a:bR.wf x):zzA 52 false [.val (some 5) (bR.enc .S x),.val none [I left]] .one [I (R8 (bR.sz x) left)]:=by
 obtain⟨wPages,wFrames,wThreads,wLimit,wRefuse⟩:=a;refine fO 12 [] Tryz.func52 rfl ?_
 repeat'(first|refine gE ?_|with_reducible refine Bf.D (λh=>?_) (λh=>?_)|refine Cl.sz (LX x.d _ ω ω wRefuse) (λh=>?_) (λh=>?_))
 all_goals exact Z0 (λz=>[I z]) (by unfold R8 bR.sz;split<;>omega)
def LT(x:List cn)(left:Int)(b:0<=left)(h1:left<=1048576)(a:EU x):zzA 53 false [.val none (eS .S x),.val none [I left]] .one [I (R8 (x3 x) left)]:=by
 refine fO 12 [] Tryz.func53 rfl ?_;have c:=a.1
 repeat'(first|refine gE ?_|with_reducible refine Bf.D (λh=>?_) (λh=>?_))
 all_goals exact Z0 (λz=>[I z]) (by unfold R8 x3;split<;>omega)
theorem HF(a b:bR)(c:bR.sml a):zzA 57 false [.val (some 5) (bR.enc .S a),.val (some 5) (bR.enc .S b)] .one [B (decide (a=b))]:=by
 have d:=c;refine fO 31 [] Tryz.func57 rfl ?_
 repeat'(first|refine gP ?_|with_reducible (first|refine Bf.N (λh=>?_) (λh=>?_)|refine Bf.NB (λh=>?_) (λh=>?_)|refine Bf.D (λh=>?_) (λh=>?_))|refine C8 (M9 a.d b.d d) ?_)
 all_goals first|(show [B false]=[B (decide (a=b))];refine Z0 (λz=>[B z]) (W0 λe=>?_).symm;subst e;contradiction)|(show [B true]=[B (decide (a=b))];refine Z0 (λz=>[B z]) (O0 ?_).symm;cases a;cases b;simp_all)
theorem Nr(a b:cn)(c:cn.sml a):zzA 179 false [.val (some 5) (cn.enc .S a),.val (some 5) (cn.enc .S b)] .one [B (decide (a=b))]:=by
 refine fO 30 [] Tryz.func179 rfl ?_
 repeat'(first|refine gP ?_|with_reducible (first|refine Bf.N (λh=>?_) (λh=>?_)|refine Bf.NB (λh=>?_) (λh=>?_)|refine Bf.D (λh=>?_) (λh=>?_)))
 all_goals first|(show [B false]=[B (decide (a=b))];refine Z0 (λz=>[B z]) (W0 λe=>?_).symm;subst e;contradiction)|(show [B true]=[B (decide (a=b))];refine Z0 (λz=>[B z]) (O0 ?_).symm;cases a;cases b;simp_all)
theorem M6(a b:List cn)(p:zD a):zzA 58 false [.val none (eS .S a),.val none (eS .S b)] .one [B (decide (a=b))]:=by
 refine fO 27 [(6,10,[17,18,19,20,21,22,23,24,25,26])] Tryz.func58 rfl ?_;have r:a.length<=1048576:=p.1
 repeat'(first|refine gP ?_|with_reducible refine Bf.N (λh=>?_) (λh=>?_))
 ·refine Z0 (λz=>[B z]) (W0 λe=>?_).symm
  subst e;omega
 have k:a.length=b.length:=ω
 (conv=>whnf)
 refine CF (ι:=Nat) (λi=>[(0,.G .one (eS .S a)),(1,.G .one (eS .S b)),(5,.G .one [I (i:Nat)])]) (λi=>i<=a.length/\∀j,j<i->a[j]? = b[j]?) (λi=>a.length - i) 0 ?_ ⟨X0 _,λj q=>ω⟩ λi l=>?_
 ·exact wA
 obtain⟨l,c⟩:=l;by_cases g:i<a.length
 ·obtain⟨x,n⟩ : ∃x,a[i]? = some x:=⟨_,X2 g⟩
  obtain⟨y,o⟩ : ∃y,b[i]? = some y:=⟨_,X2 ω⟩
  repeat'(first|refine gE ?_|with_reducible (first|refine Bf.N (λh=>?_) (λh=>?_)|refine Bf.NB (λh=>?_) (λh=>?_)|refine Bf.D (λh=>?_) (λh=>?_))|refine C8 (Nr x y trivial) ?_)
  all_goals first
   |(show [B false]=[B (decide (a=b))]
     refine Z0 (λz=>[B z]) (W0 λe=>?_).symm;subst e
     simp_all)
   | ((conv=>whnf)
      refine CD (i+1) ⟨ω,λj q=>?_⟩ ω ?_
      · rcases Nat.lt_or_ge j i with d|d
        · exact c j d
        obtain rfl:j=i:=ω
        rw[n,o]
        simp_all
      exact wA)
 refine ZE ?_
 refine Z0 (λz=>[B z]) (O0 ?_).symm;refine List.ext_getElem? λj=>?_
 rcases Nat.lt_or_ge j i with d|d
 ·exact c j d
 rw[z3 ω,z3 ω]
def PeakFrames_law(c:bR)(acts:List cn)(e:bR.wf c)(l:EU acts):zzA 13 false [.val (some 5) (bR.enc .S c),.val none (eS .S acts)] .one [B true]:=by
 have n:0<=bR.sz c:=X0 _;by_cases o:(bR.sz c:Int)<=1048576
 ·have h:=bR.sml_of (x:=c) ω;by_cases p:(x3 acts:Int)<=1048576 - bR.sz c
  ·have b:=FA (x:=acts) ω
   have j:=Mi c acts e.2.2.2.2 h b.1;have k:=LC c acts e.2.2.2.2 h b.1;generalize Gy c acts=d at j k;refine fO 45 [(14,3,[35,36,37])] Tryz.func13 rfl ?_
   repeat'(first|refine gE ?_|with_reducible (first|refine Bf.D (λa=>?_) (λa=>absurd rfl a)|refine Bf.N (λa=>absurd rfl a) (λa=>?_))|refine Cl.sz (wx c 1048576 ω ω e) (λa=>absurd a ω) (λa=>?_)|refine Cl.sz (LT acts (1048576 - bR.sz c) ω ω l) (λa=>absurd a ω) (λa=>?_)|refine C8 (GK c h) ?_|refine C8 (LY acts b) ?_|refine CG (j) ⟨⟨rfl,bR.enc_fz c⟩,⟨rfl,qN acts⟩,trivial⟩ ?_|refine CG (k) ⟨⟨rfl,bR.enc_fz c⟩,⟨rfl,qN acts⟩,trivial⟩ ?_|refine CG (HF c c h) ⟨⟨rfl,bR.enc_fz c⟩,⟨rfl,bR.enc_fz c⟩,trivial⟩ ?_|refine CG (M6 acts acts b) ⟨⟨rfl,qN acts⟩,⟨rfl,qN acts⟩,trivial⟩ ?_)
   all_goals rfl
  refine fO 45 [(14,3,[35,36,37])] Tryz.func13 rfl ?_
  repeat'(first|refine gE ?_|with_reducible refine Bf.D (λa=>?_) (λa=>?_)|refine Cl.sz (wx c 1048576 ω ω e) (λa=>absurd a ω) (λa=>?_)|refine Cl.sz (LT acts (1048576 - bR.sz c) ω ω l) (λa=>?_) (λa=>absurd a ω))
  rfl
 refine fO 45 [(14,3,[35,36,37])] Tryz.func13 rfl ?_
 repeat'(first|refine gE ?_|refine Cl.sz (wx c 1048576 ω ω e) (λa=>?_) (λa=>absurd a ω))
 rfl
open Go.RowKit Go.ChangeShapes Go.WideShapes Go.Deep
def ALL(w:World):af:=λb _=>b<w.heap.size
def R2{H:Type}(e:TypeId × Value->H)(P:Program)(w:World)(t n:Nat)(enc:α->List C)(c:α->Prop):Prop:=
 ∀(fuel:Nat)(b:List Value)(x:DataW H × List MemPlace),DataW.trod e P w 0 (λ_=>true) true fuel t b=some x->b.length=n/\∃a,c a/\(enc a).length=n/\cC w (ALL w) NO (enc a) (λj=>b.getD j undef)
section
variable{H:Type}{e:TypeId × Value->H}{P:Program}{w:World}
def EB{S F:af}{c:C}{u:Nat->Value}(h:dN w S F c (u 0)):cC w S F [c] u:=
 ⟨λ_=>F,λj e a=>by cases j with
   | zero=>simp at a;subst a;exact h
   | succ j=>simp at a,λ_ _ _ _ h=>h,λj f a b d=>by simp at a b;omega⟩
variable{t:Nat}
def RV(b:P.underlying t=some (.int .i64)):R2 e P w t 1 (rI .S) kV:=by
 intro fuel c x h;obtain⟨n,rfl,-,a⟩:=DataW.trod_int b h;refine⟨rfl,n,?_,rfl,EB (.v _ _ rfl)⟩;unfold kV;simp only[Lit.wf,I0,C0]at a;exact a
variable{α:Type}
def pick{β:Type}(n:Nat){Q:Nat->β->Prop}(h:∀i,i<n->∃b,Q i b):∃l:List β,l.length=n/\∀i b,l[i]? = some b->Q i b:=by
 induction n with
 | zero=>exact⟨[],rfl,λi b h=>by simp at h⟩
 | succ n c=>
  obtain⟨l,d,e⟩:=c λi a=>h i ω
  obtain⟨b,f⟩:=h n ω;refine⟨l++[b],by simp[d],λi g a=>?_⟩;by_cases j:i<n
  ·rw[Y4 ω]at a;exact e i g a
  rw[Z4 ω]at a;have:i - l.length=0:=by
   have:=(Z2.1 a).1;simp at this;omega
  rw[this]at a;simp at a;subst a;rw[show i=n by omega];exact f
variable{n:Nat}
theorem GJ{T:Nat}{enc:α->List C}{U:α->Prop}(V:R2 e P w T n enc U)(ht:P.underlying t=some (.slice T))(hn:P.cellsOf T=n)(p:0<n) :
  R2 e P w t 1 (λxs:List α=>[.s .S (xs.map enc)]) (λxs=>xs.length<=9223372036854775807/\∀y∈xs,U y):=by
 intro fuel cs x h;rcases open_slice ht h with⟨rfl,-⟩|⟨k,len,cap,m,n',D,Pl,rfl,-,hl,hm,K,-,u⟩
 ·exact⟨rfl,[],⟨by simp,by simp⟩,rfl,EB (.nil _ _ _ trivial)⟩
 simp only[if_true]at K;subst K;have L:0<m->k.spot=none:=λW=>by
  obtain⟨E,M,N⟩:=u 0 W;rw[hn]at M;obtain⟨_,X,F⟩:=World.cells?_some M;have:=F 0 p;rw[X2 ω]at this;have:=World.cell?_spot this;simpa[Addr.add] using this
 have key:∀i,i<len->∃a,U a/\(enc a).length=n/\(∀d,d<n->∃z,cel w k.block (k.off+(i*n+d))=some z)/\k.spot=none/\cC w (ALL w) NO (enc a) (λd=>(cel w k.block (k.off+(i*n+d))).getD undef):=λi hil=>by
  have g:=L ω;obtain⟨E,M,N⟩:=u i ω;rw[hn]at M;obtain⟨h1,a,h3,h4,h5⟩:=V _ _ _ N;obtain⟨_,X,F⟩:=World.cells?_some M;have O:∀d,k.add d = ⟨k.block,k.off+d,none⟩:=λd=>by
   obtain⟨b,o,sp⟩:=k;simp only at g;subst g;unfold Addr.add;split<;>simp_all
  have A:∀d,d<n->cel w k.block (k.off+(i*n+d))=E[d]?:=λd J=>by
   have:=F d J;rw[Go.Deep.add_add,O]at this;exact this
  refine⟨a,h3,h4,λd J=>⟨_,by rw[A d J,X2 ω]⟩,g,h5.congr λd J=>?_⟩;show(cel w k.block (k.off+(i*n+d))).getD undef=E.getD d undef;rw[A d ω,List.getD]
 obtain⟨l,Q,B⟩:=pick len key;refine⟨rfl,l,⟨by simp only[maxLen]at hm;omega,λy R=>?_⟩,rfl,EB ?_⟩
 ·obtain⟨i,G⟩:=List.mem_iff_getElem?.1 R
  exact(B i y G).1
 show dN w (ALL w) NO (.s .S (l.map enc)) (.slice (some k) len m);by_cases h0:len=0
 ·subst h0
  have:l=[]:=X7 Q;subst this;by_cases Y:m=0
  ·subst Y;exact .nil _ _ _ trivial
  have g:=L ω;obtain⟨b,o,sp⟩:=k;simp only at g;subst g;exact .S _ b o n 0 m [] (λ_=>undef) rfl (λr Z=>by simp at Z) hl (λq hq=>by simp at hq) (λi j r c u=>by simp at u)
 obtain⟨y0,hy0⟩ : ∃y,l[0]? = some y:=⟨_,X2 ω⟩
 have g:=(B 0 y0 hy0).2.2.2.1;obtain⟨b,o,sp⟩:=k;simp only at g;subst g;refine .S _ b o n len m (l.map enc) (λq=>(cel w b (o+q)).getD undef) (by simpa using Q) (λr Z=>?_) hl (λq hq=>?_) (λi j r c u hj=>?_)
 ·obtain⟨y,R,rfl⟩:=W4.1 Z
  obtain⟨i,G⟩:=List.mem_iff_getElem?.1 R;exact(B i y G).2.1
 ·have hqd:q / n<len:=(Nat.div_lt_iff_lt_mul p).2 hq
  obtain⟨y,R⟩ : ∃y,l[q / n]? = some y:=⟨_,X2 ω⟩
  obtain⟨z,S⟩:=(B _ y R).2.2.1 (q % n) (Nat.mod_lt _ p);have J:q / n*n+q % n=q:=by rw[Nat.mul_comm];exact Nat.div_add_mod q n
  rw[J]at S;exact⟨Th S,by simp only at S |-;rw[S];rfl⟩
 rw[W3]at u;cases H:l[i]? with
 | none=>rw[H]at u;cases u
 | some y=>
  rw[H]at u;simp only[O5,C1]at u;subst u;obtain⟨f,h1,h2,-⟩:=(B i y H).2.2.2.2;have hjl:=(Z2.1 hj).1;exact(h1 j c hj).mono (λ_ _ h=>h) (h2 j hjl)
variable{cs:List Value}
def kc{fs:Array Field}{fuel:Nat}{x:DataW H × List MemPlace}(l:P.underlying t=some (.struct fs))(h:DataW.trod e P w 0 (λ_=>true) true fuel t cs=some x)(i:Nat)(f:Field)(d:fs[i]? = some f){enc:α->List C}{g:α->Prop}(o:R2 e P w f.type n enc g)(p:P.cellsOf f.type=n):∃a,g a/\(enc a).length=n/\cC w (ALL w) NO (enc a) (λj=>cs.getD (f.offset+j) undef):=by
 obtain⟨B,D,q,E,k,r,b⟩:=DataW.trod_struct l h;have c:=b i f d;have F:=(Z3.1 d).1;rw[X2 ω]at c;rw[p]at c;obtain⟨G,a,u,y,A⟩:=o _ _ _ c;refine⟨a,u,y,A.congr λj J=>?_⟩;simp only[List.getD];rw[List.getElem?_take_of_lt ω,List.getElem?_drop]
def q7{a b:List C}{o:Nat}(h1:cC w (ALL w) NO a (λj=>cs.getD (o+j) undef))(d:cC w (ALL w) NO b (λj=>cs.getD (o+a.length+j) undef)):cC w (ALL w) NO (a++b) (λj=>cs.getD (o+j) undef):=by
 refine((zR h1 d λ_ _ h=>h.elim).mono (λ_ _ h=>h) (λ_ _ h=>h.elim id id)).congr λj e=>?_
 by_cases c:j<a.length
 ·rw[CC c]
 rw[CB c];show cs.getD (o+j) undef=cs.getD (o+a.length+(j - a.length)) undef
 congr 1;omega
def valOk_agg{S:af}{cs:Array Value}{xs:List C}(h1:cs.toList.length=n)(a:xs.length=n)(b:cC w S NO xs (λj=>cs.toList.getD j undef)):bC w S NO (some n) xs (.agg cs):=by
 refine⟨a,_,?_,b⟩;have:=oK cs;rw[show cs.size=n by simpa using h1]at this;exact this
def row_val{S F:af}{x:Value}{u:Nat->Value}(h:cC w S F [.v x] u):u 0=x:=by
 obtain⟨f,a,-⟩:=h;have:=a 0 _ rfl;cases this
 rfl
end
set_option maxHeartbeats 1000000
section
variable{H:Type}{e:TypeId × Value->H}{w:World}
def mH:R2 e Tryz.prog w 3 1 (rI .S) kV:=RV Tryz.underlying3
def QN:R2 e Tryz.prog w 33 1 (aG .S) gr:=GJ mH Tryz.underlying33 (by kernel_rfl) (by decide)
def op_DConf:R2 e Tryz.prog w 126 5 (bR.enc .S) bR.wf:=by
 intro fuel c x h;obtain⟨B,C,-,-,a,-⟩:=DataW.trod_struct Tryz.underlying126 h;obtain⟨d,w0,D,f⟩:=kc Tryz.underlying126 h 0 _ rfl mH (by kernel_rfl);obtain⟨g,w1,E,i⟩:=kc Tryz.underlying126 h 1 _ rfl mH (by kernel_rfl);obtain⟨k,l,F,n⟩:=kc Tryz.underlying126 h 2 _ rfl mH (by kernel_rfl);obtain⟨o,p,G,q⟩:=kc Tryz.underlying126 h 3 _ rfl mH (by kernel_rfl);obtain⟨r,u,H,y⟩:=kc Tryz.underlying126 h 4 _ rfl QN (by kernel_rfl);have b:=(q7 f (q7 i (q7 n (q7 q y))))
 exact⟨a.trans (by kernel_rfl),⟨d,g,k,o,r⟩,⟨w0,w1,l,p,u⟩,rfl,b.congr λj _=>by show c.getD j undef=c.getD (0+j) undef;rw[O7]⟩
def Rj:R2 e Tryz.prog w 254 5 (cn.enc .S) cn.wf:=by
 intro fuel c x h;obtain⟨B,C,-,-,a,-⟩:=DataW.trod_struct Tryz.underlying254 h;obtain⟨d,w0,D,f⟩:=kc Tryz.underlying254 h 0 _ rfl mH (by kernel_rfl);obtain⟨g,w1,E,i⟩:=kc Tryz.underlying254 h 1 _ rfl mH (by kernel_rfl);obtain⟨k,l,F,n⟩:=kc Tryz.underlying254 h 2 _ rfl mH (by kernel_rfl);obtain⟨o,p,G,q⟩:=kc Tryz.underlying254 h 3 _ rfl mH (by kernel_rfl);obtain⟨r,u,H,y⟩:=kc Tryz.underlying254 h 4 _ rfl mH (by kernel_rfl);have b:=(q7 f (q7 i (q7 n (q7 q y))))
 exact⟨a.trans (by kernel_rfl),⟨d,g,k,o,r⟩,⟨w0,w1,l,p,u⟩,rfl,b.congr λj _=>by show c.getD j undef=c.getD (0+j) undef;rw[O7]⟩
def op_DActS:R2 e Tryz.prog w 127 1 (eS .S) EU:=GJ Rj Tryz.underlying127 (by kernel_rfl) (by decide)
end
end Go.Proofs.YtiopgblagimpmaaGreat.Ab
