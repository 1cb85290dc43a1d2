/- The library's Insert of one element, at rows of several cells. No condition. -/
import Derived.Test.YtiopgblagimpmaaGreatKkc
import Derived.Test.YtiopgblagimpmaaGreatKkf
import Derived.Lib.Overlaps
import Derived.Lib.AppendZerosOnto
import Derived.Laws.NewBlocks
import Derived.Laws.Externs
import Derived.Test.YtiopgblagimpmaaGreatKkh
import Derived.Test.YtiopgblagimpmaaGreatKke
import Derived.Test.YtiopgblagimpmaaGreatKkg
set_option linter.unusedVariables false
set_option linter.defProp false
set_option linter.unusedSimpArgs false
set_option linter.constructorNameAsVariable false
namespace Go.Proofs.YtiopgblagimpmaaGreat.Ab
open Go.RowKit
set_option maxRecDepth 20000
set_option maxHeartbeats 4000000
variable{P:Program}
def eU(w:World)(dT sT ty elem:TypeId)(k b o dLen dCap:Nat)(a:Addr)(sLen sCap n:Nat)(cs:List Value)(h:P.underlying dT=some (.slice elem))(g:(P.info? elem).map (·.size)=some k)(l:Nat.min sLen dLen=n)(p:cs.length=n*k)(c:∀j v,cs[j]? = some v->w.cell? (a.add j)=some v)(q:∀j,j<cs.length->(w.cell? ⟨b,o+j,none⟩).isSome=true)(r:∀j,j<cs.length->w.frozen? ⟨b,o+j,none⟩ = false)(h1:∀v∈cs,v.oneCell'=true) :
  (Builtin.copy_ #[dT,sT] ty #[.slice (some ⟨b,o,none⟩) dLen dCap,.slice (some a) sLen sCap]).run P w=.ok (goInt n) (w.setCells b o cs):=by
 have d:=run_loadCells_list (P:=P) w a cs c;have e:=run_storeCells_cells (P:=P) b o cs 0 w (by simpa using q) (by simpa using r) h1;rw[p]at d;cases f:P.info? elem with
 | none=>simp[f]at g
 | some i=>
  have t:i.size=k:=by simpa[f] using g
  simp[Builtin.copy_,run_underlying h,Builtin.lenOf,Builtin.firstCells,sizeOf,typeInfo,f,t,l,d,e]
variable{Q:Exit->Act->World->Prop}{ops:Array Oper}
def eI(w:World){rest:List Oper}{o:Oper}{a:Act}(b:o.guard=none)(d s:Operand)(t c:TypeId)(g:o.op=.call {callee:=.builtin .copy,args:=#[d,s],argTypes:=#[t,c]})(v u:Value)(i:a.eval d=v)(j:a.eval s=u){e:Value}{f:World}(k:(Builtin.copy_ #[t,c] o.type #[v,u]).run P w=.ok e f)(h:wpList P ops Q rest (a.put o.dst e) f):wpList P ops Q (o::rest) a w:=by
 refine wpList_plain b λ_ l=>?_
 unfold Oper.wp execOp;simp only[g,resolve,invoke,builtin,Sem.run_bind,Sem.run_pure,Result.andThen_ok,List.map_toArray,I8,List.map_nil,i,j,k];exact l _ _ h
variable{w:World}
def jy{o:Oper}{a:Act}{K:Act->World->Prop}{E:Prop}(f:o.guard=none)(d x:Operand)(dT sT:TypeId)(b:o.op=Op.call {callee:=Callee.builtin Builtin.copy,args:=#[d,x],argTypes:=#[dT,sT]})(v u:Value)(g:a.eval d=v)(h:a.eval x=u){c:Value}{e:World}(i:(Builtin.copy_ #[dT,sT] o.type #[v,u]).run P w=.ok c e)(j:K (a.put o.dst c) e) :
  if Region.wanted o (yielded ops a.tmps)=true then Oper.wp P o a w K Q else E:=by
 have k:Region.wanted o (yielded ops a.tmps)=true:=by simp[Region.wanted,f]
 rw[CE k];unfold Oper.wp;simp[execOp,b,resolve,invoke,builtin,g,h,i,Result.andThen];exact j
def xW(b:Nat):∀(vs:List Value)(o:Nat)(w:World),(w.setCells b o vs).drew=w.drew.setCells b o vs
 | [],_,_=>rfl
 | v::r,o,w=>by rw[World.setCells,World.setCells,xW b r];rfl
def lV(b:Nat)(vs:List Value)(o:Nat)(w:World)(h:∀j,j<vs.length->(w.cell? ⟨b,o+j,none⟩).isSome=true)(q:Nat)(a:(w.cell? ⟨b,q,none⟩).isSome=true):((w.setCells b o vs).cell? ⟨b,q,none⟩).isSome=true:=by
 by_cases c:o<=q/\q<o+vs.length
 ·have:=World.cell?_setCells_in b vs o w h (q - o) ω
  rw[show o+(q - o)=q by omega]at this;rw[this];rfl
 rw[World.cell?_setCells_out b vs o w ⟨b,q,none⟩ (λ_ _=>by show q<o\/o+vs.length<=q;omega)];exact a
variable{g:Nat}
def Hp{z:Value}(a:cel w g 0=some z)(d:fro w g 0=NF):∃t k,w.shape? g=some (t,k)/\k≠0/\w.frozen? ⟨g,0,none⟩ = false/\w.frozen? ⟨g,k,none⟩ = false:=by
 have f:=C1 Prod.fst d;have b:=C1 Prod.snd d;simp only[fro]at f b;unfold mp at b;unfold cel World.cell? at a;unfold World.shape?;simp only at a;cases e:w.heap[g]? with
 | none=>rw[e]at a;cases a
 | some x=>
  rw[e]at a b;cases x with
  | cells c t i=>
   obtain⟨j,l⟩:=i;simp only[Option.isSome_none,Bool.false_eq_true,if_false]at a;have o:0<c.size:=by
    rcases Nat.eq_zero_or_pos c.size with h|h
    ·rw[Array.getElem?_eq_none ω]at a;cases a
    exact h
   refine⟨t,c.size,rfl,ω,f,?_⟩;unfold World.frozen?;simp only[e];simp only at b;split at b
   ·cases b
   rename_i n;have:¬(j<=c.size/\c.size<l):=n;simp only[Bool.and_eq_false_imp,C0,C6];omega
  | _=>cases a
variable{e b:Nat}
def qm{tS tR k a:Nat}{z h:Value}(i:P.underlying tS=some (.slice e))(j:∀w,(Go.sizeOf e).run P w=.ok k w)(c:a≠b)(h1:cel w a 0=some z)(l:fro w a 0=NF)(n:cel w b 0=some h)(o:fro w b 0=NF)(x la d f g:Nat) :
  (Extern.SlicesOverlaps.overlaps #[tS,tS] #[tR] #[.slice (some ⟨a,0,none⟩) la d,.slice (some ⟨b,x,none⟩) f g]).run P w=.ok (.bool false) w:=by
 obtain⟨tA,kA,p,y,q,r⟩:=Hp h1 l;obtain⟨tB,kB,t,u,-,-⟩:=Hp n o;exact Lib.run_overlaps_apart w tS tR e i k j ⟨a,0,none⟩ ⟨b,x,none⟩ la d f g c tA tB kA kB p t u q r
structure AI(w w':World)(g G k n c c' i:Nat)(olds vs:List Value):Prop where
 keep:bA (λb o=>b=g/\o<c*k) w w'
 cel:∀q u,(olds.take (i*k)++vs++olds.drop (i*k))[q]? = some u->cel w' G q=some u
 all:∀q,q<c'*k->(∃z,Ab.cel w' G q=some z/\z.oneCell'=true)/\fro w' G q=NF
 at_:(G=g/\c'=c)\/(w.heap.size<=G/\G<w'.heap.size)
variable{i n:Nat}{olds vs:List Value}
def JB{k q:Nat}{u:Value}(j:i<n)(d:olds.length=n*k)(b:vs.length=k)(h:(olds.take (i*k)++vs++olds.drop (i*k))[q]? = some u) :
  q<(n+1)*k/\((q<i*k/\olds[q]? = some u)\/(i*k<=q/\q<i*k+k/\vs[q - i*k]? = some u)\/(i*k+k<=q/\(olds.drop (i*k))[q - (i*k+k)]? = some u)):=by
 have e:i*k<=n*k:=S9 k ω;have l:(n+1)*k=n*k+k:=by rw[Nat.add_mul,Nat.one_mul]
 have a:(olds.take (i*k)).length=i*k:=by rw[O2];omega
 have f:=(I3.1 h).1;simp only[C4,a,b,I4,d]at f;refine⟨ω,?_⟩;by_cases c:q<i*k
 ·rw[Y7,Y5 ω,List.getElem?_take,CE c]at h
  exact .inl ⟨c,h⟩
 by_cases g:q<i*k+k
 ·rw[Y5 (by rw[C4];omega),Z5 ω,a]at h
  exact .inr (.inl ⟨ω,g,h⟩)
 rw[Z5 (by rw[C4];omega),C4,a,b]at h;exact .inr (.inr ⟨ω,h⟩)
variable{c:Nat}
def qP{k:Nat}(B:i<n)(C:n+1<=c)(y:olds.length=n*k)(D:vs.length=k)(E:∀t u,olds[t]? = some u->cel w g t=some u)(h1:∀u∈olds,u.oneCell'=true)(F:∀u∈vs,u.oneCell'=true)(a:∀q,q<c*k->(∃z,cel w g q=some z/\z.oneCell'=true)/\fro w g q=NF) :
  AI w ((w.drew.setCells g ((i+1)*k) (olds.drop (i*k))).setCells g (i*k) vs) g g k n c c i olds vs:=by
 have G:i*k<=n*k:=S9 k ω;have H:(n+1)*k<=c*k:=S9 k C;have N:(n+1)*k=n*k+k:=by rw[Nat.add_mul,Nat.one_mul]
 have O:(i+1)*k=i*k+k:=by rw[Nat.add_mul,Nat.one_mul]
 have J:(olds.drop (i*k)).length=n*k - i*k:=by rw[I4,y]
 have P:∀b q,cel w.drew b q=cel w b q:=λ_ _=>rfl
 have in1:∀j,j<(olds.drop (i*k)).length->∃z,cel w.drew g ((i+1)*k+j)=some z:=λj p=>by
  obtain⟨⟨z,r,-⟩,-⟩:=a ((i+1)*k+j) ω;exact⟨z,r⟩
 have all1:∀q,q<c*k->∃z,cel (w.drew.setCells g ((i+1)*k) (olds.drop (i*k))) g q=some z/\z.oneCell'=true:=λq e=>by
  by_cases h:(i+1)*k<=q/\q<(i+1)*k+(olds.drop (i*k)).length
  ·obtain⟨u,f⟩ : ∃u,(olds.drop (i*k))[q - (i+1)*k]? = some u:=⟨_,C3 ω⟩
   have d:=bw in1 f;rw[show(i+1)*k+(q - (i+1)*k)=q by omega]at d;exact⟨u,d,h1 u (List.mem_of_mem_drop (Z2 f))⟩
  rw[bg (λx=>h x.2)];exact(a q e).1
 have in2:∀j,j<vs.length->∃z,cel (w.drew.setCells g ((i+1)*k) (olds.drop (i*k))) g (i*k+j)=some z:=λj p=>by
  obtain⟨z,r,-⟩:=all1 (i*k+j) ω;exact⟨z,r⟩
 refine⟨?_,λq u e=>?_,λq e=>⟨?_,by rw[bV,bV];exact(a q e).2⟩,.inl ⟨rfl,rfl⟩⟩
 ·have K:=eN (g:=g) (X:=λb o=>b=g/\o<c*k) (olds.drop (i*k)) ((i+1)*k) w.drew λj p=>⟨rfl,ω⟩
  have L:=eN (g:=g) (X:=λb o=>b=g/\o<c*k) vs (i*k) (w.drew.setCells g ((i+1)*k) (olds.drop (i*k))) λj p=>⟨rfl,ω⟩
  exact((y6 w).up λ_ _ h=>h.elim).trans (K.trans L λ_ _ h=>.inr h) λ_ _ h=>.inr h
 ·obtain⟨-,⟨A,l⟩|⟨A,l,M⟩|⟨A,l⟩⟩:=JB B y D e
  ·rw[bg ω,bg ω];exact E q u l
  ·have d:=bw in2 M
   rwa [show i*k+(q - i*k)=q by omega]at d
  rw[bg ω];have d:=bw in1 l;rw[show(i+1)*k+(q - (i*k+k))=q by omega]at d;exact d
 by_cases h:i*k<=q/\q<i*k+vs.length
 ·obtain⟨u,f⟩ : ∃u,vs[q - i*k]? = some u:=⟨_,C3 ω⟩
  have d:=bw in2 f;rw[show i*k+(q - i*k)=q by omega]at d;exact⟨u,d,F u (Z2 f)⟩
 rw[bg (λx=>h x.2)];exact all1 q e
def tI{a:World}{k G:Nat}{Z:Array Value}(y:a.heap=(w.alloc (.cells ((olds.take (i*k)).toArray++Builtin.zeroCells Z (n+1 - i)++Builtin.zeroCells Z (G - (n+1))) e)).heap)(Q:a.os=w.os)(R:a.tape=w.tape)(S:a.output=w.output)(hi:i<n)(hG:n+1<=G)(hZ:Z.size=k)(T:∀v∈Z.toList,v.oneCell'=true)(U:olds.length=n*k)(d:vs.length=k)(h1:∀u∈olds,u.oneCell'=true)(h2:∀u∈vs,u.oneCell'=true) :
  AI w ((a.setCells w.heap.size (i*k) vs).setCells w.heap.size ((i+1)*k) (olds.drop (i*k))) g w.heap.size k n c G i olds vs:=by
 have V:i*k<=n*k:=S9 k ω;have hGk:(n+1)*k<=G*k:=S9 k hG;have e1:(n+1)*k=n*k+k:=by rw[Nat.add_mul,Nat.one_mul]
 have e2:(i+1)*k=i*k+k:=by rw[Nat.add_mul,Nat.one_mul]
 have hdl:(olds.drop (i*k)).length=n*k - i*k:=by rw[I4,U]
 generalize hcells:(olds.take (i*k)).toArray++Builtin.zeroCells Z (n+1 - i)++Builtin.zeroCells Z (G - (n+1))=cells at y;have C:∀b q,cel a b q=cel (w.alloc (.cells cells e)) b q:=λb q=>by unfold cel World.cell?;rw[y]
 have D:∀b q,fro a b q=fro (w.alloc (.cells cells e)) b q:=λb q=>by unfold fro World.frozen? mp;rw[y]
 have hsz:cells.size=G*k:=by
  rw[<-hcells];simp only[Array.size_append,List.size_toArray,O2,size_zeroCells,hZ,U,Nat.min_eq_left V];rw[<-Nat.add_mul,<-Nat.add_mul]
  congr 1;omega
 have E:∀v∈cells.toList,v.oneCell'=true:=by
  have F:∀m,∀v∈(Builtin.zeroCells Z m).toList,v.oneCell'=true:=λm v d=>by
   rw[Array.mem_toList_iff]at d;simp only[Builtin.zeroCells,Array.mem_map,Array.mem_range]at d;obtain⟨j,A,rfl⟩:=d;have B:0<Z.size:=by rcases Nat.eq_zero_or_pos Z.size with h|h;rw[h]at A;simp at A;exact h
   have H:j % Z.size<Z.size:=Nat.mod_lt _ B;rw[getElem!_pos Z (j % Z.size) H];exact T _ (Array.mem_toList_iff.2 (Array.getElem_mem H))
  intro v d;rw[<-hcells]at d;simp only[Array.toList_append,t4]at d;rcases d with(d|d)|d
  ·exact h1 v (List.mem_of_mem_take d)
  ·exact F _ v d
  exact F _ v d
 have l:∀q,cel a w.heap.size q=cells[q]?:=λq=>(C _ _).trans (iW w cells e q)
 have J:∀q,q<G*k->∃z,cel a w.heap.size q=some z/\z.oneCell'=true:=λq p=>by
  have K:q<cells.size:=ω
  exact⟨cells[q],by rw[l,Y8 K],E _ (Array.mem_toList_iff.2 (Array.getElem_mem K))⟩
 have r:∀q u,q<i*k->olds[q]? = some u->cells[q]? = some u:=λq u p t=>by
  rw[<-hcells,Array.append_assoc,Array.getElem?_append_left (by simp;omega)];simp[p,t]
 have L:∀q,fro a w.heap.size q=NF:=λq=>(D _ _).trans (iQ w cells e q)
 have hK:bA NO w a:=by
  have B:bA NO w (w.alloc (.cells cells e)):=dd w _;exact⟨Q,R,S,by rw[y];exact B.size,λb M N=>by rw[y];exact B.blk b M N,λb o M N=>(C b o).trans (B.cel b o M N),λb o M N=>(D b o).trans (B.fro b o M N)⟩
 have hS:a.heap.size=w.heap.size+1:=by rw[y];exact kE w _
 have k1:=eN (g:=w.heap.size) (X:=λb o=>b=w.heap.size) vs (i*k) a λj A=>rfl
 have k2:=eN (g:=w.heap.size) (X:=λb o=>b=w.heap.size) (olds.drop (i*k)) ((i+1)*k) (a.setCells w.heap.size (i*k) vs) λj A=>rfl
 have in1:∀j,j<vs.length->∃z,cel a w.heap.size (i*k+j)=some z:=λj A=>by
  obtain⟨z,W,-⟩:=J (i*k+j) ω;exact⟨z,W⟩
 have all1:∀q,q<G*k->∃z,cel (a.setCells w.heap.size (i*k) vs) w.heap.size q=some z/\z.oneCell'=true:=λq p=>by
  by_cases h:i*k<=q/\q<i*k+vs.length
  ·obtain⟨u,t⟩ : ∃u,vs[q - i*k]? = some u:=⟨_,C3 ω⟩
   have f:=bw in1 t;rw[show i*k+(q - i*k)=q by omega]at f;exact⟨u,f,h2 u (Z2 t)⟩
  rw[bg (λx=>h x.2)];exact J q p
 have in2:∀j,j<(olds.drop (i*k)).length->∃z,cel (a.setCells w.heap.size (i*k) vs) w.heap.size ((i+1)*k+j)=some z:=λj A=>by
  obtain⟨z,W,-⟩:=all1 ((i+1)*k+j) ω;exact⟨z,W⟩
 have O:w.heap.size<((a.setCells w.heap.size (i*k) vs).setCells w.heap.size ((i+1)*k) (olds.drop (i*k))).heap.size:=by
  have:=k1.size;have:=k2.size;omega
 refine⟨?_,λq u p=>?_,λq p=>⟨?_,by rw[bV,bV];exact L q⟩,.inr ⟨v4 _,O⟩⟩
 ·exact(hK.up λ_ _ h=>h.elim).trans (k1.trans k2 λ_ _ h=>.inr h) λ_ _ h=>.inl (by rw[h];exact v4 _)
 ·obtain⟨-,⟨Y,P⟩|⟨Y,P,a3⟩|⟨Y,P⟩⟩:=JB hi U d p
  ·rw[bg ω,bg ω,l];exact r q u Y P
  ·rw[bg ω]
   have f:=bw in1 a3
   rwa [show i*k+(q - i*k)=q by omega]at f
  have f:=bw in2 P;rw[show(i+1)*k+(q - (i*k+k))=q by omega]at f;exact f
 by_cases h:(i+1)*k<=q/\q<(i+1)*k+(olds.drop (i*k)).length
 ·obtain⟨u,t⟩ : ∃u,(olds.drop (i*k))[q - (i+1)*k]? = some u:=⟨_,C3 ω⟩
  have f:=bw in2 t;rw[show(i+1)*k+(q - (i+1)*k)=q by omega]at f;exact⟨u,f,h1 u (List.mem_of_mem_drop (Z2 t))⟩
 rw[bg (λx=>h x.2)];exact all1 q p
structure Fs(P:Program)(f k T b:Nat):Prop where
 has:M6 P f
 end_:∀(w w1:World)(base:Option Addr)(n c vb m vc:Nat)(r:Value),m=1->n<=c->n<=1073741824->(base=none->n=0/\c=0)->(Builtin.append_ #[T,T] T #[.slice base n c,.slice (some ⟨vb,0,none⟩) m vc]).run P w=.ok r w1->
  Calls P f #[.slice base n c,.int .i64 n,.slice (some ⟨vb,0,none⟩) m vc] w λe w'=>e=.returned r/\w'=w1
 mid:∀(w:World)(g n c i vb m vc:Nat)(olds vs:List Value),m=1->i<n->n<=c->n<=1073741824->b<=1000->olds.length=n*k->vs.length=k->(∀t u,olds[t]? = some u->cel w g t=some u)->(∀t u,vs[t]? = some u->cel w vb t=some u)->
  (∀u∈olds,u.oneCell'=true)->(∀u∈vs,u.oneCell'=true)->(∀q,q<c*k->(∃z,cel w g q=some z/\z.oneCell'=true)/\fro w g q=NF)->fro w vb 0=NF->vb≠g->
  Calls P f #[.slice (some ⟨g,0,none⟩) n c,.int .i64 i,.slice (some ⟨vb,0,none⟩) m vc] w λe w'=>∃G c',e=.returned (.slice (some ⟨G,0,none⟩) (n+1) c')/\n+1<=c'/\AI w w' g G k n c c' i olds vs
variable{α:Type}
def inse(xs:List α)(i:Nat)(y:α):List α:=xs.take i++y::xs.drop i
def Jm(xs:List α)(i:Nat)(y:α):(inse xs i y).length=xs.length+1:=by
 unfold inse;rw[C4,List.length_cons,O2,I4];omega
def yS{xs:List α}{y z:α}(h:z∈inse xs i y):z=y\/z∈xs:=by
 unfold inse at h;rcases t4.1 h with h|h
 ·exact .inr (List.mem_of_mem_take h)
 rcases List.mem_cons.1 h with h|h
 ·exact .inl h
 exact .inr (List.mem_of_mem_drop h)
def y1{β:Type}(e:α->β)(xs:List α)(i:Nat)(y:α):inse (xs.map e) i (e y)=(inse xs i y).map e:=by
 unfold inse;simp only[Z7,I8,C5,I5]
variable{row:List C}{rows:List (List C)}
def Qz{k a:Nat}{r:List C}{c:C}(g:i<=rows.length)(A:olds.length=rows.length*k)(n:vs.length=k)(o:b<k)(j:∀(a b:Nat)(r:List C)(c:C),rows[a]? = some r->r[b]? = some c->∃z,c=C.v z/\olds[a*k+b]? = some z)(p:∀(b:Nat)(c:C),row[b]? = some c->∃z,c=C.v z/\vs[b]? = some z)(h1:(inse rows i row)[a]? = some r)(e:r[b]? = some c):∃z,c=.v z/\(olds.take (i*k)++vs++olds.drop (i*k))[a*k+b]? = some z:=by
 have q:i*k<=rows.length*k:=S9 k g;have l:(olds.take (i*k)).length=i*k:=by rw[O2];omega
 unfold inse at h1;by_cases h:a<i
 ·rw[Y5 (by rw[O2];omega),List.getElem?_take,CE h]at h1
  obtain⟨z,rfl,d⟩:=j a b r c h1 e;have f:a*k+b<i*k:=eg h o;exact⟨z,rfl,by rw[Y7,Y5 ω,List.getElem?_take,CE f];exact d⟩
 rw[Z5 (by rw[O2];omega),O2,Nat.min_eq_left g]at h1;have t:i*k<=a*k:=S9 k ω;by_cases u:a=i
 ·subst u
  simp only[Nat.sub_self,List.getElem?_cons_zero,I1]at h1;subst h1;obtain⟨z,rfl,d⟩:=p b c e;exact⟨z,rfl,by rw[Y5 (by rw[C4];omega),Z5 ω,l,show a*k+b - a*k=b by omega];exact d⟩
 obtain⟨m,rfl⟩ : ∃m,a=i+(m+1):=⟨a - i - 1,ω⟩
 rw[show i+(m+1) - i=m+1 by omega,List.getElem?_cons_succ,List.getElem?_drop]at h1;obtain⟨z,rfl,d⟩:=j (i+m) b r c h1 e;have w:(i+(m+1))*k=i*k+k+m*k:=by rw[<-Nat.add_assoc,Nat.add_mul,Nat.add_mul,Nat.one_mul];omega
 have y:(i+m)*k=i*k+m*k:=Nat.add_mul ..;refine⟨z,rfl,?_⟩;rw[Z5 (by rw[C4];omega),C4,l,n,List.getElem?_drop,w,show i*k+(i*k+k+m*k+b - (i*k+k))=i*k+m*k+b by omega,<-y];exact d
def VO(h:Vi rows):Ts rows:=by
 have b:∀r:List C,(∀c∈r,∃z,c=C.v z)->i6 r:=by
  intro r
  induction r with
  | nil=>exact λ_=>trivial
  | cons c r a=>intro h;obtain⟨z,rfl⟩:=h c (by simp);exact⟨trivial,a λc d=>h c (by simp[d])⟩
 induction rows with
 | nil=>exact trivial
 | cons r f a=>exact⟨b r (h r (by simp)),a λr e=>h r (by simp[e])⟩
variable{f:Nat}
def Kz{k T:Nat}{d:TypeInfo}{z0:Value}(ht:P.underlying T=some (.slice e))(hi0:P.info? e=some d)(hk0:d.size=k)(hz:d.zero=some z0)(hzs:z0.cells.size=d.size)(hz1:∀x∈z0.cells.toList,x.oneCell'=true)(hby:d.bytes<=1000)(hf:Fs P f k T d.bytes)(hi:i<=rows.length)(hk:∀r∈rows,r.length=k)(hr:row.length=k)(hpk:0<k)(hsc:Vi rows)(hsr:Vi [row])(hlen:rows.length+1<=1073741824) :
  aQ P f false [.mut none [.s .own rows],.val none [I (i:Nat)],.mut none [.s .own [row]]] [.mut none [.x],.val none [I (i:Nat)],.mut none [.x]] .one [.s .own (inse rows i row)]:=by
 subst hk0;refine⟨hf.has,λw S V vs hS hV hVV R=>?_⟩
 match vs,R with
 | [v,v1,v2],⟨R,hA1,hA2,_⟩=>
  have E:=b9.rep1 (show b9 w S (V 0) none [C.s .own rows] v from R);have e1:v1=.int .i64 (i:Nat):=by
   have:=b9.rep1 (show b9 w S NO none [C.v (.int .i64 (i:Nat))] v1 from hA1);cases this;rfl
  have N:=b9.rep1 (show b9 w S (V 2) none [C.s .own [row]] v2 from hA2);subst e1;have hk2:∀r∈[row],r.length=d.size:=λr H=>by simp only[C2]at H;subst H;exact hr
  have hsc':Vi (inse rows i row):=λr H=>(yS H).elim (λh=>hsr r (by simp[h])) (hsc r)
  have O:∀(w1:World)(vv:Value)(X:am),bA (λb o=>∃i,V i b o) w w1->(∀b o,X b o->V 0 b o\/V 2 b o\/(w.heap.size<=b/\b<w1.heap.size))->dZ w1 S X (.s .own (inse rows i row)) vv->
    ∃v',Ending.returned vv=Ending.returned v'/\bA (λb o=>∃i,V i b o) w w1/\∃(X:am)(V':Nat->am)(S1:am),
   (∀b o,X b o->(∃i,V i b o)\/(b<w1.heap.size/\w.heap.size<=b))/\(∀i b o,V' i b o->(∃i,V i b o)\/(b<w1.heap.size/\w.heap.size<=b))/\
   (∀b o,S1 b o->(false=true/\S b o)\/(∃i,V i b o)\/(b<w1.heap.size/\w.heap.size<=b))/\
   (∀i i',i≠i'->∀b o,V' i b o->¬V' i' b o)/\(∀i b o,X b o->¬V' i b o)/\(∀b o,X b o->¬S1 b o)/\(∀i b o,V' i b o->¬S1 b o)/\
   fR w1 NO .one 1 v'/\cN w1 S1 X [.s .own (inse rows i row)] (cw w1 .one v')/\BJ w1 (λb o=>S b o\/S1 b o) V' [.mut none [.x],.val none [I (i:Nat)],.mut none [.x]] [v,.int .i64 (i:Nat),v2]:=by
   intro w1 vv X D hX hR;have hfr:U9 (.s .own (inse rows i row)):=by simp only[U9];exact⟨.inl (by simp),VO hsc'⟩
   exact⟨_,rfl,D,X,λ_=>NO,NO,λb o h=>by
       rcases hX b o h with h|h|h
       · exact .inl ⟨0,h⟩
       · exact .inl ⟨2,h⟩
       · exact .inr ⟨h.2,h.1⟩,λ_ _ _ h=>h.elim,λ_ _ h=>h.elim,λ_ _ _ _ _ h=>h.elim,λ_ _ _ _ h=>h.elim,λ_ _ _ h=>h.elim,λ_ _ _ h=>h.elim,rfl,row1 (hR.fresh hfr),
       ⟨⟨rfl,λ_=>v,rfl,row1 (.x _ _ E.one)⟩,trivial,⟨rfl,λ_=>v2,rfl,row1 (.x _ _ N.one)⟩,trivial⟩⟩
  rcases N.els (by simp) hk2 with⟨h,-⟩|⟨vb,vc,u2,f2,rfl,-,hvc,hcell2,hu2,J⟩
  ·cases h
  simp only[List.length_singleton,Nat.one_mul]at hvc hu2;by_cases Y:i=rows.length
  ·have hreads:pI w (some ⟨vb,0,none⟩) ([row].length*d.size) ((List.range ([row].length*d.size)).map u2):=by
    refine⟨by simp,λh=>(by cases h),λad j u had l=>?_⟩;cases had;rw[Addr.add_lit,C9];rw[z4]at l;cases L:(List.range ([row].length*d.size))[j]? with
    | none=>rw[L]at l;cases l
    | some j'=>
     obtain⟨U,a2⟩:=I3.1 L;simp only[List.length_singleton,Nat.one_mul,List.length_range,List.getElem_range]at U a2;subst a2;rw[L]at l;simp only[I7,I1]at l;subst l;exact hu2 j U
   obtain⟨v',w1,hrun,hk1,hR⟩:=sS (P:=P) (ty:=T) ht hi0 hz hzs hz1 E hk (V:=V 2) (xr:=[row]) (u2:=u2) (f2:=f2) ⟨J.hk,λq L b o h=>(J.hf q L b o h).1,J.hd,J.hc⟩ (b:=some ⟨vb,0,none⟩) (c:=vc)
    hreads
    (λb o h h'=>hVV 0 2 (by decide) b o h h') (λb o h=>(hV 0 b o h).2) (λb o h=>(hV 0 b o h).1) (λb o h=>(hV 2 b o h).1) hS (by simp;omega) (by
      have:(rows.length+[row].length)*d.bytes<=1073741824*1000:=Nat.mul_le_mul (by simpa using hlen) hby;omega)
   have hins:inse rows i row=rows++[row]:=by unfold inse;rw[Y,C7,List.drop_length]
   rw[<-hins]at hR;have hfin:∀(base:Option Addr)(c:Nat),v=.slice base rows.length c->rows.length<=c->(base=none->rows.length=0/\c=0)->Calls P f #[v,.int .i64 (i:Nat),.slice (some ⟨vb,0,none⟩) 1 vc] w λe W=>e=.returned v'/\W=w1:=λbase c hv hc hb=>by
    subst hv;rw[Y];exact hf.end_ w w1 base rows.length c vb 1 vc v' rfl hc ω hb hrun
   have hgo:Calls P f #[v,.int .i64 (i:Nat),.slice (some ⟨vb,0,none⟩) 1 vc] w λe W=>e=.returned v'/\W=w1:=by
    rcases E.els (by simp) hk with⟨h0,a0,hv⟩|⟨g,Z,u,f',hv,hpos,F,-⟩
    ·exact hfin a0 0 (by rw[hv,h0];rfl) (by rw[h0];exact v4 0) λ_=>⟨by rw[h0];rfl,rfl⟩
    exact hfin _ Z hv F λh=>by cases h
   refine hgo.mono λe W ⟨he,hw⟩=>?_
   subst he hw;exact O W v' _ (hk1.up λb o h=>⟨0,h⟩) (λb o h=>h) hR
  rcases E.els (by simp) hk with⟨h0,a0,hv⟩|⟨g,Z,u,f',rfl,hpos,F,p,hu,hE⟩
  ·rw[h0]at hi Y;simp at hi Y;omega
  have hlt:i<rows.length:=ω
  have A:∀(n j:Nat)(y:Value)(uu:Nat->Value),((List.range n).map uu)[j]? = some y->j<n/\y=uu j:=λn j y uu l=>by
   rw[z4]at l;cases hr:(List.range n)[j]? with
   | none=>rw[hr]at l;cases l
   | some j'=>
    obtain⟨h1,M⟩:=I3.1 hr;simp at h1 M;subst M;rw[hr]at l;simp only[I7,I1]at l;exact⟨h1,l.symm⟩
  have Q:∀(n j:Nat)(uu:Nat->Value),j<n->((List.range n).map uu)[j]? = some (uu j):=λn j uu l=>by
   rw[z4,z9 l];rfl
  obtain⟨olds,B⟩ : ∃olds,olds=(List.range (rows.length*d.size)).map u:=⟨_,rfl⟩
  obtain⟨vs,hvs⟩ : ∃vs,vs=(List.range d.size).map u2:=⟨_,rfl⟩
  have hol:olds.length=rows.length*d.size:=by rw[B];simp
  have hvl:vs.length=d.size:=by rw[hvs];simp
  have hck:rows.length*d.size<=Z*d.size:=S9 _ F;have hv0:=hcell2 0 (Nat.mul_pos ω hpk);have hg0:=p 0 (Nat.mul_pos ω hpk);have hne:vb≠g:=λh=>by
   subst h;exact hVV 0 2 (by decide) vb 0 hg0.1 hv0.1
  refine(hf.mid w g rows.length Z i vb 1 vc olds vs rfl hlt F ω hby hol hvl (λt y K=>by
      rw[B]at K;obtain⟨U,rfl⟩:=A _ _ _ _ K;exact hu t U) (λt y K=>by
      rw[hvs]at K;obtain⟨U,rfl⟩:=A _ _ _ _ K;exact hu2 t U) (λy K=>by
      rw[B]at K;obtain⟨j,l⟩:=List.getElem?_of_mem K;obtain⟨U,rfl⟩:=A _ _ _ _ l;exact hE.one U) (λy K=>by
      rw[hvs]at K;obtain⟨j,l⟩:=List.getElem?_of_mem K;obtain⟨U,rfl⟩:=A _ _ _ _ l;exact J.one (by simpa using U)) (λq L=>(p q L).2) hv0.2.2 hne).mono λe W ⟨G,c',he,hc',R⟩=>?_
  subst he;have D:bA (λb o=>∃i,V i b o) w W:=R.keep.up λb o ⟨h1,M⟩=>⟨0,by rw[h1];exact(p o M).1⟩
  refine O W _ (λb o=>V 0 b o\/(w.heap.size<=b/\b<W.heap.size)) D (λb o h=>h.elim .inl (λh=>.inr (.inr h))) ?_;refine .own _ .own G d.size (rows.length+1) c' _ (λq=>(cel W G q).getD undef) (λ_=>NO) trivial (Jm ..) (λr H=>(yS H).elim (λh=>by rw[h];exact hr) (hk r)) hc' ω (λq L=>⟨?_,R.all q L⟩) (λq L=>?_) (λ_ _ _ _ h=>h.elim) (λ_ _ _ _ _ _ _ h=>h.elim) (λa b r c ha hb=>?_)
  ·rcases R.at_ with⟨rfl,rfl⟩|h
   ·exact .inl (p q L).1
   exact .inr h
  ·obtain⟨z,hz',-⟩:=(R.all q (Z4 L (S9 _ hc'))).1
   rw[hz'];rfl
  have hbk:b<d.size:=by
   have:r.length=d.size:=(yS (Z2 ha)).elim (λh=>by rw[h];exact hr) (hk r);rw[<-this];exact(I3.1 hb).1
  have hal:=(I3.1 ha).1;rw[Jm]at hal;obtain⟨y,rfl,K⟩:=Qz (olds:=olds) (vs:=vs) hi hol hvl hbk (λa b r c h1 M=>by
      obtain⟨y,rfl⟩:=hsc r (Z2 h1) c (Z2 M);have h3:=hE.hc a b r _ h1 M;have h4:=tG rfl hk h1 M;generalize hyy:u (a*d.size+b)=yy at h3;cases h3;exact⟨_,rfl,by rw[B,Q _ _ _ (eg h4.1 h4.2),hyy]⟩) (λb c M=>by
      obtain⟨y,rfl⟩:=hsr row (by simp) c (Z2 M);have h3:=J.hc 0 b row _ rfl M;simp only[Nat.zero_mul,C9]at h3;have h4:=(I3.1 M).1;generalize hyy:u2 b=yy at h3;cases h3;exact⟨_,rfl,by rw[hvs,Q _ _ _ ω,hyy]⟩) ha hb
  have hz':=R.cel _ y K;simp only[hz',Option.getD_some];obtain⟨z,h5,h6⟩:=(R.all (a*d.size+b) (Z4 (eg hal hbk) (S9 _ hc'))).1;rw[hz']at h5;cases h5;exact .v _ _ h6
set_option maxRecDepth 100000
def yp:∃(b:TypeInfo)(c:Value),Tryz.prog.info? 74=some b/\b.size=4/\b.zero=some c/\c.cells.size=4/\(∀v∈c.cells.toList,v.oneCell'=true)/\b.bytes=32:=by
 have h:=(mg 74 _ rfl).1;cases e : Tryz.prog.info? 74 with
 | none=>rw[e]at h;cases h
 | some x=>
  rw[e]at h;simp only[I7,I1,Prod.mk.injEq]at h;obtain⟨a,g,i⟩:=h;cases d:x.zero with
  | none=>rw[d]at a;cases a
  | some z=>
   rw[d]at a;simp only[I7,I1]at a;refine⟨x,z,rfl,g,d,?_,λv f=>?_,i⟩
   ·rw[<-Array.length_toList,a];rfl
   rw[a]at f;have j:(List.map cval [I 0,I 0,I 0,I 0]).all (λv=>v.oneCell')=true:=rfl;exact v5.1 j v f
def Lc:∀w,(Go.sizeOf 74).run Tryz.prog w=.ok 4 w:=λ_=>by kernel_rfl
def KF(w w1:World)(base:Option Addr)(n c d m g:Nat)(r:Value)(i:m=1)(j:n<=c)(h:n<=1073741824)(k:base=none->n=0/\c=0)(b:(Builtin.append_ #[39,39] 39 #[.slice base n c,.slice (some ⟨d,0,none⟩) m g]).run Tryz.prog w=.ok r w1) :
  Calls Tryz.prog 67 #[.slice base n c,.int .i64 n,.slice (some ⟨d,0,none⟩) m g] w λe l=>e=.returned r/\l=w1:=by
 have mixed : Tryz.prog.follows .mixedOrders=true:=by kernel_rfl
 have o:0<m:=ω
 have p:m<=1:=ω
 clear i;have q:¬((m:Int)=0):=ω
 go_enter Tryz.func67,Tryz.ntmps67
 cases base with
 | none=>
  obtain⟨rfl,rfl⟩:=k rfl
  go_wp2_with (at_builtin;refine Lib.wpList_append_run _ rfl _ _ _ _ rfl _ _ rfl rfl _ _ b ?_)
  go_ret
  exact⟨rfl,rfl⟩
 | some a=>
  obtain⟨u,y,asp⟩:=a
  go_wp2_with (at_builtin;refine Lib.wpList_append_run _ rfl _ _ _ _ rfl _ _ rfl rfl _ _ b ?_)
  all_goals(go_ret;exact⟨rfl,rfl⟩)
def Gl(w:World)(g n c i p m C:Nat)(olds vs:List Value)(Z:m=1)(hi:i<n)(X:n<=1073741824)(M:n+m<=c)(N:olds.length=n*4)(D:vs.length=4)(ho:∀t u,olds[t]? = some u->cel w g t=some u)(L:∀t u,vs[t]? = some u->cel w p t=some u)(h1:∀u∈olds,u.oneCell'=true)(h2:∀u∈vs,u.oneCell'=true)(b:∀q,q<c*4->(∃z,cel w g q=some z/\z.oneCell'=true)/\fro w g q=NF)(O:fro w p 0=NF)(E:p≠g) :
  Calls Tryz.prog 67 #[.slice (some ⟨g,0,none⟩) n c,.int .i64 i,.slice (some ⟨p,0,none⟩) m C] w λe w'=>e=.returned (.slice (some ⟨g,0,none⟩) (n+m) c)/\w'=(w.drew.setCells g ((i+m)*4) (olds.drop (i*4))).setCells g (i*4) vs:=by
 have mixed : Tryz.prog.follows .mixedOrders=true:=by kernel_rfl
 have hm1:0<m:=ω
 have hm2:m<=1:=ω
 clear Z;have hz1:¬((m:Int)=0):=ω
 have hz2:¬((i:Int)=(n:Int)):=ω
 have hz3:¬((c:Int)<(n:Int)+(m:Int)):=ω
 have F:(Tryz.prog.info? 74).map (·.size)=some 4:=by obtain⟨i0,z0,e1,e2,-⟩:=yp;rw[e1];simp[e2]
 have cell:∀q,q<(n+m)*4->(w.cell? ⟨g,q,none⟩).isSome=true/\w.frozen? ⟨g,q,none⟩ = false:=λq Y=>by
  obtain⟨⟨z,hz,-⟩,hf⟩:=b q ω;exact⟨by show(cel w g q).isSome=true;rw[hz];rfl,C1 Prod.fst hf⟩
 have P:∀Q R,(callFunc 193 #[.slice (some ⟨p,0,none⟩) m C,.slice (some ⟨g,(i+m)*4,none⟩) Q R]).run Tryz.prog w=.ok (.value (.bool false)) w:=λQ R=>by
  obtain⟨y,hy⟩ : ∃y,vs[0]? = some y:=⟨_,C3 ω⟩
  obtain⟨⟨y',S,-⟩,T⟩:=b 0 ω;rw[run_callFunc_extern Tryz.func193 (by kernel_rfl) (by kernel_rfl) (by kernel_rfl) (e:=Extern.SlicesOverlaps.overlaps #[39,39] #[4]) (by kernel_rfl),
    qm (e:=74) (k:=4) Tryz.underlying39 Lc E (L 0 y hy) O S T _ m C Q R]
  rfl
 have l:(olds.drop (i*4)).length=(n - i)*4:=by rw[I4,N];omega
 have hw1:IntKind.i64.wrap ((i:Int)+(m:Int))=(i:Int)+(m:Int):=by rw[IntKind.wrap_i64];omega
 have hw2:IntKind.i64.wrap ((n:Int)+(m:Int))=(n:Int)+(m:Int):=by rw[IntKind.wrap_i64];omega
 have hb1:(0:Int)<=(i:Int)+(m:Int):=ω
 have hin:i<=n:=ω
 have htn:((i:Int)+(m:Int)).toNat=i+m:=ω
 have hb2:¬(c=i+m):=ω
 have hb3:(i:Int)<=(n:Int)+(m:Int):=ω
 have hb4:¬(c=i):=ω
 have o:∀r B U,(Builtin.copy_ #[39,39] r #[.slice (some ⟨g,(i+m)*4,none⟩) (n+m - (i+m)) B,.slice (some ⟨g,i*4,none⟩) (n+m - i) U]).run Tryz.prog w.drew=.ok (goInt ((n - i:Nat):Int)) (w.drew.setCells g ((i+m)*4) (olds.drop (i*4))):=λr B U=>
  eU w.drew _ _ r 74 4 g ((i+m)*4) (n+m - (i+m)) B ⟨g,i*4,none⟩ (n+m - i) U (n - i) (olds.drop (i*4)) Tryz.underlying39 F (by simp only[Nat.min_def];split<;>omega) l
   (λj v a=>by rw[Addr.add_lit];exact ho (i*4+j) v (by rwa [List.getElem?_drop]at a))
   (λj a=>by rw[l]at a;exact(cell _ ω).1) (λj a=>by rw[l]at a;exact(cell _ ω).2) (λv L=>h1 v (List.mem_of_mem_drop L))
 obtain⟨G,d⟩ : ∃G,G=w.drew.setCells g ((i+m)*4) (olds.drop (i*4)):=⟨_,rfl⟩
 have H:∀q,q<(n+m)*4->(G.cell? ⟨g,q,none⟩).isSome=true:=λq Y=>by
  rw[d];exact lV g _ _ _ (λj a=>by rw[l]at a;exact(cell _ ω).1) _ (cell q Y).1
 have J:∀(W:World),(∀x,W.cell? x=G.cell? x)->(∀x,W.frozen? x=G.frozen? x)->∀r B,(Builtin.copy_ #[39,39] r #[.slice (some ⟨g,i*4,none⟩) (n+m - i) B,.slice (some ⟨p,0,none⟩) m C]).run Tryz.prog W=.ok (goInt ((1:Nat):Int)) (W.setCells g (i*4) vs):=λW K V r B=>
  eU W _ _ r 74 4 g (i*4) (n+m - i) B ⟨p,0,none⟩ m C 1 vs Tryz.underlying39 F (by simp only[Nat.min_def];split<;>omega) ω
   (λj v a=>by
     rw[Addr.add_lit,C9,K,d,World.cell?_setCells_out g _ _ _ _ (λh _=>absurd h E)];exact L j v a)
   (λj a=>by rw[K];rw[D]at a;exact H _ ω) (λj a=>by rw[V,d,World.frozen?_setCells];rw[D]at a;exact(cell _ ω).2) h2
 rw[<-d]at o;clear cell b
 go_enter Tryz.func67,Tryz.ntmps67
 go_wp2_with (simp only[P])
 go_region_law_o (refine jy rfl _ _ 39 39 rfl _ _ (by simp[Act.eval,Act.put]) (by simp[Act.eval,Act.put]) (o _ _ _) ?_)
 go_wp2_with (at_builtin;refine eI _ rfl _ _ 39 39 rfl _ _ rfl rfl (J _ (λ_=>rfl) (λ_=>rfl) _ _) ?_)
 go_ret
 first|exact⟨rfl,rfl⟩|exact⟨rfl,by rw[d]⟩
variable{q:Value}{H:TypeInfo}
def HK(J : Tryz.prog.info? 74=some H)(K:H.size=4)(V:H.zero=some q)(X:q.cells.size=4)(L:H.bytes=32)(w:World)(g n c i r m Y:Nat)(olds vs:List Value)(hm:m=1)(hi:i<n)(hn63:n<=1073741824)(hnc:n<=c)(C:c<n+m)(M:olds.length=n*4)(N:vs.length=4)(Z:∀t u,olds[t]? = some u->cel w g t=some u)(T:∀t u,vs[t]? = some u->cel w r t=some u)(h1:∀u∈olds,u.oneCell'=true)(h2:∀u∈vs,u.oneCell'=true) :
  Calls Tryz.prog 67 #[.slice (some ⟨g,0,none⟩) n c,.int .i64 i,.slice (some ⟨r,0,none⟩) m Y] w λe w'=>e=.returned (.slice (some ⟨w.heap.size,0,none⟩) (n+m) (grownCap w (n+m) c 74))/\
   w'=(((w.alloc (.cells ((olds.take (i*4)).toArray++Builtin.zeroCells q.cells (n+m - i)++Builtin.zeroCells q.cells (grownCap w (n+m) c 74 - (n+m))) 74)).drew.setCells w.heap.size (i*4) vs).drew).setCells w.heap.size ((i+m)*4) (olds.drop (i*4)):=by
 have mixed : Tryz.prog.follows .mixedOrders=true:=by kernel_rfl
 have hm1:0<m:=ω
 have hm2:m<=1:=ω
 clear hm;have hz1:¬((m:Int)=0):=ω
 have hz2:¬((i:Int)=(n:Int)):=ω
 have hz3:(c:Int)<(n:Int)+(m:Int):=ω
 have O:(Tryz.prog.info? 74).map (·.size)=some 4:=by rw[J];simp[K]
 have hbw:g<w.heap.size:=block_lt_of_cell (Z 0 _ (C3 ω));have hvw:r<w.heap.size:=block_lt_of_cell (T 0 _ (C3 ω));have P:(n:Int)+(m:Int) - (i:Int)=((n+m - i:Nat):Int):=ω
 have D:i+(n+m - i)=n+m:=ω
 have y:(Builtin.firstCells H.size i (.slice (some ⟨g,0,none⟩) i c)).run Tryz.prog w.drew=.ok (olds.take (i*4)).toArray w.drew:=by
  rw[K];exact run_firstCells_some w.drew 4 i ⟨g,0,none⟩ i c (olds.take (i*4)) (by rw[O2];omega) (λj v a=>by
    rw[Addr.add_lit,C9];rw[List.getElem?_take]at a;split at a
    · exact Z j v a
    cases a)
 have p:∀d,(Builtin.append_ #[39,3] d #[.slice (some ⟨g,0,none⟩) i c,.int .i64 ((n:Int)+(m:Int) - (i:Int))]).run Tryz.prog w =
   .ok (.slice (some ⟨w.heap.size,0,none⟩) (n+m) (grownCap w (n+m) c 74)) (w.drew.alloc (.cells ((olds.take (i*4)).toArray++Builtin.zeroCells q.cells (n+m - i)++Builtin.zeroCells q.cells (grownCap w (n+m) c 74 - (n+m))) 74)):=λd=>by
  have h:=Lib.run_append_grow_zeros w 39 3 d 74 H _ .i64 .i64 Tryz.underlying39 Tryz.underlying3 J V (some ⟨g,0,none⟩) i c (olds.take (i*4)) y (n+m - i) ω ω ω ω (by rw[L];omega) (by rw[L,D];exact growslice_fits C ω);rw[D]at h;rw[P];exact h
 obtain⟨G,U⟩ : ∃G,G=grownCap w (n+m) c 74:=⟨_,rfl⟩
 obtain⟨ROW,k⟩ : ∃ROW:Array Value,ROW=(olds.take (i*4)).toArray++Builtin.zeroCells q.cells (n+m - i)++Builtin.zeroCells q.cells (G - (n+m)):=⟨_,rfl⟩
 rw[<-U]at p |-;rw[<-k]at p |-;have hRl:(n+m)*4<=ROW.size:=by
  rw[k];simp only[Array.size_append,List.size_toArray,O2,size_zeroCells,X,M];omega
 obtain⟨o,b⟩ : ∃o,o=w.drew.alloc (.cells ROW 74):=⟨_,rfl⟩
 rw[<-b]at p;have hN:∀j,j<(n+m)*4->(o.cell? ⟨w.heap.size,j,none⟩).isSome=true:=λj a=>by
  rw[b,World.cell?_alloc_at (w:=w.drew) ROW _ w.heap.size j rfl,Y8 ω];rfl
 have Q:∀j,o.frozen? ⟨w.heap.size,j,none⟩ = false:=λj=>by rw[b];exact World.frozen?_alloc_at (w:=w.drew) ROW _ w.heap.size j rfl
 have hOb:∀j v,w.cell? ⟨g,j,none⟩ = some v->o.cell? ⟨g,j,none⟩ = some v:=λj v h=>by rw[b,World.cell?_alloc_past (w:=w.drew) _ g j hbw];exact h
 have hOv:∀j v,w.cell? ⟨r,j,none⟩ = some v->o.cell? ⟨r,j,none⟩ = some v:=λj v h=>by rw[b,World.cell?_alloc_past (w:=w.drew) _ r j hvw];exact h
 have R:∀(W:World),(∀x,W.cell? x=o.cell? x)->(∀x,W.frozen? x=o.frozen? x)->∀d E,(Builtin.copy_ #[39,39] d #[.slice (some ⟨w.heap.size,i*4,none⟩) (n+m - i) E,.slice (some ⟨r,0,none⟩) m Y]).run Tryz.prog W=.ok (goInt ((1:Nat):Int)) (W.setCells w.heap.size (i*4) vs):=λW l F d E=>
  eU W _ _ d 74 4 w.heap.size (i*4) (n+m - i) E ⟨r,0,none⟩ m Y 1 vs Tryz.underlying39 O (by simp only[Nat.min_def];split<;>omega) ω
   (λj v a=>by rw[Addr.add_lit,C9,l];exact hOv _ v (T j v a))
   (λj a=>by rw[l];rw[N]at a;exact hN _ ω) (λj a=>by rw[F];exact Q _) h2
 have hGn:n+m<=G:=by rw[U];exact grownCap_ge w _ _ _
 have hG63:G<=9223372036854775807:=by
  have:=grownCap_le_maxLen w (n+m) c 74 (by unfold maxLen;omega);rw[<-U]at this;unfold maxLen at this;omega
 have hGi:¬(G=i):=ω
 have hGim:¬(G=i+m):=ω
 have hci:¬(c=i):=ω
 have hbN:g≠w.heap.size:=ω
 have S:(olds.drop (i*4)).length=(n - i)*4:=by rw[I4,M];omega
 have B:∀(W:World),(∀x,W.cell? x=(o.setCells w.heap.size (i*4) vs).cell? x)->(∀x,W.frozen? x=(o.setCells w.heap.size (i*4) vs).frozen? x)->∀d E sc,(Builtin.copy_ #[39,39] d #[.slice (some ⟨w.heap.size,(i+m)*4,none⟩) (n+m - (i+m)) E,.slice (some ⟨g,i*4,none⟩) (n - i) sc]).run Tryz.prog W=.ok (goInt ((n - i:Nat):Int)) (W.setCells w.heap.size ((i+m)*4) (olds.drop (i*4))):=λW l F d E sc=>
  eU W _ _ d 74 4 w.heap.size ((i+m)*4) (n+m - (i+m)) E ⟨g,i*4,none⟩ (n - i) sc (n - i) (olds.drop (i*4)) Tryz.underlying39 O (by simp only[Nat.min_def];split<;>omega) S
   (λj v a=>by
     rw[Addr.add_lit,l,World.cell?_setCells_out _ _ _ _ _ (λh _=>absurd h hbN)];exact hOb _ v (Z (i*4+j) v (by rwa [List.getElem?_drop]at a)))
   (λj a=>by rw[l];rw[S]at a;exact lV _ _ _ _ (λt ht=>by rw[N]at ht;exact hN _ ω) _ (hN _ ω))
   (λj a=>by rw[F,World.frozen?_setCells];exact Q _) (λv T=>h1 v (List.mem_of_mem_drop T))
 subst b;have hE1:∀x,((w.alloc (.cells ROW 74)).drew).cell? x=(w.drew.alloc (.cells ROW 74)).cell? x:=λx=>rfl
 have hE2:∀x,((w.alloc (.cells ROW 74)).drew).frozen? x=(w.drew.alloc (.cells ROW 74)).frozen? x:=λx=>rfl
 have hF1:∀x,(((w.alloc (.cells ROW 74)).drew.setCells w.heap.size (i*4) vs).drew).cell? x=((w.drew.alloc (.cells ROW 74)).setCells w.heap.size (i*4) vs).cell? x:=λx=>rfl
 have hF2:∀x,(((w.alloc (.cells ROW 74)).drew.setCells w.heap.size (i*4) vs).drew).frozen? x=((w.drew.alloc (.cells ROW 74)).setCells w.heap.size (i*4) vs).frozen? x:=λx=>rfl
 have hw1:IntKind.i64.wrap ((i:Int)+(m:Int))=(i:Int)+(m:Int):=by rw[IntKind.wrap_i64];omega
 have hw2:IntKind.i64.wrap ((n:Int)+(m:Int))=(n:Int)+(m:Int):=by rw[IntKind.wrap_i64];omega
 have hw3:IntKind.i64.wrap ((n:Int)+(m:Int) - (i:Int))=(n:Int)+(m:Int) - (i:Int):=by rw[IntKind.wrap_i64];omega
 have hb1:(0:Int)<=(i:Int)+(m:Int):=ω
 have hin:i<=n:=ω
 have htn:((i:Int)+(m:Int)).toNat=i+m:=ω
 have hb3:(i:Int)<=(n:Int):=ω
 clear P D y k U hRl
 go_enter Tryz.func67,Tryz.ntmps67
 go_wp2_with (first
   | (at_builtin;refine Lib.wpList_append_run _ rfl _ _ _ _ rfl _ _ rfl rfl _ _ (p _) ?_)
   | (at_builtin;refine eI _ rfl _ _ 39 39 rfl _ _ rfl rfl (R _ hE1 hE2 _ _) ?_)
   | (at_builtin;refine eI _ rfl _ _ 39 39 rfl _ _ rfl rfl (B _ (λ_=>rfl) (λ_=>rfl) _ _ _) ?_))
 go_region_law_o (refine jy rfl _ _ 39 39 rfl (.slice (some ⟨w.heap.size,(i+m)*4,none⟩) (n+m - (i+m)) (G - (i+m))) (.slice (some ⟨g,i*4,none⟩) (n - i) (c - i)) (by simp[Act.eval,Act.put]) (by simp[Act.eval,Act.put]) (B _ hF1 hF2 3 (G - (i+m)) (c - i)) ?_)
 go_wp2
 go_ret
 exact⟨rfl,rfl⟩
def Kt:Fs Tryz.prog 67 4 39 32:=by
 refine⟨⟨_,Tryz.func67,by kernel_rfl,by kernel_rfl⟩,KF,λw g n c i K m L olds M l o r h P b d u N p q j y B=>?_⟩;obtain⟨Q,R,C,D,E,k,F,G⟩:=yp;by_cases a:n+m<=c
 ·refine(Gl w g n c i K m L olds M l o h a b d u N p q j y B).mono λe O ⟨H,J⟩=>?_
  subst l;rw[J];exact⟨g,c,H,a,qP o a b d u p q j⟩
 refine(HK C D E k G w g n c i K m L olds M l o h r ω b d u N p q).mono λe O ⟨H,J⟩=>?_
 subst l;rw[J,xW];exact⟨_,_,H,grownCap_ge w _ _ _,tI (e:=74) rfl rfl rfl rfl o (grownCap_ge w _ _ _) k F b d p q⟩
def xo(xs:List bu):Vi (xs.map (bu.enc .own)):=λr b c a=>by
 obtain⟨s,-,rfl⟩:=O5.1 b;simp[bu.enc]at a;rcases a with rfl|rfl|rfl|rfl<;>exact⟨_,rfl⟩
def Ba(xs:List bu)(i:Nat)(x:bu)(j:i<=xs.length)(k:xs.length+1<=1073741824):zzB 67 false [.mut none [.s .own (xs.map (bu.enc .own))],.val none [I (i:Nat)],.mut none [.s .own [bu.enc .own x]]] [.mut none [.x],.val none [I (i:Nat)],.mut none [.x]] .one [.s .own ((inse xs i x).map (bu.enc .own))]:=by
 obtain⟨l,n,c,a,d,e,g,b⟩:=yp;have h:=Kz (row:=bu.enc .own x) Tryz.underlying39 c a d (by rw[a,e]) g (by rw[b];decide) (by rw[b];exact Kt) (rows:=xs.map (bu.enc .own)) (i:=i) (by rw[O1];exact j) (aO λ_=>rfl) rfl (by decide) (xo xs) (xo [x]) (by rw[O1];exact k)
 rwa [y1]at h
def tc:∃(b:TypeInfo)(c:Value),Tryz.prog.info? 175=some b/\b.size=3/\b.zero=some c/\c.cells.size=3/\(∀v∈c.cells.toList,v.oneCell'=true)/\b.bytes=24:=by
 have h:=(mg 175 _ rfl).1;cases e : Tryz.prog.info? 175 with
 | none=>rw[e]at h;cases h
 | some x=>
  rw[e]at h;simp only[I7,I1,Prod.mk.injEq]at h;obtain⟨a,g,i⟩:=h;cases d:x.zero with
  | none=>rw[d]at a;cases a
  | some z=>
   rw[d]at a;simp only[I7,I1]at a;refine⟨x,z,rfl,g,d,?_,λv f=>?_,i⟩
   ·rw[<-Array.length_toList,a];rfl
   rw[a]at f;have j:(List.map cval [I 0,I 0,I 0]).all (λv=>v.oneCell')=true:=rfl;exact v5.1 j v f
def Fn:∀w,(Go.sizeOf 175).run Tryz.prog w=.ok 3 w:=λ_=>by kernel_rfl
def EZ(w w1:World)(base:Option Addr)(n c d m g:Nat)(r:Value)(i:m=1)(j:n<=c)(h:n<=1073741824)(k:base=none->n=0/\c=0)(b:(Builtin.append_ #[38,38] 38 #[.slice base n c,.slice (some ⟨d,0,none⟩) m g]).run Tryz.prog w=.ok r w1) :
  Calls Tryz.prog 192 #[.slice base n c,.int .i64 n,.slice (some ⟨d,0,none⟩) m g] w λe l=>e=.returned r/\l=w1:=by
 have mixed : Tryz.prog.follows .mixedOrders=true:=by kernel_rfl
 have o:0<m:=ω
 have p:m<=1:=ω
 clear i;have q:¬((m:Int)=0):=ω
 go_enter Tryz.func192,Tryz.ntmps192
 cases base with
 | none=>
  obtain⟨rfl,rfl⟩:=k rfl
  go_wp2_with (at_builtin;refine Lib.wpList_append_run _ rfl _ _ _ _ rfl _ _ rfl rfl _ _ b ?_)
  go_ret
  exact⟨rfl,rfl⟩
 | some a=>
  obtain⟨u,y,asp⟩:=a
  go_wp2_with (at_builtin;refine Lib.wpList_append_run _ rfl _ _ _ _ rfl _ _ rfl rfl _ _ b ?_)
  all_goals(go_ret;exact⟨rfl,rfl⟩)
def AN(w:World)(g n c i p m C:Nat)(olds vs:List Value)(Z:m=1)(hi:i<n)(X:n<=1073741824)(M:n+m<=c)(N:olds.length=n*3)(D:vs.length=3)(ho:∀t u,olds[t]? = some u->cel w g t=some u)(L:∀t u,vs[t]? = some u->cel w p t=some u)(h1:∀u∈olds,u.oneCell'=true)(h2:∀u∈vs,u.oneCell'=true)(b:∀q,q<c*3->(∃z,cel w g q=some z/\z.oneCell'=true)/\fro w g q=NF)(O:fro w p 0=NF)(E:p≠g) :
  Calls Tryz.prog 192 #[.slice (some ⟨g,0,none⟩) n c,.int .i64 i,.slice (some ⟨p,0,none⟩) m C] w λe w'=>e=.returned (.slice (some ⟨g,0,none⟩) (n+m) c)/\w'=(w.drew.setCells g ((i+m)*3) (olds.drop (i*3))).setCells g (i*3) vs:=by
 have mixed : Tryz.prog.follows .mixedOrders=true:=by kernel_rfl
 have hm1:0<m:=ω
 have hm2:m<=1:=ω
 clear Z;have hz1:¬((m:Int)=0):=ω
 have hz2:¬((i:Int)=(n:Int)):=ω
 have hz3:¬((c:Int)<(n:Int)+(m:Int)):=ω
 have F:(Tryz.prog.info? 175).map (·.size)=some 3:=by obtain⟨i0,z0,e1,e2,-⟩:=tc;rw[e1];simp[e2]
 have cell:∀q,q<(n+m)*3->(w.cell? ⟨g,q,none⟩).isSome=true/\w.frozen? ⟨g,q,none⟩ = false:=λq Y=>by
  obtain⟨⟨z,hz,-⟩,hf⟩:=b q ω;exact⟨by show(cel w g q).isSome=true;rw[hz];rfl,C1 Prod.fst hf⟩
 have P:∀Q R,(callFunc 343 #[.slice (some ⟨p,0,none⟩) m C,.slice (some ⟨g,(i+m)*3,none⟩) Q R]).run Tryz.prog w=.ok (.value (.bool false)) w:=λQ R=>by
  obtain⟨y,hy⟩ : ∃y,vs[0]? = some y:=⟨_,C3 ω⟩
  obtain⟨⟨y',S,-⟩,T⟩:=b 0 ω;rw[run_callFunc_extern Tryz.func343 (by kernel_rfl) (by kernel_rfl) (by kernel_rfl) (e:=Extern.SlicesOverlaps.overlaps #[38,38] #[4]) (by kernel_rfl),
    qm (e:=175) (k:=3) Tryz.underlying38 Fn E (L 0 y hy) O S T _ m C Q R]
  rfl
 have l:(olds.drop (i*3)).length=(n - i)*3:=by rw[I4,N];omega
 have hw1:IntKind.i64.wrap ((i:Int)+(m:Int))=(i:Int)+(m:Int):=by rw[IntKind.wrap_i64];omega
 have hw2:IntKind.i64.wrap ((n:Int)+(m:Int))=(n:Int)+(m:Int):=by rw[IntKind.wrap_i64];omega
 have hb1:(0:Int)<=(i:Int)+(m:Int):=ω
 have hin:i<=n:=ω
 have htn:((i:Int)+(m:Int)).toNat=i+m:=ω
 have hb2:¬(c=i+m):=ω
 have hb3:(i:Int)<=(n:Int)+(m:Int):=ω
 have hb4:¬(c=i):=ω
 have o:∀r B U,(Builtin.copy_ #[38,38] r #[.slice (some ⟨g,(i+m)*3,none⟩) (n+m - (i+m)) B,.slice (some ⟨g,i*3,none⟩) (n+m - i) U]).run Tryz.prog w.drew=.ok (goInt ((n - i:Nat):Int)) (w.drew.setCells g ((i+m)*3) (olds.drop (i*3))):=λr B U=>
  eU w.drew _ _ r 175 3 g ((i+m)*3) (n+m - (i+m)) B ⟨g,i*3,none⟩ (n+m - i) U (n - i) (olds.drop (i*3)) Tryz.underlying38 F (by simp only[Nat.min_def];split<;>omega) l
   (λj v a=>by rw[Addr.add_lit];exact ho (i*3+j) v (by rwa [List.getElem?_drop]at a))
   (λj a=>by rw[l]at a;exact(cell _ ω).1) (λj a=>by rw[l]at a;exact(cell _ ω).2) (λv L=>h1 v (List.mem_of_mem_drop L))
 obtain⟨G,d⟩ : ∃G,G=w.drew.setCells g ((i+m)*3) (olds.drop (i*3)):=⟨_,rfl⟩
 have H:∀q,q<(n+m)*3->(G.cell? ⟨g,q,none⟩).isSome=true:=λq Y=>by
  rw[d];exact lV g _ _ _ (λj a=>by rw[l]at a;exact(cell _ ω).1) _ (cell q Y).1
 have J:∀(W:World),(∀x,W.cell? x=G.cell? x)->(∀x,W.frozen? x=G.frozen? x)->∀r B,(Builtin.copy_ #[38,38] r #[.slice (some ⟨g,i*3,none⟩) (n+m - i) B,.slice (some ⟨p,0,none⟩) m C]).run Tryz.prog W=.ok (goInt ((1:Nat):Int)) (W.setCells g (i*3) vs):=λW K V r B=>
  eU W _ _ r 175 3 g (i*3) (n+m - i) B ⟨p,0,none⟩ m C 1 vs Tryz.underlying38 F (by simp only[Nat.min_def];split<;>omega) ω
   (λj v a=>by
     rw[Addr.add_lit,C9,K,d,World.cell?_setCells_out g _ _ _ _ (λh _=>absurd h E)];exact L j v a)
   (λj a=>by rw[K];rw[D]at a;exact H _ ω) (λj a=>by rw[V,d,World.frozen?_setCells];rw[D]at a;exact(cell _ ω).2) h2
 rw[<-d]at o;clear cell b
 go_enter Tryz.func192,Tryz.ntmps192
 go_wp2_with (simp only[P])
 go_region_law_o (refine jy rfl _ _ 38 38 rfl _ _ (by simp[Act.eval,Act.put]) (by simp[Act.eval,Act.put]) (o _ _ _) ?_)
 go_wp2_with (at_builtin;refine eI _ rfl _ _ 38 38 rfl _ _ rfl rfl (J _ (λ_=>rfl) (λ_=>rfl) _ _) ?_)
 go_ret
 first|exact⟨rfl,rfl⟩|exact⟨rfl,by rw[d]⟩
def BT(J : Tryz.prog.info? 175=some H)(K:H.size=3)(V:H.zero=some q)(X:q.cells.size=3)(L:H.bytes=24)(w:World)(g n c i r m Y:Nat)(olds vs:List Value)(hm:m=1)(hi:i<n)(hn63:n<=1073741824)(hnc:n<=c)(C:c<n+m)(M:olds.length=n*3)(N:vs.length=3)(Z:∀t u,olds[t]? = some u->cel w g t=some u)(T:∀t u,vs[t]? = some u->cel w r t=some u)(h1:∀u∈olds,u.oneCell'=true)(h2:∀u∈vs,u.oneCell'=true) :
  Calls Tryz.prog 192 #[.slice (some ⟨g,0,none⟩) n c,.int .i64 i,.slice (some ⟨r,0,none⟩) m Y] w λe w'=>e=.returned (.slice (some ⟨w.heap.size,0,none⟩) (n+m) (grownCap w (n+m) c 175))/\
   w'=(((w.alloc (.cells ((olds.take (i*3)).toArray++Builtin.zeroCells q.cells (n+m - i)++Builtin.zeroCells q.cells (grownCap w (n+m) c 175 - (n+m))) 175)).drew.setCells w.heap.size (i*3) vs).drew).setCells w.heap.size ((i+m)*3) (olds.drop (i*3)):=by
 have mixed : Tryz.prog.follows .mixedOrders=true:=by kernel_rfl
 have hm1:0<m:=ω
 have hm2:m<=1:=ω
 clear hm;have hz1:¬((m:Int)=0):=ω
 have hz2:¬((i:Int)=(n:Int)):=ω
 have hz3:(c:Int)<(n:Int)+(m:Int):=ω
 have O:(Tryz.prog.info? 175).map (·.size)=some 3:=by rw[J];simp[K]
 have hbw:g<w.heap.size:=block_lt_of_cell (Z 0 _ (C3 ω));have hvw:r<w.heap.size:=block_lt_of_cell (T 0 _ (C3 ω));have P:(n:Int)+(m:Int) - (i:Int)=((n+m - i:Nat):Int):=ω
 have D:i+(n+m - i)=n+m:=ω
 have y:(Builtin.firstCells H.size i (.slice (some ⟨g,0,none⟩) i c)).run Tryz.prog w.drew=.ok (olds.take (i*3)).toArray w.drew:=by
  rw[K];exact run_firstCells_some w.drew 3 i ⟨g,0,none⟩ i c (olds.take (i*3)) (by rw[O2];omega) (λj v a=>by
    rw[Addr.add_lit,C9];rw[List.getElem?_take]at a;split at a
    · exact Z j v a
    cases a)
 have p:∀d,(Builtin.append_ #[38,3] d #[.slice (some ⟨g,0,none⟩) i c,.int .i64 ((n:Int)+(m:Int) - (i:Int))]).run Tryz.prog w =
   .ok (.slice (some ⟨w.heap.size,0,none⟩) (n+m) (grownCap w (n+m) c 175)) (w.drew.alloc (.cells ((olds.take (i*3)).toArray++Builtin.zeroCells q.cells (n+m - i)++Builtin.zeroCells q.cells (grownCap w (n+m) c 175 - (n+m))) 175)):=λd=>by
  have h:=Lib.run_append_grow_zeros w 38 3 d 175 H _ .i64 .i64 Tryz.underlying38 Tryz.underlying3 J V (some ⟨g,0,none⟩) i c (olds.take (i*3)) y (n+m - i) ω ω ω ω (by rw[L];omega) (by rw[L,D];exact growslice_fits C ω);rw[D]at h;rw[P];exact h
 obtain⟨G,U⟩ : ∃G,G=grownCap w (n+m) c 175:=⟨_,rfl⟩
 obtain⟨ROW,k⟩ : ∃ROW:Array Value,ROW=(olds.take (i*3)).toArray++Builtin.zeroCells q.cells (n+m - i)++Builtin.zeroCells q.cells (G - (n+m)):=⟨_,rfl⟩
 rw[<-U]at p |-;rw[<-k]at p |-;have hRl:(n+m)*3<=ROW.size:=by
  rw[k];simp only[Array.size_append,List.size_toArray,O2,size_zeroCells,X,M];omega
 obtain⟨o,b⟩ : ∃o,o=w.drew.alloc (.cells ROW 175):=⟨_,rfl⟩
 rw[<-b]at p;have hN:∀j,j<(n+m)*3->(o.cell? ⟨w.heap.size,j,none⟩).isSome=true:=λj a=>by
  rw[b,World.cell?_alloc_at (w:=w.drew) ROW _ w.heap.size j rfl,Y8 ω];rfl
 have Q:∀j,o.frozen? ⟨w.heap.size,j,none⟩ = false:=λj=>by rw[b];exact World.frozen?_alloc_at (w:=w.drew) ROW _ w.heap.size j rfl
 have hOb:∀j v,w.cell? ⟨g,j,none⟩ = some v->o.cell? ⟨g,j,none⟩ = some v:=λj v h=>by rw[b,World.cell?_alloc_past (w:=w.drew) _ g j hbw];exact h
 have hOv:∀j v,w.cell? ⟨r,j,none⟩ = some v->o.cell? ⟨r,j,none⟩ = some v:=λj v h=>by rw[b,World.cell?_alloc_past (w:=w.drew) _ r j hvw];exact h
 have R:∀(W:World),(∀x,W.cell? x=o.cell? x)->(∀x,W.frozen? x=o.frozen? x)->∀d E,(Builtin.copy_ #[38,38] d #[.slice (some ⟨w.heap.size,i*3,none⟩) (n+m - i) E,.slice (some ⟨r,0,none⟩) m Y]).run Tryz.prog W=.ok (goInt ((1:Nat):Int)) (W.setCells w.heap.size (i*3) vs):=λW l F d E=>
  eU W _ _ d 175 3 w.heap.size (i*3) (n+m - i) E ⟨r,0,none⟩ m Y 1 vs Tryz.underlying38 O (by simp only[Nat.min_def];split<;>omega) ω
   (λj v a=>by rw[Addr.add_lit,C9,l];exact hOv _ v (T j v a))
   (λj a=>by rw[l];rw[N]at a;exact hN _ ω) (λj a=>by rw[F];exact Q _) h2
 have hGn:n+m<=G:=by rw[U];exact grownCap_ge w _ _ _
 have hG63:G<=9223372036854775807:=by
  have:=grownCap_le_maxLen w (n+m) c 175 (by unfold maxLen;omega);rw[<-U]at this;unfold maxLen at this;omega
 have hGi:¬(G=i):=ω
 have hGim:¬(G=i+m):=ω
 have hci:¬(c=i):=ω
 have hbN:g≠w.heap.size:=ω
 have S:(olds.drop (i*3)).length=(n - i)*3:=by rw[I4,M];omega
 have B:∀(W:World),(∀x,W.cell? x=(o.setCells w.heap.size (i*3) vs).cell? x)->(∀x,W.frozen? x=(o.setCells w.heap.size (i*3) vs).frozen? x)->∀d E sc,(Builtin.copy_ #[38,38] d #[.slice (some ⟨w.heap.size,(i+m)*3,none⟩) (n+m - (i+m)) E,.slice (some ⟨g,i*3,none⟩) (n - i) sc]).run Tryz.prog W=.ok (goInt ((n - i:Nat):Int)) (W.setCells w.heap.size ((i+m)*3) (olds.drop (i*3))):=λW l F d E sc=>
  eU W _ _ d 175 3 w.heap.size ((i+m)*3) (n+m - (i+m)) E ⟨g,i*3,none⟩ (n - i) sc (n - i) (olds.drop (i*3)) Tryz.underlying38 O (by simp only[Nat.min_def];split<;>omega) S
   (λj v a=>by
     rw[Addr.add_lit,l,World.cell?_setCells_out _ _ _ _ _ (λh _=>absurd h hbN)];exact hOb _ v (Z (i*3+j) v (by rwa [List.getElem?_drop]at a)))
   (λj a=>by rw[l];rw[S]at a;exact lV _ _ _ _ (λt ht=>by rw[N]at ht;exact hN _ ω) _ (hN _ ω))
   (λj a=>by rw[F,World.frozen?_setCells];exact Q _) (λv T=>h1 v (List.mem_of_mem_drop T))
 subst b;have hE1:∀x,((w.alloc (.cells ROW 175)).drew).cell? x=(w.drew.alloc (.cells ROW 175)).cell? x:=λx=>rfl
 have hE2:∀x,((w.alloc (.cells ROW 175)).drew).frozen? x=(w.drew.alloc (.cells ROW 175)).frozen? x:=λx=>rfl
 have hF1:∀x,(((w.alloc (.cells ROW 175)).drew.setCells w.heap.size (i*3) vs).drew).cell? x=((w.drew.alloc (.cells ROW 175)).setCells w.heap.size (i*3) vs).cell? x:=λx=>rfl
 have hF2:∀x,(((w.alloc (.cells ROW 175)).drew.setCells w.heap.size (i*3) vs).drew).frozen? x=((w.drew.alloc (.cells ROW 175)).setCells w.heap.size (i*3) vs).frozen? x:=λx=>rfl
 have hw1:IntKind.i64.wrap ((i:Int)+(m:Int))=(i:Int)+(m:Int):=by rw[IntKind.wrap_i64];omega
 have hw2:IntKind.i64.wrap ((n:Int)+(m:Int))=(n:Int)+(m:Int):=by rw[IntKind.wrap_i64];omega
 have hw3:IntKind.i64.wrap ((n:Int)+(m:Int) - (i:Int))=(n:Int)+(m:Int) - (i:Int):=by rw[IntKind.wrap_i64];omega
 have hb1:(0:Int)<=(i:Int)+(m:Int):=ω
 have hin:i<=n:=ω
 have htn:((i:Int)+(m:Int)).toNat=i+m:=ω
 have hb3:(i:Int)<=(n:Int):=ω
 clear P D y k U hRl
 go_enter Tryz.func192,Tryz.ntmps192
 go_wp2_with (first
   | (at_builtin;refine Lib.wpList_append_run _ rfl _ _ _ _ rfl _ _ rfl rfl _ _ (p _) ?_)
   | (at_builtin;refine eI _ rfl _ _ 38 38 rfl _ _ rfl rfl (R _ hE1 hE2 _ _) ?_)
   | (at_builtin;refine eI _ rfl _ _ 38 38 rfl _ _ rfl rfl (B _ (λ_=>rfl) (λ_=>rfl) _ _ _) ?_))
 go_region_law_o (refine jy rfl _ _ 38 38 rfl (.slice (some ⟨w.heap.size,(i+m)*3,none⟩) (n+m - (i+m)) (G - (i+m))) (.slice (some ⟨g,i*3,none⟩) (n - i) (c - i)) (by simp[Act.eval,Act.put]) (by simp[Act.eval,Act.put]) (B _ hF1 hF2 3 (G - (i+m)) (c - i)) ?_)
 go_wp2
 go_ret
 exact⟨rfl,rfl⟩
def EO:Fs Tryz.prog 192 3 38 24:=by
 refine⟨⟨_,Tryz.func192,by kernel_rfl,by kernel_rfl⟩,EZ,λw g n c i K m L olds M l o r h P b d u N p q j y B=>?_⟩;obtain⟨Q,R,C,D,E,k,F,G⟩:=tc;by_cases a:n+m<=c
 ·refine(AN w g n c i K m L olds M l o h a b d u N p q j y B).mono λe O ⟨H,J⟩=>?_
  subst l;rw[J];exact⟨g,c,H,a,qP o a b d u p q j⟩
 refine(BT C D E k G w g n c i K m L olds M l o h r ω b d u N p q).mono λe O ⟨H,J⟩=>?_
 subst l;rw[J,xW];exact⟨_,_,H,grownCap_ge w _ _ _,tI (e:=175) rfl rfl rfl rfl o (grownCap_ge w _ _ _) k F b d p q⟩
def sK(xs:List aE):Vi (xs.map (aE.enc .own)):=λr b c a=>by
 obtain⟨s,-,rfl⟩:=O5.1 b;simp[aE.enc]at a;rcases a with rfl|rfl|rfl<;>exact⟨_,rfl⟩
def Ft(xs:List aE)(i:Nat)(x:aE)(j:i<=xs.length)(k:xs.length+1<=1073741824):zzB 192 false [.mut none [.s .own (xs.map (aE.enc .own))],.val none [I (i:Nat)],.mut none [.s .own [aE.enc .own x]]] [.mut none [.x],.val none [I (i:Nat)],.mut none [.x]] .one [.s .own ((inse xs i x).map (aE.enc .own))]:=by
 obtain⟨l,n,c,a,d,e,g,b⟩:=tc;have h:=Kz (row:=aE.enc .own x) Tryz.underlying38 c a d (by rw[a,e]) g (by rw[b];decide) (by rw[b];exact EO) (rows:=xs.map (aE.enc .own)) (i:=i) (by rw[O1];exact j) (aO λ_=>rfl) rfl (by decide) (sK xs) (sK [x]) (by rw[O1];exact k)
 rwa [y1]at h
def vX:∃(b:TypeInfo)(c:Value),Tryz.prog.info? 267=some b/\b.size=3/\b.zero=some c/\c.cells.size=3/\(∀v∈c.cells.toList,v.oneCell'=true)/\b.bytes=24:=by
 have h:=(mg 267 _ rfl).1;cases e : Tryz.prog.info? 267 with
 | none=>rw[e]at h;cases h
 | some x=>
  rw[e]at h;simp only[I7,I1,Prod.mk.injEq]at h;obtain⟨a,g,i⟩:=h;cases d:x.zero with
  | none=>rw[d]at a;cases a
  | some z=>
   rw[d]at a;simp only[I7,I1]at a;refine⟨x,z,rfl,g,d,?_,λv f=>?_,i⟩
   ·rw[<-Array.length_toList,a];rfl
   rw[a]at f;have j:(List.map cval [I 0,I 0,I 0]).all (λv=>v.oneCell')=true:=rfl;exact v5.1 j v f
def Jw:∀w,(Go.sizeOf 267).run Tryz.prog w=.ok 3 w:=λ_=>by kernel_rfl
def G7(w w1:World)(base:Option Addr)(n c d m g:Nat)(r:Value)(i:m=1)(j:n<=c)(h:n<=1073741824)(k:base=none->n=0/\c=0)(b:(Builtin.append_ #[37,37] 37 #[.slice base n c,.slice (some ⟨d,0,none⟩) m g]).run Tryz.prog w=.ok r w1) :
  Calls Tryz.prog 342 #[.slice base n c,.int .i64 n,.slice (some ⟨d,0,none⟩) m g] w λe l=>e=.returned r/\l=w1:=by
 have mixed : Tryz.prog.follows .mixedOrders=true:=by kernel_rfl
 have o:0<m:=ω
 have p:m<=1:=ω
 clear i;have q:¬((m:Int)=0):=ω
 go_enter Tryz.func342,Tryz.ntmps342
 cases base with
 | none=>
  obtain⟨rfl,rfl⟩:=k rfl
  go_wp2_with (at_builtin;refine Lib.wpList_append_run _ rfl _ _ _ _ rfl _ _ rfl rfl _ _ b ?_)
  go_ret
  exact⟨rfl,rfl⟩
 | some a=>
  obtain⟨u,y,asp⟩:=a
  go_wp2_with (at_builtin;refine Lib.wpList_append_run _ rfl _ _ _ _ rfl _ _ rfl rfl _ _ b ?_)
  all_goals(go_ret;exact⟨rfl,rfl⟩)
def Bk(w:World)(g n c i p m C:Nat)(olds vs:List Value)(Z:m=1)(hi:i<n)(X:n<=1073741824)(M:n+m<=c)(N:olds.length=n*3)(D:vs.length=3)(ho:∀t u,olds[t]? = some u->cel w g t=some u)(L:∀t u,vs[t]? = some u->cel w p t=some u)(h1:∀u∈olds,u.oneCell'=true)(h2:∀u∈vs,u.oneCell'=true)(b:∀q,q<c*3->(∃z,cel w g q=some z/\z.oneCell'=true)/\fro w g q=NF)(O:fro w p 0=NF)(E:p≠g) :
  Calls Tryz.prog 342 #[.slice (some ⟨g,0,none⟩) n c,.int .i64 i,.slice (some ⟨p,0,none⟩) m C] w λe w'=>e=.returned (.slice (some ⟨g,0,none⟩) (n+m) c)/\w'=(w.drew.setCells g ((i+m)*3) (olds.drop (i*3))).setCells g (i*3) vs:=by
 have mixed : Tryz.prog.follows .mixedOrders=true:=by kernel_rfl
 have hm1:0<m:=ω
 have hm2:m<=1:=ω
 clear Z;have hz1:¬((m:Int)=0):=ω
 have hz2:¬((i:Int)=(n:Int)):=ω
 have hz3:¬((c:Int)<(n:Int)+(m:Int)):=ω
 have F:(Tryz.prog.info? 267).map (·.size)=some 3:=by obtain⟨i0,z0,e1,e2,-⟩:=vX;rw[e1];simp[e2]
 have cell:∀q,q<(n+m)*3->(w.cell? ⟨g,q,none⟩).isSome=true/\w.frozen? ⟨g,q,none⟩ = false:=λq Y=>by
  obtain⟨⟨z,hz,-⟩,hf⟩:=b q ω;exact⟨by show(cel w g q).isSome=true;rw[hz];rfl,C1 Prod.fst hf⟩
 have P:∀Q R,(callFunc 461 #[.slice (some ⟨p,0,none⟩) m C,.slice (some ⟨g,(i+m)*3,none⟩) Q R]).run Tryz.prog w=.ok (.value (.bool false)) w:=λQ R=>by
  obtain⟨y,hy⟩ : ∃y,vs[0]? = some y:=⟨_,C3 ω⟩
  obtain⟨⟨y',S,-⟩,T⟩:=b 0 ω;rw[run_callFunc_extern Tryz.func461 (by kernel_rfl) (by kernel_rfl) (by kernel_rfl) (e:=Extern.SlicesOverlaps.overlaps #[37,37] #[4]) (by kernel_rfl),
    qm (e:=267) (k:=3) Tryz.underlying37 Jw E (L 0 y hy) O S T _ m C Q R]
  rfl
 have l:(olds.drop (i*3)).length=(n - i)*3:=by rw[I4,N];omega
 have hw1:IntKind.i64.wrap ((i:Int)+(m:Int))=(i:Int)+(m:Int):=by rw[IntKind.wrap_i64];omega
 have hw2:IntKind.i64.wrap ((n:Int)+(m:Int))=(n:Int)+(m:Int):=by rw[IntKind.wrap_i64];omega
 have hb1:(0:Int)<=(i:Int)+(m:Int):=ω
 have hin:i<=n:=ω
 have htn:((i:Int)+(m:Int)).toNat=i+m:=ω
 have hb2:¬(c=i+m):=ω
 have hb3:(i:Int)<=(n:Int)+(m:Int):=ω
 have hb4:¬(c=i):=ω
 have o:∀r B U,(Builtin.copy_ #[37,37] r #[.slice (some ⟨g,(i+m)*3,none⟩) (n+m - (i+m)) B,.slice (some ⟨g,i*3,none⟩) (n+m - i) U]).run Tryz.prog w.drew=.ok (goInt ((n - i:Nat):Int)) (w.drew.setCells g ((i+m)*3) (olds.drop (i*3))):=λr B U=>
  eU w.drew _ _ r 267 3 g ((i+m)*3) (n+m - (i+m)) B ⟨g,i*3,none⟩ (n+m - i) U (n - i) (olds.drop (i*3)) Tryz.underlying37 F (by simp only[Nat.min_def];split<;>omega) l
   (λj v a=>by rw[Addr.add_lit];exact ho (i*3+j) v (by rwa [List.getElem?_drop]at a))
   (λj a=>by rw[l]at a;exact(cell _ ω).1) (λj a=>by rw[l]at a;exact(cell _ ω).2) (λv L=>h1 v (List.mem_of_mem_drop L))
 obtain⟨G,d⟩ : ∃G,G=w.drew.setCells g ((i+m)*3) (olds.drop (i*3)):=⟨_,rfl⟩
 have H:∀q,q<(n+m)*3->(G.cell? ⟨g,q,none⟩).isSome=true:=λq Y=>by
  rw[d];exact lV g _ _ _ (λj a=>by rw[l]at a;exact(cell _ ω).1) _ (cell q Y).1
 have J:∀(W:World),(∀x,W.cell? x=G.cell? x)->(∀x,W.frozen? x=G.frozen? x)->∀r B,(Builtin.copy_ #[37,37] r #[.slice (some ⟨g,i*3,none⟩) (n+m - i) B,.slice (some ⟨p,0,none⟩) m C]).run Tryz.prog W=.ok (goInt ((1:Nat):Int)) (W.setCells g (i*3) vs):=λW K V r B=>
  eU W _ _ r 267 3 g (i*3) (n+m - i) B ⟨p,0,none⟩ m C 1 vs Tryz.underlying37 F (by simp only[Nat.min_def];split<;>omega) ω
   (λj v a=>by
     rw[Addr.add_lit,C9,K,d,World.cell?_setCells_out g _ _ _ _ (λh _=>absurd h E)];exact L j v a)
   (λj a=>by rw[K];rw[D]at a;exact H _ ω) (λj a=>by rw[V,d,World.frozen?_setCells];rw[D]at a;exact(cell _ ω).2) h2
 rw[<-d]at o;clear cell b
 go_enter Tryz.func342,Tryz.ntmps342
 go_wp2_with (simp only[P])
 go_region_law_o (refine jy rfl _ _ 37 37 rfl _ _ (by simp[Act.eval,Act.put]) (by simp[Act.eval,Act.put]) (o _ _ _) ?_)
 go_wp2_with (at_builtin;refine eI _ rfl _ _ 37 37 rfl _ _ rfl rfl (J _ (λ_=>rfl) (λ_=>rfl) _ _) ?_)
 go_ret
 first|exact⟨rfl,rfl⟩|exact⟨rfl,by rw[d]⟩
def EY(J : Tryz.prog.info? 267=some H)(K:H.size=3)(V:H.zero=some q)(X:q.cells.size=3)(L:H.bytes=24)(w:World)(g n c i r m Y:Nat)(olds vs:List Value)(hm:m=1)(hi:i<n)(hn63:n<=1073741824)(hnc:n<=c)(C:c<n+m)(M:olds.length=n*3)(N:vs.length=3)(Z:∀t u,olds[t]? = some u->cel w g t=some u)(T:∀t u,vs[t]? = some u->cel w r t=some u)(h1:∀u∈olds,u.oneCell'=true)(h2:∀u∈vs,u.oneCell'=true) :
  Calls Tryz.prog 342 #[.slice (some ⟨g,0,none⟩) n c,.int .i64 i,.slice (some ⟨r,0,none⟩) m Y] w λe w'=>e=.returned (.slice (some ⟨w.heap.size,0,none⟩) (n+m) (grownCap w (n+m) c 267))/\
   w'=(((w.alloc (.cells ((olds.take (i*3)).toArray++Builtin.zeroCells q.cells (n+m - i)++Builtin.zeroCells q.cells (grownCap w (n+m) c 267 - (n+m))) 267)).drew.setCells w.heap.size (i*3) vs).drew).setCells w.heap.size ((i+m)*3) (olds.drop (i*3)):=by
 have mixed : Tryz.prog.follows .mixedOrders=true:=by kernel_rfl
 have hm1:0<m:=ω
 have hm2:m<=1:=ω
 clear hm;have hz1:¬((m:Int)=0):=ω
 have hz2:¬((i:Int)=(n:Int)):=ω
 have hz3:(c:Int)<(n:Int)+(m:Int):=ω
 have O:(Tryz.prog.info? 267).map (·.size)=some 3:=by rw[J];simp[K]
 have hbw:g<w.heap.size:=block_lt_of_cell (Z 0 _ (C3 ω));have hvw:r<w.heap.size:=block_lt_of_cell (T 0 _ (C3 ω));have P:(n:Int)+(m:Int) - (i:Int)=((n+m - i:Nat):Int):=ω
 have D:i+(n+m - i)=n+m:=ω
 have y:(Builtin.firstCells H.size i (.slice (some ⟨g,0,none⟩) i c)).run Tryz.prog w.drew=.ok (olds.take (i*3)).toArray w.drew:=by
  rw[K];exact run_firstCells_some w.drew 3 i ⟨g,0,none⟩ i c (olds.take (i*3)) (by rw[O2];omega) (λj v a=>by
    rw[Addr.add_lit,C9];rw[List.getElem?_take]at a;split at a
    · exact Z j v a
    cases a)
 have p:∀d,(Builtin.append_ #[37,3] d #[.slice (some ⟨g,0,none⟩) i c,.int .i64 ((n:Int)+(m:Int) - (i:Int))]).run Tryz.prog w =
   .ok (.slice (some ⟨w.heap.size,0,none⟩) (n+m) (grownCap w (n+m) c 267)) (w.drew.alloc (.cells ((olds.take (i*3)).toArray++Builtin.zeroCells q.cells (n+m - i)++Builtin.zeroCells q.cells (grownCap w (n+m) c 267 - (n+m))) 267)):=λd=>by
  have h:=Lib.run_append_grow_zeros w 37 3 d 267 H _ .i64 .i64 Tryz.underlying37 Tryz.underlying3 J V (some ⟨g,0,none⟩) i c (olds.take (i*3)) y (n+m - i) ω ω ω ω (by rw[L];omega) (by rw[L,D];exact growslice_fits C ω);rw[D]at h;rw[P];exact h
 obtain⟨G,U⟩ : ∃G,G=grownCap w (n+m) c 267:=⟨_,rfl⟩
 obtain⟨ROW,k⟩ : ∃ROW:Array Value,ROW=(olds.take (i*3)).toArray++Builtin.zeroCells q.cells (n+m - i)++Builtin.zeroCells q.cells (G - (n+m)):=⟨_,rfl⟩
 rw[<-U]at p |-;rw[<-k]at p |-;have hRl:(n+m)*3<=ROW.size:=by
  rw[k];simp only[Array.size_append,List.size_toArray,O2,size_zeroCells,X,M];omega
 obtain⟨o,b⟩ : ∃o,o=w.drew.alloc (.cells ROW 267):=⟨_,rfl⟩
 rw[<-b]at p;have hN:∀j,j<(n+m)*3->(o.cell? ⟨w.heap.size,j,none⟩).isSome=true:=λj a=>by
  rw[b,World.cell?_alloc_at (w:=w.drew) ROW _ w.heap.size j rfl,Y8 ω];rfl
 have Q:∀j,o.frozen? ⟨w.heap.size,j,none⟩ = false:=λj=>by rw[b];exact World.frozen?_alloc_at (w:=w.drew) ROW _ w.heap.size j rfl
 have hOb:∀j v,w.cell? ⟨g,j,none⟩ = some v->o.cell? ⟨g,j,none⟩ = some v:=λj v h=>by rw[b,World.cell?_alloc_past (w:=w.drew) _ g j hbw];exact h
 have hOv:∀j v,w.cell? ⟨r,j,none⟩ = some v->o.cell? ⟨r,j,none⟩ = some v:=λj v h=>by rw[b,World.cell?_alloc_past (w:=w.drew) _ r j hvw];exact h
 have R:∀(W:World),(∀x,W.cell? x=o.cell? x)->(∀x,W.frozen? x=o.frozen? x)->∀d E,(Builtin.copy_ #[37,37] d #[.slice (some ⟨w.heap.size,i*3,none⟩) (n+m - i) E,.slice (some ⟨r,0,none⟩) m Y]).run Tryz.prog W=.ok (goInt ((1:Nat):Int)) (W.setCells w.heap.size (i*3) vs):=λW l F d E=>
  eU W _ _ d 267 3 w.heap.size (i*3) (n+m - i) E ⟨r,0,none⟩ m Y 1 vs Tryz.underlying37 O (by simp only[Nat.min_def];split<;>omega) ω
   (λj v a=>by rw[Addr.add_lit,C9,l];exact hOv _ v (T j v a))
   (λj a=>by rw[l];rw[N]at a;exact hN _ ω) (λj a=>by rw[F];exact Q _) h2
 have hGn:n+m<=G:=by rw[U];exact grownCap_ge w _ _ _
 have hG63:G<=9223372036854775807:=by
  have:=grownCap_le_maxLen w (n+m) c 267 (by unfold maxLen;omega);rw[<-U]at this;unfold maxLen at this;omega
 have hGi:¬(G=i):=ω
 have hGim:¬(G=i+m):=ω
 have hci:¬(c=i):=ω
 have hbN:g≠w.heap.size:=ω
 have S:(olds.drop (i*3)).length=(n - i)*3:=by rw[I4,M];omega
 have B:∀(W:World),(∀x,W.cell? x=(o.setCells w.heap.size (i*3) vs).cell? x)->(∀x,W.frozen? x=(o.setCells w.heap.size (i*3) vs).frozen? x)->∀d E sc,(Builtin.copy_ #[37,37] d #[.slice (some ⟨w.heap.size,(i+m)*3,none⟩) (n+m - (i+m)) E,.slice (some ⟨g,i*3,none⟩) (n - i) sc]).run Tryz.prog W=.ok (goInt ((n - i:Nat):Int)) (W.setCells w.heap.size ((i+m)*3) (olds.drop (i*3))):=λW l F d E sc=>
  eU W _ _ d 267 3 w.heap.size ((i+m)*3) (n+m - (i+m)) E ⟨g,i*3,none⟩ (n - i) sc (n - i) (olds.drop (i*3)) Tryz.underlying37 O (by simp only[Nat.min_def];split<;>omega) S
   (λj v a=>by
     rw[Addr.add_lit,l,World.cell?_setCells_out _ _ _ _ _ (λh _=>absurd h hbN)];exact hOb _ v (Z (i*3+j) v (by rwa [List.getElem?_drop]at a)))
   (λj a=>by rw[l];rw[S]at a;exact lV _ _ _ _ (λt ht=>by rw[N]at ht;exact hN _ ω) _ (hN _ ω))
   (λj a=>by rw[F,World.frozen?_setCells];exact Q _) (λv T=>h1 v (List.mem_of_mem_drop T))
 subst b;have hE1:∀x,((w.alloc (.cells ROW 267)).drew).cell? x=(w.drew.alloc (.cells ROW 267)).cell? x:=λx=>rfl
 have hE2:∀x,((w.alloc (.cells ROW 267)).drew).frozen? x=(w.drew.alloc (.cells ROW 267)).frozen? x:=λx=>rfl
 have hF1:∀x,(((w.alloc (.cells ROW 267)).drew.setCells w.heap.size (i*3) vs).drew).cell? x=((w.drew.alloc (.cells ROW 267)).setCells w.heap.size (i*3) vs).cell? x:=λx=>rfl
 have hF2:∀x,(((w.alloc (.cells ROW 267)).drew.setCells w.heap.size (i*3) vs).drew).frozen? x=((w.drew.alloc (.cells ROW 267)).setCells w.heap.size (i*3) vs).frozen? x:=λx=>rfl
 have hw1:IntKind.i64.wrap ((i:Int)+(m:Int))=(i:Int)+(m:Int):=by rw[IntKind.wrap_i64];omega
 have hw2:IntKind.i64.wrap ((n:Int)+(m:Int))=(n:Int)+(m:Int):=by rw[IntKind.wrap_i64];omega
 have hw3:IntKind.i64.wrap ((n:Int)+(m:Int) - (i:Int))=(n:Int)+(m:Int) - (i:Int):=by rw[IntKind.wrap_i64];omega
 have hb1:(0:Int)<=(i:Int)+(m:Int):=ω
 have hin:i<=n:=ω
 have htn:((i:Int)+(m:Int)).toNat=i+m:=ω
 have hb3:(i:Int)<=(n:Int):=ω
 clear P D y k U hRl
 go_enter Tryz.func342,Tryz.ntmps342
 go_wp2_with (first
   | (at_builtin;refine Lib.wpList_append_run _ rfl _ _ _ _ rfl _ _ rfl rfl _ _ (p _) ?_)
   | (at_builtin;refine eI _ rfl _ _ 37 37 rfl _ _ rfl rfl (R _ hE1 hE2 _ _) ?_)
   | (at_builtin;refine eI _ rfl _ _ 37 37 rfl _ _ rfl rfl (B _ (λ_=>rfl) (λ_=>rfl) _ _ _) ?_))
 go_region_law_o (refine jy rfl _ _ 37 37 rfl (.slice (some ⟨w.heap.size,(i+m)*3,none⟩) (n+m - (i+m)) (G - (i+m))) (.slice (some ⟨g,i*3,none⟩) (n - i) (c - i)) (by simp[Act.eval,Act.put]) (by simp[Act.eval,Act.put]) (B _ hF1 hF2 3 (G - (i+m)) (c - i)) ?_)
 go_wp2
 go_ret
 exact⟨rfl,rfl⟩
def Jb:Fs Tryz.prog 342 3 37 24:=by
 refine⟨⟨_,Tryz.func342,by kernel_rfl,by kernel_rfl⟩,G7,λw g n c i K m L olds M l o r h P b d u N p q j y B=>?_⟩;obtain⟨Q,R,C,D,E,k,F,G⟩:=vX;by_cases a:n+m<=c
 ·refine(Bk w g n c i K m L olds M l o h a b d u N p q j y B).mono λe O ⟨H,J⟩=>?_
  subst l;rw[J];exact⟨g,c,H,a,qP o a b d u p q j⟩
 refine(EY C D E k G w g n c i K m L olds M l o h r ω b d u N p q).mono λe O ⟨H,J⟩=>?_
 subst l;rw[J,xW];exact⟨_,_,H,grownCap_ge w _ _ _,tI (e:=267) rfl rfl rfl rfl o (grownCap_ge w _ _ _) k F b d p q⟩
def uW(xs:List aA):Vi (xs.map (aA.enc .own)):=λr b c a=>by
 obtain⟨s,-,rfl⟩:=O5.1 b;simp[aA.enc]at a;rcases a with rfl|rfl|rfl<;>exact⟨_,rfl⟩
def HG(xs:List aA)(i:Nat)(x:aA)(j:i<=xs.length)(k:xs.length+1<=1073741824):zzB 342 false [.mut none [.s .own (xs.map (aA.enc .own))],.val none [I (i:Nat)],.mut none [.s .own [aA.enc .own x]]] [.mut none [.x],.val none [I (i:Nat)],.mut none [.x]] .one [.s .own ((inse xs i x).map (aA.enc .own))]:=by
 obtain⟨l,n,c,a,d,e,g,b⟩:=vX;have h:=Kz (row:=aA.enc .own x) Tryz.underlying37 c a d (by rw[a,e]) g (by rw[b];decide) (by rw[b];exact Jb) (rows:=xs.map (aA.enc .own)) (i:=i) (by rw[O1];exact j) (aO λ_=>rfl) rfl (by decide) (uW xs) (uW [x]) (by rw[O1];exact k)
 rwa [y1]at h
def oF(h:ac):C:=oE (h.o.map (aB.enc .own))
def ip(h:ac):List C:=[.s .own (h.F.G.W.T.map (aH .own)),.s .own (h.F.G.W.a1.map (rB .own)),.s .own (h.F.G.Q.K.map (bm.enc .own)),I h.F.Calls,.s .own (h.F.u.map (rI .own)),oF h,.s .own (h.J.map (aA.enc .own)),.s .own (h.M.map (aE.enc .own)),.s .own (h.O.map (bu.enc .own)),.s .own (h.S.map (aF.enc .own)),.s .own (h.w.V.map (cL .own)),.s .own (h.w.a2.map (aH .own)),I h.a7.b8,.s .own (h.a7.a6.map (aT.enc .own)),I h.b3,I h.b2,I h.b1,I h.b,B h.q,I h.Y.X.a3,I h.Y.X.a0,.s .own (h.Y.X.T.map (rI .own)),I h.Y.b0,I h.Y.b]
def M3(h:ac):List C:=[.x,.x,.x,.x,.x,oF h,.s .own (h.J.map (aA.enc .own)),.s .own (h.M.map (aE.enc .own)),.s .own (h.O.map (bu.enc .own)),.s .own (h.S.map (aF.enc .own)),.s .own (h.w.V.map (cL .own)),.s .own (h.w.a2.map (aH .own)),I h.a7.b8,.s .own (h.a7.a6.map (aT.enc .own)),I h.b3,I h.b2,I h.b1,I h.b,B h.q,I h.Y.X.a3,I h.Y.X.a0,.s .own (h.Y.X.T.map (rI .own)),I h.Y.b0,I h.Y.b]
def UJ(h:ac):fz (oF h)=.s .U (h.o.map (aB.enc .U)):=(LH _).trans (List.cons.inj (ee h.o)).1
def jf(h:ac):dM (ip h)=ac.enc .U h:=by
 have a:=ac.enc_fz h;have b:dM (ip h)=(dM (ac.enc .own h)).set 5 (fz (oF h)):=rfl;rw[b,a,UJ];rfl
variable{u:Nat->Value}{h:ac}
def RF{S Y:am}(d:cN w S Y (ac.enc .own h) u):cN w S Y (ip h) u:=by
 obtain⟨f,b,e,g⟩:=d;refine⟨f,λj c a=>?_,e,g⟩;have i:ip h=(ac.enc .own h).set 5 (oF h):=rfl;rw[i]at a;by_cases k:j=5
 ·subst k
  have:c=oF h:=by simpa[ac.enc] using a.symm
  rw[this];exact te (b 5 _ rfl)
 rw[List.getElem?_set_ne ω]at a;exact b j c a
def AK(h:ac)(a:ac.sml h):zzA 62 false [.val (some 24) (ac.enc .U h)] .agg (ip h):=by
 obtain⟨b,c⟩:=nr h a;refine⟨b,λw S d g i=>(c w S d g i).mono λe w1 j=>?_⟩;obtain⟨v,k,l,X,n,o,p,q,r,t⟩:=j;exact⟨v,k,l,X,n,o,p,q,r,RF t⟩
def V9{b:Bool}{X Y:Prop}(h:b=true)(a:X):cond b X Y:=by subst h;exact a
def KJ{b:Bool}{X Y:Prop}(h:b=false)(a:Y):cond b X Y:=by subst h;exact a
def VW(h:ac):bn [oF h]=false\/(bn [oF h]=true/\h.o=[]):=by
 unfold oF;cases a:h.o with
 | nil=>exact .inr ⟨rfl,rfl⟩
 | cons y b=>exact .inl rfl
def VN(a:bn [oF h]=true):[oF h]=bt .U h.o:=by
 unfold oF at a |-;cases b:h.o with
 | nil=>rfl
 | cons y c=>rw[b]at a;simp[oE,bn,eG]at a
def zP(h:ac)(n:Nat):ac × Int × Bool:=
 if(ay h.o (n:Nat)).2.2=false then(h,-1,false)
 else if(newsK h.F (ay h.o (n:Nat)).2.1 n).2=n then({h with F:=(newsK h.F (ay h.o (n:Nat)).2.1 n).1,o:=(ay h.o (n:Nat)).1},(ay h.o (n:Nat)).2.1,true)
 else({h with F:=unmN (newsK h.F (ay h.o (n:Nat)).2.1 n).1 (ay h.o (n:Nat)).2.1 (newsK h.F (ay h.o (n:Nat)).2.1 n).2},-1,false)
def qK(h:ac)(n:Nat)(w:bc h [])(U:h.F.Calls<=90000)(hn:1<=n/\n<=63):zzB 189 false [.ptr (ip h),.val none [I (n:Nat)]] [.ptr (ip (zP h n).1),.val none [I (n:Nat)]] (.tup [none,none]) [I (zP h n).2.1,B (zP h n).2.2]:=by
 have P:fo h<=32:=w.lens.ents;have M:=w;have C:dM [oF h]=bt .U h.o:=C1 (λy=>[y]) (UJ h);have N:=tU h;have t:=yQ (fo h:Nat) h.o (n:Nat) ⟨ω,ω⟩ w.rng ⟨ω,ω⟩ (by have:=w.lens.free;omega);unfold Wz at t;have D:=jb w (show(1:Int)<=(n:Nat) by omega);unfold zP;have c:bn [oF h]=false\/(bn [oF h]=true/\(ay h.o (n:Nat)).2.2=false):=(VW h).imp id λg=>⟨g.1,by rw[g.2];rfl⟩
 generalize ay h.o (n:Nat)=r at t D c |-;obtain⟨V,p,ok⟩:=r;simp only at t D c |-;refine fM 76 [] [(1,270,[15,16,17,18,19,20,21,22,23,24,14,25,26,27,0,1,2,3,4,5,6,7,8,9,10,11,12,13,14,1012,1013,15,1013,16])] [(0,0),(0,0)] Tryz.func189 rfl (λu q=>?_) (.inr ⟨trivial,trivial,trivial⟩);rcases c with c|⟨c,Q⟩
 ·cases ok with
   | false=>
    rw[CE rfl];rw[CC (by simp)]at t
    repeat'(first|refine gP ?_|refine CH (N) ⟨⟨rfl,jf h⟩,trivial⟩ ?_|refine CH (t) ⟨⟨rfl,rfl⟩,⟨rfl,C⟩,⟨rfl,rfl⟩,trivial⟩ ?_|refine KJ c ?_)
    refine CL rfl rfl ?_;exact wC
   | true=>
    rw[CC (by simp)];rw[CE rfl]at t;obtain⟨O,L,E,u4⟩:=D rfl;change p+(n:Nat)<=(h.F.G.Q.K.length:Nat) at L;change ∀q:Nat,p<=q->(q:Int)<p+(n:Nat)->(nth h.F.G.Q.K q).j=0 at E
    have W:h.F.G.Q.K.length<=32:=P;cases V with
    | nil=>
      repeat'(first|refine gP ?_|refine CH (N) ⟨⟨rfl,jf h⟩,trivial⟩ ?_|refine CH (t) ⟨⟨rfl,rfl⟩,⟨rfl,C⟩,⟨rfl,rfl⟩,trivial⟩ ?_|refine KJ c ?_)
      refine CK (ι:=Nat) (λi=>[(0,.H .box (M3 h)),(1,.H .one [I ((n:Nat):Int)]),(6,.H .one ([oE (([]:List aB).map (aB.enc .own))])),(7,.H .one [I (p)]),(9,.H .box (ah.enc .own (newsK h.F p i).1)),(10,.H .one [I ((i:Nat):Int)])]) (λi=>i<=n/\(newsK h.F p i).2=i) (λi=>n - i) (0) ?_ (⟨Z0 _,rfl⟩) λi w=>?_
      ·exact wC
      obtain⟨F,G⟩:=w;have s:=jY.of (p:=p) (n:=n) M.ker ω ⟨O,L⟩ E i F;have R:=s.calls;have S:=s.len;by_cases X:i<n
      ·have H:(nth (newsK h.F p i).1.G.Q.K (p+(i:Nat)).toNat).j=0:=by
        rw[s.out _ (by rw[G];omega)];exact E _ ω ω
       have l:=uA (newsK h.F p i).1 (p+(i:Nat)) s.ker ω ⟨ω,ω⟩ H;have a:newsK h.F p (i+1)=((newK (newsK h.F p i).1 (p+(i:Nat))).1,if(newK (newsK h.F p i).1 (p+(i:Nat))).2=true then i+1 else i):=by
        show(if(newsK h.F p i).2=i then _ else _)=_;rw[CE G]
       cases e:(newK (newsK h.F p i).1 (p+(i:Nat))).2 with
       | true=>
        rw[e]at l a;rw[CE rfl]at a;have J:(newK (newsK h.F p i).1 (p+(i:Nat))).1=(newsK h.F p (i+1)).1:=by rw[a]
        rw[J]at l
        repeat'(first|refine gE ?_|refine CH (l) ⟨⟨rfl,CS _⟩,⟨rfl,rfl⟩,trivial⟩ ?_)
        (refine CG (i+1) ⟨ω,by rw[a]⟩ ω ?_;(exact wC))
       | false=>
        rw[e]at l a;rw[CC (by simp)]at a;have o:=kj (k:=h.F) (p:=p) (i:=i+1) (by rw[a];simp only;omega) (n - (i+1));rw[show i+1+(n - (i+1))=n by omega]at o;have K:=jY.of (p:=p) (n:=n) M.ker ω ⟨O,L⟩ E (i+1) ω;rw[CC ω,o.1];have b:=K.calls;rw[a]at K b |-;have d:=K.ker;simp only at d b |-;generalize (newK (newsK h.F p i).1 (p+(i:Nat))).1=k at l d b |-
        repeat'(first|refine gE ?_|refine CH (l) ⟨⟨rfl,CS _⟩,⟨rfl,rfl⟩,trivial⟩ ?_)
        refine CK (ι:=Nat) (λj=>[(0,.H .box (M3 h)),(7,.H .one [I (p)]),(9,.H .box (ah.enc .own (unmN k p j))),(10,.H .one [I ((i:Nat):Int)]),(13,.H .one [I (p+(j:Nat))])]) (λj=>j<=i) (λj=>i - j) (0) ?_ (Z0 _) λj Y=>?_
        ·exact wC
        have T:=ql (unmN k p j) (p+(j:Nat)) (io d p j) (by rw[(eZ k p j).2.1];omega);by_cases Z:j<i
        ·repeat'(first|refine gE ?_|refine CH (T) ⟨⟨rfl,CS _⟩,⟨rfl,rfl⟩,trivial⟩ ?_)
         (refine CG (j+1) ω ω ?_;(exact wC))
        obtain rfl:j=i:=ω
        refine ZE ?_
        refine CL rfl rfl ?_;exact wC
      obtain rfl:i=n:=ω
      rw[CE G];generalize (newsK h.F p i).1=k
      refine ZE ?_
      refine CL rfl rfl ?_;exact wC
    | cons y ys=>
      repeat'(first|refine gP ?_|refine CH (N) ⟨⟨rfl,jf h⟩,trivial⟩ ?_|refine CH (t) ⟨⟨rfl,rfl⟩,⟨rfl,C⟩,⟨rfl,rfl⟩,trivial⟩ ?_|refine KJ c ?_)
      refine CK (ι:=Nat) (λi=>[(0,.H .box (M3 h)),(1,.H .one [I ((n:Nat):Int)]),(6,.H .one ([oE ((y::ys).map (aB.enc .own))])),(7,.H .one [I (p)]),(9,.H .box (ah.enc .own (newsK h.F p i).1)),(10,.H .one [I ((i:Nat):Int)])]) (λi=>i<=n/\(newsK h.F p i).2=i) (λi=>n - i) (0) ?_ (⟨Z0 _,rfl⟩) λi w=>?_
      ·exact wC
      obtain⟨F,G⟩:=w;have s:=jY.of (p:=p) (n:=n) M.ker ω ⟨O,L⟩ E i F;have R:=s.calls;have S:=s.len;by_cases X:i<n
      ·have H:(nth (newsK h.F p i).1.G.Q.K (p+(i:Nat)).toNat).j=0:=by
        rw[s.out _ (by rw[G];omega)];exact E _ ω ω
       have l:=uA (newsK h.F p i).1 (p+(i:Nat)) s.ker ω ⟨ω,ω⟩ H;have a:newsK h.F p (i+1)=((newK (newsK h.F p i).1 (p+(i:Nat))).1,if(newK (newsK h.F p i).1 (p+(i:Nat))).2=true then i+1 else i):=by
        show(if(newsK h.F p i).2=i then _ else _)=_;rw[CE G]
       cases e:(newK (newsK h.F p i).1 (p+(i:Nat))).2 with
       | true=>
        rw[e]at l a;rw[CE rfl]at a;have J:(newK (newsK h.F p i).1 (p+(i:Nat))).1=(newsK h.F p (i+1)).1:=by rw[a]
        rw[J]at l
        repeat'(first|refine gE ?_|refine CH (l) ⟨⟨rfl,CS _⟩,⟨rfl,rfl⟩,trivial⟩ ?_)
        (refine CG (i+1) ⟨ω,by rw[a]⟩ ω ?_;(exact wC))
       | false=>
        rw[e]at l a;rw[CC (by simp)]at a;have o:=kj (k:=h.F) (p:=p) (i:=i+1) (by rw[a];simp only;omega) (n - (i+1));rw[show i+1+(n - (i+1))=n by omega]at o;have K:=jY.of (p:=p) (n:=n) M.ker ω ⟨O,L⟩ E (i+1) ω;rw[CC ω,o.1];have b:=K.calls;rw[a]at K b |-;have d:=K.ker;simp only at d b |-;generalize (newK (newsK h.F p i).1 (p+(i:Nat))).1=k at l d b |-
        repeat'(first|refine gE ?_|refine CH (l) ⟨⟨rfl,CS _⟩,⟨rfl,rfl⟩,trivial⟩ ?_)
        refine CK (ι:=Nat) (λj=>[(0,.H .box (M3 h)),(7,.H .one [I (p)]),(9,.H .box (ah.enc .own (unmN k p j))),(10,.H .one [I ((i:Nat):Int)]),(13,.H .one [I (p+(j:Nat))])]) (λj=>j<=i) (λj=>i - j) (0) ?_ (Z0 _) λj Y=>?_
        ·exact wC
        have T:=ql (unmN k p j) (p+(j:Nat)) (io d p j) (by rw[(eZ k p j).2.1];omega);by_cases Z:j<i
        ·repeat'(first|refine gE ?_|refine CH (T) ⟨⟨rfl,CS _⟩,⟨rfl,rfl⟩,trivial⟩ ?_)
         (refine CG (j+1) ω ω ?_;(exact wC))
        obtain rfl:j=i:=ω
        refine ZE ?_
        refine CL rfl rfl ?_;exact wC
      obtain rfl:i=n:=ω
      rw[CE G];generalize (newsK h.F p i).1=k
      refine ZE ?_
      refine CL rfl rfl ?_;exact wC
 subst Q;rw[CE rfl];rw[CC (by simp)]at t
 repeat'(first|refine gP ?_|refine CH (N) ⟨⟨rfl,jf h⟩,trivial⟩ ?_|refine CH (t) ⟨⟨rfl,rfl⟩,⟨rfl,VN c⟩,⟨rfl,rfl⟩,trivial⟩ ?_|refine V9 c ?_)
 refine CL rfl rfl ?_;exact wC
def x4(h:ac)(p c:Int)(w:h.J.length<=4096):zzB 190 false [.ptr (ip h),.val (some 3) [I p,I c,I 0]] [.ptr (ip {h with J:=jW (FL p) h.J ⟨p,c,0⟩}),.val (some 3) [I p,I c,I 0]] .one [I (jE (FL p) h.J:Nat)]:=by
 refine fM 40 [(342,[1,0,1])] [(2,18,[6,7,8,9,10,11,12,13,14,15,16,17,18,19,20,21,22,23]),(4,264,[28,29,30,31,32,33,34,35,0,1,2,3,4,5,6,7,8,1000,9,10,11])] [(0,0),(0,0)] Tryz.func190 rfl (λu q=>?_)
 refine ZP ?_
 refine CK (ι:=Nat) (λi=>[(0,.H .box (ip h)),(3,.H .box ([I p,I c,I 0])),(5,.H .one [I ((i:Nat):Int)])]) (λi=>i<=h.J.length/\∀(j:Nat)(z:aA),j<i->h.J[j]? = some z->FL p z=false) (λi=>h.J.length - i) (0) ?_ (⟨Z0 _,λj z y=>ω⟩) λi g=>?_
 ·exact wC
 obtain⟨k,d⟩:=g;by_cases l:i<h.J.length/\(nth h.J i).R<p
 ·have b:=ar l.1
  refine ZE ?_
  (refine CG (i+1) ⟨ω,eA b (X0 ω) d⟩ ω ?_;(exact wC))
 have a:jE (FL p) h.J=i:=ng ω d λz e=>by
  have n:=(I3.1 e).1;have:z=nth h.J i:=(bq e).symm;subst this;exact O0 ω
 have b:i<h.J.length->h.J[i]? = some (nth h.J i):=λo=>ar o
 have r:=HG h.J i ⟨p,c,0⟩ ω ω;rw[mT a,a]
 repeat'(first|refine gE ?_|with_reducible (first|refine CF (aa (b ω)) ?_|refine Bf.D (λt=>?_) (λt=>?_))|refine CJ rfl (aa (b ω)) rfl ?_)
 all_goals
  refine CL rfl rfl ?_;exact wC
def Kq(h:ac)(i:Nat):ip (slotT h i)=((ip h).set 14 (I (Bh h.b3))).set 6 (.s .own ((h.J.map (aA.enc .own)).set i [I (nth h.J i).R,I (nth h.J i).d,I (ib (nth h.J i).a9 (og h i))])):=by
 simp[ip,slotT,rJ,S8,aA.enc,oF]
def BL(h:ac)(E:List Int)(i:Nat)(a:bc h E)(b:i<h.J.length)(p:(iy h i).length=0):zzA 188 false [.ptr (ac.enc .U h),.val none [I (i:Nat)]] (.tup [none,none]) [I (-1),B false]:=by
 have g:=ar b;have c:=a.L.sok _ (au b);have d:=dU c;have j:=(bo.1 (aC.1 a.ker).2.2.1).2.2;have n:=a.lens.spans;have e:=mE a.L.sok (ps:=aX h (nth h.J i).R) d (aX h (nth h.J i).R).length;change 0<=eB h i/\eB h i<=65535 at e;have o:=gK (nth h.J i).d;have k:=sg h i ⟨ω,λ_ _=>trivial⟩ ⟨by show h.F.G.Q.K.length<=_;omega,λ_ _=>trivial⟩ a.L.sok b;rw[wL a.L.sok b]at k;have l:=qt (nth h.J i).d (eB h i) ω;change ax _ _ _ _ _ (aH .own (iy h i)) at l;refine fO 63 [(2,7,[17,18,19,20,21,22,23]),(7,12,[43,44,45,46,47,48,49,50,51,52,53,54]),(8,5,[57,58,59,60,61])] Tryz.func188 rfl ?_ (.inr ⟨trivial,trivial,trivial⟩)
 refine ZB ?_
 rfl
def pP(h:ac)(E:List Int)(i:Nat)(b:bc h E)(j:i<h.J.length):zzB 188 false [.ptr (ip h),.val none [I (i:Nat)]] [.ptr (ip (jw h i).1),.val none [I (i:Nat)]] (.tup [none,none]) [I (jw h i).2,B (decide (0<(iy h i).length))]:=by
 have F:=b.lens.spans;have d:=ar j;have c:=b.L.sok _ (au j);have e:=dU c;have a:=b.nums;unfold cx at a;rw[C0]at a;have y:=(bo.1 (aC.1 b.ker).2.2.1).2.2;have k:=mE b.L.sok (ps:=aX h (nth h.J i).R) e (aX h (nth h.J i).R).length;change 0<=eB h i/\eB h i<=65535 at k;have C:=gK (nth h.J i).d;have l:=sg h i ⟨ω,λ_ _=>trivial⟩ ⟨by show h.F.G.Q.K.length<=_;omega,λ_ _=>trivial⟩ b.L.sok j;rw[wL b.L.sok j]at l;have o:=qt (nth h.J i).d (eB h i) ω;change ax _ _ _ _ _ (aH .own (iy h i)) at o;have p:=z8 (nth h.J i).d (eB h i);change (iy h i).length<=16 at p;unfold jw;by_cases D:(iy h i).length=0
 ·rw[CE D,X0 ω]
  refine fM 63 [] [(2,7,[17,18,19,20,21,22,23]),(7,12,[43,44,45,46,47,48,49,50,51,52,53,54]),(8,5,[57,58,59,60,61])] [(0,0),(0,0)] Tryz.func188 rfl (λu q=>?_) (.inr ⟨trivial,trivial,trivial⟩)
  repeat'(first|refine gB ?_|refine CH (l) ⟨⟨rfl,jf h⟩,⟨rfl,rfl⟩,trivial⟩ ?_)
  refine CL rfl rfl ?_;exact wC
 rw[CC D,O0 ω];have G:=we (h:=h) (i:=i) ω;obtain⟨H,O,P⟩:=tq G;have J:=(hB (aI c).2.2).2.2.1;have r:=qq h.b3 (n:=((iy h i).length:Nat)) ω;have K:=xh h.b3 ((iy h i).length:Nat) ω ω;have M:=BF (nth h.J i).a9 (og h i) e ω;obtain⟨N,t⟩:=Z3 H;have w:=rW (nth h.J i) N c ω;unfold kS at w;rw[<-t]at w;have g:(iy h i)[(G3 h.b3 ((iy h i).length:Nat)).toNat]? = some (og h i):=ar ω;unfold qz;rw[Kq];refine fM 63 [] [(2,7,[17,18,19,20,21,22,23]),(7,12,[43,44,45,46,47,48,49,50,51,52,53,54]),(8,5,[57,58,59,60,61])] [(0,0),(0,0)] Tryz.func188 rfl (λu q=>?_) (.inr ⟨trivial,trivial,trivial⟩)
 repeat'(first|refine gB ?_|refine CH (l) ⟨⟨rfl,jf h⟩,⟨rfl,rfl⟩,trivial⟩ ?_|refine CO r.1 (aa g) ?_|refine CR rfl rfl (aa d) rfl (Z1 rfl) rfl ?_)
 refine CL rfl ?_ ?_
 ·rfl
 exact wC
def N5(k:ah)(p:Int):newsK k p 1=((newK k p).1,if(newK k p).2=true then 1 else 0):=by
 show(if(0:Nat)=0 then((newK k (p+((0:Nat):Int))).1,if(newK k (p+((0:Nat):Int))).2=true then 0+1 else 0) else(k,0))=_;rw[CE rfl,show p+((0:Nat):Int)=p by omega]
def Pm(h:ac):zP h 1=if(ay h.o 1).2.2=false then(h,-1,false)
  else if(newK h.F (ay h.o 1).2.1).2=false then({h with F:=(newK h.F (ay h.o 1).2.1).1},-1,false)
  else({h with F:=(newK h.F (ay h.o 1).2.1).1,o:=(ay h.o 1).1},(ay h.o 1).2.1,true):=by
 unfold zP;rw[show((1:Nat):Int)=1 from rfl,N5];cases e:(newK h.F (ay h.o 1).2.1).2
 ·simp[unmN]
 simp
def Li(h:ac)(a:C):List C:=(ip h).set 9 a
def oJ(h:ac)(a:C):Prop:=fz a=.s .U (h.S.map (aF.enc .U))
def Fk{a:C}(b:oJ h a):dM (Li h a)=ac.enc .U h:=by
 have c:dM (Li h a)=(dM (ip h)).set 9 (fz a):=rfl;rw[c,jf,b];rfl
def oJ.own(h:ac):oJ h (.s .own (h.S.map (aF.enc .own))):=by
 have a:=C1 (λl:List C=>l[9]?) (jf h);have b:(dM (ip h))[9]? = some (fz (.s .own (h.S.map (aF.enc .own)))):=rfl;have c:(ac.enc .U h)[9]? = some (.s .U (h.S.map (aF.enc .U))):=rfl;simp only[b,c,I1]at a;exact a
def WM(h:ac)(t c:Nat):C:=.s .own ((h.S.map (aF.enc .own)).set t [.s .own (((nth h.S t).Z.map (aH .own)).set c (aH .U ((nth (nth h.S t).Z c).take ((nth (nth h.S t).Z c).length - 1))))])
def VE(h:ac)(t c:Nat):oJ {h with S:=h.S.set t (rM (nth h.S t) c)} (WM h t c):=by
 have b:fz (.s .own (h.S.map (aF.enc .own)))=.s .U (h.S.map (aF.enc .U)):=oJ.own h;have e:∀a:List (List C),fz (.s .own a)=.s .U (a.map dM):=λa=>by rw[Vm];congr 1;apply List.map_congr_left;intro r _;rw[bW]
 unfold oJ WM;rw[e]at b |-;simp only[C.s.injEq,true_and]at b |-;rw[S8,b,S8]
 congr 1
 have d:=Cg (rM (nth h.S t) c);rw[HB]at d;rw[<-d];simp only[dM,e,S8]
 congr 3
def NG(h:ac){t:Nat}(a:t<h.S.length)(r:List C):ip h=((ip h).set 9 (.s .own ((h.S.map (aF.enc .own)).set t r))).set 9 (.s .own (((h.S.map (aF.enc .own)).set t r).set t (aF.enc .own (nth h.S t)))):=by
 have e:(h.S.map (aF.enc .own)).set t (aF.enc .own (nth h.S t))=h.S.map (aF.enc .own):=by
  rw[<-S8,LY a]
 rw[List.set_set,List.set_set,e];rfl
def Al(h:ac)(t c:Nat)(o:bc h [])(E:t<h.S.length)(T:c<=3)(r:h.F.Calls<=90000):∃W,oJ (smallA h t c).1 W/\zzB 65 false [.ptr (ip h),.val none [I (t:Nat)],.val none [I (c:Nat)]] [.ptr (Li (smallA h t c).1 W),.val none [I (t:Nat)],.val none [I (c:Nat)]] (.tup [none,none]) [I (smallA h t c).2,B (decide (0<=(smallA h t c).2))]:=by
 have w:=o.cach _ (au E);have hl4:=kR w;have d:=ar E;have F:=zA (nth h.S t) c w T;have hls:=o.lens.spans;have C:=o;have G:=NG h E;unfold WI at F;by_cases N:0<(nth (nth h.S t).Z c).length
 ·obtain⟨O,H⟩:=o.pop E ω N (M1 w c)
  have k:=jZ.nn o H;unfold smallA;rw[CE N]at F |-;refine⟨WM h t c,VE h t c,?_⟩;simp only;rw[O0 k];refine fM 86 [(186,[1,0]),(188,[2,0]),(189,[2,0]),(190,[2,0]),(4000062,[]),(5000077,[])] [(3,6,[31,32,33,34,35,36]),(8,10,[49,50,51,52,53,54,55,56,57,58])] [(0,0),(0,0),(0,0)] Tryz.func65 rfl (λu q=>?_) (.inr ⟨trivial,trivial,trivial⟩)
  repeat'(first|refine gP ?_|refine CF (fE d) ?_|refine CJ rfl (fE d) rfl ?_|refine Lq.one rfl rfl (aa d) rfl (Z1 rfl) rfl rfl ?_|refine CR rfl rfl (fE d) rfl (Z1 rfl) (G _) ?_|refine CR rfl rfl (aa d) rfl (Z1 rfl) rfl ?_)
  refine CL rfl rfl ?_;exact wC
 rw[CC N]at F;refine⟨_,oJ.own _,?_⟩;change aQ _ _ _ _ [.ptr (ip (smallA h t c).1),_,_] _ _;have e:smallA h t c=match pn h c with
  | some i=>(slotT h i,qz h i)
  | none=>if(ay h.o 1).2.2=false then(h,-1)
   else if(newK h.F (ay h.o 1).2.1).2=false then({h with F:=(newK h.F (ay h.o 1).2.1).1},-1)
   else jw (mL h c) (mM h):=by unfold smallA;exact CC N
 refine fM 86 [(186,[1,0]),(188,[2,0]),(189,[2,0]),(190,[2,0]),(4000062,[]),(5000077,[])] [(3,6,[31,32,33,34,35,36]),(8,10,[49,50,51,52,53,54,55,56,57,58])] [(0,0),(0,0),(0,0)] Tryz.func65 rfl (λu q=>?_) (.inr ⟨trivial,trivial,trivial⟩)
 repeat'(first|refine gP ?_|refine CF (fE d) ?_|refine CJ rfl (fE d) rfl ?_|refine Lq.one rfl rfl (aa d) rfl (Z1 rfl) rfl rfl ?_|refine CR rfl rfl (fE d) rfl (Z1 rfl) (G _) ?_)
 refine CK (ι:=Nat) (λi=>[(0,.H .box (ip h)),(2,.H .one [I ((c:Nat):Int)]),(42,.c0 0 6 [] none),(43,.H .one [I (h.J.length)]),(44,.H .one [I ((i:Nat):Int)])]) (λi=>i<=h.J.length/\∀j,j<i->p6 h c j=false) (λi=>h.J.length - i) (0) ?_ (⟨Z0 _,λj hj=>ω⟩) λi o=>?_
 ·exact wC
 obtain⟨hi1,J⟩:=o;by_cases K:i<h.J.length
 ·have n:=ar K
  by_cases X:(nth h.J i).d=c
  ·have L:=En h (nth h.J i).R
   cases P:fB h (nth h.J i).R with
   | true=>
    rw[P]at L
    repeat'(first|refine gB ?_|refine CH (L) ⟨⟨rfl,jf h⟩,⟨rfl,rfl⟩,trivial⟩ ?_)
    (refine CG (i+1) ⟨ω,lS (by unfold p6;rw[P];simp) J⟩ ω ?_;(exact wC))
   | false=>
    rw[P]at L;by_cases M:(iy h i).length=0
    ·have y:=BL h [] i C K M
     repeat'(first|refine gB ?_|refine CH (L) ⟨⟨rfl,jf h⟩,⟨rfl,rfl⟩,trivial⟩ ?_|refine Ch.pl ?_|refine CH (y) ⟨jf h,⟨rfl,rfl⟩,trivial⟩ ?_)
     (refine CG (i+1) ⟨ω,lS (by unfold p6;rw[X0 (by omega:¬0<(iy h i).length)];simp) J⟩ ω ?_;(exact wC))
    have y:=pP h [] i C K;unfold jw at y;rw[CC M,O0 (by omega:0<(iy h i).length)]at y;have U:pn h c=some i:=wM K (by unfold p6;rw[O0 X,P,O0 ω];rfl) J;rw[U]at e;simp only at e;obtain⟨O,H⟩:=C.slotT K (by omega:0<(iy h i).length);have k:=jZ.nn O H;rw[e];generalize slotT h i=g at y |-;generalize qz h i=a at y k |-;rw[O0 k]
    repeat'(first|refine gB ?_|refine CH (L) ⟨⟨rfl,jf h⟩,⟨rfl,rfl⟩,trivial⟩ ?_|refine Ch.lt ?_)
    refine CL rfl rfl ?_;exact wC
  refine ZB ?_
  (refine CG (i+1) ⟨ω,lS (by unfold p6;rw[X0 X];rfl) J⟩ ω ?_;(exact wC))
 obtain rfl:i=h.J.length:=ω
 have U:pn h c=none:=wV J;rw[U]at e;simp only at e;have l:=qK h 1 C r ⟨ω,ω⟩;rw[Pm]at l;rw[e];by_cases Q:(ay h.o 1).2.2=false
 ·rw[CE Q]at l |-
  refine ZE ?_
  refine CL rfl rfl ?_;exact wC
 rw[CC Q]at l |-;by_cases R:(newK h.F (ay h.o 1).2.1).2=false
 ·rw[CE R]at l |-
  refine ZE ?_
  refine CL rfl rfl ?_;exact wC
 rw[CC R]at l |-;obtain⟨Y,Z⟩:=H8 C T r Q R;have D:=x4 {h with F:=(newK h.F (ay h.o 1).2.1).1,o:=(ay h.o 1).1} (ay h.o 1).2.1 (c:Nat) (by show h.J.length<=4096;omega);have S:=pP (mL h c) [] (mM h) Y Z;have V:=ov C E T r;rw[e,CC Q,CC R]at V;have k:decide (0<(iy (mL h c) (mM h)).length)=decide (0<=(jw (mL h c) (mM h)).2):=by
  unfold jw;by_cases M:(iy (mL h c) (mM h)).length=0
  ·rw[CE M,X0 ω];rfl
  rw[CC M,O0 ω];obtain⟨O,H⟩:=Y.slotT Z ω;exact(O0 (jZ.nn O H)).symm
 rw[k]at S;change aQ _ _ _ _ [.ptr (ip (mL h c)),_] _ [I ((mM h:Nat):Int)]at D;generalize (ay h.o 1).2.1=p at l D;generalize mL h c=g at D S |-;generalize mM h=b at D S |-;generalize ({h with F:=(newK h.F p).1,o:=(ay h.o 1).1} : ac)=h1 at l D
 refine ZE ?_
 refine CL rfl rfl ?_;exact wC
def yN(h:ac)(size:Int)(e:bc h [])(l:9<=size/\size<=1000)(n:h.F.Calls<=90000):zzB 66 false [.ptr (ip h),.val none [I size]] [.ptr (ip (BU h size).1),.val none [I size]] (.tup [none,none]) [I (BU h size).2,B (decide (0<=(BU h size).2))]:=by
 have E:=e.lens.larges;have R:=e;have o:fF size=((gQ size:Nat):Int):=by unfold fF gQ;split<;>omega
 have F:1<=gQ size/\gQ size<=63:=by unfold gQ;omega
 have g:=rY size;rw[o]at g;have a:=qK h (gQ size) e n F;have c:=jb e (show(1:Int)<=(gQ size:Nat) by omega);unfold zP at a;unfold BU ef;generalize gQ size=N at *;generalize ay h.o (N:Nat)=r at a c |-;obtain⟨G,p,ok⟩:=r;simp only at a c |-;refine fM 56 [(189,[2,0]),(192,[1,0,1])] [(7,268,[39,40,41,42,43,44,45,46,47,48,49,50,0,1,2,3,4,5,6,7,8,9,10,11,12,1000,13,14,15])] [(0,0),(0,0)] Tryz.func66 rfl (λu q=>?_) (.inr ⟨trivial,trivial,trivial⟩);cases ok with
 | false=>
  rw[CE rfl]at a |-
  refine ZP ?_
  refine CL rfl rfl ?_;exact wC
 | true=>
  rw[CC (by simp)]at a |-;obtain⟨S,H,-,-⟩:=c rfl;have J:h.F.G.Q.K.length<=32:=e.lens.ents;have t:p+(N:Nat)<=(h.F.G.Q.K.length:Nat):=H;by_cases w:(newsK h.F p N).2=N
  ·rw[CE w]at a |-
   rw[O0 (show(0:Int)<=16*p by omega)];generalize (newsK h.F p N).1=k at a |-
   refine ZP ?_
   refine CK (ι:=Nat) (λm=>[(0,.H .box (ip {h with F:=k,o:=G})),(1,.H .one [I (size)]),(6,.H .one [I (p)]),(8,.H .one [I ((m:Nat):Int)])]) (λm=>m<=h.M.length/\∀(j:Nat)(z:aE),j<m->h.M[j]? = some z->Tq p z=false) (λm=>h.M.length - m) (0) ?_ (⟨Z0 _,λj z T=>ω⟩) λm K=>?_
   ·exact wC
   obtain⟨L,C⟩:=K;by_cases M:m<h.M.length/\(nth h.M m).R<p
   ·have d:=ar M.1
    repeat'(first|refine gP ?_|refine Bf.D (λb=>?_) (λb=>absurd b (by first|omega|(simp only at *;omega))))
    (refine CG (m+1) ⟨ω,eA d (X0 ω) C⟩ ω ?_;(exact wC))
   have i:jE (Tq p) h.M=m:=ng ω C λz l=>by
    have O:=(I3.1 l).1;have:z=nth h.M m:=(bq l).symm;subst this;exact O0 ω
   have d:m<h.M.length->h.M[m]? = some (nth h.M m):=λP=>ar P
   have Q:=Ft h.M m ⟨p,(N:Nat),size⟩ ω ω;rw[mT i]
   repeat'(first|refine gP ?_|refine Bf.D (λb=>?_) (λb=>absurd b (by first|omega|(simp only at *;omega)))|refine Bf.D (λb=>absurd b (by first|omega|(simp only at *;omega))) (λb=>?_)|refine Bf.D (λb=>?_) (λb=>?_)|refine CF (aa (d (by first|omega|(simp only at *;omega)))) ?_|refine CJ rfl (aa (d (by first|omega|(simp only at *;omega)))) rfl ?_)
   all_goals
    refine CL rfl ?_ ?_
    ·exact C1 (λy=>[I y,B true]) (show p*16=16*p by omega)
    exact wC
  rw[CC w]at a |-
  refine ZP ?_
  refine CL rfl rfl ?_;exact wC
def Hf(h:ac)(t size:Int)(hs:ac.sml h)(l:bc h [])(P:kM h=true):∃E,oJ (allocH h t size).1 E/\zzA 17 true [.val (some 24) (ac.enc .U h),.val none [I t],.val none [I size]] (.tup [some 24,none,none]) (Li (allocH h t size).1 E++[I (allocH h t size).2.1,I (allocH h t size).2.2]):=by
 have hl:=l.lens;have hlc:=hl.caches;have Q:=hl.objs;have r:=l.nums;unfold cx at r;rw[C0]at r;have R:=om l.objSz h.O.length (v4 _);change 0<=iw h/\iw h<=_ at R;have p:=AK h hs;have o:=f8 h hs;rw[P]at o;have q:=aN t 0 ((h.S.length:Int) - 1);have u:=aN size 1 1000;have F:=AE h l.objSz ω;have G:=uD size;unfold allocH;by_cases h1:1000000<=h.b
 ·rw[CE (.inl h1)]
  refine⟨_,oJ.own _,?_⟩;change ax _ _ _ _ _ (ip _++_);refine fP 108 [(65,[2,0,0]),(66,[2,0]),(67,[1,0,1])] [(8,6,[47,48,49,50,51,52])] Tryz.func17 rfl ?_ (.inl rfl)
  refine ZB ?_
  rfl
 by_cases h2:90000<h.F.Calls
 ·rw[CE (.inr h2)]
  refine⟨_,oJ.own _,?_⟩;change ax _ _ _ _ _ (ip _++_);refine fP 108 [(65,[2,0,0]),(66,[2,0]),(67,[1,0,1])] [(8,6,[47,48,49,50,51,52])] Tryz.func17 rfl ?_ (.inl rfl)
  repeat'(first|refine gB ?_|with_reducible refine Bf.D (λb=>?_) (λb=>?_))
  rfl
 rw[CC ω];by_cases B:¬(0<=t/\t<=h.S.length - 1)
 ·rw[CE B]
  rw[X0 B]at q;refine⟨_,oJ.own _,?_⟩;change ax _ _ _ _ _ (ip _++_);refine fP 108 [(65,[2,0,0]),(66,[2,0]),(67,[1,0,1])] [(8,6,[47,48,49,50,51,52])] Tryz.func17 rfl ?_ (.inl rfl)
  repeat'(first|refine gB ?_|with_reducible refine Bf.D (λb=>?_) (λb=>?_))
  rfl
 rw[CC B];replace B:=Decidable.not_not.1 B;rw[O0 B]at q;by_cases y:¬(1<=size/\size<=1000)
 ·rw[CE y]
  rw[X0 y]at u;refine⟨_,oJ.own _,?_⟩;change ax _ _ _ _ _ (ip _++_);refine fP 108 [(65,[2,0,0]),(66,[2,0]),(67,[1,0,1])] [(8,6,[47,48,49,50,51,52])] Tryz.func17 rfl ?_ (.inl rfl)
  repeat'(first|refine gB ?_|with_reducible refine Bf.D (λb=>?_) (λb=>?_))
  rfl
 rw[CC y];replace y:=Decidable.not_not.1 y;rw[O0 y]at u;by_cases h5:h.b1<iw h+size
 ·rw[CE h5]
  refine⟨_,oJ.own _,?_⟩;change ax _ _ _ _ _ (ip _++_);refine fP 108 [(65,[2,0,0]),(66,[2,0]),(67,[1,0,1])] [(8,6,[47,48,49,50,51,52])] Tryz.func17 rfl ?_ (.inl rfl)
  repeat'(first|refine gB ?_|with_reducible refine Bf.D (λb=>?_) (λb=>?_))
  rfl
 rw[CC h5];by_cases H:0<=aL size
 ·rw[CE H]
  have hc3:aL size<=3:=by unfold aL;repeat' split<;>omega
  obtain⟨T,rfl⟩:=Z3 B.1;obtain⟨K,hK⟩:=Z3 H;obtain⟨E,C,d⟩:=Al h T K l ω ω ω;have s:=ov (t:=T) (c:=K) l ω ω ω;rw[hK]at G |-;simp only[Y3];generalize smallA h T K=w at d s C |-;obtain⟨g,a⟩:=w;have e:g.b=h.b:=s.nx;simp only at d |-;by_cases J:a<0
  ·rw[CE J]
   rw[X0 ω]at d;refine⟨E,C,?_⟩;refine fP 108 [(65,[2,0,0]),(66,[2,0]),(67,[1,0,1])] [(8,6,[47,48,49,50,51,52])] Tryz.func17 rfl ?_ (.inl rfl)
   repeat'(first|refine gB ?_|with_reducible refine Bf.D (λb=>?_) (λb=>?_))
   rfl
  rw[CC J];rw[O0 ω]at d;obtain⟨k1,k2⟩:=s.yes (show(0:Int)<=a by omega);have S:g.O.length<=512:=k1.lens.objs;have U:1<=g.b/\g.b<=1000000:=ω
  refine⟨E,C,?_⟩;refine fP 108 [(65,[2,0,0]),(66,[2,0]),(67,[1,0,1])] [(8,6,[47,48,49,50,51,52])] Tryz.func17 rfl ?_ (.inl rfl)
  repeat'(first|refine gB ?_|with_reducible refine Bf.D (λb=>?_) (λb=>?_))
  refine CK (ι:=Nat) (λi=>[(1,.H .one [I ((T:Nat):Int)]),(2,.H .one [I (size)]),(3,.H .box (ac.enc .U h)),(6,.H .box (ux)),(9,.H .box (Li g E)),(10,.H .one [I (a)]),(13,.H .one [I ((i:Nat):Int)])]) (λi=>i<=g.O.length/\∀(j:Nat)(z:bu),j<i->g.O[j]? = some z->LO a z=false) (λi=>g.O.length - i) (0) ?_ (⟨Z0 _,λj z hj=>ω⟩) λi l=>?_
  ·exact wC
  obtain⟨V,L⟩:=l;by_cases W:i<g.O.length/\(nth g.O i).Addr<a
  ·have k:=ar W.1
   refine ZE ?_
   (refine CG (i+1) ⟨ω,eA k (X0 ω) L⟩ ω ?_;(exact wC))
  have n:jE (LO a) g.O=i:=ng ω L λz M=>by
   have X:=(I3.1 M).1;have:z=nth g.O i:=(bq M).symm;subst this;exact O0 ω
  have k:i<g.O.length->g.O[i]? = some (nth g.O i):=λY=>ar Y
  have Z:=Ba g.O i ⟨h.b,a,size,(T:Nat)⟩ ω ω;rw[show addO g a size (T:Nat) = {g with O:=g.O.take i++⟨g.b,a,size,(T:Nat)⟩::g.O.drop i,b:=g.b+1} by unfold addO;rw[mT n],e]
  repeat'(first|refine gE ?_|with_reducible (first|refine CF (aa (k ω)) ?_|refine Bf.D (λb=>?_) (λb=>?_))|refine CJ rfl (aa (k ω)) rfl ?_)
  all_goals
   rw[e];rfl
 rw[CC H];have N:9<=size:=by unfold aL at H;repeat' split at H<;>omega
 have d:=yN h size l ⟨N,y.2⟩ ω;rw[Ew t l ⟨N,y.2⟩];have hg:(BU h size).1.b=h.b/\(BU h size).1.O=h.O:=by
  unfold BU;split
  ·exact⟨rfl,rfl⟩
  split<;>exact⟨rfl,rfl⟩
 generalize BU h size=w at d hg |-;obtain⟨g,a⟩:=w;obtain⟨e,O⟩:=hg;simp only at d e O |-;have S:g.O.length<=512:=by rw[O];exact Q
 have U:1<=g.b/\g.b<=1000000:=ω
 by_cases J:a<0
 ·rw[CE J]
  rw[X0 ω]at d;refine⟨_,oJ.own _,?_⟩;change ax _ _ _ _ _ (ip _++_);refine fP 108 [(65,[2,0,0]),(66,[2,0]),(67,[1,0,1])] [(8,6,[47,48,49,50,51,52])] Tryz.func17 rfl ?_ (.inl rfl)
  repeat'(first|refine gB ?_|with_reducible refine Bf.D (λb=>?_) (λb=>?_))
  rfl
 rw[CC J];rw[O0 ω]at d;refine⟨_,oJ.own _,?_⟩;change ax _ _ _ _ _ (ip _++_);refine fP 108 [(65,[2,0,0]),(66,[2,0]),(67,[1,0,1])] [(8,6,[47,48,49,50,51,52])] Tryz.func17 rfl ?_ (.inl rfl)
 repeat'(first|refine gB ?_|with_reducible refine Bf.D (λb=>?_) (λb=>?_))
 refine CK (ι:=Nat) (λi=>[(1,.H .one [I (t)]),(2,.H .one [I (size)]),(3,.H .box (ac.enc .U h)),(6,.H .box (ux)),(9,.H .box (ip g)),(10,.H .one [I (a)]),(13,.H .one [I ((i:Nat):Int)])]) (λi=>i<=g.O.length/\∀(j:Nat)(z:bu),j<i->g.O[j]? = some z->LO a z=false) (λi=>g.O.length - i) (0) ?_ (⟨Z0 _,λj z hj=>ω⟩) λi l=>?_
 ·exact wC
 obtain⟨V,L⟩:=l;by_cases W:i<g.O.length/\(nth g.O i).Addr<a
 ·have k:=ar W.1
  refine ZE ?_
  (refine CG (i+1) ⟨ω,eA k (X0 ω) L⟩ ω ?_;(exact wC))
 have n:jE (LO a) g.O=i:=ng ω L λz M=>by
  have X:=(I3.1 M).1;have:z=nth g.O i:=(bq M).symm;subst this;exact O0 ω
 have k:i<g.O.length->g.O[i]? = some (nth g.O i):=λY=>ar Y
 have Z:=Ba g.O i ⟨h.b,a,size,t⟩ ω ω;rw[show addO g a size t = {g with O:=g.O.take i++⟨g.b,a,size,t⟩::g.O.drop i,b:=g.b+1} by unfold addO;rw[mT n],e]
 repeat'(first|refine gE ?_|with_reducible (first|refine CF (aa (k ω)) ?_|refine Bf.D (λb=>?_) (λb=>?_))|refine CJ rfl (aa (k ω)) rfl ?_)
 all_goals
  rw[e];rfl
def hO(h:ac)(t size:Int):ac × Int × Int:=if dh h=true then allocH h t size else(h,-1,5)
def Ls(d:ac.sml h)(b:ac.wf h)(t size:Int):ac.sml (hO h t size).1/\ac.wf (hO h t size).1:=by
 unfold hO;split
 ·rename_i e
  have f:=bc.of e;have a:=(lZ (t:=t) (size:=size) f).1;have c:fm (allocH h t size).1.F.u:=by
   have:=rF h t size;unfold rfs at this;rw[this];exact b.1.2.2
  exact⟨(a.fit c (lf.of a.mail).sml).sml,a.wf c⟩
 exact⟨d,b⟩
def cells1(xs:List Int)(i:Nat)(h:i<xs.length):[rI .U (nth xs i)]=((xs.map (rI .U)).take (i+1)).drop i:=by
 rw[List.drop_take,<-I5,iT h,show i+1 - i=1 by omega]
 rfl
def FN(k:ah)(j:cz)(c:aD k=true)(D:jX j=true):zzA 493 false [.val (some 5) (ah.enc .U k),.val (some 5) (cz.enc .U j)] (.tup [some 5,some 5]) (ah.enc .own (eE k j).1++cz.enc .own (eE k j).2):=by
 obtain⟨F,Y,Z,Q,j6⟩:=cW.1 D;have R:=mc F;have y:=bk c;have g:=gU k y;have l:=vo j (vD D);have b:=iG k y;rw[c,Bool.and_true]at b;have o:=zX j (vD D);rw[D]at o;have d:=fx k j.X.a3 y.1.2;have p:=fx k j.X.a0 y.1.2;have r:=dR k.G.Q j.X.a3 y.1.2;have t:=dR k.G.Q j.X.a0 y.1.2;have L:=(bo.1 (aC.1 c).2.2.1).2.2;have S:=(aZ.1 (aC.1 c).2.1).2.2.1;have q:jmay k j=false->eE k j=(k,j):=λe=>by unfold eE;rw[e];rfl
 refine fO 149 [(1,262,[11,12,13,14,15,16,0,1,2,3,4,5,6,1003,1004,1005,7]),(2,6,[17,18,19,20,8,9]),(3,33,[21,22,23,24,25,26,27,28,29,30,31,32,33,34,35,36,37,38,39,40,41,42,43,44,45,46,47,48,49,50,51,52,53]),(4,258,[56,57,0,1,2,1001,3]),(15,272,[82,83,84,85,86,87,88,89,90,91,92,93,94,81,95,96,0,1,2,3,4,5,6,7,8,9,10,11,12,13,14,15,16,1015]),(25,273,[123,124,125,126,127,128,129,130,131,132,133,134,135,122,136,137,138,0,1,2,3,4,5,6,7,8,9,10,11,12,13,14,15,16,17,1015]),(29,258,[147,148,0,1,2,1001,3])] Tryz.func493 rfl ?_ (.inr (aJ (Cc _) (cz.enc_fr _)));by_cases u:k.Calls=100000
 ·rw[X0 (λn=>n u)]at b
  rw[q (by rw[<-S7,iq];exact λh=>h.1.2 u)]
  refine ZP ?_
  rfl
 rw[O0 u]at b;by_cases B:(af k.G.Q j.X.a3).j=0
 ·rw[X0 (λn=>n B)]at d
  rw[q (by rw[<-S7,iq];exact λh=>h.2.2.1 B)]
  refine ZP ?_
  rfl
 rw[O0 B]at d;by_cases w:(af k.G.Q j.X.a0).j=0
 ·rw[X0 (λn=>n w)]at p
  rw[q (by rw[<-S7,iq];exact λh=>h.2.2.2.1 w)]
  refine ZP ?_
  rfl
 rw[O0 w]at p;by_cases G:(af k.G.Q j.X.a3).e=(af k.G.Q j.X.a0).e
 ·rw[q (by rw[<-S7,iq];exact λh=>h.2.2.2.2 G)]
  refine ZB ?_
  rfl
 have T:jmay k j=true:=iq.2 ⟨⟨c,u⟩,D,B,w,G⟩;rw[show eE k j=jstep k j by unfold eE;rw[T];rfl];have H:j.X.a0≠j.X.a3:=λe=>G (by rw[e])
 unfold jstep;by_cases M:j.b0=0
 ·rw[CE M]
  have a:=sE k j.X.a0 1 c u w (.inl rfl);cases e:(fI k j.X.a0 1).2<;>rw[e]at a
  all_goals
   refine ZB ?_
   rfl
 rw[CC M];by_cases N:j.b0=1
 ·rw[CE N]
  by_cases E:j.b=j.X.T.length
  ·rw[CE E]
   refine ZB ?_
   rfl
  rw[CC E];obtain⟨n,C⟩:=Z3 Q;have a:=Kb k j.X.a0 j.X.a3 (nth j.X.T j.b.toNat) c u w B (fU F ω);rw[C,Y3]at a;have J:n<j.X.T.length:=ω
  rw[show nth j.X.T j.b.toNat=nth j.X.T n by rw[C];rfl]
  repeat'(first|refine gB ?_|refine Sl.mid (rows':=[rI .U (nth j.X.T n)]) n (n+1) C ω ω (by rw[O1];omega) (aO λ_=>rfl) (cells1 _ _ J) ?_)
  rfl
 rw[CC N];by_cases O:j.b0=2
 ·rw[CE O]
  have a:=Ju k j.X.a0 j.X.a3 c u w B H;cases e:(sJ k j.X.a0 j.X.a3).2<;>rw[e]at a
  all_goals
   refine ZB ?_
   rfl
 rw[CC O];by_cases K:j.b0=3
 ·rw[CE K]
  obtain⟨p1,p2,p3,U,p5⟩:=bK c B;by_cases E:0<j.b
  ·rw[CE E]
   have P:=fU F (i:=(j.b - 1).toNat) ω;have V:=ar (xs:=j.X.T) (i:=(j.b - 1).toNat) ω;have W:0<=j.X.a3*16+nth j.X.T (j.b - 1).toNat/\j.X.a3*16+nth j.X.T (j.b - 1).toNat<512:=ω
   have X:(j.X.a3*16+nth j.X.T (j.b - 1).toNat) / 16=j.X.a3:=ω
   have a:=L9 k.G (j.X.a3*16+nth j.X.T (j.b - 1).toNat) 0 (oe c) y.1 W ω (λ_=>by rw[X];exact⟨U,ω,row16 c (f:=bF k j.X.a3) (by unfold bF;omega)⟩);generalize (gg k.G (j.X.a3*16+nth j.X.T (j.b - 1).toNat) 0).1=m at a |-;generalize (gg k.G (j.X.a3*16+nth j.X.T (j.b - 1).toNat) 0).2=e at a
   repeat'(first|refine gB ?_|refine CO ω (aa V) ?_)
   rfl
  rw[CC E];have a:=sE k j.X.a0 2 c u w (.inr rfl);cases e:(fI k j.X.a0 2).2<;>rw[e]at a
  all_goals
   refine ZB ?_
   first|rfl|(rw[<-K];rfl)
 rw[CC K]
 refine ZB ?_
 rfl
def VQ(h:ac):Int:=(eE h.F h.Y).2.b0
def B4(h:ac)(l:bc h [])(n:h.q=true)(o:ac.sml h)(t:h.F.Calls<=99000):zzA 387 false [.val (some 24) (ac.enc .U h)] (.tup [some 24,none,none]) (ac.enc .own (mStep h)++[I (VQ h),B true]):=by
 obtain⟨q,-,-⟩:=l.job n;have i:=nr h o;have c:=f8 h o;rw[gW,l.to]at c;have j:=FN h.F h.Y l.ker q;have a:=aJ (b:=[I (VQ h),B true]) (ac.enc_fr (mStep h)) ⟨trivial,trivial,trivial⟩;unfold VQ mStep at a |-;generalize eE h.F h.Y=r at j a |-;have d:(ac.enc .U h)=(ac.enc .U h).set 18 (B true):=by rw[<-n];rfl
 rw[d];rw[d]at i c;by_cases e:r.2.b0=4
 ·rw[CE (show over r.2=true from O0 (.inl e)),CE (show over r.2=true from O0 (.inl e))]at a |-
  refine fO 51 [(3,260,[23,24,25,26,0,1,2,3,4,1001,1002,1003,5,6])] Tryz.func387 rfl ?_ (.inr a)
  repeat'((conv=>whnf);first|with_reducible (first|refine Lm ?_|refine Wm ω ?_|refine dF ω (λg=>?_)|refine eT ω (λg=>?_)|refine eF ω (λg=>?_)|refine Bn ?_|refine jV.wk rfl ?_)|refine Bt ?_|refine Bu ?_|refine CD ?_|refine CB (i) ?_|refine CB (c) ?_|refine CB (j) ?_|refine CD ?_)
  rw[e];exact wC
 by_cases k:r.2.b0=5
 ·rw[CE (show over r.2=true from O0 (.inr k)),CE (show over r.2=true from O0 (.inr k))]at a |-
  refine fO 51 [(3,260,[23,24,25,26,0,1,2,3,4,1001,1002,1003,5,6])] Tryz.func387 rfl ?_ (.inr a)
  repeat'((conv=>whnf);first|with_reducible (first|refine Lm ?_|refine Wm ω ?_|refine dF ω (λg=>?_)|refine eT ω (λg=>?_)|refine eF ω (λg=>?_)|refine Bn ?_|refine jV.wk rfl ?_)|refine Bt ?_|refine Bu ?_|refine CD ?_|refine CB (i) ?_|refine CB (c) ?_|refine CB (j) ?_|refine CD ?_)
  rw[k];exact wC
 have p:¬over r.2=true:=by unfold over;simp[e,k]
 rw[CC p,CC p]at a |-;refine fO 51 [(3,260,[23,24,25,26,0,1,2,3,4,1001,1002,1003,5,6])] Tryz.func387 rfl ?_ (.inr a)
 refine ZB ?_
 rw[n]
 rfl
def NV(a:(f9 h i).1.q=true):f9 h (i+1)=(mStep (f9 h i).1,m9 (f9 h i).1):=by
 show(if(f9 h i).1.q=true then _ else _)=_;rw[CE a]
def sY{t:Nat}{h:ac} : ∀k,(flushN t h k).1.F.u=h.F.u
 | 0=>rfl
 | k+1=>((fy (nth (nth (flushN t h k).1.S t).Z k) (spilt (flushN t h k).1 t k)).2.2.2.2.2.2.2).trans (sY k)
def xz(h:ac):Nat->ac
 | 0=>h
 | t+1=>(flushN t (xz h t) 4).1
structure WL(h g:ac):Prop where
 inv:bc g []
 caches:g.S.length=h.S.length
 calls:g.F.Calls=h.F.Calls
 ref:g.F.u=h.F.u
 mail:g.w=h.w
def Ll{h:ac}(a:bc h []):∀t,t<=h.S.length->WL h (xz h t)
 | 0,_=>⟨a,rfl,rfl,rfl,rfl⟩
 | t+1,f=>by
  have s:=Ll a t ω;obtain⟨b,c,d,g,e,i,j⟩:=ge s.inv (t:=t) (by rw[s.caches];omega) (k:=4) (v4 4);exact⟨b,c.trans s.caches,d.trans s.calls,(sY 4).trans s.ref,e.trans s.mail⟩
def Eh(h:ac)(most:Int):Bool:=dh h&&(decide (h.F.Calls<=90000)&&decide (0<=most/\most<=20))
def relieve(h:ac)(most:Int):ac × Int:=
 if Eh h most=true then((ic (xz h h.S.length) most.toNat).1,cq h.F.G.W - cq (ic (xz h h.S.length) most.toNat).1.F.G.W) else(h,0)
def rQ(f:aU)(h:f.a1.length<=32):0<=cq f/\cq f<=32:=by
 have a:∀n:Nat,0<=gz f.a1 n/\gz f.a1 n<=n:=λn=>by
  induction n with
  | zero=>exact⟨Y6 _,Y6 _⟩
  | succ n b=>simp only[gz];split<;>omega
 have:=a f.a1.length;unfold cq;split<;>omega
def Nb:List MA->Bool
 | []=>true
 | .ptr _::_=>false
 | _::A=>Nb A
def M8:MA->MA
 | .mut ag cs=>.mut ag (List.replicate cs.length .x)
 | m=>m
def B6:Nat->List MA->List (Nat × AV)
 | _,[]=>[]
 | i,.val a cs::A=>(i,.H (kY a) cs)::B6 (i+1) A
 | i,.mut a cs::A=>(i,.H (kY a) cs)::B6 (i+1) A
 | i,.ptr cs::A=>(i,.H .box cs)::B6 (i+1) A
def UH:MA->AV
 | .val a cs=>.H (kY a) cs
 | .mut a cs=>.H (kY a) cs
 | .ptr cs=>.H .box cs
def Wc(TE:Nat->Option TI)(c:List ResultVar)(k:Kd)(rcs:List C):Exit->(Nat->AV)->Prop:=λe F=>
 match e with
 | .normal=>resA TE F c [] λa b=>aS (hC a) k b rcs True
 | .ret=>resA TE F c [] λa b=>aS (hC a) k b rcs True
 | _=>False
section
variable{P:Program}{w0 w w1:World}{M S0 S:am}{N:fN}{φ:Nat->am}{F:Nat->AV}{a:Act}{TE:Nat->Option TI}
def Ds:∀{A:List MA}{vs:List Value}{V:Nat->am}(i:Nat),MO w S V A vs->∀t,(lay (B6 i A) t=.dead)\/(∃m v,i<=t/\vs[t - i]? = some v/\A[t - i]? = some m/\lay (B6 i A) t=UH m/\qT w S (V (t - i)) m v)
 | [],_,_,i,_,t=>.inl rfl
 | m::A,[],_,i,h,t=>h.elim
 | m::A,v::vs,V,i,h,t=>by
  have c:lay (B6 i (m::A)) t=bif Nat.beq t i then UH m else lay (B6 (i+1) A) t:=by cases m<;>rfl
  rw[c];cases a:Nat.beq t i with
  | true=>
   have:=z3 a;subst this;exact .inr ⟨m,v,v4 _,by simp,by simp,rfl,by rw[Nat.sub_self];exact h.1⟩
  | false=>
   have d:t≠i:=λe=>by subst e;rw[Nat.beq_refl]at a;cases a
   rcases Ds (i+1) h.2 t with b|⟨f,g,b,j,k,l,n⟩
   ·exact .inl b
   refine .inr ⟨f,g,ω,?_,?_,l,?_⟩
   ·rw[show t - i=(t - (i+1))+1 by omega];simpa using j
   ·rw[show t - i=(t - (i+1))+1 by omega];simpa using k
   rw[show t - i=(t - (i+1))+1 by omega];exact n
def y2{d:World}{S':am} : ∀{A:List MA}{vs:List Value}{V:Nat->am},Nb A=true->MO w S V A vs->BJ d S' (λ_=>NO) (A.map M8) vs
 | [],[],_,_,_=>trivial
 | [],_::_,_,_,h=>h.elim
 | _::_,[],_,_,h=>h.elim
 | .ptr _::_,_::_,_,a,_=>by cases a
 | .val ag cs::A,v::vs,V,a,h=>⟨trivial,y2 (A:=A) a h.2⟩
 | .mut ag cs::A,v::vs,V,a,h=>by
  refine⟨?_,y2 (A:=A) a h.2⟩;obtain⟨e,f,g⟩:=b9.celF (show b9 w S (V 0) ag cs v from h.1);refine⟨by rw[Y4];exact e,celF v,f,λ_=>NO,λj c i=>?_,λ_ _ _ _ h=>h.elim,λ_ _ _ _ _ _ _ h=>h.elim⟩;obtain⟨b,rfl⟩:=List.getElem?_replicate.symm.trans i |> λh=>by
   rw[<-List.getElem?_replicate]at h;have b:=(I3.1 h).1;rw[Y4]at b;rw[List.getElem?_replicate,CE b]at h;exact CN b (Option.some.inj h).symm
  exact .x _ _ (g.one b)
def NU{f : Nat}{g : Func}{c : Code}{A : List MA}{k : Kd}{rcs : List C}{mo : List (Nat × List Nat)}{n : Nat}(L : ∀t i, TE t = some i -> iO P t i)(hf : P.funcs[f]? = some g)(hn : (g.name == "runtime.NumGoroutine") = false)(B:g.body=some c){ck:Nat->Array Oper->Bool}{D:fN->Nat->Array Oper->((Nat->AV)->Prop)->(Nat->AV)->Prop}(hD:∀N,wi P N ck (D N))(hc:gw ck c=true)(hN:A.length+(g.ntmps - A.length)=n)(U:Nb A=true)(W:i6 rcs)(hp:aw P TE ⟨n,[],mo⟩ (D ⟨n,[],mo⟩) c (Wc TE g.results.toList k rcs) (lay (B6 0 A))):aQ P f false A (A.map M8) k rcs:=by
 refine⟨⟨g,hf,hn,by rw[B];rfl⟩,λw S V p hS hV Z hA=>?_⟩;have hlen:=Gu hA;refine calls_of_wp hf B ?_;have htv:∀t v,p[t]? = some v->tvs {tmps:=p.toArray++Array.replicate (g.ntmps - p.toArray.size) undef,defers:=[]} t=v:=λt v E=>by
  have hlt:=(I3.1 E).1;simp only[tvs,t9];rw[Array.getElem?_append_left (by simpa using hlt)];simp only[List.getElem?_toArray];rw[E];rfl
 have hst:St w (λb o=>∃i,V i b o) S ⟨n,[],mo⟩ (lay (B6 0 A)) {tmps:=p.toArray++Array.replicate (g.ntmps - p.toArray.size) undef,defers:=[]} w:=by
  refine⟨S,V,λt=>?_,Z,λt b o h=>(hV t b o h).2,λt b o h=>⟨(hV t b o h).1,.inr ⟨t,h⟩⟩,λ_ _ h=>h,λb o h=>⟨hS b o h,.inl h⟩,Ce _ _,by simp;omega,rfl,λq hq=>by simp at hq⟩;rcases Ds 0 hA t with h1|⟨m,v,-,E,h2',h3,H⟩
  ·rw[h1];trivial
  rw[h3];rw[Nat.sub_zero]at E H;rw[htv t v E];cases m with
  | val y r=>exact(b9.mono (show b9 w S NO y r v from H) (λ_ _ h=>h) (λ_ _ h=>h.elim)).slot
  | «mut» y r=>exact b9.slot (show b9 w S (V t) y r v from H)
  | ptr r=>exact H
 refine iS L (hD _) c hc _ _ _ _ w hp hst λe F' J d he hs'=>?_
 obtain⟨S',φ',h⟩:=hs';have fin:resA TE F' g.results.toList [] (λsh r=>aS (hC sh) k r rcs True)->J.defers=[]/\∃v,(results g J.tmps).run P d=.ok v d/\(∃v',Ending.returned v=.returned v'/\bA (λb o=>∃i,V i b o) w d/\∃(X:am)(K:Nat->am)(M:am),
     (∀b o,X b o->(∃i,V i b o)\/(b<d.heap.size/\w.heap.size<=b))/\(∀i b o,K i b o->(∃i,V i b o)\/(b<d.heap.size/\w.heap.size<=b))/\
     (∀b o,M b o->(false=true/\S b o)\/(∃i,V i b o)\/(b<d.heap.size/\w.heap.size<=b))/\
     (∀i i',i≠i'->∀b o,K i b o->¬K i' b o)/\(∀i b o,X b o->¬K i b o)/\(∀b o,X b o->¬M b o)/\(∀i b o,K i b o->¬M b o)/\
     fR d NO k rcs.length v'/\cN d M X rcs (cw d k v')/\BJ d (λb o=>S b o\/M b o) K (A.map M8) p):=by
  intro hr;obtain⟨shs,r,a,u',O,Q,u,hln,R,hcells,l,T⟩:=h.resA L hr;obtain⟨rfl,rfl,-⟩:=O.out;refine⟨h.defers,?_⟩;have G:(results g J.tmps).run P d=.ok (if h:a.toArray.size=1 then a.toArray[0] else .tuple a.toArray) d:=by
   have e:results g J.tmps=(do let p <-g.results.mapM (D2 J.tmps);pure (if h:p.size=1 then p[0] else .tuple p)):=by
    unfold results
    congr 1
   rw[e,<-Array.toArray_toList (xs:=g.results),List.mapM_toArray];simp only[Sem.run_bind,Sem.run_map,Q,Result.andThen_ok,Sem.run_pure]
  have hex:∀t b o,φ' t b o->(∃i,V i b o)\/(b<d.heap.size/\w.heap.size<=b):=λt b o B=>(h.ex t b o B).2.elim (λh'=>.inr ⟨(h.ex t b o B).1,h'⟩) .inl
  refine⟨_,G,_,rfl,h.old,λb o=>∃t,t∉([]:List Nat)/\φ' t b o,λ_=>NO,NO,λb o ⟨t,_,B⟩=>hex t b o B,λ_ _ _ h=>h.elim,λ_ _ h=>h.elim,λ_ _ _ _ _ h=>h.elim,λ_ _ _ _ h=>h.elim,λ_ _ _ h=>h.elim,λ_ _ _ h=>h.elim,?_⟩;have hk:fR d NO (hC shs) r.length (if h:a.toArray.size=1 then a.toArray[0] else .tuple a.toArray)/\cN d S' (λb o=>∃t,t∉([]:List Nat)/\φ' t b o) r (cw d (hC shs) (if h:a.toArray.size=1 then a.toArray[0] else .tuple a.toArray)):=by
   match shs,u,l,R with
   | [],u,_,R=>
    cases a with
    | cons _ _=>exact u.elim
    | nil=>
     have:r=[]:=X9 (by simpa[wF] using R.symm);subst this;exact⟨⟨_,rfl,trivial,rfl⟩,cN.nil _ _ _ _⟩
   | [y],_,l,_=>
    obtain⟨v,rfl,hv⟩:=l y rfl;have:=hv.slot (F:=F') (tv:=tvs J);obtain⟨X1,Y,h1,E,h3,H,h5⟩:=this;refine⟨?_,h5.mono (λ_ _ h=>h) E⟩;cases y<;>exact H
   | y::ag2::sh,u,_,R=>
    have hsz:¬a.toArray.size=1:=by
     match a,u with
     | [],u=>simp
     | [v],u=>cases y<;>cases ag2<;>exact u.2.elim
     | _::_::_,_=>simp
    rw[dif_neg hsz];refine⟨⟨_,rfl,u,R⟩,T.congr λj hj=>?_⟩;simp only[cw,hC,mA,hcells];simp[List.getD,hj]
  exact⟨hk.1,(hk.2.fresh W).mono (λ_ _ h=>h.elim) (λ_ _ h=>h),y2 U hA⟩
 cases e with
 | normal=>exact fin he
 | ret=>exact fin he
 | _=>exact he.elim
end
def VZ{mo : List (Nat × List Nat)}{a : Func}{c : Code}{A : List MA}{k : Kd}{rcs : List C}(e : Tryz.prog.funcs[f]? = some a)(g : (a.name == "runtime.NumGoroutine") = false)(h : a.body = some c){tb : List (Nat × Nat × List Nat)}(i : gw (nB tb) c = true)(j:A.length+(a.ntmps - A.length)=n)(b:Nb A=true)(d:i6 rcs)(l:aw Tryz.prog TE ⟨n,[],mo⟩ (DF Tryz.prog TE ⟨n,[],mo⟩ tb) c (Wc TE a.results.toList k rcs) (lay (B6 0 A))):zzB f false A (A.map M8) k rcs:=
 NU mg e g h (λN=>o9 mg pC N tb) i j b d l
def Nr{S Y:am}{t:List C}(d:cN w S Y (ac.enc .own h++t) u):cN w S Y (gm h++t) u:=by
 obtain⟨f,b,e,g⟩:=d;refine⟨f,λj c a=>?_,e,g⟩;have i:gm h++t=(((ac.enc .own h++t).set 6 (oS h)).set 7 (oL h)).set 8 (oO h):=rfl;rw[i]at a;by_cases k:j=8
 ·subst k
  have:c=oO h:=by simpa[ac.enc] using a.symm
  rw[this];exact te (b 8 _ rfl)
 by_cases l:j=7
 ·subst l
  have:c=oL h:=by simpa[ac.enc] using a.symm
  rw[this];exact te (b 7 _ rfl)
 by_cases n:j=6
 ·subst n
  have:c=oS h:=by simpa[ac.enc] using a.symm
  rw[this];exact te (b 6 _ rfl)
 rw[List.getElem?_set_ne ω,List.getElem?_set_ne ω,List.getElem?_set_ne ω]at a;exact b j c a
def ax.E{sh:Bool}{A:List RA}{k:Kd}{t:List C}(c:ax P f sh A k (ac.enc .own h++t)):ax P f sh A k (gm h++t):=by
 obtain⟨a,b⟩:=c;refine⟨a,λw S d g i=>(b w S d g i).mono λe w1 j=>?_⟩;obtain⟨v,l,n,X,o,p,q,r,u,y⟩:=j;exact⟨v,l,n,X,o,p,q,r,u,Nr y⟩
def Uq(a:h.q=true):gm h=(gm h).set 18 (B true):=by rw[<-a];rfl
def ML(a:h.q=false):gm h=(gm h).set 18 (B false):=by rw[<-a];rfl
def GJ(h:ac)(o:bc h [])(p:fm h.F.u)(c:aP.sml h.w)(u:h.F.Calls<=98000):zzB 248 false [.mut (some 24) (gm h)] [.mut (some 24) (List.replicate 24 .x)] (.tup [some 24,none]) (gm (fin h).1++[B (fin h).2]):=by
 refine VZ (n:=29) (mo:=[]) (tb:=[]) Tryz.func248 (by kernel_rfl) rfl (by kernel_rfl) (by rfl) rfl (aJ (mU _) ⟨trivial,trivial⟩) ?_
 refine ZP ?_
 refine CK (ι:=Nat) (λi=>[(1,.H .box (gm (f9 h i).1)),(2,.H .box ux),(4,.H .one [I ((i:Nat):Int)])]) (λi=>i<=100/\(f9 h i).2=false) (λi=>100 - i) (0) ?_ (⟨Z0 _,rfl⟩) λi o=>?_
 ·exact wC
 obtain⟨e,g⟩:=o;have s:=xZ (by assumption) p c i;by_cases w:i<100
 ·cases b:(f9 h i).1.q with
  | false=>
   have j:=PF b e;rw[ML b]
   refine ZE ?_
   refine CL rfl ?_ trivial;rw[j,g,ML b]
   rfl
  | true=>
   have a:=NV b;have y:=s.calls;have q:=(B4 (f9 h i).1 (s.inv g) b s.fit.sml ω).E;have k:=mP (f9 h i).1;rw[Uq b]at k |-;cases d:m9 (f9 h i).1 with
   | true=>
    rw[d]at a;have t:VQ (f9 h i).1=4:=of_decide_eq_true d;have j:=PF (h:=h) (i:=i+1) (by rw[a];have r:=xZ (by assumption) p c (i+1);rw[a]at r;exact r.done rfl) ω;rw[j,a]
    repeat'(first|refine gB ?_|refine CH (q) ⟨⟨rfl,k⟩,trivial⟩ ?_)
    exact CL rfl rfl trivial
   | false=>
    rw[d]at a;have t:¬VQ (f9 h i).1=4:=of_decide_eq_false d;have l:mStep (f9 h i).1=(f9 h (i+1)).1:=by rw[a]
    repeat'(first|refine gB ?_|refine CH (q) ⟨⟨rfl,k⟩,trivial⟩ ?_)
    (refine CG (i+1) ⟨ω,by rw[a]⟩ ω ?_)
    rw[<-l];exact wC
 obtain rfl:i=100:=ω
 refine ZE ?_
 refine CL rfl ?_ trivial;rw[<-g]
 rfl
def Lw(rows:List (List C)):Vf (oE rows)=oE rows:=by cases rows<;>rfl
def Xh(h:ac):WF (.mut (some 24) (gm h))=.mut (some 24) (gm h):=by
 show MA.mut (some 24) (cE h (Vf (oS h)) (Vf (oL h)) (Vf (oO h)))=_;unfold oS oL oO;rw[Lw,Lw,Lw]
 rfl
def wH(h:ac)(b:bc h [])(c:fm h.F.u)(a:aP.sml h.w)(d:h.F.Calls<=98000):zzB 248 false [WF (.mut (some 24) (gm h))] [.mut (some 24) (List.replicate 24 .x)] (.tup [some 24,none]) (gm (fin h).1++[B (fin h).2]):=by
 rw[Xh];exact GJ h b c a d
def P4(h:ac)(most:Nat)(g:bc h [])(c:fm h.F.u)(b:aP.sml h.w)(C:h.F.Calls<=90000)(D:most<=20):zzA 92 false [.val (some 24) (ac.enc .U h),.val none [I (most:Nat)]] (.tup [some 24,none]) (gm (ic h most).1++[I ((ic h most).2:Nat)]):=by
 have d:=g.fit c b;have u:=mi h d.sml;have l:=f8 h d.sml;rw[gW,g.to]at l;have n:=wH h g c b ω;have o:=aN ((most:Nat):Int) 0 20;rw[O0 ω]at o;refine fP 58 [(248,[1])] [] Tryz.func92 rfl ?_ (.inr (aJ (mU _) ⟨trivial,trivial⟩));cases p:(fin h).2<;>rw[p]at n
 all_goals
  have q:ic h 0=((fin h).1,(fin h).2.toNat):=rfl;rw[p]at q
  refine ZE ?_
  refine CK (ι:=Nat) (λi=>[(1,.H .one [I (((most:Nat):Int) - (i:Nat))]),(4,.H .box ux),(6,.H .box (gm (ic h i).1)),(7,.H .one [I ((ic h i).2:Nat)])]) (λi=>i<=most) (λi=>most - i) 0 ?_ (Z0 _) λi w=>?_
  ·rw[q]
   exact wC
  have s:=u9 g c b i;have E:=s.calls;have F:=s.cnt;obtain⟨G,r,y,B⟩:=Er s.fit (by rw[s.ref];exact c) (by rw[s.mail];exact b);by_cases H:i<most
  ·have j:=zc (ic h i).1 s.fit.sml
   have a:ic h (i+1)=if(meshSt (ic h i).1).2=true then((fin (meshSt (ic h i).1).1).1,(ic h i).2+(fin (meshSt (ic h i).1).1).2.toNat) else((meshSt (ic h i).1).1,(ic h i).2):=rfl
   cases e:(meshSt (ic h i).1).2 with
   | false=>
    rw[e]at j a;rw[CC (by simp)]at a
    repeat'(first|refine gE ?_|refine CH (j) ⟨⟨rfl,mP _⟩,trivial⟩ ?_)
    (refine CG (i+1) ω ω ?_)
    rw[a];exact wC
   | true=>
    rw[e]at j a;rw[CE rfl]at a;have t:=wH (meshSt (ic h i).1).1 (B e) (by rw[r,s.ref];exact c) (by rw[y,s.mail];exact b) (by rw[r];omega);cases k:(fin (meshSt (ic h i).1).1).2<;>rw[k]at t a
    all_goals
     repeat'(first|refine gE ?_|refine CH (j) ⟨⟨rfl,mP _⟩,trivial⟩ ?_)
     (refine CG (i+1) ω ω ?_)
     rw[a];exact wC
  obtain rfl:i=most:=ω
  refine ZE ?_
  rfl
def NW(h:ac)(most:Int)(c:ac.sml h)(B:ac.wf h):zzA 29 false [.val (some 24) (ac.enc .U h),.val none [I most]] (.tup [some 24,none]) (gm (relieve h most).1++[I (relieve h most).2]):=by
 have d:=mi h c;have a:=f8 h c;rw[gW]at a;have i:=aN most 0 20;refine fO 56 [(10,268,[44,45,46,47,48,49,50,51,52,53,54,55,0,1,2,3,4,5,6,7,8,9,10,11,12,1011,13])] Tryz.func29 rfl ?_ (.inr (aJ (mU _) ⟨trivial,trivial⟩));unfold relieve;cases e:Eh h most with
 | false=>
  rw[CC (by simp)];unfold Eh at e;cases j:dh h<;>rw[j]at a e
  ·refine ZP ?_
   rfl
  by_cases k:h.F.Calls<=90000
  ·rw[O0 k,Bool.true_and,Bool.true_and]at e
   rw[e]at i
   refine ZE ?_
   rfl
  refine ZE ?_
  rfl
 | true=>
  rw[CE rfl];unfold Eh at e;simp only[I0,C0]at e;obtain⟨j,k,q,C⟩:=e;rw[j]at a;rw[O0 ⟨q,C⟩]at i;have l:=bc.of j;have n:fm h.F.u:=B.1.2.2;have b:aP.sml h.w:=c.2.2.2.2.2.2.1;obtain⟨m,rfl⟩:=Z3 q;simp only[Y3];have D:=l.lens.caches
  refine ZE ?_
  refine CK (ι:=Nat) (λt=>[(1,.H .one [I ((m:Nat):Int)]),(2,.H .box (ac.enc .U h)),(4,.H .box ux),(6,.H .box (gm (xz h t))),(27,.H .one [I ((h.S.length:Nat):Int)]),(28,.H .one [I ((t:Nat):Int)])]) (λt=>t<=h.S.length) (λt=>h.S.length - t) (0) ?_ (Z0 _) λt E=>?_
  ·exact wC
  have s:=Ll l t E;have o:=s.inv.fit (by rw[s.ref];exact n) (by rw[s.mail];exact b);by_cases F:t<h.S.length
  ·have r:=Aa (xz h t) t o.sml s.inv.to (by rw[s.calls];omega) (by rw[s.caches];exact F)
   obtain⟨g,u⟩ : ∃g,flushN t (xz h t) 4=g:=⟨_,rfl⟩
   have G:xz h (t+1)=g.1:=C1 Prod.fst u;rw[u]at r
   repeat'(first|refine gE ?_|refine CH (r) ⟨⟨rfl,mP _⟩,⟨rfl,rfl⟩,trivial⟩ ?_)
   (refine CG (t+1) ω ω ?_)
   rw[G];exact wC
  obtain rfl:t=h.S.length:=ω
  have p:=P4 (xz h h.S.length) m s.inv (by rw[s.ref];exact n) (by rw[s.mail];exact b) (by rw[s.calls];exact k) ω;have w:=u9 s.inv (by rw[s.ref];exact n) (by rw[s.mail];exact b) m;have H:=pN h.F.G.W c.1.1.1;have y:=pN (ic (xz h h.S.length) m).1.F.G.W w.fit.sml.1.1.1;have K:=rQ h.F.G.W l.lens.used;have J:=rQ (ic (xz h h.S.length) m).1.F.G.W (by have:=aZ.1 (aC.1 w.fit.ker).2.1;omega);generalize ic (xz h h.S.length) m=g at p y J |-;generalize xz h h.S.length=f at p |-
  repeat'(first|refine gE ?_|refine CH (p) ⟨⟨rfl,mP _⟩,⟨rfl,rfl⟩,trivial⟩ ?_|refine CH (y) ⟨⟨rfl,aU.enc_fz _⟩,trivial⟩ ?_)
  rfl
variable{m:Int}
def Lg(a:ac.sml h)(b:ac.wf h)(e:Eh h m=true):QG (xz h h.S.length) m.toNat (ic (xz h h.S.length) m.toNat)/\(xz h h.S.length).w=h.w:=by
 unfold Eh at e;simp only[I0,C0]at e;have c:=bc.of e.1;have s:=Ll c h.S.length (v4 _);exact⟨u9 s.inv (by rw[s.ref];exact b.1.2.2) (by rw[s.mail];exact a.2.2.2.2.2.2.1) _,s.mail⟩
def Je(a:ac.sml h)(b:ac.wf h):ac.sml (relieve h m).1:=by
 unfold relieve;split
 ·rename_i e;exact(Lg a b e).1.fit.sml
 exact a
def se(h:ac)(t n:Int):ac × Int × Int:=if(hO h t n).2.2=4 then hO (relieve (hO h t n).1 3).1 t n else hO h t n
def qw(h:ac)(t size:Int)(a:ac.sml h):∃b,oJ (hO h t size).1 b/\zzA 17 true [.val (some 24) (ac.enc .U h),.val none [I t],.val none [I size]] (.tup [some 24,none,none]) (Li (hO h t size).1 b++[I (hO h t size).2.1,I (hO h t size).2.2]):=by
 unfold hO;cases e:dh h with
 | true=>
  rw[CE rfl];exact Hf h t size a (bc.of e) (by rw[gW];exact e)
 | false=>
  rw[CC (by simp)];have d:=AK h a;have c:=f8 h a;rw[gW,e]at c;refine⟨_,oJ.own _,?_⟩;change ax _ _ _ _ _ (ip _++_);refine fP 108 [(65,[2,0,0]),(66,[2,0]),(67,[1,0,1])] [(8,6,[47,48,49,50,51,52])] Tryz.func17 rfl ?_ (.inl rfl)
  refine ZP ?_
  rfl
def Jq(h:ac)(t n:Int)(B:ac.sml h)(D:ac.wf h):∃i,oJ (se h t n).1 i/\zzA 27 true [.val (some 24) (ac.enc .U h),.val none [I t],.val none [I n]] (.tup [some 24,none,none]) (Li (se h t n).1 i++[I (se h t n).2.1,I (se h t n).2.2]):=by
 obtain⟨i,b,l⟩:=qw h t n B;obtain⟨o,p⟩:=Ls B D t n;unfold se;generalize hO h t n=r at *;obtain⟨g,a,c⟩:=r;simp only at l o p |-;by_cases e:c=4
 ·subst e
  rw[CE rfl];have u:=(NW g 3 o p).fzR;have C:=Je (m:=3) o p;generalize relieve g 3=q at *;obtain⟨j,k⟩:=q;simp only at u C |-;obtain⟨cc2,d,E⟩:=qw j t n C;generalize hO j t n=r2 at *;have w:=Fk b;have y:dM (gm j++[I k])=ac.enc .U j++[I k]:=by rw[bW,Z7,<-bW,mP];rfl
  rw[y]at u;refine⟨cc2,d,?_⟩;refine fO 37 [] Tryz.func27 rfl ?_ (.inl rfl)
  repeat'(first|refine gB ?_|refine Cl.sh l rfl ?_|refine CH (u) ⟨⟨rfl,w⟩,⟨rfl,rfl⟩,trivial⟩ ?_|refine Cl.sh E rfl ?_)
  rfl
 rw[CC e];refine⟨i,b,?_⟩;refine fO 37 [] Tryz.func27 rfl ?_ (.inl rfl)
 repeat'(first|refine gB ?_|refine Cl.sh l rfl ?_)
 rfl
def cl(k:ah)(f c:Nat):Int:=nth (nth k.G.W.T f) c
structure At(k:ah)(a:Int)(f c:Nat):Prop where
 m:(af k.G.Q (a / 16)).j≠0
 f:(af k.G.Q (a / 16)).e=f
 c:a % 16=c
variable{a:Int}{k:ah}
def At.cell(h:At k a f c):fQ k a=cl k f c:=by
 unfold fQ cl;rw[h.f,h.c,Y3,Y3]
def At.mk'(c:aD k=true)(b:(af k.G.Q (a / 16)).j≠0):At k a (df k a) (a % 16).toNat:=by
 obtain⟨-,-,-,d,-⟩:=bK c b;exact⟨b,by unfold df;omega,ω⟩
def At.uniq{d:Nat}(h:At k a f c)(h':At k a b d):f=b/\c=d:=by
 have e:=h.f;have g:=h'.f;have i:=h.c;have j:=h'.c;omega
def PS(h:ac)(a:Int)(f c:Nat):Prop:=
 (∃s∈h.J,eS s a/\(af (tbl h) s.R).e=f/\(c:Int) / csz s.d=cT s a/\c<16)\/
 ∃l∈h.M,a=16*l.R/\∃b:Int,16*l.R<=b/\b<16*(l.R+l.a4)/\At h.F b f c
def bc.pe{E:List Int}(a:bc h E){s:aA}(b:s∈h.J):af (tbl h) s.R=nth (tbl h).K s.R.toNat:=by
 obtain⟨c,d,-⟩:=a.mapped b;unfold af;rw[CE ⟨c,d⟩]
def vh{l:aE}(a:bR l=true){b:Int}(h1:16*l.R<=b)(c:b<16*(l.R+l.a4)):∃k:Nat,k<l.a4.toNat/\b / 16=l.R+(k:Nat):=by
 have:=aW a;exact⟨(b / 16 - l.R).toNat,ω,ω⟩
def mY{E:List Int}(e:bc h E){l:aE}(i:l∈h.M){b:Int}(h1:16*l.R<=b)(o:b<16*(l.R+l.a4))(j:At h.F b f c){q:Int}(n:(af (tbl h) q).j≠0)(g:(af (tbl h) q).e=f):q=b / 16:=by
 obtain⟨k,p,u⟩:=vh (e.L.lok l i) h1 o;obtain⟨w,y,r,-⟩:=bK e.ker j.m;obtain⟨A,B,t,-⟩:=bK e.ker n;have d:=j.f;rw[r]at d;have a:=n;change (af h.F.G.Q q).j≠0 at a;change (af h.F.G.Q q).e=f at g;rw[t]at a g;have:=e.pg.one l i (b / 16).toNat (dK.2 ⟨k,p,ω⟩) q.toNat (by show q.toNat<h.F.G.Q.K.length;omega) a (by show _=(nth h.F.G.Q.K _).e;rw[d];exact g);omega
def xQ{E:List Int}(d:bc h E){b:Int}(T:PS h a f c)(U:PS h b f c):a=b:=by
 have G:∀s∈h.J,(af (tbl h) s.R).e=f->∀l∈h.M,∀x:Int,16*l.R<=x->x<16*(l.R+l.a4)->At h.F x f c->False:=λs g V l o x H J W=>by
  obtain⟨K,t,q⟩:=d.mapped g;obtain⟨k,w,X⟩:=vh (d.L.lok l o) H J;have:=mY d o H J W (by rw[d.pe g];exact q) V;exact d.L.dis s g l o k w ω
 rcases T with⟨s,g,M,N,O,s4⟩|⟨l,o,Y,x,A,B,P⟩<;>rcases U with⟨u,r,Q,R,S,u4⟩|⟨m,p,K,y,t,q,C⟩
 ·by_cases e:s.R=u.R
  ·obtain⟨i,D,rfl⟩:=aR g
   obtain⟨j,F,rfl⟩:=aR r;have:=cX (f:=(·.R)) d.L.nd D F e;subst this;exact yI (d.L.sok _ g) M.2.2.1 Q.2.2.1 (O.symm.trans S)
  exfalso;have p:=d.pg.mesh s g u r e (by rw[<-d.pe g,<-d.pe r,N,R]);unfold meshable at p;simp only[I0,C0]at p;obtain⟨⟨o1,o2⟩,Z,-,e3⟩:=p;have b1:=(fw _ _).1 M.2.2.2;have b2:=(fw _ _).1 Q.2.2.2;have hn:(a - 16*s.R) / csz s.d=(b - 16*u.R) / csz u.d:=by
   have z1:cT s a=cT u b:=by rw[<-O,<-S,Z]
   exact z1
  have:=C1 (λn=>Nat.testBit n ((a - 16*s.R) / csz s.d).toNat) e3;simp only[Nat.testBit_and,Nat.zero_testBit]at this;rw[b1.2.2.2,hn,b2.2.2.2]at this;cases this
 ·exact(G s g N m p y t q C).elim
 ·exact(G u r R l o x A B P).elim
 have hq:=mY d o A B P C.m C.f;obtain⟨i,D,rfl⟩:=aR o;obtain⟨j,F,rfl⟩:=aR p;obtain⟨k,w,X⟩:=vh (d.L.lok _ o) A B;obtain⟨k',k3,k4⟩:=vh (d.L.lok _ p) t q;have:=d.L.one i j D F k k' w k3 ω;subst this;rw[Y,K]
def sf(h:ac)(o:bu)(f c:Nat):Prop:=∃j:Int,0<=j/\j<o.y/\At h.F (o.Addr+j) f c
variable{o:bu}
def kH{E:List Int}(i:bc h E)(B:o∈h.O)(C:sf h o f c):PS h o.Addr f c:=by
 obtain⟨k,J,K,a⟩:=C;rcases i.oow o B with⟨s,r,t,D⟩|⟨l,u,F,M⟩
 ·have b:=i.L.sok s r
  have j:=aI b;have d:=cg j.2.2;have p:=t;obtain⟨N,O,w,-⟩:=t;have g:o.y<=csz s.d:=by
   have P:=jq (n:=o.y) ω;rw[D];have:o.y=1\/o.y=2\/o.y=3\/o.y=4\/o.y=5\/o.y=6\/o.y=7\/o.y=8:=ω
   rcases this with e|e|e|e|e|e|e|e<;>rw[e]<;>decide
  have G:(o.Addr+k) / 16=s.R:=by rcases d with e|e|e|e<;>rw[e]at w g<;>omega
  have y:=a.f;have H:=a.c;rw[G]at y;refine .inl ⟨s,r,p,y,?_,ω⟩;unfold cT;rcases d with e|e|e|e<;>rw[e]at w g |-<;>omega
 have q:=i.L.lok l u;have A:=q;unfold bR at A;rw[C0]at A;exact .inr ⟨l,u,F,o.Addr+k,ω,ω,a⟩
def MS{E:List Int}(a:bc h E){u:bu}(b:o∈h.O)(d:u∈h.O)(h1:sf h o f c)(g:sf h u f c):o=u:=by
 have e:=xQ a (kH a b h1) (kH a d g);obtain⟨i,k,rfl⟩:=aR b;obtain⟨j,l,rfl⟩:=aR d;rw[cX (f:=(·.Addr)) (dw a.osr) k l e]
def JX(h:ac)(f c:Nat):Prop:=h.q=true/\(af (tbl h) h.Y.X.a3).e=f/\(c:Int)∈h.Y.X.T.take h.Y.b.toNat
structure CI(h:ac):Prop where
 z:∀f c:Nat,c<16->cl h.F f c≠0->(∃o∈h.O,sf h o f c)\/JX h f c
 jv:h.q=true->∀c:Nat,(c:Int)∈h.Y.X.T.take h.Y.b.toNat->cl h.F (bF h.F h.Y.X.a3) c=cl h.F (bF h.F h.Y.X.a0) c
 jd:h.q=true->∀s∈h.J,s.R=h.Y.X.a3->∀c:Nat,c<16->(c:Int)∈h.Y.X.T->bf s.a9 ((c:Int) / csz s.d)=false
 jc:h.q=true->∀s∈h.J,s.R=h.Y.X.a0->∀c:Nat,c<16->bf s.a9 ((c:Int) / csz s.d)=true->(c:Int)∈h.Y.X.T
 jn:h.q=true->(h.Y.b0=0->h.Y.b=0)/\(h.Y.b0=2->h.Y.b=h.Y.X.T.length)
 m1:∀q:Nat,(nth (tbl h).K q).j=1->h.q=true/\(q:Int)=h.Y.X.a0/\h.Y.b0≠0
 m2:h.q=true->h.Y.b0≠0->(af (tbl h) h.Y.X.a0).j=1
variable{h':ac}
theorem CI.keep(j:CI h)(g:h'.Y=h.Y)(k:h'.q=h.q)(r:∀q:Nat,(nth (tbl h').K q).j=1->(nth (tbl h).K q).j=1)(l:h.q=true->af (tbl h') h.Y.X.a3=af (tbl h) h.Y.X.a3/\af (tbl h') h.Y.X.a0=af (tbl h) h.Y.X.a0)(t:∀f c:Nat,c<16->cl h'.F f c≠0->cl h.F f c=cl h'.F f c\/∃o∈h'.O,sf h' o f c)(n:∀o∈h.O,∀f c:Nat,c<16->sf h o f c->cl h'.F f c≠0->∃F∈h'.O,sf h' F f c)(u:h.q=true->∀c:Nat,(c:Int)∈h.Y.X.T.take h.Y.b.toNat->cl h'.F (bF h.F h.Y.X.a3) c=cl h.F (bF h.F h.Y.X.a3) c/\cl h'.F (bF h.F h.Y.X.a0) c=cl h.F (bF h.F h.Y.X.a0) c)(p:h.q=true->∀d∈h'.J,d.R=h.Y.X.a3\/d.R=h.Y.X.a0->∃s∈h.J,s.R=d.R/\s.d=d.d/\∀i,bf d.a9 i=true->bf s.a9 i=true):CI h' where
 z f c b w:=by
  rcases t f c b w with e|e
  ·rcases j.z f c b (by rw[e];exact w) with⟨o,G,y⟩|⟨E,H,J⟩
   ·exact .inl (n o G f c b y w)
   exact .inr ⟨by rw[k];exact E,by rw[g,(l E).1];exact H,by rw[g];exact J⟩
  exact .inl e
 jv a c h2:=by
  rw[k]at a;rw[g]at h2 |-;obtain⟨K,L⟩:=u a c h2;obtain⟨M,N⟩:=l a;have O:bF h'.F h.Y.X.a3=bF h.F h.Y.X.a3:=C1 (λe:bm=>e.e.toNat) M;have P:bF h'.F h.Y.X.a0=bF h.F h.Y.X.a0:=C1 (λe:bm=>e.e.toNat) N;rw[O,P,K,L];exact j.jv a c h2
 jd a d hs' hp c b hcm:=by
  rw[k]at a;rw[g]at hp hcm;obtain⟨s,A,B,C,D⟩:=p a d hs' (.inl hp);have:=j.jd a s A (B.trans hp) c b hcm;rw[<-C];rw[<-S7]at this |-;exact λe=>this (D _ e)
 jc a d hs' hp c b hb:=by
  rw[k]at a;rw[g]at hp |-;obtain⟨s,A,B,C,D⟩:=p a d hs' (.inr hp);exact j.jc a s A (B.trans hp) c b (by rw[C];exact D _ hb)
 jn a:=by rw[k]at a;rw[g];exact j.jn a
 m1 q Q:=by rw[k,g];exact j.m1 q (r q Q)
 m2 a h2:=by
  rw[k]at a;rw[g]at h2 |-;rw[(l a).2];exact j.m2 a h2
def Kp(h h':ac):Prop:=∀o∈h'.O,o∈h.O/\∀j:Int,0<=j->j<o.y->fQ h'.F (o.Addr+j)=fQ h.F (o.Addr+j)
def Kp.refl(h:ac):Kp h h:=λ_ a=>⟨a,λ_ _ _=>rfl⟩
def Ca:type_of% @Kp.refl:=@Kp.refl
def Kp.trans{h1 c:ac}(a:Kp h h1)(b:Kp h1 c):Kp h c:=λo f=>by
 obtain⟨g,i⟩:=b o f;obtain⟨k,l⟩:=a o g;exact⟨k,λj d e=>(i j d e).trans (l j d e)⟩
def bc.jobM{E:List Int}(c:bc h E)(f:h.q=true):(af (tbl h) h.Y.X.a3).j≠0/\(af (tbl h) h.Y.X.a0).j≠0:=by
 obtain⟨-,⟨a,d,g⟩,b,e,i⟩:=c.job f;rw[<-g,<-i,c.pe d,c.pe e];exact⟨(c.mapped d).2.2,(c.mapped e).2.2⟩
variable{p:Int}
def m8(a:aD k=true)(b:(af k.G.Q p).j≠0):(af k.G.Q p).e=(bF k p:Nat):=by
 obtain⟨-,-,-,c,-⟩:=bK a b;unfold bF;omega
def CI.kern{E:List Int}(A:bc h E)(M:CI h)(n:∀o∈h'.O,o∈h.O)(N:h'.Y=h.Y)(B:h'.q=h.q)(b:∀o∈h.O,o∉h'.O->∀f c:Nat,c<16->sf h o f c->cl h'.F f c=0)(F:∀q:Nat,(nth (tbl h').K q).j=1->(nth (tbl h).K q).j=1)(d:h.q=true->af (tbl h') h.Y.X.a3=af (tbl h) h.Y.X.a3/\af (tbl h') h.Y.X.a0=af (tbl h) h.Y.X.a0)(r:∀o∈h'.O,∀j:Int,0<=j->j<o.y->af (tbl h') ((o.Addr+j) / 16)=af (tbl h) ((o.Addr+j) / 16))(t:∀f c:Nat,cl h'.F f c=cl h.F f c\/(cl h'.F f c=0/\∀p:Int,(af (tbl h') p).j≠0->(af (tbl h') p).e≠f))(G:h.q=true->∀u∈h'.J,u.R=h.Y.X.a3\/u.R=h.Y.X.a0->∃s∈h.J,s.R=u.R/\s.d=u.d/\∀i,bf u.a9 i=true->bf s.a9 i=true):CI h'/\Kp h h':=by
 have cov:∀o∈h'.O,∀f c:Nat,sf h o f c->sf h' o f c:=λo O f c ⟨j,w,C,l⟩=>by
  have e:=r o O j w C;unfold tbl at e;exact⟨j,w,C,by rw[e];exact l.m,by rw[e];exact l.f,l.c⟩
 have H:∀{p:Int},af (tbl h') p=af (tbl h) p->(af (tbl h) p).j≠0->∀c,cl h'.F (bF h.F p) c=cl h.F (bF h.F p) c:=fun {p} e B c=>by
  rcases t (bF h.F p) c with g|⟨-,g⟩
  ·exact g
  refine absurd ?_ (g p (by rw[e];exact B));rw[e];exact m8 A.ker B
 refine⟨M.keep N B F d (λf c _ J=>.inl ?_) (λo a f c K y J=>?_) (λD c _=>⟨H (d D).1 (A.jobM D).1 c,H (d D).2 (A.jobM D).2 c⟩) G,λo a=>⟨n o a,λj w C=>?_⟩⟩
 ·rcases t f c with g|g
  ·exact g.symm
  exact absurd g.1 J
 ·by_cases e:o∈h'.O
  ·exact⟨o,e,cov o e f c y⟩
  exact absurd (b o a e f c K y) J
 have e:=r o a j w C;have L:=(db A (n o a) (k:=j) ⟨w,ω⟩).1;have:=H e L ((o.Addr+j) % 16).toNat;unfold fQ;unfold tbl at e;rw[e];exact this
def yP{E:List Int}(d:bc h E)(y:PS h a f c){s:aA}(n:s∈h.J)(g:pV (tbl h) s.R)(r:(af (tbl h) s.R).e=f):eS s a/\(c:Int) / csz s.d=cT s a/\a / 16=s.R:=by
 obtain⟨K,M,A⟩:=d.mapped n;rcases y with⟨u,o,p,B,C,N⟩|⟨l,q,-,b,t,w,D⟩
 ·obtain⟨O,P,F⟩:=d.mapped o
  have:=g u.R.toNat F (by rw[<-d.pe o,<-d.pe n,B,r]);obtain⟨i,G,rfl⟩:=aR n;obtain⟨j,H,rfl⟩:=aR o;have e:=cX (f:=(·.R)) d.L.nd G H ω;subst e;exact⟨p,C,by have:=p.1;have:=p.2.1;omega⟩
 exfalso;obtain⟨k,J,Q⟩:=vh (d.L.lok l q) t w;have:=mY d q t w D (by rw[d.pe n];exact A) r;exact d.L.dis s n l q k J ω
def tP{E:List Int}(n:bc h E)(d:JI h)(o:CI h)(e:h.q=true)(p:PS h a f c)(g:c<16)(i:(c:Int)∈h.Y.X.T):(af (tbl h) h.Y.X.a3).e≠f:=λq=>by
 obtain⟨s,k,b,-,j,-,-⟩:=d.sp e;obtain⟨r,t,-⟩:=yP n p k (by rw[j];exact d.sk e) (by rw[j];exact q);have:=o.jd e s k j c g i;rw[t]at this;have l:=r.2.2.2;unfold cT at this;rw[this]at l;cases l
def He{E:List Int}(n:bc h E)(d:JI h)(j:CI h)(g:h.q=true)(o:PS h a f c)(k:(af (tbl h) (a / 16)).j≠1)(e:(c:Int)∈h.Y.X.T.take h.Y.b.toNat):(af (tbl h) h.Y.X.a0).e≠f:=λp=>by
 obtain⟨-,-,b,q,-,i,-⟩:=d.sp g;obtain⟨-,-,r⟩:=yP n o q (by rw[i];exact d.sm g) (by rw[i];exact p);by_cases l:h.Y.b0=0
 ·rw[(j.jn g).1 l]at e;cases e
 have:=j.m2 g l;rw[r,i]at k;exact k this
def Eb(n c:Nat):nth (List.replicate n (0:Int)) c=0:=by
 unfold nth;rw[X3,List.getElem?_replicate];split<;>rfl
structure KL(k k':ah)(lo n:Int):Prop where
 out:∀q:Int,¬(lo<=q/\q<lo+n)->af k'.G.Q q=af k.G.Q q
 ins:∀q:Int,lo<=q->q<lo+n->(af k'.G.Q q).j=0
 cel:∀f c:Nat,cl k' f c=cl k f c\/(cl k' f c=0/\∀p:Int,(af k'.G.Q p).j≠0->(af k'.G.Q p).e≠f)
def Mp(k:ah)(F:Int)(f c:Nat):cl (fY k F) f c=cl k f c\/(cl (fY k F) f c=0/\F.toNat=f/\(pagesOn k.G.Q F).length=0):=by
 unfold fY;split
 ·rename_i e
  unfold cl;simp only[bB];split
  ·rename_i a;exact .inr ⟨Eb _ _,a.1,e⟩
  exact .inl rfl
 exact .inl rfl
def me{t:aM}(h:(af t p).j≠0):0<=p/\p<t.K.length/\af t p=nth t.K p.toNat:=by
 unfold af at h |-;split
 ·rename_i e;exact⟨e.1,e.2,rfl⟩
 rename_i e;rw[CC e]at h;exact absurd rfl h
def Qu{t:aM}{F:Int}(h:(pagesOn t F).length=0)(a:(af t p).j≠0):(af t p).e≠F:=λe=>by
 obtain⟨c,d,b⟩:=me a;rw[b]at a e;have:0<(pagesOn t F).length:=du.2 ⟨p.toNat,ω,a,e⟩;omega
def KL.refl(k:ah)(lo:Int):KL k k lo 0:=⟨λ_ _=>rfl,λq a b=>ω,λ_ _=>.inl rfl⟩
def KL.unmap(h:aD k=true)(j:0<=p/\p<k.G.Q.K.length):KL k (co k p) p 1:=by
 have b:=sR h j;have d:=(kv k p).1;have i:∀q:Int,af (co k p).G.Q q=if q=p then⟨0,0⟩ else af k.G.Q q:=λq=>by
  unfold af;rw[d];by_cases e:0<=q/\q<k.G.Q.K.length
  ·rw[CE e,CE e,b q.toNat]
   by_cases a:q=p
   ·rw[CE a,CE ω]
   rw[CC a,CC ω]
  rw[CC e,CC e];by_cases a:q=p
  ·rw[CE a]
  rw[CC a]
 refine⟨λq g=>by rw[i,CC ω],λq t u=>by rw[i,CE ω],λf c=>?_⟩;unfold co;split
 ·exact .inl rfl
 rename_i l;rcases Mp (lI k p) (af k.G.Q p).e f c with e|⟨n,a,o⟩
 ·exact .inl e
 refine .inr ⟨n,λq g=>?_⟩;rw[(oq _ _).1]at g |-;have:=Qu o g;have r:=m8 h l;unfold bF at r;rw[<-a];omega
variable{lo:Int}
def KL.trans{i j:ah}{n:Int}(t:0<=n/\0<=m)(a:KL k i lo n)(b:KL i j (lo+n) m):KL k j lo (n+m):=by
 refine⟨λq u=>(b.out q ω).trans (a.out q ω),λq l w=>?_,λf c=>?_⟩
 ·by_cases e:lo+n<=q
  ·exact b.ins q e ω
  rw[b.out q ω];exact a.ins q l ω
 rcases b.cel f c with e|e
 ·rcases a.cel f c with g|⟨o,r⟩
  ·exact .inl (e.trans g)
  refine .inr ⟨e.trans o,λp d=>?_⟩;by_cases h:lo+n<=p/\p<lo+n+m
  ·exact absurd (b.ins p h.1 h.2) d
  rw[b.out p h]at d |-;exact r p d
 exact .inr e
def KL.unmN{k:ah}(a:aD k=true){p:Int}(b:0<=p):∀n:Nat,p+n<=k.G.Q.K.length->KL k (unmN k p n) p n
 | 0,_=>KL.refl k p
 | n+1,h=>by
  have c:=KL.unmN a b n ω;have d:=KL.unmap (io a p n) (p:=p+n) ⟨ω,by rw[(eZ k p n).1];omega⟩;have:=KL.trans ⟨ω,ω⟩ c d;rw[show((n:Nat):Int)+1=((n+1:Nat):Int) by omega]at this;exact this
def KL.md{b:ah}{n:Int}(a:KL k b lo n)(f:b.G.Q.K.length=k.G.Q.K.length)(q:Nat)(h:(nth b.G.Q.K q).j≠0):nth b.G.Q.K q=nth k.G.Q.K q:=by
 have g:=rc h;have c:af b.G.Q (q:Nat)=nth b.G.Q.K q:=by unfold af;rw[CE ⟨ω,ω⟩];rfl
 have d:af k.G.Q (q:Nat)=nth k.G.Q.K q:=by unfold af;rw[CE ⟨ω,ω⟩];rfl
 by_cases e:lo<=q/\(q:Int)<lo+n
 ·rw[<-c,a.ins q e.1 e.2]at h;exact absurd rfl h
 rw[<-c,<-d,a.out q e]
def Gj{n:Int}(h:0<=aL n):n<=csz (aL n):=by
 have a:=jq h;have:n=1\/n=2\/n=3\/n=4\/n=5\/n=6\/n=7\/n=8:=ω
 rcases this with e|e|e|e|e|e|e|e<;>rw[e]<;>decide
def RW{E:List Int}(k:bc h E)(p:o∈h.O)(g:¬aL o.y<0)(i:sf h o f c):f=df h.F o.Addr/\(o.Addr % 16).toNat<=c/\c<(o.Addr % 16).toNat+(csz (aL o.y)).toNat:=by
 obtain⟨⟨s,q,r,t⟩,-⟩:=(eH k p).2 g;obtain⟨A,B,l,-⟩:=r;have a:=Gj (n:=o.y) ω;have b:=cg (aI (k.L.sok s q)).2.2;rw[<-t]at a |-;obtain⟨j,C,D,d⟩:=i;have u:=d.c;have w:=d.f;have y:(o.Addr+j) / 16=o.Addr / 16:=by rcases b with e|e|e|e<;>rw[e]at l a<;>omega
 rw[y]at w;refine⟨by unfold df;omega,?_⟩;rcases b with e|e|e|e<;>rw[e]at l a |-<;>omega
def CI.clrS{h:ac}{E:List Int}(n:bc h E)(p:CI h){i:Nat}{a:Int}(g:i<h.J.length)(l:eS (nth h.J i) a):CI (clrS h i a):=by
 have b:=n.L.sok _ (au g);refine p.keep rfl rfl (λq h=>h) (λ_=>⟨rfl,rfl⟩) (λf c _ _=>.inl rfl) (λo r f c _ d _=>⟨o,r,d⟩) (λ_ c _=>⟨rfl,rfl⟩) λ_ w e _=>?_
 rcases eL e with rfl|⟨j,t,-,rfl⟩
 ·refine⟨_,au g,rfl,rfl,λk u=>((J0 (dU b) (r9 b ⟨l.1,l.2.1⟩) k).1 u).1⟩
 exact⟨_,au t,rfl,rfl,λ_ h=>h⟩
variable{j:Int}
def QU{E:List Int}(a:bc h E)(p:o∈h.O)(h1:0<=j)(J:j<o.y){s:aA}(r:s∈h.J)(T:(o.Addr+j) / 16=s.R):eS s o.Addr:=by
 obtain⟨U,V,W⟩:=a.mapped r;have t:=(db a p (k:=j) ⟨h1,ω⟩).1;have w:=At.mk' a.ker t;rcases kH a p ⟨j,h1,J,w⟩ with⟨u,K,G,-,-,-⟩|⟨l,b,X,-⟩
 ·rcases a.oow o p with⟨v,q,c,M⟩|⟨l,b,N,O⟩
  ·have y:=a.L.sok v q
   have A:=aI y;have B:=cg A.2.2;have C:=c;obtain⟨Y,Z,P,-⟩:=c;have D:o.y<=csz v.d:=by
    have hb:=jq (n:=o.y) ω;rw[M];have:o.y=1\/o.y=2\/o.y=3\/o.y=4\/o.y=5\/o.y=6\/o.y=7\/o.y=8:=ω
    rcases this with e|e|e|e|e|e|e|e<;>rw[e]<;>decide
   have Q:(o.Addr+j) / 16=v.R:=by rcases B with e|e|e|e<;>rw[e]at P D<;>omega
   obtain⟨i,R,rfl⟩:=aR r;obtain⟨k,S,rfl⟩:=aR q;have:=cX (f:=(·.R)) a.L.nd R S (by show(nth h.J i).R=(nth h.J k).R;omega);subst this;exact C
  exfalso;have:=aW (a.L.lok l b);exact a.L.dis u K l b 0 ω (by have:=G.1;have:=G.2.1;omega)
 exfalso;have H:=a.L.lok l b;unfold bR at H;rw[C0]at H;rcases a.oow o p with⟨v,q,c,-⟩|⟨F,d,N,O⟩
 ·exact a.L.dis v q l b 0 ω (by have:=c.1;have:=c.2.1;omega)
 have g:=a.L.lok F d;unfold bR at g;rw[C0]at g;exact a.L.dis s r F d ((o.Addr+j) / 16 - F.R).toNat ω ω
def CI.giveP{h:ac}{E:List Int}(b:bc h E)(f:CI h){i:Nat}(e:i<h.J.length)(g:(nth h.J i).a9=0)(c:fB h (nth h.J i).R=false):CI (giveP h i)/\Kp h (giveP h i):=by
 obtain⟨k,l,A⟩:=b.mapped (au e);have kl:=KL.unmap b.ker (p:=(nth h.J i).R) ⟨k,l⟩;refine CI.kern b f (λo a=>a) rfl rfl (λo a n=>absurd a n) (λq r=>?_) (λt=>?_) (λo a j u w=>?_) kl.cel (λ_ B d _=>?_)
 ·have:=kl.md (kv _ _).1 q (by show(nth (tbl (Ab.giveP h i)).K q).j≠0;omega)
  show(nth h.F.G.Q.K q).j=1;rw[<-this];exact r
 ·obtain⟨C,D⟩:=AA c t
  exact⟨kl.out _ ω,kl.out _ ω⟩
 ·refine kl.out _ λF=>?_
  exact xU g _ (QU b a u w (au e) ω)
 obtain⟨j,y,-,rfl⟩:=dz.1 d;exact⟨_,au y,rfl,rfl,λ_ h=>h⟩
def CI.freeS{h:ac}{E:List Int}{a:Int}{i:Nat}(c:bc h (a::E))(j:CI h)(b:i<h.J.length)(d:eS (nth h.J i) a):CI (freeS h i a)/\Kp h (freeS h i a):=by
 have k:=c.give b d;have f:=CI.clrS c j b d;unfold Ab.freeS;split
 ·rename_i e
  have g:nth (Ab.clrS h i a).J i=ly (nth h.J i) (cT (nth h.J i) a):=by unfold Ab.clrS;simp only[bB,true_and];rw[CE b]
  obtain⟨l,n⟩:=CI.giveP (h:=Ab.clrS h i a) k f (i:=i) (by unfold Ab.clrS;simp only[I2];exact b) (by rw[g];exact e.1) (by rw[g];exact e.2);exact⟨l,n⟩
 exact⟨f,Ca h⟩
def CI.freeA{h:ac}{E:List Int}{a:Int}(b:bc h (a::E))(c:CI h):CI (freeA h a)/\Kp h (freeA h a):=by
 obtain⟨d,e,-⟩:=b.at (b.hin a (X2 ..));exact CI.freeS b c d e
def CI.recyc{h:ac}{E:List Int}{a:Int}{t:Nat}(c:bc h (a::E))(b:CI h):CI (recyc t h a)/\Kp h (recyc t h a):=by
 unfold Ab.recyc;split
 ·exact⟨⟨b.z,b.jv,b.jd,b.jc,b.jn,b.m1,b.m2⟩,Ca h⟩
 exact CI.freeA c b
def CI.recycs{t:Nat}{E:List Int} : ∀{az:List Int}{h:ac},bc h (az++E)->t<h.S.length->CI h->CI (recycs t h az)/\Kp h (recycs t h az)
 | [],h,_,_,b=>⟨b,Ca h⟩
 | a::az,h,c,d,b=>by
  obtain⟨e,f⟩:=CI.recyc (t:=t) c b;obtain⟨g,i⟩:=CI.recycs (az:=az) (h:=Ab.recyc t h a) (c.recyc d) (by rw[(pj t h a).1];exact d) e;exact⟨g,f.trans i⟩
def CI.freeAs{E:List Int} : ∀{az:List Int}{h:ac},bc h (az++E)->CI h->CI (freeAs h az)/\Kp h (freeAs h az)
 | [],h,_,b=>⟨b,Ca h⟩
 | a::az,h,c,b=>by
  obtain⟨d,e⟩:=CI.freeA c b;obtain⟨f,g⟩:=CI.freeAs (az:=az) (h:=Ab.freeA h a) c.freeA d;exact⟨f,e.trans g⟩
def CI.flushN{t:Nat}{h:ac}(c:bc h [])(d:t<h.S.length)(e:CI h):∀{k:Nat},k<=4->CI (flushN t h k).1/\Kp h (flushN t h k).1
 | 0,_=>⟨e,Ca h⟩
 | k+1,p=>by
  obtain⟨a,g⟩:=CI.flushN c d e (k:=k) ω;obtain⟨f,q,-⟩:=ge c d (k:=k) ω;have b:t<(Ab.flushN t h k).1.S.length:=ω
  have i:=kR (f.cach _ (au b));have j:=f.spilt b (k:=k) ω;have l:CI (spilt (Ab.flushN t h k).1 t k):=⟨a.z,a.jv,a.jd,a.jc,a.jn,a.m1,a.m2⟩
  obtain⟨n,o⟩:=CI.freeAs j l;exact⟨n,g.trans o⟩
def CI.tick{h:ac}{n:Int}(c:bc h [])(a:CI h)(d:0<=n)(b:h.b2+n<=1000000):CI (tick h n)/\Kp h (tick h n):=by
 have e:=c.aged d b;have f:CI (aged h n):=⟨a.z,a.jv,a.jd,a.jc,a.jn,a.m1,a.m2⟩
 exact CI.freeAs e f
def CI.collect{h:ac}{t:Nat}(b:bc h [])(a:CI h)(c:t<h.S.length):CI (collect h t)/\Kp h (collect h t):=by
 have g:=(dS.1 b.mail).1;have d:=b.nc;have e:=b.coll (t:=t) ω;have f:CI {h with w:=mz h.w t}:=⟨a.z,a.jv,a.jd,a.jc,a.jn,a.m1,a.m2⟩
 exact CI.recycs e c f
def wq(r:List Int)(o:Nat):∀(n c:Nat),nth (mI r o n) c=if o<=c/\c<o+n then 0 else nth r c
 | 0,c=>by rw[CC ω];rfl
 | n+1,c=>by
  unfold mI;rw[bB,wq r o n c,nO];by_cases e:o+n=c
  ·rw[CE (show o<=c/\c<o+(n+1) by omega)]
   by_cases a:c<r.length
   ·rw[CE ⟨e,a⟩]
   rw[CC ω,CC ω];unfold nth;rw[X3,O3 ω];rfl
  rw[CC ω];by_cases a:o<=c/\c<o+n
  ·rw[CE a,CE ω]
  rw[CC a,CC ω]
def AX(k:ah)(a:Int)(n f c:Nat):cl (gc k a n) f c=cl k f c\/(cl (gc k a n) f c=0/\f=df k a/\(a % 16).toNat<=c/\c<(a % 16).toNat+n):=by
 unfold cl gc;simp only[bB];split
 ·rename_i e
  rw[wq];split
  ·rename_i b;exact .inr ⟨rfl,e.1.symm,b.1,b.2⟩
  rw[e.1];exact .inl rfl
 exact .inl rfl
def Hu(h1:(a % 16).toNat<=c)(b:c<(a % 16).toNat+n):cl (gc k a n) (df k a) c=0:=by
 unfold cl gc;simp only[bB];by_cases e:df k a<k.G.W.T.length
 ·rw[CE ⟨trivial,e⟩,wq,CE ⟨h1,b⟩]
 rw[CC (λx=>e x.2)];have:nth k.G.W.T (df k a)=[]:=by
  unfold nth;rw[X3,O3 ω];rfl
 rw[this];rfl
def CI.clearO{E:List Int}(b:bc h E)(u:JI h)(O:CI h)(P:i<h.O.length)(w:¬aL (nth h.O i).y<0)(hw:(af (tbl h) ((nth h.O i).Addr / 16)).j≠1)(y:h'.F=gc h.F (nth h.O i).Addr (csz (aL (nth h.O i).y)).toNat)(e2:h'.O=dele h.O i)(e3:h'.J=h.J)(e4:h'.Y=h.Y)(e5:h'.q=h.q):CI h'/\Kp h h':=by
 obtain⟨⟨s,H,s1,s2⟩,hc3⟩:=(eH b (au P)).2 w;have Q:=s1;obtain⟨g1,g2,g3,-⟩:=s1;have A:=b.L.sok s H;have B:=cg (aI A).2.2;obtain⟨m1,m2,m3⟩:=b.mapped H;have R:(nth h.O i).Addr / 16=s.R:=ω
 have J:tbl h'=tbl h:=by unfold tbl;rw[y];rfl
 have S:(af (tbl h) s.R).e=(df h.F (nth h.O i).Addr:Nat):=by
  unfold df;rw[R];exact m8 b.ker (by show(af (tbl h) s.R).j≠0;rw[b.pe H];exact m3)
 have ex:∀c:Nat,((nth h.O i).Addr % 16).toNat<=c->c<((nth h.O i).Addr % 16).toNat+(csz (aL (nth h.O i).y)).toNat->PS h (nth h.O i).Addr (df h.F (nth h.O i).Addr) c/\c<16:=λc h1 T=>by
  rw[<-s2]at T;have r:c<16:=by rcases B with e|e|e|e<;>rw[e]at g3 T<;>omega
  refine⟨.inl ⟨s,H,Q,S,?_,r⟩,r⟩;unfold cT;rcases B with e|e|e|e<;>rw[e]at g3 T |-<;>omega
 have cv:∀o∈h.O,∀f c:Nat,sf h o f c->sf h' o f c:=λo d f c ⟨j,K,U,a⟩=>by
  have e:h'.F.G.Q=h.F.G.Q:=J;exact⟨j,K,U,by rw[e];exact a.m,by rw[e];exact a.f,a.c⟩
 have same:∀o∈h.O,o≠nth h.O i->∀f c:Nat,sf h o f c->cl h'.F f c=cl h.F f c:=λo d V f c l=>by
  rw[y];rcases AX h.F (nth h.O i).Addr (csz (aL (nth h.O i).y)).toNat f c with g|⟨-,W,X,Y⟩
  ·exact g
  exfalso;have hx:=(ex c X Y).1;rw[<-W]at hx;have ea:=xQ b (kH b d l) hx;obtain⟨k,n,rfl⟩:=aR d;have:=cX (f:=(·.Addr)) (dw b.osr) n P ea;subst this;exact V rfl
 have notO:∀o∈h'.O,o≠nth h.O i/\o∈h.O:=λo d=>by
  rw[e2]at d;obtain⟨k,n,Z,rfl⟩:=dz.1 d;refine⟨λe=>Z ?_,au n⟩;exact cX (f:=(·.Addr)) (dw b.osr) n P (by rw[e])
 refine⟨O.keep e4 e5 (by rw[J];exact λq h=>h) (λ_=>by rw[J];exact⟨rfl,rfl⟩) (λf c _ M=>.inl ?_) (λo d f c r l M=>?_) (λN c C=>?_) (λ_ s' hs' _=>⟨s',by rw[<-e3];exact hs',rfl,rfl,λ_ h=>h⟩),λo d=>⟨(notO o d).2,λj K U=>?_⟩⟩
 ·rw[y]at M |-
  rcases AX h.F (nth h.O i).Addr (csz (aL (nth h.O i).y)).toNat f c with g|g
  ·exact g.symm
  exact absurd g.1 M
 ·by_cases e:o=nth h.O i
  ·exfalso
   subst e;obtain⟨t,D,F⟩:=RW b d w l;exact M (by rw[y,t];exact Hu D F)
  refine⟨o,?_,cv o d f c l⟩;rw[e2];obtain⟨k,n,rfl⟩:=aR d;exact dz.2 ⟨k,n,λx=>e (by rw[x]),rfl⟩
 ·have hc16:c<16:=by
   have hm2:=List.mem_of_mem_take C;obtain⟨k,n,e⟩:=aR hm2;have:=fU (cW.1 (b.job N).1).1 n;omega
  have key:∀p:Int,(af (tbl h) p).j≠0->(∀c:Nat,PS h (nth h.O i).Addr (df h.F (nth h.O i).Addr) c->c<16->(c:Int)∈h.Y.X.T.take h.Y.b.toNat->(af (tbl h) p).e≠(df h.F (nth h.O i).Addr:Nat))->cl h'.F (bF h.F p) c=cl h.F (bF h.F p) c:=λp hp Z=>by
   rw[y];rcases AX h.F (nth h.O i).Addr (csz (aL (nth h.O i).y)).toNat (bF h.F p) c with g|⟨-,W,X,Y⟩
   ·exact g
   exfalso;obtain⟨t,D⟩:=ex c X Y;refine Z c t D C ?_;rw[<-W];exact m8 b.ker hp
  obtain⟨jm1,jm2⟩:=b.jobM N;exact⟨key _ jm1 λc t D F=>tP b u O N t D (List.mem_of_mem_take F),key _ jm2 λc t _ F=>He b u O N t hw F⟩
 obtain⟨o1,o2⟩:=notO o d;have a:=At.mk' b.ker (db b o2 (k:=j) ⟨K,ω⟩).1;have G:At h'.F (o.Addr+j) (df h.F (o.Addr+j)) ((o.Addr+j) % 16).toNat:=by
  have e:h'.F.G.Q=h.F.G.Q:=J;exact⟨by rw[e];exact a.m,by rw[e];exact a.f,a.c⟩
 rw[G.cell,a.cell];exact same o o2 o1 _ _ ⟨j,K,U,a⟩
def qD(h:aD k=true)(d:∀p:Int,(af k.G.Q p).j≠0->(af k.G.Q p).e≠f)(c:Nat):cl k f c=0:=by
 obtain⟨-,i,-,j,-⟩:=aC.1 h;obtain⟨-,-,w,n⟩:=aZ.1 i;unfold cl;by_cases o:f<k.G.W.T.length
 ·have r:nth k.G.W.a1 f=false:=by
   rw[j f ω,C6];intro a;obtain⟨q,y,t,u⟩:=du.1 a;have e:af k.G.Q (q:Nat)=nth k.G.Q.K q:=by unfold af;rw[CE ⟨ω,ω⟩];rfl
   exact d (q:Nat) (by rw[e];exact t) (by rw[e];exact u)
  have b:=n f o;unfold iB at b;rw[r]at b;simp only[I0,C0,v5]at b;by_cases g:c<(nth k.G.W.T f).length
  ·have:=b.2 _ (au g)
   unfold jx at this;rw[I0,Bool.false_or,C0,C0]at this;exact this.2
  unfold nth;rw[X3 (l:=List.getD _ _ _),O3 (by unfold nth at g;omega)];rfl
 have:nth k.G.W.T f=[]:=by
  unfold nth;rw[X3,O3 ω];rfl
 rw[this];rfl
def CI.freeL{h:ac}{E:List Int}(d:bc h E)(T:CI h){i k:Nat}(O:i<h.O.length)(r:k<h.M.length)(U:(nth h.O i).Addr=16*(nth h.M k).R):CI (freeL h i k)/\Kp h (freeL h i k):=by
 obtain⟨V,W⟩:=vM d r;have t:=d.L.lok _ (au r);have X:=aW t;have kl:=KL.unmN d.ker V _ W;have ker:=io d.ker (nth h.M k).R (nth h.M k).a4.toNat;have u:=(eZ h.F (nth h.M k).R (nth h.M k).a4.toNat).1;have notO:∀o∈dele h.O i,o≠nth h.O i/\o∈h.O:=λo n=>by
  obtain⟨j,y,Y,rfl⟩:=dz.1 n;exact⟨λe=>Y (cX (f:=(·.Addr)) (dw d.osr) y O (by rw[e])),au y⟩
 have onL:∀b:Int,(nth h.M k).R<=b / 16->b / 16<(nth h.M k).R+((nth h.M k).a4.toNat:Nat)->∀f c:Nat,At h.F b f c->PS h (nth h.O i).Addr f c:=λb h1 h2 f c g=>.inr ⟨_,au r,U,b,ω,ω,g⟩
 refine CI.kern d T (λo n=>(notO o n).2) rfl rfl (λo n Z f c h16 C=>?_) (λq hq=>?_) (λhm=>?_) (λo n j D P=>?_) kl.cel (λ_ s' F _=>⟨s',F,rfl,rfl,λ_ h=>h⟩)
 ·-- the object itself
  have G:o=nth h.O i:=by
   refine Classical.byContradiction λe=>Z ?_
   obtain⟨j,y,rfl⟩:=aR n;exact dz.2 ⟨j,y,λx=>e (by rw[x]),rfl⟩
  subst G;rcases kl.cel f c with e|e
  ·refine qD ker (λp A H=>?_) c
   obtain⟨j,D,P,g⟩:=C;have hsz:(nth h.O i).y<=16*(nth h.M k).a4:=by
    rcases d.oow _ n with⟨s,J,Q,-⟩|⟨l,R,e1,e2⟩
    ·exact absurd (show s.R=(nth h.M k).R+((0:Nat):Int) by have:=Q.1;have:=Q.2.1;omega) (d.L.dis s J _ (au r) 0 ω)
    obtain⟨m,K,rfl⟩:=aR R;have:=d.L.one m k K r 0 0 (by have:=aW (d.L.lok _ R);omega) ω ω;subst this;unfold bR at t;rw[C0]at t;omega
   by_cases B:(nth h.M k).R<=p/\p<(nth h.M k).R+((nth h.M k).a4.toNat:Nat)
   ·exact A (kl.ins p B.1 B.2)
   have w:=kl.out p B;change af (unmN h.F (nth h.M k).R (nth h.M k).a4.toNat).G.Q p=_ at w;change (af (unmN h.F (nth h.M k).R (nth h.M k).a4.toNat).G.Q p).j≠0 at A;change (af (unmN h.F (nth h.M k).R (nth h.M k).a4.toNat).G.Q p).e=_ at H;rw[w]at A H;have:=mY d (au r) (b:=(nth h.O i).Addr+j) ω ω g A H;omega
  exact e.1
 ·have:=kl.md u q (by show(nth (tbl (Ab.freeL h i k)).K q).j≠0;omega)
  show(nth h.F.G.Q.K q).j=1;rw[<-this];exact hq
 ·obtain⟨-,⟨a,ha,M⟩,b,hb,eb⟩:=d.job hm
  have no:∀s∈h.J,¬((nth h.M k).R<=s.R/\s.R<(nth h.M k).R+((nth h.M k).a4.toNat:Nat)):=λs J B=>d.L.dis s J _ (au r) (s.R - (nth h.M k).R).toNat ω ω
  exact⟨by rw[<-M];exact kl.out _ (no a ha),by rw[<-eb];exact kl.out _ (no b hb)⟩
 obtain⟨o1,N⟩:=notO o n;refine kl.out _ λS=>o1 ?_
 have g:=At.mk' d.ker (db d N (k:=j) ⟨D,ω⟩).1;have e:=xQ d (kH d N ⟨j,D,P,g⟩) (onL _ S.1 S.2 _ _ g);obtain⟨m,K,rfl⟩:=aR N;rw[cX (f:=(·.Addr)) (dw d.osr) K O e]
def CI.freeT{h:ac}{t i:Nat}(b:bc h [])(c:JI h)(d:CI h)(e:i<h.O.length)(n:t<h.S.length):CI (freeT h t i).1/\Kp h (freeT h t i).1:=by
 unfold Ab.freeT;split
 ·rename_i a
  obtain⟨l,o,f,-⟩:=(eH b (au e)).1 a;obtain⟨g,j,-⟩:=yc o f;exact CI.freeL b d e g j
 rename_i a;split
 ·exact⟨d,Ca h⟩
 rename_i k;split
 ·obtain⟨p,g⟩:=CI.clearO (h':=inQuar h i) b c d e a k rfl rfl rfl rfl rfl
  have f:=b.inQuar e a;obtain⟨q,j⟩:=CI.recycs (t:=t) (E:=[]) (az:=(B3 h.a7 (m0 h (nth h.O i))).map (·.Addr)) (h:=inQuar h i) (by rw[List.append_nil];exact f) n p;exact⟨q,g.trans j⟩
 split
 ·exact CI.clearO (h':=Qg h t i) b c d e a k rfl rfl rfl rfl rfl
 exact⟨d,Ca h⟩
structure KA(k k':ah)(lo n:Int):Prop where
 out:∀q:Int,¬(lo<=q/\q<lo+n)->af k'.G.Q q=af k.G.Q q
 md:∀q:Nat,(nth k'.G.Q.K q).j=1->(nth k.G.Q.K q).j=1
 cel:∀f c:Nat,cl k' f c=cl k f c
def Rx{a:ah}{n:Int}(b:a.G.Q.K.length=k.G.Q.K.length)(h:∀q:Nat,¬(lo<=q/\(q:Int)<lo+n)->nth a.G.Q.K q=nth k.G.Q.K q)(q:Int)(c:¬(lo<=q/\q<lo+n)):af a.G.Q q=af k.G.Q q:=by
 unfold af;rw[b];by_cases e:0<=q/\q<k.G.Q.K.length
 ·rw[CE e,CE e];exact h q.toNat ω
 rw[CC e,CC e]
def KA.newK{r:ah × Bool}(s:xC k p r):KA k r.1 p 1:=by
 cases e:r.2 with
 | false=>rw[s.no e];exact⟨λ_ _=>rfl,λ_ h=>h,λ_ _=>rfl⟩
 | true=>
  obtain⟨f,-,-,b,-⟩:=s.yes e;refine⟨Rx s.len λq a=>by rw[b,CC ω],λq a=>?_,λf c=>by unfold cl;rw[s.cells]⟩;rw[b]at a;split at a
  ·exact absurd a (by show ¬(2:Int)=1;decide)
  exact a
def KA.newsK{r:ah × Nat}(s:jY k p n r):KA k r.1 p r.2:=by
 refine⟨Rx s.len s.out,λq a=>?_,λf c=>by unfold cl;rw[s.cells]⟩;by_cases e:p<=q/\(q:Int)<p+r.2
 ·rw[(s.new q e.1 e.2).1]at a;exact absurd a (by decide)
 rw[s.out q e]at a;exact a
def pq{E:List Int}(d:bc h E){n:Int}(b:∀q:Nat,lo<=q->(q:Int)<lo+n->(nth (tbl h).K q).j=0)(a:(af (tbl h) p).j≠0):¬(lo<=p/\p<lo+n):=λe=>by
 obtain⟨f,-,c⟩:=me a;rw[c]at a;exact a (b p.toNat ω ω)
def CI.mapped{E:List Int}(b:bc h E)(t:CI h){n:Int}(e:KA h.F h'.F lo n)(g:∀q:Nat,lo<=q->(q:Int)<lo+n->(nth (tbl h).K q).j=0)(i:h'.O=h.O)(u:h'.Y=h.Y)(l:h'.q=h.q)(p:h.q=true->∀d∈h'.J,d.R=h.Y.X.a3\/d.R=h.Y.X.a0->d∈h.J):CI h'/\Kp h h':=by
 refine CI.kern b t (λo a=>by rw[<-i];exact a) u l (λo a r=>absurd (by rw[i];exact a) r) e.md (λa=>?_) (λo a j w C=>?_) (λf c=>.inl (e.cel f c)) (λa d r y=>⟨d,p a d r y,rfl,rfl,λ_ h=>h⟩)
 ·obtain⟨A,B⟩:=b.jobM a
  exact⟨e.out _ (pq b g A),e.out _ (pq b g B)⟩
 rw[i]at a;exact e.out _ (pq b g (db b a (k:=j) ⟨w,ω⟩).1)
structure CA(h:ac)(r:ac):Prop where
 ci:CI r
 kp:Kp h r
 ob:r.O=h.O
def CI.slotT{h:ac}(e:CI h){i:Nat}(t:i<h.J.length)(a:fB h (nth h.J i).R=false):CI (slotT h i):=by
 refine e.keep rfl rfl (λq h=>h) (λ_=>⟨rfl,rfl⟩) (λf c _ _=>.inl rfl) (λo g f c _ b _=>⟨o,g,b⟩) (λ_ c _=>⟨rfl,rfl⟩) λk u d l=>?_
 rcases eL d with rfl|⟨j,n,-,rfl⟩
 ·obtain⟨p,r⟩:=AA a k
  exact(l.elim p r).elim
 exact⟨_,au n,rfl,rfl,λ_ h=>h⟩
def CI.smallA{h:ac}{t c:Nat}(d:bc h [])(a:CI h)(V:t<h.S.length)(G:c<=3)(H:h.F.Calls<=90000):CA h (smallA h t c).1:=by
 unfold Ab.smallA;split
 ·exact⟨⟨a.z,a.jv,a.jd,a.jc,a.jn,a.m1,a.m2⟩,Ca h,rfl⟩
 split
 ·rename_i i D
  have o:=List.find?_some D;have b:=List.mem_range.1 (List.mem_of_find?_eq_some D);unfold p6 at o;simp only[I0,C0,Bool.not_eq_true']at o;exact⟨CI.slotT a b o.2.1,Ca h,rfl⟩
 split
 ·exact⟨a,Ca h,rfl⟩
 rename_i J;have f:(ay h.o 1).2.2=true:=by simpa using J
 obtain⟨K,L,r,E⟩:=jb d (Y6 1) f;have s:=xC.of (p:=(ay h.o 1).2.1) d.ker ω ⟨K,by have:(ay h.o 1).2.1+1<=(h.F.G.Q.K.length:Nat):=L;omega⟩ (r _ ω ω);have F:=KA.newK s;split
 ·obtain⟨g,j⟩:=CI.mapped (h':={h with F:=(newK h.F (ay h.o 1).2.1).1}) d a F (λq u w=>r q u w) rfl rfl rfl (λ_ k b _=>b)
  exact⟨g,j,rfl⟩
 rename_i M;have A:(newK h.F (ay h.o 1).2.1).2=true:=by simpa using M
 have k:xC h.F (ay h.o 1).2.1 ((newK h.F (ay h.o 1).2.1).1,true):=by rw[<-A];exact s
 have W:=d.addS (c:=c) ⟨ω,ω⟩ f k;have N:JK h (mL h c):=JK.addS k;have jno:∀l:h.q=true,(ay h.o 1).2.1≠h.Y.X.a3/\(ay h.o 1).2.1≠h.Y.X.a0:=λl=>by
  obtain⟨-,⟨y,O,P⟩,⟨z,Q,R⟩⟩:=d.job l;exact⟨λe=>E _ (Y6 _) ω (by rw[e,<-P];exact dO O),λe=>E _ (Y6 _) ω (by rw[e,<-R];exact dO Q)⟩
 obtain⟨g,j⟩:=CI.mapped (h':=mL h c) d a F (λq u w=>r q u w) rfl rfl rfl (λl k b S=>by
   rcases cR.1 b with rfl|b
   · obtain⟨B,C⟩:=jno l
     exact(S.elim B C).elim
   exact b)
 obtain⟨T,U⟩:=EK (FL (ay h.o 1).2.1) h.J ⟨(ay h.o 1).2.1,c,0⟩;unfold jw;split
 ·exact⟨g,j,rfl⟩
 refine⟨CI.slotT (h:=mL h c) g (i:=mM h) T ?_,j,rfl⟩;show fB (mL h c) (nth (jW (FL (ay h.o 1).2.1) h.J ⟨(ay h.o 1).2.1,c,0⟩) (mM h)).R=false;unfold mM;rw[U,N.pg,<-S7];intro n;unfold fB at n;simp only[I0,X8,C0]at n;obtain⟨B,C⟩:=jno n.1;exact n.2.elim B C
structure VL(h h':ac)(x:bu):Prop where
 mem:∀o,o∈h'.O↔o=x\/o∈h.O
 ze:∀j:Int,0<=j->j<x.y->fQ h'.F (x.Addr+j)=0
 ke:∀o∈h.O,∀j:Int,0<=j->j<o.y->fQ h'.F (o.Addr+j)=fQ h.F (o.Addr+j)
def VL.of{g:ac}{E L:List Int}{x:bu}(A:bc g E)(M:CI g)(b:bc h' L)(r:JI h')(B:CI h')(C:∀p:Int,(af (tbl g) p).j≠0->af (tbl h') p=af (tbl g) p)(d:∀f c,cl h'.F f c=cl g.F f c)(l:∀o,o∈h'.O↔o=x\/o∈g.O)(N:x∉g.O)(G:h'.Y=g.Y)(O:h'.q=g.q)(D:g.O=h.O)(P:Kp h g):VL h h' x:=by
 have Q:∀o∈g.O,∀f c:Nat,sf g o f c->sf h' o f c:=λo D f c ⟨j,n,t,a⟩=>by
  have e:=C _ a.m;unfold tbl at e;exact⟨j,n,t,by rw[e];exact a.m,by rw[e];exact a.f,a.c⟩
 refine⟨λo=>by rw[l,D],λj n t=>?_,λo u j n t=>?_⟩
 ·have q:=(l x).2 (.inl rfl)
  have a:=At.mk' b.ker (db b q (k:=j) ⟨n,ω⟩).1;rw[a.cell];refine Classical.byContradiction λH=>?_
  have w:((x.Addr+j) % 16).toNat<16:=ω
  rw[d]at H;have i:sf h' x _ _:=⟨j,n,t,a⟩
  rcases M.z _ _ w H with⟨o,u,F⟩|⟨J,R,S⟩
  ·have:=MS b ((l o).2 (.inr u)) q (Q o u _ _ F) i
   subst this;exact N u
  refine tP b r B (by rw[O];exact J) (kH b q i) w (by rw[G];exact List.mem_of_mem_take S) ?_;rw[G,C _ (A.jobM J).1];exact R
 have K:o∈g.O:=by rw[D];exact u
 refine Eq.trans ?_ ((P o K).2 j n t);have a:=At.mk' A.ker (db A K (k:=j) ⟨n,ω⟩).1;have e:=C _ a.m;have y:At h'.F (o.Addr+j) (df g.F (o.Addr+j)) ((o.Addr+j) % 16).toNat:=by
  unfold tbl at e;exact⟨by rw[e];exact a.m,by rw[e];exact a.f,a.c⟩
 rw[y.cell,a.cell,d]
def CI.addO{h:ac}(e:CI h)(a size t:Int):CI (addO h a size t):=
 e.keep rfl rfl (λq h=>h) (λ_=>⟨rfl,rfl⟩) (λf c _ _=>.inl rfl) (λo g f c _ b _=>⟨o,cR.2 (.inr g),b⟩) (λ_ c _=>⟨rfl,rfl⟩) λ_ i d _=>⟨i,d,rfl,rfl,λ_ h=>h⟩
structure AL(h:ac)(t size:Int)(r:ac × Int × Int):Prop where
 ci:CI r.1
 no:r.2.2≠0->r.1.O=h.O/\Kp h r.1/\r.1.b=h.b/\r.2.1 = -1
 yes:r.2.2=0->VL h r.1 ⟨h.b,r.2.1,size,t⟩/\r.1.b=h.b+1/\1<=size/\size<=1000/\0<=r.2.1
def PE{E:List Int}(b:bc h E){size t:Int} : (⟨h.b,a,size,t⟩ : bu)∉h.O:=λc=>by
 have:=(b.onu _ c).2.1;simp only at this;omega
def CI.largeA{h:ac}{t size:Int}(b:bc h [])(C:JI h)(y:CI h)(L:9<=size/\size<=1000)(D:h.b<1000000)(E:h.F.Calls<=90000)(U:0<=t/\t<=h.S.length - 1):AL h t size (largeA h t size):=by
 have hl:(gQ size:Int)=(size+15) / 16:=by unfold gQ;omega
 have a:=Dt b L D E U;unfold Ab.largeA at a |-;by_cases F:(ay h.o (gQ size:Nat)).2.2=false
 ·rw[CE F]
  exact⟨y,λ_=>⟨rfl,Ca h,rfl,rfl⟩,λe=>by cases e⟩
 rw[CC F]at a |-;have G:(ay h.o (gQ size:Nat)).2.2=true:=by simpa using F
 obtain⟨M,N,O,u4⟩:=jb b (show(1:Int)<=(gQ size:Nat) by omega) G;have s:jY h.F (ay h.o (gQ size:Nat)).2.1 (gQ size) (ef h size):=jY.of (p:=(ay h.o (gQ size:Nat)).2.1) (n:=gQ size) b.ker ω ⟨M,N⟩ O (gQ size) (v4 _);have d:=KA.newsK s;have V:=s.le;have i:∀q:Nat,(ay h.o (gQ size:Nat)).2.1<=q->(q:Int)<(ay h.o (gQ size:Nat)).2.1+(ef h size).2->(nth (tbl h).K q).j=0:=λq W q2=>O q W ω
 by_cases P:(ef h size).2=gQ size
 ·rw[CE P]at a |-
  obtain⟨Q,H⟩:=a;have ji1:=C.keep Q H;have w:∀o,o∈(addL h (ef h size).1 (ay h.o (gQ size:Nat)).1 (ay h.o (gQ size:Nat)).2.1 (gQ size:Nat) size t).O↔o = ⟨h.b,16*(ay h.o (gQ size:Nat)).2.1,size,t⟩\/o∈h.O:=λo=>cR
  have X:=CI.mapped (h':={h with F:=(ef h size).1}) b y d i rfl rfl rfl (λ_ A Y _=>Y);have B:CI (addL h (ef h size).1 (ay h.o (gQ size:Nat)).1 (ay h.o (gQ size:Nat)).2.1 (gQ size:Nat) size t):=
   X.1.keep rfl rfl (λq h=>h) (λ_=>⟨rfl,rfl⟩) (λf c _ _=>.inl rfl) (λo l f c _ J _=>⟨o,cR.2 (.inr l),J⟩) (λ_ c _=>⟨rfl,rfl⟩) λ_ A r _=>⟨A,r,rfl,rfl,λ_ h=>h⟩
  refine⟨B,λe=>absurd rfl e,λ_=>⟨?_,rfl,ω,L.2,by show 0<=16*_;omega⟩⟩;exact VL.of (g:=h) b y Q ji1 B (λp Z=>d.out p (pq b i Z)) d.cel w (PE b) rfl rfl rfl (Ca h)
 rw[CC P]at a |-;have K:=s.len;have kl:=KL.unmN s.ker M (ef h size).2 (by rw[K];have:(ay h.o (gQ size:Nat)).2.1+((gQ size:Nat):Int)<=(h.F.G.Q.K.length:Nat):=N;omega);have u:=((eZ (ef h size).1 (ay h.o (gQ size:Nat)).2.1 (ef h size).2).1)
 obtain⟨B,k1⟩:=CI.kern (h':={h with F:=unmN (ef h size).1 (ay h.o (gQ size:Nat)).2.1 (ef h size).2}) b y (λo l=>l) rfl rfl (λo l D=>absurd l D) (λq R=>d.md q (by rw[<-kl.md u q (by show(nth (unmN (ef h size).1 _ _).G.Q.K q).j≠0;have:(nth (unmN (ef h size).1 (ay h.o (gQ size:Nat)).2.1 (ef h size).2).G.Q.K q).j=1:=R;omega)];exact R)) (λhm=>by
     obtain⟨S,T⟩:=b.jobM hm;exact⟨(kl.out _ (pq b i S)).trans (d.out _ (pq b i S)),(kl.out _ (pq b i T)).trans (d.out _ (pq b i T))⟩) (λo l j H j2=>by
     have:=pq b i (db b l (k:=j) ⟨H,ω⟩).1;exact(kl.out _ this).trans (d.out _ this)) (λf c=>by
     rcases kl.cel f c with e|e
     · exact .inl (e.trans (d.cel f c))
     exact .inr e) (λ_ A r _=>⟨A,r,rfl,rfl,λ_ h=>h⟩)
 exact⟨B,λ_=>⟨rfl,k1,rfl,rfl⟩,λe=>by cases e⟩
def CI.allocH{h:ac}{t size:Int}(i:bc h [])(f:JI h)(j:CI h):AL h t size (allocH h t size):=by
 have a:=lZ (t:=t) (size:=size) i;have no:∀n:Int,n≠0->AL h t size (h,-1,n):=λn B=>⟨j,λ_=>⟨rfl,Ca h,rfl,rfl⟩,λe=>absurd e B⟩
 unfold Ab.allocH at a |-;by_cases k:1000000<=h.b\/90000<h.F.Calls
 ·rw[CE k];exact no 5 (by decide)
 rw[CC k]at a |-;by_cases l:¬(0<=t/\t<=h.S.length - 1)
 ·rw[CE l];exact no 1 (by decide)
 rw[CC l]at a |-;by_cases q:¬(1<=size/\size<=1000)
 ·rw[CE q];exact no 2 (by decide)
 rw[CC q]at a |-;by_cases u:h.b1<iw h+size
 ·rw[CE u];exact no 3 (by decide)
 rw[CC u]at a |-;by_cases b:0<=aL size
 ·rw[CE b]at a |-
  have C:aL size<=3:=by unfold aL;repeat' split<;>omega
  have s:=ov (t:=t.toNat) (c:=(aL size).toNat) i ω ω ω;have d:=CI.smallA (t:=t.toNat) (c:=(aL size).toNat) i j ω ω ω;generalize Ab.smallA h t.toNat (aL size).toNat=r at s d a |-;by_cases e:r.2<0
  ·rw[CE e]at a |-
   exact⟨d.ci,λ_=>⟨d.ob,d.kp,s.nx,rfl⟩,λe=>by cases e⟩
  rw[CC e]at a |-;obtain⟨w,D⟩:=a;obtain⟨y,-⟩:=s.yes ω;have A:=CI.addO d.ci r.2 size t;refine⟨A,λe=>absurd rfl e,λ_=>⟨?_,by show r.1.b+1=h.b+1;rw[s.nx],ω,ω,by show 0<=r.2;omega⟩⟩;have:=VL.of (h:=h) (g:=r.1) (x:=⟨r.1.b,r.2,size,t⟩) y d.ci w (f.keep w D) A (λp _=>rfl) (λ_ _=>rfl) (λo=>cR) (PE y) rfl rfl d.ob d.kp;rw[s.nx]at this;exact this
 rw[CC b];have E:9<=size:=by
  unfold aL at b
  repeat' split at b<;>omega
 exact CI.largeA i f j ⟨E,ω⟩ ω ω ω
def tp(k:ah)(a v:Int)(f c:Nat):cl (ew k a v) f c=cl k f c\/(cl (ew k a v) f c=v/\f=df k a/\c=(a % 16).toNat):=by
 unfold cl ew setCell;simp only[bB];by_cases e:df k a=f/\f<k.G.W.T.length
 ·rw[CE e,bB]
  by_cases b:(a % 16).toNat=c/\c<(nth k.G.W.T (df k a)).length
  ·rw[CE b];exact .inr ⟨rfl,e.1.symm,b.1.symm⟩
  rw[CC b,e.1];exact .inl rfl
 rw[CC e];exact .inl rfl
variable{v:Int}
def D9(c:aD k=true)(e:(af k.G.Q (a / 16)).j≠0):cl (ew k a v) (df k a) (a % 16).toNat=v:=by
 have d:=(gM c e).1;have b:=(vH c (f:=df k a) d).1;unfold cl ew setCell;show nth (nth (List.set _ _ _) _) _=v;rw[bB,CE ⟨rfl,d⟩,bB,CE ⟨rfl,by rw[b];omega⟩]
def Mi(d:sf h o f c):sf {h with F:=ew h.F a v} o f c:=by
 obtain⟨j,e,g,b⟩:=d;exact⟨j,e,g,⟨b.m,b.f,b.c⟩⟩
def Ue{E:List Int}(d:bc h E)(q:o∈h.O){x:Int}(y:0<=x/\x<o.y)(A:0<=j/\j<o.y)(h1:At h.F (o.Addr+x) f c)(g:At h.F (o.Addr+j) f c):x=j:=by
 have B:=h1.c;have C:=g.c;rcases d.oow o q with⟨s,r,t,u⟩|⟨l,k,D,F⟩
 ·have i:=aI (d.L.sok s r)
  have a:=Gj (n:=o.y) ω;rw[<-u]at a;obtain⟨G,H,w,-⟩:=t;rcases cg i.2.2 with e|e|e|e<;>rw[e]at w a<;>omega
 have p:=d.L.lok l k;unfold bR at p;rw[C0]at p;have:=mY d k (b:=o.Addr+x) ω ω h1 g.m g.f;omega
def CI.store{E:List Int}(b:bc h E)(A:JI h)(N:CI h)(O:i<h.O.length)(P:0<=j/\j<=(nth h.O i).y - 1)(Y:(af (tbl h) (((nth h.O i).Addr+j) / 16)).j≠1):CI {h with F:=ew h.F ((nth h.O i).Addr+j) v}/\
  ∀o∈h.O,∀x:Int,0<=x->x<o.y->fQ (ew h.F ((nth h.O i).Addr+j) v) (o.Addr+x)=if o=nth h.O i/\x=j then v else fQ h.F (o.Addr+x):=by
 have g:=au O;have F:=(db b g P).1;have G:=At.mk' b.ker F;have d:sf h (nth h.O i) _ _:=⟨j,P.1,ω,G⟩
 have r:=kH b g d;have Z:(((nth h.O i).Addr+j) % 16).toNat<16:=ω
 have key:∀p:Int,(af (tbl h) p).j≠0->(af (tbl h) p).e≠(df h.F ((nth h.O i).Addr+j):Nat)->∀c,cl (ew h.F ((nth h.O i).Addr+j) v) (bF h.F p) c=cl h.F (bF h.F p) c:=λp Q B c=>by
  rcases tp h.F ((nth h.O i).Addr+j) v (bF h.F p) c with e|⟨-,e,-⟩
  ·exact e
  refine absurd ?_ B;rw[<-e];exact m8 b.ker Q
 refine⟨N.keep rfl rfl (λq h=>h) (λ_=>⟨rfl,rfl⟩) (λf c _ _=>?_) (λo g f c _ d _=>⟨o,g,Mi d⟩) (λH c C=>?_) (λ_ s' R _=>⟨s',R,rfl,rfl,λ_ h=>h⟩),λo g x S W=>?_⟩
 ·rcases tp h.F ((nth h.O i).Addr+j) v f c with e|⟨-,u,w⟩
  ·exact .inl e.symm
  refine .inr ⟨_,g,?_⟩;rw[u,w];exact Mi d
 ·obtain⟨jm1,jm2⟩:=b.jobM H
  have J:c<16:=by
   obtain⟨k,lk,e⟩:=aR (List.mem_of_mem_take C);have:=fU (cW.1 (b.job H).1).1 lk;omega
  constructor
  ·rcases tp h.F ((nth h.O i).Addr+j) v (bF h.F h.Y.X.a3) c with e|⟨-,u,w⟩
   ·exact e
   exfalso;rw[<-u,<-w]at r;exact tP b A N H r J (List.mem_of_mem_take C) (m8 b.ker jm1)
  rcases tp h.F ((nth h.O i).Addr+j) v (bF h.F h.Y.X.a0) c with e|⟨-,u,w⟩
  ·exact e
  exfalso;rw[<-u,<-w]at r;refine He b A N H r ?_ C (m8 b.ker jm2);rcases b.oow _ g with⟨s,hs,s1,s2⟩|⟨l,X,l1,-⟩
  ·have T:=aI (b.L.sok s hs)
   have K:=Gj (n:=(nth h.O i).y) ω;rw[<-s2]at K;obtain⟨g1,g2,g3,-⟩:=s1;have Q:((nth h.O i).Addr+j) / 16=(nth h.O i).Addr / 16:=by rcases cg T.2.2 with e|e|e|e<;>rw[e]at g3 K<;>omega
   rw[<-Q];exact Y
  intro M;obtain⟨a1,a2,a3⟩:=me (t:=tbl h) (p:=(nth h.O i).Addr / 16) ω;rw[a3]at M;have h3:=(N.m1 _ M).2.1;obtain⟨-,-,y,hy,-,ey,-⟩:=A.sp H;have hpl:=aW (b.L.lok l X);exact b.L.dis y hy l X 0 ω ω
 have U:=(db b g (k:=x) ⟨S,ω⟩).1;have a:=At.mk' b.ker U;have D:At (ew h.F ((nth h.O i).Addr+j) v) (o.Addr+x) (df h.F (o.Addr+x)) ((o.Addr+x) % 16).toNat:=⟨a.m,a.f,a.c⟩
 rw[D.cell,a.cell];split
 ·rename_i e
  obtain⟨u,w⟩:=e;subst u w;exact D9 b.ker F
 rename_i B;rcases tp h.F ((nth h.O i).Addr+j) v (df h.F (o.Addr+x)) ((o.Addr+x) % 16).toNat with e|⟨-,u,w⟩
 ·exact e
 exfalso;rw[u,w]at a;have V:sf h o _ _:=⟨x,S,W,a⟩
 have eo:=MS b g (au O) V d;subst eo;refine B ⟨rfl,?_⟩;exact Ue b (au O) ⟨S,W⟩ ⟨P.1,ω⟩ a G
end Go.Proofs.YtiopgblagimpmaaGreat.Ab
