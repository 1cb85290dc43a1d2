/- Freeing: what becomes of the data, and that a valid heap stays valid. No condition. -/
import Derived.Test.YtembpgjjnioagaaGreatId
import Derived.Test.YtembpgjjnioagaaGreatIe
import Derived.Deep.LoopGhost
import Derived.Deep.RegionLaw
import Derived.Lib.Walk
import Derived.Sort.WalkB12
import Derived.Lib.SliceRun
import Derived.Shelf.RegionOpenPlain
set_option linter.unusedVariables false
set_option linter.unusedSimpArgs false
set_option linter.constructorNameAsVariable false
namespace Go.Proofs.YtembpgjjnioagaaGreat.Ab
def gc(h:ac)(p:Int):Bool:=h.Meshing&&(decide (p=h.Job.Plan.Keep) || decide (p=h.Job.Plan.Move))
def giveP(h:ac)(i:Nat):ac:={h with Kernel:=dB h.Kernel (nth h.Spans i).Page,Spans:=dele h.Spans i,Free:=(dl (dG h) h.Free ⟨(nth h.Spans i).Page,1⟩).getD h.Free}
def clrS(h:ac)(i:Nat)(a:Int):ac:={h with Spans:=h.Spans.set i (lw (nth h.Spans i) (dI (nth h.Spans i) a))}
def freeS(h:ac)(i:Nat)(a:Int):ac:=if(lw (nth h.Spans i) (dI (nth h.Spans i) a)).Bits=0/\gc h (nth h.Spans i).Page=false then giveP (clrS h i a) i else clrS h i a
def u5(h:ac)(a:Int):Nat:=(fw h (a / 16)).toNat
def freeA(h:ac)(a:Int):ac:=freeS h (u5 h a) a
def cput(c:aB)(k a:Int):Option aB:=if bq c=true/\0<=k/\k<=3/\bq (lH c k.toNat a)=true then some (lH c k.toNat a) else none
def recyc(t:Nat)(h:ac)(a:Int):ac:=match cput (nth h.Caches t) (nth h.Spans (u5 h a)).Class a with
 | some c=>{h with Caches:=h.Caches.set t c}
 | none=>freeA h a
theorem bn.at{h:ac}{E:List Int}{a:Int}(e:bn h E)(f:iK h.Spans a (-1)):u5 h a<h.Spans.length/\eJ (nth h.Spans (u5 h a)) a/\fw h (a / 16)=(u5 h a:Nat):=by
 obtain⟨s,g,c,-⟩:=f;obtain⟨i,d,rfl⟩:=bc g;have j:(nth h.Spans i).Page=a / 16:=by have l:=c.1;have n:=c.2.1;omega
 have b:=nJ e.L d;rw[j]at b;have k:u5 h a=i:=by unfold u5;rw[b];rfl
 rw[k];exact⟨d,c,b⟩
theorem HD{h:ac}{p:Int}(e:gc h p=false)(a:h.Meshing=true):p≠h.Job.Plan.Keep/\p≠h.Job.Plan.Move:=by
 unfold gc at e;rw[a]at e;simpa using e
theorem bn.freeS{h:ac}{E:List Int}{a:Int}{i:Nat}(f:bn h (a::E))(b:i<h.Spans.length)(g:eJ (nth h.Spans i) a):bn (freeS h i a) E:=by
 have c:=f.give b g;unfold Ab.freeS;split
 ·rename_i e
  have d:nth (clrS h i a).Spans i=lw (nth h.Spans i) (dI (nth h.Spans i) a):=by unfold clrS;simp only[cq,true_and];rw[C7 b]
  obtain⟨o,j,k⟩:=bn.giveSpan (h:=clrS h i a) c (i:=i) (by unfold clrS;simp only[X0];exact b) (by rw[d];exact e.1) (λl=>by rw[d];exact HD e.2 l);unfold giveP;rw[j];exact k
 ·exact c
theorem bn.freeA{h:ac}{E:List Int}{a:Int}(b:bn h (a::E)):bn (freeA h a) E:=by
 obtain⟨c,d,-⟩:=b.at (b.hin a (C1 ..));exact b.freeS c d
theorem rX{c:aB}(h:bq c=true):c.Lists.length=4:=by
 unfold bq at h;simp only[I0,C0]at h;exact h.1
theorem bn.recyc{h:ac}{E:List Int}{a:Int}{t:Nat}(b:bn h (a::E))(f:t<h.Caches.length):bn (recyc t h a) E:=by
 obtain⟨g,i,-⟩:=b.at (b.hin a (C1 ..));unfold Ab.recyc;split
 ·rename_i c d
  unfold cput at d;split at d
  ·rename_i e
   cases d;obtain⟨j,l,n,k⟩:=e;exact b.put f (by rw[rX j];omega) ⟨_,am g,i,.inr ω⟩ k
  ·cases d
 ·exact b.freeA
theorem tG(h:ac)(i:Nat)(a:Int):(freeS h i a).Caches=h.Caches/\(freeS h i a).Objs=h.Objs/\(freeS h i a).Kernel.Calls=h.Kernel.Calls/\(freeS h i a).Mail=h.Mail/\(freeS h i a).Job=h.Job/\(freeS h i a).Clock=h.Clock/\(freeS h i a).Quar=h.Quar/\(freeS h i a).Kernel.Refuse=h.Kernel.Refuse:=by
 unfold freeS;split
 ·obtain⟨-,b,c⟩:=ox (clrS h i a).Kernel (nth (clrS h i a).Spans i).Page
  exact⟨rfl,rfl,b,rfl,rfl,rfl,rfl,c⟩
 ·exact⟨rfl,rfl,rfl,rfl,rfl,rfl,rfl,rfl⟩
theorem oV(t:Nat)(h:ac)(a:Int):(recyc t h a).Caches.length=h.Caches.length/\(recyc t h a).Objs=h.Objs/\(recyc t h a).Kernel.Calls=h.Kernel.Calls/\(recyc t h a).Mail=h.Mail/\(recyc t h a).Job=h.Job/\(recyc t h a).Clock=h.Clock/\(recyc t h a).Quar=h.Quar/\(recyc t h a).Kernel.Refuse=h.Kernel.Refuse:=by
 unfold recyc;split
 ·exact⟨X0 ..,rfl,rfl,rfl,rfl,rfl,rfl,rfl⟩
 ·obtain⟨b,c⟩:=tG h (u5 h a) a
  exact⟨Q0 _ b,c⟩
def recycs(t:Nat)(h:ac)(az:List Int):ac:=az.foldl (recyc t) h
theorem i9(t:Nat):∀(az:List Int)(h:ac),(recycs t h az).Caches.length=h.Caches.length/\(recycs t h az).Objs=h.Objs/\(recycs t h az).Kernel.Calls=h.Kernel.Calls/\(recycs t h az).Mail=h.Mail/\(recycs t h az).Job=h.Job/\(recycs t h az).Clock=h.Clock/\(recycs t h az).Quar=h.Quar/\(recycs t h az).Kernel.Refuse=h.Kernel.Refuse
 | [],h=>⟨rfl,rfl,rfl,rfl,rfl,rfl,rfl,rfl⟩
 | a::az,h=>by
  obtain⟨b,c,d,e,f,g,i,j⟩:=i9 t az (recyc t h a);obtain⟨k,l,n,o,p,q,r,u⟩:=oV t h a;exact⟨b.trans k,c.trans l,d.trans n,e.trans o,f.trans p,g.trans q,i.trans r,j.trans u⟩
theorem bn.recycs{t:Nat}{E:List Int} : ∀{az:List Int}{h:ac},bn h (az++E)->t<h.Caches.length->bn (recycs t h az) E
 | [],h,b,_=>b
 | a::az,h,b,c=>bn.recycs (az:=az) (h:=Ab.recyc t h a) (b.recyc c) (by rw[(oV t h a).1];exact c)
def qc(l:List aM):Int:=quarCells l l.length
def mi(room:Int):List aM->Nat
 | []=>0
 | x::xs=>if room<qc (x::xs) then mi room xs+1 else 0
def Fw(q:bC)(x:aM):bC:=⟨q.Room,(q.Lst++[x]).drop (mi q.Room (q.Lst++[x]))⟩
def yh(q:bC)(x:aM):List aM:=(q.Lst++[x]).take (mi q.Room (q.Lst++[x]))
theorem AY(room:Int):∀l,mi room l<=l.length
 | []=>Z1 _
 | x::xs=>by unfold mi;split;(have:=AY room xs;simp only[List.length_cons];omega);omega
theorem zh{room:Int}(a:0<=room):∀l:List aM,qc (l.drop (mi room l))<=room
 | []=>a
 | x::xs=>by
  unfold mi;split
  ·exact zh a xs
  ·rename_i h;show qc (x::xs)<=room;omega
theorem xq{room:Int} : ∀{l:List aM}{k:Nat},k<mi room l->room<qc (l.drop k)
 | [],k,h=>by cases h
 | x::xs,0,h=>by
  unfold mi at h;split at h
  ·assumption
  ·omega
 | x::xs,k+1,h=>by
  unfold mi at h;split at h
  ·exact xq (l:=xs) ω
  ·omega
theorem iE{q:bC} : eX q=true↔(∀x∈q.Lst,0<=x.Class/\x.Class<=3/\0<=x.Addr/\0<=x.Since)/\(q.Lst.Pairwise λa b=>a.Since<=b.Since)/\(q.Lst.map (·.Addr)).Nodup/\0<=q.Room/\q.Room<=500/\qc q.Lst<=q.Room:=by
 refine Iff.trans ?_ (and_congr Iff.rfl (and_congr (td (λa b:Int=>a<=b) (λa b c=>Int.le_trans) (λs:aM=>s.Since) q.Lst) (and_congr (xR (λs:aM=>s.Addr) q.Lst) Iff.rfl)));unfold eX qc;simp only[I0,C0,ch,jc,Bool.not_eq_true',List.any_eq_false,dA];constructor
 ·rintro⟨e,f⟩
  refine⟨λx l=>?_,λi d=>(e i d).1.2.2.2.2,λi d=>(e i d).2,f⟩;obtain⟨i,d,rfl⟩:=bc l;obtain⟨⟨g,h,j,k,-⟩,-⟩:=e i d;exact⟨g,h,j,k⟩
 ·rintro⟨e,f,n,o⟩
  refine⟨λi d=>?_,o⟩;obtain⟨g,h,j,k⟩:=e _ (am d);exact⟨⟨g,h,j,k,f i d⟩,n i d⟩
theorem JX{q:bC}{x:aM}(h:eX q=true)(i:0<=x.Class/\x.Class<=3/\0<=x.Addr/\0<=x.Since)(j:∀y∈q.Lst,y.Since<=x.Since)(k:∀y∈q.Lst,y.Addr≠x.Addr):eX (Fw q x)=true:=by
 obtain⟨l,n,o,g,p,r⟩:=iE.1 h;have c:(Fw q x).Lst.Sublist (q.Lst++[x]):=List.drop_sublist ..;refine iE.2 ⟨λy d=>?_,List.Pairwise.sublist c ?_,List.Nodup.sublist (c.map _) ?_,g,p,zh g _⟩
 ·rcases W1.1 (c.subset d) with d|d
  ·exact l y d
  ·rw[W0.1 d];exact i
 ·exact List.pairwise_append.2 ⟨n,List.pairwise_singleton ..,λa f b e=>by rw[W0.1 e];exact j a f⟩
 ·rw[t4]
  refine List.nodup_append.2 ⟨o,by simp,λa f b e=>?_⟩;obtain⟨y,d,rfl⟩:=C3.1 f;simp only[z4,List.map_nil,W0]at e;rw[e];exact k y d
def kP(r:List Int)(o:Nat):Nat->List Int
 | 0=>r
 | n+1=>(kP r o n).set (o+n) 0
def fD(k:af)(a:Int):Nat:=(ar k.Machine.Table (a / 16)).Frame.toNat
def f9(k:af)(a:Int)(n:Nat):af:={k with Machine:=⟨⟨k.Machine.Frames.Cells.set (fD k a) (kP (nth k.Machine.Frames.Cells (fD k a)) (a % 16).toNat n),k.Machine.Frames.Used⟩,k.Machine.Table⟩}
theorem ny(r:List Int)(o:Nat):∀n,(kP r o n).length=r.length
 | 0=>rfl
 | n+1=>by unfold kP;rw[X0,ny r o n]
theorem x3{r:List Int}{o:Nat} : ∀{n:Nat}{v:Int},v∈kP r o n->v∈r\/v=0
 | 0,v,h=>.inl h
 | n+1,v,h=>by
  rcases P4 h with h|h
  ·exact x3 h
  ·exact .inr h
theorem Ad{k:af}(h:aA k=true)(a:Int)(n:Nat):aA (f9 k a n)=true:=by
 obtain⟨g,i,l,o,p⟩:=aC.1 h;obtain⟨q,r,t,f⟩:=bf.1 i;refine aC.2 ⟨g,bf.2 ⟨?_,?_,?_,λj c=>?_⟩,l,o,p⟩
 ·simp only[f9,X0];exact q
 ·simp only[f9,X0];exact r
 ·simp only[f9,X0];exact t
 ·simp only[f9,X0]at c |-
  simp only[cq];split
  ·rename_i e
   have b:=f j c;unfold gz at b |-;simp only[I0,C0,X2]at b |-;rw[e.1]at *;refine⟨by rw[ny];exact b.1,λv d=>?_⟩;rcases x3 d with d|rfl
   ·exact b.2 v d
   ·unfold gZ;simp
  ·exact f j c
def wH(h:ac)(a:Int):Nat:=(h.Larges.findIdx? λl=>decide (l.Page*16=a)).getD 0
def freeL(h:ac)(i k:Nat):ac:={h with Kernel:=dH h.Kernel (nth h.Larges k).Page (nth h.Larges k).Pages.toNat,Larges:=dele h.Larges k,Free:=(dl (dG h) h.Free ⟨(nth h.Larges k).Page,(nth h.Larges k).Pages⟩).getD h.Free,Objs:=dele h.Objs i}
def k4(h:ac)(o:bG):aM:=⟨o.Addr,aN o.Size,h.Clock⟩
def inQuar(h:ac)(i:Nat):ac:={h with Kernel:=f9 h.Kernel (nth h.Objs i).Addr (csz (aN (nth h.Objs i).Size)).toNat,Objs:=dele h.Objs i,Quar:=Fw h.Quar (k4 h (nth h.Objs i))}
def H5(h:ac)(t i:Nat):ac:=recycs t (inQuar h i) ((yh h.Quar (k4 h (nth h.Objs i))).map (·.Addr))
def freeOb(h:ac)(t i:Nat):ac × Int:=
 if aN (nth h.Objs i).Size<0 then(freeL h i (wH h (nth h.Objs i).Addr),0)
 else if(ar (tbl h) ((nth h.Objs i).Addr / 16)).Mode=1 then(h,5)
 else(H5 h t i,0)
theorem yw{h:ac}{l:a8}(d:l∈h.Larges){a:Int}(e:a=16*l.Page):wH h a<h.Larges.length/\a=16*(nth h.Larges (wH h a)).Page/\(∀j,j<wH h a->(nth h.Larges j).Page*16≠a)/\h.Larges.findIdx? (λl=>decide (l.Page*16=a))=some (wH h a):=by
 cases b:h.Larges.findIdx? λl=>decide (l.Page*16=a) with
 | none=>
  have:=List.findIdx?_eq_none_iff.1 b l d;rw[P3]at this;omega
 | some k=>
  obtain⟨c,f,g⟩:=V4.1 b;have i:wH h a=k:=by unfold wH;rw[b];rfl
  rw[i];rw[<-bp (O1 c),C0]at f;refine⟨c,ω,λj n=>?_,rfl⟩;have:=g j n;rw[<-bp (O1 (show j<h.Larges.length by omega))]at this;simpa using this
theorem eG{h:ac}{E:List Int}(a:bn h E){o:bG}(g:o∈h.Objs):(aN o.Size<0->Na h.Larges o.Addr o.Size)/\(¬aN o.Size<0->(∃s∈h.Spans,eJ s o.Addr/\s.Class=aN o.Size)/\aN o.Size<=3):=by
 rcases a.oow o g with⟨s,d,b,c⟩|⟨l,f,b,c⟩
 ·have i:=aE (a.L.sok s d)
  exact⟨λe=>ω,λ_=>⟨⟨s,d,b,c⟩,ω⟩⟩
 ·have j:=ci (a.L.lok l f)
  refine⟨λ_=>⟨l,f,b,c⟩,λe=>absurd ?_ e⟩;unfold aN;rw[C6 ω,C6 ω,C6 ω,C6 ω,C6 ω]
  decide
theorem bn.inQuar{h:ac}{i:Nat}(a:bn h [])(j:i<h.Objs.length)(r:¬aN (nth h.Objs i).Size<0):bn (inQuar h i) ((yh h.Quar (k4 h (nth h.Objs i))).map (·.Addr)):=by
 obtain⟨⟨s,l,n,t⟩,u⟩:=(eG a (am j)).2 r;have b:iK h.Spans (nth h.Objs i).Addr (aN (nth h.Objs i).Size):=⟨s,l,n,.inr t⟩
 have d:=a.nums;unfold ca at d;rw[C0]at d;have w:=aE (a.L.sok s l);have o:=a.dropO j b.any;have A:=o.cells (k:=f9 h.Kernel (nth h.Objs i).Addr (csz (aN (nth h.Objs i).Size)).toNat) (Ad a.ker _ _) rfl;have f:∀y∈h.Quar.Lst,y.Addr≠(nth h.Objs i).Addr:=λy g e=>by
  have c:=o.nd;rw[List.cons_append,List.nil_append]at c;refine(List.nodup_cons.1 c).1 ?_;rw[<-e];unfold holders;simp only[W1];exact .inl (.inr (C3.2 ⟨y,g,rfl⟩))
 have p:=bn.toQuar (x:=k4 h (nth h.Objs i)) (q:=Fw h.Quar (k4 h (nth h.Objs i))) (out:=yh h.Quar (k4 h (nth h.Objs i))) A (JX a.quar ⟨by show 0<=aN _;omega,u,by show 0<=(nth h.Objs i).Addr;have:=n.1;omega,d.2.2.1⟩ (λy g=>a.snc y g) f) (by unfold yh Fw;simp only[List.take_append_drop]) (T3 _) b;rw[List.append_nil]at p;exact p
theorem bn.freeOb{h:ac}{t i:Nat}(a:bn h [])(b:i<h.Objs.length)(e:t<h.Caches.length):bn (freeOb h t i).1 []:=by
 unfold Ab.freeOb;split
 ·rename_i c
  obtain⟨l,f,d,-⟩:=(eG a (am b)).1 c;obtain⟨g,j,-⟩:=yw f d;obtain⟨o,k,n⟩:=a.dropL b g j;unfold Ab.freeL;rw[k];exact n
 ·rename_i c
  split
  ·exact a
  ·have d:=a.inQuar b c
   refine bn.recycs (E:=[]) ?_ e;rw[List.append_nil];exact d
theorem EK:∀{H L:List Int},H.Nodup->(∀x∈H,x∈L)->H.length<=L.length
 | [],L,_,_=>P0 _
 | y::H,L,f,b=>by
  have c:y∈L:=b y (C1 ..);have a:=List.nodup_cons.1 f;have:=EK (L:=L.erase y) a.2 λz d=>(List.mem_erase_of_ne (λe:z=y=>a.1 (by rw[<-e];exact d))).2 (b z (W3 _ d))
  rw[List.length_erase_of_mem c]at this;have g:=List.length_pos_of_mem c;simp only[List.length_cons];omega
theorem uf{H:List Int}{n:Nat}(c:H.Nodup)(a:∀x∈H,0<=x/\x<n):H.length<=n:=by
 have:=EK (L:=(List.range n).map λ(i:Nat)=>(i:Int)) c λx b=>C3.2 ⟨x.toNat,List.mem_range.2 (by have:=a x b;omega),by have:=a x b;omega⟩
 simpa using this
theorem fK{α:Type}{f:α->Int}{xs:List α}(h:xs.Pairwise λa b=>f a<f b):(xs.map f).Nodup:=by
 unfold List.Nodup;rw[List.pairwise_map];exact h.imp λh e=>ω
theorem H1:∀(b:List (List Int))(k:Nat)(s:List Int),(fp k s b).isSome=true->∀l∈b,l.length<=8
 | [],_,_,_,l,a=>by cases a
 | x::b,k,s,h,l,a=>by
  simp only[fp]at h;cases e:dK k s x with
  | none=>rw[e]at h;cases h
  | some d=>
   rw[e]at h;rcases List.mem_cons.1 a with rfl|a
   ·unfold dK at e
    split at e
    ·rename_i c;exact c.1
    ·cases e
   ·exact H1 b (k+1) d h l a
theorem dR{c:aB}(h:bq c=true):c.Lists.length=4/\∀l∈c.Lists,l.length<=8:=by
 have a:=h;unfold bq at h;simp only[I0,C0]at h;exact⟨h.1,H1 _ _ _ h.2⟩
structure Kr(h:ac):Prop where
 cells:h.Kernel.Machine.Frames.Cells.length<=32
 row:∀r∈h.Kernel.Machine.Frames.Cells,r.length=16
 used:h.Kernel.Machine.Frames.Used.length<=32
 ents:h.Kernel.Machine.Table.Entries.length<=32
 ref:h.Kernel.Refuse.length<=40
 free:h.Free.length<=32
 spans:h.Spans.length<=32
 larges:h.Larges.length<=32
 objs:h.Objs.length<=512
 caches:h.Caches.length<=4
 lists:∀c∈h.Caches,c.Lists.length=4/\∀l∈c.Lists,l.length<=8
 quar:h.Quar.Lst.length<=512
theorem iK.bd{h:ac}{E:List Int}(b:bn h E){a c:Int}(d:iK h.Spans a c):0<=a/\a<512:=by
 obtain⟨s,e,⟨f,g,-⟩,-⟩:=d;have i:=aE (b.L.sok s e);omega
theorem bn.lens{h:ac}{E:List Int}(d:bn h E):Kr h:=by
 obtain⟨O,t,u,P,Q,R,w⟩:=aC.1 d.ker;obtain⟨S,A,T,B⟩:=bf.1 t;obtain⟨U,V,C⟩:=bx.1 u;obtain⟨p,D,W⟩:=eI.1 d.rng;obtain⟨X,Y,F,Z⟩:=iE.1 d.quar;have q:=d.mail;unfold b9 at q;simp only[I0,C0]at q;have G:=d.nc;refine⟨A,λr g=>?_,ω,C,w,?_,?_,?_,?_,ω,λc J=>dR (d.cach c J),?_⟩
 ·obtain⟨j,K,rfl⟩:=bc g
  have:=B j K;unfold gz at this;simp only[I0,C0]at this;exact this.1
 ·have:=uf (H:=h.Free.map (·.At)) (n:=32) (fK (p.1.imp_of_mem fun {a b} ha hb h=>by have:=p.2 a ha;omega)) λx f=>by
   obtain⟨r,g,rfl⟩:=C3.1 f;have:=D r g;omega
  simpa using this
 ·have:=uf (H:=h.Spans.map (·.Page)) (n:=32) d.L.nd λx f=>by
   obtain⟨s,i,rfl⟩:=C3.1 f;have:=aE (d.L.sok s i);omega
  simpa using this
 ·have:=uf (H:=h.Larges.map (·.Page)) (n:=32) (fK d.srl) λx f=>by
   obtain⟨l,k,rfl⟩:=C3.1 f;have:=aT (d.L.lok l k);omega
  simpa using this
 ·have:=uf (H:=h.Objs.map (·.Addr)) (n:=512) (fK d.osr) λx f=>by
   obtain⟨o,M,rfl⟩:=C3.1 f;rcases d.oow o M with⟨s,i,⟨k1,k2,-⟩,-⟩|⟨l,k,e,-⟩
   ·have:=aE (d.L.sok s i);omega
   ·have:=aT (d.L.lok l k);omega
  simpa using this
 ·have:=uf (H:=h.Quar.Lst.map (·.Addr)) (n:=512) F λx f=>by
   obtain⟨y,N,rfl⟩:=C3.1 f;exact(d.hqu y N).bd d
  simpa using this
theorem Kr.sml{h:ac}(a:Kr h)(d:aA h.Kernel=true)(e:aJ.sml h.Mail)(f:cF.sml h.Job):ac.sml h:=
 ⟨b8 d,⟨by have:=a.free;omega,λ_ _=>trivial⟩,⟨by have:=a.spans;omega,λ_ _=>trivial⟩,⟨by have:=a.larges;omega,λ_ _=>trivial⟩,⟨by have:=a.objs;omega,λ_ _=>trivial⟩,⟨by have:=a.caches;omega,λc b=>⟨by have:=(a.lists c b).1;omega,λl g=>by have:=(a.lists c b).2 l g;show l.length<=1048576;omega⟩⟩,e,⟨by have:=a.quar;omega,λ_ _=>trivial⟩,f⟩
def dU(a:Int)(o:bG):Bool:=decide (o.Addr=a)
def m6(h:ac)(a:Int):Nat:=(cQ (dU a) h.Objs).toNat
theorem bn.objAt{h:ac}{E:List Int}(k:bn h E){o:bG}(l:o∈h.Objs):m6 h o.Addr<h.Objs.length/\nth h.Objs (m6 h o.Addr)=o/\cQ (dU o.Addr) h.Objs=(m6 h o.Addr:Nat):=by
 obtain⟨i,a,rfl⟩:=bc l;have d:cQ (dU (nth h.Objs i).Addr) h.Objs=(i:Nat):=d9 (ah a) (by unfold dU;simp) λj z p g=>by
  have b:=bp g;have c:=(P1.1 g).1;subst b;unfold dU;refine O0 λe=>?_
  have:=fG (f:=(·.Addr)) (fK k.osr) c a e;omega
 have n:m6 h (nth h.Objs i).Addr=i:=by unfold m6;rw[d];rfl
 rw[n];exact⟨a,rfl,d⟩
theorem rd(k:af)(p:Int)(n:Nat):(dH k p n).Calls=k.Calls/\(dH k p n).Refuse=k.Refuse:=(gS k p n).2
open Go.RowKit
set_option maxRecDepth 20000
set_option maxHeartbeats 4000000
theorem H4(y:a7)(a:List a7):cN [] (y::a)=cN [y] a:=by rw[cN];rfl
theorem zD{α:Type}[Inhabited α]{xs:List α}(h:xs≠[]):xs.getLast? = some (nth xs (xs.length - 1)):=by
 have a:0<xs.length:=List.length_pos_iff.2 h;rw[List.getLast?_eq_getElem?,ah ω]
theorem Jk{α:Type}{xs:List α}(h:xs≠[])(v:α):xs.dropLast++[v]=xs.set (xs.length - 1) v:=by
 have b:0<xs.length:=List.length_pos_iff.2 h;refine List.ext_getElem (by simp;omega) λi a c=>?_
 rw[List.getElem_set];by_cases e:xs.length - 1=i
 ·subst e
  rw[C7 rfl,List.getElem_append_right (by simp)];simp
 ·rw[C6 e,List.getElem_append_left (by simp at a |-;omega),List.getElem_dropLast]
theorem J6{out:List a7}{y:a7}{a:List a7}(h:out≠[])(e:(nth out (out.length - 1)).At+(nth out (out.length - 1)).Len=y.At):cN out (y::a)=cN (out.set (out.length - 1) ⟨(nth out (out.length - 1)).At,(nth out (out.length - 1)).Len+y.Len⟩) a:=by
 rw[cN,zD h];simp only;rw[C7 e,Jk h]
theorem JQ{out:List a7}{y:a7}{a:List a7}(h:out≠[])(e:¬(nth out (out.length - 1)).At+(nth out (out.length - 1)).Len=y.At):cN out (y::a)=cN (out++[y]) a:=by
 rw[cN,zD h];simp only;rw[C6 e]
theorem pO(xs:List a7)(B:xs.length<=4194304)(o:∀y∈xs,0<=y.At/\1<=y.Len/\y.At+y.Len<=1048576):ao Tryz.prog 404 false [.val none (bF .imm xs)] .one (bF .own (cN [] xs)):=by
 refine fO 63 [(6,21,[15,16,17,18,19,20,21,22,23,24,25,26,27,28,29,30,31,32,33,34,35]),(7,15,[38,39,40,41,42,43,44,45,46,47,48,49,50,51,52])] Tryz.func404 rfl ?_ (.inr (mG _))
 repeat'(first|refine gO ?_|fail)
 (conv=>whnf)
 refine CB (ι:=Nat × List a7) (λq=>[(0,.hold .one (bF .imm xs)),(3,.hold .one (bF .own q.2)),(4,.hold .one [I ((q.1:Nat):Int)])]) (λq=>q.1<=xs.length/\cN q.2 (xs.drop q.1)=cN [] xs/\q.2.length<=q.1/\∀y∈q.2,0<=y.At/\1<=y.Len/\y.At+y.Len<=1048576) (λq=>xs.length - q.1) ((0,[])) ?_ (⟨P0 _,rfl,Z1 _,λy g=>by cases g⟩) λq p=>?_
 ·exact wB
 obtain⟨i,out⟩:=q;obtain⟨t,b,j,c⟩:=p;simp only at t b j c |-;by_cases k:i<xs.length
 ·have l:=ah k
  have g:=o _ (am k);rw[iH k]at b;by_cases h:out=[]
  ·subst h
   rw[H4]at b;have D:([]:List a7).length=0:=rfl
   repeat'(first|refine gD ?_|(conv=>whnf);first|with_reducible refine C9 (aa l) ?_|refine Ln.mk (show List.length _=0 from rfl) ?_|refine Ap.sm (λr u=>by cases u) rfl (by simp) (by decide) rfl ?_)
   ((conv=>whnf)
    refine CA (i+1,[nth xs i]) ⟨(by simp only;omega),b,(by simp),(λy a=>by rw[W0.1 a];exact g)⟩ (by simp only;omega) ?_
    (repeat'(first|exact trivial|rfl|exact CG rfl (CG (Q0 (C.s du.own) (by simp[a7.enc])) trivial)|refine CG ?_ ?_)))
  ·have n:0<out.length:=List.length_pos_iff.2 h
   have d:out[((out.length:Int) - 1).toNat]? = some (nth out (out.length - 1)):=by
    rw[show((out.length:Int) - 1).toNat=out.length - 1 by omega];exact ah ω
   have w:=c _ (am (xs:=out) (i:=out.length - 1) ω);by_cases e:(nth out (out.length - 1)).At+(nth out (out.length - 1)).Len=(nth xs i).At
   ·rw[J6 h e]at b
    repeat'(first|refine gA ?_|(conv=>whnf);first|with_reducible refine C9 (aa l) ?_|refine CI ω (aa d) ?_|refine CE rfl (aa d) rfl ?_|refine CK rfl rfl (aa d) rfl (U0 rfl) rfl ?_)
    ((conv=>whnf)
     refine CA (i+1,out.set (out.length - 1) ⟨(nth out (out.length - 1)).At,(nth out (out.length - 1)).Len+(nth xs i).Len⟩) ⟨(by simp only;omega),b,(by simp only;rw[X0];omega),(λy a=>?_)⟩ (by simp only;omega) ?_)
    ·rcases P4 a with a|rfl
     ·exact c y a
     ·simp only;omega
    ·(repeat'(first|exact trivial|rfl|exact CG rfl (CG (Q0 (C.s du.own) (by rw[show((out.length:Int) - 1).toNat=out.length - 1 by omega,I4];rfl)) trivial)|refine CG ?_ ?_))
   ·rw[JQ h e]at b
    repeat'(first|refine gA ?_|(conv=>whnf);first|with_reducible refine C9 (aa l) ?_|refine CI ω (aa d) ?_|refine CE rfl (aa d) rfl ?_|refine Ap.sm (aR λ_=>rfl) rfl (by simp;omega) (by decide) rfl ?_)
    ((conv=>whnf)
     refine CA (i+1,out++[nth xs i]) ⟨(by simp only;omega),b,(by simp;omega),(λy a=>?_)⟩ (by simp only;omega) ?_)
    ·rcases W1.1 a with a|a
     ·exact c y a
     ·rw[W0.1 a];exact g
    ·(repeat'(first|exact trivial|rfl|exact CG rfl (CG (Q0 (C.s du.own) (by simp[a7.enc])) trivial)|refine CG ?_ ?_))
 ·obtain rfl:i=xs.length:=ω
  rw[List.drop_length]at b
  repeat'(first|refine gD ?_|fail)
  rw[<-b];rfl
theorem xd(r y:a7)(a:List a7)(put:Bool):kC r (y::a) put=if ovl y r then none else if !put&&decide (y.At > r.At) then(kC r a true).map λt=>r::y::t else(kC r a put).map λt=>y::t:=by rw[kC]
theorem ko(pages:Int)(xs:List a7)(r:a7)(H:0<=pages/\pages<=1048576)(J:gw xs):ao Tryz.prog 387 false [.val none [I pages],.val none (bF .imm xs),.val (some 2) (a7.enc .imm r)] (.tup [none,none]) (Do xs (dl pages xs r)):=by
 have w:=J.1;have n:=kr pages xs H J;have E:=vo pages r H;cases o:bw pages xs<;>rw[o]at n
 ·rw[show dl pages xs r=none by unfold dl;rw[C6 (by rw[o];simp)]]
  refine fO 82 [] Tryz.func387 rfl ?_ (.inr (qN _ _))
  repeat'(first|refine gO ?_|(conv=>whnf);first|refine C5 (n) ?_|refine CN (λ_=>rfl) (λ_=>rfl) w (by decide) ?_)
  rfl
 cases k:rangeIn pages r<;>rw[k]at E
 ·rw[show dl pages xs r=none by unfold dl;rw[C6 (by rw[k];simp)]]
  refine fO 82 [] Tryz.func387 rfl ?_ (.inr (qN _ _))
  repeat'(first|refine gO ?_|(conv=>whnf);first|refine C5 (n) ?_|refine C5 (E) ?_|refine CN (λ_=>rfl) (λ_=>rfl) w (by decide) ?_)
  rfl
 obtain⟨K,L⟩:=yu o;have p:0<=r.At/\1<=r.Len/\r.At+r.Len<=pages:=by
  unfold rangeIn at k;rw[C0]at k;omega
 rw[show dl pages xs r=(kC r xs false).map (cN []) by unfold dl;rw[C7 ⟨o,k⟩,wS (pages:=pages) K p.2.1 λz M=>by simp at M]];refine fO 82 [] Tryz.func387 rfl ?_ (.inr (qN _ _))
 repeat'(first|refine gO ?_|(conv=>whnf);first|refine C5 (n) ?_|refine C5 (E) ?_|refine CN (λ_=>rfl) (λ_=>rfl) w (by decide) ?_)
 (conv=>whnf)
 refine CB (ι:=Nat × List a7 × Bool) (λq=>[(1,.hold .one (bF .imm xs)),(5,.hold .box (a7.enc .imm r)),(8,.hold .one (bF .own xs)),(9,.hold .one (bF .own q.2.1)),(10,.hold .one [B (q.2.2)]),(11,.hold .one [I ((q.1:Nat):Int)])]) (λq=>q.1<=xs.length/\(kC r (xs.drop q.1) q.2.2).map (q.2.1++·)=kC r xs false/\q.2.1.length<=q.1+q.2.2.toNat/\(∀y∈q.2.1,0<=y.At/\1<=y.Len/\y.At+y.Len<=1048576)) (λq=>xs.length - q.1) ((0,[],false)) ?_ (⟨P0 _,by simp,by simp,by simp⟩) λq g=>?_
 ·exact wB
 obtain⟨i,out,put⟩:=q;obtain⟨N,b,d,e⟩:=g;simp only at N b d e |-;have l:0<=r.At/\1<=r.Len/\r.At+r.Len<=1048576:=ω
 by_cases F:i<xs.length
 ·have u:=ah F
  have O:=L _ (am F);have h:0<=(nth xs i).At/\1<=(nth xs i).Len/\(nth xs i).At+(nth xs i).Len<=1048576:=ω
  rw[iH F]at b;by_cases j:ovl (nth xs i) r=true
  ·rw[<-b]
   rw[xd,C7 j];unfold ovl at j;rw[C0]at j
   repeat'(first|refine gD ?_|(conv=>whnf);first|with_reducible (first|refine C9 (aa u) ?_|refine Bf.D (λg=>?_) (λg=>?_)))
   rfl
  ·rw[xd,C6 j]at b
   unfold ovl at j;rw[C0]at j;cases put with
   | false=>
    have d:out.length<=i:=by simpa using d
    by_cases P:(nth xs i).At > r.At
    ·rw[C7 (by simp;omega),Option.map_map]at b
     repeat'(first|refine gD ?_|(conv=>whnf);first|with_reducible (first|refine C9 (aa u) ?_|refine Bf.D (λg=>?_) (λg=>?_))|refine Ap.sm (aR λ_=>rfl) rfl (by simp;omega) (by decide) rfl ?_|refine Ap.sm (λr p=>by simp at p;rcases p with⟨a,_,rfl⟩|rfl<;>rfl) rfl (by simp;omega) (by decide) rfl ?_)
     ((conv=>whnf)
      refine CA (i+1,out++[r,nth xs i],true) ⟨(by simp only;omega),(by rw[<-b];congr 1;funext t;simp),(by simp;omega),(λy c=>?_)⟩ (by simp only;omega) ?_)
     ·rcases W1.1 c with c|c
      ·exact e y c
      ·rcases List.mem_cons.1 c with rfl|c
       ·exact l
       ·rw[W0.1 c];exact h
     ·(repeat'(first|exact trivial|rfl|exact CG rfl (CG (Q0 (C.s du.own) (by simp[a7.enc])) trivial)|refine CG ?_ ?_))
    ·rw[C6 (by simp;omega),Option.map_map]at b
     repeat'(first|refine gD ?_|(conv=>whnf);first|with_reducible (first|refine C9 (aa u) ?_|refine Bf.D (λg=>?_) (λg=>?_))|refine Ap.sm (aR λ_=>rfl) rfl (by simp;omega) (by decide) rfl ?_)
     ((conv=>whnf)
      refine CA (i+1,out++[nth xs i],false) ⟨(by simp only;omega),(by rw[<-b];congr 1;funext t;simp),(by simp;omega),(λy c=>?_)⟩ (by simp only;omega) ?_)
     ·rcases W1.1 c with c|c
      ·exact e y c
      ·rw[W0.1 c];exact h
     ·(repeat'(first|exact trivial|rfl|exact CG rfl (CG (Q0 (C.s du.own) (by simp[a7.enc])) trivial)|refine CG ?_ ?_))
   | true=>
    have d:out.length<=i+1:=d;rw[C6 (by simp),Option.map_map]at b;by_cases Q:(nth xs i).At<r.At+r.Len
    all_goals
     repeat'(first|refine gD ?_|(conv=>whnf);first|with_reducible (first|refine C9 (aa u) ?_|refine Bf.D (λg=>?_) (λg=>?_))|refine Ap.sm (aR λ_=>rfl) rfl (by simp;omega) (by decide) rfl ?_)
     ((conv=>whnf)
      refine CA (i+1,out++[nth xs i],true) ⟨(by simp only;omega),(by rw[<-b];congr 1;funext t;simp),(by simp;omega),(λy c=>?_)⟩ (by simp only;omega) ?_)
     ·rcases W1.1 c with c|c
      ·exact e y c
      ·rw[W0.1 c];exact h
     ·(repeat'(first|exact trivial|rfl|exact CG rfl (CG (Q0 (C.s du.own) (by simp[a7.enc])) trivial)|refine CG ?_ ?_))
 ·obtain rfl:i=xs.length:=ω
  rw[List.drop_length]at b;cases put with
  | false=>
   have d:out.length<=xs.length:=by simpa using d
   rw[<-b];have G:=pO (out++[r]) (by simp;omega) (λy c=>by
     rcases W1.1 c with c|c
     · exact e y c
     · rw[W0.1 c];exact l)
   repeat'(first|refine gD ?_|(conv=>whnf);first|refine Ap.sm (aR λ_=>rfl) rfl (by simp;omega) (by decide) (show(out++[r]).map (a7.enc .own)=_ by simp[a7.enc]) ?_|refine CD (G) ⟨⟨rfl,d8 _⟩,trivial⟩ ?_)
   rfl
  | true=>
   have d:out.length<=xs.length+1:=d;rw[<-b];have G:=pO out ω e
   repeat'(first|refine gD ?_|(conv=>whnf);first|refine CD (G) ⟨⟨rfl,d8 _⟩,trivial⟩ ?_)
   simp[kC,Do]
   rfl
theorem shl64{i:Int}(d:0<=i/\i<=15):IntKind.i64.wrap (1*2 ^ min i.toNat IntKind.i64.bits)=2 ^ i.toNat/\0<=(2:Int) ^ i.toNat/\(2:Int) ^ i.toNat<=32768:=by
 have a:min i.toNat IntKind.i64.bits=i.toNat:=Nat.min_eq_left (show i.toNat<=64 by omega);have b:(0:Int)<=2 ^ i.toNat/\(2:Int) ^ i.toNat<=32768:=by
  have:(2:Nat) ^ i.toNat<=2 ^ 15:=Nat.pow_le_pow_right (by decide) ω;have c:((2 ^ i.toNat:Nat):Int)=(2:Int) ^ i.toNat:=Int.natCast_pow 2 i.toNat;rw[<-c];exact⟨Int.natCast_nonneg _,Int.ofNat_le.2 this⟩
 rw[a,Int.one_mul];exact⟨er ω ω,b⟩
theorem clr64{b i:Int}(a:0<=b/\b<=65535):IntKind.i64.wrap ((BitVec.ofInt IntKind.i64.bits b &&& ~~~BitVec.ofInt IntKind.i64.bits (2 ^ i.toNat)).toNat:Nat)=w8 b i:=by
 have:=yI (i:=i) a;unfold w8 at this |-;exact er ω ω
theorem q7(b i:Int)(c:0<=b/\b<=65535)(d:0<=i/\i<=15):ao Tryz.prog 405 false [.val none [I b],.val none [I i]] .one [I (w8 b i)]:=by
 have a:=nG b i;rw[N0 ω]at a;have e:IntKind.u64.wrap i=i:=by unfold IntKind.wrap;simp[IntKind.signed,IntKind.bits];omega
 refine fO 15 [] Tryz.func405 rfl ?_
 repeat'(first|refine gO ?_|(conv=>whnf);first|refine C8 ?_|refine C5 (a) ?_|refine CJ ω ?_|refine CH e ?_|refine CH (shl64 d).1 ?_|refine CH (clr64 c) ?_)
 rfl
theorem Ko{s:au}{k:Int}(a:aW s.Bits k=true):0<=k/\k<=15:=by
 have:=(fy _ _).1 a;omega
theorem vN(s:au)(k:Int)(a:aX s=true)(b:aW s.Bits k=true):ao Tryz.prog 391 false [.val (some 3) (au.enc .imm s),.val none [I k]] (.tup [some 3,none]) (au.enc .own (lw s k)++[B true]):=by
 have e:=dZ a;have g:=Ko b;have c:=f6 s;have d:=gV s.Bits k ω;rw[a]at c;rw[b]at d;refine fO 23 [] Tryz.func391 rfl ?_ (.inr (aO (au.enc_fr _) ⟨trivial,trivial⟩))
 repeat'(first|refine gO ?_|(conv=>whnf);first|refine C8 ?_|refine C5 (c) ?_|refine C5 (d) ?_|refine C5 (q7 s.Bits k e g) ?_)
 rfl
theorem uy(c:aB)(k:Int)(b:aB.sml c):ao Tryz.prog 340 false [.val (some 1) (aB.enc .imm c),.val none [I k]] .one [B (bq c&&decide (0<=k/\k<=3))]:=by
 have a:=lZ c b;cases e:bq c<;>rw[e]at a
 all_goals
  refine fO 11 [] Tryz.func340 rfl ?_
  repeat'(first|refine gO ?_|(conv=>whnf);first|refine C8 ?_|refine C5 (a) ?_|refine C5 (aD k 0 3) ?_)
  all_goals rfl
theorem qR{c:aB}{k:Nat}(a:k<c.Lists.length):c.Lists[k]? = some (nth c.Lists k):=ah a
theorem Hx{c:aB}(h:bq c=true)(k:Nat)(a:Int):aB.sml (lH c k a):=by
 obtain⟨f,d⟩:=dR h;refine⟨by simp only[lH,X0];omega,λl b=>?_⟩;rcases P4 b with b|rfl
 ·have:=d l b;show l.length<=1048576;omega
 ·show(nth c.Lists k++[a]).length<=1048576
  by_cases e:k<c.Lists.length
  ·have:=d _ (am e);simp;omega
  ·have:nth c.Lists k=[]:=by unfold nth;rw[R1,Q1 ω];rfl
   rw[this];simp
theorem Ji(c:aB)(k:Nat)(a:Int):aB.enc .own (lH c k a)=[.s .own ((c.Lists.map (aF .own)).set k (aF .own (nth c.Lists k++[a])))]:=by simp[aB.enc,lH,I4]
theorem fA{α:Type}{f:α->List C}{xs:List α}{k:Nat}{y:α}{r:List C}(h:xs[k]? = some y):((xs.map f).set k r)[k]? = some r:=by
 rw[P2 (by rw[T0];exact(P1.1 h).1)]
theorem gN{α β:Type}(f:α->β)(xs:List α)(y:α):(xs++[y]).map f=xs.map f++[f y]:=by simp
def EH(c:aB)(k a:Int):List C:=aB.enc .own ((cput c k a).getD c)++[B (cput c k a).isSome]
theorem HH(c:aB)(k a:Int):gv (EH c k a):=aO (aB.enc_fr _) ⟨trivial,trivial⟩
theorem wK(c:aB)(k:Nat)(a:Int)(h:bq c=true)(B:k<=3):ao Tryz.prog 403 false [.val (some 1) (aB.enc .imm c),.val none [I (k:Nat)],.val none [I a]] (.tup [some 1,none]) (EH c k a):=by
 obtain⟨D,q⟩:=dR h;have r:aB.sml c:=⟨ω,λl u=>by have:=q l u;show l.length<=1048576;omega⟩
 have n:=uy c k r;rw[h,N0 ω]at n;have t:=gX c r;have d:=Hx h k a;have o:=lZ (lH c k a) d;have w:=gX (lH c k a) d;have b:=qR (c:=c) (k:=k) ω;have y:=q _ (am (xs:=c.Lists) (i:=k) ω);have j:=aB.enc_fz (lH c k a);rw[Ji]at j;have g:=HH c k a;unfold EH at g |-;cases e:bq (lH c k a)<;>rw[e]at o
 ·have p:cput c k a=none:=by unfold cput;rw[C6 λx=>by have:=x.2.2.2;rw[U1,e]at this;cases this]
  rw[p]at g |-;refine fO 35 [(4,267,[16,17,18,19,20,21,22,23,24,25,27,0,1,2,3,4,5,6,7,8,9,10,1000,1001,1002,11,12])] Tryz.func403 rfl ?_ (.inr g)
  repeat'(first|refine gO ?_|(conv=>whnf);first|with_reducible refine C9 (aa b) ?_|refine C8 ?_|refine C9 (fA b) ?_|refine CE rfl (fA b) rfl ?_|refine C5 (n) ?_|refine C5 (t) ?_|refine Lq.one rfl rfl (aa b) rfl (U0 rfl) rfl rfl ?_|refine CE rfl (aa b) rfl ?_|refine CK rfl rfl (fA b) rfl (U0 rfl) (show [C.s du.own ((c.Lists.map (aF .own)).set k (aF .own (nth c.Lists k++[a])))]=_ from by simp only[List.set_cons_zero,List.set_set,U1];rfl) ?_|refine Ap.sm (aR λ_=>rfl) rfl (by simp;omega) (by decide) (gN _ _ _) ?_|refine CD (o) ⟨⟨rfl,j⟩,trivial⟩ ?_)
  rfl
 ·have p:cput c k a=some (lH c k a):=by unfold cput;rw[C7 ⟨h,ω,ω,by rw[U1];exact e⟩,U1]
  rw[p]at g |-;refine fO 35 [(4,267,[16,17,18,19,20,21,22,23,24,25,27,0,1,2,3,4,5,6,7,8,9,10,1000,1001,1002,11,12])] Tryz.func403 rfl ?_ (.inr g)
  repeat'(first|refine gO ?_|(conv=>whnf);first|with_reducible refine C9 (aa b) ?_|refine C8 ?_|refine C9 (fA b) ?_|refine CE rfl (fA b) rfl ?_|refine C5 (n) ?_|refine C5 (t) ?_|refine Lq.one rfl rfl (aa b) rfl (U0 rfl) rfl rfl ?_|refine CE rfl (aa b) rfl ?_|refine CK rfl rfl (fA b) rfl (U0 rfl) (show [C.s du.own ((c.Lists.map (aF .own)).set k (aF .own (nth c.Lists k++[a])))]=_ from by simp only[List.set_cons_zero,List.set_set,U1];rfl) ?_|refine Ap.sm (aR λ_=>rfl) rfl (by simp;omega) (by decide) (gN _ _ _) ?_|refine CD (o) ⟨⟨rfl,j⟩,trivial⟩ ?_|refine CD (w) ⟨⟨rfl,j⟩,trivial⟩ ?_)
  rfl
theorem Aw(o:bG)(a:Int):ao Tryz.prog 102 false [.val (some 4) (bG.enc .imm o),.ptr [I a]] .one [B (dU a o)]:=by
 refine fO 8 [] Tryz.func102 rfl ?_
 repeat'(first|refine gO ?_|(conv=>whnf);first|refine C8 ?_)
 exact Q0 (λz=>[B z]) ((by unfold dU;rw[Q3];simp))
theorem uH(h:ac)(a:Int)(c:h.Objs.length<=1048576):ao Tryz.prog 29 false [.val (some 24) (ac.enc .imm h),.val none [I a]] .one [I (cQ (dU a) h.Objs)]:=by
 refine fO 9 [] Tryz.func29 rfl ?_
 repeat'(first|refine gO ?_|(conv=>whnf);first|refine C8 ?_|refine Cq.mk (zX (some 4) (bG.enc .imm) (dU a) h.Objs) (Aw default a).has (λL k rcs b=>?_) ?_|refine C5 (ow h.Objs (dU a) ω) ?_)
 ·obtain⟨y,-,rfl,rfl,rfl⟩:=b
  exact Aw y a
 ·rfl
def bu(x:ac):List C:=[.s .own (x.Kernel.Machine.Frames.Cells.map (aF .own)),.s .own (x.Kernel.Machine.Frames.Used.map (rB .own)),.s .own (x.Kernel.Machine.Table.Entries.map (bj.enc .own)),I x.Kernel.Calls,.s .own (x.Kernel.Refuse.map (rI .own)),.s .own (x.Free.map (a7.enc .own)),.s .own (x.Spans.map (au.enc .own)),.s .own (x.Larges.map (a8.enc .own)),.s .own (x.Objs.map (bG.enc .own)),.s .own (x.Caches.map (aB.enc .own)),.s .own (x.Mail.Buffers.map (cL .own)),.s .own (x.Mail.Inbox.map (aF .own)),I x.Quar.Room,.s .own (x.Quar.Lst.map (aM.enc .own)),I x.Seed,I x.Clock,I x.Limit,I x.Next,B x.Meshing,I x.Job.Plan.Keep,I x.Job.Plan.Move,.s .imm (x.Job.Plan.Cells.map (rI .imm)),I x.Job.Phase,I x.Job.Next]
theorem bz(x:ac):d5 (bu x)=ac.enc .imm x:=by simp[d5,bu,ac.enc,aB.enc_fz,bj.enc_fz,a8.enc_fz,bG.enc_fz,a7.enc_fz,au.enc_fz,aM.enc_fz,rB,oH,rI,dz,<-bS,v4]
def ur(x:cF):List C:=[I x.Plan.Keep,I x.Plan.Move,.s .imm (x.Plan.Cells.map (rI .imm)),I x.Phase,I x.Next]
theorem Pu.two{g a:List C}{off i k j h l c:Nat}{cs:List C}{K:List C->Prop}{o d:du}{rows rows2:List (List C)}{r f:List C}(h1:g[off]? = some (.s o rows))(u:o.mine=true)(n:rows[i]? = some r)(w:r.length=k)(p:r[j]? = some (.s d rows2))(y:d.mine=true)(q:rows2[h]? = some f)(A:f.length=l)(E:c+cs.length<=l)(B:a=g.set off (.s o (rows.set i (r.set j (.s d (rows2.set h (splice f c cs)))))))(D:K a):Pu g off [(i,k,j),(h,l,c)] cs K:=by
 have t:o≠.imm:=λe=>by subst e;cases u
 have b:d≠.imm:=λe=>by subst e;cases y
 refine Pu.mk (r:=f) (j:=c) (by simp[bO,h1,n,w,p,q,A]) (by simp[iS,h1,n,t,p,q,b]) ω (by rw[B];simp[eP,h1,n,p,q]) D
theorem zZ(x:List au):fz (.s .own (x.map (au.enc .own)))=.s .imm (x.map (au.enc .imm)):=(List.cons.inj (tf x)).1
theorem xv(x:List a8):fz (.s .own (x.map (a8.enc .own)))=.s .imm (x.map (a8.enc .imm)):=(List.cons.inj (zH x)).1
theorem zo(x:List bG):fz (.s .own (x.map (bG.enc .own)))=.s .imm (x.map (bG.enc .imm)):=(List.cons.inj (G1 x)).1
theorem Ap.dele{α:Type}{e:α->List C}{xs:List α}{i sz by_:Nat}{K:List (List C)->Prop}(a:∀y,(e y).length=sz)(b:∀y,aU (e y)=true)(h:xs.length<=1048576)(c:by_<=1000)(d:K ((Ab.dele xs i).map e)):Ap true ((xs.take i).map e) ((xs.drop (i+1)).map e) sz by_ K:=by
 have f:(xs.take i).length+(xs.drop (i+1)).length<=2097152:=by rw[Z0,N2];omega
 refine CO (aR a) (aR a) (λ_ r g=>by obtain⟨y,-,rfl⟩:=C3.1 g;exact b y) (by rw[T0,T0];omega) (by rw[T0,T0];exact R3 (Nat.mul_le_mul f c) (by decide)) ?_ d;unfold Ab.dele;rw[t4]
theorem Gg(h:ac)(p:Int)(a:aG.sml h.Kernel.Machine.Table):ao Tryz.prog 348 false [.ptr (ac.enc .imm h),.val none [I p]] .one [I (ar h.Kernel.Machine.Table p).Mode]:=by
 refine fO 13 [] Tryz.func348 rfl ?_
 repeat'(first|refine gO ?_|(conv=>whnf);first|refine C8 ?_|refine C5 (cH h.Kernel.Machine.Table p a) ?_)
 rfl
def Li(h:ac):List C:=(bu h).drop 5
theorem Mo(h:ac)(k:af):bu {h with Kernel:=k} = af.enc .own k++Li h:=rfl
theorem Az(h:ac):Li h=[.s .own (h.Free.map (a7.enc .own)),.s .own (h.Spans.map (au.enc .own)),.s .own (h.Larges.map (a8.enc .own)),.s .own (h.Objs.map (bG.enc .own)),.s .own (h.Caches.map (aB.enc .own)),.s .own (h.Mail.Buffers.map (cL .own)),.s .own (h.Mail.Inbox.map (aF .own)),I h.Quar.Room,.s .own (h.Quar.Lst.map (aM.enc .own)),I h.Seed,I h.Clock,I h.Limit,I h.Next,B h.Meshing,I h.Job.Plan.Keep,I h.Job.Plan.Move,.s .imm (h.Job.Plan.Cells.map (rI .imm)),I h.Job.Phase,I h.Job.Next]:=rfl
theorem Gu(h:ac)(f:Int)(a:aG.sml h.Kernel.Machine.Table)(b:0<=f/\f<h.Kernel.Machine.Frames.Cells.length/\f<h.Kernel.Machine.Frames.Used.length) :
  aQ Tryz.prog 349 false [.ptr (bu h),.val none [I f]] [.ptr (bu {h with Kernel:=gI h.Kernel f}),.val none [I f]] (.tup []) []:=by
 have c:=ah (xs:=h.Kernel.Machine.Frames.Cells) (i:=f.toNat) ω;have d:=ah (xs:=h.Kernel.Machine.Frames.Used) (i:=f.toNat) ω;rw[Mo h (gI h.Kernel f)];by_cases e:(pagesOn h.Kernel.Machine.Table f).length=0
 ·rw[xu e,Az]
  refine fM 30 [] [(2,8,[21,22,23,24,25,26,27,28])] [(0,0),(0,0)] Tryz.func349 rfl (λu q=>?_) (.inr trivial)
  repeat'(first|refine gA ?_|(conv=>whnf);first|with_reducible (first|refine CI b.1 (aa d) ?_|refine CI b.1 (aa c) ?_)|refine C8 ?_|refine CD (fJ h.Kernel.Machine.Table f a) ⟨⟨rfl,CT h.Kernel.Machine.Table⟩,⟨rfl,rfl⟩,trivial⟩ ?_|refine CK rfl rfl (aa c) rfl (U0 rfl) rfl ?_|refine CK rfl rfl (aa d) rfl (U0 rfl) rfl ?_|refine Mk.mk 16 rfl rfl (by decide) (by decide) rfl ?_)
  refine CC rfl rfl ?_;exact wB
 ·rw[Ah e]
  show aQ _ _ _ [.ptr (bu h),_] [.ptr (bu h),_] _ _;refine fM 30 [] [(2,8,[21,22,23,24,25,26,27,28])] [(0,0),(0,0)] Tryz.func349 rfl (λu q=>?_) (.inr trivial)
  repeat'(first|refine gA ?_|(conv=>whnf);first|refine C8 ?_|refine CD (fJ h.Kernel.Machine.Table f a) ⟨⟨rfl,CT h.Kernel.Machine.Table⟩,⟨rfl,rfl⟩,trivial⟩ ?_)
  refine CC rfl rfl ?_;exact wB
theorem lb(h:ac)(p:Int)(b:aA h.Kernel=true) :
  aQ Tryz.prog 297 false [.ptr (bu h),.val none [I p]] [.ptr (bu {h with Kernel:=dB h.Kernel p}),.val none [I p]] .one [B (decide ((ar h.Kernel.Machine.Table p).Mode≠0))]:=by
 have k:=b8 b;have c:=Gg h p k.1.2;by_cases a:(ar h.Kernel.Machine.Table p).Mode=0
 ·rw[show dB h.Kernel p=h.Kernel by unfold dB;rw[C7 a]]
  refine fM 32 [(349,[2,0])] [] [(0,0),(0,0)] Tryz.func297 rfl (λu q=>?_)
  repeat'(first|refine gA ?_|(conv=>whnf);first|refine C8 ?_|refine CD (c) ⟨bz h,⟨rfl,rfl⟩,trivial⟩ ?_)
  refine CC rfl ?_ ?_
  ·exact Q0 (λz=>[B z]) ((by simp[a]))
  ·exact wB
 ·obtain⟨l,r,n,d,o⟩:=co b a
  have j:=(bf.1 (aC.1 b).2.1).2.2.1;rw[show dB h.Kernel p=gI (oW h.Kernel p) (ar h.Kernel.Machine.Table p).Frame by unfold dB;rw[C6 a]];have e:=Gu {h with Kernel:=oW h.Kernel p} (ar h.Kernel.Machine.Table p).Frame (GH b) ⟨d,by simp only[oW];omega,by simp only[oW];omega⟩;rw[Mo h (oW h.Kernel p),GD,Az]at e;have g:=ah (xs:=h.Kernel.Machine.Table.Entries) (i:=p.toNat) ω;rw[n]at c e a |-;refine fM 32 [(349,[2,0])] [] [(0,0),(0,0)] Tryz.func297 rfl (λu q=>?_)
  repeat'(first|refine gA ?_|(conv=>whnf);first|with_reducible refine CI l (aa g) ?_|refine C8 ?_|refine CD (c) ⟨bz h,⟨rfl,rfl⟩,trivial⟩ ?_|refine CK rfl rfl (aa g) rfl (U0 rfl) rfl ?_|refine CE rfl (aa g) rfl ?_|refine CF (e) (.inl rfl) ?_)
  refine CC rfl ?_ ?_
  ·exact Q0 (λz=>[B z]) ((by simp[a]))
  ·exact wB
theorem rP(h:ac)(p:Int):ao Tryz.prog 290 false [.ptr (ac.enc .imm h),.val none [I p]] .one [B (gc h p)]:=by
 cases e:h.Meshing
 all_goals
  have b:ac.enc .imm h=(ac.enc .imm h).set 18 (B h.Meshing):=rfl;rw[e]at b;rw[b];refine fO 29 [] Tryz.func290 rfl ?_
  repeat'(first|refine gO ?_|(conv=>whnf);first|with_reducible (first|refine Bf.D (λa=>?_) (λa=>?_)|refine Bf.E (λa=>?_) (λa=>?_)|refine Bf.N (λa=>?_) (λa=>?_))|refine C8 ?_)
  all_goals exact Q0 (λz=>[B z]) ((by unfold gc;rw[e];first|(simp[*];done)|(simp[*];rw[Q3];simp)))
theorem gf(h:ac):ao Tryz.prog 295 false [.ptr (ac.enc .imm h)] .one [I (dG h:Nat)]:=by
 refine fO 11 [] Tryz.func295 rfl ?_
 repeat'(first|refine gO ?_|(conv=>whnf);first|refine C8 ?_)
 rfl
theorem oB(h:ac)(a:Int)(k:h.Objs.length<=1048576):ao Tryz.prog 53 false [.val (some 24) (ac.enc .imm h),.val none [I a]] .one [I (cQ (dU a) h.Objs)]:=by
 refine fO 22 [] Tryz.func53 rfl ?_
 repeat'(first|refine gO ?_|(conv=>whnf);first|refine C8 ?_)
 (conv=>whnf)
 refine CB (ι:=Nat) (λi=>[(1,.hold .one [I (a)]),(2,.hold .box (ac.enc .imm h)),(5,.hold .one [I ((i:Nat):Int)])]) (λi=>i<=h.Objs.length/\∀(j:Nat)(z:bG),j<i->h.Objs[j]? = some z->dU a z=false) (λi=>h.Objs.length - i) (0) ?_ (⟨P0 _,λj z l=>ω⟩) λi d=>?_
 ·exact wB
 obtain⟨d,c⟩:=d;by_cases g:i<h.Objs.length
 ·have b:=ah g
  by_cases e:(nth h.Objs i).Addr=a
  ·repeat'(first|refine gA ?_|(conv=>whnf);first|with_reducible refine C9 (aa b) ?_|refine C8 ?_)
   exact Q0 (λz=>[I z]) (d9 b (by unfold dU;simp[e]) c).symm
  ·repeat'(first|refine gA ?_|(conv=>whnf);first|with_reducible refine C9 (aa b) ?_|refine C8 ?_)
   ((conv=>whnf);refine CA (i+1) ⟨ω,cW b (by unfold dU;simp[e]) c⟩ ω ?_;(exact wB))
 ·repeat'(first|refine gD ?_|(conv=>whnf);first|refine C8 ?_)
  exact Q0 (λz=>[I z]) (f7 ω c).symm
theorem lX(h:ac)(i:Nat)(b:i<h.Objs.length)(a:h.Objs.length<=1048576):aQ Tryz.prog 382 false [.ptr (bu h),.val none [I (i:Nat)]] [.ptr (bu {h with Objs:=dele h.Objs i}),.val none [I (i:Nat)]] (.tup []) []:=by
 refine fM 23 [] [(0,273,[4,5,6,7,8,9,10,11,13,14,15,16,17,18,19,21,22,0,1,2,3,4,5,6,7,9,10,11,12,13,14,15,8,1000,1009,1010,1011,1012,1013,1014,1015,16,1000,17,18,19]),(1048576,0,[8])] [(0,0),(0,0)] Tryz.func382 rfl (λu q=>?_) (.inr trivial)
 repeat'(first|refine gO ?_|(conv=>whnf);first|refine C8 ?_|refine DQ.mk rfl (zo h.Objs) rfl ?_|refine CR i rfl (by rw[T0];omega) (aR λ_=>rfl) v3 ?_|refine Sl.suf (i+1) rfl (by rw[T0];omega) (aR λ_=>rfl) z3 ?_|refine CQ (λ_=>rfl) (λ_=>rfl) (by rw[Z0];omega) (by decide) ?_|refine Ap.dele (λ_=>rfl) (λ_=>rfl) a (by decide) ?_|refine CN (λ_=>rfl) (λ_=>rfl) (by rw[Z0];omega) (by decide) ?_|refine C8 ?_)
 refine CC rfl rfl ?_;exact wB
theorem yE(h:ac)(E:List Int)(i:Nat)(b:bn h E)(e:i<h.Spans.length):aQ Tryz.prog 392 false [.ptr (bu h),.val none [I (i:Nat)]] [.ptr (bu (giveP h i)),.val none [I (i:Nat)]] (.tup []) []:=by
 have a:=b.lens;have g:=a.spans;have c:=ah e;have j:=lb {h with Spans:=dele h.Spans i} (nth h.Spans i).Page b.ker;have d:=gf {h with Kernel:=dB h.Kernel (nth h.Spans i).Page,Spans:=dele h.Spans i};rw[show dG {h with Kernel:=dB h.Kernel (nth h.Spans i).Page,Spans:=dele h.Spans i} = dG h from(ox _ _).1]at d;have k:dG h<=32:=a.ents;have l:=ko (dG h:Nat) h.Free ⟨(nth h.Spans i).Page,1⟩ ⟨ω,ω⟩ ⟨by have:=a.free;omega,λ_ _=>trivial⟩;refine fM 52 [(297,[2,0])] [(1,273,[13,14,15,16,17,18,19,20,22,23,24,25,26,27,28,30,31,0,1,2,3,4,5,6,7,9,10,11,12,13,14,15,8,1000,1009,1010,1011,1012,1013,1014,1015,16,1000,17,18,19]),(1048577,0,[6]),(3,270,[38,39,40,41,42,43,44,45,47,37,48,49,50,51,0,1,2,3,4,5,6,7,8,1000,1001,1002,1003,1004,1005,1006,9,10,11,12,13,14,15,1012])] [(0,0),(0,0)] Tryz.func392 rfl (λu q=>?_) (.inr trivial)
 repeat'(first|refine gO ?_|(conv=>whnf);first|with_reducible refine C9 (aa c) ?_|refine C8 ?_|refine DQ.mk rfl (zZ h.Spans) rfl ?_|refine CR i rfl (by rw[T0];omega) (aR λ_=>rfl) v3 ?_|refine Sl.suf (i+1) rfl (by rw[T0];omega) (aR λ_=>rfl) z3 ?_|refine CQ (λ_=>rfl) (λ_=>rfl) (by rw[Z0];omega) (by decide) ?_|refine Ap.dele (λ_=>rfl) (λ_=>rfl) ω (by decide) ?_|refine CN (λ_=>rfl) (λ_=>rfl) (by rw[Z0];omega) (by decide) ?_|refine CE rfl (aa c) rfl ?_|refine C8 ?_|refine CF (j) (.inl rfl) ?_|refine CD (d) ⟨bz _,trivial⟩ ?_|refine CD (l) ⟨⟨rfl,rfl⟩,⟨rfl,d8 h.Free⟩,⟨rfl,rfl⟩,trivial⟩ ?_)
 refine CC rfl rfl ?_;exact wB
theorem uh(h:ac)(i:Nat)(a:Int):bu (clrS h i a)=(bu h).set 6 (.s .own ((h.Spans.map (au.enc .own)).set i (au.enc .own (lw (nth h.Spans i) (dI (nth h.Spans i) a))))):=by
 simp[bu,clrS,I4]
theorem qk{α β:Type}{f:α->β}{xs:List α}{i:Nat}{y:β}(a:i<xs.length):((xs.map f).set i y)[i]? = some y:=by
 rw[P2 (by rw[T0];exact a)]
theorem Fr{s:au}(c:aX s=true){a:Int}(b:eJ s a):gM s a=(dI s a,0):=by
 unfold gM;rw[C7 ((fB c).2 ⟨b.1,b.2.1⟩),b.2.2.1];rfl
theorem lM(h:ac)(E:List Int)(a:Int)(c:bn h (a::E)):aQ Tryz.prog 364 false [.ptr (bu h),.val none [I a]] [.ptr (bu (freeA h a)),.val none [I a]] (.tup []) []:=by
 obtain⟨g,n,t⟩:=c.at (c.hin a (C1 ..));have d:=(c.hin a (C1 ..)).bd c;have B:=c.lens;have C:=B.spans;have e:=c.L.sok _ (am g);have k:=iJ h (a / 16) ω;rw[t]at k;unfold freeA;generalize u5 h a=i at g n k e;have b:=ah g;have o:=rH (nth h.Spans i) a ⟨ω,ω⟩;rw[Fr e n]at o;have w:=vN (nth h.Spans i) (dI (nth h.Spans i) a) e n.2.2.2;have D:=c.give g n;have l:=rP (clrS h i a) (nth h.Spans i).Page;rw[show gc (clrS h i a) (nth h.Spans i).Page=gc h (nth h.Spans i).Page from rfl]at l;have p:=yE (clrS h i a) E i D (by unfold clrS;simp only[X0];exact g);have r:=bz (clrS h i a);rw[uh]at p r;have j:((h.Spans.map (au.enc .own)).set i (au.enc .own (lw (nth h.Spans i) (dI (nth h.Spans i) a))))[i]? = some (au.enc .own (lw (nth h.Spans i) (dI (nth h.Spans i) a))):=qk g;unfold freeS;by_cases y:(lw (nth h.Spans i) (dI (nth h.Spans i) a)).Bits=0
 ·cases F:gc h (nth h.Spans i).Page<;>rw[F]at l
  ·rw[C7 ⟨y,rfl⟩]
   refine fM 68 [(392,[2,0])] [(2,274,[26,27,28,29,30,31,32,33,34,35,36,37,38,39,25,40,41,42,0,1,2,3,4,5,6,7,8,9,10,11,12,13,14,15,16,17,18,1016])] [(0,0),(0,0)] Tryz.func364 rfl (λu q=>?_) (.inr trivial)
   repeat'(first|refine gA ?_|(conv=>whnf);first|with_reducible refine CH ((Q0 _ (tdiv16 d.1)).trans (er ω ω)) ?_|refine C8 ?_|refine CJ (by decide) ?_|refine CD (k) ⟨⟨rfl,bz h⟩,⟨rfl,rfl⟩,trivial⟩ ?_|refine C9 (aa b) ?_|refine C9 j ?_|refine CE rfl (aa b) rfl ?_|refine CE rfl j rfl ?_|refine C5 (o) ?_|refine C5 (w) ?_|refine C8 ?_|refine CK rfl rfl (aa b) rfl (U0 rfl) rfl ?_|refine CD (l) ⟨r,⟨rfl,rfl⟩,trivial⟩ ?_|refine CF (p) (.inl rfl) ?_)
   refine CC rfl rfl ?_;exact wB
  ·rw[C6 λx=>by cases x.2]
   rw[uh];refine fM 68 [(392,[2,0])] [(2,274,[26,27,28,29,30,31,32,33,34,35,36,37,38,39,25,40,41,42,0,1,2,3,4,5,6,7,8,9,10,11,12,13,14,15,16,17,18,1016])] [(0,0),(0,0)] Tryz.func364 rfl (λu q=>?_) (.inr trivial)
   repeat'(first|refine gA ?_|(conv=>whnf);first|with_reducible refine CH ((Q0 _ (tdiv16 d.1)).trans (er ω ω)) ?_|refine C8 ?_|refine CJ (by decide) ?_|refine CD (k) ⟨⟨rfl,bz h⟩,⟨rfl,rfl⟩,trivial⟩ ?_|refine C9 (aa b) ?_|refine C9 j ?_|refine CE rfl (aa b) rfl ?_|refine CE rfl j rfl ?_|refine C5 (o) ?_|refine C5 (w) ?_|refine C8 ?_|refine CK rfl rfl (aa b) rfl (U0 rfl) rfl ?_|refine CD (l) ⟨r,⟨rfl,rfl⟩,trivial⟩ ?_|refine CF (p) (.inl rfl) ?_)
   refine CC rfl rfl ?_;exact wB
 ·rw[C6 λx=>y x.1]
  rw[uh];refine fM 68 [(392,[2,0])] [(2,274,[26,27,28,29,30,31,32,33,34,35,36,37,38,39,25,40,41,42,0,1,2,3,4,5,6,7,8,9,10,11,12,13,14,15,16,17,18,1016])] [(0,0),(0,0)] Tryz.func364 rfl (λu q=>?_) (.inr trivial)
  repeat'(first|refine gA ?_|(conv=>whnf);first|with_reducible refine CH ((Q0 _ (tdiv16 d.1)).trans (er ω ω)) ?_|refine C8 ?_|refine CJ (by decide) ?_|refine CD (k) ⟨⟨rfl,bz h⟩,⟨rfl,rfl⟩,trivial⟩ ?_|refine C9 (aa b) ?_|refine C9 j ?_|refine CE rfl (aa b) rfl ?_|refine CE rfl j rfl ?_|refine C5 (o) ?_|refine C5 (w) ?_|refine C8 ?_|refine CK rfl rfl (aa b) rfl (U0 rfl) rfl ?_|refine CD (l) ⟨r,⟨rfl,rfl⟩,trivial⟩ ?_|refine CF (p) (.inl rfl) ?_)
  refine CC rfl rfl ?_;exact wB
theorem GO(h:ac)(t:Nat)(c:aB):bu {h with Caches:=h.Caches.set t c} = (bu h).set 9 (.s .own ((h.Caches.map (aB.enc .own)).set t (aB.enc .own c))):=by
 simp[bu,I4]
theorem me(h:ac)(E:List Int)(t:Nat)(a:Int)(b:bn h (a::E))(w:t<h.Caches.length):aQ Tryz.prog 384 false [.ptr (bu h),.val none [I (t:Nat)],.val none [I a]] [.ptr (bu (recyc t h a)),.val none [I (t:Nat)],.val none [I a]] (.tup []) []:=by
 obtain⟨o,y,p⟩:=b.at (b.hin a (C1 ..));have g:=(b.hin a (C1 ..)).bd b;have B:=b.lens;have C:=B.spans;have j:=aE (b.L.sok _ (am o));have r:=b.cach _ (am w);have l:=iJ h (a / 16) ω;rw[p]at l;have D:=lM h E a b;unfold recyc;generalize u5 h a=i at o y l j;have n:=ah o;have k:=ah w;have d:=wK (nth h.Caches t) (nth h.Spans i).Class.toNat a r ω;rw[Int.toNat_of_nonneg j.2.2.1]at d;unfold EH at d;cases e:cput (nth h.Caches t) (nth h.Spans i).Class a with
 | none=>
  rw[e]at d;refine fM 46 [(364,[2,0])] [(1,277,[16,17,18,19,20,21,22,23,24,25,26,27,28,29,30,31,32,15,33,34,7,0,1,2,3,4,5,6,7,8,9,10,11,12,13,14,15,16,17,18,19,20,21,1019,22]),(3,6,[36,37,38,39,40,41])] [(0,0),(0,0),(0,0)] Tryz.func384 rfl (λu q=>?_) (.inr trivial)
  repeat'(first|refine gO ?_|(conv=>whnf);first|with_reducible refine CH ((Q0 _ (tdiv16 g.1)).trans (er ω ω)) ?_|refine C8 ?_|refine CJ (by decide) ?_|refine CD (l) ⟨⟨rfl,bz h⟩,⟨rfl,rfl⟩,trivial⟩ ?_|refine C9 (aa n) ?_|refine C9 (aa k) ?_|refine CE rfl (aa n) rfl ?_|refine CE rfl (aa k) rfl ?_|refine CD (d) ⟨⟨rfl,aB.enc_fz _⟩,⟨rfl,rfl⟩,⟨rfl,rfl⟩,trivial⟩ ?_|refine C8 ?_|refine CF (D) (.inl rfl) ?_)
  refine CC rfl rfl ?_;exact wB
 | some c=>
  rw[e]at d;simp only;rw[GO];refine fM 46 [(364,[2,0])] [(1,277,[16,17,18,19,20,21,22,23,24,25,26,27,28,29,30,31,32,15,33,34,7,0,1,2,3,4,5,6,7,8,9,10,11,12,13,14,15,16,17,18,19,20,21,1019,22]),(3,6,[36,37,38,39,40,41])] [(0,0),(0,0),(0,0)] Tryz.func384 rfl (λu q=>?_) (.inr trivial)
  repeat'(first|refine gO ?_|(conv=>whnf);first|with_reducible refine CH ((Q0 _ (tdiv16 g.1)).trans (er ω ω)) ?_|refine C8 ?_|refine CJ (by decide) ?_|refine CD (l) ⟨⟨rfl,bz h⟩,⟨rfl,rfl⟩,trivial⟩ ?_|refine C9 (aa n) ?_|refine C9 (aa k) ?_|refine CE rfl (aa n) rfl ?_|refine CE rfl (aa k) rfl ?_|refine CD (d) ⟨⟨rfl,aB.enc_fz _⟩,⟨rfl,rfl⟩,⟨rfl,rfl⟩,trivial⟩ ?_|refine C8 ?_|refine CK rfl rfl (aa k) rfl (U0 rfl) rfl ?_)
  refine CC rfl rfl ?_;exact wB
theorem ov(h:ac)(i:Nat)(d:bn h [])(o:i<h.Objs.length)(t:aN (nth h.Objs i).Size<0):aQ Tryz.prog 380 false [.ptr (bu h),.val none [I (i:Nat)]] [.ptr (bu (freeL h i (wH h (nth h.Objs i).Addr))),.val none [I (i:Nat)]] (.tup []) []:=by
 obtain⟨l,w,y,-⟩:=(eG d (am o)).1 t;obtain⟨p,B,c,-⟩:=yw w y;generalize wH h (nth h.Objs i).Addr=g at p B c;have a:=d.lens;have C:=a.larges;have D:=a.objs;have b:=ah o;have N:=aT (d.L.lok _ (am p));have E:dG h<=32:=a.ents;refine fM 89 [(297,[2,0]),(382,[2,0])] [(4,11,[23,24,25,26,27,28,29,30,31,32,33]),(8,7,[41,42,43,44,45,46,47]),(9,273,[50,51,52,53,54,55,56,57,58,59,60,62,49,63,64,65,66,0,1,2,3,4,5,6,7,8,9,10,11,1000,1001,1002,1003,1004,1005,1006,12,13,14,15,16,17,18,1015]),(10,273,[67,68,69,70,71,72,73,74,76,77,78,79,80,81,82,84,85,0,1,2,3,4,5,6,7,9,10,11,12,13,14,15,8,1000,1009,1010,1011,1012,1013,1014,1015,16,1000,17,18,19]),(1048586,0,[7])] [(0,0),(0,0)] Tryz.func380 rfl (λu q=>?_) (.inr trivial)
 repeat'(first|refine gO ?_|(conv=>whnf);first|refine C8 ?_)
 (conv=>whnf)
 refine CB (ι:=Nat) (λk=>[(0,.hold .box (bu h)),(1,.hold .one [I ((i:Nat):Int)]),(4,.hold .one [I ((k:Nat):Int)])]) (λk=>k<=g) (λk=>g - k) (0) ?_ (P0 _) λk O=>?_
 ·exact wB
 have j:=ah (xs:=h.Larges) (i:=k) ω;have F:=aT (d.L.lok _ (am (xs:=h.Larges) (i:=k) ω));have G:0<=(nth h.Objs i).Addr/\(nth h.Objs i).Addr<=512:=ω
 by_cases e:k=g
 ·subst e
  repeat'(first|refine gA ?_|(conv=>whnf);first|with_reducible refine C9 (aa j) ?_|refine C8 ?_|refine CE rfl (aa j) rfl ?_|refine CE rfl (aa b) rfl ?_|refine C9 (aa b) ?_)
  (conv=>whnf)
  refine CB (ι:=Nat) (λn=>[(0,.hold .box (bu {h with Kernel:=dH h.Kernel (nth h.Larges k).Page n})),(1,.hold .one [I ((i:Nat):Int)]),(4,.hold .one [I ((k:Nat):Int)]),(5,.hold .box (a8.enc .own (nth h.Larges k))),(6,.hold .one [I ((n:Nat):Int)])]) (λn=>n<=(nth h.Larges k).Pages.toNat) (λn=>(nth h.Larges k).Pages.toNat - n) (0) ?_ (P0 _) λn P=>?_
  ·exact wB
  by_cases Q:n<(nth h.Larges k).Pages.toNat
  ·have H:=lb {h with Kernel:=dH h.Kernel (nth h.Larges k).Page n} ((nth h.Larges k).Page+n) (jM d.ker _ _)
   repeat'(first|refine gD ?_|(conv=>whnf);first|refine C8 ?_|refine CF (H) (.inl rfl) ?_|refine C8 ?_)
   ((conv=>whnf);refine CA (n+1) ω ω ?_;(exact wB))
  ·obtain rfl:n=(nth h.Larges k).Pages.toNat:=ω
   have r:=gf {h with Kernel:=dH h.Kernel (nth h.Larges k).Page (nth h.Larges k).Pages.toNat};rw[show dG {h with Kernel:=dH h.Kernel (nth h.Larges k).Page (nth h.Larges k).Pages.toNat} = dG h from(gS _ _ _).1]at r;have J:=ko (dG h:Nat) h.Free ⟨(nth h.Larges k).Page,(nth h.Larges k).Pages⟩ ⟨ω,ω⟩ ⟨by have:=a.free;omega,λ_ _=>trivial⟩;have K:=lX {h with Kernel:=dH h.Kernel (nth h.Larges k).Page (nth h.Larges k).Pages.toNat,Larges:=dele h.Larges k,Free:=(dl (dG h) h.Free ⟨(nth h.Larges k).Page,(nth h.Larges k).Pages⟩).getD h.Free} i o (by show h.Objs.length<=_;omega)
   repeat'(first|refine gD ?_|(conv=>whnf);first|refine C8 ?_|refine DQ.mk rfl (xv h.Larges) rfl ?_|refine CR k rfl (by rw[T0];omega) (aR λ_=>rfl) v3 ?_|refine Sl.suf (k+1) rfl (by rw[T0];omega) (aR λ_=>rfl) z3 ?_|refine CQ (λ_=>rfl) (λ_=>rfl) (by rw[Z0];omega) (by decide) ?_|refine Ap.dele (λ_=>rfl) (λ_=>rfl) ω (by decide) ?_|refine CN (λ_=>rfl) (λ_=>rfl) (by rw[Z0];omega) (by decide) ?_|refine C8 ?_|refine CD (r) ⟨bz _,trivial⟩ ?_|refine CD (J) ⟨⟨rfl,rfl⟩,⟨rfl,d8 h.Free⟩,⟨rfl,rfl⟩,trivial⟩ ?_|refine CF (K) (.inl rfl) ?_)
   refine CC rfl rfl ?_;exact wB
 ·have M:=c k ω
  repeat'(first|refine gA ?_|(conv=>whnf);first|with_reducible refine C9 (aa j) ?_|refine C8 ?_|refine CE rfl (aa j) rfl ?_|refine CE rfl (aa b) rfl ?_|refine C9 (aa b) ?_)
  ((conv=>whnf);refine CA (k+1) ω ω ?_;(exact wB))
def LM(q:bC)(x:aM):List C:=bC.enc .own (Fw q x)++cu .own (yh q x)
theorem KL(q:bC)(x:aM):gv (LM q x):=aO (bC.enc_fr _) (rF _)
theorem y1(q:bC)(a:aM)(K:q.Lst.length<=4096)(e:eX q=true)(r:0<=a.Class/\a.Class<=3/\0<=a.Addr/\0<=a.Since)(t:∀y∈q.Lst,y.Since<=a.Since)(u:∀y∈q.Lst,y.Addr≠a.Addr) :
  ao Tryz.prog 383 false [.val (some 2) (bC.enc .imm q),.val (some 3) (aM.enc .imm a)] (.tup [some 2,none]) (LM q a):=by
 have b:bC.sml q:=⟨ω,λ_ _=>trivial⟩
 have w:=p6 q b;have l:=na q b;rw[e]at l;have n:=xC a;rw[N0 r]at n;have o:=pu q a.Addr b;rw[show q.Lst.any (dA a.Addr)=false by rw[List.any_eq_false];intro y B;unfold dA;simpa using u y B]at o;have C:=(iE.1 e).2.2.2;have g:=KL q a;have L:(aM.mk a.Addr a.Class a.Since)=a:=rfl;have c:=AY q.Room (q.Lst++[a]);simp only[I2,List.length_singleton]at c;by_cases E:q.Lst.length=0
 all_goals
  try have h:(nth q.Lst (q.Lst.length - 1)).Since<=a.Since:=t _ (am ω)
  try have j:=ah (xs:=q.Lst) (i:=q.Lst.length - 1) ω
  try have d:q.Lst[((q.Lst.length:Int) - 1).toNat]? = some (nth q.Lst (q.Lst.length - 1)):=by rw[show((q.Lst.length:Int) - 1).toNat=q.Lst.length - 1 by omega];exact j
  refine fO 74 [(3,27,[15,16,17,18,19,20,21,22,23,24,25,26,27,28,29,30,31,32,33,34,35,36,37,38,39,40,41]),(7,6,[52,53,54,55,56,57]),(9,268,[61,62,63,64,65,66,67,69,70,71,72,73,0,1,2,3,4,5,6,8,9,10,11,12,7,1008,1009,1010,1011,1012,13,14])] Tryz.func383 rfl ?_ (.inr g)
  repeat'(first|refine gD ?_|(conv=>whnf);first|with_reducible refine Bf.D (λe=>?_) (λe=>?_)|refine C8 ?_|refine C5 (w) ?_|refine C5 (l) ?_|refine C5 (n) ?_|refine C5 (o) ?_|refine CI ω (aa d) ?_|refine Ap.sm (aR λ_=>rfl) rfl (by simp;omega) (by decide) (gN (aM.enc .own) q.Lst a) ?_)
  (conv=>whnf)
  refine Lp.fz 8 (ι:=Nat) (λk=>[(2,.hold .box (bC.enc .imm q)),(4,.hold .box [I 0,.z]),(8,.hold .one (cu .imm (q.Lst++[a]))),(9,.hold .one [I (k:Nat)])]) (λk=>k<=mi q.Room (q.Lst++[a])) (λk=>mi q.Room (q.Lst++[a]) - k) 0 ?_ (P0 _) λk M=>?_
  ·(repeat'(first|exact trivial|rfl|exact CG rfl (show HZ (d5 (cu .own (q.Lst++[a]))) (cu .imm (q.Lst++[a])) by rw[zI];exact kS _)|refine CG ?_ ?_))
  have N:(q.Lst++[a]).length=q.Lst.length+1:=by simp
  have F:((q.Lst++[a]).drop k).length<=5000:=by rw[N2];omega
  have G:((q.Lst++[a]).take k).length<=5000:=by rw[Z0];omega
  have p:=rA ((q.Lst++[a]).drop k) ⟨ω,λ_ _=>trivial⟩;by_cases H:k<mi q.Room (q.Lst++[a])
  ·have J:q.Room<quarCells ((q.Lst++[a]).drop k) ((q.Lst++[a]).drop k).length:=xq H
   repeat'(first|refine gD ?_|(conv=>whnf);first|refine C8 ?_|refine Sl.suf k rfl (by rw[T0];omega) (aR λ_=>rfl) z3 ?_|refine C5 (p) ?_|refine C8 ?_)
   ((conv=>whnf);refine CA (k+1) ω ω ?_;(exact wB))
  ·obtain rfl:k=mi q.Room (q.Lst++[a]):=ω
   have J:quarCells ((q.Lst++[a]).drop (mi q.Room (q.Lst++[a]))) ((q.Lst++[a]).drop (mi q.Room (q.Lst++[a]))).length<=q.Room:=zh C.1 _
   repeat'(first|refine gD ?_|(conv=>whnf);first|refine C8 ?_|refine Sl.suf (mi q.Room (q.Lst++[a])) rfl (by rw[T0];omega) (aR λ_=>rfl) z3 ?_|refine CR (mi q.Room (q.Lst++[a])) rfl (by rw[T0];omega) (aR λ_=>rfl) v3 ?_|refine C5 (p) ?_|refine C8 ?_|refine CQ (λ_=>rfl) (λ_=>rfl) ω (by decide) ?_|refine CN (λ_=>rfl) (λ_=>rfl) ω (by decide) ?_)
   rfl
theorem od{z:Int}(h:0<=z/\z<512):IntKind.i64.wrap (z.tdiv 16)=z / 16:=(Q0 _ (tdiv16 h.1)).trans (er ω ω)
theorem oz{h:ac}{E:List Int}(a:bn h E){o:bG}(b:o∈h.Objs):0<=o.Addr/\o.Addr<512:=by
 rcases a.oow o b with⟨s,c,⟨f,g,-⟩,-⟩|⟨l,d,e,-⟩
 ·have:=aE (a.L.sok s c);omega
 ·have:=aT (a.L.lok l d);omega
theorem He{k:Int}(h:0<=k/\k<=3):1<=csz k/\csz k<=8:=by
 rcases ce h with e|e|e|e<;>rw[e]<;>decide
structure MC(h:ac)(o:bG):Prop where
 cl:0<=aN o.Size/\aN o.Size<=3
 fr:0<=(ar h.Kernel.Machine.Table (o.Addr / 16)).Frame/\(ar h.Kernel.Machine.Table (o.Addr / 16)).Frame<h.Kernel.Machine.Frames.Cells.length
 fit:o.Addr % 16+csz (aN o.Size)<=16
 row:(nth h.Kernel.Machine.Frames.Cells (fD h.Kernel o.Addr)).length=16
theorem MC.of{h:ac}{E:List Int}(b:bn h E){o:bG}(l:o∈h.Objs)(q:¬aN o.Size<0):MC h o:=by
 obtain⟨⟨s,d,f,r⟩,B⟩:=(eG b l).2 q;have t:=aE (b.L.sok s d);have u:=oz b l;have n:s.Page=o.Addr / 16:=by have C:=f.1;have D:=f.2.1;omega
 have c:(o.Addr / 16).toNat<(tbl h).Entries.length:=by have:=b.pg.bnd _ (di (la:=h.Larges) d);omega
 have a:(((o.Addr / 16).toNat:Nat):Int)=o.Addr / 16:=ω
 have p:=(b.pg.own _ c).2 (by rw[a,<-n];exact di d);have g:(ar h.Kernel.Machine.Table (o.Addr / 16)).Mode≠0:=by rw[<-a];unfold tbl at p c;rw[kx c];exact p
 obtain⟨-,-,-,i,w⟩:=co b.ker g;have y:=(bf.1 (aC.1 b.ker).2.1).2.2.1;have j:fD h.Kernel o.Addr<h.Kernel.Machine.Frames.Cells.length:=by unfold fD;omega
 refine⟨ω,⟨i,ω⟩,?_,b.lens.row _ (am j)⟩;have A:=f.2.2.1;rw[n,<-r]at *;rcases ce (k:=s.Class) ⟨ω,ω⟩ with e|e|e|e<;>rw[e]at A |-<;>omega
theorem EZ(h:ac)(a:Int)(b:fD h.Kernel a<h.Kernel.Machine.Frames.Cells.length):({h with Kernel:=f9 h.Kernel a 0} : ac)=h:=by
 have e:h.Kernel.Machine.Frames.Cells.set (fD h.Kernel a) (nth h.Kernel.Machine.Frames.Cells (fD h.Kernel a))=h.Kernel.Machine.Frames.Cells:=by
  refine List.ext_getElem? λi=>?_
  rw[U2];split
  ·rename_i e
   subst e;exact(ah b).symm
  ·rfl
 unfold f9 kP;rw[e]
theorem Al(h:ac)(a:Int)(k:Nat)(v:Int)(_:0<=a):bu {h with Kernel:=f9 h.Kernel a (k+1)} = (bu {h with Kernel:=f9 h.Kernel a k}).set 0 (.s .own (((f9 h.Kernel a k).Machine.Frames.Cells.map (aF .own)).set (ar h.Kernel.Machine.Table (a / 16)).Frame.toNat ((aF .own (kP (nth h.Kernel.Machine.Frames.Cells (fD h.Kernel a)) (a % 16).toNat k)).set 0 (.s .own (((kP (nth h.Kernel.Machine.Frames.Cells (fD h.Kernel a)) (a % 16).toNat k).map (rI .own)).set (a % 16+k).toNat (splice (rI .own v) 0 [I 0])))))):=by
 have e:(a % 16+k).toNat=(a % 16).toNat+k:=ω
 rw[e];simp[bu,f9,I4,kP,aF,splice,fD]
 rfl
theorem AE(t:Nat)(h:ac)(xs:List aM)(k:Nat)(a:k<xs.length):recycs t h ((xs.take (k+1)).map (·.Addr))=recyc t (recycs t h ((xs.take k).map (·.Addr))) (nth xs k).Addr:=by
 unfold recycs;rw[Y3,ah a];simp
theorem DH(h:ac)(o:bG)(t:Nat)(a:bn h [])(P:o∈h.Objs)(ht:o.Thread=t)(hlc:h.Caches.length<=4):aQ Tryz.prog 354 false [.ptr (bu h),.val none [I (t:Nat)],.val none [I o.Addr]] [.ptr (bu (freeOb h t (m6 h o.Addr)).1),.val none [I (t:Nat)],.val none [I o.Addr]] .one [I (freeOb h t (m6 h o.Addr)).2]:=by
 obtain⟨l,B,C⟩:=a.objAt P;have b:=oz a P;have hon:=a.onu o P;have d:=a.lens;have hno:=d.objs;have E:t<h.Caches.length:=ω
 have M:=aD (t:Nat) 0 (h.Caches.length - 1:Int);rw[N0 ω]at M;have F:=oB h o.Addr ω;rw[C]at F;generalize m6 h o.Addr=i at l B F;subst B;have r:=ah l;have Q:=je (nth h.Objs i).Size;unfold freeOb;have R:=b8 a.ker;have Z:=cH h.Kernel.Machine.Table ((nth h.Objs i).Addr / 16) R.1.2;by_cases w:aN (nth h.Objs i).Size<0
 ·rw[C7 w]
  have c3:=ov h i a l w;refine fM 148 [(380,[2,0]),(382,[2,0]),(384,[2,0,0]),(379,[2,0])] [(15,269,[68,69,70,71,72,73,74,75,77,67,78,79,11,0,1,2,3,4,5,6,7,13,8,1000,1001,1002,1003,1004,1013,9,10,11,12,14,1012,15]),(22,15,[92,93,94,95,96,97,98,99,100,101,102,103,104,105,106]),(25,271,[116,117,118,119,120,121,122,123,124,125,127,115,128,129,14,0,1,2,3,4,5,6,7,8,9,15,10,1000,1001,1002,1003,1015,11,12,13,14,16,1014,17])] [(0,0),(0,0),(0,0)] Tryz.func354 rfl (λu q=>?_)
  repeat'(first|refine gD ?_|(conv=>whnf);first|with_reducible refine Bf.D (λn=>?_) (λn=>?_)|refine C8 ?_|refine C5 (M) ?_|refine CD (F) ⟨⟨rfl,bz h⟩,⟨rfl,rfl⟩,trivial⟩ ?_|refine C9 (aa r) ?_|refine CE rfl (aa r) rfl ?_|refine C5 (Q) ?_|refine CF (c3) (.inl rfl) ?_)
  refine CC rfl rfl ?_;exact wB
 rw[C6 w];obtain⟨S,s2,s3,s4⟩:=MC.of a (am l) w;by_cases N:(ar (tbl h) ((nth h.Objs i).Addr / 16)).Mode=1
 ·rw[C7 N]
  unfold tbl at N;refine fM 148 [(380,[2,0]),(382,[2,0]),(384,[2,0,0]),(379,[2,0])] [(15,269,[68,69,70,71,72,73,74,75,77,67,78,79,11,0,1,2,3,4,5,6,7,13,8,1000,1001,1002,1003,1004,1013,9,10,11,12,14,1012,15]),(22,15,[92,93,94,95,96,97,98,99,100,101,102,103,104,105,106]),(25,271,[116,117,118,119,120,121,122,123,124,125,127,115,128,129,14,0,1,2,3,4,5,6,7,8,9,15,10,1000,1001,1002,1003,1015,11,12,13,14,16,1014,17])] [(0,0),(0,0),(0,0)] Tryz.func354 rfl (λu q=>?_)
  repeat'(first|refine gA ?_|(conv=>whnf);first|with_reducible refine Bf.D (λn=>?_) (λn=>?_)|refine C8 ?_|refine CJ (by decide) ?_|refine CH (od b) ?_|refine C5 (M) ?_|refine CD (F) ⟨⟨rfl,bz h⟩,⟨rfl,rfl⟩,trivial⟩ ?_|refine C9 (aa r) ?_|refine CE rfl (aa r) rfl ?_|refine C5 (Q) ?_|refine CD (Z) ⟨⟨rfl,CT _⟩,⟨rfl,rfl⟩,trivial⟩ ?_)
  refine CC rfl rfl ?_;exact wB
 rw[C6 N];unfold tbl at N;have G:fD h.Kernel (nth h.Objs i).Addr<h.Kernel.Machine.Frames.Cells.length:=by unfold fD;omega
 have hcz:=He S;have g:=a.inQuar l w;have H:=dq (aN (nth h.Objs i).Size);refine fM 148 [(380,[2,0]),(382,[2,0]),(384,[2,0,0]),(379,[2,0])] [(15,269,[68,69,70,71,72,73,74,75,77,67,78,79,11,0,1,2,3,4,5,6,7,13,8,1000,1001,1002,1003,1004,1013,9,10,11,12,14,1012,15]),(22,15,[92,93,94,95,96,97,98,99,100,101,102,103,104,105,106]),(25,271,[116,117,118,119,120,121,122,123,124,125,127,115,128,129,14,0,1,2,3,4,5,6,7,8,9,15,10,1000,1001,1002,1003,1015,11,12,13,14,16,1014,17])] [(0,0),(0,0),(0,0)] Tryz.func354 rfl (λu q=>?_)
 repeat'(first|refine gA ?_|(conv=>whnf);first|with_reducible refine Bf.D (λn=>?_) (λn=>?_)|refine C8 ?_|refine CJ (by decide) ?_|refine CH (od b) ?_|refine C5 (M) ?_|refine CD (F) ⟨⟨rfl,bz h⟩,⟨rfl,rfl⟩,trivial⟩ ?_|refine C9 (aa r) ?_|refine CE rfl (aa r) rfl ?_|refine C5 (Q) ?_|refine CD (Z) ⟨⟨rfl,CT _⟩,⟨rfl,rfl⟩,trivial⟩ ?_)
 rw[show bu h=bu {h with Kernel:=f9 h.Kernel (nth h.Objs i).Addr 0} by rw[EZ h _ G]]
 (conv=>whnf)
 refine CB (ι:=Nat) (λk=>[(0,.hold .box (bu {h with Kernel:=f9 h.Kernel (nth h.Objs i).Addr k})),(1,.hold .one [I ((t:Nat):Int)]),(2,.hold .one [I ((nth h.Objs i).Addr)]),(7,.hold .one [I ((i:Nat):Int)]),(8,.hold .box (bG.enc .own (nth h.Objs i))),(9,.hold .one [I (aN (nth h.Objs i).Size)]),(10,.hold .box (bj.enc .own (ar h.Kernel.Machine.Table ((nth h.Objs i).Addr / 16)))),(13,.hold .one [I ((k:Nat):Int)])]) (λk=>k<=(csz (aN (nth h.Objs i).Size)).toNat) (λk=>(csz (aN (nth h.Objs i).Size)).toNat - k) (0) ?_ (P0 _) λk hk=>?_
 ·exact wB
 have hmod:IntKind.i64.wrap 0=0:=rfl;have T:(nth h.Objs i).Addr.tmod 16=(nth h.Objs i).Addr % 16:=f8 b.1;have p:(f9 h.Kernel (nth h.Objs i).Addr k).Machine.Frames.Cells[(ar h.Kernel.Machine.Table ((nth h.Objs i).Addr / 16)).Frame.toNat]? = some (kP (nth h.Kernel.Machine.Frames.Cells (fD h.Kernel (nth h.Objs i).Addr)) ((nth h.Objs i).Addr % 16).toNat k):=P2 G;by_cases O:k<(csz (aN (nth h.Objs i).Size)).toNat
 ·have J:=ah (xs:=kP (nth h.Kernel.Machine.Frames.Cells (fD h.Kernel (nth h.Objs i).Addr)) ((nth h.Objs i).Addr % 16).toNat k) (i:=((nth h.Objs i).Addr % 16+k).toNat) (by rw[ny,s4];omega)
  repeat'(first|refine gD ?_|(conv=>whnf);first|refine C8 ?_|refine CJ (by decide) ?_|refine CP T ?_|refine C5 (H) ?_|refine CI s2.1 (aa p) ?_|refine CE rfl (aa p) rfl ?_|refine CI ω (aa J) ?_|refine Pu.two rfl rfl (aa p) rfl rfl rfl (aa J) rfl (Z1 _) (Al h _ k _ b.1) ?_)
  ((conv=>whnf);refine CA (k+1) ω ω ?_;(exact wB))
 ·obtain rfl:k=(csz (aN (nth h.Objs i).Size)).toNat:=ω
  have c5:=lX {h with Kernel:=f9 h.Kernel (nth h.Objs i).Addr (csz (aN (nth h.Objs i).Size)).toNat} i l (by show h.Objs.length<=_;omega);have j:=a.nums;unfold ca at j;rw[C0]at j;have K:=(a.dropO l (iK.any (c:=aN (nth h.Objs i).Size) (by obtain⟨⟨s,hs,k1,k2⟩,-⟩:=(eG a (am l)).2 w;exact⟨s,hs,k1,.inr k2⟩))).nd;rw[List.cons_append,List.nil_append]at K;have c6:=y1 h.Quar (k4 h (nth h.Objs i)) (by have:=d.quar;omega) a.quar ⟨S.1,S.2,b.1,j.2.2.1⟩ (λy U=>a.snc y U) (λy U e=>(List.nodup_cons.1 K).1 (by rw[show(nth h.Objs i).Addr=y.Addr from e.symm];unfold holders;simp only[W1];exact .inl (.inr (C3.2 ⟨y,U,rfl⟩))));unfold LM at c6;have V:(yh h.Quar (k4 h (nth h.Objs i))).length<=513:=by have:=d.quar;unfold yh;rw[Z0,I2];simp only[List.length_singleton];omega
  repeat'(first|refine gA ?_|(conv=>whnf);first|with_reducible refine Bf.D (λn=>?_) (λn=>?_)|refine C8 ?_|refine C5 (H) ?_|refine CF (c5) (.inl rfl) ?_|refine CD (c6) ⟨⟨rfl,bC.enc_fz h.Quar⟩,⟨rfl,rfl⟩,trivial⟩ ?_|refine C8 ?_)
  have W:H5 h t i=recycs t (inQuar h i) ((yh h.Quar (k4 h (nth h.Objs i))).map (·.Addr)):=rfl;simp only;rw[W];have hqn:(inQuar h i).Caches.length=h.Caches.length:=rfl;generalize yh h.Quar (k4 h (nth h.Objs i))=out at g V
  (conv=>whnf)
  refine CB (ι:=Nat) (λk=>[(0,.hold .box (bu (recycs t (inQuar h i) ((out.take k).map (·.Addr))))),(1,.hold .one [I ((t:Nat):Int)]),(15,.hold .one (cu .own out)),(16,.hold .one [I ((k:Nat):Int)])]) (λk=>k<=out.length) (λk=>out.length - k) (0) ?_ (P0 _) λk hk=>?_
  ·exact wB
  by_cases O:k<out.length
  ·have L:=ah O
   have X:out.map (·.Addr)=(out.take k).map (·.Addr)++(nth out k).Addr::(out.drop (k+1)).map (·.Addr):=by
    conv=>lhs;rw[<-List.take_append_drop k out,iH O]
    simp
   have Y:bn (recycs t (inQuar h i) ((out.take k).map (·.Addr))) ((nth out k).Addr::(out.drop (k+1)).map (·.Addr)):=bn.recycs (by rw[<-X];exact g) E;have c7:=me _ _ t _ Y (by rw[(i9 t _ _).1];exact E)
   repeat'(first|refine gD ?_|(conv=>whnf);first|refine C8 ?_|refine C9 (aa L) ?_|refine CE rfl (aa L) rfl ?_|refine CF (c7) (.inl rfl) ?_)
   ((conv=>whnf);refine CA (k+1) ω ω ?_)
   rw[AE t _ out k O];exact wB
  ·obtain rfl:k=out.length:=ω
   rw[U3]
   repeat'(first|refine gD ?_|(conv=>whnf);first|refine C8 ?_)
   refine CC rfl rfl ?_;exact wB
set_option maxRecDepth 100000
theorem dE(c:C):Kf c c:=(kS [c]).1
theorem nj{c a:C}(h:a=c):Kf c a:=by subst h;exact dE _
def Gk(c:aB)(k:Nat):aB:=⟨c.Lists.set k []⟩
theorem KO(c:aB)(k:Nat):aB.enc .own (Gk c k)=[.s .own ((c.Lists.map (aF .own)).set k (aF .own []))]:=by simp[aB.enc,Gk,I4]
theorem HO(xs:List Int):([]:List Int).map (rI .imm)=(xs.map (rI .imm)).drop xs.length:=by rw[List.drop_eq_nil_of_le (by rw[T0];omega)];rfl
theorem HC(xs:List Int):xs.map (rI .imm)=(xs.map (rI .imm)).take xs.length:=by rw[W4 (by rw[T0];omega)]
def MT(c:aB)(k:Nat):List C:=aB.enc .own (Gk c k)++aF .own (nth c.Lists k)
theorem LB(c:aB)(k:Nat):gv (MT c k):=aO (aB.enc_fr _) (bM _)
theorem sK(c:aB)(k:Nat)(d:bq c=true)(p:k<=3):ao Tryz.prog 390 false [.val (some 1) (aB.enc .imm c),.val none [I (k:Nat)],.val none [I 8]] (.tup [some 1,none]) (MT c k):=by
 obtain⟨q,e⟩:=dR d;have g:aB.sml c:=⟨ω,λl j=>by have:=e l j;show l.length<=1048576;omega⟩
 have h:=uy c k g;rw[d,N0 ω]at h;have n:=gX c g;have a:=qR (c:=c) (k:=k) ω;have o:=e _ (am (xs:=c.Lists) (i:=k) ω);have b:=LB c k;unfold MT at b |-;rw[KO]at b |-;refine fO 52 [(5,268,[29,30,31,32,33,34,35,36,37,38,39,41,0,1,2,3,4,5,6,7,8,9,10,11,1000,1001,1002,12,13]),(6,265,[42,43,44,45,46,47,48,49,50,0,1,2,3,4,5,6,7,8,9,1000,10,11])] Tryz.func390 rfl ?_ (.inr b)
 repeat'(first|refine gO ?_|(conv=>whnf);first|with_reducible refine C9 (aa a) ?_|refine C8 ?_|refine CE rfl (aa a) rfl ?_|refine C5 (h) ?_|refine C5 (n) ?_|refine CP (z:=((nth c.Lists k).length:Int)) (by simp;omega) ?_|refine Sl.suf (nth c.Lists k).length rfl (by rw[T0];omega) (aR λ_=>rfl) (HO _) ?_|refine CR (nth c.Lists k).length rfl (by rw[T0];omega) (aR λ_=>rfl) (HC _) ?_|refine C8 ?_|refine CQ (λ_=>rfl) (λ_=>rfl) (by simp) (by decide) ?_|refine CN (λ_=>rfl) (λ_=>rfl) (by simp) (by decide) ?_|refine CQ (λ_=>rfl) (λ_=>rfl) ω (by decide) ?_|refine CN (λ_=>rfl) (λ_=>rfl) ω (by decide) ?_|refine CK rfl rfl (aa a) rfl (U0 rfl) rfl ?_)
 rfl
theorem mP{k:Int} : ∀{l s s2 c:List Int},(∀x∈s2,x∈s)->pk k s l=some c->(∀x∈s,x∈c)/\∃d,pk k s2 l=some d/\∀x∈d,x∈c
 | [],s,s2,c,h,e=>by
  simp only[pk,R0]at e |-;subst e;exact⟨λ_ h=>h,s2,rfl,h⟩
 | a::l,s,s2,c,h,e=>by
  simp only[pk]at e |-;split at e
  ·rename_i g
   rw[C7 (show good k s2 a from⟨g.1,g.2.1,g.2.2.1,λx=>g.2.2.2 (h a x)⟩)];obtain⟨f,i⟩:=mP (l:=l) (s:=s++[a]) (s2:=s2++[a]) (λx b=>by
     rcases W1.1 b with b|b
     · exact W1.2 (.inl (h x b))
     · exact W1.2 (.inr b)) e
   exact⟨λx b=>f x (W1.2 (.inl b)),i⟩
  ·cases e
theorem qI:∀{a:List (List Int)}{k:Nat}{s s2:List Int},(∀x∈s2,x∈s)->(fp k s a).isSome=true->(fp k s2 a).isSome=true
 | [],_,_,_,_,_=>rfl
 | l::a,k,s,s2,h,e=>by
  simp only[fp,dK]at e |-;split at e
  ·rename_i g
   rw[C7 g];cases b:pk k s l with
   | none=>rw[b]at e;cases e
   | some i=>
    rw[b]at e;obtain⟨-,c,d,f⟩:=mP h b;rw[d];exact qI f e
  ·cases e
theorem Bw:∀{a:List (List Int)}{k:Nat}{s s2:List Int}(i:Nat),(∀x∈s2,x∈s)->(fp k s a).isSome=true->(fp k s2 (a.set i [])).isSome=true
 | [],_,_,_,_,_,_=>rfl
 | l::a,k,s,s2,i,h,e=>by
  simp only[fp,dK]at e;split at e
  ·rename_i g
   cases b:pk k s l with
   | none=>rw[b]at e;cases e
   | some o=>
    rw[b]at e;obtain⟨c,d,f,j⟩:=mP h b;cases i with
    | zero=>
     simp only[List.set_cons_zero,fp,dK];rw[C7 ⟨by simp,g.2⟩];exact qI (λx n=>c x (h x n)) e
    | succ i=>
     simp only[List.set_cons_succ,fp,dK];rw[C7 g,f];exact Bw i j e
  ·cases e
theorem LV{c:aB}(h:bq c=true)(k:Nat):bq (Gk c k)=true:=by
 unfold bq at h |-;simp only[I0,C0]at h |-;exact⟨by simp only[Gk,X0];exact h.1,Bw k (λ_ h=>h) h.2⟩
def spilt(h:ac)(t k:Nat):ac:={h with Caches:=h.Caches.set t (Gk (nth h.Caches t) k)}
theorem bn.spilt{h:ac}{E:List Int}{t k:Nat}(f:bn h E)(i:t<h.Caches.length)(n:k<(nth h.Caches t).Lists.length):bn (spilt h t k) (nth (nth h.Caches t).Lists k++E):=by
 have p:(E++holders h).Perm (nth (nth h.Caches t).Lists k++E++holders (Ab.spilt h t k)):=by
  refine List.perm_iff_count.2 λb=>?_
  have r:=gJ (λc:aB=>c.Lists.flatten) b h.Caches t (Gk (nth h.Caches t) k) i;have q:=gJ (λx:List Int=>x) b (nth h.Caches t).Lists k [] n;rw[<-js,<-js]at q;simp only[List.count_nil]at q;simp only[Gk]at r;simp only[holders,bY,Ab.spilt,Gk,C4];omega
 have g:∀c∈(Ab.spilt h t k).Caches,c∈h.Caches\/c=Gk (nth h.Caches t) k:=λc u=>P4 u
 exact {f with
   nc:=by show(h.Caches.set ..).length=_;rw[X0];exact f.nc
   cach:=λc a=>by
     rcases g c a with a|rfl
     · exact f.cach c a
     · exact LV (f.cach _ (am i)) k
   onu:=by show ∀o∈h.Objs,1<=o.Id/\o.Id<=h.Next - 1/\0<=o.Thread/\o.Thread<=(h.Caches.set t _).length - 1;rw[X0];exact f.onu
   hca:=λc a j l b d=>by
     rcases g c a with a|rfl
     · exact f.hca c a j l b d
     · simp only[Gk,X0]at l
       simp only[Gk,cq]at d;by_cases e:k=j
       · subst e
         rw[C7 ⟨rfl,l⟩]at d;cases d
       · rw[C6 λx=>e x.1]at d
         exact f.hca _ (am i) _ l b d
   hin:=λb d=>by
     rcases W1.1 d with d|d
     · exact(f.hca _ (am i) k n b d).any
     · exact f.hin b d
   nd:=p.nodup_iff.1 f.nd
   mem:=λb=>by rw[<-p.mem_iff];exact f.mem b}
def freeAs(h:ac)(az:List Int):ac:=az.foldl freeA h
theorem kf:∀(az:List Int)(h:ac),(freeAs h az).Caches=h.Caches/\(freeAs h az).Objs=h.Objs/\(freeAs h az).Kernel.Calls=h.Kernel.Calls/\(freeAs h az).Mail=h.Mail/\(freeAs h az).Job=h.Job/\(freeAs h az).Clock=h.Clock/\(freeAs h az).Quar=h.Quar/\(freeAs h az).Kernel.Refuse=h.Kernel.Refuse
 | [],h=>⟨rfl,rfl,rfl,rfl,rfl,rfl,rfl,rfl⟩
 | a::az,h=>by
  obtain⟨b,c,d,e,f,g,i,j⟩:=kf az (freeA h a);obtain⟨k,l,n,o,p,q,r,t⟩:=tG h (u5 h a) a;exact⟨b.trans k,c.trans l,d.trans n,e.trans o,f.trans p,g.trans q,i.trans r,j.trans t⟩
theorem bn.freeAs{E:List Int} : ∀{az:List Int}{h:ac},bn h (az++E)->bn (freeAs h az) E
 | [],_,b=>b
 | a::az,h,b=>bn.freeAs (az:=az) (h:=Ab.freeA h a) b.freeA
theorem rL(h:ac)(az:List Int)(k:Nat)(a:k<az.length):freeAs h (az.take (k+1))=freeA (freeAs h (az.take k)) (nth az k):=by
 rw[Y3,ah a];simp[freeAs]
def flushN(t:Nat)(h:ac):Nat->ac × Nat
 | 0=>(h,0)
 | k+1=>(freeAs (spilt (flushN t h k).1 t k) (nth (nth (flushN t h k).1.Caches t).Lists k),(flushN t h k).2+(nth (nth (flushN t h k).1.Caches t).Lists k).length)
theorem jw{t:Nat}{h:ac}(c:bn h [])(e:t<h.Caches.length):∀{k:Nat},k<=4->bn (flushN t h k).1 []/\(flushN t h k).1.Caches.length=h.Caches.length/\(flushN t h k).1.Kernel.Calls=h.Kernel.Calls/\(flushN t h k).1.Objs=h.Objs/\(flushN t h k).1.Mail=h.Mail/\(flushN t h k).1.Job=h.Job/\(flushN t h k).2<=8*k
 | 0,_=>⟨c,rfl,rfl,rfl,rfl,rfl,P0 _⟩
 | k+1,y=>by
  obtain⟨d,f,g,i,j,l,A⟩:=jw c e (k:=k) ω;have a:t<(flushN t h k).1.Caches.length:=ω
  obtain⟨B,n⟩:=dR (d.cach _ (am a));have b:k<(nth (flushN t h k).1.Caches t).Lists.length:=ω
  have o:=d.spilt a b;have C:=n _ (am b);obtain⟨p,q,r,u,w,-⟩:=kf (nth (nth (flushN t h k).1.Caches t).Lists k) (Ab.spilt (flushN t h k).1 t k);refine⟨bn.freeAs o,?_,r.trans g,q.trans i,u.trans j,w.trans l,?_⟩
  ·show(Ab.freeAs _ _).Caches.length=_
   rw[p];simp only[Ab.spilt,X0];exact f
  ·simp only[flushN];omega
theorem A8{h:ac}{t k:Nat}(d:bn h [])(e:t<h.Caches.length)(j:k<4):t<(flushN t h k).1.Caches.length/\bq (nth (flushN t h k).1.Caches t)=true/\k<(nth (flushN t h k).1.Caches t).Lists.length/\(nth (nth (flushN t h k).1.Caches t).Lists k).length<=8/\(flushN t h k).2<=8*k:=by
 obtain⟨f,l,-,-,-,-,g⟩:=jw d e (k:=k) ω;have a:t<(flushN t h k).1.Caches.length:=ω
 have c:=f.cach _ (am a);obtain⟨n,i⟩:=dR c;have b:k<(nth (flushN t h k).1.Caches t).Lists.length:=ω
 exact⟨a,c,b,i _ (am b),g⟩
theorem HM{h:ac}{t k j:Nat}(a:bn h [])(b:t<h.Caches.length)(d:k<4)(e:j<(nth (nth (flushN t h k).1.Caches t).Lists k).length):bn (freeAs (spilt (flushN t h k).1 t k) ((nth (nth (flushN t h k).1.Caches t).Lists k).take j)) (nth (nth (nth (flushN t h k).1.Caches t).Lists k) j::(nth (nth (flushN t h k).1.Caches t).Lists k).drop (j+1)):=by
 obtain⟨f,g⟩:=A8 a b d;have c:=((jw a b (k:=k) ω).1).spilt f g.2.1;rw[List.append_nil]at c;refine bn.freeAs ?_;rw[<-iH e,List.take_append_drop];exact c
theorem wv(h:ac)(t:Nat)(i:bn h [])(l:t<h.Caches.length):aQ Tryz.prog 362 false [.ptr (bu h),.val none [I (t:Nat)]] [.ptr (bu (flushN t h 4).1),.val none [I (t:Nat)]] .one [I ((flushN t h 4).2:Nat)]:=by
 refine fM 48 [(364,[2,0])] [(6,6,[26,27,28,29,30,31])] [(0,0),(0,0)] Tryz.func362 rfl (λu q=>?_)
 repeat'(first|refine gO ?_|fail)
 (conv=>whnf)
 refine CB (ι:=Nat) (λk=>[(0,.hold .box (bu (flushN t h k).1)),(1,.hold .one [I ((t:Nat):Int)]),(5,.hold .one [I (((flushN t h k).2:Nat):Int)]),(6,.hold .one [I ((k:Nat):Int)])]) (λk=>k<=4) (λk=>4 - k) (0) ?_ (P0 _) λk D=>?_
 ·repeat'(first|exact trivial|rfl |exact nj a|exact dE _|refine CG ?_ ?_|(exact AQ (by first|omega|(simp only;omega)|(simp;omega))))
 by_cases n:k<4
 ·obtain⟨o,p,E,F,G⟩:=A8 i l n
  have r:=sK (nth (flushN t h k).1.Caches t) k p ω;have c:=λj=>HM i l n (j:=j)
  have e:=ah o;have w:(flushN t h (k+1)).1=freeAs (spilt (flushN t h k).1 t k) (nth (nth (flushN t h k).1.Caches t).Lists k):=rfl;have y:(flushN t h (k+1)).2=(flushN t h k).2+(nth (nth (flushN t h k).1.Caches t).Lists k).length:=rfl;have a:C.s du.own ((spilt (flushN t h k).1 t k).Caches.map (aB.enc .own))=C.s du.own (((flushN t h k).1.Caches.map (aB.enc .own)).set t (aB.enc .own (Gk (nth (flushN t h k).1.Caches t) k))):=by simp[spilt,I4]
  repeat'(first|refine gD ?_|(conv=>whnf);first|refine C9 (aa e) ?_|refine CE rfl (aa e) rfl ?_|refine CD (r) ⟨⟨rfl,aB.enc_fz _⟩,⟨rfl,rfl⟩,⟨rfl,rfl⟩,trivial⟩ ?_|refine C8 ?_|refine CK rfl rfl (aa e) rfl (U0 rfl) rfl ?_)
  generalize (flushN t h k).1=d at *;generalize (flushN t h k).2=m at *
  (conv=>whnf)
  refine CB (ι:=Nat) (λj=>[(0,.hold .box (bu (freeAs (spilt d t k) ((nth (nth d.Caches t).Lists k).take j)))),(1,.hold .one [I ((t:Nat):Int)]),(5,.hold .one [I (((m+j):Nat):Int)]),(6,.hold .one [I ((k:Nat):Int)]),(8,.hold .one (aF .own (nth (nth d.Caches t).Lists k))),(9,.hold .one [I ((j:Nat):Int)])]) (λj=>j<=(nth (nth d.Caches t).Lists k).length) (λj=>(nth (nth d.Caches t).Lists k).length - j) (0) ?_ (P0 _) λj H=>?_
  ·repeat'(first|exact trivial|rfl |exact nj a|exact dE _|refine CG ?_ ?_|(exact AQ (by first|omega|(simp only;omega)|(simp;omega))))
  by_cases g:j<(nth (nth d.Caches t).Lists k).length
  ·have b:=ah g
   have B:=lM _ _ _ (c j g)
   repeat'(first|refine gD ?_|(conv=>whnf);first|refine C9 (aa b) ?_|refine CE rfl (aa b) rfl ?_|refine CF (B) (.inl rfl) ?_)
   ((conv=>whnf);refine CA (j+1) ω ω ?_)
   rw[rL _ _ _ g];exact wC
  ·obtain rfl:j=(nth (nth d.Caches t).Lists k).length:=ω
   rw[U3]
   repeat'(first|refine gD ?_|fail)
   ((conv=>whnf);refine CA (k+1) ω ω ?_)
   rw[w,y];exact wC
 ·obtain rfl:k=4:=ω
  repeat'(first|refine gD ?_|fail)
  refine CC rfl rfl ?_;exact wC
def Fa(s:Int):Int:=(1103515245*s+12345) % 1073741824
theorem DZ(s:Int):0<=Fa s/\Fa s<=1073741823:=by unfold Fa;omega
theorem wm(s:Int)(b:0<=s/\s<=1073741823):ao Tryz.prog 377 false [.val none [I s]] .one [I (Fa s)]:=by
 have a:=aD s 0 1073741823;rw[N0 b]at a;refine fO 10 [] Tryz.func377 rfl ?_
 repeat'(first|refine gO ?_|(conv=>whnf);first|refine C8 ?_|refine CP (z:=Fa s) (f8 ω) ?_|refine C5 (a) ?_|refine CJ (by decide) ?_)
 rfl
def GP(s n:Int):Int:=Fa s / 1024 % n
theorem uZ(s:Int){n:Int}(h:1<=n):0<=GP s n/\GP s n<n:=⟨Int.emod_nonneg _ ω,Int.emod_lt_of_pos _ ω⟩
theorem rN(s n:Int)(b:0<=s/\s<=1073741823)(c:1<=n/\n<=1000):ao Tryz.prog 343 false [.val none [I s],.val none [I n]] (.tup [none,none]) [I (GP s n),I (Fa s)]:=by
 have d:=aD s 0 1073741823;have e:=aD n 1 1000;rw[N0 b]at d;rw[N0 c]at e;have g:=DZ s;have i:=uZ s c.1;have a:(Fa s).tdiv 1024=Fa s / 1024:=Int.tdiv_eq_ediv_of_nonneg g.1;have h:((Fa s).tdiv 1024).tmod n=GP s n:=by rw[a];exact f8 ω
 refine fO 23 [] Tryz.func343 rfl ?_ (.inr ⟨trivial,trivial,trivial⟩)
 repeat'(first|refine gO ?_|(conv=>whnf);first|refine C8 ?_|refine C5 (d) ?_|refine C5 (e) ?_|refine C5 (wm s b) ?_|refine CJ (by decide) ?_|refine CJ ω ?_|refine CP h ?_|refine CH (er (by rw[a];omega) (by rw[a];omega)) ?_)
 rfl
def pQ(n:Nat):List Int:=(List.range n).map λ(i:Nat)=>(i:Int)
theorem DT(n:Nat):pQ (n+1)=pQ n++[(n:Int)]:=by unfold pQ;rw[List.range_succ,t4];rfl
theorem wT(n:Nat):(pQ n).length=n:=by simp[pQ]
def uw(xs:List Int)(i k:Nat):List Int:=(xs.set i (nth xs k)).set k (nth xs i)
theorem FN(xs:List Int)(i k:Nat):(uw xs i k).length=xs.length:=by simp[uw]
def gi(n:Nat)(s:Int):Nat->List Int × Int
 | 0=>(pQ n,s)
 | j+1=>(uw (gi n s j).1 (n - 1 - j) (GP (gi n s j).2 ((n - 1 - j:Nat)+1:Int)).toNat,Fa (gi n s j).2)
theorem kH(n:Nat){s:Int}(a:0<=s/\s<=1073741823):∀j,(gi n s j).1.length=n/\0<=(gi n s j).2/\(gi n s j).2<=1073741823
 | 0=>⟨wT n,a⟩
 | j+1=>⟨by simp only[gi,FN];exact(kH n a j).1,DZ _⟩
def shuf(n:Nat)(s:Int):List Int × Int:=gi n s (n - 1)
theorem HT(xs:List Int)(i k:Nat):(uw xs i k).map (rI .own)=((xs.map (rI .own)).set i (rI .own (nth xs k))).set k (rI .own (nth xs i)):=by simp[uw,I4]
theorem Gd{xs:List Int}{i k:Nat}(v:Int)(a:k<xs.length):((xs.map (rI .own)).set i (rI .own v))[k]? = some (rI .own (nth (xs.set i v) k)):=by
 rw[<-I4];exact aa (ah (by rw[X0];exact a))
theorem wI(n:Nat)(s:Int)(d:0<=s/\s<=1073741823)(w:n<=64):ao Tryz.prog 393 false [.val none [I s],.val none [I (n:Nat)]] (.tup [none,none]) (aF .own (shuf n s).1++[I (shuf n s).2]):=by
 have e:=aD s 0 1073741823;have g:=aD (n:Nat) 0 64;rw[N0 d]at e;rw[N0 ω]at g;refine fO 63 [] Tryz.func393 rfl ?_ (.inr (aO (bM _) ⟨trivial,trivial⟩))
 repeat'(first|refine gO ?_|(conv=>whnf);first|refine C8 ?_|refine C5 (e) ?_|refine C5 (g) ?_)
 (conv=>whnf)
 refine CB (ι:=Nat) (λk=>[(0,.hold .one [I (s)]),(1,.hold .one [I ((n:Nat):Int)]),(6,.hold .one (aF .own (pQ k))),(7,.hold .one [I ((k:Nat):Int)])]) (λk=>k<=n) (λk=>n - k) (0) ?_ (P0 _) λk y=>?_
 ·exact wB
 have h:=wT k;by_cases B:k<n
 ·repeat'(first|refine gD ?_|(conv=>whnf);first|refine C8 ?_|refine Ap.sm (aR λ_=>rfl) rfl (by simp;omega) (by decide) (gN (rI .own) (pQ k) (k:Int)) ?_)
  ((conv=>whnf);refine CA (k+1) ω ω ?_)
  rw[DT];exact wB
 ·obtain rfl:k=n:=ω
  repeat'(first|refine gD ?_|(conv=>whnf);first|refine C8 ?_)
  (conv=>whnf)
  refine CB (ι:=Nat) (λj=>[(0,.hold .one [I ((gi k s j).2)]),(6,.hold .one (aF .own (gi k s j).1)),(8,.hold .one [I (((k:Int) - 1 - j))])]) (λj=>(j<=k - 1/\j<=k)) (λj=>k - j) (0) ?_ (⟨P0 _,P0 _⟩) λj C=>?_
  ·exact wB
  obtain⟨D,l,o⟩:=kH k d j;by_cases E:j<k - 1
  ·have q:(k:Int) - 1 - j=((k - 1 - j:Nat):Int):=ω
   have r:=uZ (gi k s j).2 (n:=((k - 1 - j:Nat)+1:Int)) ω;have t:=rN (gi k s j).2 ((k - 1 - j:Nat)+1:Int) ⟨l,o⟩ ω;have u:gi k s (j+1)=(uw (gi k s j).1 (k - 1 - j) (GP (gi k s j).2 ((k - 1 - j:Nat)+1:Int)).toNat,Fa (gi k s j).2):=rfl;rw[q];generalize gi k s j=p at *;obtain⟨xs,z⟩:=p;simp only at *;generalize k - 1 - j=i at *;have a:=ah (xs:=xs) (i:=i) ω;have b:=ah (xs:=xs) (i:=(GP z (i+1)).toNat) ω;have c:=Gd (xs:=xs) (i:=i) (k:=(GP z (i+1)).toNat) (nth xs (GP z (i+1)).toNat) ω
   repeat'(first|refine gD ?_|(conv=>whnf);first|refine C8 ?_|refine C5 (t) ?_|refine CI ω (aa b) ?_|refine C9 (aa a) ?_|refine CE rfl (aa a) rfl ?_|refine CE rfl (aa b) rfl ?_|refine CK rfl rfl (aa a) rfl (U0 rfl) rfl ?_|refine CI ω c ?_|refine CK rfl rfl c rfl (U0 rfl) rfl ?_)
   ((conv=>whnf);refine CA (j+1) ω ω ?_)
   rw[u];simp only[aF,HT];exact wB
  ·obtain rfl:j=k - 1:=ω
   repeat'(first|refine gD ?_|(conv=>whnf);first|refine C8 ?_)
   rfl
def zi(b:Int):Nat->Nat
 | 0=>0
 | n+1=>zi b n+(if aW b (n:Nat)=true then 1 else 0)
theorem yV(b:Int):∀n,zi b n<=n
 | 0=>Z1 _
 | n+1=>by have:=yV b n;simp only[zi];split<;>omega
theorem sA(b:Int)(d:b<=9223372036854775807):ao Tryz.prog 112 false [.val none [I b]] .one [I (zi b 16:Nat)]:=by
 refine fO 15 [] Tryz.func112 rfl ?_
 repeat'(first|refine gO ?_|fail)
 (conv=>whnf)
 refine CB (ι:=Nat) (λk=>[(0,.hold .one [I (b)]),(3,.hold .one [I ((zi b k:Nat):Int)]),(4,.hold .one [I ((k:Nat):Int)])]) (λk=>k<=16) (λk=>16 - k) (0) ?_ (P0 _) λk g=>?_
 ·exact wB
 have h:=yV b k;by_cases i:k<16
 ·have a:=gV b (k:Nat) d
  have c:zi b (k+1)=zi b k+(if aW b (k:Nat)=true then 1 else 0):=rfl;cases e:aW b (k:Nat)<;>rw[e]at a c
  all_goals
   repeat'(first|refine gD ?_|(conv=>whnf);first|refine C5 (a) ?_)
   ((conv=>whnf);refine CA (k+1) ω ω ?_)
   rw[c];exact wB
 ·obtain rfl:k=16:=ω
  repeat'(first|refine gD ?_|fail)
  rfl
def xl(h:ac)(s:au):Bool:=decide (0<zi s.Bits 16)&&decide ((aK h s.Page).length=1)
def jX(h:ac):Nat->List au
 | 0=>[]
 | n+1=>if xl h (nth h.Spans n)=true then jX h n++[nth h.Spans n] else jX h n
def lN(h:ac):List au:=jX h h.Spans.length
theorem vi(h:ac):∀n,(jX h n).length<=n
 | 0=>Z1 _
 | n+1=>by have:=vi h n;simp only[jX];split<;>simp<;>omega
theorem nI(h:ac):∀{n:Nat},n<=h.Spans.length->∀s∈jX h n,s∈h.Spans
 | 0,_,s,a=>by cases a
 | n+1,b,s,a=>by
  simp only[jX]at a;split at a
  ·rcases W1.1 a with a|a
   ·exact nI h ω s a
   ·rw[W0.1 a];exact am ω
  ·exact nI h ω s a
theorem tA(h:ac)(j:sI h)(q:h.Spans.length<=1000)(r:dG h<=1000)(l:∀s∈h.Spans,s.Bits<=9223372036854775807):ao Tryz.prog 38 false [.val (some 24) (ac.enc .imm h)] .one (bX .own (lN h)):=by
 refine fO 42 [(5,16,[13,14,15,16,17,18,19,20,21,22,23,24,25,26,27,28])] Tryz.func38 rfl ?_ (.inr (DO _))
 repeat'(first|refine gO ?_|fail)
 (conv=>whnf)
 refine CB (ι:=Nat) (λk=>[(1,.hold .box (ac.enc .imm h)),(3,.hold .one (bX .own (jX h k))),(4,.hold .one [I ((k:Nat):Int)])]) (λk=>k<=h.Spans.length) (λk=>h.Spans.length - k) (0) ?_ (P0 _) λk t=>?_
 ·exact wB
 have n:=vi h k;by_cases e:k<h.Spans.length
 ·have c:=ah e
  have d:=sA (nth h.Spans k).Bits (l _ (am e));have b:=gk h (nth h.Spans k).Page j;have o:=eS h (nth h.Spans k).Page;have p:=yV (nth h.Spans k).Bits 16;have a:jX h (k+1)=if xl h (nth h.Spans k)=true then jX h k++[nth h.Spans k] else jX h k:=rfl
  by_cases g:0<zi (nth h.Spans k).Bits 16
  ·by_cases i:(aK h (nth h.Spans k).Page).length=1
   ·rw[C7 (by unfold xl;simp[g,i])]at a
    repeat'(first|refine gA ?_|(conv=>whnf);first|refine C9 (aa c) ?_|refine C5 (d) ?_|refine CD (b) ⟨⟨rfl,rfl⟩,⟨rfl,rfl⟩,trivial⟩ ?_|refine C5 (b) ?_|refine C8 ?_|refine Ap.sm (aR λ_=>rfl) rfl (by simp;omega) (by decide) (gN (au.enc .own) (jX h k) (nth h.Spans k)) ?_)
    ((conv=>whnf);refine CA (k+1) ω ω ?_)
    rw[a];exact wB
   ·rw[C6 (by unfold xl;simp[i])]at a
    repeat'(first|refine gA ?_|(conv=>whnf);first|refine C9 (aa c) ?_|refine C5 (d) ?_|refine C5 (b) ?_|refine C8 ?_)
    ((conv=>whnf);refine CA (k+1) ω ω ?_)
    rw[a];exact wB
  ·rw[C6 (by unfold xl;simp[g])]at a
   repeat'(first|refine gD ?_|(conv=>whnf);first|refine C9 (aa c) ?_|refine C5 (d) ?_|refine C5 (b) ?_|refine C8 ?_)
   ((conv=>whnf);refine CA (k+1) ω ω ?_)
   rw[a];exact wB
 ·obtain rfl:k=h.Spans.length:=ω
  repeat'(first|refine gD ?_|fail)
  rfl
def zg(s:au)(c:Nat):Bool:=aW s.Bits (((c:Nat):Int) / csz s.Class)
def tc(s:au)(n:Nat):List Int:=((List.range n).filter (zg s)).map λ(i:Nat)=>(i:Int)
theorem KJ{s:au}{n:Nat}(h:zg s n=true):tc s (n+1)=tc s n++[(n:Int)]:=by
 unfold tc;rw[List.range_succ,List.filter_append,t4];simp[h]
theorem LC{s:au}{n:Nat}(h:zg s n=false):tc s (n+1)=tc s n:=by
 unfold tc;rw[List.range_succ,List.filter_append,t4];simp[h]
theorem qx(s:au)(n:Nat):(tc s n).length<=n:=by
 unfold tc;rw[T0];exact R3 (List.length_filter_le _ _) (by simp)
theorem Kh{s:au}(a:aX s=true){c:Nat}(d:c<16):0<=((c:Nat):Int) / csz s.Class/\((c:Nat):Int) / csz s.Class<=15:=by
 have f:=aE a;have b:csz s.Class=1\/csz s.Class=2\/csz s.Class=4\/csz s.Class=8:=ce ω;rcases b with e|e|e|e<;>rw[e]<;>omega
theorem mK(s:au)(a:aX s=true):ao Tryz.prog 394 false [.val (some 3) (au.enc .imm s)] .one (aF .own (tc s 16)):=by
 have b:=f6 s;rw[a]at b;have g:=aE a;have n:=ce g.2.2;refine fO 27 [(5,7,[14,15,16,17,18,19,20])] Tryz.func394 rfl ?_ (.inr (bM _))
 repeat'(first|refine gO ?_|fail)
 (conv=>whnf)
 refine CB (ι:=Nat) (λi=>[(1,.hold .box (au.enc .imm s)),(3,.hold .one (aF .own (tc s i))),(4,.hold .one [I ((i:Nat):Int)])]) (λi=>i<=16) (λi=>16 - i) (0) ?_ (P0 _) λi o=>?_
 ·exact wB
 have h:=qx s i;by_cases j:i<16
 ·have k:=Kh a j
  have d:IntKind.i64.wrap (((i:Nat):Int).tdiv (csz s.Class))=((i:Nat):Int) / csz s.Class:=by rw[mT ω];exact er ω ω
  have c:=gV s.Bits (((i:Nat):Int) / csz s.Class) (ep a).2;cases e:zg s i
  ·rw[show aW s.Bits (((i:Nat):Int) / csz s.Class)=false from e]at c
   repeat'(first|refine gD ?_|(conv=>whnf);first|refine C5 (b) ?_|refine C5 (dq _) ?_|refine CJ ω ?_|refine CH d ?_|refine C5 (c) ?_)
   ((conv=>whnf);refine CA (i+1) ω ω ?_)
   rw[LC e];exact wB
  ·rw[show aW s.Bits (((i:Nat):Int) / csz s.Class)=true from e]at c
   repeat'(first|refine gD ?_|(conv=>whnf);first|refine C5 (b) ?_|refine C5 (dq _) ?_|refine CJ ω ?_|refine CH d ?_|refine C5 (c) ?_|refine CO cv (λr l=>by rw[W0.1 l];rfl) (by simp[aU,dx]) (by simp;omega) (by simp only[T0];exact vL (by simp;omega) (by decide)) rfl ?_)
   ((conv=>whnf);refine CA (i+1) ω ω ?_)
   rw[KJ e]
   (repeat'(first|exact trivial|rfl|exact CG rfl (CG (Q0 (C.s du.own) (by simp[rI])) trivial)|refine CG ?_ ?_))
 ·obtain rfl:i=16:=ω
  repeat'(first|refine gD ?_|(conv=>whnf);first|refine C5 (b) ?_)
  rfl
structure fh where
 A:Int
 B:Int
deriving DecidableEq,Inhabited
def fh.enc(_:du)(x:fh):List C:=[I x.A,I x.B]
def iw(o:du)(x:List fh):List C:=[.s o (x.map (fh.enc o))]
theorem Dg(x:List fh):gv (iw .own x):=⟨⟨.inl λh=>(by cases h),aY _ _ λ_ _=>⟨trivial,trivial,trivial⟩⟩,trivial⟩
def Kk(i:Int)(p:fh):Bool:=decide (p.A=i) || decide (p.B=i)
def dw(a b:au):cr:=if(tc a 16).length<(tc b 16).length then⟨b.Page,a.Page,tc a 16⟩ else⟨a.Page,b.Page,tc b 16⟩
theorem w6(a b:au)(g:meshable a b=true)(h:aX a=true)(i:aX b=true):ao Tryz.prog 366 false [.val (some 3) (au.enc .imm a),.val (some 3) (au.enc .imm b)] (.tup [some 3,none]) (cr.enc .own (dw a b)++[B true]):=by
 have c:=kn a b;rw[g]at c;have d:=mK a h;have e:=mK b i;have j:=qx a 16;have k:=qx b 16;unfold dw;split
 ·refine fO 27 [(3,6,[11,12,13,14,15,16]),(5,6,[20,21,22,23,24,25])] Tryz.func366 rfl ?_ (.inr (aO (cr.enc_fr _) ⟨trivial,trivial⟩))
  repeat'(first|refine gD ?_|(conv=>whnf);first|refine C5 (c) ?_|refine C5 (d) ?_|refine C5 (e) ?_|refine C8 ?_)
  rfl
 ·refine fO 27 [(3,6,[11,12,13,14,15,16]),(5,6,[20,21,22,23,24,25])] Tryz.func366 rfl ?_ (.inr (aO (cr.enc_fr _) ⟨trivial,trivial⟩))
  repeat'(first|refine gD ?_|(conv=>whnf);first|refine C5 (c) ?_|refine C5 (d) ?_|refine C5 (e) ?_|refine C8 ?_)
  rfl
def tL(p:cr):cF:=⟨p,0,0⟩
theorem zU(p:cr)(c:ef p=true)(a:cr.sml p):ao Tryz.prog 367 false [.val (some 3) (cr.enc .imm p)] (.tup [some 5,none]) (cF.enc .own (tL p)++[B true]):=by
 have b:=rY p a;rw[c]at b;have d:=pp (tL p) a;refine fO 11 [] Tryz.func367 rfl ?_ (.inr (aO (cF.enc_fr _) ⟨trivial,trivial⟩))
 repeat'(first|refine gO ?_|(conv=>whnf);first|refine C5 (b) ?_|refine C5 (d) ?_)
 rfl
theorem qF(n:Nat){s:Int}(c:0<=s/\s<=1073741823):∀{j:Nat},j<=n - 1->∀x∈(gi n s j).1,0<=x/\x<n
 | 0,_,x,a=>by
  simp only[gi,pQ,C3,List.mem_range]at a;obtain⟨i,d,rfl⟩:=a;omega
 | j+1,e,x,a=>by
  have f:=(kH n c j).1;have b:=qF n c (j:=j) ω;have g:=uZ (gi n s j).2 (n:=((n - 1 - j:Nat)+1:Int)) ω;simp only[gi,uw]at a;rcases P4 a with a|rfl
  ·rcases P4 a with a|rfl
   ·exact b x a
   ·exact b _ (am ω)
  ·exact b _ (am ω)
def tkn(out:List fh)(a:Int):Bool:=out.any (Kk a)
def stp(a:List au)(p:List Int)(t i:Nat)(out:List fh):List fh:=
 if tkn out (nth p i)=false/\tkn out (nth p (p.length / 2+(i+t) % (p.length - p.length / 2)))=false/\meshable (nth a (nth p i).toNat) (nth a (nth p (p.length / 2+(i+t) % (p.length - p.length / 2))).toNat)=true then out++[⟨nth p i,nth p (p.length / 2+(i+t) % (p.length - p.length / 2))⟩] else out
def sO(a:List au)(p:List Int)(t:Nat)(out:List fh):Nat->List fh
 | 0=>out
 | i+1=>stp a p t i (sO a p t out i)
def oX(a:List au)(p:List Int):Nat->List fh
 | 0=>[]
 | t+1=>sO a p t (oX a p t) (p.length / 2)
theorem Kb(a:List au)(p:List Int)(t i:Nat)(out:List fh):(stp a p t i out).length<=out.length+1:=by unfold stp;split<;>simp
theorem uq(a:List au)(p:List Int)(t:Nat)(out:List fh):∀i,(sO a p t out i).length<=out.length+i
 | 0=>Z1 _
 | i+1=>by have b:=uq a p t out i;have c:=Kb a p t i (sO a p t out i);simp only[sO];omega
theorem AL(a:List au)(p:List Int):∀t,(oX a p t).length<=t*(p.length / 2)
 | 0=>P0 _
 | t+1=>by have b:=AL a p t;have c:=uq a p t (oX a p t) (p.length / 2);simp only[oX];rw[Nat.add_mul];omega
def lF(a:List au)(s:Int):List fh:=oX a (shuf a.length s).1 3
def mc(n:Nat)(out:List fh):List Bool:=(List.range n).map λ(i:Nat)=>tkn out (i:Nat)
theorem EU{n:Nat}{out:List fh}{a:Int}(h:0<=a/\a<n):(mc n out)[a.toNat]? = some (tkn out a):=by
 unfold mc;rw[C2,T4 ω];show some (tkn out ((a.toNat:Nat):Int))=_;rw[Int.toNat_of_nonneg h.1]
theorem Ho{n:Nat}{out:List fh}{a b:Int}(f:0<=a/\a<n)(g:0<=b/\b<n):mc n (out++[⟨a,b⟩])=((mc n out).set a.toNat true).set b.toNat true:=by
 unfold mc;apply List.ext_getElem?;intro i;by_cases c:i<n
 ·rw[C2,T4 c]
  by_cases d:b.toNat=i
  ·subst d
   rw[P2 (by simp;omega)];simp only[V3,tkn,List.any_append,List.any_cons,List.any_nil,Kk];rw[Int.toNat_of_nonneg g.1];simp
  ·rw[List.getElem?_set_ne d]
   by_cases e:a.toNat=i
   ·subst e
    rw[P2 (by simp;omega)];simp only[V3,tkn,List.any_append,List.any_cons,List.any_nil,Kk];rw[Int.toNat_of_nonneg f.1];simp
   ·rw[List.getElem?_set_ne e,C2,T4 c]
    simp only[V3,tkn,List.any_append,List.any_cons,List.any_nil,Kk];rw[O0 ω,O0 ω];simp
 ·rw[Q1 (by simp;omega),Q1 (by simp;omega)]
theorem KQ(n:Nat):(mc n []).map (rB .own)=List.replicate n [B false]:=by
 unfold mc;rw[List.map_map];apply List.ext_getElem?;intro i;rw[C2];by_cases a:i<n
 ·rw[T4 a,List.getElem?_replicate];simp[a];rfl
 ·rw[Q1 (by simp;omega),List.getElem?_replicate];simp[a]
theorem Gi{xs:List Bool}{i k:Nat}(v:Bool)(a:k<xs.length):((xs.map (rB .own)).set i (rB .own v))[k]? = some (rB .own (nth (xs.set i v) k)):=by
 rw[<-I4];exact aa (ah (by rw[X0];exact a))
theorem sF(c:List au)(s:Int)(u:0<=s/\s<=1073741823)(V:c.length<=16):ao Tryz.prog 365 false [.val none (bX .imm c),.val none [I s],.val none [I 3]] (.tup [none,none]) (iw .own (lF c s)++[I (shuf c.length s).2]):=by
 have J:=aD s 0 1073741823;rw[N0 u]at J;have K:=aD 3 0 16;rw[N0 ω]at K;have Q:=wI c.length s u ω;have D:=(kH c.length u (c.length - 1)).1;have e:=qF c.length u (Z1 _);unfold lF;change (shuf c.length s).1.length=_ at D;change ∀x∈(shuf c.length s).1,_ at e
 have E:gv (iw .own (oX c (shuf c.length s).1 3)++[I (shuf c.length s).2]):=aO (Dg _) ⟨trivial,trivial⟩;generalize shuf c.length s=q at *;obtain⟨p,z⟩:=q;simp only at *;have F:((p.length:Nat):Int).tdiv 2=((p.length / 2:Nat):Int):=by rw[Int.tdiv_eq_ediv_of_nonneg ω];omega
 have g:C.s du.own ((mc c.length []).map (rB .own))=C.s du.own (List.replicate c.length [B false]):=by rw[KQ]
 have h:∀i:Nat,i<p.length->0<=nth p i/\nth p i<c.length:=λi R=>e _ (am R)
 refine fO 110 [(15,21,[73,74,75,76,77,78,79,80,81,82,83,84,85,86,87,88,89,90,91,92,93])] Tryz.func365 rfl ?_ (.inr E)
 repeat'(first|refine gD ?_|(conv=>whnf);first|with_reducible refine CH ((Q0 _ F).trans (er ω ω)) ?_|refine C5 (J) ?_|refine C5 (K) ?_|refine C5 (Q) ?_|refine CJ (by decide) ?_|refine Mk.mk c.length rfl rfl ω (vL ω (by decide)) rfl ?_)
 (conv=>whnf)
 refine CB (ι:=Nat) (λt=>[(0,.hold .one (bX .imm c)),(2,.hold .one [I (3)]),(8,.hold .one (iw .own (oX c p t))),(9,.hold .one (aF .own p)),(10,.hold .one [I (z)]),(11,.hold .one [I (((p.length / 2):Nat):Int)]),(12,.hold .one (y9 .own (mc c.length (oX c p t)))),(13,.hold .one [I ((t:Nat):Int)])]) (λt=>t<=3) (λt=>3 - t) (0) ?_ (P0 _) λt S=>?_
 ·repeat'(first|exact trivial|rfl |exact nj g|refine CG ?_ ?_|(exact AQ (by first|omega|(simp only;omega)|(simp;omega))))
 have W:=AL c p t;have ol2:t*(p.length / 2)<=3*8:=Nat.mul_le_mul S ω;by_cases X:t<3
 ·repeat'(first|refine gD ?_|fail)
  (conv=>whnf)
  refine CB (ι:=Nat) (λj=>[(0,.hold .one (bX .imm c)),(2,.hold .one [I (3)]),(8,.hold .one (iw .own (sO c p t (oX c p t) j))),(9,.hold .one (aF .own p)),(10,.hold .one [I (z)]),(11,.hold .one [I (((p.length / 2):Nat):Int)]),(12,.hold .one (y9 .own (mc c.length (sO c p t (oX c p t) j)))),(13,.hold .one [I ((t:Nat):Int)]),(14,.hold .one [I ((j:Nat):Int)])]) (λj=>j<=p.length / 2) (λj=>p.length / 2 - j) (0) ?_ (P0 _) λj Y=>?_
  ·repeat'(first|exact trivial|rfl |exact nj g|refine CG ?_ ?_|(exact AQ (by first|omega|(simp only;omega)|(simp;omega))))
  have Z:=uq c p t (oX c p t) j;by_cases lj:j<p.length / 2
  ·have L:(j+t) % (p.length - p.length / 2)<p.length - p.length / 2:=Nat.mod_lt _ ω
   have G:((j:Int)+t).tmod ((p.length:Int) - (p.length / 2:Nat))=(((j+t) % (p.length - p.length / 2):Nat):Int):=by
    rw[f8 ω,Int.natCast_emod];congr 1;omega
   have d:sO c p t (oX c p t) (j+1)=stp c p t j (sO c p t (oX c p t) j):=rfl;unfold stp at d;generalize sO c p t (oX c p t) j=out at *;have l:p.length / 2+(j+t) % (p.length - p.length / 2)<p.length:=ω
   generalize hk:(j+t) % (p.length - p.length / 2)=k at *;have n:=ah (xs:=p) (i:=j) ω;have o:=ah (xs:=p) (i:=p.length / 2+k) l;have w:=h j ω;have r:=h _ l;generalize nth p j=a at *;generalize nth p (p.length / 2+k)=b at *;have y:=EU (out:=out) w;have H:=EU (out:=out) r;have T:=ah (xs:=c) (i:=a.toNat) ω;have U:=ah (xs:=c) (i:=b.toNat) ω;have M:=kn (nth c a.toNat) (nth c b.toNat);have ub2:=Gi (xs:=mc c.length out) (i:=a.toNat) (k:=b.toNat) true (by simp[mc];omega);cases N:tkn out a<;>cases O:tkn out b<;>cases P:meshable (nth c a.toNat) (nth c b.toNat)
   all_goals
    rw[N]at y;rw[O]at H;rw[P]at M;rw[N,O,P]at d;simp only[and_true,true_and,if_true,Bool.false_eq_true,Bool.true_eq_false,and_false,false_and,if_false]at d
    repeat'(first|refine gD ?_|(conv=>whnf);first|refine CP G ?_|refine CJ ω ?_|refine C9 (aa n) ?_|refine CI ω (aa o) ?_|refine CI w.1 (aa y) ?_|refine CI r.1 (aa H) ?_|refine CI w.1 (aa T) ?_|refine CI r.1 (aa U) ?_|refine CE rfl (aa n) rfl ?_|refine CE rfl (aa o) rfl ?_|refine CE rfl (aa y) rfl ?_|refine CE rfl (aa H) rfl ?_|refine C5 (M) ?_|refine C8 ?_|refine CK rfl rfl (aa y) rfl (U0 rfl) rfl ?_|refine CI r.1 ub2 ?_|refine CK rfl rfl ub2 rfl (U0 rfl) rfl ?_|refine Ap.sm (aR λ_=>rfl) rfl (by simp;omega) (by decide) (gN (fh.enc .own) out ⟨a,b⟩) ?_)
    ((conv=>whnf);refine CA (j+1) ω ω ?_)
    rw[d]
    first|(rw[Ho w r];simp only[y9,I4])|skip
    exact wB
  ·obtain rfl:j=p.length / 2:=ω
   repeat'(first|refine gD ?_|fail)
   ((conv=>whnf);refine CA (t+1) ω ω ?_;(exact wB))
 ·obtain rfl:t=3:=ω
  repeat'(first|refine gD ?_|fail)
  rfl
theorem Ec(x:List fh):d5 (iw .own x)=iw .imm x:=by simp[d5,iw,fh.enc,<-bS,v4]
theorem ao.fzR{P:Program}{f:Nat}{sh:Bool}{A:List RA}{k:Kd}{rcs:List C}(h:ao P f sh A k rcs):ao P f sh A k (d5 rcs):=by
 obtain⟨c,d⟩:=h;refine⟨c,λw S g i j=>(d w S g i j).mono λe w1 l=>?_⟩;obtain⟨v,n,p,X,q,r,t,B,u,y⟩:=l;refine⟨v,n,p,NO,λb o=>q b o\/X b o,λ_ _ h=>h.elim,λb o a=>?_,λ_ _ h=>h.elim,by rw[bS,T0];exact u,y.freeze⟩;rcases a with a|a
 ·exact t b o a
 ·exact .inr (r b o a)
structure KH(ls:List au)(q:fh):Prop where
 a:0<=q.A/\q.A<ls.length
 b:0<=q.B/\q.B<ls.length
 m:meshable (nth ls q.A.toNat) (nth ls q.B.toNat)=true
theorem EW{b:List au}{p:List Int}(c:∀x∈p,0<=x/\x<b.length)(t:Nat){out:List fh}(d:∀q∈out,KH b q):∀{i:Nat},i<=p.length / 2->∀q∈sO b p t out i,KH b q
 | 0,_=>d
 | i+1,h=>λq a=>by
  have e:=EW c t d (i:=i) ω;simp only[sO,stp]at a;split at a
  ·rename_i g
   rcases W1.1 a with a|a
   ·exact e q a
   ·obtain rfl:=W0.1 a
    have f:(i+t) % (p.length - p.length / 2)<p.length - p.length / 2:=Nat.mod_lt _ ω;exact⟨c _ (am ω),c _ (am ω),g.2.2⟩
  ·exact e q a
theorem Eu{a:List au}{p:List Int}(b:∀x∈p,0<=x/\x<a.length):∀t,∀q∈oX a p t,KH a q
 | 0=>λq c=>by cases c
 | t+1=>EW b t (Eu b t) (Z1 _)
theorem oP(a:List au){s:Int}(b:0<=s/\s<=1073741823):∀q∈lF a s,KH a q:=Eu (qF a.length b (Z1 _)) 3
theorem KI(s:au)(n:Nat):(tc s n).Pairwise (· < ·):=by
 unfold tc;rw[List.pairwise_map];exact(List.pairwise_lt_range.sublist List.filter_sublist).imp λh=>ω
theorem L1{s:au}{n:Nat} : ∀z∈tc s n,0<=z/\z<n:=λz a=>by
 unfold tc at a;simp only[C3,I3,List.mem_range]at a;obtain⟨c,⟨b,-⟩,rfl⟩:=a;omega
theorem ul(s:au):cw (tc s 16).length (ly (tc s 16))=true:=by
 refine ch.2 λj a=>?_
 have c:=L1 _ (am a);unfold ly;refine N0 ⟨ω,ω,?_⟩;by_cases e:j=0
 ·exact .inl e
 ·refine .inr ?_
  have b:=List.pairwise_iff_getElem.1 (KI s 16) (j - 1) j ω a ω;rw[show nth (tc s 16) (j - 1)=(tc s 16)[j - 1] from bp (O1 ω),show nth (tc s 16) j=(tc s 16)[j] from bp (O1 a)];exact b
theorem rh{a b:au}(c:meshable a b=true):ef (dw a b)=true/\aX a=true/\aX b=true:=by
 unfold meshable at c;simp only[I0,C0]at c;have d:=aE c.1.1;have e:=aE c.1.2;refine⟨?_,c.1⟩;unfold dw ef;split
 ·simp only[I0,C0];exact⟨ul a,ω⟩
 ·simp only[I0,C0];exact⟨ul b,ω⟩
theorem D6(a b:au):cr.sml (dw a b):=by
 have c:=qx a 16;have d:=qx b 16;unfold dw cr.sml pw;split<;>simp only<;>omega
def bJ(h:ac):List au:=(lN h).take 16
def started(h:ac):ac × Bool:=match lF (bJ h) h.Seed with
 | []=>({h with Seed:=(shuf (bJ h).length h.Seed).2},false)
 | q::_=>({h with Seed:=(shuf (bJ h).length h.Seed).2,Meshing:=true,Job:=tL (dw (nth (bJ h) q.A.toNat) (nth (bJ h) q.B.toNat))},true)
theorem HL{h:ac}{E:List Int}(a:bn h E):h.Spans.length<=32/\dG h<=32/\sI h/\∀s∈h.Spans,s.Bits<=9223372036854775807:=by
 have b:=a.lens;refine⟨b.spans,b.ents,?_,λs c=>by have:=dZ (a.L.sok s c);omega⟩;have:=(b8 a.ker).1.2;exact this
theorem DX(h:ac):(bJ h).length<=16:=by unfold bJ;rw[Z0];omega
theorem LO(x:List fh)(z:Int):d5 (iw .own x++[I z])=iw .imm x++[I z]:=by
 have h:=Ec x;rw[bS]at h |-;rw[t4,h];simp[fz]
theorem Lr(h:ac):(bJ h).map (au.enc .imm)=((lN h).map (au.enc .imm)).take 16:=v3
theorem Dj(p:cr)(b:ef p=true)(c:cr.sml p):ao Tryz.prog 367 false [.val (some 3) (cr.enc .imm p)] (.tup [some 5,none]) (ur (tL p)++[B true]):=by
 have h:=(zU p b c).fzR;have e:d5 (cF.enc .own (tL p)++[B true])=ur (tL p)++[B true]:=by
  have a:=cF.enc_fz (tL p);rw[bS]at a |-;rw[t4,a];simp[fz,cF.enc,ur]
 rwa [e]at h
theorem wJ(h:ac)(w:bn h []):aQ Tryz.prog 307 false [.ptr (bu h)] [.ptr (bu (started h).1)] .one [B (started h).2]:=by
 obtain⟨w1,Q,H,J⟩:=HL w;have a:=w.nums;unfold ca at a;rw[C0]at a;have e:=(tA h H ω ω J).fzR;rw[tf]at e;have o:=DX h;have b:=(sF (bJ h) h.Seed ⟨a.1,a.2.1⟩ o).fzR;rw[LO]at b;have g:=oP (bJ h) ⟨a.1,a.2.1⟩;have K:=vi h h.Spans.length;have y:(lN h).length<=32:=by unfold lN;omega
 have j:=Lr h;unfold started;cases C:lF (bJ h) h.Seed with
 | nil=>
  rw[C]at b;by_cases L:16<(lN h).length
  ·refine fM 62 [] [(8,275,[34,35,36,37,38,39,40,41,42,43,44,45,46,47,48,33,49,50,6,0,1,2,3,4,5,6,7,8,9,10,11,12,13,14,15,16,17,18,19,1017,20])] [(0,0)] Tryz.func307 rfl (λu q=>?_)
   repeat'(first|refine gD ?_|(conv=>whnf);first|refine C8 ?_|refine CD (e) ⟨⟨rfl,bz h⟩,trivial⟩ ?_|refine C5 (b) ?_|refine CR 16 rfl (by rw[T0];omega) (aR λ_=>rfl) j ?_)
   refine CC rfl rfl ?_;exact wC
  ·have k:bJ h=lN h:=by unfold bJ;exact W4 ω
   rw[k]at b;refine fM 62 [] [(8,275,[34,35,36,37,38,39,40,41,42,43,44,45,46,47,48,33,49,50,6,0,1,2,3,4,5,6,7,8,9,10,11,12,13,14,15,16,17,18,19,1017,20])] [(0,0)] Tryz.func307 rfl (λu q=>?_);rw[k]
   repeat'(first|refine gD ?_|(conv=>whnf);first|refine C8 ?_|refine CD (e) ⟨⟨rfl,bz h⟩,trivial⟩ ?_|refine C5 (b) ?_)
   refine CC rfl rfl ?_;exact wC
 | cons q M=>
  rw[C]at b g;obtain⟨E,F,G⟩:=g q (C1 ..);obtain⟨N,O,P⟩:=rh G;have p:=w6 _ _ G O P;have t:=Dj _ N (D6 _ _);have c:=ah (xs:=bJ h) (i:=q.A.toNat) ω;have d:=ah (xs:=bJ h) (i:=q.B.toNat) ω;have l:(q::M)[0]? = some q:=rfl;by_cases L:16<(lN h).length
  ·refine fM 62 [] [(8,275,[34,35,36,37,38,39,40,41,42,43,44,45,46,47,48,33,49,50,6,0,1,2,3,4,5,6,7,8,9,10,11,12,13,14,15,16,17,18,19,1017,20])] [(0,0)] Tryz.func307 rfl (λu r=>?_)
   repeat'(first|refine gD ?_|(conv=>whnf);first|with_reducible refine Bf.D (λn=>absurd n (by simp)) (λn=>?_)|refine C8 ?_|refine CD (e) ⟨⟨rfl,bz h⟩,trivial⟩ ?_|refine C5 (b) ?_|refine CR 16 rfl (by rw[T0];omega) (aR λ_=>rfl) j ?_|refine CI (by decide) (aa l) ?_|refine CI E.1 (aa c) ?_|refine CI F.1 (aa d) ?_|refine C5 (p) ?_|refine CD (t) ⟨⟨rfl,cr.enc_fz _⟩,trivial⟩ ?_|refine C8 ?_)
   refine CC rfl rfl ?_;exact wC
  ·have k:bJ h=lN h:=by unfold bJ;exact W4 ω
   rw[k]at b p t c d;refine fM 62 [] [(8,275,[34,35,36,37,38,39,40,41,42,43,44,45,46,47,48,33,49,50,6,0,1,2,3,4,5,6,7,8,9,10,11,12,13,14,15,16,17,18,19,1017,20])] [(0,0)] Tryz.func307 rfl (λu r=>?_);rw[k]
   repeat'(first|refine gD ?_|(conv=>whnf);first|with_reducible refine Bf.D (λn=>absurd n (by simp)) (λn=>?_)|refine C8 ?_|refine CD (e) ⟨⟨rfl,bz h⟩,trivial⟩ ?_|refine C5 (b) ?_|refine CI (by decide) (aa l) ?_|refine CI E.1 (aa c) ?_|refine CI F.1 (aa d) ?_|refine C5 (p) ?_|refine CD (t) ⟨⟨rfl,cr.enc_fz _⟩,trivial⟩ ?_|refine C8 ?_)
   refine CC rfl rfl ?_;exact wC
theorem DM(xs:List Int)(x:Int)(h:xs.length<=4611686018427387904):ao Tryz.prog 180 false [.val none (aF .imm xs),.val none [I x]] .one [I (cQ (λy=>decide (y=x)) xs)]:=by
 refine fO 19 [] Tryz.func180 rfl ?_
 repeat'(first|refine gO ?_|(conv=>whnf);first|refine C8 ?_)
 (conv=>whnf)
 refine CB (ι:=Nat) (λi=>[(0,.hold .one (aF .imm xs)),(1,.hold .one [I (x)]),(7,.hold .one [I (xs.length)]),(8,.hold .one [I ((i:Nat):Int)])]) (λi=>i<=xs.length/\∀(j:Nat)(z:Int),j<i->xs[j]? = some z->decide (z=x)=false) (λi=>xs.length - i) (0) ?_ (⟨P0 _,λj z d _=>absurd d (Nat.not_lt_zero _)⟩) λi c=>?_
 ·exact wB
 obtain⟨c,b⟩:=c;by_cases g:i<xs.length
 ·have a:=ah g
  by_cases e:nth xs i=x
  ·repeat'(first|refine gD ?_|(conv=>whnf);first|with_reducible refine C9 (aa a) ?_|refine C8 ?_|refine Bf.t (by simp[e]) ?_)
   exact Q0 (λz=>[I z]) (d9 a (N0 e) b).symm
  ·repeat'(first|refine gD ?_|(conv=>whnf);first|with_reducible refine C9 (aa a) ?_|refine C8 ?_|refine Bf.f (by simp[Ne.symm e]) ?_)
   ((conv=>whnf);refine CA (i+1) ⟨ω,cW a (O0 e) b⟩ ω ?_;(exact wB))
 ·repeat'(first|refine gD ?_|(conv=>whnf);first|refine C8 ?_)
  exact Q0 (λz=>[I z]) (f7 ω b).symm
theorem vV(xs:List Int)(x:Int)(a:xs.length<=4611686018427387904):ao Tryz.prog 84 false [.val none (aF .imm xs),.val none [I x]] .one [B (decide (x∈xs))]:=by
 refine fO 9 [] Tryz.func84 rfl ?_
 repeat'(first|refine gO ?_|(conv=>whnf);first|refine C8 ?_|refine C5 (DM xs x a) ?_)
 exact Q0 (λz=>[B z]) ((by rw[jl];rw[Q3];simp))
def de(k:af):af:={k with Calls:=k.Calls+1}
def refd(k:af):Bool:=decide (k.Calls∈k.Refuse)
def u9(k:af)(p:Int)(m:Int):af:={k with Machine:=⟨k.Machine.Frames,⟨k.Machine.Table.Entries.set p.toNat {nth k.Machine.Table.Entries p.toNat with Mode:=m}⟩⟩}
def jF(k:af)(p m:Int):af × Bool:=if refd k=true then(de k,false) else(u9 (de k) p m,true)
theorem FJ(k:af)(p m:Int):af.enc .own (u9 k p m)=(af.enc .own k).set 2 (.s .own ((k.Machine.Table.Entries.map (bj.enc .own)).set p.toNat (bj.enc .own {nth k.Machine.Table.Entries p.toNat with Mode:=m}))):=by
 simp[af.enc,u9,I4]
theorem row16{k:af}(a:aA k=true){f:Nat}(b:f<k.Machine.Frames.Cells.length):(nth k.Machine.Frames.Cells f).length=16:=by
 have:=(bf.1 (aC.1 a).2.1).2.2.2 f b;unfold gz at this;simp only[I0,C0]at this;omega
def setCell(k:af)(f:Nat)(c v:Int):af:={k with Machine:=⟨⟨k.Machine.Frames.Cells.set f ((nth k.Machine.Frames.Cells f).set c.toNat v),k.Machine.Frames.Used⟩,k.Machine.Table⟩}
theorem Aa(k:af)(f:Nat)(c v:Int):af.enc .own (setCell k f c v)=(af.enc .own k).set 0 (.s .own ((k.Machine.Frames.Cells.map (aF .own)).set f [.s .own (((nth k.Machine.Frames.Cells f).map (rI .own)).set c.toNat [I v])])):=by
 simp[af.enc,setCell,I4,aF,rI]
def l7(k:af)(p:Int):Nat:=(ar k.Machine.Table p).Frame.toNat
def wQ(k:af)(a b c:Int):af:=setCell k (l7 k b) c (nth (nth k.Machine.Frames.Cells (l7 k a)) c.toNat)
def Lb(k:af)(a b c:Int):Nat->af
 | 0=>k
 | _+1=>wQ k a b c
def ve(k:af)(p:Nat)(e:bj):af:={k with Machine:=⟨k.Machine.Frames,⟨k.Machine.Table.Entries.set p e⟩⟩}
theorem Hz(k:af)(p:Nat)(e:bj):af.enc .own (ve k p e)=(af.enc .own k).set 2 (.s .own ((k.Machine.Table.Entries.map (bj.enc .own)).set p (bj.enc .own e))):=by
 simp[af.enc,ve,I4]
theorem GL{k:af}(p:Nat)(e:bj)(h:aG.sml k.Machine.Table):aG.sml (ve k p e).Machine.Table:=by
 refine⟨?_,λx _=>trivial⟩;show(k.Machine.Table.Entries.set p e).length<=_;rw[X0];exact h.1
def ya(k:af)(p o:Int):af × Bool:=if refd k=true then(de k,false) else(gI (ve (de k) p.toNat ⟨2,(nth k.Machine.Table.Entries o.toNat).Frame⟩) (nth k.Machine.Table.Entries p.toNat).Frame,true)
def kv(m:aS)(a v:Int):aS × Int:=
 if(ar m.Table (a / 16)).Mode=0 then(m,1) else if(ar m.Table (a / 16)).Mode=1 then(m,2) else
 (⟨⟨m.Frames.Cells.set (ar m.Table (a / 16)).Frame.toNat ((nth m.Frames.Cells (ar m.Table (a / 16)).Frame.toNat).set (a % 16).toNat v),m.Frames.Used⟩,m.Table⟩,0)
theorem BY(m:aS)(f:Nat)(c v:Int):aS.enc .own ⟨⟨m.Frames.Cells.set f ((nth m.Frames.Cells f).set c.toNat v),m.Frames.Used⟩,m.Table⟩ = (aS.enc .own m).set 0 (.s .own ((m.Frames.Cells.map (aF .own)).set f [.s .own (((nth m.Frames.Cells f).map (rI .own)).set c.toNat [I v])])):=by
 simp[aS.enc,I4,aF,rI]
def jmay(k:af)(j:cF):Bool:=(aA k&&decide (k.Calls≠100000))&&(iB j&&decide ((ar k.Machine.Table j.Plan.Keep).Mode≠0/\(ar k.Machine.Table j.Plan.Move).Mode≠0/\(ar k.Machine.Table j.Plan.Keep).Frame≠(ar k.Machine.Table j.Plan.Move).Frame))
def jstep(k:af)(j:cF):af × cF:=
 if j.Phase=0 then((jF k j.Plan.Move 1).1,{j with Phase:=if(jF k j.Plan.Move 1).2=true then 1 else 5})
 else if j.Phase=1 then(if j.Next=j.Plan.Cells.length then(k,{j with Phase:=2}) else(wQ k j.Plan.Move j.Plan.Keep (nth j.Plan.Cells j.Next.toNat),{j with Next:=j.Next+1}))
 else if j.Phase=2 then((ya k j.Plan.Move j.Plan.Keep).1,{j with Phase:=if(ya k j.Plan.Move j.Plan.Keep).2=true then 4 else 3})
 else if j.Phase=3 then(if 0<j.Next then({k with Machine:=(kv k.Machine (j.Plan.Keep*16+nth j.Plan.Cells (j.Next - 1).toNat) 0).1},{j with Next:=j.Next - 1}) else((jF k j.Plan.Move 2).1,{j with Phase:=if(jF k j.Plan.Move 2).2=true then 5 else 3}))
 else(k,j)
theorem H8{k:af}{f:Int}(h1:∀j,j<k.Refuse.length->0<=nth k.Refuse j)(d:cV k.Machine.Frames=true)(g:fk k.Machine.Table k.Machine.Frames.Used.length=true)(h:∀j:Nat,j<k.Machine.Frames.Used.length->(j:Int)≠f->nth k.Machine.Frames.Used j=decide (0<(pagesOn k.Machine.Table (j:Int)).length))(t:0<=f/\f<k.Machine.Frames.Used.length)(l:nth k.Machine.Frames.Used f.toNat=true)(i:0<=k.Calls/\k.Calls<=100000/\k.Refuse.length<=40):aA (gI k f)=true:=by
 obtain⟨n,o,p,q⟩:=bf.1 d;unfold gI;split
 ·rename_i c
  rw[aC];simp only[X0];refine⟨h1,?_,g,λj b=>?_,i⟩
  ·rw[bf]
   simp only[X0,cq];refine⟨n,o,p,λj b=>?_⟩;by_cases a:f.toNat=j
   ·rw[C7 ⟨a,b⟩,C7 ⟨a,ω⟩];decide
   ·rw[C6 (λe=>a e.1),C6 (λe=>a e.1)];exact q j b
  ·rw[cq]
   by_cases a:f.toNat=j
   ·rw[C7 ⟨a,b⟩]
    have:(j:Int)=f:=ω
    rw[this];exact(O0 λr=>absurd c (Nat.ne_of_gt r)).symm
   ·rw[C6 (λe=>a e.1)];exact h j b ω
 ·rename_i c
  rw[aC];refine⟨h1,d,g,λj b=>?_,i⟩;by_cases a:(j:Int)=f
  ·rw[a,show j=f.toNat by omega,l]
   exact(N0 (Nat.pos_of_ne_zero c)).symm
  ·exact h j b a
def tEq(t a:aG):Prop:=a.Entries.length=t.Entries.length/\∀q:Nat,((nth a.Entries q).Mode≠0↔(nth t.Entries q).Mode≠0)/\(nth a.Entries q).Frame=(nth t.Entries q).Frame
theorem tEq.refl(t:aG):tEq t t:=⟨rfl,λ_=>⟨Iff.rfl,rfl⟩⟩
theorem tEq.of{t a:aG}(h:a=t):tEq t a:=by rw[h];exact tEq.refl t
theorem tEq.pagesOn{t a:aG}(h:tEq t a)(f:Int):Ab.pagesOn a f=Ab.pagesOn t f:=by
 unfold Ab.pagesOn i7;rw[h.1]
 congr 1
 refine List.filter_congr λq _=>?_
 obtain⟨b,c⟩:=h.2 q;unfold G7;rw[c];exact decide_eq_decide.2 (and_congr b Iff.rfl)
theorem xX{k:af}(h:aA k=true){a:aG}(c:tEq k.Machine.Table a)(i:∀q,q<a.Entries.length->0<=(nth a.Entries q).Mode/\(nth a.Entries q).Mode<=2):aA {k with Machine:=⟨k.Machine.Frames,a⟩} = true:=by
 obtain⟨l,n,o,p,r⟩:=aC.1 h;obtain⟨t,u,w⟩:=bx.1 o;rw[aC];refine⟨l,n,bx.2 ⟨λj b=>?_,?_,?_⟩,λj b=>?_,r⟩
 ·replace b:j<a.Entries.length:=b
  have e:=t j (by rw[<-c.1];exact b);have d:=i j b;obtain⟨g,y⟩:=c.2 j;show j8 _ (nth a.Entries j)=true;unfold j8 at e |-;rw[C0]at e |-;rw[y];refine⟨d.1,d.2,λf=>e.2.2.1 (Classical.byContradiction λA=>(g.2 A) f),λf=>e.2.2.2 (g.1 f)⟩
 ·show 1<=a.Entries.length;rw[c.1];exact u
 ·show a.Entries.length<=32;rw[c.1];exact w
 ·show nth k.Machine.Frames.Used j=decide (0<(Ab.pagesOn a (j:Int)).length)
  rw[c.pagesOn];exact p j b
theorem kL{k:af}(h:aA k=true)(f:k.Calls≠100000):aA (de k)=true:=by
 obtain⟨a,b,c,d,g,i,e⟩:=aC.1 h;rw[aC];exact⟨a,b,c,d,by show 0<=k.Calls+1;omega,by show k.Calls+1<=100000;omega,e⟩
theorem qG{k:af}{p m:Int}(a:(nth k.Machine.Table.Entries p.toNat).Mode≠0)(b:m=1\/m=2):tEq k.Machine.Table (u9 k p m).Machine.Table:=by
 refine⟨by simp[u9],λq=>?_⟩;simp only[u9,cq];split
 ·rename_i e
  rw[<-e.1];exact⟨⟨λ_=>a,λ_=>by show m≠0;omega⟩,rfl⟩
 ·exact⟨Iff.rfl,rfl⟩
theorem Hq{k:af}(h:aA k=true){p m:Int}(d:(nth k.Machine.Table.Entries p.toNat).Mode≠0)(a:m=1\/m=2):aA (u9 k p m)=true:=by
 refine xX h (qG d a) λq e=>?_
 obtain⟨i,j,f,l,n⟩:=aC.1 h;obtain⟨g,o,r⟩:=bx.1 f;have c:q<k.Machine.Table.Entries.length:=by rw[<-(qG d a).1];exact e
 have b:=g q c;unfold j8 at b;rw[C0]at b;simp only[cq];split
 ·show 0<=m/\m<=2;omega
 ·exact⟨b.1,b.2.1⟩
theorem A5{k:af}{p m:Int}(h:aA k=true)(c:k.Calls≠100000)(b:(ar k.Machine.Table p).Mode≠0)(a:m=1\/m=2):aA (jF k p m).1=true/\tEq k.Machine.Table (jF k p m).1.Machine.Table:=by
 obtain⟨e,f,d,-⟩:=co h b;rw[d]at b;unfold jF;split
 ·exact⟨kL h c,tEq.refl _⟩
 ·exact⟨Hq (kL h c) b a,qG (k:=de k) b a⟩
theorem ij{k:af}(h:aA k=true){p:Int}(b:(ar k.Machine.Table p).Mode≠0):l7 k p<k.Machine.Frames.Cells.length/\nth k.Machine.Frames.Used (l7 k p)=true/\((l7 k p:Nat):Int)=(nth k.Machine.Table.Entries p.toNat).Frame:=by
 obtain⟨f,g,a,i,j⟩:=co h b;obtain⟨l,d,n,e,o⟩:=aC.1 h;obtain⟨q,r,t,u⟩:=bf.1 d;have c:((l7 k p:Nat):Int)=(ar k.Machine.Table p).Frame:=by unfold l7;omega
 refine⟨ω,?_,by rw[c,a]⟩;rw[e _ ω,c];refine N0 (dN.2 ⟨p.toNat,ω,?_,?_⟩)
 ·rw[<-a];exact b
 ·rw[<-a]
theorem Hd{k:af}(h:aA k=true){f:Nat}{a:List Int}(c:a.length=16)(d:∀v∈a,0<=v/\v<=999)(g:nth k.Machine.Frames.Used f=true):aA {k with Machine:=⟨⟨k.Machine.Frames.Cells.set f a,k.Machine.Frames.Used⟩,k.Machine.Table⟩} = true:=by
 obtain⟨i,l,n,o,p⟩:=aC.1 h;obtain⟨q,r,t,u⟩:=bf.1 l;refine aC.2 ⟨i,bf.2 ⟨?_,?_,?_,λj b=>?_⟩,n,o,p⟩
 ·simp only[X0];exact q
 ·simp only[X0];exact r
 ·simp only[X0];exact t
 ·simp only[X0]at b |-
  simp only[cq];split
  ·rename_i e
   obtain⟨rfl,-⟩:=e;unfold gz;simp only[I0,C0,X2];refine⟨c,λv w=>?_⟩;have:=d v w;unfold gZ;simp[g,this]
  ·exact u j b
theorem y5{k:af}(h:aA k=true){f:Nat}(b:f<k.Machine.Frames.Cells.length):(nth k.Machine.Frames.Cells f).length=16/\∀v∈nth k.Machine.Frames.Cells f,0<=v/\v<=999:=by
 obtain⟨g,c,i,j,l⟩:=aC.1 h;obtain⟨n,o,p,d⟩:=bf.1 c;have a:=d f b;unfold gz at a;simp only[I0,C0,X2]at a;refine⟨a.1,λv e=>?_⟩;have:=a.2 v e;unfold gZ at this;simp only[I0,C0]at this;exact this.1
theorem pe{k:af}(h:aA k=true){f:Nat}(b:f<k.Machine.Frames.Cells.length)(d:nth k.Machine.Frames.Used f=true){c v:Int}(e:0<=v/\v<=999):aA (setCell k f c v)=true:=by
 obtain⟨g,i⟩:=y5 h b;refine Hd h (by rw[X0];exact g) (λz a=>?_) d;rcases P4 a with a|rfl
 ·exact i z a
 ·exact e
theorem HJ{k:af}(h:aA k=true){a b c:Int}(d:(ar k.Machine.Table a).Mode≠0)(e:(ar k.Machine.Table b).Mode≠0)(l:0<=c/\c<=15):aA (wQ k a b c)=true:=by
 obtain⟨f,n,-⟩:=ij h d;obtain⟨g,i,-⟩:=ij h e;obtain⟨o,j⟩:=y5 h f;exact pe h g i (j _ (am ω))
theorem Lx{k:af}{p o:Int}(h:aA k=true)(u:k.Calls≠100000)(i:(ar k.Machine.Table p).Mode≠0)(d:(ar k.Machine.Table o).Mode≠0)(w:p≠o):aA (ya k p o).1=true:=by
 unfold ya;split
 ·exact kL h u
 obtain⟨O,y,A⟩:=ij h i;obtain⟨P,Q,R⟩:=ij h d;obtain⟨S,T,B,r,t⟩:=co h i;obtain⟨U,V,C,D,E⟩:=co h d;obtain⟨F,G,H,J,W,X,K⟩:=aC.1 h;obtain⟨L,M,N⟩:=bx.1 H;rw[C]at D E d;rw[B]at r t i;have a:∀q,nth (k.Machine.Table.Entries.set p.toNat ⟨2,(nth k.Machine.Table.Entries o.toNat).Frame⟩) q=if p.toNat=q then⟨2,(nth k.Machine.Table.Entries o.toNat).Frame⟩ else nth k.Machine.Table.Entries q:=λq=>by
  rw[cq];by_cases f:p.toNat=q
  ·rw[C7 ⟨f,ω⟩,C7 f]
  ·rw[C6 (λe=>f e.1),C6 f]
 refine H8 F G (bx.2 ⟨λj c=>?_,?_,?_⟩) (λj c l=>?_) ⟨r,t⟩ (by rw[<-A];exact y) ⟨by show 0<=k.Calls+1;omega,by show k.Calls+1<=100000;omega,K⟩
 ·simp only[ve,de,X0]at c |-
  rw[a];split
  ·unfold j8;rw[C0];simp only;omega
  ·exact L j c
 ·simp only[ve,de,X0];exact M
 ·simp only[ve,de,X0];exact N
 ·replace c:j<k.Machine.Frames.Used.length:=c
  show nth k.Machine.Frames.Used j=_;rw[J j c];refine decide_eq_decide.2 ?_;rw[dN,dN];simp only[ve,de,X0,a];constructor
  ·rintro⟨q,n,g,b⟩
   refine⟨q,n,?_⟩;rw[C6 (λe=>l (by rw[<-b,<-e]))];exact⟨g,b⟩
  ·rintro⟨q,n,g,b⟩
   by_cases e:p.toNat=q
   ·rw[C7 e]at b
    exact⟨o.toNat,ω,d,b⟩
   ·rw[C6 e]at g b
    exact⟨q,n,g,b⟩
theorem Kt{k:af}{p o:Int}(h:aA k=true)(b:(ar k.Machine.Table p).Mode≠0)(a:(ya k p o).2=true)(q:Nat):(ya k p o).1.Machine.Table.Entries.length=k.Machine.Table.Entries.length/\nth (ya k p o).1.Machine.Table.Entries q=if(q:Int)=p then⟨2,(nth k.Machine.Table.Entries o.toNat).Frame⟩ else nth k.Machine.Table.Entries q:=by
 obtain⟨d,f,-⟩:=co h b;unfold ya at a |-;split at a
 ·cases a
 rename_i c;rw[C6 c];simp only[(n7 _ _).1];simp only[ve,de,X0,cq];refine⟨trivial,?_⟩;by_cases e:(q:Int)=p
 ·rw[C7 ⟨ω,ω⟩,C7 e]
 ·rw[C6 λz=>e ω,C6 e]
theorem Ly{k:af}{p o:Int}(a:(ya k p o).2=false):(ya k p o).1=de k:=by
 unfold ya at a |-;split
 ·rfl
 ·rename_i b;rw[C6 b]at a;cases a
theorem Gb{k:af}{a v:Int}(h:aA k=true)(g:0<=a)(b:0<=v/\v<=999):aA {k with Machine:=(kv k.Machine a v).1} = true/\(kv k.Machine a v).1.Table=k.Machine.Table:=by
 unfold kv;split
 ·exact⟨h,rfl⟩
 rename_i d;split
 ·exact⟨h,rfl⟩
 ·obtain⟨e,f,-⟩:=ij h d
  exact⟨pe h e f (c:=a % 16) b,rfl⟩
def ng(t:aG)(p:Int):Prop:=∀q:Nat,(nth t.Entries q).Mode≠0->(nth t.Entries q).Frame=(nth t.Entries p.toNat).Frame->(q:Int)=p
structure JI(h:ac):Prop where
 ph:h.Meshing=true->0<=h.Job.Phase/\h.Job.Phase<=3
 sp:h.Meshing=true->∃a∈h.Spans,∃b∈h.Spans,a.Page=h.Job.Plan.Keep/\b.Page=h.Job.Plan.Move/\meshable a b=true
 sk:h.Meshing=true->ng (tbl h) h.Job.Plan.Keep
 sm:h.Meshing=true->ng (tbl h) h.Job.Plan.Move
theorem ng.tEq{t a:aG}{p:Int}(h:ng t p)(b:tEq t a):ng a p:=λq c d=>by
 obtain⟨e,f⟩:=b.2 q;exact h q (e.1 c) (by rw[<-f,<-(b.2 p.toNat).2];exact d)
theorem Pg.tEq{t b:aG}{c:List a7}{sp:List au}{la:List a8}(h:Pg t c sp la)(a:tEq t b):Pg b c sp la where
 one l hl p hp q hq h1 h2:=h.one l hl p hp q (by rw[<-a.1];exact hq) ((a.2 q).1.1 h1) (by rw[<-(a.2 q).2,<-(a.2 p).2];exact h2)
 bnd p hp:=by rw[a.1];exact h.bnd p hp
 own p hp:=(a.2 p).1.trans (h.own p (by rw[<-a.1];exact hp))
 fre p hp:=(a.2 p).1.trans (h.fre p (by rw[<-a.1];exact hp))
 mesh s hs u hu hne hf:=h.mesh s hs u hu hne (by rw[<-(a.2 _).2,<-(a.2 u.Page.toNat).2];exact hf)
theorem bn.step{h:ac}{E:List Int}(a:bn h E){k:af}(b:aA k=true)(c:k.Machine.Table.Entries.length=(tbl h).Entries.length)(d:Pg k.Machine.Table h.Free h.Spans h.Larges){j:cF}{m:Bool}(h1:m=true->iB j=true/\(∃s∈h.Spans,s.Page=j.Plan.Keep)/\∃s∈h.Spans,s.Page=j.Plan.Move)(e:m=false->p7 j=true):bn {h with Kernel:=k,Meshing:=m,Job:=j} E:=
 {a with
   ker:=b
   rng:=by show bw ((k.Machine.Table.Entries.length:Nat):Int) h.Free=true;rw[c];exact a.rng
   pg:=d
   job:=h1
   noj:=e}
theorem qy.apart{sp:List au}{la:List a8}(b:qy sp la){s:au}(c:s∈sp){l:a8}(d:l∈la){p:Int}(a:p∈lpgs l l.Pages.toNat):s.Page≠p:=by
 unfold lpgs at a;simp only[C3,List.mem_range]at a;obtain⟨k,e,rfl⟩:=a;exact b.dis s c l d k e
theorem Pg.on{t H:aG}{Q:List a7}{sp:List au}{la:List a8}(h:Pg t Q sp la)(r:qy sp la){a b:au}(w:a∈sp)(L:b∈sp)(R:meshable a b=true)(A:ng t a.Page)(M:(nth t.Entries a.Page.toNat).Mode≠0)(N:(nth t.Entries b.Page.toNat).Mode≠0)(U:0<=b.Page)(J:H.Entries.length=t.Entries.length)(B:∀q:Nat,nth H.Entries q=if(q:Int)=b.Page then⟨2,(nth t.Entries a.Page.toNat).Frame⟩ else nth t.Entries q):Pg H Q sp la:=by
 have c:∀q:Nat,(nth H.Entries q).Mode≠0↔(nth t.Entries q).Mode≠0:=λq=>by
  rw[B];split
  ·rename_i e
   rw[show q=b.Page.toNat by omega];exact⟨λ_=>N,λ_=>by show(2:Int)≠0;omega⟩
  ·rfl
 have V:0<=a.Page:=by have:=r.sok a w;unfold aX at this;rw[C0]at this;omega
 refine⟨λl k p g q W S C=>?_,λp g=>by rw[J];exact h.bnd p g,λp g=>(c p).trans (h.own p (by rw[<-J];exact g)),λp g=>(c p).trans (h.fre p (by rw[<-J];exact g)),λs D u E F n=>?_⟩
 ·have O:¬(p:Int)=b.Page:=λe=>r.apart L k g e.symm
  rw[B p,C6 O,B q]at C;rw[c]at S;by_cases e:(q:Int)=b.Page
  ·rw[C7 e]at C
   have T:=h.one l k p g a.Page.toNat (by have:=h.bnd _ (di (la:=la) w);omega) M C;exact absurd (show a.Page=(p:Int) by omega) (r.apart w k g)
  ·rw[C6 e]at C
   exact h.one l k p g q (by rw[<-J];exact W) S C
 ·have X:0<=s.Page:=by have:=r.sok s D;unfold aX at this;rw[C0]at this;omega
  have Y:0<=u.Page:=by have:=r.sok u E;unfold aX at this;rw[C0]at this;omega
  have d:∀x∈sp,∀y∈sp,x.Page=y.Page->x=y:=λx G y Z e=>by
   obtain⟨i,hi,rfl⟩:=bc G;obtain⟨j,hj,rfl⟩:=bc Z;rw[fG (f:=(·.Page)) r.nd hi hj e]
  have o:∀x∈sp,(nth t.Entries x.Page.toNat).Mode≠0:=λx G=>by
   have hx0:0<=x.Page:=by have:=r.sok x G;unfold aX at this;rw[C0]at this;omega
   refine(h.own x.Page.toNat (by have:=h.bnd _ (di (la:=la) G);omega)).2 ?_;rw[show((x.Page.toNat:Nat):Int)=x.Page by omega];exact di G
  rw[B,B]at n;simp only[show((s.Page.toNat:Nat):Int)=s.Page by omega,show((u.Page.toNat:Nat):Int)=u.Page by omega]at n;by_cases K:s.Page=b.Page
  ·rw[C7 K,C6 (λe=>F (K.trans e.symm))]at n
   have T:=A u.Page.toNat (o u E) n.symm;rw[d s D b L K,d u E a w ω,ia];exact R
  ·rw[C6 K]at n
   by_cases P:u.Page=b.Page
   ·rw[C7 P]at n
    have T:=A s.Page.toNat (o s D) n;rw[d u E b L P,d s D a w ω];exact R
   ·rw[C6 P]at n
    exact h.mesh s D u E F n
def over(j:cF):Bool:=decide (j.Phase=4\/j.Phase=5)
def iC(k:af)(j:cF):af × cF:=if jmay k j=true then jstep k j else(k,j)
def mStep(h:ac):ac:={h with Kernel:=(iC h.Kernel h.Job).1,Meshing:=if over (iC h.Kernel h.Job).2=true then false else h.Meshing,Job:=if over (iC h.Kernel h.Job).2=true then⟨⟨0,0,[]⟩,0,0⟩ else(iC h.Kernel h.Job).2}
def Au(h:ac):Bool:=decide ((iC h.Kernel h.Job).2.Phase=4)
theorem eQ{j:cF} : iB j=true↔ef j.Plan=true/\0<=j.Phase/\j.Phase<=5/\0<=j.Next/\j.Next<=j.Plan.Cells.length:=by
 unfold iB;simp only[I0,C0]
theorem kI{p:cr}(h:ef p=true){i:Nat}(a:i<p.Cells.length):0<=nth p.Cells i/\nth p.Cells i<=15:=by
 unfold ef at h;simp only[I0]at h;have:=d6 h.1 a;unfold ly at this;rw[C0]at this;exact⟨this.1,this.2.1⟩
structure JS(h:ac)(k:af)(j:cF):Prop where
 ker:aA k=true
 len:k.Machine.Table.Entries.length=(tbl h).Entries.length
 pg:j.Phase≠4\/JI h->Pg k.Machine.Table h.Free h.Spans h.Larges
 ph:0<=j.Phase/\j.Phase<=5
 plan:j.Plan=h.Job.Plan
 nxt:0<=j.Next/\j.Next<=j.Plan.Cells.length
 eq:j.Phase≠4->tEq (tbl h) k.Machine.Table
 calls:h.Kernel.Calls<=k.Calls/\k.Calls<=h.Kernel.Calls+1/\k.Refuse=h.Kernel.Refuse
theorem te(k:af)(p m:Int):(jF k p m).1.Calls=k.Calls+1/\(jF k p m).1.Refuse=k.Refuse:=by
 unfold jF;split<;>exact⟨rfl,rfl⟩
theorem Hl(k:af)(p o:Int):(ya k p o).1.Calls=k.Calls+1/\(ya k p o).1.Refuse=k.Refuse:=by
 unfold ya;split
 ·exact⟨rfl,rfl⟩
 ·obtain⟨-,a,b,-⟩:=n7 (ve (de k) p.toNat ⟨2,(nth k.Machine.Table.Entries o.toNat).Frame⟩) (nth k.Machine.Table.Entries p.toNat).Frame
  simp only[a,b];exact⟨rfl,rfl⟩
theorem JS.of{h:ac}{E:List Int}(c:bn h E)(B:h.Meshing=true):JS h (iC h.Kernel h.Job).1 (iC h.Kernel h.Job).2:=by
 obtain⟨R,-,-⟩:=c.job B;obtain⟨O,y,A,o,p⟩:=eQ.1 R;unfold iC;split
 case isFalse=>exact⟨c.ker,rfl,λ_=>c.pg,⟨y,A⟩,rfl,⟨o,p⟩,λ_=>tEq.refl _,T3 _,by show h.Kernel.Calls<=h.Kernel.Calls+1;omega,rfl⟩
 rename_i d;unfold jmay at d;simp only[I0,C0]at d;obtain⟨⟨-,C⟩,-,u,r,D⟩:=d;have fin:∀(k:af)(j:cF),aA k=true->tEq (tbl h) k.Machine.Table->0<=j.Phase/\j.Phase<=5->j.Plan=h.Job.Plan->0<=j.Next/\j.Next<=j.Plan.Cells.length->h.Kernel.Calls<=k.Calls/\k.Calls<=h.Kernel.Calls+1/\k.Refuse=h.Kernel.Refuse->JS h k j:=
  λk j S F T U V W=>⟨S,F.1,λ_=>c.pg.tEq F,T,U,V,λ_=>F,W⟩
 have P:=(aC.1 c.ker).2.2.2.2;unfold jstep;split
 ·obtain⟨l,w⟩:=A5 c.ker C r (m:=1) (.inl rfl)
  obtain⟨g,t⟩:=te h.Kernel h.Job.Plan.Move 1;refine fin _ _ l w ?_ rfl ⟨o,p⟩ ⟨by rw[g];omega,by rw[g];omega,t⟩;show 0<=(if _ then _ else _:Int)/\(if _ then _ else _:Int)<=5;split<;>omega
 split
 ·split
  ·exact fin _ _ c.ker (tEq.refl _) ⟨by show(0:Int)<=2;omega,by show(2:Int)<=5;omega⟩ rfl ⟨o,p⟩ ⟨T3 _,by show h.Kernel.Calls<=h.Kernel.Calls+1;omega,rfl⟩
  ·have n:=kI O (i:=h.Job.Next.toNat) ω
   refine fin _ _ (HJ c.ker r u n) (tEq.refl _) ⟨y,A⟩ rfl ⟨by show 0<=h.Job.Next+1;omega,by show h.Job.Next+1<=h.Job.Plan.Cells.length;omega⟩ ⟨T3 _,by show h.Kernel.Calls<=h.Kernel.Calls+1;omega,rfl⟩
 split
 ·have G:h.Job.Plan.Move≠h.Job.Plan.Keep:=λe=>D (by rw[e])
  have l:=Lx c.ker C r u G;obtain⟨g,t⟩:=Hl h.Kernel h.Job.Plan.Move h.Job.Plan.Keep;cases e:(ya h.Kernel h.Job.Plan.Move h.Job.Plan.Keep).2 with
  | false=>
   rw[C6 (by simp)];refine fin _ _ l (tEq.of ?_) ⟨by show(0:Int)<=3;omega,by show(3:Int)<=5;omega⟩ rfl ⟨o,p⟩ ⟨by rw[g];omega,by rw[g];omega,t⟩;rw[Ly e];rfl
  | true=>
   rw[C7 rfl];obtain⟨X,m2,Y,-⟩:=co c.ker r;obtain⟨n1,n2,Z,-⟩:=co c.ker u;have f:=Kt c.ker r e;refine⟨l,(f 0).1,λH=>?_,⟨by show(0:Int)<=4;omega,by show(4:Int)<=5;omega⟩,rfl,⟨o,p⟩,λJ=>absurd rfl J,by rw[g];omega,by rw[g];omega,t⟩;have Q:JI h:=H.elim (λJ=>absurd rfl J) id;obtain⟨a,ha,b,hb,K,M,N⟩:=Q.sp B;refine c.pg.on c.L ha hb N (by rw[K];exact Q.sk B) (by rw[K];show(nth h.Kernel.Machine.Table.Entries _).Mode≠0;rw[<-Z];exact u) (by rw[M];show(nth h.Kernel.Machine.Table.Entries _).Mode≠0;rw[<-Y];exact r) (by rw[M];exact X) (f 0).1 λq=>?_
   rw[(f q).2,M,K];rfl
 split
 ·split
  ·rename_i hn0
   have n:=kI O (i:=(h.Job.Next - 1).toNat) ω;have hk0:=(co c.ker u).1;obtain⟨l,w⟩:=Gb c.ker (a:=h.Job.Plan.Keep*16+nth h.Job.Plan.Cells (h.Job.Next - 1).toNat) (v:=0) ω ⟨ω,ω⟩;exact fin _ _ l (tEq.of w) ⟨y,A⟩ rfl ⟨by show 0<=h.Job.Next - 1;omega,by show h.Job.Next - 1<=h.Job.Plan.Cells.length;omega⟩ ⟨T3 _,by show h.Kernel.Calls<=h.Kernel.Calls+1;omega,rfl⟩
  ·obtain⟨l,w⟩:=A5 c.ker C r (m:=2) (.inr rfl)
   obtain⟨g,t⟩:=te h.Kernel h.Job.Plan.Move 2;refine fin _ _ l w ?_ rfl ⟨o,p⟩ ⟨by rw[g];omega,by rw[g];omega,t⟩;show 0<=(if _ then _ else _:Int)/\(if _ then _ else _:Int)<=5;split<;>omega
 ·exact fin _ _ c.ker (tEq.refl _) ⟨y,A⟩ rfl ⟨o,p⟩ ⟨T3 _,by show h.Kernel.Calls<=h.Kernel.Calls+1;omega,rfl⟩
theorem bn.mStep{h:ac}{E:List Int}(d:bn h E)(f:JI h)(c:h.Meshing=true):bn (mStep h) E/\JI (mStep h):=by
 have s:=JS.of d c;unfold Ab.mStep;generalize (iC h.Kernel h.Job).1=k at s |-;generalize (iC h.Kernel h.Job).2=j at s |-;cases e:over j with
 | true=>
  refine⟨d.step s.ker s.len (s.pg (.inr f)) (λh=>by simp at h) (λ_=>by simp[p7]),?_⟩;exact⟨λh=>by simp at h,λh=>by simp at h,λh=>by simp at h,λh=>by simp at h⟩
 | false=>
  simp only[Bool.false_eq_true,if_false];unfold over at e;simp only[P3,not_or]at e;have g:=s.eq e.1;have i:=s.ph;refine⟨d.step s.ker s.len (s.pg (.inr f)) (λ_=>⟨eQ.2 ⟨by rw[s.plan];exact(eQ.1 (d.job c).1).1,s.ph.1,s.ph.2,s.nxt⟩,by rw[s.plan];exact(d.job c).2⟩) (λh=>by rw[c]at h;cases h),?_⟩;refine⟨λ_=>⟨s.ph.1,by show j.Phase<=3;omega⟩,λ_=>?_,λ_=>?_,λ_=>?_⟩
  ·show ∃a∈h.Spans,∃b∈h.Spans,a.Page=j.Plan.Keep/\b.Page=j.Plan.Move/\meshable a b=true
   rw[s.plan];exact f.sp c
  ·show ng k.Machine.Table j.Plan.Keep
   rw[s.plan];exact(f.sk c).tEq g
  ·show ng k.Machine.Table j.Plan.Move
   rw[s.plan];exact(f.sm c).tEq g
def LK(k:af)(a:Int):Int:=nth (nth k.Machine.Frames.Cells (ar k.Machine.Table (a / 16)).Frame.toNat) (a % 16).toNat
def cellsOf(k:af)(a:Int)(n:Nat):List Int:=(List.range n).map λ(i:Nat)=>LK k (a+i)
theorem oY{n:Int}(h:0<=aN n):1<=n/\n<=8:=by
 unfold aN at h;split at h
 ·omega
 ·split at h
  ·omega
  ·split at h
   ·omega
   ·split at h
    ·omega
    ·split at h<;>omega
def MU{α:Type}[Inhabited α](f:α->Int)(xs:List α):Nat->Int
 | 0=>0
 | i+1=>MU f xs i+f (nth xs i)
def bor(n m:Int):Int:=((n.toNat ||| m.toNat:Nat):Int)
def pv(sp:List au)(p:Int)(b:Int):Nat->Int
 | 0=>b
 | j+1=>if(nth sp j).Page=p then bor (pv sp p b j) (nth sp j).Bits else pv sp p b j
def iU(sp:List au)(ps:List Int)(b:Int):Nat->Int
 | 0=>b
 | k+1=>pv sp (nth ps k) (iU sp ps b k) sp.length
def fZ(h:ac)(i:Nat):Int:=iU h.Spans (aK h (nth h.Spans i).Page) (nth h.Spans i).Bits (aK h (nth h.Spans i).Page).length
theorem Da{n m:Int}(h1:0<=n/\n<=65535)(a:0<=m/\m<=65535):0<=bor n m/\bor n m<=65535:=by
 have b:n.toNat ||| m.toNat<2 ^ 16:=Nat.or_lt_two_pow ω ω
 unfold bor;omega
theorem ka{sp:List au}(h:∀s∈sp,aX s=true){j:Nat}(b:j<sp.length):0<=(nth sp j).Bits/\(nth sp j).Bits<=65535:=by
 have a:=h _ (am b);have c:=Eg (nth sp j).Class;unfold aX at a;rw[C0]at a;omega
theorem sV{sp:List au}(h:∀s∈sp,aX s=true){p b:Int}(a:0<=b/\b<=65535):∀j,j<=sp.length->0<=pv sp p b j/\pv sp p b j<=65535
 | 0,_=>a
 | j+1,d=>by
  have c:=sV h (p:=p) a j ω;simp only[pv];split
  ·exact Da c (ka h ω)
  ·exact c
theorem qt{sp:List au}(h:∀s∈sp,aX s=true){ps:List Int}{b:Int}(a:0<=b/\b<=65535):∀k,0<=iU sp ps b k/\iU sp ps b k<=65535
 | 0=>a
 | k+1=>by simp only[iU];exact sV h (qt h a k) _ (Z1 _)
theorem lD{b i:Int}(a:0<=b)(c:0<=i/\i<=15):aW b i=b.toNat.testBit i.toNat:=by
 unfold aW;rw[Nat.testBit_eq_decide_div_mod_eq];refine decide_eq_decide.2 ?_;obtain⟨n,rfl⟩ : ∃n:Nat,b=n:=⟨b.toNat,ω⟩
 rw[U1];have d:((n / 2 ^ i.toNat:Nat):Int)=(n:Int) / 2 ^ i.toNat:=by simp
 omega
theorem Dn{n m i:Int}(b:0<=n)(c:0<=m)(a:0<=i/\i<=15):aW (bor n m) i=(aW n i || aW m i):=by
 rw[lD (by unfold bor;omega) a,lD b a,lD c a];unfold bor;rw[U1,Nat.testBit_or]
theorem AS{sp:List au}(h:∀s∈sp,aX s=true){p b i:Int}(k:0<=b/\b<=65535)(l:0<=i/\i<=15):∀j,j<=sp.length->(aW (pv sp p b j) i=true↔aW b i=true\/∃q,q<j/\(nth sp q).Page=p/\aW (nth sp q).Bits i=true)
 | 0,_=>by simp[pv]
 | j+1,t=>by
  have n:=AS h (p:=p) k l j ω;have o:=sV h (p:=p) k j ω;have r:=ka h (j:=j) ω;simp only[pv];split
  ·rename_i d
   rw[Dn o.1 r.1 l,N4,n];constructor
   ·rintro((e|⟨q,f,a⟩)|e)
    ·exact .inl e
    ·exact .inr ⟨q,ω,a⟩
    ·exact .inr ⟨j,ω,d,e⟩
   ·rintro(e|⟨q,f,a,c⟩)
    ·exact .inl (.inl e)
    ·by_cases g:q=j
     ·subst g;exact .inr c
     ·exact .inl (.inr ⟨q,ω,a,c⟩)
  ·rename_i d
   rw[n];constructor
   ·rintro(e|⟨q,f,a⟩)
    ·exact .inl e
    ·exact .inr ⟨q,ω,a⟩
   ·rintro(e|⟨q,f,a,c⟩)
    ·exact .inl e
    ·by_cases g:q=j
     ·subst g;exact absurd a d
     ·exact .inr ⟨q,ω,a,c⟩
theorem xA{sp:List au}(h:∀s∈sp,aX s=true){ps:List Int}{b i:Int}(d:0<=b/\b<=65535)(f:0<=i/\i<=15):∀k,(aW (iU sp ps b k) i=true↔aW b i=true\/∃u,u<k/\∃q,q<sp.length/\(nth sp q).Page=nth ps u/\aW (nth sp q).Bits i=true)
 | 0=>by simp[iU]
 | k+1=>by
  have g:=xA h (ps:=ps) d f k;have j:=qt h (ps:=ps) d k;simp only[iU];rw[AS h j f _ (Z1 _),g];constructor
  ·rintro((e|⟨u,c,a⟩)|⟨q,c,a⟩)
   ·exact .inl e
   ·exact .inr ⟨u,ω,a⟩
   ·exact .inr ⟨k,ω,q,c,a⟩
  ·rintro(e|⟨u,c,a⟩)
   ·exact .inl (.inl e)
   ·by_cases l:u=k
    ·subst l;exact .inr a
    ·exact .inl (.inr ⟨u,ω,a⟩)
def jh{α:Type}(p:α->Bool)(xs:List α):Nat:=(xs.findIdx? p).getD xs.length
def ix{α:Type}(p:α->Bool)(xs:List α)(y:α):List α:=xs.take (jh p xs)++y::xs.drop (jh p xs)
theorem Kq{α:Type}(p:α->Bool)(xs:List α):jh p xs<=xs.length:=by
 unfold jh;cases e:xs.findIdx? p with
 | none=>exact Z1 _
 | some i=>exact Nat.le_of_lt (V4.1 e).1
theorem jo{α:Type}(p:α->Bool)(xs:List α)(y:α):(ix p xs y).Perm (y::xs):=by
 unfold ix;refine List.perm_middle.trans ?_;rw[List.take_append_drop]
theorem cU{α:Type}{p:α->Bool}{xs:List α}{y z:α} : z∈ix p xs y↔z=y\/z∈xs:=by
 rw[(jo p xs y).mem_iff,List.mem_cons]
theorem sQ{α:Type}{p:α->Bool}{xs:List α}{i:Nat}(c:i<=xs.length)(a:∀(j:Nat)(z:α),j<i->xs[j]? = some z->p z=false)(b:∀z,xs[i]? = some z->p z=true):jh p xs=i:=by
 unfold jh;by_cases e:i<xs.length
 ·rw[ta (O1 e) (b _ (O1 e)) a];rfl
 ·rw[vb ω a];show xs.length=i;omega
theorem ke{α:Type}{f:α->Int}{xs:List α}{y:α}(h:xs.Pairwise λa b=>f a<f b)(p:∀z∈xs,f z≠f y):(ix (λz=>decide (f y<=f z)) xs y).Pairwise λa b=>f a<f b:=by
 have q:∀z∈xs.drop (jh (λz=>decide (f y<=f z)) xs),f y<f z:=λz g=>by
  obtain⟨j,k,rfl⟩:=List.mem_drop_iff_getElem.1 g;have C:=p _ (List.getElem_mem k);cases e:xs.findIdx? (λz=>decide (f y<=f z)) with
  | none=>
   have l:jh (λz=>decide (f y<=f z)) xs=xs.length:=by unfold jh;rw[e];rfl
   rw[l]at k;omega
  | some i=>
   have l:jh (λz=>decide (f y<=f z)) xs=i:=by unfold jh;rw[e];rfl
   obtain⟨r,t,-⟩:=V4.1 e;rw[C0]at t;have c:i+j<xs.length:=by rw[<-l];omega
   have n:f xs[i+j]≠f y:=p _ (List.getElem_mem c);have d:f y<f xs[i+j]:=by
    cases j with
    | zero=>simp only[Nat.add_zero]at n |-;omega
    | succ j=>
     have:=List.pairwise_iff_getElem.1 h i (i+(j+1)) r c ω;omega
   have w:xs[jh (λz=>decide (f y<=f z)) xs+j]? = xs[i+j]?:=by rw[l]
   rw[O1 ω,O1 c]at w;rw[Option.some.inj w];exact d
 have A:∀z∈xs.take (jh (λz=>decide (f y<=f z)) xs),f z<f y:=λz g=>by
  obtain⟨j,k,rfl⟩:=List.mem_take_iff_getElem.1 g;unfold jh at k;cases e:xs.findIdx? (λz=>decide (f y<=f z)) with
  | none=>
   have:=List.findIdx?_eq_none_iff.1 e _ (List.getElem_mem (show j<xs.length by omega));simp only[P3]at this;omega
  | some i=>
   obtain⟨r,t,B⟩:=V4.1 e;simp only[e,Option.getD_some]at k;have:=B j ω;simp only[C0]at this;omega
 unfold ix;refine List.pairwise_append.2 ⟨h.sublist (List.take_sublist ..),List.pairwise_cons.2 ⟨q,h.sublist (List.drop_sublist ..)⟩,λz g u o=>?_⟩;rcases List.mem_cons.1 o with rfl|o
 ·exact A z g
 ·exact Int.lt_trans (A z g) (q u o)
def fY(b i:Int):Int:=((b.toNat ||| 2 ^ i.toNat:Nat):Int)
def oQ(s:au)(i:Int):au:={s with Bits:=fY s.Bits i}
theorem uv(b i:Int)(j:Nat):(fY b i).toNat.testBit j=(b.toNat.testBit j || decide (i.toNat=j)):=by
 unfold fY;rw[U1,Nat.testBit_or,Nat.testBit_two_pow]
theorem D9{b i:Int}(g:0<=b)(e:0<=i/\i<=15)(j:Int):aW (fY b i) j=true↔aW b j=true\/j=i:=by
 rw[fy,fy,uv,N4,C0];have f:0<=fY b i:=by unfold fY;omega
 constructor
 ·rintro⟨h,c,d,a|a⟩
  ·exact .inl ⟨g,c,d,a⟩
  ·exact .inr ω
 ·rintro(⟨h,c,d,a⟩|rfl)
  ·exact⟨f,c,d,.inl a⟩
  ·exact⟨f,e.1,e.2,.inr rfl⟩
theorem fH{k:Int}(h:0<=k/\k<=3):lim k=2 ^ (slots k).toNat - 1/\0<=slots k/\slots k<=16/\slots k*csz k=16:=by
 obtain rfl|rfl|rfl|rfl:k=0\/k=1\/k=2\/k=3:=ω
 all_goals decide
theorem zw{s:au}(h:aX s=true){i:Int}(k:0<=i/\i<slots s.Class):aX (oQ s i)=true:=by
 have b:=aE h;obtain⟨c,l,o,-⟩:=fH b.2.2;unfold aX at h;rw[C0]at h;obtain⟨d,e,f,g,p,a⟩:=h;refine N0 ⟨d,e,f,g,by show 0<=fY s.Bits i;unfold fY;omega,?_⟩;show fY s.Bits i<=lim s.Class;rw[c]at a |-;have j:((2 ^ (slots s.Class).toNat:Nat):Int)=(2:Int) ^ (slots s.Class).toNat:=by norm_cast
 rw[<-j]at a |-;have:=Nat.or_lt_two_pow (x:=s.Bits.toNat) (y:=2 ^ i.toNat) (n:=(slots s.Class).toNat) ω (Nat.pow_lt_pow_right ω ω);unfold fY;omega
theorem xN{s u:au}{i:Int}(b:0<=i/\i<slots s.Class)(c:aW u.Bits i=false)(h:meshable s u=true):meshable (oQ s i) u=true:=by
 unfold meshable at h |-;simp only[I0,C0]at h |-;obtain⟨⟨d,f⟩,k,l,o⟩:=h;have p:=aE d;obtain⟨r,t,w,-⟩:=fH p.2.2;have a:=dZ f;refine⟨⟨zw d b,f⟩,k,l,?_⟩;refine Nat.eq_of_testBit_eq λj=>?_
 have g:=Q0 (λn=>Nat.testBit n j) o;simp only[Nat.testBit_and,Nat.zero_testBit,oQ,uv]at g |-;by_cases e:i.toNat=j
 ·have:u.Bits.toNat.testBit j=false:=by
   rw[<-X3];intro q;have:=(fy u.Bits i).2 ⟨a.1,b.1,ω,by rw[e];exact q⟩;rw[this]at c;cases c
  rw[this];simp
 ·rw[O0 e,Bool.or_false];exact g
theorem rr{s:au}(h:aX s=true){i:Int}(n:0<=i/\i<slots s.Class)(b:Int):eJ (oQ s i) b↔eJ s b\/b=16*s.Page+i*csz s.Class:=by
 have g:=aE h;obtain⟨o,p,k,l⟩:=fH g.2.2;have j:=ce g.2.2;unfold eJ;simp only[oQ];rw[D9 (dZ h).1 ω];constructor
 ·rintro⟨d,f,c,a|a⟩
  ·exact .inl ⟨d,f,c,a⟩
  ·right
   rcases j with e|e|e|e<;>rw[e]at c a |-<;>omega
 ·rintro(⟨d,f,c,a⟩|rfl)
  ·exact⟨d,f,c,.inl a⟩
  ·have q:slots s.Class<=16:=k
   rcases j with e|e|e|e<;>rw[e]at l |-<;>refine⟨?_,?_,?_,.inr ?_⟩<;>omega
theorem FO{sp:List au}{i:Nat}(k:Int)(a:i<sp.length):(sp.set i (oQ (nth sp i) k)).map (·.Page)=sp.map (·.Page):=by
 rw[I4];refine List.ext_getElem (by simp) λj b c=>?_
 rw[List.getElem_set];split
 ·rename_i e;subst e
  rw[List.getElem_map];show(nth sp i).Page=_;rw[bp (O1 a)]
 ·rfl
theorem iK.setS{sp:List au}{la:List a8}(p:qy sp la){i:Nat}(g:i<sp.length){k:Int}(h:0<=k/\k<slots (nth sp i).Class)(b c:Int):iK (sp.set i (oQ (nth sp i) k)) b c↔iK sp b c\/(b=16*(nth sp i).Page+k*csz (nth sp i).Class/\(c<0\/(nth sp i).Class=c)):=by
 have d:=p.sok _ (am g);constructor
 ·rintro⟨s,l,f,a⟩
  rcases en l with rfl|⟨j,n,q,rfl⟩
  ·rcases(rr d h b).1 f with o|o
   ·exact .inl ⟨_,am g,o,a⟩
   ·exact .inr ⟨o,a⟩
  ·exact .inl ⟨_,am n,f,a⟩
 ·rintro(⟨s,l,f,a⟩|⟨f,a⟩)
  ·obtain⟨j,n,rfl⟩:=bc l
   by_cases e:j=i
   ·subst e
    exact⟨_,gT _ g,(rr d h b).2 (.inl f),a⟩
   ·exact⟨_,iy _ n e,f,a⟩
  ·exact⟨_,gT _ g,(rr d h b).2 (.inr f),a⟩
theorem KK{h:ac}{E:List Int}(d:bn h E){i:Nat}(l:i<h.Spans.length){k:Int}(p:0<=k/\k<=15)(b:aW (fZ h i) k=false):aW (nth h.Spans i).Bits k=false/\∀u∈h.Spans,(nth (tbl h).Entries u.Page.toNat).Frame=(nth (tbl h).Entries (nth h.Spans i).Page.toNat).Frame->aW u.Bits k=false:=by
 have e:=d.L;have q:=dZ (e.sok _ (am l));unfold fZ at b;rw[<-X3,xA e.sok q p]at b;rw[not_or]at b;have r:aW (nth h.Spans i).Bits k=false:=by simpa using b.1
 have a:∀s∈h.Spans,s.Page.toNat<dG h/\(nth (tbl h).Entries s.Page.toNat).Mode≠0/\((s.Page.toNat:Nat):Int)=s.Page:=λs f=>by
  have K:=aE (e.sok s f);have M:=d.pg.bnd s.Page (di f);have n:s.Page.toNat<(tbl h).Entries.length:=ω
  have o:((s.Page.toNat:Nat):Int)=s.Page:=ω
  exact⟨n,(d.pg.own _ n).2 (by rw[o];exact di f),o⟩
 refine⟨r,λu c t=>?_⟩;rw[<-X3];intro w;obtain⟨y,A,B⟩:=a _ (am l);obtain⟨C,D,F⟩:=a u c;have G:u.Page∈aK h (nth h.Spans i).Page:=by
  rw[<-B,dY y A,<-F];exact df.2 ⟨C,D,t⟩
 obtain⟨v,H,g⟩:=bc G;obtain⟨j,J,rfl⟩:=bc c;exact b.2 ⟨v,H,j,J,g.symm,w⟩
theorem bn.take{h:ac}{E:List Int}{i:Nat}{k sd:Int}(g:bn h E)(C:i<h.Spans.length)(D:0<=k/\k<slots (nth h.Spans i).Class)(r:aW (fZ h i) k=false)(M:0<=sd/\sd<=1073741823) :
  bn {h with Seed:=sd,Spans:=h.Spans.set i (oQ (nth h.Spans i) k)} ((16*(nth h.Spans i).Page+k*csz (nth h.Spans i).Class)::E):=by
 have F:=g.L;have T:=F.sok _ (am C);have Q:=aE T;obtain⟨l1,l2,l3,l4⟩:=fH Q.2.2;have hz:=ce Q.2.2;obtain⟨u1,u2⟩:=KK g C ⟨D.1,ω⟩ r;have n:=λb c=>iK.setS F C D b c
 have w:=FO k C;generalize ha:16*(nth h.Spans i).Page+k*csz (nth h.Spans i).Class=a at n |-;have G:¬eJ (nth h.Spans i) a:=by
  rintro⟨-,-,-,h4⟩
  have:(a - 16*(nth h.Spans i).Page) / csz (nth h.Spans i).Class=k:=by
   rw[<-ha];rcases hz with e|e|e|e<;>rw[e]<;>omega
  rw[this,u1]at h4;cases h4
 have hrange:16*(nth h.Spans i).Page<=a/\a<=16*(nth h.Spans i).Page+15:=by
  rcases hz with e|e|e|e<;>rw[e]at ha l4<;>omega
 have U:¬kG h.Spans h.Larges a:=by
  rintro(⟨s,p,d,-⟩|⟨l,hl,e⟩)
  ·obtain⟨j,V,rfl⟩:=bc p
   have:=fG (f:=(·.Page)) F.nd V C (by have a1:=d.1;have a2:=d.2.1;omega);subst this;exact G d
  ·exact(tE F hl).1 _ (am C) ω
 have W:a∉E++holders h:=λX=>U ((g.mem a).1 X)
 have q:∀s∈h.Spans.set i (oQ (nth h.Spans i) k),∃u∈h.Spans,u.Page=s.Page/\(s=u\/(u=nth h.Spans i/\s=oQ u k)):=λs p=>by
  rcases en p with rfl|⟨j,V,hji,rfl⟩
  ·exact⟨_,am C,rfl,.inr ⟨rfl,rfl⟩⟩
  ·exact⟨_,am V,rfl,.inl rfl⟩
 generalize hsp:h.Spans.set i (oQ (nth h.Spans i) k)=sp at n w q |-;have t:pgs sp h.Larges=pgs h.Spans h.Larges:=by unfold pgs;rw[w]
 have N:∀u∈h.Spans,∃s∈sp,s.Page=u.Page:=λu r=>by
  have:u.Page∈sp.map (·.Page):=by rw[w];exact C3.2 ⟨u,r,rfl⟩
  obtain⟨s,p,e⟩:=C3.1 this;exact⟨s,p,e⟩
 exact {g with
   lay:=by
     obtain⟨l1,l2,l3⟩:=cT g.lay;unfold bi;simp only[I0,C0];refine⟨⟨X2.2 λs p=>?_,l2⟩,by rw[t];exact l3⟩;obtain⟨u,r,-,rfl|⟨rfl,rfl⟩⟩:=q s p
     · exact F.sok _ r
     · exact zw (F.sok _ r) D
   srs:=by
     have d:(h.Spans.map (·.Page)).Pairwise (λa b=>a<b):=List.pairwise_map.2 g.srs;rw[<-w]at d;exact List.pairwise_map.1 d
   pg:=⟨g.pg.one,by rw[t];exact g.pg.bnd,by rw[t];exact g.pg.own,g.pg.fre,λs p u r O hf=>by
     obtain⟨R,A,Y,Z⟩:=q s p;obtain⟨S,B,eu,P⟩:=q u r;have H:(nth (tbl h).Entries R.Page.toNat).Frame=(nth (tbl h).Entries S.Page.toNat).Frame:=by rw[Y,eu];exact hf
     have d:=g.pg.mesh R A S B (by rw[Y,eu];exact O) H;rcases Z with rfl|⟨rfl,rfl⟩
     · rcases P with rfl|⟨rfl,rfl⟩
       · exact d
       · rw[ia]at d |-
         exact xN D (u2 _ A H) d
     · rcases P with rfl|⟨rfl,rfl⟩
       · exact xN D (u2 _ B H.symm) d
       · exact absurd (Y.symm.trans eu) O⟩
   nums:=by
     have:=g.nums;unfold ca at this |-;rw[C0]at this |-;exact⟨M.1,M.2,this.2.2⟩
   oow:=λo ho=>by
     rcases g.oow o ho with⟨s,p,d,h2⟩|d
     · obtain⟨u,r,g1,K⟩:=(n o.Addr (aN o.Size)).2 (.inl ⟨s,p,d,.inr h2⟩)
       refine .inl ⟨u,r,g1,?_⟩;rcases K with K|K
       · have:=aE (F.sok _ p);omega
       · exact K
     · exact .inr d
   hca:=λc Q k D b J=>(n b k).2 (.inl (g.hca c Q k D b J))
   hqu:=λy hy=>(n _ _).2 (.inl (g.hqu y hy))
   hfl:=λb J=>(n _ _).2 (.inl (g.hfl b J))
   hin:=λb J=>by
     rcases List.mem_cons.1 J with rfl|J
     · exact(n _ _).2 (.inr ⟨rfl,.inl (by decide)⟩)
     · exact(n _ _).2 (.inl (g.hin b J))
   nd:=by
     rw[List.cons_append];exact List.nodup_cons.2 ⟨W,g.nd⟩
   mem:=λb=>by
     show b∈a::E++holders h↔kG sp h.Larges b;rw[List.cons_append,List.mem_cons,g.mem b];unfold kG;rw[n];constructor
     · rintro(rfl|d|d)
       · exact .inl (.inr ⟨rfl,.inl (by decide)⟩)
       · exact .inl (.inl d)
       · exact .inr d
     · rintro((d|⟨d,-⟩)|d)
       · exact .inr (.inl d)
       · exact .inl d
       · exact .inr (.inr d)
   job:=λX=>by
     obtain⟨j1,⟨s,p,e1⟩,⟨u,r,e2⟩⟩:=g.job X;obtain⟨R,A,g1⟩:=N s p;obtain⟨S,B,K⟩:=N u r;exact⟨j1,⟨R,A,g1.trans e1⟩,⟨S,B,K.trans e2⟩⟩}
def qv(c:aB)(k:Nat):aB:=⟨c.Lists.set k ((nth c.Lists k).take ((nth c.Lists k).length - 1))⟩
theorem Ha{l:List Int}(h:0<l.length):l=l.take (l.length - 1)++[nth l (l.length - 1)]:=by
 have a:l.drop (l.length - 1)=[nth l (l.length - 1)]:=by
  rw[iH ω,show l.length - 1+1=l.length by omega,List.drop_length]
 rw[<-a,List.take_append_drop]
theorem bn.pop{h:ac}{E:List Int}{t k:Nat}(f:bn h E)(l:t<h.Caches.length)(p:k<(nth h.Caches t).Lists.length)(u:0<(nth (nth h.Caches t).Lists k).length)(w:bq (qv (nth h.Caches t) k)=true) :
  bn {h with Caches:=h.Caches.set t (qv (nth h.Caches t) k)} (nth (nth (nth h.Caches t).Lists k) ((nth (nth h.Caches t).Lists k).length - 1)::E)/\iK h.Spans (nth (nth (nth h.Caches t).Lists k) ((nth (nth h.Caches t).Lists k).length - 1)) k:=by
 have q:=Ha u;have n:=f.hca _ (am l) k p (nth (nth (nth h.Caches t).Lists k) ((nth (nth h.Caches t).Lists k).length - 1)) (am ω);refine⟨?_,n⟩;generalize D:nth (nth (nth h.Caches t).Lists k) ((nth (nth h.Caches t).Lists k).length - 1)=a at q n |-;have r:(E++holders h).Perm (a::E++holders {h with Caches:=h.Caches.set t (qv (nth h.Caches t) k)}):=by
  refine List.perm_iff_count.2 λb=>?_
  have A:=gJ (λc:aB=>c.Lists.flatten) b h.Caches t (qv (nth h.Caches t) k) l;have B:=gJ (λy:List Int=>y) b (nth h.Caches t).Lists k ((nth (nth h.Caches t).Lists k).take ((nth (nth h.Caches t).Lists k).length - 1)) p;rw[<-js,<-js]at B;have C:=Q0 (List.count b) q;simp only[C4,List.count_singleton]at C;simp only[qv]at A;simp only[holders,bY,qv,C4,List.cons_append,List.count_cons];omega
 exact {f with
   nc:=by show(h.Caches.set ..).length=_;rw[X0];exact f.nc
   cach:=λc d=>by
     rcases P4 d with d|rfl
     · exact f.cach c d
     · exact w
   onu:=by show ∀o∈h.Objs,1<=o.Id/\o.Id<=h.Next - 1/\0<=o.Thread/\o.Thread<=(h.Caches.set t _).length - 1;rw[X0];exact f.onu
   hca:=λc d j i b g=>by
     rcases P4 d with d|rfl
     · exact f.hca c d j i b g
     · simp only[qv,X0]at i
       simp only[qv,cq]at g;by_cases e:k=j
       · subst e
         rw[C7 ⟨rfl,i⟩]at g;exact f.hca _ (am l) _ i b (List.mem_of_mem_take g)
       · rw[C6 λy=>e y.1]at g
         exact f.hca _ (am l) _ i b g
   hin:=λb g=>by
     rcases List.mem_cons.1 g with rfl|g
     · exact n.any
     · exact f.hin b g
   nd:=r.nodup_iff.1 f.nd
   mem:=λb=>by rw[<-r.mem_iff];exact f.mem b}
def JE(a:Int)(o:bG):Bool:=decide (a<=o.Addr)
def addO(h:ac)(a size t:Int):ac:={h with Objs:=ix (JE a) h.Objs ⟨h.Next,a,size,t⟩,Next:=h.Next+1}
theorem xt{h:ac}(a:ca h=true)(b:h.Next<1000000):decide (0<=h.Seed/\h.Seed<=1073741823/\0<=h.Clock/\h.Clock<=1000000/\0<=h.Limit/\h.Limit<=1000/\1<=h.Next+1/\h.Next+1<=1000000)=true:=by
 unfold ca at a;rw[C0]at a |-;omega
theorem bn.addO{h:ac}{E:List Int}{a size t:Int}(c:bn h (a::E))(d:J1 h.Spans h.Larges ⟨h.Next,a,size,t⟩)(p:h.Next<1000000)(q:0<=t/\t<=h.Caches.length - 1):bn (addO h a size t) E:=by
 have i:=jo (JE a) h.Objs ⟨h.Next,a,size,t⟩;have n:(a::E++holders h).Perm (E++holders (Ab.addO h a size t)):=by
  have r:=i.map (·.Addr);refine List.perm_iff_count.2 λb=>?_
  have u:=r.count_eq b;simp only[z4,List.count_cons]at u;simp only[holders,bY,Ab.addO,C4,List.cons_append,List.count_cons];omega
 have j:=c.nd;rw[List.cons_append]at j;obtain⟨k,-⟩:=List.nodup_cons.1 j;have l:∀o∈h.Objs,o.Addr≠a:=λo d e=>k (W1.2 (.inr (by unfold holders;simp only[W1];exact .inl (.inl (.inl (C3.2 ⟨o,d,e⟩))))))
 exact {c with
   nums:=xt c.nums p
   osr:=ke (f:=λo:bG=>o.Addr) (y:=⟨h.Next,a,size,t⟩) c.osr l
   onu:=λo d=>by
     rcases cU.1 d with rfl|d
     · have:=c.nums
       unfold ca at this;rw[C0]at this;exact⟨by show 1<=h.Next;omega,by show h.Next<=h.Next+1 - 1;omega,q⟩
     · have:=c.onu o d
       exact⟨this.1,by show o.Id<=h.Next+1 - 1;omega,this.2.2⟩
   oid:=by
     show((ix (JE a) h.Objs ⟨h.Next,a,size,t⟩).map (·.Id)).Nodup;rw[(i.map _).nodup_iff,z4];refine List.nodup_cons.2 ⟨λw=>?_,c.oid⟩;obtain⟨o,d,e⟩:=C3.1 w;have:=(c.onu o d).2.1;simp only at e;omega
   oow:=λo g=>by
     rcases cU.1 g with rfl|g
     · exact d
     · exact c.oow o g
   hin:=λb A=>c.hin b (W3 _ A)
   nd:=n.nodup_iff.1 c.nd
   mem:=λb=>by rw[<-n.mem_iff];exact c.mem b}
def hJ(xs:List a7)(n:Int):Nat->Int
 | 0=>-1
 | i+1=>if n<=(nth xs i).Len/\(hJ xs n i<0\/(nth xs i).Len<(nth xs (hJ xs n i).toNat).Len) then(i:Nat) else hJ xs n i
def gj(xs:List a7)(n:Int):Int:=hJ xs n xs.length
def ay(xs:List a7)(n:Int):List a7 × Int × Bool:=
 if gj xs n<0 then(xs,-1,false)
 else if(nth xs (gj xs n).toNat).Len=n then(dele xs (gj xs n).toNat,(nth xs (gj xs n).toNat).At,true)
 else(xs.set (gj xs n).toNat ⟨(nth xs (gj xs n).toNat).At+n,(nth xs (gj xs n).toNat).Len - n⟩,(nth xs (gj xs n).toNat).At,true)
theorem vg(xs:List a7)(n:Int):∀i,i<=xs.length->hJ xs n i = -1\/(0<=hJ xs n i/\hJ xs n i<i/\n<=(nth xs (hJ xs n i).toNat).Len)
 | 0,_=>.inl rfl
 | i+1,b=>by
  have a:=vg xs n i ω;unfold hJ;split
  ·rename_i h;right;rw[U1];exact⟨ω,ω,h.1⟩
  ·rcases a with h|h
   ·exact .inl h
   ·exact .inr ⟨h.1,ω,h.2.2⟩
theorem uj{xs:List a7}(h:mQ xs){i j:Nat}(a:i<j)(b:j<xs.length):(nth xs i).At+(nth xs i).Len<(nth xs j).At:=by
 have:=List.pairwise_iff_getElem.1 h.1 i j ω b a
 rwa [<-bp (O1 (show i<xs.length by omega)),<-bp (O1 b)]at this
theorem tF{xs:List a7}{p:Int} : RH xs p↔∃j,j<xs.length/\(nth xs j).At<=p/\p<(nth xs j).At+(nth xs j).Len:=by
 unfold RH;constructor
 ·rintro⟨r,b,h⟩
  obtain⟨j,a,rfl⟩:=bc b;exact⟨j,a,h⟩
 ·rintro⟨j,a,h⟩
  exact⟨_,am a,h⟩
theorem lE{pages:Int}{xs:List a7}{n:Int}(h:bw pages xs=true)(T:1<=n)(t:(ay xs n).2.2=true) :
  bw pages (ay xs n).1=true/\0<=(ay xs n).2.1/\(ay xs n).2.1+n<=pages/\(∀p,RH (ay xs n).1 p↔RH xs p/\¬((ay xs n).2.1<=p/\p<(ay xs n).2.1+n))/\∀p,(ay xs n).2.1<=p->p<(ay xs n).2.1+n->RH xs p:=by
 obtain⟨o,u,J⟩:=eI.1 h;have K:=vg xs n xs.length (Z1 _);unfold ay at t |-;change gj xs n = -1\/_ at K;split at t
 ·cases t
 rename_i w;rw[C6 w];obtain⟨O,P,L⟩:=K.resolve_left ω;change 0<=gj xs n at O;change gj xs n<xs.length at P;change n<=(nth xs (gj xs n).toNat).Len at L;generalize Q:(gj xs n).toNat=b at L |-;have g:b<xs.length:=ω
 have M:=u _ (am g);have q:∀j,j<xs.length->j≠b->(nth xs j).At+(nth xs j).Len<(nth xs b).At\/(nth xs b).At+(nth xs b).Len<(nth xs j).At:=λj a k=>by
  rcases Nat.lt_or_gt_of_ne k with A|B
  ·exact .inl (uj o A g)
  ·exact .inr (uj o B a)
 split
 ·rename_i R
  have C:(dele xs b).Sublist xs:=eM ..;refine⟨eI.2 ⟨⟨o.1.sublist C,λy l=>o.2 y (C.subset l)⟩,λy l=>u y (C.subset l),J⟩,M.1,by show(nth xs b).At+n<=pages;omega,λp=>?_,λp D E=>tF.2 ⟨b,g,D,by show p<_;simp only at E;omega⟩⟩;simp only;rw[tF (xs:=xs)];constructor
  ·rintro⟨r,F,f,d⟩
   obtain⟨j,a,k,rfl⟩:=dP.1 F;refine⟨⟨j,a,f,d⟩,λe=>?_⟩;have:=q j a k;omega
  ·rintro⟨⟨j,a,f,d⟩,G⟩
   exact⟨_,dP.2 ⟨j,a,λe=>by subst e;omega,rfl⟩,f,d⟩
 ·rename_i R
  have c:∀j,nth (xs.set b ⟨(nth xs b).At+n,(nth xs b).Len - n⟩) j=if j=b then⟨(nth xs b).At+n,(nth xs b).Len - n⟩ else nth xs j:=λj=>by
   rw[cq];by_cases e:j=b
   ·rw[C7 ⟨e.symm,ω⟩,C7 e]
   ·rw[C6 λz=>e z.1.symm,C6 e]
  refine⟨eI.2 ⟨⟨?_,λy l=>?_⟩,λy l=>?_,J⟩,M.1,by show(nth xs b).At+n<=pages;omega,λp=>?_,λp D E=>tF.2 ⟨b,g,D,by simp only at E;omega⟩⟩
  ·rw[List.pairwise_iff_getElem]
   intro i j N a H;rw[<-bp (O1 N),<-bp (O1 a),c,c];simp only[X0]at N a;have S:=uj o H a;split
   ·rename_i e;subst e
    rw[C6 ω];simp only;omega
   ·split
    ·rename_i e;subst e
     simp only;omega
    ·exact S
  ·rcases en l with rfl|⟨j,a,-,rfl⟩
   ·simp only;omega
   ·exact o.2 _ (am a)
  ·rcases en l with rfl|⟨j,a,-,rfl⟩
   ·simp only;omega
   ·exact u _ (am a)
  ·simp only
   rw[tF,tF,X0];constructor
   ·rintro⟨j,a,f,d⟩
    rw[c]at f d;split at f
    ·rename_i e;subst e
     rw[C7 rfl]at d;simp only at f d;exact⟨⟨j,a,ω,ω⟩,ω⟩
    ·rename_i e
     rw[C6 e]at d;have:=q j a e;exact⟨⟨j,a,f,d⟩,ω⟩
   ·rintro⟨⟨j,a,f,d⟩,G⟩
    refine⟨j,a,?_⟩;rw[c];split
    ·rename_i e;subst e
     simp only;omega
    ·exact⟨f,d⟩
def pK(k:af):Int:=cQ (λu=>!u) k.Machine.Frames.Used
def oZ(k:af)(p:Int)(f:Nat):af:={k with Machine:=⟨⟨k.Machine.Frames.Cells,k.Machine.Frames.Used.set f true⟩,⟨k.Machine.Table.Entries.set p.toNat ⟨2,(f:Nat)⟩⟩⟩}
def fI(k:af)(p:Int):af × Bool:=if refd k=true\/pK k<0 then(de k,false) else(oZ (de k) p (pK k).toNat,true)
theorem B3{k:af}(h:¬pK k<0):(pK k).toNat<k.Machine.Frames.Used.length/\nth k.Machine.Frames.Used (pK k).toNat=false:=by
 unfold pK at h |-;rcases jR (λu=>!u) k.Machine.Frames.Used with e|⟨n,a,e,b⟩
 ·omega
 ·rw[e,U1]
  exact⟨a,by simpa using b⟩
theorem xa{k:af}(h:aA k=true){f:Nat}(b:f<k.Machine.Frames.Used.length)(c:nth k.Machine.Frames.Used f=false)(q:Nat)(d:q<k.Machine.Table.Entries.length)(g:(nth k.Machine.Table.Entries q).Mode≠0):(nth k.Machine.Table.Entries q).Frame≠(f:Nat):=by
 obtain⟨j,l,n,i,o⟩:=aC.1 h;intro e;have a:=i f b;rw[c]at a;have:=of_decide_eq_false a.symm;exact this (dN.2 ⟨q,d,g,e⟩)
theorem Kn{k:af}{p:Int}{f:Nat}(h:aA k=true)(L:0<=p/\p<k.Machine.Table.Entries.length)(n:(nth k.Machine.Table.Entries p.toNat).Mode=0)(o:f<k.Machine.Frames.Used.length)(r:nth k.Machine.Frames.Used f=false):aA (oZ k p f)=true:=by
 have t:=xa h o r;obtain⟨u,w,y,A,B⟩:=aC.1 h;obtain⟨C,D,E,F⟩:=bf.1 w;obtain⟨G,H,J⟩:=bx.1 y;have a:∀q,nth (k.Machine.Table.Entries.set p.toNat ⟨2,(f:Nat)⟩) q=if p.toNat=q then⟨2,(f:Nat)⟩ else nth k.Machine.Table.Entries q:=λq=>by
  rw[cq];by_cases i:p.toNat=q
  ·rw[C7 ⟨i,ω⟩,C7 i]
  ·rw[C6 (λe=>i e.1),C6 i]
 refine aC.2 ⟨u,bf.2 ⟨C,D,by simp only[oZ,X0];exact E,λj b=>?_⟩,bx.2 ⟨λj b=>?_,?_,?_⟩,λj b=>?_,B⟩
 ·replace b:j<k.Machine.Frames.Cells.length:=b
  show gz (nth k.Machine.Frames.Cells j) (nth (k.Machine.Frames.Used.set f true) j)=true;have d:=F j b;rw[cq];split
  ·unfold gz at d |-
   simp only[I0,C0,X2]at d |-;refine⟨d.1,λv K=>?_⟩;have:=d.2 v K;unfold gZ at this |-;simp only[I0]at this;rw[this.1];rfl
  ·exact d
 ·simp only[oZ,X0]at b |-
  rw[a];split
  ·unfold j8;rw[C0];simp only;omega
  ·exact G j b
 ·simp only[oZ,X0];exact H
 ·simp only[oZ,X0];exact J
 ·simp only[oZ,X0]at b
  show nth (k.Machine.Frames.Used.set f true) j=_;rw[cq];by_cases e:f=j
  ·subst e
   rw[C7 ⟨rfl,b⟩];refine(N0 (dN.2 ⟨p.toNat,?_,?_,?_⟩)).symm
   ·simp only[oZ,X0];omega
   ·simp only[oZ,a,C7];decide
   ·simp only[oZ,a,C7]
  ·rw[C6 λz=>e z.1,A j b]
   refine decide_eq_decide.2 ?_;rw[dN,dN];simp only[oZ,X0,a];constructor
   ·rintro⟨q,l,g,c⟩
    refine⟨q,l,?_⟩;rw[C6 λz=>g (by rw[<-z];exact n)];exact⟨g,c⟩
   ·rintro⟨q,l,g,c⟩
    by_cases z:p.toNat=q
    ·rw[C7 z]at c
     simp only at c;omega
    ·rw[C6 z]at g c
     exact⟨q,l,g,c⟩
structure zb(k:af)(p:Int)(r:af × Bool):Prop where
 ker:aA r.1=true
 len:r.1.Machine.Table.Entries.length=k.Machine.Table.Entries.length
 calls:r.1.Calls=k.Calls+1
 ref:r.1.Refuse=k.Refuse
 cells:r.1.Machine.Frames.Cells=k.Machine.Frames.Cells
 no:r.2=false->r.1=de k
 yes:r.2=true->∃f:Nat,f<k.Machine.Frames.Used.length/\nth k.Machine.Frames.Used f=false/\(∀q:Nat,nth r.1.Machine.Table.Entries q=if(q:Int)=p then⟨2,(f:Nat)⟩ else nth k.Machine.Table.Entries q)/\∀q,q<k.Machine.Table.Entries.length->(nth k.Machine.Table.Entries q).Mode≠0->(nth k.Machine.Table.Entries q).Frame≠(f:Nat)
theorem zb.of{k:af}{p:Int}(h:aA k=true)(c:k.Calls≠100000)(f:0<=p/\p<k.Machine.Table.Entries.length)(g:(nth k.Machine.Table.Entries p.toNat).Mode=0):zb k p (fI k p):=by
 unfold fI;split
 ·exact⟨kL h c,rfl,rfl,rfl,rfl,λ_=>rfl,λe=>by cases e⟩
 ·rename_i d
  rw[not_or]at d;obtain⟨a,b⟩:=B3 d.2;refine⟨Kn (kL h c) f g a b,by simp[oZ,de],rfl,rfl,rfl,λe=>(by cases e),λ_=>⟨_,a,b,λq=>?_,λq=>xa h a b q⟩⟩;simp only[oZ,de,cq];by_cases e:(q:Int)=p
  ·rw[C7 ⟨ω,ω⟩,C7 e]
  ·rw[C6 λz=>e ω,C6 e]
def cB(k:af)(p:Int):Nat->af × Nat
 | 0=>(k,0)
 | i+1=>if(cB k p i).2=i then((fI (cB k p i).1 (p+(i:Nat))).1,if(fI (cB k p i).1 (p+(i:Nat))).2=true then i+1 else i) else cB k p i
structure m9(k:af)(p:Int)(i:Nat)(r:af × Nat):Prop where
 ker:aA r.1=true
 len:r.1.Machine.Table.Entries.length=k.Machine.Table.Entries.length
 calls:k.Calls<=r.1.Calls/\r.1.Calls<=k.Calls+i
 ref:r.1.Refuse=k.Refuse
 cells:r.1.Machine.Frames.Cells=k.Machine.Frames.Cells
 le:r.2<=i
 out:∀q:Nat,¬(p<=q/\(q:Int)<p+r.2)->nth r.1.Machine.Table.Entries q=nth k.Machine.Table.Entries q
 new:∀q:Nat,p<=q->(q:Int)<p+r.2->(nth r.1.Machine.Table.Entries q).Mode=2/\∀u:Nat,u<k.Machine.Table.Entries.length->(nth r.1.Machine.Table.Entries u).Mode≠0->(nth r.1.Machine.Table.Entries u).Frame=(nth r.1.Machine.Table.Entries q).Frame->u=q
theorem m9.of{k:af}{p:Int}{n:Nat}(h:aA k=true)(G:k.Calls+n<=100000)(H:0<=p/\p+n<=k.Machine.Table.Entries.length)(C:∀q:Nat,p<=q->(q:Int)<p+n->(nth k.Machine.Table.Entries q).Mode=0):∀i,i<=n->m9 k p i (cB k p i)
 | 0,_=>⟨h,rfl,⟨T3 _,by show k.Calls<=k.Calls+((0:Nat):Int);omega⟩,rfl,rfl,Z1 _,λ_ _=>rfl,λq o d=>by simp only[cB]at d;omega⟩
 | i+1,L=>by
  have a:=m9.of h G H C i ω;unfold cB;split
  case isFalse=>exact⟨a.ker,a.len,⟨a.calls.1,by have:=a.calls.2;omega⟩,a.ref,a.cells,by have:=a.le;omega,a.out,a.new⟩
  rename_i t;generalize cB k p i=r at a t |-;have J:=a.calls;have y:(nth r.1.Machine.Table.Entries (p+(i:Nat)).toNat).Mode=0:=by
   rw[a.out _ ω];exact C _ ω ω
  have s:=zb.of (p:=p+(i:Nat)) a.ker ω ⟨ω,by rw[a.len];omega⟩ y;generalize fI r.1 (p+(i:Nat))=w at s |-;refine⟨s.ker,s.len.trans a.len,⟨by simp only[s.calls];omega,by simp only[s.calls];omega⟩,s.ref.trans a.ref,s.cells.trans a.cells,by simp only;split<;>omega,λq j=>?_,λq o d=>?_⟩
  ·simp only at j |-
   cases e:w.2 with
   | false=>
    rw[s.no e];rw[e]at j;exact a.out q (by rw[t];simpa using j)
   | true=>
    obtain⟨f,-,-,g,-⟩:=s.yes e;rw[e,C7 rfl]at j;rw[g,C6 ω];exact a.out q ω
  ·simp only at d |-
   cases e:w.2 with
   | false=>
    rw[s.no e];rw[e]at d;exact a.new q o (by rw[t];simpa using d)
   | true=>
    obtain⟨f,-,-,g,D⟩:=s.yes e;rw[e,C7 rfl]at d;have A:q<k.Machine.Table.Entries.length:=ω
    rw[g];by_cases E:(q:Int)=p+(i:Nat)
    ·rw[C7 E]
     refine⟨rfl,λu B c b=>?_⟩;rw[g]at c b;by_cases l:(u:Int)=p+(i:Nat)
     ·omega
     ·rw[C6 l]at c b
      exact absurd b (D u (by rw[a.len];exact B) c)
    ·rw[C6 E]
     obtain⟨F,K⟩:=a.new q o ω;refine⟨F,λu B c b=>?_⟩;rw[g]at c b;by_cases l:(u:Int)=p+(i:Nat)
     ·rw[C7 l]at b
      exact absurd b.symm (D q (by rw[a.len];exact A) (by rw[F];decide))
     ·rw[C6 l]at c b
      exact K u B c b
theorem m9.undo{k:af}{p:Int}{i:Nat}{r:af × Nat}(s:m9 k p i r)(h:aA k=true)(d:0<=p/\p+i<=k.Machine.Table.Entries.length)(e:∀q:Nat,p<=q->(q:Int)<p+i->(nth k.Machine.Table.Entries q).Mode=0):aA (dH r.1 p r.2)=true/\tEq k.Machine.Table (dH r.1 p r.2).Machine.Table:=by
 have f:=s.le;have g:=kR s.ker d.1 r.2 (by rw[s.len];omega);refine⟨jM s.ker p r.2,((gS r.1 p r.2).1).trans s.len,λq=>?_⟩;rw[g];split
 ·rename_i a
  have c:=e q a.1 ω;obtain⟨-,-,j,-⟩:=aC.1 h;have b:=(bx.1 j).1 q ω;unfold j8 at b;rw[C0]at b;exact⟨⟨λz=>absurd rfl z,λz=>absurd c z⟩,(b.2.2.1 c).symm⟩
 ·rename_i a
  rw[s.out q a];exact⟨Iff.rfl,rfl⟩
theorem Pg.add{t h:aG}{O r:List a7}{sp b:List au}{la d:List a8}{p:Int}{n:Nat}(i:Pg t O sp la)(E:h.Entries.length=t.Entries.length)(S:p+n<=t.Entries.length)(hp:0<=p)(j:∀q:Nat,¬(p<=q/\(q:Int)<p+n)->nth h.Entries q=nth t.Entries q)(a:∀q:Nat,p<=q->(q:Int)<p+n->(nth h.Entries q).Mode=2/\∀u:Nat,u<t.Entries.length->(nth h.Entries u).Mode≠0->(nth h.Entries u).Frame=(nth h.Entries q).Frame->u=q)(J:∀q,RH r q↔RH O q/\¬(p<=q/\q<p+n))(F:∀q,q∈pgs b d↔q∈pgs sp la\/(p<=q/\q<p+n))(w:∀s∈b,0<=s.Page/\(s∈sp\/(p<=s.Page/\s.Page<p+n)))(K:∀l∈d,l∈la\/∀q∈lpgs l l.Pages.toNat,p<=q/\q<p+n):Pg h r b d:=by
 have f:∀q:Nat,q<t.Entries.length->((nth h.Entries q).Mode≠0↔(q:Int)∈pgs b d):=λq c=>by
  rw[F];by_cases e:p<=q/\(q:Int)<p+n
  ·have:=(a q e.1 e.2).1
   exact⟨λ_=>.inr e,λ_=>by rw[this];decide⟩
  ·rw[j q e,i.own q c]
   exact⟨.inl,λz=>z.resolve_right e⟩
 refine⟨λl A q c u k L G=>?_,λq c=>?_,λq c=>f q (by rw[<-E];exact c),λq c=>?_,λs P u k M H=>?_⟩
 ·rw[E]at k
  have B:=eO (sp:=b) A c;have C:q<t.Entries.length:=by
   rcases(F _).1 B with g|g
   ·have:=i.bnd _ g;omega
   ·omega
  by_cases e:p<=q/\(q:Int)<p+n
  ·exact(a q e.1 e.2).2 u k L G
  ·have N:=(K l A).resolve_right λg=>e (g _ c)
   by_cases o:p<=u/\(u:Int)<p+n
   ·exact((a u o.1 o.2).2 q C ((f q C).2 B) G.symm).symm
   ·rw[j q e,j u o]at G
    rw[j u o]at L;exact i.one l N q c u k L G
 ·rw[E]
  rcases(F _).1 c with g|g
  ·exact i.bnd _ g
  ·omega
 ·rw[E]at c
  rw[J];by_cases e:p<=q/\(q:Int)<p+n
  ·have:=(a q e.1 e.2).1
   exact⟨λ_ z=>z.2 e,λ_=>by rw[this];decide⟩
  ·rw[j q e,i.fre q c]
   exact⟨λz y=>z y.1,λz y=>z ⟨y,e⟩⟩
 ·obtain⟨T,U⟩:=w s P
  obtain⟨V,W⟩:=w u k;have D:∀y∈b,0<=y.Page->y.Page.toNat<t.Entries.length/\((y.Page.toNat:Nat):Int)=y.Page/\(nth h.Entries y.Page.toNat).Mode≠0:=λy X Y=>by
   have g:=di (la:=d) X;have Q:y.Page.toNat<t.Entries.length:=by
    rcases(F _).1 g with R|R
    ·have:=i.bnd _ R;omega
    ·omega
   exact⟨Q,ω,(f _ Q).2 (by rw[show((y.Page.toNat:Nat):Int)=y.Page by omega];exact g)⟩
  obtain⟨Z,sc,sd⟩:=D s P T;obtain⟨ub,uc,ud⟩:=D u k V;by_cases es:p<=s.Page/\s.Page<p+n
  ·have:=(a s.Page.toNat ω ω).2 _ ub ud H.symm
   omega
  ·by_cases o:p<=u.Page/\u.Page<p+n
   ·have:=(a u.Page.toNat ω ω).2 _ Z sd H
    omega
   ·rw[j _ ω,j _ ω]at H
    exact i.mesh s (U.resolve_right es) u (W.resolve_right o) M H
theorem AW{sp a:List au}{la b:List a8}(c:a.Perm sp)(d:b.Perm la):(pgs a b).Perm (pgs sp la):=by
 unfold pgs;exact(c.map _).append (d.flatMap_right _)
def Fo(p:Int)(s:au):Bool:=decide (p<=s.Page)
def Ll(p:Int)(l:a8):Bool:=decide (p<=l.Page)
def addS(h:ac)(k:af)(a:List a7)(p c:Int):ac:={h with Kernel:=k,Free:=a,Spans:=ix (Fo p) h.Spans ⟨p,c,0⟩}
theorem jZ{h:ac}{E:List Int}(a:bn h E){n:Int}(j:1<=n)(k:(ay h.Free n).2.2=true):0<=(ay h.Free n).2.1/\(ay h.Free n).2.1+n<=(tbl h).Entries.length/\(∀q:Nat,(ay h.Free n).2.1<=q->(q:Int)<(ay h.Free n).2.1+n->(nth (tbl h).Entries q).Mode=0)/\∀q:Int,(ay h.Free n).2.1<=q->q<(ay h.Free n).2.1+n->q∉pgs h.Spans h.Larges:=by
 obtain⟨r,l,f,t,o⟩:=lE a.rng j k;have g:∀q:Nat,(ay h.Free n).2.1<=q->(q:Int)<(ay h.Free n).2.1+n->(nth (tbl h).Entries q).Mode=0:=λq b c=>by
  have d:q<(tbl h).Entries.length:=by
   have:(ay h.Free n).2.1+n<=((tbl h).Entries.length:Nat):=f;omega
  by_cases e:(nth (tbl h).Entries q).Mode=0
  ·exact e
  ·exact absurd (o q b c) ((a.pg.fre q d).1 e)
 refine⟨l,f,g,λq b c i=>?_⟩;have u:=a.pg.bnd q i;obtain⟨m,rfl⟩:=V1 (show 0<=q by omega);have p:=(a.pg.own m ω).2 i;exact p (g m b c)
theorem bn.addS{h:ac}{E:List Int}{c:Int}(a:bn h E)(H:0<=c/\c<=3)(F:(ay h.Free 1).2.2=true){k:af}(s:zb h.Kernel (ay h.Free 1).2.1 (k,true)):bn (addS h k (ay h.Free 1).1 (ay h.Free 1).2.1 c) E:=by
 obtain⟨U,G,r3,J,r5⟩:=lE a.rng (T3 _) F;obtain⟨-,V,u3,W⟩:=jZ a (T3 _) F;generalize (ay h.Free 1).2.1=p at G r3 J r5 V u3 W s |-;generalize (ay h.Free 1).1=fr at U J |-;obtain⟨f,f1,f2,K,f4⟩:=s.yes rfl;have M:=(bx.1 (aC.1 a.ker).2.2.1).2.2;change (tbl h).Entries.length<=32 at M;have X:=a.L;have N:=jo (Fo p) h.Spans ⟨p,c,0⟩;have O:=AW N (List.Perm.refl h.Larges);have w:(pgs (ix (Fo p) h.Spans ⟨p,c,0⟩) h.Larges).Perm (p::pgs h.Spans h.Larges):=O;have B:p∉pgs h.Spans h.Larges:=W p (T3 _) ω;have P:∀z∈h.Spans,z.Page≠p:=λz g e=>B (by rw[<-e];exact di g)
 have i:∀b d,iK (ix (Fo p) h.Spans ⟨p,c,0⟩) b d↔iK h.Spans b d:=λb d=>by
  constructor
  ·rintro⟨s,C,A,Q⟩
   rcases cU.1 C with rfl|C
   ·exact absurd A (zk rfl b)
   ·exact⟨s,C,A,Q⟩
  ·rintro⟨s,C,A⟩
   exact⟨s,cU.2 (.inr C),A⟩
 exact {a with
   ker:=s.ker
   rng:=by show bw ((k.Machine.Table.Entries.length:Nat):Int) fr=true;rw[s.len];exact U
   lay:=by
     obtain⟨l1,l2,l3⟩:=cT a.lay;unfold bi;simp only[I0,C0];refine⟨⟨X2.2 λz g=>?_,l2⟩,w.nodup_iff.2 (List.nodup_cons.2 ⟨B,l3⟩)⟩;rcases cU.1 g with rfl|g
     · have R:0<=lim c:=by
         have:=(fH H).1;obtain rfl|rfl|rfl|rfl:c=0\/c=1\/c=2\/c=3:=ω
         all_goals decide
       exact N0 ⟨G,by show p<=31;omega,H.1,H.2,T3 _,R⟩
     · exact X.sok z g
   srs:=ke (f:=λz:au=>z.Page) (y:=⟨p,c,0⟩) a.srs P
   pg:=by
     refine a.pg.add (p:=p) (n:=1) s.len (by exact V) G (λq Y=>?_) (λq q1 q2=>?_) (λq=>J q) (λq=>?_) (λz g=>?_) (λl hl=>.inl hl)
     · exact(K q).trans (C6 ω)
     · have Y:(q:Int)=p:=ω
       have Z:nth k.Machine.Table.Entries q = ⟨2,(f:Nat)⟩:=(K q).trans (C7 Y);refine⟨Q0 bj.Mode Z,λu S t r=>?_⟩;have fu:nth k.Machine.Table.Entries u=if(u:Int)=p then⟨2,(f:Nat)⟩ else nth h.Kernel.Machine.Table.Entries u:=K u
       change (nth k.Machine.Table.Entries u).Mode≠0 at t;change (nth k.Machine.Table.Entries u).Frame=(nth k.Machine.Table.Entries q).Frame at r;rw[fu]at t r;rw[Z]at r;by_cases eu:(u:Int)=p
       · omega
       · rw[C6 eu]at t r
         exact absurd r (f4 u S t)
     · show q∈pgs (ix (Fo p) h.Spans ⟨p,c,0⟩) h.Larges↔_
       rw[w.mem_iff,List.mem_cons];constructor
       · rintro(e|e)
         · exact .inr ⟨ω,ω⟩
         · exact .inl e
       · rintro(e|e)
         · exact .inr e
         · exact .inl ω
     · rcases cU.1 g with rfl|g
       · exact⟨G,.inr ⟨T3 _,by show p<p+((1:Nat):Int);omega⟩⟩
       · exact⟨(aE (X.sok z g)).1,.inl g⟩
   oow:=λo F=>by
     rcases a.oow o F with⟨z,g,A,Q⟩|A
     · exact .inl ⟨z,cU.2 (.inr g),A,Q⟩
     · exact .inr A
   hca:=λd hd j hj b D=>(i b j).2 (a.hca d hd j hj b D)
   hqu:=λy T=>(i _ _).2 (a.hqu y T)
   hfl:=λb D=>(i _ _).2 (a.hfl b D)
   hin:=λb D=>(i _ _).2 (a.hin b D)
   mem:=λb=>(a.mem b).trans (by
     show kG h.Spans h.Larges b↔kG (ix (Fo p) h.Spans ⟨p,c,0⟩) h.Larges b;unfold kG;rw[i])
   job:=λhm=>by
     obtain⟨j1,⟨y,T,e1⟩,⟨u,S,e2⟩⟩:=a.job hm;exact⟨j1,⟨y,cU.2 (.inr T),e1⟩,⟨u,cU.2 (.inr S),e2⟩⟩}
def addL(h:ac)(k:af)(a:List a7)(p n size t:Int):ac:={h with Kernel:=k,Free:=a,Larges:=ix (Ll p) h.Larges ⟨p,n,size⟩,Objs:=ix (JE (16*p)) h.Objs ⟨h.Next,16*p,size,t⟩,Next:=h.Next+1}
theorem bn.addL{h:ac}{E:List Int}{size t:Int}{n:Nat}(a:bn h E)(g:9<=size/\size<=1000)(J:(n:Int)=(size+15) / 16)(i:(ay h.Free n).2.2=true){k:af}(s:m9 h.Kernel (ay h.Free n).2.1 n (k,n))(hn:h.Next<1000000)(ht:0<=t/\t<=h.Caches.length - 1) :
  bn (addL h k (ay h.Free n).1 (ay h.Free n).2.1 n size t) E:=by
 have B:(1:Int)<=n:=ω
 obtain⟨V,K,r3,M,r5⟩:=lE a.rng B i;obtain⟨-,W,u3,H⟩:=jZ a B i;generalize (ay h.Free n).2.1=p at K r3 M r5 W u3 H s |-;generalize (ay h.Free n).1=fr at V M |-;have N:=(bx.1 (aC.1 a.ker).2.2.1).2.2;change (tbl h).Entries.length<=32 at N;have O:=a.L;have P:=jo (Ll p) h.Larges ⟨p,n,size⟩;have C:=jo (JE (16*p)) h.Objs ⟨h.Next,16*p,size,t⟩;have Q:lpgs ⟨p,n,size⟩ ((n:Nat):Int).toNat=lpgs ⟨p,n,size⟩ n:=by rw[U1]
 have D:(pgs h.Spans (ix (Ll p) h.Larges ⟨p,n,size⟩)).Perm (lpgs ⟨p,n,size⟩ n++pgs h.Spans h.Larges):=by
  refine(AW (List.Perm.refl h.Spans) P).trans ?_;unfold pgs;rw[R4];simp only[Q];rw[<-Z3,<-Z3];exact List.perm_append_comm.append_right _
 have u:∀q,q∈lpgs ⟨p,n,size⟩ n↔p<=q/\q<p+n:=λq=>by
  rw[cZ];constructor
  ·rintro⟨j,hj,rfl⟩;exact⟨by show p<=p+(j:Int);omega,by show p+(j:Int)<_;omega⟩
  ·rintro⟨X,Y⟩;exact⟨(q - p).toNat,ω,by show q=p+_;omega⟩
 have R:(lpgs ⟨p,n,size⟩ n).Nodup:=by
  unfold lpgs List.Nodup;rw[List.pairwise_map];exact List.nodup_range.imp λr e=>r (by simp only at e;omega)
 have r:∀z∈h.Larges,z.Page≠p:=λz g e=>H p (T3 _) ω (by rw[<-e];exact eO g (cZ.2 ⟨0,by have:=aT (O.lok z g);omega,ω⟩))
 have S:¬kG h.Spans h.Larges (16*p):=by
  rintro(⟨z,g,d,-⟩|⟨l,c,e⟩)
  ·exact H p (T3 _) ω (by rw[show p=z.Page by have a1:=d.1;have a2:=d.2.1;omega];exact di g)
  ·exact r l c ω
 have F:(16*p)∉E++holders h:=λT=>S ((a.mem _).1 T)
 have U:∀o∈h.Objs,o.Addr≠16*p:=λo i e=>F (W1.2 (.inr (by unfold holders;simp only[W1];exact .inl (.inl (.inl (C3.2 ⟨o,i,e⟩))))))
 have Z:(E++holders (Ab.addL h k fr p n size t)).Perm ((16*p)::(E++holders h)):=by
  have h0:=C.map (·.Addr);refine List.perm_iff_count.2 λb=>?_
  have d:=h0.count_eq b;simp only[z4,List.count_cons]at d;simp only[holders,bY,Ab.addL,C4,List.count_cons];omega
 exact {a with
   ker:=s.ker
   rng:=by show bw ((k.Machine.Table.Entries.length:Nat):Int) fr=true;rw[s.len];exact V
   lay:=by
     obtain⟨l1,l2,l3⟩:=cT a.lay;unfold bi;simp only[I0,C0];refine⟨⟨l1,X2.2 λz w=>?_⟩,D.nodup_iff.2 (List.nodup_append.2 ⟨R,l3,λq G b hb e=>?_⟩)⟩
     · rcases cU.1 w with rfl|w
       · exact N0 ⟨g.1,g.2,J,K,by show p<=32 - (n:Int);omega⟩
       · exact O.lok z w
     · subst e
       have:=(u q).1 G;exact H q this.1 this.2 hb
   srl:=ke (f:=λz:a8=>z.Page) (y:=⟨p,n,size⟩) a.srl r
   pg:=by
     refine a.pg.add (p:=p) (n:=n) s.len (by exact W) K (λq G=>s.out q G) (λq X Y=>s.new q X Y) (λq=>M q) (λq=>?_) (λz g=>⟨(aE (O.sok z g)).1,.inl g⟩) (λl c=>?_)
     · show q∈pgs h.Spans (ix (Ll p) h.Larges ⟨p,n,size⟩)↔_
       rw[D.mem_iff,W1,u];exact Or.comm
     · rcases cU.1 c with rfl|c
       · exact .inr λq G=>(u q).1 (by simpa using G)
       · exact .inl c
   nums:=xt a.nums hn
   osr:=ke (f:=λo:bG=>o.Addr) (y:=⟨h.Next,16*p,size,t⟩) a.osr U
   onu:=λo i=>by
     rcases cU.1 i with rfl|i
     · have:=a.nums
       unfold ca at this;rw[C0]at this;exact⟨by show 1<=h.Next;omega,by show h.Next<=h.Next+1 - 1;omega,ht⟩
     · have:=a.onu o i
       exact⟨this.1,by show o.Id<=h.Next+1 - 1;omega,this.2.2⟩
   oid:=by
     show((ix (JE (16*p)) h.Objs ⟨h.Next,16*p,size,t⟩).map (·.Id)).Nodup;rw[(C.map _).nodup_iff,z4];refine List.nodup_cons.2 ⟨λT=>?_,a.oid⟩;obtain⟨o,i,e⟩:=C3.1 T;have:=(a.onu o i).2.1;simp only at e;omega
   oow:=λo A=>by
     rcases cU.1 A with rfl|A
     · exact .inr ⟨_,cU.2 (.inl rfl),rfl,rfl⟩
     · rcases a.oow o A with d|⟨l,c,d⟩
       · exact .inl d
       · exact .inr ⟨l,cU.2 (.inr c),d⟩
   nd:=Z.nodup_iff.2 (List.nodup_cons.2 ⟨F,a.nd⟩)
   mem:=λb=>by
     rw[Z.mem_iff,List.mem_cons,a.mem b];show _↔kG h.Spans (ix (Ll p) h.Larges ⟨p,n,size⟩) b;unfold kG;constructor
     · rintro(rfl|d|⟨l,c,e⟩)
       · exact .inr ⟨_,cU.2 (.inl rfl),rfl⟩
       · exact .inl d
       · exact .inr ⟨l,cU.2 (.inr c),e⟩
     · rintro(d|⟨l,c,e⟩)
       · exact .inr (.inl d)
       · rcases cU.1 c with rfl|c
         · exact .inl e
         · exact .inr (.inr ⟨l,c,e⟩)}
end Go.Proofs.YtembpgjjnioagaaGreat.Ab
