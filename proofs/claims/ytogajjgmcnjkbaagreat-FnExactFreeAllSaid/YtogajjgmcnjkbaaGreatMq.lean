/- Freeing: what becomes of the data, and that a valid heap stays valid. No condition. -/
import Derived.Test.YtogajjgmcnjkbaaGreatMp
namespace Go.Proofs.YtogajjgmcnjkbaaGreat.Ab
def k8 (h:ac) (p:Int):Bool:=h.Meshing&&(decide (p=h.Job.Plan.Keep) || decide (p=h.Job.Plan.Move))
def BO (h:ac) (i:Nat):ac:={h with Kernel:=cX h.Kernel (nth h.Spans i).Page,Spans:=dele h.Spans i,Free:=(bX (eP h) h.Free ⟨(nth h.Spans i).Page,1⟩).getD h.Free}
def ir (h:ac) (i:Nat) (a:Int):ac:={h with Spans:=h.Spans.set i (jj (nth h.Spans i) (dt (nth h.Spans i) a))}
def freeS (h:ac) (i:Nat) (a:Int):ac:=if(jj (nth h.Spans i) (dt (nth h.Spans i) a)).Bits=0∧k8 h (nth h.Spans i).Page=false then BO (ir h i a) i else ir h i a
def re (h:ac) (a:Int):Nat:=(eX h (a / 16)).toNat
def freeA (h:ac) (a:Int):ac:=freeS h (re h a) a
def cput (c:ar) (k a:Int):Option ar:=if bw c=true∧0≤k∧k≤3∧bw (iB c k.toNat a)=true then some (iB c k.toNat a) else none
def recyc (t:Nat) (h:ac) (a:Int):ac:=match cput (nth h.Caches t) (nth h.Spans (re h a)).Class a with
 | some c=>{h with Caches:=h.Caches.set t c}
 | none=>freeA h a
theorem ef.at {h:ac} {E:List Int} {a:Int} (hi:ef h E) (ha:pC h.Spans a (-1)):re h a<h.Spans.length∧gg (nth h.Spans (re h a)) a∧eX h (a / 16)=(re h a:Nat):=by
 obtain⟨s,hs,h1,-⟩:=ha
 obtain⟨i,li,rfl⟩:=bH hs
 have hp:(nth h.Spans i).Page=a / 16:=by have a1:=h1.1;have a2:=h1.2.1;omega
 have hon:=pJ hi.L li
 rw[hp]at hon
 have hx:re h a=i:=by unfold re;rw[hon];rfl
 rw[hx]
 exact⟨li,h1,hon⟩
theorem FS {h:ac} {p:Int} (e:k8 h p=false) (hm:h.Meshing=true):p≠h.Job.Plan.Keep∧p≠h.Job.Plan.Move:=by
 unfold k8 at e
 rw[hm]at e
 simpa using e
theorem ef.freeS {h:ac} {E:List Int} {a:Int} {i:Nat} (hi:ef h (a::E)) (li:i<h.Spans.length) (ha:gg (nth h.Spans i) a):ef (freeS h i a) E:=by
 have h1:=hi.give li ha
 unfold Ab.freeS
 split
 ·rename_i e
  have hn:nth (ir h i a).Spans i=jj (nth h.Spans i) (dt (nth h.Spans i) a):=by unfold ir;simp only[iI,true_and];rw[if_pos li]
  obtain⟨o,o1,o2⟩:=ef.giveSpan (h:=ir h i a) h1 (i:=i) (by unfold ir;simp only[List.length_set];exact li) (by rw[hn];exact e.1) (fun hm=>by rw[hn];exact FS e.2 hm)
  unfold BO
  rw[o1]
  exact o2
 ·exact h1
theorem ef.freeA {h:ac} {E:List Int} {a:Int} (hi:ef h (a::E)):ef (freeA h a) E:=by
 obtain⟨h1,h2,-⟩:=hi.at (hi.hin a (List.mem_cons_self ..))
 exact hi.freeS h1 h2
theorem yQ {c:ar} (h:bw c=true):c.Lists.length=4:=by
 unfold bw at h;simp only[Bool.and_eq_true,decide_eq_true_eq]at h;exact h.1
theorem ef.recyc {h:ac} {E:List Int} {a:Int} {t:Nat} (hi:ef h (a::E)) (ht:t<h.Caches.length):ef (recyc t h a) E:=by
 obtain⟨h1,h2,-⟩:=hi.at (hi.hin a (List.mem_cons_self ..))
 unfold Ab.recyc
 split
 ·rename_i c hc
  unfold cput at hc
  split at hc
  ·rename_i e
   cases hc
   obtain⟨e1,e2,e3,e4⟩:=e
   exact hi.put ht (by rw[yQ e1];omega) ⟨_,ay h1,h2,.inr (by omega)⟩ e4
  ·cases hc
 ·exact hi.freeA
theorem A9 (h:ac) (i:Nat) (a:Int):(freeS h i a).Caches=h.Caches∧(freeS h i a).Objs=h.Objs∧(freeS h i a).Kernel.Calls=h.Kernel.Calls∧(freeS h i a).Mail=h.Mail∧(freeS h i a).Job=h.Job∧(freeS h i a).Clock=h.Clock∧(freeS h i a).Quar=h.Quar∧(freeS h i a).Kernel.Refuse=h.Kernel.Refuse:=by
 unfold freeS
 split
 ·obtain⟨-,h2,h3⟩:=oo (ir h i a).Kernel (nth (ir h i a).Spans i).Page
  exact⟨rfl,rfl,h2,rfl,rfl,rfl,rfl,h3⟩
 ·exact⟨rfl,rfl,rfl,rfl,rfl,rfl,rfl,rfl⟩
theorem tC (t:Nat) (h:ac) (a:Int):(recyc t h a).Caches.length=h.Caches.length∧(recyc t h a).Objs=h.Objs∧(recyc t h a).Kernel.Calls=h.Kernel.Calls∧(recyc t h a).Mail=h.Mail∧(recyc t h a).Job=h.Job∧(recyc t h a).Clock=h.Clock∧(recyc t h a).Quar=h.Quar∧(recyc t h a).Kernel.Refuse=h.Kernel.Refuse:=by
 unfold recyc
 split
 ·exact⟨List.length_set ..,rfl,rfl,rfl,rfl,rfl,rfl,rfl⟩
 ·obtain⟨h1,h2⟩:=A9 h (re h a) a
  exact⟨congrArg _ h1,h2⟩
def recycs (t:Nat) (h:ac) (az:List Int):ac:=az.foldl (recyc t) h
theorem gO (t:Nat):∀ (az:List Int) (h:ac),(recycs t h az).Caches.length=h.Caches.length∧(recycs t h az).Objs=h.Objs∧(recycs t h az).Kernel.Calls=h.Kernel.Calls∧(recycs t h az).Mail=h.Mail∧(recycs t h az).Job=h.Job∧(recycs t h az).Clock=h.Clock∧(recycs t h az).Quar=h.Quar∧(recycs t h az).Kernel.Refuse=h.Kernel.Refuse
 | [],h=>⟨rfl,rfl,rfl,rfl,rfl,rfl,rfl,rfl⟩
 | a::az,h=>by
  obtain⟨h1,h2,h3,h4,h5,h6,h7,h8⟩:=gO t az (recyc t h a)
  obtain⟨g1,g2,g3,g4,g5,g6,g7,g8⟩:=tC t h a
  exact⟨h1.trans g1,h2.trans g2,h3.trans g3,h4.trans g4,h5.trans g5,h6.trans g6,h7.trans g7,h8.trans g8⟩
theorem ef.recycs {t:Nat} {E:List Int} : ∀ {az:List Int} {h:ac},ef h (az++E)→t<h.Caches.length→ef (recycs t h az) E
 | [],h,hi,_=>hi
 | a::az,h,hi,ht=>ef.recycs (az:=az) (h:=Ab.recyc t h a) (hi.recyc ht) (by rw[(tC t h a).1];exact ht)
def qc (l:List ax):Int:=quarCells l l.length
def ge (room:Int):List ax→Nat
 | []=>0
 | x::xs=>if room<qc (x::xs) then ge room xs+1 else 0
def DV (q:aK) (x:ax):aK:=⟨q.Room,(q.Lst++[x]).drop (ge q.Room (q.Lst++[x]))⟩
def pc (q:aK) (x:ax):List ax:=(q.Lst++[x]).take (ge q.Room (q.Lst++[x]))
theorem sb (room:Int):∀ l,ge room l≤l.length
 | []=>Nat.le_refl _
 | x::xs=>by unfold ge;split;(have:=sb room xs;simp only[List.length_cons];omega);omega
theorem rG {room:Int} (hr:0≤room):∀ l:List ax,qc (l.drop (ge room l))≤room
 | []=>hr
 | x::xs=>by
  unfold ge
  split
  ·exact rG hr xs
  ·rename_i h;show qc (x::xs)≤room;omega
theorem ql {room:Int} : ∀ {l:List ax} {k:Nat},k<ge room l→room<qc (l.drop k)
 | [],k,h=>by cases h
 | x::xs,0,h=>by
  unfold ge at h
  split at h
  ·assumption
  ·omega
 | x::xs,k+1,h=>by
  unfold ge at h
  split at h
  ·exact ql (l:=xs) (by omega)
  ·omega
theorem mi {q:aK} : eZ q=true↔(∀ x∈q.Lst,0≤x.Class∧x.Class≤3∧0≤x.Addr∧0≤x.Since)∧(q.Lst.Pairwise fun a b=>a.Since≤b.Since)∧(q.Lst.map (·.Addr)).Nodup∧0≤q.Room∧q.Room≤500∧qc q.Lst≤q.Room:=by
 refine Iff.trans ?_ (and_congr Iff.rfl (and_congr (rv (fun a b:Int=>a≤b) (fun a b c=>Int.le_trans) (fun s:ax=>s.Since) q.Lst) (and_congr (vm (fun s:ax=>s.Addr) q.Lst) Iff.rfl)))
 unfold eZ qc
 simp only[Bool.and_eq_true,decide_eq_true_eq,co,iP,Bool.not_eq_true',List.any_eq_false,dv]
 constructor
 ·rintro⟨h1,h2⟩
  refine⟨fun x hx=>?_,fun i hi=>(h1 i hi).1.2.2.2.2,fun i hi=>(h1 i hi).2,h2⟩
  obtain⟨i,hi,rfl⟩:=bH hx
  obtain⟨⟨a1,a2,a3,a4,-⟩,-⟩:=h1 i hi
  exact⟨a1,a2,a3,a4⟩
 ·rintro⟨h1,h2,h3,h4⟩
  refine⟨fun i hi=>?_,h4⟩
  obtain⟨a1,a2,a3,a4⟩:=h1 _ (ay hi)
  exact⟨⟨a1,a2,a3,a4,h2 i hi⟩,h3 i hi⟩
theorem Hk {q:aK} {x:ax} (h:eZ q=true) (hx:0≤x.Class∧x.Class≤3∧0≤x.Addr∧0≤x.Since) (hs:∀ y∈q.Lst,y.Since≤x.Since) (hn:∀ y∈q.Lst,y.Addr≠x.Addr):eZ (DV q x)=true:=by
 obtain⟨h1,h2,h3,h4,h5,h6⟩:=mi.1 h
 have hsub:(DV q x).Lst.Sublist (q.Lst++[x]):=List.drop_sublist ..
 refine mi.2 ⟨fun y hy=>?_,List.Pairwise.sublist hsub ?_,List.Nodup.sublist (hsub.map _) ?_,h4,h5,rG h4 _⟩
 ·rcases List.mem_append.1 (hsub.subset hy) with hy|hy
  ·exact h1 y hy
  ·rw[List.mem_singleton.1 hy];exact hx
 ·exact List.pairwise_append.2 ⟨h2,List.pairwise_singleton ..,fun a ha b hb=>by rw[List.mem_singleton.1 hb];exact hs a ha⟩
 ·rw[List.map_append]
  refine List.nodup_append.2 ⟨h3,by simp,fun a ha b hb=>?_⟩
  obtain⟨y,hy,rfl⟩:=List.mem_map.1 ha
  simp only[List.map_cons,List.map_nil,List.mem_singleton]at hb
  rw[hb];exact hn y hy
def iG (r:List Int) (o:Nat):Nat→List Int
 | 0=>r
 | n+1=>(iG r o n).set (o+n) 0
def iu (k:ao) (a:Int):Nat:=(aF k.Machine.Table (a / 16)).Frame.toNat
def eo (k:ao) (a:Int) (n:Nat):ao:={k with Machine:=⟨⟨k.Machine.Frames.Cells.set (iu k a) (iG (nth k.Machine.Frames.Cells (iu k a)) (a % 16).toNat n),k.Machine.Frames.Used⟩,k.Machine.Table⟩}
theorem mU (r:List Int) (o:Nat):∀ n,(iG r o n).length=r.length
 | 0=>rfl
 | n+1=>by unfold iG;rw[List.length_set,mU r o n]
theorem vb {r:List Int} {o:Nat} : ∀ {n:Nat} {v:Int},v∈iG r o n→v∈r∨v=0
 | 0,v,h=>.inl h
 | n+1,v,h=>by
  rcases List.mem_or_eq_of_mem_set h with h|h
  ·exact vb h
  ·exact .inr h
theorem Fw {k:ao} (h:bf k=true) (a:Int) (n:Nat):bf (eo k a n)=true:=by
 obtain⟨h1,h2,h3,h4,h5⟩:=bG.1 h
 obtain⟨g1,g2,g3,g4⟩:=d8.1 h2
 refine bG.2 ⟨h1,d8.2 ⟨?_,?_,?_,fun j hj=>?_⟩,h3,h4,h5⟩
 ·simp only[eo,List.length_set];exact g1
 ·simp only[eo,List.length_set];exact g2
 ·simp only[eo,List.length_set];exact g3
 ·simp only[eo,List.length_set]at hj ⊢
  simp only[iI]
  split
  ·rename_i e
   have h6:=g4 j hj
   unfold j9 at h6 ⊢
   simp only[Bool.and_eq_true,decide_eq_true_eq,List.all_eq_true]at h6 ⊢
   rw[e.1]at *
   refine⟨by rw[mU];exact h6.1,fun v hv=>?_⟩
   rcases vb hv with hv|rfl
   ·exact h6.2 v hv
   ·unfold ji;simp
  ·exact g4 j hj
def tf (h:ac) (a:Int):Nat:=(h.Larges.findIdx? fun l=>decide (l.Page*16=a)).getD 0
def freeL (h:ac) (i k:Nat):ac:={h with Kernel:=gd h.Kernel (nth h.Larges k).Page (nth h.Larges k).Pages.toNat,Larges:=dele h.Larges k,Free:=(bX (eP h) h.Free ⟨(nth h.Larges k).Page,(nth h.Larges k).Pages⟩).getD h.Free,Objs:=dele h.Objs i}
def fQ (h:ac) (o:aM):ax:=⟨o.Addr,bk o.Size,h.Clock⟩
def inQuar (h:ac) (i:Nat):ac:={h with Kernel:=eo h.Kernel (nth h.Objs i).Addr (csz (bk (nth h.Objs i).Size)).toNat,Objs:=dele h.Objs i,Quar:=DV h.Quar (fQ h (nth h.Objs i))}
def F4 (h:ac) (t i:Nat):ac:=recycs t (inQuar h i) ((pc h.Quar (fQ h (nth h.Objs i))).map (·.Addr))
def freeOb (h:ac) (t i:Nat):ac × Int:=
 if bk (nth h.Objs i).Size<0 then(freeL h i (tf h (nth h.Objs i).Addr),0)
 else if(aF (tbl h) ((nth h.Objs i).Addr / 16)).Mode=1 then(h,5)
 else(F4 h t i,0)
theorem xx {h:ac} {l:ah} (hl:l∈h.Larges) {a:Int} (e:a=16*l.Page):tf h a<h.Larges.length∧a=16*(nth h.Larges (tf h a)).Page∧(∀ j,j<tf h a→(nth h.Larges j).Page*16≠a)∧h.Larges.findIdx? (fun l=>decide (l.Page*16=a))=some (tf h a):=by
 cases h1:h.Larges.findIdx? fun l=>decide (l.Page*16=a) with
 | none=>
  have:=List.findIdx?_eq_none_iff.1 h1 l hl
  rw[decide_eq_false_iff_not]at this
  omega
 | some k=>
  obtain⟨hk,hp,hb⟩:=List.findIdx?_eq_some_iff_getElem.1 h1
  have hx:tf h a=k:=by unfold tf;rw[h1];rfl
  rw[hx]
  rw[←bE (List.getElem?_eq_getElem hk),decide_eq_true_eq]at hp
  refine⟨hk,by omega,fun j hj=>?_,rfl⟩
  have:=hb j hj
  rw[←bE (List.getElem?_eq_getElem (show j<h.Larges.length by omega))]at this
  simpa using this
theorem ee {h:ac} {E:List Int} (hi:ef h E) {o:aM} (ho:o∈h.Objs):(bk o.Size<0→JC h.Larges o.Addr o.Size)∧(¬bk o.Size<0→(∃ s∈h.Spans,gg s o.Addr∧s.Class=bk o.Size)∧bk o.Size≤3):=by
 rcases hi.oow o ho with⟨s,hs,h1,h2⟩|⟨l,hl,h1,h2⟩
 ·have hc:=aU (hi.L.sok s hs)
  exact⟨fun e=>by omega,fun _=>⟨⟨s,hs,h1,h2⟩,by omega⟩⟩
 ·have hf:=dS (hi.L.lok l hl)
  refine⟨fun _=>⟨l,hl,h1,h2⟩,fun e=>absurd ?_ e⟩
  unfold bk
  rw[if_neg (by omega),if_neg (by omega),if_neg (by omega),if_neg (by omega),if_neg (by omega)]
  decide
theorem ef.inQuar {h:ac} {i:Nat} (hi:ef h []) (li:i<h.Objs.length) (hc:¬bk (nth h.Objs i).Size<0):ef (inQuar h i) ((pc h.Quar (fQ h (nth h.Objs i))).map (·.Addr)):=by
 obtain⟨⟨s,hs,h1,h2⟩,h3⟩:=(ee hi (ay li)).2 hc
 have hSl:pC h.Spans (nth h.Objs i).Addr (bk (nth h.Objs i).Size):=⟨s,hs,h1,.inr h2⟩
 have hn:=hi.nums
 unfold eV at hn
 rw[decide_eq_true_eq]at hn
 have hsc:=aU (hi.L.sok s hs)
 have g1:=hi.dropO li hSl.any
 have g2:=g1.cells (k:=eo h.Kernel (nth h.Objs i).Addr (csz (bk (nth h.Objs i).Size)).toNat) (Fw hi.ker _ _) rfl
 have hnq:∀ y∈h.Quar.Lst,y.Addr≠(nth h.Objs i).Addr:=fun y hy e=>by
  have hnd:=g1.nd
  rw[List.cons_append,List.nil_append]at hnd
  refine(List.nodup_cons.1 hnd).1 ?_
  rw[←e]
  unfold holders
  simp only[List.mem_append]
  exact .inl (.inr (List.mem_map.2 ⟨y,hy,rfl⟩))
 have g3:=ef.toQuar (x:=fQ h (nth h.Objs i)) (q:=DV h.Quar (fQ h (nth h.Objs i))) (out:=pc h.Quar (fQ h (nth h.Objs i))) g2 (Hk hi.quar ⟨by show 0≤bk _;omega,h3,by show 0≤(nth h.Objs i).Addr;have:=h1.1;omega,hn.2.2.1⟩ (fun y hy=>hi.snc y hy) hnq) (by unfold pc DV;simp only[List.take_append_drop]) (Int.le_refl _) hSl
 rw[List.append_nil]at g3
 exact g3
theorem ef.freeOb {h:ac} {t i:Nat} (hi:ef h []) (li:i<h.Objs.length) (ht:t<h.Caches.length):ef (freeOb h t i).1 []:=by
 unfold Ab.freeOb
 split
 ·rename_i hc
  obtain⟨l,hl,h1,-⟩:=(ee hi (ay li)).1 hc
  obtain⟨k1,k2,-⟩:=xx hl h1
  obtain⟨o,o1,o2⟩:=hi.dropL li k1 k2
  unfold Ab.freeL
  rw[o1]
  exact o2
 ·rename_i hc
  split
  ·exact hi
  ·have h1:=hi.inQuar li hc
   refine ef.recycs (E:=[]) ?_ ht
   rw[List.append_nil];exact h1
end Go.Proofs.YtogajjgmcnjkbaaGreat.Ab
namespace Go.Proofs.YtogajjgmcnjkbaaGreat.Ab
theorem BX:∀ {H L:List Int},H.Nodup→(∀ x∈H,x∈L)→H.length≤L.length
 | [],L,_,_=>Nat.zero_le _
 | y::H,L,hn,hs=>by
  have hy:y∈L:=hs y (List.mem_cons_self ..)
  have hn2:=List.nodup_cons.1 hn
  have:=BX (L:=L.erase y) hn2.2 fun z hz=>(List.mem_erase_of_ne (fun e:z=y=>hn2.1 (by rw[←e];exact hz))).2 (hs z (List.mem_cons_of_mem _ hz))
  rw[List.length_erase_of_mem hy]at this
  have h1:=List.length_pos_of_mem hy
  simp only[List.length_cons]
  omega
theorem tt {H:List Int} {n:Nat} (hn:H.Nodup) (hb:∀ x∈H,0≤x∧x<n):H.length≤n:=by
 have:=BX (L:=(List.range n).map fun(i:Nat)=>(i:Int)) hn fun x hx=>List.mem_map.2 ⟨x.toNat,List.mem_range.2 (by have:=hb x hx;omega),by have:=hb x hx;omega⟩
 simpa using this
theorem kF {α:Type} {f:α→Int} {xs:List α} (h:xs.Pairwise fun a b=>f a<f b):(xs.map f).Nodup:=by
 unfold List.Nodup
 rw[List.pairwise_map]
 exact h.imp fun h e=>by omega
theorem Gj:∀ (ls:List (List Int)) (k:Nat) (s:List Int),(jJ k s ls).isSome=true→∀ l∈ls,l.length≤8
 | [],_,_,_,l,hl=>by cases hl
 | x::ls,k,s,h,l,hl=>by
  simp only[jJ]at h
  cases e:fP k s x with
  | none=>rw[e]at h;cases h
  | some s'=>
   rw[e]at h
   rcases List.mem_cons.1 hl with rfl|hl
   ·unfold fP at e
    split at e
    ·rename_i c;exact c.1
    ·cases e
   ·exact Gj ls (k+1) s' h l hl
theorem iX {c:ar} (h:bw c=true):c.Lists.length=4∧∀ l∈c.Lists,l.length≤8:=by
 have h':=h
 unfold bw at h
 simp only[Bool.and_eq_true,decide_eq_true_eq]at h
 exact⟨h.1,Gj _ _ _ h.2⟩
structure Ff (h:ac):Prop where
 cells:h.Kernel.Machine.Frames.Cells.length≤32
 row:∀ r∈h.Kernel.Machine.Frames.Cells,r.length=16
 used:h.Kernel.Machine.Frames.Used.length≤32
 ents:h.Kernel.Machine.Table.Entries.length≤32
 ref:h.Kernel.Refuse.length≤40
 free:h.Free.length≤32
 spans:h.Spans.length≤32
 larges:h.Larges.length≤32
 objs:h.Objs.length≤512
 caches:h.Caches.length≤4
 lists:∀ c∈h.Caches,c.Lists.length=4∧∀ l∈c.Lists,l.length≤8
 quar:h.Quar.Lst.length≤512
theorem pC.bd {h:ac} {E:List Int} (hi:ef h E) {a c:Int} (hs:pC h.Spans a c):0≤a∧a<512:=by
 obtain⟨s,hm,⟨h1,h2,-⟩,-⟩:=hs
 have hc:=aU (hi.L.sok s hm)
 omega
theorem ef.lens {h:ac} {E:List Int} (hi:ef h E):Ff h:=by
 obtain⟨h1,h2,h3,h4,h5,h6,h7⟩:=bG.1 hi.ker
 obtain⟨g1,g2,g3,g4⟩:=d8.1 h2
 obtain⟨t1,t2,t3⟩:=eb.1 h3
 obtain⟨r1,r2,r3⟩:=lx.1 hi.rng
 obtain⟨q1,q2,q3,q4⟩:=mi.1 hi.quar
 have hm:=hi.mail
 unfold dC at hm
 simp only[Bool.and_eq_true,decide_eq_true_eq]at hm
 have hnc:=hi.nc
 refine⟨g2,fun r hr=>?_,by omega,t3,h7,?_,?_,?_,?_,by omega,fun c hc=>iX (hi.cach c hc),?_⟩
 ·obtain⟨j,hj,rfl⟩:=bH hr
  have:=g4 j hj
  unfold j9 at this
  simp only[Bool.and_eq_true,decide_eq_true_eq]at this
  exact this.1
 ·have:=tt (H:=h.Free.map (·.At)) (n:=32) (kF (r1.1.imp_of_mem fun {a b} ha hb h=>by have:=r1.2 a ha;omega)) fun x hx=>by
   obtain⟨r,hr,rfl⟩:=List.mem_map.1 hx
   have:=r2 r hr
   omega
  simpa using this
 ·have:=tt (H:=h.Spans.map (·.Page)) (n:=32) hi.L.nd fun x hx=>by
   obtain⟨s,hs,rfl⟩:=List.mem_map.1 hx
   have:=aU (hi.L.sok s hs)
   omega
  simpa using this
 ·have:=tt (H:=h.Larges.map (·.Page)) (n:=32) (kF hi.srl) fun x hx=>by
   obtain⟨l,hl,rfl⟩:=List.mem_map.1 hx
   have:=bn (hi.L.lok l hl)
   omega
  simpa using this
 ·have:=tt (H:=h.Objs.map (·.Addr)) (n:=512) (kF hi.osr) fun x hx=>by
   obtain⟨o,ho,rfl⟩:=List.mem_map.1 hx
   rcases hi.oow o ho with⟨s,hs,⟨k1,k2,-⟩,-⟩|⟨l,hl,e,-⟩
   ·have:=aU (hi.L.sok s hs);omega
   ·have:=bn (hi.L.lok l hl);omega
  simpa using this
 ·have:=tt (H:=h.Quar.Lst.map (·.Addr)) (n:=512) q3 fun x hx=>by
   obtain⟨y,hy,rfl⟩:=List.mem_map.1 hx
   exact(hi.hqu y hy).bd hi
  simpa using this
theorem Ff.sml {h:ac} (hl:Ff h) (hk:bf h.Kernel=true) (hm:aG.sml h.Mail) (hj:bq.sml h.Job):ac.sml h:=
 ⟨fp hk,⟨by have:=hl.free;omega,fun _ _=>trivial⟩,⟨by have:=hl.spans;omega,fun _ _=>trivial⟩,⟨by have:=hl.larges;omega,fun _ _=>trivial⟩,⟨by have:=hl.objs;omega,fun _ _=>trivial⟩,⟨by have:=hl.caches;omega,fun c hc=>⟨by have:=(hl.lists c hc).1;omega,fun l h1=>by have:=(hl.lists c hc).2 l h1;show l.length≤1048576;omega⟩⟩,hm,⟨by have:=hl.quar;omega,fun _ _=>trivial⟩,hj⟩
theorem Jh:∀ (x:List al),bz x=2*x.length
 | []=>rfl
 | x::xs=>by simp only[bz,Jh xs,List.length_cons,al.cnt];omega
theorem Je:∀ (x:List am),bB x=3*x.length
 | []=>rfl
 | x::xs=>by simp only[bB,Je xs,List.length_cons,am.cnt];omega
theorem Jj:∀ (x:List ah),bx x=3*x.length
 | []=>rfl
 | x::xs=>by simp only[bx,Jj xs,List.length_cons,ah.cnt];omega
theorem Jc:∀ (x:List aM),cB x=4*x.length
 | []=>rfl
 | x::xs=>by simp only[cB,Jc xs,List.length_cons,aM.cnt];omega
theorem Jq:∀ (x:List ax),cG x=3*x.length
 | []=>rfl
 | x::xs=>by simp only[cG,Jq xs,List.length_cons,ax.cnt];omega
theorem Jp:∀ (x:List aE),cJ x=2*x.length
 | []=>rfl
 | x::xs=>by simp only[cJ,Jp xs,List.length_cons,aE.cnt];omega
theorem H8 {m:Nat} : ∀ (x:List (List Int)),(∀ y∈x,y.length≤m)→cW x≤m*x.length
 | [],_=>Nat.zero_le _
 | x::xs,h=>by
  have h1:=H8 xs fun y hy=>h y (List.mem_cons_of_mem _ hy)
  have h2:=h x (List.mem_cons_self ..)
  simp only[cW,d9,List.length_cons,Nat.mul_add,Nat.mul_one];omega
theorem Jk:∀ (x:List ar),(∀ c∈x,c.Lists.length=4∧∀ l∈c.Lists,l.length≤8)→bK x≤32*x.length
 | [],_=>Nat.zero_le _
 | c::xs,h=>by
  have h1:=Jk xs fun y hy=>h y (List.mem_cons_of_mem _ hy)
  obtain⟨h2,h3⟩:=h c (List.mem_cons_self ..)
  have h4:=H8 c.Lists h3
  simp only[bK,ar.cnt,List.length_cons];omega
theorem Ff.cnt {h:ac} (hl:Ff h):ac.cnt h≤6000+aG.cnt h.Mail+bq.cnt h.Job:=by
 have h1:=H8 (m:=16) h.Kernel.Machine.Frames.Cells fun r hr=>by rw[hl.row r hr];exact Nat.le_refl _
 have h2:=Jk h.Caches hl.lists
 obtain⟨l1,l2,l3,l4,l5,l6,l7,l8,l9,l10,l11,l12⟩:=hl
 unfold ac.cnt ao.cnt aA.cnt aC.cnt aB.cnt aK.cnt eB d9
 rw[Jh,Je,Jj,Jc,Jq,Jp]
 omega
def gf (a:Int) (o:aM):Bool:=decide (o.Addr=a)
def fT (h:ac) (a:Int):Nat:=(eO (gf a) h.Objs).toNat
theorem ef.objAt {h:ac} {E:List Int} (hi:ef h E) {o:aM} (ho:o∈h.Objs):fT h o.Addr<h.Objs.length∧nth h.Objs (fT h o.Addr)=o∧eO (gf o.Addr) h.Objs=(fT h o.Addr:Nat):=by
 obtain⟨i,li,rfl⟩:=bH ho
 have hx:eO (gf (nth h.Objs i).Addr) h.Objs=(i:Nat):=fj (au li) (by unfold gf;simp) fun j z hj hz=>by
  have hzj:=bE hz
  have hjl:=(List.getElem?_eq_some_iff.1 hz).1
  subst hzj
  unfold gf
  refine decide_eq_false fun e=>?_
  have:=kY (f:=(·.Addr)) (kF hi.osr) hjl li e
  omega
 have hy:fT h (nth h.Objs i).Addr=i:=by unfold fT;rw[hx];rfl
 rw[hy]
 exact⟨li,rfl,hx⟩
def aL (h:ac) (t:Nat):Nat→ac × Int
 | 0=>(h,0)
 | n+1=>if(nth h.Objs n).Thread=t then
   ((freeOb (aL h t n).1 t (fT (aL h t n).1 (nth h.Objs n).Addr)).1,if(freeOb (aL h t n).1 t (fT (aL h t n).1 (nth h.Objs n).Addr)).2=0 then(aL h t n).2+1 else(aL h t n).2)
  else aL h t n
theorem uV (k:ao) (p:Int) (n:Nat):(gd k p n).Calls=k.Calls∧(gd k p n).Refuse=k.Refuse:=(k6 k p n).2
theorem yo (h:ac) (t i:Nat):((freeOb h t i).1.Objs=h.Objs∨(freeOb h t i).1.Objs=dele h.Objs i)∧(freeOb h t i).1.Caches.length=h.Caches.length∧(freeOb h t i).1.Kernel.Calls=h.Kernel.Calls∧(freeOb h t i).1.Mail=h.Mail∧(freeOb h t i).1.Job=h.Job:=by
 unfold freeOb
 split
 ·exact⟨.inr rfl,rfl,(uV _ _ _).1,rfl,rfl⟩
 ·split
  ·exact⟨.inl rfl,rfl,rfl,rfl,rfl⟩
  ·obtain⟨h1,h2,h3,h4,h5,-⟩:=gO t ((pc h.Quar (fQ h (nth h.Objs i))).map (·.Addr)) (inQuar h i)
   exact⟨.inr h2,h1,h3,h4,h5⟩
structure FA (h:ac) (t n:Nat):Prop where
 inv:ef (aL h t n).1 []
 nc:(aL h t n).1.Caches.length=h.Caches.length
 calls:(aL h t n).1.Kernel.Calls=h.Kernel.Calls
 mail:(aL h t n).1.Mail=h.Mail
 job:(aL h t n).1.Job=h.Job
 left:∀ j,n≤j→j<h.Objs.length→nth h.Objs j∈(aL h t n).1.Objs
 num:0≤(aL h t n).2∧(aL h t n).2≤n
theorem FA.of {h:ac} (hi:ef h []) {t:Nat} (ht:t<h.Caches.length):∀ n,n≤h.Objs.length→FA h t n
 | 0,_=>⟨hi,rfl,rfl,rfl,rfl,fun j _ hj=>ay hj,Int.le_refl _,Int.le_refl _⟩
 | n+1,hn=>by
  obtain⟨f1,f2,f3,f4,f5,f6,f7,f8⟩:=FA.of hi ht n (by omega)
  by_cases e:(nth h.Objs n).Thread=t
  ·have hd:aL h t (n+1)=((freeOb (aL h t n).1 t (fT (aL h t n).1 (nth h.Objs n).Addr)).1,if(freeOb (aL h t n).1 t (fT (aL h t n).1 (nth h.Objs n).Addr)).2=0 then(aL h t n).2+1 else(aL h t n).2):=by rw[aL,if_pos e]
   obtain⟨o1,o2,o3⟩:=f1.objAt (f6 n (Nat.le_refl _) (by omega))
   obtain⟨s1,s2,s3,s4,s5⟩:=yo (aL h t n).1 t (fT (aL h t n).1 (nth h.Objs n).Addr)
   have g1:=f1.freeOb o1 (by rw[f2];exact ht)
   constructor<;>rw[hd]
   ·exact g1
   ·exact s2.trans f2
   ·exact s3.trans f3
   ·exact s4.trans f4
   ·exact s5.trans f5
   ·intro j hj hjl
    have h1:=f6 j (by omega) hjl
    simp only
    rcases s1 with s1|s1
    ·rw[s1];exact h1
    ·rw[s1]
     obtain⟨m,hm,e2⟩:=bH h1
     refine ew.2 ⟨m,hm,fun e3=>?_,e2⟩
     rw[e3,o2]at e2
     have:=kY (f:=(·.Addr)) (kF hi.osr) (by omega) hjl (congrArg (·.Addr) e2)
     omega
   ·simp only;split<;>omega
  ·have hd:aL h t (n+1)=aL h t n:=by rw[aL,if_neg e]
   constructor<;>rw[hd]
   ·exact f1
   ·exact f2
   ·exact f3
   ·exact f4
   ·exact f5
   ·exact fun j hj hjl=>f6 j (by omega) hjl
   ·omega
def fe (h:ac) (t:Int):Bool:=dY h&&(decide (0≤t∧t≤h.Caches.length - 1)&&decide (h.Kernel.Calls≠100000))
def gy (h:ac) (t:Int):ac × Int:=if fe h t=true then aL h t.toNat h.Objs.length else(h,0)
end Go.Proofs.YtogajjgmcnjkbaaGreat.Ab
