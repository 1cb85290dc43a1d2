/- A step of a job leaves a heap whole. No condition. -/
import Derived.Test.YtplcalfnngkffaaGreatMg
import Derived.Test.YtplcalfnngkffaaGreatMl
import Derived.Test.YtplcalfnngkffaaGreatMj
import Derived.Test.YtplcalfnngkffaaGreatMk
set_option linter.unusedVariables false

namespace Go.Proofs.YtplcalfnngkffaaGreat.Ab
def Ex (t:aB) (p:Int):Prop:=∀ q:Nat,(nth t.Entries q).Mode≠0→(nth t.Entries q).Frame=(nth t.Entries p.toNat).Frame→(q:Int)=p
structure JI (h:ac):Prop where
 ph:h.Meshing=true→0≤h.Job.Phase∧h.Job.Phase≤3
 sp:h.Meshing=true→∃ a∈h.Spans,∃ b∈h.Spans,a.Page=h.Job.Plan.Keep∧b.Page=h.Job.Plan.Move∧meshable a b=true
 sk:h.Meshing=true→Ex (tbl h) h.Job.Plan.Keep
 sm:h.Meshing=true→Ex (tbl h) h.Job.Plan.Move
theorem Ex.tEq {t t':aB} {p:Int} (h:Ex t p) (he:tEq t t'):Ex t' p:=fun q h1 h2=>by
 obtain⟨e1,e2⟩:=he.2 q
 exact h q (e1.1 h1) (by rw[←e2,←(he.2 p.toNat).2];exact h2)
theorem Pg.tEq {t t':aB} {fr:List ar} {sp:List am} {la:List au} (h:Pg t fr sp la) (he:tEq t t'):Pg t' fr sp la where
 one l hl p hp q hq h1 h2:=h.one l hl p hp q (by rw[←he.1];exact hq) ((he.2 q).1.1 h1) (by rw[←(he.2 q).2,←(he.2 p).2];exact h2)
 bnd p hp:=by rw[he.1];exact h.bnd p hp
 own p hp:=(he.2 p).1.trans (h.own p (by rw[←he.1];exact hp))
 fre p hp:=(he.2 p).1.trans (h.fre p (by rw[←he.1];exact hp))
 mesh s hs u hu hne hf:=h.mesh s hs u hu hne (by rw[←(he.2 _).2,←(he.2 u.Page.toNat).2];exact hf)
theorem df.step {h:ac} {E:List Int} (hi:df h E) {k:af} (hk:aH k=true) (hl:k.Machine.Table.Entries.length=(tbl h).Entries.length) (hg:Pg k.Machine.Table h.Free h.Spans h.Larges) {j:aZ} {m:Bool}
  (h1:m=true→jb j=true∧(∃ s∈h.Spans,s.Page=j.Plan.Keep)∧∃ s∈h.Spans,s.Page=j.Plan.Move) (h2:m=false→q7 j=true):df {h with Kernel:=k,Meshing:=m,Job:=j} E:=
 {hi with
   ker:=hk
   rng:=by show bC ((k.Machine.Table.Entries.length:Nat):Int) h.Free=true;rw[hl];exact hi.rng
   pg:=hg
   job:=h1
   noj:=h2}
theorem rM.apart {sp:List am} {la:List au} (hL:rM sp la) {s:am} (hs:s∈sp) {l:au} (hl:l∈la) {p:Int} (hp:p∈lpgs l l.Pages.toNat):s.Page≠p:=by
 unfold lpgs at hp
 simp only[List.mem_map,List.mem_range]at hp
 obtain⟨k,hk,rfl⟩:=hp
 exact hL.dis s hs l hl k hk
theorem Pg.on {t t':aB} {fr:List ar} {sp:List am} {la:List au} (hg:Pg t fr sp la) (hL:rM sp la) {a b:am} (ha:a∈sp) (hb:b∈sp) (hm:meshable a b=true) (hsa:Ex t a.Page)
  (hma:(nth t.Entries a.Page.toNat).Mode≠0) (hmb:(nth t.Entries b.Page.toNat).Mode≠0) (hb0:0≤b.Page) (hl:t'.Entries.length=t.Entries.length)
  (he:∀ q:Nat,nth t'.Entries q=if(q:Int)=b.Page then⟨2,(nth t.Entries a.Page.toNat).Frame⟩ else nth t.Entries q):Pg t' fr sp la:=by
 have hmode:∀ q:Nat,(nth t'.Entries q).Mode≠0↔(nth t.Entries q).Mode≠0:=fun q=>by
  rw[he]
  split
  ·rename_i e
   rw[show q=b.Page.toNat by omega]
   exact⟨fun _=>hmb,fun _=>by show(2:Int)≠0;omega⟩
  ·rfl
 have ha0:0≤a.Page:=by have:=hL.sok a ha;unfold bq at this;rw[decide_eq_true_eq]at this;omega
 refine⟨fun l hl' p hp q hq h1 h2=>?_,fun p hp=>by rw[hl];exact hg.bnd p hp,fun p hp=>(hmode p).trans (hg.own p (by rw[←hl];exact hp)),fun p hp=>(hmode p).trans (hg.fre p (by rw[←hl];exact hp)),fun s hs u hu hne hf=>?_⟩
 ·have hpb:¬(p:Int)=b.Page:=fun e=>hL.apart hb hl' hp e.symm
  rw[he p,if_neg hpb,he q]at h2
  rw[hmode]at h1
  by_cases e:(q:Int)=b.Page
  ·rw[if_pos e]at h2
   have h3:=hg.one l hl' p hp a.Page.toNat (by have:=hg.bnd _ (iQ (la:=la) ha);omega) hma h2
   exact absurd (show a.Page=(p:Int) by omega) (hL.apart ha hl' hp)
  ·rw[if_neg e]at h2
   exact hg.one l hl' p hp q (by rw[←hl];exact hq) h1 h2
 ·have hs0:0≤s.Page:=by have:=hL.sok s hs;unfold bq at this;rw[decide_eq_true_eq]at this;omega
  have hu0:0≤u.Page:=by have:=hL.sok u hu;unfold bq at this;rw[decide_eq_true_eq]at this;omega
  have hinj:∀ x∈sp,∀ y∈sp,x.Page=y.Page→x=y:=fun x hx y hy e=>by
   obtain⟨i,hi,rfl⟩:=bz hx
   obtain⟨j,hj,rfl⟩:=bz hy
   rw[lf (f:=(·.Page)) hL.nd hi hj e]
  have hmap:∀ x∈sp,(nth t.Entries x.Page.toNat).Mode≠0:=fun x hx=>by
   have hx0:0≤x.Page:=by have:=hL.sok x hx;unfold bq at this;rw[decide_eq_true_eq]at this;omega
   refine(hg.own x.Page.toNat (by have:=hg.bnd _ (iQ (la:=la) hx);omega)).2 ?_
   rw[show((x.Page.toNat:Nat):Int)=x.Page by omega]
   exact iQ hx
  rw[he,he]at hf
  simp only[show((s.Page.toNat:Nat):Int)=s.Page by omega,show((u.Page.toNat:Nat):Int)=u.Page by omega]at hf
  by_cases es:s.Page=b.Page
  ·rw[if_pos es,if_neg (fun e=>hne (es.trans e.symm))]at hf
   have h3:=hsa u.Page.toNat (hmap u hu) hf.symm
   rw[hinj s hs b hb es,hinj u hu a ha (by omega),oH]
   exact hm
  ·rw[if_neg es]at hf
   by_cases eu:u.Page=b.Page
   ·rw[if_pos eu]at hf
    have h3:=hsa s.Page.toNat (hmap s hs) hf
    rw[hinj u hu b hb eu,hinj s hs a ha (by omega)]
    exact hm
   ·rw[if_neg eu]at hf
    exact hg.mesh s hs u hu hne hf
def over (j:aZ):Bool:=decide (j.Phase=4∨j.Phase=5)
def fk (k:af) (j:aZ):af × aZ:=if jmay k j=true then jstep k j else(k,j)
def mStep (h:ac):ac:={h with Kernel:=(fk h.Kernel h.Job).1,Meshing:=if over (fk h.Kernel h.Job).2=true then false else h.Meshing,Job:=if over (fk h.Kernel h.Job).2=true then⟨⟨0,0,[]⟩,0,0⟩ else(fk h.Kernel h.Job).2}
def ni (h:ac):Bool:=decide ((fk h.Kernel h.Job).2.Phase=4)
theorem eG {j:aZ} : jb j=true↔eR j.Plan=true∧0≤j.Phase∧j.Phase≤5∧0≤j.Next∧j.Next≤j.Plan.Cells.length:=by
 unfold jb;simp only[Bool.and_eq_true,decide_eq_true_eq]
theorem iF {p:aN} (h:eR p=true) {i:Nat} (hi:i<p.Cells.length):0≤nth p.Cells i∧nth p.Cells i≤15:=by
 unfold eR at h
 simp only[Bool.and_eq_true]at h
 have:=en h.1 hi
 unfold mH at this
 rw[decide_eq_true_eq]at this
 exact⟨this.1,this.2.1⟩
structure JS (h:ac) (k:af) (j:aZ):Prop where
 ker:aH k=true
 len:k.Machine.Table.Entries.length=(tbl h).Entries.length
 pg:j.Phase≠4∨JI h→Pg k.Machine.Table h.Free h.Spans h.Larges
 ph:0≤j.Phase∧j.Phase≤5
 plan:j.Plan=h.Job.Plan
 nxt:0≤j.Next∧j.Next≤j.Plan.Cells.length
 eq:j.Phase≠4→tEq (tbl h) k.Machine.Table
 calls:h.Kernel.Calls≤k.Calls∧k.Calls≤h.Kernel.Calls+1∧k.Refuse=h.Kernel.Refuse
theorem uD (k:af) (p m:Int):(ia k p m).1.Calls=k.Calls+1∧(ia k p m).1.Refuse=k.Refuse:=by
 unfold ia;split<;>exact⟨rfl,rfl⟩
theorem Ll (k:af) (p o:Int):(wZ k p o).1.Calls=k.Calls+1∧(wZ k p o).1.Refuse=k.Refuse:=by
 unfold wZ
 split
 ·exact⟨rfl,rfl⟩
 ·obtain⟨-,h1,h2,-⟩:=oZ (uc (eK k) p.toNat ⟨2,(nth k.Machine.Table.Entries o.toNat).Frame⟩) (nth k.Machine.Table.Entries p.toNat).Frame
  simp only[h1,h2];exact⟨rfl,rfl⟩
theorem JS.of {h:ac} {E:List Int} (hi:df h E) (hm:h.Meshing=true):JS h (fk h.Kernel h.Job).1 (fk h.Kernel h.Job).2:=by
 obtain⟨j1,-,-⟩:=hi.job hm
 obtain⟨j2,j3,j4,j5,j6⟩:=eG.1 j1
 unfold fk
 split
 case isFalse=>exact⟨hi.ker,rfl,fun _=>hi.pg,⟨j3,j4⟩,rfl,⟨j5,j6⟩,fun _=>tEq.refl _,Int.le_refl _,by show h.Kernel.Calls≤h.Kernel.Calls+1;omega,rfl⟩
 rename_i hmay
 unfold jmay at hmay
 simp only[Bool.and_eq_true,decide_eq_true_eq]at hmay
 obtain⟨⟨-,hc⟩,-,hk,hv,hne⟩:=hmay
 have fin:∀ (k:af) (j:aZ),aH k=true→tEq (tbl h) k.Machine.Table→0≤j.Phase∧j.Phase≤5→j.Plan=h.Job.Plan→0≤j.Next∧j.Next≤j.Plan.Cells.length→h.Kernel.Calls≤k.Calls∧k.Calls≤h.Kernel.Calls+1∧k.Refuse=h.Kernel.Refuse→JS h k j:=
  fun k j h1 h2 h3 h4 h5 h6=>⟨h1,h2.1,fun _=>hi.pg.tEq h2,h3,h4,h5,fun _=>h2,h6⟩
 have hcal:=(aJ.1 hi.ker).2.2.2.2
 unfold jstep
 split
 ·obtain⟨q1,q2⟩:=DR hi.ker hc hv (m:=1) (.inl rfl)
  obtain⟨q3,q4⟩:=uD h.Kernel h.Job.Plan.Move 1
  refine fin _ _ q1 q2 ?_ rfl ⟨j5,j6⟩ ⟨by rw[q3];omega,by rw[q3];omega,q4⟩
  show 0≤(if _ then _ else _:Int)∧(if _ then _ else _:Int)≤5
  split<;>omega
 split
 ·split
  ·exact fin _ _ hi.ker (tEq.refl _) ⟨by show(0:Int)≤2;omega,by show(2:Int)≤5;omega⟩ rfl ⟨j5,j6⟩ ⟨Int.le_refl _,by show h.Kernel.Calls≤h.Kernel.Calls+1;omega,rfl⟩
  ·have hc15:=iF j2 (i:=h.Job.Next.toNat) (by omega)
   refine fin _ _ (Kp hi.ker hv hk hc15) (tEq.refl _) ⟨j3,j4⟩ rfl ⟨by show 0≤h.Job.Next+1;omega,by show h.Job.Next+1≤h.Job.Plan.Cells.length;omega⟩ ⟨Int.le_refl _,by show h.Kernel.Calls≤h.Kernel.Calls+1;omega,rfl⟩
 split
 ·have hpo:h.Job.Plan.Move≠h.Job.Plan.Keep:=fun e=>hne (by rw[e])
  have q1:=MX hi.ker hc hv hk hpo
  obtain⟨q3,q4⟩:=Ll h.Kernel h.Job.Plan.Move h.Job.Plan.Keep
  cases e:(wZ h.Kernel h.Job.Plan.Move h.Job.Plan.Keep).2 with
  | false=>
   rw[if_neg (by simp)]
   refine fin _ _ q1 (tEq.of ?_) ⟨by show(0:Int)≤3;omega,by show(3:Int)≤5;omega⟩ rfl ⟨j5,j6⟩ ⟨by rw[q3];omega,by rw[q3];omega,q4⟩
   rw[MT e];rfl
  | true=>
   rw[if_pos rfl]
   obtain⟨m1,m2,m3,-⟩:=bM hi.ker hv
   obtain⟨n1,n2,n3,-⟩:=bM hi.ker hk
   have hent:=Mq hi.ker hv e
   refine⟨q1,(hent 0).1,fun hor=>?_,⟨by show(0:Int)≤4;omega,by show(4:Int)≤5;omega⟩,rfl,⟨j5,j6⟩,fun hn=>absurd rfl hn,by rw[q3];omega,by rw[q3];omega,q4⟩
   have hj:JI h:=hor.elim (fun hn=>absurd rfl hn) id
   obtain⟨a,ha,b,hb,ea,eb,hab⟩:=hj.sp hm
   refine hi.pg.on hi.L ha hb hab (by rw[ea];exact hj.sk hm) (by rw[ea];show(nth h.Kernel.Machine.Table.Entries _).Mode≠0;rw[←n3];exact hk) (by rw[eb];show(nth h.Kernel.Machine.Table.Entries _).Mode≠0;rw[←m3];exact hv) (by rw[eb];exact m1) (hent 0).1 fun q=>?_
   rw[(hent q).2,eb,ea];rfl
 split
 ·split
  ·rename_i hn0
   have hc15:=iF j2 (i:=(h.Job.Next - 1).toNat) (by omega)
   have hk0:=(bM hi.ker hk).1
   obtain⟨q1,q2⟩:=HR hi.ker (a:=h.Job.Plan.Keep*16+nth h.Job.Plan.Cells (h.Job.Next - 1).toNat) (v:=0) (by omega) ⟨by omega,by omega⟩
   exact fin _ _ q1 (tEq.of q2) ⟨j3,j4⟩ rfl ⟨by show 0≤h.Job.Next - 1;omega,by show h.Job.Next - 1≤h.Job.Plan.Cells.length;omega⟩ ⟨Int.le_refl _,by show h.Kernel.Calls≤h.Kernel.Calls+1;omega,rfl⟩
  ·obtain⟨q1,q2⟩:=DR hi.ker hc hv (m:=2) (.inr rfl)
   obtain⟨q3,q4⟩:=uD h.Kernel h.Job.Plan.Move 2
   refine fin _ _ q1 q2 ?_ rfl ⟨j5,j6⟩ ⟨by rw[q3];omega,by rw[q3];omega,q4⟩
   show 0≤(if _ then _ else _:Int)∧(if _ then _ else _:Int)≤5
   split<;>omega
 ·exact fin _ _ hi.ker (tEq.refl _) ⟨j3,j4⟩ rfl ⟨j5,j6⟩ ⟨Int.le_refl _,by show h.Kernel.Calls≤h.Kernel.Calls+1;omega,rfl⟩
theorem df.mStep {h:ac} {E:List Int} (hi:df h E) (hj:JI h) (hm:h.Meshing=true):df (mStep h) E∧JI (mStep h):=by
 have s:=JS.of hi hm
 unfold Ab.mStep
 generalize (fk h.Kernel h.Job).1=k at s ⊢
 generalize (fk h.Kernel h.Job).2=j at s ⊢
 cases e:over j with
 | true=>
  refine⟨hi.step s.ker s.len (s.pg (.inr hj)) (fun h=>by simp at h) (fun _=>by simp[q7]),?_⟩
  exact⟨fun h=>by simp at h,fun h=>by simp at h,fun h=>by simp at h,fun h=>by simp at h⟩
 | false=>
  simp only[Bool.false_eq_true,if_false]
  unfold over at e
  simp only[decide_eq_false_iff_not,not_or]at e
  have he:=s.eq e.1
  have hph:=s.ph
  refine⟨hi.step s.ker s.len (s.pg (.inr hj)) (fun _=>⟨eG.2 ⟨by rw[s.plan];exact(eG.1 (hi.job hm).1).1,s.ph.1,s.ph.2,s.nxt⟩,by rw[s.plan];exact(hi.job hm).2⟩) (fun h=>by rw[hm]at h;cases h),?_⟩
  refine⟨fun _=>⟨s.ph.1,by show j.Phase≤3;omega⟩,fun _=>?_,fun _=>?_,fun _=>?_⟩
  ·show ∃ a∈h.Spans,∃ b∈h.Spans,a.Page=j.Plan.Keep∧b.Page=j.Plan.Move∧meshable a b=true
   rw[s.plan];exact hj.sp hm
  ·show Ex k.Machine.Table j.Plan.Keep
   rw[s.plan];exact(hj.sk hm).tEq he
  ·show Ex k.Machine.Table j.Plan.Move
   rw[s.plan];exact(hj.sm hm).tEq he
end Go.Proofs.YtplcalfnngkffaaGreat.Ab
/- The cells of an object, the reference's and the program's. No condition. -/
namespace Go.Proofs.YtplcalfnngkffaaGreat.Ab
open Go.RowKit
set_option maxRecDepth 20000
set_option maxHeartbeats 4000000
def MK (k:af) (a:Int):Int:=nth (nth k.Machine.Frames.Cells (ax k.Machine.Table (a / 16)).Frame.toNat) (a % 16).toNat
def cellsOf (k:af) (a:Int) (n:Nat):List Int:=(List.range n).map fun(i:Nat)=>MK k (a+i)
end Go.Proofs.YtplcalfnngkffaaGreat.Ab
/- What is known of the objects of a valid heap, and the facts that are told of them, as plain functions. No condition. -/
namespace Go.Proofs.YtplcalfnngkffaaGreat.Ab
end Go.Proofs.YtplcalfnngkffaaGreat.Ab
/- Lists of numbers compared and searched; mapped pages, spans' cells, live cells; objects and their contents. No condition. -/
namespace Go.Proofs.YtplcalfnngkffaaGreat.Ab
open Go.RowKit
set_option maxRecDepth 20000
set_option maxHeartbeats 4000000
theorem LT {xs:List Int} {x:Int} (h:cM xs.length (fun j=>decide (nth xs j≠x))=true):x∉xs:=fun hm=>by
 obtain⟨j,hj⟩:=List.mem_iff_getElem?.1 hm
 have:=en h (List.getElem?_eq_some_iff.1 hj).1
 rw[bL hj]at this
 simp at this
theorem Bo (xs:List Int) (x:Int) (hl:xs.length≤4611686018427387904):ah Tryz.prog 261 false [.val none (aI .imm xs),.val none [I x]] .one [B (decide (x∈xs))]:=by
 refine fO 18 [] Tryz.func261 rfl ?_
 repeat'(first|refine gO ?_|fail)
 (conv=>whnf)
 refine Lp.mk (ι:=Nat) (fun i=>[(0,.hold .one (aI .imm xs)),(1,.hold .one [I (x)]),(5,.hold .one [I ((i:Nat):Int)])]) (fun i=>i≤xs.length∧cM i (fun j=>decide (nth xs j≠x))=true) (fun i=>xs.length - i) 0 ?_ ⟨Nat.zero_le _,rfl⟩ fun i hi=>?_
 ·exact wB
 obtain⟨hi,ai⟩:=hi
 by_cases li:i<xs.length
 ·have hx:=ao li
  by_cases e:nth xs i=x
  ·repeat'(first|refine gA ?_|(conv=>whnf);first|with_reducible refine Ix.nat (aa hx) ?_)
   exact congrArg (fun z=>[B z]) ((by symm;exact decide_eq_true (by rw[←e];exact aC li)))
  ·repeat'(first|refine gA ?_|(conv=>whnf);first|with_reducible refine Ix.nat (aa hx) ?_)
   ((conv=>whnf);refine Nx.mk (i+1) ⟨by omega,bD ai (decide_eq_true e)⟩ (by omega) ?_;(exact wB))
 ·repeat'(first|refine gD ?_|fail)
  obtain rfl:i=xs.length:=by omega
  exact congrArg (fun z=>[B z]) ((by symm;exact decide_eq_false (LT ai)))
end Go.Proofs.YtplcalfnngkffaaGreat.Ab
/- What is lent together with more that lies behind it: the more stays as it is. No condition. -/
namespace Go.Proofs.YtplcalfnngkffaaGreat.Ab
open Go.RowKit
theorem bw.more {M M':ab} {w w':World} (h:bw M w w') (hm:∀ b o,M b o→M' b o):bw M' w w':=
 ⟨h.os,h.tape,h.output,h.size,fun b hb hn=>h.blk b hb fun o ho=>hn o (hm b o ho),fun b o hb hn=>h.cel b o hb fun ho=>hn (hm b o ho),fun b o hb hn=>h.fro b o hb fun ho=>hn (hm b o ho)⟩
theorem aV.wk {P:Program} {f:Nat} {sh:Bool} {c c':List C} {A B:List MA} {k:Kd} {rcs:List C} (h:aV P f sh A (.ptr c::B) k rcs) (hw:Lx c c'):aV P f sh A (.ptr c'::B) k rcs:=by
 refine⟨h.has,fun w S V vs hS hV hVd hA=>(h.run w S V vs hS hV hVd hA).mono fun e w1 hv=>?_⟩
 obtain⟨v,he,hk,X,V',S1,hX,hV',hS1,hVd',hXV,hXS,hVS1,hh,hr,hm⟩:=hv
 refine⟨v,he,hk,X,V',S1,hX,hV',hS1,hVd',hXV,hXS,hVS1,hh,hr,?_⟩
 cases vs with
 | nil=>exact hm.elim
 | cons v0 vs=>
  obtain⟨⟨X1,Y,h1,h2,h3,⟨g,o,e1,e2⟩,hrow⟩,hm2⟩:=hm
  refine⟨⟨X1,Y,h1,h2,h3,⟨g,o,e1,fun j hj=>e2 j (by rw[(qC hw).1];exact hj)⟩,AM hw hrow⟩,hm2⟩
theorem aV.frame {P:Program} {f:Nat} {sh:Bool} {c c' r:List C} {A B:List MA} {k:Kd} {rcs:List C} (h:aV P f sh (.ptr c::A) (.ptr c'::B) k rcs) (hl:c'.length=c.length):aV P f sh (.ptr (c++r)::A) (.ptr (c'++r)::B) k rcs:=by
 refine⟨h.has,fun w S V vs hS hV hVd hA=>?_⟩
 cases vs with
 | nil=>exact hA.elim
 | cons v0 vs=>
 obtain⟨⟨X1,Y,hX1,hY,hXY,⟨g,q,rfl,hcell⟩,ff,hf1,hf2,hf3⟩,hA'⟩:=hA
 have hlen:(c++r).length=c.length+r.length:=List.length_append
 let V0:ab:=piece g q ff 0 c.length
 let W:Nat→ab:=KR V0 (fun i=>V (i+1))
 have hcX:∀ o,q≤o→o<q+(c++r).length→X1 g o:=fun o h1 h2=>by
  have:=(hcell (o - q) (by omega)).1
  rwa [show q+(o - q)=o by omega]at this
 have hV0:∀ b o,V0 b o→V 0 b o:=fun b o ho=>by
  rcases ho with⟨rfl,h1,h2⟩|⟨j,-,h2,h3⟩
  ·exact hX1 _ _ (hcX o (by omega) (by omega))
  ·exact hY _ _ (hf2 j (by omega) b o h3)
 have hWV:∀ i b o,W i b o→V i b o:=fun i b o ho=>by
  cases i with
  | zero=>exact hV0 b o ho
  | succ i=>exact ho
 have hA2:J1 w S W (.ptr c::A) (.pointer (some ⟨g,q,none⟩)::vs):=by
  refine⟨?_,hA'⟩
  have:=sD (lo:=0) (n:=c.length) (cs:=c++r) (by omega) hcell hf1 hf2 hf3 hXY
  rw[show bp (c++r) 0 c.length=c by simp[bp]]at this
  simp only[Nat.zero_add,Nat.add_zero]at this
  exact this
 refine(h.run w S W _ hS (fun i b o ho=>hV i b o (hWV i b o ho)) (fun i i' hne b o h1 h2=>hVd i i' hne b o (hWV i b o h1) (hWV i' b o h2)) hA2).mono fun e w1 hv=>?_
 obtain⟨v,he,hk,X,V',S1,hX,hV',hS1,hVd',hXV,hXS,hVS1,hh,hr,hm⟩:=hv
 have hsub:∀ b o,(∃ i,W i b o)→∃ i,V i b o:=fun b o ⟨i,hi⟩=>⟨i,hWV i b o hi⟩
 let R:ab:=fun b o=>V 0 b o∧¬V0 b o
 have hRW:∀ b o,R b o→¬∃ i,W i b o:=fun b o hR ⟨i,hi⟩=>by
  cases i with
  | zero=>exact hR.2 hi
  | succ i=>exact hVd 0 (i+1) (by omega) b o hR.1 hi
 have hRold:∀ b o,R b o→b<w.heap.size:=fun b o hR=>(hV 0 b o hR.1).1
 have hRout:∀ b o,R b o→¬((∃ i,W i b o)∨(b<w1.heap.size∧w.heap.size≤b)):=fun b o hR ho=>by
  rcases ho with ho|ho
  ·exact hRW b o hR ho
  ·have:=hRold b o hR;omega
 have hRsame:bk R w w1:=fun b o hR=>⟨hk.cel b o (hRold b o hR) (hRW b o hR),hk.fro b o (hRold b o hR) (hRW b o hR)⟩
 have hRS1:∀ b o,R b o→¬S1 b o:=fun b o hR hs=>by
  rcases hS1 b o hs with⟨-,h1⟩|h1
  ·exact(hV 0 b o hR.1).2 h1
  ·exact hRout b o hR h1
 have hSsame:bk S w w1:=fun b o hb=>⟨hk.cel b o (hS b o hb) (fun⟨i,hi⟩=>(hV i b o (hWV i b o hi)).2 hb),hk.fro b o (hS b o hb) (fun⟨i,hi⟩=>(hV i b o (hWV i b o hi)).2 hb)⟩
 have hRc:∀ j,c.length≤j→j<(c++r).length→R g (q+j):=fun j h1 h2=>by
  refine⟨hX1 _ _ (hcell j h2).1,fun ho=>?_⟩
  rcases ho with⟨-,h3,h4⟩|⟨j',h3,h4,h5⟩
  ·omega
  ·exact hXY _ _ (hcell j h2).1 (hf2 j' (by omega) _ _ h5)
 have hRf:∀ j,c.length≤j→j<(c++r).length→∀ b o,ff j b o→R b o:=fun j h1 h2 b o ho=>by
  refine⟨hY _ _ (hf2 j h2 b o ho),fun hp=>?_⟩
  rcases hp with⟨rfl,h3,h4⟩|⟨j',h3,h4,h5⟩
  ·exact hXY _ _ (hcX o (by omega) (by omega)) (hf2 j h2 _ _ ho)
  ·exact hf3 j j' h2 (by omega) (by omega) b o ho h5
 let U:Nat→ab:=KR (fun b o=>V' 0 b o∨R b o) (fun i=>V' (i+1))
 have hU:∀ i b o,U i b o→V' i b o∨(i=0∧R b o):=fun i b o ho=>by
  cases i with
  | zero=>exact ho.imp id (fun h=>⟨rfl,h⟩)
  | succ i=>exact .inl ho
 refine⟨v,he,hk.more hsub,X,U,S1,fun b o ho=>(hX b o ho).imp (hsub b o) id,fun i b o ho=>?_,fun b o ho=>(hS1 b o ho).imp id (Or.imp (hsub b o) id),fun i i' hne b o h1 h2=>?_,fun i b o h1 h2=>?_,hXS,fun i b o h1 h2=>?_,hh,hr,?_,hm.2⟩
 ·rcases hU i b o ho with h1|⟨-,h1⟩
  ·exact(hV' i b o h1).imp (hsub b o) id
  ·exact .inl ⟨0,h1.1⟩
 ·rcases hU i b o h1 with h1|⟨e1,h1⟩
  ·rcases hU i' b o h2 with h2|⟨e2,h2⟩
   ·exact hVd' i i' hne b o h1 h2
   ·exact hRout b o h2 (hV' i b o h1)
  ·rcases hU i' b o h2 with h2|⟨e2,h2⟩
   ·exact hRout b o h1 (hV' i' b o h2)
   ·exact hne (by omega)
 ·rcases hU i b o h2 with h2|⟨-,h2⟩
  ·exact hXV i b o h1 h2
  ·exact hRout b o h2 (hX b o h1)
 ·rcases hU i b o h1 with h1|⟨-,h1⟩
  ·exact hVS1 i b o h1 h2
  ·exact hRS1 b o h1 h2
 ·obtain⟨Xa,Ya,ha1,ha2,ha3,⟨ga,oa,hea,ha4⟩,fa,ha5,ha6,ha7⟩:=(show nC w1 (fun b o=>S b o∨S1 b o) (V' 0) (.ptr c') (.pointer (some ⟨g,q,none⟩)) from hm.1)
  obtain⟨rfl,rfl⟩ : g=ga∧q=oa:=by simpa using hea
  have hlen':(c'++r).length=c.length+r.length:=by rw[List.length_append,hl]
  show nC w1 (fun b o=>S b o∨S1 b o) (fun b o=>V' 0 b o∨R b o) (.ptr (c'++r)) (.pointer (some ⟨g,q,none⟩))
  have faV:∀ j,j<c.length→∀ b o,fa j b o→V' 0 b o:=fun j hj b o ho=>ha2 _ _ (ha6 j (by omega) b o ho)
  refine⟨fun b o=>Xa b o∨(R b o∧∃ j,c.length≤j∧j<(c++r).length∧b=g∧o=q+j),fun b o=>Ya b o∨∃ j,c.length≤j∧j<(c++r).length∧ff j b o,fun b o ho=>?_,fun b o ho=>?_,fun b o h1 h2=>?_,⟨g,q,rfl,fun j hj=>?_⟩,fun j=>if j<c.length then fa j else ff j,fun j d hj=>?_,fun j hj b o ho=>?_,fun j j' hj hj' hne b o h1 h2=>?_⟩
  ·exact ho.imp (ha1 b o) (·.1)
  ·rcases ho with ho|⟨j,h1,h2,h3⟩
   ·exact .inl (ha2 b o ho)
   ·exact .inr (hRf j h1 h2 b o h3)
  ·rcases h1 with h1|⟨h1,j,j1,j2,rfl,rfl⟩
   ·rcases h2 with h2|⟨j,j1,j2,j3⟩
    ·exact ha3 b o h1 h2
    ·exact hRout b o (hRf j j1 j2 b o j3) (hV' 0 b o (ha1 b o h1))
   ·rcases h2 with h2|⟨j',j3,j4,j5⟩
    ·exact hRout _ _ h1 (hV' 0 _ _ (ha2 _ _ h2))
    ·exact hXY _ _ (hcell j j2).1 (hf2 j' j4 _ _ j5)
  ·rw[hlen']at hj
   by_cases hc:j<c.length
   ·have:=ha4 j (by omega)
    exact⟨.inl this.1,this.2⟩
   ·have hR:=hRc j (by omega) (by omega)
    have hs:=hRsame _ _ hR
    have hce:=hcell j (by omega)
    refine⟨.inr ⟨hR,j,by omega,by omega,rfl,rfl⟩,?_,?_⟩
    ·rw[hs.1];exact hce.2.1
    ·rw[hs.2];exact hce.2.2
  ·dsimp only
   by_cases hc:j<c.length
   ·rw[if_pos hc]
    rw[List.getElem?_append_left (by omega)]at hj
    exact ha5 j d hj
   ·rw[if_neg hc]
    rw[List.getElem?_append_right (by omega),hl]at hj
    have hj2:(c++r)[j]? = some d:=by rw[List.getElem?_append_right (by omega)];exact hj
    have hjl:=(List.getElem?_eq_some_iff.1 hj2).1
    have h3:=(hf1 j d hj2).keep hSsame (fun b o ho=>hRsame b o (hRf j (by omega) hjl b o ho))
    have hce:=(hRsame _ _ (hRc j (by omega) hjl)).1
    have:bR w1 .box (.pointer (some ⟨g,q,none⟩)) j=bR w .box (.pointer (some ⟨g,q,none⟩)) j:=by
     simp only[bR];rw[hce]
    rw[this]
    exact h3.mono (fun _ _ h=>.inl h) (fun _ _ h=>h)
  ·rw[hlen']at hj
   split at ho
   ·rename_i hc;exact .inl (ha6 j (by omega) b o ho)
   ·exact .inr ⟨j,by omega,by omega,ho⟩
  ·rw[hlen']at hj hj'
   split at h1
   ·rename_i c1
    split at h2
    ·exact ha7 j j' (by omega) (by omega) hne b o h1 h2
    ·exact hRout b o (hRf j' (by omega) (by omega) b o h2) (hV' 0 b o (faV j c1 b o h1))
   ·split at h2
    ·rename_i c1;exact hRout b o (hRf j (by omega) (by omega) b o h1) (hV' 0 b o (faV j' c1 b o h2))
    ·exact hf3 j j' (by omega) (by omega) hne b o h1 h2
mutual
theorem NP:∀ c:C,fz (fz c)=fz c
 | .v x=>by simp[fz]
 | .s o rows=>by simp only[fz];rw[GQ rows]
 | .x=>by simp[fz]
 | .z=>by simp[fz]
 | .m _=>by simp[fz]
 | .it _ _=>by simp[fz]
theorem GQ:∀ rs:List (List C),fzR (fzR rs)=fzR rs
 | []=>rfl
 | r::rs=>by simp only[fzR];rw[Av r,GQ rs]
theorem Av:∀ cs:List C,ey (ey cs)=ey cs
 | []=>rfl
 | c::cs=>by simp only[ey];rw[NP c,Av cs]
end
end Go.Proofs.YtplcalfnngkffaaGreat.Ab
/- Kernel calls: the reference's. No condition. -/
namespace Go.Proofs.YtplcalfnngkffaaGreat.Ab
open Go.RowKit
set_option maxRecDepth 20000
set_option maxHeartbeats 4000000
theorem qK (k:af) (hk:aH k=true) (hc:k.Calls≠100000):aV Tryz.prog 452 false [.ptr (af.enc .own k)] [.ptr (af.enc .own (eK k))] .one [B (!refd k)]:=by
 have hs:=bV hk
 have hcl:=(aJ.1 hk).2.2.2.2
 have c1:=Bo k.Refuse k.Calls (by have:=hs.2;omega)
 refine fM 22 [] [(2,9,[11,12,13,14,15,16,17,18,19])] [(0,0)] Tryz.func452 rfl (fun u q=>?_)
 repeat'(first|refine gO ?_|(conv=>whnf);first|refine Cl.eq (c1) ⟨⟨rfl,dO _⟩,⟨rfl,congrArg (fun z=>[I z]) (by omega)⟩,trivial⟩ ?_)
 refine bK.mk rfl ?_ ?_
 ·rfl
 ·exact wB
theorem ny (k:af) (p m:Int) (hk:aH k=true) (hc:k.Calls≠100000) (hm:(ax k.Machine.Table p).Mode≠0) (h12:m=1∨m=2):aV Tryz.prog 436 false [.ptr (af.enc .own k),.val none [I p],.val none [I m]] [.ptr (af.enc .own (ia k p m).1),.val none [I p],.val none [I m]] .one [B (ia k p m).2]:=by
 have hs:=bV hk
 have c1:=qK k hk hc
 have c2:=fx (eK k) p hs.1.2
 have c3:=aO m 1 2
 rw[decide_eq_true (by omega)]at c3
 obtain⟨m1,m2,m3,-⟩:=bM hk hm
 have hx:=ao (xs:=k.Machine.Table.Entries) (i:=p.toNat) (by omega)
 have hm':¬(ax (eK k).Machine.Table p).Mode=0:=hm
 unfold ia
 cases e:refd k<;>rw[e]at c1
 ·rw[if_neg (by simp),ss]
  refine fM 31 [(452,[2])] [] [(0,0),(0,0),(0,0)] Tryz.func436 rfl (fun u q=>?_)
  repeat'(first|refine gA ?_|(conv=>whnf);first|refine er.mk (c1) (.inl rfl) ?_|refine Cl.eq (c2) ⟨af.enc_fz (eK k),⟨rfl,rfl⟩,trivial⟩ ?_|refine Cl.mk (c3) ?_|refine Ix.mk m1 (aa hx) ?_|refine Pu.one rfl rfl (aa hx) rfl (Nat.le_of_ble_eq_true rfl) rfl ?_)
  refine bK.mk rfl ?_ ?_
  ·rfl
  ·exact wB
 ·rw[if_pos rfl]
  refine fM 31 [(452,[2])] [] [(0,0),(0,0),(0,0)] Tryz.func436 rfl (fun u q=>?_)
  repeat'(first|refine gA ?_|(conv=>whnf);first|refine er.mk (c1) (.inl rfl) ?_|refine Cl.eq (c2) ⟨af.enc_fz (eK k),⟨rfl,rfl⟩,trivial⟩ ?_|refine Cl.mk (c3) ?_)
  refine bK.mk rfl ?_ ?_
  ·rfl
  ·exact wB
end Go.Proofs.YtplcalfnngkffaaGreat.Ab
/- A job's steps: the reference's. No condition. -/
namespace Go.Proofs.YtplcalfnngkffaaGreat.Ab
open Go.RowKit
set_option maxRecDepth 20000
set_option maxHeartbeats 4000000
theorem Rw.two {bs:List C} {off i k j i2 k2 j2:Nat} {K:List C→Nat→Prop} {o o2:dE} {rows rows2:List (List C)} {r r2:List C} (h1:bs[off]? = some (.s o rows)) (h2:rows[i]? = some r) (h3:r.length=k) (h4:r[j]? = some (.s o2 rows2)) (h5:rows2[i2]? = some r2) (h6:r2.length=k2) (hK:K r2 j2):Rw bs off [(i,k,j),(i2,k2,j2)] K:=
 Rw.mk (r:=r2) (j:=j2) (by simp[bS,h1,h2,h3,h4,h5,h6]) hK
theorem xW (k:af) (a b c:Int) (hk:aH k=true) (ha:(ax k.Machine.Table a).Mode≠0) (hb:(ax k.Machine.Table b).Mode≠0) (h15:0≤c∧c≤15):aV Tryz.prog 437 false [.ptr (af.enc .own k),.val none [I a],.val none [I b],.val none (aI .imm [c])] [.ptr (af.enc .own (rn k a b c)),.val none [I a],.val none [I b],.val none (aI .imm [c])] .one [B true]:=by
 have hs:=bV hk
 have c1:=fx k a hs.1.2
 have c2:=fx k b hs.1.2
 have c3:=aO c 0 15
 rw[decide_eq_true h15]at c3
 obtain⟨a1,a2,a3,a4,a5⟩:=bM hk ha
 obtain⟨b1,b2,b3,b4,b5⟩:=bM hk hb
 have hul:=(aY.1 (aJ.1 hk).2.1).2.2.1
 have ra:=row16 hk (f:=iw k a) (by unfold iw;omega)
 have rb:=row16 hk (f:=iw k b) (by unfold iw;omega)
 have hxa:k.Machine.Frames.Cells[(ax k.Machine.Table a).Frame.toNat]? = some (nth k.Machine.Frames.Cells (iw k a)):=ao (by omega)
 have hxb:k.Machine.Frames.Cells[(ax k.Machine.Table b).Frame.toNat]? = some (nth k.Machine.Frames.Cells (iw k b)):=ao (by omega)
 have hya:=ao (xs:=nth k.Machine.Frames.Cells (iw k a)) (i:=c.toNat) (by omega)
 have hyb:=ao (xs:=nth k.Machine.Frames.Cells (iw k b)) (i:=c.toNat) (by omega)
 have hea:=ao (xs:=k.Machine.Table.Entries) (i:=a.toNat) (by omega)
 have heb:=ao (xs:=k.Machine.Table.Entries) (i:=b.toNat) (by omega)
 rw[a3]at a4 hxa
 rw[b3]at b4 hxb
 have hq0:[c][0]? = some c:=rfl
 refine fM 90 [] [(13,28,[61,62,63,64,65,66,67,68,69,70,71,72,73,74,75,76,77,78,79,80,81,82,83,84,85,86,87,88])] [(0,0),(0,0),(0,0),(0,0)] Tryz.func437 rfl (fun u q=>?_)
 repeat'(first|refine gA ?_|(conv=>whnf);first|refine Sm.rf ?_|refine Cl.eq (c1) ⟨af.enc_fz k,⟨rfl,rfl⟩,trivial⟩ ?_|refine Cl.eq (c2) ⟨af.enc_fz k,⟨rfl,rfl⟩,trivial⟩ ?_)
 (conv=>whnf)
 refine Lp.mk (ι:=Nat) (fun n=>[(0,.hold .box (af.enc .own k)),(1,.hold .one [I (a)]),(2,.hold .one [I (b)]),(3,.hold .one (aI .imm [c])),(9,.hold .one [I ((n:Nat):Int)])]) (fun n=>n≤1) (fun n=>1 - n) (0) ?_ (Nat.zero_le _) fun n hn=>?_
 ·exact wB
 by_cases ln:n<1
 ·obtain rfl:n=0:=by omega
  repeat'(first|refine gD ?_|(conv=>whnf);first|refine Sm.rf ?_|refine Ix.mk (by decide) (aa hq0) ?_|refine Cl.mk (c3) ?_)
  ((conv=>whnf);refine Nx.mk 1 (by omega) (by omega) ?_;(exact wB))
 ·obtain rfl:n=1:=by omega
  repeat'(first|refine gD ?_|(conv=>whnf);first|refine Sm.rf ?_|refine Ix.mk a1 (aa hea) ?_|refine Ix.mk b1 (aa heb) ?_|refine Rw.one rfl (aa hea) rfl ?_|refine Rw.one rfl (aa heb) rfl ?_)
  (conv=>whnf)
  refine Lp.mk (ι:=Nat) (fun j=>[(0,.hold .box (af.enc .own (Gu k a b c j))),(3,.hold .one (aI .imm [c])),(10,.hold .one [I ((nth k.Machine.Table.Entries a.toNat).Frame)]),(11,.hold .one [I ((nth k.Machine.Table.Entries b.toNat).Frame)]),(12,.hold .one [I ((j:Nat):Int)])]) (fun j=>j≤1) (fun j=>1 - j) (0) ?_ (Nat.zero_le _) fun j hj=>?_
  ·exact wB
  by_cases lj:j<1
  ·obtain rfl:j=0:=by omega
   repeat'(first|refine gD ?_|(conv=>whnf);first|refine Sm.rf ?_|refine Ix.mk (by decide) (aa hq0) ?_|refine Ix.mk a4 (aa hxa) ?_|refine Ix.mk b4 (aa hxb) ?_|refine Ix.mk h15.1 (aa hya) ?_|refine Ix.mk h15.1 (aa hyb) ?_|refine Rw.one rfl (aa hxb) rfl ?_|refine Rw.one rfl (aa hxa) rfl ?_|refine Rw.two rfl (aa hxa) rfl rfl (aa hya) rfl ?_|refine Pu.two rfl rfl (aa hxb) rfl rfl rfl (aa hyb) rfl (Nat.le_refl _) rfl ?_)
   ((conv=>whnf);refine Nx.mk 1 (by omega) (by omega) ?_)
   rw[show Gu k a b c 1=rn k a b c from rfl]
   unfold rn
   rw[tI,show iw k b=(nth k.Machine.Table.Entries b.toNat).Frame.toNat by unfold iw;rw[b3]]
   exact wB
  ·obtain rfl:j=1:=by omega
   repeat'(first|refine gD ?_|(conv=>whnf);first|refine Sm.rf ?_)
   refine bK.mk rfl ?_ ?_
   ·rfl
   ·exact wB
theorem FC (k:af) (p o:Int) (hk:aH k=true) (hc:k.Calls≠100000) (hp:(ax k.Machine.Table p).Mode≠0) (ho:(ax k.Machine.Table o).Mode≠0) (hpo:p≠o):aV Tryz.prog 438 false [.ptr (af.enc .own k),.val none [I p],.val none [I o]] [.ptr (af.enc .own (wZ k p o).1),.val none [I p],.val none [I o]] .one [B (wZ k p o).2]:=by
 have hs:=bV hk
 have c1:=qK k hk hc
 have c2:=fx (eK k) p hs.1.2
 have c3:=fx (eK k) o hs.1.2
 obtain⟨p1,p2,p3,p4,p5⟩:=bM hk hp
 obtain⟨o1,o2,o3,o4,o5⟩:=bM hk ho
 have hul:=(aY.1 (aJ.1 hk).2.1).2.2.1
 have hx:=ao (xs:=k.Machine.Table.Entries) (i:=p.toNat) (by omega)
 have hy:=ao (xs:=k.Machine.Table.Entries) (i:=o.toNat) (by omega)
 have hp':¬(ax (eK k).Machine.Table p).Mode=0:=hp
 have ho':¬(ax (eK k).Machine.Table o).Mode=0:=ho
 rw[p3]at p4 p5
 have c5:=Ak (uc (eK k) p.toNat ⟨2,(nth k.Machine.Table.Entries o.toNat).Frame⟩) (nth k.Machine.Table.Entries p.toNat).Frame (DX _ _ hs.1.2) ⟨p4,by show _<((k.Machine.Frames.Cells.length:Nat):Int);omega,p5⟩
 rw[Dr]at c5
 unfold wZ
 cases e:refd k<;>rw[e]at c1
 ·rw[if_neg (by simp)]
  refine fM 60 [(452,[2]),(434,[2,0])] [(4,274,[38,39,40,41,42,43,44,45,46,47,48,49,50,51,52,53,54,56,0,1,2,3,4,5,6,7,8,9,10,11,12,13,14,15,16,17,1000,1001,1002,1003,1004,1005,1006,18,19])] [(0,0),(0,0),(0,0)] Tryz.func438 rfl (fun u q=>?_)
  repeat'(first|refine gA ?_|(conv=>whnf);first|refine Sm.rf ?_|refine er.mk (c1) (.inl rfl) ?_|refine Cl.eq (c2) ⟨af.enc_fz (eK k),⟨rfl,rfl⟩,trivial⟩ ?_|refine Cl.eq (c3) ⟨af.enc_fz (eK k),⟨rfl,rfl⟩,trivial⟩ ?_|refine Ix.mk p1 (aa hx) ?_|refine Ix.mk o1 (aa hy) ?_|refine Rw.one rfl (aa hx) rfl ?_|refine Rw.one rfl (aa hy) rfl ?_|refine Pu.one rfl rfl (aa hx) rfl (Nat.le_of_ble_eq_true rfl) rfl ?_|refine er.mk (c5) (.inl rfl) ?_)
  refine bK.mk rfl ?_ ?_
  ·rfl
  ·exact wB
 ·rw[if_pos rfl]
  refine fM 60 [(452,[2]),(434,[2,0])] [(4,274,[38,39,40,41,42,43,44,45,46,47,48,49,50,51,52,53,54,56,0,1,2,3,4,5,6,7,8,9,10,11,12,13,14,15,16,17,1000,1001,1002,1003,1004,1005,1006,18,19])] [(0,0),(0,0),(0,0)] Tryz.func438 rfl (fun u q=>?_)
  repeat'(first|refine gA ?_|(conv=>whnf);first|refine Sm.rf ?_|refine er.mk (c1) (.inl rfl) ?_|refine Cl.eq (c2) ⟨af.enc_fz (eK k),⟨rfl,rfl⟩,trivial⟩ ?_|refine Cl.eq (c3) ⟨af.enc_fz (eK k),⟨rfl,rfl⟩,trivial⟩ ?_)
  refine bK.mk rfl ?_ ?_
  ·rfl
  ·exact wB
theorem x9 (m:aA) (a:Int) (hs:aA.sml m) (ha:0≤a∧a<512):ah Tryz.prog 457 false [.val (some 3) (aA.enc .imm m),.val none [I a]] (.tup [some 2,none]) (aG.enc .own (ax m.Table (a / 16))++[I (a % 16)]):=by
 have c2:=fh m.Table (a / 16) hs.2
 have htm:a.tmod 16=a % 16:=gf ha.1
 refine fO 16 [] Tryz.func457 rfl ?_ (.inr ⟨trivial,trivial,trivial,trivial⟩)
 repeat'(first|refine gD ?_|(conv=>whnf);first|refine Sm.rf ?_|refine Cl.mk (c2) ?_|refine Wr.mk (M2 ha) ?_|refine Cd.mk (by decide) ?_|refine Ev.mk htm ?_)
 rfl
theorem FX (m:aA) (a v:Int) (hm:cR m=true) (hs:aA.sml m) (ha:0≤a∧a<512) (hv:0≤v∧v≤999) (hf:(ax m.Table (a / 16)).Mode≠0→0≤(ax m.Table (a / 16)).Frame∧(ax m.Table (a / 16)).Frame<m.Frames.Cells.length∧(nth m.Frames.Cells (ax m.Table (a / 16)).Frame.toNat).length=16):ah Tryz.prog 455 false [.val (some 3) (aA.enc .imm m),.val none [I a],.val none [I v]] (.tup [some 3,none]) (aA.enc .own (gy m a v).1++[I (gy m a v).2]):=by
 have c0:=nG m hs
 rw[hm]at c0
 have c1:=re m hs
 have c2:=x9 m a hs ha
 have c3:=aO v 0 999
 rw[decide_eq_true hv]at c3
 have hfr:=aA.enc_fr (gy m a v).1
 unfold gy at hfr ⊢
 by_cases e0:(ax m.Table (a / 16)).Mode=0
 ·rw[if_pos e0]at hfr ⊢
  refine fO 47 [] Tryz.func455 rfl ?_ (.inr (aP hfr ⟨trivial,trivial⟩))
  repeat'(first|refine gA ?_|(conv=>whnf);first|refine Sm.rf ?_|refine Cl.mk (c0) ?_|refine Cl.mk (c1) ?_|refine Cl.mk (c2) ?_|refine Cl.mk (c3) ?_)
  rfl
 ·rw[if_neg e0]at hfr ⊢
  by_cases e1:(ax m.Table (a / 16)).Mode=1
  ·rw[if_pos e1]at hfr ⊢
   refine fO 47 [] Tryz.func455 rfl ?_ (.inr (aP hfr ⟨trivial,trivial⟩))
   repeat'(first|refine gA ?_|(conv=>whnf);first|refine Sm.rf ?_|refine Cl.mk (c0) ?_|refine Cl.mk (c1) ?_|refine Cl.mk (c2) ?_|refine Cl.mk (c3) ?_)
   rfl
  ·rw[if_neg e1]at hfr ⊢
   obtain⟨f1,f2,f3⟩:=hf e0
   have hx:=ao (xs:=m.Frames.Cells) (i:=(ax m.Table (a / 16)).Frame.toNat) (by omega)
   have hy:=ao (xs:=nth m.Frames.Cells (ax m.Table (a / 16)).Frame.toNat) (i:=(a % 16).toNat) (by omega)
   simp only at hfr ⊢
   rw[uP]at hfr ⊢
   refine fO 47 [] Tryz.func455 rfl ?_ (.inr (aP hfr ⟨trivial,trivial⟩))
   repeat'(first|refine gA ?_|(conv=>whnf);first|refine Sm.rf ?_|refine Cl.mk (c0) ?_|refine Cl.mk (c1) ?_|refine Cl.mk (c2) ?_|refine Cl.mk (c3) ?_|refine Ix.mk f1 (aa hx) ?_|refine Ix.mk (by omega) (aa hy) ?_|refine Rw.one rfl (aa hx) rfl ?_|refine Pu.two rfl rfl (aa hx) rfl rfl rfl (aa hy) rfl (Nat.le_refl _) rfl ?_)
   rfl
end Go.Proofs.YtplcalfnngkffaaGreat.Ab
/- A job's steps: the reference's, all of a step. No condition. -/
namespace Go.Proofs.YtplcalfnngkffaaGreat.Ab
open Go.RowKit
set_option maxRecDepth 20000
set_option maxHeartbeats 4000000
theorem gj {k:af} {j:aZ} : jmay k j=true↔(aH k=true∧k.Calls≠100000)∧jb j=true∧(ax k.Machine.Table j.Plan.Keep).Mode≠0∧(ax k.Machine.Table j.Plan.Move).Mode≠0∧(ax k.Machine.Table j.Plan.Keep).Frame≠(ax k.Machine.Table j.Plan.Move).Frame:=by
 unfold jmay
 simp only[Bool.and_eq_true,decide_eq_true_eq]
theorem kQ {p:aN} (h:eR p=true):p.Cells.length≤16:=by
 unfold eR at h
 simp only[Bool.and_eq_true]at h
 have hi:∀ i,i<p.Cells.length→(i:Int)≤nth p.Cells i:=fun i=>by
  induction i with
  | zero=>
   intro hi
   have:=en h.1 hi
   unfold mH at this
   rw[decide_eq_true_eq]at this
   exact this.1
  | succ i ih=>
   intro hi
   have h1:=ih (by omega)
   have:=en h.1 hi
   unfold mH at this
   rw[decide_eq_true_eq]at this
   have h2:=this.2.2.resolve_left (by omega)
   rw[Nat.add_sub_cancel]at h2
   omega
 by_cases e:p.Cells.length≤16
 ·exact e
 ·exfalso
  have h1:=hi 16 (by omega)
  have:=en h.1 (show 16<p.Cells.length by omega)
  unfold mH at this
  rw[decide_eq_true_eq]at this
  omega
theorem sY {j:aZ} (h:jb j=true):aZ.sml j:=by
 have:=kQ (eG.1 h).1
 show j.Plan.Cells.length≤1048576
 omega
theorem mw {k:af} (h:aH k=true):cR k.Machine=true:=by
 unfold aH at h
 simp only[Bool.and_eq_true]at h
 exact h.1.2
theorem zI (k:af) (j:aZ) (hm:jmay k j=true) (h3:j.Phase=3):aV Tryz.prog 439 false [.ptr (af.enc .own k),.ptr (v8 j)] [.ptr (af.enc .own (jstep k j).1),.ptr (v8 (jstep k j).2)] (.tup []) []:=by
 obtain⟨⟨hk,hc⟩,hj,hkp,hmv,hne⟩:=gj.1 hm
 obtain⟨j2,j3,j4,j5,j6⟩:=eG.1 hj
 have hs:=bV hk
 obtain⟨p1,p2,p3,p4,p5⟩:=bM hk hkp
 have ht32:=(bU.1 (aJ.1 hk).2.2.1).2.2
 have hpl:=kQ j2
 have hul:=(aY.1 (aJ.1 hk).2.1).2.2.1
 unfold jstep
 rw[if_neg (by omega),if_neg (by omega),if_neg (by omega),if_pos h3]
 by_cases hn:0<j.Next
 ·rw[if_pos hn]
  have hc15:=iF j2 (i:=(j.Next - 1).toNat) (by omega)
  have hx:=ao (xs:=j.Plan.Cells) (i:=(j.Next - 1).toNat) (by omega)
  have ha:0≤j.Plan.Keep*16+nth j.Plan.Cells (j.Next - 1).toNat∧j.Plan.Keep*16+nth j.Plan.Cells (j.Next - 1).toNat<512:=by omega
  have hq:(j.Plan.Keep*16+nth j.Plan.Cells (j.Next - 1).toNat) / 16=j.Plan.Keep:=by omega
  have c1:=FX k.Machine (j.Plan.Keep*16+nth j.Plan.Cells (j.Next - 1).toNat) 0 (mw hk) hs.1 ha (by omega) (fun _=>by rw[hq];exact⟨p4,by omega,row16 hk (f:=iw k j.Plan.Keep) (by unfold iw;omega)⟩)
  generalize (gy k.Machine (j.Plan.Keep*16+nth j.Plan.Cells (j.Next - 1).toNat) 0).1=m at c1 ⊢
  generalize (gy k.Machine (j.Plan.Keep*16+nth j.Plan.Cells (j.Next - 1).toNat) 0).2=e at c1
  refine fM 59 [(436,[2,0,0])] [(2,283,[20,21,22,23,24,25,26,27,28,29,30,31,32,33,34,35,36,37,38,39,40,41,42,19,43,44,4,0,1,2,3,4,5,6,7,8,9,10,11,12,13,14,15,16,17,18,19,20,21,22,23,24,25,26,27,1025,28])] [(0,0),(1,0)] Tryz.func439 rfl (fun u q=>?_) (.inr trivial)
  repeat'(first|refine gD ?_|(conv=>whnf);first|refine Sm.rf ?_|refine Cl.eq (c1) ⟨⟨rfl,aA.enc_fz k.Machine⟩,⟨rfl,rfl⟩,⟨rfl,rfl⟩,trivial⟩ ?_|refine Ix.mk (by omega) (aa hx) ?_|refine Sm.rf ?_)
  refine bK.mk rfl rfl ?_
  exact wC
 ·rw[if_neg hn]
  have c1:=ny k j.Plan.Move 2 hk hc hmv (.inr rfl)
  cases e:(ia k j.Plan.Move 2).2<;>rw[e]at c1
  ·refine fM 59 [(436,[2,0,0])] [(2,283,[20,21,22,23,24,25,26,27,28,29,30,31,32,33,34,35,36,37,38,39,40,41,42,19,43,44,4,0,1,2,3,4,5,6,7,8,9,10,11,12,13,14,15,16,17,18,19,20,21,22,23,24,25,26,27,1025,28])] [(0,0),(1,0)] Tryz.func439 rfl (fun u q=>?_) (.inr trivial)
   repeat'(first|refine gD ?_|(conv=>whnf);first|refine Sm.rf ?_|refine er.mk (c1) (.inl rfl) ?_)
   refine bK.mk rfl rfl ?_
   rw[←h3]
   exact wC
  ·refine fM 59 [(436,[2,0,0])] [(2,283,[20,21,22,23,24,25,26,27,28,29,30,31,32,33,34,35,36,37,38,39,40,41,42,19,43,44,4,0,1,2,3,4,5,6,7,8,9,10,11,12,13,14,15,16,17,18,19,20,21,22,23,24,25,26,27,1025,28])] [(0,0),(1,0)] Tryz.func439 rfl (fun u q=>?_) (.inr trivial)
   repeat'(first|refine gD ?_|(conv=>whnf);first|refine Sm.rf ?_|refine er.mk (c1) (.inl rfl) ?_)
   refine bK.mk rfl rfl ?_
   exact wC
theorem zR (k:af) (j:aZ) (hm:jmay k j=true):aV Tryz.prog 399 false [.ptr (af.enc .own k),.ptr (v8 j)] [.ptr (af.enc .own (jstep k j).1),.ptr (v8 (jstep k j).2)] (.tup []) []:=by
 obtain⟨⟨hk,hc⟩,hj,hkp,hmv,hne⟩:=gj.1 hm
 obtain⟨j2,j3,j4,j5,j6⟩:=eG.1 hj
 have hpo:j.Plan.Move≠j.Plan.Keep:=fun e=>hne (by rw[e])
 have hpl:=kQ j2
 by_cases h0:j.Phase=0
 ·have c1:=ny k j.Plan.Move 1 hk hc hmv (.inl rfl)
  unfold jstep
  rw[if_pos h0]
  cases e:(ia k j.Plan.Move 1).2<;>rw[e]at c1
  ·refine fM 80 [(436,[2,0,0]),(437,[2,0,0,0]),(438,[2,0,0]),(439,[2,2])] [(7,7,[27,28,29,30,31,32,33]),(9,14,[38,39,40,41,42,43,44,45,46,47,48,49,50,51])] [(0,0),(1,0)] Tryz.func399 rfl (fun u q=>?_) (.inr trivial)
   repeat'(first|refine gA ?_|(conv=>whnf);first|refine Sm.rf ?_|refine er.mk (c1) (.inl rfl) ?_)
   refine bK.mk rfl rfl ?_
   exact wC
  ·refine fM 80 [(436,[2,0,0]),(437,[2,0,0,0]),(438,[2,0,0]),(439,[2,2])] [(7,7,[27,28,29,30,31,32,33]),(9,14,[38,39,40,41,42,43,44,45,46,47,48,49,50,51])] [(0,0),(1,0)] Tryz.func399 rfl (fun u q=>?_) (.inr trivial)
   repeat'(first|refine gA ?_|(conv=>whnf);first|refine Sm.rf ?_|refine er.mk (c1) (.inl rfl) ?_)
   refine bK.mk rfl rfl ?_
   exact wC
 by_cases h1:j.Phase=1
 ·unfold jstep
  rw[if_neg h0,if_pos h1]
  by_cases hn:j.Next=j.Plan.Cells.length
  ·rw[if_pos hn]
   refine fM 80 [(436,[2,0,0]),(437,[2,0,0,0]),(438,[2,0,0]),(439,[2,2])] [(7,7,[27,28,29,30,31,32,33]),(9,14,[38,39,40,41,42,43,44,45,46,47,48,49,50,51])] [(0,0),(1,0)] Tryz.func399 rfl (fun u q=>?_) (.inr trivial)
   repeat'(first|refine gA ?_|(conv=>whnf);first|refine Sm.rf ?_|refine Sm.rf ?_)
   refine bK.mk rfl rfl ?_
   exact wC
  ·rw[if_neg hn]
   have hx:=ao (xs:=j.Plan.Cells) (i:=j.Next.toNat) (by omega)
   have c1:=xW k j.Plan.Move j.Plan.Keep (nth j.Plan.Cells j.Next.toNat) hk hmv hkp (iF j2 (by omega))
   have hcl:=(gj.1 hm).2.1
   refine fM 80 [(436,[2,0,0]),(437,[2,0,0,0]),(438,[2,0,0]),(439,[2,2])] [(7,7,[27,28,29,30,31,32,33]),(9,14,[38,39,40,41,42,43,44,45,46,47,48,49,50,51])] [(0,0),(1,0)] Tryz.func399 rfl (fun u q=>?_) (.inr trivial)
   repeat'(first|refine gA ?_|(conv=>whnf);first|refine Sm.rf ?_|refine er.mk c1 (.inr ⟨rfl,af.enc_fr _,trivial⟩) ?_|refine Ix.mk (by omega) (aa hx) ?_|refine Sm.rf ?_)
   refine bK.mk rfl rfl ?_
   exact wC
 by_cases h2:j.Phase=2
 ·have c1:=FC k j.Plan.Move j.Plan.Keep hk hc hmv hkp hpo
  unfold jstep
  rw[if_neg h0,if_neg h1,if_pos h2]
  cases e:(wZ k j.Plan.Move j.Plan.Keep).2<;>rw[e]at c1
  ·refine fM 80 [(436,[2,0,0]),(437,[2,0,0,0]),(438,[2,0,0]),(439,[2,2])] [(7,7,[27,28,29,30,31,32,33]),(9,14,[38,39,40,41,42,43,44,45,46,47,48,49,50,51])] [(0,0),(1,0)] Tryz.func399 rfl (fun u q=>?_) (.inr trivial)
   repeat'(first|refine gA ?_|(conv=>whnf);first|refine Sm.rf ?_|refine er.mk (c1) (.inl rfl) ?_)
   refine bK.mk rfl rfl ?_
   exact wC
  ·refine fM 80 [(436,[2,0,0]),(437,[2,0,0,0]),(438,[2,0,0]),(439,[2,2])] [(7,7,[27,28,29,30,31,32,33]),(9,14,[38,39,40,41,42,43,44,45,46,47,48,49,50,51])] [(0,0),(1,0)] Tryz.func399 rfl (fun u q=>?_) (.inr trivial)
   repeat'(first|refine gA ?_|(conv=>whnf);first|refine Sm.rf ?_|refine er.mk (c1) (.inl rfl) ?_)
   refine bK.mk rfl rfl ?_
   exact wC
 by_cases h3:j.Phase=3
 ·have c1:=zI k j hm h3
  refine fM 80 [(436,[2,0,0]),(437,[2,0,0,0]),(438,[2,0,0]),(439,[2,2])] [(7,7,[27,28,29,30,31,32,33]),(9,14,[38,39,40,41,42,43,44,45,46,47,48,49,50,51])] [(0,0),(1,0)] Tryz.func399 rfl (fun u q=>?_) (.inr trivial)
  repeat'(first|refine gA ?_|(conv=>whnf);first|refine Sm.rf ?_|refine er.mk (c1) (.inl rfl) ?_)
  refine bK.mk rfl rfl ?_
  exact wC
 ·unfold jstep
  rw[if_neg h0,if_neg h1,if_neg h2,if_neg h3]
  refine fM 80 [(436,[2,0,0]),(437,[2,0,0,0]),(438,[2,0,0]),(439,[2,2])] [(7,7,[27,28,29,30,31,32,33]),(9,14,[38,39,40,41,42,43,44,45,46,47,48,49,50,51])] [(0,0),(1,0)] Tryz.func399 rfl (fun u q=>?_) (.inr trivial)
  repeat'(first|refine gA ?_|(conv=>whnf);first|refine Sm.rf ?_)
  refine bK.mk rfl rfl ?_
  exact wC
theorem E8 (k:af) (j:aZ) (hk:aH k=true) (hj:jb j=true):ah Tryz.prog 398 false [.val (some 5) (af.enc .imm k),.val (some 5) (aZ.enc .imm j)] .one [B (jmay k j)]:=by
 have hs:=bV hk
 have hz:ey (af.enc .imm k)=af.enc .imm k:=by rw[←af.enc_fz k,Av]
 have hcl:=(aJ.1 hk).2.2.2.2
 have c1:=En k hs
 rw[hk]at c1
 have c2:=vw j (sY hj)
 rw[hj]at c2
 have c3:=fx k j.Plan.Keep hs.1.2
 have c4:=fx k j.Plan.Move hs.1.2
 have c5:=fh k.Machine.Table j.Plan.Keep hs.1.2
 have c6:=fh k.Machine.Table j.Plan.Move hs.1.2
 by_cases hc:k.Calls=100000
 ·rw[decide_eq_false (by omega)]at c1
  rw[show jmay k j=false by rw[←Bool.not_eq_true,gj];exact fun h=>h.1.2 hc]
  refine fO 44 [(3,16,[27,28,29,30,31,32,33,34,35,36,37,38,39,40,41,42])] Tryz.func398 rfl ?_
  repeat'(first|refine gO ?_|(conv=>whnf);first|refine Sm.rf ?_|refine Cl.mk (c1) ?_|refine Cl.mk (c2) ?_)
  rfl
 rw[decide_eq_true (by omega)]at c1
 by_cases e1:(ax k.Machine.Table j.Plan.Keep).Mode=0
 ·rw[show jmay k j=false by rw[←Bool.not_eq_true,gj];exact fun h=>h.2.2.1 e1]
  refine fO 44 [(3,16,[27,28,29,30,31,32,33,34,35,36,37,38,39,40,41,42])] Tryz.func398 rfl ?_
  repeat'(first|refine gA ?_|(conv=>whnf);first|refine Sm.rf ?_|refine Cl.mk (c1) ?_|refine Cl.mk (c2) ?_|refine Cl.eq (c3) ⟨hz,⟨rfl,rfl⟩,trivial⟩ ?_|refine Cl.eq (c4) ⟨hz,⟨rfl,rfl⟩,trivial⟩ ?_)
  rfl
 by_cases e2:(ax k.Machine.Table j.Plan.Move).Mode=0
 ·rw[show jmay k j=false by rw[←Bool.not_eq_true,gj];exact fun h=>h.2.2.2.1 e2]
  refine fO 44 [(3,16,[27,28,29,30,31,32,33,34,35,36,37,38,39,40,41,42])] Tryz.func398 rfl ?_
  repeat'(first|refine gA ?_|(conv=>whnf);first|refine Sm.rf ?_|refine Cl.mk (c1) ?_|refine Cl.mk (c2) ?_|refine Cl.eq (c3) ⟨hz,⟨rfl,rfl⟩,trivial⟩ ?_|refine Cl.eq (c4) ⟨hz,⟨rfl,rfl⟩,trivial⟩ ?_)
  rfl
 refine fO 44 [(3,16,[27,28,29,30,31,32,33,34,35,36,37,38,39,40,41,42])] Tryz.func398 rfl ?_
 repeat'(first|refine gA ?_|(conv=>whnf);first|refine Sm.rf ?_|refine Cl.mk (c1) ?_|refine Cl.mk (c2) ?_|refine Cl.eq (c3) ⟨hz,⟨rfl,rfl⟩,trivial⟩ ?_|refine Cl.eq (c4) ⟨hz,⟨rfl,rfl⟩,trivial⟩ ?_|refine Cl.mk (c5) ?_|refine Cl.mk (c6) ?_|refine Sm.rf ?_)
 exact congrArg (fun z=>[B z]) (by
   unfold jmay
   rw[hk,hj,decide_eq_true hc]
   by_cases e3:(ax k.Machine.Table j.Plan.Keep).Frame=(ax k.Machine.Table j.Plan.Move).Frame
   · rw[decide_eq_false (fun h=>h.2.2 e3)];simp[e3]
   · rw[decide_eq_true ⟨e1,e2,e3⟩];simp[e3])
theorem Aw (j:aZ):ah Tryz.prog 400 false [.val (some 5) (aZ.enc .imm j)] .one [B (over j)]:=by
 by_cases e1:j.Phase=4
 ·rw[show over j=true from decide_eq_true (.inl e1)]
  refine fO 11 [] Tryz.func400 rfl ?_
  repeat'(first|refine gA ?_|(conv=>whnf);first|refine Sm.rf ?_)
  rfl
 ·rw[show over j=decide (j.Phase=5) from decide_eq_decide.2 (by omega)]
  refine fO 11 [] Tryz.func400 rfl ?_
  repeat'(first|refine gA ?_|(conv=>whnf);first|refine Sm.rf ?_)
  exact congrArg (fun z=>[B z]) (by rw[Bool.eq_iff_iff];simp)
end Go.Proofs.YtplcalfnngkffaaGreat.Ab
/- A step of a heap's job: the reference's; the job cells handed out together with the kernel. No condition. -/
namespace Go.Proofs.YtplcalfnngkffaaGreat.Ab
open Go.RowKit
set_option maxRecDepth 20000
set_option maxHeartbeats 4000000
def Hg (x:ac):List C:=(fe x).set 21 .z
theorem DN {x:ac} (h:x.Job.Plan.Cells=[]):Lx (Hg x) (fe x):=by
 unfold Hg fe
 simp only[List.set,h,List.map_nil]
 repeat'(first|exact trivial|exact mu _|refine And.intro ?_ ?_|rfl)
theorem Af (h:ac) (hi:df h []) (hm:h.Meshing=true):aV Tryz.prog 349 false [.ptr (fe h)] [.ptr (fe (mStep h))] .one [B (ni h)]:=by
 obtain⟨hj,-,-⟩:=hi.job hm
 have c1:=E8 h.Kernel h.Job hi.ker hj
 have c3:=Aw (fk h.Kernel h.Job).2
 unfold ni mStep
 cases e:jmay h.Kernel h.Job with
 | false=>
  rw[e]at c1
  have ej:fk h.Kernel h.Job=(h.Kernel,h.Job):=by unfold fk;rw[e];rfl
  rw[ej]at c3 ⊢
  simp only at c3 ⊢
  cases eo:over h.Job<;>rw[eo]at c3
  ·refine fM 39 [(399,[3,5,5])] [(1,8,[4,5,6,7,8,9,10,11]),(2,6,[13,14,15,16,17,18])] [(0,0)] Tryz.func349 rfl (fun u q=>?_)
   repeat'(first|refine gO ?_|(conv=>whnf);first|refine Cl.eq (c1) ⟨⟨rfl,af.enc_fz h.Kernel⟩,⟨rfl,rfl⟩,trivial⟩ ?_|refine Cl.mk (c3) ?_|refine Sm.rf ?_)
   refine bK.mk rfl ?_ ?_
   ·exact congrArg (fun z=>[B z]) (by rw[Bool.eq_iff_iff];simp)
   ·exact wC
  ·refine aV.wk (c:=Hg _) ?_ (DN rfl)
   refine fM 39 [(399,[3,5,5])] [(1,8,[4,5,6,7,8,9,10,11]),(2,6,[13,14,15,16,17,18])] [(0,0)] Tryz.func349 rfl (fun u q=>?_)
   repeat'(first|refine gO ?_|(conv=>whnf);first|refine Cl.eq (c1) ⟨⟨rfl,af.enc_fz h.Kernel⟩,⟨rfl,rfl⟩,trivial⟩ ?_|refine Cl.mk (c3) ?_|refine Sm.rf ?_)
   refine bK.mk rfl ?_ ?_
   ·exact congrArg (fun z=>[B z]) (by rw[Bool.eq_iff_iff];simp)
   ·exact wC
 | true=>
  rw[e]at c1
  have ej:fk h.Kernel h.Job=jstep h.Kernel h.Job:=by unfold fk;rw[e];rfl
  have c2:=zR h.Kernel h.Job e
  rw[ej]at c3 ⊢
  generalize jstep h.Kernel h.Job=r at c2 c3 ⊢
  cases eo:over r.2<;>rw[eo]at c3
  ·refine fM 39 [(399,[3,5,5])] [(1,8,[4,5,6,7,8,9,10,11]),(2,6,[13,14,15,16,17,18])] [(0,0)] Tryz.func349 rfl (fun u q=>?_)
   repeat'(first|refine gO ?_|(conv=>whnf);first|refine Cl.eq (c1) ⟨⟨rfl,af.enc_fz h.Kernel⟩,⟨rfl,rfl⟩,trivial⟩ ?_|refine Cl.mk (c3) ?_|refine er.mk (c2) (.inl rfl) ?_|refine Sm.rf ?_)
   refine bK.mk rfl ?_ ?_
   ·exact congrArg (fun z=>[B z]) (by rw[Bool.eq_iff_iff];simp)
   ·exact wC
  ·refine aV.wk (c:=Hg _) ?_ (DN rfl)
   refine fM 39 [(399,[3,5,5])] [(1,8,[4,5,6,7,8,9,10,11]),(2,6,[13,14,15,16,17,18])] [(0,0)] Tryz.func349 rfl (fun u q=>?_)
   repeat'(first|refine gO ?_|(conv=>whnf);first|refine Cl.eq (c1) ⟨⟨rfl,af.enc_fz h.Kernel⟩,⟨rfl,rfl⟩,trivial⟩ ?_|refine Cl.mk (c3) ?_|refine er.mk (c2) (.inl rfl) ?_|refine Sm.rf ?_)
   refine bK.mk rfl ?_ ?_
   ·exact congrArg (fun z=>[B z]) (by rw[Bool.eq_iff_iff];simp)
   ·exact wC
end Go.Proofs.YtplcalfnngkffaaGreat.Ab
/- A job's step: the program's. No condition. -/
namespace Go.Proofs.YtplcalfnngkffaaGreat.Ab
open Go.RowKit
set_option maxRecDepth 20000
set_option maxHeartbeats 4000000
theorem cells1 (xs:List Int) (i:Nat) (h:i<xs.length):[rI .imm (nth xs i)]=((xs.map (rI .imm)).take (i+1)).drop i:=by
 rw[List.drop_take,←List.map_drop,ml h,show i+1 - i=1 by omega]
 rfl
theorem AZ (k:af) (j:aZ) (hk:aH k=true) (hj:jb j=true):ah Tryz.prog 360 false [.val (some 5) (af.enc .imm k),.val (some 5) (aZ.enc .imm j)] (.tup [some 5,some 5]) (af.enc .own (fk k j).1++aZ.enc .own (fk k j).2):=by
 obtain⟨j2,j3,j4,j5,j6⟩:=eG.1 hj
 have hpl:=kQ j2
 have hs:=bV hk
 have d1:=fG k hs
 have d2:=q8 j (sY hj)
 have d3:=io k hs
 rw[hk,Bool.and_true]at d3
 have d4:=uX j (sY hj)
 rw[hj]at d4
 have d5:=eM k j.Plan.Keep hs.1.2
 have d6:=eM k j.Plan.Move hs.1.2
 have d7:=dQ k.Machine.Table j.Plan.Keep hs.1.2
 have d8:=dQ k.Machine.Table j.Plan.Move hs.1.2
 have ht32:=(bU.1 (aJ.1 hk).2.2.1).2.2
 have hul:=(aY.1 (aJ.1 hk).2.1).2.2.1
 have hno:jmay k j=false→fk k j=(k,j):=fun e=>by unfold fk;rw[e];rfl
 refine fO 149 [(1,262,[11,12,13,14,15,16,0,1,2,3,4,5,6,1003,1004,1005,7]),(2,6,[17,18,19,20,8,9]),(3,33,[21,22,23,24,25,26,27,28,29,30,31,32,33,34,35,36,37,38,39,40,41,42,43,44,45,46,47,48,49,50,51,52,53]),(4,258,[56,57,0,1,2,1001,3]),(15,272,[82,83,84,85,86,87,88,89,90,91,92,93,94,81,95,96,0,1,2,3,4,5,6,7,8,9,10,11,12,13,14,15,16,1015]),(25,273,[123,124,125,126,127,128,129,130,131,132,133,134,135,122,136,137,138,0,1,2,3,4,5,6,7,8,9,10,11,12,13,14,15,16,17,1015]),(29,258,[147,148,0,1,2,1001,3])] Tryz.func360 rfl ?_ (.inr (aP (af.enc_fr _) (aZ.enc_fr _)))
 by_cases hc:k.Calls=100000
 ·rw[decide_eq_false (fun n=>n hc)]at d3
  rw[hno (by rw[←Bool.not_eq_true,gj];exact fun h=>h.1.2 hc)]
  repeat'(first|refine gO ?_|(conv=>whnf);first|refine Sm.rf ?_|refine Cl.mk (d1) ?_|refine Cl.mk (d2) ?_|refine Cl.mk (d3) ?_|refine Sm.rf ?_)
  rfl
 rw[decide_eq_true hc]at d3
 by_cases e1:(ax k.Machine.Table j.Plan.Keep).Mode=0
 ·rw[decide_eq_false (fun n=>n e1)]at d5
  rw[hno (by rw[←Bool.not_eq_true,gj];exact fun h=>h.2.2.1 e1)]
  repeat'(first|refine gO ?_|(conv=>whnf);first|refine Sm.rf ?_|refine Cl.mk (d1) ?_|refine Cl.mk (d2) ?_|refine Cl.mk (d3) ?_|refine Cl.mk (d4) ?_|refine Cl.mk (d5) ?_|refine Sm.rf ?_)
  rfl
 rw[decide_eq_true e1]at d5
 by_cases e2:(ax k.Machine.Table j.Plan.Move).Mode=0
 ·rw[decide_eq_false (fun n=>n e2)]at d6
  rw[hno (by rw[←Bool.not_eq_true,gj];exact fun h=>h.2.2.2.1 e2)]
  repeat'(first|refine gO ?_|(conv=>whnf);first|refine Sm.rf ?_|refine Cl.mk (d1) ?_|refine Cl.mk (d2) ?_|refine Cl.mk (d3) ?_|refine Cl.mk (d4) ?_|refine Cl.mk (d5) ?_|refine Cl.mk (d6) ?_|refine Sm.rf ?_)
  rfl
 rw[decide_eq_true e2]at d6
 by_cases e3:(ax k.Machine.Table j.Plan.Keep).Frame=(ax k.Machine.Table j.Plan.Move).Frame
 ·rw[hno (by rw[←Bool.not_eq_true,gj];exact fun h=>h.2.2.2.2 e3)]
  repeat'(first|refine gA ?_|(conv=>whnf);first|refine Sm.rf ?_|refine Cl.mk (d1) ?_|refine Cl.mk (d2) ?_|refine Cl.mk (d3) ?_|refine Cl.mk (d4) ?_|refine Cl.mk (d5) ?_|refine Cl.mk (d6) ?_|refine Cl.mk (d7) ?_|refine Cl.mk (d8) ?_|refine Sm.rf ?_)
  rfl
 have hm:jmay k j=true:=gj.2 ⟨⟨hk,hc⟩,hj,e1,e2,e3⟩
 rw[show fk k j=jstep k j by unfold fk;rw[hm];rfl]
 have hpo:j.Plan.Move≠j.Plan.Keep:=fun e=>e3 (by rw[e])
 unfold jstep
 by_cases h0:j.Phase=0
 ·rw[if_pos h0]
  have c1:=pB k j.Plan.Move 1 hk hc e2 (.inl rfl)
  cases e:(ia k j.Plan.Move 1).2<;>rw[e]at c1
  all_goals
   repeat'(first|refine gA ?_|(conv=>whnf);first|refine Sm.rf ?_|refine Cl.mk (d1) ?_|refine Cl.mk (d2) ?_|refine Cl.mk (d3) ?_|refine Cl.mk (d4) ?_|refine Cl.mk (d5) ?_|refine Cl.mk (d6) ?_|refine Cl.mk (d7) ?_|refine Cl.mk (d8) ?_|refine Cl.mk (c1) ?_|refine Sm.rf ?_)
   rfl
 rw[if_neg h0]
 by_cases h1:j.Phase=1
 ·rw[if_pos h1]
  by_cases hn:j.Next=j.Plan.Cells.length
  ·rw[if_pos hn]
   repeat'(first|refine gA ?_|(conv=>whnf);first|refine Sm.rf ?_|refine Cl.mk (d1) ?_|refine Cl.mk (d2) ?_|refine Cl.mk (d3) ?_|refine Cl.mk (d4) ?_|refine Cl.mk (d5) ?_|refine Cl.mk (d6) ?_|refine Cl.mk (d7) ?_|refine Cl.mk (d8) ?_|refine Sm.rf ?_)
   rfl
  ·rw[if_neg hn]
   obtain⟨n,hn'⟩:=Int.eq_ofNat_of_zero_le j5
   have c1:=Fh k j.Plan.Move j.Plan.Keep (nth j.Plan.Cells j.Next.toNat) hk hc e2 e1 (iF j2 (by omega))
   rw[hn',Int.toNat_natCast]at c1
   have hln:n<j.Plan.Cells.length:=by omega
   rw[show nth j.Plan.Cells j.Next.toNat=nth j.Plan.Cells n by rw[hn'];rfl]
   repeat'(first|refine gA ?_|(conv=>whnf);first|refine Sm.rf ?_|refine Cl.mk (d1) ?_|refine Cl.mk (d2) ?_|refine Cl.mk (d3) ?_|refine Cl.mk (d4) ?_|refine Cl.mk (d5) ?_|refine Cl.mk (d6) ?_|refine Cl.mk (d7) ?_|refine Cl.mk (d8) ?_|refine Sl.mid (rows':=[rI .imm (nth j.Plan.Cells n)]) n (n+1) hn' (by omega) (by omega) (by rw[List.length_map];omega) (bx fun _=>rfl) (cells1 _ _ hln) ?_|refine Cl.mk (c1) ?_|refine Sm.rf ?_)
   rfl
 rw[if_neg h1]
 by_cases h2:j.Phase=2
 ·rw[if_pos h2]
  have c1:=D4 k j.Plan.Move j.Plan.Keep hk hc e2 e1 hpo
  cases e:(wZ k j.Plan.Move j.Plan.Keep).2<;>rw[e]at c1
  all_goals
   repeat'(first|refine gA ?_|(conv=>whnf);first|refine Sm.rf ?_|refine Cl.mk (d1) ?_|refine Cl.mk (d2) ?_|refine Cl.mk (d3) ?_|refine Cl.mk (d4) ?_|refine Cl.mk (d5) ?_|refine Cl.mk (d6) ?_|refine Cl.mk (d7) ?_|refine Cl.mk (d8) ?_|refine Cl.mk (c1) ?_|refine Sm.rf ?_)
   rfl
 rw[if_neg h2]
 by_cases h3:j.Phase=3
 ·rw[if_pos h3]
  obtain⟨p1,p2,p3,p4,p5⟩:=bM hk e1
  by_cases hn:0<j.Next
  ·rw[if_pos hn]
   have hc15:=iF j2 (i:=(j.Next - 1).toNat) (by omega)
   have hx:=ao (xs:=j.Plan.Cells) (i:=(j.Next - 1).toNat) (by omega)
   have ha:0≤j.Plan.Keep*16+nth j.Plan.Cells (j.Next - 1).toNat∧j.Plan.Keep*16+nth j.Plan.Cells (j.Next - 1).toNat<512:=by omega
   have hq:(j.Plan.Keep*16+nth j.Plan.Cells (j.Next - 1).toNat) / 16=j.Plan.Keep:=by omega
   have c1:=FN k.Machine (j.Plan.Keep*16+nth j.Plan.Cells (j.Next - 1).toNat) 0 (mw hk) hs.1 ha (by omega) (fun _=>by rw[hq];exact⟨p4,by omega,row16 hk (f:=iw k j.Plan.Keep) (by unfold iw;omega)⟩)
   generalize (gy k.Machine (j.Plan.Keep*16+nth j.Plan.Cells (j.Next - 1).toNat) 0).1=m at c1 ⊢
   generalize (gy k.Machine (j.Plan.Keep*16+nth j.Plan.Cells (j.Next - 1).toNat) 0).2=e at c1
   repeat'(first|refine gA ?_|(conv=>whnf);first|refine Sm.rf ?_|refine Cl.mk (d1) ?_|refine Cl.mk (d2) ?_|refine Cl.mk (d3) ?_|refine Cl.mk (d4) ?_|refine Cl.mk (d5) ?_|refine Cl.mk (d6) ?_|refine Cl.mk (d7) ?_|refine Cl.mk (d8) ?_|refine Cl.mk (c1) ?_|refine Ix.mk (by omega) (aa hx) ?_|refine Sm.rf ?_)
   rfl
  ·rw[if_neg hn]
   have c1:=pB k j.Plan.Move 2 hk hc e2 (.inr rfl)
   cases e:(ia k j.Plan.Move 2).2<;>rw[e]at c1
   all_goals
    repeat'(first|refine gA ?_|(conv=>whnf);first|refine Sm.rf ?_|refine Cl.mk (d1) ?_|refine Cl.mk (d2) ?_|refine Cl.mk (d3) ?_|refine Cl.mk (d4) ?_|refine Cl.mk (d5) ?_|refine Cl.mk (d6) ?_|refine Cl.mk (d7) ?_|refine Cl.mk (d8) ?_|refine Cl.mk (c1) ?_|refine Sm.rf ?_)
    first|rfl|(rw[←h3];rfl)
 ·rw[if_neg h3]
  repeat'(first|refine gA ?_|(conv=>whnf);first|refine Sm.rf ?_|refine Cl.mk (d1) ?_|refine Cl.mk (d2) ?_|refine Cl.mk (d3) ?_|refine Cl.mk (d4) ?_|refine Cl.mk (d5) ?_|refine Cl.mk (d6) ?_|refine Cl.mk (d7) ?_|refine Cl.mk (d8) ?_|refine Sm.rf ?_)
  rfl
end Go.Proofs.YtplcalfnngkffaaGreat.Ab
/- A job brought to its end, and one job after another: the data. No condition. -/
namespace Go.Proofs.YtplcalfnngkffaaGreat.Ab
theorem tf {k:af} (h:aH k=true) (hr:eX k.Refuse):af.wf k:=by
 obtain⟨h1,h2,h3,h4,h5⟩:=aJ.1 h
 obtain⟨g1,g2,g3,g4⟩:=aY.1 h2
 obtain⟨t1,t2,t3⟩:=bU.1 h3
 refine⟨⟨⟨⟨by omega,fun r hr=>?_⟩,⟨by omega,fun _ _=>trivial⟩⟩,⟨by omega,fun e he=>?_⟩⟩,⟨by omega,by omega⟩,hr⟩
 ·obtain⟨j,hj,rfl⟩:=bz hr
  obtain⟨r1,r2⟩:=EV h hj
  exact⟨by omega,fun v hv=>by have:=r2 v hv;exact⟨by omega,by omega⟩⟩
 ·obtain⟨j,hj,rfl⟩:=bz he
  have h6:=t1 j hj
  unfold nr at h6
  rw[decide_eq_true_eq]at h6
  by_cases hm:(nth k.Machine.Table.Entries j).Mode=0
  ·have:=h6.2.2.1 hm;exact⟨⟨by omega,by omega⟩,⟨by omega,by omega⟩⟩
  ·have:=h6.2.2.2 hm;exact⟨⟨by omega,by omega⟩,⟨by omega,by omega⟩⟩
theorem GC {p:aN} (h:eR p=true):aN.wf p:=by
 have hc:=fun i hi=>iF h (i:=i) hi
 have hl:p.Cells.length≤16:=kQ h
 unfold eR at h
 simp only[Bool.and_eq_true,decide_eq_true_eq]at h
 exact⟨⟨by omega,by omega⟩,⟨by omega,by omega⟩,⟨by omega,fun v hv=>by
   obtain⟨j,hj,rfl⟩:=bz hv
   have:=hc j hj
   exact⟨by omega,by omega⟩⟩⟩
theorem df.jobWf {h:ac} {E:List Int} (hi:df h E):aZ.wf h.Job∧aZ.sml h.Job:=by
 cases hm:h.Meshing with
 | true=>
  obtain⟨j2,j3,j4,j5,j6⟩:=eG.1 (hi.job hm).1
  have hl:=kQ j2
  exact⟨⟨GC j2,⟨by omega,by omega⟩,⟨by omega,by omega⟩⟩,by show h.Job.Plan.Cells.length≤1048576;omega⟩
 | false=>
  have:=hi.noj hm
  unfold q7 at this
  rw[decide_eq_true_eq]at this
  obtain⟨n1,n2,n3,n4,n5⟩:=this
  refine⟨⟨⟨⟨by omega,by omega⟩,⟨by omega,by omega⟩,⟨by omega,fun v hv=>?_⟩⟩,⟨by omega,by omega⟩,⟨by omega,by omega⟩⟩,by show h.Job.Plan.Cells.length≤1048576;omega⟩
  rw[List.eq_nil_of_length_eq_zero n3]at hv;cases hv
theorem FD {n:Int} (h:0≤cq n):1≤n∧n≤8:=by
 unfold cq at h
 repeat' split at h
 all_goals omega
theorem pq.wf {h:ac} {E:List Int} (hi:df h E) {a c:Int} (hs:pq h.Spans a c):iD a:=by
 have:=hs.bd hi;exact⟨by omega,by omega⟩
theorem df.wf {h:ac} {E:List Int} (hi:df h E) (hr:eX h.Kernel.Refuse):ac.wf h:=by
 have hl:=hi.lens
 have hL:=hi.L
 have hn:=hi.nums
 unfold eP at hn
 rw[decide_eq_true_eq]at hn
 obtain⟨r1,r2,r3⟩:=kA.1 hi.rng
 obtain⟨q1,-,-,q4,q5,-⟩:=rK.1 hi.quar
 have hm:=hi.mail
 have hfl:=hi.hfl
 unfold bh at hfl
 rw[if_pos hm]at hfl
 unfold dZ at hm
 simp only[Bool.and_eq_true,decide_eq_true_eq,ch,gN,List.all_eq_true,oA,M8]at hm
 obtain⟨⟨⟨m1,m2,m3⟩,m4⟩,m5⟩:=hm
 have h1:=hl.free;have h2:=hl.spans;have h3:=hl.larges;have h4:=hl.objs;have h5:=hl.caches;have h6:=hl.quar
 have hlen:∀ n:Nat,bP h.Mail n≤bP h.Mail (n+1):=fun n=>by simp only[bP];omega
 have hmono:∀ a b:Nat,a≤b→bP h.Mail a≤bP h.Mail b:=fun a b hab=>by
  induction hab with
  | refl=>exact Int.le_refl _
  | step _ ih=>exact Int.le_trans ih (hlen _)
 have hnn:∀ n:Nat,0≤bP h.Mail n:=fun n=>hmono 0 n (Nat.zero_le _)
 have hrow:∀ i,i<h.Mail.Buffers.length→(nth h.Mail.Buffers i).length≤30∧(nth h.Mail.Inbox i).length≤30:=fun i hi'=>by
  have e1:=hmono (i+1) h.Mail.Buffers.length (by omega)
  have e2:=hnn i
  simp only[bP]at e1
  omega
 refine⟨tf hi.ker hr,⟨by omega,fun x hx=>?_⟩,⟨by omega,fun x hx=>?_⟩,⟨by omega,fun x hx=>?_⟩,⟨by omega,fun x hx=>?_⟩,⟨by omega,fun x hx=>?_⟩,⟨⟨by omega,fun l hl'=>?_⟩,⟨by omega,fun l hl'=>?_⟩⟩,⟨⟨by omega,by omega⟩,⟨by omega,fun x hx=>?_⟩⟩,⟨by omega,by omega⟩,⟨by omega,by omega⟩,⟨by omega,by omega⟩,⟨by omega,by omega⟩,trivial,hi.jobWf.1⟩
 ·have:=r2 x hx;exact⟨⟨by omega,by omega⟩,⟨by omega,by omega⟩⟩
 ·have hs:=hL.sok x hx
  have hb:=gW hs
  have hc:=aR hs
  exact⟨⟨by omega,by omega⟩,⟨by omega,by omega⟩,⟨by omega,by omega⟩⟩
 ·have h7:=bB (hL.lok x hx)
  have h8:=dM (hL.lok x hx)
  exact⟨⟨by omega,by omega⟩,⟨by omega,by omega⟩,⟨by omega,by omega⟩⟩
 ·obtain⟨o1,o2,o3,o4⟩:=hi.onu x hx
  have hab:0≤x.Addr∧x.Addr<512∧-1000≤x.Size∧x.Size≤1000:=by
   rcases hi.oow x hx with⟨s,hs,h1,h2⟩|⟨l,hl',e1,e2⟩
   ·have hc:=aR (hL.sok s hs)
    have:=FD (n:=x.Size) (by omega)
    exact⟨by have:=h1.1;omega,by have:=h1.2.1;omega,by omega,by omega⟩
   ·have h7:=bB (hL.lok l hl')
    have h8:=dM (hL.lok l hl')
    omega
  exact⟨⟨by omega,by omega⟩,⟨by omega,by omega⟩,⟨by omega,by omega⟩,⟨by omega,by omega⟩⟩
 ·obtain⟨c1,c2⟩:=hl.lists x hx
  refine⟨by omega,fun l hl'=>⟨by have:=c2 l hl';omega,fun a ha=>?_⟩⟩
  obtain⟨j,hj,rfl⟩:=bz hl'
  exact pq.wf hi (hi.hca x hx j hj a ha)
 ·obtain⟨i,hi',rfl⟩:=bz hl'
  have hb:=hrow i hi'
  refine⟨by omega,fun p hp=>?_⟩
  have hpo:=(m4 i hi').1 p hp
  exact⟨⟨by omega,by omega⟩,pq.wf hi (hfl p.Addr (List.mem_append.2 (.inl (List.mem_flatMap.2 ⟨_,aC hi',List.mem_map.2 ⟨p,hp,rfl⟩⟩))))⟩
 ·obtain⟨i,hi',rfl⟩:=bz hl'
  have hb:=hrow i (by omega)
  exact⟨by omega,fun a ha=>pq.wf hi (hfl a (List.mem_append.2 (.inr (List.mem_flatten.2 ⟨_,aC hi',ha⟩))))⟩
 ·have h7:=q1 x hx
  have h8:=hi.snc x hx
  exact⟨pq.wf hi (hi.hqu x hx),⟨by omega,by omega⟩,⟨by omega,by omega⟩⟩
structure NU (h:ac):Prop where
 ker:aH h.Kernel=true
 wf:ac.wf h
 sml:ac.sml h
 lens:Bw h
theorem df.fit {h:ac} {E:List Int} (hi:df h E) (hr:eX h.Kernel.Refuse) (hm:aK.sml h.Mail):NU h:=⟨hi.ker,hi.wf hr,hi.lens.sml hi.ker hm hi.jobWf.2,hi.lens⟩
theorem df.mStep0 {h:ac} (hi:df h []) (hm:h.Meshing=true) (hd:ni h=false):df (Ab.mStep h) []:=by
 have s:=JS.of hi hm
 unfold ni at hd
 rw[decide_eq_false_iff_not]at hd
 unfold Ab.mStep
 generalize (fk h.Kernel h.Job).1=k at s hd ⊢
 generalize (fk h.Kernel h.Job).2=j at s hd ⊢
 cases e:over j with
 | true=>exact hi.step s.ker s.len (s.pg (.inl hd)) (fun h=>by simp at h) (fun _=>by simp[q7])
 | false=>
  simp only[Bool.false_eq_true,if_false]
  exact hi.step s.ker s.len (s.pg (.inl hd)) (fun _=>⟨eG.2 ⟨by rw[s.plan];exact(eG.1 (hi.job hm).1).1,s.ph.1,s.ph.2,s.nxt⟩,by rw[s.plan];exact(hi.job hm).2⟩) (fun h=>by rw[hm]at h;cases h)
theorem Gg {h:ac} (hi:df h []) (hm:h.Meshing=true):aH (mStep h).Kernel=true∧(mStep h).Kernel.Calls≤h.Kernel.Calls+1∧(mStep h).Kernel.Refuse=h.Kernel.Refuse∧(mStep h).Mail=h.Mail∧(ni h=true→(mStep h).Meshing=false)∧aZ.wf (mStep h).Job∧aZ.sml (mStep h).Job:=by
 have s:=JS.of hi hm
 refine⟨s.ker,s.calls.2.1,s.calls.2.2,rfl,fun hd=>?_,?_⟩
 ·unfold ni at hd
  rw[decide_eq_true_eq]at hd
  show(if over _=true then false else h.Meshing)=false
  rw[if_pos (show over (fk h.Kernel h.Job).2=true from decide_eq_true (.inl hd))]
 ·show aZ.wf (if over _=true then _ else _)∧aZ.sml (if over _=true then _ else _)
  split
  ·exact⟨⟨⟨⟨by decide,by decide⟩,⟨by decide,by decide⟩,⟨by decide,fun v hv=>by cases hv⟩⟩,⟨by decide,by decide⟩,⟨by decide,by decide⟩⟩,by show(0:Nat)≤1048576;omega⟩
  ·have hp:=(eG.1 (hi.job hm).1).1
   have hpl:=kQ hp
   obtain⟨s1,s2⟩:=s.ph
   obtain⟨s3,s4⟩:=s.nxt
   have e:=s.plan
   refine⟨⟨by rw[e];exact GC hp,⟨by omega,by omega⟩,⟨by omega,by rw[e]at s4;omega⟩⟩,by show((fk h.Kernel h.Job).2.Plan.Cells).length≤1048576;rw[e];omega⟩
theorem EW {h:ac} (hl:Bw h) (hk:aH (mStep h).Kernel=true):Bw (mStep h):=by
 obtain⟨h1,h2,h3,h4,h5,h6,h7⟩:=aJ.1 hk
 obtain⟨g1,g2,g3,g4⟩:=aY.1 h2
 obtain⟨t1,t2,t3⟩:=bU.1 h3
 refine⟨g2,fun r hr=>?_,by omega,t3,h7,hl.free,hl.spans,hl.larges,hl.objs,hl.caches,hl.lists,hl.quar⟩
 obtain⟨j,hj,rfl⟩:=bz hr
 have:=g4 j hj
 unfold i6 at this
 simp only[Bool.and_eq_true,decide_eq_true_eq]at this
 exact this.1
def dS (h:ac):Nat→ac × Bool
 | 0=>(h,false)
 | i+1=>if(dS h i).1.Meshing=true then(mStep (dS h i).1,ni (dS h i).1) else dS h i
def fin (h:ac):ac × Bool:=dS h 100
structure M9 (h:ac) (c:Int) (g:ac × Bool):Prop where
 inv:g.2=false→df g.1 []
 done:g.2=true→g.1.Meshing=false
 fit:NU g.1
 calls:g.1.Kernel.Calls≤h.Kernel.Calls+c
 ref:g.1.Kernel.Refuse=h.Kernel.Refuse
 mail:g.1.Mail=h.Mail
theorem rJ {h:ac} (hi:df h []) (hr:eX h.Kernel.Refuse) (hm:aK.sml h.Mail):∀ i:Nat,M9 h i (dS h i)
 | 0=>⟨fun _=>hi,fun e=>(by cases e),hi.fit hr hm,by show h.Kernel.Calls≤h.Kernel.Calls+((0:Nat):Int);omega,rfl,rfl⟩
 | i+1=>by
  have ih:=rJ hi hr hm i
  unfold dS
  split
  ·rename_i e
   have h2:(dS h i).2=false:=by
    cases e2:(dS h i).2 with
    | false=>rfl
    | true=>rw[ih.done e2]at e;cases e
   have hv:=ih.inv h2
   obtain⟨s1,s2,s3,s4,s5,s6,s7⟩:=Gg hv e
   have hc:=ih.calls
   have hwf:=ih.fit.wf
   have hsm:=ih.fit.sml
   refine⟨fun hd=>hv.mStep0 e hd,s5,⟨s1,?_,?_,EW ih.fit.lens s1⟩,by simp only;omega,s3.trans ih.ref,s4.trans ih.mail⟩
   ·exact⟨tf s1 (by rw[s3,ih.ref];exact hr),hwf.2.1,hwf.2.2.1,hwf.2.2.2.1,hwf.2.2.2.2.1,hwf.2.2.2.2.2.1,hwf.2.2.2.2.2.2.1,hwf.2.2.2.2.2.2.2.1,hwf.2.2.2.2.2.2.2.2.1,hwf.2.2.2.2.2.2.2.2.2.1,hwf.2.2.2.2.2.2.2.2.2.2.1,hwf.2.2.2.2.2.2.2.2.2.2.2.1,trivial,s6⟩
   ·exact⟨bV s1,hsm.2.1,hsm.2.2.1,hsm.2.2.2.1,hsm.2.2.2.2.1,hsm.2.2.2.2.2.1,hsm.2.2.2.2.2.2.1,hsm.2.2.2.2.2.2.2.1,s7⟩
  ·exact⟨ih.inv,ih.done,ih.fit,by have:=ih.calls;omega,ih.ref,ih.mail⟩
theorem KQ {h:ac} (hi:df h []) (hr:eX h.Kernel.Refuse) (hm:aK.sml h.Mail):M9 h (100:Nat) (fin h):=rJ hi hr hm 100
theorem yX {h:ac} {i:Nat} (hm:(dS h i).1.Meshing=false):∀ k,dS h (i+k)=dS h i
 | 0=>rfl
 | k+1=>by
  have ih:=yX hm k
  have hs:dS h (i+(k+1))=if(dS h (i+k)).1.Meshing=true then(mStep (dS h (i+k)).1,ni (dS h (i+k)).1) else dS h (i+k):=rfl
  rw[hs,ih,if_neg (by rw[hm];simp)]
theorem EG {h:ac} {i:Nat} (hm:(dS h i).1.Meshing=false) (hi:i≤100):fin h=dS h i:=by
 have:=yX hm (100 - i)
 rwa [show i+(100 - i)=100 by omega]at this
theorem tD {h:ac} (hi:df h []):df (started h).1 []∧(started h).1.Kernel=h.Kernel∧(started h).1.Mail=h.Mail:=by
 have hn:=hi.nums
 unfold eP at hn
 rw[decide_eq_true_eq]at hn
 have hsd:=(k6 (bI h).length (show 0≤h.Seed∧h.Seed≤1073741823 by omega) ((bI h).length - 1)).2
 have hpo:=qk (bI h) (show 0≤h.Seed∧h.Seed≤1073741823 by omega)
 have hnum:eP {h with Seed:=(shuf (bI h).length h.Seed).2} = true:=by
  unfold eP;rw[decide_eq_true_eq];unfold shuf;simp only;omega
 cases hp:jW (bI h) h.Seed with
 | nil=>
  have hst:Ab.started h=({h with Seed:=(shuf (bI h).length h.Seed).2},false):=by unfold Ab.started;rw[hp]
  rw[hst]
  exact⟨{hi with nums:=hnum},rfl,rfl⟩
 | cons q qs=>
  obtain⟨k1,k2,k3⟩:=hpo q (by rw[hp];exact List.mem_cons_self ..)
  have hst:Ab.started h=({h with Seed:=(shuf (bI h).length h.Seed).2,Meshing:=true,Job:=xZ (gT (nth (bI h) q.A.toNat) (nth (bI h) q.B.toNat))},true):=by unfold Ab.started;rw[hp]
  rw[hst]
  have hmem:∀ s∈bI h,s∈h.Spans:=fun s hs=>rN h (Nat.le_refl _) s (List.mem_of_mem_take hs)
  have ha:=hmem _ (aC (xs:=bI h) (i:=q.A.toNat) (by omega))
  have hb:=hmem _ (aC (xs:=bI h) (i:=q.B.toNat) (by omega))
  generalize nth (bI h) q.A.toNat=a at k3 ha ⊢
  generalize nth (bI h) q.B.toNat=b at k3 hb ⊢
  obtain⟨p1,p2,p3⟩:=rZ k3
  have hjo:jb (xZ (gT a b))=true:=eG.2 ⟨p1,by show(0:Int)≤0;omega,by show(0:Int)≤5;omega,by show(0:Int)≤0;omega,by show(0:Int)≤(((gT a b).Cells.length:Nat):Int);omega⟩
  have hpl:(∃ s∈h.Spans,s.Page=(gT a b).Keep)∧∃ s∈h.Spans,s.Page=(gT a b).Move:=by
   unfold gT;split
   ·exact⟨⟨b,hb,rfl⟩,⟨a,ha,rfl⟩⟩
   ·exact⟨⟨a,ha,rfl⟩,⟨b,hb,rfl⟩⟩
  exact⟨{hi with nums:=hnum,job:=fun _=>⟨hjo,hpl⟩,noj:=fun e=>by cases e},rfl,rfl⟩
def cn (h:ac):Nat→ac × Nat
 | 0=>((fin h).1,(fin h).2.toNat)
 | i+1=>if(cW (cn h i).1).2=true then((fin (cW (cn h i).1).1).1,(cn h i).2+(fin (cW (cn h i).1).1).2.toNat) else((cW (cn h i).1).1,(cn h i).2)
structure K3 (h:ac) (i:Nat) (g:ac × Nat):Prop where
 fit:NU g.1
 calls:g.1.Kernel.Calls≤h.Kernel.Calls+100*(i+1)
 ref:g.1.Kernel.Refuse=h.Kernel.Refuse
 mail:g.1.Mail=h.Mail
 cnt:g.2≤i+1
theorem ze {h:ac} (hf:NU h) (hr:eX h.Kernel.Refuse) (hm:aK.sml h.Mail):NU (cW h).1∧(cW h).1.Kernel=h.Kernel∧(cW h).1.Mail=h.Mail∧((cW h).2=true→df (cW h).1 []):=by
 unfold cW
 split
 ·rename_i e
  obtain⟨s1,s2,s3⟩:=tD (df.of e.2)
  exact⟨s1.fit (by rw[s2];exact hr) (by rw[s3];exact hm),s2,s3,fun _=>s1⟩
 ·exact⟨hf,rfl,rfl,fun e=>by cases e⟩
theorem mQ {h:ac} (hi:df h []) (hr:eX h.Kernel.Refuse) (hm:aK.sml h.Mail):∀ i:Nat,K3 h i (cn h i)
 | 0=>by
  have s:=KQ hi hr hm
  show K3 h 0 ((fin h).1,(fin h).2.toNat)
  generalize fin h=f at s ⊢
  have hb:f.2.toNat≤1:=by cases f.2<;>decide
  exact⟨s.fit,by have:=s.calls;show f.1.Kernel.Calls≤_;omega,s.ref,s.mail,hb⟩
 | i+1=>by
  have ih:=mQ hi hr hm i
  obtain⟨m1,m2,m3,m4⟩:=ze ih.fit (by rw[ih.ref];exact hr) (by rw[ih.mail];exact hm)
  have hc:=ih.calls
  have hn:=ih.cnt
  unfold cn
  split
  ·rename_i e
   have s:=KQ (m4 e) (by rw[m2,ih.ref];exact hr) (by rw[m3,ih.mail];exact hm)
   generalize fin (cW (cn h i).1).1=f at s ⊢
   have hb:f.2.toNat≤1:=by cases f.2<;>decide
   have hc2:=s.calls
   rw[m2]at hc2
   exact⟨s.fit,by show f.1.Kernel.Calls≤_;omega,s.ref.trans (by rw[m2];exact ih.ref),s.mail.trans (m3.trans ih.mail),by simp only;omega⟩
  ·exact⟨m1,by simp only[m2];omega,by simp only[m2];exact ih.ref,m3.trans ih.mail,by simp only;omega⟩
end Go.Proofs.YtplcalfnngkffaaGreat.Ab
/- Jobs, one after another: the program's. No condition. -/
namespace Go.Proofs.YtplcalfnngkffaaGreat.Ab
open Go.RowKit
set_option maxRecDepth 20000
set_option maxHeartbeats 4000000
def NJ (h:ac):Int:=(fk h.Kernel h.Job).2.Phase
theorem yg (h:ac) (hi:df h []) (hm:h.Meshing=true) (hs:ac.sml h) (hc:h.Kernel.Calls≤99000):ah Tryz.prog 288 false [.val (some 24) (ac.enc .imm h)] (.tup [some 24,none,none]) (ac.enc .own (mStep h)++[I (NJ h),B true]):=by
 obtain⟨hj,-,-⟩:=hi.job hm
 have c1:=pA h hs
 have c2:=hP h hs
 rw[ka,hi.to]at c2
 have c3:=AZ h.Kernel h.Job hi.ker hj
 have hfr:=aP (b:=[I (NJ h),B true]) (ac.enc_fr (mStep h)) ⟨trivial,trivial,trivial⟩
 unfold NJ mStep at hfr ⊢
 generalize fk h.Kernel h.Job=r at c3 hfr ⊢
 have hmb:(ac.enc .imm h)=(ac.enc .imm h).set 18 (B true):=by rw[←hm];rfl
 rw[hmb]
 rw[hmb]at c1 c2
 by_cases e:r.2.Phase=4
 ·rw[if_pos (show over r.2=true from decide_eq_true (.inl e)),if_pos (show over r.2=true from decide_eq_true (.inl e))]at hfr ⊢
  refine fO 51 [(3,260,[23,24,25,26,0,1,2,3,4,1001,1002,1003,5,6])] Tryz.func288 rfl ?_ (.inr hfr)
  repeat'((conv=>whnf);first|with_reducible (first|refine Lm ?_|refine Wm (by omega) ?_|refine dF (by omega) (fun hq=>?_)|refine eT (by omega) (fun hq=>?_)|refine eF (by omega) (fun hq=>?_)|refine Bn ?_|refine pe.wk rfl ?_)|refine Bt ?_|refine Bu ?_|refine Sm.rf ?_|refine Cl.mk (c1) ?_|refine Cl.mk (c2) ?_|refine Cl.mk (c3) ?_|refine Sm.rf ?_)
  rw[e]
  exact wC
 ·by_cases e5:r.2.Phase=5
  ·rw[if_pos (show over r.2=true from decide_eq_true (.inr e5)),if_pos (show over r.2=true from decide_eq_true (.inr e5))]at hfr ⊢
   refine fO 51 [(3,260,[23,24,25,26,0,1,2,3,4,1001,1002,1003,5,6])] Tryz.func288 rfl ?_ (.inr hfr)
   repeat'((conv=>whnf);first|with_reducible (first|refine Lm ?_|refine Wm (by omega) ?_|refine dF (by omega) (fun hq=>?_)|refine eT (by omega) (fun hq=>?_)|refine eF (by omega) (fun hq=>?_)|refine Bn ?_|refine pe.wk rfl ?_)|refine Bt ?_|refine Bu ?_|refine Sm.rf ?_|refine Cl.mk (c1) ?_|refine Cl.mk (c2) ?_|refine Cl.mk (c3) ?_|refine Sm.rf ?_)
   rw[e5]
   exact wC
  ·have ho:¬over r.2=true:=by unfold over;simp[e,e5]
   rw[if_neg ho,if_neg ho]at hfr ⊢
   refine fO 51 [(3,260,[23,24,25,26,0,1,2,3,4,1001,1002,1003,5,6])] Tryz.func288 rfl ?_ (.inr hfr)
   repeat'(first|refine gA ?_|(conv=>whnf);first|refine Sm.rf ?_|refine Cl.mk (c1) ?_|refine Cl.mk (c2) ?_|refine Cl.mk (c3) ?_|refine Sm.rf ?_)
   rw[hm]
   rfl
theorem yF {h:ac} {i:Nat} (hm:(dS h i).1.Meshing=true):dS h (i+1)=(mStep (dS h i).1,ni (dS h i).1):=by
 show(if(dS h i).1.Meshing=true then _ else _)=_
 rw[if_pos hm]
end Go.Proofs.YtplcalfnngkffaaGreat.Ab
/- Relief, as plain Lean. No condition. -/
namespace Go.Proofs.YtplcalfnngkffaaGreat.Ab
open Go.RowKit
set_option maxRecDepth 20000
set_option maxHeartbeats 4000000
theorem wH {t:Nat} {h:ac} : ∀ k,(aU t h k).1.Kernel.Refuse=h.Kernel.Refuse
 | 0=>rfl
 | k+1=>((lv (nth (nth (aU t h k).1.Caches t).Lists k) (spilt (aU t h k).1 t k)).2.2.2.2.2.2.2).trans (wH k)
def qx (h:ac):Nat→ac
 | 0=>h
 | t+1=>(aU t (qx h t) 4).1
structure Pk (h g:ac):Prop where
 inv:df g []
 caches:g.Caches.length=h.Caches.length
 calls:g.Kernel.Calls=h.Kernel.Calls
 ref:g.Kernel.Refuse=h.Kernel.Refuse
 mail:g.Mail=h.Mail
theorem vC {h:ac} (hi:df h []):∀ t,t≤h.Caches.length→Pk h (qx h t)
 | 0,_=>⟨hi,rfl,rfl,rfl,rfl⟩
 | t+1,ht=>by
  have s:=vC hi t (by omega)
  obtain⟨f1,f2,f3,f4,f5,f6,f7⟩:=kz s.inv (t:=t) (by rw[s.caches];omega) (k:=4) (Nat.le_refl 4)
  exact⟨f1,f2.trans s.caches,f3.trans s.calls,(wH 4).trans s.ref,f5.trans s.mail⟩
def qO (h:ac) (most:Int):Bool:=ee h&&(decide (h.Kernel.Calls≤90000)&&decide (0≤most∧most≤20))
def relieve (h:ac) (most:Int):ac × Int:=
 if qO h most=true then((cn (qx h h.Caches.length) most.toNat).1,du h.Kernel.Machine.Frames - du (cn (qx h h.Caches.length) most.toNat).1.Kernel.Machine.Frames) else(h,0)
theorem iS (f:aD) (h:f.Used.length≤32):0≤du f∧du f≤32:=by
 have hn:∀ n:Nat,0≤gJ f.Used n∧gJ f.Used n≤n:=fun n=>by
  induction n with
  | zero=>exact⟨Int.le_refl _,Int.le_refl _⟩
  | succ n ih=>simp only[gJ];split<;>omega
 have:=hn f.Used.length
 unfold du
 split<;>omega
end Go.Proofs.YtplcalfnngkffaaGreat.Ab
/- Jobs brought to their end, relief: the reference's. No condition. -/
namespace Go.Proofs.YtplcalfnngkffaaGreat.Ab
open Go.RowKit
set_option maxRecDepth 20000
set_option maxHeartbeats 4000000
theorem Gy {h:ac} (hm:h.Meshing=true):fe h=(fe h).set 18 (B true):=by rw[←hm];rfl
theorem rd {h:ac} (hm:h.Meshing=false):fe h=(fe h).set 18 (B false):=by rw[←hm];rfl
theorem ow (h:ac) (hi:df h []) (hr:eX h.Kernel.Refuse) (hml:aK.sml h.Mail):aV Tryz.prog 278 false [.ptr (fe h)] [.ptr (fe (fin h).1)] .one [I ((fin h).2.toNat:Nat)]:=by
 refine fM 20 [(349,[2])] [] [(0,0)] Tryz.func278 rfl (fun u q=>?_)
 repeat'(first|refine gO ?_|fail)
 (conv=>whnf)
 refine Lp.mk (ι:=Nat) (fun i=>[(0,.hold .box (fe (dS h i).1)),(3,.hold .one [I (((dS h i).2.toNat:Nat):Int)]),(4,.hold .one [I ((i:Nat):Int)])]) (fun i=>i≤100) (fun i=>100 - i) (0) ?_ (Nat.zero_le _) fun i hi=>?_
 ·exact wC
 have hi':=hi
 have s:=rJ (by assumption) hr hml i
 by_cases li:i<100
 ·cases hm:(dS h i).1.Meshing with
  | false=>
   have hf:=EG hm (by omega)
   rw[hf]
   rw[rd hm]
   repeat'(first|refine gD ?_|fail)
   refine bK.mk rfl ?_ ?_
   ·rfl
   ·exact wC
  | true=>
   have hn:=yF hm
   have h2:(dS h i).2=false:=by
    cases e2:(dS h i).2 with
    | false=>rfl
    | true=>rw[s.done e2]at hm;cases hm
   have c1:=Af (dS h i).1 (s.inv h2) hm
   have hn1:(dS h (i+1)).1=mStep (dS h i).1:=by rw[hn]
   have hn2:(dS h (i+1)).2=ni (dS h i).1:=by rw[hn]
   rw[h2,Bool.toNat_false]
   rw[Gy hm]at c1 ⊢
   cases hd:ni (dS h i).1<;>rw[hd]at c1 hn2
   all_goals
    repeat'(first|refine gD ?_|(conv=>whnf);first|refine er.mk (c1) (.inl rfl) ?_)
    ((conv=>whnf);refine Nx.mk (i+1) (by omega) (by omega) ?_)
    rw[hn1,hn2]
    exact wC
 ·obtain rfl:i=100:=by omega
  repeat'(first|refine gD ?_|fail)
  refine bK.mk rfl ?_ ?_
  ·rfl
  ·exact wC
theorem y6 {h:ac} (i:Nat):cn h (i+1)=if(cW (cn h i).1).2=true then((fin (cW (cn h i).1).1).1,(cn h i).2+(fin (cW (cn h i).1).1).2.toNat) else((cW (cn h i).1).1,(cn h i).2):=rfl
theorem yR {h:ac} {i:Nat} (hm:(cn h i).1.Meshing=true):∀ k,cn h (i+k)=cn h i
 | 0=>rfl
 | k+1=>by
  have ih:=yR hm k
  have e:cW (cn h i).1=((cn h i).1,false):=by unfold cW;rw[if_neg (by rw[hm];simp)]
  rw[←Nat.add_assoc,y6,ih,e]
  rfl
theorem M0 {h:ac} {i n:Nat} (hm:(cn h i).1.Meshing=true) (hi:i≤n):cn h n=cn h i:=by
 have:=yR hm (n - i)
 rwa [show i+(n - i)=n by omega]at this
theorem Du (h:ac) (most:Nat) (hi:df h []) (hr:eX h.Kernel.Refuse) (hml:aK.sml h.Mail) (hm20:most≤20):aV Tryz.prog 191 false [.ptr (fe h),.val none [I (most:Nat)]] [.ptr (fe (cn h most).1),.val none [I (most:Nat)]] .one [I ((cn h most).2:Nat)]:=by
 have c1:=ow h hi hr hml
 refine fM 34 [(278,[2]),(279,[2])] [] [(0,0),(0,0)] Tryz.func191 rfl (fun u q=>?_)
 repeat'(first|refine gO ?_|(conv=>whnf);first|refine er.mk (c1) (.inl rfl) ?_)
 (conv=>whnf)
 refine Lp.mk (ι:=Nat) (fun i=>[(0,.hold .box (fe (cn h i).1)),(1,.hold .one [I ((most:Nat):Int)]),(5,.hold .one [I (((cn h i).2:Nat):Int)]),(6,.hold .one [I ((i:Nat):Int)])]) (fun i=>i≤most) (fun i=>most - i) (0) ?_ (Nat.zero_le _) fun i hi=>?_
 ·exact wC
 have hi':=hi
 have s:=mQ (by assumption) hr hml i
 have sn:=s.cnt
 by_cases li:i<most
 ·cases hm:(cn h i).1.Meshing with
  | true=>
   rw[M0 hm (Nat.le_of_lt li)]
   rw[Gy hm]
   repeat'(first|refine gD ?_|fail)
   refine bK.mk rfl ?_ ?_
   ·rfl
   ·exact wC
  | false=>
   have c2:=tC (cn h i).1 s.fit.sml s.fit.wf
   have hst:=y6 (h:=h) i
   cases e1:ee (cn h i).1 with
   | false=>
    rw[show cW (cn h i).1=((cn h i).1,false) by unfold cW;rw[if_neg (by rw[e1];simp)]]at hst
    rw[if_neg (by simp)]at hst
    rw[e1]at c2
    have hz:=fY (cn h i).1
    rw[rd hm]at hz ⊢
    repeat'(first|refine gD ?_|(conv=>whnf);first|refine Cl.eq (c2) ⟨⟨rfl,hz⟩,trivial⟩ ?_)
    ((conv=>whnf);refine Nx.mk (i+1) (by omega) (by omega) ?_)
    rw[hst]
    simp only
    rw[rd hm]
    exact wC
   | true=>
    have hv:=df.of e1
    rw[e1]at c2
    have c3:=xe (cn h i).1 hv
    have hms:cW (cn h i).1=started (cn h i).1:=by unfold cW;rw[if_pos ⟨hm,e1⟩]
    rw[hms]at hst
    obtain⟨v1,v2,v3⟩:=tD hv
    have hz:=fY (cn h i).1
    cases e2:(started (cn h i).1).2 with
    | false=>
     rw[e2]at c3 hst
     rw[if_neg (by simp)]at hst
     rw[rd hm]at hz c3 ⊢
     repeat'(first|refine gD ?_|(conv=>whnf);first|refine Cl.eq (c2) ⟨⟨rfl,hz⟩,trivial⟩ ?_|refine er.mk (c3) (.inl rfl) ?_)
     ((conv=>whnf);refine Nx.mk (i+1) (by omega) (by omega) ?_)
     rw[hst]
     exact wC
    | true=>
     rw[e2]at c3 hst
     rw[if_pos rfl]at hst
     have c4:=ow (started (cn h i).1).1 v1 (by rw[v2,s.ref];exact hr) (by rw[v3,s.mail];exact hml)
     have hb:(fin (started (cn h i).1).1).2.toNat≤1:=by cases(fin (started (cn h i).1).1).2<;>decide
     rw[rd hm]at hz c3 ⊢
     repeat'(first|refine gD ?_|(conv=>whnf);first|refine Cl.eq (c2) ⟨⟨rfl,hz⟩,trivial⟩ ?_|refine er.mk (c3) (.inl rfl) ?_|refine er.mk (c4) (.inl rfl) ?_)
     ((conv=>whnf);refine Nx.mk (i+1) (by omega) (by omega) ?_)
     rw[hst]
     exact wC
 ·obtain rfl:i=most:=by omega
  repeat'(first|refine gD ?_|fail)
  refine bK.mk rfl ?_ ?_
  ·rfl
  ·exact wC
end Go.Proofs.YtplcalfnngkffaaGreat.Ab
/- Relief: the reference's. No condition. -/
namespace Go.Proofs.YtplcalfnngkffaaGreat.Ab
open Go.RowKit
set_option maxRecDepth 20000
set_option maxHeartbeats 4000000
theorem tW (h:ac) (m:Nat) (hi:df h []) (hr:eX h.Kernel.Refuse) (hml:aK.sml h.Mail) (hfs:aD.sml h.Kernel.Machine.Frames) (hm20:m≤20):aV Tryz.prog 85 false [.ptr (fe h),.val none [I (m:Nat)]] [.ptr (fe (cn (qx h h.Caches.length) m).1),.val none [I (m:Nat)]] .one [I (du h.Kernel.Machine.Frames - du (cn (qx h h.Caches.length) m).1.Kernel.Machine.Frames)]:=by
 have c7:=nq h.Kernel.Machine.Frames hfs
 have b7:=iS h.Kernel.Machine.Frames hi.lens.used
 obtain⟨v,hv⟩ : ∃ v,du h.Kernel.Machine.Frames=v:=⟨_,rfl⟩
 rw[hv]at c7 b7 ⊢
 have hcl:=hi.lens.caches
 refine fM 38 [(190,[2,0]),(191,[2,0])] [] [(0,0),(0,0)] Tryz.func85 rfl (fun u q=>?_)
 repeat'(first|refine gO ?_|(conv=>whnf);first|refine Cl.eq (c7) ⟨⟨rfl,aD.enc_fz _⟩,trivial⟩ ?_)
 (conv=>whnf)
 refine Lp.mk (ι:=Nat) (fun t=>[(0,.hold .box (fe (qx h t))),(1,.hold .one [I ((m:Nat):Int)]),(5,.hold .one [I (v)]),(6,.hold .one [I ((t:Nat):Int)])]) (fun t=>t≤h.Caches.length) (fun t=>h.Caches.length - t) (0) ?_ (Nat.zero_le _) fun t ht=>?_
 ·exact wC
 have hi':=hi
 have hr':=hr
 have hml':=hml
 have s:=vC hi' t (by assumption)
 have sc:=s.caches
 by_cases lt:t<h.Caches.length
 ·have c5:=yd (qx h t) t s.inv (by rw[s.caches];exact lt)
  obtain⟨g,hg⟩ : ∃ g,aU t (qx h t) 4=g:=⟨_,rfl⟩
  have hn:qx h (t+1)=g.1:=congrArg Prod.fst hg
  rw[hg]at c5
  repeat'(first|refine gD ?_|(conv=>whnf);first|refine er.mk (c5) (.inl rfl) ?_)
  ((conv=>whnf);refine Nx.mk (t+1) (by omega) (by omega) ?_)
  rw[hn]
  exact wC
 ·obtain rfl:t=h.Caches.length:=by omega
  have c6:=Du (qx h h.Caches.length) m s.inv (by rw[s.ref];exact hr) (by rw[s.mail];exact hml) hm20
  have sa:=mQ s.inv (by rw[s.ref];exact hr) (by rw[s.mail];exact hml) m
  have c8:=nq (cn (qx h h.Caches.length) m).1.Kernel.Machine.Frames sa.fit.sml.1.1.1
  have b8:=iS (cn (qx h h.Caches.length) m).1.Kernel.Machine.Frames (by have:=aY.1 (aJ.1 sa.fit.ker).2.1;omega)
  generalize cn (qx h h.Caches.length) m=g at c6 c8 b8 ⊢
  generalize qx h h.Caches.length=f at c6 sc ⊢
  repeat'(first|refine gD ?_|(conv=>whnf);first|refine Cl.eq (c8) ⟨⟨rfl,aD.enc_fz _⟩,trivial⟩ ?_|refine er.mk (c6) (.inl rfl) ?_)
  refine bK.mk rfl ?_ ?_
  ·rfl
  ·exact wC
theorem A8 (h:ac) (most:Int) (hs:ac.sml h) (hw:ac.wf h):ah Tryz.prog 23 false [.val (some 24) (ac.enc .imm h),.val none [I most]] (.tup [some 24,none]) (ac.enc .own (relieve h most).1++[I (relieve h most).2]):=by
 have c1:=tC h hs hw
 have c2:=qY h hs
 have c4:=aO most 0 20
 unfold relieve
 cases e:qO h most with
 | false=>
  rw[if_neg (by simp)]
  unfold qO at e
  refine fP 30 [(2000004,[6,21]),(85,[2,0])] [] Tryz.func23 rfl ?_ (.inr (aP (ac.enc_fr _) ⟨trivial,trivial⟩))
  cases e1:ee h<;>rw[e1]at c1 e
  ·repeat'(first|refine gO ?_|(conv=>whnf);first|refine Cl.mk (c1) ?_|refine Cl.mk (c2) ?_)
   rfl
  ·by_cases e2:h.Kernel.Calls≤90000
   ·rw[decide_eq_true e2,Bool.true_and,Bool.true_and]at e
    rw[e]at c4
    repeat'(first|refine gD ?_|(conv=>whnf);first|refine Cl.mk (c1) ?_|refine Cl.mk (c2) ?_|refine Cl.mk (c4) ?_)
    rfl
   ·repeat'(first|refine gD ?_|(conv=>whnf);first|refine Cl.mk (c1) ?_|refine Cl.mk (c2) ?_)
    rfl
 | true=>
  rw[if_pos rfl]
  unfold qO at e
  simp only[Bool.and_eq_true,decide_eq_true_eq]at e
  obtain⟨e1,e2,e3,e4⟩:=e
  rw[e1]at c1
  rw[decide_eq_true ⟨e3,e4⟩]at c4
  have hi:=df.of e1
  have hr:eX h.Kernel.Refuse:=hw.1.2.2
  have hml:aK.sml h.Mail:=hs.2.2.2.2.2.2.1
  obtain⟨m,rfl⟩:=Int.eq_ofNat_of_zero_le e3
  simp only[Int.toNat_natCast]
  have c5:=tW h m hi hr hml hs.1.1.1 (by omega)
  have s:=vC hi h.Caches.length (Nat.le_refl _)
  have sa:=mQ s.inv (by rw[s.ref];exact hr) (by rw[s.mail];exact hml) m
  have c6:=qY _ sa.fit.sml
  generalize cn (qx h h.Caches.length) m=g at c5 c6 ⊢
  refine fP 30 [(2000004,[6,21]),(85,[2,0])] [] Tryz.func23 rfl ?_ (.inr (aP (ac.enc_fr _) ⟨trivial,trivial⟩))
  repeat'(first|refine gD ?_|(conv=>whnf);first|refine Cl.mk (c1) ?_|refine Cl.mk (c2) ?_|refine Cl.mk (c4) ?_|refine er.mk (c5) (.inl rfl) ?_|refine Cl.eq (c6) ⟨⟨rfl,fY _⟩,trivial⟩ ?_|refine LM.mk rfl (List.cons.inj (dO _)).1 rfl ?_)
  rfl
end Go.Proofs.YtplcalfnngkffaaGreat.Ab
/- A function's contract out of the abstract run of its body, where what it is handed is given away: nothing of it comes back. No condition. -/
namespace Go.Proofs.YtplcalfnngkffaaGreat.Ab
open Go.RowKit
def GW:List MA→Bool
 | []=>true
 | .ptr _::_=>false
 | _::A=>GW A
def G0:MA→MA
 | .mut ag cs=>.mut ag (List.replicate cs.length .x)
 | m=>m
def x4:Nat→List MA→List (Nat × AV)
 | _,[]=>[]
 | i,.val ag cs::A=>(i,.hold (jc ag) cs)::x4 (i+1) A
 | i,.mut ag cs::A=>(i,.hold (jc ag) cs)::x4 (i+1) A
 | i,.ptr cs::A=>(i,.hold .box cs)::x4 (i+1) A
def MC:MA→AV
 | .val ag cs=>.hold (jc ag) cs
 | .mut ag cs=>.hold (jc ag) cs
 | .ptr cs=>.hold .box cs
def NT (TE:Nat→Option TI) (rs:List ResultVar) (k:Kd) (rcs:List C):Exit→(Nat→AV)→Prop:=fun e F=>
 match e with
 | .normal=>resA TE F rs [] fun sh cs=>bK (fS sh) k cs rcs True
 | .ret=>resA TE F rs [] fun sh cs=>bK (fS sh) k cs rcs True
 | _=>False
section
variable {P:Program} {w0 w w1:World} {M S0 S:ab} {N:fF} {φ:Nat→ab} {F:Nat→AV} {a:Act} {TE:Nat→Option TI}
theorem yI:∀ {A:List MA} {vs:List Value} {V:Nat→ab} (i:Nat),J1 w S V A vs→∀ t,(lay (x4 i A) t=.dead)∨(∃ m v,i≤t∧vs[t - i]? = some v∧A[t - i]? = some m∧lay (x4 i A) t=MC m∧nC w S (V (t - i)) m v)
 | [],_,_,i,_,t=>.inl rfl
 | m::A,[],_,i,h,t=>h.elim
 | m::A,v::vs,V,i,h,t=>by
  have hl:lay (x4 i (m::A)) t=bif Nat.beq t i then MC m else lay (x4 (i+1) A) t:=by cases m<;>rfl
  rw[hl]
  cases hb:Nat.beq t i with
  | true=>
   have:=Nat.eq_of_beq_eq_true hb
   subst this
   exact .inr ⟨m,v,Nat.le_refl _,by simp,by simp,rfl,by rw[Nat.sub_self];exact h.1⟩
  | false=>
   have hne:t≠i:=fun e=>by subst e;rw[Nat.beq_refl]at hb;cases hb
   rcases yI (i+1) h.2 t with h1|⟨m',v',h1,h2,h3,h4,h5⟩
   ·exact .inl h1
   ·refine .inr ⟨m',v',by omega,?_,?_,h4,?_⟩
    ·rw[show t - i=(t - (i+1))+1 by omega];simpa using h2
    ·rw[show t - i=(t - (i+1))+1 by omega];simpa using h3
    ·rw[show t - i=(t - (i+1))+1 by omega];exact h5
theorem v6 {w':World} {S':ab} : ∀ {A:List MA} {vs:List Value} {V:Nat→ab},GW A=true→J1 w S V A vs→Ar w' S' (fun _=>NO) (A.map G0) vs
 | [],[],_,_,_=>trivial
 | [],_::_,_,_,h=>h.elim
 | _::_,[],_,_,h=>h.elim
 | .ptr _::_,_::_,_,hn,_=>by cases hn
 | .val ag cs::A,v::vs,V,hn,h=>⟨trivial,v6 (A:=A) hn h.2⟩
 | .mut ag cs::A,v::vs,V,hn,h=>by
  refine⟨?_,v6 (A:=A) hn h.2⟩
  obtain⟨e1,e2,e3⟩:=bv.celF (show bv w S (V 0) ag cs v from h.1)
  refine⟨by rw[List.length_replicate];exact e1,celF v,e2,fun _=>NO,fun j c hj=>?_,fun _ _ _ _ h=>h.elim,fun _ _ _ _ _ _ _ h=>h.elim⟩
  obtain⟨hl,rfl⟩:=List.getElem?_replicate.symm.trans hj |> fun h=>by
   rw[←List.getElem?_replicate]at h
   have hl:=(List.getElem?_eq_some_iff.1 h).1
   rw[List.length_replicate]at hl
   rw[List.getElem?_replicate,if_pos hl]at h
   exact And.intro hl (Option.some.inj h).symm
  exact .x _ _ (e3.one hl)
theorem Hx {f : Nat} {fn : Func} {c : Code} {A : List MA} {k : Kd} {rcs : List C} {mo : List (Nat × List Nat)} {n : Nat} (hTE : ∀ t i, TE t = some i → bA P t i) (hf : P.funcs[f]? = some fn) (hn : (fn.name == "runtime.NumGoroutine") = false)
  (hb:fn.body=some c) {ck:Nat→Array Oper→Bool} {D:fF→Nat→Array Oper→((Nat→AV)→Prop)→(Nat→AV)→Prop} (hD:∀ N,uL P N ck (D N)) (hc:fT ck c=true) (hN:A.length+(fn.ntmps - A.length)=n) (hnp:GW A=true) (hfr:gq rcs)
  (hp:aw P TE ⟨n,[],mo⟩ (D ⟨n,[],mo⟩) c (NT TE fn.results.toList k rcs) (lay (x4 0 A))):aV P f false A (A.map G0) k rcs:=by
 refine⟨⟨fn,hf,hn,by rw[hb];rfl⟩,fun w S V vs hS hV hVd hA=>?_⟩
 have hlen:=Aa hA
 refine calls_of_wp hf hb ?_
 have htv:∀ t v,vs[t]? = some v→tvs {tmps:=vs.toArray++Array.replicate (fn.ntmps - vs.toArray.size) undef,defers:=[]} t=v:=fun t v h2=>by
  have hlt:=(List.getElem?_eq_some_iff.1 h2).1
  simp only[tvs,Array.getD_eq_getD_getElem?]
  rw[Array.getElem?_append_left (by simpa using hlt)]
  simp only[List.getElem?_toArray]
  rw[h2];rfl
 have hst:St w (fun b o=>∃ i,V i b o) S ⟨n,[],mo⟩ (lay (x4 0 A)) {tmps:=vs.toArray++Array.replicate (fn.ntmps - vs.toArray.size) undef,defers:=[]} w:=by
  refine⟨S,V,fun t=>?_,hVd,fun t b o h=>(hV t b o h).2,fun t b o h=>⟨(hV t b o h).1,.inr ⟨t,h⟩⟩,fun _ _ h=>h,fun b o h=>⟨hS b o h,.inl h⟩,bw.refl _ _,by simp;omega,rfl,fun q hq=>by simp at hq⟩
  rcases yI 0 hA t with h1|⟨m,v,-,h2,h2',h3,h4⟩
  ·rw[h1];trivial
  ·rw[h3]
   rw[Nat.sub_zero]at h2 h4
   rw[htv t v h2]
   cases m with
   | val ag cs=>exact(bv.mono (show bv w S NO ag cs v from h4) (fun _ _ h=>h) (fun _ _ h=>h.elim)).slot
   | «mut» ag cs=>exact bv.slot (show bv w S (V t) ag cs v from h4)
   | ptr cs=>exact h4
 refine iv hTE (hD _) c hc _ _ _ _ w hp hst fun e F' a' w' he hs'=>?_
 obtain⟨S',φ',h⟩:=hs'
 have fin:resA TE F' fn.results.toList [] (fun sh cs=>bK (fS sh) k cs rcs True)→a'.defers=[]∧∃ v,(results fn a'.tmps).run P w'=.ok v w'∧(∃ v',Ending.returned v=.returned v'∧bw (fun b o=>∃ i,V i b o) w w'∧∃ (X:ab) (V':Nat→ab) (S1:ab),
     (∀ b o,X b o→(∃ i,V i b o)∨(b<w'.heap.size∧w.heap.size≤b))∧(∀ i b o,V' i b o→(∃ i,V i b o)∨(b<w'.heap.size∧w.heap.size≤b))∧
     (∀ b o,S1 b o→(false=true∧S b o)∨(∃ i,V i b o)∨(b<w'.heap.size∧w.heap.size≤b))∧
     (∀ i i',i≠i'→∀ b o,V' i b o→¬V' i' b o)∧(∀ i b o,X b o→¬V' i b o)∧(∀ b o,X b o→¬S1 b o)∧(∀ i b o,V' i b o→¬S1 b o)∧
     fy w' NO k rcs.length v'∧co w' S1 X rcs (bR w' k v')∧Ar w' (fun b o=>S b o∨S1 b o) V' (A.map G0) vs):=by
  intro hr
  obtain⟨shs,cs,vs',u',hfin,hrun,hT,hln,hL,hcells,hone,hrow⟩:=h.resA hTE hr
  obtain⟨rfl,rfl,-⟩:=hfin.out
  refine⟨h.defers,?_⟩
  have hrun2:(results fn a'.tmps).run P w'=.ok (if h:vs'.toArray.size=1 then vs'.toArray[0] else .tuple vs'.toArray) w':=by
   have e:results fn a'.tmps=(do let vs ←fn.results.mapM (yr a'.tmps);pure (if h:vs.size=1 then vs[0] else .tuple vs)):=by
    unfold results
    congr 1
   rw[e,←Array.toArray_toList (xs:=fn.results),List.mapM_toArray]
   simp only[Sem.run_bind,Sem.run_map,hrun,Result.andThen_ok,Sem.run_pure]
  have hex:∀ t b o,φ' t b o→(∃ i,V i b o)∨(b<w'.heap.size∧w.heap.size≤b):=fun t b o hb=>(h.ex t b o hb).2.elim (fun h'=>.inr ⟨(h.ex t b o hb).1,h'⟩) .inl
  refine⟨_,hrun2,_,rfl,h.old,fun b o=>∃ t,t∉([]:List Nat)∧φ' t b o,fun _=>NO,NO,fun b o ⟨t,_,hb⟩=>hex t b o hb,fun _ _ _ h=>h.elim,fun _ _ h=>h.elim,fun _ _ _ _ _ h=>h.elim,fun _ _ _ _ h=>h.elim,fun _ _ _ h=>h.elim,fun _ _ _ h=>h.elim,?_⟩
  have hk:fy w' NO (fS shs) cs.length (if h:vs'.toArray.size=1 then vs'.toArray[0] else .tuple vs'.toArray)∧co w' S' (fun b o=>∃ t,t∉([]:List Nat)∧φ' t b o) cs (bR w' (fS shs) (if h:vs'.toArray.size=1 then vs'.toArray[0] else .tuple vs'.toArray)):=by
   match shs,hT,hone,hL with
   | [],hT,_,hL=>
    cases vs' with
    | cons _ _=>exact hT.elim
    | nil=>
     have:cs=[]:=List.eq_nil_of_length_eq_zero (by simpa[o6] using hL.symm)
     subst this
     exact⟨⟨_,rfl,trivial,rfl⟩,co.nil _ _ _ _⟩
   | [ag],_,hone,_=>
    obtain⟨v,rfl,hv⟩:=hone ag rfl
    have:=hv.slot (F:=F') (tv:=tvs a')
    obtain⟨X1,Y,h1,h2,h3,h4,h5⟩:=this
    refine⟨?_,h5.mono (fun _ _ h=>h) h2⟩
    cases ag<;>exact h4
   | ag::ag2::sh,hT,_,hL=>
    have hsz:¬vs'.toArray.size=1:=by
     match vs',hT with
     | [],hT=>simp
     | [v],hT=>cases ag<;>cases ag2<;>exact hT.2.elim
     | _::_::_,_=>simp
    rw[dif_neg hsz]
    refine⟨⟨_,rfl,hT,hL⟩,hrow.congr fun j hj=>?_⟩
    simp only[bR,fS,kF,hcells]
    simp[List.getD,hj]
  exact⟨hk.1,(hk.2.fresh hfr).mono (fun _ _ h=>h.elim) (fun _ _ h=>h),v6 hnp hA⟩
 cases e with
 | normal=>exact fin he
 | ret=>exact fin he
 | _=>exact he.elim
end
theorem NK {n f : Nat} {mo : List (Nat × List Nat)} {fn : Func} {c : Code} {A : List MA} {k : Kd} {rcs : List C} (hf : Tryz.prog.funcs[f]? = some fn) (hn : (fn.name == "runtime.NumGoroutine") = false) (hb : fn.body = some c) {tb : List (Nat × Nat × List Nat)} (hc : fT (ne tb) c = true)
  (hN:A.length+(fn.ntmps - A.length)=n) (hnp:GW A=true) (hfr:gq rcs) (hp:aw Tryz.prog TE ⟨n,[],mo⟩ (DF Tryz.prog TE ⟨n,[],mo⟩ tb) c (NT TE fn.results.toList k rcs) (lay (x4 0 A))):aV Tryz.prog f false A (A.map G0) k rcs:=
 Hx vB hf hn hb (fun N=>pZ vB pX N tb) hc hN hnp hfr hp
end Go.Proofs.YtplcalfnngkffaaGreat.Ab
/- Jobs to their end, relief: the program's, what is returned the call's own. No condition. -/
namespace Go.Proofs.YtplcalfnngkffaaGreat.Ab
open Go.RowKit
set_option maxRecDepth 20000
set_option maxHeartbeats 4000000
theorem HJ {w:World} {S Y:ab} {h:ac} {t:List C} {u:Nat→Value} (hr:co w S Y (ac.enc .own h++t) u):co w S Y (eN h++t) u:=by
 obtain⟨f,h1,h2,h3⟩:=hr
 refine⟨f,fun j c hj=>?_,h2,h3⟩
 have hz:eN h++t=(((ac.enc .own h++t).set 6 (oS h)).set 7 (oL h)).set 8 (oO h):=rfl
 rw[hz]at hj
 by_cases e8:j=8
 ·subst e8
  have:c=oO h:=by simpa[ac.enc] using hj.symm
  rw[this];exact sP (h1 8 _ rfl)
 by_cases e7:j=7
 ·subst e7
  have:c=oL h:=by simpa[ac.enc] using hj.symm
  rw[this];exact sP (h1 7 _ rfl)
 by_cases e6:j=6
 ·subst e6
  have:c=oS h:=by simpa[ac.enc] using hj.symm
  rw[this];exact sP (h1 6 _ rfl)
 ·rw[List.getElem?_set_ne (by omega),List.getElem?_set_ne (by omega),List.getElem?_set_ne (by omega)]at hj
  exact h1 j c hj
theorem ah.E {P:Program} {f:Nat} {sh:Bool} {A:List RA} {k:Kd} {h:ac} {t:List C} (c:ah P f sh A k (ac.enc .own h++t)):ah P f sh A k (eN h++t):=by
 obtain⟨h1,h2⟩:=c
 refine⟨h1,fun w S vs hS hA=>(h2 w S vs hS hA).mono fun e w1 hv=>?_⟩
 obtain⟨v,he,hk,X,S1,a1,a2,a3,a4,a5⟩:=hv
 exact⟨v,he,hk,X,S1,a1,a2,a3,a4,HJ a5⟩
theorem LF {h:ac} (hm:h.Meshing=true):eN h=(eN h).set 18 (B true):=by rw[←hm];rfl
theorem Gw {h:ac} (hm:h.Meshing=false):eN h=(eN h).set 18 (B false):=by rw[←hm];rfl
theorem BB (h:ac) (hi:df h []) (hr:eX h.Kernel.Refuse) (hml:aK.sml h.Mail) (hc:h.Kernel.Calls≤98000):aV Tryz.prog 206 false [.mut (some 24) (eN h)] [.mut (some 24) (List.replicate 24 .x)] (.tup [some 24,none]) (eN (fin h).1++[B (fin h).2]):=by
 refine NK (n:=29) (mo:=[]) (tb:=[]) Tryz.func206 (by kernel_rfl) rfl (by kernel_rfl) (by rfl) rfl (aP (lb _) ⟨trivial,trivial⟩) ?_
 repeat'(first|refine gO ?_|fail)
 (conv=>whnf)
 refine Lp.mk (ι:=Nat) (fun i=>[(1,.hold .box (eN (dS h i).1)),(2,.hold .box uY),(4,.hold .one [I ((i:Nat):Int)])]) (fun i=>i≤100∧(dS h i).2=false) (fun i=>100 - i) (0) ?_ (⟨Nat.zero_le _,rfl⟩) fun i hi=>?_
 ·exact wC
 obtain⟨hi',h2⟩:=hi
 have s:=rJ (by assumption) hr hml i
 by_cases li:i<100
 ·cases hm:(dS h i).1.Meshing with
  | false=>
   have hf:=EG hm hi'
   rw[Gw hm]
   repeat'(first|refine gD ?_|fail)
   refine bK.mk rfl ?_ trivial
   rw[hf,h2,Gw hm]
   rfl
  | true=>
   have hn:=yF hm
   have sc:=s.calls
   have c1:=(yg (dS h i).1 (s.inv h2) hm s.fit.sml (by omega)).E
   have hz:=jY (dS h i).1
   rw[LF hm]at hz ⊢
   cases hd:ni (dS h i).1 with
   | true=>
    rw[hd]at hn
    have hp:NJ (dS h i).1=4:=of_decide_eq_true hd
    have hf:=EG (h:=h) (i:=i+1) (by rw[hn];have s2:=rJ (by assumption) hr hml (i+1);rw[hn]at s2;exact s2.done rfl) (by omega)
    rw[hf,hn]
    repeat'(first|refine gA ?_|(conv=>whnf);first|refine Cl.eq (c1) ⟨⟨rfl,hz⟩,trivial⟩ ?_)
    exact bK.mk rfl rfl trivial
   | false=>
    rw[hd]at hn
    have hp:¬NJ (dS h i).1=4:=of_decide_eq_false hd
    have hn1:mStep (dS h i).1=(dS h (i+1)).1:=by rw[hn]
    repeat'(first|refine gA ?_|(conv=>whnf);first|refine Cl.eq (c1) ⟨⟨rfl,hz⟩,trivial⟩ ?_)
    ((conv=>whnf);refine Nx.mk (i+1) ⟨by omega,by rw[hn]⟩ (by omega) ?_)
    rw[←hn1]
    exact wC
 ·obtain rfl:i=100:=by omega
  repeat'(first|refine gD ?_|fail)
  refine bK.mk rfl ?_ trivial
  rw[←h2]
  rfl
theorem FI (rows:List (List C)):Nb (oE rows)=oE rows:=by cases rows<;>rfl
theorem Pz (h:ac):Pj (.mut (some 24) (eN h))=.mut (some 24) (eN h):=by
 show MA.mut (some 24) (cE h (Nb (oS h)) (Nb (oL h)) (Nb (oO h)))=_
 unfold oS oL oO
 rw[FI,FI,FI]
 rfl
theorem tQ (h:ac) (hi:df h []) (hr:eX h.Kernel.Refuse) (hml:aK.sml h.Mail) (hc:h.Kernel.Calls≤98000):aV Tryz.prog 206 false [Pj (.mut (some 24) (eN h))] [.mut (some 24) (List.replicate 24 .x)] (.tup [some 24,none]) (eN (fin h).1++[B (fin h).2]):=by
 rw[Pz];exact BB h hi hr hml hc
theorem HV (h:ac) (most:Nat) (hi:df h []) (hr:eX h.Kernel.Refuse) (hml:aK.sml h.Mail) (hc:h.Kernel.Calls≤90000) (hm:most≤20):ah Tryz.prog 96 false [.val (some 24) (ac.enc .imm h),.val none [I (most:Nat)]] (.tup [some 24,none]) (eN (cn h most).1++[I ((cn h most).2:Nat)]):=by
 have hft:=hi.fit hr hml
 have c1:=kI h hft.sml
 have c2:=hP h hft.sml
 rw[ka,hi.to]at c2
 have c3:=tQ h hi hr hml (by omega)
 have c4:=aL ((most:Nat):Int) 0 20
 rw[decide_eq_true (by omega)]at c4
 refine fP 58 [(206,[1])] [] Tryz.func96 rfl ?_ (.inr (aP (lb _) ⟨trivial,trivial⟩))
 cases hb:(fin h).2<;>rw[hb]at c3
 all_goals
  have hz:cn h 0=((fin h).1,(fin h).2.toNat):=rfl
  rw[hb]at hz
  repeat'(first|refine gD ?_|(conv=>whnf);first|refine Cl.mk (c1) ?_|refine Cl.mk (c2) ?_|refine Cl.mk (c4) ?_|refine er.mk (c3) (.inl rfl) ?_)
  (conv=>whnf)
  refine Lp.mk (ι:=Nat) (fun i=>[(1,.hold .one [I (((most:Nat):Int) - (i:Nat))]),(4,.hold .box uY),(6,.hold .box (eN (cn h i).1)),(7,.hold .one [I ((cn h i).2:Nat)])]) (fun i=>i≤most) (fun i=>most - i) 0 ?_ (Nat.zero_le _) fun i hi'=>?_
  ·rw[hz]
   exact wC
  have s:=mQ hi hr hml i
  have sc:=s.calls
  have sn:=s.cnt
  obtain⟨m1,m2,m3,m4⟩:=ze s.fit (by rw[s.ref];exact hr) (by rw[s.mail];exact hml)
  by_cases li:i<most
  ·have c5:=wN (cn h i).1 s.fit.sml
   have hst:cn h (i+1)=if(cW (cn h i).1).2=true then((fin (cW (cn h i).1).1).1,(cn h i).2+(fin (cW (cn h i).1).1).2.toNat) else((cW (cn h i).1).1,(cn h i).2):=rfl
   cases e:(cW (cn h i).1).2 with
   | false=>
    rw[e]at c5 hst
    rw[if_neg (by simp)]at hst
    repeat'(first|refine gD ?_|(conv=>whnf);first|refine Cl.eq (c5) ⟨⟨rfl,jY _⟩,trivial⟩ ?_)
    ((conv=>whnf);refine Nx.mk (i+1) (by omega) (by omega) ?_)
    rw[hst]
    exact wC
   | true=>
    rw[e]at c5 hst
    rw[if_pos rfl]at hst
    have c6:=tQ (cW (cn h i).1).1 (m4 e) (by rw[m2,s.ref];exact hr) (by rw[m3,s.mail];exact hml) (by rw[m2];omega)
    cases hb2:(fin (cW (cn h i).1).1).2<;>rw[hb2]at c6 hst
    all_goals
     repeat'(first|refine gD ?_|(conv=>whnf);first|refine Cl.eq (c5) ⟨⟨rfl,jY _⟩,trivial⟩ ?_|refine er.mk (c6) (.inl rfl) ?_)
     ((conv=>whnf);refine Nx.mk (i+1) (by omega) (by omega) ?_)
     rw[hst]
     exact wC
  ·obtain rfl:i=most:=by omega
   repeat'(first|refine gD ?_|fail)
   rfl
end Go.Proofs.YtplcalfnngkffaaGreat.Ab
/- Relief: the program's, what is returned the call's own. No condition. -/
namespace Go.Proofs.YtplcalfnngkffaaGreat.Ab
open Go.RowKit
set_option maxRecDepth 20000
set_option maxHeartbeats 4000000
theorem Ht (h:ac) (most:Int) (hs:ac.sml h) (hw:ac.wf h):ah Tryz.prog 25 false [.val (some 24) (ac.enc .imm h),.val none [I most]] (.tup [some 24,none]) (eN (relieve h most).1++[I (relieve h most).2]):=by
 have c1:=kI h hs
 have c2:=hP h hs
 rw[ka]at c2
 have c4:=aL most 0 20
 refine fO 56 [(10,268,[44,45,46,47,48,49,50,51,52,53,54,55,0,1,2,3,4,5,6,7,8,9,10,11,12,1011,13])] Tryz.func25 rfl ?_ (.inr (aP (lb _) ⟨trivial,trivial⟩))
 unfold relieve
 cases e:qO h most with
 | false=>
  rw[if_neg (by simp)]
  unfold qO at e
  cases e1:ee h<;>rw[e1]at c2 e
  ·repeat'(first|refine gO ?_|(conv=>whnf);first|refine Sm.rf ?_|refine Cl.mk (c1) ?_|refine Cl.mk (c2) ?_)
   rfl
  ·by_cases e2:h.Kernel.Calls≤90000
   ·rw[decide_eq_true e2,Bool.true_and,Bool.true_and]at e
    rw[e]at c4
    repeat'(first|refine gD ?_|(conv=>whnf);first|refine Sm.rf ?_|refine Cl.mk (c1) ?_|refine Cl.mk (c2) ?_|refine Cl.mk (c4) ?_)
    rfl
   ·repeat'(first|refine gD ?_|(conv=>whnf);first|refine Sm.rf ?_|refine Cl.mk (c1) ?_|refine Cl.mk (c2) ?_)
    rfl
 | true=>
  rw[if_pos rfl]
  unfold qO at e
  simp only[Bool.and_eq_true,decide_eq_true_eq]at e
  obtain⟨e1,e2,e3,e4⟩:=e
  rw[e1]at c2
  rw[decide_eq_true ⟨e3,e4⟩]at c4
  have hi:=df.of e1
  have hr:eX h.Kernel.Refuse:=hw.1.2.2
  have hml:aK.sml h.Mail:=hs.2.2.2.2.2.2.1
  obtain⟨m,rfl⟩:=Int.eq_ofNat_of_zero_le e3
  simp only[Int.toNat_natCast]
  have hcl:=hi.lens.caches
  repeat'(first|refine gD ?_|(conv=>whnf);first|refine Sm.rf ?_|refine Cl.mk (c1) ?_|refine Cl.mk (c2) ?_|refine Cl.mk (c4) ?_)
  (conv=>whnf)
  refine Lp.mk (ι:=Nat) (fun t=>[(1,.hold .one [I ((m:Nat):Int)]),(2,.hold .box (ac.enc .imm h)),(4,.hold .box uY),(6,.hold .box (eN (qx h t))),(27,.hold .one [I ((h.Caches.length:Nat):Int)]),(28,.hold .one [I ((t:Nat):Int)])]) (fun t=>t≤h.Caches.length) (fun t=>h.Caches.length - t) (0) ?_ (Nat.zero_le _) fun t ht=>?_
  ·exact wC
  have s:=vC hi t ht
  have hft:=s.inv.fit (by rw[s.ref];exact hr) (by rw[s.mail];exact hml)
  by_cases lt:t<h.Caches.length
  ·have c5:=vM (qx h t) t hft.sml s.inv.to (by rw[s.calls];omega) (by rw[s.caches];exact lt)
   obtain⟨g,hg⟩ : ∃ g,aU t (qx h t) 4=g:=⟨_,rfl⟩
   have hn:qx h (t+1)=g.1:=congrArg Prod.fst hg
   rw[hg]at c5
   repeat'(first|refine gD ?_|(conv=>whnf);first|refine Sm.rf ?_|refine Cl.eq (c5) ⟨⟨rfl,jY _⟩,⟨rfl,rfl⟩,trivial⟩ ?_)
   ((conv=>whnf);refine Nx.mk (t+1) (by omega) (by omega) ?_)
   rw[hn]
   exact wC
  ·obtain rfl:t=h.Caches.length:=by omega
   have c6:=HV (qx h h.Caches.length) m s.inv (by rw[s.ref];exact hr) (by rw[s.mail];exact hml) (by rw[s.calls];exact e2) (by omega)
   have sa:=mQ s.inv (by rw[s.ref];exact hr) (by rw[s.mail];exact hml) m
   have c7:=nw h.Kernel.Machine.Frames hs.1.1.1
   have c8:=nw (cn (qx h h.Caches.length) m).1.Kernel.Machine.Frames sa.fit.sml.1.1.1
   have b7:=iS h.Kernel.Machine.Frames hi.lens.used
   have b8:=iS (cn (qx h h.Caches.length) m).1.Kernel.Machine.Frames (by have:=aY.1 (aJ.1 sa.fit.ker).2.1;omega)
   generalize cn (qx h h.Caches.length) m=g at c6 c8 b8 ⊢
   generalize qx h h.Caches.length=f at c6 ⊢
   repeat'(first|refine gD ?_|(conv=>whnf);first|refine Sm.rf ?_|refine Cl.eq (c6) ⟨⟨rfl,jY _⟩,⟨rfl,rfl⟩,trivial⟩ ?_|refine Cl.eq (c8) ⟨⟨rfl,aD.enc_fz _⟩,trivial⟩ ?_|refine Cl.mk (c7) ?_|refine Sm.rf ?_)
   rfl
end Go.Proofs.YtplcalfnngkffaaGreat.Ab
