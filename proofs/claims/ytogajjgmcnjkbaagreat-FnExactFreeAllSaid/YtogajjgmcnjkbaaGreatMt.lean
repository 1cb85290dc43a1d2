/- The library's Delete of one element, at rows of several cells. No condition. -/
import Derived.Test.YtogajjgmcnjkbaaGreatMp
import Derived.Deep.LoopGhost
import Derived.Deep.RegionLaw
import Derived.Lib.Walk
import Derived.Sort.WalkB12
import Derived.Lib.SliceRun
import Derived.Shelf.RegionOpenPlain
import Derived.Test.YtogajjgmcnjkbaaGreatMs
namespace Go.Proofs.YtogajjgmcnjkbaaGreat.Ab
open Go.RowKit
set_option maxRecDepth 20000
set_option maxHeartbeats 4000000
def oE (rows:List (List C)):C:=match rows with|[]=>.s .imm []|_=>.s .own rows
theorem zU {rows:List (List C)} (h:rows≠[]):oE rows=.s .own rows:=by cases rows with|nil=>exact absurd rfl h|cons=>rfl
theorem vY {P:Program} (w:World) (t e k:Nat) (z:Value) (ht:P.underlying t=some (.slice e)) (hv:∀ w,(zeroValue e).run P w=.ok z w) (hk:z.cells.size=k) (h1:∀ v∈z.cells.toList,v.oneCell'=true) (b o n:Nat) (hn:0<n) (hk0:0<k)
  (hc:∀ j,j<n*k→(w.cell? ⟨b,o+j,none⟩).isSome=true) (hf:∀ j,j<n*k→w.frozen? ⟨b,o+j,none⟩ = false) :
  ∃ zs:List Value,zs.length=n*k∧(∀ v∈zs,v.oneCell'=true)∧∀ (ty:TypeId) (c:Nat),(Builtin.clear_ #[t] ty #[.slice (some ⟨b,o,none⟩) n c]).run P w=.ok (.tuple #[]) (w.setCells b o zs):=by
 subst hk
 have hlen:(Builtin.zeroCells z.cells n).toList.length=n*z.cells.size:=by simp[Builtin.zeroCells]
 have hone:∀ v∈(Builtin.zeroCells z.cells n).toList,v.oneCell'=true:=by
  intro v hv
  rw[Array.mem_toList_iff]at hv
  simp only[Builtin.zeroCells,Array.mem_map,Array.mem_range]at hv
  obtain⟨j,hj,rfl⟩:=hv
  have hjm:j % z.cells.size<z.cells.size:=Nat.mod_lt _ hk0
  rw[getElem!_pos z.cells (j % z.cells.size) hjm]
  exact h1 _ (Array.mem_toList_iff.2 (Array.getElem_mem hjm))
 refine⟨_,hlen,hone,fun ty c=>?_⟩
 have hst:=run_storeCells_cells (P:=P) b o (Builtin.zeroCells z.cells n).toList 0 w (fun j hj=>by simpa using hc j (by omega)) (fun j hj=>by simp) hone
 simp only[Nat.add_zero]at hst
 obtain⟨m,rfl⟩ : ∃ m,n=m+1:=⟨n - 1,by omega⟩
 simp[Builtin.clear_,run_underlying ht,hv,hst]
structure G0 (w w':World) (g k n i:Nat):Prop where
 keep:bu (fun b o=>b=g∧o<n*k) w w'
 lo:∀ q,q<i*k→cel w' g q=cel w g q
 mid:∀ q,i*k≤q→q<(n - 1)*k→cel w' g q=cel w g (q+k)
 hi:∀ q,(n - 1)*k≤q→q<n*k→∃ z,cel w' g q=some z∧z.oneCell'=true
 fro:∀ b q,fro w' b q=fro w b q
theorem bu.up {M M':ab} {w w':World} (h:bu M w w') (hm:∀ b o,M b o→M' b o):bu M' w w':=(bu.refl M' w).trans h fun b o hb=>.inr (hm b o hb)
theorem Bo (w:World):bu NO w w.drew:=⟨rfl,rfl,rfl,Nat.le_refl _,fun _ _ _=>rfl,fun _ _ _ _=>rfl,fun _ _ _ _=>rfl⟩
theorem Ek {w:World} {g k n i:Nat} {news zs:List Value} (hin:i<n) (hall:∀ q,q<n*k→∃ z,cel w g q=some z) (hl:news.length=(n - (i+1))*k) (hnews:∀ t u,news[t]? = some u→cel w g ((i+1)*k+t)=some u) (hz:zs.length=k) (hz1:∀ v∈zs,v.oneCell'=true) :
  G0 w ((w.drew.setCells g (i*k) news).setCells g ((n - 1)*k) zs) g k n i:=by
 have e1:i*k+(n - (i+1))*k=(n - 1)*k:=by rw[←Nat.add_mul];congr 1;omega
 have e2:(n - 1)*k+k=n*k:=by rw[show(n - 1)*k+k=(n - 1+1)*k by rw[Nat.add_mul,Nat.one_mul]];congr 1;omega
 have e3:(i+1)*k=i*k+k:=by rw[Nat.add_mul,Nat.one_mul]
 have c0:∀ b q,cel w.drew b q=cel w b q:=fun _ _=>rfl
 have hin1:∀ j,j<news.length→∃ z,cel w.drew g (i*k+j)=some z:=fun j hj=>by rw[c0];exact hall _ (by omega)
 have c1:∀ q,q<n*k→∃ z,cel (w.drew.setCells g (i*k) news) g q=some z:=fun q hq=>by
  by_cases h:i*k≤q∧q<i*k+news.length
  ·have:=cC hin1 (List.getElem?_eq_getElem (show q - i*k<news.length by omega))
   rw[show i*k+(q - i*k)=q by omega]at this
   exact⟨_,this⟩
  ·rw[bC (fun x=>h x.2),c0];exact hall q hq
 refine⟨?_,fun q hq=>?_,fun q h1 h2=>?_,fun q h1 h2=>?_,fun b q=>?_⟩
 ·have k1:=gi (g:=g) (X:=fun b o=>b=g∧o<n*k) news (i*k) w.drew fun j hj=>⟨rfl,by omega⟩
  have k2:=gi (g:=g) (X:=fun b o=>b=g∧o<n*k) zs ((n - 1)*k) (w.drew.setCells g (i*k) news) fun j hj=>⟨rfl,by omega⟩
  exact((Bo w).up fun _ _ h=>h.elim).trans (k1.trans k2 fun _ _ h=>.inr h) fun _ _ h=>.inr h
 ·rw[bC (by omega),bC (by omega)];rfl
 ·rw[bC (by omega)]
  obtain⟨u,hu⟩ : ∃ u,news[q - i*k]? = some u:=⟨_,List.getElem?_eq_getElem (by omega)⟩
  have h3:=cC hin1 hu
  have h4:=hnews _ u hu
  rw[show i*k+(q - i*k)=q by omega]at h3
  rw[show(i+1)*k+(q - i*k)=q+k by omega]at h4
  rw[h3,h4]
 ·obtain⟨u,hu⟩ : ∃ u,zs[q - (n - 1)*k]? = some u:=⟨_,List.getElem?_eq_getElem (by omega)⟩
  have h3:=cC (w:=w.drew.setCells g (i*k) news) (o:=(n - 1)*k) (vs:=zs) (fun j hj=>c1 _ (by omega)) hu
  rw[show(n - 1)*k+(q - (n - 1)*k)=q by omega]at h3
  exact⟨u,h3,hz1 u (List.mem_of_getElem? hu)⟩
 ·rw[ch,ch];rfl
def Jw (rows:List (List C)):Prop:=∀ r∈rows,∀ c∈r,∃ z,c=.v z
def wj (P:Program) (f k:Nat):Prop:=G7 P f∧∀ (w:World) (g n cap i:Nat) (news:List Value),i<n→n≤cap→news.length=(n - (i+1))*k→(∀ t u,news[t]? = some u→cel w g ((i+1)*k+t)=some u)→(∀ u∈news,u.oneCell'=true)→
 (∀ q,q<n*k→(w.cell? ⟨g,q,none⟩).isSome=true∧w.frozen? ⟨g,q,none⟩ = false)→
 Calls P f #[.slice (some ⟨g,0,none⟩) n cap,.int .i64 i,.int .i64 ((i+1:Nat):Int)] w fun e w'=>e=.returned (.slice (some ⟨g,0,none⟩) (n - 1) cap)∧∃ zs:List Value,zs.length=k∧(∀ v∈zs,v.oneCell'=true)∧w'=(w.drew.setCells g (i*k) news).setCells g ((n - 1)*k) zs
theorem B2 {P:Program} {f k:Nat} (hf:wj P f k) {rows:List (List C)} {i:Nat} (hi:i<rows.length) (hk:∀ r∈rows,r.length=k) (hsc:Jw rows) :
  bm P f false [.mut none [.s .own rows],.val none [I (i:Nat)],.val none [I ((i+1:Nat):Int)]] [.mut none [.x],.val none [I (i:Nat)],.val none [I ((i+1:Nat):Int)]] .one [oE (dele rows i)]:=by
 refine⟨hf.1,fun w S V vs hS hV hVV hA=>?_⟩
 match vs,hA with
 | [v,v1,v2],⟨hA,hA1,hA2,_⟩=>
  have hrep:=bo.rep1 (show bo w S (V 0) none [C.s .own rows] v from hA)
  have e1:v1=.int .i64 (i:Nat):=by
   have:=bo.rep1 (show bo w S NO none [C.v (.int .i64 (i:Nat))] v1 from hA1)
   cases this;rfl
  have e2:v2=.int .i64 ((i+1:Nat):Int):=by
   have:=bo.rep1 (show bo w S NO none [C.v (.int .i64 ((i+1:Nat):Int))] v2 from hA2)
   cases this;rfl
  subst e1 e2
  have hdl:(dele rows i).length=rows.length - 1:=by unfold dele;simp;omega
  generalize hcc:C.s .own rows=cc at hrep
  cases hrep with
  | nil _ o a ho=>cases hcc;simp at hi
  | own _ o g k' n cap rows' u f' ho hn hk' hcap hpos hF hu hff hd hc=>
   cases hcc
   have hkk:k'=k:=by rw[←hk' _ (List.getElem_mem hi),←hk _ (List.getElem_mem hi)]
   subst hkk
   have hval:∀ a b r c,rows[a]? = some r→r[b]? = some c→∃ z,c=.v z∧cel w g (a*k'+b)=some z:=fun a b r c ha hb=>by
    obtain⟨z,rfl⟩:=hsc r (List.mem_of_getElem? ha) c (List.mem_of_getElem? hb)
    have h1:=hc a b r _ ha hb
    have hlt:=wN hn hk' ha hb
    have h2:=hu (a*k'+b) (dW hlt.1 hlt.2)
    generalize u (a*k'+b)=y at h1 h2
    cases h1
    exact⟨_,rfl,h2⟩
   have hnk:n*k'≤cap*k':=Nat.mul_le_mul_right _ hcap
   have hone:∀ q,q<cap*k'→∃ z,cel w g q=some z∧z.oneCell'=true:=fun q hq=>(hF q hq).2.1
   have e3:(i+1)*k'+(n - (i+1))*k'=n*k':=by rw[←Nat.add_mul];congr 1;omega
   obtain⟨news,hnl,hnw,hn1⟩ : ∃ news:List Value,news.length=(n - (i+1))*k'∧(∀ t u,news[t]? = some u→cel w g ((i+1)*k'+t)=some u)∧∀ u∈news,u.oneCell'=true:=by
    refine⟨(List.range ((n - (i+1))*k')).map fun t=>(cel w g ((i+1)*k'+t)).getD undef,by simp,fun t y ht=>?_,fun y hy=>?_⟩
    ·have hl:=(List.getElem?_eq_some_iff.1 ht).1
     simp only[List.length_map,List.length_range]at hl
     rw[List.getElem?_map,List.getElem?_range hl]at ht
     obtain⟨z,hz,-⟩:=hone ((i+1)*k'+t) (by omega)
     rw[Option.map_some,hz]at ht
     rw[hz];simpa using ht
    ·obtain⟨t,ht,rfl⟩:=List.mem_map.1 hy
     have hl:=List.mem_range.1 ht
     obtain⟨z,hz,hz1⟩:=hone ((i+1)*k'+t) (by omega)
     rw[hz];exact hz1
   refine(hf.2 w g n cap i news (by omega) hcap hnl hnw hn1 (fun q hq=>?_)).mono fun e w' ⟨he,zs,z1,z2,hw'⟩=>?_
   ·obtain⟨a1,⟨z,a2,a3⟩,a4⟩:=hF q (by omega)
    exact⟨by show(cel w g q).isSome=true;rw[a2];rfl,congrArg Prod.fst a4⟩
   have hD:=Ek (w:=w) (by omega:i<n) (fun q hq=>by obtain⟨z,hz,-⟩:=hone q (by omega);exact⟨z,hz⟩) hnl hnw z1 z2
   rw[←hw']at hD
   have hgV:∀ q,q<cap*k'→V 0 g q:=fun q hq=>(hF q hq).1
   have hkeep:bu (fun b o=>∃ i,V i b o) w w':=hD.keep.up fun b o ⟨h1,h2⟩=>⟨0,by rw[h1];exact hgV o (by omega)⟩
   have e4:(n - 1)*k'+k'=n*k':=by rw[show(n - 1)*k'+k'=(n - 1+1)*k' by rw[Nat.add_mul,Nat.one_mul]];congr 1;omega
   have hcel':∀ q,q<cap*k'→∃ z,cel w' g q=some z∧z.oneCell'=true:=fun q hq=>by
    by_cases h1:q<i*k'
    ·rw[hD.lo q h1];exact hone q hq
    by_cases h2:q<(n - 1)*k'
    ·rw[hD.mid q (by omega) h2];exact hone _ (by omega)
    by_cases h3:q<n*k'
    ·exact hD.hi q (by omega) h3
    ·have hlt:=(hV 0 g q (hgV q hq)).1
     rw[hD.keep.cel g q hlt (fun x=>h3 x.2)];exact hone q hq
   have hrow:cm w' NO (V 0) [oE (dele rows i)] (fun _=>.slice (some ⟨g,0,none⟩) (n - 1) cap):=by
    refine row1 ?_
    by_cases hz:dele rows i=[]
    ·rw[hz]
     have hn0:n - 1=0:=by rw[hz]at hdl;simp at hdl;omega
     rw[hn0]
     exact .imm _ g 0 k' 0 cap [] (fun _=>undef) rfl (fun r hr=>by cases hr) (Nat.zero_le _) (fun q hq=>by omega) (fun a b r c ha=>by simp at ha)
    ·rw[zU hz]
     have hpos':0<n - 1:=by
      have:=List.length_pos_iff.2 hz
      omega
     refine .own _ .own g k' (n - 1) cap _ (fun q=>(cel w' g q).getD undef) (fun _=>NO) trivial (by rw[hdl];omega) (fun r hr=>hk' r ((ez ..).subset hr)) (by omega) hpos' (fun q hq=>⟨hgV q hq,hcel' q hq,(hD.fro g q).trans (hF q hq).2.2⟩) (fun q hq=>?_) (fun _ _ _ _ h=>h.elim) (fun _ _ _ _ _ _ _ h=>h.elim) (fun a b r c ha hb=>?_)
     ·obtain⟨z,hz,-⟩:=hcel' q (by omega)
      rw[hz];rfl
     ·have hbk:b<k':=by
       have:=hk' r ((ez ..).subset (List.mem_of_getElem? ha))
       rw[←this];exact(List.getElem?_eq_some_iff.1 hb).1
      have hal:=(List.getElem?_eq_some_iff.1 ha).1
      rw[hdl]at hal
      have hal2:a<n - 1:=by omega
      have hflat:a*k'+b<(n - 1)*k':=dW hal2 hbk
      have hread:∃ z,c=.v z∧cel w' g (a*k'+b)=some z:=by
       unfold dele at ha
       by_cases h1:a<i
       ·rw[List.getElem?_append_left (by rw[List.length_take];omega),List.getElem?_take,if_pos h1]at ha
        obtain⟨z,hz,hz1⟩:=hval a b r c ha hb
        refine⟨z,hz,?_⟩
        rw[hD.lo _ (dW h1 hbk)];exact hz1
       ·rw[List.getElem?_append_right (by rw[List.length_take];omega),List.length_take,List.getElem?_drop]at ha
        rw[show i+1+(a - min i rows.length)=a+1 by omega]at ha
        obtain⟨z,hz,hz1⟩:=hval (a+1) b r c ha hb
        refine⟨z,hz,?_⟩
        have:i*k'≤a*k':=Nat.mul_le_mul_right _ (by omega)
        rw[hD.mid _ (by omega) hflat,←hz1]
        congr 1
        rw[Nat.add_mul,Nat.one_mul];omega
      obtain⟨z,rfl,hz⟩:=hread
      simp only[hz,Option.getD_some]
      exact .v _ _ (by obtain⟨z',hz',h1⟩:=hcel' (a*k'+b) (by omega);rw[hz]at hz';cases hz';exact h1)
   exact⟨_,he,hkeep,V 0,fun _=>NO,NO,fun b o h=>.inl ⟨0,h⟩,fun _ _ _ h=>h.elim,fun _ _ h=>h.elim,fun _ _ _ _ _ h=>h.elim,fun _ _ _ _ h=>h.elim,fun _ _ _ h=>h.elim,fun _ _ _ h=>h.elim,rfl,hrow,⟨⟨rfl,fun _=>.slice (some ⟨g,0,none⟩) n cap,rfl,row1 (.x _ _ rfl)⟩,trivial,trivial,trivial⟩⟩
  | _=>cases hcc
end Go.Proofs.YtogajjgmcnjkbaaGreat.Ab
namespace Go.Proofs.YtogajjgmcnjkbaaGreat.Ab
open Go.RowKit
set_option maxRecDepth 100000
set_option maxHeartbeats 4000000
theorem xo {w:World} {g n cap i k:Nat} {news:List Value} (hl:news.length=(n - (i+1))*k) (hcap:n≤cap) (hin:i<n) (h:∀ t u,news[t]? = some u→cel w g ((i+1)*k+t)=some u):∃ A:Addr,(if cap=i+1 then some (⟨g,0,none⟩ : Addr) else some ⟨g,(i+1)*k,none⟩)=some A∧∀ t u,news[t]? = some u→w.drew.cell? (A.add t)=some u:=by
 by_cases e:cap=i+1
 ·refine⟨⟨g,0,none⟩,by simp[e],fun t u hu=>?_⟩
  have h0:news.length=0:=by rw[hl,show n - (i+1)=0 by omega,Nat.zero_mul]
  rw[List.length_eq_zero_iff.1 h0]at hu
  simp at hu
 ·refine⟨⟨g,(i+1)*k,none⟩,by simp[e],fun t u hu=>?_⟩
  rw[Addr.add_lit]
  exact h t u hu
theorem Fp:∀ w,(zeroValue 139).run Tryz.prog w=.ok (.agg #[.int .i64 0,.int .i64 0,.int .i64 0,.int .i64 0]) w:=fun _=>by kernel_rfl
theorem Bb:wj Tryz.prog 177 4:=by
 refine⟨⟨_,Tryz.func177,by kernel_rfl,by kernel_rfl⟩,fun w g n cap i news hin hcap hnl hnw hn1 hcl=>?_⟩
 obtain⟨A,hA,hsrc⟩:=xo hnl hcap hin hnw
 have hsrc:Hid (∀ t u,news[t]? = some u→w.drew.cell? (A.add t)=some u):=hsrc
 have s1:Hid (news.length=(n - (i+1))*4):=hnl
 have s2:Hid (∀ u∈news,u.oneCell'=true):=hn1
 have s3:Hid (∀ t,t<news.length→(w.drew.cell? ⟨g,0+i*4+t,none⟩).isSome=true∧w.drew.frozen? ⟨g,0+i*4+t,none⟩ = false):=fun t ht=>by
  rw[Nat.zero_add];exact hcl (i*4+t) (by omega)
 obtain⟨W1,hW1⟩ : ∃ W1,W1=w.drew.setCells g (0+i*4) news:=⟨_,rfl⟩
 have c1:∀ q,q<n*4→(W1.cell? ⟨g,q,none⟩).isSome=true∧W1.frozen? ⟨g,q,none⟩ = false:=fun q hq=>by
  have hin1:∀ j,j<news.length→∃ z,cel w.drew g (0+i*4+j)=some z:=fun j hj=>by
   have:=(hcl (0+i*4+j) (by omega)).1
   exact Option.isSome_iff_exists.1 this
  refine⟨?_,by rw[hW1];exact(congrArg Prod.fst (ch g _ news w.drew g q)).trans (hcl q hq).2⟩
  rw[hW1]
  by_cases h:0+i*4≤q∧q<0+i*4+news.length
  ·have:=cC hin1 (List.getElem?_eq_getElem (show q - (0+i*4)<news.length by omega))
   rw[show 0+i*4+(q - (0+i*4))=q by omega]at this
   show(cel _ g q).isSome=true
   rw[this];rfl
  ·show(cel _ g q).isSome=true
   rw[bC (fun x=>h x.2)];exact(hcl q hq).1
 obtain⟨zs,hz1,hz2,hclr⟩:=vY (P:=Tryz.prog) W1 63 139 4 (.agg #[.int .i64 0,.int .i64 0,.int .i64 0,.int .i64 0]) Tryz.underlying63 Fp rfl (by intro v hv;simp[Value.cells]at hv;subst hv;rfl) g ((i+(n - (i+1)))*4) (n - (i+(n - (i+1)))) (by omega) (by decide) (fun j hj=>(c1 _ (by omega)).1) (fun j hj=>(c1 _ (by omega)).2)
 have hz1':Hid (zs.length=(n - (i+(n - (i+1))))*4):=hz1
 have hz2':Hid (∀ v∈zs,v.oneCell'=true):=hz2
 have hW:Hid (W1=w.drew.setCells g (0+i*4) news):=hW1
 have hic:i≤cap:=by omega
 have hjc:i+1≤cap:=by omega
 have hne:¬i=i+1:=by omega
 have hjn:i+1≤n:=hin
 have hin':n - 1=i+(n - (i+1)):=by omega
 clear hW1 c1 hcl hnw hn1 hnl hz1 hz2
 rw[hin']
 generalize hj:i+1=j at hA hsrc s1 hclr hz1' hjc hne hjn hin' ⊢
 obtain⟨i0,hi0,hz0⟩ : ∃ i0,Tryz.prog.info? 139=some i0∧i0.size=4:=by
  have h:=(sq 139 _ rfl).1
  cases e : Tryz.prog.info? 139 with
  | none=>rw[e]at h;cases h
  | some x=>rw[e]at h;simp only[Option.map_some,Option.some.injEq,Prod.mk.injEq]at h;exact⟨x,rfl,h.2.1⟩
 have mixed : Tryz.prog.follows .mixedOrders=true:=by kernel_rfl
 go_enter Tryz.func177,Tryz.ntmps177
 go_wp2_with fail
 go_region_law_o (refine step_append_room rfl (.tmp 22) (.tmp 25) 63 rfl 139 i0 4 Tryz.underlying63 hi0 hz0 g 0 i cap (by simp[Act.eval,Act.put]) A (n - j) (cap - j) news (by simp[Act.eval,Act.put]) s1.out hsrc.out s2.out (by omega) s3.out ?_;rw[←hW.out])
 go_wp2
 go_ret
 refine⟨rfl,zs,by have:=hz1'.out;omega,hz2'.out,?_⟩
 rw[hW.out,Nat.zero_add]
theorem AN (xs:List aM):Jw (xs.map (aM.enc .own)):=fun r hr c hc=>by
 obtain⟨s,-,rfl⟩:=List.mem_map.1 hr
 simp[aM.enc]at hc
 rcases hc with rfl|rfl|rfl|rfl<;>exact⟨_,rfl⟩
theorem Bi (xs:List aM) (i:Nat) (hi:i<xs.length):bm Tryz.prog 177 false [.mut none [.s .own (xs.map (aM.enc .own))],.val none [I (i:Nat)],.val none [I ((i+1:Nat):Int)]] [.mut none [.x],.val none [I (i:Nat)],.val none [I ((i+1:Nat):Int)]] .one [oE ((dele xs i).map (aM.enc .own))]:=by
 have h:=B2 Bb (rows:=xs.map (aM.enc .own)) (i:=i) (by rw[List.length_map];exact hi) (bl fun _=>rfl) (AN xs)
 rwa [show dele (xs.map (aM.enc .own)) i=(dele xs i).map (aM.enc .own) by simp[dele,List.map_take,List.map_drop]]at h
theorem Az:∀ w,(zeroValue 177).run Tryz.prog w=.ok (.agg #[.int .i64 0,.int .i64 0,.int .i64 0]) w:=fun _=>by kernel_rfl
theorem xm:wj Tryz.prog 181 3:=by
 refine⟨⟨_,Tryz.func181,by kernel_rfl,by kernel_rfl⟩,fun w g n cap i news hin hcap hnl hnw hn1 hcl=>?_⟩
 obtain⟨A,hA,hsrc⟩:=xo hnl hcap hin hnw
 have hsrc:Hid (∀ t u,news[t]? = some u→w.drew.cell? (A.add t)=some u):=hsrc
 have s1:Hid (news.length=(n - (i+1))*3):=hnl
 have s2:Hid (∀ u∈news,u.oneCell'=true):=hn1
 have s3:Hid (∀ t,t<news.length→(w.drew.cell? ⟨g,0+i*3+t,none⟩).isSome=true∧w.drew.frozen? ⟨g,0+i*3+t,none⟩ = false):=fun t ht=>by
  rw[Nat.zero_add];exact hcl (i*3+t) (by omega)
 obtain⟨W1,hW1⟩ : ∃ W1,W1=w.drew.setCells g (0+i*3) news:=⟨_,rfl⟩
 have c1:∀ q,q<n*3→(W1.cell? ⟨g,q,none⟩).isSome=true∧W1.frozen? ⟨g,q,none⟩ = false:=fun q hq=>by
  have hin1:∀ j,j<news.length→∃ z,cel w.drew g (0+i*3+j)=some z:=fun j hj=>by
   have:=(hcl (0+i*3+j) (by omega)).1
   exact Option.isSome_iff_exists.1 this
  refine⟨?_,by rw[hW1];exact(congrArg Prod.fst (ch g _ news w.drew g q)).trans (hcl q hq).2⟩
  rw[hW1]
  by_cases h:0+i*3≤q∧q<0+i*3+news.length
  ·have:=cC hin1 (List.getElem?_eq_getElem (show q - (0+i*3)<news.length by omega))
   rw[show 0+i*3+(q - (0+i*3))=q by omega]at this
   show(cel _ g q).isSome=true
   rw[this];rfl
  ·show(cel _ g q).isSome=true
   rw[bC (fun x=>h x.2)];exact(hcl q hq).1
 obtain⟨zs,hz1,hz2,hclr⟩:=vY (P:=Tryz.prog) W1 62 177 3 (.agg #[.int .i64 0,.int .i64 0,.int .i64 0]) Tryz.underlying62 Az rfl (by intro v hv;simp[Value.cells]at hv;subst hv;rfl) g ((i+(n - (i+1)))*3) (n - (i+(n - (i+1)))) (by omega) (by decide) (fun j hj=>(c1 _ (by omega)).1) (fun j hj=>(c1 _ (by omega)).2)
 have hz1':Hid (zs.length=(n - (i+(n - (i+1))))*3):=hz1
 have hz2':Hid (∀ v∈zs,v.oneCell'=true):=hz2
 have hW:Hid (W1=w.drew.setCells g (0+i*3) news):=hW1
 have hic:i≤cap:=by omega
 have hjc:i+1≤cap:=by omega
 have hne:¬i=i+1:=by omega
 have hjn:i+1≤n:=hin
 have hin':n - 1=i+(n - (i+1)):=by omega
 clear hW1 c1 hcl hnw hn1 hnl hz1 hz2
 rw[hin']
 generalize hj:i+1=j at hA hsrc s1 hclr hz1' hjc hne hjn hin' ⊢
 obtain⟨i0,hi0,hz0⟩ : ∃ i0,Tryz.prog.info? 177=some i0∧i0.size=3:=by
  have h:=(sq 177 _ rfl).1
  cases e : Tryz.prog.info? 177 with
  | none=>rw[e]at h;cases h
  | some x=>rw[e]at h;simp only[Option.map_some,Option.some.injEq,Prod.mk.injEq]at h;exact⟨x,rfl,h.2.1⟩
 have mixed : Tryz.prog.follows .mixedOrders=true:=by kernel_rfl
 go_enter Tryz.func181,Tryz.ntmps181
 go_wp2_with fail
 go_region_law_o (refine step_append_room rfl (.tmp 22) (.tmp 25) 62 rfl 177 i0 3 Tryz.underlying62 hi0 hz0 g 0 i cap (by simp[Act.eval,Act.put]) A (n - j) (cap - j) news (by simp[Act.eval,Act.put]) s1.out hsrc.out s2.out (by omega) s3.out ?_;rw[←hW.out])
 go_wp2
 go_ret
 refine⟨rfl,zs,by have:=hz1'.out;omega,hz2'.out,?_⟩
 rw[hW.out,Nat.zero_add]
theorem xc (xs:List ah):Jw (xs.map (ah.enc .own)):=fun r hr c hc=>by
 obtain⟨s,-,rfl⟩:=List.mem_map.1 hr
 simp[ah.enc]at hc
 rcases hc with rfl|rfl|rfl<;>exact⟨_,rfl⟩
theorem wD (xs:List ah) (i:Nat) (hi:i<xs.length):bm Tryz.prog 181 false [.mut none [.s .own (xs.map (ah.enc .own))],.val none [I (i:Nat)],.val none [I ((i+1:Nat):Int)]] [.mut none [.x],.val none [I (i:Nat)],.val none [I ((i+1:Nat):Int)]] .one [oE ((dele xs i).map (ah.enc .own))]:=by
 have h:=B2 xm (rows:=xs.map (ah.enc .own)) (i:=i) (by rw[List.length_map];exact hi) (bl fun _=>rfl) (xc xs)
 rwa [show dele (xs.map (ah.enc .own)) i=(dele xs i).map (ah.enc .own) by simp[dele,List.map_take,List.map_drop]]at h
theorem DM:∀ w,(zeroValue 173).run Tryz.prog w=.ok (.agg #[.int .i64 0,.int .i64 0,.int .i64 0]) w:=fun _=>by kernel_rfl
theorem y6:wj Tryz.prog 341 3:=by
 refine⟨⟨_,Tryz.func341,by kernel_rfl,by kernel_rfl⟩,fun w g n cap i news hin hcap hnl hnw hn1 hcl=>?_⟩
 obtain⟨A,hA,hsrc⟩:=xo hnl hcap hin hnw
 have hsrc:Hid (∀ t u,news[t]? = some u→w.drew.cell? (A.add t)=some u):=hsrc
 have s1:Hid (news.length=(n - (i+1))*3):=hnl
 have s2:Hid (∀ u∈news,u.oneCell'=true):=hn1
 have s3:Hid (∀ t,t<news.length→(w.drew.cell? ⟨g,0+i*3+t,none⟩).isSome=true∧w.drew.frozen? ⟨g,0+i*3+t,none⟩ = false):=fun t ht=>by
  rw[Nat.zero_add];exact hcl (i*3+t) (by omega)
 obtain⟨W1,hW1⟩ : ∃ W1,W1=w.drew.setCells g (0+i*3) news:=⟨_,rfl⟩
 have c1:∀ q,q<n*3→(W1.cell? ⟨g,q,none⟩).isSome=true∧W1.frozen? ⟨g,q,none⟩ = false:=fun q hq=>by
  have hin1:∀ j,j<news.length→∃ z,cel w.drew g (0+i*3+j)=some z:=fun j hj=>by
   have:=(hcl (0+i*3+j) (by omega)).1
   exact Option.isSome_iff_exists.1 this
  refine⟨?_,by rw[hW1];exact(congrArg Prod.fst (ch g _ news w.drew g q)).trans (hcl q hq).2⟩
  rw[hW1]
  by_cases h:0+i*3≤q∧q<0+i*3+news.length
  ·have:=cC hin1 (List.getElem?_eq_getElem (show q - (0+i*3)<news.length by omega))
   rw[show 0+i*3+(q - (0+i*3))=q by omega]at this
   show(cel _ g q).isSome=true
   rw[this];rfl
  ·show(cel _ g q).isSome=true
   rw[bC (fun x=>h x.2)];exact(hcl q hq).1
 obtain⟨zs,hz1,hz2,hclr⟩:=vY (P:=Tryz.prog) W1 61 173 3 (.agg #[.int .i64 0,.int .i64 0,.int .i64 0]) Tryz.underlying61 DM rfl (by intro v hv;simp[Value.cells]at hv;subst hv;rfl) g ((i+(n - (i+1)))*3) (n - (i+(n - (i+1)))) (by omega) (by decide) (fun j hj=>(c1 _ (by omega)).1) (fun j hj=>(c1 _ (by omega)).2)
 have hz1':Hid (zs.length=(n - (i+(n - (i+1))))*3):=hz1
 have hz2':Hid (∀ v∈zs,v.oneCell'=true):=hz2
 have hW:Hid (W1=w.drew.setCells g (0+i*3) news):=hW1
 have hic:i≤cap:=by omega
 have hjc:i+1≤cap:=by omega
 have hne:¬i=i+1:=by omega
 have hjn:i+1≤n:=hin
 have hin':n - 1=i+(n - (i+1)):=by omega
 clear hW1 c1 hcl hnw hn1 hnl hz1 hz2
 rw[hin']
 generalize hj:i+1=j at hA hsrc s1 hclr hz1' hjc hne hjn hin' ⊢
 obtain⟨i0,hi0,hz0⟩ : ∃ i0,Tryz.prog.info? 173=some i0∧i0.size=3:=by
  have h:=(sq 173 _ rfl).1
  cases e : Tryz.prog.info? 173 with
  | none=>rw[e]at h;cases h
  | some x=>rw[e]at h;simp only[Option.map_some,Option.some.injEq,Prod.mk.injEq]at h;exact⟨x,rfl,h.2.1⟩
 have mixed : Tryz.prog.follows .mixedOrders=true:=by kernel_rfl
 go_enter Tryz.func341,Tryz.ntmps341
 go_wp2_with fail
 go_region_law_o (refine step_append_room rfl (.tmp 22) (.tmp 25) 61 rfl 173 i0 3 Tryz.underlying61 hi0 hz0 g 0 i cap (by simp[Act.eval,Act.put]) A (n - j) (cap - j) news (by simp[Act.eval,Act.put]) s1.out hsrc.out s2.out (by omega) s3.out ?_;rw[←hW.out])
 go_wp2
 go_ret
 refine⟨rfl,zs,by have:=hz1'.out;omega,hz2'.out,?_⟩
 rw[hW.out,Nat.zero_add]
theorem zi (xs:List am):Jw (xs.map (am.enc .own)):=fun r hr c hc=>by
 obtain⟨s,-,rfl⟩:=List.mem_map.1 hr
 simp[am.enc]at hc
 rcases hc with rfl|rfl|rfl<;>exact⟨_,rfl⟩
theorem zv (xs:List am) (i:Nat) (hi:i<xs.length):bm Tryz.prog 341 false [.mut none [.s .own (xs.map (am.enc .own))],.val none [I (i:Nat)],.val none [I ((i+1:Nat):Int)]] [.mut none [.x],.val none [I (i:Nat)],.val none [I ((i+1:Nat):Int)]] .one [oE ((dele xs i).map (am.enc .own))]:=by
 have h:=B2 y6 (rows:=xs.map (am.enc .own)) (i:=i) (by rw[List.length_map];exact hi) (bl fun _=>rfl) (zi xs)
 rwa [show dele (xs.map (am.enc .own)) i=(dele xs i).map (am.enc .own) by simp[dele,List.map_take,List.map_drop]]at h
end Go.Proofs.YtogajjgmcnjkbaaGreat.Ab
namespace Go.Proofs.YtogajjgmcnjkbaaGreat.Ab
open Go.RowKit
set_option maxRecDepth 20000
set_option maxHeartbeats 4000000
theorem tT (c:ar) (k:Nat) (a:Int) (ho:bw c=true) (hk:k≤3):af Tryz.prog 273 false [.val (some 1) (ar.enc .imm c),.val none [I (k:Nat)],.val none [I a]] (.tup [some 1,none]) (rK c k a):=by
 obtain⟨h1,h2⟩:=iX ho
 have hs:ar.sml c:=⟨by omega,fun l hl=>by have:=h2 l hl;show l.length≤1048576;omega⟩
 have c1:=BK c k hs
 rw[ho,decide_eq_true (by omega)]at c1
 have c2:=mH c hs
 have hps:=yv ho k a
 have c3:=kU (iB c k a) hps
 have hx:=vL (c:=c) (k:=k) (by omega)
 have hxl:=h2 _ (ay (xs:=c.Lists) (i:=k) (by omega))
 have hz:=ar.enc_fz (iB c k a)
 rw[tH]at hz
 have hf:=Ac c k a
 unfold rK at hf ⊢
 cases e:bw (iB c k a)<;>rw[e]at c3
 ·have hc:cput c k a=none:=by unfold cput;rw[if_neg fun x=>by have:=x.2.2.2;rw[Int.toNat_natCast,e]at this;cases this]
  rw[hc]at hf ⊢
  refine fO (n:=35) [(4,267,[17,18,19,20,21,22,23,24,25,26,28,0,1,2,3,4,5,6,7,8,9,10,1000,1001,1002,11,12])] Tryz.func273 (by kernel_rfl) rfl (by kernel_rfl) (by rfl) (.inr hf) ?_
  repeat'((conv=>whnf);first|with_reducible (first|refine Lm ?_|refine Wm (by omega) ?_|refine Ix.nat (aa hx) ?_|refine Bn ?_|refine Fm rfl ?_)|refine Bt ?_|refine Bu ?_|refine Sm.rf ?_|refine Ix.nat (hU hx) ?_|refine Rw.one rfl (hU hx) rfl ?_|refine Cl.mk (c1) ?_|refine Cl.mk (c2) ?_|refine Lq.one rfl rfl (aa hx) rfl (Nat.le_of_ble_eq_true rfl) rfl rfl ?_|refine Rw.one rfl (aa hx) rfl ?_|refine Pu.one rfl rfl (hU hx) rfl (Nat.le_of_ble_eq_true rfl) (show [C.s dy.own ((c.Lists.map (aI .own)).set k (aI .own (nth c.Lists k++[a])))]=_ from by simp only[List.set_cons_zero,List.set_set,Int.toNat_natCast];rfl) ?_|refine Ap.sm (bl fun _=>rfl) rfl (by simp;omega) (by decide) (kP _ _ _) ?_|refine Cl.eq (c3) ⟨⟨rfl,hz⟩,trivial⟩ ?_)
  rfl
 ·have hc:cput c k a=some (iB c k a):=by unfold cput;rw[if_pos ⟨ho,by omega,by omega,by rw[Int.toNat_natCast];exact e⟩,Int.toNat_natCast]
  rw[hc]at hf ⊢
  rw[show(some (iB c k a)).getD c=iB c k a from rfl,tH]at hf ⊢
  refine fO (n:=35) [(4,267,[17,18,19,20,21,22,23,24,25,26,28,0,1,2,3,4,5,6,7,8,9,10,1000,1001,1002,11,12])] Tryz.func273 (by kernel_rfl) rfl (by kernel_rfl) (by rfl) (.inr hf) ?_
  repeat'((conv=>whnf);first|with_reducible (first|refine Lm ?_|refine Wm (by omega) ?_|refine Ix.nat (aa hx) ?_|refine Bn ?_|refine Fm rfl ?_)|refine Bt ?_|refine Bu ?_|refine Sm.rf ?_|refine Ix.nat (hU hx) ?_|refine Rw.one rfl (hU hx) rfl ?_|refine Cl.mk (c1) ?_|refine Cl.mk (c2) ?_|refine Lq.one rfl rfl (aa hx) rfl (Nat.le_of_ble_eq_true rfl) rfl rfl ?_|refine Rw.one rfl (aa hx) rfl ?_|refine Pu.one rfl rfl (hU hx) rfl (Nat.le_of_ble_eq_true rfl) (show [C.s dy.own ((c.Lists.map (aI .own)).set k (aI .own (nth c.Lists k++[a])))]=_ from by simp only[List.set_cons_zero,List.set_set,Int.toNat_natCast];rfl) ?_|refine Ap.sm (bl fun _=>rfl) rfl (by simp;omega) (by decide) (kP _ _ _) ?_|refine Cl.eq (c3) ⟨⟨rfl,hz⟩,trivial⟩ ?_)
  rfl
theorem AJ (c:Nat) (W:World):Calls Tryz.prog 272 #[.slice none 0 c] W fun e w'=>∃ B q os,e=.returned (.slice B 0 0)∧w'=Sort.grow (W.drewN q) os:=by
 have q22:∀ (w:World) (a:Option Addr) (n c n' c':Nat),(binOp .eql 68 (.slice a n c) (.slice none n' c')).run Tryz.prog w=.ok (.bool a.isNone) w:=fun w a n c n' c'=>Lib.run_eql_slice_nil w _ _ a n c n' c' Tryz.underlying68
 go_enter Tryz.func272,Tryz.ntmps272
 go_wp2
 go_ret
 exact⟨none,0,#[],rfl,by simp[Sort.grow,World.drewN]⟩
theorem z6 (a:Addr) (c:Nat) (W:World):Calls Tryz.prog 272 #[.slice (some a) 0 c] W fun e w'=>∃ B q os,e=.returned (.slice B 0 0)∧w'=Sort.grow (W.drewN q) os:=by
 have q22:∀ (w:World) (a:Option Addr) (n c n' c':Nat),(binOp .eql 68 (.slice a n c) (.slice none n' c')).run Tryz.prog w=.ok (.bool a.isNone) w:=fun w a n c n' c'=>Lib.run_eql_slice_nil w _ _ a n c n' c' Tryz.underlying68
 go_enter Tryz.func272,Tryz.ntmps272
 go_wp2
 go_ret
 exact⟨some ⟨W.heap.size,0,none⟩,0,#[.cells #[] 158],rfl,by rw[Sort.alloc_eq_grow];rfl⟩
theorem pv (xs:List ax) (hl:xs.length≤1048576):af Tryz.prog 272 false [.val none (bh .imm xs)] .one (bh .own xs):=by
 by_cases he:xs=[]
 ·subst he
  refine⟨⟨_,Tryz.func272,by kernel_rfl,by kernel_rfl⟩,fun w S vs hS hA=>?_⟩
  match vs,hA with
  | [v],⟨hA,_⟩=>
   have hrep:=bo.rep1 (show bo w S NO none [C.s .imm []] v from hA)
   obtain⟨ad,cap,rfl⟩:=hrep.slice
   have hz:Calls Tryz.prog 272 #[.slice ad 0 cap] w fun e w'=>∃ B q os,e=.returned (.slice B 0 0)∧w'=Sort.grow (w.drewN q) os:=by
    cases ad with
    | none=>exact AJ cap w
    | some a=>exact z6 a cap w
   refine hz.mono fun e w' ⟨B,q,os,he,hw'⟩=>?_
   subst hw'
   exact⟨.slice B 0 0,he,sC w q os,NO,NO,fun _ _ h=>h.elim,fun _ _ h=>h.elim,fun _ _ h=>h.elim,rfl,row1 (.nil _ .own B trivial)⟩
 ·have hne:xs.map (ax.enc .imm)≠[]:=fun e=>he (List.map_eq_nil_iff.1 e)
  refine fO (n:=8) [] Tryz.func272 (by kernel_rfl) rfl (by kernel_rfl) (by rfl) (.inr (me _)) ?_
  repeat'((conv=>whnf);first|with_reducible (first|refine Lm ?_|refine Wm (by omega) ?_|refine Bn ?_|refine Fm rfl ?_)|refine Bt ?_|refine Bu ?_|refine Sm.rf ?_|refine Nn.mk hne ?_|refine Ap.cp (fun _=>rfl) (fun _=>rfl) hl (by decide) ?_)
  rfl
theorem wS (q:aK) (x0:ax) (hl:q.Lst.length≤4096) (hq:eZ q=true) (hx:0≤x0.Class∧x0.Class≤3∧0≤x0.Addr∧0≤x0.Since) (hs:∀ y∈q.Lst,y.Since≤x0.Since) (hn:∀ y∈q.Lst,y.Addr≠x0.Addr) :
  af Tryz.prog 187 false [.val (some 2) (aK.enc .imm q),.val (some 3) (ax.enc .imm x0)] (.tup [some 2,none]) (Gq q x0):=by
 have hsm:aK.sml q:=⟨by omega,fun _ _=>trivial⟩
 have c1:=nE q hsm
 have c2:=q7 q hsm
 rw[hq]at c2
 have c3:=oN q.Lst x0 (by omega)
 have ho:q.Lst.length=0∨(nth q.Lst (q.Lst.length - 1)).Since≤x0.Since:=by
  by_cases e:q.Lst.length=0
  ·exact .inl e
  ·exact .inr (hs _ (ay (by omega)))
 have hin:jR q.Lst x0=true:=by
  unfold jR
  rw[decide_eq_true ⟨hx.1,hx.2.1,hx.2.2.1,hx.2.2.2,ho⟩,show q.Lst.any (dv x0.Addr)=false by rw[List.any_eq_false];intro y hy;unfold dv;simpa using hn y hy];rfl
 rw[hin]at c3
 have hr:=(mi.1 hq).2.2.2
 have hfr:=BT q x0
 have hcut:=sb q.Room (q.Lst++[x0])
 simp only[List.length_append,List.length_singleton]at hcut
 have hL:(q.Lst++[x0]).length=q.Lst.length+1:=by simp
 refine fO (n:=51) [(6,7,[28,29,30,31,32,33,34])] Tryz.func187 (by kernel_rfl) rfl (by kernel_rfl) (by rfl) (.inr hfr) ?_
 repeat'((conv=>whnf);first|with_reducible (first|refine Lm ?_|refine Wm (by omega) ?_|refine Bn ?_|refine Fm rfl ?_)|refine Bt ?_|refine Bu ?_|refine Sm.rf ?_|refine Cl.mk (c1) ?_|refine Cl.mk (c2) ?_|refine Cl.mk (c3) ?_|refine Ap.sm (bl fun _=>rfl) rfl (by simp;omega) (by decide) (kP (ax.enc .own) q.Lst x0) ?_)
 (conv=>whnf)
 refine Lp.fz 6 (ι:=Nat) (fun k=>[(2,.hold .box (aK.enc .imm q)),(4,.hold .box [I 0,.z]),(6,.hold .box (aK.enc .imm ⟨q.Room,q.Lst++[x0]⟩)),(7,.hold .one [I (k:Nat)])]) (fun k=>k≤ge q.Room (q.Lst++[x0])) (fun k=>ge q.Room (q.Lst++[x0]) - k) 0 ?_ (Nat.zero_le _) fun k hk=>?_
 ·(repeat'(first|exact trivial|rfl|exact And.intro rfl (show G5 (dV (aK.enc .own ⟨q.Room,q.Lst++[x0]⟩)) (aK.enc .imm ⟨q.Room,q.Lst++[x0]⟩) by rw[aK.enc_fz];exact kN _)|refine And.intro ?_ ?_))
 have hdl:((q.Lst++[x0]).drop k).length≤5000:=by rw[List.length_drop];omega
 have htl:((q.Lst++[x0]).take k).length≤5000:=by rw[List.length_take];omega
 have c5:=mz ((q.Lst++[x0]).drop k) ⟨by omega,fun _ _=>trivial⟩
 by_cases lk:k<ge q.Room (q.Lst++[x0])
 ·have h1:q.Room<quarCells ((q.Lst++[x0]).drop k) ((q.Lst++[x0]).drop k).length:=ql lk
  repeat'((conv=>whnf);first|with_reducible (first|refine Lm ?_|refine Wm (by omega) ?_|refine dT (by omega) (fun hq=>?_)|refine Bn ?_|refine Fm rfl ?_)|refine Bt ?_|refine Bu ?_|refine Sm.rf ?_|refine Sl.suf k rfl (by rw[List.length_map];show k≤(q.Lst++[x0]).length;omega) (bl fun _=>rfl) List.map_drop ?_|refine Cl.mk (c5) ?_|refine Sm.rf ?_)
  ((conv=>whnf);refine Nx.mk (k+1) (by omega) (by omega) ?_;(repeat'(first|exact trivial|rfl|refine And.intro ?_ ?_|(exact bQ (by first|omega|(simp only;omega)|(simp;omega))))))
 ·obtain rfl:k=ge q.Room (q.Lst++[x0]):=by omega
  have h1:quarCells ((q.Lst++[x0]).drop (ge q.Room (q.Lst++[x0]))) ((q.Lst++[x0]).drop (ge q.Room (q.Lst++[x0]))).length≤q.Room:=rG hr.1 _
  repeat'((conv=>whnf);first|with_reducible (first|refine Lm ?_|refine Wm (by omega) ?_|refine dF (by omega) (fun hq=>?_)|refine Bn ?_|refine Fm rfl ?_)|refine Bt ?_|refine Bu ?_|refine Sm.rf ?_|refine Sl.suf (ge q.Room (q.Lst++[x0])) rfl (by rw[List.length_map];show ge q.Room (q.Lst++[x0])≤(q.Lst++[x0]).length;omega) (bl fun _=>rfl) List.map_drop ?_|refine Sl.pre (ge q.Room (q.Lst++[x0])) rfl (by rw[List.length_map];show ge q.Room (q.Lst++[x0])≤(q.Lst++[x0]).length;omega) (bl fun _=>rfl) List.map_take ?_|refine Cl.mk (c5) ?_|refine Cl.mk (pv ((q.Lst++[x0]).take (ge q.Room (q.Lst++[x0]))) (by omega)) ?_|refine Cl.mk (pv ((q.Lst++[x0]).drop (ge q.Room (q.Lst++[x0]))) (by omega)) ?_)
  rfl
theorem E4 (h:ac) (p:Int):af Tryz.prog 280 false [.val (some 24) (ac.enc .imm h),.val none [I p]] .one [B (k8 h p)]:=by
 cases e:h.Meshing
 all_goals
  have hz:ac.enc .imm h=(ac.enc .imm h).set 18 (B h.Meshing):=rfl
  rw[e]at hz
  rw[hz]
  refine fO (n:=23) [] Tryz.func280 (by kernel_rfl) rfl (by kernel_rfl) (by rfl) (.inr ⟨trivial,trivial⟩) ?_
  repeat'((conv=>whnf);first|with_reducible (first|refine Lm ?_|refine Wm (by omega) ?_|refine Bf.D (fun hq=>?_) (fun hq=>?_)|refine Bf.E (fun hq=>?_) (fun hq=>?_)|refine Bf.N (fun hq=>?_) (fun hq=>?_)|refine Bn ?_|refine Fm rfl ?_)|refine Bt ?_|refine Bu ?_|refine Sm.rf ?_)
  all_goals exact congrArg (fun z=>[B z]) ((by unfold k8;rw[e];first|(simp[*];done)|(simp[*];rw[Bool.eq_iff_iff];simp;try omega)|(rw[Bool.eq_iff_iff];simp[*];try omega)))
theorem wK (h:ac):af Tryz.prog 46 false [.val (some 24) (ac.enc .imm h)] .one [I (eP h:Nat)]:=by
 refine fO (n:=9) [] Tryz.func46 (by kernel_rfl) rfl (by kernel_rfl) (by rfl) (.inr ⟨trivial,trivial⟩) ?_
 repeat'((conv=>whnf);first|with_reducible (first|refine Lm ?_|refine Wm (by omega) ?_|refine Bn ?_|refine Fm rfl ?_)|refine Bt ?_|refine Bu ?_|refine Sm.rf ?_)
 rfl
end Go.Proofs.YtogajjgmcnjkbaaGreat.Ab
namespace Go.Proofs.YtogajjgmcnjkbaaGreat.Ab
open Go.RowKit
set_option maxRecDepth 20000
set_option maxHeartbeats 4000000
theorem dE (c:C):HF c c:=(kN [c]).1
def cE (h:ac) (s l o:C):List C:=[.s .own (h.Kernel.Machine.Frames.Cells.map (aI .own)),.s .own (h.Kernel.Machine.Frames.Used.map (rB .own)),.s .own (h.Kernel.Machine.Table.Entries.map (aE.enc .own)),I h.Kernel.Calls,.s .own (h.Kernel.Refuse.map (rI .own)),.s .own (h.Free.map (al.enc .own)),s,l,o,.s .own (h.Caches.map (ar.enc .own)),.s .own (h.Mail.Buffers.map (br .own)),.s .own (h.Mail.Inbox.map (aI .own)),I h.Quar.Room,.s .own (h.Quar.Lst.map (ax.enc .own)),I h.Seed,I h.Clock,I h.Limit,I h.Next,B h.Meshing,I h.Job.Plan.Keep,I h.Job.Plan.Move,.s .own (h.Job.Plan.Cells.map (rI .own)),I h.Job.Phase,I h.Job.Next]
def oS (h:ac):C:=oE (h.Spans.map (am.enc .own))
def oL (h:ac):C:=oE (h.Larges.map (ah.enc .own))
def oO (h:ac):C:=oE (h.Objs.map (aM.enc .own))
def fh (h:ac):List C:=cE h (oS h) (oL h) (oO h)
theorem Gu (rows:List (List C)):fz (oE rows)=fz (.s .own rows):=by cases rows<;>rfl
theorem pz {rows:List (List C)} : oE rows=.s .own rows∨(rows=[]∧oE rows=.s .imm []):=by cases rows with|nil=>exact .inr ⟨rfl,rfl⟩|cons=>exact .inl rfl
theorem Jo (h:ac) {s l o:C} (hs:fz s=.s .imm (h.Spans.map (am.enc .imm))) (hl:fz l=.s .imm (h.Larges.map (ah.enc .imm))) (ho:fz o=.s .imm (h.Objs.map (aM.enc .imm))):dV (cE h s l o)=ac.enc .imm h:=by
 have h1:=ac.enc_fz h
 have h2:dV (cE h s l o)=(((dV (ac.enc .own h)).set 6 (fz s)).set 7 (fz l)).set 8 (fz o):=rfl
 rw[h2,h1,hs,hl,ho];rfl
theorem Jf (h:ac):fz (oS h)=.s .imm (h.Spans.map (am.enc .imm)):=(Gu _).trans (yI _)
theorem Hz (h:ac):fz (oL h)=.s .imm (h.Larges.map (ah.enc .imm)):=(Gu _).trans (vt _)
theorem HX (h:ac):fz (oO h)=.s .imm (h.Objs.map (aM.enc .imm)):=(Gu _).trans (Dh _)
theorem lF (h:ac):dV (fh h)=ac.enc .imm h:=Jo h (Jf h) (Hz h) (HX h)
theorem Av {rows:List (List C)} (h:Hq rows):HS (oE rows):=by cases rows with|nil=>exact⟨.inr rfl,trivial⟩|cons r rs=>exact⟨.inl fun e=>(by cases e),h⟩
theorem jN (h:ac):fK (fh h):=by
 have h1:=ac.enc_fr h
 simp only[ac.enc,fK]at h1
 unfold fh cE
 simp only[fK]
 refine⟨h1.1,h1.2.1,h1.2.2.1,h1.2.2.2.1,h1.2.2.2.2.1,h1.2.2.2.2.2.1,Av ?_,Av ?_,Av ?_,h1.2.2.2.2.2.2.2.2.2⟩
 ·exact h1.2.2.2.2.2.2.1.2
 ·exact h1.2.2.2.2.2.2.2.1.2
 ·exact h1.2.2.2.2.2.2.2.2.1.2
theorem A2 {w:World} {S Y:ab} {rows:List (List C)} {v:Value} (h:dK w S Y (.s .own rows) v):dK w S Y (oE rows) v:=by
 cases rows with
 | cons=>exact h
 | nil=>
  cases h with
  | nil _ o a ho=>exact .nil _ .imm a trivial
  | own _ o g k n cap rows u f ho hn hk hcap hpos hF hu hf hd hc=>simp at hn;omega
theorem FJ {w:World} {S Y:ab} {h:ac} {u:Nat→Value} (hr:cm w S Y (ac.enc .own h) u):cm w S Y (fh h) u:=by
 obtain⟨f,h1,h2,h3⟩:=hr
 refine⟨f,fun j c hj=>?_,h2,h3⟩
 have hz:fh h=(((ac.enc .own h).set 6 (oS h)).set 7 (oL h)).set 8 (oO h):=rfl
 rw[hz]at hj
 by_cases e8:j=8
 ·subst e8
  have:c=oO h:=by simpa[ac.enc] using hj.symm
  rw[this];exact A2 (h1 8 _ rfl)
 by_cases e7:j=7
 ·subst e7
  have:c=oL h:=by simpa[ac.enc] using hj.symm
  rw[this];exact A2 (h1 7 _ rfl)
 by_cases e6:j=6
 ·subst e6
  have:c=oS h:=by simpa[ac.enc] using hj.symm
  rw[this];exact A2 (h1 6 _ rfl)
 ·rw[List.getElem?_set_ne (by omega),List.getElem?_set_ne (by omega),List.getElem?_set_ne (by omega)]at hj
  exact h1 j c hj
theorem nQ (h:ac) (hs:ac.sml h):af Tryz.prog 43 false [.val (some 24) (ac.enc .imm h)] .agg (fh h):=by
 obtain⟨h1,h2⟩:=uP h hs
 refine⟨h1,fun w S vs hS hA=>(h2 w S vs hS hA).mono fun e w1 hv=>?_⟩
 obtain⟨v,he,hk,X,S1,a1,a2,a3,a4,a5⟩:=hv
 exact⟨v,he,hk,X,S1,a1,a2,a3,a4,FJ a5⟩
theorem D2 (h:ac) (s l o:C) (a:Int) (k:Nat) (v:Int) (ha:0≤a):cE {h with Kernel:=eo h.Kernel a (k+1)} s l o=(cE {h with Kernel:=eo h.Kernel a k} s l o).set 0 (.s .own (((eo h.Kernel a k).Machine.Frames.Cells.map (aI .own)).set (aF h.Kernel.Machine.Table (a / 16)).Frame.toNat ((aI .own (iG (nth h.Kernel.Machine.Frames.Cells (iu h.Kernel a)) (a % 16).toNat k)).set 0 (.s .own (((iG (nth h.Kernel.Machine.Frames.Cells (iu h.Kernel a)) (a % 16).toNat k).map (rI .own)).set (a % 16+k).toNat (splice (rI .own v) 0 [I 0])))))):=by
 have e:(a % 16+k).toNat=(a % 16).toNat+k:=by omega
 rw[e]
 simp[cE,eo,List.map_set,iG,aI,splice,iu]
 rfl
theorem rn (h:ac) (s l o:C) (a:Int) (n:Nat) (hk:bf h.Kernel=true) (ha:0≤a∧a<512) (hf:0≤(aF h.Kernel.Machine.Table (a / 16)).Frame∧(aF h.Kernel.Machine.Table (a / 16)).Frame<h.Kernel.Machine.Frames.Cells.length) (hn:a % 16+n≤16) (hr:(nth h.Kernel.Machine.Frames.Cells (iu h.Kernel a)).length=16) :
  bm Tryz.prog 184 false [.ptr (cE h s l o),.val none [I a],.val none [I (n:Nat)]] [.ptr (cE {h with Kernel:=eo h.Kernel a n} s l o),.val none [I a],.val none [I (n:Nat)]] (.tup []) []:=by
 have hks:=fp hk
 have c1:=eQ h.Kernel.Machine.Table (a / 16) hks.1.2
 have hfr:iu h.Kernel a<h.Kernel.Machine.Frames.Cells.length:=by unfold iu;omega
 refine bL (n:=36) (mo:=[]) (tb:=[]) [(0,0),(0,0),(0,0)] Tryz.func184 (by kernel_rfl) rfl (by kernel_rfl) (by rfl) (by rfl) (.inr trivial) fun u q=>?_
 repeat'((conv=>whnf);first|with_reducible (first|refine Lm ?_|refine Wm (by omega) ?_|refine Bn ?_|refine Fm rfl ?_)|refine Bt ?_|refine Bu ?_|refine Sm.rf ?_|refine Cd.mk (by decide) ?_|refine Wr.mk (yK ha) ?_|refine Cl.eq (c1) ⟨⟨rfl,aB.enc_fz _⟩,⟨rfl,rfl⟩,trivial⟩ ?_)
 rw[show cE h s l o=cE {h with Kernel:=eo h.Kernel a 0} s l o by rw[BS h a hfr]]
 (conv=>whnf)
 refine Lp.mk (ι:=Nat) (fun k=>[(0,.hold .box (cE {h with Kernel:=eo h.Kernel a k} s l o)),(1,.hold .one [I (a)]),(2,.hold .one [I ((n:Nat):Int)]),(6,.hold .one [I ((aF h.Kernel.Machine.Table (a / 16)).Frame)]),(7,.hold .one [I ((k:Nat):Int)])]) (fun k=>k≤n) (fun k=>n - k) (0) ?_ (Nat.zero_le _) fun k hk=>?_
 ·repeat'(first|exact trivial|rfl |exact dE _|refine And.intro ?_ ?_|(exact bQ (by first|omega|(simp only;omega)|(simp;omega))))
 have htm:a.tmod 16=a % 16:=m5 ha.1
 have hck:(eo h.Kernel a k).Machine.Frames.Cells[(aF h.Kernel.Machine.Table (a / 16)).Frame.toNat]? = some (iG (nth h.Kernel.Machine.Frames.Cells (iu h.Kernel a)) (a % 16).toNat k):=List.getElem?_set_self hfr
 by_cases lk:k<n
 ·have hzk:=au (xs:=iG (nth h.Kernel.Machine.Frames.Cells (iu h.Kernel a)) (a % 16).toNat k) (i:=(a % 16+k).toNat) (by rw[mU,hr];omega)
  repeat'((conv=>whnf);first|with_reducible (first|refine Lm ?_|refine Wm (by omega) ?_|refine dT (by omega) (fun hq=>?_)|refine Bn ?_|refine Fm rfl ?_)|refine Bt ?_|refine Bu ?_|refine Sm.rf ?_|refine Cd.mk (by decide) ?_|refine Ev.mk htm ?_|refine Ix.mk hf.1 (aa hck) ?_|refine Rw.one rfl (aa hck) rfl ?_|refine Ix.mk (by omega) (aa hzk) ?_|refine Pu.two rfl rfl (aa hck) rfl rfl rfl (aa hzk) rfl (Nat.le_refl _) (D2 h s l o a k _ ha.1) ?_)
  ((conv=>whnf);refine Nx.mk (k+1) (by omega) (by omega) ?_;(repeat'(first|exact trivial|rfl |exact dE _|refine And.intro ?_ ?_|(exact bQ (by first|omega|(simp only;omega)|(simp;omega))))))
 ·obtain rfl:k=n:=by omega
  repeat'((conv=>whnf);first|with_reducible (first|refine Lm ?_|refine Wm (by omega) ?_|refine dF (by omega) (fun hq=>?_)|refine Bn ?_|refine Fm rfl ?_)|refine Bt ?_|refine Bu ?_|refine Sm.rf ?_)
  refine cY.mk rfl rfl ?_
  repeat'(first|exact trivial|rfl| exact dE _ |refine And.intro ?_ ?_|(exact bQ (by first|omega|(simp only;omega)|(simp;omega))))
theorem mC (h:ac) (r:al) (n:Nat) (hk:bf h.Kernel=true) (hc:h.Kernel.Calls≠100000) (hfl:h.Free.length≤1048576) (hr:r.Len=n∧0≤r.At∧r.At≤1000∧n≤1000) :
  bm Tryz.prog 182 false [.ptr (fh h),.val (some 2) (al.enc .imm r)] [.ptr (fh {h with Kernel:=gd h.Kernel r.At n,Free:=(bX (eP h) h.Free r).getD h.Free}),.val (some 2) (al.enc .imm r)] (.tup []) []:=by
 have hok:=hk
 have hpg:eP h≤32:=(eb.1 (bG.1 hk).2.2.1).2.2
 have c2:=wK {h with Kernel:=gd h.Kernel r.At n}
 rw[show eP {h with Kernel:=gd h.Kernel r.At n} = eP h from(k6 _ _ _).1]at c2
 have c3:=uv (eP h:Nat) h.Free r ⟨by omega,by omega⟩ ⟨hfl,fun _ _=>trivial⟩
 refine bL (n:=44) (mo:=[]) (tb:=[(5,272,[29,30,31,32,33,34,35,36,37,38,39,28,40,41,42,43,0,1,2,3,4,5,6,7,8,9,10,11,12,13,14,15,16,1013])]) [(0,0),(0,0)] Tryz.func182 (by kernel_rfl) rfl (by kernel_rfl) (by rfl) (by rfl) (.inr trivial) fun u q=>?_
 repeat'((conv=>whnf);first|with_reducible (first|refine Lm ?_|refine Wm (by omega) ?_|refine Bn ?_|refine Fm rfl ?_)|refine Bt ?_|refine Bu ?_|refine Sm.rf ?_)
 (conv=>whnf)
 refine Lp.mk (ι:=Nat) (fun k=>[(0,.hold .box (fh {h with Kernel:=gd h.Kernel r.At k})),(3,.hold .box (al.enc .imm r)),(4,.hold .one [I ((r.At+k))])]) (fun k=>k≤n) (fun k=>n - k) (0) ?_ (Nat.zero_le _) fun k hk=>?_
 ·repeat'(first|exact trivial|rfl |exact dE _|refine And.intro ?_ ?_|(exact bQ (by first|omega|(simp only;omega)|(simp;omega))))
 by_cases lk:k<n
 ·have c1:=yw (gd h.Kernel r.At k) (r.At+k) (pA hok _ _) (by rw[(uV _ _ _).1];exact hc)
  repeat'((conv=>whnf);first|with_reducible (first|refine Lm ?_|refine Wm (by omega) ?_|refine dT (by omega) (fun hq=>?_)|refine Bn ?_|refine Fm rfl ?_)|refine Bt ?_|refine Bu ?_|refine Sm.rf ?_|refine Cl.eq (c1) ⟨⟨rfl,ao.enc_fz _⟩,⟨rfl,rfl⟩,trivial⟩ ?_)
  ((conv=>whnf);refine Nx.mk (k+1) (by omega) (by omega) ?_;(repeat'(first|exact trivial|rfl |exact dE _|refine And.intro ?_ ?_|(exact bQ (by first|omega|(simp only;omega)|(simp;omega))))))
 ·obtain rfl:k=n:=by omega
  repeat'((conv=>whnf);first|with_reducible (first|refine Lm ?_|refine Wm (by omega) ?_|refine dF (by omega) (fun hq=>?_)|refine Bn ?_|refine Fm rfl ?_)|refine Bt ?_|refine Bu ?_|refine Sm.rf ?_|refine Cl.eq (c2) ⟨⟨rfl,lF _⟩,trivial⟩ ?_|refine Cl.eq (c3) ⟨⟨rfl,rfl⟩,⟨rfl,gP h.Free⟩,⟨rfl,rfl⟩,trivial⟩ ?_|refine Sm.rf ?_)
  refine cY.mk rfl rfl ?_
  repeat'(first|exact trivial|rfl| exact dE _ |refine And.intro ?_ ?_|(exact bQ (by first|omega|(simp only;omega)|(simp;omega))))
end Go.Proofs.YtogajjgmcnjkbaaGreat.Ab
