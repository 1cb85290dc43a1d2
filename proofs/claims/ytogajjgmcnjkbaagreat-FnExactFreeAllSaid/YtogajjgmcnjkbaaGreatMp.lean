/- A range put into a list of ranges: as the reference does it and as the program does, and that both do the same. No condition. -/
import Derived.Test.YtogajjgmcnjkbaaGreatMk
import Derived.WalkKit
import Derived.Lib.SliceRun
namespace Go.Proofs.YtogajjgmcnjkbaaGreat.Ab
def ovl (y r:al):Bool:=decide (y.At<r.At+r.Len∧r.At<y.At+y.Len)
def kB (r:al):List al→Bool→Option (List al)
 | [],put=>some (if put then [] else [r])
 | y::ys,put=>if ovl y r then none else if !put&&decide (y.At > r.At) then(kB r ys true).map fun t=>r::y::t else(kB r ys put).map fun t=>y::t
def cF (out:List al):List al→List al
 | []=>out
 | y::ys=>match out.getLast? with
  | some z=>if z.At+z.Len=y.At then cF (out.dropLast++[⟨z.At,z.Len+y.Len⟩]) ys else cF (out++[y]) ys
  | none=>cF (out++[y]) ys
def gq:List al→al→List al→Bool→Option (List al)
 | [],r,out,done=>some (if done then out else out++[r])
 | y::ys,r,out,done=>
  if ovl y r then none
  else if y.At+y.Len=r.At then gq ys ⟨y.At,y.Len+r.Len⟩ out done
  else if r.At+r.Len=y.At then gq ys ⟨r.At,r.Len+y.Len⟩ out done
  else if y.At > r.At∧done=false then gq ys r (out++[r,y]) true
  else gq ys r (out++[y]) done
def nq (xs:List al):Prop:=xs.Pairwise (fun a b=>a.At+a.Len<b.At)∧∀ y∈xs,1≤y.Len
theorem nq.tail {y:al} {ys:List al} (h:nq (y::ys)):nq ys:=⟨(List.pairwise_cons.1 h.1).2,fun z hz=>h.2 z (List.mem_cons_of_mem _ hz)⟩
theorem nq.head {y:al} {ys:List al} (h:nq (y::ys)):∀ z∈ys,y.At+y.Len<z.At:=(List.pairwise_cons.1 h.1).1
theorem gE:∀ (ys out:List al),nq ys→(∀ z,out.getLast? = some z→∀ y∈ys,z.At+z.Len≠y.At)→cF out ys=out++ys
 | [],out,_,_=>by simp[cF]
 | y::ys,out,hg,hl=>by
  have hrec:cF (out++[y]) ys=out++y::ys:=by
   rw[gE ys (out++[y]) hg.tail fun z hz w hw=>by
     simp at hz;subst hz
     have:=hg.head w hw
     omega]
   simp
  unfold cF
  split
  ·rename_i z hz
   rw[if_neg (hl z hz y (List.mem_cons_self ..))]
   exact hrec
  ·exact hrec
theorem sP {r:al} : ∀ {ys:List al},nq ys→(∀ y∈ys,r.At+r.Len≤y.At)→kB r ys true=some ys
 | [],_,_=>rfl
 | y::ys,hg,hr=>by
  have h1:=hr y (List.mem_cons_self ..)
  unfold kB
  rw[if_neg (by unfold ovl;rw[decide_eq_true_eq];omega)]
  simp only[Bool.not_true,Bool.false_and,Bool.false_eq_true,if_false]
  rw[sP hg.tail fun z hz=>hr z (List.mem_cons_of_mem _ hz)]
  rfl
theorem rc {r:al} (h1:1≤r.Len) {ys:List al} (hg:nq ys) (hr:∀ y∈ys,r.At+r.Len≤y.At):kB r ys false=some (r::ys):=by
 cases ys with
 | nil=>rfl
 | cons y ys=>
  have h2:=hr y (List.mem_cons_self ..)
  unfold kB
  rw[if_neg (by unfold ovl;rw[decide_eq_true_eq];omega),if_pos (by simp;omega),sP hg.tail fun z hz=>hr z (List.mem_cons_of_mem _ hz)]
  rfl
theorem mX {r:al} : ∀ {ys out:List al},nq ys→1≤r.Len→(∀ y∈ys,r.At+r.Len<y.At)→gq ys r out true=some (out++ys)
 | [],out,_,_,_=>by simp[gq]
 | y::ys,out,hg,h1,hr=>by
  have h2:=hr y (List.mem_cons_self ..)
  have h3:=hg.2 y (List.mem_cons_self ..)
  unfold gq
  rw[if_neg (by unfold ovl;rw[decide_eq_true_eq];omega),if_neg (by omega),if_neg (by omega),if_neg (by simp),mX hg.tail h1 fun z hz=>hr z (List.mem_cons_of_mem _ hz)]
  simp
theorem sw {r:al} (h1:1≤r.Len) {ys out:List al} (hg:nq ys) (hr:∀ y∈ys,r.At+r.Len≤y.At):gq ys r out false=some (out++match ys with|[]=>[r]|y::zs=>if r.At+r.Len=y.At then⟨r.At,r.Len+y.Len⟩::zs else r::y::zs):=by
 cases ys with
 | nil=>simp[gq]
 | cons y ys=>
  have h2:=hr y (List.mem_cons_self ..)
  have h3:=hg.2 y (List.mem_cons_self ..)
  unfold gq
  rw[if_neg (by unfold ovl;rw[decide_eq_true_eq];omega),if_neg (by omega)]
  by_cases e:r.At+r.Len=y.At
  ·rw[if_pos e]
   simp only[e,if_true]
   cases ys with
   | nil=>simp[gq]
   | cons z ys=>
    have h4:=hg.head z (List.mem_cons_self ..)
    have h5:=hg.tail.2 z (List.mem_cons_self ..)
    unfold gq
    simp only
    rw[if_neg (by unfold ovl;rw[decide_eq_true_eq];simp only;omega),if_neg (by omega),if_neg (by omega),if_pos (by simp;omega),mX hg.tail.tail (by simp only;omega) fun w hw=>by
      have:=hg.tail.head w hw
      simp only;omega]
    simp
  ·rw[if_neg e,if_pos (by simp;omega),mX hg.tail h1 fun z hz=>by have:=hg.head z hz;omega]
   simp[e]
theorem vn {pages:Int} : ∀ {ys:List al} {r:al} {out:List al},nq ys→1≤r.Len→(∀ z,out.getLast? = some z→(∀ y∈ys,z.At+z.Len<y.At)∧z.At+z.Len<r.At)→(kB r ys false).map (cF out)=gq ys r out false
 | [],r,out,_,h1,hl=>by
  show some (cF out [r])=some (out++[r])
  rw[gE [r] out ⟨List.pairwise_singleton ..,fun y hy=>by rw[List.mem_singleton.1 hy];exact h1⟩ fun z hz y hy=>by rw[List.mem_singleton.1 hy];have:=(hl z hz).2;omega]
 | y::ys,r,out,hg,h1,hl=>by
  have h3:=hg.2 y (List.mem_cons_self ..)
  by_cases ho:ovl y r=true
  ·unfold kB gq
   rw[if_pos ho,if_pos ho];rfl
  ·have ho':=ho
   unfold ovl at ho'
   rw[decide_eq_true_eq]at ho'
   by_cases hlr:r.At+r.Len≤y.At
   ·-- all to the right
    have hall:∀ w∈y::ys,r.At+r.Len≤w.At:=fun w hw=>by
     rcases List.mem_cons.1 hw with rfl|hw
     ·exact hlr
     ·have:=hg.head w hw;omega
    rw[rc h1 hg hall,sw h1 hg hall]
    show some (cF out (r::y::ys))=_
    have hfirst:cF out (r::y::ys)=cF (out++[r]) (y::ys):=by
     conv=>lhs;unfold cF
     split
     ·rename_i z hz;rw[if_neg (by have:=(hl z hz).2;omega)]
     ·rfl
    rw[hfirst]
    by_cases e:r.At+r.Len=y.At
    ·have:cF (out++[r]) (y::ys)=cF (out++[⟨r.At,r.Len+y.Len⟩]) ys:=by
      conv=>lhs;unfold cF
      simp[e]
     rw[this,gE ys _ hg.tail fun z hz w hw=>by
       simp at hz;subst hz
       have:=hg.head w hw
       simp only;omega]
     simp[e]
    ·rw[gE (y::ys) (out++[r]) hg fun z hz w hw=>by
       simp at hz;subst hz
       rcases List.mem_cons.1 hw with rfl|hw
       · exact e
       · have:=hg.head w hw;omega]
     simp[e]
   ·have hyl:y.At+y.Len≤r.At:=by omega
    have hstep:∀ t,cF out (y::t)=cF (out++[y]) t:=fun t=>by
     conv=>lhs;unfold cF
     split
     ·rename_i z hz;rw[if_neg (by have:=(hl z hz).1 y (List.mem_cons_self ..);omega)]
     ·rfl
    have hs:(kB r (y::ys) false).map (cF out)=(kB r ys false).map (cF (out++[y])):=by
     conv=>lhs;unfold kB
     rw[if_neg ho,if_neg (by simp;omega),Option.map_map]
     congr 1
     funext t
     exact hstep t
    rw[hs]
    unfold gq
    rw[if_neg ho]
    by_cases e:y.At+y.Len=r.At
    ·rw[if_pos e]
     by_cases hov:∃ w,ys.head? = some w∧ovl w r=true
     ·obtain⟨w,hw,ho2⟩:=hov
      cases ys with
      | nil=>cases hw
      | cons w2 ws=>
       obtain rfl:w2=w:=by simpa using hw
       have g1:=hg.head w2 (List.mem_cons_self ..)
       have g2:=hg.tail.2 w2 (List.mem_cons_self ..)
       have ho3:=ho2
       unfold ovl at ho3
       rw[decide_eq_true_eq]at ho3
       unfold kB gq
       rw[if_pos ho2,if_pos (by unfold ovl;rw[decide_eq_true_eq];simp only;omega)]
       rfl
     ·have hall:∀ w∈ys,r.At+r.Len≤w.At:=by
       cases ys with
       | nil=>intro w hw;cases hw
       | cons w2 ws=>
        have g1:=hg.head w2 (List.mem_cons_self ..)
        have g2:=hg.tail.2 w2 (List.mem_cons_self ..)
        have h5:¬ovl w2 r=true:=fun h=>hov ⟨w2,rfl,h⟩
        unfold ovl at h5
        rw[decide_eq_true_eq]at h5
        intro w hw
        rcases List.mem_cons.1 hw with rfl|hw
        ·omega
        ·have:=hg.tail.head w hw;omega
      rw[rc h1 hg.tail hall,sw (r:=⟨y.At,y.Len+r.Len⟩) (by simp only;omega) hg.tail fun w hw=>by have:=hall w hw;simp only;omega]
      show some (cF (out++[y]) (r::ys))=_
      have hj:cF (out++[y]) (r::ys)=cF (out++[⟨y.At,y.Len+r.Len⟩]) ys:=by
       conv=>lhs;unfold cF
       simp[e]
      rw[hj]
      cases ys with
      | nil=>simp[cF]
      | cons w2 ws=>
       by_cases e2:y.At+(y.Len+r.Len)=w2.At
       ·have hj2:cF (out++[⟨y.At,y.Len+r.Len⟩]) (w2::ws)=cF (out++[⟨y.At,y.Len+r.Len+w2.Len⟩]) ws:=by
         conv=>lhs;unfold cF
         simp[e2]
        rw[hj2,gE ws _ hg.tail.tail fun z hz w hw=>by
          simp at hz;subst hz
          have:=hg.tail.head w hw
          simp only;omega]
        simp[e2]
       ·rw[gE (w2::ws) _ hg.tail fun z hz w hw=>by
          simp at hz;subst hz
          simp only
          rcases List.mem_cons.1 hw with rfl|hw
          · exact e2
          · have:=hg.tail.head w hw
            have:=hall w2 (List.mem_cons_self ..)
            have:=hg.tail.2 w2 (List.mem_cons_self ..)
            omega]
        simp[e2]
    ·rw[if_neg e,if_neg (by omega),if_neg (by omega)]
     exact vn (pages:=pages) hg.tail h1 fun z hz=>by
      simp at hz;subst hz
      exact⟨hg.head,by omega⟩
end Go.Proofs.YtogajjgmcnjkbaaGreat.Ab
namespace Go.Proofs.YtogajjgmcnjkbaaGreat.Ab
end Go.Proofs.YtogajjgmcnjkbaaGreat.Ab
namespace Go.Proofs.YtogajjgmcnjkbaaGreat.Ab
open Go.RowKit
set_option maxRecDepth 20000
set_option maxHeartbeats 4000000
theorem sC (w:World) (q:Nat) (os:Array Obj):bu NO w (Sort.grow (w.drewN q) os):=by
 have hb:∀ b,b<w.heap.size→(Sort.grow (w.drewN q) os).heap[b]? = w.heap[b]?:=fun b hb=>Sort.heap_grow_old (w.drewN q) os hb
 refine⟨rfl,rfl,rfl,by show w.heap.size≤(w.heap++os).size;simp,fun b h _=>hb b h,fun b o h _=>?_,fun b o h _=>?_⟩
 ·show World.cell? _ _=World.cell? w _
  unfold World.cell?;simp only[hb b h]
 ·refine Prod.ext ?_ ?_
  ·show World.frozen? _ _=World.frozen? w _
   unfold World.frozen?;simp only[hb b h]
  ·show mp _ b=mp w b
   unfold mp;rw[hb b h]
theorem D8 (c:Nat) (W:World):Calls Tryz.prog 320 #[.slice none 0 c] W fun e w'=>∃ B q os,e=.returned (.slice B 0 0)∧w'=Sort.grow (W.drewN q) os:=by
 have q22:∀ (w:World) (a:Option Addr) (n c n' c':Nat),(binOp .eql 31 (.slice a n c) (.slice none n' c')).run Tryz.prog w=.ok (.bool a.isNone) w:=fun w a n c n' c'=>Lib.run_eql_slice_nil w _ _ a n c n' c' Tryz.underlying31
 go_enter Tryz.func320,Tryz.ntmps320
 go_wp2
 go_ret
 exact⟨none,0,#[],rfl,by simp[Sort.grow,World.drewN]⟩
theorem AH (a:Addr) (c:Nat) (W:World):Calls Tryz.prog 320 #[.slice (some a) 0 c] W fun e w'=>∃ B q os,e=.returned (.slice B 0 0)∧w'=Sort.grow (W.drewN q) os:=by
 have q22:∀ (w:World) (a:Option Addr) (n c n' c':Nat),(binOp .eql 31 (.slice a n c) (.slice none n' c')).run Tryz.prog w=.ok (.bool a.isNone) w:=fun w a n c n' c'=>Lib.run_eql_slice_nil w _ _ a n c n' c' Tryz.underlying31
 go_enter Tryz.func320,Tryz.ntmps320
 go_wp2
 go_ret
 exact⟨some ⟨W.heap.size,0,none⟩,0,#[.cells #[] 3],rfl,by rw[Sort.alloc_eq_grow];rfl⟩
theorem Bj (xs:List Int) (hl:xs.length≤1048576):af Tryz.prog 320 false [.val none (aI .imm xs)] .one (aI .own xs):=by
 by_cases he:xs=[]
 ·subst he
  refine⟨⟨_,Tryz.func320,by kernel_rfl,by kernel_rfl⟩,fun w S vs hS hA=>?_⟩
  match vs,hA with
  | [v],⟨hA,_⟩=>
   have hrep:=bo.rep1 (show bo w S NO none [C.s .imm []] v from hA)
   obtain⟨ad,cap,rfl⟩:=hrep.slice
   have hz:Calls Tryz.prog 320 #[.slice ad 0 cap] w fun e w'=>∃ B q os,e=.returned (.slice B 0 0)∧w'=Sort.grow (w.drewN q) os:=by
    cases ad with
    | none=>exact D8 cap w
    | some a=>exact AH a cap w
   refine hz.mono fun e w' ⟨B,q,os,he,hw'⟩=>?_
   subst hw'
   exact⟨.slice B 0 0,he,sC w q os,NO,NO,fun _ _ h=>h.elim,fun _ _ h=>h.elim,fun _ _ h=>h.elim,rfl,row1 (.nil _ .own B trivial)⟩
 ·have hne:xs.map (rI .imm)≠[]:=fun e=>he (List.map_eq_nil_iff.1 e)
  refine fO (n:=8) [] Tryz.func320 (by kernel_rfl) rfl (by kernel_rfl) (by rfl) (.inr (bZ _)) ?_
  repeat'((conv=>whnf);first|with_reducible (first|refine Lm ?_|refine Wm (by omega) ?_|refine Bn ?_|refine Fm rfl ?_)|refine Bt ?_|refine Bu ?_|refine Nn.mk hne ?_|refine Ap.cp (fun _=>rfl) (fun _=>rfl) hl (by decide) ?_)
  rfl
theorem ue (p:aV) (hs:aV.sml p):af Tryz.prog 247 false [.val (some 3) (aV.enc .imm p)] .agg (aV.enc .own p):=by
 have hl:p.Cells.length≤1048576:=hs
 refine fO (n:=8) [] Tryz.func247 (by kernel_rfl) rfl (by kernel_rfl) (by rfl) (.inr (aV.enc_fr _)) ?_
 repeat'((conv=>whnf);first|with_reducible (first|refine Lm ?_|refine Wm (by omega) ?_|refine Bn ?_|refine Fm rfl ?_)|refine Bt ?_|refine Bu ?_|refine Cl.mk (Bj p.Cells hl) ?_)
 rfl
theorem wO (j:bq) (hs:bq.sml j):af Tryz.prog 136 false [.val (some 5) (bq.enc .imm j)] .agg (bq.enc .own j):=by
 refine fO (n:=8) [] Tryz.func136 (by kernel_rfl) rfl (by kernel_rfl) (by rfl) (.inr (bq.enc_fr _)) ?_
 repeat'((conv=>whnf);first|with_reducible (first|refine Lm ?_|refine Wm (by omega) ?_|refine Bn ?_|refine Fm rfl ?_)|refine Bt ?_|refine Bu ?_|refine Cl.mk (ue j.Plan hs) ?_)
 rfl
end Go.Proofs.YtogajjgmcnjkbaaGreat.Ab
namespace Go.Proofs.YtogajjgmcnjkbaaGreat.Ab
open Go.RowKit
set_option maxRecDepth 20000
set_option maxHeartbeats 4000000
theorem kW (c:ar) (hs:ar.sml c):af Tryz.prog 103 false [.val (some 1) (ar.enc .imm c)] .agg (ar.enc .own c):=by
 have hl:=hs.1
 refine fO (n:=26) [(5,10,[13,14,15,16,17,18,19,20,21,22])] Tryz.func103 (by kernel_rfl) rfl (by kernel_rfl) (by rfl) (.inr (ar.enc_fr _)) ?_
 repeat'((conv=>whnf);first|with_reducible (first|refine Lm ?_|refine Wm (by omega) ?_|refine Bn ?_|refine Fm rfl ?_)|refine Bt ?_|refine Bu ?_)
 (conv=>whnf)
 refine Lp.mk (ι:=Nat) (fun i=>[(1,.hold .box (ar.enc .imm c)),(2,.hold .box [.z]),(3,.hold .box [.s .own ((c.Lists.take i).map (aI .own))]),(4,.hold .one [I ((i:Nat):Int)])]) (fun i=>i≤c.Lists.length) (fun i=>c.Lists.length - i) (0) ?_ (Nat.zero_le _) fun i hi=>?_
 ·repeat'(first|exact trivial|rfl |refine And.intro ?_ ?_|(exact bQ (by first|omega|(simp only;omega)|(simp;omega))))
 by_cases li:i<c.Lists.length
 ·have hx:=au li
  have hxl:(nth c.Lists i).length≤1048576:=hs.2 _ (ay li)
  repeat'((conv=>whnf);first|with_reducible (first|refine Lm ?_|refine Wm (by omega) ?_|refine Ix.nat (aa hx) ?_|refine dT (by omega) (fun hq=>?_)|refine Bn ?_|refine Fm rfl ?_)|refine Bt ?_|refine Bu ?_|refine Fl.cp (fun _=>rfl) (fun _=>rfl) hxl (by decide) ?_|refine Ap.sn (bl fun _=>rfl) rfl (by simp;omega) (by decide) (eH li) ?_)
  ((conv=>whnf);refine Nx.mk (i+1) (by omega) (by omega) ?_;(repeat'(first|exact trivial|rfl|refine And.intro ?_ ?_|(exact bQ (by first|omega|(simp only;omega)|(simp;omega))))))
 ·repeat'((conv=>whnf);first|with_reducible (first|refine Lm ?_|refine Wm (by omega) ?_|refine dF (by omega) (fun hq=>?_)|refine Bn ?_|refine Fm rfl ?_)|refine Bt ?_|refine Bu ?_)
  obtain rfl:i=c.Lists.length:=by omega
  rw[List.take_length]
  rfl
theorem mH (c:ar) (hs:ar.sml c):af Tryz.prog 133 false [.val (some 1) (ar.enc .imm c)] .agg (ar.enc .own c):=by
 have hl:=hs.1
 refine fO (n:=23) [(5,5,[14,15,16,17,18])] Tryz.func133 (by kernel_rfl) rfl (by kernel_rfl) (by rfl) (.inr (ar.enc_fr _)) ?_
 repeat'((conv=>whnf);first|with_reducible (first|refine Lm ?_|refine Wm (by omega) ?_|refine Bn ?_|refine Fm rfl ?_)|refine Bt ?_|refine Bu ?_)
 (conv=>whnf)
 refine Lp.mk (ι:=Nat) (fun i=>[(2,.hold .box [.z]),(3,.hold .box [.s .own ((c.Lists.take i).map (aI .own))]),(8,.hold .one (d5 .imm c.Lists)),(9,.hold .one [I (c.Lists.length)]),(10,.hold .one [I ((i:Nat):Int)])]) (fun i=>i≤c.Lists.length) (fun i=>c.Lists.length - i) (0) ?_ (Nat.zero_le _) fun i hi=>?_
 ·repeat'(first|exact trivial|rfl |refine And.intro ?_ ?_|(exact bQ (by first|omega|(simp only;omega)|(simp;omega))))
 by_cases li:i<c.Lists.length
 ·have hx:=au li
  have hxl:(nth c.Lists i).length≤1048576:=hs.2 _ (ay li)
  repeat'((conv=>whnf);first|with_reducible (first|refine Lm ?_|refine Wm (by omega) ?_|refine Ix.nat (aa hx) ?_|refine dT (by omega) (fun hq=>?_)|refine Bn ?_|refine Fm rfl ?_)|refine Bt ?_|refine Bu ?_|refine Cl.mk (gI (nth c.Lists i) hxl) ?_|refine Ap.sn (bl fun _=>rfl) rfl (by simp;omega) (by decide) (eH li) ?_)
  ((conv=>whnf);refine Nx.mk (i+1) (by omega) (by omega) ?_;(repeat'(first|exact trivial|rfl|refine And.intro ?_ ?_|(exact bQ (by first|omega|(simp only;omega)|(simp;omega))))))
 ·repeat'((conv=>whnf);first|with_reducible (first|refine Lm ?_|refine Wm (by omega) ?_|refine dF (by omega) (fun hq=>?_)|refine Bn ?_|refine Fm rfl ?_)|refine Bt ?_|refine Bu ?_)
  obtain rfl:i=c.Lists.length:=by omega
  rw[List.take_length]
  rfl
theorem wJ (m:aG) (hs:aG.sml m):af Tryz.prog 104 false [.val (some 2) (aG.enc .imm m)] .agg (aG.enc .own m):=by
 have hl:=hs.1.1
 have hl2:=hs.2.1
 refine fO (n:=46) [(5,10,[14,15,16,17,18,19,20,21,22,23]),(9,10,[33,34,35,36,37,38,39,40,41,42])] Tryz.func104 (by kernel_rfl) rfl (by kernel_rfl) (by rfl) (.inr (aG.enc_fr _)) ?_
 repeat'((conv=>whnf);first|with_reducible (first|refine Lm ?_|refine Wm (by omega) ?_|refine Bn ?_|refine Fm rfl ?_)|refine Bt ?_|refine Bu ?_)
 (conv=>whnf)
 refine Lp.mk (ι:=Nat) (fun i=>[(1,.hold .box (aG.enc .imm m)),(2,.hold .box [.z,.z]),(3,.hold .box [.s .own ((m.Buffers.take i).map (br .own)),.z]),(4,.hold .one [I ((i:Nat):Int)])]) (fun i=>i≤m.Buffers.length) (fun i=>m.Buffers.length - i) (0) ?_ (Nat.zero_le _) fun i hi=>?_
 ·repeat'(first|exact trivial|rfl |refine And.intro ?_ ?_|(exact bQ (by first|omega|(simp only;omega)|(simp;omega))))
 by_cases li:i<m.Buffers.length
 ·have hx:=au li
  have hxl:(nth m.Buffers i).length≤1048576:=(hs.1.2 _ (ay li)).1
  repeat'((conv=>whnf);first|with_reducible (first|refine Lm ?_|refine Wm (by omega) ?_|refine Ix.nat (aa hx) ?_|refine dT (by omega) (fun hq=>?_)|refine Bn ?_|refine Fm rfl ?_)|refine Bt ?_|refine Bu ?_|refine Fl.cp (fun _=>rfl) (fun _=>rfl) hxl (by decide) ?_|refine Ap.sn (bl fun _=>rfl) rfl (by simp;omega) (by decide) (eH li) ?_)
  ((conv=>whnf);refine Nx.mk (i+1) (by omega) (by omega) ?_;(repeat'(first|exact trivial|rfl|refine And.intro ?_ ?_|(exact bQ (by first|omega|(simp only;omega)|(simp;omega))))))
 obtain rfl:i=m.Buffers.length:=by omega
 rw[List.take_length]
 repeat'((conv=>whnf);first|with_reducible (first|refine Lm ?_|refine Wm (by omega) ?_|refine dF (by omega) (fun hq=>?_)|refine Bn ?_|refine Fm rfl ?_)|refine Bt ?_|refine Bu ?_)
 (conv=>whnf)
 refine Lp.mk (ι:=Nat) (fun k=>[(1,.hold .box (aG.enc .imm m)),(2,.hold .box [.z,.z]),(3,.hold .box [.s .own (m.Buffers.map (br .own)),.s .own ((m.Inbox.take k).map (aI .own))]),(5,.hold .one [I ((k:Nat):Int)])]) (fun k=>k≤m.Inbox.length) (fun k=>m.Inbox.length - k) (0) ?_ (Nat.zero_le _) fun k hk=>?_
 ·repeat'(first|exact trivial|rfl |refine And.intro ?_ ?_|(exact bQ (by first|omega|(simp only;omega)|(simp;omega))))
 by_cases lk:k<m.Inbox.length
 ·have hx:=au lk
  have hxl:(nth m.Inbox k).length≤1048576:=hs.2.2 _ (ay lk)
  repeat'((conv=>whnf);first|with_reducible (first|refine Lm ?_|refine Wm (by omega) ?_|refine Ix.nat (aa hx) ?_|refine dT (by omega) (fun hq=>?_)|refine Bn ?_|refine Fm rfl ?_)|refine Bt ?_|refine Bu ?_|refine Fl.cp (fun _=>rfl) (fun _=>rfl) hxl (by decide) ?_|refine Ap.sn (bl fun _=>rfl) rfl (by simp;omega) (by decide) (eH lk) ?_)
  ((conv=>whnf);refine Nx.mk (k+1) (by omega) (by omega) ?_;(repeat'(first|exact trivial|rfl|refine And.intro ?_ ?_|(exact bQ (by first|omega|(simp only;omega)|(simp;omega))))))
 ·repeat'((conv=>whnf);first|with_reducible (first|refine Lm ?_|refine Wm (by omega) ?_|refine dF (by omega) (fun hq=>?_)|refine Bn ?_|refine Fm rfl ?_)|refine Bt ?_|refine Bu ?_)
  obtain rfl:k=m.Inbox.length:=by omega
  rw[List.take_length]
  rfl
theorem tW (m:aG) (hs:aG.sml m):af Tryz.prog 134 false [.val (some 2) (aG.enc .imm m)] .agg (aG.enc .own m):=by
 have hl:=hs.1.1
 have hl2:=hs.2.1
 refine fO (n:=41) [(5,6,[16,17,18,19,20,21]),(10,5,[32,33,34,35,36])] Tryz.func134 (by kernel_rfl) rfl (by kernel_rfl) (by rfl) (.inr (aG.enc_fr _)) ?_
 repeat'((conv=>whnf);first|with_reducible (first|refine Lm ?_|refine Wm (by omega) ?_|refine Bn ?_|refine Fm rfl ?_)|refine Bt ?_|refine Bu ?_)
 (conv=>whnf)
 refine Lp.mk (ι:=Nat) (fun i=>[(1,.hold .box (aG.enc .imm m)),(2,.hold .box [.z,.z]),(3,.hold .box [.s .own ((m.Buffers.take i).map (br .own)),.z]),(10,.hold .one (dm .imm m.Buffers)),(11,.hold .one [I (m.Buffers.length)]),(12,.hold .one [I ((i:Nat):Int)])]) (fun i=>i≤m.Buffers.length) (fun i=>m.Buffers.length - i) (0) ?_ (Nat.zero_le _) fun i hi=>?_
 ·repeat'(first|exact trivial|rfl |refine And.intro ?_ ?_|(exact bQ (by first|omega|(simp only;omega)|(simp;omega))))
 by_cases li:i<m.Buffers.length
 ·have hx:=au li
  have hxl:(nth m.Buffers i).length≤1048576:=(hs.1.2 _ (ay li)).1
  repeat'((conv=>whnf);first|with_reducible (first|refine Lm ?_|refine Wm (by omega) ?_|refine Ix.nat (aa hx) ?_|refine dT (by omega) (fun hq=>?_)|refine Bn ?_|refine Fm rfl ?_)|refine Bt ?_|refine Bu ?_|refine Fl.cp (fun _=>rfl) (fun _=>rfl) hxl (by decide) ?_|refine Ap.sn (bl fun _=>rfl) rfl (by simp;omega) (by decide) (eH li) ?_)
  ((conv=>whnf);refine Nx.mk (i+1) (by omega) (by omega) ?_;(repeat'(first|exact trivial|rfl|refine And.intro ?_ ?_|(exact bQ (by first|omega|(simp only;omega)|(simp;omega))))))
 obtain rfl:i=m.Buffers.length:=by omega
 rw[List.take_length]
 repeat'((conv=>whnf);first|with_reducible (first|refine Lm ?_|refine Wm (by omega) ?_|refine dF (by omega) (fun hq=>?_)|refine Bn ?_|refine Fm rfl ?_)|refine Bt ?_|refine Bu ?_)
 (conv=>whnf)
 refine Lp.mk (ι:=Nat) (fun k=>[(2,.hold .box [.z,.z]),(3,.hold .box [.s .own (m.Buffers.map (br .own)),.s .own ((m.Inbox.take k).map (aI .own))]),(26,.hold .one (d5 .imm m.Inbox)),(27,.hold .one [I (m.Inbox.length)]),(28,.hold .one [I ((k:Nat):Int)])]) (fun k=>k≤m.Inbox.length) (fun k=>m.Inbox.length - k) (0) ?_ (Nat.zero_le _) fun k hk=>?_
 ·repeat'(first|exact trivial|rfl |refine And.intro ?_ ?_|(exact bQ (by first|omega|(simp only;omega)|(simp;omega))))
 by_cases lk:k<m.Inbox.length
 ·have hx:=au lk
  have hxl:(nth m.Inbox k).length≤1048576:=hs.2.2 _ (ay lk)
  repeat'((conv=>whnf);first|with_reducible (first|refine Lm ?_|refine Wm (by omega) ?_|refine Ix.nat (aa hx) ?_|refine dT (by omega) (fun hq=>?_)|refine Bn ?_|refine Fm rfl ?_)|refine Bt ?_|refine Bu ?_|refine Cl.mk (gI (nth m.Inbox k) hxl) ?_|refine Ap.sn (bl fun _=>rfl) rfl (by simp;omega) (by decide) (eH lk) ?_)
  ((conv=>whnf);refine Nx.mk (k+1) (by omega) (by omega) ?_;(repeat'(first|exact trivial|rfl|refine And.intro ?_ ?_|(exact bQ (by first|omega|(simp only;omega)|(simp;omega))))))
 ·repeat'((conv=>whnf);first|with_reducible (first|refine Lm ?_|refine Wm (by omega) ?_|refine dF (by omega) (fun hq=>?_)|refine Bn ?_|refine Fm rfl ?_)|refine Bt ?_|refine Bu ?_)
  obtain rfl:k=m.Inbox.length:=by omega
  rw[List.take_length]
  rfl
theorem o9 (q:aK) (hs:aK.sml q):af Tryz.prog 105 false [.val (some 2) (aK.enc .imm q)] .agg (aK.enc .own q):=by
 have hl:q.Lst.length≤1048576:=hs.1
 refine fO (n:=10) [(1,6,[3,4,5,6,7,8])] Tryz.func105 (by kernel_rfl) rfl (by kernel_rfl) (by rfl) (.inr (aK.enc_fr _)) ?_
 repeat'((conv=>whnf);first|with_reducible (first|refine Lm ?_|refine Wm (by omega) ?_|refine Bn ?_|refine Fm rfl ?_)|refine Bt ?_|refine Bu ?_|refine Fl.cp (fun _=>rfl) (fun _=>rfl) hl (by decide) ?_|refine Ap.cp (fun _=>rfl) (fun _=>rfl) hl (by decide) ?_)
 rfl
theorem nE (q:aK) (hs:aK.sml q):af Tryz.prog 135 false [.val (some 2) (aK.enc .imm q)] .agg (aK.enc .own q):=by
 have hl:q.Lst.length≤1048576:=hs.1
 refine fO (n:=10) [(1,6,[3,4,5,6,7,8])] Tryz.func135 (by kernel_rfl) rfl (by kernel_rfl) (by rfl) (.inr (aK.enc_fr _)) ?_
 repeat'((conv=>whnf);first|with_reducible (first|refine Lm ?_|refine Wm (by omega) ?_|refine Bn ?_|refine Fm rfl ?_)|refine Bt ?_|refine Bu ?_|refine Fl.cp (fun _=>rfl) (fun _=>rfl) hl (by decide) ?_|refine Ap.cp (fun _=>rfl) (fun _=>rfl) hl (by decide) ?_)
 rfl
theorem wi (j:bq) (hs:bq.sml j):af Tryz.prog 106 false [.val (some 5) (bq.enc .imm j)] .agg (bq.enc .own j):=by
 have hl:j.Plan.Cells.length≤1048576:=hs
 refine fO (n:=11) [] Tryz.func106 (by kernel_rfl) rfl (by kernel_rfl) (by rfl) (.inr (bq.enc_fr _)) ?_
 repeat'((conv=>whnf);first|with_reducible (first|refine Lm ?_|refine Wm (by omega) ?_|refine Bn ?_|refine Fm rfl ?_)|refine Bt ?_|refine Bu ?_|refine Ap.cp (fun _=>rfl) (fun _=>rfl) hl (by decide) ?_)
 rfl
theorem lO (xs:List al) (hs:dr xs):af Tryz.prog 132 false [.val none (aT .imm xs)] .one (aT .own xs):=by
 have hl:=hs.1
 refine fO (n:=6) [] Tryz.func132 (by kernel_rfl) rfl (by kernel_rfl) (by rfl) (.inr (jQ _)) ?_
 repeat'((conv=>whnf);first|with_reducible (first|refine Lm ?_|refine Wm (by omega) ?_|refine Bn ?_|refine Fm rfl ?_)|refine Bt ?_|refine Bu ?_|refine Ap.cp (fun _=>rfl) (fun _=>rfl) hl (by decide) ?_)
 rfl
def Js (h:ac) (cc:C):List C:=[.s .own (h.Kernel.Machine.Frames.Cells.map (aI .own)),.s .own (h.Kernel.Machine.Frames.Used.map (rB .own)),.s .own (h.Kernel.Machine.Table.Entries.map (aE.enc .own)),I h.Kernel.Calls,.s .own (h.Kernel.Refuse.map (rI .own)),.s .own (h.Free.map (al.enc .own)),.s .own (h.Spans.map (am.enc .own)),.s .own (h.Larges.map (ah.enc .own)),.s .own (h.Objs.map (aM.enc .own)),cc,.s .imm (h.Mail.Buffers.map (br .imm)),.s .imm (h.Mail.Inbox.map (aI .imm)),I h.Quar.Room,.s .imm (h.Quar.Lst.map (ax.enc .imm)),I h.Seed,I h.Clock,I h.Limit,I h.Next,B h.Meshing,I h.Job.Plan.Keep,I h.Job.Plan.Move,.s .imm (h.Job.Plan.Cells.map (rI .imm)),I h.Job.Phase,I h.Job.Next]
def rY:List C:=[.z,.z,.z,I 0,.z,.z,.z,.z,.z,.z,.z,.z,I 0,.z,I 0,I 0,I 0,I 0,B false,I 0,I 0,.z,I 0,I 0]
theorem pf (h:ac) (hs:ac.sml h):af Tryz.prog 28 false [.val (some 24) (ac.enc .imm h)] .agg (ac.enc .own h):=by
 obtain⟨s1,s2,s3,s4,s5,s6,s7,s8,s9⟩:=hs
 have l2:=s2.1
 have l3:=s3.1
 have l4:=s4.1
 have l5:=s5.1
 have l6:=s6.1
 refine fO (n:=61) [] Tryz.func28 (by kernel_rfl) rfl (by kernel_rfl) (by rfl) (.inr (ac.enc_fr _)) ?_
 repeat'((conv=>whnf);first|with_reducible (first|refine Lm ?_|refine Wm (by omega) ?_|refine Bn ?_|refine Fm rfl ?_)|refine Bt ?_|refine Bu ?_|refine Cl.mk (wh h.Kernel s1) ?_|refine Ap.cp (fun _=>rfl) (fun _=>rfl) l2 (by decide) ?_|refine Ap.cp (fun _=>rfl) (fun _=>rfl) l3 (by decide) ?_|refine Ap.cp (fun _=>rfl) (fun _=>rfl) l4 (by decide) ?_|refine Ap.cp (fun _=>rfl) (fun _=>rfl) l5 (by decide) ?_)
 (conv=>whnf)
 refine Lp.mk (ι:=Nat) (fun i=>[(1,.hold .box (Js h (.s .imm (h.Caches.map (ar.enc .imm))))),(2,.hold .box rY),(3,.hold .one ([.s .own ((h.Caches.take i).map (ar.enc .own))])),(4,.hold .one [I ((i:Nat):Int)])]) (fun i=>i≤h.Caches.length) (fun i=>h.Caches.length - i) (0) ?_ (Nat.zero_le _) fun i hi=>?_
 ·repeat'(first|exact trivial|rfl |refine And.intro ?_ ?_|(exact bQ (by first|omega|(simp only;omega)|(simp;omega))))
 by_cases li:i<h.Caches.length
 ·have hx:=au li
  repeat'((conv=>whnf);first|with_reducible (first|refine Lm ?_|refine Wm (by omega) ?_|refine Ix.nat (aa hx) ?_|refine dT (by omega) (fun hq=>?_)|refine Bn ?_|refine Fm rfl ?_)|refine Bt ?_|refine Bu ?_|refine Cl.mk (kW (nth h.Caches i) (s6.2 _ (ay li))) ?_|refine Ap.sn (bl fun _=>rfl) rfl (by simp;omega) (by decide) (eH li) ?_)
  ((conv=>whnf);refine Nx.mk (i+1) (by omega) (by omega) ?_;(repeat'(first|exact trivial|rfl|refine And.intro ?_ ?_|(exact bQ (by first|omega|(simp only;omega)|(simp;omega))))))
 ·obtain rfl:i=h.Caches.length:=by omega
  rw[List.take_length]
  repeat'((conv=>whnf);first|with_reducible (first|refine Lm ?_|refine Wm (by omega) ?_|refine dF (by omega) (fun hq=>?_)|refine Bn ?_|refine Fm rfl ?_)|refine Bt ?_|refine Bu ?_|refine Cl.mk (wJ h.Mail s7) ?_|refine Cl.mk (o9 h.Quar s8) ?_|refine Cl.mk (wi h.Job s9) ?_)
  rfl
theorem uP (h:ac) (hs:ac.sml h):af Tryz.prog 43 false [.val (some 24) (ac.enc .imm h)] .agg (ac.enc .own h):=by
 obtain⟨s1,s2,s3,s4,s5,s6,s7,s8,s9⟩:=hs
 have l3:=s3.1
 have l4:=s4.1
 have l5:=s5.1
 have l6:=s6.1
 refine fO (n:=59) [(11,5,[38,39,40,41,42])] Tryz.func43 (by kernel_rfl) rfl (by kernel_rfl) (by rfl) (.inr (ac.enc_fr _)) ?_
 repeat'((conv=>whnf);first|with_reducible (first|refine Lm ?_|refine Wm (by omega) ?_|refine Bn ?_|refine Fm rfl ?_)|refine Bt ?_|refine Bu ?_|refine Cl.mk (lR h.Kernel s1) ?_|refine Cl.mk (lO h.Free s2) ?_|refine Ap.cp (fun _=>rfl) (fun _=>rfl) l3 (by decide) ?_|refine Ap.cp (fun _=>rfl) (fun _=>rfl) l4 (by decide) ?_|refine Ap.cp (fun _=>rfl) (fun _=>rfl) l5 (by decide) ?_)
 (conv=>whnf)
 refine Lp.mk (ι:=Nat) (fun i=>[(1,.hold .box (ac.enc .imm h)),(2,.hold .box rY),(3,.hold .box (Js h (.s .own ((h.Caches.take i).map (ar.enc .own))))),(32,.hold .one (cP .imm h.Caches)),(33,.hold .one [I (h.Caches.length)]),(34,.hold .one [I ((i:Nat):Int)])]) (fun i=>i≤h.Caches.length) (fun i=>h.Caches.length - i) (0) ?_ (Nat.zero_le _) fun i hi=>?_
 ·repeat'(first|exact trivial|rfl |refine And.intro ?_ ?_|(exact bQ (by first|omega|(simp only;omega)|(simp;omega))))
 by_cases li:i<h.Caches.length
 ·have hx:=au li
  repeat'((conv=>whnf);first|with_reducible (first|refine Lm ?_|refine Wm (by omega) ?_|refine Ix.nat (aa hx) ?_|refine dT (by omega) (fun hq=>?_)|refine Bn ?_|refine Fm rfl ?_)|refine Bt ?_|refine Bu ?_|refine Cl.mk (mH (nth h.Caches i) (s6.2 _ (ay li))) ?_|refine Ap.sn (bl fun _=>rfl) rfl (by simp;omega) (by decide) (eH li) ?_)
  ((conv=>whnf);refine Nx.mk (i+1) (by omega) (by omega) ?_;(repeat'(first|exact trivial|rfl|refine And.intro ?_ ?_|(exact bQ (by first|omega|(simp only;omega)|(simp;omega))))))
 ·obtain rfl:i=h.Caches.length:=by omega
  rw[List.take_length]
  repeat'((conv=>whnf);first|with_reducible (first|refine Lm ?_|refine Wm (by omega) ?_|refine dF (by omega) (fun hq=>?_)|refine Bn ?_|refine Fm rfl ?_)|refine Bt ?_|refine Bu ?_|refine Cl.mk (tW h.Mail s7) ?_|refine Cl.mk (nE h.Quar s8) ?_|refine Cl.mk (wO h.Job s9) ?_)
  rfl
end Go.Proofs.YtogajjgmcnjkbaaGreat.Ab
namespace Go.Proofs.YtogajjgmcnjkbaaGreat.Ab
open Go.RowKit
set_option maxRecDepth 20000
set_option maxHeartbeats 4000000
theorem Ap.sm {rows rs:List (List C)} {r:List C} {sz by_:Nat} {K:List (List C)→Prop} (h1:∀ r∈rows,r.length=sz) (h2:r.length=sz) (hl:rows.length+1≤1073741824) (hb:by_≤1000) (hr:rs=rows++[r]) (hK:K rs):Ap false rows [r] sz by_ K:=
 Ap.mk h1 (fun r' hr=>by rw[List.mem_singleton.1 hr];exact h2) (fun h=>by cases h) (by simp;omega) (Nat.le_trans (Nat.mul_le_mul (show rows.length+[r].length≤1073741824 by simpa using hl) hb) (by decide)) hr hK
theorem Ap.s2 {rows rs:List (List C)} {r1 r2:List C} {sz by_:Nat} {K:List (List C)→Prop} (h1:∀ r∈rows,r.length=sz) (h2:r1.length=sz) (h3:r2.length=sz) (hl:rows.length+2≤1073741824) (hb:by_≤1000) (hr:rs=rows++[r1,r2]) (hK:K rs):Ap false rows [r1,r2] sz by_ K:=
 Ap.mk h1 (fun r' hr=>by simp at hr;rcases hr with rfl|rfl<;>assumption) (fun h=>by cases h) (by simp;omega) (Nat.le_trans (Nat.mul_le_mul (show rows.length+[r1,r2].length≤1073741824 by simpa using hl) hb) (by decide)) hr hK
theorem qm (y:al) (ys:List al) (r:al) (out:List al) (done:Bool):gq (y::ys) r out done=if ovl y r then none
  else if y.At+y.Len=r.At then gq ys ⟨y.At,y.Len+r.Len⟩ out done
  else if r.At+r.Len=y.At then gq ys ⟨r.At,r.Len+y.Len⟩ out done
  else if y.At > r.At∧done=false then gq ys r (out++[r,y]) true
  else gq ys r (out++[y]) done:=by rw[gq]
theorem wd {pages:Int} {xs:List al} (h:b7 pages xs=true):nq xs∧∀ y∈xs,0≤y.At∧1≤y.Len∧y.At+y.Len≤pages:=by
 unfold b7 at h
 simp only[Bool.and_eq_true,decide_eq_true_eq]at h
 have hin:∀ i,i<xs.length→1≤(nth xs i).Len∧0≤(nth xs i).At∧(nth xs i).At≤pages - (nth xs i).Len:=fun i hi=>by
  have:=eK h.1 hi
  unfold eM rangeIn at this
  simp only[Bool.and_eq_true,decide_eq_true_eq]at this
  omega
 have hnx:∀ i,i+1<xs.length→(nth xs i).At+(nth xs i).Len<(nth xs (i+1)).At:=fun i hi=>by
  have:=eK h.1 hi
  unfold eM at this
  simp only[Bool.and_eq_true,decide_eq_true_eq]at this
  have:=this.2.resolve_left (by omega)
  simpa using this
 have hp:∀ j i,i<j→j<xs.length→(nth xs i).At+(nth xs i).Len<(nth xs j).At:=fun j=>by
  induction j with
  | zero=>intro i hi;omega
  | succ j ih=>
   intro i hi hj
   have h1:=hnx j hj
   by_cases e:i=j
   ·subst e;exact h1
   ·have h2:=ih i (by omega) (by omega)
    have h3:=hin j (by omega)
    omega
 refine⟨⟨?_,fun y hy=>?_⟩,fun y hy=>?_⟩
 ·rw[List.pairwise_iff_getElem]
  intro i j hi hj hij
  have:=hp j i hij hj
  rwa [bE (List.getElem?_eq_getElem hi),bE (List.getElem?_eq_getElem hj)]at this
 ·obtain⟨i,hi,rfl⟩:=bH hy
  exact(hin i hi).1
 ·obtain⟨i,hi,rfl⟩:=bH hy
  have:=hin i hi
  omega
theorem k9 {α:Type} [Inhabited α] {xs:List α} {i:Nat} (hi:i<xs.length):xs.drop i=nth xs i::xs.drop (i+1):=by
 rw[List.drop_eq_getElem_cons hi,bE (List.getElem?_eq_getElem hi)]
def bX (pages:Int) (xs:List al) (r:al):Option (List al):=if b7 pages xs=true∧rangeIn pages r=true then gq xs r [] false else none
def wa (xs:List al) (o:Option (List al)):List C:=aT .own (o.getD xs)++[B o.isSome]
theorem iZ (xs:List al) (o:Option (List al)):fK (wa xs o):=bI (jQ _) ⟨trivial,trivial⟩
theorem uv (pages:Int) (xs:List al) (r:al) (hp:0≤pages∧pages≤1048576) (hs:dr xs):af Tryz.prog 270 false [.val none [I pages],.val none (aT .imm xs),.val (some 2) (al.enc .imm r)] (.tup [none,none]) (wa xs (bX pages xs r)):=by
 have hl:=hs.1
 have c1:=n8 pages xs hp hs
 have c2:=rQ pages r hp
 have c3:=lO xs hs
 cases e1:b7 pages xs<;>rw[e1]at c1
 ·rw[show bX pages xs r=none by unfold bX;rw[if_neg (by rw[e1];simp)]]
  refine fO (n:=111) [] Tryz.func270 (by kernel_rfl) rfl (by kernel_rfl) (by rfl) (.inr (iZ _ _)) ?_
  repeat'((conv=>whnf);first|with_reducible (first|refine Lm ?_|refine Wm (by omega) ?_|refine Bn ?_|refine Fm rfl ?_)|refine Bt ?_|refine Bu ?_|refine Cl.mk (c1) ?_|refine Cl.mk (c3) ?_)
  rfl
 cases e2:rangeIn pages r<;>rw[e2]at c2
 ·rw[show bX pages xs r=none by unfold bX;rw[if_neg (by rw[e2];simp)]]
  refine fO (n:=111) [] Tryz.func270 (by kernel_rfl) rfl (by kernel_rfl) (by rfl) (.inr (iZ _ _)) ?_
  repeat'((conv=>whnf);first|with_reducible (first|refine Lm ?_|refine Wm (by omega) ?_|refine Bn ?_|refine Fm rfl ?_)|refine Bt ?_|refine Bu ?_|refine Cl.mk (c1) ?_|refine Cl.mk (c2) ?_|refine Cl.mk (c3) ?_)
  rfl
 rw[show bX pages xs r=gq xs r [] false by unfold bX;rw[if_pos ⟨e1,e2⟩]]
 obtain⟨hg,hb⟩:=wd e1
 have hr:0≤r.At∧1≤r.Len∧r.At+r.Len≤pages:=by
  unfold rangeIn at e2
  rw[decide_eq_true_eq]at e2
  omega
 refine fO (n:=111) [] Tryz.func270 (by kernel_rfl) rfl (by kernel_rfl) (by rfl) (.inr (iZ _ _)) ?_
 repeat'((conv=>whnf);first|with_reducible (first|refine Lm ?_|refine Wm (by omega) ?_|refine Bn ?_|refine Fm rfl ?_)|refine Bt ?_|refine Bu ?_|refine Cl.mk (c1) ?_|refine Cl.mk (c2) ?_)
 (conv=>whnf)
 refine Lp.mk (ι:=Nat × al × List al × Bool) (fun q=>[(1,.hold .one (aT .imm xs)),(5,.hold .box (al.enc .imm q.2.1)),(8,.hold .one (aT .own q.2.2.1)),(9,.hold .one [B (q.2.2.2)]),(25,.hold .one (aT .imm xs)),(26,.hold .one [I (xs.length)]),(27,.hold .one [I ((q.1:Nat):Int)])]) (fun q=>q.1≤xs.length∧gq (xs.drop q.1) q.2.1 q.2.2.1 q.2.2.2=gq xs r [] false∧(0≤q.2.1.At∧1≤q.2.1.Len∧q.2.1.At+q.2.1.Len≤pages)∧q.2.2.1.length≤2*q.1) (fun q=>xs.length - q.1) ((0,r,[],false)) ?_ (⟨Nat.zero_le _,rfl,hr,Nat.zero_le _⟩) fun q hq=>?_
 ·repeat'(first|exact trivial|rfl |refine And.intro ?_ ?_|(exact bQ (by first|omega|(simp only;omega)|(simp;omega))))
 obtain⟨i,r1,out,done⟩:=q
 obtain⟨hi,hput,hr1,hol⟩:=hq
 simp only at hi hput hr1 hol ⊢
 by_cases li:i<xs.length
 ·have hx:=au li
  have hy:=hb _ (ay li)
  rw[k9 li]at hput
  by_cases ho:ovl (nth xs i) r1=true
  ·rw[←hput]
   rw[qm,if_pos ho]
   unfold ovl at ho
   rw[decide_eq_true_eq]at ho
   repeat'((conv=>whnf);first|with_reducible (first|refine Lm ?_|refine Wm (by omega) ?_|refine Ix.nat (aa hx) ?_|refine dT (by omega) (fun hq=>?_)|refine dF (by omega) (fun hq=>?_)|refine Bf.D (fun hq=>?_) (fun hq=>?_)|refine Bn ?_|refine Fm rfl ?_)|refine Bt ?_|refine Bu ?_|refine Cl.mk (c3) ?_)
   rfl
  ·have hput2:=hput
   rw[qm,if_neg ho]at hput2
   unfold ovl at ho
   rw[decide_eq_true_eq]at ho
   by_cases e3:(nth xs i).At+(nth xs i).Len=r1.At
   ·rw[if_pos e3]at hput2
    repeat'((conv=>whnf);first|with_reducible (first|refine Lm ?_|refine Wm (by omega) ?_|refine Ix.nat (aa hx) ?_|refine dT (by omega) (fun hq=>?_)|refine dF (by omega) (fun hq=>?_)|refine Bf.D (fun hq=>?_) (fun hq=>?_)|refine eT (by omega) (fun hq=>?_)|refine Bn ?_|refine Fm rfl ?_)|refine Bt ?_|refine Bu ?_)
    ((conv=>whnf);refine Nx.mk (i+1,⟨(nth xs i).At,(nth xs i).Len+r1.Len⟩,out,done) ⟨(by simp only;omega),hput2,(by simp only;omega),(by simp only;omega)⟩ (by simp only;omega) ?_;(repeat'(first|exact trivial|rfl|refine And.intro ?_ ?_|(exact bQ (by first|omega|(simp only;omega)|(simp;omega))))))
   ·rw[if_neg e3]at hput2
    by_cases e4:r1.At+r1.Len=(nth xs i).At
    ·rw[if_pos e4]at hput2
     repeat'((conv=>whnf);first|with_reducible (first|refine Lm ?_|refine Wm (by omega) ?_|refine Ix.nat (aa hx) ?_|refine dT (by omega) (fun hq=>?_)|refine dF (by omega) (fun hq=>?_)|refine Bf.D (fun hq=>?_) (fun hq=>?_)|refine eT (by omega) (fun hq=>?_)|refine eF (by omega) (fun hq=>?_)|refine Bf.E (fun hq=>?_) (fun hq=>?_)|refine Bn ?_|refine Fm rfl ?_)|refine Bt ?_|refine Bu ?_)
     ((conv=>whnf);refine Nx.mk (i+1,⟨r1.At,r1.Len+(nth xs i).Len⟩,out,done) ⟨(by simp only;omega),hput2,(by simp only;omega),(by simp only;omega)⟩ (by simp only;omega) ?_;(repeat'(first|exact trivial|rfl|refine And.intro ?_ ?_|(exact bQ (by first|omega|(simp only;omega)|(simp;omega))))))
    ·rw[if_neg e4]at hput2
     by_cases e5:(nth xs i).At > r1.At
     ·cases done with
      | false=>
       rw[if_pos ⟨e5,rfl⟩]at hput2
       repeat'((conv=>whnf);first|with_reducible (first|refine Lm ?_|refine Wm (by omega) ?_|refine Ix.nat (aa hx) ?_|refine dT (by omega) (fun hq=>?_)|refine dF (by omega) (fun hq=>?_)|refine Bf.D (fun hq=>?_) (fun hq=>?_)|refine eT (by omega) (fun hq=>?_)|refine eF (by omega) (fun hq=>?_)|refine Bf.E (fun hq=>?_) (fun hq=>?_)|refine Bn ?_|refine Fm rfl ?_)|refine Bt ?_|refine Bu ?_|refine Ap.s2 (bl fun _=>rfl) rfl rfl (by simp;omega) (by decide) rfl ?_)
       ((conv=>whnf)
        refine Nx.mk (i+1,r1,out++[r1,nth xs i],true) ⟨(by simp only;omega),hput2,hr1,(by simp;omega)⟩ (by simp only;omega) ?_
        (repeat'(first|exact trivial|rfl|exact And.intro rfl (And.intro (congrArg (C.s dy.own) (by simp[al.enc])) trivial)|refine And.intro ?_ ?_)))
      | true=>
       rw[if_neg (by simp)]at hput2
       repeat'((conv=>whnf);first|with_reducible (first|refine Lm ?_|refine Wm (by omega) ?_|refine Ix.nat (aa hx) ?_|refine dT (by omega) (fun hq=>?_)|refine dF (by omega) (fun hq=>?_)|refine Bf.D (fun hq=>?_) (fun hq=>?_)|refine eT (by omega) (fun hq=>?_)|refine eF (by omega) (fun hq=>?_)|refine Bf.E (fun hq=>?_) (fun hq=>?_)|refine Bn ?_|refine Fm rfl ?_)|refine Bt ?_|refine Bu ?_|refine Ap.sm (bl fun _=>rfl) rfl (by simp;omega) (by decide) rfl ?_)
       ((conv=>whnf)
        refine Nx.mk (i+1,r1,out++[nth xs i],true) ⟨(by simp only;omega),hput2,hr1,(by simp;omega)⟩ (by simp only;omega) ?_
        (repeat'(first|exact trivial|rfl|exact And.intro rfl (And.intro (congrArg (C.s dy.own) (by simp[al.enc])) trivial)|refine And.intro ?_ ?_)))
     ·rw[if_neg (by omega)]at hput2
      repeat'((conv=>whnf);first|with_reducible (first|refine Lm ?_|refine Wm (by omega) ?_|refine Ix.nat (aa hx) ?_|refine dT (by omega) (fun hq=>?_)|refine dF (by omega) (fun hq=>?_)|refine Bf.D (fun hq=>?_) (fun hq=>?_)|refine eT (by omega) (fun hq=>?_)|refine eF (by omega) (fun hq=>?_)|refine Bf.E (fun hq=>?_) (fun hq=>?_)|refine Bn ?_|refine Fm rfl ?_)|refine Bt ?_|refine Bu ?_|refine Ap.sm (bl fun _=>rfl) rfl (by simp;omega) (by decide) rfl ?_)
      ((conv=>whnf)
       refine Nx.mk (i+1,r1,out++[nth xs i],done) ⟨(by simp only;omega),hput2,hr1,(by simp;omega)⟩ (by simp only;omega) ?_
       (repeat'(first|exact trivial|rfl|exact And.intro rfl (And.intro (congrArg (C.s dy.own) (by simp[al.enc])) trivial)|refine And.intro ?_ ?_)))
 ·obtain rfl:i=xs.length:=by omega
  rw[List.drop_length]at hput
  cases done with
  | false=>
   rw[←hput]
   repeat'((conv=>whnf);first|with_reducible (first|refine Lm ?_|refine Wm (by omega) ?_|refine dF (by omega) (fun hq=>?_)|refine Bn ?_|refine Fm rfl ?_)|refine Bt ?_|refine Bu ?_|refine Ap.sm (bl fun _=>rfl) rfl (by simp;omega) (by decide) rfl ?_)
   show [C.s dy.own _,B true]=[C.s dy.own _,B true]
   simp[gq,al.enc]
  | true=>
   rw[←hput]
   repeat'((conv=>whnf);first|with_reducible (first|refine Lm ?_|refine Wm (by omega) ?_|refine dF (by omega) (fun hq=>?_)|refine Bn ?_|refine Fm rfl ?_)|refine Bt ?_|refine Bu ?_)
   rfl
end Go.Proofs.YtogajjgmcnjkbaaGreat.Ab
namespace Go.Proofs.YtogajjgmcnjkbaaGreat.Ab
theorem rv {α:Type} [Inhabited α] (R:Int→Int→Prop) (tr:∀ a b c,R a b→R b c→R a c) (f:α→Int) (xs:List α):(∀ i,i<xs.length→i=0∨R (f (nth xs (i - 1))) (f (nth xs i)))↔xs.Pairwise (fun a b=>R (f a) (f b)):=by
 constructor
 ·intro h
  have hp:∀ j i,i<j→j<xs.length→R (f (nth xs i)) (f (nth xs j)):=fun j=>by
   induction j with
   | zero=>intro i hi;omega
   | succ j ih=>
    intro i hi hj
    have h1:=(h (j+1) hj).resolve_left (by omega)
    rw[show j+1 - 1=j from rfl]at h1
    by_cases e:i=j
    ·subst e;exact h1
    ·exact tr _ _ _ (ih i (by omega) (by omega)) h1
  rw[List.pairwise_iff_getElem]
  intro i j hi hj hij
  have:=hp j i hij hj
  rwa [bE (List.getElem?_eq_getElem hi),bE (List.getElem?_eq_getElem hj)]at this
 ·intro h i hi
  by_cases e:i=0
  ·exact .inl e
  ·right
   have:=List.pairwise_iff_getElem.1 h (i - 1) i (by omega) hi (by omega)
   rwa [←bE (List.getElem?_eq_getElem (show i - 1<xs.length by omega)),←bE (List.getElem?_eq_getElem hi)]at this
theorem vm {α:Type} [Inhabited α] (f:α→Int) (xs:List α):(∀ i,i<xs.length→∀ o∈xs.take i,f o≠f (nth xs i))↔(xs.map f).Nodup:=by
 unfold List.Nodup
 rw[List.pairwise_map,List.pairwise_iff_getElem]
 constructor
 ·intro h i j hi hj hij
  have:=h j hj xs[i] (List.mem_take_iff_getElem.2 ⟨i,by omega,rfl⟩)
  rwa [bE (List.getElem?_eq_getElem hj)]at this
 ·intro h i hi o ho
  obtain⟨j,hj,rfl⟩:=List.mem_take_iff_getElem.1 ho
  rw[bE (List.getElem?_eq_getElem hi)]
  exact h j i (by omega) hi (by omega)
def gg (s:am) (a:Int):Prop:=16*s.Page≤a∧a≤16*s.Page+15∧(a - 16*s.Page) % csz s.Class=0∧cy s.Bits ((a - 16*s.Page) / csz s.Class)=true
def pC (sp:List am) (a c:Int):Prop:=∃ s∈sp,gg s a∧(c<0∨s.Class=c)
def JC (la:List ah) (a z:Int):Prop:=∃ l∈la,a=16*l.Page∧l.Size=z
def GA (sp:List am) (la:List ah) (o:aM):Prop:=(∃ s∈sp,gg s o.Addr∧s.Class=bk o.Size)∨JC la o.Addr o.Size
def Live (sp:List am) (la:List ah) (a:Int):Prop:=pC sp a (-1)∨∃ l∈la,a=16*l.Page
theorem kA {sp:List am} {la:List ah} (hL:rr sp la) (a:Int):(∃ i,i<sp.length∧(16*(nth sp i).Page≤a∧a≤16*(nth sp i).Page+15)∧denotes sp la a=mh i (nth sp i) a)∨((∀ s∈sp,¬(16*s.Page≤a∧a≤16*s.Page+15))∧((∃ i,i<la.length∧bi (nth la i) a=true∧denotes sp la a = ⟨3,i,0,a - 16*(nth la i).Page⟩)∨((∀ l∈la,bi l a=false)∧denotes sp la a = ⟨0,0,0,0⟩))):=by
 cases h1:sp.findIdx? (cg · a) with
 | some i=>
  obtain⟨hi,hp,-⟩:=List.findIdx?_eq_some_iff_getElem.1 h1
  rw[←bE (List.getElem?_eq_getElem hi)]at hp
  exact .inl ⟨i,hi,(ff (hL.sok _ (ay hi))).1 hp,by unfold denotes;rw[h1]⟩
 | none=>
  have h2:=List.findIdx?_eq_none_iff.1 h1
  refine .inr ⟨fun s hs hr=>?_,?_⟩
  ·have:=h2 s hs
   rw[(ff (hL.sok _ hs)).2 hr]at this;cases this
  cases h3:la.findIdx? (bi · a) with
  | some i=>
   obtain⟨hi,hp,-⟩:=List.findIdx?_eq_some_iff_getElem.1 h3
   rw[←bE (List.getElem?_eq_getElem hi)]at hp
   exact .inl ⟨i,hi,hp,by unfold denotes;rw[h1,h3]⟩
  | none=>exact .inr ⟨List.findIdx?_eq_none_iff.1 h3,by unfold denotes;rw[h1,h3]⟩
theorem Gs {h:ac} (hL:rr h.Spans h.Larges) {a c:Int} : cM h a c=true↔pC h.Spans a c:=by
 unfold cM
 simp only[Bool.and_eq_true,Bool.or_eq_true,decide_eq_true_eq]
 constructor
 ·rintro⟨⟨hk,ho⟩,hc⟩
  rcases kA hL a with⟨i,hi,hr,hd⟩|⟨-,⟨i,hi,-,hd⟩|⟨-,hd⟩⟩
  ·rw[hd]at hk ho hc
   simp only[mh]at hk ho hc
   refine⟨_,ay hi,⟨hr.1,hr.2,ho,?_⟩,by simpa using hc⟩
   cases e:cy (nth h.Spans i).Bits ((a - 16*(nth h.Spans i).Page) / csz (nth h.Spans i).Class) with
   | true=>rfl
   | false=>rw[e]at hk;simp at hk
  ·rw[hd]at hk;simp at hk
  ·rw[hd]at hk;simp at hk
 ·rintro⟨s,hs,⟨h1,h2,h3,h4⟩,hc⟩
  obtain⟨i,hi,rfl⟩:=bH hs
  rw[fA hL hi ⟨h1,h2⟩]
  simp only[mh,h3,h4,if_true,true_and]
  simpa using hc
theorem xA {sp:List am} {la:List ah} (hL:rr sp la) {l:ah} (hl:l∈la):(∀ s∈sp,¬(16*s.Page≤16*l.Page∧16*l.Page≤16*s.Page+15))∧bi l (16*l.Page)=true∧∀ i,i<la.length→bi (nth la i) (16*l.Page)=true→nth la i=l:=by
 have hf:=bn (hL.lok _ hl)
 have hf2:=dS (hL.lok _ hl)
 refine⟨fun s hs hr=>?_,?_,fun i hi hh=>?_⟩
 ·exact hL.dis s hs l hl 0 (by omega) (by omega)
 ·unfold bi;rw[hL.lok _ hl,decide_eq_true (by omega)];rfl
 ·obtain⟨j,hj,rfl⟩:=bH hl
  have hg:=bn (hL.lok _ (ay hi))
  have hlo:=hL.lok _ (ay hi)
  unfold cS at hlo
  rw[decide_eq_true_eq]at hlo
  unfold bi at hh
  rw[Bool.and_eq_true,decide_eq_true_eq]at hh
  rw[hL.one i j hi hj ((nth la j).Page - (nth la i).Page).toNat 0 (by omega) (by omega) (by omega)]
theorem Ge {h:ac} (hL:rr h.Spans h.Larges) {o:aM} : iK h o=true↔GA h.Spans h.Larges o:=by
 unfold iK
 simp only[Bool.and_eq_true,Bool.or_eq_true,decide_eq_true_eq]
 constructor
 ·rintro⟨ho,hk⟩
  rcases kA hL o.Addr with⟨i,hi,hr,hd⟩|⟨-,⟨i,hi,-,hd⟩|⟨-,hd⟩⟩
  ·rw[hd]at hk ho
   simp only[mh]at hk ho
   have hs:cy (nth h.Spans i).Bits ((o.Addr - 16*(nth h.Spans i).Page) / csz (nth h.Spans i).Class)=true:=by
    cases e:cy (nth h.Spans i).Bits ((o.Addr - 16*(nth h.Spans i).Page) / csz (nth h.Spans i).Class) with
    | true=>rfl
    | false=>rw[e]at hk;simp at hk
   rw[hs]at hk
   exact .inl ⟨_,ay hi,⟨hr.1,hr.2,ho,hs⟩,by simpa using hk⟩
  ·rw[hd]at hk ho
   simp only at hk ho
   exact .inr ⟨_,ay hi,by omega,by simpa using hk⟩
  ·rw[hd]at hk;simp at hk
 ·rintro(⟨s,hs,⟨h1,h2,h3,h4⟩,hc⟩|⟨l,hl,ha,hz⟩)
  ·obtain⟨i,hi,rfl⟩:=bH hs
   rw[fA hL hi ⟨h1,h2⟩]
   simp only[mh,h3,h4,if_true,true_and]
   simp[hc]
  ·obtain⟨g1,g2,g3⟩:=xA hL hl
   rw[ha]
   rcases kA hL (16*l.Page) with⟨i,hi,hr,hd⟩|⟨-,⟨i,hi,hh,hd⟩|⟨hn,hd⟩⟩
   ·exact absurd hr (g1 _ (ay hi))
   ·rw[hd]
    have:=g3 i hi hh
    simp only[this,Int.toNat_natCast]
    exact⟨by omega,.inr ⟨trivial,hz⟩⟩
   ·rw[hn l hl]at g2;cases g2
theorem yW {sp:List am} {la:List ah} (hL:rr sp la) (a:Int):a∈gu sp la↔Live sp la a:=by
 constructor
 ·intro h
  unfold gu jM at h
  obtain⟨n,hn,rfl⟩:=List.mem_map.1 h
  have h2:=(List.mem_filter.1 hn).2
  unfold iE at h2
  simp only[Bool.and_eq_true,Bool.or_eq_true,decide_eq_true_eq]at h2
  obtain⟨ho,hk⟩:=h2
  rcases kA hL (n:Int) with⟨i,hi,hr,hd⟩|⟨-,⟨i,hi,-,hd⟩|⟨-,hd⟩⟩
  ·rw[hd]at hk ho
   simp only[mh]at hk ho
   refine .inl ⟨_,ay hi,⟨hr.1,hr.2,ho,?_⟩,.inl (by omega)⟩
   cases e:cy (nth sp i).Bits (((n:Int) - 16*(nth sp i).Page) / csz (nth sp i).Class) with
   | true=>rfl
   | false=>rw[e]at hk;simp at hk
  ·rw[hd]at ho
   simp only at ho
   exact .inr ⟨_,ay hi,by omega⟩
  ·rw[hd]at hk;simp at hk
 ·rintro(⟨s,hs,⟨h1,h2,h3,h4⟩,-⟩|⟨l,hl,rfl⟩)
  ·obtain⟨i,hi,rfl⟩:=bH hs
   have hd:=fA hL hi ⟨h1,h2⟩
   exact rD hL (by rw[hd];exact h3) (.inl (by rw[hd];simp only[mh,h4,if_true]))
  ·obtain⟨g1,g2,g3⟩:=xA hL hl
   rcases kA hL (16*l.Page) with⟨i,hi,hr,hd⟩|⟨-,⟨i,hi,hh,hd⟩|⟨hn,hd⟩⟩
   ·exact absurd hr (g1 _ (ay hi))
   ·have:=g3 i hi hh
    exact rD hL (by rw[hd];simp only[this];omega) (.inr (by rw[hd]))
   ·rw[hn l hl]at g2;cases g2
def RH (xs:List al) (p:Int):Prop:=∃ r∈xs,r.At≤p∧p<r.At+r.Len
theorem lx {pages:Int} {xs:List al} : b7 pages xs=true↔nq xs∧(∀ y∈xs,0≤y.At∧1≤y.Len∧y.At+y.Len≤pages)∧1≤pages∧pages≤32:=by
 constructor
 ·intro h
  obtain⟨h1,h2⟩:=wd h
  unfold b7 at h
  simp only[Bool.and_eq_true,decide_eq_true_eq]at h
  exact⟨h1,h2,h.2⟩
 ·rintro⟨h1,h2,h3⟩
  unfold b7
  simp only[Bool.and_eq_true,decide_eq_true_eq]
  refine⟨co.2 fun i hi=>?_,h3⟩
  have h4:=h2 _ (ay hi)
  unfold eM rangeIn
  simp only[Bool.and_eq_true,decide_eq_true_eq]
  refine⟨by omega,?_⟩
  by_cases e:i=0
  ·exact .inl e
  ·right
   have:=List.pairwise_iff_getElem.1 h1.1 (i - 1) i (by omega) hi (by omega)
   rwa [←bE (List.getElem?_eq_getElem (show i - 1<xs.length by omega)),←bE (List.getElem?_eq_getElem hi)]at this
theorem zz {pages:Int} {xs:List al} (h:b7 pages xs=true) (p:Int):xs.any (ov p)=true↔RH xs p:=by
 obtain⟨-,h2,h3⟩:=lx.1 h
 rw[List.any_eq_true]
 refine⟨fun⟨r,hr,hh⟩=>⟨r,hr,?_⟩,fun⟨r,hr,hh⟩=>⟨r,hr,?_⟩⟩
 ·have:=h2 r hr
  unfold ov at hh
  rw[fV (by omega) (by omega)]at hh
  simpa using hh
 ·have:=h2 r hr
  unfold ov
  rw[fV (by omega) (by omega)]
  simpa using hh
theorem rA (hi:Int):∀ (ys:List al) (r:al) (out:List al),nq ys→1≤r.Len→(∀ y∈ys,ovl y r=false)→(∀ z∈out,z.At+z.Len<r.At∧∀ y∈ys,z.At+z.Len<y.At)→nq out→(∀ y∈r::(out++ys),0≤y.At∧y.At+y.Len≤hi)→∃ o,gq ys r out false=some o∧nq o∧(∀ y∈o,0≤y.At∧y.At+y.Len≤hi)∧∀ p,RH o p↔RH out p∨RH ys p∨(r.At≤p∧p<r.At+r.Len)
 | [],r,out,_,h1,_,ho,hg,hb=>by
  refine⟨out++[r],by simp[gq],⟨List.pairwise_append.2 ⟨hg.1,List.pairwise_singleton ..,fun a ha b hb=>by rw[List.mem_singleton.1 hb];exact(ho a ha).1⟩,fun y hy=>?_⟩,fun y hy=>hb y (by simp at hy ⊢;grind),fun p=>by unfold RH;simp[or_and_right,exists_or]⟩
  rcases List.mem_append.1 hy with hy|hy
  ·exact hg.2 y hy
  ·rw[List.mem_singleton.1 hy];exact h1
 | y::ys,r,out,hgy,h1,hv,ho,hg,hb=>by
  have h3:=hgy.2 y (List.mem_cons_self ..)
  have hv0:=hv y (List.mem_cons_self ..)
  have hhd:=hgy.head
  have hby:=hb y (by simp)
  have hbr:=hb r (by simp)
  have hvw:∀ w∈ys,¬(w.At<r.At+r.Len∧r.At<w.At+w.Len):=fun w hw=>by
   have:=hv w (List.mem_cons_of_mem _ hw);unfold ovl at this;simpa using this
  have h3w:∀ w∈ys,1≤w.Len:=fun w hw=>hgy.2 w (List.mem_cons_of_mem _ hw)
  rw[qm,if_neg (by rw[hv0];simp)]
  unfold ovl at hv0
  rw[decide_eq_false_iff_not]at hv0
  by_cases e1:y.At+y.Len=r.At
  ·rw[if_pos e1]
   obtain⟨o,o1,o2,o3,o4⟩:=rA hi ys ⟨y.At,y.Len+r.Len⟩ out hgy.tail (by simp only;omega) (fun w hw=>by
     have a:=hhd w hw
     have b:=hvw w hw
     have c:=h3w w hw
     unfold ovl;rw[decide_eq_false_iff_not];simp only;omega) (fun z hz=>⟨(ho z hz).2 y (List.mem_cons_self ..),fun w hw=>(ho z hz).2 w (List.mem_cons_of_mem _ hw)⟩) hg (fun w hw=>by
     rcases List.mem_cons.1 hw with rfl|hw
     · simp only;omega
     · exact hb w (by simp at hw ⊢;grind))
   refine⟨o,o1,o2,o3,fun p=>?_⟩
   rw[o4]
   unfold RH
   simp only[List.mem_cons,exists_eq_or_imp]
   grind
  rw[if_neg e1]
  by_cases e2:r.At+r.Len=y.At
  ·rw[if_pos e2]
   obtain⟨o,o1,o2,o3,o4⟩:=rA hi ys ⟨r.At,r.Len+y.Len⟩ out hgy.tail (by simp only;omega) (fun w hw=>by
     have a:=hhd w hw
     have b:=hvw w hw
     have c:=h3w w hw
     unfold ovl;rw[decide_eq_false_iff_not];simp only;omega) (fun z hz=>⟨(ho z hz).1,fun w hw=>(ho z hz).2 w (List.mem_cons_of_mem _ hw)⟩) hg (fun w hw=>by
     rcases List.mem_cons.1 hw with rfl|hw
     · simp only;omega
     · exact hb w (by simp at hw ⊢;grind))
   refine⟨o,o1,o2,o3,fun p=>?_⟩
   rw[o4]
   unfold RH
   simp only[List.mem_cons,exists_eq_or_imp]
   grind
  rw[if_neg e2]
  by_cases e3:y.At > r.At
  ·have hlt:r.At+r.Len<y.At:=by omega
   rw[if_pos ⟨e3,rfl⟩,mX hgy.tail h1 fun w hw=>by have:=hhd w hw;omega]
   refine⟨_,rfl,⟨?_,fun w hw=>?_⟩,fun w hw=>hb w (by simp at hw ⊢;grind),fun p=>by unfold RH;simp[or_and_right,exists_or];grind⟩
   ·rw[List.append_assoc]
    refine List.pairwise_append.2 ⟨hg.1,?_,fun a ha b hb=>?_⟩
    ·show(r::y::ys).Pairwise _
     refine List.pairwise_cons.2 ⟨fun w hw=>?_,hgy.1⟩
     rcases List.mem_cons.1 hw with rfl|hw
     ·exact hlt
     ·have:=hhd w hw;omega
    ·obtain⟨a1,a2⟩:=ho a ha
     have hb:b∈r::y::ys:=hb
     rcases List.mem_cons.1 hb with rfl|hb
     ·exact a1
     ·exact a2 b hb
   ·simp only[List.mem_append,List.mem_cons,List.not_mem_nil,or_false]at hw
    rcases hw with(hw|rfl|rfl)|hw
    ·exact hg.2 w hw
    ·exact h1
    ·exact h3
    ·exact h3w w hw
  rw[if_neg fun e=>e3 e.1]
  obtain⟨o,o1,o2,o3,o4⟩:=rA hi ys r (out++[y]) hgy.tail h1 (fun w hw=>hv w (List.mem_cons_of_mem _ hw)) (fun z hz=>by
    rcases List.mem_append.1 hz with hz|hz
    · exact⟨(ho z hz).1,fun w hw=>(ho z hz).2 w (List.mem_cons_of_mem _ hw)⟩
    · rw[List.mem_singleton.1 hz];exact⟨by omega,hhd⟩) ⟨List.pairwise_append.2 ⟨hg.1,List.pairwise_singleton ..,fun a ha b hb=>by rw[List.mem_singleton.1 hb];exact(ho a ha).2 y (List.mem_cons_self ..)⟩,fun w hw=>by
      rcases List.mem_append.1 hw with hw|hw
      · exact hg.2 w hw
      · rw[List.mem_singleton.1 hw];exact h3⟩ (fun w hw=>hb w (by simp at hw ⊢;grind))
  refine⟨o,o1,o2,o3,fun p=>?_⟩
  rw[o4]
  unfold RH
  simp[or_and_right,exists_or]
  grind
theorem yc {pages:Int} {xs:List al} {r:al} (h:b7 pages xs=true) (hr:0≤r.At∧1≤r.Len∧r.At+r.Len≤pages) (hd:∀ p,r.At≤p→p<r.At+r.Len→¬RH xs p):∃ o,bX pages xs r=some o∧b7 pages o=true∧∀ p,RH o p↔RH xs p∨(r.At≤p∧p<r.At+r.Len):=by
 obtain⟨h1,h2,h3⟩:=lx.1 h
 have hin:rangeIn pages r=true:=by unfold rangeIn;rw[decide_eq_true_eq];omega
 unfold bX
 rw[if_pos ⟨h,hin⟩]
 obtain⟨o,o1,o2,o3,o4⟩:=rA pages xs r [] h1 hr.2.1 (fun y hy=>by
   have:=h2 y hy
   unfold ovl
   rw[decide_eq_false_iff_not]
   intro hc
   by_cases e:r.At≤y.At
   · exact hd y.At e hc.1 ⟨y,hy,by omega,by omega⟩
   · exact hd r.At (by omega) (by omega) ⟨y,hy,by omega,hc.2⟩) (fun z hz=>by cases hz) ⟨List.Pairwise.nil,fun y hy=>by cases hy⟩ (fun y hy=>by
   rcases List.mem_cons.1 hy with rfl|hy
   · omega
   · have:=h2 y (by simpa using hy);omega)
 refine⟨o,o1,lx.2 ⟨o2,fun y hy=>⟨(o3 y hy).1,o2.2 y hy,(o3 y hy).2⟩,h3⟩,fun p=>?_⟩
 rw[o4]
 unfold RH
 simp
end Go.Proofs.YtogajjgmcnjkbaaGreat.Ab
namespace Go.Proofs.YtogajjgmcnjkbaaGreat.Ab
structure Pg (t:aB) (fr:List al) (sp:List am) (la:List ah):Prop where
 one:∀ l∈la,∀ p:Nat,(p:Int)∈lpgs l l.Pages.toNat→∀ q:Nat,q<t.Entries.length→(nth t.Entries q).Mode≠0→(nth t.Entries q).Frame=(nth t.Entries p).Frame→q=p
 bnd:∀ p∈pgs sp la,p<t.Entries.length
 own:∀ p:Nat,p<t.Entries.length→((nth t.Entries p).Mode≠0↔(p:Int)∈pgs sp la)
 fre:∀ p:Nat,p<t.Entries.length→((nth t.Entries p).Mode≠0↔¬RH fr p)
 mesh:∀ s∈sp,∀ u∈sp,s.Page≠u.Page→(nth t.Entries s.Page.toNat).Frame=(nth t.Entries u.Page.toNat).Frame→meshable s u=true
structure ef (h:ac) (E:List Int):Prop where
 ker:bf h.Kernel=true
 rng:b7 (eP h) h.Free=true
 lay:bj h.Spans h.Larges=true
 srs:h.Spans.Pairwise fun a b=>a.Page<b.Page
 srl:h.Larges.Pairwise fun a b=>a.Page<b.Page
 pg:Pg (tbl h) h.Free h.Spans h.Larges
 mail:dC h.Mail=true
 nc:h.Caches.length=h.Mail.Buffers.length
 quar:eZ h.Quar=true
 snc:∀ x∈h.Quar.Lst,x.Since≤h.Clock
 cach:∀ c∈h.Caches,bw c=true
 nums:eV h=true
 osr:h.Objs.Pairwise fun a b=>a.Addr<b.Addr
 onu:∀ o∈h.Objs,1≤o.Id∧o.Id≤h.Next - 1∧0≤o.Thread∧o.Thread≤h.Caches.length - 1
 oid:(h.Objs.map (·.Id)).Nodup
 oow:∀ o∈h.Objs,GA h.Spans h.Larges o
 hca:∀ c∈h.Caches,∀ k:Nat,k<c.Lists.length→∀ a∈nth c.Lists k,pC h.Spans a k
 hqu:∀ x∈h.Quar.Lst,pC h.Spans x.Addr x.Class
 hfl:∀ a∈aX h.Mail,pC h.Spans a (-1)
 hin:∀ a∈E,pC h.Spans a (-1)
 nd:(E++holders h).Nodup
 mem:∀ a,a∈E++holders h↔Live h.Spans h.Larges a
 job:h.Meshing=true→qL h.Job=true∧(∃ s∈h.Spans,s.Page=h.Job.Plan.Keep)∧∃ s∈h.Spans,s.Page=h.Job.Plan.Move
 noj:h.Meshing=false→yu h.Job=true
theorem ef.L {h:ac} {E:List Int} (hi:ef h E):rr h.Spans h.Larges:=rr.of hi.lay
theorem tZ (t:aB) (f:Int):(cj t f).Nodup:=by
 unfold cj jq List.Nodup
 rw[List.pairwise_map]
 exact(List.nodup_range.sublist List.filter_sublist).imp fun h e=>h (by omega)
theorem GE {l:List Int} {a:Int} (hn:l.Nodup) (ha:a∈l) (hh:∀ x∈l,x=a):l.length=1:=by
 match l with
 | []=>cases ha
 | [_]=>rfl
 | x::y::r=>
  exfalso
  have h1:=hh x (by simp)
  have h2:=hh y (by simp)
  rw[h1,h2]at hn
  simp at hn
theorem le {sp:List am} {la:List ah} {s:am} (hs:s∈sp):s.Page∈pgs sp la:=by
 unfold pgs;exact List.mem_append.2 (.inl (List.mem_map.2 ⟨s,hs,rfl⟩))
theorem kJ {sp:List am} {la:List ah} {l:ah} (hl:l∈la) {p:Int} (hp:p∈lpgs l l.Pages.toNat):p∈pgs sp la:=by
 unfold pgs;exact List.mem_append.2 (.inr (List.mem_flatMap.2 ⟨l,hl,hp⟩))
theorem HV {h:ac} (hlay:bj h.Spans h.Larges=true) (hr:b7 (eP h) h.Free=true) (hp:pages0 h=true) (hm:lU h=true):Pg (tbl h) h.Free h.Spans h.Larges:=by
 have hL:=rr.of hlay
 obtain⟨f1,f2,f3⟩:=pe hp
 have f4:∀ p:Nat,p<eP h→((nth (tbl h).Entries p).Mode≠0↔¬RH h.Free p):=fun p hpn=>by
  have hp':=hp
  unfold pages0 at hp'
  simp only[Bool.and_eq_true]at hp'
  have h4:=eK hp'.2 hpn
  unfold rg at h4
  rw[Bool.and_eq_true]at h4
  have h5:=h4.2
  rw[←zz hr]
  cases e:h.Free.any (ov (p:Int))<;>rw[e]at h5<;>simpa using h5
 refine⟨fun l hl p hpl q hq hqm hqf=>?_,f2,f3,f4,fun s hs u hu hne hf=>?_⟩
 ·obtain⟨i,hi,rfl⟩:=bH hl
  obtain⟨k,hk,hpk⟩:=ey.1 hpl
  have hpn:p<eP h:=by have:=f2 _ (kJ (sp:=h.Spans) hl hpl);omega
  have hpm:=(f3 p hpn).2 (kJ hl hpl)
  have h1:=f1 i hi k hk
  rw[←hpk,f9 hpn hpm]at h1
  have m1:(p:Int)∈cj (tbl h) (nth (tbl h).Entries p).Frame:=ed.2 ⟨hpn,hpm,rfl⟩
  have m2:(q:Int)∈cj (tbl h) (nth (tbl h).Entries p).Frame:=ed.2 ⟨hq,hqm,hqf⟩
  obtain⟨z,hz⟩:=List.length_eq_one_iff.1 h1
  rw[hz]at m1 m2
  simp only[List.mem_singleton]at m1 m2
  omega
 ·obtain⟨i,hi,rfl⟩:=bH hs
  obtain⟨j,hj,rfl⟩:=bH hu
  have hpe:∀ k,k<h.Spans.length→aF (tbl h) (nth h.Spans k).Page=nth (tbl h).Entries (nth h.Spans k).Page.toNat:=fun k hk=>by
   have hc:=aU (hL.sok _ (ay hk))
   have hb:=f2 _ (le (la:=h.Larges) (ay hk))
   rw[show(nth h.Spans k).Page=(((nth h.Spans k).Page.toNat:Nat):Int) by omega]
   exact sj (by omega)
  unfold lU at hm
  rw[co]at hm
  rcases Nat.lt_trichotomy i j with hlt|heq|hlt
  ·have h1:=eK (hm j hj) hlt
   unfold jp at h1
   rw[hpe i hi,hpe j hj,Bool.or_eq_true,decide_eq_true_eq]at h1
   rw[pW]
   exact h1.resolve_left fun e=>e hf.symm
  ·subst heq;exact absurd rfl hne
  ·have h1:=eK (hm i hi) hlt
   unfold jp at h1
   rw[hpe i hi,hpe j hj,Bool.or_eq_true,decide_eq_true_eq]at h1
   exact h1.resolve_left fun e=>e hf
theorem vD (sp:List am):cD sp.length (ta sp)=true↔sp.Pairwise fun a b=>a.Page<b.Page:=by
 rw[co]
 refine Iff.trans ?_ (rv (fun a b:Int=>a<b) (fun a b c=>Int.lt_trans) (fun s:am=>s.Page) sp)
 unfold ta
 simp only[decide_eq_true_eq]
theorem vC (la:List ah):cD la.length (tN la)=true↔la.Pairwise fun a b=>a.Page<b.Page:=by
 rw[co]
 refine Iff.trans ?_ (rv (fun a b:Int=>a<b) (fun a b c=>Int.lt_trans) (fun s:ah=>s.Page) la)
 unfold tN
 simp only[decide_eq_true_eq]
theorem HW {h:ac} (hlay:bj h.Spans h.Larges=true) (hr:b7 (eP h) h.Free=true) (h1:h.Spans.Pairwise fun a b=>a.Page<b.Page) (h2:h.Larges.Pairwise fun a b=>a.Page<b.Page) (hg:Pg (tbl h) h.Free h.Spans h.Larges):pages0 h=true∧lU h=true:=by
 have hL:=rr.of hlay
 constructor
 ·unfold pages0
  simp only[Bool.and_eq_true]
  refine⟨⟨⟨(vD _).2 h1,co.2 fun i hi=>?_⟩,List.all_eq_true.2 fun p hp=>decide_eq_true (hg.bnd p hp)⟩,co.2 fun p hp=>?_⟩
  ·unfold oX
   rw[Bool.and_eq_true]
   refine⟨eK ((vC _).2 h2) hi,co.2 fun k hk=>?_⟩
   have hl:=ay hi
   have hf:=bn (hL.lok _ hl)
   obtain⟨p,hp⟩ : ∃ p:Nat,(nth h.Larges i).Page+(k:Nat)=(p:Nat):=⟨((nth h.Larges i).Page+k).toNat,by omega⟩
   have hpl:(p:Int)∈lpgs (nth h.Larges i) (nth h.Larges i).Pages.toNat:=ey.2 ⟨k,hk,hp.symm⟩
   have hpn:p<eP h:=by have:=hg.bnd _ (kJ (sp:=h.Spans) hl hpl);exact Int.ofNat_lt.1 this
   have hpm:=(hg.own p hpn).2 (kJ hl hpl)
   unfold sg
   rw[decide_eq_true_eq,hp,f9 hpn hpm]
   refine GE (tZ ..) (ed.2 ⟨hpn,hpm,rfl⟩) fun x hx=>?_
   obtain⟨q,rfl⟩:=qZ hx
   obtain⟨g1,g2,g3⟩:=ed.1 hx
   rw[hg.one _ hl p hpl q g1 g2 g3]
  ·unfold rg
   rw[Bool.and_eq_true,decide_eq_true_eq]
   refine⟨hg.own p hp,?_⟩
   have h5:=hg.fre p hp
   rw[←zz hr]at h5
   cases e:h.Free.any (ov (p:Int))<;>rw[e]at h5<;>simpa using h5
 ·unfold lU
  refine co.2 fun i hi=>co.2 fun j hj=>?_
  have hjl:j<h.Spans.length:=by omega
  have hpe:∀ k,k<h.Spans.length→aF (tbl h) (nth h.Spans k).Page=nth (tbl h).Entries (nth h.Spans k).Page.toNat:=fun k hk=>by
   have hc:=aU (hL.sok _ (ay hk))
   have hb:=hg.bnd _ (le (la:=h.Larges) (ay hk))
   rw[show(nth h.Spans k).Page=(((nth h.Spans k).Page.toNat:Nat):Int) by omega]
   exact sj (by unfold eP;unfold tbl at hb;omega)
  unfold jp
  rw[hpe i hi,hpe j hjl,Bool.or_eq_true,decide_eq_true_eq]
  by_cases e:(nth (tbl h).Entries (nth h.Spans i).Page.toNat).Frame=(nth (tbl h).Entries (nth h.Spans j).Page.toNat).Frame
  ·refine .inr (hg.mesh _ (ay hi) _ (ay hjl) (fun e2=>?_) e)
   have:=kY (f:=(·.Page)) hL.nd hi hjl e2
   omega
  ·exact .inl e
theorem ye {h:ac} (hn:eV h=true) (hL:rr h.Spans h.Larges):eg h=true↔(h.Objs.Pairwise fun a b=>a.Addr<b.Addr)∧(∀ o∈h.Objs,1≤o.Id∧o.Id≤h.Next - 1∧0≤o.Thread∧o.Thread≤h.Caches.length - 1)∧(h.Objs.map (·.Id)).Nodup∧∀ o∈h.Objs,GA h.Spans h.Larges o:=by
 unfold eV at hn
 rw[decide_eq_true_eq]at hn
 refine Iff.trans ?_ (and_congr (rv (fun a b:Int=>a<b) (fun a b c=>Int.lt_trans) (fun o:aM=>o.Addr) h.Objs) (and_congr Iff.rfl (and_congr (vm (fun o:aM=>o.Id) h.Objs) Iff.rfl)))
 unfold eg
 rw[fV (by omega) (by omega),co]
 have hk:∀ i,i<h.Objs.length→(objAt (h.Next - 1) h i=true↔(i=0∨(nth h.Objs (i - 1)).Addr<(nth h.Objs i).Addr)∧(1≤(nth h.Objs i).Id∧(nth h.Objs i).Id≤h.Next - 1∧0≤(nth h.Objs i).Thread∧(nth h.Objs i).Thread≤h.Caches.length - 1)∧(∀ o∈h.Objs.take i,o.Id≠(nth h.Objs i).Id)∧GA h.Spans h.Larges (nth h.Objs i)):=fun i hi=>by
  unfold objAt fF
  rw[Bool.and_eq_true,Bool.and_eq_true,decide_eq_true_eq,Ge hL,Bool.not_eq_true',List.any_eq_false]
  simp only[jk,decide_eq_true_eq]
  constructor
  ·rintro⟨⟨⟨a1,a2⟩,a3⟩,a4⟩;exact⟨a1,a2,a3,a4⟩
  ·rintro⟨a1,a2,a3,a4⟩;exact⟨⟨⟨a1,a2⟩,a3⟩,a4⟩
 constructor
 ·intro h1
  have h2:=fun i hi=>(hk i hi).1 (h1 i hi)
  refine⟨fun i hi=>(h2 i hi).1,fun o ho=>?_,fun i hi=>(h2 i hi).2.2.1,fun o ho=>?_⟩
  ·obtain⟨i,hi,rfl⟩:=bH ho;exact(h2 i hi).2.1
  ·obtain⟨i,hi,rfl⟩:=bH ho;exact(h2 i hi).2.2.2
 ·rintro⟨a1,a2,a3,a4⟩ i hi
  exact(hk i hi).2 ⟨a1 i hi,a2 _ (ay hi),a3 i hi,a4 _ (ay hi)⟩
theorem rV {h:ac} (hL:rr h.Spans h.Larges):fH h=true↔(∀ c∈h.Caches,∀ k:Nat,k<c.Lists.length→∀ a∈nth c.Lists k,pC h.Spans a k)∧(∀ x∈h.Quar.Lst,pC h.Spans x.Addr x.Class)∧∀ a∈aX h.Mail,pC h.Spans a (-1):=by
 rw[jP]
 simp only[List.all_eq_true,dJ,co,oH,fC,iS,Gs hL,and_assoc]
theorem xw {p:Int} {h:ac} : 0≤eX h p↔∃ s∈h.Spans,s.Page=p:=by
 unfold eX
 rw[show(0≤eO (iA p) h.Spans)↔(decide (eO (iA p) h.Spans≥0)=true) by simp,mW,List.any_eq_true]
 simp[iA]
theorem ef.of {h:ac} (hh:dY h=true):ef h []:=by
 unfold dY kb at hh
 simp only[Bool.and_eq_true]at hh
 obtain⟨⟨⟨⟨⟨⟨⟨⟨⟨⟨h1,h2⟩,h3⟩,h4⟩,h5⟩,h6⟩,h7⟩,h8⟩,h9⟩,h10,h11⟩,h12⟩:=hh
 have hL:=rr.of h3
 rw[qu h3 h4]at h5
 have hp:=h4
 unfold pages0 at hp
 simp only[Bool.and_eq_true]at hp
 unfold cI at h6
 simp only[Bool.and_eq_true,decide_eq_true_eq]at h6
 unfold gj at h11
 simp only[Bool.and_eq_true,decide_eq_true_eq]at h11
 obtain⟨⟨k1,k2⟩,k3⟩:=h11
 obtain⟨o1,o2,o3,o4⟩:=(ye h9 hL).1 h10
 obtain⟨q1,q2,q3⟩:=(rV hL).1 k1
 unfold iU at h7
 have hln:=co.1 hp.1.1.2
 refine⟨h1,h2,h3,(vD _).1 hp.1.1.1,(vC _).1 (co.2 fun i hi=>?_),HV h3 h2 h4 h5,h6.1.1,h6.1.2,h6.2,fun x hx=>by simpa using List.all_eq_true.1 h7 x hx,fun c hc=>List.all_eq_true.1 h8 c hc,h9,o1,o2,o3,o4,q1,q2,q3,fun a ha=>(by cases ha),(by simpa using k2),fun a=>?_,fun hm=>?_,fun hm=>?_⟩
 ·have:=hln i hi
  unfold oX at this
  rw[Bool.and_eq_true]at this
  exact this.1
 ·rw[List.nil_append,←yW hL]
  exact⟨fun ha=>iJ hL h10 k1 a ha,fun ha=>oz k2 (iJ hL h10 k1) (by omega) a ha⟩
 ·unfold n5 at h12
  rw[if_pos hm]at h12
  simp only[Bool.and_eq_true,decide_eq_true_eq,xw]at h12
  exact⟨h12.1.1,h12.1.2,h12.2⟩
 ·unfold n5 at h12
  rw[if_neg (by rw[hm];simp)]at h12
  exact h12
theorem ef.to {h:ac} (hi:ef h []):dY h=true:=by
 have hL:=hi.L
 obtain⟨p1,p2⟩:=HW hi.lay hi.rng hi.srs hi.srl hi.pg
 have hob:=(ye hi.nums hL).2 ⟨hi.osr,hi.onu,hi.oid,hi.oow⟩
 have hhe:=(rV hL).2 ⟨hi.hca,hi.hqu,hi.hfl⟩
 unfold dY kb
 simp only[Bool.and_eq_true]
 refine⟨⟨⟨⟨⟨⟨⟨⟨⟨⟨hi.ker,hi.rng⟩,hi.lay⟩,p1⟩,by rw[qu hi.lay p1];exact p2⟩,?_⟩,?_⟩,List.all_eq_true.2 hi.cach⟩,hi.nums⟩,hob,?_⟩,?_⟩
 ·unfold cI
  rw[hi.mail,hi.quar,decide_eq_true hi.nc];rfl
 ·unfold iU
  exact List.all_eq_true.2 fun x hx=>decide_eq_true (hi.snc x hx)
 ·unfold gj
  have hn:(holders h).Nodup:=by simpa using hi.nd
  have hm:∀ a,a∈holders h↔a∈gu h.Spans h.Larges:=fun a=>by rw[yW hL,←hi.mem a];simp
  have hp:(holders h).Perm (gu h.Spans h.Larges):=(List.perm_ext_iff_of_nodup hn (mn ..)).2 hm
  rw[hhe,decide_eq_true hn,decide_eq_true hp.length_eq];rfl
 ·unfold n5
  cases hm:h.Meshing with
  | true=>
   obtain⟨j1,j2,j3⟩:=hi.job hm
   rw[if_pos rfl,j1,decide_eq_true (xw.2 j2),decide_eq_true (xw.2 j3)];rfl
  | false=>rw[if_neg (by simp)];exact hi.noj hm
end Go.Proofs.YtogajjgmcnjkbaaGreat.Ab
namespace Go.Proofs.YtogajjgmcnjkbaaGreat.Ab
def dele {α:Type} (xs:List α) (i:Nat):List α:=xs.take i++xs.drop (i+1)
theorem ez {α:Type} (xs:List α) (i:Nat):(dele xs i).Sublist xs:=by
 unfold dele;rw[←List.eraseIdx_eq_take_drop_succ];exact List.eraseIdx_sublist ..
theorem vg {α:Type} [Inhabited α] {xs:List α} {i:Nat} (hi:i<xs.length):xs.Perm (nth xs i::dele xs i):=by
 have:xs=xs.take i++nth xs i::xs.drop (i+1):=by rw[←k9 hi,List.take_append_drop]
 conv=>lhs;rw[this]
 exact List.perm_middle
theorem we {α:Type} [Inhabited α] (f:α→List Int) (a:Int):∀ (xs:List α) (i:Nat) (y:α),i<xs.length→((xs.set i y).flatMap f).count a+(f (nth xs i)).count a=(xs.flatMap f).count a+(f y).count a
 | [],i,_,h=>by cases h
 | x::xs,0,y,_=>by
  show((y::xs).flatMap f).count a+(f x).count a=((x::xs).flatMap f).count a+(f y).count a
  rw[List.flatMap_cons,List.flatMap_cons,List.count_append,List.count_append];omega
 | x::xs,i+1,y,h=>by
  have:=we f a xs i y (by simpa using h)
  show((x::xs.set i y).flatMap f).count a+(f (nth xs i)).count a=((x::xs).flatMap f).count a+(f y).count a
  rw[List.flatMap_cons,List.flatMap_cons,List.count_append,List.count_append];omega
theorem zS (ls:List (List Int)):ls.flatten=ls.flatMap fun x=>x:=by
 induction ls with
 | nil=>rfl
 | cons x xs ih=>rw[List.flatten_cons,List.flatMap_cons,ih]
theorem pC.any {sp:List am} {a c:Int} (h:pC sp a c):pC sp a (-1):=by
 obtain⟨s,hs,h1,-⟩:=h;exact⟨s,hs,h1,.inl (by decide)⟩
theorem ef.cells {h:ac} {E:List Int} (hi:ef h E) {k:ao} (hk:bf k=true) (ht:k.Machine.Table=h.Kernel.Machine.Table):ef {h with Kernel:=k} E:=
 {hi with
   ker:=hk
   rng:=by show b7 ((k.Machine.Table.Entries.length:Nat):Int) h.Free=true;rw[ht];exact hi.rng
   pg:=by show Pg k.Machine.Table h.Free h.Spans h.Larges;rw[ht];exact hi.pg}
theorem ef.dropO {h:ac} {E:List Int} {i:Nat} (hi:ef h E) (li:i<h.Objs.length) (hs:pC h.Spans (nth h.Objs i).Addr (-1)):ef {h with Objs:=dele h.Objs i} ((nth h.Objs i).Addr::E):=by
 have hp:(E++holders h).Perm (((nth h.Objs i).Addr::E)++holders {h with Objs:=dele h.Objs i}):=by
  have h0:=(vg li).map (·.Addr)
  refine List.perm_iff_count.2 fun a=>?_
  have h1:=h0.count_eq a
  simp only[List.map_cons,List.count_cons]at h1
  simp only[holders,eY,List.count_append,List.cons_append,List.count_cons]
  omega
 have hd:(dele h.Objs i).Sublist h.Objs:=ez ..
 exact {hi with
   osr:=hi.osr.sublist hd
   onu:=fun o ho=>hi.onu o (hd.subset ho)
   oid:=hi.oid.sublist (hd.map _)
   oow:=fun o ho=>hi.oow o (hd.subset ho)
   hin:=fun a ha=>by
     rcases List.mem_cons.1 ha with rfl|ha
     · exact hs
     · exact hi.hin a ha
   nd:=hp.nodup_iff.1 hi.nd
   mem:=fun a=>by rw[←hp.mem_iff];exact hi.mem a}
def iB (c:ar) (k:Nat) (a:Int):ar:=⟨c.Lists.set k (nth c.Lists k++[a])⟩
theorem ef.put {h:ac} {E:List Int} {a:Int} {t k:Nat} (hi:ef h (a::E)) (ht:t<h.Caches.length) (hk:k<(nth h.Caches t).Lists.length) (hs:pC h.Spans a k) (hc:bw (iB (nth h.Caches t) k a)=true):ef {h with Caches:=h.Caches.set t (iB (nth h.Caches t) k a)} E:=by
 have hp:(a::E++holders h).Perm (E++holders {h with Caches:=h.Caches.set t (iB (nth h.Caches t) k a)}):=by
  refine List.perm_iff_count.2 fun b=>?_
  have h1:=we (fun c:ar=>c.Lists.flatten) b h.Caches t (iB (nth h.Caches t) k a) ht
  have h2:=we (fun x:List Int=>x) b (nth h.Caches t).Lists k (nth (nth h.Caches t).Lists k++[a]) hk
  rw[←zS,←zS]at h2
  simp only[List.count_append,List.count_singleton]at h2
  simp only[iB]at h1
  simp only[holders,eY,iB,List.count_append,List.cons_append,List.count_cons]
  omega
 exact {hi with
   nc:=by show(h.Caches.set ..).length=_;rw[List.length_set];exact hi.nc
   cach:=fun c hcm=>by
     rcases List.mem_or_eq_of_mem_set hcm with hcm|rfl
     · exact hi.cach c hcm
     · exact hc
   onu:=by show ∀ o∈h.Objs,1≤o.Id∧o.Id≤h.Next - 1∧0≤o.Thread∧o.Thread≤(h.Caches.set t _).length - 1;rw[List.length_set];exact hi.onu
   hca:=fun c hcm j hj b hb=>by
     rcases List.mem_or_eq_of_mem_set hcm with hcm|rfl
     · exact hi.hca c hcm j hj b hb
     · simp only[iB,List.length_set]at hj
       simp only[iB,iI]at hb
       by_cases e:k=j
       · subst e
         rw[if_pos ⟨rfl,hj⟩]at hb
         rcases List.mem_append.1 hb with hb|hb
         · exact hi.hca _ (ay ht) _ hj b hb
         · rw[List.mem_singleton.1 hb];exact hs
       · rw[if_neg fun x=>e x.1]at hb
         exact hi.hca _ (ay ht) _ hj b hb
   hin:=fun b hb=>hi.hin b (List.mem_cons_of_mem _ hb)
   nd:=hp.nodup_iff.1 hi.nd
   mem:=fun b=>by rw[←hp.mem_iff];exact hi.mem b}
theorem ef.toQuar {h:ac} {E:List Int} {x:ax} {q:aK} {out:List ax} (hi:ef h (x.Addr::E)) (hq:eZ q=true) (he:h.Quar.Lst++[x]=out++q.Lst) (hx:x.Since≤h.Clock) (hs:pC h.Spans x.Addr x.Class):ef {h with Quar:=q} (out.map (·.Addr)++E):=by
 have hall:∀ y∈out++q.Lst,y.Since≤h.Clock∧pC h.Spans y.Addr y.Class:=fun y hy=>by
  rw[←he]at hy
  rcases List.mem_append.1 hy with hy|hy
  ·exact⟨hi.snc y hy,hi.hqu y hy⟩
  ·rw[List.mem_singleton.1 hy];exact⟨hx,hs⟩
 have hp:(x.Addr::E++holders h).Perm ((out.map (·.Addr)++E)++holders {h with Quar:=q}):=by
  refine List.perm_iff_count.2 fun b=>?_
  have h1:=congrArg (fun l:List ax=>(l.map (·.Addr)).count b) he
  simp only[List.map_append,List.count_append,List.map_cons,List.map_nil,List.count_singleton]at h1
  simp only[holders,eY,List.count_append,List.cons_append,List.count_cons]
  omega
 exact {hi with
   quar:=hq
   snc:=fun y hy=>(hall y (List.mem_append.2 (.inr hy))).1
   hqu:=fun y hy=>(hall y (List.mem_append.2 (.inr hy))).2
   hin:=fun b hb=>by
     rcases List.mem_append.1 hb with hb|hb
     · obtain⟨y,hy,rfl⟩:=List.mem_map.1 hb
       exact(hall y (List.mem_append.2 (.inl hy))).2.any
     · exact hi.hin b (List.mem_cons_of_mem _ hb)
   nd:=hp.nodup_iff.1 hi.nd
   mem:=fun b=>by rw[←hp.mem_iff];exact hi.mem b}
def rL (b i:Int):Int:=((BitVec.ofInt IntKind.i64.bits b &&& ~~~BitVec.ofInt IntKind.i64.bits (2 ^ i.toNat)).toNat:Nat)
def jj (s:am) (i:Int):am:={s with Bits:=rL s.Bits i}
theorem jU (b i:Int):cy b i=true↔0≤b∧0≤i∧i≤15∧b.toNat.testBit i.toNat=true:=by
 unfold cy
 rw[decide_eq_true_eq]
 refine and_congr_right fun hb=>and_congr_right fun hi=>and_congr_right fun _=>?_
 obtain⟨n,rfl⟩:=Int.eq_ofNat_of_zero_le hb
 rw[Nat.testBit_eq_decide_div_mod_eq,decide_eq_true_eq,Int.toNat_natCast]
 norm_cast
theorem yd {b i:Int} (hb:0≤b∧b≤65535) (hi:0≤i∧i≤15) (j:Nat):(rL b i).toNat.testBit j=(b.toNat.testBit j&&decide (i.toNat≠j)):=by
 have h2:(2:Int) ^ i.toNat≤32768∧0≤(2:Int) ^ i.toNat:=by
  obtain⟨n,rfl⟩:=Int.eq_ofNat_of_zero_le hi.1
  rw[Int.toNat_natCast]
  have:(2:Nat) ^ n≤2 ^ 15:=Nat.pow_le_pow_right (by decide) (by omega)
  have h3:((2 ^ n:Nat):Int)=(2:Int) ^ n:=Int.natCast_pow 2 n
  rw[←h3]
  exact⟨Int.ofNat_le.2 this,Int.natCast_nonneg _⟩
 unfold rL
 rw[Int.toNat_natCast,BitVec.testBit_toNat,BitVec.getLsbD_and,BitVec.getLsbD_not,←BitVec.testBit_toNat,←BitVec.testBit_toNat,oM (by omega),oM (by omega)]
 rw[show((2:Int) ^ i.toNat).toNat=2 ^ i.toNat by rw[show(2:Int) ^ i.toNat=((2 ^ i.toNat:Nat):Int) by norm_cast,Int.toNat_natCast],Nat.testBit_two_pow]
 by_cases hj:j<64
 ·rw[show decide (j<IntKind.i64.bits)=true from decide_eq_true hj,Bool.true_and]
  congr 1
  by_cases e:i.toNat=j
  ·rw[decide_eq_true e,decide_eq_false (fun x=>x e)];rfl
  ·rw[decide_eq_false e,decide_eq_true e];rfl
 ·rw[Nat.testBit_lt_two_pow (x:=b.toNat) (i:=j) (Nat.lt_of_lt_of_le (show b.toNat<2 ^ 16 by omega) (Nat.pow_le_pow_right (by decide) (by omega)))]
  rfl
theorem vZ {b i:Int} (hb:0≤b∧b≤65535):0≤rL b i∧rL b i≤b:=by
 unfold rL
 refine⟨by omega,?_⟩
 rw[BitVec.toNat_and,oM (by omega)]
 have:=Nat.and_le_left (n:=b.toNat) (m:=(~~~BitVec.ofInt IntKind.i64.bits (2 ^ i.toNat)).toNat)
 omega
theorem Fh {b i:Int} (hb:0≤b∧b≤65535) (hi:0≤i∧i≤15) (j:Int):cy (rL b i) j=true↔cy b j=true∧j≠i:=by
 rw[jU,jU,yd hb hi,Bool.and_eq_true,decide_eq_true_eq]
 have:=vZ (i:=i) hb
 constructor
 ·rintro⟨a1,a2,a3,a4,a5⟩;exact⟨⟨hb.1,a2,a3,a4⟩,fun e=>a5 (by rw[e])⟩
 ·rintro⟨⟨a1,a2,a3,a4⟩,a5⟩;exact⟨this.1,a2,a3,a4,fun e=>a5 (by omega)⟩
theorem jz {s:am} (h:b8 s=true):0≤s.Bits∧s.Bits≤65535:=by
 unfold b8 at h
 simp only[decide_eq_true_eq]at h
 have:=FO s.Class
 omega
theorem Dx {s:am} (h:b8 s=true) (i:Int):b8 (jj s i)=true:=by
 have h1:=jz h
 have h2:=vZ (i:=i) h1
 unfold b8 at h
 rw[decide_eq_true_eq]at h
 obtain⟨a1,a2,a3,a4,a5,a6⟩:=h
 exact decide_eq_true ⟨a1,a2,a3,a4,h2.1,Int.le_trans h2.2 a6⟩
theorem vP {s u:am} (hs:b8 s=true) {i:Int} (hi:0≤i∧i≤15) (h:meshable s u=true):meshable (jj s i) u=true:=by
 unfold meshable at h ⊢
 simp only[Bool.and_eq_true,decide_eq_true_eq]at h ⊢
 obtain⟨⟨h1,h2⟩,h3,h4,h5⟩:=h
 refine⟨⟨Dx h1 i,h2⟩,h3,h4,?_⟩
 refine Nat.eq_of_testBit_eq fun j=>?_
 have:=congrArg (fun n=>Nat.testBit n j) h5
 simp only[Nat.testBit_and,Nat.zero_testBit,jj,yd (jz hs) hi]at this ⊢
 cases e1:s.Bits.toNat.testBit j<;>cases e2:u.Bits.toNat.testBit j<;>rw[e1,e2]at this<;>simp_all
def dt (s:am) (a:Int):Int:=(a - 16*s.Page) / csz s.Class
theorem vJ {s:am} (h:b8 s=true) {a:Int} (ha:16*s.Page≤a∧a≤16*s.Page+15):0≤dt s a∧dt s a≤15:=by
 have hc:=aU h
 unfold dt
 rcases d2 ⟨hc.2.2.1,hc.2.2.2⟩ with e|e|e|e<;>rw[e]<;>omega
theorem AW {s:am} (h:b8 s=true) {a b:Int} (ha:(a - 16*s.Page) % csz s.Class=0) (hb:(b - 16*s.Page) % csz s.Class=0) (e:dt s a=dt s b):a=b:=by
 have hc:=aU h
 unfold dt at e
 rcases d2 ⟨hc.2.2.1,hc.2.2.2⟩ with z|z|z|z<;>rw[z]at ha hb e<;>omega
theorem vp {s:am} (h:b8 s=true) {a:Int} (ha:gg s a) (b:Int):gg (jj s (dt s a)) b↔gg s b∧b≠a:=by
 obtain⟨a1,a2,a3,a4⟩:=ha
 have hbd:=vJ h ⟨a1,a2⟩
 unfold gg
 simp only[jj]
 rw[Fh (jz h) hbd]
 constructor
 ·rintro⟨b1,b2,b3,b4,b5⟩
  exact⟨⟨b1,b2,b3,b4⟩,fun e=>b5 (by rw[e];rfl)⟩
 ·rintro⟨⟨b1,b2,b3,b4⟩,b5⟩
  exact⟨b1,b2,b3,b4,fun e=>b5 (AW h b3 a3 e)⟩
theorem q8 {α:Type} [Inhabited α] {xs:List α} {i:Nat} {y z:α} (h:z∈xs.set i y):z=y∨∃ j,j<xs.length∧j≠i∧nth xs j=z:=by
 obtain⟨j,hj,rfl⟩:=List.mem_iff_getElem.1 h
 rw[List.getElem_set]
 by_cases e:i=j
 ·subst e;simp
 ·rw[if_neg e]
  rw[List.length_set]at hj
  exact .inr ⟨j,hj,fun x=>e x.symm,bE (List.getElem?_eq_getElem hj)⟩
theorem zh {α:Type} [Inhabited α] {xs:List α} {i j:Nat} (y:α) (hj:j<xs.length) (e:j≠i):nth xs j∈xs.set i y:=by
 have:nth (xs.set i y) j=nth xs j:=by rw[iI,if_neg fun x=>e x.1.symm]
 rw[←this];exact ay (by rw[List.length_set];exact hj)
theorem xd {α:Type} {xs:List α} {i:Nat} (y:α) (hi:i<xs.length):y∈xs.set i y:=by
 refine List.mem_iff_getElem.2 ⟨i,by rw[List.length_set];exact hi,by simp⟩
theorem Fa {sp:List am} {i:Nat} (k:Int) (hi:i<sp.length):(sp.set i (jj (nth sp i) k)).map (·.Page)=sp.map (·.Page):=by
 rw[List.map_set]
 refine List.ext_getElem (by simp) fun j h1 h2=>?_
 rw[List.getElem_set]
 split
 ·rename_i e;subst e
  rw[List.getElem_map]
  show(nth sp i).Page=_
  rw[bE (List.getElem?_eq_getElem hi)]
 ·rfl
theorem pC.set {sp:List am} {la:List ah} (hL:rr sp la) {i:Nat} (hi:i<sp.length) {a:Int} (ha:gg (nth sp i) a) (b c:Int):pC (sp.set i (jj (nth sp i) (dt (nth sp i) a))) b c↔pC sp b c∧b≠a:=by
 have hsi:=hL.sok _ (ay hi)
 constructor
 ·rintro⟨s,hs,h1,h2⟩
  rcases q8 hs with rfl|⟨j,hj,hji,rfl⟩
  ·have:=(vp hsi ha b).1 h1
   exact⟨⟨_,ay hi,this.1,h2⟩,this.2⟩
  ·refine⟨⟨_,ay hj,h1,h2⟩,fun e=>?_⟩
   subst e
   have:=kY (f:=(·.Page)) hL.nd hi hj (by have a1:=ha.1;have a2:=ha.2.1;have b1:=h1.1;have b2:=h1.2.1;omega)
   omega
 ·rintro⟨⟨s,hs,h1,h2⟩,hne⟩
  obtain⟨j,hj,rfl⟩:=bH hs
  by_cases e:j=i
  ·subst e
   exact⟨_,xd _ hi,(vp hsi ha b).2 ⟨h1,hne⟩,h2⟩
  ·exact⟨_,zh _ hj e,h1,h2⟩
theorem ef.give {h:ac} {E:List Int} {a:Int} {i:Nat} (hi:ef h (a::E)) (li:i<h.Spans.length) (ha:gg (nth h.Spans i) a):ef {h with Spans:=h.Spans.set i (jj (nth h.Spans i) (dt (nth h.Spans i) a))} E:=by
 have hL:=hi.L
 have hsi:=hL.sok _ (ay li)
 have hbd:=vJ hsi ⟨ha.1,ha.2.1⟩
 have hSl:=fun b c=>pC.set hL li ha b c
 have hpg:=Fa (dt (nth h.Spans i) a) li
 generalize hsp:h.Spans.set i (jj (nth h.Spans i) (dt (nth h.Spans i) a))=sp at hSl hpg
 have hpgs:pgs sp h.Larges=pgs h.Spans h.Larges:=by unfold pgs;rw[hpg]
 have hnd:=hi.nd
 rw[List.cons_append]at hnd
 obtain⟨hna,hnd⟩:=List.nodup_cons.1 hnd
 have hne:∀ b,b∈E++holders h→b≠a:=fun b hb e=>hna (by rw[←e];exact hb)
 have hho:∀ b,b∈holders h→b≠a:=fun b hb=>hne b (List.mem_append.2 (.inr hb))
 have hla:∀ l∈h.Larges,16*l.Page≠a:=fun l hl e=>(xA hL hl).1 _ (ay li) (by have a1:=ha.1;have a2:=ha.2.1;omega)
 have hsp':∀ s∈sp,∃ u∈h.Spans,u.Page=s.Page∧(s=u∨s=jj u (dt (nth h.Spans i) a)):=fun s hs=>by
  rw[←hsp]at hs
  rcases q8 hs with rfl|⟨j,hj,hji,rfl⟩
  ·exact⟨_,ay li,rfl,.inr rfl⟩
  ·exact⟨_,ay hj,rfl,.inl rfl⟩
 have hbk:∀ u∈h.Spans,∃ s∈sp,s.Page=u.Page:=fun u hu=>by
  have:u.Page∈sp.map (·.Page):=by rw[hpg];exact List.mem_map.2 ⟨u,hu,rfl⟩
  obtain⟨s,hs,e⟩:=List.mem_map.1 this
  exact⟨s,hs,e⟩
 exact {hi with
   lay:=by
     obtain⟨l1,l2,l3⟩:=eR hi.lay
     unfold bj
     simp only[Bool.and_eq_true,decide_eq_true_eq]
     refine⟨⟨List.all_eq_true.2 fun s hs=>?_,l2⟩,by rw[hpgs];exact l3⟩
     obtain⟨u,hu,-,rfl|rfl⟩:=hsp' s hs
     · exact hL.sok _ hu
     · exact Dx (hL.sok _ hu) _
   srs:=by
     have h1:(h.Spans.map (·.Page)).Pairwise (fun a b=>a<b):=List.pairwise_map.2 hi.srs
     rw[←hpg]at h1
     exact List.pairwise_map.1 h1
   pg:=⟨hi.pg.one,by rw[hpgs];exact hi.pg.bnd,by rw[hpgs];exact hi.pg.own,hi.pg.fre,fun s hs u hu hne hf=>by
     obtain⟨s',hs',es,hs2⟩:=hsp' s hs
     obtain⟨u',hu',eu,hu2⟩:=hsp' u hu
     have h1:=hi.pg.mesh s' hs' u' hu' (by rw[es,eu];exact hne) (by rw[es,eu];exact hf)
     have h2:meshable s u'=true:=by
       rcases hs2 with rfl|rfl
       · exact h1
       · exact vP (hL.sok _ hs') hbd h1
     rcases hu2 with rfl|rfl
     · exact h2
     · rw[pW]at h2 ⊢;exact vP (hL.sok _ hu') hbd h2⟩
   oow:=fun o ho=>by
     have hoa:o.Addr≠a:=hho _ (by unfold holders;simp only[List.mem_append];exact .inl (.inl (.inl (List.mem_map.2 ⟨o,ho,rfl⟩))))
     rcases hi.oow o ho with⟨s,hs,h1,h2⟩|h1
     · obtain⟨u,hu,g1,g2⟩:=(hSl o.Addr (bk o.Size)).2 ⟨⟨s,hs,h1,.inr h2⟩,hoa⟩
       refine .inl ⟨u,hu,g1,?_⟩
       rcases g2 with g2|g2
       · have:=aU (hL.sok _ hs);omega
       · exact g2
     · exact .inr h1
   hca:=fun c hc k hk b hb=>(hSl b k).2 ⟨hi.hca c hc k hk b hb,hho b (by
     unfold holders eY;simp only[List.mem_append]
     exact .inl (.inl (.inr (List.mem_flatMap.2 ⟨c,hc,List.mem_flatten.2 ⟨_,ay hk,hb⟩⟩))))⟩
   hqu:=fun x hx=>(hSl _ _).2 ⟨hi.hqu x hx,hho _ (by unfold holders;simp only[List.mem_append];exact .inl (.inr (List.mem_map.2 ⟨x,hx,rfl⟩)))⟩
   hfl:=fun b hb=>(hSl _ _).2 ⟨hi.hfl b hb,hho _ (by unfold holders;simp only[List.mem_append];exact .inr hb)⟩
   hin:=fun b hb=>(hSl _ _).2 ⟨hi.hin b (List.mem_cons_of_mem _ hb),hne b (List.mem_append.2 (.inl hb))⟩
   nd:=hnd
   mem:=fun b=>by
     show b∈E++holders h↔Live sp h.Larges b
     have h1:=hi.mem b
     rw[List.cons_append,List.mem_cons]at h1
     unfold Live at h1 ⊢
     rw[hSl]
     constructor
     · intro hb
       rcases h1.1 (.inr hb) with h2|h2
       · exact .inl ⟨h2,hne b hb⟩
       · exact .inr h2
     · rintro(⟨h2,h3⟩|⟨l,hl,rfl⟩)
       · exact(h1.2 (.inl h2)).resolve_left h3
       · exact(h1.2 (.inr ⟨l,hl,rfl⟩)).resolve_left (hla l hl)
   job:=fun hm=>by
     obtain⟨j1,⟨s,hs,e1⟩,⟨u,hu,e2⟩⟩:=hi.job hm
     obtain⟨s',hs',g1⟩:=hbk s hs
     obtain⟨u',hu',g2⟩:=hbk u hu
     exact⟨j1,⟨s',hs',g1.trans e1⟩,⟨u',hu',g2.trans e2⟩⟩}
end Go.Proofs.YtogajjgmcnjkbaaGreat.Ab
namespace Go.Proofs.YtogajjgmcnjkbaaGreat.Ab
def gd (k:ao) (p:Int):Nat→ao
 | 0=>k
 | n+1=>cX (gd k p n) (p+n)
theorem pA {k:ao} (h:bf k=true) (p:Int):∀ n,bf (gd k p n)=true
 | 0=>h
 | n+1=>sf _ (pA h p n)
theorem k6 (k:ao) (p:Int):∀ n,(gd k p n).Machine.Table.Entries.length=k.Machine.Table.Entries.length∧(gd k p n).Calls=k.Calls∧(gd k p n).Refuse=k.Refuse
 | 0=>⟨rfl,rfl,rfl⟩
 | n+1=>by
  obtain⟨h1,h2,h3⟩:=k6 k p n
  obtain⟨g1,g2,g3⟩:=oo (gd k p n) (p+n)
  exact⟨g1.trans h1,g2.trans h2,g3.trans h3⟩
theorem AA {k:ao} (h:bf k=true) {p:Int} (hp:0≤p∧p<k.Machine.Table.Entries.length) (q:Nat):nth (cX k p).Machine.Table.Entries q=if(q:Int)=p then⟨0,0⟩ else nth k.Machine.Table.Entries q:=by
 have he:aF k.Machine.Table p=nth k.Machine.Table.Entries p.toNat:=by unfold aF;rw[if_pos hp]
 unfold cX
 split
 ·rename_i hm
  split
  ·rename_i hq
   rw[he]at hm
   have h3:=(eb.1 (bG.1 h).2.2.1).1 p.toNat (by omega)
   unfold sF at h3
   rw[decide_eq_true_eq]at h3
   have h4:=h3.2.2.1 hm
   rw[show q=p.toNat by omega]
   generalize nth k.Machine.Table.Entries p.toNat=e at hm h4
   obtain⟨m,f⟩:=e
   simp only at hm h4
   rw[hm,h4]
  ·rfl
 ·rw[(uQ _ _).1]
  simp only[kT,iI]
  by_cases e:(q:Int)=p
  ·rw[if_pos ⟨by omega,by omega⟩,if_pos e]
  ·rw[if_neg fun x=>e (by omega),if_neg e]
theorem yA {k:ao} (h:bf k=true) {p:Int} (hp:0≤p):∀ n:Nat,p+n≤k.Machine.Table.Entries.length→∀ q:Nat,nth (gd k p n).Machine.Table.Entries q=if p≤q∧(q:Int)<p+n then⟨0,0⟩ else nth k.Machine.Table.Entries q
 | 0,_,q=>by rw[if_neg (by omega)];rfl
 | n+1,hn,q=>by
  have h1:=yA h hp n (by omega) q
  have h2:=AA (pA h p n) (p:=p+n) ⟨by omega,by rw[(k6 k p n).1];omega⟩ q
  show nth (cX (gd k p n) (p+n)).Machine.Table.Entries q=_
  rw[h2,h1]
  by_cases e:(q:Int)=p+n
  ·rw[if_pos e,if_pos ⟨by omega,by omega⟩]
  ·rw[if_neg e]
   by_cases e2:p≤q∧(q:Int)<p+n
   ·rw[if_pos e2,if_pos ⟨by omega,by omega⟩]
   ·rw[if_neg e2,if_neg (by omega)]
theorem xX {α β:Type} (f:α→List β) {xs ys:List α} (h:xs.Sublist ys):(xs.flatMap f).Sublist (ys.flatMap f):=by
 induction h with
 | slnil=>exact List.Sublist.refl _
 | cons a _ ih=>rw[List.flatMap_cons];exact ih.trans (List.sublist_append_right ..)
 | cons_cons a _ ih=>rw[List.flatMap_cons,List.flatMap_cons];exact List.Sublist.append (List.Sublist.refl _) ih
theorem sT {h:ac} {E:List Int} (hi:ef h E) {sp:List am} {la:List ah} {p:Int} {n:Nat} (hn:1≤n) (hs:sp.Sublist h.Spans) (hl:la.Sublist h.Larges) (hall:∀ q:Int,p≤q→q<p+n→q∈pgs h.Spans h.Larges) (hp:0≤p) (hm:∀ q,q∈pgs sp la↔q∈pgs h.Spans h.Larges∧¬(p≤q∧q<p+n)) :
  ∃ o,bX (eP h) h.Free ⟨p,n⟩ = some o∧bf (gd h.Kernel p n)=true∧b7 ((gd h.Kernel p n).Machine.Table.Entries.length:Nat) o=true∧bj sp la=true∧Pg (gd h.Kernel p n).Machine.Table o sp la:=by
 have hlast:=hi.pg.bnd _ (hall (p+n - 1) (by omega) (by omega))
 have hlen:=(k6 h.Kernel p n).1
 have hlt:p+n≤h.Kernel.Machine.Table.Entries.length:=by unfold tbl at hlast;omega
 have hent:=yA hi.ker hp n hlt
 obtain⟨o,o1,o2,o3⟩:=yc (r:=⟨p,n⟩) hi.rng ⟨hp,by simp only;omega,hlt⟩ fun q q1 q2=>by
  simp only at q1 q2
  obtain⟨m,rfl⟩:=Int.eq_ofNat_of_zero_le (show 0≤q by omega)
  have hml:m<(tbl h).Entries.length:=by unfold tbl;omega
  exact(hi.pg.fre m hml).1 ((hi.pg.own m hml).2 (hall _ q1 q2))
 refine⟨o,o1,pA hi.ker p n,by rw[hlen];exact o2,?_,?_⟩
 ·obtain⟨l1,l2,l3⟩:=eR hi.lay
  unfold bj
  simp only[Bool.and_eq_true,decide_eq_true_eq]
  exact⟨⟨List.all_eq_true.2 fun s h1=>List.all_eq_true.1 l1 s (hs.subset h1),List.all_eq_true.2 fun l h1=>List.all_eq_true.1 l2 l (hl.subset h1)⟩,l3.sublist ((hs.map _).append (xX _ hl))⟩
 ·have hold:∀ q:Nat,(q:Int)∈pgs sp la→nth (gd h.Kernel p n).Machine.Table.Entries q=nth (tbl h).Entries q:=fun q hq=>by rw[hent,if_neg ((hm q).1 hq).2];rfl
  have hmode:∀ q:Nat,(nth (gd h.Kernel p n).Machine.Table.Entries q).Mode≠0↔(nth (tbl h).Entries q).Mode≠0∧¬(p≤q∧(q:Int)<p+n):=fun q=>by
   rw[hent]
   by_cases e:p≤q∧(q:Int)<p+n
   ·rw[if_pos e];exact⟨fun x=>absurd rfl x,fun x=>absurd e x.2⟩
   ·rw[if_neg e];exact⟨fun x=>⟨x,e⟩,fun x=>x.1⟩
  refine⟨fun l h1 q hq r hr hrm hrf=>?_,fun q hq=>?_,fun q hq=>?_,fun q hq=>?_,fun s h1 u h2 hne hf=>?_⟩
  ·have hr2:=(hmode r).1 hrm
   rw[hlen]at hr
   rw[hold q (kJ h1 hq),hent,if_neg hr2.2]at hrf
   exact hi.pg.one l (hl.subset h1) q hq r hr hr2.1 hrf
  ·rw[hlen];exact hi.pg.bnd q ((hm q).1 hq).1
  ·rw[hlen]at hq
   rw[hmode,hm,hi.pg.own q hq]
  ·rw[hlen]at hq
   rw[hmode,o3,hi.pg.fre q hq]
   simp only
   grind
  ·have hpos:∀ s∈sp,0≤s.Page:=fun s h1=>(aU (hi.L.sok s (hs.subset h1))).1
   have e1:=hold s.Page.toNat (by rw[Int.toNat_of_nonneg (hpos s h1)];exact le h1)
   have e2:=hold u.Page.toNat (by rw[Int.toNat_of_nonneg (hpos u h2)];exact le h2)
   rw[e1,e2]at hf
   exact hi.pg.mesh s (hs.subset h1) u (hs.subset h2) hne hf
theorem ew {α:Type} [Inhabited α] {xs:List α} {k:Nat} {z:α} : z∈dele xs k↔∃ j,j<xs.length∧j≠k∧nth xs j=z:=by
 unfold dele
 rw[List.mem_append]
 constructor
 ·rintro(h|h)
  ·obtain⟨j,hj,rfl⟩:=List.mem_take_iff_getElem.1 h
   exact⟨j,by omega,by omega,bE (List.getElem?_eq_getElem (by omega))⟩
  ·obtain⟨j,hj,rfl⟩:=List.mem_drop_iff_getElem.1 h
   exact⟨k+1+j,by omega,by omega,bE (List.getElem?_eq_getElem (by omega))⟩
 ·rintro⟨j,hj,hne,rfl⟩
  rw[bE (List.getElem?_eq_getElem hj)]
  by_cases e:j<k
  ·exact .inl (List.mem_take_iff_getElem.2 ⟨j,by omega,rfl⟩)
  ·refine .inr (List.mem_drop_iff_getElem.2 ⟨j - (k+1),by omega,?_⟩)
   congr 1;omega
theorem rF {sp:List am} {la:List ah} {q:Int} : q∈pgs sp la↔(∃ s∈sp,s.Page=q)∨∃ l∈la,q∈lpgs l l.Pages.toNat:=by
 unfold pgs;simp only[List.mem_append,List.mem_map,List.mem_flatMap]
theorem Dm {s:am} (h:s.Bits=0) (a:Int):¬gg s a:=by
 rintro⟨-,-,-,h4⟩
 rw[jU,h]at h4
 simp at h4
theorem ef.giveSpan {h:ac} {E:List Int} {i:Nat} (hi:ef h E) (li:i<h.Spans.length) (hb:(nth h.Spans i).Bits=0) (hj:h.Meshing=true→(nth h.Spans i).Page≠h.Job.Plan.Keep∧(nth h.Spans i).Page≠h.Job.Plan.Move) :
  ∃ o,bX (eP h) h.Free ⟨(nth h.Spans i).Page,1⟩ = some o∧ef {h with Kernel:=cX h.Kernel (nth h.Spans i).Page,Spans:=dele h.Spans i,Free:=o} E:=by
 have hL:=hi.L
 have hc:=aU (hL.sok _ (ay li))
 have hmem:∀ q,q∈pgs (dele h.Spans i) h.Larges↔q∈pgs h.Spans h.Larges∧¬((nth h.Spans i).Page≤q∧q<(nth h.Spans i).Page+(1:Nat)):=fun q=>by
  rw[rF,rF]
  constructor
  ·rintro(⟨s,hs,rfl⟩|⟨l,hl,hq⟩)
   ·obtain⟨j,hjl,hji,rfl⟩:=ew.1 hs
    refine⟨.inl ⟨_,ay hjl,rfl⟩,fun e=>hji (kY (f:=(·.Page)) hL.nd hjl li (by omega))⟩
   ·refine⟨.inr ⟨l,hl,hq⟩,fun e=>?_⟩
    obtain⟨k,hk,rfl⟩:=ey.1 hq
    exact hL.dis _ (ay li) l hl k hk (by omega)
  ·rintro⟨⟨s,hs,rfl⟩|⟨l,hl,hq⟩,hne⟩
   ·obtain⟨j,hjl,rfl⟩:=bH hs
    refine .inl ⟨_,ew.2 ⟨j,hjl,fun e=>hne (by subst e;omega),rfl⟩,rfl⟩
   ·exact .inr ⟨l,hl,hq⟩
 obtain⟨o,o1,o2,o3,o4,o5⟩:=sT hi (sp:=dele h.Spans i) (la:=h.Larges) (p:=(nth h.Spans i).Page) (n:=1) (Nat.le_refl _) (ez ..) (List.Sublist.refl _) (fun q q1 q2=>by rw[show q=(nth h.Spans i).Page by omega];exact le (ay li)) hc.1 hmem
 have hu:gd h.Kernel (nth h.Spans i).Page 1=cX h.Kernel (nth h.Spans i).Page:=by show cX h.Kernel ((nth h.Spans i).Page+((0:Nat):Int))=_;rw[show(nth h.Spans i).Page+((0:Nat):Int)=(nth h.Spans i).Page by omega]
 rw[hu]at o2 o3 o5
 have hSl:∀ b c,pC (dele h.Spans i) b c↔pC h.Spans b c:=fun b c=>by
  constructor
  ·rintro⟨s,hs,h1⟩;exact⟨s,(ez ..).subset hs,h1⟩
  ·rintro⟨s,hs,h1,h2⟩
   obtain⟨j,hjl,rfl⟩:=bH hs
   exact⟨_,ew.2 ⟨j,hjl,fun e=>Dm hb b (by rw[←e];exact h1),rfl⟩,h1,h2⟩
 refine⟨o,o1,{hi with
   ker:=o2
   rng:=o3
   lay:=o4
   srs:=hi.srs.sublist (ez ..)
   pg:=o5
   oow:=fun ob ho=>?_
   hca:=fun c hc k hk b hb=>(hSl b k).2 (hi.hca c hc k hk b hb)
   hqu:=fun x hx=>(hSl _ _).2 (hi.hqu x hx)
   hfl:=fun b hb=>(hSl _ _).2 (hi.hfl b hb)
   hin:=fun b hb=>(hSl _ _).2 (hi.hin b hb)
   mem:=fun b=>(hi.mem b).trans ?_
   job:=fun hm=>?_}⟩
 ·rcases hi.oow ob ho with⟨s,hs,h1,h2⟩|h1
  ·obtain⟨j,hjl,rfl⟩:=bH hs
   exact .inl ⟨_,ew.2 ⟨j,hjl,fun e=>Dm hb _ (by rw[←e];exact h1),rfl⟩,h1,h2⟩
  ·exact .inr h1
 ·unfold Live;rw[hSl]
 ·obtain⟨j1,⟨s,hs,e1⟩,⟨u,hu,e2⟩⟩:=hi.job hm
  obtain⟨n1,n2⟩:=hj hm
  obtain⟨a,hal,rfl⟩:=bH hs
  obtain⟨b,hbl,rfl⟩:=bH hu
  exact⟨j1,⟨_,ew.2 ⟨a,hal,fun e=>n1 (by rw[←e];exact e1),rfl⟩,e1⟩,⟨_,ew.2 ⟨b,hbl,fun e=>n2 (by rw[←e];exact e2),rfl⟩,e2⟩⟩
theorem ef.dropL {h:ac} {E:List Int} {i k:Nat} (hi:ef h E) (li:i<h.Objs.length) (lk:k<h.Larges.length) (ea:(nth h.Objs i).Addr=16*(nth h.Larges k).Page) :
  ∃ o,bX (eP h) h.Free ⟨(nth h.Larges k).Page,(nth h.Larges k).Pages⟩ = some o∧ef {h with Kernel:=gd h.Kernel (nth h.Larges k).Page (nth h.Larges k).Pages.toNat,Larges:=dele h.Larges k,Free:=o,Objs:=dele h.Objs i} E:=by
 have hL:=hi.L
 have hf:=bn (hL.lok _ (ay lk))
 have hmem:∀ q,q∈pgs h.Spans (dele h.Larges k)↔q∈pgs h.Spans h.Larges∧¬((nth h.Larges k).Page≤q∧q<(nth h.Larges k).Page+((nth h.Larges k).Pages.toNat:Nat)):=fun q=>by
  rw[rF,rF]
  constructor
  ·rintro(⟨s,hs,rfl⟩|⟨l,hl,hq⟩)
   ·refine⟨.inl ⟨s,hs,rfl⟩,fun e=>hL.dis s hs _ (ay lk) (s.Page - (nth h.Larges k).Page).toNat (by omega) (by omega)⟩
   ·obtain⟨j,hjl,hji,rfl⟩:=ew.1 hl
    refine⟨.inr ⟨_,ay hjl,hq⟩,fun e=>?_⟩
    obtain⟨m,hm,rfl⟩:=ey.1 hq
    exact hji (hL.one j k hjl lk m ((nth h.Larges j).Page+(m:Int) - (nth h.Larges k).Page).toNat hm (by omega) (by omega))
  ·rintro⟨⟨s,hs,rfl⟩|⟨l,hl,hq⟩,hne⟩
   ·exact .inl ⟨s,hs,rfl⟩
   ·obtain⟨j,hjl,rfl⟩:=bH hl
    refine .inr ⟨_,ew.2 ⟨j,hjl,fun e=>hne ?_,rfl⟩,hq⟩
    subst e
    obtain⟨m,hm,rfl⟩:=ey.1 hq
    omega
 obtain⟨o,o1,o2,o3,o4,o5⟩:=sT hi (sp:=h.Spans) (la:=dele h.Larges k) (p:=(nth h.Larges k).Page) (n:=(nth h.Larges k).Pages.toNat) (by omega) (List.Sublist.refl _) (ez ..) (fun q q1 q2=>kJ (ay lk) (ey.2 ⟨(q - (nth h.Larges k).Page).toNat,by omega,by omega⟩)) hf.2.2.1 hmem
 rw[Int.toNat_of_nonneg (by omega)]at o1
 have hp:(E++holders h).Perm ((nth h.Objs i).Addr::(E++holders {h with Objs:=dele h.Objs i})):=by
  have h0:=(vg li).map (·.Addr)
  refine List.perm_iff_count.2 fun a=>?_
  have h1:=h0.count_eq a
  simp only[List.map_cons,List.count_cons]at h1
  simp only[holders,eY,List.count_append,List.count_cons]
  omega
 have hnd:=hp.nodup_iff.1 hi.nd
 obtain⟨hna,hnd⟩:=List.nodup_cons.1 hnd
 have hmm:∀ b,(b=(nth h.Objs i).Addr∨b∈E++holders {h with Objs:=dele h.Objs i})↔Live h.Spans h.Larges b:=fun b=>by rw[←hi.mem b,hp.mem_iff,List.mem_cons]
 have hne:∀ b,b∈E++holders {h with Objs:=dele h.Objs i}→b≠(nth h.Objs i).Addr:=fun b hb e=>hna (by rw[←e];exact hb)
 refine⟨o,o1,{hi with
   ker:=o2
   rng:=o3
   lay:=o4
   srl:=hi.srl.sublist (ez ..)
   pg:=o5
   osr:=hi.osr.sublist (ez ..)
   onu:=fun ob ho=>hi.onu ob ((ez ..).subset ho)
   oid:=hi.oid.sublist ((ez ..).map _)
   oow:=fun ob ho=>?_
   nd:=hnd
   mem:=fun b=>?_}⟩
 ·rcases hi.oow ob ((ez ..).subset ho) with h1|⟨l,hl,e1,e2⟩
  ·exact .inl h1
  ·obtain⟨j,hjl,rfl⟩:=bH hl
   refine .inr ⟨_,ew.2 ⟨j,hjl,fun e=>?_,rfl⟩,e1,e2⟩
   subst e
   refine hne ob.Addr (List.mem_append.2 (.inr ?_)) (by rw[ea];exact e1)
   unfold holders;simp only[List.mem_append];exact .inl (.inl (.inl (List.mem_map.2 ⟨ob,ho,rfl⟩)))
 ·constructor
  ·intro hb
   rcases(hmm b).1 (.inr hb) with h1|⟨l,hl,rfl⟩
   ·exact .inl h1
   ·obtain⟨j,hjl,rfl⟩:=bH hl
    exact .inr ⟨_,ew.2 ⟨j,hjl,fun e=>hne _ hb (by rw[ea,e]),rfl⟩,rfl⟩
  ·rintro(h1|⟨l,hl,rfl⟩)
   ·refine((hmm b).2 (.inl h1)).resolve_left fun e=>?_
    obtain⟨s,hs,⟨g1,g2,-⟩,-⟩:=h1
    exact(xA hL (ay lk)).1 s hs (by rw[e,ea]at g1 g2;exact⟨g1,g2⟩)
   ·obtain⟨j,hjl,hji,rfl⟩:=ew.1 hl
    refine((hmm _).2 (.inr ⟨_,ay hjl,rfl⟩)).resolve_left fun e=>hji ?_
    have g1:=bn (hL.lok _ (ay hjl))
    rw[ea]at e
    exact hL.one j k hjl lk 0 0 (by omega) (by omega) (by omega)
end Go.Proofs.YtogajjgmcnjkbaaGreat.Ab
