/- FnReports: for every input the law returns true, and the input reads as before. No condition. -/
import Derived.Test.YtifeilefdakapaaGreatDoorKPd
import Derived.Test.YtifeilefdakapaaGreatDoorKPh
import Derived.Test.YtifeilefdakapaaGreatDoorKPFacts
import Derived.Test.YtifeilefdakapaaGreatDoorRows
import Derived.Test.YtifeilefdakapaaGreatDoorCards
import Derived.Test.YtifeilefdakapaaGreatDoorKPTab
import Derived.WalkKit
import Derived.ProofKit
import Derived.OpenShut
import Derived.ShutString
import Derived.ChangeOld
namespace Go.Proofs.YtifeilefdakapaaGreatDoor.fnReports
open Go.ChangeShapes Go.WideShapes Go.ChangeAt Go.RowKit
open Go.ChangeMaps (open_string shut_string)
set_option linter.unusedVariables false
set_option maxRecDepth 100000 in
theorem lifted (os:Os) (started:os.Started) (H:Type) (enc:TypeId × Value→H) :
  ReturnsInHanded {} Tryz.checked os 3 .any (fun w args=>(Rows.fnReportsSpec.pre enc Tryz.prog Tryz.f3 [] false w args∧laidMetH Tryz.prog Tb.laid3 w)∧sizedMet enc Tryz.prog Tryz.f3 (OpenSpec.ofChange Rows.fnReportsSpec) false w args)
   (Rows.fnReportsSpec.post enc Tryz.prog Tryz.f3 false true false false):=by
 refine returnsInHanded_of_change_and (C:=Tryz.checked) (X:=fun w _=>laidMetH Tryz.prog Tb.laid3 w) (fun _ _ _ hh h=>h.of_heap hh) own started (by kernel_rfl) Tryz.func3
  (ChangeSpec.witness_at (enc:=enc) (C:=Tryz.checked) (os:=os) (X:=fun w _=>laidMetH Tryz.prog Tb.laid3 w) false (Tb.laidWorld os #[]) #[.slice none 0 0] 8 rfl (by kernel_rfl) (by kernel_rfl) (by kernel_rfl) (by kernel_rfl) (by kernel_rfl) (Tb.laidWorld_met os _)) ?_
 intro W base args ds gs before hval0 hW hcnd _ hL _;have ht:Tbl.Tab W:=Tb.tab_of_laid hL;have hval:∀ (j:Nat) t v,Tryz.f3.params[j]? = some t→args[j]? = some v→Value.okWide Tryz.prog W .any base t v:=hval0
 have hW':=hW;obtain⟨p,q,hA0,hV,rfl,hfz,hnd⟩:=hW;have hA:DataW.TrodAll enc Tryz.prog W 0 (fun _=>true) true Tryz.f3.params.toList args.toList ds p:=hA0;rw[Tryz.params3]at hA hval;obtain⟨v0,vs0,d0,ds0,p0,q0,hargs,rfl,rfl,h0,r0⟩:=trodAll_cons hA;obtain⟨rfl,rfl,rfl⟩:=trodAll_nil r0;obtain rfl:args = #[v0]:=by cases args;simp_all
 obtain⟨rfl,rfl⟩:=trodVars_none hV;obtain⟨A0,n0,c0,rfl⟩:=okWide_slice Tryz.underlying22 (hval 0 22 v0 rfl rfl);have k0:=h0;have lt0:∀ x∈p0,x.block<W.heap.size:=by obtain⟨m,hm⟩:=k0;exact DataW.trod_lt m _ _ _ hm
 obtain⟨fu0,hf0⟩:=h0;obtain⟨hl0,a0,w0,l0,rr0⟩:=Ab.op_ByteS _ _ _ hf0;clear hA0 hval0;refine((Ab.Reports_law a0 w0).run W (Ab.ALL W) [.slice A0 n0 c0] ⟨fun _ _ h=>h,ht,fun o=>Tbl.tab_lt ht⟩ ⟨⟨l0,_,rfl,rr0⟩,trivial⟩).mono fun e W' ⟨v,he,hk,X,S1,_,_,_,hh,hrow⟩=>?_
 have hv:v=.bool true:=Ab.row_val hrow;have bel:Below W.heap.size W W':=⟨hk.os,hk.tape,hk.output,hk.size,fun b hb=>hk.blk b hb (fun _ h=>h)⟩
 subst hv he;exact⟨_,rfl,_,_,_,[],_,[],hW',trodAll_mk1 (shut_bool Tryz.underlying4 _),(trodAll_cons_mk (Below.trod laidOut (by kernel_rfl) (of_decide_eq_true (by kernel_rfl)) k0 bel lt0) trodAll_mk0),rfl,bel.frame _,fun h=>by cases h⟩
set_option maxRecDepth 100000 in
set_option maxHeartbeats 8000000 in
theorem over:Rows.fnReportsRow.holds Tryz.pinned (OpenSpec.ofChange Rows.fnReportsSpec):=
 OpenClaim.holds_of_wide 3 Tryz.f3 rfl rfl rfl rfl rfl rfl rfl ⟨rfl,rfl,rfl,rfl,rfl⟩ rfl rfl rfl rfl rfl (by kernel_rfl) Tryz.func3 facts
  (of_decide_eq_true (by kernel_rfl)) (by unfold Func.isWrapper;first|(rw[if_pos (by decide +kernel)];kernel_rfl)|(rw[if_neg (by decide +kernel)];exact⟨rfl,rfl⟩))
  (fun os started H enc _=>lifted os started H enc)
set_option maxRecDepth 100000 in
theorem wfT:Rows.fnReportsRow.wfByText (OpenSpec.ofChange Rows.fnReportsSpec)=true:=by kernel_rfl
theorem mainI : Tryz.pinned.checked.prog.mainIs = some (true, "d4191df1ed90712961218320f77c30eeb978889d2c71f9d97f1baead62fcbbe9".toList) := by kernel_rfl
theorem lks:false = Tryz.pinned.checked.prog.looks []:=by kernel_rfl
set_option maxRecDepth 100000 in
theorem gby:false=Rows.fnReportsRow.goesBy Tryz.pinned.checked.prog:=by kernel_rfl
theorem proved:Rows.FnReportsCardSaid:=
 Claim7.holds_tied_plain_at .later [] [.data, .data, .data] true (true, "d4191df1ed90712961218320f77c30eeb978889d2c71f9d97f1baead62fcbbe9") false
  over (fun _ h=>by cases h) wfT (fun _ h=>by cases h) fnReports_row_tie rfl ⟨rfl,rfl⟩ mainI rfl
  (fun f fn hf hfn=>by
    obtain rfl:f = 3:=Option.some.inj ((show Tryz.prog.funcNamed Rows.fnReportsRow.func=some 3 by kernel_rfl).symm.trans hf) |>.symm
    obtain rfl:fn = Tryz.f3:=(Option.some.inj (Tryz.func3.symm.trans hfn)).symm;exact⟨lks,fun j t ht=>by
      have hall:(Tryz.f3.params.toList.all fun t=>!Tryz.prog.wantsStandIn t)=true:=by kernel_rfl
      have hm:t∈Tryz.f3.params.toList:=by
        rw[←Array.getElem?_toList]at ht;exact List.mem_of_getElem? ht
      have h2 : Tryz.prog.wantsStandIn t=false:=by simpa using List.all_eq_true.1 hall t hm
      exact h2⟩)
  gby
#print axioms proved
end Go.Proofs.YtifeilefdakapaaGreatDoor.fnReports
