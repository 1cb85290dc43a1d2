/- FnExactScriptFacts: for every input the law returns true, and the input reads as before. No condition. -/
import Derived.Test.YtfdfgipemcbekaaGreatDoorKTd
import Derived.Test.YtfdfgipemcbekaaGreatDoorKTj
import Derived.Test.YtfdfgipemcbekaaGreatDoorKTFacts
import Derived.Test.YtfdfgipemcbekaaGreatDoorRows
import Derived.Test.YtfdfgipemcbekaaGreatDoorCards
import Derived.Test.YtfdfgipemcbekaaGreatDoorHdM
import Derived.WalkKit
import Derived.ProofKit
import Derived.OpenShut
import Derived.ShutString
import Derived.ChangeOld
namespace Go.Proofs.YtfdfgipemcbekaaGreatDoor.fnExactScriptFacts
open Go.ChangeShapes Go.WideShapes Go.ChangeAt Go.RowKit
open Go.ChangeMaps (open_string shut_string)
set_option linter.unusedVariables false
set_option maxRecDepth 100000 in
theorem lifted (os:Os) (started:os.Started) (H:Type) (enc:TypeId × Value→H) :
  ReturnsInHanded {} Tryz.checked os 3 .any (fun w args=>(Rows.fnExactScriptFactsSpec.pre enc Tryz.prog Tryz.f3 [] false w args∧laidMetH Tryz.prog Tb2.laid2 w)∧sizedMet enc Tryz.prog Tryz.f3 (OpenSpec.ofChange Rows.fnExactScriptFactsSpec) false w args)
   (Rows.fnExactScriptFactsSpec.post enc Tryz.prog Tryz.f3 false true false false):=by
 refine Hd.returnsInHanded_of_change_both (C:=Tryz.checked) (X:=fun w _=>laidMetH Tryz.prog Tb2.laid2 w) (fun _ _ _ hh h=>h.of_heap hh) own started (by kernel_rfl) Tryz.func3
  (ChangeSpec.witness_at (enc:=enc) (C:=Tryz.checked) (os:=os) (X:=fun w _=>laidMetH Tryz.prog Tb2.laid2 w) false (Tb2.laidWorld os #[]) #[.agg #[.int .i64 0,.int .i64 0,.int .i64 0,.int .i64 0,.slice none 0 0],.string ByteArray.empty] 8 rfl (by kernel_rfl) (by kernel_rfl) (by kernel_rfl) (by kernel_rfl) (by kernel_rfl) (Tb2.laidWorld_met os _)) ?_
 intro W base args ds gs before hval0 hW hcnd _ hL hsh _;have hv:=Tbl.max_shaped hsh;have hval:∀ (j:Nat) t v,Tryz.f3.params[j]? = some t→args[j]? = some v→Value.okWide Tryz.prog W .any base t v:=hval0
 have hW':=hW;obtain⟨p,q,hA0,hV,rfl,hfz,hnd⟩:=hW;have hA:DataW.TrodAll enc Tryz.prog W 0 (fun _=>true) true Tryz.f3.params.toList args.toList ds p:=hA0;rw[Tryz.params3]at hA hval;obtain⟨v0,vs0,d0,ds0,p0,q0,hargs,rfl,rfl,h0,rr0⟩:=trodAll_cons hA;obtain⟨v1,vs1,d1,ds1,p1,q1,rfl,rfl,rfl,h1,rr1⟩:=trodAll_cons rr0;obtain⟨rfl,rfl,rfl⟩:=trodAll_nil rr1;obtain rfl:args = #[v0,v1]:=by cases args;simp_all
 obtain⟨rfl,rfl⟩:=trodVars_none hV;have k0:=h0;have lt0:∀ x∈p0,x.block<W.heap.size:=by obtain⟨m,hm⟩:=k0;exact DataW.trod_lt m _ _ _ hm
 obtain⟨cs0,rfl,-⟩:=okWide_struct Tryz.underlying24 (hval 0 24 v0 rfl rfl);obtain⟨fu0,hf0⟩:=h0;obtain⟨hl0,a0,w0,l0,r0⟩:=Ab.op_DConf _ _ _ hf0;have k1:=h1;have lt1:∀ x∈p1,x.block<W.heap.size:=by obtain⟨m,hm⟩:=k1;exact DataW.trod_lt m _ _ _ hm
 obtain⟨a1,rfl,-,-,w1⟩:=open_string Tryz.underlying9 (hval 1 9 v1 rfl rfl) h1;clear hA0 hval0;refine((Ab.ScriptFacts_law a0 a1 w0).run W (Ab.ALL W) [.agg cs0,.string a1] ⟨fun _ _ h=>h,hv,fun o=>Tbl.max_lt hv⟩ ⟨Ab.valOk_agg hl0 l0 r0,⟨rfl,(fun _=>Value.string a1),rfl,Ab.row_one (.v _ _ rfl)⟩,trivial⟩).mono fun e W' ⟨v,he,hk,X,S1,_,_,_,hh,hrow⟩=>?_
 have hvt:v=.bool true:=Ab.row_val hrow;have bel:Below W.heap.size W W':=⟨hk.os,hk.tape,hk.output,hk.size,fun b hb=>hk.blk b hb (fun _ h=>h)⟩
 subst hvt he;exact⟨_,rfl,_,_,_,[],_,[],hW',trodAll_mk1 (shut_bool Tryz.underlying4 _),(trodAll_cons_mk (Below.trod laidOut (by kernel_rfl) (of_decide_eq_true (by kernel_rfl)) k0 bel lt0) (trodAll_cons_mk (Below.trod laidOut (by kernel_rfl) (of_decide_eq_true (by kernel_rfl)) k1 bel lt1) trodAll_mk0)),rfl,bel.frame _,fun h=>by cases h⟩
set_option maxRecDepth 100000 in
set_option maxHeartbeats 8000000 in
theorem over:Rows.fnExactScriptFactsRow.holds Tryz.pinned (OpenSpec.ofChange Rows.fnExactScriptFactsSpec):=
 OpenClaim.holds_of_wide 3 Tryz.f3 rfl rfl rfl rfl rfl rfl rfl ⟨rfl,rfl,rfl,rfl,rfl⟩ rfl rfl rfl rfl rfl (by kernel_rfl) Tryz.func3 facts
  (of_decide_eq_true (by kernel_rfl)) (by unfold Func.isWrapper;first|(rw[if_pos (by decide +kernel)];kernel_rfl)|(rw[if_neg (by decide +kernel)];exact⟨rfl,rfl⟩))
  (fun os started H enc _=>lifted os started H enc)
set_option maxRecDepth 100000 in
theorem wfT:Rows.fnExactScriptFactsRow.wfByText (OpenSpec.ofChange Rows.fnExactScriptFactsSpec)=true:=by kernel_rfl
theorem mainI : Tryz.pinned.checked.prog.mainIs = some (true, "5061d22d18ae33350b0bf05b41abf26cd39f511b49158cdfdc751b47bc2f321e".toList) := by kernel_rfl
theorem lks:false = Tryz.pinned.checked.prog.looks []:=by kernel_rfl
theorem goes_no{P:Program}(h:P.funcs.any Func.goes=false)(f:FuncId):P.goes f=false:=by
 have hg:∀g:FuncId,(P.funcs[g]?).any Func.goes=false:=fun g=>by
  cases e:P.funcs[g]? with
  |none=>rfl
  |some fn=>obtain⟨hg,rfl⟩:=Array.getElem?_eq_some_iff.1 e;rw[Array.any_eq_false]at h;simpa using h g hg
 unfold Program.goes;rw[h,Bool.and_false,Bool.or_false];simp[hg]
theorem goesBy_no{P:Program}(h:P.funcs.any Func.goes=false)(c:OpenClaim):false=c.goesBy P:=by
 have h1:=goes_no h;unfold OpenClaim.goesBy Program.goesAt Program.goesFrom;cases P.funcNamed c.func<;>cases c.start<;>simp[h1]
set_option maxRecDepth 100000 in
theorem gby:false = Rows.fnExactScriptFactsRow.goesBy Tryz.pinned.checked.prog:=goesBy_no (by kernel_rfl) _
theorem proved:Rows.FnExactScriptFactsCardSaid:=
 Claim7.holds_tied_plain_at .later [] [.data,.pinned] true (true, "5061d22d18ae33350b0bf05b41abf26cd39f511b49158cdfdc751b47bc2f321e") false
  over (fun _ h=>by cases h) wfT (fun _ h=>by cases h) fnExactScriptFacts_row_tie rfl ⟨rfl,rfl⟩ mainI rfl
  (fun f fn hf hfn=>by
    obtain rfl:f = 3:=Option.some.inj ((show Tryz.prog.funcNamed Rows.fnExactScriptFactsRow.func=some 3 by kernel_rfl).symm.trans hf) |>.symm
    obtain rfl:fn = Tryz.f3:=(Option.some.inj (Tryz.func3.symm.trans hfn)).symm;exact⟨lks,fun j t ht=>by
      have hall:(Tryz.f3.params.toList.all fun t=>!Tryz.prog.wantsStandIn t)=true:=by kernel_rfl
      have hm:t∈Tryz.f3.params.toList:=by
        rw[←Array.getElem?_toList]at ht;exact List.mem_of_getElem? ht
      have h2 : Tryz.prog.wantsStandIn t=false:=by simpa using List.all_eq_true.1 hall t hm
      exact h2⟩)
  gby
#print axioms proved
end Go.Proofs.YtfdfgipemcbekaaGreatDoor.fnExactScriptFacts
