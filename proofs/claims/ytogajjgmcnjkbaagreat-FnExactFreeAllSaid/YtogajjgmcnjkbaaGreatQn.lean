/- FnExactFreeAll, walked. No condition. -/
import Derived.Test.YtogajjgmcnjkbaaGreatMu
import Derived.Test.YtogajjgmcnjkbaaGreatMk
import Derived.Test.YtogajjgmcnjkbaaGreatMl
namespace Go.Proofs.YtogajjgmcnjkbaaGreat.Ab
open Go.RowKit
set_option maxRecDepth 20000
set_option maxHeartbeats 4000000
theorem uq (k:Int):bm Tryz.prog 58 false [.mut none [.s .imm []],.val none [I k]] [.mut none [.s .imm []],.val none []] .one [I (k+(bB []:Nat))]:=by
 refine bL (n:=34) (mo:=[]) (tb:=[]) [(0,0),(0,0)] Tryz.func58 (by kernel_rfl) rfl (by kernel_rfl) (by rfl) (by rfl) (.inr ⟨trivial,trivial⟩) fun u p=>?_
 repeat'((conv=>whnf);first|with_reducible (first|refine Lm ?_|refine Wm (by omega) ?_|refine Bn ?_|refine Fm rfl ?_)|refine Bt ?_|refine Bu ?_)
 (conv=>whnf)
 refine Lp.mk (ι:=Unit) (fun _=>[(0,.hold .one [.s .imm []]),(1,.hold .one [I k]),(5,.hold .one [I 0])]) (fun _=>True) (fun _=>0) () ?_ trivial fun _ _=>?_
 ·repeat'(first|exact trivial|rfl|refine And.intro ?_ ?_|(exact bQ (by first|omega|(simp only;omega)|(simp;omega))))
 ·repeat'((conv=>whnf);first|with_reducible (first|refine Lm ?_|refine Wm (by omega) ?_|refine dF (by omega) (fun hq=>?_)|refine Bn ?_|refine Fm rfl ?_)|refine Bt ?_|refine Bu ?_|refine Ln.mk (show List.length []=0 from rfl) ?_)
  refine cY.mk rfl ?_ ?_
  ·exact congrArg (fun z=>[I z]) (by simp[bB])
  ·repeat'(first|exact trivial|rfl|refine And.intro ?_ ?_|(exact bQ (by first|omega|(simp only;omega)|(simp;omega))))
theorem sO (k:Int):bm Tryz.prog 59 false [.mut none [.s .imm []],.val none [I k]] [.mut none [.s .imm []],.val none []] .one [I (k+(bx []:Nat))]:=by
 refine bL (n:=34) (mo:=[]) (tb:=[]) [(0,0),(0,0)] Tryz.func59 (by kernel_rfl) rfl (by kernel_rfl) (by rfl) (by rfl) (.inr ⟨trivial,trivial⟩) fun u p=>?_
 repeat'((conv=>whnf);first|with_reducible (first|refine Lm ?_|refine Wm (by omega) ?_|refine Bn ?_|refine Fm rfl ?_)|refine Bt ?_|refine Bu ?_)
 (conv=>whnf)
 refine Lp.mk (ι:=Unit) (fun _=>[(0,.hold .one [.s .imm []]),(1,.hold .one [I k]),(5,.hold .one [I 0])]) (fun _=>True) (fun _=>0) () ?_ trivial fun _ _=>?_
 ·repeat'(first|exact trivial|rfl|refine And.intro ?_ ?_|(exact bQ (by first|omega|(simp only;omega)|(simp;omega))))
 ·repeat'((conv=>whnf);first|with_reducible (first|refine Lm ?_|refine Wm (by omega) ?_|refine dF (by omega) (fun hq=>?_)|refine Bn ?_|refine Fm rfl ?_)|refine Bt ?_|refine Bu ?_|refine Ln.mk (show List.length []=0 from rfl) ?_)
  refine cY.mk rfl ?_ ?_
  ·exact congrArg (fun z=>[I z]) (by simp[bx])
  ·repeat'(first|exact trivial|rfl|refine And.intro ?_ ?_|(exact bQ (by first|omega|(simp only;omega)|(simp;omega))))
theorem xh (k:Int):bm Tryz.prog 60 false [.mut none [.s .imm []],.val none [I k]] [.mut none [.s .imm []],.val none []] .one [I (k+(cB []:Nat))]:=by
 refine bL (n:=41) (mo:=[]) (tb:=[]) [(0,0),(0,0)] Tryz.func60 (by kernel_rfl) rfl (by kernel_rfl) (by rfl) (by rfl) (.inr ⟨trivial,trivial⟩) fun u p=>?_
 repeat'((conv=>whnf);first|with_reducible (first|refine Lm ?_|refine Wm (by omega) ?_|refine Bn ?_|refine Fm rfl ?_)|refine Bt ?_|refine Bu ?_)
 (conv=>whnf)
 refine Lp.mk (ι:=Unit) (fun _=>[(0,.hold .one [.s .imm []]),(1,.hold .one [I k]),(5,.hold .one [I 0])]) (fun _=>True) (fun _=>0) () ?_ trivial fun _ _=>?_
 ·repeat'(first|exact trivial|rfl|refine And.intro ?_ ?_|(exact bQ (by first|omega|(simp only;omega)|(simp;omega))))
 ·repeat'((conv=>whnf);first|with_reducible (first|refine Lm ?_|refine Wm (by omega) ?_|refine dF (by omega) (fun hq=>?_)|refine Bn ?_|refine Fm rfl ?_)|refine Bt ?_|refine Bu ?_|refine Ln.mk (show List.length []=0 from rfl) ?_)
  refine cY.mk rfl ?_ ?_
  ·exact congrArg (fun z=>[I z]) (by simp[cB])
  ·repeat'(first|exact trivial|rfl|refine And.intro ?_ ?_|(exact bQ (by first|omega|(simp only;omega)|(simp;omega))))
theorem B1 (x:ac) (k:Int) (hs:ac.sml x) (h0:0≤k) (h1:k+(ac.cnt x:Nat)≤1099511627776):bm Tryz.prog 11 false [.mut (some 24) (fh x),.val none [I k]] [.mut (some 24) (fh (x.mark k)),.val none []] .one [I (k+(ac.cnt x:Nat))]:=by
 obtain⟨s0,s1,s2,s3,s4,s5,s6,s7,s8⟩:=hs
 obtain⟨xK,xF,xS,xL,xO,xC,xM,xQ,z1,z2,z3,z4,z5,xJ⟩:=x
 simp only[ac.cnt]at h1
 simp only at s0 s1 s2 s3 s4 s5 s6 s7 s8
 rcases xS with _|⟨sh,xS⟩<;>rcases xL with _|⟨lh,xL⟩<;>rcases xO with _|⟨oh,xO⟩
 all_goals
  refine bL (n:=42) (mo:=[(64,[1,0]),(56,[1,0]),(62,[1,0]),(63,[1,0]),(61,[1,0]),(59,[1,0]),(60,[1,0]),(57,[1,0]),(58,[1,0])]) (tb:=[]) [(2,0),(0,0)] Tryz.func11 (by kernel_rfl) rfl (by kernel_rfl) (by rfl) (by rfl) (.inr ⟨trivial,trivial⟩) fun u p=>?_
  repeat'((conv=>whnf);first|with_reducible (first|refine Lm ?_|refine Wm (by omega) ?_|refine Bn ?_|refine Fm rfl ?_)|refine Bt ?_|refine Bu ?_|refine dZ.mk (nt xK _ s0 (by omega) (by omega)) (.inl rfl) ?_|refine dZ.mk (nO xF _ s1 (by omega) (by omega)) (.inl rfl) ?_|refine dZ.mk (uq _) (.inl rfl) ?_|refine dZ.mk (p9 (sh::xS) _ s2 (by omega) (by omega)) (.inl rfl) ?_|refine dZ.mk (sO _) (.inl rfl) ?_|refine dZ.mk (nw (lh::xL) _ s3 (by omega) (by omega)) (.inl rfl) ?_|refine dZ.mk (xh _) (.inl rfl) ?_|refine dZ.mk (qV (oh::xO) _ s4 (by omega) (by omega)) (.inl rfl) ?_|refine dZ.mk (n7 xC _ s5 (by omega) (by omega)) (.inl rfl) ?_|refine dZ.mk (qS xM _ s6 (by omega) (by omega)) (.inl rfl) ?_|refine dZ.mk (qJ xQ _ s7 (by omega) (by omega)) (.inl rfl) ?_|refine dZ.mk (sN xJ _ s8 (by omega) (by omega)) (.inl rfl) ?_|refine cY.mk rfl ?_ ?_)
  ·exact congrArg (fun z=>[I z]) (by simp only[ac.cnt];omega)
  ·repeat'(first|exact trivial|exact rfl|refine And.intro ?_ ?_)
theorem y7 {h:ac} {t:Int} (hs:ac.sml h):ac.sml (gy h t).1:=by
 cases e:fe h t with
 | false=>rw[eW e];exact hs
 | true=>
  rw[jL e]
  unfold fe at e
  simp only[Bool.and_eq_true,decide_eq_true_eq]at e
  have hi:=ef.of e.1
  exact(FA.of hi (t:=t.toNat) (by omega) _ (Nat.le_refl _)).sml hs
theorem yg {h:ac} {t:Int} (hc:ac.cnt h≤8388608):ac.cnt (gy h t).1≤8400000:=by
 cases e:fe h t with
 | false=>rw[eW e];simp only;omega
 | true=>
  rw[jL e]
  unfold fe at e
  simp only[Bool.and_eq_true,decide_eq_true_eq]at e
  have hi:=ef.of e.1
  have f:=FA.of hi (t:=t.toNat) (by omega) _ (Nat.le_refl _)
  have h1:=f.inv.lens.cnt
  rw[f.mail,f.job]at h1
  have h2:aG.cnt h.Mail+bq.cnt h.Job≤ac.cnt h:=by unfold ac.cnt;omega
  omega
theorem Jn (h:ac):oS h=.s .own (h.Spans.map (am.enc .own))∨oS h=.s .imm []:=by rcases pz (rows:=h.Spans.map (am.enc .own)) with e|⟨e1,e2⟩;exact .inl e;exact .inr e2
theorem Jl (h:ac):oO h=.s .own (h.Objs.map (aM.enc .own))∨oO h=.s .imm []:=by rcases pz (rows:=h.Objs.map (aM.enc .own)) with e|⟨e1,e2⟩;exact .inl e;exact .inr e2
theorem H7 (h:ac):oL h=.s .own (h.Larges.map (ah.enc .own))∨oL h=.s .imm []:=by rcases pz (rows:=h.Larges.map (ah.enc .own)) with e|⟨e1,e2⟩;exact .inl e;exact .inr e2
theorem FreeAll_law (h:ac) (t:Int) (hw:ac.wf h):af Tryz.prog 4 false [.val (some 24) (ac.enc .imm h),.val none [I t]] .one [B true]:=by
 by_cases hz:(ac.sz h:Int)≤1048576
 ·have hs:=ac.sml_of (x:=h) (by omega)
  have hc:=ac.cnt_le h
  have ds:=y7 (t:=t) hs
  have dc:=yg (h:=h) (t:=t) (by omega)
  have cs:=x6 h t hs hw
  have ci:=wl h t hs
  generalize gy h t=d at ds dc cs ci
  obtain⟨d,n⟩:=d
  simp only at ds dc cs ci
  have hm:=B1 d 1 ds (by omega) (by omega)
  have hz1:=lF d
  have hzE:fh d=cE d (oS d) (oL d) (oO d):=rfl
  rw[hzE]at hm hz1 ci
  rcases Jn d with e6|e6<;>rcases H7 d with e7|e7<;>rcases Jl d with e8|e8
  all_goals
   rw[e6,e7,e8]at hm hz1 ci
   refine nn (n:=101) (mo:=[(11,[1,0])]) (tb:=[(10,3,[45,46,47])]) Tryz.func4 (by kernel_rfl) rfl (by kernel_rfl) (by rfl) (.inr ⟨trivial,trivial⟩) ?_
   repeat'((conv=>whnf);first|with_reducible (first|refine Lm ?_|refine Wm (by omega) ?_|refine dF (by omega) (fun hq=>?_)|refine Bf.D (fun hq=>?_) (fun hq=>absurd rfl hq)|refine Bf.N (fun hq=>absurd rfl hq) (fun hq=>?_)|refine Bn ?_|refine Fm rfl ?_)|refine Bt ?_|refine Bu ?_|refine Cl.sz (vB h _ (by omega) (by omega) hw) (fun hq=>absurd hq (by omega)) (fun hq=>?_)|refine Cl.mk (Et h hs) ?_|refine Cl.eq (cs) ⟨⟨rfl,ac.enc_fz h⟩,⟨rfl,rfl⟩,trivial⟩ ?_|refine Cl.eq (ci) ⟨⟨rfl,ac.enc_fz h⟩,⟨rfl,rfl⟩,trivial⟩ ?_|refine Cl.eq (vf d d ds) ⟨⟨rfl,hz1⟩,⟨rfl,ac.enc_fz d⟩,trivial⟩ ?_|refine Cl.eq (vf h h hs) ⟨⟨rfl,ac.enc_fz h⟩,⟨rfl,ac.enc_fz h⟩,trivial⟩ ?_|refine dZ.mk (zM h 1 hs (by omega) (by omega)) (.inl rfl) ?_|refine dZ.mk (hm) (.inl rfl) ?_|refine Cl.eq (yp d 1 ds (by omega) (by omega)) ⟨⟨rfl,lF (d.mark 1)⟩,⟨rfl,rfl⟩,trivial⟩ ?_)
   all_goals rfl
 ·refine nn (n:=101) (mo:=[(11,[1,0])]) (tb:=[(10,3,[45,46,47])]) Tryz.func4 (by kernel_rfl) rfl (by kernel_rfl) (by rfl) (.inr ⟨trivial,trivial⟩) ?_
  repeat'((conv=>whnf);first|with_reducible (first|refine Lm ?_|refine Wm (by omega) ?_|refine dT (by omega) (fun hq=>?_)|refine Bn ?_|refine Fm rfl ?_)|refine Bt ?_|refine Bu ?_|refine Cl.sz (vB h _ (by omega) (by omega) hw) (fun hq=>?_) (fun hq=>absurd hq (by omega)))
  rfl
end Go.Proofs.YtogajjgmcnjkbaaGreat.Ab
