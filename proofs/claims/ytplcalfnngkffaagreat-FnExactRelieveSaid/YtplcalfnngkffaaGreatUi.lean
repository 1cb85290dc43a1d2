/- FnExactRelieve, walked. No condition. -/
import Derived.Test.YtplcalfnngkffaaGreatMg
import Derived.Test.YtplcalfnngkffaaGreatMm
import Derived.Test.YtplcalfnngkffaaGreatMn
import Derived.Test.YtplcalfnngkffaaGreatMo
set_option linter.unusedVariables false
namespace Go.Proofs.YtplcalfnngkffaaGreat.Ab
open Go.RowKit
set_option maxRecDepth 20000
set_option maxHeartbeats 4000000
theorem wY {h:ac} {m:Int} (hs:ac.sml h) (hw:ac.wf h) (e:qO h m=true):K3 (qx h h.Caches.length) m.toNat (cn (qx h h.Caches.length) m.toNat)∧(qx h h.Caches.length).Mail=h.Mail:=by
 unfold qO at e
 simp only[Bool.and_eq_true,decide_eq_true_eq]at e
 have hi:=df.of e.1
 have s:=vC hi h.Caches.length (Nat.le_refl _)
 exact⟨mQ s.inv (by rw[s.ref];exact hw.1.2.2) (by rw[s.mail];exact hs.2.2.2.2.2.2.1) _,s.mail⟩
theorem Dh {h:ac} {m:Int} (hs:ac.sml h) (hw:ac.wf h):ac.sml (relieve h m).1:=by
 unfold relieve
 split
 ·rename_i e;exact(wY hs hw e).1.fit.sml
 ·exact hs
theorem Bz {h:ac} {m:Int} (hs:ac.sml h) (hw:ac.wf h) (hc:ac.cnt h≤8388608):ac.cnt (relieve h m).1≤20000000:=by
 unfold relieve
 split
 ·rename_i e
  obtain⟨s,e2⟩:=wY hs hw e
  have h1:=s.fit.lens.cnt
  rw[s.mail,e2]at h1
  have h3:aZ.cnt (cn (qx h h.Caches.length) m.toNat).1.Job≤1048576:=by
   have h4:(cn (qx h h.Caches.length) m.toNat).1.Job.Plan.Cells.length≤1048576:=s.fit.sml.2.2.2.2.2.2.2.2
   unfold aZ.cnt aN.cnt dU
   omega
  have h2:aK.cnt h.Mail≤ac.cnt h:=by unfold ac.cnt;omega
  simp only
  omega
 ·simp only;omega
theorem Relieve_law (h:ac) (t:Int) (hw:ac.wf h):ah Tryz.prog 6 false [.val (some 24) (ac.enc .imm h),.val none [I t]] .one [B true]:=by
 by_cases hz:(ac.sz h:Int)≤1048576
 ·have hs:=ac.sml_of (x:=h) (by omega)
  have hc:=ac.cnt_le h
  have ds:=Dh (m:=t) hs hw
  have dc:=Bz (m:=t) hs hw (by omega)
  have cs:=A8 h t hs hw
  have ci:=Ht h t hs hw
  generalize relieve h t=d at ds dc cs ci
  obtain⟨d,n⟩:=d
  simp only at ds dc cs ci
  have hm:=Fs d 1 ds (by omega) (by omega)
  have hz1:=jY d
  have hzE:eN d=cE d (oS d) (oL d) (oO d):=rfl
  rw[hzE]at hm hz1 ci
  rcases N6 d with e6|e6<;>rcases Nf d with e7|e7<;>rcases N4 d with e8|e8
  all_goals
   rw[e6,e7,e8]at hm hz1 ci
   refine fP 101 [(27,[1,0])] [(10,3,[45,46,47])] Tryz.func6 rfl ?_
   repeat'(first|refine gD ?_|(conv=>whnf);first|with_reducible (first|refine Bf.D (fun hq=>?_) (fun hq=>absurd rfl hq)|refine Bf.N (fun hq=>absurd rfl hq) (fun hq=>?_))|refine Cl.sz (zd h _ (by omega) (by omega) hw) (fun hq=>absurd hq (by omega)) (fun hq=>?_)|refine Cl.mk (H6 h hs) ?_|refine Cl.eq (cs) ⟨⟨rfl,ac.enc_fz h⟩,⟨rfl,rfl⟩,trivial⟩ ?_|refine Cl.eq (ci) ⟨⟨rfl,ac.enc_fz h⟩,⟨rfl,rfl⟩,trivial⟩ ?_|refine Cl.eq (yQ d d ds) ⟨⟨rfl,hz1⟩,⟨rfl,ac.enc_fz d⟩,trivial⟩ ?_|refine Cl.eq (yQ h h hs) ⟨⟨rfl,ac.enc_fz h⟩,⟨rfl,ac.enc_fz h⟩,trivial⟩ ?_|refine er.mk (B2 h 1 hs (by omega) (by omega)) (.inl rfl) ?_|refine er.mk (hm) (.inl rfl) ?_|refine Cl.eq (E3 d 1 ds (by omega) (by omega)) ⟨⟨rfl,jY (d.mark 1)⟩,⟨rfl,rfl⟩,trivial⟩ ?_)
   all_goals rfl
 ·refine fP 101 [(27,[1,0])] [(10,3,[45,46,47])] Tryz.func6 rfl ?_
  repeat'(first|refine gD ?_|(conv=>whnf);first|refine Cl.sz (zd h _ (by omega) (by omega) hw) (fun hq=>?_) (fun hq=>absurd hq (by omega)))
  rfl
end Go.Proofs.YtplcalfnngkffaaGreat.Ab
