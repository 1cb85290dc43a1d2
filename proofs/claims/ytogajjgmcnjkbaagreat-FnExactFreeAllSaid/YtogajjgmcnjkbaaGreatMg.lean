/- Slots and addresses: whom an address belongs to; contracts of the functions that ask it, the reference's and the program's. No condition. -/
import Derived.Test.YtogajjgmcnjkbaaGreatMf
import Derived.Test.YtogajjgmcnjkbaaGreatMe
namespace Go.Proofs.YtogajjgmcnjkbaaGreat.Ab
open Go.RowKit
set_option maxRecDepth 20000
set_option maxHeartbeats 4000000
theorem aU {s:am} (h:b8 s=true):0≤s.Page∧s.Page≤31∧0≤s.Class∧s.Class≤3:=by
 unfold b8 at h;simp only[decide_eq_true_eq]at h;omega
theorem d2 {k:Int} (h:0≤k∧k≤3):csz k=1∨csz k=2∨csz k=4∨csz k=8:=by
 obtain rfl|rfl|rfl|rfl:k=0∨k=1∨k=2∨k=3:=by omega
 all_goals decide
theorem oT {x y:Int} (h:0≤x):x.tdiv y=x / y:=Int.tdiv_eq_ediv_of_nonneg h
theorem m5 {x y:Int} (h:0≤x):x.tmod y=x % y:=Int.tmod_eq_emod_of_nonneg h
def S2 (p:Int × Int):List C:=[I p.1,I p.2]
theorem vh {x1 x2:Int} {p:Int × Int} (h:(x1,x2)=p):[I x1,I x2]=S2 p:=by subst h;rfl
theorem qT (s:am) (a:Int) (ha:gz a):af Tryz.prog 294 false [.val (some 3) (am.enc .imm s),.val none [I a]] (.tup [none,none]) (S2 (gv s a)):=by
 have h1:=gZ s
 have h2:=gr s.Class
 obtain⟨ha1,ha2⟩:=ha
 cases e1:b8 s<;>rw[e1]at h1
 ·refine fO (n:=33) [(4,12,[23,24,25,26,27,28,29,30,31,32,4,5])] Tryz.func294 (by kernel_rfl) rfl (by kernel_rfl) (by rfl) (.inr ⟨trivial,trivial,trivial⟩) ?_
  repeat'((conv=>whnf);first|with_reducible (first|refine Lm ?_|refine Wm (by omega) ?_|refine Bn ?_|refine Fm rfl ?_)|refine Bt ?_|refine Bu ?_|refine Cl.mk h1 ?_)
  exact vh (by unfold gv cg;rw[e1];rfl)
 ·have hc:=aU e1
  have hz:=d2 ⟨hc.2.2.1,hc.2.2.2⟩
  by_cases hin:16*s.Page≤a∧a≤16*s.Page+15
  ·have h0:0≤a:=by omega
   refine fO (n:=33) [(4,12,[23,24,25,26,27,28,29,30,31,32,4,5])] Tryz.func294 (by kernel_rfl) rfl (by kernel_rfl) (by rfl) (.inr ⟨trivial,trivial,trivial⟩) ?_
   repeat'((conv=>whnf);first|with_reducible (first|refine Lm ?_|refine Wm (by omega) ?_|refine dF (by omega) (fun hq=>?_)|refine Bf.N (fun hq=>?_) (fun hq=>?_)|refine Bn ?_|refine Fm rfl ?_)|refine Bt ?_|refine Bu ?_|refine Cl.mk h1 ?_|refine Cl.mk h2 ?_|refine Cd.mk (by decide) ?_|refine Cd.mk (by omega) ?_|refine Wr.mk ((congrArg _ (oT h0)).trans (fV (by omega) (by omega))) ?_|refine Ev.mk (m5 h0) ?_|refine Wr.mk ((congrArg _ (oT (by omega))).trans (fV (by rcases hz with e|e|e|e<;>rw[e]<;>omega) (by rcases hz with e|e|e|e<;>rw[e]<;>omega))) ?_|refine Ev.mk (m5 (by omega)) ?_)
   all_goals first
    |(exfalso;omega)
    |exact vh (by unfold gv cg;rw[e1,decide_eq_true hin];show _=((a - 16*s.Page) / csz s.Class,(a - 16*s.Page) % csz s.Class);rw[show a % 16=a - 16*s.Page by omega])
  ·refine fO (n:=33) [(4,12,[23,24,25,26,27,28,29,30,31,32,4,5])] Tryz.func294 (by kernel_rfl) rfl (by kernel_rfl) (by rfl) (.inr ⟨trivial,trivial,trivial⟩) ?_
   repeat'((conv=>whnf);first|with_reducible (first|refine Lm ?_|refine Wm (by omega) ?_|refine Bf.D (fun hq=>?_) (fun hq=>?_)|refine Bf.N (fun hq=>?_) (fun hq=>?_)|refine Bn ?_|refine Fm rfl ?_)|refine Bt ?_|refine Bu ?_|refine Cl.mk h1 ?_|refine Cd.mk (by decide) ?_|refine Wr.mk ((congrArg _ (oT (by omega))).trans (fV (by omega) (by omega))) ?_)
   all_goals first
    |exact vh (by unfold gv cg;rw[e1,decide_eq_false hin];rfl)
    |(exfalso;omega)
theorem yS (s:am) (a:Int):af Tryz.prog 311 false [.val (some 3) (am.enc .imm s),.val none [I a]] (.tup [none,none]) (S2 (gv s a)):=by
 have h1:=fW s
 have h2:=dH s.Class
 cases e1:b8 s<;>rw[e1]at h1
 ·refine fO (n:=38) [(4,12,[28,29,30,31,32,33,34,35,36,37,4,5])] Tryz.func311 (by kernel_rfl) rfl (by kernel_rfl) (by rfl) (.inr ⟨trivial,trivial,trivial⟩) ?_
  repeat'((conv=>whnf);first|with_reducible (first|refine Lm ?_|refine Wm (by omega) ?_|refine Bn ?_|refine Fm rfl ?_)|refine Bt ?_|refine Bu ?_|refine Cl.mk h1 ?_)
  exact vh (by unfold gv cg;rw[e1];rfl)
 ·have hc:=aU e1
  have hz:=d2 ⟨hc.2.2.1,hc.2.2.2⟩
  by_cases hin:16*s.Page≤a∧a≤16*s.Page+15
  ·refine fO (n:=38) [(4,12,[28,29,30,31,32,33,34,35,36,37,4,5])] Tryz.func311 (by kernel_rfl) rfl (by kernel_rfl) (by rfl) (.inr ⟨trivial,trivial,trivial⟩) ?_
   repeat'((conv=>whnf);first|with_reducible (first|refine Lm ?_|refine Wm (by omega) ?_|refine dT (by omega) (fun hq=>?_)|refine dF (by omega) (fun hq=>?_)|refine Bf.D (fun hq=>?_) (fun hq=>?_)|refine Bn ?_|refine Fm rfl ?_)|refine Bt ?_|refine Bu ?_|refine Cl.mk h1 ?_|refine Cl.mk h2 ?_|refine Cl.mk (aH _ _ _) ?_|refine Cd.mk (by omega) ?_|refine Wr.mk ((congrArg _ (oT (by omega))).trans (fV (by rcases hz with e|e|e|e<;>rw[e]<;>omega) (by rcases hz with e|e|e|e<;>rw[e]<;>omega))) ?_|refine Ev.mk (m5 (by omega)) ?_)
   all_goals exact vh (by unfold gv cg;rw[e1,decide_eq_true hin];show _=((a - 16*s.Page) / csz s.Class,(a - 16*s.Page) % csz s.Class);rw[show a - s.Page*16=a - 16*s.Page by omega])
  ·refine fO (n:=38) [(4,12,[28,29,30,31,32,33,34,35,36,37,4,5])] Tryz.func311 (by kernel_rfl) rfl (by kernel_rfl) (by rfl) (.inr ⟨trivial,trivial,trivial⟩) ?_
   repeat'((conv=>whnf);first|with_reducible (first|refine Lm ?_|refine Wm (by omega) ?_|refine dT (by omega) (fun hq=>?_)|refine dF (by omega) (fun hq=>?_)|refine Bf.D (fun hq=>?_) (fun hq=>?_)|refine Bn ?_|refine Fm rfl ?_)|refine Bt ?_|refine Bu ?_|refine Cl.mk h1 ?_|refine Cl.mk (aH _ _ _) ?_)
   all_goals exact vh (by unfold gv cg;rw[e1,decide_eq_false hin];rfl)
theorem pQ (b i:Int):af Tryz.prog 347 false [.val none [I b],.val none [I i]] .one [B (decide (0≤b∧0≤i∧i≤15))]:=by
 refine fO (n:=11) [] Tryz.func347 (by kernel_rfl) rfl (by kernel_rfl) (by rfl) (.inr ⟨trivial,trivial⟩) ?_
 repeat'((conv=>whnf);first|with_reducible (first|refine Lm ?_|refine Wm (by omega) ?_|refine Bf.D (fun hq=>?_) (fun hq=>?_)|refine Bn ?_|refine Fm rfl ?_)|refine Bt ?_|refine Bu ?_|refine Cl.mk (aP _ 0 15) ?_)
 all_goals exact congrArg (fun z=>[B z]) ((by first|(symm;exact decide_eq_false (by omega))|exact decide_eq_decide.2 (by omega)))
theorem pF (b i:Int):af Tryz.prog 352 false [.val none [I b],.val none [I i]] .one [B (decide (0≤b∧0≤i∧i≤15))]:=by
 refine fO (n:=11) [] Tryz.func352 (by kernel_rfl) rfl (by kernel_rfl) (by rfl) (.inr ⟨trivial,trivial⟩) ?_
 repeat'((conv=>whnf);first|with_reducible (first|refine Lm ?_|refine Wm (by omega) ?_|refine Bf.D (fun hq=>?_) (fun hq=>?_)|refine Bn ?_|refine Fm rfl ?_)|refine Bt ?_|refine Bu ?_|refine Cl.mk (aH _ 0 15) ?_)
 all_goals exact congrArg (fun z=>[B z]) ((by first|(symm;exact decide_eq_false (by omega))|exact decide_eq_decide.2 (by omega)))
theorem Gf {b i:Int} (hb:0≤b∧b≤9223372036854775807) (hi:0≤i∧i≤15):b.fdiv (2 ^ min i.toNat IntKind.i64.bits)=b / 2 ^ i.toNat∧0≤b / 2 ^ i.toNat∧b / 2 ^ i.toNat≤9223372036854775807:=by
 have h1:min i.toNat IntKind.i64.bits=i.toNat:=Nat.min_eq_left (show i.toNat≤64 by omega)
 rw[h1]
 have h2:(0:Int)≤2 ^ i.toNat:=Int.pow_nonneg (by decide)
 refine⟨Int.fdiv_eq_ediv_of_nonneg _ h2,Int.ediv_nonneg hb.1 h2,?_⟩
 have:=Int.ediv_le_self (2 ^ i.toNat:Int) hb.1
 omega
theorem th {b i:Int} (hb:0≤b) (hi:0≤i∧i≤15):((((b / 2 ^ i.toNat).toNat &&& (1:Int).toNat:Nat):Int) == 1)=cy b i:=by
 have h2:(0:Int)≤b / 2 ^ i.toNat:=Int.ediv_nonneg hb (Int.pow_nonneg (by decide))
 have h3:(b / 2 ^ i.toNat).toNat &&& (1:Int).toNat=(b / 2 ^ i.toNat).toNat % 2:=Nat.and_one_is_mod _
 rw[h3]
 unfold cy
 generalize b / 2 ^ i.toNat=q at h2 ⊢
 rw[Bool.eq_iff_iff,beq_iff_eq,decide_eq_true_eq]
 omega
theorem pB (b i:Int) (hb:b≤9223372036854775807):af Tryz.prog 295 false [.val none [I b],.val none [I i]] .one [B (cy b i)]:=by
 by_cases h:0≤b∧0≤i∧i≤15
 ·obtain⟨s1,s2⟩:=Gf (b:=b) (i:=i) ⟨h.1,hb⟩ h.2
  have hw:IntKind.u64.wrap i=i:=by unfold IntKind.wrap;simp[IntKind.signed,IntKind.bits];omega
  refine fO (n:=16) [] Tryz.func295 (by kernel_rfl) rfl (by kernel_rfl) (by rfl) (.inr ⟨trivial,trivial⟩) ?_
  repeat'((conv=>whnf);first|with_reducible (first|refine Lm ?_|refine Wm (by omega) ?_|refine dT (by omega) (fun hq=>?_)|refine dF (by omega) (fun hq=>?_)|refine Bf.D (fun hq=>?_) (fun hq=>?_)|refine Bn ?_|refine Fm rfl ?_)|refine Bt ?_|refine Bu ?_|refine Cl.mk (pQ _ _) ?_|refine Cd.mk (by omega) ?_|refine Wr.mk hw ?_|refine Ev.mk s1 ?_|refine Wr.mk (and64 s2 ⟨by decide,by decide⟩) ?_)
  all_goals exact congrArg (fun z=>[B z]) ((th h.1 h.2))
 ·refine fO (n:=16) [] Tryz.func295 (by kernel_rfl) rfl (by kernel_rfl) (by rfl) (.inr ⟨trivial,trivial⟩) ?_
  repeat'((conv=>whnf);first|with_reducible (first|refine Lm ?_|refine Wm (by omega) ?_|refine dT (by omega) (fun hq=>?_)|refine dF (by omega) (fun hq=>?_)|refine Bf.D (fun hq=>?_) (fun hq=>?_)|refine Bn ?_|refine Fm rfl ?_)|refine Bt ?_|refine Bu ?_|refine Cl.mk (pQ _ _) ?_)
  all_goals exact congrArg (fun z=>[B z]) ((by unfold cy;symm;exact decide_eq_false fun e=>h ⟨e.1,e.2.1,e.2.2.1⟩))
theorem lM (b i:Int) (hb:b≤9223372036854775807):af Tryz.prog 312 false [.val none [I b],.val none [I i]] .one [B (cy b i)]:=by
 by_cases h:0≤b∧0≤i∧i≤15
 ·obtain⟨s1,s2⟩:=Gf (b:=b) (i:=i) ⟨h.1,hb⟩ h.2
  refine fO (n:=15) [] Tryz.func312 (by kernel_rfl) rfl (by kernel_rfl) (by rfl) (.inr ⟨trivial,trivial⟩) ?_
  repeat'((conv=>whnf);first|with_reducible (first|refine Lm ?_|refine Wm (by omega) ?_|refine dT (by omega) (fun hq=>?_)|refine dF (by omega) (fun hq=>?_)|refine Bf.D (fun hq=>?_) (fun hq=>?_)|refine Bn ?_|refine Fm rfl ?_)|refine Bt ?_|refine Bu ?_|refine Cl.mk (pF _ _) ?_|refine Cd.mk (by omega) ?_|refine Ev.mk s1 ?_|refine Wr.mk (and64 s2 ⟨by decide,by decide⟩) ?_)
  all_goals exact congrArg (fun z=>[B z]) ((th h.1 h.2))
 ·refine fO (n:=15) [] Tryz.func312 (by kernel_rfl) rfl (by kernel_rfl) (by rfl) (.inr ⟨trivial,trivial⟩) ?_
  repeat'((conv=>whnf);first|with_reducible (first|refine Lm ?_|refine Wm (by omega) ?_|refine dT (by omega) (fun hq=>?_)|refine dF (by omega) (fun hq=>?_)|refine Bf.D (fun hq=>?_) (fun hq=>?_)|refine Bn ?_|refine Fm rfl ?_)|refine Bt ?_|refine Bu ?_|refine Cl.mk (pF _ _) ?_)
  all_goals exact congrArg (fun z=>[B z]) ((by unfold cy;symm;exact decide_eq_false fun e=>h ⟨e.1,e.2.1,e.2.2.1⟩))
theorem dS {l:ah} (h:cS l=true):9≤l.Size∧l.Size≤1000∧0≤l.Page∧l.Page≤31:=by
 unfold cS at h;simp only[decide_eq_true_eq]at h;omega
theorem nL (l:ah) (a:Int):af Tryz.prog 296 false [.val (some 3) (ah.enc .imm l),.val none [I a]] .one [B (bi l a)]:=by
 have h1:=pk l
 cases e1:cS l<;>rw[e1]at h1
 ·refine fO (n:=24) [] Tryz.func296 (by kernel_rfl) rfl (by kernel_rfl) (by rfl) (.inr ⟨trivial,trivial⟩) ?_
  repeat'((conv=>whnf);first|with_reducible (first|refine Lm ?_|refine Wm (by omega) ?_|refine Bn ?_|refine Fm rfl ?_)|refine Bt ?_|refine Bu ?_|refine Cl.mk h1 ?_)
  exact congrArg (fun z=>[B z]) ((by unfold bi;rw[e1];rfl))
 ·have hf:=dS e1
  refine fO (n:=24) [] Tryz.func296 (by kernel_rfl) rfl (by kernel_rfl) (by rfl) (.inr ⟨trivial,trivial⟩) ?_
  repeat'((conv=>whnf);first|with_reducible (first|refine Lm ?_|refine Wm (by omega) ?_|refine Bf.D (fun hq=>?_) (fun hq=>?_)|refine Bn ?_|refine Fm rfl ?_)|refine Bt ?_|refine Bu ?_|refine Cl.mk h1 ?_)
  all_goals exact congrArg (fun z=>[B z]) ((by unfold bi;rw[e1,Bool.true_and];first|(symm;exact decide_eq_false (by omega))|exact decide_eq_decide.2 (by omega)))
theorem nu (l:ah) (a:Int):af Tryz.prog 313 false [.val (some 3) (ah.enc .imm l),.val none [I a]] .one [B (bi l a)]:=by
 have h1:=p8 l
 cases e1:cS l<;>rw[e1]at h1
 ·refine fO (n:=21) [] Tryz.func313 (by kernel_rfl) rfl (by kernel_rfl) (by rfl) (.inr ⟨trivial,trivial⟩) ?_
  repeat'((conv=>whnf);first|with_reducible (first|refine Lm ?_|refine Wm (by omega) ?_|refine Bn ?_|refine Fm rfl ?_)|refine Bt ?_|refine Bu ?_|refine Cl.mk h1 ?_)
  exact congrArg (fun z=>[B z]) ((by unfold bi;rw[e1];rfl))
 ·have hf:=dS e1
  refine fO (n:=21) [] Tryz.func313 (by kernel_rfl) rfl (by kernel_rfl) (by rfl) (.inr ⟨trivial,trivial⟩) ?_
  repeat'((conv=>whnf);first|with_reducible (first|refine Lm ?_|refine Wm (by omega) ?_|refine Bf.D (fun hq=>?_) (fun hq=>?_)|refine Bn ?_|refine Fm rfl ?_)|refine Bt ?_|refine Bu ?_|refine Cl.mk h1 ?_|refine Cl.mk (aH _ _ _) ?_)
  all_goals exact congrArg (fun z=>[B z]) ((by unfold bi;rw[e1,Bool.true_and];exact decide_eq_decide.2 (by omega)))
theorem qr (l:ah) (a:Int) (h:bi l a=true):af Tryz.prog 297 false [.val (some 3) (ah.enc .imm l),.val none [I a]] .one [I (a - 16*l.Page)]:=by
 have h1:=nL l a
 rw[h]at h1
 unfold bi at h
 simp only[Bool.and_eq_true,decide_eq_true_eq]at h
 have hf:=dS h.1
 refine fO (n:=14) [] Tryz.func297 (by kernel_rfl) rfl (by kernel_rfl) (by rfl) (.inr ⟨trivial,trivial⟩) ?_
 repeat'((conv=>whnf);first|with_reducible (first|refine Lm ?_|refine Wm (by omega) ?_|refine Bn ?_|refine Fm rfl ?_)|refine Bt ?_|refine Bu ?_|refine Cl.mk h1 ?_)
 exact congrArg (fun z=>[I z]) (by omega)
theorem pT (l:ah) (a:Int) (h:bi l a=true):af Tryz.prog 314 false [.val (some 3) (ah.enc .imm l),.val none [I a]] .one [I (a - 16*l.Page)]:=by
 have h1:=nu l a
 rw[h]at h1
 unfold bi at h
 simp only[Bool.and_eq_true,decide_eq_true_eq]at h
 have hf:=dS h.1
 refine fO (n:=14) [] Tryz.func314 (by kernel_rfl) rfl (by kernel_rfl) (by rfl) (.inr ⟨trivial,trivial⟩) ?_
 repeat'((conv=>whnf);first|with_reducible (first|refine Lm ?_|refine Wm (by omega) ?_|refine Bn ?_|refine Fm rfl ?_)|refine Bt ?_|refine Bu ?_|refine Cl.mk h1 ?_)
 exact congrArg (fun z=>[I z]) (by omega)
end Go.Proofs.YtogajjgmcnjkbaaGreat.Ab
namespace Go.Proofs.YtogajjgmcnjkbaaGreat.Ab
open Go.RowKit
set_option maxRecDepth 20000
set_option maxHeartbeats 4000000
theorem na {m:aG} {i:Nat} (hi:i<m.Buffers.length) (h:gh m i=false):dC m=false:=by
 unfold dC;rw[bN hi h];simp
theorem sW {m:aG} (h:¬(1≤m.Buffers.length∧m.Buffers.length≤4∧m.Inbox.length=m.Buffers.length)):dC m=false:=by
 unfold dC;rw[decide_eq_false h];rfl
theorem rO {m:aG} (h1:1≤m.Buffers.length∧m.Buffers.length≤4∧m.Inbox.length=m.Buffers.length) (h2:cD m.Buffers.length (gh m)=true):dC m=decide (cu m m.Buffers.length≤30):=by
 unfold dC;rw[decide_eq_true h1,h2];rfl
theorem qG (m:aG) (hs:aG.sml m):af Tryz.prog 94 false [.val (some 2) (aG.enc .imm m)] .one [B (dC m)]:=by
 have hl1:m.Buffers.length≤1048576:=hs.1.1
 have hl2:m.Inbox.length≤1048576:=hs.2.1
 by_cases hn:1≤m.Buffers.length∧m.Buffers.length≤4∧m.Inbox.length=m.Buffers.length
 ·refine fO (n:=92) [(19,15,[75,76,77,78,79,80,81,82,83,84,85,86,87,88,89])] Tryz.func94 (by kernel_rfl) rfl (by kernel_rfl) (by rfl) (.inr ⟨trivial,trivial⟩) ?_
  repeat'((conv=>whnf);first|with_reducible (first|refine Lm ?_|refine Wm (by omega) ?_|refine dT (by omega) (fun hq=>?_)|refine dF (by omega) (fun hq=>?_)|refine Bf.D (fun hq=>?_) (fun hq=>?_)|refine nT (by omega) (fun hq=>?_)|refine nF (by omega) (fun hq=>?_)|refine Bf.N (fun hq=>?_) (fun hq=>?_)|refine Bn ?_|refine Fm rfl ?_)|refine Bt ?_|refine Bu ?_|refine Cl.mk (aP _ 1 4) ?_)
  (conv=>whnf)
  refine Lp.mk (ι:=Nat) (fun i=>[(1,.hold .box (aG.enc .imm m)),(3,.hold .one [I (m.Buffers.length)]),(4,.hold .one [I (cu m i)]),(5,.hold .one [I ((i:Nat):Int)])]) (fun i=>i≤m.Buffers.length∧cD i (gh m)=true∧0≤cu m i∧cu m i≤2097152*i) (fun i=>m.Buffers.length - i) (0) ?_ (⟨Nat.zero_le _,rfl,by simp[cu],by simp[cu]⟩) fun i hi=>?_
  ·repeat'(first|exact trivial|rfl|refine And.intro ?_ ?_)
  obtain⟨hi,ai,s0,s1⟩:=hi
  by_cases li:i<m.Buffers.length
  ·have hx:=au li
   have hy:=au (xs:=m.Inbox) (i:=i) (by omega)
   have hb1:(nth m.Buffers i).length≤1048576:=(hs.1.2 _ (ay li)).1
   have hb2:(nth m.Inbox i).length≤1048576:=hs.2.2 _ (ay (by omega))
   repeat'((conv=>whnf);first|with_reducible (first|refine Lm ?_|refine Wm (by omega) ?_|refine dT (by omega) (fun hq=>?_)|refine Bn ?_|refine Fm rfl ?_)|refine Bt ?_|refine Bu ?_)
   (conv=>whnf)
   refine Lp.mk (ι:=Nat) (fun k=>[(1,.hold .box (aG.enc .imm m)),(3,.hold .one [I (m.Buffers.length)]),(4,.hold .one [I (cu m i)]),(5,.hold .one [I ((i:Nat):Int)]),(6,.hold .one [I ((k:Nat):Int)])]) (fun k=>k≤(nth m.Buffers i).length∧((nth m.Buffers i).take k).all (oe m.Buffers.length)=true) (fun k=>(nth m.Buffers i).length - k) (0) ?_ (⟨Nat.zero_le _,rfl⟩) fun k hk=>?_
   ·repeat'(first|exact trivial|rfl|refine And.intro ?_ ?_)
   obtain⟨hk,ak⟩:=hk
   by_cases lk:k<(nth m.Buffers i).length
   ·have hz:=au lk
    repeat'((conv=>whnf);first|with_reducible (first|refine Lm ?_|refine Wm (by omega) ?_|refine Ix.nat (aa hx) ?_|refine Ix.nat (aa hz) ?_|refine dT (by omega) (fun hq=>?_)|refine Bf.D (fun hq=>?_) (fun hq=>?_)|refine Bn ?_|refine Fm rfl ?_)|refine Bt ?_|refine Bu ?_|refine Cl.mk (aP _ 0 _) ?_)
    all_goals first
     | exact congrArg (fun z=>[B z]) ((na li (by unfold gh;rw[dI hz (by unfold oe;exact decide_eq_false (by omega))];rfl)).symm)
     | ((conv=>whnf);refine Nx.mk (k+1) ⟨by omega,ce hz ak (by unfold oe;exact decide_eq_true (by omega))⟩ (by omega) ?_;(repeat'(first|exact trivial|rfl|refine And.intro ?_ ?_)))
   ·have ae:=fk (by omega) ak
    repeat'((conv=>whnf);first|with_reducible (first|refine Lm ?_|refine Wm (by omega) ?_|refine Ix.nat (aa hx) ?_|refine dF (by omega) (fun hq=>?_)|refine Bn ?_|refine Fm rfl ?_)|refine Bt ?_|refine Bu ?_)
    (conv=>whnf)
    refine Lp.mk (ι:=Nat) (fun k2=>[(1,.hold .box (aG.enc .imm m)),(3,.hold .one [I (m.Buffers.length)]),(4,.hold .one [I (cu m i)]),(5,.hold .one [I ((i:Nat):Int)]),(8,.hold .one [I ((k2:Nat):Int)])]) (fun k2=>k2≤(nth m.Inbox i).length∧((nth m.Inbox i).take k2).all HK=true) (fun k2=>(nth m.Inbox i).length - k2) (0) ?_ (⟨Nat.zero_le _,rfl⟩) fun k2 hk2=>?_
    ·repeat'(first|exact trivial|rfl|refine And.intro ?_ ?_)
    obtain⟨hk2,ak2⟩:=hk2
    by_cases lk2:k2<(nth m.Inbox i).length
    ·have hz:=au lk2
     repeat'((conv=>whnf);first|with_reducible (first|refine Lm ?_|refine Wm (by omega) ?_|refine Ix.nat (aa hy) ?_|refine Ix.nat (aa hz) ?_|refine dT (by omega) (fun hq=>?_)|refine Bf.D (fun hq=>?_) (fun hq=>?_)|refine Bn ?_|refine Fm rfl ?_)|refine Bt ?_|refine Bu ?_)
     all_goals first
      | exact congrArg (fun z=>[B z]) ((na li (by unfold gh;rw[dI hz (by unfold HK;exact decide_eq_false (by omega))];simp)).symm)
      | ((conv=>whnf);refine Nx.mk (k2+1) ⟨by omega,ce hz ak2 (by unfold HK;exact decide_eq_true (by omega))⟩ (by omega) ?_;(repeat'(first|exact trivial|rfl|refine And.intro ?_ ?_)))
    ·have ae2:=fk (by omega) ak2
     have hsum:cu m (i+1)=cu m i+((nth m.Buffers i).length+(nth m.Inbox i).length):=rfl
     have hsum2:cu m (i+1)=cu m i+(nth m.Buffers i).length+(nth m.Inbox i).length:=by rw[hsum];omega
     repeat'((conv=>whnf);first|with_reducible (first|refine Lm ?_|refine Wm (by omega) ?_|refine Ix.nat (aa hx) ?_|refine Ix.nat (aa hy) ?_|refine dF (by omega) (fun hq=>?_)|refine Bn ?_|refine Fm rfl ?_)|refine Bt ?_|refine Bu ?_)
     ((conv=>whnf);refine Nx.mk (i+1) ⟨by omega,b6 ai (by unfold gh;rw[ae,ae2];rfl),by omega,by omega⟩ (by omega) ?_)
     rw[hsum2]
     repeat'(first|exact trivial|rfl|refine And.intro ?_ ?_)
  ·obtain rfl:i=m.Buffers.length:=by omega
   repeat'((conv=>whnf);first|with_reducible (first|refine Lm ?_|refine Wm (by omega) ?_|refine dF (by omega) (fun hq=>?_)|refine Bn ?_|refine Fm rfl ?_)|refine Bt ?_|refine Bu ?_)
   exact congrArg (fun z=>[B z]) ((rO hn ai).symm)
 ·refine fO (n:=92) [(19,15,[75,76,77,78,79,80,81,82,83,84,85,86,87,88,89])] Tryz.func94 (by kernel_rfl) rfl (by kernel_rfl) (by rfl) (.inr ⟨trivial,trivial⟩) ?_
  repeat'((conv=>whnf);first|with_reducible (first|refine Lm ?_|refine Wm (by omega) ?_|refine Bf.D (fun hq=>?_) (fun hq=>?_)|refine Bf.N (fun hq=>?_) (fun hq=>?_)|refine Bn ?_|refine Fm rfl ?_)|refine Bt ?_|refine Bu ?_|refine Cl.mk (aP _ 1 4) ?_)
  all_goals first
   | exact congrArg (fun z=>[B z]) ((sW hn).symm)
   |(exfalso;omega)
theorem qF (m:aG) (hs:aG.sml m):af Tryz.prog 123 false [.val (some 2) (aG.enc .imm m)] .one [B (dC m)]:=by
 have hl1:m.Buffers.length≤1048576:=hs.1.1
 have hl2:m.Inbox.length≤1048576:=hs.2.1
 by_cases hn:1≤m.Buffers.length∧m.Buffers.length≤4∧m.Inbox.length=m.Buffers.length
 ·refine fO (n:=82) [(20,15,[64,65,66,67,68,69,70,71,72,73,74,75,76,77,78])] Tryz.func123 (by kernel_rfl) rfl (by kernel_rfl) (by rfl) (.inr ⟨trivial,trivial⟩) ?_
  repeat'((conv=>whnf);first|with_reducible (first|refine Lm ?_|refine Wm (by omega) ?_|refine dT (by omega) (fun hq=>?_)|refine dF (by omega) (fun hq=>?_)|refine Bf.D (fun hq=>?_) (fun hq=>?_)|refine nT (by omega) (fun hq=>?_)|refine nF (by omega) (fun hq=>?_)|refine Bf.N (fun hq=>?_) (fun hq=>?_)|refine Bn ?_|refine Fm rfl ?_)|refine Bt ?_|refine Bu ?_|refine Cl.mk (aH _ 1 4) ?_)
  (conv=>whnf)
  refine Lp.mk (ι:=Nat) (fun i=>[(1,.hold .box (aG.enc .imm m)),(3,.hold .one [I (m.Buffers.length)]),(4,.hold .one [I (cu m i)]),(25,.hold .one [I (m.Buffers.length)]),(26,.hold .one [I ((i:Nat):Int)])]) (fun i=>i≤m.Buffers.length∧cD i (gh m)=true∧0≤cu m i∧cu m i≤2097152*i) (fun i=>m.Buffers.length - i) (0) ?_ (⟨Nat.zero_le _,rfl,by simp[cu],by simp[cu]⟩) fun i hi=>?_
  ·repeat'(first|exact trivial|rfl|refine And.intro ?_ ?_)
  obtain⟨hi,ai,s0,s1⟩:=hi
  by_cases li:i<m.Buffers.length
  ·have hx:=au li
   have hy:=au (xs:=m.Inbox) (i:=i) (by omega)
   have hb1:(nth m.Buffers i).length≤1048576:=(hs.1.2 _ (ay li)).1
   have hb2:(nth m.Inbox i).length≤1048576:=hs.2.2 _ (ay (by omega))
   repeat'((conv=>whnf);first|with_reducible (first|refine Lm ?_|refine Wm (by omega) ?_|refine Ix.nat (aa hx) ?_|refine dT (by omega) (fun hq=>?_)|refine Bn ?_|refine Fm rfl ?_)|refine Bt ?_|refine Bu ?_)
   (conv=>whnf)
   refine Lp.mk (ι:=Nat) (fun k=>[(1,.hold .box (aG.enc .imm m)),(3,.hold .one [I (m.Buffers.length)]),(4,.hold .one [I (cu m i)]),(5,.hold .one [I ((i:Nat):Int)]),(25,.hold .one [I (m.Buffers.length)]),(26,.hold .one [I ((i:Nat):Int)]),(33,.hold .one (br .imm (nth m.Buffers i))),(34,.hold .one [I ((nth m.Buffers i).length)]),(35,.hold .one [I ((k:Nat):Int)])]) (fun k=>k≤(nth m.Buffers i).length∧((nth m.Buffers i).take k).all (oe m.Buffers.length)=true) (fun k=>(nth m.Buffers i).length - k) (0) ?_ (⟨Nat.zero_le _,rfl⟩) fun k hk=>?_
   ·repeat'(first|exact trivial|rfl|refine And.intro ?_ ?_)
   obtain⟨hk,ak⟩:=hk
   by_cases lk:k<(nth m.Buffers i).length
   ·have hz:=au lk
    repeat'((conv=>whnf);first|with_reducible (first|refine Lm ?_|refine Wm (by omega) ?_|refine Ix.nat (aa hx) ?_|refine Ix.nat (aa hz) ?_|refine dT (by omega) (fun hq=>?_)|refine Bf.D (fun hq=>?_) (fun hq=>?_)|refine Bn ?_|refine Fm rfl ?_)|refine Bt ?_|refine Bu ?_|refine Cl.mk (aH _ 0 _) ?_)
    all_goals first
     | exact congrArg (fun z=>[B z]) ((na li (by unfold gh;rw[dI hz (by unfold oe;exact decide_eq_false (by omega))];rfl)).symm)
     | ((conv=>whnf);refine Nx.mk (k+1) ⟨by omega,ce hz ak (by unfold oe;exact decide_eq_true (by omega))⟩ (by omega) ?_;(repeat'(first|exact trivial|rfl|refine And.intro ?_ ?_)))
   ·have ae:=fk (by omega) ak
    repeat'((conv=>whnf);first|with_reducible (first|refine Lm ?_|refine Wm (by omega) ?_|refine Ix.nat (aa hx) ?_|refine Ix.nat (aa hy) ?_|refine dF (by omega) (fun hq=>?_)|refine Bn ?_|refine Fm rfl ?_)|refine Bt ?_|refine Bu ?_)
    (conv=>whnf)
    refine Lp.mk (ι:=Nat) (fun k2=>[(1,.hold .box (aG.enc .imm m)),(3,.hold .one [I (m.Buffers.length)]),(4,.hold .one [I (cu m i)]),(5,.hold .one [I ((i:Nat):Int)]),(25,.hold .one [I (m.Buffers.length)]),(26,.hold .one [I ((i:Nat):Int)]),(55,.hold .one (aI .imm (nth m.Inbox i))),(56,.hold .one [I ((nth m.Inbox i).length)]),(57,.hold .one [I ((k2:Nat):Int)])]) (fun k2=>k2≤(nth m.Inbox i).length∧((nth m.Inbox i).take k2).all HK=true) (fun k2=>(nth m.Inbox i).length - k2) (0) ?_ (⟨Nat.zero_le _,rfl⟩) fun k2 hk2=>?_
    ·repeat'(first|exact trivial|rfl|refine And.intro ?_ ?_)
    obtain⟨hk2,ak2⟩:=hk2
    by_cases lk2:k2<(nth m.Inbox i).length
    ·have hz:=au lk2
     repeat'((conv=>whnf);first|with_reducible (first|refine Lm ?_|refine Wm (by omega) ?_|refine Ix.nat (aa hy) ?_|refine Ix.nat (aa hz) ?_|refine dT (by omega) (fun hq=>?_)|refine Bf.D (fun hq=>?_) (fun hq=>?_)|refine Bn ?_|refine Fm rfl ?_)|refine Bt ?_|refine Bu ?_)
     all_goals first
      | exact congrArg (fun z=>[B z]) ((na li (by unfold gh;rw[dI hz (by unfold HK;exact decide_eq_false (by omega))];simp)).symm)
      | ((conv=>whnf);refine Nx.mk (k2+1) ⟨by omega,ce hz ak2 (by unfold HK;exact decide_eq_true (by omega))⟩ (by omega) ?_;(repeat'(first|exact trivial|rfl|refine And.intro ?_ ?_)))
    ·have ae2:=fk (by omega) ak2
     have hsum:cu m (i+1)=cu m i+((nth m.Buffers i).length+(nth m.Inbox i).length):=rfl
     repeat'((conv=>whnf);first|with_reducible (first|refine Lm ?_|refine Wm (by omega) ?_|refine Ix.nat (aa hx) ?_|refine Ix.nat (aa hy) ?_|refine dF (by omega) (fun hq=>?_)|refine Bn ?_|refine Fm rfl ?_)|refine Bt ?_|refine Bu ?_)
     ((conv=>whnf);refine Nx.mk (i+1) ⟨by omega,b6 ai (by unfold gh;rw[ae,ae2];rfl),by omega,by omega⟩ (by omega) ?_)
     rw[hsum]
     repeat'(first|exact trivial|rfl|refine And.intro ?_ ?_)
  ·obtain rfl:i=m.Buffers.length:=by omega
   repeat'((conv=>whnf);first|with_reducible (first|refine Lm ?_|refine Wm (by omega) ?_|refine dF (by omega) (fun hq=>?_)|refine Bn ?_|refine Fm rfl ?_)|refine Bt ?_|refine Bu ?_)
   exact congrArg (fun z=>[B z]) ((rO hn ai).symm)
 ·refine fO (n:=82) [(20,15,[64,65,66,67,68,69,70,71,72,73,74,75,76,77,78])] Tryz.func123 (by kernel_rfl) rfl (by kernel_rfl) (by rfl) (.inr ⟨trivial,trivial⟩) ?_
  repeat'((conv=>whnf);first|with_reducible (first|refine Lm ?_|refine Wm (by omega) ?_|refine Bf.D (fun hq=>?_) (fun hq=>?_)|refine Bf.N (fun hq=>?_) (fun hq=>?_)|refine Bn ?_|refine Fm rfl ?_)|refine Bt ?_|refine Bu ?_|refine Cl.mk (aH _ 1 4) ?_)
  all_goals first
   | exact congrArg (fun z=>[B z]) ((sW hn).symm)
   |(exfalso;omega)
end Go.Proofs.YtogajjgmcnjkbaaGreat.Ab
namespace Go.Proofs.YtogajjgmcnjkbaaGreat.Ab
open Go.RowKit
set_option maxRecDepth 20000
set_option maxHeartbeats 4000000
theorem vI {s:am} {a:Int} (h:cg s a=false):S2 (gv s a)=[I (-1),I (-1)]:=by
 unfold gv;rw[h];rfl
theorem sI {s:am} {a:Int} (h:cg s a=true):S2 (gv s a)=[I ((a - 16*s.Page) / csz s.Class),I ((a - 16*s.Page) % csz s.Class)]:=by
 unfold gv;rw[h];rfl
theorem oW {s:am} {a:Int} (h:cg s a=true):b8 s=true∧0≤(a - 16*s.Page) / csz s.Class∧(a - 16*s.Page) / csz s.Class≤15:=by
 unfold cg at h
 simp only[Bool.and_eq_true,decide_eq_true_eq]at h
 have hc:=aU h.1
 refine⟨h.1,?_⟩
 rcases d2 ⟨hc.2.2.1,hc.2.2.2⟩ with e|e|e|e<;>rw[e]<;>omega
theorem lz {sp:List am} {la:List ah} {a:Int} {i:Nat} (hi:i<sp.length) (h:cg (nth sp i) a=true) (ha:∀ (j:Nat) (z:am),j<i→sp[j]? = some z→cg z a=false):denotes sp la a=mh i (nth sp i) a:=by
 unfold denotes;rw[x5 (pr:=(cg · a)) (au hi) h ha]
theorem kz {sp:List am} {la:List ah} {a:Int} {i n:Nat} (hn:sp.length≤n) (hs:∀ (j:Nat) (z:am),j<n→sp[j]? = some z→cg z a=false) (hi:i<la.length) (h:bi (nth la i) a=true) (ha:∀ (j:Nat) (z:ah),j<i→la[j]? = some z→bi z a=false) :
  denotes sp la a = ⟨3,i,0,a - 16*(nth la i).Page⟩:=by
 unfold denotes;rw[vU (pr:=(cg · a)) hn hs,x5 (pr:=(bi · a)) (au hi) h ha]
theorem rW {sp:List am} {la:List ah} {a:Int} {n k:Nat} (hn:sp.length≤n) (hs:∀ (j:Nat) (z:am),j<n→sp[j]? = some z→cg z a=false) (hk:la.length≤k) (ha:∀ (j:Nat) (z:ah),j<k→la[j]? = some z→bi z a=false):denotes sp la a = ⟨0,0,0,0⟩:=by
 unfold denotes;rw[vU (pr:=(cg · a)) hn hs,vU (pr:=(bi · a)) hk ha]
theorem lb (sp:List am) (la:List ah) (a:Int) (hs1:cf sp) (hs2:bO la) (hlay:bj sp la=true) (hw:gz a):af Tryz.prog 212 false [.val none (bt .imm sp),.val none (aW .imm la),.val none [I a]] .agg (ct.enc .own (denotes sp la a)):=by
 have hl1:=hs1.1
 have hl2:=hs2.1
 have h0:=kr sp la hs1 hs2
 rw[hlay]at h0
 refine fO (n:=67) [] Tryz.func212 (by kernel_rfl) rfl (by kernel_rfl) (by rfl) (.inr (ct.enc_fr _)) ?_
 repeat'((conv=>whnf);first|with_reducible (first|refine Lm ?_|refine Wm (by omega) ?_|refine Bn ?_|refine Fm rfl ?_)|refine Bt ?_|refine Bu ?_|refine Cl.mk h0 ?_)
 (conv=>whnf)
 refine Lp.mk (ι:=Nat) (fun i=>[(0,.hold .one (bt .imm sp)),(1,.hold .one (aW .imm la)),(2,.hold .one [I (a)]),(6,.hold .box ([I 0,I 0,I 0,I 0])),(7,.hold .one [I ((i:Nat):Int)])]) (fun i=>i≤sp.length∧∀ (j:Nat) (z:am),j<i→sp[j]? = some z→cg z a=false) (fun i=>sp.length - i) (0) ?_ (⟨Nat.zero_le _,fun j z hj=>by omega⟩) fun i hi=>?_
 ·repeat'(first|exact trivial|rfl|refine And.intro ?_ ?_)
 obtain⟨hi,ai⟩:=hi
 by_cases li:i<sp.length
 ·have hx:=au li
  have h1:=qT (nth sp i) a hw
  cases e1:cg (nth sp i) a with
  | false=>
   rw[vI e1]at h1
   repeat'((conv=>whnf);first|with_reducible (first|refine Lm ?_|refine Wm (by omega) ?_|refine Ix.nat (aa hx) ?_|refine dT (by omega) (fun hq=>?_)|refine dT (by omega) (fun hq=>?_)|refine dF (by omega) (fun hq=>?_)|refine Bf.D (fun hq=>?_) (fun hq=>?_)|refine Bn ?_|refine Fm rfl ?_)|refine Bt ?_|refine Bu ?_|refine Cl.mk h1 ?_)
   ((conv=>whnf);refine Nx.mk (i+1) ⟨by omega,fD (pr:=(cg · a)) hx e1 ai⟩ (by omega) ?_;(repeat'(first|exact trivial|rfl|refine And.intro ?_ ?_)))
  | true=>
   rw[sI e1]at h1
   obtain⟨f1,f2,f3⟩:=oW e1
   have h2:=pB (nth sp i).Bits ((a - 16*(nth sp i).Page) / csz (nth sp i).Class) (eU f1).2
   cases e2:cy (nth sp i).Bits ((a - 16*(nth sp i).Page) / csz (nth sp i).Class)<;>rw[e2]at h2
   all_goals
    repeat'((conv=>whnf);first|with_reducible (first|refine Lm ?_|refine Wm (by omega) ?_|refine Ix.nat (aa hx) ?_|refine dT (by omega) (fun hq=>?_)|refine dT (by omega) (fun hq=>?_)|refine dF (by omega) (fun hq=>?_)|refine Bf.D (fun hq=>?_) (fun hq=>?_)|refine Bn ?_|refine Fm rfl ?_)|refine Bt ?_|refine Bu ?_|refine Cl.mk h1 ?_|refine Cl.mk h2 ?_)
    all_goals(rw[lz li e1 ai];unfold mh;rw[e2];rfl)
 ·repeat'((conv=>whnf);first|with_reducible (first|refine Lm ?_|refine Wm (by omega) ?_|refine dF (by omega) (fun hq=>?_)|refine Bn ?_|refine Fm rfl ?_)|refine Bt ?_|refine Bu ?_)
  (conv=>whnf)
  refine Lp.mk (ι:=Nat) (fun k=>[(1,.hold .one (aW .imm la)),(2,.hold .one [I (a)]),(6,.hold .box ([I 0,I 0,I 0,I 0])),(11,.hold .one [I ((k:Nat):Int)])]) (fun k=>k≤la.length∧∀ (j:Nat) (z:ah),j<k→la[j]? = some z→bi z a=false) (fun k=>la.length - k) (0) ?_ (⟨Nat.zero_le _,fun j z hj=>by omega⟩) fun k hk=>?_
  ·repeat'(first|exact trivial|rfl|refine And.intro ?_ ?_)
  obtain⟨hk,ak⟩:=hk
  by_cases lk:k<la.length
  ·have hx:=au lk
   have h1:=nL (nth la k) a
   cases e1:bi (nth la k) a<;>rw[e1]at h1
   ·repeat'((conv=>whnf);first|with_reducible (first|refine Lm ?_|refine Wm (by omega) ?_|refine Ix.nat (aa hx) ?_|refine dT (by omega) (fun hq=>?_)|refine Bn ?_|refine Fm rfl ?_)|refine Bt ?_|refine Bu ?_|refine Cl.mk h1 ?_)
    ((conv=>whnf);refine Nx.mk (k+1) ⟨by omega,fD (pr:=(bi · a)) hx e1 ak⟩ (by omega) ?_;(repeat'(first|exact trivial|rfl|refine And.intro ?_ ?_)))
   ·repeat'((conv=>whnf);first|with_reducible (first|refine Lm ?_|refine Wm (by omega) ?_|refine Ix.nat (aa hx) ?_|refine dT (by omega) (fun hq=>?_)|refine Bn ?_|refine Fm rfl ?_)|refine Bt ?_|refine Bu ?_|refine Cl.mk h1 ?_|refine Cl.mk (qr (nth la k) a e1) ?_)
    rw[kz (n:=i) (by omega) ai lk e1 ak];rfl
  ·repeat'((conv=>whnf);first|with_reducible (first|refine Lm ?_|refine Wm (by omega) ?_|refine dF (by omega) (fun hq=>?_)|refine Bn ?_|refine Fm rfl ?_)|refine Bt ?_|refine Bu ?_)
   rw[rW (n:=i) (k:=k) (by omega) ai (by omega) ak];rfl
theorem iR (sp:List am) (la:List ah) (a:Int) (hs1:cf sp) (hs2:bO la):af Tryz.prog 238 false [.val none (bt .imm sp),.val none (aW .imm la),.val none [I a]] .agg (ct.enc .own (denotes sp la a)):=by
 have hl1:=hs1.1
 have hl2:=hs2.1
 refine fO (n:=56) [] Tryz.func238 (by kernel_rfl) rfl (by kernel_rfl) (by rfl) (.inr (ct.enc_fr _)) ?_
 repeat'((conv=>whnf);first|with_reducible (first|refine Lm ?_|refine Wm (by omega) ?_|refine Bn ?_|refine Fm rfl ?_)|refine Bt ?_|refine Bu ?_)
 (conv=>whnf)
 refine Lp.mk (ι:=Nat) (fun i=>[(1,.hold .one (aW .imm la)),(2,.hold .one [I (a)]),(6,.hold .box ([I 0,I 0,I 0,I 0])),(14,.hold .one (bt .imm sp)),(15,.hold .one [I (sp.length)]),(16,.hold .one [I ((i:Nat):Int)])]) (fun i=>i≤sp.length∧∀ (j:Nat) (z:am),j<i→sp[j]? = some z→cg z a=false) (fun i=>sp.length - i) (0) ?_ (⟨Nat.zero_le _,fun j z hj=>by omega⟩) fun i hi=>?_
 ·repeat'(first|exact trivial|rfl|refine And.intro ?_ ?_)
 obtain⟨hi,ai⟩:=hi
 by_cases li:i<sp.length
 ·have hx:=au li
  have h1:=yS (nth sp i) a
  cases e1:cg (nth sp i) a with
  | false=>
   rw[vI e1]at h1
   repeat'((conv=>whnf);first|with_reducible (first|refine Lm ?_|refine Wm (by omega) ?_|refine Ix.nat (aa hx) ?_|refine dT (by omega) (fun hq=>?_)|refine dT (by omega) (fun hq=>?_)|refine dF (by omega) (fun hq=>?_)|refine Bf.D (fun hq=>?_) (fun hq=>?_)|refine Bn ?_|refine Fm rfl ?_)|refine Bt ?_|refine Bu ?_|refine Cl.mk h1 ?_)
   ((conv=>whnf);refine Nx.mk (i+1) ⟨by omega,fD (pr:=(cg · a)) hx e1 ai⟩ (by omega) ?_;(repeat'(first|exact trivial|rfl|refine And.intro ?_ ?_)))
  | true=>
   rw[sI e1]at h1
   obtain⟨f1,f2,f3⟩:=oW e1
   have h2:=lM (nth sp i).Bits ((a - 16*(nth sp i).Page) / csz (nth sp i).Class) (eU f1).2
   cases e2:cy (nth sp i).Bits ((a - 16*(nth sp i).Page) / csz (nth sp i).Class)<;>rw[e2]at h2
   all_goals
    repeat'((conv=>whnf);first|with_reducible (first|refine Lm ?_|refine Wm (by omega) ?_|refine Ix.nat (aa hx) ?_|refine dT (by omega) (fun hq=>?_)|refine dT (by omega) (fun hq=>?_)|refine dF (by omega) (fun hq=>?_)|refine Bf.D (fun hq=>?_) (fun hq=>?_)|refine Bn ?_|refine Fm rfl ?_)|refine Bt ?_|refine Bu ?_|refine Cl.mk h1 ?_|refine Cl.mk h2 ?_)
    all_goals(rw[lz li e1 ai];unfold mh;rw[e2];rfl)
 ·repeat'((conv=>whnf);first|with_reducible (first|refine Lm ?_|refine Wm (by omega) ?_|refine dF (by omega) (fun hq=>?_)|refine Bn ?_|refine Fm rfl ?_)|refine Bt ?_|refine Bu ?_)
  (conv=>whnf)
  refine Lp.mk (ι:=Nat) (fun k=>[(2,.hold .one [I (a)]),(6,.hold .box ([I 0,I 0,I 0,I 0])),(39,.hold .one (aW .imm la)),(40,.hold .one [I (la.length)]),(41,.hold .one [I ((k:Nat):Int)])]) (fun k=>k≤la.length∧∀ (j:Nat) (z:ah),j<k→la[j]? = some z→bi z a=false) (fun k=>la.length - k) (0) ?_ (⟨Nat.zero_le _,fun j z hj=>by omega⟩) fun k hk=>?_
  ·repeat'(first|exact trivial|rfl|refine And.intro ?_ ?_)
  obtain⟨hk,ak⟩:=hk
  by_cases lk:k<la.length
  ·have hx:=au lk
   have h1:=nu (nth la k) a
   cases e1:bi (nth la k) a<;>rw[e1]at h1
   ·repeat'((conv=>whnf);first|with_reducible (first|refine Lm ?_|refine Wm (by omega) ?_|refine Ix.nat (aa hx) ?_|refine dT (by omega) (fun hq=>?_)|refine Bn ?_|refine Fm rfl ?_)|refine Bt ?_|refine Bu ?_|refine Cl.mk h1 ?_)
    ((conv=>whnf);refine Nx.mk (k+1) ⟨by omega,fD (pr:=(bi · a)) hx e1 ak⟩ (by omega) ?_;(repeat'(first|exact trivial|rfl|refine And.intro ?_ ?_)))
   ·repeat'((conv=>whnf);first|with_reducible (first|refine Lm ?_|refine Wm (by omega) ?_|refine Ix.nat (aa hx) ?_|refine dT (by omega) (fun hq=>?_)|refine Bn ?_|refine Fm rfl ?_)|refine Bt ?_|refine Bu ?_|refine Cl.mk h1 ?_|refine Cl.mk (pT (nth la k) a e1) ?_)
    rw[kz (n:=i) (by omega) ai lk e1 ak];rfl
  ·repeat'((conv=>whnf);first|with_reducible (first|refine Lm ?_|refine Wm (by omega) ?_|refine dF (by omega) (fun hq=>?_)|refine Bn ?_|refine Fm rfl ?_)|refine Bt ?_|refine Bu ?_)
   rw[rW (n:=i) (k:=k) (by omega) ai (by omega) ak];rfl
end Go.Proofs.YtogajjgmcnjkbaaGreat.Ab
namespace Go.Proofs.YtogajjgmcnjkbaaGreat.Ab
open Go.RowKit
set_option maxRecDepth 20000
set_option maxHeartbeats 4000000
theorem ro (xs:List ax) (pr:ax→Bool) (hl:xs.length≤9223372036854775807):af Tryz.prog 370 false [.val none (bh .imm xs),.fn (mg Tryz.prog (uS (some 3) (ax.enc .imm) pr xs))] .one [I (eO pr xs)]:=by
 refine fO (n:=19) [] Tryz.func370 (by kernel_rfl) rfl (by kernel_rfl) (by rfl) (.inr ⟨trivial,trivial⟩) ?_
 repeat'((conv=>whnf);first|with_reducible (first|refine Lm ?_|refine Wm (by omega) ?_|refine Bn ?_|refine Fm rfl ?_)|refine Bt ?_|refine Bu ?_)
 (conv=>whnf)
 refine Lp.mk (ι:=Nat) (fun i=>[(0,.hold .one (bh .imm xs)),(1,.fv (mg Tryz.prog (uS (some 3) (ax.enc .imm) pr xs))),(7,.hold .one [I xs.length]),(8,.hold .one [I (i:Nat)])]) (fun i=>i≤xs.length∧∀ (j:Nat) (z:ax),j<i→xs[j]? = some z→pr z=false) (fun i=>xs.length - i) 0 ?_ ⟨Nat.zero_le _,fun j z hj=>by omega⟩ fun i hi=>?_
 ·repeat'(first|exact trivial|rfl|refine And.intro ?_ ?_)
 ·obtain⟨hi,ha⟩:=hi
  by_cases hlt:i<xs.length
  ·obtain⟨y,hy⟩ : ∃ y,xs[i]? = some y:=⟨_,List.getElem?_eq_getElem hlt⟩
   repeat'((conv=>whnf);first|with_reducible (first|refine Lm ?_|refine Wm (by omega) ?_|refine Ix.nat (aa hy) ?_|refine dT (by omega) (fun hq=>?_)|refine Bn ?_|refine Fm rfl ?_)|refine Bt ?_|refine Bu ?_|refine Fv.mk (k:=.one) (rcs:=[B (pr y)]) ⟨y,List.mem_of_getElem? hy,rfl,rfl,rfl⟩ ?_|refine Bf.P (fun hq=>?_) (fun hq=>?_))
   ·exact congrArg (fun z=>[I z]) (fj hy ‹_› ha).symm
   ·(conv=>whnf)
    refine Nx.mk (i+1) ⟨by omega,fD hy (by assumption) ha⟩ (by omega) ?_
    repeat'(first|exact trivial|rfl|refine And.intro ?_ ?_)
  ·repeat'((conv=>whnf);first|with_reducible (first|refine Lm ?_|refine Wm (by omega) ?_|refine dF (by omega) (fun hq=>?_)|refine Bn ?_|refine Fm rfl ?_)|refine Bt ?_|refine Bu ?_)
   exact congrArg (fun z=>[I z]) (jw (by omega) ha).symm
theorem nS (xs:List ax) (pr:ax→Bool) (hl:xs.length≤9223372036854775807):af Tryz.prog 350 false [.val none (bh .imm xs),.fn (mg Tryz.prog (uS (some 3) (ax.enc .imm) pr xs))] .one [B (xs.any pr)]:=by
 refine fO (n:=9) [] Tryz.func350 (by kernel_rfl) rfl (by kernel_rfl) (by rfl) (.inr ⟨trivial,trivial⟩) ?_
 repeat'((conv=>whnf);first|with_reducible (first|refine Lm ?_|refine Wm (by omega) ?_|refine Bn ?_|refine Fm rfl ?_)|refine Bt ?_|refine Bu ?_|refine Cl.mk (ro xs pr hl) ?_)
 exact congrArg (fun z=>[B z]) (mW pr xs)
theorem sR (xs:List am) (pr:am→Bool) (hl:xs.length≤9223372036854775807):af Tryz.prog 243 false [.val none (bt .imm xs),.fn (mg Tryz.prog (uS (some 3) (am.enc .imm) pr xs))] .one [I (eO pr xs)]:=by
 refine fO (n:=19) [] Tryz.func243 (by kernel_rfl) rfl (by kernel_rfl) (by rfl) (.inr ⟨trivial,trivial⟩) ?_
 repeat'((conv=>whnf);first|with_reducible (first|refine Lm ?_|refine Wm (by omega) ?_|refine Bn ?_|refine Fm rfl ?_)|refine Bt ?_|refine Bu ?_)
 (conv=>whnf)
 refine Lp.mk (ι:=Nat) (fun i=>[(0,.hold .one (bt .imm xs)),(1,.fv (mg Tryz.prog (uS (some 3) (am.enc .imm) pr xs))),(7,.hold .one [I xs.length]),(8,.hold .one [I (i:Nat)])]) (fun i=>i≤xs.length∧∀ (j:Nat) (z:am),j<i→xs[j]? = some z→pr z=false) (fun i=>xs.length - i) 0 ?_ ⟨Nat.zero_le _,fun j z hj=>by omega⟩ fun i hi=>?_
 ·repeat'(first|exact trivial|rfl|refine And.intro ?_ ?_)
 ·obtain⟨hi,ha⟩:=hi
  by_cases hlt:i<xs.length
  ·obtain⟨y,hy⟩ : ∃ y,xs[i]? = some y:=⟨_,List.getElem?_eq_getElem hlt⟩
   repeat'((conv=>whnf);first|with_reducible (first|refine Lm ?_|refine Wm (by omega) ?_|refine Ix.nat (aa hy) ?_|refine dT (by omega) (fun hq=>?_)|refine Bn ?_|refine Fm rfl ?_)|refine Bt ?_|refine Bu ?_|refine Fv.mk (k:=.one) (rcs:=[B (pr y)]) ⟨y,List.mem_of_getElem? hy,rfl,rfl,rfl⟩ ?_|refine Bf.P (fun hq=>?_) (fun hq=>?_))
   ·exact congrArg (fun z=>[I z]) (fj hy ‹_› ha).symm
   ·(conv=>whnf)
    refine Nx.mk (i+1) ⟨by omega,fD hy (by assumption) ha⟩ (by omega) ?_
    repeat'(first|exact trivial|rfl|refine And.intro ?_ ?_)
  ·repeat'((conv=>whnf);first|with_reducible (first|refine Lm ?_|refine Wm (by omega) ?_|refine dF (by omega) (fun hq=>?_)|refine Bn ?_|refine Fm rfl ?_)|refine Bt ?_|refine Bu ?_)
   exact congrArg (fun z=>[I z]) (jw (by omega) ha).symm
theorem nr (xs:List aM) (pr:aM→Bool) (hl:xs.length≤9223372036854775807):af Tryz.prog 267 false [.val none (dA .imm xs),.fn (mg Tryz.prog (uS (some 4) (aM.enc .imm) pr xs))] .one [I (eO pr xs)]:=by
 refine fO (n:=19) [] Tryz.func267 (by kernel_rfl) rfl (by kernel_rfl) (by rfl) (.inr ⟨trivial,trivial⟩) ?_
 repeat'((conv=>whnf);first|with_reducible (first|refine Lm ?_|refine Wm (by omega) ?_|refine Bn ?_|refine Fm rfl ?_)|refine Bt ?_|refine Bu ?_)
 (conv=>whnf)
 refine Lp.mk (ι:=Nat) (fun i=>[(0,.hold .one (dA .imm xs)),(1,.fv (mg Tryz.prog (uS (some 4) (aM.enc .imm) pr xs))),(7,.hold .one [I xs.length]),(8,.hold .one [I (i:Nat)])]) (fun i=>i≤xs.length∧∀ (j:Nat) (z:aM),j<i→xs[j]? = some z→pr z=false) (fun i=>xs.length - i) 0 ?_ ⟨Nat.zero_le _,fun j z hj=>by omega⟩ fun i hi=>?_
 ·repeat'(first|exact trivial|rfl|refine And.intro ?_ ?_)
 ·obtain⟨hi,ha⟩:=hi
  by_cases hlt:i<xs.length
  ·obtain⟨y,hy⟩ : ∃ y,xs[i]? = some y:=⟨_,List.getElem?_eq_getElem hlt⟩
   repeat'((conv=>whnf);first|with_reducible (first|refine Lm ?_|refine Wm (by omega) ?_|refine Ix.nat (aa hy) ?_|refine dT (by omega) (fun hq=>?_)|refine Bn ?_|refine Fm rfl ?_)|refine Bt ?_|refine Bu ?_|refine Fv.mk (k:=.one) (rcs:=[B (pr y)]) ⟨y,List.mem_of_getElem? hy,rfl,rfl,rfl⟩ ?_|refine Bf.P (fun hq=>?_) (fun hq=>?_))
   ·exact congrArg (fun z=>[I z]) (fj hy ‹_› ha).symm
   ·(conv=>whnf)
    refine Nx.mk (i+1) ⟨by omega,fD hy (by assumption) ha⟩ (by omega) ?_
    repeat'(first|exact trivial|rfl|refine And.intro ?_ ?_)
  ·repeat'((conv=>whnf);first|with_reducible (first|refine Lm ?_|refine Wm (by omega) ?_|refine dF (by omega) (fun hq=>?_)|refine Bn ?_|refine Fm rfl ?_)|refine Bt ?_|refine Bu ?_)
   exact congrArg (fun z=>[I z]) (jw (by omega) ha).symm
theorem qp (xs:List aM) (pr:aM→Bool) (hl:xs.length≤9223372036854775807):af Tryz.prog 236 false [.val none (dA .imm xs),.fn (mg Tryz.prog (uS (some 4) (aM.enc .imm) pr xs))] .one [B (xs.any pr)]:=by
 refine fO (n:=9) [] Tryz.func236 (by kernel_rfl) rfl (by kernel_rfl) (by rfl) (.inr ⟨trivial,trivial⟩) ?_
 repeat'((conv=>whnf);first|with_reducible (first|refine Lm ?_|refine Wm (by omega) ?_|refine Bn ?_|refine Fm rfl ?_)|refine Bt ?_|refine Bu ?_|refine Cl.mk (nr xs pr hl) ?_)
 exact congrArg (fun z=>[B z]) (mW pr xs)
theorem GC {k:Nat} (hk:k≤3):IntKind.i64.wrap (1*2 ^ min ((k:Nat):Int).toNat IntKind.i64.bits)=csz (k:Nat):=by
 obtain rfl|rfl|rfl|rfl:k=0∨k=1∨k=2∨k=3:=by omega
 all_goals decide
theorem GD {k:Nat} (hk:k≤100):IntKind.u64.wrap (k:Nat)=(k:Nat):=by
 unfold IntKind.wrap;simp[IntKind.signed,IntKind.bits];omega
theorem wB {k:Nat} {z:Int} (hk:k≤3) (h:csz (k:Nat)<z) (hz:z≤8):k≤2:=by
 have e8:csz ((3:Nat):Int)=8:=by decide
 obtain rfl|rfl|rfl|rfl:k=0∨k=1∨k=2∨k=3:=by omega
 all_goals omega
theorem sL {k:Nat} {z:Int} (hk:k≤3) (h1:1≤z) (h2:k=0∨csz ((k - 1:Nat):Int)<z) (h3:¬csz (k:Nat)<z):bk z=(k:Nat):=by
 have e0:csz ((0:Nat):Int)=1:=by decide
 have e1:csz ((1:Nat):Int)=2:=by decide
 have e2:csz ((2:Nat):Int)=4:=by decide
 have e3:csz ((3:Nat):Int)=8:=by decide
 unfold bk
 obtain rfl|rfl|rfl|rfl:k=0∨k=1∨k=2∨k=3:=by omega
 all_goals simp only[Nat.reduceSub,e0,e1,e2,e3]at h2 h3
 all_goals(repeat' split)<;>omega
theorem oF (z:Int):af Tryz.prog 167 false [.val none [I z]] .one [I (bk z)]:=by
 refine fO (n:=15) [] Tryz.func167 (by kernel_rfl) rfl (by kernel_rfl) (by rfl) (.inr ⟨trivial,trivial⟩) ?_
 by_cases hz:1≤z∧z≤8
 ·repeat'((conv=>whnf);first|with_reducible (first|refine Lm ?_|refine Wm (by omega) ?_|refine dT (by omega) (fun hq=>?_)|refine dF (by omega) (fun hq=>?_)|refine Bf.D (fun hq=>?_) (fun hq=>?_)|refine Bn ?_|refine Fm rfl ?_)|refine Bt ?_|refine Bu ?_|refine Cl.mk (aP z 1 8) ?_)
  (conv=>whnf)
  refine Lp.mk (ι:=Nat) (fun k=>[(0,.hold .one [I (z)]),(3,.hold .one [I ((k:Nat):Int)])]) (fun k=>k≤3∧(k=0∨csz ((k - 1:Nat):Int)<z)) (fun k=>4 - k) (0) ?_ (⟨by omega,.inl rfl⟩) fun k hk=>?_
  ·repeat'(first|exact trivial|rfl|refine And.intro ?_ ?_)
  obtain⟨hk,h2⟩:=hk
  repeat'((conv=>whnf);first|with_reducible (first|refine Lm ?_|refine Wm (by omega) ?_|refine Bf.D (fun hq=>?_) (fun hq=>?_)|refine Bn ?_|refine Fm rfl ?_)|refine Bt ?_|refine Bu ?_|refine Wr.mk (GD (by omega)) ?_|refine Wr.mk (GC hk) ?_|refine Cd.mk (by omega) ?_)
  all_goals first
   | exact congrArg (fun z=>[I z]) (sL hk hz.1 h2 (by assumption)).symm
   | ((conv=>whnf);refine Nx.mk (k+1) ⟨by have:=wB hk (by assumption) hz.2;omega,.inr (by simpa using (by assumption:csz (k:Nat)<z))⟩ (by have:=wB hk (by assumption) hz.2;omega) ?_;(repeat'(first|exact trivial|rfl|refine And.intro ?_ ?_)))
 ·repeat'((conv=>whnf);first|with_reducible (first|refine Lm ?_|refine Wm (by omega) ?_|refine dT (by omega) (fun hq=>?_)|refine dF (by omega) (fun hq=>?_)|refine Bf.D (fun hq=>?_) (fun hq=>?_)|refine Bn ?_|refine Fm rfl ?_)|refine Bt ?_|refine Bu ?_|refine Cl.mk (aP z 1 8) ?_)
  all_goals exact congrArg (fun z=>[I z]) (by unfold bk;(repeat' split)<;>omega)
theorem pm (z:Int):af Tryz.prog 178 false [.val none [I z]] .one [I (bk z)]:=by
 refine fO (n:=14) [] Tryz.func178 (by kernel_rfl) rfl (by kernel_rfl) (by rfl) (.inr ⟨trivial,trivial⟩) ?_
 by_cases hz:1≤z∧z≤8
 ·repeat'((conv=>whnf);first|with_reducible (first|refine Lm ?_|refine Wm (by omega) ?_|refine dT (by omega) (fun hq=>?_)|refine dF (by omega) (fun hq=>?_)|refine Bf.D (fun hq=>?_) (fun hq=>?_)|refine Bn ?_|refine Fm rfl ?_)|refine Bt ?_|refine Bu ?_|refine Cl.mk (aH z 1 8) ?_)
  (conv=>whnf)
  refine Lp.mk (ι:=Nat) (fun k=>[(0,.hold .one [I (z)]),(3,.hold .one [I ((k:Nat):Int)])]) (fun k=>k≤3∧(k=0∨csz ((k - 1:Nat):Int)<z)) (fun k=>4 - k) (0) ?_ (⟨by omega,.inl rfl⟩) fun k hk=>?_
  ·repeat'(first|exact trivial|rfl|refine And.intro ?_ ?_)
  obtain⟨hk,h2⟩:=hk
  repeat'((conv=>whnf);first|with_reducible (first|refine Lm ?_|refine Wm (by omega) ?_|refine Bf.D (fun hq=>?_) (fun hq=>?_)|refine Bn ?_|refine Fm rfl ?_)|refine Bt ?_|refine Bu ?_|refine Cl.mk (dH _) ?_)
  all_goals first
   | exact congrArg (fun z=>[I z]) (sL hk hz.1 h2 (by assumption)).symm
   | ((conv=>whnf);refine Nx.mk (k+1) ⟨by have:=wB hk (by assumption) hz.2;omega,.inr (by simpa using (by assumption:csz (k:Nat)<z))⟩ (by have:=wB hk (by assumption) hz.2;omega) ?_;(repeat'(first|exact trivial|rfl|refine And.intro ?_ ?_)))
 ·repeat'((conv=>whnf);first|with_reducible (first|refine Lm ?_|refine Wm (by omega) ?_|refine dT (by omega) (fun hq=>?_)|refine dF (by omega) (fun hq=>?_)|refine Bf.D (fun hq=>?_) (fun hq=>?_)|refine Bn ?_|refine Fm rfl ?_)|refine Bt ?_|refine Bu ?_|refine Cl.mk (aH z 1 8) ?_)
  all_goals exact congrArg (fun z=>[I z]) (by unfold bk;(repeat' split)<;>omega)
theorem oV (q:aK) (a:Int) (hs:aK.sml q):af Tryz.prog 210 false [.val (some 2) (aK.enc .imm q),.val none [I a]] .one [B (q.Lst.any (dv a))]:=by
 have hl:q.Lst.length≤1048576:=hs.1
 refine fO (n:=21) [] Tryz.func210 (by kernel_rfl) rfl (by kernel_rfl) (by rfl) (.inr ⟨trivial,trivial⟩) ?_
 repeat'((conv=>whnf);first|with_reducible (first|refine Lm ?_|refine Wm (by omega) ?_|refine Bn ?_|refine Fm rfl ?_)|refine Bt ?_|refine Bu ?_)
 (conv=>whnf)
 refine Lp.mk (ι:=Nat) (fun i=>[(1,.hold .one [I (a)]),(2,.hold .box (aK.enc .imm q)),(5,.hold .one [I ((i:Nat):Int)])]) (fun i=>i≤q.Lst.length∧(q.Lst.take i).any (dv a)=false) (fun i=>q.Lst.length - i) (0) ?_ (⟨Nat.zero_le _,rfl⟩) fun i hi=>?_
 ·repeat'(first|exact trivial|rfl|refine And.intro ?_ ?_)
 obtain⟨hi,ha⟩:=hi
 by_cases li:i<q.Lst.length
 ·have hx:=au li
  repeat'((conv=>whnf);first|with_reducible (first|refine Lm ?_|refine Wm (by omega) ?_|refine Ix.nat (aa hx) ?_|refine dT (by omega) (fun hq=>?_)|refine Bf.E (fun hq=>?_) (fun hq=>?_)|refine Bn ?_|refine Fm rfl ?_)|refine Bt ?_|refine Bu ?_)
  all_goals first
   | exact congrArg (fun z=>[B z]) ((xl hx (decide_eq_true (by assumption))).symm)
   | ((conv=>whnf);refine Nx.mk (i+1) ⟨by omega,sM hx ha (decide_eq_false (by assumption))⟩ (by omega) ?_;(repeat'(first|exact trivial|rfl|refine And.intro ?_ ?_)))
 ·repeat'((conv=>whnf);first|with_reducible (first|refine Lm ?_|refine Wm (by omega) ?_|refine dF (by omega) (fun hq=>?_)|refine Bn ?_|refine Fm rfl ?_)|refine Bt ?_|refine Bu ?_)
  exact congrArg (fun z=>[B z]) ((Do (by omega) ha).symm)
theorem mO (xs:List ax) (i:Nat):quarCells xs (i+1)=quarCells xs i+csz (nth xs i).Class:=rfl
theorem EV (k:Int):0≤csz k∧csz k≤8:=by
 by_cases h:0≤k∧k≤3
 ·rcases d2 h with e|e|e|e<;>rw[e]<;>decide
 ·unfold csz;rw[if_neg h];decide
theorem qE (xs:List ax) (hs:dN xs):af Tryz.prog 211 false [.val none (bh .imm xs)] .one [I (quarCells xs xs.length)]:=by
 have hl:=hs.1
 refine fO (n:=20) [] Tryz.func211 (by kernel_rfl) rfl (by kernel_rfl) (by rfl) (.inr ⟨trivial,trivial⟩) ?_
 repeat'((conv=>whnf);first|with_reducible (first|refine Lm ?_|refine Wm (by omega) ?_|refine Bn ?_|refine Fm rfl ?_)|refine Bt ?_|refine Bu ?_)
 (conv=>whnf)
 refine Lp.mk (ι:=Nat) (fun i=>[(0,.hold .one (bh .imm xs)),(3,.hold .one [I (quarCells xs i)]),(4,.hold .one [I ((i:Nat):Int)])]) (fun i=>i≤xs.length∧0≤quarCells xs i∧quarCells xs i≤8*i) (fun i=>xs.length - i) (0) ?_ (⟨Nat.zero_le _,by simp[quarCells],by simp[quarCells]⟩) fun i hi=>?_
 ·repeat'(first|exact trivial|rfl|refine And.intro ?_ ?_)
 obtain⟨hi,s0,s1⟩:=hi
 by_cases li:i<xs.length
 ·have hx:=au li
  have hb:=EV (nth xs i).Class
  have hst:=mO xs i
  repeat'((conv=>whnf);first|with_reducible (first|refine Lm ?_|refine Wm (by omega) ?_|refine Ix.nat (aa hx) ?_|refine dT (by omega) (fun hq=>?_)|refine Bn ?_|refine Fm rfl ?_)|refine Bt ?_|refine Bu ?_|refine Cl.mk (gr _) ?_)
  ((conv=>whnf);refine Nx.mk (i+1) ⟨by omega,by omega,by omega⟩ (by omega) ?_)
  rw[hst]
  repeat'(first|exact trivial|rfl|refine And.intro ?_ ?_)
 ·repeat'((conv=>whnf);first|with_reducible (first|refine Lm ?_|refine Wm (by omega) ?_|refine dF (by omega) (fun hq=>?_)|refine Bn ?_|refine Fm rfl ?_)|refine Bt ?_|refine Bu ?_)
  obtain rfl:i=xs.length:=by omega
  rfl
theorem mz (xs:List ax) (hs:dN xs):af Tryz.prog 234 false [.val none (bh .imm xs)] .one [I (quarCells xs xs.length)]:=by
 have hl:=hs.1
 refine fO (n:=19) [] Tryz.func234 (by kernel_rfl) rfl (by kernel_rfl) (by rfl) (.inr ⟨trivial,trivial⟩) ?_
 repeat'((conv=>whnf);first|with_reducible (first|refine Lm ?_|refine Wm (by omega) ?_|refine Bn ?_|refine Fm rfl ?_)|refine Bt ?_|refine Bu ?_)
 (conv=>whnf)
 refine Lp.mk (ι:=Nat) (fun i=>[(3,.hold .one [I (quarCells xs i)]),(6,.hold .one (bh .imm xs)),(7,.hold .one [I (xs.length)]),(8,.hold .one [I ((i:Nat):Int)])]) (fun i=>i≤xs.length∧0≤quarCells xs i∧quarCells xs i≤8*i) (fun i=>xs.length - i) (0) ?_ (⟨Nat.zero_le _,by simp[quarCells],by simp[quarCells]⟩) fun i hi=>?_
 ·repeat'(first|exact trivial|rfl|refine And.intro ?_ ?_)
 obtain⟨hi,s0,s1⟩:=hi
 by_cases li:i<xs.length
 ·have hx:=au li
  have hb:=EV (nth xs i).Class
  have hst:=mO xs i
  repeat'((conv=>whnf);first|with_reducible (first|refine Lm ?_|refine Wm (by omega) ?_|refine Ix.nat (aa hx) ?_|refine dT (by omega) (fun hq=>?_)|refine Bn ?_|refine Fm rfl ?_)|refine Bt ?_|refine Bu ?_|refine Cl.mk (dH _) ?_)
  ((conv=>whnf);refine Nx.mk (i+1) ⟨by omega,by omega,by omega⟩ (by omega) ?_)
  rw[hst]
  repeat'(first|exact trivial|rfl|refine And.intro ?_ ?_)
 ·repeat'((conv=>whnf);first|with_reducible (first|refine Lm ?_|refine Wm (by omega) ?_|refine dF (by omega) (fun hq=>?_)|refine Bn ?_|refine Fm rfl ?_)|refine Bt ?_|refine Bu ?_)
  obtain rfl:i=xs.length:=by omega
  rfl
theorem vk (x0:ax):af Tryz.prog 209 false [.val (some 3) (ax.enc .imm x0)] .one [B (decide (0≤x0.Class∧x0.Class≤3∧0≤x0.Addr∧0≤x0.Since))]:=by
 refine fO (n:=16) [] Tryz.func209 (by kernel_rfl) rfl (by kernel_rfl) (by rfl) (.inr ⟨trivial,trivial⟩) ?_
 repeat'((conv=>whnf);first|with_reducible (first|refine Lm ?_|refine Wm (by omega) ?_|refine Bf.D (fun hq=>?_) (fun hq=>?_)|refine Bn ?_|refine Fm rfl ?_)|refine Bt ?_|refine Bu ?_|refine Cl.mk (aP _ 0 3) ?_)
 all_goals exact congrArg (fun z=>[B z]) ((by first|(symm;exact decide_eq_false (by omega))|exact decide_eq_decide.2 (by omega)))
theorem G3 {xs:List ax} (hs:dN xs) (i:Nat):dN (xs.take i):=⟨by have:=hs.1;rw[List.length_take];omega,fun _ _=>trivial⟩
theorem qP (q:aK) (hs:aK.sml q):af Tryz.prog 95 false [.val (some 2) (aK.enc .imm q)] .one [B (eZ q)]:=by
 have hl:q.Lst.length≤1048576:=hs.1
 refine fO (n:=57) [(5,29,[17,18,19,20,21,22,23,24,25,26,27,28,29,30,31,32,33,34,35,36,37,38,39,40,41,42,43,44,45]),(7,11,[46,47,48,49,50,51,52,53,54,55,56])] Tryz.func95 (by kernel_rfl) rfl (by kernel_rfl) (by rfl) (.inr ⟨trivial,trivial⟩) ?_
 repeat'((conv=>whnf);first|with_reducible (first|refine Lm ?_|refine Wm (by omega) ?_|refine Bn ?_|refine Fm rfl ?_)|refine Bt ?_|refine Bu ?_)
 (conv=>whnf)
 refine Lp.mk (ι:=Nat) (fun i=>[(1,.hold .box (aK.enc .imm q)),(3,.hold .one [I ((i:Nat):Int)])]) (fun i=>i≤q.Lst.length∧cD i (iP q.Lst)=true) (fun i=>q.Lst.length - i) 0 ?_ ⟨Nat.zero_le _,rfl⟩ fun i hi=>?_
 ·repeat'(first|exact trivial|rfl|refine And.intro ?_ ?_)
 obtain⟨hi,ai⟩:=hi
 by_cases li:i<q.Lst.length
 ·have hx:=au li
  have h1:=oV ⟨0,q.Lst.take i⟩ (nth q.Lst i).Addr (G3 hs i)
  cases e1:(q.Lst.take i).any (dv (nth q.Lst i).Addr)<;>rw[show(aK.mk 0 (q.Lst.take i)).Lst.any (dv (nth q.Lst i).Addr)=_ from e1]at h1
  all_goals
   repeat'((conv=>whnf);first|with_reducible (first|refine Lm ?_|refine Wm (by omega) ?_|refine Ix.nat (aa hx) ?_|refine dT (by omega) (fun hq=>?_)|refine Bf.D (fun hq=>?_) (fun hq=>?_)|refine Bn ?_|refine Fm rfl ?_)|refine Bt ?_|refine Bu ?_|refine Cl.mk (vk _) ?_|refine Ix.mk (by omega) (aa (eL (by omega) li)) ?_|refine Sl.pre i rfl (by simp;omega) (fun r hr=>by obtain⟨z,-,rfl⟩:=List.mem_map.1 hr;rfl) (List.map_take ..) ?_|refine Cl.mk h1 ?_)
   all_goals first
    | exact congrArg (fun z=>[B z]) ((by symm;unfold eZ;rw[bN li (by unfold iP;first|(rw[e1];simp;done)|(rw[decide_eq_false (by omega)];rfl))];rfl))
    | ((conv=>whnf);refine Nx.mk (i+1) ⟨by omega,b6 ai (by unfold iP;rw[e1,decide_eq_true (by omega)];rfl)⟩ (by omega) ?_;(repeat'(first|exact trivial|rfl|refine And.intro ?_ ?_)))
 ·obtain rfl:i=q.Lst.length:=by omega
  repeat'((conv=>whnf);first|with_reducible (first|refine Lm ?_|refine Wm (by omega) ?_|refine dF (by omega) (fun hq=>?_)|refine Bf.D (fun hq=>?_) (fun hq=>?_)|refine Bn ?_|refine Fm rfl ?_)|refine Bt ?_|refine Bu ?_|refine Cl.mk (aP _ 0 500) ?_|refine Cl.mk (qE q.Lst hs) ?_)
  all_goals exact congrArg (fun z=>[B z]) ((by unfold eZ;rw[ai];simp only[Bool.true_and];first|(symm;exact decide_eq_false (by omega))|exact decide_eq_decide.2 (by omega)))
theorem qA (x0:ax) (a:Int):af Tryz.prog 351 false [.val (some 3) (ax.enc .imm x0),.ptr [I a]] .one [B (dv a x0)]:=by
 refine fO (n:=8) [] Tryz.func351 (by kernel_rfl) rfl (by kernel_rfl) (by rfl) (.inr ⟨trivial,trivial⟩) ?_
 repeat'((conv=>whnf);first|with_reducible (first|refine Lm ?_|refine Wm (by omega) ?_|refine Bn ?_|refine Fm rfl ?_)|refine Bt ?_|refine Bu ?_)
 exact congrArg (fun z=>[B z]) ((by unfold dv;rw[Bool.eq_iff_iff];simp))
theorem tY (xs:List ax) (a:Int) (hl:xs.length≤9223372036854775807):af Tryz.prog 310 false [.val none (bh .imm xs),.val none [I a]] .one [B (xs.any (dv a))]:=by
 refine fO (n:=8) [] Tryz.func310 (by kernel_rfl) rfl (by kernel_rfl) (by rfl) (.inr ⟨trivial,trivial⟩) ?_
 repeat'((conv=>whnf);first|with_reducible (first|refine Lm ?_|refine Wm (by omega) ?_|refine Bn ?_|refine Fm rfl ?_)|refine Bt ?_|refine Bu ?_|refine Cq.mk (uS (some 3) (ax.enc .imm) (dv a) xs) (qA default a).has (fun L k rcs hQ=>?_) ?_|refine Cl.mk (nS xs (dv a) hl) ?_)
 ·obtain⟨y,-,rfl,rfl,rfl⟩:=hQ
  exact qA y a
 ·rfl
def jR (xs:List ax) (x0:ax):Bool:=decide (0≤x0.Class∧x0.Class≤3∧0≤x0.Addr∧0≤x0.Since∧(xs.length=0∨(nth xs (xs.length - 1)).Since≤x0.Since))&&!xs.any (dv x0.Addr)
theorem oN (xs:List ax) (x0:ax) (hl:xs.length≤1048576):af Tryz.prog 233 false [.val none (bh .imm xs),.val (some 3) (ax.enc .imm x0)] .one [B (jR xs x0)]:=by
 have h1:=tY xs x0.Addr (by omega)
 cases e1:xs.any (dv x0.Addr)<;>rw[e1]at h1
 ·by_cases hz:xs.length=0
  ·refine fO (n:=40) [(3,15,[25,26,27,28,29,30,31,32,33,34,35,36,37,38,39])] Tryz.func233 (by kernel_rfl) rfl (by kernel_rfl) (by rfl) (.inr ⟨trivial,trivial⟩) ?_
   repeat'((conv=>whnf);first|with_reducible (first|refine Lm ?_|refine Wm (by omega) ?_|refine Bf.D (fun hq=>?_) (fun hq=>?_)|refine Bf.E (fun hq=>?_) (fun hq=>?_)|refine Bn ?_|refine Fm rfl ?_)|refine Bt ?_|refine Bu ?_|refine Cl.mk (dO _) ?_|refine Cl.mk h1 ?_)
   all_goals first
    | exact congrArg (fun z=>[B z]) ((by unfold jR;rw[e1,Bool.not_false,Bool.and_true];first|(symm;exact decide_eq_false (by omega))|(symm;exact decide_eq_true (by omega))|exact decide_eq_decide.2 (by omega)))
    |(exfalso;omega)
    |trace_state
  ·have hx:xs[((xs.length:Int) - 1).toNat]? = some (nth xs (xs.length - 1)):=by rw[show((xs.length:Int) - 1).toNat=xs.length - 1 by omega];exact au (by omega)
   refine fO (n:=40) [(3,15,[25,26,27,28,29,30,31,32,33,34,35,36,37,38,39])] Tryz.func233 (by kernel_rfl) rfl (by kernel_rfl) (by rfl) (.inr ⟨trivial,trivial⟩) ?_
   repeat'((conv=>whnf);first|with_reducible (first|refine Lm ?_|refine Wm (by omega) ?_|refine Bf.D (fun hq=>?_) (fun hq=>?_)|refine Bf.E (fun hq=>?_) (fun hq=>?_)|refine Bn ?_|refine Fm rfl ?_)|refine Bt ?_|refine Bu ?_|refine Cl.mk (dO _) ?_|refine Cl.mk h1 ?_|refine Ix.mk (by omega) (aa hx) ?_)
   all_goals first
    | exact congrArg (fun z=>[B z]) ((by unfold jR;rw[e1,Bool.not_false,Bool.and_true];first|(symm;exact decide_eq_false (by omega))|(symm;exact decide_eq_true (by omega))|exact decide_eq_decide.2 (by omega)))
    |(exfalso;omega)
    |trace_state
 ·refine fO (n:=40) [(3,15,[25,26,27,28,29,30,31,32,33,34,35,36,37,38,39])] Tryz.func233 (by kernel_rfl) rfl (by kernel_rfl) (by rfl) (.inr ⟨trivial,trivial⟩) ?_
  repeat'((conv=>whnf);first|with_reducible (first|refine Lm ?_|refine Wm (by omega) ?_|refine Bf.D (fun hq=>?_) (fun hq=>?_)|refine Bn ?_|refine Fm rfl ?_)|refine Bt ?_|refine Bu ?_|refine Cl.mk (dO _) ?_|refine Cl.mk h1 ?_)
  all_goals exact congrArg (fun z=>[B z]) ((by unfold jR;rw[e1];simp))
theorem AP {xs:List ax} {i:Nat} (hi:i<xs.length):jR (xs.take i) (nth xs i)=iP xs i:=by
 unfold jR iP
 have h1:(xs.take i).length=i:=by rw[List.length_take];omega
 rw[h1]
 congr 1
 refine decide_eq_decide.2 ?_
 by_cases h0:i=0
 ·subst h0;simp
 ·have h2:nth (xs.take i) (i - 1)=nth xs (i - 1):=by
   have:=au (xs:=xs) (i:=i - 1) (by omega)
   exact bE (by rw[List.getElem?_take_of_lt (by omega)];exact this)
  rw[h2]
theorem q7 (q:aK) (hs:aK.sml q):af Tryz.prog 124 false [.val (some 2) (aK.enc .imm q)] .one [B (eZ q)]:=by
 have hl:q.Lst.length≤1048576:=hs.1
 refine fO (n:=32) [(4,7,[13,14,15,16,17,18,19]),(7,11,[21,22,23,24,25,26,27,28,29,30,31])] Tryz.func124 (by kernel_rfl) rfl (by kernel_rfl) (by rfl) (.inr ⟨trivial,trivial⟩) ?_
 repeat'((conv=>whnf);first|with_reducible (first|refine Lm ?_|refine Wm (by omega) ?_|refine Bn ?_|refine Fm rfl ?_)|refine Bt ?_|refine Bu ?_)
 (conv=>whnf)
 refine Lp.mk (ι:=Nat) (fun i=>[(1,.hold .box (aK.enc .imm q)),(6,.hold .one (bh .imm q.Lst)),(7,.hold .one [I (q.Lst.length)]),(8,.hold .one [I ((i:Nat):Int)])]) (fun i=>i≤q.Lst.length∧cD i (iP q.Lst)=true) (fun i=>q.Lst.length - i) 0 ?_ ⟨Nat.zero_le _,rfl⟩ fun i hi=>?_
 ·repeat'(first|exact trivial|rfl|refine And.intro ?_ ?_)
 obtain⟨hi,ai⟩:=hi
 by_cases li:i<q.Lst.length
 ·have hx:=au li
  have h1:=oN (q.Lst.take i) (nth q.Lst i) (by rw[List.length_take];omega)
  rw[AP li]at h1
  cases e1:iP q.Lst i<;>rw[e1]at h1
  all_goals
   repeat'((conv=>whnf);first|with_reducible (first|refine Lm ?_|refine Wm (by omega) ?_|refine Ix.nat (aa hx) ?_|refine dT (by omega) (fun hq=>?_)|refine Bn ?_|refine Fm rfl ?_)|refine Bt ?_|refine Bu ?_|refine Sl.pre i rfl (by simp;omega) (fun r hr=>by obtain⟨z,-,rfl⟩:=List.mem_map.1 hr;rfl) (List.map_take ..) ?_|refine Cl.mk h1 ?_)
   all_goals first
    | exact congrArg (fun z=>[B z]) ((by symm;unfold eZ;rw[bN li e1];rfl))
    | ((conv=>whnf);refine Nx.mk (i+1) ⟨by omega,b6 ai e1⟩ (by omega) ?_;(repeat'(first|exact trivial|rfl|refine And.intro ?_ ?_)))
 ·obtain rfl:i=q.Lst.length:=by omega
  repeat'((conv=>whnf);first|with_reducible (first|refine Lm ?_|refine Wm (by omega) ?_|refine dF (by omega) (fun hq=>?_)|refine Bf.D (fun hq=>?_) (fun hq=>?_)|refine Bn ?_|refine Fm rfl ?_)|refine Bt ?_|refine Bu ?_|refine Cl.mk (aH _ 0 500) ?_|refine Cl.mk (mz q.Lst hs) ?_)
  all_goals exact congrArg (fun z=>[B z]) ((by unfold eZ;rw[ai];simp only[Bool.true_and];first|(symm;exact decide_eq_false (by omega))|exact decide_eq_decide.2 (by omega)))
end Go.Proofs.YtogajjgmcnjkbaaGreat.Ab
namespace Go.Proofs.YtogajjgmcnjkbaaGreat.Ab
open Go.RowKit
set_option maxRecDepth 20000
set_option maxHeartbeats 4000000
def A7 (h:ac):Prop:=aB.sml h.Kernel.Machine.Table
theorem lX (h:ac) (p:Int) (hs:A7 h):af Tryz.prog 206 false [.val (some 24) (ac.enc .imm h),.val none [I p]] .one (aI .own (bc h p)):=by
 refine fO (n:=23) [] Tryz.func206 (by kernel_rfl) rfl (by kernel_rfl) (by rfl) (.inr (bZ _)) ?_
 repeat'((conv=>whnf);first|with_reducible (first|refine Lm ?_|refine Wm (by omega) ?_|refine Bf.E (fun hq=>?_) (fun hq=>?_)|refine Bn ?_|refine oB.wk rfl ?_)|refine Bt ?_|refine Bu ?_|refine Cl.mk (jn h.Kernel.Machine.Table p hs) ?_|refine Cl.mk (iQ h.Kernel.Machine.Table _ hs) ?_)
 all_goals(unfold bc;first|rw[if_pos (by assumption)]|rw[if_neg (by assumption)])
 all_goals exact⟨rfl,trivial⟩
theorem rj (h:ac) (p:Int) (hs:A7 h):af Tryz.prog 229 false [.val (some 24) (ac.enc .imm h),.val none [I p]] .one (aI .own (bc h p)):=by
 refine fO (n:=22) [] Tryz.func229 (by kernel_rfl) rfl (by kernel_rfl) (by rfl) (.inr (bZ _)) ?_
 repeat'((conv=>whnf);first|with_reducible (first|refine Lm ?_|refine Wm (by omega) ?_|refine Bf.E (fun hq=>?_) (fun hq=>?_)|refine Bn ?_|refine oB.wk rfl ?_)|refine Bt ?_|refine Bu ?_|refine Cl.mk (eQ h.Kernel.Machine.Table p hs) ?_|refine Cl.mk (iM h.Kernel.Machine.Table _ hs) ?_)
 all_goals(unfold bc;first|rw[if_pos (by assumption)]|rw[if_neg (by assumption)])
 all_goals exact⟨rfl,trivial⟩
theorem q9 (k:ao) (p:Int) (hs:aB.sml k.Machine.Table):af Tryz.prog 230 false [.val (some 5) (ao.enc .imm k),.val none [I p]] .one [B (decide ((aF k.Machine.Table p).Mode≠0))]:=by
 refine fO (n:=12) [] Tryz.func230 (by kernel_rfl) rfl (by kernel_rfl) (by rfl) (.inr ⟨trivial,trivial⟩) ?_
 repeat'((conv=>whnf);first|with_reducible (first|refine Lm ?_|refine Wm (by omega) ?_|refine Bn ?_|refine Fm rfl ?_)|refine Bt ?_|refine Bu ?_|refine Cl.mk (eQ k.Machine.Table p hs) ?_)
 exact congrArg (fun z=>[B z]) ((by rw[Bool.eq_iff_iff];simp))
theorem mr (z:Int):af Tryz.prog 128 false [.val none [I z]] .one [B (decide (0≤z∧z≤1073741823))]:=by
 refine fO (n:=5) [] Tryz.func128 (by kernel_rfl) rfl (by kernel_rfl) (by rfl) (.inr ⟨trivial,trivial⟩) ?_
 repeat'((conv=>whnf);first|with_reducible (first|refine Lm ?_|refine Wm (by omega) ?_|refine Bn ?_|refine Fm rfl ?_)|refine Bt ?_|refine Bu ?_|refine Cl.mk (aH z 0 1073741823) ?_)
 rfl
theorem gL (h:ac) (p:Int) (hl:h.Spans.length≤1048576):af Tryz.prog 101 false [.val (some 24) (ac.enc .imm h),.val none [I p]] .one [I (eX h p)]:=by
 refine fO (n:=22) [] Tryz.func101 (by kernel_rfl) rfl (by kernel_rfl) (by rfl) (.inr ⟨trivial,trivial⟩) ?_
 repeat'((conv=>whnf);first|with_reducible (first|refine Lm ?_|refine Wm (by omega) ?_|refine Bn ?_|refine Fm rfl ?_)|refine Bt ?_|refine Bu ?_)
 (conv=>whnf)
 refine Lp.mk (ι:=Nat) (fun i=>[(1,.hold .one [I (p)]),(2,.hold .box (ac.enc .imm h)),(5,.hold .one [I ((i:Nat):Int)])]) (fun i=>i≤h.Spans.length∧∀ (j:Nat) (z:am),j<i→h.Spans[j]? = some z→iA p z=false) (fun i=>h.Spans.length - i) (0) ?_ (⟨Nat.zero_le _,fun j z hj=>by omega⟩) fun i hi=>?_
 ·repeat'(first|exact trivial|rfl|refine And.intro ?_ ?_)
 obtain⟨hi,ai⟩:=hi
 by_cases li:i<h.Spans.length
 ·have hx:=au li
  repeat'((conv=>whnf);first|with_reducible (first|refine Lm ?_|refine Wm (by omega) ?_|refine Ix.nat (aa hx) ?_|refine dT (by omega) (fun hq=>?_)|refine Bf.E (fun hq=>?_) (fun hq=>?_)|refine Bn ?_|refine Fm rfl ?_)|refine Bt ?_|refine Bu ?_)
  all_goals first
   | exact congrArg (fun z=>[I z]) (fj hx (decide_eq_true (by assumption)) ai).symm
   | ((conv=>whnf);refine Nx.mk (i+1) ⟨by omega,fD hx (decide_eq_false (by assumption)) ai⟩ (by omega) ?_;(repeat'(first|exact trivial|rfl|refine And.intro ?_ ?_)))
 ·repeat'((conv=>whnf);first|with_reducible (first|refine Lm ?_|refine Wm (by omega) ?_|refine dF (by omega) (fun hq=>?_)|refine Bn ?_|refine Fm rfl ?_)|refine Bt ?_|refine Bu ?_)
  exact congrArg (fun z=>[I z]) (jw (by omega) ai).symm
theorem ve (s:am) (p:Int):af Tryz.prog 244 false [.val (some 3) (am.enc .imm s),.ptr [I p]] .one [B (iA p s)]:=by
 refine fO (n:=8) [] Tryz.func244 (by kernel_rfl) rfl (by kernel_rfl) (by rfl) (.inr ⟨trivial,trivial⟩) ?_
 repeat'((conv=>whnf);first|with_reducible (first|refine Lm ?_|refine Wm (by omega) ?_|refine Bn ?_|refine Fm rfl ?_)|refine Bt ?_|refine Bu ?_)
 exact congrArg (fun z=>[B z]) ((by unfold iA;rw[Bool.eq_iff_iff];simp))
theorem qQ (h:ac) (p:Int) (hl:h.Spans.length≤1048576):af Tryz.prog 130 false [.val (some 24) (ac.enc .imm h),.val none [I p]] .one [I (eX h p)]:=by
 refine fO (n:=9) [] Tryz.func130 (by kernel_rfl) rfl (by kernel_rfl) (by rfl) (.inr ⟨trivial,trivial⟩) ?_
 repeat'((conv=>whnf);first|with_reducible (first|refine Lm ?_|refine Wm (by omega) ?_|refine Bn ?_|refine Fm rfl ?_)|refine Bt ?_|refine Bu ?_|refine Cq.mk (uS (some 3) (am.enc .imm) (iA p) h.Spans) (ve default p).has (fun L k rcs hQ=>?_) ?_|refine Cl.mk (sR h.Spans (iA p) (by omega)) ?_)
 ·obtain⟨y,-,rfl,rfl,rfl⟩:=hQ
  exact ve y p
 ·rfl
def flight1 (m:aG) (i:Nat):List Int:=(m.Buffers.take i).flatMap fun l=>l.map (·.Addr)
def flight2 (m:aG) (i:Nat):List Int:=(m.Inbox.take i).flatten
theorem lu {m:aG} {i:Nat} {l:List aJ} (h:m.Buffers[i]? = some l):flight1 m (i+1)=flight1 m i++l.map (·.Addr):=by
 unfold flight1;rw[List.take_add_one,h,List.flatMap_append];simp
theorem lI {m:aG} {i:Nat} {l:List Int} (h:m.Inbox[i]? = some l):flight2 m (i+1)=flight2 m i++l:=by
 unfold flight2;rw[List.take_add_one,h,List.flatten_append];simp
theorem mD {m:aG} (h:dC m=true):aX m=flight1 m m.Buffers.length++flight2 m m.Inbox.length:=by
 unfold aX flight1 flight2;rw[if_pos h,List.take_length,List.take_length]
theorem qC {m:aG} (h:dC m=false):aX m=[]:=by
 unfold aX;rw[h];rfl
theorem lH {m:aG} (h:dC m=true):1≤m.Buffers.length∧m.Buffers.length≤4∧m.Inbox.length=m.Buffers.length:=by
 unfold dC at h;simp only[Bool.and_eq_true,decide_eq_true_eq]at h;exact h.1.1
theorem yO {l:List Int} : ∀ r∈l.map (rI .imm),r.length=1:=by
 intro r hr;obtain⟨z,-,rfl⟩:=List.mem_map.1 hr;rfl
theorem Dr {l:List Int} : ∀ r∈l.map (rI .imm),aQ r=true:=by
 intro r hr;obtain⟨z,-,rfl⟩:=List.mem_map.1 hr;rfl
theorem tP (m:aG) (hs:aG.sml m):af Tryz.prog 214 false [.val (some 2) (aG.enc .imm m)] .one (aI .own (aX m)):=by
 have h1:=qG m hs
 cases e1:dC m<;>rw[e1]at h1
 ·refine fO (n:=56) [] Tryz.func214 (by kernel_rfl) rfl (by kernel_rfl) (by rfl) (.inr (bZ _)) ?_
  repeat'((conv=>whnf);first|with_reducible (first|refine Lm ?_|refine Wm (by omega) ?_|refine Bn ?_|refine oB.wk rfl ?_)|refine Bt ?_|refine Bu ?_|refine Cl.mk h1 ?_)
  all_goals(rw[qC e1];exact⟨rfl,trivial⟩)
 ·obtain⟨n1,n2,n3⟩:=lH e1
  refine fO (n:=56) [] Tryz.func214 (by kernel_rfl) rfl (by kernel_rfl) (by rfl) (.inr (bZ _)) ?_
  repeat'((conv=>whnf);first|with_reducible (first|refine Lm ?_|refine Wm (by omega) ?_|refine Bn ?_|refine Fm rfl ?_)|refine Bt ?_|refine Bu ?_|refine Cl.mk h1 ?_)
  (conv=>whnf)
  refine Lp.mk (ι:=Nat × List Int) (fun i=>[(1,.hold .box (aG.enc .imm m)),(3,.hold .one (aI .own i.2)),(4,.hold .one [I ((i.1:Nat):Int)])]) (fun i=>i.1≤m.Buffers.length∧i.2=flight1 m i.1∧i.2.length≤1048576*i.1) (fun i=>m.Buffers.length - i.1) ((0,[])) ?_ (⟨Nat.zero_le _,rfl,Nat.zero_le _⟩) fun i hi=>?_
  ·repeat'(first|exact trivial|rfl|refine And.intro ?_ ?_)
  obtain⟨i,S⟩:=i
  obtain⟨hi,hS,hb⟩:=hi
  simp only at hi hS hb ⊢
  by_cases li:i<m.Buffers.length
  ·have hx:=au li
   have hb1:(nth m.Buffers i).length≤1048576:=(hs.1.2 _ (ay li)).1
   repeat'((conv=>whnf);first|with_reducible (first|refine Lm ?_|refine Wm (by omega) ?_|refine Ix.nat (aa hx) ?_|refine dT (by omega) (fun hq=>?_)|refine Bn ?_|refine Fm rfl ?_)|refine Bt ?_|refine Bu ?_)
   (conv=>whnf)
   refine Lp.mk (ι:=Nat × List Int) (fun k=>[(1,.hold .box (aG.enc .imm m)),(3,.hold .one (aI .own k.2)),(4,.hold .one [I ((i:Nat):Int)]),(5,.hold .one [I ((k.1:Nat):Int)])]) (fun k=>k.1≤(nth m.Buffers i).length∧k.2=S++((nth m.Buffers i).take k.1).map (·.Addr)) (fun k=>(nth m.Buffers i).length - k.1) ((0,S)) ?_ (⟨Nat.zero_le _,by simp⟩) fun k hk=>?_
   ·repeat'(first|exact trivial|rfl|refine And.intro ?_ ?_)
   obtain⟨k,S'⟩:=k
   obtain⟨hk,hS'⟩:=hk
   simp only at hk hS' ⊢
   have hl':S'.length=S.length+k:=by rw[hS',List.length_append,List.length_map,List.length_take];omega
   by_cases lk:k<(nth m.Buffers i).length
   ·have hz:=au lk
    repeat'((conv=>whnf);first|with_reducible (first|refine Lm ?_|refine Wm (by omega) ?_|refine Ix.nat (aa hx) ?_|refine Ix.nat (aa hz) ?_|refine dT (by omega) (fun hq=>?_)|refine Bn ?_|refine Fm rfl ?_)|refine Bt ?_|refine Bu ?_|refine Ap.mk dl (fun r hr=>by rw[List.mem_singleton.1 hr];rfl) (by simp[aQ,dU]) (by simp;omega) (by show _*8≤_;simp;omega) rfl ?_)
    ((conv=>whnf)
     refine Nx.mk (k+1,S'++[(nth (nth m.Buffers i) k).Addr]) ⟨(by simp only;omega),(by simp only;rw[hS',List.take_add_one,hz,List.map_append,List.append_assoc];simp)⟩ (by simp only;omega) ?_
     (repeat'(first|exact trivial|rfl|exact And.intro rfl (And.intro (congrArg (C.s dy.own) (by simp[rI])) trivial)|refine And.intro ?_ ?_)))
   ·obtain rfl:k=(nth m.Buffers i).length:=by omega
    rw[List.take_length]at hS'
    repeat'((conv=>whnf);first|with_reducible (first|refine Lm ?_|refine Wm (by omega) ?_|refine Ix.nat (aa hx) ?_|refine dF (by omega) (fun hq=>?_)|refine Bn ?_|refine Fm rfl ?_)|refine Bt ?_|refine Bu ?_)
    ((conv=>whnf);refine Nx.mk (i+1,S') ⟨(by simp only;omega),(by simp only;rw[lu hx,←hS,hS']),(by simp only;omega)⟩ (by simp only;omega) ?_;(repeat'(first|exact trivial|rfl|refine And.intro ?_ ?_)))
  ·obtain rfl:i=m.Buffers.length:=by omega
   repeat'((conv=>whnf);first|with_reducible (first|refine Lm ?_|refine Wm (by omega) ?_|refine dF (by omega) (fun hq=>?_)|refine Bn ?_|refine Fm rfl ?_)|refine Bt ?_|refine Bu ?_)
   (conv=>whnf)
   refine Lp.mk (ι:=Nat × List Int) (fun k=>[(1,.hold .box (aG.enc .imm m)),(3,.hold .one (aI .own k.2)),(6,.hold .one [I ((k.1:Nat):Int)])]) (fun k=>k.1≤m.Inbox.length∧k.2=S++flight2 m k.1∧k.2.length≤S.length+1048576*k.1) (fun k=>m.Inbox.length - k.1) ((0,S)) ?_ (⟨Nat.zero_le _,by simp[flight2],by simp⟩) fun k hk=>?_
   ·repeat'(first|exact trivial|rfl|refine And.intro ?_ ?_)
   obtain⟨k,S'⟩:=k
   obtain⟨hk,hS',hb'⟩:=hk
   simp only at hk hS' hb' ⊢
   by_cases lk:k<m.Inbox.length
   ·have hz:=au lk
    have hb2:(nth m.Inbox k).length≤1048576:=hs.2.2 _ (ay lk)
    repeat'((conv=>whnf);first|with_reducible (first|refine Lm ?_|refine Wm (by omega) ?_|refine Ix.nat (aa hz) ?_|refine dT (by omega) (fun hq=>?_)|refine Bn ?_|refine Fm rfl ?_)|refine Bt ?_|refine Bu ?_|refine Ap.mk dl yO (fun _=>Dr) (by simp;omega) (by show _*8≤_;simp;omega) rfl ?_)
    ((conv=>whnf)
     refine Nx.mk (k+1,S'++nth m.Inbox k) ⟨(by simp only;omega),(by simp only;rw[lI hz,hS',List.append_assoc]),(by simp only;rw[List.length_append];omega)⟩ (by simp only;omega) ?_
     (repeat'(first|exact trivial|rfl|exact And.intro rfl (And.intro (congrArg (C.s dy.own) (by simp[rI])) trivial)|refine And.intro ?_ ?_)))
   ·obtain rfl:k=m.Inbox.length:=by omega
    repeat'((conv=>whnf);first|with_reducible (first|refine Lm ?_|refine Wm (by omega) ?_|refine dF (by omega) (fun hq=>?_)|refine Bn ?_|refine Fm rfl ?_)|refine Bt ?_|refine Bu ?_)
    rw[mD e1,←hS,←hS'];rfl
theorem uO (m:aG) (hs:aG.sml m):af Tryz.prog 240 false [.val (some 2) (aG.enc .imm m)] .one (aI .own (aX m)):=by
 have h1:=qF m hs
 cases e1:dC m<;>rw[e1]at h1
 ·refine fO (n:=46) [] Tryz.func240 (by kernel_rfl) rfl (by kernel_rfl) (by rfl) (.inr (bZ _)) ?_
  repeat'((conv=>whnf);first|with_reducible (first|refine Lm ?_|refine Wm (by omega) ?_|refine Bn ?_|refine oB.wk rfl ?_)|refine Bt ?_|refine Bu ?_|refine Cl.mk h1 ?_)
  all_goals(rw[qC e1];exact⟨rfl,trivial⟩)
 ·obtain⟨n1,n2,n3⟩:=lH e1
  refine fO (n:=46) [] Tryz.func240 (by kernel_rfl) rfl (by kernel_rfl) (by rfl) (.inr (bZ _)) ?_
  repeat'((conv=>whnf);first|with_reducible (first|refine Lm ?_|refine Wm (by omega) ?_|refine Bn ?_|refine Fm rfl ?_)|refine Bt ?_|refine Bu ?_|refine Cl.mk h1 ?_)
  (conv=>whnf)
  refine Lp.mk (ι:=Nat × List Int) (fun i=>[(1,.hold .box (aG.enc .imm m)),(3,.hold .one (aI .own i.2)),(15,.hold .one (dm .imm m.Buffers)),(16,.hold .one [I (m.Buffers.length)]),(17,.hold .one [I ((i.1:Nat):Int)])]) (fun i=>i.1≤m.Buffers.length∧i.2=flight1 m i.1∧i.2.length≤1048576*i.1) (fun i=>m.Buffers.length - i.1) ((0,[])) ?_ (⟨Nat.zero_le _,rfl,Nat.zero_le _⟩) fun i hi=>?_
  ·repeat'(first|exact trivial|rfl|refine And.intro ?_ ?_)
  obtain⟨i,S⟩:=i
  obtain⟨hi,hS,hb⟩:=hi
  simp only at hi hS hb ⊢
  by_cases li:i<m.Buffers.length
  ·have hx:=au li
   have hb1:(nth m.Buffers i).length≤1048576:=(hs.1.2 _ (ay li)).1
   repeat'((conv=>whnf);first|with_reducible (first|refine Lm ?_|refine Wm (by omega) ?_|refine Ix.nat (aa hx) ?_|refine dT (by omega) (fun hq=>?_)|refine Bn ?_|refine Fm rfl ?_)|refine Bt ?_|refine Bu ?_)
   (conv=>whnf)
   refine Lp.mk (ι:=Nat × List Int) (fun k=>[(1,.hold .box (aG.enc .imm m)),(3,.hold .one (aI .own k.2)),(15,.hold .one (dm .imm m.Buffers)),(16,.hold .one [I (m.Buffers.length)]),(17,.hold .one [I ((i:Nat):Int)]),(21,.hold .one (br .imm (nth m.Buffers i))),(22,.hold .one [I ((nth m.Buffers i).length)]),(23,.hold .one [I ((k.1:Nat):Int)])]) (fun k=>k.1≤(nth m.Buffers i).length∧k.2=S++((nth m.Buffers i).take k.1).map (·.Addr)) (fun k=>(nth m.Buffers i).length - k.1) ((0,S)) ?_ (⟨Nat.zero_le _,by simp⟩) fun k hk=>?_
   ·repeat'(first|exact trivial|rfl|refine And.intro ?_ ?_)
   obtain⟨k,S'⟩:=k
   obtain⟨hk,hS'⟩:=hk
   simp only at hk hS' ⊢
   have hl':S'.length=S.length+k:=by rw[hS',List.length_append,List.length_map,List.length_take];omega
   by_cases lk:k<(nth m.Buffers i).length
   ·have hz:=au lk
    repeat'((conv=>whnf);first|with_reducible (first|refine Lm ?_|refine Wm (by omega) ?_|refine Ix.nat (aa hz) ?_|refine dT (by omega) (fun hq=>?_)|refine Bn ?_|refine Fm rfl ?_)|refine Bt ?_|refine Bu ?_|refine Ap.mk dl (fun r hr=>by rw[List.mem_singleton.1 hr];rfl) (by simp[aQ,dU]) (by simp;omega) (by show _*8≤_;simp;omega) rfl ?_)
    ((conv=>whnf)
     refine Nx.mk (k+1,S'++[(nth (nth m.Buffers i) k).Addr]) ⟨(by simp only;omega),(by simp only;rw[hS',List.take_add_one,hz,List.map_append,List.append_assoc];simp)⟩ (by simp only;omega) ?_
     (repeat'(first|exact trivial|rfl|exact And.intro rfl (And.intro (congrArg (C.s dy.own) (by simp[rI])) trivial)|refine And.intro ?_ ?_)))
   ·obtain rfl:k=(nth m.Buffers i).length:=by omega
    rw[List.take_length]at hS'
    repeat'((conv=>whnf);first|with_reducible (first|refine Lm ?_|refine Wm (by omega) ?_|refine dF (by omega) (fun hq=>?_)|refine Bn ?_|refine Fm rfl ?_)|refine Bt ?_|refine Bu ?_)
    ((conv=>whnf);refine Nx.mk (i+1,S') ⟨(by simp only;omega),(by simp only;rw[lu hx,←hS,hS']),(by simp only;omega)⟩ (by simp only;omega) ?_;(repeat'(first|exact trivial|rfl|refine And.intro ?_ ?_)))
  ·obtain rfl:i=m.Buffers.length:=by omega
   repeat'((conv=>whnf);first|with_reducible (first|refine Lm ?_|refine Wm (by omega) ?_|refine dF (by omega) (fun hq=>?_)|refine Bn ?_|refine Fm rfl ?_)|refine Bt ?_|refine Bu ?_)
   (conv=>whnf)
   refine Lp.mk (ι:=Nat × List Int) (fun k=>[(3,.hold .one (aI .own k.2)),(35,.hold .one (d5 .imm m.Inbox)),(36,.hold .one [I (m.Inbox.length)]),(37,.hold .one [I ((k.1:Nat):Int)])]) (fun k=>k.1≤m.Inbox.length∧k.2=S++flight2 m k.1∧k.2.length≤S.length+1048576*k.1) (fun k=>m.Inbox.length - k.1) ((0,S)) ?_ (⟨Nat.zero_le _,by simp[flight2],by simp⟩) fun k hk=>?_
   ·repeat'(first|exact trivial|rfl|refine And.intro ?_ ?_)
   obtain⟨k,S'⟩:=k
   obtain⟨hk,hS',hb'⟩:=hk
   simp only at hk hS' hb' ⊢
   by_cases lk:k<m.Inbox.length
   ·have hz:=au lk
    have hb2:(nth m.Inbox k).length≤1048576:=hs.2.2 _ (ay lk)
    repeat'((conv=>whnf);first|with_reducible (first|refine Lm ?_|refine Wm (by omega) ?_|refine Ix.nat (aa hz) ?_|refine dT (by omega) (fun hq=>?_)|refine Bn ?_|refine Fm rfl ?_)|refine Bt ?_|refine Bu ?_|refine Ap.mk dl yO (fun _=>Dr) (by simp;omega) (by show _*8≤_;simp;omega) rfl ?_)
    ((conv=>whnf)
     refine Nx.mk (k+1,S'++nth m.Inbox k) ⟨(by simp only;omega),(by simp only;rw[lI hz,hS',List.append_assoc]),(by simp only;rw[List.length_append];omega)⟩ (by simp only;omega) ?_
     (repeat'(first|exact trivial|rfl|exact And.intro rfl (And.intro (congrArg (C.s dy.own) (by simp[rI])) trivial)|refine And.intro ?_ ?_)))
   ·obtain rfl:k=m.Inbox.length:=by omega
    repeat'((conv=>whnf);first|with_reducible (first|refine Lm ?_|refine Wm (by omega) ?_|refine dF (by omega) (fun hq=>?_)|refine Bn ?_|refine Fm rfl ?_)|refine Bt ?_|refine Bu ?_)
    rw[mD e1,←hS,←hS'];rfl
end Go.Proofs.YtogajjgmcnjkbaaGreat.Ab
