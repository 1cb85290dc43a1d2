/- Freeing: the program's functions: a span given back, a slot made free, an address used again. No condition. -/
import Derived.Test.YtplcalfnngkffaaGreatMg
import Derived.Test.YtplcalfnngkffaaGreatMk
set_option linter.unusedVariables false

namespace Go.Proofs.YtplcalfnngkffaaGreat.Ab
open Go.RowKit
set_option maxRecDepth 20000
set_option maxHeartbeats 4000000
theorem Dy {c c':C} (h:c'=c):Me c c':=by subst h;exact mu _
theorem Kx (k:af) (p:Int):jy k p 1=dt k p:=by show dt k (p+((0:Nat):Int))=_;rw[show p+((0:Nat):Int)=p by omega]
theorem zQ {h:ac} (hne:h.Spans≠[]):eN h=cE h (.s .own (h.Spans.map (am.enc .own))) (oL h) (oO h):=by
 unfold eN oS;rw[M1 fun e=>hne (List.map_eq_nil_iff.1 e)]
theorem ND (h:ac):oL h=.s .own (h.Larges.map (au.enc .own))∨(h.Larges=[]∧oL h=.s .imm []):=by
 rcases DQ (rows:=h.Larges.map (au.enc .own)) with e|⟨e1,e2⟩
 ·exact .inl e
 ·exact .inr ⟨List.map_eq_nil_iff.1 e1,e2⟩
theorem wj {α:Type} {xs:List α} {i:Nat} (h:i<xs.length):xs≠[]:=fun e=>by subst e;cases h
theorem xk (h:ac) (i:Nat) (hk:aH h.Kernel=true) (hc:h.Kernel.Calls≠100000) (hfl:h.Free.length≤1048576) (li:i<h.Spans.length) (hls:h.Spans.length≤1048576) (hp:0≤(nth h.Spans i).Page∧(nth h.Spans i).Page≤31) :
  aV Tryz.prog 287 false [.ptr (eN h),.val none [I (i:Nat)]] [.ptr (eN (GM h i)),.val none [I (i:Nat)]] (.tup []) []:=by
 have hx:=ao li
 have c1:=Ep h.Spans i li
 have c2:=uV {h with Spans:=dele h.Spans i} ⟨(nth h.Spans i).Page,1⟩ 1 hk hc hfl ⟨rfl,hp.1,by show(nth h.Spans i).Page≤1000;omega,by omega⟩
 rw[show jy ({h with Spans:=dele h.Spans i} : ac).Kernel (ar.mk (nth h.Spans i).Page 1).At 1=dt h.Kernel (nth h.Spans i).Page from Kx _ _]at c2
 have hg:eN {h with Spans:=dele h.Spans i} = cE h (oE ((dele h.Spans i).map (am.enc .own))) (oL h) (oO h):=rfl
 rw[zQ (wj li)]
 rcases DQ (rows:=(dele h.Spans i).map (am.enc .own)) with e|⟨-,e⟩
 all_goals
  rw[hg]at c2
  rw[e]at c1 c2
  refine fM 28 [(358,[1,0,0]),(359,[2,0])] [] [(0,0),(0,0)] Tryz.func287 rfl (fun u q=>?_) (.inr trivial)
  repeat'(first|refine gO ?_|(conv=>whnf);first|with_reducible refine Ix.nat (aa hx) ?_|refine Sm.rf ?_|refine Rw.one rfl (aa hx) rfl ?_|refine er.mk (c1) (.inl rfl) ?_|refine er.mk (c2) (.inl rfl) ?_)
  refine bK.mk rfl rfl ?_
  exact wB
theorem MP {h:ac} {E:List Int} (hi:df h E) {i:Nat} (li:i<h.Spans.length) {a:Int} (hs:i7 (nth h.Spans i) a):denotes h.Spans h.Larges a = ⟨1,i,dI (nth h.Spans i) a,0⟩:=by
 rw[gH hi.L li ⟨hs.1,hs.2.1⟩]
 unfold nE
 rw[hs.2.2.2,hs.2.2.1];rfl
theorem uk (h:ac) (E:List Int) (a:Int) (hi:df h (a::E)) (hc:h.Kernel.Calls≠100000):aV Tryz.prog 205 false [.ptr (eN h),.val none [I a]] [.ptr (eN (freeA h a)),.val none [I a]] (.tup []) []:=by
 obtain⟨li,hs,hon⟩:=hi.at (hi.hin a (List.mem_cons_self ..))
 have hbd:=(hi.hin a (List.mem_cons_self ..)).bd hi
 have hl:=hi.lens
 have hls:=hl.spans
 have hll:=hl.larges
 unfold freeA
 generalize vd h a=i at li hs
 have hso:=hi.L.sok _ (aC li)
 have hcl:=aR hso
 have hx:=ao li
 have c1:=mI h.Spans h.Larges a ⟨by omega,fun _ _=>trivial⟩ ⟨by omega,fun _ _=>trivial⟩
 rw[MP hi li hs]at c1
 have c3:=xd (nth h.Spans i) (dI (nth h.Spans i) a) hso hs.2.2.2
 have hg:=hi.give li hs
 have c4:=Jx (j7 h i a) (nth h.Spans i).Page
 rw[show m6 (j7 h i a) (nth h.Spans i).Page=m6 h (nth h.Spans i).Page from rfl]at c4
 have hlc:i<(j7 h i a).Spans.length:=by unfold j7;simp only[List.length_set];exact li
 have hpc:(nth (j7 h i a).Spans i).Page=(nth h.Spans i).Page:=by unfold j7;simp only[eL,true_and];rw[if_pos li];rfl
 have c5:=xk (j7 h i a) i hi.ker hc (by show h.Free.length≤_;have:=hl.free;omega) hlc (by unfold j7;simp only[List.length_set];omega) (by rw[hpc];omega)
 have hcs:eN (j7 h i a)=cE h (.s .own ((h.Spans.map (am.enc .own)).set i (am.enc .own (kD (nth h.Spans i) (dI (nth h.Spans i) a))))) (oL h) (oO h):=by
  rw[zQ (wj hlc)]
  show cE h (.s .own ((h.Spans.set i _).map _)) (oL h) (oO h)=_
  rw[List.map_set]
 have hz:=jY (j7 h i a)
 rw[hcs]at hz c5
 have hy:((h.Spans.map (am.enc .own)).set i (am.enc .own (kD (nth h.Spans i) (dI (nth h.Spans i) a))))[i]? = some (am.enc .own (kD (nth h.Spans i) (dI (nth h.Spans i) a))):=rq li
 rw[zQ (wj li)]
 have hzl:=ME h
 unfold freeS
 rcases ND h with e|⟨hle,e⟩
 all_goals
  try rw[hle]at c1
  rw[e]at c5 hz hzl hcs ⊢
  by_cases e1:(kD (nth h.Spans i) (dI (nth h.Spans i) a)).Bits=0
  ·cases e2:m6 h (nth h.Spans i).Page<;>rw[e2]at c4
   ·rw[if_pos ⟨e1,rfl⟩]
    refine fM 64 [(287,[2,0])] [(0,11,[6,7,8,9,10,11,12,13,14,15,4]),(2,277,[20,21,22,23,24,25,26,27,28,29,30,31,32,33,34,35,36,19,37,38,39,0,1,2,3,4,5,6,7,8,9,10,11,12,13,14,15,16,17,18,19,20,21,1019]),(3,9,[40,41,42,43,44,45,46,47,5]),(4,9,[48,49,50,51,52,53,54,55,56])] [(0,0),(0,0)] Tryz.func205 rfl (fun u q=>?_) (.inr trivial)
    repeat'(first|refine gA ?_|(conv=>whnf);first|refine Sm.rf ?_|refine Cl.eq (c1) ⟨⟨rfl,fp _⟩,⟨rfl,lm _⟩,⟨rfl,rfl⟩,trivial⟩ ?_|refine Cl.eq (c1) ⟨⟨rfl,fp _⟩,⟨rfl,rfl⟩,⟨rfl,rfl⟩,trivial⟩ ?_|refine Ix.nat (aa hx) ?_|refine Ix.nat hy ?_|refine Rw.one rfl (aa hx) rfl ?_|refine Rw.one rfl hy rfl ?_|refine Cl.mk (c3) ?_|refine Sm.rf ?_|refine Pu.one rfl rfl (aa hx) rfl (Nat.le_of_ble_eq_true rfl) rfl ?_|refine Cl.eq (c4) ⟨⟨rfl,hz⟩,⟨rfl,rfl⟩,trivial⟩ ?_|refine er.mk (c5) (.inl rfl) ?_)
    refine bK.mk rfl rfl ?_
    exact wB
   ·rw[if_neg (fun x=>by cases x.2),hcs]
    refine fM 64 [(287,[2,0])] [(0,11,[6,7,8,9,10,11,12,13,14,15,4]),(2,277,[20,21,22,23,24,25,26,27,28,29,30,31,32,33,34,35,36,19,37,38,39,0,1,2,3,4,5,6,7,8,9,10,11,12,13,14,15,16,17,18,19,20,21,1019]),(3,9,[40,41,42,43,44,45,46,47,5]),(4,9,[48,49,50,51,52,53,54,55,56])] [(0,0),(0,0)] Tryz.func205 rfl (fun u q=>?_) (.inr trivial)
    repeat'(first|refine gA ?_|(conv=>whnf);first|refine Sm.rf ?_|refine Cl.eq (c1) ⟨⟨rfl,fp _⟩,⟨rfl,lm _⟩,⟨rfl,rfl⟩,trivial⟩ ?_|refine Cl.eq (c1) ⟨⟨rfl,fp _⟩,⟨rfl,rfl⟩,⟨rfl,rfl⟩,trivial⟩ ?_|refine Ix.nat (aa hx) ?_|refine Ix.nat hy ?_|refine Rw.one rfl (aa hx) rfl ?_|refine Rw.one rfl hy rfl ?_|refine Cl.mk (c3) ?_|refine Sm.rf ?_|refine Pu.one rfl rfl (aa hx) rfl (Nat.le_of_ble_eq_true rfl) rfl ?_|refine Cl.eq (c4) ⟨⟨rfl,hz⟩,⟨rfl,rfl⟩,trivial⟩ ?_|refine er.mk (c5) (.inl rfl) ?_)
    refine bK.mk rfl rfl ?_
    exact wB
  ·rw[if_neg (fun x=>e1 x.1),hcs]
   refine fM 64 [(287,[2,0])] [(0,11,[6,7,8,9,10,11,12,13,14,15,4]),(2,277,[20,21,22,23,24,25,26,27,28,29,30,31,32,33,34,35,36,19,37,38,39,0,1,2,3,4,5,6,7,8,9,10,11,12,13,14,15,16,17,18,19,20,21,1019]),(3,9,[40,41,42,43,44,45,46,47,5]),(4,9,[48,49,50,51,52,53,54,55,56])] [(0,0),(0,0)] Tryz.func205 rfl (fun u q=>?_) (.inr trivial)
   repeat'(first|refine gA ?_|(conv=>whnf);first|refine Sm.rf ?_|refine Cl.eq (c1) ⟨⟨rfl,fp _⟩,⟨rfl,lm _⟩,⟨rfl,rfl⟩,trivial⟩ ?_|refine Cl.eq (c1) ⟨⟨rfl,fp _⟩,⟨rfl,rfl⟩,⟨rfl,rfl⟩,trivial⟩ ?_|refine Ix.nat (aa hx) ?_|refine Ix.nat hy ?_|refine Rw.one rfl (aa hx) rfl ?_|refine Rw.one rfl hy rfl ?_|refine Cl.mk (c3) ?_|refine Sm.rf ?_|refine Pu.one rfl rfl (aa hx) rfl (Nat.le_of_ble_eq_true rfl) rfl ?_|refine Cl.eq (c4) ⟨⟨rfl,hz⟩,⟨rfl,rfl⟩,trivial⟩ ?_|refine er.mk (c5) (.inl rfl) ?_)
   refine bK.mk rfl rfl ?_
   exact wB
end Go.Proofs.YtplcalfnngkffaaGreat.Ab
/- All objects of a thread freed: the reference's contract. No condition. -/
namespace Go.Proofs.YtplcalfnngkffaaGreat.Ab
open Go.RowKit
set_option maxRecDepth 20000
set_option maxHeartbeats 4000000
theorem FA.sml {h:ac} {t n:Nat} (f:FA h t n) (hs:ac.sml h):ac.sml (bJ h t n).1:=
 f.inv.lens.sml f.inv.ker (by rw[f.mail];exact hs.2.2.2.2.2.2.1) (by rw[f.job];exact hs.2.2.2.2.2.2.2.2)
end Go.Proofs.YtplcalfnngkffaaGreat.Ab
/- A cache spilt. No condition. -/
namespace Go.Proofs.YtplcalfnngkffaaGreat.Ab
open Go.RowKit
set_option maxRecDepth 20000
set_option maxHeartbeats 4000000
theorem ez.frz_at {w:World} {S F:ab} {rows:List (List C)} {v:Value} {i:Nat} {c:C} (h:ez w S F (.s .own rows) v) (hr:rows[i]? = some [c]):∃ V:ab,(∀ b o,V b o→F b o)∧ez w (fun b o=>S b o∨V b o) (fun b o=>F b o∧¬V b o) (.s .own (rows.set i [fz c])) v:=by
 cases h with
 | nil _ o a ho=>simp at hr
 | own _ o g k n cap rows u f ho hn hk hcap hpos hF hu hf hd hc=>
  have hi:i<rows.length:=(List.getElem?_eq_some_iff.1 hr).1
  obtain rfl:k=1:=by rw[←hk [c] (List.mem_of_getElem? hr)];rfl
  simp only[Nat.mul_one]at hF hu hf hd hc
  refine⟨f i,fun b o hb=>(hf i (by omega) b o hb).1,?_⟩
  refine .own _ .own g 1 n cap _ u (fun q=>if q=i then NO else f q) ho (by simpa using hn) (fun r h=>?_) hcap hpos (fun q hq=>?_) (fun q hq=>hu q (by omega)) (fun q hq b o hb=>?_) (fun q q' hq hq' hne b o hb hb'=>?_) (fun i2 j2 r c2 hi2 hj2=>?_)
  ·rcases List.mem_or_eq_of_mem_set h with h|rfl
   ·exact hk r h
   ·rfl
  ·have:=hF q (by omega)
   exact⟨⟨this.1,fun hb=>(hf i (by omega) g q hb).2 ⟨rfl,by omega⟩⟩,this.2⟩
  ·split at hb
   ·exact hb.elim
   ·rename_i hne
    have:=hf q (by omega) b o hb
    exact⟨⟨this.1,fun h'=>hd q i (by omega) (by omega) hne b o hb h'⟩,by omega⟩
  ·split at hb
   ·exact hb.elim
   ·split at hb'
    ·exact hb'.elim
    ·exact hd q q' (by omega) (by omega) hne b o hb hb'
  ·by_cases e:i2=i
   ·subst e
    rw[List.getElem?_set_self hi]at hi2
    obtain rfl:=Option.some.inj hi2
    cases j2 with
    | succ j=>simp at hj2
    | zero=>
     obtain rfl:fz c=c2:=by simpa using hj2
     have:=(hc i2 0 [c] c hr rfl).freeze
     simp only[Nat.add_zero,Nat.mul_one,if_true]at this ⊢
     exact this.mono (fun _ _ h=>h) (fun _ _ h=>h)
   ·rw[List.getElem?_set_ne (fun h=>e h.symm)]at hi2
    have hk2:r.length=1:=hk r (List.mem_of_getElem? hi2)
    have hj:j2<r.length:=(List.getElem?_eq_some_iff.1 hj2).1
    obtain rfl:j2=0:=by omega
    have:=hc i2 0 r c2 hi2 hj2
    simp only[Nat.add_zero,Nat.mul_one,if_neg e]at this ⊢
    exact this.mono (fun _ _ h=>.inl h) (fun _ _ h=>h)
theorem ah.frz {P:Program} {f:Nat} {sh:Bool} {A:List RA} {k:Kd} {rows:List (List C)} {i:Nat} {c:C} (h:ah P f sh A k [.s .own rows]) (hr:rows[i]? = some [c]):ah P f sh A k [.s .own (rows.set i [fz c])]:=by
 obtain⟨h1,h2⟩:=h
 refine⟨h1,fun w S vs hS hA=>(h2 w S vs hS hA).mono fun e w1 hv=>?_⟩
 obtain⟨v,he,hk,X,S1,a1,a2,a3,a4,g,b1,b2,b3⟩:=hv
 obtain⟨V,d1,d2⟩:=(b1 0 _ rfl).frz_at hr
 have hVX:∀ b o,V b o→X b o:=fun b o hb=>b2 0 (by simp) b o (d1 b o hb)
 refine⟨v,he,hk,fun b o=>X b o∧¬V b o,fun b o=>S1 b o∨V b o,fun b o hb=>a1 b o hb.1,fun b o hb=>?_,fun b o hb h=>?_,a4,fun j=>if j=0 then(fun b o=>g 0 b o∧¬V b o) else NO,fun j c' hj=>?_,fun j hj b o hb=>?_,fun j j' hj hj' hne b o hb hb'=>?_⟩
 ·rcases hb with hb|hb
  ·exact a2 b o hb
  ·exact .inr (a1 b o (hVX b o hb))
 ·rcases h with h|h
  ·exact a3 b o hb.1 h
  ·exact hb.2 h
 ·cases j with
  | succ j=>simp at hj
  | zero=>
   obtain rfl:C.s .own (rows.set i [fz c])=c':=by simpa using hj
   exact d2.mono (fun _ _ h=>h) (fun _ _ h=>h)
 ·obtain rfl:j=0:=by simpa using hj
  exact⟨b2 0 (by simp) b o hb.1,hb.2⟩
 ·have h1:j<1:=hj
  have h2:j'<1:=hj'
  omega
def Gq (c:ay) (k:Nat):ay:=⟨c.Lists.set k []⟩
theorem Hf (c:ay) (k:Nat):ay.enc .own (Gq c k)=[.s .own ((c.Lists.map (aI .own)).set k (aI .own []))]:=by simp[ay.enc,Gq,List.map_set]
theorem Bk (xs:List Int):([]:List Int).map (rI .imm)=(xs.map (rI .imm)).drop xs.length:=by rw[List.drop_eq_nil_of_le (by rw[List.length_map];omega)];rfl
theorem Dj (xs:List Int):xs.map (rI .imm)=(xs.map (rI .imm)).take xs.length:=by rw[List.take_of_length_le (by rw[List.length_map];omega)]
theorem rV {rows:List (List C)} {k:Nat} {r:List C} (h:k<rows.length):(rows.set k r)[k]? = some r:=List.getElem?_set_self h
def NN (c:ay) (k:Nat):List C:=ay.enc .own (Gq c k)++aI .own (nth c.Lists k)
theorem KS (c:ay) (k:Nat):gq (NN c k):=aP (ay.enc_fr _) (bN _)
theorem tZ (c:ay) (k:Nat) (ho:b9 c=true) (hk:k≤3):ah Tryz.prog 276 false [.val (some 1) (ay.enc .imm c),.val none [I (k:Nat)],.val none [I 8]] (.tup [some 1,none]) (NN c k):=by
 obtain⟨h1,h2⟩:=ix ho
 have hs:ay.sml c:=⟨by omega,fun l hl=>by have:=h2 l hl;show l.length≤1048576;omega⟩
 have c1:=JV c k hs
 rw[ho,decide_eq_true (by omega)]at c1
 have c2:=rz c hs
 have hx:=yw (c:=c) (k:=k) (by omega)
 have hxl:=h2 _ (aC (xs:=c.Lists) (i:=k) (by omega))
 have hf:=KS c k
 unfold NN at hf ⊢
 rw[Hf]at hf ⊢
 refine fO 52 [(5,268,[29,30,31,32,33,34,35,36,37,38,39,41,0,1,2,3,4,5,6,7,8,9,10,11,1000,1001,1002,12,13]),(6,265,[42,43,44,45,46,47,48,49,50,0,1,2,3,4,5,6,7,8,9,1000,10,11])] Tryz.func276 rfl ?_ (.inr hf)
 repeat'(first|refine gO ?_|(conv=>whnf);first|with_reducible refine Ix.nat (aa hx) ?_|refine Sm.rf ?_|refine Rw.one rfl (aa hx) rfl ?_|refine Cl.mk (c1) ?_|refine Cl.mk (c2) ?_|refine Ev.mk (z:=((nth c.Lists k).length:Int)) (by simp;omega) ?_|refine Sl.suf (nth c.Lists k).length rfl (by rw[List.length_map];omega) (bx fun _=>rfl) (Bk _) ?_|refine Sl.pre (nth c.Lists k).length rfl (by rw[List.length_map];omega) (bx fun _=>rfl) (Dj _) ?_|refine Sm.rf ?_|refine Fl.cp (fun _=>rfl) (fun _=>rfl) (by simp) (by decide) ?_|refine Ap.cp (fun _=>rfl) (fun _=>rfl) (by simp) (by decide) ?_|refine Fl.cp (fun _=>rfl) (fun _=>rfl) (by omega) (by decide) ?_|refine Ap.cp (fun _=>rfl) (fun _=>rfl) (by omega) (by decide) ?_|refine Pu.one rfl rfl (aa hx) rfl (Nat.le_of_ble_eq_true rfl) rfl ?_)
 rfl
theorem ui (c:ay) (k:Nat) (ho:b9 c=true) (hk:k≤3):ah Tryz.prog 204 false [.val (some 1) (ay.enc .imm c),.val none [I (k:Nat)],.val none [I 8]] (.tup [some 1,none]) (NN c k):=by
 obtain⟨h1,h2⟩:=ix ho
 have hs:ay.sml c:=⟨by omega,fun l hl=>by have:=h2 l hl;show l.length≤1048576;omega⟩
 have c1:=EZ c k hs
 rw[ho,decide_eq_true (by omega)]at c1
 have hx:=yw (c:=c) (k:=k) (by omega)
 have hxl:=h2 _ (aC (xs:=c.Lists) (i:=k) (by omega))
 have c2:=ah.frz (nA c hs) (i:=k) (c:=.s .own ((nth c.Lists k).map (rI .own))) (aa hx)
 rw[show fz (.s .own ((nth c.Lists k).map (rI .own)))=.s .imm ((nth c.Lists k).map (rI .imm)) from(List.cons.inj (dO (nth c.Lists k))).1]at c2
 have hkl:k<(c.Lists.map (aI .own)).length:=by rw[List.length_map];omega
 have hf:=KS c k
 unfold NN at hf ⊢
 rw[Hf]at hf ⊢
 refine fO 43 [(6,7,[30,31,32,33,34,35,36]),(7,5,[38,39,40,41,42])] Tryz.func204 rfl ?_ (.inr hf)
 repeat'(first|refine gO ?_|(conv=>whnf);first|with_reducible refine Ix.nat (aa hx) ?_|refine Sm.rf ?_|refine Rw.one rfl (aa hx) rfl ?_|refine Cl.mk (c1) ?_|refine Cl.mk (c2) ?_|refine Ev.mk (z:=((nth c.Lists k).length:Int)) (by simp;omega) ?_|refine Sl.suf (nth c.Lists k).length rfl (by rw[List.length_map];omega) (bx fun _=>rfl) (Bk _) ?_|refine Sl.pre (nth c.Lists k).length rfl (by rw[List.length_map];omega) (bx fun _=>rfl) (Dj _) ?_|refine Sm.rf ?_|refine Cl.mk (fN [] (by simp)) ?_|refine Cl.mk (fN (nth c.Lists k) (by omega)) ?_|refine Rw.one rfl (rV hkl) rfl ?_|refine Pu.one rfl rfl (rV hkl) rfl (Nat.le_of_ble_eq_true rfl) (by simp only[List.set_cons_zero,List.set_set];rfl) ?_|refine Ix.nat (rV hkl) ?_)
 simp only[List.set_set,Int.toNat_natCast];rfl
end Go.Proofs.YtplcalfnngkffaaGreat.Ab
/- A cache emptied into the spans: the data. No condition. -/
namespace Go.Proofs.YtplcalfnngkffaaGreat.Ab
theorem vS {k:Int} : ∀ {l s s2 s':List Int},(∀ x∈s2,x∈s)→ur k s l=some s'→(∀ x∈s,x∈s')∧∃ s2',ur k s2 l=some s2'∧∀ x∈s2',x∈s'
 | [],s,s2,s',h,e=>by
  simp only[ur,Option.some.injEq]at e ⊢
  subst e
  exact⟨fun _ h=>h,s2,rfl,h⟩
 | a::l,s,s2,s',h,e=>by
  simp only[ur]at e ⊢
  split at e
  ·rename_i g
   rw[if_pos (show good k s2 a from⟨g.1,g.2.1,g.2.2.1,fun x=>g.2.2.2 (h a x)⟩)]
   obtain⟨h1,h2⟩:=vS (l:=l) (s:=s++[a]) (s2:=s2++[a]) (fun x hx=>by
     rcases List.mem_append.1 hx with hx|hx
     · exact List.mem_append.2 (.inl (h x hx))
     · exact List.mem_append.2 (.inr hx)) e
   exact⟨fun x hx=>h1 x (List.mem_append.2 (.inl hx)),h2⟩
  ·cases e
theorem yB:∀ {ls:List (List Int)} {k:Nat} {s s2:List Int},(∀ x∈s2,x∈s)→(ij k s ls).isSome=true→(ij k s2 ls).isSome=true
 | [],_,_,_,_,_=>rfl
 | l::ls,k,s,s2,h,e=>by
  simp only[ij,fq]at e ⊢
  split at e
  ·rename_i g
   rw[if_pos g]
   cases e1:ur k s l with
   | none=>rw[e1]at e;cases e
   | some s'=>
    rw[e1]at e
    obtain⟨-,s2',e2,h2⟩:=vS h e1
    rw[e2]
    exact yB h2 e
  ·cases e
theorem DL:∀ {ls:List (List Int)} {k:Nat} {s s2:List Int} (i:Nat),(∀ x∈s2,x∈s)→(ij k s ls).isSome=true→(ij k s2 (ls.set i [])).isSome=true
 | [],_,_,_,_,_,_=>rfl
 | l::ls,k,s,s2,i,h,e=>by
  simp only[ij,fq]at e
  split at e
  ·rename_i g
   cases e1:ur k s l with
   | none=>rw[e1]at e;cases e
   | some s'=>
    rw[e1]at e
    obtain⟨h1,s2',e2,h2⟩:=vS h e1
    cases i with
    | zero=>
     simp only[List.set_cons_zero,ij,fq]
     rw[if_pos ⟨by simp,g.2⟩]
     exact yB (fun x hx=>h1 x (h x hx)) e
    | succ i=>
     simp only[List.set_cons_succ,ij,fq]
     rw[if_pos g,e2]
     exact DL i h2 e
  ·cases e
theorem MH {c:ay} (h:b9 c=true) (k:Nat):b9 (Gq c k)=true:=by
 unfold b9 at h ⊢
 simp only[Bool.and_eq_true,decide_eq_true_eq]at h ⊢
 exact⟨by simp only[Gq,List.length_set];exact h.1,DL k (fun _ h=>h) h.2⟩
def spilt (h:ac) (t k:Nat):ac:={h with Caches:=h.Caches.set t (Gq (nth h.Caches t) k)}
theorem df.spilt {h:ac} {E:List Int} {t k:Nat} (hi:df h E) (ht:t<h.Caches.length) (hk:k<(nth h.Caches t).Lists.length):df (spilt h t k) (nth (nth h.Caches t).Lists k++E):=by
 have hp:(E++holders h).Perm (nth (nth h.Caches t).Lists k++E++holders (Ab.spilt h t k)):=by
  refine List.perm_iff_count.2 fun b=>?_
  have h1:=rm (fun c:ay=>c.Lists.flatten) b h.Caches t (Gq (nth h.Caches t) k) ht
  have h2:=rm (fun x:List Int=>x) b (nth h.Caches t).Lists k [] hk
  rw[←rr,←rr]at h2
  simp only[List.count_nil]at h2
  simp only[Gq]at h1
  simp only[holders,f9,Ab.spilt,Gq,List.count_append]
  omega
 have hsub:∀ c∈(Ab.spilt h t k).Caches,c∈h.Caches∨c=Gq (nth h.Caches t) k:=fun c hc=>List.mem_or_eq_of_mem_set hc
 exact {hi with
   nc:=by show(h.Caches.set ..).length=_;rw[List.length_set];exact hi.nc
   cach:=fun c hcm=>by
     rcases hsub c hcm with hcm|rfl
     · exact hi.cach c hcm
     · exact MH (hi.cach _ (aC ht)) k
   onu:=by show ∀ o∈h.Objs,1≤o.Id∧o.Id≤h.Next - 1∧0≤o.Thread∧o.Thread≤(h.Caches.set t _).length - 1;rw[List.length_set];exact hi.onu
   hca:=fun c hcm j hj b hb=>by
     rcases hsub c hcm with hcm|rfl
     · exact hi.hca c hcm j hj b hb
     · simp only[Gq,List.length_set]at hj
       simp only[Gq,eL]at hb
       by_cases e:k=j
       · subst e
         rw[if_pos ⟨rfl,hj⟩]at hb
         cases hb
       · rw[if_neg fun x=>e x.1]at hb
         exact hi.hca _ (aC ht) _ hj b hb
   hin:=fun b hb=>by
     rcases List.mem_append.1 hb with hb|hb
     · exact(hi.hca _ (aC ht) k hk b hb).any
     · exact hi.hin b hb
   nd:=hp.nodup_iff.1 hi.nd
   mem:=fun b=>by rw[←hp.mem_iff];exact hi.mem b}
def freeAs (h:ac) (az:List Int):ac:=az.foldl freeA h
theorem lv:∀ (az:List Int) (h:ac),(freeAs h az).Caches=h.Caches∧(freeAs h az).Objs=h.Objs∧(freeAs h az).Kernel.Calls=h.Kernel.Calls∧(freeAs h az).Mail=h.Mail∧(freeAs h az).Job=h.Job∧(freeAs h az).Clock=h.Clock∧(freeAs h az).Quar=h.Quar∧(freeAs h az).Kernel.Refuse=h.Kernel.Refuse
 | [],h=>⟨rfl,rfl,rfl,rfl,rfl,rfl,rfl,rfl⟩
 | a::az,h=>by
  obtain⟨h1,h2,h3,h4,h5,h6,h7,h8⟩:=lv az (freeA h a)
  obtain⟨g1,g2,g3,g4,g5,g6,g7,g8⟩:=wE h (vd h a) a
  exact⟨h1.trans g1,h2.trans g2,h3.trans g3,h4.trans g4,h5.trans g5,h6.trans g6,h7.trans g7,h8.trans g8⟩
theorem df.freeAs {E:List Int} : ∀ {az:List Int} {h:ac},df h (az++E)→df (freeAs h az) E
 | [],_,hi=>hi
 | a::az,h,hi=>df.freeAs (az:=az) (h:=Ab.freeA h a) hi.freeA
theorem tw (h:ac) (az:List Int) (k:Nat) (hk:k<az.length):freeAs h (az.take (k+1))=freeA (freeAs h (az.take k)) (nth az k):=by
 rw[List.take_add_one,ao hk]
 simp[freeAs]
def aU (t:Nat) (h:ac):Nat→ac × Nat
 | 0=>(h,0)
 | k+1=>(freeAs (spilt (aU t h k).1 t k) (nth (nth (aU t h k).1.Caches t).Lists k),(aU t h k).2+(nth (nth (aU t h k).1.Caches t).Lists k).length)
theorem kz {t:Nat} {h:ac} (hi:df h []) (ht:t<h.Caches.length):∀ {k:Nat},k≤4→df (aU t h k).1 []∧(aU t h k).1.Caches.length=h.Caches.length∧(aU t h k).1.Kernel.Calls=h.Kernel.Calls∧(aU t h k).1.Objs=h.Objs∧(aU t h k).1.Mail=h.Mail∧(aU t h k).1.Job=h.Job∧(aU t h k).2≤8*k
 | 0,_=>⟨hi,rfl,rfl,rfl,rfl,rfl,Nat.zero_le _⟩
 | k+1,hk=>by
  obtain⟨h1,h2,h3,h4,h5,h6,h7⟩:=kz hi ht (k:=k) (by omega)
  have ht':t<(aU t h k).1.Caches.length:=by omega
  obtain⟨c1,c2⟩:=ix (h1.cach _ (aC ht'))
  have hk':k<(nth (aU t h k).1.Caches t).Lists.length:=by omega
  have hs:=h1.spilt ht' hk'
  have hl:=c2 _ (aC hk')
  obtain⟨g1,g2,g3,g4,g5,-⟩:=lv (nth (nth (aU t h k).1.Caches t).Lists k) (Ab.spilt (aU t h k).1 t k)
  refine⟨df.freeAs hs,?_,g3.trans h3,g2.trans h4,g4.trans h5,g5.trans h6,?_⟩
  ·show(Ab.freeAs _ _).Caches.length=_
   rw[g1];simp only[Ab.spilt,List.length_set];exact h2
  ·simp only[aU];omega
end Go.Proofs.YtplcalfnngkffaaGreat.Ab
/- A thread's cache emptied into the spans. No condition. (wkR, Dy) -/
namespace Go.Proofs.YtplcalfnngkffaaGreat.Ab
open Go.RowKit
set_option maxRecDepth 20000
set_option maxHeartbeats 4000000
theorem u7 {h:ac} {t k:Nat} (hi:df h []) (ht:t<h.Caches.length) (hk:k<4):t<(aU t h k).1.Caches.length∧b9 (nth (aU t h k).1.Caches t)=true∧k<(nth (aU t h k).1.Caches t).Lists.length∧(nth (nth (aU t h k).1.Caches t).Lists k).length≤8∧(aU t h k).2≤8*k:=by
 obtain⟨h1,h2,-,-,-,-,h7⟩:=kz hi ht (k:=k) (by omega)
 have ht':t<(aU t h k).1.Caches.length:=by omega
 have hc:=h1.cach _ (aC ht')
 obtain⟨c1,c2⟩:=ix hc
 have hk':k<(nth (aU t h k).1.Caches t).Lists.length:=by omega
 exact⟨ht',hc,hk',c2 _ (aC hk'),h7⟩
theorem Dt {h:ac} {t k j:Nat} (hi:df h []) (ht:t<h.Caches.length) (hk:k<4) (hj:j<(nth (nth (aU t h k).1.Caches t).Lists k).length):df (freeAs (spilt (aU t h k).1 t k) ((nth (nth (aU t h k).1.Caches t).Lists k).take j)) (nth (nth (nth (aU t h k).1.Caches t).Lists k) j::(nth (nth (aU t h k).1.Caches t).Lists k).drop (j+1)):=by
 obtain⟨h1,h2⟩:=u7 hi ht hk
 have hs:=((kz hi ht (k:=k) (by omega)).1).spilt h1 h2.2.1
 rw[List.append_nil]at hs
 refine df.freeAs ?_
 rw[←ml hj,List.take_append_drop]
 exact hs
theorem yd (h:ac) (t:Nat) (hi:df h []) (ht:t<h.Caches.length):aV Tryz.prog 190 false [.ptr (fe h),.val none [I (t:Nat)]] [.ptr (fe (aU t h 4).1),.val none [I (t:Nat)]] .one [I ((aU t h 4).2:Nat)]:=by
 refine fM 48 [(277,[2,0])] [(6,6,[26,27,28,29,30,31])] [(0,0),(0,0)] Tryz.func190 rfl (fun u q=>?_)
 repeat'(first|refine gO ?_|fail)
 (conv=>whnf)
 refine Lp.mk (ι:=Nat) (fun k=>[(0,.hold .box (fe (aU t h k).1)),(1,.hold .one [I ((t:Nat):Int)]),(5,.hold .one [I (((aU t h k).2:Nat):Int)]),(6,.hold .one [I ((k:Nat):Int)])]) (fun k=>k≤4) (fun k=>4 - k) (0) ?_ (Nat.zero_le _) fun k hk=>?_
 ·repeat'(first|exact trivial|rfl |exact Dy hoo|exact mu _|refine And.intro ?_ ?_|(exact MU (by first|omega|(simp only;omega)|(simp;omega))))
 by_cases lk:k<4
 ·obtain⟨g1,g2,g3,g4,g5⟩:=u7 hi ht lk
  have c1:=tZ (nth (aU t h k).1.Caches t) k g2 (by omega)
  have hin:=fun j=>Dt hi ht lk (j:=j)
  have hy:=ao g1
  have hd:(aU t h (k+1)).1=freeAs (spilt (aU t h k).1 t k) (nth (nth (aU t h k).1.Caches t).Lists k):=rfl
  have hn:(aU t h (k+1)).2=(aU t h k).2+(nth (nth (aU t h k).1.Caches t).Lists k).length:=rfl
  have hoo:C.s dE.own ((spilt (aU t h k).1 t k).Caches.map (ay.enc .own))=C.s dE.own (((aU t h k).1.Caches.map (ay.enc .own)).set t (ay.enc .own (Gq (nth (aU t h k).1.Caches t) k))):=by simp[spilt,List.map_set]
  repeat'(first|refine gD ?_|(conv=>whnf);first|refine Ix.nat (aa hy) ?_|refine Rw.one rfl (aa hy) rfl ?_|refine Cl.eq (c1) ⟨⟨rfl,ay.enc_fz _⟩,⟨rfl,rfl⟩,⟨rfl,rfl⟩,trivial⟩ ?_|refine Sm.rf ?_|refine Pu.one rfl rfl (aa hy) rfl (Nat.le_of_ble_eq_true rfl) rfl ?_)
  generalize (aU t h k).1=d at *
  generalize (aU t h k).2=m at *
  (conv=>whnf)
  refine Lp.mk (ι:=Nat) (fun j=>[(0,.hold .box (fe (freeAs (spilt d t k) ((nth (nth d.Caches t).Lists k).take j)))),(1,.hold .one [I ((t:Nat):Int)]),(5,.hold .one [I (((m+j):Nat):Int)]),(6,.hold .one [I ((k:Nat):Int)]),(8,.hold .one (aI .own (nth (nth d.Caches t).Lists k))),(9,.hold .one [I ((j:Nat):Int)])]) (fun j=>j≤(nth (nth d.Caches t).Lists k).length) (fun j=>(nth (nth d.Caches t).Lists k).length - j) (0) ?_ (Nat.zero_le _) fun j hj=>?_
  ·repeat'(first|exact trivial|rfl |exact Dy hoo|exact mu _|refine And.intro ?_ ?_|(exact MU (by first|omega|(simp only;omega)|(simp;omega))))
  by_cases lj:j<(nth (nth d.Caches t).Lists k).length
  ·have hxa:=ao lj
   have c2:=AI _ _ _ (hin j lj)
   repeat'(first|refine gD ?_|(conv=>whnf);first|refine Ix.nat (aa hxa) ?_|refine Rw.one rfl (aa hxa) rfl ?_|refine er.mk (c2) (.inl rfl) ?_)
   ((conv=>whnf);refine Nx.mk (j+1) (by omega) (by omega) ?_)
   rw[tw _ _ _ lj]
   exact wC
  ·obtain rfl:j=(nth (nth d.Caches t).Lists k).length:=by omega
   rw[List.take_length]
   repeat'(first|refine gD ?_|fail)
   ((conv=>whnf);refine Nx.mk (k+1) (by omega) (by omega) ?_)
   rw[hd,hn]
   exact wC
 ·obtain rfl:k=4:=by omega
  repeat'(first|refine gD ?_|fail)
  refine bK.mk rfl rfl ?_
  exact wC
theorem zq (h:ac) (t:Int) (hs:ac.sml h):ah Tryz.prog 203 false [.val (some 24) (ac.enc .imm h),.val none [I t]] .one [B (decide (0≤t∧t≤h.Caches.length - 1)&&decide (h.Kernel.Calls≠100000)&&ee h)]:=by
 have c1:=hP h hs
 rw[ka]at c1
 have hlc:h.Caches.length≤1048576:=hs.2.2.2.2.2.1.1
 have c4:=aL t 0 (h.Caches.length - 1:Int)
 cases e1:decide (0≤t∧t≤(h.Caches.length:Int) - 1)<;>rw[e1]at c4
 all_goals
  cases e2:decide (h.Kernel.Calls≠100000)
  all_goals
   simp only[decide_eq_true_eq,decide_eq_false_iff_not]at e2
   refine fO 21 [] Tryz.func203 rfl ?_
   repeat'(first|refine gO ?_|(conv=>whnf);first|with_reducible refine Bf.N (fun hq=>?_) (fun hq=>?_)|refine Cl.mk (c1) ?_|refine Cl.mk (c4) ?_)
   all_goals first|rfl|(exfalso;omega)
theorem vM (h:ac) (t:Nat) (hs:ac.sml h) (e1:ee h=true) (hc:h.Kernel.Calls≠100000) (ht:t<h.Caches.length):ah Tryz.prog 95 false [.val (some 24) (ac.enc .imm h),.val none [I (t:Nat)]] (.tup [some 24,none]) (eN (aU t h 4).1++[I ((aU t h 4).2:Nat)]):=by
 have hi:=df.of e1
 have c1:=zq h t hs
 rw[e1,decide_eq_true (by omega),decide_eq_true hc]at c1
 have c2:=kI h hs
 refine fP 52 [(205,[2,0])] [] Tryz.func95 rfl ?_ (.inr (aP (lb _) ⟨trivial,trivial⟩))
 repeat'(first|refine gO ?_|(conv=>whnf);first|refine Cl.mk (c1) ?_|refine Cl.mk (c2) ?_)
 (conv=>whnf)
 refine Lp.mk (ι:=Nat) (fun k=>[(1,.hold .one [I ((t:Nat):Int)]),(4,.hold .box uY),(6,.hold .box (eN (aU t h k).1)),(7,.hold .one [I (((aU t h k).2:Nat):Int)]),(8,.hold .one [I ((k:Nat):Int)])]) (fun k=>k≤4) (fun k=>4 - k) (0) ?_ (Nat.zero_le _) fun k hk=>?_
 ·repeat'(first|exact trivial|rfl |exact Dy hoo|exact mu _|refine And.intro ?_ ?_|(exact MU (by first|omega|(simp only;omega)|(simp;omega))))
 by_cases lk:k<4
 ·obtain⟨g1,g2,g3,g4,g5⟩:=u7 hi ht lk
  have c3:=ui (nth (aU t h k).1.Caches t) k g2 (by omega)
  have hin:=fun j=>Dt hi ht lk (j:=j)
  have hcl:=fun j=>(lv ((nth (nth (aU t h k).1.Caches t).Lists k).take j) (spilt (aU t h k).1 t k)).2.2.1
  have hcc:(spilt (aU t h k).1 t k).Kernel.Calls≠100000:=by have:=(kz hi ht (k:=k) (by omega)).2.2.1;show(aU t h k).1.Kernel.Calls≠100000;rw[this];exact hc
  have hy:=ao g1
  have hd:(aU t h (k+1)).1=freeAs (spilt (aU t h k).1 t k) (nth (nth (aU t h k).1.Caches t).Lists k):=rfl
  have hn:(aU t h (k+1)).2=(aU t h k).2+(nth (nth (aU t h k).1.Caches t).Lists k).length:=rfl
  have hoo:C.s dE.own ((spilt (aU t h k).1 t k).Caches.map (ay.enc .own))=C.s dE.own (((aU t h k).1.Caches.map (ay.enc .own)).set t (ay.enc .own (Gq (nth (aU t h k).1.Caches t) k))):=by simp[spilt,List.map_set]
  repeat'(first|refine gD ?_|(conv=>whnf);first|refine Ix.nat (aa hy) ?_|refine Rw.one rfl (aa hy) rfl ?_|refine Cl.eq (c3) ⟨⟨rfl,ay.enc_fz _⟩,⟨rfl,rfl⟩,⟨rfl,rfl⟩,trivial⟩ ?_|refine Sm.rf ?_|refine Pu.one rfl rfl (aa hy) rfl (Nat.le_of_ble_eq_true rfl) rfl ?_)
  generalize (aU t h k).1=d at *
  generalize (aU t h k).2=m at *
  (conv=>whnf)
  refine Lp.mk (ι:=Nat) (fun j=>[(1,.hold .one [I ((t:Nat):Int)]),(4,.hold .box uY),(6,.hold .box (eN (freeAs (spilt d t k) ((nth (nth d.Caches t).Lists k).take j)))),(7,.hold .one [I (((m+j):Nat):Int)]),(8,.hold .one [I ((k:Nat):Int)]),(10,.hold .one (aI .own (nth (nth d.Caches t).Lists k))),(39,.bor 10 0 [] none),(40,.hold .one [I ((nth (nth d.Caches t).Lists k).length)]),(41,.hold .one [I ((j:Nat):Int)])]) (fun j=>j≤(nth (nth d.Caches t).Lists k).length) (fun j=>(nth (nth d.Caches t).Lists k).length - j) (0) ?_ (Nat.zero_le _) fun j hj=>?_
  ·repeat'(first|exact trivial|rfl |exact Dy hoo|exact mu _|refine And.intro ?_ ?_|(exact MU (by first|omega|(simp only;omega)|(simp;omega))))
  by_cases lj:j<(nth (nth d.Caches t).Lists k).length
  ·have hxa:=ao lj
   have c9:=uk _ _ _ (hin j lj) (by rw[hcl];exact hcc)
   repeat'(first|refine gD ?_|(conv=>whnf);first|refine Ix.nat (aa hxa) ?_|refine Rw.one rfl (aa hxa) rfl ?_|refine er.mk (c9) (.inl rfl) ?_)
   ((conv=>whnf);refine Nx.mk (j+1) (by omega) (by omega) ?_)
   rw[tw _ _ _ lj]
   exact wC
  ·obtain rfl:j=(nth (nth d.Caches t).Lists k).length:=by omega
   rw[List.take_length]
   repeat'(first|refine gD ?_|fail)
   ((conv=>whnf);refine Nx.mk (k+1) (by omega) (by omega) ?_)
   rw[hd,hn]
   exact wC
 ·obtain rfl:k=4:=by omega
  repeat'(first|refine gD ?_|fail)
  rfl
end Go.Proofs.YtplcalfnngkffaaGreat.Ab
/- Seeds and shuffles. No condition. -/
namespace Go.Proofs.YtplcalfnngkffaaGreat.Ab
open Go.RowKit
set_option maxRecDepth 20000
set_option maxHeartbeats 4000000
def Ae (s:Int):Int:=(1103515245*s+12345) % 1073741824
theorem EH (s:Int):0≤Ae s∧Ae s≤1073741823:=by unfold Ae;omega
theorem yf (s:Int) (hs:0≤s∧s≤1073741823):ah Tryz.prog 456 false [.val none [I s]] .one [I (Ae s)]:=by
 have c1:=aO s 0 1073741823
 rw[decide_eq_true hs]at c1
 refine fO 10 [] Tryz.func456 rfl ?_
 repeat'(first|refine gO ?_|(conv=>whnf);first|refine Sm.rf ?_|refine Ev.mk (z:=Ae s) (gf (by omega)) ?_|refine Cl.mk (c1) ?_|refine Cd.mk (by decide) ?_)
 rfl
theorem qV (s:Int) (hs:0≤s∧s≤1073741823):ah Tryz.prog 52 false [.val none [I s]] .one [B true]:=by
 have c1:=aL s 0 1073741823
 rw[decide_eq_true hs]at c1
 refine fO 5 [] Tryz.func52 rfl ?_
 repeat'(first|refine gO ?_|(conv=>whnf);first|refine Sm.rf ?_|refine Cl.mk (c1) ?_)
 rfl
theorem yn (s:Int) (hs:0≤s∧s≤1073741823):ah Tryz.prog 443 false [.val none [I s]] .one [I (Ae s)]:=by
 refine fO 10 [] Tryz.func443 rfl ?_
 repeat'(first|refine gO ?_|(conv=>whnf);first|refine Sm.rf ?_|refine Ev.mk (z:=Ae s) (gf (by omega)) ?_|refine Cl.mk (qV s hs) ?_|refine Cd.mk (by decide) ?_)
 rfl
def EL (s n:Int):Int:=Ae s / 1024 % n
theorem wc (s:Int) {n:Int} (h:1≤n):0≤EL s n∧EL s n<n:=⟨Int.emod_nonneg _ (by omega),Int.emod_lt_of_pos _ (by omega)⟩
theorem DA (s n:Int) (hs:0≤s∧s≤1073741823) (hn:1≤n∧n≤1000):ah Tryz.prog 440 false [.val none [I s],.val none [I n]] (.tup [none,none]) [I (EL s n),I (Ae s)]:=by
 have c1:=aO s 0 1073741823
 have c2:=aO n 1 1000
 rw[decide_eq_true hs]at c1
 rw[decide_eq_true hn]at c2
 have hb:=EH s
 have hc:=wc s hn.1
 have e1:(Ae s).tdiv 1024=Ae s / 1024:=Int.tdiv_eq_ediv_of_nonneg hb.1
 have e2:((Ae s).tdiv 1024).tmod n=EL s n:=by rw[e1];exact gf (by omega)
 refine fO 23 [] Tryz.func440 rfl ?_ (.inr ⟨trivial,trivial,trivial⟩)
 repeat'(first|refine gO ?_|(conv=>whnf);first|refine Sm.rf ?_|refine Cl.mk (c1) ?_|refine Cl.mk (c2) ?_|refine Cl.mk (yf s hs) ?_|refine Cd.mk (by decide) ?_|refine Cd.mk (by omega) ?_|refine Ev.mk e2 ?_|refine Wr.mk (fU (by rw[e1];omega) (by rw[e1];omega)) ?_)
 rfl
theorem Ek (s n:Int) (hs:0≤s∧s≤1073741823) (hn:1≤n∧n≤1000):ah Tryz.prog 410 false [.val none [I s],.val none [I n]] (.tup [none,none]) [I (EL s n),I (Ae s)]:=by
 have c2:=aL n 1 1000
 rw[decide_eq_true hn]at c2
 have hb:=EH s
 have hc:=wc s hn.1
 have e1:(Ae s).tdiv 1024=Ae s / 1024:=Int.tdiv_eq_ediv_of_nonneg hb.1
 have e2:((Ae s).tdiv 1024).tmod n=EL s n:=by rw[e1];exact gf (by omega)
 refine fO 23 [] Tryz.func410 rfl ?_ (.inr ⟨trivial,trivial,trivial⟩)
 repeat'(first|refine gO ?_|(conv=>whnf);first|refine Sm.rf ?_|refine Cl.mk (qV s hs) ?_|refine Cl.mk (c2) ?_|refine Cl.mk (yn s hs) ?_|refine Cd.mk (by decide) ?_|refine Cd.mk (by omega) ?_|refine Ev.mk e2 ?_|refine Wr.mk (fU (by rw[e1];omega) (by rw[e1];omega)) ?_)
 rfl
def nR (n:Nat):List Int:=(List.range n).map fun(i:Nat)=>(i:Int)
theorem wL (n:Nat):nR (n+1)=nR n++[(n:Int)]:=by unfold nR;rw[List.range_succ,List.map_append];rfl
theorem rX (n:Nat):(nR n).length=n:=by simp[nR]
def td (xs:List Int) (i k:Nat):List Int:=(xs.set i (nth xs k)).set k (nth xs i)
theorem HA (xs:List Int) (i k:Nat):(td xs i k).length=xs.length:=by simp[td]
def eC (n:Nat) (s:Int):Nat→List Int × Int
 | 0=>(nR n,s)
 | j+1=>(td (eC n s j).1 (n - 1 - j) (EL (eC n s j).2 ((n - 1 - j:Nat)+1:Int)).toNat,Ae (eC n s j).2)
theorem k6 (n:Nat) {s:Int} (hs:0≤s∧s≤1073741823):∀ j,(eC n s j).1.length=n∧0≤(eC n s j).2∧(eC n s j).2≤1073741823
 | 0=>⟨rX n,hs⟩
 | j+1=>⟨by simp only[eC,HA];exact(k6 n hs j).1,EH _⟩
def shuf (n:Nat) (s:Int):List Int × Int:=eC n s (n - 1)
theorem BE (xs:List Int) (i k:Nat):(td xs i k).map (rI .own)=((xs.map (rI .own)).set i (rI .own (nth xs k))).set k (rI .own (nth xs i)):=by simp[td,List.map_set]
theorem zl {xs:List Int} {i k:Nat} (v:Int) (hk:k<xs.length):((xs.map (rI .own)).set i (rI .own v))[k]? = some (rI .own (nth (xs.set i v) k)):=by
 rw[←List.map_set];exact aa (ao (by rw[List.length_set];exact hk))
theorem xD (n:Nat) (s:Int) (hs:0≤s∧s≤1073741823) (hn:n≤64):ah Tryz.prog 402 false [.val none [I s],.val none [I (n:Nat)]] (.tup [none,none]) (aI .own (shuf n s).1++[I (shuf n s).2]):=by
 have c1:=aO s 0 1073741823
 have c2:=aO (n:Nat) 0 64
 rw[decide_eq_true hs]at c1
 rw[decide_eq_true (by omega)]at c2
 refine fO 63 [] Tryz.func402 rfl ?_ (.inr (aP (bN _) ⟨trivial,trivial⟩))
 repeat'(first|refine gO ?_|(conv=>whnf);first|refine Sm.rf ?_|refine Cl.mk (c1) ?_|refine Cl.mk (c2) ?_)
 (conv=>whnf)
 refine Lp.mk (ι:=Nat) (fun k=>[(0,.hold .one [I (s)]),(1,.hold .one [I ((n:Nat):Int)]),(6,.hold .one (aI .own (nR k))),(7,.hold .one [I ((k:Nat):Int)])]) (fun k=>k≤n) (fun k=>n - k) (0) ?_ (Nat.zero_le _) fun k hk=>?_
 ·exact wB
 have hkl:=rX k
 by_cases lk:k<n
 ·repeat'(first|refine gD ?_|(conv=>whnf);first|refine Sm.rf ?_|refine Ap.sm (bx fun _=>rfl) rfl (by simp;omega) (by decide) (mj (rI .own) (nR k) (k:Int)) ?_)
  ((conv=>whnf);refine Nx.mk (k+1) (by omega) (by omega) ?_)
  rw[wL]
  exact wB
 ·obtain rfl:k=n:=by omega
  repeat'(first|refine gD ?_|(conv=>whnf);first|refine Sm.rf ?_)
  (conv=>whnf)
  refine Lp.mk (ι:=Nat) (fun j=>[(0,.hold .one [I ((eC k s j).2)]),(6,.hold .one (aI .own (eC k s j).1)),(8,.hold .one [I (((k:Int) - 1 - j))])]) (fun j=>(j≤k - 1∧j≤k)) (fun j=>k - j) (0) ?_ (⟨Nat.zero_le _,Nat.zero_le _⟩) fun j hj=>?_
  ·exact wB
  obtain⟨b1,b2,b3⟩:=k6 k hs j
  by_cases lj:j<k - 1
  ·have hi:(k:Int) - 1 - j=((k - 1 - j:Nat):Int):=by omega
   have hch:=wc (eC k s j).2 (n:=((k - 1 - j:Nat)+1:Int)) (by omega)
   have c3:=DA (eC k s j).2 ((k - 1 - j:Nat)+1:Int) ⟨b2,b3⟩ (by omega)
   have hd:eC k s (j+1)=(td (eC k s j).1 (k - 1 - j) (EL (eC k s j).2 ((k - 1 - j:Nat)+1:Int)).toNat,Ae (eC k s j).2):=rfl
   rw[hi]
   generalize eC k s j=p at *
   obtain⟨xs,z⟩:=p
   simp only at *
   generalize k - 1 - j=i at *
   have hx1:=ao (xs:=xs) (i:=i) (by omega)
   have hx2:=ao (xs:=xs) (i:=(EL z (i+1)).toNat) (by omega)
   have hy1:=zl (xs:=xs) (i:=i) (k:=(EL z (i+1)).toNat) (nth xs (EL z (i+1)).toNat) (by omega)
   repeat'(first|refine gD ?_|(conv=>whnf);first|refine Sm.rf ?_|refine Cl.mk (c3) ?_|refine Ix.mk (by omega) (aa hx2) ?_|refine Ix.nat (aa hx1) ?_|refine Rw.one rfl (aa hx1) rfl ?_|refine Rw.one rfl (aa hx2) rfl ?_|refine Pu.one rfl rfl (aa hx1) rfl (Nat.le_of_ble_eq_true rfl) rfl ?_|refine Ix.mk (by omega) hy1 ?_|refine Pu.one rfl rfl hy1 rfl (Nat.le_of_ble_eq_true rfl) rfl ?_)
   ((conv=>whnf);refine Nx.mk (j+1) (by omega) (by omega) ?_)
   rw[hd]
   simp only[aI,BE]
   exact wB
  ·obtain rfl:j=k - 1:=by omega
   repeat'(first|refine gD ?_|(conv=>whnf);first|refine Sm.rf ?_)
   rfl
theorem x8 (n:Nat) (s:Int) (hs:0≤s∧s≤1073741823) (hn:n≤64):ah Tryz.prog 362 false [.val none [I s],.val none [I (n:Nat)]] (.tup [none,none]) (aI .own (shuf n s).1++[I (shuf n s).2]):=by
 have c1:=qV s hs
 have c2:=aL (n:Nat) 0 64
 rw[decide_eq_true (by omega)]at c2
 refine fO 60 [(12,270,[43,44,45,46,47,48,49,50,51,52,53,54,55,56,0,1,2,3,4,5,6,7,8,9,10,11,12,13,1002,1003,14,15])] Tryz.func362 rfl ?_ (.inr (aP (bN _) ⟨trivial,trivial⟩))
 repeat'(first|refine gO ?_|(conv=>whnf);first|refine Sm.rf ?_|refine Cl.mk (c1) ?_|refine Cl.mk (c2) ?_)
 (conv=>whnf)
 refine Lp.mk (ι:=Nat) (fun k=>[(0,.hold .one [I (s)]),(1,.hold .one [I ((n:Nat):Int)]),(6,.hold .one (aI .own (nR k))),(7,.hold .one [I ((k:Nat):Int)])]) (fun k=>k≤n) (fun k=>n - k) (0) ?_ (Nat.zero_le _) fun k hk=>?_
 ·exact wB
 have hkl:=rX k
 by_cases lk:k<n
 ·repeat'(first|refine gD ?_|(conv=>whnf);first|refine Sm.rf ?_|refine Ap.sm (bx fun _=>rfl) rfl (by simp;omega) (by decide) (mj (rI .own) (nR k) (k:Int)) ?_)
  ((conv=>whnf);refine Nx.mk (k+1) (by omega) (by omega) ?_)
  rw[wL]
  exact wB
 ·obtain rfl:k=n:=by omega
  repeat'(first|refine gD ?_|(conv=>whnf);first|refine Sm.rf ?_)
  (conv=>whnf)
  refine Lp.mk (ι:=Nat) (fun j=>[(0,.hold .one [I ((eC k s j).2)]),(6,.hold .one (aI .own (eC k s j).1)),(8,.hold .one [I (((k:Int) - 1 - j))])]) (fun j=>(j≤k - 1∧j≤k)) (fun j=>k - j) (0) ?_ (⟨Nat.zero_le _,Nat.zero_le _⟩) fun j hj=>?_
  ·exact wB
  obtain⟨b1,b2,b3⟩:=k6 k hs j
  by_cases lj:j<k - 1
  ·have hi:(k:Int) - 1 - j=((k - 1 - j:Nat):Int):=by omega
   have hch:=wc (eC k s j).2 (n:=((k - 1 - j:Nat)+1:Int)) (by omega)
   have c3:=Ek (eC k s j).2 ((k - 1 - j:Nat)+1:Int) ⟨b2,b3⟩ (by omega)
   have hd:eC k s (j+1)=(td (eC k s j).1 (k - 1 - j) (EL (eC k s j).2 ((k - 1 - j:Nat)+1:Int)).toNat,Ae (eC k s j).2):=rfl
   rw[hi]
   generalize eC k s j=p at *
   obtain⟨xs,z⟩:=p
   simp only at *
   generalize k - 1 - j=i at *
   have hx1:=ao (xs:=xs) (i:=i) (by omega)
   have hx2:=ao (xs:=xs) (i:=(EL z (i+1)).toNat) (by omega)
   have hy1:=zl (xs:=xs) (i:=i) (k:=(EL z (i+1)).toNat) (nth xs (EL z (i+1)).toNat) (by omega)
   repeat'(first|refine gD ?_|(conv=>whnf);first|refine Sm.rf ?_|refine Cl.mk (c3) ?_|refine Ix.mk (by omega) (aa hx2) ?_|refine Ix.nat (aa hx1) ?_|refine Rw.one rfl (aa hx1) rfl ?_|refine Rw.one rfl (aa hx2) rfl ?_|refine Pu.one rfl rfl (aa hx1) rfl (Nat.le_of_ble_eq_true rfl) rfl ?_|refine Ix.mk (by omega) hy1 ?_|refine Pu.one rfl rfl hy1 rfl (Nat.le_of_ble_eq_true rfl) rfl ?_)
   ((conv=>whnf);refine Nx.mk (j+1) (by omega) (by omega) ?_)
   rw[hd]
   simp only[aI,BE]
   exact wB
  ·obtain rfl:j=k - 1:=by omega
   repeat'(first|refine gD ?_|(conv=>whnf);first|refine Sm.rf ?_)
   rfl
end Go.Proofs.YtplcalfnngkffaaGreat.Ab
/- The spans that can be meshed. No condition. -/
namespace Go.Proofs.YtplcalfnngkffaaGreat.Ab
open Go.RowKit
set_option maxRecDepth 20000
set_option maxHeartbeats 4000000
def ro (b:Int):Nat→Nat
 | 0=>0
 | n+1=>ro b n+(if bF b (n:Nat)=true then 1 else 0)
theorem rk (b:Int):∀ n,ro b n≤n
 | 0=>Nat.le_refl _
 | n+1=>by have:=rk b n;simp only[ro];split<;>omega
theorem tV (b:Int) (hb:b≤9223372036854775807):ah Tryz.prog 401 false [.val none [I b]] .one [I (ro b 16:Nat)]:=by
 refine fO 15 [] Tryz.func401 rfl ?_
 repeat'(first|refine gO ?_|fail)
 (conv=>whnf)
 refine Lp.mk (ι:=Nat) (fun k=>[(0,.hold .one [I (b)]),(3,.hold .one [I ((ro b k:Nat):Int)]),(4,.hold .one [I ((k:Nat):Int)])]) (fun k=>k≤16) (fun k=>16 - k) (0) ?_ (Nat.zero_le _) fun k hk=>?_
 ·exact wB
 have hc:=rk b k
 by_cases lk:k<16
 ·have c1:=jS b (k:Nat) hb
  have hn:ro b (k+1)=ro b k+(if bF b (k:Nat)=true then 1 else 0):=rfl
  cases e:bF b (k:Nat)<;>rw[e]at c1 hn
  all_goals
   repeat'(first|refine gD ?_|(conv=>whnf);first|refine Cl.mk (c1) ?_)
   ((conv=>whnf);refine Nx.mk (k+1) (by omega) (by omega) ?_)
   rw[hn]
   exact wB
 ·obtain rfl:k=16:=by omega
  repeat'(first|refine gD ?_|fail)
  rfl
theorem ug (b:Int) (hb:b≤9223372036854775807):ah Tryz.prog 361 false [.val none [I b]] .one [I (ro b 16:Nat)]:=by
 refine fO 15 [] Tryz.func361 rfl ?_
 repeat'(first|refine gO ?_|fail)
 (conv=>whnf)
 refine Lp.mk (ι:=Nat) (fun k=>[(0,.hold .one [I (b)]),(3,.hold .one [I ((ro b k:Nat):Int)]),(4,.hold .one [I ((k:Nat):Int)])]) (fun k=>k≤16) (fun k=>16 - k) (0) ?_ (Nat.zero_le _) fun k hk=>?_
 ·exact wB
 have hc:=rk b k
 by_cases lk:k<16
 ·have c1:=ip b (k:Nat) hb
  have hn:ro b (k+1)=ro b k+(if bF b (k:Nat)=true then 1 else 0):=rfl
  cases e:bF b (k:Nat)<;>rw[e]at c1 hn
  all_goals
   repeat'(first|refine gD ?_|(conv=>whnf);first|refine Cl.mk (c1) ?_)
   ((conv=>whnf);refine Nx.mk (k+1) (by omega) (by omega) ?_)
   rw[hn]
   exact wB
 ·obtain rfl:k=16:=by omega
  repeat'(first|refine gD ?_|fail)
  rfl
def rD (h:ac) (s:am):Bool:=decide (0<ro s.Bits 16)&&decide ((bi h s.Page).length=1)
def iZ (h:ac):Nat→List am
 | 0=>[]
 | n+1=>if rD h (nth h.Spans n)=true then iZ h n++[nth h.Spans n] else iZ h n
def g9 (h:ac):List am:=iZ h h.Spans.length
theorem nY (h:ac):∀ n,(iZ h n).length≤n
 | 0=>Nat.le_refl _
 | n+1=>by have:=nY h n;simp only[iZ];split<;>simp<;>omega
theorem rN (h:ac):∀ {n:Nat},n≤h.Spans.length→∀ s∈iZ h n,s∈h.Spans
 | 0,_,s,hs=>by cases hs
 | n+1,hn,s,hs=>by
  simp only[iZ]at hs
  split at hs
  ·rcases List.mem_append.1 hs with hs|hs
   ·exact rN h (by omega) s hs
   ·rw[List.mem_singleton.1 hs];exact aC (by omega)
  ·exact rN h (by omega) s hs
theorem uQ (h:ac) (hs:xN h) (hl:h.Spans.length≤1000) (hp:gi h≤1000) (hb:∀ s∈h.Spans,s.Bits≤9223372036854775807):ah Tryz.prog 350 false [.val (some 24) (ac.enc .imm h)] .one (bm .own (g9 h)):=by
 refine fO 42 [(5,16,[13,14,15,16,17,18,19,20,21,22,23,24,25,26,27,28])] Tryz.func350 rfl ?_ (.inr (qv _))
 repeat'(first|refine gO ?_|fail)
 (conv=>whnf)
 refine Lp.mk (ι:=Nat) (fun k=>[(1,.hold .box (ac.enc .imm h)),(3,.hold .one (bm .own (iZ h k))),(4,.hold .one [I ((k:Nat):Int)])]) (fun k=>k≤h.Spans.length) (fun k=>h.Spans.length - k) (0) ?_ (Nat.zero_le _) fun k hk=>?_
 ·exact wB
 have hml:=nY h k
 by_cases lk:k<h.Spans.length
 ·have hx:=ao lk
  have c1:=tV (nth h.Spans k).Bits (hb _ (aC lk))
  have c2:=jn h (nth h.Spans k).Page hs
  have hfl:=gL h (nth h.Spans k).Page
  have hcl:=rk (nth h.Spans k).Bits 16
  have hn:iZ h (k+1)=if rD h (nth h.Spans k)=true then iZ h k++[nth h.Spans k] else iZ h k:=rfl
  by_cases e1:0<ro (nth h.Spans k).Bits 16
  ·by_cases e2:(bi h (nth h.Spans k).Page).length=1
   ·rw[if_pos (by unfold rD;simp[e1,e2])]at hn
    repeat'(first|refine gA ?_|(conv=>whnf);first|refine Ix.nat (aa hx) ?_|refine Cl.mk (c1) ?_|refine Cl.eq (c2) ⟨⟨rfl,rfl⟩,⟨rfl,rfl⟩,trivial⟩ ?_|refine Cl.mk (c2) ?_|refine Sm.rf ?_|refine Ap.sm (bx fun _=>rfl) rfl (by simp;omega) (by decide) (mj (am.enc .own) (iZ h k) (nth h.Spans k)) ?_)
    ((conv=>whnf);refine Nx.mk (k+1) (by omega) (by omega) ?_)
    rw[hn]
    exact wB
   ·rw[if_neg (by unfold rD;simp[e2])]at hn
    repeat'(first|refine gA ?_|(conv=>whnf);first|refine Ix.nat (aa hx) ?_|refine Cl.mk (c1) ?_|refine Cl.mk (c2) ?_|refine Sm.rf ?_)
    ((conv=>whnf);refine Nx.mk (k+1) (by omega) (by omega) ?_)
    rw[hn]
    exact wB
  ·rw[if_neg (by unfold rD;simp[e1])]at hn
   repeat'(first|refine gD ?_|(conv=>whnf);first|refine Ix.nat (aa hx) ?_|refine Cl.mk (c1) ?_|refine Cl.mk (c2) ?_|refine Sm.rf ?_)
   ((conv=>whnf);refine Nx.mk (k+1) (by omega) (by omega) ?_)
   rw[hn]
   exact wB
 ·obtain rfl:k=h.Spans.length:=by omega
  repeat'(first|refine gD ?_|fail)
  rfl
theorem wV (h:ac) (hs:xN h) (hl:h.Spans.length≤1000) (hp:gi h≤1000) (hb:∀ s∈h.Spans,s.Bits≤9223372036854775807):ah Tryz.prog 289 false [.val (some 24) (ac.enc .imm h)] .one (bm .own (g9 h)):=by
 refine fO 32 [] Tryz.func289 rfl ?_ (.inr (qv _))
 repeat'(first|refine gO ?_|fail)
 (conv=>whnf)
 refine Lp.mk (ι:=Nat) (fun k=>[(1,.hold .box (ac.enc .imm h)),(3,.hold .one (bm .own (iZ h k))),(8,.hold .one (bm .imm h.Spans)),(9,.hold .one [I (h.Spans.length)]),(10,.hold .one [I ((k:Nat):Int)])]) (fun k=>k≤h.Spans.length) (fun k=>h.Spans.length - k) (0) ?_ (Nat.zero_le _) fun k hk=>?_
 ·exact wB
 have hml:=nY h k
 by_cases lk:k<h.Spans.length
 ·have hx:=ao lk
  have c1:=ug (nth h.Spans k).Bits (hb _ (aC lk))
  have c2:=ns h (nth h.Spans k).Page hs
  have hfl:=gL h (nth h.Spans k).Page
  have hcl:=rk (nth h.Spans k).Bits 16
  have hn:iZ h (k+1)=if rD h (nth h.Spans k)=true then iZ h k++[nth h.Spans k] else iZ h k:=rfl
  by_cases e1:0<ro (nth h.Spans k).Bits 16
  ·by_cases e2:(bi h (nth h.Spans k).Page).length=1
   ·rw[if_pos (by unfold rD;simp[e1,e2])]at hn
    repeat'(first|refine gA ?_|(conv=>whnf);first|refine Ix.nat (aa hx) ?_|refine Cl.mk (c1) ?_|refine Cl.mk (c2) ?_|refine Sm.rf ?_|refine Ap.sm (bx fun _=>rfl) rfl (by simp;omega) (by decide) (mj (am.enc .own) (iZ h k) (nth h.Spans k)) ?_)
    ((conv=>whnf);refine Nx.mk (k+1) (by omega) (by omega) ?_)
    rw[hn]
    exact wB
   ·rw[if_neg (by unfold rD;simp[e2])]at hn
    repeat'(first|refine gA ?_|(conv=>whnf);first|refine Ix.nat (aa hx) ?_|refine Cl.mk (c1) ?_|refine Cl.mk (c2) ?_|refine Sm.rf ?_)
    ((conv=>whnf);refine Nx.mk (k+1) (by omega) (by omega) ?_)
    rw[hn]
    exact wB
  ·rw[if_neg (by unfold rD;simp[e1])]at hn
   repeat'(first|refine gD ?_|(conv=>whnf);first|refine Ix.nat (aa hx) ?_|refine Cl.mk (c1) ?_|refine Cl.mk (c2) ?_|refine Sm.rf ?_)
   ((conv=>whnf);refine Nx.mk (k+1) (by omega) (by omega) ?_)
   rw[hn]
   exact wB
 ·obtain rfl:k=h.Spans.length:=by omega
  repeat'(first|refine gD ?_|fail)
  rfl
end Go.Proofs.YtplcalfnngkffaaGreat.Ab
/- A span's cells: contracts, the reference's and the program's (of XOc). No condition. -/
namespace Go.Proofs.YtplcalfnngkffaaGreat.Ab
open Go.RowKit
set_option maxRecDepth 20000
set_option maxHeartbeats 4000000
def vN (s:am) (c:Nat):Bool:=bF s.Bits (((c:Nat):Int) / csz s.Class)
def tR (s:am) (n:Nat):List Int:=((List.range n).filter (vN s)).map fun(i:Nat)=>(i:Int)
theorem GS {s:am} {n:Nat} (h:vN s n=true):tR s (n+1)=tR s n++[(n:Int)]:=by
 unfold tR;rw[List.range_succ,List.filter_append,List.map_append];simp[h]
theorem Ld {s:am} {n:Nat} (h:vN s n=false):tR s (n+1)=tR s n:=by
 unfold tR;rw[List.range_succ,List.filter_append,List.map_append];simp[h]
theorem kW (s:am) (n:Nat):(tR s n).length≤n:=by
 unfold tR;rw[List.length_map];exact Nat.le_trans (List.length_filter_le _ _) (by simp)
theorem G9 {s:am} (hs:bq s=true) {c:Nat} (hc:c<16):0≤((c:Nat):Int) / csz s.Class∧((c:Nat):Int) / csz s.Class≤15:=by
 have h1:=aR hs
 have h2:csz s.Class=1∨csz s.Class=2∨csz s.Class=4∨csz s.Class=8:=dw (by omega)
 rcases h2 with e|e|e|e<;>rw[e]<;>omega
theorem nJ (s:am) (hs:bq s=true):ah Tryz.prog 403 false [.val (some 3) (am.enc .imm s)] .one (aI .own (tR s 16)):=by
 have hk:=hC s
 rw[hs]at hk
 have hc:=aR hs
 have hz:=dw hc.2.2
 refine fO 27 [(5,7,[14,15,16,17,18,19,20])] Tryz.func403 rfl ?_ (.inr (bN _))
 repeat'(first|refine gO ?_|fail)
 (conv=>whnf)
 refine Lp.mk (ι:=Nat) (fun i=>[(1,.hold .box (am.enc .imm s)),(3,.hold .one (aI .own (tR s i))),(4,.hold .one [I ((i:Nat):Int)])]) (fun i=>i≤16) (fun i=>16 - i) (0) ?_ (Nat.zero_le _) fun i hi=>?_
 ·exact wB
 have hle:=kW s i
 by_cases li:i<16
 ·have hsl:=G9 hs li
  have q1:IntKind.i64.wrap (((i:Nat):Int).tdiv (csz s.Class))=((i:Nat):Int) / csz s.Class:=by rw[mz (by omega)];exact fU (by omega) (by omega)
  have h2:=jS s.Bits (((i:Nat):Int) / csz s.Class) (eJ hs).2
  cases e:vN s i
  ·rw[show bF s.Bits (((i:Nat):Int) / csz s.Class)=false from e]at h2
   repeat'(first|refine gD ?_|(conv=>whnf);first|refine Cl.mk (hk) ?_|refine Cl.mk (gl _) ?_|refine Cd.mk (by omega) ?_|refine Wr.mk q1 ?_|refine Cl.mk (h2) ?_)
   ((conv=>whnf);refine Nx.mk (i+1) (by omega) (by omega) ?_)
   rw[Ld e]
   exact wB
  ·rw[show bF s.Bits (((i:Nat):Int) / csz s.Class)=true from e]at h2
   repeat'(first|refine gD ?_|(conv=>whnf);first|refine Cl.mk (hk) ?_|refine Cl.mk (gl _) ?_|refine Cd.mk (by omega) ?_|refine Wr.mk q1 ?_|refine Cl.mk (h2) ?_|refine Ap.mk di (fun r hr=>by rw[List.mem_singleton.1 hr];rfl) (by simp[aW,eB]) (by simp;omega) (by simp only[List.length_map];exact ul (by simp;omega) (by decide)) rfl ?_)
   ((conv=>whnf);refine Nx.mk (i+1) (by omega) (by omega) ?_)
   rw[GS e]
   (repeat'(first|exact trivial|rfl|exact And.intro rfl (And.intro (congrArg (C.s dE.own) (by simp[rI])) trivial)|refine And.intro ?_ ?_))
 ·obtain rfl:i=16:=by omega
  repeat'(first|refine gD ?_|(conv=>whnf);first|refine Cl.mk (hk) ?_)
  rfl
theorem og (s:am) (hs:bq s=true):ah Tryz.prog 153 false [.val (some 3) (am.enc .imm s)] .one (aI .own (tR s 16)):=by
 have hk:=gn s
 rw[hs]at hk
 have hc:=aR hs
 have hz:=dw hc.2.2
 refine fO 26 [(7,7,[13,14,15,16,17,18,19])] Tryz.func153 rfl ?_ (.inr (bN _))
 repeat'(first|refine gO ?_|(conv=>whnf);first|refine Cl.mk (hk) ?_)
 (conv=>whnf)
 refine Lp.mk (ι:=Nat) (fun i=>[(1,.hold .box (am.enc .imm s)),(3,.hold .one (aI .own (tR s i))),(4,.hold .one [I ((i:Nat):Int)])]) (fun i=>i≤16) (fun i=>16 - i) (0) ?_ (Nat.zero_le _) fun i hi=>?_
 ·exact wB
 have hle:=kW s i
 by_cases li:i<16
 ·have hsl:=G9 hs li
  have q1:IntKind.i64.wrap (((i:Nat):Int).tdiv (csz s.Class))=((i:Nat):Int) / csz s.Class:=by rw[mz (by omega)];exact fU (by omega) (by omega)
  have h2:=ip s.Bits (((i:Nat):Int) / csz s.Class) (eJ hs).2
  cases e:vN s i
  ·rw[show bF s.Bits (((i:Nat):Int) / csz s.Class)=false from e]at h2
   repeat'(first|refine gD ?_|(conv=>whnf);first|refine Cl.mk (dR _) ?_|refine Cd.mk (by omega) ?_|refine Wr.mk q1 ?_|refine Cl.mk (h2) ?_)
   ((conv=>whnf);refine Nx.mk (i+1) (by omega) (by omega) ?_)
   rw[Ld e]
   exact wB
  ·rw[show bF s.Bits (((i:Nat):Int) / csz s.Class)=true from e]at h2
   repeat'(first|refine gD ?_|(conv=>whnf);first|refine Cl.mk (dR _) ?_|refine Cd.mk (by omega) ?_|refine Wr.mk q1 ?_|refine Cl.mk (h2) ?_|refine Ap.mk di (fun r hr=>by rw[List.mem_singleton.1 hr];rfl) (by simp[aW,eB]) (by simp;omega) (by simp only[List.length_map];exact ul (by simp;omega) (by decide)) rfl ?_)
   ((conv=>whnf);refine Nx.mk (i+1) (by omega) (by omega) ?_)
   rw[GS e]
   (repeat'(first|exact trivial|rfl|exact And.intro rfl (And.intro (congrArg (C.s dE.own) (by simp[rI])) trivial)|refine And.intro ?_ ?_))
 ·obtain rfl:i=16:=by omega
  repeat'(first|refine gD ?_|fail)
  rfl
end Go.Proofs.YtplcalfnngkffaaGreat.Ab
/- Pairs, plans, new jobs. No condition. -/
namespace Go.Proofs.YtplcalfnngkffaaGreat.Ab
open Go.RowKit
set_option maxRecDepth 20000
set_option maxHeartbeats 4000000
structure dH where
 A:Int
 B:Int
deriving DecidableEq,Inhabited
def dH.enc (_:dE) (x:dH):List C:=[I x.A,I x.B]
def eA (o:dE) (x:List dH):List C:=[.s o (x.map (dH.enc o))]
theorem vZ (x:List dH):gq (eA .own x):=⟨⟨.inl fun h=>(by cases h),aT _ _ fun _ _=>⟨trivial,trivial,trivial⟩⟩,trivial⟩
theorem wq (xs:List dH) (pr:dH→Bool) (hl:xs.length≤9223372036854775807):ah Tryz.prog 444 false [.val none (eA .imm xs),.fn (n7 Tryz.prog (yO (some 2) (dH.enc .imm) pr xs))] .one [I (gF pr xs)]:=by
 refine fO 19 [] Tryz.func444 rfl ?_
 repeat'(first|refine gO ?_|fail)
 (conv=>whnf)
 refine Lp.mk (ι:=Nat) (fun i=>[(0,.hold .one (eA .imm xs)),(1,.fv (n7 Tryz.prog (yO (some 2) (dH.enc .imm) pr xs))),(7,.hold .one [I xs.length]),(8,.hold .one [I (i:Nat)])]) (fun i=>i≤xs.length∧∀ (j:Nat) (z:dH),j<i→xs[j]? = some z→pr z=false) (fun i=>xs.length - i) 0 ?_ ⟨Nat.zero_le _,fun j z hj=>by omega⟩ fun i hi=>?_
 ·exact wB
 ·obtain⟨hi,ha⟩:=hi
  by_cases hlt:i<xs.length
  ·obtain⟨y,hy⟩ : ∃ y,xs[i]? = some y:=⟨_,List.getElem?_eq_getElem hlt⟩
   repeat'(first|refine gD ?_|(conv=>whnf);first|with_reducible refine Ix.nat (aa hy) ?_|refine Fv.mk (k:=.one) (rcs:=[B (pr y)]) ⟨y,List.mem_of_getElem? hy,rfl,rfl,rfl⟩ ?_|refine Bf.P (fun hq=>?_) (fun hq=>?_))
   ·exact congrArg (fun z=>[I z]) (gu hy ‹_› ha).symm
   ·(conv=>whnf)
    refine Nx.mk (i+1) ⟨by omega,gE hy (by assumption) ha⟩ (by omega) ?_
    exact wB
  ·repeat'(first|refine gD ?_|fail)
   exact congrArg (fun z=>[I z]) (k7 (by omega) ha).symm
theorem qH (xs:List dH) (pr:dH→Bool) (hl:xs.length≤9223372036854775807):ah Tryz.prog 411 false [.val none (eA .imm xs),.fn (n7 Tryz.prog (yO (some 2) (dH.enc .imm) pr xs))] .one [B (xs.any pr)]:=by
 refine fO 9 [] Tryz.func411 rfl ?_
 repeat'(first|refine gO ?_|(conv=>whnf);first|refine Cl.mk (wq xs pr hl) ?_)
 exact congrArg (fun z=>[B z]) (ke pr xs)
def zv (i:Int) (p:dH):Bool:=decide (p.A=i) || decide (p.B=i)
theorem D5 (p:dH) (i:Int):ah Tryz.prog 412 false [.val (some 2) (dH.enc .imm p),.ptr [I i]] .one [B (zv i p)]:=by
 refine fO 14 [] Tryz.func412 rfl ?_
 repeat'(first|refine gO ?_|(conv=>whnf);first|with_reducible refine Bf.E (fun hq=>?_) (fun hq=>?_))
 all_goals exact congrArg (fun z=>[B z]) ((by unfold zv;first|(simp[*];done)|(simp[*];rw[Bool.eq_iff_iff];simp)))
theorem vH (xs:List dH) (i:Int) (hl:xs.length≤1048576):ah Tryz.prog 363 false [.val none (eA .imm xs),.val none [I i]] .one [B (xs.any (zv i))]:=by
 refine fO 8 [] Tryz.func363 rfl ?_
 repeat'(first|refine gO ?_|(conv=>whnf);first|refine Cq.mk (yO (some 2) (dH.enc .imm) (zv i) xs) (D5 default i).has (fun L k rcs hQ=>?_) ?_|refine Cl.mk (qH xs (zv i) (by omega)) ?_)
 ·obtain⟨y,-,rfl,rfl,rfl⟩:=hQ
  exact D5 y i
 ·rfl
def gT (a b:am):aN:=if(tR a 16).length<(tR b 16).length then⟨b.Page,a.Page,tR a 16⟩ else⟨a.Page,b.Page,tR b 16⟩
theorem ym (a b:am) (hm:meshable a b=true) (ha:bq a=true) (hb:bq b=true):ah Tryz.prog 352 false [.val (some 3) (am.enc .imm a),.val (some 3) (am.enc .imm b)] (.tup [some 3,none]) (aN.enc .own (gT a b)++[B true]):=by
 have c1:=ly a b
 rw[hm]at c1
 have c2:=nJ a ha
 have c3:=nJ b hb
 have h1:=kW a 16
 have h2:=kW b 16
 unfold gT
 split
 ·refine fO 27 [(3,6,[11,12,13,14,15,16]),(5,6,[20,21,22,23,24,25])] Tryz.func352 rfl ?_ (.inr (aP (aN.enc_fr _) ⟨trivial,trivial⟩))
  repeat'(first|refine gD ?_|(conv=>whnf);first|refine Cl.mk (c1) ?_|refine Cl.mk (c2) ?_|refine Cl.mk (c3) ?_|refine Sm.rf ?_)
  rfl
 ·refine fO 27 [(3,6,[11,12,13,14,15,16]),(5,6,[20,21,22,23,24,25])] Tryz.func352 rfl ?_ (.inr (aP (aN.enc_fr _) ⟨trivial,trivial⟩))
  repeat'(first|refine gD ?_|(conv=>whnf);first|refine Cl.mk (c1) ?_|refine Cl.mk (c2) ?_|refine Cl.mk (c3) ?_|refine Sm.rf ?_)
  rfl
theorem xX (a b:am) (hm:meshable a b=true) (ha:bq a=true) (hb:bq b=true):ah Tryz.prog 291 false [.val (some 3) (am.enc .imm a),.val (some 3) (am.enc .imm b)] (.tup [some 3,none]) (aN.enc .own (gT a b)++[B true]):=by
 have c1:=lQ a b
 rw[hm]at c1
 have c2:=og a ha
 have c3:=og b hb
 have h1:=kW a 16
 have h2:=kW b 16
 unfold gT
 split
 ·refine fO 34 [(3,3,[13,14,15])] Tryz.func291 rfl ?_ (.inr (aP (aN.enc_fr _) ⟨trivial,trivial⟩))
  repeat'(first|refine gD ?_|(conv=>whnf);first|refine Cl.mk (c1) ?_|refine Cl.mk (c2) ?_|refine Cl.mk (c3) ?_|refine Sm.rf ?_)
  rfl
 ·refine fO 34 [(3,3,[13,14,15])] Tryz.func291 rfl ?_ (.inr (aP (aN.enc_fr _) ⟨trivial,trivial⟩))
  repeat'(first|refine gD ?_|(conv=>whnf);first|refine Cl.mk (c1) ?_|refine Cl.mk (c2) ?_|refine Cl.mk (c3) ?_|refine Sm.rf ?_)
  rfl
def xZ (p:aN):aZ:=⟨p,0,0⟩
theorem D3 (p:aN) (hp:eR p=true) (hs:aN.sml p):ah Tryz.prog 353 false [.val (some 3) (aN.enc .imm p)] (.tup [some 5,none]) (aZ.enc .own (xZ p)++[B true]):=by
 have c1:=tq p hs
 rw[hp]at c1
 have c2:=qD (xZ p) hs
 refine fO 11 [] Tryz.func353 rfl ?_ (.inr (aP (aZ.enc_fr _) ⟨trivial,trivial⟩))
 repeat'(first|refine gO ?_|(conv=>whnf);first|refine Cl.mk (c1) ?_|refine Cl.mk (c2) ?_)
 rfl
theorem D1 (p:aN) (hp:eR p=true) (hs:aN.sml p):ah Tryz.prog 292 false [.val (some 3) (aN.enc .imm p)] (.tup [some 5,none]) (aZ.enc .own (xZ p)++[B true]):=by
 have c1:=tl p hs
 rw[hp]at c1
 have c2:=pz p hs
 refine fO 11 [] Tryz.func292 rfl ?_ (.inr (aP (aZ.enc_fr _) ⟨trivial,trivial⟩))
 repeat'(first|refine gO ?_|(conv=>whnf);first|refine Cl.mk (c1) ?_|refine Cl.mk (c2) ?_)
 rfl
end Go.Proofs.YtplcalfnngkffaaGreat.Ab
/- Pairs of spans. No condition. (Dy) -/
namespace Go.Proofs.YtplcalfnngkffaaGreat.Ab
open Go.RowKit
set_option maxRecDepth 20000
set_option maxHeartbeats 4000000
theorem oW (n:Nat) {s:Int} (hs:0≤s∧s≤1073741823):∀ {j:Nat},j≤n - 1→∀ x∈(eC n s j).1,0≤x∧x<n
 | 0,_,x,hx=>by
  simp only[eC,nR,List.mem_map,List.mem_range]at hx
  obtain⟨i,hi,rfl⟩:=hx
  omega
 | j+1,hj,x,hx=>by
  have hl:=(k6 n hs j).1
  have ih:=oW n hs (j:=j) (by omega)
  have hc:=wc (eC n s j).2 (n:=((n - 1 - j:Nat)+1:Int)) (by omega)
  simp only[eC,td]at hx
  rcases List.mem_or_eq_of_mem_set hx with hx|rfl
  ·rcases List.mem_or_eq_of_mem_set hx with hx|rfl
   ·exact ih x hx
   ·exact ih _ (aC (by omega))
  ·exact ih _ (aC (by omega))
def tkn (out:List dH) (a:Int):Bool:=out.any (zv a)
def stp (ls:List am) (p:List Int) (t i:Nat) (out:List dH):List dH:=
 if tkn out (nth p i)=false∧tkn out (nth p (p.length / 2+(i+t) % (p.length - p.length / 2)))=false∧meshable (nth ls (nth p i).toNat) (nth ls (nth p (p.length / 2+(i+t) % (p.length - p.length / 2))).toNat)=true then out++[⟨nth p i,nth p (p.length / 2+(i+t) % (p.length - p.length / 2))⟩] else out
def pd (ls:List am) (p:List Int) (t:Nat) (out:List dH):Nat→List dH
 | 0=>out
 | i+1=>stp ls p t i (pd ls p t out i)
def kU (ls:List am) (p:List Int):Nat→List dH
 | 0=>[]
 | t+1=>pd ls p t (kU ls p t) (p.length / 2)
theorem LB (ls:List am) (p:List Int) (t i:Nat) (out:List dH):(stp ls p t i out).length≤out.length+1:=by unfold stp;split<;>simp
theorem qZ (ls:List am) (p:List Int) (t:Nat) (out:List dH):∀ i,(pd ls p t out i).length≤out.length+i
 | 0=>Nat.le_refl _
 | i+1=>by have h1:=qZ ls p t out i;have h2:=LB ls p t i (pd ls p t out i);simp only[pd];omega
theorem vX (ls:List am) (p:List Int):∀ t,(kU ls p t).length≤t*(p.length / 2)
 | 0=>Nat.zero_le _
 | t+1=>by have h1:=vX ls p t;have h2:=qZ ls p t (kU ls p t) (p.length / 2);simp only[kU];rw[Nat.add_mul];omega
def jW (ls:List am) (s:Int):List dH:=kU ls (shuf ls.length s).1 3
def nl (n:Nat) (out:List dH):List Bool:=(List.range n).map fun(i:Nat)=>tkn out (i:Nat)
theorem GL {n:Nat} {out:List dH} {a:Int} (h:0≤a∧a<n):(nl n out)[a.toNat]? = some (tkn out a):=by
 unfold nl
 rw[List.getElem?_map,List.getElem?_range (by omega)]
 show some (tkn out ((a.toNat:Nat):Int))=_
 rw[Int.toNat_of_nonneg h.1]
theorem Ko {n:Nat} {out:List dH} {a b:Int} (ha:0≤a∧a<n) (hb:0≤b∧b<n):nl n (out++[⟨a,b⟩])=((nl n out).set a.toNat true).set b.toNat true:=by
 unfold nl
 apply List.ext_getElem?
 intro i
 by_cases hi:i<n
 ·rw[List.getElem?_map,List.getElem?_range hi]
  by_cases e2:b.toNat=i
  ·subst e2
   rw[List.getElem?_set_self (by simp;omega)]
   simp only[Option.map_some,tkn,List.any_append,List.any_cons,List.any_nil,zv]
   rw[Int.toNat_of_nonneg hb.1];simp
  ·rw[List.getElem?_set_ne e2]
   by_cases e1:a.toNat=i
   ·subst e1
    rw[List.getElem?_set_self (by simp;omega)]
    simp only[Option.map_some,tkn,List.any_append,List.any_cons,List.any_nil,zv]
    rw[Int.toNat_of_nonneg ha.1];simp
   ·rw[List.getElem?_set_ne e1,List.getElem?_map,List.getElem?_range hi]
    simp only[Option.map_some,tkn,List.any_append,List.any_cons,List.any_nil,zv]
    rw[decide_eq_false (by omega),decide_eq_false (by omega)];simp
 ·rw[List.getElem?_eq_none (by simp;omega),List.getElem?_eq_none (by simp;omega)]
theorem LQ (n:Nat):(nl n []).map (rB .own)=List.replicate n [B false]:=by
 unfold nl
 rw[List.map_map]
 apply List.ext_getElem?
 intro i
 rw[List.getElem?_map]
 by_cases hi:i<n
 ·rw[List.getElem?_range hi,List.getElem?_replicate];simp[hi];rfl
 ·rw[List.getElem?_eq_none (by simp;omega),List.getElem?_replicate];simp[hi]
theorem Jq {xs:List Bool} {i k:Nat} (v:Bool) (hk:k<xs.length):((xs.map (rB .own)).set i (rB .own v))[k]? = some (rB .own (nth (xs.set i v) k)):=by
 rw[←List.map_set];exact aa (ao (by rw[List.length_set];exact hk))
theorem tT (ls:List am) (s:Int) (hs:0≤s∧s≤1073741823) (hn:ls.length≤16):ah Tryz.prog 351 false [.val none (bm .imm ls),.val none [I s],.val none [I 3]] (.tup [none,none]) (eA .own (jW ls s)++[I (shuf ls.length s).2]):=by
 have c1:=aO s 0 1073741823
 rw[decide_eq_true hs]at c1
 have c2:=aO 3 0 16
 rw[decide_eq_true (by omega)]at c2
 have c3:=xD ls.length s hs (by omega)
 have hpl:=(k6 ls.length hs (ls.length - 1)).1
 have hpm:=oW ls.length hs (Nat.le_refl _)
 unfold jW
 change (shuf ls.length s).1.length=_ at hpl
 change ∀ x∈(shuf ls.length s).1,_ at hpm
 have hfr:gq (eA .own (kU ls (shuf ls.length s).1 3)++[I (shuf ls.length s).2]):=aP (vZ _) ⟨trivial,trivial⟩
 generalize shuf ls.length s=q at *
 obtain⟨p,z⟩:=q
 simp only at *
 have htd:((p.length:Nat):Int).tdiv 2=((p.length / 2:Nat):Int):=by rw[Int.tdiv_eq_ediv_of_nonneg (by omega)];omega
 have hoo:C.s dE.own ((nl ls.length []).map (rB .own))=C.s dE.own (List.replicate ls.length [B false]):=by rw[LQ]
 have hpi:∀ i:Nat,i<p.length→0≤nth p i∧nth p i<ls.length:=fun i hi=>hpm _ (aC hi)
 refine fO 110 [(15,21,[73,74,75,76,77,78,79,80,81,82,83,84,85,86,87,88,89,90,91,92,93])] Tryz.func351 rfl ?_ (.inr hfr)
 repeat'(first|refine gD ?_|(conv=>whnf);first|with_reducible refine Wr.mk ((congrArg _ htd).trans (fU (by omega) (by omega))) ?_|refine Cl.mk (c1) ?_|refine Cl.mk (c2) ?_|refine Cl.mk (c3) ?_|refine Cd.mk (by decide) ?_|refine Mk.mk ls.length rfl rfl (by omega) (ul (by omega) (by decide)) rfl ?_)
 (conv=>whnf)
 refine Lp.mk (ι:=Nat) (fun t=>[(0,.hold .one (bm .imm ls)),(2,.hold .one [I (3)]),(8,.hold .one (eA .own (kU ls p t))),(9,.hold .one (aI .own p)),(10,.hold .one [I (z)]),(11,.hold .one [I (((p.length / 2):Nat):Int)]),(12,.hold .one (fu .own (nl ls.length (kU ls p t)))),(13,.hold .one [I ((t:Nat):Int)])]) (fun t=>t≤3) (fun t=>3 - t) (0) ?_ (Nat.zero_le _) fun t ht=>?_
 ·repeat'(first|exact trivial|rfl |exact Dy hoo|refine And.intro ?_ ?_|(exact MU (by first|omega|(simp only;omega)|(simp;omega))))
 have ol:=vX ls p t
 have ol2:t*(p.length / 2)≤3*8:=Nat.mul_le_mul ht (by omega)
 by_cases lt:t<3
 ·repeat'(first|refine gD ?_|fail)
  (conv=>whnf)
  refine Lp.mk (ι:=Nat) (fun j=>[(0,.hold .one (bm .imm ls)),(2,.hold .one [I (3)]),(8,.hold .one (eA .own (pd ls p t (kU ls p t) j))),(9,.hold .one (aI .own p)),(10,.hold .one [I (z)]),(11,.hold .one [I (((p.length / 2):Nat):Int)]),(12,.hold .one (fu .own (nl ls.length (pd ls p t (kU ls p t) j)))),(13,.hold .one [I ((t:Nat):Int)]),(14,.hold .one [I ((j:Nat):Int)])]) (fun j=>j≤p.length / 2) (fun j=>p.length / 2 - j) (0) ?_ (Nat.zero_le _) fun j hj=>?_
  ·repeat'(first|exact trivial|rfl |exact Dy hoo|refine And.intro ?_ ?_|(exact MU (by first|omega|(simp only;omega)|(simp;omega))))
  have rl:=qZ ls p t (kU ls p t) j
  by_cases lj:j<p.length / 2
  ·have hmod:(j+t) % (p.length - p.length / 2)<p.length - p.length / 2:=Nat.mod_lt _ (by omega)
   have hev:((j:Int)+t).tmod ((p.length:Int) - (p.length / 2:Nat))=(((j+t) % (p.length - p.length / 2):Nat):Int):=by
    rw[gf (by omega),Int.natCast_emod];congr 1;omega
   have hn2:pd ls p t (kU ls p t) (j+1)=stp ls p t j (pd ls p t (kU ls p t) j):=rfl
   unfold stp at hn2
   generalize pd ls p t (kU ls p t) j=out at *
   have hk2:p.length / 2+(j+t) % (p.length - p.length / 2)<p.length:=by omega
   generalize hk:(j+t) % (p.length - p.length / 2)=k at *
   have hxa:=ao (xs:=p) (i:=j) (by omega)
   have hxb:=ao (xs:=p) (i:=p.length / 2+k) hk2
   have ba:=hpi j (by omega)
   have bb:=hpi _ hk2
   generalize nth p j=a at *
   generalize nth p (p.length / 2+k)=b at *
   have ua:=GL (out:=out) ba
   have ub:=GL (out:=out) bb
   have sa:=ao (xs:=ls) (i:=a.toNat) (by omega)
   have sb:=ao (xs:=ls) (i:=b.toNat) (by omega)
   have c5:=ly (nth ls a.toNat) (nth ls b.toNat)
   have ub2:=Jq (xs:=nl ls.length out) (i:=a.toNat) (k:=b.toNat) true (by simp[nl];omega)
   cases e1:tkn out a<;>cases e2:tkn out b<;>cases e3:meshable (nth ls a.toNat) (nth ls b.toNat)
   all_goals
    rw[e1]at ua
    rw[e2]at ub
    rw[e3]at c5
    rw[e1,e2,e3]at hn2
    simp only[and_true,true_and,if_true,Bool.false_eq_true,Bool.true_eq_false,and_false,false_and,if_false]at hn2
    repeat'(first|refine gD ?_|(conv=>whnf);first|refine Ev.mk hev ?_|refine Cd.mk (by omega) ?_|refine Ix.nat (aa hxa) ?_|refine Ix.mk (by omega) (aa hxb) ?_|refine Ix.mk ba.1 (aa ua) ?_|refine Ix.mk bb.1 (aa ub) ?_|refine Ix.mk ba.1 (aa sa) ?_|refine Ix.mk bb.1 (aa sb) ?_|refine Rw.one rfl (aa hxa) rfl ?_|refine Rw.one rfl (aa hxb) rfl ?_|refine Rw.one rfl (aa ua) rfl ?_|refine Rw.one rfl (aa ub) rfl ?_|refine Cl.mk (c5) ?_|refine Sm.rf ?_|refine Pu.one rfl rfl (aa ua) rfl (Nat.le_of_ble_eq_true rfl) rfl ?_|refine Ix.mk bb.1 ub2 ?_|refine Pu.one rfl rfl ub2 rfl (Nat.le_of_ble_eq_true rfl) rfl ?_|refine Ap.sm (bx fun _=>rfl) rfl (by simp;omega) (by decide) (mj (dH.enc .own) out ⟨a,b⟩) ?_)
    ((conv=>whnf);refine Nx.mk (j+1) (by omega) (by omega) ?_)
    rw[hn2]
    first|(rw[Ko ba bb];simp only[fu,List.map_set])|skip
    exact wB
  ·obtain rfl:j=p.length / 2:=by omega
   repeat'(first|refine gD ?_|fail)
   ((conv=>whnf);refine Nx.mk (t+1) (by omega) (by omega) ?_;(exact wB))
 ·obtain rfl:t=3:=by omega
  repeat'(first|refine gD ?_|fail)
  rfl
end Go.Proofs.YtplcalfnngkffaaGreat.Ab
/- Pairs of spans: the program's. No condition. -/
namespace Go.Proofs.YtplcalfnngkffaaGreat.Ab
open Go.RowKit
set_option maxRecDepth 20000
set_option maxHeartbeats 4000000
theorem qu (x:List dH):ey (eA .own x)=eA .imm x:=by simp[ey,eA,dH.enc,←cr,Function.comp_def]
theorem uj (ls:List am) (s:Int) (hs:0≤s∧s≤1073741823) (hn:ls.length≤16):ah Tryz.prog 290 false [.val none (bm .imm ls),.val none [I s],.val none [I 3]] (.tup [none,none]) (eA .own (jW ls s)++[I (shuf ls.length s).2]):=by
 have c1:=qV s hs
 have c2:=aL 3 0 16
 rw[decide_eq_true (by omega)]at c2
 have c3:=x8 ls.length s hs (by omega)
 have hpl:=(k6 ls.length hs (ls.length - 1)).1
 have hpm:=oW ls.length hs (Nat.le_refl _)
 unfold jW
 change (shuf ls.length s).1.length=_ at hpl
 change ∀ x∈(shuf ls.length s).1,_ at hpm
 have hfr:gq (eA .own (kU ls (shuf ls.length s).1 3)++[I (shuf ls.length s).2]):=aP (vZ _) ⟨trivial,trivial⟩
 generalize shuf ls.length s=q at *
 obtain⟨p,z⟩:=q
 simp only at *
 have htd:((p.length:Nat):Int).tdiv 2=((p.length / 2:Nat):Int):=by rw[Int.tdiv_eq_ediv_of_nonneg (by omega)];omega
 have hfz:fz (C.s dE.own (p.map (rI .own)))=C.s dE.imm (p.map (rI .imm)):=(List.cons.inj (dO p)).1
 have hdl:(p.drop (p.length / 2)).length=p.length - p.length / 2:=List.length_drop ..
 have htl:(p.take (p.length / 2)).length=p.length / 2:=by rw[List.length_take];omega
 have hpi:∀ i:Nat,i<p.length→0≤nth p i∧nth p i<ls.length:=fun i hi=>hpm _ (aC hi)
 have htl2:((ls.length:Nat):Int).tdiv 2=((p.length / 2:Nat):Int):=by rw[←hpl];exact htd
 refine fO 99 [(5,264,[39,40,41,42,43,44,45,46,0,1,2,3,4,5,6,7,8,1004,1005,1006,1007,9]),(14,19,[69,70,71,72,73,74,75,76,77,78,79,80,81,82,83,84,85,86,87]),(1048581,9,[0])] Tryz.func290 rfl ?_ (.inr hfr)
 repeat'(first|refine gD ?_|(conv=>whnf);first|with_reducible refine Wr.mk ((congrArg _ htl2).trans (fU (by omega) (by omega))) ?_|refine Sm.rf ?_|refine Cl.mk (c1) ?_|refine Cl.mk (c2) ?_|refine Cl.mk (c3) ?_|refine Cd.mk (by decide) ?_|refine LM.mk rfl hfz rfl ?_|refine Sl.pre (p.length / 2) htl2 (by rw[List.length_map];omega) (bx fun _=>rfl) List.map_take ?_|refine Sl.suf (p.length / 2) htl2 (by rw[List.length_map];omega) (bx fun _=>rfl) List.map_drop ?_|refine Sm.rf ?_)
 (conv=>whnf)
 refine Lp.mk (ι:=Nat) (fun t=>[(0,.hold .one (bm .imm ls)),(2,.hold .one [I (3)]),(10,.hold .one [I (z)]),(11,.hold .one (aI .imm (p.take (p.length / 2)))),(12,.hold .one (aI .imm (p.drop (p.length / 2)))),(13,.hold .one (eA .own (kU ls p t))),(14,.hold .one [I ((t:Nat):Int)])]) (fun t=>t≤3) (fun t=>3 - t) (0) ?_ (Nat.zero_le _) fun t ht=>?_
 ·exact wB
 have ol:=vX ls p t
 have ol2:t*(p.length / 2)≤3*8:=Nat.mul_le_mul ht (by omega)
 by_cases lt:t<3
 ·repeat'(first|refine gD ?_|(conv=>whnf);first|refine Sm.rf ?_)
  (conv=>whnf)
  refine Lp.mk (ι:=Nat) (fun j=>[(0,.hold .one (bm .imm ls)),(2,.hold .one [I (3)]),(10,.hold .one [I (z)]),(11,.hold .one (aI .imm (p.take (p.length / 2)))),(12,.hold .one (aI .imm (p.drop (p.length / 2)))),(13,.hold .one (eA .own (pd ls p t (kU ls p t) j))),(14,.hold .one [I ((t:Nat):Int)]),(53,.hold .one (aI .imm (p.take (p.length / 2)))),(54,.hold .one [I (((p.length / 2):Nat):Int)]),(55,.hold .one [I ((j:Nat):Int)])]) (fun j=>j≤p.length / 2) (fun j=>p.length / 2 - j) (0) ?_ (Nat.zero_le _) fun j hj=>?_
  ·exact wB
  have rl:=qZ ls p t (kU ls p t) j
  by_cases lj:j<p.length / 2
  ·have hmod:(j+t) % (p.length - p.length / 2)<p.length - p.length / 2:=Nat.mod_lt _ (by omega)
   have hev:((j:Int)+t).tmod ((p.length - p.length / 2:Nat):Int)=(((j+t) % (p.length - p.length / 2):Nat):Int):=by
    rw[gf (by omega),Int.natCast_emod];congr 1
   have hn2:pd ls p t (kU ls p t) (j+1)=stp ls p t j (pd ls p t (kU ls p t) j):=rfl
   unfold stp at hn2
   generalize pd ls p t (kU ls p t) j=out at *
   have hk2:p.length / 2+(j+t) % (p.length - p.length / 2)<p.length:=by omega
   generalize hk:(j+t) % (p.length - p.length / 2)=k at *
   have hxa:(p.take (p.length / 2))[j]? = some (nth p j):=by rw[List.getElem?_take,if_pos lj];exact ao (by omega)
   have hxb:(p.drop (p.length / 2))[k]? = some (nth p (p.length / 2+k)):=by rw[List.getElem?_drop];exact ao hk2
   have ba:=hpi j (by omega)
   have bb:=hpi _ hk2
   generalize nth p j=a at *
   generalize nth p (p.length / 2+k)=b at *
   have ca:=vH out a (by omega)
   have cb:=vH out b (by omega)
   have sa:=ao (xs:=ls) (i:=a.toNat) (by omega)
   have sb:=ao (xs:=ls) (i:=b.toNat) (by omega)
   have c5:=lQ (nth ls a.toNat) (nth ls b.toNat)
   cases e1:tkn out a<;>cases e2:tkn out b<;>cases e3:meshable (nth ls a.toNat) (nth ls b.toNat)
   all_goals
    unfold tkn at e1 e2
    rw[e1]at ca
    rw[e2]at cb
    change (tkn out a)=_ at e1
    change (tkn out b)=_ at e2
    rw[e3]at c5
    rw[e1,e2,e3]at hn2
    simp only[and_true,true_and,if_true,Bool.false_eq_true,Bool.true_eq_false,and_false,false_and,if_false]at hn2
    repeat'(first|refine gD ?_|(conv=>whnf);first|refine Sm.rf ?_|refine Ev.mk (z:=(k:Int)) (by rw[hdl];exact hev) ?_|refine Ln.mk (show List.length (List.map _ (p.drop (p.length / 2)))=p.length - p.length / 2 by rw[List.length_map];exact hdl) ?_|refine Cd.mk (by omega) ?_|refine Ix.nat (aa hxa) ?_|refine Ix.mk (by omega) (aa hxb) ?_|refine Ix.mk ba.1 (aa sa) ?_|refine Ix.mk bb.1 (aa sb) ?_|refine Cl.eq (ca) ⟨⟨rfl,qu _⟩,⟨rfl,rfl⟩,trivial⟩ ?_|refine Cl.eq (cb) ⟨⟨rfl,qu _⟩,⟨rfl,rfl⟩,trivial⟩ ?_|refine Cl.mk (c5) ?_|refine Sm.rf ?_|refine Ap.sm (bx fun _=>rfl) rfl (by simp;omega) (by decide) (mj (dH.enc .own) out ⟨a,b⟩) ?_)
    ((conv=>whnf);refine Nx.mk (j+1) (by omega) (by omega) ?_)
    rw[hn2]
    exact wB
  ·obtain rfl:j=p.length / 2:=by omega
   repeat'(first|refine gD ?_|(conv=>whnf);first|refine Sm.rf ?_)
   ((conv=>whnf);refine Nx.mk (t+1) (by omega) (by omega) ?_;(exact wB))
 ·obtain rfl:t=3:=by omega
  repeat'(first|refine gD ?_|(conv=>whnf);first|refine Sm.rf ?_)
  rfl
end Go.Proofs.YtplcalfnngkffaaGreat.Ab
/- A job begun. No condition. -/
namespace Go.Proofs.YtplcalfnngkffaaGreat.Ab
open Go.RowKit
set_option maxRecDepth 20000
set_option maxHeartbeats 4000000
theorem ah.fzR {P:Program} {f:Nat} {sh:Bool} {A:List RA} {k:Kd} {rcs:List C} (h:ah P f sh A k rcs):ah P f sh A k (ey rcs):=by
 obtain⟨h1,h2⟩:=h
 refine⟨h1,fun w S vs hS hA=>(h2 w S vs hS hA).mono fun e w1 hv=>?_⟩
 obtain⟨v,he,hk,X,S1,a1,a2,a3,a4,a5⟩:=hv
 refine⟨v,he,hk,NO,fun b o=>S1 b o∨X b o,fun _ _ h=>h.elim,fun b o hb=>?_,fun _ _ h=>h.elim,by rw[cr,List.length_map];exact a4,a5.freeze⟩
 rcases hb with hb|hb
 ·exact a2 b o hb
 ·exact .inr (a1 b o hb)
structure Mv (ls:List am) (q:dH):Prop where
 a:0≤q.A∧q.A<ls.length
 b:0≤q.B∧q.B<ls.length
 m:meshable (nth ls q.A.toNat) (nth ls q.B.toNat)=true
theorem Gt {ls:List am} {p:List Int} (hp:∀ x∈p,0≤x∧x<ls.length) (t:Nat) {out:List dH} (ho:∀ q∈out,Mv ls q):∀ {i:Nat},i≤p.length / 2→∀ q∈pd ls p t out i,Mv ls q
 | 0,_=>ho
 | i+1,hi=>fun q hq=>by
  have ih:=Gt hp t ho (i:=i) (by omega)
  simp only[pd,stp]at hq
  split at hq
  ·rename_i hc
   rcases List.mem_append.1 hq with hq|hq
   ·exact ih q hq
   ·obtain rfl:=List.mem_singleton.1 hq
    have hmod:(i+t) % (p.length - p.length / 2)<p.length - p.length / 2:=Nat.mod_lt _ (by omega)
    exact⟨hp _ (aC (by omega)),hp _ (aC (by omega)),hc.2.2⟩
  ·exact ih q hq
theorem GO {ls:List am} {p:List Int} (hp:∀ x∈p,0≤x∧x<ls.length):∀ t,∀ q∈kU ls p t,Mv ls q
 | 0=>fun q hq=>by cases hq
 | t+1=>Gt hp t (GO hp t) (Nat.le_refl _)
theorem qk (ls:List am) {s:Int} (hs:0≤s∧s≤1073741823):∀ q∈jW ls s,Mv ls q:=GO (oW ls.length hs (Nat.le_refl _)) 3
theorem Mg (s:am) (n:Nat):(tR s n).Pairwise (· < ·):=by
 unfold tR
 rw[List.pairwise_map]
 exact(List.pairwise_lt_range.sublist List.filter_sublist).imp fun h=>by omega
theorem MV {s:am} {n:Nat} : ∀ z∈tR s n,0≤z∧z<n:=fun z hz=>by
 unfold tR at hz
 simp only[List.mem_map,List.mem_filter,List.mem_range]at hz
 obtain⟨c,⟨h1,-⟩,rfl⟩:=hz
 omega
theorem vu (s:am):cM (tR s 16).length (mH (tR s 16))=true:=by
 refine ch.2 fun j hj=>?_
 have h1:=MV _ (aC hj)
 unfold mH
 refine decide_eq_true ⟨by omega,by omega,?_⟩
 by_cases e:j=0
 ·exact .inl e
 ·refine .inr ?_
  have hp:=List.pairwise_iff_getElem.1 (Mg s 16) (j - 1) j (by omega) hj (by omega)
  rw[show nth (tR s 16) (j - 1)=(tR s 16)[j - 1] from bL (List.getElem?_eq_getElem (by omega)),show nth (tR s 16) j=(tR s 16)[j] from bL (List.getElem?_eq_getElem hj)]
  exact hp
theorem rZ {a b:am} (hm:meshable a b=true):eR (gT a b)=true∧bq a=true∧bq b=true:=by
 unfold meshable at hm
 simp only[Bool.and_eq_true,decide_eq_true_eq]at hm
 have h1:=aR hm.1.1
 have h2:=aR hm.1.2
 refine⟨?_,hm.1⟩
 unfold gT eR
 split
 ·simp only[Bool.and_eq_true,decide_eq_true_eq];exact⟨vu a,by omega⟩
 ·simp only[Bool.and_eq_true,decide_eq_true_eq];exact⟨vu b,by omega⟩
theorem vP (a b:am):aN.sml (gT a b):=by
 have h1:=kW a 16
 have h2:=kW b 16
 unfold gT aN.sml iR
 split<;>simp only<;>omega
def bI (h:ac):List am:=(g9 h).take 16
def started (h:ac):ac × Bool:=match jW (bI h) h.Seed with
 | []=>({h with Seed:=(shuf (bI h).length h.Seed).2},false)
 | q::_=>({h with Seed:=(shuf (bI h).length h.Seed).2,Meshing:=true,Job:=xZ (gT (nth (bI h) q.A.toNat) (nth (bI h) q.B.toNat))},true)
end Go.Proofs.YtplcalfnngkffaaGreat.Ab
/- A job begun: walks. No condition. (wkR) -/
namespace Go.Proofs.YtplcalfnngkffaaGreat.Ab
open Go.RowKit
set_option maxRecDepth 20000
set_option maxHeartbeats 4000000
theorem Et {h:ac} {E:List Int} (hi:df h E):h.Spans.length≤32∧gi h≤32∧xN h∧∀ s∈h.Spans,s.Bits≤9223372036854775807:=by
 have hl:=hi.lens
 refine⟨hl.spans,hl.ents,?_,fun s hs=>by have:=gW (hi.L.sok s hs);omega⟩
 have:=(bV hi.ker).1.2
 exact this
theorem vG (h:ac):(bI h).length≤16:=by unfold bI;rw[List.length_take];omega
theorem Lj (x:List dH) (z:Int):ey (eA .own x++[I z])=eA .imm x++[I z]:=by
 have h:=qu x
 rw[cr]at h ⊢
 rw[List.map_append,h]
 simp[fz]
theorem Nh (h:ac):(bI h).map (am.enc .imm)=((g9 h).map (am.enc .imm)).take 16:=List.map_take
theorem EA (p:aN) (hp:eR p=true) (hs:aN.sml p):ah Tryz.prog 353 false [.val (some 3) (aN.enc .imm p)] (.tup [some 5,none]) (v8 (xZ p)++[B true]):=by
 have h:=(D3 p hp hs).fzR
 have e:ey (aZ.enc .own (xZ p)++[B true])=v8 (xZ p)++[B true]:=by
  have e1:=aZ.enc_fz (xZ p)
  rw[cr]at e1 ⊢
  rw[List.map_append,e1]
  simp[fz,aZ.enc,v8]
 rwa [e]at h
theorem xe (h:ac) (hi:df h []):aV Tryz.prog 279 false [.ptr (fe h)] [.ptr (fe (started h).1)] .one [B (started h).2]:=by
 obtain⟨w1,w2,w3,w4⟩:=Et hi
 have hnum:=hi.nums
 unfold eP at hnum
 rw[decide_eq_true_eq]at hnum
 have c1:=(uQ h w3 (by omega) (by omega) w4).fzR
 rw[fp]at c1
 have hll:=vG h
 have c2:=(tT (bI h) h.Seed ⟨hnum.1,hnum.2.1⟩ hll).fzR
 rw[Lj]at c2
 have hpo:=qk (bI h) ⟨hnum.1,hnum.2.1⟩
 have hml:=nY h h.Spans.length
 have hmle:(g9 h).length≤32:=by unfold g9;omega
 have hse:=Nh h
 unfold started
 cases hp:jW (bI h) h.Seed with
 | nil=>
  rw[hp]at c2
  by_cases hl:16<(g9 h).length
  ·refine fM 62 [] [(8,275,[34,35,36,37,38,39,40,41,42,43,44,45,46,47,48,33,49,50,6,0,1,2,3,4,5,6,7,8,9,10,11,12,13,14,15,16,17,18,19,1017,20])] [(0,0)] Tryz.func279 rfl (fun u q=>?_)
   repeat'(first|refine gD ?_|(conv=>whnf);first|refine Sm.rf ?_|refine Cl.eq (c1) ⟨⟨rfl,fY h⟩,trivial⟩ ?_|refine Cl.mk (c2) ?_|refine Sl.pre 16 rfl (by rw[List.length_map];omega) (bx fun _=>rfl) hse ?_)
   refine bK.mk rfl rfl ?_
   exact wC
  ·have he:bI h=g9 h:=by unfold bI;exact List.take_of_length_le (by omega)
   rw[he]at c2
   refine fM 62 [] [(8,275,[34,35,36,37,38,39,40,41,42,43,44,45,46,47,48,33,49,50,6,0,1,2,3,4,5,6,7,8,9,10,11,12,13,14,15,16,17,18,19,1017,20])] [(0,0)] Tryz.func279 rfl (fun u q=>?_)
   rw[he]
   repeat'(first|refine gD ?_|(conv=>whnf);first|refine Sm.rf ?_|refine Cl.eq (c1) ⟨⟨rfl,fY h⟩,trivial⟩ ?_|refine Cl.mk (c2) ?_)
   refine bK.mk rfl rfl ?_
   exact wC
 | cons q qs=>
  rw[hp]at c2 hpo
  obtain⟨k1,k2,k3⟩:=hpo q (List.mem_cons_self ..)
  obtain⟨p1,p2,p3⟩:=rZ k3
  have c3:=ym _ _ k3 p2 p3
  have c4:=EA _ p1 (vP _ _)
  have hxa:=ao (xs:=bI h) (i:=q.A.toNat) (by omega)
  have hxb:=ao (xs:=bI h) (i:=q.B.toNat) (by omega)
  have hq0:(q::qs)[0]? = some q:=rfl
  by_cases hl:16<(g9 h).length
  ·refine fM 62 [] [(8,275,[34,35,36,37,38,39,40,41,42,43,44,45,46,47,48,33,49,50,6,0,1,2,3,4,5,6,7,8,9,10,11,12,13,14,15,16,17,18,19,1017,20])] [(0,0)] Tryz.func279 rfl (fun u r=>?_)
   repeat'(first|refine gD ?_|(conv=>whnf);first|with_reducible refine Bf.D (fun hq=>absurd hq (by simp)) (fun hq=>?_)|refine Sm.rf ?_|refine Cl.eq (c1) ⟨⟨rfl,fY h⟩,trivial⟩ ?_|refine Cl.mk (c2) ?_|refine Sl.pre 16 rfl (by rw[List.length_map];omega) (bx fun _=>rfl) hse ?_|refine Ix.mk (by decide) (aa hq0) ?_|refine Ix.mk k1.1 (aa hxa) ?_|refine Ix.mk k2.1 (aa hxb) ?_|refine Cl.mk (c3) ?_|refine Cl.eq (c4) ⟨⟨rfl,aN.enc_fz _⟩,trivial⟩ ?_|refine Sm.rf ?_)
   refine bK.mk rfl rfl ?_
   exact wC
  ·have he:bI h=g9 h:=by unfold bI;exact List.take_of_length_le (by omega)
   rw[he]at c2 c3 c4 hxa hxb
   refine fM 62 [] [(8,275,[34,35,36,37,38,39,40,41,42,43,44,45,46,47,48,33,49,50,6,0,1,2,3,4,5,6,7,8,9,10,11,12,13,14,15,16,17,18,19,1017,20])] [(0,0)] Tryz.func279 rfl (fun u r=>?_)
   rw[he]
   repeat'(first|refine gD ?_|(conv=>whnf);first|with_reducible refine Bf.D (fun hq=>absurd hq (by simp)) (fun hq=>?_)|refine Sm.rf ?_|refine Cl.eq (c1) ⟨⟨rfl,fY h⟩,trivial⟩ ?_|refine Cl.mk (c2) ?_|refine Ix.mk (by decide) (aa hq0) ?_|refine Ix.mk k1.1 (aa hxa) ?_|refine Ix.mk k2.1 (aa hxb) ?_|refine Cl.mk (c3) ?_|refine Cl.eq (c4) ⟨⟨rfl,aN.enc_fz _⟩,trivial⟩ ?_|refine Sm.rf ?_)
   refine bK.mk rfl rfl ?_
   exact wC
end Go.Proofs.YtplcalfnngkffaaGreat.Ab
/- A job begun: the program's. No condition. (wkR) -/
namespace Go.Proofs.YtplcalfnngkffaaGreat.Ab
open Go.RowKit
set_option maxRecDepth 20000
set_option maxHeartbeats 4000000
def cW (h:ac):ac × Bool:=if h.Meshing=false∧ee h=true then started h else(h,false)
theorem zV (h:ac) (hs:ac.sml h) (hn:¬(h.Meshing=false∧ee h=true)):ah Tryz.prog 207 false [.val (some 24) (ac.enc .imm h)] (.tup [some 24,none]) (eN h++[B false]):=by
 have c1:=hP h hs
 rw[ka]at c1
 have c2:=kI h hs
 have hz:ac.enc .imm h=(ac.enc .imm h).set 18 (B h.Meshing):=rfl
 cases e1:h.Meshing
 ·have e2:ee h=false:=by
   rcases Bool.eq_false_or_eq_true (ee h) with e|e
   ·exact absurd ⟨e1,e⟩ hn
   ·exact e
  rw[e2]at c1
  rw[e1]at hz
  rw[hz]at c1 c2 ⊢
  refine fO 66 [(10,275,[41,42,43,44,45,46,47,48,49,50,51,52,53,54,55,40,56,57,8,0,1,2,3,4,5,6,7,8,9,10,11,12,13,14,15,16,17,18,19,1017,20])] Tryz.func207 rfl ?_ (.inr (aP (lb _) ⟨trivial,trivial⟩))
  repeat'(first|refine gO ?_|(conv=>whnf);first|refine Sm.rf ?_|refine Cl.mk (c1) ?_|refine Cl.mk (c2) ?_)
  rfl
 ·rw[e1]at hz
  rw[hz]at c1 c2 ⊢
  refine fO 66 [(10,275,[41,42,43,44,45,46,47,48,49,50,51,52,53,54,55,40,56,57,8,0,1,2,3,4,5,6,7,8,9,10,11,12,13,14,15,16,17,18,19,1017,20])] Tryz.func207 rfl ?_ (.inr (aP (lb _) ⟨trivial,trivial⟩))
  repeat'(first|refine gO ?_|(conv=>whnf);first|refine Sm.rf ?_|refine Cl.mk (c1) ?_|refine Cl.mk (c2) ?_)
  rfl
theorem xz (h:ac) (hs:ac.sml h) (e0:h.Meshing=false) (e1:ee h=true):ah Tryz.prog 207 false [.val (some 24) (ac.enc .imm h)] (.tup [some 24,none]) (eN (started h).1++[B (started h).2]):=by
 have hi:=df.of e1
 obtain⟨w1,w2,w3,w4⟩:=Et hi
 have hnum:=hi.nums
 unfold eP at hnum
 rw[decide_eq_true_eq]at hnum
 have c0:=hP h hs
 rw[ka,e1]at c0
 have c9:=kI h hs
 have c1:=(wV h w3 (by omega) (by omega) w4).fzR
 rw[fp]at c1
 have hll:=vG h
 have c2:=(uj (bI h) h.Seed ⟨hnum.1,hnum.2.1⟩ hll).fzR
 rw[Lj]at c2
 have hpo:=qk (bI h) ⟨hnum.1,hnum.2.1⟩
 have hml:=nY h h.Spans.length
 have hmle:(g9 h).length≤32:=by unfold g9;omega
 have hse:(bI h).map (am.enc .imm)=((g9 h).map (am.enc .imm)).take (bI h).length:=by
  unfold bI;rw[List.map_take,List.length_take]
  by_cases e:16≤(g9 h).length
  ·rw[Nat.min_eq_left e]
  ·rw[Nat.min_eq_right (by omega),List.take_of_length_le (by rw[List.length_map];omega),List.take_of_length_le (by rw[List.length_map];omega)]
 have hsl:(bI h).length=if(g9 h).length≤16 then(g9 h).length else 16:=by unfold bI;rw[List.length_take];split<;>omega
 have hz:ac.enc .imm h=(ac.enc .imm h).set 18 (B h.Meshing):=rfl
 rw[e0]at hz
 rw[hz]at c0 c9 c1 ⊢
 unfold started
 cases hp:jW (bI h) h.Seed with
 | nil=>
  rw[hp]at c2
  refine fO 66 [(10,275,[41,42,43,44,45,46,47,48,49,50,51,52,53,54,55,40,56,57,8,0,1,2,3,4,5,6,7,8,9,10,11,12,13,14,15,16,17,18,19,1017,20])] Tryz.func207 rfl ?_ (.inr (aP (lb _) ⟨trivial,trivial⟩))
  repeat'(first|refine gO ?_|(conv=>whnf);first|refine Sm.rf ?_|refine Cl.mk (c0) ?_|refine Cl.mk (c9) ?_|refine Cl.mk (c1) ?_|refine Cl.mk (c2) ?_|refine Ev.mk (z:=((bI h).length:Int)) (by rw[hsl];simp;split<;>split<;>omega) ?_|refine Sl.pre (bI h).length rfl (by rw[List.length_map,hsl];split<;>omega) (bx fun _=>rfl) hse ?_)
  rfl
 | cons q qs=>
  rw[hp]at c2 hpo
  obtain⟨k1,k2,k3⟩:=hpo q (List.mem_cons_self ..)
  obtain⟨p1,p2,p3⟩:=rZ k3
  have c3:=xX _ _ k3 p2 p3
  have c4:=D1 _ p1 (vP _ _)
  have hxa:=ao (xs:=bI h) (i:=q.A.toNat) (by omega)
  have hxb:=ao (xs:=bI h) (i:=q.B.toNat) (by omega)
  have hq0:(q::qs)[0]? = some q:=rfl
  refine fO 66 [(10,275,[41,42,43,44,45,46,47,48,49,50,51,52,53,54,55,40,56,57,8,0,1,2,3,4,5,6,7,8,9,10,11,12,13,14,15,16,17,18,19,1017,20])] Tryz.func207 rfl ?_ (.inr (aP (lb _) ⟨trivial,trivial⟩))
  repeat'(first|refine gO ?_|(conv=>whnf);first|with_reducible refine Bf.D (fun hq=>absurd hq (by simp)) (fun hq=>?_)|refine Sm.rf ?_|refine Cl.mk (c0) ?_|refine Cl.mk (c9) ?_|refine Cl.mk (c1) ?_|refine Cl.mk (c2) ?_|refine Ev.mk (z:=((bI h).length:Int)) (by rw[hsl];simp;split<;>split<;>omega) ?_|refine Sl.pre (bI h).length rfl (by rw[List.length_map,hsl];split<;>omega) (bx fun _=>rfl) hse ?_|refine Ix.mk (by decide) (aa hq0) ?_|refine Ix.mk k1.1 (aa hxa) ?_|refine Ix.mk k2.1 (aa hxb) ?_|refine Cl.mk (c3) ?_|refine Cl.eq (c4) ⟨⟨rfl,aN.enc_fz _⟩,trivial⟩ ?_|refine Sm.rf ?_)
  rfl
theorem wN (h:ac) (hs:ac.sml h):ah Tryz.prog 207 false [.val (some 24) (ac.enc .imm h)] (.tup [some 24,none]) (eN (cW h).1++[B (cW h).2]):=by
 unfold cW
 split
 ·rename_i e;exact xz h hs e.1 e.2
 ·rename_i e;exact zV h hs e
end Go.Proofs.YtplcalfnngkffaaGreat.Ab
/- Kernel calls: the program's. No condition. -/
namespace Go.Proofs.YtplcalfnngkffaaGreat.Ab
open Go.RowKit
set_option maxRecDepth 20000
set_option maxHeartbeats 4000000
theorem FF (xs:List Int) (x:Int) (hl:xs.length≤4611686018427387904):ah Tryz.prog 129 false [.val none (aI .imm xs),.val none [I x]] .one [I (gF (fun y=>decide (y=x)) xs)]:=by
 refine fO 19 [] Tryz.func129 rfl ?_
 repeat'(first|refine gO ?_|(conv=>whnf);first|refine Sm.rf ?_)
 (conv=>whnf)
 refine Lp.mk (ι:=Nat) (fun i=>[(0,.hold .one (aI .imm xs)),(1,.hold .one [I (x)]),(7,.hold .one [I (xs.length)]),(8,.hold .one [I ((i:Nat):Int)])]) (fun i=>i≤xs.length∧∀ (j:Nat) (z:Int),j<i→xs[j]? = some z→decide (z=x)=false) (fun i=>xs.length - i) (0) ?_ (⟨Nat.zero_le _,fun j z hj _=>absurd hj (Nat.not_lt_zero _)⟩) fun i hi=>?_
 ·exact wB
 obtain⟨hi,ha⟩:=hi
 by_cases li:i<xs.length
 ·have hx:=ao li
  by_cases e:nth xs i=x
  ·repeat'(first|refine gD ?_|(conv=>whnf);first|with_reducible refine Ix.nat (aa hx) ?_|refine Sm.rf ?_|refine Bf.t (by simp[e]) ?_)
   exact congrArg (fun z=>[I z]) (gu hx (decide_eq_true e) ha).symm
  ·repeat'(first|refine gD ?_|(conv=>whnf);first|with_reducible refine Ix.nat (aa hx) ?_|refine Sm.rf ?_|refine Bf.f (by simp[Ne.symm e]) ?_)
   ((conv=>whnf);refine Nx.mk (i+1) ⟨by omega,gE hx (decide_eq_false e) ha⟩ (by omega) ?_;(exact wB))
 ·repeat'(first|refine gD ?_|(conv=>whnf);first|refine Sm.rf ?_)
  exact congrArg (fun z=>[I z]) (k7 (by omega) ha).symm
theorem yl (xs:List Int) (x:Int) (hl:xs.length≤4611686018427387904):ah Tryz.prog 40 false [.val none (aI .imm xs),.val none [I x]] .one [B (decide (x∈xs))]:=by
 refine fO 9 [] Tryz.func40 rfl ?_
 repeat'(first|refine gO ?_|(conv=>whnf);first|refine Sm.rf ?_|refine Cl.mk (FF xs x hl) ?_)
 exact congrArg (fun z=>[B z]) ((by rw[ke];rw[Bool.eq_iff_iff];simp))
def eK (k:af):af:={k with Calls:=k.Calls+1}
def refd (k:af):Bool:=decide (k.Calls∈k.Refuse)
theorem rL (k:af) (hs:af.sml k) (hc:0≤k.Calls∧k.Calls≤100000):ah Tryz.prog 441 false [.val (some 5) (af.enc .imm k)] (.tup [some 5,none]) (af.enc .own (eK k)++[B (!refd k)]):=by
 have c1:=fG k hs
 have hr:k.Refuse.length≤1048576:=hs.2
 have c2:=yl k.Refuse k.Calls (by omega)
 unfold refd
 cases e:decide (k.Calls∈k.Refuse)<;>rw[e]at c2
 all_goals
  refine fO 18 [(3,263,[11,12,13,14,15,16,17,0,1,2,3,4,5,6,7,1006,8])] Tryz.func441 rfl ?_ (.inr (aP (af.enc_fr _) ⟨trivial,trivial⟩))
  repeat'(first|refine gO ?_|(conv=>whnf);first|refine Sm.rf ?_|refine Cl.mk (c1) ?_|refine Cl.mk (c2) ?_|refine Sm.rf ?_)
  rfl
def uG (k:af) (p:Int) (m:Int):af:={k with Machine:=⟨k.Machine.Frames,⟨k.Machine.Table.Entries.set p.toNat {nth k.Machine.Table.Entries p.toNat with Mode:=m}⟩⟩}
def ia (k:af) (p m:Int):af × Bool:=if refd k=true then(eK k,false) else(uG (eK k) p m,true)
theorem ss (k:af) (p m:Int):af.enc .own (uG k p m)=(af.enc .own k).set 2 (.s .own ((k.Machine.Table.Entries.map (aG.enc .own)).set p.toNat (aG.enc .own {nth k.Machine.Table.Entries p.toNat with Mode:=m}))):=by
 simp[af.enc,uG,List.map_set]
theorem pB (k:af) (p m:Int) (hk:aH k=true) (hc:k.Calls≠100000) (hm:(ax k.Machine.Table p).Mode≠0) (h12:m=1∨m=2):ah Tryz.prog 406 false [.val (some 5) (af.enc .imm k),.val none [I p],.val none [I m]] (.tup [some 5,none]) (af.enc .own (ia k p m).1++[B (ia k p m).2]):=by
 have hs:=bV hk
 have hcl:=(aJ.1 hk).2.2.2
 have c1:=io k hs
 rw[hk,decide_eq_true hc]at c1
 have c2:=rL k hs ⟨by omega,by omega⟩
 have c3:=eM k p hs.1.2
 rw[decide_eq_true hm]at c3
 obtain⟨m1,m2,m3⟩:=bM hk hm
 have hx:=ao (xs:=k.Machine.Table.Entries) (i:=p.toNat) (by omega)
 unfold ia
 cases e:refd k<;>rw[e]at c2
 ·rw[if_neg (by simp),ss]
  rcases h12 with rfl|rfl
  all_goals
   refine fO 46 [] Tryz.func406 rfl ?_ (.inr (aP (by rw[←ss];exact af.enc_fr _) ⟨trivial,trivial⟩))
   repeat'(first|refine gO ?_|(conv=>whnf);first|refine Sm.rf ?_|refine Cl.mk (c1) ?_|refine Cl.mk (c2) ?_|refine Cl.mk (c3) ?_|refine Ix.mk m1 (aa hx) ?_|refine Pu.one rfl rfl (aa hx) rfl (Nat.le_of_ble_eq_true rfl) rfl ?_)
   rfl
 ·rw[if_pos rfl]
  rcases h12 with rfl|rfl
  all_goals
   refine fO 46 [] Tryz.func406 rfl ?_ (.inr (aP (af.enc_fr _) ⟨trivial,trivial⟩))
   repeat'(first|refine gO ?_|(conv=>whnf);first|refine Sm.rf ?_|refine Cl.mk (c1) ?_|refine Cl.mk (c2) ?_|refine Cl.mk (c3) ?_)
   rfl
end Go.Proofs.YtplcalfnngkffaaGreat.Ab
/- Cells copied and stored: the program's. No condition. -/
namespace Go.Proofs.YtplcalfnngkffaaGreat.Ab
open Go.RowKit
set_option maxRecDepth 20000
set_option maxHeartbeats 4000000
theorem row16 {k:af} (hk:aH k=true) {f:Nat} (hf:f<k.Machine.Frames.Cells.length):(nth k.Machine.Frames.Cells f).length=16:=by
 have:=(aY.1 (aJ.1 hk).2.1).2.2.2 f hf
 unfold i6 at this
 simp only[Bool.and_eq_true,decide_eq_true_eq]at this
 omega
def setCell (k:af) (f:Nat) (c v:Int):af:={k with Machine:=⟨⟨k.Machine.Frames.Cells.set f ((nth k.Machine.Frames.Cells f).set c.toNat v),k.Machine.Frames.Used⟩,k.Machine.Table⟩}
theorem tI (k:af) (f:Nat) (c v:Int):af.enc .own (setCell k f c v)=(af.enc .own k).set 0 (.s .own ((k.Machine.Frames.Cells.map (aI .own)).set f [.s .own (((nth k.Machine.Frames.Cells f).map (rI .own)).set c.toNat [I v])])):=by
 simp[af.enc,setCell,List.map_set,aI,rI]
def iw (k:af) (p:Int):Nat:=(ax k.Machine.Table p).Frame.toNat
def rn (k:af) (a b c:Int):af:=setCell k (iw k b) c (nth (nth k.Machine.Frames.Cells (iw k a)) c.toNat)
def Gu (k:af) (a b c:Int):Nat→af
 | 0=>k
 | _+1=>rn k a b c
theorem Fh (k:af) (a b c:Int) (hk:aH k=true) (hc:k.Calls≠100000) (ha:(ax k.Machine.Table a).Mode≠0) (hb:(ax k.Machine.Table b).Mode≠0) (h15:0≤c∧c≤15):ah Tryz.prog 407 false [.val (some 5) (af.enc .imm k),.val none [I a],.val none [I b],.val none (aI .imm [c])] (.tup [some 5,none]) (af.enc .own (rn k a b c)++[B true]):=by
 have hs:=bV hk
 have c1:=io k hs
 rw[hk,decide_eq_true hc]at c1
 have c2:=fG k hs
 have c3:=eM k a hs.1.2
 have c4:=eM k b hs.1.2
 rw[decide_eq_true ha]at c3
 rw[decide_eq_true hb]at c4
 have c5:=dQ k.Machine.Table a hs.1.2
 have c6:=dQ k.Machine.Table b hs.1.2
 have c7:=yq c
 rw[decide_eq_true h15]at c7
 obtain⟨-,-,-,a4,a5⟩:=bM hk ha
 obtain⟨-,-,-,b4,b5⟩:=bM hk hb
 have hul:=(aY.1 (aJ.1 hk).2.1).2.2.1
 have ra:=row16 hk (f:=iw k a) (by unfold iw;omega)
 have rb:=row16 hk (f:=iw k b) (by unfold iw;omega)
 have hxa:k.Machine.Frames.Cells[(ax k.Machine.Table a).Frame.toNat]? = some (nth k.Machine.Frames.Cells (iw k a)):=ao (by omega)
 have hxb:k.Machine.Frames.Cells[(ax k.Machine.Table b).Frame.toNat]? = some (nth k.Machine.Frames.Cells (iw k b)):=ao (by omega)
 have hya:=ao (xs:=nth k.Machine.Frames.Cells (iw k a)) (i:=c.toNat) (by omega)
 have hyb:=ao (xs:=nth k.Machine.Frames.Cells (iw k b)) (i:=c.toNat) (by omega)
 have hq0:[c][0]? = some c:=rfl
 refine fO 77 [(4,268,[33,34,35,36,37,38,39,40,41,42,43,44,0,1,2,3,4,5,6,7,8,9,10,11,12,1011,13]),(10,18,[56,57,58,59,60,61,62,63,64,65,66,67,68,69,70,71,72,73])] Tryz.func407 rfl ?_ (.inr (aP (af.enc_fr _) ⟨trivial,trivial⟩))
 repeat'(first|refine gO ?_|(conv=>whnf);first|refine Sm.rf ?_|refine Cl.mk (c1) ?_|refine Cl.mk (c2) ?_|refine Cl.mk (c3) ?_|refine Cl.mk (c4) ?_|refine Cl.mk (c5) ?_|refine Cl.mk (c6) ?_|refine Sm.rf ?_)
 (conv=>whnf)
 refine Lp.mk (ι:=Nat) (fun j=>[(4,.hold .box (af.enc .imm k)),(8,.hold .box (af.enc .own ⟨⟨⟨[],[]⟩,⟨[]⟩⟩,0,[]⟩)),(10,.hold .box (af.enc .own (Gu k a b c j))),(11,.hold .one [I ((ax k.Machine.Table a).Frame)]),(12,.hold .one [I ((ax k.Machine.Table b).Frame)]),(45,.hold .one (aI .imm [c])),(46,.hold .one [I (1)]),(47,.hold .one [I ((j:Nat):Int)])]) (fun j=>j≤1) (fun j=>1 - j) (0) ?_ (Nat.zero_le _) fun j hj=>?_
 ·exact wB
 by_cases lj:j<1
 ·obtain rfl:j=0:=by omega
  repeat'(first|refine gD ?_|(conv=>whnf);first|refine Sm.rf ?_|refine Ix.mk (by decide) (aa hq0) ?_|refine Cl.mk (c7) ?_|refine Ix.mk a4 (aa hxa) ?_|refine Ix.mk b4 (aa hxb) ?_|refine Ix.mk h15.1 (aa hya) ?_|refine Ix.mk h15.1 (aa hyb) ?_|refine Rw.one rfl (aa hxb) rfl ?_|refine Rw.one rfl (aa hxa) rfl ?_|refine Sm.rf ?_|refine Pu.two rfl rfl (aa hxb) rfl rfl rfl (aa hyb) rfl (Nat.le_refl _) rfl ?_)
  ((conv=>whnf);refine Nx.mk 1 (by omega) (by omega) ?_)
  rw[show Gu k a b c 1=rn k a b c from rfl]
  unfold rn
  rw[tI]
  exact wB
 ·obtain rfl:j=1:=by omega
  repeat'(first|refine gD ?_|(conv=>whnf);first|refine Sm.rf ?_)
  rfl
end Go.Proofs.YtplcalfnngkffaaGreat.Ab
/- A page mapped onto another's frame, cells stored: the program's. No condition. -/
namespace Go.Proofs.YtplcalfnngkffaaGreat.Ab
open Go.RowKit
set_option maxRecDepth 20000
set_option maxHeartbeats 4000000
def uc (k:af) (p:Nat) (e:aG):af:={k with Machine:=⟨k.Machine.Frames,⟨k.Machine.Table.Entries.set p e⟩⟩}
theorem Dr (k:af) (p:Nat) (e:aG):af.enc .own (uc k p e)=(af.enc .own k).set 2 (.s .own ((k.Machine.Table.Entries.map (aG.enc .own)).set p (aG.enc .own e))):=by
 simp[af.enc,uc,List.map_set]
theorem DX {k:af} (p:Nat) (e:aG) (h:aB.sml k.Machine.Table):aB.sml (uc k p e).Machine.Table:=by
 refine⟨?_,fun x _=>trivial⟩
 show(k.Machine.Table.Entries.set p e).length≤_
 rw[List.length_set];exact h.1
def wZ (k:af) (p o:Int):af × Bool:=if refd k=true then(eK k,false) else(gC (uc (eK k) p.toNat ⟨2,(nth k.Machine.Table.Entries o.toNat).Frame⟩) (nth k.Machine.Table.Entries p.toNat).Frame,true)
def gy (m:aA) (a v:Int):aA × Int:=
 if(ax m.Table (a / 16)).Mode=0 then(m,1) else if(ax m.Table (a / 16)).Mode=1 then(m,2) else
 (⟨⟨m.Frames.Cells.set (ax m.Table (a / 16)).Frame.toNat ((nth m.Frames.Cells (ax m.Table (a / 16)).Frame.toNat).set (a % 16).toNat v),m.Frames.Used⟩,m.Table⟩,0)
theorem A3 (m:aA) (a:Int) (hm:cR m=true) (hs:aA.sml m) (ha:0≤a∧a<512):ah Tryz.prog 442 false [.val (some 3) (aA.enc .imm m),.val none [I a]] .agg (aG.enc .own (ax m.Table (a / 16))):=by
 have c1:=ox m hs
 rw[hm]at c1
 have c2:=dQ m.Table (a / 16) hs.2
 refine fO 18 [] Tryz.func442 rfl ?_ (.inr ⟨trivial,trivial,trivial⟩)
 repeat'(first|refine gD ?_|(conv=>whnf);first|refine Cl.mk (c1) ?_|refine Cl.mk (c2) ?_|refine Wr.mk (M2 ha) ?_|refine Cd.mk (by decide) ?_)
 rfl
theorem uP (m:aA) (f:Nat) (c v:Int):aA.enc .own ⟨⟨m.Frames.Cells.set f ((nth m.Frames.Cells f).set c.toNat v),m.Frames.Used⟩,m.Table⟩ = (aA.enc .own m).set 0 (.s .own ((m.Frames.Cells.map (aI .own)).set f [.s .own (((nth m.Frames.Cells f).map (rI .own)).set c.toNat [I v])])):=by
 simp[aA.enc,List.map_set,aI,rI]
theorem FN (m:aA) (a v:Int) (hm:cR m=true) (hs:aA.sml m) (ha:0≤a∧a<512) (hv:0≤v∧v≤999) (hf:(ax m.Table (a / 16)).Mode≠0→0≤(ax m.Table (a / 16)).Frame∧(ax m.Table (a / 16)).Frame<m.Frames.Cells.length∧(nth m.Frames.Cells (ax m.Table (a / 16)).Frame.toNat).length=16):ah Tryz.prog 409 false [.val (some 3) (aA.enc .imm m),.val none [I a],.val none [I v]] (.tup [some 3,none]) (aA.enc .own (gy m a v).1++[I (gy m a v).2]):=by
 have c1:=mb m hs
 have c2:=A3 m a hm hs ha
 have c3:=aL v 0 999
 rw[decide_eq_true hv]at c3
 have hfr:=aA.enc_fr (gy m a v).1
 unfold gy at hfr ⊢
 by_cases e0:(ax m.Table (a / 16)).Mode=0
 ·rw[if_pos e0]at hfr ⊢
  refine fO 42 [] Tryz.func409 rfl ?_ (.inr (aP hfr ⟨trivial,trivial⟩))
  repeat'(first|refine gA ?_|(conv=>whnf);first|refine Cl.mk (c1) ?_|refine Cl.mk (c2) ?_|refine Cl.mk (c3) ?_)
  rfl
 ·rw[if_neg e0]at hfr ⊢
  by_cases e1:(ax m.Table (a / 16)).Mode=1
  ·rw[if_pos e1]at hfr ⊢
   refine fO 42 [] Tryz.func409 rfl ?_ (.inr (aP hfr ⟨trivial,trivial⟩))
   repeat'(first|refine gA ?_|(conv=>whnf);first|refine Cl.mk (c1) ?_|refine Cl.mk (c2) ?_|refine Cl.mk (c3) ?_)
   rfl
  ·rw[if_neg e1]at hfr ⊢
   obtain⟨f1,f2,f3⟩:=hf e0
   have hx:=ao (xs:=m.Frames.Cells) (i:=(ax m.Table (a / 16)).Frame.toNat) (by omega)
   have hy:=ao (xs:=nth m.Frames.Cells (ax m.Table (a / 16)).Frame.toNat) (i:=(a % 16).toNat) (by omega)
   simp only at hfr ⊢
   rw[uP]at hfr ⊢
   have htm:a.tmod 16=a % 16:=gf ha.1
   refine fO 42 [] Tryz.func409 rfl ?_ (.inr (aP hfr ⟨trivial,trivial⟩))
   repeat'(first|refine gA ?_|(conv=>whnf);first|refine Cl.mk (c1) ?_|refine Cl.mk (c2) ?_|refine Cl.mk (c3) ?_|refine Ev.mk htm ?_|refine Cd.mk (by decide) ?_|refine Ix.mk f1 (aa hx) ?_|refine Ix.mk (by omega) (aa hy) ?_|refine Rw.one rfl (aa hx) rfl ?_|refine Pu.two rfl rfl (aa hx) rfl rfl rfl (aa hy) rfl (Nat.le_refl _) rfl ?_)
   rfl
end Go.Proofs.YtplcalfnngkffaaGreat.Ab
/- A page mapped onto another's frame: the program's. No condition. -/
namespace Go.Proofs.YtplcalfnngkffaaGreat.Ab
open Go.RowKit
set_option maxRecDepth 20000
set_option maxHeartbeats 4000000
theorem D4 (k:af) (p o:Int) (hk:aH k=true) (hc:k.Calls≠100000) (hp:(ax k.Machine.Table p).Mode≠0) (ho:(ax k.Machine.Table o).Mode≠0) (hpo:p≠o):ah Tryz.prog 408 false [.val (some 5) (af.enc .imm k),.val none [I p],.val none [I o]] (.tup [some 5,none]) (af.enc .own (wZ k p o).1++[B (wZ k p o).2]):=by
 have hs:=bV hk
 have hcl:=(aJ.1 hk).2.2.2
 have c1:=io k hs
 rw[hk,decide_eq_true hc]at c1
 have c2:=rL k hs ⟨by omega,by omega⟩
 have c3:=eM k p hs.1.2
 have c4:=eM k o hs.1.2
 rw[decide_eq_true hp]at c3
 rw[decide_eq_true ho]at c4
 obtain⟨p1,p2,p3,p4,p5⟩:=bM hk hp
 obtain⟨o1,o2,o3,o4,o5⟩:=bM hk ho
 have hul:=(aY.1 (aJ.1 hk).2.1).2.2.1
 have hx:=ao (xs:=k.Machine.Table.Entries) (i:=p.toNat) (by omega)
 have hy:=ao (xs:=k.Machine.Table.Entries) (i:=o.toNat) (by omega)
 rw[p3]at p4 p5
 have c5:=qF (uc (eK k) p.toNat ⟨2,(nth k.Machine.Table.Entries o.toNat).Frame⟩) (nth k.Machine.Table.Entries p.toNat).Frame (DX _ _ hs.1.2) ⟨p4,by show _<((k.Machine.Frames.Cells.length:Nat):Int);omega,p5⟩
 rw[Dr]at c5
 unfold wZ
 cases e:refd k<;>rw[e]at c2
 ·rw[if_neg (by simp)]
  refine fP 63 [(253,[2,0]),(1000010,[])] [] Tryz.func408 rfl ?_ (.inr (aP (af.enc_fr _) ⟨trivial,trivial⟩))
  repeat'(first|refine gA ?_|(conv=>whnf);first|refine Cl.mk (c1) ?_|refine Cl.mk (c2) ?_|refine Cl.mk (c3) ?_|refine Cl.mk (c4) ?_|refine Ix.mk p1 (aa hx) ?_|refine Ix.mk o1 (aa hy) ?_|refine Rw.one rfl (aa hx) rfl ?_|refine Rw.one rfl (aa hy) rfl ?_|refine Pu.one rfl rfl (aa hx) rfl (Nat.le_of_ble_eq_true rfl) rfl ?_|refine er.mk (c5) (.inl rfl) ?_)
  rfl
 ·rw[if_pos rfl]
  refine fP 63 [(253,[2,0]),(1000010,[])] [] Tryz.func408 rfl ?_ (.inr (aP (af.enc_fr _) ⟨trivial,trivial⟩))
  repeat'(first|refine gO ?_|(conv=>whnf);first|refine Cl.mk (c1) ?_|refine Cl.mk (c2) ?_|refine Cl.mk (c3) ?_|refine Cl.mk (c4) ?_)
  rfl
end Go.Proofs.YtplcalfnngkffaaGreat.Ab
/- A job's step: the data. No condition. -/
namespace Go.Proofs.YtplcalfnngkffaaGreat.Ab
def jmay (k:af) (j:aZ):Bool:=(aH k&&decide (k.Calls≠100000))&&(jb j&&decide ((ax k.Machine.Table j.Plan.Keep).Mode≠0∧(ax k.Machine.Table j.Plan.Move).Mode≠0∧(ax k.Machine.Table j.Plan.Keep).Frame≠(ax k.Machine.Table j.Plan.Move).Frame))
def jstep (k:af) (j:aZ):af × aZ:=
 if j.Phase=0 then((ia k j.Plan.Move 1).1,{j with Phase:=if(ia k j.Plan.Move 1).2=true then 1 else 5})
 else if j.Phase=1 then(if j.Next=j.Plan.Cells.length then(k,{j with Phase:=2}) else(rn k j.Plan.Move j.Plan.Keep (nth j.Plan.Cells j.Next.toNat),{j with Next:=j.Next+1}))
 else if j.Phase=2 then((wZ k j.Plan.Move j.Plan.Keep).1,{j with Phase:=if(wZ k j.Plan.Move j.Plan.Keep).2=true then 4 else 3})
 else if j.Phase=3 then(if 0<j.Next then({k with Machine:=(gy k.Machine (j.Plan.Keep*16+nth j.Plan.Cells (j.Next - 1).toNat) 0).1},{j with Next:=j.Next - 1}) else((ia k j.Plan.Move 2).1,{j with Phase:=if(ia k j.Plan.Move 2).2=true then 5 else 3}))
 else(k,j)
end Go.Proofs.YtplcalfnngkffaaGreat.Ab
/- The kernel calls of a job leave a kernel valid; what they do to the pages. No condition. -/
namespace Go.Proofs.YtplcalfnngkffaaGreat.Ab
theorem Lv {k:af} {f:Int} (h1:∀ j,j<k.Refuse.length→0≤nth k.Refuse j) (h2:cI k.Machine.Frames=true) (h3:fX k.Machine.Table k.Machine.Frames.Used.length=true)
  (h4:∀ j:Nat,j<k.Machine.Frames.Used.length→(j:Int)≠f→nth k.Machine.Frames.Used j=decide (0<(pagesOn k.Machine.Table (j:Int)).length)) (h5:0≤f∧f<k.Machine.Frames.Used.length) (h6:nth k.Machine.Frames.Used f.toNat=true) (h7:0≤k.Calls∧k.Calls≤100000∧k.Refuse.length≤40):aH (gC k f)=true:=by
 obtain⟨g1,g2,g3,g4⟩:=aY.1 h2
 unfold gC
 split
 ·rename_i hz
  rw[aJ]
  simp only[List.length_set]
  refine⟨h1,?_,h3,fun j hj=>?_,h7⟩
  ·rw[aY]
   simp only[List.length_set,eL]
   refine⟨g1,g2,g3,fun j hj=>?_⟩
   by_cases hjf:f.toNat=j
   ·rw[if_pos ⟨hjf,hj⟩,if_pos ⟨hjf,by omega⟩];decide
   ·rw[if_neg (fun e=>hjf e.1),if_neg (fun e=>hjf e.1)];exact g4 j hj
  ·rw[eL]
   by_cases hjf:f.toNat=j
   ·rw[if_pos ⟨hjf,hj⟩]
    have:(j:Int)=f:=by omega
    rw[this];exact(decide_eq_false fun hh=>absurd hz (Nat.ne_of_gt hh)).symm
   ·rw[if_neg (fun e=>hjf e.1)];exact h4 j hj (by omega)
 ·rename_i hz
  rw[aJ]
  refine⟨h1,h2,h3,fun j hj=>?_,h7⟩
  by_cases hjf:(j:Int)=f
  ·rw[hjf,show j=f.toNat by omega,h6]
   exact(decide_eq_true (Nat.pos_of_ne_zero hz)).symm
  ·exact h4 j hj hjf
def tEq (t t':aB):Prop:=t'.Entries.length=t.Entries.length∧∀ q:Nat,((nth t'.Entries q).Mode≠0↔(nth t.Entries q).Mode≠0)∧(nth t'.Entries q).Frame=(nth t.Entries q).Frame
theorem tEq.refl (t:aB):tEq t t:=⟨rfl,fun _=>⟨Iff.rfl,rfl⟩⟩
theorem tEq.of {t t':aB} (h:t'=t):tEq t t':=by rw[h];exact tEq.refl t
theorem tEq.pagesOn {t t':aB} (h:tEq t t') (f:Int):Ab.pagesOn t' f=Ab.pagesOn t f:=by
 unfold Ab.pagesOn jJ
 rw[h.1]
 congr 1
 refine List.filter_congr fun q _=>?_
 obtain⟨h1,h2⟩:=h.2 q
 unfold JM
 rw[h2]
 exact decide_eq_decide.2 (and_congr h1 Iff.rfl)
theorem AN {k:af} (h:aH k=true) {t':aB} (he:tEq k.Machine.Table t') (hm:∀ q,q<t'.Entries.length→0≤(nth t'.Entries q).Mode∧(nth t'.Entries q).Mode≤2):aH {k with Machine:=⟨k.Machine.Frames,t'⟩} = true:=by
 obtain⟨h1,h2,h3,h4,h5⟩:=aJ.1 h
 obtain⟨t1,t2,t3⟩:=bU.1 h3
 rw[aJ]
 refine⟨h1,h2,bU.2 ⟨fun j hj=>?_,?_,?_⟩,fun j hj=>?_,h5⟩
 ·replace hj:j<t'.Entries.length:=hj
  have h6:=t1 j (by rw[←he.1];exact hj)
  have hmm:=hm j hj
  obtain⟨e1,e2⟩:=he.2 j
  show nr _ (nth t'.Entries j)=true
  unfold nr at h6 ⊢
  rw[decide_eq_true_eq]at h6 ⊢
  rw[e2]
  refine⟨hmm.1,hmm.2,fun hz=>h6.2.2.1 (Classical.byContradiction fun hn=>(e1.2 hn) hz),fun hz=>h6.2.2.2 (e1.1 hz)⟩
 ·show 1≤t'.Entries.length;rw[he.1];exact t2
 ·show t'.Entries.length≤32;rw[he.1];exact t3
 ·show nth k.Machine.Frames.Used j=decide (0<(Ab.pagesOn t' (j:Int)).length)
  rw[he.pagesOn];exact h4 j hj
theorem wu {k:af} (h:aH k=true) (hc:k.Calls≠100000):aH (eK k)=true:=by
 obtain⟨h1,h2,h3,h4,h5,h6,h7⟩:=aJ.1 h
 rw[aJ]
 exact⟨h1,h2,h3,h4,by show 0≤k.Calls+1;omega,by show k.Calls+1≤100000;omega,h7⟩
theorem rY {k:af} {p m:Int} (hm:(nth k.Machine.Table.Entries p.toNat).Mode≠0) (h12:m=1∨m=2):tEq k.Machine.Table (uG k p m).Machine.Table:=by
 refine⟨by simp[uG],fun q=>?_⟩
 simp only[uG,eL]
 split
 ·rename_i e
  rw[←e.1]
  exact⟨⟨fun _=>hm,fun _=>by show m≠0;omega⟩,rfl⟩
 ·exact⟨Iff.rfl,rfl⟩
theorem Kr {k:af} (h:aH k=true) {p m:Int} (hm:(nth k.Machine.Table.Entries p.toNat).Mode≠0) (h12:m=1∨m=2):aH (uG k p m)=true:=by
 refine AN h (rY hm h12) fun q hq=>?_
 obtain⟨h1,h2,h3,h4,h5⟩:=aJ.1 h
 obtain⟨t1,t2,t3⟩:=bU.1 h3
 have hq':q<k.Machine.Table.Entries.length:=by rw[←(rY hm h12).1];exact hq
 have h6:=t1 q hq'
 unfold nr at h6
 rw[decide_eq_true_eq]at h6
 simp only[eL]
 split
 ·show 0≤m∧m≤2;omega
 ·exact⟨h6.1,h6.2.1⟩
theorem DR {k:af} {p m:Int} (h:aH k=true) (hc:k.Calls≠100000) (hp:(ax k.Machine.Table p).Mode≠0) (h12:m=1∨m=2):aH (ia k p m).1=true∧tEq k.Machine.Table (ia k p m).1.Machine.Table:=by
 obtain⟨m1,m2,m3,-⟩:=bM h hp
 rw[m3]at hp
 unfold ia
 split
 ·exact⟨wu h hc,tEq.refl _⟩
 ·exact⟨Kr (wu h hc) hp h12,rY (k:=eK k) hp h12⟩
theorem k9 {k:af} (h:aH k=true) {p:Int} (hp:(ax k.Machine.Table p).Mode≠0):iw k p<k.Machine.Frames.Cells.length∧nth k.Machine.Frames.Used (iw k p)=true∧((iw k p:Nat):Int)=(nth k.Machine.Table.Entries p.toNat).Frame:=by
 obtain⟨m1,m2,m3,m4,m5⟩:=bM h hp
 obtain⟨h1,h2,h3,h4,h5⟩:=aJ.1 h
 obtain⟨g1,g2,g3,g4⟩:=aY.1 h2
 have hf:((iw k p:Nat):Int)=(ax k.Machine.Table p).Frame:=by unfold iw;omega
 refine⟨by omega,?_,by rw[hf,m3]⟩
 rw[h4 _ (by omega),hf]
 refine decide_eq_true (iU.2 ⟨p.toNat,by omega,?_,?_⟩)
 ·rw[←m3];exact hp
 ·rw[←m3]
theorem KD {k:af} (h:aH k=true) {f:Nat} {r':List Int} (hl:r'.length=16) (hr:∀ v∈r',0≤v∧v≤999) (hu:nth k.Machine.Frames.Used f=true):aH {k with Machine:=⟨⟨k.Machine.Frames.Cells.set f r',k.Machine.Frames.Used⟩,k.Machine.Table⟩} = true:=by
 obtain⟨h1,h2,h3,h4,h5⟩:=aJ.1 h
 obtain⟨g1,g2,g3,g4⟩:=aY.1 h2
 refine aJ.2 ⟨h1,aY.2 ⟨?_,?_,?_,fun j hj=>?_⟩,h3,h4,h5⟩
 ·simp only[List.length_set];exact g1
 ·simp only[List.length_set];exact g2
 ·simp only[List.length_set];exact g3
 ·simp only[List.length_set]at hj ⊢
  simp only[eL]
  split
  ·rename_i e
   obtain⟨rfl,-⟩:=e
   unfold i6
   simp only[Bool.and_eq_true,decide_eq_true_eq,List.all_eq_true]
   refine⟨hl,fun v hv=>?_⟩
   have:=hr v hv
   unfold jd;simp[hu,this]
  ·exact g4 j hj
theorem EV {k:af} (h:aH k=true) {f:Nat} (hf:f<k.Machine.Frames.Cells.length):(nth k.Machine.Frames.Cells f).length=16∧∀ v∈nth k.Machine.Frames.Cells f,0≤v∧v≤999:=by
 obtain⟨h1,h2,h3,h4,h5⟩:=aJ.1 h
 obtain⟨g1,g2,g3,g4⟩:=aY.1 h2
 have h6:=g4 f hf
 unfold i6 at h6
 simp only[Bool.and_eq_true,decide_eq_true_eq,List.all_eq_true]at h6
 refine⟨h6.1,fun v hv=>?_⟩
 have:=h6.2 v hv
 unfold jd at this
 simp only[Bool.and_eq_true,decide_eq_true_eq]at this
 exact this.1
theorem wX {k:af} (h:aH k=true) {f:Nat} (hf:f<k.Machine.Frames.Cells.length) (hu:nth k.Machine.Frames.Used f=true) {c v:Int} (hv:0≤v∧v≤999):aH (setCell k f c v)=true:=by
 obtain⟨r1,r2⟩:=EV h hf
 refine KD h (by rw[List.length_set];exact r1) (fun z hz=>?_) hu
 rcases List.mem_or_eq_of_mem_set hz with hz|rfl
 ·exact r2 z hz
 ·exact hv
theorem Kp {k:af} (h:aH k=true) {a b c:Int} (ha:(ax k.Machine.Table a).Mode≠0) (hb:(ax k.Machine.Table b).Mode≠0) (hc:0≤c∧c≤15):aH (rn k a b c)=true:=by
 obtain⟨a1,a2,-⟩:=k9 h ha
 obtain⟨b1,b2,-⟩:=k9 h hb
 obtain⟨r1,r2⟩:=EV h a1
 exact wX h b1 b2 (r2 _ (aC (by omega)))
theorem MX {k:af} {p o:Int} (h:aH k=true) (hc:k.Calls≠100000) (hp:(ax k.Machine.Table p).Mode≠0) (ho:(ax k.Machine.Table o).Mode≠0) (hpo:p≠o):aH (wZ k p o).1=true:=by
 unfold wZ
 split
 ·exact wu h hc
 obtain⟨p1,p2,p3⟩:=k9 h hp
 obtain⟨o1,o2,o3⟩:=k9 h ho
 obtain⟨m1,m2,m3,m4,m5⟩:=bM h hp
 obtain⟨n1,n2,n3,n4,n5⟩:=bM h ho
 obtain⟨h1,h2,h3,h4,h5,h6,h7⟩:=aJ.1 h
 obtain⟨t1,t2,t3⟩:=bU.1 h3
 rw[n3]at n4 n5 ho
 rw[m3]at m4 m5 hp
 have hent:∀ q,nth (k.Machine.Table.Entries.set p.toNat ⟨2,(nth k.Machine.Table.Entries o.toNat).Frame⟩) q=if p.toNat=q then⟨2,(nth k.Machine.Table.Entries o.toNat).Frame⟩ else nth k.Machine.Table.Entries q:=fun q=>by
  rw[eL]
  by_cases hq:p.toNat=q
  ·rw[if_pos ⟨hq,by omega⟩,if_pos hq]
  ·rw[if_neg (fun e=>hq e.1),if_neg hq]
 refine Lv h1 h2 (bU.2 ⟨fun j hj=>?_,?_,?_⟩) (fun j hj hjf=>?_) ⟨m4,m5⟩ (by rw[←p3];exact p2) ⟨by show 0≤k.Calls+1;omega,by show k.Calls+1≤100000;omega,h7⟩
 ·simp only[uc,eK,List.length_set]at hj ⊢
  rw[hent]
  split
  ·unfold nr;rw[decide_eq_true_eq];simp only;omega
  ·exact t1 j hj
 ·simp only[uc,eK,List.length_set];exact t2
 ·simp only[uc,eK,List.length_set];exact t3
 ·replace hj:j<k.Machine.Frames.Used.length:=hj
  show nth k.Machine.Frames.Used j=_
  rw[h4 j hj]
  refine decide_eq_decide.2 ?_
  rw[iU,iU]
  simp only[uc,eK,List.length_set,hent]
  constructor
  ·rintro⟨q,q1,q2,q3⟩
   refine⟨q,q1,?_⟩
   rw[if_neg (fun e=>hjf (by rw[←q3,←e]))]
   exact⟨q2,q3⟩
  ·rintro⟨q,q1,q2,q3⟩
   by_cases e:p.toNat=q
   ·rw[if_pos e]at q3
    exact⟨o.toNat,by omega,ho,q3⟩
   ·rw[if_neg e]at q2 q3
    exact⟨q,q1,q2,q3⟩
theorem Mq {k:af} {p o:Int} (h:aH k=true) (hp:(ax k.Machine.Table p).Mode≠0) (hr:(wZ k p o).2=true) (q:Nat):(wZ k p o).1.Machine.Table.Entries.length=k.Machine.Table.Entries.length∧nth (wZ k p o).1.Machine.Table.Entries q=if(q:Int)=p then⟨2,(nth k.Machine.Table.Entries o.toNat).Frame⟩ else nth k.Machine.Table.Entries q:=by
 obtain⟨m1,m2,-⟩:=bM h hp
 unfold wZ at hr ⊢
 split at hr
 ·cases hr
 rename_i hn
 rw[if_neg hn]
 simp only[(oZ _ _).1]
 simp only[uc,eK,List.length_set,eL]
 refine⟨trivial,?_⟩
 by_cases e:(q:Int)=p
 ·rw[if_pos ⟨by omega,by omega⟩,if_pos e]
 ·rw[if_neg fun z=>e (by omega),if_neg e]
theorem MT {k:af} {p o:Int} (hr:(wZ k p o).2=false):(wZ k p o).1=eK k:=by
 unfold wZ at hr ⊢
 split
 ·rfl
 ·rename_i hn;rw[if_neg hn]at hr;cases hr
theorem HR {k:af} {a v:Int} (h:aH k=true) (ha:0≤a) (hv:0≤v∧v≤999):aH {k with Machine:=(gy k.Machine a v).1} = true∧(gy k.Machine a v).1.Table=k.Machine.Table:=by
 unfold gy
 split
 ·exact⟨h,rfl⟩
 rename_i hm
 split
 ·exact⟨h,rfl⟩
 ·obtain⟨b1,b2,-⟩:=k9 h hm
  exact⟨wX h b1 b2 (c:=a % 16) hv,rfl⟩
end Go.Proofs.YtplcalfnngkffaaGreat.Ab
