/- A place inside a slot: its cells lent, given back, written. No condition. -/
import Derived.Test.YtplcalfnngkffaaGreatMa
import Derived.Laws.Append
import Derived.Laws.AppendOwn
import Derived.Laws.Tables
import Derived.Great.BuildSlice
import Derived.Laws.Slices
import Derived.Laws.Small
import Derived.MapKept
import Derived.Carry
set_option linter.unusedVariables false

namespace Go.Proofs.YtplcalfnngkffaaGreat.Ab
open Go.RowKit
def Free (w0:World) (M S:ab) (φ:Nat→ab) (w:World) (V:ab):Prop:=∀ b o,V b o→(∀ t,¬φ t b o)∧¬S b o∧b<w.heap.size∧(w0.heap.size≤b∨M b o)
section
variable {P:Program} {w0 w w1:World} {M S0 S:ab} {N:fF} {φ:Nat→ab} {F:Nat→AV} {a:Act}
theorem bj.world (h:bj w0 M S0 N S φ F a w) {V:ab} (hk:bw V w w1) (hV:Free w0 M S φ w V):bj w0 M S0 N S φ F a w1:=by
 have hphi:∀ t,bk (φ t) w w1:=fun t b o hb=>⟨hk.cel b o (h.ex t b o hb).1 (fun hv=>(hV b o hv).1 t hb),hk.fro b o (h.ex t b o hb).1 (fun hv=>(hV b o hv).1 t hb)⟩
 have hS:bk S w w1:=fun b o hb=>⟨hk.cel b o (h.sup b o hb).1 (fun hv=>(hV b o hv).2.1 hb),hk.fro b o (h.sup b o hb).1 (fun hv=>(hV b o hv).2.1 hb)⟩
 refine⟨fun t=>(h.slot t).keep (φ:=φ) (fun t _ _ _=>h.slot t) (fun t _=>⟨fun _ _ h=>h,rfl,hphi t⟩) (hphi t) hS (fun _ _ h=>h) (fun _ _ h=>h),h.dis,h.disS,fun t b o hb=>⟨Nat.lt_of_lt_of_le (h.ex t b o hb).1 hk.size,(h.ex t b o hb).2⟩,h.sub,
   fun b o hb=>⟨Nat.lt_of_lt_of_le (h.sup b o hb).1 hk.size,(h.sup b o hb).2⟩,h.old.trans hk (fun b o hv=>(hV b o hv).2.2.2),h.size,h.defers,h.par⟩
theorem Free.less {φ':Nat→ab} {V:ab} (h:Free w0 M S φ w V) (hs:∀ t b o,φ' t b o→φ t b o):Free w0 M S φ' w V:=fun b o hb=>⟨fun t ht=>(h b o hb).1 t (hs t b o ht),(h b o hb).2⟩
theorem Free.or {V V':ab} (h:Free w0 M S φ w V) (h':Free w0 M S φ w V'):Free w0 M S φ w (fun b o=>V b o∨V' b o):=fun b o hb=>hb.elim (h b o) (h' b o)
theorem Free.sub {V V':ab} (h:Free w0 M S φ w V) (hs:∀ b o,V' b o→V b o):Free w0 M S φ w V':=fun b o hb=>h b o (hs b o hb)
theorem Free.grow {V:ab} (h:Free w0 M S φ w V) (hk:w.heap.size≤w1.heap.size):Free w0 M S φ w1 V:=fun b o hb=>⟨(h b o hb).1,(h b o hb).2.1,Nat.lt_of_lt_of_le (h b o hb).2.2.1 hk,(h b o hb).2.2.2⟩
theorem bj.relTop (h:bj w0 M S0 N S φ F a w) {t:Nat} {k:Kd} {cs:List C} (hF:F t=.hold k cs) :
  ∃ X1 Y:ab,(∀ b o,X1 b o→φ t b o)∧(∀ b o,Y b o→φ t b o)∧(∀ b o,X1 b o→¬Y b o)∧co w S Y cs (bR w k (tvs a t))∧
   ∀ (r':List C) (G:ab),r'.length=cs.length→co w S G r' (bR w k (tvs a t))→(∀ b o,G b o→Y b o∨((∀ t',¬φ t' b o)∧¬S b o∧b<w.heap.size∧(w0.heap.size≤b∨M b o)))→
    bj w0 M S0 N S (fun s=>if s=t then(fun b o=>X1 b o∨G b o) else φ s) (updH F t k r') a w:=by
 have hs:=h.slot t
 rw[hF]at hs
 obtain⟨X1,Y,h1,h2,h3,h4,h5⟩:=hs
 refine⟨X1,Y,h1,h2,h3,h5,fun r' G hl hr hG=>?_⟩
 refine h.upd (bw.refl _ _) hF (fun b o hb=>?_) ⟨X1,G,fun _ _ h=>.inl h,fun _ _ h=>.inr h,fun b o hb hg=>?_,by rw[hl];exact h4,hr⟩
 ·rcases hb with hb|hb
  ·exact .inl (h1 b o hb)
  ·rcases hG b o hb with hb|hb
   ·exact .inl (h2 b o hb)
   ·exact .inr ⟨fun t' _=>hb.1 t',hb.2⟩
 ·rcases hG b o hg with hg|hg
  ·exact h3 b o hb hg
  ·exact hg.1 t (h1 b o hb)
theorem bj.focus (h:bj w0 M S0 N S φ F a w) {t:Nat} {k:Kd} {cs r:List C} {off j:Nat} {st:cm} (hF:F t=.hold k cs) (hst:st≠[]) (hr:bS cs off st=some (r,j)) (ho:jI cs off st) :
  ∃ g b u' Y,(∀ x o,Y x o→φ t x o)∧co w S Y r u'∧(∀ d,j+d<r.length→cellv w (bR w k (tvs a t)) off st d=u' (j+d))∧plc w (bR w k (tvs a t)) (pn k (tvs a t)) off st=some (g,b+j)∧
   (∀ d,d<r.length→φ t g (b+d)∧¬Y g (b+d)∧cel w g (b+d)=some (u' d)∧fro w g (b+d)=NF)∧
   ∀ (w1:World) (r':List C) (u2:Nat→Value) (G V:ab),bw V w w1→(∀ x o,V x o→Y x o∨(x=g∧b≤o∧o<b+r.length))→(∀ d,d<r.length→cel w1 g (b+d)=some (u2 d)∧fro w1 g (b+d)=NF)→r'.length=r.length→co w1 S G r' u2→
    (∀ x o,G x o→Y x o∨((∀ t',¬φ t' x o)∧¬S x o∧x<w.heap.size∧(w0.heap.size≤x∨M x o)))→
    bj w0 M S0 N S (fun s=>if s=t then(fun x o=>(φ t x o∧¬Y x o)∨G x o) else φ s) (updH F t k (fA cs off st r')) a w1:=by
 have hs:=h.slot t
 rw[hF]at hs
 obtain⟨X1,Y0,h1,h2,h3,h4,h5⟩:=hs
 obtain⟨g,b,Y,u',e1,e2,e3,e4,e5⟩:=co.focus st (pn k (tvs a t)) hst h5 hr ho
 obtain⟨F2,u2',c1,c2,c3,-,c4⟩:=co.at_ st (pn k (tvs a t)) h5 hr
 obtain⟨g2,b2,p1,p2⟩:=c4 hst
 rw[e3]at p1
 simp only[Option.some.injEq,Prod.mk.injEq]at p1
 obtain⟨rfl,hb2⟩:=p1
 have hbb:b=b2:=by omega
 subst hbb
 refine⟨g,b,u',Y,fun x o hx=>h2 x o (e1 x o hx),e2,fun d hd=>?_,e3,fun d hd=>?_,fun w1 r' u2 G V hk hV hcell hlen hrow hG=>?_⟩
 ·rw[c3 d]
  have q1:=p2 (j+d) hd
  have q2:=(e4 (j+d) hd).2.2.1
  rw[q1]at q2
  exact Option.some.inj q2
 ·obtain⟨a1,a2,a3,a4⟩:=e4 d hd
  exact⟨h2 _ _ a1,a2,a3,a4⟩
 ·have hcin:∀ o,b≤o→o<b+r.length→Y0 g o∧¬Y g o:=fun o ho1 ho2=>by
   have:=e4 (o - b) (by omega)
   rw[show b+(o - b)=o by omega]at this
   exact⟨this.1,this.2.1⟩
  have hV0:∀ x o,V x o→Y0 x o:=fun x o hx=>(hV x o hx).elim (e1 x o) (fun h=>by rw[h.1];exact(hcin o h.2.1 h.2.2).1)
  have hkk:bw (φ t) w w1:=⟨hk.os,hk.tape,hk.output,hk.size,fun x hx hn=>hk.blk x hx (fun o hv=>hn o (h2 x o (hV0 x o hv))),fun x o hx hn=>hk.cel x o hx (fun hv=>hn (h2 x o (hV0 x o hv))),fun x o hx hn=>hk.fro x o hx (fun hv=>hn (h2 x o (hV0 x o hv)))⟩
  have hS:bk S w w1:=fun x o hx=>⟨hk.cel x o (h.sup x o hx).1 (fun hv=>h.disS t x o (h2 x o (hV0 x o hv)) hx),hk.fro x o (h.sup x o hx).1 (fun hv=>h.disS t x o (h2 x o (hV0 x o hv)) hx)⟩
  have hX1:bk X1 w w1:=fun x o hx=>⟨hk.cel x o (h.ex t x o (h1 x o hx)).1 (fun hv=>h3 x o hx (hV0 x o hv)),hk.fro x o (h.ex t x o (h1 x o hx)).1 (fun hv=>h3 x o hx (hV0 x o hv))⟩
  have hrow2:=e5 w1 r' u2 G hS (fun x o hx hny hnc=>⟨hk.cel x o (h.ex t x o (h2 x o hx)).1 (fun hv=>(hV x o hv).elim hny hnc),hk.fro x o (h.ex t x o (h2 x o hx)).1 (fun hv=>(hV x o hv).elim hny hnc)⟩) hcell hlen hrow (fun x o hx=>(hG x o hx).imp id (fun hf h'=>hf.1 t (h2 x o h')))
  have hlen2:(fA cs off st r').length=cs.length:=by
   cases st with
   | nil=>exact absurd rfl hst
   | cons s st=>
    obtain⟨i',k',j'⟩:=s
    simp only[fA]
    split
    ·split<;>simp
    ·rfl
  refine h.upd hkk hF (fun x o hx=>?_) ⟨X1,fun x o=>(Y0 x o∧¬Y x o)∨G x o,fun x o hx=>.inl ⟨h1 x o hx,fun hy=>h3 x o hx (e1 x o hy)⟩,fun x o hx=>hx.imp (fun hx=>⟨h2 x o hx.1,hx.2⟩) id,fun x o hx hy=>?_,by rw[hlen2];exact h4.keep hX1 (fun _ _ h=>h),hrow2.congr fun d hd=>?_⟩
  ·rcases hx with hx|hx
   ·exact .inl hx.1
   ·rcases hG x o hx with hx|hx
    ·exact .inl (h2 x o (e1 x o hx))
    ·exact .inr ⟨fun t' _=>hx.1 t',hx.2⟩
  ·rcases hy with hy|hy
   ·exact h3 x o hx hy.1
   ·rcases hG x o hy with hy|hy
    ·exact h3 x o hx (e1 x o hy)
    ·exact hy.1 t (h1 x o hx)
  ·rw[hlen2]at hd
   exact kg h4 hX1 d hd
theorem ue {r:List C} {j n:Nat} (h:j+n≤r.length):(splice r j (List.replicate n C.x)).length=r.length:=bW (by simpa using h)
theorem bj.lend (h:bj w0 M S0 N S φ F a w) {t:Nat} {k:Kd} {cs r:List C} {off j n:Nat} {st:cm} (hF:F t=.hold k cs) (hr:bS cs off st=some (r,j)) (ho:jI cs off st) (hn:j+n≤r.length) :
  ∃ V φ',co w S V (bp r j n) (fun d=>cellv w (bR w k (tvs a t)) off st d)∧bj w0 M S0 N S φ' (updH F t k (fA cs off st (splice r j (List.replicate n .x)))) a w∧Free w0 M S φ' w V∧(∀ s b o,φ' s b o→φ s b o)∧(∀ b o,V b o→φ t b o):=by
 have fin:∀ (Y X V:ab) (F':Nat→AV),(∀ b o,X b o→φ t b o)→(∀ b o,V b o→¬X b o)→(∀ b o,V b o→φ t b o)→co w S V (bp r j n) (fun d=>cellv w (bR w k (tvs a t)) off st d)→bj w0 M S0 N S (fun s=>if s=t then X else φ s) F' a w→
   ∃ V φ',co w S V (bp r j n) (fun d=>cellv w (bR w k (tvs a t)) off st d)∧bj w0 M S0 N S φ' F' a w∧Free w0 M S φ' w V∧(∀ s b o,φ' s b o→φ s b o)∧(∀ b o,V b o→φ t b o):=by
  intro Y X V F' hX hVX hV hrow hst
  refine⟨V,_,hrow,hst,fun b o hb=>⟨fun s hs=>?_,h.disS t b o (hV b o hb),h.ex t b o (hV b o hb)⟩,fun s b o hb=>?_,hV⟩
  ·replace hs:(if s=t then X else φ s) b o:=hs
   by_cases e:s=t
   ·rw[if_pos e]at hs;exact hVX b o hb hs
   ·rw[if_neg e]at hs;exact h.dis s t e b o hs (hV b o hb)
  ·replace hb:(if s=t then X else φ s) b o:=hb
   by_cases e:s=t
   ·subst e;rw[if_pos rfl]at hb;exact hX b o hb
   ·rw[if_neg e]at hb;exact hb
 by_cases hst:st=[]
 ·subst hst
  simp only[bS,Option.some.injEq,Prod.mk.injEq]at hr
  obtain⟨rfl,rfl⟩:=hr
  obtain⟨V,X,e1,e2,e3,e4,e5⟩:=h.take hF hn
  exact fin NO X V _ e3 e2 e1 e4 e5
 ·obtain⟨g,b,u',Y,e1,e2,e3,e4,e5,e6⟩:=h.focus hF hst hr ho
  obtain⟨Y1,Y2,f1,f2,f3,f4,f5⟩:=e2.split hn
  refine fin Y (fun x o=>(φ t x o∧¬Y x o)∨Y1 x o) Y2 _ (fun x o hx=>hx.elim (·.1) (fun hx=>e1 x o (f1 x o hx))) (fun x o hx hx'=>hx'.elim (fun h=>h.2 (f2 x o hx)) (fun h'=>f3 x o h' hx)) (fun x o hx=>e1 x o (f2 x o hx)) ?_
   (e6 w _ u' Y1 NO (bw.refl _ _) (fun _ _ h=>h.elim) (fun d hd=>(e5 d hd).2.2) (ue hn) f4 (fun x o hx=>.inl (f1 x o hx)))
  exact f5.congr fun d hd=>by
   simp only[bp,List.length_take,List.length_drop]at hd
   exact e3 d (by omega)
theorem bj.back (h:bj w0 M S0 N S φ F a w) {t:Nat} {k:Kd} {cs r out:List C} {off j:Nat} {st:cm} (hF:F t=.hold k cs) (hr:bS cs off st=some (r,j)) (ho:jI cs off st) (hn:j+out.length≤r.length) {V:ab} (hV:Free w0 M S φ w V)
  (hrow:co w S V out (fun d=>cellv w (bR w k (tvs a t)) off st d)) :
  ∃ φ',bj w0 M S0 N S φ' (updH F t k (fA cs off st (splice r j out))) a w∧∀ s b o,φ' s b o→φ s b o∨V b o:=by
 by_cases hst:st=[]
 ·subst hst
  simp only[bS,Option.some.injEq,Prod.mk.injEq]at hr
  obtain⟨rfl,rfl⟩:=hr
  obtain⟨X1,Y,e1,e2,e3,e4,e5⟩:=h.relTop hF
  refine⟨_,e5 (splice cs off out) (fun b o=>Y b o∨V b o) (bW hn) ((e4.join hrow hn (fun b o hb hv=>(hV b o hv).1 t (e2 b o hb))).congr fun d hd=>?_) (fun b o hb=>hb.imp id (hV b o)),fun s b o hb=>?_⟩
  ·split
   ·rename_i hq
    simp only[cellv]
    rw[show off+(d - off)=d by omega]
   ·rfl
  ·replace hb:(if s=t then(fun b o=>X1 b o∨(Y b o∨V b o)) else φ s) b o:=hb
   by_cases e:s=t
   ·subst e
    rw[if_pos rfl]at hb
    rcases hb with hb|hb|hb
    ·exact .inl (e1 b o hb)
    ·exact .inl (e2 b o hb)
    ·exact .inr hb
   ·rw[if_neg e]at hb;exact .inl hb
 ·obtain⟨g,b,u',Y,e1,e2,e3,e4,e5,e6⟩:=h.focus hF hst hr ho
  refine⟨_,e6 w (splice r j out) u' (fun x o=>Y x o∨V x o) NO (bw.refl _ _) (fun _ _ h=>h.elim) (fun d hd=>(e5 d hd).2.2) (bW hn) ((e2.join hrow hn (fun x o hx hv=>(hV x o hv).1 t (e1 x o hx))).congr fun d hd=>?_) (fun x o hx=>hx.imp id (hV x o)),fun s x o hx=>?_⟩
  ·split
   ·rename_i hq
    rw[e3 (d - j) (by omega),show j+(d - j)=d by omega]
   ·rfl
  ·replace hx:(if s=t then(fun x o=>(φ t x o∧¬Y x o)∨(Y x o∨V x o)) else φ s) x o:=hx
   by_cases e:s=t
   ·subst e
    rw[if_pos rfl]at hx
    rcases hx with hx|hx|hx
    ·exact .inl hx.1
    ·exact .inl (e1 x o hx)
    ·exact .inr hx
   ·rw[if_neg e]at hx;exact .inl hx
theorem bj.cellv_same (h:bj w0 M S0 N S φ F a w) {t:Nat} {k:Kd} {cs r:List C} {off j:Nat} {st:cm} (hF:F t=.hold k cs) (hr:bS cs off st=some (r,j)) {V:ab} (hk:bw V w w1) (hV:Free w0 M S φ w V) :
  ∀ d,j+d<r.length→cellv w1 (bR w1 k (tvs a t)) off st d=cellv w (bR w k (tvs a t)) off st d:=by
 have hs:=h.slot t
 rw[hF]at hs
 obtain⟨X1,Y0,h1,h2,h3,h4,h5⟩:=hs
 have hphi:bk (φ t) w w1:=fun b o hb=>⟨hk.cel b o (h.ex t b o hb).1 (fun hv=>(hV b o hv).1 t hb),hk.fro b o (h.ex t b o hb).1 (fun hv=>(hV b o hv).1 t hb)⟩
 have hS:bk S w w1:=fun b o hb=>⟨hk.cel b o (h.sup b o hb).1 (fun hv=>(hV b o hv).2.1 hb),hk.fro b o (h.sup b o hb).1 (fun hv=>(hV b o hv).2.1 hb)⟩
 exact(co.last hS st none h5 hr (fun b o hb=>hphi b o (h2 b o hb)) (fun x hx=>kg h4 (fun b o hb=>hphi b o (h1 b o hb)) x hx)).2
end
end Go.Proofs.YtplcalfnngkffaaGreat.Ab
/- append, on slices of the call's own. No condition. -/
namespace Go.Proofs.YtplcalfnngkffaaGreat.Ab
open Go.RowKit
section
variable {P:Program} {w0 w w1:World} {M S0 S:ab} {N:fF} {φ:Nat→ab} {F:Nat→AV} {a:Act} {TE:Nat→Option TI}
def nL (w:World) (b:Option Addr) (n:Nat) (news:List Value):Prop:=news.length=n∧(b=none→n=0)∧∀ ad j u,b=some ad→news[j]? = some u→w.cell? (ad.add j)=some u
theorem sq {size m:Nat} {b:Option Addr} {c:Nat} {news:List Value} (h:nL w b (m*size) news):(Builtin.firstCells size m (.slice b m c)).run P w=.ok news.toArray w:=by
 obtain⟨h1,h2,h3⟩:=h
 cases b with
 | none=>
  have:news=[]:=List.eq_nil_of_length_eq_zero (by rw[h1];exact h2 rfl)
  subst this
  rfl
 | some ad=>
  exact run_firstCells_some (P:=P) w size m ad m c news h1 (fun j v hj=>h3 ad j v rfl hj)
theorem im {g:Nat} {X:ab} : ∀ (vs:List Value) (o:Nat) (w:World),(∀ j,j<vs.length→X g (o+j))→bw X w (w.setCells g o vs):=by
 have hkept:∀ (vs:List Value) (o:Nat) (w:World),(w.setCells g o vs).os=w.os∧(w.setCells g o vs).tape=w.tape∧(w.setCells g o vs).output=w.output∧(w.setCells g o vs).heap.size=w.heap.size∧∀ b,b≠g→(w.setCells g o vs).heap[b]? = w.heap[b]?:=by
  intro vs
  induction vs with
  | nil=>exact fun _ _=>⟨rfl,rfl,rfl,rfl,fun _ _=>rfl⟩
  | cons x vs ih=>
   intro o w
   obtain⟨i1,i2,i3,i4,i5⟩:=ih (o+1) (w.setCell ⟨g,o,none⟩ x)
   exact⟨i1,i2,i3,i4.trans (by simp[World.setCell]),fun b hb=>(i5 b hb).trans (Below.heap_setCell w ⟨g,o,none⟩ x b hb)⟩
 intro vs o w hX
 obtain⟨i1,i2,i3,i4,i5⟩:=hkept vs o w
 refine⟨i1,i2,i3,by omega,fun b hb hn=>?_,fun b o' hb hn=>?_,fun b o' _ _=>Prod.ext (World.frozen?_setCells g _ _ w ⟨b,o',none⟩) (kZ _ _ _ _ _)⟩
 ·by_cases he:b=g
  ·subst he
   cases vs with
   | nil=>rfl
   | cons x vs=>exact absurd (hX 0 (by simp)) (hn _)
  ·exact i5 b he
 ·refine World.cell?_setCells_out g vs o w ⟨b,o',none⟩ (fun e _=>?_)
  simp only at e ⊢
  subst e
  by_cases h1:o'<o
  ·exact .inl h1
  ·by_cases h2:o+vs.length≤o'
   ·exact .inr h2
   ·have:=hX (o' - o) (by omega)
    rw[show o+(o' - o)=o' by omega]at this
    exact absurd this hn
theorem cB {g o:Nat} {vs:List Value} {w:World} {b q:Nat} (h:¬(b=g∧o≤q∧q<o+vs.length)):cel (w.setCells g o vs) b q=cel w b q:=
 World.cell?_setCells_out g vs o w ⟨b,q,none⟩ (fun e _=>by simp only at e ⊢;omega)
theorem dY {g o:Nat} {vs:List Value} {w:World} {j:Nat} {x:Value} (h:∀ j,j<vs.length→∃ z,cel w g (o+j)=some z) (hj:vs[j]? = some x):cel (w.setCells g o vs) g (o+j)=some x:=by
 have hl:=(List.getElem?_eq_some_iff.1 hj).1
 have:=World.cell?_setCells_in g vs o w (fun j hj=>by obtain⟨z,hz⟩:=h j hj;show(cel w g _).isSome=true;rw[hz];rfl) j hl
 show World.cell? _ _=_
 rw[this,←(List.getElem?_eq_some_iff.1 hj).2]
theorem dr (g o:Nat) (vs:List Value) (w:World) (b q:Nat):fro (w.setCells g o vs) b q=fro w b q:=Prod.ext (World.frozen?_setCells g _ _ w ⟨b,q,none⟩) (kZ _ _ _ _ _)
theorem JO {t ty e:Nat} {i:TypeInfo} (ht:P.underlying t=some (.slice e)) (hi:P.info? e=some i) {g n cap m c:Nat} {b:Option Addr} {news:List Value} (h1:nL w b (m*i.size) news) (hone:∀ u∈news,u.oneCell'=true)
  (hroom:n+m≤cap) (hc:∀ j,j<news.length→(∃ z,cel w g (n*i.size+j)=some z)∧fro w g (n*i.size+j)=NF) :
  (Builtin.append_ #[t,t] ty #[.slice (some ⟨g,0,none⟩) n cap,.slice b m c]).run P w=.ok (.slice (some ⟨g,0,none⟩) (n+m) cap) (w.setCells g (n*i.size) news):=by
 have hf:=sq (P:=P) (c:=c) h1
 have hst:=run_storeCells_cells (P:=P) g (n*i.size) news 0 w (fun j hj=>by obtain⟨z,hz⟩:=(hc j hj).1;simp only[Nat.add_zero];show(cel w g _).isSome=true;rw[hz];rfl) (fun j hj=>by simp only[Nat.add_zero];exact congrArg Prod.fst (hc j hj).2) hone
 simp only[Nat.add_zero]at hst
 simp[Builtin.append_,run_underlying ht,sizeOf,typeInfo,hi,Builtin.lenOf,hroom,hf,ja,hst]
theorem tN {t ty e:Nat} {i:TypeInfo} (ht:P.underlying t=some (.slice e)) (hi:P.info? e=some i) {n cap c:Nat} {a0 b:Option Addr} (hroom:n≤cap) :
  (Builtin.append_ #[t,t] ty #[.slice a0 n cap,.slice b 0 c]).run P w=.ok (.slice a0 n cap) w:=by
 have hf:(Builtin.firstCells i.size 0 (.slice b 0 c)).run P w=.ok #[] w:=by cases b<;>simp[Builtin.firstCells,loadCells,loadCellsFrom]
 cases a0<;>simp[Builtin.append_,run_underlying ht,sizeOf,typeInfo,hi,Builtin.lenOf,hroom,hf,storeCells]
theorem Lt {t ty e:Nat} {i:TypeInfo} {z:Value} (ht:P.underlying t=some (.slice e)) (hi:P.info? e=some i) (hz:i.zero=some z) {n cap m c:Nat} {a0 b:Option Addr} {olds news:List Value} (h0:nL w a0 (n*i.size) olds) (h1:nL w b (m*i.size) news)
  (hg:cap<n+m) (h63:n+m≤140737488355328) (hb:(n+m)*i.bytes≤140737488355328) :
  (Builtin.append_ #[t,t] ty #[.slice a0 n cap,.slice b m c]).run P w =
   .ok (.slice (some ⟨w.heap.size,0,none⟩) (n+m) (grownCap w (n+m) cap e)) (w.drew.alloc (.cells (olds.toArray++news.toArray++Builtin.zeroCells z.cells (grownCap w (n+m) cap e - (n+m))) e)):=by
 have hn:¬(n+m≤cap):=by omega
 have h63':¬(9223372036854775807<((n:Int)+(m:Int))):=by omega
 have h48':¬(281474976710656<Builtin.nextslicecap (n+m) cap*i.bytes):=by have:=growslice_fits hg hb;omega
 have hf:=sq (P:=P) (w:=w.drew) (c:=c) (show nL w.drew b (m*i.size) news from h1)
 have hfo:=sq (P:=P) (w:=w.drew) (c:=cap) (show nL w.drew a0 (n*i.size) olds from h0)
 simp[Builtin.append_,run_underlying ht,sizeOf,typeInfo,zeroValue,hi,hz,Builtin.lenOf,hn,h63',h48',Question.forced,hf,hfo,newRow,grownCap]
 congr 2
 apply Array.ext'
 simp
structure Bc (w:World) (S V:ab) (rows:List (List C)) (k:Nat) (u:Nat→Value) (f:Nat→ab):Prop where
 hk:∀ r∈rows,r.length=k
 hf:∀ q,q<rows.length*k→∀ b o,f q b o→V b o
 hd:∀ q q',q<rows.length*k→q'<rows.length*k→q≠q'→∀ b o,f q b o→¬f q' b o
 hc:∀ (i j:Nat) (r:List C) (c:C),rows[i]? = some r→r[j]? = some c→ez w S (f (i*k+j)) c (u (i*k+j))
theorem Fg {n k q:Nat} (h:q<n*k):q / k<n∧q % k<k∧q / k*k+q % k=q:=by
 have hk:0<k:=by rcases Nat.eq_zero_or_pos k with h0|h0;subst h0;simp at h;exact h0
 exact⟨Nat.div_lt_of_lt_mul (by rw[Nat.mul_comm];exact h),Nat.mod_lt _ hk,by rw[Nat.mul_comm];exact Nat.div_add_mod q k⟩
theorem Bc.one {V:ab} {rows:List (List C)} {k:Nat} {u:Nat→Value} {f:Nat→ab} (h:Bc w S V rows k u f) {q:Nat} (hq:q<rows.length*k):(u q).oneCell'=true:=by
 obtain⟨h1,h2,h3⟩:=Fg hq
 have hr:rows[q / k]? = some rows[q / k]:=List.getElem?_eq_getElem h1
 have hl:=h.hk _ (List.mem_of_getElem? hr)
 have hj:(rows[q / k])[q % k]? = some (rows[q / k])[q % k]:=List.getElem?_eq_getElem (by omega)
 have:=(h.hc _ _ _ _ hr hj).one
 rwa [h3]at this
theorem Bc.keep {w':World} {V:ab} {rows:List (List C)} {k:Nat} {u:Nat→Value} {f:Nat→ab} (h:Bc w S V rows k u f) (hS:bk S w w') (hV:bk V w w'):Bc w' S V rows k u f:=
 ⟨h.hk,h.hf,h.hd,fun i j r c hi hj=>(h.hc i j r c hi hj).keep hS fun b o hb=>hV b o (h.hf _ (by
   have h1:=(List.getElem?_eq_some_iff.1 hi).1
   have h2:=(List.getElem?_eq_some_iff.1 hj).1
   have h3:=h.hk r (List.mem_of_getElem? hi)
   exact eZ h1 (by omega)) b o hb)⟩
theorem Bc.append {V V':ab} {rows rows':List (List C)} {k:Nat} {u u':Nat→Value} {f f':Nat→ab} (h:Bc w S V rows k u f) (h':Bc w S V' rows' k u' f') (hd:∀ b o,V b o→¬V' b o) :
  Bc w S (fun b o=>V b o∨V' b o) (rows++rows') k (fun q=>if q<rows.length*k then u q else u' (q - rows.length*k)) (fun q=>if q<rows.length*k then f q else f' (q - rows.length*k)):=by
 have hlen:(rows++rows').length*k=rows.length*k+rows'.length*k:=by rw[List.length_append,Nat.add_mul]
 refine⟨fun r hr=>(List.mem_append.1 hr).elim (h.hk r) (h'.hk r),fun q hq b o hb=>?_,fun q q' hq hq' hne b o hb hb'=>?_,fun i j r c hi hj=>?_⟩
 ·rw[hlen]at hq
  by_cases hl:q<rows.length*k
  ·rw[if_pos hl]at hb;exact .inl (h.hf q hl b o hb)
  ·rw[if_neg hl]at hb;exact .inr (h'.hf _ (by omega) b o hb)
 ·rw[hlen]at hq hq'
  by_cases hl:q<rows.length*k
  ·rw[if_pos hl]at hb
   by_cases hl':q'<rows.length*k
   ·rw[if_pos hl']at hb';exact h.hd q q' hl hl' hne b o hb hb'
   ·rw[if_neg hl']at hb';exact hd b o (h.hf q hl b o hb) (h'.hf _ (by omega) b o hb')
  ·rw[if_neg hl]at hb
   by_cases hl':q'<rows.length*k
   ·rw[if_pos hl']at hb';exact hd b o (h.hf q' hl' b o hb') (h'.hf _ (by omega) b o hb)
   ·rw[if_neg hl']at hb';exact h'.hd _ _ (by omega) (by omega) (by omega) b o hb hb'
 ·by_cases hl:i<rows.length
  ·rw[List.getElem?_append_left hl]at hi
   have h2:=(List.getElem?_eq_some_iff.1 hj).1
   have h3:=h.hk r (List.mem_of_getElem? hi)
   have hq:i*k+j<rows.length*k:=eZ hl (by omega)
   simp only[if_pos hq]
   exact h.hc i j r c hi hj
  ·rw[List.getElem?_append_right (by omega)]at hi
   have hge:rows.length*k≤i*k:=Nat.mul_le_mul_right k (by omega)
   have hq:¬i*k+j<rows.length*k:=by omega
   simp only[if_neg hq]
   have:=h'.hc (i - rows.length) j r c hi hj
   rw[Nat.sub_mul]at this
   rw[show i*k+j - rows.length*k=i*k - rows.length*k+j by omega]
   exact this
theorem Bc.own {V:ab} {rows:List (List C)} {k:Nat} {u:Nat→Value} {f:Nat→ab} (h:Bc w S V rows k u f) {g n cap:Nat} {X:ab} (hn:rows.length=n) (hcap:n≤cap) (hpos:0<n) (hX:∀ q,q<cap*k→X g q∧(∃ z,cel w g q=some z∧z.oneCell'=true)∧fro w g q=NF)
  (hu:∀ q,q<n*k→cel w g q=some (u q)) (hV:∀ b o,V b o→X b o∧¬(b=g∧o<cap*k)):ez w S X (.s .own rows) (.slice (some ⟨g,0,none⟩) n cap):=by
 subst hn
 exact .own _ .own g k _ cap rows u f trivial rfl h.hk hcap hpos hX hu (fun q hq b o hb=>hV b o (h.hf q hq b o hb)) h.hd h.hc
theorem ez.els {F:ab} {o:dE} (hoi:o≠.imm) {rows:List (List C)} {v:Value} (h:ez w S F (.s o rows) v) {k:Nat} (hk:∀ r∈rows,r.length=k) :
  (rows=[]∧∃ a0,v=.slice a0 0 0)∨∃ g cap u f,v=.slice (some ⟨g,0,none⟩) rows.length cap∧0<rows.length∧rows.length≤cap∧(∀ q,q<cap*k→F g q∧(∃ z,cel w g q=some z∧z.oneCell'=true)∧fro w g q=NF)∧(∀ q,q<rows.length*k→cel w g q=some (u q))∧
   Bc w S (fun b o=>F b o∧¬(b=g∧o<cap*k)) rows k u f:=by
 generalize hc:C.s o rows=c at h
 induction h with
 | v=>cases hc
 | x=>cases hc
 | z=>cases hc
 | m=>cases hc
 | it=>cases hc
 | imm=>cases hc;exact absurd rfl hoi
 | nil F o a ho=>cases hc;exact .inl ⟨rfl,a,rfl⟩
 | own F o g k' n cap rows' u f ho hn hk' hcap hpos hF hu hf hd hcc _=>
  cases hc
  subst hn
  have hkk:k'=k:=by
   have h0:rows[0]? = some rows[0]:=List.getElem?_eq_getElem hpos
   rw[←hk' _ (List.mem_of_getElem? h0),hk _ (List.mem_of_getElem? h0)]
  subst hkk
  exact .inr ⟨g,cap,u,f,rfl,hpos,hcap,hF,hu,hk,hf,hd,hcc⟩
theorem vp {t ty e:Nat} {i:TypeInfo} {z:Value} (ht:P.underlying t=some (.slice e)) (hi:P.info? e=some i) (hz:i.zero=some z) (hzs:z.cells.size=i.size) (hz1:∀ x∈z.cells.toList,x.oneCell'=true) {F:ab} {rows xr:List (List C)} {v0:Value} (h:ez w S F (.s .own rows) v0)
  (hk:∀ r∈rows,r.length=i.size) {V:ab} {u2:Nat→Value} {f2:Nat→ab} (hx:Bc w S V xr i.size u2 f2) {b:Option Addr} {c:Nat} (hb:nL w b (xr.length*i.size) ((List.range (xr.length*i.size)).map u2))
  (hFV:∀ b o,F b o→¬V b o) (hFS:∀ b o,F b o→¬S b o) (hFe:∀ b o,F b o→b<w.heap.size) (hVe:∀ b o,V b o→b<w.heap.size) (hSe:∀ b o,S b o→b<w.heap.size)
  (h63:rows.length+xr.length≤140737488355328) (hby:(rows.length+xr.length)*i.bytes≤140737488355328) :
  ∃ v' w',(Builtin.append_ #[t,t] ty #[v0,.slice b xr.length c]).run P w=.ok v' w'∧bw F w w'∧ez w' S (fun b o=>F b o∨V b o∨(w.heap.size≤b∧b<w'.heap.size)) (.s .own (rows++xr)) v':=by
 have hkx:xr.length*i.size=((List.range (xr.length*i.size)).map u2).length:=by simp
 have grow:∀ (a0:Option Addr) (cap:Nat) (u:Nat→Value) (f:Nat→ab),cap<rows.length+xr.length→nL w a0 (rows.length*i.size) ((List.range (rows.length*i.size)).map u)→Bc w S F rows i.size u f→v0=.slice a0 rows.length cap→
   ∃ v' w',(Builtin.append_ #[t,t] ty #[v0,.slice b xr.length c]).run P w=.ok v' w'∧bw F w w'∧ez w' S (fun b o=>F b o∨V b o∨(w.heap.size≤b∧b<w'.heap.size)) (.s .own (rows++xr)) v':=by
  intro a0 cap u f hlt hr hE hv
  have hrun:=Lt (P:=P) (ty:=ty) ht hi hz hr hb hlt h63 hby (c:=c)
  have hge:=grownCap_ge w (rows.length+xr.length) cap e
  refine⟨_,_,by rw[hv];exact hrun,bw.of_below (((Below.refl _ _).drew).alloc (Nat.le_refl _) _) F,?_⟩
  generalize hcells:((List.range (rows.length*i.size)).map u).toArray++((List.range (xr.length*i.size)).map u2).toArray++Builtin.zeroCells z.cells (grownCap w (rows.length+xr.length) cap e - (rows.length+xr.length))=cells
  generalize grownCap w (rows.length+xr.length) cap e=c' at hge hcells
  have hlen:cells.size=c'*i.size:=by
   rw[←hcells]
   simp only[Array.size_append,List.size_toArray,List.length_map,List.length_range,size_zeroCells,hzs,←Nat.add_mul]
   congr 1;omega
  have hk':bw NO w (w.drew.alloc (.cells cells e)):=bw.of_below (((Below.refl _ _).drew).alloc (Nat.le_refl _) _) NO
  have hE2:=((hE.append hx hFV).keep (hB hk' hSe) (hB hk' fun b o hb=>hb.elim (hFe b o) (hVe b o)))
  have hcel:∀ q,cel (w.drew.alloc (.cells cells e)) w.heap.size q=cells[q]?:=fun q=>gM w.drew cells e q
  have hq1:∀ q,q<(rows.length+xr.length)*i.size→cells[q]? = some (if q<rows.length*i.size then u q else u2 (q - rows.length*i.size)):=fun q hq=>by
   rw[Nat.add_mul]at hq
   rw[←hcells,Array.append_assoc]
   by_cases h1:q<rows.length*i.size
   ·rw[Array.getElem?_append_left (by simpa using h1),if_pos h1];simp[h1]
   ·rw[Array.getElem?_append_right (by simpa using Nat.le_of_not_lt h1),if_neg h1,Array.getElem?_append_left (by simp;omega)]
    simp only[List.size_toArray,List.length_map,List.length_range,List.getElem?_toArray,List.getElem?_map]
    rw[List.getElem?_range (by omega)];rfl
  refine hE2.own (n:=rows.length+xr.length) (cap:=c') (by simp) hge (by omega) (fun q hq=>?_) (fun q hq=>by rw[hcel];exact hq1 q hq) (fun b o hb=>⟨hb.elim .inl (fun h=>.inr (.inl h)),fun h=>by have:=hb.elim (hFe b o) (hVe b o);omega⟩)
  refine⟨.inr (.inr ⟨Nat.le_refl _,by rw[f0];exact Nat.lt_succ_self _⟩),?_,iO w.drew cells e q⟩
  rw[hcel]
  have hlt':q<cells.size:=by rw[hlen];exact hq
  refine⟨cells[q],Array.getElem?_eq_getElem hlt',?_⟩
  by_cases h1:q<(rows.length+xr.length)*i.size
  ·have h2:=hq1 q h1
   rw[Array.getElem?_eq_getElem hlt']at h2
   simp only[Option.some.injEq]at h2
   rw[h2]
   have:=(hE.append hx hFV).one (q:=q) (by simpa using h1)
   exact this
  ·have hmem:cells[q]∈z.cells.toList:=by
    have h2:cells[q]? = (Builtin.zeroCells z.cells (c' - (rows.length+xr.length)))[q - (rows.length+xr.length)*i.size]?:=by
     rw[←hcells]
     rw[Array.getElem?_append_right (by simp[←Nat.add_mul];omega)]
     simp[←Nat.add_mul]
    rw[Array.getElem?_eq_getElem hlt']at h2
    have h3:q - (rows.length+xr.length)*i.size<(c' - (rows.length+xr.length))*z.cells.size:=by
     rw[hzs,Nat.sub_mul];omega
    have hz0:0<z.cells.size:=by rcases Nat.eq_zero_or_pos z.cells.size with h|h;rw[h]at h3;simp at h3;exact h
    simp only[Builtin.zeroCells]at h2
    rw[Array.getElem?_eq_getElem (by simpa using h3)]at h2
    simp only[Array.getElem_map,Array.getElem_range,Option.some.injEq]at h2
    rw[h2]
    have h4:(q - (rows.length+xr.length)*i.size) % z.cells.size<z.cells.size:=Nat.mod_lt _ hz0
    rw[getElem!_pos z.cells _ h4]
    simp
   exact hz1 _ hmem
 rcases h.els (by simp) hk with⟨rfl,a0,rfl⟩|⟨g,cap,u,f,rfl,hpos,hcap,hcell,hu,hE⟩
 ·by_cases hm:xr.length=0
  ·have:xr=[]:=List.eq_nil_of_length_eq_zero hm
   subst this
   exact⟨_,w,tN ht hi (Nat.le_refl 0),bw.refl _ _,.nil _ _ _ trivial⟩
  ·exact grow a0 0 (fun _=>undef) (fun _=>NO) (by simp;omega) ⟨by simp,fun _=>by simp,fun ad j u _ hj=>by simp at hj⟩ ⟨fun r hr=>by simp at hr,fun q hq=>by simp at hq,fun q q' hq=>by simp at hq,fun i j r c hi=>by simp at hi⟩ rfl
 ·have hmap:∀ (n j:Nat) (y:Value) (uu:Nat→Value),((List.range n).map uu)[j]? = some y→j<n∧y=uu j:=fun n j y uu hj=>by
   rw[List.getElem?_map]at hj
   cases hr:(List.range n)[j]? with
   | none=>rw[hr]at hj;cases hj
   | some j'=>
    obtain⟨h1,h2⟩:=List.getElem?_eq_some_iff.1 hr
    simp at h1 h2
    subst h2
    rw[hr]at hj
    simp only[Option.map_some,Option.some.injEq]at hj
    exact⟨h1,hj.symm⟩
  by_cases hroom:rows.length+xr.length≤cap
  ·have hin:∀ j,j<xr.length*i.size→rows.length*i.size+j<cap*i.size:=fun j hj=>by
    have:(rows.length+xr.length)*i.size≤cap*i.size:=Nat.mul_le_mul_right _ hroom
    rw[Nat.add_mul]at this;omega
   have hrun:=JO (P:=P) (ty:=ty) ht hi (g:=g) (n:=rows.length) (cap:=cap) (c:=c) hb (fun y hy=>by
     obtain⟨j,hj⟩:=List.getElem?_of_mem hy
     obtain⟨h1,rfl⟩:=hmap _ _ _ _ hj
     exact hx.one h1) hroom (fun j hj=>by
       have:=hcell _ (hin j (by rw[←hkx]at hj;exact hj))
       exact⟨this.2.1.imp fun _ h=>h.1,this.2.2⟩)
   generalize hnews:(List.range (xr.length*i.size)).map u2=news at hrun hkx
   have hkk:bw F w (w.setCells g (rows.length*i.size) news):=im news _ w (fun j hj=>(hcell _ (hin j (by omega))).1)
   refine⟨_,_,hrun,hkk,?_⟩
   have hSS:bk S w (w.setCells g (rows.length*i.size) news):=fun b o hb=>⟨hkk.cel b o (hSe b o hb) (fun h'=>hFS b o h' hb),dr _ _ _ _ _ _⟩
   have hVV:bk V w (w.setCells g (rows.length*i.size) news):=fun b o hb=>⟨hkk.cel b o (hVe b o hb) (fun h'=>hFV b o h' hb),dr _ _ _ _ _ _⟩
   have hFF:bk (fun b o=>F b o∧¬(b=g∧o<cap*i.size)) w (w.setCells g (rows.length*i.size) news):=fun b o hb=>⟨cB (fun⟨e1,e2,e3⟩=>hb.2 ⟨e1,by
     have:=hin (o - rows.length*i.size) (by omega);omega⟩),dr _ _ _ _ _ _⟩
   have hE2:=(hE.keep hSS hFF).append (hx.keep hSS hVV) (fun b o hb hv=>hFV b o hb.1 hv)
   have hex:∀ j,j<news.length→∃ z,cel w g (rows.length*i.size+j)=some z:=fun j hj=>(hcell _ (hin j (by omega))).2.1.imp fun _ h=>h.1
   refine hE2.own (n:=rows.length+xr.length) (cap:=cap) (by simp) hroom (by omega) (fun q hq=>?_) (fun q hq=>?_) (fun b o hb=>⟨hb.elim (fun h=>.inl h.1) (fun h=>.inr (.inl h)),fun h=>hb.elim (fun h'=>h'.2 h) (fun hv=>?_)⟩)
   ·obtain⟨h1,⟨z0,h2,h2'⟩,h3⟩:=hcell q hq
    refine⟨.inl h1,?_,by rw[dr];exact h3⟩
    by_cases hr:rows.length*i.size≤q∧q<rows.length*i.size+news.length
    ·have h4:news[q - rows.length*i.size]? = some (u2 (q - rows.length*i.size)):=by
      rw[←hnews,List.getElem?_map,List.getElem?_range (by omega)];rfl
     have:=dY hex h4
     rw[show rows.length*i.size+(q - rows.length*i.size)=q by omega]at this
     exact⟨_,this,hx.one (by omega)⟩
    ·exact⟨z0,by rw[cB (by omega)];exact h2,h2'⟩
   ·rw[Nat.add_mul]at hq
    by_cases hr:q<rows.length*i.size
    ·rw[if_pos hr,cB (by omega)];exact hu q hr
    ·rw[if_neg hr]
     have h4:news[q - rows.length*i.size]? = some (u2 (q - rows.length*i.size)):=by
      rw[←hnews,List.getElem?_map,List.getElem?_range (by omega)];rfl
     have:=dY hex h4
     rwa [show rows.length*i.size+(q - rows.length*i.size)=q by omega]at this
   ·obtain⟨e1,e2⟩:=h
    subst e1
    exact hFV _ _ (hcell o e2).1 hv
  ·exact grow (some ⟨g,0,none⟩) cap u f (by omega) ⟨by simp,fun h=>(by cases h),fun ad j y had hj=>by
     cases had
     obtain⟨h1,rfl⟩:=hmap _ _ _ _ hj
     rw[ja,Nat.zero_add]
     exact hu j h1⟩ ⟨hE.hk,fun q hq b o hb=>(hE.hf q hq b o hb).1,hE.hd,hE.hc⟩ rfl
end
end Go.Proofs.YtplcalfnngkffaaGreat.Ab
/- build, slice literals, append, makeSlice, field, convert as operations that write only their own slot, on abstract frames. No condition. -/
namespace Go.Proofs.YtplcalfnngkffaaGreat.Ab
open Go.RowKit
def fc:List C→(List C→Prop)→Prop
 | [],K=>K []
 | c::cs,K=>fc cs fun t=>K (c::t)
theorem ek:∀ (cs:List C) (K:List C→Prop),fc cs K=K cs
 | [],_=>rfl
 | c::cs,K=>by rw[fc,ek cs]
def chunk (k:Nat):Nat→List C→List (List C)
 | 0,_=>[]
 | n+1,cs=>cs.take k::chunk k n (cs.drop k)
def NC (k:Nat):Nat→List C→(List (List C)→Prop)→Prop
 | 0,_,K=>K []
 | n+1,cs,K=>fc (cs.take k) fun r=>NC k n (cs.drop k) fun rs=>K (r::rs)
theorem qo (k:Nat):∀ (n:Nat) (cs:List C) (K:List (List C)→Prop),NC k n cs K=K (chunk k n cs)
 | 0,_,_=>rfl
 | n+1,cs,K=>by rw[NC,ek,qo k n];rfl
def Np (TE:Nat→Option TI) (flds:List (Nat × Nat)) (i:Nat):Option (Nat × Nat):=
 match flds[i]? with
 | some p=>(match TE p.2 with|some ti=>some (p.1,ti.size)|none=>none)
 | none=>none
def vm (TE:Nat→Option TI):List (Nat × Nat)→Bool
 | []=>true
 | p::l=>(TE p.2).isSome&&vm TE l
def Pf (size i:Nat):Option (Nat × Nat):=some (i*size,size)
def fillP (F:Nat→AV) (pl:Nat→Option (Nat × Nat)):List (Nat × Operand)→List C→(List C→Prop)→Prop
 | [],cs,K=>K cs
 | p::rest,cs,K=>match pl p.1 with
  | some q=>iA F (nj F p.2) fun _ xs=>bif aW xs&&Nat.beq xs.length q.2&&Nat.ble (q.1+q.2) cs.length then fc (splice cs q.1 xs) fun cs'=>fillP F pl rest cs' K else False
  | none=>False
def qd (TE:Nat→Option TI) (F:Nat→AV) (T:Nat) (parts:List (Nat × Operand)) (K:AV→Prop):Prop:=
 match TE T with
 | some ⟨_,_,zero,.st flds⟩=>bif vm TE flds then fillP F (Np TE flds) parts zero fun cs=>K (.hold .agg cs) else False
 | _=>False
def rep (z:List C):Nat→List C
 | 0=>[]
 | n+1=>z++rep z n
def G7 (TE:Nat→Option TI) (T:Nat) (K:Nat→TI→Prop):Prop:=
 match TE T with
 | some ⟨_,_,_,.sl e⟩=>(match TE e with
   | some ie=>bif Nat.beq ie.zero.length ie.size&&Nat.ble 1 ie.size then K e ie else False
   | none=>False)
 | _=>False
def u4 (TE:Nat→Option TI) (F:Nat→AV) (T n:Nat) (parts:List (Nat × Operand)) (K:AV→Prop):Prop:=
 G7 TE T fun _ ie=>bif Nat.ble (n*ie.size) 16777216 then(match n,parts with
   | 0,[]=>K (.hold .one [.z])
   | n+1,parts=>fc (rep ie.zero (n+1)) fun cs=>fillP F (Pf ie.size) parts cs fun cs'=>NC ie.size (n+1) cs' fun rows=>K (.hold .one [.s .own rows])
   | _,_=>False) else False
inductive Fl (rows:List (List C)) (sz by_:Nat) (X:Prop):Prop
 |mk_ (h:(∀ r∈rows,r.length=sz∧aW r=true)∧rows.length≤140737488355328∧rows.length*by_≤140737488355328∧X)
theorem Fl.mk {rows:List (List C)} {sz by_:Nat} {X:Prop} (h1:∀ r∈rows,r.length=sz∧aW r=true) (h2:rows.length≤140737488355328) (h3:rows.length*by_≤140737488355328) (hX:X):Fl rows sz by_ X:=by refine .mk_ ?_;exact⟨h1,h2,h3,hX⟩
theorem Fl.out {rows:List (List C)} {sz by_:Nat} {X:Prop} (h:Fl rows sz by_ X):(∀ r∈rows,r.length=sz∧aW r=true)∧rows.length≤140737488355328∧rows.length*by_≤140737488355328∧X:=by obtain⟨h⟩:=h;exact h
def Gs (TE:Nat→Option TI) (F:Nat→AV) (T:Nat) (x y:Operand) (K:AV→Prop):Prop:=
 G7 TE T fun _ ie=>iA F (nj F x) fun ag cs=>match ag,cs with
  | none,[.z]=>iA F (nj F y) fun ag2 cs2=>match ag2,cs2 with
   | none,[.s _ rows]=>Fl rows ie.size ie.bytes (K (.hold .one [.s .own rows]))
   | none,[.z]=>K (.hold .one [.z])
   | _,_=>False
  | _,_=>False
section
variable {P:Program} {w0 w w1:World} {M S0 S:ab} {N:fF} {φ:Nat→ab} {F:Nat→AV} {a:Act} {TE:Nat→Option TI}
theorem zZ {α:Type} (l xs:List α) {p q:Nat} (hp:p≤l.length) (hq:q=p+xs.length) (j:Nat):(l.take p++xs++l.drop q)[j]? = if j<p then l[j]? else if j<q then xs[j - p]? else l[j]?:=by
 subst hq
 have hm:(l.take p).length=p:=by simp;omega
 by_cases h1:j<p
 ·rw[if_pos h1,List.append_assoc,List.getElem?_append_left (by omega),List.getElem?_take,if_pos h1]
 ·rw[if_neg h1]
  by_cases h2:j<p+xs.length
  ·rw[if_pos h2,List.append_assoc,List.getElem?_append_right (by omega),hm,List.getElem?_append_left (by omega)]
  ·rw[if_neg h2,List.append_assoc,List.getElem?_append_right (by omega),hm,List.getElem?_append_right (by omega),List.getElem?_drop]
   congr 1;omega
theorem rv {off:Nat} : ∀ (xs:List Value) (k:Nat) (cells:Array Value),off+k+xs.length≤cells.size→
  ((xs.zipIdx k).foldl (fun cs (c,j)=>cs.setIfInBounds (off+j) c) cells).toList=cells.toList.take (off+k)++xs++cells.toList.drop (off+k+xs.length)
 | [],k,cells,_=>by simp
 | x::xs,k,cells,h=>by
  simp only[List.length_cons]at h
  simp only[List.zipIdx_cons,List.foldl_cons]
  rw[rv xs (k+1) _ (by simp;omega)]
  apply List.ext_getElem?
  intro j
  rw[zZ _ _ (by simp;omega) rfl,zZ _ _ (by simp;omega) rfl]
  simp only[Array.toList_setIfInBounds,List.length_cons,List.getElem?_set,Array.length_toList]
  by_cases h1:j<off+k
  ·rw[if_pos (by omega),if_pos h1,if_neg (by omega)]
  ·rw[if_neg h1]
   by_cases h2:j=off+k
   ·subst h2
    rw[if_pos (by omega),if_pos rfl,if_pos (by omega),if_pos (by omega)]
    simp
   ·rw[if_neg (by omega)]
    by_cases h3:j<off+k+(xs.length+1)
    ·rw[if_pos (by omega),if_pos h3,show j - (off+k)=(j - (off+(k+1)))+1 by omega,List.getElem?_cons_succ]
    ·rw[if_neg (by omega),if_neg h3,if_neg (by omega)]
theorem Aq {cs xs:List C} {off:Nat} (h:off+xs.length≤cs.length) (u u2:Nat→Value) :
  (List.range (splice cs off xs).length).map (fun j=>if off≤j∧j<off+xs.length then u2 (j - off) else u j)=((List.range cs.length).map u).take off++(List.range xs.length).map u2++((List.range cs.length).map u).drop (off+xs.length):=by
 rw[bW h]
 apply List.ext_getElem?
 intro j
 rw[zZ _ _ (by simp;omega) (by simp),List.getElem?_map,List.getElem?_map,List.getElem?_map]
 by_cases h1:j<cs.length
 ·rw[List.getElem?_range h1]
  simp only[Option.map_some]
  by_cases h2:off≤j∧j<off+xs.length
  ·rw[if_pos h2,if_neg (by omega),if_pos h2.2,List.getElem?_range (by omega)];rfl
  ·rw[if_neg h2]
   by_cases h3:j<off
   ·rw[if_pos h3]
   ·rw[if_neg h3,if_neg (by omega)]
 ·rw[List.getElem?_eq_none (by simp;omega)]
  rw[if_neg (by omega),if_neg (by omega)];rfl
theorem zi {pl:Nat→Option (Nat × Nat)} {i:Nat} {q:Nat × Nat} (hq:pl i=some q) {cs xs:List C} {u u2:Nat→Value} {cells:Array Value} {v:Value} {rest:List (Nat × Value)} (hcl:cells.toList=(List.range cs.length).map u)
  (hv:v.cells.toList=(List.range xs.length).map u2) (h1:xs.length=q.2) (h2:q.1+q.2≤cs.length) :
  ∃ cells',Instr.fill pl cells ((i,v)::rest)=Instr.fill pl cells' rest∧cells'.toList=(List.range (splice cs q.1 xs).length).map (fun j=>if q.1≤j∧j<q.1+xs.length then u2 (j - q.1) else u j):=by
 obtain⟨off,size⟩:=q
 simp only at h1 h2
 have hvs:v.cells.size=xs.length:=by have:=congrArg List.length hv;simpa using this
 have hcs:cells.size=cs.length:=by have:=congrArg List.length hcl;simpa using this
 refine⟨_,by simp only[Instr.fill,hq];rw[if_neg (by simp;omega)],?_⟩
 have:=rv (off:=off) v.cells.toList 0 cells (by simp;omega)
 rw[←Array.toList_zipIdx,Array.foldl_toList]at this
 rw[this,Aq (by omega),hcl,hv]
 simp
theorem bj.fillP (h:bj w0 M S0 N S φ F a w) {pl:Nat→Option (Nat × Nat)} : ∀ {parts:List (Nat × Operand)} {cs:List C} {K:List C→Prop} {u:Nat→Value} {cells:Array Value},Ab.fillP F pl parts cs K→co w S NO cs u→cells.toList=(List.range cs.length).map u→
  ∃ cs' u' cells',K cs'∧cs'.length=cs.length∧co w S NO cs' u'∧Instr.fill pl cells (parts.map fun p=>(p.1,a.eval p.2))=some cells'∧cells'.toList=(List.range cs'.length).map u'
 | [],cs,K,u,cells,hp,hr,hc=>⟨cs,u,cells,hp,rfl,hr,rfl,hc⟩
 | p::rest,cs,K,u,cells,hp,hr,hc=>by
  simp only[Ab.fillP]at hp
  split at hp
  case h_2=>exact hp.elim
  rename_i q hq
  obtain⟨ag,xs,Y,hK,hv,-⟩:=h.val (h.ev p.2) hp
  cases hb:(aW xs&&Nat.beq xs.length q.2&&Nat.ble (q.1+q.2) cs.length) with
  | false=>rw[hb]at hK;exact hK.elim
  | true=>
   rw[hb]at hK
   simp only[Bool.and_eq_true]at hb
   have h1:=Nat.eq_of_beq_eq_true hb.1.2
   have h2:=Nat.le_of_ble_eq_true hb.2
   simp only[cond_true,ek]at hK
   obtain⟨u2,hu2,hr2⟩:=hv.cells
   obtain⟨cells1,hf,hc1⟩:=zi (rest:=rest.map fun p=>(p.1,a.eval p.2)) hq hc hu2 h1 h2
   have hr3:=(hr.join (hr2.bare (F':=NO) hb.1.1) (off:=q.1) (by omega) (fun _ _ h=>h.elim)).mono (F':=NO) (fun _ _ h=>h) (fun _ _ h=>h.elim id id)
   obtain⟨cs',u',cells',e1,e2,e3,e4,e5⟩:=bj.fillP h hK hr3 hc1
   exact⟨cs',u',cells',e1,by rw[e2,bW (by omega)],e3,by rw[List.map_cons,hf];exact e4,e5⟩
theorem t7 (hTE:∀ t i,TE t=some i→bA P t i):∀ {fs:List Field} {flds:List (Nat × Nat)},fs.map (fun f=>(f.offset,f.type))=flds→vm TE flds=true→
  ∃ pls:List (Nat × Nat),fs.mapM (fun f=>(P.info? f.type).map fun i=>(f.offset,i.size))=some pls∧∀ i,pls[i]? = Np TE flds i
 | [],flds,h,_=>by subst h;exact⟨[],by simp,fun i=>by simp[Np]⟩
 | f::fs,flds,h,ha=>by
  subst h
  simp only[List.map_cons,vm,Bool.and_eq_true]at ha
  obtain⟨pls,h1,h2⟩:=t7 hTE (fs:=fs) rfl ha.2
  cases ht:TE f.type with
  | none=>rw[ht]at ha;cases ha.1
  | some ti=>
   have hsz:=(hTE _ _ ht).size
   cases hi:P.info? f.type with
   | none=>rw[hi]at hsz;cases hsz
   | some ii=>
    rw[hi]at hsz
    simp only[Option.map_some,Option.some.injEq]at hsz
    refine⟨(f.offset,ti.size)::pls,?_,fun i=>?_⟩
    ·simp[List.mapM_cons,hi,h1,hsz]
    ·cases i with
     | zero=>simp[Np,ht]
     | succ i=>simp only[List.getElem?_cons_succ,h2 i,Np,List.map_cons]
theorem vK (hTE:∀ t i,TE t=some i→bA P t i) {T size bytes:Nat} {zero:List C} {flds:List (Nat × Nat)} (hT:TE T=some ⟨size,bytes,zero,.st flds⟩) (ha:vm TE flds=true) {parts:Array (Nat × Value)} {cells':Array Value}
  (hf:∀ cells:Array Value,cells.toList=zero.map cval→Instr.fill (Np TE flds) cells parts.toList=some cells'):(Instr.build T parts).run P w=.ok (.agg cells') w:=by
 refine run_build w T parts cells' ?_
 have hz:=(hTE _ _ hT).1
 obtain⟨fs,hu,hfs⟩:=(hTE _ _ hT).2.2
 obtain⟨pls,h1,h2⟩:=t7 (P:=P) hTE hfs ha
 unfold Program.built
 cases hi:P.info? T with
 | none=>rw[hi]at hz;cases hz
 | some q=>
  rw[hi]at hz
  simp only[Option.map_some,Option.some.injEq,Prod.mk.injEq]at hz
  cases hq:q.zero with
  | none=>rw[hq]at hz;cases hz.1
  | some z=>
   rw[hq]at hz
   simp only[hu,hq,h1]
   rw[←hf z.cells (by simpa using hz.1)]
   congr 1
   funext i
   rw[←h2 i];simp
theorem bj.build (h:bj w0 M S0 N S φ F a w) (hTE:∀ t i,TE t=some i→bA P t i) {T:Nat} {parts:Array (Nat × Operand)} {K:AV→Prop} (hp:qd TE F T parts.toList K) :
  ∃ av v,K av∧(Instr.build T (parts.map fun(i,x)=>(i,a.eval x))).run P w=.ok v w∧cz w S F (tvs a) NO av v:=by
 unfold qd at hp
 split at hp
 case h_2=>exact hp.elim
 rename_i size bytes zero flds hT
 cases ha:vm TE flds with
 | false=>rw[ha]at hp;exact hp.elim
 | true=>
  rw[ha]at hp
  have hzo:=(hTE _ _ hT).2.1
  have hl:∀ cells:Array Value,cells.toList=zero.map cval→cells.toList=(List.range zero.length).map (fun j=>(zero.map cval).getD j undef):=fun cells hc=>by
   rw[hc]
   apply List.ext_getElem?
   intro j
   rw[List.getElem?_map,List.getElem?_map]
   by_cases hj:j<zero.length
   ·rw[List.getElem?_range hj,List.getElem?_eq_getElem hj];simp[List.getD,hj]
   ·rw[List.getElem?_eq_none (by omega),List.getElem?_eq_none (by simp;omega)];rfl
  obtain⟨cs',u',cells',e1,e2,e3,e4,e5⟩:=h.fillP hp (oD hzo S) (hl ((zero.map cval).toArray) (by simp))
  refine⟨_,.agg cells',e1,vK hTE hT ha fun cells hc=>?_,?_⟩
  ·have:cells=(zero.map cval).toArray:=by apply Array.ext';simpa using hc
   rw[this,Array.toList_map]
   exact e4
  ·have hsz:cells'.size=cs'.length:=by have:=congrArg List.length e5;simpa using this
   refine bv.slot (ag:=some cs'.length) (v:=.agg cells') ⟨rfl,u',?_,e3⟩
   simp only[mkv]
   congr 1
   apply Array.ext'
   rw[e5]
theorem sr (k:Nat):∀ (n:Nat) (cs:List C) (i:Nat),(chunk k n cs)[i]? = if i<n then some ((cs.drop (i*k)).take k) else none
 | 0,_,i=>by simp[chunk]
 | n+1,cs,0=>by simp[chunk]
 | n+1,cs,i+1=>by
  simp only[chunk,List.getElem?_cons_succ]
  rw[sr k n,List.drop_drop,show k+i*k=(i+1)*k by rw[Nat.add_mul];omega]
  by_cases h:i<n
  ·rw[if_pos h,if_pos (by omega)]
  ·rw[if_neg h,if_neg (by omega)]
theorem m7 (k:Nat):∀ (n:Nat) (cs:List C),(chunk k n cs).length=n
 | 0,_=>rfl
 | n+1,cs=>by simp[chunk,m7 k n]
theorem mL (z:List C):∀ n,(rep z n).length=n*z.length
 | 0=>by simp[rep]
 | n+1=>by simp[rep,mL z n,Nat.add_mul];omega
theorem GR {z:List C} : ∀ {n j:Nat},j<n*z.length→(rep z n)[j]? = z[j % z.length]?
 | 0,j,h=>by simp at h
 | n+1,j,h=>by
  rw[Nat.add_mul]at h
  simp only[rep]
  by_cases hj:j<z.length
  ·rw[List.getElem?_append_left hj,Nat.mod_eq_of_lt hj]
  ·rw[List.getElem?_append_right (by omega),GR (by omega)]
   rw[Nat.mod_eq_sub_mod (show j≥z.length by omega)]
theorem co.els {Y:ab} {cs:List C} {u:Nat→Value} (h:co w S Y cs u) {k n:Nat} (hl:cs.length=n*k):∃ f,Bc w S Y (chunk k n cs) k u f:=by
 obtain⟨f,h1,h2,h3⟩:=h
 have hlen:∀ i,i<n→((cs.drop (i*k)).take k).length=k:=fun i hi=>by
  have:(i+1)*k≤n*k:=Nat.mul_le_mul_right k hi
  rw[Nat.add_mul]at this
  simp;omega
 refine⟨f,fun r hr=>?_,fun q hq=>h2 q (by rw[m7]at hq;omega),fun q q' hq hq'=>h3 q q' (by rw[m7]at hq;omega) (by rw[m7]at hq';omega),fun i j r c hi hj=>?_⟩
 ·obtain⟨i,hi⟩:=List.getElem?_of_mem hr
  rw[sr]at hi
  split at hi
  ·rename_i hin
   simp only[Option.some.injEq]at hi
   subst hi
   exact hlen i hin
  ·cases hi
 ·rw[sr]at hi
  split at hi
  ·rename_i hin
   simp only[Option.some.injEq]at hi
   subst hi
   have hjk:j<k:=by rw[←hlen i hin];exact(List.getElem?_eq_some_iff.1 hj).1
   rw[List.getElem?_take,if_pos hjk,List.getElem?_drop]at hj
   exact h1 _ c hj
  ·cases hi
theorem vc {Y:ab} {cs:List C} {u:Nat→Value} (h:co w S Y cs u) {k n e:Nat} (hl:cs.length=n*k) (hn:0<n) {cells:Array Value} (hc:cells.toList=(List.range cs.length).map u) (hS:∀ b o,S b o→b<w.heap.size) (hY:∀ b o,Y b o→b<w.heap.size) :
  ez (w.alloc (.cells cells e)) S (fun b o=>Y b o∨(w.heap.size≤b∧b<(w.alloc (.cells cells e)).heap.size)) (.s .own (chunk k n cs)) (.slice (some ⟨w.heap.size,0,none⟩) n n):=by
 have hone:∀ j,j<cs.length→(u j).oneCell'=true:=fun j hj=>h.one hj
 obtain⟨f,hE⟩:=h.els hl
 have hE2:=hE.keep (hB (cQ w (.cells cells e)) hS) (hB (cQ w (.cells cells e)) hY)
 have hcell:∀ q,q<n*k→cel (w.alloc (.cells cells e)) w.heap.size q=some (u q):=fun q hq=>by
  rw[gM,←Array.getElem?_toList,hc,List.getElem?_map,List.getElem?_range (by omega)];rfl
 refine hE2.own (by rw[m7]) (Nat.le_refl n) hn (fun q hq=>⟨.inr ⟨Nat.le_refl _,by rw[f0];omega⟩,⟨_,hcell q hq,hone q (by omega)⟩,iO _ _ _ _⟩) hcell (fun b o hb=>⟨.inl hb,fun⟨e1,_⟩=>?_⟩)
 have:=hY b o hb;omega
theorem rS {z:List C} (hz:aF z) (S:ab) (n:Nat):co w S NO (rep z n) (fun j=>(z.map cval).getD (j % z.length) undef):=by
 obtain⟨f,h1,-,-⟩:=oD (w:=w) hz S
 refine⟨fun _=>NO,fun j c hj=>?_,fun _ _ _ _ h=>h,fun _ _ _ _ _ _ _ h=>h.elim⟩
 have hlt:=(List.getElem?_eq_some_iff.1 hj).1
 rw[mL]at hlt
 rw[GR hlt]at hj
 exact(h1 _ c hj).bare (sv hz c (List.mem_of_getElem? hj))
theorem bA.info {t:Nat} {i:TI} (h:bA P t i):∃ q z,P.info? t=some q∧q.zero=some z∧z.cells.toList=i.zero.map cval∧q.size=i.size∧q.bytes=i.bytes:=by
 have:=h.1
 cases hq:P.info? t with
 | none=>rw[hq]at this;cases this
 | some q=>
  rw[hq]at this
  simp only[Option.map_some,Option.some.injEq,Prod.mk.injEq]at this
  cases hz:q.zero with
  | none=>rw[hz]at this;cases this.1
  | some z=>rw[hz]at this;exact⟨q,z,rfl,hz,by simpa using this.1,this.2.1,this.2.2⟩
theorem kn {T:Nat} {K:Nat→TI→Prop} (hTE:∀ t i,TE t=some i→bA P t i) (h:G7 TE T K) :
  ∃ e ie q z,K e ie∧TE e=some ie∧P.underlying T=some (.slice e)∧bA P e ie∧ie.zero.length=ie.size∧0<ie.size∧P.info? e=some q∧q.zero=some z∧z.cells.toList=ie.zero.map cval∧q.size=ie.size∧q.bytes=ie.bytes∧z.cells.size=q.size:=by
 unfold G7 at h
 split at h
 case h_2=>exact h.elim
 rename_i e hT
 split at h
 case h_2=>exact h.elim
 rename_i ie he
 cases hb:(Nat.beq ie.zero.length ie.size&&Nat.ble 1 ie.size) with
 | false=>rw[hb]at h;exact h.elim
 | true=>
  rw[hb]at h
  simp only[Bool.and_eq_true]at hb
  obtain⟨q,z,h1,h2,h3,h4,h5⟩:=(hTE _ _ he).info
  have hl:=Nat.eq_of_beq_eq_true hb.1
  exact⟨e,ie,q,z,h,he,(hTE _ _ hT).2.2,hTE _ _ he,hl,Nat.le_of_ble_eq_true hb.2,h1,h2,h3,h4,h5,by have:=congrArg List.length h3;simp at this;omega⟩
theorem Be {zero:List C} (hz:aF zero):∀ x∈zero.map cval,x.oneCell'=true:=by
 induction zero with
 | nil=>simp
 | cons c cs ih=>
  intro x hx
  rcases List.mem_cons.1 hx with rfl|hx
  ·cases c with
   | v x=>exact hz.1
   | z=>rfl
   | x=>exact hz.elim
   | s=>exact hz.elim
   | m=>exact hz.elim
   | it=>exact hz.elim
  ·exact ih (by cases c with|v x=>exact hz.2|z=>exact hz|x=>exact hz.elim|s o rows=>exact hz.elim|m=>exact hz.elim|it=>exact hz.elim) x hx
theorem tF {T e:Nat} {q:TypeInfo} (hu:P.underlying T=some (.slice e)) (hi:P.info? e=some q):(Instr.buildSlice T 0 #[]).run P w=.ok (.slice (some ⟨w.heap.size,0,none⟩) 0 0) (w.alloc (.cells #[] e)):=by
 simp[Instr.buildSlice,run_underlying hu,sizeOf,typeInfo,hi,newRow,Instr.fill,Array.range_zero']
theorem oq {zero:List C} {z:Value} (hz:z.cells.toList=zero.map cval) (h0:0<zero.length) (m:Nat):((Array.range m).map (z.cells[· % z.cells.size]!)).toList=(List.range m).map (fun j=>(zero.map cval).getD (j % zero.length) undef):=by
 have hs:z.cells.size=zero.length:=by have:=congrArg List.length hz;simpa using this
 rw[Array.toList_map,Array.toList_range]
 refine List.map_congr_left fun j hj=>?_
 have hm:j % z.cells.size<z.cells.size:=Nat.mod_lt _ (by omega)
 rw[getElem!_pos z.cells _ hm,←hz,←hs,List.getD,Array.getElem?_toList,Array.getElem?_eq_getElem hm];rfl
theorem fW {Y:ab} {c:C} {v:Value} (h:ez w S Y c v) {F:Nat→AV} {tv:Nat→Value} : cz w S F tv Y (.hold .one [c]) v:=by
 refine⟨NO,Y,fun _ _ h=>h.elim,fun _ _ h=>h,fun _ _ h=>h.elim,rfl,fun _=>Y,fun j c' hj=>?_,fun _ _ _ _ h=>h,fun j j' hj hj' hne=>?_⟩
 ·cases j with
  | zero=>simp at hj;subst hj;exact h
  | succ j=>simp at hj
 ·simp at hj hj';omega
theorem bj.buildS (h:bj w0 M S0 N S φ F a w) (hTE:∀ t i,TE t=some i→bA P t i) {T n:Nat} {parts:Array (Nat × Operand)} {K:AV→Prop} (hp:u4 TE F T n parts.toList K) :
  ∃ av v w1,K av∧(Instr.buildSlice T n (parts.map fun(i,x)=>(i,a.eval x))).run P w=.ok v w1∧lV w S F a av v w1:=by
 obtain⟨e,ie,q,z,hK,he,hu,ht,hl,hpos,hi,hz,hzc,hsz,hby,hzs⟩:=kn hTE hp
 cases hb:Nat.ble (n*ie.size) 16777216 with
 | false=>rw[hb]at hK;exact hK.elim
 | true=>
  rw[hb]at hK
  have hle:=Nat.le_of_ble_eq_true hb
  simp only[cond_true]at hK
  split at hK
  ·rename_i hparts
   have:parts = #[]:=by apply Array.ext';simpa using hparts
   subst this
   refine⟨_,_,_,hK,by rw[Array.map_empty];exact tF hu hi,cQ _ _,NO,S,fun _ _ h=>h.elim,fun _ _ h=>h,fun _ _ h=>.inl h,fun _ _ h=>h.elim,?_⟩
   exact⟨NO,NO,fun _ _ h=>h,fun _ _ h=>h,fun _ _ _ h=>h,rfl,fun _=>NO,fun j c hj=>(by cases j with|zero=>simp at hj;subst hj;exact .z _ _|succ j=>simp at hj),fun _ _ _ _ h=>h,fun _ _ _ _ _ _ _ h=>h.elim⟩
  ·rename_i n
   rw[Nat.succ_eq_add_one]at hle
   rw[ek]at hK
   obtain⟨cs',u',cells',e1,e2,e3,e4,e5⟩:=h.fillP hK (rS ht.2.1 S _) (oq hzc (by omega) (rep ie.zero (n+1)).length)
   rw[qo]at e1
   have hcl:cs'.length=(n+1)*ie.size:=by rw[e2,mL,hl]
   refine⟨_,_,_,e1,run_buildSlice w T e (n+1) _ cells' q z hu hi hz (by rw[hsz];omega) (by rw[hsz];have:0<(n+1)*ie.size:=Nat.mul_pos (by omega) hpos;omega) ?_,cQ _ _,fun b _=>w.heap.size≤b∧b<(w.alloc (.cells cells' e)).heap.size,S,fun b o hb=>⟨hb.2,hb.1⟩,fun _ _ h=>h,fun _ _ h=>.inl h,fun b o hb hS=>?_,?_⟩
   ·rw[hsz,Array.toList_map]
    rw[mL,hl]at e4
    exact e4
   ·have:=(h.sup b o hS).1;have:=hb.1;omega
   ·have:=(vc (e:=e) e3 hcl (by omega) e5 (fun b o hb=>(h.sup b o hb).1) (fun _ _ h=>h.elim)).mono (F':=fun b o=>w.heap.size≤b∧b<(w.alloc (.cells cells' e)).heap.size) (fun _ _ h=>h) (fun b o hb=>hb.elim (fun h=>h.elim) id)
    exact fW this
  ·exact hK.elim
theorem ez.flat {Y:ab} {o:dE} {rows:List (List C)} {v:Value} (h:ez w S Y (.s o rows) v) {sz:Nat} (hk:∀ r∈rows,r.length=sz∧aW r=true) :
  ∃ b c u,v=.slice b rows.length c∧nL w b (rows.length*sz) ((List.range (rows.length*sz)).map u)∧Bc w S NO rows sz u (fun _=>NO):=by
 have mk:∀ (g off k:Nat) (u:Nat→Value) (f:Nat→ab),(∀ r∈rows,r.length=k)→(∀ q,q<rows.length*k→cel w g (off+q)=some (u q))→(∀ (i j:Nat) (r:List C) (c:C),rows[i]? = some r→r[j]? = some c→ez w S (f (i*k+j)) c (u (i*k+j)))→
   nL w (some ⟨g,off,none⟩) (rows.length*sz) ((List.range (rows.length*sz)).map u)∧Bc w S NO rows sz u (fun _=>NO):=fun g off k u f hkk hc hr=>by
  have hks:rows≠[]→k=sz:=fun hne=>by
   obtain⟨r,hr⟩:=List.exists_mem_of_ne_nil _ hne
   rw[←hkk r hr,(hk r hr).1]
  refine⟨⟨by simp,fun h=>(by cases h),fun ad j y had hj=>?_⟩,fun r hr=>(hk r hr).1,fun _ _ _ _ h=>h.elim,fun _ _ _ _ _ _ _ h=>h.elim,fun i j r c hi hj=>?_⟩
  ·cases had
   rw[List.getElem?_map]at hj
   have hjl:j<rows.length*sz:=by
    rcases Nat.lt_or_ge j (rows.length*sz) with h|h
    ·exact h
    ·rw[List.getElem?_eq_none (by simpa using h)]at hj;cases hj
   rw[List.getElem?_range hjl]at hj
   simp only[Option.map_some,Option.some.injEq]at hj
   subst hj
   rw[ja]
   refine hc j ?_
   rw[hks (fun e=>by rw[e]at hjl;simp at hjl)];exact hjl
  ·have hm:=List.mem_of_getElem? hi
   have:=hks (fun e=>by rw[e]at hm;cases hm)
   subst this
   exact(hr i j r c hi hj).bare (qe (hk r hm).2 j c hj)
 generalize hcc:C.s o rows=c0 at h
 cases h with
 | v=>cases hcc
 | x=>cases hcc
 | z=>cases hcc
 | m=>cases hcc
 | it=>cases hcc
 | nil F o' a ho=>
  cases hcc
  exact⟨a,0,fun _=>undef,rfl,⟨by simp,fun _=>by simp,fun ad j u _ hj=>by simp at hj⟩,fun r hr=>(by cases hr),fun _ _ _ _ h=>h.elim,fun _ _ _ _ _ _ _ h=>h.elim,fun i j r c hi=>(by simp at hi)⟩
 | imm F g off k n cap rows' u hn hkk hcap hS hc=>
  cases hcc
  subst hn
  exact⟨_,_,u,rfl,mk g off k u (fun _=>NO) hkk (fun q hq=>(hS q hq).2) hc⟩
 | own F o' g k n cap rows' u f ho hn hkk hcap hpos hF hu hf hd hc=>
  cases hcc
  subst hn
  exact⟨_,_,u,rfl,mk g 0 k u f hkk (fun q hq=>by rw[Nat.zero_add];exact hu q hq) hc⟩
theorem bv.rep1 {Y:ab} {c:C} {v:Value} (h:bv w S Y none [c] v):ez w S Y c v:=by
 obtain⟨-,u,rfl,f,h1,h2,-⟩:=h
 exact(h1 0 c rfl).mono (fun _ _ h=>h) (h2 0 (by simp))
theorem vV {Y:ab} {v:Value} (h:ez w S Y .z v):∃ b,v=.slice b 0 0:=by
 generalize hc:C.z=c at h
 cases h with
 | z=>exact⟨_,rfl⟩
 | _=>cases hc
theorem lV.same {av:AV} {v:Value} (hs:cz w S F (tvs a) NO av v):lV w S F a av v w:=
 ⟨bw.refl _ _,NO,S,fun _ _ h=>h.elim,fun _ _ h=>h,fun _ _ h=>.inl h,fun _ _ h=>h.elim,hs⟩
theorem bj.appP (h:bj w0 M S0 N S φ F a w) (hTE:∀ t i,TE t=some i→bA P t i) {T ty:Nat} {x y:Operand} {K:AV→Prop} (hp:Gs TE F T x y K) :
  ∃ av v w1,K av∧(Builtin.append_ #[T,T] ty #[a.eval x,a.eval y]).run P w=.ok v w1∧lV w S F a av v w1:=by
 obtain⟨e,ie,q,z,hK,he,hu,ht,hl,hpos,hi,hz,hzc,hsz,hby,hzs⟩:=kn hTE hp
 obtain⟨ag,cs,Y,hK,hv,-⟩:=h.val (h.ev x) hK
 match ag,cs,hK with
 | none,[.z],hK=>
  obtain⟨b,hb⟩:=vV hv.rep1
  obtain⟨ag2,cs2,Y2,hK,hv2,-⟩:=h.val (h.ev y) hK
  rw[hb]
  match ag2,cs2,hK with
  | none,[.s o rows],hK=>
   obtain⟨h1,h2,h3,hK⟩:=hK.out
   obtain⟨b2,c2,u2,hv2,hR,hE⟩:=hv2.rep1.flat h1
   rw[hv2]
   have hz1:∀ x∈z.cells.toList,x.oneCell'=true:=by rw[hzc];exact Be ht.2.1
   rw[←hsz]at hR hE
   obtain⟨v',w',hrun,hkk,hrep⟩:=vp (P:=P) (ty:=ty) (S:=S) hu hi hz hzs hz1 (F:=NO) (rows:=[]) (xr:=rows) (.nil _ _ b trivial) (by simp) hE (c:=c2) hR (fun _ _ h=>h.elim) (fun _ _ h=>h.elim) (fun _ _ h=>h.elim) (fun _ _ h=>h.elim) (fun b o hb=>(h.sup b o hb).1) (by simpa using h2) (by rw[hby];simpa using h3)
   refine⟨_,v',w',hK,hrun,hkk,fun b _=>w.heap.size≤b∧b<w'.heap.size,S,fun b o hb=>⟨hb.2,hb.1⟩,fun _ _ h=>h,fun _ _ h=>.inl h,fun b o hb hS=>by have:=(h.sup b o hS).1;have:=hb.1;omega,fW (hrep.mono (fun _ _ h=>h) (fun b o hb=>hb.elim (fun h=>h.elim) (fun hb=>hb.elim (fun h=>h.elim) id)))⟩
  | none,[.z],hK=>
   obtain⟨b2,hb2⟩:=vV hv2.rep1
   rw[hb2]
   exact⟨_,_,w,hK,tN hu hi (Nat.le_refl 0),lV.same (fW (Y:=NO) (.z _ _))⟩
end
end Go.Proofs.YtplcalfnngkffaaGreat.Ab
/- makeSlice, slice expressions over what nobody writes, field, convert, min and max on abstract frames. No condition. -/
namespace Go.Proofs.YtplcalfnngkffaaGreat.Ab
open Go.RowKit
inductive Mk (l c:Int) (by_:Nat) (z:List C) (K:List (List C)→Prop):Prop
 |mk_ (h:∃ n:Nat,l=(n:Nat)∧c=(n:Nat)∧n≤140737488355328∧n*by_≤140737488355328∧∃ rows,rows=List.replicate n z∧K rows)
theorem Mk.mk {l c:Int} {by_:Nat} {z:List C} {K:List (List C)→Prop} {rows:List (List C)} (n:Nat) (h1:l=(n:Nat)) (h2:c=(n:Nat)) (h3:n≤140737488355328) (h4:n*by_≤140737488355328) (h5:rows=List.replicate n z) (hK:K rows):Mk l c by_ z K:=by refine .mk_ ?_;exact⟨n,h1,h2,h3,h4,rows,h5,hK⟩
theorem Mk.out {l c:Int} {by_:Nat} {z:List C} {K:List (List C)→Prop} (h:Mk l c by_ z K):∃ n:Nat,l=(n:Nat)∧c=(n:Nat)∧n≤140737488355328∧n*by_≤140737488355328∧K (List.replicate n z):=by
 obtain⟨h⟩:=h;obtain⟨n,h1,h2,h3,h4,rows,rfl,h5⟩:=h;exact⟨n,h1,h2,h3,h4,h5⟩
def BW (F:Nat→AV) (x:Operand) (K:Int→Prop):Prop:=EE F x fun v=>match v with|.int _ n=>K n|_=>False
def G2 (TE:Nat→Option TI) (F:Nat→AV) (T:Nat) (x y:Operand) (K:AV→Prop):Prop:=
 G7 TE T fun _ ie=>BW F x fun l=>BW F y fun c=>Mk l c ie.bytes ie.zero fun rows=>K (.hold .one [.s .own rows])
inductive Sl (rows:List (List C)) (sz:Nat) (l h:Option Int) (K:List (List C)→Prop):Prop
 |mk_ (h:∃ x y:Nat,(l=none∧x=0∨l=some ((x:Nat):Int))∧(h=none∧y=rows.length∨h=some ((y:Nat):Int))∧x≤y∧y≤rows.length∧(∀ r∈rows,r.length=sz)∧∃ rows',rows'=(rows.take y).drop x∧K rows')
theorem Sl.pre {rows rows':List (List C)} {sz:Nat} {h:Int} {K:List (List C)→Prop} (y:Nat) (h1:h=(y:Nat)) (h2:y≤rows.length) (h3:∀ r∈rows,r.length=sz) (h4:rows'=rows.take y) (hK:K rows'):Sl rows sz none (some h) K:=by
 refine .mk_ ?_;exact⟨0,y,.inl ⟨rfl,rfl⟩,.inr (by rw[h1]),Nat.zero_le _,h2,h3,rows',by rw[h4];rfl,hK⟩
theorem Sl.suf {rows rows':List (List C)} {sz:Nat} {l:Int} {K:List (List C)→Prop} (x:Nat) (h1:l=(x:Nat)) (h2:x≤rows.length) (h3:∀ r∈rows,r.length=sz) (h4:rows'=rows.drop x) (hK:K rows'):Sl rows sz (some l) none K:=by
 refine .mk_ ?_;exact⟨x,rows.length,.inr (by rw[h1]),.inl ⟨rfl,rfl⟩,h2,Nat.le_refl _,h3,rows',by rw[h4,List.take_length],hK⟩
theorem Sl.mid {rows rows':List (List C)} {sz:Nat} {l h:Int} {K:List (List C)→Prop} (x y:Nat) (h0:l=(x:Nat)) (h1:h=(y:Nat)) (h2:x≤y) (h3:y≤rows.length) (h4:∀ r∈rows,r.length=sz) (h5:rows'=(rows.take y).drop x) (hK:K rows'):Sl rows sz (some l) (some h) K:=by
 refine .mk_ ?_;exact⟨x,y,.inr (by rw[h0]),.inr (by rw[h1]),h2,h3,h4,rows',h5,hK⟩
theorem Sl.out {rows:List (List C)} {sz:Nat} {l h:Option Int} {K:List (List C)→Prop} (hs:Sl rows sz l h K):∃ x y:Nat,(l=none∧x=0∨l=some ((x:Nat):Int))∧(h=none∧y=rows.length∨h=some ((y:Nat):Int))∧x≤y∧y≤rows.length∧(∀ r∈rows,r.length=sz)∧K ((rows.take y).drop x):=by
 obtain⟨hs⟩:=hs;obtain⟨x,y,h1,h2,h3,h4,h5,rows',rfl,h6⟩:=hs;exact⟨x,y,h1,h2,h3,h4,h5,h6⟩
def Lg (F:Nat→AV) (x:Option Operand) (K:Option Int→Prop):Prop:=
 match x with
 | none=>K none
 | some x=>BW F x fun n=>K (some n)
def AE (TE:Nat→Option TI) (F:Nat→AV) (T:Nat) (x:Operand) (lo hi:Option Operand) (K:AV→Prop):Prop:=
 G7 TE T fun _ ie=>Lg F lo fun l=>Lg F hi fun h=>iA F (nj F x) fun ag cs=>match ag,cs with
  | none,[.s .imm rows]=>Sl rows ie.size l h fun rows'=>K (.hold .one [.s .imm rows'])
  | none,[.z]=>Sl [] ie.size l h fun _=>K (.hold .one [.z])
  | _,_=>False
def M6:Operand→Bool
 | .const (.int .i64 0)=>true
 | _=>false
def LP (TE:Nat→Option TI) (F:Nat→AV) (T:Nat) (x hi mx:Operand) (K:AV→Prop):Prop:=
 G7 TE T fun _ _=>bif M6 hi&&M6 mx then iA F (nj F x) fun ag cs=>match ag,cs with
  | none,[.s _ _]=>K (.hold .one [.z])
  | none,[.z]=>K (.hold .one [.z])
  | _,_=>False
 else False
def pT (TE:Nat→Option TI) (F:Nat→AV) (T:Nat) (x:Operand) (f:Nat) (K:AV→Prop):Prop:=
 match TE T with
 | some ⟨_,_,_,.st flds⟩=>(match flds[f]? with
   | some p=>(match TE p.2 with
     | some i=>iA F (nj F x) fun ag cs=>bif ag.isSome&&(i.agg || Nat.beq i.size 1)&&Nat.ble (p.1+i.size) cs.length then(bif aW (bp cs p.1 i.size) then fc (bp cs p.1 i.size) fun cs'=>K (.hold (jc (pf i)) cs') else False) else False
     | none=>False)
   | none=>False)
 | _=>False
def wb (TE:Nat→Option TI) (F:Nat→AV) (T1 T2:Nat) (x:Operand) (K:AV→Prop):Prop:=
 match TE T1,TE T2 with
 | some _,some ⟨_,_,_,.sc (.int k)⟩=>BW F x fun n=>Wr k n fun z=>K (.hold .one [.v (.int k z)])
 | _,_=>False
def NI (mx:Bool) (F:Nat→AV) (x y:Operand) (K:AV→Prop):Prop:=
 EE F x fun v=>match v with
  | .int k n=>BW F y fun m=>Ev (if mx then(if m > n then m else n) else(if m<n then m else n)) fun z=>K (.hold .one [.v (.int k z)])
  | _=>False
section
variable {P:Program} {w0 w w1:World} {M S0 S:ab} {N:fF} {φ:Nat→ab} {F:Nat→AV} {a:Act} {TE:Nat→Option TI}
theorem bj.int (h:bj w0 M S0 N S φ F a w) {x:Operand} {K:Int→Prop} (hp:BW F x K):∃ k n,a.eval x=.int k n∧K n:=by
 obtain⟨hc,-⟩:=h.scalar hp
 cases hv:a.eval x<;>rw[hv]at hc<;>try exact hc.elim
 exact⟨_,_,rfl,hc⟩
theorem zc (z:List C):∀ n,chunk z.length n (rep z n)=List.replicate n z
 | 0=>rfl
 | n+1=>by
  simp only[chunk,rep,List.replicate_succ]
  rw[List.take_left,List.drop_left,zc z n]
theorem bj.make (h:bj w0 M S0 N S φ F a w) (hTE:∀ t i,TE t=some i→bA P t i) {T:Nat} {x y:Operand} {K:AV→Prop} (hp:G2 TE F T x y K) :
  ∃ av v w1,K av∧(Instr.makeSlice T (a.eval x) (a.eval y)).run P w=.ok v w1∧lV w S F a av v w1:=by
 obtain⟨e,ie,q,z,hK,he,hu,ht,hl,hpos,hi,hz,hzc,hsz,hby,hzs⟩:=kn hTE hp
 obtain⟨k1,l,hx,hK⟩:=h.int hK
 obtain⟨k2,c,hy,hK⟩:=h.int hK
 obtain⟨n,rfl,rfl,h1,h2,hK⟩:=hK.out
 have hbn:(q.bytes:Int)*(n:Int)≤281474976710656:=by
  have:((q.bytes*n:Nat):Int)≤281474976710656:=by rw[hby,Nat.mul_comm];omega
  rwa [Int.natCast_mul]at this
 have hrun:=run_make (P:=P) w T e q z hu hi hz k1 k2 (n:Nat) (n:Nat) (by omega) (Int.le_refl _) hbn (by omega)
 simp only[Int.toNat_natCast]at hrun
 rw[hx,hy]
 refine⟨_,_,_,hK,hrun,cQ _ _,fun b _=>w.heap.size≤b∧b<(w.alloc (.cells (madeCells z.cells (n*q.size)) e)).heap.size,S,fun b o hb=>⟨hb.2,hb.1⟩,fun _ _ h=>h,fun _ _ h=>.inl h,fun b o hb hS=>by have:=(h.sup b o hS).1;have:=hb.1;omega,fW ?_⟩
 rcases Nat.eq_zero_or_pos n with h0|h0
 ·subst h0;exact .nil _ _ _ trivial
 ·have hcl:(rep ie.zero n).length=n*ie.size:=by rw[mL,hl]
  have:=(vc (e:=e) (cells:=madeCells z.cells (n*q.size)) (rS (w:=w) ht.2.1 S n) hcl h0 (by
    have:=oq hzc (by omega) (n*q.size)
    rw[hcl,←hsz];exact this) (fun b o hb=>(h.sup b o hb).1) (fun _ _ h=>h.elim)).mono (F':=fun b o=>w.heap.size≤b∧b<(w.alloc (.cells (madeCells z.cells (n*q.size)) e)).heap.size) (fun _ _ h=>h) (fun b o hb=>hb.elim (fun h=>h.elim) id)
  rw[←hl,zc]at this
  exact this
theorem vr (h:bj w0 M S0 N S φ F a w) {x:Option Operand} {K:Option Int→Prop} (hp:Lg F x K):(x=none∧K none)∨∃ y k n,x=some y∧a.eval y=.int k n∧K (some n):=by
 cases x with
 | none=>exact .inl ⟨rfl,hp⟩
 | some y=>obtain⟨k,n,h1,h2⟩:=h.int hp;exact .inr ⟨y,k,n,rfl,h1,h2⟩
theorem sZ {T e sz len cap x y:Nat} {ad:Option Addr} {lo hi:Option Operand} {l r:Option Int} (hu:P.underlying T=some (.slice e)) (hs:(P.info? e).map (·.size)=some sz) (hlo:(lo=none∧l=none)∨∃ o k n,lo=some o∧a.eval o=.int k n∧l=some n)
  (hhi:(hi=none∧r=none)∨∃ o k n,hi=some o∧a.eval o=.int k n∧r=some n) (hx:l=none∧x=0∨l=some ((x:Nat):Int)) (hy:r=none∧y=len∨r=some ((y:Nat):Int)) (hxy:x≤y) (hyl:y≤len) (hlc:len≤cap) :
  (Instr.sliceAt T (.slice ad len cap) (lo.map a.eval) (hi.map a.eval) none).run P w=.ok (sliced ad x y cap sz) w:=by
 have hel:P.elem T=e:=by simp[Program.elem,hu]
 have hu':P.underlying T=some (.slice (P.elem T)):=by rw[hel];exact hu
 have hso:(sizeOf (P.elem T)).run P w=.ok sz w:=by rw[hel];exact jf hs
 rw[run_sliceAt_slice w T _ _ _ _ hu']
 rcases hlo with⟨rfl,rfl⟩|⟨o1,k1,n1,rfl,h1,rfl⟩
 ·have hx0:x=0:=by rcases hx with⟨-,h⟩|h;exact h;cases h
  subst hx0
  rcases hhi with⟨rfl,rfl⟩|⟨o2,k2,n2,rfl,h2,rfl⟩
  ·have:y=len:=by rcases hy with⟨-,h⟩|h;exact h;cases h
   subst this
   have:=run_slice_all (P:=P) w T ad y cap hu'
   simp only[Option.map_none]
   rw[this,hso];rfl
  ·have:n2=(y:Nat):=by rcases hy with⟨h,-⟩|h;cases h;exact Option.some.inj h
   subst this
   have:=run_slice_h (P:=P) w T ad len cap hu' k2 (y:Nat) (by omega) (by omega)
   simp only[Option.map_none,Option.map_some,h2]
   rw[this,hso];rfl
 ·have:n1=(x:Nat):=by rcases hx with⟨h,-⟩|h;cases h;exact Option.some.inj h
  subst this
  rcases hhi with⟨rfl,rfl⟩|⟨o2,k2,n2,rfl,h2,rfl⟩
  ·have:y=len:=by rcases hy with⟨-,h⟩|h;exact h;cases h
   subst this
   have:=run_slice_l (P:=P) w T ad y cap hu' k1 (x:Nat) (by omega) (by omega)
   simp only[Option.map_none,Option.map_some,h1]
   rw[this,hso];rfl
  ·have:n2=(y:Nat):=by rcases hy with⟨h,-⟩|h;cases h;exact Option.some.inj h
   subst this
   have:=run_slice_lh (P:=P) w T ad len cap hu' k1 k2 (x:Nat) (y:Nat) (by omega) (by omega) (by omega)
   simp only[Option.map_some,h1,h2]
   rw[this,hso];rfl
theorem JU {o:Operand} (h:M6 o=true):o=.const (.int .i64 0):=by
 unfold M6 at h
 split at h
 ·rfl
 ·cases h
theorem vg {T e sz len cap:Nat} {ad:Option Addr} (hu:P.underlying T=some (.slice e)) (hs:(P.info? e).map (·.size)=some sz) :
  (Instr.sliceAt T (.slice ad len cap) none (some (.int .i64 0)) (some (.int .i64 0))).run P w=.ok (.slice ad 0 0) w:=by
 have hel:P.elem T=e:=by simp[Program.elem,hu]
 have hu':P.underlying T=some (.slice (P.elem T)):=by rw[hel];exact hu
 have hso:(sizeOf (P.elem T)).run P w=.ok sz w:=by rw[hel];exact jf hs
 rw[run_sliceAt_slice w T _ _ _ _ hu']
 unfold Instr.slice
 rw[Sem.run_bind,run_underlying hu']
 simp[Instr.sliceBounds,Instr.sliceBound,asIntOf,hso]
theorem bj.slice0 (h:bj w0 M S0 N S φ F a w) (hTE:∀ t i,TE t=some i→bA P t i) {T:Nat} {x hi mx:Operand} {K:AV→Prop} (hp:LP TE F T x hi mx K) :
  ∃ v,K (.hold .one [.z])∧(Instr.sliceAt T (a.eval x) none (some (a.eval hi)) (some (a.eval mx))).run P w=.ok v w∧cz w S F (tvs a) NO (.hold .one [.z]) v:=by
 obtain⟨e,ie,q,z,hK,he,hu,ht,-⟩:=kn hTE hp
 cases hb:M6 hi&&M6 mx with
 | false=>rw[hb]at hK;exact hK.elim
 | true=>
  rw[hb]at hK
  rw[Bool.and_eq_true]at hb
  have e1:=JU hb.1
  have e2:=JU hb.2
  subst e1 e2
  obtain⟨ag,cs,Y,hK,⟨hl,u,hv,f,h1,-⟩,-⟩:=h.val (h.ev x) hK
  match ag,cs,hK with
  | none,[.s o rows],hK=>
   obtain⟨b,cap,hs⟩:=(h1 0 _ rfl).slice
   have hx:a.eval x=.slice b rows.length cap:=hv.trans hs
   rw[hx]
   exact⟨_,hK,vg hu ht.size,fW (.z _ b)⟩
  | none,[.z],hK=>
   have hr:=h1 0 _ rfl
   have:∃ b,u 0=.slice b 0 0:=by
    generalize u 0=y at hr
    cases hr;exact⟨_,rfl⟩
   obtain⟨b,hb⟩:=this
   have hx:a.eval x=.slice b 0 0:=hv.trans hb
   rw[hx]
   exact⟨_,hK,vg hu ht.size,fW (.z _ b)⟩
theorem bj.slice (h:bj w0 M S0 N S φ F a w) (hTE:∀ t i,TE t=some i→bA P t i) {T:Nat} {x:Operand} {lo hi:Option Operand} {K:AV→Prop} (hp:AE TE F T x lo hi K) :
  ∃ av v,K av∧(Instr.sliceAt T (a.eval x) (lo.map a.eval) (hi.map a.eval) none).run P w=.ok v w∧cz w S F (tvs a) NO av v:=by
 obtain⟨e,ie,q,z,hK,he,hu,ht,hl,hpos,hi',hz,hzc,hsz,hby,hzs⟩:=kn hTE hp
 have key:∀ l r,(iA F (nj F x) fun ag cs=>match ag,cs with
     | none,[.s .imm rows]=>Sl rows ie.size l r fun rows'=>K (.hold .one [.s .imm rows'])
     | none,[.z]=>Sl [] ie.size l r fun _=>K (.hold .one [.z])
     | _,_=>False)→((lo=none∧l=none)∨∃ o k n,lo=some o∧a.eval o=.int k n∧l=some n)→((hi=none∧r=none)∨∃ o k n,hi=some o∧a.eval o=.int k n∧r=some n)→
   ∃ av v,K av∧(Instr.sliceAt T (a.eval x) (lo.map a.eval) (hi.map a.eval) none).run P w=.ok v w∧cz w S F (tvs a) NO av v:=by
  intro l r hK hlo hhi
  obtain⟨ag,cs,Y,hK,hv,-⟩:=h.val (h.ev x) hK
  match ag,cs,hK with
  | none,[.s .imm rows],hK=>
   obtain⟨m,n,h1,h2,h3,h4,h5,hK⟩:=hK.out
   have hr:=hv.rep1
   generalize hcc:C.s .imm rows=c0 at hr
   generalize a.eval x=vx at hr
   cases hr with
   | v=>cases hcc
   | x=>cases hcc
   | z=>cases hcc
   | m=>cases hcc
   | it=>cases hcc
   | own F o' g k n cap rows' u f ho=>cases hcc;exact ho.elim
   | nil F o' ad ho=>
    cases hcc
    have hn0:n=0:=by simp at h4;omega
    subst hn0
    have hm0:m=0:=by omega
    subst hm0
    have:=sZ (w:=w) (a:=a) (P:=P) (ad:=ad) (cap:=0) (len:=0) hu ht.size hlo hhi h1 (by simpa using h2) h3 (Nat.le_refl 0) (Nat.le_refl 0)
    exact⟨_,_,hK,this,fW (.nil _ .imm _ trivial)⟩
   | imm F g off k n' cap rows' u hn hkk hcap hS hc=>
    cases hcc
    subst hn
    have:=sZ (w:=w) (a:=a) (P:=P) (ad:=some ⟨g,off,none⟩) (cap:=cap) (len:=rows.length) hu ht.size hlo hhi h1 h2 h3 h4 hcap
    refine⟨_,_,hK,this,fW ?_⟩
    unfold sliced
    by_cases he:cap=m
    ·rw[if_pos he]
     have hnm:n=m:=by omega
     subst hnm
     rw[show cap - n=0 by omega,Nat.sub_self]
     rw[show(rows.take n).drop n=[] by simp]
     exact .nil _ _ _ trivial
    ·rw[if_neg he]
     simp only[Option.map_some,ja]
     have hlen:((rows.take n).drop m).length=n - m:=by simp;omega
     have hget:∀ (i:Nat) (r:List C),((rows.take n).drop m)[i]? = some r→rows[m+i]? = some r:=fun i r hi=>by
      rw[List.getElem?_drop,List.getElem?_take]at hi
      split at hi
      ·exact hi
      ·cases hi
     have hks:rows≠[]→k=ie.size:=fun hne=>by
      obtain⟨r,hr⟩:=List.exists_mem_of_ne_nil _ hne
      rw[←hkk r hr,h5 r hr]
     refine .imm _ g (off+m*ie.size) ie.size (n - m) (cap - m) _ (fun q=>u (m*ie.size+q)) hlen (fun r hr=>?_) (by omega) (fun q hq=>?_) (fun i j r c hi hj=>?_)
     ·obtain⟨i,hi⟩:=List.getElem?_of_mem hr
      exact h5 r (List.mem_of_getElem? (hget i r hi))
     ·have hne:rows≠[]:=fun e=>by subst e;simp at h4;subst h4;simp at hq
      have hk2:=hks hne
      subst hk2
      rw[Nat.add_assoc]
      refine hS _ ?_
      have:(n - m)*ie.size+m*ie.size≤rows.length*ie.size:=by rw[←Nat.add_mul];exact Nat.mul_le_mul_right ie.size (by omega)
      omega
     ·have hi':=hget i r hi
      have hne:rows≠[]:=fun e=>by subst e;simp at hi'
      have hk2:=hks hne
      subst hk2
      have:=hc _ j r c hi' hj
      rw[Nat.add_mul,Nat.add_assoc]at this
      exact this
  | none,[.z],hK=>
   obtain⟨m,n,h1,h2,h3,h4,h5,hK⟩:=hK.out
   obtain⟨b,hb⟩:=vV hv.rep1
   have hn0:n=0:=by simp at h4;omega
   subst hn0
   have hm0:m=0:=by omega
   subst hm0
   have:=sZ (w:=w) (a:=a) (P:=P) (ad:=b) (cap:=0) (len:=0) hu ht.size hlo hhi h1 (by simpa using h2) h3 (Nat.le_refl 0) (Nat.le_refl 0)
   rw[hb]
   exact⟨_,_,hK,this,fW (.z _ _)⟩
 rcases vr h hK with⟨e1,hK⟩|⟨o1,k1,n1,e1,e2,hK⟩
 ·rcases vr h hK with⟨e3,hK⟩|⟨o2,k2,n2,e3,e4,hK⟩
  ·exact key _ _ hK (.inl ⟨e1,rfl⟩) (.inl ⟨e3,rfl⟩)
  ·exact key _ _ hK (.inl ⟨e1,rfl⟩) (.inr ⟨_,_,_,e3,e4,rfl⟩)
 ·rcases vr h hK with⟨e3,hK⟩|⟨o2,k2,n2,e3,e4,hK⟩
  ·exact key _ _ hK (.inr ⟨_,_,_,e1,e2,rfl⟩) (.inl ⟨e3,rfl⟩)
  ·exact key _ _ hK (.inr ⟨_,_,_,e1,e2,rfl⟩) (.inr ⟨_,_,_,e3,e4,rfl⟩)
theorem K6 {T:Nat} {i:TI} (ht:bA P T i) (ha:(i.agg || Nat.beq i.size 1)=true) {cells:Array Value} {off:Nat} {u:Nat→Value} (hc:∀ d,d<i.size→cells[off+d]? = some (u d)) :
  (part T cells off).run P w=.ok (mkv (pf i) u) w:=by
 have hA:=ht.isAgg (w:=w)
 unfold part pf
 cases hagg:i.agg with
 | true=>
  rw[hagg]at hA
  have he:cells.extract off (off+i.size)=((List.range i.size).map u).toArray:=by
   apply Array.ext'
   apply List.ext_getElem?
   intro j
   by_cases hj:j<i.size
   ·simp[hj,hc j hj]
   ·simp[hj];omega
  simp[hA,jf ht.size,mkv,he]
 | false=>
  rw[hagg]at hA ha
  have h1:i.size=1:=by simpa using ha
  have:=hc 0 (by omega)
  simp only[Nat.add_zero]at this
  simp[hA,this,mkv]
theorem bj.field (h:bj w0 M S0 N S φ F a w) (hTE:∀ t i,TE t=some i→bA P t i) {T f:Nat} {x:Operand} {K:AV→Prop} (hp:pT TE F T x f K) :
  ∃ av v,K av∧(Instr.field T (a.eval x) f).run P w=.ok v w∧cz w S F (tvs a) NO av v:=by
 unfold pT at hp
 split at hp
 case h_2=>exact hp.elim
 rename_i flds hT
 split at hp
 case h_2=>exact hp.elim
 rename_i p hfl
 split at hp
 case h_2=>exact hp.elim
 rename_i i hi
 obtain⟨ag,cs,Y,hK,hv,-⟩:=h.val (h.ev x) hp
 cases hb:(ag.isSome&&(i.agg || Nat.beq i.size 1)&&Nat.ble (p.1+i.size) cs.length) with
 | false=>rw[hb]at hK;exact hK.elim
 | true=>
  rw[hb]at hK
  simp only[cond_true]at hK
  simp only[Bool.and_eq_true]at hb
  obtain⟨⟨hb1,hb2⟩,hb3⟩:=hb
  have hle:=Nat.le_of_ble_eq_true hb3
  cases hn:aW (bp cs p.1 i.size) with
  | false=>rw[hn]at hK;exact hK.elim
  | true=>
   rw[hn]at hK
   simp only[cond_true,ek]at hK
   obtain⟨fs,hu,hfs⟩:=(hTE _ _ hT).2.2
   have hti:=hTE _ _ hi
   cases ag with
   | none=>cases hb1
   | some m=>
    obtain⟨hl,u,hvx,hr⟩:=hv
    simp only[Option.getD_some]at hl
    subst hl
    have hval:bv w S Y (pf i) (bp cs p.1 i.size) (mkv (pf i) fun d=>u (p.1+d)):=⟨by rw[nO hb2];simp[bp];omega,_,rfl,hr.part p.1 _⟩
    refine⟨_,_,hK,?_,(hval.bare hn).slot⟩
    obtain⟨fd,hget,hfd⟩ : ∃ fd,fs[f]? = some fd∧(fd.offset,fd.type)=p:=by
     rw[←hfs,List.getElem?_map,Array.getElem?_toList]at hfl
     cases hf:fs[f]? with
     | none=>rw[hf]at hfl;cases hfl
     | some fd=>rw[hf]at hfl;simp only[Option.map_some,Option.some.injEq]at hfl;exact⟨fd,rfl,hfl⟩
    subst hfd
    rw[hvx]
    simp only[Instr.field,Sem.run_bind,run_underlying hu,Result.andThen_ok,hget,mkv,asAgg,Sem.run_pure]
    exact K6 hti hb2 (fun d hd=>by simp[show fd.offset+d<cs.length by simp at hle;omega])
theorem bj.conv (h:bj w0 M S0 N S φ F a w) (hTE:∀ t i,TE t=some i→bA P t i) {T1 T2:Nat} {x:Operand} {K:AV→Prop} (hp:wb TE F T1 T2 x K) :
  ∃ v,K (.hold .one [.v v])∧v.oneCell'=true∧(Go.convert T1 T2 (a.eval x)).run P w=.ok v w:=by
 unfold wb at hp
 split at hp
 ·rename_i i1 _ _ _ k h1 h2
  obtain⟨k1,n,hx,hK⟩:=h.int hp
  obtain⟨z,rfl,hK⟩:=hK.out
  have hu2:=(hTE _ _ h2).2.2.1
  obtain⟨d,hu1⟩ : ∃ d,P.underlying T1=some d:=by
   have:=(hTE _ _ h1).2.2
   cases hk:i1.kind with
   | st flds=>rw[hk]at this;obtain⟨fs,hu,-⟩:=this;exact⟨_,hu⟩
   | sl e=>rw[hk]at this;exact⟨_,this⟩
   | sc d=>rw[hk]at this;exact⟨_,this.1⟩
   | mp k e z=>rw[hk]at this;exact⟨_,this.1⟩
  refine⟨_,hK,rfl,?_⟩
  rw[hx]
  simp[Go.convert,run_underlying hu1,run_underlying hu2,Conv.intToInt]
 ·exact hp.elim
theorem bj.mm (h:bj w0 M S0 N S φ F a w) {mx:Bool} {x y:Operand} {ts:Array TypeId} {ty:Nat} {K:AV→Prop} (hp:NI mx F x y K) :
  ∃ v,K (.hold .one [.v v])∧v.oneCell'=true∧(if mx then(Builtin.max_ ts ty #[a.eval x,a.eval y]) else(Builtin.min_ ts ty #[a.eval x,a.eval y])).run P w=.ok v w:=by
 obtain⟨hc,-⟩:=h.scalar hp
 cases hv:a.eval x<;>rw[hv]at hc<;>try exact hc.elim
 obtain⟨k,m,hy,hK⟩:=h.int hc
 obtain⟨z,rfl,hK⟩:=hK.out
 rw[hy]
 cases mx with
 | true=>exact⟨_,hK,rfl,by simp[run_max_int2]⟩
 | false=>exact⟨_,hK,rfl,by simp[run_min_int2]⟩
end
end Go.Proofs.YtplcalfnngkffaaGreat.Ab
/- Maps keyed by numbers: made, looked up, written, on abstract frames. No condition. -/
namespace Go.Proofs.YtplcalfnngkffaaGreat.Ab
open Go.RowKit
def mlook:List (Int × Value)→Int→Value→Value
 | [],_,d=>d
 | p::es,k,d=>if p.1=k then p.2 else mlook es k d
def mput:List (Int × Value)→Int→Value→List (Int × Value)
 | [],k,v=>[(k,v)]
 | p::es,k,v=>if p.1=k then(k,v)::es else p::mput es k v
inductive Ml (es:List (Int × Value)) (k:Int) (d:Value) (K:Value→Prop):Prop
 |mk_ (h:∃ v,mlook es k d=v∧K v)
theorem Ml.mk {es:List (Int × Value)} {k:Int} {d v:Value} {K:Value→Prop} (h:mlook es k d=v) (hK:K v):Ml es k d K:=.mk_ ⟨v,h,hK⟩
theorem Ml.out {es:List (Int × Value)} {k:Int} {d:Value} {K:Value→Prop} (h:Ml es k d K):K (mlook es k d):=by
 obtain⟨v,rfl,h⟩:=h;exact h
inductive Mu (es:List (Int × Value)) (k:Int) (v:Value) (K:List (Int × Value)→Prop):Prop
 |mk_ (h:∃ es',es'=mput es k v∧K es')
theorem Mu.mk {es es':List (Int × Value)} {k:Int} {v:Value} {K:List (Int × Value)→Prop} (h:es'=mput es k v) (hK:K es'):Mu es k v K:=.mk_ ⟨es',h,hK⟩
theorem Mu.out {es:List (Int × Value)} {k:Int} {v:Value} {K:List (Int × Value)→Prop} (h:Mu es k v K):K (mput es k v):=by
 obtain⟨v,rfl,h⟩:=h;exact h
def qX (TE:Nat→Option TI) (T:Nat) (r:Option Operand) (K:AV→Prop):Prop:=
 match TE T,r with
 | some ⟨_,_,_,.mp _ _ _⟩,none=>K (.hold .one [.m []])
 | _,_=>False
def uM (TE:Nat→Option TI) (F:Nat→AV) (T:Nat) (x y:Operand) (ok:Bool) (K:AV→Prop):Prop:=
 match TE T with
 | some ⟨_,_,_,.mp _ _ d⟩=>bif ok then False else iA F (nj F x) fun ag cs=>match ag,cs with
  | none,[.m es]=>EE F y fun v=>match v with
   | .int .i64 z=>Ml es z d fun v'=>K (.hold .one [.v v'])
   | _=>False
  | _,_=>False
 | _=>False
def putMap (F:Nat→AV) (t off:Nat) (z:Int) (v:Value) (K:(Nat→AV)→Prop):Prop:=
 match F t with
 | .hold k bs=>match bs[off]? with
  | some (.m es)=>Mu es z v fun es'=>fc (splice bs off [.m es']) fun bs'=>K (updH F t k bs')
  | _=>False
 | _=>False
def pa (TE:Nat→Option TI) (F:Nat→AV) (T:Nat) (x y v:Operand) (K:(Nat→AV)→Prop):Prop:=
 match TE T with
 | some ⟨_,_,_,.mp _ _ _⟩=>EE F y fun vy=>EE F v fun vv=>match vy with
  | .int .i64 z=>(match x with
    | .tmp s=>(match F s with
      | .bor t off [] none=>putMap F t off z vv K
      | .hold .one _=>putMap F s 0 z vv K
      | _=>False)
    | _=>False)
  | _=>False
 | _=>False
def mfind:List (Int × Value)→Int→Nat→Option (Nat × Value)
 | [],_,_=>none
 | p::es,k,i=>if p.1=k then some (i,p.2) else mfind es k (i+1)
section
variable {P:Program} {w0 w w1:World} {M S0 S:ab} {N:fF} {φ:Nat→ab} {F:Nat→AV} {a:Act} {TE:Nat→Option TI}
theorem qg (z:Int):∀ (l:List MapEntry) (es:List (Int × Value)) (i:Nat),l.map (fun e=>(e.key,e.val))=es.map (fun p=>(Value.int .i64 p.1,p.2))→Instr.findNow (.int .i64) (.int .i64 z) l i=some (mfind es z i)
 | [],es,i,h=>by
  cases es with
  | nil=>rfl
  | cons _ _=>simp at h
 | e::l,es,i,h=>by
  cases es with
  | nil=>simp at h
  | cons p es=>
   simp only[List.map_cons,List.cons.injEq,Prod.mk.injEq]at h
   obtain⟨⟨h1,h2⟩,h3⟩:=h
   have ih:=qg z l es (i+1) h3
   simp only[Instr.findNow,h1,Instr.sameNow,if_true,mfind]
   by_cases hz:p.1=z
   ·have:(z == p.1)=true:=by simp[hz]
    rw[this,if_pos hz,h2]
   ·have:(z == p.1)=false:=by simp;exact fun e=>hz e.symm
    rw[this,if_neg hz]
    exact ih
theorem uR (d:Value):∀ (es:List (Int × Value)) (z:Int) (i:Nat),mlook es z d=((mfind es z i).map (·.2)).getD d
 | [],z,i=>rfl
 | p::es,z,i=>by
  simp only[mlook,mfind]
  split
  ·rfl
  ·exact uR d es z (i+1)
theorem oJ {b:Nat} {es:Array MapEntry} {clock:Nat} (h:mp w b=some (.map es clock)):w.heap[b]? = some (.map es clock):=by
 unfold mp at h
 split at h
 ·rename_i e c h1;simp only[Option.some.injEq,Obj.map.injEq]at h;obtain⟨rfl,rfl⟩:=h;exact h1
 ·cases h
 ·cases h
theorem A9 {b s c:Nat} {m:Option Nat} {seen:Array Nat} (h:mp w b=some (.mapIter m s seen c)):w.heap[b]? = some (.mapIter m s seen c):=by
 unfold mp at h
 split at h
 ·cases h
 ·rename_i h1;rw[h1];exact h
 ·cases h
theorem KZ {T kt et:Nat} {d:Value} (hT:P.underlying T=some (.map kt et)) (hk:P.underlying kt=some (.int .i64)) (hz:(P.info? et).bind (·.zero)=some d) {b clock:Nat} {ents:Array MapEntry} {es:List (Int × Value)} (hb:mp w b=some (.map ents clock))
  (he:ents.toList.map (fun e=>(e.key,e.val))=es.map (fun p=>(Value.int .i64 p.1,p.2))) (z:Int):(Instr.lookup T (.map (some b)) (.int .i64 z) false).run P w=.ok (mlook es z d) w:=by
 have h1:=MapKept.run_getObj_map (P:=P) (oJ hb)
 have h2:∀ e,(Instr.checkKey e 10000 kt (.int .i64 z)).run P w=.ok () w:=fun e=>MapKept.run_checkKey hk (show MapKept.IsKey (.int .i64) (.int .i64 z) from rfl) e 9999
 have h3:=MapKept.run_findKey (P:=P) (w:=w) hk (qg z ents.toList es 0 he)
 have h4:(zeroValue et).run P w=.ok d w:=by
  cases hq:P.info? et with
  | none=>rw[hq]at hz;cases hz
  | some q=>rw[hq]at hz;simp only[Option.bind_some]at hz;simp[zeroValue,typeInfo,hq,hz]
 rw[uR d es z 0]
 cases hf:mfind es z 0 with
 | none=>rw[hf]at h3;simp[Instr.lookup,run_underlying hT,h1,h2,h3,h4,Result.andThen]
 | some p=>rw[hf]at h3;simp[Instr.lookup,run_underlying hT,h1,h2,h3,Result.andThen]
theorem yv {d:Value} (hd:d.oneCell'=true):∀ {es:List (Int × Value)} (z:Int),(∀ p∈es,p.2.oneCell'=true)→(mlook es z d).oneCell'=true
 | [],_,_=>hd
 | p::es,z,h=>by
  simp only[mlook]
  split
  ·exact h p (List.mem_cons_self ..)
  ·exact yv hd z fun q hq=>h q (List.mem_cons_of_mem _ hq)
def stamps (ents:Array MapEntry) (n:Nat):Prop:=(ents.toList.map (·.born)).Nodup∧∀ x∈ents.toList,x.born<n
theorem Ea {ents:Array MapEntry} {n:Nat} (h:stamps ents n) (k v:Value):stamps (ents.push {key:=k,val:=v,born:=n}) (n+1):=by
 obtain⟨h1,h2⟩:=h
 refine⟨?_,fun y hy=>?_⟩
 ·rw[Array.toList_push,List.map_append,List.nodup_append]
  refine⟨h1,by simp,fun p hp q hq e=>?_⟩
  obtain⟨y,hy,rfl⟩:=List.mem_map.1 hp
  simp at hq
  have:=h2 y hy
  omega
 ·rw[Array.toList_push,List.mem_append]at hy
  rcases hy with hy|hy
  ·have:=h2 y hy;omega
  ·simp at hy;subst hy;exact Nat.lt_succ_self _
theorem tS {g:MapEntry→MapEntry} (hg:∀ e,(g e).born=e.born):∀ (l:List MapEntry) (i:Nat),(l.modify i g).map (·.born)=l.map (·.born)
 | [],i=>by cases i<;>rfl
 | e::l,0=>by rw[List.modify_zero_cons,List.map_cons,List.map_cons,hg]
 | e::l,i+1=>by rw[List.modify_succ_cons,List.map_cons,List.map_cons,tS hg l i]
theorem DJ {ents ents':Array MapEntry} {n:Nat} (h:stamps ents n) (he:ents'.toList.map (·.born)=ents.toList.map (·.born)):stamps ents' n:=by
 refine⟨by rw[he];exact h.1,fun y hy=>?_⟩
 have:y.born∈ents.toList.map (·.born):=by rw[←he];exact List.mem_map.2 ⟨y,hy,rfl⟩
 obtain⟨z,hz,e⟩:=List.mem_map.1 this
 rw[←e];exact h.2 z hz
theorem Lo {Y:ab} {es:List (Int × Value)} {v:Value} (h:ez w S Y (.m es) v):∃ b clock ents,v=.map (some b)∧(∀ o,Y b o)∧mp w b=some (.map ents clock)∧ents.toList.map (fun e=>(e.key,e.val))=es.map (fun p=>(Value.int .i64 p.1,p.2))∧(∀ p∈es,p.2.oneCell'=true)∧stamps ents clock:=by
 generalize hc:C.m es=c at h
 cases h with
 | m _ b clock es' ents hF hb he hv hst=>cases hc;exact⟨b,clock,ents,rfl,hF,hb,he,hv,hst⟩
 | _=>cases hc
theorem bj.look (h:bj w0 M S0 N S φ F a w) (hTE:∀ t i,TE t=some i→bA P t i) {T:Nat} {x y:Operand} {ok:Bool} {K:AV→Prop} (hp:uM TE F T x y ok K) :
  ∃ v,K (.hold .one [.v v])∧v.oneCell'=true∧(Instr.lookup T (a.eval x) (a.eval y) ok).run P w=.ok v w:=by
 unfold uM at hp
 split at hp
 case h_2=>exact hp.elim
 rename_i hT
 obtain⟨h1,h2,h3,h4⟩:=(hTE _ _ hT).2.2
 cases ok with
 | true=>exact hp.elim
 | false=>
  obtain⟨ag,cs,Y,hK,hv,-⟩:=h.val (h.ev x) hp
  match ag,cs,hK with
  | none,[.m es],hK=>
   obtain⟨hy,-⟩:=h.scalar hK
   cases hvy:a.eval y with
   | int k z=>
    rw[hvy]at hy
    cases k with
    | i64=>
     obtain⟨b,clock,ents,hx,-,hb,he,hes,-⟩:=Lo hv.rep1
     exact⟨_,hy.out,yv h4 z hes,by rw[hx];exact KZ h1 h2 h3 hb he z⟩
    | _=>exact hy.elim
   | _=>rw[hvy]at hy;exact hy.elim
theorem rc {b:Nat} {o:Obj} (hb:b<w.heap.size) (b':Nat):({w with heap:=w.heap.setIfInBounds b o} : World).heap[b']? = if b'=b then some o else w.heap[b']?:=by
 show(w.heap.setIfInBounds b o)[b']? = _
 rw[Array.getElem?_setIfInBounds]
 by_cases h:b'=b
 ·subst h;rw[if_pos rfl,if_pos rfl];simp[hb]
 ·rw[if_neg h,if_neg fun e=>h e.symm]
theorem DH (z:Int) (v:Value) (clock:Nat):∀ (l:List MapEntry) (es:List (Int × Value)) (i:Nat),l.map (fun e=>(e.key,e.val))=es.map (fun p=>(Value.int .i64 p.1,p.2))→
  (match mfind es z i with
    | some p=>i≤p.1∧p.1 - i<l.length∧(l[p.1 - i]?).map (·.key)=some (.int .i64 z)∧(l.modify (p.1 - i) fun e=>{e with key:=.int .i64 z,val:=v}).map (fun e=>(e.key,e.val))=(mput es z v).map (fun p=>(Value.int .i64 p.1,p.2))
    | none=>(l++[({key:=.int .i64 z,val:=v,born:=clock} : MapEntry)]).map (fun e=>(e.key,e.val))=(mput es z v).map (fun p=>(Value.int .i64 p.1,p.2)))
 | [],es,i,h=>by
  cases es with
  | nil=>rfl
  | cons _ _=>simp at h
 | e::l,es,i,h=>by
  cases es with
  | nil=>simp at h
  | cons p es=>
   simp only[List.map_cons,List.cons.injEq,Prod.mk.injEq]at h
   obtain⟨⟨h1,h2⟩,h3⟩:=h
   have ih:=DH z v clock l es (i+1) h3
   simp only[mfind,mput]
   by_cases hz:p.1=z
   ·simp only[if_pos hz]
    refine⟨Nat.le_refl _,by simp,by simp[h1,hz],?_⟩
    rw[Nat.sub_self]
    simp only[List.modify_zero_cons,List.map_cons,h3]
   ·simp only[if_neg hz]
    cases hf:mfind es z (i+1) with
    | none=>
     rw[hf]at ih
     simp only[List.cons_append,List.map_cons,h1,h2]at ih ⊢
     rw[ih]
    | some q=>
     rw[hf]at ih
     simp only at ih ⊢
     obtain⟨e1,e2,e3,e4⟩:=ih
     have he:q.1 - i=(q.1 - (i+1))+1:=by omega
     rw[he]
     refine⟨by omega,by simp;omega,by simpa using e3,?_⟩
     rw[List.modify_succ_cons,List.map_cons,List.map_cons,e4,h1,h2]
theorem L1 {T kt et:Nat} (hT:P.underlying T=some (.map kt et)) (hk:P.underlying kt=some (.int .i64)) {b clock:Nat} {ents:Array MapEntry} {es:List (Int × Value)} (hb:mp w b=some (.map ents clock))
  (he:ents.toList.map (fun e=>(e.key,e.val))=es.map (fun p=>(Value.int .i64 p.1,p.2))) (hst:stamps ents clock) (z:Int) (v:Value):∃ ents' clock',stamps ents' clock'∧(Instr.mapUpdate T (.map (some b)) (.int .i64 z) v).run P w=.ok () {w with heap:=w.heap.setIfInBounds b (.map ents' clock')}∧
   ents'.toList.map (fun e=>(e.key,e.val))=(mput es z v).map (fun p=>(Value.int .i64 p.1,p.2)):=by
 have h0:=oJ hb
 have h1:=MapKept.run_getObj_map (P:=P) h0
 have h2:∀ e,(Instr.checkKey e 10000 kt (.int .i64 z)).run P w=.ok () w:=fun e=>MapKept.run_checkKey hk (show MapKept.IsKey (.int .i64) (.int .i64 z) from rfl) e 9999
 have h3:=MapKept.run_findKey (P:=P) (w:=w) hk (qg z ents.toList es 0 he)
 have h4:=DH z v clock ents.toList es 0 he
 cases hf:mfind es z 0 with
 | none=>
  rw[hf]at h3 h4
  simp only at h4
  refine⟨ents.push {key:=.int .i64 z,val:=v,born:=clock},clock+1,Ea hst _ _,?_,by rw[Array.toList_push];exact h4⟩
  simp[Instr.mapUpdate,run_underlying hT,h1,h2,h3,Result.andThen,MapKept.run_setObj_map _ h0]
 | some q=>
  rw[hf]at h3 h4
  simp only[Nat.sub_zero]at h4
  obtain⟨-,e2,e3,e4⟩:=h4
  refine⟨ents.modify q.1 fun e=>{e with key:=.int .i64 z,val:=v},clock,DJ hst (by rw[Array.toList_modify];exact tS (g:=fun e=>{e with key:=.int .i64 z,val:=v}) (fun _=>rfl) _ _),?_,by rw[Array.toList_modify];exact e4⟩
  have hkey:((ents[q.1]?).map (·.key)).getD (.int .i64 z)=.int .i64 z:=by
   rw[show ents[q.1]? = ents.toList[q.1]? by simp,e3];rfl
  have hst:(Instr.keyThatStays (.int .i64 z) (.int .i64 z)).run P w=.ok (.int .i64 z) w:=by
   have:Instr.sameBits 10000 (.int .i64 z) (.int .i64 z)=true:=by simp[Instr.sameBits]
   simp[Instr.keyThatStays,this]
  simp[Instr.mapUpdate,run_underlying hT,h1,h2,h3,Result.andThen,hkey,hst,MapKept.run_setObj_map _ h0]
theorem Bi {v:Value} (hv:v.oneCell'=true):∀ {es:List (Int × Value)} (z:Int),(∀ p∈es,p.2.oneCell'=true)→∀ p∈mput es z v,p.2.oneCell'=true
 | [],z,_,p,hp=>by simp[mput]at hp;subst hp;exact hv
 | q::es,z,h,p,hp=>by
  simp only[mput]at hp
  split at hp
  ·rcases List.mem_cons.1 hp with rfl|hp
   ·exact hv
   ·exact h p (List.mem_cons_of_mem _ hp)
  ·rcases List.mem_cons.1 hp with rfl|hp
   ·exact h _ (List.mem_cons_self ..)
   ·exact Bi hv z (fun q hq=>h q (List.mem_cons_of_mem _ hq)) p hp
theorem bj.putMap (h:bj w0 M S0 N S φ F a w) {T kt et:Nat} (hT:P.underlying T=some (.map kt et)) (hk:P.underlying kt=some (.int .i64)) {t off:Nat} {z:Int} {v:Value} (hv:v.oneCell'=true) {K:(Nat→AV)→Prop} (hp:Ab.putMap F t off z v K) {x:Value}
  (hx:∀ k bs,F t=.hold k bs→x=bR w k (tvs a t) off):∃ F' w1,K F'∧(Instr.mapUpdate T x (.int .i64 z) v).run P w=.ok () w1∧St w0 M S0 N F' a w1:=by
 unfold Ab.putMap at hp
 split at hp
 case h_2=>exact hp.elim
 rename_i k bs hF
 split at hp
 case h_2=>exact hp.elim
 rename_i es hc
 have hK:=hp.out
 simp only[ek]at hK
 have hoff:=(List.getElem?_eq_some_iff.1 hc).1
 have hs:=h.slot t
 rw[hF]at hs
 obtain⟨X1,Y,e1,e2,e3,e4,f,f1,f2,f3⟩:=hs
 obtain⟨b,clock,ents,hxv,hown,hb,he,hes,hst⟩:=Lo (f1 off _ hc)
 obtain⟨ents',clock',hst',hrun,he'⟩:=L1 (P:=P) hT hk hb he hst z v
 have hlt:b<w.heap.size:=(h.ex t b 0 (e2 _ _ (f2 off hoff _ _ (hown 0)))).1
 have hh:=fun b'=>rc (w:=w) (b:=b) (o:=.map ents' clock') hlt b'
 let w1:World:={w with heap:=w.heap.setIfInBounds b (.map ents' clock')}
 have hother:∀ b',b'≠b→∀ o,cel w1 b' o=cel w b' o∧fro w1 b' o=fro w b' o:=fun b' hne o=>by
  have hb':w1.heap[b']? = w.heap[b']?:=(hh b').trans (if_neg hne)
  refine⟨?_,Prod.ext ?_ ?_⟩
  ·show World.cell? w1 _=World.cell? w _
   unfold World.cell?;simp only[hb']
  ·show World.frozen? w1 _=World.frozen? w _
   unfold World.frozen?;simp only[hb']
  ·show mp w1 b'=mp w b'
   unfold mp;rw[hb']
 have hcelb:∀ o,cel w1 b o=cel w b o:=fun o=>by
  have h1:w1.heap[b]? = some (.map ents' clock'):=(hh b).trans (if_pos rfl)
  have h2:=oJ hb
  show World.cell? w1 _=World.cell? w _
  unfold World.cell?;simp[h1,h2]
 have hk1:bw (φ t) w w1:=by
  refine⟨rfl,rfl,rfl,by simp[w1],fun b' hb' hn=>(hh b').trans (if_neg fun e=>?_),fun b' o hb' hn=>?_,fun b' o hb' hn=>?_⟩
  ·subst e;exact hn 0 (e2 _ _ (f2 off hoff _ _ (hown 0)))
  ·by_cases e:b'=b
   ·subst e;exact hcelb o
   ·exact(hother b' e o).1
  ·by_cases e:b'=b
   ·subst e;exact absurd (e2 _ _ (f2 off hoff _ _ (hown o))) hn
   ·exact(hother b' e o).2
 have hsame:∀ X:ab,(∀ b' o,X b' o→b'≠b)→bk X w w1:=fun X hX b' o hb'=>hother b' (hX b' o hb') o
 have hX1:bk X1 w w1:=hsame X1 fun b' o hb' e=>by subst e;exact e3 b' o hb' (f2 off hoff _ _ (hown o))
 have hS1:bk S w w1:=hsame S fun b' o hb' e=>by subst e;exact h.disS t _ _ (e2 _ _ (f2 off hoff _ _ (hown o))) hb'
 have htop:=kg e4 hX1
 have hsl:(splice bs off [.m (mput es z v)]).length=bs.length:=bW (by simp;omega)
 refine⟨_,w1,hK,?_,S,_,h.upd (X:=φ t) hk1 hF (fun b o hb=>.inl hb) ⟨X1,Y,e1,e2,e3,?_,f,fun j c hj=>?_,fun j hj=>f2 j (by omega),fun j j' hj hj'=>f3 j j' (by omega) (by omega)⟩⟩
 ·rw[hx k bs hF,hxv];exact hrun
 ·rw[hsl]
  exact e4.keep hX1 (fun _ _ h=>h)
 ·rw[gd (by simp;omega)]at hj
  by_cases hjo:off≤j∧j<off+[C.m (mput es z v)].length
  ·rw[if_pos hjo]at hj
   simp only[List.length_cons,List.length_nil]at hjo
   obtain rfl:j=off:=by omega
   simp only[Nat.sub_self,List.getElem?_cons_zero,Option.some.injEq]at hj
   subst hj
   rw[htop j hoff,hxv]
   exact .m _ b clock' _ ents' hown (by show mp w1 b=_;unfold mp;rw[(hh b).trans (if_pos rfl)]) he' (Bi hv z hes) hst'
  ·rw[if_neg hjo]at hj
   have hjl:=(List.getElem?_eq_some_iff.1 hj).1
   rw[htop j hjl]
   simp only[List.length_cons,List.length_nil]at hjo
   exact(f1 j c hj).keep hS1 (hsame (f j) fun b' o hb' e=>by subst e;exact f3 j off hjl hoff (by omega) _ _ hb' (hown o))
theorem bj.mapUpd (h:bj w0 M S0 N S φ F a w) (hTE:∀ t i,TE t=some i→bA P t i) {T:Nat} {x y v:Operand} {K:(Nat→AV)→Prop} (hp:pa TE F T x y v K) :
  ∃ F' w1,K F'∧(Instr.mapUpdate T (a.eval x) (a.eval y) (a.eval v)).run P w=.ok () w1∧St w0 M S0 N F' a w1:=by
 unfold pa at hp
 split at hp
 case h_2=>exact hp.elim
 rename_i hT
 obtain⟨h1,h2,-,-⟩:=(hTE _ _ hT).2.2
 obtain⟨hy,-⟩:=h.scalar hp
 obtain⟨hvv,hone⟩:=h.scalar hy
 cases hvy:a.eval y with
 | int k z=>
  rw[hvy]at hvv
  cases k with
  | i64=>
   simp only at hvv
   cases x with
   | tmp s=>
    simp only at hvv
    have hsl:=h.slot s
    split at hvv
    ·rename_i t off hF
     rw[hF]at hsl
     obtain⟨k,cs,r,j,g1,g2,g3,g4⟩:=hsl
     refine h.putMap h1 h2 hone hvv fun k' bs e=>?_
     rw[g1]at e
     cases e
     exact g4
    ·rename_i cs hF
     refine h.putMap h1 h2 hone hvv fun k' bs e=>?_
     rw[hF]at e
     cases e
     rfl
    ·exact hvv.elim
   | _=>exact hvv.elim
  | _=>exact hvv.elim
 | _=>rw[hvy]at hvv;exact hvv.elim
theorem bj.makeMap (h:bj w0 M S0 N S φ F a w) (_hTE:∀ t i,TE t=some i→bA P t i) {T:Nat} {r:Option Operand} {K:AV→Prop} (hp:qX TE T r K) :
  ∃ av v w1,K av∧(Instr.makeMap T (r.map a.eval)).run P w=.ok v w1∧lV w S F a av v w1:=by
 unfold qX at hp
 split at hp
 case h_2=>exact hp.elim
 refine⟨_,_,_,hp,run_makeMap T w,cQ w _,fun b _=>b=w.heap.size,S,fun b o e=>⟨by rw[f0];omega,by omega⟩,fun _ _ h=>h,fun _ _ h=>.inl h,fun b o e hS=>?_,?_⟩
 ·have:=(h.sup b o hS).1;omega
 ·refine fW (.m _ w.heap.size 0 [] #[] (fun _=>rfl) ?_ rfl (fun p hp=>by simp at hp) ⟨by simp,fun y hy=>by simp at hy⟩)
  unfold mp
  rw[heap_alloc_new]
end
end Go.Proofs.YtplcalfnngkffaaGreat.Ab
