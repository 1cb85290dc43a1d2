/- Calls with arguments that are lent: what they may write comes back. No condition. -/
import Derived.Test.YtplcalfnngkffaaGreatMa
import Derived.Test.YtplcalfnngkffaaGreatMc
import Derived.Deep.LoopGhost
set_option linter.unusedVariables false

namespace Go.Proofs.YtplcalfnngkffaaGreat.Ab
open Go.RowKit
inductive MA where
 |val (ag:Option Nat) (cs:List C)
 |mut (ag:Option Nat) (cs:List C)
 |ptr (cs:List C)
def nC (w:World) (S V:ab):MA→Value→Prop
 | .val ag cs,v=>bv w S NO ag cs v
 | .mut ag cs,v=>bv w S V ag cs v
 | .ptr cs,v=>∃ X1 Y:ab,(∀ b o,X1 b o→V b o)∧(∀ b o,Y b o→V b o)∧(∀ b o,X1 b o→¬Y b o)∧fy w X1 .box cs.length v∧co w S Y cs (bR w .box v)
def J1 (w:World) (S:ab):(Nat→ab)→List MA→List Value→Prop
 | _,[],[]=>True
 | V,m::ms,v::vs=>nC w S (V 0) m v∧J1 w S (fun i=>V (i+1)) ms vs
 | _,_,_=>False
def EK (w:World) (S V:ab):MA→Value→Prop
 | .val _ _,_=>True
 | m,v=>nC w S V m v
def Ar (w:World) (S:ab):(Nat→ab)→List MA→List Value→Prop
 | _,[],[]=>True
 | V,m::ms,v::vs=>EK w S (V 0) m v∧Ar w S (fun i=>V (i+1)) ms vs
 | _,_,_=>False
structure aV (P:Program) (f:Nat) (sh:Bool) (A B:List MA) (k:Kd) (rcs:List C):Prop where
 has:Hk P f
 run:∀ (w:World) (S:ab) (V:Nat→ab) (vs:List Value),(∀ b o,S b o→b<w.heap.size)→(∀ i b o,V i b o→b<w.heap.size∧¬S b o)→(∀ i i',i≠i'→∀ b o,V i b o→¬V i' b o)→J1 w S V A vs→
  Calls P f vs.toArray w fun e w1=>∃ v,e=.returned v∧bw (fun b o=>∃ i,V i b o) w w1∧∃ (X:ab) (V':Nat→ab) (S1:ab),
   (∀ b o,X b o→(∃ i,V i b o)∨(b<w1.heap.size∧w.heap.size≤b))∧(∀ i b o,V' i b o→(∃ i,V i b o)∨(b<w1.heap.size∧w.heap.size≤b))∧
   (∀ b o,S1 b o→(sh=true∧S b o)∨(∃ i,V i b o)∨(b<w1.heap.size∧w.heap.size≤b))∧
   (∀ i i',i≠i'→∀ b o,V' i b o→¬V' i' b o)∧(∀ i b o,X b o→¬V' i b o)∧(∀ b o,X b o→¬S1 b o)∧(∀ i b o,V' i b o→¬S1 b o)∧
   fy w1 NO k rcs.length v∧co w1 S1 X rcs (bR w1 k v)∧Ar w1 (fun b o=>S b o∨S1 b o) V' B vs
inductive yY where
 |no
 |at_ (t off:Nat) (st:cm)
 |box (t:Nat)
def lendAt (F:Nat→AV) (t off:Nat) (st:cm) (n:Nat) (K:(Nat→AV)→List C→Prop):Prop:=
 match F t with
 | .hold k bs=>(match st with
   | []=>bif Nat.ble (off+n) bs.length then fc (bp bs off n) fun cs=>fc (splice bs off (List.replicate n .x)) fun bs'=>K (updH F t k bs') cs else False
   | s::st=>Lq bs off (s::st) n fun cs bs'=>K (updH F t k bs') cs)
 | _=>False
def lendP:List (Operand × Nat)→((Nat→AV)→List (MA × yY)→Prop)→(Nat→AV)→Prop
 | [],K,F=>K F []
 | (_,0)::xs,K,F=>lendP xs (fun F' l=>K F' ((.val none [],.no)::l)) F
 | (x,1)::xs,K,F=>(match x with
   | .tmp s=>(match F s with
     | .hold .one _=>lendAt F s 0 [] 1 fun F1 cs=>lendP xs (fun F' l=>K F' ((.mut none cs,.at_ s 0 [])::l)) F1
     | .hold .agg cs0=>lendAt F s 0 [] cs0.length fun F1 cs=>lendP xs (fun F' l=>K F' ((.mut (some cs0.length) cs,.at_ s 0 [])::l)) F1
     | .bor t off st ag=>lendAt F t off st (ag.getD 1) fun F1 cs=>lendP xs (fun F' l=>K F' ((.mut ag cs,.at_ t off st)::l)) F1
     | _=>False)
   | _=>False)
 | (x,_+2)::xs,K,F=>(match x with
   | .tmp s=>(match F s with
     | .ref t 0 []=>(match F t with|.hold .box cs=>lendP xs (fun F' l=>K F' ((.ptr cs,.box t)::l)) (kill F t)|_=>False)
     | .hold .box cs=>lendP xs (fun F' l=>K F' ((.ptr cs,.box s)::l)) (kill F s)
     | _=>False)
   | _=>False)
def Nb:C→C
 | .s (.tag _) rows=>.s .own rows
 | c=>c
def Nu:List C→List C
 | []=>[]
 | c::cs=>Nb c::Nu cs
def Pj:MA→MA
 | .mut ag cs=>.mut ag (Nu cs)
 | m=>m
def Pq:C→C→C
 | .s (.tag z) _,.s .own rows=>.s (.tag z) rows
 | _,o=>o
def Lz:List C→List C→List C
 | c::cs,o::os=>Pq c o::Lz cs os
 | _,os=>os
def P2:MA→List C
 | .val _ cs=>cs
 | .mut _ cs=>cs
 | .ptr cs=>cs
theorem zS:∀ (cs:List C),Nu cs=cs.map Nb
 | []=>rfl
 | c::cs=>by simp[Nu,zS cs]
theorem qP:∀ (cs os:List C),(Lz cs os).length=os.length
 | [],os=>by cases os<;>rfl
 | c::cs,[]=>rfl
 | c::cs,o::os=>by simp[Lz,qP cs os]
theorem GY:∀ {cs os:List C} {j:Nat} {c':C},(Lz cs os)[j]? = some c'→∃ o,os[j]? = some o∧(c'=o∨∃ z r rows,cs[j]? = some (.s (.tag z) r)∧o=.s .own rows∧c'=.s (.tag z) rows)
 | [],os,j,c',h=>by
  have:Lz [] os=os:=by cases os<;>rfl
  rw[this]at h
  exact⟨c',h,.inl rfl⟩
 | c::cs,[],j,c',h=>by simp[Lz]at h
 | c::cs,o::os,0,c',h=>by
  simp only[Lz,List.getElem?_cons_zero,Option.some.injEq]at h
  refine⟨o,rfl,?_⟩
  unfold Pq at h
  split at h
  ·rename_i z r rows
   exact .inr ⟨z,r,rows,rfl,rfl,h.symm⟩
  ·exact .inl h.symm
 | c::cs,o::os,j+1,c',h=>by
  simp only[Lz,List.getElem?_cons_succ]at h ⊢
  exact GY h
theorem ez.ut {w:World} {S Y:ab} {c:C} {v:Value} (h:ez w S Y c v):ez w S Y (Nb c) v:=by
 cases c with
 | s o rows=>
  cases o with
  | tag z=>
   cases h with
   | nil _ o a ho=>exact .nil _ _ _ trivial
   | own _ o g k n cap rows u f ho hn hk hcap hpos hF hu hf hd hc=>exact .own _ _ g k n cap rows u f trivial hn hk hcap hpos hF hu hf hd hc
  | _=>exact h
 | _=>exact h
theorem ez.tagOf {w:World} {S Y:ab} {z v:Value} {rows:List (List C)} (h:ez w S Y (.s (.tag z) rows) v):z=v:=by
 cases h with
 | nil _ o a ho=>exact ho
 | own _ o g k n cap rows u f ho hn hk hcap hpos hF hu hf hd hc=>exact ho
theorem ez.rt {w:World} {S Y:ab} {z v:Value} {rows:List (List C)} (h:ez w S Y (.s .own rows) v) (hz:z=v):ez w S Y (.s (.tag z) rows) v:=by
 cases h with
 | nil _ o a ho=>exact .nil _ _ _ hz
 | own _ o g k n cap rows u f ho hn hk hcap hpos hF hu hf hd hc=>exact .own _ _ g k n cap rows u f hz hn hk hcap hpos hF hu hf hd hc
theorem co.ut {w:World} {S Y:ab} {cs:List C} {u:Nat→Value} (h:co w S Y cs u):co w S Y (Nu cs) u:=by
 obtain⟨f,h1,h2,h3⟩:=h
 rw[zS]
 refine⟨f,fun j c hj=>?_,fun j hj=>h2 j (by simpa using hj),fun j j' hj hj'=>h3 j j' (by simpa using hj) (by simpa using hj')⟩
 rw[List.getElem?_map]at hj
 cases hc:cs[j]? with
 | none=>rw[hc]at hj;cases hj
 | some c0=>
  rw[hc]at hj
  simp only[Option.map_some,Option.some.injEq]at hj
  subst hj
  exact(h1 j c0 hc).ut
theorem co.rt {w w1:World} {S S' Y Y':ab} {cs os:List C} {u u':Nat→Value} (h:co w S Y cs u) (h':co w1 S' Y' os u') (hu:∀ d,d<os.length→u' d=u d):co w1 S' Y' (Lz cs os) u':=by
 obtain⟨f,h1,h2,h3⟩:=h
 obtain⟨f',h1',h2',h3'⟩:=h'
 refine⟨f',fun j c hj=>?_,fun j hj=>h2' j (by rwa [qP]at hj),fun j j' hj hj'=>h3' j j' (by rwa [qP]at hj) (by rwa [qP]at hj')⟩
 obtain⟨o,ho,h4⟩:=GY hj
 have hjl:=(List.getElem?_eq_some_iff.1 ho).1
 rcases h4 with rfl|⟨z,r,rows,e1,rfl,rfl⟩
 ·exact h1' j _ ho
 ·exact(h1' j _ ho).rt ((h1 j _ e1).tagOf.trans (hu j hjl).symm)
def valsP (F:Nat→AV):List (MA × yY)→List Operand→(Bool→List MA→Prop)→Prop
 | [],[],K=>K true []
 | (_,.no)::l,x::xs,K=>iA F (nj F x) fun ag cs=>valsP F l xs fun b A=>bif aW cs then K b (.val ag cs::A) else K false (.val ag (ey cs)::A)
 | (m,.at_ _ _ _)::l,_::xs,K=>valsP F l xs fun b A=>K b (Pj m::A)
 | (m,.box _)::l,_::xs,K=>valsP F l xs fun b A=>K b (m::A)
 | _,_,_=>False
def Bb (F:Nat→AV) (t:Nat) (av:AV):Nat→AV:=fun s=>bif Nat.beq s t then av else F s
def yY.slot:yY→List Nat
 | .no=>[]
 | .at_ t _ _=>[t]
 | .box t=>[t]
def zo:List (MA × yY)→Bool
 | []=>true
 | q::l=>(q.2.slot.all fun t=>l.all fun q'=>!q'.2.slot.any (Nat.beq t))&&zo l
def lu:List (MA × yY)→List MA→((Nat→AV)→Prop)→(Nat→AV)→Prop
 | [],[],K,F=>K F
 | (_,.no)::l,_::B,K,F=>lu l B K F
 | (m,.at_ t off st)::l,.mut _ out::B,K,F=>(match F t with
   | .hold k bs=>(match st with
     | []=>bif Nat.ble (off+out.length) bs.length then fc (splice bs off (Lz (P2 m) out)) fun bs'=>lu l B K (updH F t k bs') else False
     | s::st=>Pu bs off (s::st) out fun bs'=>lu l B K (updH F t k bs'))
   | _=>False)
 | (_,.box t)::l,.ptr out::B,K,F=>(match F t with
   | .dead=>lu l B K (Bb F t (.hold .box out))
   | _=>False)
 | _,_,_,_=>False
def BR:List MA→Prop
 | []=>True
 | .val _ _::B=>BR B
 | .mut _ cs::B=>gq cs∧BR B
 | .ptr cs::B=>gq cs∧BR B
inductive er (P:Program) (f:Nat) (b:Bool) (A:List MA) (K:Kd→List C→List MA→Prop):Prop
 |mk_ (h:∃ sh B k rcs,aV P f sh A B k rcs∧(b=true∨(sh=false∧BR B))∧K k rcs B)
theorem er.mk {P:Program} {f:Nat} {b sh:Bool} {A B:List MA} {k:Kd} {rcs:List C} {K:Kd→List C→List MA→Prop} (h:aV P f sh A B k rcs) (hb:b=true∨(sh=false∧BR B)) (hK:K k rcs B):er P f b A K:=by refine .mk_ ?_;exact⟨sh,B,k,rcs,h,hb,hK⟩
theorem er.out {P:Program} {f:Nat} {b:Bool} {A:List MA} {K:Kd→List C→List MA→Prop} (h:er P f b A K):∃ sh B k rcs,aV P f sh A B k rcs∧(b=true∨(sh=false∧BR B))∧K k rcs B:=by obtain⟨h⟩:=h;exact h
def uK (P:Program) (N:fF) (F:Nat→AV) (d:Option Nat) (f:Nat) (args:List Operand) (modes:List Nat) (K:(Nat→AV)→Prop):Prop:=
 lendP (args.zip modes) (fun F' l=>bif zo l&&Nat.beq args.length modes.length then valsP F' l args fun b A=>er P f b A fun k rcs B=>lu l B (fun F''=>match d with|some d=>bO N F'' d (.hold k rcs) K|none=>K F'') F' else False) F
def Fb (F:Nat→AV) (x:Operand) (K:Nat→Nat→Prop):Prop:=
 match x with
 | .tmp s=>(match F s with
   | .ref t off []=>K t off
   | _=>False)
 | _=>False
def Kt (N:fF) (F:Nat→AV) (d:Option Nat) (t:Nat) (cs:List C) (o0 n0 o1 n1:Nat) (K:(Nat→AV)→Prop) (k:Kd) (rcs:List C):List MA→Prop
 | [.ptr c0',.ptr c1']=>bif Nat.beq c0'.length n0&&Nat.beq c1'.length n1 then fc (splice (splice cs o0 c0') o1 c1') fun cs'=>(match d with|some d=>bO N (Bb (kill F t) t (.hold .box cs')) d (.hold k rcs) K|none=>K (Bb (kill F t) t (.hold .box cs'))) else False
 | _=>False
def sy (P:Program) (N:fF) (F:Nat→AV) (d:Option Nat) (f:Nat) (args:List Operand) (n0 n1:Nat) (K:(Nat→AV)→Prop):Prop:=
 match args with
 | [x0,x1]=>Fb F x0 fun t o0=>Fb F x1 fun t' o1=>(match F t with
   | .hold .box cs=>bif Nat.beq t' t&&Nat.ble (o0+n0) o1&&Nat.ble (o1+n1) cs.length then fc (bp cs o0 n0) fun c0=>fc (bp cs o1 n1) fun c1=>er P f true [.ptr c0,.ptr c1] fun k rcs B=>Kt N F d t cs o0 n0 o1 n1 K k rcs B else False
   | _=>False)
 | _=>False
def Pb:List Nat→Option (Nat × Nat)
 | []=>none
 | m::l=>bif Nat.beq m 3 then(match l with
   | []=>none
   | n0::l=>(match l with
     | []=>none
     | n1::_=>some (n0,n1))) else none
def rO (P:Program) (N:fF) (F:Nat→AV) (d:Option Nat) (f:Nat) (args:List Operand) (modes:List Nat) (K:(Nat→AV)→Prop):Prop:=
 match Pb modes with
 | some p=>sy P N F d f args p.1 p.2 K
 | none=>uK P N F d f args modes K
section
variable {P:Program} {w0 w w1:World} {M S0 S:ab} {N:fF} {φ:Nat→ab} {F:Nat→AV} {a:Act} {TE:Nat→Option TI}
theorem bj.addS (h:bj w0 M S0 N S φ F a w) {V S':ab} (hV:Free w0 M S φ w V) (hSS:∀ b o,S b o→S' b o) (hS':∀ b o,S' b o→S b o∨V b o):bj w0 M S0 N S' φ F a w:=by
 refine⟨fun t=>(h.slot t).keep (φ:=φ) (fun t _ _ _=>h.slot t) (fun t _=>⟨fun _ _ h=>h,rfl,fun _ _ _=>⟨rfl,rfl⟩⟩) (fun _ _ _=>⟨rfl,rfl⟩) (fun _ _ _=>⟨rfl,rfl⟩) (fun _ _ h=>h) hSS,h.dis,fun t b o hb hS=>?_,h.ex,fun b o hb=>hSS b o (h.sub b o hb),fun b o hb=>?_,h.old,h.size,h.defers,h.par⟩
 ·rcases hS' b o hS with hS|hS
  ·exact h.disS t b o hb hS
  ·exact(hV b o hS).1 t hb
 ·rcases hS' b o hb with hb|hb
  ·exact h.sup b o hb
  ·exact⟨(hV b o hb).2.2.1,.inr (hV b o hb).2.2.2⟩
theorem Jv (F:Nat→AV) (t:Nat) (av:AV):Bb F t av t=av:=by simp[Bb]
theorem qf (F:Nat→AV) {t s:Nat} (av:AV) (h:s≠t):Bb F t av s=F s:=by
 have:Nat.beq s t=false:=by rw[←Bool.not_eq_true,Nat.beq_eq];exact h
 simp[Bb,this]
theorem bj.revive (h:bj w0 M S0 N S φ F a w) {t:Nat} (hF:F t=.dead) {k:Kd} {cs:List C} {X:ab} (hX:Free w0 M S φ w X) (hs:cz w S F (tvs a) X (.hold k cs) (tvs a t)) :
  bj w0 M S0 N S (fun s=>if s=t then X else φ s) (Bb F t (.hold k cs)) a w:=by
 have hno:∀ s,(F s).uses t=true→cz w S (Bb F t (.hold k cs)) (tvs a) (φ s) (F s) (tvs a s):=fun s hu=>by
  have hsl:=h.slot s
  cases hFs:F s with
  | dead=>rw[hFs]at hu;cases hu
  | hold=>rw[hFs]at hu;cases hu
  | iref=>rw[hFs]at hu;cases hu
  | ref t' off st=>
   rw[hFs]at hu hsl
   have:t'=t:=by simpa[AV.uses] using hu
   subst this
   obtain⟨k,cs,r,j,g,o,h1,-⟩:=hsl
   rw[hF]at h1;cases h1
  | bor t' off st ag=>
   rw[hFs]at hu hsl
   have:t'=t:=by simpa[AV.uses] using hu
   subst this
   obtain⟨k,cs,r,j,h1,-⟩:=hsl
   rw[hF]at h1;cases h1
  | fn f caps=>rw[hFs]at hsl;exact hsl
  | fv Ok=>rw[hFs]at hsl;exact hsl
 refine⟨fun s=>?_,fun s s' hne b o hb hb'=>?_,fun s b o hb=>?_,fun s b o hb=>?_,h.sub,h.sup,h.old,h.size,h.defers,h.par⟩
 ·by_cases hst:s=t
  ·subst hst
   rw[Jv,if_pos rfl]
   exact hs
  ·rw[qf _ _ hst,if_neg hst]
   cases hu:(F s).uses t with
   | true=>exact hno s hu
   | false=>
    refine(h.slot s).keep (φ:=φ) (fun t _ _ _=>h.slot t) (fun t' hu'=>?_) (fun _ _ _=>⟨rfl,rfl⟩) (fun _ _ _=>⟨rfl,rfl⟩) (fun _ _ h=>h) (fun _ _ h=>h)
    have hne:t'≠t:=fun e=>by subst e;rw[hu]at hu';cases hu'
    exact⟨fun k cs he=>by rw[qf _ _ hne];exact he,rfl,fun _ _ _=>⟨rfl,rfl⟩⟩
 ·by_cases e:s=t
  ·rw[if_pos e]at hb
   by_cases e':s'=t
   ·exact hne (e.trans e'.symm)
   ·rw[if_neg e']at hb';exact(hX b o hb).1 s' hb'
  ·rw[if_neg e]at hb
   by_cases e':s'=t
   ·rw[if_pos e']at hb';exact(hX b o hb').1 s hb
   ·rw[if_neg e']at hb';exact h.dis s s' hne b o hb hb'
 ·split at hb
  ·exact(hX b o hb).2.1
  ·exact h.disS s b o hb
 ·split at hb
  ·exact(hX b o hb).2.2
  ·exact h.ex s b o hb
def ew (F F':Nat→AV):Prop:=∀ s k cs,F' s=.hold k cs→∃ cs0,F s=.hold k cs0
theorem ew.trans {F F' F'':Nat→AV} (h:ew F F') (h':ew F' F''):ew F F'':=fun s k cs e=>by obtain⟨c1,e1⟩:=h' s k cs e;exact h s k c1 e1
theorem p6 {t:Nat} {k:Kd} {bs bs':List C} (hF:F t=.hold k bs):ew F (updH F t k bs'):=fun s k2 cs e=>by
 by_cases h:s=t
 ·subst h;rw[gr]at e;cases e;exact⟨bs,hF⟩
 ·rw[eU _ _ _ h]at e
  cases hFs:F s with
  | hold k3 cs3=>rw[hFs]at e;simp only[qW]at e;cases e;exact⟨_,rfl⟩
  | dead=>rw[hFs]at e;cases e
  | iref=>rw[hFs]at e;cases e
  | fn=>rw[hFs]at e;cases e
  | fv=>rw[hFs]at e;cases e
  | bor t' off st ag=>rw[hFs]at e;simp only[qW]at e;cases hb:Nat.beq t' t<;>rw[hb]at e<;>cases e
  | ref t' off st=>
   rw[hFs]at e
   cases st with
   | nil=>cases e
   | cons s st=>simp only[qW]at e;cases hb:Nat.beq t' t<;>rw[hb]at e<;>cases e
theorem xb (t:Nat):ew F (kill F t):=fun s k2 cs e=>by
 by_cases h:s=t
 ·subst h;rw[sL]at e;cases e
 ·rw[pU _ h]at e
  cases hF:F s with
  | hold k c=>rw[hF]at e;cases e;exact⟨_,rfl⟩
  | ref t' off st=>rw[hF]at e;simp only[Nv]at e;cases hb:Nat.beq t' t<;>rw[hb]at e<;>cases e
  | bor t' off st ag=>rw[hF]at e;simp only[Nv]at e;cases hb:Nat.beq t' t<;>rw[hb]at e<;>cases e
  | _=>rw[hF]at e;cases e
theorem bj.lendAt (h:bj w0 M S0 N S φ F a w) {t off n:Nat} {st:cm} {K:(Nat→AV)→List C→Prop} (hp:Ab.lendAt F t off st n K) :
  ∃ k bs V φ' F' cs,F t=.hold k bs∧K F' cs∧cs.length=n∧co w S V cs (fun d=>cellv w (bR w k (tvs a t)) off st d)∧bj w0 M S0 N S φ' F' a w∧Free w0 M S φ' w V∧(∀ s b o,φ' s b o→φ s b o)∧(∀ b o,V b o→φ t b o)∧ew F F':=by
 unfold Ab.lendAt at hp
 split at hp
 case h_2=>exact hp.elim
 rename_i k bs hF
 split at hp
 ·cases hb:Nat.ble (off+n) bs.length with
  | false=>rw[hb]at hp;exact hp.elim
  | true=>
   rw[hb]at hp
   simp only[cond_true,ek]at hp
   have hle:=Nat.le_of_ble_eq_true hb
   obtain⟨V,φ',e1,e2,e3,e4,e5⟩:=h.lend (st:=[]) (off:=off) (j:=off) (n:=n) hF rfl trivial hle
   exact⟨k,bs,V,φ',_,_,hF,hp,by simp[bp];omega,e1,e2,e3,e4,e5,p6 hF⟩
 ·obtain⟨r,j,h1,h2,h3,hK⟩:=hp.out
  obtain⟨V,φ',e1,e2,e3,e4,e5⟩:=h.lend hF h1 h2 h3
  exact⟨k,bs,V,φ',_,_,hF,hK,by simp[bp];omega,e1,e2,e3,e4,e5,p6 hF⟩
def Eb (w:World) (S:ab) (a:Act) (F0:Nat→AV) (V:ab) (m:MA) (p:yY) (v:Value):Prop:=
 match p with
 | .no=>∀ b o,¬V b o
 | .at_ t off st=>∃ ag cs,m=.mut ag cs∧bv w S V ag cs v∧∃ k cs0,F0 t=.hold k cs0∧v=mkv ag (cellv w (bR w k (tvs a t)) off st)
 | .box t=>∃ cs,m=.ptr cs∧nC w S V m v∧v=tvs a t
def pw (w:World) (S:ab) (a:Act) (F0:Nat→AV):(Nat→ab)→List (MA × yY)→List Value→Prop
 | _,[],[]=>True
 | V,q::l,v::vs=>Eb w S a F0 (V 0) q.1 q.2 v∧pw w S a F0 (fun i=>V (i+1)) l vs
 | _,_,_=>False
theorem Eb.back {F F1:Nat→AV} {V:ab} {m:MA} {p:yY} {v:Value} (h:Eb w S a F1 V m p v) (hb:ew F F1):Eb w S a F V m p v:=by
 cases p with
 | no=>exact h
 | at_ t off st=>obtain⟨ag,cs,h1,h2,k,cs0,h3,h4⟩:=h;obtain⟨c1,e1⟩:=hb t k cs0 h3;exact⟨ag,cs,h1,h2,k,c1,e1,h4⟩
 | box t=>exact h
theorem pw.back {F F1:Nat→AV} (hb:ew F F1):∀ {l:List (MA × yY)} {V:Nat→ab} {vs:List Value},pw w S a F1 V l vs→pw w S a F V l vs
 | [],_,[],_=>trivial
 | _::_,_,_::_,h=>⟨h.1.back hb,h.2.back hb⟩
 | [],_,_::_,h=>h.elim
 | _::_,_,[],h=>h.elim
def KR (V0:ab) (V:Nat→ab):Nat→ab
 | 0=>V0
 | i+1=>V i
theorem bj.lendP:∀ {xs:List (Operand × Nat)} {K:(Nat→AV)→List (MA × yY)→Prop} {F:Nat→AV} {φ:Nat→ab},bj w0 M S0 N S φ F a w→Ab.lendP xs K F→
  ∃ F' l φ' V,K F' l∧bj w0 M S0 N S φ' F' a w∧(∀ s b o,φ' s b o→φ s b o)∧(∀ i,Free w0 M S φ' w (V i))∧(∀ i b o,V i b o→∃ t,φ t b o)∧(∀ i i',i≠i'→∀ b o,V i b o→¬V i' b o)∧ew F F'∧pw w S a F V l (xs.map fun x=>a.eval x.1)
 | [],K,F,φ,h,hp=>⟨F,[],φ,fun _=>NO,hp,h,fun _ _ _ h=>h,fun _ _ _ h=>h.elim,fun _ _ _ h=>h.elim,fun _ _ _ _ _ h=>h.elim,fun s k cs e=>⟨cs,e⟩,trivial⟩
 | (x,m)::xs,K,F,φ,h,hp=>by
  have fin:∀ (F1:Nat→AV) (φ1:Nat→ab) (V0:ab) (q:MA × yY),Eb w S a F V0 q.1 q.2 (a.eval x)→bj w0 M S0 N S φ1 F1 a w→(∀ s b o,φ1 s b o→φ s b o)→Free w0 M S φ1 w V0→(∀ b o,V0 b o→∃ t,φ t b o)→ew F F1→Ab.lendP xs (fun F' l=>K F' (q::l)) F1→
    ∃ F' l φ' V,K F' l∧bj w0 M S0 N S φ' F' a w∧(∀ s b o,φ' s b o→φ s b o)∧(∀ i,Free w0 M S φ' w (V i))∧(∀ i b o,V i b o→∃ t,φ t b o)∧(∀ i i',i≠i'→∀ b o,V i b o→¬V i' b o)∧ew F F'∧pw w S a F V l (((x,m)::xs).map fun x=>a.eval x.1):=by
   intro F1 φ1 V0 q hq h1 hle hV0 hV0t hb hp
   obtain⟨F',l,φ',V,e1,e2,e3,e4,e5,e6,e7,e8⟩:=bj.lendP h1 hp
   refine⟨F',q::l,φ',KR V0 V,e1,e2,fun s b o hb=>hle s b o (e3 s b o hb),fun i=>?_,fun i b o hi=>?_,fun i i' hne b o hi hi'=>?_,hb.trans e7,hq,e8.back hb⟩
   ·cases i with
    | zero=>exact hV0.less e3
    | succ i=>exact e4 i
   ·cases i with
    | zero=>exact hV0t b o hi
    | succ i=>obtain⟨t,ht⟩:=e5 i b o hi;exact⟨t,hle t b o ht⟩
   ·cases i with
    | zero=>
     cases i' with
     | zero=>exact hne rfl
     | succ i'=>obtain⟨t,ht⟩:=e5 i' b o hi';exact(hV0 b o hi).1 t ht
    | succ i=>
     cases i' with
     | zero=>obtain⟨t,ht⟩:=e5 i b o hi;exact(hV0 b o hi').1 t ht
     | succ i'=>exact e6 i i' (fun e=>hne (by rw[e])) b o hi hi'
  have box:∀ t cs,F t=.hold .box cs→a.eval x=tvs a t→Ab.lendP xs (fun F' l=>K F' ((.ptr cs,.box t)::l)) (kill F t)→
    ∃ F' l φ' V,K F' l∧bj w0 M S0 N S φ' F' a w∧(∀ s b o,φ' s b o→φ s b o)∧(∀ i,Free w0 M S φ' w (V i))∧(∀ i b o,V i b o→∃ t,φ t b o)∧(∀ i i',i≠i'→∀ b o,V i b o→¬V i' b o)∧ew F F'∧pw w S a F V l (((x,m)::xs).map fun x=>a.eval x.1):=by
   intro t cs hF hv hp
   have hs:=h.slot t
   rw[hF]at hs
   obtain⟨X1,Y,h1,h2,h3,h4,h5⟩:=hs
   refine fin _ _ (φ t) (.ptr cs,.box t) ⟨cs,rfl,⟨X1,Y,h1,h2,h3,by rw[hv];exact h4,by rw[hv];exact h5⟩,hv⟩ (h.forget t) (fun s b o hb=>?_) (fun b o hb=>⟨fun s hs=>?_,h.disS t b o hb,h.ex t b o hb⟩) (fun b o hb=>⟨t,hb⟩) (xb t) hp
   ·replace hb:(if s=t then NO else φ s) b o:=hb
    split at hb
    ·exact hb.elim
    ·exact hb
   ·replace hs:(if s=t then NO else φ s) b o:=hs
    split at hs
    ·exact hs.elim
    ·rename_i hne;exact h.dis s t hne b o hs hb
  have at_:∀ t off st ag n (K':(Nat→AV)→List C→Prop),n=ag.getD 1→(∀ k bs,F t=.hold k bs→a.eval x=mkv ag (cellv w (bR w k (tvs a t)) off st))→Ab.lendAt F t off st n (fun F1 cs=>Ab.lendP xs (fun F' l=>K F' ((.mut ag cs,.at_ t off st)::l)) F1)→
    ∃ F' l φ' V,K F' l∧bj w0 M S0 N S φ' F' a w∧(∀ s b o,φ' s b o→φ s b o)∧(∀ i,Free w0 M S φ' w (V i))∧(∀ i b o,V i b o→∃ t,φ t b o)∧(∀ i i',i≠i'→∀ b o,V i b o→¬V i' b o)∧ew F F'∧pw w S a F V l (((x,m)::xs).map fun x=>a.eval x.1):=by
   intro t off st ag n K' hn hv hp
   obtain⟨k,bs,V0,φ1,F1,cs,e1,e2,e3,e4,e5,e6,e7,e8,e9⟩:=h.lendAt hp
   have hvx:=hv k bs e1
   exact fin F1 φ1 V0 (.mut ag cs,.at_ t off st) ⟨ag,cs,rfl,⟨by rw[e3,hn],_,hvx,e4⟩,k,bs,e1,hvx⟩ e5 e7 e6 (fun b o hb=>⟨t,e8 b o hb⟩) e9 e2
  match m,hp with
  | 0,hp=>exact fin F φ NO (.val none [],.no) (fun _ _ h=>h) h (fun _ _ _ h=>h) (fun _ _ h=>h.elim) (fun _ _ h=>h.elim) (fun s k cs e=>⟨cs,e⟩) hp
  | 1,hp=>
   simp only[Ab.lendP]at hp
   split at hp
   case h_2=>exact hp.elim
   rename_i s _
   have hs:=h.slot s
   split at hp
   ·rename_i cs0 hF
    exact at_ s 0 [] none 1 (fun _ _=>True) rfl (fun k bs hk=>by rw[hF]at hk;cases hk;rfl) hp
   ·rename_i cs0 hF
    rw[hF]at hs
    obtain⟨X1,Y,-,-,-,⟨arr,hv,hsz⟩,-⟩:=hs
    refine at_ s 0 [] (some cs0.length) cs0.length (fun _ _=>True) rfl (fun k bs hk=>?_) hp
    rw[hF]at hk
    cases hk
    show tvs a s=_
    rw[hv]
    have:=mW arr
    rw[hsz]at this
    exact this.trans (hJ fun j _=>by simp[cellv,bR,Value.cells])
   ·rename_i t off st ag hF
    rw[hF]at hs
    obtain⟨k,cs,r,j,h1,h2,h3,h4⟩:=hs
    refine at_ t off st ag _ (fun _ _=>True) rfl (fun k' bs hk=>?_) hp
    rw[h1]at hk
    cases hk
    exact h4
   ·exact hp.elim
  | n+2,hp=>
   simp only[Ab.lendP]at hp
   split at hp
   case h_2=>exact hp.elim
   rename_i s _
   have hs:=h.slot s
   split at hp
   ·rename_i t hF
    rw[hF]at hs
    obtain⟨k,cs,r,j,g,o,h1,h2,h3,h4⟩:=hs
    split at hp
    ·rename_i cs2 hF2
     rw[hF2]at h1
     simp only[AV.hold.injEq]at h1
     obtain⟨rfl,rfl⟩:=h1
     have ht:=h.slot t
     rw[hF2]at ht
     obtain⟨X1,Y,-,-,-,⟨g',o',hv,-⟩,-⟩:=ht
     refine box t _ hF2 ?_ hp
     show tvs a s=tvs a t
     rw[hv]at h3 ⊢
     simp only[plc,pn,Option.map_some,Option.some.injEq,Prod.mk.injEq,Nat.add_zero]at h3
     rw[h4,←h3.1,←h3.2]
    ·exact hp.elim
   ·rename_i cs2 hF
    exact box s cs2 hF rfl hp
   ·exact hp.elim
theorem nC.mono {S S' V:ab} {m:MA} {v:Value} (h:nC w S V m v) (hS:∀ b o,S b o→S' b o):nC w S' V m v:=by
 cases m with
 | val ag cs=>exact bv.mono h hS (fun _ _ h=>h)
 | «mut» ag cs=>exact bv.mono h hS (fun _ _ h=>h)
 | ptr cs=>obtain⟨X1,Y,h1,h2,h3,h4,h5⟩:=h;exact⟨X1,Y,h1,h2,h3,h4,h5.mono hS (fun _ _ h=>h)⟩
theorem bj.valsP (h:bj w0 M S0 N S φ F a w) {F0:Nat→AV} : ∀ {l:List (MA × yY)} {xs:List Operand} {K:Bool→List MA→Prop} {V:Nat→ab},pw w S a F0 V l (xs.map a.eval)→Ab.valsP F l xs K→
  ∃ b A,K b A∧J1 w (mC S φ) V A (xs.map a.eval)∧(b=true→J1 w S V A (xs.map a.eval))
 | [],[],K,V,_,hp=>⟨true,[],hp,trivial,fun _=>trivial⟩
 | (m,.no)::l,x::xs,K,V,hl,hp=>by
  obtain⟨ag,cs,Y,hK,hv,hY⟩:=h.val (h.ev x) hp
  obtain⟨b,A,hK,h1,h2⟩:=bj.valsP h hl.2 hK
  have hY':∀ b o,Y b o→mC S φ b o:=fun b o hb=>by
   rcases hY b o hb with hb|hb
   ·cases x with
    | tmp t=>exact .inr ⟨t,hb⟩
    | _=>exact hb.elim
   ·exact .inr hb
  cases hn:aW cs with
  | true=>rw[hn]at hK;exact⟨b,_,hK,⟨(hv.bare hn).mono (fun _ _ h=>.inl h) (fun _ _ h=>h),h1⟩,fun hb=>⟨hv.bare hn,h2 hb⟩⟩
  | false=>rw[hn]at hK;exact⟨false,_,hK,⟨hv.freeze.mono (fun b o h=>h.elim .inl (hY' b o)) (fun _ _ h=>h),h1⟩,fun hb=>by cases hb⟩
 | (m,.at_ t off st)::l,x::xs,K,V,hl,hp=>by
  obtain⟨b,A,hK,h1,h2⟩:=bj.valsP h hl.2 hp
  obtain⟨ag,cs,rfl,⟨e1,u,e2,e3⟩,-⟩:=hl.1
  have hv:bv w S (V 0) ag (Nu cs) (a.eval x):=⟨by rw[zS];simpa using e1,u,e2,e3.ut⟩
  exact⟨b,_,hK,⟨hv.mono (fun _ _ h=>.inl h) (fun _ _ h=>h),h1⟩,fun hb=>⟨hv,h2 hb⟩⟩
 | (m,.box t)::l,x::xs,K,V,hl,hp=>by
  obtain⟨b,A,hK,h1,h2⟩:=bj.valsP h hl.2 hp
  obtain⟨cs,rfl,hv,-⟩:=hl.1
  exact⟨b,_,hK,⟨hv.mono (fun _ _ h=>.inl h),h1⟩,fun hb=>⟨hv,h2 hb⟩⟩
theorem L9 {ag:Option Nat} {u u':Nat→Value} (h:mkv ag u=mkv ag u'):∀ d,d<ag.getD 1→u d=u' d:=by
 cases ag with
 | none=>
  intro d hd;simp only[Option.getD_none]at hd;have:d=0:=by omega
  subst this;exact h
 | some n=>
  intro d hd
  simp only[Option.getD_some]at hd
  simp only[mkv,Value.agg.injEq]at h
  have h2:=congrArg Array.toList h
  have h3:=congrArg (fun l=>l[d]?) h2
  simpa[hd] using h3
theorem J6 {t:Nat} {v:AV} {k:Kd} {cs:List C} (h:qW t v=.hold k cs):v=.hold k cs:=by
 cases v with
 | hold=>exact h
 | dead=>cases h
 | iref=>cases h
 | fn=>cases h
 | fv=>cases h
 | bor t' off st ag=>simp only[qW]at h;cases hb:Nat.beq t' t<;>rw[hb]at h<;>cases h
 | ref t' off st=>
  cases st with
  | nil=>cases h
  | cons s st=>simp only[qW]at h;cases hb:Nat.beq t' t<;>rw[hb]at h<;>cases h
theorem bj.rest {φ':Nat→ab} {F' F0:Nat→AV} {S':ab} {Vall:ab} (hw:bj w0 M S0 N S φ' F' a w) (hk:bw Vall w w1) (hVall:Free w0 M S φ' w Vall) (hb:ew F0 F') :
  ∀ {l:List (MA × yY)} {B:List MA} {vs:List Value} {V V':Nat→ab} {K:(Nat→AV)→Prop} {F:Nat→AV} {φ:Nat→ab},bj w0 M S0 N S' φ F a w1→pw w S a F0 V l vs→Ar w1 S' V' B vs→(∀ q,q∈l→∀ t,t∈q.2.slot→∀ k cs,F t=.hold k cs→F' t=.hold k cs)→
   (∀ i,Free w0 M S' φ w1 (V' i))→(∀ i i',i≠i'→∀ b o,V' i b o→¬V' i' b o)→zo l=true→lu l B K F→∃ F2 φ2,K F2∧bj w0 M S0 N S' φ2 F2 a w1∧∀ s b o,φ2 s b o→φ s b o∨∃ i,V' i b o
 | [],B,vs,V,V',K,F,φ,h,hl,hm,hkeep,hf,hd,hdist,hp=>by
  cases B with
  | nil=>exact⟨F,φ,hp,h,fun _ _ _ h=>.inl h⟩
  | cons _ _=>exact hp.elim
 | (m,p)::l,B,vs,V,V',K,F,φ,h,hl,hm,hkeep,hf,hd,hdist,hp=>by
  cases vs with
  | nil=>exact hl.elim
  | cons v vs=>
   cases B with
   | nil=>exact hm.elim
   | cons m' B=>
    simp only[zo,Bool.and_eq_true]at hdist
    have next:∀ (F1:Nat→AV) (φ1:Nat→ab),bj w0 M S0 N S' φ1 F1 a w1→(∀ s b o,φ1 s b o→φ s b o∨V' 0 b o)→(∀ q,q∈l→∀ t,t∈q.2.slot→∀ k cs,F1 t=.hold k cs→F' t=.hold k cs)→lu l B K F1→
      ∃ F2 φ2,K F2∧bj w0 M S0 N S' φ2 F2 a w1∧∀ s b o,φ2 s b o→φ s b o∨∃ i,V' i b o:=by
     intro F1 φ1 h1 hle hkeep1 hp1
     obtain⟨F2,φ2,e1,e2,e3⟩:=bj.rest hw hk hVall hb (V':=fun i=>V' (i+1)) h1 hl.2 hm.2 hkeep1 (fun i b o hi=>⟨fun t ht=>(hle t b o ht).elim ((hf (i+1) b o hi).1 t) (fun h0=>hd 0 (i+1) (by omega) b o h0 hi),(hf (i+1) b o hi).2⟩) (fun i i' hne=>hd (i+1) (i'+1) (by omega)) hdist.2 hp1
     exact⟨F2,φ2,e1,e2,fun s b o hs=>(e3 s b o hs).elim (fun h=>(hle s b o h).imp id (fun h=>⟨0,h⟩)) (fun⟨i,h⟩=>.inr ⟨i+1,h⟩)⟩
    have hne:∀ t,t∈p.slot→∀ q,q∈l→∀ t',t'∈q.2.slot→t'≠t:=fun t ht q hq t' ht' e=>by
     have h1:=List.all_eq_true.1 (List.all_eq_true.1 hdist.1 t ht) q hq
     have h2:q.2.slot.any (Nat.beq t)=true:=List.any_eq_true.2 ⟨t',ht',by rw[e];exact Nat.beq_refl t⟩
     rw[h2]at h1;cases h1
    cases p with
    | no=>exact next F φ h (fun _ _ _ h=>.inl h) (fun q hq=>hkeep q (List.mem_cons_of_mem _ hq)) (by cases m'<;>exact hp)
    | at_ t off st=>
     obtain⟨ag,cs,rfl,hv,k0,cs0,hF0,hvv⟩:=hl.1
     cases m' with
     | val=>exact hp.elim
     | ptr=>exact hp.elim
     | «mut» ag' out=>
      simp only[lu]at hp
      obtain⟨u',hu',hr'⟩:=bv.cells (show bv w1 S' (V' 0) ag' out v from hm.1)
      have hone:ag=none→(cellv w (bR w k0 (tvs a t)) off st 0).oneCell'=true:=fun e=>by
       subst e
       obtain⟨hl1,u1,hv1,hr1⟩:=hv
       have:cellv w (bR w k0 (tvs a t)) off st 0=u1 0:=hvv.symm.trans hv1
       rw[this]
       exact hr1.one (by simp at hl1;omega)
      have hcv:=oI hone
      rw[←hvv,hu']at hcv
      have hlen:out.length=ag.getD 1:=by have:=congrArg List.length hcv;simpa using this
      have heq:∀ d,d<out.length→u' d=cellv w (bR w k0 (tvs a t)) off st d:=fun d hd=>by
       have:=congrArg (fun l=>l[d]?) hcv
       simpa[hd,←hlen] using this
      cases hF:F t with
      | hold k bs=>
       rw[hF]at hp
       have hF':=hkeep (.mut ag cs,.at_ t off st) (List.mem_cons_self ..) t (by simp[yY.slot]) k bs hF
       have hkk:k0=k:=by
        obtain⟨c1,e1⟩:=hb t k bs hF'
        rw[hF0]at e1
        simp only[AV.hold.injEq]at e1
        exact e1.1
       subst hkk
       have fin:∀ out',out'.length=out.length→co w1 S' (V' 0) out' u'→∀ r j,bS bs off st=some (r,j)→jI bs off st→j+out.length≤r.length→lu l B K (updH F t k0 (fA bs off st (splice r j out')))→∃ F2 φ2,K F2∧bj w0 M S0 N S' φ2 F2 a w1∧∀ s b o,φ2 s b o→φ s b o∨∃ i,V' i b o:=by
        intro out' hol hr' r j h1 h2 h3 hp
        have hsame:=hw.cellv_same hF' h1 hk hVall
        obtain⟨φ1,e1,e2⟩:=h.back hF h1 h2 (by rw[hol];exact h3) (hf 0) (hr'.congr fun d hd=>(hsame d (by omega)).trans (heq d (by omega)).symm)
        refine next _ φ1 e1 e2 (fun q hq t' ht' k cs hc=>?_) hp
        have:=hne t (by simp[yY.slot]) q hq t' ht'
        rw[eU _ _ _ this]at hc
        exact hkeep q (List.mem_cons_of_mem _ hq) t' ht' k cs (J6 hc)
       cases st with
       | nil=>
        simp only at hp
        cases hble:Nat.ble (off+out.length) bs.length with
        | false=>rw[hble]at hp;exact hp.elim
        | true=>
         rw[hble]at hp
         simp only[cond_true,ek]at hp
         obtain⟨-,u0,hv0,hr0⟩:=hv
         have hu0:∀ d,d<out.length→u' d=u0 d:=fun d hd=>by
          have e1:=L9 (hv0.symm.trans hvv) d (by omega)
          rw[e1];exact heq d hd
         exact fin _ (qP _ _) (hr0.rt hr' hu0) bs off rfl trivial (Nat.le_of_ble_eq_true hble) hp
       | cons s st=>
        simp only at hp
        obtain⟨r,j,h1,h2,h3,hK⟩:=hp.out
        exact fin out rfl hr' r j h1 h2 h3 hK
      | _=>rw[hF]at hp;exact hp.elim
    | box t=>
     obtain⟨cs,rfl,hv,hvv⟩:=hl.1
     cases m' with
     | val=>exact hp.elim
     | «mut»=>exact hp.elim
     | ptr out=>
      simp only[lu]at hp
      cases hF:F t with
      | dead=>
       rw[hF]at hp
       obtain⟨X1,Y,h1,h2,h3,h4,h5⟩:=hm.1
       refine next _ _ (h.revive hF (hf 0) ⟨X1,Y,h1,h2,h3,by rw[←hvv];exact h4,by rw[←hvv];exact h5⟩) (fun s b o hs=>?_) (fun q hq t' ht' k cs hc=>?_) hp
       ·replace hs:(if s=t then V' 0 else φ s) b o:=hs
        split at hs
        ·exact .inr hs
        ·exact .inl hs
       ·have:=hne t (by simp[yY.slot]) q hq t' ht'
        rw[qf _ _ this]at hc
        exact hkeep q (List.mem_cons_of_mem _ hq) t' ht' k cs hc
      | _=>rw[hF]at hp;exact hp.elim
theorem EK.fresh {S V:ab} {m:MA} {v:Value} (h:EK w S V m v) (hf:match m with|.val _ _=>True|.mut _ cs=>gq cs|.ptr cs=>gq cs):EK w NO V m v:=by
 cases m with
 | val=>trivial
 | «mut» ag cs=>obtain⟨h1,u,h2,h3⟩:=h;exact⟨h1,u,h2,h3.fresh hf⟩
 | ptr cs=>obtain⟨X1,Y,h1,h2,h3,h4,h5⟩:=h;exact⟨X1,Y,h1,h2,h3,h4,h5.fresh hf⟩
theorem EK.mono {S S' V:ab} {m:MA} {v:Value} (h:EK w S V m v) (hS:∀ b o,S b o→S' b o):EK w S' V m v:=by
 cases m with
 | val=>trivial
 | «mut» ag cs=>exact nC.mono (m:=.mut ag cs) h hS
 | ptr cs=>exact nC.mono (m:=.ptr cs) h hS
theorem Ar.mono {S S':ab} (hS:∀ b o,S b o→S' b o):∀ {V:Nat→ab} {B:List MA} {vs:List Value},Ar w S V B vs→Ar w S' V B vs
 | _,[],[],_=>trivial
 | _,_::_,_::_,h=>⟨h.1.mono hS,Ar.mono hS h.2⟩
 | _,[],_::_,h=>h.elim
 | _,_::_,[],h=>h.elim
theorem Ar.fresh {S:ab} : ∀ {V:Nat→ab} {B:List MA} {vs:List Value},Ar w S V B vs→BR B→Ar w NO V B vs
 | _,[],[],_,_=>trivial
 | _,.val _ _::_,_::_,h,hf=>⟨trivial,Ar.fresh h.2 hf⟩
 | _,.mut _ _::_,_::_,h,hf=>⟨h.1.fresh hf.1,Ar.fresh h.2 hf.2⟩
 | _,.ptr _::_,_::_,h,hf=>⟨h.1.fresh hf.1,Ar.fresh h.2 hf.2⟩
 | _,[],_::_,h,_=>h.elim
 | _,_::_,[],h,_=>h.elim
theorem LZ {xs:List Operand} {ms:List Nat} (h:xs.length=ms.length):(xs.zip ms).map (fun x=>a.eval x.1)=xs.map a.eval:=by
 rw[show(fun x:Operand × Nat=>a.eval x.1)=a.eval ∘ Prod.fst from rfl,←List.map_map,List.map_fst_zip (by omega)]
theorem bj.callO (h:bj w0 M S0 N S φ F a w) {o:Oper} {f:Nat} {xs:List Operand} (hxs:Hk P f→(execOp a.eval o).run P w=.ok (.enter f (xs.map a.eval).toArray) w) {modes:List Nat} {K:(Nat→AV)→Prop} (hp:uK P N F o.dst f xs modes K)
  {Kc:Act→World→Prop} {Q:Exit→Act→World→Prop} (hkc:∀ F' a' w',K F'→St w0 M S0 N F' a' w'→Kc a' w'):o.wp P a w Kc Q:=by
 obtain⟨F',l,φ',V,hK,h',hle,hV,hVt,hVd,hb,hL⟩:=h.lendP hp
 cases hdl:(zo l&&Nat.beq xs.length modes.length) with
 | false=>rw[hdl]at hK;exact hK.elim
 | true=>
  rw[hdl]at hK
  simp only[Bool.and_eq_true]at hdl
  rw[LZ (Nat.eq_of_beq_eq_true hdl.2)]at hL
  obtain⟨b,A,hK,hA1,hA2⟩:=h'.valsP hL hK
  obtain⟨sh,B,k,rcs,hc,hsb,hK⟩:=hK.out
  have hVall:Free w0 M S φ' w (fun b o=>∃ i,V i b o):=fun b o ⟨i,hi⟩=>hV i b o hi
  have hrun:=hxs hc.1
  have fin:∀ S2:ab,(∀ b o,S2 b o→b<w.heap.size)→(∀ i b o,V i b o→¬S2 b o)→J1 w S2 V A (xs.map a.eval)→((∀ b o,S2 b o→S b o)∨(sh=false∧BR B))→o.wp P a w Kc Q:=by
   intro S2 hS2 hVS hA hcase
   have hy:uv P o a w fun v w1=>∃ F2,K F2∧St w0 M S0 N F2 (a.put o.dst v) w1:=by
    refine uv.enter hrun ?_
    refine(hc.2 w S2 V _ hS2 (fun i b o hi=>⟨(hV i b o hi).2.2.1,hVS i b o hi⟩) hVd hA).mono fun e w1 ⟨v,he,hk,X,V',S1,hX,hV',hS1,hVd',hXV,hXS,hVS1,hh,hr,hm⟩=>⟨v,he,?_⟩
    have h1:=h'.world hk hVall
    have reg:∀ Z:ab,(∀ b o,Z b o→(∃ i,V i b o)∨(b<w1.heap.size∧w.heap.size≤b))→Free w0 M S φ' w1 Z:=fun Z hZ b o hz=>by
     rcases hZ b o hz with hz|hz
     ·obtain⟨a1,a2,a3,a4⟩:=hVall b o hz
      exact⟨a1,a2,Nat.lt_of_lt_of_le a3 hk.size,a4⟩
     ·exact⟨fun t ht=>by have:=(h'.ex t b o ht).1;omega,fun hS=>by have:=(h'.sup b o hS).1;omega,hz.1,.inl (Nat.le_trans h'.old.size hz.2)⟩
    have h2:bj w0 M S0 N (fun b o=>S b o∨S1 b o) φ' F' a w1:=by
     refine h1.addS (V:=fun b o=>S1 b o∧((∃ i,V i b o)∨(b<w1.heap.size∧w.heap.size≤b))) (reg _ fun b o hz=>hz.2) (fun _ _ h=>.inl h) (fun b o hz=>?_)
     rcases hz with hz|hz
     ·exact .inl hz
     ·rcases hS1 b o hz with⟨q1,q2⟩|q
      ·rcases hcase with q3|⟨q3,-⟩
       ·exact .inl (q3 b o q2)
       ·rw[q3]at q1;cases q1
      ·exact .inr ⟨hz,q⟩
    have frees:∀ Z:ab,(∀ b o,Z b o→(∃ i,V i b o)∨(b<w1.heap.size∧w.heap.size≤b))→(∀ b o,Z b o→¬S1 b o)→Free w0 M (fun b o=>S b o∨S1 b o) φ' w1 Z:=fun Z hZ hn b o hz=>by
     obtain⟨a1,a2,a3⟩:=reg Z hZ b o hz
     exact⟨a1,fun h=>h.elim a2 (hn b o hz),a3⟩
    have hm2:Ar w1 (fun b o=>S b o∨S1 b o) V' B (xs.map a.eval):=by
     rcases hcase with q|⟨-,q⟩
     ·exact hm.mono fun b o hz=>hz.imp (q b o) id
     ·exact(hm.fresh q).mono fun _ _ h=>h.elim
    obtain⟨F2,φ2,e1,e2,e3⟩:=bj.rest h' hk hVall hb h2 hL hm2 (fun q _ t _ k cs e=>e) (fun i=>frees (V' i) (hV' i) (hVS1 i)) hVd' hdl.1 hK
    cases hd:o.dst with
    | none=>
     rw[hd]at e1
     exact⟨F2,e1,_,φ2,e2⟩
    | some d=>
     rw[hd]at e1
     have hXf:Free w0 M (fun b o=>S b o∨S1 b o) φ2 w1 X:=fun b o hz=>by
      obtain⟨a1,a2,a3⟩:=frees X hX hXS b o hz
      exact⟨fun t ht=>(e3 t b o ht).elim (a1 t) (fun⟨i,hi⟩=>hXV i b o hz hi),a2,a3⟩
     exact e2.putD_free (X:=X) ⟨NO,X,fun _ _ h=>h.elim,fun _ _ h=>h,fun _ _ h=>h.elim,hh,hr.mono (fun _ _ h=>.inr h) (fun _ _ h=>h)⟩ hXf e1
   exact hy Kc Q fun v w1 ⟨F2,q1,q2⟩=>hkc F2 _ w1 q1 q2
  rcases hsb with hbt|hfr
  ·exact fin S (fun b o hb=>(h'.sup b o hb).1) (fun i b o hi=>(hV i b o hi).2.1) (hA2 hbt) (.inl fun _ _ h=>h)
  ·exact fin (mC S φ') (fun b o hb=>hb.elim (fun hs=>(h'.sup b o hs).1) (fun⟨t,ht⟩=>(h'.ex t b o ht).1)) (fun i b o hi hs=>hs.elim (hV i b o hi).2.1 (fun⟨t,ht⟩=>(hV i b o hi).1 t ht)) hA1 (.inr hfr)
theorem vk {F:Nat→AV} {x:Operand} {K:Nat→Nat→Prop} (h:Fb F x K):∃ s t off,x=.tmp s∧F s=.ref t off []∧K t off:=by
 unfold Fb at h
 split at h
 case h_2=>exact h.elim
 rename_i s
 split at h
 case h_2=>exact h.elim
 rename_i t off hF
 exact⟨s,t,off,rfl,hF,h⟩
theorem bj.refBox (h:bj w0 M S0 N S φ F a w) {s t off:Nat} {cs:List C} (hs:F s=.ref t off []) (ht:F t=.hold .box cs) {g o:Nat} (hv:tvs a t=.pointer (some ⟨g,o,none⟩)):tvs a s=.pointer (some ⟨g,o+off,none⟩):=by
 have h1:=h.slot s
 rw[hs]at h1
 obtain⟨k,cs',r,j,g',o',e1,-,e3,e4⟩:=h1
 rw[ht]at e1
 simp only[AV.hold.injEq]at e1
 obtain⟨rfl,rfl⟩:=e1
 rw[hv]at e3
 simp only[plc,pn,Option.map_some,Option.some.injEq,Prod.mk.injEq]at e3
 rw[e4,←e3.1,←e3.2]
theorem vJ (w:World) (g o j d:Nat):bR w .box (.pointer (some ⟨g,o+j,none⟩)) d=bR w .box (.pointer (some ⟨g,o,none⟩)) (j+d):=by
 simp only[bR,Nat.add_assoc]
theorem HN {cs:List C} {off n j:Nat} {c:C} (h:(bp cs off n)[j]? = some c):j<n∧cs[off+j]? = some c:=by
 unfold bp at h
 rw[List.getElem?_take]at h
 split at h
 ·rename_i hj;exact⟨hj,by rw[List.getElem?_drop]at h;exact h⟩
 ·cases h
def piece (g o:Nat) (f:Nat→ab) (lo hi:Nat):ab:=fun b x=>(b=g∧o+lo≤x∧x<o+hi)∨∃ j,lo≤j∧j<hi∧f j b x
theorem sD {w:World} {S X1 Y:ab} {cs:List C} {f:Nat→ab} {g o lo n:Nat} (hn:lo+n≤cs.length)
  (hc:∀ j,j<cs.length→X1 g (o+j)∧(∃ z,cel w g (o+j)=some z)∧fro w g (o+j)=NF)
  (h1:∀ j c,cs[j]? = some c→ez w S (f j) c (bR w .box (.pointer (some ⟨g,o,none⟩)) j)) (h2:∀ j,j<cs.length→∀ b x,f j b x→Y b x) (h3:∀ j j',j<cs.length→j'<cs.length→j≠j'→∀ b x,f j b x→¬f j' b x) (hXY:∀ b x,X1 b x→¬Y b x) :
  nC w S (piece g o f lo (lo+n)) (.ptr (bp cs lo n)) (.pointer (some ⟨g,o+lo,none⟩)):=by
 have hl:(bp cs lo n).length=n:=by simp[bp];omega
 refine⟨fun b x=>b=g∧o+lo≤x∧x<o+(lo+n),fun b x=>∃ j,lo≤j∧j<lo+n∧f j b x,fun b x h=>.inl h,fun b x h=>.inr h,fun b x hx ⟨j,hj1,hj2,hj⟩=>?_,⟨g,o+lo,rfl,fun j hj=>?_⟩,fun j=>f (lo+j),fun j c hj=>?_,fun j hj b x hx=>⟨lo+j,by omega,by omega,hx⟩,fun j j' hj hj' hne=>h3 _ _ (by omega) (by omega) (by omega)⟩
 ·obtain⟨rfl,hx1,hx2⟩:=hx
  have:=(hc (x - o) (by omega)).1
  rw[show o+(x - o)=x by omega]at this
  exact hXY _ _ this (h2 j (by omega) _ _ hj)
 ·rw[hl]at hj
  have:=hc (lo+j) (by omega)
  rw[←Nat.add_assoc]at this
  exact⟨⟨rfl,by omega,by omega⟩,this.2⟩
 ·obtain⟨hj1,hj2⟩:=HN hj
  rw[vJ]
  exact h1 _ _ hj2
theorem bj.callP (h:bj w0 M S0 N S φ F a w) {o:Oper} {f:Nat} {xs:List Operand} (hxs:Hk P f→(execOp a.eval o).run P w=.ok (.enter f (xs.map a.eval).toArray) w) {n0 n1:Nat} {K:(Nat→AV)→Prop} (hp:sy P N F o.dst f xs n0 n1 K)
  {Kc:Act→World→Prop} {Q:Exit→Act→World→Prop} (hkc:∀ F' a' w',K F'→St w0 M S0 N F' a' w'→Kc a' w'):o.wp P a w Kc Q:=by
 unfold sy at hp
 split at hp
 case h_2=>exact hp.elim
 rename_i x0 x1
 obtain⟨s0,t,o0,rfl,hs0,hp⟩:=vk hp
 obtain⟨s1,t',o1,rfl,hs1,hp⟩:=vk hp
 split at hp
 case h_2=>exact hp.elim
 rename_i cs hF
 cases hb:(Nat.beq t' t&&Nat.ble (o0+n0) o1&&Nat.ble (o1+n1) cs.length) with
 | false=>rw[hb]at hp;exact hp.elim
 | true=>
 rw[hb]at hp
 simp only[cond_true,ek]at hp
 simp only[Bool.and_eq_true]at hb
 obtain⟨⟨hb1,hb2⟩,hb3⟩:=hb
 have hb1:=Nat.eq_of_beq_eq_true hb1
 have hb2:=Nat.le_of_ble_eq_true hb2
 have hb3:=Nat.le_of_ble_eq_true hb3
 subst hb1
 obtain⟨sh,B,k,rcs,hc,-,hK⟩:=hp.out
 have hst:=h.slot t'
 rw[hF]at hst
 obtain⟨X1,Y,hX1,hY,hXY,⟨g,q,hv,hcell⟩,ff,hf1,hf2,hf3⟩:=hst
 rw[hv]at hf1
 have e0:=h.refBox hs0 hF hv
 have e1:=h.refBox hs1 hF hv
 let V:Nat→ab:=fun i=>if i=0 then piece g q ff o0 (o0+n0) else if i=1 then piece g q ff o1 (o1+n1) else NO
 have hpφ:∀ lo hi,hi≤cs.length→∀ b x,piece g q ff lo hi b x→φ t' b x:=fun lo hi hhi b x hx=>by
  rcases hx with⟨rfl,h1,h2⟩|⟨j,-,h2,h3⟩
  ·have:=(hcell (x - q) (by omega)).1
   rw[show q+(x - q)=x by omega]at this
   exact hX1 _ _ this
  ·exact hY _ _ (hf2 j (by omega) b x h3)
 have hVφ:∀ i b x,V i b x→φ t' b x:=fun i b x hx=>by
  simp only[V]at hx
  split at hx
  ·exact hpφ _ _ (by omega) b x hx
  ·split at hx
   ·exact hpφ _ _ (by omega) b x hx
   ·exact hx.elim
 have hcX:∀ x,q≤x→x<q+cs.length→X1 g x:=fun x h1 h2=>by
  have:=(hcell (x - q) (by omega)).1
  rwa [show q+(x - q)=x by omega]at this
 have hpd:∀ lo hi lo' hi',hi≤lo'→hi'≤cs.length→∀ b x,piece g q ff lo hi b x→¬piece g q ff lo' hi' b x:=fun lo hi lo' hi' h1 h2 b x hx hx'=>by
  rcases hx with⟨rfl,h3,h4⟩|⟨j,h3,h4,h5⟩
  ·rcases hx' with⟨-,h6,h7⟩|⟨j',h6,h7,h8⟩
   ·omega
   ·exact hXY _ _ (hcX x (by omega) (by omega)) (hf2 j' (by omega) _ _ h8)
  ·rcases hx' with⟨rfl,h6,h7⟩|⟨j',h6,h7,h8⟩
   ·exact hXY _ _ (hcX x (by omega) (by omega)) (hf2 j (by omega) _ _ h5)
   ·exact hf3 j j' (by omega) (by omega) (by omega) b x h5 h8
 have hVd:∀ i i',i≠i'→∀ b x,V i b x→¬V i' b x:=fun i i' hne b x hx hx'=>by
  simp only[V]at hx hx'
  by_cases i0:i=0
  ·rw[if_pos i0]at hx
   by_cases i1:i'=0
   ·omega
   ·rw[if_neg i1]at hx'
    split at hx'
    ·exact hpd _ _ _ _ (by omega) (by omega) b x hx hx'
    ·exact hx'
  ·rw[if_neg i0]at hx
   by_cases i2:i=1
   ·rw[if_pos i2]at hx
    by_cases i1:i'=0
    ·rw[if_pos i1]at hx'
     exact hpd _ _ _ _ (by omega) (by omega) b x hx' hx
    ·rw[if_neg i1,if_neg (by omega)]at hx';exact hx'
   ·rw[if_neg i2]at hx;exact hx
 have h':=h.forget t'
 have hφ'le:∀ s b x,(if s=t' then NO else φ s) b x→s≠t'∧φ s b x:=fun s b x hx=>by
  split at hx
  ·exact hx.elim
  ·rename_i hne;exact⟨hne,hx⟩
 have hfree:∀ b x,φ t' b x→(∀ s,¬(if s=t' then NO else φ s) b x)∧¬S b x∧b<w.heap.size∧(w0.heap.size≤b∨M b x):=fun b x hx=>⟨fun s hs=>by
   obtain⟨h1,h2⟩:=hφ'le s b x hs
   exact h.dis s t' h1 b x h2 hx,h.disS t' b x hx,h.ex t' b x hx⟩
 have hVall:Free w0 M S (fun s=>if s=t' then NO else φ s) w (fun b x=>∃ i,V i b x):=fun b x ⟨i,hi⟩=>hfree b x (hVφ i b x hi)
 have hA:J1 w S V [.ptr (bp cs o0 n0),.ptr (bp cs o1 n1)] ([Operand.tmp s0,.tmp s1].map a.eval):=by
  refine⟨?_,?_,trivial⟩
  ·show nC w S (V 0) _ (tvs a s0)
   rw[e0]
   exact sD (by omega) hcell hf1 hf2 hf3 hXY
  ·show nC w S (V 1) _ (tvs a s1)
   rw[e1]
   exact sD (by omega) hcell hf1 hf2 hf3 hXY
 have hrun:=hxs hc.1
 have hy:uv P o a w fun v w1=>∃ F2,K F2∧St w0 M S0 N F2 (a.put o.dst v) w1:=by
  refine uv.enter hrun ?_
  refine(hc.2 w S V _ (fun b x hb=>(h'.sup b x hb).1) (fun i b x hi=>⟨(hVall b x ⟨i,hi⟩).2.2.1,(hVall b x ⟨i,hi⟩).2.1⟩) hVd hA).mono fun e w1 ⟨v,he,hk,X,V',S1,hX,hV',hS1,hVd',hXV,hXS,hVS1,hh,hr,hm⟩=>⟨v,he,?_⟩
  have h1:=h'.world hk hVall
  have reg:∀ Z:ab,(∀ b o,Z b o→(∃ i,V i b o)∨(b<w1.heap.size∧w.heap.size≤b))→Free w0 M S (fun s=>if s=t' then NO else φ s) w1 Z:=fun Z hZ b o hz=>by
   rcases hZ b o hz with hz|hz
   ·obtain⟨a1,a2,a3,a4⟩:=hVall b o hz
    exact⟨a1,a2,Nat.lt_of_lt_of_le a3 hk.size,a4⟩
   ·exact⟨fun t ht=>by have:=(h'.ex t b o ht).1;omega,fun hS=>by have:=(h'.sup b o hS).1;omega,hz.1,.inl (Nat.le_trans h'.old.size hz.2)⟩
  have h2:bj w0 M S0 N (fun b o=>S b o∨S1 b o) (fun s=>if s=t' then NO else φ s) (kill F t') a w1:=by
   refine h1.addS (V:=fun b o=>S1 b o∧((∃ i,V i b o)∨(b<w1.heap.size∧w.heap.size≤b))) (reg _ fun b o hz=>hz.2) (fun _ _ h=>.inl h) (fun b o hz=>?_)
   rcases hz with hz|hz
   ·exact .inl hz
   ·rcases hS1 b o hz with⟨q1,q2⟩|q
    ·exact .inl q2
    ·exact .inr ⟨hz,q⟩
  have frees:∀ Z:ab,(∀ b o,Z b o→(∃ i,V i b o)∨(b<w1.heap.size∧w.heap.size≤b))→(∀ b o,Z b o→¬S1 b o)→Free w0 M (fun b o=>S b o∨S1 b o) (fun s=>if s=t' then NO else φ s) w1 Z:=fun Z hZ hn b o hz=>by
   obtain⟨a1,a2,a3⟩:=reg Z hZ b o hz
   exact⟨a1,fun h=>h.elim a2 (hn b o hz),a3⟩
  have hm2:=hm.mono (S':=fun b o=>S b o∨S1 b o) fun b o hz=>hz
  unfold Kt at hK
  split at hK
  case h_2=>exact hK.elim
  rename_i c0 c1 _
  cases hl:(Nat.beq c0.length n0&&Nat.beq c1.length n1) with
  | false=>rw[hl]at hK;exact hK.elim
  | true=>
  rw[hl]at hK
  simp only[cond_true,ek]at hK
  simp only[Bool.and_eq_true]at hl
  have l0:=Nat.eq_of_beq_eq_true hl.1
  have l1:=Nat.eq_of_beq_eq_true hl.2
  have hm0:nC w1 (fun b o=>S b o∨S1 b o) (V' 0) (.ptr c0) (tvs a s0):=hm2.1
  have hm1:nC w1 (fun b o=>S b o∨S1 b o) (V' 1) (.ptr c1) (tvs a s1):=hm2.2.1
  rw[e0]at hm0
  rw[e1]at hm1
  obtain⟨Xa,Ya,ha1,ha2,ha3,⟨ga,oa,hea,ha4⟩,fa,ha5,ha6,ha7⟩:=hm0
  obtain⟨Xb,Yb,hb1,hb2',hb3',⟨gb,ob,heb,hb4⟩,fb,hb5,hb6,hb7⟩:=hm1
  obtain⟨rfl,rfl⟩ : g=ga∧q+o0=oa:=by simpa using hea
  obtain⟨rfl,rfl⟩ : g=gb∧q+o1=ob:=by simpa using heb
  let R:ab:=fun b x=>φ t' b x∧¬∃ i,V i b x
  let IR:Nat→Prop:=fun j=>¬(o0≤j∧j<o0+n0)∧¬(o1≤j∧j<o1+n1)
  have hIRc:∀ j,j<cs.length→IR j→R g (q+j):=fun j hj hi=>⟨hX1 _ _ (hcell j hj).1,fun⟨i,hx⟩=>by
    simp only[V]at hx
    split at hx
    · rcases hx with⟨-,h3,h4⟩|⟨j',h3,h4,h5⟩
      · exact hi.1 ⟨by omega,by omega⟩
      · exact hXY _ _ (hcell j hj).1 (hf2 j' (by omega) _ _ h5)
    · split at hx
      · rcases hx with⟨-,h3,h4⟩|⟨j',h3,h4,h5⟩
        · exact hi.2 ⟨by omega,by omega⟩
        · exact hXY _ _ (hcell j hj).1 (hf2 j' (by omega) _ _ h5)
      · exact hx⟩
  have hIRf:∀ j,j<cs.length→IR j→∀ b x,ff j b x→R b x:=fun j hj hi b x hx=>⟨hY _ _ (hf2 j hj b x hx),fun⟨i,hv'⟩=>by
    have gen:∀ lo n,lo+n≤cs.length→¬(lo≤j∧j<lo+n)→¬piece g q ff lo (lo+n) b x:=fun lo n hn hno hp=>by
      rcases hp with⟨rfl,h3,h4⟩|⟨j',h3,h4,h5⟩
      · exact hXY _ _ (hcX x (by omega) (by omega)) (hf2 j hj _ _ hx)
      · exact hf3 j j' hj (by omega) (fun e=>hno ⟨by omega,by omega⟩) b x hx h5
    simp only[V]at hv'
    split at hv'
    · exact gen _ _ (by omega) hi.1 hv'
    · split at hv'
      · exact gen _ _ (by omega) hi.2 hv'
      · exact hv'⟩
  have hRold:∀ b x,R b x→b<w.heap.size:=fun b x hx=>(h.ex t' b x hx.1).1
  have hRsame:bk R w w1:=fun b x hx=>⟨hk.cel b x (hRold b x hx) hx.2,hk.fro b x (hRold b x hx) hx.2⟩
  have hRV':∀ i b x,R b x→¬V' i b x:=fun i b x hx hv'=>by
   rcases hV' i b x hv' with h3|h3
   ·exact hx.2 h3
   ·have:=hRold b x hx;omega
  have hRS1:∀ b x,R b x→¬S1 b x:=fun b x hx hs=>by
   rcases hS1 b x hs with⟨-,h3⟩|h3|h3
   ·exact h.disS t' b x hx.1 h3
   ·exact hx.2 h3
   ·have:=hRold b x hx;omega
  have hSsame:bk S w w1:=fun b x hb=>⟨hk.cel b x (h.sup b x hb).1 (fun⟨i,hi⟩=>h.disS t' b x (hVφ i b x hi) hb),hk.fro b x (h.sup b x hb).1 (fun⟨i,hi⟩=>h.disS t' b x (hVφ i b x hi) hb)⟩
  let Z:ab:=fun b x=>V' 0 b x∨V' 1 b x∨R b x
  have hZ:Free w0 M (fun b o=>S b o∨S1 b o) (fun s=>if s=t' then NO else φ s) w1 Z:=fun b x hz=>by
   rcases hz with hz|hz|hz
   ·exact frees (V' 0) (hV' 0) (hVS1 0) b x hz
   ·exact frees (V' 1) (hV' 1) (hVS1 1) b x hz
   ·obtain⟨a1,a2,a3,a4⟩:=hfree b x hz.1
    exact⟨a1,fun hh=>hh.elim a2 (hRS1 b x hz),Nat.lt_of_lt_of_le a3 hk.size,a4⟩
  have hget:∀ j,(splice (splice cs o0 c0) o1 c1)[j]? = if o1≤j∧j<o1+n1 then c1[j - o1]? else if o0≤j∧j<o0+n0 then c0[j - o0]? else cs[j]?:=fun j=>by
   rw[gd (by rw[bW (by omega)];omega),gd (by omega),l0,l1]
  have hlen:(splice (splice cs o0 c0) o1 c1).length=cs.length:=by rw[bW (by rw[bW (by omega)];omega),bW (by omega)]
  have hsl:cz w1 (fun b o=>S b o∨S1 b o) (kill F t') (tvs a) Z (.hold .box (splice (splice cs o0 c0) o1 c1)) (tvs a t'):=by
   refine⟨fun b x=>(R b x∧∃ j,j<cs.length∧IR j∧b=g∧x=q+j)∨Xa b x∨Xb b x,fun b x=>(∃ j,j<cs.length∧IR j∧ff j b x)∨Ya b x∨Yb b x,fun b x hx=>?_,fun b x hx=>?_,fun b x hx hy=>?_,⟨g,q,hv,fun j hj=>?_⟩,fun j=>if o1≤j∧j<o1+n1 then fb (j - o1) else if o0≤j∧j<o0+n0 then fa (j - o0) else ff j,fun j c hj=>?_,fun j hj b x hx=>?_,fun j j' hj hj' hne b x hx hx'=>?_⟩
   ·rcases hx with hx|hx|hx
    ·exact .inr (.inr hx.1)
    ·exact .inl (ha1 _ _ hx)
    ·exact .inr (.inl (hb1 _ _ hx))
   ·rcases hx with⟨j,h3,h4,h5⟩|hx|hx
    ·exact .inr (.inr (hIRf j h3 h4 b x h5))
    ·exact .inl (ha2 _ _ hx)
    ·exact .inr (.inl (hb2' _ _ hx))
   ·rcases hx with⟨hx,j,h3,h4,rfl,rfl⟩|hx|hx
    ·rcases hy with⟨j',h5,h6,h7⟩|hy|hy
     ·exact hXY _ _ (hcell j h3).1 (hf2 j' h5 _ _ h7)
     ·exact hRV' 0 _ _ hx (ha2 _ _ hy)
     ·exact hRV' 1 _ _ hx (hb2' _ _ hy)
    ·rcases hy with⟨j',h5,h6,h7⟩|hy|hy
     ·exact hRV' 0 _ _ (hIRf j' h5 h6 b x h7) (ha1 _ _ hx)
     ·exact ha3 _ _ hx hy
     ·exact hVd' 0 1 (by omega) _ _ (ha1 _ _ hx) (hb2' _ _ hy)
    ·rcases hy with⟨j',h5,h6,h7⟩|hy|hy
     ·exact hRV' 1 _ _ (hIRf j' h5 h6 b x h7) (hb1 _ _ hx)
     ·exact hVd' 0 1 (by omega) _ _ (ha2 _ _ hy) (hb1 _ _ hx)
     ·exact hb3' _ _ hx hy
   ·rw[hlen]at hj
    by_cases hj1:o1≤j∧j<o1+n1
    ·have:=hb4 (j - o1) (by omega)
     rw[show q+o1+(j - o1)=q+j by omega]at this
     exact⟨.inr (.inr this.1),this.2⟩
    ·by_cases hj0:o0≤j∧j<o0+n0
     ·have:=ha4 (j - o0) (by omega)
      rw[show q+o0+(j - o0)=q+j by omega]at this
      exact⟨.inr (.inl this.1),this.2⟩
     ·have hR:=hIRc j hj ⟨hj0,hj1⟩
      have hs:=hRsame _ _ hR
      refine⟨.inl ⟨hR,j,hj,⟨hj0,hj1⟩,rfl,rfl⟩,?_,?_⟩
      ·rw[hs.1];exact(hcell j hj).2.1
      ·rw[hs.2];exact(hcell j hj).2.2
   ·rw[hget]at hj
    rw[hv]
    dsimp only
    by_cases hj1:o1≤j∧j<o1+n1
    ·rw[if_pos hj1]at hj ⊢
     have:=hb5 _ _ hj
     rwa [vJ,show o1+(j - o1)=j by omega]at this
    ·rw[if_neg hj1]at hj ⊢
     by_cases hj0:o0≤j∧j<o0+n0
     ·rw[if_pos hj0]at hj ⊢
      have:=ha5 _ _ hj
      rwa [vJ,show o0+(j - o0)=j by omega]at this
     ·rw[if_neg hj0]at hj ⊢
      have hjl:=(List.getElem?_eq_some_iff.1 hj).1
      have h3:=(hf1 j c hj).keep hSsame (fun b x hx=>hRsame b x (hIRf j hjl ⟨hj0,hj1⟩ b x hx))
      have hce:=(hRsame _ _ (hIRc j hjl ⟨hj0,hj1⟩)).1
      have:bR w1 .box (.pointer (some ⟨g,q,none⟩)) j=bR w .box (.pointer (some ⟨g,q,none⟩)) j:=by
       simp only[bR];rw[hce]
      rw[this]
      exact h3.mono (fun _ _ h=>.inl h) (fun _ _ h=>h)
   ·rw[hlen]at hj
    split at hx
    ·exact .inr (.inr (hb6 _ (by omega) b x hx))
    ·rename_i hj1
     split at hx
     ·exact .inr (.inl (ha6 _ (by omega) b x hx))
     ·rename_i hj0;exact .inl ⟨j,hj,⟨hj0,hj1⟩,hx⟩
   ·rw[hlen]at hj hj'
    have fbV:∀ i,i<n1→∀ b x,fb i b x→V' 1 b x:=fun i hi b x hx=>hb2' _ _ (hb6 i (by omega) b x hx)
    have faV:∀ i,i<n0→∀ b x,fa i b x→V' 0 b x:=fun i hi b x hx=>ha2 _ _ (ha6 i (by omega) b x hx)
    by_cases c1:o1≤j∧j<o1+n1
    ·rw[if_pos c1]at hx
     by_cases d1:o1≤j'∧j'<o1+n1
     ·rw[if_pos d1]at hx'
      exact hb7 _ _ (by omega) (by omega) (by omega) b x hx hx'
     ·rw[if_neg d1]at hx'
      by_cases d0:o0≤j'∧j'<o0+n0
      ·rw[if_pos d0]at hx'
       exact hVd' 0 1 (by omega) b x (faV _ (by omega) b x hx') (fbV _ (by omega) b x hx)
      ·rw[if_neg d0]at hx'
       exact hRV' 1 b x (hIRf j' hj' ⟨d0,d1⟩ b x hx') (fbV _ (by omega) b x hx)
    ·rw[if_neg c1]at hx
     by_cases c0':o0≤j∧j<o0+n0
     ·rw[if_pos c0']at hx
      by_cases d1:o1≤j'∧j'<o1+n1
      ·rw[if_pos d1]at hx'
       exact hVd' 0 1 (by omega) b x (faV _ (by omega) b x hx) (fbV _ (by omega) b x hx')
      ·rw[if_neg d1]at hx'
       by_cases d0:o0≤j'∧j'<o0+n0
       ·rw[if_pos d0]at hx'
        exact ha7 _ _ (by omega) (by omega) (by omega) b x hx hx'
       ·rw[if_neg d0]at hx'
        exact hRV' 0 b x (hIRf j' hj' ⟨d0,d1⟩ b x hx') (faV _ (by omega) b x hx)
     ·rw[if_neg c0']at hx
      by_cases d1:o1≤j'∧j'<o1+n1
      ·rw[if_pos d1]at hx'
       exact hRV' 1 b x (hIRf j hj ⟨c0',c1⟩ b x hx) (fbV _ (by omega) b x hx')
      ·rw[if_neg d1]at hx'
       by_cases d0:o0≤j'∧j'<o0+n0
       ·rw[if_pos d0]at hx'
        exact hRV' 0 b x (hIRf j hj ⟨c0',c1⟩ b x hx) (faV _ (by omega) b x hx')
       ·rw[if_neg d0]at hx'
        exact hf3 j j' hj hj' hne b x hx hx'
  have h3:=h2.revive (sL F t') hZ hsl
  cases hd:o.dst with
  | none=>
   rw[hd]at hK
   exact⟨_,hK,_,_,h3⟩
  | some d=>
   rw[hd]at hK
   have hXf:Free w0 M (fun b o=>S b o∨S1 b o) (fun s=>if s=t' then Z else if s=t' then NO else φ s) w1 X:=fun b o hz=>by
    obtain⟨a1,a2,a3⟩:=frees X hX hXS b o hz
    refine⟨fun s hs=>?_,a2,a3⟩
    replace hs:(if s=t' then Z else if s=t' then NO else φ s) b o:=hs
    split at hs
    ·rcases hs with hs|hs|hs
     ·exact hXV 0 b o hz hs
     ·exact hXV 1 b o hz hs
     ·rcases hX b o hz with h4|h4
      ·exact hs.2 h4
      ·have:=hRold b o hs;omega
    ·rename_i hne
     exact a1 s (by dsimp only;rw[if_neg hne];first|exact hs|(rw[if_neg hne]at hs;exact hs))
   exact h3.putD_free (X:=X) ⟨NO,X,fun _ _ h=>h.elim,fun _ _ h=>h,fun _ _ h=>h.elim,hh,hr.mono (fun _ _ h=>.inr h) (fun _ _ h=>h)⟩ hXf hK
 exact hy Kc Q fun v w1 ⟨F2,q1,q2⟩=>hkc F2 _ w1 q1 q2
theorem bj.callM (h:bj w0 M S0 N S φ F a w) {o:Oper} {f:Nat} {xs:List Operand} (hxs:Hk P f→(execOp a.eval o).run P w=.ok (.enter f (xs.map a.eval).toArray) w) {modes:List Nat} {K:(Nat→AV)→Prop} (hp:rO P N F o.dst f xs modes K)
  {Kc:Act→World→Prop} {Q:Exit→Act→World→Prop} (hkc:∀ F' a' w',K F'→St w0 M S0 N F' a' w'→Kc a' w'):o.wp P a w Kc Q:=by
 unfold rO at hp
 split at hp
 ·exact h.callP hxs hp hkc
 ·exact h.callO hxs hp hkc
end
end Go.Proofs.YtplcalfnngkffaaGreat.Ab
/- Ranges over a map of the call's own: the iterator takes the map. No condition. -/
namespace Go.Proofs.YtplcalfnngkffaaGreat.Ab
open Go.RowKit
open Go.ChangeMaps (setBlock)
def pb (TE:Nat→Option TI) (N:fF) (F:Nat→AV) (d T:Nat) (x:Operand) (K:(Nat→AV)→Prop):Prop:=
 match TE T with
 | some ⟨_,_,_,.mp _ _ _⟩=>gx F x fun F' ag cs=>match ag,cs with
  | none,[.m es]=>bO N F' d (.hold .one [.it none (es.map (·.1))]) K
  | _,_=>False
 | _=>False
inductive Nt (left:List Int) (K:Option (Int × List Int)→Prop):Prop
 |mk_ (h:(left=[]→K none)∧∀ l1 k l2,left=l1++k::l2→K (some (k,l1++l2)))
theorem Nt.mk {left:List Int} {K:Option (Int × List Int)→Prop} (h0:left=[]→K none) (h1:∀ l1 k l2,left=l1++k::l2→K (some (k,l1++l2))):Nt left K:=.mk_ ⟨h0,h1⟩
theorem Nt.out {left:List Int} {K:Option (Int × List Int)→Prop} (h:Nt left K):(left=[]→K none)∧∀ l1 k l2,left=l1++k::l2→K (some (k,l1++l2)):=by
 obtain⟨h⟩:=h;exact h
def sA (N:fF) (F:Nat→AV) (d:Nat) (x:Operand) (K:(Nat→AV)→Prop):Prop:=
 match x with
 | .tmp s=>(match F s with
   | .hold .one [.it _ left]=>Nt left fun r=>match r with
     | none=>bO N F d (.hold (.tup [none]) [.v (.bool false)]) K
     | some p=>bO N (updH F s .one [.it (some p.1) p.2]) d (.hold (.tup [none,none,none]) [.v (.bool true),.v (.int .i64 p.1),.x]) K
   | _=>False)
 | _=>False
def oN (N:fF) (F:Nat→AV) (d:Nat) (x:Operand) (K:(Nat→AV)→Prop):Prop:=
 match x with
 | .tmp s=>(match F s with
   | .hold .one [.it (some k) _]=>bO N F d (.hold (.tup [none,none]) [.v (.int .i64 k),.x]) K
   | _=>False)
 | _=>False
def iq (N:fF) (F:Nat→AV) (d:Nat) (x:Operand) (K:(Nat→AV)→Prop):Prop:=
 match x with
 | .tmp t=>(match F t with
   | .hold (.tup sh) cs=>bif aW cs then bO N F d (.hold (.tup sh) cs) K else bO N (updH F t (.tup sh) (splice cs 0 (List.replicate cs.length .x))) d (.hold (.tup sh) cs) K
   | .hold .one _=>bo F (.tmp t) fun av=>bO N F d av K
   | .hold .agg _=>bo F (.tmp t) fun av=>bO N F d av K
   | .hold .box _=>bo F (.tmp t) fun av=>bO N F d av K
   | .ref ..=>bo F (.tmp t) fun av=>bO N F d av K
   | .bor ..=>bo F (.tmp t) fun av=>bO N F d av K
   | .iref ..=>bo F (.tmp t) fun av=>bO N F d av K
   | .fn ..=>bo F (.tmp t) fun av=>bO N F d av K
   | .fv _=>bo F (.tmp t) fun av=>bO N F d av K
   | .dead=>bo F (.tmp t) fun av=>bO N F d av K)
 | x=>bo F x fun av=>bO N F d av K
section
variable {P:Program} {w0 w w1:World} {M S0 S:ab} {N:fF} {φ:Nat→ab} {F:Nat→AV} {a:Act} {TE:Nat→Option TI}
theorem KW {Y:ab} {cur:Option Int} {left:List Int} {v:Value} (h:ez w S Y (.it cur left) v):∃ (r b since c0 clock:Nat) (seen:Array Nat) (ents:Array MapEntry),v=.pointer (some ⟨r,0,none⟩)∧(∀ o,Y r o∧Y b o)∧mp w r=some (.mapIter (some b) since seen c0)∧mp w b=some (.map ents clock)∧
  ((ents.toList.map (·.born)).Nodup∧∀ x∈ents.toList,x.born<since)∧(since≤c0∧since≤clock)∧(∀ x∈ents.toList,x.val.oneCell'=true)∧(leftOf ents seen).toList.map (·.key)=left.map (Value.int .i64)∧(∀ k,cur=some k→c0=clock∧∃ e∈ents.toList,∃ s':Array Nat,seen=s'.push e.born∧e.key=.int .i64 k):=by
 generalize hc:C.it cur left=c at h
 cases h with
 | it _ r b since c0 clock seen ents cur' left' hF hr hb hst hcl hv hl hcur=>cases hc;exact⟨r,b,since,c0,clock,seen,ents,rfl,hF,hr,hb,hst,hcl,hv,hl,hcur⟩
 | _=>cases hc
theorem M3 {b:Nat} {o:Obj} (h:mp w b=some o):b<w.heap.size:=by
 rcases Nat.lt_or_ge b w.heap.size with h1|h1
 ·exact h1
 ·unfold mp at h
  rw[Array.getElem?_eq_none h1]at h
  cases h
theorem zL {b:Nat} {o:Obj} (h:b<w.heap.size):mp (w.alloc o) b=mp w b:=by
 unfold mp;rw[heap_alloc_old w o h]
theorem HL {ents:Array MapEntry} {es:List (Int × Value)} (he:ents.toList.map (fun e=>(e.key,e.val))=es.map (fun p=>(Value.int .i64 p.1,p.2))) (hes:∀ p∈es,p.2.oneCell'=true):∀ x∈ents.toList,x.val.oneCell'=true:=by
 intro y hy
 have:(y.key,y.val)∈ents.toList.map (fun e=>(e.key,e.val)):=List.mem_map.2 ⟨y,hy,rfl⟩
 rw[he]at this
 obtain⟨p,hp,e⟩:=List.mem_map.1 this
 have:=hes p hp
 simp only[Prod.mk.injEq]at e
 rw[←e.2];exact this
theorem bj.rangeW (h:bj w0 M S0 N S φ F a w) (hTE:∀ t i,TE t=some i→bA P t i) {d T:Nat} {x:Operand} {K:(Nat→AV)→Prop} (hp:pb TE N F d T x K) :
  ∃ v w1 F',K F'∧(Instr.range T (a.eval x)).run P w=.ok v w1∧St w0 M S0 N F' (a.put (some d) v) w1:=by
 unfold pb at hp
 split at hp
 case h_2=>exact hp.elim
 rename_i hT
 obtain⟨h1,-,-,-⟩:=(hTE _ _ hT).2.2
 obtain⟨F',ag,cs,V,φ',hK,h',hv,hV,hs,hVt⟩:=h.taken hp
 match ag,cs,hK with
 | none,[.m es],hK=>
  obtain⟨b,clock,ents,hx,hown,hb,he,hes,hst⟩:=Lo hv.rep1
  have hbl:=M3 hb
  let o:Obj:=.mapIter (some b) clock #[] clock
  have h2:=h'.world (w1:=w.alloc o) (cQ w _) (fun _ _ h=>h.elim)
  have hleft:leftOf ents #[]=ents:=by unfold leftOf;simp
  obtain⟨F2,hK2,hst2⟩:=h2.putD_free (X:=fun b o=>V b o∨b=w.heap.size) (v:=.pointer (some ⟨w.heap.size,0,none⟩)) (F:=F')
   (fW (.it _ w.heap.size b clock clock clock #[] ents none (es.map (·.1)) (fun o=>⟨.inr rfl,.inl (hown o)⟩) (by unfold mp;rw[heap_alloc_new]) ((zL hbl).trans hb) hst ⟨Nat.le_refl _,Nat.le_refl _⟩ (HL he hes)
     (by
       rw[hleft]
       have:=congrArg (List.map Prod.fst) he
       simpa[List.map_map,Function.comp_def] using this) (fun k hk=>by cases hk))) (fun b o hb=>by
   rcases hb with hb|hb
   · obtain⟨a1,a2,a3,a4⟩:=hV b o hb
     exact⟨a1,a2,by rw[f0];omega,a4⟩
   · exact⟨fun t ht=>by have:=(h'.ex t b o ht).1;omega,fun hS=>by have:=(h'.sup b o hS).1;omega,by rw[f0];omega,.inl (by rw[hb];exact h'.old.size)⟩) hK
  exact⟨_,_,F2,hK2,by rw[hx];exact run_range_map w T _ _ b ents clock h1 (oJ hb),hst2⟩
theorem sO {v:Value} (hv:v.oneCell'=true):v.cells = #[v]:=by
 cases v<;>first|rfl|(cases hv)
theorem Jc {ents:Array MapEntry} {seen:Array Nat} {e:MapEntry} (hn:(ents.toList.map (·.born)).Nodup) (he:e∈(leftOf ents seen).toList):∃ l1 l2,(leftOf ents seen).toList=l1++e::l2∧(leftOf ents (seen.push e.born)).toList=l1++l2:=by
 obtain⟨l1,l2,hl⟩:=List.append_of_mem he
 refine⟨l1,l2,hl,?_⟩
 have h1:(leftOf ents (seen.push e.born)).toList=(leftOf ents seen).toList.filter fun y=>!(y.born == e.born):=by
  unfold leftOf
  rw[Array.toList_filter,Array.toList_filter,List.filter_filter]
  congr 1
  funext y
  rw[contains_push,Bool.not_or,Bool.and_comm]
 have hn2:((leftOf ents seen).toList.map (·.born)).Nodup:=by
  unfold leftOf
  rw[Array.toList_filter]
  exact hn.sublist (List.filter_sublist.map _)
 rw[hl]at hn2
 rw[h1,hl,List.filter_append,List.filter_cons]
 simp only[beq_self_eq_true,Bool.not_true,Bool.false_eq_true,if_false]
 rw[List.map_append,List.map_cons,List.nodup_append,List.nodup_cons]at hn2
 obtain⟨-,⟨hn3,-⟩,hn4⟩:=hn2
 have e1:l1.filter (fun y=>!(y.born == e.born))=l1:=List.filter_eq_self.2 fun y hy=>by
  have:=hn4 y.born (List.mem_map.2 ⟨y,hy,rfl⟩) e.born (List.mem_cons_self ..)
  simpa using this
 have e2:l2.filter (fun y=>!(y.born == e.born))=l2:=List.filter_eq_self.2 fun y hy=>by
  have:y.born≠e.born:=fun e'=>hn3 (by rw[←e'];exact List.mem_map.2 ⟨y,hy,rfl⟩)
  simpa using this
 rw[e1,e2]
theorem tup3 {w:World} {S:ab} {F:Nat→AV} {tv:Nat→Value} {k:Int} {v:Value} (hv:v.oneCell'=true):cz w S F tv NO (.hold (.tup [none,none,none]) [.v (.bool true),.v (.int .i64 k),.x]) (.tuple #[.bool true,.int .i64 k,v]):=by
 have hc:v.cells = #[v]:=sO hv
 refine⟨NO,NO,fun _ _ h=>h,fun _ _ h=>h,fun _ _ h=>h.elim,⟨_,rfl,⟨rfl,rfl,hc,trivial⟩,rfl⟩,fun _=>NO,fun j c hj=>?_,fun _ _ _ _ h=>h,fun _ _ _ _ _ _ _ h=>h.elim⟩
 have ht:kF (.tuple #[.bool true,.int .i64 k,v])=[.bool true,.int .i64 k,v]:=by
  show #[Value.bool true].toList++(#[Value.int .i64 k].toList++(v.cells.toList++[]))=_
  rw[hc];rfl
 simp only[bR,ht]
 match j,hj with
 | 0,hj=>simp at hj;subst hj;exact .v _ _ rfl
 | 1,hj=>simp at hj;subst hj;exact .v _ _ rfl
 | 2,hj=>simp at hj;subst hj;exact .x _ _ hv
 | j+3,hj=>simp at hj
theorem tup2 {w:World} {S:ab} {F:Nat→AV} {tv:Nat→Value} {k:Int} {v:Value} (hv:v.oneCell'=true):cz w S F tv NO (.hold (.tup [none,none]) [.v (.int .i64 k),.x]) (.tuple #[.int .i64 k,v]):=by
 have hc:v.cells = #[v]:=sO hv
 refine⟨NO,NO,fun _ _ h=>h,fun _ _ h=>h,fun _ _ h=>h.elim,⟨_,rfl,⟨rfl,hc,trivial⟩,rfl⟩,fun _=>NO,fun j c hj=>?_,fun _ _ _ _ h=>h,fun _ _ _ _ _ _ _ h=>h.elim⟩
 have ht:kF (.tuple #[.int .i64 k,v])=[.int .i64 k,v]:=by
  show #[Value.int .i64 k].toList++(v.cells.toList++[])=_
  rw[hc];rfl
 simp only[bR,ht]
 match j,hj with
 | 0,hj=>simp at hj;subst hj;exact .v _ _ rfl
 | 1,hj=>simp at hj;subst hj;exact .x _ _ hv
 | j+2,hj=>simp at hj
theorem tup1 {w:World} {S:ab} {F:Nat→AV} {tv:Nat→Value} {v:Value} (hv:v.oneCell'=true):cz w S F tv NO (.hold (.tup [none]) [.v v]) (.tuple #[v]):=by
 have hc:v.cells = #[v]:=sO hv
 refine⟨NO,NO,fun _ _ h=>h,fun _ _ h=>h,fun _ _ h=>h.elim,⟨_,rfl,⟨hc,trivial⟩,rfl⟩,fun _=>NO,fun j c hj=>?_,fun _ _ _ _ h=>h,fun _ _ _ _ _ _ _ h=>h.elim⟩
 have ht:kF (.tuple #[v])=[v]:=by
  show v.cells.toList++[]=_
  rw[hc];rfl
 simp only[bR,ht]
 match j,hj with
 | 0,hj=>simp at hj;subst hj;exact .v _ _ hv
 | j+1,hj=>simp at hj
theorem bj.entryW (h:bj w0 M S0 N S φ F a w) {d:Nat} {x:Operand} {K:(Nat→AV)→Prop} (hp:oN N F d x K) :
  ∃ v F',K F'∧(Instr.entry (a.eval x)).run P w=.ok v w∧St w0 M S0 N F' (a.put (some d) v) w:=by
 cases x with
 | tmp s=>
  simp only[oN]at hp
  have hs:=h.slot s
  split at hp
  case h_2=>exact hp.elim
  rename_i k left hF
  rw[hF]at hs
  obtain⟨X1,Y,e1,e2,e3,e4,f,f1,f2,f3⟩:=hs
  obtain⟨r,b,since,c0,clock,seen,ents,hv,hown,hr,hb,hst,hcl,hvv,hl,hcur⟩:=KW (f1 0 _ rfl)
  obtain⟨rfl,e,he,s',rfl,hk⟩:=hcur k rfl
  have hv:tvs a s=.pointer (some ⟨r,0,none⟩):=hv
  obtain⟨F',hK,hst'⟩:=h.putD_new (v:=.tuple #[.int .i64 k,e.val]) (.same (tup2 (hvv e he))) hp
  refine⟨_,F',hK,?_,hst'⟩
  show(Instr.entry (tvs a s)).run P w=_
  rw[hv,←hk]
  exact run_entry_at w r b since s' ents c0 e (A9 hr) (oJ hb) he hst.1
 | _=>exact hp.elim
theorem bj.nextW (h:bj w0 M S0 N S φ F a w) {d ty:Nat} {x:Operand} {K:(Nat→AV)→Prop} (hp:sA N F d x K) :
  ∃ v w1 F',K F'∧(Instr.next (a.eval x) false ty).run P w=.ok v w1∧St w0 M S0 N F' (a.put (some d) v) w1:=by
 cases x with
 | tmp s=>
  simp only[sA]at hp
  have hs:=h.slot s
  split at hp
  case h_2=>exact hp.elim
  rename_i cur left hF
  rw[hF]at hs
  obtain⟨X1,Y,e1,e2,e3,e4,f,f1,f2,f3⟩:=hs
  obtain⟨r,b,since,c0,clock,seen,ents,hv,hown,hr,hb,hst,hcl,hvv,hl,hcur⟩:=KW (f1 0 _ rfl)
  have hv:tvs a s=.pointer (some ⟨r,0,none⟩):=hv
  obtain⟨p0,p1⟩:=hp.out
  show ∃ v w1 F',K F'∧(Instr.next (tvs a s) false ty).run P w=.ok v w1∧St w0 M S0 N F' (a.put (some d) v) w1
  rw[hv]
  rcases run_next_at (P:=P) w ty r b since c0 seen ents clock (A9 hr) (oJ hb) hst.2 hcl.1 with⟨hsz,hrun⟩|⟨e,he,w2,hw2,hrun⟩
  ·have hle:left=[]:=by
    have:(leftOf ents seen).toList=[]:=by
     rw[←List.length_eq_zero_iff];simpa using hsz
    rw[this]at hl
    exact List.map_eq_nil_iff.1 hl.symm
   obtain⟨F',hK,hst'⟩:=h.putD_new (v:=.tuple #[.bool false]) (.same (tup1 rfl)) (p0 hle)
   exact⟨_,_,F',hK,hrun,hst'⟩
  ·obtain⟨l1,l2,q1,q2⟩:=Jc hst.1 he
   have hem:=(mem_left he).1
   rw[q1,List.map_append,List.map_cons]at hl
   obtain⟨m1,m2,hm,hm1,hm2⟩:=List.map_eq_append_iff.1 hl.symm
   cases m2 with
   | nil=>simp at hm2
   | cons k m2=>
    simp only[List.map_cons,List.cons.injEq]at hm2
    obtain⟨hk,hm2⟩:=hm2
    have hp:=p1 m1 k m2 hm
    have h2:bj w0 M S0 N S φ F a w2:=by
     rcases hw2 with rfl|rfl
     ·exact h
     ·exact h.more (w1:={w with drawn:=w.drawn+1}) (fun _ _ h=>h) (fun _ _ h=>.inl h) ⟨rfl,rfl,rfl,Nat.le_refl _,fun _ _ _=>rfl,fun _ _ _ _=>rfl,fun _ _ _ _=>rfl⟩
    have hheap:w2.heap=w.heap:=by rcases hw2 with rfl|rfl<;>rfl
    have hr2:mp w2 r=some (.mapIter (some b) since seen c0):=by unfold mp;rw[hheap];exact hr
    have hb2:mp w2 b=some (.map ents clock):=by unfold mp;rw[hheap];exact hb
    have hlt:r<w2.heap.size:=M3 hr2
    have hbr:b≠r:=fun e=>by rw[e,hr2]at hb2;cases hb2
    let o':Obj:=.mapIter (some b) since (seen.push e.born) clock
    let w3:World:=setBlock w2 r o'
    have hh:∀ b',w3.heap[b']? = if b'=r then some o' else w2.heap[b']?:=fun b'=>rc (w:=w2) (b:=r) (o:=o') hlt b'
    have hother:∀ b',b'≠r→∀ o,cel w3 b' o=cel w2 b' o∧fro w3 b' o=fro w2 b' o:=fun b' hne o=>by
     have hb':w3.heap[b']? = w2.heap[b']?:=(hh b').trans (if_neg hne)
     refine⟨?_,Prod.ext ?_ ?_⟩
     ·show World.cell? w3 _=World.cell? w2 _
      unfold World.cell?;simp only[hb']
     ·show World.frozen? w3 _=World.frozen? w2 _
      unfold World.frozen?;simp only[hb']
     ·show mp w3 b'=mp w2 b'
      unfold mp;rw[hb']
    have hcelr:∀ o,cel w3 r o=cel w2 r o:=fun o=>by
     have h1:w3.heap[r]? = some o':=(hh r).trans (if_pos rfl)
     have h2:=A9 hr2
     show World.cell? w3 _=World.cell? w2 _
     unfold World.cell?;simp[h1,h2,o']
    have hYr:∀ o,φ s r o:=fun o=>e2 _ _ (f2 0 (Nat.zero_lt_one) _ _ (hown o).1)
    have hk1:bw (φ s) w2 w3:=by
     refine⟨rfl,rfl,rfl,by simp[w3,setBlock],fun b' hb' hn=>(hh b').trans (if_neg fun e=>?_),fun b' o hb' hn=>?_,fun b' o hb' hn=>?_⟩
     ·subst e;exact hn 0 (hYr 0)
     ·by_cases e:b'=r
      ·subst e;exact hcelr o
      ·exact(hother b' e o).1
     ·by_cases e:b'=r
      ·subst e;exact absurd (hYr o) hn
      ·exact(hother b' e o).2
    have hsame:∀ X:ab,(∀ b' o,X b' o→b'≠r)→bk X w2 w3:=fun X hX b' o hb'=>hother b' (hX b' o hb') o
    have h3:bj w0 M S0 N S (fun t=>if t=s then φ s else φ t) (updH F s .one [.it (some k) (m1++m2)]) a w3:=by
     refine h2.upd (X:=φ s) hk1 hF (fun b o hb=>.inl hb) ⟨NO,Y,fun _ _ h=>h.elim,e2,fun _ _ h=>h.elim,rfl,f,fun j c hj=>?_,fun j hj=>f2 j hj,fun j j' hj hj'=>f3 j j' hj hj'⟩
     match j,hj with
     | 0,hj=>
      simp at hj;subst hj
      show ez w3 S (f 0) _ (tvs a s)
      rw[hv]
      refine .it _ r b since clock clock (seen.push e.born) ents (some k) (m1++m2) hown (by show mp w3 r=_;unfold mp;rw[(hh r).trans (if_pos rfl)]) (by
        have:mp w3 b=mp w2 b:=congrArg Prod.snd (hother b hbr 0).2
        rw[this];exact hb2) hst ⟨hcl.2,hcl.2⟩ hvv (by rw[q2,List.map_append,List.map_append,hm1,hm2]) (fun k' hk'=>by cases hk';exact⟨rfl,e,hem,seen,rfl,hk.symm⟩)
     | j+1,hj=>simp at hj
    obtain⟨F',hK,hst'⟩:=h3.putD_new (v:=.tuple #[.bool true,.int .i64 k,e.val]) (.same (tup3 (hvv e hem))) hp
    exact⟨_,_,F',hK,by rw[hrun,←hk],hst'⟩
 | _=>exact hp.elim
theorem bj.moveW (h:bj w0 M S0 N S φ F a w) {d:Nat} {x:Operand} {K:(Nat→AV)→Prop} (hp:iq N F d x K) :
  ∃ F',K F'∧St w0 M S0 N F' (a.put (some d) (a.eval x)) w:=by
 have std:bo F x (fun av=>bO N F d av K)→∃ F',K F'∧St w0 M S0 N F' (a.put (some d) (a.eval x)) w:=fun hp=>by
  obtain⟨av,hK,hs⟩:=h.move hp
  exact h.putD_new (.same hs) hK
 cases x with
 | tmp t=>
  simp only[iq]at hp
  split at hp
  ·rename_i sh cs hF
   cases hn:aW cs with
   | true=>
    refine std ?_
    simp only[bo,hF,hn,cond_true]
    rw[hn]at hp;exact hp
   | false=>
    rw[hn]at hp
    simp only[cond_false]at hp
    have hs:=h.slot t
    rw[hF]at hs
    obtain⟨X1,Y0,-,-,-,h4,-⟩:=hs
    obtain⟨V,X,h1,h2,hX,h3,h5⟩:=h.take (off:=0) (n:=cs.length) hF (by omega)
    have ht:bp cs 0 cs.length=cs:=by simp[bp]
    rw[ht]at h3
    have hfree:Free w0 M S (fun s=>if s=t then X else φ s) w V:=fun b o hb=>⟨fun s hb'=>by
      simp only at hb'
      by_cases e:s=t
      · rw[if_pos e]at hb';exact h2 b o hb hb'
      · rw[if_neg e]at hb';exact h.dis s t e b o hb' (h1 b o hb),h.disS t b o (h1 b o hb),h.ex t b o (h1 b o hb)⟩
    obtain⟨F2,hK2,hst⟩:=h5.putD_free (X:=V) (v:=tvs a t) ⟨NO,V,fun _ _ h=>h.elim,fun _ _ h=>h,fun _ _ h=>h.elim,(show fy w NO (.tup sh) cs.length (tvs a t) from h4),h3.congr fun j hj=>by rw[Nat.zero_add]⟩ hfree hp
    exact⟨F2,hK2,hst⟩
  all_goals exact std hp
 | const v=>exact std hp
 | global g=>exact std hp
 | func f=>exact std hp
end
end Go.Proofs.YtplcalfnngkffaaGreat.Ab
/- Abstract runs: one operation, a region in the text's order. No condition. -/
namespace Go.Proofs.YtplcalfnngkffaaGreat.Ab
open Go.RowKit
def BY (F:Nat→AV) (d:Nat) (b:Bool):Nat→AV:=fun t=>bif Nat.beq t d then .hold .one [.v (.bool b)] else F t
def gz (F:Nat→AV) (ops:Array Oper) (g:Option (Nat × Bool)) (K1 K0:(Nat→AV)→Prop):Prop:=
 match g with
 | none=>K1 F
 | some (j,want)=>match(ops[j]?).bind (·.dst) with
  | some d=>(match F d with
    | .hold .one [.v (.bool b)]=>Bf b (bif want then K1 (BY F d true) else K0 (BY F d true)) (bif want then K0 (BY F d false) else K1 (BY F d false))
    | .hold (.tup _) _=>K0 F
    | _=>False)
  | none=>False
def wa (c:Call):Option (Nat × Operand × Operand):=
 match c.callee with
 | .builtin .append=>(match c.args.toList,c.argTypes.toList with|[x,y],[T,T2]=>bif Nat.beq T T2 then some (T,x,y) else none|_,_=>none)
 | _=>none
def qm (P:Program) (TE:Nat→Option TI) (N:fF) (d:Nat) (op:Op) (K:(Nat→AV)→Prop) (F:Nat→AV):Prop:=
 match op with
 | .assign x=>jX N F d x K
 | .box _ x=>K2 N F d x K
 | .build T ps=>jP TE N F d T ps.toList K
 | .buildSlice T n ps=>ir TE N F d T n ps.toList K
 | .range T x=>pb TE N F d T x K
 | .move x=>iq N F d x K
 | .next x str=>bif str then False else sA N F d x K
 | .entry x=>oN N F d x K
 | .call c=>(match wa c with
   | some p=>yH TE N F d p.1 p.2.1 p.2.2 K
   | none=>dL P TE F (.call c) fun av=>bO N F d av K)
 | op=>dL P TE F op fun av=>bO N F d av K
def GD:List (Nat × List Nat)→Nat→Option (List Nat)
 | [],_=>none
 | p::l,f=>bif Nat.beq f p.1 then some p.2 else GD l f
def KU (N:fF) (F:Nat→AV) (op:Op):Option (Nat × List Operand × List Nat):=
 match op with
 | .call c=>(match c.callee with
   | .value (.func f)=>(match GD N.mo f with|some ms=>some (f,c.args.toList,ms)|none=>none)
   | .value (.tmp t)=>(match F t with
     | .fn f caps=>(match GD N.mo f with|some ms=>some (f,c.args.toList++caps.map .tmp,ms)|none=>none)
     | _=>none)
   | _=>none)
 | _=>none
def n6 (P:Program) (TE:Nat→Option TI) (N:fF) (ops:Array Oper) (o:Oper) (K:(Nat→AV)→Prop) (F:Nat→AV):Prop:=
 gz F ops o.guard (fun F=>match KU N F o.op with
   | some p=>rO P N F o.dst p.1 p.2.1 p.2.2 K
   | none=>match o.dst with
     | none=>(match o.op with|.store T x y=>mR TE F T x y K|.mapUpdate T m x y=>pa TE F T m x y K|_=>False)
     | some d=>qm P TE N d o.op K F)
  (fun F=>match o.dst with|none=>K F|some d=>bO N F d (.hold (.tup []) []) K)
def Jy (P:Program) (TE:Nat→Option TI) (N:fF) (ops:Array Oper):List Oper→((Nat→AV)→Prop)→(Nat→AV)→Prop
 | [],K,F=>K F
 | o::rest,K,F=>n6 P TE N ops o (Jy P TE N ops rest K) F
section
variable {P:Program} {w0 w w1:World} {M S0 S:ab} {N:fF} {φ:Nat→ab} {F:Nat→AV} {a:Act} {TE:Nat→Option TI}
theorem u5 (h:bj w0 M S0 N S φ F a w) {ops:Array Oper} {o:Oper} {K1 K0:(Nat→AV)→Prop} (hp:gz F ops o.guard K1 K0) :
  (Region.wanted o (yielded ops a.tmps)=true∧K1 F)∨(Region.wanted o (yielded ops a.tmps)=false∧K0 F):=by
 unfold gz at hp
 unfold Region.wanted
 cases hg:o.guard with
 | none=>rw[hg]at hp;exact .inl ⟨rfl,hp⟩
 | some p=>
  obtain⟨j,want⟩:=p
  rw[hg]at hp
  simp only at hp ⊢
  cases hd:(ops[j]?).bind (·.dst) with
  | none=>rw[hd]at hp;exact hp.elim
  | some d=>
   rw[hd]at hp
   simp only at hp
   split at hp
   case h_3=>exact hp.elim
   case h_2=>
    rename_i sh cs hF
    have hs:=h.slot d
    rw[hF]at hs
    obtain⟨X1,Y,-,-,-,⟨q,htv,-,-⟩,-⟩:=hs
    have hyld:yielded ops a.tmps j=none:=by
     unfold yielded
     rw[hd]
     simp only[Option.bind_some]
     cases hx:a.tmps[d]? with
     | none=>rfl
     | some x=>
      have:tvs a d=x:=by simp[tvs,Array.getD_eq_getD_getElem?,hx]
      rw[this]at htv
      rw[htv]
    rw[hyld]
    exact .inr ⟨rfl,hp⟩
   rename_i b hF
   have hs:=h.slot d
   rw[hF]at hs
   obtain⟨X1,Y,-,-,-,-,f,h1,-⟩:=hs
   have hb:=h1 0 _ rfl
   have htv:tvs a d=.bool b:=by
    generalize hy:bR w Kd.one (tvs a d) 0=y at hb
    cases hb
    exact hy
   have hyld:yielded ops a.tmps j=some b:=by
    unfold yielded
    rw[hd]
    simp only[Option.bind_some]
    cases hx:a.tmps[d]? with
    | none=>
     have:tvs a d=undef:=by simp[tvs,Array.getD_eq_getD_getElem?,hx]
     rw[this]at htv;cases htv
    | some x=>
     have:tvs a d=x:=by simp[tvs,Array.getD_eq_getD_getElem?,hx]
     rw[this]at htv
     rw[htv]
   have hset:BY F d b=F:=by
    funext t
    unfold BY
    cases ht:Nat.beq t d with
    | true=>have:=Nat.eq_of_beq_eq_true ht;subst this;rw[hF];rfl
    | false=>rfl
   rw[hyld]
   replace hp:=Bf.out hp
   cases b<;>cases want<;>rw[hset]at hp
   ·exact .inl ⟨rfl,hp⟩
   ·exact .inr ⟨rfl,hp⟩
   ·exact .inr ⟨rfl,hp⟩
   ·exact .inl ⟨rfl,hp⟩
theorem Kn {w:World} {S:ab} {F:Nat→AV} {tv:Nat→Value} : cz w S F tv NO (.hold (.tup []) []) undef:=
 ⟨NO,NO,fun _ _ h=>h,fun _ _ h=>h,fun _ _ h=>h.elim,⟨#[],rfl,trivial,rfl⟩,fun _=>NO,fun _ _ hj=>(by simp at hj),fun _ hj=>absurd hj (Nat.not_lt_zero _),fun _ _ hj=>absurd hj (Nat.not_lt_zero _)⟩
theorem uF {c:Call} {p:Nat × Operand × Operand} (h:wa c=some p):c = ⟨.builtin .append,#[p.2.1,p.2.2],#[p.1,p.1]⟩:=by
 obtain⟨callee,args,ts⟩:=c
 unfold wa at h
 simp only at h
 split at h
 ·split at h
  ·rename_i x y T T2 hx hT
   cases hb:Nat.beq T T2 with
   | false=>rw[hb]at h;cases h
   | true=>
    rw[hb]at h
    simp only[cond_true,Option.some.injEq]at h
    have:=Nat.eq_of_beq_eq_true hb
    subst this h
    have e1:args = #[x,y]:=by apply Array.ext';simpa using hx
    have e2:ts = #[T,T]:=by apply Array.ext';simpa using hT
    rw[e1,e2]
  ·cases h
 ·cases h
theorem bj.dst (h:bj w0 M S0 N S φ F a w) (hTE:∀ t i,TE t=some i→bA P t i) {o:Oper} {d:Nat} (hd:o.dst=some d) {K:(Nat→AV)→Prop} (hp:qm P TE N d o.op K F)
  {Kc:Act→World→Prop} {Q:Exit→Act→World→Prop} (hk:∀ F' a' w',K F'→St w0 M S0 N F' a' w'→Kc a' w'):o.wp P a w Kc Q:=by
 have pure1:dL P TE F o.op (fun av=>bO N F d av K)→o.wp P a w Kc Q:=fun hp=>by
  obtain⟨av,hK,hy⟩:=h.pure_ hTE hp
  refine hy Kc Q fun v w' hn=>?_
  obtain⟨F',hK',hst⟩:=h.putD_new hn hK
  rw[hd]
  exact hk F' _ w' hK' hst
 have val:∀ {v:Value} {w1:World} {F':Nat→AV},(execOp a.eval o).run P w=.ok (.value v) w1→K F'→St w0 M S0 N F' (a.put (some d) v) w1→o.wp P a w Kc Q:=fun {v w1 F'} hr hK hst=>by
  have:=uv.value (P:=P) (o:=o) (a:=a) (w:=w) (w1:=w1) (v:=v) (R:=fun v' w'=>v'=v∧w'=w1) hr ⟨rfl,rfl⟩
  refine this Kc Q fun v' w' ⟨e1,e⟩=>?_
  rw[e,e1,hd]
  exact hk F' _ w1 hK hst
 cases ho:o.op with
 | assign x=>
  rw[ho]at hp
  obtain⟨F',hK,hst⟩:=h.assign hp
  exact val (by simp[execOp,ho]) hK hst
 | box T x=>
  rw[ho]at hp
  obtain⟨v,w1,F',hK,hr,hst⟩:=h.boxW (P:=P) (T:=T) hp
  exact val (by simp[execOp,ho,hr]) hK hst
 | build T ps=>
  rw[ho]at hp
  obtain⟨v,F',hK,hr,hst⟩:=h.buildW hTE hp
  exact val (by simp only[execOp,ho];rw[Sem.run_bind,hr];rfl) hK hst
 | buildSlice T n ps=>
  rw[ho]at hp
  obtain⟨v,w1,F',hK,hr,hst⟩:=h.buildSW hTE hp
  exact val (by simp only[execOp,ho];rw[Sem.run_bind,hr];rfl) hK hst
 | move x=>
  rw[ho]at hp
  obtain⟨F',hK,hst⟩:=h.moveW hp
  exact val (by simp[execOp,ho]) hK hst
 | range T x=>
  rw[ho]at hp
  obtain⟨v,w1,F',hK,hr,hst⟩:=h.rangeW hTE hp
  exact val (by simp[execOp,ho,hr]) hK hst
 | next x str=>
  rw[ho]at hp
  cases str with
  | true=>exact hp.elim
  | false=>
   obtain⟨v,w1,F',hK,hr,hst⟩:=h.nextW (P:=P) (ty:=o.type) hp
   exact val (by simp[execOp,ho,hr]) hK hst
 | entry x=>
  rw[ho]at hp
  obtain⟨v,F',hK,hr,hst⟩:=h.entryW (P:=P) hp
  exact val (by simp[execOp,ho,hr]) hK hst
 | call c=>
  rw[ho]at hp
  simp only[qm]at hp
  cases ha:wa c with
  | none=>rw[ha]at hp;exact pure1 (by rw[ho];exact hp)
  | some p=>
   rw[ha]at hp
   obtain⟨v,w1,F',hK,hr,hst⟩:=h.appW (ty:=o.type) hTE hp
   have:=uF ha
   subst this
   exact val (by simp[execOp,ho,resolve,invoke,builtin,hr]) hK hst
 | _=>rw[ho]at hp;exact pure1 (by rw[ho];exact hp)
theorem JL (h:bj w0 M S0 N S φ F a w) {o:Oper} {p:Nat × List Operand × List Nat} (hm:KU N F o.op=some p):Hk P p.1→(execOp a.eval o).run P w=.ok (.enter p.1 (p.2.1.map a.eval).toArray) w:=by
 intro hH
 unfold KU at hm
 split at hm
 case h_2=>cases hm
 rename_i c ho
 obtain⟨callee,args,ts⟩:=c
 simp only at hm
 split at hm
 ·rename_i f
  split at hm
  ·cases hm
   have:=DU (a:=a) (w:=w) ho hH
   rw[this]
   congr 2
   apply Array.ext'
   rw[Array.toList_map]
  ·cases hm
 ·rename_i t
  have hs:=h.slot t
  split at hm
  ·rename_i f caps hF
   rw[hF]at hs
   split at hm
   ·cases hm
    have hrun:=sM (a:=a) (w:=w) (caps:=caps.map (tvs a)) ho hH hs
    rw[hrun]
    congr 2
    rw[List.map_append,List.map_map]
    rfl
   ·cases hm
  ·cases hm
 ·cases hm
theorem bj.one (h:bj w0 M S0 N S φ F a w) (hTE:∀ t i,TE t=some i→bA P t i) {ops:Array Oper} {o:Oper} {K:(Nat→AV)→Prop} (hp:n6 P TE N ops o K F)
  {Kc:Act→World→Prop} {Q:Exit→Act→World→Prop} (hk:∀ F' a' w',K F'→St w0 M S0 N F' a' w'→Kc a' w') :
  if Region.wanted o (yielded ops a.tmps) then o.wp P a w Kc Q else Kc (a.put o.dst undef) w:=by
 unfold n6 at hp
 rcases u5 h hp with⟨hw,hp⟩|⟨hw,hp⟩
 ·rw[hw,if_pos rfl]
  cases hm:KU N F o.op with
  | some p=>
   rw[hm]at hp
   exact h.callM (JL h hm) hp hk
  | none=>
  rw[hm]at hp
  simp only at hp
  cases hd:o.dst with
  | none=>
   rw[hd]at hp
   simp only at hp
   split at hp
   ·rename_i T x y ho
    obtain⟨F',w1,hK,hrun,hst⟩:=h.storeOp hTE hp
    have:=uv.skip (P:=P) (o:=o) (a:=a) (w:=w) (w1:=w1) (R:=fun v w'=>v=undef∧w'=w1) (by simp[execOp,ho,hrun]) ⟨rfl,rfl⟩
    refine this Kc Q fun v w' ⟨_,e⟩=>?_
    rw[e,hd]
    exact hk F' a w1 hK hst
   ·rename_i T m x y ho
    obtain⟨F',w1,hK,hrun,hst⟩:=h.mapUpd hTE hp
    have:=uv.skip (P:=P) (o:=o) (a:=a) (w:=w) (w1:=w1) (R:=fun v w'=>v=undef∧w'=w1) (by simp[execOp,ho,hrun]) ⟨rfl,rfl⟩
    refine this Kc Q fun v w' ⟨_,e⟩=>?_
    rw[e,hd]
    exact hk F' a w1 hK hst
   ·exact hp.elim
  | some d=>
   rw[hd]at hp
   exact h.dst hTE hd hp hk
 ·rw[hw,if_neg (by simp)]
  cases hd:o.dst with
  | none=>rw[hd]at hp;exact hk F a w hp ⟨S,φ,h⟩
  | some d=>
   rw[hd]at hp
   obtain⟨F',hK,hst⟩:=h.putD_new (v:=undef) (lV.same (av:=.hold (.tup []) []) Kn) hp
   exact hk F' _ w hK hst
theorem DE (hTE:∀ t i,TE t=some i→bA P t i) {ops:Array Oper} {K:(Nat→AV)→Prop} {Q:Exit→Act→World→Prop} (hk:∀ F' a' w',K F'→St w0 M S0 N F' a' w'→Q .normal a' w') :
  ∀ (l:List Oper) (F:Nat→AV) (a:Act) (w:World),Jy P TE N ops l K F→St w0 M S0 N F a w→wpList P ops Q l a w
 | [],F,a,w,hp,hs=>hk F a w hp hs
 | o::l,F,a,w,hp,⟨S,φ,h⟩=>by
  have:=h.one hTE hp (Kc:=wpList P ops Q l) (Q:=Q) fun F' a' w' hK hs=>DE hTE hk l F' a' w' hK hs
  unfold wpList
  split
  ·rename_i hw;rw[if_pos hw]at this;exact .inl this
  ·rename_i hw;rw[if_neg hw]at this;exact this
end
end Go.Proofs.YtplcalfnngkffaaGreat.Ab
/- A slot-only operation looks at its operands alone: for regions that draw their order. No condition. -/
namespace Go.Proofs.YtplcalfnngkffaaGreat.Ab
open Go.RowKit
def tm:Operand→List Nat
 | .tmp t=>[t]
 | _=>[]
def iJ (F F':Nat→AV) (ts:List Nat):Prop:=∀ t,t∈ts→F' t=F t∧∀ t',(F t).uses t'=true→∀ k cs,F t'=.hold k cs→F' t'=.hold k cs
theorem iJ.mono {F F':Nat→AV} {ts ts':List Nat} (h:iJ F F' ts) (hs:∀ t,t∈ts'→t∈ts):iJ F F' ts':=fun t ht=>h t (hs t ht)
theorem iJ.ev {F F':Nat→AV} {x:Operand} (h:iJ F F' (tm x)):nj F' x=nj F x:=by
 cases x with
 | tmp t=>exact(h t (by simp[tm])).1
 | _=>rfl
def ep (F:Nat→AV) (ts:List Nat) (av:AV):Prop:=∀ d,av.uses d=true→d∈ts∨∃ t,t∈ts∧(F t).uses d=true
theorem ep.hold (F:Nat→AV) (ts:List Nat) (k:Kd) (cs:List C):ep F ts (.hold k cs):=fun d h=>by cases h
theorem ep.iref (F:Nat→AV) (ts:List Nat) (r:List C) (o:Nat):ep F ts (.iref r o):=fun d h=>by cases h
def nX (p:(Nat→AV)→(AV→Prop)→Prop) (F:Nat→AV) (ts:List Nat) (K:AV→Prop):Prop:=∃ av,K av∧ep F ts av∧∀ F',iJ F F' ts→∀ K':AV→Prop,K' av→p F' K'
section
variable {F:Nat→AV} {K:AV→Prop} {TE:Nat→Option TI} {P:Program}
theorem vR {t off:Nat} {st:cm} {k:List C→Nat→Prop} (h:tX F t off st k):∃ r j,k r j∧∀ F':Nat→AV,(∀ k cs,F t=.hold k cs→F' t=.hold k cs)→∀ k':List C→Nat→Prop,k' r j→tX F' t off st k':=by
 obtain⟨kd,cs,r,j,hF,hr,hk⟩:=pc h
 refine⟨r,j,hk,fun F' hF' k' hk'=>?_⟩
 unfold tX
 rw[hF' kd cs hF]
 cases st with
 | nil=>
  simp only[bS,Option.some.injEq,Prod.mk.injEq]at hr
  obtain⟨rfl,rfl⟩:=hr
  exact hk'
 | cons s st=>exact Rw.mk hr hk'
theorem lw (v:Value) (d:Nat):(kR v).uses d=false:=by
 cases v with
 | agg arr=>
  simp only[kR]
  cases arr.all (·.oneCell')<;>rfl
 | pointer p=>cases p<;>rfl
 | _=>rfl
theorem cH {x:Operand} {k:Option Nat→List C→Prop} (h:iA F (nj F x) k):∃ ag cs,k ag cs∧∀ F':Nat→AV,iJ F F' (tm x)→∀ k':Option Nat→List C→Prop,k' ag cs→iA F' (nj F' x) k':=by
 cases hx:nj F x with
 | hold kd cs=>
  rw[hx]at h
  cases kd with
  | one=>exact⟨_,_,h,fun F' hF k' hk=>by rw[hF.ev,hx];exact hk⟩
  | agg=>exact⟨_,_,h,fun F' hF k' hk=>by rw[hF.ev,hx];exact hk⟩
  | _=>exact h.elim
 | bor t off st ag=>
  rw[hx]at h
  replace h:tX F t off st fun r j=>k ag (bp r j (ag.getD 1)):=h
  obtain⟨r,j,hk,hl⟩:=vR h
  refine⟨_,_,hk,fun F' hF k' hk'=>?_⟩
  rw[hF.ev,hx]
  refine hl F' (fun kd cs hh=>?_) (fun r j=>k' ag (bp r j (ag.getD 1))) hk'
  cases x with
  | tmp t0=>
   have hx':F t0=.bor t off st ag:=hx
   exact(hF t0 (by simp[tm])).2 t (by rw[hx'];simp[AV.uses]) kd cs hh
  | const v=>
   have:=lw v t
   rw[show kR v=.bor t off st ag from hx]at this
   simp[AV.uses]at this
  | global g=>cases hx
  | func f=>cases hx
 | dead=>rw[hx]at h;exact h.elim
 | ref=>rw[hx]at h;exact h.elim
 | iref=>rw[hx]at h;exact h.elim
 | fn f caps=>
  rw[hx]at h
  cases caps with
  | cons c cs=>exact h.elim
  | nil=>exact⟨_,_,h,fun F' hF k' hk=>by rw[hF.ev,hx];exact hk⟩
 | fv=>rw[hx]at h;exact h.elim
theorem ik {x:Operand} {k:Value→Prop} (h:EE F x k):∃ z,k z∧∀ F':Nat→AV,iJ F F' (tm x)→∀ k':Value→Prop,k' z→EE F' x k':=by
 obtain⟨ag,cs,hk,hl⟩:=cH h
 match ag,cs,hk with
 | none,[.v z],hk=>exact⟨z,hk,fun F' hF k' hk'=>hl F' hF _ hk'⟩
theorem Je {F':Nat→AV} {t:Nat} (h:F' t=F t):bo F' (.tmp t) K=bo F (.tmp t) K:=by simp only[bo,h]
theorem iY {x:Operand} (h:bo F x K):nX (fun F K=>bo F x K) F (tm x) K:=by
 cases x with
 | tmp t=>
  have ht:t∈tm (.tmp t):=by simp[tm]
  have fin:∀ av,K av→ep F (tm (.tmp t)) av→(∀ K':AV→Prop,K' av→bo F (.tmp t) K')→nX (fun F K=>bo F (.tmp t) K) F (tm (.tmp t)) K:=fun av h1 h2 h3=>
   ⟨av,h1,h2,fun F' hA K' hK=>by
     show bo F' (.tmp t) _
     rw[Je (hA t ht).1]
     exact h3 K' hK⟩
  have loc:∀ d,d=t→d∈tm (.tmp t):=fun d e=>by subst e;exact ht
  cases hF:F t with
  | hold k cs=>
   cases k with
   | box=>
    have e:∀ K',bo F (.tmp t) K'=K' (.ref t 0 []):=fun K'=>by simp only[bo,hF]
    rw[e]at h
    exact fin _ h (fun d hd=>.inl (loc d (by simp[AV.uses]at hd;exact hd.symm))) (fun K' hK=>by rw[e];exact hK)
   | one=>
    cases hn:aW cs with
    | true=>
     have e:∀ K',bo F (.tmp t) K'=K' (.hold .one cs):=fun K'=>by simp only[bo,hF,hn,cond_true]
     rw[e]at h
     exact fin _ h (ep.hold _ _ _ _) (fun K' hK=>by rw[e];exact hK)
    | false=>
     have e:∀ K',bo F (.tmp t) K'=K' (.bor t 0 [] none):=fun K'=>by simp only[bo,hF,hn,cond_false]
     rw[e]at h
     exact fin _ h (fun d hd=>.inl (loc d (by simp[AV.uses]at hd;exact hd.symm))) (fun K' hK=>by rw[e];exact hK)
   | agg=>
    cases hn:aW cs with
    | true=>
     have e:∀ K',bo F (.tmp t) K'=K' (.hold .agg cs):=fun K'=>by simp only[bo,hF,hn,cond_true]
     rw[e]at h
     exact fin _ h (ep.hold _ _ _ _) (fun K' hK=>by rw[e];exact hK)
    | false=>
     have e:∀ K',bo F (.tmp t) K'=K' (.bor t 0 [] (some cs.length)):=fun K'=>by simp only[bo,hF,hn,cond_false]
     rw[e]at h
     exact fin _ h (fun d hd=>.inl (loc d (by simp[AV.uses]at hd;exact hd.symm))) (fun K' hK=>by rw[e];exact hK)
   | tup sh=>
    cases hn:aW cs with
    | true=>
     have e:∀ K',bo F (.tmp t) K'=K' (.hold (.tup sh) cs):=fun K'=>by simp only[bo,hF,hn,cond_true]
     rw[e]at h
     exact fin _ h (ep.hold _ _ _ _) (fun K' hK=>by rw[e];exact hK)
    | false=>simp only[bo,hF,hn,cond_false]at h
  | dead=>
   have e:∀ K',bo F (.tmp t) K'=K' .dead:=fun K'=>by simp only[bo,hF]
   rw[e]at h
   exact fin _ h (fun d hd=>by cases hd) (fun K' hK=>by rw[e];exact hK)
  | ref t' off st=>
   have e:∀ K',bo F (.tmp t) K'=K' (.ref t' off st):=fun K'=>by simp only[bo,hF]
   rw[e]at h
   exact fin _ h (fun d hd=>.inr ⟨t,ht,by rw[hF];exact hd⟩) (fun K' hK=>by rw[e];exact hK)
  | bor t' off st ag=>
   have e:∀ K',bo F (.tmp t) K'=K' (.bor t' off st ag):=fun K'=>by simp only[bo,hF]
   rw[e]at h
   exact fin _ h (fun d hd=>.inr ⟨t,ht,by rw[hF];exact hd⟩) (fun K' hK=>by rw[e];exact hK)
  | iref r off=>
   have e:∀ K',bo F (.tmp t) K'=K' (.iref r off):=fun K'=>by simp only[bo,hF]
   rw[e]at h
   exact fin _ h (fun d hd=>by cases hd) (fun K' hK=>by rw[e];exact hK)
  | fn f caps=>
   have e:∀ K',bo F (.tmp t) K'=K' (.fn f caps):=fun K'=>by simp only[bo,hF]
   rw[e]at h
   exact fin _ h (fun d hd=>.inr ⟨t,ht,by rw[hF];exact hd⟩) (fun K' hK=>by rw[e];exact hK)
  | fv Ok=>
   have e:∀ K',bo F (.tmp t) K'=K' (.fv Ok):=fun K'=>by simp only[bo,hF]
   rw[e]at h
   exact fin _ h (fun d hd=>by cases hd) (fun K' hK=>by rw[e];exact hK)
 | const v=>
  refine⟨_,h,fun d hd=>?_,fun F' _ K' hK=>hK⟩
  have:=lw v d
  rw[show(kR v).uses d=true from hd]at this
  cases this
 | global g=>exact⟨_,h,(fun d hd=>by cases hd),fun F' _ K' hK=>hK⟩
 | func f=>exact⟨_,h,(fun d hd=>by cases hd),fun F' _ K' hK=>hK⟩
theorem Gr {i:TI} {t off:Nat} {st:cm} {ts:List Nat} (ht:t∈ts∨∃ t0,t0∈ts∧(F t0).uses t=true) (h:Nk F i t off st K) :
  ∃ av,K av∧ep F ts av∧∀ F':Nat→AV,(∀ k cs,F t=.hold k cs→F' t=.hold k cs)→∀ K':AV→Prop,K' av→Nk F' i t off st K':=by
 obtain⟨r,j,hk,hl⟩:=vR h
 cases hb:Nat.beq (bp r j i.size).length i.size with
 | false=>rw[hb]at hk;exact hk.elim
 | true=>
  rw[hb]at hk
  simp only[cond_true]at hk
  cases hn:aW (bp r j i.size) with
  | true=>rw[hn]at hk;exact⟨_,hk,ep.hold _ _ _ _,fun F' hF K' hK=>hl F' hF _ (by rw[hb,hn];exact hK)⟩
  | false=>rw[hn]at hk;exact⟨_,hk,fun d hd=>by simp[AV.uses]at hd;subst hd;exact ht,fun F' hF K' hK=>hl F' hF _ (by rw[hb,hn];exact hK)⟩
theorem JW {T:Nat} {x:Operand} (h:ta TE F T x K):nX (fun F K=>ta TE F T x K) F (tm x) K:=by
 unfold ta at h
 cases hT:TE T with
 | none=>rw[hT]at h;exact h.elim
 | some i=>
  rw[hT]at h
  simp only at h
  cases ha:(i.agg || Nat.beq i.size 1) with
  | false=>rw[ha]at h;exact h.elim
  | true=>
   rw[ha]at h
   simp only[cond_true]at h
   cases x with
   | tmp t=>
    have ht:t∈tm (.tmp t):=by simp[tm]
    simp only at h
    have same:∀ {F'},iJ F F' (tm (.tmp t))→F' t=F t:=fun hF=>(hF t ht).1
    have unf:∀ {F'} {K':AV→Prop},iJ F F' (tm (.tmp t))→(match F t with|.hold .box _=>Nk F' i t 0 [] K'|.ref t off st=>Nk F' i t off st K'|.iref r off=>bif Nat.beq (bp r off i.size).length i.size then K' (.hold (jc (pf i)) (bp r off i.size)) else False|_=>False)→ta TE F' T (.tmp t) K':=fun hA hh=>by
     unfold ta
     rw[hT]
     simp only[ha,cond_true]
     rw[same hA]
     exact hh
    cases hF:F t with
    | hold k cs=>
     rw[hF]at h
     cases k with
     | box=>
      obtain⟨av,h1,h2,h3⟩:=Gr (ts:=tm (.tmp t)) (.inl ht) h
      exact⟨av,h1,h2,fun F' hA K' hK=>unf hA (by rw[hF];exact h3 F' (fun k cs hh=>(same hA).trans hh) K' hK)⟩
     | _=>exact h.elim
    | ref t' off st=>
     rw[hF]at h
     have hu:(F t).uses t'=true:=by rw[hF];simp[AV.uses]
     obtain⟨av,h1,h2,h3⟩:=Gr (ts:=tm (.tmp t)) (.inr ⟨t,ht,hu⟩) h
     exact⟨av,h1,h2,fun F' hA K' hK=>unf hA (by rw[hF];exact h3 F' (fun k cs hh=>(hA t ht).2 t' hu k cs hh) K' hK)⟩
    | iref r off=>
     rw[hF]at h
     simp only at h
     cases hb:Nat.beq (bp r off i.size).length i.size with
     | false=>rw[hb]at h;exact h.elim
     | true=>
      rw[hb]at h
      exact⟨_,h,ep.hold _ _ _ _,fun F' hA K' hK=>unf hA (by rw[hF];simp only[hb,cond_true];exact hK)⟩
    | dead=>rw[hF]at h;exact h.elim
    | bor=>rw[hF]at h;exact h.elim
    | fn=>rw[hF]at h;exact h.elim
    | fv=>rw[hF]at h;exact h.elim
   | _=>exact h.elim
theorem Ga {x:Operand} {o:Nat} (h:nN F x o K):nX (fun F K=>nN F x o K) F (tm x) K:=by
 cases x with
 | tmp t=>
  have ht:t∈tm (.tmp t):=by simp[tm]
  simp only[nN]at h
  cases hF:F t with
  | hold k cs=>
   rw[hF]at h
   cases k with
   | box=>exact⟨_,h,fun d hd=>.inl (by simp[AV.uses]at hd;subst hd;exact ht),fun F' hA K' hK=>by simp only[nN,(hA t ht).1,hF];exact hK⟩
   | _=>exact h.elim
  | ref t' off st=>rw[hF]at h;exact⟨_,h,fun d hd=>.inr ⟨t,ht,by rw[hF];exact hd⟩,fun F' hA K' hK=>by simp only[nN,(hA t ht).1,hF];exact hK⟩
  | iref r off=>rw[hF]at h;exact⟨_,h,ep.iref _ _ _ _,fun F' hA K' hK=>by simp only[nN,(hA t ht).1,hF];exact hK⟩
  | dead=>rw[hF]at h;exact h.elim
  | bor=>rw[hF]at h;exact h.elim
  | fn=>rw[hF]at h;exact h.elim
  | fv=>rw[hF]at h;exact h.elim
 | _=>exact h.elim
theorem xc {T:Nat} {x:Operand} {f:Nat} (h:gV TE F T x f K):nX (fun F K=>gV TE F T x f K) F (tm x) K:=by
 unfold gV at h
 unfold nX gV
 split at h
 case h_2=>exact h.elim
 split at h
 case h_2=>exact h.elim
 rename_i o ft _
 split at h
 case h_2=>exact h.elim
 rename_i fi _
 cases h0:Nat.beq fi.size 0 with
 | true=>rw[h0]at h;exact h.elim
 | false=>
  rw[h0]at h
  simp only[cond_false]at h ⊢
  exact Ga h
theorem E0 {size t off:Nat} {st:cm} {c:C} {i:Int} {ts:List Nat} (ht:t∈ts∨∃ t0,t0∈ts∧(F t0).uses t=true) (h:Gc size t off st c i K):∃ av,K av∧ep F ts av∧∀ K':AV→Prop,K' av→Gc size t off st c i K':=by
 cases c with
 | s o rows=>
  obtain⟨h0,r,hr,hk⟩:=Ix.out h
  cases hb:Nat.beq r.length size with
  | false=>rw[hb]at hk;exact hk.elim
  | true=>
   rw[hb]at hk
   simp only[cond_true]at hk
   cases hm:o.mine with
   | true=>rw[hm]at hk;exact⟨_,hk,fun d hd=>by simp[AV.uses]at hd;subst hd;exact ht,fun K' hK=>Ix.mk h0 hr (by rw[hb,hm];exact hK)⟩
   | false=>rw[hm]at hk;exact⟨_,hk,ep.iref _ _ _ _,fun K' hK=>Ix.mk h0 hr (by rw[hb,hm];exact hK)⟩
 | _=>exact h.elim
theorem Bq {size:Nat} {x:Operand} {i:Int} (h:mK F size x i K):nX (fun F K=>mK F size x i K) F (tm x) K:=by
 cases x with
 | tmp t=>
  have ht:t∈tm (.tmp t):=by simp[tm]
  simp only[mK]at h
  cases hF:F t with
  | hold k0 cs=>
   rw[hF]at h
   cases k0 with
   | one=>
    match cs,h,hF with
    | [c],h,hF=>
     obtain⟨av,h1,h2,h3⟩:=E0 (ts:=tm (.tmp t)) (.inl ht) h
     exact⟨av,h1,h2,fun F' hA K' hK=>by simp only[mK,(hA t ht).1,hF];exact h3 K' hK⟩
   | _=>exact h.elim
  | bor t' off st ag=>
   rw[hF]at h
   cases ag with
   | none=>
    replace h:tX F t' off st fun r j=>match r[j]? with|some c=>Gc size t' off st c i K|none=>False:=h
    obtain⟨r,j,hk,hrl⟩:=vR h
    have hu:(F t).uses t'=true:=by rw[hF];simp[AV.uses]
    cases hc:r[j]? with
    | none=>rw[hc]at hk;exact hk.elim
    | some c=>
     rw[hc]at hk
     obtain⟨av,h1,h2,h3⟩:=E0 (ts:=tm (.tmp t)) (.inr ⟨t,ht,hu⟩) hk
     exact⟨av,h1,h2,fun F' hA K' hK=>by simp only[mK,(hA t ht).1,hF];exact hrl F' (fun k cs hh=>(hA t ht).2 t' hu k cs hh) _ (by rw[hc];exact h3 K' hK)⟩
   | some n=>exact h.elim
  | dead=>rw[hF]at h;exact h.elim
  | ref=>rw[hF]at h;exact h.elim
  | iref=>rw[hF]at h;exact h.elim
  | fn=>rw[hF]at h;exact h.elim
  | fv=>rw[hF]at h;exact h.elim
 | _=>exact h.elim
theorem xn {T:Nat} {x y:Operand} (h:gY TE F T x y K):nX (fun F K=>gY TE F T x y K) F (tm x++tm y) K:=by
 unfold gY at h
 unfold nX gY
 split at h
 case h_2=>exact h.elim
 split at h
 case h_2=>exact h.elim
 rename_i ei hei
 obtain⟨z,hz,hl⟩:=ik h
 cases z with
 | int kk i=>
  obtain⟨av,h1,h2,h3⟩:=Bq hz
  refine⟨av,h1,fun d hd=>(h2 d hd).imp (fun h=>by simp[h]) (fun⟨t,ht,hu⟩=>⟨t,by simp[ht],hu⟩),fun F' hA K' hK=>?_⟩
  exact hl F' (hA.mono (by simp +contextual)) _ (h3 F' (hA.mono (by simp +contextual)) K' hK)
 | _=>exact hz.elim
end
end Go.Proofs.YtplcalfnngkffaaGreat.Ab
/- Slices of one's own, from now on written by nobody. No condition. -/
namespace Go.Proofs.YtplcalfnngkffaaGreat.Ab
open Go.RowKit
inductive LM (bs:List C) (off:Nat) (K:List C→Prop):Prop
 |mk_ (h:∃ o rows rows' bs',bs[off]? = some (.s o rows)∧fz (.s o rows)=.s .imm rows'∧bs'=splice bs off [.s .imm rows']∧K bs')
theorem LM.mk {bs bs':List C} {off:Nat} {K:List C→Prop} {o:dE} {rows rows':List (List C)} (h1:bs[off]? = some (.s o rows)) (h2:fz (.s o rows)=.s .imm rows') (h3:bs'=splice bs off [.s .imm rows']) (hK:K bs'):LM bs off K:=by refine .mk_ ?_;exact⟨o,rows,rows',bs',h1,h2,h3,hK⟩
theorem LM.out {bs:List C} {off:Nat} {K:List C→Prop} (h:LM bs off K):∃ o rows,bs[off]? = some (.s o rows)∧K (splice bs off [fz (.s o rows)]):=by
 obtain⟨h⟩:=h;obtain⟨o,rows,rows',bs',h1,h2,rfl,h3⟩:=h;exact⟨o,rows,h1,by rw[h2];exact h3⟩
def qI (t:Nat):List Nat→((Nat→AV)→Prop)→(Nat→AV)→Prop
 | [],K,F=>K F
 | off::l,K,F=>(match F t with
   | .hold k bs=>LM bs off fun bs'=>qI t l K (updH F t k bs')
   | _=>False)
theorem zB {cs:List C} {off:Nat} {c c':C} (h:off<cs.length):splice (splice cs off [c]) off [c']=splice cs off [c']:=by
 apply List.ext_getElem?
 intro j
 have hl:(splice cs off [c]).length=cs.length:=by simp[splice];omega
 rw[gd (by rw[hl];simp;omega),gd (by simp;omega),gd (by simp;omega)]
 simp only[List.length_singleton]
 split
 ·rfl
 ·rfl
theorem Jn (t:Nat) (v:AV):qW t (qW t v)=qW t v:=by
 cases v with
 | bor t' off st ag=>simp only[qW];cases hb:Nat.beq t' t<;>simp[hb]
 | ref t' off st=>
  cases st with
  | nil=>rfl
  | cons s st=>simp only[qW];cases hb:Nat.beq t' t<;>simp[hb]
 | _=>rfl
theorem EU (F:Nat→AV) (t:Nat) (k:Kd) (x y:List C):updH (updH F t k x) t k y=updH F t k y:=by
 funext s
 by_cases e:s=t
 ·subst e;rw[gr,gr]
 ·rw[eU _ _ _ e,eU _ _ _ e,eU _ _ _ e,Jn]
theorem bj.fzCell {w0 w:World} {M S0 S:ab} {N:fF} {φ:Nat→ab} {F:Nat→AV} {a:Act} (h:bj w0 M S0 N S φ F a w) {t off:Nat} {k:Kd} {bs:List C} {o:dE} {rows:List (List C)} (hF:F t=.hold k bs) (hb:bs[off]? = some (.s o rows)):St w0 M S0 N (updH F t k (splice bs off [fz (.s o rows)])) a w:=by
 have hlt:off<bs.length:=(List.getElem?_eq_some_iff.1 hb).1
 have htk:bp bs off 1=[.s o rows]:=by
  unfold bp
  rw[List.drop_eq_getElem_cons hlt,List.take_one]
  have:=List.getElem?_eq_some_iff.1 hb
  simp[this.2]
 obtain⟨V,X,h1,h2,hX,h3,h4⟩:=h.take hF (off:=off) (n:=1) (by omega)
 rw[htk]at h3
 have hV:Free w0 M S (fun s=>if s=t then X else φ s) w V:=fun b o hb=>by
  refine⟨fun s hs=>?_,h.disS t b o (h1 b o hb),h.ex t b o (h1 b o hb)⟩
  replace hs:(if s=t then X else φ s) b o:=hs
  by_cases e:s=t
  ·rw[if_pos e]at hs;exact h2 b o hb hs
  ·rw[if_neg e]at hs;exact h.dis s t e b o hs (h1 b o hb)
 have h5:=h4.addS (S':=fun b o=>S b o∨V b o) hV (fun _ _ h=>.inl h) (fun _ _ h=>h)
 have hsl:(splice bs off (List.replicate 1 C.x)).length=bs.length:=by simp[splice];omega
 obtain⟨φ',h6,-⟩:=h5.back (out:=[fz (.s o rows)]) (off:=off) (j:=off) (st:=[]) (r:=splice bs off (List.replicate 1 .x)) (gr ..) rfl trivial (by rw[hsl];simp;omega) (V:=NO) (fun _ _ h=>h.elim) (h3.freeze.congr fun d _=>rfl)
 rw[EU]at h6
 rw[←zB (c:=.x) hlt]
 exact⟨_,φ',h6⟩
theorem vF {w0 w:World} {M S0:ab} {N:fF} {a:Act} {t:Nat} {K:(Nat→AV)→Prop} : ∀ {offs:List Nat} {F:Nat→AV},qI t offs K F→St w0 M S0 N F a w→∃ F',K F'∧St w0 M S0 N F' a w
 | [],F,hp,hs=>⟨F,hp,hs⟩
 | off::l,F,hp,hs=>by
  unfold qI at hp
  cases hF:F t with
  | hold k bs=>
   rw[hF]at hp
   obtain⟨o,rows,h1,h2⟩:=LM.out hp
   obtain⟨S,φ,h⟩:=hs
   exact vF h2 (h.fzCell hF h1)
  | _=>rw[hF]at hp;exact hp.elim
def KB (mo:List (Nat × List Nat)) (id:Nat) (K:(Nat→AV)→Prop) (F:Nat→AV):Prop:=
 match GD mo (id+2000000) with
 | some l=>(match l with
   | t::offs=>qI t offs K F
   | []=>K F)
 | none=>K F
theorem MG {w0 w:World} {M S0:ab} {N:fF} {a:Act} {mo:List (Nat × List Nat)} {id:Nat} {K:(Nat→AV)→Prop} {F:Nat→AV} (hp:KB mo id K F) (hs:St w0 M S0 N F a w):∃ F',K F'∧St w0 M S0 N F' a w:=by
 unfold KB at hp
 split at hp
 ·split at hp
  ·exact vF hp hs
  ·exact⟨F,hp,hs⟩
 ·exact⟨F,hp,hs⟩
end Go.Proofs.YtplcalfnngkffaaGreat.Ab
/- Abstract runs of code, and of a whole function that only reads what it is handed. No condition. -/
namespace Go.Proofs.YtplcalfnngkffaaGreat.Ab
open Go.RowKit
def lay:List (Nat × AV)→Nat→AV
 | [],_=>.dead
 | p::l,t=>bif Nat.beq t p.1 then p.2 else lay l t
def Me:C→C→Prop
 | _,.x=>True
 | .z,.s .imm rows=>rows=[]
 | .z,.s .own rows=>rows=[]
 | .s (.tag _) rows,.s .own rows'=>rows=rows'
 | c,c'=>c=c'
def Lx:List C→List C→Prop
 | [],[]=>True
 | c::cs,c'::cs'=>Me c c'∧Lx cs cs'
 | _,_=>False
def MR (F F1:Nat→AV) (t:Nat) (av:AV):Prop:=
 match av with
 | .dead=>True
 | .hold k cs=>(match F t with|.hold k' cs'=>k'=k∧Lx cs' cs|_=>False)
 | .ref t' off st=>F t=.ref t' off st∧F1 t'=F t'
 | .bor t' off st ag=>F t=.bor t' off st ag∧F1 t'=F t'
 | .iref r off=>F t=.iref r off
 | .fn f caps=>F t=.fn f caps
 | .fv Ok=>F t=.fv Ok
def K4 (F F1:Nat→AV):List (Nat × AV)→Prop
 | []=>True
 | p::l=>MR F F1 p.1 p.2∧K4 F F1 l
def Wk (F:Nat→AV) (L:List (Nat × AV)):Prop:=K4 F (lay L) L
theorem va {F F1:Nat→AV} : ∀ {L:List (Nat × AV)},K4 F F1 L→∀ t,lay L t=.dead∨MR F F1 t (lay L t)
 | [],_,t=>.inl rfl
 | p::L,h,t=>by
  simp only[lay]
  cases hb:Nat.beq t p.1 with
  | true=>
   have:=Nat.eq_of_beq_eq_true hb
   subst this
   exact .inr h.1
  | false=>exact va h.2 t
def fz1 (t:Nat) (F:Nat→AV):Nat→AV:=fun s=>bif Nat.beq s t then(match F s with|.hold k cs=>.hold k (ey cs)|.dead=>.dead|.ref ..=>.dead|.bor ..=>.dead|.iref ..=>.dead|.fn ..=>.dead|.fv _=>.dead) else kl t (F s)
def fzA:List Nat→(Nat→AV)→Nat→AV
 | [],F=>F
 | t::ts,F=>fzA ts (fz1 t F)
def Pm (F:Nat→AV) (x:Operand) (K:Bool→Prop):Prop:=EE F x fun v=>match v with|.bool b=>K b|_=>False
def NH (K:(Nat→AV)→Prop) (Q:Exit→(Nat→AV)→Prop):Exit→(Nat→AV)→Prop:=fun e F=>match e with|.normal=>K F|e=>Q e F
def Ps (id:Nat) (Q:Exit→(Nat→AV)→Prop):Exit→(Nat→AV)→Prop:=fun e F=>match e with|.exit i=>bif Nat.beq i id then Q .normal F else Q (.exit i) F|e=>Q e F
inductive Nx (ι:Type) (L:ι→List (Nat × AV)) (inv:ι→Prop) (μ:ι→Nat) (i:ι) (F:Nat→AV):Prop
 |mk_ (h:∃ i',inv i'∧μ i'<μ i∧Wk F (L i'))
theorem Nx.mk {ι:Type} {L:ι→List (Nat × AV)} {inv:ι→Prop} {μ:ι→Nat} {i:ι} {F:Nat→AV} (i':ι) (h1:inv i') (h2:μ i'<μ i) (h3:Wk F (L i')):Nx ι L inv μ i F:=by refine .mk_ ?_;exact⟨i',h1,h2,h3⟩
theorem Nx.out {ι:Type} {L:ι→List (Nat × AV)} {inv:ι→Prop} {μ:ι→Nat} {i:ι} {F:Nat→AV} (h:Nx ι L inv μ i F):∃ i',inv i'∧μ i'<μ i∧Wk F (L i'):=by obtain⟨h⟩:=h;exact h
inductive Lp (body:(Exit→(Nat→AV)→Prop)→(Nat→AV)→Prop) (Q:Exit→(Nat→AV)→Prop) (F:Nat→AV):Prop
 |mk_ (h:∃ (ts:List Nat) (ι:Type) (L:ι→List (Nat × AV)) (inv:ι→Prop) (μ:ι→Nat) (i0:ι),Wk (fzA ts F) (L i0)∧inv i0∧∀ i,inv i→body (NH (Nx ι L inv μ i) Q) (lay (L i)))
theorem Lp.mk {body:(Exit→(Nat→AV)→Prop)→(Nat→AV)→Prop} {Q:Exit→(Nat→AV)→Prop} {F:Nat→AV} {ι:Type} (L:ι→List (Nat × AV)) (inv:ι→Prop) (μ:ι→Nat) (i0:ι) (h0:Wk F (L i0)) (h1:inv i0) (h2:∀ i,inv i→body (NH (Nx ι L inv μ i) Q) (lay (L i))):Lp body Q F:=by refine .mk_ ?_;exact⟨[],ι,L,inv,μ,i0,h0,h1,h2⟩
theorem Lp.fz {body:(Exit→(Nat→AV)→Prop)→(Nat→AV)→Prop} {Q:Exit→(Nat→AV)→Prop} {F:Nat→AV} {ι:Type} (t:Nat) (L:ι→List (Nat × AV)) (inv:ι→Prop) (μ:ι→Nat) (i0:ι) (h0:Wk (fz1 t F) (L i0)) (h1:inv i0) (h2:∀ i,inv i→body (NH (Nx ι L inv μ i) Q) (lay (L i))):Lp body Q F:=by refine .mk_ ?_;exact⟨[t],ι,L,inv,μ,i0,h0,h1,h2⟩
theorem Lp.out {body:(Exit→(Nat→AV)→Prop)→(Nat→AV)→Prop} {Q:Exit→(Nat→AV)→Prop} {F:Nat→AV} (h:Lp body Q F):∃ (ts:List Nat) (ι:Type) (L:ι→List (Nat × AV)) (inv:ι→Prop) (μ:ι→Nat) (i0:ι),Wk (fzA ts F) (L i0)∧inv i0∧∀ i,inv i→body (NH (Nx ι L inv μ i) Q) (lay (L i)):=by obtain⟨h⟩:=h;exact h
def aw (P:Program) (TE:Nat→Option TI) (N:fF) (D:Nat→Array Oper→((Nat→AV)→Prop)→(Nat→AV)→Prop):Code→(Exit→(Nat→AV)→Prop)→(Nat→AV)→Prop
 | .skip,Q,F=>Q .normal F
 | .region id ops draw,Q,F=>bif draw then D id ops (Q .normal) F else KB N.mo id (Jy P TE N ops ops.toList (Q .normal)) F
 | .seq x y,Q,F=>aw P TE N D x (NH (aw P TE N D y Q) Q) F
 | .cond c x y,Q,F=>Pm F c fun b=>Bf b (aw P TE N D x Q F) (aw P TE N D y Q F)
 | .block id c,Q,F=>aw P TE N D c (Ps id Q) F
 | .loop c,Q,F=>Lp (aw P TE N D c) Q F
 | .exit id,Q,F=>Q (.exit id) F
 | .ret,Q,F=>Q .ret F
 | _,_,_=>False
section
variable {P:Program} {w0 w w1:World} {M S0 S:ab} {N:fF} {φ:Nat→ab} {F:Nat→AV} {a:Act} {TE:Nat→Option TI}
theorem Mn {Y:ab} {c c':C} {v:Value} (hc:Me c c') (h:ez w S Y c v):ez w S Y c' v:=by
 unfold Me at hc
 split at hc
 ·exact .x _ _ h.one
 ·subst hc
  obtain⟨b,rfl⟩:=vV h
  exact .nil _ _ _ trivial
 ·subst hc
  obtain⟨b,rfl⟩:=vV h
  exact .nil _ _ _ trivial
 ·subst hc
  rename_i v' rows
  generalize he:C.s (.tag v') rows=c0 at h
  cases h with
  | nil F o a ho=>cases he;exact .nil _ _ _ trivial
  | imm=>cases he
  | own F o g k n cap rows u f ho hn hk hcap hpos hF hu hf hd hc=>cases he;exact .own _ .own g k n cap rows u f trivial hn hk hcap hpos hF hu hf hd hc
  | _=>cases he
 ·subst hc;exact h
theorem qC:∀ {cs cs':List C},Lx cs cs'→cs.length=cs'.length∧∀ (j:Nat) (c':C),cs'[j]? = some c'→∃ c,cs[j]? = some c∧Me c c'
 | [],[],_=>⟨rfl,fun j c' h=>by simp at h⟩
 | c::cs,c'::cs',h=>by
  obtain⟨h1,h2⟩:=qC h.2
  refine⟨by simp[h1],fun j y hj=>?_⟩
  cases j with
  | zero=>simp at hj;subst hj;exact⟨c,rfl,h.1⟩
  | succ j=>exact h2 j y (by simpa using hj)
 | [],_::_,h=>h.elim
 | _::_,[],h=>h.elim
theorem AM {Y:ab} {cs cs':List C} {u:Nat→Value} (hc:Lx cs cs') (h:co w S Y cs u):co w S Y cs' u:=by
 obtain⟨hl,hg⟩:=qC hc
 obtain⟨f,h1,h2,h3⟩:=h
 exact⟨f,fun j c hj=>by obtain⟨c0,e1,e2⟩:=hg j c hj;exact Mn e2 (h1 j c0 e1),fun j hj=>h2 j (by omega),fun j j' hj hj'=>h3 j j' (by omega) (by omega)⟩
theorem St.weaken {L:List (Nat × AV)} (h:St w0 M S0 N F a w) (hw:Wk F L):St w0 M S0 N (lay L) a w:=by
 obtain⟨S,φ,h⟩:=h
 refine⟨S,φ,fun t=>?_,h.dis,h.disS,h.ex,h.sub,h.sup,h.old,h.size,h.defers,h.par⟩
 rcases va hw t with hd|hd
 ·rw[hd];trivial
 ·have hs:=h.slot t
  cases hav:lay L t with
  | dead=>trivial
  | hold k cs=>
   rw[hav]at hd
   simp only[MR]at hd
   split at hd
   case h_2=>exact hd.elim
   rename_i k' cs' hF
   obtain⟨rfl,hcs⟩:=hd
   rw[hF]at hs
   obtain⟨X1,Y,h1,h2,h3,h4,h5⟩:=hs
   exact⟨X1,Y,h1,h2,h3,by rw[←(qC hcs).1];exact h4,AM hcs h5⟩
  | ref t' off st=>
   rw[hav]at hd
   rw[hd.1]at hs
   obtain⟨k,cs,r,j,g,o,h1,h2⟩:=hs
   exact⟨k,cs,r,j,g,o,by rw[hd.2];exact h1,h2⟩
  | bor t' off st ag=>
   rw[hav]at hd
   rw[hd.1]at hs
   obtain⟨k,cs,r,j,h1,h2⟩:=hs
   exact⟨k,cs,r,j,by rw[hd.2];exact h1,h2⟩
  | iref r off=>
   rw[hav]at hd
   have hd:F t=.iref r off:=hd
   rw[hd]at hs;exact hs
  | fn f caps=>
   rw[hav]at hd
   have hd:F t=.fn f caps:=hd
   rw[hd]at hs;exact hs
  | fv Ok=>
   rw[hav]at hd
   have hd:F t=.fv Ok:=hd
   rw[hd]at hs;exact hs
theorem St.fz1 (h:St w0 M S0 N F a w) (t:Nat):St w0 M S0 N (Ab.fz1 t F) a w:=by
 obtain⟨S,φ,h⟩:=h
 have hne:∀ {s},s≠t→Ab.fz1 t F s=kl t (F s):=fun {s} hs=>by
  have:Nat.beq s t=false:=by rw[←Bool.not_eq_true,Nat.beq_eq];exact hs
  simp[Ab.fz1,this]
 have hkeep:∀ (S':ab),(∀ b o,S b o→S' b o)→∀ s,s≠t→cz w S' (Ab.fz1 t F) (tvs a) (φ s) (Ab.fz1 t F s) (tvs a s):=fun S' hS s hs=>by
  rw[hne hs,yu]
  cases hu:(F s).uses t with
  | true=>trivial
  | false=>
   simp only[cond_false]
   refine(h.slot s).keep (φ:=φ) (fun t _ _ _=>h.slot t) (fun t' hu'=>?_) (fun _ _ _=>⟨rfl,rfl⟩) (fun _ _ _=>⟨rfl,rfl⟩) (fun _ _ h=>h) hS
   have hn:t'≠t:=fun e=>by subst e;rw[hu]at hu';cases hu'
   exact⟨fun k cs he=>by rw[hne hn,he,zD],rfl,fun _ _ _=>⟨rfl,rfl⟩⟩
 have hdead:(∀ k cs,F t≠.hold k cs)→St w0 M S0 N (Ab.fz1 t F) a w:=fun hn=>by
  refine⟨S,fun s=>if s=t then NO else φ s,fun s=>?_,fun s s' hss b o hb hb'=>?_,fun s b o hb=>?_,fun s b o hb=>?_,h.sub,h.sup,h.old,h.size,h.defers,h.par⟩
  ·by_cases hs:s=t
   ·subst hs
    have:Ab.fz1 s F s=.dead:=by
     unfold Ab.fz1
     rw[Nat.beq_refl]
     simp only[cond_true]
     cases hF:F s with
     | hold k cs=>exact absurd hF (hn k cs)
     | _=>rfl
    rw[this];trivial
   ·rw[if_neg hs];exact hkeep S (fun _ _ h=>h) s hs
  ·split at hb
   ·exact hb.elim
   ·split at hb'
    ·exact hb'.elim
    ·exact h.dis s s' hss b o hb hb'
  ·split at hb
   ·exact hb.elim
   ·exact h.disS s b o hb
  ·split at hb
   ·exact hb.elim
   ·exact h.ex s b o hb
 cases hF:F t with
 | hold k cs=>
  have hs:=h.slot t
  rw[hF]at hs
  obtain⟨X1,Y,h1,h2,h3,h4,h5⟩:=hs
  have hft:Ab.fz1 t F t=.hold k (ey cs):=by
   unfold Ab.fz1
   rw[Nat.beq_refl]
   simp only[cond_true,hF]
  refine⟨fun b o=>S b o∨Y b o,fun s=>if s=t then X1 else φ s,fun s=>?_,fun s s' hss b o hb hb'=>?_,fun s b o hb hS=>?_,fun s b o hb=>?_,fun b o hb=>.inl (h.sub b o hb),fun b o hb=>?_,h.old,h.size,h.defers,h.par⟩
  ·by_cases hs:s=t
   ·subst hs
    rw[hft,if_pos rfl]
    exact⟨X1,NO,fun _ _ h=>h,fun _ _ h=>h.elim,fun _ _ _ h=>h,by rw[cr,List.length_map];exact h4,h5.freeze⟩
   ·rw[if_neg hs];exact hkeep _ (fun _ _ h=>.inl h) s hs
  ·by_cases hs:s=t
   ·rw[if_pos hs]at hb
    by_cases hs':s'=t
    ·exact hss (hs.trans hs'.symm)
    ·rw[if_neg hs']at hb';exact h.dis t s' (Ne.symm hs') b o (h1 b o hb) hb'
   ·rw[if_neg hs]at hb
    by_cases hs':s'=t
    ·rw[if_pos hs']at hb';exact h.dis s t hs b o hb (h1 b o hb')
    ·rw[if_neg hs']at hb';exact h.dis s s' hss b o hb hb'
  ·by_cases hs:s=t
   ·rw[if_pos hs]at hb
    exact hS.elim (h.disS t b o (h1 b o hb)) (h3 b o hb)
   ·rw[if_neg hs]at hb
    exact hS.elim (h.disS s b o hb) fun hy=>h.dis s t hs b o hb (h2 b o hy)
  ·split at hb
   ·exact h.ex t b o (h1 b o hb)
   ·exact h.ex s b o hb
  ·rcases hb with hb|hb
   ·exact h.sup b o hb
   ·exact⟨(h.ex t b o (h2 b o hb)).1,.inr (h.ex t b o (h2 b o hb)).2⟩
 | _=>exact hdead fun k cs e=>by rw[hF]at e;cases e
theorem St.fzA:∀ (ts:List Nat) {F:Nat→AV},St w0 M S0 N F a w→St w0 M S0 N (Ab.fzA ts F) a w
 | [],_,h=>h
 | t::ts,_,h=>St.fzA ts (h.fz1 t)
def fT (ck:Nat→Array Oper→Bool):Code→Bool
 | .region id ops draw=>bif draw then ck id ops else true
 | .seq x y=>fT ck x&&fT ck y
 | .cond _ x y=>fT ck x&&fT ck y
 | .block _ c=>fT ck c
 | .loop c=>fT ck c
 | _=>true
def uL (P:Program) (N:fF) (ck:Nat→Array Oper→Bool) (D:Nat→Array Oper→((Nat→AV)→Prop)→(Nat→AV)→Prop):Prop:=
 ∀ (id:Nat) (ops:Array Oper),ck id ops=true→∀ (K:(Nat→AV)→Prop) (w0:World) (M S0:ab) (F:Nat→AV) (a:Act) (w:World) (Q:Exit→Act→World→Prop),D id ops K F→St w0 M S0 N F a w→(∀ F' a' w',K F'→St w0 M S0 N F' a' w'→Q .normal a' w')→(Code.region id ops true).wp P Q a w
theorem iv (hTE:∀ t i,TE t=some i→bA P t i) {D:Nat→Array Oper→((Nat→AV)→Prop)→(Nat→AV)→Prop} {ck:Nat→Array Oper→Bool} (hD:uL P N ck D):∀ (c:Code),fT ck c=true→∀ (QA:Exit→(Nat→AV)→Prop) (Q:Exit→Act→World→Prop) (F:Nat→AV) (a:Act) (w:World),
  aw P TE N D c QA F→St w0 M S0 N F a w→(∀ e F' a' w',QA e F'→St w0 M S0 N F' a' w'→Q e a' w')→c.wp P Q a w
 | .skip,_,QA,Q,F,a,w,hp,hs,hq=>wp_skip (hq _ _ _ _ hp hs)
 | .region id ops draw,hc,QA,Q,F,a,w,hp,hs,hq=>by
  cases draw with
  | false=>
   obtain⟨F1,hp1,hs1⟩:=MG hp hs
   exact wp_region_list (DE hTE (fun F' a' w'=>hq .normal F' a' w') _ F1 a w hp1 hs1)
  | true=>exact hD id ops hc _ w0 M S0 F a w Q hp hs (fun F' a' w'=>hq .normal F' a' w')
 | .seq x y,hc,QA,Q,F,a,w,hp,hs,hq=>by
  simp only[fT,Bool.and_eq_true]at hc
  refine wp_seq (iv hTE hD x hc.1 _ _ F a w hp hs fun e F' a' w' he hs'=>?_)
  cases e with
  | normal=>exact iv hTE hD y hc.2 QA Q F' a' w' he hs' hq
  | _=>exact hq _ F' a' w' he hs'
 | .cond c x y,hck,QA,Q,F,a,w,hp,⟨S,φ,h⟩,hq=>by
  simp only[fT,Bool.and_eq_true]at hck
  obtain⟨hc,-⟩:=h.scalar hp
  cases hv:a.eval c<;>rw[hv]at hc<;>try exact hc.elim
  rename_i b
  exact wp_cond_split hv (fun hb=>iv hTE hD x hck.1 QA Q F a w (by subst hb;exact Bf.out hc) ⟨S,φ,h⟩ hq) (fun hb=>iv hTE hD y hck.2 QA Q F a w (by subst hb;exact Bf.out hc) ⟨S,φ,h⟩ hq)
 | .block id c,hc,QA,Q,F,a,w,hp,hs,hq=>by
  refine wp_block (iv hTE hD c hc _ _ F a w hp hs fun e F' a' w' he hs'=>?_)
  cases e with
  | exit i=>
   simp only[Ps]at he
   simp only[Exit.inBlock]
   by_cases hi:i=id
   ·subst hi
    rw[if_pos rfl]
    simp only[Nat.beq_refl,cond_true]at he
    exact hq _ F' a' w' he hs'
   ·have hb:Nat.beq i id=false:=by rw[←Bool.not_eq_true,Nat.beq_eq];exact hi
    rw[hb]at he
    rw[if_neg hi]
    exact hq _ F' a' w' he hs'
  | _=>exact hq _ F' a' w' he hs'
 | .loop c,hc,QA,Q,F,a,w,hp,hs,hq=>by
  obtain⟨ts,ι,L,inv,μ,i0,h0,hi0,hround⟩:=Lp.out hp
  refine wp_loop_ghost (fun n a w=>∃ i,μ i=n∧inv i∧St w0 M S0 N (lay (L i)) a w) (μ i0) ⟨i0,rfl,hi0,(hs.fzA ts).weaken h0⟩ fun n a w ⟨i,hn,hi,hs⟩=>?_
  refine iv hTE hD c hc _ _ (lay (L i)) a w (hround i hi) hs fun e F' a' w' he hs'=>?_
  cases e with
  | normal=>
   obtain⟨i',h1,h2,h3⟩:=Nx.out he
   exact⟨μ i',by omega,i',rfl,h1,hs'.weaken h3⟩
  | _=>exact hq _ F' a' w' he hs'
 | .exit id,_,QA,Q,F,a,w,hp,hs,hq=>wp_exit (hq _ _ _ _ hp hs)
 | .ret,_,QA,Q,F,a,w,hp,hs,hq=>wp_ret (hq _ _ _ _ hp hs)
 | .rangeFunc ..,_,_,_,_,_,_,hp,_,_=>hp.elim
 | .scope _,_,_,_,_,_,_,hp,_,_=>hp.elim
 | .label _,_,_,_,_,_,_,hp,_,_=>hp.elim
 | .goto _,_,_,_,_,_,_,hp,_,_=>hp.elim
 | .refuse _,_,_,_,_,_,_,hp,_,_=>hp.elim
end
end Go.Proofs.YtplcalfnngkffaaGreat.Ab
