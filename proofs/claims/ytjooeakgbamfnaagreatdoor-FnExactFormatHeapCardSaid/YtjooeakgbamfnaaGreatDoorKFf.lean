/- The account of a valid heap is balanced. No condition. -/
import Derived.Test.YtjooeakgbamfnaaGreatDoorKFd
import Derived.Test.YtjooeakgbamfnaaGreatDoorKFe
import Derived.Test.YtjooeakgbamfnaaGreatDoorKFc
import Derived.Test.YtjooeakgbamfnaaGreatDoorMt
import Derived.ProofKit
import Derived.OpenShut
import Derived.Deep.Slices
import Derived.Deep.Fields
import Derived.ChangeSame
import Derived.WideShapes
set_option linter.unusedVariables false
set_option linter.defProp false
set_option linter.unusedSimpArgs false
set_option linter.constructorNameAsVariable false
namespace Go.Proofs.YtjooeakgbamfnaaGreatDoor.Ab
def sm{α:Type}(f:α->Int):List α->Int
 | []=>0
 | a::l=>f a+sm f l
def lE{α:Type}(f:α->Int):∀l m:List α,sm f (l++m)=sm f l+sm f m
 | [],m=>by simp[sm]
 | a::l,m=>by simp only[List.cons_append,sm,lE f l m];omega
theorem FS{α:Type}(f:α->Int){l m:List α}(h:l.Perm m):sm f l=sm f m:=by
 induction h with
 | nil=>rfl
 | cons x _ a=>simp only[sm,a]
 | swap x y l=>grind [sm]
 | trans _ _ b c=>exact b.trans c
theorem xX{α β:Type}{f:α->Int}{g:β->Int}(k:α->β):∀l:List α,(∀a∈l,g (k a)=f a)->sm g (l.map k)=sm f l
 | [],_=>rfl
 | a::l,h=>by
  simp only[C3,sm];rw[h a (W0 ..),xX k l λb c=>h b (R2 _ c)]
def wi{α β:Type}{f:α->Int}{g:β->Int}(k:α->List β):∀l:List α,(∀a∈l,sm g (k a)=f a)->sm g (l.flatMap k)=sm f l
 | [],_=>rfl
 | a::l,h=>by
  rw[List.flatMap_cons,lE];simp only[sm];rw[h a (W0 ..),wi k l λb c=>h b (R2 _ c)]
def rq{α:Type}{f:α->Int}{c:Int} : ∀l:List α,(∀a∈l,f a=c)->sm f l=l.length*c
 | [],_=>by simp[sm]
 | a::l,h=>by
  simp only[sm];rw[h a (W0 ..),rq l λb d=>h b (R2 _ d),List.length_cons,Int.natCast_succ,Int.add_mul];omega
theorem gX{α:Type}[Inhabited α](f:α->Int)(xs:List α):bD f xs xs.length=sm f xs:=by
 have h:∀n,n<=xs.length->bD f xs n=sm f (xs.take n):=λn=>by
  induction n with
  | zero=>intro _;rfl
  | succ n b=>
   intro c;have a:=ao (xs:=xs) (i:=n) ω;rw[U2,a,lE];show bD f xs n+f (nth xs n)=_
   grind [sm]
 grind
def cst(h:ac)(a:Int):Int:=if 0<=dE h (a / 16) then bG h a else(nth h.J (wP h a)).g
theorem wN{h:ac}{p:Int}(a:∀s∈h.G,s.M≠p):dE h p = -1:=by
 unfold dE;refine jz (i:=h.G.length) (O1 _) λj z b c=>?_
 grind [i9]
theorem oI{h:ac}{E:List Int}(e:jB h E){a c:Int}(f:0<=c)(b:rZ h.G a c):cst h a=csz c:=by
 obtain⟨s,b,d,g⟩:=b;obtain⟨i,j,rfl⟩:=cz b;have k:(nth h.G i).M=a / 16:=by have l:=d.1;have n:=d.2.1;omega
 grind [j9,jB.L,cst,bG]
theorem FP{h:ac}{E:List Int}(d:jB h E){a:Int}(b:rZ h.G a (-1)):cst h a=bG h a:=by
 obtain⟨s,b,c,-⟩:=b;obtain⟨i,e,rfl⟩:=cz b;have f:(nth h.G i).M=a / 16:=by have g:=c.1;have j:=c.2.1;omega
 grind [j9,jB.L,cst]
theorem uv{h:ac}{E:List Int}(a:jB h E){l:am}(b:l∈h.J):cst h (16*l.M)=l.g:=by
 have o:=cV (a.L.lok l b);have g:=bq (a.L.lok l b);have i:16*l.M / 16=l.M:=ω
 have c:dE h l.M = -1:=wN λs k e=>a.L.dis s k l b 0 ω ω
 unfold cst;rw[i,c,C9 (by decide)];obtain⟨f,p,-⟩:=Ga b rfl;obtain⟨j,n,d⟩:=cz b;have q:=bq (a.L.lok _ (aF f));have:=a.L.one (wP h (16*l.M)) j f n 0 0 ω (by rw[d];omega) (by rw[d];omega);rw[this,d]
def GB(s:ah):List Int:=((List.range 16).filter λi=>decide (((i:Nat):Int) % csz s.T=0)&&bp s.l (((i:Nat):Int) / csz s.T)).map λi=>16*s.M+(i:Nat)
theorem mu{s:ah}{a:Int} : a∈GB s↔jJ s a:=by
 unfold GB jJ;rw[C2];constructor
 ·grind
 rintro⟨b,c,d,e⟩
 refine⟨(a - 16*s.M).toNat,?_,ω⟩
 grind
theorem Hx(s:ah):(GB s).Nodup:=by grind [List.nodup_range,GB]
def fil(f:Nat->Bool)(n:Nat):Nat:=((List.range n).filter f).length
theorem sZ(f:Nat->Bool)(n:Nat):fil f (n+1)=fil f n+if f n=true then 1 else 0:=by grind [List.range_succ,fil]
theorem Gp(f g p:Nat->Bool)(k:Nat)(a:0<k)(b:∀m j,j<k->f (k*m+j)=p m)(c:∀m j,j<k->g (k*m+j)=(decide (j=0)&&p m))(n:Nat):fil f (k*n)=k*fil g (k*n):=by
 induction n with
 | zero=>rfl
 | succ n d=>
  have h:∀j,j<=k->fil f (k*n+j)=fil f (k*n)+(if p n=true then j else 0)/\fil g (k*n+j)=fil g (k*n)+(if p n=true/\0<j then 1 else 0):=λj=>by
   induction j with
   | zero=>grind
   | succ j ih2=>
    grind [sZ]
  grind
theorem He{s:ah}(f:bn s=true):wz s=(GB s).length*csz s.T:=by
 have c:=aR f;obtain⟨k,d⟩:=Int.eq_ofNat_of_zero_le (show 0<=csz s.T by rcases cS c.2.2 with e|e|e|e<;>rw[e]<;>decide);have g:∃n,16=k*n/\0<k:=by
  rcases cS c.2.2 with e|e|e|e<;>rw[e]at d
  ·exact⟨16,ω,ω⟩
  ·exact⟨8,ω,ω⟩
  ·exact⟨4,ω,ω⟩
  exact⟨2,ω,ω⟩
 obtain⟨n,l,a⟩:=g;have h:=Gp (jV s) (λi=>decide (((i:Nat):Int) % csz s.T=0)&&bp s.l (((i:Nat):Int) / csz s.T)) (λm=>bp s.l ((m:Nat):Int)) k a (λm j b=>by grind [Nat.mul_add_div,Nat.div_eq_of_lt,jV]) (λm j b=>by
   rw[d,<-Int.natCast_ediv,<-Int.natCast_emod,Nat.mul_add_div a,Nat.div_eq_of_lt b,Nat.add_zero,Nat.mul_add_mod,Nat.mod_eq_of_lt b]
   grind) n
 rw[<-l]at h;unfold wz m8 GB
 grind [fil]
def A7(h:ac):List Int:=h.G.flatMap GB++h.J.map λl=>16*l.M
theorem zV{h:ac}(f:jB h []):(holders h).Perm (A7 h):=by
 have d:=f.nd;rw[List.nil_append]at d;have n:=f.L;refine(List.perm_ext_iff_of_nodup d ?_).2 λa=>?_
 ·unfold A7
  rw[List.nodup_append];refine⟨?_,?_,?_⟩
  ·unfold List.Nodup
   rw[List.pairwise_flatMap];refine⟨λs _=>Hx s,?_⟩;refine f.srs.imp fun {s u} hlt a j b k=>?_
   have c:=mu.1 j;have o:=mu.1 k;have:=c.2.1;have:=o.1;omega
  ·grind [jB.srl]
  intro a j b k e;obtain⟨s,g,c⟩:=List.mem_flatMap.1 j;obtain⟨l,i,rfl⟩:=C2.1 k;have c:=mu.1 c;have p:=bq (n.lok l i);have q:=c.1;have r:=c.2.1;exact n.dis s g l i 0 ω ω
 have:=f.mem a;rw[List.nil_append]at this;rw[this];unfold Live A7;rw[N1,List.mem_flatMap,C2];constructor
 ·rintro(⟨s,g,c,-⟩|⟨l,i,e⟩)
  all_goals grind [mu]
 rintro(⟨s,g,c⟩|⟨l,i,e⟩)
 ·exact .inl ⟨s,g,mu.1 c,.inl (by decide)⟩
 grind
theorem Eh{h:ac}(b:jB h []):sm (cst h) (holders h)=f6 h.G h.J:=by
 have e:=b.L;rw[FS _ (zV b)];unfold A7 f6;rw[lE,gX,gX]
 congr 1
 ·refine wi GB h.G λs d=>?_
  have f:=aR (e.sok s d);rw[rq (c:=csz s.T) (GB s) λa g=>oI b f.2.2.1 ⟨s,d,mu.1 g,.inr rfl⟩,He (e.sok s d)]
 grind [xX,uv]
def uW{h:ac}(f:Int->Int):∀(b:List (List Int))(k:Nat),(∀j:Nat,j<b.length->∀a∈nth b j,f a=csz ((k+j:Nat):Int))->sm f b.flatten=bo k b
 | [],_,_=>rfl
 | l::b,k,e=>by
  rw[List.flatten_cons,lE,bo];rw[rq (c:=csz (k:Nat)) l λa d=>e 0 (by simp) a d,uW (h:=h) f b (k+1) λj g a d=>by
    rw[show k+1+j=k+(j+1) by omega];exact e (j+1) (by simp;omega) a d]
theorem oM(xs:List ay):quarCells xs xs.length=sm (λx=>csz x.T) xs:=by
 have h:∀n,quarCells xs n=bD (λx:ay=>csz x.T) xs n:=λn=>by
  induction n with
  | zero=>rfl
  | succ n a=>grind [quarCells,bD]
 rw[h,gX]
theorem Ak{h:ac}(a:jB h []){o:bg}(d:o∈h.S):cst h o.Z=bK o:=by
 unfold bK;rcases a.oow o d with⟨s,b,e,f⟩|⟨l,c,g,i⟩
 ·have j:=aR (a.L.sok s b)
  rw[CA ω,<-f];exact oI a j.2.2.1 ⟨s,b,e,.inr rfl⟩
 have k:=cV (a.L.lok l c);rw[C9 (by grind [cO]),g,uv a c,i]
theorem balance{h:ac}(b:jB h []):(bu h).b5=(bu h).b6+(bu h).a9+(bu h).u+(bu h).b2:=by
 show f6 h.G h.J=bD bK h.S h.S.length+bD aS h.O h.O.length+quarCells h.b.d h.b.d.length+bD (bG h) (ax h.Y) (ax h.Y).length;rw[<-Eh b];unfold holders;rw[lE,lE,lE,gX,gX,gX,oM];have k:sm (cst h) (h.S.map (·.Z))=sm bK h.S:=xX _ _ λo l=>Ak b l
 have n:sm (cst h) (i6 h)=sm aS h.O:=wi _ _ λc e=>by
  unfold aS;rw[CA (b.cach c e)];exact uW (h:=h) (cst h) c.W 0 λj u a i=>by grind [oI,jB.hca]
 have p:sm (cst h) (h.b.d.map (·.Z))=sm (λx:ay=>csz x.T) h.b.d:=xX _ _ λx q=>by
  have r:=b.hqu x q;obtain⟨s,d,-,w⟩:=id r;have e:=aR (b.L.sok s d)
  grind [jB.quar,cz,eJ,oI,fm,ge]
 have t:sm (cst h) (ax h.Y)=sm (bG h) (ax h.Y):=by
  have:=xX (f:=bG h) (g:=cst h) (λa:Int=>a) (ax h.Y) λa i=>FP b (b.hfl a i)
  simp_all
 rw[k,n,p,t]
theorem s9(t:az):dC t=((fil (λp=>decide ((nth t.K p).o≠0)) t.K.length:Nat):Int):=by
 have h:∀n,bD bt t.K n=((fil (λp=>decide ((nth t.K p).o≠0)) n:Nat):Int):=λn=>by
  induction n with
  | zero=>rfl
  | succ n a=>
   rw[sZ];show bD bt t.K n+bt (nth t.K n)=_
   grind [bt]
 exact h _
theorem DE:∀{l m:List Nat},l.Nodup->(∀a∈l,a∈m)->l.length<=m.length
 | [],_,_,_=>N0 _
 | a::l,m,b,c=>by
  obtain⟨e,d⟩:=List.nodup_cons.1 b;have f:=c a ψ;have:=DE (l:=l) (m:=m.erase a) d ψ
  grind
theorem Fb(a:List Bool):eP a a.length=((fil (nth a) a.length:Nat):Int):=by
 have h:∀n,eP a n=((fil (nth a) n:Nat):Int):=λn=>by
  induction n with
  | zero=>rfl
  | succ n b=>
   rw[sZ];show eP a n+(if nth a n then 1 else 0)=_
   grind
 exact h _
theorem Gx{h:ac}(d:jB h []):0<=cT h.X.R.U/\cT h.X.R.U<=dC (tbl h):=by
 obtain⟨-,e,-,f,-⟩:=oR.1 d.ker;unfold cT;rw[CA e,Fb,s9];refine⟨ω,Int.ofNat_le.2 ?_⟩;have:=DE (l:=(List.range h.X.R.U.c.length).filter (nth h.X.R.U.c)) (m:=((List.range (tbl h).K.length).filter λp=>decide ((nth (tbl h).K p).o≠0)).map λp=>(nth (tbl h).K p).j.toNat) (List.nodup_range.sublist List.filter_sublist) λj b=>by
  rw[I2,List.mem_range]at b;have c:=f j b.1;rw[b.2]at c;have g:0<(cZ (tbl h) (j:Int)).length:=of_decide_eq_true c.symm;obtain⟨y,i⟩:=List.exists_mem_of_length_pos g;have a:=i;unfold cZ at a;obtain⟨p,-,rfl⟩:=C2.1 a
  grind [dD]
 rw[Q0]at this;exact this
theorem yK{α:Type}{f:α->Int} : ∀l:List α,(∀a∈l,0<=f a)->0<=sm f l
 | [],_=>Int.le_refl _
 | a::l,h=>by
  have d:=h a ψ;have e:=yK l λb c=>h b (R2 _ c)
  grind [sm]
def pZ:∀(a:List (List Int))(k:Nat),0<=bo k a
 | [],_=>Int.le_refl _
 | l::a,k=>by
  have b:=pZ a (k+1);have c:=Int.mul_nonneg (show(0:Int)<=l.length by omega) (csz8 (k:Nat)).1;simp only[bo];omega
theorem GC{h:ac}(a:jB h []):wd (bu h)=true:=by
 have n:=balance a;have e:=a.lens;have g:=a.to;have q:=Gx a;have r:(bu h).b1=dC (tbl h):=rfl;have t:(bu h).U=cT h.X.R.U:=rfl;have u:(bu h).i=(fe h:Nat):=rfl;have i:dC (tbl h)<=(fe h:Nat):=by
  rw[s9];have:fil (λp=>decide ((nth (tbl h).K p).o≠0)) (tbl h).K.length<=(tbl h).K.length:=by grind [fil]
  exact Int.ofNat_le.2 this
 have j:fe h<=32:=e.ents;have w:0<=(bu h).b6:=by
  show 0<=bD bK h.S h.S.length;rw[gX];refine yK _ λo k=>?_
  have:=nY g o k;unfold bK;split
  ·exact(csz8 _).1
  omega
 have y:0<=(bu h).a9:=by
  show 0<=bD aS h.O h.O.length;rw[gX];refine yK _ λc A=>?_
  unfold aS;split
  ·exact pZ _ _
  omega
 have B:0<=(bu h).u:=by
  show 0<=quarCells h.b.d h.b.d.length;rw[oM];exact yK _ λx _=>(csz8 _).1
 have C:0<=(bu h).b2:=by
  show 0<=bD (bG h) (ax h.Y) (ax h.Y).length;rw[gX];exact yK _ λx _=>(csz8 _).1
 have D:(bu h).b5<=16*32+1000*32:=by
  show bD wz h.G h.G.length+bD (·.g) h.J h.J.length<=_;have E:=(dU (f:=wz) (xs:=h.G) (b:=16) (λs _=>zr s) h.G.length (O1 _)).2;have F:=(dU (f:=λl:am=>l.g) (xs:=h.J) (b:=1000) (λl d=>by
    have:=cV (a.L.lok l d);omega) h.J.length (O1 _)).2
  grind [Hj.spans,Hj.larges]
 grind [wd]
open Go.RowKit
set_option maxRecDepth 20000
set_option maxHeartbeats 4000000
def jd(s:ByteArray)(l:List Int):Nat->ByteArray
 | 0=>s
 | k+1=>(if(k:Int) > 0 then jd s l k++⟨#[43]⟩ else jd s l k)++Bt.It (nth l k)
def D6(s:ah):ByteArray:=Bt.spText s.M s.T s.l++⟨#[32]⟩
def HG(h:ac)(s:ah):ByteArray:=jd (D6 s) (aG h s.M) (aG h s.M).length
def Jq(l:am):ByteArray:=((⟨#[108,97,114,103,101,32]⟩++Bt.It l.M)++⟨#[58]⟩)++Bt.It l.g
def D3(h:ac)(i:Nat):List ByteArray:=Hv (bu h)::(h.G.take i).map (HG h)
def A4(h:ac)(i:Nat):List ByteArray:=D3 h h.G.length++(h.J.take i).map Jq
def Hl(h:ac):List ByteArray:=if cQ h then A4 h h.J.length else []
def vZ(h:ac)(i:Nat):(D3 h i).length<=h.G.length+1:=by
 unfold D3;rw[List.length_cons,Q0,U0];omega
def vY(h:ac)(i:Nat):(A4 h i).length<=h.G.length+h.J.length+1:=by
 unfold A4;rw[Q1,Q0,U0];have:=vZ h h.G.length;omega
def y1{h:ac}{i:Nat}(a:i<h.G.length):D3 h (i+1)=D3 h i++[HG h (nth h.G i)]:=by
 unfold D3;rw[U2,ao a];simp
def xQ{h:ac}{i:Nat}(a:i<h.J.length):A4 h (i+1)=A4 h i++[Jq (nth h.J i)]:=by
 unfold A4;rw[U2,ao a];simp
def nN(s:ByteArray)(l:List Int):∀k,k<=l.length->jd s l k=s++DY ((l.take k).map Bt.It) ⟨#[43]⟩
 | 0,_=>by
  simp only[jd,List.take_zero,List.map_nil];rw[show DY [] ⟨#[43]⟩ = ⟨#[]⟩ from rfl];exact(ByteArray.append_empty).symm
 | k+1,g=>by
  have c:=nN s l k ω;have b:k<l.length:=ω
  have d:=ao b;simp only[jd];rw[c,U2,d];simp only[Option.toList_some,X2,C3,List.map_nil];cases k with
  | zero=>
   rw[C9 (by simp)];simp only[List.take_zero,List.map_nil,List.nil_append];unfold DY;simp only[List.map_nil,C3,Lib.join_nil,Lib.join_one];rw[show(⟨([]:List UInt8).toArray⟩ : ByteArray)=ByteArray.empty from rfl,ByteArray.append_empty]
  | succ k=>
   rw[CA ω,ByteArray.append_assoc,ByteArray.append_assoc]
   congr 1
   obtain⟨y,a,f⟩ : ∃y a,(l.take (k+1)).map Bt.It=y::a:=by
    cases e:(l.take (k+1)).map Bt.It with
    | nil=>have:=O0 List.length e;rw[Q0,U0,List.length_nil]at this;omega
    | cons y a=>exact⟨y,a,rfl⟩
   rw[f];unfold DY;simp only[List.cons_append,C3,X2,List.map_nil,Lib.join_cons,Lib.joinTail,List.flatten_append,List.flatten_cons,List.flatten_nil,List.append_nil]
   ext1
   simp
def pU{n:Int}(h:gS n):(Bt.It n).size<=21:=Bt.It_size h.1 h.2
def ro(s:ByteArray)(l:List Int)(b:∀x∈l,gS x):∀k,k<=l.length->(jd s l k).size<=s.size+k*22
 | 0,_=>by simp[jd]
 | k+1,d=>by
  have e:=ro s l b k ω;have a:k<l.length:=ω
  have f:=pU (b _ (aF a));have c:(⟨#[43]⟩ : ByteArray).size=1:=rfl;simp only[jd];split<;>(simp only[ByteArray.size_append,c];omega)
def Ag{s:ah}(h:ah.wf s):(D6 s).size<=110:=by
 have f:=pU h.1;have g:=pU h.2.1;have i:=Bt.bmT_size (c:=s.T) (b:=s.l);have a:(⟨#[58]⟩ : ByteArray).size=1:=rfl;have d:(⟨#[32]⟩ : ByteArray).size=1:=rfl;have e:(⟨#[]⟩ : ByteArray).size=0:=rfl;unfold D6 Bt.spText;split<;>(simp only[ByteArray.size_append,a,d,e];omega)
def v4{h:ac}(b:fe h<=1048576)(p:Int):∀x∈aG h p,gS x:=λx a=>by
 unfold aG at a;split at a
 ·cases a
 obtain⟨q,rfl⟩:=lC a;have:=(dD.1 a).1;change q<fe h at this;constructor<;>omega
def EC{h:ac}(b:cQ h=true)(j:Nat):gS (Mm.gI (zT (bu h)) j):=by
 have a:=GC (jB.of b);unfold wd at a;rw[C0]at a;unfold Mm.gI zT gS
 match j with
 | 0|1|2|3|4|5|6|7=>simp only[List.getD_cons_zero,List.getD_cons_succ];omega
 | j+8=>simp
inductive EA:C->C->Prop
 |rfl_ (c:C):EA c c
 |z_:EA .z (.s .suf [])
 |i_:EA (.s .H []) (.s .suf [])
 |s_ (o:dm) (rows rows':List (List C)) (ho:o=.own\/o=.suf) (hl:rows.length=rows'.length) (hk:∀(i:Nat)(r r':List C),rows[i]? = some r->rows'[i]? = some r'->r.length=r'.length)
   (hr:∀(i j:Nat)(r r':List C)(c c':C),rows[i]? = some r->rows'[i]? = some r'->r[j]? = some c->r'[j]? = some c'->EA c c'):EA (.s o rows) (.s .suf rows')
def Fj(cs a:List C):Prop:=cs.length=a.length/\∀(j:Nat)(c b:C),cs[j]? = some c->a[j]? = some b->EA c b
def Fj.nil:Fj [] []:=⟨rfl,λj c a h=>by simp at h⟩
def Fj.cons{c e:C}{cs a:List C}(h:EA c e)(f:Fj cs a):Fj (c::cs) (e::a):=by
 refine⟨by simp[f.1],λj y g b d=>?_⟩;cases j with
 | zero=>simp at b d;subst b d;exact h
 | succ j=>exact f.2 j y g (by simpa using b) (by simpa using d)
def Fj.refl(cs:List C):Fj cs cs:=⟨rfl,λj c d b a=>by rw[b]at a;cases a;exact .rfl_ _⟩
def EA.map{α:Type}{f g:α->List C}(xs:List α)(h:∀x∈xs,Fj (f x) (g x)):EA (.s .own (xs.map f)) (.s .suf (xs.map g)):=by
 refine .s_ .own _ _ (.inl rfl) (by simp) (λi r e a b=>?_) (λi j r e c k a b l n=>?_)
 all_goals
  rw[P1]at a b;cases d:xs[i]? with
  | none=>rw[d]at a;cases a
  | some x=>
   rw[d]at a b;simp only[Q2,P0]at a b;subst a b
   first|exact(h x (X0 d)).1|exact(h x (X0 d)).2 j c k l n
theorem Gk{w:World}{S Y:aa}{c:C}{v:Value}(h:cF w S Y c v):∀B,EA c B->cF w S Y B v:=by
 induction h with
 | z F a=>intro B t;cases t with|rfl_=>exact .z _ _|z_=>exact .nil _ _ _ trivial
 | nil F o a H=>
  intro B t;cases t with
  | rfl_=>exact .nil _ _ _ H
  | i_=>exact .nil _ _ _ trivial
  | s_ _ _ d _ M=>obtain rfl:d=[]:=T3 (by simpa using M.symm);exact .nil _ _ _ trivial
 | H F g D k n y p u J R l hS N ih=>
  intro B t;cases t with
  | rfl_=>exact .H _ g D k n y p u J R l hS N
  | i_=>
   have hn0:n=0:=by simpa using J.symm
   subst hn0;exact .suf _ .suf g D k 0 y [] u (λ_=>NO) trivial rfl (λr T=>by cases T) (N0 _) (λq K=>ω) (λq K=>ω) (λq K=>ω) (λq q' K=>ω) (λi j r c hi hj=>by simp at hi)
  | s_ _ _ _ H=>rcases H with e|e<;>cases e
 | suf F o g D k n y p u f H J R l G U V t N ih=>
  intro B O;cases O with
  | rfl_=>exact .suf _ o g D k n y p u f H J R l G U V t N
  | i_=>exact H.elim
  | s_ _ _ d _ M W T=>
   have L:∀(i:Nat)(P:List C),d[i]? = some P->∃r,p[i]? = some r:=ψ
   refine .suf _ .suf g D k n y d u f trivial (M.symm.trans J) (λP X=>?_) l G U V t ψ
   all_goals grind [List.mem_iff_getElem?]
 | own F o g k n y p u f H J R l Z G U V t N ih=>
  intro B O;cases O with
  | rfl_=>exact .own _ o g k n y p u f H J R l Z G U V t N
  | i_=>exact H.elim
  | s_ _ _ d _ M W T=>
   have hnk:n*k<=y*k:=R3 k l;have L:∀(i:Nat)(P:List C),d[i]? = some P->∃r,p[i]? = some r:=ψ
   refine .suf _ .suf g 0 k n y d u f trivial (M.symm.trans J) (λP X=>?_) l (λq K=>?_) (λq K=>?_) (λq K b o hb=>?_) t ψ
   ·obtain⟨i,hi⟩:=List.mem_iff_getElem?.1 X
    obtain⟨r,hr0⟩:=L i P hi;rw[<-W i r P hr0 hi];exact R r (X0 hr0)
   ·rw[O3];have:=G q ω;exact⟨this.1,this.2.2⟩
   ·rw[O3]
    obtain⟨-,⟨z,h2,h3⟩,-⟩:=G q ω;have h4:=U q K;rw[h4]at h2;simp only[P0]at h2;exact⟨h4,by rw[h2];exact h3⟩
   obtain⟨h1,h2⟩:=V q K b o hb;exact⟨h1,λh=>h2 ⟨h.1,ω⟩⟩
 | v F x h1=>intro B t;cases t;exact .v _ _ h1
 | x F u h1=>intro B t;cases t;exact .x _ u h1
 | m F b A es E G hb he hv Q=>intro B t;cases t;exact .m _ b A es E G hb he hv Q
 | it F r b since c0 A seen E cur left G T hb Q N hv M hcur=>intro B t;cases t;exact .it _ r b since c0 A seen E cur left G T hb Q N hv M hcur
def Gt{w:World}{S Y:aa}{cs b:List C}{u:Nat->Value}(h:bH w S Y cs u)(c:Fj cs b):bH w S Y b u:=by
 obtain⟨f,i,k,l⟩:=h;refine⟨f,λj g a=>?_,λj a=>k j (by rw[c.1];exact a),λj n a e=>l j n (by rw[c.1];exact a) (by rw[c.1];exact e)⟩;have d:j<cs.length:=by rw[c.1];exact(I1.1 a).1
 exact Gk (i j _ (C1 d)) g (c.2 j _ g (C1 d) a)
def af.sf{P:Program}{f:Nat}{sh:Bool}{A:List RA}{k:Kd}{rcs rcs':List C}(h:af P f sh A k rcs)(a:Fj rcs rcs'):af P f sh A k rcs':=
 ⟨h.has,λw S b c d=>(h.run w S b c d).mono λ_ _ ⟨v,e,g,X,i,j,l,n,o,p⟩=>⟨v,e,g,X,i,j,l,n,by rw[<-a.1];exact o,Gt p a⟩⟩
def BZ{n b:Nat}(h:n<=4194304)(a:b<=1000):n*b<=140737488355328:=O2 (Nat.mul_le_mul h a) (by decide)
def D2{a b:ByteArray}(c:a.size<=1099511627776)(d:b.size<=1099511627776):((a.size+b.size:Nat):Int)<=9223372036854775807:=ω
def one43:(⟨#[43]⟩ : ByteArray).size<=1099511627776:=by decide
def one32:(⟨#[32]⟩ : ByteArray).size<=1099511627776:=by decide
def one58:(⟨#[58]⟩ : ByteArray).size<=1099511627776:=by decide
def larg:(⟨#[108,97,114,103,101,32]⟩ : ByteArray).size<=1099511627776:=by decide
def D8{a b:ByteArray}{n:Nat}(c:a.size<=n)(d:b.size<=1000)(e:n<=1099511620000):(a++b).size<=1099511627776:=by rw[ByteArray.size_append];omega
def AD(x:List ByteArray):g9 (fI .own x):=⟨⟨.inl λh=>(by cases h),bc _ _ λy _=>⟨trivial,trivial⟩⟩,trivial⟩
def GL(xs:List ByteArray):Fj (fI .own xs) (fI .suf xs):=.cons (EA.map _ λ_ _=>.refl _) .nil
def Be{s:ah}(h:ah.wf s):(Bt.spText s.M s.T s.l).size<=1099511627776:=by
 have a:=Ag h;unfold D6 at a;rw[ByteArray.size_append]at a;omega
def qH(h:ac)(t:ac.sml h)(o:ac.wf h):af Tryz.prog 6 false [.val (some 24) (ac.enc .H h)] .one (fI .suf (Hl h)):=by
 have p:=qs h t o;obtain⟨u,L,w,y,M,N,O,P,Q⟩:=id t;have c:vB h:=u.1.2;have d:fe h<=1048576:=c.1;have R:h.G.length<=1048576:=w.1;have S:h.J.length<=1048576:=y.1;unfold Hl;cases e:cQ h with
 | false=>
  rw[e]at p;rw[C9 (by simp)];refine af.sf (rcs:=[.z]) ?_ (.cons .z_ .nil);refine fO 91 [(9,7,[34,35,36,37,38,39,40]),(20,19,[70,71,72,73,74,75,76,77,78,79,80,81,82,83,84,85,86,87,88])] Tryz.func6 rfl ?_
  repeat'(first|refine gP ?_|(conv=>whnf);first|refine C4 (p) ?_)
  rfl
 | true=>
  rw[e]at p;rw[CA rfl];have T:=sP h t o e;have U:=BA (bu h) (EC e);refine af.sf (rcs:=fI .own (A4 h h.J.length)) ?_ (GL _);refine fO 91 [(9,7,[34,35,36,37,38,39,40]),(20,19,[70,71,72,73,74,75,76,77,78,79,80,81,82,83,84,85,86,87,88])] Tryz.func6 rfl ?_ (.inr (AD _))
  repeat'(first|refine gP ?_|(conv=>whnf);first|refine C4 (p) ?_|refine C4 (T) ?_|refine Cl.eq (U) ⟨⟨rfl,bB.enc_fz _⟩,trivial⟩ ?_|refine CI (λ_ b=>nomatch b) (λr b=>by rw[T0.1 b];rfl) (by simp[aQ,cW,tC]) (by simp) (BZ (by simp) (by decide)) rfl ?_)
  (conv=>whnf)
  refine C8 (ι:=Nat) (λi=>[(1,.F .box (ac.enc .H h)),(3,.F .one (fI .own (D3 h i))),(4,.F .one [I ((i:Nat):Int)])]) (λi=>i<=h.G.length) (λi=>h.G.length - i) (0) ?_ (N0 _) λi hi=>?_
  ·exact wC
  have V:=vZ h i;by_cases B:i<h.G.length
  ·have g:=ao B
   have l:ah.wf (nth h.G i):=o.2.2.1.2 _ (aF B);have W:=zA (nth h.G i);have X:=gQ h (nth h.G i).M c;have Y:=Be l
   repeat'(first|refine gE ?_|(conv=>whnf);first|with_reducible refine C6 (ab g) ?_|refine CM rfl (ab g) rfl ?_|refine C4 (W) ?_|refine C4 (X) ?_|refine CD (D2 Y one32) ?_|refine Es.mk rfl ?_)
   (conv=>whnf)
   refine C8 (ι:=Nat) (λk=>[(1,.F .box (ac.enc .H h)),(3,.F .one (fI .own (D3 h i))),(4,.F .one [I ((i:Nat):Int)]),(5,.F .one [tC (jd (D6 (nth h.G i)) (aG h (nth h.G i).M) k)]),(6,.F .one (aK .own (aG h (nth h.G i).M))),(7,.F .one [I ((k:Nat):Int)])]) (λk=>k<=(aG h (nth h.G i).M).length) (λk=>(aG h (nth h.G i).M).length - k) (0) ?_ (N0 _) λk Z=>?_
   ·exact wC
   have hpl:=eR h (nth h.G i).M;have q1:=ro (D6 (nth h.G i)) _ (v4 d (nth h.G i).M) k Z;have q2:=Ag l;by_cases E:k<(aG h (nth h.G i).M).length
   ·have q:=ao E
    have w1:=v4 d (nth h.G i).M _ (aF E);have F:=pc _ w1;have q3:=pU w1;have G:(jd (D6 (nth h.G i)) (aG h (nth h.G i).M) k).size<=1099511627776:=ω
    have q5:(jd (D6 (nth h.G i)) (aG h (nth h.G i).M) k++⟨#[43]⟩).size<=1099511627776:=D8 (n:=110+k*22) ω (by decide) ω;have H:(Bt.It (nth (aG h (nth h.G i).M) k)).size<=1099511627776:=ω
    by_cases J:(k:Int) > 0
    ·repeat'(first|refine gE ?_|(conv=>whnf);first|with_reducible refine C6 (ab q) ?_|refine C4 (F) ?_|refine CM rfl (ab q) rfl ?_|refine CD (D2 G one43) ?_|refine CD (D2 q5 H) ?_|refine Es.mk rfl ?_)
     ((conv=>whnf);refine C7 (k+1) ω ω ?_)
     repeat'(first|exact trivial|rfl| exact g8 _ |exact C5 (O0 tC (by simp only[jd];rw[CA J])) trivial|refine C5 ?_ ?_|(exact GO (by first|omega|(simp only;omega)|(simp;omega))))
    repeat'(first|refine gE ?_|(conv=>whnf);first|with_reducible refine C6 (ab q) ?_|refine C4 (F) ?_|refine CM rfl (ab q) rfl ?_|refine CD (D2 G H) ?_|refine Es.mk rfl ?_)
    ((conv=>whnf);refine C7 (k+1) ω ω ?_)
    repeat'(first|exact trivial|rfl| exact g8 _ |exact C5 (O0 tC (by simp only[jd];rw[C9 J])) trivial|refine C5 ?_ ?_|(exact GO (by first|omega|(simp only;omega)|(simp;omega))))
   obtain rfl:k=(aG h (nth h.G i).M).length:=ω
   repeat'(first|refine gE ?_|(conv=>whnf);first|refine CI (oB λ_=>rfl) (λr b=>by rw[T0.1 b];rfl) (by simp[aQ,cW,tC]) (by simp;omega) (BZ (by simp;omega) (by decide)) rfl ?_)
   ((conv=>whnf);refine C7 (i+1) ω ω ?_)
   repeat'(first|exact trivial|rfl| exact g8 _ |exact C5 rfl (C5 (O0 (C.s dm.own) (by rw[y1 B];simp[y5,tC,HG])) trivial)|refine C5 ?_ ?_|(exact GO (by first|omega|(simp only;omega)|(simp;omega))))
  obtain rfl:i=h.G.length:=ω
  repeat'(first|refine gE ?_|fail)
  rw[show D3 h h.G.length=A4 h 0 from by unfold A4;simp]
  (conv=>whnf)
  refine C8 (ι:=Nat) (λj=>[(1,.F .box (ac.enc .H h)),(3,.F .one (fI .own (A4 h j))),(8,.F .one [I ((j:Nat):Int)])]) (λj=>j<=h.J.length) (λj=>h.J.length - j) (0) ?_ (N0 _) λj hj=>?_
  ·exact wC
  have K:=vY h j;by_cases D:j<h.J.length
  ·have g:=ao D
   have a:am.wf (nth h.J j):=o.2.2.2.1.2 _ (aF D);have c6:=pc _ a.1;have c7:=pc _ a.2.2;have q7:=pU a.1;have q8:=pU a.2.2;have q9:(Bt.It (nth h.J j).M).size<=1099511627776:=ω
   have qa:(Bt.It (nth h.J j).g).size<=1099511627776:=ω
   have qb:((⟨#[108,97,114,103,101,32]⟩ : ByteArray)++Bt.It (nth h.J j).M).size<=1099511627776:=D8 (n:=6) (by decide) ω (by decide);have qc:(((⟨#[108,97,114,103,101,32]⟩ : ByteArray)++Bt.It (nth h.J j).M)++⟨#[58]⟩).size<=1099511627776:=D8 (n:=1000) (by rw[ByteArray.size_append];have:(⟨#[108,97,114,103,101,32]⟩ : ByteArray).size=6:=rfl;omega) (by decide) (by decide)
   repeat'(first|refine gE ?_|(conv=>whnf);first|with_reducible refine C6 (ab g) ?_|refine CM rfl (ab g) rfl ?_|refine C4 (c6) ?_|refine C4 (c7) ?_|refine CD (D2 larg q9) ?_|refine CD (D2 qb one58) ?_|refine CD (D2 qc qa) ?_|refine Es.mk rfl ?_|refine CI (oB λ_=>rfl) (λr b=>by rw[T0.1 b];rfl) (by simp[aQ,cW,tC]) (by simp;omega) (BZ (by simp;omega) (by decide)) rfl ?_)
   ((conv=>whnf);refine C7 (j+1) ω ω ?_)
   repeat'(first|exact trivial|rfl| exact g8 _ |exact C5 rfl (C5 (O0 (C.s dm.own) (by rw[xQ D];simp[y5,tC,Jq])) trivial)|refine C5 ?_ ?_|(exact GO (by first|omega|(simp only;omega)|(simp;omega))))
  obtain rfl:j=h.J.length:=ω
  repeat'(first|refine gE ?_|fail)
  rfl
def Gw(x:List ByteArray):gV (fI .own x)=fI .H x:=by simp[gV,fI,y5,tC]
def GV(l:List Int)(a:∀x∈l,gS x):(DY (l.map Bt.It) ⟨#[43]⟩).size<=l.length*22:=by
 have b:=ro ⟨#[]⟩ l a l.length (O1 _);rw[nN _ _ _ (O1 _),P2,ByteArray.size_append]at b;have c:(⟨#[]⟩ : ByteArray).size=0:=rfl;omega
def qL(h:ac)(q:ac.sml h)(H:ac.wf h):af Tryz.prog 8 false [.val (some 24) (ac.enc .H h)] .one (fI .suf (Hl h)):=by
 have b:=qv h q;rw[uy]at b;obtain⟨t,L,u,w,M,N,O,P,Q⟩:=id q;have c:vB h:=t.1.2;have y:fe h<=1048576:=c.1;have R:h.G.length<=1048576:=u.1;have S:h.J.length<=1048576:=w.1;unfold Hl;cases e:cQ h with
 | false=>
  rw[e]at b;rw[C9 (by simp)];refine af.sf (rcs:=[.z]) ?_ (.cons .z_ .nil);refine fO 72 [(18,11,[58,59,60,61,62,63,64,65,66,67,68])] Tryz.func8 rfl ?_
  repeat'(first|refine gP ?_|(conv=>whnf);first|refine C4 (b) ?_)
  rfl
 | true=>
  rw[e]at b;rw[CA rfl];have T:=sy h q e;have U:=BX (bu h) (EC e);refine af.sf (rcs:=fI .own (A4 h h.J.length)) ?_ (GL _);refine fO 72 [(18,11,[58,59,60,61,62,63,64,65,66,67,68])] Tryz.func8 rfl ?_ (.inr (AD _))
  repeat'(first|refine gP ?_|(conv=>whnf);first|refine C4 (b) ?_|refine C4 (T) ?_|refine Cl.eq (U) ⟨⟨rfl,bB.enc_fz _⟩,trivial⟩ ?_)
  (conv=>whnf)
  refine C8 (ι:=Nat) (λi=>[(1,.F .box (ac.enc .H h)),(3,.F .one (fI .own (D3 h i))),(19,.F .one (bi .H h.G)),(20,.F .one [I (h.G.length)]),(21,.F .one [I ((i:Nat):Int)])]) (λi=>i<=h.G.length) (λi=>h.G.length - i) (0) ?_ (N0 _) λi hi=>?_
  ·exact wC
  have V:=vZ h i;by_cases B:i<h.G.length
  ·have d:=ao B
   have g:ah.wf (nth h.G i):=H.2.2.1.2 _ (aF B);have W:=zm (nth h.G i);have X:=km h (nth h.G i).M c;have Y:=Be g;have Z:=eR h (nth h.G i).M;have o:=v4 y (nth h.G i).M;have D:HG h (nth h.G i)=D6 (nth h.G i)++DY ((aG h (nth h.G i).M).map Bt.It) ⟨#[43]⟩:=by
    unfold HG;rw[nN _ _ _ (O1 _),P2]
   generalize aG h (nth h.G i).M=l at *
   repeat'(first|refine gE ?_|(conv=>whnf);first|with_reducible refine C6 (ab d) ?_|refine CM rfl (ab d) rfl ?_|refine C4 (X) ?_)
   (conv=>whnf)
   refine C8 (ι:=Nat) (λk=>[(1,.F .box (ac.enc .H h)),(3,.F .one (fI .own (D3 h i))),(5,.F .box (ah.enc .H (nth h.G i))),(6,.F .one (fI .own ((l.take k).map Bt.It))),(19,.F .one (bi .H h.G)),(20,.F .one [I (h.G.length)]),(21,.F .one [I ((i:Nat):Int)]),(29,.F .one (aK .own l)),(30,.F .one [I (l.length)]),(31,.F .one [I ((k:Nat):Int)])]) (λk=>k<=l.length) (λk=>l.length - k) (0) ?_ (N0 _) λk hk=>?_
   ·exact wC
   by_cases J:k<l.length
   ·have E:=ao J
    have c5:=pi _ (o _ (aF J))
    repeat'(first|refine gE ?_|(conv=>whnf);first|with_reducible refine C6 (ab E) ?_|refine C4 (c5) ?_|refine CM rfl (ab E) rfl ?_|refine CI (oB λ_=>rfl) (λr p=>by rw[T0.1 p];rfl) (by simp[aQ,cW,tC]) (by simp;omega) (BZ (by simp;omega) (by decide)) rfl ?_)
    ((conv=>whnf);refine C7 (k+1) ω ω ?_)
    repeat'(first|exact trivial|rfl| exact g8 _ |exact C5 rfl (C5 (O0 (C.s dm.own) (by rw[U2,E];simp[y5,tC])) trivial)|refine C5 ?_ ?_|(exact GO (by first|omega|(simp only;omega)|(simp;omega))))
   obtain rfl:k=l.length:=ω
   rw[P2];have q2:=Ag g;have q3:=GV l o;have q4:(D6 (nth h.G i)).size<=1099511627776:=ω
   have q5:(DY (l.map Bt.It) ⟨#[43]⟩).size<=1099511627776:=ω
   have F:=Gd (l.map Bt.It) ⟨#[43]⟩ (by rw[Q0];omega) ω
   repeat'(first|refine gE ?_|(conv=>whnf);first|refine C4 (W) ?_|refine CD (D2 Y one32) ?_|refine CD (D2 q4 q5) ?_|refine Es.mk rfl ?_|refine Cl.eq (F) ⟨⟨rfl,Gw _⟩,⟨rfl,rfl⟩,trivial⟩ ?_|refine CI (oB λ_=>rfl) (λr p=>by rw[T0.1 p];rfl) (by simp[aQ,cW,tC]) (by simp;omega) (BZ (by simp;omega) (by decide)) rfl ?_)
   ((conv=>whnf);refine C7 (i+1) ω ω ?_)
   repeat'(first|exact trivial|rfl| exact g8 _ |exact C5 rfl (C5 (O0 (C.s dm.own) (by rw[y1 B,D];simp[y5,tC,D6])) trivial)|refine C5 ?_ ?_|(exact GO (by first|omega|(simp only;omega)|(simp;omega))))
  obtain rfl:i=h.G.length:=ω
  repeat'(first|refine gE ?_|fail)
  rw[show D3 h h.G.length=A4 h 0 from by unfold A4;simp]
  (conv=>whnf)
  refine C8 (ι:=Nat) (λj=>[(3,.F .one (fI .own (A4 h j))),(52,.F .one (aP .H h.J)),(53,.F .one [I (h.J.length)]),(54,.F .one [I ((j:Nat):Int)])]) (λj=>j<=h.J.length) (λj=>h.J.length - j) (0) ?_ (N0 _) λj hj=>?_
  ·exact wC
  have K:=vY h j;by_cases G:j<h.J.length
  ·have d:=ao G
   have a:am.wf (nth h.J j):=H.2.2.2.1.2 _ (aF G);have F:=pi _ a.1;have c7:=pi _ a.2.2;have q7:=pU a.1;have q8:=pU a.2.2;have q9:(Bt.It (nth h.J j).M).size<=1099511627776:=ω
   have qa:(Bt.It (nth h.J j).g).size<=1099511627776:=ω
   have qb:((⟨#[108,97,114,103,101,32]⟩ : ByteArray)++Bt.It (nth h.J j).M).size<=1099511627776:=D8 (n:=6) (by decide) ω (by decide);have qc:(((⟨#[108,97,114,103,101,32]⟩ : ByteArray)++Bt.It (nth h.J j).M)++⟨#[58]⟩).size<=1099511627776:=D8 (n:=1000) (by rw[ByteArray.size_append];have:(⟨#[108,97,114,103,101,32]⟩ : ByteArray).size=6:=rfl;omega) (by decide) (by decide)
   repeat'(first|refine gE ?_|(conv=>whnf);first|with_reducible refine C6 (ab d) ?_|refine CM rfl (ab d) rfl ?_|refine C4 (F) ?_|refine C4 (c7) ?_|refine CD (D2 larg q9) ?_|refine CD (D2 qb one58) ?_|refine CD (D2 qc qa) ?_|refine Es.mk rfl ?_|refine CI (oB λ_=>rfl) (λr p=>by rw[T0.1 p];rfl) (by simp[aQ,cW,tC]) (by simp;omega) (BZ (by simp;omega) (by decide)) rfl ?_)
   ((conv=>whnf);refine C7 (j+1) ω ω ?_)
   repeat'(first|exact trivial|rfl| exact g8 _ |exact C5 rfl (C5 (O0 (C.s dm.own) (by rw[xQ G];simp[y5,tC,Jq])) trivial)|refine C5 ?_ ?_|(exact GO (by first|omega|(simp only;omega)|(simp;omega))))
  obtain rfl:j=h.J.length:=ω
  repeat'(first|refine gE ?_|fail)
  rfl
set_option maxHeartbeats 2000000
def sq(n:Int)(h:n<=9223372036854775807):af Tryz.prog 65 false [.val none [I n]] .one [tC (Nm.mkT n)]:=
 .plain rfl ⟨_,Tryz.func65,by kernel_rfl,by kernel_rfl⟩ λw S b c d a=>by
  match b,a with
  | [v],⟨a,_⟩=>
   obtain rfl:=val_v (show aX w S NO none [.v (.int .i64 n)] v from a);exact Nm.markText_any n w h
def D4(x:List ByteArray):Prop:=x.length<=4194304
def oK(x:List ByteArray):Nat:=x.length
def mU(_:List ByteArray)(i:Nat):Nat:=i
def qO:List ByteArray->Int->List ByteArray
 | [],_=>[]
 | _::xs,k=>Nm.mkT k::qO xs (k+1)
def rj:∀(x:List ByteArray)(k:Int),(qO x k).length=x.length
 | [],_=>rfl
 | _::xs,k=>by simp[qO,rj xs]
def rc:∀(x:List ByteArray)(k:Int)(i:Nat),i<x.length->(qO x k)[i]? = some (Nm.mkT (k+(i:Nat)))
 | [],_,i,h=>by simp at h
 | _::xs,k,0,_=>by simp[qO]
 | _::xs,k,i+1,h=>by
  simp only[qO,List.getElem?_cons_succ];rw[rc xs (k+1) i (by simpa using h)]
  congr 2
  omega
def rO(x:List ByteArray):gV (fI .suf x)=fI .H x:=by simp[gV,fI,y5,tC]
def rh(x:List ByteArray)(k:Int)(g:D4 x)(n:0<=k)(h:k+(oK x:Nat)<=1099511627776):bR Tryz.prog 12 false [.mut none (fI .suf x),.val none [I k]] [.mut none (fI .suf (qO x k)),.val none []] .one [I (k+(oK x:Nat))]:=by
 have o:x.length<=4194304:=g;unfold oK at h;have a:((qO x k).map (y5 .suf)).length=(x.map (y5 .suf)).length:=by simp[rj]
 refine fM 20 [] [] [(0,0),(0,0)] Tryz.func12 rfl (λu p=>?_)
 repeat'(first|refine gP ?_|fail)
 (conv=>whnf)
 refine C8 (ι:=Nat) (λi=>[(0,.F .one [.s (.tagS (u 0 0)) (ew ((qO x k).map (y5 .suf)) (x.map (y5 .suf)) i)]),(1,.F .one [I (k+(mU x i:Nat))]),(5,.F .one [I (i:Nat)])]) (λi=>i<=x.length) (λi=>x.length - i) 0 ?_ (N0 _) λi q=>?_
 ·rw[b8]
  repeat'(first|exact trivial|rfl|exact C5 rfl (C5 (O0 I (by unfold mU;omega)) trivial)|refine C5 ?_ ?_)
 have b:=(eH a i).trans (show(x.map (y5 .suf)).length=x.length by simp);by_cases c:i<x.length
 ·obtain⟨y,j⟩ : ∃y,x[i]? = some y:=⟨_,C1 c⟩
  have d:=cy a i (by simp;omega);rw[ab j]at d;have e:=rc x k i c;unfold mU
  repeat'(first|refine gE ?_|(conv=>whnf);first|with_reducible (first|refine CH b ?_|refine C6 d ?_)|refine CF rfl rfl d rfl (O1 _) rfl ?_|refine C4 (sq (k+(i:Nat)) ω) ?_|refine C6 (aV d) ?_|refine C7 (i+1) ω ω ?_)
  repeat'(first|exact trivial|rfl|exact C5 rfl (C5 (O0 (C.s _) (by first|exact bj a (ab e)|(simp only[List.set_set];exact bj a (ab e)))) trivial)|exact C5 rfl (C5 (O0 I (by first|omega|(unfold mU;omega))) trivial)|refine C5 ?_ ?_)
 repeat'(first|refine gE ?_|(conv=>whnf);first|with_reducible refine CH b ?_|refine CL rfl ?_ ?_)
 ·have l:i=x.length:=ω
  subst l;exact O0 (λz=>[I z]) (by unfold mU oK;rfl)
 rw[cw _ a (by simp;omega)]
 repeat'(first|exact trivial|exact rfl|refine C5 ?_ ?_)
def rQ(x:List ByteArray)(k:Int)(b:D4 x)(h:0<=k)(c:k+(oK x:Nat)<=1099511627776):af Tryz.prog 13 false [.val none (fI .H (qO x k)),.val none [I k]] .one [I (k+(oK x:Nat))]:=by
 have j:x.length<=4194304:=b;have d:=rj x k;unfold oK at c;refine fO 22 [(4,6,[12,13,14,15,16,17])] Tryz.func13 rfl ?_
 repeat'(first|refine gP ?_|fail)
 (conv=>whnf)
 refine C8 (ι:=Nat) (λi=>[(0,.F .one (fI .H (qO x k))),(1,.F .one [I (k+(mU x i:Nat))]),(5,.F .one [I (i:Nat)])]) (λi=>i<=x.length) (λi=>x.length - i) 0 ?_ (N0 _) λi l=>?_
 ·repeat'(first|exact trivial|rfl|exact C5 rfl (C5 (O0 I (by unfold mU;omega)) trivial)|refine C5 ?_ ?_)
 by_cases a:i<x.length
 ·obtain⟨y,n⟩ : ∃y,x[i]? = some y:=⟨_,C1 a⟩
  have e:=rc x k i a;unfold mU
  repeat'(first|refine gB ?_|(conv=>whnf);first|with_reducible refine C6 (ab e) ?_|refine C4 (sq (k+(i:Nat)) ω) ?_|refine Bf.t (beq_self_eq_true _) ?_|refine C7 (i+1) ω ω ?_)
  repeat'(first|exact trivial|rfl|exact C5 rfl (C5 (O0 I (by first|omega|(unfold mU;omega))) trivial)|refine C5 ?_ ?_)
 repeat'(first|refine gB ?_|fail)
 have g:i=x.length:=ω
 subst g;exact O0 (λz=>[I z]) (by unfold mU oK;rfl)
def tf(a:List ByteArray)(c:D4 a):af Tryz.prog 9 false [.val none (fI .H a),.val none (fI .H a)] .one [B true]:=by
 refine fO 26 [(6,8,[17,18,19,20,21,22,23,24])] Tryz.func9 rfl ?_;have e:a.length<=4194304:=c
 repeat'(first|refine gP ?_|(conv=>whnf);first|with_reducible refine Bf.N (λh=>absurd rfl h) (λh=>?_))
 (conv=>whnf)
 refine C8 (ι:=Nat) (λi=>[(0,.F .one (fI .H a)),(1,.F .one (fI .H a)),(5,.F .one [I (i:Nat)])]) (λi=>i<=a.length) (λi=>a.length - i) 0 ?_ (N0 _) λi g=>?_
 ·exact wA
 by_cases b:i<a.length
 ·have d:=ao b
  repeat'(first|refine gE ?_|(conv=>whnf);first|with_reducible refine C6 (ab d) ?_|refine Bf.t (beq_self_eq_true _) ?_)
  ((conv=>whnf);refine C7 (i+1) ω ω ?_)
  exact wA
 repeat'(first|refine gE ?_|fail)
 rfl
set_option maxHeartbeats 2000000
def p7(x:List Int)(e:jK x):af Tryz.prog 117 false [.val none (aK .H x)] .one (aK .own x):=by
 refine fO 22 [] Tryz.func117 rfl ?_ (.inr (cu x));have g:x.length<=1048576:=e;have a:(x.map (rI .own)).length=(List.replicate x.length ([I 0]:List C)).length:=by simp
 repeat'(first|refine gP ?_|(conv=>whnf);first|refine Mk.mk _ rfl rfl ω (tp g (by decide)) rfl ?_)
 (conv=>whnf)
 refine C8 (ι:=Nat) (λi=>[(0,.F .one (aK .H x)),(3,.F .one [.s .own (ew (x.map (rI .own)) (List.replicate x.length [I 0]) i)]),(4,.F .one [I (i:Nat)])]) (λi=>i<=x.length) (λi=>x.length - i) 0 ?_ (N0 _) λi h=>?_
 ·rw[b8]
  exact wA
 by_cases b:i<x.length
 ·obtain⟨y,d⟩ : ∃y,x[i]? = some y:=⟨_,C1 b⟩
  have c:=cy a i (by simp;omega);rw[fh b]at c
  repeat'(first|refine gE ?_|(conv=>whnf);first|with_reducible (first|refine C6 (ab d) ?_|refine C6 c ?_)|refine CF rfl rfl c rfl (O1 _) rfl ?_|refine C7 (i+1) ω ω ?_)
  repeat'(first|exact trivial|rfl|exact C5 rfl (C5 (O0 (C.s dm.own) (bj a (ab d))) trivial)|refine C5 ?_ ?_)
 repeat'(first|refine gE ?_|fail)
 rw[cw _ a (by simp;omega)]
 rfl
def nH(x:List (List Int))(e:iC x):af Tryz.prog 124 false [.val none (dn .H x)] .one (dn .own x):=by
 refine fO 23 [] Tryz.func124 rfl ?_ (.inr (Dd x));have g:x.length<=1048576:=e.1;have a:(x.map (aK .own)).length=(List.replicate x.length ([.z]:List C)).length:=by simp
 repeat'(first|refine gP ?_|(conv=>whnf);first|refine Mk.mk _ rfl rfl ω (tp g (by decide)) rfl ?_)
 (conv=>whnf)
 refine C8 (ι:=Nat) (λi=>[(0,.F .one (dn .H x)),(3,.F .one [.s .own (ew (x.map (aK .own)) (List.replicate x.length [.z]) i)]),(4,.F .one [I (i:Nat)])]) (λi=>i<=x.length) (λi=>x.length - i) 0 ?_ (N0 _) λi h=>?_
 ·rw[b8]
  exact wA
 by_cases b:i<x.length
 ·obtain⟨y,c⟩ : ∃y,x[i]? = some y:=⟨_,C1 b⟩
  have d:=cy a i (by simp;omega);rw[fh b]at d
  repeat'(first|refine gE ?_|(conv=>whnf);first|with_reducible (first|refine C6 (ab c) ?_|refine C6 d ?_)|refine C4 (p7 y (e.2 y (X0 c))) ?_|refine CF rfl rfl d rfl (O1 _) rfl ?_|refine C7 (i+1) ω ω ?_)
  repeat'(first|exact trivial|rfl|exact C5 rfl (C5 (O0 (C.s dm.own) (bj a (ab c))) trivial)|refine C5 ?_ ?_)
 repeat'(first|refine gE ?_|fail)
 rw[cw _ a (by simp;omega)]
 rfl
def zx(x:List Bool)(e:lD x):af Tryz.prog 237 false [.val none (fC .H x)] .one (fC .own x):=by
 refine fO 22 [] Tryz.func237 rfl ?_ (.inr (Dn x));have g:x.length<=1048576:=e;have a:(x.map (rB .own)).length=(List.replicate x.length ([B false]:List C)).length:=by simp
 repeat'(first|refine gP ?_|(conv=>whnf);first|refine Mk.mk _ rfl rfl ω (tp g (by decide)) rfl ?_)
 (conv=>whnf)
 refine C8 (ι:=Nat) (λi=>[(0,.F .one (fC .H x)),(3,.F .one [.s .own (ew (x.map (rB .own)) (List.replicate x.length [B false]) i)]),(4,.F .one [I (i:Nat)])]) (λi=>i<=x.length) (λi=>x.length - i) 0 ?_ (N0 _) λi h=>?_
 ·rw[b8]
  exact wA
 by_cases b:i<x.length
 ·obtain⟨y,d⟩ : ∃y,x[i]? = some y:=⟨_,C1 b⟩
  have c:=cy a i (by simp;omega);rw[fh b]at c
  repeat'(first|refine gE ?_|(conv=>whnf);first|with_reducible (first|refine C6 (ab d) ?_|refine C6 c ?_)|refine CF rfl rfl c rfl (O1 _) rfl ?_|refine C7 (i+1) ω ω ?_)
  repeat'(first|exact trivial|rfl|exact C5 rfl (C5 (O0 (C.s dm.own) (bj a (ab d))) trivial)|refine C5 ?_ ?_)
 repeat'(first|refine gE ?_|fail)
 rw[cw _ a (by simp;omega)]
 rfl
def xY(x:aC)(a:aC.sml x):af Tryz.prog 193 false [.val (some 2) (aC.enc .H x)] .agg (aC.enc .own x):=by
 obtain⟨b,c⟩:=a;refine fO 13 [] Tryz.func193 rfl ?_ (.inr (aC.enc_fr x))
 repeat'(first|refine gP ?_|(conv=>whnf);first|refine C4 (nH x.V b) ?_|refine C4 (zx x.c c) ?_)
 rfl
def zB(x:aD)(a:aD.sml x):af Tryz.prog 272 false [.val (some 2) (aD.enc .H x)] .agg (aD.enc .own x):=by
 refine fO 11 [] Tryz.func272 rfl ?_ (.inr (aD.enc_fr x))
 repeat'(first|refine gP ?_|fail)
 rfl
def xd(x:List aD)(e:iI x):af Tryz.prog 238 false [.val none (d4 .H x)] .one (d4 .own x):=by
 refine fO 23 [] Tryz.func238 rfl ?_ (.inr (yq x));have g:x.length<=1048576:=e.1;have a:(x.map (aD.enc .own)).length=(List.replicate x.length ([I 0,I 0]:List C)).length:=by simp
 repeat'(first|refine gP ?_|(conv=>whnf);first|refine Mk.mk _ rfl rfl ω (tp g (by decide)) rfl ?_)
 (conv=>whnf)
 refine C8 (ι:=Nat) (λi=>[(0,.F .one (d4 .H x)),(3,.F .one [.s .own (ew (x.map (aD.enc .own)) (List.replicate x.length [I 0,I 0]) i)]),(4,.F .one [I (i:Nat)])]) (λi=>i<=x.length) (λi=>x.length - i) 0 ?_ (N0 _) λi h=>?_
 ·rw[b8]
  exact wA
 by_cases b:i<x.length
 ·obtain⟨y,d⟩ : ∃y,x[i]? = some y:=⟨_,C1 b⟩
  have c:=cy a i (by simp;omega);rw[fh b]at c
  repeat'(first|refine gE ?_|(conv=>whnf);first|with_reducible (first|refine C6 (ab d) ?_|refine C6 c ?_)|refine C4 (zB y trivial) ?_|refine CF rfl rfl c rfl (O1 _) rfl ?_|refine C7 (i+1) ω ω ?_)
  repeat'(first|exact trivial|rfl|exact C5 rfl (C5 (O0 (C.s dm.own) (bj a (ab d))) trivial)|refine C5 ?_ ?_)
 repeat'(first|refine gE ?_|fail)
 rw[cw _ a (by simp;omega)]
 rfl
def zE(x:az)(a:az.sml x):af Tryz.prog 194 false [.val (some 1) (az.enc .H x)] .agg (az.enc .own x):=by
 have b:=a;refine fO 9 [] Tryz.func194 rfl ?_ (.inr (az.enc_fr x))
 repeat'(first|refine gP ?_|(conv=>whnf);first|refine C4 (xd x.K b) ?_)
 rfl
def vw(x:aB)(a:aB.sml x):af Tryz.prog 116 false [.val (some 3) (aB.enc .H x)] .agg (aB.enc .own x):=by
 obtain⟨b,c⟩:=a;refine fO 13 [] Tryz.func116 rfl ?_ (.inr (aB.enc_fr x))
 repeat'(first|refine gP ?_|(conv=>whnf);first|refine C4 (xY x.U b) ?_|refine C4 (zE x.a c) ?_)
 rfl
def yD(x:au)(a:au.sml x):af Tryz.prog 34 false [.val (some 5) (au.enc .H x)] .agg (au.enc .own x):=by
 obtain⟨b,c⟩:=a;refine fO 16 [] Tryz.func34 rfl ?_ (.inr (au.enc_fr x))
 repeat'(first|refine gP ?_|(conv=>whnf);first|refine C4 (vw x.R b) ?_|refine C4 (p7 x.k c) ?_)
 rfl
def Al(x:aA)(a:aA.sml x):af Tryz.prog 118 false [.val (some 2) (aA.enc .H x)] .agg (aA.enc .own x):=by
 refine fO 11 [] Tryz.func118 rfl ?_ (.inr (aA.enc_fr x))
 repeat'(first|refine gP ?_|fail)
 rfl
def yi(x:List aA)(e:dQ x):af Tryz.prog 35 false [.val none (bQ .H x)] .one (bQ .own x):=by
 refine fO 23 [] Tryz.func35 rfl ?_ (.inr (yF x));have g:x.length<=1048576:=e.1;have a:(x.map (aA.enc .own)).length=(List.replicate x.length ([I 0,I 0]:List C)).length:=by simp
 repeat'(first|refine gP ?_|(conv=>whnf);first|refine Mk.mk _ rfl rfl ω (tp g (by decide)) rfl ?_)
 (conv=>whnf)
 refine C8 (ι:=Nat) (λi=>[(0,.F .one (bQ .H x)),(3,.F .one [.s .own (ew (x.map (aA.enc .own)) (List.replicate x.length [I 0,I 0]) i)]),(4,.F .one [I (i:Nat)])]) (λi=>i<=x.length) (λi=>x.length - i) 0 ?_ (N0 _) λi h=>?_
 ·rw[b8]
  exact wA
 by_cases b:i<x.length
 ·obtain⟨y,d⟩ : ∃y,x[i]? = some y:=⟨_,C1 b⟩
  have c:=cy a i (by simp;omega);rw[fh b]at c
  repeat'(first|refine gE ?_|(conv=>whnf);first|with_reducible (first|refine C6 (ab d) ?_|refine C6 c ?_)|refine C4 (Al y trivial) ?_|refine CF rfl rfl c rfl (O1 _) rfl ?_|refine C7 (i+1) ω ω ?_)
  repeat'(first|exact trivial|rfl|exact C5 rfl (C5 (O0 (C.s dm.own) (bj a (ab d))) trivial)|refine C5 ?_ ?_)
 repeat'(first|refine gE ?_|fail)
 rw[cw _ a (by simp;omega)]
 rfl
def B6(x:ah)(a:ah.sml x):af Tryz.prog 119 false [.val (some 3) (ah.enc .H x)] .agg (ah.enc .own x):=by
 refine fO 14 [] Tryz.func119 rfl ?_ (.inr (ah.enc_fr x))
 repeat'(first|refine gP ?_|fail)
 rfl
def zo(x:List ah)(e:bJ x):af Tryz.prog 36 false [.val none (bi .H x)] .one (bi .own x):=by
 refine fO 23 [] Tryz.func36 rfl ?_ (.inr (ze x));have g:x.length<=1048576:=e.1;have a:(x.map (ah.enc .own)).length=(List.replicate x.length ([I 0,I 0,I 0]:List C)).length:=by simp
 repeat'(first|refine gP ?_|(conv=>whnf);first|refine Mk.mk _ rfl rfl ω (tp g (by decide)) rfl ?_)
 (conv=>whnf)
 refine C8 (ι:=Nat) (λi=>[(0,.F .one (bi .H x)),(3,.F .one [.s .own (ew (x.map (ah.enc .own)) (List.replicate x.length [I 0,I 0,I 0]) i)]),(4,.F .one [I (i:Nat)])]) (λi=>i<=x.length) (λi=>x.length - i) 0 ?_ (N0 _) λi h=>?_
 ·rw[b8]
  exact wA
 by_cases b:i<x.length
 ·obtain⟨y,d⟩ : ∃y,x[i]? = some y:=⟨_,C1 b⟩
  have c:=cy a i (by simp;omega);rw[fh b]at c
  repeat'(first|refine gE ?_|(conv=>whnf);first|with_reducible (first|refine C6 (ab d) ?_|refine C6 c ?_)|refine C4 (B6 y trivial) ?_|refine CF rfl rfl c rfl (O1 _) rfl ?_|refine C7 (i+1) ω ω ?_)
  repeat'(first|exact trivial|rfl|exact C5 rfl (C5 (O0 (C.s dm.own) (bj a (ab d))) trivial)|refine C5 ?_ ?_)
 repeat'(first|refine gE ?_|fail)
 rw[cw _ a (by simp;omega)]
 rfl
def zL(x:am)(a:am.sml x):af Tryz.prog 120 false [.val (some 3) (am.enc .H x)] .agg (am.enc .own x):=by
 refine fO 14 [] Tryz.func120 rfl ?_ (.inr (am.enc_fr x))
 repeat'(first|refine gP ?_|fail)
 rfl
def yk(x:List am)(e:bw x):af Tryz.prog 37 false [.val none (aP .H x)] .one (aP .own x):=by
 refine fO 23 [] Tryz.func37 rfl ?_ (.inr (y2 x));have g:x.length<=1048576:=e.1;have a:(x.map (am.enc .own)).length=(List.replicate x.length ([I 0,I 0,I 0]:List C)).length:=by simp
 repeat'(first|refine gP ?_|(conv=>whnf);first|refine Mk.mk _ rfl rfl ω (tp g (by decide)) rfl ?_)
 (conv=>whnf)
 refine C8 (ι:=Nat) (λi=>[(0,.F .one (aP .H x)),(3,.F .one [.s .own (ew (x.map (am.enc .own)) (List.replicate x.length [I 0,I 0,I 0]) i)]),(4,.F .one [I (i:Nat)])]) (λi=>i<=x.length) (λi=>x.length - i) 0 ?_ (N0 _) λi h=>?_
 ·rw[b8]
  exact wA
 by_cases b:i<x.length
 ·obtain⟨y,d⟩ : ∃y,x[i]? = some y:=⟨_,C1 b⟩
  have c:=cy a i (by simp;omega);rw[fh b]at c
  repeat'(first|refine gE ?_|(conv=>whnf);first|with_reducible (first|refine C6 (ab d) ?_|refine C6 c ?_)|refine C4 (zL y trivial) ?_|refine CF rfl rfl c rfl (O1 _) rfl ?_|refine C7 (i+1) ω ω ?_)
  repeat'(first|exact trivial|rfl|exact C5 rfl (C5 (O0 (C.s dm.own) (bj a (ab d))) trivial)|refine C5 ?_ ?_)
 repeat'(first|refine gE ?_|fail)
 rw[cw _ a (by simp;omega)]
 rfl
def Ez(x:bg)(a:bg.sml x):af Tryz.prog 121 false [.val (some 4) (bg.enc .H x)] .agg (bg.enc .own x):=by
 refine fO 17 [] Tryz.func121 rfl ?_ (.inr (bg.enc_fr x))
 repeat'(first|refine gP ?_|fail)
 rfl
def BP(x:List bg)(e:lV x):af Tryz.prog 38 false [.val none (ee .H x)] .one (ee .own x):=by
 refine fO 23 [] Tryz.func38 rfl ?_ (.inr (Dm x));have g:x.length<=1048576:=e.1;have a:(x.map (bg.enc .own)).length=(List.replicate x.length ([I 0,I 0,I 0,I 0]:List C)).length:=by simp
 repeat'(first|refine gP ?_|(conv=>whnf);first|refine Mk.mk _ rfl rfl ω (tp g (by decide)) rfl ?_)
 (conv=>whnf)
 refine C8 (ι:=Nat) (λi=>[(0,.F .one (ee .H x)),(3,.F .one [.s .own (ew (x.map (bg.enc .own)) (List.replicate x.length [I 0,I 0,I 0,I 0]) i)]),(4,.F .one [I (i:Nat)])]) (λi=>i<=x.length) (λi=>x.length - i) 0 ?_ (N0 _) λi h=>?_
 ·rw[b8]
  exact wA
 by_cases b:i<x.length
 ·obtain⟨y,d⟩ : ∃y,x[i]? = some y:=⟨_,C1 b⟩
  have c:=cy a i (by simp;omega);rw[fh b]at c
  repeat'(first|refine gE ?_|(conv=>whnf);first|with_reducible (first|refine C6 (ab d) ?_|refine C6 c ?_)|refine C4 (Ez y trivial) ?_|refine CF rfl rfl c rfl (O1 _) rfl ?_|refine C7 (i+1) ω ω ?_)
  repeat'(first|exact trivial|rfl|exact C5 rfl (C5 (O0 (C.s dm.own) (bj a (ab d))) trivial)|refine C5 ?_ ?_)
 repeat'(first|refine gE ?_|fail)
 rw[cw _ a (by simp;omega)]
 rfl
def za(x:ar)(a:ar.sml x):af Tryz.prog 122 false [.val (some 1) (ar.enc .H x)] .agg (ar.enc .own x):=by
 have b:=a;refine fO 9 [] Tryz.func122 rfl ?_ (.inr (ar.enc_fr x))
 repeat'(first|refine gP ?_|(conv=>whnf);first|refine C4 (nH x.W b) ?_)
 rfl
def xA(x:List ar)(e:iM x):af Tryz.prog 39 false [.val none (cP .H x)] .one (cP .own x):=by
 refine fO 23 [] Tryz.func39 rfl ?_ (.inr (xt x));have g:x.length<=1048576:=e.1;have a:(x.map (ar.enc .own)).length=(List.replicate x.length ([.z]:List C)).length:=by simp
 repeat'(first|refine gP ?_|(conv=>whnf);first|refine Mk.mk _ rfl rfl ω (tp g (by decide)) rfl ?_)
 (conv=>whnf)
 refine C8 (ι:=Nat) (λi=>[(0,.F .one (cP .H x)),(3,.F .one [.s .own (ew (x.map (ar.enc .own)) (List.replicate x.length [.z]) i)]),(4,.F .one [I (i:Nat)])]) (λi=>i<=x.length) (λi=>x.length - i) 0 ?_ (N0 _) λi h=>?_
 ·rw[b8]
  exact wA
 by_cases b:i<x.length
 ·obtain⟨y,c⟩ : ∃y,x[i]? = some y:=⟨_,C1 b⟩
  have d:=cy a i (by simp;omega);rw[fh b]at d
  repeat'(first|refine gE ?_|(conv=>whnf);first|with_reducible (first|refine C6 (ab c) ?_|refine C6 d ?_)|refine C4 (za y (e.2 y (X0 c))) ?_|refine CF rfl rfl d rfl (O1 _) rfl ?_|refine C7 (i+1) ω ω ?_)
  repeat'(first|exact trivial|rfl|exact C5 rfl (C5 (O0 (C.s dm.own) (bj a (ab c))) trivial)|refine C5 ?_ ?_)
 repeat'(first|refine gE ?_|fail)
 rw[cw _ a (by simp;omega)]
 rfl
def BB(x:aH)(a:aH.sml x):af Tryz.prog 239 false [.val (some 2) (aH.enc .H x)] .agg (aH.enc .own x):=by
 refine fO 11 [] Tryz.func239 rfl ?_ (.inr (aH.enc_fr x))
 repeat'(first|refine gP ?_|fail)
 rfl
def zJ(x:List aH)(e:j8 x):af Tryz.prog 195 false [.val none (bV .H x)] .one (bV .own x):=by
 refine fO 23 [] Tryz.func195 rfl ?_ (.inr (jN x));have g:x.length<=1048576:=e.1;have a:(x.map (aH.enc .own)).length=(List.replicate x.length ([I 0,I 0]:List C)).length:=by simp
 repeat'(first|refine gP ?_|(conv=>whnf);first|refine Mk.mk _ rfl rfl ω (tp g (by decide)) rfl ?_)
 (conv=>whnf)
 refine C8 (ι:=Nat) (λi=>[(0,.F .one (bV .H x)),(3,.F .one [.s .own (ew (x.map (aH.enc .own)) (List.replicate x.length [I 0,I 0]) i)]),(4,.F .one [I (i:Nat)])]) (λi=>i<=x.length) (λi=>x.length - i) 0 ?_ (N0 _) λi h=>?_
 ·rw[b8]
  exact wA
 by_cases b:i<x.length
 ·obtain⟨y,d⟩ : ∃y,x[i]? = some y:=⟨_,C1 b⟩
  have c:=cy a i (by simp;omega);rw[fh b]at c
  repeat'(first|refine gE ?_|(conv=>whnf);first|with_reducible (first|refine C6 (ab d) ?_|refine C6 c ?_)|refine C4 (BB y trivial) ?_|refine CF rfl rfl c rfl (O1 _) rfl ?_|refine C7 (i+1) ω ω ?_)
  repeat'(first|exact trivial|rfl|exact C5 rfl (C5 (O0 (C.s dm.own) (bj a (ab d))) trivial)|refine C5 ?_ ?_)
 repeat'(first|refine gE ?_|fail)
 rw[cw _ a (by simp;omega)]
 rfl
def xS(x:List (List aH))(e:iJ x):af Tryz.prog 123 false [.val none (d5 .H x)] .one (d5 .own x):=by
 refine fO 23 [] Tryz.func123 rfl ?_ (.inr (xm x));have g:x.length<=1048576:=e.1;have a:(x.map (bV .own)).length=(List.replicate x.length ([.z]:List C)).length:=by simp
 repeat'(first|refine gP ?_|(conv=>whnf);first|refine Mk.mk _ rfl rfl ω (tp g (by decide)) rfl ?_)
 (conv=>whnf)
 refine C8 (ι:=Nat) (λi=>[(0,.F .one (d5 .H x)),(3,.F .one [.s .own (ew (x.map (bV .own)) (List.replicate x.length [.z]) i)]),(4,.F .one [I (i:Nat)])]) (λi=>i<=x.length) (λi=>x.length - i) 0 ?_ (N0 _) λi h=>?_
 ·rw[b8]
  exact wA
 by_cases b:i<x.length
 ·obtain⟨y,c⟩ : ∃y,x[i]? = some y:=⟨_,C1 b⟩
  have d:=cy a i (by simp;omega);rw[fh b]at d
  repeat'(first|refine gE ?_|(conv=>whnf);first|with_reducible (first|refine C6 (ab c) ?_|refine C6 d ?_)|refine C4 (zJ y (e.2 y (X0 c))) ?_|refine CF rfl rfl d rfl (O1 _) rfl ?_|refine C7 (i+1) ω ω ?_)
  repeat'(first|exact trivial|rfl|exact C5 rfl (C5 (O0 (C.s dm.own) (bj a (ab c))) trivial)|refine C5 ?_ ?_)
 repeat'(first|refine gE ?_|fail)
 rw[cw _ a (by simp;omega)]
 rfl
def Bq(x:aI)(a:aI.sml x):af Tryz.prog 40 false [.val (some 2) (aI.enc .H x)] .agg (aI.enc .own x):=by
 obtain⟨b,c⟩:=a;refine fO 13 [] Tryz.func40 rfl ?_ (.inr (aI.enc_fr x))
 repeat'(first|refine gP ?_|(conv=>whnf);first|refine C4 (xS x.Q b) ?_|refine C4 (nH x.e c) ?_)
 rfl
def zj(x:ay)(a:ay.sml x):af Tryz.prog 196 false [.val (some 3) (ay.enc .H x)] .agg (ay.enc .own x):=by
 refine fO 14 [] Tryz.func196 rfl ?_ (.inr (ay.enc_fr x))
 repeat'(first|refine gP ?_|fail)
 rfl
def xb(x:List ay)(e:dS x):af Tryz.prog 125 false [.val none (bO .H x)] .one (bO .own x):=by
 refine fO 23 [] Tryz.func125 rfl ?_ (.inr (yz x));have g:x.length<=1048576:=e.1;have a:(x.map (ay.enc .own)).length=(List.replicate x.length ([I 0,I 0,I 0]:List C)).length:=by simp
 repeat'(first|refine gP ?_|(conv=>whnf);first|refine Mk.mk _ rfl rfl ω (tp g (by decide)) rfl ?_)
 (conv=>whnf)
 refine C8 (ι:=Nat) (λi=>[(0,.F .one (bO .H x)),(3,.F .one [.s .own (ew (x.map (ay.enc .own)) (List.replicate x.length [I 0,I 0,I 0]) i)]),(4,.F .one [I (i:Nat)])]) (λi=>i<=x.length) (λi=>x.length - i) 0 ?_ (N0 _) λi h=>?_
 ·rw[b8]
  exact wA
 by_cases b:i<x.length
 ·obtain⟨y,d⟩ : ∃y,x[i]? = some y:=⟨_,C1 b⟩
  have c:=cy a i (by simp;omega);rw[fh b]at c
  repeat'(first|refine gE ?_|(conv=>whnf);first|with_reducible (first|refine C6 (ab d) ?_|refine C6 c ?_)|refine C4 (zj y trivial) ?_|refine CF rfl rfl c rfl (O1 _) rfl ?_|refine C7 (i+1) ω ω ?_)
  repeat'(first|exact trivial|rfl|exact C5 rfl (C5 (O0 (C.s dm.own) (bj a (ab d))) trivial)|refine C5 ?_ ?_)
 repeat'(first|refine gE ?_|fail)
 rw[cw _ a (by simp;omega)]
 rfl
def BE(x:aT)(a:aT.sml x):af Tryz.prog 41 false [.val (some 2) (aT.enc .H x)] .agg (aT.enc .own x):=by
 have b:=a;refine fO 12 [] Tryz.func41 rfl ?_ (.inr (aT.enc_fr x))
 repeat'(first|refine gP ?_|(conv=>whnf);first|refine C4 (xb x.d b) ?_)
 rfl
def Dr(x:bf)(a:bf.sml x):af Tryz.prog 126 false [.val (some 3) (bf.enc .H x)] .agg (bf.enc .own x):=by
 have b:=a;refine fO 15 [] Tryz.func126 rfl ?_ (.inr (bf.enc_fr x))
 repeat'(first|refine gP ?_|(conv=>whnf);first|refine C4 (p7 x.V b) ?_)
 rfl
def Fy(x:bA)(a:bA.sml x):af Tryz.prog 42 false [.val (some 5) (bA.enc .H x)] .agg (bA.enc .own x):=by
 have b:=a;refine fO 15 [] Tryz.func42 rfl ?_ (.inr (bA.enc_fr x))
 repeat'(first|refine gP ?_|(conv=>whnf);first|refine C4 (Dr x.h b) ?_)
 rfl
def Dj(x:ac)(a:ac.sml x):af Tryz.prog 7 false [.val (some 24) (ac.enc .H x)] .agg (ac.enc .own x):=by
 obtain⟨b,c,d,e,g,h,i,j,k⟩:=a;refine fO 56 [] Tryz.func7 rfl ?_ (.inr (ac.enc_fr x))
 repeat'(first|refine gP ?_|(conv=>whnf);first|refine C4 (yD x.X b) ?_|refine C4 (yi x.p c) ?_|refine C4 (zo x.G d) ?_|refine C4 (yk x.J e) ?_|refine C4 (BP x.S g) ?_|refine C4 (xA x.O h) ?_|refine C4 (Bq x.Y i) ?_|refine C4 (BE x.b j) ?_|refine C4 (Fy x.r k) ?_)
 rfl
set_option maxHeartbeats 2000000
def oZ(x:List Int)(left:Int)(b:0<=left)(c:left<=1048576)(a:ri x):af Tryz.prog 82 false [.val none (aK .H x),.val none [I left]] .one [I (gC (szIntS x) left)]:=by
 refine fO 12 [] Tryz.func82 rfl ?_;have d:=a.1
 repeat'(first|refine gE ?_|(conv=>whnf);first|with_reducible refine Bf.D (λh=>?_) (λh=>?_))
 all_goals exact O0 (λz=>[I z]) (by unfold gC szIntS;split<;>omega)
def nJ(x:List (List Int))(left:Int)(n:0<=left)(o:left<=1048576)(e:nU x):af Tryz.prog 85 false [.val none (dn .H x),.val none [I left]] .one [I (gC (szIntSS x) left)]:=by
 refine fO 27 [] Tryz.func85 rfl ?_;have p:=e.1
 repeat'(first|refine gE ?_|(conv=>whnf);first|with_reducible refine Bf.D (λh=>?_) (λh=>?_))
 ·exact O0 (λz=>[I z]) (by unfold gC szIntSS;split<;>omega)
 (conv=>whnf)
 refine C8 (ι:=Nat) (λi=>[(0,.F .one (dn .H x)),(1,.F .one [I (left - x.length - (dd x i:Nat))]),(5,.F .one [I (i:Nat)])]) (λi=>i<=x.length/\(x.length+dd x i:Int)<=left) (λi=>x.length - i) 0 ?_ ⟨N0 _,by rw[iB];omega⟩ λi g=>?_
 ·rw[iB]
  repeat'(first|exact trivial|rfl|exact C5 rfl (C5 (O0 I ω) trivial)|refine C5 ?_ ?_)
 obtain⟨g,a⟩:=g;have k:=jW x i;by_cases b:i<x.length
 ·obtain⟨y,c⟩ : ∃y,x[i]? = some y:=⟨_,C1 b⟩
  have d:=mi x i y c;have j:=jW x (i+1)
  repeat'(first|refine gE ?_|(conv=>whnf);first|with_reducible (first|refine C6 (ab c) ?_|refine Bf.D (λh=>?_) (λh=>?_))|refine CK (oZ y _ ω ω (e.2 y (X0 c))) (λh=>?_) (λh=>?_)|refine C7 (i+1) ⟨ω,ω⟩ ω ?_)
  ·exact O0 (λz=>[I z]) (by unfold gC szIntSS;split<;>omega)
  rw[d]
  repeat'(first|exact trivial|rfl|exact C5 rfl (C5 (O0 I ω) trivial)|refine C5 ?_ ?_)
 repeat'(first|refine gE ?_|(conv=>whnf);first|with_reducible refine Bf.D (λh=>?_) (λh=>?_))
 have l:i=x.length:=ω
 subst l;rw[ng]at a |-;exact O0 (λz=>[I z]) (by unfold gC szIntSS;split<;>omega)
def Ad(x:List Bool)(left:Int)(b:0<=left)(c:left<=1048576)(a:wb x):af Tryz.prog 229 false [.val none (fC .H x),.val none [I left]] .one [I (gC (szBoolS x) left)]:=by
 refine fO 12 [] Tryz.func229 rfl ?_;have d:=a.1
 repeat'(first|refine gE ?_|(conv=>whnf);first|with_reducible refine Bf.D (λh=>?_) (λh=>?_))
 all_goals exact O0 (λz=>[I z]) (by unfold gC szBoolS;split<;>omega)
def wY(x:aC)(left:Int)(b:0<=left)(c:left<=1048576)(a:aC.wf x):af Tryz.prog 174 false [.val (some 2) (aC.enc .H x),.val none [I left]] .one [I (gC (aC.sz x) left)]:=by
 obtain⟨wCells,wUsed⟩:=a;refine fO 18 [] Tryz.func174 rfl ?_
 repeat'(first|refine gE ?_|(conv=>whnf);first|with_reducible refine Bf.D (λh=>?_) (λh=>?_)|refine CK (nJ x.V _ ω ω wCells) (λh=>?_) (λh=>?_)|refine CK (Ad x.c _ ω ω wUsed) (λh=>?_) (λh=>?_))
 all_goals exact O0 (λz=>[I z]) (by unfold gC aC.sz;split<;>omega)
def xZ(x:List aD)(left:Int)(b:0<=left)(c:left<=1048576)(a:pa x):af Tryz.prog 230 false [.val none (d4 .H x),.val none [I left]] .one [I (gC (ir x) left)]:=by
 refine fO 12 [] Tryz.func230 rfl ?_;have d:=a.1
 repeat'(first|refine gE ?_|(conv=>whnf);first|with_reducible refine Bf.D (λh=>?_) (λh=>?_))
 all_goals exact O0 (λz=>[I z]) (by unfold gC ir;split<;>omega)
def zc(x:az)(left:Int)(b:0<=left)(c:left<=1048576)(a:az.wf x):af Tryz.prog 175 false [.val (some 1) (az.enc .H x),.val none [I left]] .one [I (gC (az.sz x) left)]:=by
 refine fO 12 [] Tryz.func175 rfl ?_
 repeat'(first|refine gE ?_|(conv=>whnf);first|with_reducible refine Bf.D (λh=>?_) (λh=>?_)|refine CK (xZ x.K _ ω ω a) (λh=>?_) (λh=>?_))
 all_goals exact O0 (λz=>[I z]) (by unfold gC az.sz;split<;>omega)
def v6(x:aB)(left:Int)(b:0<=left)(c:left<=1048576)(a:aB.wf x):af Tryz.prog 81 false [.val (some 3) (aB.enc .H x),.val none [I left]] .one [I (gC (aB.sz x) left)]:=by
 obtain⟨wFrames,wTable⟩:=a;refine fO 18 [] Tryz.func81 rfl ?_
 repeat'(first|refine gE ?_|(conv=>whnf);first|with_reducible refine Bf.D (λh=>?_) (λh=>?_)|refine CK (wY x.U _ ω ω wFrames) (λh=>?_) (λh=>?_)|refine CK (zc x.a _ ω ω wTable) (λh=>?_) (λh=>?_))
 all_goals exact O0 (λz=>[I z]) (by unfold gC aB.sz;split<;>omega)
def yG(x:au)(left:Int)(b:0<=left)(c:left<=1048576)(a:au.wf x):af Tryz.prog 19 false [.val (some 5) (au.enc .H x),.val none [I left]] .one [I (gC (au.sz x) left)]:=by
 obtain⟨wMachine,wCalls,wRefuse⟩:=a;refine fO 18 [] Tryz.func19 rfl ?_
 repeat'(first|refine gE ?_|(conv=>whnf);first|with_reducible refine Bf.D (λh=>?_) (λh=>?_)|refine CK (v6 x.R _ ω ω wMachine) (λh=>?_) (λh=>?_)|refine CK (oZ x.k _ ω ω wRefuse) (λh=>?_) (λh=>?_))
 all_goals exact O0 (λz=>[I z]) (by unfold gC au.sz;split<;>omega)
def ym(x:List aA)(left:Int)(b:0<=left)(c:left<=1048576)(a:pF x):af Tryz.prog 20 false [.val none (bQ .H x),.val none [I left]] .one [I (gC (iq x) left)]:=by
 refine fO 12 [] Tryz.func20 rfl ?_;have d:=a.1
 repeat'(first|refine gE ?_|(conv=>whnf);first|with_reducible refine Bf.D (λh=>?_) (λh=>?_))
 all_goals exact O0 (λz=>[I z]) (by unfold gC iq;split<;>omega)
def zM(x:List ah)(left:Int)(b:0<=left)(c:left<=1048576)(a:rx x):af Tryz.prog 21 false [.val none (bi .H x),.val none [I left]] .one [I (gC (jy x) left)]:=by
 refine fO 12 [] Tryz.func21 rfl ?_;have d:=a.1
 repeat'(first|refine gE ?_|(conv=>whnf);first|with_reducible refine Bf.D (λh=>?_) (λh=>?_))
 all_goals exact O0 (λz=>[I z]) (by unfold gC jy;split<;>omega)
def wV(x:List am)(left:Int)(b:0<=left)(c:left<=1048576)(a:ph x):af Tryz.prog 22 false [.val none (aP .H x),.val none [I left]] .one [I (gC (ip x) left)]:=by
 refine fO 12 [] Tryz.func22 rfl ?_;have d:=a.1
 repeat'(first|refine gE ?_|(conv=>whnf);first|with_reducible refine Bf.D (λh=>?_) (λh=>?_))
 all_goals exact O0 (λz=>[I z]) (by unfold gC ip;split<;>omega)
def Dz(x:List bg)(left:Int)(b:0<=left)(c:left<=1048576)(a:wm x):af Tryz.prog 23 false [.val none (ee .H x),.val none [I left]] .one [I (gC (mn x) left)]:=by
 refine fO 12 [] Tryz.func23 rfl ?_;have d:=a.1
 repeat'(first|refine gE ?_|(conv=>whnf);first|with_reducible refine Bf.D (λh=>?_) (λh=>?_))
 all_goals exact O0 (λz=>[I z]) (by unfold gC mn;split<;>omega)
def zY(x:ar)(left:Int)(b:0<=left)(c:left<=1048576)(a:ar.wf x):af Tryz.prog 83 false [.val (some 1) (ar.enc .H x),.val none [I left]] .one [I (gC (ar.sz x) left)]:=by
 refine fO 12 [] Tryz.func83 rfl ?_
 repeat'(first|refine gE ?_|(conv=>whnf);first|with_reducible refine Bf.D (λh=>?_) (λh=>?_)|refine CK (nJ x.W _ ω ω a) (λh=>?_) (λh=>?_))
 all_goals exact O0 (λz=>[I z]) (by unfold gC ar.sz;split<;>omega)
def ya(x:List ar)(left:Int)(n:0<=left)(o:left<=1048576)(e:pp x):af Tryz.prog 24 false [.val none (cP .H x),.val none [I left]] .one [I (gC (ec x) left)]:=by
 refine fO 27 [] Tryz.func24 rfl ?_;have p:=e.1
 repeat'(first|refine gE ?_|(conv=>whnf);first|with_reducible refine Bf.D (λh=>?_) (λh=>?_))
 ·exact O0 (λz=>[I z]) (by unfold gC ec;split<;>omega)
 (conv=>whnf)
 refine C8 (ι:=Nat) (λi=>[(0,.F .one (cP .H x)),(1,.F .one [I (left - x.length - (cj x i:Nat))]),(5,.F .one [I (i:Nat)])]) (λi=>i<=x.length/\(x.length+cj x i:Int)<=left) (λi=>x.length - i) 0 ?_ ⟨N0 _,by rw[fT];omega⟩ λi g=>?_
 ·rw[fT]
  repeat'(first|exact trivial|rfl|exact C5 rfl (C5 (O0 I ω) trivial)|refine C5 ?_ ?_)
 obtain⟨g,a⟩:=g;have k:=iN x i;by_cases b:i<x.length
 ·obtain⟨y,c⟩ : ∃y,x[i]? = some y:=⟨_,C1 b⟩
  have d:=js x i y c;have j:=iN x (i+1)
  repeat'(first|refine gE ?_|(conv=>whnf);first|with_reducible (first|refine C6 (ab c) ?_|refine Bf.D (λh=>?_) (λh=>?_))|refine CK (zY y _ ω ω (e.2 y (X0 c))) (λh=>?_) (λh=>?_)|refine C7 (i+1) ⟨ω,ω⟩ ω ?_)
  ·exact O0 (λz=>[I z]) (by unfold gC ec;split<;>omega)
  rw[d]
  repeat'(first|exact trivial|rfl|exact C5 rfl (C5 (O0 I ω) trivial)|refine C5 ?_ ?_)
 repeat'(first|refine gE ?_|(conv=>whnf);first|with_reducible refine Bf.D (λh=>?_) (λh=>?_))
 have l:i=x.length:=ω
 subst l;rw[kj]at a |-;exact O0 (λz=>[I z]) (by unfold gC ec;split<;>omega)
def zW(x:List aH)(left:Int)(b:0<=left)(c:left<=1048576)(a:ru x):af Tryz.prog 176 false [.val none (bV .H x),.val none [I left]] .one [I (gC (fG x) left)]:=by
 refine fO 12 [] Tryz.func176 rfl ?_;have d:=a.1
 repeat'(first|refine gE ?_|(conv=>whnf);first|with_reducible refine Bf.D (λh=>?_) (λh=>?_))
 all_goals exact O0 (λz=>[I z]) (by unfold gC fG;split<;>omega)
def yd(x:List (List aH))(left:Int)(n:0<=left)(o:left<=1048576)(e:pm x):af Tryz.prog 84 false [.val none (d5 .H x),.val none [I left]] .one [I (gC (ea x) left)]:=by
 refine fO 27 [] Tryz.func84 rfl ?_;have p:=e.1
 repeat'(first|refine gE ?_|(conv=>whnf);first|with_reducible refine Bf.D (λh=>?_) (λh=>?_))
 ·exact O0 (λz=>[I z]) (by unfold gC ea;split<;>omega)
 (conv=>whnf)
 refine C8 (ι:=Nat) (λi=>[(0,.F .one (d5 .H x)),(1,.F .one [I (left - x.length - (co x i:Nat))]),(5,.F .one [I (i:Nat)])]) (λi=>i<=x.length/\(x.length+co x i:Int)<=left) (λi=>x.length - i) 0 ?_ ⟨N0 _,by rw[fX];omega⟩ λi g=>?_
 ·rw[fX]
  repeat'(first|exact trivial|rfl|exact C5 rfl (C5 (O0 I ω) trivial)|refine C5 ?_ ?_)
 obtain⟨g,a⟩:=g;have k:=iL x i;by_cases b:i<x.length
 ·obtain⟨y,c⟩ : ∃y,x[i]? = some y:=⟨_,C1 b⟩
  have d:=jv x i y c;have j:=iL x (i+1)
  repeat'(first|refine gE ?_|(conv=>whnf);first|with_reducible (first|refine C6 (ab c) ?_|refine Bf.D (λh=>?_) (λh=>?_))|refine CK (zW y _ ω ω (e.2 y (X0 c))) (λh=>?_) (λh=>?_)|refine C7 (i+1) ⟨ω,ω⟩ ω ?_)
  ·exact O0 (λz=>[I z]) (by unfold gC ea;split<;>omega)
  rw[d]
  repeat'(first|exact trivial|rfl|exact C5 rfl (C5 (O0 I ω) trivial)|refine C5 ?_ ?_)
 repeat'(first|refine gE ?_|(conv=>whnf);first|with_reducible refine Bf.D (λh=>?_) (λh=>?_))
 have l:i=x.length:=ω
 subst l;rw[k8]at a |-;exact O0 (λz=>[I z]) (by unfold gC ea;split<;>omega)
def Do(x:aI)(left:Int)(b:0<=left)(c:left<=1048576)(a:aI.wf x):af Tryz.prog 25 false [.val (some 2) (aI.enc .H x),.val none [I left]] .one [I (gC (aI.sz x) left)]:=by
 obtain⟨wBuffers,wInbox⟩:=a;refine fO 18 [] Tryz.func25 rfl ?_
 repeat'(first|refine gE ?_|(conv=>whnf);first|with_reducible refine Bf.D (λh=>?_) (λh=>?_)|refine CK (yd x.Q _ ω ω wBuffers) (λh=>?_) (λh=>?_)|refine CK (nJ x.e _ ω ω wInbox) (λh=>?_) (λh=>?_))
 all_goals exact O0 (λz=>[I z]) (by unfold gC aI.sz;split<;>omega)
def xF(x:List ay)(left:Int)(b:0<=left)(c:left<=1048576)(a:pA x):af Tryz.prog 86 false [.val none (bO .H x),.val none [I left]] .one [I (gC (ik x) left)]:=by
 refine fO 12 [] Tryz.func86 rfl ?_;have d:=a.1
 repeat'(first|refine gE ?_|(conv=>whnf);first|with_reducible refine Bf.D (λh=>?_) (λh=>?_))
 all_goals exact O0 (λz=>[I z]) (by unfold gC ik;split<;>omega)
def D1(x:aT)(left:Int)(b:0<=left)(c:left<=1048576)(a:aT.wf x):af Tryz.prog 26 false [.val (some 2) (aT.enc .H x),.val none [I left]] .one [I (gC (aT.sz x) left)]:=by
 obtain⟨wRoom,wLst⟩:=a;refine fO 12 [] Tryz.func26 rfl ?_
 repeat'(first|refine gE ?_|(conv=>whnf);first|with_reducible refine Bf.D (λh=>?_) (λh=>?_)|refine CK (xF x.d _ ω ω wLst) (λh=>?_) (λh=>?_))
 all_goals exact O0 (λz=>[I z]) (by unfold gC aT.sz;split<;>omega)
def BL(x:bf)(left:Int)(b:0<=left)(c:left<=1048576)(a:bf.wf x):af Tryz.prog 87 false [.val (some 3) (bf.enc .H x),.val none [I left]] .one [I (gC (bf.sz x) left)]:=by
 obtain⟨wKeep,wMove,wCells⟩:=a;refine fO 12 [] Tryz.func87 rfl ?_
 repeat'(first|refine gE ?_|(conv=>whnf);first|with_reducible refine Bf.D (λh=>?_) (λh=>?_)|refine CK (oZ x.V _ ω ω wCells) (λh=>?_) (λh=>?_))
 all_goals exact O0 (λz=>[I z]) (by unfold gC bf.sz;split<;>omega)
def E1(x:bA)(left:Int)(b:0<=left)(c:left<=1048576)(a:bA.wf x):af Tryz.prog 27 false [.val (some 5) (bA.enc .H x),.val none [I left]] .one [I (gC (bA.sz x) left)]:=by
 obtain⟨wPlan,wPhase,wNext⟩:=a;refine fO 12 [] Tryz.func27 rfl ?_
 repeat'(first|refine gE ?_|(conv=>whnf);first|with_reducible refine Bf.D (λh=>?_) (λh=>?_)|refine CK (BL x.h _ ω ω wPlan) (λh=>?_) (λh=>?_))
 all_goals exact O0 (λz=>[I z]) (by unfold gC bA.sz;split<;>omega)
def uw(x:ac)(left:Int)(b:0<=left)(c:left<=1048576)(a:ac.wf x):af Tryz.prog 5 false [.val (some 24) (ac.enc .H x),.val none [I left]] .one [I (gC (ac.sz x) left)]:=by
 obtain⟨wKernel,wFree,wSpans,wLarges,wObjs,wCaches,wMail,wQuar,wSeed,wClock,wLimit,wNext,wMeshing,wJob⟩:=a;refine fO 60 [] Tryz.func5 rfl ?_
 repeat'(first|refine gE ?_|(conv=>whnf);first|with_reducible refine Bf.D (λh=>?_) (λh=>?_)|refine CK (yG x.X _ ω ω wKernel) (λh=>?_) (λh=>?_)|refine CK (ym x.p _ ω ω wFree) (λh=>?_) (λh=>?_)|refine CK (zM x.G _ ω ω wSpans) (λh=>?_) (λh=>?_)|refine CK (wV x.J _ ω ω wLarges) (λh=>?_) (λh=>?_)|refine CK (Dz x.S _ ω ω wObjs) (λh=>?_) (λh=>?_)|refine CK (ya x.O _ ω ω wCaches) (λh=>?_) (λh=>?_)|refine CK (Do x.Y _ ω ω wMail) (λh=>?_) (λh=>?_)|refine CK (D1 x.b _ ω ω wQuar) (λh=>?_) (λh=>?_)|refine CK (E1 x.r _ ω ω wJob) (λh=>?_) (λh=>?_))
 all_goals exact O0 (λz=>[I z]) (by unfold gC ac.sz;split<;>omega)
set_option maxHeartbeats 2000000
theorem pC(a b:List Int)(p:jK a):af Tryz.prog 147 false [.val none (aK .H a),.val none (aK .H b)] .one [B (decide (a=b))]:=by
 refine fO 26 [(6,9,[17,18,19,20,21,22,23,24,25])] Tryz.func147 rfl ?_;have r:a.length<=1048576:=p
 repeat'(first|refine gP ?_|(conv=>whnf);first|with_reducible refine Bf.N (λh=>?_) (λh=>?_))
 ·refine O0 (λz=>[B z]) (M0 λe=>?_).symm
  subst e;omega
 have k:a.length=b.length:=ω
 (conv=>whnf)
 refine C8 (ι:=Nat) (λi=>[(0,.F .one (aK .H a)),(1,.F .one (aK .H b)),(5,.F .one [I (i:Nat)])]) (λi=>i<=a.length/\∀j,j<i->a[j]? = b[j]?) (λi=>a.length - i) 0 ?_ ⟨N0 _,λj q=>ω⟩ λi l=>?_
 ·exact wA
 obtain⟨l,c⟩:=l;by_cases g:i<a.length
 ·obtain⟨x,n⟩ : ∃x,a[i]? = some x:=⟨_,C1 g⟩
  obtain⟨y,o⟩ : ∃y,b[i]? = some y:=⟨_,C1 ω⟩
  repeat'(first|refine gE ?_|(conv=>whnf);first|with_reducible (first|refine C6 (ab n) ?_|refine C6 (ab o) ?_|refine Bf.N (λh=>?_) (λh=>?_)|refine Bf.NB (λh=>?_) (λh=>?_)|refine Bf.D (λh=>?_) (λh=>?_)))
  all_goals first
   |(show [B false]=[B (decide (a=b))]
     refine O0 (λz=>[B z]) (M0 λe=>?_).symm;subst e
     simp_all)
   | ((conv=>whnf)
      refine C7 (i+1) ⟨ω,λj q=>?_⟩ ω ?_
      · rcases Nat.lt_or_ge j i with d|d
        · exact c j d
        obtain rfl:j=i:=ω
        rw[n,o]
        simp_all
      exact wA)
 repeat'(first|refine gE ?_|fail)
 refine O0 (λz=>[B z]) (L0 ?_).symm;refine List.ext_getElem? λj=>?_
 rcases Nat.lt_or_ge j i with d|d
 ·exact c j d
 rw[L1 ω,L1 ω]
theorem n7(a b:List (List Int))(l:iC a):af Tryz.prog 154 false [.val none (dn .H a),.val none (dn .H b)] .one [B (decide (a=b))]:=by
 refine fO 27 [(6,10,[17,18,19,20,21,22,23,24,25,26])] Tryz.func154 rfl ?_;have r:a.length<=1048576:=l.1
 repeat'(first|refine gP ?_|(conv=>whnf);first|with_reducible refine Bf.N (λh=>?_) (λh=>?_))
 ·refine O0 (λz=>[B z]) (M0 λe=>?_).symm
  subst e;omega
 have n:a.length=b.length:=ω
 (conv=>whnf)
 refine C8 (ι:=Nat) (λi=>[(0,.F .one (dn .H a)),(1,.F .one (dn .H b)),(5,.F .one [I (i:Nat)])]) (λi=>i<=a.length/\∀j,j<i->a[j]? = b[j]?) (λi=>a.length - i) 0 ?_ ⟨N0 _,λj q=>ω⟩ λi o=>?_
 ·exact wA
 obtain⟨o,c⟩:=o;by_cases g:i<a.length
 ·obtain⟨x,k⟩ : ∃x,a[i]? = some x:=⟨_,C1 g⟩
  obtain⟨y,p⟩ : ∃y,b[i]? = some y:=⟨_,C1 ω⟩
  repeat'(first|refine gE ?_|(conv=>whnf);first|with_reducible (first|refine C6 (ab k) ?_|refine C6 (ab p) ?_|refine Bf.N (λh=>?_) (λh=>?_)|refine Bf.NB (λh=>?_) (λh=>?_)|refine Bf.D (λh=>?_) (λh=>?_))|refine C4 (pC x y (l.2 x (X0 k))) ?_)
  all_goals first
   |(show [B false]=[B (decide (a=b))]
     refine O0 (λz=>[B z]) (M0 λe=>?_).symm;subst e
     simp_all)
   | ((conv=>whnf)
      refine C7 (i+1) ⟨ω,λj q=>?_⟩ ω ?_
      · rcases Nat.lt_or_ge j i with d|d
        · exact c j d
        obtain rfl:j=i:=ω
        rw[k,p]
        simp_all
      exact wA)
 repeat'(first|refine gE ?_|fail)
 refine O0 (λz=>[B z]) (L0 ?_).symm;refine List.ext_getElem? λj=>?_
 rcases Nat.lt_or_ge j i with d|d
 ·exact c j d
 rw[L1 ω,L1 ω]
theorem zD(a b:List Bool)(p:lD a):af Tryz.prog 252 false [.val none (fC .H a),.val none (fC .H b)] .one [B (decide (a=b))]:=by
 refine fO 26 [(6,9,[17,18,19,20,21,22,23,24,25])] Tryz.func252 rfl ?_;have r:a.length<=1048576:=p
 repeat'(first|refine gP ?_|(conv=>whnf);first|with_reducible refine Bf.N (λh=>?_) (λh=>?_))
 ·refine O0 (λz=>[B z]) (M0 λe=>?_).symm
  subst e;omega
 have k:a.length=b.length:=ω
 (conv=>whnf)
 refine C8 (ι:=Nat) (λi=>[(0,.F .one (fC .H a)),(1,.F .one (fC .H b)),(5,.F .one [I (i:Nat)])]) (λi=>i<=a.length/\∀j,j<i->a[j]? = b[j]?) (λi=>a.length - i) 0 ?_ ⟨N0 _,λj q=>ω⟩ λi l=>?_
 ·exact wA
 obtain⟨l,c⟩:=l;by_cases g:i<a.length
 ·obtain⟨x,n⟩ : ∃x,a[i]? = some x:=⟨_,C1 g⟩
  obtain⟨y,o⟩ : ∃y,b[i]? = some y:=⟨_,C1 ω⟩
  repeat'(first|refine gE ?_|(conv=>whnf);first|with_reducible (first|refine C6 (ab n) ?_|refine C6 (ab o) ?_|refine Bf.N (λh=>?_) (λh=>?_)|refine Bf.NB (λh=>?_) (λh=>?_)|refine Bf.D (λh=>?_) (λh=>?_)))
  all_goals first
   |(show [B false]=[B (decide (a=b))]
     refine O0 (λz=>[B z]) (M0 λe=>?_).symm;subst e
     simp_all)
   | ((conv=>whnf)
      refine C7 (i+1) ⟨ω,λj q=>?_⟩ ω ?_
      · rcases Nat.lt_or_ge j i with d|d
        · exact c j d
        obtain rfl:j=i:=ω
        rw[n,o]
        simp_all
      exact wA)
 repeat'(first|refine gE ?_|fail)
 refine O0 (λz=>[B z]) (L0 ?_).symm;refine List.ext_getElem? λj=>?_
 rcases Nat.lt_or_ge j i with d|d
 ·exact c j d
 rw[L1 ω,L1 ω]
theorem yl(a b:aC)(c:aC.sml a):af Tryz.prog 215 false [.val (some 2) (aC.enc .H a),.val (some 2) (aC.enc .H b)] .one [B (decide (a=b))]:=by
 obtain⟨d,g⟩:=c;refine fO 17 [] Tryz.func215 rfl ?_
 repeat'(first|refine gP ?_|(conv=>whnf);first|with_reducible (first|refine Bf.N (λh=>?_) (λh=>?_)|refine Bf.NB (λh=>?_) (λh=>?_)|refine Bf.D (λh=>?_) (λh=>?_))|refine C4 (n7 a.V b.V d) ?_|refine C4 (zD a.c b.c g) ?_)
 all_goals first|(show [B false]=[B (decide (a=b))];refine O0 (λz=>[B z]) (M0 λe=>?_).symm;subst e;contradiction)|(show [B true]=[B (decide (a=b))];refine O0 (λz=>[B z]) (L0 ?_).symm;cases a;cases b;simp_all)
theorem zu(a b:aD)(c:aD.sml a):af Tryz.prog 282 false [.val (some 2) (aD.enc .H a),.val (some 2) (aD.enc .H b)] .one [B (decide (a=b))]:=by
 refine fO 15 [] Tryz.func282 rfl ?_
 repeat'(first|refine gP ?_|(conv=>whnf);first|with_reducible (first|refine Bf.N (λh=>?_) (λh=>?_)|refine Bf.NB (λh=>?_) (λh=>?_)|refine Bf.D (λh=>?_) (λh=>?_)))
 all_goals first|(show [B false]=[B (decide (a=b))];refine O0 (λz=>[B z]) (M0 λe=>?_).symm;subst e;contradiction)|(show [B true]=[B (decide (a=b))];refine O0 (λz=>[B z]) (L0 ?_).symm;cases a;cases b;simp_all)
theorem yc(a b:List aD)(p:iI a):af Tryz.prog 253 false [.val none (d4 .H a),.val none (d4 .H b)] .one [B (decide (a=b))]:=by
 refine fO 27 [(6,10,[17,18,19,20,21,22,23,24,25,26])] Tryz.func253 rfl ?_;have r:a.length<=1048576:=p.1
 repeat'(first|refine gP ?_|(conv=>whnf);first|with_reducible refine Bf.N (λh=>?_) (λh=>?_))
 ·refine O0 (λz=>[B z]) (M0 λe=>?_).symm
  subst e;omega
 have k:a.length=b.length:=ω
 (conv=>whnf)
 refine C8 (ι:=Nat) (λi=>[(0,.F .one (d4 .H a)),(1,.F .one (d4 .H b)),(5,.F .one [I (i:Nat)])]) (λi=>i<=a.length/\∀j,j<i->a[j]? = b[j]?) (λi=>a.length - i) 0 ?_ ⟨N0 _,λj q=>ω⟩ λi l=>?_
 ·exact wA
 obtain⟨l,c⟩:=l;by_cases g:i<a.length
 ·obtain⟨x,n⟩ : ∃x,a[i]? = some x:=⟨_,C1 g⟩
  obtain⟨y,o⟩ : ∃y,b[i]? = some y:=⟨_,C1 ω⟩
  repeat'(first|refine gE ?_|(conv=>whnf);first|with_reducible (first|refine C6 (ab n) ?_|refine C6 (ab o) ?_|refine Bf.N (λh=>?_) (λh=>?_)|refine Bf.NB (λh=>?_) (λh=>?_)|refine Bf.D (λh=>?_) (λh=>?_))|refine C4 (zu x y trivial) ?_)
  all_goals first
   |(show [B false]=[B (decide (a=b))]
     refine O0 (λz=>[B z]) (M0 λe=>?_).symm;subst e
     simp_all)
   | ((conv=>whnf)
      refine C7 (i+1) ⟨ω,λj q=>?_⟩ ω ?_
      · rcases Nat.lt_or_ge j i with d|d
        · exact c j d
        obtain rfl:j=i:=ω
        rw[n,o]
        simp_all
      exact wA)
 repeat'(first|refine gE ?_|fail)
 refine O0 (λz=>[B z]) (L0 ?_).symm;refine List.ext_getElem? λj=>?_
 rcases Nat.lt_or_ge j i with d|d
 ·exact c j d
 rw[L1 ω,L1 ω]
theorem Aq(a b:az)(c:az.sml a):af Tryz.prog 216 false [.val (some 1) (az.enc .H a),.val (some 1) (az.enc .H b)] .one [B (decide (a=b))]:=by
 have d:=c;refine fO 11 [] Tryz.func216 rfl ?_
 repeat'(first|refine gP ?_|(conv=>whnf);first|with_reducible (first|refine Bf.N (λh=>?_) (λh=>?_)|refine Bf.NB (λh=>?_) (λh=>?_)|refine Bf.D (λh=>?_) (λh=>?_))|refine C4 (yc a.K b.K d) ?_)
 all_goals first|(show [B false]=[B (decide (a=b))];refine O0 (λz=>[B z]) (M0 λe=>?_).symm;subst e;contradiction)|(show [B true]=[B (decide (a=b))];refine O0 (λz=>[B z]) (L0 ?_).symm;cases a;cases b;simp_all)
theorem v5(a b:aB)(c:aB.sml a):af Tryz.prog 146 false [.val (some 3) (aB.enc .H a),.val (some 3) (aB.enc .H b)] .one [B (decide (a=b))]:=by
 obtain⟨d,g⟩:=c;refine fO 17 [] Tryz.func146 rfl ?_
 repeat'(first|refine gP ?_|(conv=>whnf);first|with_reducible (first|refine Bf.N (λh=>?_) (λh=>?_)|refine Bf.NB (λh=>?_) (λh=>?_)|refine Bf.D (λh=>?_) (λh=>?_))|refine C4 (yl a.U b.U d) ?_|refine C4 (Aq a.a b.a g) ?_)
 all_goals first|(show [B false]=[B (decide (a=b))];refine O0 (λz=>[B z]) (M0 λe=>?_).symm;subst e;contradiction)|(show [B true]=[B (decide (a=b))];refine O0 (λz=>[B z]) (L0 ?_).symm;cases a;cases b;simp_all)
theorem yf(a b:au)(c:au.sml a):af Tryz.prog 47 false [.val (some 5) (au.enc .H a),.val (some 5) (au.enc .H b)] .one [B (decide (a=b))]:=by
 obtain⟨d,g⟩:=c;refine fO 22 [] Tryz.func47 rfl ?_
 repeat'(first|refine gP ?_|(conv=>whnf);first|with_reducible (first|refine Bf.N (λh=>?_) (λh=>?_)|refine Bf.NB (λh=>?_) (λh=>?_)|refine Bf.D (λh=>?_) (λh=>?_))|refine C4 (v5 a.R b.R d) ?_|refine C4 (pC a.k b.k g) ?_)
 all_goals first|(show [B false]=[B (decide (a=b))];refine O0 (λz=>[B z]) (M0 λe=>?_).symm;subst e;contradiction)|(show [B true]=[B (decide (a=b))];refine O0 (λz=>[B z]) (L0 ?_).symm;cases a;cases b;simp_all)
theorem z9(a b:aA)(c:aA.sml a):af Tryz.prog 148 false [.val (some 2) (aA.enc .H a),.val (some 2) (aA.enc .H b)] .one [B (decide (a=b))]:=by
 refine fO 15 [] Tryz.func148 rfl ?_
 repeat'(first|refine gP ?_|(conv=>whnf);first|with_reducible (first|refine Bf.N (λh=>?_) (λh=>?_)|refine Bf.NB (λh=>?_) (λh=>?_)|refine Bf.D (λh=>?_) (λh=>?_)))
 all_goals first|(show [B false]=[B (decide (a=b))];refine O0 (λz=>[B z]) (M0 λe=>?_).symm;subst e;contradiction)|(show [B true]=[B (decide (a=b))];refine O0 (λz=>[B z]) (L0 ?_).symm;cases a;cases b;simp_all)
theorem x3(a b:List aA)(p:dQ a):af Tryz.prog 48 false [.val none (bQ .H a),.val none (bQ .H b)] .one [B (decide (a=b))]:=by
 refine fO 27 [(6,10,[17,18,19,20,21,22,23,24,25,26])] Tryz.func48 rfl ?_;have r:a.length<=1048576:=p.1
 repeat'(first|refine gP ?_|(conv=>whnf);first|with_reducible refine Bf.N (λh=>?_) (λh=>?_))
 ·refine O0 (λz=>[B z]) (M0 λe=>?_).symm
  subst e;omega
 have k:a.length=b.length:=ω
 (conv=>whnf)
 refine C8 (ι:=Nat) (λi=>[(0,.F .one (bQ .H a)),(1,.F .one (bQ .H b)),(5,.F .one [I (i:Nat)])]) (λi=>i<=a.length/\∀j,j<i->a[j]? = b[j]?) (λi=>a.length - i) 0 ?_ ⟨N0 _,λj q=>ω⟩ λi l=>?_
 ·exact wA
 obtain⟨l,c⟩:=l;by_cases g:i<a.length
 ·obtain⟨x,n⟩ : ∃x,a[i]? = some x:=⟨_,C1 g⟩
  obtain⟨y,o⟩ : ∃y,b[i]? = some y:=⟨_,C1 ω⟩
  repeat'(first|refine gE ?_|(conv=>whnf);first|with_reducible (first|refine C6 (ab n) ?_|refine C6 (ab o) ?_|refine Bf.N (λh=>?_) (λh=>?_)|refine Bf.NB (λh=>?_) (λh=>?_)|refine Bf.D (λh=>?_) (λh=>?_))|refine C4 (z9 x y trivial) ?_)
  all_goals first
   |(show [B false]=[B (decide (a=b))]
     refine O0 (λz=>[B z]) (M0 λe=>?_).symm;subst e
     simp_all)
   | ((conv=>whnf)
      refine C7 (i+1) ⟨ω,λj q=>?_⟩ ω ?_
      · rcases Nat.lt_or_ge j i with d|d
        · exact c j d
        obtain rfl:j=i:=ω
        rw[n,o]
        simp_all
      exact wA)
 repeat'(first|refine gE ?_|fail)
 refine O0 (λz=>[B z]) (L0 ?_).symm;refine List.ext_getElem? λj=>?_
 rcases Nat.lt_or_ge j i with d|d
 ·exact c j d
 rw[L1 ω,L1 ω]
theorem Dy(a b:ah)(c:ah.sml a):af Tryz.prog 149 false [.val (some 3) (ah.enc .H a),.val (some 3) (ah.enc .H b)] .one [B (decide (a=b))]:=by
 refine fO 20 [] Tryz.func149 rfl ?_
 repeat'(first|refine gP ?_|(conv=>whnf);first|with_reducible (first|refine Bf.N (λh=>?_) (λh=>?_)|refine Bf.NB (λh=>?_) (λh=>?_)|refine Bf.D (λh=>?_) (λh=>?_)))
 all_goals first|(show [B false]=[B (decide (a=b))];refine O0 (λz=>[B z]) (M0 λe=>?_).symm;subst e;contradiction)|(show [B true]=[B (decide (a=b))];refine O0 (λz=>[B z]) (L0 ?_).symm;cases a;cases b;simp_all)
theorem zQ(a b:List ah)(p:bJ a):af Tryz.prog 49 false [.val none (bi .H a),.val none (bi .H b)] .one [B (decide (a=b))]:=by
 refine fO 27 [(6,10,[17,18,19,20,21,22,23,24,25,26])] Tryz.func49 rfl ?_;have r:a.length<=1048576:=p.1
 repeat'(first|refine gP ?_|(conv=>whnf);first|with_reducible refine Bf.N (λh=>?_) (λh=>?_))
 ·refine O0 (λz=>[B z]) (M0 λe=>?_).symm
  subst e;omega
 have k:a.length=b.length:=ω
 (conv=>whnf)
 refine C8 (ι:=Nat) (λi=>[(0,.F .one (bi .H a)),(1,.F .one (bi .H b)),(5,.F .one [I (i:Nat)])]) (λi=>i<=a.length/\∀j,j<i->a[j]? = b[j]?) (λi=>a.length - i) 0 ?_ ⟨N0 _,λj q=>ω⟩ λi l=>?_
 ·exact wA
 obtain⟨l,c⟩:=l;by_cases g:i<a.length
 ·obtain⟨x,n⟩ : ∃x,a[i]? = some x:=⟨_,C1 g⟩
  obtain⟨y,o⟩ : ∃y,b[i]? = some y:=⟨_,C1 ω⟩
  repeat'(first|refine gE ?_|(conv=>whnf);first|with_reducible (first|refine C6 (ab n) ?_|refine C6 (ab o) ?_|refine Bf.N (λh=>?_) (λh=>?_)|refine Bf.NB (λh=>?_) (λh=>?_)|refine Bf.D (λh=>?_) (λh=>?_))|refine C4 (Dy x y trivial) ?_)
  all_goals first
   |(show [B false]=[B (decide (a=b))]
     refine O0 (λz=>[B z]) (M0 λe=>?_).symm;subst e
     simp_all)
   | ((conv=>whnf)
      refine C7 (i+1) ⟨ω,λj q=>?_⟩ ω ?_
      · rcases Nat.lt_or_ge j i with d|d
        · exact c j d
        obtain rfl:j=i:=ω
        rw[n,o]
        simp_all
      exact wA)
 repeat'(first|refine gE ?_|fail)
 refine O0 (λz=>[B z]) (L0 ?_).symm;refine List.ext_getElem? λj=>?_
 rcases Nat.lt_or_ge j i with d|d
 ·exact c j d
 rw[L1 ω,L1 ω]
theorem z5(a b:am)(c:am.sml a):af Tryz.prog 150 false [.val (some 3) (am.enc .H a),.val (some 3) (am.enc .H b)] .one [B (decide (a=b))]:=by
 refine fO 20 [] Tryz.func150 rfl ?_
 repeat'(first|refine gP ?_|(conv=>whnf);first|with_reducible (first|refine Bf.N (λh=>?_) (λh=>?_)|refine Bf.NB (λh=>?_) (λh=>?_)|refine Bf.D (λh=>?_) (λh=>?_)))
 all_goals first|(show [B false]=[B (decide (a=b))];refine O0 (λz=>[B z]) (M0 λe=>?_).symm;subst e;contradiction)|(show [B true]=[B (decide (a=b))];refine O0 (λz=>[B z]) (L0 ?_).symm;cases a;cases b;simp_all)
theorem wQ(a b:List am)(p:bw a):af Tryz.prog 50 false [.val none (aP .H a),.val none (aP .H b)] .one [B (decide (a=b))]:=by
 refine fO 27 [(6,10,[17,18,19,20,21,22,23,24,25,26])] Tryz.func50 rfl ?_;have r:a.length<=1048576:=p.1
 repeat'(first|refine gP ?_|(conv=>whnf);first|with_reducible refine Bf.N (λh=>?_) (λh=>?_))
 ·refine O0 (λz=>[B z]) (M0 λe=>?_).symm
  subst e;omega
 have k:a.length=b.length:=ω
 (conv=>whnf)
 refine C8 (ι:=Nat) (λi=>[(0,.F .one (aP .H a)),(1,.F .one (aP .H b)),(5,.F .one [I (i:Nat)])]) (λi=>i<=a.length/\∀j,j<i->a[j]? = b[j]?) (λi=>a.length - i) 0 ?_ ⟨N0 _,λj q=>ω⟩ λi l=>?_
 ·exact wA
 obtain⟨l,c⟩:=l;by_cases g:i<a.length
 ·obtain⟨x,n⟩ : ∃x,a[i]? = some x:=⟨_,C1 g⟩
  obtain⟨y,o⟩ : ∃y,b[i]? = some y:=⟨_,C1 ω⟩
  repeat'(first|refine gE ?_|(conv=>whnf);first|with_reducible (first|refine C6 (ab n) ?_|refine C6 (ab o) ?_|refine Bf.N (λh=>?_) (λh=>?_)|refine Bf.NB (λh=>?_) (λh=>?_)|refine Bf.D (λh=>?_) (λh=>?_))|refine C4 (z5 x y trivial) ?_)
  all_goals first
   |(show [B false]=[B (decide (a=b))]
     refine O0 (λz=>[B z]) (M0 λe=>?_).symm;subst e
     simp_all)
   | ((conv=>whnf)
      refine C7 (i+1) ⟨ω,λj q=>?_⟩ ω ?_
      · rcases Nat.lt_or_ge j i with d|d
        · exact c j d
        obtain rfl:j=i:=ω
        rw[n,o]
        simp_all
      exact wA)
 repeat'(first|refine gE ?_|fail)
 refine O0 (λz=>[B z]) (L0 ?_).symm;refine List.ext_getElem? λj=>?_
 rcases Nat.lt_or_ge j i with d|d
 ·exact c j d
 rw[L1 ω,L1 ω]
theorem Eg(a b:bg)(c:bg.sml a):af Tryz.prog 151 false [.val (some 4) (bg.enc .H a),.val (some 4) (bg.enc .H b)] .one [B (decide (a=b))]:=by
 refine fO 25 [] Tryz.func151 rfl ?_
 repeat'(first|refine gP ?_|(conv=>whnf);first|with_reducible (first|refine Bf.N (λh=>?_) (λh=>?_)|refine Bf.NB (λh=>?_) (λh=>?_)|refine Bf.D (λh=>?_) (λh=>?_)))
 all_goals first|(show [B false]=[B (decide (a=b))];refine O0 (λz=>[B z]) (M0 λe=>?_).symm;subst e;contradiction)|(show [B true]=[B (decide (a=b))];refine O0 (λz=>[B z]) (L0 ?_).symm;cases a;cases b;simp_all)
theorem D0(a b:List bg)(p:lV a):af Tryz.prog 51 false [.val none (ee .H a),.val none (ee .H b)] .one [B (decide (a=b))]:=by
 refine fO 27 [(6,10,[17,18,19,20,21,22,23,24,25,26])] Tryz.func51 rfl ?_;have r:a.length<=1048576:=p.1
 repeat'(first|refine gP ?_|(conv=>whnf);first|with_reducible refine Bf.N (λh=>?_) (λh=>?_))
 ·refine O0 (λz=>[B z]) (M0 λe=>?_).symm
  subst e;omega
 have k:a.length=b.length:=ω
 (conv=>whnf)
 refine C8 (ι:=Nat) (λi=>[(0,.F .one (ee .H a)),(1,.F .one (ee .H b)),(5,.F .one [I (i:Nat)])]) (λi=>i<=a.length/\∀j,j<i->a[j]? = b[j]?) (λi=>a.length - i) 0 ?_ ⟨N0 _,λj q=>ω⟩ λi l=>?_
 ·exact wA
 obtain⟨l,c⟩:=l;by_cases g:i<a.length
 ·obtain⟨x,n⟩ : ∃x,a[i]? = some x:=⟨_,C1 g⟩
  obtain⟨y,o⟩ : ∃y,b[i]? = some y:=⟨_,C1 ω⟩
  repeat'(first|refine gE ?_|(conv=>whnf);first|with_reducible (first|refine C6 (ab n) ?_|refine C6 (ab o) ?_|refine Bf.N (λh=>?_) (λh=>?_)|refine Bf.NB (λh=>?_) (λh=>?_)|refine Bf.D (λh=>?_) (λh=>?_))|refine C4 (Eg x y trivial) ?_)
  all_goals first
   |(show [B false]=[B (decide (a=b))]
     refine O0 (λz=>[B z]) (M0 λe=>?_).symm;subst e
     simp_all)
   | ((conv=>whnf)
      refine C7 (i+1) ⟨ω,λj q=>?_⟩ ω ?_
      · rcases Nat.lt_or_ge j i with d|d
        · exact c j d
        obtain rfl:j=i:=ω
        rw[n,o]
        simp_all
      exact wA)
 repeat'(first|refine gE ?_|fail)
 refine O0 (λz=>[B z]) (L0 ?_).symm;refine List.ext_getElem? λj=>?_
 rcases Nat.lt_or_ge j i with d|d
 ·exact c j d
 rw[L1 ω,L1 ω]
theorem zb(a b:ar)(c:ar.sml a):af Tryz.prog 152 false [.val (some 1) (ar.enc .H a),.val (some 1) (ar.enc .H b)] .one [B (decide (a=b))]:=by
 have d:=c;refine fO 11 [] Tryz.func152 rfl ?_
 repeat'(first|refine gP ?_|(conv=>whnf);first|with_reducible (first|refine Bf.N (λh=>?_) (λh=>?_)|refine Bf.NB (λh=>?_) (λh=>?_)|refine Bf.D (λh=>?_) (λh=>?_))|refine C4 (n7 a.W b.W d) ?_)
 all_goals first|(show [B false]=[B (decide (a=b))];refine O0 (λz=>[B z]) (M0 λe=>?_).symm;subst e;contradiction)|(show [B true]=[B (decide (a=b))];refine O0 (λz=>[B z]) (L0 ?_).symm;cases a;cases b;simp_all)
theorem wE(a b:List ar)(l:iM a):af Tryz.prog 52 false [.val none (cP .H a),.val none (cP .H b)] .one [B (decide (a=b))]:=by
 refine fO 27 [(6,10,[17,18,19,20,21,22,23,24,25,26])] Tryz.func52 rfl ?_;have r:a.length<=1048576:=l.1
 repeat'(first|refine gP ?_|(conv=>whnf);first|with_reducible refine Bf.N (λh=>?_) (λh=>?_))
 ·refine O0 (λz=>[B z]) (M0 λe=>?_).symm
  subst e;omega
 have n:a.length=b.length:=ω
 (conv=>whnf)
 refine C8 (ι:=Nat) (λi=>[(0,.F .one (cP .H a)),(1,.F .one (cP .H b)),(5,.F .one [I (i:Nat)])]) (λi=>i<=a.length/\∀j,j<i->a[j]? = b[j]?) (λi=>a.length - i) 0 ?_ ⟨N0 _,λj q=>ω⟩ λi o=>?_
 ·exact wA
 obtain⟨o,c⟩:=o;by_cases g:i<a.length
 ·obtain⟨x,k⟩ : ∃x,a[i]? = some x:=⟨_,C1 g⟩
  obtain⟨y,p⟩ : ∃y,b[i]? = some y:=⟨_,C1 ω⟩
  repeat'(first|refine gE ?_|(conv=>whnf);first|with_reducible (first|refine C6 (ab k) ?_|refine C6 (ab p) ?_|refine Bf.N (λh=>?_) (λh=>?_)|refine Bf.NB (λh=>?_) (λh=>?_)|refine Bf.D (λh=>?_) (λh=>?_))|refine C4 (zb x y (l.2 x (X0 k))) ?_)
  all_goals first
   |(show [B false]=[B (decide (a=b))]
     refine O0 (λz=>[B z]) (M0 λe=>?_).symm;subst e
     simp_all)
   | ((conv=>whnf)
      refine C7 (i+1) ⟨ω,λj q=>?_⟩ ω ?_
      · rcases Nat.lt_or_ge j i with d|d
        · exact c j d
        obtain rfl:j=i:=ω
        rw[k,p]
        simp_all
      exact wA)
 repeat'(first|refine gE ?_|fail)
 refine O0 (λz=>[B z]) (L0 ?_).symm;refine List.ext_getElem? λj=>?_
 rcases Nat.lt_or_ge j i with d|d
 ·exact c j d
 rw[L1 ω,L1 ω]
theorem B5(a b:aH)(c:aH.sml a):af Tryz.prog 254 false [.val (some 2) (aH.enc .H a),.val (some 2) (aH.enc .H b)] .one [B (decide (a=b))]:=by
 refine fO 15 [] Tryz.func254 rfl ?_
 repeat'(first|refine gP ?_|(conv=>whnf);first|with_reducible (first|refine Bf.N (λh=>?_) (λh=>?_)|refine Bf.NB (λh=>?_) (λh=>?_)|refine Bf.D (λh=>?_) (λh=>?_)))
 all_goals first|(show [B false]=[B (decide (a=b))];refine O0 (λz=>[B z]) (M0 λe=>?_).symm;subst e;contradiction)|(show [B true]=[B (decide (a=b))];refine O0 (λz=>[B z]) (L0 ?_).symm;cases a;cases b;simp_all)
theorem zq(a b:List aH)(p:j8 a):af Tryz.prog 217 false [.val none (bV .H a),.val none (bV .H b)] .one [B (decide (a=b))]:=by
 refine fO 27 [(6,10,[17,18,19,20,21,22,23,24,25,26])] Tryz.func217 rfl ?_;have r:a.length<=1048576:=p.1
 repeat'(first|refine gP ?_|(conv=>whnf);first|with_reducible refine Bf.N (λh=>?_) (λh=>?_))
 ·refine O0 (λz=>[B z]) (M0 λe=>?_).symm
  subst e;omega
 have k:a.length=b.length:=ω
 (conv=>whnf)
 refine C8 (ι:=Nat) (λi=>[(0,.F .one (bV .H a)),(1,.F .one (bV .H b)),(5,.F .one [I (i:Nat)])]) (λi=>i<=a.length/\∀j,j<i->a[j]? = b[j]?) (λi=>a.length - i) 0 ?_ ⟨N0 _,λj q=>ω⟩ λi l=>?_
 ·exact wA
 obtain⟨l,c⟩:=l;by_cases g:i<a.length
 ·obtain⟨x,n⟩ : ∃x,a[i]? = some x:=⟨_,C1 g⟩
  obtain⟨y,o⟩ : ∃y,b[i]? = some y:=⟨_,C1 ω⟩
  repeat'(first|refine gE ?_|(conv=>whnf);first|with_reducible (first|refine C6 (ab n) ?_|refine C6 (ab o) ?_|refine Bf.N (λh=>?_) (λh=>?_)|refine Bf.NB (λh=>?_) (λh=>?_)|refine Bf.D (λh=>?_) (λh=>?_))|refine C4 (B5 x y trivial) ?_)
  all_goals first
   |(show [B false]=[B (decide (a=b))]
     refine O0 (λz=>[B z]) (M0 λe=>?_).symm;subst e
     simp_all)
   | ((conv=>whnf)
      refine C7 (i+1) ⟨ω,λj q=>?_⟩ ω ?_
      · rcases Nat.lt_or_ge j i with d|d
        · exact c j d
        obtain rfl:j=i:=ω
        rw[n,o]
        simp_all
      exact wA)
 repeat'(first|refine gE ?_|fail)
 refine O0 (λz=>[B z]) (L0 ?_).symm;refine List.ext_getElem? λj=>?_
 rcases Nat.lt_or_ge j i with d|d
 ·exact c j d
 rw[L1 ω,L1 ω]
theorem xJ(a b:List (List aH))(l:iJ a):af Tryz.prog 153 false [.val none (d5 .H a),.val none (d5 .H b)] .one [B (decide (a=b))]:=by
 refine fO 27 [(6,10,[17,18,19,20,21,22,23,24,25,26])] Tryz.func153 rfl ?_;have r:a.length<=1048576:=l.1
 repeat'(first|refine gP ?_|(conv=>whnf);first|with_reducible refine Bf.N (λh=>?_) (λh=>?_))
 ·refine O0 (λz=>[B z]) (M0 λe=>?_).symm
  subst e;omega
 have n:a.length=b.length:=ω
 (conv=>whnf)
 refine C8 (ι:=Nat) (λi=>[(0,.F .one (d5 .H a)),(1,.F .one (d5 .H b)),(5,.F .one [I (i:Nat)])]) (λi=>i<=a.length/\∀j,j<i->a[j]? = b[j]?) (λi=>a.length - i) 0 ?_ ⟨N0 _,λj q=>ω⟩ λi o=>?_
 ·exact wA
 obtain⟨o,c⟩:=o;by_cases g:i<a.length
 ·obtain⟨x,k⟩ : ∃x,a[i]? = some x:=⟨_,C1 g⟩
  obtain⟨y,p⟩ : ∃y,b[i]? = some y:=⟨_,C1 ω⟩
  repeat'(first|refine gE ?_|(conv=>whnf);first|with_reducible (first|refine C6 (ab k) ?_|refine C6 (ab p) ?_|refine Bf.N (λh=>?_) (λh=>?_)|refine Bf.NB (λh=>?_) (λh=>?_)|refine Bf.D (λh=>?_) (λh=>?_))|refine C4 (zq x y (l.2 x (X0 k))) ?_)
  all_goals first
   |(show [B false]=[B (decide (a=b))]
     refine O0 (λz=>[B z]) (M0 λe=>?_).symm;subst e
     simp_all)
   | ((conv=>whnf)
      refine C7 (i+1) ⟨ω,λj q=>?_⟩ ω ?_
      · rcases Nat.lt_or_ge j i with d|d
        · exact c j d
        obtain rfl:j=i:=ω
        rw[k,p]
        simp_all
      exact wA)
 repeat'(first|refine gE ?_|fail)
 refine O0 (λz=>[B z]) (L0 ?_).symm;refine List.ext_getElem? λj=>?_
 rcases Nat.lt_or_ge j i with d|d
 ·exact c j d
 rw[L1 ω,L1 ω]
theorem B3(a b:aI)(c:aI.sml a):af Tryz.prog 53 false [.val (some 2) (aI.enc .H a),.val (some 2) (aI.enc .H b)] .one [B (decide (a=b))]:=by
 obtain⟨d,g⟩:=c;refine fO 17 [] Tryz.func53 rfl ?_
 repeat'(first|refine gP ?_|(conv=>whnf);first|with_reducible (first|refine Bf.N (λh=>?_) (λh=>?_)|refine Bf.NB (λh=>?_) (λh=>?_)|refine Bf.D (λh=>?_) (λh=>?_))|refine C4 (xJ a.Q b.Q d) ?_|refine C4 (n7 a.e b.e g) ?_)
 all_goals first|(show [B false]=[B (decide (a=b))];refine O0 (λz=>[B z]) (M0 λe=>?_).symm;subst e;contradiction)|(show [B true]=[B (decide (a=b))];refine O0 (λz=>[B z]) (L0 ?_).symm;cases a;cases b;simp_all)
theorem z3(a b:ay)(c:ay.sml a):af Tryz.prog 218 false [.val (some 3) (ay.enc .H a),.val (some 3) (ay.enc .H b)] .one [B (decide (a=b))]:=by
 refine fO 20 [] Tryz.func218 rfl ?_
 repeat'(first|refine gP ?_|(conv=>whnf);first|with_reducible (first|refine Bf.N (λh=>?_) (λh=>?_)|refine Bf.NB (λh=>?_) (λh=>?_)|refine Bf.D (λh=>?_) (λh=>?_)))
 all_goals first|(show [B false]=[B (decide (a=b))];refine O0 (λz=>[B z]) (M0 λe=>?_).symm;subst e;contradiction)|(show [B true]=[B (decide (a=b))];refine O0 (λz=>[B z]) (L0 ?_).symm;cases a;cases b;simp_all)
theorem xw(a b:List ay)(p:dS a):af Tryz.prog 155 false [.val none (bO .H a),.val none (bO .H b)] .one [B (decide (a=b))]:=by
 refine fO 27 [(6,10,[17,18,19,20,21,22,23,24,25,26])] Tryz.func155 rfl ?_;have r:a.length<=1048576:=p.1
 repeat'(first|refine gP ?_|(conv=>whnf);first|with_reducible refine Bf.N (λh=>?_) (λh=>?_))
 ·refine O0 (λz=>[B z]) (M0 λe=>?_).symm
  subst e;omega
 have k:a.length=b.length:=ω
 (conv=>whnf)
 refine C8 (ι:=Nat) (λi=>[(0,.F .one (bO .H a)),(1,.F .one (bO .H b)),(5,.F .one [I (i:Nat)])]) (λi=>i<=a.length/\∀j,j<i->a[j]? = b[j]?) (λi=>a.length - i) 0 ?_ ⟨N0 _,λj q=>ω⟩ λi l=>?_
 ·exact wA
 obtain⟨l,c⟩:=l;by_cases g:i<a.length
 ·obtain⟨x,n⟩ : ∃x,a[i]? = some x:=⟨_,C1 g⟩
  obtain⟨y,o⟩ : ∃y,b[i]? = some y:=⟨_,C1 ω⟩
  repeat'(first|refine gE ?_|(conv=>whnf);first|with_reducible (first|refine C6 (ab n) ?_|refine C6 (ab o) ?_|refine Bf.N (λh=>?_) (λh=>?_)|refine Bf.NB (λh=>?_) (λh=>?_)|refine Bf.D (λh=>?_) (λh=>?_))|refine C4 (z3 x y trivial) ?_)
  all_goals first
   |(show [B false]=[B (decide (a=b))]
     refine O0 (λz=>[B z]) (M0 λe=>?_).symm;subst e
     simp_all)
   | ((conv=>whnf)
      refine C7 (i+1) ⟨ω,λj q=>?_⟩ ω ?_
      · rcases Nat.lt_or_ge j i with d|d
        · exact c j d
        obtain rfl:j=i:=ω
        rw[n,o]
        simp_all
      exact wA)
 repeat'(first|refine gE ?_|fail)
 refine O0 (λz=>[B z]) (L0 ?_).symm;refine List.ext_getElem? λj=>?_
 rcases Nat.lt_or_ge j i with d|d
 ·exact c j d
 rw[L1 ω,L1 ω]
theorem B9(a b:aT)(c:aT.sml a):af Tryz.prog 54 false [.val (some 2) (aT.enc .H a),.val (some 2) (aT.enc .H b)] .one [B (decide (a=b))]:=by
 have d:=c;refine fO 16 [] Tryz.func54 rfl ?_
 repeat'(first|refine gP ?_|(conv=>whnf);first|with_reducible (first|refine Bf.N (λh=>?_) (λh=>?_)|refine Bf.NB (λh=>?_) (λh=>?_)|refine Bf.D (λh=>?_) (λh=>?_))|refine C4 (xw a.d b.d d) ?_)
 all_goals first|(show [B false]=[B (decide (a=b))];refine O0 (λz=>[B z]) (M0 λe=>?_).symm;subst e;contradiction)|(show [B true]=[B (decide (a=b))];refine O0 (λz=>[B z]) (L0 ?_).symm;cases a;cases b;simp_all)
theorem Dv(a b:bf)(c:bf.sml a):af Tryz.prog 156 false [.val (some 3) (bf.enc .H a),.val (some 3) (bf.enc .H b)] .one [B (decide (a=b))]:=by
 have d:=c;refine fO 21 [] Tryz.func156 rfl ?_
 repeat'(first|refine gP ?_|(conv=>whnf);first|with_reducible (first|refine Bf.N (λh=>?_) (λh=>?_)|refine Bf.NB (λh=>?_) (λh=>?_)|refine Bf.D (λh=>?_) (λh=>?_))|refine C4 (pC a.V b.V d) ?_)
 all_goals first|(show [B false]=[B (decide (a=b))];refine O0 (λz=>[B z]) (M0 λe=>?_).symm;subst e;contradiction)|(show [B true]=[B (decide (a=b))];refine O0 (λz=>[B z]) (L0 ?_).symm;cases a;cases b;simp_all)
theorem Er(a b:bA)(c:bA.sml a):af Tryz.prog 55 false [.val (some 5) (bA.enc .H a),.val (some 5) (bA.enc .H b)] .one [B (decide (a=b))]:=by
 have d:=c;refine fO 21 [] Tryz.func55 rfl ?_
 repeat'(first|refine gP ?_|(conv=>whnf);first|with_reducible (first|refine Bf.N (λh=>?_) (λh=>?_)|refine Bf.NB (λh=>?_) (λh=>?_)|refine Bf.D (λh=>?_) (λh=>?_))|refine C4 (Dv a.h b.h d) ?_)
 all_goals first|(show [B false]=[B (decide (a=b))];refine O0 (λz=>[B z]) (M0 λe=>?_).symm;subst e;contradiction)|(show [B true]=[B (decide (a=b))];refine O0 (λz=>[B z]) (L0 ?_).symm;cases a;cases b;simp_all)
theorem B8(a b:ac)(c:ac.sml a):af Tryz.prog 10 false [.val (some 24) (ac.enc .H a),.val (some 24) (ac.enc .H b)] .one [B (decide (a=b))]:=by
 obtain⟨d,g,i,j,k,l,n,o,p⟩:=c;refine fO 84 [] Tryz.func10 rfl ?_
 repeat'(first|refine gP ?_|(conv=>whnf);first|with_reducible (first|refine Bf.N (λh=>?_) (λh=>?_)|refine Bf.NB (λh=>?_) (λh=>?_)|refine Bf.D (λh=>?_) (λh=>?_))|refine C4 (yf a.X b.X d) ?_|refine C4 (x3 a.p b.p g) ?_|refine C4 (zQ a.G b.G i) ?_|refine C4 (wQ a.J b.J j) ?_|refine C4 (D0 a.S b.S k) ?_|refine C4 (wE a.O b.O l) ?_|refine C4 (B3 a.Y b.Y n) ?_|refine C4 (B9 a.b b.b o) ?_|refine C4 (Er a.r b.r p) ?_)
 all_goals first|(show [B false]=[B (decide (a=b))];refine O0 (λz=>[B z]) (M0 λe=>?_).symm;subst e;contradiction)|(show [B true]=[B (decide (a=b))];refine O0 (λz=>[B z]) (L0 ?_).symm;cases a;cases b;simp_all)
set_option maxHeartbeats 2000000
def kW(x:List Int)(k:Int)(g:jK x)(n:0<=k)(h:k+(fg x:Nat)<=1099511627776):bR Tryz.prog 158 false [.mut none (aK .own x),.val none [I k]] [.mut none (aK .own (markIntS x k)),.val none []] .one [I (k+(fg x:Nat))]:=by
 have o:x.length<=1048576:=g;unfold fg at h;have a:((markIntS x k).map (rI .own)).length=(x.map (rI .own)).length:=by simp[oG]
 refine fM 19 [] [] [(0,0),(0,0)] Tryz.func158 rfl (λu p=>?_)
 repeat'(first|refine gP ?_|fail)
 (conv=>whnf)
 refine C8 (ι:=Nat) (λi=>[(0,.F .one [.s (.tag (u 0 0)) (ew ((markIntS x k).map (rI .own)) (x.map (rI .own)) i)]),(1,.F .one [I (k+(oO x i:Nat))]),(5,.F .one [I (i:Nat)])]) (λi=>i<=x.length) (λi=>x.length - i) 0 ?_ (N0 _) λi q=>?_
 ·rw[b8]
  repeat'(first|exact trivial|rfl|exact C5 rfl (C5 (O0 I (by unfold oO;omega)) trivial)|refine C5 ?_ ?_)
 have b:=(eH a i).trans (show(x.map (rI .own)).length=x.length by simp);by_cases c:i<x.length
 ·obtain⟨y,j⟩ : ∃y,x[i]? = some y:=⟨_,C1 c⟩
  have d:=cy a i (by simp;omega);rw[ab j]at d;have e:=oN x k i c;unfold oO
  repeat'(first|refine gE ?_|(conv=>whnf);first|with_reducible (first|refine CH b ?_|refine C6 d ?_)|refine CF rfl rfl d rfl (O1 _) rfl ?_|refine CD (by decide) ?_|refine Ev.mk rfl ?_|refine C6 (aV d) ?_|refine C7 (i+1) ω ω ?_)
  repeat'(first|exact trivial|rfl|exact C5 rfl (C5 (O0 (C.s _) (by first|exact bj a (ab e)|(simp only[List.set_set];exact bj a (ab e)))) trivial)|exact C5 rfl (C5 (O0 I (by first|omega|(unfold oO;omega))) trivial)|refine C5 ?_ ?_)
 repeat'(first|refine gE ?_|(conv=>whnf);first|with_reducible refine CH b ?_|refine CL rfl ?_ ?_)
 ·have l:i=x.length:=ω
  subst l;exact O0 (λz=>[I z]) (by unfold oO fg;rfl)
 rw[cw _ a (by simp;omega)]
 repeat'(first|exact trivial|exact rfl|refine C5 ?_ ?_)
def ke(x:List (List Int))(k:Int)(j:iC x)(o:0<=k)(q:k+(dx x:Nat)<=1099511627776):bR Tryz.prog 159 false [.mut none (dn .own x),.val none [I k]] [.mut none (dn .own (markIntSS x k)),.val none []] .one [I (k+(dx x:Nat))]:=by
 have r:x.length<=1048576:=j.1;have a:((markIntSS x k).map (aK .own)).length=(x.map (aK .own)).length:=by simp[mV]
 refine fM 19 [(158,[1,0])] [] [(0,0),(0,0)] Tryz.func159 rfl (λu p=>?_)
 repeat'(first|refine gP ?_|fail)
 (conv=>whnf)
 refine C8 (ι:=Nat) (λi=>[(0,.F .one [.s (.tag (u 0 0)) (ew ((markIntSS x k).map (aK .own)) (x.map (aK .own)) i)]),(1,.F .one [I (k+(di x i:Nat))]),(5,.F .one [I (i:Nat)])]) (λi=>i<=x.length) (λi=>x.length - i) 0 ?_ (N0 _) λi t=>?_
 ·rw[b8,mP]
  repeat'(first|exact trivial|rfl|exact C5 rfl (C5 (O0 I ω) trivial)|refine C5 ?_ ?_)
 have b:=(eH a i).trans (show(x.map (aK .own)).length=x.length by simp);by_cases e:i<x.length
 ·obtain⟨y,d⟩ : ∃y,x[i]? = some y:=⟨_,C1 e⟩
  have c:=cy a i (by simp;omega);rw[ab d]at c;have l:=mI x k i y d;have g:=ni x i y d;have h:=qo x (i+1);rw[g]at h
  repeat'(first|refine gE ?_|(conv=>whnf);first|with_reducible (first|refine CH b ?_|refine C6 c ?_)|refine CM rfl c rfl ?_|refine Lq.one rfl rfl c rfl (O1 _) rfl rfl ?_|refine CE (kW y _ (j.2 y (X0 d)) ω ω) (.inl rfl) ?_|refine CF rfl rfl (aV c) rfl (O1 _) rfl ?_|refine C6 (aV c) ?_|refine C7 (i+1) ω ω ?_)
  repeat'(first|exact trivial|rfl|exact C5 rfl (C5 (O0 (C.s _) (by first|exact bj a (ab l)|(simp only[List.set_set];exact bj a (ab l)))) trivial)|exact C5 rfl (C5 (O0 I ω) trivial)|refine C5 ?_ ?_)
 repeat'(first|refine gE ?_|(conv=>whnf);first|with_reducible refine CH b ?_|refine CL rfl ?_ ?_)
 ·have n:i=x.length:=ω
  subst n;exact O0 (λz=>[I z]) (by rw[oU])
 rw[cw _ a (by simp;omega)]
 repeat'(first|exact trivial|exact rfl|refine C5 ?_ ?_)
def vq(x:List Bool)(k:Int)(g:lD x)(n:0<=k)(h:k+(ix x:Nat)<=1099511627776):bR Tryz.prog 255 false [.mut none (fC .own x),.val none [I k]] [.mut none (fC .own (markBoolS x k)),.val none []] .one [I (k+(ix x:Nat))]:=by
 have o:x.length<=1048576:=g;unfold ix at h;have a:((markBoolS x k).map (rB .own)).length=(x.map (rB .own)).length:=by simp[mE]
 refine fM 21 [] [] [(0,0),(0,0)] Tryz.func255 rfl (λu p=>?_)
 repeat'(first|refine gP ?_|fail)
 (conv=>whnf)
 refine C8 (ι:=Nat) (λi=>[(0,.F .one [.s (.tag (u 0 0)) (ew ((markBoolS x k).map (rB .own)) (x.map (rB .own)) i)]),(1,.F .one [I (k+(lX x i:Nat))]),(5,.F .one [I (i:Nat)])]) (λi=>i<=x.length) (λi=>x.length - i) 0 ?_ (N0 _) λi q=>?_
 ·rw[b8]
  repeat'(first|exact trivial|rfl|exact C5 rfl (C5 (O0 I (by unfold lX;omega)) trivial)|refine C5 ?_ ?_)
 have b:=(eH a i).trans (show(x.map (rB .own)).length=x.length by simp);by_cases c:i<x.length
 ·obtain⟨y,j⟩ : ∃y,x[i]? = some y:=⟨_,C1 c⟩
  have d:=cy a i (by simp;omega);rw[ab j]at d;have e:=nr x k i c;unfold lX
  repeat'(first|refine gE ?_|(conv=>whnf);first|with_reducible (first|refine CH b ?_|refine C6 d ?_)|refine CF rfl rfl d rfl (O1 _) rfl ?_|refine CD (by decide) ?_|refine Ev.mk rfl ?_|refine C6 (aV d) ?_|refine C7 (i+1) ω ω ?_)
  repeat'(first|exact trivial|rfl|exact C5 rfl (C5 (O0 (C.s _) (by first|exact bj a (ab e)|(simp only[List.set_set];exact bj a (ab e)))) trivial)|exact C5 rfl (C5 (O0 I (by first|omega|(unfold lX;omega))) trivial)|refine C5 ?_ ?_)
 repeat'(first|refine gE ?_|(conv=>whnf);first|with_reducible refine CH b ?_|refine CL rfl ?_ ?_)
 ·have l:i=x.length:=ω
  subst l;exact O0 (λz=>[I z]) (by unfold lX ix;rfl)
 rw[cw _ a (by simp;omega)]
 repeat'(first|exact trivial|exact rfl|refine C5 ?_ ?_)
def tS(x:aC)(k:Int)(a:aC.sml x)(e:0<=k)(b:k+(aC.cnt x:Nat)<=1099511627776):bR Tryz.prog 219 false [.mut (some 2) (aC.enc .own x),.val none [I k]] [.mut (some 2) (aC.enc .own (x.mark k)),.val none []] .one [I (k+(aC.cnt x:Nat))]:=by
 obtain⟨c,d⟩:=a;unfold aC.cnt at b;refine fM 14 [(159,[1,0]),(255,[1,0])] [] [(2,0),(0,0)] Tryz.func219 rfl (λu p=>?_)
 repeat'(first|refine gP ?_|(conv=>whnf);first|refine CE (ke x.V _ c ω ω) (.inl rfl) ?_|refine CE (vq x.c _ d ω ω) (.inl rfl) ?_|refine CL rfl ?_ ?_)
 ·exact O0 (λz=>[I z]) (by unfold aC.cnt;omega)
 repeat'(first|exact trivial|exact rfl|refine C5 ?_ ?_)
def tZ(x:List aD)(k:Int)(l:iI x)(o:0<=k)(q:k+(d3 x:Nat)<=1099511627776):bR Tryz.prog 256 false [.mut none (d4 .own x),.val none [I k]] [.mut none (d4 .own (dv x k)),.val none []] .one [I (k+(d3 x:Nat))]:=by
 have r:x.length<=1048576:=l.1;have a:((dv x k).map (aD.enc .own)).length=(x.map (aD.enc .own)).length:=by simp[kN]
 refine fM 27 [] [] [(0,0),(0,0)] Tryz.func256 rfl (λu p=>?_)
 repeat'(first|refine gP ?_|fail)
 (conv=>whnf)
 refine C8 (ι:=Nat) (λi=>[(0,.F .one [.s (.tag (u 0 0)) (ew ((dv x k).map (aD.enc .own)) (x.map (aD.enc .own)) i)]),(1,.F .one [I (k+(ce x i:Nat))]),(5,.F .one [I (i:Nat)])]) (λi=>i<=x.length) (λi=>x.length - i) 0 ?_ (N0 _) λi t=>?_
 ·rw[b8,kB]
  repeat'(first|exact trivial|rfl|exact C5 rfl (C5 (O0 I ω) trivial)|refine C5 ?_ ?_)
 have b:=(eH a i).trans (show(x.map (aD.enc .own)).length=x.length by simp);by_cases g:i<x.length
 ·obtain⟨y,h⟩ : ∃y,x[i]? = some y:=⟨_,C1 g⟩
  have d:=cy a i (by simp;omega);rw[ab h]at d;have j:=kA x k i y h;have c:=kx x i y h;have e:=mW x (i+1);rw[c]at e;simp only[aD.cnt]at c e
  repeat'(first|refine gE ?_|(conv=>whnf);first|with_reducible (first|refine CH b ?_|refine C6 d ?_)|refine CF rfl rfl d rfl (R0 rfl) rfl ?_|refine CF rfl rfl (aV d) rfl (R0 rfl) rfl ?_|refine C6 (aV d) ?_|refine C7 (i+1) ω ω ?_)
  repeat'(first|exact trivial|rfl|exact C5 rfl (C5 (O0 (C.s _) (by first|exact bj a (ab j)|(simp only[List.set_set];exact bj a (ab j)))) trivial)|exact C5 rfl (C5 (O0 I (by first|omega|(simp only[aD.cnt]at c;omega))) trivial)|refine C5 ?_ ?_)
 repeat'(first|refine gE ?_|(conv=>whnf);first|with_reducible refine CH b ?_|refine CL rfl ?_ ?_)
 ·have n:i=x.length:=ω
  subst n;exact O0 (λz=>[I z]) (by rw[lB])
 rw[cw _ a (by simp;omega)]
 repeat'(first|exact trivial|exact rfl|refine C5 ?_ ?_)
def ww(x:az)(k:Int)(a:az.sml x)(d:0<=k)(b:k+(az.cnt x:Nat)<=1099511627776):bR Tryz.prog 220 false [.mut (some 1) (az.enc .own x),.val none [I k]] [.mut (some 1) (az.enc .own (x.mark k)),.val none []] .one [I (k+(az.cnt x:Nat))]:=by
 have c:=a;unfold az.cnt at b;refine fM 10 [(256,[1,0])] [] [(2,0),(0,0)] Tryz.func220 rfl (λu p=>?_)
 repeat'(first|refine gP ?_|(conv=>whnf);first|refine CE (tZ x.K _ c ω ω) (.inl rfl) ?_|refine CL rfl ?_ ?_)
 ·exact O0 (λz=>[I z]) (by unfold az.cnt;omega)
 repeat'(first|exact trivial|exact rfl|refine C5 ?_ ?_)
def rY(x:aB)(k:Int)(a:aB.sml x)(e:0<=k)(b:k+(aB.cnt x:Nat)<=1099511627776):bR Tryz.prog 157 false [.mut (some 3) (aB.enc .own x),.val none [I k]] [.mut (some 3) (aB.enc .own (x.mark k)),.val none []] .one [I (k+(aB.cnt x:Nat))]:=by
 obtain⟨c,d⟩:=a;unfold aB.cnt at b;refine fM 14 [(219,[1,0]),(220,[1,0])] [] [(2,0),(0,0)] Tryz.func157 rfl (λu p=>?_)
 repeat'(first|refine gP ?_|(conv=>whnf);first|refine CE (tS x.U _ c ω ω) (.inl rfl) ?_|refine CE (ww x.a _ d ω ω) (.inl rfl) ?_|refine CL rfl ?_ ?_)
 ·exact O0 (λz=>[I z]) (by unfold aB.cnt;omega)
 repeat'(first|exact trivial|exact rfl|refine C5 ?_ ?_)
def tO(x:au)(k:Int)(a:au.sml x)(e:0<=k)(b:k+(au.cnt x:Nat)<=1099511627776):bR Tryz.prog 56 false [.mut (some 5) (au.enc .own x),.val none [I k]] [.mut (some 5) (au.enc .own (x.mark k)),.val none []] .one [I (k+(au.cnt x:Nat))]:=by
 obtain⟨c,d⟩:=a;unfold au.cnt at b;refine fM 14 [(157,[1,0]),(158,[1,0])] [] [(2,0),(0,0)] Tryz.func56 rfl (λu p=>?_)
 repeat'(first|refine gP ?_|(conv=>whnf);first|refine CE (rY x.R _ c ω ω) (.inl rfl) ?_|refine CE (kW x.k _ d ω ω) (.inl rfl) ?_|refine CL rfl ?_ ?_)
 ·exact O0 (λz=>[I z]) (by unfold au.cnt;omega)
 repeat'(first|exact trivial|exact rfl|refine C5 ?_ ?_)
def t7(x:List aA)(k:Int)(l:dQ x)(o:0<=k)(q:k+(bF x:Nat)<=1099511627776):bR Tryz.prog 57 false [.mut none (bQ .own x),.val none [I k]] [.mut none (bQ .own (dq x k)),.val none []] .one [I (k+(bF x:Nat))]:=by
 have r:x.length<=1048576:=l.1;have a:((dq x k).map (aA.enc .own)).length=(x.map (aA.enc .own)).length:=by simp[kM]
 refine fM 27 [] [] [(0,0),(0,0)] Tryz.func57 rfl (λu p=>?_)
 repeat'(first|refine gP ?_|fail)
 (conv=>whnf)
 refine C8 (ι:=Nat) (λi=>[(0,.F .one [.s (.tag (u 0 0)) (ew ((dq x k).map (aA.enc .own)) (x.map (aA.enc .own)) i)]),(1,.F .one [I (k+(cf x i:Nat))]),(5,.F .one [I (i:Nat)])]) (λi=>i<=x.length) (λi=>x.length - i) 0 ?_ (N0 _) λi t=>?_
 ·rw[b8,kJ]
  repeat'(first|exact trivial|rfl|exact C5 rfl (C5 (O0 I ω) trivial)|refine C5 ?_ ?_)
 have b:=(eH a i).trans (show(x.map (aA.enc .own)).length=x.length by simp);by_cases g:i<x.length
 ·obtain⟨y,h⟩ : ∃y,x[i]? = some y:=⟨_,C1 g⟩
  have d:=cy a i (by simp;omega);rw[ab h]at d;have j:=kE x k i y h;have c:=kw x i y h;have e:=mL x (i+1);rw[c]at e;simp only[aA.cnt]at c e
  repeat'(first|refine gE ?_|(conv=>whnf);first|with_reducible (first|refine CH b ?_|refine C6 d ?_)|refine CF rfl rfl d rfl (R0 rfl) rfl ?_|refine CF rfl rfl (aV d) rfl (R0 rfl) rfl ?_|refine C6 (aV d) ?_|refine C7 (i+1) ω ω ?_)
  repeat'(first|exact trivial|rfl|exact C5 rfl (C5 (O0 (C.s _) (by first|exact bj a (ab j)|(simp only[List.set_set];exact bj a (ab j)))) trivial)|exact C5 rfl (C5 (O0 I (by first|omega|(simp only[aA.cnt]at c;omega))) trivial)|refine C5 ?_ ?_)
 repeat'(first|refine gE ?_|(conv=>whnf);first|with_reducible refine CH b ?_|refine CL rfl ?_ ?_)
 ·have n:i=x.length:=ω
  subst n;exact O0 (λz=>[I z]) (by rw[lf])
 rw[cw _ a (by simp;omega)]
 repeat'(first|exact trivial|exact rfl|refine C5 ?_ ?_)
def vo(x:List ah)(k:Int)(l:bJ x)(o:0<=k)(q:k+(cK x:Nat)<=1099511627776):bR Tryz.prog 58 false [.mut none (bi .own x),.val none [I k]] [.mut none (bi .own (dJ x k)),.val none []] .one [I (k+(cK x:Nat))]:=by
 have r:x.length<=1048576:=l.1;have a:((dJ x k).map (ah.enc .own)).length=(x.map (ah.enc .own)).length:=by simp[kU]
 refine fM 34 [] [] [(0,0),(0,0)] Tryz.func58 rfl (λu p=>?_)
 repeat'(first|refine gP ?_|fail)
 (conv=>whnf)
 refine C8 (ι:=Nat) (λi=>[(0,.F .one [.s (.tag (u 0 0)) (ew ((dJ x k).map (ah.enc .own)) (x.map (ah.enc .own)) i)]),(1,.F .one [I (k+(cN x i:Nat))]),(5,.F .one [I (i:Nat)])]) (λi=>i<=x.length) (λi=>x.length - i) 0 ?_ (N0 _) λi t=>?_
 ·rw[b8,lY]
  repeat'(first|exact trivial|rfl|exact C5 rfl (C5 (O0 I ω) trivial)|refine C5 ?_ ?_)
 have b:=(eH a i).trans (show(x.map (ah.enc .own)).length=x.length by simp);by_cases g:i<x.length
 ·obtain⟨y,h⟩ : ∃y,x[i]? = some y:=⟨_,C1 g⟩
  have c:=cy a i (by simp;omega);rw[ab h]at c;have j:=lh x k i y h;have d:=lF x i y h;have e:=oA x (i+1);rw[d]at e;simp only[ah.cnt]at d e
  repeat'(first|refine gE ?_|(conv=>whnf);first|with_reducible (first|refine CH b ?_|refine C6 c ?_)|refine CF rfl rfl c rfl (R0 rfl) rfl ?_|refine CF rfl rfl (aV c) rfl (R0 rfl) rfl ?_|refine CF rfl rfl (aV (aV c)) rfl (R0 rfl) rfl ?_|refine C6 (aV c) ?_|refine C6 (aV (aV c)) ?_|refine C7 (i+1) ω ω ?_)
  repeat'(first|exact trivial|rfl|exact C5 rfl (C5 (O0 (C.s _) (by first|exact bj a (ab j)|(simp only[List.set_set];exact bj a (ab j)))) trivial)|exact C5 rfl (C5 (O0 I (by first|omega|(simp only[ah.cnt]at d;omega))) trivial)|refine C5 ?_ ?_)
 repeat'(first|refine gE ?_|(conv=>whnf);first|with_reducible refine CH b ?_|refine CL rfl ?_ ?_)
 ·have n:i=x.length:=ω
  subst n;exact O0 (λz=>[I z]) (by rw[nq])
 rw[cw _ a (by simp;omega)]
 repeat'(first|exact trivial|exact rfl|refine C5 ?_ ?_)
def ui(x:List am)(k:Int)(l:bw x)(o:0<=k)(q:k+(cg x:Nat)<=1099511627776):bR Tryz.prog 59 false [.mut none (aP .own x),.val none [I k]] [.mut none (aP .own (dr x k)),.val none []] .one [I (k+(cg x:Nat))]:=by
 have r:x.length<=1048576:=l.1;have a:((dr x k).map (am.enc .own)).length=(x.map (am.enc .own)).length:=by simp[kD]
 refine fM 34 [] [] [(0,0),(0,0)] Tryz.func59 rfl (λu p=>?_)
 repeat'(first|refine gP ?_|fail)
 (conv=>whnf)
 refine C8 (ι:=Nat) (λi=>[(0,.F .one [.s (.tag (u 0 0)) (ew ((dr x k).map (am.enc .own)) (x.map (am.enc .own)) i)]),(1,.F .one [I (k+(cb x i:Nat))]),(5,.F .one [I (i:Nat)])]) (λi=>i<=x.length) (λi=>x.length - i) 0 ?_ (N0 _) λi t=>?_
 ·rw[b8,kI]
  repeat'(first|exact trivial|rfl|exact C5 rfl (C5 (O0 I ω) trivial)|refine C5 ?_ ?_)
 have b:=(eH a i).trans (show(x.map (am.enc .own)).length=x.length by simp);by_cases g:i<x.length
 ·obtain⟨y,h⟩ : ∃y,x[i]? = some y:=⟨_,C1 g⟩
  have c:=cy a i (by simp;omega);rw[ab h]at c;have j:=ky x k i y h;have d:=kL x i y h;have e:=mZ x (i+1);rw[d]at e;simp only[am.cnt]at d e
  repeat'(first|refine gE ?_|(conv=>whnf);first|with_reducible (first|refine CH b ?_|refine C6 c ?_)|refine CF rfl rfl c rfl (R0 rfl) rfl ?_|refine CF rfl rfl (aV c) rfl (R0 rfl) rfl ?_|refine CF rfl rfl (aV (aV c)) rfl (R0 rfl) rfl ?_|refine C6 (aV c) ?_|refine C6 (aV (aV c)) ?_|refine C7 (i+1) ω ω ?_)
  repeat'(first|exact trivial|rfl|exact C5 rfl (C5 (O0 (C.s _) (by first|exact bj a (ab j)|(simp only[List.set_set];exact bj a (ab j)))) trivial)|exact C5 rfl (C5 (O0 I (by first|omega|(simp only[am.cnt]at d;omega))) trivial)|refine C5 ?_ ?_)
 repeat'(first|refine gE ?_|(conv=>whnf);first|with_reducible refine CH b ?_|refine CL rfl ?_ ?_)
 ·have n:i=x.length:=ω
  subst n;exact O0 (λz=>[I z]) (by rw[kX])
 rw[cw _ a (by simp;omega)]
 repeat'(first|exact trivial|exact rfl|refine C5 ?_ ?_)
def xC(x:List bg)(k:Int)(l:lV x)(o:0<=k)(q:k+(d6 x:Nat)<=1099511627776):bR Tryz.prog 60 false [.mut none (ee .own x),.val none [I k]] [.mut none (ee .own (eb x k)),.val none []] .one [I (k+(d6 x:Nat))]:=by
 have r:x.length<=1048576:=l.1;have a:((eb x k).map (bg.enc .own)).length=(x.map (bg.enc .own)).length:=by simp[mO]
 refine fM 41 [] [] [(0,0),(0,0)] Tryz.func60 rfl (λu p=>?_)
 repeat'(first|refine gP ?_|fail)
 (conv=>whnf)
 refine C8 (ι:=Nat) (λi=>[(0,.F .one [.s (.tag (u 0 0)) (ew ((eb x k).map (bg.enc .own)) (x.map (bg.enc .own)) i)]),(1,.F .one [I (k+(dl x i:Nat))]),(5,.F .one [I (i:Nat)])]) (λi=>i<=x.length) (λi=>x.length - i) 0 ?_ (N0 _) λi t=>?_
 ·rw[b8,np]
  repeat'(first|exact trivial|rfl|exact C5 rfl (C5 (O0 I ω) trivial)|refine C5 ?_ ?_)
 have c:=(eH a i).trans (show(x.map (bg.enc .own)).length=x.length by simp);by_cases g:i<x.length
 ·obtain⟨y,h⟩ : ∃y,x[i]? = some y:=⟨_,C1 g⟩
  have b:=cy a i (by simp;omega);rw[ab h]at b;have j:=mD x k i y h;have d:=nh x i y h;have e:=qu x (i+1);rw[d]at e;simp only[bg.cnt]at d e
  repeat'(first|refine gE ?_|(conv=>whnf);first|with_reducible (first|refine CH c ?_|refine C6 b ?_)|refine CF rfl rfl b rfl (R0 rfl) rfl ?_|refine CF rfl rfl (aV b) rfl (R0 rfl) rfl ?_|refine CF rfl rfl (aV (aV b)) rfl (R0 rfl) rfl ?_|refine CF rfl rfl (aV (aV (aV b))) rfl (R0 rfl) rfl ?_|refine C6 (aV b) ?_|refine C6 (aV (aV b)) ?_|refine C6 (aV (aV (aV b))) ?_|refine C7 (i+1) ω ω ?_)
  repeat'(first|exact trivial|rfl|exact C5 rfl (C5 (O0 (C.s _) (by first|exact bj a (ab j)|(simp only[List.set_set];exact bj a (ab j)))) trivial)|exact C5 rfl (C5 (O0 I (by first|omega|(simp only[bg.cnt]at d;omega))) trivial)|refine C5 ?_ ?_)
 repeat'(first|refine gE ?_|(conv=>whnf);first|with_reducible refine CH c ?_|refine CL rfl ?_ ?_)
 ·have n:i=x.length:=ω
  subst n;exact O0 (λz=>[I z]) (by rw[oz])
 rw[cw _ a (by simp;omega)]
 repeat'(first|exact trivial|exact rfl|refine C5 ?_ ?_)
def uj(x:List ar)(k:Int)(j:iM x)(o:0<=k)(q:k+(cG x:Nat)<=1099511627776):bR Tryz.prog 61 false [.mut none (cP .own x),.val none [I k]] [.mut none (cP .own (dt x k)),.val none []] .one [I (k+(cG x:Nat))]:=by
 have r:x.length<=1048576:=j.1;have a:((dt x k).map (ar.enc .own)).length=(x.map (ar.enc .own)).length:=by simp[kK]
 refine fM 20 [(159,[1,0])] [] [(0,0),(0,0)] Tryz.func61 rfl (λu p=>?_)
 repeat'(first|refine gP ?_|fail)
 (conv=>whnf)
 refine C8 (ι:=Nat) (λi=>[(0,.F .one [.s (.tag (u 0 0)) (ew ((dt x k).map (ar.enc .own)) (x.map (ar.enc .own)) i)]),(1,.F .one [I (k+(bX x i:Nat))]),(5,.F .one [I (i:Nat)])]) (λi=>i<=x.length) (λi=>x.length - i) 0 ?_ (N0 _) λi t=>?_
 ·rw[b8,kO]
  repeat'(first|exact trivial|rfl|exact C5 rfl (C5 (O0 I ω) trivial)|refine C5 ?_ ?_)
 have b:=(eH a i).trans (show(x.map (ar.enc .own)).length=x.length by simp);by_cases h:i<x.length
 ·obtain⟨y,g⟩ : ∃y,x[i]? = some y:=⟨_,C1 h⟩
  have c:=cy a i (by simp;omega);rw[ab g]at c;have l:=kP x k i y g;have d:=k7 x i y g;have e:=mG x (i+1);rw[d]at e
  repeat'(first|refine gE ?_|(conv=>whnf);first|with_reducible (first|refine CH b ?_|refine C6 c ?_)|refine CM rfl c rfl ?_|refine Lq.one rfl rfl c rfl (O1 _) rfl rfl ?_|refine CE (ke y.W _ (j.2 y (X0 g)) ω (by simp only[ar.cnt]at e;omega)) (.inl rfl) ?_|refine CF rfl rfl (aV c) rfl (O1 _) rfl ?_|refine C6 (aV c) ?_|refine C7 (i+1) ω ω ?_)
  repeat'(first|exact trivial|rfl|exact C5 rfl (C5 (O0 (C.s _) (by first|exact bj a (ab l)|(simp only[List.set_set];exact bj a (ab l)))) trivial)|exact C5 rfl (C5 (O0 I (by first|omega|(simp only[ar.cnt]at d;omega))) trivial)|refine C5 ?_ ?_)
 repeat'(first|refine gE ?_|(conv=>whnf);first|with_reducible refine CH b ?_|refine CL rfl ?_ ?_)
 ·have n:i=x.length:=ω
  subst n;exact O0 (λz=>[I z]) (by rw[lG])
 rw[cw _ a (by simp;omega)]
 repeat'(first|exact trivial|exact rfl|refine C5 ?_ ?_)
def vM(x:List aH)(k:Int)(l:j8 x)(o:0<=k)(q:k+(db x:Nat)<=1099511627776):bR Tryz.prog 221 false [.mut none (bV .own x),.val none [I k]] [.mut none (bV .own (d2 x k)),.val none []] .one [I (k+(db x:Nat))]:=by
 have r:x.length<=1048576:=l.1;have a:((d2 x k).map (aH.enc .own)).length=(x.map (aH.enc .own)).length:=by simp[mg]
 refine fM 27 [] [] [(0,0),(0,0)] Tryz.func221 rfl (λu p=>?_)
 repeat'(first|refine gP ?_|fail)
 (conv=>whnf)
 refine C8 (ι:=Nat) (λi=>[(0,.F .one [.s (.tag (u 0 0)) (ew ((d2 x k).map (aH.enc .own)) (x.map (aH.enc .own)) i)]),(1,.F .one [I (k+(cM x i:Nat))]),(5,.F .one [I (i:Nat)])]) (λi=>i<=x.length) (λi=>x.length - i) 0 ?_ (N0 _) λi t=>?_
 ·rw[b8,lL]
  repeat'(first|exact trivial|rfl|exact C5 rfl (C5 (O0 I ω) trivial)|refine C5 ?_ ?_)
 have b:=(eH a i).trans (show(x.map (aH.enc .own)).length=x.length by simp);by_cases g:i<x.length
 ·obtain⟨y,h⟩ : ∃y,x[i]? = some y:=⟨_,C1 g⟩
  have d:=cy a i (by simp;omega);rw[ab h]at d;have j:=lr x k i y h;have c:=mc x i y h;have e:=nS x (i+1);rw[c]at e;simp only[aH.cnt]at c e
  repeat'(first|refine gE ?_|(conv=>whnf);first|with_reducible (first|refine CH b ?_|refine C6 d ?_)|refine CF rfl rfl d rfl (R0 rfl) rfl ?_|refine CF rfl rfl (aV d) rfl (R0 rfl) rfl ?_|refine C6 (aV d) ?_|refine C7 (i+1) ω ω ?_)
  repeat'(first|exact trivial|rfl|exact C5 rfl (C5 (O0 (C.s _) (by first|exact bj a (ab j)|(simp only[List.set_set];exact bj a (ab j)))) trivial)|exact C5 rfl (C5 (O0 I (by first|omega|(simp only[aH.cnt]at c;omega))) trivial)|refine C5 ?_ ?_)
 repeat'(first|refine gE ?_|(conv=>whnf);first|with_reducible refine CH b ?_|refine CL rfl ?_ ?_)
 ·have n:i=x.length:=ω
  subst n;exact O0 (λz=>[I z]) (by rw[mC])
 rw[cw _ a (by simp;omega)]
 repeat'(first|exact trivial|exact rfl|refine C5 ?_ ?_)
def tV(x:List (List aH))(k:Int)(j:iJ x)(o:0<=k)(q:k+(cR x:Nat)<=1099511627776):bR Tryz.prog 160 false [.mut none (d5 .own x),.val none [I k]] [.mut none (d5 .own (dw x k)),.val none []] .one [I (k+(cR x:Nat))]:=by
 have r:x.length<=1048576:=j.1;have a:((dw x k).map (bV .own)).length=(x.map (bV .own)).length:=by simp[kn]
 refine fM 19 [(221,[1,0])] [] [(0,0),(0,0)] Tryz.func160 rfl (λu p=>?_)
 repeat'(first|refine gP ?_|fail)
 (conv=>whnf)
 refine C8 (ι:=Nat) (λi=>[(0,.F .one [.s (.tag (u 0 0)) (ew ((dw x k).map (bV .own)) (x.map (bV .own)) i)]),(1,.F .one [I (k+(ca x i:Nat))]),(5,.F .one [I (i:Nat)])]) (λi=>i<=x.length) (λi=>x.length - i) 0 ?_ (N0 _) λi t=>?_
 ·rw[b8,ko]
  repeat'(first|exact trivial|rfl|exact C5 rfl (C5 (O0 I ω) trivial)|refine C5 ?_ ?_)
 have b:=(eH a i).trans (show(x.map (bV .own)).length=x.length by simp);by_cases e:i<x.length
 ·obtain⟨y,d⟩ : ∃y,x[i]? = some y:=⟨_,C1 e⟩
  have c:=cy a i (by simp;omega);rw[ab d]at c;have l:=kC x k i y d;have g:=kz x i y d;have h:=mF x (i+1);rw[g]at h
  repeat'(first|refine gE ?_|(conv=>whnf);first|with_reducible (first|refine CH b ?_|refine C6 c ?_)|refine CM rfl c rfl ?_|refine Lq.one rfl rfl c rfl (O1 _) rfl rfl ?_|refine CE (vM y _ (j.2 y (X0 d)) ω ω) (.inl rfl) ?_|refine CF rfl rfl (aV c) rfl (O1 _) rfl ?_|refine C6 (aV c) ?_|refine C7 (i+1) ω ω ?_)
  repeat'(first|exact trivial|rfl|exact C5 rfl (C5 (O0 (C.s _) (by first|exact bj a (ab l)|(simp only[List.set_set];exact bj a (ab l)))) trivial)|exact C5 rfl (C5 (O0 I ω) trivial)|refine C5 ?_ ?_)
 repeat'(first|refine gE ?_|(conv=>whnf);first|with_reducible refine CH b ?_|refine CL rfl ?_ ?_)
 ·have n:i=x.length:=ω
  subst n;exact O0 (λz=>[I z]) (by rw[lz])
 rw[cw _ a (by simp;omega)]
 repeat'(first|exact trivial|exact rfl|refine C5 ?_ ?_)
def wX(x:aI)(k:Int)(a:aI.sml x)(e:0<=k)(b:k+(aI.cnt x:Nat)<=1099511627776):bR Tryz.prog 62 false [.mut (some 2) (aI.enc .own x),.val none [I k]] [.mut (some 2) (aI.enc .own (x.mark k)),.val none []] .one [I (k+(aI.cnt x:Nat))]:=by
 obtain⟨c,d⟩:=a;unfold aI.cnt at b;refine fM 14 [(160,[1,0]),(159,[1,0])] [] [(2,0),(0,0)] Tryz.func62 rfl (λu p=>?_)
 repeat'(first|refine gP ?_|(conv=>whnf);first|refine CE (tV x.Q _ c ω ω) (.inl rfl) ?_|refine CE (ke x.e _ d ω ω) (.inl rfl) ?_|refine CL rfl ?_ ?_)
 ·exact O0 (λz=>[I z]) (by unfold aI.cnt;omega)
 repeat'(first|exact trivial|exact rfl|refine C5 ?_ ?_)
def tH(x:List ay)(k:Int)(l:dS x)(o:0<=k)(q:k+(dy x:Nat)<=1099511627776):bR Tryz.prog 161 false [.mut none (bO .own x),.val none [I k]] [.mut none (bO .own (du x k)),.val none []] .one [I (k+(dy x:Nat))]:=by
 have r:x.length<=1048576:=l.1;have a:((du x k).map (ay.enc .own)).length=(x.map (ay.enc .own)).length:=by simp[kq]
 refine fM 34 [] [] [(0,0),(0,0)] Tryz.func161 rfl (λu p=>?_)
 repeat'(first|refine gP ?_|fail)
 (conv=>whnf)
 refine C8 (ι:=Nat) (λi=>[(0,.F .one [.s (.tag (u 0 0)) (ew ((du x k).map (ay.enc .own)) (x.map (ay.enc .own)) i)]),(1,.F .one [I (k+(bZ x i:Nat))]),(5,.F .one [I (i:Nat)])]) (λi=>i<=x.length) (λi=>x.length - i) 0 ?_ (N0 _) λi t=>?_
 ·rw[b8,kr]
  repeat'(first|exact trivial|rfl|exact C5 rfl (C5 (O0 I ω) trivial)|refine C5 ?_ ?_)
 have b:=(eH a i).trans (show(x.map (ay.enc .own)).length=x.length by simp);by_cases g:i<x.length
 ·obtain⟨y,h⟩ : ∃y,x[i]? = some y:=⟨_,C1 g⟩
  have c:=cy a i (by simp;omega);rw[ab h]at c;have j:=kv x k i y h;have d:=kF x i y h;have e:=mS x (i+1);rw[d]at e;simp only[ay.cnt]at d e
  repeat'(first|refine gE ?_|(conv=>whnf);first|with_reducible (first|refine CH b ?_|refine C6 c ?_)|refine CF rfl rfl c rfl (R0 rfl) rfl ?_|refine CF rfl rfl (aV c) rfl (R0 rfl) rfl ?_|refine CF rfl rfl (aV (aV c)) rfl (R0 rfl) rfl ?_|refine C6 (aV c) ?_|refine C6 (aV (aV c)) ?_|refine C7 (i+1) ω ω ?_)
  repeat'(first|exact trivial|rfl|exact C5 rfl (C5 (O0 (C.s _) (by first|exact bj a (ab j)|(simp only[List.set_set];exact bj a (ab j)))) trivial)|exact C5 rfl (C5 (O0 I (by first|omega|(simp only[ay.cnt]at d;omega))) trivial)|refine C5 ?_ ?_)
 repeat'(first|refine gE ?_|(conv=>whnf);first|with_reducible refine CH b ?_|refine CL rfl ?_ ?_)
 ·have n:i=x.length:=ω
  subst n;exact O0 (λz=>[I z]) (by rw[mf])
 rw[cw _ a (by simp;omega)]
 repeat'(first|exact trivial|exact rfl|refine C5 ?_ ?_)
def yp(x:aT)(k:Int)(a:aT.sml x)(d:0<=k)(b:k+(aT.cnt x:Nat)<=1099511627776):bR Tryz.prog 63 false [.mut (some 2) (aT.enc .own x),.val none [I k]] [.mut (some 2) (aT.enc .own (x.mark k)),.val none []] .one [I (k+(aT.cnt x:Nat))]:=by
 have c:=a;unfold aT.cnt at b;refine fM 10 [(161,[1,0])] [] [(2,0),(0,0)] Tryz.func63 rfl (λu p=>?_)
 repeat'(first|refine gP ?_|(conv=>whnf);first|refine CE (tH x.d _ c ω ω) (.inl rfl) ?_|refine CL rfl ?_ ?_)
 ·exact O0 (λz=>[I z]) (by unfold aT.cnt;omega)
 repeat'(first|exact trivial|exact rfl|refine C5 ?_ ?_)
def yv(x:bf)(k:Int)(a:bf.sml x)(d:0<=k)(b:k+(bf.cnt x:Nat)<=1099511627776):bR Tryz.prog 162 false [.mut (some 3) (bf.enc .own x),.val none [I k]] [.mut (some 3) (bf.enc .own (x.mark k)),.val none []] .one [I (k+(bf.cnt x:Nat))]:=by
 have c:=a;unfold bf.cnt at b;refine fM 10 [(158,[1,0])] [] [(2,0),(0,0)] Tryz.func162 rfl (λu p=>?_)
 repeat'(first|refine gP ?_|(conv=>whnf);first|refine CE (kW x.V _ c ω ω) (.inl rfl) ?_|refine CL rfl ?_ ?_)
 ·exact O0 (λz=>[I z]) (by unfold bf.cnt;omega)
 repeat'(first|exact trivial|exact rfl|refine C5 ?_ ?_)
def zw(x:bA)(k:Int)(a:bA.sml x)(d:0<=k)(b:k+(bA.cnt x:Nat)<=1099511627776):bR Tryz.prog 64 false [.mut (some 5) (bA.enc .own x),.val none [I k]] [.mut (some 5) (bA.enc .own (x.mark k)),.val none []] .one [I (k+(bA.cnt x:Nat))]:=by
 have c:=a;unfold bA.cnt at b;refine fM 10 [(162,[1,0])] [] [(2,0),(0,0)] Tryz.func64 rfl (λu p=>?_)
 repeat'(first|refine gP ?_|(conv=>whnf);first|refine CE (yv x.h _ c ω ω) (.inl rfl) ?_|refine CL rfl ?_ ?_)
 ·exact O0 (λz=>[I z]) (by unfold bA.cnt;omega)
 repeat'(first|exact trivial|exact rfl|refine C5 ?_ ?_)
def y4(x:ac)(k:Int)(a:ac.sml x)(o:0<=k)(b:k+(ac.cnt x:Nat)<=1099511627776):bR Tryz.prog 11 false [.mut (some 24) (ac.enc .own x),.val none [I k]] [.mut (some 24) (ac.enc .own (x.mark k)),.val none []] .one [I (k+(ac.cnt x:Nat))]:=by
 obtain⟨c,d,e,g,h,i,j,l,n⟩:=a;unfold ac.cnt at b;refine fM 42 [(64,[1,0]),(56,[1,0]),(62,[1,0]),(63,[1,0]),(61,[1,0]),(59,[1,0]),(60,[1,0]),(57,[1,0]),(58,[1,0])] [] [(2,0),(0,0)] Tryz.func11 rfl (λu p=>?_)
 repeat'(first|refine gP ?_|(conv=>whnf);first|refine CE (tO x.X _ c ω ω) (.inl rfl) ?_|refine CE (t7 x.p _ d ω ω) (.inl rfl) ?_|refine CE (vo x.G _ e ω ω) (.inl rfl) ?_|refine CE (ui x.J _ g ω ω) (.inl rfl) ?_|refine CE (xC x.S _ h ω ω) (.inl rfl) ?_|refine CE (uj x.O _ i ω ω) (.inl rfl) ?_|refine CE (wX x.Y _ j ω ω) (.inl rfl) ?_|refine CE (yp x.b _ l ω ω) (.inl rfl) ?_|refine CE (zw x.r _ n ω ω) (.inl rfl) ?_|refine CL rfl ?_ ?_)
 ·exact O0 (λz=>[I z]) (by unfold ac.cnt;omega)
 repeat'(first|exact trivial|exact rfl|refine C5 ?_ ?_)
def Gf{h:ac}(c:ac.sml h):(Hl h).length<=4194304:=by
 obtain⟨-,-,a,b,-⟩:=c;have d:h.G.length<=1048576:=a.1;have e:h.J.length<=1048576:=b.1;unfold Hl;split
 ·have:=vY h h.J.length;omega
 exact N0 _
def FormatHeap_law(h:ac)(c:ac.wf h):af Tryz.prog 3 false [.val (some 24) (ac.enc .H h)] .one [B true]:=by
 by_cases j:(ac.sz h:Int)<=1048576
 ·have b:=ac.sml_of (x:=h) ω
  have k:=ac.cnt_le h;have e:=qH h b c;have g:=qL h b c;have d:=Gf b;generalize Hl h=t at *;have i:oK t<=4194304:=d;refine fP 69 [(11,[1,0]),(12,[1,0])] [(10,3,[27,28,29])] Tryz.func3 rfl ?_
  repeat'(first|refine gE ?_|(conv=>whnf);first|with_reducible (first|refine Bf.D (λa=>?_) (λa=>absurd rfl a)|refine Bf.N (λa=>absurd rfl a) (λa=>?_))|refine CK (uw h _ ω ω c) (λa=>absurd a ω) (λa=>?_)|refine C4 (Dj h b) ?_|refine Cl.eq (e) ⟨⟨rfl,ac.enc_fz h⟩,trivial⟩ ?_|refine Cl.eq (g) ⟨⟨rfl,ac.enc_fz h⟩,trivial⟩ ?_|refine Cl.eq (tf t d) ⟨⟨rfl,rO t⟩,⟨rfl,rO t⟩,trivial⟩ ?_|refine Cl.eq (B8 h h b) ⟨⟨rfl,ac.enc_fz h⟩,⟨rfl,ac.enc_fz h⟩,trivial⟩ ?_|refine CE (y4 h 1 b ω ω) (.inl rfl) ?_|refine CE (rh t 1 d ω ω) (.inl rfl) ?_|refine Cl.eq (rQ t 1 d ω ω) ⟨⟨rfl,rO (qO t 1)⟩,⟨rfl,rfl⟩,trivial⟩ ?_)
  all_goals rfl
 refine fO 69 [(10,3,[27,28,29])] Tryz.func3 rfl ?_
 repeat'(first|refine gE ?_|(conv=>whnf);first|refine CK (uw h _ ω ω c) (λa=>?_) (λa=>absurd a ω))
 rfl
open Go.RowKit Go.ChangeShapes Go.WideShapes Go.Deep
def ALL(w:World):aa:=λb _=>b<w.heap.size
def kT{H:Type}(e:TypeId × Value->H)(P:Program)(w:World)(t n:Nat){α:Type}(enc:α->List C)(c:α->Prop):Prop:=
 ∀(fuel:Nat)(b:List Value)(x:DataW H × List MemPlace),DataW.trod e P w 0 (λ_=>true) true fuel t b=some x->b.length=n/\∃a,c a/\(enc a).length=n/\bH w (ALL w) NO (enc a) (λj=>b.getD j undef)
section
variable{H:Type}{e:TypeId × Value->H}{P:Program}{w:World}
def ra{S F:aa}{c:C}{u:Nat->Value}(h:cF w S F c (u 0)):bH w S F [c] u:=
 ⟨λ_=>F,λj e a=>by cases j with
   | zero=>simp at a;subst a;exact h
   | succ j=>simp at a,λ_ _ _ _ h=>h,λj f a b d=>by simp at a b;omega⟩
def Hr{t:Nat}(b:P.underlying t=some (.int .i64)):kT e P w t 1 (rI .H) gS:=by
 intro fuel c x h;obtain⟨n,rfl,-,a⟩:=DataW.trod_int b h;refine⟨rfl,n,?_,rfl,ra (.v _ _ rfl)⟩;unfold gS;simp only[Lit.wf,I0,C0]at a;exact a
def FT{t:Nat}(a:P.underlying t=some .bool):kT e P w t 1 (rB .H) Jw:=by
 intro fuel c x h;obtain⟨b,rfl,-⟩:=DataW.trod_bool a h;exact⟨rfl,b,trivial,rfl,ra (.v _ _ rfl)⟩
def pick{α β:Type}(n:Nat){Q:Nat->β->Prop}(h:∀i,i<n->∃b,Q i b):∃l:List β,l.length=n/\∀i b,l[i]? = some b->Q i b:=by
 induction n with
 | zero=>exact⟨[],rfl,λi b h=>by simp at h⟩
 | succ n c=>
  obtain⟨l,d,e⟩:=c λi a=>h i ω
  obtain⟨b,f⟩:=h n ω;refine⟨l++[b],by simp[d],λi g a=>?_⟩;by_cases j:i<n
  ·rw[L2 ω]at a;exact e i g a
  rw[M2 ω]at a;have:i - l.length=0:=by
   have:=(I1.1 a).1;simp at this;omega
  rw[this]at a;simp at a;subst a;rw[show i=n by omega];exact f
theorem dY{t T n:Nat}{α:Type}{enc:α->List C}{U:α->Prop}(V:kT e P w T n enc U)(ht:P.underlying t=some (.slice T))(hn:P.cellsOf T=n)(p:0<n) :
  kT e P w t 1 (λxs:List α=>[.s .H (xs.map enc)]) (λxs=>xs.length<=9223372036854775807/\∀y∈xs,U y):=by
 intro fuel cs x h;rcases open_slice ht h with⟨rfl,-⟩|⟨k,len,cap,m,n',D,Pl,rfl,-,hl,hm,K,-,u⟩
 ·exact⟨rfl,[],⟨by simp,by simp⟩,rfl,ra (.nil _ _ _ trivial)⟩
 simp only[if_true]at K;subst K;have L:0<m->k.spot=none:=λW=>by
  obtain⟨E,M,N⟩:=u 0 W;rw[hn]at M;obtain⟨_,X,F⟩:=World.cells?_some M;have:=F 0 p;rw[C1 ω]at this;have:=World.cell?_spot this;simpa[Addr.add] using this
 have key:∀i,i<len->∃a,U a/\(enc a).length=n/\(∀d,d<n->∃z,cel w k.block (k.off+(i*n+d))=some z)/\k.spot=none/\bH w (ALL w) NO (enc a) (λd=>(cel w k.block (k.off+(i*n+d))).getD undef):=λi hil=>by
  have g:=L ω;obtain⟨E,M,N⟩:=u i ω;rw[hn]at M;obtain⟨h1,a,h3,h4,h5⟩:=V _ _ _ N;obtain⟨_,X,F⟩:=World.cells?_some M;have O:∀d,k.add d = ⟨k.block,k.off+d,none⟩:=λd=>by
   obtain⟨b,o,sp⟩:=k;simp only at g;subst g;unfold Addr.add;split<;>simp_all
  have A:∀d,d<n->cel w k.block (k.off+(i*n+d))=E[d]?:=λd J=>by
   have:=F d J;rw[Go.Deep.add_add,O]at this;exact this
  refine⟨a,h3,h4,λd J=>⟨_,by rw[A d J,C1 ω]⟩,g,h5.congr λd J=>?_⟩;show(cel w k.block (k.off+(i*n+d))).getD undef=E.getD d undef;rw[A d ω,List.getD]
 obtain⟨l,Q,B⟩:=pick (α:=α) len key;refine⟨rfl,l,⟨by simp only[maxLen]at hm;omega,λy R=>?_⟩,rfl,ra ?_⟩
 ·obtain⟨i,G⟩:=List.mem_iff_getElem?.1 R
  exact(B i y G).1
 show cF w (ALL w) NO (.s .H (l.map enc)) (.slice (some k) len m);by_cases h0:len=0
 ·subst h0
  have:l=[]:=T3 Q;subst this;by_cases Y:m=0
  ·subst Y;exact .nil _ _ _ trivial
  have g:=L ω;obtain⟨b,o,sp⟩:=k;simp only at g;subst g;exact .H _ b o n 0 m [] (λ_=>undef) rfl (λr Z=>by simp at Z) hl (λq hq=>by simp at hq) (λi j r c u=>by simp at u)
 obtain⟨y0,hy0⟩ : ∃y,l[0]? = some y:=⟨_,C1 ω⟩
 have g:=(B 0 y0 hy0).2.2.2.1;obtain⟨b,o,sp⟩:=k;simp only at g;subst g;refine .H _ b o n len m (l.map enc) (λq=>(cel w b (o+q)).getD undef) (by simpa using Q) (λr Z=>?_) hl (λq hq=>?_) (λi j r c u hj=>?_)
 ·obtain⟨y,R,rfl⟩:=C2.1 Z
  obtain⟨i,G⟩:=List.mem_iff_getElem?.1 R;exact(B i y G).2.1
 ·have hqd:q / n<len:=(Nat.div_lt_iff_lt_mul p).2 hq
  obtain⟨y,R⟩ : ∃y,l[q / n]? = some y:=⟨_,C1 ω⟩
  obtain⟨z,S⟩:=(B _ y R).2.2.1 (q % n) (Nat.mod_lt _ p);have J:q / n*n+q % n=q:=by rw[Nat.mul_comm];exact Nat.div_add_mod q n
  rw[J]at S;exact⟨Hm S,by simp only at S |-;rw[S];rfl⟩
 rw[P1]at u;cases H:l[i]? with
 | none=>rw[H]at u;cases u
 | some y=>
  rw[H]at u;simp only[Q2,P0]at u;subst u;obtain⟨f,h1,h2,-⟩:=(B i y H).2.2.2.2;have hjl:=(I1.1 hj).1;exact(h1 j c hj).mono (λ_ _ h=>h) (h2 j hjl)
def aM{t:Nat}{fs:Array Field}{fuel:Nat}{cs:List Value}{x:DataW H × List MemPlace}(l:P.underlying t=some (.struct fs))(h:DataW.trod e P w 0 (λ_=>true) true fuel t cs=some x)(i:Nat)(f:Field)(d:fs[i]? = some f){n:Nat}{α:Type}{enc:α->List C}{g:α->Prop}(o:kT e P w f.type n enc g)(p:P.cellsOf f.type=n):∃a,g a/\(enc a).length=n/\bH w (ALL w) NO (enc a) (λj=>cs.getD (f.offset+j) undef):=by
 obtain⟨B,D,q,E,k,r,b⟩:=DataW.trod_struct l h;have c:=b i f d;have F:=(R1.1 d).1;rw[C1 ω]at c;rw[p]at c;obtain⟨G,a,u,y,A⟩:=o _ _ _ c;refine⟨a,u,y,A.congr λj J=>?_⟩;simp only[List.getD];rw[List.getElem?_take_of_lt ω,List.getElem?_drop]
def bM{cs:List Value}{a b:List C}{o:Nat}(d:bH w (ALL w) NO a (λj=>cs.getD (o+j) undef))(e:bH w (ALL w) NO b (λj=>cs.getD (o+a.length+j) undef)):bH w (ALL w) NO (a++b) (λj=>cs.getD (o+j) undef):=by
 refine((rm d e λ_ _ h=>h.elim).mono (λ_ _ h=>h) (λ_ _ h=>h.elim id id)).congr λj f=>?_
 by_cases c:j<a.length
 ·rw[CA c]
 rw[C9 c];show cs.getD (o+j) undef=cs.getD (o+a.length+(j - a.length)) undef
 congr 1;omega
def valOk_agg{S:aa}{cs:Array Value}{n:Nat}{xs:List C}(a:cs.toList.length=n)(b:xs.length=n)(c:bH w S NO xs (λj=>cs.toList.getD j undef)):aX w S NO (some n) xs (.agg cs):=by
 refine⟨b,_,?_,c⟩;have:=jS cs;rw[show cs.size=n by simpa using a]at this;exact this
def row_val{S F:aa}{x:Value}{u:Nat->Value}(h:bH w S F [.v x] u):u 0=x:=by
 obtain⟨f,a,-⟩:=h;have:=a 0 _ rfl;cases this
 rfl
end
set_option maxHeartbeats 1000000
section
variable{H:Type}{e:TypeId × Value->H}{w:World}
def cL:kT e Tryz.prog w 3 1 (rI .H) gS:=Hr Tryz.underlying3
def AI:kT e Tryz.prog w 4 1 (rB .H) Jw:=FT Tryz.underlying4
def vT:kT e Tryz.prog w 31 1 (aK .H) ri:=dY cL Tryz.underlying31 (by kernel_rfl) (by decide)
def rH:kT e Tryz.prog w 22 1 (dn .H) nU:=dY vT Tryz.underlying22 (by kernel_rfl) (by decide)
def E5:kT e Tryz.prog w 23 1 (fC .H) wb:=dY AI Tryz.underlying23 (by kernel_rfl) (by decide)
def Ah:kT e Tryz.prog w 25 2 (aC.enc .H) aC.wf:=by
 intro fuel c x h;obtain⟨k,l,-,-,a,-⟩:=DataW.trod_struct Tryz.underlying25 h;obtain⟨d,w0,n,f⟩:=aM Tryz.underlying25 h 0 _ rfl rH (by kernel_rfl);obtain⟨g,w1,o,i⟩:=aM Tryz.underlying25 h 1 _ rfl E5 (by kernel_rfl);have b:=(bM f i)
 exact⟨a.trans (by kernel_rfl),⟨d,g⟩,⟨w0,w1⟩,rfl,b.congr λj _=>by show c.getD j undef=c.getD (0+j) undef;rw[O3]⟩
def BI:kT e Tryz.prog w 327 2 (aD.enc .H) aD.wf:=by
 intro fuel c x h;obtain⟨k,l,-,-,a,-⟩:=DataW.trod_struct Tryz.underlying327 h;obtain⟨d,w0,n,f⟩:=aM Tryz.underlying327 h 0 _ rfl cL (by kernel_rfl);obtain⟨g,w1,o,i⟩:=aM Tryz.underlying327 h 1 _ rfl cL (by kernel_rfl);have b:=(bM f i)
 exact⟨a.trans (by kernel_rfl),⟨d,g⟩,⟨w0,w1⟩,rfl,b.congr λj _=>by show c.getD j undef=c.getD (0+j) undef;rw[O3]⟩
def yX:kT e Tryz.prog w 26 1 (d4 .H) pa:=dY BI Tryz.underlying26 (by kernel_rfl) (by decide)
def Bz:kT e Tryz.prog w 28 1 (az.enc .H) az.wf:=by
 intro fuel c x h;obtain⟨g,i,-,-,a,-⟩:=DataW.trod_struct Tryz.underlying28 h;obtain⟨d,w0,k,f⟩:=aM Tryz.underlying28 h 0 _ rfl yX (by kernel_rfl);have b:=f;exact⟨a.trans (by kernel_rfl),⟨d⟩,w0,rfl,b.congr λj _=>by show c.getD j undef=c.getD (0+j) undef;rw[O3]⟩
def xo:kT e Tryz.prog w 30 3 (aB.enc .H) aB.wf:=by
 intro fuel c x h;obtain⟨k,l,-,-,a,-⟩:=DataW.trod_struct Tryz.underlying30 h;obtain⟨d,w0,n,f⟩:=aM Tryz.underlying30 h 0 _ rfl Ah (by kernel_rfl);obtain⟨g,w1,o,i⟩:=aM Tryz.underlying30 h 1 _ rfl Bz (by kernel_rfl);have b:=(bM f i)
 exact⟨a.trans (by kernel_rfl),⟨d,g⟩,⟨w0,w1⟩,rfl,b.congr λj _=>by show c.getD j undef=c.getD (0+j) undef;rw[O3]⟩
def Ac:kT e Tryz.prog w 33 5 (au.enc .H) au.wf:=by
 intro fuel c x h;obtain⟨o,p,-,-,a,-⟩:=DataW.trod_struct Tryz.underlying33 h;obtain⟨d,w0,q,f⟩:=aM Tryz.underlying33 h 0 _ rfl xo (by kernel_rfl);obtain⟨g,w1,r,i⟩:=aM Tryz.underlying33 h 1 _ rfl cL (by kernel_rfl);obtain⟨k,l,u,n⟩:=aM Tryz.underlying33 h 2 _ rfl vT (by kernel_rfl);have b:=(bM f (bM i n))
 exact⟨a.trans (by kernel_rfl),⟨d,g,k⟩,⟨w0,w1,l⟩,rfl,b.congr λj _=>by show c.getD j undef=c.getD (0+j) undef;rw[O3]⟩
def BN:kT e Tryz.prog w 189 2 (aA.enc .H) aA.wf:=by
 intro fuel c x h;obtain⟨k,l,-,-,a,-⟩:=DataW.trod_struct Tryz.underlying189 h;obtain⟨d,w0,n,f⟩:=aM Tryz.underlying189 h 0 _ rfl cL (by kernel_rfl);obtain⟨g,w1,o,i⟩:=aM Tryz.underlying189 h 1 _ rfl cL (by kernel_rfl);have b:=(bM f i)
 exact⟨a.trans (by kernel_rfl),⟨d,g⟩,⟨w0,w1⟩,rfl,b.congr λj _=>by show c.getD j undef=c.getD (0+j) undef;rw[O3]⟩
def Aj:kT e Tryz.prog w 34 1 (bQ .H) pF:=dY BN Tryz.underlying34 (by kernel_rfl) (by decide)
def EW:kT e Tryz.prog w 191 3 (ah.enc .H) ah.wf:=by
 intro fuel c x h;obtain⟨o,p,-,-,a,-⟩:=DataW.trod_struct Tryz.underlying191 h;obtain⟨d,w0,q,f⟩:=aM Tryz.underlying191 h 0 _ rfl cL (by kernel_rfl);obtain⟨g,w1,r,i⟩:=aM Tryz.underlying191 h 1 _ rfl cL (by kernel_rfl);obtain⟨k,l,u,n⟩:=aM Tryz.underlying191 h 2 _ rfl cL (by kernel_rfl);have b:=(bM f (bM i n))
 exact⟨a.trans (by kernel_rfl),⟨d,g,k⟩,⟨w0,w1,l⟩,rfl,b.congr λj _=>by show c.getD j undef=c.getD (0+j) undef;rw[O3]⟩
def B4:kT e Tryz.prog w 35 1 (bi .H) rx:=dY EW Tryz.underlying35 (by kernel_rfl) (by decide)
def BG:kT e Tryz.prog w 193 3 (am.enc .H) am.wf:=by
 intro fuel c x h;obtain⟨o,p,-,-,a,-⟩:=DataW.trod_struct Tryz.underlying193 h;obtain⟨d,w0,q,f⟩:=aM Tryz.underlying193 h 0 _ rfl cL (by kernel_rfl);obtain⟨g,w1,r,i⟩:=aM Tryz.underlying193 h 1 _ rfl cL (by kernel_rfl);obtain⟨k,l,u,n⟩:=aM Tryz.underlying193 h 2 _ rfl cL (by kernel_rfl);have b:=(bM f (bM i n))
 exact⟨a.trans (by kernel_rfl),⟨d,g,k⟩,⟨w0,w1,l⟩,rfl,b.congr λj _=>by show c.getD j undef=c.getD (0+j) undef;rw[O3]⟩
def Ae:kT e Tryz.prog w 36 1 (aP .H) ph:=dY BG Tryz.underlying36 (by kernel_rfl) (by decide)
def Gh:kT e Tryz.prog w 195 4 (bg.enc .H) bg.wf:=by
 intro fuel c x h;obtain⟨r,u,-,-,a,-⟩:=DataW.trod_struct Tryz.underlying195 h;obtain⟨d,w0,y,f⟩:=aM Tryz.underlying195 h 0 _ rfl cL (by kernel_rfl);obtain⟨g,w1,B,i⟩:=aM Tryz.underlying195 h 1 _ rfl cL (by kernel_rfl);obtain⟨k,l,C,n⟩:=aM Tryz.underlying195 h 2 _ rfl cL (by kernel_rfl);obtain⟨o,p,D,q⟩:=aM Tryz.underlying195 h 3 _ rfl cL (by kernel_rfl);have b:=(bM f (bM i (bM n q)))
 exact⟨a.trans (by kernel_rfl),⟨d,g,k,o⟩,⟨w0,w1,l,p⟩,rfl,b.congr λj _=>by show c.getD j undef=c.getD (0+j) undef;rw[O3]⟩
def E8:kT e Tryz.prog w 37 1 (ee .H) wm:=dY Gh Tryz.underlying37 (by kernel_rfl) (by decide)
def BT:kT e Tryz.prog w 164 1 (ar.enc .H) ar.wf:=by
 intro fuel c x h;obtain⟨g,i,-,-,a,-⟩:=DataW.trod_struct Tryz.underlying164 h;obtain⟨d,w0,k,f⟩:=aM Tryz.underlying164 h 0 _ rfl rH (by kernel_rfl);have b:=f;exact⟨a.trans (by kernel_rfl),⟨d⟩,w0,rfl,b.congr λj _=>by show c.getD j undef=c.getD (0+j) undef;rw[O3]⟩
def zP:kT e Tryz.prog w 38 1 (cP .H) pp:=dY BT Tryz.underlying38 (by kernel_rfl) (by decide)
def Ff:kT e Tryz.prog w 296 2 (aH.enc .H) aH.wf:=by
 intro fuel c x h;obtain⟨k,l,-,-,a,-⟩:=DataW.trod_struct Tryz.underlying296 h;obtain⟨d,w0,n,f⟩:=aM Tryz.underlying296 h 0 _ rfl cL (by kernel_rfl);obtain⟨g,w1,o,i⟩:=aM Tryz.underlying296 h 1 _ rfl cL (by kernel_rfl);have b:=(bM f i)
 exact⟨a.trans (by kernel_rfl),⟨d,g⟩,⟨w0,w1⟩,rfl,b.congr λj _=>by show c.getD j undef=c.getD (0+j) undef;rw[O3]⟩
def BU:kT e Tryz.prog w 248 1 (bV .H) ru:=dY Ff Tryz.underlying248 (by kernel_rfl) (by decide)
def zt:kT e Tryz.prog w 39 1 (d5 .H) pm:=dY BU Tryz.underlying39 (by kernel_rfl) (by decide)
def ES:kT e Tryz.prog w 41 2 (aI.enc .H) aI.wf:=by
 intro fuel c x h;obtain⟨k,l,-,-,a,-⟩:=DataW.trod_struct Tryz.underlying41 h;obtain⟨d,w0,n,f⟩:=aM Tryz.underlying41 h 0 _ rfl zt (by kernel_rfl);obtain⟨g,w1,o,i⟩:=aM Tryz.underlying41 h 1 _ rfl rH (by kernel_rfl);have b:=(bM f i)
 exact⟨a.trans (by kernel_rfl),⟨d,g⟩,⟨w0,w1⟩,rfl,b.congr λj _=>by show c.getD j undef=c.getD (0+j) undef;rw[O3]⟩
def By:kT e Tryz.prog w 264 3 (ay.enc .H) ay.wf:=by
 intro fuel c x h;obtain⟨o,p,-,-,a,-⟩:=DataW.trod_struct Tryz.underlying264 h;obtain⟨d,w0,q,f⟩:=aM Tryz.underlying264 h 0 _ rfl cL (by kernel_rfl);obtain⟨g,w1,r,i⟩:=aM Tryz.underlying264 h 1 _ rfl cL (by kernel_rfl);obtain⟨k,l,u,n⟩:=aM Tryz.underlying264 h 2 _ rfl cL (by kernel_rfl);have b:=(bM f (bM i n))
 exact⟨a.trans (by kernel_rfl),⟨d,g,k⟩,⟨w0,w1,l⟩,rfl,b.congr λj _=>by show c.getD j undef=c.getD (0+j) undef;rw[O3]⟩
def zg:kT e Tryz.prog w 42 1 (bO .H) pA:=dY By Tryz.underlying42 (by kernel_rfl) (by decide)
def E6:kT e Tryz.prog w 44 2 (aT.enc .H) aT.wf:=by
 intro fuel c x h;obtain⟨k,l,-,-,a,-⟩:=DataW.trod_struct Tryz.underlying44 h;obtain⟨d,w0,n,f⟩:=aM Tryz.underlying44 h 0 _ rfl cL (by kernel_rfl);obtain⟨g,w1,o,i⟩:=aM Tryz.underlying44 h 1 _ rfl zg (by kernel_rfl);have b:=(bM f i)
 exact⟨a.trans (by kernel_rfl),⟨d,g⟩,⟨w0,w1⟩,rfl,b.congr λj _=>by show c.getD j undef=c.getD (0+j) undef;rw[O3]⟩
def Fi:kT e Tryz.prog w 46 3 (bf.enc .H) bf.wf:=by
 intro fuel c x h;obtain⟨o,p,-,-,a,-⟩:=DataW.trod_struct Tryz.underlying46 h;obtain⟨d,w0,q,f⟩:=aM Tryz.underlying46 h 0 _ rfl cL (by kernel_rfl);obtain⟨g,w1,r,i⟩:=aM Tryz.underlying46 h 1 _ rfl cL (by kernel_rfl);obtain⟨k,l,u,n⟩:=aM Tryz.underlying46 h 2 _ rfl vT (by kernel_rfl);have b:=(bM f (bM i n))
 exact⟨a.trans (by kernel_rfl),⟨d,g,k⟩,⟨w0,w1,l⟩,rfl,b.congr λj _=>by show c.getD j undef=c.getD (0+j) undef;rw[O3]⟩
def G5:kT e Tryz.prog w 48 5 (bA.enc .H) bA.wf:=by
 intro fuel c x h;obtain⟨o,p,-,-,a,-⟩:=DataW.trod_struct Tryz.underlying48 h;obtain⟨d,w0,q,f⟩:=aM Tryz.underlying48 h 0 _ rfl Fi (by kernel_rfl);obtain⟨g,w1,r,i⟩:=aM Tryz.underlying48 h 1 _ rfl cL (by kernel_rfl);obtain⟨k,l,u,n⟩:=aM Tryz.underlying48 h 2 _ rfl cL (by kernel_rfl);have b:=(bM f (bM i n))
 exact⟨a.trans (by kernel_rfl),⟨d,g,k⟩,⟨w0,w1,l⟩,rfl,b.congr λj _=>by show c.getD j undef=c.getD (0+j) undef;rw[O3]⟩
def op_DHeap:kT e Tryz.prog w 50 24 (ac.enc .H) ac.wf:=by
 intro fuel c x h;obtain⟨R,S,-,-,a,-⟩:=DataW.trod_struct Tryz.underlying50 h;obtain⟨d,w0,T,f⟩:=aM Tryz.underlying50 h 0 _ rfl Ac (by kernel_rfl);obtain⟨g,w1,U,i⟩:=aM Tryz.underlying50 h 1 _ rfl Aj (by kernel_rfl);obtain⟨k,l,V,n⟩:=aM Tryz.underlying50 h 2 _ rfl B4 (by kernel_rfl);obtain⟨o,p,W,q⟩:=aM Tryz.underlying50 h 3 _ rfl Ae (by kernel_rfl);obtain⟨r,u,X,y⟩:=aM Tryz.underlying50 h 4 _ rfl E8 (by kernel_rfl);obtain⟨B,C,Y,D⟩:=aM Tryz.underlying50 h 5 _ rfl zP (by kernel_rfl);obtain⟨E,F,Z,G⟩:=aM Tryz.underlying50 h 6 _ rfl ES (by kernel_rfl);obtain⟨H,J,l7,K⟩:=aM Tryz.underlying50 h 7 _ rfl E6 (by kernel_rfl);obtain⟨L,M,l8,N⟩:=aM Tryz.underlying50 h 8 _ rfl cL (by kernel_rfl);obtain⟨O,P,l9,Q⟩:=aM Tryz.underlying50 h 9 _ rfl cL (by kernel_rfl);obtain⟨a10,w10,l10,r10⟩:=aM Tryz.underlying50 h 10 _ rfl cL (by kernel_rfl);obtain⟨a11,w11,l11,r11⟩:=aM Tryz.underlying50 h 11 _ rfl cL (by kernel_rfl);obtain⟨a12,w12,l12,r12⟩:=aM Tryz.underlying50 h 12 _ rfl AI (by kernel_rfl);obtain⟨a13,w13,l13,r13⟩:=aM Tryz.underlying50 h 13 _ rfl G5 (by kernel_rfl);have b:=(bM f (bM i (bM n (bM q (bM y (bM D (bM G (bM K (bM N (bM Q (bM r10 (bM r11 (bM r12 r13)))))))))))))
 exact⟨a.trans (by kernel_rfl),⟨d,g,k,o,r,B,E,H,L,O,a10,a11,a12,a13⟩,⟨w0,w1,l,p,u,C,F,J,M,P,w10,w11,w12,w13⟩,rfl,b.congr λj _=>by show c.getD j undef=c.getD (0+j) undef;rw[O3]⟩
end
end Go.Proofs.YtjooeakgbamfnaaGreatDoor.Ab
