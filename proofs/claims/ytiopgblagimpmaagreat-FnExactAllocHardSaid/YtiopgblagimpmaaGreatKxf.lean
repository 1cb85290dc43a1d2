/- A range put into a list of ranges: the reference's contract. No condition. -/
import Derived.Test.YtiopgblagimpmaaGreatKxd
import Derived.Test.YtiopgblagimpmaaGreatKxe
import Derived.Deep.LoopGhost
import Derived.Deep.RegionLaw
import Derived.Lib.Walk
import Derived.Sort.WalkB12
import Derived.Lib.SliceRun
import Derived.Shelf.RegionOpenPlain
import Derived.Test.YtiopgblagimpmaaGreatKxc
set_option linter.unusedVariables false
set_option linter.defProp false
set_option linter.unusedSimpArgs false
set_option linter.constructorNameAsVariable false
namespace Go.Proofs.YtiopgblagimpmaaGreat.Ab
open Go.RowKit
set_option maxRecDepth 20000
set_option maxHeartbeats 4000000
def PT(y:ay)(a:List ay):dk [] (y::a)=dk [y] a:=by rw[dk];rfl
variable{α:Type}
theorem Gx[Inhabited α]{xs:List α}(h:xs≠[]):xs.getLast? = some (nth xs (xs.length - 1)):=by grind [List.length_pos_iff,ar]
theorem QZ{xs:List α}(h:xs≠[])(v:α):xs.dropLast++[v]=xs.set (xs.length - 1) v:=by
 have a:0<xs.length:=ψ
 refine List.ext_getElem (by simp;omega) λi b c=>?_
 grind
variable{out:List ay}
theorem QR{y:ay}{a:List ay}(h:out≠[])(e:(nth out (out.length - 1)).At+(nth out (out.length - 1)).o=y.At):dk out (y::a)=dk (out.set (out.length - 1) ⟨(nth out (out.length - 1)).At,(nth out (out.length - 1)).o+y.o⟩) a:=by grind [Gx,QZ,dk]
theorem Tw{y:ay}{a:List ay}(h:out≠[])(e:¬(nth out (out.length - 1)).At+(nth out (out.length - 1)).o=y.At):dk out (y::a)=dk (out++[y]) a:=by grind [Gx,dk]
theorem uV(xs:List ay)(w:xs.length<=4194304)(n:∀y∈xs,0<=y.At/\1<=y.o/\y.At+y.o<=1048576):zzA 573 false [.val none (aU .O xs)] .one (aU .own (dk [] xs)):=by
 refine fO 63 [(6,21,[15,16,17,18,19,20,21,22,23,24,25,26,27,28,29,30,31,32,33,34,35]),(7,15,[38,39,40,41,42,43,44,45,46,47,48,49,50,51,52])] Tryz.func573 rfl ?_ (.inr (hC _))
 refine ZP ?_
 refine CH (ι:=Nat × List ay) (λq=>[(0,.F .one (aU .O xs)),(3,.F .one (aU .own q.2)),(4,.F .one [I ((q.1:Nat):Int)])]) (λq=>q.1<=xs.length/\dk q.2 (xs.drop q.1)=dk [] xs/\q.2.length<=q.1/\∀y∈q.2,0<=y.At/\1<=y.o/\y.At+y.o<=1048576) (λq=>xs.length - q.1) ((0,[])) ?_ ψ λq o=>?_
 ·exact wB
 obtain⟨i,out⟩:=q;obtain⟨p,a,g,b⟩:=o;simp only at p a g b |-;by_cases h:i<xs.length
 ·have j:=ar h
  have B:=n _ (aE h);rw[nZ h]at a;by_cases k:out=[]
  ·subst k
   rw[PT]at a;have D:([]:List ay).length=0:=rfl
   repeat'(first|refine gE ?_|refine CQ (show List.length _=0 from rfl) ?_|refine Ap.sm (λr t=>by cases t) rfl (by simp) (by decide) rfl ?_)
   ((conv=>whnf)
    refine CF (i+1,[nth xs i]) ψ (by simp only;omega) ?_
    (repeat'(first|exact trivial|rfl|exact CC rfl (CC (I1 (C.s dY.own) (by simp[ay.enc])) trivial)|refine CC ?_ ?_)))
  have l:0<out.length:=ψ
  have d:out[((out.length:Int) - 1).toNat]? = some (nth out (out.length - 1)):=by
   rw[show((out.length:Int) - 1).toNat=out.length - 1 by omega];grind [ar]
  have u:=b _ (aE (xs:=out) (i:=out.length - 1) ω);by_cases e:(nth out (out.length - 1)).At+(nth out (out.length - 1)).o=(nth xs i).At
  ·rw[QR k e]at a
   repeat'(first|refine gB ?_|refine CM ω (aa d) ?_|refine CN rfl rfl (aa d) rfl (C2 rfl) rfl ?_)
   ((conv=>whnf)
    refine CF (i+1,out.set (out.length - 1) ⟨(nth out (out.length - 1)).At,(nth out (out.length - 1)).o+(nth xs i).o⟩) ⟨(by simp only;omega),a,ψ,(λy c=>?_)⟩ (by simp only;omega) ?_)
   ·rcases Z8 c with c|rfl
    ·exact b y c
    simp only;omega
   (repeat'(first|exact trivial|rfl|exact CC rfl (CC (I1 (C.s dY.own) (by rw[show((out.length:Int) - 1).toNat=out.length - 1 by omega,S8];rfl)) trivial)|refine CC ?_ ?_))
  rw[Tw k e]at a
  repeat'(first|refine gB ?_|refine CM ω (aa d) ?_|refine Ap.sm (aW λ_=>rfl) rfl (by simp;omega) (by decide) rfl ?_)
  ((conv=>whnf)
   refine CF (i+1,out++[nth xs i]) ⟨(by simp only;omega),a,(by simp;omega),(λy c=>?_)⟩ (by simp only;omega) ?_)
  ·rcases C4.1 c with c|c
   all_goals simp_all
  (repeat'(first|exact trivial|rfl|exact CC rfl (CC (I1 (C.s dY.own) (by simp[ay.enc])) trivial)|refine CC ?_ ?_))
 obtain rfl:i=xs.length:=ω
 rw[List.drop_length]at a
 refine ZE ?_
 rw[<-a];rfl
def D6(r y:ay)(a:List ay)(put:Bool):og r (y::a) put=if ovl y r then none else if !put&&decide (y.At > r.At) then(og r a true).map λt=>r::y::t else(og r a put).map λt=>y::t:=by rw[og]
theorem BE(pages:Int)(xs:List ay)(r:ay)(G:0<=pages/\pages<=1048576)(H:dD xs):zzA 519 false [.val none [I pages],.val none (aU .O xs),.val (some 2) (ay.enc .O r)] (.tup [none,none]) (Fg xs (cS pages xs r)):=by
 have o:=H.1;have j:=n6 pages xs G H;have p:=Af pages r G;cases k:bI pages xs<;>rw[k]at j
 ·rw[show cS pages xs r=none by unfold cS;rw[CD (by rw[k];simp)]]
  refine fO 82 [] Tryz.func519 rfl ?_ (.inr (lM _ _))
  repeat'(first|refine gP ?_|refine CT (λ_=>rfl) (λ_=>rfl) o (by decide) ?_)
  rfl
 cases u:rangeIn pages r<;>rw[u]at p
 ·rw[show cS pages xs r=none by unfold cS;rw[CD (by rw[u];simp)]]
  refine fO 82 [] Tryz.func519 rfl ?_ (.inr (lM _ _))
  repeat'(first|refine gP ?_|refine CT (λ_=>rfl) (λ_=>rfl) o (by decide) ?_)
  rfl
 obtain⟨J,K⟩:=tO k;have l:0<=r.At/\1<=r.o/\r.At+r.o<=pages:=by grind [rangeIn]
 rw[show cS pages xs r=(og r xs false).map (dk []) by unfold cS;rw[CG ⟨k,u⟩,D8 (pages:=pages) J l.2.1 ψ]];refine fO 82 [] Tryz.func519 rfl ?_ (.inr (lM _ _))
 repeat'(first|refine gP ?_|refine CT (λ_=>rfl) (λ_=>rfl) o (by decide) ?_)
 refine CH (ι:=Nat × List ay × Bool) (λq=>[(1,.F .one (aU .O xs)),(5,.F .box (ay.enc .O r)),(8,.F .one (aU .own xs)),(9,.F .one (aU .own q.2.1)),(10,.F .one [B (q.2.2)]),(11,.F .one [I ((q.1:Nat):Int)])]) (λq=>q.1<=xs.length/\(og r (xs.drop q.1) q.2.2).map (q.2.1++·)=og r xs false/\q.2.1.length<=q.1+q.2.2.toNat/\(∀y∈q.2.1,0<=y.At/\1<=y.o/\y.At+y.o<=1048576)) (λq=>xs.length - q.1) ((0,[],false)) ?_ (⟨C1 _,by simp,by simp,by simp⟩) λq d=>?_
 ·exact wB
 obtain⟨i,out,put⟩:=q;obtain⟨L,b,c,e⟩:=d;simp only at L b c e |-;have M:0<=r.At/\1<=r.o/\r.At+r.o<=1048576:=ω
 by_cases w:i<xs.length
 ·have n:=ar w
  have N:=K _ (aE w);have E:0<=(nth xs i).At/\1<=(nth xs i).o/\(nth xs i).At+(nth xs i).o<=1048576:=ω
  rw[nZ w]at b;by_cases h:ovl (nth xs i) r=true
  ·rw[<-b]
   rw[D6,CG h];unfold ovl at h;rw[C0]at h
   repeat'(first|refine gE ?_|with_reducible refine Bf.D (λd=>?_) (λd=>?_))
   rfl
  rw[D6,CD h]at b;unfold ovl at h;rw[C0]at h;cases put with
  | false=>
   have c:out.length<=i:=by simpa using c
   by_cases O:(nth xs i).At > r.At
   ·rw[CG (by simp;omega),Option.map_map]at b
    repeat'(first|refine gE ?_|with_reducible refine Bf.D (λd=>?_) (λd=>?_)|refine Ap.sm (aW λ_=>rfl) rfl (by simp;omega) (by decide) rfl ?_|refine Ap.sm (λr l=>by simp at l;rcases l with⟨a,_,rfl⟩|rfl<;>rfl) rfl (by simp;omega) (by decide) rfl ?_)
    ((conv=>whnf)
     refine CF (i+1,out++[r,nth xs i],true) ⟨(by simp only;omega),(by rw[<-b];congr 1;funext t;simp),(by simp;omega),(λy g=>?_)⟩ (by simp only;omega) ?_)
    ·grind
    (repeat'(first|exact trivial|rfl|exact CC rfl (CC (I1 (C.s dY.own) (by simp[ay.enc])) trivial)|refine CC ?_ ?_))
   rw[CD (by simp;omega),Option.map_map]at b
   repeat'(first|refine gE ?_|with_reducible refine Bf.D (λd=>?_) (λd=>?_)|refine Ap.sm (aW λ_=>rfl) rfl (by simp;omega) (by decide) rfl ?_)
   ((conv=>whnf)
    refine CF (i+1,out++[nth xs i],false) ⟨(by simp only;omega),(by rw[<-b];congr 1;funext t;simp),(by simp;omega),(λy g=>?_)⟩ (by simp only;omega) ?_)
   ·grind
   (repeat'(first|exact trivial|rfl|exact CC rfl (CC (I1 (C.s dY.own) (by simp[ay.enc])) trivial)|refine CC ?_ ?_))
  | true=>
   have c:out.length<=i+1:=c;rw[CD (by simp),Option.map_map]at b;by_cases P:(nth xs i).At<r.At+r.o
   all_goals
    repeat'(first|refine gE ?_|with_reducible refine Bf.D (λd=>?_) (λd=>?_)|refine Ap.sm (aW λ_=>rfl) rfl (by simp;omega) (by decide) rfl ?_)
    ((conv=>whnf)
     refine CF (i+1,out++[nth xs i],true) ⟨(by simp only;omega),(by rw[<-b];congr 1;funext t;simp),(by simp;omega),(λy g=>?_)⟩ (by simp only;omega) ?_)
    ·rcases C4.1 g with g|g
     ·exact e y g
     rw[I2.1 g];exact E
    (repeat'(first|exact trivial|rfl|exact CC rfl (CC (I1 (C.s dY.own) (by simp[ay.enc])) trivial)|refine CC ?_ ?_))
 obtain rfl:i=xs.length:=ω
 rw[List.drop_length]at b;cases put with
 | false=>
  have c:out.length<=xs.length:=by simpa using c
  rw[<-b];have F:=uV (out++[r]) (by simp;omega) ψ
  repeat'(first|refine gE ?_|refine Ap.sm (aW λ_=>rfl) rfl (by simp;omega) (by decide) (show(out++[r]).map (ay.enc .own)=_ by simp[ay.enc]) ?_|refine CJ (F) ⟨⟨rfl,eY _⟩,trivial⟩ ?_)
  rfl
 | true=>
  have c:out.length<=xs.length+1:=c;rw[<-b];have F:=uV out ω e
  repeat'(first|refine gE ?_|refine CJ (F) ⟨⟨rfl,eY _⟩,trivial⟩ ?_)
  simp[og,Fg]
  rfl
theorem shl64{i:Int}(a:0<=i/\i<=15):IntKind.i64.wrap (1*2 ^ min i.toNat IntKind.i64.bits)=2 ^ i.toNat/\0<=(2:Int) ^ i.toNat/\(2:Int) ^ i.toNat<=32768:=by
 have b:min i.toNat IntKind.i64.bits=i.toNat:=Nat.min_eq_left (show i.toNat<=64 by omega);have c:(0:Int)<=2 ^ i.toNat/\(2:Int) ^ i.toNat<=32768:=by
  have:(2:Nat) ^ i.toNat<=2 ^ 15:=Nat.pow_le_pow_right (by decide) ω
  grind
 grind [gV]
variable{b:Int}
theorem clr64{i:Int}(a:0<=b/\b<=65535):IntKind.i64.wrap ((BitVec.ofInt IntKind.i64.bits b &&& ~~~BitVec.ofInt IntKind.i64.bits (2 ^ i.toNat)).toNat:Nat)=ye b i:=by
 have:=FJ (i:=i) a
 grind [gV,ye]
theorem vo(b i:Int)(c:0<=b/\b<=65535)(d:0<=i/\i<=15):zzA 574 false [.val none [I b],.val none [I i]] .one [I (ye b i)]:=by
 have a:=rv b i;rw[O0 ω]at a;have e:IntKind.u64.wrap i=i:=by grind [Go.IntKind.wrap,Go.IntKind.bits]
 refine fO 15 [] Tryz.func574 rfl ?_
 repeat'(first|refine gP ?_|refine CP ω ?_|refine CO e ?_|refine CO (shl64 d).1 ?_|refine CO (clr64 c) ?_)
 rfl
def vI(b i:Int)(c:0<=b/\b<=65535)(d:0<=i/\i<=15):zzA 491 false [.val none [I b],.val none [I i]] .one [I (ye b i)]:=by
 have a:=rH b i;rw[O0 ω]at a;refine fO 14 [] Tryz.func491 rfl ?_
 repeat'(first|refine gP ?_|refine CP ω ?_|refine CO (shl64 d).1 ?_|refine CO (clr64 c) ?_)
 rfl
variable{s:au}
theorem Mt{k:Int}(a:aX s.r k=true):0<=k/\k<=15:=by grind [jb]
def BN(s:au)(k:Int)(a:bc s=true)(b:aX s.r k=true):zzA 523 false [.val (some 3) (au.enc .O s),.val none [I k]] (.tup [some 3,none]) (au.enc .own (mc s k)++[B true]):=by
 have e:=ek a;have g:=Mt b;have c:=hO s;have d:=jm s.r k ω;rw[a]at c;rw[b]at d;refine fO 23 [] Tryz.func523 rfl ?_ (.inr (aJ (au.enc_fr _) ⟨trivial,trivial⟩))
 repeat'(first|refine gP ?_|refine CA (vo s.r k e g) ?_)
 rfl
def Bg(s:au)(k:Int)(a:bc s=true)(b:aX s.r k=true):zzA 385 false [.val (some 3) (au.enc .O s),.val none [I k]] (.tup [some 3,none]) (au.enc .own (mc s k)++[B true]):=by
 have e:=ek a;have g:=Mt b;have c:=hM s;have d:=ip s.r k ω;rw[a]at c;rw[b]at d;refine fO 23 [] Tryz.func385 rfl ?_ (.inr (aJ (au.enc_fr _) ⟨trivial,trivial⟩))
 repeat'(first|refine gP ?_|refine CA (vI s.r k e g) ?_)
 rfl
def GP(c:ax)(k:Int)(b:ax.sml c):zzA 477 false [.val (some 1) (ax.enc .O c),.val none [I k]] .one [B (bH c&&decide (0<=k/\k<=3))]:=by
 have a:=ug c b;cases e:bH c<;>rw[e]at a
 all_goals
  refine fO 11 [] Tryz.func477 rfl ?_
  repeat'(first|refine gP ?_|refine CA (aS k 0 3) ?_)
  all_goals rfl
def zB(c:ax)(k:Int)(a:ax.sml c):zzA 333 false [.val (some 1) (ax.enc .O c),.val none [I k]] .one [B (decide (0<=k/\k<=3)&&bH c)]:=by
 have b:=uN c a;refine fO 11 [] Tryz.func333 rfl ?_
 repeat'(first|refine gP ?_|with_reducible refine Bf.D (λd=>?_) (λd=>?_)|refine CA (fK k) ?_)
 all_goals exact I1 (λz=>[B z]) ((by simp[*]))
def rK{c:ax}{k:Nat}(a:k<c.T.length):c.T[k]? = some (nth c.T k):=ar a
variable{r:List C}
theorem nQ{f:α->List C}{xs:List α}{k:Nat}{y:α}(h:xs[k]? = some y):((xs.map f).set k r)[k]? = some r:=ψ
def oD{β:Type}(f:α->β)(xs:List α)(y:α):(xs++[y]).map f=xs.map f++[f y]:=by simp
def cU(x:ac):List C:=[.s .own (x.K.G.U.W.map (aH .own)),.s .own (x.K.G.U.c.map (rB .own)),.s .own (x.K.G.Q.J.map (aN.enc .own)),I x.K.Calls,.s .own (x.K.b.map (rI .own)),.s .own (x.a.map (ay.enc .own)),.s .own (x.H.map (au.enc .own)),.s .own (x.S.map (aB.enc .own)),.s .own (x.X.map (bf.enc .own)),.s .own (x.M.map (ax.enc .own)),.s .own (x.e.V.map (bK .own)),.s .own (x.e.k.map (aH .own)),I x.q.b1,.s .own (x.q.u.map (aL.enc .own)),I x.a4,I x.a5,I x.a9,I x.g,B x.j,I x.p.Y.w,I x.p.Y.y,.s .O (x.p.Y.W.map (rI .O)),I x.p.a1,I x.p.g]
def cw(x:ac):fo (cU x)=ac.enc .O x:=by simp[fo,cU,ac.enc,ax.enc_fz,aN.enc_fz,aB.enc_fz,bf.enc_fz,ay.enc_fz,au.enc_fz,aL.enc_fz,rB,A6,rI,dK,<-dh,C8]
def zQ(x:bk):List C:=[I x.Y.w,I x.Y.y,.s .O (x.Y.W.map (rI .O)),I x.a1,I x.g]
variable{rows rows2:List (List C)}{i j g:Nat}
theorem Pu.two{f a:List C}{off k h b:Nat}{cs:List C}{K:List C->Prop}{o c:dY}{d:List C}(u:f[off]? = some (.s o rows))(n:o.mine=true)(w:rows[i]? = some r)(y:r.length=k)(A:r[j]? = some (.s c rows2))(p:c.mine=true)(B:rows2[g]? = some d)(D:d.length=h)(E:b+cs.length<=h)(F:a=f.set off (.s o (rows.set i (r.set j (.s c (rows2.set g (splice d b cs)))))))(q:K a):Pu f off [(i,k,j),(g,h,b)] cs K:=by
 have t:o≠.O:=λe=>by subst e;cases n
 have l:c≠.O:=λe=>by subst e;cases p
 refine Pu.mk (r:=d) (j:=b) (by grind [ch]) (by grind [ll]) ω (by grind [gq]) q
def zc(x:List au):fz (.s .own (x.map (au.enc .own)))=.s .O (x.map (au.enc .O)):=(List.cons.inj (gl x)).1
def D3(x:List aB):fz (.s .own (x.map (aB.enc .own)))=.s .O (x.map (aB.enc .O)):=(List.cons.inj (mT x)).1
def FX(x:List bf):fz (.s .own (x.map (bf.enc .own)))=.s .O (x.map (bf.enc .O)):=(List.cons.inj (Pf x)).1
theorem Ap.dele{e:α->List C}{xs:List α}{sz by_:Nat}{K:List (List C)->Prop}(a:∀y,(e y).length=sz)(b:∀y,bm (e y)=true)(h:xs.length<=1048576)(c:by_<=1000)(d:K ((Ab.dele xs i).map e)):Ap true ((xs.take i).map e) ((xs.drop (i+1)).map e) sz by_ K:=by
 have f:(xs.take i).length+(xs.drop (i+1)).length<=2097152:=ψ
 refine CS (aW a) (aW a) (λ_ r g=>by obtain⟨y,-,rfl⟩:=Y5.1 g;exact b y) (by rw[Z1,Z1];omega) (by rw[Z1,Z1];exact Y6 (Nat.mul_le_mul f c) (by decide)) ?_ d;unfold Ab.dele;rw[Z7]
def Ny(h:ac)(p:Int)(a:aG.sml h.K.G.Q):zzA 485 false [.ptr (ac.enc .O h),.val none [I p]] .one [I (aC h.K.G.Q p).l]:=by
 refine fO 13 [] Tryz.func485 rfl ?_
 repeat'(first|refine gP ?_|refine CA (fZ h.K.G.Q p a) ?_)
 rfl
def Uu(h:ac):List C:=(cU h).drop 5
def VM(h:ac)(k:af):cU {h with K:=k} = af.enc .own k++Uu h:=rfl
def J1(h:ac):Uu h=[.s .own (h.a.map (ay.enc .own)),.s .own (h.H.map (au.enc .own)),.s .own (h.S.map (aB.enc .own)),.s .own (h.X.map (bf.enc .own)),.s .own (h.M.map (ax.enc .own)),.s .own (h.e.V.map (bK .own)),.s .own (h.e.k.map (aH .own)),I h.q.b1,.s .own (h.q.u.map (aL.enc .own)),I h.a4,I h.a5,I h.a9,I h.g,B h.j,I h.p.Y.w,I h.p.Y.y,.s .O (h.p.Y.W.map (rI .O)),I h.p.a1,I h.p.g]:=rfl
def MY(h:ac)(f:Int)(a:aG.sml h.K.G.Q)(b:0<=f/\f<h.K.G.U.W.length/\f<h.K.G.U.c.length) :
  zzB 486 false [.ptr (cU h),.val none [I f]] [.ptr (cU {h with K:=ix h.K f}),.val none [I f]] (.tup []) []:=by
 have c:=ar (xs:=h.K.G.U.W) (i:=f.toNat) ω;have d:=ar (xs:=h.K.G.U.c) (i:=f.toNat) ω;rw[VM h (ix h.K f)];by_cases e:(pagesOn h.K.G.Q f).length=0
 ·rw[wi e,J1]
  refine fM 30 [] [(2,8,[21,22,23,24,25,26,27,28])] [(0,0),(0,0)] Tryz.func486 rfl (λu q=>?_) (.inr trivial)
  repeat'(first|refine gB ?_|with_reducible (first|refine CM b.1 (aa d) ?_|refine CM b.1 (aa c) ?_)|refine CJ (iu h.K.G.Q f a) ⟨⟨rfl,aG.enc_fz h.K.G.Q⟩,⟨rfl,rfl⟩,trivial⟩ ?_|refine CN rfl rfl (aa c) rfl (C2 rfl) rfl ?_|refine CN rfl rfl (aa d) rfl (C2 rfl) rfl ?_|refine Mk.mk 16 rfl rfl (by decide) (by decide) rfl ?_)
  refine CL rfl rfl ?_;exact wB
 rw[zq e];show aR _ _ _ [.ptr (cU h),_] [.ptr (cU h),_] _ _;refine fM 30 [] [(2,8,[21,22,23,24,25,26,27,28])] [(0,0),(0,0)] Tryz.func486 rfl (λu q=>?_) (.inr trivial)
 repeat'(first|refine gB ?_|refine CJ (iu h.K.G.Q f a) ⟨⟨rfl,aG.enc_fz h.K.G.Q⟩,⟨rfl,rfl⟩,trivial⟩ ?_)
 refine CL rfl rfl ?_;exact wB
theorem yx(h:ac)(p:Int)(b:aK h.K=true) :
  zzB 374 false [.ptr (cU h),.val none [I p]] [.ptr (cU {h with K:=cQ h.K p}),.val none [I p]] .one [B (decide ((aC h.K.G.Q p).l≠0))]:=by
 have k:=bS b;have c:=Ny h p k.1.2;by_cases a:(aC h.K.G.Q p).l=0
 ·rw[show cQ h.K p=h.K by unfold cQ;rw[CG a]]
  refine fM 32 [(486,[2,0])] [] [(0,0),(0,0)] Tryz.func374 rfl (λu q=>?_)
  repeat'(first|refine gB ?_|refine CJ (c) ⟨cw h,⟨rfl,rfl⟩,trivial⟩ ?_)
  refine CL rfl ?_ ?_
  ·exact I1 (λz=>[B z]) ((by simp[a]))
  exact wB
 obtain⟨l,r,n,d,o⟩:=bY b a;have j:=(bh.1 (aI.1 b).2.1).2.2.1;rw[show cQ h.K p=ix (mM h.K p) (aC h.K.G.Q p).d by unfold cQ;rw[CD a]];have e:=MY {h with K:=mM h.K p} (aC h.K.G.Q p).d (Ax b) ⟨d,by grind [mM],by grind [mM]⟩;rw[VM h (mM h.K p),zh,J1]at e;have g:=ar (xs:=h.K.G.Q.J) (i:=p.toNat) ω;rw[n]at c e a |-;refine fM 32 [(486,[2,0])] [] [(0,0),(0,0)] Tryz.func374 rfl (λu q=>?_)
 repeat'(first|refine gB ?_|with_reducible refine CM l (aa g) ?_|refine CJ (c) ⟨cw h,⟨rfl,rfl⟩,trivial⟩ ?_|refine CN rfl rfl (aa g) rfl (C2 rfl) rfl ?_)
 refine CL rfl ?_ ?_
 ·exact I1 (λz=>[B z]) ((by simp[a]))
 exact wB
def wY(h:ac)(p:Int):zzA 367 false [.ptr (ac.enc .O h),.val none [I p]] .one [B (gS h p)]:=by
 cases e:h.j
 all_goals
  have b:ac.enc .O h=(ac.enc .O h).set 18 (B h.j):=rfl;rw[e]at b;rw[b];refine fO 29 [] Tryz.func367 rfl ?_
  repeat'(first|refine gP ?_|with_reducible (first|refine Bf.D (λa=>?_) (λa=>?_)|refine Bf.E (λa=>?_) (λa=>?_)|refine Bf.N (λa=>?_) (λa=>?_)))
  all_goals exact I1 (λz=>[B z]) ((by unfold gS;rw[e];first|(simp[*];done)|(simp[*];rw[X6];simp)))
def nU(h:ac):zzA 372 false [.ptr (ac.enc .O h)] .one [I (gr h:Nat)]:=by
 refine fO 11 [] Tryz.func372 rfl ?_
 refine ZP ?_
 rfl
theorem UX(h:ac)(a:Int)(k:h.X.length<=1048576):zzA 509 false [.val (some 24) (ac.enc .O h),.val none [I a]] .one [I (eP (FF a) h.X)]:=by
 refine fO 22 [] Tryz.func509 rfl ?_
 refine ZP ?_
 refine CH (ι:=Nat) (λi=>[(1,.F .one [I (a)]),(2,.F .box (ac.enc .O h)),(5,.F .one [I ((i:Nat):Int)])]) (λi=>i<=h.X.length/\∀(j:Nat)(z:bf),j<i->h.X[j]? = some z->FF a z=false) (λi=>h.X.length - i) (0) ?_ ψ λi c=>?_
 ·exact wB
 obtain⟨c,d⟩:=c;by_cases g:i<h.X.length
 ·have b:=ar g
  by_cases e:(nth h.X i).Addr=a
  ·refine ZB ?_
   grind [gd,FF]
  refine ZB ?_
  (refine CF (i+1) ⟨ω,fC b (by grind [FF]) d⟩ ω ?_;(exact wB))
 refine ZE ?_
 exact I1 (λz=>[I z]) (iA ω d).symm
theorem Ei(h:ac)(E:List Int)(i:Nat)(a:cm h E)(e:i<h.H.length):zzB 524 false [.ptr (cU h),.val none [I (i:Nat)]] [.ptr (cU (LR h i)),.val none [I (i:Nat)]] (.tup []) []:=by
 have b:=a.lens;have g:=b.spans;have c:=ar e;have j:=yx {h with H:=dele h.H i} (nth h.H i).R a.ker;have d:=nU {h with K:=cQ h.K (nth h.H i).R,H:=dele h.H i};rw[show gr {h with K:=cQ h.K (nth h.H i).R,H:=dele h.H i} = gr h from(sU _ _).1]at d;have k:gr h<=32:=b.ents;have l:=BE (gr h:Nat) h.a ⟨(nth h.H i).R,1⟩ ω ⟨by grind [pa.free],λ_ _=>trivial⟩;refine fM 52 [(374,[2,0])] [(1,273,[13,14,15,16,17,18,19,20,22,23,24,25,26,27,28,30,31,0,1,2,3,4,5,6,7,9,10,11,12,13,14,15,8,1000,1009,1010,1011,1012,1013,1014,1015,16,1000,17,18,19]),(1048577,0,[6]),(3,270,[38,39,40,41,42,43,44,45,47,37,48,49,50,51,0,1,2,3,4,5,6,7,8,1000,1001,1002,1003,1004,1005,1006,9,10,11,12,13,14,15,1012])] [(0,0),(0,0)] Tryz.func524 rfl (λu q=>?_) (.inr trivial)
 repeat'(first|refine gP ?_|refine Me.mk rfl (zc h.H) rfl ?_|refine CX i rfl (by rw[Z1];omega) (aW λ_=>rfl) O5 ?_|refine Sl.suf (i+1) rfl (by rw[Z1];omega) (aW λ_=>rfl) X5 ?_|refine Fl.cp (λ_=>rfl) (λ_=>rfl) (by rw[Z2];omega) (by decide) ?_|refine Ap.dele (λ_=>rfl) (λ_=>rfl) ω (by decide) ?_|refine CT (λ_=>rfl) (λ_=>rfl) (by rw[Z2];omega) (by decide) ?_|refine CJ (d) ⟨cw _,trivial⟩ ?_|refine CJ (l) ⟨⟨rfl,rfl⟩,⟨rfl,eY h.a⟩,⟨rfl,rfl⟩,trivial⟩ ?_)
 refine CL rfl rfl ?_;exact wB
def zi(h:ac)(i:Nat)(a:Int):cU (kW h i a)=(cU h).set 6 (.s .own ((h.H.map (au.enc .own)).set i (au.enc .own (mc (nth h.H i) (eg (nth h.H i) a))))):=by
 simp[cU,kW,S8]
theorem jr{β:Type}{f:α->β}{xs:List α}{y:β}(a:i<xs.length):((xs.map f).set i y)[i]? = some y:=ψ
variable{a:Int}
def NA(c:bc s=true)(b:ik s a):jp s a=(eg s a,0):=by
 unfold jp;rw[CG ((gY c).2 ⟨b.1,b.2.1⟩),b.2.2.1];rfl
theorem ES(h:ac)(E:List Int)(a:Int)(c:cm h (a::E)):zzB 426 false [.ptr (cU h),.val none [I a]] [.ptr (cU (freeA h a)),.val none [I a]] (.tup []) []:=by
 obtain⟨j,n,t⟩:=c.at (c.hin a ψ);have d:=(c.hin a ψ).bd c;have B:=c.lens;have C:=B.spans;have e:=c.L.sok _ (aE j);have k:=mZ h (a / 16) ω;rw[t]at k;unfold freeA;generalize ER h a=i at j n k e;have b:=ar j;have o:=wI (nth h.H i) a ⟨ω,ω⟩;rw[NA e n]at o;have w:=BN (nth h.H i) (eg (nth h.H i) a) e n.2.2.2;have D:=c.give j n;have l:=wY (kW h i a) (nth h.H i).R;rw[show gS (kW h i a) (nth h.H i).R=gS h (nth h.H i).R from rfl]at l;have p:=Ei (kW h i a) E i D (by grind [kW]);have r:=cw (kW h i a);rw[zi]at p r;have g:((h.H.map (au.enc .own)).set i (au.enc .own (mc (nth h.H i) (eg (nth h.H i) a))))[i]? = some (au.enc .own (mc (nth h.H i) (eg (nth h.H i) a))):=jr j;unfold freeS;by_cases y:(mc (nth h.H i) (eg (nth h.H i) a)).r=0
 ·cases F:gS h (nth h.H i).R<;>rw[F]at l
  ·rw[CG ⟨y,rfl⟩]
   refine fM 68 [(524,[2,0])] [(2,274,[26,27,28,29,30,31,32,33,34,35,36,37,38,39,25,40,41,42,0,1,2,3,4,5,6,7,8,9,10,11,12,13,14,15,16,17,18,1016])] [(0,0),(0,0)] Tryz.func426 rfl (λu q=>?_) (.inr trivial)
   repeat'(first|refine gB ?_|with_reducible refine CO ((I1 _ (tdiv16 d.1)).trans (gV ω ω)) ?_|refine CP (by decide) ?_|refine CJ (k) ⟨⟨rfl,cw h⟩,⟨rfl,rfl⟩,trivial⟩ ?_|refine CB g ?_|refine CK rfl g rfl ?_|refine CN rfl rfl (aa b) rfl (C2 rfl) rfl ?_|refine CJ (l) ⟨r,⟨rfl,rfl⟩,trivial⟩ ?_)
   refine CL rfl rfl ?_;exact wB
  rw[CD ψ];rw[zi];refine fM 68 [(524,[2,0])] [(2,274,[26,27,28,29,30,31,32,33,34,35,36,37,38,39,25,40,41,42,0,1,2,3,4,5,6,7,8,9,10,11,12,13,14,15,16,17,18,1016])] [(0,0),(0,0)] Tryz.func426 rfl (λu q=>?_) (.inr trivial)
  repeat'(first|refine gB ?_|with_reducible refine CO ((I1 _ (tdiv16 d.1)).trans (gV ω ω)) ?_|refine CP (by decide) ?_|refine CJ (k) ⟨⟨rfl,cw h⟩,⟨rfl,rfl⟩,trivial⟩ ?_|refine CB g ?_|refine CK rfl g rfl ?_|refine CN rfl rfl (aa b) rfl (C2 rfl) rfl ?_|refine CJ (l) ⟨r,⟨rfl,rfl⟩,trivial⟩ ?_)
  refine CL rfl rfl ?_;exact wB
 rw[CD λx=>y x.1];rw[zi];refine fM 68 [(524,[2,0])] [(2,274,[26,27,28,29,30,31,32,33,34,35,36,37,38,39,25,40,41,42,0,1,2,3,4,5,6,7,8,9,10,11,12,13,14,15,16,17,18,1016])] [(0,0),(0,0)] Tryz.func426 rfl (λu q=>?_) (.inr trivial)
 repeat'(first|refine gB ?_|with_reducible refine CO ((I1 _ (tdiv16 d.1)).trans (gV ω ω)) ?_|refine CP (by decide) ?_|refine CJ (k) ⟨⟨rfl,cw h⟩,⟨rfl,rfl⟩,trivial⟩ ?_|refine CB g ?_|refine CK rfl g rfl ?_|refine CN rfl rfl (aa b) rfl (C2 rfl) rfl ?_|refine CJ (l) ⟨r,⟨rfl,rfl⟩,trivial⟩ ?_)
 refine CL rfl rfl ?_;exact wB
def U2{z:Int}(h:0<=z/\z<512):IntKind.i64.wrap (z.tdiv 16)=z / 16:=(I1 _ (tdiv16 h.1)).trans (gV ω ω)
def oE(rows:List (List C)):C:=match rows with|[]=>.s .O []|_=>.s .own rows
theorem Ql(h:rows≠[]):oE rows=.s .own rows:=by cases rows with|nil=>exact absurd rfl h|cons=>rfl
variable{P:Program}
theorem yb(w:World)(t e k:Nat)(z:Value)(h:P.underlying t=some (.slice e))(i:∀w,(zeroValue e).run P w=.ok z w)(l:z.cells.size=k)(q:∀v∈z.cells.toList,v.oneCell'=true)(b o n:Nat)(r:0<n)(p:0<k)(u:∀j,j<n*k->(w.cell? ⟨b,o+j,none⟩).isSome=true)(y:∀j,j<n*k->w.frozen? ⟨b,o+j,none⟩ = false) :
  ∃g:List Value,g.length=n*k/\(∀v∈g,v.oneCell'=true)/\∀(ty:TypeId)(c:Nat),(Builtin.clear_ #[t] ty #[.slice (some ⟨b,o,none⟩) n c]).run P w=.ok (.tuple #[]) (w.setCells b o g):=by
 subst l;have d:(Builtin.zeroCells z.cells n).toList.length=n*z.cells.size:=by grind [Go.Builtin.zeroCells]
 have a:∀v∈(Builtin.zeroCells z.cells n).toList,v.oneCell'=true:=by grind [Nat.mod_lt,Go.Builtin.zeroCells]
 refine⟨_,d,a,λty c=>?_⟩;have f:=run_storeCells_cells (P:=P) b o (Builtin.zeroCells z.cells n).toList 0 w ψ ψ a;simp only[Nat.add_zero]at f;obtain⟨m,rfl⟩ : ∃m,n=m+1:=⟨n - 1,ω⟩
 simp[Builtin.clear_,run_underlying h,i,f]
structure kn(w w':World)(g k n i:Nat):Prop where
 keep:bC (λb o=>b=g/\o<n*k) w w'
 lo:∀q,q<i*k->cel w' g q=cel w g q
 mid:∀q,i*k<=q->q<(n - 1)*k->cel w' g q=cel w g (q+k)
 hi:∀q,(n - 1)*k<=q->q<n*k->∃z,cel w' g q=some z/\z.oneCell'=true
 fro:∀b q,fro w' b q=fro w b q
variable{w:World}
theorem bC.up{M a:ah}{c:World}(h:bC M w c)(d:∀b o,M b o->a b o):bC a w c:=(CZ a w).trans h ψ
def yG(w:World):bC NO w w.drew:=⟨rfl,rfl,rfl,I4 _,λ_ _ _=>rfl,λ_ _ _ _=>rfl,λ_ _ _ _=>rfl⟩
variable{news:List Value}{n:Nat}
theorem Pt{k:Nat}{d:List Value}(l:i<n)(e:∀q,q<n*k->∃z,cel w g q=some z)(H:news.length=(n - (i+1))*k)(c:∀t u,news[t]? = some u->cel w g ((i+1)*k+t)=some u)(J:d.length=k)(p:∀v∈d,v.oneCell'=true) :
  kn w ((w.drew.setCells g (i*k) news).setCells g ((n - 1)*k) d) g k n i:=by
 have K:i*k+(n - (i+1))*k=(n - 1)*k:=by rw[<-Nat.add_mul];congr 1;omega
 have L:(n - 1)*k+k=n*k:=by rw[show(n - 1)*k+k=(n - 1+1)*k by rw[Nat.add_mul,Nat.one_mul]];congr 1;omega
 have M:(i+1)*k=i*k+k:=ψ
 have r:∀b q,cel w.drew b q=cel w b q:=λ_ _=>rfl
 have a:∀j,j<news.length->∃z,cel w.drew g (i*k+j)=some z:=λj y=>by rw[r];exact e _ ω
 have A:∀q,q<n*k->∃z,cel (w.drew.setCells g (i*k) news) g q=some z:=λq B=>by
  by_cases h:i*k<=q/\q<i*k+news.length
  ·have:=bv a (X3 (show q - i*k<news.length by omega))
   grind
  grind [aY]
 refine⟨?_,λq B=>?_,λq C D=>?_,λq C D=>?_,λb q=>?_⟩
 ·have E:=eG (g:=g) (X:=λb o=>b=g/\o<n*k) news (i*k) w.drew ω
  have F:=eG (g:=g) (X:=λb o=>b=g/\o<n*k) d ((n - 1)*k) (w.drew.setCells g (i*k) news) ω;exact((yG w).up λ_ _ h=>h.elim).trans (E.trans F λ_ _ h=>.inr h) λ_ _ h=>.inr h
 ·grind [aY]
 ·rw[aY ω]
  obtain⟨u,f⟩ : ∃u,news[q - i*k]? = some u:=⟨_,X3 ω⟩
  have G:=bv a f;have N:=c _ u f
  grind
 ·obtain⟨u,f⟩ : ∃u,d[q - (n - 1)*k]? = some u:=(ψ)
  have G:=bv (w:=w.drew.setCells g (i*k) news) (o:=(n - 1)*k) (vs:=d) (λj y=>A _ ω) f
  grind
 rw[bR,bR];rfl
def UK(rows:List (List C)):Prop:=∀r∈rows,∀c∈r,∃z,c=.v z
def Az(P:Program)(f k:Nat):Prop:=Mj P f/\∀(w:World)(g n a i:Nat)(news:List Value),i<n->n<=a->news.length=(n - (i+1))*k->(∀t u,news[t]? = some u->cel w g ((i+1)*k+t)=some u)->(∀u∈news,u.oneCell'=true)->
 (∀q,q<n*k->(w.cell? ⟨g,q,none⟩).isSome=true/\w.frozen? ⟨g,q,none⟩ = false)->
 Calls P f #[.slice (some ⟨g,0,none⟩) n a,.int .i64 i,.int .i64 ((i+1:Nat):Int)] w λe c=>e=.returned (.slice (some ⟨g,0,none⟩) (n - 1) a)/\∃b:List Value,b.length=k/\(∀v∈b,v.oneCell'=true)/\c=(w.drew.setCells g (i*k) news).setCells g ((n - 1)*k) b
variable{f:Nat}
theorem Rh{k:Nat}(hf:Az P f k)(hi:i<rows.length)(hk:∀r∈rows,r.length=k)(T:JD rows) :
  aR P f false [.mut none [.s .own rows],.val none [I (i:Nat)],.val none [I ((i+1:Nat):Int)]] [.mut none [.x],.val none [I (i:Nat)],.val none [I ((i+1:Nat):Int)]] .one [oE (dele rows i)]:=by
 refine⟨hf.1,λw S V vs hS hV hVV U=>?_⟩
 match vs,U with
 | [v,v1,v2],⟨U,W,X,_⟩=>
  have l:=(bw.rep1 (show bw w S (V 0) none [C.s .own rows] v from U)).fresh ⟨.inl (λe=>by cases e),T⟩;have e1:v1=.int .i64 (i:Nat):=by
   have:=bw.rep1 (show bw w S NO none [C.v (.int .i64 (i:Nat))] v1 from W);cases this;rfl
  have e2:v2=.int .i64 ((i+1:Nat):Int):=by
   have:=bw.rep1 (show bw w S NO none [C.v (.int .i64 ((i+1:Nat):Int))] v2 from X);cases this;rfl
  subst e1 e2;have H:(dele rows i).length=rows.length - 1:=by grind [dele]
  generalize J:C.s .own rows=cc at l;cases l with
  | nil _ o a ho=>grind
  | own _ o g d n j Y u f' ho hn B p hpos hF hu hff hd hc=>
   cases J;have Z:d=k:=by rw[<-B _ (List.getElem_mem hi),<-hk _ (List.getElem_mem hi)]
   subst Z;have hnk:n*d<=j*d:=O9 _ p;have hone:∀q,q<j*d->∃z,cel w g q=some z/\z.oneCell'=true:=ψ
   have e3:(i+1)*d+(n - (i+1))*d=n*d:=by rw[<-Nat.add_mul];congr 1;omega
   obtain⟨news,K,L,hn1⟩ : ∃news:List Value,news.length=(n - (i+1))*d/\(∀t u,news[t]? = some u->cel w g ((i+1)*d+t)=some u)/\∀u∈news,u.oneCell'=true:=by
    refine⟨(List.range ((n - (i+1))*d)).map λt=>(cel w g ((i+1)*d+t)).getD undef,by simp,λt y ht=>?_,λy hy=>?_⟩
    all_goals grind
   refine(hf.2 w g n j i news ω p K L hn1 (λq D=>?_)).mono λe A ⟨he,zs,z1,z2,hw'⟩=>?_
   ·grind
   have R:=Pt (w:=w) (by omega:i<n) ψ K L z1 z2;rw[<-hw']at R;have hgV:∀q,q<j*d->V 0 g q:=ψ
   have E:bC (λb o=>∃i,V i b o) w A:=R.keep.up ψ;have e4:(n - 1)*d+d=n*d:=by rw[show(n - 1)*d+d=(n - 1+1)*d by rw[Nat.add_mul,Nat.one_mul]];congr 1;omega
   have F:∀q,q<j*d->∃z,cel A g q=some z/\z.oneCell'=true:=λq D=>by
    by_cases h1:q<i*d
    ·grind [kn.lo]
    by_cases h2:q<(n - 1)*d
    ·rw[R.mid q ω h2];grind
    grind [kn.hi,bC.cel,kn.keep]
   have M:cy A NO (V 0) [oE (dele rows i)] (λ_=>.slice (some ⟨g,0,none⟩) (n - 1) j):=by
    refine row1 ?_;by_cases hz:dele rows i=[]
    ·rw[hz]
     have hn0:n - 1=0:=ψ
     rw[hn0];exact .O _ g 0 d 0 j [] (λ_=>undef) rfl ψ (C1 _) ω ψ
    rw[Ql hz];have G:0<n - 1:=ψ
    obtain⟨σ,hσ⟩ : ∃σ:Nat->Nat,∀q,σ q=if q<i*d then q else q+d:=⟨_,λ_=>rfl⟩
    have s1:∀q,q<(n - 1)*d->σ q<n*d:=ψ
    have s2:∀q q',q≠q'->σ q≠σ q':=ψ
    have s3:∀q,q<(n - 1)*d->cel A g q=cel w g (σ q):=λq D=>by grind [kn.lo,kn.mid]
    refine .own _ .own g d (n - 1) j _ (λq=>(cel A g q).getD undef) (λq=>f' (σ q)) trivial (by rw[H];omega) (λr hr=>B r ((oC ..).subset hr)) ω G (λq D=>⟨hgV q D,F q D,(R.fro g q).trans (hF q D).2.2⟩) (λq D=>?_) ψ ψ (λa b r c N hb=>?_)
    ·grind
    have hbk:b<d:=by grind [oC]
    have hal:=(Y3.1 N).1;rw[H]at hal;have hflat:a*d+b<(n - 1)*d:=eR ω hbk;obtain⟨O,h5,h6⟩ : ∃O,rows[O]? = some r/\σ (a*d+b)=O*d+b:=by
     rw[hσ];unfold dele at N;by_cases h1:a<i
     ·grind [Z2,eR]
     rw[I6 ψ,Z2,List.getElem?_drop]at N;rw[show i+1+(a - min i rows.length)=a+1 by omega]at N;have:i*d<=a*d:=O9 _ ω;refine⟨a+1,N,?_⟩;rw[CD ω,Nat.add_mul,Nat.one_mul];omega
    have h7:=hc O b r c h5 hb;have Q:=zT hn B h5 hb;have hfl:=eR Q.1 Q.2;have h8:(cel A g (a*d+b)).getD undef=u (O*d+b):=ψ
    show ef A NO (f' (σ (a*d+b))) c ((cel A g (a*d+b)).getD undef);rw[h8,h6];refine h7.keep (λ_ _ h=>h.elim) λb' o' hb'=>?_
    grind [bC.cel,kn.keep,kn.fro]
   exact⟨_,he,E,V 0,λ_=>NO,NO,ψ,λ_ _ _ h=>h.elim,λ_ _ h=>h.elim,λ_ _ _ _ _ h=>h.elim,λ_ _ _ _ h=>h.elim,λ_ _ _ h=>h.elim,λ_ _ _ h=>h.elim,rfl,M,⟨⟨rfl,λ_=>.slice (some ⟨g,0,none⟩) n j,rfl,row1 (.x _ _ rfl)⟩,trivial,trivial,trivial⟩⟩
  | _=>cases J
set_option maxRecDepth 100000
theorem xT{cap k:Nat}(d:news.length=(n - (i+1))*k)(a:n<=cap)(b:i<n)(h:∀t u,news[t]? = some u->cel w g ((i+1)*k+t)=some u):∃A:Addr,(if cap=i+1 then some (⟨g,0,none⟩ : Addr) else some ⟨g,(i+1)*k,none⟩)=some A/\∀t u,news[t]? = some u->w.drew.cell? (A.add t)=some u:=by
 by_cases e:cap=i+1
 ·simp_all
 refine⟨⟨g,(i+1)*k,none⟩,by simp[e],λt u c=>?_⟩;rw[Addr.add_lit];exact h t u c
def P5:∀w,(zeroValue 74).run Tryz.prog w=.ok (.agg #[.int .i64 0,.int .i64 0,.int .i64 0,.int .i64 0]) w:=λ_=>by kernel_rfl
theorem Vq:Az Tryz.prog 99 4:=by
 refine⟨⟨_,Tryz.func99,by kernel_rfl,by kernel_rfl⟩,λw g n c i news p r l y B b=>?_⟩;obtain⟨A,U,a⟩:=xT l r p y;have a:Hid (∀t u,news[t]? = some u->w.drew.cell? (A.add t)=some u):=a;have R:Hid (news.length=(n - (i+1))*4):=l;have V:Hid (∀u∈news,u.oneCell'=true):=B;have W:Hid (∀t,t<news.length->(w.drew.cell? ⟨g,0+i*4+t,none⟩).isSome=true/\w.drew.frozen? ⟨g,0+i*4+t,none⟩ = false):=λt ht=>by
  rw[z9];exact b (i*4+t) ω
 obtain⟨o,d⟩ : ∃o,o=w.drew.setCells g (0+i*4) news:=⟨_,rfl⟩
 have X:∀q,q<n*4->(o.cell? ⟨g,q,none⟩).isSome=true/\o.frozen? ⟨g,q,none⟩ = false:=λq S=>by
  have C:∀j,j<news.length->∃z,cel w.drew g (0+i*4+j)=some z:=λj Y=>by
   have:=(b (0+i*4+j) ω).1;exact Option.isSome_iff_exists.1 this
  refine⟨?_,by rw[d];exact(I1 Prod.fst (bR g _ news w.drew g q)).trans (b q S).2⟩;rw[d];by_cases h:0+i*4<=q/\q<0+i*4+news.length
  ·have:=bv C (X3 (show q - (0+i*4)<news.length by omega))
   grind
  show(cel _ g q).isSome=true;rw[aY (λx=>h x.2)];exact(b q S).1
 obtain⟨K,D,E,F⟩:=yb (P:=Tryz.prog) o 39 74 4 (.agg #[.int .i64 0,.int .i64 0,.int .i64 0,.int .i64 0]) Tryz.underlying39 P5 rfl (by intro v T;simp[Value.cells]at T;subst T;rfl) g ((i+(n - (i+1)))*4) (n - (i+(n - (i+1)))) ω (by decide) ψ ψ;have G:Hid (K.length=(n - (i+(n - (i+1))))*4):=D;have H:Hid (∀v∈K,v.oneCell'=true):=E;have Z:Hid (o=w.drew.setCells g (0+i*4) news):=d;have hic:i<=c:=ω
 have L:i+1<=c:=ω
 have M:¬i=i+1:=ω
 have N:i+1<=n:=p;have k:n - 1=i+(n - (i+1)):=ω
 clear d X b y B l D E;rw[k];generalize Y:i+1=j at U a R F G L M N k |-;obtain⟨J,O,Q⟩ : ∃J,Tryz.prog.info? 74=some J/\J.size=4:=by
  have h:=(od 74 _ rfl).1;cases e : Tryz.prog.info? 74 with
  | none=>grind
  | some x=>rw[e]at h;simp only[I7,O1,Prod.mk.injEq]at h;exact⟨x,rfl,h.2.1⟩
 have mixed : Tryz.prog.follows .mixedOrders=true:=by kernel_rfl
 go_enter Tryz.func99,Tryz.ntmps99
 go_wp2_with fail
 go_region_law_o (refine step_append_room rfl (.tmp 22) (.tmp 25) 39 rfl 74 J 4 Tryz.underlying39 O Q g 0 i c (by simp[Act.eval,Act.put]) A (n - j) (c - j) news (by simp[Act.eval,Act.put]) R.out a.out V.out ω W.out ?_;rw[<-Z.out])
 go_wp2
 go_ret
 refine⟨rfl,K,by grind [Go.RowKit.Hid.out],H.out,?_⟩
 grind [Go.RowKit.Hid.out]
def Ky:∀w,(zeroValue 175).run Tryz.prog w=.ok (.agg #[.int .i64 0,.int .i64 0,.int .i64 0]) w:=λ_=>by kernel_rfl
theorem Tk:Az Tryz.prog 102 3:=by
 refine⟨⟨_,Tryz.func102,by kernel_rfl,by kernel_rfl⟩,λw g n c i news p r l y B b=>?_⟩;obtain⟨A,U,a⟩:=xT l r p y;have a:Hid (∀t u,news[t]? = some u->w.drew.cell? (A.add t)=some u):=a;have R:Hid (news.length=(n - (i+1))*3):=l;have V:Hid (∀u∈news,u.oneCell'=true):=B;have W:Hid (∀t,t<news.length->(w.drew.cell? ⟨g,0+i*3+t,none⟩).isSome=true/\w.drew.frozen? ⟨g,0+i*3+t,none⟩ = false):=λt ht=>by
  rw[z9];exact b (i*3+t) ω
 obtain⟨o,d⟩ : ∃o,o=w.drew.setCells g (0+i*3) news:=⟨_,rfl⟩
 have X:∀q,q<n*3->(o.cell? ⟨g,q,none⟩).isSome=true/\o.frozen? ⟨g,q,none⟩ = false:=λq S=>by
  have C:∀j,j<news.length->∃z,cel w.drew g (0+i*3+j)=some z:=λj Y=>by
   have:=(b (0+i*3+j) ω).1;exact Option.isSome_iff_exists.1 this
  refine⟨?_,by rw[d];exact(I1 Prod.fst (bR g _ news w.drew g q)).trans (b q S).2⟩;rw[d];by_cases h:0+i*3<=q/\q<0+i*3+news.length
  ·have:=bv C (X3 (show q - (0+i*3)<news.length by omega))
   grind
  show(cel _ g q).isSome=true;rw[aY (λx=>h x.2)];exact(b q S).1
 obtain⟨K,D,E,F⟩:=yb (P:=Tryz.prog) o 38 175 3 (.agg #[.int .i64 0,.int .i64 0,.int .i64 0]) Tryz.underlying38 Ky rfl (by intro v T;simp[Value.cells]at T;subst T;rfl) g ((i+(n - (i+1)))*3) (n - (i+(n - (i+1)))) ω (by decide) ψ ψ;have G:Hid (K.length=(n - (i+(n - (i+1))))*3):=D;have H:Hid (∀v∈K,v.oneCell'=true):=E;have Z:Hid (o=w.drew.setCells g (0+i*3) news):=d;have hic:i<=c:=ω
 have L:i+1<=c:=ω
 have M:¬i=i+1:=ω
 have N:i+1<=n:=p;have k:n - 1=i+(n - (i+1)):=ω
 clear d X b y B l D E;rw[k];generalize Y:i+1=j at U a R F G L M N k |-;obtain⟨J,O,Q⟩ : ∃J,Tryz.prog.info? 175=some J/\J.size=3:=by
  have h:=(od 175 _ rfl).1;cases e : Tryz.prog.info? 175 with
  | none=>grind
  | some x=>rw[e]at h;simp only[I7,O1,Prod.mk.injEq]at h;exact⟨x,rfl,h.2.1⟩
 have mixed : Tryz.prog.follows .mixedOrders=true:=by kernel_rfl
 go_enter Tryz.func102,Tryz.ntmps102
 go_wp2_with fail
 go_region_law_o (refine step_append_room rfl (.tmp 22) (.tmp 25) 38 rfl 175 J 3 Tryz.underlying38 O Q g 0 i c (by simp[Act.eval,Act.put]) A (n - j) (c - j) news (by simp[Act.eval,Act.put]) R.out a.out V.out ω W.out ?_;rw[<-Z.out])
 go_wp2
 go_ret
 refine⟨rfl,K,by grind [Go.RowKit.Hid.out],H.out,?_⟩
 grind [Go.RowKit.Hid.out]
def NZ:∀w,(zeroValue 267).run Tryz.prog w=.ok (.agg #[.int .i64 0,.int .i64 0,.int .i64 0]) w:=λ_=>by kernel_rfl
theorem GN:Az Tryz.prog 492 3:=by
 refine⟨⟨_,Tryz.func492,by kernel_rfl,by kernel_rfl⟩,λw g n c i news p r l y B b=>?_⟩;obtain⟨A,U,a⟩:=xT l r p y;have a:Hid (∀t u,news[t]? = some u->w.drew.cell? (A.add t)=some u):=a;have R:Hid (news.length=(n - (i+1))*3):=l;have V:Hid (∀u∈news,u.oneCell'=true):=B;have W:Hid (∀t,t<news.length->(w.drew.cell? ⟨g,0+i*3+t,none⟩).isSome=true/\w.drew.frozen? ⟨g,0+i*3+t,none⟩ = false):=λt ht=>by
  rw[z9];exact b (i*3+t) ω
 obtain⟨o,d⟩ : ∃o,o=w.drew.setCells g (0+i*3) news:=⟨_,rfl⟩
 have X:∀q,q<n*3->(o.cell? ⟨g,q,none⟩).isSome=true/\o.frozen? ⟨g,q,none⟩ = false:=λq S=>by
  have C:∀j,j<news.length->∃z,cel w.drew g (0+i*3+j)=some z:=λj Y=>by
   have:=(b (0+i*3+j) ω).1;exact Option.isSome_iff_exists.1 this
  refine⟨?_,by rw[d];exact(I1 Prod.fst (bR g _ news w.drew g q)).trans (b q S).2⟩;rw[d];by_cases h:0+i*3<=q/\q<0+i*3+news.length
  ·have:=bv C (X3 (show q - (0+i*3)<news.length by omega))
   grind
  show(cel _ g q).isSome=true;rw[aY (λx=>h x.2)];exact(b q S).1
 obtain⟨K,D,E,F⟩:=yb (P:=Tryz.prog) o 37 267 3 (.agg #[.int .i64 0,.int .i64 0,.int .i64 0]) Tryz.underlying37 NZ rfl (by intro v T;simp[Value.cells]at T;subst T;rfl) g ((i+(n - (i+1)))*3) (n - (i+(n - (i+1)))) ω (by decide) ψ ψ;have G:Hid (K.length=(n - (i+(n - (i+1))))*3):=D;have H:Hid (∀v∈K,v.oneCell'=true):=E;have Z:Hid (o=w.drew.setCells g (0+i*3) news):=d;have hic:i<=c:=ω
 have L:i+1<=c:=ω
 have M:¬i=i+1:=ω
 have N:i+1<=n:=p;have k:n - 1=i+(n - (i+1)):=ω
 clear d X b y B l D E;rw[k];generalize Y:i+1=j at U a R F G L M N k |-;obtain⟨J,O,Q⟩ : ∃J,Tryz.prog.info? 267=some J/\J.size=3:=by
  have h:=(od 267 _ rfl).1;cases e : Tryz.prog.info? 267 with
  | none=>grind
  | some x=>rw[e]at h;simp only[I7,O1,Prod.mk.injEq]at h;exact⟨x,rfl,h.2.1⟩
 have mixed : Tryz.prog.follows .mixedOrders=true:=by kernel_rfl
 go_enter Tryz.func492,Tryz.ntmps492
 go_wp2_with fail
 go_region_law_o (refine step_append_room rfl (.tmp 22) (.tmp 25) 37 rfl 267 J 3 Tryz.underlying37 O Q g 0 i c (by simp[Act.eval,Act.put]) A (n - j) (c - j) news (by simp[Act.eval,Act.put]) R.out a.out V.out ω W.out ?_;rw[<-Z.out])
 go_wp2
 go_ret
 refine⟨rfl,K,by grind [Go.RowKit.Hid.out],H.out,?_⟩
 grind [Go.RowKit.Hid.out]
theorem HY(xs:List au)(i:Nat)(a:i<xs.length):zzB 492 false [.mut none [.s .own (xs.map (au.enc .own))],.val none [I (i:Nat)],.val none [I ((i+1:Nat):Int)]] [.mut none [.x],.val none [I (i:Nat)],.val none [I ((i+1:Nat):Int)]] .one [oE ((dele xs i).map (au.enc .own))]:=by
 have h:=Rh GN (rows:=xs.map (au.enc .own)) (i:=i) ψ (aW λ_=>rfl) (bu _ _ λx _=>au.enc_fr x)
 grind [O5,X5,dele]
def DJ(h:ac)(p:Int):zzA 187 false [.val (some 24) (ac.enc .O h),.val none [I p]] .one [B (gS h p)]:=by
 cases e:h.j
 all_goals
  have b:ac.enc .O h=(ac.enc .O h).set 18 (B h.j):=rfl;rw[e]at b;rw[b];refine fO 23 [] Tryz.func187 rfl ?_
  repeat'(first|refine gP ?_|with_reducible (first|refine Bf.D (λa=>?_) (λa=>?_)|refine Bf.E (λa=>?_) (λa=>?_)|refine Bf.N (λa=>?_) (λa=>?_)))
  all_goals exact I1 (λz=>[B z]) ((by unfold gS;rw[e];first|(simp[*];done)|(simp[*];rw[X6];simp;try omega)|(rw[X6];simp[*];try omega)))
def tX(h:ac):zzA 71 false [.val (some 24) (ac.enc .O h)] .one [I (gr h:Nat)]:=by
 refine fO 9 [] Tryz.func71 rfl ?_
 refine ZP ?_
 rfl
theorem mJ(c:C):Tt c c:=(qt [c]).1
def cE(h:ac)(s l o:C):List C:=[.s .own (h.K.G.U.W.map (aH .own)),.s .own (h.K.G.U.c.map (rB .own)),.s .own (h.K.G.Q.J.map (aN.enc .own)),I h.K.Calls,.s .own (h.K.b.map (rI .own)),.s .own (h.a.map (ay.enc .own)),s,l,o,.s .own (h.M.map (ax.enc .own)),.s .own (h.e.V.map (bK .own)),.s .own (h.e.k.map (aH .own)),I h.q.b1,.s .own (h.q.u.map (aL.enc .own)),I h.a4,I h.a5,I h.a9,I h.g,B h.j,I h.p.Y.w,I h.p.Y.y,.s .own (h.p.Y.W.map (rI .own)),I h.p.a1,I h.p.g]
def oS(h:ac):C:=oE (h.H.map (au.enc .own))
def oL(h:ac):C:=oE (h.S.map (aB.enc .own))
def oO(h:ac):C:=oE (h.X.map (bf.enc .own))
def ge(h:ac):List C:=cE h (oS h) (oL h) (oO h)
def LM(rows:List (List C)):fz (oE rows)=fz (.s .own rows):=by cases rows<;>rfl
def Q8 : oE rows=.s .own rows\/(rows=[]/\oE rows=.s .O []):=by cases rows with|nil=>exact .inr ⟨rfl,rfl⟩|cons=>exact .inl rfl
def VR(h:ac){s l o:C}(a:fz s=.s .O (h.H.map (au.enc .O)))(b:fz l=.s .O (h.S.map (aB.enc .O)))(c:fz o=.s .O (h.X.map (bf.enc .O))):fo (cE h s l o)=ac.enc .O h:=by
 have d:=ac.enc_fz h;have e:fo (cE h s l o)=(((fo (ac.enc .own h)).set 6 (fz s)).set 7 (fz l)).set 8 (fz o):=rfl;rw[e,d,a,b,c];rfl
def VG(h:ac):fz (oS h)=.s .O (h.H.map (au.enc .O)):=(LM _).trans (zc _)
def Ux(h:ac):fz (oL h)=.s .O (h.S.map (aB.enc .O)):=(LM _).trans (D3 _)
def W0(h:ac):fz (oO h)=.s .O (h.X.map (bf.enc .O)):=(LM _).trans (FX _)
def mP(h:ac):fo (ge h)=ac.enc .O h:=VR h (VG h) (Ux h) (W0 h)
def A7(h:JD rows):P2 (oE rows):=by cases rows with|nil=>exact⟨.inr rfl,trivial⟩|cons r a=>exact⟨.inl λe=>(by cases e),h⟩
def na(h:ac):gk (ge h):=by
 have a:=Cb h;simp only[ac.enc,gk]at a;unfold ge cE;simp only[gk];refine⟨a.1,a.2.1,a.2.2.1,a.2.2.2.1,a.2.2.2.2.1,a.2.2.2.2.2.1,A7 ?_,A7 ?_,A7 ?_,a.2.2.2.2.2.2.2.2.2⟩
 ·exact a.2.2.2.2.2.2.1.2
 ·exact a.2.2.2.2.2.2.2.1.2
 exact a.2.2.2.2.2.2.2.2.1.2
def tf{S Y:ah}{v:Value}(h:ef w S Y (.s .own rows) v):ef w S Y (oE rows) v:=by
 cases rows with
 | cons=>exact h
 | nil=>
  cases h with
  | nil _ o a d=>exact .nil _ .O a trivial
  | own _ o g k n e rows u f d i j b c l p q r t=>simp at i;omega
variable{h:ac}
theorem Qw{S Y:ah}{u:Nat->Value}(b:cy w S Y (ac.enc .own h) u):cy w S Y (ge h) u:=by
 obtain⟨f,a,d,e⟩:=b;refine⟨f,λj c g=>?_,d,e⟩;have i:ge h=(((ac.enc .own h).set 6 (oS h)).set 7 (oL h)).set 8 (oO h):=rfl;rw[i]at g;by_cases k:j=8
 ·subst k
  have:c=oO h:=ψ
  rw[this];exact tf (a 8 _ rfl)
 by_cases l:j=7
 ·subst l
  have:c=oL h:=ψ
  rw[this];exact tf (a 7 _ rfl)
 by_cases n:j=6
 ·subst n
  have:c=oS h:=ψ
  rw[this];exact tf (a 6 _ rfl)
 grind
def mI(h:ac)(a:ac.sml h):zzA 62 false [.val (some 24) (ac.enc .O h)] .agg (ge h):=by
 obtain⟨b,c⟩:=nu h a;refine⟨b,λw S d g i=>(c w S d g i).mono λe w1 j=>?_⟩;obtain⟨v,k,l,X,n,o,p,q,r,t⟩:=j;exact⟨v,k,l,X,n,o,p,q,r,Qw t⟩
theorem zS(h:ac)(r:ay)(n:Nat)(a:aK h.K=true)(j:h.K.Calls≠100000)(b:h.a.length<=1048576)(l:r.o=n/\0<=r.At/\r.At<=1000/\n<=1000) :
  zzB 103 false [.ptr (ge h),.val (some 2) (ay.enc .O r)] [.ptr (ge {h with K:=gH h.K r.At n,a:=(cS (gr h) h.a r).getD h.a}),.val (some 2) (ay.enc .O r)] (.tup []) []:=by
 have c:=a;have e:gr h<=32:=(br.1 (aI.1 a).2.2.1).2.2;have d:=tX {h with K:=gH h.K r.At n};rw[show gr {h with K:=gH h.K r.At n} = gr h from(kj _ _ _).1]at d;have g:=Bz (gr h:Nat) h.a r ω ⟨b,λ_ _=>trivial⟩;refine fM 44 [] [(5,272,[29,30,31,32,33,34,35,36,37,38,39,28,40,41,42,43,0,1,2,3,4,5,6,7,8,9,10,11,12,13,14,15,16,1013])] [(0,0),(0,0)] Tryz.func103 rfl (λu q=>?_) (.inr trivial)
 refine ZP ?_
 refine CH (ι:=Nat) (λk=>[(0,.F .box (ge {h with K:=gH h.K r.At k})),(3,.F .box (ay.enc .O r)),(4,.F .one [I ((r.At+k))])]) (λk=>k<=n) (λk=>n - k) (0) ?_ (C1 _) λk a=>?_
 ·exact wC
 by_cases o:k<n
 ·have i:=qC (gH h.K r.At k) (r.At+k) (mX c _ _) (by grind [Eg])
  repeat'(first|refine gE ?_|refine CJ (i) ⟨⟨rfl,CW _⟩,⟨rfl,rfl⟩,trivial⟩ ?_)
  (refine CF (k+1) ω ω ?_;(exact wC))
 obtain rfl:k=n:=ω
 repeat'(first|refine gE ?_|refine CJ (d) ⟨⟨rfl,mP _⟩,trivial⟩ ?_|refine CJ (g) ⟨⟨rfl,rfl⟩,⟨rfl,eY h.a⟩,⟨rfl,rfl⟩,trivial⟩ ?_)
 refine CL rfl rfl ?_;exact wC
theorem N4{c a:C}(h:a=c):Tt c a:=by grind [mJ]
theorem Rm(k:af)(p:Int):gH k p 1=cQ k p:=by show cQ k (p+((0:Nat):Int))=_;grind
theorem Ep(a:h.H≠[]):ge h=cE h (.s .own (h.H.map (au.enc .own))) (oL h) (oO h):=by grind [Ql,List.map_eq_nil_iff,ge,oS]
def Wc(h:ac):oL h=.s .own (h.S.map (aB.enc .own))\/(h.S=[]/\oL h=.s .O []):=by
 rcases Q8 (rows:=h.S.map (aB.enc .own)) with e|⟨a,b⟩
 ·exact .inl e
 exact .inr ⟨List.map_eq_nil_iff.1 a,b⟩
theorem zV{xs:List α}(h:i<xs.length):xs≠[]:=(ψ)
theorem BV(h:ac)(i:Nat)(j:aK h.K=true)(k:h.K.Calls≠100000)(b:h.a.length<=1048576)(c:i<h.H.length)(l:h.H.length<=1048576)(o:0<=(nth h.H i).R/\(nth h.H i).R<=31) :
  zzB 386 false [.ptr (ge h),.val none [I (i:Nat)]] [.ptr (ge (LR h i)),.val none [I (i:Nat)]] (.tup []) []:=by
 have d:=ar c;have g:=HY h.H i c;have a:=zS {h with H:=dele h.H i} ⟨(nth h.H i).R,1⟩ 1 j k b ψ;rw[show gH ({h with H:=dele h.H i} : ac).K (ay.mk (nth h.H i).R 1).At 1=cQ h.K (nth h.H i).R from Rm _ _]at a;have n:ge {h with H:=dele h.H i} = cE h (oE ((dele h.H i).map (au.enc .own))) (oL h) (oO h):=rfl;rw[Ep (zV c)];rcases Q8 (rows:=(dele h.H i).map (au.enc .own)) with e|⟨-,e⟩
 all_goals
  rw[n]at a;rw[e]at g a;refine fM 28 [(492,[1,0,0]),(103,[2,0])] [] [(0,0),(0,0)] Tryz.func386 rfl (λu q=>?_) (.inr trivial)
  refine ZP ?_
  refine CL rfl rfl ?_;exact wB
variable{E:List Int}
def UI(c:cm h E)(d:i<h.H.length)(b:ik (nth h.H i) a):denotes h.H h.S a = ⟨1,i,eg (nth h.H i) a,0⟩:=by
 rw[iK c.L d ⟨b.1,b.2.1⟩];unfold re;rw[b.2.2.2,b.2.2.1];rfl
theorem xu(h:ac)(E:List Int)(a:Int)(b:cm h (a::E))(G:h.K.Calls≠100000):zzB 247 false [.ptr (ge h),.val none [I a]] [.ptr (ge (freeA h a)),.val none [I a]] (.tup []) []:=by
 obtain⟨g,t,H⟩:=b.at (b.hin a ψ);have J:=(b.hin a ψ).bd b;have D:=b.lens;have K:=D.spans;have M:=D.larges;unfold freeA;generalize ER h a=i at g t;have l:=b.L.sok _ (aE g);have N:=aP l;have c:=ar g;have j:=oW h.H h.S a ⟨ω,λ_ _=>trivial⟩ ⟨ω,λ_ _=>trivial⟩;rw[UI b g t]at j;have w:=Bg (nth h.H i) (eg (nth h.H i) a) l t.2.2.2;have P:=b.give g t;have n:=DJ (kW h i a) (nth h.H i).R;rw[show gS (kW h i a) (nth h.H i).R=gS h (nth h.H i).R from rfl]at n;have o:i<(kW h i a).H.length:=by grind [kW]
 have y:(nth (kW h i a).H i).R=(nth h.H i).R:=by unfold kW;simp only[eB,true_and];rw[CG g];rfl
 have p:=BV (kW h i a) i b.ker G (by show h.a.length<=_;grind [pa.free]) o (by grind [kW]) (by rw[y];omega);have d:ge (kW h i a)=cE h (.s .own ((h.H.map (au.enc .own)).set i (au.enc .own (mc (nth h.H i) (eg (nth h.H i) a))))) (oL h) (oO h):=by
  rw[Ep (zV o)];show cE h (.s .own ((h.H.set i _).map _)) (oL h) (oO h)=_;rw[S8]
 have r:=mP (kW h i a);rw[d]at r p;have k:((h.H.map (au.enc .own)).set i (au.enc .own (mc (nth h.H i) (eg (nth h.H i) a))))[i]? = some (au.enc .own (mc (nth h.H i) (eg (nth h.H i) a))):=jr g;rw[Ep (zV g)];have B:=Ux h;unfold freeS;rcases Wc h with e|⟨C,e⟩
 all_goals
  try rw[C]at j
  rw[e]at p r B d |-;by_cases F:(mc (nth h.H i) (eg (nth h.H i) a)).r=0
  ·cases O:gS h (nth h.H i).R<;>rw[O]at n
   ·rw[CG ⟨F,rfl⟩]
    refine fM 64 [(386,[2,0])] [(0,11,[6,7,8,9,10,11,12,13,14,15,4]),(2,277,[20,21,22,23,24,25,26,27,28,29,30,31,32,33,34,35,36,19,37,38,39,0,1,2,3,4,5,6,7,8,9,10,11,12,13,14,15,16,17,18,19,20,21,1019]),(3,9,[40,41,42,43,44,45,46,47,5]),(4,9,[48,49,50,51,52,53,54,55,56])] [(0,0),(0,0)] Tryz.func247 rfl (λu q=>?_) (.inr trivial)
    repeat'(first|refine gB ?_|refine CJ (j) ⟨⟨rfl,gl _⟩,⟨rfl,mT _⟩,⟨rfl,rfl⟩,trivial⟩ ?_|refine CJ (j) ⟨⟨rfl,gl _⟩,⟨rfl,rfl⟩,⟨rfl,rfl⟩,trivial⟩ ?_|refine CB k ?_|refine CK rfl k rfl ?_|refine CN rfl rfl (aa c) rfl (C2 rfl) rfl ?_|refine CJ (n) ⟨⟨rfl,r⟩,⟨rfl,rfl⟩,trivial⟩ ?_)
    refine CL rfl rfl ?_;exact wB
   rw[CD (λx=>by cases x.2),d];refine fM 64 [(386,[2,0])] [(0,11,[6,7,8,9,10,11,12,13,14,15,4]),(2,277,[20,21,22,23,24,25,26,27,28,29,30,31,32,33,34,35,36,19,37,38,39,0,1,2,3,4,5,6,7,8,9,10,11,12,13,14,15,16,17,18,19,20,21,1019]),(3,9,[40,41,42,43,44,45,46,47,5]),(4,9,[48,49,50,51,52,53,54,55,56])] [(0,0),(0,0)] Tryz.func247 rfl (λu q=>?_) (.inr trivial)
   repeat'(first|refine gB ?_|refine CJ (j) ⟨⟨rfl,gl _⟩,⟨rfl,mT _⟩,⟨rfl,rfl⟩,trivial⟩ ?_|refine CJ (j) ⟨⟨rfl,gl _⟩,⟨rfl,rfl⟩,⟨rfl,rfl⟩,trivial⟩ ?_|refine CB k ?_|refine CK rfl k rfl ?_|refine CN rfl rfl (aa c) rfl (C2 rfl) rfl ?_|refine CJ (n) ⟨⟨rfl,r⟩,⟨rfl,rfl⟩,trivial⟩ ?_)
   refine CL rfl rfl ?_;exact wB
  rw[CD (λx=>F x.1),d];refine fM 64 [(386,[2,0])] [(0,11,[6,7,8,9,10,11,12,13,14,15,4]),(2,277,[20,21,22,23,24,25,26,27,28,29,30,31,32,33,34,35,36,19,37,38,39,0,1,2,3,4,5,6,7,8,9,10,11,12,13,14,15,16,17,18,19,20,21,1019]),(3,9,[40,41,42,43,44,45,46,47,5]),(4,9,[48,49,50,51,52,53,54,55,56])] [(0,0),(0,0)] Tryz.func247 rfl (λu q=>?_) (.inr trivial)
  repeat'(first|refine gB ?_|refine CJ (j) ⟨⟨rfl,gl _⟩,⟨rfl,mT _⟩,⟨rfl,rfl⟩,trivial⟩ ?_|refine CJ (j) ⟨⟨rfl,gl _⟩,⟨rfl,rfl⟩,⟨rfl,rfl⟩,trivial⟩ ?_|refine CB k ?_|refine CK rfl k rfl ?_|refine CN rfl rfl (aa c) rfl (C2 rfl) rfl ?_|refine CJ (n) ⟨⟨rfl,r⟩,⟨rfl,rfl⟩,trivial⟩ ?_)
  refine CL rfl rfl ?_;exact wB
theorem ef.frz_at{S F:ah}{v:Value}{c:C}(h:ef w S F (.s .own rows) v)(D:rows[i]? = some [c]):∃V:ah,(∀b o,V b o->F b o)/\ef w (λb o=>S b o\/V b o) (λb o=>F b o/\¬V b o) (.s .own (rows.set i [fz c])) v:=by
 cases h with
 | nil _ o a E=>simp at D
 | own _ o g k n B rows u f E K L d l M N O P G=>
  have Q:i<rows.length:=ψ
  obtain rfl:k=1:=by rw[<-L [c] ψ];rfl
  simp only[Nat.mul_one]at M N O P G;refine⟨f i,ψ,?_⟩;refine .own _ .own g 1 n B _ u (λq=>if q=i then NO else f q) E (by simpa using K) (λr h=>?_) d l (λq H=>?_) ψ (λq H b o p=>?_) (λq X H R T b o p t=>?_) (λJ U r W y A=>?_)
  ·grind
  ·grind
  ·split at p
   ·exact p.elim
   grind
  ·split at p
   ·exact p.elim
   split at t
   ·exact t.elim
   grind
  by_cases e:J=i
  ·subst e
   rw[t5 Q]at y;obtain rfl:=Option.some.inj y;cases U with
   | succ j=>simp at A
   | zero=>
    obtain rfl:fz c=W:=by simpa using A
    have:=(G J 0 [c] c D rfl).freeze
    grind
  grind [ef.mono]
variable{sh:Bool}
theorem am.frz{A:List RA}{k:Kd}{c:C}(h:am P f sh A k [.s .own rows])(d:rows[i]? = some [c]):am P f sh A k [.s .own (rows.set i [fz c])]:=by
 obtain⟨l,n⟩:=h;refine⟨l,λw S p q r=>(n w S p q r).mono λe w1 t=>?_⟩;obtain⟨v,u,y,X,B,H,J,K,D,g,E,L,M⟩:=t;obtain⟨V,N,O⟩:=(E 0 _ rfl).frz_at d;have F:∀b o,V b o->X b o:=ψ
 refine⟨v,u,y,λb o=>X b o/\¬V b o,λb o=>B b o\/V b o,ψ,λb o a=>?_,λb o a h=>?_,D,λj=>if j=0 then(λb o=>g 0 b o/\¬V b o) else NO,λj Q G=>?_,λj G b o a=>?_,ψ⟩
 ·grind
 ·grind
 ·grind
 all_goals simp_all
def MF(c:ax)(k:Nat):ax:=⟨c.T.set k []⟩
theorem LH(c:ax)(k:Nat):ax.enc .own (MF c k)=[.s .own ((c.T.map (aH .own)).set k (aH .own []))]:=by grind [S8,ax.enc,MF]
theorem H6(xs:List Int):([]:List Int).map (rI .O)=(xs.map (rI .O)).drop xs.length:=by simp_all
theorem Gy(xs:List Int):xs.map (rI .O)=(xs.map (rI .O)).take xs.length:=by grind [Z1]
def vZ{k:Nat}(h:k<rows.length):(rows.set k r)[k]? = some r:=t5 h
def W2(c:ax)(k:Nat):List C:=ax.enc .own (MF c k)++aH .own (nth c.T k)
def Qk(c:ax)(k:Nat):gk (W2 c k):=aJ (Cc _) (bM _)
def xI(c:ax)(k:Nat)(d:bH c=true)(p:k<=3):zzA 522 false [.val (some 1) (ax.enc .O c),.val none [I (k:Nat)],.val none [I 8]] (.tup [some 1,none]) (W2 c k):=by
 obtain⟨q,e⟩:=gi d;have g:ax.sml c:=⟨ω,λl j=>by have:=e l j;show l.length<=1048576;omega⟩
 have h:=GP c k g;rw[d,O0 ω]at h;have n:=pI c g;have a:=rK (c:=c) (k:=k) ω;have o:=e _ (aE (xs:=c.T) (i:=k) ω);have b:=Qk c k;unfold W2 at b |-;rw[LH]at b |-;refine fO 52 [(5,268,[29,30,31,32,33,34,35,36,37,38,39,41,0,1,2,3,4,5,6,7,8,9,10,11,1000,1001,1002,12,13]),(6,265,[42,43,44,45,46,47,48,49,50,0,1,2,3,4,5,6,7,8,9,1000,10,11])] Tryz.func522 rfl ?_ (.inr b)
 repeat'(first|refine gP ?_|refine CU (z:=((nth c.T k).length:Int)) (by simp;omega) ?_|refine Sl.suf (nth c.T k).length rfl (by rw[Z1];omega) (aW λ_=>rfl) (H6 _) ?_|refine CX (nth c.T k).length rfl (by rw[Z1];omega) (aW λ_=>rfl) (Gy _) ?_|refine Fl.cp (λ_=>rfl) (λ_=>rfl) (by simp) (by decide) ?_|refine CT (λ_=>rfl) (λ_=>rfl) (by simp) (by decide) ?_|refine Fl.cp (λ_=>rfl) (λ_=>rfl) ω (by decide) ?_|refine CT (λ_=>rfl) (λ_=>rfl) ω (by decide) ?_|refine CN rfl rfl (aa a) rfl (C2 rfl) rfl ?_)
 rfl
theorem xx(c:ax)(k:Nat)(e:bH c=true)(q:k<=3):zzA 246 false [.val (some 1) (ax.enc .O c),.val none [I (k:Nat)],.val none [I 8]] (.tup [some 1,none]) (W2 c k):=by
 obtain⟨r,g⟩:=gi e;have h:ax.sml c:=⟨ω,λl o=>by have:=g l o;show l.length<=1048576;omega⟩
 have j:=zB c k h;rw[e,O0 ω]at j;have b:=rK (c:=c) (k:=k) ω;have p:=g _ (aE (xs:=c.T) (i:=k) ω);have n:=am.frz (me c h) (i:=k) (c:=.s .own ((nth c.T k).map (rI .own))) (aa b);rw[show fz (.s .own ((nth c.T k).map (rI .own)))=.s .O ((nth c.T k).map (rI .O)) from(List.cons.inj (dK (nth c.T k))).1]at n;have a:k<(c.T.map (aH .own)).length:=ψ
 have d:=Qk c k;unfold W2 at d |-;rw[LH]at d |-;refine fO 43 [(6,7,[30,31,32,33,34,35,36]),(7,5,[38,39,40,41,42])] Tryz.func246 rfl ?_ (.inr d)
 repeat'(first|refine gP ?_|refine CU (z:=((nth c.T k).length:Int)) (by simp;omega) ?_|refine Sl.suf (nth c.T k).length rfl (by rw[Z1];omega) (aW λ_=>rfl) (H6 _) ?_|refine CX (nth c.T k).length rfl (by rw[Z1];omega) (aW λ_=>rfl) (Gy _) ?_|refine CA (gy [] (by simp)) ?_|refine CA (gy (nth c.T k) ω) ?_|refine CK rfl (vZ a) rfl ?_|refine CN rfl rfl (vZ a) rfl (C2 rfl) (by simp only[List.set_cons_zero,List.set_set];rfl) ?_|refine CB (vZ a) ?_)
 simp only[List.set_set,t4];rfl
theorem rc{k:Int} : ∀{l s s2 b:List Int},(∀x∈s2,x∈s)->tM k s l=some b->(∀x∈s,x∈b)/\∃c,tM k s2 l=some c/\∀x∈c,x∈b
 | [],s,s2,b,h,e=>by grind [tM]
 | a::l,s,s2,b,h,e=>by
  simp only[tM]at e |-;split at e
  ·rename_i g
   rw[CG (show good k s2 a from⟨g.1,g.2.1,g.2.2.1,λx=>g.2.2.2 (h a x)⟩)];obtain⟨d,f⟩:=rc (l:=l) (s:=s++[a]) (s2:=s2++[a]) ψ e
   grind
  cases e
theorem vr:∀{a:List (List Int)}{k:Nat}{s s2:List Int},(∀x∈s2,x∈s)->(hB k s a).isSome=true->(hB k s2 a).isSome=true
 | [],_,_,_,_,_=>rfl
 | l::a,k,s,s2,h,e=>by
  simp only[hB,fN]at e |-;split at e
  ·rename_i g
   rw[CG g];cases b:tM k s l with
   | none=>grind
   | some i=>
    rw[b]at e;obtain⟨-,c,d,f⟩:=rc h b;rw[d];exact vr f e
  cases e
theorem HT:∀{a:List (List Int)}{k:Nat}{s s2:List Int}(i:Nat),(∀x∈s2,x∈s)->(hB k s a).isSome=true->(hB k s2 (a.set i [])).isSome=true
 | [],_,_,_,_,_,_=>rfl
 | l::a,k,s,s2,i,h,e=>by
  simp only[hB,fN]at e;split at e
  ·rename_i g
   cases b:tM k s l with
   | none=>grind
   | some j=>
    rw[b]at e;obtain⟨n,c,d,f⟩:=rc h b;cases i with
    | zero=>
     simp only[List.set_cons_zero,hB,fN];rw[CG ⟨by simp,g.2⟩];exact vr ψ e
    | succ i=>
     simp only[List.set_cons_succ,hB,fN];rw[CG g,d];exact HT i f e
  cases e
theorem UV{c:ax}(h:bH c=true)(k:Nat):bH (MF c k)=true:=by grind [HT,bH,MF]
def spilt(h:ac)(t k:Nat):ac:={h with M:=h.M.set t (MF (nth h.M t) k)}
theorem cm.spilt{h:ac}{E:List Int}{t k:Nat}(d:cm h E)(i:t<h.M.length)(n:k<(nth h.M t).T.length):cm (spilt h t k) (nth (nth h.M t).T k++E):=by
 have p:(E++holders h).Perm (nth (nth h.M t).T k++E++holders (Ab.spilt h t k)):=by
  refine List.perm_iff_count.2 λb=>?_
  have r:=ux (λc:ax=>c.T.flatten) b h.M t (MF (nth h.M t) k) i;have q:=ux (λx:List Int=>x) b (nth h.M t).T k [] n;rw[<-uj,<-uj]at q;simp only[List.count_nil]at q;simp only[MF]at r;simp only[holders,gj,Ab.spilt,MF,O8];omega
 have g:∀c∈(Ab.spilt h t k).M,c∈h.M\/c=MF (nth h.M t) k:=λc u=>Z8 u
 exact {d with
   nc:=by show(h.M.set ..).length=_;rw[O2];exact d.nc
   cach:=λc f=>by grind [cm.cach,UV,aE]
   onu:=by show ∀o∈h.X,1<=o.Id/\o.Id<=h.g - 1/\0<=o.a2/\o.a2<=(h.M.set t _).length - 1;rw[O2];exact d.onu
   hca:=λc f j l b a=>by
     rcases g c f with f|rfl
     · exact d.hca c f j l b a
     simp only[MF,O2]at l;simp only[MF,eB]at a;by_cases e:k=j
     · grind
     rw[CD λx=>e x.1]at a;exact d.hca _ (aE i) _ l b a
   hin:=λb a=>by
     rcases C4.1 a with a|a
     · exact(d.hca _ (aE i) k n b a).any
     exact d.hin b a
   nd:=p.nodup_iff.1 d.nd
   mem:=λb=>by rw[<-p.mem_iff];exact d.mem b}
def freeAs(h:ac)(az:List Int):ac:=az.foldl freeA h
theorem ng:∀(az:List Int)(h:ac),(freeAs h az).M=h.M/\(freeAs h az).X=h.X/\(freeAs h az).K.Calls=h.K.Calls/\(freeAs h az).e=h.e/\(freeAs h az).p=h.p/\(freeAs h az).a5=h.a5/\(freeAs h az).q=h.q/\(freeAs h az).K.b=h.K.b
 | [],h=>⟨rfl,rfl,rfl,rfl,rfl,rfl,rfl,rfl⟩
 | a::az,h=>by
  obtain⟨b,c,d,e,f,g,i,j⟩:=ng az (freeA h a);obtain⟨k,l,n,o,p,q,r,t⟩:=Ki h (ER h a) a;exact⟨b.trans k,c.trans l,d.trans n,e.trans o,f.trans p,g.trans q,i.trans r,j.trans t⟩
theorem cm.freeAs{E:List Int} : ∀{az:List Int}{h:ac},cm h (az++E)->cm (freeAs h az) E
 | [],_,b=>b
 | a::az,h,b=>cm.freeAs (az:=az) (h:=Ab.freeA h a) b.freeA
theorem xp(h:ac)(az:List Int)(k:Nat)(a:k<az.length):freeAs h (az.take (k+1))=freeA (freeAs h (az.take k)) (nth az k):=by grind [X7,ar,freeAs]
def bi(t:Nat)(h:ac):Nat->ac × Nat
 | 0=>(h,0)
 | k+1=>(freeAs (spilt (bi t h k).1 t k) (nth (nth (bi t h k).1.M t).T k),(bi t h k).2+(nth (nth (bi t h k).1.M t).T k).length)
theorem mD{t:Nat}{h:ac}(b:cm h [])(c:t<h.M.length):∀{k:Nat},k<=4->cm (bi t h k).1 []/\(bi t h k).1.M.length=h.M.length/\(bi t h k).1.K.Calls=h.K.Calls/\(bi t h k).1.X=h.X/\(bi t h k).1.e=h.e/\(bi t h k).1.p=h.p/\(bi t h k).2<=8*k
 | 0,_=>⟨b,rfl,rfl,rfl,rfl,rfl,C1 _⟩
 | k+1,e=>by
  obtain⟨d,f,g,i,j,l,n⟩:=mD b c (k:=k) ω;have a:t<(bi t h k).1.M.length:=ω
  obtain⟨o,p⟩:=gi (d.cach _ (aE a))
  grind [cm.spilt,aE,ng,cm.freeAs,spilt,bi]
theorem zR{t k:Nat}(a:cm h [])(b:t<h.M.length)(c:k<4):t<(bi t h k).1.M.length/\bH (nth (bi t h k).1.M t)=true/\k<(nth (bi t h k).1.M t).T.length/\(nth (nth (bi t h k).1.M t).T k).length<=8/\(bi t h k).2<=8*k:=by grind [mD,cm.cach,aE,gi]
theorem Hr{t k:Nat}(a:cm h [])(b:t<h.M.length)(c:k<4)(f:j<(nth (nth (bi t h k).1.M t).T k).length):cm (freeAs (spilt (bi t h k).1 t k) ((nth (nth (bi t h k).1.M t).T k).take j)) (nth (nth (nth (bi t h k).1.M t).T k) j::(nth (nth (bi t h k).1.M t).T k).drop (j+1)):=by
 obtain⟨d,e⟩:=zR a b c;have g:=((mD a b (k:=k) ω).1).spilt d e.2.1
 grind [cm.freeAs,nZ,List.take_append_drop]
theorem Bb(h:ac)(t:Nat)(i:cm h [])(l:t<h.M.length):zzB 424 false [.ptr (cU h),.val none [I (t:Nat)]] [.ptr (cU (bi t h 4).1),.val none [I (t:Nat)]] .one [I ((bi t h 4).2:Nat)]:=by
 refine fM 48 [(426,[2,0])] [(6,6,[26,27,28,29,30,31])] [(0,0),(0,0)] Tryz.func424 rfl (λu q=>?_)
 refine ZP ?_
 refine CH (ι:=Nat) (λk=>[(0,.F .box (cU (bi t h k).1)),(1,.F .one [I ((t:Nat):Int)]),(5,.F .one [I (((bi t h k).2:Nat):Int)]),(6,.F .one [I ((k:Nat):Int)])]) (λk=>k<=4) (λk=>4 - k) (0) ?_ (C1 _) λk D=>?_
 ·repeat'(first|exact trivial|rfl |exact N4 a|exact mJ _|refine CC ?_ ?_|(exact TF (by first|omega|(simp only;omega)|(simp;omega))))
 by_cases n:k<4
 ·obtain⟨o,p,E,F,G⟩:=zR i l n
  have r:=xI (nth (bi t h k).1.M t) k p ω;have c:=λj=>Hr i l n (j:=j)
  have e:=ar o;have w:(bi t h (k+1)).1=freeAs (spilt (bi t h k).1 t k) (nth (nth (bi t h k).1.M t).T k):=rfl;have y:(bi t h (k+1)).2=(bi t h k).2+(nth (nth (bi t h k).1.M t).T k).length:=rfl;have a:C.s dY.own ((spilt (bi t h k).1 t k).M.map (ax.enc .own))=C.s dY.own (((bi t h k).1.M.map (ax.enc .own)).set t (ax.enc .own (MF (nth (bi t h k).1.M t) k))):=by grind [S8,spilt]
  repeat'(first|refine gE ?_|refine CJ (r) ⟨⟨rfl,ax.enc_fz _⟩,⟨rfl,rfl⟩,⟨rfl,rfl⟩,trivial⟩ ?_|refine CN rfl rfl (aa e) rfl (C2 rfl) rfl ?_)
  generalize (bi t h k).1=d at *;generalize (bi t h k).2=m at *
  (conv=>whnf)
  refine CH (ι:=Nat) (λj=>[(0,.F .box (cU (freeAs (spilt d t k) ((nth (nth d.M t).T k).take j)))),(1,.F .one [I ((t:Nat):Int)]),(5,.F .one [I (((m+j):Nat):Int)]),(6,.F .one [I ((k:Nat):Int)]),(8,.F .one (aH .own (nth (nth d.M t).T k))),(9,.F .one [I ((j:Nat):Int)])]) (λj=>j<=(nth (nth d.M t).T k).length) (λj=>(nth (nth d.M t).T k).length - j) (0) ?_ (C1 _) λj H=>?_
  ·repeat'(first|exact trivial|rfl |exact N4 a|exact mJ _|refine CC ?_ ?_|(exact TF (by first|omega|(simp only;omega)|(simp;omega))))
  by_cases g:j<(nth (nth d.M t).T k).length
  ·have b:=ar g
   have B:=ES _ _ _ (c j g)
   refine ZE ?_
   (refine CF (j+1) ω ω ?_)
   rw[xp _ _ _ g];exact wC
  obtain rfl:j=(nth (nth d.M t).T k).length:=ω
  rw[C7]
  refine ZE ?_
  (refine CF (k+1) ω ω ?_)
  rw[w,y];exact wC
 obtain rfl:k=4:=ω
 refine ZE ?_
 refine CL rfl rfl ?_;exact wC
def EQ(h:ac)(t:Int)(a:ac.sml h):zzA 245 false [.val (some 24) (ac.enc .O h),.val none [I t]] .one [B (decide (0<=t/\t<=h.M.length - 1)&&decide (h.K.Calls≠100000)&&ec h)]:=by
 have b:=gh h a;rw[jd]at b;have d:h.M.length<=1048576:=a.2.2.2.2.2.1.1;have c:=aO t 0 (h.M.length - 1:Int);cases e:decide (0<=t/\t<=(h.M.length:Int) - 1)<;>rw[e]at c
 all_goals
  cases g:decide (h.K.Calls≠100000)
  all_goals
   simp only[C0,O6]at g;refine fO 21 [] Tryz.func245 rfl ?_
   repeat'(first|refine gP ?_|with_reducible refine Bf.N (λi=>?_) (λi=>?_))
   all_goals first|rfl|(exfalso;omega)
theorem An(h:ac)(t:Nat)(p:ac.sml h)(q:ec h=true)(r:h.K.Calls≠100000)(c:t<h.M.length):zzA 91 false [.val (some 24) (ac.enc .O h),.val none [I (t:Nat)]] (.tup [some 24,none]) (ge (bi t h 4).1++[I ((bi t h 4).2:Nat)]):=by
 have e:=cm.of q;have u:=EQ h t p;rw[q,O0 ω,O0 r]at u;have y:=mI h p;refine fP 52 [(247,[2,0])] [] Tryz.func91 rfl ?_ (.inr (aJ (na _) ⟨trivial,trivial⟩))
 refine ZP ?_
 refine CH (ι:=Nat) (λk=>[(1,.F .one [I ((t:Nat):Int)]),(4,.F .box uP),(6,.F .box (ge (bi t h k).1)),(7,.F .one [I (((bi t h k).2:Nat):Int)]),(8,.F .one [I ((k:Nat):Int)])]) (λk=>k<=4) (λk=>4 - k) (0) ?_ (C1 _) λk J=>?_
 ·repeat'(first|exact trivial|rfl |exact N4 a|exact mJ _|refine CC ?_ ?_|(exact TF (by first|omega|(simp only;omega)|(simp;omega))))
 by_cases w:k<4
 ·obtain⟨B,D,K,L,M⟩:=zR e c w
  have E:=xx (nth (bi t h k).1.M t) k D ω;have g:=λj=>Hr e c w (j:=j)
  have i:=λj=>(ng ((nth (nth (bi t h k).1.M t).T k).take j) (spilt (bi t h k).1 t k)).2.2.1
  have l:(spilt (bi t h k).1 t k).K.Calls≠100000:=by have:=(mD e c (k:=k) ω).2.2.1;show(bi t h k).1.K.Calls≠100000;rw[this];exact r
  have n:=ar B;have F:(bi t h (k+1)).1=freeAs (spilt (bi t h k).1 t k) (nth (nth (bi t h k).1.M t).T k):=rfl;have G:(bi t h (k+1)).2=(bi t h k).2+(nth (nth (bi t h k).1.M t).T k).length:=rfl;have a:C.s dY.own ((spilt (bi t h k).1 t k).M.map (ax.enc .own))=C.s dY.own (((bi t h k).1.M.map (ax.enc .own)).set t (ax.enc .own (MF (nth (bi t h k).1.M t) k))):=by grind [S8,spilt]
  repeat'(first|refine gE ?_|refine CJ (E) ⟨⟨rfl,ax.enc_fz _⟩,⟨rfl,rfl⟩,⟨rfl,rfl⟩,trivial⟩ ?_|refine CN rfl rfl (aa n) rfl (C2 rfl) rfl ?_)
  generalize (bi t h k).1=d at *;generalize (bi t h k).2=m at *
  (conv=>whnf)
  refine CH (ι:=Nat) (λj=>[(1,.F .one [I ((t:Nat):Int)]),(4,.F .box uP),(6,.F .box (ge (freeAs (spilt d t k) ((nth (nth d.M t).T k).take j)))),(7,.F .one [I (((m+j):Nat):Int)]),(8,.F .one [I ((k:Nat):Int)]),(10,.F .one (aH .own (nth (nth d.M t).T k))),(39,.a7 10 0 [] none),(40,.F .one [I ((nth (nth d.M t).T k).length)]),(41,.F .one [I ((j:Nat):Int)])]) (λj=>j<=(nth (nth d.M t).T k).length) (λj=>(nth (nth d.M t).T k).length - j) (0) ?_ (C1 _) λj N=>?_
  ·repeat'(first|exact trivial|rfl |exact N4 a|exact mJ _|refine CC ?_ ?_|(exact TF (by first|omega|(simp only;omega)|(simp;omega))))
  by_cases o:j<(nth (nth d.M t).T k).length
  ·have b:=ar o
   have H:=xu _ _ _ (g j o) (by rw[i];exact l)
   refine ZE ?_
   (refine CF (j+1) ω ω ?_)
   rw[xp _ _ _ o];exact wC
  obtain rfl:j=(nth (nth d.M t).T k).length:=ω
  rw[C7]
  refine ZE ?_
  (refine CF (k+1) ω ω ?_)
  rw[F,G];exact wC
 obtain rfl:k=4:=ω
 refine ZE ?_
 rfl
def AF(s:Int):Int:=(1103515245*s+12345) % 1073741824
def FN(s:Int):0<=AF s/\AF s<=1073741823:=by unfold AF;omega
def Bq(s:Int)(b:0<=s/\s<=1073741823):zzA 548 false [.val none [I s]] .one [I (AF s)]:=by
 have a:=aS s 0 1073741823;rw[O0 b]at a;refine fO 10 [] Tryz.func548 rfl ?_
 repeat'(first|refine gP ?_|refine CU (z:=AF s) (gZ ω) ?_|refine CP (by decide) ?_)
 rfl
def uv(s:Int)(b:0<=s/\s<=1073741823):zzA 83 false [.val none [I s]] .one [B true]:=by
 have a:=aO s 0 1073741823;rw[O0 b]at a;refine fO 5 [] Tryz.func83 rfl ?_
 refine ZP ?_
 rfl
def B2(s:Int)(a:0<=s/\s<=1073741823):zzA 456 false [.val none [I s]] .one [I (AF s)]:=by
 refine fO 10 [] Tryz.func456 rfl ?_
 repeat'(first|refine gP ?_|refine CU (z:=AF s) (gZ ω) ?_|refine CA (uv s a) ?_|refine CP (by decide) ?_)
 rfl
def Gf(s n:Int):Int:=AF s / 1024 % n
def qf(s:Int){n:Int}(h:1<=n):0<=Gf s n/\Gf s n<n:=⟨Int.emod_nonneg _ ω,Int.emod_lt_of_pos _ ω⟩
theorem xo(s n:Int)(b:0<=s/\s<=1073741823)(c:1<=n/\n<=1000):zzA 480 false [.val none [I s],.val none [I n]] (.tup [none,none]) [I (Gf s n),I (AF s)]:=by
 have d:=aS s 0 1073741823;have e:=aS n 1 1000;rw[O0 b]at d;rw[O0 c]at e;have h:=FN s;have i:=qf s c.1;have a:(AF s).tdiv 1024=AF s / 1024:=ψ
 have g:((AF s).tdiv 1024).tmod n=Gf s n:=by rw[a];exact gZ ω
 refine fO 23 [] Tryz.func480 rfl ?_ (.inr ⟨trivial,trivial,trivial⟩)
 repeat'(first|refine gP ?_|refine CA (Bq s b) ?_|refine CP (by decide) ?_|refine CP ω ?_|refine CU g ?_|refine CO (gV (by rw[a];omega) (by rw[a];omega)) ?_)
 rfl
theorem wz(s n:Int)(b:0<=s/\s<=1073741823)(c:1<=n/\n<=1000):zzA 337 false [.val none [I s],.val none [I n]] (.tup [none,none]) [I (Gf s n),I (AF s)]:=by
 have d:=aO n 1 1000;rw[O0 c]at d;have g:=FN s;have h:=qf s c.1;have a:(AF s).tdiv 1024=AF s / 1024:=ψ
 have e:((AF s).tdiv 1024).tmod n=Gf s n:=by rw[a];exact gZ ω
 refine fO 23 [] Tryz.func337 rfl ?_ (.inr ⟨trivial,trivial,trivial⟩)
 repeat'(first|refine gP ?_|refine CA (uv s b) ?_|refine CA (B2 s b) ?_|refine CP (by decide) ?_|refine CP ω ?_|refine CU e ?_|refine CO (gV (by rw[a];omega) (by rw[a];omega)) ?_)
 rfl
def q8(n:Nat):List Int:=(List.range n).map λ(i:Nat)=>(i:Int)
theorem yJ(n:Nat):q8 (n+1)=q8 n++[(n:Int)]:=by grind [List.range_succ,q8]
def wm(n:Nat):(q8 n).length=n:=by simp[q8]
def ww(xs:List Int)(i k:Nat):List Int:=(xs.set i (nth xs k)).set k (nth xs i)
def NN(xs:List Int)(i k:Nat):(ww xs i k).length=xs.length:=by simp[ww]
def fk(n:Nat)(s:Int):Nat->List Int × Int
 | 0=>(q8 n,s)
 | j+1=>(ww (fk n s j).1 (n - 1 - j) (Gf (fk n s j).2 ((n - 1 - j:Nat)+1:Int)).toNat,AF (fk n s j).2)
def ml(n:Nat){s:Int}(a:0<=s/\s<=1073741823):∀j,(fk n s j).1.length=n/\0<=(fk n s j).2/\(fk n s j).2<=1073741823
 | 0=>⟨wm n,a⟩
 | j+1=>⟨by simp only[fk,NN];exact(ml n a j).1,FN _⟩
def shuf(n:Nat)(s:Int):List Int × Int:=fk n s (n - 1)
theorem G9(xs:List Int)(i k:Nat):(ww xs i k).map (rI .own)=((xs.map (rI .own)).set i (rI .own (nth xs k))).set k (rI .own (nth xs i)):=by grind [S8,ww]
variable{xs:List Int}
theorem Dt{k:Nat}(v:Int)(a:k<xs.length):((xs.map (rI .own)).set i (rI .own v))[k]? = some (rI .own (nth (xs.set i v) k)):=by
 rw[<-S8];grind [ar]
def AL(n:Nat)(s:Int)(d:0<=s/\s<=1073741823)(w:n<=64):zzA 526 false [.val none [I s],.val none [I (n:Nat)]] (.tup [none,none]) (aH .own (shuf n s).1++[I (shuf n s).2]):=by
 have e:=aS s 0 1073741823;have g:=aS (n:Nat) 0 64;rw[O0 d]at e;rw[O0 ω]at g;refine fO 63 [] Tryz.func526 rfl ?_ (.inr (aJ (bM _) ⟨trivial,trivial⟩))
 refine ZP ?_
 refine CH (ι:=Nat) (λk=>[(0,.F .one [I (s)]),(1,.F .one [I ((n:Nat):Int)]),(6,.F .one (aH .own (q8 k))),(7,.F .one [I ((k:Nat):Int)])]) (λk=>k<=n) (λk=>n - k) (0) ?_ (C1 _) λk y=>?_
 ·exact wB
 have h:=wm k;by_cases B:k<n
 ·repeat'(first|refine gE ?_|refine Ap.sm (aW λ_=>rfl) rfl (by simp;omega) (by decide) (oD (rI .own) (q8 k) (k:Int)) ?_)
  (refine CF (k+1) ω ω ?_)
  rw[yJ];exact wB
 obtain rfl:k=n:=ω
 refine ZE ?_
 refine CH (ι:=Nat) (λj=>[(0,.F .one [I ((fk k s j).2)]),(6,.F .one (aH .own (fk k s j).1)),(8,.F .one [I (((k:Int) - 1 - j))])]) (λj=>(j<=k - 1/\j<=k)) (λj=>k - j) (0) ?_ ω λj C=>?_
 ·exact wB
 obtain⟨D,l,o⟩:=ml k d j;by_cases E:j<k - 1
 ·have q:(k:Int) - 1 - j=((k - 1 - j:Nat):Int):=ω
  have r:=qf (fk k s j).2 (n:=((k - 1 - j:Nat)+1:Int)) ω;have t:=xo (fk k s j).2 ((k - 1 - j:Nat)+1:Int) ⟨l,o⟩ ω;have u:fk k s (j+1)=(ww (fk k s j).1 (k - 1 - j) (Gf (fk k s j).2 ((k - 1 - j:Nat)+1:Int)).toNat,AF (fk k s j).2):=rfl;rw[q];generalize fk k s j=p at *;obtain⟨xs,z⟩:=p;simp only at *;generalize k - 1 - j=i at *;have a:=ar (xs:=xs) (i:=i) ω;have b:=ar (xs:=xs) (i:=(Gf z (i+1)).toNat) ω;have c:=Dt (xs:=xs) (i:=i) (k:=(Gf z (i+1)).toNat) (nth xs (Gf z (i+1)).toNat) ω
  repeat'(first|refine gE ?_|refine CM ω (aa b) ?_|refine CN rfl rfl (aa a) rfl (C2 rfl) rfl ?_|refine CM ω c ?_|refine CN rfl rfl c rfl (C2 rfl) rfl ?_)
  (refine CF (j+1) ω ω ?_)
  rw[u];simp only[aH,G9];exact wB
 obtain rfl:j=k - 1:=ω
 refine ZE ?_
 rfl
def BH(n:Nat)(s:Int)(d:0<=s/\s<=1073741823)(w:n<=64):zzA 495 false [.val none [I s],.val none [I (n:Nat)]] (.tup [none,none]) (aH .own (shuf n s).1++[I (shuf n s).2]):=by
 have g:=uv s d;have e:=aO (n:Nat) 0 64;rw[O0 ω]at e;refine fO 60 [(12,270,[43,44,45,46,47,48,49,50,51,52,53,54,55,56,0,1,2,3,4,5,6,7,8,9,10,11,12,13,1002,1003,14,15])] Tryz.func495 rfl ?_ (.inr (aJ (bM _) ⟨trivial,trivial⟩))
 refine ZP ?_
 refine CH (ι:=Nat) (λk=>[(0,.F .one [I (s)]),(1,.F .one [I ((n:Nat):Int)]),(6,.F .one (aH .own (q8 k))),(7,.F .one [I ((k:Nat):Int)])]) (λk=>k<=n) (λk=>n - k) (0) ?_ (C1 _) λk y=>?_
 ·exact wB
 have h:=wm k;by_cases B:k<n
 ·repeat'(first|refine gE ?_|refine Ap.sm (aW λ_=>rfl) rfl (by simp;omega) (by decide) (oD (rI .own) (q8 k) (k:Int)) ?_)
  (refine CF (k+1) ω ω ?_)
  rw[yJ];exact wB
 obtain rfl:k=n:=ω
 refine ZE ?_
 refine CH (ι:=Nat) (λj=>[(0,.F .one [I ((fk k s j).2)]),(6,.F .one (aH .own (fk k s j).1)),(8,.F .one [I (((k:Int) - 1 - j))])]) (λj=>(j<=k - 1/\j<=k)) (λj=>k - j) (0) ?_ ω λj C=>?_
 ·exact wB
 obtain⟨D,l,o⟩:=ml k d j;by_cases E:j<k - 1
 ·have q:(k:Int) - 1 - j=((k - 1 - j:Nat):Int):=ω
  have r:=qf (fk k s j).2 (n:=((k - 1 - j:Nat)+1:Int)) ω;have t:=wz (fk k s j).2 ((k - 1 - j:Nat)+1:Int) ⟨l,o⟩ ω;have u:fk k s (j+1)=(ww (fk k s j).1 (k - 1 - j) (Gf (fk k s j).2 ((k - 1 - j:Nat)+1:Int)).toNat,AF (fk k s j).2):=rfl;rw[q];generalize fk k s j=p at *;obtain⟨xs,z⟩:=p;simp only at *;generalize k - 1 - j=i at *;have a:=ar (xs:=xs) (i:=i) ω;have b:=ar (xs:=xs) (i:=(Gf z (i+1)).toNat) ω;have c:=Dt (xs:=xs) (i:=i) (k:=(Gf z (i+1)).toNat) (nth xs (Gf z (i+1)).toNat) ω
  repeat'(first|refine gE ?_|refine CM ω (aa b) ?_|refine CN rfl rfl (aa a) rfl (C2 rfl) rfl ?_|refine CM ω c ?_|refine CN rfl rfl c rfl (C2 rfl) rfl ?_)
  (refine CF (j+1) ω ω ?_)
  rw[u];simp only[aH,G9];exact wB
 obtain rfl:j=k - 1:=ω
 refine ZE ?_
 rfl
def uG(b:Int):Nat->Nat
 | 0=>0
 | n+1=>uG b n+(if aX b (n:Nat)=true then 1 else 0)
theorem uO(b:Int):∀n,uG b n<=n
 | 0=>I4 _
 | n+1=>by have:=uO b n;grind [uG]
def x7(b:Int)(d:b<=9223372036854775807):zzA 525 false [.val none [I b]] .one [I (uG b 16:Nat)]:=by
 refine fO 15 [] Tryz.func525 rfl ?_
 refine ZP ?_
 refine CH (ι:=Nat) (λk=>[(0,.F .one [I (b)]),(3,.F .one [I ((uG b k:Nat):Int)]),(4,.F .one [I ((k:Nat):Int)])]) (λk=>k<=16) (λk=>16 - k) (0) ?_ (C1 _) λk g=>?_
 ·exact wB
 have h:=uO b k;by_cases i:k<16
 ·have a:=jm b (k:Nat) d
  have c:uG b (k+1)=uG b k+(if aX b (k:Nat)=true then 1 else 0):=rfl;cases e:aX b (k:Nat)<;>rw[e]at a c
  all_goals
   refine ZE ?_
   (refine CF (k+1) ω ω ?_)
   rw[c];exact wB
 obtain rfl:k=16:=ω
 refine ZE ?_
 rfl
def xz(b:Int)(d:b<=9223372036854775807):zzA 494 false [.val none [I b]] .one [I (uG b 16:Nat)]:=by
 refine fO 15 [] Tryz.func494 rfl ?_
 refine ZP ?_
 refine CH (ι:=Nat) (λk=>[(0,.F .one [I (b)]),(3,.F .one [I ((uG b k:Nat):Int)]),(4,.F .one [I ((k:Nat):Int)])]) (λk=>k<=16) (λk=>16 - k) (0) ?_ (C1 _) λk g=>?_
 ·exact wB
 have h:=uO b k;by_cases i:k<16
 ·have a:=ip b (k:Nat) d
  have c:uG b (k+1)=uG b k+(if aX b (k:Nat)=true then 1 else 0):=rfl;cases e:aX b (k:Nat)<;>rw[e]at a c
  all_goals
   refine ZE ?_
   (refine CF (k+1) ω ω ?_)
   rw[c];exact wB
 obtain rfl:k=16:=ω
 refine ZE ?_
 rfl
def uL(h:ac)(s:au):Bool:=decide (0<uG s.r 16)&&decide ((aQ h s.R).length=1)
def kz(h:ac):Nat->List au
 | 0=>[]
 | n+1=>if uL h (nth h.H n)=true then kz h n++[nth h.H n] else kz h n
def i6(h:ac):List au:=kz h h.H.length
theorem qG(h:ac):∀n,(kz h n).length<=n
 | 0=>I4 _
 | n+1=>by have:=qG h n;grind [kz]
theorem vm(h:ac):∀{n:Nat},n<=h.H.length->∀s∈kz h n,s∈h.H
 | 0,_,s,a=>by cases a
 | n+1,b,s,a=>by
  simp only[kz]at a;split at a
  ·rcases C4.1 a with a|a
   ·exact vm h ω s a
   grind [aE]
  exact vm h ω s a
theorem yO(h:ac)(g:x8 h)(o:h.H.length<=1000)(p:gr h<=1000)(i:∀s∈h.H,s.r<=9223372036854775807):zzA 427 false [.val (some 24) (ac.enc .O h)] .one (bt .own (i6 h)):=by
 refine fO 42 [(5,16,[13,14,15,16,17,18,19,20,21,22,23,24,25,26,27,28])] Tryz.func427 rfl ?_ (.inr (tg _))
 refine ZP ?_
 refine CH (ι:=Nat) (λk=>[(1,.F .box (ac.enc .O h)),(3,.F .one (bt .own (kz h k))),(4,.F .one [I ((k:Nat):Int)])]) (λk=>k<=h.H.length) (λk=>h.H.length - k) (0) ?_ (C1 _) λk q=>?_
 ·exact wB
 have j:=qG h k;by_cases e:k<h.H.length
 ·have c:=ar e
  have d:=x7 (nth h.H k).r (i _ (aE e));have b:=iN h (nth h.H k).R g;have l:=fG h (nth h.H k).R;have n:=uO (nth h.H k).r 16;have a:kz h (k+1)=if uL h (nth h.H k)=true then kz h k++[nth h.H k] else kz h k:=rfl
  by_cases r:0<uG (nth h.H k).r 16
  ·by_cases t:(aQ h (nth h.H k).R).length=1
   ·rw[CG (by grind [uL])]at a
    repeat'(first|refine gB ?_|refine CJ (b) ⟨⟨rfl,rfl⟩,⟨rfl,rfl⟩,trivial⟩ ?_|refine Ap.sm (aW λ_=>rfl) rfl (by simp;omega) (by decide) (oD (au.enc .own) (kz h k) (nth h.H k)) ?_)
    (refine CF (k+1) ω ω ?_)
    rw[a];exact wB
   rw[CD (by grind [uL])]at a
   refine ZB ?_
   (refine CF (k+1) ω ω ?_)
   rw[a];exact wB
  rw[CD (by grind [uL])]at a
  refine ZE ?_
  (refine CF (k+1) ω ω ?_)
  rw[a];exact wB
 obtain rfl:k=h.H.length:=ω
 refine ZE ?_
 rfl
theorem y7(h:ac)(g:x8 h)(o:h.H.length<=1000)(p:gr h<=1000)(i:∀s∈h.H,s.r<=9223372036854775807):zzA 388 false [.val (some 24) (ac.enc .O h)] .one (bt .own (i6 h)):=by
 refine fO 32 [] Tryz.func388 rfl ?_ (.inr (tg _))
 refine ZP ?_
 refine CH (ι:=Nat) (λk=>[(1,.F .box (ac.enc .O h)),(3,.F .one (bt .own (kz h k))),(8,.F .one (bt .O h.H)),(9,.F .one [I (h.H.length)]),(10,.F .one [I ((k:Nat):Int)])]) (λk=>k<=h.H.length) (λk=>h.H.length - k) (0) ?_ (C1 _) λk q=>?_
 ·exact wB
 have j:=qG h k;by_cases e:k<h.H.length
 ·have b:=ar e
  have c:=xz (nth h.H k).r (i _ (aE e));have d:=kM h (nth h.H k).R g;have l:=fG h (nth h.H k).R;have n:=uO (nth h.H k).r 16;have a:kz h (k+1)=if uL h (nth h.H k)=true then kz h k++[nth h.H k] else kz h k:=rfl
  by_cases r:0<uG (nth h.H k).r 16
  ·by_cases t:(aQ h (nth h.H k).R).length=1
   ·rw[CG (by grind [uL])]at a
    repeat'(first|refine gB ?_|refine Ap.sm (aW λ_=>rfl) rfl (by simp;omega) (by decide) (oD (au.enc .own) (kz h k) (nth h.H k)) ?_)
    (refine CF (k+1) ω ω ?_)
    rw[a];exact wB
   rw[CD (by grind [uL])]at a
   refine ZB ?_
   (refine CF (k+1) ω ω ?_)
   rw[a];exact wB
  rw[CD (by grind [uL])]at a
  refine ZE ?_
  (refine CF (k+1) ω ω ?_)
  rw[a];exact wB
 obtain rfl:k=h.H.length:=ω
 refine ZE ?_
 rfl
def AE(s:au)(c:Nat):Bool:=aX s.r (((c:Nat):Int) / csz s.Z)
def wH(s:au)(n:Nat):List Int:=((List.range n).filter (AE s)).map λ(i:Nat)=>(i:Int)
def LF(h:AE s n=true):wH s (n+1)=wH s n++[(n:Int)]:=by
 unfold wH;rw[List.range_succ,List.filter_append,Z7];simp[h]
def Qq(h:AE s n=false):wH s (n+1)=wH s n:=by
 unfold wH;rw[List.range_succ,List.filter_append,Z7];simp[h]
def mV(s:au)(n:Nat):(wH s n).length<=n:=by
 unfold wH;rw[Z1];exact Y6 (List.length_filter_le _ _) (by simp)
def Mr(a:bc s=true){c:Nat}(d:c<16):0<=((c:Nat):Int) / csz s.Z/\((c:Nat):Int) / csz s.Z<=15:=by
 have f:=aP a;have b:csz s.Z=1\/csz s.Z=2\/csz s.Z=4\/csz s.Z=8:=dN ω;rcases b with e|e|e|e<;>rw[e]<;>omega
def qF(s:au)(a:bc s=true):zzA 527 false [.val (some 3) (au.enc .O s)] .one (aH .own (wH s 16)):=by
 have b:=hO s;rw[a]at b;have g:=aP a;have n:=dN g.2.2;refine fO 27 [(5,7,[14,15,16,17,18,19,20])] Tryz.func527 rfl ?_ (.inr (bM _))
 refine ZP ?_
 refine CH (ι:=Nat) (λi=>[(1,.F .box (au.enc .O s)),(3,.F .one (aH .own (wH s i))),(4,.F .one [I ((i:Nat):Int)])]) (λi=>i<=16) (λi=>16 - i) (0) ?_ (C1 _) λi o=>?_
 ·exact wB
 have h:=mV s i;by_cases j:i<16
 ·have k:=Mr a j
  have d:IntKind.i64.wrap (((i:Nat):Int).tdiv (csz s.Z))=((i:Nat):Int) / csz s.Z:=by rw[o7 ω];exact gV ω ω
  have c:=jm s.r (((i:Nat):Int) / csz s.Z) (fD a).2;cases e:AE s i
  ·rw[show aX s.r (((i:Nat):Int) / csz s.Z)=false from e]at c
   repeat'(first|refine gE ?_|refine CA (gc _) ?_|refine CP ω ?_|refine CO d ?_)
   (refine CF (i+1) ω ω ?_)
   rw[Qq e];exact wB
  rw[show aX s.r (((i:Nat):Int) / csz s.Z)=true from e]at c
  repeat'(first|refine gE ?_|refine CA (gc _) ?_|refine CP ω ?_|refine CO d ?_|refine CS cR (λr l=>by rw[I2.1 l];rfl) (by simp[bm,eX]) (by simp;omega) (by simp only[Z1];exact v8 (by simp;omega) (by decide)) rfl ?_)
  (refine CF (i+1) ω ω ?_)
  rw[LF e]
  (repeat'(first|exact trivial|rfl|exact CC rfl (CC (I1 (C.s dY.own) (by simp[rI])) trivial)|refine CC ?_ ?_))
 obtain rfl:i=16:=ω
 refine ZE ?_
 rfl
def qI(s:au)(a:bc s=true):zzA 436 false [.val (some 3) (au.enc .O s)] .one (aH .own (wH s 16)):=by
 have c:=hM s;rw[a]at c;have g:=aP a;have n:=dN g.2.2;refine fO 26 [(7,7,[13,14,15,16,17,18,19])] Tryz.func436 rfl ?_ (.inr (bM _))
 refine ZP ?_
 refine CH (ι:=Nat) (λi=>[(1,.F .box (au.enc .O s)),(3,.F .one (aH .own (wH s i))),(4,.F .one [I ((i:Nat):Int)])]) (λi=>i<=16) (λi=>16 - i) (0) ?_ (C1 _) λi o=>?_
 ·exact wB
 have h:=mV s i;by_cases j:i<16
 ·have k:=Mr a j
  have d:IntKind.i64.wrap (((i:Nat):Int).tdiv (csz s.Z))=((i:Nat):Int) / csz s.Z:=by rw[o7 ω];exact gV ω ω
  have b:=ip s.r (((i:Nat):Int) / csz s.Z) (fD a).2;cases e:AE s i
  ·rw[show aX s.r (((i:Nat):Int) / csz s.Z)=false from e]at b
   repeat'(first|refine gE ?_|refine CA (eC _) ?_|refine CP ω ?_|refine CO d ?_)
   (refine CF (i+1) ω ω ?_)
   rw[Qq e];exact wB
  rw[show aX s.r (((i:Nat):Int) / csz s.Z)=true from e]at b
  repeat'(first|refine gE ?_|refine CA (eC _) ?_|refine CP ω ?_|refine CO d ?_|refine CS cR (λr l=>by rw[I2.1 l];rfl) (by simp[bm,eX]) (by simp;omega) (by simp only[Z1];exact v8 (by simp;omega) (by decide)) rfl ?_)
  (refine CF (i+1) ω ω ?_)
  rw[LF e]
  (repeat'(first|exact trivial|rfl|exact CC rfl (CC (I1 (C.s dY.own) (by simp[rI])) trivial)|refine CC ?_ ?_))
 obtain rfl:i=16:=ω
 refine ZE ?_
 rfl
structure ed where
 A:Int
 B:Int
deriving DecidableEq,Inhabited
def ed.enc(_:dY)(x:ed):List C:=[I x.A,I x.B]
def fj(o:dY)(x:List ed):List C:=[.s o (x.map (ed.enc o))]
def A9(x:List ed):gk (fj .own x):=⟨⟨.inl λh=>(by cases h),bu _ _ λ_ _=>⟨trivial,trivial,trivial⟩⟩,trivial⟩
def yk(xs:List ed)(pr:ed->Bool)(g:xs.length<=9223372036854775807):zzA 586 false [.val none (fj .O xs),.fn (pY Tryz.prog (Dp (some 2) (ed.enc .O) pr xs))] .one [I (eP pr xs)]:=by
 refine fO 19 [] Tryz.func586 rfl ?_
 refine ZP ?_
 refine CH (ι:=Nat) (λi=>[(0,.F .one (fj .O xs)),(1,.fv (pY Tryz.prog (Dp (some 2) (ed.enc .O) pr xs))),(7,.F .one [I xs.length]),(8,.F .one [I (i:Nat)])]) (λi=>i<=xs.length/\∀(j:Nat)(z:ed),j<i->xs[j]? = some z->pr z=false) (λi=>xs.length - i) 0 ?_ ⟨C1 _,λj z h=>ω⟩ λi d=>?_
 ·exact wB
 obtain⟨d,b⟩:=d;by_cases c:i<xs.length
 ·obtain⟨y,a⟩ : ∃y,xs[i]? = some y:=⟨_,X3 c⟩
  repeat'(first|refine gE ?_|refine Fv.mk (k:=.one) (rcs:=[B (pr y)]) ⟨y,I3 a,rfl,rfl,rfl⟩ ?_|refine Bf.P (λe=>?_) (λe=>?_))
  ·exact I1 (λz=>[I z]) (gd a ‹_› b).symm
  (conv=>whnf)
  refine CF (i+1) ⟨ω,fC a (by assumption) b⟩ ω ?_;exact wB
 refine ZE ?_
 exact I1 (λz=>[I z]) (iA ω b).symm
def vg(xs:List ed)(pr:ed->Bool)(a:xs.length<=9223372036854775807):zzA 562 false [.val none (fj .O xs),.fn (pY Tryz.prog (Dp (some 2) (ed.enc .O) pr xs))] .one [B (xs.any pr)]:=by
 refine fO 9 [] Tryz.func562 rfl ?_
 repeat'(first|refine gP ?_|refine CA (yk xs pr a) ?_)
 exact I1 (λz=>[B z]) (o9 pr xs)
def EG(i:Int)(p:ed):Bool:=decide (p.A=i) || decide (p.B=i)
def HS(p:ed)(i:Int):zzA 563 false [.val (some 2) (ed.enc .O p),.ptr [I i]] .one [B (EG i p)]:=by
 refine fO 14 [] Tryz.func563 rfl ?_
 repeat'(first|refine gP ?_|with_reducible refine Bf.E (λa=>?_) (λa=>?_))
 all_goals exact I1 (λz=>[B z]) ((by unfold EG;first|(simp[*];done)|(simp[*];rw[X6];simp)))
def AA(xs:List ed)(i:Int)(b:xs.length<=1048576):zzA 496 false [.val none (fj .O xs),.val none [I i]] .one [B (xs.any (EG i))]:=by
 refine fO 8 [] Tryz.func496 rfl ?_
 repeat'(first|refine gP ?_|refine Cq.mk (Dp (some 2) (ed.enc .O) (EG i) xs) (HS default i).has (λL k rcs a=>?_) ?_|refine CA (vg xs (EG i) ω) ?_)
 ·obtain⟨y,-,rfl,rfl,rfl⟩:=a
  exact HS y i
 rfl
def iY(a b:au):aV:=if(wH a 16).length<(wH b 16).length then⟨b.R,a.R,wH a 16⟩ else⟨a.R,b.R,wH b 16⟩
def AI(a b:au)(g:meshable a b=true)(h:bc a=true)(i:bc b=true):zzA 429 false [.val (some 3) (au.enc .O a),.val (some 3) (au.enc .O b)] (.tup [some 3,none]) (aV.enc .own (iY a b)++[B true]):=by
 have c:=ns a b;rw[g]at c;have d:=qF a h;have e:=qF b i;have j:=mV a 16;have k:=mV b 16;unfold iY;split
 ·refine fO 27 [(3,6,[11,12,13,14,15,16]),(5,6,[20,21,22,23,24,25])] Tryz.func429 rfl ?_ (.inr (aJ (aV.enc_fr _) ⟨trivial,trivial⟩))
  refine ZE ?_
  rfl
 refine fO 27 [(3,6,[11,12,13,14,15,16]),(5,6,[20,21,22,23,24,25])] Tryz.func429 rfl ?_ (.inr (aJ (aV.enc_fr _) ⟨trivial,trivial⟩))
 refine ZE ?_
 rfl
def AM(a b:au)(g:meshable a b=true)(h:bc a=true)(i:bc b=true):zzA 390 false [.val (some 3) (au.enc .O a),.val (some 3) (au.enc .O b)] (.tup [some 3,none]) (aV.enc .own (iY a b)++[B true]):=by
 have c:=nA a b;rw[g]at c;have d:=qI a h;have e:=qI b i;have j:=mV a 16;have k:=mV b 16;unfold iY;split
 ·refine fO 34 [(3,3,[13,14,15])] Tryz.func390 rfl ?_ (.inr (aJ (aV.enc_fr _) ⟨trivial,trivial⟩))
  refine ZE ?_
  rfl
 refine fO 34 [(3,3,[13,14,15])] Tryz.func390 rfl ?_ (.inr (aJ (aV.enc_fr _) ⟨trivial,trivial⟩))
 refine ZE ?_
 rfl
def Bc(p:aV):bk:=⟨p,0,0⟩
def GM(p:aV)(c:fH p=true)(a:aV.sml p):zzA 430 false [.val (some 3) (aV.enc .O p)] (.tup [some 5,none]) (bk.enc .own (Bc p)++[B true]):=by
 have b:=wF p a;rw[c]at b;have d:=uA (Bc p) a;refine fO 11 [] Tryz.func430 rfl ?_ (.inr (aJ (bk.enc_fr _) ⟨trivial,trivial⟩))
 refine ZP ?_
 rfl
def Hj(p:aV)(c:fH p=true)(a:aV.sml p):zzA 391 false [.val (some 3) (aV.enc .O p)] (.tup [some 5,none]) (bk.enc .own (Bc p)++[B true]):=by
 have b:=wU p a;rw[c]at b;have d:=sr p a;refine fO 11 [] Tryz.func391 rfl ?_ (.inr (aJ (bk.enc_fr _) ⟨trivial,trivial⟩))
 refine ZP ?_
 rfl
def rS(n:Nat){s:Int}(c:0<=s/\s<=1073741823):∀{j:Nat},j<=n - 1->∀x∈(fk n s j).1,0<=x/\x<n
 | 0,_,x,a=>by
  simp only[fk,q8,Y5,List.mem_range]at a;obtain⟨i,d,rfl⟩:=a;omega
 | j+1,e,x,a=>by
  have f:=(ml n c j).1;have b:=rS n c (j:=j) ω;have g:=qf (fk n s j).2 (n:=((n - 1 - j:Nat)+1:Int)) ω;simp only[fk,ww]at a;rcases Z8 a with a|rfl
  ·rcases Z8 a with a|rfl
   ·exact b x a
   exact b _ (aE ω)
  exact b _ (aE ω)
def tkn(out:List ed)(a:Int):Bool:=out.any (EG a)
def stp(a:List au)(p:List Int)(t i:Nat)(out:List ed):List ed:=
 if tkn out (nth p i)=false/\tkn out (nth p (p.length / 2+(i+t) % (p.length - p.length / 2)))=false/\meshable (nth a (nth p i).toNat) (nth a (nth p (p.length / 2+(i+t) % (p.length - p.length / 2))).toNat)=true then out++[⟨nth p i,nth p (p.length / 2+(i+t) % (p.length - p.length / 2))⟩] else out
def rX(a:List au)(p:List Int)(t:Nat)(out:List ed):Nat->List ed
 | 0=>out
 | i+1=>stp a p t i (rX a p t out i)
def mL(a:List au)(p:List Int):Nat->List ed
 | 0=>[]
 | t+1=>rX a p t (mL a p t) (p.length / 2)
def T6(a:List au)(p:List Int)(t i:Nat)(out:List ed):(stp a p t i out).length<=out.length+1:=by unfold stp;split<;>simp
def u6(a:List au)(p:List Int)(t:Nat)(out:List ed):∀i,(rX a p t out i).length<=out.length+i
 | 0=>I4 _
 | i+1=>by have b:=u6 a p t out i;have c:=T6 a p t i (rX a p t out i);simp only[rX];omega
def zP(a:List au)(p:List Int):∀t,(mL a p t).length<=t*(p.length / 2)
 | 0=>C1 _
 | t+1=>by have b:=zP a p t;have c:=u6 a p t (mL a p t) (p.length / 2);simp only[mL];rw[Nat.add_mul];omega
def lI(a:List au)(s:Int):List ed:=mL a (shuf a.length s).1 3
def pV(n:Nat)(out:List ed):List Bool:=(List.range n).map λ(i:Nat)=>tkn out (i:Nat)
def M2{out:List ed}(h:0<=a/\a<n):(pV n out)[a.toNat]? = some (tkn out a):=by
 unfold pV;rw[O4,v9 ω];show some (tkn out ((a.toNat:Nat):Int))=_;rw[Int.toNat_of_nonneg h.1]
def Ru{out:List ed}(f:0<=a/\a<n)(g:0<=b/\b<n):pV n (out++[⟨a,b⟩])=((pV n out).set a.toNat true).set b.toNat true:=by
 unfold pV;apply List.ext_getElem?;intro i;by_cases c:i<n
 ·rw[O4,v9 c]
  by_cases d:b.toNat=i
  ·subst d
   rw[t5 (by simp;omega)];simp only[I7,tkn,List.any_append,List.any_cons,List.any_nil,EG];rw[Int.toNat_of_nonneg g.1];simp
  rw[List.getElem?_set_ne d];by_cases e:a.toNat=i
  ·subst e
   rw[t5 (by simp;omega)];simp only[I7,tkn,List.any_append,List.any_cons,List.any_nil,EG];rw[Int.toNat_of_nonneg f.1];simp
  rw[List.getElem?_set_ne e,O4,v9 c];simp only[I7,tkn,List.any_append,List.any_cons,List.any_nil,EG];rw[Z0 ω,Z0 ω];simp
 rw[Z3 (by simp;omega),Z3 (by simp;omega)]
def Tf(n:Nat):(pV n []).map (rB .own)=List.replicate n [B false]:=by
 unfold pV;rw[List.map_map];apply List.ext_getElem?;intro i;rw[O4];by_cases a:i<n
 ·rw[v9 a,List.getElem?_replicate];simp[a];rfl
 rw[Z3 (by simp;omega),List.getElem?_replicate];simp[a]
def Nq{xs:List Bool}{k:Nat}(v:Bool)(a:k<xs.length):((xs.map (rB .own)).set i (rB .own v))[k]? = some (rB .own (nth (xs.set i v) k)):=by
 rw[<-S8];exact aa (ar (by rw[O2];exact a))
def xA(c:List au)(s:Int)(u:0<=s/\s<=1073741823)(V:c.length<=16):zzA 428 false [.val none (bt .O c),.val none [I s],.val none [I 3]] (.tup [none,none]) (fj .own (lI c s)++[I (shuf c.length s).2]):=by
 have J:=aS s 0 1073741823;rw[O0 u]at J;have K:=aS 3 0 16;rw[O0 ω]at K;have Q:=AL c.length s u ω;have D:=(ml c.length u (c.length - 1)).1;have e:=rS c.length u (I4 _);unfold lI;change (shuf c.length s).1.length=_ at D;change ∀x∈(shuf c.length s).1,_ at e
 have E:gk (fj .own (mL c (shuf c.length s).1 3)++[I (shuf c.length s).2]):=aJ (A9 _) ⟨trivial,trivial⟩;generalize shuf c.length s=q at *;obtain⟨p,z⟩:=q;simp only at *;have F:((p.length:Nat):Int).tdiv 2=((p.length / 2:Nat):Int):=by rw[Int.tdiv_eq_ediv_of_nonneg ω];omega
 have g:C.s dY.own ((pV c.length []).map (rB .own))=C.s dY.own (List.replicate c.length [B false]):=by rw[Tf]
 have h:∀i:Nat,i<p.length->0<=nth p i/\nth p i<c.length:=λi R=>e _ (aE R)
 refine fO 110 [(15,21,[73,74,75,76,77,78,79,80,81,82,83,84,85,86,87,88,89,90,91,92,93])] Tryz.func428 rfl ?_ (.inr E)
 repeat'(first|refine gE ?_|with_reducible refine CO ((I1 _ F).trans (gV ω ω)) ?_|refine CP (by decide) ?_|refine Mk.mk c.length rfl rfl ω (v8 ω (by decide)) rfl ?_)
 refine CH (ι:=Nat) (λt=>[(0,.F .one (bt .O c)),(2,.F .one [I (3)]),(8,.F .one (fj .own (mL c p t))),(9,.F .one (aH .own p)),(10,.F .one [I (z)]),(11,.F .one [I (((p.length / 2):Nat):Int)]),(12,.F .one (fX .own (pV c.length (mL c p t)))),(13,.F .one [I ((t:Nat):Int)])]) (λt=>t<=3) (λt=>3 - t) (0) ?_ (C1 _) λt S=>?_
 ·repeat'(first|exact trivial|rfl |exact N4 g|refine CC ?_ ?_|(exact TF (by first|omega|(simp only;omega)|(simp;omega))))
 have W:=zP c p t;have ol2:t*(p.length / 2)<=3*8:=Nat.mul_le_mul S ω;by_cases X:t<3
 ·refine ZE ?_
  refine CH (ι:=Nat) (λj=>[(0,.F .one (bt .O c)),(2,.F .one [I (3)]),(8,.F .one (fj .own (rX c p t (mL c p t) j))),(9,.F .one (aH .own p)),(10,.F .one [I (z)]),(11,.F .one [I (((p.length / 2):Nat):Int)]),(12,.F .one (fX .own (pV c.length (rX c p t (mL c p t) j)))),(13,.F .one [I ((t:Nat):Int)]),(14,.F .one [I ((j:Nat):Int)])]) (λj=>j<=p.length / 2) (λj=>p.length / 2 - j) (0) ?_ (C1 _) λj Y=>?_
  ·repeat'(first|exact trivial|rfl |exact N4 g|refine CC ?_ ?_|(exact TF (by first|omega|(simp only;omega)|(simp;omega))))
  have Z:=u6 c p t (mL c p t) j;by_cases lj:j<p.length / 2
  ·have L:(j+t) % (p.length - p.length / 2)<p.length - p.length / 2:=Nat.mod_lt _ ω
   have G:((j:Int)+t).tmod ((p.length:Int) - (p.length / 2:Nat))=(((j+t) % (p.length - p.length / 2):Nat):Int):=by
    rw[gZ ω,Int.natCast_emod];congr 1;omega
   have d:rX c p t (mL c p t) (j+1)=stp c p t j (rX c p t (mL c p t) j):=rfl;unfold stp at d;generalize rX c p t (mL c p t) j=out at *;have l:p.length / 2+(j+t) % (p.length - p.length / 2)<p.length:=ω
   generalize hk:(j+t) % (p.length - p.length / 2)=k at *;have n:=ar (xs:=p) (i:=j) ω;have o:=ar (xs:=p) (i:=p.length / 2+k) l;have w:=h j ω;have r:=h _ l;generalize nth p j=a at *;generalize nth p (p.length / 2+k)=b at *;have y:=M2 (out:=out) w;have H:=M2 (out:=out) r;have T:=ar (xs:=c) (i:=a.toNat) ω;have U:=ar (xs:=c) (i:=b.toNat) ω;have M:=ns (nth c a.toNat) (nth c b.toNat);have ub2:=Nq (xs:=pV c.length out) (i:=a.toNat) (k:=b.toNat) true (by simp[pV];omega);cases N:tkn out a<;>cases O:tkn out b<;>cases P:meshable (nth c a.toNat) (nth c b.toNat)
   all_goals
    rw[N]at y;rw[O]at H;rw[P]at M;rw[N,O,P]at d;simp only[and_true,true_and,if_true,Bool.false_eq_true,Bool.true_eq_false,and_false,false_and,if_false]at d
    repeat'(first|refine gE ?_|refine CU G ?_|refine CP ω ?_|refine CM ω (aa o) ?_|refine CM w.1 (aa y) ?_|refine CM r.1 (aa H) ?_|refine CM w.1 (aa T) ?_|refine CM r.1 (aa U) ?_|refine CN rfl rfl (aa y) rfl (C2 rfl) rfl ?_|refine CM r.1 ub2 ?_|refine CN rfl rfl ub2 rfl (C2 rfl) rfl ?_|refine Ap.sm (aW λ_=>rfl) rfl (by simp;omega) (by decide) (oD (ed.enc .own) out ⟨a,b⟩) ?_)
    (refine CF (j+1) ω ω ?_)
    rw[d]
    first|(rw[Ru w r];simp only[fX,S8])|skip
    exact wB
  obtain rfl:j=p.length / 2:=ω
  refine ZE ?_
  (refine CF (t+1) ω ω ?_;(exact wB))
 obtain rfl:t=3:=ω
 refine ZE ?_
 rfl
def sW(x:List ed):fo (fj .own x)=fj .O x:=by simp[fo,fj,ed.enc,<-dh,C8]
def xH(c:List au)(s:Int)(r:0<=s/\s<=1073741823)(Y:c.length<=16):zzA 389 false [.val none (bt .O c),.val none [I s],.val none [I 3]] (.tup [none,none]) (fj .own (lI c s)++[I (shuf c.length s).2]):=by
 have O:=uv s r;have H:=aO 3 0 16;rw[O0 ω]at H;have P:=BH c.length s r ω;have g:=(ml c.length r (c.length - 1)).1;have h:=rS c.length r (I4 _);unfold lI;change (shuf c.length s).1.length=_ at g;change ∀x∈(shuf c.length s).1,_ at h
 have y:gk (fj .own (mL c (shuf c.length s).1 3)++[I (shuf c.length s).2]):=aJ (A9 _) ⟨trivial,trivial⟩;generalize shuf c.length s=q at *;obtain⟨p,z⟩:=q;simp only at *;have B:((p.length:Nat):Int).tdiv 2=((p.length / 2:Nat):Int):=by rw[Int.tdiv_eq_ediv_of_nonneg ω];omega
 have D:fz (C.s dY.own (p.map (rI .own)))=C.s dY.O (p.map (rI .O)):=(List.cons.inj (dK p)).1;have l:(p.drop (p.length / 2)).length=p.length - p.length / 2:=Y4 ..;have Q:(p.take (p.length / 2)).length=p.length / 2:=by rw[Z2];omega
 have n:∀i:Nat,i<p.length->0<=nth p i/\nth p i<c.length:=λi R=>h _ (aE R)
 have d:((c.length:Nat):Int).tdiv 2=((p.length / 2:Nat):Int):=by rw[<-g];exact B
 refine fO 99 [(5,264,[39,40,41,42,43,44,45,46,0,1,2,3,4,5,6,7,8,1004,1005,1006,1007,9]),(14,19,[69,70,71,72,73,74,75,76,77,78,79,80,81,82,83,84,85,86,87]),(1048581,9,[0])] Tryz.func389 rfl ?_ (.inr y)
 repeat'(first|refine gE ?_|with_reducible refine CO ((I1 _ d).trans (gV ω ω)) ?_|refine CP (by decide) ?_|refine Me.mk rfl D rfl ?_|refine CX (p.length / 2) d (by rw[Z1];omega) (aW λ_=>rfl) O5 ?_|refine Sl.suf (p.length / 2) d (by rw[Z1];omega) (aW λ_=>rfl) X5 ?_)
 refine CH (ι:=Nat) (λt=>[(0,.F .one (bt .O c)),(2,.F .one [I (3)]),(10,.F .one [I (z)]),(11,.F .one (aH .O (p.take (p.length / 2)))),(12,.F .one (aH .O (p.drop (p.length / 2)))),(13,.F .one (fj .own (mL c p t))),(14,.F .one [I ((t:Nat):Int)])]) (λt=>t<=3) (λt=>3 - t) (0) ?_ (C1 _) λt S=>?_
 ·exact wB
 have Z:=zP c p t;have ol2:t*(p.length / 2)<=3*8:=Nat.mul_le_mul S ω;by_cases lt:t<3
 ·refine ZE ?_
  refine CH (ι:=Nat) (λj=>[(0,.F .one (bt .O c)),(2,.F .one [I (3)]),(10,.F .one [I (z)]),(11,.F .one (aH .O (p.take (p.length / 2)))),(12,.F .one (aH .O (p.drop (p.length / 2)))),(13,.F .one (fj .own (rX c p t (mL c p t) j))),(14,.F .one [I ((t:Nat):Int)]),(53,.F .one (aH .O (p.take (p.length / 2)))),(54,.F .one [I (((p.length / 2):Nat):Int)]),(55,.F .one [I ((j:Nat):Int)])]) (λj=>j<=p.length / 2) (λj=>p.length / 2 - j) (0) ?_ (C1 _) λj hj=>?_
  ·exact wB
  have rl:=u6 c p t (mL c p t) j;by_cases T:j<p.length / 2
  ·have J:(j+t) % (p.length - p.length / 2)<p.length - p.length / 2:=Nat.mod_lt _ ω
   have E:((j:Int)+t).tmod ((p.length - p.length / 2:Nat):Int)=(((j+t) % (p.length - p.length / 2):Nat):Int):=by
    rw[gZ ω,Int.natCast_emod];congr 1
   have e:rX c p t (mL c p t) (j+1)=stp c p t j (rX c p t (mL c p t) j):=rfl;unfold stp at e;generalize rX c p t (mL c p t) j=out at *;have o:p.length / 2+(j+t) % (p.length - p.length / 2)<p.length:=ω
   generalize hk:(j+t) % (p.length - p.length / 2)=k at *;have F:(p.take (p.length / 2))[j]? = some (nth p j):=by rw[List.getElem?_take,CG T];exact ar ω
   have G:(p.drop (p.length / 2))[k]? = some (nth p (p.length / 2+k)):=by rw[List.getElem?_drop];exact ar o
   have U:=n j ω;have V:=n _ o;generalize nth p j=a at *;generalize nth p (p.length / 2+k)=b at *;have K:=AA out a ω;have L:=AA out b ω;have W:=ar (xs:=c) (i:=a.toNat) ω;have X:=ar (xs:=c) (i:=b.toNat) ω;have M:=nA (nth c a.toNat) (nth c b.toNat);cases u:tkn out a<;>cases w:tkn out b<;>cases N:meshable (nth c a.toNat) (nth c b.toNat)
   all_goals
    unfold tkn at u w;rw[u]at K;rw[w]at L;change (tkn out a)=_ at u;change (tkn out b)=_ at w;rw[N]at M;rw[u,w,N]at e;simp only[and_true,true_and,if_true,Bool.false_eq_true,Bool.true_eq_false,and_false,false_and,if_false]at e
    repeat'(first|refine gE ?_|refine CU (z:=(k:Int)) (by rw[l];exact E) ?_|refine CQ (show List.length (List.map _ (p.drop (p.length / 2)))=p.length - p.length / 2 by rw[Z1];exact l) ?_|refine CP ω ?_|refine CM ω (aa G) ?_|refine CM U.1 (aa W) ?_|refine CM V.1 (aa X) ?_|refine CJ (K) ⟨⟨rfl,sW _⟩,⟨rfl,rfl⟩,trivial⟩ ?_|refine CJ (L) ⟨⟨rfl,sW _⟩,⟨rfl,rfl⟩,trivial⟩ ?_|refine Ap.sm (aW λ_=>rfl) rfl (by simp;omega) (by decide) (oD (ed.enc .own) out ⟨a,b⟩) ?_)
    (refine CF (j+1) ω ω ?_)
    rw[e];exact wB
  obtain rfl:j=p.length / 2:=ω
  refine ZE ?_
  (refine CF (t+1) ω ω ?_;(exact wB))
 obtain rfl:t=3:=ω
 refine ZE ?_
 rfl
variable{rcs:List C}
def am.fzR{A:List RA}{k:Kd}(h:am P f sh A k rcs):am P f sh A k (fo rcs):=by
 obtain⟨c,d⟩:=h;refine⟨c,λw S g i j=>(d w S g i j).mono λe w1 l=>?_⟩;obtain⟨v,n,p,X,q,r,t,B,u,y⟩:=l;refine⟨v,n,p,NO,λb o=>q b o\/X b o,λ_ _ h=>h.elim,λb o a=>?_,λ_ _ h=>h.elim,by rw[dh,Z1];exact u,y.freeze⟩;rcases a with a|a
 ·exact t b o a
 exact .inr (r b o a)
structure Tx(ls:List au)(q:ed):Prop where
 a:0<=q.A/\q.A<ls.length
 b:0<=q.B/\q.B<ls.length
 m:meshable (nth ls q.A.toNat) (nth ls q.B.toNat)=true
def Md{b:List au}{p:List Int}(c:∀x∈p,0<=x/\x<b.length)(t:Nat){out:List ed}(d:∀q∈out,Tx b q):∀{i:Nat},i<=p.length / 2->∀q∈rX b p t out i,Tx b q
 | 0,_=>d
 | i+1,h=>λq a=>by
  have e:=Md c t d (i:=i) ω;simp only[rX,stp]at a;split at a
  ·rename_i g
   rcases C4.1 a with a|a
   ·exact e q a
   obtain rfl:=I2.1 a;have f:(i+t) % (p.length - p.length / 2)<p.length - p.length / 2:=Nat.mod_lt _ ω;exact⟨c _ (aE ω),c _ (aE ω),g.2.2⟩
  exact e q a
def LE{a:List au}{p:List Int}(b:∀x∈p,0<=x/\x<a.length):∀t,∀q∈mL a p t,Tx a q
 | 0=>λq c=>by cases c
 | t+1=>Md b t (LE b t) (I4 _)
def tL(a:List au){s:Int}(b:0<=s/\s<=1073741823):∀q∈lI a s,Tx a q:=LE (rS a.length b (I4 _)) 3
def RX(s:au)(n:Nat):(wH s n).Pairwise (· < ·):=by
 unfold wH;rw[List.pairwise_map];exact(List.pairwise_lt_range.sublist List.filter_sublist).imp λh=>ω
def U7 : ∀z∈wH s n,0<=z/\z<n:=λz a=>by
 unfold wH at a;simp only[Y5,Z5,List.mem_range]at a;obtain⟨c,⟨b,-⟩,rfl⟩:=a;omega
def zC(s:au):db (wH s 16).length (pq (wH s 16))=true:=by
 refine cq.2 λj a=>?_
 have c:=U7 _ (aE a);unfold pq;refine O0 ⟨ω,ω,?_⟩;by_cases e:j=0
 ·exact .inl e
 refine .inr ?_;have b:=List.pairwise_iff_getElem.1 (RX s 16) (j - 1) j ω a ω;rw[show nth (wH s 16) (j - 1)=(wH s 16)[j - 1] from b6 (X3 ω),show nth (wH s 16) j=(wH s 16)[j] from b6 (X3 a)];exact b
def vN{a b:au}(c:meshable a b=true):fH (iY a b)=true/\bc a=true/\bc b=true:=by
 unfold meshable at c;simp only[I0,C0]at c;have d:=aP c.1.1;have e:=aP c.1.2;refine⟨?_,c.1⟩;unfold iY fH;split
 ·simp only[I0,C0];exact⟨zC a,ω⟩
 simp only[I0,C0];exact⟨zC b,ω⟩
def zA(a b:au):aV.sml (iY a b):=by
 have c:=mV a 16;have d:=mV b 16;unfold iY aV.sml lw;split<;>simp only<;>omega
def bU(h:ac):List au:=(i6 h).take 16
def started(h:ac):ac × Bool:=match lI (bU h) h.a4 with
 | []=>({h with a4:=(shuf (bU h).length h.a4).2},false)
 | q::_=>({h with a4:=(shuf (bU h).length h.a4).2,j:=true,p:=Bc (iY (nth (bU h) q.A.toNat) (nth (bU h) q.B.toNat))},true)
def GC(a:cm h E):h.H.length<=32/\gr h<=32/\x8 h/\∀s∈h.H,s.r<=9223372036854775807:=by
 have b:=a.lens;refine⟨b.spans,b.ents,?_,λs c=>by have:=ek (a.L.sok s c);omega⟩;have:=(bS a.ker).1.2;exact this
def A8(h:ac):(bU h).length<=16:=by unfold bU;rw[Z2];omega
def PJ(x:List ed)(z:Int):fo (fj .own x++[I z])=fj .O x++[I z]:=by
 have h:=sW x;rw[dh]at h |-;rw[Z7,h];simp[fz]
def UF(h:ac):(bU h).map (au.enc .O)=((i6 h).map (au.enc .O)).take 16:=O5
def Ko(p:aV)(b:fH p=true)(c:aV.sml p):zzA 430 false [.val (some 3) (aV.enc .O p)] (.tup [some 5,none]) (zQ (Bc p)++[B true]):=by
 have h:=(GM p b c).fzR;have e:fo (bk.enc .own (Bc p)++[B true])=zQ (Bc p)++[B true]:=by
  have a:=bk.enc_fz (Bc p);rw[dh]at a |-;rw[Z7,a];simp[fz,bk.enc,zQ]
 rwa [e]at h
def Be(h:ac)(w:cm h []):zzB 279 false [.ptr (cU h)] [.ptr (cU (started h).1)] .one [B (started h).2]:=by
 obtain⟨w1,Q,H,J⟩:=GC w;have a:=w.nums;unfold dU at a;rw[C0]at a;have e:=(yO h H ω ω J).fzR;rw[gl]at e;have o:=A8 h;have b:=(xA (bU h) h.a4 ⟨a.1,a.2.1⟩ o).fzR;rw[PJ]at b;have g:=tL (bU h) ⟨a.1,a.2.1⟩;have K:=qG h h.H.length;have y:(i6 h).length<=32:=by unfold i6;omega
 have j:=UF h;unfold started;cases C:lI (bU h) h.a4 with
 | nil=>
  rw[C]at b;by_cases L:16<(i6 h).length
  ·refine fM 62 [] [(8,275,[34,35,36,37,38,39,40,41,42,43,44,45,46,47,48,33,49,50,6,0,1,2,3,4,5,6,7,8,9,10,11,12,13,14,15,16,17,18,19,1017,20])] [(0,0)] Tryz.func279 rfl (λu q=>?_)
   repeat'(first|refine gE ?_|refine CJ (e) ⟨⟨rfl,cw h⟩,trivial⟩ ?_|refine CX 16 rfl (by rw[Z1];omega) (aW λ_=>rfl) j ?_)
   refine CL rfl rfl ?_;exact wC
  have k:bU h=i6 h:=by unfold bU;exact I9 ω
  rw[k]at b;refine fM 62 [] [(8,275,[34,35,36,37,38,39,40,41,42,43,44,45,46,47,48,33,49,50,6,0,1,2,3,4,5,6,7,8,9,10,11,12,13,14,15,16,17,18,19,1017,20])] [(0,0)] Tryz.func279 rfl (λu q=>?_);rw[k]
  repeat'(first|refine gE ?_|refine CJ (e) ⟨⟨rfl,cw h⟩,trivial⟩ ?_)
  refine CL rfl rfl ?_;exact wC
 | cons q M=>
  rw[C]at b g;obtain⟨E,F,G⟩:=g q (C3 ..);obtain⟨N,O,P⟩:=vN G;have p:=AI _ _ G O P;have t:=Ko _ N (zA _ _);have c:=ar (xs:=bU h) (i:=q.A.toNat) ω;have d:=ar (xs:=bU h) (i:=q.B.toNat) ω;have l:(q::M)[0]? = some q:=rfl;by_cases L:16<(i6 h).length
  ·refine fM 62 [] [(8,275,[34,35,36,37,38,39,40,41,42,43,44,45,46,47,48,33,49,50,6,0,1,2,3,4,5,6,7,8,9,10,11,12,13,14,15,16,17,18,19,1017,20])] [(0,0)] Tryz.func279 rfl (λu r=>?_)
   repeat'(first|refine gE ?_|with_reducible refine Bf.D (λn=>absurd n (by simp)) (λn=>?_)|refine CJ (e) ⟨⟨rfl,cw h⟩,trivial⟩ ?_|refine CX 16 rfl (by rw[Z1];omega) (aW λ_=>rfl) j ?_|refine CM (by decide) (aa l) ?_|refine CM E.1 (aa c) ?_|refine CM F.1 (aa d) ?_|refine CJ (t) ⟨⟨rfl,aV.enc_fz _⟩,trivial⟩ ?_)
   refine CL rfl rfl ?_;exact wC
  have k:bU h=i6 h:=by unfold bU;exact I9 ω
  rw[k]at b p t c d;refine fM 62 [] [(8,275,[34,35,36,37,38,39,40,41,42,43,44,45,46,47,48,33,49,50,6,0,1,2,3,4,5,6,7,8,9,10,11,12,13,14,15,16,17,18,19,1017,20])] [(0,0)] Tryz.func279 rfl (λu r=>?_);rw[k]
  repeat'(first|refine gE ?_|with_reducible refine Bf.D (λn=>absurd n (by simp)) (λn=>?_)|refine CJ (e) ⟨⟨rfl,cw h⟩,trivial⟩ ?_|refine CM (by decide) (aa l) ?_|refine CM E.1 (aa c) ?_|refine CM F.1 (aa d) ?_|refine CJ (t) ⟨⟨rfl,aV.enc_fz _⟩,trivial⟩ ?_)
  refine CL rfl rfl ?_;exact wC
def dq(h:ac):ac × Bool:=if h.j=false/\ec h=true then started h else(h,false)
def E0(h:ac)(g:ac.sml h)(i:¬(h.j=false/\ec h=true)):zzA 249 false [.val (some 24) (ac.enc .O h)] (.tup [some 24,none]) (ge h++[B false]):=by
 have a:=gh h g;rw[jd]at a;have b:=mI h g;have c:ac.enc .O h=(ac.enc .O h).set 18 (B h.j):=rfl;cases d:h.j
 ·have j:ec h=false:=by
   rcases Bool.eq_false_or_eq_true (ec h) with e|e
   ·exact absurd ⟨d,e⟩ i
   exact e
  rw[j]at a;rw[d]at c;rw[c]at a b |-;refine fO 66 [(10,275,[41,42,43,44,45,46,47,48,49,50,51,52,53,54,55,40,56,57,8,0,1,2,3,4,5,6,7,8,9,10,11,12,13,14,15,16,17,18,19,1017,20])] Tryz.func249 rfl ?_ (.inr (aJ (na _) ⟨trivial,trivial⟩))
  refine ZP ?_
  rfl
 rw[d]at c;rw[c]at a b |-;refine fO 66 [(10,275,[41,42,43,44,45,46,47,48,49,50,51,52,53,54,55,40,56,57,8,0,1,2,3,4,5,6,7,8,9,10,11,12,13,14,15,16,17,18,19,1017,20])] Tryz.func249 rfl ?_ (.inr (aJ (na _) ⟨trivial,trivial⟩))
 refine ZP ?_
 rfl
def AS(h:ac)(t:ac.sml h)(H:h.j=false)(u:ec h=true):zzA 249 false [.val (some 24) (ac.enc .O h)] (.tup [some 24,none]) (ge (started h).1++[B (started h).2]):=by
 have w:=cm.of u;obtain⟨w1,U,J,K⟩:=GC w;have a:=w.nums;unfold dU at a;rw[C0]at a;have j:=gh h t;rw[jd,u]at j;have l:=mI h t;have k:=(y7 h J ω ω K).fzR;rw[gl]at k;have n:=A8 h;have c:=(xH (bU h) h.a4 ⟨a.1,a.2.1⟩ n).fzR;rw[PJ]at c;have d:=tL (bU h) ⟨a.1,a.2.1⟩;have L:=qG h h.H.length;have y:(i6 h).length<=32:=by unfold i6;omega
 have g:(bU h).map (au.enc .O)=((i6 h).map (au.enc .O)).take (bU h).length:=by
  unfold bU;rw[O5,Z2];by_cases e:16<=(i6 h).length
  ·rw[Nat.min_eq_left e]
  rw[Nat.min_eq_right ω,I9 (by rw[Z1];omega),I9 (by rw[Z1];omega)]
 have b:(bU h).length=if(i6 h).length<=16 then(i6 h).length else 16:=by unfold bU;rw[Z2];split<;>omega
 have C:ac.enc .O h=(ac.enc .O h).set 18 (B h.j):=rfl;rw[H]at C;rw[C]at j l k |-;unfold started;cases E:lI (bU h) h.a4 with
 | nil=>
  rw[E]at c;refine fO 66 [(10,275,[41,42,43,44,45,46,47,48,49,50,51,52,53,54,55,40,56,57,8,0,1,2,3,4,5,6,7,8,9,10,11,12,13,14,15,16,17,18,19,1017,20])] Tryz.func249 rfl ?_ (.inr (aJ (na _) ⟨trivial,trivial⟩))
  repeat'(first|refine gP ?_|refine CU (z:=((bU h).length:Int)) (by rw[b];simp;split<;>split<;>omega) ?_|refine CX (bU h).length rfl (by rw[Z1,b];split<;>omega) (aW λ_=>rfl) g ?_)
  rfl
 | cons q M=>
  rw[E]at c d;obtain⟨N,O,F⟩:=d q (C3 ..);obtain⟨P,Q,R⟩:=vN F;have S:=AM _ _ F Q R;have T:=Hj _ P (zA _ _);have o:=ar (xs:=bU h) (i:=q.A.toNat) ω;have p:=ar (xs:=bU h) (i:=q.B.toNat) ω;have r:(q::M)[0]? = some q:=rfl;refine fO 66 [(10,275,[41,42,43,44,45,46,47,48,49,50,51,52,53,54,55,40,56,57,8,0,1,2,3,4,5,6,7,8,9,10,11,12,13,14,15,16,17,18,19,1017,20])] Tryz.func249 rfl ?_ (.inr (aJ (na _) ⟨trivial,trivial⟩))
  repeat'(first|refine gP ?_|with_reducible refine Bf.D (λG=>absurd G (by simp)) (λG=>?_)|refine CU (z:=((bU h).length:Int)) (by rw[b];simp;split<;>split<;>omega) ?_|refine CX (bU h).length rfl (by rw[Z1,b];split<;>omega) (aW λ_=>rfl) g ?_|refine CM (by decide) (aa r) ?_|refine CM N.1 (aa o) ?_|refine CM O.1 (aa p) ?_|refine CJ (T) ⟨⟨rfl,aV.enc_fz _⟩,trivial⟩ ?_)
  rfl
def Ai(h:ac)(a:ac.sml h):zzA 249 false [.val (some 24) (ac.enc .O h)] (.tup [some 24,none]) (ge (dq h).1++[B (dq h).2]):=by
 unfold dq;split
 ·rename_i e;exact AS h a e.1 e.2
 rename_i e;exact E0 h a e
def Lj(xs:List Int)(x:Int)(h:xs.length<=4611686018427387904):zzA 435 false [.val none (aH .O xs),.val none [I x]] .one [I (eP (λy=>decide (y=x)) xs)]:=by
 refine fO 19 [] Tryz.func435 rfl ?_
 refine ZP ?_
 refine CH (ι:=Nat) (λi=>[(0,.F .one (aH .O xs)),(1,.F .one [I (x)]),(7,.F .one [I (xs.length)]),(8,.F .one [I ((i:Nat):Int)])]) (λi=>i<=xs.length/\∀(j:Nat)(z:Int),j<i->xs[j]? = some z->decide (z=x)=false) (λi=>xs.length - i) (0) ?_ (⟨C1 _,λj z d _=>absurd d (Nat.not_lt_zero _)⟩) λi c=>?_
 ·exact wB
 obtain⟨c,b⟩:=c;by_cases g:i<xs.length
 ·have a:=ar g
  by_cases e:nth xs i=x
  ·repeat'(first|refine gE ?_|refine Bf.t (by simp[e]) ?_)
   exact I1 (λz=>[I z]) (gd a (O0 e) b).symm
  repeat'(first|refine gE ?_|refine Bf.f (by simp[Ne.symm e]) ?_)
  (refine CF (i+1) ⟨ω,fC a (Z0 e) b⟩ ω ?_;(exact wB))
 refine ZE ?_
 exact I1 (λz=>[I z]) (iA ω b).symm
def sB(xs:List Int)(x:Int)(a:xs.length<=4611686018427387904):zzA 287 false [.val none (aH .O xs),.val none [I x]] .one [B (decide (x∈xs))]:=by
 refine fO 9 [] Tryz.func287 rfl ?_
 repeat'(first|refine gP ?_|refine CA (Lj xs x a) ?_)
 exact I1 (λz=>[B z]) ((by rw[o9];rw[X6];simp))
def dA(k:af):af:={k with Calls:=k.Calls+1}
def refd(k:af):Bool:=decide (k.Calls∈k.b)
def pf(k:af)(a:af.sml k)(d:0<=k.Calls/\k.Calls<=100000):zzA 459 false [.val (some 5) (af.enc .O k)] (.tup [some 5,none]) (af.enc .own (dA k)++[B (!refd k)]):=by
 have c:=gn k a;have g:k.b.length<=1048576:=a.2;have b:=sB k.b k.Calls ω;unfold refd;cases e:decide (k.Calls∈k.b)<;>rw[e]at b
 all_goals
  refine fO 18 [(3,263,[11,12,13,14,15,16,17,0,1,2,3,4,5,6,7,1006,8])] Tryz.func459 rfl ?_ (.inr (aJ (CY _) ⟨trivial,trivial⟩))
  refine ZP ?_
  rfl
def yo(k:af)(p:Int)(m:Int):af:={k with G:=⟨k.G.U,⟨k.G.Q.J.set p.toNat {nth k.G.Q.J p.toNat with l:=m}⟩⟩}
def ji(k:af)(p m:Int):af × Bool:=if refd k=true then(dA k,false) else(yo (dA k) p m,true)
def vw(k:af)(p m:Int):af.enc .own (yo k p m)=(af.enc .own k).set 2 (.s .own ((k.G.Q.J.map (aN.enc .own)).set p.toNat (aN.enc .own {nth k.G.Q.J p.toNat with l:=m}))):=by
 simp[af.enc,yo,S8]
def sF(k:af)(p m:Int)(b:aK k=true)(n:k.Calls≠100000)(j:(aC k.G.Q p).l≠0)(a:m=1\/m=2):zzA 559 false [.val (some 5) (af.enc .O k),.val none [I p],.val none [I m]] (.tup [some 5,none]) (af.enc .own (ji k p m).1++[B (ji k p m).2]):=by
 have c:=bS b;have o:=(aI.1 b).2.2.2;have d:=ir k c;rw[b,O0 n]at d;have g:=pf k c ⟨ω,ω⟩;have h:=eU k p c.1.2;rw[O0 j]at h;obtain⟨q,r,t⟩:=bY b j;have l:=ar (xs:=k.G.Q.J) (i:=p.toNat) ω;unfold ji;cases e:refd k<;>rw[e]at g
 ·rw[CD (by simp),vw]
  rcases a with rfl|rfl
  all_goals
   refine fO 46 [] Tryz.func559 rfl ?_ (.inr (aJ (by rw[<-vw];exact CY _) ⟨trivial,trivial⟩))
   repeat'(first|refine gP ?_|refine CM q (aa l) ?_|refine CN rfl rfl (aa l) rfl (C2 rfl) rfl ?_)
   rfl
 rw[CG rfl];rcases a with rfl|rfl
 all_goals
  refine fO 46 [] Tryz.func559 rfl ?_ (.inr (aJ (CY _) ⟨trivial,trivial⟩))
  refine ZP ?_
  rfl
variable{k:af}
def row16(a:aK k=true)(b:f<k.G.U.W.length):(nth k.G.U.W f).length=16:=by
 have:=(bh.1 (aI.1 a).2.1).2.2.2 f b;unfold jh at this;simp only[I0,C0]at this;omega
def setCell(k:af)(f:Nat)(c v:Int):af:={k with G:=⟨⟨k.G.U.W.set f ((nth k.G.U.W f).set c.toNat v),k.G.U.c⟩,k.G.Q⟩}
def xf(k:af)(f:Nat)(c v:Int):af.enc .own (setCell k f c v)=(af.enc .own k).set 0 (.s .own ((k.G.U.W.map (aH .own)).set f [.s .own (((nth k.G.U.W f).map (rI .own)).set c.toNat [I v])])):=by
 simp[af.enc,setCell,S8,aH,rI]
def jt(k:af)(p:Int):Nat:=(aC k.G.Q p).d.toNat
def ur(k:af)(a b c:Int):af:=setCell k (jt k b) c (nth (nth k.G.U.W (jt k a)) c.toNat)
def M8(k:af)(a b c:Int):Nat->af
 | 0=>k
 | _+1=>ur k a b c
def JX(k:af)(a b c:Int)(d:aK k=true)(C:k.Calls≠100000)(q:(aC k.G.Q a).l≠0)(r:(aC k.G.Q b).l≠0)(e:0<=c/\c<=15):zzA 560 false [.val (some 5) (af.enc .O k),.val none [I a],.val none [I b],.val none (aH .O [c])] (.tup [some 5,none]) (af.enc .own (ur k a b c)++[B true]):=by
 have h:=bS d;have t:=ir k h;rw[d,O0 C]at t;have D:=gn k h;have u:=eU k a h.1.2;have w:=eU k b h.1.2;rw[O0 q]at u;rw[O0 r]at w;have E:=eE k.G.Q a h.1.2;have F:=eE k.G.Q b h.1.2;have y:=Di c;rw[O0 e]at y;obtain⟨-,-,-,G,K⟩:=bY d q;obtain⟨-,-,-,H,L⟩:=bY d r;have J:=(bh.1 (aI.1 d).2.1).2.2.1;have M:=row16 d (f:=jt k a) (by unfold jt;omega);have N:=row16 d (f:=jt k b) (by unfold jt;omega);have l:k.G.U.W[(aC k.G.Q a).d.toNat]? = some (nth k.G.U.W (jt k a)):=ar ω;have g:k.G.U.W[(aC k.G.Q b).d.toNat]? = some (nth k.G.U.W (jt k b)):=ar ω;have o:=ar (xs:=nth k.G.U.W (jt k a)) (i:=c.toNat) ω;have n:=ar (xs:=nth k.G.U.W (jt k b)) (i:=c.toNat) ω;have p:[c][0]? = some c:=rfl;refine fO 77 [(4,268,[33,34,35,36,37,38,39,40,41,42,43,44,0,1,2,3,4,5,6,7,8,9,10,11,12,1011,13]),(10,18,[56,57,58,59,60,61,62,63,64,65,66,67,68,69,70,71,72,73])] Tryz.func560 rfl ?_ (.inr (aJ (CY _) ⟨trivial,trivial⟩))
 refine ZP ?_
 refine CH (ι:=Nat) (λj=>[(4,.F .box (af.enc .O k)),(8,.F .box (af.enc .own ⟨⟨⟨[],[]⟩,⟨[]⟩⟩,0,[]⟩)),(10,.F .box (af.enc .own (M8 k a b c j))),(11,.F .one [I ((aC k.G.Q a).d)]),(12,.F .one [I ((aC k.G.Q b).d)]),(45,.F .one (aH .O [c])),(46,.F .one [I (1)]),(47,.F .one [I ((j:Nat):Int)])]) (λj=>j<=1) (λj=>1 - j) (0) ?_ (C1 _) λj O=>?_
 ·exact wB
 by_cases P:j<1
 ·obtain rfl:j=0:=ω
  repeat'(first|refine gE ?_|refine CM (by decide) (aa p) ?_|refine CM G (aa l) ?_|refine CM H (aa g) ?_|refine CM e.1 (aa o) ?_|refine CM e.1 (aa n) ?_|refine Pu.two rfl rfl (aa g) rfl rfl rfl (aa n) rfl (I4 _) rfl ?_)
  (refine CF 1 ω ω ?_)
  rw[show M8 k a b c 1=ur k a b c from rfl];unfold ur;rw[xf];exact wB
 obtain rfl:j=1:=ω
 refine ZE ?_
 rfl
def xy(k:af)(p:Nat)(e:aN):af:={k with G:=⟨k.G.U,⟨k.G.Q.J.set p e⟩⟩}
def Jo(k:af)(p:Nat)(e:aN):af.enc .own (xy k p e)=(af.enc .own k).set 2 (.s .own ((k.G.Q.J.map (aN.enc .own)).set p (aN.enc .own e))):=by
 simp[af.enc,xy,S8]
def GV(p:Nat)(e:aN)(h:aG.sml k.G.Q):aG.sml (xy k p e).G.Q:=by
 refine⟨?_,λx _=>trivial⟩;show(k.G.Q.J.set p e).length<=_;rw[O2];exact h.1
def zr(k:af)(p o:Int):af × Bool:=if refd k=true then(dA k,false) else(ix (xy (dA k) p.toNat ⟨2,(nth k.G.Q.J o.toNat).d⟩) (nth k.G.Q.J p.toNat).d,true)
def iy(m:aD)(a v:Int):aD × Int:=
 if(aC m.Q (a / 16)).l=0 then(m,1) else if(aC m.Q (a / 16)).l=1 then(m,2) else
 (⟨⟨m.U.W.set (aC m.Q (a / 16)).d.toNat ((nth m.U.W (aC m.Q (a / 16)).d.toNat).set (a % 16).toNat v),m.U.c⟩,m.Q⟩,0)
def Fu(m:aD)(a:Int)(d:dd m=true)(b:aD.sml m)(e:0<=a/\a<512):zzA 568 false [.val (some 3) (aD.enc .O m),.val none [I a]] .agg (aN.enc .own (aC m.Q (a / 16))):=by
 have c:=ri m b;rw[d]at c;have g:=eE m.Q (a / 16) b.2;refine fO 18 [] Tryz.func568 rfl ?_ (.inr ⟨trivial,trivial,trivial⟩)
 repeat'(first|refine gE ?_|refine CO (U2 e) ?_|refine CP (by decide) ?_)
 rfl
def zx(m:aD)(f:Nat)(c v:Int):aD.enc .own ⟨⟨m.U.W.set f ((nth m.U.W f).set c.toNat v),m.U.c⟩,m.Q⟩ = (aD.enc .own m).set 0 (.s .own ((m.U.W.map (aH .own)).set f [.s .own (((nth m.U.W f).map (rI .own)).set c.toNat [I v])])):=by
 simp[aD.enc,S8,aH,rI]
def KO(m:aD)(a v:Int)(p:dd m=true)(k:aD.sml m)(l:0<=a/\a<512)(q:0<=v/\v<=999)(r:(aC m.Q (a / 16)).l≠0->0<=(aC m.Q (a / 16)).d/\(aC m.Q (a / 16)).d<m.U.W.length/\(nth m.U.W (aC m.Q (a / 16)).d.toNat).length=16):zzA 505 false [.val (some 3) (aD.enc .O m),.val none [I a],.val none [I v]] (.tup [some 3,none]) (aD.enc .own (iy m a v).1++[I (iy m a v).2]):=by
 have d:=o8 m k;have e:=Fu m a p k l;have c:=aO v 0 999;rw[O0 q]at c;have b:=aD.enc_fr (iy m a v).1;unfold iy at b |-;by_cases g:(aC m.Q (a / 16)).l=0
 ·rw[CG g]at b |-
  refine fO 42 [] Tryz.func505 rfl ?_ (.inr (aJ b ⟨trivial,trivial⟩))
  refine ZB ?_
  rfl
 rw[CD g]at b |-;by_cases n:(aC m.Q (a / 16)).l=1
 ·rw[CG n]at b |-
  refine fO 42 [] Tryz.func505 rfl ?_ (.inr (aJ b ⟨trivial,trivial⟩))
  refine ZB ?_
  rfl
 rw[CD n]at b |-;obtain⟨t,u,w⟩:=r g;have h:=ar (xs:=m.U.W) (i:=(aC m.Q (a / 16)).d.toNat) ω;have o:=ar (xs:=nth m.U.W (aC m.Q (a / 16)).d.toNat) (i:=(a % 16).toNat) ω;simp only at b |-;rw[zx]at b |-;have j:a.tmod 16=a % 16:=gZ l.1;refine fO 42 [] Tryz.func505 rfl ?_ (.inr (aJ b ⟨trivial,trivial⟩))
 repeat'(first|refine gB ?_|refine CU j ?_|refine CP (by decide) ?_|refine CM t (aa h) ?_|refine CM ω (aa o) ?_|refine Pu.two rfl rfl (aa h) rfl rfl rfl (aa o) rfl (I4 _) rfl ?_)
 rfl
def Jv(k:af)(p o:Int)(a:aK k=true)(w:k.Calls≠100000)(l:(aC k.G.Q p).l≠0)(n:(aC k.G.Q o).l≠0)(y:p≠o):zzA 561 false [.val (some 5) (af.enc .O k),.val none [I p],.val none [I o]] (.tup [some 5,none]) (af.enc .own (zr k p o).1++[B (zr k p o).2]):=by
 have b:=bS a;have C:=(aI.1 a).2.2.2;have c:=ir k b;rw[a,O0 w]at c;have d:=pf k b ⟨ω,ω⟩;have g:=eU k p b.1.2;have h:=eU k o b.1.2;rw[O0 l]at g;rw[O0 n]at h;obtain⟨D,H,E,q,r⟩:=bY a l;obtain⟨F,J,K,L,M⟩:=bY a n;have G:=(bh.1 (aI.1 a).2.1).2.2.1;have j:=ar (xs:=k.G.Q.J) (i:=p.toNat) ω;have t:=ar (xs:=k.G.Q.J) (i:=o.toNat) ω;rw[E]at q r;have u:=ue (xy (dA k) p.toNat ⟨2,(nth k.G.Q.J o.toNat).d⟩) (nth k.G.Q.J p.toNat).d (GV _ _ b.1.2) ⟨q,by show _<((k.G.U.W.length:Nat):Int);omega,r⟩;rw[Jo]at u;unfold zr;cases e:refd k<;>rw[e]at d
 ·rw[CD (by simp)]
  refine fP 63 [(198,[2,0]),(1000010,[])] [] Tryz.func561 rfl ?_ (.inr (aJ (CY _) ⟨trivial,trivial⟩))
  repeat'(first|refine gB ?_|refine CM D (aa j) ?_|refine CM F (aa t) ?_|refine CN rfl rfl (aa j) rfl (C2 rfl) rfl ?_)
  rfl
 rw[CG rfl];refine fP 63 [(198,[2,0]),(1000010,[])] [] Tryz.func561 rfl ?_ (.inr (aJ (CY _) ⟨trivial,trivial⟩))
 refine ZP ?_
 rfl
def jmay(k:af)(j:bk):Bool:=(aK k&&decide (k.Calls≠100000))&&(kg j&&decide ((aC k.G.Q j.Y.w).l≠0/\(aC k.G.Q j.Y.y).l≠0/\(aC k.G.Q j.Y.w).d≠(aC k.G.Q j.Y.y).d))
def jstep(k:af)(j:bk):af × bk:=
 if j.a1=0 then((ji k j.Y.y 1).1,{j with a1:=if(ji k j.Y.y 1).2=true then 1 else 5})
 else if j.a1=1 then(if j.g=j.Y.W.length then(k,{j with a1:=2}) else(ur k j.Y.y j.Y.w (nth j.Y.W j.g.toNat),{j with g:=j.g+1}))
 else if j.a1=2 then((zr k j.Y.y j.Y.w).1,{j with a1:=if(zr k j.Y.y j.Y.w).2=true then 4 else 3})
 else if j.a1=3 then(if 0<j.g then({k with G:=(iy k.G (j.Y.w*16+nth j.Y.W (j.g - 1).toNat) 0).1},{j with g:=j.g - 1}) else((ji k j.Y.y 2).1,{j with a1:=if(ji k j.Y.y 2).2=true then 5 else 3}))
 else(k,j)
def QW{f:Int}(d:∀j,j<k.b.length->0<=nth k.b j)(g:cK k.G.U=true)(h:gU k.G.Q k.G.U.c.length=true)(i:∀j:Nat,j<k.G.U.c.length->(j:Int)≠f->nth k.G.U.c j=decide (0<(pagesOn k.G.Q (j:Int)).length))(u:0<=f/\f<k.G.U.c.length)(n:nth k.G.U.c f.toNat=true)(l:0<=k.Calls/\k.Calls<=100000/\k.b.length<=40):aK (ix k f)=true:=by
 obtain⟨o,p,q,r⟩:=bh.1 g;unfold ix;split
 ·rename_i c
  rw[aI];simp only[O2];refine⟨d,?_,h,λj b=>?_,l⟩
  ·rw[bh]
   simp only[O2,eB];refine⟨o,p,q,λj b=>?_⟩;by_cases a:f.toNat=j
   ·rw[CG ⟨a,b⟩,CG ⟨a,ω⟩];decide
   rw[CD (λe=>a e.1),CD (λe=>a e.1)];exact r j b
  rw[eB];by_cases a:f.toNat=j
  ·rw[CG ⟨a,b⟩]
   have:(j:Int)=f:=ω
   rw[this];exact(Z0 λt=>absurd c (Nat.ne_of_gt t)).symm
  rw[CD (λe=>a e.1)];exact i j b ω
 rename_i c;rw[aI];refine⟨d,g,h,λj b=>?_,l⟩;by_cases a:(j:Int)=f
 ·rw[a,show j=f.toNat by omega,n]
  exact(O0 (Nat.pos_of_ne_zero c)).symm
 exact i j b a
def tEq(t a:aG):Prop:=a.J.length=t.J.length/\∀q:Nat,((nth a.J q).l≠0↔(nth t.J q).l≠0)/\(nth a.J q).d=(nth t.J q).d
def tEq.refl(t:aG):tEq t t:=⟨rfl,λ_=>⟨Iff.rfl,rfl⟩⟩
def tEq.of{t a:aG}(h:a=t):tEq t a:=by rw[h];exact tEq.refl t
def tEq.pagesOn{t a:aG}(h:tEq t a)(f:Int):Ab.pagesOn a f=Ab.pagesOn t f:=by
 unfold Ab.pagesOn lf;rw[h.1]
 congr 1
 refine List.filter_congr λq _=>?_
 obtain⟨b,c⟩:=h.2 q;unfold RS;rw[c];exact decide_eq_decide.2 (and_congr b Iff.rfl)
def EL(h:aK k=true){a:aG}(c:tEq k.G.Q a)(i:∀q,q<a.J.length->0<=(nth a.J q).l/\(nth a.J q).l<=2):aK {k with G:=⟨k.G.U,a⟩} = true:=by
 obtain⟨l,n,o,p,r⟩:=aI.1 h;obtain⟨t,u,w⟩:=br.1 o;rw[aI];refine⟨l,n,br.2 ⟨λj b=>?_,?_,?_⟩,λj b=>?_,r⟩
 ·replace b:j<a.J.length:=b
  have e:=t j (by rw[<-c.1];exact b);have d:=i j b;obtain⟨g,y⟩:=c.2 j;show mS _ (nth a.J j)=true;unfold mS at e |-;rw[C0]at e |-;rw[y];refine⟨d.1,d.2,λf=>e.2.2.1 (Classical.byContradiction λA=>(g.2 A) f),λf=>e.2.2.2 (g.1 f)⟩
 ·show 1<=a.J.length;rw[c.1];exact u
 ·show a.J.length<=32;rw[c.1];exact w
 show nth k.G.U.c j=decide (0<(Ab.pagesOn a (j:Int)).length);rw[c.pagesOn];exact p j b
def ox(h:aK k=true)(f:k.Calls≠100000):aK (dA k)=true:=by
 obtain⟨a,b,c,d,g,i,e⟩:=aI.1 h;rw[aI];exact⟨a,b,c,d,by show 0<=k.Calls+1;omega,by show k.Calls+1<=100000;omega,e⟩
variable{p m:Int}
def wg(a:(nth k.G.Q.J p.toNat).l≠0)(b:m=1\/m=2):tEq k.G.Q (yo k p m).G.Q:=by
 refine⟨by simp[yo],λq=>?_⟩;simp only[yo,eB];split
 ·rename_i e
  rw[<-e.1];exact⟨⟨λ_=>a,λ_=>by show m≠0;omega⟩,rfl⟩
 exact⟨Iff.rfl,rfl⟩
def PE(h:aK k=true)(d:(nth k.G.Q.J p.toNat).l≠0)(a:m=1\/m=2):aK (yo k p m)=true:=by
 refine EL h (wg d a) λq e=>?_
 obtain⟨i,j,f,l,n⟩:=aI.1 h;obtain⟨g,o,r⟩:=br.1 f;have c:q<k.G.Q.J.length:=by rw[<-(wg d a).1];exact e
 have b:=g q c;unfold mS at b;rw[C0]at b;simp only[eB];split
 ·show 0<=m/\m<=2;omega
 exact⟨b.1,b.2.1⟩
def Ht(h:aK k=true)(c:k.Calls≠100000)(b:(aC k.G.Q p).l≠0)(a:m=1\/m=2):aK (ji k p m).1=true/\tEq k.G.Q (ji k p m).1.G.Q:=by
 obtain⟨e,f,d,-⟩:=bY h b;rw[d]at b;unfold ji;split
 ·exact⟨ox h c,tEq.refl _⟩
 exact⟨PE (ox h c) b a,wg (k:=dA k) b a⟩
def mB(h:aK k=true)(b:(aC k.G.Q p).l≠0):jt k p<k.G.U.W.length/\nth k.G.U.c (jt k p)=true/\((jt k p:Nat):Int)=(nth k.G.Q.J p.toNat).d:=by
 obtain⟨f,g,a,i,j⟩:=bY h b;obtain⟨l,d,n,e,o⟩:=aI.1 h;obtain⟨q,r,t,u⟩:=bh.1 d;have c:((jt k p:Nat):Int)=(aC k.G.Q p).d:=by unfold jt;omega
 refine⟨ω,?_,by rw[c,a]⟩;rw[e _ ω,c];refine O0 (fA.2 ⟨p.toNat,ω,?_,?_⟩)
 ·rw[<-a];exact b
 rw[<-a]
def Qc(h:aK k=true){a:List Int}(c:a.length=16)(d:∀v∈a,0<=v/\v<=999)(g:nth k.G.U.c f=true):aK {k with G:=⟨⟨k.G.U.W.set f a,k.G.U.c⟩,k.G.Q⟩} = true:=by
 obtain⟨i,l,n,o,p⟩:=aI.1 h;obtain⟨q,r,t,u⟩:=bh.1 l;refine aI.2 ⟨i,bh.2 ⟨?_,?_,?_,λj b=>?_⟩,n,o,p⟩
 ·simp only[O2];exact q
 ·simp only[O2];exact r
 ·simp only[O2];exact t
 simp only[O2]at b |-;simp only[eB];split
 ·rename_i e
  obtain⟨rfl,-⟩:=e;unfold jh;simp only[I0,C0,I5];refine⟨c,λv w=>?_⟩;have:=d v w;unfold ky;simp[g,this]
 exact u j b
def K4(h:aK k=true)(b:f<k.G.U.W.length):(nth k.G.U.W f).length=16/\∀v∈nth k.G.U.W f,0<=v/\v<=999:=by
 obtain⟨g,c,i,j,l⟩:=aI.1 h;obtain⟨n,o,p,d⟩:=bh.1 c;have a:=d f b;unfold jh at a;simp only[I0,C0,I5]at a;refine⟨a.1,λv e=>?_⟩;have:=a.2 v e;unfold ky at this;simp only[I0,C0]at this;exact this.1
def Ar(h:aK k=true)(b:f<k.G.U.W.length)(d:nth k.G.U.c f=true){c v:Int}(e:0<=v/\v<=999):aK (setCell k f c v)=true:=by
 obtain⟨g,i⟩:=K4 h b;refine Qc h (by rw[O2];exact g) (λz a=>?_) d;rcases Z8 a with a|rfl
 ·exact i z a
 exact e
def Q9(h:aK k=true){c:Int}(d:(aC k.G.Q a).l≠0)(e:(aC k.G.Q b).l≠0)(l:0<=c/\c<=15):aK (ur k a b c)=true:=by
 obtain⟨f,n,-⟩:=mB h d;obtain⟨g,i,-⟩:=mB h e;obtain⟨o,j⟩:=K4 h f;exact Ar h g i (j _ (aE ω))
variable{o:Int}
def UQ(h:aK k=true)(u:k.Calls≠100000)(i:(aC k.G.Q p).l≠0)(d:(aC k.G.Q o).l≠0)(w:p≠o):aK (zr k p o).1=true:=by
 unfold zr;split
 ·exact ox h u
 obtain⟨O,y,A⟩:=mB h i;obtain⟨P,Q,R⟩:=mB h d;obtain⟨S,T,B,r,t⟩:=bY h i;obtain⟨U,V,C,D,E⟩:=bY h d;obtain⟨F,G,H,J,W,X,K⟩:=aI.1 h;obtain⟨L,M,N⟩:=br.1 H;rw[C]at D E d;rw[B]at r t i;have a:∀q,nth (k.G.Q.J.set p.toNat ⟨2,(nth k.G.Q.J o.toNat).d⟩) q=if p.toNat=q then⟨2,(nth k.G.Q.J o.toNat).d⟩ else nth k.G.Q.J q:=λq=>by
  rw[eB];by_cases f:p.toNat=q
  ·rw[CG ⟨f,ω⟩,CG f]
  rw[CD (λe=>f e.1),CD f]
 refine QW F G (br.2 ⟨λj c=>?_,?_,?_⟩) (λj c l=>?_) ⟨r,t⟩ (by rw[<-A];exact y) ⟨by show 0<=k.Calls+1;omega,by show k.Calls+1<=100000;omega,K⟩
 ·simp only[xy,dA,O2]at c |-
  rw[a];split
  ·unfold mS;rw[C0];simp only;omega
  exact L j c
 ·simp only[xy,dA,O2];exact M
 ·simp only[xy,dA,O2];exact N
 replace c:j<k.G.U.c.length:=c;show nth k.G.U.c j=_;rw[J j c];refine decide_eq_decide.2 ?_;rw[fA,fA];simp only[xy,dA,O2,a];constructor
 ·rintro⟨q,n,g,b⟩
  refine⟨q,n,?_⟩;rw[CD (λe=>l (by rw[<-b,<-e]))];exact⟨g,b⟩
 rintro⟨q,n,g,b⟩
 by_cases e:p.toNat=q
 ·rw[CG e]at b
  exact⟨o.toNat,ω,d,b⟩
 rw[CD e]at g b;exact⟨q,n,g,b⟩
def Uh(h:aK k=true)(b:(aC k.G.Q p).l≠0)(a:(zr k p o).2=true)(q:Nat):(zr k p o).1.G.Q.J.length=k.G.Q.J.length/\nth (zr k p o).1.G.Q.J q=if(q:Int)=p then⟨2,(nth k.G.Q.J o.toNat).d⟩ else nth k.G.Q.J q:=by
 obtain⟨d,f,-⟩:=bY h b;unfold zr at a |-;split at a
 ·cases a
 rename_i c;rw[CD c];simp only[(rA _ _).1];simp only[xy,dA,O2,eB];refine⟨trivial,?_⟩;by_cases e:(q:Int)=p
 ·rw[CG ⟨ω,ω⟩,CG e]
 rw[CD λz=>e ω,CD e]
def Vf(a:(zr k p o).2=false):(zr k p o).1=dA k:=by
 unfold zr at a |-;split
 ·rfl
 rename_i b;rw[CD b]at a;cases a
def Pn{v:Int}(h:aK k=true)(g:0<=a)(b:0<=v/\v<=999):aK {k with G:=(iy k.G a v).1} = true/\(iy k.G a v).1.Q=k.G.Q:=by
 unfold iy;split
 ·exact⟨h,rfl⟩
 rename_i d;split
 ·exact⟨h,rfl⟩
 obtain⟨e,f,-⟩:=mB h d;exact⟨Ar h e f (c:=a % 16) b,rfl⟩
def UH(t:aG)(p:Int):Prop:=∀q:Nat,(nth t.J q).l≠0->(nth t.J q).d=(nth t.J p.toNat).d->(q:Int)=p
structure JI(h:ac):Prop where
 ph:h.j=true->0<=h.p.a1/\h.p.a1<=3
 sp:h.j=true->∃a∈h.H,∃b∈h.H,a.R=h.p.Y.w/\b.R=h.p.Y.y/\meshable a b=true
 sk:h.j=true->UH (tbl h) h.p.Y.w
 sm:h.j=true->UH (tbl h) h.p.Y.y
theorem Pg.tEq{t b:aG}{c:List ay}{sp:List au}{la:List aB}(h:Pg t c sp la)(a:tEq t b):Pg b c sp la where
 one l hl p hp q hq h1 h2:=h.one l hl p hp q (by rw[<-a.1];exact hq) ((a.2 q).1.1 h1) (by rw[<-(a.2 q).2,<-(a.2 p).2];exact h2)
 bnd p hp:=by rw[a.1];exact h.bnd p hp
 own p hp:=(a.2 p).1.trans (h.own p (by rw[<-a.1];exact hp))
 fre p hp:=(a.2 p).1.trans (h.fre p (by rw[<-a.1];exact hp))
 mesh s hs u hu hne hf:=h.mesh s hs u hu hne (by rw[<-(a.2 _).2,<-(a.2 u.R.toNat).2];exact hf)
def cm.step(a:cm h E)(b:aK k=true)(c:k.G.Q.J.length=(tbl h).J.length)(d:Pg k.G.Q h.a h.H h.S){j:bk}{m:Bool}(e:m=true->kg j=true/\(∃s∈h.H,s.R=j.Y.w)/\∃s∈h.H,s.R=j.Y.y)(f:m=false->xa j=true):cm {h with K:=k,j:=m,p:=j} E:=
 {a with
   ker:=b
   rng:=by show bI ((k.G.Q.J.length:Nat):Int) h.a=true;rw[c];exact a.rng
   pg:=d
   job:=e
   noj:=f}
variable{la:List aB}{sp:List au}
def qd.apart(b:qd sp la)(c:s∈sp){l:aB}(d:l∈la)(a:p∈lpgs l l.a0.toNat):s.R≠p:=by
 unfold lpgs at a;simp only[Y5,List.mem_range]at a;obtain⟨k,e,rfl⟩:=a;exact b.dis s c l d k e
def Pg.on{t H:aG}{Q:List ay}(h:Pg t Q sp la)(r:qd sp la){a b:au}(w:a∈sp)(L:b∈sp)(R:meshable a b=true)(A:UH t a.R)(M:(nth t.J a.R.toNat).l≠0)(N:(nth t.J b.R.toNat).l≠0)(U:0<=b.R)(J:H.J.length=t.J.length)(B:∀q:Nat,nth H.J q=if(q:Int)=b.R then⟨2,(nth t.J a.R.toNat).d⟩ else nth t.J q):Pg H Q sp la:=by
 have c:∀q:Nat,(nth H.J q).l≠0↔(nth t.J q).l≠0:=λq=>by
  rw[B];split
  ·rename_i e
   rw[show q=b.R.toNat by omega];exact⟨λ_=>N,λ_=>by show(2:Int)≠0;omega⟩
  rfl
 have V:0<=a.R:=by have:=r.sok a w;unfold bc at this;rw[C0]at this;omega
 refine⟨λl k p g q W S C=>?_,λp g=>by rw[J];exact h.bnd p g,λp g=>(c p).trans (h.own p (by rw[<-J];exact g)),λp g=>(c p).trans (h.fre p (by rw[<-J];exact g)),λs D u E F n=>?_⟩
 ·have O:¬(p:Int)=b.R:=λe=>r.apart L k g e.symm
  rw[B p,CD O,B q]at C;rw[c]at S;by_cases e:(q:Int)=b.R
  ·rw[CG e]at C
   have T:=h.one l k p g a.R.toNat (by have:=h.bnd _ (f9 (la:=la) w);omega) M C;exact absurd (show a.R=(p:Int) by omega) (r.apart w k g)
  rw[CD e]at C;exact h.one l k p g q (by rw[<-J];exact W) S C
 have X:0<=s.R:=by have:=r.sok s D;unfold bc at this;rw[C0]at this;omega
 have Y:0<=u.R:=by have:=r.sok u E;unfold bc at this;rw[C0]at this;omega
 have d:∀x∈sp,∀y∈sp,x.R=y.R->x=y:=λx G y Z e=>by
  obtain⟨i,hi,rfl⟩:=bJ G;obtain⟨j,hj,rfl⟩:=bJ Z;rw[pc (f:=(·.R)) r.nd hi hj e]
 have o:∀x∈sp,(nth t.J x.R.toNat).l≠0:=λx G=>by
  have hx0:0<=x.R:=by have:=r.sok x G;unfold bc at this;rw[C0]at this;omega
  refine(h.own x.R.toNat (by have:=h.bnd _ (f9 (la:=la) G);omega)).2 ?_;rw[show((x.R.toNat:Nat):Int)=x.R by omega];exact f9 G
 rw[B,B]at n;simp only[show((s.R.toNat:Nat):Int)=s.R by omega,show((u.R.toNat:Nat):Int)=u.R by omega]at n;by_cases K:s.R=b.R
 ·rw[CG K,CD (λe=>F (K.trans e.symm))]at n
  have T:=A u.R.toNat (o u E) n.symm;rw[d s D b L K,d u E a w ω,oo];exact R
 rw[CD K]at n;by_cases P:u.R=b.R
 ·rw[CG P]at n
  have T:=A s.R.toNat (o s D) n;rw[d u E b L P,d s D a w ω];exact R
 rw[CD P]at n;exact h.mesh s D u E F n
def over(j:bk):Bool:=decide (j.a1=4\/j.a1=5)
def gw(k:af)(j:bk):af × bk:=if jmay k j=true then jstep k j else(k,j)
def mStep(h:ac):ac:={h with K:=(gw h.K h.p).1,j:=if over (gw h.K h.p).2=true then false else h.j,p:=if over (gw h.K h.p).2=true then⟨⟨0,0,[]⟩,0,0⟩ else(gw h.K h.p).2}
def pL(h:ac):Bool:=decide ((gw h.K h.p).2.a1=4)
def gx{j:bk} : kg j=true↔fH j.Y=true/\0<=j.a1/\j.a1<=5/\0<=j.g/\j.g<=j.Y.W.length:=by
 unfold kg;simp only[I0,C0]
def jN{p:aV}(h:fH p=true)(a:i<p.W.length):0<=nth p.W i/\nth p.W i<=15:=by
 unfold fH at h;simp only[I0]at h;have:=fS h.1 a;unfold pq at this;rw[C0]at this;exact⟨this.1,this.2.1⟩
structure JS(h:ac)(k:af)(j:bk):Prop where
 ker:aK k=true
 len:k.G.Q.J.length=(tbl h).J.length
 pg:j.a1≠4\/JI h->Pg k.G.Q h.a h.H h.S
 ph:0<=j.a1/\j.a1<=5
 plan:j.Y=h.p.Y
 nxt:0<=j.g/\j.g<=j.Y.W.length
 eq:j.a1≠4->tEq (tbl h) k.G.Q
 calls:h.K.Calls<=k.Calls/\k.Calls<=h.K.Calls+1/\k.b=h.K.b
def AD(k:af)(p m:Int):(ji k p m).1.Calls=k.Calls+1/\(ji k p m).1.b=k.b:=by
 unfold ji;split<;>exact⟨rfl,rfl⟩
def PD(k:af)(p o:Int):(zr k p o).1.Calls=k.Calls+1/\(zr k p o).1.b=k.b:=by
 unfold zr;split
 ·exact⟨rfl,rfl⟩
 obtain⟨-,a,b,-⟩:=rA (xy (dA k) p.toNat ⟨2,(nth k.G.Q.J o.toNat).d⟩) (nth k.G.Q.J p.toNat).d;simp only[a,b];exact⟨rfl,rfl⟩
def JS.of(c:cm h E)(B:h.j=true):JS h (gw h.K h.p).1 (gw h.K h.p).2:=by
 obtain⟨R,-,-⟩:=c.job B;obtain⟨O,y,A,o,p⟩:=gx.1 R;unfold gw;split
 case isFalse=>exact⟨c.ker,rfl,λ_=>c.pg,⟨y,A⟩,rfl,⟨o,p⟩,λ_=>tEq.refl _,Z6 _,by show h.K.Calls<=h.K.Calls+1;omega,rfl⟩
 rename_i d;unfold jmay at d;simp only[I0,C0]at d;obtain⟨⟨-,C⟩,-,u,r,D⟩:=d;have fin:∀(k:af)(j:bk),aK k=true->tEq (tbl h) k.G.Q->0<=j.a1/\j.a1<=5->j.Y=h.p.Y->0<=j.g/\j.g<=j.Y.W.length->h.K.Calls<=k.Calls/\k.Calls<=h.K.Calls+1/\k.b=h.K.b->JS h k j:=
  λk j S F T U V W=>⟨S,F.1,λ_=>c.pg.tEq F,T,U,V,λ_=>F,W⟩
 have P:=(aI.1 c.ker).2.2.2.2;unfold jstep;split
 ·obtain⟨l,w⟩:=Ht c.ker C r (m:=1) (.inl rfl)
  obtain⟨g,t⟩:=AD h.K h.p.Y.y 1;refine fin _ _ l w ?_ rfl ⟨o,p⟩ ⟨by rw[g];omega,by rw[g];omega,t⟩;show 0<=(if _ then _ else _:Int)/\(if _ then _ else _:Int)<=5;split<;>omega
 split
 ·split
  ·exact fin _ _ c.ker (tEq.refl _) ⟨by show(0:Int)<=2;omega,by show(2:Int)<=5;omega⟩ rfl ⟨o,p⟩ ⟨Z6 _,by show h.K.Calls<=h.K.Calls+1;omega,rfl⟩
  have n:=jN O (i:=h.p.g.toNat) ω;refine fin _ _ (Q9 c.ker r u n) (tEq.refl _) ⟨y,A⟩ rfl ⟨by show 0<=h.p.g+1;omega,by show h.p.g+1<=h.p.Y.W.length;omega⟩ ⟨Z6 _,by show h.K.Calls<=h.K.Calls+1;omega,rfl⟩
 split
 ·have G:h.p.Y.y≠h.p.Y.w:=λe=>D (by rw[e])
  have l:=UQ c.ker C r u G;obtain⟨g,t⟩:=PD h.K h.p.Y.y h.p.Y.w;cases e:(zr h.K h.p.Y.y h.p.Y.w).2 with
  | false=>
   rw[CD (by simp)];refine fin _ _ l (tEq.of ?_) ⟨by show(0:Int)<=3;omega,by show(3:Int)<=5;omega⟩ rfl ⟨o,p⟩ ⟨by rw[g];omega,by rw[g];omega,t⟩;rw[Vf e];rfl
  | true=>
   rw[CG rfl];obtain⟨X,m2,Y,-⟩:=bY c.ker r;obtain⟨n1,n2,Z,-⟩:=bY c.ker u;have f:=Uh c.ker r e;refine⟨l,(f 0).1,λH=>?_,⟨by show(0:Int)<=4;omega,by show(4:Int)<=5;omega⟩,rfl,⟨o,p⟩,λJ=>absurd rfl J,by rw[g];omega,by rw[g];omega,t⟩;have Q:JI h:=H.elim (λJ=>absurd rfl J) id;obtain⟨a,ha,b,hb,K,M,N⟩:=Q.sp B;refine c.pg.on c.L ha hb N (by rw[K];exact Q.sk B) (by rw[K];show(nth h.K.G.Q.J _).l≠0;rw[<-Z];exact u) (by rw[M];show(nth h.K.G.Q.J _).l≠0;rw[<-Y];exact r) (by rw[M];exact X) (f 0).1 λq=>?_
   rw[(f q).2,M,K];rfl
 split
 ·split
  ·rename_i hn0
   have n:=jN O (i:=(h.p.g - 1).toNat) ω;have hk0:=(bY c.ker u).1;obtain⟨l,w⟩:=Pn c.ker (a:=h.p.Y.w*16+nth h.p.Y.W (h.p.g - 1).toNat) (v:=0) ω ⟨ω,ω⟩;exact fin _ _ l (tEq.of w) ⟨y,A⟩ rfl ⟨by show 0<=h.p.g - 1;omega,by show h.p.g - 1<=h.p.Y.W.length;omega⟩ ⟨Z6 _,by show h.K.Calls<=h.K.Calls+1;omega,rfl⟩
  obtain⟨l,w⟩:=Ht c.ker C r (m:=2) (.inr rfl);obtain⟨g,t⟩:=AD h.K h.p.Y.y 2;refine fin _ _ l w ?_ rfl ⟨o,p⟩ ⟨by rw[g];omega,by rw[g];omega,t⟩;show 0<=(if _ then _ else _:Int)/\(if _ then _ else _:Int)<=5;split<;>omega
 exact fin _ _ c.ker (tEq.refl _) ⟨y,A⟩ rfl ⟨o,p⟩ ⟨Z6 _,by show h.K.Calls<=h.K.Calls+1;omega,rfl⟩
def V1(k:af)(a:Int):Int:=nth (nth k.G.U.W (aC k.G.Q (a / 16)).d.toNat) (a % 16).toNat
def cellsOf(k:af)(a:Int)(n:Nat):List Int:=(List.range n).map λ(i:Nat)=>V1 k (a+i)
def Tm{x:Int}(h:db xs.length (λj=>decide (nth xs j≠x))=true):x∉xs:=λb=>by
 obtain⟨j,a⟩:=List.mem_iff_getElem?.1 b;have:=fS h (Y3.1 a).1;rw[b6 a]at this;simp at this
def Hy(xs:List Int)(x:Int)(g:xs.length<=4611686018427387904):zzA 353 false [.val none (aH .O xs),.val none [I x]] .one [B (decide (x∈xs))]:=by
 refine fO 18 [] Tryz.func353 rfl ?_
 refine ZP ?_
 refine CH (ι:=Nat) (λi=>[(0,.F .one (aH .O xs)),(1,.F .one [I (x)]),(5,.F .one [I ((i:Nat):Int)])]) (λi=>i<=xs.length/\db i (λj=>decide (nth xs j≠x))=true) (λi=>xs.length - i) 0 ?_ ⟨C1 _,rfl⟩ λi a=>?_
 ·exact wB
 obtain⟨a,b⟩:=a;by_cases c:i<xs.length
 ·have d:=ar c
  by_cases e:nth xs i=x
  ·refine ZB ?_
   exact I1 (λz=>[B z]) ((by symm;exact O0 (by rw[<-e];exact aE c)))
  refine ZB ?_
  (refine CF (i+1) ⟨ω,bT b (O0 e)⟩ ω ?_;(exact wB))
 refine ZE ?_
 obtain rfl:i=xs.length:=ω
 exact I1 (λz=>[B z]) ((by symm;exact Z0 (Tm b)))
theorem bC.more{M c:ah}{d:World}(h:bC M w d)(f:∀b o,M b o->c b o):bC c w d:=
 ⟨h.os,h.tape,h.output,h.size,λb a e=>h.blk b a ψ,λb o a e=>h.cel b o a ψ,λb o a e=>h.fro b o a ψ⟩
theorem aR.wk{c u:List C}{A B:List MA}{k:Kd}(h:aR P f sh A (.ptr c::B) k rcs)(D:RP c u):aR P f sh A (.ptr u::B) k rcs:=by
 refine⟨h.has,λw S V i E F l G=>(h.run w S V i E F l G).mono λe w1 H=>?_⟩;obtain⟨v,J,K,X,L,M,N,n,p,a,q,r,b,O,Q,y⟩:=H;refine⟨v,J,K,X,L,M,N,n,p,a,q,r,b,O,Q,?_⟩;cases i with
 | nil=>exact y.elim
 | cons v0 i=>
  obtain⟨⟨R,Y,T,U,W,⟨g,o,Z,e2⟩,d⟩,t⟩:=y;refine⟨⟨R,Y,T,U,W,⟨g,o,Z,λj hj=>e2 j (by grind [tP])⟩,FL D d⟩,t⟩
def aR.frame{c c':List C}{A B:List MA}{k:Kd}(h:aR P f sh (.ptr c::A) (.ptr c'::B) k rcs)(hl:c'.length=c.length):aR P f sh (.ptr (c++r)::A) (.ptr (c'++r)::B) k rcs:=by
 refine⟨h.has,λw S V vs hS hV hVd hA=>?_⟩;cases vs with
 | nil=>exact hA.elim
 | cons v0 vs=>
 obtain⟨⟨X1,Y,hX1,hY,O,⟨g,q,rfl,u⟩,ff,hf1,J,hf3⟩,hA'⟩:=hA;have hlen:(c++r).length=c.length+r.length:=X4
 let V0:ah:=piece g q ff 0 c.length
 let W:Nat->ah:=Qy V0 (λi=>V (i+1))
 have hcX:∀o,q<=o->o<q+(c++r).length->X1 g o:=λo l a=>by
  have:=(u (o - q) ω).1
  rwa [show q+(o - q)=o by omega]at this
 have hV0:∀b o,V0 b o->V 0 b o:=λb o p=>by
  rcases p with⟨rfl,l,a⟩|⟨j,-,a,Q⟩
  ·exact hX1 _ _ (hcX o ω ω)
  exact hY _ _ (J j ω b o Q)
 have K:∀i b o,W i b o->V i b o:=λi b o p=>by
  cases i with
  | zero=>exact hV0 b o p
  | succ i=>exact p
 have hA2:P4 w S W (.ptr c::A) (.pointer (some ⟨g,q,none⟩)::vs):=by
  refine⟨?_,hA'⟩;have:=vu (lo:=0) (n:=c.length) (cs:=c++r) ω u hf1 J hf3 O;rw[show bG (c++r) 0 c.length=c by simp[bG]]at this;simp only[z9,Nat.add_zero]at this;exact this
 refine(h.run w S W _ hS (λi b o p=>hV i b o (K i b o p)) (λi i' D b o l a=>hVd i i' D b o (K i b o l) (K i' b o a)) hA2).mono λe w1 hv=>?_
 obtain⟨v,he,hk,X,V',S1,hX,E,hS1,hVd',hXV,hXS,hVS1,hh,hr,hm⟩:=hv;have H:∀b o,(∃i,W i b o)->∃i,V i b o:=λb o ⟨i,Z⟩=>⟨i,K i b o Z⟩
 let R:ah:=λb o=>V 0 b o/\¬V0 b o
 have hRW:∀b o,R b o->¬∃i,W i b o:=λb o y ⟨i,Z⟩=>by
  cases i with
  | zero=>exact y.2 Z
  | succ i=>exact hVd 0 (i+1) ω b o y.1 Z
 have F:∀b o,R b o->b<w.heap.size:=λb o y=>(hV 0 b o y.1).1
 have t:∀b o,R b o->¬((∃i,W i b o)\/(b<w1.heap.size/\w.heap.size<=b)):=λb o y p=>by
  rcases p with p|p
  ·exact hRW b o y p
  have:=F b o y;omega
 have hRsame:bq R w w1:=λb o y=>⟨hk.cel b o (F b o y) (hRW b o y),hk.fro b o (F b o y) (hRW b o y)⟩
 have hRS1:∀b o,R b o->¬S1 b o:=λb o y hs=>by
  rcases hS1 b o hs with⟨-,l⟩|l
  ·exact(hV 0 b o y.1).2 l
  exact t b o y l
 have hSsame:bq S w w1:=λb o hb=>⟨hk.cel b o (hS b o hb) (λ⟨i,Z⟩=>(hV i b o (K i b o Z)).2 hb),hk.fro b o (hS b o hb) (λ⟨i,Z⟩=>(hV i b o (K i b o Z)).2 hb)⟩
 have hRc:∀j,c.length<=j->j<(c++r).length->R g (q+j):=λj l a=>by
  refine⟨hX1 _ _ (u j a).1,λp=>?_⟩;rcases p with⟨-,Q,h4⟩|⟨N,Q,h4,h5⟩
  ·omega
  exact O _ _ (u j a).1 (J N ω _ _ h5)
 have L:∀j,c.length<=j->j<(c++r).length->∀b o,ff j b o->R b o:=λj l a b o p=>by
  refine⟨hY _ _ (J j a b o p),λhp=>?_⟩;rcases hp with⟨rfl,Q,h4⟩|⟨N,Q,h4,h5⟩
  ·exact O _ _ (hcX o ω ω) (J j a _ _ p)
  exact hf3 j N a ω ω b o p h5
 let U:Nat->ah:=Qy (λb o=>V' 0 b o\/R b o) (λi=>V' (i+1))
 have hU:∀i b o,U i b o->V' i b o\/(i=0/\R b o):=λi b o p=>by
  cases i with
  | zero=>exact p.imp id (λh=>⟨rfl,h⟩)
  | succ i=>exact .inl p
 refine⟨v,he,hk.more H,X,U,S1,λb o p=>(hX b o p).imp (H b o) id,λi b o p=>?_,λb o p=>(hS1 b o p).imp id (Or.imp (H b o) id),λi i' D b o l a=>?_,λi b o l a=>?_,hXS,λi b o l a=>?_,hh,hr,?_,hm.2⟩
 ·rcases hU i b o p with l|⟨-,l⟩
  ·exact(E i b o l).imp (H b o) id
  exact .inl ⟨0,l.1⟩
 ·rcases hU i b o l with l|⟨e1,l⟩
  ·rcases hU i' b o a with a|⟨e2,a⟩
   ·exact hVd' i i' D b o l a
   exact t b o a (E i b o l)
  rcases hU i' b o a with a|⟨e2,a⟩
  ·exact t b o l (E i' b o a)
  exact D ω
 ·rcases hU i b o a with a|⟨-,a⟩
  ·exact hXV i b o l a
  exact t b o a (hX b o l)
 ·rcases hU i b o l with l|⟨-,l⟩
  ·exact hVS1 i b o l a
  exact hRS1 b o l a
 obtain⟨Xa,Ya,ha1,ha2,ha3,⟨ga,oa,hea,ha4⟩,fa,ha5,ha6,ha7⟩:=(show qo w1 (λb o=>S b o\/S1 b o) (V' 0) (.ptr c') (.pointer (some ⟨g,q,none⟩)) from hm.1)
 obtain⟨rfl,rfl⟩ : g=ga/\q=oa:=by simpa using hea
 have G:(c'++r).length=c.length+r.length:=by rw[X4,hl]
 show qo w1 (λb o=>S b o\/S1 b o) (λb o=>V' 0 b o\/R b o) (.ptr (c'++r)) (.pointer (some ⟨g,q,none⟩));have faV:∀j,j<c.length->∀b o,fa j b o->V' 0 b o:=λj M b o p=>ha2 _ _ (ha6 j ω b o p)
 refine⟨λb o=>Xa b o\/(R b o/\∃j,c.length<=j/\j<(c++r).length/\b=g/\o=q+j),λb o=>Ya b o\/∃j,c.length<=j/\j<(c++r).length/\ff j b o,λb o p=>?_,λb o p=>?_,λb o l a=>?_,⟨g,q,rfl,λj M=>?_⟩,λj=>if j<c.length then fa j else ff j,λj d M=>?_,λj M b o p=>?_,λj N M hj' D b o l a=>?_⟩
 ·exact p.imp (ha1 b o) (·.1)
 ·rcases p with p|⟨j,l,a,Q⟩
  ·exact .inl (ha2 b o p)
  exact .inr (L j l a b o Q)
 ·rcases l with l|⟨l,j,j1,j2,rfl,rfl⟩
  ·rcases a with a|⟨j,j1,j2,j3⟩
   ·exact ha3 b o l a
   exact t b o (L j j1 j2 b o j3) (E 0 b o (ha1 b o l))
  rcases a with a|⟨N,j3,j4,j5⟩
  ·exact t _ _ l (E 0 _ _ (ha2 _ _ a))
  exact O _ _ (u j j2).1 (J N j4 _ _ j5)
 ·rw[G]at M
  by_cases hc:j<c.length
  ·have:=ha4 j ω
   exact⟨.inl this.1,this.2⟩
  have y:=hRc j ω ω;have hs:=hRsame _ _ y;have T:=u j ω;refine⟨.inr ⟨y,j,ω,ω,rfl,rfl⟩,?_,?_⟩
  ·rw[hs.1];exact T.2.1
  rw[hs.2];exact T.2.2
 ·dsimp only
  by_cases hc:j<c.length
  ·rw[CG hc]
   rw[C6 ω]at M;exact ha5 j d M
  rw[CD hc];rw[I6 ω,hl]at M;have hj2:(c++r)[j]? = some d:=by rw[I6 ω];exact M
  have hjl:=(Y3.1 hj2).1;have Q:=(hf1 j d hj2).keep hSsame (λb o p=>hRsame b o (L j ω hjl b o p));have T:=(hRsame _ _ (hRc j ω hjl)).1;have:bZ w1 .box (.pointer (some ⟨g,q,none⟩)) j=bZ w .box (.pointer (some ⟨g,q,none⟩)) j:=by
   simp only[bZ];rw[T]
  rw[this];exact Q.mono (λ_ _ h=>.inl h) (λ_ _ h=>h)
 ·rw[G]at M
  split at p
  ·rename_i hc;exact .inl (ha6 j ω b o p)
  exact .inr ⟨j,ω,ω,p⟩
 rw[G]at M hj';split at l
 ·rename_i c1
  split at a
  ·exact ha7 j N ω ω D b o l a
  exact t b o (L N ω ω b o a) (E 0 b o (faV j c1 b o l))
 split at a
 ·rename_i c1;exact t b o (L j ω ω b o l) (E 0 b o (faV N c1 b o a))
 exact hf3 j N ω ω D b o l a
mutual
def Wz:∀c:C,fz (fz c)=fz c
 | .v x=>by simp[fz]
 | .s o rows=>by simp only[fz];rw[LG rows]
 | .x=>by simp[fz]
 | .z=>by simp[fz]
 | .m _=>by simp[fz]
 | .it _ _=>by simp[fz]
def LG:∀a:List (List C),fzR (fzR a)=fzR a
 | []=>rfl
 | r::a=>by simp only[fzR];rw[EU r,LG a]
def EU:∀cs:List C,fo (fo cs)=fo cs
 | []=>rfl
 | c::cs=>by simp only[fo];rw[Wz c,EU cs]
end
def po(k:af)(a:aK k=true)(e:k.Calls≠100000):zzB 484 false [.ptr (af.enc .own k)] [.ptr (af.enc .own (dA k))] .one [B (!refd k)]:=by
 have b:=bS a;have c:=(aI.1 a).2.2.2.2;have d:=Hy k.b k.Calls (by have:=b.2;omega);refine fM 22 [] [(2,9,[11,12,13,14,15,16,17,18,19])] [(0,0)] Tryz.func484 rfl (λu q=>?_)
 repeat'(first|refine gP ?_|refine CJ (d) ⟨⟨rfl,dK _⟩,⟨rfl,I1 (λz=>[I z]) ω⟩,trivial⟩ ?_)
 refine CL rfl ?_ ?_
 ·rfl
 exact wB
def pQ(k:af)(p m:Int)(a:aK k=true)(j:k.Calls≠100000)(d:(aC k.G.Q p).l≠0)(l:m=1\/m=2):zzB 575 false [.ptr (af.enc .own k),.val none [I p],.val none [I m]] [.ptr (af.enc .own (ji k p m).1),.val none [I p],.val none [I m]] .one [B (ji k p m).2]:=by
 have n:=bS a;have b:=po k a j;have g:=eS (dA k) p n.1.2;have c:=aS m 1 2;rw[O0 ω]at c;obtain⟨o,t,w,-⟩:=bY a d;have h:=ar (xs:=k.G.Q.J) (i:=p.toNat) ω;have r:¬(aC (dA k).G.Q p).l=0:=d;unfold ji;cases e:refd k<;>rw[e]at b
 ·rw[CD (by simp),vw]
  refine fM 31 [(484,[2])] [] [(0,0),(0,0),(0,0)] Tryz.func575 rfl (λu q=>?_)
  repeat'(first|refine gB ?_|refine CJ (g) ⟨CW (dA k),⟨rfl,rfl⟩,trivial⟩ ?_|refine CM o (aa h) ?_|refine CN rfl rfl (aa h) rfl (C2 rfl) rfl ?_)
  refine CL rfl ?_ ?_
  ·rfl
  exact wB
 rw[CG rfl];refine fM 31 [(484,[2])] [] [(0,0),(0,0),(0,0)] Tryz.func575 rfl (λu q=>?_)
 repeat'(first|refine gB ?_|refine CJ (g) ⟨CW (dA k),⟨rfl,rfl⟩,trivial⟩ ?_)
 refine CL rfl ?_ ?_
 ·rfl
 exact wB
def Rw.two{c:List C}{off k d e b:Nat}{K:List C->Nat->Prop}{o f:dY}{a:List C}(g:c[off]? = some (.s o rows))(h:rows[i]? = some r)(l:r.length=k)(n:r[j]? = some (.s f rows2))(p:rows2[d]? = some a)(q:a.length=e)(t:K a b):Rw c off [(i,k,j),(d,e,b)] K:=
 Rw.mk (r:=a) (j:=b) (by simp[ch,g,h,l,n,p,q]) t
def BD(k:af)(a b c:Int)(h:aK k=true)(F:(aC k.G.Q a).l≠0)(G:(aC k.G.Q b).l≠0)(g:0<=c/\c<=15):zzB 576 false [.ptr (af.enc .own k),.val none [I a],.val none [I b],.val none (aH .O [c])] [.ptr (af.enc .own (ur k a b c)),.val none [I a],.val none [I b],.val none (aH .O [c])] .one [B true]:=by
 have w:=bS h;have H:=eS k a w.1.2;have J:=eS k b w.1.2;have y:=aS c 0 15;rw[O0 g]at y;obtain⟨K,O,L,C,P⟩:=bY h F;obtain⟨M,Q,D,E,R⟩:=bY h G;have N:=(bh.1 (aI.1 h).2.1).2.2.1;have S:=row16 h (f:=jt k a) (by unfold jt;omega);have T:=row16 h (f:=jt k b) (by unfold jt;omega);have d:k.G.U.W[(aC k.G.Q a).d.toNat]? = some (nth k.G.U.W (jt k a)):=ar ω;have e:k.G.U.W[(aC k.G.Q b).d.toNat]? = some (nth k.G.U.W (jt k b)):=ar ω;have l:=ar (xs:=nth k.G.U.W (jt k a)) (i:=c.toNat) ω;have o:=ar (xs:=nth k.G.U.W (jt k b)) (i:=c.toNat) ω;have p:=ar (xs:=k.G.Q.J) (i:=a.toNat) ω;have r:=ar (xs:=k.G.Q.J) (i:=b.toNat) ω;rw[L]at C d;rw[D]at E e;have t:[c][0]? = some c:=rfl;refine fM 90 [] [(13,28,[61,62,63,64,65,66,67,68,69,70,71,72,73,74,75,76,77,78,79,80,81,82,83,84,85,86,87,88])] [(0,0),(0,0),(0,0),(0,0)] Tryz.func576 rfl (λu q=>?_)
 repeat'(first|refine gB ?_|refine CJ (H) ⟨CW k,⟨rfl,rfl⟩,trivial⟩ ?_|refine CJ (J) ⟨CW k,⟨rfl,rfl⟩,trivial⟩ ?_)
 refine CH (ι:=Nat) (λn=>[(0,.F .box (af.enc .own k)),(1,.F .one [I (a)]),(2,.F .one [I (b)]),(3,.F .one (aH .O [c])),(9,.F .one [I ((n:Nat):Int)])]) (λn=>n<=1) (λn=>1 - n) (0) ?_ (C1 _) λn U=>?_
 ·exact wB
 by_cases V:n<1
 ·obtain rfl:n=0:=ω
  repeat'(first|refine gE ?_|refine CM (by decide) (aa t) ?_)
  (refine CF 1 ω ω ?_;(exact wB))
 obtain rfl:n=1:=ω
 repeat'(first|refine gE ?_|refine CM K (aa p) ?_|refine CM M (aa r) ?_)
 refine CH (ι:=Nat) (λj=>[(0,.F .box (af.enc .own (M8 k a b c j))),(3,.F .one (aH .O [c])),(10,.F .one [I ((nth k.G.Q.J a.toNat).d)]),(11,.F .one [I ((nth k.G.Q.J b.toNat).d)]),(12,.F .one [I ((j:Nat):Int)])]) (λj=>j<=1) (λj=>1 - j) (0) ?_ (C1 _) λj W=>?_
 ·exact wB
 by_cases X:j<1
 ·obtain rfl:j=0:=ω
  repeat'(first|refine gE ?_|refine CM (by decide) (aa t) ?_|refine CM C (aa d) ?_|refine CM E (aa e) ?_|refine CM g.1 (aa l) ?_|refine CM g.1 (aa o) ?_|refine Rw.two rfl (aa d) rfl rfl (aa l) rfl ?_|refine Pu.two rfl rfl (aa e) rfl rfl rfl (aa o) rfl (I4 _) rfl ?_)
  (refine CF 1 ω ω ?_)
  rw[show M8 k a b c 1=ur k a b c from rfl];unfold ur;rw[xf,show jt k b=(nth k.G.Q.J b.toNat).d.toNat by unfold jt;rw[D]];exact wB
 obtain rfl:j=1:=ω
 refine ZE ?_
 refine CL rfl ?_ ?_
 ·rfl
 exact wB
def KW(k:af)(p o:Int)(a:aK k=true)(y:k.Calls≠100000)(g:(aC k.G.Q p).l≠0)(h:(aC k.G.Q o).l≠0)(C:p≠o):zzB 577 false [.ptr (af.enc .own k),.val none [I p],.val none [I o]] [.ptr (af.enc .own (zr k p o).1),.val none [I p],.val none [I o]] .one [B (zr k p o).2]:=by
 have b:=bS a;have c:=po k a y;have j:=eS (dA k) p b.1.2;have l:=eS (dA k) o b.1.2;obtain⟨D,K,E,n,r⟩:=bY a g;obtain⟨F,L,M,N,O⟩:=bY a h;have G:=(bh.1 (aI.1 a).2.1).2.2.1;have d:=ar (xs:=k.G.Q.J) (i:=p.toNat) ω;have t:=ar (xs:=k.G.Q.J) (i:=o.toNat) ω;have H:¬(aC (dA k).G.Q p).l=0:=g;have J:¬(aC (dA k).G.Q o).l=0:=h;rw[E]at n r;have w:=uH (xy (dA k) p.toNat ⟨2,(nth k.G.Q.J o.toNat).d⟩) (nth k.G.Q.J p.toNat).d (GV _ _ b.1.2) ⟨n,by show _<((k.G.U.W.length:Nat):Int);omega,r⟩;rw[Jo]at w;unfold zr;cases e:refd k<;>rw[e]at c
 ·rw[CD (by simp)]
  refine fM 60 [(484,[2]),(486,[2,0])] [(4,274,[38,39,40,41,42,43,44,45,46,47,48,49,50,51,52,53,54,56,0,1,2,3,4,5,6,7,8,9,10,11,12,13,14,15,16,17,1000,1001,1002,1003,1004,1005,1006,18,19])] [(0,0),(0,0),(0,0)] Tryz.func577 rfl (λu q=>?_)
  repeat'(first|refine gB ?_|refine CJ (j) ⟨CW (dA k),⟨rfl,rfl⟩,trivial⟩ ?_|refine CJ (l) ⟨CW (dA k),⟨rfl,rfl⟩,trivial⟩ ?_|refine CM D (aa d) ?_|refine CM F (aa t) ?_|refine CN rfl rfl (aa d) rfl (C2 rfl) rfl ?_)
  refine CL rfl ?_ ?_
  ·rfl
  exact wB
 rw[CG rfl];refine fM 60 [(484,[2]),(486,[2,0])] [(4,274,[38,39,40,41,42,43,44,45,46,47,48,49,50,51,52,53,54,56,0,1,2,3,4,5,6,7,8,9,10,11,12,13,14,15,16,17,1000,1001,1002,1003,1004,1005,1006,18,19])] [(0,0),(0,0),(0,0)] Tryz.func577 rfl (λu q=>?_)
 repeat'(first|refine gB ?_|refine CJ (j) ⟨CW (dA k),⟨rfl,rfl⟩,trivial⟩ ?_|refine CJ (l) ⟨CW (dA k),⟨rfl,rfl⟩,trivial⟩ ?_)
 refine CL rfl ?_ ?_
 ·rfl
 exact wB
def Bw(m:aD)(a:Int)(d:aD.sml m)(c:0<=a/\a<512):zzA 590 false [.val (some 3) (aD.enc .O m),.val none [I a]] (.tup [some 2,none]) (aN.enc .own (aC m.Q (a / 16))++[I (a % 16)]):=by
 have e:=fZ m.Q (a / 16) d.2;have b:a.tmod 16=a % 16:=gZ c.1;refine fO 16 [] Tryz.func590 rfl ?_ (.inr ⟨trivial,trivial,trivial,trivial⟩)
 repeat'(first|refine gE ?_|refine CO (U2 c) ?_|refine CP (by decide) ?_|refine CU b ?_)
 rfl
def KR(m:aD)(a v:Int)(o:dd m=true)(e:aD.sml m)(p:0<=a/\a<512)(q:0<=v/\v<=999)(r:(aC m.Q (a / 16)).l≠0->0<=(aC m.Q (a / 16)).d/\(aC m.Q (a / 16)).d<m.U.W.length/\(nth m.U.W (aC m.Q (a / 16)).d.toNat).length=16):zzA 588 false [.val (some 3) (aD.enc .O m),.val none [I a],.val none [I v]] (.tup [some 3,none]) (aD.enc .own (iy m a v).1++[I (iy m a v).2]):=by
 have c:=ql m e;rw[o]at c;have g:=uQ m e;have h:=Bw m a e p;have d:=aS v 0 999;rw[O0 q]at d;have b:=aD.enc_fr (iy m a v).1;unfold iy at b |-;by_cases j:(aC m.Q (a / 16)).l=0
 ·rw[CG j]at b |-
  refine fO 47 [] Tryz.func588 rfl ?_ (.inr (aJ b ⟨trivial,trivial⟩))
  refine ZB ?_
  rfl
 rw[CD j]at b |-;by_cases l:(aC m.Q (a / 16)).l=1
 ·rw[CG l]at b |-
  refine fO 47 [] Tryz.func588 rfl ?_ (.inr (aJ b ⟨trivial,trivial⟩))
  refine ZB ?_
  rfl
 rw[CD l]at b |-;obtain⟨t,u,w⟩:=r j;have k:=ar (xs:=m.U.W) (i:=(aC m.Q (a / 16)).d.toNat) ω;have n:=ar (xs:=nth m.U.W (aC m.Q (a / 16)).d.toNat) (i:=(a % 16).toNat) ω;simp only at b |-;rw[zx]at b |-;refine fO 47 [] Tryz.func588 rfl ?_ (.inr (aJ b ⟨trivial,trivial⟩))
 repeat'(first|refine gB ?_|refine CM t (aa k) ?_|refine CM ω (aa n) ?_|refine Pu.two rfl rfl (aa k) rfl rfl rfl (aa n) rfl (I4 _) rfl ?_)
 rfl
end Go.Proofs.YtiopgblagimpmaaGreat.Ab
