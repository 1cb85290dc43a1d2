/- The reference and the program mean the same by a valid heap: holders, spans on one frame, the whole. No condition. -/
import Derived.Test.YtiopgblagimpmaaGreatKuc
import Derived.Test.YtiopgblagimpmaaGreatKud
import Derived.WalkKit
import Derived.Lib.SliceRun
import Derived.Deep.LoopGhost
import Derived.Deep.RegionLaw
import Derived.Lib.Walk
import Derived.Sort.WalkB12
import Derived.Shelf.RegionOpenPlain
set_option linter.unusedVariables false
set_option linter.defProp false
set_option linter.unusedSimpArgs false
set_option linter.constructorNameAsVariable false
namespace Go.Proofs.YtiopgblagimpmaaGreat.Ab
variable{a:Int}{la:List aB}{sp:List aA}
theorem xh(b:oX sp la)(c:(denotes sp la a).c4=0)(f:(denotes sp la a).b0=1\/(denotes sp la a).b0=3):a∈lZ sp la:=by
 have l:0<=a/\a<512:=by
  unfold denotes at c f;cases g:sp.findIdx? (cY · a) with
  | some i=>
   obtain⟨d,j,-⟩:=X9.1 g;have h:=List.getElem_mem d;have e:=(gG (b.sok _ h)).1 j;have k:=aK (b.sok _ h);omega
  | none=>
   rw[g]at c f;cases e:la.findIdx? (bC · a) with
   | some i=>
    obtain⟨d,-⟩:=X9.1 e;rw[e]at c;have n:=aR (b.lok _ (au d))
    grind
   | none=>grind
 have k:((a.toNat:Nat):Int)=a:=ω
 grind [lZ,FB,qh]
theorem wc(sp:List aA)(la:List aB):(lZ sp la).Nodup:=by
 unfold lZ FB List.Nodup;rw[List.pairwise_map]
 grind [List.Pairwise.imp,List.nodup_range]
variable{c:Int}{h:ac}
theorem vm(b:oX h.K h.M)(d:fK h a c=true):a∈lZ h.K h.M:=by grind [xh,fK]
variable{o:aU}
theorem Ry(a:oX h.K h.M)(b:ju h o=true):o.Addr∈lZ h.K h.M:=by grind [xh,ju]
theorem Kv(h:ac)(a:Int):(nH h).count a=(holders h).count a:=by grind [nH,holders]
theorem pL(h:ac):uk h=true↔(h.T.all (ik h)=true/\h.a7.a5.all (kP h)=true)/\(aY h.a1).all (oh h)=true:=by grind [uk]
theorem tU(f:oX h.K h.M)(g:hP h=true)(j:uk h=true):∀a∈holders h,a∈lZ h.K h.M:=by
 obtain⟨⟨n,p⟩,q⟩:=(pL h).1 j;intro a b;unfold holders at b;simp only[I4]at b;rcases b with((b|b)|b)|b
 ·obtain⟨o,d,rfl⟩:=C6.1 b
  obtain⟨i,r,rfl⟩:=aN d;have e:=fw g r
  grind [Ry,objAt]
 ·unfold cJ at b
  obtain⟨c,t,b⟩:=List.mem_flatMap.1 b;obtain⟨l,u,b⟩:=List.mem_flatten.1 b;obtain⟨k,w,rfl⟩:=aN u;have e:=X5.1 n c t;unfold ik at e;have A:=X5.1 (show(nth c.a k).all _=true from fw e w) a b
  grind [vm]
 ·obtain⟨x,y,rfl⟩:=C6.1 b
  exact vm f (X5.1 p x y)
 exact vm f (X5.1 q a b)
theorem MO(b:bG h.K h.M=true)(c:hP h=true):(qk h&&Hq h)=kO h:=by
 have d:=oX.of b;have e:(qk h=true/\h.a7.a5.all (kP h)=true)↔h.a7.a5.all (tt h)=true:=by grind [qk,tt]
 have f:kO h=true↔((h.T.all (ik h)=true/\h.a7.a5.all (tt h)=true)/\(aY h.a1).all (oh h)=true)/\∀a∈lZ h.K h.M,(holders h).count a=1:=by
  unfold kO;simp only[I0];refine and_congr Iff.rfl ?_;simp only[X5,C0,Kv]
  grind [List.mem_mergeSort,QV,oN,sorted]
 grind [pL,Ny,wc,tU,Hq]
theorem hO(s t:aA):meshable s t=meshable t s:=by grind [meshable]
variable{f:Int}{t:aL}
theorem eR{p:Nat} : (p:Int)∈pagesOn t f↔p<t.J.length/\(nth t.J p).e≠0/\(nth t.J p).j=f:=by grind [pagesOn,k7,QU]
theorem wb{q:Int}(h:q∈pagesOn t f):∃p:Nat,q=(p:Nat):=by grind [pagesOn,k7]
theorem sS(a:pages0 h=true):(∀i,i<h.M.length->∀k:Nat,k<(nth h.M i).a2.toNat->(bB h ((nth h.M i).R+(k:Nat))).length=1)/\(∀p∈pgs h.K h.M,p<gY h)/\∀p:Nat,p<gY h->((nth (tbl h).J p).e≠0↔(p:Int)∈pgs h.K h.M):=by grind [fw,pages0,vE,Be,DO]
theorem BQ{p:Nat}(a:p<gY h):af (tbl h) (p:Nat)=nth (tbl h).J p:=nk a
theorem fC{p:Nat}(a:p<gY h)(b:(nth (tbl h).J p).e≠0):bB h (p:Nat)=pagesOn (tbl h) (nth (tbl h).J p).j:=by grind [BQ,bB,tbl]
variable{j:Nat}
theorem vk(g:oX h.K h.M)(c:j<h.K.length):jY h (nth h.K j).R=(j:Nat):=by
 unfold jY;refine eD (ax c) (by unfold ow;simp) λk z i d=>?_
 have a:=bk d;have b:=(O3.1 d).1;subst a;unfold ow;refine X0 λe=>?_
 have:=cU (f:=(·.R)) g.nd b c e;omega
theorem uM(w:bG h.K h.M=true)(N:pages0 h=true):PW h=pN h:=by
 have E:=oX.of w;obtain⟨O,P,Q⟩:=sS N;have o:∀i,i<h.K.length->∃p:Nat,(nth h.K i).R=(p:Nat)/\p<gY h/\(nth (tbl h).J p).e≠0:=λi r=>by
  have Y:=aK (E.sok _ (au r));have R:(nth h.K i).R∈pgs h.K h.M:=by grind [au,pgs]
  have c:=P _ R;refine⟨(nth h.K i).R.toNat,ω,ω,?_⟩
  grind
 rw[Y6];unfold PW pN;rw[cC,cC];constructor
 ·intro F i r
  rw[cC];intro j G;have y:j<h.K.length:=ω
  unfold mV;rw[Y8,C0];by_cases d:(af (tbl h) (nth h.K i).R).j=(af (tbl h) (nth h.K j).R).j
  ·right
   obtain⟨p,e,a,f⟩:=o i r;obtain⟨q,A,b,g⟩:=o j y;have n:=X5.1 (F i r);rw[e,A,BQ a,BQ b]at d;have S:(q:Int)∈bB h (nth h.K i).R:=by
    rw[e,fC a f];exact eR.2 ⟨b,g,d.symm⟩
   have t:=n _ S;unfold JM at t;rw[<-A,vk E y]at t;rw[Y8,I0,C0]at t;rcases t with t|t
   ·omega
   simpa using t.2
  exact .inl d
 intro B i r;rw[X5];intro q C;obtain⟨p,e,a,f⟩:=o i r;have T:=C;rw[e,fC a f]at C;obtain⟨D,rfl⟩:=wb C;obtain⟨b,g,H⟩:=eR.1 C;have u:=(Q D b).1 g;unfold pgs at u;rw[I4,C6,List.mem_flatMap]at u;rcases u with⟨s,F,J⟩|⟨l,U,K⟩
 ·obtain⟨j,G,rfl⟩:=aN F
  unfold JM;rw[<-J,vk E G];rw[Y8,I0,C0,C0];have d:(af (tbl h) (nth h.K i).R).j=(af (tbl h) (nth h.K j).R).j:=by grind [BQ]
  rcases Nat.lt_trichotomy j i with c|V|c
  ·have n:=fw (B i r) c
   unfold mV at n
   simp_all
  ·omega
  have n:=fw (B j G) c;unfold mV at n;rw[Y8,C0]at n;exact .inr ⟨ω,by rw[hO];simp_all⟩
 exfalso;obtain⟨W,L,rfl⟩:=aN U;obtain⟨k,X,M⟩:=dB.1 K;have n:=O W L k X;rw[<-M,fC b g]at n;have Z:(D:Int)∈pagesOn (tbl h) (nth (tbl h).J D).j:=ψ
 have m2:(p:Int)∈pagesOn (tbl h) (nth (tbl h).J D).j:=eR.2 ⟨a,f,H.symm⟩
 grind [List.length_eq_one_iff,oX.dis,au]
theorem dz(h:ac):kC h=fg h:=by grind [uM,MO,kC,fg,zP]
def ovl(y r:aC):Bool:=decide (y.At<r.At+r.a6/\r.At<y.At+y.a6)
def nr(r:aC):List aC->Bool->Option (List aC)
 | [],put=>some (if put then [] else [r])
 | y::a,put=>if ovl y r then none else if !put&&decide (y.At > r.At) then(nr r a true).map λt=>r::y::t else(nr r a put).map λt=>y::t
def dt(out:List aC):List aC->List aC
 | []=>out
 | y::ys=>match out.getLast? with
  | some z=>if z.At+z.a6=y.At then dt (out.dropLast++[⟨z.At,z.a6+y.a6⟩]) ys else dt (out++[y]) ys
  | none=>dt (out++[y]) ys
def jq:List aC->aC->List aC->Bool->Option (List aC)
 | [],r,out,done=>some (if done then out else out++[r])
 | y::ys,r,out,done=>
  if ovl y r then none
  else if y.At+y.a6=r.At then jq ys ⟨y.At,y.a6+r.a6⟩ out done
  else if r.At+r.a6=y.At then jq ys ⟨r.At,r.a6+y.a6⟩ out done
  else if y.At > r.At/\done=false then jq ys r (out++[r,y]) true
  else jq ys r (out++[y]) done
def jZ(xs:List aC):Prop:=xs.Pairwise (λa b=>a.At+a.a6<b.At)/\∀y∈xs,1<=y.a6
variable{y:aC}
theorem jZ.tail{a:List aC}(h:jZ (y::a)):jZ a:=⟨(List.pairwise_cons.1 h.1).2,λz b=>h.2 z ψ⟩
theorem jZ.head{a:List aC}(h:jZ (y::a)):∀z∈a,y.At+y.a6<z.At:=(List.pairwise_cons.1 h.1).1
theorem jO:∀(a out:List aC),jZ a->(∀z,out.getLast? = some z->∀y∈a,z.At+z.a6≠y.At)->dt out a=out++a
 | [],out,_,_=>by simp[dt]
 | y::a,out,d,e=>by
  have b:dt (out++[y]) a=out++y::a:=by
   rw[jO a (out++[y]) d.tail λz c w f=>by
     simp at c;subst c;have:=d.head w f;omega]
   simp
  unfold dt;split
  ·rename_i z c
   rw[CC (e z c y (X2 ..))];exact b
  exact b
theorem xT{r:aC} : ∀{a:List aC},jZ a->(∀y∈a,r.At+r.a6<=y.At)->nr r a true=some a
 | [],_,_=>rfl
 | y::a,c,b=>by
  have e:=b y (X2 ..);unfold nr;rw[CC (by unfold ovl;rw[C0];omega)];simp only[Bool.not_true,Bool.false_and,Bool.false_eq_true,if_false];rw[xT c.tail λz d=>b z (S7 _ d)]
  rfl
theorem vW{r:aC}(h1:1<=r.a6){a:List aC}(b:jZ a)(c:∀y∈a,r.At+r.a6<=y.At):nr r a false=some (r::a):=by
 cases a with
 | nil=>rfl
 | cons y a=>
  grind [xT,jZ.tail,nr,ovl]
def qr{r:aC} : ∀{a out:List aC},jZ a->1<=r.a6->(∀y∈a,r.At+r.a6<y.At)->jq a r out true=some (out++a)
 | [],out,_,_,_=>by simp[jq]
 | y::a,out,b,d,c=>by
  have f:=c y (X2 ..);have g:=b.2 y (X2 ..);unfold jq;rw[CC (by unfold ovl;rw[C0];omega),CC ω,CC ω,CC (by simp),qr b.tail d λz e=>c z (S7 _ e)];simp
variable{out:List aC}
theorem z7{r:aC}(h1:1<=r.a6){a:List aC}(b:jZ a)(c:∀y∈a,r.At+r.a6<=y.At):jq a r out false=some (out++match a with|[]=>[r]|y::zs=>if r.At+r.a6=y.At then⟨r.At,r.a6+y.a6⟩::zs else r::y::zs):=by
 cases a with
 | nil=>simp[jq]
 | cons y a=>
  have g:=c y ψ;have h:=b.2 y ψ;unfold jq;rw[CC (by grind [ovl]),CC ω];by_cases e:r.At+r.a6=y.At
  ·rw[CD e]
   simp only[e,if_true];cases a with
   | nil=>simp[jq]
   | cons z a=>
    have i:=b.head z ψ;have j:=b.tail.2 z ψ;unfold jq;simp only;rw[CC (by grind [ovl]),CC ω,CC ω,CD (by simp;omega),qr b.tail.tail (by simp only;omega) λw d=>by
      have:=b.tail.head w d;simp only;omega]
    simp
  rw[CC e,CD (by simp;omega),qr b.tail h1 λz f=>by have:=b.head z f;omega];simp[e]
theorem BU{pages:Int} : ∀{a:List aC}{r:aC}{out:List aC},jZ a->1<=r.a6->(∀z,out.getLast? = some z->(∀y∈a,z.At+z.a6<y.At)/\z.At+z.a6<r.At)->(nr r a false).map (dt out)=jq a r out false
 | [],r,out,_,g,q=>by
  show some (dt out [r])=some (out++[r]);rw[jO [r] out ⟨List.pairwise_singleton ..,λy u=>by rw[C2.1 u];exact g⟩ ψ]
 | y::a,r,out,c,g,q=>by
  have F:=c.2 y ψ;by_cases l:ovl y r=true
  ·grind [nr,jq]
  ·have i:=l
   unfold ovl at i;rw[C0]at i;by_cases A:r.At+r.a6<=y.At
   ·-- all to the right
    have b:∀w∈y::a,r.At+r.a6<=w.At:=λw f=>by grind [jZ.head]
    rw[vW g c b,z7 g c b];show some (dt out (r::y::a))=_;have hfirst:dt out (r::y::a)=dt (out++[r]) (y::a):=by
     conv=>lhs;unfold dt
     grind
    rw[hfirst];by_cases e:r.At+r.a6=y.At
    ·have:dt (out++[r]) (y::a)=dt (out++[⟨r.At,r.a6+y.a6⟩]) a:=by
      conv=>lhs;unfold dt
      simp[e]
     grind [jO,jZ.tail,jZ.head]
    grind [jO,jZ.head]
   have B:y.At+y.a6<=r.At:=ω
   have n:∀t,dt out (y::t)=dt (out++[y]) t:=λt=>by
    conv=>lhs;unfold dt
    grind [X2]
   have C:(nr r (y::a) false).map (dt out)=(nr r a false).map (dt (out++[y])):=by
    conv=>lhs;unfold nr
    rw[CC l,CC (by simp;omega),Option.map_map]
    congr 1
    grind
   rw[C];unfold jq;rw[CC l];by_cases e:y.At+y.a6=r.At
   ·rw[CD e]
    by_cases o:∃w,a.head? = some w/\ovl w r=true
    ·obtain⟨w,f,D⟩:=o
     cases a with
     | nil=>cases f
     | cons d h=>
      grind [ovl,nr,jq]
    have b:∀w∈a,r.At+r.a6<=w.At:=by
     cases a with
     | nil=>grind
     | cons d h=>
      have G:=c.head d ψ;have H:=c.tail.2 d ψ
      grind [jZ.head,jZ.tail,ovl]
    rw[vW g c.tail b,z7 (r:=⟨y.At,y.a6+r.a6⟩) (by simp only;omega) c.tail ψ];show some (dt (out++[y]) (r::a))=_;have E:dt (out++[y]) (r::a)=dt (out++[⟨y.At,y.a6+r.a6⟩]) a:=by
     conv=>lhs;unfold dt
     simp[e]
    rw[E];cases a with
    | nil=>simp[dt]
    | cons d h=>
     by_cases j:y.At+(y.a6+r.a6)=d.At
     ·have p:dt (out++[⟨y.At,y.a6+r.a6⟩]) (d::h)=dt (out++[⟨y.At,y.a6+r.a6+d.a6⟩]) h:=by
       conv=>lhs;unfold dt
       simp[j]
      rw[p,jO h _ c.tail.tail λz k w f=>by grind [jZ.head,jZ.tail]];simp[j]
     rw[jO (d::h) _ c.tail λz k w f=>by
       simp at k;subst k;simp only;rcases List.mem_cons.1 f with rfl|f
       · exact j
       have:=c.tail.head w f;have:=b d ψ;have:=c.tail.2 d ψ;omega]
     simp[j]
   rw[CC e,CC ω,CC ω];exact BU (pages:=pages) c.tail g λz k=>by grind [jZ.head]
def gp(k:am)(f:Int):am:=if(pagesOn k.F.Q f).length=0 then {k with F:=⟨⟨k.F.X.V.set f.toNat (List.replicate 16 0),k.F.X.a4.set f.toNat false⟩,k.F.Q⟩} else k
def mh(k:am)(p:Int):am:={k with F:=⟨k.F.X,⟨k.F.Q.J.set p.toNat ⟨0,0⟩⟩⟩}
def cy(k:am)(p:Int):am:=if(af k.F.Q p).e=0 then k else gp (mh k p) (af k.F.Q p).j
variable{α:Type}
theorem bz[Inhabited α](xs:List α)(i j:Nat)(x:α):nth (xs.set i x) j=if i=j/\j<xs.length then x else nth xs j:=by grind [nth]
theorem nw(k:am)(f:Int):(gp k f).F.Q=k.F.Q/\(gp k f).Calls=k.Calls/\(gp k f).w=k.w/\(gp k f).F.X.V.length=k.F.X.V.length/\(gp k f).F.X.a4.length=k.F.X.a4.length:=by grind [gp]
theorem lY(k:am)(p:Int):(cy k p).F.Q.J.length=k.F.Q.J.length/\(cy k p).Calls=k.Calls/\(cy k p).w=k.w:=by grind [nw,cy,mh]
variable{k:am}
theorem aH : aF k=true↔(∀j,j<k.w.length->0<=nth k.w j)/\dA k.F.X=true/\gx k.F.Q k.F.X.a4.length=true/\(∀j,j<k.F.X.a4.length->nth k.F.X.a4 j=decide (0<(pagesOn k.F.Q (j:Int)).length))/\0<=k.Calls/\k.Calls<=100000/\k.w.length<=40:=by grind [cC,aF,df,pB]
theorem aZ{f:bi} : dA f=true↔1<=f.V.length/\f.V.length<=32/\f.a4.length=f.V.length/\∀j,j<f.V.length->ip (nth f.V j) (nth f.a4 j)=true:=by
 unfold dA;simp only[I0,C0,X5,and_assoc];refine and_congr Iff.rfl (and_congr Iff.rfl (and_congr_right λb=>⟨λh j a=>?_,λh q c=>?_⟩))
 ·exact h _ (Z2 (xe (ax a) (ax ω)))
 grind [List.mem_iff_getElem?,List.getElem?_zip_eq_some,bk]
theorem bu : gx t a=true↔(∀j,j<t.J.length->lx a (nth t.J j)=true)/\1<=t.J.length/\t.J.length<=32:=by grind [cC,gx]
def eg : 0<(pagesOn t f).length↔∃q,q<t.J.length/\(nth t.J q).e≠0/\(nth t.J q).j=f:=by
 unfold pagesOn k7;rw[O1,List.length_pos_iff_exists_mem];simp[QU]
variable{p:Int}
theorem bR(h:aF k=true)(a:(af k.F.Q p).e≠0):0<=p/\p<k.F.Q.J.length/\af k.F.Q p=nth k.F.Q.J p.toNat/\0<=(af k.F.Q p).j/\(af k.F.Q p).j<k.F.X.a4.length:=by
 obtain⟨-,-,b,-⟩:=aH.1 h
 grind [bu,af,lx]
theorem y4(p:Int)(h:aF k=true):aF (cy k p)=true:=by
 unfold cy;split
 ·exact h
 rename_i r;obtain⟨C,D,E,i,l⟩:=bR h r;obtain⟨t,u,F,w,y,A,B⟩:=aH.1 h;obtain⟨G,H,J,L⟩:=aZ.1 u;obtain⟨M,N,O⟩:=bu.1 F;rw[E]at r i l |-;generalize K:(nth k.F.Q.J p.toNat).j=f at i l;have b:∀q,nth (k.F.Q.J.set p.toNat ⟨0,0⟩) q=if p.toNat=q then⟨0,0⟩ else nth k.F.Q.J q:=λq=>by grind [bz]
 have c:∀j:Int,0<(pagesOn (⟨k.F.Q.J.set p.toNat ⟨0,0⟩⟩ : aL) j).length↔∃q,q<k.F.Q.J.length/\q≠p.toNat/\(nth k.F.Q.J q).e≠0/\(nth k.F.Q.J q).j=j:=λj=>by
  rw[eg];simp only[I2,b]
  grind
 have d:∀j:Int,0<(pagesOn k.F.Q j).length↔∃q,q<k.F.Q.J.length/\(nth k.F.Q.J q).e≠0/\(nth k.F.Q.J q).j=j:=λj=>eg
 have g:gx ⟨k.F.Q.J.set p.toNat ⟨0,0⟩⟩ k.F.X.a4.length=true:=by
  rw[bu];simp only[I2,b]
  grind [lx]
 unfold gp;split
 ·rename_i o
  rw[aH];simp only[mh,I2]at o |-;refine⟨t,?_,g,λj n=>?_,y,A,B⟩
  ·rw[aZ]
   simp only[I2,bz];refine⟨G,H,J,λj n=>?_⟩;by_cases a:f.toNat=j
   ·rw[CD ⟨a,n⟩,CD ⟨a,ω⟩];decide
   grind
  rw[bz];by_cases a:f.toNat=j
  ·grind
  rw[CC (λe=>a e.1),w j n];refine decide_eq_decide.2 ?_;rw[d,c]
  grind
 rename_i o;rw[aH];simp only[mh]at o |-;refine⟨t,u,g,λj n=>?_,y,A,B⟩;rw[w j n];refine decide_eq_decide.2 ?_;by_cases a:f=j
 ·grind
 rw[d,c];grind
def bX(h:aF k=true):am.sml k:=by
 obtain⟨g,b,c,i,l,n,o⟩:=aH.1 h;obtain⟨p,q,t,d⟩:=aZ.1 b;obtain⟨u,w,y⟩:=bu.1 c;refine⟨⟨⟨⟨ω,λr f=>?_⟩,(by omega:_<=1048576)⟩,⟨ω,λe _=>trivial⟩⟩,(by omega:_<=1048576)⟩;obtain⟨j,a⟩:=List.mem_iff_getElem?.1 f;have:=d j (O3.1 a).1;rw[bk a]at this;unfold ip at this;simp only[I0,C0]at this;show r.length<=1048576;omega
theorem DB(a:fg h=true):aF h.G=true:=by grind [fg,zP]
open Go.RowKit
set_option maxRecDepth 20000
set_option maxHeartbeats 4000000
variable{K:List (List C)->Prop}{sz by_:Nat}
theorem Ap.cp{e:α->List C}{xs:List α}(d:∀x,(e x).length=sz)(f:∀x,bp (e x)=true)(a:xs.length<=1048576)(b:by_<=1000)(c:K (xs.map e)):Ap true [] (xs.map e) sz by_ K:=
 CU ψ ψ ψ (by simp;omega) (by simp only[O1,List.length_nil,W9];exact Eh a b) rfl c
def CV:type_of% @Ap.cp:=@Ap.cp
theorem Fl.cp{e:α->List C}{xs:List α}{X:Prop}(d:∀x,(e x).length=sz)(f:∀x,bp (e x)=true)(a:xs.length<=1048576)(b:by_<=1000)(c:X):Fl (xs.map e) sz by_ X:=
 Fl.mk ψ (by simp;omega) (by simp only[O1];exact Eh a b) c
variable{r:List C}{rows:List (List C)}
theorem Ap.sn{a:List (List C)}(h1:∀r∈rows,r.length=sz)(f:r.length=sz)(b:rows.length+1<=1048576)(c:by_<=1000)(d:a=rows++[r])(e:K a):Ap false rows [r] sz by_ K:=
 CU h1 ψ ψ (by simp;omega) (Eh (by simpa using b) c) d e
def ef(xs:List Int)(a:xs.length<=1048576):zzA 196 false [.val none (aJ .S xs)] .one (aJ .own xs):=by
 refine fO 6 [] Tryz.func196 rfl ?_ (.inr (bQ _))
 repeat'(first|refine gP ?_|(conv=>whnf);first|refine CV (λ_=>rfl) (λ_=>rfl) a (by decide) ?_)
 rfl
def EC(t:aL)(a:aL.sml t):zzA 468 false [.val (some 1) (aL.enc .S t)] .agg (aL.enc .own t):=by
 have b:=a.1;refine fO 8 [] Tryz.func468 rfl ?_ (.inr (aL.enc_fr _))
 repeat'(first|refine gP ?_|(conv=>whnf);first|refine CV (λ_=>rfl) (λ_=>rfl) b (by decide) ?_)
 rfl
def zB(t:aL)(a:aL.sml t):zzA 347 false [.val (some 1) (aL.enc .S t)] .agg (aL.enc .own t):=by
 have b:=a.1;refine fO 8 [] Tryz.func347 rfl ?_ (.inr (aL.enc_fr _))
 repeat'(first|refine gP ?_|(conv=>whnf);first|refine CV (λ_=>rfl) (λ_=>rfl) b (by decide) ?_)
 rfl
variable{n:Nat}
theorem aS{e:α->List C}{l:List α}(h:∀x,(e x).length=n):∀r∈l.map e,r.length=n:=(ψ)
variable{i:Nat}{β:Type}
theorem fk[Inhabited α]{xs:List α}{f:α->β}(a:i<xs.length):(xs.take (i+1)).map f=(xs.take i).map f++[f (nth xs i)]:=by grind [Y7,ax]
def Dy(f:bi)(a:bi.sml f):zzA 467 false [.val (some 2) (bi.enc .S f)] .agg (bi.enc .own f):=by
 have g:=a.1.1;have d:f.a4.length<=1048576:=a.2;refine fO 30 [(5,10,[17,18,19,20,21,22,23,24,25,26])] Tryz.func467 rfl ?_ (.inr (bi.enc_fr _))
 repeat'(first|refine gP ?_|(conv=>whnf);first|refine CV (λ_=>rfl) (λ_=>rfl) d (by decide) ?_)
 (conv=>whnf)
 refine CH (ι:=Nat) (λi=>[(1,.H .box (bi.enc .S f)),(2,.H .box [.z,.z]),(3,.H .box [.s .own ((f.V.take i).map (aJ .own)),.s .own (f.a4.map (rB .own))]),(4,.H .one [I ((i:Nat):Int)])]) (λi=>i<=f.V.length) (λi=>f.V.length - i) (0) ?_ (Z0 _) λi h=>?_
 ·exact wB
 by_cases b:i<f.V.length
 ·have e:=ax b
  have c:(nth f.V i).length<=1048576:=a.1.2 _ (au b)
  repeat'(first|refine gE ?_|(conv=>whnf);first|with_reducible refine CF (aa e) ?_|refine Fl.cp (λ_=>rfl) (λ_=>rfl) c (by decide) ?_|refine Ap.sn (aS λ_=>rfl) rfl (by simp;omega) (by decide) (fk b) ?_)
  ((conv=>whnf);refine CG (i+1) ω ω ?_;(exact wB))
 repeat'(first|refine gE ?_|fail)
 obtain rfl:i=f.V.length:=ω
 rw[I7]
 rfl
def oH(f:bi)(a:bi.sml f):zzA 346 false [.val (some 2) (bi.enc .S f)] .agg (bi.enc .own f):=by
 have g:=a.1.1;have d:f.a4.length<=1048576:=a.2;refine fO 27 [(5,5,[18,19,20,21,22])] Tryz.func346 rfl ?_ (.inr (bi.enc_fr _))
 repeat'(first|refine gP ?_|(conv=>whnf);first|refine CV (λ_=>rfl) (λ_=>rfl) d (by decide) ?_)
 (conv=>whnf)
 refine CH (ι:=Nat) (λi=>[(2,.H .box [.z,.z]),(3,.H .box [.s .own ((f.V.take i).map (aJ .own)),.s .own (f.a4.map (rB .own))]),(12,.H .one (kn .S f.V)),(13,.H .one [I (f.V.length)]),(14,.H .one [I ((i:Nat):Int)])]) (λi=>i<=f.V.length) (λi=>f.V.length - i) (0) ?_ (Z0 _) λi h=>?_
 ·exact wB
 by_cases b:i<f.V.length
 ·have e:=ax b
  have c:(nth f.V i).length<=1048576:=a.1.2 _ (au b)
  repeat'(first|refine gE ?_|(conv=>whnf);first|with_reducible refine CF (aa e) ?_|refine CB (ef (nth f.V i) c) ?_|refine Ap.sn (aS λ_=>rfl) rfl (by simp;omega) (by decide) (fk b) ?_)
  ((conv=>whnf);refine CG (i+1) ω ω ?_;(exact wB))
 repeat'(first|refine gE ?_|fail)
 obtain rfl:i=f.V.length:=ω
 rw[I7]
 rfl
def En(m:aV)(a:aV.sml m):zzA 349 false [.val (some 3) (aV.enc .S m)] .agg (aV.enc .own m):=by
 refine fO 10 [(1,5,[3,4,5,6,7])] Tryz.func349 rfl ?_ (.inr (aV.enc_fr _))
 repeat'(first|refine gP ?_|(conv=>whnf);first|refine CB (Dy m.X a.1) ?_|refine CB (EC m.Q a.2) ?_)
 rfl
def jQ(m:aV)(a:aV.sml m):zzA 195 false [.val (some 3) (aV.enc .S m)] .agg (aV.enc .own m):=by
 refine fO 10 [(1,5,[3,4,5,6,7])] Tryz.func195 rfl ?_ (.inr (aV.enc_fr _))
 repeat'(first|refine gP ?_|(conv=>whnf);first|refine CB (oH m.X a.1) ?_|refine CB (zB m.Q a.2) ?_)
 rfl
def DT(k:am)(a:am.sml k):zzA 203 false [.val (some 5) (am.enc .S k)] .agg (am.enc .own k):=by
 have b:k.w.length<=1048576:=a.2;refine fO 13 [(1,9,[3,4,5,6,7,8,9,10,11])] Tryz.func203 rfl ?_ (.inr (CZ _))
 repeat'(first|refine gP ?_|(conv=>whnf);first|refine CB (En k.F a.1) ?_|refine Fl.cp (λ_=>rfl) (λ_=>rfl) b (by decide) ?_)
 rfl
def gj(k:am)(a:am.sml k):zzA 68 false [.val (some 5) (am.enc .S k)] .agg (am.enc .own k):=by
 refine fO 12 [(1,8,[3,4,5,6,7,8,9,10])] Tryz.func68 rfl ?_ (.inr (CZ _))
 repeat'(first|refine gP ?_|(conv=>whnf);first|refine CB (jQ k.F a.1) ?_|refine CB (ef k.w a.2) ?_)
 rfl
def EO(k:am)(p:Int)(a:aL.sml k.F.Q):zzA 485 false [.ptr (am.enc .S k),.val none [I p]] .one [I (af k.F.Q p).e]:=by
 refine fO 13 [] Tryz.func485 rfl ?_
 repeat'(first|refine gP ?_|(conv=>whnf);first|refine CB (me k.F.Q p a) ?_)
 rfl
def ig(k:am)(b:am.sml k):zzA 197 false [.val (some 5) (am.enc .S k)] .one [B (decide (k.Calls≠100000)&&aF k)]:=by
 have c:=mW k b;refine fO 10 [] Tryz.func197 rfl ?_
 repeat'(first|refine gP ?_|(conv=>whnf);first|with_reducible (first|refine Bf.N (λa=>?_) (λa=>?_)|refine Bf.D (λa=>?_) (λa=>?_))|refine CB (c) ?_)
 all_goals(exact C1 (λz=>[B z]) ((by simp[*])))
theorem uG(h:(pagesOn k.F.Q f).length=0):am.enc .own (gp k f)=[.s .own ((k.F.X.V.map (aJ .own)).set f.toNat (aJ .own (List.replicate 16 0))),.s .own ((k.F.X.a4.map (rB .own)).set f.toNat (rB .own false)),.s .own (k.F.Q.J.map (bm.enc .own)),I k.Calls,.s .own (k.w.map (rI .own))]:=by grind [X8,gp,am.enc]
theorem xR(h:¬(pagesOn k.F.Q f).length=0):am.enc .own (gp k f)=am.enc .own k:=by grind [gp]
def Fg(k:am)(f:Int)(a:aL.sml k.F.Q)(b:0<=f/\f<k.F.X.V.length/\f<k.F.X.a4.length) :
  zzB 486 false [.ptr (am.enc .own k),.val none [I f]] [.ptr (am.enc .own (gp k f)),.val none [I f]] (.tup []) []:=by
 have c:=ax (xs:=k.F.X.V) (i:=f.toNat) ω;have d:=ax (xs:=k.F.X.a4) (i:=f.toNat) ω;by_cases e:(pagesOn k.F.Q f).length=0
 ·rw[uG e]
  refine fM 30 [] [(2,8,[21,22,23,24,25,26,27,28])] [(0,0),(0,0)] Tryz.func486 rfl (λu q=>?_) (.inr trivial)
  repeat'(first|refine gB ?_|(conv=>whnf);first|with_reducible (first|refine CP b.1 (aa d) ?_|refine CP b.1 (aa c) ?_)|refine CN (gZ k.F.Q f a) ⟨⟨rfl,aL.enc_fz k.F.Q⟩,⟨rfl,rfl⟩,trivial⟩ ?_|refine CR rfl rfl (aa c) rfl (Z1 rfl) rfl ?_|refine CR rfl rfl (aa d) rfl (Z1 rfl) rfl ?_|refine Mk.mk 16 rfl rfl (by decide) (by decide) rfl ?_)
  refine CO rfl rfl ?_;exact wB
 rw[xR e];refine fM 30 [] [(2,8,[21,22,23,24,25,26,27,28])] [(0,0),(0,0)] Tryz.func486 rfl (λu q=>?_) (.inr trivial)
 repeat'(first|refine gB ?_|(conv=>whnf);first|refine CN (gZ k.F.Q f a) ⟨⟨rfl,aL.enc_fz k.F.Q⟩,⟨rfl,rfl⟩,trivial⟩ ?_)
 refine CO rfl rfl ?_;exact wB
def ui(k:am)(f:Int)(a:aL.sml k.F.Q)(b:0<=f/\f<k.F.X.V.length/\f<k.F.X.a4.length) :
  zzB 198 false [.ptr (am.enc .own k),.val none [I f]] [.ptr (am.enc .own (gp k f)),.val none [I f]] (.tup []) []:=by
 have c:=ax (xs:=k.F.X.V) (i:=f.toNat) ω;have d:=ax (xs:=k.F.X.a4) (i:=f.toNat) ω;by_cases e:(pagesOn k.F.Q f).length=0
 ·rw[uG e]
  refine fM 30 [] [(2,8,[21,22,23,24,25,26,27,28])] [(0,0),(0,0)] Tryz.func198 rfl (λu q=>?_) (.inr trivial)
  repeat'(first|refine gB ?_|(conv=>whnf);first|with_reducible (first|refine CP b.1 (aa d) ?_|refine CP b.1 (aa c) ?_)|refine CN (l7 k.F.Q f a) ⟨⟨rfl,aL.enc_fz k.F.Q⟩,⟨rfl,rfl⟩,trivial⟩ ?_|refine CR rfl rfl (aa c) rfl (Z1 rfl) rfl ?_|refine CR rfl rfl (aa d) rfl (Z1 rfl) rfl ?_|refine Mk.mk 16 rfl rfl (by decide) (by decide) rfl ?_)
  refine CO rfl rfl ?_;exact wB
 rw[xR e];refine fM 30 [] [(2,8,[21,22,23,24,25,26,27,28])] [(0,0),(0,0)] Tryz.func198 rfl (λu q=>?_) (.inr trivial)
 repeat'(first|refine gB ?_|(conv=>whnf);first|refine CN (l7 k.F.Q f a) ⟨⟨rfl,aL.enc_fz k.F.Q⟩,⟨rfl,rfl⟩,trivial⟩ ?_)
 refine CO rfl rfl ?_;exact wB
theorem zb(k:am)(p:Int):am.enc .own (mh k p)=[.s .own (k.F.X.V.map (aJ .own)),.s .own (k.F.X.a4.map (rB .own)),.s .own ((k.F.Q.J.map (bm.enc .own)).set p.toNat (bm.enc .own ⟨0,0⟩)),I k.Calls,.s .own (k.w.map (rI .own))]:=by grind [X8,mh,am.enc]
theorem xl(h:aF k=true):aL.sml (mh k p).F.Q:=by
 obtain⟨a,b,c⟩:=bu.1 (aH.1 h).2.2.1;exact⟨by grind [mh],λ_ _=>trivial⟩
theorem R6(k:am)(p:Int)(b:aF k=true) :
  zzB 374 false [.ptr (am.enc .own k),.val none [I p]] [.ptr (am.enc .own (cy k p)),.val none [I p]] .one [B (decide ((af k.F.Q p).e≠0))]:=by
 have j:=bX b;have c:=EO k p j.1.2;by_cases a:(af k.F.Q p).e=0
 ·rw[show cy k p=k by unfold cy;rw[CD a]]
  refine fM 32 [(486,[2,0])] [] [(0,0),(0,0)] Tryz.func374 rfl (λu q=>?_)
  repeat'(first|refine gB ?_|(conv=>whnf);first|refine CN (c) ⟨am.enc_fz k,⟨rfl,rfl⟩,trivial⟩ ?_)
  refine CO rfl ?_ ?_
  ·exact C1 (λz=>[B z]) ((by simp[a]))
  exact wB
 obtain⟨l,r,n,d,o⟩:=bR b a;have h:=(aZ.1 (aH.1 b).2.1).2.2.1;rw[show cy k p=gp (mh k p) (af k.F.Q p).j by unfold cy;rw[CC a]];have e:=Fg (mh k p) (af k.F.Q p).j (xl b) ⟨d,by grind [mh],by grind [mh]⟩;rw[zb]at e;have g:=ax (xs:=k.F.Q.J) (i:=p.toNat) ω;rw[n]at c e a |-;refine fM 32 [(486,[2,0])] [] [(0,0),(0,0)] Tryz.func374 rfl (λu q=>?_)
 repeat'(first|refine gB ?_|(conv=>whnf);first|with_reducible refine CP l (aa g) ?_|refine CN (c) ⟨am.enc_fz k,⟨rfl,rfl⟩,trivial⟩ ?_|refine CR rfl rfl (aa g) rfl (Z1 rfl) rfl ?_|refine CJ rfl (aa g) rfl ?_|refine CK (e) (.inl rfl) ?_)
 refine CO rfl ?_ ?_
 ·exact C1 (λz=>[B z]) ((by simp[a]))
 exact wB
theorem pM(k:am)(p:Int)(a:aF k=true)(o:k.Calls≠100000) :
  zzA 69 false [.val (some 5) (am.enc .S k),.val none [I p]] (.tup [some 5,none]) (am.enc .own (cy k p)++[B (decide ((af k.F.Q p).e≠0))]):=by
 have d:=bX a;have l:=gj k d;have e:=ig k d;have c:=eP k p d.1.2;rw[a,O0 o]at e;by_cases b:(af k.F.Q p).e=0
 ·rw[show cy k p=k by unfold cy;rw[CD b]]
  rw[X0 (by simpa using b)]at c |-;refine fP 38 [(198,[2,0])] [] Tryz.func69 rfl ?_ (.inr (aD (CZ k) ⟨trivial,trivial⟩))
  repeat'(first|refine gP ?_|(conv=>whnf);first|refine CB (l) ?_|refine CB (e) ?_|refine CB (c) ?_)
  all_goals rfl
 obtain⟨q,u,r,g,t⟩:=bR a b;have n:=(aZ.1 (aH.1 a).2.1).2.2.1;rw[show cy k p=gp (mh k p) (af k.F.Q p).j by unfold cy;rw[CC b]];have h:=ui (mh k p) (af k.F.Q p).j (xl a) ⟨g,by grind [mh],by grind [mh]⟩;rw[zb]at h;have j:=ax (xs:=k.F.Q.J) (i:=p.toNat) ω;rw[O0 b]at c |-;rw[r]at h |-;refine fP 38 [(198,[2,0])] [] Tryz.func69 rfl ?_ (.inr (aD (CZ _) ⟨trivial,trivial⟩))
 repeat'(first|refine gP ?_|(conv=>whnf);first|with_reducible refine CP q (aa j) ?_|refine CB (l) ?_|refine CB (e) ?_|refine CB (c) ?_|refine CR rfl rfl (aa j) rfl (Z1 rfl) rfl ?_|refine CJ rfl (aa j) rfl ?_|refine CK (h) (.inl rfl) ?_)
 all_goals rfl
def gr(n:Nat):bi:=⟨List.replicate n (List.replicate 16 0),List.replicate n false⟩
def fX(n:Nat):aL:=⟨List.replicate n ⟨0,0⟩⟩
def ce(p f:Nat)(a:List Int):am:=⟨⟨gr f,fX p⟩,0,a⟩
def fQ:aE:=⟨List.replicate 4 []⟩
def eO(n:Nat):aM:=⟨List.replicate n [],List.replicate n []⟩
def newHeap(p f t:Nat)(lim:Int)(a:List Int):ac:=⟨ce p f a,[⟨0,p⟩],[],[],[],List.replicate t fQ,eO t,⟨16,[]⟩,0,0,lim,1,false,⟨⟨0,0,[]⟩,0,0⟩⟩
theorem dH[Inhabited α]{y:α}(a:j<n):nth (List.replicate n y) j=y:=bk ψ
theorem PJ(n:Nat)(f:Int):pagesOn (fX n) f=[]:=by grind [List.filter_eq_nil_iff,dH,pagesOn,k7,fX,QU]
theorem Eo{p f:Nat}(c:1<=p/\p<=32)(d:1<=f/\f<=32):aF (ce p f [])=true:=by
 rw[aH];refine⟨λj b=>by grind [ce],aZ.2 ⟨by grind [ce,gr],by grind [ce,gr],by grind [ce,gr],λj b=>?_⟩,bu.2 ⟨λj b=>?_,by grind [ce,fX],by grind [ce,fX]⟩,λj b=>?_,by simp[ce],by simp[ce],by simp[ce]⟩
 ·have a:j<f:=by grind [ce,gr]
  rw[show nth (ce p f []).F.X.V j=List.replicate 16 0 from dH a,show nth (ce p f []).F.X.a4 j=false from dH a]
  decide
 all_goals grind [PJ,ce,fX,nth,lx,gr]
theorem zt(w:World)(q:Nat)(a:Array Obj):bw NO w (Sort.grow (w.drewN q) a):=by
 have c:∀b,b<w.heap.size->(Sort.grow (w.drewN q) a).heap[b]? = w.heap[b]?:=λb c=>Sort.heap_grow_old (w.drewN q) a c
 refine⟨rfl,rfl,rfl,ψ,λb h _=>c b h,λb o h _=>?_,λb o h _=>?_⟩
 all_goals grind [Go.World.cell?,Go.World.frozen?,mp]
theorem MW(c:Nat)(W:World):Calls Tryz.prog 455 #[.slice none 0 c] W λe w'=>∃B q g,e=.returned (.slice B 0 0)/\w'=Sort.grow (W.drewN q) g:=by
 have q22:∀(w:World)(a:Option Addr)(n c b d:Nat),(binOp .eql 33 (.slice a n c) (.slice none b d)).run Tryz.prog w=.ok (.bool a.isNone) w:=λw a n c b d=>Lib.run_eql_slice_nil w _ _ a n c b d Tryz.underlying33
 go_enter Tryz.func455,Tryz.ntmps455
 go_wp2
 go_ret
 exact⟨none,0,#[],rfl,by simp[Sort.grow,World.drewN]⟩
theorem Jq(a:Addr)(c:Nat)(W:World):Calls Tryz.prog 455 #[.slice (some a) 0 c] W λe w'=>∃B q g,e=.returned (.slice B 0 0)/\w'=Sort.grow (W.drewN q) g:=by
 have q22:∀(w:World)(a:Option Addr)(n c b d:Nat),(binOp .eql 33 (.slice a n c) (.slice none b d)).run Tryz.prog w=.ok (.bool a.isNone) w:=λw a n c b d=>Lib.run_eql_slice_nil w _ _ a n c b d Tryz.underlying33
 go_enter Tryz.func455,Tryz.ntmps455
 go_wp2
 go_ret
 exact⟨some ⟨W.heap.size,0,none⟩,0,#[.cells #[] 3],rfl,by rw[Sort.alloc_eq_grow];rfl⟩
theorem JJ(xs:List Int)(n:xs.length<=1048576):zzA 455 false [.val none (aJ .S xs)] .one (aJ .own xs):=by
 by_cases c:xs=[]
 ·subst c
  refine⟨⟨_,Tryz.func455,by kernel_rfl,by kernel_rfl⟩,λw S o r d=>?_⟩
  match o,d with
  | [v],⟨d,_⟩=>
   have b:=br.rep1 (show br w S NO none [C.s .S []] v from d);obtain⟨l,g,rfl⟩:=b.slice;have p:Calls Tryz.prog 455 #[.slice l 0 g] w λe w'=>∃B q i,e=.returned (.slice B 0 0)/\w'=Sort.grow (w.drewN q) i:=by
    cases l with
    | none=>grind [MW]
    | some a=>grind [Jq]
   refine p.mono λe w' ⟨B,q,i,c,j⟩=>?_
   subst j;exact⟨.slice B 0 0,c,zt w q i,NO,NO,λ_ _ h=>h.elim,λ_ _ h=>h.elim,λ_ _ h=>h.elim,rfl,row1 (.nil _ .own B trivial)⟩
 have k:xs.map (rI .S)≠[]:=by simp_all
 refine fO 8 [] Tryz.func455 rfl ?_ (.inr (bQ _))
 repeat'(first|refine gP ?_|(conv=>whnf);first|refine Nn.mk k ?_|refine CV (λ_=>rfl) (λ_=>rfl) n (by decide) ?_)
 rfl
def rx(p:cH)(a:cH.sml p):zzA 332 false [.val (some 3) (cH.enc .S p)] .agg (cH.enc .own p):=by
 have b:p.V.length<=1048576:=a;refine fO 8 [] Tryz.func332 rfl ?_ (.inr (cH.enc_fr _))
 repeat'(first|refine gP ?_|(conv=>whnf);first|refine CB (JJ p.V b) ?_)
 rfl
def tg(j:dE)(a:dE.sml j):zzA 185 false [.val (some 5) (dE.enc .S j)] .agg (dE.enc .own j):=by
 refine fO 8 [] Tryz.func185 rfl ?_ (.inr (dE.enc_fr _))
 repeat'(first|refine gP ?_|(conv=>whnf);first|refine CB (rx j.W a) ?_)
 rfl
def sU(c:aE)(d:aE.sml c):zzA 204 false [.val (some 1) (aE.enc .S c)] .agg (aE.enc .own c):=by
 have g:=d.1;refine fO 26 [(5,10,[13,14,15,16,17,18,19,20,21,22])] Tryz.func204 rfl ?_ (.inr (aE.enc_fr _))
 repeat'(first|refine gP ?_|fail)
 (conv=>whnf)
 refine CH (ι:=Nat) (λi=>[(1,.H .box (aE.enc .S c)),(2,.H .box [.z]),(3,.H .box [.s .own ((c.a.take i).map (aJ .own))]),(4,.H .one [I ((i:Nat):Int)])]) (λi=>i<=c.a.length) (λi=>c.a.length - i) (0) ?_ (Z0 _) λi h=>?_
 ·exact wB
 by_cases a:i<c.a.length
 ·have e:=ax a
  have b:(nth c.a i).length<=1048576:=d.2 _ (au a)
  repeat'(first|refine gE ?_|(conv=>whnf);first|with_reducible refine CF (aa e) ?_|refine Fl.cp (λ_=>rfl) (λ_=>rfl) b (by decide) ?_|refine Ap.sn (aS λ_=>rfl) rfl (by simp;omega) (by decide) (fk a) ?_)
  ((conv=>whnf);refine CG (i+1) ω ω ?_;(exact wB))
 repeat'(first|refine gE ?_|fail)
 obtain rfl:i=c.a.length:=ω
 rw[I7]
 rfl
def gN(c:aE)(d:aE.sml c):zzA 182 false [.val (some 1) (aE.enc .S c)] .agg (aE.enc .own c):=by
 have g:=d.1;refine fO 23 [(5,5,[14,15,16,17,18])] Tryz.func182 rfl ?_ (.inr (aE.enc_fr _))
 repeat'(first|refine gP ?_|fail)
 (conv=>whnf)
 refine CH (ι:=Nat) (λi=>[(2,.H .box [.z]),(3,.H .box [.s .own ((c.a.take i).map (aJ .own))]),(8,.H .one (kn .S c.a)),(9,.H .one [I (c.a.length)]),(10,.H .one [I ((i:Nat):Int)])]) (λi=>i<=c.a.length) (λi=>c.a.length - i) (0) ?_ (Z0 _) λi h=>?_
 ·exact wB
 by_cases a:i<c.a.length
 ·have e:=ax a
  have b:(nth c.a i).length<=1048576:=d.2 _ (au a)
  repeat'(first|refine gE ?_|(conv=>whnf);first|with_reducible refine CF (aa e) ?_|refine CB (ef (nth c.a i) b) ?_|refine Ap.sn (aS λ_=>rfl) rfl (by simp;omega) (by decide) (fk a) ?_)
  ((conv=>whnf);refine CG (i+1) ω ω ?_;(exact wB))
 repeat'(first|refine gE ?_|fail)
 obtain rfl:i=c.a.length:=ω
 rw[I7]
 rfl
def ES(m:aM)(b:aM.sml m):zzA 205 false [.val (some 2) (aM.enc .S m)] .agg (aM.enc .own m):=by
 have h:=b.1.1;have g:=b.2.1;refine fO 46 [(5,10,[14,15,16,17,18,19,20,21,22,23]),(9,10,[33,34,35,36,37,38,39,40,41,42])] Tryz.func205 rfl ?_ (.inr (aM.enc_fr _))
 repeat'(first|refine gP ?_|fail)
 (conv=>whnf)
 refine CH (ι:=Nat) (λi=>[(1,.H .box (aM.enc .S m)),(2,.H .box [.z,.z]),(3,.H .box [.s .own ((m.U.take i).map (bO .own)),.z]),(4,.H .one [I ((i:Nat):Int)])]) (λi=>i<=m.U.length) (λi=>m.U.length - i) (0) ?_ (Z0 _) λi j=>?_
 ·exact wB
 by_cases c:i<m.U.length
 ·have d:=ax c
  have a:(nth m.U i).length<=1048576:=(b.1.2 _ (au c)).1
  repeat'(first|refine gE ?_|(conv=>whnf);first|with_reducible refine CF (aa d) ?_|refine Fl.cp (λ_=>rfl) (λ_=>rfl) a (by decide) ?_|refine Ap.sn (aS λ_=>rfl) rfl (by simp;omega) (by decide) (fk c) ?_)
  ((conv=>whnf);refine CG (i+1) ω ω ?_;(exact wB))
 obtain rfl:i=m.U.length:=ω
 rw[I7]
 repeat'(first|refine gE ?_|fail)
 (conv=>whnf)
 refine CH (ι:=Nat) (λk=>[(1,.H .box (aM.enc .S m)),(2,.H .box [.z,.z]),(3,.H .box [.s .own (m.U.map (bO .own)),.s .own ((m.u.take k).map (aJ .own))]),(5,.H .one [I ((k:Nat):Int)])]) (λk=>k<=m.u.length) (λk=>m.u.length - k) (0) ?_ (Z0 _) λk l=>?_
 ·exact wB
 by_cases e:k<m.u.length
 ·have d:=ax e
  have a:(nth m.u k).length<=1048576:=b.2.2 _ (au e)
  repeat'(first|refine gE ?_|(conv=>whnf);first|with_reducible refine CF (aa d) ?_|refine Fl.cp (λ_=>rfl) (λ_=>rfl) a (by decide) ?_|refine Ap.sn (aS λ_=>rfl) rfl (by simp;omega) (by decide) (fk e) ?_)
  ((conv=>whnf);refine CG (k+1) ω ω ?_;(exact wB))
 repeat'(first|refine gE ?_|fail)
 obtain rfl:k=m.u.length:=ω
 rw[I7]
 rfl
def iz(m:aM)(b:aM.sml m):zzA 183 false [.val (some 2) (aM.enc .S m)] .agg (aM.enc .own m):=by
 have h:=b.1.1;have g:=b.2.1;refine fO 41 [(5,6,[16,17,18,19,20,21]),(10,5,[32,33,34,35,36])] Tryz.func183 rfl ?_ (.inr (aM.enc_fr _))
 repeat'(first|refine gP ?_|fail)
 (conv=>whnf)
 refine CH (ι:=Nat) (λi=>[(1,.H .box (aM.enc .S m)),(2,.H .box [.z,.z]),(3,.H .box [.s .own ((m.U.take i).map (bO .own)),.z]),(10,.H .one (xU .S m.U)),(11,.H .one [I (m.U.length)]),(12,.H .one [I ((i:Nat):Int)])]) (λi=>i<=m.U.length) (λi=>m.U.length - i) (0) ?_ (Z0 _) λi j=>?_
 ·exact wB
 by_cases c:i<m.U.length
 ·have d:=ax c
  have a:(nth m.U i).length<=1048576:=(b.1.2 _ (au c)).1
  repeat'(first|refine gE ?_|(conv=>whnf);first|with_reducible refine CF (aa d) ?_|refine Fl.cp (λ_=>rfl) (λ_=>rfl) a (by decide) ?_|refine Ap.sn (aS λ_=>rfl) rfl (by simp;omega) (by decide) (fk c) ?_)
  ((conv=>whnf);refine CG (i+1) ω ω ?_;(exact wB))
 obtain rfl:i=m.U.length:=ω
 rw[I7]
 repeat'(first|refine gE ?_|fail)
 (conv=>whnf)
 refine CH (ι:=Nat) (λk=>[(2,.H .box [.z,.z]),(3,.H .box [.s .own (m.U.map (bO .own)),.s .own ((m.u.take k).map (aJ .own))]),(26,.H .one (kn .S m.u)),(27,.H .one [I (m.u.length)]),(28,.H .one [I ((k:Nat):Int)])]) (λk=>k<=m.u.length) (λk=>m.u.length - k) (0) ?_ (Z0 _) λk l=>?_
 ·exact wB
 by_cases e:k<m.u.length
 ·have d:=ax e
  have a:(nth m.u k).length<=1048576:=b.2.2 _ (au e)
  repeat'(first|refine gE ?_|(conv=>whnf);first|with_reducible refine CF (aa d) ?_|refine CB (ef (nth m.u k) a) ?_|refine Ap.sn (aS λ_=>rfl) rfl (by simp;omega) (by decide) (fk e) ?_)
  ((conv=>whnf);refine CG (k+1) ω ω ?_;(exact wB))
 repeat'(first|refine gE ?_|fail)
 obtain rfl:k=m.u.length:=ω
 rw[I7]
 rfl
def DA(q:bD)(b:bD.sml q):zzA 206 false [.val (some 2) (bD.enc .S q)] .agg (bD.enc .own q):=by
 have a:q.a5.length<=1048576:=b.1;refine fO 10 [(1,6,[3,4,5,6,7,8])] Tryz.func206 rfl ?_ (.inr (bD.enc_fr _))
 repeat'(first|refine gP ?_|(conv=>whnf);first|refine Fl.cp (λ_=>rfl) (λ_=>rfl) a (by decide) ?_|refine CV (λ_=>rfl) (λ_=>rfl) a (by decide) ?_)
 rfl
def mY(q:bD)(b:bD.sml q):zzA 184 false [.val (some 2) (bD.enc .S q)] .agg (bD.enc .own q):=by
 have a:q.a5.length<=1048576:=b.1;refine fO 10 [(1,6,[3,4,5,6,7,8])] Tryz.func184 rfl ?_ (.inr (bD.enc_fr _))
 repeat'(first|refine gP ?_|(conv=>whnf);first|refine Fl.cp (λ_=>rfl) (λ_=>rfl) a (by decide) ?_|refine CV (λ_=>rfl) (λ_=>rfl) a (by decide) ?_)
 rfl
def Fb(j:dE)(a:dE.sml j):zzA 207 false [.val (some 5) (dE.enc .S j)] .agg (dE.enc .own j):=by
 have b:j.W.V.length<=1048576:=a;refine fO 11 [] Tryz.func207 rfl ?_ (.inr (dE.enc_fr _))
 repeat'(first|refine gP ?_|(conv=>whnf);first|refine CV (λ_=>rfl) (λ_=>rfl) b (by decide) ?_)
 rfl
def kR(xs:List aC)(a:gM xs):zzA 181 false [.val none (bF .S xs)] .one (bF .own xs):=by
 have b:=a.1;refine fO 6 [] Tryz.func181 rfl ?_ (.inr (kM _))
 repeat'(first|refine gP ?_|(conv=>whnf);first|refine CV (λ_=>rfl) (λ_=>rfl) b (by decide) ?_)
 rfl
def VD(h:ac)(a:C):List C:=[.s .own (h.G.F.X.V.map (aJ .own)),.s .own (h.G.F.X.a4.map (rB .own)),.s .own (h.G.F.Q.J.map (bm.enc .own)),I h.G.Calls,.s .own (h.G.w.map (rI .own)),.s .own (h.o.map (aC.enc .own)),.s .own (h.K.map (aA.enc .own)),.s .own (h.M.map (aB.enc .own)),.s .own (h.O.map (aU.enc .own)),a,.s .S (h.a1.U.map (bO .S)),.s .S (h.a1.u.map (aJ .S)),I h.a7.b7,.s .S (h.a7.a5.map (aO.enc .S)),I h.b3,I h.b1,I h.c0,I h.b,B h.k,I h.Y.W.a3,I h.Y.W.a0,.s .S (h.Y.W.V.map (rI .S)),I h.Y.a9,I h.Y.b]
def tZ:List C:=[.z,.z,.z,I 0,.z,.z,.z,.z,.z,.z,.z,.z,I 0,.z,I 0,I 0,I 0,I 0,B false,I 0,I 0,.z,I 0,I 0]
def TT(h:ac)(c:ac.sml h):zzA 72 false [.val (some 24) (ac.enc .S h)] .agg (ac.enc .own h):=by
 obtain⟨d,e,g,j,k,b,l,n,o⟩:=c;have p:=e.1;have q:=g.1;have r:=j.1;have t:=k.1;have w:=b.1;refine fO 61 [] Tryz.func72 rfl ?_ (.inr (ac.enc_fr _))
 repeat'(first|refine gP ?_|(conv=>whnf);first|refine CB (DT h.G d) ?_|refine CV (λ_=>rfl) (λ_=>rfl) p (by decide) ?_|refine CV (λ_=>rfl) (λ_=>rfl) q (by decide) ?_|refine CV (λ_=>rfl) (λ_=>rfl) r (by decide) ?_|refine CV (λ_=>rfl) (λ_=>rfl) t (by decide) ?_)
 (conv=>whnf)
 refine CH (ι:=Nat) (λi=>[(1,.H .box (VD h (.s .S (h.T.map (aE.enc .S))))),(2,.H .box tZ),(3,.H .one ([.s .own ((h.T.take i).map (aE.enc .own))])),(4,.H .one [I ((i:Nat):Int)])]) (λi=>i<=h.T.length) (λi=>h.T.length - i) (0) ?_ (Z0 _) λi y=>?_
 ·exact wB
 by_cases a:i<h.T.length
 ·have u:=ax a
  repeat'(first|refine gE ?_|(conv=>whnf);first|with_reducible refine CF (aa u) ?_|refine CB (sU (nth h.T i) (b.2 _ (au a))) ?_|refine Ap.sn (aS λ_=>rfl) rfl (by simp;omega) (by decide) (fk a) ?_)
  ((conv=>whnf);refine CG (i+1) ω ω ?_;(exact wB))
 obtain rfl:i=h.T.length:=ω
 rw[I7]
 repeat'(first|refine gE ?_|(conv=>whnf);first|refine CB (ES h.a1 l) ?_|refine CB (DA h.a7 n) ?_|refine CB (Fb h.Y o) ?_)
 rfl
def i7(h:ac)(c:ac.sml h):zzA 62 false [.val (some 24) (ac.enc .S h)] .agg (ac.enc .own h):=by
 obtain⟨d,e,g,j,k,b,l,n,o⟩:=c;have p:=g.1;have q:=j.1;have r:=k.1;have u:=b.1;refine fO 59 [(11,5,[38,39,40,41,42])] Tryz.func62 rfl ?_ (.inr (ac.enc_fr _))
 repeat'(first|refine gP ?_|(conv=>whnf);first|refine CB (gj h.G d) ?_|refine CB (kR h.o e) ?_|refine CV (λ_=>rfl) (λ_=>rfl) p (by decide) ?_|refine CV (λ_=>rfl) (λ_=>rfl) q (by decide) ?_|refine CV (λ_=>rfl) (λ_=>rfl) r (by decide) ?_)
 (conv=>whnf)
 refine CH (ι:=Nat) (λi=>[(1,.H .box (ac.enc .S h)),(2,.H .box tZ),(3,.H .box (VD h (.s .own ((h.T.take i).map (aE.enc .own))))),(32,.H .one (qd .S h.T)),(33,.H .one [I (h.T.length)]),(34,.H .one [I ((i:Nat):Int)])]) (λi=>i<=h.T.length) (λi=>h.T.length - i) (0) ?_ (Z0 _) λi w=>?_
 ·exact wB
 by_cases a:i<h.T.length
 ·have t:=ax a
  repeat'(first|refine gE ?_|(conv=>whnf);first|with_reducible refine CF (aa t) ?_|refine CB (gN (nth h.T i) (b.2 _ (au a))) ?_|refine Ap.sn (aS λ_=>rfl) rfl (by simp;omega) (by decide) (fk a) ?_)
  ((conv=>whnf);refine CG (i+1) ω ω ?_;(exact wB))
 obtain rfl:i=h.T.length:=ω
 rw[I7]
 repeat'(first|refine gE ?_|(conv=>whnf);first|refine CB (iz h.a1 l) ?_|refine CB (mY h.a7 n) ?_|refine CB (tg h.Y o) ?_)
 rfl
theorem Ap.sm{a:List (List C)}(h1:∀r∈rows,r.length=sz)(e:r.length=sz)(f:rows.length+1<=1073741824)(b:by_<=1000)(c:a=rows++[r])(d:K a):Ap false rows [r] sz by_ K:=
 CU h1 ψ ψ (by simp;omega) (Z6 (Nat.mul_le_mul ω b) (by decide)) c d
theorem Ap.s2{c:List (List C)}{a b:List C}(h1:∀r∈rows,r.length=sz)(g:a.length=sz)(h:b.length=sz)(i:rows.length+2<=1073741824)(d:by_<=1000)(e:c=rows++[a,b])(f:K c):Ap false rows [a,b] sz by_ K:=
 CU h1 ψ ψ (by simp;omega) (Z6 (Nat.mul_le_mul ω d) (by decide)) e f
def vh(y:aC)(a:List aC)(r:aC)(out:List aC)(done:Bool):jq (y::a) r out done=if ovl y r then none
  else if y.At+y.a6=r.At then jq a ⟨y.At,y.a6+r.a6⟩ out done
  else if r.At+r.a6=y.At then jq a ⟨r.At,r.a6+y.a6⟩ out done
  else if y.At > r.At/\done=false then jq a r (out++[r,y]) true
  else jq a r (out++[y]) done:=by rw[jq]
variable{xs:List aC}{pages:Int}
theorem xa(h:bH pages xs=true):jZ xs/\∀y∈xs,0<=y.At/\1<=y.a6/\y.At+y.a6<=pages:=by
 unfold bH at h;simp only[I0,C0]at h;have d:∀i,i<xs.length->1<=(nth xs i).a6/\0<=(nth xs i).At/\(nth xs i).At<=pages - (nth xs i).a6:=λi a=>by grind [fw,gC,rangeIn]
 have e:∀i,i+1<xs.length->(nth xs i).At+(nth xs i).a6<(nth xs (i+1)).At:=λi a=>by grind [fw,gC]
 have f:∀j i,i<j->j<xs.length->(nth xs i).At+(nth xs i).a6<(nth xs j).At:=λj=>by
  induction j with
  | zero=>intro i a;omega
  | succ j k=>
   grind
 refine⟨⟨?_,λy g=>?_⟩,λy g=>?_⟩
 ·rw[List.pairwise_iff_getElem]
  intro i j a c b;have:=f j i b c
  rwa [bk (I3 a),bk (I3 c)]at this
 all_goals grind [aN]
theorem iC[Inhabited α]{xs:List α}(a:i<xs.length):xs.drop i=nth xs i::xs.drop (i+1):=by
 rw[List.drop_eq_getElem_cons a,bk (I3 a)]
def ch(pages:Int)(xs:List aC)(r:aC):Option (List aC):=if bH pages xs=true/\rangeIn pages r=true then jq xs r [] false else none
def EV(xs:List aC)(o:Option (List aC)):List C:=bF .own (o.getD xs)++[B o.isSome]
def lO(xs:List aC)(o:Option (List aC)):iq (EV xs o):=aD (kM _) ⟨trivial,trivial⟩
theorem zS(pages:Int)(xs:List aC)(r:aC)(w:0<=pages/\pages<=1048576)(l:gM xs):zzA 254 false [.val none [I pages],.val none (bF .S xs),.val (some 2) (aC.enc .S r)] (.tup [none,none]) (EV xs (ch pages xs r)):=by
 have L:=l.1;have j:=mS pages xs w l;have n:=yB pages r w;have o:=kR xs l;cases k:bH pages xs<;>rw[k]at j
 ·rw[show ch pages xs r=none by unfold ch;rw[CC (by rw[k];simp)]]
  refine fO 111 [] Tryz.func254 rfl ?_ (.inr (lO _ _))
  repeat'(first|refine gP ?_|(conv=>whnf);first|refine CB (j) ?_|refine CB (o) ?_)
  rfl
 cases p:rangeIn pages r<;>rw[p]at n
 ·rw[show ch pages xs r=none by unfold ch;rw[CC (by rw[p];simp)]]
  refine fO 111 [] Tryz.func254 rfl ?_ (.inr (lO _ _))
  repeat'(first|refine gP ?_|(conv=>whnf);first|refine CB (j) ?_|refine CB (n) ?_|refine CB (o) ?_)
  rfl
 rw[show ch pages xs r=jq xs r [] false by unfold ch;rw[CD ⟨k,p⟩]];obtain⟨M,G⟩:=xa k;have H:0<=r.At/\1<=r.a6/\r.At+r.a6<=pages:=by grind [rangeIn]
 refine fO 111 [] Tryz.func254 rfl ?_ (.inr (lO _ _))
 repeat'(first|refine gP ?_|(conv=>whnf);first|refine CB (j) ?_|refine CB (n) ?_)
 (conv=>whnf)
 refine CH (ι:=Nat × aC × List aC × Bool) (λq=>[(1,.H .one (bF .S xs)),(5,.H .box (aC.enc .S q.2.1)),(8,.H .one (bF .own q.2.2.1)),(9,.H .one [B (q.2.2.2)]),(25,.H .one (bF .S xs)),(26,.H .one [I (xs.length)]),(27,.H .one [I ((q.1:Nat):Int)])]) (λq=>q.1<=xs.length/\jq (xs.drop q.1) q.2.1 q.2.2.1 q.2.2.2=jq xs r [] false/\(0<=q.2.1.At/\1<=q.2.1.a6/\q.2.1.At+q.2.1.a6<=pages)/\q.2.2.1.length<=2*q.1) (λq=>xs.length - q.1) ((0,r,[],false)) ?_ (⟨Z0 _,rfl,H,Z0 _⟩) λq c=>?_
 ·exact wB
 obtain⟨i,d,out,done⟩:=q;obtain⟨J,b,e,t⟩:=c;simp only at J b e t |-;by_cases u:i<xs.length
 ·have g:=ax u
  have N:=G _ (au u);rw[iC u]at b;by_cases h:ovl (nth xs i) d=true
  ·rw[<-b]
   rw[vh,CD h];unfold ovl at h;rw[C0]at h
   repeat'(first|refine gE ?_|(conv=>whnf);first|with_reducible (first|refine CF (aa g) ?_|refine Bf.D (λc=>?_) (λc=>?_))|refine CB (o) ?_)
   rfl
  have a:=b;rw[vh,CC h]at a;unfold ovl at h;rw[C0]at h;by_cases y:(nth xs i).At+(nth xs i).a6=d.At
  ·rw[CD y]at a
   repeat'(first|refine gB ?_|(conv=>whnf);first|with_reducible (first|refine CF (aa g) ?_|refine Bf.D (λc=>?_) (λc=>?_)))
   ((conv=>whnf);refine CG (i+1,⟨(nth xs i).At,(nth xs i).a6+d.a6⟩,out,done) ⟨(by simp only;omega),a,(by simp only;omega),(by simp only;omega)⟩ (by simp only;omega) ?_;(exact wB))
  rw[CC y]at a;by_cases F:d.At+d.a6=(nth xs i).At
  ·rw[CD F]at a
   repeat'(first|refine gB ?_|(conv=>whnf);first|with_reducible (first|refine CF (aa g) ?_|refine Bf.D (λc=>?_) (λc=>?_)|refine Bf.E (λc=>?_) (λc=>?_)))
   ((conv=>whnf);refine CG (i+1,⟨d.At,d.a6+(nth xs i).a6⟩,out,done) ⟨(by simp only;omega),a,(by simp only;omega),(by simp only;omega)⟩ (by simp only;omega) ?_;(exact wB))
  rw[CC F]at a;by_cases K:(nth xs i).At > d.At
  ·cases done with
   | false=>
    rw[CD ⟨K,rfl⟩]at a
    repeat'(first|refine gB ?_|(conv=>whnf);first|with_reducible (first|refine CF (aa g) ?_|refine Bf.D (λc=>?_) (λc=>?_)|refine Bf.E (λc=>?_) (λc=>?_))|refine Ap.s2 (aS λ_=>rfl) rfl rfl (by simp;omega) (by decide) rfl ?_)
    ((conv=>whnf)
     refine CG (i+1,d,out++[d,nth xs i],true) ⟨(by simp only;omega),a,e,(by simp;omega)⟩ (by simp only;omega) ?_
     (repeat'(first|exact trivial|rfl|exact CL rfl (CL (C1 (C.s dQ.own) (by simp[aC.enc])) trivial)|refine CL ?_ ?_)))
   | true=>
    rw[CC (by simp)]at a
    repeat'(first|refine gB ?_|(conv=>whnf);first|with_reducible (first|refine CF (aa g) ?_|refine Bf.D (λc=>?_) (λc=>?_)|refine Bf.E (λc=>?_) (λc=>?_))|refine Ap.sm (aS λ_=>rfl) rfl (by simp;omega) (by decide) rfl ?_)
    ((conv=>whnf)
     refine CG (i+1,d,out++[nth xs i],true) ⟨(by simp only;omega),a,e,(by simp;omega)⟩ (by simp only;omega) ?_
     (repeat'(first|exact trivial|rfl|exact CL rfl (CL (C1 (C.s dQ.own) (by simp[aC.enc])) trivial)|refine CL ?_ ?_)))
  rw[CC ω]at a
  repeat'(first|refine gB ?_|(conv=>whnf);first|with_reducible (first|refine CF (aa g) ?_|refine Bf.D (λc=>?_) (λc=>?_)|refine Bf.E (λc=>?_) (λc=>?_))|refine Ap.sm (aS λ_=>rfl) rfl (by simp;omega) (by decide) rfl ?_)
  ((conv=>whnf)
   refine CG (i+1,d,out++[nth xs i],done) ⟨(by simp only;omega),a,e,(by simp;omega)⟩ (by simp only;omega) ?_
   (repeat'(first|exact trivial|rfl|exact CL rfl (CL (C1 (C.s dQ.own) (by simp[aC.enc])) trivial)|refine CL ?_ ?_)))
 obtain rfl:i=xs.length:=ω
 rw[List.drop_length]at b;cases done with
 | false=>
  rw[<-b]
  repeat'(first|refine gE ?_|(conv=>whnf);first|refine Ap.sm (aS λ_=>rfl) rfl (by simp;omega) (by decide) rfl ?_)
  show [C.s dQ.own _,B true]=[C.s dQ.own _,B true]
  grind [jq,aC.enc]
 | true=>
  rw[<-b]
  repeat'(first|refine gE ?_|fail)
  rfl
theorem wT[Inhabited α](R:Int->Int->Prop)(n:∀a b c,R a b->R b c->R a c)(f:α->Int)(xs:List α):(∀i,i<xs.length->i=0\/R (f (nth xs (i - 1))) (f (nth xs i)))↔xs.Pairwise (λa b=>R (f a) (f b)):=by
 constructor
 ·intro h
  have l:∀j i,i<j->j<xs.length->R (f (nth xs i)) (f (nth xs j)):=λj=>by
   induction j with
   | zero=>intro i d;omega
   | succ j o=>
    grind
  rw[List.pairwise_iff_getElem];intro i j d k g;have:=l j i g k
  rwa [bk (I3 d),bk (I3 k)]at this
 intro h i d;by_cases e:i=0
 ·exact .inl e
 right
 have:=List.pairwise_iff_getElem.1 h (i - 1) i ω d ω
 rwa [<-bk (I3 (show i - 1<xs.length by omega)),<-bk (I3 d)]at this
theorem BK[Inhabited α](f:α->Int)(xs:List α):(∀i,i<xs.length->∀o∈xs.take i,f o≠f (nth xs i))↔(xs.map f).Nodup:=by
 unfold List.Nodup;rw[List.pairwise_map,List.pairwise_iff_getElem];constructor
 ·intro h i j b a c
  have:=h j a xs[i] (List.mem_take_iff_getElem.2 ψ)
  rwa [bk (I3 a)]at this
 intro h i b o d;obtain⟨j,a,rfl⟩:=List.mem_take_iff_getElem.1 d;rw[bk (I3 b)]
 grind
def eH(s:aA)(a:Int):Prop:=16*s.R<=a/\a<=16*s.R+15/\(a - 16*s.R) % csz s.d=0/\aT s.a8 ((a - 16*s.R) / csz s.d)=true
def jT(sp:List aA)(a c:Int):Prop:=∃s∈sp,eH s a/\(c<0\/s.d=c)
def Wz(la:List aB)(a z:Int):Prop:=∃l∈la,a=16*l.R/\l.q=z
def P4(sp:List aA)(la:List aB)(o:aU):Prop:=(∃s∈sp,eH s o.Addr/\s.d=aP o.q)\/Wz la o.Addr o.q
def nA(sp:List aA)(la:List aB)(a:Int):Prop:=jT sp a (-1)\/∃l∈la,a=16*l.R
theorem nJ(f:oX sp la)(a:Int):(∃i,i<sp.length/\(16*(nth sp i).R<=a/\a<=16*(nth sp i).R+15)/\denotes sp la a=o8 i (nth sp i) a)\/((∀s∈sp,¬(16*s.R<=a/\a<=16*s.R+15))/\((∃i,i<la.length/\bC (nth la i) a=true/\denotes sp la a = ⟨3,i,0,a - 16*(nth la i).R⟩)\/((∀l∈la,bC l a=false)/\denotes sp la a = ⟨0,0,0,0⟩))):=by
 cases d:sp.findIdx? (cY · a) with
 | some i=>
  obtain⟨b,c,-⟩:=X9.1 d;rw[<-bk (I3 b)]at c
  grind [gG,oX.sok,au,denotes]
 | none=>
  have g:=List.findIdx?_eq_none_iff.1 d;refine .inr ⟨λs h j=>?_,?_⟩
  ·grind [gG,oX.sok]
  cases e:la.findIdx? (bC · a) with
  | some i=>
   obtain⟨b,c,-⟩:=X9.1 e;rw[<-bk (I3 b)]at c
   grind [denotes]
  | none=>grind [denotes]
theorem Rh(l:oX h.K h.M) : fK h a c=true↔jT h.K a c:=by
 unfold fK;simp only[I0,Y8,C0];constructor
 ·rintro⟨⟨b,f⟩,d⟩
  rcases nJ l a with⟨i,j,k,g⟩|⟨-,⟨i,j,-,g⟩|⟨-,g⟩⟩
  ·rw[g]at b f d
   simp only[o8]at b f d;refine⟨_,au j,⟨k.1,k.2,f,?_⟩,by simpa using d⟩;cases e:aT (nth h.K i).a8 ((a - 16*(nth h.K i).R) / csz (nth h.K i).d) with
   | true=>rfl
   | false=>rw[e]at b;simp at b
  all_goals grind
 rintro⟨s,n,⟨o,p,q,r⟩,d⟩
 grind [aN,iB,o8]
theorem ym(a:oX sp la){l:aB}(c:l∈la):(∀s∈sp,¬(16*s.R<=16*l.R/\16*l.R<=16*s.R+15))/\bC l (16*l.R)=true/\∀i,i<la.length->bC (nth la i) (16*l.R)=true->nth la i=l:=by
 have k:=aR (a.lok _ c);have f:=dn (a.lok _ c);refine⟨λs g n=>?_,?_,λi d e=>?_⟩
 ·exact a.dis s g l c 0 ω ω
 ·grind [oX.lok,bC]
 obtain⟨j,h,rfl⟩:=aN c;have o:=aR (a.lok _ (au d));have b:=a.lok _ (au d);unfold bK at b;rw[C0]at b;unfold bC at e;rw[I0,C0]at e;rw[a.one i j d h ((nth la j).R - (nth la i).R).toNat 0 ω ω ω]
theorem QE(f:oX h.K h.M) : ju h o=true↔P4 h.K h.M o:=by
 unfold ju;simp only[I0,Y8,C0];constructor
 ·rintro⟨b,a⟩
  rcases nJ f o.Addr with⟨i,d,g,c⟩|⟨-,⟨i,d,-,c⟩|⟨-,c⟩⟩
  ·rw[c]at a b
   simp only[o8]at a b;have e:aT (nth h.K i).a8 ((o.Addr - 16*(nth h.K i).R) / csz (nth h.K i).d)=true:=ψ
   rw[e]at a;exact .inl ⟨_,au d,⟨g.1,g.2,b,e⟩,by simpa using a⟩
  ·rw[c]at a b
   simp only at a b;exact .inr ⟨_,au d,ω,by simpa using a⟩
  grind
 rintro(⟨s,e,⟨k,n,p,q⟩,r⟩|⟨l,j,t,u⟩)
 ·grind [aN,iB,o8]
 obtain⟨w,y,A⟩:=ym f j
 grind [nJ,au]
theorem Gf(j:oX sp la)(a:Int):a∈lZ sp la↔nA sp la a:=by
 constructor
 ·intro h
  unfold lZ FB at h;obtain⟨n,o,rfl⟩:=C6.1 h;have c:=(I6.1 o).2;unfold qh at c;simp only[I0,Y8,C0]at c;obtain⟨b,d⟩:=c;rcases nJ j (n:Int) with⟨i,g,k,f⟩|⟨-,⟨i,g,-,f⟩|⟨-,f⟩⟩
  ·rw[f]at d b
   simp only[o8]at d b;refine .inl ⟨_,au g,⟨k.1,k.2,b,?_⟩,.inl ω⟩;cases e:aT (nth sp i).a8 (((n:Int) - 16*(nth sp i).R) / csz (nth sp i).d) with
   | true=>rfl
   | false=>rw[e]at d;simp at d
  ·rw[f]at b
   simp only at b;exact .inr ⟨_,au g,ω⟩
  grind
 rintro(⟨s,q,⟨r,c,t,u⟩,-⟩|⟨l,p,rfl⟩)
 ·grind [aN,iB,xh,o8]
 obtain⟨w,y,A⟩:=ym j p
 grind [nJ,au,xh]
def RH(xs:List aC)(p:Int):Prop:=∃r∈xs,r.At<=p/\p<r.At+r.a6
theorem gi : bH pages xs=true↔jZ xs/\(∀y∈xs,0<=y.At/\1<=y.a6/\y.At+y.a6<=pages)/\1<=pages/\pages<=32:=by
 constructor
 ·grind [xa,bH]
 rintro⟨b,c,d⟩
 unfold bH;simp only[I0,C0];refine⟨cC.2 λi a=>?_,d⟩;have f:=c _ (au a);unfold gC rangeIn;simp only[I0,C0];refine⟨ω,?_⟩;by_cases e:i=0
 ·exact .inl e
 right
 have:=List.pairwise_iff_getElem.1 b.1 (i - 1) i ω a ω
 rwa [<-bk (I3 (show i - 1<xs.length by omega)),<-bk (I3 a)]at this
theorem FC(h:bH pages xs=true)(p:Int):xs.any (Gm p)=true↔RH xs p:=by
 obtain⟨-,c,d⟩:=gi.1 h;rw[S5];refine⟨λ⟨r,a,b⟩=>⟨r,a,?_⟩,λ⟨r,a,b⟩=>⟨r,a,?_⟩⟩
 all_goals grind [fJ,Gm]
theorem xb(i:Int):∀(f:List aC)(r:aC)(out:List aC),jZ f->1<=r.a6->(∀y∈f,ovl y r=false)->(∀z∈out,z.At+z.a6<r.At/\∀y∈f,z.At+z.a6<y.At)->jZ out->(∀y∈r::(out++f),0<=y.At/\y.At+y.a6<=i)->∃o,jq f r out false=some o/\jZ o/\(∀y∈o,0<=y.At/\y.At+y.a6<=i)/\∀p,RH o p↔RH out p\/RH f p\/(r.At<=p/\p<r.At+r.a6)
 | [],r,out,_,l,_,D,g,j=>by
  refine⟨out++[r],by simp[jq],⟨List.pairwise_append.2 ⟨g.1,List.pairwise_singleton ..,ψ⟩,λy k=>?_⟩,ψ,λp=>by grind [RH]⟩;rcases I4.1 k with k|k
  ·exact g.2 y k
  grind
 | y::f,r,out,c,l,E,D,g,j=>by
  have M:=c.2 y ψ;have h:=E y ψ;have F:=c.head;have G:=j y (by simp);have H:=j r (by simp);have J:∀w∈f,¬(w.At<r.At+r.a6/\r.At<w.At+w.a6):=λw d=>by grind [ovl]
  have K:∀w∈f,1<=w.a6:=λw d=>c.2 w ψ
  rw[vh,CC (by rw[h];simp)];unfold ovl at h;rw[X6]at h;by_cases n:y.At+y.a6=r.At
  ·rw[CD n]
   obtain⟨o,q,t,u,A⟩:=xb i f ⟨y.At,y.a6+r.a6⟩ out c.tail (by simp only;omega) (λw d=>by grind [ovl]) ψ g ψ
   grind [RH]
  rw[CC n];by_cases B:r.At+r.a6=y.At
  ·rw[CD B]
   obtain⟨o,q,t,u,A⟩:=xb i f ⟨r.At,r.a6+y.a6⟩ out c.tail (by simp only;omega) (λw d=>by grind [ovl]) ψ g ψ
   grind [RH]
  rw[CC B];by_cases C:y.At > r.At
  ·have L:r.At+r.a6<y.At:=ω
   rw[CD ⟨C,rfl⟩,qr c.tail l ψ];refine⟨_,rfl,⟨?_,λw d=>?_⟩,ψ,λp=>by grind [RH]⟩
   ·rw[Z7]
    refine List.pairwise_append.2 ⟨g.1,?_,λa N b j=>?_⟩
    ·show(r::y::f).Pairwise _
     refine List.pairwise_cons.2 ⟨λw d=>?_,c.1⟩
     grind
    grind
   simp only[I4,List.mem_cons,List.not_mem_nil,or_false]at d;rcases d with(d|rfl|rfl)|d
   ·exact g.2 w d
   all_goals grind
  rw[CC λe=>C e.1];obtain⟨o,q,t,u,A⟩:=xb i f r (out++[y]) c.tail l ψ ψ ⟨List.pairwise_append.2 ⟨g.1,List.pairwise_singleton ..,ψ⟩,λw d=>by
      rcases I4.1 d with d|d
      · exact g.2 w d
      grind⟩ ψ
  grind [RH]
theorem wu{r:aC}(h:bH pages xs=true)(i:0<=r.At/\1<=r.a6/\r.At+r.a6<=pages)(c:∀p,r.At<=p->p<r.At+r.a6->¬RH xs p):∃o,ch pages xs r=some o/\bH pages o=true/\∀p,RH o p↔RH xs p\/(r.At<=p/\p<r.At+r.a6):=by
 obtain⟨j,k,l⟩:=gi.1 h;have b:rangeIn pages r=true:=by grind [rangeIn]
 unfold ch;rw[CD ⟨h,b⟩];obtain⟨o,n,d,f,q⟩:=xb pages xs r [] j i.2.1 (λy a=>by
   have:=k y a;unfold ovl;rw[X6];intro g;by_cases e:r.At<=y.At
   · exact c y.At e g.1 ⟨y,a,ω,ω⟩
   exact c r.At ω ω ⟨y,a,ω,g.2⟩) ψ ⟨List.Pairwise.nil,ψ⟩ ψ
 refine⟨o,n,gi.2 ⟨d,λy a=>⟨(f y a).1,d.2 y a,(f y a).2⟩,l⟩,λp=>?_⟩
 grind [RH]
structure Pg(t:aL)(fr:List aC)(sp:List aA)(la:List aB):Prop where
 one:∀l∈la,∀p:Nat,(p:Int)∈lpgs l l.a2.toNat->∀q:Nat,q<t.J.length->(nth t.J q).e≠0->(nth t.J q).j=(nth t.J p).j->q=p
 bnd:∀p∈pgs sp la,p<t.J.length
 own:∀p:Nat,p<t.J.length->((nth t.J p).e≠0↔(p:Int)∈pgs sp la)
 fre:∀p:Nat,p<t.J.length->((nth t.J p).e≠0↔¬RH fr p)
 mesh:∀s∈sp,∀u∈sp,s.R≠u.R->(nth t.J s.R.toNat).j=(nth t.J u.R.toNat).j->meshable s u=true
structure aX(h:ac)(E:List Int):Prop where
 ker:aF h.G=true
 rng:bH (gY h) h.o=true
 lay:bG h.K h.M=true
 srs:h.K.Pairwise λa b=>a.R<b.R
 srl:h.M.Pairwise λa b=>a.R<b.R
 pg:Pg (tbl h) h.o h.K h.M
 mail:bU h.a1=true
 nc:h.T.length=h.a1.U.length
 quar:gS h.a7=true
 snc:∀x∈h.a7.a5,x.b5<=h.b1
 cach:∀c∈h.T,bI c=true
 nums:cT h=true
 osr:h.O.Pairwise λa b=>a.Addr<b.Addr
 onu:∀o∈h.O,1<=o.Id/\o.Id<=h.b - 1/\0<=o.y/\o.y<=h.T.length - 1
 oid:(h.O.map (·.Id)).Nodup
 oow:∀o∈h.O,P4 h.K h.M o
 hca:∀c∈h.T,∀k:Nat,k<c.a.length->∀a∈nth c.a k,jT h.K a k
 hqu:∀x∈h.a7.a5,jT h.K x.Addr x.d
 hfl:∀a∈aY h.a1,jT h.K a (-1)
 hin:∀a∈E,jT h.K a (-1)
 nd:(E++holders h).Nodup
 mem:∀a,a∈E++holders h↔nA h.K h.M a
 job:h.k=true->lu h.Y=true/\(∃s∈h.K,s.R=h.Y.W.a3)/\∃s∈h.K,s.R=h.Y.W.a0
 noj:h.k=false->xW h.Y=true
variable{E:List Int}
theorem aX.L(a:aX h E):oX h.K h.M:=oX.of a.lay
theorem zY(t:aL)(f:Int):(pagesOn t f).Nodup:=by grind [List.nodup_range,pagesOn,k7]
def T0{l:List Int}(b:l.Nodup)(d:a∈l)(c:∀x∈l,x=a):l.length=1:=by
 match l with
 | []=>cases d
 | [_]=>rfl
 | x::y::r=>
  exfalso;have e:=c x (by simp);have f:=c y (by simp);rw[e,f]at b;simp at b
variable{s:aA}
theorem dJ(a:s∈sp):s.R∈pgs sp la:=by grind [pgs]
theorem gl{l:aB}(a:l∈la)(b:p∈lpgs l l.a2.toNat):p∈pgs sp la:=by grind [pgs]
theorem VJ(b:bG h.K h.M=true)(N:bH (gY h) h.o=true)(A:pages0 h=true)(r:pN h=true):Pg (tbl h) h.o h.K h.M:=by
 have B:=oX.of b;obtain⟨C,D,t⟩:=sS A;have E:∀p:Nat,p<gY h->((nth (tbl h).J p).e≠0↔¬RH h.o p):=λp a=>by grind [fw,FC,pages0,DO]
 refine⟨λl w p c q F e f=>?_,D,t,E,λs G u H J O=>?_⟩
 ·obtain⟨i,y,rfl⟩:=aN w
  obtain⟨k,g,n⟩:=dB.1 c;have a:p<gY h:=by grind [gl]
  have d:=(t p a).2 (gl w c);have K:=C i y k g;rw[<-n,fC a d]at K;have P:(p:Int)∈pagesOn (tbl h) (nth (tbl h).J p).j:=eR.2 ⟨a,d,rfl⟩;have Q:(q:Int)∈pagesOn (tbl h) (nth (tbl h).J p).j:=eR.2 ⟨F,e,f⟩
  grind [List.length_eq_one_iff]
 obtain⟨i,y,rfl⟩:=aN G;obtain⟨j,R,rfl⟩:=aN H;have L:∀k,k<h.K.length->af (tbl h) (nth h.K k).R=nth (tbl h).J (nth h.K k).R.toNat:=λk g=>by
  have S:=aK (B.sok _ (au g))
  grind [dJ,BQ,nth]
 unfold pN at r;rw[cC]at r;rcases Nat.lt_trichotomy i j with o|M|o
 all_goals grind [fw,hO,mV]
theorem BB(sp:List aA):dN sp.length (AY sp)=true↔sp.Pairwise λa b=>a.R<b.R:=by
 rw[cC];refine Iff.trans ?_ (wT (λa b:Int=>a<b) ω (λs:aA=>s.R) sp)
 grind [AY]
theorem BC(la:List aB):dN la.length (BT la)=true↔la.Pairwise λa b=>a.R<b.R:=by
 rw[cC];refine Iff.trans ?_ (wT (λa b:Int=>a<b) ω (λs:aB=>s.R) la)
 grind [BT]
theorem V7(o:bG h.K h.M=true)(C:bH (gY h) h.o=true)(h1:h.K.Pairwise λa b=>a.R<b.R)(A:h.M.Pairwise λa b=>a.R<b.R)(c:Pg (tbl h) h.o h.K h.M):pages0 h=true/\pN h=true:=by
 have u:=oX.of o;constructor
 ·unfold pages0
  simp only[I0];refine⟨⟨⟨(BB _).2 h1,cC.2 λi l=>?_⟩,X5.2 λp n=>O0 (c.bnd p n)⟩,cC.2 λp n=>?_⟩
  ·unfold vE
   rw[I0];refine⟨fw ((BC _).2 A) l,cC.2 λk w=>?_⟩;have y:=au l;have D:=aR (u.lok _ y);obtain⟨p,n⟩ : ∃p:Nat,(nth h.M i).R+(k:Nat)=(p:Nat):=⟨((nth h.M i).R+k).toNat,ω⟩
   have q:(p:Int)∈lpgs (nth h.M i) (nth h.M i).a2.toNat:=dB.2 ψ;have d:p<gY h:=by have:=c.bnd _ (gl (sp:=h.K) y q);exact Int.ofNat_lt.1 this
   have r:=(c.own p d).2 (gl y q);unfold Be;rw[C0,n,fC d r];refine T0 (zY ..) (eR.2 ⟨d,r,rfl⟩) λx E=>?_
   grind [wb,eR,Pg.one]
  unfold DO;rw[I0,C0];refine⟨c.own p n,?_⟩;have F:=c.fre p n
  grind [FC]
 unfold pN;refine cC.2 λi l=>cC.2 λj G=>?_
 have g:j<h.K.length:=ω
 have t:∀k,k<h.K.length->af (tbl h) (nth h.K k).R=nth (tbl h).J (nth h.K k).R.toNat:=λk w=>by
  have H:=aK (u.sok _ (au w));have J:=c.bnd _ (dJ (la:=h.M) (au w))
  grind [BQ,gY,tbl]
 unfold mV;rw[t i l,t j g,Y8,C0];by_cases e:(nth (tbl h).J (nth h.K i).R.toNat).j=(nth (tbl h).J (nth h.K j).R.toNat).j
 ·refine .inr (c.mesh _ (au l) _ (au g) (λB=>?_) e)
  have:=cU (f:=(·.R)) u.nd l g B;omega
 exact .inl e
theorem Jb(c:cT h=true)(d:oX h.K h.M):hP h=true↔(h.O.Pairwise λa b=>a.Addr<b.Addr)/\(∀o∈h.O,1<=o.Id/\o.Id<=h.b - 1/\0<=o.y/\o.y<=h.T.length - 1)/\(h.O.map (·.Id)).Nodup/\∀o∈h.O,P4 h.K h.M o:=by
 unfold cT at c;rw[C0]at c;refine Iff.trans ?_ (and_congr (wT (λa b:Int=>a<b) ω (λo:aU=>o.Addr) h.O) (and_congr Iff.rfl (and_congr (BK (λo:aU=>o.Id) h.O) Iff.rfl)));unfold hP;rw[fJ ω ω,cC];have e:∀i,i<h.O.length->(objAt (h.b - 1) h i=true↔(i=0\/(nth h.O (i - 1)).Addr<(nth h.O i).Addr)/\(1<=(nth h.O i).Id/\(nth h.O i).Id<=h.b - 1/\0<=(nth h.O i).y/\(nth h.O i).y<=h.T.length - 1)/\(∀o∈h.O.take i,o.Id≠(nth h.O i).Id)/\P4 h.K h.M (nth h.O i)):=λi f=>by grind [QE,objAt,ia,dP]
 grind [aN,au]
def yX(b:oX h.K h.M):uk h=true↔(∀c∈h.T,∀k:Nat,k<c.a.length->∀a∈nth c.a k,jT h.K a k)/\(∀x∈h.a7.a5,jT h.K x.Addr x.d)/\∀a∈aY h.a1,jT h.K a (-1):=by
 rw[pL];simp only[X5,ik,cC,zh,kP,oh,Rh b,and_assoc]
theorem KX : 0<=jY h p↔∃s∈h.K,s.R=p:=by grind [jY,cF,ow]
theorem aX.of(g:fg h=true):aX h []:=by
 unfold fg zP at g;simp only[I0]at g;obtain⟨⟨⟨⟨⟨⟨⟨⟨⟨⟨r,l⟩,e⟩,j⟩,n⟩,c⟩,t⟩,H⟩,o⟩,k,b⟩,d⟩:=g;have p:=oX.of e;rw[uM e j]at n;have f:=j;unfold pages0 at f;simp only[I0]at f;unfold gf at c;simp only[I0,C0]at c;unfold Hq at b;simp only[I0,C0]at b;obtain⟨⟨u,w⟩,J⟩:=b;obtain⟨y,A,B,C⟩:=(Jb o p).1 k;obtain⟨D,E,F⟩:=(yX p).1 u;unfold qk at t;have G:=cC.1 f.1.1.2;refine⟨r,l,e,(BB _).1 f.1.1.1,(BC _).1 (cC.2 λi K=>?_),VJ e l j n,c.1.1,c.1.2,c.2,ψ,ψ,o,y,A,B,C,D,E,F,ψ,(by simpa using w),λa=>?_,λq=>?_,λq=>?_⟩
 ·grind [vE]
 ·grind [Gf,tU,r8]
 ·unfold yK at d
  rw[CD q]at d
  grind [KX]
 grind [yK]
theorem aX.to(b:aX h []):fg h=true:=by
 have c:=b.L;obtain⟨e,g⟩:=V7 b.lay b.rng b.srs b.srl b.pg;have d:=(Jb b.nums c).2 ⟨b.osr,b.onu,b.oid,b.oow⟩;have f:=(yX c).2 ⟨b.hca,b.hqu,b.hfl⟩;unfold fg zP;simp only[I0];refine⟨⟨⟨⟨⟨⟨⟨⟨⟨⟨b.ker,b.rng⟩,b.lay⟩,e⟩,by grind [uM,aX.lay]⟩,?_⟩,?_⟩,X5.2 b.cach⟩,b.nums⟩,d,?_⟩,?_⟩
 ·grind [aX.mail,aX.quar,aX.nc,gf]
 ·grind [aX.snc,qk]
 ·unfold Hq
  have i:(holders h).Nodup:=by simpa using b.nd
  have j:∀a,a∈holders h↔a∈lZ h.K h.M:=λa=>by rw[Gf c,<-b.mem a];simp
  grind [wc,List.Perm.length_eq]
 grind [aX.job,KX,aX.noj,yK]
def dele(xs:List α)(i:Nat):List α:=xs.take i++xs.drop (i+1)
theorem eS(xs:List α)(i:Nat):(dele xs i).Sublist xs:=by
 unfold dele;rw[<-List.eraseIdx_eq_take_drop_succ];grind
theorem Bz[Inhabited α]{xs:List α}(a:i<xs.length):xs.Perm (nth xs i::dele xs i):=by
 have:xs=xs.take i++nth xs i::xs.drop (i+1):=by grind [iC,List.take_append_drop]
 conv=>lhs;rw[this]
 exact List.perm_middle
theorem jg{α:Type}[Inhabited α](f:α->List Int)(a:Int):∀(xs:List α)(i:Nat)(y:α),i<xs.length->((xs.set i y).flatMap f).count a+(f (nth xs i)).count a=(xs.flatMap f).count a+(f y).count a
 | [],i,_,h=>by cases h
 | x::xs,0,y,_=>by
  show((y::xs).flatMap f).count a+(f x).count a=((x::xs).flatMap f).count a+(f y).count a
  grind
 | x::xs,i+1,y,h=>by
  have:=jg f a xs i y (by simpa using h);show((x::xs.set i y).flatMap f).count a+(f (nth xs i)).count a=((x::xs).flatMap f).count a+(f y).count a
  grind
theorem m0(a:List (List Int)):a.flatten=a.flatMap λx=>x:=by simp_all
theorem jT.any(h:jT sp a c):jT sp a (-1):=by
 obtain⟨s,b,d,-⟩:=h;exact⟨s,b,d,.inl (by decide)⟩
def aX.cells(a:aX h E)(c:aF k=true)(b:k.F.Q=h.G.F.Q):aX {h with G:=k} E:=
 {a with
   ker:=c
   rng:=by show bH ((k.F.Q.J.length:Nat):Int) h.o=true;rw[b];exact a.rng
   pg:=by show Pg k.F.Q h.o h.K h.M;rw[b];exact a.pg}
theorem aX.dropO(b:aX h E)(e:i<h.O.length)(j:jT h.K (nth h.O i).Addr (-1)):aX {h with O:=dele h.O i} ((nth h.O i).Addr::E):=by
 have f:(E++holders h).Perm (((nth h.O i).Addr::E)++holders {h with O:=dele h.O i}):=by
  have g:=(Bz e).map (·.Addr);refine List.perm_iff_count.2 λa=>?_
  have k:=g.count_eq a
  grind [holders,cJ]
 have c:(dele h.O i).Sublist h.O:=eS ..;exact {b with
   osr:=b.osr.sublist c
   onu:=λo d=>b.onu o (c.subset d)
   oid:=b.oid.sublist (c.map _)
   oow:=λo d=>b.oow o (c.subset d)
   hin:=λa l=>by grind [aX.hin]
   nd:=f.nodup_iff.1 b.nd
   mem:=λa=>by grind [aX.mem]}
def oW(c:aE)(k:Nat)(a:Int):aE:=⟨c.a.set k (nth c.a k++[a])⟩
theorem aX.put{t k:Nat}(e:aX h (a::E))(f:t<h.T.length)(g:k<(nth h.T t).a.length)(p:jT h.K a k)(q:bI (oW (nth h.T t) k a)=true):aX {h with T:=h.T.set t (oW (nth h.T t) k a)} E:=by
 have i:(a::E++holders h).Perm (E++holders {h with T:=h.T.set t (oW (nth h.T t) k a)}):=by
  refine List.perm_iff_count.2 λb=>?_
  have r:=jg (λc:aE=>c.a.flatten) b h.T t (oW (nth h.T t) k a) f;have l:=jg (λx:List Int=>x) b (nth h.T t).a k (nth (nth h.T t).a k++[a]) g;rw[<-m0,<-m0]at l
  grind [oW,holders,cJ]
 exact {e with
   nc:=by grind [aX.nc]
   cach:=λc d=>by grind [aX.cach]
   onu:=by show ∀o∈h.O,1<=o.Id/\o.Id<=h.b - 1/\0<=o.y/\o.y<=(h.T.set t _).length - 1;rw[I2];exact e.onu
   hca:=λc d j u b n=>by
     rcases C9 d with d|rfl
     all_goals grind [aX.hca,bz,au,oW]
   hin:=λb n=>e.hin b ψ
   nd:=i.nodup_iff.1 e.nd
   mem:=λb=>by grind [aX.mem]}
theorem aX.toQuar{x:aO}{q:bD}{out:List aO}(c:aX h (x.Addr::E))(f:gS q=true)(d:h.a7.a5++[x]=out++q.a5)(j:x.b5<=h.b1)(k:jT h.K x.Addr x.d):aX {h with a7:=q} (out.map (·.Addr)++E):=by
 have e:∀y∈out++q.a5,y.b5<=h.b1/\jT h.K y.Addr y.d:=λy a=>by
  rw[<-d]at a;rcases I4.1 a with a|a
  ·exact⟨c.snc y a,c.hqu y a⟩
  grind
 have g:(x.Addr::E++holders h).Perm ((out.map (·.Addr)++E)++holders {h with a7:=q}):=by
  refine List.perm_iff_count.2 λb=>?_
  have i:=C1 (λl:List aO=>(l.map (·.Addr)).count b) d;simp only[C8,S8,O8,List.map_nil,List.count_singleton]at i
  grind [holders,cJ]
 exact {c with
   quar:=f
   snc:=(ψ)
   hqu:=(ψ)
   hin:=λb n=>by grind [jT.any,aX.hin]
   nd:=g.nodup_iff.1 c.nd
   mem:=λb=>by grind [aX.mem]}
def xC(b i:Int):Int:=((BitVec.ofInt IntKind.i64.bits b &&& ~~~BitVec.ofInt IntKind.i64.bits (2 ^ i.toNat)).toNat:Nat)
def kW(s:aA)(i:Int):aA:={s with a8:=xC s.a8 i}
theorem eQ(b i:Int):aT b i=true↔0<=b/\0<=i/\i<=15/\b.toNat.testBit i.toNat=true:=by grind [aT]
variable{b:Int}
theorem HR{i:Int}(d:0<=b/\b<=65535)(a:0<=i/\i<=15)(j:Nat):(xC b i).toNat.testBit j=(b.toNat.testBit j&&decide (i.toNat≠j)):=by
 have e:(2:Int) ^ i.toNat<=32768/\0<=(2:Int) ^ i.toNat:=by
  obtain⟨n,rfl⟩:=C4 a.1;rw[Z3];have:(2:Nat) ^ n<=2 ^ 15:=Nat.pow_le_pow_right (by decide) ω
  grind
 unfold xC;rw[Z3,BitVec.testBit_toNat,BitVec.getLsbD_and,BitVec.getLsbD_not,<-BitVec.testBit_toNat,<-BitVec.testBit_toNat,qx ω,qx ω];rw[show((2:Int) ^ i.toNat).toNat=2 ^ i.toNat by rw[show(2:Int) ^ i.toNat=((2 ^ i.toNat:Nat):Int) by norm_cast,Z3],Nat.testBit_two_pow];by_cases c:j<64
 ·rw[show decide (j<IntKind.i64.bits)=true from O0 c,Bool.true_and]
  grind
 rw[Nat.testBit_lt_two_pow (x:=b.toNat) (i:=j) (O5 (show b.toNat<2 ^ 16 by omega) (Nat.pow_le_pow_right (by decide) ω))]
 rfl
theorem DR{i:Int}(a:0<=b/\b<=65535):0<=xC b i/\xC b i<=b:=by grind [qx,Nat.and_le_left,xC]
theorem H3{i:Int}(a:0<=b/\b<=65535)(c:0<=i/\i<=15)(j:Int):aT (xC b i) j=true↔aT b j=true/\j≠i:=by grind [eQ,HR,DR]
theorem dY(h:bh s=true):0<=s.a8/\s.a8<=65535:=by
 unfold bh at h;simp only[C0]at h;have:=JY s.d;omega
theorem Mb(h:bh s=true)(i:Int):bh (kW s i)=true:=by
 have b:=dY h;have a:=DR (i:=i) b;unfold bh at h;rw[C0]at h;obtain⟨c,d,e,f,j,g⟩:=h;exact O0 ⟨c,d,e,f,a.1,Int.le_trans a.2 g⟩
theorem Ba{u:aA}(e:bh s=true){i:Int}(f:0<=i/\i<=15)(h:meshable s u=true):meshable (kW s i) u=true:=by
 unfold meshable at h |-;simp only[I0,C0]at h |-;obtain⟨⟨a,b⟩,c,d,g⟩:=h;refine⟨⟨Mb a i,b⟩,c,d,?_⟩;refine Nat.eq_of_testBit_eq λj=>?_
 grind [HR,dY,kW]
def cM(s:aA)(a:Int):Int:=(a - 16*s.R) / csz s.d
theorem qG(h:bh s=true)(b:16*s.R<=a/\a<=16*s.R+15):0<=cM s a/\cM s a<=15:=by
 have c:=aK h
 grind [bZ,cM]
theorem yH(h:bh s=true)(c:(a - 16*s.R) % csz s.d=0)(d:(b - 16*s.R) % csz s.d=0)(e:cM s a=cM s b):a=b:=by
 have f:=aK h
 grind [bZ,cM]
theorem Dk(h:bh s=true)(k:eH s a)(b:Int):eH (kW s (cM s a)) b↔eH s b/\b≠a:=by
 obtain⟨l,n,o,p⟩:=k;have c:=qG h ⟨l,n⟩;unfold eH;simp only[kW];rw[H3 (dY h) c];constructor
 ·rintro⟨g,i,d,j,f⟩
  exact⟨ψ,λe=>f (by rw[e];rfl)⟩
 rintro⟨⟨g,i,d,j⟩,f⟩
 exact⟨g,i,d,j,λe=>f (yH h d o e)⟩
theorem eA[Inhabited α]{xs:List α}{y z:α}(h:z∈xs.set i y):z=y\/∃j,j<xs.length/\j≠i/\nth xs j=z:=by
 obtain⟨j,a,rfl⟩:=List.mem_iff_getElem.1 h;rw[List.getElem_set];by_cases e:i=j
 ·subst e;simp
 rw[CC e];rw[I2]at a;exact .inr ⟨j,a,λx=>e x.symm,bk ψ⟩
theorem kH[Inhabited α]{xs:List α}(y:α)(a:j<xs.length)(e:j≠i):nth xs j∈xs.set i y:=by
 have:nth (xs.set i y) j=nth xs j:=by grind [bz]
 grind [au]
theorem j7{xs:List α}(y:α)(a:i<xs.length):y∈xs.set i y:=by grind [List.mem_iff_getElem]
def QB(k:Int)(a:i<sp.length):(sp.set i (kW (nth sp i) k)).map (·.R)=sp.map (·.R):=by
 rw[X8];refine List.ext_getElem (by simp) λj b c=>?_
 rw[List.getElem_set];split
 ·rename_i e;subst e
  rw[List.getElem_map];show(nth sp i).R=_;rw[bk (I3 a)]
 rfl
def jT.set(q:oX sp la)(k:i<sp.length)(l:eH (nth sp i) a)(b c:Int):jT (sp.set i (kW (nth sp i) (cM (nth sp i) a))) b c↔jT sp b c/\b≠a:=by
 have g:=q.sok _ (au k);constructor
 ·rintro⟨s,o,d,h⟩
  rcases eA o with rfl|⟨j,n,r,rfl⟩
  ·have:=(Dk g l b).1 d
   exact⟨⟨_,au k,this.1,h⟩,this.2⟩
  refine⟨⟨_,au n,d,h⟩,λe=>?_⟩;subst e;have:=cU (f:=(·.R)) q.nd k n (by have t:=l.1;have u:=l.2.1;have w:=d.1;have y:=d.2.1;omega);omega
 rintro⟨⟨s,o,d,h⟩,p⟩
 obtain⟨j,n,rfl⟩:=aN o;by_cases e:j=i
 ·subst e
  exact⟨_,j7 _ k,(Dk g l b).2 ⟨d,p⟩,h⟩
 exact⟨_,kH _ n e,d,h⟩
theorem aX.give(d:aX h (a::E))(t:i<h.K.length)(w:eH (nth h.K i) a):aX {h with K:=h.K.set i (kW (nth h.K i) (cM (nth h.K i) a))} E:=by
 have B:=d.L;have G:=B.sok _ (au t);have O:=qG G ⟨w.1,w.2.1⟩;have f:=λb c=>jT.set B t w b c
 have H:=QB (cM (nth h.K i) a) t;generalize J:h.K.set i (kW (nth h.K i) (cM (nth h.K i) a))=sp at f H;have p:pgs sp h.M=pgs h.K h.M:=by grind [pgs]
 have g:=d.nd;rw[List.cons_append]at g;obtain⟨P,g⟩:=List.nodup_cons.1 g;have y:∀b,b∈E++holders h->b≠a:=ψ
 have n:∀b,b∈holders h->b≠a:=ψ
 have Q:∀l∈h.M,16*l.R≠a:=λl R e=>(ym B R).1 _ (au t) (by have a1:=w.1;have a2:=w.2.1;omega)
 have q:∀s∈sp,∃u∈h.K,u.R=s.R/\(s=u\/s=kW u (cM (nth h.K i) a)):=λs r=>by
  rw[<-J]at r;rcases eA r with rfl|⟨j,hj,S,rfl⟩
  ·exact⟨_,au t,rfl,.inr rfl⟩
  grind [au]
 have T:∀u∈h.K,∃s∈sp,s.R=u.R:=λu C=>by
  have:u.R∈sp.map (·.R):=ψ
  grind
 exact {d with
   lay:=by grind [aX.lay,Mb,bG]
   srs:=by
     have A:(h.K.map (·.R)).Pairwise (λa b=>a<b):=List.pairwise_map.2 d.srs
     grind
   pg:=⟨d.pg.one,by rw[p];exact d.pg.bnd,by rw[p];exact d.pg.own,d.pg.fre,λs r u C y U=>by
     obtain⟨V,K,W,X⟩:=q s r;obtain⟨Y,M,Z,hu2⟩:=q u C;have A:=d.pg.mesh V K Y M ω (by rw[W,Z];exact U)
     grind [Ba,oX.sok,hO]⟩
   oow:=λo ho=>by
     have N:o.Addr≠a:=n _ (by grind [holders]);rcases d.oow o ho with⟨s,r,A,h2⟩|A
     · obtain⟨u,C,g1,D⟩:=(f o.Addr (aP o.q)).2 ⟨⟨s,r,A,.inr h2⟩,N⟩
       refine .inl ⟨u,C,g1,?_⟩;rcases D with D|D
       · have:=aK (B.sok _ r);omega
       exact D
     exact .inr A
   hca:=λc hc k hk b F=>(f b k).2 ⟨d.hca c hc k hk b F,n b (by
     unfold holders cJ;grind [List.mem_flatten,au])⟩
   hqu:=λx hx=>(f _ _).2 ⟨d.hqu x hx,n _ (by grind [holders])⟩
   hfl:=λb F=>(f _ _).2 ⟨d.hfl b F,n _ (by grind [holders])⟩
   hin:=λb F=>(f _ _).2 ⟨d.hin b ψ,y b ψ⟩
   nd:=g
   mem:=λb=>by
     show b∈E++holders h↔nA sp h.M b
     grind [aX.mem,nA]
   job:=λhm=>by grind [aX.job]}
def unmN(k:am)(p:Int):Nat->am
 | 0=>k
 | n+1=>cy (unmN k p n) (p+n)
def je{k:am}(h:aF k=true)(p:Int):∀n,aF (unmN k p n)=true
 | 0=>h
 | n+1=>y4 _ (je h p n)
theorem f9(k:am)(p:Int):∀n,(unmN k p n).F.Q.J.length=k.F.Q.J.length/\(unmN k p n).Calls=k.Calls/\(unmN k p n).w=k.w
 | 0=>⟨rfl,rfl,rfl⟩
 | n+1=>by
  obtain⟨a,b,c⟩:=f9 k p n;obtain⟨d,e,f⟩:=lY (unmN k p n) (p+n);exact⟨d.trans a,e.trans b,f.trans c⟩
theorem sD(h:aF k=true)(g:0<=p/\p<k.F.Q.J.length)(q:Nat):nth (cy k p).F.Q.J q=if(q:Int)=p then⟨0,0⟩ else nth k.F.Q.J q:=by
 have c:af k.F.Q p=nth k.F.Q.J p.toNat:=by grind [af]
 unfold cy;split
 ·rename_i a
  split
  ·rename_i i
   rw[c]at a;have b:=(bu.1 (aH.1 h).2.2.1).1 p.toNat ω;unfold lx at b;rw[C0]at b;have d:=b.2.2.1 a;rw[show q=p.toNat by omega];generalize nth k.F.Q.J p.toNat=e at a d;obtain⟨m,f⟩:=e
   grind
  rfl
 grind [nw,bz,mh]
theorem n7{k:am}(h:aF k=true){p:Int}(a:0<=p):∀n:Nat,p+n<=k.F.Q.J.length->∀q:Nat,nth (unmN k p n).F.Q.J q=if p<=q/\(q:Int)<p+n then⟨0,0⟩ else nth k.F.Q.J q
 | 0,_,q=>by rw[CC ω];rfl
 | n+1,b,q=>by
  have c:=n7 h a n ω q;have d:=sD (je h p n) (p:=p+n) ⟨ω,by grind [f9]⟩ q;show nth (cy (unmN k p n) (p+n)).F.Q.J q=_
  grind
theorem GI(f:α->List β){xs b:List α}(h:xs.Sublist b):(xs.flatMap f).Sublist (b.flatMap f):=by
 induction h with
 | slnil=>grind
 | cons a _ c=>grind
 | cons_cons a _ c=>grind
theorem y2(c:aX h E)(Y:1<=n)(w:sp.Sublist h.K)(D:la.Sublist h.M)(j:∀q:Int,p<=q->q<p+n->q∈pgs h.K h.M)(K:0<=p)(F:∀q,q∈pgs sp la↔q∈pgs h.K h.M/\¬(p<=q/\q<p+n)) :
  ∃o,ch (gY h) h.o ⟨p,n⟩ = some o/\aF (unmN h.G p n)=true/\bH ((unmN h.G p n).F.Q.J.length:Nat) o=true/\bG sp la=true/\Pg (unmN h.G p n).F.Q o sp la:=by
 have t:=c.pg.bnd _ (j (p+n - 1) ω ω);have a:=(f9 h.G p n).1;have y:p+n<=h.G.F.Q.J.length:=by unfold tbl at t;omega
 have g:=n7 c.ker K n y;obtain⟨o,Q,R,S⟩:=wu (r:=⟨p,n⟩) c.rng ⟨K,by simp only;omega,y⟩ λq M N=>by
  simp only at M N;obtain⟨m,rfl⟩:=C4 (show 0<=q by omega);have A:m<(tbl h).J.length:=by unfold tbl;omega
  exact(c.pg.fre m A).1 ((c.pg.own m A).2 (j _ M N))
 refine⟨o,Q,je c.ker p n,by rw[a];exact R,?_,?_⟩
 ·obtain⟨T,U,V⟩:=eB c.lay
  unfold bG;simp only[I0,C0];exact⟨⟨X5.2 λs d=>X5.1 T s (w.subset d),X5.2 λl d=>X5.1 U l (D.subset d)⟩,V.sublist ((w.map _).append (GI _ D))⟩
 have i:∀q:Nat,(q:Int)∈pgs sp la->nth (unmN h.G p n).F.Q.J q=nth (tbl h).J q:=λq f=>by rw[g,CC ((F q).1 f).2];rfl
 have b:∀q:Nat,(nth (unmN h.G p n).F.Q.J q).e≠0↔(nth (tbl h).J q).e≠0/\¬(p<=q/\(q:Int)<p+n):=λq=>by
  rw[g];by_cases e:p<=q/\(q:Int)<p+n
  ·rw[CD e];exact⟨λx=>absurd rfl x,λx=>absurd e x.2⟩
  rw[CC e];exact⟨λx=>⟨x,e⟩,λx=>x.1⟩
 refine⟨λl d q f r O G B=>?_,λq f=>?_,λq f=>?_,λq f=>?_,λs d u H J P=>?_⟩
 ·have C:=(b r).1 G
  rw[a]at O;rw[i q (gl d f),g,CC C.2]at B;exact c.pg.one l (D.subset d) q f r O C.1 B
 ·rw[a];exact c.pg.bnd q ((F q).1 f).1
 ·rw[a]at f
  rw[b,F,c.pg.own q f]
 ·rw[a]at f
  rw[b,S,c.pg.fre q f];simp only
  grind
 have k:∀s∈sp,0<=s.R:=λs d=>(aK (c.L.sok s (w.subset d))).1
 have W:=i s.R.toNat (by rw[Int.toNat_of_nonneg (k s d)];exact dJ d);have X:=i u.R.toNat (by rw[Int.toNat_of_nonneg (k u H)];exact dJ H);rw[W,X]at P;exact c.pg.mesh s (w.subset d) u (w.subset H) J P
theorem dl[Inhabited α]{xs:List α}{k:Nat}{z:α} : z∈dele xs k↔∃j,j<xs.length/\j≠k/\nth xs j=z:=by
 unfold dele;rw[I4];constructor
 ·rintro(h|h)
  ·obtain⟨j,a,rfl⟩:=List.mem_take_iff_getElem.1 h
   exact⟨j,ω,ω,bk ψ⟩
  obtain⟨j,a,rfl⟩:=List.mem_drop_iff_getElem.1 h;exact⟨k+1+j,ω,ω,bk ψ⟩
 rintro⟨j,a,b,rfl⟩
 rw[bk (I3 a)];by_cases e:j<k
 ·grind [List.mem_take_iff_getElem]
 refine .inr (List.mem_drop_iff_getElem.2 ⟨j - (k+1),ω,?_⟩)
 congr 1;omega
theorem qy{q:Int} : q∈pgs sp la↔(∃s∈sp,s.R=q)\/∃l∈la,q∈lpgs l l.a2.toNat:=by grind [pgs]
def xc(h:s.a8=0)(a:Int):¬eH s a:=by
 rintro⟨-,-,-,b⟩
 rw[eQ,h]at b;simp at b
theorem aX.giveSpan(d:aX h E)(C:i<h.K.length)(r:(nth h.K i).a8=0)(R:h.k=true->(nth h.K i).R≠h.Y.W.a3/\(nth h.K i).R≠h.Y.W.a0) :
  ∃o,ch (gY h) h.o ⟨(nth h.K i).R,1⟩ = some o/\aX {h with G:=cy h.G (nth h.K i).R,K:=dele h.K i,o:=o} E:=by
 have D:=d.L;have y:=aK (D.sok _ (au C));have w:∀q,q∈pgs (dele h.K i) h.M↔q∈pgs h.K h.M/\¬((nth h.K i).R<=q/\q<(nth h.K i).R+(1:Nat)):=λq=>by
  rw[qy,qy];constructor
  ·rintro(⟨s,u,rfl⟩|⟨l,S,T⟩)
   ·obtain⟨j,a,A,rfl⟩:=dl.1 u
    refine⟨.inl ⟨_,au a,rfl⟩,λe=>A (cU (f:=(·.R)) D.nd a C ω)⟩
   grind [dB,oX.dis,au]
  grind [aN,dl]
 obtain⟨o,J,F,G,K,H⟩:=y2 d (sp:=dele h.K i) (la:=h.M) (p:=(nth h.K i).R) (n:=1) (O4 _) (eS ..) ψ (λq U V=>by grind [dJ,nth]) y.1 w;have M:unmN h.G (nth h.K i).R 1=cy h.G (nth h.K i).R:=by show cy h.G ((nth h.K i).R+((0:Nat):Int))=_;grind
 rw[M]at F G H;have g:∀b c,jT (dele h.K i) b c↔jT h.K b c:=λb c=>by
  constructor
  ·rintro⟨s,u,t⟩;exact⟨s,(eS ..).subset u,t⟩
  rintro⟨s,u,t,B⟩
  obtain⟨j,a,rfl⟩:=aN u;exact⟨_,dl.2 ⟨j,a,λe=>xc r b ψ,rfl⟩,t,B⟩
 refine⟨o,J,{d with
   ker:=F
   rng:=G
   lay:=K
   srs:=d.srs.sublist (eS ..)
   pg:=H
   oow:=λN O=>?_
   hca:=λc y k P b r=>(g b k).2 (d.hca c y k P b r)
   hqu:=λx Q=>(g _ _).2 (d.hqu x Q)
   hfl:=λb r=>(g _ _).2 (d.hfl b r)
   hin:=λb r=>(g _ _).2 (d.hin b r)
   mem:=λb=>(d.mem b).trans ?_
   job:=λW=>?_}⟩
 ·rcases d.oow N O with⟨s,u,t,B⟩|t
  ·obtain⟨j,a,rfl⟩:=aN u
   exact .inl ⟨_,dl.2 ⟨j,a,λe=>xc r _ (by rw[<-e];exact t),rfl⟩,t,B⟩
  exact .inr t
 all_goals grind [aX.job,aN,dl,nA]
theorem aX.dropL{k:Nat}(d:aX h E)(N:i<h.O.length)(w:k<h.M.length)(F:(nth h.O i).Addr=16*(nth h.M k).R) :
  ∃o,ch (gY h) h.o ⟨(nth h.M k).R,(nth h.M k).a2⟩ = some o/\aX {h with G:=unmN h.G (nth h.M k).R (nth h.M k).a2.toNat,M:=dele h.M k,o:=o,O:=dele h.O i} E:=by
 have y:=d.L;have O:=aR (y.lok _ (au w));have A:∀q,q∈pgs h.K (dele h.M k)↔q∈pgs h.K h.M/\¬((nth h.M k).R<=q/\q<(nth h.M k).R+((nth h.M k).a2.toNat:Nat)):=λq=>by
  rw[qy,qy];constructor
  ·rintro(⟨s,C,rfl⟩|⟨l,f,H⟩)
   ·refine⟨.inl ⟨s,C,rfl⟩,λe=>y.dis s C _ (au w) (s.R - (nth h.M k).R).toNat ω ω⟩
   obtain⟨j,c,g,rfl⟩:=dl.1 f;refine⟨.inr ⟨_,au c,H⟩,λe=>?_⟩;obtain⟨m,P,rfl⟩:=dB.1 H;exact g (y.one j k c w m ((nth h.M j).R+(m:Int) - (nth h.M k).R).toNat P ω ω)
  grind [aN,dl,dB]
 obtain⟨o,J,Q,R,S,T⟩:=y2 d (sp:=h.K) (la:=dele h.M k) (p:=(nth h.M k).R) (n:=(nth h.M k).a2.toNat) ω ψ (eS ..) (λq Z q2=>gl (au w) (dB.2 ⟨(q - (nth h.M k).R).toNat,ω,ω⟩)) O.2.2.1 A;rw[Int.toNat_of_nonneg ω]at J;have U:(E++holders h).Perm ((nth h.O i).Addr::(E++holders {h with O:=dele h.O i})):=by
  have V:=(Bz N).map (·.Addr);refine List.perm_iff_count.2 λa=>?_
  have r:=V.count_eq a
  grind [holders,cJ]
 have t:=U.nodup_iff.1 d.nd;obtain⟨W,t⟩:=List.nodup_cons.1 t;have u:∀b,(b=(nth h.O i).Addr\/b∈E++holders {h with O:=dele h.O i})↔nA h.K h.M b:=λb=>by grind [aX.mem]
 have B:∀b,b∈E++holders {h with O:=dele h.O i}->b≠(nth h.O i).Addr:=ψ
 refine⟨o,J,{d with
   ker:=Q
   rng:=R
   lay:=S
   srl:=d.srl.sublist (eS ..)
   pg:=T
   osr:=d.osr.sublist (eS ..)
   onu:=λD G=>d.onu D ((eS ..).subset G)
   oid:=d.oid.sublist ((eS ..).map _)
   oow:=λD G=>?_
   nd:=t
   mem:=λb=>?_}⟩
 ·rcases d.oow D ((eS ..).subset G) with r|⟨l,f,K,X⟩
  ·exact .inl r
  obtain⟨j,c,rfl⟩:=aN f;refine .inr ⟨_,dl.2 ⟨j,c,λe=>?_,rfl⟩,K,X⟩;subst e;refine B D.Addr (I4.2 (.inr ?_)) (by rw[F];exact K);unfold holders;grind
 constructor
 ·intro M
  rcases(u b).1 (.inr M) with r|⟨l,f,rfl⟩
  ·exact .inl r
  obtain⟨j,c,rfl⟩:=aN f;exact .inr ⟨_,dl.2 ⟨j,c,λe=>B _ M (by rw[F,e]),rfl⟩,rfl⟩
 rintro(r|⟨l,f,rfl⟩)
 ·refine((u b).2 (.inl r)).resolve_left λe=>?_
  obtain⟨s,C,⟨Y,g2,-⟩,-⟩:=r;exact(ym y (au w)).1 s C ω
 obtain⟨j,c,g,rfl⟩:=dl.1 f;refine((u _).2 (.inr ⟨_,au c,rfl⟩)).resolve_left λe=>g ?_
 have Y:=aR (y.lok _ (au c));rw[F]at e;exact y.one j k c w 0 0 ω ω ω
def fe(h:ac)(p:Int):Bool:=h.k&&(decide (p=h.Y.W.a3) || decide (p=h.Y.W.a0))
def giveP(h:ac)(i:Nat):ac:={h with G:=cy h.G (nth h.K i).R,K:=dele h.K i,o:=(ch (gY h) h.o ⟨(nth h.K i).R,1⟩).getD h.o}
def clrS(h:ac)(i:Nat)(a:Int):ac:={h with K:=h.K.set i (kW (nth h.K i) (cM (nth h.K i) a))}
def freeS(h:ac)(i:Nat)(a:Int):ac:=if(kW (nth h.K i) (cM (nth h.K i) a)).a8=0/\fe h (nth h.K i).R=false then giveP (clrS h i a) i else clrS h i a
def ul(h:ac)(a:Int):Nat:=(jY h (a / 16)).toNat
def freeA(h:ac)(a:Int):ac:=freeS h (ul h a) a
def cput(c:aE)(k a:Int):Option aE:=if bI c=true/\0<=k/\k<=3/\bI (oW c k.toNat a)=true then some (oW c k.toNat a) else none
def recyc(t:Nat)(h:ac)(a:Int):ac:=match cput (nth h.T t) (nth h.K (ul h a)).d a with
 | some c=>{h with T:=h.T.set t c}
 | none=>freeA h a
theorem aX.at(e:aX h E)(c:jT h.K a (-1)):ul h a<h.K.length/\eH (nth h.K (ul h a)) a/\jY h (a / 16)=(ul h a:Nat):=by
 obtain⟨s,d,b,-⟩:=c;obtain⟨i,f,rfl⟩:=aN d;have g:(nth h.K i).R=a / 16:=by have j:=b.1;have k:=b.2.1;omega
 grind [vk,aX.L,ul]
theorem xF(e:fe h p=false)(a:h.k=true):p≠h.Y.W.a3/\p≠h.Y.W.a0:=by grind [fe]
def aX.freeS{h:ac}{E:List Int}{a:Int}{i:Nat}(f:aX h (a::E))(b:i<h.K.length)(g:eH (nth h.K i) a):aX (freeS h i a) E:=by
 have c:=f.give b g;unfold Ab.freeS;split
 ·rename_i e
  have d:nth (clrS h i a).K i=kW (nth h.K i) (cM (nth h.K i) a):=by unfold clrS;simp only[bz,true_and];rw[CD b]
  obtain⟨o,j,k⟩:=aX.giveSpan (h:=clrS h i a) c (i:=i) (by unfold clrS;simp only[I2];exact b) (by rw[d];exact e.1) (λl=>by rw[d];exact xF e.2 l);unfold giveP;rw[j];exact k
 exact c
theorem aX.freeA{h:ac}{E:List Int}{a:Int}(b:aX h (a::E)):aX (freeA h a) E:=by
 obtain⟨c,d,-⟩:=b.at (b.hin a ψ);exact b.freeS c d
theorem mL{c:aE}(h:bI c=true):c.a.length=4:=by grind [bI]
theorem aX.recyc{h:ac}{E:List Int}{a:Int}{t:Nat}(b:aX h (a::E))(f:t<h.T.length):aX (recyc t h a) E:=by
 obtain⟨g,i,-⟩:=b.at (b.hin a ψ);unfold Ab.recyc;split
 ·rename_i c d
  unfold cput at d;split at d
  ·rename_i e
   cases d;obtain⟨j,l,n,k⟩:=e;exact b.put f (by rw[mL j];omega) ⟨_,au g,i,.inr ω⟩ k
  cases d
 exact b.freeA
def yt(h:ac)(i:Nat)(a:Int):(freeS h i a).T=h.T/\(freeS h i a).O=h.O/\(freeS h i a).G.Calls=h.G.Calls/\(freeS h i a).a1=h.a1/\(freeS h i a).Y=h.Y/\(freeS h i a).b1=h.b1/\(freeS h i a).a7=h.a7/\(freeS h i a).G.w=h.G.w:=by
 unfold freeS;split
 ·obtain⟨-,b,c⟩:=lY (clrS h i a).G (nth (clrS h i a).K i).R
  exact⟨rfl,rfl,b,rfl,rfl,rfl,rfl,c⟩
 exact⟨rfl,rfl,rfl,rfl,rfl,rfl,rfl,rfl⟩
theorem nZ(t:Nat)(h:ac)(a:Int):(recyc t h a).T.length=h.T.length/\(recyc t h a).O=h.O/\(recyc t h a).G.Calls=h.G.Calls/\(recyc t h a).a1=h.a1/\(recyc t h a).Y=h.Y/\(recyc t h a).b1=h.b1/\(recyc t h a).a7=h.a7/\(recyc t h a).G.w=h.G.w:=by
 unfold recyc;split
 ·grind
 obtain⟨b,c⟩:=yt h (ul h a) a;exact⟨C1 _ b,c⟩
def recycs(t:Nat)(h:ac)(az:List Int):ac:=az.foldl (recyc t) h
def fB(t:Nat):∀(az:List Int)(h:ac),(recycs t h az).T.length=h.T.length/\(recycs t h az).O=h.O/\(recycs t h az).G.Calls=h.G.Calls/\(recycs t h az).a1=h.a1/\(recycs t h az).Y=h.Y/\(recycs t h az).b1=h.b1/\(recycs t h az).a7=h.a7/\(recycs t h az).G.w=h.G.w
 | [],h=>⟨rfl,rfl,rfl,rfl,rfl,rfl,rfl,rfl⟩
 | a::az,h=>by
  obtain⟨b,c,d,e,f,g,i,j⟩:=fB t az (recyc t h a);obtain⟨k,l,n,o,p,q,r,u⟩:=nZ t h a;exact⟨b.trans k,c.trans l,d.trans n,e.trans o,f.trans p,g.trans q,i.trans r,j.trans u⟩
theorem aX.recycs{t:Nat}{E:List Int} : ∀{az:List Int}{h:ac},aX h (az++E)->t<h.T.length->aX (recycs t h az) E
 | [],h,b,_=>b
 | a::az,h,b,c=>aX.recycs (az:=az) (h:=Ab.recyc t h a) (b.recyc c) (by grind [nZ])
def qc(l:List aO):Int:=quarCells l l.length
def m9(room:Int):List aO->Nat
 | []=>0
 | x::xs=>if room<qc (x::xs) then m9 room xs+1 else 0
def MV(q:bD)(x:aO):bD:=⟨q.b7,(q.a5++[x]).drop (m9 q.b7 (q.a5++[x]))⟩
def Aw(q:bD)(x:aO):List aO:=(q.a5++[x]).take (m9 q.b7 (q.a5++[x]))
def Hg(room:Int):∀l,m9 room l<=l.length
 | []=>O4 _
 | x::xs=>by unfold m9;split;(have:=Hg room xs;simp only[List.length_cons];omega);omega
theorem EL{room:Int}(a:0<=room):∀l:List aO,qc (l.drop (m9 room l))<=room
 | []=>a
 | x::xs=>by
  unfold m9;split
  ·exact EL a xs
  grind
theorem BM{room:Int} : ∀{l:List aO}{k:Nat},k<m9 room l->room<qc (l.drop k)
 | [],k,h=>by cases h
 | x::xs,0,h=>by grind [m9]
 | x::xs,k+1,h=>by
  unfold m9 at h;split at h
  ·exact BM (l:=xs) ω
  omega
theorem k6{q:bD} : gS q=true↔(∀x∈q.a5,0<=x.d/\x.d<=3/\0<=x.Addr/\0<=x.b5)/\(q.a5.Pairwise λa b=>a.b5<=b.b5)/\(q.a5.map (·.Addr)).Nodup/\0<=q.b7/\q.b7<=500/\qc q.a5<=q.b7:=by
 refine Iff.trans ?_ (and_congr Iff.rfl (and_congr (wT (λa b:Int=>a<=b) ω (λs:aO=>s.b5) q.a5) (and_congr (BK (λs:aO=>s.Addr) q.a5) Iff.rfl)));unfold gS qc
 grind [cC,List.any_eq_false,aN,au,lI,fp]
theorem Ue{q:bD}{x:aO}(h:gS q=true)(e:0<=x.d/\x.d<=3/\0<=x.Addr/\0<=x.b5)(f:∀y∈q.a5,y.b5<=x.b5)(g:∀y∈q.a5,y.Addr≠x.Addr):gS (MV q x)=true:=by
 obtain⟨i,j,k,c,d,l⟩:=k6.1 h;have a:(MV q x).a5.Sublist (q.a5++[x]):=List.drop_sublist ..;refine k6.2 ⟨λy b=>?_,List.Pairwise.sublist a ?_,List.Nodup.sublist (a.map _) ?_,c,d,EL c _⟩
 ·rcases I4.1 (a.subset b) with b|b
  all_goals grind
 ·grind
 grind
def lT(r:List Int)(o:Nat):Nat->List Int
 | 0=>r
 | n+1=>(lT r o n).set (o+n) 0
def dG(k:am)(a:Int):Nat:=(af k.F.Q (a / 16)).j.toNat
def fA(k:am)(a:Int)(n:Nat):am:={k with F:=⟨⟨k.F.X.V.set (dG k a) (lT (nth k.F.X.V (dG k a)) (a % 16).toNat n),k.F.X.a4⟩,k.F.Q⟩}
theorem qt(r:List Int)(o:Nat):∀n,(lT r o n).length=r.length
 | 0=>rfl
 | n+1=>by unfold lT;rw[I2,qt r o n]
def BY{r:List Int}{o:Nat} : ∀{n:Nat}{v:Int},v∈lT r o n->v∈r\/v=0
 | 0,v,h=>.inl h
 | n+1,v,h=>by
  rcases C9 h with h|h
  ·exact BY h
  exact .inr h
theorem GK(h:aF k=true)(a:Int)(n:Nat):aF (fA k a n)=true:=by
 obtain⟨g,i,l,o,p⟩:=aH.1 h;obtain⟨q,r,t,c⟩:=aZ.1 i;refine aH.2 ⟨g,aZ.2 ⟨?_,?_,?_,λj b=>?_⟩,l,o,p⟩
 ·grind [fA]
 ·grind [fA]
 ·grind [fA]
 simp only[fA,I2]at b |-;simp only[bz];split
 ·rename_i e
  have d:=c j b;unfold ip at d |-;simp only[I0,C0,X5]at d |-;rw[e.1]at *;refine⟨by grind [qt],λv f=>?_⟩;rcases BY f with f|rfl
  all_goals grind [iU]
 exact c j b
def wx(h:ac)(a:Int):Nat:=(h.M.findIdx? λl=>decide (l.R*16=a)).getD 0
def freeL(h:ac)(i k:Nat):ac:={h with G:=unmN h.G (nth h.M k).R (nth h.M k).a2.toNat,M:=dele h.M k,o:=(ch (gY h) h.o ⟨(nth h.M k).R,(nth h.M k).a2⟩).getD h.o,O:=dele h.O i}
def mz(h:ac)(o:aU):aO:=⟨o.Addr,aP o.q,h.b1⟩
def inQuar(h:ac)(i:Nat):ac:={h with G:=fA h.G (nth h.O i).Addr (csz (aP (nth h.O i).q)).toNat,O:=dele h.O i,a7:=MV h.a7 (mz h (nth h.O i))}
def GN(h:ac)(t i:Nat):ac:=recycs t (inQuar h i) ((Aw h.a7 (mz h (nth h.O i))).map (·.Addr))
def freeOb(h:ac)(t i:Nat):ac × Int:=
 if aP (nth h.O i).q<0 then(freeL h i (wx h (nth h.O i).Addr),0)
 else if(af (tbl h) ((nth h.O i).Addr / 16)).e=1 then(h,5)
 else(GN h t i,0)
theorem uh{l:aB}(n:l∈h.M)(e:a=16*l.R):wx h a<h.M.length/\a=16*(nth h.M (wx h a)).R/\(∀j,j<wx h a->(nth h.M j).R*16≠a)/\h.M.findIdx? (λl=>decide (l.R*16=a))=some (wx h a):=by
 cases c:h.M.findIdx? λl=>decide (l.R*16=a) with
 | none=>
  grind
 | some k=>
  obtain⟨b,d,f⟩:=X9.1 c;have g:wx h a=k:=by grind [wx]
  rw[g];rw[<-bk (I3 b),C0]at d;refine⟨b,ω,λj i=>?_,rfl⟩;have:=f j i;rw[<-bk (I3 (show j<h.M.length by omega))]at this;simpa using this
theorem dL(a:aX h E)(f:o∈h.O):(aP o.q<0->Wz h.M o.Addr o.q)/\(¬aP o.q<0->(∃s∈h.K,eH s o.Addr/\s.d=aP o.q)/\aP o.q<=3):=by
 rcases a.oow o f with⟨s,g,b,c⟩|⟨l,d,b,c⟩
 ·have i:=aK (a.L.sok s g)
  grind
 have j:=dn (a.L.lok l d);refine⟨λ_=>⟨l,d,b,c⟩,λe=>absurd ?_ e⟩
 grind [aP]
theorem aX.inQuar{h:ac}{i:Nat}(a:aX h [])(g:i<h.O.length)(r:¬aP (nth h.O i).q<0):aX (inQuar h i) ((Aw h.a7 (mz h (nth h.O i))).map (·.Addr)):=by
 obtain⟨⟨s,j,l,t⟩,u⟩:=(dL a (au g)).2 r;have b:jT h.K (nth h.O i).Addr (aP (nth h.O i).q):=⟨s,j,l,.inr t⟩
 have c:=a.nums;unfold cT at c;rw[C0]at c;have w:=aK (a.L.sok s j);have n:=a.dropO g b.any;have A:=n.cells (k:=fA h.G (nth h.O i).Addr (csz (aP (nth h.O i).q)).toNat) (GK a.ker _ _) rfl;have d:∀y∈h.a7.a5,y.Addr≠(nth h.O i).Addr:=λy o e=>by
  have f:=n.nd;rw[List.cons_append,List.nil_append]at f
  grind [holders]
 have p:=aX.toQuar (x:=mz h (nth h.O i)) (q:=MV h.a7 (mz h (nth h.O i))) (out:=Aw h.a7 (mz h (nth h.O i))) A (Ue a.quar ⟨by show 0<=aP _;omega,u,by show 0<=(nth h.O i).Addr;have:=l.1;omega,c.2.2.1⟩ (λy o=>a.snc y o) d) (by grind [List.take_append_drop,Aw,MV]) (C7 _) b;rw[List.append_nil]at p;exact p
theorem aX.freeOb{h:ac}{t i:Nat}(a:aX h [])(c:i<h.O.length)(e:t<h.T.length):aX (freeOb h t i).1 []:=by
 unfold Ab.freeOb;split
 ·rename_i b
  obtain⟨l,f,d,-⟩:=(dL a (au c)).1 b;obtain⟨g,j,-⟩:=uh f d
  grind [aX.dropL,freeL]
 rename_i b;split
 ·exact a
 have d:=a.inQuar c b;refine aX.recycs (E:=[]) ?_ e
 grind
theorem Li:∀{H L:List Int},H.Nodup->(∀x∈H,x∈L)->H.length<=L.length
 | [],L,_,_=>Z0 _
 | y::H,L,b,c=>by
  have d:y∈L:=ψ
  have a:=List.nodup_cons.1 b;have:=Li (L:=L.erase y) a.2 ψ
  grind
theorem yl{H:List Int}(a:H.Nodup)(b:∀x∈H,0<=x/\x<n):H.length<=n:=by
 have:=Li (L:=(List.range n).map λ(i:Nat)=>(i:Int)) a λx c=>C6.2 ⟨x.toNat,List.mem_range.2 ψ,ψ⟩
 simpa using this
theorem d9{f:α->Int}{xs:List α}(h:xs.Pairwise λa b=>f a<f b):(xs.map f).Nodup:=ψ
theorem NV:∀(b:List (List Int))(k:Nat)(s:List Int),(gI k s b).isSome=true->∀l∈b,l.length<=8
 | [],_,_,_,l,a=>by cases a
 | x::b,k,s,h,l,a=>by
  simp only[gI]at h;cases e:fF k s x with
  | none=>grind
  | some c=>
   rw[e]at h;rcases List.mem_cons.1 a with rfl|a
   ·grind [fF]
   exact NV b (k+1) c h l a
theorem eN{c:aE}(h:bI c=true):c.a.length=4/\∀l∈c.a,l.length<=8:=by grind [NV,bI]
structure uQ(h:ac):Prop where
 cells:h.G.F.X.V.length<=32
 row:∀r∈h.G.F.X.V,r.length=16
 used:h.G.F.X.a4.length<=32
 ents:h.G.F.Q.J.length<=32
 ref:h.G.w.length<=40
 free:h.o.length<=32
 spans:h.K.length<=32
 larges:h.M.length<=32
 objs:h.O.length<=512
 caches:h.T.length<=4
 lists:∀c∈h.T,c.a.length=4/\∀l∈c.a,l.length<=8
 quar:h.a7.a5.length<=512
def jT.bd(b:aX h E)(d:jT h.K a c):0<=a/\a<512:=by
 obtain⟨s,e,⟨f,g,-⟩,-⟩:=d;have i:=aK (b.L.sok s e);omega
theorem aX.lens(a:aX h E):uQ h:=by
 obtain⟨G,k,p,J,K,M,q⟩:=aH.1 a.ker;obtain⟨N,t,O,P⟩:=aZ.1 k;obtain⟨Q,R,u⟩:=bu.1 p;obtain⟨w,S,T⟩:=gi.1 a.rng;obtain⟨U,V,A,W⟩:=k6.1 a.quar;have g:=a.mail;unfold bU at g;simp only[I0,C0]at g;have B:=a.nc;refine⟨t,λr i=>?_,ω,u,q,?_,?_,?_,?_,ω,λc C=>eN (a.cach c C),?_⟩
 ·obtain⟨j,X,rfl⟩:=aN i
  grind [ip]
 ·have:=yl (H:=h.o.map (·.At)) (n:=32) (d9 (w.1.imp_of_mem ψ)) λx b=>by
   obtain⟨r,i,rfl⟩:=C6.1 b
   grind
  simpa using this
 ·have:=yl (H:=h.K.map (·.R)) (n:=32) a.L.nd λx b=>by
   obtain⟨s,d,rfl⟩:=C6.1 b;have:=aK (a.L.sok s d);omega
  simpa using this
 ·have:=yl (H:=h.M.map (·.R)) (n:=32) (d9 a.srl) λx b=>by
   obtain⟨l,f,rfl⟩:=C6.1 b;have:=aR (a.L.lok l f);omega
  simpa using this
 ·have:=yl (H:=h.O.map (·.Addr)) (n:=512) (d9 a.osr) λx b=>by
   obtain⟨o,D,rfl⟩:=C6.1 b;rcases a.oow o D with⟨s,d,⟨Y,Z,-⟩,-⟩|⟨l,f,e,-⟩
   ·have:=aK (a.L.sok s d);omega
   have:=aR (a.L.lok l f);omega
  simpa using this
 have:=yl (H:=h.a7.a5.map (·.Addr)) (n:=512) A λx b=>by
  obtain⟨y,F,rfl⟩:=C6.1 b;exact(a.hqu y F).bd a
 simpa using this
theorem uQ.sml(a:uQ h)(b:aF h.G=true)(d:aM.sml h.a1)(e:dE.sml h.Y):ac.sml h:=
 ⟨bX b,⟨by grind [uQ.free],λ_ _=>trivial⟩,⟨by grind [uQ.spans],λ_ _=>trivial⟩,⟨by grind [uQ.larges],λ_ _=>trivial⟩,⟨by grind [uQ.objs],λ_ _=>trivial⟩,⟨by grind [uQ.caches],λc f=>⟨by grind [uQ.lists],λl g=>by have:=(a.lists c f).2 l g;show l.length<=1048576;omega⟩⟩,d,⟨by grind [uQ.quar],λ_ _=>trivial⟩,e⟩
def mU(a:Int)(o:aU):Bool:=decide (o.Addr=a)
def oJ(h:ac)(a:Int):Nat:=(cF (mU a) h.O).toNat
theorem aX.objAt(g:aX h E)(k:o∈h.O):oJ h o.Addr<h.O.length/\nth h.O (oJ h o.Addr)=o/\cF (mU o.Addr) h.O=(oJ h o.Addr:Nat):=by
 obtain⟨i,c,rfl⟩:=aN k;have l:cF (mU (nth h.O i).Addr) h.O=(i:Nat):=eD (ax c) (by unfold mU;simp) λj z n d=>by
  have a:=bk d;have b:=(O3.1 d).1;subst a;unfold mU;refine X0 λe=>?_
  have:=cU (f:=(·.Addr)) (d9 g.osr) b c e;omega
 grind [oJ]
theorem qD(k:am)(p:Int)(n:Nat):(unmN k p n).Calls=k.Calls/\(unmN k p n).w=k.w:=(f9 k p n).2
def PZ(y:aC)(a:List aC):dt [] (y::a)=dt [y] a:=by rw[dt];rfl
theorem GU[Inhabited α]{xs:List α}(h:xs≠[]):xs.getLast? = some (nth xs (xs.length - 1)):=by grind [List.length_pos_iff,ax]
theorem Pi{xs:List α}(h:xs≠[])(v:α):xs.dropLast++[v]=xs.set (xs.length - 1) v:=by
 have a:0<xs.length:=ψ
 refine List.ext_getElem (by simp;omega) λi b c=>?_
 grind
theorem Px{a:List aC}(h:out≠[])(e:(nth out (out.length - 1)).At+(nth out (out.length - 1)).a6=y.At):dt out (y::a)=dt (out.set (out.length - 1) ⟨(nth out (out.length - 1)).At,(nth out (out.length - 1)).a6+y.a6⟩) a:=by grind [GU,Pi,dt]
theorem TC{a:List aC}(h:out≠[])(e:¬(nth out (out.length - 1)).At+(nth out (out.length - 1)).a6=y.At):dt out (y::a)=dt (out++[y]) a:=by grind [GU,dt]
theorem sL(xs:List aC)(w:xs.length<=4194304)(n:∀y∈xs,0<=y.At/\1<=y.a6/\y.At+y.a6<=1048576):zzA 573 false [.val none (bF .S xs)] .one (bF .own (dt [] xs)):=by
 refine fO 63 [(6,21,[15,16,17,18,19,20,21,22,23,24,25,26,27,28,29,30,31,32,33,34,35]),(7,15,[38,39,40,41,42,43,44,45,46,47,48,49,50,51,52])] Tryz.func573 rfl ?_ (.inr (kM _))
 repeat'(first|refine gP ?_|fail)
 (conv=>whnf)
 refine CH (ι:=Nat × List aC) (λq=>[(0,.H .one (bF .S xs)),(3,.H .one (bF .own q.2)),(4,.H .one [I ((q.1:Nat):Int)])]) (λq=>q.1<=xs.length/\dt q.2 (xs.drop q.1)=dt [] xs/\q.2.length<=q.1/\∀y∈q.2,0<=y.At/\1<=y.a6/\y.At+y.a6<=1048576) (λq=>xs.length - q.1) ((0,[])) ?_ ψ λq o=>?_
 ·exact wB
 obtain⟨i,out⟩:=q;obtain⟨p,a,g,b⟩:=o;simp only at p a g b |-;by_cases h:i<xs.length
 ·have j:=ax h
  have B:=n _ (au h);rw[iC h]at a;by_cases k:out=[]
  ·subst k
   rw[PZ]at a;have D:([]:List aC).length=0:=rfl
   repeat'(first|refine gE ?_|(conv=>whnf);first|with_reducible refine CF (aa j) ?_|refine Ln.mk (show List.length _=0 from rfl) ?_|refine Ap.sm (λr t=>by cases t) rfl (by simp) (by decide) rfl ?_)
   ((conv=>whnf)
    refine CG (i+1,[nth xs i]) ψ (by simp only;omega) ?_
    (repeat'(first|exact trivial|rfl|exact CL rfl (CL (C1 (C.s dQ.own) (by simp[aC.enc])) trivial)|refine CL ?_ ?_)))
  have l:0<out.length:=ψ
  have d:out[((out.length:Int) - 1).toNat]? = some (nth out (out.length - 1)):=by
   rw[show((out.length:Int) - 1).toNat=out.length - 1 by omega];grind [ax]
  have u:=b _ (au (xs:=out) (i:=out.length - 1) ω);by_cases e:(nth out (out.length - 1)).At+(nth out (out.length - 1)).a6=(nth xs i).At
  ·rw[Px k e]at a
   repeat'(first|refine gB ?_|(conv=>whnf);first|with_reducible refine CF (aa j) ?_|refine CP ω (aa d) ?_|refine CJ rfl (aa d) rfl ?_|refine CR rfl rfl (aa d) rfl (Z1 rfl) rfl ?_)
   ((conv=>whnf)
    refine CG (i+1,out.set (out.length - 1) ⟨(nth out (out.length - 1)).At,(nth out (out.length - 1)).a6+(nth xs i).a6⟩) ⟨(by simp only;omega),a,ψ,(λy c=>?_)⟩ (by simp only;omega) ?_)
   ·rcases C9 c with c|rfl
    ·exact b y c
    simp only;omega
   (repeat'(first|exact trivial|rfl|exact CL rfl (CL (C1 (C.s dQ.own) (by rw[show((out.length:Int) - 1).toNat=out.length - 1 by omega,X8];rfl)) trivial)|refine CL ?_ ?_))
  rw[TC k e]at a
  repeat'(first|refine gB ?_|(conv=>whnf);first|with_reducible refine CF (aa j) ?_|refine CP ω (aa d) ?_|refine CJ rfl (aa d) rfl ?_|refine Ap.sm (aS λ_=>rfl) rfl (by simp;omega) (by decide) rfl ?_)
  ((conv=>whnf)
   refine CG (i+1,out++[nth xs i]) ⟨(by simp only;omega),a,(by simp;omega),(λy c=>?_)⟩ (by simp only;omega) ?_)
  ·rcases I4.1 c with c|c
   all_goals simp_all
  (repeat'(first|exact trivial|rfl|exact CL rfl (CL (C1 (C.s dQ.own) (by simp[aC.enc])) trivial)|refine CL ?_ ?_))
 obtain rfl:i=xs.length:=ω
 rw[List.drop_length]at a
 repeat'(first|refine gE ?_|fail)
 rw[<-a];rfl
def Dl(r y:aC)(a:List aC)(put:Bool):nr r (y::a) put=if ovl y r then none else if !put&&decide (y.At > r.At) then(nr r a true).map λt=>r::y::t else(nr r a put).map λt=>y::t:=by rw[nr]
theorem Af(pages:Int)(xs:List aC)(r:aC)(G:0<=pages/\pages<=1048576)(H:gM xs):zzA 519 false [.val none [I pages],.val none (bF .S xs),.val (some 2) (aC.enc .S r)] (.tup [none,none]) (EV xs (ch pages xs r)):=by
 have o:=H.1;have j:=AO pages xs G H;have p:=yc pages r G;cases k:bH pages xs<;>rw[k]at j
 ·rw[show ch pages xs r=none by unfold ch;rw[CC (by rw[k];simp)]]
  refine fO 82 [] Tryz.func519 rfl ?_ (.inr (lO _ _))
  repeat'(first|refine gP ?_|(conv=>whnf);first|refine CB (j) ?_|refine CV (λ_=>rfl) (λ_=>rfl) o (by decide) ?_)
  rfl
 cases u:rangeIn pages r<;>rw[u]at p
 ·rw[show ch pages xs r=none by unfold ch;rw[CC (by rw[u];simp)]]
  refine fO 82 [] Tryz.func519 rfl ?_ (.inr (lO _ _))
  repeat'(first|refine gP ?_|(conv=>whnf);first|refine CB (j) ?_|refine CB (p) ?_|refine CV (λ_=>rfl) (λ_=>rfl) o (by decide) ?_)
  rfl
 obtain⟨J,K⟩:=xa k;have l:0<=r.At/\1<=r.a6/\r.At+r.a6<=pages:=by grind [rangeIn]
 rw[show ch pages xs r=(nr r xs false).map (dt []) by unfold ch;rw[CD ⟨k,u⟩,BU (pages:=pages) J l.2.1 ψ]];refine fO 82 [] Tryz.func519 rfl ?_ (.inr (lO _ _))
 repeat'(first|refine gP ?_|(conv=>whnf);first|refine CB (j) ?_|refine CB (p) ?_|refine CV (λ_=>rfl) (λ_=>rfl) o (by decide) ?_)
 (conv=>whnf)
 refine CH (ι:=Nat × List aC × Bool) (λq=>[(1,.H .one (bF .S xs)),(5,.H .box (aC.enc .S r)),(8,.H .one (bF .own xs)),(9,.H .one (bF .own q.2.1)),(10,.H .one [B (q.2.2)]),(11,.H .one [I ((q.1:Nat):Int)])]) (λq=>q.1<=xs.length/\(nr r (xs.drop q.1) q.2.2).map (q.2.1++·)=nr r xs false/\q.2.1.length<=q.1+q.2.2.toNat/\(∀y∈q.2.1,0<=y.At/\1<=y.a6/\y.At+y.a6<=1048576)) (λq=>xs.length - q.1) ((0,[],false)) ?_ (⟨Z0 _,by simp,by simp,by simp⟩) λq d=>?_
 ·exact wB
 obtain⟨i,out,put⟩:=q;obtain⟨L,b,c,e⟩:=d;simp only at L b c e |-;have M:0<=r.At/\1<=r.a6/\r.At+r.a6<=1048576:=ω
 by_cases w:i<xs.length
 ·have n:=ax w
  have N:=K _ (au w);have E:0<=(nth xs i).At/\1<=(nth xs i).a6/\(nth xs i).At+(nth xs i).a6<=1048576:=ω
  rw[iC w]at b;by_cases h:ovl (nth xs i) r=true
  ·rw[<-b]
   rw[Dl,CD h];unfold ovl at h;rw[C0]at h
   repeat'(first|refine gE ?_|(conv=>whnf);first|with_reducible (first|refine CF (aa n) ?_|refine Bf.D (λd=>?_) (λd=>?_)))
   rfl
  rw[Dl,CC h]at b;unfold ovl at h;rw[C0]at h;cases put with
  | false=>
   have c:out.length<=i:=by simpa using c
   by_cases O:(nth xs i).At > r.At
   ·rw[CD (by simp;omega),Option.map_map]at b
    repeat'(first|refine gE ?_|(conv=>whnf);first|with_reducible (first|refine CF (aa n) ?_|refine Bf.D (λd=>?_) (λd=>?_))|refine Ap.sm (aS λ_=>rfl) rfl (by simp;omega) (by decide) rfl ?_|refine Ap.sm (λr l=>by simp at l;rcases l with⟨a,_,rfl⟩|rfl<;>rfl) rfl (by simp;omega) (by decide) rfl ?_)
    ((conv=>whnf)
     refine CG (i+1,out++[r,nth xs i],true) ⟨(by simp only;omega),(by rw[<-b];congr 1;funext t;simp),(by simp;omega),(λy g=>?_)⟩ (by simp only;omega) ?_)
    ·grind
    (repeat'(first|exact trivial|rfl|exact CL rfl (CL (C1 (C.s dQ.own) (by simp[aC.enc])) trivial)|refine CL ?_ ?_))
   rw[CC (by simp;omega),Option.map_map]at b
   repeat'(first|refine gE ?_|(conv=>whnf);first|with_reducible (first|refine CF (aa n) ?_|refine Bf.D (λd=>?_) (λd=>?_))|refine Ap.sm (aS λ_=>rfl) rfl (by simp;omega) (by decide) rfl ?_)
   ((conv=>whnf)
    refine CG (i+1,out++[nth xs i],false) ⟨(by simp only;omega),(by rw[<-b];congr 1;funext t;simp),(by simp;omega),(λy g=>?_)⟩ (by simp only;omega) ?_)
   ·grind
   (repeat'(first|exact trivial|rfl|exact CL rfl (CL (C1 (C.s dQ.own) (by simp[aC.enc])) trivial)|refine CL ?_ ?_))
  | true=>
   have c:out.length<=i+1:=c;rw[CC (by simp),Option.map_map]at b;by_cases P:(nth xs i).At<r.At+r.a6
   all_goals
    repeat'(first|refine gE ?_|(conv=>whnf);first|with_reducible (first|refine CF (aa n) ?_|refine Bf.D (λd=>?_) (λd=>?_))|refine Ap.sm (aS λ_=>rfl) rfl (by simp;omega) (by decide) rfl ?_)
    ((conv=>whnf)
     refine CG (i+1,out++[nth xs i],true) ⟨(by simp only;omega),(by rw[<-b];congr 1;funext t;simp),(by simp;omega),(λy g=>?_)⟩ (by simp only;omega) ?_)
    ·rcases I4.1 g with g|g
     ·exact e y g
     rw[C2.1 g];exact E
    (repeat'(first|exact trivial|rfl|exact CL rfl (CL (C1 (C.s dQ.own) (by simp[aC.enc])) trivial)|refine CL ?_ ?_))
 obtain rfl:i=xs.length:=ω
 rw[List.drop_length]at b;cases put with
 | false=>
  have c:out.length<=xs.length:=by simpa using c
  rw[<-b];have F:=sL (out++[r]) (by simp;omega) ψ
  repeat'(first|refine gE ?_|(conv=>whnf);first|refine Ap.sm (aS λ_=>rfl) rfl (by simp;omega) (by decide) (show(out++[r]).map (aC.enc .own)=_ by simp[aC.enc]) ?_|refine CN (F) ⟨⟨rfl,kG _⟩,trivial⟩ ?_)
  rfl
 | true=>
  have c:out.length<=xs.length+1:=c;rw[<-b];have F:=sL out ω e
  repeat'(first|refine gE ?_|(conv=>whnf);first|refine CN (F) ⟨⟨rfl,kG _⟩,trivial⟩ ?_)
  simp[nr,EV]
  rfl
theorem shl64{i:Int}(a:0<=i/\i<=15):IntKind.i64.wrap (1*2 ^ min i.toNat IntKind.i64.bits)=2 ^ i.toNat/\0<=(2:Int) ^ i.toNat/\(2:Int) ^ i.toNat<=32768:=by
 have b:min i.toNat IntKind.i64.bits=i.toNat:=Nat.min_eq_left (show i.toNat<=64 by omega);have c:(0:Int)<=2 ^ i.toNat/\(2:Int) ^ i.toNat<=32768:=by
  have:(2:Nat) ^ i.toNat<=2 ^ 15:=Nat.pow_le_pow_right (by decide) ω
  grind
 grind [fJ]
theorem clr64{i:Int}(a:0<=b/\b<=65535):IntKind.i64.wrap ((BitVec.ofInt IntKind.i64.bits b &&& ~~~BitVec.ofInt IntKind.i64.bits (2 ^ i.toNat)).toNat:Nat)=xC b i:=by
 have:=DR (i:=i) a
 grind [fJ,xC]
theorem v6(b i:Int)(c:0<=b/\b<=65535)(d:0<=i/\i<=15):zzA 574 false [.val none [I b],.val none [I i]] .one [I (xC b i)]:=by
 have a:=vA b i;rw[O0 ω]at a;have e:IntKind.u64.wrap i=i:=by grind [Go.IntKind.wrap,Go.IntKind.bits]
 refine fO 15 [] Tryz.func574 rfl ?_
 repeat'(first|refine gP ?_|(conv=>whnf);first|refine CE ?_|refine CB (a) ?_|refine CQ ω ?_|refine CM e ?_|refine CM (shl64 d).1 ?_|refine CM (clr64 c) ?_)
 rfl
def uo(b i:Int)(c:0<=b/\b<=65535)(d:0<=i/\i<=15):zzA 491 false [.val none [I b],.val none [I i]] .one [I (xC b i)]:=by
 have a:=qw b i;rw[O0 ω]at a;refine fO 14 [] Tryz.func491 rfl ?_
 repeat'(first|refine gP ?_|(conv=>whnf);first|refine CE ?_|refine CB (a) ?_|refine CQ ω ?_|refine CM (shl64 d).1 ?_|refine CM (clr64 c) ?_)
 rfl
theorem KS{k:Int}(a:aT s.a8 k=true):0<=k/\k<=15:=by grind [eQ]
def Ai(s:aA)(k:Int)(a:bh s=true)(b:aT s.a8 k=true):zzA 523 false [.val (some 3) (aA.enc .S s),.val none [I k]] (.tup [some 3,none]) (aA.enc .own (kW s k)++[B true]):=by
 have e:=dY a;have g:=KS b;have c:=iY s;have d:=lJ s.a8 k ω;rw[a]at c;rw[b]at d;refine fO 23 [] Tryz.func523 rfl ?_ (.inr (aD (aA.enc_fr _) ⟨trivial,trivial⟩))
 repeat'(first|refine gP ?_|(conv=>whnf);first|refine CE ?_|refine CB (c) ?_|refine CB (d) ?_|refine CB (v6 s.a8 k e g) ?_)
 rfl
def A9(s:aA)(k:Int)(a:bh s=true)(b:aT s.a8 k=true):zzA 385 false [.val (some 3) (aA.enc .S s),.val none [I k]] (.tup [some 3,none]) (aA.enc .own (kW s k)++[B true]):=by
 have e:=dY a;have g:=KS b;have c:=gK s;have d:=hC s.a8 k ω;rw[a]at c;rw[b]at d;refine fO 23 [] Tryz.func385 rfl ?_ (.inr (aD (aA.enc_fr _) ⟨trivial,trivial⟩))
 repeat'(first|refine gP ?_|(conv=>whnf);first|refine CE ?_|refine CB (c) ?_|refine CB (d) ?_|refine CB (uo s.a8 k e g) ?_)
 rfl
def Rp(c:aE)(k:Int)(b:aE.sml c):zzA 477 false [.val (some 1) (aE.enc .S c),.val none [I k]] .one [B (bI c&&decide (0<=k/\k<=3))]:=by
 have a:=Fu c b;cases e:bI c<;>rw[e]at a
 all_goals
  refine fO 11 [] Tryz.func477 rfl ?_
  repeat'(first|refine gP ?_|(conv=>whnf);first|refine CE ?_|refine CB (a) ?_|refine CB (bn k 0 3) ?_)
  all_goals rfl
def se(c:aE)(k:Int)(a:aE.sml c):zzA 333 false [.val (some 1) (aE.enc .S c),.val none [I k]] .one [B (decide (0<=k/\k<=3)&&bI c)]:=by
 have b:=oG c a;refine fO 11 [] Tryz.func333 rfl ?_
 repeat'(first|refine gP ?_|(conv=>whnf);first|with_reducible refine Bf.D (λd=>?_) (λd=>?_)|refine CE ?_|refine CB (b) ?_|refine CB (fH k) ?_)
 all_goals exact C1 (λz=>[B z]) ((by simp[*]))
def qv{c:aE}{k:Nat}(a:k<c.a.length):c.a[k]? = some (nth c.a k):=ax a
theorem Pq{c:aE}(h:bI c=true)(k:Nat)(a:Int):aE.sml (oW c k a):=by
 obtain⟨e,d⟩:=eN h;refine⟨by grind [oW],λl b=>?_⟩;rcases C9 b with b|rfl
 ·have:=d l b;show l.length<=1048576;omega
 show(nth c.a k++[a]).length<=1048576;by_cases f:k<c.a.length
 ·grind [au]
 have:nth c.a k=[]:=by unfold nth;rw[Y3,X3 ω];rfl
 rw[this];simp
theorem FU(c:aE)(k:Nat)(a:Int):aE.enc .own (oW c k a)=[.s .own ((c.a.map (aJ .own)).set k (aJ .own (nth c.a k++[a])))]:=by grind [X8,aE.enc,oW]
theorem fD{f:α->List C}{xs:List α}{k:Nat}{y:α}(h:xs[k]? = some y):((xs.map f).set k r)[k]? = some r:=ψ
def gH(f:α->β)(xs:List α)(y:α):(xs++[y]).map f=xs.map f++[f y]:=by simp
def LI(c:aE)(k a:Int):List C:=aE.enc .own ((cput c k a).getD c)++[B (cput c k a).isSome]
def P6(c:aE)(k a:Int):iq (LI c k a):=aD (aE.enc_fr _) ⟨trivial,trivial⟩
theorem FF(o:aU)(a:Int):zzA 252 false [.val (some 4) (aU.enc .S o),.ptr [I a]] .one [B (mU a o)]:=by
 refine fO 8 [] Tryz.func252 rfl ?_
 repeat'(first|refine gP ?_|(conv=>whnf);first|refine CE ?_)
 grind [mU]
def r9(h:ac)(a:Int)(c:h.O.length<=1048576):zzA 97 false [.val (some 24) (ac.enc .S h),.val none [I a]] .one [I (cF (mU a) h.O)]:=by
 refine fO 9 [] Tryz.func97 rfl ?_
 repeat'(first|refine gP ?_|(conv=>whnf);first|refine CE ?_|refine Cq.mk (nl (some 4) (aU.enc .S) (mU a) h.O) (FF default a).has (λL k rcs b=>?_) ?_|refine CB (ko h.O (mU a) ω) ?_)
 ·obtain⟨y,-,rfl,rfl,rfl⟩:=b
  exact FF y a
 rfl
theorem lf(xs:List aB)(pr:aB->Bool)(g:xs.length<=9223372036854775807):zzA 100 false [.val none (cA .S xs),.fn (kI Tryz.prog (nl (some 3) (aB.enc .S) pr xs))] .one [I (cF pr xs)]:=by
 refine fO 19 [] Tryz.func100 rfl ?_
 repeat'(first|refine gP ?_|(conv=>whnf);first|refine CE ?_)
 (conv=>whnf)
 refine CH (ι:=Nat) (λi=>[(0,.H .one (cA .S xs)),(1,.fv (kI Tryz.prog (nl (some 3) (aB.enc .S) pr xs))),(7,.H .one [I xs.length]),(8,.H .one [I (i:Nat)])]) (λi=>i<=xs.length/\∀(j:Nat)(z:aB),j<i->xs[j]? = some z->pr z=false) (λi=>xs.length - i) 0 ?_ ψ λi b=>?_
 ·exact wB
 obtain⟨b,d⟩:=b;by_cases a:i<xs.length
 ·obtain⟨y,c⟩ : ∃y,xs[i]? = some y:=⟨_,I3 a⟩
  repeat'(first|refine gE ?_|(conv=>whnf);first|with_reducible refine CF (aa c) ?_|refine CE ?_|refine Fv.mk (k:=.one) (rcs:=[B (pr y)]) ⟨y,Z2 c,rfl,rfl,rfl⟩ ?_|refine Bf.P (λe=>?_) (λe=>?_))
  ·grind [eD]
  (conv=>whnf)
  refine CG (i+1) ψ ω ?_;exact wB
 repeat'(first|refine gE ?_|(conv=>whnf);first|refine CE ?_)
 exact C1 (λz=>[I z]) (gQ ω d).symm
def ni(x:ac):List C:=[.s .own (x.G.F.X.V.map (aJ .own)),.s .own (x.G.F.X.a4.map (rB .own)),.s .own (x.G.F.Q.J.map (bm.enc .own)),I x.G.Calls,.s .own (x.G.w.map (rI .own)),.s .own (x.o.map (aC.enc .own)),.s .own (x.K.map (aA.enc .own)),.s .own (x.M.map (aB.enc .own)),.s .own (x.O.map (aU.enc .own)),.s .own (x.T.map (aE.enc .own)),.s .own (x.a1.U.map (bO .own)),.s .own (x.a1.u.map (aJ .own)),I x.a7.b7,.s .own (x.a7.a5.map (aO.enc .own)),I x.b3,I x.b1,I x.c0,I x.b,B x.k,I x.Y.W.a3,I x.Y.W.a0,.s .S (x.Y.W.V.map (rI .S)),I x.Y.a9,I x.Y.b]
def nQ(x:ac):ed (ni x)=ac.enc .S x:=by simp[ed,ni,ac.enc,Cb,bm.enc_fz,aB.enc_fz,aU.enc_fz,aC.enc_fz,aA.enc_fz,aO.enc_fz,rB,lR,rI,dm,<-cg,I8]
variable{g:Nat}
theorem Pu.two{f a:List C}{off k h b:Nat}{cs:List C}{K:List C->Prop}{o c:dQ}{rows2:List (List C)}{d:List C}(h1:f[off]? = some (.s o rows))(n:o.mine=true)(u:rows[i]? = some r)(w:r.length=k)(y:r[j]? = some (.s c rows2))(p:c.mine=true)(A:rows2[g]? = some d)(B:d.length=h)(D:b+cs.length<=h)(E:a=f.set off (.s o (rows.set i (r.set j (.s c (rows2.set g (splice d b cs)))))))(q:K a):Pu f off [(i,k,j),(g,h,b)] cs K:=by
 have t:o≠.S:=λe=>by subst e;cases n
 have l:c≠.S:=λe=>by subst e;cases p
 refine Pu.mk (r:=d) (j:=b) (by grind [co]) (by grind [lw]) ω (by grind [gn]) q
def GJ(x:List aA):fz (.s .own (x.map (aA.enc .own)))=.s .S (x.map (aA.enc .S)):=(List.cons.inj (eJ x)).1
def Nh(x:List aB):fz (.s .own (x.map (aB.enc .own)))=.s .S (x.map (aB.enc .S)):=(List.cons.inj (iT x)).1
def Tg(x:List aU):fz (.s .own (x.map (aU.enc .own)))=.s .S (x.map (aU.enc .S)):=(List.cons.inj (Ns x)).1
theorem Ap.dele{e:α->List C}{xs:List α}(a:∀y,(e y).length=sz)(b:∀y,bp (e y)=true)(h:xs.length<=1048576)(c:by_<=1000)(d:K ((Ab.dele xs i).map e)):Ap true ((xs.take i).map e) ((xs.drop (i+1)).map e) sz by_ K:=by
 have f:(xs.take i).length+(xs.drop (i+1)).length<=2097152:=ψ
 refine CU (aS a) (aS a) (λ_ r g=>by obtain⟨y,-,rfl⟩:=C6.1 g;exact b y) (by rw[O1,O1];omega) (by rw[O1,O1];exact Z6 (Nat.mul_le_mul f c) (by decide)) ?_ d;unfold Ab.dele;rw[C8]
def NE(h:ac)(p:Int)(a:aL.sml h.G.F.Q):zzA 485 false [.ptr (ac.enc .S h),.val none [I p]] .one [I (af h.G.F.Q p).e]:=by
 refine fO 13 [] Tryz.func485 rfl ?_
 repeat'(first|refine gP ?_|(conv=>whnf);first|refine CE ?_|refine CB (me h.G.F.Q p a) ?_)
 rfl
def Uj(h:ac):List C:=(ni h).drop 5
def V1(h:ac)(k:am):ni {h with G:=k} = am.enc .own k++Uj h:=rfl
def H9(h:ac):Uj h=[.s .own (h.o.map (aC.enc .own)),.s .own (h.K.map (aA.enc .own)),.s .own (h.M.map (aB.enc .own)),.s .own (h.O.map (aU.enc .own)),.s .own (h.T.map (aE.enc .own)),.s .own (h.a1.U.map (bO .own)),.s .own (h.a1.u.map (aJ .own)),I h.a7.b7,.s .own (h.a7.a5.map (aO.enc .own)),I h.b3,I h.b1,I h.c0,I h.b,B h.k,I h.Y.W.a3,I h.Y.W.a0,.s .S (h.Y.W.V.map (rI .S)),I h.Y.a9,I h.Y.b]:=rfl
def MU(h:ac)(f:Int)(a:aL.sml h.G.F.Q)(b:0<=f/\f<h.G.F.X.V.length/\f<h.G.F.X.a4.length) :
  zzB 486 false [.ptr (ni h),.val none [I f]] [.ptr (ni {h with G:=gp h.G f}),.val none [I f]] (.tup []) []:=by
 have c:=ax (xs:=h.G.F.X.V) (i:=f.toNat) ω;have d:=ax (xs:=h.G.F.X.a4) (i:=f.toNat) ω;rw[V1 h (gp h.G f)];by_cases e:(pagesOn h.G.F.Q f).length=0
 ·rw[uG e,H9]
  refine fM 30 [] [(2,8,[21,22,23,24,25,26,27,28])] [(0,0),(0,0)] Tryz.func486 rfl (λu q=>?_) (.inr trivial)
  repeat'(first|refine gB ?_|(conv=>whnf);first|with_reducible (first|refine CP b.1 (aa d) ?_|refine CP b.1 (aa c) ?_)|refine CE ?_|refine CN (gZ h.G.F.Q f a) ⟨⟨rfl,aL.enc_fz h.G.F.Q⟩,⟨rfl,rfl⟩,trivial⟩ ?_|refine CR rfl rfl (aa c) rfl (Z1 rfl) rfl ?_|refine CR rfl rfl (aa d) rfl (Z1 rfl) rfl ?_|refine Mk.mk 16 rfl rfl (by decide) (by decide) rfl ?_)
  refine CO rfl rfl ?_;exact wB
 rw[xR e];show bg _ _ _ [.ptr (ni h),_] [.ptr (ni h),_] _ _;refine fM 30 [] [(2,8,[21,22,23,24,25,26,27,28])] [(0,0),(0,0)] Tryz.func486 rfl (λu q=>?_) (.inr trivial)
 repeat'(first|refine gB ?_|(conv=>whnf);first|refine CE ?_|refine CN (gZ h.G.F.Q f a) ⟨⟨rfl,aL.enc_fz h.G.F.Q⟩,⟨rfl,rfl⟩,trivial⟩ ?_)
 refine CO rfl rfl ?_;exact wB
theorem KJ(h:ac)(p:Int)(b:aF h.G=true) :
  zzB 374 false [.ptr (ni h),.val none [I p]] [.ptr (ni {h with G:=cy h.G p}),.val none [I p]] .one [B (decide ((af h.G.F.Q p).e≠0))]:=by
 have k:=bX b;have c:=NE h p k.1.2;by_cases a:(af h.G.F.Q p).e=0
 ·rw[show cy h.G p=h.G by unfold cy;rw[CD a]]
  refine fM 32 [(486,[2,0])] [] [(0,0),(0,0)] Tryz.func374 rfl (λu q=>?_)
  repeat'(first|refine gB ?_|(conv=>whnf);first|refine CE ?_|refine CN (c) ⟨nQ h,⟨rfl,rfl⟩,trivial⟩ ?_)
  refine CO rfl ?_ ?_
  ·exact C1 (λz=>[B z]) ((by simp[a]))
  exact wB
 obtain⟨l,r,n,d,o⟩:=bR b a;have j:=(aZ.1 (aH.1 b).2.1).2.2.1;rw[show cy h.G p=gp (mh h.G p) (af h.G.F.Q p).j by unfold cy;rw[CC a]];have e:=MU {h with G:=mh h.G p} (af h.G.F.Q p).j (xl b) ⟨d,by grind [mh],by grind [mh]⟩;rw[V1 h (mh h.G p),zb,H9]at e;have g:=ax (xs:=h.G.F.Q.J) (i:=p.toNat) ω;rw[n]at c e a |-;refine fM 32 [(486,[2,0])] [] [(0,0),(0,0)] Tryz.func374 rfl (λu q=>?_)
 repeat'(first|refine gB ?_|(conv=>whnf);first|with_reducible refine CP l (aa g) ?_|refine CE ?_|refine CN (c) ⟨nQ h,⟨rfl,rfl⟩,trivial⟩ ?_|refine CR rfl rfl (aa g) rfl (Z1 rfl) rfl ?_|refine CJ rfl (aa g) rfl ?_|refine CK (e) (.inl rfl) ?_)
 refine CO rfl ?_ ?_
 ·exact C1 (λz=>[B z]) ((by simp[a]))
 exact wB
def GD(h:ac)(p:Int):zzA 367 false [.ptr (ac.enc .S h),.val none [I p]] .one [B (fe h p)]:=by
 cases e:h.k
 all_goals
  have b:ac.enc .S h=(ac.enc .S h).set 18 (B h.k):=rfl;rw[e]at b;rw[b];refine fO 29 [] Tryz.func367 rfl ?_
  repeat'(first|refine gP ?_|(conv=>whnf);first|with_reducible (first|refine Bf.D (λa=>?_) (λa=>?_)|refine Bf.E (λa=>?_) (λa=>?_)|refine Bf.N (λa=>?_) (λa=>?_))|refine CE ?_)
  all_goals exact C1 (λz=>[B z]) ((by unfold fe;rw[e];first|(simp[*];done)|(simp[*];rw[Y6];simp)))
def AK(h:ac):zzA 372 false [.ptr (ac.enc .S h)] .one [I (gY h:Nat)]:=by
 refine fO 11 [] Tryz.func372 rfl ?_
 repeat'(first|refine gP ?_|(conv=>whnf);first|refine CE ?_)
 rfl
theorem Ea(h:ac)(E:List Int)(i:Nat)(a:aX h E)(e:i<h.K.length):zzB 524 false [.ptr (ni h),.val none [I (i:Nat)]] [.ptr (ni (giveP h i)),.val none [I (i:Nat)]] (.tup []) []:=by
 have b:=a.lens;have g:=b.spans;have c:=ax e;have j:=KJ {h with K:=dele h.K i} (nth h.K i).R a.ker;have d:=AK {h with G:=cy h.G (nth h.K i).R,K:=dele h.K i};rw[show gY {h with G:=cy h.G (nth h.K i).R,K:=dele h.K i} = gY h from(lY _ _).1]at d;have k:gY h<=32:=b.ents;have l:=Af (gY h:Nat) h.o ⟨(nth h.K i).R,1⟩ ω ⟨by grind [uQ.free],λ_ _=>trivial⟩;refine fM 52 [(374,[2,0])] [(1,273,[13,14,15,16,17,18,19,20,22,23,24,25,26,27,28,30,31,0,1,2,3,4,5,6,7,9,10,11,12,13,14,15,8,1000,1009,1010,1011,1012,1013,1014,1015,16,1000,17,18,19]),(1048577,0,[6]),(3,270,[38,39,40,41,42,43,44,45,47,37,48,49,50,51,0,1,2,3,4,5,6,7,8,1000,1001,1002,1003,1004,1005,1006,9,10,11,12,13,14,15,1012])] [(0,0),(0,0)] Tryz.func524 rfl (λu q=>?_) (.inr trivial)
 repeat'(first|refine gP ?_|(conv=>whnf);first|with_reducible refine CF (aa c) ?_|refine CE ?_|refine Uv.mk rfl (GJ h.K) rfl ?_|refine Sl.pre i rfl (by rw[O1];omega) (aS λ_=>rfl) Y5 ?_|refine Sl.suf (i+1) rfl (by rw[O1];omega) (aS λ_=>rfl) Z5 ?_|refine Fl.cp (λ_=>rfl) (λ_=>rfl) (by rw[O2];omega) (by decide) ?_|refine Ap.dele (λ_=>rfl) (λ_=>rfl) ω (by decide) ?_|refine CV (λ_=>rfl) (λ_=>rfl) (by rw[O2];omega) (by decide) ?_|refine CJ rfl (aa c) rfl ?_|refine CE ?_|refine CK (j) (.inl rfl) ?_|refine CN (d) ⟨nQ _,trivial⟩ ?_|refine CN (l) ⟨⟨rfl,rfl⟩,⟨rfl,kG h.o⟩,⟨rfl,rfl⟩,trivial⟩ ?_)
 refine CO rfl rfl ?_;exact wB
def xt(h:ac)(i:Nat)(a:Int):ni (clrS h i a)=(ni h).set 6 (.s .own ((h.K.map (aA.enc .own)).set i (aA.enc .own (kW (nth h.K i) (cM (nth h.K i) a))))):=by
 simp[ni,clrS,X8]
theorem lH{f:α->β}{xs:List α}{y:β}(a:i<xs.length):((xs.map f).set i y)[i]? = some y:=ψ
def MK(c:bh s=true)(b:eH s a):jo s a=(cM s a,0):=by
 unfold jo;rw[CD ((gG c).2 ⟨b.1,b.2.1⟩),b.2.2.1];rfl
theorem DQ(h:ac)(E:List Int)(a:Int)(c:aX h (a::E)):zzB 426 false [.ptr (ni h),.val none [I a]] [.ptr (ni (freeA h a)),.val none [I a]] (.tup []) []:=by
 obtain⟨j,n,t⟩:=c.at (c.hin a ψ);have d:=(c.hin a ψ).bd c;have B:=c.lens;have C:=B.spans;have e:=c.L.sok _ (au j);have k:=GB h (a / 16) ω;rw[t]at k;unfold freeA;generalize ul h a=i at j n k e;have b:=ax j;have o:=wo (nth h.K i) a ⟨ω,ω⟩;rw[MK e n]at o;have w:=Ai (nth h.K i) (cM (nth h.K i) a) e n.2.2.2;have D:=c.give j n;have l:=GD (clrS h i a) (nth h.K i).R;rw[show fe (clrS h i a) (nth h.K i).R=fe h (nth h.K i).R from rfl]at l;have p:=Ea (clrS h i a) E i D (by grind [clrS]);have r:=nQ (clrS h i a);rw[xt]at p r;have g:((h.K.map (aA.enc .own)).set i (aA.enc .own (kW (nth h.K i) (cM (nth h.K i) a))))[i]? = some (aA.enc .own (kW (nth h.K i) (cM (nth h.K i) a))):=lH j;unfold freeS;by_cases y:(kW (nth h.K i) (cM (nth h.K i) a)).a8=0
 ·cases F:fe h (nth h.K i).R<;>rw[F]at l
  ·rw[CD ⟨y,rfl⟩]
   refine fM 68 [(524,[2,0])] [(2,274,[26,27,28,29,30,31,32,33,34,35,36,37,38,39,25,40,41,42,0,1,2,3,4,5,6,7,8,9,10,11,12,13,14,15,16,17,18,1016])] [(0,0),(0,0)] Tryz.func426 rfl (λu q=>?_) (.inr trivial)
   repeat'(first|refine gB ?_|(conv=>whnf);first|with_reducible refine CM ((C1 _ (tdiv16 d.1)).trans (fJ ω ω)) ?_|refine CE ?_|refine CQ (by decide) ?_|refine CN (k) ⟨⟨rfl,nQ h⟩,⟨rfl,rfl⟩,trivial⟩ ?_|refine CF (aa b) ?_|refine CF g ?_|refine CJ rfl (aa b) rfl ?_|refine CJ rfl g rfl ?_|refine CB (o) ?_|refine CB (w) ?_|refine CE ?_|refine CR rfl rfl (aa b) rfl (Z1 rfl) rfl ?_|refine CN (l) ⟨r,⟨rfl,rfl⟩,trivial⟩ ?_|refine CK (p) (.inl rfl) ?_)
   refine CO rfl rfl ?_;exact wB
  rw[CC ψ];rw[xt];refine fM 68 [(524,[2,0])] [(2,274,[26,27,28,29,30,31,32,33,34,35,36,37,38,39,25,40,41,42,0,1,2,3,4,5,6,7,8,9,10,11,12,13,14,15,16,17,18,1016])] [(0,0),(0,0)] Tryz.func426 rfl (λu q=>?_) (.inr trivial)
  repeat'(first|refine gB ?_|(conv=>whnf);first|with_reducible refine CM ((C1 _ (tdiv16 d.1)).trans (fJ ω ω)) ?_|refine CE ?_|refine CQ (by decide) ?_|refine CN (k) ⟨⟨rfl,nQ h⟩,⟨rfl,rfl⟩,trivial⟩ ?_|refine CF (aa b) ?_|refine CF g ?_|refine CJ rfl (aa b) rfl ?_|refine CJ rfl g rfl ?_|refine CB (o) ?_|refine CB (w) ?_|refine CE ?_|refine CR rfl rfl (aa b) rfl (Z1 rfl) rfl ?_|refine CN (l) ⟨r,⟨rfl,rfl⟩,trivial⟩ ?_|refine CK (p) (.inl rfl) ?_)
  refine CO rfl rfl ?_;exact wB
 rw[CC λx=>y x.1];rw[xt];refine fM 68 [(524,[2,0])] [(2,274,[26,27,28,29,30,31,32,33,34,35,36,37,38,39,25,40,41,42,0,1,2,3,4,5,6,7,8,9,10,11,12,13,14,15,16,17,18,1016])] [(0,0),(0,0)] Tryz.func426 rfl (λu q=>?_) (.inr trivial)
 repeat'(first|refine gB ?_|(conv=>whnf);first|with_reducible refine CM ((C1 _ (tdiv16 d.1)).trans (fJ ω ω)) ?_|refine CE ?_|refine CQ (by decide) ?_|refine CN (k) ⟨⟨rfl,nQ h⟩,⟨rfl,rfl⟩,trivial⟩ ?_|refine CF (aa b) ?_|refine CF g ?_|refine CJ rfl (aa b) rfl ?_|refine CJ rfl g rfl ?_|refine CB (o) ?_|refine CB (w) ?_|refine CE ?_|refine CR rfl rfl (aa b) rfl (Z1 rfl) rfl ?_|refine CN (l) ⟨r,⟨rfl,rfl⟩,trivial⟩ ?_|refine CK (p) (.inl rfl) ?_)
 refine CO rfl rfl ?_;exact wB
def UJ(q:bD)(x:aO):List C:=bD.enc .own (MV q x)++dX .own (Aw q x)
def TH(q:bD)(x:aO):iq (UJ q x):=aD (bD.enc_fr _) (pW _)
def xJ{z:Int}(h:0<=z/\z<512):IntKind.i64.wrap (z.tdiv 16)=z / 16:=(C1 _ (tdiv16 h.1)).trans (fJ ω ω)
def yw(a:aX h E)(b:o∈h.O):0<=o.Addr/\o.Addr<512:=by
 rcases a.oow o b with⟨s,c,⟨f,g,-⟩,-⟩|⟨l,d,e,-⟩
 ·have:=aK (a.L.sok s c);omega
 have:=aR (a.L.lok l d);omega
theorem Q7{k:Int}(h:0<=k/\k<=3):1<=csz k/\csz k<=8:=by grind [bZ]
structure VU(h:ac)(o:aU):Prop where
 cl:0<=aP o.q/\aP o.q<=3
 fr:0<=(af h.G.F.Q (o.Addr / 16)).j/\(af h.G.F.Q (o.Addr / 16)).j<h.G.F.X.V.length
 fit:o.Addr % 16+csz (aP o.q)<=16
 row:(nth h.G.F.X.V (dG h.G o.Addr)).length=16
theorem VU.of(a:aX h E)(i:o∈h.O)(k:¬aP o.q<0):VU h o:=by
 obtain⟨⟨s,j,b,r⟩,t⟩:=(dL a i).2 k;have l:=aK (a.L.sok s j);have n:=yw a i;have u:s.R=o.Addr / 16:=by have w:=b.1;have y:=b.2.1;omega
 have c:(o.Addr / 16).toNat<(tbl h).J.length:=by have:=a.pg.bnd _ (dJ (la:=h.M) j);omega
 have d:(((o.Addr / 16).toNat:Nat):Int)=o.Addr / 16:=ω
 have A:=(a.pg.own _ c).2 (by grind [dJ]);have e:(af h.G.F.Q (o.Addr / 16)).e≠0:=by grind [nk,tbl]
 obtain⟨-,-,-,f,p⟩:=bR a.ker e;have q:=(aZ.1 (aH.1 a.ker).2.1).2.2.1;have g:dG h.G o.Addr<h.G.F.X.V.length:=by unfold dG;omega
 refine⟨ω,⟨f,ω⟩,?_,a.lens.row _ (au g)⟩;have B:=b.2.2.1
 grind [bZ]
theorem Ts(h:ac)(a:Int)(b:dG h.G a<h.G.F.X.V.length):({h with G:=fA h.G a 0} : ac)=h:=by
 have e:h.G.F.X.V.set (dG h.G a) (nth h.G.F.X.V (dG h.G a))=h.G.F.X.V:=by
  refine List.ext_getElem? λi=>?_
  grind [ax]
 unfold fA lT;rw[e]
theorem FA(t:Nat)(h:ac)(xs:List aO)(k:Nat)(a:k<xs.length):recycs t h ((xs.take (k+1)).map (·.Addr))=recyc t (recycs t h ((xs.take k).map (·.Addr))) (nth xs k).Addr:=by grind [Y7,ax,recycs]
def oE(rows:List (List C)):C:=match rows with|[]=>.s .S []|_=>.s .own rows
theorem oM(h:rows≠[]):oE rows=.s .own rows:=by cases rows with|nil=>exact absurd rfl h|cons=>rfl
variable{P:Program}
theorem tG(w:World)(t e k:Nat)(z:Value)(g:P.underlying t=some (.slice e))(h:∀w,(zeroValue e).run P w=.ok z w)(i:z.cells.size=k)(h1:∀v∈z.cells.toList,v.oneCell'=true)(b o n:Nat)(p:0<n)(l:0<k)(q:∀j,j<n*k->(w.cell? ⟨b,o+j,none⟩).isSome=true)(r:∀j,j<n*k->w.frozen? ⟨b,o+j,none⟩ = false) :
  ∃zs:List Value,zs.length=n*k/\(∀v∈zs,v.oneCell'=true)/\∀(ty:TypeId)(c:Nat),(Builtin.clear_ #[t] ty #[.slice (some ⟨b,o,none⟩) n c]).run P w=.ok (.tuple #[]) (w.setCells b o zs):=by
 subst i;have d:(Builtin.zeroCells z.cells n).toList.length=n*z.cells.size:=by grind [Go.Builtin.zeroCells]
 have a:∀v∈(Builtin.zeroCells z.cells n).toList,v.oneCell'=true:=by grind [Nat.mod_lt,Go.Builtin.zeroCells]
 refine⟨_,d,a,λty c=>?_⟩;have f:=run_storeCells_cells (P:=P) b o (Builtin.zeroCells z.cells n).toList 0 w ψ ψ a;simp only[Nat.add_zero]at f;obtain⟨m,rfl⟩ : ∃m,n=m+1:=⟨n - 1,ω⟩
 simp[Builtin.clear_,run_underlying g,h,f]
structure kL(w w':World)(g k n i:Nat):Prop where
 keep:bw (λb o=>b=g/\o<n*k) w w'
 lo:∀q,q<i*k->cel w' g q=cel w g q
 mid:∀q,i*k<=q->q<(n - 1)*k->cel w' g q=cel w g (q+k)
 hi:∀q,(n - 1)*k<=q->q<n*k->∃z,cel w' g q=some z/\z.oneCell'=true
 fro:∀b q,fro w' b q=fro w b q
variable{w:World}
theorem bw.up{M a:ah}{w':World}(h:bw M w w')(c:∀b o,M b o->a b o):bw a w w':=(CY a w).trans h ψ
def y3(w:World):bw NO w w.drew:=⟨rfl,rfl,rfl,O4 _,λ_ _ _=>rfl,λ_ _ _ _=>rfl,λ_ _ _ _=>rfl⟩
variable{news:List Value}
theorem MI{k:Nat}{zs:List Value}(f:i<n)(d:∀q,q<n*k->∃z,cel w g q=some z)(G:news.length=(n - (i+1))*k)(c:∀t u,news[t]? = some u->cel w g ((i+1)*k+t)=some u)(H:zs.length=k)(l:∀v∈zs,v.oneCell'=true) :
  kL w ((w.drew.setCells g (i*k) news).setCells g ((n - 1)*k) zs) g k n i:=by
 have J:i*k+(n - (i+1))*k=(n - 1)*k:=by rw[<-Nat.add_mul];congr 1;omega
 have K:(n - 1)*k+k=n*k:=by rw[show(n - 1)*k+k=(n - 1+1)*k by rw[Nat.add_mul,Nat.one_mul]];congr 1;omega
 have L:(i+1)*k=i*k+k:=ψ
 have p:∀b q,cel w.drew b q=cel w b q:=λ_ _=>rfl
 have a:∀j,j<news.length->∃z,cel w.drew g (i*k+j)=some z:=λj r=>by rw[p];exact d _ ω
 have y:∀q,q<n*k->∃z,cel (w.drew.setCells g (i*k) news) g q=some z:=λq A=>by
  by_cases h:i*k<=q/\q<i*k+news.length
  ·have:=bo a (I3 (show q - i*k<news.length by omega))
   grind
  grind [aW]
 refine⟨?_,λq A=>?_,λq B C=>?_,λq B C=>?_,λb q=>?_⟩
 ·have D:=eC (g:=g) (X:=λb o=>b=g/\o<n*k) news (i*k) w.drew ω
  have E:=eC (g:=g) (X:=λb o=>b=g/\o<n*k) zs ((n - 1)*k) (w.drew.setCells g (i*k) news) ω;exact((y3 w).up λ_ _ h=>h.elim).trans (D.trans E λ_ _ h=>.inr h) λ_ _ h=>.inr h
 ·grind [aW]
 ·rw[aW ω]
  obtain⟨u,e⟩ : ∃u,news[q - i*k]? = some u:=⟨_,I3 ω⟩
  have F:=bo a e;have M:=c _ u e
  grind
 ·obtain⟨u,e⟩ : ∃u,zs[q - (n - 1)*k]? = some u:=(ψ)
  have F:=bo (w:=w.drew.setCells g (i*k) news) (o:=(n - 1)*k) (vs:=zs) (λj r=>y _ ω) e
  grind
 rw[bM,bM];rfl
def UM(rows:List (List C)):Prop:=∀r∈rows,∀c∈r,∃z,c=.v z
def vd(P:Program)(f k:Nat):Prop:=LH P f/\∀(w:World)(g n a i:Nat)(news:List Value),i<n->n<=a->news.length=(n - (i+1))*k->(∀t u,news[t]? = some u->cel w g ((i+1)*k+t)=some u)->(∀u∈news,u.oneCell'=true)->
 (∀q,q<n*k->(w.cell? ⟨g,q,none⟩).isSome=true/\w.frozen? ⟨g,q,none⟩ = false)->
 Calls P f #[.slice (some ⟨g,0,none⟩) n a,.int .i64 i,.int .i64 ((i+1:Nat):Int)] w λe w'=>e=.returned (.slice (some ⟨g,0,none⟩) (n - 1) a)/\∃zs:List Value,zs.length=k/\(∀v∈zs,v.oneCell'=true)/\w'=(w.drew.setCells g (i*k) news).setCells g ((n - 1)*k) zs
theorem xQ{f k:Nat}(hf:vd P f k)(hi:i<rows.length)(hk:∀r∈rows,r.length=k)(R:R9 rows) :
  bg P f false [.mut none [.s .own rows],.val none [I (i:Nat)],.val none [I ((i+1:Nat):Int)]] [.mut none [.x],.val none [I (i:Nat)],.val none [I ((i+1:Nat):Int)]] .one [oE (dele rows i)]:=by
 refine⟨hf.1,λw S V vs hS hV hVV T=>?_⟩
 match vs,T with
 | [v,v1,v2],⟨T,U,W,_⟩=>
  have l:=(br.rep1 (show br w S (V 0) none [C.s .own rows] v from T)).fresh ⟨.inl (λe=>by cases e),R⟩;have e1:v1=.int .i64 (i:Nat):=by
   have:=br.rep1 (show br w S NO none [C.v (.int .i64 (i:Nat))] v1 from U);cases this;rfl
  have e2:v2=.int .i64 ((i+1:Nat):Int):=by
   have:=br.rep1 (show br w S NO none [C.v (.int .i64 ((i+1:Nat):Int))] v2 from W);cases this;rfl
  subst e1 e2;have G:(dele rows i).length=rows.length - 1:=by grind [dele]
  generalize H:C.s .own rows=cc at l;cases l with
  | nil _ o a ho=>grind
  | own _ o g d n j X u f' ho hn A p hpos hF hu hff hd hc=>
   cases H;have Y:d=k:=by rw[<-A _ (List.getElem_mem hi),<-hk _ (List.getElem_mem hi)]
   subst Y;have hnk:n*d<=j*d:=Z9 _ p;have hone:∀q,q<j*d->∃z,cel w g q=some z/\z.oneCell'=true:=ψ
   have e3:(i+1)*d+(n - (i+1))*d=n*d:=by rw[<-Nat.add_mul];congr 1;omega
   obtain⟨news,J,K,Z⟩ : ∃news:List Value,news.length=(n - (i+1))*d/\(∀t u,news[t]? = some u->cel w g ((i+1)*d+t)=some u)/\∀u∈news,u.oneCell'=true:=by
    refine⟨(List.range ((n - (i+1))*d)).map λt=>(cel w g ((i+1)*d+t)).getD undef,by simp,λt y ht=>?_,λy hy=>?_⟩
    all_goals grind
   refine(hf.2 w g n j i news ω p J K Z (λq B=>?_)).mono λe w' ⟨he,zs,z1,z2,hw'⟩=>?_
   ·grind
   have Q:=MI (w:=w) (by omega:i<n) ψ J K z1 z2;rw[<-hw']at Q;have hgV:∀q,q<j*d->V 0 g q:=ψ
   have D:bw (λb o=>∃i,V i b o) w w':=Q.keep.up ψ;have e4:(n - 1)*d+d=n*d:=by rw[show(n - 1)*d+d=(n - 1+1)*d by rw[Nat.add_mul,Nat.one_mul]];congr 1;omega
   have E:∀q,q<j*d->∃z,cel w' g q=some z/\z.oneCell'=true:=λq B=>by
    by_cases h1:q<i*d
    ·grind [kL.lo]
    by_cases h2:q<(n - 1)*d
    ·rw[Q.mid q ω h2];grind
    grind [kL.hi,bw.cel,kL.keep]
   have L:cK w' NO (V 0) [oE (dele rows i)] (λ_=>.slice (some ⟨g,0,none⟩) (n - 1) j):=by
    refine row1 ?_;by_cases hz:dele rows i=[]
    ·rw[hz]
     have hn0:n - 1=0:=ψ
     rw[hn0];exact .S _ g 0 d 0 j [] (λ_=>undef) rfl ψ (Z0 _) ω ψ
    rw[oM hz];have F:0<n - 1:=ψ
    obtain⟨σ,hσ⟩ : ∃σ:Nat->Nat,∀q,σ q=if q<i*d then q else q+d:=⟨_,λ_=>rfl⟩
    have s1:∀q,q<(n - 1)*d->σ q<n*d:=ψ
    have s2:∀q q',q≠q'->σ q≠σ q':=ψ
    have s3:∀q,q<(n - 1)*d->cel w' g q=cel w g (σ q):=λq B=>by grind [kL.lo,kL.mid]
    refine .own _ .own g d (n - 1) j _ (λq=>(cel w' g q).getD undef) (λq=>f' (σ q)) trivial (by rw[G];omega) (λr hr=>A r ((eS ..).subset hr)) ω F (λq B=>⟨hgV q B,E q B,(Q.fro g q).trans (hF q B).2.2⟩) (λq B=>?_) ψ ψ (λa b r c M hb=>?_)
    ·grind
    have hbk:b<d:=by grind [eS]
    have hal:=(O3.1 M).1;rw[G]at hal;have hflat:a*d+b<(n - 1)*d:=dR ω hbk;obtain⟨N,h5,h6⟩ : ∃N,rows[N]? = some r/\σ (a*d+b)=N*d+b:=by
     rw[hσ];unfold dele at M;by_cases h1:a<i
     ·grind [O2,dR]
     rw[S6 ψ,O2,List.getElem?_drop]at M;rw[show i+1+(a - min i rows.length)=a+1 by omega]at M;have:i*d<=a*d:=Z9 _ ω;refine⟨a+1,M,?_⟩;rw[CC ω,Nat.add_mul,Nat.one_mul];omega
    have h7:=hc N b r c h5 hb;have O:=rX hn A h5 hb;have hfl:=dR O.1 O.2;have h8:(cel w' g (a*d+b)).getD undef=u (N*d+b):=ψ
    show dK w' NO (f' (σ (a*d+b))) c ((cel w' g (a*d+b)).getD undef);rw[h8,h6];refine h7.keep (λ_ _ h=>h.elim) λb' o' hb'=>?_
    grind [bw.cel,kL.keep,kL.fro]
   exact⟨_,he,D,V 0,λ_=>NO,NO,ψ,λ_ _ _ h=>h.elim,λ_ _ h=>h.elim,λ_ _ _ _ _ h=>h.elim,λ_ _ _ _ h=>h.elim,λ_ _ _ h=>h.elim,λ_ _ _ h=>h.elim,rfl,L,⟨⟨rfl,λ_=>.slice (some ⟨g,0,none⟩) n j,rfl,row1 (.x _ _ rfl)⟩,trivial,trivial,trivial⟩⟩
  | _=>cases H
set_option maxRecDepth 100000
theorem tp{cap k:Nat}(d:news.length=(n - (i+1))*k)(a:n<=cap)(b:i<n)(h:∀t u,news[t]? = some u->cel w g ((i+1)*k+t)=some u):∃A:Addr,(if cap=i+1 then some (⟨g,0,none⟩ : Addr) else some ⟨g,(i+1)*k,none⟩)=some A/\∀t u,news[t]? = some u->w.drew.cell? (A.add t)=some u:=by
 by_cases e:cap=i+1
 ·simp_all
 refine⟨⟨g,(i+1)*k,none⟩,by simp[e],λt u c=>?_⟩;rw[Addr.add_lit];exact h t u c
def P1:∀w,(zeroValue 74).run Tryz.prog w=.ok (.agg #[.int .i64 0,.int .i64 0,.int .i64 0,.int .i64 0]) w:=λ_=>by kernel_rfl
theorem Jx:vd Tryz.prog 99 4:=by
 refine⟨⟨_,Tryz.func99,by kernel_rfl,by kernel_rfl⟩,λw g n c i news p r l y B b=>?_⟩;obtain⟨A,T,a⟩:=tp l r p y;have a:Hid (∀t u,news[t]? = some u->w.drew.cell? (A.add t)=some u):=a;have Q:Hid (news.length=(n - (i+1))*4):=l;have U:Hid (∀u∈news,u.oneCell'=true):=B;have V:Hid (∀t,t<news.length->(w.drew.cell? ⟨g,0+i*4+t,none⟩).isSome=true/\w.drew.frozen? ⟨g,0+i*4+t,none⟩ = false):=λt ht=>by
  rw[W9];exact b (i*4+t) ω
 obtain⟨o,d⟩ : ∃o,o=w.drew.setCells g (0+i*4) news:=⟨_,rfl⟩
 have W:∀q,q<n*4->(o.cell? ⟨g,q,none⟩).isSome=true/\o.frozen? ⟨g,q,none⟩ = false:=λq R=>by
  have C:∀j,j<news.length->∃z,cel w.drew g (0+i*4+j)=some z:=λj X=>by
   have:=(b (0+i*4+j) ω).1;exact Option.isSome_iff_exists.1 this
  refine⟨?_,by rw[d];exact(C1 Prod.fst (bM g _ news w.drew g q)).trans (b q R).2⟩;rw[d];by_cases h:0+i*4<=q/\q<0+i*4+news.length
  ·have:=bo C (I3 (show q - (0+i*4)<news.length by omega))
   grind
  show(cel _ g q).isSome=true;rw[aW (λx=>h x.2)];exact(b q R).1
 obtain⟨zs,D,E,F⟩:=tG (P:=Tryz.prog) o 39 74 4 (.agg #[.int .i64 0,.int .i64 0,.int .i64 0,.int .i64 0]) Tryz.underlying39 P1 rfl (by intro v S;simp[Value.cells]at S;subst S;rfl) g ((i+(n - (i+1)))*4) (n - (i+(n - (i+1)))) ω (by decide) ψ ψ;have G:Hid (zs.length=(n - (i+(n - (i+1))))*4):=D;have H:Hid (∀v∈zs,v.oneCell'=true):=E;have Y:Hid (o=w.drew.setCells g (0+i*4) news):=d;have Z:i<=c:=ω
 have K:i+1<=c:=ω
 have L:¬i=i+1:=ω
 have M:i+1<=n:=p;have k:n - 1=i+(n - (i+1)):=ω
 clear d W b y B l D E;rw[k];generalize X:i+1=j at T a Q F G K L M k |-;obtain⟨J,N,O⟩ : ∃J,Tryz.prog.info? 74=some J/\J.size=4:=by
  have h:=(mF 74 _ rfl).1;cases e : Tryz.prog.info? 74 with
  | none=>grind
  | some x=>rw[e]at h;simp only[O7,I1,Prod.mk.injEq]at h;exact⟨x,rfl,h.2.1⟩
 have mixed : Tryz.prog.follows .mixedOrders=true:=by kernel_rfl
 go_enter Tryz.func99,Tryz.ntmps99
 go_wp2_with fail
 go_region_law_o (refine step_append_room rfl (.tmp 22) (.tmp 25) 39 rfl 74 J 4 Tryz.underlying39 N O g 0 i c (by simp[Act.eval,Act.put]) A (n - j) (c - j) news (by simp[Act.eval,Act.put]) Q.out a.out U.out ω V.out ?_;rw[<-Y.out])
 go_wp2
 go_ret
 refine⟨rfl,zs,by grind [Go.RowKit.Hid.out],H.out,?_⟩
 grind [Go.RowKit.Hid.out]
theorem zg(xs:List aU)(i:Nat)(a:i<xs.length):zzB 99 false [.mut none [.s .own (xs.map (aU.enc .own))],.val none [I (i:Nat)],.val none [I ((i+1:Nat):Int)]] [.mut none [.x],.val none [I (i:Nat)],.val none [I ((i+1:Nat):Int)]] .one [oE ((dele xs i).map (aU.enc .own))]:=by
 have h:=xQ Jx (rows:=xs.map (aU.enc .own)) (i:=i) ψ (aS λ_=>rfl) (bc _ _ λx _=>aU.enc_fr x)
 grind [Y5,Z5,dele]
def KH:∀w,(zeroValue 175).run Tryz.prog w=.ok (.agg #[.int .i64 0,.int .i64 0,.int .i64 0]) w:=λ_=>by kernel_rfl
theorem D3:vd Tryz.prog 102 3:=by
 refine⟨⟨_,Tryz.func102,by kernel_rfl,by kernel_rfl⟩,λw g n c i news p r l y B b=>?_⟩;obtain⟨A,T,a⟩:=tp l r p y;have a:Hid (∀t u,news[t]? = some u->w.drew.cell? (A.add t)=some u):=a;have Q:Hid (news.length=(n - (i+1))*3):=l;have U:Hid (∀u∈news,u.oneCell'=true):=B;have V:Hid (∀t,t<news.length->(w.drew.cell? ⟨g,0+i*3+t,none⟩).isSome=true/\w.drew.frozen? ⟨g,0+i*3+t,none⟩ = false):=λt ht=>by
  rw[W9];exact b (i*3+t) ω
 obtain⟨o,d⟩ : ∃o,o=w.drew.setCells g (0+i*3) news:=⟨_,rfl⟩
 have W:∀q,q<n*3->(o.cell? ⟨g,q,none⟩).isSome=true/\o.frozen? ⟨g,q,none⟩ = false:=λq R=>by
  have C:∀j,j<news.length->∃z,cel w.drew g (0+i*3+j)=some z:=λj X=>by
   have:=(b (0+i*3+j) ω).1;exact Option.isSome_iff_exists.1 this
  refine⟨?_,by rw[d];exact(C1 Prod.fst (bM g _ news w.drew g q)).trans (b q R).2⟩;rw[d];by_cases h:0+i*3<=q/\q<0+i*3+news.length
  ·have:=bo C (I3 (show q - (0+i*3)<news.length by omega))
   grind
  show(cel _ g q).isSome=true;rw[aW (λx=>h x.2)];exact(b q R).1
 obtain⟨zs,D,E,F⟩:=tG (P:=Tryz.prog) o 38 175 3 (.agg #[.int .i64 0,.int .i64 0,.int .i64 0]) Tryz.underlying38 KH rfl (by intro v S;simp[Value.cells]at S;subst S;rfl) g ((i+(n - (i+1)))*3) (n - (i+(n - (i+1)))) ω (by decide) ψ ψ;have G:Hid (zs.length=(n - (i+(n - (i+1))))*3):=D;have H:Hid (∀v∈zs,v.oneCell'=true):=E;have Y:Hid (o=w.drew.setCells g (0+i*3) news):=d;have Z:i<=c:=ω
 have K:i+1<=c:=ω
 have L:¬i=i+1:=ω
 have M:i+1<=n:=p;have k:n - 1=i+(n - (i+1)):=ω
 clear d W b y B l D E;rw[k];generalize X:i+1=j at T a Q F G K L M k |-;obtain⟨J,N,O⟩ : ∃J,Tryz.prog.info? 175=some J/\J.size=3:=by
  have h:=(mF 175 _ rfl).1;cases e : Tryz.prog.info? 175 with
  | none=>grind
  | some x=>rw[e]at h;simp only[O7,I1,Prod.mk.injEq]at h;exact⟨x,rfl,h.2.1⟩
 have mixed : Tryz.prog.follows .mixedOrders=true:=by kernel_rfl
 go_enter Tryz.func102,Tryz.ntmps102
 go_wp2_with fail
 go_region_law_o (refine step_append_room rfl (.tmp 22) (.tmp 25) 38 rfl 175 J 3 Tryz.underlying38 N O g 0 i c (by simp[Act.eval,Act.put]) A (n - j) (c - j) news (by simp[Act.eval,Act.put]) Q.out a.out U.out ω V.out ?_;rw[<-Y.out])
 go_wp2
 go_ret
 refine⟨rfl,zs,by grind [Go.RowKit.Hid.out],H.out,?_⟩
 grind [Go.RowKit.Hid.out]
theorem ug(xs:List aB)(i:Nat)(a:i<xs.length):zzB 102 false [.mut none [.s .own (xs.map (aB.enc .own))],.val none [I (i:Nat)],.val none [I ((i+1:Nat):Int)]] [.mut none [.x],.val none [I (i:Nat)],.val none [I ((i+1:Nat):Int)]] .one [oE ((dele xs i).map (aB.enc .own))]:=by
 have h:=xQ D3 (rows:=xs.map (aB.enc .own)) (i:=i) ψ (aS λ_=>rfl) (bc _ _ λx _=>aB.enc_fr x)
 grind [Y5,Z5,dele]
def N0:∀w,(zeroValue 267).run Tryz.prog w=.ok (.agg #[.int .i64 0,.int .i64 0,.int .i64 0]) w:=λ_=>by kernel_rfl
theorem FP:vd Tryz.prog 492 3:=by
 refine⟨⟨_,Tryz.func492,by kernel_rfl,by kernel_rfl⟩,λw g n c i news p r l y B b=>?_⟩;obtain⟨A,T,a⟩:=tp l r p y;have a:Hid (∀t u,news[t]? = some u->w.drew.cell? (A.add t)=some u):=a;have Q:Hid (news.length=(n - (i+1))*3):=l;have U:Hid (∀u∈news,u.oneCell'=true):=B;have V:Hid (∀t,t<news.length->(w.drew.cell? ⟨g,0+i*3+t,none⟩).isSome=true/\w.drew.frozen? ⟨g,0+i*3+t,none⟩ = false):=λt ht=>by
  rw[W9];exact b (i*3+t) ω
 obtain⟨o,d⟩ : ∃o,o=w.drew.setCells g (0+i*3) news:=⟨_,rfl⟩
 have W:∀q,q<n*3->(o.cell? ⟨g,q,none⟩).isSome=true/\o.frozen? ⟨g,q,none⟩ = false:=λq R=>by
  have C:∀j,j<news.length->∃z,cel w.drew g (0+i*3+j)=some z:=λj X=>by
   have:=(b (0+i*3+j) ω).1;exact Option.isSome_iff_exists.1 this
  refine⟨?_,by rw[d];exact(C1 Prod.fst (bM g _ news w.drew g q)).trans (b q R).2⟩;rw[d];by_cases h:0+i*3<=q/\q<0+i*3+news.length
  ·have:=bo C (I3 (show q - (0+i*3)<news.length by omega))
   grind
  show(cel _ g q).isSome=true;rw[aW (λx=>h x.2)];exact(b q R).1
 obtain⟨zs,D,E,F⟩:=tG (P:=Tryz.prog) o 37 267 3 (.agg #[.int .i64 0,.int .i64 0,.int .i64 0]) Tryz.underlying37 N0 rfl (by intro v S;simp[Value.cells]at S;subst S;rfl) g ((i+(n - (i+1)))*3) (n - (i+(n - (i+1)))) ω (by decide) ψ ψ;have G:Hid (zs.length=(n - (i+(n - (i+1))))*3):=D;have H:Hid (∀v∈zs,v.oneCell'=true):=E;have Y:Hid (o=w.drew.setCells g (0+i*3) news):=d;have Z:i<=c:=ω
 have K:i+1<=c:=ω
 have L:¬i=i+1:=ω
 have M:i+1<=n:=p;have k:n - 1=i+(n - (i+1)):=ω
 clear d W b y B l D E;rw[k];generalize X:i+1=j at T a Q F G K L M k |-;obtain⟨J,N,O⟩ : ∃J,Tryz.prog.info? 267=some J/\J.size=3:=by
  have h:=(mF 267 _ rfl).1;cases e : Tryz.prog.info? 267 with
  | none=>grind
  | some x=>rw[e]at h;simp only[O7,I1,Prod.mk.injEq]at h;exact⟨x,rfl,h.2.1⟩
 have mixed : Tryz.prog.follows .mixedOrders=true:=by kernel_rfl
 go_enter Tryz.func492,Tryz.ntmps492
 go_wp2_with fail
 go_region_law_o (refine step_append_room rfl (.tmp 22) (.tmp 25) 37 rfl 267 J 3 Tryz.underlying37 N O g 0 i c (by simp[Act.eval,Act.put]) A (n - j) (c - j) news (by simp[Act.eval,Act.put]) Q.out a.out U.out ω V.out ?_;rw[<-Y.out])
 go_wp2
 go_ret
 refine⟨rfl,zs,by grind [Go.RowKit.Hid.out],H.out,?_⟩
 grind [Go.RowKit.Hid.out]
theorem Jc(xs:List aA)(i:Nat)(a:i<xs.length):zzB 492 false [.mut none [.s .own (xs.map (aA.enc .own))],.val none [I (i:Nat)],.val none [I ((i+1:Nat):Int)]] [.mut none [.x],.val none [I (i:Nat)],.val none [I ((i+1:Nat):Int)]] .one [oE ((dele xs i).map (aA.enc .own))]:=by
 have h:=xQ FP (rows:=xs.map (aA.enc .own)) (i:=i) ψ (aS λ_=>rfl) (bc _ _ λx _=>aA.enc_fr x)
 grind [Y5,Z5,dele]
theorem AH(c:aE)(k:Nat)(a:Int)(g:bI c=true)(y:k<=3):zzA 257 false [.val (some 1) (aE.enc .S c),.val none [I (k:Nat)],.val none [I a]] (.tup [some 1,none]) (LI c k a):=by
 obtain⟨B,q⟩:=eN g;have r:aE.sml c:=⟨ω,λl u=>by have:=q l u;show l.length<=1048576;omega⟩
 have h:=se c k r;rw[g,O0 ω]at h;have t:=gN c r;have j:=Pq g k a;have n:=oG (oW c k a) j;have b:=qv (c:=c) (k:=k) ω;have w:=q _ (au (xs:=c.a) (i:=k) ω);have o:=Cb (oW c k a);rw[FU]at o;have d:=P6 c k a;unfold LI at d |-;cases e:bI (oW c k a)<;>rw[e]at n
 ·have p:cput c k a=none:=by grind [cput]
  rw[p]at d |-;refine fO 35 [(4,267,[17,18,19,20,21,22,23,24,25,26,28,0,1,2,3,4,5,6,7,8,9,10,1000,1001,1002,11,12])] Tryz.func257 rfl ?_ (.inr d)
  repeat'(first|refine gP ?_|(conv=>whnf);first|with_reducible refine CF (aa b) ?_|refine CE ?_|refine CF (fD b) ?_|refine CJ rfl (fD b) rfl ?_|refine CB (h) ?_|refine CB (t) ?_|refine Lq.one rfl rfl (aa b) rfl (Z1 rfl) rfl rfl ?_|refine CJ rfl (aa b) rfl ?_|refine CR rfl rfl (fD b) rfl (Z1 rfl) (show [C.s dQ.own ((c.a.map (aJ .own)).set k (aJ .own (nth c.a k++[a])))]=_ from by simp only[List.set_cons_zero,List.set_set,Z3];rfl) ?_|refine Ap.sm (aS λ_=>rfl) rfl (by simp;omega) (by decide) (gH _ _ _) ?_|refine CN (n) ⟨⟨rfl,o⟩,trivial⟩ ?_)
  rfl
 have p:cput c k a=some (oW c k a):=by grind [cput]
 rw[p]at d |-;rw[show(some (oW c k a)).getD c=oW c k a from rfl,FU]at d |-;refine fO 35 [(4,267,[17,18,19,20,21,22,23,24,25,26,28,0,1,2,3,4,5,6,7,8,9,10,1000,1001,1002,11,12])] Tryz.func257 rfl ?_ (.inr d)
 repeat'(first|refine gP ?_|(conv=>whnf);first|with_reducible refine CF (aa b) ?_|refine CE ?_|refine CF (fD b) ?_|refine CJ rfl (fD b) rfl ?_|refine CB (h) ?_|refine CB (t) ?_|refine Lq.one rfl rfl (aa b) rfl (Z1 rfl) rfl rfl ?_|refine CJ rfl (aa b) rfl ?_|refine CR rfl rfl (fD b) rfl (Z1 rfl) (show [C.s dQ.own ((c.a.map (aJ .own)).set k (aJ .own (nth c.a k++[a])))]=_ from by simp only[List.set_cons_zero,List.set_set,Z3];rfl) ?_|refine Ap.sm (aS λ_=>rfl) rfl (by simp;omega) (by decide) (gH _ _ _) ?_|refine CN (n) ⟨⟨rfl,o⟩,trivial⟩ ?_)
 rfl
theorem Ke(c:Nat)(W:World):Calls Tryz.prog 256 #[.slice none 0 c] W λe w'=>∃B q g,e=.returned (.slice B 0 0)/\w'=Sort.grow (W.drewN q) g:=by
 have q22:∀(w:World)(a:Option Addr)(n c b d:Nat),(binOp .eql 44 (.slice a n c) (.slice none b d)).run Tryz.prog w=.ok (.bool a.isNone) w:=λw a n c b d=>Lib.run_eql_slice_nil w _ _ a n c b d Tryz.underlying44
 go_enter Tryz.func256,Tryz.ntmps256
 go_wp2
 go_ret
 exact⟨none,0,#[],rfl,by simp[Sort.grow,World.drewN]⟩
theorem H6(a:Addr)(c:Nat)(W:World):Calls Tryz.prog 256 #[.slice (some a) 0 c] W λe w'=>∃B q g,e=.returned (.slice B 0 0)/\w'=Sort.grow (W.drewN q) g:=by
 have q22:∀(w:World)(a:Option Addr)(n c b d:Nat),(binOp .eql 44 (.slice a n c) (.slice none b d)).run Tryz.prog w=.ok (.bool a.isNone) w:=λw a n c b d=>Lib.run_eql_slice_nil w _ _ a n c b d Tryz.underlying44
 go_enter Tryz.func256,Tryz.ntmps256
 go_wp2
 go_ret
 exact⟨some ⟨W.heap.size,0,none⟩,0,#[.cells #[] 190],rfl,by rw[Sort.alloc_eq_grow];rfl⟩
theorem l8(xs:List aO)(n:xs.length<=1048576):zzA 256 false [.val none (dX .S xs)] .one (dX .own xs):=by
 by_cases c:xs=[]
 ·subst c
  refine⟨⟨_,Tryz.func256,by kernel_rfl,by kernel_rfl⟩,λw S o r d=>?_⟩
  match o,d with
  | [v],⟨d,_⟩=>
   have b:=br.rep1 (show br w S NO none [C.s .S []] v from d);obtain⟨l,g,rfl⟩:=b.slice;have p:Calls Tryz.prog 256 #[.slice l 0 g] w λe w'=>∃B q i,e=.returned (.slice B 0 0)/\w'=Sort.grow (w.drewN q) i:=by
    cases l with
    | none=>grind [Ke]
    | some a=>grind [H6]
   refine p.mono λe w' ⟨B,q,i,c,j⟩=>?_
   subst j;exact⟨.slice B 0 0,c,zt w q i,NO,NO,λ_ _ h=>h.elim,λ_ _ h=>h.elim,λ_ _ h=>h.elim,rfl,row1 (.nil _ .own B trivial)⟩
 have k:xs.map (aO.enc .S)≠[]:=by simp_all
 refine fO 8 [] Tryz.func256 rfl ?_ (.inr (pW _))
 repeat'(first|refine gP ?_|(conv=>whnf);first|refine CE ?_|refine Nn.mk k ?_|refine CV (λ_=>rfl) (λ_=>rfl) n (by decide) ?_)
 rfl
theorem EH(q:bD)(a:aO)(u:q.a5.length<=4096)(g:gS q=true)(w:0<=a.d/\a.d<=3/\0<=a.Addr/\0<=a.b5)(B:∀y∈q.a5,y.b5<=a.b5)(C:∀y∈q.a5,y.Addr≠a.Addr) :
  zzA 108 false [.val (some 2) (bD.enc .S q),.val (some 3) (aO.enc .S a)] (.tup [some 2,none]) (UJ q a):=by
 have b:bD.sml q:=⟨ω,λ_ _=>trivial⟩
 have l:=mY q b;have h:=pi q b;rw[g]at h;have i:=uj q.a5 a ω;have D:q.a5.length=0\/(nth q.a5 (q.a5.length - 1)).b5<=a.b5:=by grind [au]
 have d:mK q.a5 a=true:=by grind [mK,fp]
 rw[d]at i;have n:=(k6.1 g).2.2.2;have e:=TH q a;have c:=Hg q.b7 (q.a5++[a]);simp only[X4,List.length_singleton]at c;have E:(q.a5++[a]).length=q.a5.length+1:=by simp
 refine fO 51 [(6,7,[28,29,30,31,32,33,34])] Tryz.func108 rfl ?_ (.inr e)
 repeat'(first|refine gP ?_|(conv=>whnf);first|refine CE ?_|refine CB (l) ?_|refine CB (h) ?_|refine CB (i) ?_|refine Ap.sm (aS λ_=>rfl) rfl (by simp;omega) (by decide) (gH (aO.enc .own) q.a5 a) ?_)
 (conv=>whnf)
 refine Lp.fz 6 (ι:=Nat) (λk=>[(2,.H .box (bD.enc .S q)),(4,.H .box [I 0,.z]),(6,.H .box (bD.enc .S ⟨q.b7,q.a5++[a]⟩)),(7,.H .one [I (k:Nat)])]) (λk=>k<=m9 q.b7 (q.a5++[a])) (λk=>m9 q.b7 (q.a5++[a]) - k) 0 ?_ (Z0 _) λk F=>?_
 ·(repeat'(first|exact trivial|rfl|exact CL rfl (show RK (ed (bD.enc .own ⟨q.b7,q.a5++[a]⟩)) (bD.enc .S ⟨q.b7,q.a5++[a]⟩) by rw[bD.enc_fz];exact nB _)|refine CL ?_ ?_))
 have o:((q.a5++[a]).drop k).length<=5000:=ψ
 have p:((q.a5++[a]).take k).length<=5000:=ψ
 have j:=pu ((q.a5++[a]).drop k) ⟨ω,λ_ _=>trivial⟩;by_cases r:k<m9 q.b7 (q.a5++[a])
 ·have t:q.b7<quarCells ((q.a5++[a]).drop k) ((q.a5++[a]).drop k).length:=BM r
  repeat'(first|refine gE ?_|(conv=>whnf);first|refine CE ?_|refine Sl.suf k rfl (by rw[O1];show k<=(q.a5++[a]).length;omega) (aS λ_=>rfl) Z5 ?_|refine CB (j) ?_|refine CE ?_)
  ((conv=>whnf);refine CG (k+1) ω ω ?_;(exact wB))
 obtain rfl:k=m9 q.b7 (q.a5++[a]):=ω
 have t:quarCells ((q.a5++[a]).drop (m9 q.b7 (q.a5++[a]))) ((q.a5++[a]).drop (m9 q.b7 (q.a5++[a]))).length<=q.b7:=EL n.1 _
 repeat'(first|refine gE ?_|(conv=>whnf);first|refine CE ?_|refine Sl.suf (m9 q.b7 (q.a5++[a])) rfl (by rw[O1];show m9 q.b7 (q.a5++[a])<=(q.a5++[a]).length;omega) (aS λ_=>rfl) Z5 ?_|refine Sl.pre (m9 q.b7 (q.a5++[a])) rfl (by rw[O1];show m9 q.b7 (q.a5++[a])<=(q.a5++[a]).length;omega) (aS λ_=>rfl) Y5 ?_|refine CB (j) ?_|refine CB (l8 ((q.a5++[a]).take (m9 q.b7 (q.a5++[a]))) ω) ?_|refine CB (l8 ((q.a5++[a]).drop (m9 q.b7 (q.a5++[a]))) ω) ?_)
 rfl
def B4(h:ac)(p:Int):zzA 187 false [.val (some 24) (ac.enc .S h),.val none [I p]] .one [B (fe h p)]:=by
 cases e:h.k
 all_goals
  have b:ac.enc .S h=(ac.enc .S h).set 18 (B h.k):=rfl;rw[e]at b;rw[b];refine fO 23 [] Tryz.func187 rfl ?_
  repeat'(first|refine gP ?_|(conv=>whnf);first|with_reducible (first|refine Bf.D (λa=>?_) (λa=>?_)|refine Bf.E (λa=>?_) (λa=>?_)|refine Bf.N (λa=>?_) (λa=>?_))|refine CE ?_)
  all_goals exact C1 (λz=>[B z]) ((by unfold fe;rw[e];first|(simp[*];done)|(simp[*];rw[Y6];simp;try omega)|(rw[Y6];simp[*];try omega)))
def tW(h:ac):zzA 71 false [.val (some 24) (ac.enc .S h)] .one [I (gY h:Nat)]:=by
 refine fO 9 [] Tryz.func71 rfl ?_
 repeat'(first|refine gP ?_|(conv=>whnf);first|refine CE ?_)
 rfl
theorem eK(c:C):Tb c c:=(nB [c]).1
def cE(h:ac)(s l o:C):List C:=[.s .own (h.G.F.X.V.map (aJ .own)),.s .own (h.G.F.X.a4.map (rB .own)),.s .own (h.G.F.Q.J.map (bm.enc .own)),I h.G.Calls,.s .own (h.G.w.map (rI .own)),.s .own (h.o.map (aC.enc .own)),s,l,o,.s .own (h.T.map (aE.enc .own)),.s .own (h.a1.U.map (bO .own)),.s .own (h.a1.u.map (aJ .own)),I h.a7.b7,.s .own (h.a7.a5.map (aO.enc .own)),I h.b3,I h.b1,I h.c0,I h.b,B h.k,I h.Y.W.a3,I h.Y.W.a0,.s .own (h.Y.W.V.map (rI .own)),I h.Y.a9,I h.Y.b]
def oS(h:ac):C:=oE (h.K.map (aA.enc .own))
def oL(h:ac):C:=oE (h.M.map (aB.enc .own))
def oO(h:ac):C:=oE (h.O.map (aU.enc .own))
def cV(h:ac):List C:=cE h (oS h) (oL h) (oO h)
def GV(rows:List (List C)):fz (oE rows)=fz (.s .own rows):=by cases rows<;>rfl
def pZ : oE rows=.s .own rows\/(rows=[]/\oE rows=.s .S []):=by cases rows with|nil=>exact .inr ⟨rfl,rfl⟩|cons=>exact .inl rfl
def VI(h:ac){s l o:C}(a:fz s=.s .S (h.K.map (aA.enc .S)))(b:fz l=.s .S (h.M.map (aB.enc .S)))(c:fz o=.s .S (h.O.map (aU.enc .S))):ed (cE h s l o)=ac.enc .S h:=by
 have d:=ac.enc_fz h;have e:ed (cE h s l o)=(((ed (ac.enc .own h)).set 6 (fz s)).set 7 (fz l)).set 8 (fz o):=rfl;rw[e,d,a,b,c];rfl
def Vw(h:ac):fz (oS h)=.s .S (h.K.map (aA.enc .S)):=(GV _).trans (GJ _)
def Um(h:ac):fz (oL h)=.s .S (h.M.map (aB.enc .S)):=(GV _).trans (Nh _)
def VE(h:ac):fz (oO h)=.s .S (h.O.map (aU.enc .S)):=(GV _).trans (Tg _)
def Fo(h:ac):ed (cV h)=ac.enc .S h:=VI h (Vw h) (Um h) (VE h)
def EX(h:R9 rows):U0 (oE rows):=by cases rows with|nil=>exact⟨.inr rfl,trivial⟩|cons r a=>exact⟨.inl λe=>(by cases e),h⟩
def bT(h:ac):iq (cV h):=by
 have a:=ac.enc_fr h;simp only[ac.enc,iq]at a;unfold cV cE;simp only[iq];refine⟨a.1,a.2.1,a.2.2.1,a.2.2.2.1,a.2.2.2.2.1,a.2.2.2.2.2.1,EX ?_,EX ?_,EX ?_,a.2.2.2.2.2.2.2.2.2⟩
 ·exact a.2.2.2.2.2.2.1.2
 ·exact a.2.2.2.2.2.2.2.1.2
 exact a.2.2.2.2.2.2.2.2.1.2
def rz{S Y:ah}{v:Value}(h:dK w S Y (.s .own rows) v):dK w S Y (oE rows) v:=by
 cases rows with
 | cons=>exact h
 | nil=>
  cases h with
  | nil _ o a d=>exact .nil _ .S a trivial
  | own _ o g k n e rows u f d i j b c l p q r t=>simp at i;omega
theorem Qj{S Y:ah}{u:Nat->Value}(b:cK w S Y (ac.enc .own h) u):cK w S Y (cV h) u:=by
 obtain⟨f,a,d,e⟩:=b;refine⟨f,λj c g=>?_,d,e⟩;have i:cV h=(((ac.enc .own h).set 6 (oS h)).set 7 (oL h)).set 8 (oO h):=rfl;rw[i]at g;by_cases k:j=8
 ·subst k
  have:c=oO h:=ψ
  rw[this];exact rz (a 8 _ rfl)
 by_cases l:j=7
 ·subst l
  have:c=oL h:=ψ
  rw[this];exact rz (a 7 _ rfl)
 by_cases n:j=6
 ·subst n
  have:c=oS h:=ψ
  rw[this];exact rz (a 6 _ rfl)
 grind
def dw(h:ac)(a:ac.sml h):zzA 62 false [.val (some 24) (ac.enc .S h)] .agg (cV h):=by
 obtain⟨b,c⟩:=i7 h a;refine⟨b,λw S d g i=>(c w S d g i).mono λe w1 j=>?_⟩;obtain⟨v,k,l,X,S1,n,o,p,q,r⟩:=j;exact⟨v,k,l,X,S1,n,o,p,q,Qj r⟩
def Nc(h:ac)(s l o:C)(a:Int)(k:Nat)(v:Int)(b:0<=a):cE {h with G:=fA h.G a (k+1)} s l o=(cE {h with G:=fA h.G a k} s l o).set 0 (.s .own (((fA h.G a k).F.X.V.map (aJ .own)).set (af h.G.F.Q (a / 16)).j.toNat ((aJ .own (lT (nth h.G.F.X.V (dG h.G a)) (a % 16).toNat k)).set 0 (.s .own (((lT (nth h.G.F.X.V (dG h.G a)) (a % 16).toNat k).map (rI .own)).set (a % 16+k).toNat (splice (rI .own v) 0 [I 0])))))):=by
 have e:(a % 16+k).toNat=(a % 16).toNat+k:=ω
 rw[e];simp[cE,fA,X8,lT,aJ,splice,dG]
 rfl
theorem lh(h:ac)(s l o:C)(a:Int)(n:Nat)(p:aF h.G=true)(e:0<=a/\a<512)(r:0<=(af h.G.F.Q (a / 16)).j/\(af h.G.F.Q (a / 16)).j<h.G.F.X.V.length)(w:a % 16+n<=16)(y:(nth h.G.F.X.V (dG h.G a)).length=16) :
  zzB 105 false [.ptr (cE h s l o),.val none [I a],.val none [I (n:Nat)]] [.ptr (cE {h with G:=fA h.G a n} s l o),.val none [I a],.val none [I (n:Nat)]] (.tup []) []:=by
 have g:=bX p;have t:=cz h.G.F.Q (a / 16) g.1.2;have c:dG h.G a<h.G.F.X.V.length:=by unfold dG;omega
 refine fM 36 [] [] [(0,0),(0,0),(0,0)] Tryz.func105 rfl (λu q=>?_) (.inr trivial)
 repeat'(first|refine gP ?_|(conv=>whnf);first|refine CE ?_|refine CQ (by decide) ?_|refine CM (xJ e) ?_|refine CN (t) ⟨⟨rfl,aL.enc_fz _⟩,⟨rfl,rfl⟩,trivial⟩ ?_)
 rw[show cE h s l o=cE {h with G:=fA h.G a 0} s l o by rw[Ts h a c]]
 (conv=>whnf)
 refine CH (ι:=Nat) (λk=>[(0,.H .box (cE {h with G:=fA h.G a k} s l o)),(1,.H .one [I (a)]),(2,.H .one [I ((n:Nat):Int)]),(6,.H .one [I ((af h.G.F.Q (a / 16)).j)]),(7,.H .one [I ((k:Nat):Int)])]) (λk=>k<=n) (λk=>n - k) (0) ?_ (Z0 _) λk p=>?_
 ·exact wC
 have j:a.tmod 16=a % 16:=fV e.1;have b:(fA h.G a k).F.X.V[(af h.G.F.Q (a / 16)).j.toNat]? = some (lT (nth h.G.F.X.V (dG h.G a)) (a % 16).toNat k):=C5 c;by_cases B:k<n
 ·have d:=ax (xs:=lT (nth h.G.F.X.V (dG h.G a)) (a % 16).toNat k) (i:=(a % 16+k).toNat) (by grind [qt])
  repeat'(first|refine gE ?_|(conv=>whnf);first|refine CE ?_|refine CQ (by decide) ?_|refine CS j ?_|refine CP r.1 (aa b) ?_|refine CJ rfl (aa b) rfl ?_|refine CP ω (aa d) ?_|refine Pu.two rfl rfl (aa b) rfl rfl rfl (aa d) rfl (O4 _) (Nc h s l o a k _ e.1) ?_)
  ((conv=>whnf);refine CG (k+1) ω ω ?_;(exact wC))
 obtain rfl:k=n:=ω
 repeat'(first|refine gE ?_|(conv=>whnf);first|refine CE ?_)
 refine CO rfl rfl ?_;exact wC
theorem jj(h:ac)(r:aC)(n:Nat)(a:aF h.G=true)(j:h.G.Calls≠100000)(b:h.o.length<=1048576)(l:r.a6=n/\0<=r.At/\r.At<=1000/\n<=1000) :
  zzB 103 false [.ptr (cV h),.val (some 2) (aC.enc .S r)] [.ptr (cV {h with G:=unmN h.G r.At n,o:=(ch (gY h) h.o r).getD h.o}),.val (some 2) (aC.enc .S r)] (.tup []) []:=by
 have c:=a;have e:gY h<=32:=(bu.1 (aH.1 a).2.2.1).2.2;have d:=tW {h with G:=unmN h.G r.At n};rw[show gY {h with G:=unmN h.G r.At n} = gY h from(f9 _ _ _).1]at d;have g:=zS (gY h:Nat) h.o r ω ⟨b,λ_ _=>trivial⟩;refine fM 44 [] [(5,272,[29,30,31,32,33,34,35,36,37,38,39,28,40,41,42,43,0,1,2,3,4,5,6,7,8,9,10,11,12,13,14,15,16,1013])] [(0,0),(0,0)] Tryz.func103 rfl (λu q=>?_) (.inr trivial)
 repeat'(first|refine gP ?_|(conv=>whnf);first|refine CE ?_)
 (conv=>whnf)
 refine CH (ι:=Nat) (λk=>[(0,.H .box (cV {h with G:=unmN h.G r.At k})),(3,.H .box (aC.enc .S r)),(4,.H .one [I ((r.At+k))])]) (λk=>k<=n) (λk=>n - k) (0) ?_ (Z0 _) λk a=>?_
 ·exact wC
 by_cases o:k<n
 ·have i:=pM (unmN h.G r.At k) (r.At+k) (je c _ _) (by grind [qD])
  repeat'(first|refine gE ?_|(conv=>whnf);first|refine CE ?_|refine CN (i) ⟨⟨rfl,am.enc_fz _⟩,⟨rfl,rfl⟩,trivial⟩ ?_)
  ((conv=>whnf);refine CG (k+1) ω ω ?_;(exact wC))
 obtain rfl:k=n:=ω
 repeat'(first|refine gE ?_|(conv=>whnf);first|refine CE ?_|refine CN (d) ⟨⟨rfl,Fo _⟩,trivial⟩ ?_|refine CN (g) ⟨⟨rfl,rfl⟩,⟨rfl,kG h.o⟩,⟨rfl,rfl⟩,trivial⟩ ?_|refine CE ?_)
 refine CO rfl rfl ?_;exact wC
theorem E4{c a:C}(h:a=c):Tb c a:=by grind [eK]
theorem QI(k:am)(p:Int):unmN k p 1=cy k p:=by show cy k (p+((0:Nat):Int))=_;grind
theorem tz(a:h.K≠[]):cV h=cE h (.s .own (h.K.map (aA.enc .own))) (oL h) (oO h):=by grind [oM,List.map_eq_nil_iff,cV,oS]
def Ut(h:ac):oL h=.s .own (h.M.map (aB.enc .own))\/(h.M=[]/\oL h=.s .S []):=by
 rcases pZ (rows:=h.M.map (aB.enc .own)) with e|⟨a,b⟩
 ·exact .inl e
 exact .inr ⟨List.map_eq_nil_iff.1 a,b⟩
theorem fW{xs:List α}(h:i<xs.length):xs≠[]:=(ψ)
theorem AJ(h:ac)(i:Nat)(j:aF h.G=true)(k:h.G.Calls≠100000)(b:h.o.length<=1048576)(c:i<h.K.length)(l:h.K.length<=1048576)(o:0<=(nth h.K i).R/\(nth h.K i).R<=31) :
  zzB 386 false [.ptr (cV h),.val none [I (i:Nat)]] [.ptr (cV (giveP h i)),.val none [I (i:Nat)]] (.tup []) []:=by
 have d:=ax c;have g:=Jc h.K i c;have a:=jj {h with K:=dele h.K i} ⟨(nth h.K i).R,1⟩ 1 j k b ψ;rw[show unmN ({h with K:=dele h.K i} : ac).G (aC.mk (nth h.K i).R 1).At 1=cy h.G (nth h.K i).R from QI _ _]at a;have n:cV {h with K:=dele h.K i} = cE h (oE ((dele h.K i).map (aA.enc .own))) (oL h) (oO h):=rfl;rw[tz (fW c)];rcases pZ (rows:=(dele h.K i).map (aA.enc .own)) with e|⟨-,e⟩
 all_goals
  rw[n]at a;rw[e]at g a;refine fM 28 [(492,[1,0,0]),(103,[2,0])] [] [(0,0),(0,0)] Tryz.func386 rfl (λu q=>?_) (.inr trivial)
  repeat'(first|refine gP ?_|(conv=>whnf);first|with_reducible refine CF (aa d) ?_|refine CE ?_|refine CJ rfl (aa d) rfl ?_|refine CK (g) (.inl rfl) ?_|refine CK (a) (.inl rfl) ?_)
  refine CO rfl rfl ?_;exact wB
def QC(c:aX h E)(d:i<h.K.length)(b:eH (nth h.K i) a):denotes h.K h.M a = ⟨1,i,cM (nth h.K i) a,0⟩:=by
 rw[iB c.L d ⟨b.1,b.2.1⟩];unfold o8;rw[b.2.2.2,b.2.2.1];rfl
theorem kX(h:ac)(E:List Int)(a:Int)(b:aX h (a::E))(G:h.G.Calls≠100000):zzB 247 false [.ptr (cV h),.val none [I a]] [.ptr (cV (freeA h a)),.val none [I a]] (.tup []) []:=by
 obtain⟨g,t,H⟩:=b.at (b.hin a ψ);have J:=(b.hin a ψ).bd b;have D:=b.lens;have K:=D.spans;have M:=D.larges;unfold freeA;generalize ul h a=i at g t;have l:=b.L.sok _ (au g);have N:=aK l;have c:=ax g;have j:=lA h.K h.M a ⟨ω,λ_ _=>trivial⟩ ⟨ω,λ_ _=>trivial⟩;rw[QC b g t]at j;have w:=A9 (nth h.K i) (cM (nth h.K i) a) l t.2.2.2;have P:=b.give g t;have n:=B4 (clrS h i a) (nth h.K i).R;rw[show fe (clrS h i a) (nth h.K i).R=fe h (nth h.K i).R from rfl]at n;have o:i<(clrS h i a).K.length:=by grind [clrS]
 have y:(nth (clrS h i a).K i).R=(nth h.K i).R:=by unfold clrS;simp only[bz,true_and];rw[CD g];rfl
 have p:=AJ (clrS h i a) i b.ker G (by show h.o.length<=_;grind [uQ.free]) o (by grind [clrS]) (by rw[y];omega);have d:cV (clrS h i a)=cE h (.s .own ((h.K.map (aA.enc .own)).set i (aA.enc .own (kW (nth h.K i) (cM (nth h.K i) a))))) (oL h) (oO h):=by
  rw[tz (fW o)];show cE h (.s .own ((h.K.set i _).map _)) (oL h) (oO h)=_;rw[X8]
 have r:=Fo (clrS h i a);rw[d]at r p;have k:((h.K.map (aA.enc .own)).set i (aA.enc .own (kW (nth h.K i) (cM (nth h.K i) a))))[i]? = some (aA.enc .own (kW (nth h.K i) (cM (nth h.K i) a))):=lH g;rw[tz (fW g)];have B:=Um h;unfold freeS;rcases Ut h with e|⟨C,e⟩
 all_goals
  try rw[C]at j
  rw[e]at p r B d |-;by_cases F:(kW (nth h.K i) (cM (nth h.K i) a)).a8=0
  ·cases O:fe h (nth h.K i).R<;>rw[O]at n
   ·rw[CD ⟨F,rfl⟩]
    refine fM 64 [(386,[2,0])] [(0,11,[6,7,8,9,10,11,12,13,14,15,4]),(2,277,[20,21,22,23,24,25,26,27,28,29,30,31,32,33,34,35,36,19,37,38,39,0,1,2,3,4,5,6,7,8,9,10,11,12,13,14,15,16,17,18,19,20,21,1019]),(3,9,[40,41,42,43,44,45,46,47,5]),(4,9,[48,49,50,51,52,53,54,55,56])] [(0,0),(0,0)] Tryz.func247 rfl (λu q=>?_) (.inr trivial)
    repeat'(first|refine gB ?_|(conv=>whnf);first|refine CE ?_|refine CN (j) ⟨⟨rfl,eJ _⟩,⟨rfl,iT _⟩,⟨rfl,rfl⟩,trivial⟩ ?_|refine CN (j) ⟨⟨rfl,eJ _⟩,⟨rfl,rfl⟩,⟨rfl,rfl⟩,trivial⟩ ?_|refine CF (aa c) ?_|refine CF k ?_|refine CJ rfl (aa c) rfl ?_|refine CJ rfl k rfl ?_|refine CB (w) ?_|refine CE ?_|refine CR rfl rfl (aa c) rfl (Z1 rfl) rfl ?_|refine CN (n) ⟨⟨rfl,r⟩,⟨rfl,rfl⟩,trivial⟩ ?_|refine CK (p) (.inl rfl) ?_)
    refine CO rfl rfl ?_;exact wB
   rw[CC (λx=>by cases x.2),d];refine fM 64 [(386,[2,0])] [(0,11,[6,7,8,9,10,11,12,13,14,15,4]),(2,277,[20,21,22,23,24,25,26,27,28,29,30,31,32,33,34,35,36,19,37,38,39,0,1,2,3,4,5,6,7,8,9,10,11,12,13,14,15,16,17,18,19,20,21,1019]),(3,9,[40,41,42,43,44,45,46,47,5]),(4,9,[48,49,50,51,52,53,54,55,56])] [(0,0),(0,0)] Tryz.func247 rfl (λu q=>?_) (.inr trivial)
   repeat'(first|refine gB ?_|(conv=>whnf);first|refine CE ?_|refine CN (j) ⟨⟨rfl,eJ _⟩,⟨rfl,iT _⟩,⟨rfl,rfl⟩,trivial⟩ ?_|refine CN (j) ⟨⟨rfl,eJ _⟩,⟨rfl,rfl⟩,⟨rfl,rfl⟩,trivial⟩ ?_|refine CF (aa c) ?_|refine CF k ?_|refine CJ rfl (aa c) rfl ?_|refine CJ rfl k rfl ?_|refine CB (w) ?_|refine CE ?_|refine CR rfl rfl (aa c) rfl (Z1 rfl) rfl ?_|refine CN (n) ⟨⟨rfl,r⟩,⟨rfl,rfl⟩,trivial⟩ ?_|refine CK (p) (.inl rfl) ?_)
   refine CO rfl rfl ?_;exact wB
  rw[CC (λx=>F x.1),d];refine fM 64 [(386,[2,0])] [(0,11,[6,7,8,9,10,11,12,13,14,15,4]),(2,277,[20,21,22,23,24,25,26,27,28,29,30,31,32,33,34,35,36,19,37,38,39,0,1,2,3,4,5,6,7,8,9,10,11,12,13,14,15,16,17,18,19,20,21,1019]),(3,9,[40,41,42,43,44,45,46,47,5]),(4,9,[48,49,50,51,52,53,54,55,56])] [(0,0),(0,0)] Tryz.func247 rfl (λu q=>?_) (.inr trivial)
  repeat'(first|refine gB ?_|(conv=>whnf);first|refine CE ?_|refine CN (j) ⟨⟨rfl,eJ _⟩,⟨rfl,iT _⟩,⟨rfl,rfl⟩,trivial⟩ ?_|refine CN (j) ⟨⟨rfl,eJ _⟩,⟨rfl,rfl⟩,⟨rfl,rfl⟩,trivial⟩ ?_|refine CF (aa c) ?_|refine CF k ?_|refine CJ rfl (aa c) rfl ?_|refine CJ rfl k rfl ?_|refine CB (w) ?_|refine CE ?_|refine CR rfl rfl (aa c) rfl (Z1 rfl) rfl ?_|refine CN (n) ⟨⟨rfl,r⟩,⟨rfl,rfl⟩,trivial⟩ ?_|refine CK (p) (.inl rfl) ?_)
  refine CO rfl rfl ?_;exact wB
theorem ua(h:ac)(E:List Int)(t:Nat)(a:Int)(b:aX h (a::E))(y:t<h.T.length)(F:h.G.Calls≠100000):zzB 109 false [.ptr (cV h),.val none [I (t:Nat)],.val none [I a]] [.ptr (cV (recyc t h a)),.val none [I (t:Nat)],.val none [I a]] (.tup []) []:=by
 obtain⟨d,B,G⟩:=b.at (b.hin a ψ);have H:=(b.hin a ψ).bd b;have C:=b.lens;have J:=C.spans;have K:=C.larges;have o:=b.cach _ (au y);have p:=kX h E a b F;unfold recyc;generalize ul h a=i at d B;have r:=aK (b.L.sok _ (au d));have n:=ax d;have k:=ax y;have g:=lA h.K h.M a ⟨ω,λ_ _=>trivial⟩ ⟨ω,λ_ _=>trivial⟩;rw[QC b d B]at g;have j:=AH (nth h.T t) (nth h.K i).d.toNat a o ω;rw[Int.toNat_of_nonneg r.2.2.1]at j;unfold LI at j;have l:∀c,cV {h with T:=h.T.set t c} = (cE h (.s .own (h.K.map (aA.enc .own))) (oL h) (oO h)).set 9 (.s .own ((h.T.map (aE.enc .own)).set t (aE.enc .own c))):=λc=>by
  rw[tz (h:={h with T:=h.T.set t c}) (fW d)];show cE {h with T:=h.T.set t c} _ (oL h) (oO h)=_;simp[cE,X8]
 rw[tz (fW d)]at p |-;rcases Ut h with e|⟨w,e⟩
 all_goals
  try rw[w]at g
  rw[e]at p l |-;cases D:cput (nth h.T t) (nth h.K i).d a with
  | none=>
   rw[D]at j;refine fM 54 [(247,[2,0])] [(0,11,[9,10,11,12,13,14,15,16,17,18,6]),(2,278,[23,24,25,26,27,28,29,30,31,32,33,34,35,36,37,38,39,40,22,41,42,7,0,1,2,3,4,5,6,7,8,9,10,11,12,13,14,15,16,17,18,19,20,21,22,1020,23]),(4,6,[44,45,46,47,48,49])] [(0,0),(0,0),(0,0)] Tryz.func109 rfl (λu q=>?_) (.inr trivial)
   repeat'(first|refine gB ?_|(conv=>whnf);first|refine CE ?_|refine CN (g) ⟨⟨rfl,eJ _⟩,⟨rfl,iT _⟩,⟨rfl,rfl⟩,trivial⟩ ?_|refine CN (g) ⟨⟨rfl,eJ _⟩,⟨rfl,rfl⟩,⟨rfl,rfl⟩,trivial⟩ ?_|refine CF (aa n) ?_|refine CF (aa k) ?_|refine CJ rfl (aa n) rfl ?_|refine CJ rfl (aa k) rfl ?_|refine CN (j) ⟨⟨rfl,Cb _⟩,⟨rfl,rfl⟩,⟨rfl,rfl⟩,trivial⟩ ?_|refine CE ?_|refine CK (p) (.inl rfl) ?_)
   refine CO rfl rfl ?_;exact wB
  | some c=>
   rw[D]at j;simp only;rw[l];refine fM 54 [(247,[2,0])] [(0,11,[9,10,11,12,13,14,15,16,17,18,6]),(2,278,[23,24,25,26,27,28,29,30,31,32,33,34,35,36,37,38,39,40,22,41,42,7,0,1,2,3,4,5,6,7,8,9,10,11,12,13,14,15,16,17,18,19,20,21,22,1020,23]),(4,6,[44,45,46,47,48,49])] [(0,0),(0,0),(0,0)] Tryz.func109 rfl (λu q=>?_) (.inr trivial)
   repeat'(first|refine gB ?_|(conv=>whnf);first|refine CE ?_|refine CN (g) ⟨⟨rfl,eJ _⟩,⟨rfl,iT _⟩,⟨rfl,rfl⟩,trivial⟩ ?_|refine CN (g) ⟨⟨rfl,eJ _⟩,⟨rfl,rfl⟩,⟨rfl,rfl⟩,trivial⟩ ?_|refine CF (aa n) ?_|refine CF (aa k) ?_|refine CJ rfl (aa n) rfl ?_|refine CJ rfl (aa k) rfl ?_|refine CN (j) ⟨⟨rfl,Cb _⟩,⟨rfl,rfl⟩,⟨rfl,rfl⟩,trivial⟩ ?_|refine CE ?_|refine CR rfl rfl (aa k) rfl (Z1 rfl) rfl ?_)
   refine CO rfl rfl ?_;exact wB
theorem dK.frz_at{S F:ah}{v:Value}{c:C}(h:dK w S F (.s .own rows) v)(D:rows[i]? = some [c]):∃V:ah,(∀b o,V b o->F b o)/\dK w (λb o=>S b o\/V b o) (λb o=>F b o/\¬V b o) (.s .own (rows.set i [fz c])) v:=by
 cases h with
 | nil _ o a E=>simp at D
 | own _ o g k n B rows u f E K L d l M N O P G=>
  have Q:i<rows.length:=ψ
  obtain rfl:k=1:=by rw[<-L [c] ψ];rfl
  simp only[Nat.mul_one]at M N O P G;refine⟨f i,ψ,?_⟩;refine .own _ .own g 1 n B _ u (λq=>if q=i then NO else f q) E (by simpa using K) (λr h=>?_) d l (λq H=>?_) ψ (λq H b o p=>?_) (λq X H R T b o p t=>?_) (λJ U r W y A=>?_)
  ·grind
  ·grind
  ·split at p
   ·exact p.elim
   grind
  ·split at p
   ·exact p.elim
   split at t
   ·exact t.elim
   grind
  by_cases e:J=i
  ·subst e
   rw[C5 Q]at y;obtain rfl:=Option.some.inj y;cases U with
   | succ j=>simp at A
   | zero=>
    obtain rfl:fz c=W:=by simpa using A
    have:=(G J 0 [c] c D rfl).freeze
    grind
  grind [dK.mono]
theorem ar.frz{f:Nat}{sh:Bool}{A:List RA}{k:Kd}{c:C}(h:ar P f sh A k [.s .own rows])(d:rows[i]? = some [c]):ar P f sh A k [.s .own (rows.set i [fz c])]:=by
 obtain⟨l,n⟩:=h;refine⟨l,λw S p q r=>(n w S p q r).mono λe w1 t=>?_⟩;obtain⟨v,u,y,X,S1,G,H,J,B,g,D,K,L⟩:=t;obtain⟨V,M,N⟩:=(D 0 _ rfl).frz_at d;have E:∀b o,V b o->X b o:=ψ
 refine⟨v,u,y,λb o=>X b o/\¬V b o,λb o=>S1 b o\/V b o,ψ,λb o a=>?_,λb o a h=>?_,B,λj=>if j=0 then(λb o=>g 0 b o/\¬V b o) else NO,λj O F=>?_,λj F b o a=>?_,ψ⟩
 ·grind
 ·grind
 ·grind
 all_goals simp_all
def Lh(c:aE)(k:Nat):aE:=⟨c.a.set k []⟩
theorem LQ(c:aE)(k:Nat):aE.enc .own (Lh c k)=[.s .own ((c.a.map (aJ .own)).set k (aJ .own []))]:=by grind [X8,aE.enc,Lh]
theorem FM(xs:List Int):([]:List Int).map (rI .S)=(xs.map (rI .S)).drop xs.length:=by simp_all
theorem G9(xs:List Int):xs.map (rI .S)=(xs.map (rI .S)).take xs.length:=by grind [O1]
def vj{k:Nat}(h:k<rows.length):(rows.set k r)[k]? = some r:=C5 h
def V3(c:aE)(k:Nat):List C:=aE.enc .own (Lh c k)++aJ .own (nth c.a k)
def QP(c:aE)(k:Nat):iq (V3 c k):=aD (aE.enc_fr _) (bQ _)
def wz(c:aE)(k:Nat)(d:bI c=true)(p:k<=3):zzA 522 false [.val (some 1) (aE.enc .S c),.val none [I (k:Nat)],.val none [I 8]] (.tup [some 1,none]) (V3 c k):=by
 obtain⟨q,e⟩:=eN d;have g:aE.sml c:=⟨ω,λl j=>by have:=e l j;show l.length<=1048576;omega⟩
 have h:=Rp c k g;rw[d,O0 ω]at h;have n:=sU c g;have a:=qv (c:=c) (k:=k) ω;have o:=e _ (au (xs:=c.a) (i:=k) ω);have b:=QP c k;unfold V3 at b |-;rw[LQ]at b |-;refine fO 52 [(5,268,[29,30,31,32,33,34,35,36,37,38,39,41,0,1,2,3,4,5,6,7,8,9,10,11,1000,1001,1002,12,13]),(6,265,[42,43,44,45,46,47,48,49,50,0,1,2,3,4,5,6,7,8,9,1000,10,11])] Tryz.func522 rfl ?_ (.inr b)
 repeat'(first|refine gP ?_|(conv=>whnf);first|with_reducible refine CF (aa a) ?_|refine CE ?_|refine CJ rfl (aa a) rfl ?_|refine CB (h) ?_|refine CB (n) ?_|refine CS (z:=((nth c.a k).length:Int)) (by simp;omega) ?_|refine Sl.suf (nth c.a k).length rfl (by rw[O1];omega) (aS λ_=>rfl) (FM _) ?_|refine Sl.pre (nth c.a k).length rfl (by rw[O1];omega) (aS λ_=>rfl) (G9 _) ?_|refine CE ?_|refine Fl.cp (λ_=>rfl) (λ_=>rfl) (by simp) (by decide) ?_|refine CV (λ_=>rfl) (λ_=>rfl) (by simp) (by decide) ?_|refine Fl.cp (λ_=>rfl) (λ_=>rfl) ω (by decide) ?_|refine CV (λ_=>rfl) (λ_=>rfl) ω (by decide) ?_|refine CR rfl rfl (aa a) rfl (Z1 rfl) rfl ?_)
 rfl
theorem wQ(c:aE)(k:Nat)(e:bI c=true)(q:k<=3):zzA 246 false [.val (some 1) (aE.enc .S c),.val none [I (k:Nat)],.val none [I 8]] (.tup [some 1,none]) (V3 c k):=by
 obtain⟨r,g⟩:=eN e;have h:aE.sml c:=⟨ω,λl o=>by have:=g l o;show l.length<=1048576;omega⟩
 have j:=se c k h;rw[e,O0 ω]at j;have b:=qv (c:=c) (k:=k) ω;have p:=g _ (au (xs:=c.a) (i:=k) ω);have n:=ar.frz (gN c h) (i:=k) (c:=.s .own ((nth c.a k).map (rI .own))) (aa b);rw[show fz (.s .own ((nth c.a k).map (rI .own)))=.s .S ((nth c.a k).map (rI .S)) from(List.cons.inj (dm (nth c.a k))).1]at n;have a:k<(c.a.map (aJ .own)).length:=ψ
 have d:=QP c k;unfold V3 at d |-;rw[LQ]at d |-;refine fO 43 [(6,7,[30,31,32,33,34,35,36]),(7,5,[38,39,40,41,42])] Tryz.func246 rfl ?_ (.inr d)
 repeat'(first|refine gP ?_|(conv=>whnf);first|with_reducible refine CF (aa b) ?_|refine CE ?_|refine CJ rfl (aa b) rfl ?_|refine CB (j) ?_|refine CB (n) ?_|refine CS (z:=((nth c.a k).length:Int)) (by simp;omega) ?_|refine Sl.suf (nth c.a k).length rfl (by rw[O1];omega) (aS λ_=>rfl) (FM _) ?_|refine Sl.pre (nth c.a k).length rfl (by rw[O1];omega) (aS λ_=>rfl) (G9 _) ?_|refine CE ?_|refine CB (ef [] (by simp)) ?_|refine CB (ef (nth c.a k) ω) ?_|refine CJ rfl (vj a) rfl ?_|refine CR rfl rfl (vj a) rfl (Z1 rfl) (by simp only[List.set_cons_zero,List.set_set];rfl) ?_|refine CF (vj a) ?_)
 simp only[List.set_set,Z3];rfl
end Go.Proofs.YtiopgblagimpmaaGreat.Ab
