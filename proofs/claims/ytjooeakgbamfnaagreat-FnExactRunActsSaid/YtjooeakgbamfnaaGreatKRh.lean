/- Quarantine, ticks, messages collected, cells written, large objects trimmed: the reference's. No condition. -/
import Derived.Test.YtjooeakgbamfnaaGreatKRd
import Derived.Test.YtjooeakgbamfnaaGreatKRg
import Derived.Test.YtjooeakgbamfnaaGreatKRf
import Derived.Test.YtjooeakgbamfnaaGreatKRe
set_option linter.unusedVariables false
set_option linter.defProp false
set_option linter.unusedSimpArgs false
set_option linter.constructorNameAsVariable false
namespace Go.Proofs.YtjooeakgbamfnaaGreat.Ab
open Go.RowKit
set_option maxRecDepth 20000
set_option maxHeartbeats 4000000
def Jy(now:Int):∀{l:List aJ}{i:Nat},i<=l.length->(∀j,j<i->(nth l j).b7<now - 100)->(i<l.length->¬(nth l i).b7<now - 100)->rd now l=i
 | [],i,h,_,_=>by simp at h;subst h;rfl
 | x::xs,0,_,_,h=>by
  unfold rd;exact CI (h (by simp))
 | x::xs,i+1,b,a,c=>by
  unfold rd;refine(CJ (a 0 ω)).trans ?_;rw[Jy now (l:=xs) (i:=i) (by simp at b;omega) (λj d=>a (j+1) ω) (λe=>c kd)]
def LB(q:bh)(now:Int):List C:=bh.enc .own ⟨q.c0,q.q.drop (rd now q.q)⟩++bY .own (q.q.take (rd now q.q))
def Al(q:bh)(now:Int)(g:hB q=true)(F:q.q.length<=4096)(u:0<=now/\now<=1000000):zzA 217 false [.val (some 2) (bh.enc .O q),.vI now,.vI 100] (.tup [some 2,none]) (LB q now):=by
 have w:bh.sml q:=⟨ω,λ_ _=>tV1⟩
 have n:=sI q w;rw[g]at n;have o:=aP now 0 1000000;rw[O0 u]at o;have p:=aP 100 0 1000000;rw[O0 qs]at p;have h:=(jv.1 g).1;have a:gl (LB q now):=a7 (bh.enc_fr _) (oK _);have y:∀i,i<q.q.length->0<=(nth q.q i).b7:=λi b=>(h _ (ax b)).2.2.2
 unfold LB at a |-;generalize B:rd now q.q=k at a |-;refine fO 59 [(6,270,[44,45,46,47,48,49,50,51,53,54,55,56,57,58,0,1,2,3,4,5,6,7,9,10,11,12,13,14,8,1009,1010,1011,1012,1013,1014,15,16])] Tryz.func217 rfl ?_ (.inr a)
 refine σP ?_
 refine gn q.q.length (λi=>[(1,fI now),(2,fI 100),(3,bS (bh.enc .O q)),(6,bS [I 0,.z]),(8,fN i)]) (λi=>∀j,j<i->(nth q.q j).b7<now - 100) (λj C=>ω) λi b=>?_
 obtain⟨b,r⟩:=b;by_cases l:i<q.q.length/\(nth q.q i).b7<now - 100
 ·have c:=ar l.1
  refine σE ?_
  (exact dt (i+1) ⟨ω,λj C=>by by_cases e:j=i;(subst e;exact l.2);exact r j ω⟩)
 have d:=Jy now (i:=i) b r (λD E=>l ⟨D,E⟩);rw[B]at d;subst d;by_cases t:k<q.q.length
 ·have c:=ar t
  have:=y k t
  repeat'(first|refine gE ?_|refine gS (λg=>?_) (λg=>?_)|refine CZ k rfl (by rw[I2];omega) (aN λ_=>rfl) C8 ?_|refine Cf k rfl (by rw[I2];omega) (aN λ_=>rfl) I8 ?_|refine Ce (λ_=>rfl) (λ_=>rfl) (by rw[I3];omega) qs ?_|refine Ce (λ_=>rfl) (λ_=>rfl) (by rw[O5];omega) qs ?_|refine CW (λ_=>rfl) (λ_=>rfl) (by rw[O5];omega) qs ?_)
  rfl
 repeat'(first|refine gE ?_|refine CZ k rfl (by rw[I2];omega) (aN λ_=>rfl) C8 ?_|refine Cf k rfl (by rw[I2];omega) (aN λ_=>rfl) I8 ?_|refine Ce (λ_=>rfl) (λ_=>rfl) (by rw[I3];omega) qs ?_|refine Ce (λ_=>rfl) (λ_=>rfl) (by rw[O5];omega) qs ?_|refine CW (λ_=>rfl) (λ_=>rfl) (by rw[O5];omega) qs ?_)
 rfl
def HI(h:ac)(n:Int)(g:bm h [])(r:0<=n/\n<=1000)(p:h.b1+n<=1000000):zzB 91 false [.ptr (bR h),.vI n] [.ptr (bR (tick h n)),.vI n] .one [I ((ni h n).length:Nat)]:=by
 have a:=g.nums;unfold cv at a;rw[C0]at a;have t:=g.lens.quar;have i:=Al h.a1 (h.b1+n) g.quar ω ⟨ω,p⟩;have j:=g.aged r.1 p;unfold LB at i;unfold tick ni aged at *;have l:(h.a1.q.take (rd (h.b1+n) h.a1.q)).length<=4096:=by rw[I3];omega
 rw[I2];generalize h.a1.q.take (rd (h.b1+n) h.a1.q)=out at i j l |-;generalize h.a1.q.drop (rd (h.b1+n) h.a1.q)=rest at i j |-;refine fM 48 [(218,[2,0])] [(2,269,[18,19,20,21,22,23,24,25,26,17,27,28,5,0,1,2,3,4,5,6,7,8,9,10,11,12,13,1011,14])] [(0,0),(0,0)] Tryz.func91 rfl (λu q=>?_)
 repeat'(first|refine gP ?_|refine CM (i) ⟨⟨rfl,bh.enc_fz h.a1⟩,⟨rfl,rfl⟩,⟨rfl,rfl⟩,tV1⟩ ?_)
 refine lp0 out.length (λk=>[(0,bS (bR (freeAs {h with b1:=h.b1+n,a1:=⟨h.a1.c0,rest⟩} ((out.map (·.Addr)).take k)))),(6,bC (bY .own out)),(7,fN k)]) λk y=>?_
 by_cases o:k<out.length
 ·have b:=ar o
  have c:k<(out.map (·.Addr)).length:=by rw[I2];exact o
  have d:nth (out.map (·.Addr)) k=(nth out k).Addr:=bB (by rw[C5,ar o];rfl);have e:bm (freeAs {h with b1:=h.b1+n,a1:=⟨h.a1.c0,rest⟩} ((out.map (·.Addr)).take k)) (nth (out.map (·.Addr)) k::(out.map (·.Addr)).drop (k+1)):=by
   refine bm.freeAs ?_;rw[<-gT c,List.take_append_drop];rw[List.append_nil]at j;exact j
  rw[d]at e;have w:=qX _ _ _ e
  refine σE ?_
  (refine CP (k+1) ω ω ?_)
  rw[uf _ _ _ c,d];exact wC
 obtain rfl:k=out.length:=ω
 rw[IE (by rw[I2];omega)]
 refine σE ?_
 exact kk
def zR(t:Nat)(h:ac)(az:List Int)(k:Nat)(a:k<az.length):recycs t h (az.take (k+1))=recyc t (recycs t h (az.take k)) (nth az k):=by
 unfold recycs;rw[OA,ar a,Option.toList_some,List.foldl_append];rfl
def A2(h:ac)(t:Nat)(a:bm h [])(i:t<h.R.length):zzB 215 false [.ptr (bR h),.vI (t:Nat)] [.ptr (bR (collect h t)),.vI (t:Nat)] .one [I ((nth h.e.g t).length:Nat)]:=by
 have l:=a.nc;have n:=(dH.1 a.mail).1.2.2;have j:=J6 h.e t a.mail ω;have c:=(jp.of a.mail).il t ω;have d:=a.coll (t:=t) ω;rw[List.append_nil]at d;unfold collect;generalize nth h.e.g t=out at j d c |-;refine fM 36 [(360,[2,0,0])] [] [(0,0),(0,0)] Tryz.func215 rfl (λu q=>?_)
 repeat'(first|refine gP ?_|refine CM (j) ⟨⟨rfl,Ct h.e⟩,⟨rfl,rfl⟩,tV1⟩ ?_)
 refine lp0 out.length (λk=>[(0,bS (bR (recycs t {h with e:=jP h.e t} (out.take k)))),(1,fN t),(6,bC (aE .own out)),(7,fN k)]) λk p=>?_
 by_cases e:k<out.length
 ·have b:=ar e
  have g:bm (recycs t {h with e:=jP h.e t} (out.take k)) (nth out k::out.drop (k+1)):=by
   refine bm.recycs ?_ i;rw[<-gT e,List.take_append_drop];exact d
  have o:=sw _ _ t _ g (by rw[(gt t _ _).1];exact i)
  refine σE ?_
  (refine CP (k+1) ω ω ?_)
  rw[zR _ _ _ _ e];exact wC
 obtain rfl:k=out.length:=ω
 rw[O9]
 refine σE ?_
 exact kk
def xa(a:Int)(o:aW):Bool:=decide (o.Addr<=a/\a<o.Addr+o.y)
def Pv(h:ac)(E:List Int)(a:Int)(d:bm h E):zzB 362 false [.ptr (bR h),.vI a] [.ptr (bR h),.vI a] .one [I (cy (xa a) h.K)]:=by
 have r:=d.lens.objs;refine fM 47 [] [(4,29,[15,16,17,18,19,20,21,22,23,24,25,26,27,28,29,30,31,32,33,34,35,36,37,38,39,40,41,42,43])] [(0,0),(0,0)] Tryz.func362 rfl (λu q=>?_)
 refine σP ?_
 refine gn h.K.length (λi=>[(0,bS (bR h)),(1,fI a),(5,fN i)]) (λi=>∀(j:Nat)(z:aW),j<i->h.K[j]? = some z->xa a z=false) (λj z C=>ω) λi d=>?_
 obtain⟨t,c⟩:=d;by_cases e:i<h.K.length
 ·have b:=ar e
  have w:=pE ‹bm h E› (ax e);have y:0<=(nth h.K i).y/\(nth h.K i).y<=1000:=by
   rcases bm.oow ‹bm h E› _ (ax e) with⟨s,B,D,F⟩|⟨l,g,k,o⟩
   ·have G:=aO ((bm.L ‹bm h E›).sok s B)
    have:=rO (n:=(nth h.K i).y) ω;omega
   have H:=cJ ((bm.L ‹bm h E›).lok l g);omega
  by_cases k:(nth h.K i).Addr<=a
  ·by_cases o:a<(nth h.K i).Addr+(nth h.K i).y
   ·refine σE ?_
    refine CN rfl (gm (dO b (O0 ⟨k,o⟩) c).symm) ?_;exact wC
   repeat'(first|refine gE ?_|refine gS (λp=>?_) (λp=>?_)|fail)
   (exact dt (i+1) ⟨ω,fH b (C1 λx=>o x.2) c⟩)
  repeat'(first|refine gE ?_|refine gS (λp=>?_) (λp=>?_)|fail)
  (exact dt (i+1) ⟨ω,fH b (C1 λx=>k x.1) c⟩)
 refine σE ?_
 refine CN rfl (gm (gd ω c).symm) ?_;exact wC
def PZ(h:ac)(a v:Int):bR {h with G:=ja h.G a v} = (bR h).set 0 (.s .own ((h.G.F.V.U.map (aE .own)).set (ay h.G.F.Q (a / 16)).j.toNat ((aE .own (nth h.G.F.V.U (fQ h.G a))).set 0 (.s .own (((nth h.G.F.V.U (fQ h.G a)).map (rI .own)).set (a % 16).toNat (splice (rI .own (nth (nth h.G.F.V.U (fQ h.G a)) (a % 16).toNat)) 0 [I v])))))):=by
 simp[bR,ja,setCell,CC,aE,splice,fQ,rI]
variable{α:Type}
def BD{p:α->Bool}{xs:List α}{x:α}(a:x∈xs)(b:p x=true):0<=cy p xs:=by
 have:=nG p xs;rw[show xs.any p=true from I7.2 ⟨x,a,b⟩,C0]at this;exact this
def Fz(h:ac)(i:Nat)(j v:Int)(e:bm h [])(C:i<h.K.length)(D:0<=j/\j<=(nth h.K i).y - 1):zzB 210 false [.ptr (bR h),.vI ((nth h.K i).Addr+j),.vI v]
  [.ptr (bR (if(ay h.G.F.Q (((nth h.K i).Addr+j) / 16)).o=1\/¬(0<=v/\v<=999) then h else {h with G:=ja h.G ((nth h.K i).Addr+j) v})),.vI ((nth h.K i).Addr+j),.vI v] .one [I (if(ay h.G.F.Q (((nth h.K i).Addr+j) / 16)).o=1 then 2 else if ¬(0<=v/\v<=999) then 3 else 0)]:=by
 obtain⟨E,J,K⟩:=kX e (ax C) D;have F:0<=cy (xa ((nth h.K i).Addr+j)) h.K:=BD (ax C) (O0 ω);have p:=Pv h [] ((nth h.K i).Addr+j) e;have r:=bk e.ker;have t:=dC h.G.F.Q (((nth h.K i).Addr+j) / 16) r.1.2;have n:=aP v 0 999;generalize L:(nth h.K i).Addr+j=a at *;have b:0<=a/\a<512:=ω
 obtain⟨-,-,-,G,M⟩:=bU e.ker E;have H:=(bi.1 (aF.1 e.ker).2.1).2.2.1;have k:fQ h.G a<h.G.F.V.U.length:=by unfold fQ;omega
 have d:h.G.F.V.U[(ay h.G.F.Q (a / 16)).j.toNat]? = some (nth h.G.F.V.U (fQ h.G a)):=ar k;have w:=e.lens.row _ (ax k);have l:=ar (xs:=nth h.G.F.V.U (fQ h.G a)) (i:=(a % 16).toNat) (by rw[w];omega);have B:a.tmod 16=a % 16:=fg b.1;refine fM 42 [(362,[2,0])] [(8,14,[27,28,29,30,31,32,33,34,35,36,37,38,39,40])] [(0,0),(0,0),(0,0)] Tryz.func210 rfl (λu q=>?_);by_cases o:(ay h.G.F.Q (a / 16)).o=1
 ·rw[CJ (Or.inl o),CJ o]
  repeat'(first|refine gB ?_|refine CM (t) ⟨⟨rfl,Cj _⟩,⟨rfl,rfl⟩,tV1⟩ ?_|refine CT qs ?_|refine CS (lQ b) ?_)
  exact kk
 rw[CI (c:=_=(1:Int)) o];by_cases g:0<=v/\v<=999
 ·rw[O0 g]at n
  rw[CI (c:=¬(0<=v/\v<=999)) (S7 g),CI (c:=_\/¬(0<=v/\v<=999)) (λy=>y.elim o λy=>y g)]
  repeat'(first|refine gB ?_|refine CM (t) ⟨⟨rfl,Cj _⟩,⟨rfl,rfl⟩,tV1⟩ ?_|refine CT qs ?_|refine CS (lQ b) ?_|refine CX B ?_|refine CQ G (aa d) ?_|refine CQ ω (aa l) ?_|refine Pu.two rfl rfl (aa d) rfl rfl rfl (aa l) rfl (z5 _) (PZ h a v) ?_)
  exact kk
 rw[C1 g]at n;rw[CJ (Or.inr g),CJ g]
 repeat'(first|refine gB ?_|refine CM (t) ⟨⟨rfl,Cj _⟩,⟨rfl,rfl⟩,tV1⟩ ?_|refine CT qs ?_|refine CS (lQ b) ?_)
 exact kk
def k7(l:a8)(n:Int):aC:=if(n+15) / 16<l.a0 then⟨l.S+(n+15) / 16,l.a0 - (n+15) / 16⟩ else⟨0,0⟩
def Dy(l:a8)(n:Int)(d:cq l=true):zzA 363 false [.val (some 3) (a8.enc .O l),.vI n] (.tup [some 3,some 2,none]) (if 9<=n/\n<=l.y then a8.enc .own (trimL l n)++aC.enc .own (k7 l n)++[B true] else a8.enc .own l++[I 0,I 0]++[B false]):=by
 have b:=qJ l;rw[d]at b;have a:=aP n 9 l.y;have g:=d;unfold cq at g;rw[C0]at g;by_cases e:9<=n/\n<=l.y
 ·rw[O0 e]at a
  rw[CJ e];have c:=pQ n;rw[show fe n=(n+15) / 16 by unfold fe;rw[CJ ω]]at c;unfold k7;by_cases h:(n+15) / 16<l.a0
  ·rw[CJ h]
   refine fO 43 [(7,261,[37,38,39,40,42,0,1,2,3,5,4,1005,6,1005,7,8])] Tryz.func363 rfl ?_ (.inr ⟨tV1,tV1,tV1,tV1,tV1,tV1,tV1⟩)
   refine σE ?_
   rfl
  rw[CI h];refine fO 43 [(7,261,[37,38,39,40,42,0,1,2,3,5,4,1005,6,1005,7,8])] Tryz.func363 rfl ?_ (.inr ⟨tV1,tV1,tV1,tV1,tV1,tV1,tV1⟩)
  refine σE ?_
  rfl
 rw[C1 e]at a;rw[CI e];refine fO 43 [(7,261,[37,38,39,40,42,0,1,2,3,5,4,1005,6,1005,7,8])] Tryz.func363 rfl ?_ (.inr ⟨tV1,tV1,tV1,tV1,tV1,tV1,tV1⟩)
 refine σP ?_
 rfl
def Ka(h:ac)(t a:Int)(c:h.R.length<=4)(d:¬(0<=t/\t<=h.R.length - 1)):zzB 208 false [.ptr (bR h),.vI t,.vI a] [.ptr (bR h),.vI t,.vI a] .one [I 1]:=by
 have b:=aP t 0 (h.R.length - 1:Int);rw[C1 d]at b;refine fM 148 [(356,[2,0]),(358,[2,0]),(360,[2,0,0]),(355,[2,0])] [(15,269,[68,69,70,71,72,73,74,75,77,67,78,79,11,0,1,2,3,4,5,6,7,13,8,1000,1001,1002,1003,1004,1013,9,10,11,12,14,1012,15]),(22,15,[92,93,94,95,96,97,98,99,100,101,102,103,104,105,106]),(25,271,[116,117,118,119,120,121,122,123,124,125,127,115,128,129,14,0,1,2,3,4,5,6,7,8,9,15,10,1000,1001,1002,1003,1015,11,12,13,14,16,1014,17])] [(0,0),(0,0),(0,0)] Tryz.func208 rfl (λu q=>?_)
 refine σP ?_
 exact kk
def KC(h:ac)(i t:Nat)(a:bm h [])(j:i<h.K.length)(S:t<h.R.length)(J:(nth h.K i).w≠t):zzB 208 false [.ptr (bR h),.vI (t:Nat),.val none [I (nth h.K i).Addr]] [.ptr (bR (freeT h t i).1),.vI (t:Nat),.val none [I (nth h.K i).Addr]] .one [I (freeT h t i).2]:=by
 have E:=ax j;obtain⟨-,K,d⟩:=a.objAt E;have L:kR h (nth h.K i).Addr=i:=by
  have T:=(a.objAt E).1;exact i6 (f:=(·.Addr)) (iu a.osr) T j (by rw[K])
 rw[L]at d;have b:=pE a E;have U:=a.onu _ E;have n:=a.lens;have V:=n.objs;have W:=a.nc;have X:=jp.of a.mail;have Y:=X.b4;have o:=aP (t:Nat) 0 (h.R.length - 1:Int);rw[O0 ω]at o;have p:=vL h (nth h.K i).Addr ω;rw[d]at p;have e:=ar j;have F:=nt (nth h.K i).y;have N:=bk a.ker;have O:=dC h.G.F.Q ((nth h.K i).Addr / 16) N.1.2;unfold freeT;by_cases G:aU (nth h.K i).y<0
 ·rw[CJ G]
  have Z:=v8 h i a j G;refine fM 148 [(356,[2,0]),(358,[2,0]),(360,[2,0,0]),(355,[2,0])] [(15,269,[68,69,70,71,72,73,74,75,77,67,78,79,11,0,1,2,3,4,5,6,7,13,8,1000,1001,1002,1003,1004,1013,9,10,11,12,14,1012,15]),(22,15,[92,93,94,95,96,97,98,99,100,101,102,103,104,105,106]),(25,271,[116,117,118,119,120,121,122,123,124,125,127,115,128,129,14,0,1,2,3,4,5,6,7,8,9,15,10,1000,1001,1002,1003,1015,11,12,13,14,16,1014,17])] [(0,0),(0,0),(0,0)] Tryz.func208 rfl (λu q=>?_)
  repeat'(first|refine gE ?_|refine gS (λc=>?_) (λc=>?_)|refine CM (p) ⟨⟨rfl,bZ h⟩,⟨rfl,rfl⟩,tV1⟩ ?_)
  exact kk
 rw[CI G];obtain⟨s1,s2,s3,s4⟩:=Yw.of a (ax j) G;by_cases H:(ay (tbl h) ((nth h.K i).Addr / 16)).o=1
 ·rw[CJ H]
  unfold tbl at H;refine fM 148 [(356,[2,0]),(358,[2,0]),(360,[2,0,0]),(355,[2,0])] [(15,269,[68,69,70,71,72,73,74,75,77,67,78,79,11,0,1,2,3,4,5,6,7,13,8,1000,1001,1002,1003,1004,1013,9,10,11,12,14,1012,15]),(22,15,[92,93,94,95,96,97,98,99,100,101,102,103,104,105,106]),(25,271,[116,117,118,119,120,121,122,123,124,125,127,115,128,129,14,0,1,2,3,4,5,6,7,8,9,15,10,1000,1001,1002,1003,1015,11,12,13,14,16,1014,17])] [(0,0),(0,0),(0,0)] Tryz.func208 rfl (λu q=>?_)
  repeat'(first|refine gB ?_|refine gS (λc=>?_) (λc=>?_)|refine CT qs ?_|refine CS (lQ b) ?_|refine CM (p) ⟨⟨rfl,bZ h⟩,⟨rfl,rfl⟩,tV1⟩ ?_|refine CM (O) ⟨⟨rfl,Cj _⟩,⟨rfl,rfl⟩,tV1⟩ ?_)
  exact kk
 rw[CI H,CI J];unfold tbl at H;have r:=R1 h.e t ⟨(nth h.K i).w,(nth h.K i).Addr⟩ a.mail ω;by_cases l:bG (gz h.e t ⟨(nth h.K i).w,(nth h.K i).Addr⟩)=true;rotate_left
 ·rw[CI l]
  rw[CI l,show bG (gz h.e t ⟨(nth h.K i).w,(nth h.K i).Addr⟩)=false by simpa using l]at r;refine fM 148 [(356,[2,0]),(358,[2,0]),(360,[2,0,0]),(355,[2,0])] [(15,269,[68,69,70,71,72,73,74,75,77,67,78,79,11,0,1,2,3,4,5,6,7,13,8,1000,1001,1002,1003,1004,1013,9,10,11,12,14,1012,15]),(22,15,[92,93,94,95,96,97,98,99,100,101,102,103,104,105,106]),(25,271,[116,117,118,119,120,121,122,123,124,125,127,115,128,129,14,0,1,2,3,4,5,6,7,8,9,15,10,1000,1001,1002,1003,1015,11,12,13,14,16,1014,17])] [(0,0),(0,0),(0,0)] Tryz.func208 rfl (λu q=>?_)
  repeat'(first|refine gB ?_|refine gS (λc=>?_) (λc=>?_)|refine CT qs ?_|refine CS (lQ b) ?_|refine CM (p) ⟨⟨rfl,bZ h⟩,⟨rfl,rfl⟩,tV1⟩ ?_|refine CM (O) ⟨⟨rfl,Cj _⟩,⟨rfl,rfl⟩,tV1⟩ ?_|refine CM (r) ⟨⟨rfl,Ct h.e⟩,⟨rfl,rfl⟩,⟨rfl,rfl⟩,tV1⟩ ?_)
  exact kk
 rw[CJ l];rw[CJ l,l]at r;have w:fQ h.G (nth h.K i).Addr<h.G.F.V.U.length:=by unfold fQ;omega
 have hcz:=H5 s1;have B:=eY (aU (nth h.K i).y);unfold GF;generalize gz h.e t ⟨(nth h.K i).w,(nth h.K i).Addr⟩ = M at r;refine fM 148 [(356,[2,0]),(358,[2,0]),(360,[2,0,0]),(355,[2,0])] [(15,269,[68,69,70,71,72,73,74,75,77,67,78,79,11,0,1,2,3,4,5,6,7,13,8,1000,1001,1002,1003,1004,1013,9,10,11,12,14,1012,15]),(22,15,[92,93,94,95,96,97,98,99,100,101,102,103,104,105,106]),(25,271,[116,117,118,119,120,121,122,123,124,125,127,115,128,129,14,0,1,2,3,4,5,6,7,8,9,15,10,1000,1001,1002,1003,1015,11,12,13,14,16,1014,17])] [(0,0),(0,0),(0,0)] Tryz.func208 rfl (λu q=>?_)
 repeat'(first|refine gB ?_|refine gS (λc=>?_) (λc=>?_)|refine CT qs ?_|refine CS (lQ b) ?_|refine CM (p) ⟨⟨rfl,bZ h⟩,⟨rfl,rfl⟩,tV1⟩ ?_|refine CM (O) ⟨⟨rfl,Cj _⟩,⟨rfl,rfl⟩,tV1⟩ ?_|refine CM (r) ⟨⟨rfl,Ct h.e⟩,⟨rfl,rfl⟩,⟨rfl,rfl⟩,tV1⟩ ?_)
 have P:({{h with e:=M} with G:=fj h.G (nth h.K i).Addr 0} : ac) = {h with e:=M}:=H3 {h with e:=M} _ w;have hoo:=O1 (λy:ac=>C.s .own (y.G.F.V.U.map (aE .own))) P
 (conv=>whnf)
 refine CV (ι:=Nat) (λk=>[(0,bS (bR {{h with e:=M} with G:=fj h.G (nth h.K i).Addr k})),(1,fN t),(2,fI ((nth h.K i).Addr)),(7,fN i),(8,bS (aW.enc .own (nth h.K i))),(9,fI (aU (nth h.K i).y)),(10,bS (aS.enc .own (ay h.G.F.Q ((nth h.K i).Addr / 16)))),(13,fN k)]) (λk=>k<=(csz (aU (nth h.K i).y)).toNat) (λk=>(csz (aU (nth h.K i).y)).toNat - k) (0) ?_ (I1 _) λk hk=>?_
 ·exact wE
 have R:IntKind.i64.wrap 0=0:=rfl;have Q:(nth h.K i).Addr.tmod 16=(nth h.K i).Addr % 16:=fg b.1;have g:(fj h.G (nth h.K i).Addr k).F.V.U[(ay h.G.F.Q ((nth h.K i).Addr / 16)).j.toNat]? = some (jS (nth h.G.F.V.U (fQ h.G (nth h.K i).Addr)) ((nth h.K i).Addr % 16).toNat k):=I6 w;by_cases lk:k<(csz (aU (nth h.K i).y)).toNat
 ·have D:=ar (xs:=jS (nth h.G.F.V.U (fQ h.G (nth h.K i).Addr)) ((nth h.K i).Addr % 16).toNat k) (i:=((nth h.K i).Addr % 16+k).toNat) (by rw[q8,s4];omega)
  repeat'(first|refine gE ?_|refine CT qs ?_|refine CX Q ?_|refine CQ s2.1 (aa g) ?_|refine CQ ω (aa D) ?_|refine Pu.two rfl rfl (aa g) rfl rfl rfl (aa D) rfl (z5 _) (Lj {h with e:=M} _ k _ b.1) ?_)
  (exact dt (k+1) ω)
 obtain rfl:k=(csz (aU (nth h.K i).y)).toNat:=ω
 have c6:=qP {{h with e:=M} with G:=fj h.G (nth h.K i).Addr (csz (aU (nth h.K i).y)).toNat} i j (by show h.K.length<=_;omega)
 repeat'(first|refine gB ?_|refine gS (λc=>?_) (λc=>?_)|fail)
 exact kk
def W8(h:ac)(i:Nat)(t:Int)(a:bm h [])(d:i<h.K.length):zzB 208 false [.ptr (bR h),.vI t,.val none [I (nth h.K i).Addr]] [.ptr (bR (if 0<=t/\t<=h.R.length - 1 then(freeT h t.toNat i).1 else h)),.vI t,.val none [I (nth h.K i).Addr]] .one [I (if 0<=t/\t<=h.R.length - 1 then(freeT h t.toNat i).2 else 1)]:=by
 have c:h.R.length<=4:=by have:=(dH.1 a.mail).1.2.1;have:=a.nc;omega
 by_cases b:0<=t/\t<=h.R.length - 1
 ·rw[CJ b,CJ b]
  obtain⟨n,rfl⟩:=t5 b.1;simp only[O4];by_cases e:(nth h.K i).w=n
  ·have:=Pf h (nth h.K i) n a (ax d) e c
   have g:kR h (nth h.K i).Addr=i:=by
    obtain⟨k,j,-⟩:=a.objAt (ax d);exact i6 (f:=(·.Addr)) (iu a.osr) k d (by rw[j])
   rw[g,<-yn e]at this;exact this
  exact KC h i n a d ω e
 rw[CI b,CI b];exact Ka h t _ c b
def Vo(c:aB)(k:Nat):aB.enc .own (xM c k)=[.s .own ((c.W.map (aE .own)).set k (aE .own ((nth c.W k).take ((nth c.W k).length - 1))))]:=by simp[aB.enc,xM,CC]
def Yn(xs:List Int)(n:Nat):(xs.take n).map (rI .O)=(xs.map (rI .O)).take n:=C8
def Zl(c:aB)(k:Nat):List C:=if 0<(nth c.W k).length then aB.enc .own (xM c k)++[I (nth (nth c.W k) ((nth c.W k).length - 1)),B true] else aB.enc .own c++[I (-1),B false]
def X8(c:aB)(k:Nat):gl (Zl c k):=by
 unfold Zl;split
 ·exact a7 (Cp _) ⟨tV1,tV1,tV1⟩
 exact a7 (Cp _) ⟨tV1,tV1,tV1⟩
def B0(c:aB)(k:Nat)(h:bE c=true)(u:k<=3):zzA 346 false [.val (some 1) (aB.enc .O c),.vI (k:Nat)] (.tup [some 1,none,none]) (Zl c k):=by
 obtain⟨w,j⟩:=ee h;have n:aB.sml c:=⟨ω,λl r=>by have:=j l r;show l.length<=1048576;omega⟩
 have d:=Bb c k n;rw[h,O0 ω]at d;have o:=kr c n;have b:=nz (c:=c) (k:=k) ω;have t:=j _ (ax (xs:=c.W) (i:=k) ω);have a:=X8 c k;unfold Zl at a |-;by_cases p:0<(nth c.W k).length
 ·rw[CJ p]at a |-
  have q:=ar (xs:=nth c.W k) (i:=(nth c.W k).length - 1) ω;have e:(nth c.W k)[(((nth c.W k).length:Int) - 1).toNat]? = some (nth (nth c.W k) ((nth c.W k).length - 1)):=by rw[show(((nth c.W k).length:Int) - 1).toNat=(nth c.W k).length - 1 by omega];exact q
  have g:((((nth c.W k).length:Nat):Int) - 1)=(((nth c.W k).length - 1:Nat):Int):=ω
  rw[Vo]at a |-;refine fO 54 [(5,268,[32,33,34,35,36,37,38,39,40,41,42,44,0,1,2,3,4,5,6,7,8,9,10,11,1000,1001,1002,12,13]),(6,265,[45,46,47,48,49,50,51,52,53,0,1,2,3,4,5,6,7,8,9,1001,1002,1003,1004,1005,1006,1007,1008,10,11])] Tryz.func346 rfl ?_ (.inr a)
  repeat'(first|refine gB ?_|refine CQ ω (aa e) ?_|refine CZ ((nth c.W k).length - 1) g (by rw[I2];omega) (aN λ_=>rfl) (Yn _ _) ?_|refine Ce (λ_=>rfl) (λ_=>rfl) (by rw[I3];omega) qs ?_|refine CW (λ_=>rfl) (λ_=>rfl) (by rw[I3];omega) qs ?_|refine CR rfl rfl (aa b) rfl (O2 rfl) rfl ?_)
  rfl
 rw[CI p]at a |-;refine fO 54 [(5,268,[32,33,34,35,36,37,38,39,40,41,42,44,0,1,2,3,4,5,6,7,8,9,10,11,1000,1001,1002,12,13]),(6,265,[45,46,47,48,49,50,51,52,53,0,1,2,3,4,5,6,7,8,9,1001,1002,1003,1004,1005,1006,1007,1008,10,11])] Tryz.func346 rfl ?_ (.inr a)
 refine σB ?_
 rfl
def YW(xs:List aC)(n:Int):List C:=bn .own (aD xs n).1++[I (aD xs n).2.1,B (aD xs n).2.2]
def Yi(xs:List aC)(n:Int):gl (YW xs n):=a7 (jY _) ⟨tV1,tV1,tV1⟩
def t8(pages:Int)(xs:List aC)(n:Int)(w:0<=pages/\pages<=1048576)(l:bN pages xs=true)(H:1<=n/\n<=1000)(J:xs.length<=4096):zzA 350 false [.vI pages,.val none (bn .O xs),.vI n] (.tup [none,none,none]) (YW xs n):=by
 have o:=pN pages xs w ⟨ω,λ_ _=>tV1⟩;rw[l]at o;have p:=(xS l).2;refine fO 98 [(8,21,[31,32,33,34,35,36,37,38,39,40,41,42,43,44,45,46,47,48,49,50,51]),(14,265,[71,72,73,74,76,77,78,79,81,0,1,2,3,5,6,7,8,10,4,1005,1006,1007,1008,1010,9,1010,11,1010,12,13])] Tryz.func350 rfl ?_ (.inr (Yi xs n))
 repeat'(first|refine gE ?_|refine CW (λ_=>rfl) (λ_=>rfl) ω qs ?_)
 refine lp0 xs.length (λi=>[(1,bC (bn .O xs)),(2,fI n),(9,bC (bn .own xs)),(10,fI (gY xs n i)),(11,fN i)]) λi y=>?_
 have h:=w8 xs n i y;by_cases q:i<xs.length
 ·have j:=ar q
  have D:=p _ (ax q);have a:gY xs n (i+1)=if n<=(nth xs i).a4/\(gY xs n i<0\/(nth xs i).a4<(nth xs (gY xs n i).toNat).a4) then((i:Nat):Int) else gY xs n i:=rfl
  by_cases r:n<=(nth xs i).a4
  ·by_cases E:gY xs n i<0
   ·rw[CJ ⟨r,.inl E⟩]at a
    repeat'(first|refine gE ?_|refine gS (λc=>?_) (λc=>?_)|fail)
    (refine CP (i+1) ω ω ?_)
    rw[a];exact wC
   have d:=ar (xs:=xs) (i:=(gY xs n i).toNat) ω;by_cases F:(nth xs i).a4<(nth xs (gY xs n i).toNat).a4
   ·rw[CJ ⟨r,.inr F⟩]at a
    repeat'(first|refine gE ?_|with_reducible refine CQ ω (aa d) ?_|refine gS (λc=>?_) (λc=>?_)|fail)
    (refine CP (i+1) ω ω ?_)
    rw[a];exact wC
   rw[CI ω]at a
   repeat'(first|refine gE ?_|with_reducible refine CQ ω (aa d) ?_|refine gS (λc=>?_) (λc=>?_)|fail)
   (refine CP (i+1) ω ω ?_)
   rw[a];exact wC
  rw[CI ω]at a
  repeat'(first|refine gE ?_|refine gS (λc=>?_) (λc=>?_)|fail)
  (refine CP (i+1) ω ω ?_)
  rw[a];exact wC
 obtain rfl:i=xs.length:=ω
 change g0 xs n = -1\/_ at h;unfold YW aD;rw[show gY xs n xs.length=g0 xs n from rfl];by_cases e:g0 xs n<0
 ·rw[CJ e]
  rw[show g0 xs n = -1 from h.resolve_right λg=>by have K:0<=g0 xs n:=g.1;omega]
  repeat'(first|refine gE ?_|refine gS (λc=>?_) (λc=>?_)|fail)
  rfl
 rw[CI e];obtain⟨G,t,L⟩:=h.resolve_left ω;change 0<=g0 xs n at G;change g0 xs n<xs.length at t;obtain⟨b,k⟩:=t5 (show 0<=g0 xs n by omega);rw[k]at t |-;simp only[O4];have d:=ar (xs:=xs) (i:=b) ω;have D:=p _ (ax (xs:=xs) (i:=b) ω);by_cases u:(nth xs b).a4=n
 ·rw[CJ u]
  repeat'(first|refine gB ?_|refine gS (λc=>?_) (λc=>?_)|refine CZ b rfl (by rw[I2];omega) (aN λ_=>rfl) C8 ?_|refine Cf (b+1) rfl (by rw[I2];omega) (aN λ_=>rfl) I8 ?_|refine Ce (λ_=>rfl) (λ_=>rfl) (by rw[I3];omega) qs ?_|refine Ap.dele (λ_=>rfl) (λ_=>rfl) ω qs ?_|refine CW (λ_=>rfl) (λ_=>rfl) (by rw[I3];omega) qs ?_)
  rfl
 rw[CI u]
 repeat'(first|refine gB ?_|refine gS (λc=>?_) (λc=>?_)|refine CR rfl rfl (aa d) rfl (O2 rfl) rfl ?_)
 exact O1 (λz=>z++[I (nth xs b).At,B true]) (show [C.s eL.own _]=_ from by simp[bn,CC];rfl)
def BQ(k:af)(p:Int)(f:Nat):af.enc .own (yp k p f)=((af.enc .own k).set 1 (.s .own ((k.F.V.a3.map (rB .own)).set f (rB .own true)))).set 2 (.s .own ((k.F.Q.M.map (aS.enc .own)).set p.toNat (aS.enc .own ⟨2,(f:Nat)⟩))):=by
 simp[af.enc,yp,CC]
def Mg(k:af)(p:Int)(c:aH k=true)(y:k.Calls≠100000)(o:0<=p/\p<k.F.Q.M.length)(C:(nth k.F.Q.M p.toNat).o=0):zzB 352 false [.ptr (af.enc .own k),.vI p] [.ptr (af.enc .own (dY k p).1),.vI p] .one [B (dY k p).2]:=by
 have D:=bk c;have E:=bi.1 (aF.1 c).2.1;have F:=(bz.1 (aF.1 c).2.2.1).2.2;have G:(dX k).F.Q.M.length<=32:=F;have a:=Jo k.F.V ω;have d:=rc k c y;have g:=fU (dX k) p D.1.2;have l:ay (dX k).F.Q p=nth k.F.Q.M p.toNat:=by unfold ay;exact CJ o
 rw[l,C]at g;have h:=aP p 0 ((k.F.Q.M.length:Int) - 1);rw[O0 ω]at h;have r:=ar (xs:=k.F.Q.M) (i:=p.toNat) ω;change ah _ _ _ _ _ [I (su k)]at a;unfold dY;cases e:refd k<;>rw[e]at d
 ·by_cases j:su k<0
  ·rw[CJ (.inr j)]
   refine fM 56 [(448,[2])] [] [(0,0),(0,0)] Tryz.func352 rfl (λu q=>?_)
   repeat'(first|refine gB ?_|refine gS (λb=>?_) (λb=>?_)|refine CM (a) ⟨⟨rfl,aQ.enc_fz _⟩,tV1⟩ ?_|refine CM (g) ⟨CU (dX k),⟨rfl,rfl⟩,tV1⟩ ?_)
   refine CN rfl ?_ ?_
   ·rfl
   exact wC
  rw[CI (by simp[j])];obtain⟨n,t⟩:=Lc j;obtain⟨f,H⟩:=t5 (show 0<=su k by omega);rw[H]at a n t j |-;simp only[O4]at n t |-;have w:=ar (xs:=k.F.V.a3) (i:=f) n;rw[BQ];refine fM 56 [(448,[2])] [] [(0,0),(0,0)] Tryz.func352 rfl (λu q=>?_)
  repeat'(first|refine gB ?_|refine gS (λb=>?_) (λb=>?_)|refine CM (a) ⟨⟨rfl,aQ.enc_fz _⟩,tV1⟩ ?_|refine CM (g) ⟨CU (dX k),⟨rfl,rfl⟩,tV1⟩ ?_|refine CQ o.1 (aa r) ?_|refine CR rfl rfl (aa w) rfl (O2 rfl) rfl ?_|refine CR rfl rfl (aa r) rfl (O2 rfl) rfl ?_)
  refine CN rfl ?_ ?_
  ·rfl
  exact wC
 rw[CJ (.inl rfl)];refine fM 56 [(448,[2])] [] [(0,0),(0,0)] Tryz.func352 rfl (λu q=>?_)
 repeat'(first|refine gB ?_|refine gS (λb=>?_) (λb=>?_)|refine CM (a) ⟨⟨rfl,aQ.enc_fz _⟩,tV1⟩ ?_|refine CM (g) ⟨CU (dX k),⟨rfl,rfl⟩,tV1⟩ ?_)
 refine CN rfl ?_ ?_
 ·rfl
 exact wC
def YH(h:ac):List C:=(bR h).drop 5
def ME(h:ac)(p:Int)(a:aH h.G=true)(b:h.G.Calls≠100000)(c:0<=p/\p<h.G.F.Q.M.length)(d:(nth h.G.F.Q.M p.toNat).o=0):zzB 352 false [.ptr (bR h),.vI p] [.ptr (bR {h with G:=(dY h.G p).1}),.vI p] .one [B (dY h.G p).2]:=
 (Mg h.G p a b c d).frame (r:=YH h) rfl
def QW(h:ac)(i:Nat):bR (slotT h i)=((bR h).set 14 (I (EA h.c1))).set 6 (.s .own ((h.J.map (aA.enc .own)).set i [I (nth h.J i).S,I (nth h.J i).Z,I (iT (nth h.J i).a6 (q7 h i))])):=by
 simp[bR,slotT,uO,CC,aA.enc]
def wO(h:ac)(E:List Int)(i:Nat)(c:bm h E)(k:i<h.J.length):zzB 348 false [.ptr (bR h),.vI (i:Nat)] [.ptr (bR (mW h i).1),.vI (i:Nat)] .one [I (mW h i).2]:=by
 have F:=c.lens;have G:=F.spans;have d:=ar k;have b:=c.L.sok _ (ax k);have e:=eM b;have a:=c.nums;unfold cv at a;rw[C0]at a;have t:=(bz.1 (aF.1 c.ker).2.2.1).2.2;have l:=nK c.L.sok (ps:=aZ h (nth h.J i).S) e (aZ h (nth h.J i).S).length;change 0<=eH h i/\eH h i<=65535 at l;have w:=qH (nth h.J i).Z;have y:=EM h i ⟨ω,λ_ _=>tV1⟩ ⟨by show h.G.F.Q.M.length<=_;omega,λ_ _=>tV1⟩ c.L.sok k;have o:=D8 (nth h.J i).Z (eH h i) ω;change ah _ _ _ _ _ (aE .own (iS h i)) at o;have p:=Er (nth h.J i).Z (eH h i);change (iS h i).length<=16 at p;unfold mW;by_cases B:(iS h i).length=0
 ·rw[CJ B]
  refine fM 68 [] [(2,7,[16,17,18,19,20,21,22]),(7,12,[42,43,44,45,46,47,48,49,50,51,52,53]),(8,11,[56,57,58,59,60,61,62,63,64,65,66])] [(0,0),(0,0)] Tryz.func348 rfl (λu q=>?_)
  repeat'(first|refine gB ?_|refine CM (y) ⟨⟨rfl,bZ h⟩,⟨rfl,rfl⟩,tV1⟩ ?_)
  exact kk
 rw[CI B];have H:=yB (h:=h) (i:=i) ω;obtain⟨C,D,O⟩:=wv H;have J:=(iv (aO b).2.2).2.2.1;have r:=tw h.c1 (n:=((iS h i).length:Nat)) ω;have K:=zF h.c1 ((iS h i).length:Nat) ω ω;have M:=FF (nth h.J i).a6 (q7 h i) e ω;have N:=Fk (uO (nth h.J i) (q7 h i)) (q7 h i) (H1 b ⟨C,D⟩) ⟨C,D⟩;have g:(iS h i)[(Ke h.c1 ((iS h i).length:Nat)).toNat]? = some (q7 h i):=ar ω;have j:((h.J.map (aA.enc .own)).set i [I (nth h.J i).S,I (nth h.J i).Z,I (iT (nth h.J i).a6 (q7 h i))])[i]? = some [I (nth h.J i).S,I (nth h.J i).Z,I (iT (nth h.J i).a6 (q7 h i))]:=kD k;unfold ta;rw[QW];refine fM 68 [] [(2,7,[16,17,18,19,20,21,22]),(7,12,[42,43,44,45,46,47,48,49,50,51,52,53]),(8,11,[56,57,58,59,60,61,62,63,64,65,66])] [(0,0),(0,0)] Tryz.func348 rfl (λu q=>?_)
 repeat'(first|refine gB ?_|refine CH j ?_|refine CL rfl j rfl ?_|refine CM (y) ⟨⟨rfl,bZ h⟩,⟨rfl,rfl⟩,tV1⟩ ?_|refine CQ r.1 (aa g) ?_|refine CR rfl rfl (aa d) rfl (O2 rfl) rfl ?_)
 refine CN rfl ?_ ?_
 ·rfl
 exact wC
variable{i:Nat}{r:List C}
def Ap.ins{e:α->List C}{xs:List α}{y:α}{sz by_:Nat}{K:List (List C)->Prop}(a:r=e y)(h2:∀y,(e y).length=sz)(b:∀y,bu (e y)=true)(g:xs.length<=1048576)(c:by_<=1000)(d:K ((xs.take i++y::xs.drop i).map e)):Ap true ((xs.take i).map e++[r]) ((xs.drop i).map e) sz by_ K:=by
 subst a;have f:(xs.take i).length+1+(xs.drop i).length<=3145728:=by rw[I3,O5];omega
 refine Cb (λr a=>?_) (aN h2) (λ_ r a=>by obtain⟨y,-,rfl⟩:=O8.1 a;exact b y) (by simp only[I5,I2,List.length_singleton];omega) (by simp only[I5,I2,List.length_singleton];exact C9 (Nat.mul_le_mul f c) qs) ?_ d
 ·rcases v5.1 a with a|a
  ·exact aN h2 r a
  rw[z3.1 a];exact h2 y
 rw[CB,OB,SA];rfl
def pj{p:α->Bool}{xs:List α}{y:α}(h:mh p xs=i):lB p xs y=xs.take i++y::xs.drop i:=by unfold lB;rw[h]
def Q4(h:ac)(c:Int):ac × Int:=
 if(aD h.b 1).2.2=false then(h,-1)
 else if(dY h.G (aD h.b 1).2.1).2=false then({h with G:=(dY h.G (aD h.b 1).2.1).1},-1)
 else(sC h c,(rp h:Nat))
def Hy(h:ac)(E:List Int)(c:Nat)(g:bm h E)(H:h.G.Calls<=90000):zzB 349 false [.ptr (bR h),.vI (c:Nat)] [.ptr (bR (Q4 h c).1),.vI (c:Nat)] .one [I (Q4 h c).2]:=by
 have B:=g.lens;have J:=B.spans;have K:fT h<=32:=B.ents;have C:=jy h;have l:=t8 (fT h:Nat) h.b 1 ⟨ω,ω⟩ g.rng qs (by have:=B.free;omega);unfold YW at l;have d:=lM g (I9 1);unfold Q4 sC rp;generalize aD h.b 1=r at l d |-;obtain⟨o,p,ok⟩:=r;simp only at l d |-;cases ok with
 | false=>
  rw[CJ rfl];refine fM 79 [(352,[2,0]),(2000010,[0,6])] [(1,267,[11,12,13,14,15,16,17,10,18,19,20,0,1,2,3,4,5,6,7,8,9,10,11,1009,1010,12,1010,13])] [(0,0),(0,0)] Tryz.func349 rfl (λu q=>?_)
  repeat'(first|refine gP ?_|refine CM (C) ⟨bZ h,tV1⟩ ?_|refine CM (l) ⟨⟨rfl,rfl⟩,⟨rfl,er h.b⟩,⟨rfl,rfl⟩,tV1⟩ ?_)
  exact kk
 | true=>
  rw[CI (by simp)];obtain⟨L,M,N,U⟩:=d rfl;have D:0<=p/\p<h.G.F.Q.M.length:=⟨L,by have:p+1<=((tbl h).M.length:Nat):=M;unfold tbl at this;omega⟩
  have t:=ME h p g.ker ω D (N p.toNat ω ω);generalize dY h.G p=w at t |-;obtain⟨k,b⟩:=w;simp only at t |-;cases b with
  | false=>
   rw[CJ rfl];refine fM 79 [(352,[2,0]),(2000010,[0,6])] [(1,267,[11,12,13,14,15,16,17,10,18,19,20,0,1,2,3,4,5,6,7,8,9,10,11,1009,1010,12,1010,13])] [(0,0),(0,0)] Tryz.func349 rfl (λu q=>?_)
   repeat'(first|refine gP ?_|refine CM (C) ⟨bZ h,tV1⟩ ?_|refine CM (l) ⟨⟨rfl,rfl⟩,⟨rfl,er h.b⟩,⟨rfl,rfl⟩,tV1⟩ ?_)
   exact kk
  | true=>
   rw[CI (by simp)];refine fM 79 [(352,[2,0]),(2000010,[0,6])] [(1,267,[11,12,13,14,15,16,17,10,18,19,20,0,1,2,3,4,5,6,7,8,9,10,11,1009,1010,12,1010,13])] [(0,0),(0,0)] Tryz.func349 rfl (λu q=>?_)
   repeat'(first|refine gP ?_|refine CM (C) ⟨bZ h,tV1⟩ ?_|refine CM (l) ⟨⟨rfl,rfl⟩,⟨rfl,er h.b⟩,⟨rfl,rfl⟩,tV1⟩ ?_)
   refine gn h.J.length (λi=>[(0,bS (bR {h with G:=k,b:=o})),(1,fN c),(6,fI p),(8,fN i)]) (λi=>∀(j:Nat)(z:aA),j<i->h.J[j]? = some z->Kf p z=false) (λj z V=>ω) λi g=>?_
   obtain⟨O,F⟩:=g;have P:({h with G:=k,b:=o} : ac).J.length=h.J.length:=rfl;by_cases Q:i<h.J.length/\(nth h.J i).S<p
   ·have n:=ar Q.1
    refine σE ?_
    (exact dt (i+1) ⟨ω,fH n (C1 ω) F⟩)
   have a:mh (Kf p) h.J=i:=oV ω F λz G=>by
    have R:=(C4.1 G).1;have:z=nth h.J i:=(bB G).symm;subst this;exact O0 ω
   have n:i<h.J.length->h.J[i]? = some (nth h.J i):=λS=>ar S
   rw[show addS h k o p (c:Nat) = {h with G:=k,b:=o,J:=h.J.take i++⟨p,(c:Nat),0⟩::h.J.drop i} by unfold addS;rw[pj a],a]
   repeat'(first|refine gE ?_|with_reducible refine CH (aa (n ω)) ?_|refine gS (λT=>?_) (λT=>?_)|refine CL rfl (aa (n ω)) rfl ?_|refine MQ.mk rfl (BA h.J) rfl ?_|refine CZ i rfl (by rw[I2];omega) (aN λ_=>rfl) C8 ?_|refine Cf i rfl (by rw[I2];omega) (aN λ_=>rfl) I8 ?_|refine CW (λ_=>rfl) (λ_=>rfl) (by rw[I3];omega) qs ?_|refine Ap.sn (aN λ_=>rfl) rfl (by rw[I2,I3];omega) qs rfl ?_|refine Ap.ins (e:=aA.enc .O) (y:=⟨p,(c:Nat),0⟩) rfl (λ_=>rfl) (λ_=>rfl) ω qs ?_)
   all_goals
    exact kk
variable{c:Int}{h:ac}
def zz(a:i<h.J.length)(b:sF h c i=true)(d:∀j,j<i->sF h c j=false):qG h c=some i:=
 List.find?_range_eq_some.2 ⟨b,List.mem_range.2 a,λj e=>by rw[d j e];rfl⟩
def zt(a:∀j,j<h.J.length->sF h c j=false):qG h c=none:=
 List.find?_range_eq_none.2 λj b=>by rw[a j b];rfl
def nE(a:sF h c i=false)(b:∀j,j<i->sF h c j=false):∀j,j<i+1->sF h c j=false:=λj d=>by
 by_cases e:j=i
 ·rw[e];exact a
 exact b j ω
def RR(h:ac)(t:Nat)(c:aB):bR {h with R:=h.R.set t c} = (bR h).set 9 (.s .own ((h.R.map (aB.enc .own)).set t (aB.enc .own c))):=by
 simp[bR,CC]
def MF{c:Nat}(b:bm h [])(k:c<=3)(e:h.G.Calls<=90000)(h1:¬(aD h.b 1).2.2=false)(h2:¬(dY h.G (aD h.b 1).2.1).2=false):bm (sC h c) []/\rp h<(sC h c).J.length:=by
 have a:(aD h.b 1).2.2=true:=by simpa using h1
 obtain⟨f,g,i,l⟩:=lM b (I9 1) a;have s:=Bw.of (p:=(aD h.b 1).2.1) b.ker ω ⟨f,by have:(aD h.b 1).2.1+1<=(h.G.F.Q.M.length:Nat):=g;omega⟩ (i _ ω ω);have d:(dY h.G (aD h.b 1).2.1).2=true:=by simpa using h2
 have j:Bw h.G (aD h.b 1).2.1 ((dY h.G (aD h.b 1).2.1).1,true):=by rw[<-d];exact s
 exact⟨b.addS (c:=c) ⟨ω,ω⟩ a j,(Qv (Kf (aD h.b 1).2.1) h.J ⟨(aD h.b 1).2.1,c,0⟩).1⟩
def FM(h:ac)(t c:Nat)(o:bm h [])(M:t<h.R.length)(N:c<=3)(p:h.G.Calls<=90000):zzB 206 false [.ptr (bR h),.vI (t:Nat),.vI (c:Nat)] [.ptr (bR (f7 h t c).1),.vI (t:Nat),.vI (c:Nat)] .one [I (f7 h t c).2]:=by
 have E:=o.cach _ (ax M);have e:=ar M;have r:=B0 (nth h.R t) c E N;have Q:=o.lens.spans;have B:=o;unfold Zl at r;by_cases F:0<(nth (nth h.R t).W c).length
 ·unfold f7
  rw[CJ F]at r |-;simp only;rw[RR];refine fM 80 [(348,[2,0]),(349,[2,0])] [(3,6,[27,28,29,30,31,32])] [(0,0),(0,0),(0,0)] Tryz.func206 rfl (λu q=>?_)
  repeat'(first|refine gP ?_|refine CM (r) ⟨⟨rfl,Co _⟩,⟨rfl,rfl⟩,tV1⟩ ?_|refine CR rfl rfl (aa e) rfl (O2 rfl) rfl ?_)
  exact kk
 rw[CI F]at r;have d:f7 h t c=match qG h c with
  | some i=>(slotT h i,ta h i)
  | none=>if(aD h.b 1).2.2=false then(h,-1)
   else if(dY h.G (aD h.b 1).2.1).2=false then({h with G:=(dY h.G (aD h.b 1).2.1).1},-1)
   else mW (sC h c) (rp h):=by unfold f7;exact CI F
 refine fM 80 [(348,[2,0]),(349,[2,0])] [(3,6,[27,28,29,30,31,32])] [(0,0),(0,0),(0,0)] Tryz.func206 rfl (λu q=>?_)
 repeat'(first|refine gP ?_|refine CM (r) ⟨⟨rfl,Co _⟩,⟨rfl,rfl⟩,tV1⟩ ?_)
 refine gn h.J.length (λi=>[(0,bS (bR h)),(1,fN t),(2,fN c),(10,fN i)]) (λi=>∀j,j<i->sF h c j=false) (λj W=>ω) λi o=>?_
 obtain⟨R,w⟩:=o;by_cases C:i<h.J.length
 ·have l:=ar C
  by_cases O:(nth h.J i).Z=c
  ·have y:=zf h (nth h.J i).S
   cases D:ib h (nth h.J i).S with
   | true=>
    rw[D]at y
    repeat'(first|refine gB ?_|refine CM (y) ⟨bZ h,⟨rfl,rfl⟩,tV1⟩ ?_)
    (exact dt (i+1) ⟨ω,nE (by unfold sF;rw[D];simp) w⟩)
   | false=>
    rw[D]at y;have n:=wO h [] i B C;unfold mW at n;by_cases P:(iS h i).length=0
    ·rw[CJ P]at n
     repeat'(first|refine gB ?_|refine CM (y) ⟨bZ h,⟨rfl,rfl⟩,tV1⟩ ?_)
     (exact dt (i+1) ⟨ω,nE (by unfold sF;rw[C1 (by omega:¬0<(iS h i).length)];simp) w⟩)
    rw[CI P]at n;have G:qG h c=some i:=zz C (by unfold sF;rw[O0 O,D,O0 ω];rfl) w;rw[G]at d;simp only at d;obtain⟨S,T⟩:=B.slotT C (by omega:0<(iS h i).length);have H:=kM.nn S T;rw[d];generalize slotT h i=g at n |-;generalize ta h i=a at n H |-
    repeat'(first|refine gB ?_|refine CM (y) ⟨bZ h,⟨rfl,rfl⟩,tV1⟩ ?_)
    exact kk
  refine σB ?_
  (exact dt (i+1) ⟨ω,nE (by unfold sF;rw[C1 O];rfl) w⟩)
 obtain rfl:i=h.J.length:=ω
 have G:qG h c=none:=zt w;rw[G]at d;simp only at d;have k:=Hy h [] c B p;rw[d];unfold Q4 at k;by_cases J:(aD h.b 1).2.2=false
 ·rw[CJ J]at k |-
  refine σE ?_
  exact kk
 rw[CI J]at k |-;by_cases K:(dY h.G (aD h.b 1).2.1).2=false
 ·rw[CJ K]at k |-
  refine σE ?_
  exact kk
 rw[CI K]at k |-;obtain⟨U,V⟩:=MF B N p J K;have L:=wO (sC h c) [] (rp h) U V;generalize sC h c=g at k L |-;generalize rp h=b at k L |-
 refine σE ?_
 exact kk
def EO(h:ac)(size:Int):ac × Int:=
 if(aD h.b (nB size:Nat)).2.2=false then(h,-1)
 else if(k6 h size).2=nB size then({h with G:=(k6 h size).1,b:=(aD h.b (nB size:Nat)).1,H:=lB (VF (aD h.b (nB size:Nat)).2.1) h.H ⟨(aD h.b (nB size:Nat)).2.1,(nB size:Nat),size⟩},16*(aD h.b (nB size:Nat)).2.1)
 else({h with G:=dJ (k6 h size).1 (aD h.b (nB size:Nat)).2.1 (k6 h size).2},-1)
def DM(k:af)(p:Int)(i:Nat):bL k p (i+1)=if(bL k p i).2=i then((dY (bL k p i).1 (p+(i:Nat))).1,if(dY (bL k p i).1 (p+(i:Nat))).2=true then i+1 else i) else bL k p i:=rfl
def KY(k:af)(p:Int):∀i,(bL k p i).2<=i
 | 0=>z5 _
 | i+1=>by
  have b:=KY k p i;rw[DM];by_cases e:(bL k p i).2=i
  ·rw[CJ e]
   show(if _ then i+1 else i)<=i+1;by_cases a:(dY (bL k p i).1 (p+(i:Nat))).2=true
   ·rw[CJ a];exact z5 _
   rw[CI a];exact Nat.le_succ _
  rw[CI e];omega
def lg{k:af}{p:Int}{i:Nat}(h:(bL k p i).2≠i):∀j,bL k p (i+j)=bL k p i/\(bL k p (i+j)).2<i+j
 | 0=>⟨rfl,by show(bL k p i).2<i;have:=KY k p i;omega⟩
 | j+1=>by
  have a:=lg h j;have e:bL k p (i+(j+1))=bL k p (i+j):=by
   show bL k p (i+j+1)=_;rw[DM,CI ω]
  exact⟨e.trans a.1,by rw[e];omega⟩
def Fo(h:ac)(size:Int)(l:bm h [])(C:9<=size/\size<=1000)(U:h.G.Calls<=90000):zzB 207 false [.ptr (bR h),.vI size] [.ptr (bR (EO h size).1),.vI size] .one [I (EO h size).2]:=by
 have D:=l.lens;have V:=D.larges;have P:=l;have E:fT h<=32:=D.ents;have F:fe size=((nB size:Nat):Int):=by unfold fe nB;split<;>omega
 have hN:1<=nB size/\nB size<=63:=by unfold nB;omega
 have G:=pQ size;rw[F]at G;have Q:=jy h;have t:=t8 (fT h:Nat) h.b (nB size:Nat) ⟨ω,ω⟩ l.rng ⟨ω,ω⟩ (by have:=D.free;omega);unfold YW at t;have b:=lM l (show(1:Int)<=(nB size:Nat) by omega);unfold EO k6;generalize nB size=N at *;generalize aD h.b (N:Nat)=r at t b |-;obtain⟨H,p,ok⟩:=r;simp only at t b |-;refine fM 105 [(352,[2,0]),(353,[2,0]),(2000018,[0,7])] [(2,268,[16,17,18,19,20,21,22,23,15,24,25,26,0,1,2,3,4,5,6,7,8,9,10,11,12,1010,1011,13,1011,14])] [(0,0),(0,0)] Tryz.func207 rfl (λu q=>?_);cases ok with
 | false=>
  rw[CJ rfl]
  repeat'(first|refine gP ?_|refine CM (Q) ⟨bZ h,tV1⟩ ?_|refine CM (t) ⟨⟨rfl,rfl⟩,⟨rfl,er h.b⟩,⟨rfl,rfl⟩,tV1⟩ ?_)
  exact kk
 | true=>
  rw[CI (by simp)];obtain⟨R,J,B,u4⟩:=b rfl;change p+(N:Nat)<=(h.G.F.Q.M.length:Nat) at J;change ∀q:Nat,p<=q->(q:Int)<p+(N:Nat)->(nth h.G.F.Q.M q).o=0 at B
  have W:h.G.F.Q.M.length<=32:=E
  repeat'(first|refine gP ?_|refine CM (Q) ⟨bZ h,tV1⟩ ?_|refine CM (t) ⟨⟨rfl,rfl⟩,⟨rfl,er h.b⟩,⟨rfl,rfl⟩,tV1⟩ ?_)
  refine gn N (λi=>[(0,bS (bR {h with G:=(bL h.G p i).1})),(1,fI size),(5,fN N),(6,bC (bn .own H)),(7,fI p),(9,fN i)]) (λi=>(bL h.G p i).2=i) rfl λi l=>?_
  obtain⟨K,L⟩:=l;have s:=iV.of (p:=p) (n:=N) P.ker ω ⟨R,J⟩ B i K;have X:=s.calls;have Y:=s.len;by_cases li:i<N
  ·have M:(nth (bL h.G p i).1.F.Q.M (p+(i:Nat)).toNat).o=0:=by
    rw[s.out _ (by rw[L];omega)];exact B _ ω ω
   have c:=ME {h with G:=(bL h.G p i).1} (p+(i:Nat)) s.ker (by show(bL h.G p i).1.Calls≠100000;omega) ⟨ω,by show p+(i:Nat)<((bL h.G p i).1.F.Q.M.length:Nat);omega⟩ M;have a:bL h.G p (i+1)=((dY (bL h.G p i).1 (p+(i:Nat))).1,if(dY (bL h.G p i).1 (p+(i:Nat))).2=true then i+1 else i):=by
    show(if(bL h.G p i).2=i then _ else _)=_;rw[CJ L]
   simp only at c;cases e:(dY (bL h.G p i).1 (p+(i:Nat))).2 with
   | true=>
    rw[e]at c a;rw[CJ rfl]at a;have O:(dY (bL h.G p i).1 (p+(i:Nat))).1=(bL h.G p (i+1)).1:=by rw[a]
    rw[O]at c
    refine σE ?_
    (exact dt (i+1) ⟨ω,by rw[a]⟩)
   | false=>
    rw[e]at c a;rw[CI (by simp)]at a;have d:=lg (k:=h.G) (p:=p) (i:=i+1) (by rw[a];simp only;omega) (N - (i+1));rw[show i+1+(N - (i+1))=N by omega]at d;rw[d.1]at d;have S:=iV.of (p:=p) (n:=N) P.ker ω ⟨R,J⟩ B (i+1) ω;rw[CI (by have:=lg (k:=h.G) (p:=p) (i:=i+1) (by rw[a];simp only;omega) (N - (i+1));rw[show i+1+(N - (i+1))=N by omega]at this;omega)];rw[show bL h.G p N=bL h.G p (i+1) by have:=lg (k:=h.G) (p:=p) (i:=i+1) (by rw[a];simp only;omega) (N - (i+1));rw[show i+1+(N - (i+1))=N by omega]at this;exact this.1];rw[a]at S |-;have g:=S.ker;simp only at g |-;generalize (dY (bL h.G p i).1 (p+(i:Nat))).1=k at c g |-
    refine σE ?_
    refine lp0 i (λj=>[(0,bS (bR {h with G:=dJ k p j})),(1,fI size),(5,fN N),(7,fI p),(9,fN i),(10,fN j)]) λj Z=>?_
    have c4:=rj {h with G:=dJ k p j} (p+(j:Nat)) (kK g p j);by_cases lj:j<i
    ·refine σE ?_
     (exact dt (j+1) ω)
    obtain rfl:j=i:=ω
    refine σE ?_
    exact kk
  obtain rfl:i=N:=ω
  rw[CJ L];generalize (bL h.G p i).1=k
  refine σE ?_
  refine gn h.H.length (λm=>[(0,bS (bR {h with G:=k,b:=H})),(1,fI size),(5,fN i),(7,fI p),(11,fN m)]) (λm=>∀(j:Nat)(z:a8),j<m->h.H[j]? = some z->VF p z=false) (λj z Z=>ω) λm hm=>?_
  obtain⟨hm',T⟩:=hm;have hl2:({h with G:=k,b:=H} : ac).H.length=h.H.length:=rfl;by_cases go:m<h.H.length/\(nth h.H m).S<p
  ·have o:=ar go.1
   refine σE ?_
   (exact dt (m+1) ⟨ω,fH o (C1 ω) T⟩)
  have w:mh (VF p) h.H=m:=oV ω T λz C=>by
   have hlt:=(C4.1 C).1;have:z=nth h.H m:=(bB C).symm;subst this;exact O0 ω
  have o:m<h.H.length->h.H[m]? = some (nth h.H m):=λhh=>ar hh
  rw[pj w]
  repeat'(first|refine gE ?_|with_reducible refine CH (aa (o ω)) ?_|refine gS (λhq=>?_) (λhq=>?_)|refine CL rfl (aa (o ω)) rfl ?_|refine MQ.mk rfl (y2 h.H) rfl ?_|refine CZ m rfl (by rw[I2];omega) (aN λ_=>rfl) C8 ?_|refine Cf m rfl (by rw[I2];omega) (aN λ_=>rfl) I8 ?_|refine CW (λ_=>rfl) (λ_=>rfl) (by rw[I3];omega) qs ?_|refine Ap.sn (aN λ_=>rfl) rfl (by rw[I2,I3];omega) qs rfl ?_|refine Ap.ins (e:=a8.enc .O) (y:=⟨p,(i:Nat),size⟩) rfl (λ_=>rfl) (λ_=>rfl) ω qs ?_)
  all_goals
   refine CN rfl ?_ ?_
   ·exact gm ω
   exact wC
def Kn{k:af}(h:aH k=true)(b:im k.a):af.wf k:=by
 obtain⟨p,f,g,q,t⟩:=aF.1 h;obtain⟨u,w,y,A⟩:=bi.1 f;obtain⟨i,B,C⟩:=bz.1 g;refine⟨⟨⟨⟨ω,λr b=>?_⟩,⟨ω,λ_ _=>tV1⟩⟩,⟨ω,λe l=>?_⟩⟩,⟨ω,ω⟩,b⟩
 ·obtain⟨j,c,rfl⟩:=bw b
  obtain⟨D,n⟩:=Jg h c;exact⟨ω,λv o=>by have:=n v o;exact⟨ω,ω⟩⟩
 obtain⟨j,c,rfl⟩:=bw l;have a:=i j c;unfold oM at a;rw[C0]at a;by_cases d:(nth k.F.Q.M j).o=0
 ·have:=a.2.2.1 d;exact⟨⟨ω,ω⟩,⟨ω,ω⟩⟩
 have:=a.2.2.2 d;exact⟨⟨ω,ω⟩,⟨ω,ω⟩⟩
theorem Qo{p:b9}(h:gF p=true):b9.wf p:=by
 have a:=λi b=>kV h (i:=i) b
 have e:p.U.length<=16:=o6 h;unfold gF at h;simp only[I0,C0]at h;exact⟨⟨ω,ω⟩,⟨ω,ω⟩,⟨ω,λv c=>by
   obtain⟨j,d,rfl⟩:=bw c;have:=a j d;exact⟨ω,ω⟩⟩⟩
variable{E:List Int}
def bm.jobWf(a:bm h E):bW.wf h.a5/\bW.sml h.a5:=by
 cases b:h.a2 with
 | true=>
  obtain⟨c,f,g,i,j⟩:=gV.1 (a.job b).1;have k:=o6 c;exact⟨⟨Qo c,⟨ω,ω⟩,⟨ω,ω⟩⟩,by show h.a5.d.U.length<=1048576;omega⟩
 | false=>
  have:=a.noj b;unfold xL at this;rw[C0]at this;obtain⟨l,n,e,o,p⟩:=this;refine⟨⟨⟨⟨ω,ω⟩,⟨ω,ω⟩,⟨ω,λv d=>?_⟩⟩,⟨ω,ω⟩,⟨ω,ω⟩⟩,by show h.a5.d.U.length<=1048576;omega⟩;rw[SE e]at d;cases d
theorem D9{n:Int}(h:0<=aU n):1<=n/\n<=8:=by grind [aU]
def kM.wf(b:bm h E){a:Int}(d:kM h.J a c):mY a:=by
 have:=d.bd b;exact⟨ω,ω⟩
theorem bm.wf(c:bm h E)(K:im h.G.a):ac.wf h:=by
 have q:=c.lens;have r:=c.L;have B:=c.nums;unfold cv at B;rw[C0]at B;obtain⟨V,M,W⟩:=ij.1 c.rng;obtain⟨N,-,-,X,Y,-⟩:=jv.1 c.quar;have u:=c.mail;have g:=c.hfl;unfold aY at g;rw[CJ u]at g;unfold bG at u;simp only[I0,C0,cD,jd,O7,rT,VJ]at u;obtain⟨⟨⟨Z,m2,m3⟩,O⟩,m5⟩:=u;have y:=q.free;have P:=q.spans;have h3:=q.larges;have h4:=q.objs;have h5:=q.caches;have h6:=q.quar;have C:∀n:Nat,bQ h.e n<=bQ h.e (n+1):=λn=>by grind [bQ]
 have f:∀a b:Nat,a<=b->bQ h.e a<=bQ h.e b:=λa b t=>by
  induction t with
  | refl=>exact I9 _
  | step _ ih=>grind
 have A:∀n:Nat,0<=bQ h.e n:=λn=>f 0 n (I1 _)
 have o:∀i,i<h.e.T.length->(nth h.e.T i).length<=30/\(nth h.e.g i).length<=30:=λi k=>by
  have D:=f (i+1) h.e.T.length ω;have Q:=A i;simp only[bQ]at D;omega
 refine⟨Kn c.ker K,⟨ω,λx e=>?_⟩,⟨ω,λx e=>?_⟩,⟨ω,λx e=>?_⟩,⟨ω,λx e=>?_⟩,⟨ω,λx e=>?_⟩,⟨⟨ω,λl d=>?_⟩,⟨ω,λl d=>?_⟩⟩,⟨⟨ω,ω⟩,⟨ω,λx e=>?_⟩⟩,⟨ω,ω⟩,⟨ω,ω⟩,⟨ω,ω⟩,⟨ω,ω⟩,tV1,c.jobWf.1⟩
 ·have:=M x e;exact⟨⟨ω,ω⟩,⟨ω,ω⟩⟩
 ·have w:=r.sok x e
  have F:=eM w;have R:=aO w;exact⟨⟨ω,ω⟩,⟨ω,ω⟩,⟨ω,ω⟩⟩
 ·have G:=bf (r.lok x e)
  have H:=cJ (r.lok x e);exact⟨⟨ω,ω⟩,⟨ω,ω⟩,⟨ω,ω⟩⟩
 ·obtain⟨o1,o2,o3,o4⟩:=c.onu x e
  have t:0<=x.Addr/\x.Addr<512/\-1000<=x.y/\x.y<=1000:=by
   rcases c.oow x e with⟨s,w,y,P⟩|⟨l,d,D,Q⟩
   ·have R:=aO (r.sok s w)
    have:=D9 (n:=x.y) ω;exact⟨by have:=y.1;omega,by have:=y.2.1;omega,ω,ω⟩
   have G:=bf (r.lok l d);have H:=cJ (r.lok l d);omega
  exact⟨⟨ω,ω⟩,⟨ω,ω⟩,⟨ω,ω⟩,⟨ω,ω⟩⟩
 ·obtain⟨c1,c2⟩:=q.lists x e
  refine⟨ω,λl d=>⟨ψ,λa J=>?_⟩⟩;obtain⟨j,S,rfl⟩:=bw d;exact kM.wf c (c.hca x e j S a J)
 ·obtain⟨i,k,rfl⟩:=bw d
  have F:=o i k;refine⟨ω,λp T=>?_⟩;have U:=(O i k).1 p T;exact⟨⟨ω,ω⟩,kM.wf c (g p.Addr (v5.2 (.inl (List.mem_flatMap.2 ψ))))⟩
 ·obtain⟨i,k,rfl⟩:=bw d
  have F:=o i ω;exact⟨ω,λa J=>kM.wf c (g a (v5.2 (.inr (List.mem_flatten.2 ψ))))⟩
 have G:=N x e;have H:=c.snc x e;exact⟨kM.wf c (c.hqu x e),⟨ω,ω⟩,⟨ω,ω⟩⟩
structure ZV(h:ac):Prop where
 ker:aH h.G=true
 wf:ac.wf h
 sml:ac.sml h
 lens:oH h
def bm.fit(a:bm h E)(b:im h.G.a)(c:aI.sml h.e):ZV h:=⟨a.ker,a.wf b,a.lens.sml a.ker c a.jobWf.2,a.lens⟩
theorem N9(a:bm h [])(b:h.a2=true):aH (mStep h).G=true/\(mStep h).G.Calls<=h.G.Calls+1/\(mStep h).G.a=h.G.a/\(mStep h).e=h.e/\(Mb h=true->(mStep h).a2=false)/\bW.wf (mStep h).a5/\bW.sml (mStep h).a5:=by
 have s:=JS.of a b;refine⟨s.ker,s.calls.2.1,s.calls.2.2,rfl,λc=>?_,?_⟩
 ·unfold Mb at c
  rw[C0]at c;show(if over _=true then false else h.a2)=false
  grind [over]
 show bW.wf (if over _=true then _ else _)/\bW.sml (if over _=true then _ else _);split
 ·exact⟨⟨⟨⟨by decide,by decide⟩,⟨by decide,by decide⟩,⟨by decide,λv d=>by cases d⟩⟩,⟨by decide,by decide⟩,⟨by decide,by decide⟩⟩,by show(0:Nat)<=1048576;omega⟩
 have f:=(gV.1 (a.job b).1).1;have g:=o6 f;obtain⟨j,k⟩:=s.ph;obtain⟨l,i⟩:=s.nxt;have e:=s.plan;refine⟨⟨by grind [Qo],⟨ω,ω⟩,⟨ω,by rw[e]at i;omega⟩⟩,by show((iA h.G h.a5).2.d.U).length<=1048576;rw[e];omega⟩
def EC(h:ac):Nat->ac × Bool
 | 0=>(h,false)
 | i+1=>if(EC h i).1.a2=true then(mStep (EC h i).1,Mb (EC h i).1) else EC h i
def fin(h:ac):ac × Bool:=EC h 100
def K8(hi:bm h []):bm (started h).1 []/\(started h).1.G=h.G/\(started h).1.e=h.e:=by
 have r:=hi.nums;unfold cv at r;rw[C0]at r;have t:=(me (bI h).length (show 0<=h.c1/\h.c1<=1073741823 by omega) ((bI h).length - 1)).2;have g:=rJ (bI h) (show 0<=h.c1/\h.c1<=1073741823 by omega);have c:cv {h with c1:=(shuf (bI h).length h.c1).2} = true:=by
  unfold cv;rw[C0];unfold shuf;simp only;omega
 cases j:lG (bI h) h.c1 with
 | nil=>
  have f:Ab.started h=({h with c1:=(shuf (bI h).length h.c1).2},false):=by unfold Ab.started;rw[j]
  rw[f];exact⟨{hi with nums:=c},rfl,rfl⟩
 | cons q y=>
  obtain⟨C,D,k⟩:=g q (by rw[j];exact O3 ..);have f:Ab.started h=({h with c1:=(shuf (bI h).length h.c1).2,a2:=true,a5:=Ae (eQ (nth (bI h) q.A.toNat) (nth (bI h) q.B.toNat))},true):=by unfold Ab.started;rw[j]
  rw[f];have d:∀s∈bI h,s∈h.J:=λs u=>un h (z5 _) s (List.mem_of_mem_take u)
  have l:=d _ (ax (xs:=bI h) (i:=q.A.toNat) ω);have n:=d _ (ax (xs:=bI h) (i:=q.B.toNat) ω);generalize nth (bI h) q.A.toNat=a at k l |-;generalize nth (bI h) q.B.toNat=b at k n |-;obtain⟨w,E,F⟩:=u9 k;have o:kN (Ae (eQ a b))=true:=gV.2 ⟨w,by show(0:Int)<=0;omega,by show(0:Int)<=5;omega,by show(0:Int)<=0;omega,by show(0:Int)<=(((eQ a b).U.length:Nat):Int);omega⟩;have p:(∃s∈h.J,s.S=(eQ a b).b0)/\∃s∈h.J,s.S=(eQ a b).b2:=by
   unfold eQ;split
   ·exact⟨⟨b,n,rfl⟩,⟨a,l,rfl⟩⟩
   exact⟨⟨a,l,rfl⟩,⟨b,n,rfl⟩⟩
  exact⟨{hi with nums:=c,job:=λ_=>⟨o,p⟩,noj:=λe=>by cases e},rfl,rfl⟩
def bm.objSz(a:bm h E):∀o∈h.K,0<=o.y/\o.y<=1000:=λx c=>by
 rcases a.oow x c with⟨s,d,e,f⟩|⟨l,b,g,i⟩
 ·have j:=aO (a.L.sok s d)
  have:=D9 (n:=x.y) ω;omega
 have k:=cJ (a.L.lok l b);omega
def Gc(t:Int){size:Int}(c:bm h [])(d:9<=size/\size<=1000):vK h t size=if(EO h size).2<0 then((EO h size).1,-1,4) else(addO (EO h size).1 (EO h size).2 size t,(EO h size).2,0):=by
 unfold vK EO;by_cases a:(aD h.b (nB size:Nat)).2.2=false
 ·rw[CJ a,CJ a]
  exact(CJ (show(-1:Int)<0 by decide)).symm
 rw[CI a,CI a];obtain⟨e,-⟩:=lM c (show(1:Int)<=(nB size:Nat) by unfold nB;omega) (by simpa using a);by_cases b:(k6 h size).2=nB size
 ·rw[CJ b,CJ b]
  exact(CI (show ¬16*(aD h.b (nB size:Nat)).2.1<0 by omega)).symm
 rw[CI b,CI b];exact(CJ (show(-1:Int)<0 by decide)).symm
def EV(h:ac)(t size:Int)(k:bm h []):zzB 85 false [.ptr (bR h),.vI t,.vI size] [.ptr (bR (fA h t size).1),.vI t,.vI size] (.tup [none,none]) [I (fA h t size).2.1,I (fA h t size).2.2]:=by
 have W:=k.lens;have Z:=W.caches;have O:=W.objs;have p:=k.nums;unfold cv at p;rw[C0]at p;have P:=qo k.objSz h.K.length (z5 _);change 0<=qI h/\qI h<=_ at P;have n:=aP t 0 ((h.R.length:Int) - 1);have r:=aP size 1 1000;have D:=Ed h k.objSz ω;have E:=nt size;refine fM 119 [(206,[2,0,0]),(207,[2,0])] [(7,10,[36,37,38,39,40,41,42,43,44,45]),(18,272,[81,82,83,84,85,86,87,89,90,91,92,93,94,95,96,97,0,1,2,3,4,5,6,8,9,10,11,12,13,14,15,16,1016,7,1008,1009,1010,1011,1012,1013,1014,1015,1016,17,18]),(1048594,0,[8])] [(0,0),(0,0),(0,0)] Tryz.func85 rfl (λu q=>?_) (.inr ⟨tV1,tV1,tV1⟩);unfold fA;by_cases h1:1000000<=h.k
 ·rw[CJ (.inl h1)]
  refine σE ?_
  exact kk
 by_cases h2:90000<h.G.Calls
 ·rw[CJ (.inr h2)]
  repeat'(first|refine gE ?_|refine gS (λb=>?_) (λb=>?_)|fail)
  exact kk
 rw[CI ω];by_cases C:¬(0<=t/\t<=h.R.length - 1)
 ·rw[CJ C]
  rw[C1 C]at n
  repeat'(first|refine gE ?_|refine gS (λb=>?_) (λb=>?_)|fail)
  exact kk
 rw[CI C];replace C:=Decidable.not_not.1 C;rw[O0 C]at n;by_cases B:¬(1<=size/\size<=1000)
 ·rw[CJ B]
  rw[C1 B]at r
  repeat'(first|refine gE ?_|refine gS (λb=>?_) (λb=>?_)|fail)
  exact kk
 rw[CI B];replace B:=Decidable.not_not.1 B;rw[O0 B]at r;by_cases X:h.c2<qI h+size
 ·rw[CJ X]
  repeat'(first|refine gE ?_|refine gS (λb=>?_) (λb=>?_)|refine CM (D) ⟨⟨rfl,bZ h⟩,tV1⟩ ?_)
  exact kk
 rw[CI X];by_cases F:0<=aU size
 ·rw[CJ F]
  have hc3:aU size<=3:=by unfold aU;repeat' split<;>omega
  obtain⟨T,rfl⟩:=t5 C.1;obtain⟨K,hK⟩:=t5 F;have o:=FM h T K k ω ω ω;have s:=uk (t:=T) (c:=K) k ω ω ω;rw[hK]at E |-;simp only[O4];generalize f7 h T K=w at o s |-;obtain⟨g,a⟩:=w;have G:g.k=h.k:=s.nx;simp only at o |-;by_cases H:a<0
  ·rw[CJ H]
   repeat'(first|refine gE ?_|refine gS (λb=>?_) (λb=>?_)|refine CM (D) ⟨⟨rfl,bZ h⟩,tV1⟩ ?_)
   exact kk
  rw[CI H];obtain⟨k1,k2⟩:=s.yes (show(0:Int)<=a by omega);have Q:g.K.length<=512:=k1.lens.objs
  repeat'(first|refine gE ?_|refine gS (λb=>?_) (λb=>?_)|refine CM (D) ⟨⟨rfl,bZ h⟩,tV1⟩ ?_)
  refine gn g.K.length (λi=>[(0,bS (bR g)),(1,fN T),(2,fI size),(8,fI a),(9,fN i)]) (λi=>∀(j:Nat)(z:aW),j<i->g.K[j]? = some z->QM a z=false) (λj z hj=>ω) λi k=>?_
  obtain⟨R,J⟩:=k;by_cases S:i<g.K.length/\(nth g.K i).Addr<a
  ·have d:=ar S.1
   refine σE ?_
   (exact dt (i+1) ⟨ω,fH d (C1 ω) J⟩)
  have l:mh (QM a) g.K=i:=oV ω J λz L=>by
   have U:=(C4.1 L).1;have:z=nth g.K i:=(bB L).symm;subst this;exact O0 ω
  have d:i<g.K.length->g.K[i]? = some (nth g.K i):=λV=>ar V
  rw[show addO g a size (T:Nat) = {g with K:=g.K.take i++⟨g.k,a,size,(T:Nat)⟩::g.K.drop i,k:=g.k+1} by unfold addO;rw[pj l]]
  repeat'(first|refine gE ?_|with_reducible refine CH (aa (d ω)) ?_|refine gS (λb=>?_) (λb=>?_)|refine CL rfl (aa (d ω)) rfl ?_|refine MQ.mk rfl (AC g.K) rfl ?_|refine CZ i rfl (by rw[I2];omega) (aN λ_=>rfl) C8 ?_|refine Cf i rfl (by rw[I2];omega) (aN λ_=>rfl) I8 ?_|refine CW (λ_=>rfl) (λ_=>rfl) (by rw[I3];omega) qs ?_|refine Ap.sn (aN λ_=>rfl) rfl (by rw[I2,I3];omega) qs rfl ?_|refine Ap.ins (e:=aW.enc .O) (y:=⟨g.k,a,size,(T:Nat)⟩) rfl (λ_=>rfl) (λ_=>rfl) ω qs ?_)
  all_goals
   exact kk
 rw[CI F];have M:9<=size:=by unfold aU at F;repeat' split at F<;>omega
 have o:=Fo h size k ⟨M,B.2⟩ ω;rw[Gc t k ⟨M,B.2⟩];have Y:(EO h size).1.k=h.k/\(EO h size).1.K=h.K:=by
  unfold EO;split
  ·exact⟨rfl,rfl⟩
  split<;>exact⟨rfl,rfl⟩
 generalize EO h size=w at o Y |-;obtain⟨g,a⟩:=w;obtain⟨G,N⟩:=Y;simp only at o G N |-;have Q:g.K.length<=512:=by rw[N];exact O
 by_cases H:a<0
 ·rw[CJ H]
  repeat'(first|refine gE ?_|refine gS (λb=>?_) (λb=>?_)|refine CM (D) ⟨⟨rfl,bZ h⟩,tV1⟩ ?_)
  exact kk
 rw[CI H]
 repeat'(first|refine gE ?_|refine gS (λb=>?_) (λb=>?_)|refine CM (D) ⟨⟨rfl,bZ h⟩,tV1⟩ ?_)
 refine gn g.K.length (λi=>[(0,bS (bR g)),(1,fI t),(2,fI size),(8,fI a),(9,fN i)]) (λi=>∀(j:Nat)(z:aW),j<i->g.K[j]? = some z->QM a z=false) (λj z hj=>ω) λi k=>?_
 obtain⟨R,J⟩:=k;by_cases S:i<g.K.length/\(nth g.K i).Addr<a
 ·have d:=ar S.1
  refine σE ?_
  (exact dt (i+1) ⟨ω,fH d (C1 ω) J⟩)
 have l:mh (QM a) g.K=i:=oV ω J λz L=>by
  have U:=(C4.1 L).1;have:z=nth g.K i:=(bB L).symm;subst this;exact O0 ω
 have d:i<g.K.length->g.K[i]? = some (nth g.K i):=λV=>ar V
 rw[show addO g a size t = {g with K:=g.K.take i++⟨g.k,a,size,t⟩::g.K.drop i,k:=g.k+1} by unfold addO;rw[pj l]]
 repeat'(first|refine gE ?_|with_reducible refine CH (aa (d ω)) ?_|refine gS (λb=>?_) (λb=>?_)|refine CL rfl (aa (d ω)) rfl ?_|refine MQ.mk rfl (AC g.K) rfl ?_|refine CZ i rfl (by rw[I2];omega) (aN λ_=>rfl) C8 ?_|refine Cf i rfl (by rw[I2];omega) (aN λ_=>rfl) I8 ?_|refine CW (λ_=>rfl) (λ_=>rfl) (by rw[I3];omega) qs ?_|refine Ap.sn (aN λ_=>rfl) rfl (by rw[I2,I3];omega) qs rfl ?_|refine Ap.ins (e:=aW.enc .O) (y:=⟨g.k,a,size,t⟩) rfl (λ_=>rfl) (λ_=>rfl) ω qs ?_)
 all_goals
  exact kk
def NA(h:ac)(a n:Int)(o:h.H.length<=4096)(i:∀l∈h.H,cq l=true)(j:sW h a<0):zzB 212 false [.ptr (bR h),.vI a,.vI n] [.ptr (bR h),.vI a,.vI n] .one [B false]:=by
 have b:∀l∈h.H,l.S*16≠a:=λl c e=>by
  have:=BD (p:=mZ a) c (O0 e);unfold sW at j;omega
 refine fM 136 [(353,[2,0])] [(8,6,[49,50,51,52,53,54]),(9,10,[56,57,58,59,60,61,62,63,64,65]),(20,270,[123,124,125,126,127,128,129,130,131,122,132,133,134,135,0,1,2,3,4,5,6,7,8,9,10,11,12,13,14,1011])] [(0,0),(0,0),(0,0)] Tryz.func212 rfl (λu q=>?_)
 refine σP ?_
 refine CV (ι:=Nat) (λk=>[(0,bS (bR h)),(1,fI a),(2,fI n),(7,fN k)]) (λk=>k<=h.H.length) (λk=>h.H.length - k) (0) ?_ (I1 _) λk r=>?_
 ·exact wE
 by_cases d:k<h.H.length
 ·have g:=ar d
  have t:=b _ (ax d);have w:=bf (i _ (ax d))
  refine σB ?_
  (exact dt (k+1) ω)
 refine σE ?_
 exact kk
def XX(h:ac)(a:Int)(m:Nat):bR {h with G:=zK h.G a (m+1)} = (bR {h with G:=zK h.G a m}).set 0 (.s .own (((zK h.G a m).F.V.U.map (aE .own)).set (ay (zK h.G a m).F.Q ((a+m) / 16)).j.toNat ((aE .own (nth (zK h.G a m).F.V.U (fQ (zK h.G a m) (a+m)))).set 0 (.s .own (((nth (zK h.G a m).F.V.U (fQ (zK h.G a m) (a+m))).map (rI .own)).set ((a+m) % 16).toNat (splice (rI .own (nth (nth (zK h.G a m).F.V.U (fQ (zK h.G a m) (a+m))) ((a+m) % 16).toNat)) 0 [I 0])))))):=
 PZ {h with G:=zK h.G a m} (a+m) 0
def ic(h:ac)(i k:Nat)(n:Int)(K:af):ac:={h with G:=K,H:=h.H.set k (trimL (nth h.H k) n),K:=h.K.set i {nth h.K i with y:=n}}
def Gh(h:ac)(i k:Nat)(n:Int)(K:af):(ic h i k n K).K.map (aW.enc .own)=(h.K.map (aW.enc .own)).set i (splice (aW.enc .own (nth h.K i)) 2 [I n]):=by
 simp[ic,CC,aW.enc,splice]
def x5(h:ac)(i:Nat)(n:Int)(d:bm h [])(F:i<h.K.length)(hg:0<=sW h (nth h.K i).Addr):zzB 212 false [.ptr (bR h),.val none [I (nth h.K i).Addr],.vI n] [.ptr (bR (if je h i n then trimH h i (sW h (nth h.K i).Addr).toNat n else h)),.val none [I (nth h.K i).Addr],.vI n] .one [B (decide (je h i n))]:=by
 have c:=d.lens;have hnl:=c.larges;have hno:=c.objs;have hpg:fT h<=32:=c.ents;obtain⟨f1,f2,f3⟩:=eZ (mZ (nth h.K i).Addr) h.H hg;obtain⟨g,l⟩:=t5 hg;have b:g<h.H.length:=by unfold sW at l;omega
 have W:(nth h.H g).S*16=(nth h.K i).Addr:=by
  have:=of_decide_eq_true f2;rw[show(cy (mZ (nth h.K i).Addr) h.H).toNat=g by unfold sW at l;omega]at this;exact this
 have G:∀k,k<g->(nth h.H k).S*16≠(nth h.K i).Addr:=λk hk e=>by
  have H:k<h.H.length:=ω
  have hok1:=bf (d.L.lok _ (ax H));have hok2:=bf (d.L.lok _ (ax b));have:=d.L.one k g H b 0 0 ω ω ω;omega
 have o:je h i n↔9<=n/\n<=(nth h.H g).y:=by
  unfold je;rw[l,O4];exact⟨λx=>x.2,λx=>⟨ω,x⟩⟩
 rw[l,O4];have hbd:=pE d (ax F);obtain⟨-,X,r⟩:=d.objAt (ax F);have Y:kR h (nth h.K i).Addr=i:=by
  have h2:=(d.objAt (ax F)).1;exact i6 (f:=(·.Addr)) (iu d.osr) h2 F (by rw[X])
 rw[Y]at r;have y:=ar F;have hxg:=ar b;have T:=Dy (nth h.H g) n (d.L.lok _ (ax b));have h8:=d.L.lok _ (ax b);unfold cq at h8;rw[C0]at h8;refine fM 136 [(353,[2,0])] [(8,6,[49,50,51,52,53,54]),(9,10,[56,57,58,59,60,61,62,63,64,65]),(20,270,[123,124,125,126,127,128,129,130,131,122,132,133,134,135,0,1,2,3,4,5,6,7,8,9,10,11,12,13,14,1011])] [(0,0),(0,0),(0,0)] Tryz.func212 rfl (λu q=>?_)
 refine σP ?_
 refine CV (ι:=Nat) (λk=>[(0,bS (bR h)),(1,fI ((nth h.K i).Addr)),(2,fI n),(7,fN k)]) (λk=>k<=g) (λk=>g - k) (0) ?_ (I1 _) λk hk=>?_
 ·exact wE
 have j:=ar (xs:=h.H) (i:=k) ω;have hfk:=bf (d.L.lok _ (ax (xs:=h.H) (i:=k) ω));by_cases e:k=g;rotate_left
 ·have hne:=G k ω
  refine σB ?_
  (exact dt (k+1) ω)
 subst e;by_cases D:9<=n/\n<=(nth h.H k).y;rotate_left
 ·rw[CI (by rw[o];exact D),C1 (by rw[o];exact D)]
  rw[CI D]at T
  refine σB ?_
  exact kk
 rw[CJ (by rw[o];exact D),O0 (by rw[o];exact D)];rw[CJ D]at T;have t:=λm Z=>DP d b D (m:=m) Z
 have w:=λm=>(y5 h.G (16*(nth h.H k).S+n) m).1
 have J:=λa U=>oN d b (a:=a) U
 have hsz:n<=16*(nth h.H k).a0:=ω
 generalize hM:(16*((n+15) / 16) - n).toNat=M at *;have hfl:∀m,(zK h.G (16*(nth h.H k).S+n) m).F.V.U.length=h.G.F.V.U.length:=λm=>by
  induction m with
  | zero=>rfl
  | succ m ih=>show(List.set _ _ _).length=_;rw[C3];exact ih
 have cO:=vL {h with H:=h.H.set k (trimL (nth h.H k) n)} (nth h.K i).Addr (by show h.K.length<=_;omega);change ah _ _ _ [.val (some 24) (ac.enc .O {h with H:=h.H.set k (trimL (nth h.H k) n)}),_] _ [I (cy (jO (nth h.K i).Addr) h.K)]at cO;rw[r]at cO;have N:=bZ {h with H:=h.H.set k (trimL (nth h.H k) n)};have heL:bR {h with H:=h.H.set k (trimL (nth h.H k) n)} = (bR h).set 7 (.s .own ((h.H.map (a8.enc .own)).set k (a8.enc .own (trimL (nth h.H k) n)))):=by simp[bR,CC]
 rw[heL]at N
 repeat'(first|refine gB ?_|refine CR rfl rfl (aa j) rfl (O2 rfl) rfl ?_|refine CM (cO) ⟨⟨rfl,N⟩,⟨rfl,rfl⟩,tV1⟩ ?_|refine CR rfl rfl (aa y) rfl (O2 rfl) rfl ?_)
 rw[<-W];have e0:ic h i k n h.G=ic h i k n (zK h.G (16*(nth h.H k).S+n) 0):=rfl;have hoo:C.s .own ((ic h i k n (zK h.G (16*(nth h.H k).S+n) 0)).H.map (a8.enc .own))=C.s .own ((h.H.map (a8.enc .own)).set k (a8.enc .own (trimL (nth h.H k) n))):=by simp[ic,CC]
 have hoo2:C.s .own ((ic h i k n (zK h.G (16*(nth h.H k).S+n) 0)).K.map (aW.enc .own))=C.s .own ((h.K.map (aW.enc .own)).set i (splice (aW.enc .own (nth h.K i)) 2 [I n])):=O1 _ (Gh h i k n _)
 (conv=>whnf)
 refine CV (ι:=Nat) (λm=>[(0,bS (bR (ic h i k n (zK h.G (16*(nth h.H k).S+n) m)))),(1,fI ((nth h.H k).S*16)),(8,bS (a8.enc .own (trimL (nth h.H k) n))),(9,bS (aC.enc .own (k7 (nth h.H k) n))),(11,fI ((16*(nth h.H k).S+n)+(m:Nat)))]) (λm=>m<=M) (λm=>M - m) (0) ?_ (I1 _) λm Z=>?_
 ·exact wE
 have hmod:IntKind.i64.wrap 0=0:=rfl;by_cases lm:m<M
 ·have U:0<=(16*(nth h.H k).S+n)+(m:Nat)/\(16*(nth h.H k).S+n)+(m:Nat)<512:=ω
  have O:=J ((16*(nth h.H k).S+n)+(m:Nat)) ω;have p:=t m Z;rw[<-w m]at O;have hks:=bk p;have c2:=dC (zK h.G (16*(nth h.H k).S+n) m).F.Q (((16*(nth h.H k).S+n)+(m:Nat)) / 16) hks.1.2;obtain⟨-,-,-,q0,q1⟩:=bU p O;have hul:=(bi.1 (aF.1 p).2.1).2.2.1;have Q:fQ (zK h.G (16*(nth h.H k).S+n) m) ((16*(nth h.H k).S+n)+(m:Nat))<(zK h.G (16*(nth h.H k).S+n) m).F.V.U.length:=by unfold fQ;omega
  have E:(zK h.G (16*(nth h.H k).S+n) m).F.V.U[(ay (zK h.G (16*(nth h.H k).S+n) m).F.Q (((16*(nth h.H k).S+n)+(m:Nat)) / 16)).j.toNat]? = some _:=ar Q;have h16:=(Jg p Q).1;have R:=ar (xs:=nth (zK h.G (16*(nth h.H k).S+n) m).F.V.U (fQ (zK h.G (16*(nth h.H k).S+n) m) ((16*(nth h.H k).S+n)+(m:Nat)))) (i:=(((16*(nth h.H k).S+n)+(m:Nat)) % 16).toNat) (by rw[h16];omega);have htm:((16*(nth h.H k).S+n)+(m:Nat)).tmod 16=((16*(nth h.H k).S+n)+(m:Nat)) % 16:=fg U.1;have hpu:=XX (ic h i k n h.G) (16*(nth h.H k).S+n) m;have hwr:=lQ U;have hst:(trimL (nth h.H k) n).a0=(n+15) / 16:=rfl
  repeat'(first|refine gE ?_|refine CT qs ?_|refine CS hwr ?_|refine CX htm ?_|refine CM (c2) ⟨⟨rfl,Cj _⟩,⟨rfl,rfl⟩,tV1⟩ ?_|refine CQ q0 (aa E) ?_|refine CQ ω (aa R) ?_|refine Pu.two rfl rfl (aa E) rfl rfl rfl (aa R) rfl (z5 _) hpu ?_)
  (exact dt (m+1) ω)
 obtain rfl:m=M:=ω
 have hst:(trimL (nth h.H k) n).a0=(n+15) / 16:=rfl;have hkM:=t m (z5 _);have S:(zK h.G (16*(nth h.H k).S+n) m).F.Q.M.length=fT h:=by rw[w];rfl
 have hTK:sA h k n=zK h.G (16*(nth h.H k).S+n) m:=by unfold sA;rw[hM]
 unfold trimH zn;rw[hTK];generalize zK h.G (16*(nth h.H k).S+n) m=K at *;have hN:((dE (nth h.H k) n:Nat):Int)=(nth h.H k).a0 - (n+15) / 16:=by unfold dE;omega
 have hrA:0<dE (nth h.H k) n->k7 (nth h.H k) n = ⟨(nth h.H k).S+(n+15) / 16,(dE (nth h.H k) n:Nat)⟩:=λhp=>by unfold k7;rw[CJ ω,hN]
 have hrB:¬0<dE (nth h.H k) n->k7 (nth h.H k) n = ⟨0,0⟩:=λhp=>by unfold k7;rw[CI ω]
 generalize dE (nth h.H k) n=P at *;by_cases V:0<P
 ·rw[CJ V]
  have hr:=hrA V;rw[hr]
  refine σE ?_
  refine CV (ι:=Nat) (λx=>[(0,bS (bR (ic h i k n (dJ K ((nth h.H k).S+(n+15) / 16) x)))),(9,bS ([I ((nth h.H k).S+(n+15) / 16),I (P:Nat)])),(13,fI ((nth h.H k).S+(n+15) / 16+(x:Nat)))]) (λx=>x<=P) (λx=>P - x) (0) ?_ (I1 _) λx j=>?_
  ·exact wE
  by_cases lx:x<P
  ·have c3:=rj (ic h i k n (dJ K ((nth h.H k).S+(n+15) / 16) x)) ((nth h.H k).S+(n+15) / 16+(x:Nat)) (kK hkM _ _)
   refine σE ?_
   (exact dt (x+1) ω)
  obtain rfl:x=P:=ω
  have c4:=jy (ic h i k n (dJ K ((nth h.H k).S+(n+15) / 16) x));rw[show fT (ic h i k n (dJ K ((nth h.H k).S+(n+15) / 16) x))=fT h from(ip _ _ _).1.trans S]at c4;have c5:=pV (fT h:Nat) h.b ⟨(nth h.H k).S+(n+15) / 16,(x:Nat)⟩ ⟨ω,ω⟩ ⟨by have:=c.free;omega,λ_ _=>tV1⟩
  repeat'(first|refine gE ?_|refine CM (c4) ⟨bZ _,tV1⟩ ?_|refine CM (c5) ⟨⟨rfl,rfl⟩,⟨rfl,er h.b⟩,⟨rfl,rfl⟩,tV1⟩ ?_)
  exact kk
 rw[CI V];obtain rfl:P=0:=ω
 have hr:=hrB V;rw[hr]
 refine σE ?_
 refine CV (ι:=Nat) (λx=>[(0,bS (bR (ic h i k n K))),(9,bS ([I 0,I 0])),(13,fI 0)]) (λx=>x=0) (λx=>0) (0) ?_ (rfl) λx j=>?_
 ·exact wE
 subst j
 refine σE ?_
 exact kk
def Ei(a:α)(k:Nat):List.replicate (k+1) a=List.replicate k a++[a]:=List.replicate_succ' ..
def E0(n k:Nat):aQ.enc .own ⟨List.replicate k (List.replicate 16 0),List.replicate n false⟩ = [.s .own (List.replicate k [.s .own (List.replicate 16 [I 0])]),.s .own (List.replicate n [B false])]:=by
 simp[aQ.enc,aE,rI,rB,List.map_replicate]
def sK(n:Nat)(e:1<=n/\n<=32):zzA 491 false [.vI (n:Nat)] (.tup [some 2,none]) (aQ.enc .own (fm n)++[B true]):=by
 have c:=aG ((n:Nat):Int) 1 32;rw[O0 ω]at c;have a:=a7 (b:=[B true]) (aQ.enc_fr (fm n)) ⟨tV1,tV1⟩;rw[show aQ.enc .own (fm n)=_ from E0 n n]at a |-;refine fO 25 [(7,4,[18,19,20,21])] Tryz.func491 rfl ?_ (.inr a)
 repeat'(first|refine gP ?_|refine Mk.mk n rfl rfl ω (zc ω qs) rfl ?_)
 refine lp0 n (λk=>[(0,fN n),(2,bS [.z,.z]),(4,bS [.s .own (List.replicate k [.s .own (List.replicate 16 [I 0])]),.s .own (List.replicate n [B false])]),(5,fN k)]) λk g=>?_
 by_cases h:k<n
 ·repeat'(first|refine gE ?_|refine Mk.mk 16 rfl rfl qs qs rfl ?_|refine Ap.sn (λr d=>by rw[(List.mem_replicate.1 d).2];rfl) rfl kd qs (Ei _ k) ?_)
  (exact dt (k+1) ω)
 obtain rfl:k=n:=ω
 refine σE ?_
 rfl
def vt(n:Nat)(e:1<=n/\n<=32):zzA 492 false [.vI (n:Nat)] (.tup [some 1,none]) (aM.enc .own (eK n)++[B true]):=by
 have c:=aG ((n:Nat):Int) 1 32;rw[O0 ω]at c;have a:=a7 (b:=[B true]) (aM.enc_fr (eK n)) ⟨tV1,tV1⟩;have d:aM.enc .own (eK n)=[.s .own (List.replicate n [I 0,I 0])]:=by simp[aM.enc,eK,aS.enc,List.map_replicate]
 rw[d]at a |-;refine fO 11 [] Tryz.func492 rfl ?_ (.inr a)
 repeat'(first|refine gP ?_|refine Mk.mk n rfl rfl ω (zc ω qs) rfl ?_)
 rfl
def rX(p f:Nat)(a:1<=p/\p<=32)(b:1<=f/\f<=32):zzA 435 false [.vI (p:Nat),.vI (f:Nat)] (.tup [some 3,none]) (aL.enc .own ⟨fm f,eK p⟩++[B true]):=by
 refine fO 30 [] Tryz.func435 rfl ?_ (.inr (a7 (aL.enc_fr _) ⟨tV1,tV1⟩))
 repeat'(first|refine gP ?_|refine CF (sK f b) ?_|refine CF (vt p a) ?_)
 rfl
def PR(n:Nat):TB [.s .own (List.replicate n [.z]),.s .own (List.replicate n [.z]),B true] (aI.enc .own (fp n)++[B true]):=by
 have e:aI.enc .own (fp n)++[B true]=[.s .own (List.replicate n [.s .own []]),.s .own (List.replicate n [.s .own []]),B true]:=by simp[aI.enc,fp,bg,aE,List.map_replicate]
 rw[e];exact .cons (.rep (.cons .z_ .nil)) (.cons (.rep (.cons .z_ .nil)) (.cons (.rfl_ _) .nil))
def r8(n:Nat)(b:1<=n/\n<=4):zzA 328 false [.vI (n:Nat)] (.tup [some 2,none]) (aI.enc .own (fp n)++[B true]):=by
 have a:=aG ((n:Nat):Int) 1 4;rw[O0 ω]at a;refine fO 13 [(3,4,[8,9,10,11])] Tryz.func328 rfl ?_ (.inr (a7 (Cn _) ⟨tV1,tV1⟩))
 repeat'((conv=>whnf);first|with_reducible (first|refine Lm ?_|refine Wm ω ?_|refine Bn ?_|refine km.dk rfl ?_)|refine Bt ?_|refine Bu ?_|refine CG ?_|refine CF (a) ?_|refine Mk.mk n rfl rfl ω (zc ω qs) rfl ?_)
 exact PR n
def rA(n:Nat)(b:1<=n/\n<=4):zzA 324 false [.vI (n:Nat)] (.tup [some 2,none]) (aI.enc .own (fp n)++[B true]):=by
 have a:=aP ((n:Nat):Int) 1 4;rw[O0 ω]at a;refine fO 13 [(3,4,[8,9,10,11])] Tryz.func324 rfl ?_ (.inr (a7 (Cn _) ⟨tV1,tV1⟩))
 repeat'((conv=>whnf);first|with_reducible (first|refine Lm ?_|refine Wm ω ?_|refine Bn ?_|refine km.dk rfl ?_)|refine Bt ?_|refine Bu ?_|refine CG ?_|refine CF (a) ?_|refine Mk.mk n rfl rfl ω (zc ω qs) rfl ?_)
 exact PR n
def Kz:TB [.s .own (List.replicate 4 [.z])] (aB.enc .own gg):=.cons (.rep (.cons .z_ .nil)) .nil
def FA:zzA 330 false [] .agg (aB.enc .own gg):=by
 refine fO 3 [] Tryz.func330 rfl ?_ (.inr (Cp _))
 repeat'((conv=>whnf);first|with_reducible (first|refine Lm ?_|refine Wm ω ?_|refine Bn ?_|refine km.dk rfl ?_)|refine Bt ?_|refine Bu ?_|refine CG ?_|refine Mk.mk 4 rfl rfl qs qs rfl ?_)
 exact Kz
def Ga:zzA 325 false [] .agg (aB.enc .own gg):=by
 refine fO 3 [] Tryz.func325 rfl ?_ (.inr (Cp _))
 repeat'((conv=>whnf);first|with_reducible (first|refine Lm ?_|refine Wm ω ?_|refine Bn ?_|refine km.dk rfl ?_)|refine Bt ?_|refine Bu ?_|refine CG ?_|refine Mk.mk 4 rfl rfl qs qs rfl ?_)
 exact Kz
def Jt:zzA 329 false [.vI 16] (.tup [some 2,none]) (bh.enc .own ⟨16,[]⟩++[B true]):=by
 refine fO 10 [] Tryz.func329 rfl ?_ (.inr (a7 (bh.enc_fr _) ⟨tV1,tV1⟩))
 repeat'((conv=>whnf);first|with_reducible (first|refine Lm ?_|refine Wm ω ?_|refine Bn ?_|refine km.wk rfl ?_)|refine Bt ?_|refine Bu ?_|refine CG ?_|refine CF (aG 16 0 500) ?_)
 exact⟨rfl,rfl,rfl,tV1⟩
def xR:zzA 326 false [.vI 16] (.tup [some 2,none]) (bh.enc .own ⟨16,[]⟩++[B true]):=by
 refine fO 10 [] Tryz.func326 rfl ?_ (.inr (a7 (bh.enc_fr _) ⟨tV1,tV1⟩))
 repeat'((conv=>whnf);first|with_reducible (first|refine Lm ?_|refine Wm ω ?_|refine Bn ?_|refine km.wk rfl ?_)|refine Bt ?_|refine Bu ?_|refine CG ?_|refine CF (aP 16 0 500) ?_)
 exact⟨rfl,rfl,rfl,tV1⟩
def caps(h:ac)(k:Nat):ac:={h with R:=List.replicate k gg}
def Gx(k:Nat):(List.replicate (k+1) gg).map (aB.enc .own)=(List.replicate k gg).map (aB.enc .own)++[aB.enc .own gg]:=by rw[Ei,CB];rfl
variable{k:Nat}
def KO : ∀r∈(List.replicate k gg).map (aB.enc .own),r.length=1:=aN λ_=>rfl
structure sg where
 i:Nat
 h:Int
deriving Inhabited
def w64(x:Int):Int:=IntKind.i64.wrap x
def Zq(h:Int):Int:=w64 (w64 (h*6364136223846793005)+1442695040888963407)
def Z5(a b:Int):Int:=w64 ((BitVec.ofInt IntKind.i64.bits a ^^^ BitVec.ofInt IntKind.i64.bits b).toNat:Nat)
def and255(a:Int):Int:=w64 ((BitVec.ofInt IntKind.i64.bits a &&& BitVec.ofInt IntKind.i64.bits 255).toNat:Nat)
def ZL(h:Int)(n:Nat):Int:=h.fdiv (2 ^ (min n IntKind.i64.bits))
def Xl(h:Int):Int:=and255 (Z5 (ZL h 33) (ZL h 45))
def mX(a:List Int)(c:sg):Int × sg:=if c.i<a.length then(and255 (Xl (Zq c.h)+nth a c.i),⟨c.i+1,Zq c.h⟩) else(Xl (Zq c.h),⟨c.i,Zq c.h⟩)
def Xp(a:List Int)(c:sg):Int × sg:=
 ((mX a c).1*16777216+(mX a (mX a c).2).1*65536+(mX a (mX a (mX a c).2).2).1*256+(mX a (mX a (mX a (mX a c).2).2).2).1,(mX a (mX a (mX a (mX a c).2).2).2).2)
def fC(a:List Int)(c:sg)(n:Int):Int × sg:=if n<=256 then((mX a c).1 % n,(mX a c).2) else((Xp a c).1 % n,(Xp a c).2)
def zq(a:List Int)(c:sg)(l:List Int):Int × sg:=(nth l (fC a c (l.length:Nat)).1.toNat,(fC a c (l.length:Nat)).2)
def YE(a:List Int):Nat->Nat->List Int->sg->List Int × sg
 | 0,_,out,c=>(out,(fC a c 4).2)
 | f+1,i,out,c=>if(i:Int)<(fC a c 4).1 then YE a f (i+1) (out++[(fC a (fC a c 4).2 12).1]) (fC a (fC a c 4).2 12).2 else(out,(fC a c 4).2)
def Z2(a:List Int)(c:sg):List Int × sg:=YE a 4 0 [] c
def Zw(a:List Int)(c:sg):Int × sg:=fC a c 7
def ZH(a:List Int)(c:sg):Int × sg:=fC a (Zw a c).2 3
def ZG(a:List Int)(c:sg):Int × sg:=fC a (ZH a c).2 100
def ZE(a:List Int)(c:sg):Int × sg:=fC a (ZG a c).2 4
def ZD(a:List Int)(c:sg):List Int × sg:=Z2 a (ZE a c).2
def Za(a:List Int)(c:sg):eU:=⟨(6+(Zw a c).1).toNat,(6+(Zw a c).1 - (ZE a c).1).toNat,(1+(ZH a c).1).toNat,40+(ZG a c).1,(ZD a c).1⟩
def VB(a:List Int)(c:sg):Int × sg:=fC a c 3
def Yu(a:List Int)(c:sg)(ids:Int):Int × sg:=fC a (VB a c).2 ids
def A4(a:List Int)(c:sg)(ids:Int):Int × sg:=fC a (Yu a c ids).2 20
def szs:List Int:=[1,1,2,2,3,4,4,5,8,9,20]
def X3(a:List Int)(c:sg)(ids:Int):bF × sg:=
 if(A4 a c ids).1<=6 then(⟨1,(VB a c).1,(zq a (A4 a c ids).2 szs).1,0,0⟩,(zq a (A4 a c ids).2 szs).2)
 else if(A4 a c ids).1<=9 then(⟨2,(VB a c).1,1+(Yu a c ids).1,0,0⟩,(A4 a c ids).2)
 else if(A4 a c ids).1<=12 then(⟨3,(VB a c).1,1+(Yu a c ids).1,(fC a (A4 a c ids).2 4).1,1+(fC a (fC a (A4 a c ids).2 4).2 999).1⟩,(fC a (fC a (A4 a c ids).2 4).2 999).2)
 else if(A4 a c ids).1=13 then(⟨4,(VB a c).1,1+(Yu a c ids).1,0,9+(fC a (A4 a c ids).2 10).1⟩,(fC a (A4 a c ids).2 10).2)
 else if(A4 a c ids).1=14 then(⟨(zq a (A4 a c ids).2 [5,6]).1,(VB a c).1,1+(Yu a c ids).1,0,0⟩,(zq a (A4 a c ids).2 [5,6]).2)
 else if(A4 a c ids).1=15 then(⟨7,(VB a c).1,1+(Yu a c ids).1,0,0⟩,(A4 a c ids).2)
 else if(A4 a c ids).1=16 then(⟨8,(VB a c).1,(zq a (A4 a c ids).2 [1,30,60,120]).1,0,0⟩,(zq a (A4 a c ids).2 [1,30,60,120]).2)
 else if(A4 a c ids).1=17 then(⟨9,(VB a c).1,1+(Yu a c ids).1,0,0⟩,(A4 a c ids).2)
 else(⟨10,(VB a c).1,(zq a (A4 a c ids).2 [1,2,3,10,30]).1,0,0⟩,(zq a (A4 a c ids).2 [1,2,3,10,30]).2)
def Qq(a:List Int)(c:sg):Nat->List bF × sg
 | 0=>([],(fC a c 41).2)
 | i+1=>((Qq a c i).1++[(X3 a (Qq a c i).2 (1+(i:Int) / 2)).1],(X3 a (Qq a c i).2 (1+(i:Int) / 2)).2)
def Xs(a:List Int)(c:sg):List bF × sg:=Qq a c (fC a c 41).1.toNat
def Zm(a:List Int):Nat->Int
 | 0=>w64 (98801+(a.length:Nat))
 | i+1=>w64 ((BitVec.ofInt IntKind.i64.bits (w64 (w64 (w64 (Zm a i*131)+nth a i)+7)) &&& BitVec.ofInt IntKind.i64.bits 1073741823).toNat:Nat)
def YD(a:List Int):sg:=⟨0,Zm a (min a.length 4000)⟩
def Vq(a:List Int):sg:=(ZD a (YD a)).2
def drawn(a:List Int):aR:=(AI (Za a (YD a)) (Xs a (Vq a)).1 (Xs a (Vq a)).1.length).1
structure Rq where
 i:Nat
 out:List Int
 c:sg
def eU.enc(o:eL)(c:eU):List C:=[I (c.a0:Nat),I (c.V:Nat),I (c.c4:Nat),I c.c2,.s o (c.a.map (rI o))]
def tn(n:Nat)(e:1<=n/\n<=32):zzA 489 false [.vI (n:Nat)] (.tup [some 2,none]) (aQ.enc .own (fm n)++[B true]):=by
 have c:=aP ((n:Nat):Int) 1 32;rw[O0 ω]at c;have a:=a7 (b:=[B true]) (aQ.enc_fr (fm n)) ⟨tV1,tV1⟩;rw[show aQ.enc .own (fm n)=_ from E0 n n]at a |-;refine fO 28 [(7,4,[16,17,18,19])] Tryz.func489 rfl ?_ (.inr a)
 refine σP ?_
 refine lp0 n (λk=>[(0,fN n),(2,bS [.z,.z]),(4,bS [.s .own (List.replicate k [.s .own (List.replicate 16 [I 0])]),.s .own (List.replicate k [B false])]),(5,fN k)]) λk g=>?_
 by_cases h:k<n
 ·repeat'(first|refine gE ?_|refine Mk.mk 16 rfl rfl qs qs rfl ?_|refine Ap.sn (λr d=>by rw[(List.mem_replicate.1 d).2];rfl) rfl kd qs (Ei _ k) ?_)
  (exact dt (k+1) ω)
 obtain rfl:k=n:=ω
 refine σE ?_
 rfl
def vp(n:Nat)(e:1<=n/\n<=32):zzA 490 false [.vI (n:Nat)] (.tup [some 1,none]) (aM.enc .own (eK n)++[B true]):=by
 have c:=aP ((n:Nat):Int) 1 32;rw[O0 ω]at c;have a:=a7 (b:=[B true]) (aM.enc_fr (eK n)) ⟨tV1,tV1⟩;have d:aM.enc .own (eK n)=[.s .own (List.replicate n [I 0,I 0])]:=by simp[aM.enc,eK,aS.enc,List.map_replicate]
 rw[d]at a |-;refine fO 11 [] Tryz.func490 rfl ?_ (.inr a)
 repeat'(first|refine gP ?_|refine Mk.mk n rfl rfl ω (zc ω qs) rfl ?_)
 rfl
def se(p f:Nat)(a:1<=p/\p<=32)(b:1<=f/\f<=32):zzA 434 false [.vI (p:Nat),.vI (f:Nat)] (.tup [some 3,none]) (aL.enc .own ⟨fm f,eK p⟩++[B true]):=by
 refine fO 30 [] Tryz.func434 rfl ?_ (.inr (a7 (aL.enc_fr _) ⟨tV1,tV1⟩))
 repeat'(first|refine gP ?_|refine CF (tn f b) ?_|refine CF (vp p a) ?_)
 rfl
def sZ(p f:Nat)(a:List Int)(b:1<=p/\p<=32)(c:1<=f/\f<=32)(d:a.length<=40/\∀x∈a,0<=x):zzA 323 false [.vI (p:Nat),.vI (f:Nat),.val none (aE .O a)] (.tup [some 5,none]) (af.enc .own (bJ p f a)++[B true]):=by
 have e:=qf b c d;have h:=d.1;have g:=lL (bJ p f a) (bk e);rw[e]at g;refine fO 31 [(2,260,[17,18,19,10,0,1,2,5,3,1000,1005,4,1005,6])] Tryz.func323 rfl ?_ (.inr (a7 (Ci _) ⟨tV1,tV1⟩))
 repeat'(first|refine gP ?_|refine CF (se p f b c) ?_|refine CM (g) ⟨⟨rfl,CU (bJ p f a)⟩,tV1⟩ ?_|refine CW (λ_=>rfl) (λ_=>rfl) ω qs ?_|refine Ce (λ_=>rfl) (λ_=>rfl) ω qs ?_)
 rfl
def YV(p f t:Nat)(lim:Int)(a:List Int)(k:Nat):ac:={caps (uF p f t lim a) k with a1:=⟨0,[]⟩}
def HP(p f t:Nat)(lim:Int)(a:List Int)(c:1<=p/\p<=32)(d:1<=f/\f<=32)(e:1<=t/\t<=4)(g:0<=lim/\lim<=1000)(h:a.length<=40/\∀x∈a,0<=x):zzA 171 false [.vI (p:Nat),.vI (f:Nat),.vI (t:Nat),.vI lim,.val none (aE .O a)] (.tup [some 24,none]) (ac.enc .own (uF p f t lim a)++[B true]):=by
 have b:=aP lim 0 1000;rw[O0 g]at b;refine fO 66 [(9,4,[54,55,56,57])] Tryz.func171 rfl ?_ (.inr (a7 (ac.enc_fr _) ⟨tV1,tV1⟩))
 repeat'(first|refine gP ?_|refine CF (sZ p f a c d h) ?_|refine CF (rA t e) ?_|refine CF (xR) ?_)
 refine lp0 t (λk=>[(2,fN t),(10,bS [.z,.z,.z,I 0,.z,.z,.z,.z,.z,.z,.z,.z,I 0,.z,I 0,I 0,I 0,I 0,B false,I 0,I 0,.z,I 0,I 0]),(16,bS (ac.enc .own (YV p f t lim a k))),(17,fN k)]) λk i=>?_
 by_cases j:k<t
 ·repeat'(first|refine gE ?_|refine CF (Ga) ?_|refine Ap.sn KO rfl (by rw[I2];show(List.replicate _ gg).length+1<=_;rw[O6];omega) qs (Gx k) ?_)
  (exact dt (k+1) ω)
 obtain rfl:k=t:=ω
 repeat'(first|refine gE ?_|refine CF (xR) ?_)
 rfl
def KQ:zzA 172 false [] .agg (au.enc .own ⟨1,[]⟩):=by
 refine fO 2 [] Tryz.func172 rfl ?_ (.inr (Cr _))
 repeat'((conv=>whnf);first|with_reducible (first|refine Lm ?_|refine Wm ω ?_|refine Bn ?_|refine km.wk rfl ?_)|refine Bt ?_|refine Bu ?_|refine CG ?_)
 exact⟨rfl,rfl,tV1⟩
def vi(c:eU)(h:KB c):zzA 55 false [.val (some 5) (eU.enc .O c)] (.tup [some 26,none]) (aR.enc .own (world0 c)++[B true]):=by
 have a:=HP c.a0 c.V c.c4 c.c2 c.a h.p h.f h.t h.l h.r;refine fO 26 [(4,2,[23,24])] Tryz.func55 rfl ?_ (.inr (a7 (aR.enc_fr _) ⟨tV1,tV1⟩))
 repeat'(first|refine gP ?_|refine CF (KQ) ?_)
 rfl
def fE(o:eL)(l:List bF):List C:=[.s o (l.map (bF.enc o))]
def bF.enc_fr(x:bF):gl (bF.enc .own x):=⟨tV1,tV1,tV1,tV1,tV1,tV1⟩
def Rz(l:List bF):gl (fE .own l):=⟨⟨.inl λh=>(by cases h),bj _ _ λy _=>bF.enc_fr y⟩,tV1⟩
def rfs(h:ac):List Int:=h.G.a
def J8(k:af)(p:Int):(dY k p).1.a=k.a:=by unfold dY;split<;>rfl
def wT(k:af)(p:Int):∀n,(bL k p n).1.a=k.a
 | 0=>rfl
 | n+1=>by
  unfold bL;split
  ·exact(J8 _ _).trans (wT k p n)
  exact wT k p n
def Uf(h:ac)(i:Nat):rfs (mW h i).1=rfs h:=by unfold mW;split<;>rfl
def GS(h:ac)(t c:Nat):rfs (f7 h t c).1=rfs h:=by
 unfold f7;split
 ·rfl
 split
 ·rfl
 split
 ·rfl
 split
 ·exact J8 _ _
 exact(Uf _ _).trans (J8 _ _)
def RI(h:ac)(t n:Int):rfs (fA h t n).1=rfs h:=by
 unfold fA;split
 ·rfl
 split
 ·rfl
 split
 ·rfl
 split
 ·rfl
 split
 ·split
  ·exact GS _ _ _
  exact GS _ _ _
 unfold vK;split
 ·rfl
 split
 ·exact wT _ _ _
 exact((uB _ _ _).2).trans (wT _ _ _)
def UV(h:ac)(t i:Nat):rfs (freeT h t i).1=rfs h:=by
 unfold freeT;split
 ·exact(uB _ _ _).2
 split
 ·rfl
 split
 ·exact(gt t _ _).2.2.2.2.2.2.2
 split<;>rfl
def G8(t:Nat)(h:ac):∀k,rfs (flushN t h k).1=rfs h
 | 0=>rfl
 | k+1=>((jT _ (spilt (flushN t h k).1 t k)).2.2.2.2.2.2.2).trans (G8 t h k)
def P3{h:ac}(a:bm h [])(b:JI h):∀n,rfs (kS h n).1=rfs h
 | 0=>rfl
 | n+1=>by
  obtain⟨c,d⟩:=Dm a b n;unfold kS;split
  ·rename_i e
   unfold qq at e;rw[I0]at e;exact((N9 c e.1).2.2.1).trans (P3 a b n)
  exact P3 a b n
def Me{w:aR}{m:Nat}(h:qm w m)(a:bF):rfs (pk w a).1.Y=rfs w.Y:=by
 unfold pk;split
 ·exact RI _ _ _
 split
 ·split
  ·rfl
  unfold og;split
  ·unfold xG
   split
   ·rfl
   split
   ·exact UV _ _ _
   rfl
  split
  ·unfold tl
   split
   ·rfl
   split
   ·rfl
   split<;>rfl
  unfold wF;split
  ·exact((uB _ _ _).2).trans (y5 _ _ _).2.2
  rfl
 split
 ·unfold iY
  split
  ·split<;>rfl
  split
  ·rfl
  split
  ·exact(gt _ _ _).2.2.2.2.2.2.2
  exact G8 _ _ _
 split
 ·unfold uq
  split
  ·exact(jT _ _).2.2.2.2.2.2.2
  rfl
 split
 ·unfold uw
  split
  ·rfl
  show rfs (started w.Y).1=_;unfold rfs;rw[(K8 h.inv).2.1]
 split
 ·exact P3 h.inv h.ji _
 rfl
def HH{c:eU}(h:KB c)(acts:List bF):∀n,rfs (AI c acts n).1.Y=c.a
 | 0=>rfl
 | n+1=>(Me (Dp h acts n) _).trans (HH h acts n)
def wi(w:aR):List C:=bR w.Y++au.enc .O w.c5
def VO(w:aR):cP (wi w)=aR.enc .O w:=by
 unfold wi;rw[ge,bZ,<-Cu,xc,Cu]
 rfl
def KP(w:aR)(id:Int)(g:w.Y.K.length<=1048576):zzB 87 false [.ptr (wi w),.vI id] [.ptr (wi w),.vI id] .one [I (nQ w.Y id)]:=by
 refine fM 28 [] [] [(0,0),(0,0)] Tryz.func87 rfl (λu q=>?_)
 refine σP ?_
 refine gn w.Y.K.length (λi=>[(0,bS (wi w)),(1,fI id),(5,fN i)]) (λi=>∀(j:Nat)(z:aW),j<i->w.Y.K[j]? = some z->PO id z=false) (λj z h=>ω) λi c=>?_
 obtain⟨c,b⟩:=c;by_cases d:i<w.Y.K.length
 ·have a:=ar d
  by_cases e:(nth w.Y.K i).Id=id
  ·refine σB ?_
   refine CN rfl (gm (dO a (O0 e) b).symm) ?_;exact wC
  refine σB ?_
  (exact dt (i+1) ⟨ω,fH a (C1 e) b⟩)
 refine σE ?_
 refine CN rfl (gm (gd ω b).symm) ?_;exact wC
def dv(y:ac):(bR y).length=24:=rfl
def EQ(w:aR)(m n:Nat)(h:qm w m)(B:n<=50):zzB 93 false [.ptr (wi w),.vI (n:Nat)] [.ptr (wi ⟨(kS w.Y n).1,w.c5⟩),.vI (n:Nat)] .one [I ((kS w.Y n).2:Nat)]:=by
 refine fM 35 [(223,[2])] [] [(0,0),(0,0)] Tryz.func93 rfl (λu q=>?_)
 refine σP ?_
 refine gn n (λi=>[(0,bS (wi ⟨(kS w.Y i).1,w.c5⟩)),(1,fN n),(5,fN ((kS w.Y i).2)),(6,fN i)]) (λi=>(kS w.Y i).2=i) rfl λi l=>?_
 obtain⟨l,C⟩:=l;obtain⟨o,D⟩:=Dm h.inv h.ji i;have b:kS w.Y (i+1)=if qq (kS w.Y i).1=true then(mStep (kS w.Y i).1,(kS w.Y i).2+1) else kS w.Y i:=rfl
 have p:=(aF.1 o.ker).2.2.2.2;by_cases E:i<n
 ·cases c:(kS w.Y i).1.a2 with
  | true=>
   have y:=(JD _ o c).frame (r:=au.enc .O w.c5) ((dv _).trans (dv _).symm);by_cases g:(kS w.Y i).1.G.Calls<=99000
   ·have d:qq (kS w.Y i).1=true:=by unfold qq;rw[c,O0 g];rfl
    rw[CJ d]at b;generalize kS w.Y i=s at *
    repeat'(first|refine gE ?_|refine Bf.t (O0 g) ?_|refine Bf.t c ?_)
    (refine CP (i+1) ⟨ω,by rw[b];simp only;omega⟩ ω ?_)
    rw[b];exact wC
   have d:qq (kS w.Y i).1=false:=by unfold qq;rw[c,C1 g];rfl
   have a:∀k,kS w.Y (i+k)=kS w.Y i:=λk=>by
    induction k with
    | zero=>rfl
    | succ k j=>show(if qq (kS w.Y (i+k)).1=true then _ else kS w.Y (i+k))=_;rw[j,d,CI (by simp)]
   have e:=a (n - i);rw[show i+(n - i)=n by omega]at e;rw[e];generalize kS w.Y i=s at *
   repeat'(first|refine gE ?_|refine Bf.f (C1 g) ?_|refine Bf.t c ?_)
   exact kk
  | false=>
   have d:qq (kS w.Y i).1=false:=by unfold qq;rw[c];rfl
   have a:∀k,kS w.Y (i+k)=kS w.Y i:=λk=>by
    induction k with
    | zero=>rfl
    | succ k j=>show(if qq (kS w.Y (i+k)).1=true then _ else kS w.Y (i+k))=_;rw[j,d,CI (by simp)]
   have e:=a (n - i);rw[show i+(n - i)=n by omega]at e;rw[e];generalize kS w.Y i=s at *
   repeat'(first|refine gE ?_|refine Bf.f c ?_)
   exact kk
 obtain rfl:i=n:=ω
 refine σE ?_
 exact kk
def NK{k:af}(a:aH k=true):(aH k&&decide (k.Calls<100000))=decide (k.Calls≠100000):=by
 have:=(aF.1 a).2.2.2.2;rw[a,Bool.true_and,z9,C0,C0];omega
def DS(w:aR)(a:bF)(m:Nat)(h:qm w m)(B:a.b3=5\/a.b3=6\/a.b3=7):zzB 89 false [.ptr (wi w),.val (some 5) (bF.enc .O a)] [.ptr (wi ⟨(iY w.Y a).1,w.c5⟩),.val (some 5) (bF.enc .O a)] .one [I (iY w.Y a).2]:=by
 have d:=h.inv;have o:=d.nc;have p:w.Y.R.length<=4:=by have:=(dH.1 d.mail).1.2.1;omega
 have C:=jp.of d.mail;have i:=oY w.Y.G (bk d.ker);rw[NK d.ker]at i;have j:=aP a.w 0 (w.Y.R.length - 1:Int);unfold iY;refine fM 59 [(215,[2,0]),(216,[2,0])] [(3,267,[15,16,17,18,19,20,21,14,22,23,6,0,1,2,3,4,5,6,7,8,9,10,11,1009,12]),(8,15,[30,31,32,33,34,35,36,37,38,39,40,41,42,43,44])] [(0,0),(0,0)] Tryz.func89 rfl (λu q=>?_);by_cases l:a.b3=5
 ·rw[CJ l]
  by_cases e:0<=a.w/\a.w<=w.Y.R.length - 1
  ·have y:ow w.Y a:=e
   obtain⟨t,g⟩:=t5 e.1;have b:=KK w.Y.e t d.mail ω;rw[<-g]at b;rw[g]at e |-;simp only[O4];rw[g]at b;by_cases c:0<(nth w.Y.e.T t).length
   ·rw[CJ (show ow w.Y a/\0<(nth w.Y.e.T t).length from⟨y,c⟩)]
    rw[CJ c,O0 c]at b;rw[<-g]at b
    repeat'(first|refine gB ?_|refine gS (λk=>?_) (λk=>?_)|refine CM (b) ⟨⟨rfl,Ct w.Y.e⟩,⟨rfl,rfl⟩,tV1⟩ ?_)
    exact kk
   rw[CI (show ¬(ow w.Y a/\0<(nth w.Y.e.T t).length) from λx=>c x.2)];rw[CI c,C1 c]at b;rw[<-g]at b
   repeat'(first|refine gB ?_|refine gS (λk=>?_) (λk=>?_)|refine CM (b) ⟨⟨rfl,Ct w.Y.e⟩,⟨rfl,rfl⟩,tV1⟩ ?_)
   exact kk
  rw[CI (show ¬(ow w.Y a/\0<(nth w.Y.e.T a.w.toNat).length) from λx=>e x.1)];have b:=Nk w.Y.e a.w d.mail ω
  repeat'(first|refine gB ?_|refine gS (λk=>?_) (λk=>?_)|refine CM (b) ⟨⟨rfl,Ct w.Y.e⟩,⟨rfl,rfl⟩,tV1⟩ ?_)
  exact kk
 rw[CI l];by_cases e:w.Y.G.Calls≠100000;rotate_left
 ·rw[CJ (show ¬(w.Y.G.Calls≠100000/\ow w.Y a) from λx=>e x.1)]
  rw[C1 e]at i
  repeat'(first|refine gB ?_|refine CM (i) ⟨⟨rfl,CU _⟩,tV1⟩ ?_)
  exact kk
 rw[O0 e]at i;by_cases c:0<=a.w/\a.w<=w.Y.R.length - 1;rotate_left
 ·rw[CJ (show ¬(w.Y.G.Calls≠100000/\ow w.Y a) from λx=>c x.2)]
  rw[C1 c]at j
  repeat'(first|refine gB ?_|refine CM (i) ⟨⟨rfl,CU _⟩,tV1⟩ ?_)
  exact kk
 rw[CI (show ¬¬(w.Y.G.Calls≠100000/\ow w.Y a) from S7 ⟨e,c⟩)];rw[O0 c]at j;obtain⟨t,g⟩:=t5 c.1;by_cases n:a.b3=6
 ·rw[CJ n]
  have b:=(A2 w.Y t d ω).frame (r:=au.enc .O w.c5) ((dv _).trans (dv _).symm);rw[show a.w.toNat=t by omega];rw[<-g]at b
  repeat'(first|refine gB ?_|refine CM (i) ⟨⟨rfl,CU _⟩,tV1⟩ ?_)
  exact kk
 rw[CI n];have b:=(ES w.Y t d ω).frame (r:=au.enc .O w.c5) ((dv _).trans (dv _).symm);rw[show a.w.toNat=t by omega];rw[<-g]at b
 repeat'(first|refine gB ?_|refine CM (i) ⟨⟨rfl,CU _⟩,tV1⟩ ?_)
 exact kk
set_option maxHeartbeats 2000000
theorem Kk(a b:aK)(c:aK.sml a):zzA 312 false [.val (some 2) (aK.enc .O a),.val (some 2) (aK.enc .O b)] .one [B (decide (a=b))]:=by
 have d:=c;refine fO 16 [] Tryz.func312 rfl ?_
 repeat'(first|refine gP ?_|refine gS (λh=>?_) (λh=>?_)|refine CF (n9 a.U b.U d) ?_)
 all_goals first|(show [B false]=[B (decide (a=b))];refine bx (C1 λe=>?_).symm;subst e;contradiction)|(show [B true]=[B (decide (a=b))];refine bx (O0 ?_).symm;cases a;cases b;simp_all)
theorem HC(a b:List aK)(l:pe a):zzA 150 false [.val none (jQ .O a),.val none (jQ .O b)] .one [B (decide (a=b))]:=by
 refine fO 27 [(6,10,[17,18,19,20,21,22,23,24,25,26])] Tryz.func150 rfl ?_;have r:a.length<=1048576:=l.1
 repeat'(first|refine gP ?_|refine gS (λh=>?_) (λh=>?_)|fail)
 ·refine bx (C1 λe=>?_).symm
  subst e;omega
 have n:a.length=b.length:=ω
 (conv=>whnf)
 refine gn a.length (λi=>[(0,bC (jQ .O a)),(1,bC (jQ .O b)),(5,fN i)]) (λi=>∀j,j<i->a[j]? = b[j]?) (λj q=>ω) λi o=>?_
 obtain⟨o,c⟩:=o;by_cases g:i<a.length
 ·obtain⟨x,k⟩ : ∃x,a[i]? = some x:=⟨_,z4 g⟩
  obtain⟨y,p⟩ : ∃y,b[i]? = some y:=⟨_,z4 ω⟩
  repeat'(first|refine gE ?_|refine gS (λh=>?_) (λh=>?_)|refine CF (Kk x y (l.2 x (t4 k))) ?_)
  all_goals first
   |(show [B false]=[B (decide (a=b))]
     refine bx (C1 λe=>?_).symm;subst e
     simp_all)
   | ((conv=>whnf)
      refine CP (i+1) ⟨ω,λj q=>?_⟩ ω ?_
      · rcases Nat.lt_or_ge j i with d|d
        · exact c j d
        obtain rfl:j=i:=ω
        rw[k,p]
        simp_all
      exact wA)
 refine σE ?_
 refine bx (O0 ?_).symm;refine List.ext_getElem? λj=>?_
 rcases Nat.lt_or_ge j i with d|d
 ·exact c j d
 rw[I4 ω,I4 ω]
theorem J1(a b:au)(c:au.sml a):zzA 49 false [.val (some 2) (au.enc .O a),.val (some 2) (au.enc .O b)] .one [B (decide (a=b))]:=by
 have d:=c;refine fO 16 [] Tryz.func49 rfl ?_
 repeat'(first|refine gP ?_|refine gS (λh=>?_) (λh=>?_)|refine CF (HC a.K b.K d) ?_)
 all_goals first|(show [B false]=[B (decide (a=b))];refine bx (C1 λe=>?_).symm;subst e;contradiction)|(show [B true]=[B (decide (a=b))];refine bx (O0 ?_).symm;cases a;cases b;simp_all)
theorem Px(a b:aR)(c:aR.sml a):zzA 10 false [.val (some 26) (aR.enc .O a),.val (some 26) (aR.enc .O b)] .one [B (decide (a=b))]:=by
 obtain⟨d,g⟩:=c;refine fO 17 [] Tryz.func10 rfl ?_
 repeat'(first|refine gP ?_|refine gS (λh=>?_) (λh=>?_)|refine CF (Rt a.Y b.Y d) ?_|refine CF (J1 a.c5 b.c5 g) ?_)
 all_goals first|(show [B false]=[B (decide (a=b))];refine bx (C1 λe=>?_).symm;subst e;contradiction)|(show [B true]=[B (decide (a=b))];refine bx (O0 ?_).symm;cases a;cases b;simp_all)
def k4(r:au)(c:au.sml r):zzA 105 false [.val (some 2) (au.enc .O r)] .agg (au.enc .own r):=by
 have e:r.K.length<=1048576:=c.1;refine fO 29 [(5,264,[16,17,18,19,20,21,22,26,0,1,2,3,4,5,6,7,1000,1001,8,1000,1001,9,10,11])] Tryz.func105 rfl ?_ (.inr (Cr _))
 refine σP ?_
 refine lp0 r.K.length (λi=>[(2,bS [I 0,.z]),(3,bS [I r.k,.s .own ((r.K.take i).map (aK.enc .own))]),(10,bC ([.s .O (r.K.map (aK.enc .O))])),(11,fI r.K.length),(12,fN i)]) λi g=>?_
 by_cases a:i<r.K.length
 ·have d:=ar a
  have b:(nth r.K i).U.length<=1048576:=c.2 _ (ax a)
  repeat'(first|refine gE ?_|refine CF (cK (nth r.K i).U b) ?_|refine Ap.sn (aN λ_=>rfl) rfl kd qs (gr a) ?_)
  (exact dt (i+1) ω)
 refine σE ?_
 obtain rfl:i=r.K.length:=ω
 rw[O9]
 rfl
def B8(w:aR)(h1:ac.sml w.Y)(h2:au.sml w.c5):zzA 33 false [.val (some 26) (aR.enc .O w)] .agg (aR.enc .own w):=by
 have a:=jw w.Y h1;have b:=k4 w.c5 h2;refine fO 10 [(1,5,[3,4,5,6,7])] Tryz.func33 rfl ?_ (.inr (aR.enc_fr _))
 refine σP ?_
 rfl
def xe(o:aW)(a:bF):zzA 38 false [.val (some 4) (aW.enc .O o),.ptr (bF.enc .O a)] .one [B (jr a.N o)]:=by
 refine fO 9 [] Tryz.func38 rfl ?_
 refine σP ?_
 exact bx ((by unfold jr;rw[z9];simp))
def Bp(w:aR)(a:bF)(i m:Nat)(h:qm w m)(R:m<=900)(p:i<w.Y.K.length):zzB 88 false [.ptr (wi w),.val (some 5) (bF.enc .O a),.vI (i:Nat)] [.ptr (wi (og w a i).1),.val (some 5) (bF.enc .O a),.vI (i:Nat)] .one [I (og w a i).2]:=by
 have e:=h.inv;have b:=ar p;have H:=pE e (ax p);have J:=kX e (ax p) (k:=0);have K:1<=(nth w.Y.K i).y/\(nth w.Y.K i).y<=1000:=by
  rcases e.oow _ (ax p) with⟨s,M,S,T⟩|⟨l,E,d,c⟩
  ·have U:=aO (e.L.sok s M)
   have:=rO (n:=(nth w.Y.K i).y) ω;omega
  have V:=cJ (e.L.lok l E);omega
 have g:=oY w.Y.G (bk e.ker);rw[NK e.ker]at g;unfold og;refine fM 126 [(208,[2,0,0]),(210,[2,0,0]),(212,[2,0,0])] [(6,7,[29,30,31,32,33,34,35]),(8,269,[40,41,42,43,44,45,46,47,39,48,49,50,51,0,1,2,3,4,5,6,7,8,9,10,11,12,13,1010]),(13,10,[62,63,64,65,66,67,68,69,70,71]),(15,273,[76,77,78,79,80,81,82,83,84,85,86,87,75,88,89,90,91,0,1,2,3,4,5,6,7,8,9,10,11,12,13,14,15,16,17,1014]),(17,15,[93,94,95,96,97,98,99,100,101,102,103,104,105,106,107]),(19,271,[112,113,114,115,116,117,118,119,120,121,111,122,123,124,125,0,1,2,3,4,5,6,7,8,9,10,11,12,13,14,15,1012])] [(0,0),(0,0),(0,0)] Tryz.func88 rfl (λu q=>?_);by_cases F:a.b3=2
 ·rw[CJ F]
  unfold xG;by_cases d:w.Y.G.Calls=100000
  ·rw[CJ d]
   rw[C1 (S7 d)]at g
   repeat'(first|refine gB ?_|refine CM (g) ⟨⟨rfl,CU _⟩,tV1⟩ ?_)
   exact kk
  rw[CI d];rw[O0 d]at g;have B:=(W8 w.Y i a.w e p).frame (r:=au.enc .O w.c5) ((dv _).trans (dv _).symm);by_cases c:0<=a.w/\a.w<=w.Y.R.length - 1
  ·rw[CJ (show ow w.Y a from c)]
   rw[CJ c,CJ c]at B;have N:=Ju w.c5 (nth w.Y.K i).Id m h.ref ω;generalize freeT w.Y a.w.toNat i=f at B |-;by_cases o:f.2=0
   ·rw[CJ o]
    repeat'(first|refine gB ?_|refine gS (λj=>?_) (λj=>?_)|refine CM (g) ⟨⟨rfl,CU _⟩,tV1⟩ ?_|refine Cl.sh N rfl ?_)
    exact kk
   rw[CI o]
   repeat'(first|refine gB ?_|refine gS (λj=>?_) (λj=>?_)|refine CM (g) ⟨⟨rfl,CU _⟩,tV1⟩ ?_)
   exact kk
  rw[CI (show ¬ow w.Y a from c)];rw[CI c,CI c]at B
  repeat'(first|refine gB ?_|refine gS (λj=>?_) (λj=>?_)|refine CM (g) ⟨⟨rfl,CU _⟩,tV1⟩ ?_)
  exact kk
 rw[CI F];by_cases G:a.b3=3
 ·rw[CJ G]
  unfold tl;have C:=aP a.At 0 ((nth w.Y.K i).y - 1);by_cases d:0<=a.At/\a.At<=(nth w.Y.K i).y - 1;rotate_left
  ·rw[CJ d]
   rw[C1 d]at C
   repeat'(first|refine gB ?_|refine gS (λj=>?_) (λj=>?_)|fail)
   exact kk
  rw[CI (S7 d)];rw[O0 d]at C;have D:=(Fz w.Y i a.At a.Value e p d).frame (r:=au.enc .O w.c5) (by split<;>rfl);have O:=kX e (ax p) d;by_cases c:(ay w.Y.G.F.Q (((nth w.Y.K i).Addr+a.At) / 16)).o=1
  ·rw[CJ c]
   rw[CJ (.inl c),CJ c]at D
   repeat'(first|refine gB ?_|refine gS (λj=>?_) (λj=>?_)|fail)
   exact kk
  rw[CI c];by_cases o:0<=a.Value/\a.Value<=999;rotate_left
  ·rw[CJ o]
   rw[CJ (.inr o),CI c,CJ o]at D
   repeat'(first|refine gB ?_|refine gS (λj=>?_) (λj=>?_)|fail)
   exact kk
  rw[CI (S7 o)];rw[CI (λx=>x.elim c λy=>y o),CI c,CI (S7 o)]at D;obtain⟨W,P⟩:=HM w.c5 (nth w.Y.K i).Id a.At a.Value m h.ref ω o
  repeat'(first|refine gB ?_|refine gS (λj=>?_) (λj=>?_)|fail)
  exact kk
 rw[CI G];unfold wF;by_cases d:w.Y.G.Calls=100000
 ·rw[CI (λx=>x.1 d)]
  rw[C1 (S7 d)]at g
  repeat'(first|refine gB ?_|refine CM (g) ⟨⟨rfl,CU _⟩,tV1⟩ ?_)
  exact kk
 rw[O0 d]at g;by_cases c:je w.Y i a.Value
 ·rw[CJ ⟨d,c⟩]
  have t:=(x5 w.Y i a.Value e p c.1).frame (r:=au.enc .O w.c5) (by split<;>rfl);rw[CJ c,O0 c]at t;obtain⟨X,Q⟩:=La w.c5 (nth w.Y.K i).Id a.Value m h.ref ω
  repeat'(first|refine gB ?_|refine CM (g) ⟨⟨rfl,CU _⟩,tV1⟩ ?_)
  exact kk
 rw[CI (λx=>c x.2)];by_cases o:sW w.Y (nth w.Y.K i).Addr<0
 ·have t:=(NA w.Y (nth w.Y.K i).Addr a.Value (by have:=e.lens.larges;omega) e.L.lok o).frame (r:=au.enc .O w.c5) ((dv _).trans (dv _).symm)
  repeat'(first|refine gB ?_|refine CM (g) ⟨⟨rfl,CU _⟩,tV1⟩ ?_)
  exact kk
 have t:=(x5 w.Y i a.Value e p ω).frame (r:=au.enc .O w.c5) (by split<;>rfl);rw[CI c,C1 c]at t
 repeat'(first|refine gB ?_|refine CM (g) ⟨⟨rfl,CU _⟩,tV1⟩ ?_)
 exact kk
def qm.fit{w:aR}{m:Nat}(h:qm w m)(a:im w.Y.G.a):ac.sml w.Y/\ac.wf w.Y:=
 ⟨(h.inv.fit a (jp.of h.inv.mail).sml).sml,h.inv.wf a⟩
def Pb(w:aR)(a:bF)(m:Nat)(h:qm w m)(G:m<=900)(H:im w.Y.G.a):zzB 30 false [.ptr (wi w),.val (some 5) (bF.enc .O a)] [.ptr (wi (pk w a).1),.val (some 5) (bF.enc .O a)] .one [I (pk w a).2]:=by
 have i:=h.inv;have j:=i.nums;unfold cv at j;rw[C0]at j;unfold pk;refine fM 123 [(85,[2,0,0]),(87,[2,0]),(88,[2,0,0]),(89,[2,0]),(91,[2,0]),(92,[2]),(93,[2,0])] [(3,265,[13,14,15,16,17,18,19,21,22,0,1,2,3,4,5,6,7,8,9,10,11,1010,12]),(5,269,[26,27,28,29,30,31,32,33,25,34,35,36,37,0,1,2,3,4,5,6,7,8,9,10,11,12,13,1010]),(19,21,[62,63,64,65,66,67,68,69,70,71,72,73,74,75,76,77,78,79,80,81,82]),(21,5,[86,87,88,89,90])] [(0,0),(0,0)] Tryz.func30 rfl (λu q=>?_);by_cases C:a.b3=1
 ·rw[CJ C]
  have c:=(EV w.Y a.w a.N i).frame (r:=au.enc .O w.c5) ((dv _).trans (dv _).symm);by_cases e:(fA w.Y a.w a.N).2.2=0
  ·rw[CJ e]
   have o:1<=a.N/\a.N<=1000:=by
    refine Classical.byContradiction λp=>?_
    unfold fA at e;rw[CJ p]at e;split at e
    ·exact absurd (show(5:Int)=0 from e) qs
    split at e
    ·exact absurd (show(1:Int)=0 from e) qs
    exact absurd (show(2:Int)=0 from e) qs
   have l:=EW w.c5 a.N m h.ref ω o;generalize fA w.Y a.w a.N=f at c e |-
   repeat'(first|refine gB ?_|refine gS (λb=>?_) (λb=>?_)|fail)
   exact kk
  rw[CI e];generalize fA w.Y a.w a.N=f at c e |-
  repeat'(first|refine gB ?_|refine gS (λb=>?_) (λb=>?_)|fail)
  exact kk
 rw[CI C];by_cases D:a.b3=2\/a.b3=3\/a.b3=4
 ·rw[CJ D]
  have c:=KP w a.N (by have:=i.lens.objs;omega);by_cases e:nQ w.Y a.N<0
  ·rw[CJ e]
   repeat'(first|refine gB ?_|refine gS (λb=>?_) (λb=>?_)|fail)
   all_goals first|omega|skip
   all_goals
    exact kk
  rw[CI e];obtain⟨J,M,O⟩:=eZ (PO a.N) w.Y.K (by unfold nQ at e;omega);have l:=Bp w a (nQ w.Y a.N).toNat m h G J;rw[show(((nQ w.Y a.N).toNat:Nat):Int)=nQ w.Y a.N by omega]at l
  repeat'(first|refine gB ?_|refine gS (λb=>?_) (λb=>?_)|fail)
  all_goals first|omega|skip
  all_goals
   exact kk
 rw[CI D];by_cases y:a.b3=5\/a.b3=6\/a.b3=7
 ·rw[CJ y]
  have c:=DS w a m h y
  repeat'(first|refine gB ?_|refine gS (λb=>?_) (λb=>?_)|fail)
  all_goals first|omega|skip
  all_goals
   exact kk
 rw[CI y];by_cases E:a.b3=8
 ·rw[CJ E]
  unfold uq;have d:=oY w.Y.G (bk i.ker);rw[NK i.ker]at d;have c:=aP a.N 0 1000;by_cases g:w.Y.G.Calls≠100000;rotate_left
  ·rw[CI (λx=>g x.1)]
   rw[C1 g]at d
   repeat'(first|refine gB ?_|refine gS (λb=>?_) (λb=>?_)|refine CM (d) ⟨⟨rfl,CU _⟩,tV1⟩ ?_)
   exact kk
  rw[O0 g]at d;by_cases k:0<=a.N/\a.N<=1000;rotate_left
  ·rw[CI (λx=>k x.2.1)]
   rw[C1 k]at c
   repeat'(first|refine gB ?_|refine gS (λb=>?_) (λb=>?_)|refine CM (d) ⟨⟨rfl,CU _⟩,tV1⟩ ?_)
   exact kk
  rw[O0 k]at c;by_cases B:w.Y.b1+a.N<=1000000
  ·rw[CJ ⟨g,k,B⟩]
   have l:=(HI w.Y a.N i k B).frame (r:=au.enc .O w.c5) ((dv _).trans (dv _).symm)
   repeat'(first|refine gB ?_|refine gS (λb=>?_) (λb=>?_)|refine CM (d) ⟨⟨rfl,CU _⟩,tV1⟩ ?_)
   exact kk
  rw[CI (λx=>B x.2.2)]
  repeat'(first|refine gB ?_|refine gS (λb=>?_) (λb=>?_)|refine CM (d) ⟨⟨rfl,CU _⟩,tV1⟩ ?_)
  exact kk
 rw[CI E];by_cases F:a.b3=9
 ·rw[CJ F]
  unfold uw;obtain⟨K,L⟩:=h.fit H;have d:=LJ w.Y K L;rw[show fw w.Y=true from i.to]at d;cases g:w.Y.a2 with
  | true=>
   rw[CJ rfl]
   repeat'(first|refine gB ?_|refine gS (λb=>?_) (λb=>?_)|refine Bf.t g ?_)
   exact kk
  | false=>
   rw[CI (by simp)];have c:=(Fw w.Y i).frame (r:=au.enc .O w.c5) ((dv _).trans (dv _).symm);cases k:(started w.Y).2<;>rw[k]at c
   ·rw[CI (by simp)]
    repeat'(first|refine gB ?_|refine gS (λb=>?_) (λb=>?_)|refine Bf.f g ?_|refine CM (d) ⟨⟨rfl,bZ w.Y⟩,tV1⟩ ?_)
    exact kk
   rw[CJ rfl]
   repeat'(first|refine gB ?_|refine gS (λb=>?_) (λb=>?_)|refine Bf.f g ?_|refine CM (d) ⟨⟨rfl,bZ w.Y⟩,tV1⟩ ?_)
   exact kk
 rw[CI F];by_cases k10:a.b3=10;rotate_left
 ·rw[CI (λx=>k10 x.1)]
  repeat'(first|refine gB ?_|refine gS (λb=>?_) (λb=>?_)|fail)
  exact kk
 have d:=aP a.N 0 50;by_cases g:0<=a.N/\a.N<=50
 ·rw[CJ ⟨k10,g⟩]
  rw[O0 g]at d;obtain⟨n,p⟩:=t5 g.1;have c:=EQ w m n h ω;rw[show a.N.toNat=n by omega];rw[<-p]at c
  repeat'(first|refine gB ?_|refine gS (λb=>?_) (λb=>?_)|fail)
  exact kk
 rw[CI (λx=>g x.2)];rw[C1 g]at d
 repeat'(first|refine gB ?_|refine gS (λb=>?_) (λb=>?_)|fail)
 exact kk
def JF(w:aR)(h1:ac.sml w.Y)(h2:au.sml w.c5):zzA 28 false [.val (some 26) (aR.enc .O w)] .agg (aR.enc .own w):=by
 have a:=J2 w.Y h1;have b:=fV w.c5 h2;refine fO 10 [(1,5,[3,4,5,6,7])] Tryz.func28 rfl ?_ (.inr (aR.enc_fr _))
 refine σP ?_
 rfl
def JX(c:eU)(acts:List bF)(h:KB c)(b:im c.a)(u:acts.length<=80):zzA 15 false [.val (some 5) (eU.enc .O c),.val none (fE .O acts)] (.tup [some 26,none]) (aR.enc .own (AI c acts acts.length).1++aE .own (AI c acts acts.length).2):=by
 have j:=vi c h;refine fP 42 [(30,[2,0]),(2000005,[6,21,25])] [] Tryz.func15 rfl ?_ (.inr (a7 (aR.enc_fr _) (bH _)))
 repeat'(first|refine gE ?_|refine MQ.mk rfl rfl rfl ?_)
 refine CV (ι:=Nat) (λi=>[(1,bC (fE .O acts)),(4,bS [.z,.z,.z,I 0,.z,.z,.z,.z,.z,.z,.z,.z,I 0,.z,I 0,I 0,I 0,I 0,B false,I 0,I 0,.z,I 0,I 0,I 0,.z]),(6,bS (wi (AI c acts i).1)),(8,bC (aE .own (AI c acts i).2)),(9,fN i)]) (λi=>i<=acts.length) (λi=>acts.length - i) (0) ?_ (I1 _) λi l=>?_
 ·exact wE
 have d:=Dp h acts i;have a:=HH h acts i;have e:(AI c acts i).2.length=i:=by
  clear d a l
  induction i with
  | zero=>rfl
  | succ k n=>show((AI c acts k).2++[_]).length=_;rw[I5,n];rfl
 by_cases o:i<acts.length
 ·have g:=ar o
  have p:=Pb (AI c acts i).1 (nth acts i) i d ω (by unfold rfs at a;rw[a];exact b)
  repeat'(first|refine gE ?_|refine Cb cN (λr b=>by rw[z3.1 b];rfl) (by simp[bu,f6]) kd (by simp only[I2];exact zc kd qs) rfl ?_)
  (refine CP (i+1) ω ω ?_)
  repeat'(first|exact tV1|rfl| exact tz _ |exact CK rfl (CK (O1 (C.s eL.own) (by simp[AI,rI])) tV1)|refine CK ?_ ?_|(exact XK (by first|omega|(simp only;omega)|(simp;omega))))
 obtain rfl:i=acts.length:=ω
 have q:=d.fit (by unfold rfs at a;rw[a];exact b);have t:=JF (AI c acts acts.length).1 q.1 (d.ref.sml ω)
 repeat'(first|refine gE ?_|refine CM (t) ⟨⟨rfl,VO _⟩,tV1⟩ ?_)
 rfl
set_option maxHeartbeats 2000000
set_option maxHeartbeats 2000000
def ma(x:List Int)(k:Int)(b:jE x)(g:0<=k)(h1:k+(ek x:Nat)<=1099511627776):zzA 25 false [.val none (aE .O (markIntS x k)),.vI k] .one [I (k+(ek x:Nat))]:=by
 have h:x.length<=1048576:=b;have c:=rm x k;unfold ek at h1;refine fO 21 [] Tryz.func25 rfl ?_
 refine σP ?_
 refine CV (ι:=Nat) (λi=>[(0,bC (aE .O (markIntS x k))),(1,fI (k+(lI x i:Nat))),(5,fN i)]) (λi=>i<=x.length) (λi=>x.length - i) 0 ?_ (I1 _) λi j=>?_
 ·repeat'(first|exact tV1|rfl|exact CK rfl (CK (O1 I (by unfold lI;omega)) tV1)|refine CK ?_ ?_)
 by_cases a:i<x.length
 ·obtain⟨y,l⟩ : ∃y,x[i]? = some y:=⟨_,z4 a⟩
  have d:=qZ x k i a;unfold lI
  repeat'(first|refine gB ?_|refine CP (i+1) ω ω ?_)
  repeat'(first|exact tV1|rfl|exact CK rfl (CK (O1 I (by first|omega|(unfold lI;omega))) tV1)|refine CK ?_ ?_)
 refine σB ?_
 have e:i=x.length:=ω
 subst e;exact gm (by unfold lI ek;rfl)
def rP(x:List (List Int))(k:Int)(e:qp x)(l:0<=k)(h1:k+(gc x:Nat)<=1099511627776):zzA 319 false [.val none (g9 .O (markIntSS x k)),.vI k] .one [I (k+(gc x:Nat))]:=by
 have n:x.length<=1048576:=e.1;have g:=qh x k;refine fO 21 [] Tryz.func319 rfl ?_
 refine σP ?_
 refine CV (ι:=Nat) (λi=>[(0,bC (g9 .O (markIntSS x k))),(1,fI (k+(eX x i:Nat))),(5,fN i)]) (λi=>i<=x.length) (λi=>x.length - i) 0 ?_ (I1 _) λi o=>?_
 ·rw[pI]
  repeat'(first|exact tV1|rfl|exact CK rfl (CK (O1 I ω) tV1)|refine CK ?_ ?_)
 by_cases a:i<x.length
 ·obtain⟨y,b⟩ : ∃y,x[i]? = some y:=⟨_,z4 a⟩
  have h:=pX x k i y b;have c:=pW x i y b;have d:=tX x (i+1);rw[c]at d
  repeat'(first|refine gB ?_|refine CF (ma y _ (e.2 y (t4 b)) ω ω) ?_|refine CP (i+1) ω ω ?_)
  repeat'(first|exact tV1|rfl|exact CK rfl (CK (O1 I ω) tV1)|refine CK ?_ ?_)
 refine σB ?_
 have j:i=x.length:=ω
 subst j;exact gm (by rw[rq])
def HW(x:List Bool)(k:Int)(b:xh x)(g:0<=k)(h1:k+(j8 x:Nat)<=1099511627776):zzA 487 false [.val none (lf .O (markBoolS x k)),.vI k] .one [I (k+(j8 x:Nat))]:=by
 have h:x.length<=1048576:=b;have c:=pz x k;unfold j8 at h1;refine fO 23 [] Tryz.func487 rfl ?_
 refine σP ?_
 refine CV (ι:=Nat) (λi=>[(0,bC (lf .O (markBoolS x k))),(1,fI (k+(jC x i:Nat))),(5,fN i)]) (λi=>i<=x.length) (λi=>x.length - i) 0 ?_ (I1 _) λi j=>?_
 ·repeat'(first|exact tV1|rfl|exact CK rfl (CK (O1 I (by unfold jC;omega)) tV1)|refine CK ?_ ?_)
 by_cases a:i<x.length
 ·obtain⟨y,l⟩ : ∃y,x[i]? = some y:=⟨_,z4 a⟩
  have d:=pJ x k i a;unfold jC
  repeat'(first|refine gB ?_|refine CT qs ?_|refine CX rfl ?_|refine Bf.f (by rw[bne_eq_false_iff_eq,z9];simp) ?_|refine CP (i+1) ω ω ?_)
  repeat'(first|exact tV1|rfl|exact CK rfl (CK (O1 I (by first|omega|(unfold jC;omega))) tV1)|refine CK ?_ ?_)
 refine σB ?_
 have e:i=x.length:=ω
 subst e;exact gm (by unfold jC j8;rfl)
def EG(x:aQ)(k:Int)(a:aQ.sml x)(d:0<=k)(h1:k+(aQ.cnt x:Nat)<=1099511627776):zzA 431 false [.val (some 2) (aQ.enc .O (x.mark k)),.vI k] .one [I (k+(aQ.cnt x:Nat))]:=by
 obtain⟨b,c⟩:=a;unfold aQ.cnt at h1;refine fO 18 [] Tryz.func431 rfl ?_
 repeat'(first|refine gB ?_|refine CF (rP x.U _ b ω ω) ?_|refine CF (HW x.a3 _ c ω ω) ?_)
 exact gm (by unfold aQ.cnt;omega)
def EJ(x:List aS)(k:Int)(e:qY x)(n:0<=k)(h1:k+(fG x:Nat)<=1099511627776):zzA 488 false [.val none (j7 .O (ew x k)),.vI k] .one [I (k+(fG x:Nat))]:=by
 have o:x.length<=1048576:=e.1;have g:=mD x k;refine fO 31 [] Tryz.func488 rfl ?_
 refine σP ?_
 refine CV (ι:=Nat) (λi=>[(0,bC (j7 .O (ew x k))),(1,fI (k+(cV x i:Nat))),(5,fN i)]) (λi=>i<=x.length) (λi=>x.length - i) 0 ?_ (I1 _) λi p=>?_
 ·rw[mT]
  repeat'(first|exact tV1|rfl|exact CK rfl (CK (O1 I ω) tV1)|refine CK ?_ ?_)
 by_cases c:i<x.length
 ·obtain⟨y,d⟩ : ∃y,x[i]? = some y:=⟨_,z4 c⟩
  have j:=mE x k i y d;have a:=mt x i y d;have b:=pA x (i+1);rw[a]at b;simp only[aS.cnt]at a b
  repeat'(first|refine gB ?_|refine Bf.N (λh=>absurd rfl h) (λh=>?_)|refine CP (i+1) ω ω ?_)
  repeat'(first|exact tV1|rfl|exact CK rfl (CK (O1 I (by first|omega|(simp only[aS.cnt]at a;omega))) tV1)|refine CK ?_ ?_)
 refine σB ?_
 have l:i=x.length:=ω
 subst l;exact gm (by rw[nJ])
def Jx(x:aM)(k:Int)(a:aM.sml x)(c:0<=k)(h1:k+(aM.cnt x:Nat)<=1099511627776):zzA 432 false [.val (some 1) (aM.enc .O (x.mark k)),.vI k] .one [I (k+(aM.cnt x:Nat))]:=by
 have b:=a;unfold aM.cnt at h1;refine fO 12 [] Tryz.func432 rfl ?_
 repeat'(first|refine gB ?_|refine CF (EJ x.M _ b ω ω) ?_)
 exact gm (by unfold aM.cnt;omega)
def Df(x:aL)(k:Int)(a:aL.sml x)(d:0<=k)(h1:k+(aL.cnt x:Nat)<=1099511627776):zzA 318 false [.val (some 3) (aL.enc .O (x.mark k)),.vI k] .one [I (k+(aL.cnt x:Nat))]:=by
 obtain⟨b,c⟩:=a;unfold aL.cnt at h1;refine fO 18 [] Tryz.func318 rfl ?_
 repeat'(first|refine gB ?_|refine CF (EG x.V _ b ω ω) ?_|refine CF (Jx x.Q _ c ω ω) ?_)
 exact gm (by unfold aL.cnt;omega)
def Fe(x:af)(k:Int)(a:af.sml x)(d:0<=k)(h1:k+(af.cnt x:Nat)<=1099511627776):zzA 161 false [.val (some 5) (af.enc .O (x.mark k)),.vI k] .one [I (k+(af.cnt x:Nat))]:=by
 obtain⟨b,c⟩:=a;unfold af.cnt at h1;refine fO 18 [] Tryz.func161 rfl ?_
 repeat'(first|refine gB ?_|refine CF (Df x.F _ b ω ω) ?_|refine CF (ma x.a _ c ω ω) ?_)
 exact gm (by unfold af.cnt;omega)
set_option maxHeartbeats 2000000
def Fx(x:List aC)(k:Int)(e:f9 x)(n:0<=k)(h1:k+(cA x:Nat)<=1099511627776):zzA 162 false [.val none (bn .O (eD x k)),.vI k] .one [I (k+(cA x:Nat))]:=by
 have o:x.length<=1048576:=e.1;have g:=mJ x k;refine fO 31 [] Tryz.func162 rfl ?_
 refine σP ?_
 refine CV (ι:=Nat) (λi=>[(0,bC (bn .O (eD x k))),(1,fI (k+(cX x i:Nat))),(5,fN i)]) (λi=>i<=x.length) (λi=>x.length - i) 0 ?_ (I1 _) λi p=>?_
 ·rw[mN]
  repeat'(first|exact tV1|rfl|exact CK rfl (CK (O1 I ω) tV1)|refine CK ?_ ?_)
 by_cases c:i<x.length
 ·obtain⟨y,d⟩ : ∃y,x[i]? = some y:=⟨_,z4 c⟩
  have j:=mL x k i y d;have a:=mF x i y d;have b:=pu x (i+1);rw[a]at b;simp only[aC.cnt]at a b
  repeat'(first|refine gB ?_|refine Bf.N (λh=>absurd rfl h) (λh=>?_)|refine CP (i+1) ω ω ?_)
  repeat'(first|exact tV1|rfl|exact CK rfl (CK (O1 I (by first|omega|(simp only[aC.cnt]at a;omega))) tV1)|refine CK ?_ ?_)
 refine σB ?_
 have l:i=x.length:=ω
 subst l;exact gm (by rw[nS])
def Ho(x:List aA)(k:Int)(e:dl x)(n:0<=k)(h1:k+(dA x:Nat)<=1099511627776):zzA 163 false [.val none (bP .O (f8 x k)),.vI k] .one [I (k+(dA x:Nat))]:=by
 have o:x.length<=1048576:=e.1;have g:=nH x k;refine fO 40 [] Tryz.func163 rfl ?_
 refine σP ?_
 refine CV (ι:=Nat) (λi=>[(0,bC (bP .O (f8 x k))),(1,fI (k+(dQ x i:Nat))),(5,fN i)]) (λi=>i<=x.length) (λi=>x.length - i) 0 ?_ (I1 _) λi p=>?_
 ·rw[ot]
  repeat'(first|exact tV1|rfl|exact CK rfl (CK (O1 I ω) tV1)|refine CK ?_ ?_)
 by_cases c:i<x.length
 ·obtain⟨y,d⟩ : ∃y,x[i]? = some y:=⟨_,z4 c⟩
  have j:=nZ x k i y d;have a:=nX x i y d;have b:=ri x (i+1);rw[a]at b;simp only[aA.cnt]at a b
  repeat'(first|refine gB ?_|refine Bf.N (λh=>absurd rfl h) (λh=>?_)|refine CP (i+1) ω ω ?_)
  repeat'(first|exact tV1|rfl|exact CK rfl (CK (O1 I (by first|omega|(simp only[aA.cnt]at a;omega))) tV1)|refine CK ?_ ?_)
 refine σB ?_
 have l:i=x.length:=ω
 subst l;exact gm (by rw[qa])
def EB(x:List a8)(k:Int)(e:du x)(n:0<=k)(h1:k+(dd x:Nat)<=1099511627776):zzA 164 false [.val none (bV .O (eB x k)),.vI k] .one [I (k+(dd x:Nat))]:=by
 have o:x.length<=1048576:=e.1;have g:=mG x k;refine fO 40 [] Tryz.func164 rfl ?_
 refine σP ?_
 refine CV (ι:=Nat) (λi=>[(0,bC (bV .O (eB x k))),(1,fI (k+(dh x i:Nat))),(5,fN i)]) (λi=>i<=x.length) (λi=>x.length - i) 0 ?_ (I1 _) λi p=>?_
 ·rw[mw]
  repeat'(first|exact tV1|rfl|exact CK rfl (CK (O1 I ω) tV1)|refine CK ?_ ?_)
 by_cases c:i<x.length
 ·obtain⟨y,d⟩ : ∃y,x[i]? = some y:=⟨_,z4 c⟩
  have j:=mz x k i y d;have a:=mQ x i y d;have b:=qd x (i+1);rw[a]at b;simp only[a8.cnt]at a b
  repeat'(first|refine gB ?_|refine Bf.N (λh=>absurd rfl h) (λh=>?_)|refine CP (i+1) ω ω ?_)
  repeat'(first|exact tV1|rfl|exact CK rfl (CK (O1 I (by first|omega|(simp only[a8.cnt]at a;omega))) tV1)|refine CK ?_ ?_)
 refine σB ?_
 have l:i=x.length:=ω
 subst l;exact gm (by rw[nY])
def Mm(x:List aW)(k:Int)(e:xw x)(n:0<=k)(h1:k+(fJ x:Nat)<=1099511627776):zzA 165 false [.val none (iU .O (gp x k)),.vI k] .one [I (k+(fJ x:Nat))]:=by
 have o:x.length<=1048576:=e.1;have g:=qe x k;refine fO 49 [] Tryz.func165 rfl ?_
 refine σP ?_
 refine CV (ι:=Nat) (λi=>[(0,bC (iU .O (gp x k))),(1,fI (k+(fh x i:Nat))),(5,fN i)]) (λi=>i<=x.length) (λi=>x.length - i) 0 ?_ (I1 _) λi p=>?_
 ·rw[pp]
  repeat'(first|exact tV1|rfl|exact CK rfl (CK (O1 I ω) tV1)|refine CK ?_ ?_)
 by_cases c:i<x.length
 ·obtain⟨y,d⟩ : ∃y,x[i]? = some y:=⟨_,z4 c⟩
  have j:=pH x k i y d;have a:=p8 x i y d;have b:=tf x (i+1);rw[a]at b;simp only[aW.cnt]at a b
  repeat'(first|refine gB ?_|refine Bf.N (λh=>absurd rfl h) (λh=>?_)|refine CP (i+1) ω ω ?_)
  repeat'(first|exact tV1|rfl|exact CK rfl (CK (O1 I (by first|omega|(simp only[aW.cnt]at a;omega))) tV1)|refine CK ?_ ?_)
 refine σB ?_
 have l:i=x.length:=ω
 subst l;exact gm (by rw[qR])
def FL(x:List aB)(k:Int)(e:rS x)(l:0<=k)(h1:k+(dI x:Nat)<=1099511627776):zzA 166 false [.val none (hJ .O (eA x k)),.vI k] .one [I (k+(dI x:Nat))]:=by
 have n:x.length<=1048576:=e.1;have g:=mu x k;refine fO 22 [] Tryz.func166 rfl ?_
 refine σP ?_
 refine CV (ι:=Nat) (λi=>[(0,bC (hJ .O (eA x k))),(1,fI (k+(cZ x i:Nat))),(5,fN i)]) (λi=>i<=x.length) (λi=>x.length - i) 0 ?_ (I1 _) λi o=>?_
 ·rw[mS]
  repeat'(first|exact tV1|rfl|exact CK rfl (CK (O1 I ω) tV1)|refine CK ?_ ?_)
 by_cases c:i<x.length
 ·obtain⟨y,d⟩ : ∃y,x[i]? = some y:=⟨_,z4 c⟩
  have h:=m6 x k i y d;have a:=my x i y d;have b:=pq x (i+1);rw[a]at b
  repeat'(first|refine gB ?_|refine CF (rP y.W _ (e.2 y (t4 d)) ω (by simp only[aB.cnt]at b;omega)) ?_|refine CP (i+1) ω ω ?_)
  repeat'(first|exact tV1|rfl|exact CK rfl (CK (O1 I (by first|omega|(simp only[aB.cnt]at a;omega))) tV1)|refine CK ?_ ?_)
 refine σB ?_
 have j:i=x.length:=ω
 subst j;exact gm (by rw[oh])
def Jc(x:List aX)(k:Int)(e:uo x)(n:0<=k)(h1:k+(ep x:Nat)<=1099511627776):zzA 433 false [.val none (bg .O (eO x k)),.vI k] .one [I (k+(ep x:Nat))]:=by
 have o:x.length<=1048576:=e.1;have g:=nR x k;refine fO 31 [] Tryz.func433 rfl ?_
 refine σP ?_
 refine CV (ι:=Nat) (λi=>[(0,bC (bg .O (eO x k))),(1,fI (k+(dN x i:Nat))),(5,fN i)]) (λi=>i<=x.length) (λi=>x.length - i) 0 ?_ (I1 _) λi p=>?_
 ·rw[oz]
  repeat'(first|exact tV1|rfl|exact CK rfl (CK (O1 I ω) tV1)|refine CK ?_ ?_)
 by_cases c:i<x.length
 ·obtain⟨y,d⟩ : ∃y,x[i]? = some y:=⟨_,z4 c⟩
  have j:=ox x k i y d;have a:=oy x i y d;have b:=qT x (i+1);rw[a]at b;simp only[aX.cnt]at a b
  repeat'(first|refine gB ?_|refine Bf.N (λh=>absurd rfl h) (λh=>?_)|refine CP (i+1) ω ω ?_)
  repeat'(first|exact tV1|rfl|exact CK rfl (CK (O1 I (by first|omega|(simp only[aX.cnt]at a;omega))) tV1)|refine CK ?_ ?_)
 refine σB ?_
 have l:i=x.length:=ω
 subst l;exact gm (by rw[pv])
def Fa(x:List (List aX))(k:Int)(e:qS x)(l:0<=k)(h1:k+(eP x:Nat)<=1099511627776):zzA 320 false [.val none (iR .O (eC x k)),.vI k] .one [I (k+(eP x:Nat))]:=by
 have n:x.length<=1048576:=e.1;have g:=mI x k;refine fO 21 [] Tryz.func320 rfl ?_
 refine σP ?_
 refine CV (ι:=Nat) (λi=>[(0,bC (iR .O (eC x k))),(1,fI (k+(cU x i:Nat))),(5,fN i)]) (λi=>i<=x.length) (λi=>x.length - i) 0 ?_ (I1 _) λi o=>?_
 ·rw[m0]
  repeat'(first|exact tV1|rfl|exact CK rfl (CK (O1 I ω) tV1)|refine CK ?_ ?_)
 by_cases a:i<x.length
 ·obtain⟨y,b⟩ : ∃y,x[i]? = some y:=⟨_,z4 a⟩
  have h:=m9 x k i y b;have c:=mR x i y b;have d:=qg x (i+1);rw[c]at d
  repeat'(first|refine gB ?_|refine CF (Jc y _ (e.2 y (t4 b)) ω ω) ?_|refine CP (i+1) ω ω ?_)
  repeat'(first|exact tV1|rfl|exact CK rfl (CK (O1 I ω) tV1)|refine CK ?_ ?_)
 refine σB ?_
 have j:i=x.length:=ω
 subst j;exact gm (by rw[nU])
def Ld(x:aI)(k:Int)(a:aI.sml x)(d:0<=k)(h1:k+(aI.cnt x:Nat)<=1099511627776):zzA 167 false [.val (some 2) (aI.enc .O (x.mark k)),.vI k] .one [I (k+(aI.cnt x:Nat))]:=by
 obtain⟨b,c⟩:=a;unfold aI.cnt at h1;refine fO 18 [] Tryz.func167 rfl ?_
 repeat'(first|refine gB ?_|refine CF (Fa x.T _ b ω ω) ?_|refine CF (rP x.g _ c ω ω) ?_)
 exact gm (by unfold aI.cnt;omega)
def EK(x:List aJ)(k:Int)(e:iP x)(n:0<=k)(h1:k+(fF x:Nat)<=1099511627776):zzA 321 false [.val none (bY .O (eE x k)),.vI k] .one [I (k+(fF x:Nat))]:=by
 have o:x.length<=1048576:=e.1;have g:=mA x k;refine fO 40 [] Tryz.func321 rfl ?_
 refine σP ?_
 refine CV (ι:=Nat) (λi=>[(0,bC (bY .O (eE x k))),(1,fI (k+(cY x i:Nat))),(5,fN i)]) (λi=>i<=x.length) (λi=>x.length - i) 0 ?_ (I1 _) λi p=>?_
 ·rw[mU]
  repeat'(first|exact tV1|rfl|exact CK rfl (CK (O1 I ω) tV1)|refine CK ?_ ?_)
 by_cases c:i<x.length
 ·obtain⟨y,d⟩ : ∃y,x[i]? = some y:=⟨_,z4 c⟩
  have j:=mM x k i y d;have a:=m7 x i y d;have b:=p9 x (i+1);rw[a]at b;simp only[aJ.cnt]at a b
  repeat'(first|refine gB ?_|refine Bf.N (λh=>absurd rfl h) (λh=>?_)|refine CP (i+1) ω ω ?_)
  repeat'(first|exact tV1|rfl|exact CK rfl (CK (O1 I (by first|omega|(simp only[aJ.cnt]at a;omega))) tV1)|refine CK ?_ ?_)
 refine σB ?_
 have l:i=x.length:=ω
 subst l;exact gm (by rw[o7])
def MB(x:bh)(k:Int)(a:bh.sml x)(c:0<=k)(h1:k+(bh.cnt x:Nat)<=1099511627776):zzA 168 false [.val (some 2) (bh.enc .O (x.mark k)),.vI k] .one [I (k+(bh.cnt x:Nat))]:=by
 have b:=a;unfold bh.cnt at h1;refine fO 12 [] Tryz.func168 rfl ?_
 repeat'(first|refine gB ?_|refine CF (EK x.q _ b ω ω) ?_)
 exact gm (by unfold bh.cnt;omega)
def LH(x:b9)(k:Int)(a:b9.sml x)(c:0<=k)(h1:k+(b9.cnt x:Nat)<=1099511627776):zzA 322 false [.val (some 3) (b9.enc .O (x.mark k)),.vI k] .one [I (k+(b9.cnt x:Nat))]:=by
 have b:=a;unfold b9.cnt at h1;refine fO 12 [] Tryz.func322 rfl ?_
 repeat'(first|refine gB ?_|refine CF (ma x.U _ b ω ω) ?_)
 exact gm (by unfold b9.cnt;omega)
def Pk(x:bW)(k:Int)(a:bW.sml x)(c:0<=k)(h1:k+(bW.cnt x:Nat)<=1099511627776):zzA 169 false [.val (some 5) (bW.enc .O (x.mark k)),.vI k] .one [I (k+(bW.cnt x:Nat))]:=by
 have b:=a;unfold bW.cnt at h1;refine fO 12 [] Tryz.func169 rfl ?_
 repeat'(first|refine gB ?_|refine CF (LH x.d _ b ω ω) ?_)
 exact gm (by unfold bW.cnt;omega)
def Mt(x:ac)(k:Int)(a:ac.sml x)(n:0<=k)(h1:k+(ac.cnt x:Nat)<=1099511627776):zzA 52 false [.val (some 24) (ac.enc .O (x.mark k)),.vI k] .one [I (k+(ac.cnt x:Nat))]:=by
 obtain⟨b,c,d,e,g,h,i,j,l⟩:=a;unfold ac.cnt at h1;refine fO 60 [] Tryz.func52 rfl ?_
 repeat'(first|refine gB ?_|refine CF (Fe x.G _ b ω ω) ?_|refine CF (Fx x.b _ c ω ω) ?_|refine CF (Ho x.J _ d ω ω) ?_|refine CF (EB x.H _ e ω ω) ?_|refine CF (Mm x.K _ g ω ω) ?_|refine CF (FL x.R _ h ω ω) ?_|refine CF (Ld x.e _ i ω ω) ?_|refine CF (MB x.a1 _ j ω ω) ?_|refine CF (Pk x.a5 _ l ω ω) ?_)
 exact gm (by unfold ac.cnt;omega)
def kO(sp:List aA)(ps:List Int)(b:Int):Nat->Int
 | 0=>b
 | j+1=>if(nth sp j).S∈ps then bor (kO sp ps b j) (nth sp j).a6 else kO sp ps b j
def Dt{sp:List aA}(h:∀s∈sp,bq s=true){ps:List Int}{b:Int}(a:0<=b/\b<=65535):∀j,j<=sp.length->0<=kO sp ps b j/\kO sp ps b j<=65535
 | 0,_=>a
 | j+1,d=>by
  have c:=Dt h (ps:=ps) a j ω;simp only[kO];split
  ·exact Pt c (oQ h ω)
  exact c
def vf(h:ac)(i:Nat)(n:dl h.J)(c:Ak h)(a:∀s∈h.J,bq s=true)(t:i<h.J.length):zzA 397 false [.val (some 24) (ac.enc .O h),.vI (i:Nat)] .one [I (kO h.J (aZ h (nth h.J i).S) (nth h.J i).a6 h.J.length)]:=by
 have C:=n.1;have u:=ar t;have d:=oQ a t;have w:=aG ((i:Nat):Int) 0 ((h.J.length:Int) - 1);rw[O0 (show(0:Int)<=(i:Nat)/\((i:Nat):Int)<=(h.J.length:Int) - 1 by omega)]at w;have y:=mr h (nth h.J i).S c;have o:=gJ h (nth h.J i).S;have D:fT h<=1048576:=c.1;obtain⟨ps,p⟩ : ∃ps,aZ h (nth h.J i).S=ps:=⟨_,rfl⟩
 obtain⟨b,q⟩ : ∃b,(nth h.J i).a6=b:=⟨_,rfl⟩
 rw[p]at y o |-;rw[q]at d |-;have E:kO h.J ps b 0=b:=rfl;refine fO 47 [(4,7,[22,23,24,25,26,27,28])] Tryz.func397 rfl ?_
 refine σP ?_
 refine lp0 h.J.length (λj=>[(5,fI (kO h.J ps b j)),(6,bC (aE .own ps)),(31,bC (bP .O h.J)),(32,fI (h.J.length:Nat)),(33,fN j)]) λj F=>?_
 by_cases B:j<h.J.length
 ·have k:=ar B
  have r:=Dt a (ps:=ps) d j F;have l:=vn ps (nth h.J j).S ω;by_cases e:(nth h.J j).S∈ps
  ·have g:kO h.J ps b (j+1)=bor (kO h.J ps b j) (nth h.J j).a6:=CJ e
   rw[O0 e]at l
   repeat'(first|refine gE ?_|refine CS (or64 r (oQ a B)) ?_|refine CM (l) ⟨⟨rfl,eI _⟩,⟨rfl,rfl⟩,tV1⟩ ?_)
   (exact dt (j+1) ω)
  have g:kO h.J ps b (j+1)=kO h.J ps b j:=CI e;rw[C1 e]at l
  repeat'(first|refine gE ?_|refine CM (l) ⟨⟨rfl,eI _⟩,⟨rfl,rfl⟩,tV1⟩ ?_)
  (exact dt (j+1) ω)
 obtain rfl:j=h.J.length:=ω
 refine σE ?_
 rfl
def Vk(a b:Int)(k:Nat):(bor a b).toNat.testBit k=true↔a.toNat.testBit k=true\/b.toNat.testBit k=true:=by
 unfold bor;rw[O4,Nat.testBit_or,IC]
def Q3(sp:List aA)(p b:Int)(k:Nat):∀j,(sP sp p b j).toNat.testBit k=true↔b.toNat.testBit k=true\/∃i,i<j/\(nth sp i).S=p/\(nth sp i).a6.toNat.testBit k=true
 | 0=>by simp[sP]
 | j+1=>by
  have g:=Q3 sp p b k j;simp only[sP];split
  ·rename_i e
   rw[Vk,g];constructor
   ·rintro((h|⟨i,d,a,c⟩)|h)
    ·exact .inl h
    ·exact .inr ⟨i,ω,a,c⟩
    exact .inr ⟨j,ω,e,h⟩
   rintro(h|⟨i,d,a,c⟩)
   ·exact .inl (.inl h)
   by_cases f:i=j
   ·subst f;exact .inr c
   exact .inl (.inr ⟨i,ω,a,c⟩)
  rename_i e;rw[g];constructor
  ·rintro(h|⟨i,d,a,c⟩)
   ·exact .inl h
   exact .inr ⟨i,ω,a,c⟩
  rintro(h|⟨i,d,a,c⟩)
  ·exact .inl h
  by_cases f:i=j
  ·subst f;exact absurd a e
  exact .inr ⟨i,ω,a,c⟩
def KI(sp:List aA)(ps:List Int)(b:Int)(k:Nat):∀m,(jD sp ps b m).toNat.testBit k=true↔b.toNat.testBit k=true\/∃u,u<m/\∃i,i<sp.length/\(nth sp i).S=nth ps u/\(nth sp i).a6.toNat.testBit k=true
 | 0=>by simp[jD]
 | m+1=>by
  have c:=KI sp ps b k m;simp only[jD];rw[Q3,c];constructor
  ·rintro((h|⟨u,d,a⟩)|h)
   ·exact .inl h
   ·exact .inr ⟨u,ω,a⟩
   exact .inr ⟨m,ω,h⟩
  rintro(h|⟨u,d,a⟩)
  ·exact .inl (.inl h)
  by_cases e:u=m
  ·subst e;exact .inr a
  exact .inl (.inr ⟨u,ω,a⟩)
def Ma(sp:List aA)(ps:List Int)(b:Int)(k:Nat):∀j,(kO sp ps b j).toNat.testBit k=true↔b.toNat.testBit k=true\/∃i,i<j/\(nth sp i).S∈ps/\(nth sp i).a6.toNat.testBit k=true
 | 0=>by simp[kO]
 | j+1=>by
  have g:=Ma sp ps b k j;simp only[kO];split
  ·rename_i e
   rw[Vk,g];constructor
   ·rintro((h|⟨i,d,a,c⟩)|h)
    ·exact .inl h
    ·exact .inr ⟨i,ω,a,c⟩
    exact .inr ⟨j,ω,e,h⟩
   rintro(h|⟨i,d,a,c⟩)
   ·exact .inl (.inl h)
   by_cases f:i=j
   ·subst f;exact .inr c
   exact .inl (.inr ⟨i,ω,a,c⟩)
  rename_i e;rw[g];constructor
  ·rintro(h|⟨i,d,a,c⟩)
   ·exact .inl h
   exact .inr ⟨i,ω,a,c⟩
  rintro(h|⟨i,d,a,c⟩)
  ·exact .inl h
  by_cases f:i=j
  ·subst f;exact absurd a e
  exact .inr ⟨i,ω,a,c⟩
def Ug{sp:List aA}(h:∀s∈sp,bq s=true){ps:List Int}{b:Int}(f:0<=b/\b<=65535):kO sp ps b sp.length=jD sp ps b ps.length:=by
 have a:=Dt h (ps:=ps) f sp.length (z5 _);have c:=nK h (ps:=ps) f ps.length;have e:(kO sp ps b sp.length).toNat=(jD sp ps b ps.length).toNat:=by
  apply Nat.eq_of_testBit_eq;intro k;rw[z9,Ma,KI];constructor
  ·rintro(h|⟨i,a,c,d⟩)
   ·exact .inl h
   obtain⟨u,g⟩:=List.getElem?_of_mem c;exact .inr ⟨u,(C4.1 g).1,i,a,(bB g).symm,d⟩
  rintro(h|⟨u,a,i,c,d,j⟩)
  ·exact .inl h
  exact .inr ⟨i,c,by rw[d];exact ax a,j⟩
 omega
def zO(a:∀s∈h.J,bq s=true)(b:i<h.J.length):kO h.J (aZ h (nth h.J i).S) (nth h.J i).a6 h.J.length=eH h i:=Ug a (oQ a b)
def BV(h:ac)(a:∀o∈h.K,0<=o.y/\o.y<=1000)(e:h.K.length<=1048576):zzA 118 false [.val (some 24) (ac.enc .O h)] .one [I (qI h)]:=by
 refine fO 19 [] Tryz.func118 rfl ?_
 refine σP ?_
 refine lp0 h.K.length (λk=>[(3,fI (wc h.K k)),(7,bC (iU .O h.K)),(8,fI h.K.length),(9,fN k)]) λk d=>?_
 have g:=qo a k d;by_cases b:k<h.K.length
 ·have c:=ar b
  have i:=a _ (ax b)
  refine σE ?_
  (exact dt (k+1) ω)
 obtain rfl:k=h.K.length:=ω
 refine σE ?_
 rfl
def sL(k b:Int)(e:b<=9223372036854775807):zzA 396 false [.vI (slots k),.vI b] .one (aE .own (rv k b)):=by
 have c:=uX k b;have n:0<=slots k/\slots k<=16:=by unfold slots;repeat' split<;>omega
 unfold rv;cases g:R9 k b<;>rw[g]at c
 ·rw[CI (by simp)]
  refine fO 26 [] Tryz.func396 rfl ?_ (.inr (bH _))
  repeat'((conv=>whnf);first|with_reducible (first|refine Lm ?_|refine Wm ω ?_|refine Bn ?_|refine km.wk rfl ?_)|refine Bt ?_|refine Bu ?_|refine CF (c) ?_)
  all_goals exact⟨rfl,tV1⟩
 rw[CJ rfl];refine fO 26 [] Tryz.func396 rfl ?_ (.inr (bH _))
 refine σP ?_
 refine lp0 ((slots k).toNat) (λj=>[(0,fI (slots k)),(1,fI b),(5,bC (aE .own (ov b j))),(6,fN j)]) λj o=>?_
 have h:=u7 b j;by_cases p:j<(slots k).toNat
 ·have d:=jb b (j:Nat) e
  have a:ov b (j+1)=if bo b (j:Nat)=true then ov b j else ov b j++[((j:Nat):Int)]:=rfl
  cases i:bo b (j:Nat)<;>rw[i]at d a
  ·rw[CI (by simp)]at a
   repeat'(first|refine gE ?_|refine Cb cN (λr l=>by rw[z3.1 l];rfl) (by simp[bu,f6]) kd (by simp only[I2];exact zc kd qs) rfl ?_)
   (refine CP (j+1) ω ω ?_)
   rw[a]
   repeat'(first|exact tV1|rfl| exact tz _ |exact CK rfl (CK (O1 (C.s eL.own) (by simp[rI])) tV1)|refine CK ?_ ?_|(exact XK (by first|omega|(simp only;omega)|(simp;omega))))
  rw[CJ rfl]at a
  refine σE ?_
  (refine CP (j+1) ω ω ?_)
  rw[a];exact wC
 obtain rfl:j=(slots k).toNat:=ω
 refine σE ?_
 rfl
def Fd(b i:Int)(d:0<=b/\b<=65535)(a:0<=i/\i<=15):zzA 399 false [.vI b,.vI i] .one [I (iT b i)]:=by
 have c:=ux b i;rw[O0 ω]at c;have e:=(or64 (z1:=b) (z2:=2 ^ i.toNat) d (by have:=shl64 a;omega)).trans (GT b i);refine fO 14 [] Tryz.func399 rfl ?_
 repeat'(first|refine gP ?_|refine CT ω ?_|refine CS (shl64 a).1 ?_|refine CS e ?_)
 rfl
def G3(f:aQ)(i:Nat):aQ.enc .own ⟨f.U,f.a3.set i true⟩ = [.s .own (f.U.map (aE .own)),.s .own ((f.a3.map (rB .own)).set i (rB .own true))]:=by
 simp[aQ.enc,CC]
def zM(f:aQ):aQ × Int × Bool:=
 if cy (λu=>!u) f.a3<0 then(f,-1,false) else(⟨f.U,f.a3.set (cy (λu=>!u) f.a3).toNat true⟩,cy (λu=>!u) f.a3,true)
def DI(f:aQ)(l:dP f=true)(b:aQ.sml f):zzA 474 false [.val (some 2) (aQ.enc .O f)] (.tup [some 2,none,none]) (aQ.enc .own (zM f).1++[I (zM f).2.1,B (zM f).2.2]):=by
 have n:=sj f b;have h:=vr f b;rw[l]at h;have p:f.a3.length<=1048576:=b.2;refine fO 30 [] Tryz.func474 rfl ?_ (.inr (a7 (aQ.enc_fr _) ⟨tV1,tV1,tV1⟩))
 refine σP ?_
 refine gn f.a3.length (λi=>[(2,bS [.z,.z]),(5,bS (aQ.enc .own f)),(13,bC (lf .O f.a3)),(14,fI f.a3.length),(15,fN i)]) (λi=>∀(j:Nat)(z:Bool),j<i->f.a3[j]? = some z->(!z)=false) (λj z q=>ω) λi k=>?_
 obtain⟨k,c⟩:=k;by_cases o:i<f.a3.length
 ·have a:=ar o
  cases e:nth f.a3 i<;>rw[e]at a
  ·have d:cy (λu=>!u) f.a3=(i:Nat):=dO a rfl c
   have g:zM f=((⟨f.U,f.a3.set i true⟩ : aQ),((i:Nat):Int),true):=by unfold zM;rw[d,CI ω];rfl
   rw[g];simp only;rw[G3]
   repeat'(first|refine gE ?_|refine CR rfl rfl (aa a) rfl (O2 rfl) rfl ?_)
   rfl
  refine σE ?_
  (exact dt (i+1) ⟨ω,fH a rfl c⟩)
 have d:cy (λu=>!u) f.a3 = -1:=gd ω c;have g:zM f=(f,-1,false):=by unfold zM;rw[d];rfl
 rw[g]
 refine σE ?_
 rfl
variable{rows:List (List C)}
def di.fzAt{w:World}{S F:am}{o:eL}{v:Value}(h:di w S F (.s o rows) v)(X:o=.own)(E:rows[k]? = some r) :
  ∃V:am,(∀b q,V b q->F b q)/\di w (λb q=>S b q\/V b q) (λb q=>F b q/\¬V b q) (.s o (rows.set k (cP r))) v:=by
 cases h with
 | nil=>simp at E
 | O=>cases X
 | suf _ _ g off K n G _ u f A=>subst X;exact A.elim
 | own _ _ g K n G _ u f A Q O H J Y hu P Z hc=>
  have B:k<n:=by have:=(C4.1 E).1;omega
  have hq:∀j,j<K->(k*K+j) / K=k:=λj a=>by
   rw[Nat.mul_comm,Nat.mul_add_div ω,Nat.div_eq_of_lt a,Nat.add_zero]
  refine⟨λb q=>∃j,j<K/\f (k*K+j) b q,λb q ⟨j,a,l⟩=>(P _ (cG B a) b q l).1,?_⟩;refine .own _ o g K n G _ u (λq=>if q / K=k then NO else f q) A (by simpa using Q) (λr' R=>?_) H J (λq d=>⟨⟨(Y q d).1,λ⟨j,a,l⟩=>(P _ (cG B a) _ _ l).2 ⟨rfl,d⟩⟩,(Y q d).2⟩) hu (λq d b y l=>?_) (λq T h1 h2 h3 b y L M=>?_) (λi j r' c N a=>?_)
  ·rcases SC R with h|rfl
   ·exact O _ h
   rw[bX,I2];exact O _ (t4 E)
  ·replace l:(if q / K=k then NO else f q) b y:=l
   split at l
   ·exact l.elim
   rename_i D;refine⟨⟨(P q d b y l).1,λ⟨j,a,U⟩=>Z q (k*K+j) d (cG B a) (λe=>D (by rw[e];exact hq j a)) b y l U⟩,(P q d b y l).2⟩
  ·replace L:(if q / K=k then NO else f q) b y:=L
   replace M:(if T / K=k then NO else f T) b y:=M;split at L
   ·exact L.elim
   split at M
   ·exact M.elim
   exact Z q T h1 h2 h3 b y L M
  by_cases e:i=k
  ·subst e
   have W:(rows.set i (cP r))[i]? = some (cP r):=by
    rw[I6 ω]
   rw[W]at N;obtain rfl:=Option.some.inj N;rw[bX,C5]at a;cases p:r[j]? with
   | none=>rw[p]at a;cases a
   | some c'=>
    rw[p]at a;simp only[S9,C2]at a;subst a;have t:=(pF Q O E p).2;show di w _ (if(i*K+j) / K=i then NO else f (i*K+j)) _ _;rw[CJ (hq j t)];exact(hc i j r c' E p).freeze.mono (λb o h=>h.elim .inl λh=>.inr ⟨j,t,h⟩) (λ_ _ h=>h)
  rw[List.getElem?_set_ne ω]at N;have t:=(pF Q O N a).2;have D:¬(i*K+j) / K=k:=by
   rw[Nat.mul_comm,Nat.mul_add_div ω,Nat.div_eq_of_lt t,Nat.add_zero];exact e
  show di w _ (if(i*K+j) / K=k then NO else f (i*K+j)) _ _;rw[CI D];exact(hc i j r' c N a).mono (λ_ _ h=>.inl h) (λ_ _ h=>h)
def cz.fzAt{w:World}{S F:am}{cs:List C}{u:Nat->Value}(h:cz w S F cs u){off:Nat}{o:eL}(B:cs[off]? = some (.s o rows))(G:o=.own)(H:rows[k]? = some r) :
  ∃V:am,(∀b q,V b q->F b q)/\cz w (λb q=>S b q\/V b q) (λb q=>F b q/\¬V b q) (cs.set off (.s o (rows.set k (cP r)))) u:=by
 obtain⟨f,D,y,t⟩:=h;have i:=(C4.1 B).1;obtain⟨V,E,J⟩:=(D off _ B).fzAt G H;refine⟨V,λb q A=>y off i b q (E b q A),λj=>if j=off then(λb q=>f off b q/\¬V b q) else f j,λj c g=>?_,λj g b q d=>?_,λj p g l n b q d a=>?_⟩
 ·by_cases e:j=off
  ·subst e
   rw[I6 i]at g;obtain rfl:=Option.some.inj g;simpa using J
  rw[List.getElem?_set_ne ω]at g;show di w _ (if j=off then _ else f j) _ _;rw[CI e];exact(D j c g).mono (λ_ _ h=>.inl h) (λ_ _ h=>h)
 ·rw[C3]at g
  replace d:(if j=off then(λb q=>f off b q/\¬V b q) else f j) b q:=d;split at d
  ·exact⟨y off i b q d.1,d.2⟩
  rename_i e;exact⟨y j g b q d,λA=>t j off g i e b q d (E b q A)⟩
 rw[C3]at g l;replace d:(if j=off then(λb q=>f off b q/\¬V b q) else f j) b q:=d;replace a:(if p=off then(λb q=>f off b q/\¬V b q) else f p) b q:=a;split at d
 ·rename_i e
  rw[CI ω]at a;exact t j p g l n b q (e ▸ d.1) a
 split at a
 ·rename_i e
  exact t j p g l n b q d (e ▸ a.1)
 exact t j p g l n b q d a
def ah.fzAt{P:Program}{f:Nat}{sh:Bool}{A:List RA}{k:Kd}{rcs:List C}(h:ah P f sh A k rcs){off:Nat}{o:eL}(g:rcs[off]? = some (.s o rows))(i:o=.own){j:Nat}(l:rows[j]? = some r) :
  ah P f sh A k (rcs.set off (.s o (rows.set j (cP r)))):=by
 obtain⟨n,p⟩:=h;refine⟨n,λw S t u y=>(p w S t u y).mono λe w1 B=>?_⟩;obtain⟨v,D,E,X,S1,d,F,G,H,J⟩:=B;obtain⟨V,K,L⟩:=J.fzAt g i l;refine⟨v,D,E,_,_,λb q c=>d b q c.1,λb q c=>?_,λb q c a=>?_,by rw[C3];exact H,L⟩
 ·rcases c with c|c
  ·exact F b q c
  exact .inr (d b q (K b q c))
 rcases a with a|a
 ·exact G b q c.1 a
 exact c.2 a
set_option maxRecDepth 100000
def KR:∀w,(zeroValue 194).run Tryz.prog w=.ok (.agg #[.int .i64 0,.slice none 0 0]) w:=λ_=>by kernel_rfl
theorem Fi:y3 Tryz.prog 285 2:=by
 refine⟨⟨_,Tryz.func285,by kernel_rfl,by kernel_rfl⟩,λw g n c i news p r l y B b=>?_⟩;obtain⟨A,U,a⟩:=w7 l r p y;have a:Hid (∀t u,news[t]? = some u->w.drew.cell? (A.add t)=some u):=a;have R:Hid (news.length=(n - (i+1))*2):=l;have V:Hid (∀u∈news,u.oneCell'=true):=B;have W:Hid (∀t,t<news.length->(w.drew.cell? ⟨g,0+i*2+t,none⟩).isSome=true/\w.drew.frozen? ⟨g,0+i*2+t,none⟩ = false):=λt ht=>by
  rw[SD];exact b (i*2+t) ω
 obtain⟨o,d⟩ : ∃o,o=w.drew.setCells g (0+i*2) news:=⟨_,rfl⟩
 have X:∀q,q<n*2->(o.cell? ⟨g,q,none⟩).isSome=true/\o.frozen? ⟨g,q,none⟩ = false:=λq S=>by
  have C:∀j,j<news.length->∃z,cel w.drew g (0+i*2+j)=some z:=λj Y=>by
   have:=(b (0+i*2+j) ω).1;exact Option.isSome_iff_exists.1 this
  refine⟨?_,by rw[d];exact(O1 Prod.fst (ch g _ news w.drew g q)).trans (b q S).2⟩;rw[d];by_cases h:0+i*2<=q/\q<0+i*2+news.length
  ·have:=b6 C (z4 (show q - (0+i*2)<news.length by omega))
   grind
  show(cel _ g q).isSome=true;rw[bp (λx=>h x.2)];exact(b q S).1
 obtain⟨K,D,E,F⟩:=xK (P:=Tryz.prog) o 83 194 2 (.agg #[.int .i64 0,.slice none 0 0]) Tryz.underlying83 KR rfl (by intro v T;simp[Value.cells]at T;rcases T with rfl|rfl<;>rfl) g ((i+(n - (i+1)))*2) (n - (i+(n - (i+1)))) ω qs ψ ψ;have G:Hid (K.length=(n - (i+(n - (i+1))))*2):=D;have H:Hid (∀v∈K,v.oneCell'=true):=E;have Z:Hid (o=w.drew.setCells g (0+i*2) news):=d;have hic:i<=c:=ω
 have L:i+1<=c:=ω
 have M:¬i=i+1:=ω
 have N:i+1<=n:=p;have k:n - 1=i+(n - (i+1)):=ω
 clear d X b y B l D E;rw[k];generalize Y:i+1=j at U a R F G L M N k |-;obtain⟨J,O,Q⟩ : ∃J,Tryz.prog.info? 194=some J/\J.size=2:=by
  have h:=(rV 194 _ rfl).1;cases e : Tryz.prog.info? 194 with
  | none=>grind
  | some x=>rw[e]at h;simp only[S9,C2,Prod.mk.injEq]at h;exact⟨x,rfl,h.2.1⟩
 have mixed : Tryz.prog.follows .mixedOrders=true:=by kernel_rfl
 go_enter Tryz.func285,Tryz.ntmps285
 go_wp2_with fail
 go_region_law_o (refine step_append_room rfl (.tmp 22) (.tmp 25) 83 rfl 194 J 2 Tryz.underlying83 O Q g 0 i c (by simp[Act.eval,Act.put]) A (n - j) (c - j) news (by simp[Act.eval,Act.put]) R.out a.out V.out ω W.out ?_;rw[<-Z.out])
 go_wp2
 go_ret
 refine⟨rfl,K,by grind [Go.RowKit.Hid.out],H.out,?_⟩
 grind [Go.RowKit.Hid.out]
theorem EE(xs:List aK)(i:Nat)(a:i<xs.length):zzB 285 false [.mut none [.s .own (xs.map (aK.enc .own))],.vI (i:Nat),.vI ((i+1:Nat):Int)] [.mut none [.x],.vI (i:Nat),.vI ((i+1:Nat):Int)] .one [oE ((dele xs i).map (aK.enc .own))]:=by
 have h:=Dh Fi (rows:=xs.map (aK.enc .own)) (i:=i) ψ (aN λ_=>rfl) (bj _ _ λx _=>aK.enc_fr x)
 grind [C8,I8,dele]
theorem yQ(xs:List aK)(pr:aK->Bool)(g:xs.length<=9223372036854775807):zzA 411 false [.val none ([.s .O (xs.map (aK.enc .O))]),.fn (oI Tryz.prog (sB (some 2) (aK.enc .O) pr xs))] .one [I (cy pr xs)]:=by
 refine fO 19 [] Tryz.func411 rfl ?_
 refine σP ?_
 refine gn xs.length (λi=>[(0,bC ([.s .O (xs.map (aK.enc .O))])),(1,.fv (oI Tryz.prog (sB (some 2) (aK.enc .O) pr xs))),(7,fI xs.length),(8,fN i)]) (λi=>∀(j:Nat)(z:aK),j<i->xs[j]? = some z->pr z=false) ψ λi b=>?_
 obtain⟨b,d⟩:=b;by_cases a:i<xs.length
 ·obtain⟨y,c⟩ : ∃y,xs[i]? = some y:=⟨_,z4 a⟩
  repeat'(first|refine gE ?_|refine Fv.mk (k:=.one) (rcs:=[B (pr y)]) ⟨y,t4 c,rfl,rfl,rfl⟩ ?_|refine Bf.P (λe=>?_) (λe=>?_))
  ·grind [dO]
  (conv=>whnf)
  exact dt (i+1) ψ
 refine σE ?_
 exact gm (gd ω d).symm
theorem zu(o:aK)(id:Int):zzA 412 false [.val (some 2) (aK.enc .O o),.ptr [I id]] .one [B (iG id o)]:=by
 refine fO 8 [] Tryz.func412 rfl ?_
 refine σP ?_
 grind [iG]
def pn(r:au)(id:Int)(b:r.K.length<=1048576):zzA 284 false [.val (some 2) (au.enc .O r),.vI id] .one [I (oD r id)]:=by
 refine fO 9 [] Tryz.func284 rfl ?_
 repeat'(first|refine gP ?_|refine Cq.mk (sB (some 2) (aK.enc .O) (iG id) r.K) (zu default id).has (λL k rcs a=>?_) ?_|refine CF (yQ r.K (iG id) ω) ?_)
 ·obtain⟨y,-,rfl,rfl,rfl⟩:=a
  exact zu y id
 rfl
def KT:zzA 174 false [] .agg (au.enc .own ⟨1,[]⟩):=by
 refine fO 2 [] Tryz.func174 rfl ?_ (.inr (Cr _))
 repeat'((conv=>whnf);first|with_reducible (first|refine Lm ?_|refine Wm ω ?_|refine Bn ?_|refine km.wk rfl ?_)|refine Bt ?_|refine Bu ?_|refine CG ?_)
 exact⟨rfl,rfl,tV1⟩
def xF(p f:Nat)(a:List Int)(b:1<=p/\p<=32)(c:1<=f/\f<=32)(d:a.length<=40/\∀x∈a,0<=x):zzA 327 false [.vI (p:Nat),.vI (f:Nat),.val none (aE .O a)] (.tup [some 5,none]) (af.enc .own (bJ p f a)++[B true]):=by
 have e:=qf b c d;have h:=d.1;have g:=lH (bJ p f a) (bk e);rw[e]at g;have i:=cK a ω;refine fO 30 [(2,260,[17,18,19,10,0,1,2,4,3,1004,5])] Tryz.func327 rfl ?_ (.inr (a7 (Ci _) ⟨tV1,tV1⟩))
 repeat'(first|refine gP ?_|refine CF (rX p f b c) ?_|refine CM (g) ⟨⟨rfl,CU (bJ p f a)⟩,tV1⟩ ?_)
 rfl
def Pr(p f t:Nat)(lim:Int)(a:List Int)(c:1<=p/\p<=32)(d:1<=f/\f<=32)(e:1<=t/\t<=4)(g:0<=lim/\lim<=1000)(h:a.length<=40/\∀x∈a,0<=x):zzA 173 false [.vI (p:Nat),.vI (f:Nat),.vI (t:Nat),.vI lim,.val none (aE .O a)] (.tup [some 24,none]) (ac.enc .own (uF p f t lim a)++[B true]):=by
 have b:=aG lim 0 1000;rw[O0 g]at b;refine fO 68 [(10,4,[61,62,63,64])] Tryz.func173 rfl ?_ (.inr (a7 (ac.enc_fr _) ⟨tV1,tV1⟩))
 repeat'(first|refine gP ?_|refine CF (xF p f a c d h) ?_|refine CF (r8 t e) ?_|refine CF (Jt) ?_)
 refine lp0 t (λk=>[(2,fN t),(10,bS [.z,.z,.z,I 0,.z,.z,.z,.z,.z,.z,.z,.z,I 0,.z,I 0,I 0,I 0,I 0,B false,I 0,I 0,.z,I 0,I 0]),(18,bS (ac.enc .own (caps (uF p f t lim a) k))),(19,fN k)]) λk i=>?_
 by_cases j:k<t
 ·repeat'(first|refine gE ?_|refine CF (FA) ?_|refine Ap.sn KO rfl (by rw[I2];show(List.replicate _ gg).length+1<=_;rw[O6];omega) qs (Gx k) ?_)
  (exact dt (k+1) ω)
 obtain rfl:k=t:=ω
 refine σE ?_
 rfl
def vw(c:eU)(h:KB c):zzA 57 false [.val (some 5) (eU.enc .O c)] (.tup [some 26,none]) (aR.enc .own (world0 c)++[B true]):=by
 have a:=Pr c.a0 c.V c.c4 c.c2 c.a h.p h.f h.t h.l h.r;refine fO 26 [(4,2,[23,24])] Tryz.func57 rfl ?_ (.inr (a7 (aR.enc_fr _) ⟨tV1,tV1⟩))
 repeat'(first|refine gP ?_|refine CF (KT) ?_)
 rfl
def VD(a:Int)(l:a8):Bool:=decide (l.S*16=a)
def oR(l:a8)(a:Int)(b:0<=l.S/\l.S<=32):zzA 278 false [.val (some 3) (a8.enc .O l),.ptr [I a]] .one [B (VD a l)]:=by
 refine fO 9 [] Tryz.func278 rfl ?_
 refine σP ?_
 exact bx ((by unfold VD;rw[z9];simp))
def BU(h:ac)(b:ac.sml h)(a:h.K≠[]):zzA 104 false [.val (some 24) (ac.enc .O h)] .agg (cE h (oS h) (oL h) (.s .own (h.K.map (aW.enc .own)))):=by
 have c:=dM h b
 rwa [show dq h=cE h (oS h) (oL h) (.s .own (h.K.map (aW.enc .own))) by unfold dq oO;rw[tj λe=>a (List.map_eq_nil_iff.1 e)]]at c
def Hk(h:ac)(t a:Int)(b:ac.sml h)(d:fw h=true)(e:h.G.Calls=100000):zzA 123 false [.val (some 24) (ac.enc .O h),.vI t,.vI a] (.tup [some 24,none]) (dq h++[I 6]):=by
 have c:=cW h b;rw[eR,d]at c;refine fP 163 [(276,[1,0,0]),(279,[1,0,0]),(280,[2,0]),(281,[2,0,0]),(132,[2,0,0])] [(20,12,[85,86,87,88,89,90,91,92,93,94,95,96]),(24,4,[111,112,113,114])] Tryz.func123 rfl ?_ (.inr (a7 (cn _) ⟨tV1,tV1⟩))
 repeat'(first|refine gB ?_|refine CF (dM h b) ?_)
 rfl
def FK(h:ac)(o:aW)(t:Nat)(R:ac.sml h)(e1:fw h=true)(hc:h.G.Calls≠100000)(W:o∈h.K)(ht:o.w=t):zzA 123 false [.val (some 24) (ac.enc .O h),.vI (t:Nat),.vI o.Addr] (.tup [some 24,none]) (dq (freeOb h t (kR h o.Addr)).1++[I (freeOb h t (kR h o.Addr)).2]):=by
 have b:=bm.of e1;have S:=cW h R;rw[eR,e1]at S;obtain⟨p,F,G⟩:=b.objAt W;have q:=pE b W;have hon:=b.onu o W;have a:=b.lens;have hno:=a.objs;have hnl:=a.larges;have hlc:=a.caches;have H:t<h.R.length:=ω
 have T:=aG (t:Nat) 0 (h.R.length - 1:Int);rw[O0 ω]at T;have J:=vG h o.Addr ω;rw[G]at J;have U:=BU h R (gU p);generalize kR h o.Addr=i at p F J;subst F;have X:=ar p;have Y:=nh (nth h.K i).y;have C:=AO h.K i p;have Z:=bk b.ker;have c6:=de h.G.F.Q ((nth h.K i).Addr / 16) Z.1.2;have K:dq h=cE h (oS h) (oL h) (.s .own (h.K.map (aW.enc .own))):=by unfold dq oO;rw[tj λe=>gU p (List.map_eq_nil_iff.1 e)]
 unfold freeOb;by_cases d:aU (nth h.K i).y<0
 ·rw[CJ d]
  obtain⟨l,hl,h1,-⟩:=(eS b (ax p)).1 d;obtain⟨r,ea,-,hfi⟩:=wU hl h1;have D:=mB h.H (VD (nth h.K i).Addr) ω;rw[show cy (VD (nth h.K i).Addr) h.H=(wy h (nth h.K i).Addr:Nat) by unfold cy VD;rw[hfi]]at D;generalize wy h (nth h.K i).Addr=g at r ea D;have hf:=bf (b.L.lok _ (ax r));have hxl:=ar r;have M:=wH h.H g r;have E:=ku {h with K:=dele h.K i,H:=dele h.H g} ⟨(nth h.H g).S,(nth h.H g).a0⟩ (nth h.H g).a0.toNat b.ker hc (by show h.b.length<=_;have:=a.free;omega) ⟨by show(nth h.H g).a0=_;omega,by show 0<=(nth h.H g).S;omega,by show(nth h.H g).S<=_;omega,ω⟩;have hg:dq {h with K:=dele h.K i,H:=dele h.H g} = cE h (oS h) (oE ((dele h.H g).map (a8.enc .own))) (oE ((dele h.K i).map (aW.enc .own))):=rfl;have u:oL h=.s .own (h.H.map (a8.enc .own)):=by unfold oL;rw[tj λe=>gU r (List.map_eq_nil_iff.1 e)]
  rw[u]at U;rw[hg]at E;have hpg:∀y∈h.H,0<=y.S/\y.S<=32:=λy w=>by have:=bf (b.L.lok y w);omega
  rcases ug (rows:=(dele h.K i).map (aW.enc .own)) with e|⟨-,e⟩<;>rcases ug (rows:=(dele h.H g).map (a8.enc .own)) with e'|⟨-,e'⟩
  all_goals
   rw[e]at C E;rw[e']at M E;refine fP 163 [(276,[1,0,0]),(279,[1,0,0]),(280,[2,0]),(281,[2,0,0]),(132,[2,0,0])] [(20,12,[85,86,87,88,89,90,91,92,93,94,95,96]),(24,4,[111,112,113,114])] Tryz.func123 rfl ?_ (.inr (a7 (cn _) ⟨tV1,tV1⟩))
   repeat'(first|refine gB ?_|refine gS (λN=>?_) (λN=>?_)|refine Cq.mk (sB (some 3) (a8.enc .O) (VD (nth h.K i).Addr) h.H) (oR ⟨0,0,0⟩ (nth h.K i).Addr ⟨by decide,by decide⟩).has (λL k rcs hQ=>?_) ?_)
   ·obtain⟨y,w,rfl,rfl,rfl⟩:=hQ
    exact oR y _ (hpg y w)
   rfl
 rw[CI d];obtain⟨s1,s2,s3,s4⟩:=Yw.of b (ax p) d;have hcz:=H5 s1;by_cases V:(ay (tbl h) ((nth h.K i).Addr / 16)).o=1
 ·rw[CJ V]
  unfold tbl at V;have B:=cn h;simp only;rw[K]at B |-;rcases ug (rows:=(dele h.K i).map (aW.enc .own)) with e|⟨-,e⟩
  all_goals
   rw[e]at C;refine fP 163 [(276,[1,0,0]),(279,[1,0,0]),(280,[2,0]),(281,[2,0,0]),(132,[2,0,0])] [(20,12,[85,86,87,88,89,90,91,92,93,94,95,96]),(24,4,[111,112,113,114])] Tryz.func123 rfl ?_ (.inr (a7 B ⟨tV1,tV1⟩))
   repeat'(first|refine gB ?_|refine gS (λN=>?_) (λN=>?_)|refine CT qs ?_|refine CS (lQ q) ?_)
   rfl
 rw[CI V];unfold tbl at V;have B:fQ h.G (nth h.K i).Addr<h.G.F.V.U.length:=by unfold fQ;omega
 have j:=b.inQuar p d;have O:=dB (aU (nth h.K i).y);rw[show csz (aU (nth h.K i).y)=((csz (aU (nth h.K i).y)).toNat:Nat) by omega]at O;have n:=b.nums;unfold cv at n;rw[C0]at n;have P:=(b.dropO p (kM.any (c:=aU (nth h.K i).y) (by obtain⟨⟨s,R,k1,k2⟩,-⟩:=(eS b (ax p)).2 d;exact⟨s,R,k1,.inr k2⟩))).nd;rw[List.cons_append,List.nil_append]at P;have D:=JA h.a1 (kv h (nth h.K i)) (by have:=a.quar;omega) b.quar ⟨s1.1,s1.2,q.1,n.2.2.1⟩ (λy w=>b.snc y w) (λy w e=>(List.nodup_cons.1 P).1 (by rw[show(nth h.K i).Addr=y.Addr from e.symm];unfold holders;simp only[v5];exact .inl (.inr (O8.2 ⟨y,w,rfl⟩))));unfold Uz at D;have u:(yf h.a1 (kv h (nth h.K i))).length<=513:=by have:=a.quar;unfold yf;rw[I3,I5];simp only[List.length_singleton];omega
 have hfq:Q7 h t i=recycs t (inQuar h i) ((yf h.a1 (kv h (nth h.K i))).map (·.Addr)):=rfl;have hqc:(inQuar h i).G.Calls≠100000:=hc;rw[hfq];rcases ug (rows:=(dele h.K i).map (aW.enc .own)) with e|⟨-,e⟩
 all_goals
  have hoo:oO (inQuar h i)=_:=e;rw[e]at C;have M:=mH h (oS h) (oL h) (oE ((dele h.K i).map (aW.enc .own))) (nth h.K i).Addr (csz (aU (nth h.K i).y)).toNat b.ker q s2 ω s4;rw[e]at M;refine fP 163 [(276,[1,0,0]),(279,[1,0,0]),(280,[2,0]),(281,[2,0,0]),(132,[2,0,0])] [(20,12,[85,86,87,88,89,90,91,92,93,94,95,96]),(24,4,[111,112,113,114])] Tryz.func123 rfl ?_ (.inr (a7 (cn _) ⟨tV1,tV1⟩))
  repeat'(first|refine gB ?_|refine gS (λN=>?_) (λN=>?_)|refine CT qs ?_|refine CS (lQ q) ?_)
  generalize yf h.a1 (kv h (nth h.K i))=out at j u
  (conv=>whnf)
  refine CV (ι:=Nat) (λk=>[(1,fN t),(6,.X .box jX),(8,bS (dq (recycs t (inQuar h i) ((out.take k).map (·.Addr))))),(16,bC (bY .own out)),(151,.c6 16 0 [] none),(152,fI out.length),(153,fN k)]) (λk=>k<=out.length) (λk=>out.length - k) (0) ?_ (I1 _) λk hk=>?_
  ·exact wE
  by_cases r:k<out.length
  ·have Q:=ar r
   have hsp:out.map (·.Addr)=(out.take k).map (·.Addr)++(nth out k).Addr::(out.drop (k+1)).map (·.Addr):=by
    conv=>lhs;rw[<-List.take_append_drop k out,gT r]
    simp
   have hik:bm (recycs t (inQuar h i) ((out.take k).map (·.Addr))) ((nth out k).Addr::(out.drop (k+1)).map (·.Addr)):=bm.recycs (by rw[<-hsp];exact j) H;have E:=xD _ _ t _ hik (by rw[(gt t _ _).1];exact H) (by rw[(gt t _ _).2.2.1];exact hqc)
   refine σE ?_
   (refine CP (k+1) ω ω ?_)
   rw[zm t _ out k r];exact wC
  obtain rfl:k=out.length:=ω
  rw[O9]
  refine σE ?_
  rfl
end Go.Proofs.YtjooeakgbamfnaaGreat.Ab
