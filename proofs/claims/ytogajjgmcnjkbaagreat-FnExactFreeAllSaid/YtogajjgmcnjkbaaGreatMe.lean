/- When the parts of a heap are valid, as plain functions over its data. No condition. -/
import Derived.Test.YtogajjgmcnjkbaaGreatMd
namespace Go.Proofs.YtogajjgmcnjkbaaGreat.Ab
section
variable {α:Type} {l:List α} {p:α→Bool} {i:Nat} {x:α}
theorem ce (h:l[i]? = some x) (ha:(l.take i).all p=true) (hx:p x=true):(l.take (i+1)).all p=true:=by
 rw[List.take_add_one,h,List.all_append,ha];simp[hx]
theorem dI (h:l[i]? = some x) (hx:p x=false):l.all p=false:=by
 rw[List.all_eq_false];exact⟨x,List.mem_of_getElem? h,by simp[hx]⟩
theorem fk (hi:l.length≤i) (ha:(l.take i).all p=true):l.all p=true:=by
 rwa [List.take_of_length_le hi]at ha
end
theorem rC {α β:Type} {a:List α} {b:List β} {i:Nat} {x:α} {y:β} (h1:a[i]? = some x) (h2:b[i]? = some y):(a.zip b)[i]? = some (x,y):=by
 rw[List.getElem?_zip_eq_some];exact⟨h1,h2⟩
def nth {α:Type} [Inhabited α] (xs:List α) (i:Nat):α:=xs.getD i default
theorem au {α:Type} [Inhabited α] {xs:List α} {i:Nat} (h:i<xs.length):xs[i]? = some (nth xs i):=by
 unfold nth;rw[List.getD_eq_getElem?_getD,List.getElem?_eq_getElem h];rfl
theorem bE {α:Type} [Inhabited α] {xs:List α} {i:Nat} {y:α} (h:xs[i]? = some y):nth xs i=y:=by
 unfold nth;rw[List.getD_eq_getElem?_getD,h];rfl
theorem ay {α:Type} [Inhabited α] {xs:List α} {i:Nat} (h:i<xs.length):nth xs i∈xs:=List.mem_of_getElem? (au h)
def cD (n:Nat) (p:Nat→Bool):Bool:=(List.range n).all p
theorem co {n:Nat} {p:Nat→Bool} : cD n p=true↔∀ j,j<n→p j=true:=by
 unfold cD;simp
theorem b6 {n:Nat} {p:Nat→Bool} (h:cD n p=true) (hp:p n=true):cD (n+1) p=true:=by
 rw[co]at *;grind
theorem bN {n i:Nat} {p:Nat→Bool} (hi:i<n) (hp:p i=false):cD n p=false:=by
 by_cases h:cD n p=true
 ·rw[co]at h;grind
 ·simpa using h
theorem eK {n i:Nat} {p:Nat→Bool} (h:cD n p=true) (hi:i<n):p i=true:=co.1 h i hi
def ji (u:Bool) (v:Int):Bool:=decide (0≤v∧v≤999)&&(u || decide (v=0))
def j9 (r:List Int) (u:Bool):Bool:=decide (r.length=16)&&r.all (ji u)
def dn (f:aC):Bool:=decide (1≤f.Cells.length∧f.Cells.length≤32)&&(decide (f.Used.length=f.Cells.length)&&(f.Cells.zip f.Used).all fun q=>j9 q.1 q.2)
theorem fX {f:aC} {i:Nat} {r:List Int} {u:Bool} (h1:f.Cells[i]? = some r) (h2:f.Used[i]? = some u) (h3:j9 r u=false):dn f=false:=by
 unfold dn;rw[dI (p:=fun q=>j9 q.1 q.2) (rC h1 h2) h3];simp
theorem pw {r:List Int} {u:Bool} {k:Nat} {v:Int} (h1:r[k]? = some v) (h2:ji u v=false):j9 r u=false:=by
 unfold j9;rw[dI h1 h2];simp
theorem wV {f:aC} (h:dn f=true):1≤f.Cells.length∧f.Cells.length≤32∧f.Used.length=f.Cells.length:=by
 unfold dn at h;simp only[Bool.and_eq_true,decide_eq_true_eq]at h;exact⟨h.1.1,h.1.2,h.2.1⟩
def sF (fr:Int) (e:aE):Bool:=decide (0≤e.Mode∧e.Mode≤2∧(e.Mode=0→e.Frame=0)∧(e.Mode≠0→0≤e.Frame∧e.Frame<fr))
def fm (t:aB) (fr:Int):Bool:=cD t.Entries.length (fun i=>sF fr (nth t.Entries i))&&decide (1≤t.Entries.length∧t.Entries.length≤32)
def G6 (t:aB) (f:Int) (i:Nat):Bool:=decide ((nth t.Entries i).Mode≠0∧(nth t.Entries i).Frame=f)
def jq (t:aB) (f:Int) (n:Nat):List Int:=((List.range n).filter (G6 t f)).map fun(i:Nat)=>(i:Int)
def cj (t:aB) (f:Int):List Int:=jq t f t.Entries.length
theorem vA {t:aB} {f:Int} {n:Nat} (h:G6 t f n=true):jq t f (n+1)=jq t f n++[(n:Int)]:=by
 unfold jq;rw[List.range_succ,List.filter_append,List.map_append];simp[h]
theorem xN {t:aB} {f:Int} {n:Nat} (h:G6 t f n=false):jq t f (n+1)=jq t f n:=by
 unfold jq;rw[List.range_succ,List.filter_append,List.map_append];simp[h]
theorem qb (t:aB) (f:Int) (n:Nat):(jq t f n).length≤n:=by
 unfold jq;rw[List.length_map];exact Nat.le_trans (List.length_filter_le ..) (by simp)
def aF (t:aB) (p:Int):aE:=if 0≤p∧p<t.Entries.length then nth t.Entries p.toNat else⟨0,0⟩
def mf (m:aA) (i:Nat):Bool:=nth m.Frames.Used i == decide (0<(cj m.Table (i:Int)).length)
def d3 (m:aA):Bool:=(dn m.Frames&&fm m.Table m.Frames.Used.length)&&cD m.Frames.Used.length (mf m)
def bf (k:ao):Bool:=(cD k.Refuse.length (fun i=>decide (0≤nth k.Refuse i))&&d3 k.Machine)&&decide (0≤k.Calls∧k.Calls≤100000∧k.Refuse.length≤40)
def rangeIn (pages:Int) (r:al):Bool:=decide (1≤r.Len∧r.Len≤pages∧0≤r.At∧r.At≤pages - r.Len)
def eM (pages:Int) (xs:List al) (i:Nat):Bool:=rangeIn pages (nth xs i)&&decide (i=0∨(nth xs (i - 1)).At+(nth xs (i - 1)).Len<(nth xs i).At)
def b7 (pages:Int) (xs:List al):Bool:=cD xs.length (eM pages xs)&&decide (1≤pages∧pages≤32)
def ov (page:Int) (r:al):Bool:=decide (r.At≤page)&&decide (page<IntKind.i64.wrap (r.At+r.Len))
def lim (k:Int):Int:=if k=0 then 65535 else if k=1 then 255 else if k=2 then 15 else if k=3 then 3 else 0
def slots (k:Int):Int:=if k=0 then 16 else if k=1 then 8 else if k=2 then 4 else if k=3 then 2 else 0
def b8 (s:am):Bool:=decide (0≤s.Page∧s.Page≤31∧0≤s.Class∧s.Class≤3∧0≤s.Bits∧s.Bits≤lim s.Class)
def gl (n:Int):Int:=if 9≤n∧n≤1000 then(n+15) / 16 else 0
def cS (l:ah):Bool:=decide (9≤l.Size∧l.Size≤1000∧l.Pages=(l.Size+15) / 16∧0≤l.Page∧l.Page≤32 - l.Pages)
def lpgs (l:ah) (n:Nat):List Int:=(List.range n).map fun(i:Nat)=>l.Page+i
def pgs (sp:List am) (la:List ah):List Int:=sp.map (·.Page)++la.flatMap fun l=>lpgs l l.Pages.toNat
def bj (sp:List am) (la:List ah):Bool:=(sp.all b8&&la.all cS)&&decide (pgs sp la).Nodup
def cg (s:am) (a:Int):Bool:=b8 s&&decide (16*s.Page≤a∧a≤16*s.Page+15)
def cy (b i:Int):Bool:=decide (0≤b∧0≤i∧i≤15∧b / 2 ^ i.toNat % 2=1)
def bi (l:ah) (a:Int):Bool:=cS l&&decide (16*l.Page≤a∧a≤16*l.Page+l.Size - 1)
def csz (k:Int):Int:=if 0≤k∧k≤3 then 2 ^ k.toNat else 0
def gv (s:am) (a:Int):Int × Int:=if cg s a then((a - 16*s.Page) / csz s.Class,(a - 16*s.Page) % csz s.Class) else(-1,-1)
def mh (i:Nat) (s:am) (a:Int):ct:=⟨if cy s.Bits ((a - 16*s.Page) / csz s.Class) then 1 else 2,i,(a - 16*s.Page) / csz s.Class,(a - 16*s.Page) % csz s.Class⟩
def denotes (sp:List am) (la:List ah) (a:Int):ct:=
 match sp.findIdx? (cg · a) with
 | some i=>mh i (nth sp i) a
 | none=>match la.findIdx? (bi · a) with
  | some i=>⟨3,i,0,a - 16*(nth la i).Page⟩
  | none=>⟨0,0,0,0⟩
theorem x5 {α:Type} {pr:α→Bool} {xs:List α} {i:Nat} {y:α} (hy:xs[i]? = some y) (hp:pr y=true) (ha:∀ (j:Nat) (z:α),j<i→xs[j]? = some z→pr z=false):xs.findIdx? pr=some i:=by
 obtain⟨hi,rfl⟩:=List.getElem?_eq_some_iff.1 hy
 exact List.findIdx?_eq_some_iff_getElem.2 ⟨hi,hp,fun j hj=>by
   have:=ha j _ hj (List.getElem?_eq_getElem (by omega))
   simp[this]⟩
theorem vU {α:Type} {pr:α→Bool} {xs:List α} {i:Nat} (hi:xs.length≤i) (ha:∀ (j:Nat) (z:α),j<i→xs[j]? = some z→pr z=false):xs.findIdx? pr=none:=
 List.findIdx?_eq_none_iff.2 fun z hz=>by
  obtain⟨j,hj⟩:=List.mem_iff_getElem?.1 hz
  exact ha j z (by have:=(List.getElem?_eq_some_iff.1 hj).1;omega) hj
theorem fD {α:Type} {pr:α→Bool} {xs:List α} {i:Nat} {y:α} (hy:xs[i]? = some y) (hp:pr y=false) (ha:∀ (j:Nat) (z:α),j<i→xs[j]? = some z→pr z=false):∀ (j:Nat) (z:α),j<i+1→xs[j]? = some z→pr z=false:=by
 intro j z hj hz
 rcases Nat.lt_or_ge j i with h1|h1
 ·exact ha j z h1 hz
 ·obtain rfl:j=i:=by omega
  rw[hy]at hz;cases hz;exact hp
def eO {α:Type} (pr:α→Bool) (xs:List α):Int:=match xs.findIdx? pr with|some i=>(i:Nat)|none=>-1
theorem fj {α:Type} {pr:α→Bool} {xs:List α} {i:Nat} {y:α} (hy:xs[i]? = some y) (hp:pr y=true) (ha:∀ (j:Nat) (z:α),j<i→xs[j]? = some z→pr z=false):eO pr xs=(i:Nat):=by
 unfold eO;rw[x5 hy hp ha]
theorem jw {α:Type} {pr:α→Bool} {xs:List α} {i:Nat} (hi:xs.length≤i) (ha:∀ (j:Nat) (z:α),j<i→xs[j]? = some z→pr z=false):eO pr xs = -1:=by
 unfold eO;rw[vU hi ha]
theorem mW {α:Type} (pr:α→Bool) (xs:List α):decide (eO pr xs≥0)=xs.any pr:=by
 unfold eO
 cases h:xs.findIdx? pr with
 | none=>
  have:=List.findIdx?_eq_none_iff.1 h
  have h2:xs.any pr=false:=by rw[List.any_eq_false];intro y hy;simp[this y hy]
  rw[h2];rfl
 | some i=>
  obtain⟨hi,hp,-⟩:=List.findIdx?_eq_some_iff_getElem.1 h
  have h2:xs.any pr=true:=List.any_eq_true.2 ⟨_,List.getElem_mem hi,hp⟩
  rw[h2];simp
def meshable (s t:am):Bool:=(b8 s&&b8 t)&&decide (s.Class=t.Class∧s.Page≠t.Page∧s.Bits.toNat &&& t.Bits.toNat=0)
def oe (n:Int) (p:aJ):Bool:=decide (0≤p.To∧p.To≤n - 1∧0≤p.Addr)
def HK (z:Int):Bool:=decide (0≤z)
def gh (m:aG) (i:Nat):Bool:=(nth m.Buffers i).all (oe m.Buffers.length)&&(nth m.Inbox i).all HK
def cu (m:aG):Nat→Int
 | 0=>0
 | i+1=>cu m i+((nth m.Buffers i).length+(nth m.Inbox i).length)
def dC (m:aG):Bool:=(decide (1≤m.Buffers.length∧m.Buffers.length≤4∧m.Inbox.length=m.Buffers.length)&&cD m.Buffers.length (gh m))&&decide (cu m m.Buffers.length≤30)
def aX (m:aG):List Int:=if dC m then(m.Buffers.flatMap fun l=>l.map (·.Addr))++m.Inbox.flatten else []
def dv (a:Int) (y:ax):Bool:=decide (y.Addr=a)
def iP (xs:List ax) (i:Nat):Bool:=decide (0≤(nth xs i).Class∧(nth xs i).Class≤3∧0≤(nth xs i).Addr∧0≤(nth xs i).Since∧(i=0∨(nth xs (i - 1)).Since≤(nth xs i).Since))&&!(xs.take i).any (dv (nth xs i).Addr)
def quarCells (xs:List ax):Nat→Int
 | 0=>0
 | i+1=>quarCells xs i+csz (nth xs i).Class
def eZ (q:aK):Bool:=cD q.Lst.length (iP q.Lst)&&decide (0≤q.Room∧q.Room≤500∧quarCells q.Lst q.Lst.length≤q.Room)
def AU (xs:List Int) (i:Nat):Bool:=decide (0≤nth xs i∧nth xs i≤15∧(i=0∨nth xs (i - 1)<nth xs i))
def lg (p:aV):Bool:=cD p.Cells.length (AU p.Cells)&&decide (0≤p.Keep∧p.Keep≤31∧0≤p.Move∧p.Move≤31∧p.Keep≠p.Move)
def qL (j:bq):Bool:=lg j.Plan&&decide (0≤j.Phase∧j.Phase≤5∧0≤j.Next∧j.Next≤j.Plan.Cells.length)
def yu (j:bq):Bool:=decide (j.Plan.Keep=0∧j.Plan.Move=0∧j.Plan.Cells.length=0∧j.Phase=0∧j.Next=0)
def bc (h:ac) (p:Int):List Int:=if(aF h.Kernel.Machine.Table p).Mode=0 then [] else cj h.Kernel.Machine.Table (aF h.Kernel.Machine.Table p).Frame
def iA (p:Int) (s:am):Bool:=decide (s.Page=p)
def eX (h:ac) (p:Int):Int:=eO (iA p) h.Spans
def bk (n:Int):Int:=if n<1 then -1 else if n≤1 then 0 else if n≤2 then 1 else if n≤4 then 2 else if n≤8 then 3 else -1
end Go.Proofs.YtogajjgmcnjkbaaGreat.Ab
namespace Go.Proofs.YtogajjgmcnjkbaaGreat.Ab
def tbl (h:ac):aB:=h.Kernel.Machine.Table
def eP (h:ac):Nat:=h.Kernel.Machine.Table.Entries.length
def ta (xs:List am) (i:Nat):Bool:=decide (i=0∨(nth xs (i - 1)).Page<(nth xs i).Page)
def tN (xs:List ah) (i:Nat):Bool:=decide (i=0∨(nth xs (i - 1)).Page<(nth xs i).Page)
def sg (h:ac) (l:ah) (k:Nat):Bool:=decide ((bc h (l.Page+(k:Nat))).length=1)
def oX (h:ac) (i:Nat):Bool:=tN h.Larges i&&cD (nth h.Larges i).Pages.toNat (sg h (nth h.Larges i))
def rg (h:ac) (p:Nat):Bool:=decide ((nth (tbl h).Entries p).Mode≠0↔(p:Int)∈pgs h.Spans h.Larges)&&(decide ((nth (tbl h).Entries p).Mode≠0) != h.Free.any (ov (p:Nat)))
def pages0 (h:ac):Bool:=((cD h.Spans.length (ta h.Spans)&&cD h.Larges.length (oX h))&&(pgs h.Spans h.Larges).all fun p=>decide (p<eP h))&&cD (eP h) (rg h)
def ke (h:ac) (i:Nat) (q:Int):Bool:=decide (eX h q=(i:Nat)) || (decide (0≤eX h q)&&meshable (nth h.Spans i) (nth h.Spans (eX h q).toNat))
def rb (h:ac):Bool:=cD h.Spans.length fun i=>(bc h (nth h.Spans i).Page).all (ke h i)
def jp (h:ac) (i j:Nat):Bool:=decide ((aF (tbl h) (nth h.Spans i).Page).Frame≠(aF (tbl h) (nth h.Spans j).Page).Frame) || meshable (nth h.Spans i) (nth h.Spans j)
def lU (h:ac):Bool:=cD h.Spans.length fun i=>cD i (jp h i)
def jk (z:Int) (o:aM):Bool:=decide (o.Id=z)
def iK (h:ac) (o:aM):Bool:=
 let w:=denotes h.Spans h.Larges o.Addr
 decide (w.Offset=0)&&((decide (w.Kind=1)&&decide ((nth h.Spans w.Index.toNat).Class=bk o.Size)) || (decide (w.Kind=3)&&decide ((nth h.Larges w.Index.toNat).Size=o.Size)))
def fF (nx:Int) (h:ac) (i:Nat):Bool:=decide ((i=0∨(nth h.Objs (i - 1)).Addr<(nth h.Objs i).Addr)∧1≤(nth h.Objs i).Id∧(nth h.Objs i).Id≤nx∧0≤(nth h.Objs i).Thread∧(nth h.Objs i).Thread≤h.Caches.length - 1)
def objAt (nx:Int) (h:ac) (i:Nat):Bool:=(fF nx h i&&!(h.Objs.take i).any (jk (nth h.Objs i).Id))&&iK h (nth h.Objs i)
def eg (h:ac):Bool:=cD h.Objs.length (objAt (IntKind.i64.wrap (h.Next - 1)) h)
def cM (h:ac) (a c:Int):Bool:=
 let w:=denotes h.Spans h.Larges a
 (decide (w.Kind=1)&&decide (w.Offset=0))&&(decide (c<0) || decide ((nth h.Spans w.Index.toNat).Class=c))
def oH (h:ac) (c:ar) (k:Nat):Bool:=(nth c.Lists k).all fun a=>cM h a (k:Nat)
def dJ (h:ac) (c:ar):Bool:=cD c.Lists.length (oH h c)
def fC (h:ac) (x:ax):Bool:=cM h x.Addr x.Class
def iS (h:ac) (a:Int):Bool:=cM h a (-1)
def eY (h:ac):List Int:=h.Caches.flatMap fun c=>c.Lists.flatten
def fH (h:ac):Bool:=((h.Caches.all (dJ h))&&h.Quar.Lst.all (fC h))&&(aX h.Mail).all (iS h)
def holders (h:ac):List Int:=((h.Objs.map (·.Addr)++eY h)++h.Quar.Lst.map (·.Addr))++aX h.Mail
def iE (sp:List am) (la:List ah) (a:Nat):Bool:=
 let w:=denotes sp la (a:Nat)
 decide (w.Offset=0)&&(decide (w.Kind=1) || decide (w.Kind=3))
def jM (sp:List am) (la:List ah) (n:Nat):List Int:=((List.range n).filter (iE sp la)).map fun(i:Nat)=>(i:Int)
def gu (sp:List am) (la:List ah):List Int:=jM sp la 512
def gj (h:ac):Bool:=(fH h&&decide (holders h).Nodup)&&decide ((holders h).length=(gu h.Spans h.Larges).length)
def iU (h:ac):Bool:=h.Quar.Lst.all fun x=>decide (x.Since≤h.Clock)
def eV (h:ac):Bool:=decide (0≤h.Seed∧h.Seed≤1073741823∧0≤h.Clock∧h.Clock≤1000000∧0≤h.Limit∧h.Limit≤1000∧1≤h.Next∧h.Next≤1000000)
def n5 (h:ac):Bool:=if h.Meshing then(qL h.Job&&decide (0≤eX h h.Job.Plan.Keep))&&decide (0≤eX h h.Job.Plan.Move) else yu h.Job
def kb (h:ac):Bool:=((bf h.Kernel&&b7 (eP h) h.Free)&&bj h.Spans h.Larges)&&pages0 h
end Go.Proofs.YtogajjgmcnjkbaaGreat.Ab
namespace Go.Proofs.YtogajjgmcnjkbaaGreat.Ab
open Go.RowKit
set_option maxRecDepth 20000
set_option maxHeartbeats 2000000
theorem aP (n lo hi:Int):af Tryz.prog 74 false [.val none [I n],.val none [I lo],.val none [I hi]] .one [B (decide (lo≤n∧n≤hi))]:=by
 refine fO (n:=15) [] Tryz.func74 (by kernel_rfl) rfl (by kernel_rfl) (by rfl) (.inr ⟨trivial,trivial⟩) ?_
 repeat'((conv=>whnf);first|with_reducible (first|refine Lm ?_|refine Wm (by omega) ?_|refine Bf.D (fun hq=>?_) (fun hq=>?_)|refine Bn ?_|refine Fm rfl ?_)|refine Bt ?_|refine Bu ?_)
 all_goals exact congrArg (fun z=>[B z]) (by simp;try omega)
theorem aH (n lo hi:Int):af Tryz.prog 76 false [.val none [I n],.val none [I lo],.val none [I hi]] .one [B (decide (lo≤n∧n≤hi))]:=by
 refine fO (n:=15) [] Tryz.func76 (by kernel_rfl) rfl (by kernel_rfl) (by rfl) (.inr ⟨trivial,trivial⟩) ?_
 repeat'((conv=>whnf);first|with_reducible (first|refine Lm ?_|refine Wm (by omega) ?_|refine Bf.D (fun hq=>?_) (fun hq=>?_)|refine Bn ?_|refine Fm rfl ?_)|refine Bt ?_|refine Bu ?_)
 all_goals exact congrArg (fun z=>[B z]) (by simp;try omega)
theorem dO (k:Int):af Tryz.prog 235 false [.val none [I k]] .one [B (decide (0≤k∧k≤3))]:=by
 refine fO (n:=5) [] Tryz.func235 (by kernel_rfl) rfl (by kernel_rfl) (by rfl) (.inr ⟨trivial,trivial⟩) ?_
 repeat'((conv=>whnf);first|with_reducible (first|refine Lm ?_|refine Wm (by omega) ?_|refine Bn ?_|refine Fm rfl ?_)|refine Bt ?_|refine Bu ?_|refine Cl.mk (aH k 0 3) ?_)
 rfl
theorem dH (k:Int):af Tryz.prog 185 false [.val none [I k]] .one [I (csz k)]:=by
 by_cases hk:0≤k∧k≤3
 ·obtain rfl|rfl|rfl|rfl:k=0∨k=1∨k=2∨k=3:=by omega
  all_goals
   refine fO (n:=8) [] Tryz.func185 (by kernel_rfl) rfl (by kernel_rfl) (by rfl) (.inr ⟨trivial,trivial⟩) ?_
   repeat'((conv=>whnf);first|with_reducible (first|refine Lm ?_|refine Wm (by omega) ?_|refine dT (by omega) (fun hq=>?_)|refine dF (by omega) (fun hq=>?_)|refine Bf.D (fun hq=>?_) (fun hq=>?_)|refine Bn ?_|refine Fm rfl ?_)|refine Bt ?_|refine Bu ?_|refine Cl.mk (dO _) ?_|refine Cd.mk (by decide) ?_|refine Wr.mk rfl ?_)
   exact congrArg (fun z=>[I z]) (by decide)
 ·refine fO (n:=8) [] Tryz.func185 (by kernel_rfl) rfl (by kernel_rfl) (by rfl) (.inr ⟨trivial,trivial⟩) ?_
  repeat'((conv=>whnf);first|with_reducible (first|refine Lm ?_|refine Wm (by omega) ?_|refine dT (by omega) (fun hq=>?_)|refine dF (by omega) (fun hq=>?_)|refine Bf.D (fun hq=>?_) (fun hq=>?_)|refine Bn ?_|refine Fm rfl ?_)|refine Bt ?_|refine Bu ?_|refine Cl.mk (dO _) ?_)
  exact congrArg (fun z=>[I z]) (by unfold csz;rw[if_neg hk])
theorem gr (k:Int):af Tryz.prog 171 false [.val none [I k]] .one [I (csz k)]:=by
 by_cases hk:0≤k∧k≤3
 ·obtain rfl|rfl|rfl|rfl:k=0∨k=1∨k=2∨k=3:=by omega
  all_goals
   refine fO (n:=9) [] Tryz.func171 (by kernel_rfl) rfl (by kernel_rfl) (by rfl) (.inr ⟨trivial,trivial⟩) ?_
   repeat'((conv=>whnf);first|with_reducible (first|refine Lm ?_|refine Wm (by omega) ?_|refine dT (by omega) (fun hq=>?_)|refine dF (by omega) (fun hq=>?_)|refine Bf.D (fun hq=>?_) (fun hq=>?_)|refine Bn ?_|refine Fm rfl ?_)|refine Bt ?_|refine Bu ?_|refine Cl.mk (aP _ 0 3) ?_|refine Cd.mk (by decide) ?_|refine Wr.mk rfl ?_)
   exact congrArg (fun z=>[I z]) (by decide)
 ·refine fO (n:=9) [] Tryz.func171 (by kernel_rfl) rfl (by kernel_rfl) (by rfl) (.inr ⟨trivial,trivial⟩) ?_
  repeat'((conv=>whnf);first|with_reducible (first|refine Lm ?_|refine Wm (by omega) ?_|refine dT (by omega) (fun hq=>?_)|refine dF (by omega) (fun hq=>?_)|refine Bf.D (fun hq=>?_) (fun hq=>?_)|refine Bn ?_|refine Fm rfl ?_)|refine Bt ?_|refine Bu ?_|refine Cl.mk (aP _ 0 3) ?_)
  exact congrArg (fun z=>[I z]) (by unfold csz;rw[if_neg hk])
theorem kD (xs:List Int) (a:Int) (hl:xs.length≤9223372036854775807):af Tryz.prog 204 false [.val none (aI .imm xs),.val none [I a]] .one [B (decide (a∈xs))]:=by
 refine fO (n:=18) [] Tryz.func204 (by kernel_rfl) rfl (by kernel_rfl) (by rfl) (.inr ⟨trivial,trivial⟩) ?_
 repeat'((conv=>whnf);first|with_reducible (first|refine Lm ?_|refine Wm (by omega) ?_|refine Bn ?_|refine Fm rfl ?_)|refine Bt ?_|refine Bu ?_)
 (conv=>whnf)
 refine Lp.mk (ι:=Nat) (fun i=>[(0,.hold .one (aI .imm xs)),(1,.hold .one [I a]),(5,.hold .one [I (i:Nat)])]) (fun i=>i≤xs.length∧a∉xs.take i) (fun i=>xs.length - i) 0 ?_ ⟨Nat.zero_le _,by simp⟩ fun i hi=>?_
 ·repeat'(first|exact trivial|rfl|refine And.intro ?_ ?_)
 ·obtain⟨hi,hn⟩:=hi
  by_cases hlt:i<xs.length
  ·obtain⟨y,hy⟩ : ∃ y,xs[i]? = some y:=⟨_,List.getElem?_eq_getElem hlt⟩
   repeat'((conv=>whnf);first|with_reducible (first|refine Lm ?_|refine Wm (by omega) ?_|refine Ix.nat (aa hy) ?_|refine dT (by omega) (fun hq=>?_)|refine Bf.E (fun hq=>?_) (fun hq=>?_)|refine Bn ?_|refine Fm rfl ?_)|refine Bt ?_|refine Bu ?_)
   ·exact congrArg (fun z=>[B z]) (by symm;simp;rw[←‹y=a›];exact List.mem_of_getElem? hy)
   ·(conv=>whnf)
    refine Nx.mk (i+1) ⟨by omega,?_⟩ (by omega) ?_
    ·rw[List.take_add_one,hy]
     simp only[Option.toList_some,List.mem_append,List.mem_singleton,not_or]
     exact⟨hn,fun e=>‹y≠a› e.symm⟩
    ·repeat'(first|exact trivial|rfl|refine And.intro ?_ ?_)
  ·repeat'((conv=>whnf);first|with_reducible (first|refine Lm ?_|refine Wm (by omega) ?_|refine dF (by omega) (fun hq=>?_)|refine Bn ?_|refine Fm rfl ?_)|refine Bt ?_|refine Bu ?_)
   rw[List.take_of_length_le (by omega)]at hn
   exact congrArg (fun z=>[B z]) (by symm;simpa using hn)
end Go.Proofs.YtogajjgmcnjkbaaGreat.Ab
namespace Go.Proofs.YtogajjgmcnjkbaaGreat.Ab
open Go.RowKit
set_option maxRecDepth 20000
set_option maxHeartbeats 4000000
def good (k:Int) (s:List Int) (a:Int):Prop:=0≤a∧a≤511∧a.tmod (csz k)=0∧a∉s
instance (k:Int) (s:List Int) (a:Int):Decidable (good k s a):=by unfold good;exact inferInstance
def xB (k:Int):List Int→List Int→Option (List Int)
 | s,[]=>some s
 | s,a::l=>if good k s a then xB k (s++[a]) l else none
def fP (k:Nat) (s l:List Int):Option (List Int):=if l.length≤8∧k≤3 then xB k s l else none
def jJ:Nat→List Int→List (List Int)→Option (List Int)
 | _,s,[]=>some s
 | k,s,l::ls=>(fP k s l).bind fun s'=>jJ (k+1) s' ls
def bw (c:ar):Bool:=decide (c.Lists.length=4)&&(jJ 0 [] c.Lists).isSome
theorem nX (k:Int):∀ (a s b:List Int),xB k s (a++b)=(xB k s a).bind fun s'=>xB k s' b
 | [],s,b=>rfl
 | x::a,s,b=>by
  simp only[List.cons_append,xB]
  split
  ·exact nX k a _ b
  ·rfl
theorem mF:∀ (a:List (List Int)) (k:Nat) (s:List Int) (b:List (List Int)),jJ k s (a++b)=(jJ k s a).bind fun s'=>jJ (k+a.length) s' b
 | [],k,s,b=>rfl
 | l::a,k,s,b=>by
  simp only[List.cons_append,jJ,Option.bind_assoc,List.length_cons]
  congr 1;funext s'
  rw[mF a (k+1) s' b,show k+1+a.length=k+(a.length+1) by omega]
theorem Dp {k:Int} {l s0 s:List Int} {j:Nat} {a:Int} (hj:l[j]? = some a) (h:xB k s0 (l.take j)=some s) (hg:good k s a):xB k s0 (l.take (j+1))=some (s++[a]):=by
 rw[List.take_add_one,hj,Option.toList_some,nX,h]
 simp[xB,hg]
theorem Gb {k:Nat} {l s0 s:List Int} {j:Nat} {a:Int} (hj:l[j]? = some a) (h:xB k s0 (l.take j)=some s) (hg:¬good k s a):fP k s0 l=none:=by
 unfold fP
 split
 ·have:l=l.take j++(a::l.drop (j+1)):=by
   obtain⟨hjl,rfl⟩:=List.getElem?_eq_some_iff.1 hj
   rw[←List.drop_eq_getElem_cons hjl,List.take_append_drop]
  rw[this,nX,h]
  simp[xB,hg]
 ·rfl
theorem wH {k:Int} : ∀ {l s s':List Int},xB k s l=some s'→s'.length=s.length+l.length
 | [],s,s',h=>by simp only[xB,Option.some.injEq]at h;subst h;simp
 | a::l,s,s',h=>by
  simp only[xB]at h
  split at h
  ·have:=wH h;simp at this ⊢;omega
  ·cases h
theorem pK {ls:List (List Int)} {i:Nat} {l s:List Int} (hi:ls[i]? = some l) (h:jJ 0 [] (ls.take i)=some s):jJ 0 [] (ls.take (i+1))=fP i s l:=by
 have hl:=(List.getElem?_eq_some_iff.1 hi).1
 rw[List.take_add_one,hi,Option.toList_some,mF,h]
 simp only[Option.bind_some,jJ,Nat.zero_add,List.length_take,Nat.min_eq_left (Nat.le_of_lt hl)]
 cases fP i s l<;>rfl
theorem jB {c:ar} {i:Nat} {l s:List Int} (hi:c.Lists[i]? = some l) (h:jJ 0 [] (c.Lists.take i)=some s) (hn:fP i s l=none):bw c=false:=by
 have h1:=pK hi h
 rw[hn]at h1
 have h2:jJ 0 [] c.Lists=none:=by
  rw[←List.take_append_drop (i+1) c.Lists,mF,h1];rfl
 unfold bw;rw[h2];simp
theorem zp:∀ {ls:List (List Int)} {k:Nat} {s s':List Int},jJ k s ls=some s'→s'.length≤s.length+8*ls.length
 | [],k,s,s',h=>by simp only[jJ,Option.some.injEq]at h;subst h;simp
 | l::ls,k,s,s',h=>by
  simp only[jJ]at h
  unfold fP at h
  split at h
  ·cases ho:xB k s l with
   | none=>rw[ho]at h;cases h
   | some s2=>
    rw[ho]at h
    have h1:=wH ho
    have h2:=zp (show jJ (k+1) s2 ls=some s' from h)
    simp only[List.length_cons];omega
  ·cases h
theorem FU {i:Nat} (h:i≤3):csz (i:Int)≠0:=by
 obtain rfl|rfl|rfl|rfl:i=0∨i=1∨i=2∨i=3:=by omega
 all_goals decide
theorem dl {l:List Int} : ∀ r∈l.map (rI .own),r.length=1:=by
 intro r hr;obtain⟨z,-,rfl⟩:=List.mem_map.1 hr;rfl
theorem ll (c:ar) (hs:ar.sml c):af Tryz.prog 96 false [.val (some 1) (ar.enc .imm c)] .one [B (bw c)]:=by
 have hl:=hs.1
 refine fO (n:=60) [] Tryz.func96 (by kernel_rfl) rfl (by kernel_rfl) (by rfl) (.inr ⟨trivial,trivial⟩) ?_
 repeat'((conv=>whnf);first|with_reducible (first|refine Lm ?_|refine Wm (by omega) ?_|refine Bf.N (fun hq=>?_) (fun hq=>?_)|refine Bn ?_|refine Fm rfl ?_)|refine Bt ?_|refine Bu ?_)
 ·exact congrArg (fun z=>[B z]) (by symm;unfold bw;rw[decide_eq_false (by omega)];rfl)
 have h4:c.Lists.length=4:=by omega
 (conv=>whnf)
 refine Lp.mk (ι:=Nat × List Int) (fun i=>[(1,.hold .box (ar.enc .imm c)),(3,.hold .one (aI .own i.2)),(4,.hold .one [I (i.1:Nat)])]) (fun i=>i.1≤4∧jJ 0 [] (c.Lists.take i.1)=some i.2) (fun i=>4 - i.1) (0,[]) ?_ ⟨Nat.zero_le _,rfl⟩ fun i hi=>?_
 ·repeat'(first|exact trivial|rfl|refine And.intro ?_ ?_)
 ·obtain⟨i,s⟩:=i
  obtain⟨hi,hok⟩:=hi
  simp only at hi hok ⊢
  have hsl:=zp hok
  rw[List.length_take]at hsl
  simp only[List.length_nil]at hsl
  by_cases hlt:i<4
  ·obtain⟨l,hli⟩ : ∃ l,c.Lists[i]? = some l:=⟨_,List.getElem?_eq_getElem (by omega)⟩
   have hll:l.length≤1048576:=hs.2 l (List.mem_of_getElem? hli)
   repeat'((conv=>whnf);first|with_reducible (first|refine Lm ?_|refine Wm (by omega) ?_|refine Ix.nat (aa hli) ?_|refine dT (by omega) (fun hq=>?_)|refine Bf.D (fun hq=>?_) (fun hq=>?_)|refine Bn ?_|refine Fm rfl ?_)|refine Bt ?_|refine Bu ?_)
   ·exact congrArg (fun z=>[B z]) (jB hli hok (by unfold fP;rw[if_neg (by omega)])).symm
   have hl8:l.length≤8:=by omega
   (conv=>whnf)
   refine Lp.mk (ι:=Nat × List Int) (fun j=>[(1,.hold .box (ar.enc .imm c)),(3,.hold .one (aI .own j.2)),(4,.hold .one [I (i:Nat)]),(5,.hold .one [I (j.1:Nat)])]) (fun j=>j.1≤l.length∧xB i s (l.take j.1)=some j.2) (fun j=>l.length - j.1) (0,s) ?_ ⟨Nat.zero_le _,rfl⟩ fun j hj=>?_
   ·repeat'(first|exact trivial|rfl|refine And.intro ?_ ?_)
   ·obtain⟨j,s2⟩:=j
    obtain⟨hj,hok2⟩:=hj
    simp only at hj hok2 ⊢
    have hsl2:=wH hok2
    rw[List.length_take]at hsl2
    by_cases hjl:j<l.length
    ·obtain⟨y,hy⟩ : ∃ y,l[j]? = some y:=⟨_,List.getElem?_eq_getElem hjl⟩
     repeat'((conv=>whnf);first|with_reducible (first|refine Lm ?_|refine Wm (by omega) ?_|refine Ix.nat (aa hli) ?_|refine Ix.nat (aa hy) ?_|refine dT (by omega) (fun hq=>?_)|refine Bf.D (fun hq=>?_) (fun hq=>?_)|refine Bf.N (fun hq=>?_) (fun hq=>?_)|refine Bn ?_|refine Fm rfl ?_)|refine Bt ?_|refine Bu ?_|refine Cl.mk (aP y 0 511) ?_|refine Cl.mk (gr (i:Nat)) ?_|refine Cd.mk (FU (by omega)) ?_|refine Ev.mk rfl ?_|refine Cl.eq (kD s2 y (by omega)) ⟨⟨rfl,eC _⟩,⟨rfl,rfl⟩,trivial⟩ ?_|refine Ap.mk dl (fun r hr=>by rw[List.mem_singleton.1 hr];rfl) (by simp[aQ,dU]) (by simp;omega) (by simp only[List.length_map];exact tO (by simp;omega) (by decide)) rfl ?_)
     all_goals first
      | exact congrArg (fun z=>[B z]) (jB hli hok (Gb hy hok2 fun⟨g1,g2,g3,g4⟩=>by first|contradiction|omega)).symm
      | ((conv=>whnf)
         refine Nx.mk (j+1,s2++[y]) ⟨(by simp only;omega),Dp hy hok2 ⟨(by omega),(by omega),(by assumption),(by assumption)⟩⟩ (by simp only;omega) ?_
         (repeat'(first|exact trivial|rfl|exact And.intro rfl (And.intro (congrArg (C.s dy.own) (by simp[rI])) trivial)|refine And.intro ?_ ?_)))
    ·repeat'((conv=>whnf);first|with_reducible (first|refine Lm ?_|refine Wm (by omega) ?_|refine Ix.nat (aa hli) ?_|refine dF (by omega) (fun hq=>?_)|refine Bn ?_|refine Fm rfl ?_)|refine Bt ?_|refine Bu ?_)
     (conv=>whnf)
     rw[List.take_of_length_le (by omega)]at hok2
     refine Nx.mk (i+1,s2) ⟨(by simp only;omega),(by rw[pK hli hok];unfold fP;rw[if_pos ⟨hl8,by omega⟩];exact hok2)⟩ (by simp only;omega) ?_
     repeat'(first|exact trivial|rfl|refine And.intro ?_ ?_)
  ·repeat'((conv=>whnf);first|with_reducible (first|refine Lm ?_|refine Wm (by omega) ?_|refine dF (by omega) (fun hq=>?_)|refine Bn ?_|refine Fm rfl ?_)|refine Bt ?_|refine Bu ?_)
   rw[List.take_of_length_le (by omega)]at hok
   exact congrArg (fun z=>[B z]) (by symm;unfold bw;rw[hok,decide_eq_true h4];rfl)
def ec (s:List Int):List (Int × Value):=s.map fun a=>(a,.bool true)
theorem lL (a:Int):∀ (s:List Int),mlook (ec s) a (.bool false)=.bool (decide (a∈s))
 | []=>by simp[ec,mlook]
 | x::s=>by
  have ih:=lL a s
  simp only[ec,List.map_cons,mlook]at ih ⊢
  by_cases h:x=a
  ·rw[if_pos h];simp[h]
  ·rw[if_neg h,ih]
   congr 1
   simp[show ¬a=x from fun e=>h e.symm]
theorem qs {a:Int} : ∀ {s:List Int},a∉s→ec (s++[a])=mput (ec s) a (.bool true)
 | [],_=>rfl
 | x::s,h=>by
  simp only[List.mem_cons,not_or]at h
  have ih:=qs h.2
  simp only[ec,List.cons_append,List.map_cons,mput]at ih ⊢
  rw[if_neg fun e=>h.1 e.symm,ih]
theorem kU (c:ar) (hs:ar.sml c):af Tryz.prog 125 false [.val (some 1) (ar.enc .imm c)] .one [B (bw c)]:=by
 have hl:=hs.1
 refine fO (n:=54) [] Tryz.func125 (by kernel_rfl) rfl (by kernel_rfl) (by rfl) (.inr ⟨trivial,trivial⟩) ?_
 repeat'((conv=>whnf);first|with_reducible (first|refine Lm ?_|refine Wm (by omega) ?_|refine Bn ?_|refine Fm rfl ?_)|refine Bt ?_|refine Bu ?_)
 (conv=>whnf)
 refine Lp.mk (ι:=Nat × List Int) (fun i=>[(1,.hold .box (ar.enc .imm c)),(3,.hold .one [.m (ec i.2)]),(10,.hold .one (d5 .imm c.Lists)),(11,.hold .one [I c.Lists.length]),(12,.hold .one [I (i.1:Nat)])]) (fun i=>i.1≤c.Lists.length∧jJ 0 [] (c.Lists.take i.1)=some i.2) (fun i=>c.Lists.length - i.1) (0,[]) ?_ ⟨Nat.zero_le _,rfl⟩ fun i hi=>?_
 ·repeat'(first|exact trivial|rfl|refine And.intro ?_ ?_)
 ·obtain⟨i,s⟩:=i
  obtain⟨hi,hok⟩:=hi
  simp only at hi hok ⊢
  by_cases hlt:i<c.Lists.length
  ·obtain⟨l,hli⟩ : ∃ l,c.Lists[i]? = some l:=⟨_,List.getElem?_eq_getElem hlt⟩
   have hll:l.length≤1048576:=hs.2 l (List.mem_of_getElem? hli)
   repeat'((conv=>whnf);first|with_reducible (first|refine Lm ?_|refine Wm (by omega) ?_|refine Ix.nat (aa hli) ?_|refine dT (by omega) (fun hq=>?_)|refine Bf.D (fun hq=>?_) (fun hq=>?_)|refine Bn ?_|refine Fm rfl ?_)|refine Bt ?_|refine Bu ?_|refine Cl.mk (dO (i:Nat)) ?_)
   ·exact congrArg (fun z=>[B z]) (jB hli hok (by unfold fP;rw[if_neg (by omega)])).symm
   rotate_left
   ·exact congrArg (fun z=>[B z]) (jB hli hok (by unfold fP;rw[if_neg (by omega)])).symm
   have hl8:l.length≤8:=by omega
   have hi3:i≤3:=by omega
   (conv=>whnf)
   refine Lp.mk (ι:=Nat × List Int) (fun j=>[(1,.hold .box (ar.enc .imm c)),(3,.hold .one [.m (ec j.2)]),(4,.hold .one [I (i:Nat)]),(10,.hold .one (d5 .imm c.Lists)),(11,.hold .one [I c.Lists.length]),(12,.hold .one [I (i:Nat)]),(25,.hold .one (aI .imm l)),(26,.hold .one [I l.length]),(27,.hold .one [I (j.1:Nat)])]) (fun j=>j.1≤l.length∧xB i s (l.take j.1)=some j.2) (fun j=>l.length - j.1) (0,s) ?_ ⟨Nat.zero_le _,rfl⟩ fun j hj=>?_
   ·repeat'(first|exact trivial|rfl|refine And.intro ?_ ?_)
   ·obtain⟨j,s2⟩:=j
    obtain⟨hj,hok2⟩:=hj
    simp only at hj hok2 ⊢
    by_cases hjl:j<l.length
    ·obtain⟨y,hy⟩ : ∃ y,l[j]? = some y:=⟨_,List.getElem?_eq_getElem hjl⟩
     repeat'((conv=>whnf);first|with_reducible (first|refine Lm ?_|refine Wm (by omega) ?_|refine Ix.nat (aa hli) ?_|refine Ix.nat (aa hy) ?_|refine dT (by omega) (fun hq=>?_)|refine Bf.D (fun hq=>?_) (fun hq=>?_)|refine Bf.N (fun hq=>?_) (fun hq=>?_)|refine Bn ?_|refine Fm rfl ?_)|refine Bt ?_|refine Bu ?_|refine Cl.mk (aH y 0 511) ?_|refine Cl.mk (dH (i:Nat)) ?_|refine Cd.mk (FU (by omega)) ?_|refine Ev.mk rfl ?_|refine Ml.mk (lL y s2) ?_|refine Mu.mk (qs (by assumption)) ?_)
     all_goals first
      | exact congrArg (fun z=>[B z]) (jB hli hok (Gb hy hok2 fun⟨g1,g2,g3,g4⟩=>by first|contradiction|omega)).symm
      | ((conv=>whnf)
         refine Nx.mk (j+1,s2++[y]) ⟨(by simp only;omega),Dp hy hok2 ⟨(by omega),(by omega),(by assumption),(by assumption)⟩⟩ (by simp only;omega) ?_
         (repeat'(first|exact trivial|rfl|refine And.intro ?_ ?_)))
    ·repeat'((conv=>whnf);first|with_reducible (first|refine Lm ?_|refine Wm (by omega) ?_|refine dF (by omega) (fun hq=>?_)|refine Bn ?_|refine Fm rfl ?_)|refine Bt ?_|refine Bu ?_)
     (conv=>whnf)
     rw[List.take_of_length_le (by omega)]at hok2
     refine Nx.mk (i+1,s2) ⟨(by simp only;omega),(by rw[pK hli hok];unfold fP;rw[if_pos ⟨hl8,hi3⟩];exact hok2)⟩ (by simp only;omega) ?_
     repeat'(first|exact trivial|rfl|refine And.intro ?_ ?_)
  ·repeat'((conv=>whnf);first|with_reducible (first|refine Lm ?_|refine Wm (by omega) ?_|refine dF (by omega) (fun hq=>?_)|refine Bn ?_|refine Fm rfl ?_)|refine Bt ?_|refine Bu ?_)
   rw[List.take_of_length_le (by omega)]at hok
   have h4:((c.Lists.length:Int) == 4)=decide (c.Lists.length=4):=by
    by_cases h4:c.Lists.length=4
    ·simp[h4]
    ·rw[decide_eq_false h4];simp;omega
   exact congrArg (fun z=>[B z]) (h4.trans (by unfold bw;rw[hok];simp))
theorem Db:∀ {ls:List (List Int)} {k:Nat} {s s':List Int},jJ k s ls=some s'→∀ l∈ls,l.length≤8
 | [],k,s,s',h,l,hm=>by simp at hm
 | x::ls,k,s,s',h,l,hm=>by
  simp only[jJ]at h
  unfold fP at h
  split at h
  ·rename_i hc
   rcases List.mem_cons.1 hm with rfl|hm
   ·exact hc.1
   ·cases ho:xB k s x with
    | none=>rw[ho]at h;cases h
    | some s2=>rw[ho]at h;exact Db (show jJ (k+1) s2 ls=some s' from h) l hm
  ·cases h
theorem qI {c:ar} (h:bw c=true):c.Lists.length=4∧∀ l∈c.Lists,l.length≤8:=by
 unfold bw at h
 simp only[Bool.and_eq_true,decide_eq_true_eq]at h
 obtain⟨s,hs⟩:=Option.isSome_iff_exists.1 h.2
 exact⟨h.1,Db hs⟩
end Go.Proofs.YtogajjgmcnjkbaaGreat.Ab
namespace Go.Proofs.YtogajjgmcnjkbaaGreat.Ab
open Go.RowKit
set_option maxRecDepth 20000
set_option maxHeartbeats 4000000
section
variable {α:Type}
def uS (ag:Option Nat) (e:α→List C) (pr:α→Bool) (xs:List α):List (Option Nat × List C)→Kd→List C→Prop:=fun L k rcs=>∃ x,x∈xs∧L=[(ag,e x)]∧k=.one∧rcs=[B (pr x)]
end
theorem ri (xs:List al) (pr:al→Bool) (hl:xs.length≤9223372036854775807):af Tryz.prog 349 false [.val none (aT .imm xs),.fn (mg Tryz.prog (uS (some 2) (al.enc .imm) pr xs))] .one [I (eO pr xs)]:=by
 refine fO (n:=19) [] Tryz.func349 (by kernel_rfl) rfl (by kernel_rfl) (by rfl) (.inr ⟨trivial,trivial⟩) ?_
 repeat'((conv=>whnf);first|with_reducible (first|refine Lm ?_|refine Wm (by omega) ?_|refine Bn ?_|refine Fm rfl ?_)|refine Bt ?_|refine Bu ?_)
 (conv=>whnf)
 refine Lp.mk (ι:=Nat) (fun i=>[(0,.hold .one (aT .imm xs)),(1,.fv (mg Tryz.prog (uS (some 2) (al.enc .imm) pr xs))),(7,.hold .one [I xs.length]),(8,.hold .one [I (i:Nat)])]) (fun i=>i≤xs.length∧∀ (j:Nat) (z:al),j<i→xs[j]? = some z→pr z=false) (fun i=>xs.length - i) 0 ?_ ⟨Nat.zero_le _,fun j z hj=>by omega⟩ fun i hi=>?_
 ·repeat'(first|exact trivial|rfl|refine And.intro ?_ ?_)
 ·obtain⟨hi,ha⟩:=hi
  by_cases hlt:i<xs.length
  ·obtain⟨y,hy⟩ : ∃ y,xs[i]? = some y:=⟨_,List.getElem?_eq_getElem hlt⟩
   repeat'((conv=>whnf);first|with_reducible (first|refine Lm ?_|refine Wm (by omega) ?_|refine Ix.nat (aa hy) ?_|refine dT (by omega) (fun hq=>?_)|refine Bn ?_|refine Fm rfl ?_)|refine Bt ?_|refine Bu ?_|refine Fv.mk (k:=.one) (rcs:=[B (pr y)]) ⟨y,List.mem_of_getElem? hy,rfl,rfl,rfl⟩ ?_|refine Bf.P (fun hq=>?_) (fun hq=>?_))
   ·exact congrArg (fun z=>[I z]) (fj hy ‹_› ha).symm
   ·(conv=>whnf)
    refine Nx.mk (i+1) ⟨by omega,fun j z hj hz=>?_⟩ (by omega) ?_
    ·rcases Nat.lt_or_ge j i with h1|h1
     ·exact ha j z h1 hz
     ·obtain rfl:j=i:=by omega
      rw[hy]at hz;cases hz;assumption
    ·repeat'(first|exact trivial|rfl|refine And.intro ?_ ?_)
  ·repeat'((conv=>whnf);first|with_reducible (first|refine Lm ?_|refine Wm (by omega) ?_|refine dF (by omega) (fun hq=>?_)|refine Bn ?_|refine Fm rfl ?_)|refine Bt ?_|refine Bu ?_)
   exact congrArg (fun z=>[I z]) (jw (by omega) ha).symm
theorem oy (xs:List al) (pr:al→Bool) (hl:xs.length≤9223372036854775807):af Tryz.prog 308 false [.val none (aT .imm xs),.fn (mg Tryz.prog (uS (some 2) (al.enc .imm) pr xs))] .one [B (xs.any pr)]:=by
 refine fO (n:=9) [] Tryz.func308 (by kernel_rfl) rfl (by kernel_rfl) (by rfl) (.inr ⟨trivial,trivial⟩) ?_
 repeat'((conv=>whnf);first|with_reducible (first|refine Lm ?_|refine Wm (by omega) ?_|refine Bn ?_|refine Fm rfl ?_)|refine Bt ?_|refine Bu ?_|refine Cl.mk (ri xs pr hl) ?_)
 exact congrArg (fun z=>[B z]) (mW pr xs)
theorem qY (r:al) (page:Int):af Tryz.prog 309 false [.val (some 2) (al.enc .imm r),.ptr [I page]] .one [B (ov page r)]:=by
 refine fO (n:=17) [] Tryz.func309 (by kernel_rfl) rfl (by kernel_rfl) (by rfl) (.inr ⟨trivial,trivial⟩) ?_
 repeat'((conv=>whnf);first|with_reducible (first|refine Lm ?_|refine Wm (by omega) ?_|refine Bf.D (fun hq=>?_) (fun hq=>?_)|refine Bn ?_|refine Fm rfl ?_)|refine Bt ?_|refine Bu ?_|refine Wr.mk rfl ?_)
 all_goals exact congrArg (fun z=>[B z]) (by unfold ov;first|(rw[decide_eq_true (by assumption:r.At≤page)];simp;done)|(rw[decide_eq_false (by assumption:¬r.At≤page)];rfl))
theorem u4 (xs:List al) (page:Int) (hl:xs.length≤9223372036854775807):af Tryz.prog 231 false [.val none (aT .imm xs),.val none [I page]] .one [B (xs.any (ov page))]:=by
 refine fO (n:=8) [] Tryz.func231 (by kernel_rfl) rfl (by kernel_rfl) (by rfl) (.inr ⟨trivial,trivial⟩) ?_
 repeat'((conv=>whnf);first|with_reducible (first|refine Lm ?_|refine Wm (by omega) ?_|refine Bn ?_|refine Fm rfl ?_)|refine Bt ?_|refine Bu ?_|refine Cq.mk (uS (some 2) (al.enc .imm) (ov page) xs) (qY default page).has (fun L k rcs hQ=>?_) ?_|refine Cl.mk (oy xs (ov page) hl) ?_)
 ·obtain⟨x,-,rfl,rfl,rfl⟩:=hQ
  exact qY x page
 ·rfl
end Go.Proofs.YtogajjgmcnjkbaaGreat.Ab
