/- When the parts of a heap are valid, as plain functions over its data. No condition. -/
import Derived.Test.YtogajjgmcnjkbaaGreatMd

namespace Go.Proofs.YtogajjgmcnjkbaaGreat.Ab
section
variable {α : Type} {l : List α} {p : α → Bool} {i : Nat} {x : α}
theorem all_yes (h : l[i]? = some x) (ha : (l.take i).all p = true) (hx : p x = true) : (l.take (i + 1)).all p = true := by
 rw [List.take_add_one, h, List.all_append, ha]; simp [hx]
theorem all_no (h : l[i]? = some x) (hx : p x = false) : l.all p = false := by
 rw [List.all_eq_false]; exact ⟨x, List.mem_of_getElem? h, by simp [hx]⟩
theorem all_end (hi : l.length ≤ i) (ha : (l.take i).all p = true) : l.all p = true := by
 rwa [List.take_of_length_le hi] at ha
end
theorem zip_get {α β : Type} {a : List α} {b : List β} {i : Nat} {x : α} {y : β} (h1 : a[i]? = some x) (h2 : b[i]? = some y) : (a.zip b)[i]? = some (x, y) := by
 rw [List.getElem?_zip_eq_some]; exact ⟨h1, h2⟩
/-- The i-th. -/
def nth {α : Type} [Inhabited α] (xs : List α) (i : Nat) : α := xs.getD i default
theorem get_nth {α : Type} [Inhabited α] {xs : List α} {i : Nat} (h : i < xs.length) : xs[i]? = some (nth xs i) := by
 unfold nth; rw [List.getD_eq_getElem?_getD, List.getElem?_eq_getElem h]; rfl
theorem nth_of {α : Type} [Inhabited α] {xs : List α} {i : Nat} {y : α} (h : xs[i]? = some y) : nth xs i = y := by
 unfold nth; rw [List.getD_eq_getElem?_getD, h]; rfl
theorem nth_mem {α : Type} [Inhabited α] {xs : List α} {i : Nat} (h : i < xs.length) : nth xs i ∈ xs := List.mem_of_getElem? (get_nth h)
/-- Does it hold of all below n? -/
def allN (n : Nat) (p : Nat → Bool) : Bool := (List.range n).all p
theorem allN_iff {n : Nat} {p : Nat → Bool} : allN n p = true ↔ ∀ j, j < n → p j = true := by
 unfold allN; simp
theorem allN_yes {n : Nat} {p : Nat → Bool} (h : allN n p = true) (hp : p n = true) : allN (n + 1) p = true := by
 rw [allN_iff] at *; grind
theorem allN_no {n i : Nat} {p : Nat → Bool} (hi : i < n) (hp : p i = false) : allN n p = false := by
 by_cases h : allN n p = true
 ·rw [allN_iff] at h; grind
 ·simpa using h
theorem allN_at {n i : Nat} {p : Nat → Bool} (h : allN n p = true) (hi : i < n) : p i = true := allN_iff.1 h i hi
/- frames -/
def celOk (u : Bool) (v : Int) : Bool := decide (0 ≤ v ∧ v ≤ 999) && (u || decide (v = 0))
def rowOk (r : List Int) (u : Bool) : Bool := decide (r.length = 16) && r.all (celOk u)
def framesOk (f : DFrames) : Bool := decide (1 ≤ f.Cells.length ∧ f.Cells.length ≤ 32) && (decide (f.Used.length = f.Cells.length) && (f.Cells.zip f.Used).all fun q => rowOk q.1 q.2)
theorem framesOk_no {f : DFrames} {i : Nat} {r : List Int} {u : Bool} (h1 : f.Cells[i]? = some r) (h2 : f.Used[i]? = some u) (h3 : rowOk r u = false) : framesOk f = false := by
 unfold framesOk; rw [all_no (p := fun q => rowOk q.1 q.2) (zip_get h1 h2) h3]; simp
theorem rowOk_no {r : List Int} {u : Bool} {k : Nat} {v : Int} (h1 : r[k]? = some v) (h2 : celOk u v = false) : rowOk r u = false := by
 unfold rowOk; rw [all_no h1 h2]; simp
theorem framesOk_len {f : DFrames} (h : framesOk f = true) : 1 ≤ f.Cells.length ∧ f.Cells.length ≤ 32 ∧ f.Used.length = f.Cells.length := by
 unfold framesOk at h; simp only [Bool.and_eq_true, decide_eq_true_eq] at h; exact ⟨h.1.1, h.1.2, h.2.1⟩
/- tables -/
def entOk (fr : Int) (e : DEntry) : Bool := decide (0 ≤ e.Mode ∧ e.Mode ≤ 2 ∧ (e.Mode = 0 → e.Frame = 0) ∧ (e.Mode ≠ 0 → 0 ≤ e.Frame ∧ e.Frame < fr))
def tableOk (t : DTable) (fr : Int) : Bool := allN t.Entries.length (fun i => entOk fr (nth t.Entries i)) && decide (1 ≤ t.Entries.length ∧ t.Entries.length ≤ 32)
/-- Is page i on the frame? -/
def onF (t : DTable) (f : Int) (i : Nat) : Bool := decide ((nth t.Entries i).Mode ≠ 0 ∧ (nth t.Entries i).Frame = f)
/-- The first n pages' part of what lies on a frame. -/
def pgsOn (t : DTable) (f : Int) (n : Nat) : List Int := ((List.range n).filter (onF t f)).map fun (i : Nat) => (i : Int)
def pagesOn (t : DTable) (f : Int) : List Int := pgsOn t f t.Entries.length
theorem pgsOn_yes {t : DTable} {f : Int} {n : Nat} (h : onF t f n = true) : pgsOn t f (n + 1) = pgsOn t f n ++ [(n : Int)] := by
 unfold pgsOn; rw [List.range_succ, List.filter_append, List.map_append]; simp [h]
theorem pgsOn_no {t : DTable} {f : Int} {n : Nat} (h : onF t f n = false) : pgsOn t f (n + 1) = pgsOn t f n := by
 unfold pgsOn; rw [List.range_succ, List.filter_append, List.map_append]; simp [h]
theorem pgsOn_len (t : DTable) (f : Int) (n : Nat) : (pgsOn t f n).length ≤ n := by
 unfold pgsOn; rw [List.length_map]; exact Nat.le_trans (List.length_filter_le ..) (by simp)
def pageEntry (t : DTable) (p : Int) : DEntry := if 0 ≤ p ∧ p < t.Entries.length then nth t.Entries p.toNat else ⟨0, 0⟩
def machOk (m : DMachine) (i : Nat) : Bool := nth m.Frames.Used i == decide (0 < (pagesOn m.Table (i : Int)).length)
def machineOk (m : DMachine) : Bool := (framesOk m.Frames && tableOk m.Table m.Frames.Used.length) && allN m.Frames.Used.length (machOk m)
def kernelOk (k : DKernel) : Bool := (allN k.Refuse.length (fun i => decide (0 ≤ nth k.Refuse i)) && machineOk k.Machine) && decide (0 ≤ k.Calls ∧ k.Calls ≤ 100000 ∧ k.Refuse.length ≤ 40)
/- ranges -/
def rangeIn (pages : Int) (r : DRange) : Bool := decide (1 ≤ r.Len ∧ r.Len ≤ pages ∧ 0 ≤ r.At ∧ r.At ≤ pages - r.Len)
def rangeAt (pages : Int) (xs : List DRange) (i : Nat) : Bool := rangeIn pages (nth xs i) && decide (i = 0 ∨ (nth xs (i - 1)).At + (nth xs (i - 1)).Len < (nth xs i).At)
def rangesOk (pages : Int) (xs : List DRange) : Bool := allN xs.length (rangeAt pages xs) && decide (1 ≤ pages ∧ pages ≤ 32)
/-- Does the range hold the page? -/
def rHas (page : Int) (r : DRange) : Bool := decide (r.At ≤ page) && decide (page < IntKind.i64.wrap (r.At + r.Len))
/- spans and large objects -/
def lim (k : Int) : Int := if k = 0 then 65535 else if k = 1 then 255 else if k = 2 then 15 else if k = 3 then 3 else 0
def slots (k : Int) : Int := if k = 0 then 16 else if k = 1 then 8 else if k = 2 then 4 else if k = 3 then 2 else 0
def spanOk (s : DSpan) : Bool := decide (0 ≤ s.Page ∧ s.Page ≤ 31 ∧ 0 ≤ s.Class ∧ s.Class ≤ 3 ∧ 0 ≤ s.Bits ∧ s.Bits ≤ lim s.Class)
def pagesFor (n : Int) : Int := if 9 ≤ n ∧ n ≤ 1000 then (n + 15) / 16 else 0
def largeOk (l : DLarge) : Bool := decide (9 ≤ l.Size ∧ l.Size ≤ 1000 ∧ l.Pages = (l.Size + 15) / 16 ∧ 0 ≤ l.Page ∧ l.Page ≤ 32 - l.Pages)
/-- The first n pages of a large object. -/
def lpgs (l : DLarge) (n : Nat) : List Int := (List.range n).map fun (i : Nat) => l.Page + i
/-- The pages that spans and large objects take. -/
def pgs (sp : List DSpan) (la : List DLarge) : List Int := sp.map (·.Page) ++ la.flatMap fun l => lpgs l l.Pages.toNat
def layoutOk (sp : List DSpan) (la : List DLarge) : Bool := (sp.all spanOk && la.all largeOk) && decide (pgs sp la).Nodup
/- addresses -/
def slotIn (s : DSpan) (a : Int) : Bool := spanOk s && decide (16 * s.Page ≤ a ∧ a ≤ 16 * s.Page + 15)
def hasSlot (b i : Int) : Bool := decide (0 ≤ b ∧ 0 ≤ i ∧ i ≤ 15 ∧ b / 2 ^ i.toNat % 2 = 1)
def largeHas (l : DLarge) (a : Int) : Bool := largeOk l && decide (16 * l.Page ≤ a ∧ a ≤ 16 * l.Page + l.Size - 1)
/-- A class's size. -/
def csz (k : Int) : Int := if 0 ≤ k ∧ k ≤ 3 then 2 ^ k.toNat else 0
def slotAt (s : DSpan) (a : Int) : Int × Int := if slotIn s a then ((a - 16 * s.Page) / csz s.Class, (a - 16 * s.Page) % csz s.Class) else (-1, -1)
def ownS (i : Nat) (s : DSpan) (a : Int) : DOwner := ⟨if hasSlot s.Bits ((a - 16 * s.Page) / csz s.Class) then 1 else 2, i, (a - 16 * s.Page) / csz s.Class, (a - 16 * s.Page) % csz s.Class⟩
/-- Whom an address belongs to. -/
def denotes (sp : List DSpan) (la : List DLarge) (a : Int) : DOwner :=
 match sp.findIdx? (slotIn · a) with
 | some i => ownS i (nth sp i) a
 | none => match la.findIdx? (largeHas · a) with
  | some i => ⟨3, i, 0, a - 16 * (nth la i).Page⟩
  | none => ⟨0, 0, 0, 0⟩
theorem idx_yes {α : Type} {pr : α → Bool} {xs : List α} {i : Nat} {y : α} (hy : xs[i]? = some y) (hp : pr y = true) (ha : ∀ (j : Nat) (z : α), j < i → xs[j]? = some z → pr z = false) : xs.findIdx? pr = some i := by
 obtain ⟨hi, rfl⟩ := List.getElem?_eq_some_iff.1 hy
 exact List.findIdx?_eq_some_iff_getElem.2 ⟨hi, hp, fun j hj => by
   have := ha j _ hj (List.getElem?_eq_getElem (by omega))
   simp [this]⟩
theorem idx_no {α : Type} {pr : α → Bool} {xs : List α} {i : Nat} (hi : xs.length ≤ i) (ha : ∀ (j : Nat) (z : α), j < i → xs[j]? = some z → pr z = false) : xs.findIdx? pr = none :=
 List.findIdx?_eq_none_iff.2 fun z hz => by
  obtain ⟨j, hj⟩ := List.mem_iff_getElem?.1 hz
  exact ha j z (by have := (List.getElem?_eq_some_iff.1 hj).1; omega) hj
theorem idx_next {α : Type} {pr : α → Bool} {xs : List α} {i : Nat} {y : α} (hy : xs[i]? = some y) (hp : pr y = false) (ha : ∀ (j : Nat) (z : α), j < i → xs[j]? = some z → pr z = false) : ∀ (j : Nat) (z : α), j < i + 1 → xs[j]? = some z → pr z = false := by
 intro j z hj hz
 rcases Nat.lt_or_ge j i with h1 | h1
 ·exact ha j z h1 hz
 ·obtain rfl : j = i := by omega
  rw [hy] at hz; cases hz; exact hp
/-- The place of the first that pr holds of, or -1. -/
def fstIx {α : Type} (pr : α → Bool) (xs : List α) : Int := match xs.findIdx? pr with | some i => (i : Nat) | none => -1
theorem fstIx_yes {α : Type} {pr : α → Bool} {xs : List α} {i : Nat} {y : α} (hy : xs[i]? = some y) (hp : pr y = true) (ha : ∀ (j : Nat) (z : α), j < i → xs[j]? = some z → pr z = false) : fstIx pr xs = (i : Nat) := by
 unfold fstIx; rw [idx_yes hy hp ha]
theorem fstIx_no {α : Type} {pr : α → Bool} {xs : List α} {i : Nat} (hi : xs.length ≤ i) (ha : ∀ (j : Nat) (z : α), j < i → xs[j]? = some z → pr z = false) : fstIx pr xs = -1 := by
 unfold fstIx; rw [idx_no hi ha]
theorem fstIx_any {α : Type} (pr : α → Bool) (xs : List α) : decide (fstIx pr xs ≥ 0) = xs.any pr := by
 unfold fstIx
 cases h : xs.findIdx? pr with
 | none =>
  have := List.findIdx?_eq_none_iff.1 h
  have h2 : xs.any pr = false := by rw [List.any_eq_false]; intro y hy; simp [this y hy]
  rw [h2]; rfl
 | some i =>
  obtain ⟨hi, hp, -⟩ := List.findIdx?_eq_some_iff_getElem.1 h
  have h2 : xs.any pr = true := List.any_eq_true.2 ⟨_, List.getElem_mem hi, hp⟩
  rw [h2]; simp
/- meshing -/
def meshable (s t : DSpan) : Bool := (spanOk s && spanOk t) && decide (s.Class = t.Class ∧ s.Page ≠ t.Page ∧ s.Bits.toNat &&& t.Bits.toNat = 0)
/- mail -/
def postOk (n : Int) (p : DPost) : Bool := decide (0 ≤ p.To ∧ p.To ≤ n - 1 ∧ 0 ≤ p.Addr)
def nnI (z : Int) : Bool := decide (0 ≤ z)
def mailRow (m : DMail) (i : Nat) : Bool := (nth m.Buffers i).all (postOk m.Buffers.length) && (nth m.Inbox i).all nnI
def mailSum (m : DMail) : Nat → Int
 | 0 => 0
 | i + 1 => mailSum m i + ((nth m.Buffers i).length + (nth m.Inbox i).length)
def mailOk (m : DMail) : Bool := (decide (1 ≤ m.Buffers.length ∧ m.Buffers.length ≤ 4 ∧ m.Inbox.length = m.Buffers.length) && allN m.Buffers.length (mailRow m)) && decide (mailSum m m.Buffers.length ≤ 30)
def inFlight (m : DMail) : List Int := if mailOk m then (m.Buffers.flatMap fun l => l.map (·.Addr)) ++ m.Inbox.flatten else []
/- quarantine -/
def sameAddr (a : Int) (y : DStale) : Bool := decide (y.Addr = a)
def staleAt (xs : List DStale) (i : Nat) : Bool := decide (0 ≤ (nth xs i).Class ∧ (nth xs i).Class ≤ 3 ∧ 0 ≤ (nth xs i).Addr ∧ 0 ≤ (nth xs i).Since ∧ (i = 0 ∨ (nth xs (i - 1)).Since ≤ (nth xs i).Since)) && !(xs.take i).any (sameAddr (nth xs i).Addr)
def quarCells (xs : List DStale) : Nat → Int
 | 0 => 0
 | i + 1 => quarCells xs i + csz (nth xs i).Class
def quarOk (q : DQuar) : Bool := allN q.Lst.length (staleAt q.Lst) && decide (0 ≤ q.Room ∧ q.Room ≤ 500 ∧ quarCells q.Lst q.Lst.length ≤ q.Room)
/- plans and jobs -/
def planAt (xs : List Int) (i : Nat) : Bool := decide (0 ≤ nth xs i ∧ nth xs i ≤ 15 ∧ (i = 0 ∨ nth xs (i - 1) < nth xs i))
def planOk (p : DPlan) : Bool := allN p.Cells.length (planAt p.Cells) && decide (0 ≤ p.Keep ∧ p.Keep ≤ 31 ∧ 0 ≤ p.Move ∧ p.Move ≤ 31 ∧ p.Keep ≠ p.Move)
def jobOk (j : DJob) : Bool := planOk j.Plan && decide (0 ≤ j.Phase ∧ j.Phase ≤ 5 ∧ 0 ≤ j.Next ∧ j.Next ≤ j.Plan.Cells.length)
def noJob (j : DJob) : Bool := decide (j.Plan.Keep = 0 ∧ j.Plan.Move = 0 ∧ j.Plan.Cells.length = 0 ∧ j.Phase = 0 ∧ j.Next = 0)
/- the heap -/
def framePages (h : DHeap) (p : Int) : List Int := if (pageEntry h.Kernel.Machine.Table p).Mode = 0 then [] else pagesOn h.Kernel.Machine.Table (pageEntry h.Kernel.Machine.Table p).Frame
def atPage (p : Int) (s : DSpan) : Bool := decide (s.Page = p)
def spanOn (h : DHeap) (p : Int) : Int := fstIx (atPage p) h.Spans
def classOf (n : Int) : Int := if n < 1 then -1 else if n ≤ 1 then 0 else if n ≤ 2 then 1 else if n ≤ 4 then 2 else if n ≤ 8 then 3 else -1
end Go.Proofs.YtogajjgmcnjkbaaGreat.Ab
/- When a heap is valid, as plain functions over its data: as the reference asks it, and as the program does. No condition. -/
namespace Go.Proofs.YtogajjgmcnjkbaaGreat.Ab
/- pages -/
def tbl (h : DHeap) : DTable := h.Kernel.Machine.Table
def pgN (h : DHeap) : Nat := h.Kernel.Machine.Table.Entries.length
def sortS (xs : List DSpan) (i : Nat) : Bool := decide (i = 0 ∨ (nth xs (i - 1)).Page < (nth xs i).Page)
def sortL (xs : List DLarge) (i : Nat) : Bool := decide (i = 0 ∨ (nth xs (i - 1)).Page < (nth xs i).Page)
def onePg (h : DHeap) (l : DLarge) (k : Nat) : Bool := decide ((framePages h (l.Page + (k : Nat))).length = 1)
def lgAt (h : DHeap) (i : Nat) : Bool := sortL h.Larges i && allN (nth h.Larges i).Pages.toNat (onePg h (nth h.Larges i))
def pgAt (h : DHeap) (p : Nat) : Bool := decide ((nth (tbl h).Entries p).Mode ≠ 0 ↔ (p : Int) ∈ pgs h.Spans h.Larges) && (decide ((nth (tbl h).Entries p).Mode ≠ 0) != h.Free.any (rHas (p : Nat)))
/-- What both ask of the pages. -/
def pages0 (h : DHeap) : Bool := ((allN h.Spans.length (sortS h.Spans) && allN h.Larges.length (lgAt h)) && (pgs h.Spans h.Larges).all fun p => decide (p < pgN h)) && allN (pgN h) (pgAt h)
/-- The reference: spans on one frame can be meshed. -/
def meshAt (h : DHeap) (i : Nat) (q : Int) : Bool := decide (spanOn h q = (i : Nat)) || (decide (0 ≤ spanOn h q) && meshable (nth h.Spans i) (nth h.Spans (spanOn h q).toNat))
def meshS (h : DHeap) : Bool := allN h.Spans.length fun i => (framePages h (nth h.Spans i).Page).all (meshAt h i)
/-- The program: the same, of each pair. -/
def pairAt (h : DHeap) (i j : Nat) : Bool := decide ((pageEntry (tbl h) (nth h.Spans i).Page).Frame ≠ (pageEntry (tbl h) (nth h.Spans j).Page).Frame) || meshable (nth h.Spans i) (nth h.Spans j)
def meshI (h : DHeap) : Bool := allN h.Spans.length fun i => allN i (pairAt h i)
/- objects -/
def sameId (z : Int) (o : DObj) : Bool := decide (o.Id = z)
def ownsObj (h : DHeap) (o : DObj) : Bool :=
 let w := denotes h.Spans h.Larges o.Addr
 decide (w.Offset = 0) && ((decide (w.Kind = 1) && decide ((nth h.Spans w.Index.toNat).Class = classOf o.Size)) || (decide (w.Kind = 3) && decide ((nth h.Larges w.Index.toNat).Size = o.Size)))
def objNums (nx : Int) (h : DHeap) (i : Nat) : Bool := decide ((i = 0 ∨ (nth h.Objs (i - 1)).Addr < (nth h.Objs i).Addr) ∧ 1 ≤ (nth h.Objs i).Id ∧ (nth h.Objs i).Id ≤ nx ∧ 0 ≤ (nth h.Objs i).Thread ∧ (nth h.Objs i).Thread ≤ h.Caches.length - 1)
def objAt (nx : Int) (h : DHeap) (i : Nat) : Bool := (objNums nx h i && !(h.Objs.take i).any (sameId (nth h.Objs i).Id)) && ownsObj h (nth h.Objs i)
def objsAll (h : DHeap) : Bool := allN h.Objs.length (objAt (IntKind.i64.wrap (h.Next - 1)) h)
/- holders -/
def slotHeld (h : DHeap) (a c : Int) : Bool :=
 let w := denotes h.Spans h.Larges a
 (decide (w.Kind = 1) && decide (w.Offset = 0)) && (decide (c < 0) || decide ((nth h.Spans w.Index.toNat).Class = c))
def listHeld (h : DHeap) (c : DCache) (k : Nat) : Bool := (nth c.Lists k).all fun a => slotHeld h a (k : Nat)
def cacheHeld (h : DHeap) (c : DCache) : Bool := allN c.Lists.length (listHeld h c)
def quarHeld (h : DHeap) (x : DStale) : Bool := slotHeld h x.Addr x.Class
def flyHeld (h : DHeap) (a : Int) : Bool := slotHeld h a (-1)
def cacheAddrs (h : DHeap) : List Int := h.Caches.flatMap fun c => c.Lists.flatten
def heldAll (h : DHeap) : Bool := ((h.Caches.all (cacheHeld h)) && h.Quar.Lst.all (quarHeld h)) && (inFlight h.Mail).all (flyHeld h)
/-- Every holder's address, in the reference's order. -/
def holders (h : DHeap) : List Int := ((h.Objs.map (·.Addr) ++ cacheAddrs h) ++ h.Quar.Lst.map (·.Addr)) ++ inFlight h.Mail
def liveAt (sp : List DSpan) (la : List DLarge) (a : Nat) : Bool :=
 let w := denotes sp la (a : Nat)
 decide (w.Offset = 0) && (decide (w.Kind = 1) || decide (w.Kind = 3))
def liveN (sp : List DSpan) (la : List DLarge) (n : Nat) : List Int := ((List.range n).filter (liveAt sp la)).map fun (i : Nat) => (i : Int)
def liveS (sp : List DSpan) (la : List DLarge) : List Int := liveN sp la 512
def onceS (h : DHeap) : Bool := (heldAll h && decide (holders h).Nodup) && decide ((holders h).length = (liveS h.Spans h.Larges).length)
/- the heap -/
def sinceOk (h : DHeap) : Bool := h.Quar.Lst.all fun x => decide (x.Since ≤ h.Clock)
def numsOk (h : DHeap) : Bool := decide (0 ≤ h.Seed ∧ h.Seed ≤ 1073741823 ∧ 0 ≤ h.Clock ∧ h.Clock ≤ 1000000 ∧ 0 ≤ h.Limit ∧ h.Limit ≤ 1000 ∧ 1 ≤ h.Next ∧ h.Next ≤ 1000000)
def jobAt (h : DHeap) : Bool := if h.Meshing then (jobOk h.Job && decide (0 ≤ spanOn h h.Job.Plan.Keep)) && decide (0 ≤ spanOn h h.Job.Plan.Move) else noJob h.Job
def layAll (h : DHeap) : Bool := ((kernelOk h.Kernel && rangesOk (pgN h) h.Free) && layoutOk h.Spans h.Larges) && pages0 h
end Go.Proofs.YtogajjgmcnjkbaaGreat.Ab
/- Contracts of small functions on caches: classes, membership, CacheOk. No condition. -/
namespace Go.Proofs.YtogajjgmcnjkbaaGreat.Ab
open Go.RowKit
set_option maxRecDepth 20000
set_option maxHeartbeats 2000000
theorem l01In_ok (n lo hi : Int) : CallsA Tryz.prog 74 false [.val none [I n], .val none [I lo], .val none [I hi]] .one [B (decide (lo ≤ n ∧ n ≤ hi))] := by
 refine fO (n := 15) [] Tryz.func74 (by kernel_rfl) rfl (by kernel_rfl) (by rfl) (.inr ⟨trivial, trivial⟩) ?_
 repeat' ((conv=>whnf);first|with_reducible (first|refine Lm ?_|refine Wm (by omega) ?_|refine Bf.D (fun hq => ?_) (fun hq => ?_)|refine Bn ?_|refine Fm rfl ?_)|refine Bt ?_|refine Bu ?_)
 all_goals exact congrArg (fun z => [B z]) (by simp; try omega)
theorem between_ok (n lo hi : Int) : CallsA Tryz.prog 76 false [.val none [I n], .val none [I lo], .val none [I hi]] .one [B (decide (lo ≤ n ∧ n ≤ hi))] := by
 refine fO (n := 15) [] Tryz.func76 (by kernel_rfl) rfl (by kernel_rfl) (by rfl) (.inr ⟨trivial, trivial⟩) ?_
 repeat' ((conv=>whnf);first|with_reducible (first|refine Lm ?_|refine Wm (by omega) ?_|refine Bf.D (fun hq => ?_) (fun hq => ?_)|refine Bn ?_|refine Fm rfl ?_)|refine Bt ?_|refine Bu ?_)
 all_goals exact congrArg (fun z => [B z]) (by simp; try omega)
theorem classOk_ok (k : Int) : CallsA Tryz.prog 235 false [.val none [I k]] .one [B (decide (0 ≤ k ∧ k ≤ 3))] := by
 refine fO (n := 5) [] Tryz.func235 (by kernel_rfl) rfl (by kernel_rfl) (by rfl) (.inr ⟨trivial, trivial⟩) ?_
 repeat' ((conv=>whnf);first|with_reducible (first|refine Lm ?_|refine Wm (by omega) ?_|refine Bn ?_|refine Fm rfl ?_)|refine Bt ?_|refine Bu ?_|refine Cl.mk (between_ok k 0 3) ?_)
 rfl
theorem ClassSize_impl (k : Int) : CallsA Tryz.prog 185 false [.val none [I k]] .one [I (csz k)] := by
 by_cases hk : 0 ≤ k ∧ k ≤ 3
 ·obtain rfl | rfl | rfl | rfl : k = 0 ∨ k = 1 ∨ k = 2 ∨ k = 3 := by omega
  all_goals
   refine fO (n := 8) [] Tryz.func185 (by kernel_rfl) rfl (by kernel_rfl) (by rfl) (.inr ⟨trivial, trivial⟩) ?_
   repeat' ((conv=>whnf);first|with_reducible (first|refine Lm ?_|refine Wm (by omega) ?_|refine dT (by omega) (fun hq => ?_)|refine dF (by omega) (fun hq => ?_)|refine Bf.D (fun hq => ?_) (fun hq => ?_)|refine Bn ?_|refine Fm rfl ?_)|refine Bt ?_|refine Bu ?_|refine Cl.mk (classOk_ok _) ?_|refine Cd.mk (by decide) ?_|refine Wr.mk rfl ?_)
   exact congrArg (fun z => [I z]) (by decide)
 ·refine fO (n := 8) [] Tryz.func185 (by kernel_rfl) rfl (by kernel_rfl) (by rfl) (.inr ⟨trivial, trivial⟩) ?_
  repeat' ((conv=>whnf);first|with_reducible (first|refine Lm ?_|refine Wm (by omega) ?_|refine dT (by omega) (fun hq => ?_)|refine dF (by omega) (fun hq => ?_)|refine Bf.D (fun hq => ?_) (fun hq => ?_)|refine Bn ?_|refine Fm rfl ?_)|refine Bt ?_|refine Bu ?_|refine Cl.mk (classOk_ok _) ?_)
  exact congrArg (fun z => [I z]) (by unfold csz; rw [if_neg hk])
theorem ClassSize_spec (k : Int) : CallsA Tryz.prog 171 false [.val none [I k]] .one [I (csz k)] := by
 by_cases hk : 0 ≤ k ∧ k ≤ 3
 ·obtain rfl | rfl | rfl | rfl : k = 0 ∨ k = 1 ∨ k = 2 ∨ k = 3 := by omega
  all_goals
   refine fO (n := 9) [] Tryz.func171 (by kernel_rfl) rfl (by kernel_rfl) (by rfl) (.inr ⟨trivial, trivial⟩) ?_
   repeat' ((conv=>whnf);first|with_reducible (first|refine Lm ?_|refine Wm (by omega) ?_|refine dT (by omega) (fun hq => ?_)|refine dF (by omega) (fun hq => ?_)|refine Bf.D (fun hq => ?_) (fun hq => ?_)|refine Bn ?_|refine Fm rfl ?_)|refine Bt ?_|refine Bu ?_|refine Cl.mk (l01In_ok _ 0 3) ?_|refine Cd.mk (by decide) ?_|refine Wr.mk rfl ?_)
   exact congrArg (fun z => [I z]) (by decide)
 ·refine fO (n := 9) [] Tryz.func171 (by kernel_rfl) rfl (by kernel_rfl) (by rfl) (.inr ⟨trivial, trivial⟩) ?_
  repeat' ((conv=>whnf);first|with_reducible (first|refine Lm ?_|refine Wm (by omega) ?_|refine dT (by omega) (fun hq => ?_)|refine dF (by omega) (fun hq => ?_)|refine Bf.D (fun hq => ?_) (fun hq => ?_)|refine Bn ?_|refine Fm rfl ?_)|refine Bt ?_|refine Bu ?_|refine Cl.mk (l01In_ok _ 0 3) ?_)
  exact congrArg (fun z => [I z]) (by unfold csz; rw [if_neg hk])
theorem l08Has_ok (xs : List Int) (a : Int) (hl : xs.length ≤ 9223372036854775807) : CallsA Tryz.prog 204 false [.val none (rIntS .imm xs), .val none [I a]] .one [B (decide (a ∈ xs))] := by
 refine fO (n := 18) [] Tryz.func204 (by kernel_rfl) rfl (by kernel_rfl) (by rfl) (.inr ⟨trivial, trivial⟩) ?_
 repeat' ((conv=>whnf);first|with_reducible (first|refine Lm ?_|refine Wm (by omega) ?_|refine Bn ?_|refine Fm rfl ?_)|refine Bt ?_|refine Bu ?_)
 (conv=>whnf)
 refine Lp.mk (ι := Nat) (fun i => [(0, .hold .one (rIntS .imm xs)), (1, .hold .one [I a]), (5, .hold .one [I (i : Nat)])]) (fun i => i ≤ xs.length ∧ a ∉ xs.take i) (fun i => xs.length - i) 0 ?_ ⟨Nat.zero_le _, by simp⟩ fun i hi => ?_
 ·repeat' (first|exact trivial|rfl|refine And.intro ?_ ?_)
 ·obtain ⟨hi, hn⟩ := hi
  by_cases hlt : i < xs.length
  ·obtain ⟨y, hy⟩ : ∃ y, xs[i]? = some y := ⟨_, List.getElem?_eq_getElem hlt⟩
   repeat' ((conv=>whnf);first|with_reducible (first|refine Lm ?_|refine Wm (by omega) ?_|refine Ix.nat (get_map hy) ?_|refine dT (by omega) (fun hq => ?_)|refine Bf.E (fun hq => ?_) (fun hq => ?_)|refine Bn ?_|refine Fm rfl ?_)|refine Bt ?_|refine Bu ?_)
   ·exact congrArg (fun z => [B z]) (by symm; simp; rw [← ‹y = a›]; exact List.mem_of_getElem? hy)
   ·(conv=>whnf)
    refine Nx.mk (i + 1) ⟨by omega, ?_⟩ (by omega) ?_
    ·rw [List.take_add_one, hy]
     simp only [Option.toList_some, List.mem_append, List.mem_singleton, not_or]
     exact ⟨hn, fun e => ‹y ≠ a› e.symm⟩
    ·repeat' (first|exact trivial|rfl|refine And.intro ?_ ?_)
  ·repeat' ((conv=>whnf);first|with_reducible (first|refine Lm ?_|refine Wm (by omega) ?_|refine dF (by omega) (fun hq => ?_)|refine Bn ?_|refine Fm rfl ?_)|refine Bt ?_|refine Bu ?_)
   rw [List.take_of_length_le (by omega)] at hn
   exact congrArg (fun z => [B z]) (by symm; simpa using hn)
end Go.Proofs.YtogajjgmcnjkbaaGreat.Ab
/- Contracts of CacheOk and CacheCells, the reference's and the program's. No condition. -/
namespace Go.Proofs.YtogajjgmcnjkbaaGreat.Ab
open Go.RowKit
set_option maxRecDepth 20000
set_option maxHeartbeats 4000000
def good (k : Int) (s : List Int) (a : Int) : Prop := 0 ≤ a ∧ a ≤ 511 ∧ a.tmod (csz k) = 0 ∧ a ∉ s
instance (k : Int) (s : List Int) (a : Int) : Decidable (good k s a) := by unfold good; exact inferInstance
def okL (k : Int) : List Int → List Int → Option (List Int)
 | s, [] => some s
 | s, a :: l => if good k s a then okL k (s ++ [a]) l else none
def okStep (k : Nat) (s l : List Int) : Option (List Int) := if l.length ≤ 8 ∧ k ≤ 3 then okL k s l else none
def okLL : Nat → List Int → List (List Int) → Option (List Int)
 | _, s, [] => some s
 | k, s, l :: ls => (okStep k s l).bind fun s' => okLL (k + 1) s' ls
def cacheOk (c : DCache) : Bool := decide (c.Lists.length = 4) && (okLL 0 [] c.Lists).isSome
theorem okL_append (k : Int) : ∀ (a s b : List Int), okL k s (a ++ b) = (okL k s a).bind fun s' => okL k s' b
 | [], s, b => rfl
 | x :: a, s, b => by
  simp only [List.cons_append, okL]
  split
  ·exact okL_append k a _ b
  ·rfl
theorem okLL_append : ∀ (a : List (List Int)) (k : Nat) (s : List Int) (b : List (List Int)), okLL k s (a ++ b) = (okLL k s a).bind fun s' => okLL (k + a.length) s' b
 | [], k, s, b => rfl
 | l :: a, k, s, b => by
  simp only [List.cons_append, okLL, Option.bind_assoc, List.length_cons]
  congr 1; funext s'
  rw [okLL_append a (k + 1) s' b, show k + 1 + a.length = k + (a.length + 1) by omega]
theorem okL_yes {k : Int} {l s0 s : List Int} {j : Nat} {a : Int} (hj : l[j]? = some a) (h : okL k s0 (l.take j) = some s) (hg : good k s a) : okL k s0 (l.take (j + 1)) = some (s ++ [a]) := by
 rw [List.take_add_one, hj, Option.toList_some, okL_append, h]
 simp [okL, hg]
theorem okL_no {k : Nat} {l s0 s : List Int} {j : Nat} {a : Int} (hj : l[j]? = some a) (h : okL k s0 (l.take j) = some s) (hg : ¬ good k s a) : okStep k s0 l = none := by
 unfold okStep
 split
 ·have : l = l.take j ++ (a :: l.drop (j + 1)) := by
   obtain ⟨hjl, rfl⟩ := List.getElem?_eq_some_iff.1 hj
   rw [← List.drop_eq_getElem_cons hjl, List.take_append_drop]
  rw [this, okL_append, h]
  simp [okL, hg]
 ·rfl
theorem okL_len {k : Int} : ∀ {l s s' : List Int}, okL k s l = some s' → s'.length = s.length + l.length
 | [], s, s', h => by simp only [okL, Option.some.injEq] at h; subst h; simp
 | a :: l, s, s', h => by
  simp only [okL] at h
  split at h
  ·have := okL_len h; simp at this ⊢; omega
  ·cases h
theorem okLL_take {ls : List (List Int)} {i : Nat} {l s : List Int} (hi : ls[i]? = some l) (h : okLL 0 [] (ls.take i) = some s) : okLL 0 [] (ls.take (i + 1)) = okStep i s l := by
 have hl := (List.getElem?_eq_some_iff.1 hi).1
 rw [List.take_add_one, hi, Option.toList_some, okLL_append, h]
 simp only [Option.bind_some, okLL, Nat.zero_add, List.length_take, Nat.min_eq_left (Nat.le_of_lt hl)]
 cases okStep i s l <;> rfl
theorem cacheOk_no {c : DCache} {i : Nat} {l s : List Int} (hi : c.Lists[i]? = some l) (h : okLL 0 [] (c.Lists.take i) = some s) (hn : okStep i s l = none) : cacheOk c = false := by
 have h1 := okLL_take hi h
 rw [hn] at h1
 have h2 : okLL 0 [] c.Lists = none := by
  rw [← List.take_append_drop (i + 1) c.Lists, okLL_append, h1]; rfl
 unfold cacheOk; rw [h2]; simp
theorem okLL_len : ∀ {ls : List (List Int)} {k : Nat} {s s' : List Int}, okLL k s ls = some s' → s'.length ≤ s.length + 8 * ls.length
 | [], k, s, s', h => by simp only [okLL, Option.some.injEq] at h; subst h; simp
 | l :: ls, k, s, s', h => by
  simp only [okLL] at h
  unfold okStep at h
  split at h
  ·cases ho : okL k s l with
   | none => rw [ho] at h; cases h
   | some s2 =>
    rw [ho] at h
    have h1 := okL_len ho
    have h2 := okLL_len (show okLL (k + 1) s2 ls = some s' from h)
    simp only [List.length_cons]; omega
  ·cases h
theorem csz_ne {i : Nat} (h : i ≤ 3) : csz (i : Int) ≠ 0 := by
 obtain rfl | rfl | rfl | rfl : i = 0 ∨ i = 1 ∨ i = 2 ∨ i = 3 := by omega
 all_goals decide
theorem rowI_one {l : List Int} : ∀ r ∈ l.map (rI .own), r.length = 1 := by
 intro r hr; obtain ⟨z, -, rfl⟩ := List.mem_map.1 hr; rfl
theorem CacheOk_spec (c : DCache) (hs : DCache.sml c) : CallsA Tryz.prog 96 false [.val (some 1) (DCache.enc .imm c)] .one [B (cacheOk c)] := by
 have hl := hs.1
 refine fO (n := 60) [] Tryz.func96 (by kernel_rfl) rfl (by kernel_rfl) (by rfl) (.inr ⟨trivial, trivial⟩) ?_
 repeat' ((conv=>whnf);first|with_reducible (first|refine Lm ?_|refine Wm (by omega) ?_|refine Bf.N (fun hq => ?_) (fun hq => ?_)|refine Bn ?_|refine Fm rfl ?_)|refine Bt ?_|refine Bu ?_)
 ·exact congrArg (fun z => [B z]) (by symm; unfold cacheOk; rw [decide_eq_false (by omega)]; rfl)
 have h4 : c.Lists.length = 4 := by omega
 (conv=>whnf)
 refine Lp.mk (ι := Nat × List Int) (fun i => [(1, .hold .box (DCache.enc .imm c)), (3, .hold .one (rIntS .own i.2)), (4, .hold .one [I (i.1 : Nat)])]) (fun i => i.1 ≤ 4 ∧ okLL 0 [] (c.Lists.take i.1) = some i.2) (fun i => 4 - i.1) (0, []) ?_ ⟨Nat.zero_le _, rfl⟩ fun i hi => ?_
 ·repeat' (first|exact trivial|rfl|refine And.intro ?_ ?_)
 ·obtain ⟨i, s⟩ := i
  obtain ⟨hi, hok⟩ := hi
  simp only at hi hok ⊢
  have hsl := okLL_len hok
  rw [List.length_take] at hsl
  simp only [List.length_nil] at hsl
  by_cases hlt : i < 4
  ·obtain ⟨l, hli⟩ : ∃ l, c.Lists[i]? = some l := ⟨_, List.getElem?_eq_getElem (by omega)⟩
   have hll : l.length ≤ 1048576 := hs.2 l (List.mem_of_getElem? hli)
   repeat' ((conv=>whnf);first|with_reducible (first|refine Lm ?_|refine Wm (by omega) ?_|refine Ix.nat (get_map hli) ?_|refine dT (by omega) (fun hq => ?_)|refine Bf.D (fun hq => ?_) (fun hq => ?_)|refine Bn ?_|refine Fm rfl ?_)|refine Bt ?_|refine Bu ?_)
   ·exact congrArg (fun z => [B z]) (cacheOk_no hli hok (by unfold okStep; rw [if_neg (by omega)])).symm
   have hl8 : l.length ≤ 8 := by omega
   (conv=>whnf)
   refine Lp.mk (ι := Nat × List Int) (fun j => [(1, .hold .box (DCache.enc .imm c)), (3, .hold .one (rIntS .own j.2)), (4, .hold .one [I (i : Nat)]), (5, .hold .one [I (j.1 : Nat)])]) (fun j => j.1 ≤ l.length ∧ okL i s (l.take j.1) = some j.2) (fun j => l.length - j.1) (0, s) ?_ ⟨Nat.zero_le _, rfl⟩ fun j hj => ?_
   ·repeat' (first|exact trivial|rfl|refine And.intro ?_ ?_)
   ·obtain ⟨j, s2⟩ := j
    obtain ⟨hj, hok2⟩ := hj
    simp only at hj hok2 ⊢
    have hsl2 := okL_len hok2
    rw [List.length_take] at hsl2
    by_cases hjl : j < l.length
    ·obtain ⟨y, hy⟩ : ∃ y, l[j]? = some y := ⟨_, List.getElem?_eq_getElem hjl⟩
     repeat' ((conv=>whnf);first|with_reducible (first|refine Lm ?_|refine Wm (by omega) ?_|refine Ix.nat (get_map hli) ?_|refine Ix.nat (get_map hy) ?_|refine dT (by omega) (fun hq => ?_)|refine Bf.D (fun hq => ?_) (fun hq => ?_)|refine Bf.N (fun hq => ?_) (fun hq => ?_)|refine Bn ?_|refine Fm rfl ?_)|refine Bt ?_|refine Bu ?_|refine Cl.mk (l01In_ok y 0 511) ?_|refine Cl.mk (ClassSize_spec (i : Nat)) ?_|refine Cd.mk (csz_ne (by omega)) ?_|refine Ev.mk rfl ?_|refine Cl.eq (l08Has_ok s2 y (by omega)) ⟨⟨rfl, rIntS_fz _⟩, ⟨rfl, rfl⟩, trivial⟩ ?_|refine Ap.mk rowI_one (fun r hr => by rw [List.mem_singleton.1 hr]; rfl) (by simp [noOwn, isOwn]) (by simp; omega) (by simp only [List.length_map]; exact mkB (by simp; omega) (by decide)) rfl ?_)
     all_goals first
      | exact congrArg (fun z => [B z]) (cacheOk_no hli hok (okL_no hy hok2 fun ⟨g1, g2, g3, g4⟩ => by first | contradiction | omega)).symm
      | ((conv=>whnf)
         refine Nx.mk (j + 1, s2 ++ [y]) ⟨(by simp only; omega), okL_yes hy hok2 ⟨(by omega), (by omega), (by assumption), (by assumption)⟩⟩ (by simp only; omega) ?_
         (repeat' (first|exact trivial|rfl|exact And.intro rfl (And.intro (congrArg (C.s Own.own) (by simp [rI])) trivial)|refine And.intro ?_ ?_)))
    ·repeat' ((conv=>whnf);first|with_reducible (first|refine Lm ?_|refine Wm (by omega) ?_|refine Ix.nat (get_map hli) ?_|refine dF (by omega) (fun hq => ?_)|refine Bn ?_|refine Fm rfl ?_)|refine Bt ?_|refine Bu ?_)
     (conv=>whnf)
     rw [List.take_of_length_le (by omega)] at hok2
     refine Nx.mk (i + 1, s2) ⟨(by simp only; omega), (by rw [okLL_take hli hok]; unfold okStep; rw [if_pos ⟨hl8, by omega⟩]; exact hok2)⟩ (by simp only; omega) ?_
     repeat' (first|exact trivial|rfl|refine And.intro ?_ ?_)
  ·repeat' ((conv=>whnf);first|with_reducible (first|refine Lm ?_|refine Wm (by omega) ?_|refine dF (by omega) (fun hq => ?_)|refine Bn ?_|refine Fm rfl ?_)|refine Bt ?_|refine Bu ?_)
   rw [List.take_of_length_le (by omega)] at hok
   exact congrArg (fun z => [B z]) (by symm; unfold cacheOk; rw [hok, decide_eq_true h4]; rfl)
def seenM (s : List Int) : List (Int × Value) := s.map fun a => (a, .bool true)
theorem mlook_seen (a : Int) : ∀ (s : List Int), mlook (seenM s) a (.bool false) = .bool (decide (a ∈ s))
 | [] => by simp [seenM, mlook]
 | x :: s => by
  have ih := mlook_seen a s
  simp only [seenM, List.map_cons, mlook] at ih ⊢
  by_cases h : x = a
  ·rw [if_pos h]; simp [h]
  ·rw [if_neg h, ih]
   congr 1
   simp [show ¬ a = x from fun e => h e.symm]
theorem mput_seen {a : Int} : ∀ {s : List Int}, a ∉ s → seenM (s ++ [a]) = mput (seenM s) a (.bool true)
 | [], _ => rfl
 | x :: s, h => by
  simp only [List.mem_cons, not_or] at h
  have ih := mput_seen h.2
  simp only [seenM, List.cons_append, List.map_cons, mput] at ih ⊢
  rw [if_neg fun e => h.1 e.symm, ih]
theorem CacheOk_impl (c : DCache) (hs : DCache.sml c) : CallsA Tryz.prog 125 false [.val (some 1) (DCache.enc .imm c)] .one [B (cacheOk c)] := by
 have hl := hs.1
 refine fO (n := 54) [] Tryz.func125 (by kernel_rfl) rfl (by kernel_rfl) (by rfl) (.inr ⟨trivial, trivial⟩) ?_
 repeat' ((conv=>whnf);first|with_reducible (first|refine Lm ?_|refine Wm (by omega) ?_|refine Bn ?_|refine Fm rfl ?_)|refine Bt ?_|refine Bu ?_)
 (conv=>whnf)
 refine Lp.mk (ι := Nat × List Int) (fun i => [(1, .hold .box (DCache.enc .imm c)), (3, .hold .one [.m (seenM i.2)]), (10, .hold .one (rIntSS .imm c.Lists)), (11, .hold .one [I c.Lists.length]), (12, .hold .one [I (i.1 : Nat)])]) (fun i => i.1 ≤ c.Lists.length ∧ okLL 0 [] (c.Lists.take i.1) = some i.2) (fun i => c.Lists.length - i.1) (0, []) ?_ ⟨Nat.zero_le _, rfl⟩ fun i hi => ?_
 ·repeat' (first|exact trivial|rfl|refine And.intro ?_ ?_)
 ·obtain ⟨i, s⟩ := i
  obtain ⟨hi, hok⟩ := hi
  simp only at hi hok ⊢
  by_cases hlt : i < c.Lists.length
  ·obtain ⟨l, hli⟩ : ∃ l, c.Lists[i]? = some l := ⟨_, List.getElem?_eq_getElem hlt⟩
   have hll : l.length ≤ 1048576 := hs.2 l (List.mem_of_getElem? hli)
   repeat' ((conv=>whnf);first|with_reducible (first|refine Lm ?_|refine Wm (by omega) ?_|refine Ix.nat (get_map hli) ?_|refine dT (by omega) (fun hq => ?_)|refine Bf.D (fun hq => ?_) (fun hq => ?_)|refine Bn ?_|refine Fm rfl ?_)|refine Bt ?_|refine Bu ?_|refine Cl.mk (classOk_ok (i : Nat)) ?_)
   ·exact congrArg (fun z => [B z]) (cacheOk_no hli hok (by unfold okStep; rw [if_neg (by omega)])).symm
   rotate_left
   ·exact congrArg (fun z => [B z]) (cacheOk_no hli hok (by unfold okStep; rw [if_neg (by omega)])).symm
   have hl8 : l.length ≤ 8 := by omega
   have hi3 : i ≤ 3 := by omega
   (conv=>whnf)
   refine Lp.mk (ι := Nat × List Int) (fun j => [(1, .hold .box (DCache.enc .imm c)), (3, .hold .one [.m (seenM j.2)]), (4, .hold .one [I (i : Nat)]), (10, .hold .one (rIntSS .imm c.Lists)), (11, .hold .one [I c.Lists.length]), (12, .hold .one [I (i : Nat)]), (25, .hold .one (rIntS .imm l)), (26, .hold .one [I l.length]), (27, .hold .one [I (j.1 : Nat)])]) (fun j => j.1 ≤ l.length ∧ okL i s (l.take j.1) = some j.2) (fun j => l.length - j.1) (0, s) ?_ ⟨Nat.zero_le _, rfl⟩ fun j hj => ?_
   ·repeat' (first|exact trivial|rfl|refine And.intro ?_ ?_)
   ·obtain ⟨j, s2⟩ := j
    obtain ⟨hj, hok2⟩ := hj
    simp only at hj hok2 ⊢
    by_cases hjl : j < l.length
    ·obtain ⟨y, hy⟩ : ∃ y, l[j]? = some y := ⟨_, List.getElem?_eq_getElem hjl⟩
     repeat' ((conv=>whnf);first|with_reducible (first|refine Lm ?_|refine Wm (by omega) ?_|refine Ix.nat (get_map hli) ?_|refine Ix.nat (get_map hy) ?_|refine dT (by omega) (fun hq => ?_)|refine Bf.D (fun hq => ?_) (fun hq => ?_)|refine Bf.N (fun hq => ?_) (fun hq => ?_)|refine Bn ?_|refine Fm rfl ?_)|refine Bt ?_|refine Bu ?_|refine Cl.mk (between_ok y 0 511) ?_|refine Cl.mk (ClassSize_impl (i : Nat)) ?_|refine Cd.mk (csz_ne (by omega)) ?_|refine Ev.mk rfl ?_|refine Ml.mk (mlook_seen y s2) ?_|refine Mu.mk (mput_seen (by assumption)) ?_)
     all_goals first
      | exact congrArg (fun z => [B z]) (cacheOk_no hli hok (okL_no hy hok2 fun ⟨g1, g2, g3, g4⟩ => by first | contradiction | omega)).symm
      | ((conv=>whnf)
         refine Nx.mk (j + 1, s2 ++ [y]) ⟨(by simp only; omega), okL_yes hy hok2 ⟨(by omega), (by omega), (by assumption), (by assumption)⟩⟩ (by simp only; omega) ?_
         (repeat' (first|exact trivial|rfl|refine And.intro ?_ ?_)))
    ·repeat' ((conv=>whnf);first|with_reducible (first|refine Lm ?_|refine Wm (by omega) ?_|refine dF (by omega) (fun hq => ?_)|refine Bn ?_|refine Fm rfl ?_)|refine Bt ?_|refine Bu ?_)
     (conv=>whnf)
     rw [List.take_of_length_le (by omega)] at hok2
     refine Nx.mk (i + 1, s2) ⟨(by simp only; omega), (by rw [okLL_take hli hok]; unfold okStep; rw [if_pos ⟨hl8, hi3⟩]; exact hok2)⟩ (by simp only; omega) ?_
     repeat' (first|exact trivial|rfl|refine And.intro ?_ ?_)
  ·repeat' ((conv=>whnf);first|with_reducible (first|refine Lm ?_|refine Wm (by omega) ?_|refine dF (by omega) (fun hq => ?_)|refine Bn ?_|refine Fm rfl ?_)|refine Bt ?_|refine Bu ?_)
   rw [List.take_of_length_le (by omega)] at hok
   have h4 : ((c.Lists.length : Int) == 4) = decide (c.Lists.length = 4) := by
    by_cases h4 : c.Lists.length = 4
    ·simp [h4]
    ·rw [decide_eq_false h4]; simp; omega
   exact congrArg (fun z => [B z]) (h4.trans (by unfold cacheOk; rw [hok]; simp))
theorem okLL_le : ∀ {ls : List (List Int)} {k : Nat} {s s' : List Int}, okLL k s ls = some s' → ∀ l ∈ ls, l.length ≤ 8
 | [], k, s, s', h, l, hm => by simp at hm
 | x :: ls, k, s, s', h, l, hm => by
  simp only [okLL] at h
  unfold okStep at h
  split at h
  ·rename_i hc
   rcases List.mem_cons.1 hm with rfl | hm
   ·exact hc.1
   ·cases ho : okL k s x with
    | none => rw [ho] at h; cases h
    | some s2 => rw [ho] at h; exact okLL_le (show okLL (k + 1) s2 ls = some s' from h) l hm
  ·cases h
theorem cacheOk_yes {c : DCache} (h : cacheOk c = true) : c.Lists.length = 4 ∧ ∀ l ∈ c.Lists, l.length ≤ 8 := by
 unfold cacheOk at h
 simp only [Bool.and_eq_true, decide_eq_true_eq] at h
 obtain ⟨s, hs⟩ := Option.isSome_iff_exists.1 h.2
 exact ⟨h.1, okLL_le hs⟩
end Go.Proofs.YtogajjgmcnjkbaaGreat.Ab
/- The library's IndexFunc and ContainsFunc at the program's types, and the first functions that use them. No condition. -/
namespace Go.Proofs.YtogajjgmcnjkbaaGreat.Ab
open Go.RowKit
set_option maxRecDepth 20000
set_option maxHeartbeats 4000000
section
variable {α : Type}
/-- What the predicate is said to do. -/
def prQ (ag : Option Nat) (e : α → List C) (pr : α → Bool) (xs : List α) : List (Option Nat × List C) → Kd → List C → Prop := fun L k rcs => ∃ x, x ∈ xs ∧ L = [(ag, e x)] ∧ k = .one ∧ rcs = [B (pr x)]
end
theorem IndexFunc_Range (xs : List DRange) (pr : DRange → Bool) (hl : xs.length ≤ 9223372036854775807) : CallsA Tryz.prog 349 false [.val none (rDRangeS .imm xs), .fn (FnOk Tryz.prog (prQ (some 2) (DRange.enc .imm) pr xs))] .one [I (fstIx pr xs)] := by
 refine fO (n := 19) [] Tryz.func349 (by kernel_rfl) rfl (by kernel_rfl) (by rfl) (.inr ⟨trivial, trivial⟩) ?_
 repeat' ((conv=>whnf);first|with_reducible (first|refine Lm ?_|refine Wm (by omega) ?_|refine Bn ?_|refine Fm rfl ?_)|refine Bt ?_|refine Bu ?_)
 (conv=>whnf)
 refine Lp.mk (ι := Nat) (fun i => [(0, .hold .one (rDRangeS .imm xs)), (1, .fv (FnOk Tryz.prog (prQ (some 2) (DRange.enc .imm) pr xs))), (7, .hold .one [I xs.length]), (8, .hold .one [I (i : Nat)])]) (fun i => i ≤ xs.length ∧ ∀ (j : Nat) (z : DRange), j < i → xs[j]? = some z → pr z = false) (fun i => xs.length - i) 0 ?_ ⟨Nat.zero_le _, fun j z hj => by omega⟩ fun i hi => ?_
 ·repeat' (first|exact trivial|rfl|refine And.intro ?_ ?_)
 ·obtain ⟨hi, ha⟩ := hi
  by_cases hlt : i < xs.length
  ·obtain ⟨y, hy⟩ : ∃ y, xs[i]? = some y := ⟨_, List.getElem?_eq_getElem hlt⟩
   repeat' ((conv=>whnf);first|with_reducible (first|refine Lm ?_|refine Wm (by omega) ?_|refine Ix.nat (get_map hy) ?_|refine dT (by omega) (fun hq => ?_)|refine Bn ?_|refine Fm rfl ?_)|refine Bt ?_|refine Bu ?_|refine Fv.mk (k := .one) (rcs := [B (pr y)]) ⟨y, List.mem_of_getElem? hy, rfl, rfl, rfl⟩ ?_|refine Bf.P (fun hq => ?_) (fun hq => ?_))
   ·exact congrArg (fun z => [I z]) (fstIx_yes hy ‹_› ha).symm
   ·(conv=>whnf)
    refine Nx.mk (i + 1) ⟨by omega, fun j z hj hz => ?_⟩ (by omega) ?_
    ·rcases Nat.lt_or_ge j i with h1 | h1
     ·exact ha j z h1 hz
     ·obtain rfl : j = i := by omega
      rw [hy] at hz; cases hz; assumption
    ·repeat' (first|exact trivial|rfl|refine And.intro ?_ ?_)
  ·repeat' ((conv=>whnf);first|with_reducible (first|refine Lm ?_|refine Wm (by omega) ?_|refine dF (by omega) (fun hq => ?_)|refine Bn ?_|refine Fm rfl ?_)|refine Bt ?_|refine Bu ?_)
   exact congrArg (fun z => [I z]) (fstIx_no (by omega) ha).symm
theorem ContainsFunc_Range (xs : List DRange) (pr : DRange → Bool) (hl : xs.length ≤ 9223372036854775807) : CallsA Tryz.prog 308 false [.val none (rDRangeS .imm xs), .fn (FnOk Tryz.prog (prQ (some 2) (DRange.enc .imm) pr xs))] .one [B (xs.any pr)] := by
 refine fO (n := 9) [] Tryz.func308 (by kernel_rfl) rfl (by kernel_rfl) (by rfl) (.inr ⟨trivial, trivial⟩) ?_
 repeat' ((conv=>whnf);first|with_reducible (first|refine Lm ?_|refine Wm (by omega) ?_|refine Bn ?_|refine Fm rfl ?_)|refine Bt ?_|refine Bu ?_|refine Cl.mk (IndexFunc_Range xs pr hl) ?_)
 exact congrArg (fun z => [B z]) (fstIx_any pr xs)
theorem RangeHas_fn (r : DRange) (page : Int) : CallsA Tryz.prog 309 false [.val (some 2) (DRange.enc .imm r), .ptr [I page]] .one [B (rHas page r)] := by
 refine fO (n := 17) [] Tryz.func309 (by kernel_rfl) rfl (by kernel_rfl) (by rfl) (.inr ⟨trivial, trivial⟩) ?_
 repeat' ((conv=>whnf);first|with_reducible (first|refine Lm ?_|refine Wm (by omega) ?_|refine Bf.D (fun hq => ?_) (fun hq => ?_)|refine Bn ?_|refine Fm rfl ?_)|refine Bt ?_|refine Bu ?_|refine Wr.mk rfl ?_)
 all_goals exact congrArg (fun z => [B z]) (by unfold rHas; first | (rw [decide_eq_true (by assumption : r.At ≤ page)]; simp; done) | (rw [decide_eq_false (by assumption : ¬ r.At ≤ page)]; rfl))
theorem RangeHas_impl (xs : List DRange) (page : Int) (hl : xs.length ≤ 9223372036854775807) : CallsA Tryz.prog 231 false [.val none (rDRangeS .imm xs), .val none [I page]] .one [B (xs.any (rHas page))] := by
 refine fO (n := 8) [] Tryz.func231 (by kernel_rfl) rfl (by kernel_rfl) (by rfl) (.inr ⟨trivial, trivial⟩) ?_
 repeat' ((conv=>whnf);first|with_reducible (first|refine Lm ?_|refine Wm (by omega) ?_|refine Bn ?_|refine Fm rfl ?_)|refine Bt ?_|refine Bu ?_|refine Cq.mk (prQ (some 2) (DRange.enc .imm) (rHas page) xs) (RangeHas_fn default page).has (fun L k rcs hQ => ?_) ?_|refine Cl.mk (ContainsFunc_Range xs (rHas page) hl) ?_)
 ·obtain ⟨x, -, rfl, rfl, rfl⟩ := hQ
  exact RangeHas_fn x page
 ·rfl
end Go.Proofs.YtogajjgmcnjkbaaGreat.Ab
