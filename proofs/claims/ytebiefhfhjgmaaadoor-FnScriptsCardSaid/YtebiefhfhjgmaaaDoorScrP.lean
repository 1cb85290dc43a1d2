/- Plain facts on the script that a list of acts gives; no program in sight. -/
import Derived.Test.YtebiefhfhjgmaaaDoorPsI
import Derived.Test.YtebiefhfhjgmaaaDoorDrawC
import Derived.Test.YtebiefhfhjgmaaaDoorScT
namespace Go.Proofs.YtebiefhfhjgmaaaDoor.Scr
set_option maxRecDepth 100000
open Go Ac Mm Tx Sp Jr PaS Ps Sc Fp Ja Rd 

theorem act_not_skip {l : ByteArray} {z : List Int} (h : IsAct l z) : ¬ Skip l := by
  obtain ⟨_, k, ⟨h1, h2, hf, _⟩, _⟩ := h
  rintro ⟨_, hs | ⟨f, r, hs, h0⟩⟩
  · rw [hs] at hf; cases hf
  · rw [hs] at hf
    obtain rfl : f = word k := Option.some.inj hf
    rcases kinds k h1 h2 with rfl | rfl | rfl | rfl | rfl | rfl | rfl | rfl | rfl | rfl <;> exact absurd h0 (by decide)
theorem ok_line (l : List UInt8) (h1 : l.length ≤ 600) (h2 : ∀ c ∈ l, 32 ≤ c.toNat ∧ c.toNat ≤ 126) (h3 : (spans ⟨l.toArray⟩).length ≤ 24) : LineOk ⟨l.toArray⟩ :=
  ⟨h1, fun j c _ hc => h2 c (List.mem_of_getElem? (by rw [← hc, ← Array.getElem?_toList])), h3⟩
def firstL : List UInt8 := [59, 32, 102, 105, 114, 115, 116]
def nothL : List UInt8 := [110, 111, 116, 104, 105, 110, 103]
theorem skip_first : Skip ⟨firstL.toArray⟩ :=
  ⟨ok_line firstL (by decide) (by decide) (by decide +kernel), .inr ⟨⟨#[59]⟩, [⟨#[102, 105, 114, 115, 116]⟩], by decide +kernel, rfl⟩⟩
theorem skip_empty : Skip ⟨([] : List UInt8).toArray⟩ := ⟨ok_line [] (by decide) (by decide) (by decide +kernel), .inl (by decide +kernel)⟩
theorem skip_blank : Skip ⟨([32, 32] : List UInt8).toArray⟩ := ⟨ok_line [32, 32] (by decide) (by decide) (by decide +kernel), .inl (by decide +kernel)⟩
theorem fields_noth : fields ⟨nothL.toArray⟩ = [⟨nothL.toArray⟩] := by decide +kernel
theorem bad_noth : Bad ⟨nothL.toArray⟩ := by
  constructor
  · rintro ⟨_, hs | ⟨f, r, hs, h0⟩⟩
    · rw [fields_noth] at hs; cases hs
    · rw [fields_noth] at hs
      injection hs with hs _
      subst hs
      exact absurd h0 (by decide)
  · rintro z ⟨_, k, ⟨h1, h2, hf, _⟩, _⟩
    rw [fields_noth] at hf
    have hf := Option.some.inj hf
    rcases kinds k h1 h2 with rfl | rfl | rfl | rfl | rfl | rfl | rfl | rfl | rfl | rfl <;> exact absurd hf (by decide)
/-- The texts, each with its end of line. -/
def flat (ts : List ByteArray) : List UInt8 := ts.flatMap fun t => t.data.toList ++ [10]
theorem split_flat : ∀ (ts : List ByteArray) (r : List UInt8), (∀ t ∈ ts, (10 : UInt8) ∉ t.data.toList) → splitL (flat ts ++ r) = ts.map (·.data.toList) ++ splitL r
  | [], r, _ => rfl
  | t :: ts, r, h => by
    have e : flat (t :: ts) ++ r = t.data.toList ++ 10 :: (flat ts ++ r) := by simp [flat]
    rw [e, splitL_app _ _ (h t (by simp)), split_flat ts r fun x hx => h x (by simp [hx])]
    rfl
theorem map_back (ts : List ByteArray) : (ts.map (·.data.toList)).map (fun l => (⟨l.toArray⟩ : ByteArray)) = ts := by
  rw [List.map_map]
  conv => rhs; rw [← List.map_id ts]
  exact List.map_congr_left fun a _ => rfl
theorem lines_whole (ts : List ByteArray) (s x : ByteArray) (h : ∀ t ∈ ts, (10 : UInt8) ∉ t.data.toList) (hs : s.data.toList = flat ts) (hx : x.data.toList = firstL ++ 10 :: (s.data.toList ++ [10, 32, 32])) :
    linesOf x = [⟨firstL.toArray⟩] ++ ts ++ [⟨([] : List UInt8).toArray⟩] ++ [⟨([32, 32] : List UInt8).toArray⟩] := by
  unfold linesOf
  rw [hx, splitL_app _ _ (by decide), hs, split_flat ts _ h]
  have e : splitL [10, 32, 32] = [[], [32, 32]] := by decide
  rw [e, List.map_cons, List.map_append, map_back]
  simp
theorem lines_noth (ts : List ByteArray) (s x : ByteArray) (h : ∀ t ∈ ts, (10 : UInt8) ∉ t.data.toList) (hs : s.data.toList = flat ts) (hx : x.data.toList = s.data.toList ++ nothL) :
    linesOf x = ts ++ ⟨nothL.toArray⟩ :: [] := by
  unfold linesOf
  rw [hx, hs, split_flat ts _ h]
  have e : splitL nothL = [nothL] := by decide
  rw [e, List.map_append, map_back]
  rfl
theorem text_nl {k : Nat} {z : List Int} (h : Okz z k) : (10 : UInt8) ∉ (text k z).data.toList := fun hm => by
  have := text_bytes h 10 hm
  have e : (10 : UInt8).toNat = 10 := rfl
  omega
theorem st_proc {zs : List Int} : ∀ {q : Nat} {s : ByteArray}, ST zs q s → ∃ ts : List ByteArray, ts.length = q ∧ (∀ t ∈ ts, (10 : UInt8) ∉ t.data.toList) ∧ s.data.toList = flat ts ∧ ∀ L m0, Proc L m0 → Proc (L ++ ts) (m0 ++ (List.range q).map (az zs))
  | 0, s, h => by
    obtain rfl : s = ⟨#[]⟩ := h
    exact ⟨[], rfl, fun t ht => (by cases ht), rfl, fun L m0 h => by simpa using h⟩
  | q + 1, s, ⟨s', t, h, ht, e⟩ => by
    obtain ⟨ts, h1, h2, h3, h4⟩ := st_proc h
    obtain ⟨k, hk, rfl⟩ : ∃ k, Okz (az zs q) k ∧ t = text k (az zs q) := by
      rcases ht with ⟨k, hk, rfl, _⟩ | ⟨_, _, hf⟩
      · exact ⟨k, hk, rfl⟩
      · cases hf
    have ha : IsAct (text k (az zs q)) (az zs q) := isAct_text hk
    refine ⟨ts ++ [text k (az zs q)], by simp [h1], fun x hx => ?_, by rw [e]; simp [flat, ByteArray.data_append, h3], fun L m0 hp => ?_⟩
    · rcases List.mem_append.1 hx with hx | hx
      · exact h2 x hx
      · obtain rfl := List.mem_singleton.1 hx
        exact text_nl hk
    · rw [← List.append_assoc, List.range_succ, List.map_append, ← List.append_assoc]
      exact proc_act (h4 L m0 hp) (act_not_skip ha) ha
/-- The first script holds the acts. -/
theorem ps_whole {zs : List Int} {n : Nat} {s x : ByteArray} (h : ST zs n s) (hn : n ≤ 80) (hsz : x.size ≤ 20000) (hx : x.data.toList = firstL ++ 10 :: (s.data.toList ++ [10, 32, 32])) : PsOf x ((List.range n).map (az zs)) (n + 3) true := by
  obtain ⟨ts, h1, h2, h3, h4⟩ := st_proc h
  have hl := lines_whole ts s x h2 h3 hx
  have hp : Proc (linesOf x) ((List.range n).map (az zs)) := by
    rw [hl]
    have := h4 [⟨firstL.toArray⟩] [] (.inl ⟨skip_first, rfl⟩)
    rw [List.nil_append] at this
    exact proc_skip (proc_skip this skip_empty) skip_blank
  have hlen : (linesOf x).length = n + 3 := by rw [hl]; simp [h1]
  have := ps_end hsz hp (by simpa using hn)
  rwa [hlen] at this
/-- The second script is wrong at its last line. -/
theorem ps_noth {zs : List Int} {n : Nat} {s x : ByteArray} (h : ST zs n s) (hsz : x.size ≤ 20000) (hx : x.data.toList = s.data.toList ++ nothL) : PsOf x [] (n + 1) false := by
  obtain ⟨ts, h1, h2, h3, h4⟩ := st_proc h
  have hp : Proc ts ((List.range n).map (az zs)) := by
    have := h4 [] [] rfl
    simpa using this
  have := ps_bad hsz (lines_noth ts s x h2 h3 hx) hp bad_noth
  rwa [h1] at this
theorem rows_get {m : List (List Int)} {i j : Nat} (hi : i < m.length) (hj : j < 5) : gI (rows m) (i * 5 + j) = gI m[i] j := by
  induction m generalizing i with
  | nil => simp at hi
  | cons z m ih =>
    have e : rows (z :: m) = [gI z 0, gI z 1, gI z 2, gI z 3, gI z 4] ++ rows m := by simp [rows]
    cases i with
    | zero =>
      rw [e]
      rcases (show j = 0 ∨ j = 1 ∨ j = 2 ∨ j = 3 ∨ j = 4 by omega) with rfl | rfl | rfl | rfl | rfl <;> rfl
    | succ i =>
      have h1 := ih (i := i) (by simpa using hi)
      rw [e]
      unfold gI at h1 ⊢
      rw [List.getD_eq_getElem?_getD, List.getElem?_append_right (by simp; omega)]
      rw [List.getD_eq_getElem?_getD] at h1
      have : (i + 1) * 5 + j - [z.getD 0 0, z.getD 1 0, z.getD 2 0, z.getD 3 0, z.getD 4 0].length = i * 5 + j := by simp; omega
      rw [this, h1]
      simp
theorem range_az {m : List (List Int)} (h : Dr.OkA m) : (List.range m.length).map (az (rows m)) = m := by
  apply List.ext_getElem (by simp)
  intro i h1 h2
  rw [List.getElem_map, List.getElem_range]
  have hz := (h m[i] (List.getElem_mem h2)).2
  rw [← hz]
  have f : ∀ j, j < 5 → gI (rows m) (i * 5 + j) = gI m[i] j := fun j hj => rows_get h2 hj
  unfold az zn
  rw [← f 0 (by decide), ← f 1 (by decide), ← f 2 (by decide), ← f 3 (by decide), ← f 4 (by decide)]
  rfl
theorem az_get {m : List (List Int)} (h : Dr.OkA m) {i : Nat} (hi : i < m.length) : az (rows m) i = m[i] := by
  have e := range_az h
  have h1 : ((List.range m.length).map (az (rows m)))[i]? = m[i]? := by rw [e]
  rw [List.getElem?_map, List.getElem?_range hi, List.getElem?_eq_getElem hi] at h1
  exact Option.some.inj h1
end Go.Proofs.YtebiefhfhjgmaaaDoor.Scr
