import Derived.Lib.IndexMore
import Derived.Lib.IndexBytes
import Derived.Lib.Strings
import Derived.Lib.Bytes2
import Derived.Lib.IndexLaws
/-
  What lies between the tokens of a source, and where a quoted text ends: plain functions of rows of bytes.
-/
namespace Go.Proofs.YtfnjcgakcpadiaaGreatDoor
open Go.Lib

/-- White space. -/
def wsB (c : UInt8) : Bool := c == 32 || c == 9 || c == 10 || c == 13

/-- How many bytes lie ahead of the next token; false: a comment without an end begins there. -/
def skipN (r : List UInt8) : Nat × Bool :=
  match r with
  | [] => (0, true)
  | c :: t =>
    if wsB c then ((skipN t).1 + 1, (skipN t).2)
    else if hasPrefix (c :: t) [45, 45] then ((skipN ((c :: t).drop (2 + (((c :: t).drop 2).takeWhile (· != 10)).length))).1 + (2 + (((c :: t).drop 2).takeWhile (· != 10)).length), (skipN ((c :: t).drop (2 + (((c :: t).drop 2).takeWhile (· != 10)).length))).2)
    else if hasPrefix (c :: t) [47, 42] then
      (if index ((c :: t).drop 2) [42, 47] < 0 then (0, false)
       else ((skipN ((c :: t).drop ((index ((c :: t).drop 2) [42, 47]).toNat + 4))).1 + ((index ((c :: t).drop 2) [42, 47]).toNat + 4), (skipN ((c :: t).drop ((index ((c :: t).drop 2) [42, 47]).toNat + 4))).2))
    else (0, true)
termination_by r.length
decreasing_by all_goals (simp; try omega)

/-- The same from a place on, as places. -/
def skipTo (l : List UInt8) (a : Nat) : Nat × Bool := ((skipN (l.drop a)).1 + a, (skipN (l.drop a)).2)

theorem skip_end (l : List UInt8) (a : Nat) (h : l.length ≤ a) : skipTo l a = (a, true) := by
  unfold skipTo
  rw [List.drop_eq_nil_of_le h, skipN]
  simp

theorem skip_ws (l : List UInt8) (a : Nat) (h : a < l.length) (hw : wsB l[a] = true) : skipTo l a = skipTo l (a + 1) := by
  unfold skipTo
  rw [List.drop_eq_getElem_cons h, skipN, if_pos hw]
  simp only [Prod.mk.injEq, and_true]
  omega

theorem takeWhile_run (p : UInt8 → Bool) : ∀ (r : List UInt8) (k : Nat), k ≤ r.length → (∀ j (h : j < r.length), j < k → p r[j] = true) → (∀ h : k < r.length, p r[k] = false) → (r.takeWhile p).length = k
  | [], k, hk, _, _ => by simp at hk; simp [hk]
  | c :: t, 0, _, _, h0 => by
    have := h0 (by simp)
    simp at this
    simp [this]
  | c :: t, k + 1, hk, hlt, h0 => by
    have hc := hlt 0 (by simp) (by omega)
    simp at hc
    rw [List.takeWhile_cons, hc]
    simp only [if_true, List.length_cons, Nat.add_right_cancel_iff]
    exact takeWhile_run p t k (by simpa using hk) (fun j h hj => hlt (j + 1) (by simp; omega) (by omega)) (fun h => h0 (by simp; omega))

theorem pre2_iff (l : List UInt8) (a : Nat) (x y : UInt8) : hasPrefix (l.drop a) [x, y] = true ↔ ∃ h : a + 1 < l.length, l[a] = x ∧ l[a + 1] = y := by
  constructor
  · intro h
    have hle := hasPrefix_le h
    simp at hle
    have h1 : a + 1 < l.length := by omega
    refine ⟨h1, ?_⟩
    rw [List.drop_eq_getElem_cons (by omega), List.drop_eq_getElem_cons h1] at h
    simp [hasPrefix, List.isPrefixOf] at h
    exact ⟨h.1.symm, h.2.symm⟩
  · rintro ⟨h1, rfl, rfl⟩
    rw [List.drop_eq_getElem_cons (show a < l.length by omega), List.drop_eq_getElem_cons h1]
    simp [hasPrefix, List.isPrefixOf]

theorem pre2_no (l : List UInt8) (a : Nat) (x y : UInt8) (h : ¬ ∃ h : a + 1 < l.length, l[a] = x ∧ l[a + 1] = y) : hasPrefix (l.drop a) [x, y] = false := by
  cases hp : hasPrefix (l.drop a) [x, y]
  · rfl
  · exact absurd ((pre2_iff l a x y).1 hp) h

theorem skip_line (l : List UInt8) (a b : Nat) (h : a + 1 < l.length) (h0 : l[a] = 45) (h1 : l[a + 1] = 45) (hab : a ≤ b) (hb : b ≤ l.length)
    (hno : ∀ j (h : j < l.length), a ≤ j → j < b → l[j] ≠ 10) (hend : ∀ h : b < l.length, l[b] = 10) : skipTo l a = skipTo l b := by
  have hp : hasPrefix (l.drop a) [45, 45] = true := (pre2_iff l a 45 45).2 ⟨h, h0, h1⟩
  have hb2 : a + 2 ≤ b := by
    rcases Nat.lt_or_ge b (a + 2) with hlt | hge
    · exfalso
      rcases Nat.lt_or_ge b (a + 1) with hlt2 | hge2
      · have e : b = a := by omega
        subst e
        have := hend (by omega)
        rw [h0] at this
        cases this
      · have e : b = a + 1 := by omega
        subst e
        have := hend h
        rw [h1] at this
        cases this
    · exact hge
  have hrun : (((l.drop a).drop 2).takeWhile (· != 10)).length = b - (a + 2) := by
    rw [List.drop_drop]
    refine takeWhile_run _ _ _ (by simp; omega) (fun j hj hjb => ?_) (fun hk => ?_)
    · simp only [List.getElem_drop]
      have := hno (a + 2 + j) (by simp at hj; omega) (by omega) (by omega)
      simpa using this
    · simp only [List.getElem_drop]
      have e : a + 2 + (b - (a + 2)) = b := by omega
      simp only [e]
      have := hend (by simp at hk; omega)
      simp [this]
  have hnw : wsB (l[a]'(by omega)) = false := by rw [h0]; rfl
  unfold skipTo
  have hcons : l.drop a = l[a]'(by omega) :: l.drop (a + 1) := List.drop_eq_getElem_cons (by omega)
  generalize hr : l.drop a = r at hp hrun hcons
  subst hcons
  rw [skipN, if_neg (by rw [hnw]; simp), if_pos hp, hrun, ← hr, List.drop_drop]
  have e : a + (2 + (b - (a + 2))) = b := by omega
  rw [e]
  simp only [Prod.mk.injEq, and_true]
  omega

theorem skip_open (l : List UInt8) (a : Nat) (h : a + 1 < l.length) (h0 : l[a] = 47) (h1 : l[a + 1] = 42) (hi : index (l.drop (a + 2)) [42, 47] < 0) : skipTo l a = (a, false) := by
  have hp : hasPrefix (l.drop a) [47, 42] = true := (pre2_iff l a 47 42).2 ⟨h, h0, h1⟩
  have hq : hasPrefix (l.drop a) [45, 45] = false := pre2_no l a 45 45 (by rintro ⟨_, h2, _⟩; rw [h0] at h2; cases h2)
  have hi' : index ((l.drop a).drop 2) [42, 47] < 0 := by rw [List.drop_drop]; exact hi
  have hnw : wsB (l[a]'(by omega)) = false := by rw [h0]; rfl
  unfold skipTo
  have hcons : l.drop a = l[a]'(by omega) :: l.drop (a + 1) := List.drop_eq_getElem_cons (by omega)
  generalize hr : l.drop a = r at hp hq hi' hcons
  subst hcons
  rw [skipN, if_neg (by rw [hnw]; simp), if_neg (by rw [hq]; simp), if_pos hp, if_pos hi']
  simp

theorem skip_comment (l : List UInt8) (a i : Nat) (h : a + 1 < l.length) (h0 : l[a] = 47) (h1 : l[a + 1] = 42) (hi : index (l.drop (a + 2)) [42, 47] = (i : Int)) : skipTo l a = skipTo l (a + (i + 4)) := by
  have hp : hasPrefix (l.drop a) [47, 42] = true := (pre2_iff l a 47 42).2 ⟨h, h0, h1⟩
  have hq : hasPrefix (l.drop a) [45, 45] = false := pre2_no l a 45 45 (by rintro ⟨_, h2, _⟩; rw [h0] at h2; cases h2)
  have hi' : index ((l.drop a).drop 2) [42, 47] = (i : Int) := by rw [List.drop_drop]; exact hi
  have hnw : wsB (l[a]'(by omega)) = false := by rw [h0]; rfl
  unfold skipTo
  have hcons : l.drop a = l[a]'(by omega) :: l.drop (a + 1) := List.drop_eq_getElem_cons (by omega)
  generalize hr : l.drop a = r at hp hq hi' hcons
  subst hcons
  rw [skipN, if_neg (by rw [hnw]; simp), if_neg (by rw [hq]; simp), if_pos hp, hi', if_neg (by omega), Int.toNat_natCast, ← hr, List.drop_drop]
  simp only [Prod.mk.injEq, and_true]
  omega

theorem skip_stop (l : List UInt8) (a : Nat) (h : a < l.length) (hw : wsB l[a] = false) (hq : hasPrefix (l.drop a) [45, 45] = false) (hp : hasPrefix (l.drop a) [47, 42] = false) : skipTo l a = (a, true) := by
  unfold skipTo
  have hcons : l.drop a = l[a]'h :: l.drop (a + 1) := List.drop_eq_getElem_cons h
  generalize hr : l.drop a = r at hp hq hcons
  subst hcons
  rw [skipN, if_neg (by rw [hw]; simp), if_neg (by rw [hq]; simp), if_neg (by rw [hp]; simp)]
  simp

/-- The text in quotes, and how many bytes it took, the closing quote with it. -/
def quotR (q : UInt8) : List UInt8 → Option (List UInt8 × Nat)
  | [] => none
  | [c] => if c = q then some ([], 1) else none
  | c :: d :: t =>
    if c = q then (if d = q then (quotR q t).map (fun x => (q :: x.1, x.2 + 2)) else some ([], 1))
    else (quotR q (d :: t)).map (fun x => (c :: x.1, x.2 + 1))

theorem quotR_other (q c : UInt8) (t : List UInt8) (h : c ≠ q) : quotR q (c :: t) = (quotR q t).map (fun x => (c :: x.1, x.2 + 1)) := by
  cases t with
  | nil => simp [quotR, h]
  | cons d t => rw [quotR, if_neg h]
theorem quotR_two (q : UInt8) (t : List UInt8) : quotR q (q :: q :: t) = (quotR q t).map (fun x => (q :: x.1, x.2 + 2)) := by
  rw [quotR, if_pos rfl, if_pos rfl]
theorem quotR_end (q : UInt8) (t : List UInt8) (h : ∀ h : 0 < t.length, t[0] ≠ q) : quotR q (q :: t) = some ([], 1) := by
  cases t with
  | nil => simp [quotR]
  | cons d t =>
    have := h (by simp)
    simp at this
    rw [quotR, if_pos rfl, if_neg this]
end Go.Proofs.YtfnjcgakcpadiaaGreatDoor

/-
  One step of the passing over, at a string.
-/
namespace Go.Proofs.YtfnjcgakcpadiaaGreatDoor
open Go.Lib

theorem list_size (s : ByteArray) : s.data.toList.length = s.size := Array.length_toList
theorem list_get (s : ByteArray) (j : Nat) (_hj : j < s.size) (h' : j < s.data.toList.length) : s.data.toList[j] = s[j] := by
  simp [ByteArray.getElem_eq_getElem_data]

theorem ws_idx (c : UInt8) : (wsB c = true → 0 ≤ indexByte [32, 9, 10, 13] c) ∧ (wsB c = false → indexByte [32, 9, 10, 13] c < 0) := by
  unfold wsB
  constructor
  · intro h
    have h2 : c = 32 ∨ c = 9 ∨ c = 10 ∨ c = 13 := by simpa [or_assoc] using h
    rcases h2 with rfl | rfl | rfl | rfl <;> decide
  · intro h
    have h2 : ¬ (c = 32 ∨ c = 9 ∨ c = 10 ∨ c = 13) := by
      intro h3
      have : (c == 32 || c == 9 || c == 10 || c == 13) = true := by simpa [or_assoc] using h3
      rw [this] at h
      cases h
    have a1 : ((32 : UInt8) == c) = false := by simpa using fun e => h2 (.inl e.symm)
    have a2 : ((9 : UInt8) == c) = false := by simpa using fun e => h2 (.inr (.inl e.symm))
    have a3 : ((10 : UInt8) == c) = false := by simpa using fun e => h2 (.inr (.inr (.inl e.symm)))
    have a4 : ((13 : UInt8) == c) = false := by simpa using fun e => h2 (.inr (.inr (.inr e.symm)))
    simp [indexByte, a1, a2, a3, a4]

theorem skip_casesL (l : List UInt8) (b : Nat) (hb : b < l.length) :
    (wsB l[b] = true ∧ skipTo l b = skipTo l (b + 1)) ∨
    (wsB l[b] = false ∧ hasPrefix (l.drop b) [45, 45] = true ∧ ((indexByte (l.drop b) 10 = -1 ∧ skipTo l b = (l.length, true)) ∨ ∃ n : Nat, indexByte (l.drop b) 10 = (n : Int) ∧ b + n + 1 ≤ l.length ∧ skipTo l b = skipTo l (b + n + 1))) ∨
    (wsB l[b] = false ∧ hasPrefix (l.drop b) [45, 45] = false ∧ hasPrefix (l.drop b) [47, 42] = true ∧ b + 2 ≤ l.length ∧
      ((index (l.drop (b + 2)) [42, 47] = -1 ∧ skipTo l b = (b, false)) ∨ ∃ n : Nat, index (l.drop (b + 2)) [42, 47] = (n : Int) ∧ b + (n + 4) ≤ l.length ∧ skipTo l b = skipTo l (b + (n + 4)))) ∨
    (wsB l[b] = false ∧ hasPrefix (l.drop b) [45, 45] = false ∧ hasPrefix (l.drop b) [47, 42] = false ∧ skipTo l b = (b, true)) := by
  cases hw : wsB l[b]
  · right
    cases h1 : hasPrefix (l.drop b) [45, 45]
    · right
      cases h2 : hasPrefix (l.drop b) [47, 42]
      · exact .inr ⟨rfl, rfl, rfl, skip_stop l b hb hw h1 h2⟩
      · obtain ⟨h3, c0, c1⟩ := (pre2_iff l b 47 42).1 h2
        refine .inl ⟨rfl, rfl, rfl, by omega, ?_⟩
        have hge := index_ge (l.drop (b + 2)) [42, 47]
        by_cases hx : index (l.drop (b + 2)) [42, 47] < 0
        · exact .inl ⟨by omega, skip_open l b h3 c0 c1 hx⟩
        · obtain ⟨n, hn⟩ : ∃ n : Nat, index (l.drop (b + 2)) [42, 47] = (n : Int) := ⟨(index (l.drop (b + 2)) [42, 47]).toNat, by omega⟩
          refine .inr ⟨n, hn, ?_, skip_comment l b n h3 c0 c1 hn⟩
          have hr := index_room (l.drop (b + 2)) [42, 47] (by omega)
          rw [hn] at hr
          simp at hr
          omega
    · obtain ⟨h3, c0, c1⟩ := (pre2_iff l b 45 45).1 h1
      refine .inl ⟨rfl, rfl, ?_⟩
      have hge := indexByte_ge (l.drop b) 10
      by_cases hx : indexByte (l.drop b) 10 = -1
      · refine .inl ⟨hx, ?_⟩
        have hno := indexByte_none hx
        rw [skip_line l b l.length h3 c0 c1 (by omega) (Nat.le_refl _) (fun j hj h4 h5 => ?_) (fun h => absurd h (by omega)), skip_end l l.length (Nat.le_refl _)]
        have := hno (j - b)
        rw [List.getElem?_drop, show b + (j - b) = j by omega, List.getElem?_eq_getElem hj] at this
        exact fun e => this (by rw [e])
      · obtain ⟨n, hn⟩ : ∃ n : Nat, indexByte (l.drop b) 10 = (n : Int) := ⟨(indexByte (l.drop b) 10).toNat, by omega⟩
        obtain ⟨hat, hno⟩ := indexByte_some hn
        rw [List.getElem?_drop] at hat
        have hlt : b + n < l.length := by
          rcases Nat.lt_or_ge (b + n) l.length with h6 | h6
          · exact h6
          · rw [List.getElem?_eq_none h6] at hat; cases hat
        rw [List.getElem?_eq_getElem hlt] at hat
        have hat2 : l[b + n] = 10 := by injection hat
        refine .inr ⟨n, hn, by omega, ?_⟩
        rw [skip_line l b (b + n) h3 c0 c1 (by omega) (by omega) (fun j hj h4 h5 => ?_) (fun _ => hat2), skip_ws l (b + n) hlt (by rw [hat2]; rfl)]
        have := hno (j - b) (by omega)
        rw [List.getElem?_drop, show b + (j - b) = j by omega, List.getElem?_eq_getElem hj] at this
        exact fun e => this (by rw [e])
  · exact .inl ⟨rfl, skip_ws l b hb hw⟩

theorem skip_cases (s : ByteArray) (b : Nat) (h : b < s.size) :
    (wsB s[b] = true ∧ skipTo s.data.toList b = skipTo s.data.toList (b + 1)) ∨
    (wsB s[b] = false ∧ hasPrefix (s.data.toList.drop b) [45, 45] = true ∧ ((indexByte (s.data.toList.drop b) 10 = -1 ∧ skipTo s.data.toList b = (s.size, true)) ∨ ∃ n : Nat, indexByte (s.data.toList.drop b) 10 = (n : Int) ∧ b + n + 1 ≤ s.size ∧ skipTo s.data.toList b = skipTo s.data.toList (b + n + 1))) ∨
    (wsB s[b] = false ∧ hasPrefix (s.data.toList.drop b) [45, 45] = false ∧ hasPrefix (s.data.toList.drop b) [47, 42] = true ∧ b + 2 ≤ s.size ∧
      ((index (s.data.toList.drop (b + 2)) [42, 47] = -1 ∧ skipTo s.data.toList b = (b, false)) ∨ ∃ n : Nat, index (s.data.toList.drop (b + 2)) [42, 47] = (n : Int) ∧ b + (n + 4) ≤ s.size ∧ skipTo s.data.toList b = skipTo s.data.toList (b + (n + 4)))) ∨
    (wsB s[b] = false ∧ hasPrefix (s.data.toList.drop b) [45, 45] = false ∧ hasPrefix (s.data.toList.drop b) [47, 42] = false ∧ skipTo s.data.toList b = (b, true)) := by
  have h1 := skip_casesL s.data.toList b (by rw [list_size]; exact h)
  simp only [list_size, list_get s b h] at h1
  exact h1

theorem skipTo_le (l : List UInt8) : ∀ (d a : Nat), l.length - a = d → a ≤ l.length → (skipTo l a).1 ≤ l.length ∧ a ≤ (skipTo l a).1 := by
  intro d
  induction d using Nat.strongRecOn with
  | _ d ih =>
    intro a hd ha
    by_cases hlt : a < l.length
    · have h := skip_casesL l a hlt
      rcases h with ⟨_, h⟩ | ⟨_, _, ⟨_, h⟩ | ⟨n, _, hn, h⟩⟩ | ⟨_, _, _, _, ⟨_, h⟩ | ⟨n, _, hn, h⟩⟩ | ⟨_, _, _, h⟩
      · rw [h]; have := ih (l.length - (a + 1)) (by omega) (a + 1) rfl (by omega); omega
      · rw [h]; show l.length ≤ _ ∧ a ≤ l.length; omega
      · rw [h]; have := ih (l.length - (a + n + 1)) (by omega) (a + n + 1) rfl (by omega); omega
      · rw [h]; show a ≤ _ ∧ a ≤ a; omega
      · rw [h]; have := ih (l.length - (a + (n + 4))) (by omega) (a + (n + 4)) rfl (by omega); omega
      · rw [h]; show a ≤ _ ∧ a ≤ a; omega
    · rw [skip_end l a (by omega)]; show a ≤ _ ∧ a ≤ a; omega
end Go.Proofs.YtfnjcgakcpadiaaGreatDoor
