/-
  What lies between the tokens of a source, and where a quoted text ends: plain functions of rows of bytes.
-/
import Derived.Lib.IndexMore
import Derived.Lib.IndexBytes
import Derived.Lib.Strings
import Derived.Lib.Bytes2
namespace Go.Proofs.YtfnjcgakcpadiaaDoor
open Go.Lib

/-- White space. -/
def wsB (c : UInt8) : Bool := c == 32 || c == 9 || c == 10 || c == 13

/-- How many bytes lie ahead of the next token; false: a comment without an end begins there. -/
def skipN (r : List UInt8) : Nat × Bool :=
  match r with
  | [] => (0, true)
  | c :: t =>
    if wsB c then ((skipN t).1 + 1, (skipN t).2)
    else if hasPrefix (c :: t) [45, 45] then ((skipN ((c :: t).drop (2 + (((c :: t).drop 2).takeWhile (· != 10)).length))).1 + (2 + (((c :: t).drop 2).takeWhile (· != 10)).length), (skipN ((c :: t).drop (2 + (((c :: t).drop 2).takeWhile (· != 10)).length))).2)
    else if hasPrefix (c :: t) [47, 42] then
      (if index ((c :: t).drop 2) [42, 47] < 0 then (0, false)
       else ((skipN ((c :: t).drop ((index ((c :: t).drop 2) [42, 47]).toNat + 4))).1 + ((index ((c :: t).drop 2) [42, 47]).toNat + 4), (skipN ((c :: t).drop ((index ((c :: t).drop 2) [42, 47]).toNat + 4))).2))
    else (0, true)
termination_by r.length
decreasing_by all_goals (simp; try omega)

/-- The same from a place on, as places. -/
def skipTo (l : List UInt8) (a : Nat) : Nat × Bool := ((skipN (l.drop a)).1 + a, (skipN (l.drop a)).2)

theorem skip_end (l : List UInt8) (a : Nat) (h : l.length ≤ a) : skipTo l a = (a, true) := by
  unfold skipTo
  rw [List.drop_eq_nil_of_le h, skipN]
  simp

theorem skip_ws (l : List UInt8) (a : Nat) (h : a < l.length) (hw : wsB l[a] = true) : skipTo l a = skipTo l (a + 1) := by
  unfold skipTo
  rw [List.drop_eq_getElem_cons h, skipN, if_pos hw]
  simp only [Prod.mk.injEq, and_true]
  omega

theorem takeWhile_run (p : UInt8 → Bool) : ∀ (r : List UInt8) (k : Nat), k ≤ r.length → (∀ j (h : j < r.length), j < k → p r[j] = true) → (∀ h : k < r.length, p r[k] = false) → (r.takeWhile p).length = k
  | [], k, hk, _, _ => by simp at hk; simp [hk]
  | c :: t, 0, _, _, h0 => by
    have := h0 (by simp)
    simp at this
    simp [this]
  | c :: t, k + 1, hk, hlt, h0 => by
    have hc := hlt 0 (by simp) (by omega)
    simp at hc
    rw [List.takeWhile_cons, hc]
    simp only [if_true, List.length_cons, Nat.add_right_cancel_iff]
    exact takeWhile_run p t k (by simpa using hk) (fun j h hj => hlt (j + 1) (by simp; omega) (by omega)) (fun h => h0 (by simp; omega))

theorem pre2_iff (l : List UInt8) (a : Nat) (x y : UInt8) : hasPrefix (l.drop a) [x, y] = true ↔ ∃ h : a + 1 < l.length, l[a] = x ∧ l[a + 1] = y := by
  constructor
  · intro h
    have hle := hasPrefix_le h
    simp at hle
    have h1 : a + 1 < l.length := by omega
    refine ⟨h1, ?_⟩
    rw [List.drop_eq_getElem_cons (by omega), List.drop_eq_getElem_cons h1] at h
    simp [hasPrefix, List.isPrefixOf] at h
    exact ⟨h.1.symm, h.2.symm⟩
  · rintro ⟨h1, rfl, rfl⟩
    rw [List.drop_eq_getElem_cons (show a < l.length by omega), List.drop_eq_getElem_cons h1]
    simp [hasPrefix, List.isPrefixOf]

theorem pre2_no (l : List UInt8) (a : Nat) (x y : UInt8) (h : ¬ ∃ h : a + 1 < l.length, l[a] = x ∧ l[a + 1] = y) : hasPrefix (l.drop a) [x, y] = false := by
  cases hp : hasPrefix (l.drop a) [x, y]
  · rfl
  · exact absurd ((pre2_iff l a x y).1 hp) h

theorem skip_line (l : List UInt8) (a b : Nat) (h : a + 1 < l.length) (h0 : l[a] = 45) (h1 : l[a + 1] = 45) (hab : a ≤ b) (hb : b ≤ l.length)
    (hno : ∀ j (h : j < l.length), a ≤ j → j < b → l[j] ≠ 10) (hend : ∀ h : b < l.length, l[b] = 10) : skipTo l a = skipTo l b := by
  have hp : hasPrefix (l.drop a) [45, 45] = true := (pre2_iff l a 45 45).2 ⟨h, h0, h1⟩
  have hb2 : a + 2 ≤ b := by
    rcases Nat.lt_or_ge b (a + 2) with hlt | hge
    · exfalso
      rcases Nat.lt_or_ge b (a + 1) with hlt2 | hge2
      · have e : b = a := by omega
        subst e
        have := hend (by omega)
        rw [h0] at this
        cases this
      · have e : b = a + 1 := by omega
        subst e
        have := hend h
        rw [h1] at this
        cases this
    · exact hge
  have hrun : (((l.drop a).drop 2).takeWhile (· != 10)).length = b - (a + 2) := by
    rw [List.drop_drop]
    refine takeWhile_run _ _ _ (by simp; omega) (fun j hj hjb => ?_) (fun hk => ?_)
    · simp only [List.getElem_drop]
      have := hno (a + 2 + j) (by simp at hj; omega) (by omega) (by omega)
      simpa using this
    · simp only [List.getElem_drop]
      have e : a + 2 + (b - (a + 2)) = b := by omega
      simp only [e]
      have := hend (by simp at hk; omega)
      simp [this]
  have hnw : wsB (l[a]'(by omega)) = false := by rw [h0]; rfl
  unfold skipTo
  have hcons : l.drop a = l[a]'(by omega) :: l.drop (a + 1) := List.drop_eq_getElem_cons (by omega)
  generalize hr : l.drop a = r at hp hrun hcons
  subst hcons
  rw [skipN, if_neg (by rw [hnw]; simp), if_pos hp, hrun, ← hr, List.drop_drop]
  have e : a + (2 + (b - (a + 2))) = b := by omega
  rw [e]
  simp only [Prod.mk.injEq, and_true]
  omega

theorem skip_open (l : List UInt8) (a : Nat) (h : a + 1 < l.length) (h0 : l[a] = 47) (h1 : l[a + 1] = 42) (hi : index (l.drop (a + 2)) [42, 47] < 0) : skipTo l a = (a, false) := by
  have hp : hasPrefix (l.drop a) [47, 42] = true := (pre2_iff l a 47 42).2 ⟨h, h0, h1⟩
  have hq : hasPrefix (l.drop a) [45, 45] = false := pre2_no l a 45 45 (by rintro ⟨_, h2, _⟩; rw [h0] at h2; cases h2)
  have hi' : index ((l.drop a).drop 2) [42, 47] < 0 := by rw [List.drop_drop]; exact hi
  have hnw : wsB (l[a]'(by omega)) = false := by rw [h0]; rfl
  unfold skipTo
  have hcons : l.drop a = l[a]'(by omega) :: l.drop (a + 1) := List.drop_eq_getElem_cons (by omega)
  generalize hr : l.drop a = r at hp hq hi' hcons
  subst hcons
  rw [skipN, if_neg (by rw [hnw]; simp), if_neg (by rw [hq]; simp), if_pos hp, if_pos hi']
  simp

theorem skip_comment (l : List UInt8) (a i : Nat) (h : a + 1 < l.length) (h0 : l[a] = 47) (h1 : l[a + 1] = 42) (hi : index (l.drop (a + 2)) [42, 47] = (i : Int)) : skipTo l a = skipTo l (a + (i + 4)) := by
  have hp : hasPrefix (l.drop a) [47, 42] = true := (pre2_iff l a 47 42).2 ⟨h, h0, h1⟩
  have hq : hasPrefix (l.drop a) [45, 45] = false := pre2_no l a 45 45 (by rintro ⟨_, h2, _⟩; rw [h0] at h2; cases h2)
  have hi' : index ((l.drop a).drop 2) [42, 47] = (i : Int) := by rw [List.drop_drop]; exact hi
  have hnw : wsB (l[a]'(by omega)) = false := by rw [h0]; rfl
  unfold skipTo
  have hcons : l.drop a = l[a]'(by omega) :: l.drop (a + 1) := List.drop_eq_getElem_cons (by omega)
  generalize hr : l.drop a = r at hp hq hi' hcons
  subst hcons
  rw [skipN, if_neg (by rw [hnw]; simp), if_neg (by rw [hq]; simp), if_pos hp, hi', if_neg (by omega), Int.toNat_natCast, ← hr, List.drop_drop]
  simp only [Prod.mk.injEq, and_true]
  omega

theorem skip_stop (l : List UInt8) (a : Nat) (h : a < l.length) (hw : wsB l[a] = false) (hq : hasPrefix (l.drop a) [45, 45] = false) (hp : hasPrefix (l.drop a) [47, 42] = false) : skipTo l a = (a, true) := by
  unfold skipTo
  have hcons : l.drop a = l[a]'h :: l.drop (a + 1) := List.drop_eq_getElem_cons h
  generalize hr : l.drop a = r at hp hq hcons
  subst hcons
  rw [skipN, if_neg (by rw [hw]; simp), if_neg (by rw [hq]; simp), if_neg (by rw [hp]; simp)]
  simp

/-- The text in quotes, and how many bytes it took, the closing quote with it. -/
def quotR (q : UInt8) : List UInt8 → Option (List UInt8 × Nat)
  | [] => none
  | [c] => if c = q then some ([], 1) else none
  | c :: d :: t =>
    if c = q then (if d = q then (quotR q t).map (fun x => (q :: x.1, x.2 + 2)) else some ([], 1))
    else (quotR q (d :: t)).map (fun x => (c :: x.1, x.2 + 1))

theorem quotR_other (q c : UInt8) (t : List UInt8) (h : c ≠ q) : quotR q (c :: t) = (quotR q t).map (fun x => (c :: x.1, x.2 + 1)) := by
  cases t with
  | nil => simp [quotR, h]
  | cons d t => rw [quotR, if_neg h]
theorem quotR_two (q : UInt8) (t : List UInt8) : quotR q (q :: q :: t) = (quotR q t).map (fun x => (q :: x.1, x.2 + 2)) := by
  rw [quotR, if_pos rfl, if_pos rfl]
theorem quotR_end (q : UInt8) (t : List UInt8) (h : ∀ h : 0 < t.length, t[0] ≠ q) : quotR q (q :: t) = some ([], 1) := by
  cases t with
  | nil => simp [quotR]
  | cons d t =>
    have := h (by simp)
    simp at this
    rw [quotR, if_pos rfl, if_neg this]
end Go.Proofs.YtfnjcgakcpadiaaDoor
