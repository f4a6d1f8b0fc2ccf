/-
  The tokens of a source, as a plain function.
-/
import Derived.Test.YtfnjcgakcpadiaaGreatDoorTB
namespace Go.Proofs.YtfnjcgakcpadiaaGreatDoor
open Go.RowKit

/-- A token: its kind, its text, its place. -/
abbrev Tk := Int × ByteArray × Nat

theorem skipTo_ge (l : List UInt8) (a : Nat) : a ≤ (skipTo l a).1 := by unfold skipTo; show a ≤ _ + a; omega

/-- The tokens from a place on, and -1; or none, and the place of the first that is no token. -/
noncomputable def lexAt (l : List UInt8) (a : Nat) : List Tk × Int :=
  if (skipTo l a).2 = false then ([], ((skipTo l a).1 : Int))
  else if h : (skipTo l a).1 < l.length then
    match tokR (l.drop (skipTo l a).1) with
    | none => ([], ((skipTo l a).1 : Int))
    | some t => if (lexAt l ((skipTo l a).1 + 1 + (t.2.2 - 1))).2 = -1 then ((t.1, t.2.1, (skipTo l a).1) :: (lexAt l ((skipTo l a).1 + 1 + (t.2.2 - 1))).1, -1) else ([], (lexAt l ((skipTo l a).1 + 1 + (t.2.2 - 1))).2)
  else ([], -1)
termination_by l.length - a
decreasing_by all_goals (have := skipTo_ge l a; omega)

theorem lex_bad {l : List UInt8} {a p : Nat} (h : skipTo l a = (p, false)) : lexAt l a = ([], (p : Int)) := by
  rw [lexAt, h, if_pos rfl]
theorem lex_end {l : List UInt8} {a p : Nat} (h : skipTo l a = (p, true)) (hp : l.length ≤ p) : lexAt l a = ([], -1) := by
  rw [lexAt, h, if_neg (by simp), dif_neg (by show ¬ p < l.length; omega)]
theorem lex_no {l : List UInt8} {a p : Nat} (h : skipTo l a = (p, true)) (hp : p < l.length) (ht : tokR (l.drop p) = none) : lexAt l a = ([], (p : Int)) := by
  rw [lexAt, h, if_neg (by simp), dif_pos (by exact hp), ht]
/-- What stands behind tokens that have been read. -/
def lexPre (pre : List Tk) (r : List Tk × Int) : List Tk × Int := if r.2 = -1 then (pre ++ r.1, -1) else ([], r.2)
theorem lexPre_nil (r : List Tk × Int) (h : r.2 = -1 ∨ r.1 = []) : lexPre [] r = r := by
  obtain ⟨x, y⟩ := r
  unfold lexPre
  by_cases hy : y = -1
  · subst hy; rfl
  · rw [if_neg hy]
    rcases h with h | h
    · exact absurd h hy
    · simp at h; rw [h]
theorem lex_tok {l : List UInt8} {a p : Nat} (h : skipTo l a = (p, true)) (hp : p < l.length) {t : Tk} (ht : tokR (l.drop p) = some t) (h1 : 1 ≤ t.2.2) :
    lexAt l a = lexPre [(t.1, t.2.1, p)] (lexAt l (p + t.2.2)) := by
  have e : p + 1 + (t.2.2 - 1) = p + t.2.2 := by omega
  rw [lexAt, h, if_neg (by simp), dif_pos (by exact hp), ht]
  show (if (lexAt l (p + 1 + (t.2.2 - 1))).2 = -1 then _ else _) = _
  rw [e]
  rfl
theorem lexPre_pre (a b : List Tk) (r : List Tk × Int) : lexPre a (lexPre b r) = lexPre (a ++ b) r := by
  unfold lexPre
  by_cases h : r.2 = -1
  · rw [if_pos h, if_pos (by rfl), if_pos h]
    simp
  · rw [if_neg h]
    show (if r.2 = -1 then _ else _) = _
    rw [if_neg h, if_neg h]
theorem lexPre_no (pre : List Tk) (p : Nat) : lexPre pre ([], (p : Int)) = ([], (p : Int)) := by
  unfold lexPre
  rw [if_neg (by show ¬ (p : Int) = -1; omega)]
theorem lexPre_end (pre : List Tk) : lexPre pre ([], -1) = (pre, -1) := by
  unfold lexPre
  rw [if_pos (by rfl)]
  simp
theorem lex_shape (l : List UInt8) (a : Nat) : (lexAt l a).2 = -1 ∨ (lexAt l a).1 = [] := by
  rw [lexAt]
  split
  · exact .inr rfl
  · split
    · split
      · exact .inr rfl
      · split
        · exact .inl rfl
        · exact .inr rfl
    · exact .inl rfl

theorem chk_len {k : Int} {x : ByteArray} {m : Nat} {t : Tk} (h : chk k x m = some t) : t.2.2 = m := by rw [(chk_some h).1]
theorem tok_pos {r : List UInt8} {t : Tk} (h : tokR r = some t) : 1 ≤ t.2.2 ∧ t.2.2 ≤ r.length := by
  match r, h with
  | [], h => cases h
  | c :: q, h =>
    unfold tokR at h
    split at h
    · cases h
    · rename_i c' t' he
      injection he with he1 he2
      subst he1 he2
      split at h
      · rename_i hp
        have hx : 1 ≤ (⟨(runR (c :: q)).toArray⟩ : ByteArray).size ∧ (⟨(runR (c :: q)).toArray⟩ : ByteArray).size ≤ (c :: q).length := by
          have e : (⟨(runR (c :: q)).toArray⟩ : ByteArray).size = (runR (c :: q)).length := rfl
          rw [e]
          unfold runR
          constructor
          · rw [List.takeWhile_cons, hp]; simp
          · exact (List.takeWhile_prefix _).length_le
        unfold wordR at h
        split at h
        · rw [chk_len h]; exact hx
        · split at h
          · rw [chk_len h]; exact hx
          · rw [chk_len h]; exact hx
      · split at h
        · cases hy : quotR 34 q with
          | none => rw [hy] at h; cases h
          | some y =>
            rw [hy] at h
            have := quot_len 34 _ q (Nat.le_refl _) y hy
            rw [chk_len h]
            simp
            omega
        · split at h
          · cases hy : quotR 39 q with
            | none => rw [hy] at h; cases h
            | some y =>
              rw [hy] at h
              have := quot_len 39 _ q (Nat.le_refl _) y hy
              rw [chk_len h]
              simp
              omega
          · unfold signR at h
            split at h
            · rename_i h2
              rw [chk_len h]
              omega
            · rw [chk_len h]
              simp

/-- What Lex says. -/
noncomputable def lexS (s : ByteArray) : List Tk × Int := if 2000 < s.size then ([], 2000) else lexAt s.data.toList 0

/-- The cells of tokens. -/
def tkCells (l : List Tk) : List Value := l.flatMap fun t => [.int .i64 t.1, .string t.2.1, .int .i64 (t.2.2 : Int)]
theorem tkCells_app (a b : List Tk) : tkCells (a ++ b) = tkCells a ++ tkCells b := by unfold tkCells; rw [List.flatMap_append]
theorem tkCells_len (l : List Tk) : (tkCells l).length = l.length * 3 := by
  induction l with
  | nil => rfl
  | cons t l ih =>
    have e : tkCells (t :: l) = [.int .i64 t.1, .string t.2.1, .int .i64 (t.2.2 : Int)] ++ tkCells l := rfl
    rw [e, List.length_append, ih]
    simp
    omega
theorem tkCells_get (l : List Tk) (i : Nat) (hi : i < l.length) : (tkCells l)[i * 3]? = some (.int .i64 l[i].1) ∧ (tkCells l)[i * 3 + 1]? = some (.string l[i].2.1) ∧ (tkCells l)[i * 3 + 2]? = some (.int .i64 (l[i].2.2 : Int)) := by
  induction l generalizing i with
  | nil => simp at hi
  | cons t l ih =>
    have e : tkCells (t :: l) = [.int .i64 t.1, .string t.2.1, .int .i64 (t.2.2 : Int)] ++ tkCells l := rfl
    rw [e]
    cases i with
    | zero => simp
    | succ i =>
      have := ih i (by simpa using hi)
      have e1 : (i + 1) * 3 = i * 3 + 3 := by omega
      rw [e1, List.getElem?_append_right (by simp), List.getElem?_append_right (by simp), List.getElem?_append_right (by simp)]
      simpa using this
theorem Tryz.infoTok : (Tryz.prog.info? 25).map (fun i => (i.zero, i.size, i.bytes)) = some (some (.agg #[.int .i64 0, .string ⟨#[]⟩, .int .i64 0]), 3, 32) := by kernel_rfl
end Go.Proofs.YtfnjcgakcpadiaaGreatDoor
