/-
  The token at a place of a source, as a plain function.
-/
import Derived.Test.YtfnjcgakcpadiaaGreatDoorGLexP
import Derived.Test.YtfnjcgakcpadiaaGreatDoorTokC
namespace Go.Proofs.YtfnjcgakcpadiaaGreatDoor
open Go.RowKit

/-- A token, if it is a valid one. -/
noncomputable def chk (k : Int) (x : ByteArray) (m : Nat) : Option (Int × ByteArray × Nat) := if tokOk k x = true then some (k, x, m) else none

/-- The word ahead. -/
def runR (r : List UInt8) : List UInt8 := r.takeWhile partB
noncomputable def wordR (c : UInt8) (x : ByteArray) : Option (Int × ByteArray × Nat) :=
  if digB c = true then chk 3 x x.size else if keyNo (upAll x) = 0 then chk 2 x x.size else chk 1 (upAll x) x.size
noncomputable def textR (k : Int) (r : Option (List UInt8 × Nat)) : Option (Int × ByteArray × Nat) := match r with | none => none | some y => chk k ⟨y.1.toArray⟩ (y.2 + 1)
noncomputable def signR (r : List UInt8) : Option (Int × ByteArray × Nat) :=
  if 2 ≤ r.length ∧ signOk ⟨(r.take 2).toArray⟩ = true then chk 5 ⟨(r.take 2).toArray⟩ 2 else chk 5 ⟨(r.take 1).toArray⟩ 1

/-- The token ahead: its kind, its text, how many bytes it takes. -/
noncomputable def tokR (r : List UInt8) : Option (Int × ByteArray × Nat) :=
  match r with
  | [] => none
  | c :: t => if partB c = true then wordR c ⟨(runR (c :: t)).toArray⟩ else if c = 34 then textR 2 (quotR 34 t) else if c = 39 then textR 4 (quotR 39 t) else signR (c :: t)

theorem tok_word (s : ByteArray) (a e : Nat) (ha : a < s.size) (hae : a ≤ e) (hes : e ≤ s.size) (hp : partB s[a] = true) (hall : ∀ i (h : i < s.size), a ≤ i → i < e → partB s[i] = true) (hend : ∀ h : e < s.size, partB s[e] = false) :
    tokR (s.data.toList.drop a) = wordR s[a] (s.extract a e) ∧ (s.extract a e).size = e - a := by
  have hl := list_size s
  have hg := list_get s a ha (by omega)
  have hrun : runR (s.data.toList.drop a) = (s.data.toList.drop a).take (e - a) := by
    unfold runR
    have hlen := takeWhile_run partB (s.data.toList.drop a) (e - a) (by simp; omega) (fun j hj hje => by
      rw [List.getElem_drop, list_get s (a + j) (by simp at hj; omega)]
      exact hall (a + j) _ (by omega) (by omega)) (fun hk => by
      rw [List.getElem_drop]
      simp only [show a + (e - a) = e by omega]
      rw [list_get s e (by simp at hk; omega)]
      exact hend _)
    have hpre : (s.data.toList.drop a).takeWhile partB <+: s.data.toList.drop a := List.takeWhile_prefix _
    rw [List.prefix_iff_eq_take] at hpre
    rw [hlen] at hpre
    exact hpre
  have hx : (⟨(runR (s.data.toList.drop a)).toArray⟩ : ByteArray) = s.extract a e := by
    rw [hrun, ← Lib.extract_data]
  refine ⟨?_, by simp [ByteArray.size_extract]; omega⟩
  rw [← hx]
  have hcons : s.data.toList.drop a = s[a] :: s.data.toList.drop (a + 1) := by rw [List.drop_eq_getElem_cons (by omega), hg]
  generalize s.data.toList.drop a = r at hcons
  subst hcons
  show (if partB s[a] = true then _ else _) = _
  rw [if_pos hp]

theorem tok_text (s : ByteArray) (a : Nat) (ha : a < s.size) (hp : partB s[a] = false) (q : UInt8) (k : Int) (hq : q = 34 ∧ k = 2 ∨ q = 39 ∧ k = 4) (hc : s[a] = q) : tokR (s.data.toList.drop a) = textR k (quotR q (s.data.toList.drop (a + 1))) := by
  have hl := list_size s
  have hg := list_get s a ha (by omega)
  have hcons : s.data.toList.drop a = s[a] :: s.data.toList.drop (a + 1) := by rw [List.drop_eq_getElem_cons (by omega), hg]
  rw [hcons]
  show (if partB s[a] = true then _ else if s[a] = 34 then textR 2 _ else if s[a] = 39 then textR 4 _ else _) = _
  rw [if_neg (by rw [hp]; simp), hc]
  rcases hq with ⟨rfl, rfl⟩ | ⟨rfl, rfl⟩
  · rw [if_pos rfl]
  · rw [if_neg (by decide), if_pos rfl]

theorem tok_sign (s : ByteArray) (a : Nat) (ha : a < s.size) (hp : partB s[a] = false) (h1 : s[a] ≠ 34) (h2 : s[a] ≠ 39) : tokR (s.data.toList.drop a) = signR (s.data.toList.drop a) := by
  have hl := list_size s
  have hg := list_get s a ha (by omega)
  have hcons : s.data.toList.drop a = s[a] :: s.data.toList.drop (a + 1) := by rw [List.drop_eq_getElem_cons (by omega), hg]
  generalize s.data.toList.drop a = r at hcons
  subst hcons
  show (if partB s[a] = true then _ else if s[a] = 34 then _ else if s[a] = 39 then _ else _) = _
  rw [if_neg (by rw [hp]; simp), if_neg h1, if_neg h2]

theorem ext_arr (s : ByteArray) (a b : Nat) : s.extract a b = ⟨((s.data.toList.drop a).take (b - a)).toArray⟩ := by
  rw [← Lib.extract_data]

theorem sign_two (s : ByteArray) (a : Nat) (h : a + 2 ≤ s.size) (hs : signOk (s.extract a (a + 2)) = true) : signR (s.data.toList.drop a) = chk 5 (s.extract a (a + 2)) 2 := by
  have hl := list_size s
  have e : s.extract a (a + 2) = ⟨((s.data.toList.drop a).take 2).toArray⟩ := by rw [ext_arr]; congr 3; omega
  rw [e] at hs ⊢
  unfold signR
  rw [if_pos ⟨by simp; omega, hs⟩]
theorem sign_one (s : ByteArray) (a : Nat) (_h : a < s.size) (hs : a + 2 ≤ s.size → signOk (s.extract a (a + 2)) = false) : signR (s.data.toList.drop a) = chk 5 (s.extract a (a + 1)) 1 := by
  have hl := list_size s
  have e : s.extract a (a + 2) = ⟨((s.data.toList.drop a).take 2).toArray⟩ := by rw [ext_arr]; congr 3; omega
  have e1 : s.extract a (a + 1) = ⟨((s.data.toList.drop a).take 1).toArray⟩ := by rw [ext_arr]; congr 3; omega
  rw [e] at hs
  rw [e1]
  unfold signR
  rw [if_neg]
  rintro ⟨h1, h2⟩
  rw [hs (by simp at h1; omega)] at h2
  cases h2

theorem chk_some {k : Int} {x : ByteArray} {m : Nat} {t : Int × ByteArray × Nat} (h : chk k x m = some t) : t = (k, x, m) ∧ tokOk k x = true := by
  unfold chk at h
  split at h
  · exact ⟨(Option.some.inj h).symm, ‹_›⟩
  · cases h

/-- What l3One, readToken hand back. -/
def TokS (r : Option (Int × ByteArray × Nat)) (a : Nat) (e : Ending) : Prop :=
  match r with
  | none => ∃ (K : Int) (X : ByteArray) (A : Int), e = .returned (.tuple #[.agg #[.int .i64 K, .string X, .int .i64 A], .int .i64 (-1)])
  | some t => e = .returned (.tuple #[.agg #[.int .i64 t.1, .string t.2.1, .int .i64 (a : Int)], .int .i64 ((a : Int) + t.2.2)])
def TokI (r : Option (Int × ByteArray × Nat)) (a : Nat) (e : Ending) : Prop :=
  match r with
  | none => ∃ (K : Int) (X : ByteArray) (A E : Int), e = .returned (.tuple #[.agg #[.int .i64 K, .string X, .int .i64 A], .int .i64 E, .bool false])
  | some t => e = .returned (.tuple #[.agg #[.int .i64 t.1, .string t.2.1, .int .i64 (a : Int)], .int .i64 ((a : Int) + t.2.2), .bool true])

theorem TokS.chk_no {k : Int} {x : ByteArray} {m a : Nat} (h : tokOk k x = false) {K : Int} {X : ByteArray} {A : Int} : TokS (chk k x m) a (.returned (.tuple #[.agg #[.int .i64 K, .string X, .int .i64 A], .int .i64 (-1)])) := by
  unfold chk
  rw [if_neg (by rw [h]; simp)]
  exact ⟨_, _, _, rfl⟩
theorem TokS.chk_yes {k : Int} {x : ByteArray} {m a : Nat} (h : tokOk k x = true) {E : Int} (hE : E = (a : Int) + m) : TokS (chk k x m) a (.returned (.tuple #[.agg #[.int .i64 k, .string x, .int .i64 (a : Int)], .int .i64 E])) := by
  unfold chk
  rw [if_pos h, hE]
  rfl
theorem TokI.chk_no {k : Int} {x : ByteArray} {m a : Nat} (h : tokOk k x = false) {K : Int} {X : ByteArray} {A E : Int} : TokI (chk k x m) a (.returned (.tuple #[.agg #[.int .i64 K, .string X, .int .i64 A], .int .i64 E, .bool false])) := by
  unfold chk
  rw [if_neg (by rw [h]; simp)]
  exact ⟨_, _, _, _, rfl⟩
theorem TokI.chk_yes {k : Int} {x : ByteArray} {m a : Nat} (h : tokOk k x = true) {E : Int} (hE : E = (a : Int) + m) : TokI (chk k x m) a (.returned (.tuple #[.agg #[.int .i64 k, .string x, .int .i64 (a : Int)], .int .i64 E, .bool true])) := by
  unfold chk
  rw [if_pos h, hE]
  rfl
end Go.Proofs.YtfnjcgakcpadiaaGreatDoor
