/-
  Lex's answers: what the laws ask of them. A plain law.
-/
import Derived.Test.YtfnjcgakcpadiaaGreatDoorLexG
import Derived.Test.YtfnjcgakcpadiaaGreatDoorLexC
import Derived.Test.YtfnjcgakcpadiaaGreatDoorTxt
namespace Go.Proofs.YtfnjcgakcpadiaaGreatDoor
open Go.RowKit

theorem tok_good {r : List UInt8} {t : Tk} (h : tokR r = some t) : tokOk t.1 t.2.1 = true := by
  have hc : ∀ {k x m}, chk k x m = some t → tokOk t.1 t.2.1 = true := fun {k x m} h => by
    obtain ⟨rfl, h2⟩ := chk_some h
    exact h2
  match r, h with
  | c :: q, h =>
    have hdef : tokR (c :: q) = if partB c = true then wordR c ⟨(runR (c :: q)).toArray⟩ else if c = 34 then textR 2 (quotR 34 q) else if c = 39 then textR 4 (quotR 39 q) else signR (c :: q) := rfl
    rw [hdef] at h
    split at h
    · unfold wordR at h
      split at h
      · exact hc h
      · split at h
        · exact hc h
        · exact hc h
    · split at h
      · cases hy : quotR 34 q with
        | none => rw [hy] at h; cases h
        | some y => rw [hy] at h; exact hc h
      · split at h
        · cases hy : quotR 39 q with
          | none => rw [hy] at h; cases h
          | some y => rw [hy] at h; exact hc h
        · unfold signR at h
          split at h
          · exact hc h
          · exact hc h

theorem Stops.le_len {l : List UInt8} {a b : Nat} {ts : List Tk} (h : Stops l a b ts) (ha : a ≤ l.length) : b ≤ l.length := by
  induction h with
  | @here a b ok h =>
    have := skipTo_le l _ a rfl ha
    rw [h] at this
    exact this.1
  | @tok a b p t ts h hp ht hn ih =>
    have hm := (tok_pos ht).2
    rw [List.length_drop] at hm
    exact ih (by omega)

theorem lexS_bad (s : ByteArray) (hs : s.size ≤ 2000) (toks : List Tk) (bad : Int) (h : lexS s = (toks, bad)) (hb : bad ≠ -1) :
    ∃ p : Nat, bad = (p : Int) ∧ p ≤ s.size ∧ toks = [] ∧ ∃ ts, lexS (s.extract 0 p) = (ts, -1) := by
  rw [lexS_of s hs] at h
  have hl := list_size s
  have hsh := lex_shape s.data.toList 0
  rw [h] at hsh
  rcases hsh with h1 | h1
  · exact absurd h1 hb
  · simp only at h1
    subst h1
    have hex : ∀ (l : List UInt8) (d a : Nat) (bad : Int), l.length - a = d → (lexAt l a).2 = bad → bad ≠ -1 → ∃ p : Nat, bad = (p : Int) := by
      intro l d
      induction d using Nat.strongRecOn with
      | _ d ih =>
        intro a bad hd h hb
        obtain ⟨q, ok, hsk⟩ : ∃ q ok, skipTo l a = (q, ok) := ⟨_, _, rfl⟩
        have hge := skipTo_ge l a
        rw [hsk] at hge
        simp only at hge
        cases ok
        · rw [lex_bad hsk] at h; exact ⟨q, h.symm⟩
        · by_cases hq : q < l.length
          · cases ht : tokR (l.drop q) with
            | none => rw [lex_no hsk hq ht] at h; exact ⟨q, h.symm⟩
            | some t =>
              have hm := tok_pos ht
              rw [lex_tok hsk hq ht hm.1] at h
              unfold lexPre at h
              split at h
              · exact absurd h.symm hb
              · exact ih (l.length - (q + t.2.2)) (by omega) (q + t.2.2) bad rfl h hb
          · rw [lex_end hsk (by omega)] at h; exact absurd h.symm hb
    obtain ⟨p, rfl⟩ := hex s.data.toList _ 0 bad rfl (by rw [h]) hb
    obtain ⟨ts, hts⟩ := stop_bad s.data.toList _ 0 p rfl h
    have hle := hts.le_len (by omega)
    refine ⟨p, rfl, by omega, rfl, ts, ?_⟩
    rw [lexS_of _ (by simp [ByteArray.size_extract]; omega), Lib.extract_data]
    simp only [List.drop_zero, Nat.sub_zero]
    exact lex_stop hts hle

theorem lex_facts (l : List UInt8) : ∀ (d a : Nat) (toks : List Tk), l.length - a = d → lexAt l a = (toks, -1) →
    (∀ i (h : i < toks.length), tokOk toks[i].1 toks[i].2.1 = true ∧ a ≤ toks[i].2.2 ∧ toks[i].2.2 < l.length) ∧ ∀ i (h : i + 1 < toks.length), toks[i].2.2 < toks[i + 1].2.2 := by
  intro d
  induction d using Nat.strongRecOn with
  | _ d ih =>
    intro a toks hd h
    obtain ⟨q, ok, hs⟩ : ∃ q ok, skipTo l a = (q, ok) := ⟨_, _, rfl⟩
    have hge := skipTo_ge l a
    rw [hs] at hge
    simp only at hge
    cases ok
    · rw [lex_bad hs] at h
      injection h with _ h
      omega
    · by_cases hq : q < l.length
      · cases ht : tokR (l.drop q) with
        | none =>
          rw [lex_no hs hq ht] at h
          injection h with _ h
          omega
        | some t =>
          have hm := tok_pos ht
          rw [lex_tok hs hq ht hm.1] at h
          unfold lexPre at h
          split at h
          · rename_i h9
            injection h with h _
            subst h
            obtain ⟨i1, i2⟩ := ih (l.length - (q + t.2.2)) (by omega) (q + t.2.2) (lexAt l (q + t.2.2)).1 rfl (by rw [← h9])
            refine ⟨fun i hi => ?_, fun i hi => ?_⟩
            · cases i with
              | zero =>
                have hz : tokOk t.1 t.2.1 = true := tok_good ht
                exact ⟨hz, hge, hq⟩
              | succ i =>
                have hi' : i < (lexAt l (q + t.2.2)).1.length := by simpa using hi
                obtain ⟨j1, j2, j3⟩ := i1 i hi'
                exact ⟨j1, (by show a ≤ ((lexAt l (q + t.2.2)).1[i]'hi').2.2; omega), j3⟩
            · cases i with
              | zero =>
                have hi' : 0 < (lexAt l (q + t.2.2)).1.length := by simpa using hi
                obtain ⟨_, j2, _⟩ := i1 0 hi'
                show q < ((lexAt l (q + t.2.2)).1[0]'hi').2.2
                omega
              | succ i =>
                have hi' : i + 1 < (lexAt l (q + t.2.2)).1.length := by simpa using hi
                exact i2 i hi'
          · injection h with _ h
            contradiction
      · rw [lex_end hs (by omega)] at h
        injection h with h _
        subst h
        exact ⟨fun i hi => absurd hi (by simp), fun i hi => absurd hi (by simp)⟩

theorem lexS_good (s : ByteArray) (toks : List Tk) (h : lexS s = (toks, -1)) :
    s.size ≤ 2000 ∧ (∀ i (h : i < toks.length), tokOk toks[i].1 toks[i].2.1 = true ∧ toks[i].2.2 < s.size) ∧ (∀ i (h : i + 1 < toks.length), toks[i].2.2 < toks[i + 1].2.2) ∧
    ∀ k (hk : k < toks.length), lexS (s.extract 0 toks[k].2.2) = (toks.take k, -1) := by
  have hl := list_size s
  have hs : s.size ≤ 2000 := by
    rcases Nat.lt_or_ge 2000 s.size with h1 | h1
    · unfold lexS at h
      rw [if_pos h1] at h
      injection h with _ h
      cases h
    · exact h1
  rw [lexS_of s hs] at h
  obtain ⟨i1, i2⟩ := lex_facts s.data.toList _ 0 toks rfl h
  refine ⟨hs, fun i hi => ⟨(i1 i hi).1, by have := (i1 i hi).2.2; omega⟩, i2, fun k hk => ?_⟩
  have hst := stop_tok s.data.toList _ 0 toks rfl h k hk
  have hle := hst.le_len (by omega)
  rw [lexS_of _ (by simp [ByteArray.size_extract]; omega), Lib.extract_data]
  simp only [List.drop_zero, Nat.sub_zero]
  exact lex_stop hst hle
end Go.Proofs.YtfnjcgakcpadiaaGreatDoor
