/-
  One step of the passing over, at a string.
-/
import Derived.Test.YtfnjcgakcpadiaaDoorLexL
import Derived.Lib.IndexLaws
namespace Go.Proofs.YtfnjcgakcpadiaaDoor
open Go.Lib

theorem list_size (s : ByteArray) : s.data.toList.length = s.size := Array.length_toList
theorem list_get (s : ByteArray) (j : Nat) (_hj : j < s.size) (h' : j < s.data.toList.length) : s.data.toList[j] = s[j] := by
  simp [ByteArray.getElem_eq_getElem_data]

theorem ws_idx (c : UInt8) : (wsB c = true → 0 ≤ indexByte [32, 9, 10, 13] c) ∧ (wsB c = false → indexByte [32, 9, 10, 13] c < 0) := by
  unfold wsB
  constructor
  · intro h
    have h2 : c = 32 ∨ c = 9 ∨ c = 10 ∨ c = 13 := by simpa [or_assoc] using h
    rcases h2 with rfl | rfl | rfl | rfl <;> decide
  · intro h
    have h2 : ¬ (c = 32 ∨ c = 9 ∨ c = 10 ∨ c = 13) := by
      intro h3
      have : (c == 32 || c == 9 || c == 10 || c == 13) = true := by simpa [or_assoc] using h3
      rw [this] at h
      cases h
    have a1 : ((32 : UInt8) == c) = false := by simpa using fun e => h2 (.inl e.symm)
    have a2 : ((9 : UInt8) == c) = false := by simpa using fun e => h2 (.inr (.inl e.symm))
    have a3 : ((10 : UInt8) == c) = false := by simpa using fun e => h2 (.inr (.inr (.inl e.symm)))
    have a4 : ((13 : UInt8) == c) = false := by simpa using fun e => h2 (.inr (.inr (.inr e.symm)))
    simp [indexByte, a1, a2, a3, a4]

theorem skip_casesL (l : List UInt8) (b : Nat) (hb : b < l.length) :
    (wsB l[b] = true ∧ skipTo l b = skipTo l (b + 1)) ∨
    (wsB l[b] = false ∧ hasPrefix (l.drop b) [45, 45] = true ∧ ((indexByte (l.drop b) 10 = -1 ∧ skipTo l b = (l.length, true)) ∨ ∃ n : Nat, indexByte (l.drop b) 10 = (n : Int) ∧ b + n + 1 ≤ l.length ∧ skipTo l b = skipTo l (b + n + 1))) ∨
    (wsB l[b] = false ∧ hasPrefix (l.drop b) [45, 45] = false ∧ hasPrefix (l.drop b) [47, 42] = true ∧ b + 2 ≤ l.length ∧
      ((index (l.drop (b + 2)) [42, 47] = -1 ∧ skipTo l b = (b, false)) ∨ ∃ n : Nat, index (l.drop (b + 2)) [42, 47] = (n : Int) ∧ b + (n + 4) ≤ l.length ∧ skipTo l b = skipTo l (b + (n + 4)))) ∨
    (wsB l[b] = false ∧ hasPrefix (l.drop b) [45, 45] = false ∧ hasPrefix (l.drop b) [47, 42] = false ∧ skipTo l b = (b, true)) := by
  cases hw : wsB l[b]
  · right
    cases h1 : hasPrefix (l.drop b) [45, 45]
    · right
      cases h2 : hasPrefix (l.drop b) [47, 42]
      · exact .inr ⟨rfl, rfl, rfl, skip_stop l b hb hw h1 h2⟩
      · obtain ⟨h3, c0, c1⟩ := (pre2_iff l b 47 42).1 h2
        refine .inl ⟨rfl, rfl, rfl, by omega, ?_⟩
        have hge := index_ge (l.drop (b + 2)) [42, 47]
        by_cases hx : index (l.drop (b + 2)) [42, 47] < 0
        · exact .inl ⟨by omega, skip_open l b h3 c0 c1 hx⟩
        · obtain ⟨n, hn⟩ : ∃ n : Nat, index (l.drop (b + 2)) [42, 47] = (n : Int) := ⟨(index (l.drop (b + 2)) [42, 47]).toNat, by omega⟩
          refine .inr ⟨n, hn, ?_, skip_comment l b n h3 c0 c1 hn⟩
          have hr := index_room (l.drop (b + 2)) [42, 47] (by omega)
          rw [hn] at hr
          simp at hr
          omega
    · obtain ⟨h3, c0, c1⟩ := (pre2_iff l b 45 45).1 h1
      refine .inl ⟨rfl, rfl, ?_⟩
      have hge := indexByte_ge (l.drop b) 10
      by_cases hx : indexByte (l.drop b) 10 = -1
      · refine .inl ⟨hx, ?_⟩
        have hno := indexByte_none hx
        rw [skip_line l b l.length h3 c0 c1 (by omega) (Nat.le_refl _) (fun j hj h4 h5 => ?_) (fun h => absurd h (by omega)), skip_end l l.length (Nat.le_refl _)]
        have := hno (j - b)
        rw [List.getElem?_drop, show b + (j - b) = j by omega, List.getElem?_eq_getElem hj] at this
        exact fun e => this (by rw [e])
      · obtain ⟨n, hn⟩ : ∃ n : Nat, indexByte (l.drop b) 10 = (n : Int) := ⟨(indexByte (l.drop b) 10).toNat, by omega⟩
        obtain ⟨hat, hno⟩ := indexByte_some hn
        rw [List.getElem?_drop] at hat
        have hlt : b + n < l.length := by
          rcases Nat.lt_or_ge (b + n) l.length with h6 | h6
          · exact h6
          · rw [List.getElem?_eq_none h6] at hat; cases hat
        rw [List.getElem?_eq_getElem hlt] at hat
        have hat2 : l[b + n] = 10 := by injection hat
        refine .inr ⟨n, hn, by omega, ?_⟩
        rw [skip_line l b (b + n) h3 c0 c1 (by omega) (by omega) (fun j hj h4 h5 => ?_) (fun _ => hat2), skip_ws l (b + n) hlt (by rw [hat2]; rfl)]
        have := hno (j - b) (by omega)
        rw [List.getElem?_drop, show b + (j - b) = j by omega, List.getElem?_eq_getElem hj] at this
        exact fun e => this (by rw [e])
  · exact .inl ⟨rfl, skip_ws l b hb hw⟩

theorem skip_cases (s : ByteArray) (b : Nat) (h : b < s.size) :
    (wsB s[b] = true ∧ skipTo s.data.toList b = skipTo s.data.toList (b + 1)) ∨
    (wsB s[b] = false ∧ hasPrefix (s.data.toList.drop b) [45, 45] = true ∧ ((indexByte (s.data.toList.drop b) 10 = -1 ∧ skipTo s.data.toList b = (s.size, true)) ∨ ∃ n : Nat, indexByte (s.data.toList.drop b) 10 = (n : Int) ∧ b + n + 1 ≤ s.size ∧ skipTo s.data.toList b = skipTo s.data.toList (b + n + 1))) ∨
    (wsB s[b] = false ∧ hasPrefix (s.data.toList.drop b) [45, 45] = false ∧ hasPrefix (s.data.toList.drop b) [47, 42] = true ∧ b + 2 ≤ s.size ∧
      ((index (s.data.toList.drop (b + 2)) [42, 47] = -1 ∧ skipTo s.data.toList b = (b, false)) ∨ ∃ n : Nat, index (s.data.toList.drop (b + 2)) [42, 47] = (n : Int) ∧ b + (n + 4) ≤ s.size ∧ skipTo s.data.toList b = skipTo s.data.toList (b + (n + 4)))) ∨
    (wsB s[b] = false ∧ hasPrefix (s.data.toList.drop b) [45, 45] = false ∧ hasPrefix (s.data.toList.drop b) [47, 42] = false ∧ skipTo s.data.toList b = (b, true)) := by
  have h1 := skip_casesL s.data.toList b (by rw [list_size]; exact h)
  simp only [list_size, list_get s b h] at h1
  exact h1

theorem skipTo_le (l : List UInt8) : ∀ (d a : Nat), l.length - a = d → a ≤ l.length → (skipTo l a).1 ≤ l.length ∧ a ≤ (skipTo l a).1 := by
  intro d
  induction d using Nat.strongRecOn with
  | _ d ih =>
    intro a hd ha
    by_cases hlt : a < l.length
    · have h := skip_casesL l a hlt
      rcases h with ⟨_, h⟩ | ⟨_, _, ⟨_, h⟩ | ⟨n, _, hn, h⟩⟩ | ⟨_, _, _, _, ⟨_, h⟩ | ⟨n, _, hn, h⟩⟩ | ⟨_, _, _, h⟩
      · rw [h]; have := ih (l.length - (a + 1)) (by omega) (a + 1) rfl (by omega); omega
      · rw [h]; show l.length ≤ _ ∧ a ≤ l.length; omega
      · rw [h]; have := ih (l.length - (a + n + 1)) (by omega) (a + n + 1) rfl (by omega); omega
      · rw [h]; show a ≤ _ ∧ a ≤ a; omega
      · rw [h]; have := ih (l.length - (a + (n + 4))) (by omega) (a + (n + 4)) rfl (by omega); omega
      · rw [h]; show a ≤ _ ∧ a ≤ a; omega
    · rw [skip_end l a (by omega)]; show a ≤ _ ∧ a ≤ a; omega
end Go.Proofs.YtfnjcgakcpadiaaDoor
