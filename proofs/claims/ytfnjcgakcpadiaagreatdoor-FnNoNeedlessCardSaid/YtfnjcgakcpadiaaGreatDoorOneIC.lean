/-
  readToken: all its ways; and what holds a row of tokens.
-/
import Derived.Test.YtfnjcgakcpadiaaGreatDoorOneIW
import Derived.Test.YtfnjcgakcpadiaaGreatDoorOneIQ
import Derived.Test.YtfnjcgakcpadiaaGreatDoorOneIS
import Derived.Test.YtfnjcgakcpadiaaGreatDoorLexF
namespace Go.Proofs.YtfnjcgakcpadiaaGreatDoor
open Go.RowKit

theorem implOne (s : ByteArray) (a : Nat) (ha : a < s.size) (hs : s.size ≤ 1048576) (w : World) (hR : Ready w) :
    Calls Tryz.prog 36 #[.string s, .int .i64 (a : Int)] w fun z w' => TokI (tokR (s.data.toList.drop a)) a z ∧ Below w.heap.size w w' := by
  cases hp : partB s[a]
  · by_cases h34 : s[a] = 34
    · rw [tok_text s a ha hp 34 2 (.inl ⟨rfl, rfl⟩) h34]
      cases hr : quotR 34 (s.data.toList.drop (a + 1)) with
      | none => exact implOne_Qn s a ha hs w hR hp h34 hr
      | some y => exact implOne_Q s a ha hs w hR hp h34 y hr
    · by_cases h39 : s[a] = 39
      · rw [tok_text s a ha hp 39 4 (.inr ⟨rfl, rfl⟩) h39]
        cases hr : quotR 39 (s.data.toList.drop (a + 1)) with
        | none => exact implOne_Tn s a ha hs w hR hp h39 hr
        | some y => exact implOne_T s a ha hs w hR hp h39 y hr
      · have g1 : ((s[a].toNat : Int) == 34) = false := u8_ne (b := 34) h34
        have g2 : ((s[a].toNat : Int) == 39) = false := u8_ne (b := 39) h39
        have hl := list_size s
        rw [tok_sign s a ha hp h34 h39, best_spec _ (by simp; omega)]
        exact implOne_S s a ha hs w hR hp g1 g2
  · obtain ⟨e, h1, h2, h3, h4⟩ := run_ex s _ a rfl (by omega)
    have hae : a < e := by
      rcases Nat.lt_or_ge a e with h | h
      · exact h
      · have : e = a := by omega
        subst this
        rw [h4 ha] at hp
        cases hp
    have HR : Hid ((∀ i (h : i < s.size), a ≤ i → i < e → partB s[i] = true) ∧ (∀ h : e < s.size, partB s[e] = false)) := ⟨h3, h4⟩
    rw [(tok_word s a e ha h1 h2 hp h3 h4).1]
    unfold wordR
    rcases part_cls _ hp with hl | ⟨hl, hd⟩
    · rw [if_neg (by rw [let_dig _ hl]; simp)]
      by_cases hk : keyNo (upAll (s.extract a e)) = 0
      · rw [if_pos hk]
        exact implOne_N s a ha hs w hR e h1 h2 HR hl hk
      · rw [if_neg hk]
        exact implOne_K s a ha hs w hR e h1 h2 HR hl hk
    · rw [if_pos hd]
      exact implOne_D s a ha hs w hR e h1 h2 HR hl hd
end Go.Proofs.YtfnjcgakcpadiaaGreatDoor
