/-
  Lexing the texts of tokens: one alone, one between spaces, two that touch. A plain law.
-/
import Derived.Test.YtfnjcgakcpadiaaGreatDoorLexD
import Derived.Test.YtfnjcgakcpadiaaGreatDoorSkipS
namespace Go.Proofs.YtfnjcgakcpadiaaGreatDoor
open Go.RowKit

/-- A token's text in a source, as bytes. -/
def txtL (k : Int) (x : ByteArray) : List UInt8 := if quotB k x = true then quoteL 34 x else if k = 4 then quoteL 39 x else x.data.toList

/-- What may follow a token's text. -/
structure Follows (k : Int) (x : ByteArray) (R : List UInt8) : Prop where
  word : wordB k x = true → ∀ d, R.head? = some d → partB d = false
  quot : quotB k x = true → ∀ d, R.head? = some d → d ≠ 34
  text : k = 4 → ∀ d, R.head? = some d → d ≠ 39
  sign : k = 5 → ∀ d, R.head? = some d → ∀ c, x.data.toList = [c] → [c, d] ∉ signB ∧ ¬ (c = 45 ∧ d = 45) ∧ ¬ (c = 47 ∧ d = 42)

theorem follows_nil (k : Int) (x : ByteArray) : Follows k x [] := ⟨(fun _ d h => by cases h), (fun _ d h => by cases h), (fun _ d h => by cases h), (fun _ d h => by cases h)⟩
theorem head_zero {R : List UInt8} {P : UInt8 → Prop} (h : ∀ d, R.head? = some d → P d) (h0 : 0 < R.length) : P R[0] := by
  refine h _ ?_
  cases R with
  | nil => simp at h0
  | cons r R => rfl

/-- How a token's text begins. -/
inductive Begins (k : Int) (x : ByteArray) : UInt8 → Prop where
  | word {c : UInt8} (h : wordB k x = true) (hc : partB c = true) : Begins k x c
  | quot (h : quotB k x = true) : Begins k x 34
  | text (h : k = 4) : Begins k x 39
  | sign {c : UInt8} (h : k = 5) (hc : x.data.toList.head? = some c) (hm : x.data.toList ∈ signB) : Begins k x c

theorem txt_begin {k : Int} {x : ByteArray} (h : tokOk k x = true) : ∃ c t, txtL k x = c :: t ∧ Begins k x c := by
  rcases tok_cls h with ⟨hw, hq, k4, k5⟩ | ⟨hw, hq, k4, k5⟩ | ⟨rfl, hw, hq⟩ | ⟨rfl, hw, hq⟩
  · have hW := word_of h hw
    have e : txtL k x = x.data.toList := by
      unfold txtL
      rw [if_neg (by rw [hq]; simp), if_neg (by rintro rfl; simp at k4)]
    rw [e]
    match hx : x.data.toList, hW.ne with
    | c :: t, _ => exact ⟨c, t, rfl, .word hw (hW.all c (by rw [hx]; exact List.mem_cons_self))⟩
  · refine ⟨34, x.data.toList.flatMap (dbl 34) ++ [34], ?_, .quot hq⟩
    unfold txtL
    rw [if_pos hq]
    rfl
  · refine ⟨39, x.data.toList.flatMap (dbl 39) ++ [39], ?_, .text rfl⟩
    unfold txtL
    rw [if_neg (by rw [hq]; simp), if_pos rfl]
    rfl
  · have hm := sign_cases (tok5 h)
    obtain ⟨c, t, he, _⟩ := sign_bytes _ hm
    refine ⟨c, t, ?_, .sign rfl (by rw [he]; rfl) hm⟩
    unfold txtL
    rw [if_neg (by rw [hq]; simp), if_neg (by decide)]
    exact he

theorem tok_txt {k : Int} {x : ByteArray} (h : tokOk k x = true) (R : List UInt8) (hR : Follows k x R) : tokR (txtL k x ++ R) = some (k, x, (txtL k x).length) := by
  rcases tok_cls h with ⟨hw, hq, k4, k5⟩ | ⟨hw, hq, k4, k5⟩ | ⟨rfl, hw, hq⟩ | ⟨rfl, hw, hq⟩
  · have hW := word_of h hw
    have e : txtL k x = x.data.toList := by
      unfold txtL
      rw [if_neg (by rw [hq]; simp), if_neg (by rintro rfl; simp at k4)]
    rw [e, hW.tok R (fun h0 => head_zero (hR.word hw) h0), list_size]
  · have e : txtL k x = quoteL 34 x := by unfold txtL; rw [if_pos hq]
    have hk : k = 2 := by unfold quotB at hq; simp at hq; exact hq.1
    rw [e]
    exact quote_tok (.inl ⟨rfl, hk⟩) h R (fun h0 => head_zero (hR.quot hq) h0)
  · have e : txtL 4 x = quoteL 39 x := by unfold txtL; rw [if_neg (by rw [hq]; simp), if_pos rfl]
    rw [e]
    exact quote_tok (.inr ⟨rfl, rfl⟩) h R (fun h0 => head_zero (hR.text rfl) h0)
  · have e : txtL 5 x = x.data.toList := by unfold txtL; rw [if_neg (by rw [hq]; simp), if_neg (by decide)]
    rw [e]
    exact sign_tok h R (fun c hc d hd => (hR.sign rfl d hd c hc).1)

theorem begins_ws {k : Int} {x : ByteArray} {c : UInt8} (h : Begins k x c) : wsB c = false := by
  cases h with
  | word h hc =>
    cases hw : wsB c
    · rfl
    · exfalso
      have h2 : c = 32 ∨ c = 9 ∨ c = 10 ∨ c = 13 := by simpa [wsB, or_assoc] using hw
      rcases h2 with rfl | rfl | rfl | rfl <;> exact absurd hc (by decide)
  | quot h => rfl
  | text h => rfl
  | sign h hc hm =>
    obtain ⟨d, t, he, _, _, _, hw, _⟩ := sign_bytes _ hm
    rw [he] at hc
    simp at hc
    subst hc
    exact hw

/-- Nothing lies ahead of a token's text. -/
theorem skip_txt {k : Int} {x : ByteArray} (h : tokOk k x = true) {l R : List UInt8} {p : Nat} (hl : l.drop p = txtL k x ++ R) (hR : Follows k x R) : skipTo l p = (p, true) ∧ p < l.length ∧ p + (txtL k x).length ≤ l.length := by
  obtain ⟨c, t, he, hb⟩ := txt_begin h
  have hlen := congrArg List.length hl
  rw [List.length_drop, List.length_append, he, List.length_cons] at hlen
  have hp : p < l.length := by omega
  have hc : l[p] = c := by
    have h1 : l.drop p = l[p] :: l.drop (p + 1) := List.drop_eq_getElem_cons hp
    rw [h1, he] at hl
    injection hl with hl _
  have hno : ∀ y z : UInt8, (y = 45 ∧ z = 45 ∨ y = 47 ∧ z = 42) → Lib.hasPrefix (l.drop p) [y, z] = false := by
    intro y z hyz
    cases hv : Lib.hasPrefix (l.drop p) [y, z]
    · rfl
    · exfalso
      rw [hl, he] at hv
      have hcy : c = y := by
        unfold Lib.hasPrefix at hv
        simp [List.isPrefixOf] at hv
        exact hv.1.symm
      have hyv : y = 45 ∨ y = 47 := by rcases hyz with ⟨h1, _⟩ | ⟨h1, _⟩ <;> simp [h1]
      cases hb with
      | word hw hcp => subst hcy; rcases hyv with rfl | rfl <;> exact absurd hcp (by decide)
      | quot hw => subst hcy; rcases hyv with h9 | h9 <;> exact absurd h9 (by decide)
      | text hw => subst hcy; rcases hyv with h9 | h9 <;> exact absurd h9 (by decide)
      | sign hk hcx hm =>
        subst hk
        obtain ⟨d, u, hd, _, _, _, _, _, hu, _⟩ := sign_bytes _ hm
        rw [hd] at hcx
        simp at hcx
        subst hcx
        have hu0 : u = [] := by
          rcases hu with hu | hu
          · exact hu
          · rw [hcy] at hu
            rcases hyv with rfl | rfl
            · exact absurd rfl hu.1
            · exact absurd rfl hu.2
        subst hu0
        have hx5 : txtL 5 x = x.data.toList := by
          have hq : quotB 5 x = false := by simp [quotB]
          unfold txtL
          rw [if_neg (by rw [hq]; simp), if_neg (by decide)]
        rw [hx5, hd] at he
        have ht0 : t = [] := by injection he with _ he; exact he.symm
        subst ht0
        unfold Lib.hasPrefix at hv
        cases R with
        | nil => simp [List.isPrefixOf] at hv
        | cons r R =>
          simp [List.isPrefixOf] at hv
          have hs := hR.sign rfl r rfl d hd
          rcases hyz with ⟨h1, h2⟩ | ⟨h1, h2⟩
          · exact hs.2.1 ⟨by rw [hcy, h1], by rw [← hv.2, h2]⟩
          · exact hs.2.2 ⟨by rw [hcy, h1], by rw [← hv.2, h2]⟩
  refine ⟨skip_stop l p hp (by rw [hc]; exact begins_ws hb) (hno 45 45 (.inl ⟨rfl, rfl⟩)) (hno 47 42 (.inr ⟨rfl, rfl⟩)), hp, ?_⟩
  rw [he, List.length_cons]
  omega

theorem lex_txt {k : Int} {x : ByteArray} (h : tokOk k x = true) {l R : List UInt8} {p : Nat} (hl : l.drop p = txtL k x ++ R) (hR : Follows k x R) : lexAt l p = lexPre [(k, x, p)] (lexAt l (p + (txtL k x).length)) := by
  obtain ⟨h1, h2, h3⟩ := skip_txt h hl hR
  have ht := tok_txt h R hR
  rw [← hl] at ht
  obtain ⟨c, t, he, _⟩ := txt_begin h
  exact lex_tok h1 h2 ht (by rw [he]; simp)

theorem lex_done (l : List UInt8) (p : Nat) (h : l.drop p = []) : lexAt l p = ([], -1) := by
  have hp : l.length ≤ p := by
    have := congrArg List.length h
    rw [List.length_drop] at this
    simp at this
    omega
  exact lex_end (skip_end l p hp) hp

theorem lex_single {k : Int} {x : ByteArray} (h : tokOk k x = true) : lexAt (txtL k x) 0 = ([(k, x, 0)], -1) := by
  rw [lex_txt h (R := []) (by simp) (follows_nil k x), lex_done _ _ (by simp), lexPre_end]

theorem follows_space (k : Int) (x : ByteArray) (R : List UInt8) : Follows k x (32 :: R) := by
  refine ⟨(fun _ d h => ?_), (fun _ d h => ?_), (fun _ d h => ?_), (fun _ d h c hc => ?_)⟩
  all_goals (simp at h; subst h)
  · decide
  · decide
  · decide
  · refine ⟨fun hm => ?_, fun h => absurd h.2 (by decide), fun h => absurd h.2 (by decide)⟩
    obtain ⟨d, t, he, _, _, _, _, _, _, ht⟩ := sign_bytes _ hm
    injection he with _ he
    subst he
    exact (ht 32 (by simp)).2.2.2 rfl

theorem lex_spaced {k : Int} {x : ByteArray} (h : tokOk k x = true) : lexAt (32 :: (txtL k x ++ [32])) 0 = ([(k, x, 1)], -1) := by
  have hs0 : skipTo (32 :: (txtL k x ++ [32])) 0 = skipTo (32 :: (txtL k x ++ [32])) 1 := skip_ws _ 0 (by simp) rfl
  have hl : (32 :: (txtL k x ++ [32])).drop 1 = txtL k x ++ [32] := rfl
  have h1 := (skip_txt h hl (follows_space k x [])).1
  have h0 : lexAt (32 :: (txtL k x ++ [32])) 0 = lexAt (32 :: (txtL k x ++ [32])) 1 := by
    rw [lexAt, hs0]
    conv => rhs; rw [lexAt]
  rw [h0, lex_txt h hl (follows_space k x [])]
  have hd : (32 :: (txtL k x ++ [32])).drop (1 + (txtL k x).length) = [32] := by
    rw [← List.drop_drop]
    simp
  have hlen : (32 :: (txtL k x ++ [32])).length = (txtL k x).length + 2 := by simp
  have hend : lexAt (32 :: (txtL k x ++ [32])) (1 + (txtL k x).length) = ([], -1) := by
    have hp : 1 + (txtL k x).length < (32 :: (txtL k x ++ [32])).length := by omega
    have hg : (32 :: (txtL k x ++ [32]))[1 + (txtL k x).length]'hp = 32 := by
      have h9 := List.drop_eq_getElem_cons hp
      rw [hd] at h9
      injection h9 with h9 _
      exact h9.symm
    have hs : skipTo (32 :: (txtL k x ++ [32])) (1 + (txtL k x).length) = ((32 :: (txtL k x ++ [32])).length, true) := by
      rw [skip_ws _ _ hp (by rw [hg]; rfl)]
      have e : 1 + (txtL k x).length + 1 = (32 :: (txtL k x ++ [32])).length := by omega
      rw [e]
      exact skip_end _ _ (Nat.le_refl _)
    exact lex_end hs (Nat.le_refl _)
  rw [hend, lexPre_end]
end Go.Proofs.YtfnjcgakcpadiaaGreatDoor
