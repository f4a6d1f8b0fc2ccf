/-
  The token that a text gives, whatever follows. A plain law.
-/
import Derived.Test.YtfnjcgakcpadiaaGreatDoorLexF
import Derived.Test.YtfnjcgakcpadiaaGreatDoorGQuo
import Derived.Test.YtfnjcgakcpadiaaGreatDoorGapL
import Derived.Test.YtfnjcgakcpadiaaGreatDoorNameD
namespace Go.Proofs.YtfnjcgakcpadiaaGreatDoor
open Go.RowKit

theorem quot_dbl (q : UInt8) (R : List UInt8) (hR : ∀ h : 0 < R.length, R[0] ≠ q) : ∀ l : List UInt8, quotR q (l.flatMap (dbl q) ++ q :: R) = some (l, (l.flatMap (dbl q)).length + 1)
  | [] => quotR_end q R hR
  | c :: l => by
    have ih := quot_dbl q R hR l
    rw [List.flatMap_cons]
    by_cases hc : c = q
    · subst hc
      have e : dbl c c = [c, c] := by unfold dbl; rw [if_pos rfl]
      rw [e, List.append_assoc]
      show quotR c (c :: c :: (l.flatMap (dbl c) ++ c :: R)) = _
      rw [quotR_two, ih]
      simp
    · have e : dbl q c = [c] := by unfold dbl; rw [if_neg hc]
      rw [e, List.append_assoc]
      show quotR q (c :: (l.flatMap (dbl q) ++ q :: R)) = _
      rw [quotR_other q c _ hc, ih]
      simp

theorem run_all (x R : List UInt8) (hx : ∀ c ∈ x, partB c = true) (hR : ∀ h : 0 < R.length, partB R[0] = false) : runR (x ++ R) = x := by
  unfold runR
  rw [List.takeWhile_append_of_pos hx]
  cases R with
  | nil => simp
  | cons r R =>
    have := hR (by simp)
    simp at this
    simp [this]

/-- The four kinds of tokens, by their texts. -/
theorem kw_letters0 : ∀ k, k < 29 → 1 ≤ k → (kw k).data.toList.all letB = true ∧ (kw k).data.toList ≠ [] := by decide +kernel
theorem kw_letters (k : Nat) (h1 : 1 ≤ k) (h2 : k < 29) : (kw k).data.toList.all letB = true ∧ (kw k).data.toList ≠ [] := kw_letters0 k h2 h1
theorem key_word {f : ByteArray} (h : ¬ keyNo f = 0) : (∀ c ∈ f.data.toList, letB c = true) ∧ f.data.toList ≠ [] := by
  by_cases hk : ∃ k, 1 ≤ k ∧ k < 29 ∧ kw k = f
  · obtain ⟨k, h1, h2, rfl⟩ := hk
    have := kw_letters k h1 h2
    exact ⟨fun c hc => List.all_eq_true.mp this.1 c hc, this.2⟩
  · exact absurd (keyNo_miss f (fun j h1 h2 h3 => hk ⟨j, h1, h2, h3⟩)) h

theorem beq_bytes {x y : ByteArray} (h : (x.toList == y.toList) = true) : x = y := (Lib.bytes_beq_iff x y).1 h

/-- A word. -/
structure IsWord (k : Int) (x : ByteArray) : Prop where
  ne : x.data.toList ≠ []
  all : ∀ c ∈ x.data.toList, partB c = true
  tok : ∀ R : List UInt8, (∀ h : 0 < R.length, partB R[0] = false) → tokR (x.data.toList ++ R) = some (k, x, x.size)

theorem arr_list (x : ByteArray) : (⟨x.data.toList.toArray⟩ : ByteArray) = x := by cases x; simp
theorem word_tok {k : Int} {x : ByteArray} (hne : x.data.toList ≠ []) (hall : ∀ c ∈ x.data.toList, partB c = true) (hw : ∀ c ∈ x.data.toList.head?, wordR c x = some (k, x, x.size)) : IsWord k x := by
  refine ⟨hne, hall, fun R hR => ?_⟩
  have hrun := run_all x.data.toList R hall hR
  match hx : x.data.toList, hne with
  | c :: t, _ =>
    rw [hx] at hrun hall hw
    have hp := hall c (List.mem_cons_self)
    show (if partB c = true then wordR c ⟨(runR (c :: (t ++ R))).toArray⟩ else _) = _
    rw [if_pos hp]
    have e : runR (c :: (t ++ R)) = x.data.toList := by rw [hx]; exact hrun
    rw [e, arr_list]
    exact hw c (by simp)

theorem tok_ok_eq {k : Int} {x : ByteArray} {m : Nat} (h : tokOk k x = true) : chk k x m = some (k, x, m) := by unfold chk; rw [if_pos h]

theorem word_of {k : Int} {x : ByteArray} (h : tokOk k x = true) (hw : wordB k x = true) : IsWord k x := by
  have hk : k = 1 ∨ k = 3 ∨ k = 2 ∧ plainB x = true := by
    unfold wordB at hw
    simp at hw
    rcases hw with (h | h) | h
    · exact .inl h
    · exact .inr (.inl h)
    · exact .inr (.inr h)
  rcases hk with rfl | rfl | ⟨rfl, hp⟩
  · have h1 := h
    unfold tokOk at h1
    rw [if_pos rfl] at h1
    simp only [Bool.and_eq_true, Bool.not_eq_true', beq_eq_false_iff_ne, ne_eq] at h1
    obtain ⟨hkn, he⟩ := h1
    have hxe : upAll x = x := beq_bytes he
    rw [hxe] at hkn
    obtain ⟨hl, hne⟩ := key_word hkn
    refine word_tok hne (fun c hc => by unfold partB; rw [hl c hc]; rfl) (fun c hc => ?_)
    have hlc := hl c (List.mem_of_mem_head? hc)
    unfold wordR
    rw [if_neg (by rw [let_dig c hlc]; simp), hxe, if_neg hkn]
    exact tok_ok_eq h
  · have h1 := h
    unfold tokOk at h1
    rw [if_neg (by decide), if_neg (by decide), if_pos rfl] at h1
    have hn : isNum x := by
      by_cases hn : isNum x
      · exact hn
      · rw [(numN_no hn).2] at h1; cases h1
    have hf := num_figs hn
    have hne : x.data.toList ≠ [] := by
      obtain ⟨n, hn1, rfl⟩ := hn
      intro e
      have h2 := (numS_size n hn1).1
      have h3 := list_size (numS n)
      rw [e] at h3
      simp at h3
      omega
    have hd : ∀ c ∈ x.data.toList, digB c = true := fun c hc => hf c hc
    refine word_tok hne (fun c hc => by unfold partB; rw [hd c hc]; simp) (fun c hc => ?_)
    unfold wordR
    rw [if_pos (hd c (List.mem_of_mem_head? hc))]
    exact tok_ok_eq h
  · have h1 := hp
    unfold plainB at h1
    simp only [Bool.and_eq_true, Bool.not_eq_true', decide_eq_true_eq] at h1
    obtain ⟨⟨⟨⟨hs1, hs2⟩, hd0⟩, hk0⟩, hall⟩ := h1
    have hl := list_size x
    have hne : x.data.toList ≠ [] := by
      intro e
      rw [e] at hl
      simp at hl
      omega
    refine word_tok hne (fun c hc => List.all_eq_true.mp hall c hc) (fun c hc => ?_)
    have hc0 : digB c = false := by
      match hx : x.data.toList, hne with
      | d :: t, _ =>
        rw [hx] at hc hd0
        simp at hc
        subst hc
        simpa using hd0
    unfold wordR
    rw [if_neg (by rw [hc0]; simp), if_pos hk0]
    exact tok_ok_eq h

theorem quote_tok {q : UInt8} {k : Int} {x : ByteArray} (hq : q = 34 ∧ k = 2 ∨ q = 39 ∧ k = 4) (h : tokOk k x = true) (R : List UInt8) (hR : ∀ h : 0 < R.length, R[0] ≠ q) :
    tokR (quoteL q x ++ R) = some (k, x, (quoteL q x).length) := by
  have e : quoteL q x ++ R = q :: (x.data.toList.flatMap (dbl q) ++ q :: R) := by unfold quoteL; simp
  have hqd := quot_dbl q R hR x.data.toList
  have hl : (quoteL q x).length = (x.data.toList.flatMap (dbl q)).length + 1 + 1 := by unfold quoteL; simp
  rw [e]
  show (if partB q = true then _ else if q = 34 then textR 2 (quotR 34 _) else if q = 39 then textR 4 (quotR 39 _) else _) = _
  rcases hq with ⟨rfl, rfl⟩ | ⟨rfl, rfl⟩
  · rw [if_neg (by decide), if_pos rfl, hqd, hl]
    show chk 2 ⟨x.data.toList.toArray⟩ _ = _
    rw [arr_list]
    exact tok_ok_eq h
  · rw [if_neg (by decide), if_neg (by decide), if_pos rfl, hqd, hl]
    show chk 4 ⟨x.data.toList.toArray⟩ _ = _
    rw [arr_list]
    exact tok_ok_eq h

/-- Two quoted texts that touch are one. -/
theorem quot_twice (q : UInt8) (a b : List UInt8) : quotR q (a.flatMap (dbl q) ++ q :: q :: (b.flatMap (dbl q) ++ [q])) = some (a ++ q :: b, ((a ++ q :: b).flatMap (dbl q)).length + 1) := by
  have h := quot_dbl q [] (fun h => absurd h (by simp)) (a ++ q :: b)
  rw [← h]
  congr 1
  rw [List.flatMap_append, List.flatMap_cons]
  have e : dbl q q = [q, q] := by unfold dbl; rw [if_pos rfl]
  rw [e]
  simp

theorem sign_cases {x : ByteArray} (h : signOk x = true) : x.data.toList ∈ signB := by
  unfold signOk at h
  rw [List.any_eq_true] at h
  obtain ⟨l, hl, he⟩ := h
  have : x.toList = l := by simpa using he
  rw [ByteArray.toList_eq] at this
  rw [this]
  exact hl
theorem sign_back {l : List UInt8} : signOk ⟨l.toArray⟩ = true ↔ l ∈ signB := by
  constructor
  · intro h
    simpa using sign_cases h
  · intro h
    unfold signOk
    rw [List.any_eq_true]
    exact ⟨l, h, by rw [ByteArray.toList_eq]; simp⟩
def sgB (l : List UInt8) : Bool := match l with
  | c :: t => !partB c && c != 34 && c != 39 && !wsB c && decide (t.length ≤ 1) && (t.isEmpty || (c != 45 && c != 47)) && t.all (fun d => !partB d && d != 34 && d != 39 && d != 32)
  | [] => false
theorem sign_bytes0 : ∀ l ∈ signB, sgB l = true := by decide +kernel
theorem sign_bytes (l : List UInt8) (h : l ∈ signB) : ∃ c t, l = c :: t ∧ partB c = false ∧ c ≠ 34 ∧ c ≠ 39 ∧ wsB c = false ∧ t.length ≤ 1 ∧ (t = [] ∨ c ≠ 45 ∧ c ≠ 47) ∧ (∀ d ∈ t, partB d = false ∧ d ≠ 34 ∧ d ≠ 39 ∧ d ≠ 32) := by
  have h1 := sign_bytes0 l h
  match l, h1 with
  | c :: t, h1 =>
    simp only [sgB, Bool.and_eq_true, Bool.not_eq_true', bne_iff_ne, ne_eq, decide_eq_true_eq, Bool.or_eq_true, List.isEmpty_iff, List.all_eq_true] at h1
    obtain ⟨⟨⟨⟨⟨⟨a1, a2⟩, a3⟩, a4⟩, a5⟩, a6⟩, a7⟩ := h1
    exact ⟨c, t, rfl, a1, a2, a3, a4, a5, a6, fun d hd => by
      obtain ⟨⟨⟨b1, b2⟩, b3⟩, b4⟩ := a7 d hd
      exact ⟨b1, b2, b3, b4⟩⟩

theorem tok5 {x : ByteArray} (h : tokOk 5 x = true) : signOk x = true := by
  unfold tokOk at h
  rw [if_neg (by decide), if_neg (by decide), if_neg (by decide), if_neg (by decide), if_pos rfl] at h
  exact h

theorem sign_tok {x : ByteArray} (h : tokOk 5 x = true) (R : List UInt8) (hR : ∀ c, x.data.toList = [c] → ∀ d, R.head? = some d → [c, d] ∉ signB) : tokR (x.data.toList ++ R) = some (5, x, x.data.toList.length) := by
  have hm := sign_cases (tok5 h)
  obtain ⟨c, t, he, hp, h34, h39, _, ht, _, _⟩ := sign_bytes _ hm
  have hx : (⟨(c :: t).toArray⟩ : ByteArray) = x := by rw [← he]
  rw [he] at hR hm ⊢
  show (if partB c = true then _ else if c = 34 then _ else if c = 39 then _ else signR (c :: (t ++ R))) = _
  rw [if_neg (by rw [hp]; simp), if_neg h34, if_neg h39]
  unfold signR
  match t, ht with
  | [], _ =>
    rw [if_neg]
    · show chk 5 ⟨([c] : List UInt8).toArray⟩ 1 = _
      rw [hx]
      exact tok_ok_eq h
    · rintro ⟨h1, h2⟩
      cases R with
      | nil => simp at h1
      | cons d R => exact hR c rfl d rfl (sign_back.mp (by simpa using h2))
  | [d], _ =>
    rw [if_pos ⟨by simp, by show signOk ⟨([c, d] : List UInt8).toArray⟩ = true; exact sign_back.mpr hm⟩]
    show chk 5 ⟨([c, d] : List UInt8).toArray⟩ 2 = _
    rw [hx]
    exact tok_ok_eq h
end Go.Proofs.YtfnjcgakcpadiaaGreatDoor
