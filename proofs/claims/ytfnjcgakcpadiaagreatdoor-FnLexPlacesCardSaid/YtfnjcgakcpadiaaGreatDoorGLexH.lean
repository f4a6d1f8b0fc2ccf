import Derived.Test.YtfnjcgakcpadiaaGreatDoorLexF
import Derived.Test.YtfnjcgakcpadiaaGreatDoorSkipS
import Derived.Test.YtfnjcgakcpadiaaGreatDoorLexG
import Derived.Test.YtfnjcgakcpadiaaGreatDoorTxt
/-
  Lexing the first bytes of a source: what comes of it. A plain law.
-/
namespace Go.Proofs.YtfnjcgakcpadiaaGreatDoor
open Go.RowKit

theorem pre2_take (l : List UInt8) (a b : Nat) (x y : UInt8) (hb : b ≤ l.length) (h : Lib.hasPrefix (l.drop a) [x, y] = false) : Lib.hasPrefix ((l.take b).drop a) [x, y] = false := by
  refine pre2_no _ a x y ?_
  rintro ⟨h1, h2, h3⟩
  rw [List.length_take] at h1
  rw [List.getElem_take] at h2 h3
  rw [(pre2_iff l a x y).2 ⟨by omega, h2, h3⟩] at h
  cases h
theorem pre2_in (l : List UInt8) (a b : Nat) (x y : UInt8) (hb : b ≤ l.length) (hab : a + 1 < b) (h : Lib.hasPrefix (l.drop a) [x, y] = true) : Lib.hasPrefix ((l.take b).drop a) [x, y] = true := by
  obtain ⟨h1, h2, h3⟩ := (pre2_iff l a x y).1 h
  refine (pre2_iff _ a x y).2 ⟨by rw [List.length_take]; omega, ?_, ?_⟩
  · rw [List.getElem_take]; exact h2
  · rw [List.getElem_take]; exact h3

theorem skip_trunc (l : List UInt8) (b : Nat) (hb : b ≤ l.length) : ∀ (d a p : Nat) (ok : Bool), l.length - a = d → a ≤ b → skipTo l a = (p, ok) →
    (p = b → skipTo (l.take b) a = (b, true)) ∧ (p < b → ok = true → skipTo (l.take b) a = (p, true)) := by
  have hlt : (l.take b).length = b := by rw [List.length_take]; omega
  intro d
  induction d using Nat.strongRecOn with
  | _ d ih =>
    intro a p ok hd hab hs
    by_cases hab2 : a < b
    · have hal : a < l.length := by omega
      have hat : (l.take b)[a]'(by omega) = l[a] := List.getElem_take
      have hge : ∀ q, skipTo l a = skipTo l q → q ≤ p := fun q hq => by
        have := skipTo_ge l q
        rw [← hq, hs] at this
        exact this
      rcases skip_casesL l a hal with ⟨hw, h⟩ | ⟨hw, h1, ⟨hx, h⟩ | ⟨n, hx, hn, h⟩⟩ | ⟨hw, h1, h2, hb2, ⟨hx, h⟩ | ⟨n, hx, hn, h⟩⟩ | ⟨hw, h1, h2, h⟩
      · have hh := ih (l.length - (a + 1)) (by omega) (a + 1) p ok rfl (by omega) (by rw [← h]; exact hs)
        rw [skip_ws (l.take b) a (by omega) (by rw [hat]; exact hw)]
        exact hh
      · rw [h] at hs
        injection hs with hs1 hs2
        refine ⟨fun hp => ?_, fun hp => by omega⟩
        have hbl : b = l.length := by omega
        subst hbl
        rw [List.take_length, h]
      · obtain ⟨h3, c0, c1⟩ := (pre2_iff l a 45 45).1 h1
        obtain ⟨hat2, hno⟩ := Lib.indexByte_some hx
        rw [List.getElem?_drop, List.getElem?_eq_getElem (by omega)] at hat2
        have hat3 : l[a + n] = 10 := by injection hat2
        have hh := fun (hnb : a + n + 1 ≤ b) => ih (l.length - (a + n + 1)) (by omega) (a + n + 1) p ok rfl hnb (by rw [← h]; exact hs)
        have hpn := hge _ h
        have key : a + n + 1 ≤ b → skipTo (l.take b) a = skipTo (l.take b) (a + n + 1) := fun hnb => by
          have hn2 : 2 ≤ n := by
            have g0 := hno 0
            have g1 := hno 1
            rcases Nat.lt_or_ge n 2 with h5 | h5
            · exfalso
              rcases Nat.lt_or_ge n 1 with h6 | h6
              · have e : a + n = a := by omega
                simp only [e] at hat3
                rw [c0] at hat3
                cases hat3
              · have e : a + n = a + 1 := by omega
                simp only [e] at hat3
                rw [c1] at hat3
                cases hat3
            · exact h5
          rw [skip_line (l.take b) a (a + n) (by omega) (by rw [List.getElem_take]; exact c0) (by rw [List.getElem_take]; exact c1) (by omega) (by omega) (fun j hj h4 h5 => ?_) (fun h6 => by rw [List.getElem_take]; exact hat3), skip_ws (l.take b) (a + n) (by omega) (by rw [List.getElem_take, hat3]; rfl)]
          rw [List.getElem_take]
          have := hno (j - a) (by omega)
          rw [List.getElem?_drop, show a + (j - a) = j by omega, List.getElem?_eq_getElem (by omega)] at this
          exact fun e => this (by rw [e])
        refine ⟨fun hp => ?_, fun hp hok => ?_⟩
        · rw [key (by omega)]; exact (hh (by omega)).1 hp
        · rw [key (by omega)]; exact (hh (by omega)).2 hp hok
      · rw [h] at hs
        injection hs with hs1 hs2
        refine ⟨fun hp => by omega, fun hp hok => ?_⟩
        rw [hok] at hs2
        cases hs2
      · obtain ⟨h3, c0, c1⟩ := (pre2_iff l a 47 42).1 h2
        have hpn := hge _ h
        have hh := fun (hnb : a + (n + 4) ≤ b) => ih (l.length - (a + (n + 4))) (by omega) (a + (n + 4)) p ok rfl hnb (by rw [← h]; exact hs)
        have key : a + (n + 4) ≤ b → skipTo (l.take b) a = skipTo (l.take b) (a + (n + 4)) := fun hnb => by
          have hspec := Lib.index_spec (l.drop (a + 2)) [42, 47]
          rw [hx] at hspec
          rcases hspec with ⟨h7, _⟩ | ⟨i, h7, h8, h9, h10⟩
          · omega
          · have hin : i = n := by omega
            subst hin
            refine skip_comment (l.take b) a i (by omega) (by rw [List.getElem_take]; exact c0) (by rw [List.getElem_take]; exact c1) ?_
            have hcl := close_at (l.take b) (a + 2) (a + 2 + i) (by omega) (by omega) (fun j h11 h12 => pre2_take l j b 42 47 hb ?_) (pre2_in l (a + 2 + i) b 42 47 hb (by omega) ?_)
            · rw [hcl]; congr 1; omega
            · have := h10 (j - (a + 2)) (by omega)
              unfold Lib.occAt at this
              rw [List.drop_drop, show a + 2 + (j - (a + 2)) = j by omega] at this
              exact this
            · unfold Lib.occAt at h9
              rw [List.drop_drop] at h9
              exact h9
        refine ⟨fun hp => ?_, fun hp hok => ?_⟩
        · rw [key (by omega)]; exact (hh (by omega)).1 hp
        · rw [key (by omega)]; exact (hh (by omega)).2 hp hok
      · rw [h] at hs
        injection hs with hs1 hs2
        subst hs1
        refine ⟨fun hp => by omega, fun _ _ => ?_⟩
        exact skip_stop (l.take b) a (by omega) (by rw [hat]; exact hw) (pre2_take l a b 45 45 hb h1) (pre2_take l a b 47 42 hb h2)
    · have hae : a = b := by omega
      subst hae
      have hge := skipTo_ge l a
      rw [hs] at hge
      refine ⟨fun hp => skip_end _ _ (by omega), fun hp => ?_⟩
      simp only at hge
      omega

theorem run_take (P : UInt8 → Bool) : ∀ (r : List UInt8) (c : Nat), (r.take c).takeWhile P = (r.takeWhile P).take c
  | [], c => by simp
  | x :: r, 0 => by simp
  | x :: r, c + 1 => by
    rw [List.take_succ_cons, List.takeWhile_cons, List.takeWhile_cons]
    cases hx : P x
    · simp
    · simp [run_take P r c]

theorem quot_take (q : UInt8) : ∀ (n : Nat) (t : List UInt8), t.length ≤ n → ∀ (c : Nat) (y : List UInt8 × Nat), quotR q t = some y → y.2 ≤ c → quotR q (t.take c) = some y := by
  intro n
  induction n with
  | zero =>
    intro t ht c y h hc
    have : t = [] := List.eq_nil_of_length_eq_zero (by omega)
    subst this
    cases h
  | succ n ih =>
    intro t ht c y h hc
    match t, ht, h with
    | [], _, h => cases h
    | x :: t, ht, h =>
      have hy := (quot_len q _ _ (Nat.le_refl _) y h).2.2
      obtain ⟨c', rfl⟩ : ∃ c', c = c' + 1 := ⟨c - 1, by omega⟩
      rw [List.take_succ_cons]
      by_cases hx : x = q
      · subst hx
        match t, ht, h with
        | [], _, h => simpa using h
        | z :: t, ht, h =>
          by_cases hz : z = x
          · subst hz
            rw [quotR_two] at h
            obtain ⟨v, hv, rfl⟩ := Option.map_eq_some_iff.mp h
            obtain ⟨c'', rfl⟩ : ∃ c'', c' = c'' + 1 := ⟨c' - 1, by simp at hc; omega⟩
            rw [List.take_succ_cons, quotR_two, ih t (by simp at ht; omega) c'' v hv (by simp at hc; omega)]
            rfl
          · rw [quotR_end x (z :: t) (fun _ => by simpa using hz)] at h
            obtain rfl := Option.some.inj h
            refine quotR_end x _ (fun h0 => ?_)
            rw [List.getElem_take]
            simpa using hz
      · rw [quotR_other q x t hx] at h
        obtain ⟨v, hv, rfl⟩ := Option.map_eq_some_iff.mp h
        rw [quotR_other q x _ hx, ih t (by simp at ht; omega) c' v hv (by simp at hc; omega)]
        rfl

theorem tok_take (r : List UInt8) (t : Tk) (h : tokR r = some t) (c : Nat) (hc : t.2.2 ≤ c) : tokR (r.take c) = some t := by
  have hpos := (tok_pos h).1
  match r, h with
  | [], h => cases h
  | x :: q, h =>
    obtain ⟨c', rfl⟩ : ∃ c', c = c' + 1 := ⟨c - 1, by omega⟩
    have hrun := run_take partB (x :: q) (c' + 1)
    rw [List.take_succ_cons] at hrun ⊢
    have hdef : ∀ v : List UInt8, tokR (x :: v) = if partB x = true then wordR x ⟨(runR (x :: v)).toArray⟩ else if x = 34 then textR 2 (quotR 34 v) else if x = 39 then textR 4 (quotR 39 v) else signR (x :: v) := fun v => rfl
    rw [hdef] at h ⊢
    by_cases hp : partB x = true
    · rw [if_pos hp] at h ⊢
      have hm : t.2.2 = (runR (x :: q)).length := by
        unfold wordR at h
        split at h
        · exact chk_len h
        · split at h
          · exact chk_len h
          · exact chk_len h
      have e : runR (x :: q.take c') = runR (x :: q) := by
        unfold runR
        unfold runR at hm
        rw [hrun, List.take_of_length_le (by omega)]
      rw [e]
      exact h
    · rw [if_neg hp] at h ⊢
      by_cases h34 : x = 34
      · rw [if_pos h34] at h ⊢
        cases hy : quotR 34 q with
        | none => rw [hy] at h; cases h
        | some y =>
          rw [hy] at h
          have hm := chk_len h
          rw [quot_take 34 _ q (Nat.le_refl _) c' y hy (by omega)]
          exact h
      · rw [if_neg h34] at h ⊢
        by_cases h39 : x = 39
        · rw [if_pos h39] at h ⊢
          cases hy : quotR 39 q with
          | none => rw [hy] at h; cases h
          | some y =>
            rw [hy] at h
            have hm := chk_len h
            rw [quot_take 39 _ q (Nat.le_refl _) c' y hy (by omega)]
            exact h
        · rw [if_neg h39] at h ⊢
          unfold signR at h ⊢
          by_cases h2 : 2 ≤ (x :: q).length ∧ signOk ⟨((x :: q).take 2).toArray⟩ = true
          · rw [if_pos h2] at h
            have hm := chk_len h
            have e2 : (x :: q.take c').take 2 = (x :: q).take 2 := by
              rw [← List.take_succ_cons, List.take_take, Nat.min_eq_left (by omega)]
            have h3 := h2.1
            rw [e2, if_pos ⟨by simp at h3 ⊢; omega, h2.2⟩]
            exact h
          · rw [if_neg h2] at h
            rw [if_neg]
            · simpa using h
            · rintro ⟨h3, h4⟩
              have h5 : 1 ≤ c' := by simp at h3; omega
              have e2 : (x :: q.take c').take 2 = (x :: q).take 2 := by
                rw [← List.take_succ_cons, List.take_take, Nat.min_eq_left (by omega)]
              rw [e2] at h4
              exact h2 ⟨by simp at h3 ⊢; omega, h4⟩

/-- Lexing from a comes, behind the tokens ts, to a stand at b. -/
inductive Stops (l : List UInt8) : Nat → Nat → List Tk → Prop where
  | here {a b : Nat} {ok : Bool} (h : skipTo l a = (b, ok)) : Stops l a b []
  | tok {a b p : Nat} {t : Tk} {ts : List Tk} (h : skipTo l a = (p, true)) (hp : p < l.length) (ht : tokR (l.drop p) = some t) (hn : Stops l (p + t.2.2) b ts) : Stops l a b ((t.1, t.2.1, p) :: ts)

theorem Stops.le {l : List UInt8} {a b : Nat} {ts : List Tk} (h : Stops l a b ts) : a ≤ b := by
  induction h with
  | @here a b ok h => have := skipTo_ge l a; rw [h] at this; exact this
  | @tok a b p t ts h hp ht hn ih =>
    have := skipTo_ge l a
    rw [h] at this
    have h2 := (tok_pos ht).1
    simp only at this
    omega

theorem lex_stop {l : List UInt8} {a b : Nat} {ts : List Tk} (h : Stops l a b ts) (hb : b ≤ l.length) : lexAt (l.take b) a = (ts, -1) := by
  have hlt : (l.take b).length = b := by rw [List.length_take]; omega
  induction h with
  | @here a b ok h =>
    have hge := skipTo_ge l a
    rw [h] at hge
    exact lex_end ((skip_trunc l b hb _ a b ok rfl hge h).1 rfl) (by omega)
  | @tok a b p t ts h hp ht hn ih =>
    have hle := hn.le
    have hge := skipTo_ge l a
    rw [h] at hge
    simp only at hge
    have hm := tok_pos ht
    have h1 := (skip_trunc l b hb _ a p true rfl (by omega) h).2 (by omega) rfl
    have h2 : tokR ((l.take b).drop p) = some t := by
      rw [List.drop_take]
      exact tok_take _ _ ht _ (by omega)
    rw [lex_tok h1 (by omega) h2 hm.1, ih hb hlt]
    rfl

theorem stop_bad (l : List UInt8) : ∀ (d a p : Nat), l.length - a = d → lexAt l a = ([], (p : Int)) → ∃ ts, Stops l a p ts := by
  intro d
  induction d using Nat.strongRecOn with
  | _ d ih =>
    intro a p hd h
    obtain ⟨q, ok, hs⟩ : ∃ q ok, skipTo l a = (q, ok) := ⟨_, _, rfl⟩
    have hge := skipTo_ge l a
    rw [hs] at hge
    simp only at hge
    cases ok
    · rw [lex_bad hs] at h
      injection h with _ h
      have : q = p := by omega
      subst this
      exact ⟨[], .here hs⟩
    · by_cases hq : q < l.length
      · cases ht : tokR (l.drop q) with
        | none =>
          rw [lex_no hs hq ht] at h
          injection h with _ h
          have : q = p := by omega
          subst this
          exact ⟨[], .here hs⟩
        | some t =>
          have hm := tok_pos ht
          rw [lex_tok hs hq ht hm.1] at h
          unfold lexPre at h
          split at h
          · injection h with h _
            simp at h
          · injection h with _ h
            have hsh := lex_shape l (q + t.2.2)
            have he : lexAt l (q + t.2.2) = ([], (p : Int)) := by
              rcases hsh with h9 | h9
              · rw [h9] at h; omega
              · rw [← h, ← h9]
            obtain ⟨ts, hts⟩ := ih (l.length - (q + t.2.2)) (by omega) (q + t.2.2) p rfl he
            exact ⟨_, .tok hs hq ht hts⟩
      · rw [lex_end hs (by omega)] at h
        injection h with _ h
        omega

theorem stop_tok (l : List UInt8) : ∀ (d a : Nat) (toks : List Tk), l.length - a = d → lexAt l a = (toks, -1) → ∀ k (hk : k < toks.length), Stops l a (toks[k].2.2) (toks.take k) := by
  intro d
  induction d using Nat.strongRecOn with
  | _ d ih =>
    intro a toks hd h k hk
    obtain ⟨q, ok, hs⟩ : ∃ q ok, skipTo l a = (q, ok) := ⟨_, _, rfl⟩
    have hge := skipTo_ge l a
    rw [hs] at hge
    simp only at hge
    cases ok
    · rw [lex_bad hs] at h
      injection h with _ h
      omega
    · by_cases hq : q < l.length
      · cases ht : tokR (l.drop q) with
        | none =>
          rw [lex_no hs hq ht] at h
          injection h with _ h
          omega
        | some t =>
          have hm := tok_pos ht
          rw [lex_tok hs hq ht hm.1] at h
          unfold lexPre at h
          split at h
          · rename_i h9
            injection h with h _
            subst h
            cases k with
            | zero => exact .here hs
            | succ k =>
              have hk' : k < (lexAt l (q + t.2.2)).1.length := by simpa using hk
              have := ih (l.length - (q + t.2.2)) (by omega) (q + t.2.2) (lexAt l (q + t.2.2)).1 rfl (by rw [← h9]) k hk'
              exact .tok hs hq ht this
          · injection h with _ h
            contradiction
      · rw [lex_end hs (by omega)] at h
        injection h with h _
        subst h
        simp at hk
end Go.Proofs.YtfnjcgakcpadiaaGreatDoor

/-
  Lex's answers: what the laws ask of them. A plain law.
-/
namespace Go.Proofs.YtfnjcgakcpadiaaGreatDoor
open Go.RowKit

theorem tok_good {r : List UInt8} {t : Tk} (h : tokR r = some t) : tokOk t.1 t.2.1 = true := by
  have hc : ∀ {k x m}, chk k x m = some t → tokOk t.1 t.2.1 = true := fun {k x m} h => by
    obtain ⟨rfl, h2⟩ := chk_some h
    exact h2
  match r, h with
  | c :: q, h =>
    have hdef : tokR (c :: q) = if partB c = true then wordR c ⟨(runR (c :: q)).toArray⟩ else if c = 34 then textR 2 (quotR 34 q) else if c = 39 then textR 4 (quotR 39 q) else signR (c :: q) := rfl
    rw [hdef] at h
    split at h
    · unfold wordR at h
      split at h
      · exact hc h
      · split at h
        · exact hc h
        · exact hc h
    · split at h
      · cases hy : quotR 34 q with
        | none => rw [hy] at h; cases h
        | some y => rw [hy] at h; exact hc h
      · split at h
        · cases hy : quotR 39 q with
          | none => rw [hy] at h; cases h
          | some y => rw [hy] at h; exact hc h
        · unfold signR at h
          split at h
          · exact hc h
          · exact hc h

theorem Stops.le_len {l : List UInt8} {a b : Nat} {ts : List Tk} (h : Stops l a b ts) (ha : a ≤ l.length) : b ≤ l.length := by
  induction h with
  | @here a b ok h =>
    have := skipTo_le l _ a rfl ha
    rw [h] at this
    exact this.1
  | @tok a b p t ts h hp ht hn ih =>
    have hm := (tok_pos ht).2
    rw [List.length_drop] at hm
    exact ih (by omega)

theorem lexS_bad (s : ByteArray) (hs : s.size ≤ 2000) (toks : List Tk) (bad : Int) (h : lexS s = (toks, bad)) (hb : bad ≠ -1) :
    ∃ p : Nat, bad = (p : Int) ∧ p ≤ s.size ∧ toks = [] ∧ ∃ ts, lexS (s.extract 0 p) = (ts, -1) := by
  rw [lexS_of s hs] at h
  have hl := list_size s
  have hsh := lex_shape s.data.toList 0
  rw [h] at hsh
  rcases hsh with h1 | h1
  · exact absurd h1 hb
  · simp only at h1
    subst h1
    have hex : ∀ (l : List UInt8) (d a : Nat) (bad : Int), l.length - a = d → (lexAt l a).2 = bad → bad ≠ -1 → ∃ p : Nat, bad = (p : Int) := by
      intro l d
      induction d using Nat.strongRecOn with
      | _ d ih =>
        intro a bad hd h hb
        obtain ⟨q, ok, hsk⟩ : ∃ q ok, skipTo l a = (q, ok) := ⟨_, _, rfl⟩
        have hge := skipTo_ge l a
        rw [hsk] at hge
        simp only at hge
        cases ok
        · rw [lex_bad hsk] at h; exact ⟨q, h.symm⟩
        · by_cases hq : q < l.length
          · cases ht : tokR (l.drop q) with
            | none => rw [lex_no hsk hq ht] at h; exact ⟨q, h.symm⟩
            | some t =>
              have hm := tok_pos ht
              rw [lex_tok hsk hq ht hm.1] at h
              unfold lexPre at h
              split at h
              · exact absurd h.symm hb
              · exact ih (l.length - (q + t.2.2)) (by omega) (q + t.2.2) bad rfl h hb
          · rw [lex_end hsk (by omega)] at h; exact absurd h.symm hb
    obtain ⟨p, rfl⟩ := hex s.data.toList _ 0 bad rfl (by rw [h]) hb
    obtain ⟨ts, hts⟩ := stop_bad s.data.toList _ 0 p rfl h
    have hle := hts.le_len (by omega)
    refine ⟨p, rfl, by omega, rfl, ts, ?_⟩
    rw [lexS_of _ (by simp [ByteArray.size_extract]; omega), Lib.extract_data]
    simp only [List.drop_zero, Nat.sub_zero]
    exact lex_stop hts hle

theorem lex_facts (l : List UInt8) : ∀ (d a : Nat) (toks : List Tk), l.length - a = d → lexAt l a = (toks, -1) →
    (∀ i (h : i < toks.length), tokOk toks[i].1 toks[i].2.1 = true ∧ a ≤ toks[i].2.2 ∧ toks[i].2.2 < l.length) ∧ ∀ i (h : i + 1 < toks.length), toks[i].2.2 < toks[i + 1].2.2 := by
  intro d
  induction d using Nat.strongRecOn with
  | _ d ih =>
    intro a toks hd h
    obtain ⟨q, ok, hs⟩ : ∃ q ok, skipTo l a = (q, ok) := ⟨_, _, rfl⟩
    have hge := skipTo_ge l a
    rw [hs] at hge
    simp only at hge
    cases ok
    · rw [lex_bad hs] at h
      injection h with _ h
      omega
    · by_cases hq : q < l.length
      · cases ht : tokR (l.drop q) with
        | none =>
          rw [lex_no hs hq ht] at h
          injection h with _ h
          omega
        | some t =>
          have hm := tok_pos ht
          rw [lex_tok hs hq ht hm.1] at h
          unfold lexPre at h
          split at h
          · rename_i h9
            injection h with h _
            subst h
            obtain ⟨i1, i2⟩ := ih (l.length - (q + t.2.2)) (by omega) (q + t.2.2) (lexAt l (q + t.2.2)).1 rfl (by rw [← h9])
            refine ⟨fun i hi => ?_, fun i hi => ?_⟩
            · cases i with
              | zero =>
                have hz : tokOk t.1 t.2.1 = true := tok_good ht
                exact ⟨hz, hge, hq⟩
              | succ i =>
                have hi' : i < (lexAt l (q + t.2.2)).1.length := by simpa using hi
                obtain ⟨j1, j2, j3⟩ := i1 i hi'
                exact ⟨j1, (by show a ≤ ((lexAt l (q + t.2.2)).1[i]'hi').2.2; omega), j3⟩
            · cases i with
              | zero =>
                have hi' : 0 < (lexAt l (q + t.2.2)).1.length := by simpa using hi
                obtain ⟨_, j2, _⟩ := i1 0 hi'
                show q < ((lexAt l (q + t.2.2)).1[0]'hi').2.2
                omega
              | succ i =>
                have hi' : i + 1 < (lexAt l (q + t.2.2)).1.length := by simpa using hi
                exact i2 i hi'
          · injection h with _ h
            contradiction
      · rw [lex_end hs (by omega)] at h
        injection h with h _
        subst h
        exact ⟨fun i hi => absurd hi (by simp), fun i hi => absurd hi (by simp)⟩

theorem lexS_good (s : ByteArray) (toks : List Tk) (h : lexS s = (toks, -1)) :
    s.size ≤ 2000 ∧ (∀ i (h : i < toks.length), tokOk toks[i].1 toks[i].2.1 = true ∧ toks[i].2.2 < s.size) ∧ (∀ i (h : i + 1 < toks.length), toks[i].2.2 < toks[i + 1].2.2) ∧
    ∀ k (hk : k < toks.length), lexS (s.extract 0 toks[k].2.2) = (toks.take k, -1) := by
  have hl := list_size s
  have hs : s.size ≤ 2000 := by
    rcases Nat.lt_or_ge 2000 s.size with h1 | h1
    · unfold lexS at h
      rw [if_pos h1] at h
      injection h with _ h
      cases h
    · exact h1
  rw [lexS_of s hs] at h
  obtain ⟨i1, i2⟩ := lex_facts s.data.toList _ 0 toks rfl h
  refine ⟨hs, fun i hi => ⟨(i1 i hi).1, by have := (i1 i hi).2.2; omega⟩, i2, fun k hk => ?_⟩
  have hst := stop_tok s.data.toList _ 0 toks rfl h k hk
  have hle := hst.le_len (by omega)
  rw [lexS_of _ (by simp [ByteArray.size_extract]; omega), Lib.extract_data]
  simp only [List.drop_zero, Nat.sub_zero]
  exact lex_stop hst hle
end Go.Proofs.YtfnjcgakcpadiaaGreatDoor
