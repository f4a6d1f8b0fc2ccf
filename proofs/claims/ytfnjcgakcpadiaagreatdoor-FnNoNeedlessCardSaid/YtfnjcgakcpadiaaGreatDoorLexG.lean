/-
  Two tokens' texts that touch: which pairs are lexed as they were. A plain law.
-/
import Derived.Test.YtfnjcgakcpadiaaGreatDoorLexE
namespace Go.Proofs.YtfnjcgakcpadiaaGreatDoor
open Go.RowKit

def sgGapL (a b : List UInt8) : Bool :=
  if a == [45] then b == [45] else if a == [47] then b == [42] else if a == [60] then b.head? == some 61 || b.head? == some 62 else if a == [62] then b.head? == some 61 else false
theorem signGap_L (a b : ByteArray) : signGap a b = sgGapL a.data.toList b.data.toList := by
  unfold signGap sgGapL gap0
  rw [ByteArray.toList_eq, ByteArray.toList_eq]

def pairB (a b : List UInt8) : Bool := sgGapL a b || (match a, b with
  | [c], d :: _ => !(signB.contains [c, d]) && !(c == 45 && d == 45) && !(c == 47 && d == 42)
  | _, _ => true)
theorem pairs_ok : ∀ a ∈ signB, ∀ b ∈ signB, pairB a b = true := by decide +kernel
def gapsB (a b : List UInt8) : Bool := !(sgGapL a b) || [([45], [45]), ([47], [42]), ([60], [61]), ([60], [62]), ([60], [62, 61]), ([62], [61])].contains (a, b)
theorem gaps_ok : ∀ a ∈ signB, ∀ b ∈ signB, gapsB a b = true := by decide +kernel

theorem txt_head {k : Int} {x : ByteArray} (h : tokOk k x = true) {d : UInt8} (hd : (txtL k x).head? = some d) : Begins k x d := by
  obtain ⟨c, t, he, hb⟩ := txt_begin h
  rw [he] at hd
  simp at hd
  subst hd
  exact hb

theorem follows_txt {ka kb : Int} {xa xb : ByteArray} (ha : tokOk ka xa = true) (hb : tokOk kb xb = true) (hg : gapB ka xa kb xb = false) : Follows ka xa (txtL kb xb) := by
  rw [gap_both ha hb] at hg
  simp only [Bool.or_eq_false_iff] at hg
  obtain ⟨⟨⟨hgw, hgq⟩, hgt⟩, hgs⟩ := hg
  refine ⟨(fun hw d hd => ?_), (fun hq d hd => ?_), (fun h4 d hd => ?_), (fun h5 d hd c hc => ?_)⟩
  · have hB := txt_head hb hd
    cases hB with
    | word h hc => rw [hw, h] at hgw; cases hgw
    | quot h => decide
    | text h => decide
    | sign h hc hm =>
      obtain ⟨e, t, he, hp, _⟩ := sign_bytes _ hm
      rw [he] at hc
      simp at hc
      subst hc
      exact hp
  · have hB := txt_head hb hd
    cases hB with
    | word h hc => rintro rfl; exact absurd hc (by decide)
    | quot h => rw [hq, h] at hgq; cases hgq
    | text h => decide
    | sign h hc hm =>
      obtain ⟨e, t, he, _, hp, _⟩ := sign_bytes _ hm
      rw [he] at hc
      simp at hc
      subst hc
      exact hp
  · have hB := txt_head hb hd
    subst h4
    cases hB with
    | word h hc => rintro rfl; exact absurd hc (by decide)
    | quot h => decide
    | text h => subst h; simp at hgt
    | sign h hc hm =>
      obtain ⟨e, t, he, _, _, hp, _⟩ := sign_bytes _ hm
      rw [he] at hc
      simp at hc
      subst hc
      exact hp
  · have hB := txt_head hb hd
    subst h5
    have hma := sign_cases (tok5 ha)
    rw [hc] at hma
    have hsb : ∀ d, [c, d] ∈ signB → partB d = false ∧ d ≠ 34 ∧ d ≠ 39 := fun d hm => by
      obtain ⟨e, t, he, _, _, _, _, _, _, ht⟩ := sign_bytes _ hm
      injection he with _ he
      subst he
      have := ht d (by simp)
      exact ⟨this.1, this.2.1, this.2.2.1⟩
    cases hB with
    | word h hp =>
      refine ⟨fun hm => ?_, ?_, ?_⟩
      · rw [(hsb d hm).1] at hp; cases hp
      · rintro ⟨_, rfl⟩; exact absurd hp (by decide)
      · rintro ⟨_, rfl⟩; exact absurd hp (by decide)
    | quot h => exact ⟨fun hm => (hsb 34 hm).2.1 rfl, fun h => absurd h.2 (by decide), fun h => absurd h.2 (by decide)⟩
    | text h => exact ⟨fun hm => (hsb 39 hm).2.2 rfl, fun h => absurd h.2 (by decide), fun h => absurd h.2 (by decide)⟩
    | sign h hx hm =>
      subst h
      have hgs2 : sgGapL [c] xb.data.toList = false := by
        rw [signGap_L, hc] at hgs
        simpa using hgs
      have hp := pairs_ok [c] hma _ hm
      unfold pairB at hp
      rw [hgs2] at hp
      obtain ⟨e, t, he, _⟩ := sign_bytes _ hm
      rw [he] at hp hx
      simp at hx
      subst hx
      simp only [Bool.false_or, Bool.and_eq_true, Bool.not_eq_true', Bool.and_eq_false_iff, beq_eq_false_iff_ne, ne_eq] at hp
      obtain ⟨⟨h1, h2⟩, h3⟩ := hp
      refine ⟨fun hm => ?_, fun h => ?_, fun h => ?_⟩
      · have : signB.contains [c, e] = true := List.contains_iff_mem.mpr hm
        rw [this] at h1
        cases h1
      · rcases h2 with h2 | h2
        · exact h2 h.1
        · exact h2 h.2
      · rcases h3 with h3 | h3
        · exact h3 h.1
        · exact h3 h.2

theorem lex_pair {ka kb : Int} {xa xb : ByteArray} (ha : tokOk ka xa = true) (hb : tokOk kb xb = true) (hg : gapB ka xa kb xb = false) :
    lexAt (txtL ka xa ++ txtL kb xb) 0 = ([(ka, xa, 0), (kb, xb, (txtL ka xa).length)], -1) := by
  rw [lex_txt ha (R := txtL kb xb) (by simp) (follows_txt ha hb hg)]
  rw [lex_txt hb (R := []) (p := 0 + (txtL ka xa).length) (by simp) (follows_nil kb xb), lex_done _ _ (by simp), lexPre_end, Nat.zero_add]
  rfl

theorem skip_plain (l : List UInt8) (c : UInt8) (t : List UInt8) (hl : l = c :: t) (hw : wsB c = false) (h1 : c ≠ 45) (h2 : c ≠ 47) : skipTo l 0 = (0, true) := by
  subst hl
  refine skip_stop _ 0 (by simp) hw ?_ ?_
  · refine pre2_no _ 0 45 45 ?_
    rintro ⟨_, h, _⟩
    exact h1 (by simpa using h)
  · refine pre2_no _ 0 47 42 ?_
    rintro ⟨_, h, _⟩
    exact h2 (by simpa using h)

theorem one_only (l : List UInt8) (hs : skipTo l 0 = (0, true)) (hl : 0 < l.length) (ht : ∀ t, tokR l = some t → t.2.2 = l.length) (toks : List Tk) (h : lexAt l 0 = (toks, -1)) : toks.length = 1 := by
  cases hr : tokR l with
  | none =>
    rw [lex_no hs hl (by simpa using hr)] at h
    injection h with _ h
    cases h
  | some t =>
    have hm := ht t hr
    rw [lex_tok hs hl (t := t) (by simpa using hr) (by omega), lex_done _ _ (by rw [hm]; simp)] at h
    injection h with h _
    subst h
    rfl

theorem lex_gap {ka kb : Int} {xa xb : ByteArray} (ha : tokOk ka xa = true) (hb : tokOk kb xb = true) (hg : gapB ka xa kb xb = true) (toks : List Tk) (h : lexAt (txtL ka xa ++ txtL kb xb) 0 = (toks, -1)) :
    ¬ ∃ pa pb, toks = [(ka, xa, pa), (kb, xb, pb)] := by
  rw [gap_both ha hb] at hg
  simp only [Bool.or_eq_true, Bool.and_eq_true] at hg
  have hwt : ∀ {k : Int} {x : ByteArray}, tokOk k x = true → wordB k x = true → txtL k x = x.data.toList := fun {k x} hk hw => by
    rcases tok_cls hk with ⟨_, hq, k4, _⟩ | ⟨hw', _⟩ | ⟨rfl, hw', _⟩ | ⟨rfl, hw', _⟩
    · unfold txtL
      rw [if_neg (by rw [hq]; simp), if_neg (by rintro rfl; simp at k4)]
    · rw [hw] at hw'; cases hw'
    · rw [hw] at hw'; cases hw'
    · rw [hw] at hw'; cases hw'
  rcases hg with ((⟨hw, hw'⟩ | ⟨hq, hq'⟩) | ⟨h4, h4'⟩) | ⟨⟨h5, h5'⟩, hs⟩
  · -- two words
    rw [hwt ha hw, hwt hb hw'] at h
    have hA := word_of ha hw
    have hB := word_of hb hw'
    have hall : ∀ c ∈ xa.data.toList ++ xb.data.toList, partB c = true := fun c hc => by
      rcases List.mem_append.mp hc with hc | hc
      · exact hA.all c hc
      · exact hB.all c hc
    have hlen : 0 < (xa.data.toList ++ xb.data.toList).length := by
      have := List.length_pos_iff.mpr hA.ne
      rw [List.length_append]
      omega
    generalize xa.data.toList ++ xb.data.toList = l at hall hlen h
    match l, hlen with
    | c :: t, hlen =>
      have hp := hall c (List.mem_cons_self)
      have hrun := run_all (c :: t) [] hall (fun h => absurd h (by simp))
      rw [List.append_nil] at hrun
      have h1 := one_only (c :: t) (skip_plain _ c t rfl (begins_ws (.word hw hp)) (by rintro rfl; exact absurd hp (by decide)) (by rintro rfl; exact absurd hp (by decide))) hlen (fun u hu => by
        have hu2 : wordR c ⟨(runR (c :: t)).toArray⟩ = some u := by
          have : tokR (c :: t) = if partB c = true then wordR c ⟨(runR (c :: t)).toArray⟩ else if c = 34 then textR 2 (quotR 34 t) else if c = 39 then textR 4 (quotR 39 t) else signR (c :: t) := rfl
          rw [this, if_pos hp] at hu
          exact hu
        rw [hrun] at hu2
        unfold wordR at hu2
        split at hu2
        · exact chk_len hu2
        · split at hu2
          · exact chk_len hu2
          · exact chk_len hu2) toks h
      rintro ⟨pa, pb, rfl⟩
      simp at h1
  · -- two names in quotes
    have e1 : txtL ka xa = quoteL 34 xa := by unfold txtL; rw [if_pos hq]
    have e2 : txtL kb xb = quoteL 34 xb := by unfold txtL; rw [if_pos hq']
    rw [e1, e2] at h
    have e3 : quoteL 34 xa ++ quoteL 34 xb = 34 :: (xa.data.toList.flatMap (dbl 34) ++ 34 :: 34 :: (xb.data.toList.flatMap (dbl 34) ++ [34])) := by unfold quoteL; simp
    have hq2 := quot_twice 34 xa.data.toList xb.data.toList
    have hlen : ((xa.data.toList ++ 34 :: xb.data.toList).flatMap (dbl 34)).length + 1 + 1 = (34 :: (xa.data.toList.flatMap (dbl 34) ++ 34 :: 34 :: (xb.data.toList.flatMap (dbl 34) ++ [34]))).length := by
      rw [List.flatMap_append, List.flatMap_cons]
      have : (dbl 34 34).length = 2 := rfl
      simp [this]
      omega
    rw [e3] at h
    generalize hL : xa.data.toList.flatMap (dbl 34) ++ 34 :: 34 :: (xb.data.toList.flatMap (dbl 34) ++ [34]) = L at h hq2 hlen
    have h1 := one_only (34 :: L) (skip_plain _ 34 L rfl rfl (by decide) (by decide)) (by simp) (fun u hu => by
      have hu2 : textR 2 (quotR 34 L) = some u := hu
      rw [hq2] at hu2
      rw [← hlen]
      exact chk_len hu2) toks h
    rintro ⟨pa, pb, rfl⟩
    simp at h1
  · -- two texts
    have h4 : ka = 4 := by simpa using h4
    have h4' : kb = 4 := by simpa using h4'
    subst h4 h4'
    have hqf : ∀ x, quotB 4 x = false := fun x => by simp [quotB]
    have e1 : txtL 4 xa = quoteL 39 xa := by unfold txtL; rw [if_neg (by rw [hqf]; simp), if_pos rfl]
    have e2 : txtL 4 xb = quoteL 39 xb := by unfold txtL; rw [if_neg (by rw [hqf]; simp), if_pos rfl]
    rw [e1, e2] at h
    have e3 : quoteL 39 xa ++ quoteL 39 xb = 39 :: (xa.data.toList.flatMap (dbl 39) ++ 39 :: 39 :: (xb.data.toList.flatMap (dbl 39) ++ [39])) := by unfold quoteL; simp
    have hq2 := quot_twice 39 xa.data.toList xb.data.toList
    have hlen : ((xa.data.toList ++ 39 :: xb.data.toList).flatMap (dbl 39)).length + 1 + 1 = (39 :: (xa.data.toList.flatMap (dbl 39) ++ 39 :: 39 :: (xb.data.toList.flatMap (dbl 39) ++ [39]))).length := by
      rw [List.flatMap_append, List.flatMap_cons]
      have : (dbl 39 39).length = 2 := rfl
      simp [this]
      omega
    rw [e3] at h
    generalize hL : xa.data.toList.flatMap (dbl 39) ++ 39 :: 39 :: (xb.data.toList.flatMap (dbl 39) ++ [39]) = L at h hq2 hlen
    have h1 := one_only (39 :: L) (skip_plain _ 39 L rfl rfl (by decide) (by decide)) (by simp) (fun u hu => by
      have hu2 : textR 4 (quotR 39 L) = some u := hu
      rw [hq2] at hu2
      rw [← hlen]
      exact chk_len hu2) toks h
    rintro ⟨pa, pb, rfl⟩
    simp at h1
  · -- two operators
    have h5 : ka = 5 := by simpa using h5
    have h5' : kb = 5 := by simpa using h5'
    subst h5 h5'
    have hqf : ∀ x, quotB 5 x = false := fun x => by simp [quotB]
    have e1 : ∀ x, txtL 5 x = x.data.toList := fun x => by unfold txtL; rw [if_neg (by rw [hqf]; simp), if_neg (by decide)]
    rw [e1, e1] at h
    have hma := sign_cases (tok5 ha)
    have hmb := sign_cases (tok5 hb)
    have hgs := gaps_ok _ hma _ hmb
    rw [signGap_L] at hs
    unfold gapsB at hgs
    rw [hs] at hgs
    simp only [Bool.not_true, Bool.false_or] at hgs
    have hin := List.contains_iff_mem.mp hgs
    have key : ∀ (c d : UInt8) (t : List UInt8), xa.data.toList = [c] → xb.data.toList = d :: t → [c, d] ∈ signB → partB c = false → wsB c = false → c ≠ 34 → c ≠ 39 → c ≠ 45 → c ≠ 47 → ¬ ∃ pa pb, toks = [(5, xa, pa), (5, xb, pb)] := by
      intro c d t hxa hxb hm hp hw h34 h39 h45 h47
      rw [hxa, hxb] at h
      have h : lexAt (c :: d :: t) 0 = (toks, -1) := h
      have hok : tokOk 5 ⟨([c, d] : List UInt8).toArray⟩ = true := by
        unfold tokOk
        rw [if_neg (by decide), if_neg (by decide), if_neg (by decide), if_neg (by decide), if_pos rfl]
        exact sign_back.mpr hm
      have ht : tokR ([c] ++ d :: t) = some (5, ⟨([c, d] : List UInt8).toArray⟩, 2) := by
        have : tokR ([c] ++ d :: t) = if partB c = true then wordR c ⟨(runR (c :: d :: t)).toArray⟩ else if c = 34 then textR 2 (quotR 34 (d :: t)) else if c = 39 then textR 4 (quotR 39 (d :: t)) else signR (c :: d :: t) := rfl
        rw [this, if_neg (by rw [hp]; simp), if_neg h34, if_neg h39]
        unfold signR
        rw [if_pos ⟨by simp, by show signOk ⟨([c, d] : List UInt8).toArray⟩ = true; exact sign_back.mpr hm⟩]
        exact tok_ok_eq hok
      rw [lex_tok (skip_plain _ c (d :: t) rfl hw h45 h47) (by simp) (t := (5, ⟨([c, d] : List UInt8).toArray⟩, 2)) (by simpa using ht) (by show 1 ≤ 2; omega)] at h
      rintro ⟨pa, pb, rfl⟩
      unfold lexPre at h
      split at h
      · injection h with h _
        injection h with h _
        injection h with _ h
        injection h with h _
        have := congrArg (fun x : ByteArray => x.data.toList.length) h
        simp [hxa] at this
      · injection h with h _
        cases h
    simp only [List.mem_cons, Prod.mk.injEq, List.mem_nil_iff, or_false] at hin
    rcases hin with ⟨h1, h2⟩ | ⟨h1, h2⟩ | ⟨h1, h2⟩ | ⟨h1, h2⟩ | ⟨h1, h2⟩ | ⟨h1, h2⟩
    · rw [h1, h2] at h
      have hsk : skipTo ([45] ++ [45]) 0 = (2, true) := by
        rw [skip_line _ 0 2 (by decide) rfl rfl (by decide) (by decide) (fun j hj _ _ => ?_) (fun h => absurd h (by decide)), skip_end _ 2 (by decide)]
        match j, hj with
        | 0, _ => exact (show (45 : UInt8) ≠ 10 by decide)
        | 1, _ => exact (show (45 : UInt8) ≠ 10 by decide)
      rw [lex_end hsk (by decide)] at h
      injection h with h _
      subst h
      rintro ⟨_, _, h⟩
      cases h
    · rw [h1, h2] at h
      have hsk : skipTo ([47] ++ [42]) 0 = (0, false) := skip_open _ 0 (by decide) rfl rfl (by decide)
      rw [lex_bad hsk] at h
      injection h with _ h
      cases h
    · exact key 60 61 [] h1 h2 (by decide) (by decide) rfl (by decide) (by decide) (by decide) (by decide)
    · exact key 60 62 [] h1 h2 (by decide) (by decide) rfl (by decide) (by decide) (by decide) (by decide)
    · exact key 60 62 [61] h1 h2 (by decide) (by decide) rfl (by decide) (by decide) (by decide) (by decide)
    · exact key 62 61 [] h1 h2 (by decide) (by decide) rfl (by decide) (by decide) (by decide) (by decide)
end Go.Proofs.YtfnjcgakcpadiaaGreatDoor
