import Derived.Lib.Replace
import Derived.Lib.CountLaws
import Derived.Test.YtfnjcgakcpadiaaGreatDoorRows
import Derived.WalkKit
import Derived.WalkLawsBesides
import Derived.WalkSpells
import Derived.Handy
import Derived.Test.YtfnjcgakcpadiaaGreatDoorGBase
/-
  Replacing each instance of one byte by two of it: the plain law.
-/
namespace Go.Proofs.YtfnjcgakcpadiaaGreatDoor
open Go.Lib

/-- A byte, twice where it is b. -/
def dbl (b c : UInt8) : List UInt8 := if c = b then [b, b] else [c]

theorem pre_one (b c : UInt8) (l : List UInt8) : ([b] : List UInt8).isPrefixOf (c :: l) = (b == c) := by
  simp [List.isPrefixOf]

theorem idx_no (b : UInt8) : ∀ s : List UInt8, index s [b] = -1 → ∀ c ∈ s, c ≠ b
  | [], _, c, hc => by simp at hc
  | x :: l, h, c, hc => by
    unfold index at h
    rw [pre_one] at h
    by_cases hx : b = x
    · simp [hx] at h
    · have hx' : (b == x) = false := by simpa using hx
      rw [hx'] at h
      simp only [Bool.false_eq_true, if_false] at h
      by_cases hl : index l [b] = -1
      · rcases List.mem_cons.mp hc with rfl | hc
        · exact fun e => hx e.symm
        · exact idx_no b l hl c hc
      · have hl' : (index l [b] == -1) = false := by simpa using hl
        rw [hl'] at h
        have := index_ge l [b]
        simp only [Bool.false_eq_true, if_false] at h
        omega

theorem idx_at (b : UInt8) : ∀ (s : List UInt8) (i : Nat), index s [b] = (i : Int) → s = s.take i ++ b :: s.drop (i + 1) ∧ ∀ c ∈ s.take i, c ≠ b
  | [], i, h => by unfold index at h; simp at h
  | x :: l, i, h => by
    unfold index at h
    rw [pre_one] at h
    by_cases hx : b = x
    · subst hx
      simp only [beq_self_eq_true, if_true] at h
      have hi : i = 0 := by omega
      subst hi
      simp
    · have hx' : (b == x) = false := by simpa using hx
      rw [hx'] at h
      simp only [Bool.false_eq_true, if_false] at h
      by_cases hl : index l [b] = -1
      · rw [hl] at h
        simp at h
      · have hl' : (index l [b] == -1) = false := by simpa using hl
        rw [hl'] at h
        have hge := index_ge l [b]
        simp only [Bool.false_eq_true, if_false] at h
        obtain ⟨j, rfl⟩ : ∃ j, i = j + 1 := ⟨i - 1, by omega⟩
        obtain ⟨h1, h2⟩ := idx_at b l j (by omega)
        refine ⟨?_, ?_⟩
        · rw [List.take_succ_cons, List.drop_succ_cons, List.cons_append]
          exact congrArg (x :: ·) h1
        · intro c hc
          rw [List.take_succ_cons] at hc
          rcases List.mem_cons.mp hc with rfl | hc
          · exact fun e => hx e.symm
          · exact h2 c hc

theorem dbl_none (b : UInt8) (s : List UInt8) (h : ∀ c ∈ s, c ≠ b) : s.flatMap (dbl b) = s := by
  induction s with
  | nil => rfl
  | cons x l ih =>
    rw [List.flatMap_cons, ih (fun c hc => h c (List.mem_cons_of_mem _ hc))]
    simp [dbl, h x (List.mem_cons_self)]

theorem dbl_replaceK (b : UInt8) : ∀ (n : Nat) (s : List UInt8), s.length ≤ n → replaceK [b] [b, b] (count s [b]) s = s.flatMap (dbl b) := by
  intro n
  induction n with
  | zero =>
    intro s hs
    have : s = [] := List.eq_nil_of_length_eq_zero (by omega)
    subst this
    have h : index ([] : List UInt8) [b] = -1 := by simp [index]
    rw [count_miss h]
    rfl
  | succ n ih =>
    intro s hs
    by_cases hm : index s [b] = -1
    · rw [count_miss hm, dbl_none b s (idx_no b s hm)]
      rfl
    · have hge := index_ge s [b]
      obtain ⟨i, hi⟩ : ∃ i : Nat, index s [b] = (i : Int) := ⟨(index s [b]).toNat, by omega⟩
      obtain ⟨h1, h2⟩ := idx_at b s i hi
      rw [count_hit (by simp) hi, Nat.add_comm, replaceK_hit [b] [b, b] _ s i hi]
      have hlt : (s.drop (i + 1)).length ≤ n := by
        have h3 := congrArg List.length h1
        simp at h3 ⊢
        omega
      have e := ih (s.drop (i + 1)) hlt
      show s.take i ++ [b, b] ++ replaceK [b] [b, b] (count (s.drop (i + 1)) [b]) (s.drop (i + 1)) = _
      rw [e]
      conv => rhs; rw [h1]
      rw [List.flatMap_append, List.flatMap_cons, dbl_none b _ h2]
      simp [dbl]

theorem dbl_replaceAll (b : UInt8) (s : List UInt8) : replaceAll s [b] [b, b] = s.flatMap (dbl b) := by
  unfold replaceAll replace replaceNum
  rw [if_neg (by simp), if_pos (.inl (by omega))]
  exact dbl_replaceK b s.length s (Nat.le_refl _)
end Go.Proofs.YtfnjcgakcpadiaaGreatDoor

/-
  l2Quote, the reference's quoting.
-/
namespace Go.Proofs.YtfnjcgakcpadiaaGreatDoor
open Go.RowKit

/-- A text in quotes. -/
def quoteL (b : UInt8) (s : ByteArray) : List UInt8 := b :: (s.data.toList.flatMap (dbl b) ++ [b])

theorem Tryz.infoU8 : (Tryz.prog.info? 5).map (fun i => (i.zero, i.size, i.bytes)) = some (some (.int .u8 0), 1, 1) := by kernel_rfl

theorem owns_one (w : World) (e : TypeId) (x : Value) : (w.alloc (.cells #[x] e)).ownsRow w.heap.size e 1 (.slice (some ⟨w.heap.size, 0, none⟩) 1 1) 1 [x] :=
  ⟨by simp, .inr ⟨w.heap.size, 1, #[x], rfl, Nat.le_refl _, by show (w.heap.push _)[w.heap.size]? = _; simp, Nat.le_refl _, by decide, rfl, by simp⟩⟩

theorem dbl_take (b : UInt8) (l : List UInt8) (k : Nat) (hk : k < l.length) : (l.take (k + 1)).flatMap (dbl b) = (l.take k).flatMap (dbl b) ++ dbl b l[k] := by
  rw [List.take_succ_eq_append_getElem hk, List.flatMap_append]
  simp
theorem dbl_len (b : UInt8) (l : List UInt8) : (l.flatMap (dbl b)).length ≤ 2 * l.length := by
  induction l with
  | nil => simp
  | cons x l ih =>
    rw [List.flatMap_cons, List.length_append, List.length_cons]
    have : (dbl b x).length ≤ 2 := by unfold dbl; split <;> simp
    omega

/-- What stands behind k bytes. -/
def preQ (b : UInt8) (s : ByteArray) (k : Nat) : List UInt8 := b :: (s.data.toList.take k).flatMap (dbl b)
theorem preQ_len (b : UInt8) (s : ByteArray) (k : Nat) : (preQ b s k).length ≤ 2 * s.size + 1 := by
  unfold preQ
  have h1 := dbl_len b (s.data.toList.take k)
  have h2 : (s.data.toList.take k).length ≤ s.size := by
    rw [List.length_take]
    have : s.data.toList.length = s.size := Array.length_toList
    omega
  rw [List.length_cons]
  omega
theorem preQ_succ (b : UInt8) (s : ByteArray) (k : Nat) (hk : k < s.size) : preQ b s (k + 1) = preQ b s k ++ dbl b s[k] := by
  have hl : s.data.toList.length = s.size := Array.length_toList
  unfold preQ
  rw [dbl_take b _ k (by omega)]
  simp [ByteArray.getElem_eq_getElem_data]
theorem preQ_all (b : UInt8) (s : ByteArray) : preQ b s s.size ++ [b] = quoteL b s := by
  have hl : s.data.toList.length = s.size := Array.length_toList
  unfold preQ quoteL
  rw [List.take_of_length_le (by omega)]
  simp

set_option maxRecDepth 100000 in
set_option maxHeartbeats 1600000 in
theorem l2QuoteC (s : ByteArray) (b : UInt8) (w : World) (hs : s.size ≤ 1048576) :
    Calls Tryz.prog 67 #[.string s, .int .u8 (b.toNat : Int)] w fun e w' => e = .returned (.string ⟨(quoteL b s).toArray⟩) ∧ Below w.heap.size w w' := by
  obtain ⟨i0, hi, hz0, hz1, hz2⟩ := info_parts Tryz.infoU8
  have hlen : s.data.toList.length = s.size := Array.length_toList
  go_enter Tryz.func67, Tryz.ntmps67
  go_wp2
  go_loopw [5, 6] (fun v x wr => ∃ k : Nat, x = .int .i64 (k : Int) ∧ k ≤ s.size ∧ wr.ownsRow w.heap.size 5 1 v (preQ b s k).length ((preQ b s k).map fun c => .int .u8 (c.toNat : Int)) ∧ v ≠ .slice none 0 0 ∧ Below w.heap.size w wr) (fun _ x _ => s.size + 1 - (intOf x).toNat)
  case atStart => exact ⟨0, rfl, by omega, owns_one w _ _, by simp, by go_grown⟩
  case round =>
    obtain ⟨k, rfl, hk, hown, hnn, hb⟩ := hrel
    have hsz := hb.size
    have hpl := preQ_len b s k
    by_cases hk2 : k < s.size
    · have hk3 : (k : Int) < s.size := by omega
      by_cases hcb : s[k] = b
      · have hcb' : (s[k].toNat : Int) = (b.toNat : Int) := by rw [hcb]
        go_wp2_with (first | (at_builtin; refine wpList_append_own _ rfl _ _ 22 rfl w.heap.size 5 i0 (.int .u8 0) 1 1 Tryz.underlying22 hi hz0 hz1 hz2 rfl (by decide) _ _ _ rfl (hown.alloc _) ⟨wr.heap.size, 0, none⟩ 1 1 [.int .u8 (b.toNat : Int)] rfl rfl ?c1 ?c2 ?c3 ?c4 ?c5 ?_))
        case c1 =>
          intro j u hj
          match j, hj with
          | 0, hj => simp at hj; subst hj; simp [Addr.add, go_sem]
        case c2 => intro u hu; simp at hu; subst hu; rfl
        case c3 => unfold maxLen; omega
        case c4 => omega
        case c5 => simp; omega
        · intro v1 w1 hown1 hgrow1 hnil1
          have hb1 := Below.grown (hb.alloc (B := w.heap.size) hb.size _) hgrow1 (by simp; omega) (fun k hk => (hown.lt k hk).1)
          have hs1 := hb1.size
          go_wp2_with (first | (at_builtin; refine wpList_append_own _ rfl _ _ 22 rfl w.heap.size 5 i0 (.int .u8 0) 1 1 Tryz.underlying22 hi hz0 hz1 hz2 rfl (by decide) _ _ _ rfl (hown1.alloc _) ⟨w1.heap.size, 0, none⟩ 1 1 [.int .u8 (b.toNat : Int)] rfl rfl ?d1 ?d2 ?d3 ?d4 ?d5 ?_))
          case d1 =>
            intro j u hj
            match j, hj with
            | 0, hj => simp at hj; subst hj; simp [Addr.add, go_sem]
          case d2 => intro u hu; simp at hu; subst hu; rfl
          case d3 => unfold maxLen; omega
          case d4 => omega
          case d5 => simp; omega
          · intro v2 w2 hown2 hgrow2 hnil2
            have hb2 := Below.grown (hb1.alloc (B := w.heap.size) hb1.size _) hgrow2 (by simp; omega) (fun k hk => (hown1.lt k hk).1)
            have HB := hide (And.intro hb2 (And.intro hown2 (And.intro hnil1 hnil2)))
            clear hown hgrow1 hown1 hgrow2 hown2 hb hb1 hb2 hnil1 hnil2
            go_wp2
            go_roundw
            case rel =>
              refine ⟨k + 1, by go_num, by omega, ?_, ?_, HB.out.1⟩
              · have e : preQ b s (k + 1) = preQ b s k ++ [b] ++ [b] := by rw [preQ_succ b s k hk2, dbl, if_pos hcb]; simp
                rw [e]
                simpa using HB.out.2.1
              · have h1 := HB.out.2.2.1
                have h2 := HB.out.2.2.2
                simp_all
            case measure => simp [intOf]; omega
      · have hcb' : ¬ (s[k].toNat : Int) = (b.toNat : Int) := fun e => hcb (UInt8.toNat_inj.mp (by omega))
        go_wp2_with (first | (at_builtin; refine wpList_append_own _ rfl _ _ 22 rfl w.heap.size 5 i0 (.int .u8 0) 1 1 Tryz.underlying22 hi hz0 hz1 hz2 rfl (by decide) _ _ _ rfl (hown.alloc _) ⟨wr.heap.size, 0, none⟩ 1 1 [.int .u8 (s[k].toNat : Int)] rfl rfl ?e1 ?e2 ?e3 ?e4 ?e5 ?_))
        case e1 =>
          intro j u hj
          match j, hj with
          | 0, hj => simp at hj; subst hj; simp [Addr.add, go_sem]
        case e2 => intro u hu; simp at hu; subst hu; rfl
        case e3 => unfold maxLen; omega
        case e4 => omega
        case e5 => simp; omega
        · intro v1 w1 hown1 hgrow1 hnil1
          have hb1 := Below.grown (hb.alloc (B := w.heap.size) hb.size _) hgrow1 (by simp; omega) (fun k hk => (hown.lt k hk).1)
          have HB := hide (And.intro hb1 (And.intro hown1 hnil1))
          clear hown hgrow1 hown1 hb hb1 hnil1
          go_wp2
          go_roundw
          case rel =>
            refine ⟨k + 1, by go_num, by omega, ?_, ?_, HB.out.1⟩
            · have e : preQ b s (k + 1) = preQ b s k ++ [s[k]] := by rw [preQ_succ b s k hk2, dbl, if_neg hcb]
              rw [e]
              simpa using HB.out.2.1
            · have h1 := HB.out.2.2
              simp_all
          case measure => simp [intOf]; omega
    · have hk3 : ¬ (k : Int) < s.size := by omega
      have HKE : Hid (k = s.size) := by show k = s.size; omega
      go_wp2_with (first | (at_builtin; refine wpList_append_own _ rfl _ _ 22 rfl w.heap.size 5 i0 (.int .u8 0) 1 1 Tryz.underlying22 hi hz0 hz1 hz2 rfl (by decide) _ _ _ rfl (hown.alloc _) ⟨wr.heap.size, 0, none⟩ 1 1 [.int .u8 (b.toNat : Int)] rfl rfl ?f1 ?f2 ?f3 ?f4 ?f5 ?_))
      case f2 => rfl
      case f3 => unfold maxLen; omega
      case f4 => omega
      case f5 => omega
      · intro v' w1 hown' hgrow hnil
        obtain ⟨g, cap, hv, hg1, hg2, hg3⟩ := owns_form hown' (by simp_all)
        rw [hv] at hown' ⊢
        have hat : BytesAt w1 g (preQ b s k ++ [b]) := BytesAt.of_owns (e := 5) (n := (preQ b s k).length + 1) (cap := cap) (by simpa using hown')
        have hcs := hat.string (P := Tryz.prog) 22 5 9 Tryz.underlying22 Tryz.underlying5 Tryz.underlying9 ((preQ b s k).length + 1) cap (by simp)
        have hbel := Below.grown (hb.alloc (B := w.heap.size) hb.size _) hgrow (by simp; omega) (fun k hk => (hown.lt k hk).1)
        have HB := hide hbel
        clear hown' hgrow hown hat hbel hb hv
        go_wp2
        go_ret
        refine ⟨?_, HB.out⟩
        rw [HKE.out, preQ_all]
        rfl
end Go.Proofs.YtfnjcgakcpadiaaGreatDoor
