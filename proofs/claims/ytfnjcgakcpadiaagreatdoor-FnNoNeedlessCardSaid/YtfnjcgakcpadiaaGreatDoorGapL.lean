/-
  NeedsGap: what it says, and two boxes of a call.
-/
import Derived.Test.YtfnjcgakcpadiaaGreatDoorTokC
namespace Go.Proofs.YtfnjcgakcpadiaaGreatDoor
open Go.RowKit

/-- A word; a name in quotes. -/
def wordB (k : Int) (s : ByteArray) : Bool := k == 1 || k == 3 || k == 2 && plainB s
def quotB (k : Int) (s : ByteArray) : Bool := k == 2 && !plainB s
/-- Two operators that must not touch. -/
def gap0 (s : ByteArray) (c : UInt8) : Bool := s.data.toList.head? == some c
def signGap (a b : ByteArray) : Bool :=
  if a.toList == [45] then b.toList == [45] else if a.toList == [47] then b.toList == [42] else if a.toList == [60] then gap0 b 61 || gap0 b 62 else if a.toList == [62] then gap0 b 61 else false
noncomputable def gapB (ka : Int) (sa : ByteArray) (kb : Int) (sb : ByteArray) : Bool :=
  tokOk ka sa && tokOk kb sb && (wordB ka sa && wordB kb sb || quotB ka sa && quotB kb sb || ka == 4 && kb == 4 || ka == 5 && kb == 5 && signGap sa sb)

theorem gap0_at (s : ByteArray) (c : UInt8) (h : 0 < s.size) : gap0 s c = ((s[0].toNat : Int) == (c.toNat : Int)) := by
  have hl : 0 < s.data.toList.length := by rw [Array.length_toList]; exact h
  have e : s.data.toList.head? = some s[0] := by
    rw [List.head?_eq_getElem?, List.getElem?_eq_getElem hl]
    simp [ByteArray.getElem_eq_getElem_data]
  unfold gap0
  rw [e, Bool.eq_iff_iff]
  simp only [beq_iff_eq, Option.some.injEq]
  constructor
  · rintro rfl; rfl
  · intro h; exact UInt8.toNat_inj.mp (by omega)
theorem signGap_at (a b : ByteArray) (h : 0 < b.size) : signGap a b =
    if a.toList == [45] then b.toList == [45] else if a.toList == [47] then b.toList == [42] else if a.toList == [60] then (b[0].toNat : Int) == 61 || (b[0].toNat : Int) == 62 else if a.toList == [62] then (b[0].toNat : Int) == 61 else false := by
  unfold signGap
  rw [gap0_at b 61 h, gap0_at b 62 h]
  rfl

theorem gap_na {ka : Int} {sa : ByteArray} {kb : Int} {sb : ByteArray} (h : tokOk ka sa = false) : gapB ka sa kb sb = false := by unfold gapB; rw [h]; rfl
theorem gap_nb {ka : Int} {sa : ByteArray} {kb : Int} {sb : ByteArray} (h : tokOk kb sb = false) : gapB ka sa kb sb = false := by unfold gapB; rw [h]; simp
theorem gap_both {ka : Int} {sa : ByteArray} {kb : Int} {sb : ByteArray} (h : tokOk ka sa = true) (h' : tokOk kb sb = true) :
    gapB ka sa kb sb = (wordB ka sa && wordB kb sb || quotB ka sa && quotB kb sb || ka == 4 && kb == 4 || ka == 5 && kb == 5 && signGap sa sb) := by unfold gapB; rw [h, h']; rfl

/-- The four kinds of tokens. -/
theorem tok_cls {k : Int} {s : ByteArray} (h : tokOk k s = true) :
    (wordB k s = true ∧ quotB k s = false ∧ (k == 4) = false ∧ (k == 5) = false) ∨ (wordB k s = false ∧ quotB k s = true ∧ (k == 4) = false ∧ (k == 5) = false) ∨
    (k = 4 ∧ wordB k s = false ∧ quotB k s = false) ∨ (k = 5 ∧ wordB k s = false ∧ quotB k s = false) := by
  by_cases h1 : k = 1
  · subst h1; left; simp [wordB, quotB]
  by_cases h2 : k = 2
  · subst h2
    cases hp : plainB s
    · right; left; simp [wordB, quotB, hp]
    · left; simp [wordB, quotB, hp]
  by_cases h3 : k = 3
  · subst h3; left; simp [wordB, quotB]
  by_cases h4 : k = 4
  · subst h4; right; right; left; simp [wordB, quotB]
  by_cases h5 : k = 5
  · subst h5; right; right; right; simp [wordB, quotB]
  unfold tokOk at h
  rw [if_neg h1, if_neg h2, if_neg h3, if_neg h4, if_neg h5] at h
  cases h

theorem sign_size {s : ByteArray} (h : tokOk 5 s = true) : 0 < s.size := by
  unfold tokOk at h
  rw [if_neg (by decide), if_neg (by decide), if_neg (by decide), if_neg (by decide), if_pos rfl] at h
  unfold signOk at h
  rcases Nat.eq_zero_or_pos s.size with hz | hz
  · have e : s.toList = [] := by
      rw [ByteArray.toList_eq]
      exact List.eq_nil_of_length_eq_zero (by rw [Array.length_toList]; exact hz)
    rw [e] at h
    simp [signB] at h
  · exact hz

/-- Two blocks of three cells. -/
structure Box2 (W : World) (ba bb : Nat) (ka : Int) (sa : ByteArray) (aa kb : Int) (sb : ByteArray) (ab : Int) : Prop where
  a0 : W.cell? ⟨ba, 0, none⟩ = some (.int .i64 ka)
  a1 : W.cell? ⟨ba, 1, none⟩ = some (.string sa)
  a2 : W.cell? ⟨ba, 2, none⟩ = some (.int .i64 aa)
  b0 : W.cell? ⟨bb, 0, none⟩ = some (.int .i64 kb)
  b1 : W.cell? ⟨bb, 1, none⟩ = some (.string sb)
  b2 : W.cell? ⟨bb, 2, none⟩ = some (.int .i64 ab)
  la : ba < W.heap.size
  lb : bb < W.heap.size

theorem Box2.below {W W' : World} {ba bb : Nat} {ka aa kb ab : Int} {sa sb : ByteArray} (h : Box2 W ba bb ka sa aa kb sb ab) (hb : Below W.heap.size W W') : Box2 W' ba bb ka sa aa kb sb ab := by
  obtain ⟨hc, _⟩ := bcell hb
  obtain ⟨a0, a1, a2, b0, b1, b2, la, lb⟩ := h
  exact ⟨(hc _ _ la).trans a0, (hc _ _ la).trans a1, (hc _ _ la).trans a2, (hc _ _ lb).trans b0, (hc _ _ lb).trans b1, (hc _ _ lb).trans b2, Nat.lt_of_lt_of_le la hb.size, Nat.lt_of_lt_of_le lb hb.size⟩

theorem Box2.made (w : World) (t t' : TypeId) (ka aa kb ab : Int) (sa sb : ByteArray) :
    Box2 ((w.alloc (.cells #[.int .i64 ka, .string sa, .int .i64 aa] t)).alloc (.cells #[.int .i64 kb, .string sb, .int .i64 ab] t')) w.heap.size (w.heap.size + 1) ka sa aa kb sb ab := by
  refine ⟨?_, ?_, ?_, ?_, ?_, ?_, ?_, ?_⟩ <;> simp [go_sem]
end Go.Proofs.YtfnjcgakcpadiaaGreatDoor
