/-
  The cells of a token under way.
-/
import Derived.Test.YtfnjcgakcpadiaaGreatDoorLexT
import Derived.Test.YtfnjcgakcpadiaaGreatDoorReadQ
namespace Go.Proofs.YtfnjcgakcpadiaaGreatDoor
open Go.RowKit

/-- Three cells of a block, that may be written. -/
structure C3t (w : World) (b : Nat) (x y z : Value) : Prop where
  lt : b < w.heap.size
  c : w.cell? ⟨b, 0, none⟩ = some x ∧ w.cell? ⟨b, 1, none⟩ = some y ∧ w.cell? ⟨b, 2, none⟩ = some z
  f : w.frozen? ⟨b, 0, none⟩ = false ∧ w.frozen? ⟨b, 1, none⟩ = false ∧ w.frozen? ⟨b, 2, none⟩ = false
theorem C3t.stays {w a : World} {b : Nat} {x y z : Value} (h : C3t w b x y z) (hs : w.heap.size ≤ a.heap.size) (hb : a.heap[b]? = w.heap[b]?) : C3t a b x y z :=
  ⟨Nat.lt_of_lt_of_le h.lt hs, ⟨(World.cell?_of_block (a := ⟨b, 0, none⟩) hb).trans h.c.1, (World.cell?_of_block (a := ⟨b, 1, none⟩) hb).trans h.c.2.1, (World.cell?_of_block (a := ⟨b, 2, none⟩) hb).trans h.c.2.2⟩,
    ⟨(World.frozen?_of_block (a := ⟨b, 0, none⟩) hb).trans h.f.1, (World.frozen?_of_block (a := ⟨b, 1, none⟩) hb).trans h.f.2.1, (World.frozen?_of_block (a := ⟨b, 2, none⟩) hb).trans h.f.2.2⟩⟩
theorem C3t.below {w a : World} {b : Nat} {x y z : Value} (h : C3t w b x y z) (hb : Below w.heap.size w a) : C3t a b x y z := h.stays hb.size (hb.block b h.lt)
theorem C3t.other {w : World} {b b' i : Nat} {x y z v : Value} (h : C3t w b x y z) (hne : b ≠ b') : C3t (w.setCell ⟨b', i, none⟩ v) b x y z :=
  h.stays (by simp [World.setCell]) (Below.heap_setCell w ⟨b', i, none⟩ v b hne)
theorem addr_ne {b i j : Nat} (h : i ≠ j) : (⟨b, i, none⟩ : Addr) ≠ ⟨b, j, none⟩ := by intro e; injection e with _ e _; exact h e
theorem C3t.set0 {w : World} {b : Nat} {x y z : Value} (h : C3t w b x y z) (v : Value) : C3t (w.setCell ⟨b, 0, none⟩ v) b v y z :=
  ⟨by simpa [World.setCell] using h.lt, ⟨World.cell?_setCell_same _ _ _ h.c.1, (World.cell?_setCell_other _ _ _ _ (addr_ne (by decide))).trans h.c.2.1, (World.cell?_setCell_other _ _ _ _ (addr_ne (by decide))).trans h.c.2.2⟩,
    ⟨(World.frozen?_setCell _ _ _ _).trans h.f.1, (World.frozen?_setCell _ _ _ _).trans h.f.2.1, (World.frozen?_setCell _ _ _ _).trans h.f.2.2⟩⟩
theorem C3t.set1 {w : World} {b : Nat} {x y z : Value} (h : C3t w b x y z) (v : Value) : C3t (w.setCell ⟨b, 1, none⟩ v) b x v z :=
  ⟨by simpa [World.setCell] using h.lt, ⟨(World.cell?_setCell_other _ _ _ _ (addr_ne (by decide))).trans h.c.1, World.cell?_setCell_same _ _ _ h.c.2.1, (World.cell?_setCell_other _ _ _ _ (addr_ne (by decide))).trans h.c.2.2⟩,
    ⟨(World.frozen?_setCell _ _ _ _).trans h.f.1, (World.frozen?_setCell _ _ _ _).trans h.f.2.1, (World.frozen?_setCell _ _ _ _).trans h.f.2.2⟩⟩

/-- A token under way in block bt, the result's cells in block b4. -/
structure TB (w W : World) (b4 bt : Nat) (k : Int) (x : ByteArray) (a : Int) : Prop where
  r : C3t W b4 (.int .i64 0) (.string ⟨#[]⟩) (.int .i64 0)
  t : C3t W bt (.int .i64 k) (.string x) (.int .i64 a)
  ne : b4 ≠ bt
  l4 : w.heap.size ≤ b4
  lt : w.heap.size ≤ bt
  bel : Below w.heap.size w W

theorem TB.below {w W W' : World} {b4 bt : Nat} {k a : Int} {x : ByteArray} (h : TB w W b4 bt k x a) (hb : Below W.heap.size W W') : TB w W' b4 bt k x a :=
  ⟨h.r.below hb, h.t.below hb, h.ne, h.l4, h.lt, below_via h.bel hb⟩
theorem TB.setK {w W : World} {b4 bt : Nat} {k a : Int} {x : ByteArray} (h : TB w W b4 bt k x a) (k' : Int) : TB w (W.setCell ⟨bt, 0, none⟩ (.int .i64 k')) b4 bt k' x a :=
  ⟨h.r.other h.ne, h.t.set0 _, h.ne, h.l4, h.lt, h.bel.setCell h.lt _⟩
theorem TB.setX {w W : World} {b4 bt : Nat} {k a : Int} {x : ByteArray} (h : TB w W b4 bt k x a) (x' : ByteArray) : TB w (W.setCell ⟨bt, 1, none⟩ (.string x')) b4 bt k x' a :=
  ⟨h.r.other h.ne, h.t.set1 _, h.ne, h.l4, h.lt, h.bel.setCell h.lt _⟩
theorem TB.drew {w W : World} {b4 bt : Nat} {k a : Int} {x : ByteArray} (h : TB w W b4 bt k x a) : TB w W.drew b4 bt k x a := h.below (Below.refl _ _).drew
theorem TB.made (w : World) (t t' : TypeId) (a : Int) :
    TB w ((w.alloc (.cells #[.int .i64 0, .string ⟨#[]⟩, .int .i64 0] t)).alloc (.cells #[.int .i64 0, .string ⟨#[]⟩, .int .i64 a] t')) w.heap.size (w.heap.size + 1) 0 ⟨#[]⟩ a := by
  refine ⟨⟨by simp; omega, ⟨by simp [go_sem], by simp [go_sem], by simp [go_sem]⟩, ⟨by simp [go_sem], by simp [go_sem], by simp [go_sem]⟩⟩, ⟨by simp, ⟨by simp [go_sem], by simp [go_sem], by simp [go_sem]⟩, ⟨by simp [go_sem], by simp [go_sem], by simp [go_sem]⟩⟩, by omega, by omega, by omega, by go_grown⟩

theorem run_ex (s : ByteArray) : ∀ (d a : Nat), s.size - a = d → a ≤ s.size → ∃ e, a ≤ e ∧ e ≤ s.size ∧ (∀ i (h : i < s.size), a ≤ i → i < e → partB s[i] = true) ∧ (∀ h : e < s.size, partB s[e] = false) := by
  intro d
  induction d with
  | zero => intro a hd ha; exact ⟨a, Nat.le_refl _, ha, fun i h h1 h2 => by omega, fun h => by omega⟩
  | succ d ih =>
    intro a hd ha
    cases hp : partB (s[a]'(by omega))
    · exact ⟨a, Nat.le_refl _, ha, fun i h h1 h2 => by omega, fun _ => hp⟩
    · obtain ⟨e, h1, h2, h3, h4⟩ := ih (a + 1) (by omega) (by omega)
      refine ⟨e, by omega, h2, fun i h h5 h6 => ?_, h4⟩
      by_cases hia : i = a
      · subst hia; exact hp
      · exact h3 i h (by omega) h6

theorem let_dig (c : UInt8) (h : letB c = true) : digB c = false := by
  have hn := UInt8.toNat_lt c
  cases hd : digB c
  · rfl
  · exfalso
    simp [letB] at h
    simp [digB] at hd
    omega
theorem part_cls (c : UInt8) (h : partB c = true) : letB c = true ∨ letB c = false ∧ digB c = true := by
  unfold partB at h
  cases hl : letB c
  · rw [hl] at h; exact .inr ⟨rfl, by simpa using h⟩
  · exact .inl rfl
theorem part_no (c : UInt8) (h : partB c = false) : letB c = false ∧ digB c = false := by
  unfold partB at h
  simpa using h
theorem quot_len (q : UInt8) : ∀ (n : Nat) (t : List UInt8), t.length ≤ n → ∀ y, quotR q t = some y → y.1.length ≤ t.length ∧ y.2 ≤ t.length ∧ 1 ≤ y.2 := by
  intro n
  induction n with
  | zero => intro t ht y h; have : t = [] := List.eq_nil_of_length_eq_zero (by omega)
            subst this; cases h
  | succ n ih =>
    intro t ht y h
    match t, ht, h with
    | [], _, h => cases h
    | [c], _, h =>
      unfold quotR at h
      split at h
      · obtain rfl := Option.some.inj h; simp
      · cases h
    | c :: d :: t, ht, h =>
      unfold quotR at h
      split at h
      · split at h
        · obtain ⟨z, hz, rfl⟩ := Option.map_eq_some_iff.mp h
          have := ih t (by simp at ht; omega) z hz
          simp
          omega
        · obtain rfl := Option.some.inj h; simp
      · obtain ⟨z, hz, rfl⟩ := Option.map_eq_some_iff.mp h
        have := ih (d :: t) (by simp at ht ⊢; omega) z hz
        simp at this ⊢
        omega
theorem text_size (s : ByteArray) (a : Nat) (q : UInt8) (y : List UInt8 × Nat) (h : quotR q (s.data.toList.drop a) = some y) : (⟨y.1.toArray⟩ : ByteArray).size ≤ s.size ∧ y.2 ≤ s.size - a := by
  have h1 := quot_len q _ _ (Nat.le_refl _) y h
  have h2 := list_size s
  have h3 : (s.data.toList.drop a).length = s.data.toList.length - a := List.length_drop
  have h4 : (⟨y.1.toArray⟩ : ByteArray).size = y.1.length := rfl
  omega
end Go.Proofs.YtfnjcgakcpadiaaGreatDoor
