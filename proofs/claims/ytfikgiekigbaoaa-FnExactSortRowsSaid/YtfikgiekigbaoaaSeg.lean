/-
  A row of rows that a sort turns in place: what its cells hold, what an exchange does. No program text in sight.
-/
import Derived.Test.YtfikgiekigbaoaaOrdT
namespace Go.Proofs.Ytfikgiekigbaoaa
open Go Go.RowKit

/-- A row as a cell holds it, and what it reads as. -/
abbrev Rw := Value × List ValF
/-- A row of values that lies in w, in another block than g. -/
def RvN (w : World) (g : Nat) (p : Rw) : Prop := ∃ a c, p.1 = .slice a p.2.length c ∧ RowP w 0 1048576 3 (vaC 1048576) p.2 a ∧ ∀ b o, a = some ⟨b, o, none⟩ → 0 < p.2.length → b ≠ g
theorem RvN.stays {w w' : World} {g : Nat} {p : Rw} (h : RvN w g p) (hs : w.heap.size ≤ w'.heap.size) (hb : ∀ b, b ≠ g → b < w.heap.size → w'.heap[b]? = w.heap[b]?) : RvN w' g p := by
  obtain ⟨a, c, h1, ⟨h2, h3⟩, h4⟩ := h
  refine ⟨a, c, h1, ⟨h2, fun hp => ?_⟩, h4⟩
  obtain ⟨b, o, rfl, hl, hb2, he⟩ := h3 hp
  refine ⟨b, o, rfl, hl, Nat.lt_of_lt_of_le hb2 hs, fun i hi => ?_⟩
  obtain ⟨cs, hc, hat⟩ := he i hi
  exact ⟨cs, hc, hat.same (hb b (h4 b o rfl hp) hb2)⟩
theorem RvN.grown {w w' : World} {g : Nat} {p : Rw} (h : RvN w g p) (hg : w.grownBy w' (some g)) : RvN w' g p := h.stays hg.size fun b hne hb => hg.block b hb (fun e => hne (by injection e))
theorem RvN.below {w w' : World} {g : Nat} {p : Rw} (h : RvN w g p) (hb : Below w.heap.size w w') : RvN w' g p := h.stays hb.size fun b _ h => hb.block b h

/-- Element k, and a default behind the end. -/
def atR (ps : Array Rw) (k : Nat) : Rw := ps.getD k (.slice none 0 0, [])
theorem atR_get (ps : Array Rw) (k : Nat) (h : k < ps.size) : atR ps k = ps[k] := by simp [atR, h]
theorem atR_swap (ps : Array Rw) (i j : Nat) (hi : i < ps.size) (hj : j < ps.size) (k : Nat) (hk : k < ps.size) : atR (ps.swap i j hi hj) k = if k = i then atR ps j else if k = j then atR ps i else atR ps k := by
  rw [atR_get _ _ (by simpa using hk), Array.getElem_swap, atR_get _ _ hj, atR_get _ _ hi, atR_get _ _ hk]

/-- Block g holds the rows ps, one cell each; none of its cells is frozen. -/
structure SegA (w : World) (g : Nat) (ps : Array Rw) : Prop where
  lt : g < w.heap.size
  cell : ∀ i, i < ps.size → w.cell? ⟨g, i, none⟩ = some (atR ps i).1
  free : ∀ i, w.frozen? ⟨g, i, none⟩ = false
  row : ∀ i, i < ps.size → RvN w g (atR ps i)
theorem SegA.below {w w' : World} {g : Nat} {ps : Array Rw} (h : SegA w g ps) (hb : Below w.heap.size w w') : SegA w' g ps :=
  ⟨Nat.lt_of_lt_of_le h.lt hb.size, fun i hi => (hb.cell (p := ⟨g, i, none⟩) h.lt).trans (h.cell i hi), fun i => (hb.frozen (p := ⟨g, i, none⟩) h.lt).trans (h.free i), fun i hi => (h.row i hi).below hb⟩
theorem seg_grown_set {w : World} (g i : Nat) (v : Value) : w.grownBy (w.setCell ⟨g, i, none⟩ v) (some g) :=
  ⟨rfl, rfl, rfl, by simp [World.setCell], fun k _ hne => Below.heap_setCell w ⟨g, i, none⟩ v k (by show k ≠ g; rintro rfl; exact hne rfl)⟩
/-- The exchange of two of them. -/
theorem SegA.swap {w : World} {g : Nat} {ps : Array Rw} (h : SegA w g ps) (i j : Nat) (hi : i < ps.size) (hj : j < ps.size) :
    SegA ((w.setCell ⟨g, i, none⟩ (atR ps j).1).setCell ⟨g, j, none⟩ (atR ps i).1) g (ps.swap i j hi hj) := by
  have hs : ∀ (w : World) (k : Nat) (v : Value), (w.setCell ⟨g, k, none⟩ v).heap.size = w.heap.size := fun w k v => by simp [World.setCell]
  have hne : ∀ {a b : Nat}, a ≠ b → (⟨g, a, none⟩ : Addr) ≠ ⟨g, b, none⟩ := fun hab e => by injection e with _ e2 _; exact hab e2
  refine ⟨by rw [hs, hs]; exact h.lt, fun k hk => ?_, fun k => by rw [World.frozen?_setCell, World.frozen?_setCell]; exact h.free k, fun k hk => ?_⟩
  · have hk' : k < ps.size := by simpa using hk
    rw [atR_swap ps i j hi hj k hk']
    obtain ⟨u, hu⟩ : ∃ u, (w.setCell ⟨g, i, none⟩ (atR ps j).1).cell? ⟨g, j, none⟩ = some u := by
      by_cases e : j = i
      · subst e; exact ⟨_, World.cell?_setCell_same _ _ _ (h.cell j hj)⟩
      · exact ⟨_, (World.cell?_setCell_other _ _ _ _ (hne (Ne.symm e))).trans (h.cell j hj)⟩
    by_cases hkj : k = j
    · subst hkj
      rw [World.cell?_setCell_same _ _ _ hu]
      by_cases hki : k = i
      · subst hki; simp
      · rw [if_neg hki, if_pos rfl]
    · rw [World.cell?_setCell_other _ _ _ _ (hne (Ne.symm hkj)), if_neg hkj]
      by_cases hki : k = i
      · subst hki
        rw [World.cell?_setCell_same _ _ _ (h.cell k hk'), if_pos rfl]
      · rw [World.cell?_setCell_other _ _ _ _ (hne (Ne.symm hki)), if_neg hki]
        exact h.cell k hk'
  · have hk' : k < ps.size := by simpa using hk
    have hr : RvN w g (atR (ps.swap i j hi hj) k) := by
      rw [atR_swap ps i j hi hj k hk']
      split
      · exact h.row j hj
      · split
        · exact h.row i hi
        · exact h.row k hk'
    exact (hr.grown (seg_grown_set g i _)).grown (seg_grown_set g j _)

/-- ps' came out of ps by exchanges between a and b. -/
structure SwR (a b : Nat) (ps ps' : Array Rw) : Prop where
  size : ps'.size = ps.size
  perm : ps'.Perm ps
  out : ∀ k, k < ps.size → k < a ∨ b ≤ k → atR ps' k = atR ps k
  seg : ∀ P : Rw → Prop, (∀ k, a ≤ k → k < b → k < ps.size → P (atR ps k)) → ∀ k, a ≤ k → k < b → k < ps.size → P (atR ps' k)
theorem SwR.refl (a b : Nat) (ps : Array Rw) : SwR a b ps ps := ⟨rfl, Array.Perm.refl _, fun _ _ _ => rfl, fun _ h => h⟩
theorem SwR.trans {a b : Nat} {x y z : Array Rw} (h : SwR a b x y) (k : SwR a b y z) : SwR a b x z :=
  ⟨k.size.trans h.size, k.perm.trans h.perm, fun i hi ho => (k.out i (by rw [h.size]; exact hi) ho).trans (h.out i hi ho), fun P hP i h1 h2 h3 => k.seg P (fun i h1 h2 h3 => h.seg P hP i h1 h2 (by rw [← h.size]; exact h3)) i h1 h2 (by rw [h.size]; exact h3)⟩
theorem SwR.swap {a b : Nat} {x y : Array Rw} (h : SwR a b x y) (i j : Nat) (hi : i < y.size) (hj : j < y.size) (h1 : a ≤ i) (h2 : i < b) (h3 : a ≤ j) (h4 : j < b) : SwR a b x (y.swap i j hi hj) := by
  refine h.trans ⟨by simp, Array.swap_perm hi hj, fun k hk ho => ?_, fun P hP k k1 k2 k3 => ?_⟩
  · rw [atR_swap y i j hi hj k hk, if_neg (by omega), if_neg (by omega)]
  · rw [atR_swap y i j hi hj k k3]
    split
    · exact hP j h3 h4 hj
    · split
      · exact hP i h1 h2 hi
      · exact hP k k1 k2 k3
theorem SwR.mono {a b a' b' : Nat} {x y : Array Rw} (h : SwR a b x y) (ha : a' ≤ a) (hb : b ≤ b') : SwR a' b' x y := by
  refine ⟨h.size, h.perm, fun k hk ho => h.out k hk (by omega), fun P hP k k1 k2 k3 => ?_⟩
  by_cases hin : a ≤ k ∧ k < b
  · exact h.seg P (fun i i1 i2 i3 => hP i (by omega) (by omega) i3) k hin.1 hin.2 k3
  · rw [h.out k k3 (by omega)]
    exact hP k k1 k2 k3
/-- Ascending from a to b. -/
def Asc (a b : Nat) (ps : Array Rw) : Prop := ∀ i j, a ≤ i → i < j → j < b → j < ps.size → ordR (atR ps i).2 (atR ps j).2 ≤ 0
end Go.Proofs.Ytfikgiekigbaoaa
