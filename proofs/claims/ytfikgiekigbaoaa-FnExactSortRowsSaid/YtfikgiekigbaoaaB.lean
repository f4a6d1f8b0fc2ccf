/-
  Rows of bytes that the call itself made: reading, storing, turning into a string. No program text in sight.
-/
import Derived.WalkKit
import Derived.WalkLawsBesides
import Derived.WalkSpells
import Derived.Handy
import Derived.Laws.BytesArg
import Derived.Laws.IdiomStrings
namespace Go.Proofs.Ytfikgiekigbaoaa
open Go Go.RowKit

/-- A fact kept from the walk. -/
theorem hide {p : Prop} (h : p) : Hid p := h

theorem below_via {w a b : World} (h1 : Below w.heap.size w a) (h2 : Below a.heap.size a b) : Below w.heap.size w b := h1.trans (h2.mono h1.size)

/-- What a contract that ends in 'Below' says of the cells that were there. -/
theorem bcell {W w1 : World} (hb : Below W.heap.size W w1) : (∀ b o, b < W.heap.size → w1.cell? ⟨b, o, none⟩ = W.cell? ⟨b, o, none⟩) ∧ (∀ b o, b < W.heap.size → w1.frozen? ⟨b, o, none⟩ = W.frozen? ⟨b, o, none⟩) :=
  ⟨fun b o h => hb.cell (p := ⟨b, o, none⟩) h, fun b o h => hb.frozen (p := ⟨b, o, none⟩) h⟩

/-- A block of three cells that was laid ahead of a call, behind it. -/
theorem kept3 {w w1 : World} {t : TypeId} {x y z : Value} (hb : Below (w.alloc (.cells #[x, y, z] t)).heap.size (w.alloc (.cells #[x, y, z] t)) w1) :
    w1.cell? ⟨w.heap.size, 0, none⟩ = some x ∧ w1.cell? ⟨w.heap.size, 1, none⟩ = some y ∧ w1.cell? ⟨w.heap.size, 2, none⟩ = some z ∧
    w1.frozen? ⟨w.heap.size, 0, none⟩ = false ∧ w1.frozen? ⟨w.heap.size, 1, none⟩ = false ∧ w1.frozen? ⟨w.heap.size, 2, none⟩ = false ∧ w.heap.size < w1.heap.size := by
  obtain ⟨hc, hf⟩ := bcell hb
  have hz : w.heap.size < (w.alloc (.cells #[x, y, z] t)).heap.size := by simp
  refine ⟨?_, ?_, ?_, ?_, ?_, ?_, Nat.lt_of_lt_of_le hz hb.size⟩
  · rw [hc _ _ hz]; simp [go_sem]
  · rw [hc _ _ hz]; simp [go_sem]
  · rw [hc _ _ hz]; simp [go_sem]
  · rw [hf _ _ hz]; simp [go_sem]
  · rw [hf _ _ hz]; simp [go_sem]
  · rw [hf _ _ hz]; simp [go_sem]

/-- Two such blocks. -/
theorem kept33 {w w1 : World} {t t' : TypeId} {x y z x' y' z' : Value} (hb : Below ((w.alloc (.cells #[x, y, z] t)).alloc (.cells #[x', y', z'] t')).heap.size ((w.alloc (.cells #[x, y, z] t)).alloc (.cells #[x', y', z'] t')) w1) :
    (w1.cell? ⟨w.heap.size, 0, none⟩ = some x ∧ w1.cell? ⟨w.heap.size, 1, none⟩ = some y ∧ w1.cell? ⟨w.heap.size, 2, none⟩ = some z) ∧
    (w1.cell? ⟨w.heap.size + 1, 0, none⟩ = some x' ∧ w1.cell? ⟨w.heap.size + 1, 1, none⟩ = some y' ∧ w1.cell? ⟨w.heap.size + 1, 2, none⟩ = some z') ∧
    (w1.frozen? ⟨w.heap.size + 1, 0, none⟩ = false ∧ w1.frozen? ⟨w.heap.size + 1, 1, none⟩ = false ∧ w1.frozen? ⟨w.heap.size + 1, 2, none⟩ = false) ∧ w.heap.size + 1 < w1.heap.size := by
  obtain ⟨hc, hf⟩ := bcell hb
  have hz : w.heap.size + 1 < ((w.alloc (.cells #[x, y, z] t)).alloc (.cells #[x', y', z'] t')).heap.size := by simp
  have hz' : w.heap.size < ((w.alloc (.cells #[x, y, z] t)).alloc (.cells #[x', y', z'] t')).heap.size := by omega
  refine ⟨⟨?_, ?_, ?_⟩, ⟨?_, ?_, ?_⟩, ⟨?_, ?_, ?_⟩, Nat.lt_of_lt_of_le hz hb.size⟩
  · rw [hc _ _ hz']; simp [go_sem]
  · rw [hc _ _ hz']; simp [go_sem]
  · rw [hc _ _ hz']; simp [go_sem]
  · rw [hc _ _ hz]; simp [go_sem]
  · rw [hc _ _ hz]; simp [go_sem]
  · rw [hc _ _ hz]; simp [go_sem]
  · rw [hf _ _ hz]; simp [go_sem]
  · rw [hf _ _ hz]; simp [go_sem]
  · rw [hf _ _ hz]; simp [go_sem]

/-- Block g holds the bytes l from its first cell on; none of these cells is frozen. -/
structure BytesAt (w : World) (g : Nat) (l : List UInt8) : Prop where
  lt : g < w.heap.size
  cell : ∀ i, (h : i < l.length) → w.cell? ⟨g, i, none⟩ = some (.int .u8 (l[i].toNat : Int))
  free : ∀ i, i < l.length → w.frozen? ⟨g, i, none⟩ = false

theorem BytesAt.below {w w' : World} {g B : Nat} {l : List UInt8} (h : BytesAt w g l) (hb : Below B w w') (hg : g < B) : BytesAt w' g l :=
  ⟨Nat.lt_of_lt_of_le h.lt hb.size, fun i hi => (hb.cell (p := ⟨g, i, none⟩) hg).trans (h.cell i hi), fun i hi => (hb.frozen (p := ⟨g, i, none⟩) hg).trans (h.free i hi)⟩

theorem BytesAt.stays {w w' : World} {g : Nat} {l : List UInt8} (h : BytesAt w g l) (hs : w.heap.size ≤ w'.heap.size) (hb : w'.heap[g]? = w.heap[g]?) : BytesAt w' g l :=
  ⟨Nat.lt_of_lt_of_le h.lt hs, fun i hi => (World.cell?_of_block (a := ⟨g, i, none⟩) hb).trans (h.cell i hi), fun i hi => (World.frozen?_of_block (a := ⟨g, i, none⟩) hb).trans (h.free i hi)⟩

theorem BytesAt.alloc {w : World} {g : Nat} {l : List UInt8} (h : BytesAt w g l) (o : Obj) : BytesAt (w.alloc o) g l :=
  h.stays (by simp) (Below.heap_alloc _ _ _ h.lt)

theorem BytesAt.drew {w : World} {g : Nat} {l : List UInt8} (h : BytesAt w g l) : BytesAt w.drew g l := ⟨h.lt, h.cell, h.free⟩

theorem BytesAt.set {w : World} {g : Nat} {l : List UInt8} (h : BytesAt w g l) (k : Nat) (hk : k < l.length) (c : UInt8) :
    BytesAt (w.setCell ⟨g, k, none⟩ (.int .u8 (c.toNat : Int))) g (l.set k c) := by
  refine ⟨by simpa [World.setCell] using h.lt, fun i hi => ?_, fun i hi => ?_⟩
  · have hi' : i < l.length := by simpa using hi
    by_cases hik : i = k
    · subst hik
      rw [World.cell?_setCell_same _ _ _ (h.cell i hi')]
      simp
    · rw [World.cell?_setCell_other _ _ _ _ (by intro e; injection e with _ e2 _; exact hik e2.symm), h.cell i hi']
      rw [List.getElem_set_ne (by omega)]
  · have hi' : i < l.length := by simpa using hi
    rw [World.frozen?_setCell]
    exact h.free i hi'

theorem BytesAt.string {P : Program} {w : World} {g : Nat} {l : List UInt8} (h : BytesAt w g l) (src e dst : TypeId) (hs : P.underlying src = some (.slice e)) (he : P.underlying e = some (.int .u8))
    (hd : P.underlying dst = some .string) (n cap : Nat) (hn : n = l.length) : (convert src dst (.slice (some ⟨g, 0, none⟩) n cap)).run P w = .ok (.string ⟨l.toArray⟩) w := by
  have := run_convert_bytes_arg (P := P) w src e hs he g 0 n cap (l.map fun c => (c.toNat : Int)) (by simp [hn]) (fun i hi => by
    rw [Nat.zero_add, h.cell i (by omega)]
    simp [List.getD, List.getElem?_eq_getElem (show i < l.length by omega)]) dst hd
  rw [this]
  have e1 : strOfNums (l.map fun c => (c.toNat : Int)) = ⟨l.toArray⟩ := by
    unfold strOfNums
    rw [List.map_map]
    congr 2
    conv => rhs; rw [← List.map_id l]
    refine List.map_congr_left fun c _ => ?_
    simp
  rw [e1]

/-- []byte(s): what the new row holds. -/
theorem BytesAt.made (w : World) (e : TypeId) (s : ByteArray) (c : Nat) :
    BytesAt (w.drew.alloc (.cells (bytesRow s c) e ((bytesRow s c).size, (bytesRow s c).size + 1))) w.heap.size s.data.toList := by
  have hh : (w.drew.alloc (.cells (bytesRow s c) e ((bytesRow s c).size, (bytesRow s c).size + 1))).heap[w.heap.size]? = some (.cells (bytesRow s c) e ((bytesRow s c).size, (bytesRow s c).size + 1)) := by
    show (w.heap.push _)[w.heap.size]? = _
    simp
  have hsz : s.data.toList.length ≤ (bytesRow s c).size := by simp [bytesRow]
  refine ⟨by show w.heap.size < (w.heap.push _).size; simp, fun i hi => ?_, fun i hi => ?_⟩
  · rw [show (World.cell? _ ⟨w.heap.size, i, none⟩) = (bytesRow s c)[i]? from by unfold World.cell?; rw [hh]; simp]
    have hi' : i < s.data.size := by simpa using hi
    rw [bytesRow, Array.getElem?_append_left (by simpa using hi'), Array.getElem?_map, Array.getElem?_eq_getElem hi']
    simp
  · unfold World.frozen?
    rw [hh]
    simp
    omega

/-- A row that is owned, of bytes. -/
theorem BytesAt.of_owns {w : World} {base : Nat} {e : TypeId} {g n cap : Nat} {l : List UInt8} (h : w.ownsRow base e 1 (.slice (some ⟨g, 0, none⟩) n cap) n (l.map fun c => .int .u8 (c.toNat : Int))) : BytesAt w g l := by
  have hl : l.length = n := by simpa using h.1
  refine ⟨(h.lt g rfl).2, fun i hi => ?_, fun i _ => h.frozenAt i⟩
  rw [h.cellAt i (by omega)]
  simp [List.getElem?_eq_getElem hi]

/-- An owned value that holds something is no nil slice. -/
theorem owns_form {w : World} {base : Nat} {e : TypeId} {size : Nat} {v : Value} {n : Nat} {xs : List Value} (h : w.ownsRow base e size v n xs) (hn : v ≠ .slice none 0 0) : ∃ g cap, v = .slice (some ⟨g, 0, none⟩) n cap ∧ base ≤ g ∧ g < w.heap.size ∧ n ≤ cap := by
  rcases h.2 with ⟨rfl, _⟩ | ⟨g, cap, cur, rfl, hb, hg, hc, _⟩
  · exact absurd rfl hn
  · exact ⟨g, cap, rfl, hb, (Array.getElem?_eq_some_iff.1 hg).1, hc⟩
end Go.Proofs.Ytfikgiekigbaoaa
