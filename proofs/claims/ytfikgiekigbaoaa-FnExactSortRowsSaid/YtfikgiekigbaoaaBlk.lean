/-
  Blocks that a call made itself: their cells, what later stores leave. No program text in sight.
-/
import Derived.Test.YtfikgiekigbaoaaTreAt
import Derived.Laws.OwnMore
import Derived.Laws.IdiomCopy
namespace Go.Proofs.Ytfikgiekigbaoaa
open Go Go.RowKit

/-- Block b holds the values l from its first cell on; none of its cells is frozen. -/
structure Blk (w : World) (b : Nat) (l : List Value) : Prop where
  lt : b < w.heap.size
  cells : cellsAt w b 0 l
  free : ∀ i, w.frozen? ⟨b, i, none⟩ = false

theorem Blk.stays {w w' : World} {b : Nat} {l : List Value} (h : Blk w b l) (hs : w.heap.size ≤ w'.heap.size) (hb : w'.heap[b]? = w.heap[b]?) : Blk w' b l :=
  ⟨Nat.lt_of_lt_of_le h.lt hs, h.cells.same hb, fun i => (World.frozen?_of_block (a := ⟨b, i, none⟩) hb).trans (h.free i)⟩
theorem Blk.below {w w' : World} {b : Nat} {l : List Value} (h : Blk w b l) (hb : Below w.heap.size w w') : Blk w' b l := h.stays hb.size (hb.block b h.lt)
theorem Blk.alloc {w : World} {b : Nat} {l : List Value} (h : Blk w b l) (o : Obj) : Blk (w.alloc o) b l := h.stays (by simp) (Below.heap_alloc _ _ _ h.lt)
theorem Blk.made (w : World) (l : List Value) (t : TypeId) : Blk (w.alloc (.cells l.toArray t)) w.heap.size l := ⟨by simp, boxAt w l t, fun i => by simp [go_sem]⟩
theorem Blk.set {w : World} {b : Nat} {l : List Value} (h : Blk w b l) (k : Nat) (hk : k < l.length) (v : Value) : Blk (w.setCell ⟨b, k, none⟩ v) b (l.set k v) := by
  refine ⟨by simpa [World.setCell] using h.lt, fun j hj => ?_, fun i => by rw [World.frozen?_setCell]; exact h.free i⟩
  have hj' : j < l.length := by simpa using hj
  have hc := h.cells j hj'
  simp only [Nat.zero_add] at hc ⊢
  by_cases hjk : j = k
  · subst hjk
    rw [World.cell?_setCell_same _ _ _ hc]
    simp
  · rw [World.cell?_setCell_other _ _ _ _ (by intro e; injection e with _ e2 _; exact hjk e2.symm), hc]
    rw [List.getElem_set_ne (by omega)]
theorem Blk.other {w : World} {b g : Nat} {l : List Value} (h : Blk w b l) (hne : b ≠ g) (k : Nat) (v : Value) : Blk (w.setCell ⟨g, k, none⟩ v) b l :=
  h.stays (by simp [World.setCell]) (Below.heap_setCell w ⟨g, k, none⟩ v b (fun e => hne e))

theorem Blk.step {w w' : World} {b : Nat} {l : List Value} (h : Blk w b l) (hb : Below w.heap.size w w') : Blk w' b l ∧ b < w.heap.size := ⟨h.below hb, h.lt⟩
/-- A box, and two blocks that were made behind it. -/
theorem Blk.made3 (w : World) (l0 l1 l2 : List Value) (t0 t1 t2 : TypeId) : Blk (((w.alloc (.cells l0.toArray t0)).alloc (.cells l1.toArray t1)).alloc (.cells l2.toArray t2)) w.heap.size l0 ∧ Blk (((w.alloc (.cells l0.toArray t0)).alloc (.cells l1.toArray t1)).alloc (.cells l2.toArray t2)) (w.heap.size + 1) l1 ∧ Blk (((w.alloc (.cells l0.toArray t0)).alloc (.cells l1.toArray t1)).alloc (.cells l2.toArray t2)) (w.heap.size + 2) l2 := by
  have h1 := Blk.made (w.alloc (.cells l0.toArray t0)) l1 t1
  have h2 := Blk.made ((w.alloc (.cells l0.toArray t0)).alloc (.cells l1.toArray t1)) l2 t2
  rw [show (w.alloc (.cells l0.toArray t0)).heap.size = w.heap.size + 1 by simp] at h1
  rw [show ((w.alloc (.cells l0.toArray t0)).alloc (.cells l1.toArray t1)).heap.size = w.heap.size + 2 by simp] at h2
  exact ⟨((Blk.made w l0 t0).alloc _).alloc _, h1.alloc _, h2⟩
theorem below_set {B g : Nat} {w a : World} (h : Below B w a) (hg : B ≤ g) (k : Nat) (v : Value) : Below B w (a.setCell ⟨g, k, none⟩ v) := h.setCell hg v

/-- From block lo on, what lay in w lies in w' as it did. -/
structure Keeps (lo : Nat) (w w' : World) : Prop where
  size : w.heap.size ≤ w'.heap.size
  block : ∀ b, lo ≤ b → b < w.heap.size → w'.heap[b]? = w.heap[b]?
theorem Keeps.refl (lo : Nat) (w : World) : Keeps lo w w := ⟨Nat.le_refl _, fun _ _ _ => rfl⟩
theorem Keeps.of {lo : Nat} {w w' : World} (h : Below w.heap.size w w') : Keeps lo w w' := ⟨h.size, fun b _ hb => h.block b hb⟩
theorem Keeps.trans {lo : Nat} {w a b : World} (h : Keeps lo w a) (k : Keeps lo a b) : Keeps lo w b := ⟨Nat.le_trans h.size k.size, fun i hi hb => (k.block i hi (Nat.lt_of_lt_of_le hb h.size)).trans (h.block i hi hb)⟩
theorem Keeps.below {lo : Nat} {w a b : World} (h : Keeps lo w a) (k : Below a.heap.size a b) : Keeps lo w b := h.trans (Keeps.of k)
theorem Keeps.set {lo : Nat} {w a : World} (h : Keeps lo w a) {g : Nat} (hg : g < lo) (k : Nat) (v : Value) : Keeps lo w (a.setCell ⟨g, k, none⟩ v) :=
  h.trans ⟨by simp [World.setCell], fun b hb _ => Below.heap_setCell a ⟨g, k, none⟩ v b (by show b ≠ g; omega)⟩
theorem Keeps.sets {lo : Nat} {w a : World} (h : Keeps lo w a) {g : Nat} (hg : g < lo) (o : Nat) (vs : List Value) : Keeps lo w (a.setCells g o vs) := by
  induction vs generalizing a o with
  | nil => exact h
  | cons v r ih => exact ih (h.set hg o v) (o + 1)
theorem ExB.keeps {w w' : World} {lo lo' M n : Nat} {e : Ex} {ka sa : Option Addr} (h : ExB w lo M n e ka sa) (hk : Keeps lo w w') (hl : lo' ≤ lo) : ExB w' lo' M n e ka sa :=
  ExB.imp hl hk.size hk.block n e ka sa h
theorem QuB.keeps {w w' : World} {lo lo' M n : Nat} {q : QuF Ex} {ia fa wa oa : Option Addr} (h : QuB w lo M (ExB w lo M n) q ia fa wa oa) (hk : Keeps lo w w') (hl : lo' ≤ lo) : QuB w' lo' M (ExB w' lo' M n) q ia fa wa oa :=
  h.imp hl hk.size hk.block (fun _ _ _ h => h.keeps hk hl)
theorem rowEx_keeps {w w' : World} {lo lo' M n : Nat} {xs : List Ex} {a : Option Addr} (h : RowP w lo M 10 (exC (ExB w lo M n)) xs a) (hk : Keeps lo w w') (hl : lo' ≤ lo) : RowP w' lo' M 10 (exC (ExB w' lo' M n)) xs a :=
  h.imp hl (Nat.le_refl _) hk.size hk.block fun _ _ => exC.imp fun _ _ _ h => h.keeps hk hl
theorem rowQu_keeps {w w' : World} {lo lo' M n : Nat} {xs : List (QuF Ex)} {a : Option Addr} (h : RowP w lo M 6 (quC w lo M (ExB w lo M n)) xs a) (hk : Keeps lo w w') (hl : lo' ≤ lo) : RowP w' lo' M 6 (quC w' lo' M (ExB w' lo' M n)) xs a :=
  h.imp hl (Nat.le_refl _) hk.size hk.block fun _ _ => quC.imp hl hk.size hk.block fun _ _ _ h => h.keeps hk hl
theorem rowIt_keeps {w w' : World} {lo lo' M n : Nat} {xs : List (ItF Ex)} {a : Option Addr} (h : RowP w lo M 13 (itC M (ExB w lo M n)) xs a) (hk : Keeps lo w w') (hl : lo' ≤ lo) : RowP w' lo' M 13 (itC M (ExB w' lo' M n)) xs a :=
  h.imp hl (Nat.le_refl _) hk.size hk.block fun _ _ => itC.imp fun _ _ _ h => h.keeps hk hl
theorem rowKe_keeps {w w' : World} {lo lo' M n : Nat} {xs : List (KeF Ex)} {a : Option Addr} (h : RowP w lo M 11 (keC (ExB w lo M n)) xs a) (hk : Keeps lo w w') (hl : lo' ≤ lo) : RowP w' lo' M 11 (keC (ExB w' lo' M n)) xs a :=
  h.imp hl (Nat.le_refl _) hk.size hk.block fun _ _ => keC.imp fun _ _ _ h => h.keeps hk hl
theorem rowSo_keeps {w w' : World} {lo lo' M n : Nat} {xs : List (SoF Ex)} {a : Option Addr} (h : RowP w lo M 3 (soC w lo M (ExB w lo M n)) xs a) (hk : Keeps lo w w') (hl : lo' ≤ lo) : RowP w' lo' M 3 (soC w' lo' M (ExB w' lo' M n)) xs a :=
  h.imp hl (Nat.le_refl _) hk.size hk.block fun _ _ => soC.imp hl hk.size hk.block fun _ _ _ h => h.keeps hk hl

/-- Block g has n cells, none frozen. -/
structure Room (w : World) (g n : Nat) : Prop where
  lt : g < w.heap.size
  has : ∀ i, i < n → ∃ u, w.cell? ⟨g, i, none⟩ = some u
  free : ∀ i, w.frozen? ⟨g, i, none⟩ = false
theorem Room.stays {w w' : World} {g n : Nat} (h : Room w g n) (hs : w.heap.size ≤ w'.heap.size) (hb : w'.heap[g]? = w.heap[g]?) : Room w' g n :=
  ⟨Nat.lt_of_lt_of_le h.lt hs, fun i hi => by obtain ⟨u, hu⟩ := h.has i hi; exact ⟨u, (World.cell?_of_block (a := ⟨g, i, none⟩) hb).trans hu⟩, fun i => (World.frozen?_of_block (a := ⟨g, i, none⟩) hb).trans (h.free i)⟩
theorem Room.below {w w' : World} {g n : Nat} (h : Room w g n) (hb : Below w.heap.size w w') : Room w' g n := h.stays hb.size (hb.block g h.lt)
theorem Room.set {w : World} {g n : Nat} (h : Room w g n) (k : Nat) (v : Value) : Room (w.setCell ⟨g, k, none⟩ v) g n := by
  refine ⟨by simpa [World.setCell] using h.lt, fun i hi => ?_, fun i => by rw [World.frozen?_setCell]; exact h.free i⟩
  obtain ⟨u, hu⟩ := h.has i hi
  by_cases hik : i = k
  · subst hik
    exact ⟨v, World.cell?_setCell_same _ _ _ hu⟩
  · exact ⟨u, by rw [World.cell?_setCell_other _ _ _ _ (by intro e; injection e with _ e2 _; exact hik e2.symm)]; exact hu⟩
theorem Room.sets {w : World} {g n : Nat} (h : Room w g n) (o : Nat) (vs : List Value) : Room (w.setCells g o vs) g n := by
  induction vs generalizing w o with
  | nil => exact h
  | cons v r ih => exact ih (h.set o v) (o + 1)
theorem Room.at_in {w : World} {g n : Nat} (h : Room w g n) (o : Nat) (vs : List Value) (ho : o + vs.length ≤ n) : cellsAt (w.setCells g o vs) g o vs :=
  fun j hj => World.cell?_setCells_in g vs o w (fun i hi => by obtain ⟨u, hu⟩ := h.has (o + i) (by omega); rw [hu]; rfl) j hj
theorem cellsAt.apart {w : World} {g o : Nat} {l : List Value} (h : cellsAt w g o l) (p : Nat) (vs : List Value) (ha : o + l.length ≤ p) : cellsAt (w.setCells g p vs) g o l :=
  fun j hj => (World.cell?_setCells_out g vs p w ⟨g, o + j, none⟩ (fun _ _ => .inl (by show o + j < p; omega))).trans (h j hj)
theorem Room.of_owns {w : World} {base : Nat} {e : TypeId} {size g n cap : Nat} {xs : List Value} (h : w.ownsRow base e size (.slice (some ⟨g, 0, none⟩) n cap) n xs) (hx : xs.length = n * size) : Room w g (n * size) := by
  refine ⟨(h.lt g rfl).2, fun i hi => ⟨xs[i]'(by omega), ?_⟩, fun i => h.frozenAt i⟩
  rw [h.cellAt i (by omega), List.getElem?_eq_getElem (by omega)]
theorem below_sets {B g : Nat} {w a : World} (h : Below B w a) (hg : B ≤ g) (o : Nat) (vs : List Value) : Below B w (a.setCells g o vs) := by
  induction vs generalizing a o with
  | nil => exact h
  | cons v r ih => exact ih (h.setCell hg v) (o + 1)
end Go.Proofs.Ytfikgiekigbaoaa
