import Derived.Test.YtfnjcgakcpadiaaGreatDoorLexF
/-
  What holds a row of tokens.
-/
namespace Go.Proofs.YtfnjcgakcpadiaaGreatDoor
open Go.RowKit

theorem owns_below {w w' : World} {base : Nat} {e : TypeId} {size n : Nat} {v : Value} {xs : List Value} (h : w.ownsRow base e size v n xs) (hb : Below w.heap.size w w') : w'.ownsRow base e size v n xs := by
  refine h.kept (row := none) ⟨hb.os, hb.tape, hb.output, hb.size, fun i hi _ => hb.block i hi⟩ ?_
  cases v.ownBlock with
  | none => exact .inl rfl
  | some k => exact .inr (by simp)

theorem owns_made2 {w2 : World} {base : Nat} (h : base ≤ w2.heap.size) (o : Obj) : ((w2.alloc o).alloc (.cells #[] 25)).ownsRow base 25 3 (.slice (some ⟨w2.heap.size + 1, 0, none⟩) 0 0) 0 [] := by
  have h1 := World.ownsRow_made (base := base) (size := 3) (e := 25) (w2.alloc o) #[] 0 (by simp; omega) (by decide) rfl
  simpa using h1

/-- What Lex hands back. -/
def LexPost (w : World) (R : List Tk × Int) (e : Ending) (w' : World) : Prop :=
  ∃ v, e = .returned (.tuple #[v, .int .i64 R.2]) ∧ w'.ownsRow w.heap.size 25 3 v R.1.length (tkCells R.1) ∧ Below w.heap.size w w'
theorem LexPost.of {w w' : World} {R : List Tk × Int} {v : Value} {b : Int} (pre : List Tk) (hR : R = (pre, b)) (ho : w'.ownsRow w.heap.size 25 3 v pre.length (tkCells pre)) (hb : Below w.heap.size w w') : LexPost w R (.returned (.tuple #[v, .int .i64 b])) w' := by
  subst hR
  exact ⟨v, rfl, ho, hb⟩
end Go.Proofs.YtfnjcgakcpadiaaGreatDoor

/-
  Rows of tokens that the call itself made.
-/
namespace Go.Proofs.YtfnjcgakcpadiaaGreatDoor
open Go.RowKit

/-- Block g holds n tokens; none of these cells is frozen. -/
structure ToksF (w : World) (g n : Nat) (f : Nat → Int × ByteArray × Int) : Prop where
  lt : g < w.heap.size
  cell : ∀ i, i < n → w.cell? ⟨g, i * 3, none⟩ = some (.int .i64 (f i).1) ∧ w.cell? ⟨g, i * 3 + 1, none⟩ = some (.string (f i).2.1) ∧ w.cell? ⟨g, i * 3 + 2, none⟩ = some (.int .i64 (f i).2.2)
  free : ∀ i, i < n → w.frozen? ⟨g, i * 3, none⟩ = false ∧ w.frozen? ⟨g, i * 3 + 1, none⟩ = false ∧ w.frozen? ⟨g, i * 3 + 2, none⟩ = false

/-- A token of a list. -/
def tkF (l : List Tk) (i : Nat) : Int × ByteArray × Int := ((l.getD i (0, ⟨#[]⟩, 0)).1, (l.getD i (0, ⟨#[]⟩, 0)).2.1, ((l.getD i (0, ⟨#[]⟩, 0)).2.2 : Int))

theorem ToksF.of_owns {w : World} {base : Nat} {e : TypeId} {g n cap : Nat} {l : List Tk} (h : w.ownsRow base e 3 (.slice (some ⟨g, 0, none⟩) n cap) n (tkCells l)) : ToksF w g n (tkF l) := by
  have hl : l.length = n := by have := h.1; rw [tkCells_len] at this; omega
  refine ⟨(h.lt g rfl).2, fun i hi => ?_, fun i _ => ⟨h.frozenAt _, h.frozenAt _, h.frozenAt _⟩⟩
  obtain ⟨h1, h2, h3⟩ := tkCells_get l i (by omega)
  rw [h.cellAt (i * 3) (by omega), h.cellAt (i * 3 + 1) (by omega), h.cellAt (i * 3 + 2) (by omega), h1, h2, h3]
  simp [tkF, List.getD, List.getElem?_eq_getElem (show i < l.length by omega)]

theorem ToksF.stays {w w' : World} {g n : Nat} {f : Nat → Int × ByteArray × Int} (h : ToksF w g n f) (hs : w.heap.size ≤ w'.heap.size) (hb : w'.heap[g]? = w.heap[g]?) : ToksF w' g n f := by
  have hc : ∀ o, w'.cell? ⟨g, o, none⟩ = w.cell? ⟨g, o, none⟩ := fun o => World.cell?_of_block (a := ⟨g, o, none⟩) hb
  have hf : ∀ o, w'.frozen? ⟨g, o, none⟩ = w.frozen? ⟨g, o, none⟩ := fun o => World.frozen?_of_block (a := ⟨g, o, none⟩) hb
  refine ⟨Nat.lt_of_lt_of_le h.lt hs, fun i hi => ?_, fun i hi => ?_⟩
  · rw [hc, hc, hc]; exact h.cell i hi
  · rw [hf, hf, hf]; exact h.free i hi
theorem ToksF.below {w w' : World} {g n : Nat} {f : Nat → Int × ByteArray × Int} (h : ToksF w g n f) (hb : Below w.heap.size w w') : ToksF w' g n f :=
  h.stays hb.size (hb.block g h.lt)
theorem ToksF.other {w w' : World} {g g' n : Nat} {f : Nat → Int × ByteArray × Int} (h : ToksF w g n f) (hb : w.grownBy w' (some g')) (hne : g ≠ g') : ToksF w' g n f :=
  h.stays hb.size (hb.block g h.lt (fun e => hne (by injection e)))
theorem ToksF.same {w : World} {g n : Nat} {f f' : Nat → Int × ByteArray × Int} (h : ToksF w g n f) (he : ∀ i, i < n → f i = f' i) : ToksF w g n f' :=
  ⟨h.lt, fun i hi => by rw [← he i hi]; exact h.cell i hi, h.free⟩

theorem off_ne {g i j : Nat} (h : i ≠ j) : (⟨g, i, none⟩ : Addr) ≠ ⟨g, j, none⟩ := by intro e; injection e with _ e _; exact h e
theorem ToksF.setK {w : World} {g n : Nat} {f : Nat → Int × ByteArray × Int} (h : ToksF w g n f) (k : Nat) (hk : k < n) (x : Int) :
    ToksF (w.setCell ⟨g, k * 3, none⟩ (.int .i64 x)) g n (fun i => if i = k then (x, (f i).2.1, (f i).2.2) else f i) := by
  refine ⟨by simpa [World.setCell] using h.lt, fun i hi => ?_, fun i hi => ?_⟩
  · obtain ⟨h1, h2, h3⟩ := h.cell i hi
    by_cases hik : i = k
    · subst hik
      rw [World.cell?_setCell_same _ _ _ h1, World.cell?_setCell_other _ _ _ _ (off_ne (by omega)), World.cell?_setCell_other _ _ _ _ (off_ne (by omega)), h2, h3]
      simp
    · rw [World.cell?_setCell_other _ _ _ _ (off_ne (by omega)), World.cell?_setCell_other _ _ _ _ (off_ne (by omega)), World.cell?_setCell_other _ _ _ _ (off_ne (by omega)), h1, h2, h3]
      simp [hik]
  · rw [World.frozen?_setCell, World.frozen?_setCell, World.frozen?_setCell]
    exact h.free i hi
theorem ToksF.setX {w : World} {g n : Nat} {f : Nat → Int × ByteArray × Int} (h : ToksF w g n f) (k : Nat) (hk : k < n) (x : ByteArray) :
    ToksF (w.setCell ⟨g, k * 3 + 1, none⟩ (.string x)) g n (fun i => if i = k then ((f i).1, x, (f i).2.2) else f i) := by
  refine ⟨by simpa [World.setCell] using h.lt, fun i hi => ?_, fun i hi => ?_⟩
  · obtain ⟨h1, h2, h3⟩ := h.cell i hi
    by_cases hik : i = k
    · subst hik
      rw [World.cell?_setCell_same _ _ _ h2, World.cell?_setCell_other _ _ _ _ (off_ne (by omega)), World.cell?_setCell_other _ _ _ _ (off_ne (by omega)), h1, h3]
      simp
    · rw [World.cell?_setCell_other _ _ _ _ (off_ne (by omega)), World.cell?_setCell_other _ _ _ _ (off_ne (by omega)), World.cell?_setCell_other _ _ _ _ (off_ne (by omega)), h1, h2, h3]
      simp [hik]
  · rw [World.frozen?_setCell, World.frozen?_setCell, World.frozen?_setCell]
    exact h.free i hi
theorem ToksF.setA {w : World} {g n : Nat} {f : Nat → Int × ByteArray × Int} (h : ToksF w g n f) (k : Nat) (hk : k < n) (x : Int) :
    ToksF (w.setCell ⟨g, k * 3 + 2, none⟩ (.int .i64 x)) g n (fun i => if i = k then ((f i).1, (f i).2.1, x) else f i) := by
  refine ⟨by simpa [World.setCell] using h.lt, fun i hi => ?_, fun i hi => ?_⟩
  · obtain ⟨h1, h2, h3⟩ := h.cell i hi
    by_cases hik : i = k
    · subst hik
      rw [World.cell?_setCell_same _ _ _ h3, World.cell?_setCell_other _ _ _ _ (off_ne (by omega)), World.cell?_setCell_other _ _ _ _ (off_ne (by omega)), h1, h2]
      simp
    · rw [World.cell?_setCell_other _ _ _ _ (off_ne (by omega)), World.cell?_setCell_other _ _ _ _ (off_ne (by omega)), World.cell?_setCell_other _ _ _ _ (off_ne (by omega)), h1, h2, h3]
      simp [hik]
  · rw [World.frozen?_setCell, World.frozen?_setCell, World.frozen?_setCell]
    exact h.free i hi
end Go.Proofs.YtfnjcgakcpadiaaGreatDoor

/-
  What Lex hands back, opened.
-/
namespace Go.Proofs.YtfnjcgakcpadiaaGreatDoor
open Go.RowKit

/-- A row of tokens: none, or in a block. -/
theorem row_form {w w' : World} {R : List Tk × Int} {e : Ending} (h : LexPost w R e w') : Below w.heap.size w w' ∧ ∃ v, e = .returned (.tuple #[v, .int .i64 R.2]) ∧
    ((R.1.length = 0 ∧ ∃ a c, v = .slice a 0 c) ∨ (0 < R.1.length ∧ ∃ g c, v = .slice (some ⟨g, 0, none⟩) R.1.length c ∧ w.heap.size ≤ g ∧ g < w'.heap.size ∧ ToksF w' g R.1.length (tkF R.1))) := by
  obtain ⟨v, rfl, ho, hb⟩ := h
  refine ⟨hb, v, rfl, ?_⟩
  by_cases hn : R.1.length = 0
  · refine .inl ⟨hn, ?_⟩
    rcases ho.2 with ⟨rfl, _⟩ | ⟨g, cap, cur, hv, _⟩
    · exact ⟨_, _, rfl⟩
    · rw [hn] at hv
      exact ⟨_, _, hv⟩
  · have hp : 0 < R.1.length := by omega
    rcases ho.2 with ⟨_, h⟩ | ⟨g, cap, cur, rfl, hg, hh, _⟩
    · omega
    · exact .inr ⟨hp, g, cap, rfl, hg, (Array.getElem?_eq_some_iff.1 hh).1, ToksF.of_owns ho⟩
theorem lex_count (l : List UInt8) : ∀ (d a : Nat), l.length - a = d → (lexAt l a).1.length ≤ d := by
  intro d
  induction d using Nat.strongRecOn with
  | _ d ih =>
    intro a hd
    obtain ⟨p, ok, hpo⟩ : ∃ p ok, skipTo l a = (p, ok) := ⟨_, _, rfl⟩
    have hge := skipTo_ge l a
    rw [hpo] at hge
    simp only at hge
    cases ok
    · rw [lex_bad hpo]; simp
    · by_cases hp : p < l.length
      · cases ht : tokR (l.drop p) with
        | none => rw [lex_no hpo hp ht]; simp
        | some t =>
          have hm := tok_pos ht
          rw [lex_tok hpo hp ht hm.1]
          have := ih (l.length - (p + t.2.2)) (by omega) (p + t.2.2) rfl
          unfold lexPre
          split
          · simp; omega
          · simp
      · rw [lex_end hpo (by omega)]; simp
theorem lexS_count (s : ByteArray) : (lexS s).1.length ≤ s.size := by
  unfold lexS
  split
  · simp
  · have := lex_count s.data.toList _ 0 rfl
    rw [list_size] at this
    omega

end Go.Proofs.YtfnjcgakcpadiaaGreatDoor
