/-
  Trees that are drawn and then bent in place: which blocks hold rows of expressions, of what rank, how long. No program text in sight.
-/
import Derived.Test.YtfpoakdmclekoaaBlk
import Derived.Test.YtfpoakdmclekoaaDrB
namespace Go.Proofs.Ytfpoakdmclekoaa
open Go Go.RowKit Go.Lib

/-- An expression as its cells hold it. -/
structure EK where
  k : Int
  op : Int
  ng : Bool
  vk : Int
  vn : Int
  vt : ByteArray
  qu : ByteArray
  nm : ByteArray
  ka : Option Addr
  m : Nat
  kc : Nat
  sa : Option Addr
  ms : Nat
  sc : Nat
def EK.L (x : EK) : List Value := [.int .i64 x.k, .int .i64 x.op, .bool x.ng, .int .i64 x.vk, .int .i64 x.vn, .string x.vt, .string x.qu, .string x.nm, .slice x.ka x.m x.kc, .slice x.sa x.ms x.sc]

/-- A block: a row of expressions (its rank, how many lie in it, how many find room), or a query. -/
inductive Bk where
  | ex (r l c : Nat)
  | qu
abbrev RM := Nat → Option Bk

/-- The rows of an expression lie in blocks of R, the kids' of less rank than r; while b, its queries' row is full. -/
structure KidOk (R : RM) (b : Bool) (r : Nat) (x : EK) : Prop where
  kids : (x.ka = none ∧ x.m = 0 ∧ x.kc = 0) ∨ ∃ g r' l, x.ka = some ⟨g, 0, none⟩ ∧ R g = some (.ex r' l x.kc) ∧ r' < r ∧ 0 < x.m ∧ x.m ≤ l
  few : x.m ≤ (if b then 8 else 9)
  sub : b = true → (x.sa = none ∧ x.ms = 0 ∧ x.sc = 0) ∨ ∃ s, x.sa = some ⟨s, 0, none⟩ ∧ x.ms = 1 ∧ x.sc = 1 ∧ R s = some .qu

/-- What is said of later books: blocks keep their rank and their room, rows grow; blocks below N that stood in none stand in none. -/
structure Ext (N : Nat) (R R' : RM) : Prop where
  ex : ∀ g r l c, R g = some (.ex r l c) → ∃ l', l ≤ l' ∧ R' g = some (.ex r l' c)
  qu : ∀ s, R s = some .qu → R' s = some .qu
  no : ∀ g, g < N → R g = none → R' g = none

theorem Ext.refl (N : Nat) (R : RM) : Ext N R R := ⟨fun _ _ l _ h => ⟨l, Nat.le_refl _, h⟩, fun _ h => h, fun _ _ h => h⟩
theorem Ext.trans {N N' : Nat} {R R' R2 : RM} (h : Ext N R R') (k : Ext N' R' R2) (hN : N ≤ N') : Ext N R R2 :=
  ⟨fun g r l c e => by obtain ⟨l1, h1, e1⟩ := h.ex g r l c e; obtain ⟨l2, h2, e2⟩ := k.ex g r l1 c e1; exact ⟨l2, Nat.le_trans h1 h2, e2⟩, fun s e => k.qu s (h.qu s e), fun g hg e => k.no g (Nat.lt_of_lt_of_le hg hN) (h.no g hg e)⟩
theorem Ext.less {N N' : Nat} {R R' : RM} (h : Ext N R R') (hN : N' ≤ N) : Ext N' R R' := ⟨h.ex, h.qu, fun g hg => h.no g (Nat.lt_of_lt_of_le hg hN)⟩

theorem KidOk.ext {N : Nat} {R R' : RM} {b : Bool} {r r2 : Nat} {x : EK} (h : KidOk R b r x) (e : Ext N R R') (hr : r ≤ r2) : KidOk R' b r2 x := by
  refine ⟨?_, h.few, fun hb => ?_⟩
  · rcases h.kids with h | ⟨g, r', l, h1, h2, h3, h4, h5⟩
    · exact .inl h
    · obtain ⟨l', hl, e2⟩ := e.ex g r' l _ h2
      exact .inr ⟨g, r', l', h1, e2, by omega, h4, by omega⟩
  · rcases h.sub hb with h | ⟨s, h1, h2, h3, h4⟩
    · exact .inl h
    · exact .inr ⟨s, h1, h2, h3, e.qu s h4⟩
theorem KidOk.weak {R : RM} {r : Nat} {x : EK} {b : Bool} (h : KidOk R b r x) : KidOk R false r x :=
  ⟨h.kids, by have := h.few; cases b <;> simp at this ⊢ <;> omega, fun hb => by cases hb⟩
/-- A leaf. -/
theorem KidOk.leaf (R : RM) (b : Bool) (r : Nat) (k op : Int) (ng : Bool) (vk vn : Int) (vt qu nm : ByteArray) : KidOk R b r ⟨k, op, ng, vk, vn, vt, qu, nm, none, 0, 0, none, 0, 0⟩ :=
  ⟨.inl ⟨rfl, rfl, rfl⟩, by simp, fun _ => .inl ⟨rfl, rfl, rfl⟩⟩

/-- What the books say lies so in w. -/
structure Hp (w : World) (lo : Nat) (R : RM) (b : Bool) : Prop where
  ex : ∀ g r l c, R g = some (.ex r l c) → lo ≤ g ∧ (b = true → 1 ≤ r) ∧ l ≤ c ∧ Room w g (c * 10) ∧ ∀ i, i < l → ∃ x : EK, KidOk R b r x ∧ cellsAt w g (i * 10) x.L
  qu : ∀ s, R s = some .qu → lo ≤ s ∧ Room w s 6

theorem Hp.lt {w : World} {lo : Nat} {R : RM} {b : Bool} (h : Hp w lo R b) {g : Nat} {x : Bk} (hg : R g = some x) : lo ≤ g ∧ g < w.heap.size := by
  cases x with
  | ex r l c => have := h.ex g r l c hg; exact ⟨this.1, this.2.2.2.1.lt⟩
  | qu => have := h.qu g hg; exact ⟨this.1, this.2.lt⟩
theorem Hp.new {w : World} {lo : Nat} {R : RM} {b : Bool} (h : Hp w lo R b) {g : Nat} (hg : w.heap.size ≤ g) : R g = none := by
  cases e : R g with
  | none => rfl
  | some x => have := (h.lt e).2; omega
theorem Hp.same {w w' : World} {lo : Nat} {R : RM} {b : Bool} (h : Hp w lo R b) (hs : w.heap.size ≤ w'.heap.size) (hb : ∀ g, R g ≠ none → w'.heap[g]? = w.heap[g]?) : Hp w' lo R b := by
  refine ⟨fun g r l c e => ?_, fun s e => ?_⟩
  · obtain ⟨h1, h2, h3, h4, h5⟩ := h.ex g r l c e
    have hk := hb g (by rw [e]; simp)
    exact ⟨h1, h2, h3, h4.stays hs hk, fun i hi => let ⟨x, k1, k2⟩ := h5 i hi; ⟨x, k1, k2.same hk⟩⟩
  · obtain ⟨h1, h2⟩ := h.qu s e
    exact ⟨h1, h2.stays hs (hb s (by rw [e]; simp))⟩
theorem Hp.grown {w w' : World} {lo : Nat} {R : RM} {b : Bool} {row : Option Nat} (h : Hp w lo R b) (hg : w.grownBy w' row) (hr : ∀ k, row = some k → R k = none) : Hp w' lo R b :=
  h.same hg.size fun g hne => hg.block g (by cases e : R g with | none => exact absurd e hne | some x => exact (h.lt e).2) (fun e => hne (hr g e.symm))
theorem Hp.none_lo {w : World} {lo : Nat} {R : RM} {b : Bool} (h : Hp w lo R b) {g : Nat} (hg : g < lo) : R g = none := by
  cases e : R g with
  | none => rfl
  | some x => have := (h.lt e).1; omega
theorem Hp.dr {B p lo : Nat} {w w' : World} {R : RM} {b : Bool} (h : Hp w lo R b) (hd : Dr B p w w') (hp : p < lo) : Hp w' lo R b :=
  h.grown hd.grown fun k hk => by injection hk with hk; subst hk; exact h.none_lo hp
theorem Hp.below {w w' : World} {lo : Nat} {R : RM} {b : Bool} (h : Hp w lo R b) (hb : Below w.heap.size w w') : Hp w' lo R b :=
  h.same hb.size fun g hne => hb.block g (by cases e : R g with | none => exact absurd e hne | some x => exact (h.lt e).2)
theorem Hp.set {w : World} {lo : Nat} {R : RM} {b : Bool} (h : Hp w lo R b) {g : Nat} (hg : R g = none) (i : Nat) (v : Value) : Hp (w.setCell ⟨g, i, none⟩ v) lo R b :=
  h.grown (grownBy_setCell w g i v) fun k hk => by injection hk with hk; subst hk; exact hg
theorem Hp.weak {w : World} {lo : Nat} {R : RM} {b : Bool} (h : Hp w lo R b) : Hp w lo R false :=
  ⟨fun g r l c e => let ⟨h1, _, h3, h4, h5⟩ := h.ex g r l c e; ⟨h1, (fun hb => by cases hb), h3, h4, fun i hi => let ⟨x, k1, k2⟩ := h5 i hi; ⟨x, k1.weak, k2⟩⟩, h.qu⟩

/-- The books with block g in them. -/
def RM.put (R : RM) (g : Nat) (x : Bk) : RM := fun y => if y = g then some x else R y
theorem RM.put_at (R : RM) (g : Nat) (x : Bk) : R.put g x g = some x := by simp [RM.put]
theorem RM.put_ne (R : RM) {g y : Nat} (x : Bk) (h : y ≠ g) : R.put g x y = R y := by simp [RM.put, h]
theorem Ext.add {N : Nat} {R : RM} {g : Nat} (x : Bk) (hg : R g = none) (hN : N ≤ g) : Ext N R (R.put g x) := by
  refine ⟨fun y r l c e => ⟨l, Nat.le_refl _, ?_⟩, fun y e => ?_, fun y hy e => ?_⟩
  · rw [R.put_ne x (by rintro rfl; rw [hg] at e; cases e)]; exact e
  · rw [R.put_ne x (by rintro rfl; rw [hg] at e; cases e)]; exact e
  · rw [R.put_ne x (by omega)]; exact e
theorem Ext.more {N : Nat} {R : RM} {g r l l' c : Nat} (hg : R g = some (.ex r l c)) (hl : l ≤ l') : Ext N R (R.put g (.ex r l' c)) := by
  refine ⟨fun y r1 l1 c1 e => ?_, fun y e => ?_, fun y hy e => ?_⟩
  · by_cases hy : y = g
    · subst hy
      rw [hg] at e
      injection e with e
      injection e with e1 e2 e3
      subst e1 e2 e3
      exact ⟨l', hl, R.put_at _ _⟩
    · exact ⟨l1, Nat.le_refl _, by rw [R.put_ne _ hy]; exact e⟩
  · rw [R.put_ne _ (by rintro rfl; rw [hg] at e; cases e)]; exact e
  · rw [R.put_ne _ (by rintro rfl; rw [hg] at e; cases e)]; exact e

/-- A new row of expressions enters the books. -/
theorem Hp.addEx {w : World} {lo : Nat} {R : RM} {b : Bool} (h : Hp w lo R b) {N g r l c : Nat} (hg : R g = none) (hlo : lo ≤ g) (hr : b = true → 1 ≤ r) (hl : l ≤ c) (hroom : Room w g (c * 10))
    (hel : ∀ i, i < l → ∃ x : EK, KidOk R b r x ∧ cellsAt w g (i * 10) x.L) (hN : N ≤ g) : Hp w lo (R.put g (.ex r l c)) b ∧ Ext N R (R.put g (.ex r l c)) := by
  have hx := Ext.add (N := N) (.ex r l c) hg hN
  refine ⟨⟨fun y r1 l1 c1 e => ?_, fun y e => ?_⟩, hx⟩
  · by_cases hy : y = g
    · subst hy
      rw [R.put_at] at e
      injection e with e
      injection e with e1 e2 e3
      subst e1 e2 e3
      exact ⟨hlo, hr, hl, hroom, fun i hi => let ⟨x, k1, k2⟩ := hel i hi; ⟨x, k1.ext hx (Nat.le_refl _), k2⟩⟩
    · rw [R.put_ne _ hy] at e
      obtain ⟨h1, h2, h3, h4, h5⟩ := h.ex y r1 l1 c1 e
      exact ⟨h1, h2, h3, h4, fun i hi => let ⟨x, k1, k2⟩ := h5 i hi; ⟨x, k1.ext hx (Nat.le_refl _), k2⟩⟩
  · by_cases hy : y = g
    · subst hy; rw [R.put_at] at e; cases e
    · rw [R.put_ne _ hy] at e; exact h.qu y e
/-- A new query enters the books. -/
theorem Hp.addQu {w : World} {lo : Nat} {R : RM} {b : Bool} (h : Hp w lo R b) {N g : Nat} (hg : R g = none) (hlo : lo ≤ g) (hroom : Room w g 6) (hN : N ≤ g) : Hp w lo (R.put g .qu) b ∧ Ext N R (R.put g .qu) := by
  have hx := Ext.add (N := N) .qu hg hN
  refine ⟨⟨fun y r1 l1 c1 e => ?_, fun y e => ?_⟩, hx⟩
  · by_cases hy : y = g
    · subst hy; rw [R.put_at] at e; cases e
    · rw [R.put_ne _ hy] at e
      obtain ⟨h1, h2, h3, h4, h5⟩ := h.ex y r1 l1 c1 e
      exact ⟨h1, h2, h3, h4, fun i hi => let ⟨x, k1, k2⟩ := h5 i hi; ⟨x, k1.ext hx (Nat.le_refl _), k2⟩⟩
  · by_cases hy : y = g
    · subst hy; exact ⟨hlo, hroom⟩
    · rw [R.put_ne _ hy] at e; exact h.qu y e

theorem EK.len (x : EK) : x.L.length = 10 := rfl
theorem heap_sets {w : World} {g y : Nat} (o : Nat) (vs : List Value) (h : y ≠ g) : (w.setCells g o vs).heap[y]? = w.heap[y]? := by
  induction vs generalizing w o with
  | nil => rfl
  | cons v r ih => exact (ih (w := w.setCell ⟨g, o, none⟩ v) (o + 1)).trans (Below.heap_setCell w ⟨g, o, none⟩ v y (by show y ≠ g; exact h))
theorem size_sets {w : World} {g : Nat} (o : Nat) (vs : List Value) : (w.setCells g o vs).heap.size = w.heap.size := by
  induction vs generalizing w o with
  | nil => rfl
  | cons v r ih => exact (ih (w := w.setCell ⟨g, o, none⟩ v) (o + 1)).trans (by simp [World.setCell])
theorem grown_sets {w : World} (g o : Nat) (vs : List Value) : w.grownBy (w.setCells g o vs) (some g) := by
  induction vs generalizing w o with
  | nil => exact World.grownBy.refl _ _
  | cons v r ih => exact grownBy_trans (grownBy_setCell w g o v) (ih (w := w.setCell ⟨g, o, none⟩ v) (o + 1))
theorem cellsAt.apart2 {w : World} {g o : Nat} {l : List Value} (h : cellsAt w g o l) (p : Nat) (vs : List Value) (ha : o + l.length ≤ p ∨ p + vs.length ≤ o) : cellsAt (w.setCells g p vs) g o l :=
  fun j hj => (World.cell?_setCells_out g vs p w ⟨g, o + j, none⟩ (fun _ _ => by show o + j < p ∨ p + vs.length ≤ o + j; omega)).trans (h j hj)

/-- An expression is written into a row of the books, at its end or before. -/
theorem Hp.put {w : World} {lo : Nat} {R : RM} {b : Bool} (h : Hp w lo R b) {N g r l c i : Nat} {x : EK} (hg : R g = some (.ex r l c)) (hx : KidOk R b r x) (hi : i ≤ l) (hc : i < c) :
    Hp (w.setCells g (i * 10) x.L) lo (R.put g (.ex r (max l (i + 1)) c)) b ∧ Ext N R (R.put g (.ex r (max l (i + 1)) c)) := by
  have he := Ext.more (N := N) hg (show l ≤ max l (i + 1) by omega)
  have h0 := h.ex g r l c hg
  refine ⟨⟨fun y r1 l1 c1 e => ?_, fun y e => ?_⟩, he⟩
  · by_cases hy : y = g
    · subst hy
      rw [R.put_at] at e
      injection e with e
      injection e with e1 e2 e3
      subst e1 e2 e3
      obtain ⟨h1, h2, h3, h4, h5⟩ := h0
      refine ⟨h1, h2, by omega, h4.sets _ _, fun j hj => ?_⟩
      by_cases hji : j = i
      · subst hji
        exact ⟨x, hx.ext he (Nat.le_refl _), h4.at_in _ _ (by rw [x.len]; omega)⟩
      · obtain ⟨z, k1, k2⟩ := h5 j (by omega)
        exact ⟨z, k1.ext he (Nat.le_refl _), k2.apart2 _ _ (by rw [x.len, z.len]; omega)⟩
    · rw [R.put_ne _ hy] at e
      obtain ⟨h1, h2, h3, h4, h5⟩ := h.ex y r1 l1 c1 e
      have hk : (w.setCells g (i * 10) x.L).heap[y]? = w.heap[y]? := heap_sets _ _ hy
      exact ⟨h1, h2, h3, h4.stays (Nat.le_of_eq (size_sets _ _).symm) hk, fun j hj => let ⟨z, k1, k2⟩ := h5 j hj; ⟨z, k1.ext he (Nat.le_refl _), k2.same hk⟩⟩
  · by_cases hy : y = g
    · subst hy; rw [R.put_at] at e; cases e
    · rw [R.put_ne _ hy] at e
      obtain ⟨h1, h2⟩ := h.qu y e
      exact ⟨h1, h2.stays (Nat.le_of_eq (size_sets _ _).symm) (heap_sets _ _ hy)⟩

/-- Rows laid end to end. -/
def flatK (xs : List EK) : List Value := xs.flatMap EK.L
theorem flatK_len (xs : List EK) : (flatK xs).length = xs.length * 10 := by
  induction xs with
  | nil => rfl
  | cons x r ih => rw [show flatK (x :: r) = x.L ++ flatK r from rfl, List.length_append, ih, x.len, List.length_cons]; omega
theorem flatK_get : ∀ (xs : List EK) (i : Nat) (hi : i < xs.length) (q : Nat), q < 10 → (flatK xs)[i * 10 + q]? = xs[i].L[q]?
  | x :: r, 0, _, q, hq => by
    rw [show flatK (x :: r) = x.L ++ flatK r from rfl, List.getElem?_append_left (by rw [x.len]; omega)]; simp
  | x :: r, i + 1, hi, q, hq => by
    rw [show flatK (x :: r) = x.L ++ flatK r from rfl, List.getElem?_append_right (by rw [x.len]; omega), x.len, show (i + 1) * 10 + q - 10 = i * 10 + q by omega]
    simpa using flatK_get r i (by simpa using hi) q hq
theorem flatK_snoc (xs : List EK) (x : EK) : flatK (xs ++ [x]) = flatK xs ++ x.L := by simp [flatK]

/-- The room of a row that append made. -/
theorem Room.of_block {w : World} {base g n cap : Nat} {e : TypeId} {size : Nat} {xs : List Value} (h : w.ownsRow base e size (.slice (some ⟨g, 0, none⟩) n cap) n xs) : base ≤ g ∧ n ≤ cap ∧ Room w g (cap * size) := by
  rcases h.2 with ⟨e, _⟩ | ⟨g2, cap2, cur, e, hb, hg, hn, _, hsz, _⟩
  · cases e
  · injection e with e1 _ e3
    injection e1 with e1
    injection e1 with e1 _ _
    subst e1 e3
    have hlt : g < w.heap.size := (Array.getElem?_eq_some_iff.1 hg).1
    refine ⟨hb, hn, hlt, fun i hi => ⟨cur[i]'(by omega), ?_⟩, fun i => by simp [World.frozen?, hg]⟩
    simp [World.cell?, hg, show i < cur.size by omega]
/-- Its elements. -/
theorem owns_el {w : World} {base g n cap : Nat} {e : TypeId} {xs : List EK} (h : w.ownsRow base e 10 (.slice (some ⟨g, 0, none⟩) n cap) n (flatK xs)) : n = xs.length ∧ ∀ i (hi : i < xs.length), cellsAt w g (i * 10) xs[i].L := by
  have hn : n = xs.length := by have := h.1; rw [flatK_len] at this; omega
  refine ⟨hn, fun i hi q hq => ?_⟩
  have hq10 : q < 10 := by simpa [EK.len] using hq
  rw [h.cellAt (i * 10 + q) (by omega), flatK_get xs i hi q hq10, List.getElem?_eq_getElem hq]
end Go.Proofs.Ytfpoakdmclekoaa
