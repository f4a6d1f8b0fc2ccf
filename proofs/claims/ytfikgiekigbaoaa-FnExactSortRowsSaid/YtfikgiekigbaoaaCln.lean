/-
  slices.Clone of a row of values.
-/
import Derived.Test.YtfikgiekigbaoaaSeg
import Derived.Lib.BufferOwn
import Derived.Lib.LazyBuf
import Derived.Test.YtfikgiekigbaoaaFlTo
namespace Go.Proofs.Ytfikgiekigbaoaa
open Go Go.RowKit

/-- A value's cells. -/
def flatV (x : ValF) : List Value := [.int .i64 x.kind, .int .i64 x.num, .string x.text]
/-- A row's cells. -/
def cellsOf (xs : List ValF) : List Value := xs.flatMap flatV
theorem cellsOf_len (xs : List ValF) : (cellsOf xs).length = xs.length * 3 := by
  induction xs with
  | nil => rfl
  | cons x xs ih => simp only [cellsOf, List.flatMap_cons, List.length_append, List.length_cons] at ih ⊢; rw [ih]; simp [flatV]; omega
theorem cellsOf_get (xs : List ValF) : ∀ i (h : i < xs.length) q, q < 3 → (cellsOf xs)[i * 3 + q]? = (flatV xs[i])[q]? := by
  induction xs with
  | nil => intro i h; exact absurd h (by simp)
  | cons x xs ih =>
    intro i h q hq
    have e : cellsOf (x :: xs) = flatV x ++ cellsOf xs := by simp [cellsOf]
    rw [e]
    cases i with
    | zero => rw [List.getElem?_append_left (by simp [flatV]; omega)]; simp
    | succ i =>
      rw [List.getElem?_append_right (by simp [flatV]; omega)]
      have := ih i (by simpa using h) q hq
      rw [show (i + 1) * 3 + q - (flatV x).length = i * 3 + q by simp [flatV]; omega, this]
      simp
theorem cellsOf_one (xs : List ValF) : ∀ u ∈ cellsOf xs, u.oneCell' = true := by
  intro u hu
  simp only [cellsOf, List.mem_flatMap] at hu
  obtain ⟨x, _, hx⟩ := hu
  simp [flatV] at hx
  rcases hx with rfl | rfl | rfl <;> rfl
theorem cellsOf_at {w : World} {b o : Nat} {xs : List ValF} {M : Nat} (h : ∀ i (h : i < xs.length), ∃ cs, vaC M xs[i] cs ∧ cellsAt w b (o + i * 3) cs) :
    ∀ j u, (cellsOf xs)[j]? = some u → w.cell? ⟨b, o + j, none⟩ = some u := by
  intro j u hu
  have hj : j < xs.length * 3 := by
    rw [← cellsOf_len]; exact (List.getElem?_eq_some_iff.1 hu).1
  obtain ⟨cs, ⟨rfl, _⟩, hat⟩ := h (j / 3) (by omega)
  have hg := cellsOf_get xs (j / 3) (by omega) (j % 3) (by omega)
  rw [show j / 3 * 3 + j % 3 = j by omega, hu] at hg
  obtain ⟨c0, c1, c2⟩ := va_at hat
  have h3 : j % 3 = 0 ∨ j % 3 = 1 ∨ j % 3 = 2 := by omega
  rcases h3 with e | e | e
  · rw [e] at hg; simp [flatV] at hg; subst hg; rw [show o + j = o + j / 3 * 3 by omega]; exact c0
  · rw [e] at hg; simp [flatV] at hg; subst hg; rw [show o + j = o + j / 3 * 3 + 1 by omega]; exact c1
  · rw [e] at hg; simp [flatV] at hg; subst hg; rw [show o + j = o + j / 3 * 3 + 2 by omega]; exact c2
theorem addr_at (g o j : Nat) : (⟨g, o, none⟩ : Addr).add j = ⟨g, o + j, none⟩ := by unfold Addr.add; split <;> simp_all
/-- A row that append made, as a row of values. -/
theorem row_of_owns {w : World} {base : Nat} {e : TypeId} {v : Value} {n : Nat} {xs : List ValF} (h : w.ownsRow base e 3 v n (cellsOf xs)) (hx : ∀ x ∈ xs, x.text.size ≤ 1048576) (hl : xs.length ≤ 1048576) :
    n = xs.length ∧ ∃ a c, v = .slice a xs.length c ∧ (∀ b o, a = some ⟨b, o, none⟩ → o = 0) ∧ RowP w base 1048576 3 (vaC 1048576) xs a := by
  have hn : n = xs.length := by have := h.1; rw [cellsOf_len] at this; omega
  subst hn
  refine ⟨rfl, ?_⟩
  rcases h.2 with ⟨rfl, h0⟩ | ⟨g, cap, cur, rfl, hb, hg, _⟩
  · exact ⟨none, 0, by rw [h0], (fun b o e => by cases e), hl, fun hp => by omega⟩
  · refine ⟨_, _, rfl, (fun b o e => by injection e with e; injection e with _ e _; exact e.symm), hl, fun hp => ⟨g, 0, rfl, hb, (Array.getElem?_eq_some_iff.1 hg).1, fun i hi => ⟨flatV xs[i], ⟨rfl, hx _ (List.getElem_mem hi)⟩, fun q hq => ?_⟩⟩⟩
    have hq3 : q < 3 := by simpa [flatV] using hq
    have h1 := h.cells rfl (i * 3 + q) ((flatV xs[i])[q]) (by rw [cellsOf_get xs i hi q hq3]; exact List.getElem?_eq_getElem hq)
    change w.cell? ((⟨g, 0, none⟩ : Addr).add (i * 3 + q)) = _ at h1
    rw [addr_at, ← Nat.add_assoc] at h1
    exact h1

set_option maxHeartbeats 4000000 in
set_option maxRecDepth 100000 in
theorem cloneC {w0 w : World} (h00 : Below w0.heap.size w0 w) {lo : Nat} {xs : List ValF} {a : Option Addr} (c : Nat) (h : RowP w0 lo 1048576 3 (vaC 1048576) xs a) :
    Calls Try.prog 48 #[.slice a xs.length c] w
      (fun e w' => ∃ a' c', e = .returned (.slice a' xs.length c') ∧ (∀ b o, a' = some ⟨b, o, none⟩ → o = 0) ∧ RowP w' w.heap.size 1048576 3 (vaC 1048576) xs a' ∧ Below w.heap.size w w') := by
  have hl := h.1
  have hx : ∀ x ∈ xs, x.text.size ≤ 1048576 := by
    intro x hx
    obtain ⟨i, hi, rfl⟩ := List.getElem_of_mem hx
    obtain ⟨b, o, _, _, _, he⟩ := h.2 (by omega)
    obtain ⟨cs, ⟨_, h2⟩, _⟩ := he i hi
    exact h2
  have hat : ∀ ad, a = some ad → ∀ j u, (cellsOf xs)[j]? = some u → (w.alloc (.cells #[] 57)).cell? (ad.add j) = some u := by
    intro ad had j u hu
    have hj : j < xs.length * 3 := by rw [← cellsOf_len]; exact (List.getElem?_eq_some_iff.1 hu).1
    obtain ⟨b, o, e, _, hb, he⟩ := h.2 (by omega)
    rw [had] at e
    injection e with e
    subst e
    have h1 := cellsOf_at he j u hu
    have h2 : (⟨b, o, none⟩ : Addr).add j = ⟨b, o + j, none⟩ := addr_at _ _ _
    have hB := below_via h00 ((Below.refl w.heap.size w).alloc (Nat.le_refl _) (.cells #[] 57))
    rw [h2]
    exact (hB.cell (p := ⟨b, o + j, none⟩) hb).trans h1
  have hz : a = none → xs = [] := by
    intro e
    apply Classical.byContradiction
    intro hne
    obtain ⟨b, o, e2, _⟩ := h.2 (List.length_pos_iff.2 hne)
    rw [e] at e2
    cases e2
  clear h h00
  have HX := hide hx
  clear hx
  obtain ⟨i0, hi, hz0, hz1, hz2⟩ := info_parts Try.infoVa
  obtain ⟨m, hm⟩ : ∃ m, Hid (xs.length = m) := ⟨_, rfl⟩
  cases a with
  | none =>
    have := hz rfl
    subst this
    clear hat hi hz0 hz1 hz2 hz
    simp only [List.length_nil]
    have heq : ∀ (W : World) (n c : Nat), (binOp .eql 31 (.slice none n c) (.slice none 0 0)).run Try.prog W = .ok (.bool true) W := fun W n c => Lib.run_eql_slice_nil W _ _ _ n c 0 0 Try.underlying31
    go_enter Try.func48, Try.ntmps48
    go_wp2_with fail
    go_ret
    exact ⟨none, 0, rfl, (fun b o e => by cases e), ⟨by simp, fun hp => absurd hp (by simp)⟩, by go_grown⟩
  | some ad =>
    have HAT := hide (hat ad rfl)
    clear hat hz
    rw [hm.out] at hl ⊢
    have hown := World.ownsRow_made (base := w.heap.size) (size := 3) (e := 57) w #[] 0 (Nat.le_refl _) (by decide) rfl
    have heq : ∀ (W : World) (n c : Nat), (binOp .eql 31 (.slice (some ad) n c) (.slice none 0 0)).run Try.prog W = .ok (.bool false) W := fun W n c => Lib.run_eql_slice_nil W _ _ _ n c 0 0 Try.underlying31
    go_enter Try.func48, Try.ntmps48
    go_wp2_with (first | (at_builtin; refine wpList_append_own _ rfl _ _ 31 rfl w.heap.size 57 i0 (.agg #[.int .i64 0, .int .i64 0, .string ⟨#[]⟩]) 3 32 Try.underlying31 hi hz0 hz1 hz2 rfl (by decide) _ _ _ rfl hown ad m c (cellsOf xs) rfl ?c0 HAT.out (cellsOf_one xs) ?c3 ?c4 ?c5 ?_))
    case c0 => rw [cellsOf_len, hm.out]
    case c3 => unfold maxLen; omega
    case c4 => omega
    case c5 => simp
    · intro v3 w3 hown3 hgrow3 hnil3
      have hB := hide (Below.grown ((Below.refl w.heap.size w).alloc (Nat.le_refl _) _) hgrow3 (by simp) (fun k hk => (hown.lt k hk).1))
      obtain ⟨hn, a', c', rfl, ho, hr⟩ := row_of_owns hown3 HX.out (by have := hm.out; omega)
      have HR := hide (And.intro ho hr)
      rw [hm.out]
      clear hown hown3 hgrow3 hnil3 hr ho hi hz0 hz1 hz2 hn HX HAT
      go_wp2_with fail
      go_ret
      exact ⟨a', c', rfl, HR.out.1, HR.out.2, hB.out⟩
end Go.Proofs.Ytfikgiekigbaoaa
