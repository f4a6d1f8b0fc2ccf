/-
  slices.Clone of a row of values: the copy may be written.
-/
import Derived.Lib.BufferOwn
import Derived.Lib.LazyBuf
import Derived.Test.YtfikgiekigbaoaaRowU
namespace Go.Proofs.Ytfikgiekigbaoaa
open Go Go.RowKit

set_option maxHeartbeats 4000000 in
set_option maxRecDepth 100000 in
theorem cloneUC {w0 w : World} (h00 : Below w0.heap.size w0 w) {lo : Nat} {xs : List ValF} {a : Option Addr} (c : Nat) (h : RowP w0 lo 1048576 3 (vaC 1048576) xs a) :
    Calls Try.prog 48 #[.slice a xs.length c] w
      (fun e w' => ∃ a' c', e = .returned (.slice a' xs.length c') ∧ RowU w' w.heap.size xs a' ∧ Below w.heap.size w w') := by
  have hl := h.1
  have hx : ∀ x ∈ xs, x.text.size ≤ 1048576 := by
    intro x hx
    obtain ⟨i, hi, rfl⟩ := List.getElem_of_mem hx
    obtain ⟨b, o, _, _, _, he⟩ := h.2 (by omega)
    obtain ⟨cs, ⟨_, h2⟩, _⟩ := he i hi
    exact h2
  have hat : ∀ ad, a = some ad → ∀ j u, (cellsOf xs)[j]? = some u → (w.alloc (.cells #[] 57)).cell? (ad.add j) = some u := by
    intro ad had j u hu
    have hj : j < xs.length * 3 := by rw [← cellsOf_len]; exact (List.getElem?_eq_some_iff.1 hu).1
    obtain ⟨b, o, e, _, hb, he⟩ := h.2 (by omega)
    rw [had] at e
    injection e with e
    subst e
    have h1 := cellsOf_at he j u hu
    have h2 : (⟨b, o, none⟩ : Addr).add j = ⟨b, o + j, none⟩ := addr_at _ _ _
    have hB := below_via h00 ((Below.refl w.heap.size w).alloc (Nat.le_refl _) (.cells #[] 57))
    rw [h2]
    exact (hB.cell (p := ⟨b, o + j, none⟩) hb).trans h1
  have hz : a = none → xs = [] := by
    intro e
    apply Classical.byContradiction
    intro hne
    obtain ⟨b, o, e2, _⟩ := h.2 (List.length_pos_iff.2 hne)
    rw [e] at e2
    cases e2
  clear h h00
  have HX := hide hx
  clear hx
  obtain ⟨i0, hi, hz0, hz1, hz2⟩ := info_parts Try.infoVa
  obtain ⟨m, hm⟩ : ∃ m, Hid (xs.length = m) := ⟨_, rfl⟩
  cases a with
  | none =>
    have := hz rfl
    subst this
    clear hat hi hz0 hz1 hz2 hz
    simp only [List.length_nil]
    have heq : ∀ (W : World) (n c : Nat), (binOp .eql 31 (.slice none n c) (.slice none 0 0)).run Try.prog W = .ok (.bool true) W := fun W n c => Lib.run_eql_slice_nil W _ _ _ n c 0 0 Try.underlying31
    go_enter Try.func48, Try.ntmps48
    go_wp2_with fail
    go_ret
    exact ⟨none, 0, rfl, RowU.nil _ _, by go_grown⟩
  | some ad =>
    have HAT := hide (hat ad rfl)
    clear hat hz
    rw [hm.out] at hl ⊢
    have hown := World.ownsRow_made (base := w.heap.size) (size := 3) (e := 57) w #[] 0 (Nat.le_refl _) (by decide) rfl
    have heq : ∀ (W : World) (n c : Nat), (binOp .eql 31 (.slice (some ad) n c) (.slice none 0 0)).run Try.prog W = .ok (.bool false) W := fun W n c => Lib.run_eql_slice_nil W _ _ _ n c 0 0 Try.underlying31
    go_enter Try.func48, Try.ntmps48
    go_wp2_with (first | (at_builtin; refine wpList_append_own _ rfl _ _ 31 rfl w.heap.size 57 i0 (.agg #[.int .i64 0, .int .i64 0, .string ⟨#[]⟩]) 3 32 Try.underlying31 hi hz0 hz1 hz2 rfl (by decide) _ _ _ rfl hown ad m c (cellsOf xs) rfl ?c0 HAT.out (cellsOf_one xs) ?c3 ?c4 ?c5 ?_))
    case c0 => rw [cellsOf_len, hm.out]
    case c3 => unfold maxLen; omega
    case c4 => omega
    case c5 => simp
    · intro v3 w3 hown3 hgrow3 hnil3
      have hB := hide (Below.grown ((Below.refl w.heap.size w).alloc (Nat.le_refl _) _) hgrow3 (by simp) (fun k hk => (hown.lt k hk).1))
      obtain ⟨hn, a', c', rfl, hr⟩ := RowU.of_owns hown3 HX.out (by have := hm.out; omega)
      have HR := hide hr
      rw [hm.out]
      clear hown hown3 hgrow3 hnil3 hr hi hz0 hz1 hz2 hn HX HAT
      go_wp2_with fail
      go_ret
      exact ⟨a', c', rfl, HR.out, hB.out⟩
end Go.Proofs.Ytfikgiekigbaoaa
