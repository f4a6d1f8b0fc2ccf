/-
  l5Row: the reference model's copy of a row of values.
-/
import Derived.Lib.BufferOwn
import Derived.Lib.LazyBuf
import Derived.Laws.OwnMore
import Derived.Test.YtfikgiekigbaoaaRowU
namespace Go.Proofs.Ytfikgiekigbaoaa
open Go Go.RowKit

theorem run_append_owned_nil {P : Program} {w : World} (base : Nat) (t ty e : TypeId) (i : TypeInfo) (size c : Nat) (ht : P.underlying t = some (.slice e)) (hi : P.info? e = some i)
    (v : Value) (n : Nat) (xs : List Value) (hown : w.ownsRow base e size v n xs) :
    (Builtin.append_ #[t, t] ty #[v, .slice none 0 c]).run P w = .ok v w := by
  rcases hown.2 with ⟨rfl, rfl⟩ | ⟨g, cap, cur, rfl, _, _, hnc, _⟩
  · simp [Builtin.append_, run_underlying ht, sizeOf, typeInfo, hi, Builtin.lenOf, Builtin.firstCells]
  · simp [Builtin.append_, run_underlying ht, sizeOf, typeInfo, hi, Builtin.lenOf, Builtin.firstCells, hnc, storeCells]
theorem wpList_append_own_nil {P : Program} {w : World} {ops : Array Oper} {rest : List Oper} {o : Oper} {a : Act} {Q : Exit → Act → World → Prop} (hgd : o.guard = none) (s x : Operand) (t : TypeId)
    (ho : o.op = .call { callee := .builtin .append, args := #[s, x], argTypes := #[t, t] })
    (base : Nat) (e : TypeId) (i : TypeInfo) (size c : Nat) (ht : P.underlying t = some (.slice e)) (hi : P.info? e = some i)
    (v : Value) (n : Nat) (xs : List Value) (hs : a.eval s = v) (hown : w.ownsRow base e size v n xs) (hx : a.eval x = .slice none 0 c)
    (h : wpList P ops Q rest (a.put o.dst v) w) : wpList P ops Q (o :: rest) a w := by
  refine wpList_plain hgd fun K hK => ?_
  have hrun := run_append_owned_nil (P := P) (w := w) base t o.type e i size c ht hi v n xs hown
  unfold Oper.wp
  simp [execOp, ho, resolve, invoke, builtin, hs, hx, hrun, Result.andThen]
  exact hK _ _ h

set_option maxHeartbeats 4000000 in
set_option maxRecDepth 100000 in
theorem rowFiveC {w0 w : World} (h00 : Below w0.heap.size w0 w) {lo : Nat} {xs : List ValF} {a : Option Addr} (c : Nat) (h : RowP w0 lo 1048576 3 (vaC 1048576) xs a) :
    Calls Try.prog 37 #[.slice a xs.length c] w
      (fun e w' => ∃ a' c', e = .returned (.slice a' xs.length c') ∧ RowU w' w.heap.size xs a' ∧ Below w.heap.size w w') := by
  have hl := h.1
  have hx : ∀ x ∈ xs, x.text.size ≤ 1048576 := by
    intro x hx
    obtain ⟨i, hi, rfl⟩ := List.getElem_of_mem hx
    obtain ⟨b, o, _, _, _, he⟩ := h.2 (by omega)
    obtain ⟨cs, ⟨_, h2⟩, _⟩ := he i hi
    exact h2
  have hat : ∀ ad, a = some ad → ∀ j u, (cellsOf xs)[j]? = some u → (w.alloc (.cells #[] 57)).cell? (ad.add j) = some u := by
    intro ad had j u hu
    have hj : j < xs.length * 3 := by rw [← cellsOf_len]; exact (List.getElem?_eq_some_iff.1 hu).1
    obtain ⟨b, o, e, _, hb, he⟩ := h.2 (by omega)
    rw [had] at e
    injection e with e
    subst e
    have h1 := cellsOf_at he j u hu
    have h2 : (⟨b, o, none⟩ : Addr).add j = ⟨b, o + j, none⟩ := addr_at _ _ _
    have hB := below_via h00 ((Below.refl w.heap.size w).alloc (Nat.le_refl _) (.cells #[] 57))
    rw [h2]
    exact (hB.cell (p := ⟨b, o + j, none⟩) hb).trans h1
  have hz : a = none → xs = [] := by
    intro e
    apply Classical.byContradiction
    intro hne
    obtain ⟨b, o, e2, _⟩ := h.2 (List.length_pos_iff.2 hne)
    rw [e] at e2
    cases e2
  clear h h00
  have HX := hide hx
  clear hx
  obtain ⟨i0, hi, hz0, hz1, hz2⟩ := info_parts Try.infoVa
  obtain ⟨m, hm⟩ : ∃ m, Hid (xs.length = m) := ⟨_, rfl⟩
  have hown := World.ownsRow_made (base := w.heap.size) (size := 3) (e := 57) w #[] 0 (Nat.le_refl _) (by decide) rfl
  cases a with
  | none =>
    have := hz rfl
    subst this
    clear hat hz
    simp only [List.length_nil]
    go_enter Try.func37, Try.ntmps37
    go_wp2_with (first | (at_builtin; refine wpList_append_own_nil rfl _ _ 31 rfl w.heap.size 57 i0 3 c Try.underlying31 hi _ _ _ rfl hown rfl ?_))
    go_ret
    obtain ⟨_, a', c', e, hr⟩ := RowU.of_owns (xs := []) hown (by simp) (by simp)
    exact ⟨a', c', by rw [e]; rfl, hr, by go_grown⟩
  | some ad =>
    have HAT := hide (hat ad rfl)
    clear hat hz
    rw [hm.out] at hl ⊢
    go_enter Try.func37, Try.ntmps37
    go_wp2_with (first | (at_builtin; refine wpList_append_own _ rfl _ _ 31 rfl w.heap.size 57 i0 (.agg #[.int .i64 0, .int .i64 0, .string ⟨#[]⟩]) 3 32 Try.underlying31 hi hz0 hz1 hz2 rfl (by decide) _ _ _ rfl hown ad m c (cellsOf xs) rfl ?c0 HAT.out (cellsOf_one xs) ?c3 ?c4 ?c5 ?_))
    case c0 => rw [cellsOf_len, hm.out]
    case c3 => unfold maxLen; omega
    case c4 => omega
    case c5 => simp
    · intro v3 w3 hown3 hgrow3 hnil3
      have hB := hide (Below.grown ((Below.refl w.heap.size w).alloc (Nat.le_refl _) _) hgrow3 (by simp) (fun k hk => (hown.lt k hk).1))
      obtain ⟨hn, a', c', rfl, hr⟩ := RowU.of_owns hown3 HX.out (by have := hm.out; omega)
      have HR := hide hr
      rw [hm.out]
      clear hown hown3 hgrow3 hnil3 hr hi hz0 hz1 hz2 hn HX HAT
      go_wp2_with fail
      go_ret
      exact ⟨a', c', rfl, HR.out, hB.out⟩
end Go.Proofs.Ytfikgiekigbaoaa
