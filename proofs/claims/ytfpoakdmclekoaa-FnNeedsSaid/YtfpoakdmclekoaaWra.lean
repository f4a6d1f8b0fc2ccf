/-
  Wrapped, in the reference and in the program.
-/
import Derived.IntWalk
import Derived.Test.YtfpoakdmclekoaaNee
namespace Go.Proofs.Ytfpoakdmclekoaa
open Go.RowKit

/-- Is kid i wrapped? -/
def wraB (x : Ex) (i : Int) : Bool := if h : 0 ≤ i ∧ i.toNat < x.f.kids.length then decide (levL (x.f.kids[i.toNat]'h.2).f.kind (x.f.kids[i.toNat]'h.2).f.op < neeL x.f.kind (levL x.f.kind x.f.op) x.f.kids.length i) else false
theorem wraB_no {x : Ex} {i : Int} (h : i < 0 ∨ (x.f.kids.length : Int) ≤ i) : wraB x i = false := by unfold wraB; rw [dif_neg (by omega)]
theorem wraB_at {x : Ex} {j : Nat} (h : j < x.f.kids.length) : wraB x (j : Int) = decide (levL x.f.kids[j].f.kind x.f.kids[j].f.op < neeL x.f.kind (levL x.f.kind x.f.op) x.f.kids.length (j : Int)) := by
  unfold wraB; rw [dif_pos ⟨by omega, by simpa using h⟩]; simp

set_option maxRecDepth 100000 in
set_option maxHeartbeats 3200000 in
theorem specWrapped {w : World} {lo M n : Nat} {x : Ex} {ka sa : Option Addr} (kc sc : Nat) (i : Int) (hx : ExB w lo M n x ka sa) (hM : M ≤ 1048576) :
    Calls Try.prog 24 #[.agg #[.int .i64 x.f.kind, .int .i64 x.f.op, .bool x.f.neg, .int .i64 x.f.vk, .int .i64 x.f.vn, .string x.f.vt, .string x.f.qual, .string x.f.name, .slice ka x.f.kids.length kc, .slice sa x.f.sub.length sc], .int .i64 i] w fun e w' => e = .returned (.bool (wraB x i)) ∧ Below w.heap.size w w' := by
  obtain _ | n := n
  · exact hx.elim
  obtain ⟨_, ⟨hlen, hrow⟩, _⟩ := hx
  obtain ⟨m, hm⟩ : ∃ m, Hid (x.f.kids.length = m) := ⟨_, rfl⟩
  have hm2 : m ≤ 1048576 := by have := hm.out; omega
  have hwr : IntKind.i64.wrap ((m : Int) - 1) = (m : Int) - 1 := IntWalk.i64_in _ (by omega)
  obtain ⟨va, hva⟩ : ∃ va, Hid (va = w.heap.size) := ⟨_, rfl⟩
  have hv := boxAt w [.int .i64 x.f.kind, .int .i64 x.f.op, .bool x.f.neg, .int .i64 x.f.vk, .int .i64 x.f.vn, .string x.f.vt, .string x.f.qual, .string x.f.name, .slice ka x.f.kids.length kc, .slice sa x.f.sub.length sc] 34
  have hlt : w.heap.size < (w.alloc (.cells #[.int .i64 x.f.kind, .int .i64 x.f.op, .bool x.f.neg, .int .i64 x.f.vk, .int .i64 x.f.vn, .string x.f.vt, .string x.f.qual, .string x.f.name, .slice ka x.f.kids.length kc, .slice sa x.f.sub.length sc] 34)).heap.size := by simp
  rw [← hva.out] at hv hlt
  rw [hm.out] at hv hlt ⊢
  have hcs := hv
  clear hlen
  by_cases hin : i < 0 ∨ (m : Int) ≤ i
  · skip
    have HR := hide (wraB_no (x := x) (i := i) (by rw [hm.out]; first | exact hin | exact .inl h0 | exact .inr h1))
    rw [HR.out]
    have hI := fun w => specIn i 0 ((m : Int) - 1) w
    rw [decide_eq_false (show ¬ (0 ≤ i ∧ i ≤ (m : Int) - 1) by omega)] at hI
    have e0 := BelowOf.cell (hcs 0 (by simp)) hlt
    have e1 := BelowOf.cell (hcs 1 (by simp)) hlt
    have e2 := BelowOf.cell (hcs 2 (by simp)) hlt
    have e3 := BelowOf.cell (hcs 3 (by simp)) hlt
    have e4 := BelowOf.cell (hcs 4 (by simp)) hlt
    have e5 := BelowOf.cell (hcs 5 (by simp)) hlt
    have e6 := BelowOf.cell (hcs 6 (by simp)) hlt
    have e7 := BelowOf.cell (hcs 7 (by simp)) hlt
    have e8 := BelowOf.cell (hcs 8 (by simp)) hlt
    have e9 := BelowOf.cell (hcs 9 (by simp)) hlt
    simp only [Nat.zero_add, List.getElem_cons_zero, List.getElem_cons_succ] at e0 e1 e2 e3 e4 e5 e6 e7 e8 e9
    clear hrow hv hcs
    go_enter Try.func24, Try.ntmps24
    go_wp2_with fail
    (try rw [← hva.out])
    refine wp_region_wq (by kernel_rfl) (by kernel_rfl) ?_
    repeat (refine WQ.step (fun K hK => ?_); go_simp; first | (refine hK _ ?_; clear hK K) | (apply Exists.intro; refine ⟨fun _ => ?_, hK _ ?_⟩; (exact Calls.below_of_same (hI _)); clear hK K))
    refine WQ.nil ?_
    intro W2 hq2
    have HB2 := hide (below_via ((Below.refl _ _).alloc (Nat.le_refl _) _) (BelowOf.of hq2))
    clear hq2 e0 e1 e2 e3 e4 e5 e6 e7 e8 e9
    go_wp2_with fail
    all_goals go_ret
    all_goals exact ⟨by simp, HB2.out⟩
  · skip
    obtain ⟨j, rfl⟩ : ∃ j : Nat, i = (j : Int) := ⟨i.toNat, by omega⟩
    have hjx : j < x.f.kids.length := by have := hm.out; omega
    obtain ⟨b, o, rfl, hlo, hb, hel⟩ := hrow (by omega)
    obtain ⟨cs, ⟨ka', kc', sa', sc', rfl, hy⟩, hat⟩ := hel j hjx
    have HR := hide (wraB_at hjx)
    rw [HR.out]
    have hky : x.f.kids[j].f.kids.length ≤ 1048576 := by
      obtain _ | n := n
      · exact hy.elim
      · exact Nat.le_trans hy.2.1.1 hM
    rw [hm.out]
    generalize x.f.kids[j] = y at hat hky ⊢
    obtain ⟨c0, c1, c2, c3, c4, c5, c6, c7, c8, c9⟩ := ex_at (hat.same (Below.heap_alloc w (.cells #[.int .i64 x.f.kind, .int .i64 x.f.op, .bool x.f.neg, .int .i64 x.f.vk, .int .i64 x.f.vn, .string x.f.vt, .string x.f.qual, .string x.f.name, .slice (some ⟨b, o, none⟩) m kc, .slice sa x.f.sub.length sc] 34) b hb))
    have hlb : b < (w.alloc (.cells #[.int .i64 x.f.kind, .int .i64 x.f.op, .bool x.f.neg, .int .i64 x.f.vk, .int .i64 x.f.vn, .string x.f.vt, .string x.f.qual, .string x.f.name, .slice (some ⟨b, o, none⟩) m kc, .slice sa x.f.sub.length sc] 34)).heap.size := by simp; omega
    have hj2 : (j : Int) < m := by have := hm.out; omega
    have hI := fun w => specIn (j : Int) 0 ((m : Int) - 1) w
    rw [decide_eq_true (show 0 ≤ (j : Int) ∧ (j : Int) ≤ (m : Int) - 1 by omega)] at hI
    have hA := fun w => specLevel y.f.kind y.f.op (.bool y.f.neg) (.int .i64 y.f.vk) (.int .i64 y.f.vn) (.string y.f.vt) (.string y.f.qual) (.string y.f.name) (.slice ka' y.f.kids.length kc') (.slice sa' y.f.sub.length sc') w
    have hN := fun w => specNeeds x.f.kind x.f.op (.bool x.f.neg) (.int .i64 x.f.vk) (.int .i64 x.f.vn) (.string x.f.vt) (.string x.f.qual) (.string x.f.name) (some ⟨b, o, none⟩) sa m kc x.f.sub.length sc (j : Int) hm2 w
    generalize levL y.f.kind y.f.op = p at hA ⊢
    generalize neeL x.f.kind (levL x.f.kind x.f.op) m (j : Int) = r at hN ⊢
    have e0 := BelowOf.cell (hcs 0 (by simp)) hlt
    have e1 := BelowOf.cell (hcs 1 (by simp)) hlt
    have e2 := BelowOf.cell (hcs 2 (by simp)) hlt
    have e3 := BelowOf.cell (hcs 3 (by simp)) hlt
    have e4 := BelowOf.cell (hcs 4 (by simp)) hlt
    have e5 := BelowOf.cell (hcs 5 (by simp)) hlt
    have e6 := BelowOf.cell (hcs 6 (by simp)) hlt
    have e7 := BelowOf.cell (hcs 7 (by simp)) hlt
    have e8 := BelowOf.cell (hcs 8 (by simp)) hlt
    have e9 := BelowOf.cell (hcs 9 (by simp)) hlt
    simp only [Nat.zero_add, List.getElem_cons_zero, List.getElem_cons_succ] at e0 e1 e2 e3 e4 e5 e6 e7 e8 e9
    have f0 := BelowOf.cell c0 hlb
    have f1 := BelowOf.cell c1 hlb
    have f2 := BelowOf.cell c2 hlb
    have f3 := BelowOf.cell c3 hlb
    have f4 := BelowOf.cell c4 hlb
    have f5 := BelowOf.cell c5 hlb
    have f6 := BelowOf.cell c6 hlb
    have f7 := BelowOf.cell c7 hlb
    have f8 := BelowOf.cell c8 hlb
    have f9 := BelowOf.cell c9 hlb
    clear hrow hv hcs hel hat hy c0 c1 c2 c3 c4 c5 c6 c7 c8 c9
    go_enter Try.func24, Try.ntmps24
    go_wp2_with fail
    (try rw [← hva.out])
    refine wp_region_wq (by kernel_rfl) (by kernel_rfl) ?_
    repeat (refine WQ.step (fun K hK => ?_); go_simp; first | (refine hK _ ?_; clear hK K) | (apply Exists.intro; refine ⟨fun _ => ?_, hK _ ?_⟩; (first | (exact Calls.below_of_same (hI _)) | exact Calls.below_of (hA _) | exact Calls.below_of (hN _)); clear hK K))
    refine WQ.nil ?_
    intro W2 hq2
    have HB2 := hide (below_via ((Below.refl _ _).alloc (Nat.le_refl _) _) (BelowOf.of hq2))
    clear hq2 e0 e1 e2 e3 e4 e5 e6 e7 e8 e9 f0 f1 f2 f3 f4 f5 f6 f7 f8 f9
    go_wp2_with fail
    all_goals go_ret
    all_goals exact ⟨by simp, HB2.out⟩

set_option maxRecDepth 100000 in
set_option maxHeartbeats 3200000 in
theorem implWrapped {w : World} {lo M n : Nat} {x : Ex} {ka sa : Option Addr} (kc sc : Nat) (i : Int) (hx : ExB w lo M n x ka sa) (hM : M ≤ 1048576) :
    Calls Try.prog 25 #[.agg #[.int .i64 x.f.kind, .int .i64 x.f.op, .bool x.f.neg, .int .i64 x.f.vk, .int .i64 x.f.vn, .string x.f.vt, .string x.f.qual, .string x.f.name, .slice ka x.f.kids.length kc, .slice sa x.f.sub.length sc], .int .i64 i] w fun e w' => e = .returned (.bool (wraB x i)) ∧ Below w.heap.size w w' := by
  obtain _ | n := n
  · exact hx.elim
  obtain ⟨_, ⟨hlen, hrow⟩, _⟩ := hx
  obtain ⟨m, hm⟩ : ∃ m, Hid (x.f.kids.length = m) := ⟨_, rfl⟩
  have hm2 : m ≤ 1048576 := by have := hm.out; omega
  have hwr : IntKind.i64.wrap ((m : Int) - 1) = (m : Int) - 1 := IntWalk.i64_in _ (by omega)
  obtain ⟨va, hva⟩ : ∃ va, Hid (va = w.heap.size) := ⟨_, rfl⟩
  have hv := boxAt w [.int .i64 x.f.kind, .int .i64 x.f.op, .bool x.f.neg, .int .i64 x.f.vk, .int .i64 x.f.vn, .string x.f.vt, .string x.f.qual, .string x.f.name, .slice ka x.f.kids.length kc, .slice sa x.f.sub.length sc] 34
  have hlt : w.heap.size < (w.alloc (.cells #[.int .i64 x.f.kind, .int .i64 x.f.op, .bool x.f.neg, .int .i64 x.f.vk, .int .i64 x.f.vn, .string x.f.vt, .string x.f.qual, .string x.f.name, .slice ka x.f.kids.length kc, .slice sa x.f.sub.length sc] 34)).heap.size := by simp
  rw [← hva.out] at hv hlt
  rw [hm.out] at hv hlt ⊢
  have hcs := hv
  clear hlen
  by_cases h0 : i < 0
  · have h9 : ¬ 0 ≤ i := by omega
    have h8 : decide (0 ≤ i) = false := decide_eq_false h9
    have HR := hide (wraB_no (x := x) (i := i) (by rw [hm.out]; first | exact hin | exact .inl h0 | exact .inr h1))
    rw [HR.out]
    have e0 := BelowOf.cell (hcs 0 (by simp)) hlt
    have e1 := BelowOf.cell (hcs 1 (by simp)) hlt
    have e2 := BelowOf.cell (hcs 2 (by simp)) hlt
    have e3 := BelowOf.cell (hcs 3 (by simp)) hlt
    have e4 := BelowOf.cell (hcs 4 (by simp)) hlt
    have e5 := BelowOf.cell (hcs 5 (by simp)) hlt
    have e6 := BelowOf.cell (hcs 6 (by simp)) hlt
    have e7 := BelowOf.cell (hcs 7 (by simp)) hlt
    have e8 := BelowOf.cell (hcs 8 (by simp)) hlt
    have e9 := BelowOf.cell (hcs 9 (by simp)) hlt
    simp only [Nat.zero_add, List.getElem_cons_zero, List.getElem_cons_succ] at e0 e1 e2 e3 e4 e5 e6 e7 e8 e9
    clear hrow hv hcs
    go_enter Try.func25, Try.ntmps25
    go_wp2_with fail
    (try rw [← hva.out])
    refine wp_region_wq (by kernel_rfl) (by kernel_rfl) ?_
    repeat (refine WQ.step (fun K hK => ?_); go_simp; first | (refine hK _ ?_; clear hK K) | (apply Exists.intro; refine ⟨fun _ => ?_, hK _ ?_⟩; (fail); clear hK K))
    refine WQ.nil ?_
    intro W2 hq2
    have HB2 := hide (below_via ((Below.refl _ _).alloc (Nat.le_refl _) _) (BelowOf.of hq2))
    clear hq2 e0 e1 e2 e3 e4 e5 e6 e7 e8 e9
    go_wp2_with fail
    all_goals go_ret
    all_goals exact ⟨by simp, HB2.out⟩
  by_cases h1 : (m : Int) ≤ i
  · have h2 : ¬ i < (m : Int) := by omega
    have h3 : 0 ≤ i := by omega
    have h8 : decide (i < (m : Int)) = false := decide_eq_false h2
    have h7 : decide (0 ≤ i) = true := decide_eq_true h3
    have HR := hide (wraB_no (x := x) (i := i) (by rw [hm.out]; first | exact hin | exact .inl h0 | exact .inr h1))
    rw [HR.out]
    have e0 := BelowOf.cell (hcs 0 (by simp)) hlt
    have e1 := BelowOf.cell (hcs 1 (by simp)) hlt
    have e2 := BelowOf.cell (hcs 2 (by simp)) hlt
    have e3 := BelowOf.cell (hcs 3 (by simp)) hlt
    have e4 := BelowOf.cell (hcs 4 (by simp)) hlt
    have e5 := BelowOf.cell (hcs 5 (by simp)) hlt
    have e6 := BelowOf.cell (hcs 6 (by simp)) hlt
    have e7 := BelowOf.cell (hcs 7 (by simp)) hlt
    have e8 := BelowOf.cell (hcs 8 (by simp)) hlt
    have e9 := BelowOf.cell (hcs 9 (by simp)) hlt
    simp only [Nat.zero_add, List.getElem_cons_zero, List.getElem_cons_succ] at e0 e1 e2 e3 e4 e5 e6 e7 e8 e9
    clear hrow hv hcs
    go_enter Try.func25, Try.ntmps25
    go_wp2_with fail
    (try rw [← hva.out])
    refine wp_region_wq (by kernel_rfl) (by kernel_rfl) ?_
    repeat (refine WQ.step (fun K hK => ?_); go_simp; first | (refine hK _ ?_; clear hK K) | (apply Exists.intro; refine ⟨fun _ => ?_, hK _ ?_⟩; (fail); clear hK K))
    refine WQ.nil ?_
    intro W2 hq2
    have HB2 := hide (below_via ((Below.refl _ _).alloc (Nat.le_refl _) _) (BelowOf.of hq2))
    clear hq2 e0 e1 e2 e3 e4 e5 e6 e7 e8 e9
    go_wp2_with fail
    all_goals go_ret
    all_goals exact ⟨by simp, HB2.out⟩
  · skip
    obtain ⟨j, rfl⟩ : ∃ j : Nat, i = (j : Int) := ⟨i.toNat, by omega⟩
    have hjx : j < x.f.kids.length := by have := hm.out; omega
    obtain ⟨b, o, rfl, hlo, hb, hel⟩ := hrow (by omega)
    obtain ⟨cs, ⟨ka', kc', sa', sc', rfl, hy⟩, hat⟩ := hel j hjx
    have HR := hide (wraB_at hjx)
    rw [HR.out]
    have hky : x.f.kids[j].f.kids.length ≤ 1048576 := by
      obtain _ | n := n
      · exact hy.elim
      · exact Nat.le_trans hy.2.1.1 hM
    rw [hm.out]
    generalize x.f.kids[j] = y at hat hky ⊢
    obtain ⟨c0, c1, c2, c3, c4, c5, c6, c7, c8, c9⟩ := ex_at (hat.same (Below.heap_alloc w (.cells #[.int .i64 x.f.kind, .int .i64 x.f.op, .bool x.f.neg, .int .i64 x.f.vk, .int .i64 x.f.vn, .string x.f.vt, .string x.f.qual, .string x.f.name, .slice (some ⟨b, o, none⟩) m kc, .slice sa x.f.sub.length sc] 34) b hb))
    have hlb : b < (w.alloc (.cells #[.int .i64 x.f.kind, .int .i64 x.f.op, .bool x.f.neg, .int .i64 x.f.vk, .int .i64 x.f.vn, .string x.f.vt, .string x.f.qual, .string x.f.name, .slice (some ⟨b, o, none⟩) m kc, .slice sa x.f.sub.length sc] 34)).heap.size := by simp; omega
    have hj2 : (j : Int) < m := by have := hm.out; omega
    have hA := fun w => implLevel y.f.kind y.f.op (.bool y.f.neg) (.int .i64 y.f.vk) (.int .i64 y.f.vn) (.string y.f.vt) (.string y.f.qual) (.string y.f.name) (.slice ka' y.f.kids.length kc') (.slice sa' y.f.sub.length sc') w
    have hN := fun w => implNeeds x.f.kind x.f.op (.bool x.f.neg) (.int .i64 x.f.vk) (.int .i64 x.f.vn) (.string x.f.vt) (.string x.f.qual) (.string x.f.name) (some ⟨b, o, none⟩) sa m kc x.f.sub.length sc (j : Int) hm2 w
    generalize levL y.f.kind y.f.op = p at hA ⊢
    generalize neeL x.f.kind (levL x.f.kind x.f.op) m (j : Int) = r at hN ⊢
    have e0 := BelowOf.cell (hcs 0 (by simp)) hlt
    have e1 := BelowOf.cell (hcs 1 (by simp)) hlt
    have e2 := BelowOf.cell (hcs 2 (by simp)) hlt
    have e3 := BelowOf.cell (hcs 3 (by simp)) hlt
    have e4 := BelowOf.cell (hcs 4 (by simp)) hlt
    have e5 := BelowOf.cell (hcs 5 (by simp)) hlt
    have e6 := BelowOf.cell (hcs 6 (by simp)) hlt
    have e7 := BelowOf.cell (hcs 7 (by simp)) hlt
    have e8 := BelowOf.cell (hcs 8 (by simp)) hlt
    have e9 := BelowOf.cell (hcs 9 (by simp)) hlt
    simp only [Nat.zero_add, List.getElem_cons_zero, List.getElem_cons_succ] at e0 e1 e2 e3 e4 e5 e6 e7 e8 e9
    have f0 := BelowOf.cell c0 hlb
    have f1 := BelowOf.cell c1 hlb
    have f2 := BelowOf.cell c2 hlb
    have f3 := BelowOf.cell c3 hlb
    have f4 := BelowOf.cell c4 hlb
    have f5 := BelowOf.cell c5 hlb
    have f6 := BelowOf.cell c6 hlb
    have f7 := BelowOf.cell c7 hlb
    have f8 := BelowOf.cell c8 hlb
    have f9 := BelowOf.cell c9 hlb
    clear hrow hv hcs hel hat hy c0 c1 c2 c3 c4 c5 c6 c7 c8 c9
    go_enter Try.func25, Try.ntmps25
    go_wp2_with fail
    (try rw [← hva.out])
    refine wp_region_wq (by kernel_rfl) (by kernel_rfl) ?_
    repeat (refine WQ.step (fun K hK => ?_); go_simp; first | (refine hK _ ?_; clear hK K) | (apply Exists.intro; refine ⟨fun _ => ?_, hK _ ?_⟩; (first | (fail) | exact Calls.below_of (hA _) | exact Calls.below_of (hN _)); clear hK K))
    refine WQ.nil ?_
    intro W2 hq2
    have HB2 := hide (below_via ((Below.refl _ _).alloc (Nat.le_refl _) _) (BelowOf.of hq2))
    clear hq2 e0 e1 e2 e3 e4 e5 e6 e7 e8 e9 f0 f1 f2 f3 f4 f5 f6 f7 f8 f9
    go_wp2_with fail
    all_goals go_ret
    all_goals exact ⟨by simp, HB2.out⟩

end Go.Proofs.Ytfpoakdmclekoaa
