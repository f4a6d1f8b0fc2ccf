/-
  impl.Wrapped, of an expression of which the kids' cells are known.
-/
import Derived.Test.YtfpoakdmclekoaaDrM
import Derived.Test.YtfpoakdmclekoaaWra
namespace Go.Proofs.Ytfpoakdmclekoaa
open Go Go.RowKit

set_option maxRecDepth 100000 in
set_option maxHeartbeats 3200000 in
theorem wrapNeg {w : World} (x : EK) (i : Int) (hi : i < 0) :
    Calls Try.prog 25 #[.agg #[.int .i64 x.k, .int .i64 x.op, .bool x.ng, .int .i64 x.vk, .int .i64 x.vn, .string x.vt, .string x.qu, .string x.nm, .slice x.ka x.m x.kc, .slice x.sa x.ms x.sc], .int .i64 i] w fun e w' => e = .returned (.bool (false)) ∧ Below w.heap.size w w' := by
  have h9 : ¬ 0 ≤ i := by omega
  have h8 : decide (0 ≤ i) = false := decide_eq_false h9
  obtain ⟨va, hva⟩ : ∃ va, Hid (va = w.heap.size) := ⟨_, hide rfl⟩
  have hcs := boxAt w [.int .i64 x.k, .int .i64 x.op, .bool x.ng, .int .i64 x.vk, .int .i64 x.vn, .string x.vt, .string x.qu, .string x.nm, .slice x.ka x.m x.kc, .slice x.sa x.ms x.sc] 34
  have hlt : w.heap.size < (w.alloc (.cells #[.int .i64 x.k, .int .i64 x.op, .bool x.ng, .int .i64 x.vk, .int .i64 x.vn, .string x.vt, .string x.qu, .string x.nm, .slice x.ka x.m x.kc, .slice x.sa x.ms x.sc] 34)).heap.size := by simp
  rw [← hva.out] at hcs hlt
  have e0 := BelowOf.cell (hcs 0 (by simp)) hlt
  have e1 := BelowOf.cell (hcs 1 (by simp)) hlt
  have e2 := BelowOf.cell (hcs 2 (by simp)) hlt
  have e3 := BelowOf.cell (hcs 3 (by simp)) hlt
  have e4 := BelowOf.cell (hcs 4 (by simp)) hlt
  have e5 := BelowOf.cell (hcs 5 (by simp)) hlt
  have e6 := BelowOf.cell (hcs 6 (by simp)) hlt
  have e7 := BelowOf.cell (hcs 7 (by simp)) hlt
  have e8 := BelowOf.cell (hcs 8 (by simp)) hlt
  have e9 := BelowOf.cell (hcs 9 (by simp)) hlt
  simp only [Nat.zero_add, Nat.add_zero, List.getElem_cons_zero, List.getElem_cons_succ] at e0 e1 e2 e3 e4 e5 e6 e7 e8 e9
  clear hcs
  go_enter Try.func25, Try.ntmps25
  go_wp2_with fail
  (try rw [← hva.out])
  refine wp_region_wq (by kernel_rfl) (by kernel_rfl) ?_
  repeat (refine WQ.step (fun K hK => ?_); go_simp; first | (refine hK _ ?_; clear hK K) | (apply Exists.intro; refine ⟨fun _ => ?_, hK _ ?_⟩; (fail); clear hK K))
  refine WQ.nil ?_
  intro W2 hq2
  have HB2 := hide (below_via ((Below.refl _ _).alloc (Nat.le_refl _) _) (BelowOf.of hq2))
  clear hq2 e0 e1 e2 e3 e4 e5 e6 e7 e8 e9
  go_wp2_with fail
  all_goals go_ret
  all_goals exact ⟨by simp, HB2.out⟩

set_option maxRecDepth 100000 in
set_option maxHeartbeats 3200000 in
theorem wrapBig {w : World} (x : EK) (i : Int) (hm : x.m ≤ 1048576) (hi : (x.m : Int) ≤ i) :
    Calls Try.prog 25 #[.agg #[.int .i64 x.k, .int .i64 x.op, .bool x.ng, .int .i64 x.vk, .int .i64 x.vn, .string x.vt, .string x.qu, .string x.nm, .slice x.ka x.m x.kc, .slice x.sa x.ms x.sc], .int .i64 i] w fun e w' => e = .returned (.bool (false)) ∧ Below w.heap.size w w' := by
  have h2 : ¬ i < (x.m : Int) := by omega
  have h3 : 0 ≤ i := by omega
  have h8 : decide (i < (x.m : Int)) = false := decide_eq_false h2
  have h7 : decide (0 ≤ i) = true := decide_eq_true h3
  obtain ⟨va, hva⟩ : ∃ va, Hid (va = w.heap.size) := ⟨_, hide rfl⟩
  have hcs := boxAt w [.int .i64 x.k, .int .i64 x.op, .bool x.ng, .int .i64 x.vk, .int .i64 x.vn, .string x.vt, .string x.qu, .string x.nm, .slice x.ka x.m x.kc, .slice x.sa x.ms x.sc] 34
  have hlt : w.heap.size < (w.alloc (.cells #[.int .i64 x.k, .int .i64 x.op, .bool x.ng, .int .i64 x.vk, .int .i64 x.vn, .string x.vt, .string x.qu, .string x.nm, .slice x.ka x.m x.kc, .slice x.sa x.ms x.sc] 34)).heap.size := by simp
  rw [← hva.out] at hcs hlt
  have e0 := BelowOf.cell (hcs 0 (by simp)) hlt
  have e1 := BelowOf.cell (hcs 1 (by simp)) hlt
  have e2 := BelowOf.cell (hcs 2 (by simp)) hlt
  have e3 := BelowOf.cell (hcs 3 (by simp)) hlt
  have e4 := BelowOf.cell (hcs 4 (by simp)) hlt
  have e5 := BelowOf.cell (hcs 5 (by simp)) hlt
  have e6 := BelowOf.cell (hcs 6 (by simp)) hlt
  have e7 := BelowOf.cell (hcs 7 (by simp)) hlt
  have e8 := BelowOf.cell (hcs 8 (by simp)) hlt
  have e9 := BelowOf.cell (hcs 9 (by simp)) hlt
  simp only [Nat.zero_add, Nat.add_zero, List.getElem_cons_zero, List.getElem_cons_succ] at e0 e1 e2 e3 e4 e5 e6 e7 e8 e9
  clear hcs
  go_enter Try.func25, Try.ntmps25
  go_wp2_with fail
  (try rw [← hva.out])
  refine wp_region_wq (by kernel_rfl) (by kernel_rfl) ?_
  repeat (refine WQ.step (fun K hK => ?_); go_simp; first | (refine hK _ ?_; clear hK K) | (apply Exists.intro; refine ⟨fun _ => ?_, hK _ ?_⟩; (fail); clear hK K))
  refine WQ.nil ?_
  intro W2 hq2
  have HB2 := hide (below_via ((Below.refl _ _).alloc (Nat.le_refl _) _) (BelowOf.of hq2))
  clear hq2 e0 e1 e2 e3 e4 e5 e6 e7 e8 e9
  go_wp2_with fail
  all_goals go_ret
  all_goals exact ⟨by simp, HB2.out⟩

set_option maxRecDepth 100000 in
set_option maxHeartbeats 3200000 in
theorem wrapAt {w : World} (x z : EK) (j g : Nat) (hm : x.m ≤ 1048576) (hj : j < x.m) (hka : x.ka = some ⟨g, 0, none⟩) (hz : cellsAt w g (j * 10) z.L) (hg : g < w.heap.size) :
    Calls Try.prog 25 #[.agg #[.int .i64 x.k, .int .i64 x.op, .bool x.ng, .int .i64 x.vk, .int .i64 x.vn, .string x.vt, .string x.qu, .string x.nm, .slice x.ka x.m x.kc, .slice x.sa x.ms x.sc], .int .i64 (j : Int)] w fun e w' => e = .returned (.bool (decide (levL z.k z.op < neeL x.k (levL x.k x.op) x.m (j : Int)))) ∧ Below w.heap.size w w' := by
  have HK := hide hka
  rw [hka]
  clear hka
  obtain ⟨va, hva⟩ : ∃ va, Hid (va = w.heap.size) := ⟨_, hide rfl⟩
  have hcs := boxAt w [.int .i64 x.k, .int .i64 x.op, .bool x.ng, .int .i64 x.vk, .int .i64 x.vn, .string x.vt, .string x.qu, .string x.nm, .slice (some ⟨g, 0, none⟩) x.m x.kc, .slice x.sa x.ms x.sc] 34
  have hlt : w.heap.size < (w.alloc (.cells #[.int .i64 x.k, .int .i64 x.op, .bool x.ng, .int .i64 x.vk, .int .i64 x.vn, .string x.vt, .string x.qu, .string x.nm, .slice (some ⟨g, 0, none⟩) x.m x.kc, .slice x.sa x.ms x.sc] 34)).heap.size := by simp
  rw [← hva.out] at hcs hlt
  have hzc := hz.same (Below.heap_alloc w (.cells #[.int .i64 x.k, .int .i64 x.op, .bool x.ng, .int .i64 x.vk, .int .i64 x.vn, .string x.vt, .string x.qu, .string x.nm, .slice (some ⟨g, 0, none⟩) x.m x.kc, .slice x.sa x.ms x.sc] 34) g hg)
  have hlb : g < (w.alloc (.cells #[.int .i64 x.k, .int .i64 x.op, .bool x.ng, .int .i64 x.vk, .int .i64 x.vn, .string x.vt, .string x.qu, .string x.nm, .slice (some ⟨g, 0, none⟩) x.m x.kc, .slice x.sa x.ms x.sc] 34)).heap.size := by simp; omega
  have hj2 : (j : Int) < (x.m : Int) := by omega
  have hA := fun w => implLevel z.k z.op (.bool z.ng) (.int .i64 z.vk) (.int .i64 z.vn) (.string z.vt) (.string z.qu) (.string z.nm) (.slice z.ka z.m z.kc) (.slice z.sa z.ms z.sc) w
  have hN := fun w => implNeeds x.k x.op (.bool x.ng) (.int .i64 x.vk) (.int .i64 x.vn) (.string x.vt) (.string x.qu) (.string x.nm) (some ⟨g, 0, none⟩) x.sa x.m x.kc x.ms x.sc (j : Int) hm w
  generalize levL z.k z.op = p at hA ⊢
  generalize neeL x.k (levL x.k x.op) x.m (j : Int) = r at hN ⊢
  have e0 := BelowOf.cell (hcs 0 (by simp)) hlt
  have e1 := BelowOf.cell (hcs 1 (by simp)) hlt
  have e2 := BelowOf.cell (hcs 2 (by simp)) hlt
  have e3 := BelowOf.cell (hcs 3 (by simp)) hlt
  have e4 := BelowOf.cell (hcs 4 (by simp)) hlt
  have e5 := BelowOf.cell (hcs 5 (by simp)) hlt
  have e6 := BelowOf.cell (hcs 6 (by simp)) hlt
  have e7 := BelowOf.cell (hcs 7 (by simp)) hlt
  have e8 := BelowOf.cell (hcs 8 (by simp)) hlt
  have e9 := BelowOf.cell (hcs 9 (by simp)) hlt
  simp only [Nat.zero_add, Nat.add_zero, List.getElem_cons_zero, List.getElem_cons_succ] at e0 e1 e2 e3 e4 e5 e6 e7 e8 e9
  have f0 := BelowOf.cell (hzc 0 (by simp [EK.L])) hlb
  have f1 := BelowOf.cell (hzc 1 (by simp [EK.L])) hlb
  have f2 := BelowOf.cell (hzc 2 (by simp [EK.L])) hlb
  have f3 := BelowOf.cell (hzc 3 (by simp [EK.L])) hlb
  have f4 := BelowOf.cell (hzc 4 (by simp [EK.L])) hlb
  have f5 := BelowOf.cell (hzc 5 (by simp [EK.L])) hlb
  have f6 := BelowOf.cell (hzc 6 (by simp [EK.L])) hlb
  have f7 := BelowOf.cell (hzc 7 (by simp [EK.L])) hlb
  have f8 := BelowOf.cell (hzc 8 (by simp [EK.L])) hlb
  have f9 := BelowOf.cell (hzc 9 (by simp [EK.L])) hlb
  simp only [EK.L, Nat.add_zero, List.getElem_cons_zero, List.getElem_cons_succ] at f0 f1 f2 f3 f4 f5 f6 f7 f8 f9
  clear hcs hzc hz
  go_enter Try.func25, Try.ntmps25
  go_wp2_with fail
  (try rw [← hva.out])
  refine wp_region_wq (by kernel_rfl) (by kernel_rfl) ?_
  repeat (refine WQ.step (fun K hK => ?_); go_simp; first | (refine hK _ ?_; clear hK K) | (apply Exists.intro; refine ⟨fun _ => ?_, hK _ ?_⟩; (first | exact Calls.below_of (hA _) | exact Calls.below_of (hN _)); clear hK K))
  refine WQ.nil ?_
  intro W2 hq2
  have HB2 := hide (below_via ((Below.refl _ _).alloc (Nat.le_refl _) _) (BelowOf.of hq2))
  clear hq2 e0 e1 e2 e3 e4 e5 e6 e7 e8 e9 f0 f1 f2 f3 f4 f5 f6 f7 f8 f9
  go_wp2_with fail
  all_goals go_ret
  all_goals exact ⟨by simp, HB2.out⟩

end Go.Proofs.Ytfpoakdmclekoaa
