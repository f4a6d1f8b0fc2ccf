/-
  impl.SortRows over fewer than twenty rows.
-/
import Derived.Test.YtfikgiekigbaoaaCpyW
import Derived.Test.YtfikgiekigbaoaaStbS
namespace Go.Proofs.Ytfikgiekigbaoaa
open Go Go.RowKit

theorem Cp.seg {W0 w : World} {g c : Nat} {ps : Array Rw} {xss : List (List ValF)} (h : Cp W0 w (.slice (some ⟨g, 0, none⟩) ps.size c) ps xss) : SegA w g ps := by
  obtain ⟨g', c', e, hr⟩ := h.addr
  injection e with e _ _
  injection e with e
  injection e with e _ _
  subst e
  refine ⟨(h.own.lt g rfl).2, fun i hi => ?_, fun i => ?_, hr⟩
  · have h1 := h.own.cells rfl i (atR ps i).1 (by rw [List.getElem?_map, List.getElem?_eq_getElem (by simpa using hi), atR_get _ _ hi]; simp)
    rw [addr_at, Nat.zero_add] at h1
    exact h1
  · rcases h.own.2 with ⟨e, _⟩ | ⟨g2, _, cur, e, _, hg, _⟩
    · cases e
    · injection e with e _ _
      injection e with e
      injection e with e _ _
      subst e
      simp [World.frozen?, hg]

set_option maxHeartbeats 4000000 in
set_option maxRecDepth 100000 in
theorem implSortRowsSmall {w0 w : World} (h00 : Below w0.heap.size w0 w) {xss : List (List ValF)} {a : Option Addr} (c : Nat) (h : RowP w0 0 1048576 1 (rvC w0 1048576) xss a) (hs : xss.length < 20) :
    Calls Try.prog 20 #[.slice a xss.length c] w (fun e w' => ∃ g c' ps, e = .returned (.slice (some ⟨g, 0, none⟩) ps.size c') ∧ (ps.toList.map Prod.snd).Perm xss ∧ Asc 0 ps.size ps ∧ SegA w' g ps ∧ w.heap.size ≤ g ∧ Below w.heap.size w w') := by
  have hC := hide (copyRowsC h00 c h)
  clear h h00
  obtain ⟨m, hm⟩ : ∃ m, Hid (xss.length = m) := ⟨_, rfl⟩
  rw [hm.out] at hC ⊢
  go_enter Try.func20, Try.ntmps20
  go_wp2_with fail
  refine hC.out.mono ?_
  rintro e w1 ⟨g, c', ps, rfl, hcp⟩
  have hsz : ps.size < 20 := by have := congrArg List.length hcp.same; simp at this; omega
  have hS := hide (sortStableSmallC w1 g c' ps hcp.seg hsz)
  have HCP := hide hcp
  clear hcp hC
  obtain ⟨k, hk⟩ : ∃ k, Hid (ps.size = k) := ⟨_, rfl⟩
  rw [hk.out] at hS
  rw [hk.out]
  go_wp2_with fail
  refine hS.out.mono ?_
  rintro e w2 ⟨rfl, qs, h1, h2, h3, h4⟩
  have HQ := hide (And.intro h1 (And.intro h2 (And.intro h3 h4)))
  clear h1 h2 h3 h4 hS
  go_wp2_with fail
  go_ret
  obtain ⟨h1, h2, h3, h4⟩ := HQ.out
  have hq : qs.size = k := h1.size.trans hk.out
  have hgl := HCP.out.own.lt g rfl
  refine ⟨g, c', qs, by rw [hq]; rfl, ?_, by rw [hq]; exact h2, h3, hgl.1, Below.grown HCP.out.below h4 HCP.out.below.size (fun k hk => by injection hk with hk; subst hk; exact hgl.1)⟩
  rw [← HCP.out.same]
  exact (Array.perm_iff_toList_perm.1 h1.perm).map _
end Go.Proofs.Ytfikgiekigbaoaa
