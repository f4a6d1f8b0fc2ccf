/-
  impl.SortRows over rows of any number up to 2^20.
-/
import Derived.Test.YtfikgiekigbaoaaCpyU
import Derived.Test.YtfikgiekigbaoaaStb
namespace Go.Proofs.Ytfikgiekigbaoaa
open Go Go.RowKit

/-- Rows in blocks of their own from lo on, their slices in block g. -/
structure Own (w : World) (lo g : Nat) (ps : Array Rw) : Prop where
  seg : SegA w g ps
  zero : ∀ p ∈ ps.toList, ∀ b o c n, p.1 = .slice (some ⟨b, o, none⟩) n c → o = 0
  rows : ∀ p ∈ ps.toList, RowM w lo p
  apart : ps.toList.Pairwise Apt
  len : ps.size ≤ 1048576
  low : lo ≤ g

theorem mem_atR {ps : Array Rw} {p : Rw} (h : p ∈ ps.toList) : ∃ i, i < ps.size ∧ p = atR ps i := by
  obtain ⟨i, hi, rfl⟩ := List.getElem_of_mem h
  have hi' : i < ps.size := by simpa using hi
  exact ⟨i, hi', by rw [atR_get _ _ hi']; simp⟩
theorem atR_mem {ps : Array Rw} {i : Nat} (h : i < ps.size) : atR ps i ∈ ps.toList := by
  rw [atR_get _ _ h]; exact Array.getElem_mem_toList h

theorem Own.stays {w w' : World} {lo g : Nat} {ps : Array Rw} (h : Own w lo g ps) (hb : Below w.heap.size w w') : Own w' lo g ps :=
  ⟨h.seg.below hb, h.zero, fun p hp => by
    obtain ⟨i, hi, rfl⟩ := mem_atR hp
    exact (h.rows _ hp).stays (h.seg.row i hi) hb.size fun b _ hl => hb.block b hl, h.apart, h.len, h.low⟩

theorem Cp.segA {W0 w : World} {g c : Nat} {ps : Array Rw} {xss : List (List ValF)} (h : Cp W0 w (.slice (some ⟨g, 0, none⟩) ps.size c) ps xss) : SegA w g ps := by
  obtain ⟨g', c', e, hr⟩ := h.addr
  injection e with e _ _
  injection e with e
  injection e with e _ _
  subst e
  refine ⟨(h.own.lt g rfl).2, fun i hi => ?_, fun i => ?_, hr⟩
  · have h1 := h.own.cells rfl i (atR ps i).1 (by rw [List.getElem?_map, List.getElem?_eq_getElem (by simpa using hi), atR_get _ _ hi]; simp)
    rw [addr_at, Nat.zero_add] at h1
    exact h1
  · rcases h.own.2 with ⟨e, _⟩ | ⟨g2, _, cur, e, _, hg, _⟩
    · cases e
    · injection e with e _ _
      injection e with e
      injection e with e _ _
      subst e
      simp [World.frozen?, hg]

theorem CpU.seg {W0 w : World} {g c : Nat} {ps : Array Rw} {xss : List (List ValF)} (h : CpU W0 w (.slice (some ⟨g, 0, none⟩) ps.size c) ps xss) (hl : xss.length ≤ 1048576) : Own w W0.heap.size g ps :=
  ⟨h.cp.segA, fun p hp b o c n e => by
    obtain ⟨i, hi, rfl⟩ := mem_atR hp
    exact h.cp.zero i hi b o c n e, h.rows, h.apart, by have := congrArg List.length h.cp.same; simp at this; omega, (h.cp.own.lt g rfl).1⟩

theorem Own.sorted {w w' : World} {lo g : Nat} {ps qs : Array Rw} (h : Own w lo g ps) (hs : SwR 0 ps.size ps qs) (hq : SegA w' g qs) (hg : w.grownBy w' (some g)) : Own w' lo g qs := by
  have hp := Array.perm_iff_toList_perm.1 hs.perm
  refine ⟨hq, fun p hp' => h.zero p (hp.mem_iff.1 hp'), fun p hp' => ?_, (hp.pairwise_iff Apt.symm).2 h.apart, by rw [hs.size]; exact h.len, h.low⟩
  have hm := hp.mem_iff.1 hp'
  obtain ⟨i, hi, rfl⟩ := mem_atR hm
  exact (h.rows _ hm).stays (h.seg.row i hi) hg.size fun b hne hb => hg.block b hb (fun e => hne (by injection e))

set_option maxHeartbeats 4000000 in
set_option maxRecDepth 100000 in
theorem sortStableC (w : World) (g cap : Nat) (ps : Array Rw) (S : SegA w g ps) (hsz : ps.size ≤ 1048576) :
    Calls Try.prog 39 #[.slice (some ⟨g, 0, none⟩) ps.size cap, .func (.func 15) #[] #[]] w
      (fun e w' => e = .returned (.tuple #[]) ∧ ∃ qs, SwR 0 ps.size ps qs ∧ Asc 0 ps.size qs ∧ SegA w' g qs ∧ w.grownBy w' (some g)) := by
  have hC := hide (stableC w g cap ps S hsz)
  clear S
  obtain ⟨n, hn⟩ : ∃ n, ps.size = n := ⟨_, rfl⟩
  rw [hn] at hC hsz ⊢
  clear hn
  go_enter Try.func39, Try.ntmps39
  go_wp2_with fail
  refine hC.out.mono ?_
  rintro e w1 ⟨rfl, hq⟩
  have HQ := hide hq
  clear hq hC
  go_wp2_with fail
  go_end0
  exact ⟨rfl, HQ.out⟩

set_option maxHeartbeats 4000000 in
set_option maxRecDepth 100000 in
theorem implSortRows {w0 w : World} (h00 : Below w0.heap.size w0 w) {xss : List (List ValF)} {a : Option Addr} (c : Nat) (h : RowP w0 0 1048576 1 (rvC w0 1048576) xss a) :
    Calls Try.prog 20 #[.slice a xss.length c] w (fun e w' => ∃ g c' ps, e = .returned (.slice (some ⟨g, 0, none⟩) ps.size c') ∧ (ps.toList.map Prod.snd).Perm xss ∧ Asc 0 ps.size ps ∧ Own w' w.heap.size g ps ∧ Below w.heap.size w w') := by
  have hl := h.1
  have hC := hide (copyRowsUC h00 c h)
  clear h h00
  obtain ⟨m, hm⟩ : ∃ m, Hid (xss.length = m) := ⟨_, rfl⟩
  rw [hm.out] at hC ⊢
  have HL := hide hl
  clear hl
  go_enter Try.func20, Try.ntmps20
  go_wp2_with fail
  refine hC.out.mono ?_
  rintro e w1 ⟨g, c', ps, rfl, hcp⟩
  have HO := hide (hcp.seg HL.out)
  have hS := hide (sortStableC w1 g c' ps HO.out.seg HO.out.len)
  have HCP := hide hcp
  clear hcp hC
  obtain ⟨k, hk⟩ : ∃ k, Hid (ps.size = k) := ⟨_, rfl⟩
  rw [hk.out] at hS
  rw [hk.out]
  go_wp2_with fail
  refine hS.out.mono ?_
  rintro e w2 ⟨rfl, qs, h1, h2, h3, h4⟩
  have HQ := hide (And.intro h1 (And.intro h2 (And.intro h3 h4)))
  clear h1 h2 h3 h4 hS
  go_wp2_with fail
  go_ret
  obtain ⟨h1, h2, h3, h4⟩ := HQ.out
  rw [← hk.out] at h1
  have hq : qs.size = k := h1.size.trans hk.out
  have hgl := HCP.out.cp.own.lt g rfl
  refine ⟨g, c', qs, by rw [hq]; rfl, ?_, by rw [hq]; exact h2, HO.out.sorted h1 h3 h4, Below.grown HCP.out.cp.below h4 HCP.out.cp.below.size (fun k hk => by injection hk with hk; subst hk; exact hgl.1)⟩
  rw [← HCP.out.cp.same]
  exact (Array.perm_iff_toList_perm.1 h1.perm).map _
end Go.Proofs.Ytfikgiekigbaoaa
