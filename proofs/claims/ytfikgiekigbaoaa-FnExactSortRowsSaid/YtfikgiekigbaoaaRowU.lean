/-
  Rows of values in blocks of their own, that may be written. No program text in sight.
-/
import Derived.Test.YtfikgiekigbaoaaCpy
import Derived.Test.YtfikgiekigbaoaaBlk
namespace Go.Proofs.Ytfikgiekigbaoaa
open Go Go.RowKit

/-- A row of values in a block of its own from lo on, all its cells there to be written. -/
structure RowU (w : World) (lo : Nat) (xs : List ValF) (a : Option Addr) : Prop where
  row : RowP w lo 1048576 3 (vaC 1048576) xs a
  zero : ∀ b o, a = some ⟨b, o, none⟩ → o = 0
  room : ∀ b, a = some ⟨b, 0, none⟩ → 0 < xs.length → lo ≤ b ∧ Room w b (xs.length * 3)
theorem RowU.nil (w : World) (lo : Nat) : RowU w lo [] none := ⟨⟨by simp, fun hp => absurd hp (by simp)⟩, (fun b o e => by cases e), fun b e => by cases e⟩
theorem RowU.of_owns {w : World} {base : Nat} {e : TypeId} {v : Value} {n : Nat} {xs : List ValF} (h : w.ownsRow base e 3 v n (cellsOf xs)) (hx : ∀ x ∈ xs, x.text.size ≤ 1048576) (hl : xs.length ≤ 1048576) :
    n = xs.length ∧ ∃ a c, v = .slice a xs.length c ∧ RowU w base xs a := by
  obtain ⟨hn, a, c, rfl, hz, hr⟩ := row_of_owns h hx hl
  refine ⟨hn, a, c, rfl, hr, hz, fun b e _ => ?_⟩
  subst e
  rw [hn] at h
  exact ⟨(h.lt b rfl).1, Room.of_owns h (by rw [cellsOf_len])⟩

/-- A row's cells may be written, in a block from lo on. -/
def RowM (w : World) (lo : Nat) (p : Rw) : Prop := ∀ b n c, p.1 = .slice (some ⟨b, 0, none⟩) n c → 0 < p.2.length → lo ≤ b ∧ Room w b (p.2.length * 3)
/-- Two rows do not lie in one block. -/
def Apt (p q : Rw) : Prop := ∀ b n c n' c', p.1 = .slice (some ⟨b, 0, none⟩) n c → q.1 = .slice (some ⟨b, 0, none⟩) n' c' → 0 < p.2.length → 0 < q.2.length → False
theorem Apt.symm {p q : Rw} (h : Apt p q) : Apt q p := fun b n c n' c' h1 h2 h3 h4 => h b n' c' n c h2 h1 h4 h3
theorem RowM.stays {w w' : World} {lo g : Nat} {p : Rw} (h : RowM w lo p) (hr : RvN w g p) (hs : w.heap.size ≤ w'.heap.size) (hb : ∀ b, b ≠ g → b < w.heap.size → w'.heap[b]? = w.heap[b]?) : RowM w' lo p := fun b n c e hp => by
  obtain ⟨h1, h2⟩ := h b n c e hp
  obtain ⟨a, c', e1, _, h3⟩ := hr
  rw [e1] at e
  injection e with e _ _
  exact ⟨h1, h2.stays hs (hb b (h3 b 0 e hp) h2.lt)⟩

/-- What copyRows has laid so far: rows apart from each other, that may be written. -/
structure CpU (W0 w : World) (v : Value) (ps : Array Rw) (xss : List (List ValF)) : Prop where
  cp : Cp W0 w v ps xss
  rows : ∀ p ∈ ps.toList, RowM w W0.heap.size p
  apart : ps.toList.Pairwise Apt
theorem CpU.step {W0 wr w2 w3 : World} {v v3 : Value} {ps : Array Rw} {xss : List (List ValF)} {xs : List ValF} {a : Option Addr} {c : Nat} {o : Obj} (h : CpU W0 wr v ps xss) (h2 : Below wr.heap.size wr w2)
    (hr : RowU w2 wr.heap.size xs a)
    (hown : w3.ownsRow W0.heap.size 31 1 v3 (ps.size + 1) (ps.toList.map Prod.fst ++ [.slice a xs.length c])) (hg : (w2.alloc o).grownBy w3 v.ownBlock) :
    CpU W0 w3 v3 (ps.push (.slice a xs.length c, xs)) (xss ++ [xs]) := by
  have hcp := h.cp.step h2 hr.row hr.zero hown hg
  obtain ⟨g, c1, rfl, hrows⟩ := h.cp.addr
  have hgl := h.cp.own.lt g rfl
  have hg' : (w2.alloc o).grownBy w3 (some g) := hg
  have hs2 : wr.heap.size ≤ w2.heap.size := h2.size
  have hW : W0.heap.size ≤ wr.heap.size := h.cp.below.size
  have hold : ∀ p ∈ ps.toList, RowM w3 W0.heap.size p := fun p hp => by
    obtain ⟨i, hi, rfl⟩ := List.getElem_of_mem hp
    have hi' : i < ps.size := by simpa using hi
    have e : ps.toList[i] = atR ps i := by rw [atR_get _ _ hi']; simp
    have h1 := h.rows _ hp
    rw [e] at h1 ⊢
    refine h1.stays (hrows i hi') (Nat.le_trans hs2 (Nat.le_trans (by simp) hg'.size)) fun b hne hb => ?_
    rw [hg'.block b (by simp; omega) (fun e => hne (by injection e)), heap_alloc_old w2 _ (by omega), h2.block b hb]
  have hnew : RowM w3 W0.heap.size (.slice a xs.length c, xs) := fun b n c' e hp => by
    have e : Value.slice a xs.length c = .slice (some ⟨b, 0, none⟩) n c' := e
    injection e with e _ _
    obtain ⟨h3, h4⟩ := hr.room b e hp
    refine ⟨by omega, h4.stays (Nat.le_trans (by simp) hg'.size) ?_⟩
    rw [hg'.block b (by simp; have := h4.lt; omega) (fun e => by injection e with e; omega)]
    exact heap_alloc_old w2 _ h4.lt
  refine ⟨hcp, fun p hp => ?_, ?_⟩
  · rw [Array.toList_push] at hp
    rcases List.mem_append.1 hp with hp | hp
    · exact hold p hp
    · simp at hp; subst hp; exact hnew
  · rw [Array.toList_push, List.pairwise_append]
    refine ⟨h.apart, by simp, fun p hp q hq => ?_⟩
    simp at hq
    subst hq
    intro b n c' n' c2 e1 e2 k1 k2
    have e2 : Value.slice a xs.length c = .slice (some ⟨b, 0, none⟩) n' c2 := e2
    injection e2 with e2 _ _
    have h5 := (h.rows p hp b n c' e1 k1).2.lt
    have h6 := (hr.room b e2 k2).1
    omega
end Go.Proofs.Ytfikgiekigbaoaa
