/-
  copyRows: every row is cloned.
-/
import Derived.Test.YtfikgiekigbaoaaCln
import Derived.Test.YtfikgiekigbaoaaFlOpn
namespace Go.Proofs.Ytfikgiekigbaoaa
open Go Go.RowKit

/-- What copyRows has laid so far. -/
structure Cp (W0 w : World) (v : Value) (ps : Array Rw) (xss : List (List ValF)) : Prop where
  same : ps.toList.map Prod.snd = xss
  own : w.ownsRow W0.heap.size 31 1 v ps.size (ps.toList.map Prod.fst)
  addr : ∃ g c, v = .slice (some ⟨g, 0, none⟩) ps.size c ∧ ∀ i, i < ps.size → RvN w g (atR ps i)
  zero : ∀ i, i < ps.size → ∀ b o c n, (atR ps i).1 = .slice (some ⟨b, o, none⟩) n c → o = 0
  below : Below W0.heap.size W0 w
/-- A row of values lies in no row of slices. -/
theorem apart {w : World} {base g n c b : Nat} {e : TypeId} {vs : List Value} {ys : List ValF} (hown : w.ownsRow base e 1 (.slice (some ⟨g, 0, none⟩) n c) n vs) {a0 : Option Addr} {n0 c0 : Nat} (h0 : vs[0]? = some (.slice a0 n0 c0))
    (hr : RowP w 0 1048576 3 (vaC 1048576) ys (some ⟨b, 0, none⟩)) (hp : 0 < ys.length) : b ≠ g := by
  rintro rfl
  obtain ⟨b', o', he, _, _, hel⟩ := hr.2 hp
  injection he with he
  injection he with e1 e2 _
  subst e1
  subst e2
  obtain ⟨cs, ⟨rfl, _⟩, hat⟩ := hel 0 hp
  have h1 := (va_at hat).1
  have h2 := hown.cells rfl 0 _ h0
  change w.cell? ((⟨b, 0, none⟩ : Addr).add 0) = _ at h2
  rw [addr_at] at h2
  simp only [Nat.zero_mul, Nat.add_zero] at h1 h2
  rw [h1] at h2
  cases h2

theorem RvN.slice {w : World} {g : Nat} {p : Rw} (h : RvN w g p) : ∃ a c, p.1 = .slice a p.2.length c := let ⟨a, c, h, _⟩ := h; ⟨a, c, h⟩

theorem Cp.step {W0 wr w2 w3 : World} {v v3 : Value} {ps : Array Rw} {xss : List (List ValF)} {xs : List ValF} {a : Option Addr} {c : Nat} {o : Obj} (h : Cp W0 wr v ps xss) (h2 : Below wr.heap.size wr w2)
    (hr : RowP w2 wr.heap.size 1048576 3 (vaC 1048576) xs a) (hz : ∀ b o, a = some ⟨b, o, none⟩ → o = 0)
    (hown : w3.ownsRow W0.heap.size 31 1 v3 (ps.size + 1) (ps.toList.map Prod.fst ++ [.slice a xs.length c])) (hg : (w2.alloc o).grownBy w3 v.ownBlock) :
    Cp W0 w3 v3 (ps.push (.slice a xs.length c, xs)) (xss ++ [xs]) := by
  obtain ⟨g, c1, rfl, hrows⟩ := h.addr
  have hgl := h.own.lt g rfl
  have hg' : (w2.alloc o).grownBy w3 (some g) := hg
  have hB1 : Below W0.heap.size W0 (w2.alloc o) := (below_via h.below (h2.alloc h2.size o))
  have hB3 : Below W0.heap.size W0 w3 := Below.grown hB1 hg' hB1.size (fun k hk => by injection hk with hk; subst hk; exact hgl.1)
  have hsz : wr.heap.size ≤ (w2.alloc o).heap.size := (h2.alloc h2.size o).size
  rcases hown.2 with ⟨_, h0⟩ | ⟨g3, cap3, cur3, rfl, hb3, _⟩
  · omega
  have hfirst : ∃ a0 n0 c0, (ps.toList.map Prod.fst ++ [Value.slice a xs.length c])[0]? = some (.slice a0 n0 c0) := by
    by_cases hp : 0 < ps.size
    · obtain ⟨a0, c0, e⟩ := (hrows 0 hp).slice
      refine ⟨a0, (atR ps 0).2.length, c0, ?_⟩
      rw [List.getElem?_append_left (by simpa using hp), List.getElem?_map, List.getElem?_eq_getElem (by simpa using hp)]
      rw [← e, atR_get _ _ hp]
      simp
    · have : ps = #[] := by simpa using hp
      subst this
      exact ⟨a, _, c, rfl⟩
  obtain ⟨a0, n0, c0, hf⟩ := hfirst
  have key : ∀ p : Rw, (∃ a c, p.1 = .slice a p.2.length c ∧ (∀ b o, a = some ⟨b, o, none⟩ → o = 0) ∧ RowP w3 0 1048576 3 (vaC 1048576) p.2 a) → RvN w3 g3 p := by
    rintro p ⟨a, c, e1, e2, e3⟩
    refine ⟨a, c, e1, e3, fun b o e hp => ?_⟩
    subst e
    have := e2 b o rfl
    subst this
    exact apart hown hf e3 hp
  have hat : ∀ i, i < ps.size → atR (ps.push (.slice a xs.length c, xs)) i = atR ps i := fun i hi => by
    rw [atR_get _ _ (by simp; omega), atR_get _ _ hi, Array.getElem_push_lt]
  have hlast : atR (ps.push (.slice a xs.length c, xs)) ps.size = (.slice a xs.length c, xs) := by
    rw [atR_get _ _ (by simp), Array.getElem_push_eq]
  have hrow : ∀ {q : World} {lo : Nat} {ys : List ValF} {a : Option Addr}, RowP q lo 1048576 3 (vaC 1048576) ys a → q.heap.size ≤ w3.heap.size → (∀ b o, a = some ⟨b, o, none⟩ → 0 < ys.length → b < q.heap.size → lo ≤ b → w3.heap[b]? = q.heap[b]?) → RowP w3 0 1048576 3 (vaC 1048576) ys a := by
    intro q lo ys a hy hs hk
    refine ⟨hy.1, fun hp => ?_⟩
    obtain ⟨b, o, rfl, h1, h2, h3⟩ := hy.2 hp
    exact ⟨b, o, rfl, Nat.zero_le _, Nat.lt_of_lt_of_le h2 hs, fun i hi => let ⟨cs, hc, hat⟩ := h3 i hi; ⟨cs, hc, hat.same (hk b o rfl hp h2 h1)⟩⟩
  refine ⟨by simp [h.same], by simpa using hown, ⟨g3, cap3, by simp, fun i hi => ?_⟩, fun i hi b o c n e => ?_, hB3⟩
  · rw [Array.size_push] at hi
    by_cases hlt : i < ps.size
    · rw [hat i hlt]
      obtain ⟨ai, ci, e1, e2, e3⟩ := hrows i hlt
      refine key _ ⟨ai, ci, e1, fun b o e => h.zero i hlt b o _ _ (by rw [e1, e]), hrow e2 (Nat.le_trans hsz hg'.size) fun b o e hp hb _ => ?_⟩
      rw [hg'.block b (Nat.lt_of_lt_of_le hb hsz) (fun e4 => e3 b o e hp (by injection e4)), (h2.alloc h2.size _).block b hb]
    · have : i = ps.size := by omega
      subst this
      rw [hlast]
      refine key _ ⟨a, c, rfl, hz, hrow hr (Nat.le_trans (by simp) hg'.size) fun b o e hp hb hlo => ?_⟩
      rw [hg'.block b (by simp; omega) (fun e4 => by injection e4 with e4; omega)]
      exact heap_alloc_old w2 _ hb
  · rw [Array.size_push] at hi
    by_cases hlt : i < ps.size
    · rw [hat i hlt] at e
      exact h.zero i hlt b o c n e
    · have : i = ps.size := by omega
      subst this
      rw [hlast] at e
      injection e with e _ _
      exact hz b o e
end Go.Proofs.Ytfikgiekigbaoaa
