/-
  What FnExactSortRows calls: each callee's contract over rows of rows, all at one length.
-/
import Derived.Test.YtfikgiekigbaoaaSrtP
import Derived.Test.YtfikgiekigbaoaaToR
import Derived.Test.YtfikgiekigbaoaaMkS
namespace Go.Proofs.Ytfikgiekigbaoaa
open Go Go.RowKit

/-- Rows of rows that can be read in w. -/
abbrev RR (w : World) (xss : List (List ValF)) (a : Option Addr) : Prop := RowP w 0 1048576 1 (rvC w 1048576) xss a
theorem RR.stays {w w' : World} {xss : List (List ValF)} {a : Option Addr} (h : RR w xss a) (hb : Below w.heap.size w w') : RR w' xss a :=
  h.imp (Nat.le_refl _) (Nat.le_refl _) hb.size (fun b _ hl => hb.block b hl) fun _ _ ⟨a, c, e, hr⟩ => ⟨a, c, e, rowVa_below hr hb⟩
theorem RR.of {w : World} {g : Nat} {ls : List Rw} (hl : ls.length ≤ 1048576) (hg : g < w.heap.size) (hc : ∀ i (h : i < ls.length), w.cell? ⟨g, i, none⟩ = some ls[i].1) (hr : ∀ p ∈ ls, RvP w p) : RR w (ls.map Prod.snd) (some ⟨g, 0, none⟩) := by
  refine ⟨by simpa using hl, fun _ => ⟨g, 0, rfl, Nat.zero_le _, hg, fun i hi => ?_⟩⟩
  have hi' : i < ls.length := by simpa using hi
  obtain ⟨a, c, e, h1⟩ := hr _ (List.getElem_mem hi')
  refine ⟨[.slice a ls[i].2.length c], ⟨a, c, by simp, by simpa using h1⟩, fun j hj => ?_⟩
  have : j = 0 := by simp at hj; omega
  subst this
  have h2 := hc i hi'
  simp only [Nat.zero_add, Nat.mul_one, Nat.add_zero, List.getElem_cons_zero]
  rw [h2, e]
theorem Sp.rr {W0 w : World} {g : Nat} {ls : List Rw} {xss : List (List ValF)} (h : Sp W0 w g ls xss) (hl : ls.length ≤ 1048576) : RR w (ls.map Prod.snd) (some ⟨g, 0, none⟩) := RR.of hl h.lt h.cell h.row
theorem Own.rr {w : World} {lo g : Nat} {ps : Array Rw} (h : Own w lo g ps) : RR w (ps.toList.map Prod.snd) (some ⟨g, 0, none⟩) :=
  RR.of (by simpa using h.len) h.seg.lt (fun i hi => by
    have hi' : i < ps.size := by simpa using hi
    rw [h.seg.cell i hi', atR_get _ _ hi']
    simp) fun p hp => by
    obtain ⟨i, hi, rfl⟩ := mem_atR hp
    obtain ⟨a, c, h1, h2, _⟩ := h.seg.row i hi
    exact ⟨a, c, h1, h2⟩
theorem Own.keeps {w w' : World} {lo g : Nat} {ps : Array Rw} (h : Own w lo g ps) (hs : w.heap.size ≤ w'.heap.size) (hb : ∀ b, lo ≤ b → b < w.heap.size → w'.heap[b]? = w.heap[b]?) : Own w' lo g ps := by
  have hg := hb g h.low h.seg.lt
  refine ⟨⟨Nat.lt_of_lt_of_le h.seg.lt hs, fun i hi => (World.cell?_of_block (a := ⟨g, i, none⟩) hg).trans (h.seg.cell i hi), fun i => (World.frozen?_of_block (a := ⟨g, i, none⟩) hg).trans (h.seg.free i), fun i hi => ?_⟩, h.zero, fun p hp b n c e hn => ?_, h.apart, h.len, h.low⟩
  · obtain ⟨a, c, h1, h2, h3⟩ := h.seg.row i hi
    refine ⟨a, c, h1, ⟨h2.1, fun hp => ?_⟩, h3⟩
    obtain ⟨b, o, rfl, _, h5, h6⟩ := h2.2 hp
    have ho := h.zero _ (atR_mem hi) b o c _ h1
    subst ho
    have hm := h.rows _ (atR_mem hi) b _ c h1 hp
    exact ⟨b, 0, rfl, Nat.zero_le _, Nat.lt_of_lt_of_le h5 hs, fun i hi => let ⟨cs, hc, hat⟩ := h6 i hi; ⟨cs, hc, hat.same (hb b hm.1 h5)⟩⟩
  · have hm := h.rows p hp b n c e hn
    exact ⟨hm.1, hm.2.stays hs (hb b hm.1 hm.2.lt)⟩
/-- A block that came after them holds none of them. -/
theorem Own.older {w : World} {lo g b i : Nat} {ps : Array Rw} (h : Own w lo g ps) (hi : i < ps.size) (hb : w.heap.size ≤ b) : ¬ InB (atR ps i) b := by
  rintro ⟨hp, n, c, e⟩
  have := (h.rows _ (atR_mem hi) b n c e hp).2.lt
  omega
theorem sorted_of {ps : Array Rw} (h : Asc 0 ps.size ps) : (ps.toList.map Prod.snd).Pairwise leR := by
  refine List.pairwise_iff_getElem.2 fun i j hi hj hij => ?_
  have hi' : i < ps.size := by simpa using hi
  have hj' : j < ps.size := by simpa using hj
  have h1 := h i j (Nat.zero_le _) hij hj' hj'
  rw [atR_get _ _ hi', atR_get _ _ hj'] at h1
  simpa using h1
theorem same_of {l l' xss : List (List ValF)} (h : l.Perm xss) (h' : l'.Perm xss) (s : l.Pairwise leR) (s' : l'.Pairwise leR) : l = l' :=
  List.Perm.eq_of_pairwise (fun _ _ _ _ h1 h2 => ordR_anti h1 h2) s s' (h.trans h'.symm)

theorem toSS {w W : World} (hB : Below w.heap.size w W) {xss : List (List ValF)} {a : Option Addr} {m : Nat} (hm : xss.length = m) (c : Nat) (h : RR w xss a) :
    Calls Try.prog 19 #[.slice a m c] W (fun e w' => ∃ g c' ps, e = .returned (.slice (some ⟨g, 0, none⟩) m c') ∧ Array.size ps = m ∧ ps.toList.map Prod.snd = xss ∧ Own w' W.heap.size g ps ∧ Below W.heap.size W w') := by
  subst hm
  refine (toValueSSC hB c h).mono ?_
  rintro e w' ⟨g, c', ps, rfl, h1, h2, h3⟩
  have hs : ps.size = xss.length := by have := congrArg List.length h1; simpa using this
  exact ⟨g, c', ps, by rw [hs], hs, h1, h2, h3⟩
theorem specSS {W : World} {lo g : Nat} {ps : Array Rw} {xss : List (List ValF)} {m : Nat} (hm : ps.size = m) (hx : ps.toList.map Prod.snd = xss) (c : Nat) (h : Own W lo g ps) :
    Calls Try.prog 18 #[.slice (some ⟨g, 0, none⟩) m c] W (fun e w' => ∃ g' c' wss, e = .returned (.slice (some ⟨g', 0, none⟩) m c') ∧ List.length wss = m ∧ wss.Perm xss ∧ wss.Pairwise leR ∧ RR w' wss (some ⟨g', 0, none⟩) ∧ Below W.heap.size W w') := by
  have hr := h.rr
  have hl := h.len
  rw [hx] at hr
  have hs : xss.length = m := by rw [← hx, ← hm]; simp
  subst hs
  refine (specSortRows (Below.refl _ _) c hr).mono ?_
  rintro e w' ⟨g', c', ls, rfl, hsp⟩
  have hs2 : ls.length = xss.length := by have := hsp.perm.length_eq; simpa using this
  exact ⟨g', c', ls.map Prod.snd, rfl, by simpa using hs2, hsp.perm, hsp.asc, hsp.rr (by omega), hsp.below⟩
theorem implSS {W : World} {lo g : Nat} {ps : Array Rw} {xss wss : List (List ValF)} {m : Nat} (hm : ps.size = m) (hx : ps.toList.map Prod.snd = xss) (hp : wss.Perm xss) (hs : wss.Pairwise leR) (c : Nat) (h : Own W lo g ps) :
    Calls Try.prog 20 #[.slice (some ⟨g, 0, none⟩) m c] W (fun e w' => ∃ g' c' qs, e = .returned (.slice (some ⟨g', 0, none⟩) m c') ∧ Array.size qs = m ∧ qs.toList.map Prod.snd = wss ∧ Own w' W.heap.size g' qs ∧ Below W.heap.size W w') := by
  have hr := h.rr
  rw [hx] at hr
  have hl : xss.length = m := by rw [← hx, ← hm]; simp
  subst hl
  refine (implSortRows (Below.refl _ _) c hr).mono ?_
  rintro e w' ⟨g', c', qs, rfl, h1, h2, h3, h4⟩
  have hs2 : qs.size = xss.length := by have := h1.length_eq; simpa using this
  exact ⟨g', c', qs, by rw [hs2], hs2, same_of h1 hp (sorted_of h2) hs, h3, h4⟩
theorem eqSS {W : World} {xss : List (List ValF)} {a a' : Option Addr} {m : Nat} (hm : xss.length = m) (c c' : Nat) (h : RR W xss a) (h' : RR W xss a') :
    Calls Try.prog 21 #[.slice a m c, .slice a' m c'] W (fun e w' => e = .returned (.bool true) ∧ Below W.heap.size W w') := by
  subst hm
  exact eqValueSSC (Below.refl _ _) c c' h h'
theorem markSS {W : World} {lo g : Nat} {ps : Array Rw} {m : Nat} (hm : ps.size = m) (c : Nat) (h : Own W lo g ps) (hlo : lo ≤ W.heap.size) :
    Calls Try.prog 22 #[.slice (some ⟨g, 0, none⟩) m c, .int .i64 1] W (fun e w' => e = .returned (.int .i64 (1 + (KK ps m : Nat))) ∧ MrkS w' g ps 1 ∧ Fr lo m ps W w') := by
  subst hm
  exact markValueSSC h hlo 1 (by omega) (by omega)
theorem heldSS {W : World} {g : Nat} {ps : Array Rw} {m : Nat} (hm : ps.size = m) (hl : m ≤ 1048576) (c : Nat) (h : MrkS W g ps 1) :
    Calls Try.prog 23 #[.slice (some ⟨g, 0, none⟩) m c, .int .i64 1] W (fun e w' => e = .returned (.int .i64 (1 + (KK ps m : Nat))) ∧ Below W.heap.size W w') := by
  subst hm
  exact heldValueSSC h hl (by omega) (by omega)
end Go.Proofs.Ytfikgiekigbaoaa
