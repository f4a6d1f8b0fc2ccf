/-
  DrawSortRows: rows of drawn values.
-/
import Derived.Test.YtfikgiekigbaoaaDrL
import Derived.Test.YtfikgiekigbaoaaCpyW
namespace Go.Proofs.Ytfikgiekigbaoaa
open Go Go.RowKit

/-- What DrawSortRows has laid so far: rows in blocks from W0 on, the cursor in block p below. -/
structure Cs (B p : Nat) (W0 w : World) (v : Value) (ps : Array Rw) : Prop where
  own : w.ownsRow W0.heap.size 31 1 v ps.size (ps.toList.map Prod.fst)
  addr : ∃ g c, v = .slice (some ⟨g, 0, none⟩) ps.size c ∧ ∀ i, i < ps.size → RvN w g (atR ps i)
  zero : ∀ i, i < ps.size → ∀ b o c n, (atR ps i).1 = .slice (some ⟨b, o, none⟩) n c → o = 0
  low : ∀ i, i < ps.size → 0 < (atR ps i).2.length → ∀ b o c n, (atR ps i).1 = .slice (some ⟨b, o, none⟩) n c → W0.heap.size ≤ b
  dr : Dr B p W0 w

theorem Cs.step {B p : Nat} {W0 wr w2 w3 : World} {v v3 : Value} {ps : Array Rw} {xs : List ValF} {a : Option Addr} {c : Nat} {o : Obj} (hp : p < W0.heap.size) (h : Cs B p W0 wr v ps) (h2 : Dr B p wr w2)
    (hr : RowP w2 wr.heap.size 1048576 3 (vaC 1048576) xs a) (hz : ∀ b o, a = some ⟨b, o, none⟩ → o = 0)
    (hown : w3.ownsRow W0.heap.size 31 1 v3 (ps.size + 1) (ps.toList.map Prod.fst ++ [.slice a xs.length c])) (hg : (w2.alloc o).grownBy w3 v.ownBlock) :
    Cs B p W0 w3 v3 (ps.push (.slice a xs.length c, xs)) := by
  obtain ⟨g, c1, rfl, hrows⟩ := h.addr
  have hgl := h.own.lt g rfl
  have hg' : (w2.alloc o).grownBy w3 (some g) := hg
  have hD3 : Dr B p W0 w3 := ((h.dr.trans h2).alloc o).own hp (fun k hk => by injection hk with hk; subst hk; exact hgl.1) hg'
  have hs2 : wr.heap.size ≤ w2.heap.size := h2.grown.size
  have hsz : wr.heap.size ≤ (w2.alloc o).heap.size := by simp; omega
  have hW : W0.heap.size ≤ wr.heap.size := h.dr.grown.size
  rcases hown.2 with ⟨_, h0⟩ | ⟨g3, cap3, cur3, rfl, hb3, _⟩
  · omega
  have hfirst : ∃ a0 n0 c0, (ps.toList.map Prod.fst ++ [Value.slice a xs.length c])[0]? = some (.slice a0 n0 c0) := by
    by_cases hp : 0 < ps.size
    · obtain ⟨a0, c0, e⟩ := (hrows 0 hp).slice
      refine ⟨a0, (atR ps 0).2.length, c0, ?_⟩
      rw [List.getElem?_append_left (by simpa using hp), List.getElem?_map, List.getElem?_eq_getElem (by simpa using hp)]
      rw [← e, atR_get _ _ hp]
      simp
    · have : ps = #[] := by simpa using hp
      subst this
      exact ⟨a, _, c, rfl⟩
  obtain ⟨a0, n0, c0, hf⟩ := hfirst
  have key : ∀ p : Rw, (∃ a c, p.1 = .slice a p.2.length c ∧ (∀ b o, a = some ⟨b, o, none⟩ → o = 0) ∧ RowP w3 0 1048576 3 (vaC 1048576) p.2 a) → RvN w3 g3 p := by
    rintro p ⟨a, c, e1, e2, e3⟩
    refine ⟨a, c, e1, e3, fun b o e hp => ?_⟩
    subst e
    have := e2 b o rfl
    subst this
    exact apart hown hf e3 hp
  have hat : ∀ i, i < ps.size → atR (ps.push (.slice a xs.length c, xs)) i = atR ps i := fun i hi => by
    rw [atR_get _ _ (by simp; omega), atR_get _ _ hi, Array.getElem_push_lt]
  have hlast : atR (ps.push (.slice a xs.length c, xs)) ps.size = (.slice a xs.length c, xs) := by
    rw [atR_get _ _ (by simp), Array.getElem_push_eq]
  have hrow : ∀ {q : World} {lo : Nat} {ys : List ValF} {a : Option Addr}, RowP q lo 1048576 3 (vaC 1048576) ys a → q.heap.size ≤ w3.heap.size → (∀ b o, a = some ⟨b, o, none⟩ → 0 < ys.length → b < q.heap.size → lo ≤ b → w3.heap[b]? = q.heap[b]?) → RowP w3 0 1048576 3 (vaC 1048576) ys a := by
    intro q lo ys a hy hs hk
    refine ⟨hy.1, fun hp => ?_⟩
    obtain ⟨b, o, rfl, h1, h2, h3⟩ := hy.2 hp
    exact ⟨b, o, rfl, Nat.zero_le _, Nat.lt_of_lt_of_le h2 hs, fun i hi => let ⟨cs, hc, hat⟩ := h3 i hi; ⟨cs, hc, hat.same (hk b o rfl hp h2 h1)⟩⟩
  refine ⟨by simpa using hown, ⟨g3, cap3, by simp, fun i hi => ?_⟩, fun i hi b o c n e => ?_, fun i hi hl b o c n e => ?_, hD3⟩
  · rw [Array.size_push] at hi
    by_cases hlt : i < ps.size
    · rw [hat i hlt]
      obtain ⟨ai, ci, e1, e2, e3⟩ := hrows i hlt
      refine key _ ⟨ai, ci, e1, fun b o e => h.zero i hlt b o _ _ (by rw [e1, e]), hrow e2 (Nat.le_trans hsz hg'.size) fun b o e hp2 hb _ => ?_⟩
      have hlow := h.low i hlt hp2 b o _ _ (by rw [e1, e])
      rw [hg'.block b (Nat.lt_of_lt_of_le hb hsz) (fun e4 => e3 b o e hp2 (by injection e4)), heap_alloc_old w2 _ (Nat.lt_of_lt_of_le hb hs2), h2.grown.block b hb (fun e4 => by injection e4 with e4; omega)]
    · have : i = ps.size := by omega
      subst this
      rw [hlast]
      refine key _ ⟨a, c, rfl, hz, hrow hr (Nat.le_trans (by simp) hg'.size) fun b o e hp hb hlo => ?_⟩
      rw [hg'.block b (by simp; omega) (fun e4 => by injection e4 with e4; omega)]
      exact heap_alloc_old w2 _ hb
  · rw [Array.size_push] at hi
    by_cases hlt : i < ps.size
    · rw [hat i hlt] at e
      exact h.zero i hlt b o c n e
    · have : i = ps.size := by omega
      subst this
      rw [hlast] at e
      injection e with e _ _
      exact hz b o e
  · rw [Array.size_push] at hi
    by_cases hlt : i < ps.size
    · rw [hat i hlt] at e hl
      exact h.low i hlt hl b o c n e
    · have : i = ps.size := by omega
      subst this
      rw [hlast] at e hl
      injection e with e _ _
      obtain ⟨b', o', e2, h3, _⟩ := hr.2 hl
      rw [e] at e2
      injection e2 with e2
      injection e2 with e2 _ _
      omega

theorem Cs.keep {B p : Nat} {W0 w w' : World} {v : Value} {ps : Array Rw} (hp : p < W0.heap.size) (h : Cs B p W0 w v ps) (hd : Dr B p w w') : Cs B p W0 w' v ps := by
  obtain ⟨g, c, rfl, hrows⟩ := h.addr
  have hgl := h.own.lt g rfl
  refine ⟨h.own.kept hd.grown (.inr (fun e => by have e := hgl.1; simp [Value.ownBlock] at *; omega)), ⟨g, c, rfl, fun i hi => ?_⟩, h.zero, h.low, h.dr.trans hd⟩
  obtain ⟨ai, ci, e1, ⟨e2l, e2⟩, e3⟩ := hrows i hi
  refine ⟨ai, ci, e1, ⟨e2l, fun h0 => ?_⟩, e3⟩
  obtain ⟨b, o, rfl, k1, k2, k3⟩ := e2 h0
  have hlow := h.low i hi h0 b o _ _ e1
  exact ⟨b, o, rfl, k1, Nat.lt_of_lt_of_le k2 hd.grown.size, fun j hj => let ⟨cs, hc, hat⟩ := k3 j hj; ⟨cs, hc, hat.same (hd.grown.block b k2 (fun e => by injection e with e; omega))⟩⟩

theorem Cs.start {B p : Nat} {W0 w : World} (hc : Cur B W0 p) (hd : Dr B p (W0.alloc (.cells #[] 31)) w) : Cs B p W0 w (.slice (some ⟨W0.heap.size, 0, none⟩) 0 0) #[] := by
  have h0 : Cs B p W0 (W0.alloc (.cells #[] 31)) (.slice (some ⟨W0.heap.size, 0, none⟩) 0 0) #[] :=
    ⟨World.ownsRow_made W0 #[] 0 (Nat.le_refl _) (by decide) rfl, ⟨_, _, rfl, fun i hi => absurd hi (by simp)⟩, (fun i hi => absurd hi (by simp)), (fun i hi => absurd hi (by simp)), (Dr.refl hc).alloc _⟩
  exact h0.keep hc.lt hd

/-- The rows as a row of rows. -/
theorem Cs.rows {B p : Nat} {W0 w : World} {g c : Nat} {ps : Array Rw} (h : Cs B p W0 w (.slice (some ⟨g, 0, none⟩) ps.size c) ps) (hs : ps.size ≤ 1048576) :
    RowP w 0 1048576 1 (rvC w 1048576) (ps.toList.map Prod.snd) (some ⟨g, 0, none⟩) := by
  obtain ⟨g', c', e, hr⟩ := h.addr
  injection e with e _ _
  injection e with e
  injection e with e _ _
  subst e
  refine ⟨by simpa using hs, fun _ => ⟨g, 0, rfl, Nat.zero_le _, (h.own.lt g rfl).2, fun i hi => ?_⟩⟩
  have hi' : i < ps.size := by simpa using hi
  obtain ⟨ai, ci, e1, e2, _⟩ := hr i hi'
  have h1 := h.own.cells rfl i (atR ps i).1 (by rw [List.getElem?_map, List.getElem?_eq_getElem (by simpa using hi'), atR_get _ _ hi']; simp)
  rw [addr_at, Nat.zero_add] at h1
  have hx : (ps.toList.map Prod.snd)[i] = (atR ps i).2 := by rw [atR_get _ _ hi']; simp
  rw [hx]
  refine ⟨_, ⟨ai, ci, rfl, e2⟩, fun j hj => ?_⟩
  have hj0 : j = 0 := by simpa using hj
  subst hj0
  rw [e1] at h1
  simpa using h1

set_option maxHeartbeats 4000000 in
set_option maxRecDepth 100000 in
theorem drawSortRowsC {B : Nat} {w : World} {a : Option Addr} {n : Nat} {z : Nat → Int} (c : Nat) (h : Code B w a n z) (hB : B ≤ w.heap.size) :
    Calls Try.prog 25 #[.slice a n c] w fun e w' => ∃ (ao : Option Addr) (co : Nat) (xss : List (List ValF)), e = .returned (.slice ao xss.length co) ∧ xss.length ≤ 6 ∧ RowP w' 0 1048576 1 (rvC w' 1048576) xss ao ∧ Below w.heap.size w w' := by
  obtain ⟨i0, hi, hz0, hz1, hz2⟩ := info_parts Try.infoRv
  go_enter Try.func25, Try.ntmps25
  go_wp2_with fail
  refine (l1NewC c (h.mono hB) (Nat.le_refl _)).mono ?_
  rintro e w1 ⟨p, rfl, hc1, hb1⟩
  have hp := hc1.lt
  have hlow := hc1.low
  have H1 := hide (And.intro hc1 hb1)
  clear hc1 hb1 h
  go_wp2_with fail
  refine (l1BelowC (H1.out.1.alloc' _) 7).mono ?_
  rintro e w2 ⟨x, rfl, x0, x1, hc2, hg2⟩
  have x2 := x1 (by omega)
  obtain ⟨m, rfl⟩ : ∃ m : Nat, x = m := ⟨x.toNat, by omega⟩
  have HCS := hide (Cs.start H1.out.1 ((Dr.refl (H1.out.1.alloc' _)).step hc2 hg2))
  clear hc2 hg2 x1
  go_wp2_with fail
  go_loopw [4, 6] (fun x y wr => ∃ j : Nat, y = .int .i64 (j : Int) ∧ j ≤ m ∧ ∃ g cc, x = .slice (some ⟨g, 0, none⟩) j cc ∧ Hid (∃ ps : Array Rw, ps.size = j ∧ Cs w.heap.size p w1 wr (.slice (some ⟨g, 0, none⟩) j cc) ps)) (fun _ y _ => m - (intOf y).toNat)
  case atStart => exact ⟨0, rfl, by omega, w1.heap.size, 0, rfl, #[], rfl, HCS.out⟩
  case round =>
    clear HCS
    obtain ⟨j, rfl, hj, g, cc, rfl, HP⟩ := hrel
    by_cases hlt : j < m
    · have hlt2 : (j : Int) < m := by omega
      obtain ⟨ps, hps, hcs⟩ := HP.out
      clear HP
      have HC := hide hcs
      have HPS := hide hps
      clear hcs hps
      go_wp2_with fail
      refine (l1BelowC HC.out.dr.cur 2).mono ?_
      rintro e w3 ⟨y, rfl, y0, y1, hc3, hg3⟩
      have y2 := y1 (by omega)
      have HD3 := hide ((Dr.refl HC.out.dr.cur).step hc3 hg3)
      clear hc3 hg3 y1
      obtain ⟨q, rfl⟩ : ∃ q : Nat, y = q := ⟨y.toNat, by omega⟩
      have hq1 : IntKind.i64.wrap (1 + (q : Int)) = ((1 + q : Nat) : Int) := by rw [show (1 + (q : Int)) = ((1 + q : Nat) : Int) by omega]; exact IntWalk.i64_in _ (by omega)
      have hC := hide (l5ListC HD3.out.cur (1 + q) (by omega))
      rw [show (((1 + q : Nat)) : Int) = 1 + (q : Int) by omega] at hC
      clear hq1
      go_wp2_with fail
      refine hC.out.mono ?_
      rintro e w4 ⟨u, rfl, xs, hxl, hxt, hown4, hd4⟩
      obtain ⟨hk, a', c', rfl, hz, hr⟩ := row_of_owns hown4 (fun x hx => by have := hxt x hx; omega) (by omega)
      have HR := hide (And.intro hz (And.intro (hr.imp (lo' := wr.heap.size) (M' := 1048576) (C' := vaC 1048576) HD3.out.grown.size (Nat.le_refl _) (Nat.le_refl _) (fun _ _ _ => rfl) (fun _ _ h => h)) (HD3.out.trans hd4)))
      have hown2 := (HC.out.keep hp HR.out.2.2).own
      have hwz := HC.out.dr.grown.size
      have hwz2 := HR.out.2.2.grown.size
      rw [HPS.out] at hown2
      have HXL := hide (show xs.length ≤ 20 by omega)
      clear hz hr hd4 hown4 hxt hk hC hxl HD3
      obtain ⟨k, hk⟩ : ∃ k, Hid (xs.length = k) := ⟨_, rfl⟩
      rw [hk.out]
      go_wp2_with (first | (at_builtin; refine wpList_append_own _ rfl _ _ 37 rfl w1.heap.size 31 i0 (.slice none 0 0) 1 24 Try.underlying37 hi hz0 hz1 hz2 rfl (by decide) _ _ _ rfl (hown2.alloc _) ⟨w4.heap.size, 0, none⟩ 1 1 [.slice a' k c'] rfl rfl ?c1 ?c2 ?c3 ?c4 ?c5 ?_))
      case c1 =>
        intro j u hj
        match j, hj with
        | 0, hj => simp at hj; subst hj; simp [Addr.add, go_sem]
      case c2 => intro u hu; simp at hu; subst hu; rfl
      case c3 => unfold maxLen; omega
      case c4 => omega
      case c5 => simp; omega
      · intro v3 w5 hown3 hgrow3 hnil3
        have hfin : ∃ g3 c3, v3 = .slice (some ⟨g3, 0, none⟩) (j + 1) c3 ∧ Hid (∃ qs : Array Rw, qs.size = j + 1 ∧ Cs w.heap.size p w1 w5 (.slice (some ⟨g3, 0, none⟩) (j + 1) c3) qs) := by
          rw [← HPS.out, ← hk.out] at hown3
          have hst := Cs.step hp HC.out HR.out.2.2 HR.out.2.1 HR.out.1 hown3 hgrow3
          obtain ⟨g3, c3, e3, _⟩ := hst.addr
          have hz : (ps.push (.slice a' xs.length c', xs)).size = j + 1 := by rw [Array.size_push, HPS.out]
          rw [hz] at e3
          refine ⟨g3, c3, e3, _, hz, ?_⟩
          rw [← e3]
          exact hst
        obtain ⟨g3, c3, rfl, HF⟩ := hfin
        clear hown3 hgrow3 hnil3 hown2 HR HC
        go_wp2_with fail
        go_roundw
        case rel => exact ⟨j + 1, by go_num, by omega, g3, c3, rfl, HF.out⟩
        case measure => simp [intOf]; omega
    · have hlt2 : ¬ (j : Int) < m := by omega
      have hjm : j = m := by omega
      go_wp2_with fail
      go_ret
      obtain ⟨ps, hps, hcs⟩ := HP.out
      subst hps
      refine ⟨some ⟨g, 0, none⟩, cc, ps.toList.map Prod.snd, by rw [List.length_map, Array.length_toList, hjm]; rfl, by rw [List.length_map, Array.length_toList]; omega, hcs.rows (by omega), hcs.dr.toBelow H1.out.2 (Nat.le_refl _) hlow⟩
end Go.Proofs.Ytfikgiekigbaoaa
