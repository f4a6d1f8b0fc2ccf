/-
  spec.SortRows: rows of any number up to 2^20, put in one by one.
-/
import Derived.Test.YtfikgiekigbaoaaRow5
import Derived.Test.YtfikgiekigbaoaaCpyW
import Derived.Test.YtfikgiekigbaoaaOrdT
import Derived.Test.YtfikgiekigbaoaaQ
namespace Go.Proofs.Ytfikgiekigbaoaa
open Go Go.RowKit

/-- A row of values that lies in w. -/
def RvP (w : World) (p : Rw) : Prop := ∃ a c, p.1 = .slice a p.2.length c ∧ RowP w 0 1048576 3 (vaC 1048576) p.2 a
theorem rowVa_below {w w' : World} {lo M : Nat} {xs : List ValF} {a : Option Addr} (h : RowP w lo M 3 (vaC M) xs a) (hb : Below w.heap.size w w') : RowP w' 0 M 3 (vaC M) xs a :=
  h.imp (Nat.zero_le _) (Nat.le_refl _) hb.size (fun b _ h => hb.block b h) fun _ _ h => h
theorem RvP.below {w w' : World} {p : Rw} (h : RvP w p) (hb : Below w.heap.size w w') : RvP w' p := let ⟨a, c, h1, h2⟩ := h; ⟨a, c, h1, rowVa_below h2 hb⟩

abbrev leR (x y : List ValF) : Prop := ordR x y ≤ 0
theorem ins_sorted {l : List (List ValF)} (h : l.Pairwise leR) (k : Nat) (hk : k ≤ l.length) (x : List ValF) (h1 : k = 0 ∨ ∃ q, k = q + 1 ∧ ∃ (hq : q < l.length), leR l[q] x) (h2 : ∀ t, k ≤ t → ∀ (ht : t < l.length), leR x l[t]) :
    (l.take k ++ x :: l.drop k).Pairwise leR := by
  have hp := List.pairwise_iff_getElem.1 h
  have ha : ∀ a ∈ l.take k, leR a x := fun a ha => by
    obtain ⟨i, hi, rfl⟩ := List.getElem_of_mem ha
    rw [List.getElem_take]
    have hi' : i < k ∧ i < l.length := Nat.lt_min.1 (by simpa using hi)
    rcases h1 with h1 | ⟨q, rfl, hq, hle⟩
    · omega
    · by_cases e : i = q
      · subst e; exact hle
      · exact ordR_trans (hp i q hi'.2 hq (by omega)) hle
  have hb : ∀ b ∈ l.drop k, leR x b := fun b hb => by
    obtain ⟨i, hi, rfl⟩ := List.getElem_of_mem hb
    rw [List.getElem_drop]
    exact h2 (k + i) (by omega) _
  refine List.pairwise_append.2 ⟨h.sublist (List.take_sublist _ _), List.pairwise_cons.2 ⟨hb, h.sublist (List.drop_sublist _ _)⟩, fun a hma b hmb => ?_⟩
  rcases List.mem_cons.1 hmb with rfl | hmb
  · exact ha a hma
  · exact ordR_trans (ha a hma) (hb b hmb)

/-- What spec.SortRows has laid so far: rows in order, their slices in block g. -/
structure Sp (W0 w : World) (g : Nat) (ls : List Rw) (xss : List (List ValF)) : Prop where
  perm : (ls.map Prod.snd).Perm xss
  asc : (ls.map Prod.snd).Pairwise leR
  lt : g < w.heap.size
  cell : ∀ i (h : i < ls.length), w.cell? ⟨g, i, none⟩ = some ls[i].1
  row : ∀ p ∈ ls, RvP w p
  below : Below W0.heap.size W0 w
theorem Sp.stays {W0 w w' : World} {g : Nat} {ls : List Rw} {xss : List (List ValF)} (h : Sp W0 w g ls xss) (hb : Below w.heap.size w w') : Sp W0 w' g ls xss :=
  ⟨h.perm, h.asc, Nat.lt_of_lt_of_le h.lt hb.size, fun i hi => (hb.cell (p := ⟨g, i, none⟩) h.lt).trans (h.cell i hi), fun p hp => (h.row p hp).below hb, below_via h.below hb⟩
/-- The cells of a part of them. -/
theorem Sp.part {W0 w w' : World} {g : Nat} {ls : List Rw} {xss : List (List ValF)} (h : Sp W0 w g ls xss) (hb : Below w.heap.size w w') (k : Nat) : ∀ i u, ((ls.drop k).map Prod.fst)[i]? = some u → w'.cell? ((⟨g, k, none⟩ : Addr).add i) = some u := by
  intro i u hu
  rw [addr_at]
  obtain ⟨hi, e⟩ := List.getElem?_eq_some_iff.1 hu
  rw [hb.cell (p := ⟨g, k + i, none⟩) h.lt, h.cell (k + i) (by simp at hi; omega), ← e]
  simp
theorem Sp.first {W0 w w' : World} {g : Nat} {ls : List Rw} {xss : List (List ValF)} (h : Sp W0 w g ls xss) (hb : Below w.heap.size w w') (k : Nat) : ∀ i u, ((ls.take k).map Prod.fst)[i]? = some u → w'.cell? ((⟨g, 0, none⟩ : Addr).add i) = some u := by
  intro i u hu
  rw [addr_at]
  obtain ⟨hi, e⟩ := List.getElem?_eq_some_iff.1 hu
  rw [hb.cell (p := ⟨g, 0 + i, none⟩) h.lt, h.cell (0 + i) (by simp at hi; omega), ← e]
  simp
theorem Sp.one {W0 w : World} {g : Nat} {ls : List Rw} {xss : List (List ValF)} (h : Sp W0 w g ls xss) {l : List Rw} (hl : ∀ p ∈ l, p ∈ ls) : ∀ u ∈ l.map Prod.fst, u.oneCell' = true := by
  intro u hu
  obtain ⟨p, hp, rfl⟩ := List.mem_map.1 hu
  obtain ⟨a, c, e, _⟩ := h.row p (hl p hp)
  rw [e]; rfl
/-- The new row, through the two appends behind it. -/
theorem newRow {w3 w4 w5 w6 : World} {o : Obj} {x : List ValF} {a : Option Addr} {c g3 g5 n5 c5 base : Nat} {e : TypeId} {vs : List Value} (hr : RowU w4 w3.heap.size x a) (hg3 : g3 < w3.heap.size) (hg5 : (w4.alloc o).grownBy w5 (some g3))
    (hown5 : w5.ownsRow base e 1 (.slice (some ⟨g5, 0, none⟩) n5 c5) n5 (vs ++ [.slice a x.length c])) (hvs : ∀ u ∈ vs, ∃ a n c, u = .slice a n c) (hg6 : w5.grownBy w6 (some g5)) : RowP w6 0 1048576 3 (vaC 1048576) x a := by
  refine ⟨hr.row.1, fun hp => ?_⟩
  obtain ⟨b, o', rfl, h1, h2, h3⟩ := hr.row.2 hp
  have ho := hr.zero b o' rfl
  subst ho
  have e5 : w5.heap[b]? = w4.heap[b]? := by
    rw [hg5.block b (by simp; omega) (fun e => by injection e with e; omega)]
    exact heap_alloc_old w4 _ h2
  have s5 : w4.heap.size ≤ w5.heap.size := Nat.le_trans (by simp) hg5.size
  have r5 : RowP w5 0 1048576 3 (vaC 1048576) x (some ⟨b, 0, none⟩) := ⟨hr.row.1, fun _ => ⟨b, 0, rfl, Nat.zero_le _, by omega, fun i hi => let ⟨cs, hc, hat⟩ := h3 i hi; ⟨cs, hc, hat.same e5⟩⟩⟩
  have hf : ∃ a0 n0 c0, (vs ++ [Value.slice (some ⟨b, 0, none⟩) x.length c])[0]? = some (.slice a0 n0 c0) := by
    cases vs with
    | nil => exact ⟨_, _, _, rfl⟩
    | cons v r => obtain ⟨a0, n0, c0, e⟩ := hvs v (by simp); exact ⟨a0, n0, c0, by rw [e]; rfl⟩
  obtain ⟨a0, n0, c0, hf⟩ := hf
  have hne := apart hown5 hf r5 hp
  have e6 : w6.heap[b]? = w4.heap[b]? := (hg6.block b (by omega) (fun e => hne (by injection e))).trans e5
  have := hg6.size
  exact ⟨b, 0, rfl, Nat.zero_le _, by omega, fun i hi => let ⟨cs, hc, hat⟩ := h3 i hi; ⟨cs, hc, hat.same e6⟩⟩
theorem Sp.step {W0 w w6 : World} {g g6 n6 c6 base : Nat} {e : TypeId} {ls : List Rw} {xss : List (List ValF)} {x : List ValF} {a : Option Addr} {c k : Nat} (h : Sp W0 w g ls xss) (hk : k ≤ ls.length) (hb : Below w.heap.size w w6)
    (hown : w6.ownsRow base e 1 (.slice (some ⟨g6, 0, none⟩) n6 c6) n6 ((ls.take k).map Prod.fst ++ [.slice a x.length c] ++ (ls.drop k).map Prod.fst)) (hr : RowP w6 0 1048576 3 (vaC 1048576) x a)
    (hs : (((ls.map Prod.snd).take k) ++ x :: ((ls.map Prod.snd).drop k)).Pairwise leR) : Sp W0 w6 g6 (ls.take k ++ (.slice a x.length c, x) :: ls.drop k) (xss ++ [x]) := by
  have hm : (ls.take k ++ (Value.slice a x.length c, x) :: ls.drop k).map Prod.snd = ((ls.map Prod.snd).take k) ++ x :: ((ls.map Prod.snd).drop k) := by simp
  have hf : (ls.take k ++ (Value.slice a x.length c, x) :: ls.drop k).map Prod.fst = (ls.take k).map Prod.fst ++ [.slice a x.length c] ++ (ls.drop k).map Prod.fst := by simp
  refine ⟨?_, by rw [hm]; exact hs, (hown.lt g6 rfl).2, fun i hi => ?_, fun p hp => ?_, below_via h.below hb⟩
  · rw [hm]
    refine List.perm_middle.trans ?_
    rw [List.take_append_drop]
    exact (List.Perm.cons x h.perm).trans (List.perm_append_singleton x xss).symm
  · have h1 := hown.cells (g := g6) rfl i (ls.take k ++ (Value.slice a x.length c, x) :: ls.drop k)[i].1 (by rw [← hf, List.getElem?_map, List.getElem?_eq_getElem hi]; rfl)
    rw [addr_at, Nat.zero_add] at h1
    exact h1
  · rcases List.mem_append.1 hp with hp | hp
    · exact (h.row p (List.mem_of_mem_take hp)).below hb
    · rcases List.mem_cons.1 hp with rfl | hp
      · exact ⟨a, c, rfl, hr⟩
      · exact (h.row p (List.mem_of_mem_drop hp)).below hb
theorem not_nil {v : Value} {w : World} {base n : Nat} {e : TypeId} {vs : List Value} (h : w.ownsRow base e 1 v n vs) (hne : v ≠ .slice none 0 0) : ∃ g c, v = .slice (some ⟨g, 0, none⟩) n c ∧ n ≤ c := by
  rcases h.2 with ⟨e, _⟩ | ⟨g, cap, cur, e, _, _, hnc, _⟩
  · exact absurd e hne
  · exact ⟨g, cap, e, hnc⟩

set_option maxHeartbeats 8000000 in
set_option maxRecDepth 100000 in
theorem specSortRows {w0 w : World} (h00 : Below w0.heap.size w0 w) {xss : List (List ValF)} {a : Option Addr} (c : Nat) (h : RowP w0 0 1048576 1 (rvC w0 1048576) xss a) :
    Calls Try.prog 18 #[.slice a xss.length c] w (fun e w' => ∃ g c' ls, e = .returned (.slice (some ⟨g, 0, none⟩) xss.length c') ∧ Sp w w' g ls xss) := by
  have hl := h.1
  have H := hide h
  have H0 := hide h00
  clear h h00
  obtain ⟨m, hm⟩ : ∃ m, Hid (xss.length = m) := ⟨_, hide rfl⟩
  rw [hm.out] at hl ⊢
  obtain ⟨i0, hi, hz0, hz1, hz2⟩ := info_parts Try.infoRv
  have HI := hide (And.intro hi (And.intro hz0 (And.intro hz1 hz2)))
  clear hi hz0 hz1 hz2
  go_enter Try.func18, Try.ntmps18
  go_wp2_with fail
  go_loopw [3, 4] (fun u y wr => ∃ (j : Nat), y = .int .i64 (j : Int) ∧ j ≤ m ∧ ∃ g cc, u = .slice (some ⟨g, 0, none⟩) j cc ∧ j ≤ cc ∧ Hid (∃ ls : List Rw, ls.length = j ∧ Sp w wr g ls (xss.take j))) (fun _ y _ => m - (intOf y).toNat)
  case atStart =>
    exact ⟨0, rfl, by omega, w.heap.size, 0, rfl, by omega, [], rfl, by simp, by simp, by simp, (fun i hi => absurd hi (by simp)), (fun p hp => by cases hp), (Below.refl w.heap.size w).alloc (Nat.le_refl _) _⟩
  case round =>
    obtain ⟨j, rfl, hj, g, cc, rfl, hjc, HP⟩ := hrel
    by_cases hlt : j < m
    · have hlt2 : (j : Int) < m := by omega
      have hjx : j < xss.length := by have := hm.out; omega
      obtain ⟨ls, hls, hsp⟩ := HP.out
      clear HP
      obtain ⟨b, o, rfl, _, hb, hel⟩ := H.out.2 (by omega)
      obtain ⟨cs, ⟨ar, cr, rfl, hrow⟩, hat⟩ := hel j hjx
      have HCELL := hide (fun (W : World) (hW : Below w0.heap.size w0 W) => (hat.same (hW.block b hb)) 0 (by simp))
      simp only [List.getElem_cons_zero, Nat.add_zero, Nat.mul_one] at HCELL
      have HROW := hide hrow
      have HXS := hide (show xss.take (j + 1) = xss.take j ++ [xss[j]] by rw [List.take_succ_eq_append_getElem hjx])
      have HSP := hide (And.intro hls hsp)
      have HB0 := hide hb
      obtain ⟨x, hx⟩ : ∃ x, xss[j] = x := ⟨_, rfl⟩
      rw [hx] at HCELL HROW HXS
      obtain ⟨nx, hnx⟩ : ∃ k, Hid (x.length = k) := ⟨_, hide rfl⟩
      clear hat hel hb hrow hx hls hsp
      go_wp2_with fail
      go_loopw [5] (fun u wk => ∃ k : Nat, u = .int .i64 (k : Int) ∧ k ≤ j ∧ Hid (Below wr.heap.size wr wk ∧ ∀ t, k ≤ t → ∀ (ht : t < ls.length), leR x ls[t].2)) (fun u _ => (intOf u).toNat)
      case atStart => exact ⟨j, rfl, Nat.le_refl _, (show Below wr.heap.size wr _ by go_grown), fun t h1 ht => absurd ht (by have := HSP.out.1; omega)⟩
      case round =>
        obtain ⟨k, rfl, hkj, HK⟩ := hrel
        by_cases hk0 : k = 0
        · subst hk0
          have HD := hide (show (((ls.map Prod.snd).take 0) ++ x :: ((ls.map Prod.snd).drop 0)).Pairwise leR from ins_sorted HSP.out.2.asc 0 (Nat.zero_le _) x (.inl rfl) fun t h1 ht => by simpa using HK.out.2 t h1 (by simpa using ht))
          go_wp2_with fail
          refine wp_region_wq (by kernel_rfl) (by kernel_rfl) ?_
          repeat (refine WQ.step (fun K hK => ?_); go_simp; first | (refine hK _ ?_; clear hK K) | (apply Exists.intro; refine ⟨fun _ => ?_, hK _ ?_⟩; (fail); clear hK K))
          refine WQ.nil ?_
          intro W2 hw2
          have HK2 := hide (below_via HK.out.1 (BelowOf.of hw2))
          clear hw2 HK
          have HS2 := hide (HSP.out.2.stays HK2.out)
          have hown0 := World.ownsRow_made (base := W2.heap.size) (size := 1) (e := 31) W2 #[] 0 (Nat.le_refl _) (by decide) rfl
          go_wp2_with (first | (at_builtin; refine wpList_append_own _ rfl _ _ 37 rfl W2.heap.size 31 i0 (.slice none 0 0) 1 24 Try.underlying37 HI.out.1 HI.out.2.1 HI.out.2.2.1 HI.out.2.2.2 rfl (by decide) _ _ _ rfl hown0 ⟨g, 0, none⟩ 0 _ ((ls.take 0).map Prod.fst) rfl ?c1 ?c2 ?c3 ?c4 ?c5 ?c6 ?_))
          case c1 => have := HSP.out.1; simp <;> omega
          case c2 => exact HS2.out.first ((Below.refl W2.heap.size W2).alloc (Nat.le_refl _) _) _
          case c3 => exact HS2.out.one fun p hp => List.mem_of_mem_take hp
          case c4 => unfold maxLen; omega
          case c5 => omega
          case c6 => simp
          intro v3 w3 hown3 hgrow3 hnil3
          have hb3 := Below.grown ((Below.refl W2.heap.size W2).alloc (Nat.le_refl _) (.cells #[] 31)) hgrow3 (by simp) (fun k hk => (hown0.lt k hk).1)
          obtain ⟨g3, c3, rfl, _⟩ := not_nil hown3 (by first | exact hnil3 | (intro e; simp at hnil3))
          have H3 := hide (And.intro hown3 hb3)
          have hC := hide (rowFiveC (w := w3) (below_via (below_via H0.out HS2.out.below) hb3) cr HROW.out)
          have k3 := HCELL.out w3 (below_via (below_via H0.out HS2.out.below) hb3)
          rw [hnx.out] at hC k3
          clear hown0 hown3 hgrow3 hnil3 hb3
          go_wp2_with fail
          refine hC.out.mono ?_
          rintro e w4 ⟨a', c', rfl, hr4, hb4⟩
          have hown4 := H3.out.1.kept (grow_of_below hb4 none) (by simp [Value.ownBlock])
          have H4 := hide (And.intro hr4 (And.intro hb4 (below_via H3.out.2 hb4)))
          have hs4 := (below_via H3.out.2 hb4).size
          clear hr4 hb4 hC k3
          go_wp2_with (first | (at_builtin; refine wpList_append_own _ rfl _ _ 37 rfl W2.heap.size 31 i0 (.slice none 0 0) 1 24 Try.underlying37 HI.out.1 HI.out.2.1 HI.out.2.2.1 HI.out.2.2.2 rfl (by decide) _ _ _ rfl (hown4.alloc _) ⟨w4.heap.size, 0, none⟩ 1 1 [.slice a' nx c'] rfl rfl ?c1 ?c2 ?c3 ?c4 ?c5 ?_))
          case c1 =>
            intro j u hj
            match j, hj with
            | 0, hj => simp at hj; subst hj; simp [Addr.add, go_sem]
          case c2 => intro u hu; simp at hu; subst hu; rfl
          case c3 => unfold maxLen; omega
          case c4 => omega
          case c5 => simp; omega
          intro v5 w5 hown5 hgrow5 hnil5
          have hb5 := Below.grown (H4.out.2.2.alloc hs4 _) hgrow5 (Nat.le_trans hs4 (by simp)) (fun k hk => (hown4.lt k hk).1)
          obtain ⟨g5, c5, rfl, _⟩ := not_nil hown5 (by first | exact hnil5 | (intro e; simp at hnil5))
          have H5 := hide (And.intro hown5 (And.intro hb5 hgrow5))
          have hs5 := hb5.size
          have hg3 := (H3.out.1.lt g3 rfl).2
          clear hown4 hown5 hgrow5 hnil5 hb5
          go_wp2_with (first | (at_builtin; refine wpList_append_own _ rfl _ _ 37 rfl W2.heap.size 31 i0 (.slice none 0 0) 1 24 Try.underlying37 HI.out.1 HI.out.2.1 HI.out.2.2.1 HI.out.2.2.2 rfl (by decide) _ _ _ rfl H5.out.1 ⟨g, 0, none⟩ (j - 0) _ ((ls.drop 0).map Prod.fst) rfl ?c1 ?c2 ?c3 ?c4 ?c5 ?c6 ?_))
          case c1 => have := HSP.out.1; simp <;> omega
          case c2 => exact HS2.out.part H5.out.2.1 _
          case c3 => exact HS2.out.one fun p hp => List.mem_of_mem_drop hp
          case c4 => unfold maxLen; omega
          case c5 => omega
          case c6 => omega
          intro v6 w6 hown6 hgrow6 hnil6
          obtain ⟨g6, c6, rfl, hc6⟩ := not_nil hown6 (by first | exact hnil6 | (intro e; simp at hnil6))
          have HF := hide (show ∃ ls : List Rw, ls.length = j + 1 ∧ Sp w w6 g6 ls (xss.take (j + 1)) by
            have hr6 := newRow (vs := (ls.take 0).map Prod.fst) (c := c') H4.out.1 hg3 H5.out.2.2 (by rw [hnx.out]; first | exact H5.out.1 | (have hh := H5.out.1; rw [← List.map_take] at hh; exact hh)) (fun u hu => by
              obtain ⟨p, hp, rfl⟩ := List.mem_map.1 hu
              obtain ⟨a0, c0, e, _⟩ := HSP.out.2.row p (List.mem_of_mem_take hp)
              exact ⟨_, _, _, e⟩) hgrow6
            rw [HXS.out]
            refine ⟨_, ?_, HS2.out.step (c := c') (by have := HSP.out.1; omega) (Below.grown H5.out.2.1 hgrow6 hs5 (fun k hk => (H5.out.1.lt k hk).1)) (by rw [hnx.out]; first | exact hown6 | (have hh := hown6; rw [List.append_cons, ← List.map_take, ← List.map_drop] at hh; exact hh)) hr6 HD.out⟩
            have := HSP.out.1
            simp
            omega)
          clear hown6 hgrow6 hnil6 H3 H4 H5 HS2 hg3
          go_wp2_with fail
          go_roundw
          case rel => exact ⟨j + 1, by go_num, by omega, g6, c6, by (congr 1; omega), by omega, HF.out⟩
          case measure => simp [intOf]; omega
        · obtain ⟨q, rfl⟩ : ∃ q, k = q + 1 := ⟨k - 1, by omega⟩
          have hq : q < ls.length := by have := HSP.out.1; omega
          obtain ⟨a1, c1, h1, r1⟩ := HSP.out.2.row ls[q] (List.getElem_mem hq)
          have k1 := (HSP.out.2.stays HK.out.1).cell q hq
          have hA := hide (fun p : BelowOf wr => Calls.below_of (p := p) (specOrderRow (p.h) c1 cr (rowVa_below r1 HK.out.1) (rowVa_below HROW.out (below_via H0.out (below_via HSP.out.2.below HK.out.1))) (Nat.le_refl _) (Nat.le_refl _)))
          have hl1 := (HSP.out.2.stays HK.out.1).lt
          have e1 := BelowOf.cell k1 hl1
          have e2 := BelowOf.cell (HCELL.out wr (below_via H0.out (below_via HSP.out.2.below HK.out.1))) (Nat.lt_of_lt_of_le HB0.out (below_via H0.out (below_via HSP.out.2.below HK.out.1)).size)
          rw [h1] at e1
          obtain ⟨r, hr⟩ : ∃ r, Hid (ordR ls[q].2 x = r) := ⟨_, hide rfl⟩
          rw [hr.out, hnx.out] at hA
          rw [hnx.out] at e2
          generalize ls[q].2.length = n1 at hA e1 h1
          have z2 : (q : Int) + 1 ≤ (j : Int) := by omega
          have z3 : (q : Int) < (j : Int) := by omega
          have z4 : (0 : Int) ≤ (q : Int) + 1 := by omega
          have z5 : IntKind.i64.wrap (q : Int) = (q : Int) := IntWalk.i64_in _ (by omega)
          have z6 : IntKind.i64.wrap (((q + 1 : Nat) : Int) - 1) = (q : Int) := by rw [show (((q + 1 : Nat) : Int) - 1) = (q : Int) by omega]; exact z5
          have z7 : (0 : Int) < (q : Int) + 1 := by omega
          clear h1 r1 k1 hl1
          by_cases hpos : 0 < r
          · have hd : decide (0 < r) = true := decide_eq_true hpos
            go_wp2_with fail
            refine wp_region_wq (by kernel_rfl) (by kernel_rfl) ?_
            repeat (refine WQ.step (fun K hK => ?_); go_simp; first | (refine hK _ ?_; clear hK K) | (apply Exists.intro; refine ⟨fun _ => ?_, hK _ ?_⟩; (exact hA.out _); clear hK K))
            refine WQ.nil ?_
            intro W2 hw2
            have HK2 := hide (below_via HK.out.1 (BelowOf.of hw2))
            have HT2 := hide (show ∀ t, q ≤ t → ∀ (ht : t < ls.length), leR x ls[t].2 from fun t h1 ht => by
              by_cases e : t = q
              · subst e
                have h2 := ordR_swap ls[t].2 x
                have h3 := hr.out
                show ordR x ls[t].2 ≤ 0
                omega
              · exact HK.out.2 t (by omega) ht)
            clear hw2 HK e1 e2 hA
            go_wp2_with fail
            go_roundw
            case rel => exact ⟨q, by go_num, by omega, HK2.out, HT2.out⟩
            case measure => simp [intOf]
          · have hd : decide (0 < r) = false := decide_eq_false hpos
            have HD := hide (show (((ls.map Prod.snd).take (q + 1)) ++ x :: ((ls.map Prod.snd).drop (q + 1))).Pairwise leR from ins_sorted HSP.out.2.asc (q + 1) (by simp; omega) x (.inr ⟨q, rfl, by simpa using hq, by have h3 := hr.out; simp only [List.getElem_map]; show ordR ls[q].2 x ≤ 0; omega⟩) fun t h1 ht => by simpa using HK.out.2 t h1 (by simpa using ht))
            go_wp2_with fail
            refine wp_region_wq (by kernel_rfl) (by kernel_rfl) ?_
            repeat (refine WQ.step (fun K hK => ?_); go_simp; first | (refine hK _ ?_; clear hK K) | (apply Exists.intro; refine ⟨fun _ => ?_, hK _ ?_⟩; (exact hA.out _); clear hK K))
            refine WQ.nil ?_
            intro W2 hw2
            have HK2 := hide (below_via HK.out.1 (BelowOf.of hw2))
            clear hw2 HK e1 e2 hA
            have HS2 := hide (HSP.out.2.stays HK2.out)
            have hown0 := World.ownsRow_made (base := W2.heap.size) (size := 1) (e := 31) W2 #[] 0 (Nat.le_refl _) (by decide) rfl
            go_wp2_with (first | (at_builtin; refine wpList_append_own _ rfl _ _ 37 rfl W2.heap.size 31 i0 (.slice none 0 0) 1 24 Try.underlying37 HI.out.1 HI.out.2.1 HI.out.2.2.1 HI.out.2.2.2 rfl (by decide) _ _ _ rfl hown0 ⟨g, 0, none⟩ (q + 1) _ ((ls.take (q + 1)).map Prod.fst) rfl ?c1 ?c2 ?c3 ?c4 ?c5 ?c6 ?_))
            case c1 => have := HSP.out.1; simp <;> omega
            case c2 => exact HS2.out.first ((Below.refl W2.heap.size W2).alloc (Nat.le_refl _) _) _
            case c3 => exact HS2.out.one fun p hp => List.mem_of_mem_take hp
            case c4 => unfold maxLen; omega
            case c5 => omega
            case c6 => simp
            intro v3 w3 hown3 hgrow3 hnil3
            have hb3 := Below.grown ((Below.refl W2.heap.size W2).alloc (Nat.le_refl _) (.cells #[] 31)) hgrow3 (by simp) (fun k hk => (hown0.lt k hk).1)
            obtain ⟨g3, c3, rfl, _⟩ := not_nil hown3 (by first | exact hnil3 | (intro e; simp at hnil3))
            have H3 := hide (And.intro hown3 hb3)
            have hC := hide (rowFiveC (w := w3) (below_via (below_via H0.out HS2.out.below) hb3) cr HROW.out)
            have k3 := HCELL.out w3 (below_via (below_via H0.out HS2.out.below) hb3)
            rw [hnx.out] at hC k3
            clear hown0 hown3 hgrow3 hnil3 hb3
            go_wp2_with fail
            refine hC.out.mono ?_
            rintro e w4 ⟨a', c', rfl, hr4, hb4⟩
            have hown4 := H3.out.1.kept (grow_of_below hb4 none) (by simp [Value.ownBlock])
            have H4 := hide (And.intro hr4 (And.intro hb4 (below_via H3.out.2 hb4)))
            have hs4 := (below_via H3.out.2 hb4).size
            clear hr4 hb4 hC k3
            go_wp2_with (first | (at_builtin; refine wpList_append_own _ rfl _ _ 37 rfl W2.heap.size 31 i0 (.slice none 0 0) 1 24 Try.underlying37 HI.out.1 HI.out.2.1 HI.out.2.2.1 HI.out.2.2.2 rfl (by decide) _ _ _ rfl (hown4.alloc _) ⟨w4.heap.size, 0, none⟩ 1 1 [.slice a' nx c'] rfl rfl ?c1 ?c2 ?c3 ?c4 ?c5 ?_))
            case c1 =>
              intro j u hj
              match j, hj with
              | 0, hj => simp at hj; subst hj; simp [Addr.add, go_sem]
            case c2 => intro u hu; simp at hu; subst hu; rfl
            case c3 => unfold maxLen; omega
            case c4 => omega
            case c5 => simp; omega
            intro v5 w5 hown5 hgrow5 hnil5
            have hb5 := Below.grown (H4.out.2.2.alloc hs4 _) hgrow5 (Nat.le_trans hs4 (by simp)) (fun k hk => (hown4.lt k hk).1)
            obtain ⟨g5, c5, rfl, _⟩ := not_nil hown5 (by first | exact hnil5 | (intro e; simp at hnil5))
            have H5 := hide (And.intro hown5 (And.intro hb5 hgrow5))
            have hs5 := hb5.size
            have hg3 := (H3.out.1.lt g3 rfl).2
            clear hown4 hown5 hgrow5 hnil5 hb5
            by_cases hcc : cc = q + 1
            · go_wp2_with (first | (at_builtin; refine wpList_append_own _ rfl _ _ 37 rfl W2.heap.size 31 i0 (.slice none 0 0) 1 24 Try.underlying37 HI.out.1 HI.out.2.1 HI.out.2.2.1 HI.out.2.2.2 rfl (by decide) _ _ _ rfl H5.out.1 ⟨g, 0, none⟩ (j - (q + 1)) _ ((ls.drop (q + 1)).map Prod.fst) rfl ?c1 ?c2 ?c3 ?c4 ?c5 ?c6 ?_))
              case c1 => have := HSP.out.1; simp <;> omega
              case c2 => intro i u hu; rw [List.drop_eq_nil_of_le (by have := HSP.out.1; omega)] at hu; cases hu
              case c3 => exact HS2.out.one fun p hp => List.mem_of_mem_drop hp
              case c4 => unfold maxLen; omega
              case c5 => omega
              case c6 => omega
              intro v6 w6 hown6 hgrow6 hnil6
              obtain ⟨g6, c6, rfl, hc6⟩ := not_nil hown6 (by first | exact hnil6 | (intro e; simp at hnil6))
              have HF := hide (show ∃ ls : List Rw, ls.length = j + 1 ∧ Sp w w6 g6 ls (xss.take (j + 1)) by
                have hr6 := newRow (vs := (ls.take (q + 1)).map Prod.fst) (c := c') H4.out.1 hg3 H5.out.2.2 (by rw [hnx.out]; first | exact H5.out.1 | (have hh := H5.out.1; rw [← List.map_take] at hh; exact hh)) (fun u hu => by
                  obtain ⟨p, hp, rfl⟩ := List.mem_map.1 hu
                  obtain ⟨a0, c0, e, _⟩ := HSP.out.2.row p (List.mem_of_mem_take hp)
                  exact ⟨_, _, _, e⟩) hgrow6
                rw [HXS.out]
                refine ⟨_, ?_, HS2.out.step (c := c') (by have := HSP.out.1; omega) (Below.grown H5.out.2.1 hgrow6 hs5 (fun k hk => (H5.out.1.lt k hk).1)) (by rw [hnx.out]; first | exact hown6 | (have hh := hown6; rw [List.append_cons, ← List.map_take, ← List.map_drop] at hh; exact hh)) hr6 HD.out⟩
                have := HSP.out.1
                simp
                omega)
              clear hown6 hgrow6 hnil6 H3 H4 H5 HS2 hg3
              go_wp2_with fail
              go_roundw
              case rel => exact ⟨j + 1, by go_num, by omega, g6, c6, by (congr 1; omega), by omega, HF.out⟩
              case measure => simp [intOf]; omega
            · go_wp2_with (first | (at_builtin; refine wpList_append_own _ rfl _ _ 37 rfl W2.heap.size 31 i0 (.slice none 0 0) 1 24 Try.underlying37 HI.out.1 HI.out.2.1 HI.out.2.2.1 HI.out.2.2.2 rfl (by decide) _ _ _ rfl H5.out.1 ⟨g, (q + 1), none⟩ (j - (q + 1)) _ ((ls.drop (q + 1)).map Prod.fst) rfl ?c1 ?c2 ?c3 ?c4 ?c5 ?c6 ?_))
              case c1 => have := HSP.out.1; simp <;> omega
              case c2 => exact HS2.out.part H5.out.2.1 _
              case c3 => exact HS2.out.one fun p hp => List.mem_of_mem_drop hp
              case c4 => unfold maxLen; omega
              case c5 => omega
              case c6 => omega
              intro v6 w6 hown6 hgrow6 hnil6
              obtain ⟨g6, c6, rfl, hc6⟩ := not_nil hown6 (by first | exact hnil6 | (intro e; simp at hnil6))
              have HF := hide (show ∃ ls : List Rw, ls.length = j + 1 ∧ Sp w w6 g6 ls (xss.take (j + 1)) by
                have hr6 := newRow (vs := (ls.take (q + 1)).map Prod.fst) (c := c') H4.out.1 hg3 H5.out.2.2 (by rw [hnx.out]; first | exact H5.out.1 | (have hh := H5.out.1; rw [← List.map_take] at hh; exact hh)) (fun u hu => by
                  obtain ⟨p, hp, rfl⟩ := List.mem_map.1 hu
                  obtain ⟨a0, c0, e, _⟩ := HSP.out.2.row p (List.mem_of_mem_take hp)
                  exact ⟨_, _, _, e⟩) hgrow6
                rw [HXS.out]
                refine ⟨_, ?_, HS2.out.step (c := c') (by have := HSP.out.1; omega) (Below.grown H5.out.2.1 hgrow6 hs5 (fun k hk => (H5.out.1.lt k hk).1)) (by rw [hnx.out]; first | exact hown6 | (have hh := hown6; rw [List.append_cons, ← List.map_take, ← List.map_drop] at hh; exact hh)) hr6 HD.out⟩
                have := HSP.out.1
                simp
                omega)
              clear hown6 hgrow6 hnil6 H3 H4 H5 HS2 hg3
              go_wp2_with fail
              go_roundw
              case rel => exact ⟨j + 1, by go_num, by omega, g6, c6, by (congr 1; omega), by omega, HF.out⟩
              case measure => simp [intOf]; omega
    · have hlt2 : ¬ (j : Int) < m := by omega
      have hjm : j = m := by omega
      go_wp2_with fail
      go_ret
      obtain ⟨ls, hls, hsp⟩ := HP.out
      rw [List.take_of_length_le (by have := hm.out; omega)] at hsp
      first | exact ⟨g, ⟨cc, by rw [hjm]; rfl⟩, ls, hsp⟩ | exact ⟨g, ⟨cc, by rw [← hjm]; rfl⟩, ls, hsp⟩ | exact ⟨g, cc, ls, by rw [hjm]; rfl, hsp⟩
end Go.Proofs.Ytfikgiekigbaoaa
