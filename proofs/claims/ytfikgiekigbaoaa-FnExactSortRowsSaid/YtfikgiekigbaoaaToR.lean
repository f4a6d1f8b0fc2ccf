/-
  toValueS, toValueSS: the copies may be written, and lie apart.
-/
import Derived.Test.YtfikgiekigbaoaaFlTo
import Derived.Test.YtfikgiekigbaoaaSrtN
import Derived.Test.YtfikgiekigbaoaaRwR
namespace Go.Proofs.Ytfikgiekigbaoaa
open Go Go.RowKit

def ToVaUP (w : World) (n : Nat) (xs : List (ValF)) (e : Ending) (w' : World) : Prop := ∃ (a : Option Addr) (c : Nat), e = .returned (.slice a xs.length c) ∧ RowU w' w.heap.size xs a ∧ Below w.heap.size w w'
set_option maxRecDepth 100000 in
set_option maxHeartbeats 1600000 in
theorem toValueSUC {n : Nat} (IH : ToVa n) {w0 w : World} (h00 : Below w0.heap.size w0 w) {lo : Nat} {xs : List (ValF)} {a : Option Addr} (c : Nat) (h : RowP w0 lo 1048576 3 (vaC 1048576) xs a) :
    Calls Try.prog 14 #[.slice a xs.length c] w (ToVaUP w n xs) := by
  obtain ⟨hlen, hrow⟩ := h
  have HI := hide IH
  clear IH
  have HLM := hide hlen
  obtain ⟨m, hm⟩ : ∃ m, Hid (xs.length = m) := ⟨_, rfl⟩
  rw [hm.out] at hlen ⊢
  have hlen2 : m ≤ 1048576 := by omega
  have HM := hide (Nat.le_refl 1048576)
  have H0 := hide h00
  have HROW := hide hrow
  clear h00 hlen hrow
  obtain ⟨i0, hi, hz0, hz1, hz2⟩ := info_parts Try.infoVa
  obtain ⟨wm, hmk, hown, hgr⟩ := run_make_full (P := Try.prog) w w.heap.size 31 57 i0 _ 3 Try.underlying31 hi hz0 hz1 .i64 .i64 m (by rw [hz2]; omega) (by unfold maxLen; omega) (Nat.le_refl _)
  have HRM := hide (And.intro (Room.of_owns hown (by rw [Array.length_toList, size_madeCells])) ((Below.refl w.heap.size w).grown hgr (Nat.le_refl _) (fun k hk => by cases hk)))
  clear hown hgr hi hz0 hz1 hz2 i0
  obtain ⟨g, hg⟩ : ∃ g, Hid (g = w.heap.size) := ⟨_, rfl⟩
  rw [← hg.out] at hmk HRM
  go_enter Try.func14, Try.ntmps14
  go_wp2_with fail
  clear hmk
  go_loopw [4] (fun x wr => ∃ (j : Nat), x = .int .i64 j ∧ j ≤ m ∧ Hid (Room wr g (m * 3) ∧ (∀ i (h : i < xs.length), i < j → ∃ cs, (vaC 1048576) xs[i] cs ∧ cellsAt wr g (i * 3) cs) ∧ Below w.heap.size w wr)) (fun x _ => m - (intOf x).toNat)
  case atStart => exact ⟨0, rfl, by omega, HRM.out.1, (fun i _ hi => absurd hi (by omega)), by rw [← hg.out]; exact HRM.out.2⟩
  case round =>
    obtain ⟨j, rfl, hj, HJ⟩ := hrel
    by_cases hlt : j < m
    · have hlt2 : (j : Int) < m := by omega
      have hjx : j < xs.length := by have := hm.out; omega
      obtain ⟨b, o, rfl, hlo, hb, hel⟩ := HROW.out (by omega)
      obtain ⟨cs, ⟨rfl, hx⟩, hat⟩ := hel j hjx
      obtain ⟨c0, c1, c2⟩ := va_at (hat.same ((below_via H0.out HJ.out.2.2).block b hb))
      have HX := hide hx
      clear hx hat hel hlo hb
      generalize hxe : xs[j] = x at HX c0 c1 c2
      have HXE := hide hxe
      clear hxe
      go_wp2_with fail
      refine (HI.out w0 _ lo 1048576 x  (below_via H0.out HJ.out.2.2) HX.out HM.out).mono ?_
      rintro e w2 ⟨rfl, hx2, hb2⟩
      have hr2 := HJ.out.1.below hb2
      have HX2 := hide (And.intro hx2 (And.intro hb2 (And.intro hr2 (below_via HJ.out.2.2 hb2))))
      clear hx2 hb2 c0 c1 c2
      have hfr := hr2.free
      obtain ⟨u0, hu0⟩ := hr2.has (j * 3) (by omega)
      obtain ⟨u1, hu1⟩ := hr2.has (j * 3 + 1) (by omega)
      obtain ⟨u2, hu2⟩ := hr2.has (j * 3 + 2) (by omega)
      clear hr2
      go_wp2_with fail
      go_roundw
      case rel =>
        refine ⟨j + 1, by go_num, by omega, ?_⟩
        have hK : ∀ W, W = w2.setCells g (j * 3) [.int .i64 x.kind, .int .i64 x.num, .string x.text] → Room W g (m * 3) ∧ (∀ i (h : i < xs.length), i < j + 1 → ∃ cs, (vaC 1048576) xs[i] cs ∧ cellsAt W g (i * 3) cs) ∧ Below w.heap.size w W := by
          rintro W rfl
          have hgs : w.heap.size ≤ g := Nat.le_of_eq hg.out.symm
          have hwr : g + 1 ≤ wr.heap.size := HJ.out.1.lt
          refine ⟨HX2.out.2.2.1.sets _ _, fun i hi hij => ?_, below_sets HX2.out.2.2.2 hgs _ _⟩
          by_cases hij2 : i = j
          · subst hij2
            rw [HXE.out]
            refine ⟨_, ⟨rfl, ?_⟩, HX2.out.2.2.1.at_in (i * 3) [.int .i64 x.kind, .int .i64 x.num, .string x.text] (by simp; omega)⟩
            have hk := (Keeps.refl wr.heap.size w2).sets (show g < wr.heap.size by omega) (i * 3) [.int .i64 x.kind, .int .i64 x.num, .string x.text]
            have hx2 := HX2.out.1
            exact hx2
          · obtain ⟨cs, ⟨rfl, hy⟩, hat⟩ := HJ.out.2.1 i hi (by omega)
            refine ⟨_, ⟨rfl, ?_⟩, (hat.same (HX2.out.2.1.block g HJ.out.1.lt)).apart _ _ (by simp; omega)⟩
            have hk : Keeps (g + 1) wr (w2.setCells g (j * 3) [.int .i64 x.kind, .int .i64 x.num, .string x.text]) := (Keeps.of HX2.out.2.1).sets (by omega) _ _
            have hx2 := hy
            exact hx2
        exact hK _ rfl
      case measure => simp [intOf]; omega
    · have hlt2 : ¬ (j : Int) < m := by omega
      obtain rfl : j = m := by omega
      go_wp2_with fail
      go_ret
      refine ⟨some ⟨g, 0, none⟩, j, by rw [hm.out]; rfl, ⟨⟨HLM.out, fun _ => ⟨g, 0, rfl, Nat.le_of_eq hg.out.symm, HJ.out.1.lt, fun i hi => ?_⟩⟩, (fun b o e => by injection e with e; injection e with _ e _; exact e.symm), fun b e _ => by injection e with e; injection e with e _ _; subst e; rw [hm.out]; exact ⟨Nat.le_of_eq hg.out.symm, HJ.out.1⟩⟩, HJ.out.2.2⟩
      obtain ⟨cs, ⟨rfl, hx2⟩, hat⟩ := HJ.out.2.1 i hi (by have := hm.out; omega)
      have hk := Keeps.refl (g + 1) wr
      refine ⟨_, ⟨rfl, ?_⟩, by rw [Nat.zero_add]; exact hat⟩
      have hge : w.heap.size ≤ g + 1 := by have := hg.out; omega
      exact hx2


theorem Try.infoSs : (Try.prog.info? 31).map (fun i => (i.zero, i.size, i.bytes)) = some (some (.slice none 0 0), 1, 24) := by kernel_rfl

/-- What toValueSS has laid so far. -/
structure TsU (W0 w : World) (g m : Nat) (ps : Array Rw) (xss : List (List ValF)) : Prop where
  same : ps.toList.map Prod.snd = xss
  room : Room w g m
  low : W0.heap.size ≤ g
  cell : ∀ i, i < ps.size → w.cell? ⟨g, i, none⟩ = some (atR ps i).1
  row : ∀ i, i < ps.size → RvN w g (atR ps i)
  zero : ∀ p ∈ ps.toList, ∀ b o c n, p.1 = .slice (some ⟨b, o, none⟩) n c → o = 0
  rows : ∀ p ∈ ps.toList, RowM w W0.heap.size p
  apart : ps.toList.Pairwise Apt
  below : Below W0.heap.size W0 w

theorem TsU.own {W0 w : World} {g m : Nat} {ps : Array Rw} {xss : List (List ValF)} (h : TsU W0 w g m ps xss) (hl : ps.size ≤ 1048576) : Own w W0.heap.size g ps :=
  ⟨⟨h.room.lt, h.cell, h.room.free, h.row⟩, h.zero, h.rows, h.apart, hl, h.low⟩

theorem TsU.step {W0 wr w2 : World} {g m : Nat} {ps : Array Rw} {xss : List (List ValF)} {xs : List ValF} {a : Option Addr} {c : Nat} (h : TsU W0 wr g m ps xss) (hj : ps.size < m) (h2 : Below wr.heap.size wr w2) (hr : RowU w2 wr.heap.size xs a) :
    TsU W0 (w2.setCell ⟨g, ps.size, none⟩ (.slice a xs.length c)) g m (ps.push (.slice a xs.length c, xs)) (xss ++ [xs]) := by
  obtain ⟨w3, hw3⟩ : ∃ w3, w3 = w2.setCell ⟨g, ps.size, none⟩ (.slice a xs.length c) := ⟨_, rfl⟩
  have hsz : w3.heap.size = w2.heap.size := by rw [hw3]; simp [World.setCell]
  have hbl : ∀ b, b ≠ g → w3.heap[b]? = w2.heap[b]? := fun b hb => by rw [hw3]; exact Below.heap_setCell w2 ⟨g, ps.size, none⟩ _ b hb
  have hs2 : wr.heap.size ≤ w2.heap.size := h2.size
  have hgl := h.room.lt
  have hW : W0.heap.size ≤ wr.heap.size := h.below.size
  have hroom : Room w3 g m := by rw [hw3]; exact (h.room.below h2).set _ _
  have hB3 : Below W0.heap.size W0 w3 := by rw [hw3]; exact (below_via h.below h2).setCell h.low _
  have hat : ∀ i, i < ps.size → atR (ps.push (.slice a xs.length c, xs)) i = atR ps i := fun i hi => by
    rw [atR_get _ _ (by simp; omega), atR_get _ _ hi, Array.getElem_push_lt]
  have hlast : atR (ps.push (.slice a xs.length c, xs)) ps.size = (.slice a xs.length c, xs) := by
    rw [atR_get _ _ (by simp), Array.getElem_push_eq]
  have hold : ∀ p ∈ ps.toList, RowM w3 W0.heap.size p := fun p hp => by
    obtain ⟨i, hi, rfl⟩ := mem_atR hp
    exact (h.rows _ hp).stays (h.row i hi) (by omega) fun b hne hb => by rw [hbl b hne, h2.block b hb]
  have hnew : RowM w3 W0.heap.size (.slice a xs.length c, xs) := fun b n c' e hp => by
    have e : Value.slice a xs.length c = .slice (some ⟨b, 0, none⟩) n c' := e
    injection e with e _ _
    obtain ⟨h3, h4⟩ := hr.room b e hp
    exact ⟨by omega, h4.stays (by omega) (hbl b (by omega))⟩
  rw [← hw3]
  refine ⟨by simp [h.same], hroom, h.low, fun i hi => ?_, fun i hi => ?_, fun p hp b o c' n e => ?_, fun p hp => ?_, ?_, hB3⟩
  · rw [Array.size_push] at hi
    by_cases hlt : i < ps.size
    · rw [hat i hlt, hw3, World.cell?_setCell_other _ _ _ _ (by intro e; injection e with _ e2 _; omega), h2.cell (p := ⟨g, i, none⟩) hgl]
      exact h.cell i hlt
    · have : i = ps.size := by omega
      subst this
      obtain ⟨u, hu⟩ := (h.room.below h2).has ps.size hj
      rw [hlast, hw3, World.cell?_setCell_same _ _ _ hu]
  · rw [Array.size_push] at hi
    by_cases hlt : i < ps.size
    · rw [hat i hlt]
      exact (h.row i hlt).stays (by omega) fun b hne hb => by rw [hbl b hne, h2.block b hb]
    · have : i = ps.size := by omega
      subst this
      rw [hlast]
      have hne : ∀ b o, a = some ⟨b, o, none⟩ → 0 < xs.length → b ≠ g := fun b o e hp => by
        have h0 := hr.zero b o e
        subst h0
        have := (hr.room b e hp).1
        omega
      refine ⟨a, c, rfl, ⟨hr.row.1, fun hp => ?_⟩, hne⟩
      obtain ⟨b, o, e, h3, h4, h5⟩ := hr.row.2 hp
      exact ⟨b, o, e, Nat.zero_le _, by omega, fun i hi => let ⟨cs, hc, hat⟩ := h5 i hi; ⟨cs, hc, hat.same (hbl b (hne b o e hp))⟩⟩
  · rw [Array.toList_push] at hp
    rcases List.mem_append.1 hp with hp | hp
    · exact h.zero p hp b o c' n e
    · simp at hp; subst hp
      have e : Value.slice a xs.length c = .slice (some ⟨b, o, none⟩) n c' := e
      injection e with e _ _
      exact hr.zero b o e
  · rw [Array.toList_push] at hp
    rcases List.mem_append.1 hp with hp | hp
    · exact hold p hp
    · simp at hp; subst hp; exact hnew
  · rw [Array.toList_push, List.pairwise_append]
    refine ⟨h.apart, by simp, fun p hp q hq => ?_⟩
    simp at hq
    subst hq
    intro b n c' n' c2 e1 e2 k1 k2
    have e2 : Value.slice a xs.length c = .slice (some ⟨b, 0, none⟩) n' c2 := e2
    injection e2 with e2 _ _
    have h5 := (h.rows p hp b n c' e1 k1).2.lt
    have h6 := (hr.room b e2 k2).1
    omega

set_option maxRecDepth 100000 in
set_option maxHeartbeats 1600000 in
theorem toValueSSC {w0 w : World} (h00 : Below w0.heap.size w0 w) {xss : List (List ValF)} {a : Option Addr} (c : Nat) (h : RowP w0 0 1048576 1 (rvC w0 1048576) xss a) :
    Calls Try.prog 19 #[.slice a xss.length c] w (fun e w' => ∃ g c' ps, e = .returned (.slice (some ⟨g, 0, none⟩) ps.size c') ∧ ps.toList.map Prod.snd = xss ∧ Own w' w.heap.size g ps ∧ Below w.heap.size w w') := by
  obtain ⟨hlen, hrow⟩ := h
  obtain ⟨m, hm⟩ : ∃ m, Hid (xss.length = m) := ⟨_, rfl⟩
  rw [hm.out] at hlen ⊢
  have H0 := hide h00
  have HROW := hide hrow
  clear h00 hrow
  obtain ⟨i0, hi, hz0, hz1, hz2⟩ := info_parts Try.infoSs
  obtain ⟨wm, hmk, hown, hgr⟩ := run_make_full (P := Try.prog) w w.heap.size 37 31 i0 _ 1 Try.underlying37 hi hz0 hz1 .i64 .i64 m (by rw [hz2]; omega) (by unfold maxLen; omega) (Nat.le_refl _)
  have HRM := hide (And.intro (Room.of_owns hown (by rw [Array.length_toList, size_madeCells])) ((Below.refl w.heap.size w).grown hgr (Nat.le_refl _) (fun k hk => by cases hk)))
  clear hown hgr hi hz0 hz1 hz2 i0
  obtain ⟨g, hg⟩ : ∃ g, Hid (g = w.heap.size) := ⟨_, rfl⟩
  rw [← hg.out] at hmk HRM
  go_enter Try.func19, Try.ntmps19
  go_wp2_with fail
  clear hmk
  go_loopw [4] (fun x wr => ∃ (j : Nat), x = .int .i64 j ∧ j ≤ m ∧ Hid (∃ ps : Array Rw, ps.size = j ∧ TsU w wr g m ps (xss.take j))) (fun x _ => m - (intOf x).toNat)
  case atStart => exact ⟨0, rfl, by omega, #[], rfl, by simp, by have := HRM.out.1; rwa [Nat.mul_one] at this, Nat.le_of_eq hg.out.symm, (fun i hi => absurd hi (by simp)), (fun i hi => absurd hi (by simp)), (fun p hp => by cases hp), (fun p hp => by cases hp), List.Pairwise.nil, by rw [← hg.out]; exact HRM.out.2⟩
  case round =>
    obtain ⟨j, rfl, hj, HJ⟩ := hrel
    clear HRM
    by_cases hlt : j < m
    · have hlt2 : (j : Int) < m := by omega
      have hjx : j < xss.length := by have := hm.out; omega
      obtain ⟨ps, hps, hts⟩ := HJ.out
      clear HJ
      obtain ⟨b, o, rfl, _, hb, hel⟩ := HROW.out (by omega)
      obtain ⟨cs, ⟨ar, cr, rfl, hrow⟩, hat⟩ := hel j hjx
      have H0B := below_via H0.out hts.below
      have k0 := (hat.same (H0B.block b hb)) 0 (by simp)
      simp only [List.getElem_cons_zero, Nat.add_zero, Nat.mul_one] at k0
      have hC := hide (toValueSUC (toValueC 0) H0B cr hrow)
      have HXS := hide (show xss.take (j + 1) = xss.take j ++ [xss[j]] by rw [List.take_succ_eq_append_getElem hjx])
      have HTS := hide (And.intro hps hts)
      obtain ⟨xs, hxs⟩ : ∃ xs, xss[j] = xs := ⟨_, rfl⟩
      rw [hxs] at hC k0 HXS
      obtain ⟨k, hk⟩ : ∃ k, Hid (xs.length = k) := ⟨_, rfl⟩
      rw [hk.out] at hC k0
      clear hat hel hb hrow H0B hxs hps hts
      go_wp2_with fail
      refine hC.out.mono ?_
      rintro e w2 ⟨a', c', rfl, hr, hb2⟩
      rw [hk.out]
      have hrm := HTS.out.2.room.below hb2
      have HR := hide (And.intro hr hb2)
      have hfr := hrm.free j
      obtain ⟨u0, hu0⟩ := hrm.has j hlt
      clear hr hb2 hC k0 hrm
      go_wp2_with fail
      go_roundw
      case rel =>
        refine ⟨j + 1, by go_num, by omega, ?_⟩
        have hst := HTS.out.2.step (c := c') (by rw [HTS.out.1]; exact hlt) HR.out.2 HR.out.1
        rw [HTS.out.1, hk.out] at hst
        refine ⟨_, ?_, by rw [HXS.out]; exact hst⟩
        rw [Array.size_push, HTS.out.1]
      case measure => simp [intOf]; omega
    · have hlt2 : ¬ (j : Int) < m := by omega
      obtain rfl : j = m := by omega
      go_wp2_with fail
      go_ret
      obtain ⟨ps, hps, hts⟩ := HJ.out
      rw [List.take_of_length_le (by have := hm.out; omega)] at hts
      exact ⟨g, j, ps, by rw [hps]; rfl, hts.same, hts.own (by omega), hts.below⟩
end Go.Proofs.Ytfikgiekigbaoaa
