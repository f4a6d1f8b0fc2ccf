/-
  toStmt and what it calls: the laws' copies.
-/
import Derived.Test.YtfpoakdmclekoaaTos
import Derived.Test.YtfpoakdmclekoaaStm
namespace Go.Proofs.Ytfpoakdmclekoaa
open Go.RowKit

theorem Try.infoRe : (Try.prog.info? 31).map (fun i => (i.zero, i.size, i.bytes)) = some (some (.slice none 0 0), 1, 24) := by kernel_rfl
theorem Try.infoSg : (Try.prog.info? 9).map (fun i => (i.zero, i.size, i.bytes)) = some (some (.string ⟨#[]⟩), 1, 16) := by kernel_rfl
def ToRe (n : Nat) : Prop := ∀ (w0 w : World) (lo M : Nat) (x : List Ex) (oa : Option Addr) (oc : Nat), Below w0.heap.size w0 w → RowP w0 lo M 10 (exC (ExB w0 lo M n)) x oa → M ≤ 1048576 →
  Calls Try.prog 38 #[.slice oa x.length oc] w (ToExSP w M n x)
theorem toReC {n : Nat} (IH : ToEx n) : ToRe n := fun _ _ _ _ _ _ oc h00 h hM => toExprSC IH h00 oc h hM

def ToReSP (w : World) (M n : Nat) (xs : List (List Ex)) (e : Ending) (w' : World) : Prop := ∃ (a : Option Addr) (c : Nat), e = .returned (.slice a xs.length c) ∧ RowP w' w.heap.size M 1 (reC w' w.heap.size M (ExB w' w.heap.size M n)) xs a ∧ Below w.heap.size w w'
set_option maxRecDepth 100000 in
set_option maxHeartbeats 1600000 in
theorem toExprSSC {n : Nat} (IH : ToRe n) {w0 w : World} (h00 : Below w0.heap.size w0 w) {lo M : Nat} {xs : List (List Ex)} {a : Option Addr} (c : Nat) (h : RowP w0 lo M 1 (reC w0 lo M (ExB w0 lo M n)) xs a) (hM : M ≤ 1048576) :
    Calls Try.prog 65 #[.slice a xs.length c] w (ToReSP w M n xs) := by
  obtain ⟨hlen, hrow⟩ := h
  have HI := hide IH
  clear IH
  have HLM := hide hlen
  obtain ⟨m, hm⟩ : ∃ m, Hid (xs.length = m) := ⟨_, rfl⟩
  rw [hm.out] at hlen ⊢
  have hlen2 : m ≤ 1048576 := by omega
  have HM := hide hM
  have H0 := hide h00
  have HROW := hide hrow
  clear h00 hlen hM hrow
  obtain ⟨i0, hi, hz0, hz1, hz2⟩ := info_parts Try.infoRe
  obtain ⟨wm, hmk, hown, hgr⟩ := run_make_full (P := Try.prog) w w.heap.size 62 31 i0 _ 1 Try.underlying62 hi hz0 hz1 .i64 .i64 m (by rw [hz2]; omega) (by unfold maxLen; omega) (Nat.le_refl _)
  have HRM := hide (And.intro (by have h9 := Room.of_owns hown (by rw [Array.length_toList, size_madeCells]); rwa [Nat.mul_one] at h9) ((Below.refl w.heap.size w).grown hgr (Nat.le_refl _) (fun k hk => by cases hk)))
  clear hown hgr hi hz0 hz1 hz2 i0
  obtain ⟨g, hg⟩ : ∃ g, Hid (g = w.heap.size) := ⟨_, rfl⟩
  rw [← hg.out] at hmk HRM
  go_enter Try.func65, Try.ntmps65
  go_wp2_with fail
  clear hmk
  go_loopw [4] (fun x wr => ∃ (j : Nat), x = .int .i64 j ∧ j ≤ m ∧ Hid (Room wr g (m) ∧ (∀ i (h : i < xs.length), i < j → ∃ cs, (reC wr (g + 1) M (ExB wr (g + 1) M n)) xs[i] cs ∧ cellsAt wr g (i) cs) ∧ Below w.heap.size w wr)) (fun x _ => m - (intOf x).toNat)
  case atStart => exact ⟨0, rfl, by omega, HRM.out.1, (fun i _ hi => absurd hi (by omega)), by rw [← hg.out]; exact HRM.out.2⟩
  case round =>
    obtain ⟨j, rfl, hj, HJ⟩ := hrel
    by_cases hlt : j < m
    · have hlt2 : (j : Int) < m := by omega
      have hjx : j < xs.length := by have := hm.out; omega
      obtain ⟨b, o, rfl, hlo, hb, hel⟩ := HROW.out (by omega)
      obtain ⟨cs, ⟨oa, oc, rfl, hx⟩, hat⟩ := hel j hjx
      have c0 := re_at (hat.same ((below_via H0.out HJ.out.2.2).block b hb))
      simp only [Nat.mul_one] at c0
      have HX := hide hx
      clear hx hat hel hlo hb
      generalize hxe : xs[j] = x at HX c0
      have HXE := hide hxe
      clear hxe
      go_wp2_with fail
      refine (HI.out w0 _ lo M x oa oc (below_via H0.out HJ.out.2.2) HX.out HM.out).mono ?_
      rintro e w2 ⟨oa', oc', rfl, hx2, hb2⟩
      have hr2 := HJ.out.1.below hb2
      have HX2 := hide (And.intro hx2 (And.intro hb2 (And.intro hr2 (below_via HJ.out.2.2 hb2))))
      clear hx2 hb2 c0
      have hfr := hr2.free
      obtain ⟨u0, hu0⟩ := hr2.has (j) (by omega)
      clear hr2
      go_wp2_with fail
      go_roundw
      case rel =>
        refine ⟨j + 1, by go_num, by omega, ?_⟩
        have hK : ∀ W, W = w2.setCells g (j) [.slice oa' x.length oc'] → Room W g (m) ∧ (∀ i (h : i < xs.length), i < j + 1 → ∃ cs, (reC W (g + 1) M (ExB W (g + 1) M n)) xs[i] cs ∧ cellsAt W g (i) cs) ∧ Below w.heap.size w W := by
          rintro W rfl
          have hgs : w.heap.size ≤ g := Nat.le_of_eq hg.out.symm
          have hwr : g + 1 ≤ wr.heap.size := HJ.out.1.lt
          refine ⟨HX2.out.2.2.1.sets _ _, fun i hi hij => ?_, below_sets HX2.out.2.2.2 hgs _ _⟩
          by_cases hij2 : i = j
          · subst hij2
            rw [HXE.out]
            refine ⟨_, ⟨oa', oc', rfl, ?_⟩, HX2.out.2.2.1.at_in (i) [.slice oa' x.length oc'] (by simp; omega)⟩
            have hk := (Keeps.refl wr.heap.size w2).sets (show g < wr.heap.size by omega) (i) [.slice oa' x.length oc']
            have hx2 := HX2.out.1
            exact rowEx_keeps hx2 hk (by omega)
          · obtain ⟨cs, ⟨oa3, oc3, rfl, hy⟩, hat⟩ := HJ.out.2.1 i hi (by omega)
            refine ⟨_, ⟨oa3, oc3, rfl, ?_⟩, (hat.same (HX2.out.2.1.block g HJ.out.1.lt)).apart _ _ (by simp; omega)⟩
            have hk : Keeps (g + 1) wr (w2.setCells g (j) [.slice oa' x.length oc']) := (Keeps.of HX2.out.2.1).sets (by omega) _ _
            have hx2 := hy
            exact rowEx_keeps hx2 hk (Nat.le_refl _)
        exact hK _ rfl
      case measure => simp [intOf]; omega
    · have hlt2 : ¬ (j : Int) < m := by omega
      obtain rfl : j = m := by omega
      go_wp2_with fail
      go_ret
      refine ⟨some ⟨g, 0, none⟩, j, by rw [hm.out]; rfl, ⟨HLM.out, fun _ => ⟨g, 0, rfl, Nat.le_of_eq hg.out.symm, HJ.out.1.lt, fun i hi => ?_⟩⟩, HJ.out.2.2⟩
      obtain ⟨cs, ⟨oa, oc, rfl, hx2⟩, hat⟩ := HJ.out.2.1 i hi (by have := hm.out; omega)
      have hk := Keeps.refl (g + 1) wr
      refine ⟨_, ⟨oa, oc, rfl, ?_⟩, by rw [Nat.zero_add, Nat.mul_one]; exact hat⟩
      have hge : w.heap.size ≤ g + 1 := by have := hg.out; omega
      exact rowEx_keeps hx2 hk hge

def ToSgSP (w : World) (M : Nat) (xs : List ByteArray) (e : Ending) (w' : World) : Prop := ∃ (a : Option Addr) (c : Nat), e = .returned (.slice a xs.length c) ∧ RowP w' w.heap.size M 1 (sgC M) xs a ∧ Below w.heap.size w w'
set_option maxRecDepth 100000 in
set_option maxHeartbeats 1600000 in
theorem toStringSC {w0 w : World} (h00 : Below w0.heap.size w0 w) {lo M : Nat} {xs : List (ByteArray)} {a : Option Addr} (c : Nat) (h : RowP w0 lo M 1 (sgC M) xs a) (hM : M ≤ 1048576) :
    Calls Try.prog 66 #[.slice a xs.length c] w (ToSgSP w M xs) := by
  obtain ⟨hlen, hrow⟩ := h
  have HLM := hide hlen
  obtain ⟨m, hm⟩ : ∃ m, Hid (xs.length = m) := ⟨_, rfl⟩
  rw [hm.out] at hlen ⊢
  have hlen2 : m ≤ 1048576 := by omega
  have HM := hide hM
  have H0 := hide h00
  have HROW := hide hrow
  clear h00 hlen hM hrow
  obtain ⟨i0, hi, hz0, hz1, hz2⟩ := info_parts Try.infoSg
  obtain ⟨wm, hmk, hown, hgr⟩ := run_make_full (P := Try.prog) w w.heap.size 57 9 i0 _ 1 Try.underlying57 hi hz0 hz1 .i64 .i64 m (by rw [hz2]; omega) (by unfold maxLen; omega) (Nat.le_refl _)
  have HRM := hide (And.intro (by have h9 := Room.of_owns hown (by rw [Array.length_toList, size_madeCells]); rwa [Nat.mul_one] at h9) ((Below.refl w.heap.size w).grown hgr (Nat.le_refl _) (fun k hk => by cases hk)))
  clear hown hgr hi hz0 hz1 hz2 i0
  obtain ⟨g, hg⟩ : ∃ g, Hid (g = w.heap.size) := ⟨_, rfl⟩
  rw [← hg.out] at hmk HRM
  go_enter Try.func66, Try.ntmps66
  go_wp2_with fail
  clear hmk
  go_loopw [4] (fun x wr => ∃ (j : Nat), x = .int .i64 j ∧ j ≤ m ∧ Hid (Room wr g (m) ∧ (∀ i (h : i < xs.length), i < j → ∃ cs, (sgC M) xs[i] cs ∧ cellsAt wr g (i) cs) ∧ Below w.heap.size w wr)) (fun x _ => m - (intOf x).toNat)
  case atStart => exact ⟨0, rfl, by omega, HRM.out.1, (fun i _ hi => absurd hi (by omega)), by rw [← hg.out]; exact HRM.out.2⟩
  case round =>
    obtain ⟨j, rfl, hj, HJ⟩ := hrel
    by_cases hlt : j < m
    · have hlt2 : (j : Int) < m := by omega
      have hjx : j < xs.length := by have := hm.out; omega
      obtain ⟨b, o, rfl, hlo, hb, hel⟩ := HROW.out (by omega)
      obtain ⟨cs, ⟨rfl, hx⟩, hat⟩ := hel j hjx
      have c0 := sg_at (hat.same ((below_via H0.out HJ.out.2.2).block b hb))
      simp only [Nat.mul_one] at c0
      have HX := hide hx
      clear hx hat hel hlo hb
      generalize hxe : xs[j] = x at HX c0
      have HXE := hide hxe
      clear hxe
      have hb2 : Below wr.heap.size wr wr := Below.refl _ _
      obtain ⟨w2, hw2⟩ : ∃ w2, w2 = wr := ⟨_, rfl⟩
      have hr2 := HJ.out.1
      have hx2 := HX.out
      have HX2 := hide (And.intro hx2 (And.intro hb2 (And.intro hr2 HJ.out.2.2)))
      clear hx2 hb2 hw2 w2
      have hfr := hr2.free
      obtain ⟨u0, hu0⟩ := hr2.has (j) (by omega)
      clear hr2
      go_wp2_with fail
      go_roundw
      case rel =>
        refine ⟨j + 1, by go_num, by omega, ?_⟩
        have hK : ∀ W, W = wr.setCells g (j) [.string x] → Room W g (m) ∧ (∀ i (h : i < xs.length), i < j + 1 → ∃ cs, (sgC M) xs[i] cs ∧ cellsAt W g (i) cs) ∧ Below w.heap.size w W := by
          rintro W rfl
          have hgs : w.heap.size ≤ g := Nat.le_of_eq hg.out.symm
          have hwr : g + 1 ≤ wr.heap.size := HJ.out.1.lt
          refine ⟨HX2.out.2.2.1.sets _ _, fun i hi hij => ?_, below_sets HX2.out.2.2.2 hgs _ _⟩
          by_cases hij2 : i = j
          · subst hij2
            rw [HXE.out]
            refine ⟨_, ⟨rfl, ?_⟩, HX2.out.2.2.1.at_in (i) [.string x] (by simp; omega)⟩
            have hk := (Keeps.refl wr.heap.size wr).sets (show g < wr.heap.size by omega) (i) [.string x]
            have hx2 := HX2.out.1
            exact hx2
          · obtain ⟨cs, ⟨rfl, hy⟩, hat⟩ := HJ.out.2.1 i hi (by omega)
            refine ⟨_, ⟨rfl, ?_⟩, (hat.same (HX2.out.2.1.block g HJ.out.1.lt)).apart _ _ (by simp; omega)⟩
            have hk : Keeps (g + 1) wr (wr.setCells g (j) [.string x]) := (Keeps.of HX2.out.2.1).sets (by omega) _ _
            have hx2 := hy
            exact hx2
        exact hK _ rfl
      case measure => simp [intOf]; omega
    · have hlt2 : ¬ (j : Int) < m := by omega
      obtain rfl : j = m := by omega
      go_wp2_with fail
      go_ret
      refine ⟨some ⟨g, 0, none⟩, j, by rw [hm.out]; rfl, ⟨HLM.out, fun _ => ⟨g, 0, rfl, Nat.le_of_eq hg.out.symm, HJ.out.1.lt, fun i hi => ?_⟩⟩, HJ.out.2.2⟩
      obtain ⟨cs, ⟨rfl, hx2⟩, hat⟩ := HJ.out.2.1 i hi (by have := hm.out; omega)
      have hk := Keeps.refl (g + 1) wr
      refine ⟨_, ⟨rfl, ?_⟩, by rw [Nat.zero_add, Nat.mul_one]; exact hat⟩
      have hge : w.heap.size ≤ g + 1 := by have := hg.out; omega
      exact hx2

/-- What toStmt hands back. -/
def ToStP (w : World) (M n : Nat) (x : StF) (e : Ending) (w' : World) : Prop := ∃ (ia : Option Addr) (ic : Nat) (fa : Option Addr) (fc : Nat) (wa : Option Addr) (wc : Nat) (oa : Option Addr) (oc : Nat) (ra : Option Addr) (rc : Nat) (ca : Option Addr) (cc : Nat) (ta : Option Addr) (tc : Nat) (ha : Option Addr) (hc : Nat), e = .returned (.agg #[.int .i64 x.kind, .bool x.q.distinct, .slice ia x.q.items.length ic, .slice fa x.q.src.length fc, .slice wa x.q.whr.length wc, .slice oa x.q.ord.length oc, .int .i64 x.q.limit, .string x.table, .slice ra x.rows.length rc, .slice ca x.cols.length cc, .slice ta x.sets.length tc, .slice ha x.whr.length hc]) ∧ (StB w' w.heap.size M (ExB w' w.heap.size M n) x ia fa wa oa ra ca ta ha) ∧ Below w.heap.size w w'
def ToSt (n : Nat) : Prop := ∀ (w0 w : World) (lo M : Nat) (x : StF) (ia : Option Addr) (ic : Nat) (fa : Option Addr) (fc : Nat) (wa : Option Addr) (wc : Nat) (oa : Option Addr) (oc : Nat) (ra : Option Addr) (rc : Nat) (ca : Option Addr) (cc : Nat) (ta : Option Addr) (tc : Nat) (ha : Option Addr) (hc : Nat), Below w0.heap.size w0 w → StB w0 lo M (ExB w0 lo M n) x ia fa wa oa ra ca ta ha → M ≤ 1048576 →
  Calls Try.prog 28 #[.agg #[.int .i64 x.kind, .bool x.q.distinct, .slice ia x.q.items.length ic, .slice fa x.q.src.length fc, .slice wa x.q.whr.length wc, .slice oa x.q.ord.length oc, .int .i64 x.q.limit, .string x.table, .slice ra x.rows.length rc, .slice ca x.cols.length cc, .slice ta x.sets.length tc, .slice ha x.whr.length hc]] w (ToStP w M n x)

set_option maxRecDepth 100000 in
set_option maxHeartbeats 1600000 in
theorem toStmtC {n : Nat} (IH : ToEx n) : ToSt n := by
  intro w0 w lo M x ia ic fa fc wa wc oa oc ra rc ca cc ta tc ha hc h00 hx hM
  obtain ⟨va, hva⟩ : ∃ va, Hid (va = w.heap.size) := ⟨_, rfl⟩
  obtain ⟨vr, hvr⟩ : ∃ vr, Hid (vr = w.heap.size + 1) := ⟨_, rfl⟩
  obtain ⟨vo, hvo⟩ : ∃ vo, Hid (vo = w.heap.size + 2) := ⟨_, rfl⟩
  have hv := Blk.made3 w [.int .i64 x.kind, .bool x.q.distinct, .slice ia x.q.items.length ic, .slice fa x.q.src.length fc, .slice wa x.q.whr.length wc, .slice oa x.q.ord.length oc, .int .i64 x.q.limit, .string x.table, .slice ra x.rows.length rc, .slice ca x.cols.length cc, .slice ta x.sets.length tc, .slice ha x.whr.length hc] [.int .i64 0, .bool false, .slice none 0 0, .slice none 0 0, .slice none 0 0, .slice none 0 0, .int .i64 0, .string ⟨#[]⟩, .slice none 0 0, .slice none 0 0, .slice none 0 0, .slice none 0 0] [.int .i64 x.kind, .bool false, .slice none 0 0, .slice none 0 0, .slice none 0 0, .slice none 0 0, .int .i64 0, .string ⟨#[]⟩, .slice none 0 0, .slice none 0 0, .slice none 0 0, .slice none 0 0] 59 64 64
  rw [← hvo.out, ← hvr.out, ← hva.out] at hv
  have HV0 := hide hv
  have H0 := hide h00
  have HM := hide hM
  have n1 : va ≠ vr := by have := hva.out; have := hvr.out; omega
  have n2 : va ≠ vo := by have := hva.out; have := hvo.out; omega
  have n3 : vr ≠ vo := by have := hvr.out; have := hvo.out; omega
  have N1 := hide n1
  have N2 := hide n2
  have N3 := hide n3
  have GR := hide (show w.heap.size ≤ vr by have := hvr.out; omega)
  have GO := hide (show w.heap.size ≤ vo by have := hvo.out; omega)
  clear hv h00 hM n1 n2 n3
  have HX := hide hx
  clear hx
  have HI := hide IH
  clear IH
  go_enter Try.func28, Try.ntmps28
  go_wp2_with fail
  (try rw [← hvo.out, ← hvr.out, ← hva.out])
  refine (toQueryC HI.out w0 _ lo M x.q ia ic fa fc wa wc oa oc (below_via H0.out (by go_grown)) HX.out.qu HM.out).mono ?_
  rintro e w1 ⟨ia', ic', fa', fc', wa', wc', oa', oc', rfl, hg, hb1⟩
  have HB1 := hide (below_via (show Below w.heap.size w _ by go_grown) hb1)
  have ha1 := HV0.out.1.step hb1
  have hr1 := HV0.out.2.1.step hb1
  have ho1 := HV0.out.2.2.step hb1
  have HV1 := hide (And.intro ha1.1 (And.intro hr1.1 (show Blk w1 vo [.int .i64 x.kind, .bool false, .slice none 0 0, .slice none 0 0, .slice none 0 0, .slice none 0 0, .int .i64 0, .string ⟨#[]⟩, .slice none 0 0, .slice none 0 0, .slice none 0 0, .slice none 0 0] from ho1.1)))
  have HL1 := hide (And.intro hr1.2 ho1.2)
  have HG1 := hide (And.intro hg hb1)
  clear ha1 hr1 ho1 hb1 hg
  obtain ⟨a0, a1, a2, a3, a4, a5, a6, a7, a8, a9, a10, a11⟩ := st_at0 HV1.out.1.cells
  have rc := HV1.out.2.1.cells
  have r0 := rc 0 (by simp)
  have r1 := rc 1 (by simp)
  have r2 := rc 2 (by simp)
  have r3 := rc 3 (by simp)
  have r4 := rc 4 (by simp)
  have r5 := rc 5 (by simp)
  have r6 := rc 6 (by simp)
  have r7 := rc 7 (by simp)
  have r8 := rc 8 (by simp)
  have r9 := rc 9 (by simp)
  have r10 := rc 10 (by simp)
  have r11 := rc 11 (by simp)
  simp only [Nat.zero_add, List.getElem_cons_zero, List.getElem_cons_succ] at r0 r1 r2 r3 r4 r5 r6 r7 r8 r9 r10 r11
  clear rc
  have fr := HV1.out.2.1.free
  have oc := HV1.out.2.2.cells
  have o0 := oc 0 (by simp)
  have o1 := oc 1 (by simp)
  have o2 := oc 2 (by simp)
  have o3 := oc 3 (by simp)
  have o4 := oc 4 (by simp)
  have o5 := oc 5 (by simp)
  have o6 := oc 6 (by simp)
  have o7 := oc 7 (by simp)
  have o8 := oc 8 (by simp)
  have o9 := oc 9 (by simp)
  have o10 := oc 10 (by simp)
  have o11 := oc 11 (by simp)
  simp only [Nat.zero_add, List.getElem_cons_zero, List.getElem_cons_succ] at o0 o1 o2 o3 o4 o5 o6 o7 o8 o9 o10 o11
  clear oc
  have fo := HV1.out.2.2.free
  go_wp2_with fail
  refine (toExprSSC (toReC HI.out) (below_via H0.out (below_set (below_set (below_set (below_set (below_set (below_set (below_set HB1.out GO.out 1 _) GO.out 2 _) GO.out 3 _) GO.out 4 _) GO.out 5 _) GO.out 6 _) GO.out 7 _)) rc HX.out.rows HM.out).mono ?_
  rintro e w2 ⟨ra', rc', rfl, hg, hb2⟩
  have HB2 := hide (below_via (below_set (below_set (below_set (below_set (below_set (below_set (below_set HB1.out GO.out 1 _) GO.out 2 _) GO.out 3 _) GO.out 4 _) GO.out 5 _) GO.out 6 _) GO.out 7 _) hb2)
  have ha2 := (((((((HV1.out.1.other N2.out 1 _).other N2.out 2 _).other N2.out 3 _).other N2.out 4 _).other N2.out 5 _).other N2.out 6 _).other N2.out 7 _).step hb2
  have hr2 := (((((((HV1.out.2.1.other N3.out 1 _).other N3.out 2 _).other N3.out 3 _).other N3.out 4 _).other N3.out 5 _).other N3.out 6 _).other N3.out 7 _).step hb2
  have ho2 := (((((((HV1.out.2.2.set 1 (by simp) _).set 2 (by simp) _).set 3 (by simp) _).set 4 (by simp) _).set 5 (by simp) _).set 6 (by simp) _).set 7 (by simp) _).step hb2
  have HV2 := hide (And.intro ha2.1 (And.intro hr2.1 (show Blk w2 vo [.int .i64 x.kind, .bool x.q.distinct, .slice ia' x.q.items.length ic', .slice fa' x.q.src.length fc', .slice wa' x.q.whr.length wc', .slice oa' x.q.ord.length oc', .int .i64 x.q.limit, .string x.table, .slice none 0 0, .slice none 0 0, .slice none 0 0, .slice none 0 0] from ho2.1)))
  have HL2 := hide (And.intro hr2.2 ho2.2)
  have HG2 := hide (And.intro hg hb2)
  clear ha2 hr2 ho2 hb2 hg a0 a1 a2 a3 a4 a5 a6 a7 a8 a9 a10 a11 r0 r1 r2 r3 r4 r5 r6 r7 r8 r9 r10 r11 o0 o1 o2 o3 o4 o5 o6 o7 o8 o9 o10 o11 fr fo
  obtain ⟨a0, a1, a2, a3, a4, a5, a6, a7, a8, a9, a10, a11⟩ := st_at0 HV2.out.1.cells
  have rc := HV2.out.2.1.cells
  have r0 := rc 0 (by simp)
  have r1 := rc 1 (by simp)
  have r2 := rc 2 (by simp)
  have r3 := rc 3 (by simp)
  have r4 := rc 4 (by simp)
  have r5 := rc 5 (by simp)
  have r6 := rc 6 (by simp)
  have r7 := rc 7 (by simp)
  have r8 := rc 8 (by simp)
  have r9 := rc 9 (by simp)
  have r10 := rc 10 (by simp)
  have r11 := rc 11 (by simp)
  simp only [Nat.zero_add, List.getElem_cons_zero, List.getElem_cons_succ] at r0 r1 r2 r3 r4 r5 r6 r7 r8 r9 r10 r11
  clear rc
  have fr := HV2.out.2.1.free
  have oc := HV2.out.2.2.cells
  have o0 := oc 0 (by simp)
  have o1 := oc 1 (by simp)
  have o2 := oc 2 (by simp)
  have o3 := oc 3 (by simp)
  have o4 := oc 4 (by simp)
  have o5 := oc 5 (by simp)
  have o6 := oc 6 (by simp)
  have o7 := oc 7 (by simp)
  have o8 := oc 8 (by simp)
  have o9 := oc 9 (by simp)
  have o10 := oc 10 (by simp)
  have o11 := oc 11 (by simp)
  simp only [Nat.zero_add, List.getElem_cons_zero, List.getElem_cons_succ] at o0 o1 o2 o3 o4 o5 o6 o7 o8 o9 o10 o11
  clear oc
  have fo := HV2.out.2.2.free
  go_wp2_with fail
  refine (toStringSC (below_via H0.out (below_set HB2.out GO.out 8 _)) cc HX.out.cols HM.out).mono ?_
  rintro e w3 ⟨ca', cc', rfl, hg, hb3⟩
  have HB3 := hide (below_via (below_set HB2.out GO.out 8 _) hb3)
  have ha3 := (HV2.out.1.other N2.out 8 _).step hb3
  have hr3 := (HV2.out.2.1.other N3.out 8 _).step hb3
  have ho3 := (HV2.out.2.2.set 8 (by simp) _).step hb3
  have HV3 := hide (And.intro ha3.1 (And.intro hr3.1 (show Blk w3 vo [.int .i64 x.kind, .bool x.q.distinct, .slice ia' x.q.items.length ic', .slice fa' x.q.src.length fc', .slice wa' x.q.whr.length wc', .slice oa' x.q.ord.length oc', .int .i64 x.q.limit, .string x.table, .slice ra' x.rows.length rc', .slice none 0 0, .slice none 0 0, .slice none 0 0] from ho3.1)))
  have HL3 := hide (And.intro hr3.2 ho3.2)
  have HG3 := hide (And.intro hg hb3)
  clear ha3 hr3 ho3 hb3 hg a0 a1 a2 a3 a4 a5 a6 a7 a8 a9 a10 a11 r0 r1 r2 r3 r4 r5 r6 r7 r8 r9 r10 r11 o0 o1 o2 o3 o4 o5 o6 o7 o8 o9 o10 o11 fr fo
  obtain ⟨a0, a1, a2, a3, a4, a5, a6, a7, a8, a9, a10, a11⟩ := st_at0 HV3.out.1.cells
  have rc := HV3.out.2.1.cells
  have r0 := rc 0 (by simp)
  have r1 := rc 1 (by simp)
  have r2 := rc 2 (by simp)
  have r3 := rc 3 (by simp)
  have r4 := rc 4 (by simp)
  have r5 := rc 5 (by simp)
  have r6 := rc 6 (by simp)
  have r7 := rc 7 (by simp)
  have r8 := rc 8 (by simp)
  have r9 := rc 9 (by simp)
  have r10 := rc 10 (by simp)
  have r11 := rc 11 (by simp)
  simp only [Nat.zero_add, List.getElem_cons_zero, List.getElem_cons_succ] at r0 r1 r2 r3 r4 r5 r6 r7 r8 r9 r10 r11
  clear rc
  have fr := HV3.out.2.1.free
  have oc := HV3.out.2.2.cells
  have o0 := oc 0 (by simp)
  have o1 := oc 1 (by simp)
  have o2 := oc 2 (by simp)
  have o3 := oc 3 (by simp)
  have o4 := oc 4 (by simp)
  have o5 := oc 5 (by simp)
  have o6 := oc 6 (by simp)
  have o7 := oc 7 (by simp)
  have o8 := oc 8 (by simp)
  have o9 := oc 9 (by simp)
  have o10 := oc 10 (by simp)
  have o11 := oc 11 (by simp)
  simp only [Nat.zero_add, List.getElem_cons_zero, List.getElem_cons_succ] at o0 o1 o2 o3 o4 o5 o6 o7 o8 o9 o10 o11
  clear oc
  have fo := HV3.out.2.2.free
  go_wp2_with fail
  refine (toExprSC HI.out (below_via H0.out (below_set HB3.out GO.out 9 _)) tc HX.out.sets HM.out).mono ?_
  rintro e w4 ⟨ta', tc', rfl, hg, hb4⟩
  have HB4 := hide (below_via (below_set HB3.out GO.out 9 _) hb4)
  have ha4 := (HV3.out.1.other N2.out 9 _).step hb4
  have hr4 := (HV3.out.2.1.other N3.out 9 _).step hb4
  have ho4 := (HV3.out.2.2.set 9 (by simp) _).step hb4
  have HV4 := hide (And.intro ha4.1 (And.intro hr4.1 (show Blk w4 vo [.int .i64 x.kind, .bool x.q.distinct, .slice ia' x.q.items.length ic', .slice fa' x.q.src.length fc', .slice wa' x.q.whr.length wc', .slice oa' x.q.ord.length oc', .int .i64 x.q.limit, .string x.table, .slice ra' x.rows.length rc', .slice ca' x.cols.length cc', .slice none 0 0, .slice none 0 0] from ho4.1)))
  have HL4 := hide (And.intro hr4.2 ho4.2)
  have HG4 := hide (And.intro hg hb4)
  clear ha4 hr4 ho4 hb4 hg a0 a1 a2 a3 a4 a5 a6 a7 a8 a9 a10 a11 r0 r1 r2 r3 r4 r5 r6 r7 r8 r9 r10 r11 o0 o1 o2 o3 o4 o5 o6 o7 o8 o9 o10 o11 fr fo
  obtain ⟨a0, a1, a2, a3, a4, a5, a6, a7, a8, a9, a10, a11⟩ := st_at0 HV4.out.1.cells
  have rc := HV4.out.2.1.cells
  have r0 := rc 0 (by simp)
  have r1 := rc 1 (by simp)
  have r2 := rc 2 (by simp)
  have r3 := rc 3 (by simp)
  have r4 := rc 4 (by simp)
  have r5 := rc 5 (by simp)
  have r6 := rc 6 (by simp)
  have r7 := rc 7 (by simp)
  have r8 := rc 8 (by simp)
  have r9 := rc 9 (by simp)
  have r10 := rc 10 (by simp)
  have r11 := rc 11 (by simp)
  simp only [Nat.zero_add, List.getElem_cons_zero, List.getElem_cons_succ] at r0 r1 r2 r3 r4 r5 r6 r7 r8 r9 r10 r11
  clear rc
  have fr := HV4.out.2.1.free
  have oc := HV4.out.2.2.cells
  have o0 := oc 0 (by simp)
  have o1 := oc 1 (by simp)
  have o2 := oc 2 (by simp)
  have o3 := oc 3 (by simp)
  have o4 := oc 4 (by simp)
  have o5 := oc 5 (by simp)
  have o6 := oc 6 (by simp)
  have o7 := oc 7 (by simp)
  have o8 := oc 8 (by simp)
  have o9 := oc 9 (by simp)
  have o10 := oc 10 (by simp)
  have o11 := oc 11 (by simp)
  simp only [Nat.zero_add, List.getElem_cons_zero, List.getElem_cons_succ] at o0 o1 o2 o3 o4 o5 o6 o7 o8 o9 o10 o11
  clear oc
  have fo := HV4.out.2.2.free
  go_wp2_with fail
  refine (toExprSC HI.out (below_via H0.out (below_set HB4.out GO.out 10 _)) hc HX.out.whr HM.out).mono ?_
  rintro e w5 ⟨ha', hc', rfl, hg, hb5⟩
  have HB5 := hide (below_via (below_set HB4.out GO.out 10 _) hb5)
  have ha5 := (HV4.out.1.other N2.out 10 _).step hb5
  have hr5 := (HV4.out.2.1.other N3.out 10 _).step hb5
  have ho5 := (HV4.out.2.2.set 10 (by simp) _).step hb5
  have HV5 := hide (And.intro ha5.1 (And.intro hr5.1 (show Blk w5 vo [.int .i64 x.kind, .bool x.q.distinct, .slice ia' x.q.items.length ic', .slice fa' x.q.src.length fc', .slice wa' x.q.whr.length wc', .slice oa' x.q.ord.length oc', .int .i64 x.q.limit, .string x.table, .slice ra' x.rows.length rc', .slice ca' x.cols.length cc', .slice ta' x.sets.length tc', .slice none 0 0] from ho5.1)))
  have HL5 := hide (And.intro hr5.2 ho5.2)
  have HG5 := hide (And.intro hg hb5)
  clear ha5 hr5 ho5 hb5 hg a0 a1 a2 a3 a4 a5 a6 a7 a8 a9 a10 a11 r0 r1 r2 r3 r4 r5 r6 r7 r8 r9 r10 r11 o0 o1 o2 o3 o4 o5 o6 o7 o8 o9 o10 o11 fr fo
  obtain ⟨a0, a1, a2, a3, a4, a5, a6, a7, a8, a9, a10, a11⟩ := st_at0 HV5.out.1.cells
  have rc := HV5.out.2.1.cells
  have r0 := rc 0 (by simp)
  have r1 := rc 1 (by simp)
  have r2 := rc 2 (by simp)
  have r3 := rc 3 (by simp)
  have r4 := rc 4 (by simp)
  have r5 := rc 5 (by simp)
  have r6 := rc 6 (by simp)
  have r7 := rc 7 (by simp)
  have r8 := rc 8 (by simp)
  have r9 := rc 9 (by simp)
  have r10 := rc 10 (by simp)
  have r11 := rc 11 (by simp)
  simp only [Nat.zero_add, List.getElem_cons_zero, List.getElem_cons_succ] at r0 r1 r2 r3 r4 r5 r6 r7 r8 r9 r10 r11
  clear rc
  have fr := HV5.out.2.1.free
  have oc := HV5.out.2.2.cells
  have o0 := oc 0 (by simp)
  have o1 := oc 1 (by simp)
  have o2 := oc 2 (by simp)
  have o3 := oc 3 (by simp)
  have o4 := oc 4 (by simp)
  have o5 := oc 5 (by simp)
  have o6 := oc 6 (by simp)
  have o7 := oc 7 (by simp)
  have o8 := oc 8 (by simp)
  have o9 := oc 9 (by simp)
  have o10 := oc 10 (by simp)
  have o11 := oc 11 (by simp)
  simp only [Nat.zero_add, List.getElem_cons_zero, List.getElem_cons_succ] at o0 o1 o2 o3 o4 o5 o6 o7 o8 o9 o10 o11
  clear oc
  have fo := HV5.out.2.2.free
  go_upto_region 9 with fail
  have HF := hide (show Blk (w5.setCell ⟨vo, 11, none⟩ (.slice ha' x.whr.length hc')) vo [.int .i64 x.kind, .bool x.q.distinct, .slice ia' x.q.items.length ic', .slice fa' x.q.src.length fc', .slice wa' x.q.whr.length wc', .slice oa' x.q.ord.length oc', .int .i64 x.q.limit, .string x.table, .slice ra' x.rows.length rc', .slice ca' x.cols.length cc', .slice ta' x.sets.length tc', .slice ha' x.whr.length hc'] ∧ Blk (w5.setCell ⟨vo, 11, none⟩ (.slice ha' x.whr.length hc')) vr [.int .i64 0, .bool false, .slice none 0 0, .slice none 0 0, .slice none 0 0, .slice none 0 0, .int .i64 0, .string ⟨#[]⟩, .slice none 0 0, .slice none 0 0, .slice none 0 0, .slice none 0 0] ∧ Below w.heap.size w (w5.setCell ⟨vo, 11, none⟩ (.slice ha' x.whr.length hc')) ∧ (∀ B, vo < B → Keeps B w1 (w5.setCell ⟨vo, 11, none⟩ (.slice ha' x.whr.length hc'))) ∧ (∀ B, vo < B → Keeps B w2 (w5.setCell ⟨vo, 11, none⟩ (.slice ha' x.whr.length hc'))) ∧ (∀ B, vo < B → Keeps B w3 (w5.setCell ⟨vo, 11, none⟩ (.slice ha' x.whr.length hc'))) ∧ (∀ B, vo < B → Keeps B w4 (w5.setCell ⟨vo, 11, none⟩ (.slice ha' x.whr.length hc'))) ∧ (∀ B, vo < B → Keeps B w5 (w5.setCell ⟨vo, 11, none⟩ (.slice ha' x.whr.length hc'))) from ⟨(HV5.out.2.2.set 11 (by simp) _), (HV5.out.2.1.other N3.out 11 _), (below_set HB5.out GO.out 11 _), fun B hB => ((((((((((((((((Keeps.refl B w1).set hB 1 _).set hB 2 _).set hB 3 _).set hB 4 _).set hB 5 _).set hB 6 _).set hB 7 _).below HG2.out.2).set hB 8 _).below HG3.out.2).set hB 9 _).below HG4.out.2).set hB 10 _).below HG5.out.2).set hB 11 _), fun B hB => ((((((((Keeps.refl B w2).set hB 8 _).below HG3.out.2).set hB 9 _).below HG4.out.2).set hB 10 _).below HG5.out.2).set hB 11 _), fun B hB => ((((((Keeps.refl B w3).set hB 9 _).below HG4.out.2).set hB 10 _).below HG5.out.2).set hB 11 _), fun B hB => ((((Keeps.refl B w4).set hB 10 _).below HG5.out.2).set hB 11 _), fun B hB => ((Keeps.refl B w5).set hB 11 _)⟩)
  clear a0 r0 o0 a1 r1 o1 a2 r2 o2 a3 r3 o3 a4 r4 o4 a5 r5 o5 a6 r6 o6 a7 r7 o7 a8 r8 o8 a9 r9 o9 a10 r10 o10 a11 r11 o11 fr fo
  generalize (w5.setCell ⟨vo, 11, none⟩ (.slice ha' x.whr.length hc')) = wf at HF ⊢
  have rc := HF.out.2.1.cells
  have r0 := rc 0 (by simp)
  have r1 := rc 1 (by simp)
  have r2 := rc 2 (by simp)
  have r3 := rc 3 (by simp)
  have r4 := rc 4 (by simp)
  have r5 := rc 5 (by simp)
  have r6 := rc 6 (by simp)
  have r7 := rc 7 (by simp)
  have r8 := rc 8 (by simp)
  have r9 := rc 9 (by simp)
  have r10 := rc 10 (by simp)
  have r11 := rc 11 (by simp)
  simp only [Nat.zero_add, List.getElem_cons_zero, List.getElem_cons_succ] at r0 r1 r2 r3 r4 r5 r6 r7 r8 r9 r10 r11
  clear rc
  have oc := HF.out.1.cells
  have o0 := oc 0 (by simp)
  have o1 := oc 1 (by simp)
  have o2 := oc 2 (by simp)
  have o3 := oc 3 (by simp)
  have o4 := oc 4 (by simp)
  have o5 := oc 5 (by simp)
  have o6 := oc 6 (by simp)
  have o7 := oc 7 (by simp)
  have o8 := oc 8 (by simp)
  have o9 := oc 9 (by simp)
  have o10 := oc 10 (by simp)
  have o11 := oc 11 (by simp)
  simp only [Nat.zero_add, List.getElem_cons_zero, List.getElem_cons_succ] at o0 o1 o2 o3 o4 o5 o6 o7 o8 o9 o10 o11
  clear oc
  have fr := HF.out.2.1.free
  go_wp2_with fail
  ((try simp only [Exit.inBlock, Exit.then]); refine bodyPost_ret (by simp [results, Try.results28, go_sem]; go_simp; rfl) rfl ?_)
  refine ⟨ia', ic', fa', fc', wa', wc', oa', oc', ra', rc', ca', cc', ta', tc', ha', hc', rfl, ?_, ?_⟩
  · exact ⟨HX.out.tab, HG1.out.1.keeps (((((((((((((HF.out.2.2.2.1 _ HL1.out.2).set HL1.out.1 0 _).set HL1.out.1 1 _).set HL1.out.1 2 _).set HL1.out.1 3 _).set HL1.out.1 4 _).set HL1.out.1 5 _).set HL1.out.1 6 _).set HL1.out.1 7 _).set HL1.out.1 8 _).set HL1.out.1 9 _).set HL1.out.1 10 _).set HL1.out.1 11 _) (Nat.le_trans GR.out (Nat.le_of_lt HL1.out.1)), rowRe_keeps HG2.out.1 (((((((((((((HF.out.2.2.2.2.1 _ HL2.out.2).set HL2.out.1 0 _).set HL2.out.1 1 _).set HL2.out.1 2 _).set HL2.out.1 3 _).set HL2.out.1 4 _).set HL2.out.1 5 _).set HL2.out.1 6 _).set HL2.out.1 7 _).set HL2.out.1 8 _).set HL2.out.1 9 _).set HL2.out.1 10 _).set HL2.out.1 11 _) (Nat.le_trans GR.out (Nat.le_of_lt HL2.out.1)), rowSg_keeps HG3.out.1 (((((((((((((HF.out.2.2.2.2.2.1 _ HL3.out.2).set HL3.out.1 0 _).set HL3.out.1 1 _).set HL3.out.1 2 _).set HL3.out.1 3 _).set HL3.out.1 4 _).set HL3.out.1 5 _).set HL3.out.1 6 _).set HL3.out.1 7 _).set HL3.out.1 8 _).set HL3.out.1 9 _).set HL3.out.1 10 _).set HL3.out.1 11 _) (Nat.le_trans GR.out (Nat.le_of_lt HL3.out.1)), rowEx_keeps HG4.out.1 (((((((((((((HF.out.2.2.2.2.2.2.1 _ HL4.out.2).set HL4.out.1 0 _).set HL4.out.1 1 _).set HL4.out.1 2 _).set HL4.out.1 3 _).set HL4.out.1 4 _).set HL4.out.1 5 _).set HL4.out.1 6 _).set HL4.out.1 7 _).set HL4.out.1 8 _).set HL4.out.1 9 _).set HL4.out.1 10 _).set HL4.out.1 11 _) (Nat.le_trans GR.out (Nat.le_of_lt HL4.out.1)), rowEx_keeps HG5.out.1 (((((((((((((HF.out.2.2.2.2.2.2.2 _ HL5.out.2).set HL5.out.1 0 _).set HL5.out.1 1 _).set HL5.out.1 2 _).set HL5.out.1 3 _).set HL5.out.1 4 _).set HL5.out.1 5 _).set HL5.out.1 6 _).set HL5.out.1 7 _).set HL5.out.1 8 _).set HL5.out.1 9 _).set HL5.out.1 10 _).set HL5.out.1 11 _) (Nat.le_trans GR.out (Nat.le_of_lt HL5.out.1))⟩
  · exact (below_set (below_set (below_set (below_set (below_set (below_set (below_set (below_set (below_set (below_set (below_set (below_set HF.out.2.2.1 GR.out 0 _) GR.out 1 _) GR.out 2 _) GR.out 3 _) GR.out 4 _) GR.out 5 _) GR.out 6 _) GR.out 7 _) GR.out 8 _) GR.out 9 _) GR.out 10 _) GR.out 11 _)

end Go.Proofs.Ytfpoakdmclekoaa
