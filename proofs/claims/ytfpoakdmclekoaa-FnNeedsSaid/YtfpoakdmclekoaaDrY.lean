/-
  l7Expr: a tree drawn, to any depth: the step.
-/
import Derived.Test.YtfpoakdmclekoaaDrYa
import Derived.Deep.MidRow
namespace Go.Proofs.Ytfpoakdmclekoaa
open Go Go.RowKit Go.Lib

set_option maxRecDepth 100000 in
set_option maxHeartbeats 40000000 in
theorem l7ExprS {B p lo d : Nat} (IH : ExprC B p lo d) (hdd : d ≤ 100) {w : World} {R : RM} (h : Cur B w p) (hh : Hp w lo R true) (hlo : lo ≤ w.heap.size) (hpl : p < lo) (n k : Nat) (hnk : n = k + 1) (hk : k ≤ d) :
    Calls Try.prog 87 #[.pointer (some ⟨p, 0, none⟩), .int .i64 (n : Int)] w (ExprPost B p lo R (d + 2) w) := by
  obtain ⟨rb, hrb⟩ : ∃ rb, Hid (rb = w.heap.size) := ⟨_, rfl⟩
  have hm := Blk.made w Z10 34
  rw [← hrb.out] at hm
  obtain ⟨R1, hR1⟩ : ∃ R1, R1 = R := ⟨R, rfl⟩
  have H1 := hide (show ESt B p lo R R1 w (w.alloc (.cells Z10.toArray 34)) rb by subst hR1; exact ⟨hh.alloc _, Ext.refl _ _, hh.new (Nat.le_of_eq hrb.out.symm), (Dr.refl h).alloc _, hm, by have := hrb.out; have := h.lt; omega, Nat.le_of_eq hrb.out.symm, h.lt, hpl⟩)
  clear hm hR1
  have hn0 : ¬ (n : Int) ≤ 0 := by omega
  have HNK := hide hnk
  have hn9 : n ≤ 101 := by omega
  clear hnk
  go_enter Try.func87, Try.ntmps87
  go_wp2_with fail
  (try rw [← hrb.out])
  refine (l1OnceC H1.out.dr.cur _).mono ?_
  rintro e w2 ⟨b0, rfl, hc, hg⟩
  have H2 := hide (H1.out.step ((Dr.refl H1.out.dr.cur).step hc hg))
  clear hc hg
  cases b0
  · go_wp2_with fail
    refine (l1BelowC H2.out.dr.cur 12).mono ?_
    rintro e w3 ⟨x, rfl, x0, x1, hc, hg⟩
    have H3 := hide (H2.out.step ((Dr.refl H2.out.dr.cur).step hc hg))
    clear hc hg x1 H2 H1
    have hx : x = 0 ∨ x = 1 ∨ x = 2 ∨ x = 3 ∨ x = 4 ∨ x = 5 ∨ x = 6 ∨ (x ≠ 0 ∧ x ≠ 1 ∧ x ≠ 2 ∧ x ≠ 3 ∧ x ≠ 4 ∧ x ≠ 5 ∧ x ≠ 6) := by omega
    rcases hx with rfl | rfl | rfl | rfl | rfl | rfl | rfl | ⟨n0, n1, n2, n3, n4, n5, n6⟩
    · have HC := hide (l7KidsC' IH H3.out.dr.cur H3.out.hp (Nat.le_trans hlo H3.out.dr.grown.size) hpl 1 (by omega) (by omega) k hk hdd (n : Int) (by have := HNK.out; omega) 1 (by omega))
      go_wp2_with fail
      with_reducible refine HC.out.mono ?_
      rintro e w4 ⟨g, kc, R2, rfl, hg, hh2, hx2, hd2⟩
      have H4 := hide (H3.out.post hh2 hx2 hd2)
      have HG := hide hg
      clear hh2 hx2 hd2 HC hg
      have hg := HG.out
      clear HG
      have rc := H4.out.r.cells
      have r0 := rc 0 (by first | simp | simp [Z10])
      have r1 := rc 1 (by first | simp | simp [Z10])
      have r2 := rc 2 (by first | simp | simp [Z10])
      have r3 := rc 3 (by first | simp | simp [Z10])
      have r4 := rc 4 (by first | simp | simp [Z10])
      have r5 := rc 5 (by first | simp | simp [Z10])
      have r6 := rc 6 (by first | simp | simp [Z10])
      have r7 := rc 7 (by first | simp | simp [Z10])
      have r8 := rc 8 (by first | simp | simp [Z10])
      have r9 := rc 9 (by first | simp | simp [Z10])
      try simp only [Z10] at r0 r1 r2 r3 r4 r5 r6 r7 r8 r9
      simp only [Nat.zero_add, List.getElem_cons_zero, List.getElem_cons_succ] at r0 r1 r2 r3 r4 r5 r6 r7 r8 r9
      clear rc
      have fr := H4.out.r.free
      go_wp2_with fail
      ((try simp only [Exit.inBlock, Exit.then]); refine bodyPost_ret (by simp [results, Try.results87, go_sem]; go_simp; rfl) rfl ?_)
      exact H4.out.fin (x := ⟨3, 15, false, 0, 0, ⟨#[]⟩, ⟨#[]⟩, ⟨#[]⟩, some ⟨g, 0, none⟩, 1, kc, none, 0, 0⟩) (KidOk.row hg (by omega) (by omega) (by omega) (Nat.le_refl _))
    · have HC := hide (l7KidsC' IH H3.out.dr.cur H3.out.hp (Nat.le_trans hlo H3.out.dr.grown.size) hpl 1 (by omega) (by omega) k hk hdd (n : Int) (by have := HNK.out; omega) 1 (by omega))
      go_wp2_with fail
      with_reducible refine HC.out.mono ?_
      rintro e w4 ⟨g, kc, R2, rfl, hg, hh2, hx2, hd2⟩
      have H4 := hide (H3.out.post hh2 hx2 hd2)
      have HG := hide hg
      clear hh2 hx2 hd2 HC hg
      have hg := HG.out
      clear HG
      have rc := H4.out.r.cells
      have r0 := rc 0 (by first | simp | simp [Z10])
      have r1 := rc 1 (by first | simp | simp [Z10])
      have r2 := rc 2 (by first | simp | simp [Z10])
      have r3 := rc 3 (by first | simp | simp [Z10])
      have r4 := rc 4 (by first | simp | simp [Z10])
      have r5 := rc 5 (by first | simp | simp [Z10])
      have r6 := rc 6 (by first | simp | simp [Z10])
      have r7 := rc 7 (by first | simp | simp [Z10])
      have r8 := rc 8 (by first | simp | simp [Z10])
      have r9 := rc 9 (by first | simp | simp [Z10])
      try simp only [Z10] at r0 r1 r2 r3 r4 r5 r6 r7 r8 r9
      simp only [Nat.zero_add, List.getElem_cons_zero, List.getElem_cons_succ] at r0 r1 r2 r3 r4 r5 r6 r7 r8 r9
      clear rc
      have fr := H4.out.r.free
      go_wp2_with fail
      ((try simp only [Exit.inBlock, Exit.then]); refine bodyPost_ret (by simp [results, Try.results87, go_sem]; go_simp; rfl) rfl ?_)
      exact H4.out.fin (x := ⟨3, 16, false, 0, 0, ⟨#[]⟩, ⟨#[]⟩, ⟨#[]⟩, some ⟨g, 0, none⟩, 1, kc, none, 0, 0⟩) (KidOk.row hg (by omega) (by omega) (by omega) (Nat.le_refl _))
    · go_wp2_with fail
      refine (l1OnceC H3.out.dr.cur _).mono ?_
      rintro e w3b ⟨ng, rfl, hc, hg⟩
      have H3b := hide (H3.out.step ((Dr.refl H3.out.dr.cur).step hc hg))
      clear hc hg
      have HC := hide (l7KidsC' IH H3b.out.dr.cur H3b.out.hp (Nat.le_trans hlo H3b.out.dr.grown.size) hpl 1 (by omega) (by omega) k hk hdd (n : Int) (by have := HNK.out; omega) 1 (by omega))
      go_wp2_with fail
      with_reducible refine HC.out.mono ?_
      rintro e w4 ⟨g, kc, R2, rfl, hg, hh2, hx2, hd2⟩
      have H4 := hide (H3b.out.post hh2 hx2 hd2)
      have HG := hide hg
      clear hh2 hx2 hd2 HC hg
      have hg := HG.out
      clear HG
      have rc := H4.out.r.cells
      have r0 := rc 0 (by first | simp | simp [Z10])
      have r1 := rc 1 (by first | simp | simp [Z10])
      have r2 := rc 2 (by first | simp | simp [Z10])
      have r3 := rc 3 (by first | simp | simp [Z10])
      have r4 := rc 4 (by first | simp | simp [Z10])
      have r5 := rc 5 (by first | simp | simp [Z10])
      have r6 := rc 6 (by first | simp | simp [Z10])
      have r7 := rc 7 (by first | simp | simp [Z10])
      have r8 := rc 8 (by first | simp | simp [Z10])
      have r9 := rc 9 (by first | simp | simp [Z10])
      try simp only [Z10] at r0 r1 r2 r3 r4 r5 r6 r7 r8 r9
      simp only [Nat.zero_add, List.getElem_cons_zero, List.getElem_cons_succ] at r0 r1 r2 r3 r4 r5 r6 r7 r8 r9
      clear rc
      have fr := H4.out.r.free
      go_wp2_with fail
      ((try simp only [Exit.inBlock, Exit.then]); refine bodyPost_ret (by simp [results, Try.results87, go_sem]; go_simp; rfl) rfl ?_)
      exact H4.out.fin (x := ⟨5, 0, ng, 0, 0, ⟨#[]⟩, ⟨#[]⟩, ⟨#[]⟩, some ⟨g, 0, none⟩, 1, kc, none, 0, 0⟩) (KidOk.row hg (by omega) (by omega) (by omega) (Nat.le_refl _))
    · go_wp2_with fail
      refine (l1OnceC H3.out.dr.cur _).mono ?_
      rintro e w3b ⟨ng, rfl, hc, hg⟩
      have H3b := hide (H3.out.step ((Dr.refl H3.out.dr.cur).step hc hg))
      clear hc hg
      have HC := hide (l7KidsC' IH H3b.out.dr.cur H3b.out.hp (Nat.le_trans hlo H3b.out.dr.grown.size) hpl 3 (by omega) (by omega) k hk hdd (n : Int) (by have := HNK.out; omega) 3 (by omega))
      go_wp2_with fail
      with_reducible refine HC.out.mono ?_
      rintro e w4 ⟨g, kc, R2, rfl, hg, hh2, hx2, hd2⟩
      have H4 := hide (H3b.out.post hh2 hx2 hd2)
      have HG := hide hg
      clear hh2 hx2 hd2 HC hg
      have hg := HG.out
      clear HG
      have rc := H4.out.r.cells
      have r0 := rc 0 (by first | simp | simp [Z10])
      have r1 := rc 1 (by first | simp | simp [Z10])
      have r2 := rc 2 (by first | simp | simp [Z10])
      have r3 := rc 3 (by first | simp | simp [Z10])
      have r4 := rc 4 (by first | simp | simp [Z10])
      have r5 := rc 5 (by first | simp | simp [Z10])
      have r6 := rc 6 (by first | simp | simp [Z10])
      have r7 := rc 7 (by first | simp | simp [Z10])
      have r8 := rc 8 (by first | simp | simp [Z10])
      have r9 := rc 9 (by first | simp | simp [Z10])
      try simp only [Z10] at r0 r1 r2 r3 r4 r5 r6 r7 r8 r9
      simp only [Nat.zero_add, List.getElem_cons_zero, List.getElem_cons_succ] at r0 r1 r2 r3 r4 r5 r6 r7 r8 r9
      clear rc
      have fr := H4.out.r.free
      go_wp2_with fail
      ((try simp only [Exit.inBlock, Exit.then]); refine bodyPost_ret (by simp [results, Try.results87, go_sem]; go_simp; rfl) rfl ?_)
      exact H4.out.fin (x := ⟨6, 0, ng, 0, 0, ⟨#[]⟩, ⟨#[]⟩, ⟨#[]⟩, some ⟨g, 0, none⟩, 3, kc, none, 0, 0⟩) (KidOk.row hg (by omega) (by omega) (by omega) (Nat.le_refl _))
    · go_wp2_with fail
      refine (l1OnceC H3.out.dr.cur _).mono ?_
      rintro e w3b ⟨ng, rfl, hc, hg⟩
      have H3b := hide (H3.out.step ((Dr.refl H3.out.dr.cur).step hc hg))
      clear hc hg
      go_wp2_with fail
      refine (l1BelowC H3b.out.dr.cur 2).mono ?_
      rintro e w3c ⟨y, rfl, y0, y1, hc, hg⟩
      have y2 := y1 (by omega)
      obtain ⟨q, rfl⟩ : ∃ q : Nat, y = q := ⟨y.toNat, by omega⟩
      have H3c := hide (H3b.out.step ((Dr.refl H3b.out.dr.cur).step hc hg))
      clear hc hg y1
      have HC := hide (l7KidsC' IH H3c.out.dr.cur H3c.out.hp (Nat.le_trans hlo H3c.out.dr.grown.size) hpl (2 + q) (by omega) (by omega) k hk hdd (n : Int) (by have := HNK.out; omega) (2 + (q : Int)) (by omega))
      go_wp2_with fail
      with_reducible refine HC.out.mono ?_
      rintro e w4 ⟨g, kc, R2, rfl, hg, hh2, hx2, hd2⟩
      have H4 := hide (H3c.out.post hh2 hx2 hd2)
      have HG := hide hg
      clear hh2 hx2 hd2 HC hg
      have hg := HG.out
      clear HG
      have rc := H4.out.r.cells
      have r0 := rc 0 (by first | simp | simp [Z10])
      have r1 := rc 1 (by first | simp | simp [Z10])
      have r2 := rc 2 (by first | simp | simp [Z10])
      have r3 := rc 3 (by first | simp | simp [Z10])
      have r4 := rc 4 (by first | simp | simp [Z10])
      have r5 := rc 5 (by first | simp | simp [Z10])
      have r6 := rc 6 (by first | simp | simp [Z10])
      have r7 := rc 7 (by first | simp | simp [Z10])
      have r8 := rc 8 (by first | simp | simp [Z10])
      have r9 := rc 9 (by first | simp | simp [Z10])
      try simp only [Z10] at r0 r1 r2 r3 r4 r5 r6 r7 r8 r9
      simp only [Nat.zero_add, List.getElem_cons_zero, List.getElem_cons_succ] at r0 r1 r2 r3 r4 r5 r6 r7 r8 r9
      clear rc
      have fr := H4.out.r.free
      go_wp2_with fail
      ((try simp only [Exit.inBlock, Exit.then]); refine bodyPost_ret (by simp [results, Try.results87, go_sem]; go_simp; rfl) rfl ?_)
      exact H4.out.fin (x := ⟨7, 0, ng, 0, 0, ⟨#[]⟩, ⟨#[]⟩, ⟨#[]⟩, some ⟨g, 0, none⟩, (2 + q), kc, none, 0, 0⟩) (KidOk.row hg (by omega) (by omega) (by omega) (Nat.le_refl _))
    · by_cases hk1 : 1 ≤ k
      · have hn1 : (1 : Int) < (n : Int) := by have := HNK.out; omega
        go_wp2_with fail
        refine (l1OnceC H3.out.dr.cur _).mono ?_
        rintro e w3b ⟨ng, rfl, hc, hg⟩
        have H3b := hide (H3.out.step ((Dr.refl H3.out.dr.cur).step hc hg))
        clear hc hg
        have HC := hide (l7KidsC' IH H3b.out.dr.cur H3b.out.hp (Nat.le_trans hlo H3b.out.dr.grown.size) hpl 1 (by omega) (by omega) k hk hdd (n : Int) (by have := HNK.out; omega) 1 (by omega))
        go_wp2_with fail
        with_reducible refine HC.out.mono ?_
        rintro e w4 ⟨g, kc, R2, rfl, hg, hh2, hx2, hd2⟩
        have H4 := hide (H3b.out.post hh2 hx2 hd2)
        have HG := hide hg
        clear hh2 hx2 hd2 HC hg
        have HC := hide (l7QueryC' IH H4.out.dr.cur H4.out.hp (Nat.le_trans hlo H4.out.dr.grown.size) hpl (k - 1) (by omega) ((n : Int) - 2) (by have := HNK.out; omega))
        have hn2 : IntKind.i64.wrap ((n : Int) - 2) = (n : Int) - 2 := IntWalk.i64_in _ (by have := HNK.out; omega)
        go_wp2_with fail
        with_reducible refine HC.out.mono ?_
        rintro e w5 ⟨dn, ia, im, ic, fa, fm, fc, qa, qm, qc, oa, om, oc, lim, R3, rfl, hh2, hx2, hd2⟩
        have H5 := hide (And.intro (H4.out.post hh2 hx2 hd2) (hx2.ex g _ _ _ HG.out))
        clear hh2 hx2 hd2 HC HG
        obtain ⟨l', hl', hg⟩ := H5.out.2
        obtain ⟨hth, hbl, hpo⟩ := H5.out.1.finQ2 (r := d + 2) (x := ⟨8, 0, ng, 0, 0, ⟨#[]⟩, ⟨#[]⟩, ⟨#[]⟩, some ⟨g, 0, none⟩, 1, kc, some ⟨w5.heap.size, 0, none⟩, 1, 1⟩) (l := [.bool dn, .slice ia im ic, .slice fa fm fc, .slice qa qm qc, .slice oa om oc, .int .i64 lim]) (t := 50) rfl hlo (fun R9 hq hx => by
          obtain ⟨l2, hl2, hg2⟩ := hx.ex g _ _ _ hg
          exact KidOk.rowQ hg2 (by omega) (by omega) (by omega) (by omega) hq)
        have HP := hide (And.intro hbl hpo)
        have hsz := Try.sizeEx
        clear hbl hpo hg hl'
        go_wp2_with (first
          | (refine wpList_store_mid (by rfl) _ _ _ (by rfl) rb 0 #[.int .i64 8, .int .i64 0, .bool ng, .int .i64 0, .int .i64 0, .string ⟨#[]⟩, .string ⟨#[]⟩, .string ⟨#[]⟩, .slice (some ⟨g, 0, none⟩) 1 kc, .slice (some ⟨w5.heap.size, 0, none⟩) 1 1] (by rfl) (by rfl) hth hsz (all_oneCell_toArray (List.all_eq_true.1 (by rfl))) ?_
             generalize hW9 : World.setCells _ _ _ _ = W9
             have HP9 := hide (show Blk W9 rb [.int .i64 8, .int .i64 0, .bool ng, .int .i64 0, .int .i64 0, .string ⟨#[]⟩, .string ⟨#[]⟩, .string ⟨#[]⟩, .slice (some ⟨g, 0, none⟩) 1 kc, .slice (some ⟨w5.heap.size, 0, none⟩) 1 1] ∧ ExprPost B p lo R (d + 2) w (.returned (.agg #[.int .i64 8, .int .i64 0, .bool ng, .int .i64 0, .int .i64 0, .string ⟨#[]⟩, .string ⟨#[]⟩, .string ⟨#[]⟩, .slice (some ⟨g, 0, none⟩) 1 kc, .slice (some ⟨w5.heap.size, 0, none⟩) 1 1])) W9 from by rw [← hW9]; exact HP.out)
             clear hW9 HP
             have rc := HP9.out.1.cells
             have r0 := rc 0 (by first | simp | simp [Z10])
             have r1 := rc 1 (by first | simp | simp [Z10])
             have r2 := rc 2 (by first | simp | simp [Z10])
             have r3 := rc 3 (by first | simp | simp [Z10])
             have r4 := rc 4 (by first | simp | simp [Z10])
             have r5 := rc 5 (by first | simp | simp [Z10])
             have r6 := rc 6 (by first | simp | simp [Z10])
             have r7 := rc 7 (by first | simp | simp [Z10])
             have r8 := rc 8 (by first | simp | simp [Z10])
             have r9 := rc 9 (by first | simp | simp [Z10])
             try simp only [Z10] at r0 r1 r2 r3 r4 r5 r6 r7 r8 r9
             simp only [Nat.zero_add, List.getElem_cons_zero, List.getElem_cons_succ] at r0 r1 r2 r3 r4 r5 r6 r7 r8 r9
             clear rc
             have fr := HP9.out.1.free))
        ((try simp only [Exit.inBlock, Exit.then]); refine bodyPost_ret (by simp [results, Try.results87, go_sem]; go_simp; rfl) rfl ?_)
        exact HP9.out.2
      · have hn1 : ¬ (1 : Int) < (n : Int) := by have := HNK.out; omega
        go_wp2_with fail
        refine (l1BelowC H3.out.dr.cur 14).mono ?_
        rintro e wa ⟨y, rfl, y0, y1, hc, hg⟩
        have y2 := y1 (by omega)
        have HB1 := hide (H3.out.step ((Dr.refl H3.out.dr.cur).step hc hg))
        clear hc hg y1
        have HC := hide (l7KidsC' IH HB1.out.dr.cur HB1.out.hp (Nat.le_trans hlo HB1.out.dr.grown.size) hpl 2 (by omega) (by omega) k hk hdd (n : Int) (by have := HNK.out; omega) 2 (by omega))
        go_wp2_with fail
        with_reducible refine HC.out.mono ?_
        rintro e wb ⟨g, kc, R2, rfl, hg, hh2, hx2, hd2⟩
        have HB2 := hide (HB1.out.post hh2 hx2 hd2)
        have HG := hide hg
        clear hh2 hx2 hd2 HC hg
        have hg := HG.out
        clear HG
        have rc := HB2.out.r.cells
        have r0 := rc 0 (by first | simp | simp [Z10])
        have r1 := rc 1 (by first | simp | simp [Z10])
        have r2 := rc 2 (by first | simp | simp [Z10])
        have r3 := rc 3 (by first | simp | simp [Z10])
        have r4 := rc 4 (by first | simp | simp [Z10])
        have r5 := rc 5 (by first | simp | simp [Z10])
        have r6 := rc 6 (by first | simp | simp [Z10])
        have r7 := rc 7 (by first | simp | simp [Z10])
        have r8 := rc 8 (by first | simp | simp [Z10])
        have r9 := rc 9 (by first | simp | simp [Z10])
        try simp only [Z10] at r0 r1 r2 r3 r4 r5 r6 r7 r8 r9
        simp only [Nat.zero_add, List.getElem_cons_zero, List.getElem_cons_succ] at r0 r1 r2 r3 r4 r5 r6 r7 r8 r9
        clear rc
        have fr := HB2.out.r.free
        go_wp2_with fail
        ((try simp only [Exit.inBlock, Exit.then]); refine bodyPost_ret (by simp [results, Try.results87, go_sem]; go_simp; rfl) rfl ?_)
        exact HB2.out.fin (x := ⟨4, (1 + y), false, 0, 0, ⟨#[]⟩, ⟨#[]⟩, ⟨#[]⟩, some ⟨g, 0, none⟩, 2, kc, none, 0, 0⟩) (KidOk.row hg (by omega) (by omega) (by omega) (Nat.le_refl _))
    · by_cases hk1 : 1 ≤ k
      · have hn1 : (1 : Int) < (n : Int) := by have := HNK.out; omega
        have HC := hide (l7QueryC' IH H3.out.dr.cur H3.out.hp (Nat.le_trans hlo H3.out.dr.grown.size) hpl (k - 1) (by omega) ((n : Int) - 2) (by have := HNK.out; omega))
        have hn2 : IntKind.i64.wrap ((n : Int) - 2) = (n : Int) - 2 := IntWalk.i64_in _ (by have := HNK.out; omega)
        go_wp2_with fail
        with_reducible refine HC.out.mono ?_
        rintro e w5 ⟨dn, ia, im, ic, fa, fm, fc, qa, qm, qc, oa, om, oc, lim, R3, rfl, hh2, hx2, hd2⟩
        have H5 := hide (H3.out.post hh2 hx2 hd2)
        clear hh2 hx2 hd2 HC
        obtain ⟨hth, hbl, hpo⟩ := H5.out.finQ2 (r := d + 2) (x := ⟨9, 0, false, 0, 0, ⟨#[]⟩, ⟨#[]⟩, ⟨#[]⟩, none, 0, 0, some ⟨w5.heap.size, 0, none⟩, 1, 1⟩) (l := [.bool dn, .slice ia im ic, .slice fa fm fc, .slice qa qm qc, .slice oa om oc, .int .i64 lim]) (t := 50) rfl hlo (fun R9 hq hx => KidOk.leafQ hq)
        have HP := hide (And.intro hbl hpo)
        have hsz := Try.sizeEx
        clear hbl hpo
        go_wp2_with (first
          | (refine wpList_store_mid (by rfl) _ _ _ (by rfl) rb 0 #[.int .i64 9, .int .i64 0, .bool false, .int .i64 0, .int .i64 0, .string ⟨#[]⟩, .string ⟨#[]⟩, .string ⟨#[]⟩, .slice (none) 0 0, .slice (some ⟨w5.heap.size, 0, none⟩) 1 1] (by rfl) (by rfl) hth hsz (all_oneCell_toArray (List.all_eq_true.1 (by rfl))) ?_
             generalize hW9 : World.setCells _ _ _ _ = W9
             have HP9 := hide (show Blk W9 rb [.int .i64 9, .int .i64 0, .bool false, .int .i64 0, .int .i64 0, .string ⟨#[]⟩, .string ⟨#[]⟩, .string ⟨#[]⟩, .slice (none) 0 0, .slice (some ⟨w5.heap.size, 0, none⟩) 1 1] ∧ ExprPost B p lo R (d + 2) w (.returned (.agg #[.int .i64 9, .int .i64 0, .bool false, .int .i64 0, .int .i64 0, .string ⟨#[]⟩, .string ⟨#[]⟩, .string ⟨#[]⟩, .slice (none) 0 0, .slice (some ⟨w5.heap.size, 0, none⟩) 1 1])) W9 from by rw [← hW9]; exact HP.out)
             clear hW9 HP
             have rc := HP9.out.1.cells
             have r0 := rc 0 (by first | simp | simp [Z10])
             have r1 := rc 1 (by first | simp | simp [Z10])
             have r2 := rc 2 (by first | simp | simp [Z10])
             have r3 := rc 3 (by first | simp | simp [Z10])
             have r4 := rc 4 (by first | simp | simp [Z10])
             have r5 := rc 5 (by first | simp | simp [Z10])
             have r6 := rc 6 (by first | simp | simp [Z10])
             have r7 := rc 7 (by first | simp | simp [Z10])
             have r8 := rc 8 (by first | simp | simp [Z10])
             have r9 := rc 9 (by first | simp | simp [Z10])
             try simp only [Z10] at r0 r1 r2 r3 r4 r5 r6 r7 r8 r9
             simp only [Nat.zero_add, List.getElem_cons_zero, List.getElem_cons_succ] at r0 r1 r2 r3 r4 r5 r6 r7 r8 r9
             clear rc
             have fr := HP9.out.1.free))
        ((try simp only [Exit.inBlock, Exit.then]); refine bodyPost_ret (by simp [results, Try.results87, go_sem]; go_simp; rfl) rfl ?_)
        exact HP9.out.2
      · have hn1 : ¬ (1 : Int) < (n : Int) := by have := HNK.out; omega
        go_wp2_with fail
        refine (l1BelowC H3.out.dr.cur 14).mono ?_
        rintro e wa ⟨y, rfl, y0, y1, hc, hg⟩
        have y2 := y1 (by omega)
        have HB1 := hide (H3.out.step ((Dr.refl H3.out.dr.cur).step hc hg))
        clear hc hg y1
        have HC := hide (l7KidsC' IH HB1.out.dr.cur HB1.out.hp (Nat.le_trans hlo HB1.out.dr.grown.size) hpl 2 (by omega) (by omega) k hk hdd (n : Int) (by have := HNK.out; omega) 2 (by omega))
        go_wp2_with fail
        with_reducible refine HC.out.mono ?_
        rintro e wb ⟨g, kc, R2, rfl, hg, hh2, hx2, hd2⟩
        have HB2 := hide (HB1.out.post hh2 hx2 hd2)
        have HG := hide hg
        clear hh2 hx2 hd2 HC hg
        have hg := HG.out
        clear HG
        have rc := HB2.out.r.cells
        have r0 := rc 0 (by first | simp | simp [Z10])
        have r1 := rc 1 (by first | simp | simp [Z10])
        have r2 := rc 2 (by first | simp | simp [Z10])
        have r3 := rc 3 (by first | simp | simp [Z10])
        have r4 := rc 4 (by first | simp | simp [Z10])
        have r5 := rc 5 (by first | simp | simp [Z10])
        have r6 := rc 6 (by first | simp | simp [Z10])
        have r7 := rc 7 (by first | simp | simp [Z10])
        have r8 := rc 8 (by first | simp | simp [Z10])
        have r9 := rc 9 (by first | simp | simp [Z10])
        try simp only [Z10] at r0 r1 r2 r3 r4 r5 r6 r7 r8 r9
        simp only [Nat.zero_add, List.getElem_cons_zero, List.getElem_cons_succ] at r0 r1 r2 r3 r4 r5 r6 r7 r8 r9
        clear rc
        have fr := HB2.out.r.free
        go_wp2_with fail
        ((try simp only [Exit.inBlock, Exit.then]); refine bodyPost_ret (by simp [results, Try.results87, go_sem]; go_simp; rfl) rfl ?_)
        exact HB2.out.fin (x := ⟨4, (1 + y), false, 0, 0, ⟨#[]⟩, ⟨#[]⟩, ⟨#[]⟩, some ⟨g, 0, none⟩, 2, kc, none, 0, 0⟩) (KidOk.row hg (by omega) (by omega) (by omega) (Nat.le_refl _))
    · have g0 : (x == 0) = false := by simpa using n0
      have g1 : (x == 1) = false := by simpa using n1
      have g2 : (x == 2) = false := by simpa using n2
      have g3 : (x == 3) = false := by simpa using n3
      have g4 : (x == 4) = false := by simpa using n4
      have g5 : (x == 5) = false := by simpa using n5
      have g6 : (x == 6) = false := by simpa using n6
      clear n0 n1 n2 n3 n4 n5 n6
      go_wp2_with fail
      refine (l1BelowC H3.out.dr.cur 14).mono ?_
      rintro e wa ⟨y, rfl, y0, y1, hc, hg⟩
      have y2 := y1 (by omega)
      have HB1 := hide (H3.out.step ((Dr.refl H3.out.dr.cur).step hc hg))
      clear hc hg y1
      have HC := hide (l7KidsC' IH HB1.out.dr.cur HB1.out.hp (Nat.le_trans hlo HB1.out.dr.grown.size) hpl 2 (by omega) (by omega) k hk hdd (n : Int) (by have := HNK.out; omega) 2 (by omega))
      go_wp2_with fail
      with_reducible refine HC.out.mono ?_
      rintro e wb ⟨g, kc, R2, rfl, hg, hh2, hx2, hd2⟩
      have HB2 := hide (HB1.out.post hh2 hx2 hd2)
      have HG := hide hg
      clear hh2 hx2 hd2 HC hg
      have hg := HG.out
      clear HG
      have rc := HB2.out.r.cells
      have r0 := rc 0 (by first | simp | simp [Z10])
      have r1 := rc 1 (by first | simp | simp [Z10])
      have r2 := rc 2 (by first | simp | simp [Z10])
      have r3 := rc 3 (by first | simp | simp [Z10])
      have r4 := rc 4 (by first | simp | simp [Z10])
      have r5 := rc 5 (by first | simp | simp [Z10])
      have r6 := rc 6 (by first | simp | simp [Z10])
      have r7 := rc 7 (by first | simp | simp [Z10])
      have r8 := rc 8 (by first | simp | simp [Z10])
      have r9 := rc 9 (by first | simp | simp [Z10])
      try simp only [Z10] at r0 r1 r2 r3 r4 r5 r6 r7 r8 r9
      simp only [Nat.zero_add, List.getElem_cons_zero, List.getElem_cons_succ] at r0 r1 r2 r3 r4 r5 r6 r7 r8 r9
      clear rc
      have fr := HB2.out.r.free
      go_wp2_with fail
      ((try simp only [Exit.inBlock, Exit.then]); refine bodyPost_ret (by simp [results, Try.results87, go_sem]; go_simp; rfl) rfl ?_)
      exact HB2.out.fin (x := ⟨4, (1 + y), false, 0, 0, ⟨#[]⟩, ⟨#[]⟩, ⟨#[]⟩, some ⟨g, 0, none⟩, 2, kc, none, 0, 0⟩) (KidOk.row hg (by omega) (by omega) (by omega) (Nat.le_refl _))
  · go_wp2_with fail
    refine (l1OnceC H2.out.dr.cur _).mono ?_
    rintro e wl ⟨bl, rfl, hcl, hgl⟩
    have HL := hide (H2.out.step ((Dr.refl H2.out.dr.cur).step hcl hgl))
    clear hcl hgl
    cases bl
    · go_wp2_with fail
      refine (l7ValueC HL.out.dr.cur).mono ?_
      rintro e wm ⟨vk, vn, vt, rfl, hdm⟩
      have HM := hide (HL.out.step hdm)
      clear hdm
      have rc := HM.out.r.cells
      have r0 := rc 0 (by first | simp | simp [Z10])
      have r1 := rc 1 (by first | simp | simp [Z10])
      have r2 := rc 2 (by first | simp | simp [Z10])
      have r3 := rc 3 (by first | simp | simp [Z10])
      have r4 := rc 4 (by first | simp | simp [Z10])
      have r5 := rc 5 (by first | simp | simp [Z10])
      have r6 := rc 6 (by first | simp | simp [Z10])
      have r7 := rc 7 (by first | simp | simp [Z10])
      have r8 := rc 8 (by first | simp | simp [Z10])
      have r9 := rc 9 (by first | simp | simp [Z10])
      try simp only [Z10] at r0 r1 r2 r3 r4 r5 r6 r7 r8 r9
      simp only [Nat.zero_add, List.getElem_cons_zero, List.getElem_cons_succ] at r0 r1 r2 r3 r4 r5 r6 r7 r8 r9
      clear rc
      have fr := HM.out.r.free
      go_wp2_with fail
      ((try simp only [Exit.inBlock, Exit.then]); refine bodyPost_ret (by simp [results, Try.results87, go_sem]; go_simp; rfl) rfl ?_)
      exact HM.out.fin (x := ⟨1, 0, false, vk, vn, vt, ⟨#[]⟩, ⟨#[]⟩, none, 0, 0, none, 0, 0⟩) (KidOk.leaf _ _ _ _ _ _ _ _ _ _ _)
    · go_wp2_with fail
      refine (l7ColC HL.out.dr.cur).mono ?_
      rintro e wm ⟨qu, nm, rfl, hdm⟩
      have HM := hide (HL.out.step hdm)
      clear hdm
      have rc := HM.out.r.cells
      have r0 := rc 0 (by first | simp | simp [Z10])
      have r1 := rc 1 (by first | simp | simp [Z10])
      have r2 := rc 2 (by first | simp | simp [Z10])
      have r3 := rc 3 (by first | simp | simp [Z10])
      have r4 := rc 4 (by first | simp | simp [Z10])
      have r5 := rc 5 (by first | simp | simp [Z10])
      have r6 := rc 6 (by first | simp | simp [Z10])
      have r7 := rc 7 (by first | simp | simp [Z10])
      have r8 := rc 8 (by first | simp | simp [Z10])
      have r9 := rc 9 (by first | simp | simp [Z10])
      try simp only [Z10] at r0 r1 r2 r3 r4 r5 r6 r7 r8 r9
      simp only [Nat.zero_add, List.getElem_cons_zero, List.getElem_cons_succ] at r0 r1 r2 r3 r4 r5 r6 r7 r8 r9
      clear rc
      have fr := HM.out.r.free
      go_wp2_with fail
      ((try simp only [Exit.inBlock, Exit.then]); refine bodyPost_ret (by simp [results, Try.results87, go_sem]; go_simp; rfl) rfl ?_)
      exact HM.out.fin (x := ⟨2, 0, false, 0, 0, ⟨#[]⟩, qu, nm, none, 0, 0, none, 0, 0⟩) (KidOk.leaf _ _ _ _ _ _ _ _ _ _ _)

theorem l7ExprC {B p lo : Nat} (hpl : p < lo) : ∀ d : Nat, d ≤ 100 → ExprC B p lo d
  | 0, _ => fun w R deep hd h hh hlo => by
    have : deep = 0 := by omega
    subst this
    exact l7Expr0 h hh hlo hpl
  | d + 1, hd1 => fun w R deep hd h hh hlo => by
    by_cases h0 : deep = 0
    · subst h0
      exact l7Expr0 h hh hlo hpl
    · exact l7ExprS (l7ExprC hpl d (by omega)) (by omega) h hh hlo hpl deep (deep - 1) (by omega) (by omega)
end Go.Proofs.Ytfpoakdmclekoaa
