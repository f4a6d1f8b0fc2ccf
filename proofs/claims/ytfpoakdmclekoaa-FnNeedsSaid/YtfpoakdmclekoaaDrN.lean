/-
  l7Draw, l9Args, DrawNeeds: an expression drawn, and a kid's number.
-/
import Derived.Test.YtfpoakdmclekoaaDrZ
namespace Go.Proofs.Ytfpoakdmclekoaa
open Go Go.RowKit Go.Lib

/-- What a law needs to know of an expression that was drawn. -/
structure DrawnE (lo : Nat) (w : World) (x : EK) : Prop where
  few : x.m ≤ 1048576
  kids : 0 < x.m → ∃ g, x.ka = some ⟨g, 0, none⟩ ∧ (lo ≤ g ∧ g < w.heap.size) ∧ ∀ i, i < x.m → ∃ z : EK, z.m ≤ 1048576 ∧ cellsAt w g (i * 10) z.L
theorem DrawnE.stays {lo : Nat} {w w' : World} {x : EK} (h : DrawnE lo w x) (hs : w.heap.size ≤ w'.heap.size) (hb : ∀ g, lo ≤ g → g < w.heap.size → w'.heap[g]? = w.heap[g]?) : DrawnE lo w' x := by
  refine ⟨h.few, fun h0 => ?_⟩
  obtain ⟨g, h1, h2, h3⟩ := h.kids h0
  exact ⟨g, h1, ⟨h2.1, Nat.lt_of_lt_of_le h2.2 hs⟩, fun i hi => let ⟨z, k1, k2⟩ := h3 i hi; ⟨z, k1, k2.same (hb g h2.1 h2.2)⟩⟩
theorem DrawnE.below {lo : Nat} {w w' : World} {x : EK} (h : DrawnE lo w x) (hb : Below w.heap.size w w') : DrawnE lo w' x := h.stays hb.size fun g _ hg => hb.block g hg
theorem DrawnE.grown {lo : Nat} {w w' : World} {x : EK} {p : Nat} (h : DrawnE lo w x) (hg : w.grownBy w' (some p)) (hp : p < lo ∨ w.heap.size ≤ p) : DrawnE lo w' x := h.stays hg.size fun g h1 h2 => hg.block g h2 (fun e => by injection e with e; omega)
theorem DrawnE.less {lo lo' : Nat} {w : World} {x : EK} (h : DrawnE lo w x) (hl : lo' ≤ lo) : DrawnE lo' w x := ⟨h.few, fun h0 => let ⟨g, h1, h2, h3⟩ := h.kids h0; ⟨g, h1, ⟨Nat.le_trans hl h2.1, h2.2⟩, h3⟩⟩
theorem DrawnE.of {w : World} {lo n : Nat} {R : RM} {b : Bool} {x : EK} (hh : Hp w lo R b) (hk : KidOk R b n x) : DrawnE lo w x := by
  have hm : x.m ≤ 9 := by have := hk.few; split at this <;> omega
  refine ⟨by omega, fun h0 => ?_⟩
  rcases hk.kids with ⟨_, h2, _⟩ | ⟨g, r', l, h1, h2, _, _, h5⟩
  · omega
  · obtain ⟨hlo, _, _, h4, hel⟩ := hh.ex g r' l _ h2
    refine ⟨g, h1, ⟨hlo, h4.lt⟩, fun i hi => ?_⟩
    obtain ⟨z, k1, k2⟩ := hel i (by omega)
    exact ⟨z, by have := k1.few; split at this <;> omega, k2⟩

/-- A draw under way: the result's block rb is zero. -/
structure DSt (B p lo : Nat) (R : RM) (b : Bool) (w wr : World) (rb : Nat) : Prop where
  hp : Hp wr lo R b
  cur : Cur B wr p
  bel : Below w.heap.size w wr
  r : Blk wr rb Z10
  nr : R rb = none
  hrp : rb ≠ p
  hrw : w.heap.size ≤ rb
  hpl : p < lo
  hlo : lo ≤ wr.heap.size
  hB : w.heap.size ≤ B
section
variable {B p lo : Nat} {R : RM} {b : Bool} {w wr : World} {rb : Nat}
theorem DSt.post {w2 : World} {R2 : RM} (h : DSt B p lo R b w wr rb) (hh : Hp w2 lo R2 b) (hx : Ext wr.heap.size R R2) (hd : Dr B p wr w2) : DSt B p lo R2 b w w2 rb :=
  { h with
    hp := hh
    cur := hd.cur
    bel := Below.grown h.bel hd.grown h.bel.size (fun k hk => by injection hk with hk; subst hk; exact Nat.le_trans h.hB h.cur.low)
    r := h.r.grown hd.grown h.hrp
    nr := hx.no rb h.r.lt h.nr
    hlo := Nat.le_trans h.hlo hd.grown.size }
theorem DSt.step {w2 : World} (h : DSt B p lo R b w wr rb) (hd : Dr B p wr w2) : DSt B p lo R b w w2 rb := h.post (h.hp.dr hd h.hpl) (Ext.refl _ _) hd
theorem DSt.alloc (h : DSt B p lo R b w wr rb) (o : Obj) : DSt B p lo R b w (wr.alloc o) rb :=
  { h with hp := h.hp.alloc o, cur := h.cur.alloc' o, bel := h.bel.alloc h.bel.size o, r := h.r.alloc o, hlo := Nat.le_trans h.hlo (by simp) }
theorem DSt.weak (h : DSt B p lo R b w wr rb) : DSt B p lo R false w wr rb := { h with hp := h.hp.weak }
theorem DSt.bent {w2 : World} {R2 : RM} (h : DSt B p lo R b w wr rb) (hw : w.heap.size ≤ lo) (hh : Hp w2 lo R2 false) (hx : Ext wr.heap.size R R2) (hf : FrR p R wr w2) (hc : Cur B w2 p) : DSt B p lo R2 false w w2 rb :=
  { h with
    hp := hh
    cur := hc
    bel := ⟨hf.os.trans h.bel.os, hf.tape.trans h.bel.tape, hf.output.trans h.bel.output, Nat.le_trans h.bel.size hf.size, fun k hk => (hf.block k (Nat.lt_of_lt_of_le hk h.bel.size) (by have := h.cur.low; have := h.hB; omega) (h.hp.none_lo (by omega))).trans (h.bel.block k hk)⟩
    r := h.r.stays hf.size (hf.block rb h.r.lt h.hrp h.nr)
    nr := hx.no rb h.r.lt h.nr
    hlo := Nat.le_trans h.hlo hf.size }
theorem DSt.set (h : DSt B p lo R b w wr rb) {g : Nat} (hg : w.heap.size ≤ g) (hn : R g = none) (hgp : g ≠ p) (hgr : rb ≠ g) (hgB : B ≤ g) (o : Nat) (vs : List Value) : DSt B p lo R b w (wr.setCells g o vs) rb :=
  { h with hp := h.hp.sets hn o vs, cur := h.cur.other (grown_sets g o vs) hgB (Ne.symm hgp), bel := below_sets h.bel hg o vs, r := h.r.sets hgr o vs, hlo := by rw [size_sets]; exact h.hlo }
theorem DSt.fin {n : Nat} {x : EK} (h : DSt B p lo R b w wr rb) (hk : KidOk R b n x) : DrawnE lo (wr.setCells rb 0 x.L) x ∧ Below w.heap.size w (wr.setCells rb 0 x.L) :=
  ⟨DrawnE.of (h.hp.sets h.nr 0 x.L) hk, below_sets h.bel h.hrw 0 x.L⟩
end

set_option maxRecDepth 100000 in
set_option maxHeartbeats 4000000 in
theorem l7DrawC {B : Nat} {w : World} {a : Option Addr} {n : Nat} {z : Nat → Int} (c : Nat) (h : Code B w a n z) (hB : B ≤ w.heap.size) :
    Calls Try.prog 82 #[.slice a n c] w fun e w' => ∃ x : EK, e = .returned (.agg #[.int .i64 x.k, .int .i64 x.op, .bool x.ng, .int .i64 x.vk, .int .i64 x.vn, .string x.vt, .string x.qu, .string x.nm, .slice x.ka x.m x.kc, .slice x.sa x.ms x.sc]) ∧ DrawnE w.heap.size w' x ∧ Below w.heap.size w w' := by
  have hn := h.n1
  obtain ⟨rb, hrb⟩ : ∃ v, Hid (v = w.heap.size) := ⟨_, hide rfl⟩
  have hm := Blk.made w Z10 34
  rw [← hrb.out] at hm
  have HM := hide hm
  have HC := hide (And.intro h hB)
  clear hm h hB
  go_enter Try.func82, Try.ntmps82
  go_wp2_with fail
  refine (l1NewC (B := w.heap.size + 1) c (((HC.out.1.mono HC.out.2).below ((Below.refl w.heap.size w).alloc (Nat.le_refl _) _)).mono (by omega)) (by simp)).mono ?_
  rintro e w1 ⟨p, rfl, hc1, hb1⟩
  obtain ⟨lo, hlo⟩ : ∃ v, Hid (v = w1.heap.size) := ⟨_, hide rfl⟩
  have hplo := hc1.lt
  have hplw := hc1.low
  have hsz := hb1.size
  rw [← hlo.out] at hplo
  have hwlo : w.heap.size ≤ lo := by rw [hlo.out]; simp at hsz; omega
  have H1 := hide (show DSt (w.heap.size + 1) p lo (fun _ => none) true w w1 rb from
    { hp := ⟨(fun g r l c e => by cases e), (fun s e => by cases e)⟩, cur := hc1, bel := below_via ((Below.refl w.heap.size w).alloc (Nat.le_refl _) _) hb1, r := HM.out.below hb1, nr := rfl, hrp := by rw [hrb.out]; omega, hrw := Nat.le_of_eq hrb.out.symm, hpl := hplo, hlo := Nat.le_of_eq hlo.out, hB := by omega })
  clear hc1 hb1 HM hsz
  go_wp2_with fail
  (try rw [← hrb.out])
  refine (l1OnceC H1.out.cur _).mono ?_
  rintro e w2 ⟨q, rfl, hc, hg⟩
  have H2 := hide (H1.out.step ((Dr.refl H1.out.cur).step hc hg))
  clear hc hg H1
  cases q
  · go_wp2_with fail
    refine (l1SizeC a n c hn).mono ?_
    rintro e w9 ⟨y, rfl, y0, y1, rfl⟩
    go_wp2_with fail
    refine (l1BelowC H2.out.cur y).mono ?_
    rintro e w3 ⟨d, rfl, d0, d1, hc, hg⟩
    have d2 := d1 (by omega)
    obtain ⟨dd, rfl⟩ : ∃ q : Nat, d = q := ⟨d.toNat, by omega⟩
    have H3 := hide (H2.out.step ((Dr.refl H2.out.cur).step hc hg))
    clear hc hg d1 H2
    have HX := hide (l7ExprC hplo 4 (by omega) w3 (fun _ => none) dd (by omega) H3.out.cur H3.out.hp H3.out.hlo)
    go_wp2_with fail
    refine HX.out.mono ?_
    rintro e w4 ⟨x, R4, rfl, hk, hh4, hx4, hd4⟩
    obtain ⟨eb, heb⟩ : ∃ v, Hid (v = w4.heap.size) := ⟨_, hide rfl⟩
    have h4 := H3.out.post hh4 hx4 hd4
    have hen := h4.hp.new (Nat.le_of_eq heb.out.symm)
    have hep : eb ≠ p := by have := h4.cur.lt; have := heb.out; omega
    have her : rb ≠ eb := by have := h4.r.lt; have := heb.out; omega
    have hew : w.heap.size ≤ eb := by have := h4.bel.size; have := heb.out; omega
    have heB : w.heap.size + 1 ≤ eb := by have := h4.cur.lt; have := heb.out; omega
    have hm := Blk.made w4 x.L 34
    rw [← heb.out] at hm
    have H4 := hide (And.intro (h4.alloc (.cells x.L.toArray 34)) hm)
    have HK := hide hk
    clear h4 hh4 hx4 hd4 hm hk HX H3
    go_wp2_with fail
    (try rw [← heb.out])
    refine (l1OnceC H4.out.1.cur _).mono ?_
    rintro e w5 ⟨q, rfl, hc, hg⟩
    have H5 := hide (And.intro (H4.out.1.step ((Dr.refl H4.out.1.cur).step hc hg)) (H4.out.2.grown hg hep))
    clear hc hg H4
    cases q
    · have oc := H5.out.2.cells
      have o0 := oc 0 (by first | simp | simp [Z10] | simp [EK.L] | simp [EK.L, Z10])
      have o1 := oc 1 (by first | simp | simp [Z10] | simp [EK.L] | simp [EK.L, Z10])
      have o2 := oc 2 (by first | simp | simp [Z10] | simp [EK.L] | simp [EK.L, Z10])
      have o3 := oc 3 (by first | simp | simp [Z10] | simp [EK.L] | simp [EK.L, Z10])
      have o4 := oc 4 (by first | simp | simp [Z10] | simp [EK.L] | simp [EK.L, Z10])
      have o5 := oc 5 (by first | simp | simp [Z10] | simp [EK.L] | simp [EK.L, Z10])
      have o6 := oc 6 (by first | simp | simp [Z10] | simp [EK.L] | simp [EK.L, Z10])
      have o7 := oc 7 (by first | simp | simp [Z10] | simp [EK.L] | simp [EK.L, Z10])
      have o8 := oc 8 (by first | simp | simp [Z10] | simp [EK.L] | simp [EK.L, Z10])
      have o9 := oc 9 (by first | simp | simp [Z10] | simp [EK.L] | simp [EK.L, Z10])
      try simp only [EK.L] at o0 o1 o2 o3 o4 o5 o6 o7 o8 o9
      try simp only [Z10] at o0 o1 o2 o3 o4 o5 o6 o7 o8 o9
      simp only [Nat.zero_add, List.getElem_cons_zero, List.getElem_cons_succ] at o0 o1 o2 o3 o4 o5 o6 o7 o8 o9
      clear oc
      have fo := H5.out.2.free
      have rc := H5.out.1.r.cells
      have r0 := rc 0 (by first | simp | simp [Z10] | simp [EK.L] | simp [EK.L, Z10])
      have r1 := rc 1 (by first | simp | simp [Z10] | simp [EK.L] | simp [EK.L, Z10])
      have r2 := rc 2 (by first | simp | simp [Z10] | simp [EK.L] | simp [EK.L, Z10])
      have r3 := rc 3 (by first | simp | simp [Z10] | simp [EK.L] | simp [EK.L, Z10])
      have r4 := rc 4 (by first | simp | simp [Z10] | simp [EK.L] | simp [EK.L, Z10])
      have r5 := rc 5 (by first | simp | simp [Z10] | simp [EK.L] | simp [EK.L, Z10])
      have r6 := rc 6 (by first | simp | simp [Z10] | simp [EK.L] | simp [EK.L, Z10])
      have r7 := rc 7 (by first | simp | simp [Z10] | simp [EK.L] | simp [EK.L, Z10])
      have r8 := rc 8 (by first | simp | simp [Z10] | simp [EK.L] | simp [EK.L, Z10])
      have r9 := rc 9 (by first | simp | simp [Z10] | simp [EK.L] | simp [EK.L, Z10])
      try simp only [EK.L] at r0 r1 r2 r3 r4 r5 r6 r7 r8 r9
      try simp only [Z10] at r0 r1 r2 r3 r4 r5 r6 r7 r8 r9
      simp only [Nat.zero_add, List.getElem_cons_zero, List.getElem_cons_succ] at r0 r1 r2 r3 r4 r5 r6 r7 r8 r9
      clear rc
      have fr := H5.out.1.r.free
      go_wp2_with fail
      ((try simp only [Exit.inBlock, Exit.then]); refine bodyPost_ret (by simp [results, Try.results82, go_sem]; go_simp; rfl) rfl ?_)
      have h9 := H5.out.1.fin HK.out
      exact ⟨x, rfl, h9.1.less hwlo, h9.2⟩
    · have HB := hide (l7BentC hplo 5 w5 R4 x H5.out.1.cur H5.out.1.hp H5.out.1.hlo (by omega) HK.out)
      have oc := H5.out.2.cells
      have o0 := oc 0 (by first | simp | simp [Z10] | simp [EK.L] | simp [EK.L, Z10])
      have o1 := oc 1 (by first | simp | simp [Z10] | simp [EK.L] | simp [EK.L, Z10])
      have o2 := oc 2 (by first | simp | simp [Z10] | simp [EK.L] | simp [EK.L, Z10])
      have o3 := oc 3 (by first | simp | simp [Z10] | simp [EK.L] | simp [EK.L, Z10])
      have o4 := oc 4 (by first | simp | simp [Z10] | simp [EK.L] | simp [EK.L, Z10])
      have o5 := oc 5 (by first | simp | simp [Z10] | simp [EK.L] | simp [EK.L, Z10])
      have o6 := oc 6 (by first | simp | simp [Z10] | simp [EK.L] | simp [EK.L, Z10])
      have o7 := oc 7 (by first | simp | simp [Z10] | simp [EK.L] | simp [EK.L, Z10])
      have o8 := oc 8 (by first | simp | simp [Z10] | simp [EK.L] | simp [EK.L, Z10])
      have o9 := oc 9 (by first | simp | simp [Z10] | simp [EK.L] | simp [EK.L, Z10])
      try simp only [EK.L] at o0 o1 o2 o3 o4 o5 o6 o7 o8 o9
      try simp only [Z10] at o0 o1 o2 o3 o4 o5 o6 o7 o8 o9
      simp only [Nat.zero_add, List.getElem_cons_zero, List.getElem_cons_succ] at o0 o1 o2 o3 o4 o5 o6 o7 o8 o9
      clear oc
      have fo := H5.out.2.free
      go_wp2_with fail
      refine HB.out.mono ?_
      rintro e w6 ⟨y, R6, rfl, hky, hh6, hx6, hf6, hc6⟩
      have HS := hide (And.intro (H5.out.1.bent hwlo hh6 hx6 hf6 hc6) (H5.out.2.stays hf6.size (hf6.block eb H5.out.2.lt hep hen)))
      have hen6 := hx6.no eb H5.out.2.lt hen
      have HKY := hide hky
      clear o0 o1 o2 o3 o4 o5 o6 o7 o8 o9 fo hky hh6 hx6 hf6 hc6 HB
      have oc := HS.out.2.cells
      have o0 := oc 0 (by first | simp | simp [Z10] | simp [EK.L] | simp [EK.L, Z10])
      have o1 := oc 1 (by first | simp | simp [Z10] | simp [EK.L] | simp [EK.L, Z10])
      have o2 := oc 2 (by first | simp | simp [Z10] | simp [EK.L] | simp [EK.L, Z10])
      have o3 := oc 3 (by first | simp | simp [Z10] | simp [EK.L] | simp [EK.L, Z10])
      have o4 := oc 4 (by first | simp | simp [Z10] | simp [EK.L] | simp [EK.L, Z10])
      have o5 := oc 5 (by first | simp | simp [Z10] | simp [EK.L] | simp [EK.L, Z10])
      have o6 := oc 6 (by first | simp | simp [Z10] | simp [EK.L] | simp [EK.L, Z10])
      have o7 := oc 7 (by first | simp | simp [Z10] | simp [EK.L] | simp [EK.L, Z10])
      have o8 := oc 8 (by first | simp | simp [Z10] | simp [EK.L] | simp [EK.L, Z10])
      have o9 := oc 9 (by first | simp | simp [Z10] | simp [EK.L] | simp [EK.L, Z10])
      try simp only [EK.L] at o0 o1 o2 o3 o4 o5 o6 o7 o8 o9
      try simp only [Z10] at o0 o1 o2 o3 o4 o5 o6 o7 o8 o9
      simp only [Nat.zero_add, List.getElem_cons_zero, List.getElem_cons_succ] at o0 o1 o2 o3 o4 o5 o6 o7 o8 o9
      clear oc
      have fo := HS.out.2.free
      go_upto_region 7 with fail
      generalize hW7 : World.setCell _ _ _ = W7
      have H7 := hide (show DSt (w.heap.size + 1) p lo R6 false w W7 rb ∧ Blk W7 eb y.L from by
        rw [← hW7]
        exact ⟨HS.out.1.set hew hen6 hep her heB 0 y.L, HS.out.2.put y.L rfl⟩)
      clear hW7 o0 o1 o2 o3 o4 o5 o6 o7 o8 o9 fo HS
      have oc := H7.out.2.cells
      have o0 := oc 0 (by first | simp | simp [Z10] | simp [EK.L] | simp [EK.L, Z10])
      have o1 := oc 1 (by first | simp | simp [Z10] | simp [EK.L] | simp [EK.L, Z10])
      have o2 := oc 2 (by first | simp | simp [Z10] | simp [EK.L] | simp [EK.L, Z10])
      have o3 := oc 3 (by first | simp | simp [Z10] | simp [EK.L] | simp [EK.L, Z10])
      have o4 := oc 4 (by first | simp | simp [Z10] | simp [EK.L] | simp [EK.L, Z10])
      have o5 := oc 5 (by first | simp | simp [Z10] | simp [EK.L] | simp [EK.L, Z10])
      have o6 := oc 6 (by first | simp | simp [Z10] | simp [EK.L] | simp [EK.L, Z10])
      have o7 := oc 7 (by first | simp | simp [Z10] | simp [EK.L] | simp [EK.L, Z10])
      have o8 := oc 8 (by first | simp | simp [Z10] | simp [EK.L] | simp [EK.L, Z10])
      have o9 := oc 9 (by first | simp | simp [Z10] | simp [EK.L] | simp [EK.L, Z10])
      try simp only [EK.L] at o0 o1 o2 o3 o4 o5 o6 o7 o8 o9
      try simp only [Z10] at o0 o1 o2 o3 o4 o5 o6 o7 o8 o9
      simp only [Nat.zero_add, List.getElem_cons_zero, List.getElem_cons_succ] at o0 o1 o2 o3 o4 o5 o6 o7 o8 o9
      clear oc
      have fo := H7.out.2.free
      have rc := H7.out.1.r.cells
      have r0 := rc 0 (by first | simp | simp [Z10] | simp [EK.L] | simp [EK.L, Z10])
      have r1 := rc 1 (by first | simp | simp [Z10] | simp [EK.L] | simp [EK.L, Z10])
      have r2 := rc 2 (by first | simp | simp [Z10] | simp [EK.L] | simp [EK.L, Z10])
      have r3 := rc 3 (by first | simp | simp [Z10] | simp [EK.L] | simp [EK.L, Z10])
      have r4 := rc 4 (by first | simp | simp [Z10] | simp [EK.L] | simp [EK.L, Z10])
      have r5 := rc 5 (by first | simp | simp [Z10] | simp [EK.L] | simp [EK.L, Z10])
      have r6 := rc 6 (by first | simp | simp [Z10] | simp [EK.L] | simp [EK.L, Z10])
      have r7 := rc 7 (by first | simp | simp [Z10] | simp [EK.L] | simp [EK.L, Z10])
      have r8 := rc 8 (by first | simp | simp [Z10] | simp [EK.L] | simp [EK.L, Z10])
      have r9 := rc 9 (by first | simp | simp [Z10] | simp [EK.L] | simp [EK.L, Z10])
      try simp only [EK.L] at r0 r1 r2 r3 r4 r5 r6 r7 r8 r9
      try simp only [Z10] at r0 r1 r2 r3 r4 r5 r6 r7 r8 r9
      simp only [Nat.zero_add, List.getElem_cons_zero, List.getElem_cons_succ] at r0 r1 r2 r3 r4 r5 r6 r7 r8 r9
      clear rc
      have fr := H7.out.1.r.free
      go_wp2_with fail
      ((try simp only [Exit.inBlock, Exit.then]); refine bodyPost_ret (by simp [results, Try.results82, go_sem]; go_simp; rfl) rfl ?_)
      have h9 := H7.out.1.fin HKY.out
      exact ⟨y, rfl, h9.1.less hwlo, h9.2⟩
  · have HX := hide (l7DeepC H2.out.cur H2.out.hp H2.out.hlo hplo)
    go_wp2_with fail
    refine HX.out.mono ?_
    rintro e w4 ⟨x, R4, rfl, hk, hh4, hx4, hd4⟩
    have H4 := hide (H2.out.post hh4 hx4 hd4)
    have HK := hide hk
    clear hk hh4 hx4 hd4 HX H2
    have rc := H4.out.r.cells
    have r0 := rc 0 (by first | simp | simp [Z10] | simp [EK.L] | simp [EK.L, Z10])
    have r1 := rc 1 (by first | simp | simp [Z10] | simp [EK.L] | simp [EK.L, Z10])
    have r2 := rc 2 (by first | simp | simp [Z10] | simp [EK.L] | simp [EK.L, Z10])
    have r3 := rc 3 (by first | simp | simp [Z10] | simp [EK.L] | simp [EK.L, Z10])
    have r4 := rc 4 (by first | simp | simp [Z10] | simp [EK.L] | simp [EK.L, Z10])
    have r5 := rc 5 (by first | simp | simp [Z10] | simp [EK.L] | simp [EK.L, Z10])
    have r6 := rc 6 (by first | simp | simp [Z10] | simp [EK.L] | simp [EK.L, Z10])
    have r7 := rc 7 (by first | simp | simp [Z10] | simp [EK.L] | simp [EK.L, Z10])
    have r8 := rc 8 (by first | simp | simp [Z10] | simp [EK.L] | simp [EK.L, Z10])
    have r9 := rc 9 (by first | simp | simp [Z10] | simp [EK.L] | simp [EK.L, Z10])
    try simp only [EK.L] at r0 r1 r2 r3 r4 r5 r6 r7 r8 r9
    try simp only [Z10] at r0 r1 r2 r3 r4 r5 r6 r7 r8 r9
    simp only [Nat.zero_add, List.getElem_cons_zero, List.getElem_cons_succ] at r0 r1 r2 r3 r4 r5 r6 r7 r8 r9
    clear rc
    have fr := H4.out.r.free
    go_wp2_with fail
    ((try simp only [Exit.inBlock, Exit.then]); refine bodyPost_ret (by simp [results, Try.results82, go_sem]; go_simp; rfl) rfl ?_)
    have h9 := H4.out.fin HK.out
    exact ⟨x, rfl, h9.1.less hwlo, h9.2⟩
end Go.Proofs.Ytfpoakdmclekoaa
