/-
  l7Bent: a tree bent in place.
-/
import Derived.Test.YtfpoakdmclekoaaDrZp
import Derived.Deep.RegionLaw
import Derived.Deep.RegionLawGrows
import Derived.Deep.CutBlock
import Derived.Deep.DeepCutAuto
namespace Go.Proofs.Ytfpoakdmclekoaa
open Go Go.RowKit Go.Lib

def i7L : List Int := [0, 1, 14, 15, 16, 17, -1]
theorem pickI7C {B p : Nat} {w : World} (h : Cur B w p) (c : Nat) : Calls Try.prog 84 #[.pointer (some ⟨p, 0, none⟩), .slice (some ⟨w.heap.size, 0, none⟩) 7 c] (w.alloc (.cells #[.int .i64 0, .int .i64 1, .int .i64 14, .int .i64 15, .int .i64 16, .int .i64 17, .int .i64 (-1)] 3)) (fun e w' => ∃ y : Int, e = .returned (.int .i64 y) ∧ Dr B p (w.alloc (.cells #[.int .i64 0, .int .i64 1, .int .i64 14, .int .i64 15, .int .i64 16, .int .i64 17, .int .i64 (-1)] 3)) w') := by
  refine (l1PickIntC (f := fun j => i7L.getD j 0) (n := 7) (h.alloc' _) (by omega) (by omega) (by have := h.lt; omega) ?_).mono ?_
  · intro j hj
    match j, hj with
    | 0, _ => simp [go_sem]; rfl
    | 1, _ => simp [go_sem]; rfl
    | 2, _ => simp [go_sem]; rfl
    | 3, _ => simp [go_sem]; rfl
    | 4, _ => simp [go_sem]; rfl
    | 5, _ => simp [go_sem]; rfl
    | 6, _ => simp [go_sem]; rfl
  · rintro e w1 ⟨j, hj, rfl, hc1, hg1⟩
    exact ⟨_, rfl, hc1, hg1⟩
theorem KidOk.flds {R : RM} {b : Bool} {r : Nat} {k op : Int} {ng : Bool} {vk vn : Int} {vt qu nm : ByteArray} {k' op' : Int} {ng' : Bool} {vk' vn' : Int} {vt' qu' nm' : ByteArray} {ka : Option Addr} {m kc : Nat} {sa : Option Addr} {ms sc : Nat}
    (h : KidOk R b r ⟨k, op, ng, vk, vn, vt, qu, nm, ka, m, kc, sa, ms, sc⟩) : KidOk R b r ⟨k', op', ng', vk', vn', vt', qu', nm', ka, m, kc, sa, ms, sc⟩ := ⟨h.kids, h.few, h.sub⟩
theorem BSt.bent {B p lo : Nat} {R R' R2 : RM} {w wr w2 : World} {vb rb : Nat} {l : List Value} {b : Bool} (h : BSt B p lo R R' b w wr vb rb l) (hh : Hp w2 lo R2 false) (hx : Ext wr.heap.size R' R2) (hf : FrR p R' wr w2) (hc : Cur B w2 p) : BSt B p lo R R2 false w w2 vb rb l :=
  { h with
    hp := hh
    ext := h.ext.trans hx h.fr.size
    fr := h.fr.trans hf h.ext.no
    cur := hc
    nv := hx.no vb h.v.lt h.nv
    nr := hx.no rb h.r.lt h.nr
    v := h.v.stays hf.size (hf.block vb h.v.lt h.hvp h.nv)
    r := h.r.stays hf.size (hf.block rb h.r.lt h.hrp h.nr) }

theorem exists_listK {α : Type} (n : Nat) (Q : Nat → α → Prop) (h : ∀ i, i < n → ∃ z, Q i z) : ∃ xs : List α, xs.length = n ∧ ∀ i (h : i < xs.length), Q i xs[i] := by
  induction n with
  | zero => exact ⟨[], rfl, fun i h => absurd h (by simp)⟩
  | succ n ih =>
    obtain ⟨xs, hl, hq⟩ := ih fun i hi => h i (by omega)
    obtain ⟨z, hz⟩ := h n (by omega)
    refine ⟨xs ++ [z], by simp [hl], fun i hi => ?_⟩
    by_cases hin : i < xs.length
    · rw [List.getElem_append_left hin]; exact hq i hin
    · have : i = n := by simp at hi; omega
      subst this
      rw [List.getElem_append_right (by omega)]
      simpa using hz
theorem KidOk.rows {R : RM} {b : Bool} {n lo : Nat} {x : EK} {W : World} (hk : KidOk R b n x) (hh : Hp W lo R b) (hn : 1 ≤ n) : ∃ (r' : Nat) (xs : List EK), r' < n ∧ xs.length = x.m ∧ (∀ y ∈ xs, KidOk R b r' y) ∧ (x.ka = none → x.m = 0 ∧ x.kc = 0) ∧
    ∀ a, x.ka = some a → ∀ j u, (flatK xs)[j]? = some u → W.cell? (a.add j) = some u := by
  rcases hk.kids with ⟨h1, h2, h3⟩ | ⟨g, r', l, h1, h2, h3, h4, h5⟩
  · exact ⟨0, [], hn, by rw [h2]; rfl, (fun y hy => by cases hy), fun _ => ⟨h2, h3⟩, fun a ha => by rw [h1] at ha; cases ha⟩
  · obtain ⟨_, _, _, _, hel⟩ := hh.ex g r' l _ h2
    obtain ⟨xs, hl, hx⟩ := exists_listK x.m (fun i z => KidOk R b r' z ∧ cellsAt W g (i * 10) z.L) (fun i hi => hel i (by omega))
    refine ⟨r', xs, h3, hl, fun y hy => ?_, (fun e => by rw [h1] at e; cases e), fun a ha j u hj => ?_⟩
    · obtain ⟨i, hi, rfl⟩ := List.getElem_of_mem hy
      exact (hx i hi).1
    · rw [h1] at ha
      injection ha with ha
      subst ha
      have hjl : j < xs.length * 10 := by have := (List.getElem?_eq_some_iff.1 hj).1; rw [flatK_len] at this; exact this
      have hi : j / 10 < xs.length := by omega
      have hq : j % 10 < 10 := by omega
      have hjj : j / 10 * 10 + j % 10 = j := by omega
      rw [← hjj, flatK_get xs (j / 10) hi (j % 10) hq] at hj
      have hc := (hx (j / 10) hi).2 (j % 10) hq
      rw [List.getElem?_eq_getElem hq] at hj
      injection hj with hj
      rw [addr_at, Nat.zero_add, ← hj, ← hc, hjj]
theorem KidOk.subs {R : RM} {n lo : Nat} {x : EK} {W : World} (hk : KidOk R true n x) (hh : Hp W lo R true) : ∃ olds : List Value, olds.length = x.ms * 6 ∧ (x.sa = none → x.ms = 0 ∧ x.sc = 0) ∧ (x.sc < x.ms + 1 ∧ x.ms ≤ 1) ∧
    ∀ a, x.sa = some a → ∀ j u, olds[j]? = some u → W.cell? (a.add j) = some u := by
  rcases hk.sub rfl with ⟨h1, h2, h3⟩ | ⟨s, h1, h2, h3, h4⟩
  · exact ⟨[], by rw [h2]; rfl, fun _ => ⟨h2, h3⟩, by omega, fun a ha => by rw [h1] at ha; cases ha⟩
  · obtain ⟨_, hroom⟩ := hh.qu s h4
    obtain ⟨us, hl, hu⟩ := exists_listK 6 (fun i u => W.cell? ⟨s, i, none⟩ = some u) (fun i hi => hroom.has i hi)
    refine ⟨us, by rw [h2]; exact hl, (fun e => by rw [h1] at e; cases e), by omega, fun a ha j u hj => ?_⟩
    rw [h1] at ha
    injection ha with ha
    subst ha
    have hj2 := (List.getElem?_eq_some_iff.1 hj).1
    rw [List.getElem?_eq_getElem hj2] at hj
    injection hj with hj
    rw [addr_at, Nat.zero_add, ← hj]
    exact hu j hj2
theorem cell_alloc_of {W : World} {a : Addr} {u : Value} (o : Obj) (_t : Unit) (h : W.cell? a = some u) : (W.alloc o).cell? a = some u := by
  rw [World.cell?_alloc_lt W o a (World.block_lt_of_cell? W _ h)]; exact h
theorem BSt.grow {B p lo : Nat} {R R' : RM} {w wr w5 : World} {vb rb : Nat} {l : List Value} {g3 c3 r' : Nat} {xs : List EK} (h : BSt B p lo R R' true w wr vb rb l)
    (hown : w5.ownsRow wr.heap.size 34 10 (.slice (some ⟨g3, 0, none⟩) xs.length c3) xs.length (flatK xs)) (hg : wr.grownBy w5 none) (hx : ∀ y ∈ xs, KidOk R' false r' y) :
    BSt B p lo R (R'.put g3 (.ex r' xs.length c3)) false w w5 vb rb l := by
  obtain ⟨h1, h2, h3⟩ := Room.of_block hown
  obtain ⟨_, hel⟩ := owns_el hown
  exact ((h.weak.row hg (fun g e => by cases e)).addEx (h.hp.new h1) (Nat.le_trans h.fr.size h1) (by have := h.v.lt; omega) (by have := h.r.lt; omega) h2 h3 (fun i hi => ⟨xs[i], hx _ (List.getElem_mem _), hel i hi⟩)).1
theorem Try.infoQu : (Try.prog.info? 50).map (fun i => (i.zero, i.size, i.bytes)) = some (some (.agg #[.bool false, .slice none 0 0, .slice none 0 0, .slice none 0 0, .slice none 0 0, .int .i64 0]), 6, 112) := by kernel_rfl
theorem BSt.push {B p lo : Nat} {R R' : RM} {w wr : World} {vb rb : Nat} {l : List Value} {g r' len kc m : Nat} (h : BSt B p lo R R' true w wr vb rb l) (hg : R' g = some (.ex r' len kc)) (hml : m ≤ len) (hmk : m < kc) (y : EK) (hy : KidOk R' true r' y) (o : Obj) :
    (∀ j, j < y.L.length → ((wr.alloc o).cell? ⟨g, 0 + m * 10 + j, none⟩).isSome = true ∧ (wr.alloc o).frozen? ⟨g, 0 + m * 10 + j, none⟩ = false) ∧
    BSt B p lo R (R'.put g (.ex r' (max len (m + 1)) kc)) true w ((wr.alloc o).setCells g (0 + m * 10) y.L) vb rb l := by
  have h5 := h.alloc o
  have hr := (h5.hp.ex g r' len kc hg).2.2.2.1
  refine ⟨fun j hj => ?_, by rw [Nat.zero_add]; exact (h5.put hg hy hml hmk).1⟩
  have hj2 : j < 10 := hj
  obtain ⟨u, hu⟩ := hr.has (m * 10 + j) (by omega)
  rw [Nat.zero_add, hu]
  exact ⟨rfl, hr.free _⟩

def BentC (B p lo n : Nat) : Prop := ∀ (w : World) (R : RM) (x : EK), Cur B w p → Hp w lo R true → lo ≤ w.heap.size → 1 ≤ n → KidOk R true n x →
  Calls Try.prog 90 #[.pointer (some ⟨p, 0, none⟩), .agg #[.int .i64 x.k, .int .i64 x.op, .bool x.ng, .int .i64 x.vk, .int .i64 x.vn, .string x.vt, .string x.qu, .string x.nm, .slice x.ka x.m x.kc, .slice x.sa x.ms x.sc]] w (BentPost B p lo R n w)

set_option maxRecDepth 100000 in
set_option maxHeartbeats 40000000 in
theorem l7BentS {B p lo n : Nat} (IH : ∀ r, r < n → BentC B p lo r) (hpl : p < lo) : BentC B p lo n := by
  intro w R x h hh hlo h1n hk
  obtain ⟨k, op, ng, vk, vn, vt, qu, nm, ka, m, kc, sa, ms, sc⟩ := x
  have hm8 : m ≤ 8 := by simpa using hk.few
  obtain ⟨i0, hi, hz0, hz1, hz2⟩ := info_parts Try.infoEx
  obtain ⟨iq, hiq, hz0q, hz1q, hz2q⟩ := info_parts Try.infoQu
  obtain ⟨vb, hvb⟩ : ∃ v, Hid (v = w.heap.size) := ⟨_, hide rfl⟩
  obtain ⟨rb, hrb⟩ : ∃ v, Hid (v = w.heap.size + 1) := ⟨_, hide rfl⟩
  have hm2 := Blk.made w [.int .i64 k, .int .i64 op, .bool ng, .int .i64 vk, .int .i64 vn, .string vt, .string qu, .string nm, .slice ka m kc, .slice sa ms sc] 34
  have hm3 := Blk.made (w.alloc (.cells #[.int .i64 k, .int .i64 op, .bool ng, .int .i64 vk, .int .i64 vn, .string vt, .string qu, .string nm, .slice ka m kc, .slice sa ms sc] 34)) Z10 34
  rw [show (w.alloc (.cells #[.int .i64 k, .int .i64 op, .bool ng, .int .i64 vk, .int .i64 vn, .string vt, .string qu, .string nm, .slice ka m kc, .slice sa ms sc] 34)).heap.size = w.heap.size + 1 by simp, ← hrb.out] at hm3
  rw [← hvb.out] at hm2
  have H0 := hide (show BSt B p lo R R true w ((w.alloc (.cells #[.int .i64 k, .int .i64 op, .bool ng, .int .i64 vk, .int .i64 vn, .string vt, .string qu, .string nm, .slice ka m kc, .slice sa ms sc] 34)).alloc (.cells Z10.toArray 34)) vb rb [.int .i64 k, .int .i64 op, .bool ng, .int .i64 vk, .int .i64 vn, .string vt, .string qu, .string nm, .slice ka m kc, .slice sa ms sc] from
    { hp := (hh.alloc _).alloc _, ext := Ext.refl _ _, fr := ((FrR.refl p R w).grown (World.grownBy_alloc w _ none) (fun x e => by cases e)).grown (World.grownBy_alloc _ _ none) (fun x e => by cases e), cur := (h.alloc' _).alloc' _,
      nv := hh.new (Nat.le_of_eq hvb.out.symm), nr := hh.new (by have := hrb.out; omega), v := hm2.alloc _, r := hm3, hvp := by have := hvb.out; have := h.lt; omega, hrp := by have := hrb.out; have := h.lt; omega,
      hvr := by have := hvb.out; have := hrb.out; omega, hvw := Nat.le_of_eq hvb.out.symm, hrw := by have := hrb.out; omega, hpl := hpl, hlo := hlo })
  clear hm2 hm3
  go_enter Try.func90, Try.ntmps90
  go_upto_region 1 with fail
  (try rw [← hrb.out])
  (try rw [← hvb.out])
  generalize hW1 : World.alloc _ _ = W1
  have H1 := hide (show BSt B p lo R R true w W1 vb rb [.int .i64 k, .int .i64 op, .bool ng, .int .i64 vk, .int .i64 vn, .string vt, .string qu, .string nm, .slice ka m kc, .slice sa ms sc] from by rw [← hW1]; exact H0.out)
  clear hW1 H0
  go_cut [13] (fun c wx => ∃ q : Bool, c = .bool q ∧ (q = true → 0 < m) ∧ Hid (BSt B p lo R R true w wx vb rb [.int .i64 k, .int .i64 op, .bool ng, .int .i64 vk, .int .i64 vn, .string vt, .string qu, .string nm, .slice ka m kc, .slice sa ms sc]))
  case first =>
    have oc := H1.out.v.cells
    have o0 := oc 0 (by first | simp | simp [Z10])
    have o1 := oc 1 (by first | simp | simp [Z10])
    have o2 := oc 2 (by first | simp | simp [Z10])
    have o3 := oc 3 (by first | simp | simp [Z10])
    have o4 := oc 4 (by first | simp | simp [Z10])
    have o5 := oc 5 (by first | simp | simp [Z10])
    have o6 := oc 6 (by first | simp | simp [Z10])
    have o7 := oc 7 (by first | simp | simp [Z10])
    have o8 := oc 8 (by first | simp | simp [Z10])
    have o9 := oc 9 (by first | simp | simp [Z10])
    try simp only [Z10] at o0 o1 o2 o3 o4 o5 o6 o7 o8 o9
    simp only [Nat.zero_add, List.getElem_cons_zero, List.getElem_cons_succ] at o0 o1 o2 o3 o4 o5 o6 o7 o8 o9
    clear oc
    have fo := H1.out.v.free
    by_cases hm : 0 < m
    · have hm2 : (0 : Int) < (m : Int) := by omega
      go_wp2_with fail
      refine (l1OnceC H1.out.cur _).mono ?_
      rintro e w2 ⟨q, rfl, hc, hg⟩
      have H2 := hide (H1.out.step ((Dr.refl H1.out.cur).step hc hg))
      clear hc hg
      go_wp2_with fail
      go_meet
      case rel => exact ⟨q, rfl, fun _ => hm, H2.out⟩
    · have hm2 : ¬ (0 : Int) < (m : Int) := by omega
      go_wp2_with fail
      go_meet
      case rel => exact ⟨false, rfl, (fun e => by cases e), H1.out⟩
  case rest =>
  obtain ⟨q, rfl, hq, H2⟩ := hcut
  clear H1
  cases q
  · clear hq
    go_wp2_with fail
    refine (l1BelowC H2.out.cur 8).mono ?_
    rintro e w3 ⟨y, rfl, y0, y1, hc, hg⟩
    have H3 := hide (H2.out.step ((Dr.refl H2.out.cur).step hc hg))
    clear hc hg y1 H2
    have hy : y = 0 ∨ y = 1 ∨ y = 2 ∨ y = 3 ∨ y = 4 ∨ y = 5 ∨ y = 6 ∨ (y ≠ 0 ∧ y ≠ 1 ∧ y ≠ 2 ∧ y ≠ 3 ∧ y ≠ 4 ∧ y ≠ 5 ∧ y ≠ 6) := by omega
    rcases hy with rfl | rfl | rfl | rfl | rfl | rfl | rfl | ⟨n0, n1, n2, n3, n4, n5, n6⟩
    · go_wp2_with fail
      refine (l1BelowC H3.out.cur 12).mono ?_
      rintro e w4 ⟨y, rfl, y0, y1, hc, hgr⟩
      have y2 := y1 (by omega)
      have hyw : IntKind.i64.wrap (y - 1) = y - 1 := IntWalk.i64_in _ (by omega)
      have H4 := hide (H3.out.step ((Dr.refl H3.out.cur).step hc hgr))
      clear hc hgr y1
      have oc := H4.out.v.cells
      have o0 := oc 0 (by first | simp | simp [Z10])
      have o1 := oc 1 (by first | simp | simp [Z10])
      have o2 := oc 2 (by first | simp | simp [Z10])
      have o3 := oc 3 (by first | simp | simp [Z10])
      have o4 := oc 4 (by first | simp | simp [Z10])
      have o5 := oc 5 (by first | simp | simp [Z10])
      have o6 := oc 6 (by first | simp | simp [Z10])
      have o7 := oc 7 (by first | simp | simp [Z10])
      have o8 := oc 8 (by first | simp | simp [Z10])
      have o9 := oc 9 (by first | simp | simp [Z10])
      try simp only [Z10] at o0 o1 o2 o3 o4 o5 o6 o7 o8 o9
      simp only [Nat.zero_add, List.getElem_cons_zero, List.getElem_cons_succ] at o0 o1 o2 o3 o4 o5 o6 o7 o8 o9
      clear oc
      have fo := H4.out.v.free
      go_upto_region 21 with fail
      clear o0 o1 o2 o3 o4 o5 o6 o7 o8 o9 fo
      have H9 := hide (H4.out.set 0 (by simp) (.int .i64 (y - 1)))
      simp only [List.set_cons_zero] at H9
      generalize (w4.setCell ⟨vb, 0, none⟩ (.int .i64 (y - 1))) = W9 at H9 ⊢
      have oc := H9.out.v.cells
      have o0 := oc 0 (by first | simp | simp [Z10])
      have o1 := oc 1 (by first | simp | simp [Z10])
      have o2 := oc 2 (by first | simp | simp [Z10])
      have o3 := oc 3 (by first | simp | simp [Z10])
      have o4 := oc 4 (by first | simp | simp [Z10])
      have o5 := oc 5 (by first | simp | simp [Z10])
      have o6 := oc 6 (by first | simp | simp [Z10])
      have o7 := oc 7 (by first | simp | simp [Z10])
      have o8 := oc 8 (by first | simp | simp [Z10])
      have o9 := oc 9 (by first | simp | simp [Z10])
      try simp only [Z10] at o0 o1 o2 o3 o4 o5 o6 o7 o8 o9
      simp only [Nat.zero_add, List.getElem_cons_zero, List.getElem_cons_succ] at o0 o1 o2 o3 o4 o5 o6 o7 o8 o9
      clear oc
      have fo := H9.out.v.free
      have rc := H9.out.r.cells
      have r0 := rc 0 (by first | simp | simp [Z10])
      have r1 := rc 1 (by first | simp | simp [Z10])
      have r2 := rc 2 (by first | simp | simp [Z10])
      have r3 := rc 3 (by first | simp | simp [Z10])
      have r4 := rc 4 (by first | simp | simp [Z10])
      have r5 := rc 5 (by first | simp | simp [Z10])
      have r6 := rc 6 (by first | simp | simp [Z10])
      have r7 := rc 7 (by first | simp | simp [Z10])
      have r8 := rc 8 (by first | simp | simp [Z10])
      have r9 := rc 9 (by first | simp | simp [Z10])
      try simp only [Z10] at r0 r1 r2 r3 r4 r5 r6 r7 r8 r9
      simp only [Nat.zero_add, List.getElem_cons_zero, List.getElem_cons_succ] at r0 r1 r2 r3 r4 r5 r6 r7 r8 r9
      clear rc
      have fr := H9.out.r.free
      go_wp2_with fail
      ((try simp only [Exit.inBlock, Exit.then]); refine bodyPost_ret (by simp [results, Try.results90, go_sem]; go_simp; rfl) rfl ?_)
      exact H9.out.fin (y := ⟨(y - 1), op, ng, vk, vn, vt, qu, nm, ka, m, kc, sa, ms, sc⟩) (KidOk.flds hk.weak)
    · go_wp2_with fail
      refine (pickI7C H3.out.cur 7).mono ?_
      rintro e w4 ⟨y, rfl, hd4⟩
      have H4 := hide ((H3.out.alloc (.cells #[.int .i64 0, .int .i64 1, .int .i64 14, .int .i64 15, .int .i64 16, .int .i64 17, .int .i64 (-1)] 3)).step hd4)
      clear hd4
      have oc := H4.out.v.cells
      have o0 := oc 0 (by first | simp | simp [Z10])
      have o1 := oc 1 (by first | simp | simp [Z10])
      have o2 := oc 2 (by first | simp | simp [Z10])
      have o3 := oc 3 (by first | simp | simp [Z10])
      have o4 := oc 4 (by first | simp | simp [Z10])
      have o5 := oc 5 (by first | simp | simp [Z10])
      have o6 := oc 6 (by first | simp | simp [Z10])
      have o7 := oc 7 (by first | simp | simp [Z10])
      have o8 := oc 8 (by first | simp | simp [Z10])
      have o9 := oc 9 (by first | simp | simp [Z10])
      try simp only [Z10] at o0 o1 o2 o3 o4 o5 o6 o7 o8 o9
      simp only [Nat.zero_add, List.getElem_cons_zero, List.getElem_cons_succ] at o0 o1 o2 o3 o4 o5 o6 o7 o8 o9
      clear oc
      have fo := H4.out.v.free
      go_upto_region 21 with fail
      clear o0 o1 o2 o3 o4 o5 o6 o7 o8 o9 fo
      have H9 := hide (H4.out.set 1 (by simp) (.int .i64 y))
      simp only [List.set_cons_zero, List.set_cons_succ] at H9
      generalize (w4.setCell ⟨vb, 1, none⟩ (.int .i64 y)) = W9 at H9 ⊢
      have oc := H9.out.v.cells
      have o0 := oc 0 (by first | simp | simp [Z10])
      have o1 := oc 1 (by first | simp | simp [Z10])
      have o2 := oc 2 (by first | simp | simp [Z10])
      have o3 := oc 3 (by first | simp | simp [Z10])
      have o4 := oc 4 (by first | simp | simp [Z10])
      have o5 := oc 5 (by first | simp | simp [Z10])
      have o6 := oc 6 (by first | simp | simp [Z10])
      have o7 := oc 7 (by first | simp | simp [Z10])
      have o8 := oc 8 (by first | simp | simp [Z10])
      have o9 := oc 9 (by first | simp | simp [Z10])
      try simp only [Z10] at o0 o1 o2 o3 o4 o5 o6 o7 o8 o9
      simp only [Nat.zero_add, List.getElem_cons_zero, List.getElem_cons_succ] at o0 o1 o2 o3 o4 o5 o6 o7 o8 o9
      clear oc
      have fo := H9.out.v.free
      have rc := H9.out.r.cells
      have r0 := rc 0 (by first | simp | simp [Z10])
      have r1 := rc 1 (by first | simp | simp [Z10])
      have r2 := rc 2 (by first | simp | simp [Z10])
      have r3 := rc 3 (by first | simp | simp [Z10])
      have r4 := rc 4 (by first | simp | simp [Z10])
      have r5 := rc 5 (by first | simp | simp [Z10])
      have r6 := rc 6 (by first | simp | simp [Z10])
      have r7 := rc 7 (by first | simp | simp [Z10])
      have r8 := rc 8 (by first | simp | simp [Z10])
      have r9 := rc 9 (by first | simp | simp [Z10])
      try simp only [Z10] at r0 r1 r2 r3 r4 r5 r6 r7 r8 r9
      simp only [Nat.zero_add, List.getElem_cons_zero, List.getElem_cons_succ] at r0 r1 r2 r3 r4 r5 r6 r7 r8 r9
      clear rc
      have fr := H9.out.r.free
      go_wp2_with fail
      ((try simp only [Exit.inBlock, Exit.then]); refine bodyPost_ret (by simp [results, Try.results90, go_sem]; go_simp; rfl) rfl ?_)
      exact H9.out.fin (y := ⟨k, y, ng, vk, vn, vt, qu, nm, ka, m, kc, sa, ms, sc⟩) (KidOk.flds hk.weak)
    · have oc := H3.out.v.cells
      have o0 := oc 0 (by first | simp | simp [Z10])
      have o1 := oc 1 (by first | simp | simp [Z10])
      have o2 := oc 2 (by first | simp | simp [Z10])
      have o3 := oc 3 (by first | simp | simp [Z10])
      have o4 := oc 4 (by first | simp | simp [Z10])
      have o5 := oc 5 (by first | simp | simp [Z10])
      have o6 := oc 6 (by first | simp | simp [Z10])
      have o7 := oc 7 (by first | simp | simp [Z10])
      have o8 := oc 8 (by first | simp | simp [Z10])
      have o9 := oc 9 (by first | simp | simp [Z10])
      try simp only [Z10] at o0 o1 o2 o3 o4 o5 o6 o7 o8 o9
      simp only [Nat.zero_add, List.getElem_cons_zero, List.getElem_cons_succ] at o0 o1 o2 o3 o4 o5 o6 o7 o8 o9
      clear oc
      have fo := H3.out.v.free
      go_upto_region 21 with fail
      clear o0 o1 o2 o3 o4 o5 o6 o7 o8 o9 fo
      have H9 := hide (H3.out.set 2 (by simp) (.bool (!ng)))
      simp only [List.set_cons_zero, List.set_cons_succ] at H9
      generalize (w3.setCell ⟨vb, 2, none⟩ (.bool (!ng))) = W9 at H9 ⊢
      have oc := H9.out.v.cells
      have o0 := oc 0 (by first | simp | simp [Z10])
      have o1 := oc 1 (by first | simp | simp [Z10])
      have o2 := oc 2 (by first | simp | simp [Z10])
      have o3 := oc 3 (by first | simp | simp [Z10])
      have o4 := oc 4 (by first | simp | simp [Z10])
      have o5 := oc 5 (by first | simp | simp [Z10])
      have o6 := oc 6 (by first | simp | simp [Z10])
      have o7 := oc 7 (by first | simp | simp [Z10])
      have o8 := oc 8 (by first | simp | simp [Z10])
      have o9 := oc 9 (by first | simp | simp [Z10])
      try simp only [Z10] at o0 o1 o2 o3 o4 o5 o6 o7 o8 o9
      simp only [Nat.zero_add, List.getElem_cons_zero, List.getElem_cons_succ] at o0 o1 o2 o3 o4 o5 o6 o7 o8 o9
      clear oc
      have fo := H9.out.v.free
      have rc := H9.out.r.cells
      have r0 := rc 0 (by first | simp | simp [Z10])
      have r1 := rc 1 (by first | simp | simp [Z10])
      have r2 := rc 2 (by first | simp | simp [Z10])
      have r3 := rc 3 (by first | simp | simp [Z10])
      have r4 := rc 4 (by first | simp | simp [Z10])
      have r5 := rc 5 (by first | simp | simp [Z10])
      have r6 := rc 6 (by first | simp | simp [Z10])
      have r7 := rc 7 (by first | simp | simp [Z10])
      have r8 := rc 8 (by first | simp | simp [Z10])
      have r9 := rc 9 (by first | simp | simp [Z10])
      try simp only [Z10] at r0 r1 r2 r3 r4 r5 r6 r7 r8 r9
      simp only [Nat.zero_add, List.getElem_cons_zero, List.getElem_cons_succ] at r0 r1 r2 r3 r4 r5 r6 r7 r8 r9
      clear rc
      have fr := H9.out.r.free
      go_wp2_with fail
      ((try simp only [Exit.inBlock, Exit.then]); refine bodyPost_ret (by simp [results, Try.results90, go_sem]; go_simp; rfl) rfl ?_)
      exact H9.out.fin (y := ⟨k, op, (!ng), vk, vn, vt, qu, nm, ka, m, kc, sa, ms, sc⟩) (KidOk.flds hk.weak)
    · go_wp2_with fail
      refine (l5BentC H3.out.cur).mono ?_
      rintro e w4 ⟨a1, a2, a3, rfl, _, _, _, _, hd4⟩
      have H4 := hide (H3.out.step hd4)
      clear hd4
      have oc := H4.out.v.cells
      have o0 := oc 0 (by first | simp | simp [Z10])
      have o1 := oc 1 (by first | simp | simp [Z10])
      have o2 := oc 2 (by first | simp | simp [Z10])
      have o3 := oc 3 (by first | simp | simp [Z10])
      have o4 := oc 4 (by first | simp | simp [Z10])
      have o5 := oc 5 (by first | simp | simp [Z10])
      have o6 := oc 6 (by first | simp | simp [Z10])
      have o7 := oc 7 (by first | simp | simp [Z10])
      have o8 := oc 8 (by first | simp | simp [Z10])
      have o9 := oc 9 (by first | simp | simp [Z10])
      try simp only [Z10] at o0 o1 o2 o3 o4 o5 o6 o7 o8 o9
      simp only [Nat.zero_add, List.getElem_cons_zero, List.getElem_cons_succ] at o0 o1 o2 o3 o4 o5 o6 o7 o8 o9
      clear oc
      have fo := H4.out.v.free
      go_upto_region 21 with fail
      clear o0 o1 o2 o3 o4 o5 o6 o7 o8 o9 fo
      have H9 := hide (((H4.out.set 3 (by simp) (.int .i64 a1)).set 4 (by simp) (.int .i64 a2)).set 5 (by simp) (.string a3))
      simp only [List.set_cons_zero, List.set_cons_succ] at H9
      generalize (((w4.setCell ⟨vb, 3, none⟩ (.int .i64 a1)).setCell ⟨vb, 4, none⟩ (.int .i64 a2)).setCell ⟨vb, 5, none⟩ (.string a3)) = W9 at H9 ⊢
      have oc := H9.out.v.cells
      have o0 := oc 0 (by first | simp | simp [Z10])
      have o1 := oc 1 (by first | simp | simp [Z10])
      have o2 := oc 2 (by first | simp | simp [Z10])
      have o3 := oc 3 (by first | simp | simp [Z10])
      have o4 := oc 4 (by first | simp | simp [Z10])
      have o5 := oc 5 (by first | simp | simp [Z10])
      have o6 := oc 6 (by first | simp | simp [Z10])
      have o7 := oc 7 (by first | simp | simp [Z10])
      have o8 := oc 8 (by first | simp | simp [Z10])
      have o9 := oc 9 (by first | simp | simp [Z10])
      try simp only [Z10] at o0 o1 o2 o3 o4 o5 o6 o7 o8 o9
      simp only [Nat.zero_add, List.getElem_cons_zero, List.getElem_cons_succ] at o0 o1 o2 o3 o4 o5 o6 o7 o8 o9
      clear oc
      have fo := H9.out.v.free
      have rc := H9.out.r.cells
      have r0 := rc 0 (by first | simp | simp [Z10])
      have r1 := rc 1 (by first | simp | simp [Z10])
      have r2 := rc 2 (by first | simp | simp [Z10])
      have r3 := rc 3 (by first | simp | simp [Z10])
      have r4 := rc 4 (by first | simp | simp [Z10])
      have r5 := rc 5 (by first | simp | simp [Z10])
      have r6 := rc 6 (by first | simp | simp [Z10])
      have r7 := rc 7 (by first | simp | simp [Z10])
      have r8 := rc 8 (by first | simp | simp [Z10])
      have r9 := rc 9 (by first | simp | simp [Z10])
      try simp only [Z10] at r0 r1 r2 r3 r4 r5 r6 r7 r8 r9
      simp only [Nat.zero_add, List.getElem_cons_zero, List.getElem_cons_succ] at r0 r1 r2 r3 r4 r5 r6 r7 r8 r9
      clear rc
      have fr := H9.out.r.free
      go_wp2_with fail
      ((try simp only [Exit.inBlock, Exit.then]); refine bodyPost_ret (by simp [results, Try.results90, go_sem]; go_simp; rfl) rfl ?_)
      exact H9.out.fin (y := ⟨k, op, ng, a1, a2, a3, qu, nm, ka, m, kc, sa, ms, sc⟩) (KidOk.flds hk.weak)
    · go_wp2_with fail
      refine (l2AnyC H3.out.cur).mono ?_
      rintro e w4 ⟨s, rfl, _, hd4⟩
      have H4 := hide (H3.out.step hd4)
      clear hd4
      have oc := H4.out.v.cells
      have o0 := oc 0 (by first | simp | simp [Z10])
      have o1 := oc 1 (by first | simp | simp [Z10])
      have o2 := oc 2 (by first | simp | simp [Z10])
      have o3 := oc 3 (by first | simp | simp [Z10])
      have o4 := oc 4 (by first | simp | simp [Z10])
      have o5 := oc 5 (by first | simp | simp [Z10])
      have o6 := oc 6 (by first | simp | simp [Z10])
      have o7 := oc 7 (by first | simp | simp [Z10])
      have o8 := oc 8 (by first | simp | simp [Z10])
      have o9 := oc 9 (by first | simp | simp [Z10])
      try simp only [Z10] at o0 o1 o2 o3 o4 o5 o6 o7 o8 o9
      simp only [Nat.zero_add, List.getElem_cons_zero, List.getElem_cons_succ] at o0 o1 o2 o3 o4 o5 o6 o7 o8 o9
      clear oc
      have fo := H4.out.v.free
      go_upto_region 21 with fail
      clear o0 o1 o2 o3 o4 o5 o6 o7 o8 o9 fo
      have H9 := hide (H4.out.set 7 (by simp) (.string s))
      simp only [List.set_cons_zero, List.set_cons_succ] at H9
      generalize (w4.setCell ⟨vb, 7, none⟩ (.string s)) = W9 at H9 ⊢
      have oc := H9.out.v.cells
      have o0 := oc 0 (by first | simp | simp [Z10])
      have o1 := oc 1 (by first | simp | simp [Z10])
      have o2 := oc 2 (by first | simp | simp [Z10])
      have o3 := oc 3 (by first | simp | simp [Z10])
      have o4 := oc 4 (by first | simp | simp [Z10])
      have o5 := oc 5 (by first | simp | simp [Z10])
      have o6 := oc 6 (by first | simp | simp [Z10])
      have o7 := oc 7 (by first | simp | simp [Z10])
      have o8 := oc 8 (by first | simp | simp [Z10])
      have o9 := oc 9 (by first | simp | simp [Z10])
      try simp only [Z10] at o0 o1 o2 o3 o4 o5 o6 o7 o8 o9
      simp only [Nat.zero_add, List.getElem_cons_zero, List.getElem_cons_succ] at o0 o1 o2 o3 o4 o5 o6 o7 o8 o9
      clear oc
      have fo := H9.out.v.free
      have rc := H9.out.r.cells
      have r0 := rc 0 (by first | simp | simp [Z10])
      have r1 := rc 1 (by first | simp | simp [Z10])
      have r2 := rc 2 (by first | simp | simp [Z10])
      have r3 := rc 3 (by first | simp | simp [Z10])
      have r4 := rc 4 (by first | simp | simp [Z10])
      have r5 := rc 5 (by first | simp | simp [Z10])
      have r6 := rc 6 (by first | simp | simp [Z10])
      have r7 := rc 7 (by first | simp | simp [Z10])
      have r8 := rc 8 (by first | simp | simp [Z10])
      have r9 := rc 9 (by first | simp | simp [Z10])
      try simp only [Z10] at r0 r1 r2 r3 r4 r5 r6 r7 r8 r9
      simp only [Nat.zero_add, List.getElem_cons_zero, List.getElem_cons_succ] at r0 r1 r2 r3 r4 r5 r6 r7 r8 r9
      clear rc
      have fr := H9.out.r.free
      go_wp2_with fail
      ((try simp only [Exit.inBlock, Exit.then]); refine bodyPost_ret (by simp [results, Try.results90, go_sem]; go_simp; rfl) rfl ?_)
      exact H9.out.fin (y := ⟨k, op, ng, vk, vn, vt, qu, s, ka, m, kc, sa, ms, sc⟩) (KidOk.flds hk.weak)
    · go_wp2_with fail
      refine (l2AnyC H3.out.cur).mono ?_
      rintro e w4 ⟨s, rfl, _, hd4⟩
      have H4 := hide (H3.out.step hd4)
      clear hd4
      have oc := H4.out.v.cells
      have o0 := oc 0 (by first | simp | simp [Z10])
      have o1 := oc 1 (by first | simp | simp [Z10])
      have o2 := oc 2 (by first | simp | simp [Z10])
      have o3 := oc 3 (by first | simp | simp [Z10])
      have o4 := oc 4 (by first | simp | simp [Z10])
      have o5 := oc 5 (by first | simp | simp [Z10])
      have o6 := oc 6 (by first | simp | simp [Z10])
      have o7 := oc 7 (by first | simp | simp [Z10])
      have o8 := oc 8 (by first | simp | simp [Z10])
      have o9 := oc 9 (by first | simp | simp [Z10])
      try simp only [Z10] at o0 o1 o2 o3 o4 o5 o6 o7 o8 o9
      simp only [Nat.zero_add, List.getElem_cons_zero, List.getElem_cons_succ] at o0 o1 o2 o3 o4 o5 o6 o7 o8 o9
      clear oc
      have fo := H4.out.v.free
      go_upto_region 21 with fail
      clear o0 o1 o2 o3 o4 o5 o6 o7 o8 o9 fo
      have H9 := hide (H4.out.set 6 (by simp) (.string s))
      simp only [List.set_cons_zero, List.set_cons_succ] at H9
      generalize (w4.setCell ⟨vb, 6, none⟩ (.string s)) = W9 at H9 ⊢
      have oc := H9.out.v.cells
      have o0 := oc 0 (by first | simp | simp [Z10])
      have o1 := oc 1 (by first | simp | simp [Z10])
      have o2 := oc 2 (by first | simp | simp [Z10])
      have o3 := oc 3 (by first | simp | simp [Z10])
      have o4 := oc 4 (by first | simp | simp [Z10])
      have o5 := oc 5 (by first | simp | simp [Z10])
      have o6 := oc 6 (by first | simp | simp [Z10])
      have o7 := oc 7 (by first | simp | simp [Z10])
      have o8 := oc 8 (by first | simp | simp [Z10])
      have o9 := oc 9 (by first | simp | simp [Z10])
      try simp only [Z10] at o0 o1 o2 o3 o4 o5 o6 o7 o8 o9
      simp only [Nat.zero_add, List.getElem_cons_zero, List.getElem_cons_succ] at o0 o1 o2 o3 o4 o5 o6 o7 o8 o9
      clear oc
      have fo := H9.out.v.free
      have rc := H9.out.r.cells
      have r0 := rc 0 (by first | simp | simp [Z10])
      have r1 := rc 1 (by first | simp | simp [Z10])
      have r2 := rc 2 (by first | simp | simp [Z10])
      have r3 := rc 3 (by first | simp | simp [Z10])
      have r4 := rc 4 (by first | simp | simp [Z10])
      have r5 := rc 5 (by first | simp | simp [Z10])
      have r6 := rc 6 (by first | simp | simp [Z10])
      have r7 := rc 7 (by first | simp | simp [Z10])
      have r8 := rc 8 (by first | simp | simp [Z10])
      have r9 := rc 9 (by first | simp | simp [Z10])
      try simp only [Z10] at r0 r1 r2 r3 r4 r5 r6 r7 r8 r9
      simp only [Nat.zero_add, List.getElem_cons_zero, List.getElem_cons_succ] at r0 r1 r2 r3 r4 r5 r6 r7 r8 r9
      clear rc
      have fr := H9.out.r.free
      go_wp2_with fail
      ((try simp only [Exit.inBlock, Exit.then]); refine bodyPost_ret (by simp [results, Try.results90, go_sem]; go_simp; rfl) rfl ?_)
      exact H9.out.fin (y := ⟨k, op, ng, vk, vn, vt, s, nm, ka, m, kc, sa, ms, sc⟩) (KidOk.flds hk.weak)
    · by_cases hroom : m + 1 ≤ kc
      · have hnil : ¬ (ka = none ∧ m = 0 ∧ kc = 0) := by omega
        rcases hk.kids with h0 | ⟨g, r', len, hka, hg, hr, hm0, hml⟩
        · exact absurd h0 hnil
        have hka2 : ka = some ⟨g, 0, none⟩ := hka
        subst hka2
        replace hg : R g = some (.ex r' len kc) := hg
        replace hml : m ≤ len := hml
        replace hm0 : 0 < m := hm0
        have HSD := hide H3.out.drew
        have hC := hide (l7ColC H3.out.drew.cur)
        have hvl := H3.out.v.lt
        have oc := H3.out.v.cells
        have o0 := oc 0 (by first | simp | simp [Z10])
        have o1 := oc 1 (by first | simp | simp [Z10])
        have o2 := oc 2 (by first | simp | simp [Z10])
        have o3 := oc 3 (by first | simp | simp [Z10])
        have o4 := oc 4 (by first | simp | simp [Z10])
        have o5 := oc 5 (by first | simp | simp [Z10])
        have o6 := oc 6 (by first | simp | simp [Z10])
        have o7 := oc 7 (by first | simp | simp [Z10])
        have o8 := oc 8 (by first | simp | simp [Z10])
        have o9 := oc 9 (by first | simp | simp [Z10])
        try simp only [Z10] at o0 o1 o2 o3 o4 o5 o6 o7 o8 o9
        simp only [Nat.zero_add, List.getElem_cons_zero, List.getElem_cons_succ] at o0 o1 o2 o3 o4 o5 o6 o7 o8 o9
        clear oc
        have fo := H3.out.v.free
        go_wp2_with fail
        go_region_law (first
          | (refine step_append_room (by rfl) _ _ _ (by rfl) 34 i0 10 Try.underlying31 hi hz1 g 0 m kc (by rfl) ⟨w4.heap.size, 0, none⟩ 1 1 [.int .i64 2, .int .i64 0, .bool false, .int .i64 0, .int .i64 0, .string ⟨#[]⟩, .string cq, .string cn, .slice none 0 0, .slice none 0 0] (by rfl) (by rfl) (news_of w4 [.int .i64 2, .int .i64 0, .bool false, .int .i64 0, .int .i64 0, .string ⟨#[]⟩, .string cq, .string cn, .slice none 0 0, .slice none 0 0] _) (List.all_eq_true.1 (by rfl)) hroom HPU.out.1 ?_
             generalize hW5 : World.setCells _ _ _ _ = W5
             have HU := hide (show BSt B p lo R (R.put g (.ex r' (max len (m + 1)) kc)) true w W5 vb rb [.int .i64 k, .int .i64 op, .bool ng, .int .i64 vk, .int .i64 vn, .string vt, .string qu, .string nm, .slice (some ⟨g, 0, none⟩) m kc, .slice sa ms sc] from by rw [← hW5]; exact HPU.out.2)
             have t9 : W5.cell? ⟨vb, 8, none⟩ = some (.slice (some ⟨g, 0, none⟩) m kc) := by simpa using HU.out.v.cells 8 (by simp)
             have ft := HU.out.v.free
             clear hW5 HPU)
          | (go_simp
             go_at_call 91
             refine hC.out.mono ?_
             rintro e w4 ⟨cq, cn, rfl, hd4⟩
             have H4 := hide (HSD.out.step hd4)
             have t8 : w4.cell? ⟨vb, 8, none⟩ = some (.slice (some ⟨g, 0, none⟩) m kc) := by simpa using H4.out.v.cells 8 (by simp)
             have hv4 := H4.out.v.lt
             clear hd4
             have HPU := hide (H4.out.push hg hml hroom ⟨2, 0, false, 0, 0, ⟨#[]⟩, cq, cn, none, 0, 0, none, 0, 0⟩ (KidOk.leaf _ _ _ _ _ _ _ _ _ _ _) (.cells #[.int .i64 2, .int .i64 0, .bool false, .int .i64 0, .int .i64 0, .string ⟨#[]⟩, .string cq, .string cn, .slice none 0 0, .slice none 0 0] 34))))
        all_goals
          clear o0 o1 o2 o3 o4 o5 o6 o7 o8 o9 fo t8
          have H9 := hide (HU.out.set 8 (by simp) (.slice (some ⟨g, 0, none⟩) (m + 1) kc))
          simp only [List.set_cons_zero, List.set_cons_succ] at H9
          have hko := hide (show KidOk (R.put g (.ex r' (max len (m + 1)) kc)) false n ⟨k, op, ng, vk, vn, vt, qu, nm, some ⟨g, 0, none⟩, m + 1, kc, sa, ms, sc⟩ from ⟨.inr ⟨g, r', _, rfl, RM.put_at _ _ _, hr, Nat.succ_pos _, Nat.le_max_right _ _⟩, by have := hk.few; simp at this ⊢; omega, fun e => by cases e⟩)
          clear HU
          go_upto_region 21 with fail
          generalize W5.setCell ⟨vb, 8, none⟩ (.slice (some ⟨g, 0, none⟩) (m + 1) kc) = W9 at H9 ⊢
          clear t9 ft
          have oc := H9.out.v.cells
          have o0 := oc 0 (by first | simp | simp [Z10])
          have o1 := oc 1 (by first | simp | simp [Z10])
          have o2 := oc 2 (by first | simp | simp [Z10])
          have o3 := oc 3 (by first | simp | simp [Z10])
          have o4 := oc 4 (by first | simp | simp [Z10])
          have o5 := oc 5 (by first | simp | simp [Z10])
          have o6 := oc 6 (by first | simp | simp [Z10])
          have o7 := oc 7 (by first | simp | simp [Z10])
          have o8 := oc 8 (by first | simp | simp [Z10])
          have o9 := oc 9 (by first | simp | simp [Z10])
          try simp only [Z10] at o0 o1 o2 o3 o4 o5 o6 o7 o8 o9
          simp only [Nat.zero_add, List.getElem_cons_zero, List.getElem_cons_succ] at o0 o1 o2 o3 o4 o5 o6 o7 o8 o9
          clear oc
          have fo := H9.out.v.free
          have rc := H9.out.r.cells
          have r0 := rc 0 (by first | simp | simp [Z10])
          have r1 := rc 1 (by first | simp | simp [Z10])
          have r2 := rc 2 (by first | simp | simp [Z10])
          have r3 := rc 3 (by first | simp | simp [Z10])
          have r4 := rc 4 (by first | simp | simp [Z10])
          have r5 := rc 5 (by first | simp | simp [Z10])
          have r6 := rc 6 (by first | simp | simp [Z10])
          have r7 := rc 7 (by first | simp | simp [Z10])
          have r8 := rc 8 (by first | simp | simp [Z10])
          have r9 := rc 9 (by first | simp | simp [Z10])
          try simp only [Z10] at r0 r1 r2 r3 r4 r5 r6 r7 r8 r9
          simp only [Nat.zero_add, List.getElem_cons_zero, List.getElem_cons_succ] at r0 r1 r2 r3 r4 r5 r6 r7 r8 r9
          clear rc
          have fr := H9.out.r.free
          go_wp2_with fail
          ((try simp only [Exit.inBlock, Exit.then]); refine bodyPost_ret (by simp [results, Try.results90, go_sem]; go_simp; rfl) rfl ?_)
          exact H9.out.fin (y := ⟨k, op, ng, vk, vn, vt, qu, nm, some ⟨g, 0, none⟩, m + 1, kc, sa, ms, sc⟩) hko.out
      · have hfull : kc < m + 1 := by omega
        have HSD := hide H3.out.drew
        have hC := hide (l7ColC H3.out.drew.cur)
        have hvl := H3.out.v.lt
        have oc := H3.out.v.cells
        have o0 := oc 0 (by first | simp | simp [Z10])
        have o1 := oc 1 (by first | simp | simp [Z10])
        have o2 := oc 2 (by first | simp | simp [Z10])
        have o3 := oc 3 (by first | simp | simp [Z10])
        have o4 := oc 4 (by first | simp | simp [Z10])
        have o5 := oc 5 (by first | simp | simp [Z10])
        have o6 := oc 6 (by first | simp | simp [Z10])
        have o7 := oc 7 (by first | simp | simp [Z10])
        have o8 := oc 8 (by first | simp | simp [Z10])
        have o9 := oc 9 (by first | simp | simp [Z10])
        try simp only [Z10] at o0 o1 o2 o3 o4 o5 o6 o7 o8 o9
        simp only [Nat.zero_add, List.getElem_cons_zero, List.getElem_cons_succ] at o0 o1 o2 o3 o4 o5 o6 o7 o8 o9
        clear oc
        have fo := H3.out.v.free
        go_wp2_with fail
        go_region_law (first
          | (refine step_append_grows (by rfl) _ _ _ (by rfl) 34 i0 _ 10 136 Try.underlying31 hi hz0 hz1 hz2 rfl (by decide) ka m kc (flatK xs) (by rfl) hnone hxl holds ⟨w4.heap.size, 0, none⟩ 1 1 [.int .i64 2, .int .i64 0, .bool false, .int .i64 0, .int .i64 0, .string ⟨#[]⟩, .string cq, .string cn, .slice none 0 0, .slice none 0 0] (by rfl) (by rfl) (news_of w4 [.int .i64 2, .int .i64 0, .bool false, .int .i64 0, .int .i64 0, .string ⟨#[]⟩, .string cq, .string cn, .slice none 0 0, .slice none 0 0] _) (List.all_eq_true.1 (by rfl)) hfull (by unfold maxLen; omega) (by omega) ?_
             intro v5 W5 hown5 hgrow5
             obtain ⟨g3, c3, rfl⟩ := owns_pos hown5 (by omega)
             have HU := hide (h4a.out.grow (xs := xs ++ [⟨2, 0, false, 0, 0, ⟨#[]⟩, cq, cn, none, 0, 0, none, 0, 0⟩]) (g3 := g3) (c3 := c3) (r' := r') (by rw [flatK_snoc, List.length_append, hxm.out]; exact hown5) hgrow5 (fun y hy => by
               rcases List.mem_append.1 hy with hy | hy
               · exact (hxk.out y hy).weak
               · simp at hy; subst hy; exact KidOk.leaf _ _ _ _ _ _ _ _ _ _ _))
             have t9 : W5.cell? ⟨vb, 8, none⟩ = some (.slice ka m kc) := by simpa using HU.out.v.cells 8 (by simp)
             have ft := HU.out.v.free
             clear hown5 hgrow5 holds hxl)
          | (go_simp
             go_at_call 91
             refine hC.out.mono ?_
             rintro e w4 ⟨cq, cn, rfl, hd4⟩
             have H4 := hide (HSD.out.step hd4)
             have t8 : w4.cell? ⟨vb, 8, none⟩ = some (.slice ka m kc) := by simpa using H4.out.v.cells 8 (by simp)
             have hv4 := H4.out.v.lt
             clear hd4
             have h4a := hide (H4.out.alloc (.cells #[.int .i64 2, .int .i64 0, .bool false, .int .i64 0, .int .i64 0, .string ⟨#[]⟩, .string cq, .string cn, .slice none 0 0, .slice none 0 0] 34))
             obtain ⟨r', xs, hrn, hxm, hxk, hnone, holds⟩ := hk.rows h4a.out.hp h1n
             replace hxm := hide (show xs.length = m from hxm)
             replace hnone : ka = none → m = 0 ∧ kc = 0 := hnone
             have hxl : (flatK xs).length = m * 10 := by rw [flatK_len, hxm.out]
             replace hxk := hide hxk))
        all_goals
          clear o0 o1 o2 o3 o4 o5 o6 o7 o8 o9 fo t8
          have H9 := hide (HU.out.set 8 (by simp) (.slice (some ⟨g3, 0, none⟩) (m + 1) c3))
          simp only [List.set_cons_zero, List.set_cons_succ] at H9
          have hko := hide (show KidOk (R.put g3 (.ex r' (xs ++ [(⟨2, 0, false, 0, 0, ⟨#[]⟩, cq, cn, none, 0, 0, none, 0, 0⟩ : EK)]).length c3)) false n ⟨k, op, ng, vk, vn, vt, qu, nm, some ⟨g3, 0, none⟩, m + 1, c3, sa, ms, sc⟩ from ⟨.inr ⟨g3, r', _, rfl, RM.put_at _ _ _, hrn, Nat.succ_pos _, by rw [List.length_append, hxm.out]; exact Nat.le_refl _⟩, by have := hk.few; simp at this ⊢; omega, fun e => by cases e⟩)
          clear HU
          go_upto_region 21 with fail
          generalize W5.setCell ⟨vb, 8, none⟩ (.slice (some ⟨g3, 0, none⟩) (m + 1) c3) = W9 at H9 ⊢
          clear t9 ft
          have oc := H9.out.v.cells
          have o0 := oc 0 (by first | simp | simp [Z10])
          have o1 := oc 1 (by first | simp | simp [Z10])
          have o2 := oc 2 (by first | simp | simp [Z10])
          have o3 := oc 3 (by first | simp | simp [Z10])
          have o4 := oc 4 (by first | simp | simp [Z10])
          have o5 := oc 5 (by first | simp | simp [Z10])
          have o6 := oc 6 (by first | simp | simp [Z10])
          have o7 := oc 7 (by first | simp | simp [Z10])
          have o8 := oc 8 (by first | simp | simp [Z10])
          have o9 := oc 9 (by first | simp | simp [Z10])
          try simp only [Z10] at o0 o1 o2 o3 o4 o5 o6 o7 o8 o9
          simp only [Nat.zero_add, List.getElem_cons_zero, List.getElem_cons_succ] at o0 o1 o2 o3 o4 o5 o6 o7 o8 o9
          clear oc
          have fo := H9.out.v.free
          have rc := H9.out.r.cells
          have r0 := rc 0 (by first | simp | simp [Z10])
          have r1 := rc 1 (by first | simp | simp [Z10])
          have r2 := rc 2 (by first | simp | simp [Z10])
          have r3 := rc 3 (by first | simp | simp [Z10])
          have r4 := rc 4 (by first | simp | simp [Z10])
          have r5 := rc 5 (by first | simp | simp [Z10])
          have r6 := rc 6 (by first | simp | simp [Z10])
          have r7 := rc 7 (by first | simp | simp [Z10])
          have r8 := rc 8 (by first | simp | simp [Z10])
          have r9 := rc 9 (by first | simp | simp [Z10])
          try simp only [Z10] at r0 r1 r2 r3 r4 r5 r6 r7 r8 r9
          simp only [Nat.zero_add, List.getElem_cons_zero, List.getElem_cons_succ] at r0 r1 r2 r3 r4 r5 r6 r7 r8 r9
          clear rc
          have fr := H9.out.r.free
          go_wp2_with fail
          ((try simp only [Exit.inBlock, Exit.then]); refine bodyPost_ret (by simp [results, Try.results90, go_sem]; go_simp; rfl) rfl ?_)
          exact H9.out.fin (y := ⟨k, op, ng, vk, vn, vt, qu, nm, some ⟨g3, 0, none⟩, m + 1, c3, sa, ms, sc⟩) hko.out
    · have g0 : (y == 0) = false := by simpa using n0
      have g1 : (y == 1) = false := by simpa using n1
      have g2 : (y == 2) = false := by simpa using n2
      have g3 : (y == 3) = false := by simpa using n3
      have g4 : (y == 4) = false := by simpa using n4
      have g5 : (y == 5) = false := by simpa using n5
      have g6 : (y == 6) = false := by simpa using n6
      clear n0 n1 n2 n3 n4 n5 n6
      obtain ⟨olds, hol, hsn, hsc, hso⟩ := hk.subs H3.out.hp
      replace hol : olds.length = ms * 6 := hol
      replace hsn : sa = none → ms = 0 ∧ sc = 0 := hsn
      replace hsc : sc < ms + 1 ∧ ms ≤ 1 := hsc
      have hso2 := hide (fun (b : Addr) (hb : sa = some b) => hso b hb)
      have HQA := hide (H3.out.alloc (.cells #[.bool false, .slice none 0 0, .slice none 0 0, .slice none 0 0, .slice none 0 0, .int .i64 0] 50))
      have holds : ∀ b, sa = some b → ∀ j u, olds[j]? = some u → (w3.alloc (.cells #[.bool false, .slice none 0 0, .slice none 0 0, .slice none 0 0, .slice none 0 0, .int .i64 0] 50)).cell? (b.add j) = some u := fun b hb j u hj => (cell_alloc_of _ () (hso2.out b hb j u hj))
      clear hso hso2
      have oc := H3.out.v.cells
      have o0 := oc 0 (by first | simp | simp [Z10])
      have o1 := oc 1 (by first | simp | simp [Z10])
      have o2 := oc 2 (by first | simp | simp [Z10])
      have o3 := oc 3 (by first | simp | simp [Z10])
      have o4 := oc 4 (by first | simp | simp [Z10])
      have o5 := oc 5 (by first | simp | simp [Z10])
      have o6 := oc 6 (by first | simp | simp [Z10])
      have o7 := oc 7 (by first | simp | simp [Z10])
      have o8 := oc 8 (by first | simp | simp [Z10])
      have o9 := oc 9 (by first | simp | simp [Z10])
      try simp only [Z10] at o0 o1 o2 o3 o4 o5 o6 o7 o8 o9
      simp only [Nat.zero_add, List.getElem_cons_zero, List.getElem_cons_succ] at o0 o1 o2 o3 o4 o5 o6 o7 o8 o9
      clear oc
      have fo := H3.out.v.free
      go_wp2_with (first | (at_builtin; refine wpList_append_grows _ rfl _ _ 32 rfl 50 iq (.agg #[.bool false, .slice none 0 0, .slice none 0 0, .slice none 0 0, .slice none 0 0, .int .i64 0]) 6 112 Try.underlying32 hiq hz0q hz1q hz2q rfl (by decide) sa ms sc olds rfl hsn hol holds ⟨w3.heap.size, 0, none⟩ 1 1 [.bool false, .slice none 0 0, .slice none 0 0, .slice none 0 0, .slice none 0 0, .int .i64 0] rfl rfl (news_of w3 [.bool false, .slice none 0 0, .slice none 0 0, .slice none 0 0, .slice none 0 0, .int .i64 0] _) (List.all_eq_true.1 (by rfl)) hsc.1 ?c4 ?c5 ?_))
      case c4 => unfold maxLen; omega
      case c5 => omega
      · intro v5 W5 hown5 hgrow5
        obtain ⟨g3, c3, rfl⟩ := owns_pos hown5 (by omega)
        have HU := hide (HQA.out.row hgrow5 (fun g e => by cases e))
        clear hown5 hgrow5 holds hol o0 o1 o2 o3 o4 o5 o6 o7 o8 o9 fo
        have oc := HU.out.v.cells
        have o0 := oc 0 (by first | simp | simp [Z10])
        have o1 := oc 1 (by first | simp | simp [Z10])
        have o2 := oc 2 (by first | simp | simp [Z10])
        have o3 := oc 3 (by first | simp | simp [Z10])
        have o4 := oc 4 (by first | simp | simp [Z10])
        have o5 := oc 5 (by first | simp | simp [Z10])
        have o6 := oc 6 (by first | simp | simp [Z10])
        have o7 := oc 7 (by first | simp | simp [Z10])
        have o8 := oc 8 (by first | simp | simp [Z10])
        have o9 := oc 9 (by first | simp | simp [Z10])
        try simp only [Z10] at o0 o1 o2 o3 o4 o5 o6 o7 o8 o9
        simp only [Nat.zero_add, List.getElem_cons_zero, List.getElem_cons_succ] at o0 o1 o2 o3 o4 o5 o6 o7 o8 o9
        clear oc
        have fo := HU.out.v.free
        go_upto_region 21 with fail
        clear o0 o1 o2 o3 o4 o5 o6 o7 o8 o9 fo
        have H9 := hide (HU.out.set 9 (by simp) (.slice (some ⟨g3, 0, none⟩) (ms + 1) c3))
        simp only [List.set_cons_zero, List.set_cons_succ] at H9
        generalize (W5.setCell ⟨vb, 9, none⟩ (.slice (some ⟨g3, 0, none⟩) (ms + 1) c3)) = W9 at H9 ⊢
        have oc := H9.out.v.cells
        have o0 := oc 0 (by first | simp | simp [Z10])
        have o1 := oc 1 (by first | simp | simp [Z10])
        have o2 := oc 2 (by first | simp | simp [Z10])
        have o3 := oc 3 (by first | simp | simp [Z10])
        have o4 := oc 4 (by first | simp | simp [Z10])
        have o5 := oc 5 (by first | simp | simp [Z10])
        have o6 := oc 6 (by first | simp | simp [Z10])
        have o7 := oc 7 (by first | simp | simp [Z10])
        have o8 := oc 8 (by first | simp | simp [Z10])
        have o9 := oc 9 (by first | simp | simp [Z10])
        try simp only [Z10] at o0 o1 o2 o3 o4 o5 o6 o7 o8 o9
        simp only [Nat.zero_add, List.getElem_cons_zero, List.getElem_cons_succ] at o0 o1 o2 o3 o4 o5 o6 o7 o8 o9
        clear oc
        have fo := H9.out.v.free
        have rc := H9.out.r.cells
        have r0 := rc 0 (by first | simp | simp [Z10])
        have r1 := rc 1 (by first | simp | simp [Z10])
        have r2 := rc 2 (by first | simp | simp [Z10])
        have r3 := rc 3 (by first | simp | simp [Z10])
        have r4 := rc 4 (by first | simp | simp [Z10])
        have r5 := rc 5 (by first | simp | simp [Z10])
        have r6 := rc 6 (by first | simp | simp [Z10])
        have r7 := rc 7 (by first | simp | simp [Z10])
        have r8 := rc 8 (by first | simp | simp [Z10])
        have r9 := rc 9 (by first | simp | simp [Z10])
        try simp only [Z10] at r0 r1 r2 r3 r4 r5 r6 r7 r8 r9
        simp only [Nat.zero_add, List.getElem_cons_zero, List.getElem_cons_succ] at r0 r1 r2 r3 r4 r5 r6 r7 r8 r9
        clear rc
        have fr := H9.out.r.free
        go_wp2_with fail
        ((try simp only [Exit.inBlock, Exit.then]); refine bodyPost_ret (by simp [results, Try.results90, go_sem]; go_simp; rfl) rfl ?_)
        exact H9.out.fin (y := ⟨k, op, ng, vk, vn, vt, qu, nm, ka, m, kc, some ⟨g3, 0, none⟩, ms + 1, c3⟩) ⟨hk.weak.kids, hk.weak.few, fun e => by cases e⟩
  · have hm := hq rfl
    clear hq
    rcases hk.kids with ⟨_, h0, _⟩ | ⟨g, r', len, hka, hg, hr, _, hml⟩
    · exact absurd h0 (by show ¬ m = 0; omega)
    have hka2 : ka = some ⟨g, 0, none⟩ := hka
    subst hka2
    replace hg : R g = some (.ex r' len kc) := hg
    replace hml : m ≤ len := hml
    have oc := H2.out.v.cells
    have o0 := oc 0 (by first | simp | simp [Z10])
    have o1 := oc 1 (by first | simp | simp [Z10])
    have o2 := oc 2 (by first | simp | simp [Z10])
    have o3 := oc 3 (by first | simp | simp [Z10])
    have o4 := oc 4 (by first | simp | simp [Z10])
    have o5 := oc 5 (by first | simp | simp [Z10])
    have o6 := oc 6 (by first | simp | simp [Z10])
    have o7 := oc 7 (by first | simp | simp [Z10])
    have o8 := oc 8 (by first | simp | simp [Z10])
    have o9 := oc 9 (by first | simp | simp [Z10])
    try simp only [Z10] at o0 o1 o2 o3 o4 o5 o6 o7 o8 o9
    simp only [Nat.zero_add, List.getElem_cons_zero, List.getElem_cons_succ] at o0 o1 o2 o3 o4 o5 o6 o7 o8 o9
    clear oc
    have fo := H2.out.v.free
    go_wp2_with fail
    refine (l1BelowC H2.out.cur (m : Int)).mono ?_
    rintro e w3 ⟨y, rfl, y0, y1, hc, hgr⟩
    have y2 := y1 (by omega)
    obtain ⟨i, rfl⟩ : ∃ q : Nat, y = q := ⟨y.toNat, by omega⟩
    have him : i < m := by omega
    have HS := hide (H2.out.step ((Dr.refl H2.out.cur).step hc hgr))
    clear hc hgr y1 y2 y0 H2 o0 o1 o2 o3 o4 o5 o6 o7 o8 o9 fo
    obtain ⟨hg1, hg2, hg3, hg4, hg5⟩ := HS.out.hp.ex g r' len kc hg
    obtain ⟨z, hkz, hzc⟩ := hg5 i (by omega)
    have h1r := hg2 rfl
    have hik : i < kc := by omega
    have hgl := hg4.lt
    have hgv : ¬ g = vb := by rintro rfl; have := HS.out.nv; rw [this] at hg; cases hg
    have HC := hide (IH r' hr w3.drew R z HS.out.drew.cur HS.out.drew.hp (Nat.le_trans hlo HS.out.drew.fr.size) h1r hkz)
    have HSD := hide HS.out.drew
    have u0 := hzc 0 (by first | simp | simp [EK.L])
    have u1 := hzc 1 (by first | simp | simp [EK.L])
    have u2 := hzc 2 (by first | simp | simp [EK.L])
    have u3 := hzc 3 (by first | simp | simp [EK.L])
    have u4 := hzc 4 (by first | simp | simp [EK.L])
    have u5 := hzc 5 (by first | simp | simp [EK.L])
    have u6 := hzc 6 (by first | simp | simp [EK.L])
    have u7 := hzc 7 (by first | simp | simp [EK.L])
    have u8 := hzc 8 (by first | simp | simp [EK.L])
    have u9 := hzc 9 (by first | simp | simp [EK.L])
    simp only [EK.L, Nat.add_zero, List.getElem_cons_zero, List.getElem_cons_succ] at u0 u1 u2 u3 u4 u5 u6 u7 u8 u9
    clear hzc hg1 hg2 hg3 hg5
    have HR4 := hide hg4
    clear hg4
    have oc := HS.out.v.cells
    have o0 := oc 0 (by first | simp | simp [Z10])
    have o1 := oc 1 (by first | simp | simp [Z10])
    have o2 := oc 2 (by first | simp | simp [Z10])
    have o3 := oc 3 (by first | simp | simp [Z10])
    have o4 := oc 4 (by first | simp | simp [Z10])
    have o5 := oc 5 (by first | simp | simp [Z10])
    have o6 := oc 6 (by first | simp | simp [Z10])
    have o7 := oc 7 (by first | simp | simp [Z10])
    have o8 := oc 8 (by first | simp | simp [Z10])
    have o9 := oc 9 (by first | simp | simp [Z10])
    try simp only [Z10] at o0 o1 o2 o3 o4 o5 o6 o7 o8 o9
    simp only [Nat.zero_add, List.getElem_cons_zero, List.getElem_cons_succ] at o0 o1 o2 o3 o4 o5 o6 o7 o8 o9
    clear oc
    have fo := HS.out.v.free
    have hvl := HS.out.v.lt
    have hi0 : (0 : Int) ≤ (i : Int) := by omega
    have hi1 : (i : Int) < (m : Int) := by omega
    go_wp2_with fail
    go_region_law (first
      | (go_simp
         go_at_call 90
         refine HC.out.mono ?_
         rintro e w4 ⟨y, R4, rfl, hky, hh4, hx4, hf4, hc4⟩
         have HT := hide (HSD.out.bent hh4 hx4 hf4 hc4)
         obtain ⟨len4, hl4, hg4⟩ := hx4.ex g r' len kc hg
         have hroom := (HT.out.hp.ex g r' len4 kc hg4).2.2.2.1
         have HP := hide (HT.out.put hg4 hky (by omega) hik)
         have t8 : w4.cell? ⟨vb, 8, none⟩ = some (.slice (some ⟨g, 0, none⟩) m kc) := by simpa using HT.out.v.cells 8 (by simp)
         obtain ⟨s0, q0⟩ := hroom.has (i * 10 + 0) (by omega)
         obtain ⟨s1, q1⟩ := hroom.has (i * 10 + 1) (by omega)
         obtain ⟨s2, q2⟩ := hroom.has (i * 10 + 2) (by omega)
         obtain ⟨s3, q3⟩ := hroom.has (i * 10 + 3) (by omega)
         obtain ⟨s4, q4⟩ := hroom.has (i * 10 + 4) (by omega)
         obtain ⟨s5, q5⟩ := hroom.has (i * 10 + 5) (by omega)
         obtain ⟨s6, q6⟩ := hroom.has (i * 10 + 6) (by omega)
         obtain ⟨s7, q7⟩ := hroom.has (i * 10 + 7) (by omega)
         obtain ⟨s8, q8⟩ := hroom.has (i * 10 + 8) (by omega)
         obtain ⟨s9, q9⟩ := hroom.has (i * 10 + 9) (by omega)
         rw [Nat.add_zero] at q0
         have fg := hroom.free
         clear hky hh4 hx4 hf4 hc4 hroom))
    all_goals
      clear o0 o1 o2 o3 o4 o5 o6 o7 o8 o9 fo u0 u1 u2 u3 u4 u5 u6 u7 u8 u9 q0 q1 q2 q3 q4 q5 q6 q7 q8 q9 fg t8
      generalize hW5 : World.setCell _ _ _ = W5
      have HU := hide (show BSt B p lo R (R4.put g (.ex r' (max len4 (i + 1)) kc)) false w W5 vb rb [.int .i64 k, .int .i64 op, .bool ng, .int .i64 vk, .int .i64 vn, .string vt, .string qu, .string nm, .slice (some ⟨g, 0, none⟩) m kc, .slice sa ms sc] from by rw [← hW5]; exact HP.out.1)
      have hko := hide (show KidOk (R4.put g (.ex r' (max len4 (i + 1)) kc)) false n ⟨k, op, ng, vk, vn, vt, qu, nm, some ⟨g, 0, none⟩, m, kc, sa, ms, sc⟩ from ((hk.ext (HT.out.ext.trans HP.out.2 HT.out.fr.size) (Nat.le_refl _)).weak))
      clear hW5 HP HT
      have oc := HU.out.v.cells
      have o0 := oc 0 (by first | simp | simp [Z10])
      have o1 := oc 1 (by first | simp | simp [Z10])
      have o2 := oc 2 (by first | simp | simp [Z10])
      have o3 := oc 3 (by first | simp | simp [Z10])
      have o4 := oc 4 (by first | simp | simp [Z10])
      have o5 := oc 5 (by first | simp | simp [Z10])
      have o6 := oc 6 (by first | simp | simp [Z10])
      have o7 := oc 7 (by first | simp | simp [Z10])
      have o8 := oc 8 (by first | simp | simp [Z10])
      have o9 := oc 9 (by first | simp | simp [Z10])
      try simp only [Z10] at o0 o1 o2 o3 o4 o5 o6 o7 o8 o9
      simp only [Nat.zero_add, List.getElem_cons_zero, List.getElem_cons_succ] at o0 o1 o2 o3 o4 o5 o6 o7 o8 o9
      clear oc
      have fo := HU.out.v.free
      have rc := HU.out.r.cells
      have r0 := rc 0 (by first | simp | simp [Z10])
      have r1 := rc 1 (by first | simp | simp [Z10])
      have r2 := rc 2 (by first | simp | simp [Z10])
      have r3 := rc 3 (by first | simp | simp [Z10])
      have r4 := rc 4 (by first | simp | simp [Z10])
      have r5 := rc 5 (by first | simp | simp [Z10])
      have r6 := rc 6 (by first | simp | simp [Z10])
      have r7 := rc 7 (by first | simp | simp [Z10])
      have r8 := rc 8 (by first | simp | simp [Z10])
      have r9 := rc 9 (by first | simp | simp [Z10])
      try simp only [Z10] at r0 r1 r2 r3 r4 r5 r6 r7 r8 r9
      simp only [Nat.zero_add, List.getElem_cons_zero, List.getElem_cons_succ] at r0 r1 r2 r3 r4 r5 r6 r7 r8 r9
      clear rc
      have fr := HU.out.r.free
      go_wp2_with fail
      ((try simp only [Exit.inBlock, Exit.then]); refine bodyPost_ret (by simp [results, Try.results90, go_sem]; go_simp; rfl) rfl ?_)
      exact HU.out.fin (y := ⟨k, op, ng, vk, vn, vt, qu, nm, some ⟨g, 0, none⟩, m, kc, sa, ms, sc⟩) hko.out

theorem l7BentC {B p lo : Nat} (hpl : p < lo) (n : Nat) : BentC B p lo n := by
  induction n using Nat.strongRecOn with
  | _ n ih => exact l7BentS ih hpl
end Go.Proofs.Ytfpoakdmclekoaa
