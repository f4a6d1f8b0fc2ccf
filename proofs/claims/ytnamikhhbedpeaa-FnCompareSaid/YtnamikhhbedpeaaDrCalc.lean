/-
  DrawCalc.
-/
import Derived.Test.YtnamikhhbedpeaaDrTyp
import Derived.Deep.CutRange
import Derived.Deep.RegionWith
namespace Go.Proofs.Ytnamikhhbedpeaa
open Go.RowKit Go.Lib

/-- A drawing function that hands back two values, in two cells of its own: the state as it goes. -/
structure St2 (B p ra rb : Nat) (w1 w : World) : Prop where
  d : Dr B p w1 w
  a : C3 w ra (.int .i64 0) (.int .i64 0) (.string ⟨#[]⟩)
  b : C3 w rb (.int .i64 0) (.int .i64 0) (.string ⟨#[]⟩)
  na : ra ≠ p
  nb : rb ≠ p

theorem St2.dr {B p ra rb : Nat} {w1 w v : World} (h : St2 B p ra rb w1 w) (k : Dr B p w v) : St2 B p ra rb w1 v :=
  ⟨h.d.trans k, h.a.grown k.grown h.na, h.b.grown k.grown h.nb, h.na, h.nb⟩
theorem St2.step {B p ra rb : Nat} {w1 w v : World} (h : St2 B p ra rb w1 w) (hc : Cur B v p) (hg : w.grownBy v (some p)) : St2 B p ra rb w1 v := h.dr ⟨hc, hg⟩
theorem St2.alloc {B p ra rb : Nat} {w1 w : World} (h : St2 B p ra rb w1 w) (o : Obj) : St2 B p ra rb w1 (w.alloc o) := h.step (h.d.cur.alloc' o) (World.grownBy_alloc _ _ _)
theorem St2.below {B p ra rb : Nat} {w1 w v : World} (h : St2 B p ra rb w1 w) (hb : Below w.heap.size w v) : St2 B p ra rb w1 v :=
  ⟨h.d.below hb, h.a.below hb, h.b.below hb, h.na, h.nb⟩
theorem St2.set {B p ra rb : Nat} {w1 w : World} (h : St2 B p ra rb w1 w) (hp : p < w1.heap.size) {g : Nat} (hg : w1.heap.size ≤ g) (ha : ra ≠ g) (hb : rb ≠ g) (i : Nat) (v : Value) : St2 B p ra rb w1 (w.setCell ⟨g, i, none⟩ v) :=
  ⟨h.d.set hp hg i v, h.a.other ha i v, h.b.other hb i v, h.na, h.nb⟩

theorem Below.of_drew {B : Nat} {w v : World} (h : Below B w.drew v) : Below B w v := ⟨h.os, h.tape, h.output, h.size, h.block⟩

def pickT (j : Nat) : ByteArray := if j = 0 then ⟨#[]⟩ else ⟨#[120]⟩
theorem pickT_size (j : Nat) : (pickT j).size ≤ 1 := by unfold pickT; split <;> decide
theorem pickDr {B p : Nat} {w : World} (c : Nat) (h : Cur B w p) : Calls Try.prog 48 #[.pointer (some ⟨p, 0, none⟩), .slice (some ⟨w.heap.size, 0, none⟩) 2 c] (w.alloc (.cells #[.string ⟨#[]⟩, .string ⟨#[120]⟩] 9)).drew fun e w' =>
    ∃ j, e = .returned (.string (pickT j)) ∧ (pickT j).size ≤ 1 ∧ Dr B p w w' := by
  refine (l1PickC (f := pickT) (n := 2) (Cur.drew (h.alloc' _)) (by omega) (by omega) (by have := h.lt; omega) ?_).mono ?_
  · intro j hj
    show (w.alloc (.cells #[.string ⟨#[]⟩, .string ⟨#[120]⟩] 9)).cell? _ = _
    match j, hj with
    | 0, _ => simp [go_sem]; rfl
    | 1, _ => simp [go_sem]; rfl
  · rintro e w1 ⟨j, _, rfl, hc, hg⟩
    exact ⟨j, rfl, pickT_size j, ((Dr.refl h).alloc _).trans (Dr.of_drew ⟨hc, hg⟩)⟩

def calcL (j : Nat) : Int := if j = 0 then 0 else if j = 1 then 1 else if j = 2 then -1 else if j = 3 then 2 else -3
theorem calcL_in (j : Nat) : In (calcL j) := by unfold calcL In; repeat (split; omega); omega

set_option maxRecDepth 100000 in
set_option maxHeartbeats 4000000 in
theorem drawCalcC {B : Nat} {w : World} {a : Option Addr} {n : Nat} {z : Nat → Int} (c : Nat) (h : Code B w a n z) (hB : B ≤ w.heap.size) :
    Calls Try.prog 46 #[.slice a n c] w fun e w' => ∃ (op k n : Int) (s : ByteArray) (k' n' : Int) (s' : ByteArray), e = .returned (.tuple #[.int .i64 op, .agg #[.int .i64 k, .int .i64 n, .string s], .agg #[.int .i64 k', .int .i64 n', .string s']]) ∧ In n ∧ In n' ∧ s.size ≤ 810 ∧ s'.size ≤ 810 ∧ Below w.heap.size w w' := by
  go_enter Try.func46, Try.ntmps46
  go_wp2_with fail
  have hb0 : Below w.heap.size w ((w.alloc (.cells #[.int .i64 0, .int .i64 0, .string ⟨#[]⟩] 41)).alloc (.cells #[.int .i64 0, .int .i64 0, .string ⟨#[]⟩] 41)) := by go_grown
  refine (l1NewC c (((h.mono hB).below hb0).mono hb0.size) (Nat.le_refl _)).mono ?_
  rintro e w1 ⟨p, rfl, hc1, hb1⟩
  have hra := ((C3.made w (.int .i64 0) (.int .i64 0) (.string ⟨#[]⟩) 41).alloc (.cells #[.int .i64 0, .int .i64 0, .string ⟨#[]⟩] 41)).below hb1
  have hrb := (C3.made (w.alloc (.cells #[.int .i64 0, .int .i64 0, .string ⟨#[]⟩] 41)) (.int .i64 0) (.int .i64 0) (.string ⟨#[]⟩) 41).below hb1
  have hsz : (w.alloc (.cells #[.int .i64 0, .int .i64 0, .string ⟨#[]⟩] 41)).heap.size = w.heap.size + 1 := by simp
  rw [hsz] at hrb
  obtain ⟨ra, hra0⟩ : ∃ ra, Hid (ra = w.heap.size) := ⟨_, rfl⟩
  obtain ⟨rb, hrb0⟩ : ∃ rb, Hid (rb = w.heap.size + 1) := ⟨_, rfl⟩
  have hle := hra0.out
  have hle2 := hrb0.out
  rw [← hra0.out] at hra ⊢
  rw [← hra0.out, ← show rb = ra + 1 by omega] at hrb
  rw [show ra + 1 = rb by omega]
  have HA := hide (Nat.le_of_eq hle.symm)
  have HBB := hide (show w.heap.size ≤ rb by omega)
  have hpa : ra ≠ p ∧ rb ≠ p ∧ ra ≠ rb := by have := hc1.low; simp at this; omega
  have hpl : w.heap.size ≤ p := by have := hc1.low; simp at this; omega
  have H1 := hide (below_via hb0 hb1)
  have hp := hc1.lt
  have hab := hide (And.intro hra.lt hrb.lt)
  have HC := hide (show St2 _ p ra rb w1 w1 from ⟨Dr.refl hc1, hra, hrb, hpa.1, hpa.2.1⟩)
  obtain ⟨n1, n2, n5⟩ := hpa
  have n6 := n5.symm
  clear hra hrb hc1 hb0 hb1 hsz hle hle2
  go_wp2_with fail
  refine (l1BelowC HC.out.d.cur _).mono ?_
  rintro e w2 ⟨op, rfl, o0, o1, hc2, hg2⟩
  have o2 := o1 (by omega)
  have H2 := hide (HC.out.step hc2 hg2)
  clear hc2 hg2 o1
  go_wp2_with fail
  refine (l1OnceC H2.out.d.cur _).mono ?_
  rintro e w3 ⟨b, rfl, hc3, hg3⟩
  have H3 := hide (H2.out.step hc3 hg3)
  clear hc3 hg3
  cases b
  · go_wp2_with fail
    refine (l1BelowC H3.out.d.cur _).mono ?_
    rintro e w4 ⟨kd, rfl, kd0, kd1, hc4, hg4⟩
    have kd2 := kd1 (by omega)
    have H4 := hide (H3.out.step hc4 hg4)
    clear hc4 hg4 kd1
    have hop : op < 1 ∨ (2 < op ∧ op < 9) ∨ op = 1 ∨ op = 2 ∨ op = 9 ∨ 9 < op := by omega
    rcases hop with h1 | ⟨h1, h2⟩ | rfl | rfl | rfl | h9
    · have g1 : ¬ op = 1 ∧ ¬ op = 2 ∧ ¬ op = 9 ∧ ¬ 9 < op := by omega
      obtain ⟨g1, g2, g3, g4⟩ := g1
      have b1 : (op == 1) = false := by simpa using g1
      have b2 : (op == 2) = false := by simpa using g2
      have b12 : (op == 1 || op == 2) = false := by simp [g1, g2]
      have b9 : (op == 9) = false := by simpa using g3
      go_wp2_with fail
      refine (l6TypedC H4.out.d.cur _).mono ?_
      rintro e w5 ⟨k, m, s, rfl, hn, hs, hd5⟩
      have H5 := hide ((H4.out.dr hd5).alloc (.cells #[.int .i64 k, .int .i64 m, .string s] 41))
      have HN := hide hn
      have hva := C3.made w5 (.int .i64 k) (.int .i64 m) (.string s) 41
      have hv1 : ra ≠ w5.heap.size ∧ rb ≠ w5.heap.size ∧ w1.heap.size ≤ w5.heap.size := by
        have h1 := hab.out
        have h2 := (H4.out.dr hd5).d.grown.size
        omega
      have hv2 : w5.heap.size ≠ p := by have := hd5.lt; omega
      obtain ⟨va, hva0⟩ : ∃ va, Hid (va = w5.heap.size) := ⟨_, rfl⟩
      rw [← hva0.out] at hva hv1 hv2
      have HV := hide hva
      obtain ⟨v1, v2, v3⟩ := hv1
      have v4 := v1.symm
      have v5 := v2.symm
      clear hd5 hn hva
      go_wp2_with fail
      rw [← hva0.out]
      refine (l6TypedC H5.out.d.cur _).mono ?_
      rintro e w6 ⟨k', m', s', rfl, hn', hs', hd6⟩
      have H6 := hide ((H5.out.dr hd6).alloc (.cells #[.int .i64 k', .int .i64 m', .string s'] 41))
      have HN' := hide hn'
      have hvb := C3.made w6 (.int .i64 k') (.int .i64 m') (.string s') 41
      have hva6 := HV.out.grown hd6.grown hv2
      have hx1 : ra ≠ w6.heap.size ∧ rb ≠ w6.heap.size ∧ va ≠ w6.heap.size ∧ w1.heap.size ≤ w6.heap.size := by
        have h1 := hab.out
        have h2 := (H5.out.dr hd6).d.grown.size
        have h3 := hva6.lt
        omega
      have hx2 : w6.heap.size ≠ p := by have := hd6.lt; omega
      have hva7 := hva6.alloc (.cells #[.int .i64 k', .int .i64 m', .string s'] 41)
      obtain ⟨vb, hvb0⟩ : ∃ vb, Hid (vb = w6.heap.size) := ⟨_, rfl⟩
      rw [← hvb0.out] at hvb hx1 hx2
      have HV6 := hide (And.intro hva7 hvb)
      obtain ⟨x1, x2, x3, x8⟩ := hx1
      have x4 := x1.symm
      have x5 := x2.symm
      have x6 := x3.symm
      clear hd6 hn' hvb hva6 hva7 HV
      go_wp2_with fail
      rw [← hvb0.out]
      have HB6 := hide (H6.out.d.toBelow' H1.out hpl)
      obtain ⟨sa, ⟨a0, a1, a2⟩, ⟨af0, af1, af2⟩⟩ := H6.out.a
      obtain ⟨sb, ⟨b0, b1, b2⟩, ⟨bf0, bf1, bf2⟩⟩ := H6.out.b
      obtain ⟨sv, ⟨y0, y1, y2⟩, _⟩ := HV6.out.1
      obtain ⟨sx, ⟨z0, z1, z2⟩, _⟩ := HV6.out.2
      go_region
      all_goals go_wp2_with fail
      all_goals ((try simp only [Exit.inBlock, Exit.then]); refine bodyPost_ret (by simp [results, Try.results46, go_sem]; go_simp; rfl) rfl ?_)
      all_goals refine ⟨_, _, _, _, _, _, _, rfl, HN.out, HN'.out, by first | omega | decide, by first | omega | decide, ?_⟩
      all_goals (have hHZ := HB6.out; have hHA := HA.out; have hHB := HBB.out; go_grown)
    · have g1 : ¬ op = 1 ∧ ¬ op = 2 ∧ ¬ op = 9 ∧ ¬ 9 < op := by omega
      obtain ⟨g1, g2, g3, g4⟩ := g1
      have b1 : (op == 1) = false := by simpa using g1
      have b2 : (op == 2) = false := by simpa using g2
      have b12 : (op == 1 || op == 2) = false := by simp [g1, g2]
      have b9 : (op == 9) = false := by simpa using g3
      go_wp2_with fail
      refine (l6TypedC H4.out.d.cur _).mono ?_
      rintro e w5 ⟨k, m, s, rfl, hn, hs, hd5⟩
      have H5 := hide ((H4.out.dr hd5).alloc (.cells #[.int .i64 k, .int .i64 m, .string s] 41))
      have HN := hide hn
      have hva := C3.made w5 (.int .i64 k) (.int .i64 m) (.string s) 41
      have hv1 : ra ≠ w5.heap.size ∧ rb ≠ w5.heap.size ∧ w1.heap.size ≤ w5.heap.size := by
        have h1 := hab.out
        have h2 := (H4.out.dr hd5).d.grown.size
        omega
      have hv2 : w5.heap.size ≠ p := by have := hd5.lt; omega
      obtain ⟨va, hva0⟩ : ∃ va, Hid (va = w5.heap.size) := ⟨_, rfl⟩
      rw [← hva0.out] at hva hv1 hv2
      have HV := hide hva
      obtain ⟨v1, v2, v3⟩ := hv1
      have v4 := v1.symm
      have v5 := v2.symm
      clear hd5 hn hva
      go_wp2_with fail
      rw [← hva0.out]
      refine (l6TypedC H5.out.d.cur _).mono ?_
      rintro e w6 ⟨k', m', s', rfl, hn', hs', hd6⟩
      have H6 := hide ((H5.out.dr hd6).alloc (.cells #[.int .i64 k', .int .i64 m', .string s'] 41))
      have HN' := hide hn'
      have hvb := C3.made w6 (.int .i64 k') (.int .i64 m') (.string s') 41
      have hva6 := HV.out.grown hd6.grown hv2
      have hx1 : ra ≠ w6.heap.size ∧ rb ≠ w6.heap.size ∧ va ≠ w6.heap.size ∧ w1.heap.size ≤ w6.heap.size := by
        have h1 := hab.out
        have h2 := (H5.out.dr hd6).d.grown.size
        have h3 := hva6.lt
        omega
      have hx2 : w6.heap.size ≠ p := by have := hd6.lt; omega
      have hva7 := hva6.alloc (.cells #[.int .i64 k', .int .i64 m', .string s'] 41)
      obtain ⟨vb, hvb0⟩ : ∃ vb, Hid (vb = w6.heap.size) := ⟨_, rfl⟩
      rw [← hvb0.out] at hvb hx1 hx2
      have HV6 := hide (And.intro hva7 hvb)
      obtain ⟨x1, x2, x3, x8⟩ := hx1
      have x4 := x1.symm
      have x5 := x2.symm
      have x6 := x3.symm
      clear hd6 hn' hvb hva6 hva7 HV
      go_wp2_with fail
      rw [← hvb0.out]
      have HB6 := hide (H6.out.d.toBelow' H1.out hpl)
      obtain ⟨sa, ⟨a0, a1, a2⟩, ⟨af0, af1, af2⟩⟩ := H6.out.a
      obtain ⟨sb, ⟨b0, b1, b2⟩, ⟨bf0, bf1, bf2⟩⟩ := H6.out.b
      obtain ⟨sv, ⟨y0, y1, y2⟩, _⟩ := HV6.out.1
      obtain ⟨sx, ⟨z0, z1, z2⟩, _⟩ := HV6.out.2
      go_region
      all_goals go_wp2_with fail
      all_goals ((try simp only [Exit.inBlock, Exit.then]); refine bodyPost_ret (by simp [results, Try.results46, go_sem]; go_simp; rfl) rfl ?_)
      all_goals refine ⟨_, _, _, _, _, _, _, rfl, HN.out, HN'.out, by first | omega | decide, by first | omega | decide, ?_⟩
      all_goals (have hHZ := HB6.out; have hHA := HA.out; have hHB := HBB.out; go_grown)
    · go_wp2_with fail
      refine (l6TypedC H4.out.d.cur _).mono ?_
      rintro e w5 ⟨k, m, s, rfl, hn, hs, hd5⟩
      have H5 := hide ((H4.out.dr hd5).alloc (.cells #[.int .i64 k, .int .i64 m, .string s] 41))
      have HN := hide hn
      have hva := C3.made w5 (.int .i64 k) (.int .i64 m) (.string s) 41
      have hv1 : ra ≠ w5.heap.size ∧ rb ≠ w5.heap.size ∧ w1.heap.size ≤ w5.heap.size := by
        have h1 := hab.out
        have h2 := (H4.out.dr hd5).d.grown.size
        omega
      have hv2 : w5.heap.size ≠ p := by have := hd5.lt; omega
      obtain ⟨va, hva0⟩ : ∃ va, Hid (va = w5.heap.size) := ⟨_, rfl⟩
      rw [← hva0.out] at hva hv1 hv2
      have HV := hide hva
      obtain ⟨v1, v2, v3⟩ := hv1
      have v4 := v1.symm
      have v5 := v2.symm
      clear hd5 hn hva
      go_wp2_with fail
      rw [← hva0.out]
      refine (l6TypedC H5.out.d.cur _).mono ?_
      rintro e w6 ⟨k', m', s', rfl, hn', hs', hd6⟩
      have H6 := hide ((H5.out.dr hd6).alloc (.cells #[.int .i64 k', .int .i64 m', .string s'] 41))
      have HN' := hide hn'
      have hvb := C3.made w6 (.int .i64 k') (.int .i64 m') (.string s') 41
      have hva6 := HV.out.grown hd6.grown hv2
      have hx1 : ra ≠ w6.heap.size ∧ rb ≠ w6.heap.size ∧ va ≠ w6.heap.size ∧ w1.heap.size ≤ w6.heap.size := by
        have h1 := hab.out
        have h2 := (H5.out.dr hd6).d.grown.size
        have h3 := hva6.lt
        omega
      have hx2 : w6.heap.size ≠ p := by have := hd6.lt; omega
      have hva7 := hva6.alloc (.cells #[.int .i64 k', .int .i64 m', .string s'] 41)
      obtain ⟨vb, hvb0⟩ : ∃ vb, Hid (vb = w6.heap.size) := ⟨_, rfl⟩
      rw [← hvb0.out] at hvb hx1 hx2
      have HV6 := hide (And.intro hva7 hvb)
      obtain ⟨x1, x2, x3, x8⟩ := hx1
      have x4 := x1.symm
      have x5 := x2.symm
      have x6 := x3.symm
      clear hd6 hn' hvb hva6 hva7 HV
      go_wp2_with fail
      rw [← hvb0.out]
      have HB6 := hide (H6.out.d.toBelow' H1.out hpl)
      obtain ⟨sa, ⟨a0, a1, a2⟩, ⟨af0, af1, af2⟩⟩ := H6.out.a
      obtain ⟨sb, ⟨b0, b1, b2⟩, ⟨bf0, bf1, bf2⟩⟩ := H6.out.b
      obtain ⟨sv, ⟨y0, y1, y2⟩, _⟩ := HV6.out.1
      obtain ⟨sx, ⟨z0, z1, z2⟩, _⟩ := HV6.out.2
      go_region
      all_goals go_wp2_with fail
      all_goals ((try simp only [Exit.inBlock, Exit.then]); refine bodyPost_ret (by simp [results, Try.results46, go_sem]; go_simp; rfl) rfl ?_)
      all_goals refine ⟨_, _, _, _, _, _, _, rfl, HN.out, HN'.out, by first | omega | decide, by first | omega | decide, ?_⟩
      all_goals (have hHZ := HB6.out; have hHA := HA.out; have hHB := HBB.out; go_grown)
    · go_wp2_with fail
      refine (l6TypedC H4.out.d.cur _).mono ?_
      rintro e w5 ⟨k, m, s, rfl, hn, hs, hd5⟩
      have H5 := hide ((H4.out.dr hd5).alloc (.cells #[.int .i64 k, .int .i64 m, .string s] 41))
      have HN := hide hn
      have hva := C3.made w5 (.int .i64 k) (.int .i64 m) (.string s) 41
      have hv1 : ra ≠ w5.heap.size ∧ rb ≠ w5.heap.size ∧ w1.heap.size ≤ w5.heap.size := by
        have h1 := hab.out
        have h2 := (H4.out.dr hd5).d.grown.size
        omega
      have hv2 : w5.heap.size ≠ p := by have := hd5.lt; omega
      obtain ⟨va, hva0⟩ : ∃ va, Hid (va = w5.heap.size) := ⟨_, rfl⟩
      rw [← hva0.out] at hva hv1 hv2
      have HV := hide hva
      obtain ⟨v1, v2, v3⟩ := hv1
      have v4 := v1.symm
      have v5 := v2.symm
      clear hd5 hn hva
      go_wp2_with fail
      rw [← hva0.out]
      refine (l6TypedC H5.out.d.cur _).mono ?_
      rintro e w6 ⟨k', m', s', rfl, hn', hs', hd6⟩
      have H6 := hide ((H5.out.dr hd6).alloc (.cells #[.int .i64 k', .int .i64 m', .string s'] 41))
      have HN' := hide hn'
      have hvb := C3.made w6 (.int .i64 k') (.int .i64 m') (.string s') 41
      have hva6 := HV.out.grown hd6.grown hv2
      have hx1 : ra ≠ w6.heap.size ∧ rb ≠ w6.heap.size ∧ va ≠ w6.heap.size ∧ w1.heap.size ≤ w6.heap.size := by
        have h1 := hab.out
        have h2 := (H5.out.dr hd6).d.grown.size
        have h3 := hva6.lt
        omega
      have hx2 : w6.heap.size ≠ p := by have := hd6.lt; omega
      have hva7 := hva6.alloc (.cells #[.int .i64 k', .int .i64 m', .string s'] 41)
      obtain ⟨vb, hvb0⟩ : ∃ vb, Hid (vb = w6.heap.size) := ⟨_, rfl⟩
      rw [← hvb0.out] at hvb hx1 hx2
      have HV6 := hide (And.intro hva7 hvb)
      obtain ⟨x1, x2, x3, x8⟩ := hx1
      have x4 := x1.symm
      have x5 := x2.symm
      have x6 := x3.symm
      clear hd6 hn' hvb hva6 hva7 HV
      go_wp2_with fail
      rw [← hvb0.out]
      have HB6 := hide (H6.out.d.toBelow' H1.out hpl)
      obtain ⟨sa, ⟨a0, a1, a2⟩, ⟨af0, af1, af2⟩⟩ := H6.out.a
      obtain ⟨sb, ⟨b0, b1, b2⟩, ⟨bf0, bf1, bf2⟩⟩ := H6.out.b
      obtain ⟨sv, ⟨y0, y1, y2⟩, _⟩ := HV6.out.1
      obtain ⟨sx, ⟨z0, z1, z2⟩, _⟩ := HV6.out.2
      go_region
      all_goals go_wp2_with fail
      all_goals ((try simp only [Exit.inBlock, Exit.then]); refine bodyPost_ret (by simp [results, Try.results46, go_sem]; go_simp; rfl) rfl ?_)
      all_goals refine ⟨_, _, _, _, _, _, _, rfl, HN.out, HN'.out, by first | omega | decide, by first | omega | decide, ?_⟩
      all_goals (have hHZ := HB6.out; have hHA := HA.out; have hHB := HBB.out; go_grown)
    · go_wp2_with fail
      refine (l6TypedC H4.out.d.cur _).mono ?_
      rintro e w5 ⟨k, m, s, rfl, hn, hs, hd5⟩
      have H5 := hide ((H4.out.dr hd5).alloc (.cells #[.int .i64 k, .int .i64 m, .string s] 41))
      have HN := hide hn
      have hva := C3.made w5 (.int .i64 k) (.int .i64 m) (.string s) 41
      have hv1 : ra ≠ w5.heap.size ∧ rb ≠ w5.heap.size ∧ w1.heap.size ≤ w5.heap.size := by
        have h1 := hab.out
        have h2 := (H4.out.dr hd5).d.grown.size
        omega
      have hv2 : w5.heap.size ≠ p := by have := hd5.lt; omega
      obtain ⟨va, hva0⟩ : ∃ va, Hid (va = w5.heap.size) := ⟨_, rfl⟩
      rw [← hva0.out] at hva hv1 hv2
      have HV := hide hva
      obtain ⟨v1, v2, v3⟩ := hv1
      have v4 := v1.symm
      have v5 := v2.symm
      clear hd5 hn hva
      go_wp2_with fail
      rw [← hva0.out]
      refine (l6TypedC H5.out.d.cur _).mono ?_
      rintro e w6 ⟨k', m', s', rfl, hn', hs', hd6⟩
      have H6 := hide ((H5.out.dr hd6).alloc (.cells #[.int .i64 k', .int .i64 m', .string s'] 41))
      have HN' := hide hn'
      have hvb := C3.made w6 (.int .i64 k') (.int .i64 m') (.string s') 41
      have hva6 := HV.out.grown hd6.grown hv2
      have hx1 : ra ≠ w6.heap.size ∧ rb ≠ w6.heap.size ∧ va ≠ w6.heap.size ∧ w1.heap.size ≤ w6.heap.size := by
        have h1 := hab.out
        have h2 := (H5.out.dr hd6).d.grown.size
        have h3 := hva6.lt
        omega
      have hx2 : w6.heap.size ≠ p := by have := hd6.lt; omega
      have hva7 := hva6.alloc (.cells #[.int .i64 k', .int .i64 m', .string s'] 41)
      obtain ⟨vb, hvb0⟩ : ∃ vb, Hid (vb = w6.heap.size) := ⟨_, rfl⟩
      rw [← hvb0.out] at hvb hx1 hx2
      have HV6 := hide (And.intro hva7 hvb)
      obtain ⟨x1, x2, x3, x8⟩ := hx1
      have x4 := x1.symm
      have x5 := x2.symm
      have x6 := x3.symm
      clear hd6 hn' hvb hva6 hva7 HV
      go_wp2_with fail
      rw [← hvb0.out]
      refine (l1OnceC H6.out.d.cur _).mono ?_
      rintro e w7 ⟨b7, rfl, hc7, hg7⟩
      have H7 := hide (H6.out.step hc7 hg7)
      have HV7 := hide (And.intro (HV6.out.1.grown hg7 hv2) (HV6.out.2.grown hg7 hx2))
      clear hc7 hg7
      cases b7
      · go_wp2_with fail
        have HBf := hide (H7.out.d.toBelow' H1.out hpl)
        obtain ⟨sa, ⟨a0, a1, a2⟩, ⟨af0, af1, af2⟩⟩ := H7.out.a
        obtain ⟨sb, ⟨b0, b1, b2⟩, ⟨bf0, bf1, bf2⟩⟩ := H7.out.b
        obtain ⟨sv, ⟨y0, y1, y2⟩, _⟩ := HV7.out.1
        obtain ⟨sx, ⟨z0, z1, z2⟩, _⟩ := HV7.out.2
        go_region
        all_goals go_wp2_with fail
        all_goals ((try simp only [Exit.inBlock, Exit.then]); refine bodyPost_ret (by simp [results, Try.results46, go_sem]; go_simp; rfl) rfl ?_)
        all_goals refine ⟨_, _, _, _, _, _, _, rfl, HN.out, HN'.out, by first | omega | decide, by first | omega | decide, ?_⟩
        all_goals (have hHZ := HBf.out; have hHA := HA.out; have hHB := HBB.out; go_grown)
      · go_wp2_with fail
        go_loopw [] (fun wr => ∃ (k2 n2 : Int) (t : ByteArray), In n2 ∧ t.size ≤ 110 ∧ St2 _ p ra rb w1 wr ∧ C3 wr va (.int .i64 k2) (.int .i64 n2) (.string t) ∧ C3 wr vb (.int .i64 k') (.int .i64 m') (.string s')) (fun wr => farOf wr va)
        case atStart => exact ⟨k, m, s, HN.out, by omega, H7.out, HV7.out.1, HV7.out.2⟩
        case round =>
          obtain ⟨k2, m2, t, hn2, ht, hst, hva8, hvb8⟩ := hrel
          have H8 := hide hst
          have HV8 := hide (And.intro hva8 hvb8)
          have HN2 := hide hn2
          obtain ⟨sv, ⟨y0, y1, y2⟩, ⟨yf0, yf1, yf2⟩⟩ := hva8
          clear hst hvb8 hn2
          by_cases h100 : t.size < 100
          · have h100' : (t.size : Int) < 100 := by omega
            go_wp2_with fail
            refine (specText _ _).mono ?_
            rintro e w9 ⟨rfl, hb9⟩
            have H9 := hide (H8.out.below hb9)
            have HV9 := hide (And.intro (HV8.out.1.below hb9) (HV8.out.2.below hb9))
            clear hb9 sv y0 y1 y2 yf0 yf1 yf2
            obtain ⟨sv, ⟨y0, y1, y2⟩, ⟨yf0, yf1, yf2⟩⟩ := HV9.out.1
            go_wp2_with fail
            go_roundw
            case rel =>
              refine ⟨2, 0, t ++ ⟨#[48, 49, 50, 51, 52, 53, 54, 55, 56, 57]⟩, by unfold In; omega, ?_, ((H9.out.set hp v3 v1 v2 _ _).set hp v3 v1 v2 _ _).set hp v3 v1 v2 _ _, ((HV9.out.1.set0 _).set1 _).set2 _, ((HV9.out.2.other x6 _ _).other x6 _ _).other x6 _ _⟩
              rw [ByteArray.size_append, show (⟨#[48, 49, 50, 51, 52, 53, 54, 55, 56, 57]⟩ : ByteArray).size = 10 from rfl]
              omega
            case measure =>
              rw [farOf_eq (((HV9.out.1.set0 _).set1 _).set2 _), farOf_eq HV8.out.1, ByteArray.size_append, show (⟨#[48, 49, 50, 51, 52, 53, 54, 55, 56, 57]⟩ : ByteArray).size = 10 from rfl]
              omega
          · have h100' : ¬ (t.size : Int) < 100 := by omega
            obtain ⟨sx, ⟨z0, z1, z2⟩, ⟨zf0, zf1, zf2⟩⟩ := HV8.out.2
            go_wp2_with fail
            go_region_with (first
              | (go_at_call 48; refine (pickDr _ H8.out.d.cur).mono ?_; rintro e wz ⟨j, rfl, hj1, hdz⟩; have hst := H8.out.dr hdz; have hva9 := HV8.out.1.grown hdz.grown hv2; have hvb9 := HV8.out.2.grown hdz.grown hx2; replace H8 := hide hst; replace HV8 := hide (And.intro hva9 hvb9); clear hst hva9 hvb9 hdz sv y0 y1 y2 yf0 yf1 yf2 sx z0 z1 z2 zf0 zf1 zf2; obtain ⟨sv, ⟨y0, y1, y2⟩, ⟨yf0, yf1, yf2⟩⟩ := HV8.out.1; obtain ⟨sx, ⟨z0, z1, z2⟩, ⟨zf0, zf1, zf2⟩⟩ := HV8.out.2)
              | (go_at_call 74; refine (specText _ _).mono ?_; rintro e wz ⟨rfl, hbz⟩; have hst := H8.out.below (v := wz) (by first | exact hbz | exact Below.of_drew hbz); have hva9 := HV8.out.1.below (a := wz) (by first | exact hbz | exact Below.of_drew hbz); have hvb9 := HV8.out.2.below (a := wz) (by first | exact hbz | exact Below.of_drew hbz); replace H8 := hide hst; replace HV8 := hide (And.intro hva9 hvb9); clear hst hva9 hvb9 hbz sv y0 y1 y2 yf0 yf1 yf2 sx z0 z1 z2 zf0 zf1 zf2; obtain ⟨sv, ⟨y0, y1, y2⟩, ⟨yf0, yf1, yf2⟩⟩ := HV8.out.1; obtain ⟨sx, ⟨z0, z1, z2⟩, ⟨zf0, zf1, zf2⟩⟩ := HV8.out.2))
            all_goals
              go_wp2_with fail
              have htp : (t ++ pickT j).size ≤ 111 := by rw [ByteArray.size_append]; omega
              generalize t ++ pickT j = tt at htp ⊢
              have HA1 := hide (((H8.out.set hp x8 x1 x2 0 (.int .i64 2)).set hp x8 x1 x2 1 (.int .i64 0)).set hp x8 x1 x2 2 (.string tt))
              have HVA := hide (And.intro (((HV8.out.1.other x3 0 (.int .i64 2)).other x3 1 (.int .i64 0)).other x3 2 (.string tt)) (((HV8.out.2.set0 (.int .i64 2)).set1 (.int .i64 0)).set2 (.string tt)))
              clear sv y0 y1 y2 yf0 yf1 yf2 sx z0 z1 z2 zf0 zf1 zf2
              generalize ((wz.setCell ⟨vb, 0, none⟩ (.int .i64 2)).setCell ⟨vb, 1, none⟩ (.int .i64 0)).setCell ⟨vb, 2, none⟩ (.string tt) = wa at HA1 HVA ⊢
              have HBf := hide (HA1.out.d.toBelow' H1.out hpl)
              obtain ⟨sa, ⟨a0, a1, a2⟩, ⟨af0, af1, af2⟩⟩ := HA1.out.a
              obtain ⟨sb, ⟨b0, b1, b2⟩, ⟨bf0, bf1, bf2⟩⟩ := HA1.out.b
              obtain ⟨sv, ⟨y0, y1, y2⟩, _⟩ := HVA.out.1
              obtain ⟨sx, ⟨z0, z1, z2⟩, _⟩ := HVA.out.2
              go_region
              all_goals go_wp2_with fail
              all_goals ((try simp only [Exit.inBlock, Exit.then]); refine bodyPost_ret (by simp [results, Try.results46, go_sem]; go_simp; rfl) rfl ?_)
              all_goals refine ⟨_, _, _, _, _, _, _, rfl, HN2.out, (by unfold In; omega), by first | omega | decide, by first | omega | decide, ?_⟩
              all_goals (have hHZ := HBf.out; have hHA := HA.out; have hHB := HBB.out; go_grown)
    · have g1 : ¬ op = 1 ∧ ¬ op = 2 ∧ ¬ op = 9 := by omega
      obtain ⟨g1, g2, g3⟩ := g1
      have b1 : (op == 1) = false := by simpa using g1
      have b2 : (op == 2) = false := by simpa using g2
      have b12 : (op == 1 || op == 2) = false := by simp [g1, g2]
      have b9 : (op == 9) = false := by simpa using g3
      go_wp2_with fail
      refine (l6TypedC H4.out.d.cur _).mono ?_
      rintro e w5 ⟨k, m, s, rfl, hn, hs, hd5⟩
      have H5 := hide ((H4.out.dr hd5).alloc (.cells #[.int .i64 k, .int .i64 m, .string s] 41))
      have HN := hide hn
      have hva := C3.made w5 (.int .i64 k) (.int .i64 m) (.string s) 41
      have hv1 : ra ≠ w5.heap.size ∧ rb ≠ w5.heap.size ∧ w1.heap.size ≤ w5.heap.size := by
        have h1 := hab.out
        have h2 := (H4.out.dr hd5).d.grown.size
        omega
      have hv2 : w5.heap.size ≠ p := by have := hd5.lt; omega
      obtain ⟨va, hva0⟩ : ∃ va, Hid (va = w5.heap.size) := ⟨_, rfl⟩
      rw [← hva0.out] at hva hv1 hv2
      have HV := hide hva
      obtain ⟨v1, v2, v3⟩ := hv1
      have v4 := v1.symm
      have v5 := v2.symm
      clear hd5 hn hva
      go_wp2_with fail
      rw [← hva0.out]
      refine (l6TypedC H5.out.d.cur _).mono ?_
      rintro e w6 ⟨k', m', s', rfl, hn', hs', hd6⟩
      have H6 := hide ((H5.out.dr hd6).alloc (.cells #[.int .i64 k', .int .i64 m', .string s'] 41))
      have HN' := hide hn'
      have hvb := C3.made w6 (.int .i64 k') (.int .i64 m') (.string s') 41
      have hva6 := HV.out.grown hd6.grown hv2
      have hx1 : ra ≠ w6.heap.size ∧ rb ≠ w6.heap.size ∧ va ≠ w6.heap.size ∧ w1.heap.size ≤ w6.heap.size := by
        have h1 := hab.out
        have h2 := (H5.out.dr hd6).d.grown.size
        have h3 := hva6.lt
        omega
      have hx2 : w6.heap.size ≠ p := by have := hd6.lt; omega
      have hva7 := hva6.alloc (.cells #[.int .i64 k', .int .i64 m', .string s'] 41)
      obtain ⟨vb, hvb0⟩ : ∃ vb, Hid (vb = w6.heap.size) := ⟨_, rfl⟩
      rw [← hvb0.out] at hvb hx1 hx2
      have HV6 := hide (And.intro hva7 hvb)
      obtain ⟨x1, x2, x3, x8⟩ := hx1
      have x4 := x1.symm
      have x5 := x2.symm
      have x6 := x3.symm
      clear hd6 hn' hvb hva6 hva7 HV
      go_wp2_with fail
      rw [← hvb0.out]
      refine (l1OnceC H6.out.d.cur _).mono ?_
      rintro e w7 ⟨b7, rfl, hc7, hg7⟩
      have H7 := hide (H6.out.step hc7 hg7)
      have HV7 := hide (And.intro (HV6.out.1.grown hg7 hv2) (HV6.out.2.grown hg7 hx2))
      clear hc7 hg7
      cases b7
      · go_wp2_with fail
        have HBf := hide (H7.out.d.toBelow' H1.out hpl)
        obtain ⟨sa, ⟨a0, a1, a2⟩, ⟨af0, af1, af2⟩⟩ := H7.out.a
        obtain ⟨sb, ⟨b0, b1, b2⟩, ⟨bf0, bf1, bf2⟩⟩ := H7.out.b
        obtain ⟨sv, ⟨y0, y1, y2⟩, _⟩ := HV7.out.1
        obtain ⟨sx, ⟨z0, z1, z2⟩, _⟩ := HV7.out.2
        go_region
        all_goals go_wp2_with fail
        all_goals ((try simp only [Exit.inBlock, Exit.then]); refine bodyPost_ret (by simp [results, Try.results46, go_sem]; go_simp; rfl) rfl ?_)
        all_goals refine ⟨_, _, _, _, _, _, _, rfl, HN.out, HN'.out, by first | omega | decide, by first | omega | decide, ?_⟩
        all_goals (have hHZ := HBf.out; have hHA := HA.out; have hHB := HBB.out; go_grown)
      · go_wp2_with fail
        refine (l1PickIntC (f := calcL) (n := 5) (H7.out.d.cur.alloc' _) (by omega) (by omega) (by have := H7.out.d.lt; omega) ?_).mono ?_
        · intro j hj
          match j, hj with
          | 0, _ => simp [go_sem]; rfl
          | 1, _ => simp [go_sem]; rfl
          | 2, _ => simp [go_sem]; rfl
          | 3, _ => simp [go_sem]; rfl
          | 4, _ => simp [go_sem]; rfl
        rintro e w8 ⟨j, hj, rfl, hc8, hg8⟩
        have H8 := hide ((H7.out.alloc _).step hc8 hg8)
        have HV8 := hide (And.intro ((HV7.out.1.alloc _).grown hg8 hv2) ((HV7.out.2.alloc _).grown hg8 hx2))
        clear hc8 hg8
        go_wp2_with fail
        refine (specInt _ _).mono ?_
        rintro e w9 ⟨rfl, hb9⟩
        have H9 := hide (H8.out.below hb9)
        have HV9 := hide (And.intro (HV8.out.1.below hb9) (HV8.out.2.below hb9))
        clear hb9
        obtain ⟨sx, ⟨z0, z1, z2⟩, ⟨zf0, zf1, zf2⟩⟩ := HV9.out.2
        go_wp2_with fail
        have HA1 := hide (((H9.out.set hp x8 x1 x2 0 (.int .i64 1)).set hp x8 x1 x2 1 (.int .i64 (calcL j))).set hp x8 x1 x2 2 (.string ByteArray.empty))
        have HVA := hide (And.intro (((HV9.out.1.other x3 0 (.int .i64 1)).other x3 1 (.int .i64 (calcL j))).other x3 2 (.string ByteArray.empty)) (((HV9.out.2.set0 (.int .i64 1)).set1 (.int .i64 (calcL j))).set2 (.string ByteArray.empty)))
        clear sx z0 z1 z2 zf0 zf1 zf2
        generalize ((w9.setCell ⟨vb, 0, none⟩ (.int .i64 1)).setCell ⟨vb, 1, none⟩ (.int .i64 (calcL j))).setCell ⟨vb, 2, none⟩ (.string ByteArray.empty) = wa at HA1 HVA ⊢
        have HBf := hide (HA1.out.d.toBelow' H1.out hpl)
        obtain ⟨sa, ⟨a0, a1, a2⟩, ⟨af0, af1, af2⟩⟩ := HA1.out.a
        obtain ⟨sb, ⟨b0, b1, b2⟩, ⟨bf0, bf1, bf2⟩⟩ := HA1.out.b
        obtain ⟨sv, ⟨y0, y1, y2⟩, _⟩ := HVA.out.1
        obtain ⟨sx, ⟨z0, z1, z2⟩, _⟩ := HVA.out.2
        go_region
        all_goals go_wp2_with fail
        all_goals ((try simp only [Exit.inBlock, Exit.then]); refine bodyPost_ret (by simp [results, Try.results46, go_sem]; go_simp; rfl) rfl ?_)
        all_goals refine ⟨_, _, _, _, _, _, _, rfl, HN.out, calcL_in j, by first | omega | decide, by first | omega | decide, ?_⟩
        all_goals (have hHZ := HBf.out; have hHA := HA.out; have hHB := HBB.out; go_grown)
  · go_wp2_with fail
    refine (l5BentC H3.out.d.cur).mono ?_
    rintro e w4 ⟨k, m, s, rfl, _, _, hn, hs, hd4⟩
    have H4 := hide (H3.out.dr hd4)
    have HN := hide hn
    clear hd4 hn
    go_wp2_with fail
    refine (l5BentC H4.out.d.cur).mono ?_
    rintro e w5 ⟨k', m', s', rfl, _, _, hn', hs', hd5⟩
    have H5 := hide (H4.out.dr hd5)
    have HN' := hide hn'
    clear hd5 hn'
    have HB5 := hide (H5.out.d.toBelow' H1.out hpl)
    obtain ⟨sa, ⟨a0, a1, a2⟩, ⟨af0, af1, af2⟩⟩ := H5.out.a
    obtain ⟨sb, ⟨b0, b1, b2⟩, ⟨bf0, bf1, bf2⟩⟩ := H5.out.b
    go_wp2_with fail
    ((try simp only [Exit.inBlock, Exit.then]); refine bodyPost_ret (by simp [results, Try.results46, go_sem]; go_simp; rfl) rfl ?_)
    refine ⟨_, _, _, _, _, _, _, rfl, HN.out, HN'.out, by omega, by omega, ?_⟩
    (have hHZ := HB5.out; have hHA := HA.out; have hHB := HBB.out; go_grown)
end Go.Proofs.Ytnamikhhbedpeaa
