/-
  DrawOrder.
-/
import Derived.Test.YtnamikhhbedpeaaDrBent
import Derived.Deep.CutRange
import Derived.Deep.RegionWith
namespace Go.Proofs.Ytnamikhhbedpeaa
open Go.RowKit Go.Lib

theorem Below.setC {w a : World} (h : Below w.heap.size w a) {b : Nat} (hb : w.heap.size ≤ b) (i : Nat) (v : Value) : Below w.heap.size w (a.setCell ⟨b, i, none⟩ v) :=
  Below.grown h (grownBy_setCell a b i v) h.size (fun k hk => by cases hk; exact hb)
theorem Below.set3 {w a : World} (h : Below w.heap.size w a) {b : Nat} (hb : w.heap.size ≤ b) (x y z : Value) :
    Below w.heap.size w (((a.setCell ⟨b, 0, none⟩ x).setCell ⟨b, 1, none⟩ y).setCell ⟨b, 2, none⟩ z) := Below.setC (Below.setC (Below.setC h hb _ _) hb _ _) hb _ _
theorem Cur.drew {B p : Nat} {w : World} (h : Cur B w p) : Cur B w.drew p := ⟨h.low, h.lt, h.ex⟩
theorem C3.drew {w : World} {b : Nat} {x y z : Value} (h : C3 w b x y z) : C3 w.drew b x y z := ⟨h.lt, h.c, h.f⟩
theorem Dr.of_drew {B p : Nat} {w a : World} (h : Dr B p w.drew a) : Dr B p w a := ⟨h.cur, ⟨h.grown.os, h.grown.tape, h.grown.output, h.grown.size, h.grown.block⟩⟩

theorem Dr.toBelow' {B p : Nat} {w0 w a : World} (h : Dr B p w a) (h0 : Below w0.heap.size w0 w) (hl : w0.heap.size ≤ p) : Below w0.heap.size w0 a :=
  Below.grown h0 h.grown h0.size (fun k hk => by cases hk; exact hl)

theorem IsRow.len_cap {k : IntKind} {w : World} {a : Option Addr} {n c : Nat} {zs : List Int} (h : IsRow k w a n c zs) : n ≤ c := by
  rcases h with ⟨_, rfl, rfl, _⟩ | ⟨x, rfl, hl, hm, _⟩
  · omega
  · omega

theorem tailC {B : Nat} {w : World} {a : Option Addr} {n : Nat} {z : Nat → Int} (c : Nat) (h : Code B w a n z) (hc : n ≤ c) :
    Calls Try.prog 29 #[.slice a n c] w fun e w' => ∃ a' n' c' z', e = .returned (.slice a' n' c') ∧ Code B w a' n' z' ∧ w = w' := by
  have hn1 := h.n1
  by_cases h0 : n = 0
  · subst h0
    go_enter Try.func29, Try.ntmps29
    go_wp2_with fail
    go_ret
    exact ⟨_, _, _, _, rfl, h, rfl⟩
  · obtain ⟨b, off, rfl, hb, hcell⟩ := h.ex h0
    have h1 : 1 ≤ n := by omega
    by_cases hc1 : c = 1
    · have hn : n = 1 := by omega
      subst hc1 hn
      go_enter Try.func29, Try.ntmps29
      go_wp2_with fail
      all_goals go_ret
      all_goals exact ⟨_, _, _, z, rfl, ⟨by omega, fun h => absurd rfl h⟩, rfl⟩
    · have hc2 : ¬ c - 1 = 0 := by omega
      have hc3 : 1 < c := by omega
      go_enter Try.func29, Try.ntmps29
      go_wp2_with fail
      all_goals go_ret
      all_goals exact ⟨_, _, _, fun j => z (j + 1), rfl, ⟨by omega, fun _ => ⟨b, off + 1, rfl, hb, fun j hj => by rw [show off + 1 + j = off + (j + 1) by omega]; exact hcell (j + 1) (by omega)⟩⟩, rfl⟩

set_option maxRecDepth 100000 in
set_option maxHeartbeats 4000000 in
theorem drawOrderC {B : Nat} {w : World} {a : Option Addr} {n : Nat} {z : Nat → Int} (c : Nat) (h : Code B w a n z) (hB : B ≤ w.heap.size) :
    Calls Try.prog 28 #[.slice a n c] w fun e w' => ∃ (k n : Int) (s : ByteArray) (k' n' : Int) (s' : ByteArray), e = .returned (.tuple #[.agg #[.int .i64 k, .int .i64 n, .string s], .agg #[.int .i64 k', .int .i64 n', .string s']]) ∧ s.size ≤ 810 ∧ s'.size ≤ 810 ∧ Below w.heap.size w w' := by
  go_enter Try.func28, Try.ntmps28
  go_wp2_with fail
  have hb0 : Below w.heap.size w ((w.alloc (.cells #[.int .i64 0, .int .i64 0, .string ⟨#[]⟩] 41)).alloc (.cells #[.int .i64 0, .int .i64 0, .string ⟨#[]⟩] 41)) := by go_grown
  refine (l1NewC c (((h.mono hB).below hb0).mono hb0.size) (Nat.le_refl _)).mono ?_
  rintro e w1 ⟨p, rfl, hc1, hb1⟩
  have hra := ((C3.made w (.int .i64 0) (.int .i64 0) (.string ⟨#[]⟩) 41).alloc (.cells #[.int .i64 0, .int .i64 0, .string ⟨#[]⟩] 41)).below hb1
  have hrb := (C3.made (w.alloc (.cells #[.int .i64 0, .int .i64 0, .string ⟨#[]⟩] 41)) (.int .i64 0) (.int .i64 0) (.string ⟨#[]⟩) 41).below hb1
  have hsz : (w.alloc (.cells #[.int .i64 0, .int .i64 0, .string ⟨#[]⟩] 41)).heap.size = w.heap.size + 1 := by simp
  rw [hsz] at hrb
  obtain ⟨ra, hra0⟩ : ∃ ra, Hid (ra = w.heap.size) := ⟨_, rfl⟩
  obtain ⟨rb, hrb0⟩ : ∃ rb, Hid (rb = w.heap.size + 1) := ⟨_, rfl⟩
  have hle := hra0.out
  have hle2 := hrb0.out
  rw [← hra0.out] at hra ⊢
  rw [← hra0.out, ← show rb = ra + 1 by omega] at hrb
  rw [show ra + 1 = rb by omega]
  have HA := hide (Nat.le_of_eq hle.symm)
  have HBB := hide (show w.heap.size ≤ rb by omega)
  have HR := hide (And.intro hra hrb)
  have HC := hide hc1
  have H1 := hide (below_via hb0 hb1)
  have hpa : ra ≠ p ∧ rb ≠ p ∧ ra ≠ rb := by have := hc1.low; simp at this; omega
  have hpl : w.heap.size ≤ p := by have := hc1.low; simp at this; omega
  clear hra hrb hc1 hb0 hb1 hsz hle hle2
  go_wp2_with fail
  refine (l5BentC HC.out).mono ?_
  rintro e w2 ⟨k, m, s, rfl, _, _, hn, hs, hd⟩
  have HV := hide ((C3.made w2 (.int .i64 k) (.int .i64 m) (.string s) 41))
  have hd2 := hd.alloc (.cells #[.int .i64 k, .int .i64 m, .string s] 41)
  have H2 := hide (And.intro hd2 (And.intro (HR.out.1.grown hd2.grown hpa.1) (HR.out.2.grown hd2.grown hpa.2.1)))
  have HB2 := hide (hd2.toBelow' H1.out hpl)
  clear hd2 hn
  have hdg := hide hd.grown.size
  have hdl := hide hd.lt
  go_wp2_with fail
  refine (l1OnceC H2.out.1.cur _).mono ?_
  rintro e w3 ⟨b, rfl, hc3, hg3⟩
  replace HV := hide (HV.out.grown hg3 (by have := H2.out.1.grown.size; have := hd.lt; omega))
  have hd3 := H2.out.1.step hc3 hg3
  have H3 := hide (And.intro hd3 (And.intro (H2.out.2.1.grown hg3 hpa.1) (H2.out.2.2.grown hg3 hpa.2.1)))
  have HB3 := hide (hd3.toBelow' H1.out hpl)
  clear hc3 hg3 hd3 hd
  obtain ⟨sa, ⟨a0, a1, a2⟩, ⟨af0, af1, af2⟩⟩ := H3.out.2.1
  obtain ⟨sb, ⟨b0, b1, b2⟩, ⟨bf0, bf1, bf2⟩⟩ := H3.out.2.2
  obtain ⟨sv, ⟨v0, v1, v2⟩, ⟨vf0, vf1, vf2⟩⟩ := HV.out
  have hva : ra ≠ w2.heap.size ∧ rb ≠ w2.heap.size := by
    have h1 := HR.out.1.lt
    have h2 := HR.out.2.lt
    have h3 := hdg.out
    omega
  obtain ⟨n1, n2⟩ := hva
  have n3 := n1.symm
  have n4 := n2.symm
  have n5 := hpa.2.2
  have n6 := n5.symm
  have hvp : w2.heap.size ≠ p := by have := hdl.out; omega
  generalize w2.heap.size = va at *
  cases b
  · go_wp2_with fail
    go_region_with (go_at_call 52; refine (l5BentC (by first | exact H3.out.1.cur | exact H3.out.1.cur.drew)).mono ?_; rintro e wz ⟨k', n', s', rfl, _, _, _, hs', hdz⟩; have hdw : Dr _ p w3 wz := (by first | exact hdz | exact hdz.of_drew); clear hdz a0 a1 a2 af0 af1 af2 b0 b1 b2 bf0 bf1 bf2 v0 v1 v2 vf0 vf1 vf2 sa sb sv; obtain ⟨sa, ⟨a0, a1, a2⟩, ⟨af0, af1, af2⟩⟩ := H3.out.2.1.grown hdw.grown hpa.1; obtain ⟨sb, ⟨b0, b1, b2⟩, ⟨bf0, bf1, bf2⟩⟩ := H3.out.2.2.grown hdw.grown hpa.2.1; obtain ⟨sv, ⟨v0, v1, v2⟩, ⟨vf0, vf1, vf2⟩⟩ := HV.out.grown hdw.grown hvp; have HZ := hide (hdw.toBelow' HB3.out hpl); clear hdw)
    all_goals go_wp2_with fail
    all_goals ((try simp only [Exit.inBlock, Exit.then]); refine bodyPost_ret (by simp [results, Try.results28, go_sem]; go_simp; rfl) rfl ?_)
    all_goals refine ⟨_, _, _, _, _, _, rfl, by omega, by omega, ?_⟩
    all_goals (have hHZ := HZ.out; have hHA := HA.out; have hHB := HBB.out; go_grown)
  · go_wp2_with fail
    go_region
    all_goals go_wp2_with fail
    all_goals ((try simp only [Exit.inBlock, Exit.then]); refine bodyPost_ret (by simp [results, Try.results28, go_sem]; go_simp; rfl) rfl ?_)
    all_goals refine ⟨_, _, _, _, _, _, rfl, by omega, by omega, ?_⟩
    all_goals (have hHZ := HB3.out; have hHA := HA.out; have hHB := HBB.out; go_grown)
end Go.Proofs.Ytnamikhhbedpeaa
