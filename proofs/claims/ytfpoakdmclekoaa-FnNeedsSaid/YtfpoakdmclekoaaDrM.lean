/-
  l9Args, DrawNeeds: an expression drawn, and a kid's number.
-/
import Derived.Test.YtfpoakdmclekoaaDrN
import Derived.Deep.RegionLaw
namespace Go.Proofs.Ytfpoakdmclekoaa
open Go Go.RowKit Go.Lib

def i9L : List Int := [0, 0, 1, 1, 2, 3, -1, 9223372036854775807, -9223372036854775808]
theorem pickI9C {B p : Nat} {w : World} (h : Cur B w p) (c : Nat) : Calls Try.prog 84 #[.pointer (some ⟨p, 0, none⟩), .slice (some ⟨w.heap.size, 0, none⟩) 9 c] (w.alloc (.cells #[.int .i64 0, .int .i64 0, .int .i64 1, .int .i64 1, .int .i64 2, .int .i64 3, .int .i64 (-1), .int .i64 9223372036854775807, .int .i64 (-9223372036854775808)] 3)) (fun e w' => ∃ y : Int, e = .returned (.int .i64 y) ∧ In y ∧ Dr B p (w.alloc (.cells #[.int .i64 0, .int .i64 0, .int .i64 1, .int .i64 1, .int .i64 2, .int .i64 3, .int .i64 (-1), .int .i64 9223372036854775807, .int .i64 (-9223372036854775808)] 3)) w') := by
  refine (l1PickIntC (f := fun j => i9L.getD j 0) (n := 9) (h.alloc' _) (by omega) (by omega) (by have := h.lt; omega) ?_).mono ?_
  · intro j hj
    match j, hj with
    | 0, _ => simp [go_sem]; rfl
    | 1, _ => simp [go_sem]; rfl
    | 2, _ => simp [go_sem]; rfl
    | 3, _ => simp [go_sem]; rfl
    | 4, _ => simp [go_sem]; rfl
    | 5, _ => simp [go_sem]; rfl
    | 6, _ => simp [go_sem]; rfl
    | 7, _ => simp [go_sem]; rfl
    | 8, _ => simp [go_sem]; rfl
  · rintro e w1 ⟨j, hj, rfl, hc1, hg1⟩
    have hin : ∀ j, j < 9 → -9223372036854775808 ≤ i9L.getD j 0 ∧ i9L.getD j 0 ≤ 9223372036854775807 := by decide
    exact ⟨_, rfl, hin j hj, hc1, hg1⟩

set_option maxRecDepth 100000 in
set_option maxHeartbeats 8000000 in
theorem l9ArgsC {B : Nat} {w : World} {a : Option Addr} {n : Nat} {z : Nat → Int} (c : Nat) (h : Code B w a n z) (hB : B ≤ w.heap.size) :
    Calls Try.prog 71 #[.slice a n c] w fun e w' => ∃ (x : EK) (y : Int), e = .returned (.tuple #[.agg #[.int .i64 x.k, .int .i64 x.op, .bool x.ng, .int .i64 x.vk, .int .i64 x.vn, .string x.vt, .string x.qu, .string x.nm, .slice x.ka x.m x.kc, .slice x.sa x.ms x.sc], .int .i64 y]) ∧ In y ∧ DrawnE w.heap.size w' x ∧ Below w.heap.size w w' := by
  obtain ⟨rb, hrb⟩ : ∃ v, Hid (v = w.heap.size) := ⟨_, hide rfl⟩
  have hm := Blk.made w Z10 34
  rw [← hrb.out] at hm
  have HM := hide hm
  have HC := hide (And.intro h hB)
  have hb0 : Below w.heap.size w (w.alloc (.cells Z10.toArray 34)) := (Below.refl _ _).alloc (Nat.le_refl _) _
  have HB0 := hide hb0
  clear hm h hB hb0
  go_enter Try.func71, Try.ntmps71
  go_wp2_with fail
  refine (l7DrawC (B := w.heap.size) c ((HC.out.1.mono HC.out.2).below HB0.out) (by simp)).mono ?_
  rintro e w1 ⟨x, rfl, hx, hb1⟩
  obtain ⟨eb, heb⟩ : ∃ v, Hid (v = w1.heap.size) := ⟨_, hide rfl⟩
  have hr1 := HM.out.below hb1
  have hrlt : rb < eb := by have := hr1.lt; have := heb.out; omega
  have her : rb ≠ eb := by omega
  have hrw : w.heap.size ≤ rb := Nat.le_of_eq hrb.out.symm
  have hm := Blk.made w1 x.L 34
  rw [← heb.out] at hm
  have hbw := below_via HB0.out hb1
  have hew : w.heap.size ≤ eb := by have := hbw.size; have := heb.out; omega
  have HD1 := hide ((hx.below ((Below.refl _ _).alloc (Nat.le_refl _) (.cells x.L.toArray 34))).less (lo' := rb + 1) (by rw [hrb.out]; simp))
  have H1 := hide (And.intro True.intro (And.intro (hr1.alloc (.cells x.L.toArray 34)) (And.intro hm (hbw.alloc hbw.size (.cells x.L.toArray 34)))))
  have hsz : (w1.alloc (.cells x.L.toArray 34)).heap.size = eb + 1 := by simp [heb.out]
  have HSZ := hide hsz
  clear hx hb1 hr1 hm hbw HM hsz
  go_wp2_with fail
  refine (l1NewC (B := eb + 1) c (((HC.out.1.mono HC.out.2).below H1.out.2.2.2).mono (by omega)) (Nat.le_of_eq HSZ.out.symm)).mono ?_
  rintro e w2 ⟨p, rfl, hc2, hb2⟩
  (try rw [← heb.out])
  (try rw [← hrb.out])
  have hlow := hc2.low
  have hplt := hc2.lt
  have HB2 := hide hb2
  have H2 := hide (And.intro True.intro (And.intro (H1.out.2.1.below hb2) (And.intro (H1.out.2.2.1.below hb2) (And.intro (below_via H1.out.2.2.2 hb2) hc2))))
  have hrp : rb ≠ p := by omega
  have hep : eb ≠ p := by omega
  clear hc2 hb2 H1
  have hC := hide (pickI9C (w := w2.drew) (H2.out.2.2.2.2.below (Below.refl _ _).drew) 9)
  have oc := H2.out.2.2.1.cells
  have o0 := oc 0 (by first | simp | simp [Z10] | simp [EK.L] | simp [EK.L, Z10])
  have o1 := oc 1 (by first | simp | simp [Z10] | simp [EK.L] | simp [EK.L, Z10])
  have o2 := oc 2 (by first | simp | simp [Z10] | simp [EK.L] | simp [EK.L, Z10])
  have o3 := oc 3 (by first | simp | simp [Z10] | simp [EK.L] | simp [EK.L, Z10])
  have o4 := oc 4 (by first | simp | simp [Z10] | simp [EK.L] | simp [EK.L, Z10])
  have o5 := oc 5 (by first | simp | simp [Z10] | simp [EK.L] | simp [EK.L, Z10])
  have o6 := oc 6 (by first | simp | simp [Z10] | simp [EK.L] | simp [EK.L, Z10])
  have o7 := oc 7 (by first | simp | simp [Z10] | simp [EK.L] | simp [EK.L, Z10])
  have o8 := oc 8 (by first | simp | simp [Z10] | simp [EK.L] | simp [EK.L, Z10])
  have o9 := oc 9 (by first | simp | simp [Z10] | simp [EK.L] | simp [EK.L, Z10])
  try simp only [EK.L] at o0 o1 o2 o3 o4 o5 o6 o7 o8 o9
  try simp only [Z10] at o0 o1 o2 o3 o4 o5 o6 o7 o8 o9
  simp only [Nat.zero_add, List.getElem_cons_zero, List.getElem_cons_succ] at o0 o1 o2 o3 o4 o5 o6 o7 o8 o9
  clear oc
  have fo := H2.out.2.2.1.free
  have hel := H2.out.2.2.1.lt
  have hrl := H2.out.2.1.lt
  go_wp2_with fail
  go_region_law (first
    | (go_simp
       go_at_call 84
       refine hC.out.mono ?_
       rintro e w3 ⟨y, rfl, hy, hd3⟩
       have hal := (Below.refl w2.heap.size w2).drew.alloc (Nat.le_refl _) (.cells #[.int .i64 0, .int .i64 0, .int .i64 1, .int .i64 1, .int .i64 2, .int .i64 3, .int .i64 (-1), .int .i64 9223372036854775807, .int .i64 (-9223372036854775808)] 3)
       have hr3 := (H2.out.2.1.below hal).grown hd3.grown hrp
       have he3 := (H2.out.2.2.1.below hal).grown hd3.grown hep
       have hdx := HD1.out.stays (Nat.le_trans HB2.out.size (Nat.le_trans hal.size hd3.grown.size)) (fun g _ h2 => by
         have h2' : g < eb + 1 := by rw [← HSZ.out]; exact h2
         have s1 := HB2.out.size
         have s2 := hal.size
         rw [hd3.grown.block g (by omega) (by intro e; injection e with e; omega), hal.block g (by omega), HB2.out.block g h2])
       have H3 := hide (And.intro hdx (And.intro hr3 (And.intro he3 (Below.grown (below_via H2.out.2.2.2.1 hal) hd3.grown (below_via H2.out.2.2.2.1 hal).size (fun k hk => by injection hk with hk; subst hk; omega)))))
       have HY := hide hy
       have rc := hr3.cells
       have r0 := rc 0 (by first | simp | simp [Z10] | simp [EK.L] | simp [EK.L, Z10])
       have r1 := rc 1 (by first | simp | simp [Z10] | simp [EK.L] | simp [EK.L, Z10])
       have r2 := rc 2 (by first | simp | simp [Z10] | simp [EK.L] | simp [EK.L, Z10])
       have r3 := rc 3 (by first | simp | simp [Z10] | simp [EK.L] | simp [EK.L, Z10])
       have r4 := rc 4 (by first | simp | simp [Z10] | simp [EK.L] | simp [EK.L, Z10])
       have r5 := rc 5 (by first | simp | simp [Z10] | simp [EK.L] | simp [EK.L, Z10])
       have r6 := rc 6 (by first | simp | simp [Z10] | simp [EK.L] | simp [EK.L, Z10])
       have r7 := rc 7 (by first | simp | simp [Z10] | simp [EK.L] | simp [EK.L, Z10])
       have r8 := rc 8 (by first | simp | simp [Z10] | simp [EK.L] | simp [EK.L, Z10])
       have r9 := rc 9 (by first | simp | simp [Z10] | simp [EK.L] | simp [EK.L, Z10])
       try simp only [EK.L] at r0 r1 r2 r3 r4 r5 r6 r7 r8 r9
       try simp only [Z10] at r0 r1 r2 r3 r4 r5 r6 r7 r8 r9
       simp only [Nat.zero_add, List.getElem_cons_zero, List.getElem_cons_succ] at r0 r1 r2 r3 r4 r5 r6 r7 r8 r9
       clear rc
       have fr := hr3.free
       have sc := he3.cells
       have s0 := sc 0 (by first | simp | simp [Z10] | simp [EK.L] | simp [EK.L, Z10])
       have s1 := sc 1 (by first | simp | simp [Z10] | simp [EK.L] | simp [EK.L, Z10])
       have s2 := sc 2 (by first | simp | simp [Z10] | simp [EK.L] | simp [EK.L, Z10])
       have s3 := sc 3 (by first | simp | simp [Z10] | simp [EK.L] | simp [EK.L, Z10])
       have s4 := sc 4 (by first | simp | simp [Z10] | simp [EK.L] | simp [EK.L, Z10])
       have s5 := sc 5 (by first | simp | simp [Z10] | simp [EK.L] | simp [EK.L, Z10])
       have s6 := sc 6 (by first | simp | simp [Z10] | simp [EK.L] | simp [EK.L, Z10])
       have s7 := sc 7 (by first | simp | simp [Z10] | simp [EK.L] | simp [EK.L, Z10])
       have s8 := sc 8 (by first | simp | simp [Z10] | simp [EK.L] | simp [EK.L, Z10])
       have s9 := sc 9 (by first | simp | simp [Z10] | simp [EK.L] | simp [EK.L, Z10])
       try simp only [EK.L] at s0 s1 s2 s3 s4 s5 s6 s7 s8 s9
       try simp only [Z10] at s0 s1 s2 s3 s4 s5 s6 s7 s8 s9
       simp only [Nat.zero_add, List.getElem_cons_zero, List.getElem_cons_succ] at s0 s1 s2 s3 s4 s5 s6 s7 s8 s9
       clear sc
       have fs := he3.free
       clear hr3 he3 hal hd3 hy hdx))
  all_goals
    clear o0 o1 o2 o3 o4 o5 o6 o7 o8 o9 fo
    go_wp2_with fail
    ((try simp only [Exit.inBlock, Exit.then]); refine bodyPost_ret (by simp [results, Try.results71, go_sem]; go_simp; rfl) rfl ?_)
    exact ⟨x, y, rfl, HY.out, (H3.out.1.grown (grown_sets rb 0 x.L) (.inl (by omega))).less (by omega), below_sets H3.out.2.2.2 hrw 0 x.L⟩

set_option maxRecDepth 100000 in
set_option maxHeartbeats 8000000 in
theorem drawNeedsC {B : Nat} {w : World} {a : Option Addr} {n : Nat} {z : Nat → Int} (c : Nat) (h : Code B w a n z) (hB : B ≤ w.heap.size) :
    Calls Try.prog 32 #[.slice a n c] w fun e w' => ∃ (x : EK) (y : Int), e = .returned (.tuple #[.agg #[.int .i64 x.k, .int .i64 x.op, .bool x.ng, .int .i64 x.vk, .int .i64 x.vn, .string x.vt, .string x.qu, .string x.nm, .slice x.ka x.m x.kc, .slice x.sa x.ms x.sc], .int .i64 y]) ∧ In y ∧ DrawnE w.heap.size w' x ∧ Below w.heap.size w w' := by
  obtain ⟨rb, hrb⟩ : ∃ v, Hid (v = w.heap.size) := ⟨_, hide rfl⟩
  have hm := Blk.made w Z10 34
  rw [← hrb.out] at hm
  have HM := hide hm
  have HC := hide (And.intro h hB)
  have hb0 : Below w.heap.size w (w.alloc (.cells Z10.toArray 34)) := (Below.refl _ _).alloc (Nat.le_refl _) _
  have HB0 := hide hb0
  have hrw : w.heap.size ≤ rb := Nat.le_of_eq hrb.out.symm
  clear hm h hB hb0
  go_enter Try.func32, Try.ntmps32
  go_wp2_with fail
  refine (l9ArgsC (B := w.heap.size) c ((HC.out.1.mono HC.out.2).below HB0.out) (by simp)).mono ?_
  rintro e w1 ⟨x, y, rfl, hy, hx, hb1⟩
  (try rw [← hrb.out])
  have hr1 := HM.out.below hb1
  have H1 := hide (And.intro (hx.less (lo' := rb + 1) (by rw [hrb.out]; simp)) (And.intro (below_via HB0.out hb1) hy))
  have rc := hr1.cells
  have r0 := rc 0 (by first | simp | simp [Z10] | simp [EK.L] | simp [EK.L, Z10])
  have r1 := rc 1 (by first | simp | simp [Z10] | simp [EK.L] | simp [EK.L, Z10])
  have r2 := rc 2 (by first | simp | simp [Z10] | simp [EK.L] | simp [EK.L, Z10])
  have r3 := rc 3 (by first | simp | simp [Z10] | simp [EK.L] | simp [EK.L, Z10])
  have r4 := rc 4 (by first | simp | simp [Z10] | simp [EK.L] | simp [EK.L, Z10])
  have r5 := rc 5 (by first | simp | simp [Z10] | simp [EK.L] | simp [EK.L, Z10])
  have r6 := rc 6 (by first | simp | simp [Z10] | simp [EK.L] | simp [EK.L, Z10])
  have r7 := rc 7 (by first | simp | simp [Z10] | simp [EK.L] | simp [EK.L, Z10])
  have r8 := rc 8 (by first | simp | simp [Z10] | simp [EK.L] | simp [EK.L, Z10])
  have r9 := rc 9 (by first | simp | simp [Z10] | simp [EK.L] | simp [EK.L, Z10])
  try simp only [EK.L] at r0 r1 r2 r3 r4 r5 r6 r7 r8 r9
  try simp only [Z10] at r0 r1 r2 r3 r4 r5 r6 r7 r8 r9
  simp only [Nat.zero_add, List.getElem_cons_zero, List.getElem_cons_succ] at r0 r1 r2 r3 r4 r5 r6 r7 r8 r9
  clear rc
  have fr := hr1.free
  clear hx hb1 hr1 hy
  go_wp2_with fail
  ((try simp only [Exit.inBlock, Exit.then]); refine bodyPost_ret (by simp [results, Try.results32, go_sem]; go_simp; rfl) rfl ?_)
  exact ⟨x, y, rfl, H1.out.2.2, (H1.out.1.grown (grown_sets rb 0 x.L) (.inl (by omega))).less (by omega), below_sets H1.out.2.1 hrw 0 x.L⟩
end Go.Proofs.Ytfpoakdmclekoaa
