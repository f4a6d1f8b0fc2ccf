/-
  toTokenS, toValueS: the laws' copies, in blocks of their own.
-/
import Derived.Test.YtfikgiekigbaoaaRows
import Derived.WalkLawsBesides
import Derived.Deep.Light
import Derived.OwnWalk
import Derived.Deep.CutBlock
import Derived.Deep.DeepCutAuto
import Derived.Test.YtfikgiekigbaoaaM1
import Derived.Test.YtfikgiekigbaoaaFlat
namespace Go.Proofs.Ytfikgiekigbaoaa
open Go.RowKit

theorem toValueP (k n : Int) (s : ByteArray) (w : World) :
    Calls Try.prog 33 #[.agg #[.int .i64 k, .int .i64 n, .string s]] w fun e w' => e = .returned (.agg #[.int .i64 k, .int .i64 n, .string s]) ∧ Below w.heap.size w w' := by
  go_enter Try.func33, Try.ntmps33
  go_wp2
  go_returns
  exact ⟨rfl, by go_grown⟩

theorem Try.infoTk : (Try.prog.info? 49).map (fun i => (i.zero, i.size, i.bytes)) = some (some (.agg #[.int .i64 0, .string ⟨#[]⟩, .int .i64 0]), 3, 32) := by kernel_rfl
def ToTk (_n : Nat) : Prop := ∀ (w0 w : World) (_lo M : Nat) (x : TokF), Below w0.heap.size w0 w → x.text.size ≤ M → M ≤ 1048576 →
  Calls Try.prog 27 #[.agg #[.int .i64 x.kind, .string x.text, .int .i64 x.pos]] w (fun e w' => e = .returned (.agg #[.int .i64 x.kind, .string x.text, .int .i64 x.pos]) ∧ (x.text.size ≤ M) ∧ Below w.heap.size w w')

theorem Try.infoVa : (Try.prog.info? 57).map (fun i => (i.zero, i.size, i.bytes)) = some (some (.agg #[.int .i64 0, .int .i64 0, .string ⟨#[]⟩]), 3, 32) := by kernel_rfl
def ToVa (_n : Nat) : Prop := ∀ (w0 w : World) (_lo M : Nat) (x : ValF), Below w0.heap.size w0 w → x.text.size ≤ M → M ≤ 1048576 →
  Calls Try.prog 33 #[.agg #[.int .i64 x.kind, .int .i64 x.num, .string x.text]] w (fun e w' => e = .returned (.agg #[.int .i64 x.kind, .int .i64 x.num, .string x.text]) ∧ (x.text.size ≤ M) ∧ Below w.heap.size w w')

theorem toTokenC (n : Nat) : ToTk n := by
  intro w0 w _ M x _ hx _
  go_enter Try.func27, Try.ntmps27
  go_wp2
  go_returns
  exact ⟨rfl, hx, by go_grown⟩
theorem toValueC (n : Nat) : ToVa n := fun _ w _ M x _ hx _ => (toValueP x.kind x.num x.text w).mono fun _ _ ⟨h1, h2⟩ => ⟨h1, hx, h2⟩

def ToTkSP (w : World) (M n : Nat) (xs : List (TokF)) (e : Ending) (w' : World) : Prop := ∃ (a : Option Addr) (c : Nat), e = .returned (.slice a xs.length c) ∧ RowP w' w.heap.size M 3 (tkC M) xs a ∧ Below w.heap.size w w'
set_option maxRecDepth 100000 in
set_option maxHeartbeats 1600000 in
theorem toTokenSC {n : Nat} (IH : ToTk n) {w0 w : World} (h00 : Below w0.heap.size w0 w) {lo M : Nat} {xs : List (TokF)} {a : Option Addr} (c : Nat) (h : RowP w0 lo M 3 (tkC M) xs a) (hM : M ≤ 1048576) :
    Calls Try.prog 9 #[.slice a xs.length c] w (ToTkSP w M n xs) := by
  obtain ⟨hlen, hrow⟩ := h
  have HI := hide IH
  clear IH
  have HLM := hide hlen
  obtain ⟨m, hm⟩ : ∃ m, Hid (xs.length = m) := ⟨_, rfl⟩
  rw [hm.out] at hlen ⊢
  have hlen2 : m ≤ 1048576 := by omega
  have HM := hide hM
  have H0 := hide h00
  have HROW := hide hrow
  clear h00 hlen hM hrow
  obtain ⟨i0, hi, hz0, hz1, hz2⟩ := info_parts Try.infoTk
  obtain ⟨wm, hmk, hown, hgr⟩ := run_make_full (P := Try.prog) w w.heap.size 25 49 i0 _ 3 Try.underlying25 hi hz0 hz1 .i64 .i64 m (by rw [hz2]; omega) (by unfold maxLen; omega) (Nat.le_refl _)
  have HRM := hide (And.intro (Room.of_owns hown (by rw [Array.length_toList, size_madeCells])) ((Below.refl w.heap.size w).grown hgr (Nat.le_refl _) (fun k hk => by cases hk)))
  clear hown hgr hi hz0 hz1 hz2 i0
  obtain ⟨g, hg⟩ : ∃ g, Hid (g = w.heap.size) := ⟨_, rfl⟩
  rw [← hg.out] at hmk HRM
  go_enter Try.func9, Try.ntmps9
  go_wp2_with fail
  clear hmk
  go_loopw [4] (fun x wr => ∃ (j : Nat), x = .int .i64 j ∧ j ≤ m ∧ Hid (Room wr g (m * 3) ∧ (∀ i (h : i < xs.length), i < j → ∃ cs, (tkC M) xs[i] cs ∧ cellsAt wr g (i * 3) cs) ∧ Below w.heap.size w wr)) (fun x _ => m - (intOf x).toNat)
  case atStart => exact ⟨0, rfl, by omega, HRM.out.1, (fun i _ hi => absurd hi (by omega)), by rw [← hg.out]; exact HRM.out.2⟩
  case round =>
    obtain ⟨j, rfl, hj, HJ⟩ := hrel
    by_cases hlt : j < m
    · have hlt2 : (j : Int) < m := by omega
      have hjx : j < xs.length := by have := hm.out; omega
      obtain ⟨b, o, rfl, hlo, hb, hel⟩ := HROW.out (by omega)
      obtain ⟨cs, ⟨rfl, hx⟩, hat⟩ := hel j hjx
      obtain ⟨c0, c1, c2⟩ := tk_at (hat.same ((below_via H0.out HJ.out.2.2).block b hb))
      have HX := hide hx
      clear hx hat hel hlo hb
      generalize hxe : xs[j] = x at HX c0 c1 c2
      have HXE := hide hxe
      clear hxe
      go_wp2_with fail
      refine (HI.out w0 _ lo M x  (below_via H0.out HJ.out.2.2) HX.out HM.out).mono ?_
      rintro e w2 ⟨rfl, hx2, hb2⟩
      have hr2 := HJ.out.1.below hb2
      have HX2 := hide (And.intro hx2 (And.intro hb2 (And.intro hr2 (below_via HJ.out.2.2 hb2))))
      clear hx2 hb2 c0 c1 c2
      have hfr := hr2.free
      obtain ⟨u0, hu0⟩ := hr2.has (j * 3) (by omega)
      obtain ⟨u1, hu1⟩ := hr2.has (j * 3 + 1) (by omega)
      obtain ⟨u2, hu2⟩ := hr2.has (j * 3 + 2) (by omega)
      clear hr2
      go_wp2_with fail
      go_roundw
      case rel =>
        refine ⟨j + 1, by go_num, by omega, ?_⟩
        have hK : ∀ W, W = w2.setCells g (j * 3) [.int .i64 x.kind, .string x.text, .int .i64 x.pos] → Room W g (m * 3) ∧ (∀ i (h : i < xs.length), i < j + 1 → ∃ cs, (tkC M) xs[i] cs ∧ cellsAt W g (i * 3) cs) ∧ Below w.heap.size w W := by
          rintro W rfl
          have hgs : w.heap.size ≤ g := Nat.le_of_eq hg.out.symm
          have hwr : g + 1 ≤ wr.heap.size := HJ.out.1.lt
          refine ⟨HX2.out.2.2.1.sets _ _, fun i hi hij => ?_, below_sets HX2.out.2.2.2 hgs _ _⟩
          by_cases hij2 : i = j
          · subst hij2
            rw [HXE.out]
            refine ⟨_, ⟨rfl, ?_⟩, HX2.out.2.2.1.at_in (i * 3) [.int .i64 x.kind, .string x.text, .int .i64 x.pos] (by simp; omega)⟩
            have hk := (Keeps.refl wr.heap.size w2).sets (show g < wr.heap.size by omega) (i * 3) [.int .i64 x.kind, .string x.text, .int .i64 x.pos]
            have hx2 := HX2.out.1
            exact hx2
          · obtain ⟨cs, ⟨rfl, hy⟩, hat⟩ := HJ.out.2.1 i hi (by omega)
            refine ⟨_, ⟨rfl, ?_⟩, (hat.same (HX2.out.2.1.block g HJ.out.1.lt)).apart _ _ (by simp; omega)⟩
            have hk : Keeps (g + 1) wr (w2.setCells g (j * 3) [.int .i64 x.kind, .string x.text, .int .i64 x.pos]) := (Keeps.of HX2.out.2.1).sets (by omega) _ _
            have hx2 := hy
            exact hx2
        exact hK _ rfl
      case measure => simp [intOf]; omega
    · have hlt2 : ¬ (j : Int) < m := by omega
      obtain rfl : j = m := by omega
      go_wp2_with fail
      go_ret
      refine ⟨some ⟨g, 0, none⟩, j, by rw [hm.out]; rfl, ⟨HLM.out, fun _ => ⟨g, 0, rfl, Nat.le_of_eq hg.out.symm, HJ.out.1.lt, fun i hi => ?_⟩⟩, HJ.out.2.2⟩
      obtain ⟨cs, ⟨rfl, hx2⟩, hat⟩ := HJ.out.2.1 i hi (by have := hm.out; omega)
      have hk := Keeps.refl (g + 1) wr
      refine ⟨_, ⟨rfl, ?_⟩, by rw [Nat.zero_add]; exact hat⟩
      have hge : w.heap.size ≤ g + 1 := by have := hg.out; omega
      exact hx2

def ToVaSP (w : World) (M n : Nat) (xs : List (ValF)) (e : Ending) (w' : World) : Prop := ∃ (a : Option Addr) (c : Nat), e = .returned (.slice a xs.length c) ∧ RowP w' w.heap.size M 3 (vaC M) xs a ∧ Below w.heap.size w w'
set_option maxRecDepth 100000 in
set_option maxHeartbeats 1600000 in
theorem toValueSC {n : Nat} (IH : ToVa n) {w0 w : World} (h00 : Below w0.heap.size w0 w) {lo M : Nat} {xs : List (ValF)} {a : Option Addr} (c : Nat) (h : RowP w0 lo M 3 (vaC M) xs a) (hM : M ≤ 1048576) :
    Calls Try.prog 14 #[.slice a xs.length c] w (ToVaSP w M n xs) := by
  obtain ⟨hlen, hrow⟩ := h
  have HI := hide IH
  clear IH
  have HLM := hide hlen
  obtain ⟨m, hm⟩ : ∃ m, Hid (xs.length = m) := ⟨_, rfl⟩
  rw [hm.out] at hlen ⊢
  have hlen2 : m ≤ 1048576 := by omega
  have HM := hide hM
  have H0 := hide h00
  have HROW := hide hrow
  clear h00 hlen hM hrow
  obtain ⟨i0, hi, hz0, hz1, hz2⟩ := info_parts Try.infoVa
  obtain ⟨wm, hmk, hown, hgr⟩ := run_make_full (P := Try.prog) w w.heap.size 31 57 i0 _ 3 Try.underlying31 hi hz0 hz1 .i64 .i64 m (by rw [hz2]; omega) (by unfold maxLen; omega) (Nat.le_refl _)
  have HRM := hide (And.intro (Room.of_owns hown (by rw [Array.length_toList, size_madeCells])) ((Below.refl w.heap.size w).grown hgr (Nat.le_refl _) (fun k hk => by cases hk)))
  clear hown hgr hi hz0 hz1 hz2 i0
  obtain ⟨g, hg⟩ : ∃ g, Hid (g = w.heap.size) := ⟨_, rfl⟩
  rw [← hg.out] at hmk HRM
  go_enter Try.func14, Try.ntmps14
  go_wp2_with fail
  clear hmk
  go_loopw [4] (fun x wr => ∃ (j : Nat), x = .int .i64 j ∧ j ≤ m ∧ Hid (Room wr g (m * 3) ∧ (∀ i (h : i < xs.length), i < j → ∃ cs, (vaC M) xs[i] cs ∧ cellsAt wr g (i * 3) cs) ∧ Below w.heap.size w wr)) (fun x _ => m - (intOf x).toNat)
  case atStart => exact ⟨0, rfl, by omega, HRM.out.1, (fun i _ hi => absurd hi (by omega)), by rw [← hg.out]; exact HRM.out.2⟩
  case round =>
    obtain ⟨j, rfl, hj, HJ⟩ := hrel
    by_cases hlt : j < m
    · have hlt2 : (j : Int) < m := by omega
      have hjx : j < xs.length := by have := hm.out; omega
      obtain ⟨b, o, rfl, hlo, hb, hel⟩ := HROW.out (by omega)
      obtain ⟨cs, ⟨rfl, hx⟩, hat⟩ := hel j hjx
      obtain ⟨c0, c1, c2⟩ := va_at (hat.same ((below_via H0.out HJ.out.2.2).block b hb))
      have HX := hide hx
      clear hx hat hel hlo hb
      generalize hxe : xs[j] = x at HX c0 c1 c2
      have HXE := hide hxe
      clear hxe
      go_wp2_with fail
      refine (HI.out w0 _ lo M x  (below_via H0.out HJ.out.2.2) HX.out HM.out).mono ?_
      rintro e w2 ⟨rfl, hx2, hb2⟩
      have hr2 := HJ.out.1.below hb2
      have HX2 := hide (And.intro hx2 (And.intro hb2 (And.intro hr2 (below_via HJ.out.2.2 hb2))))
      clear hx2 hb2 c0 c1 c2
      have hfr := hr2.free
      obtain ⟨u0, hu0⟩ := hr2.has (j * 3) (by omega)
      obtain ⟨u1, hu1⟩ := hr2.has (j * 3 + 1) (by omega)
      obtain ⟨u2, hu2⟩ := hr2.has (j * 3 + 2) (by omega)
      clear hr2
      go_wp2_with fail
      go_roundw
      case rel =>
        refine ⟨j + 1, by go_num, by omega, ?_⟩
        have hK : ∀ W, W = w2.setCells g (j * 3) [.int .i64 x.kind, .int .i64 x.num, .string x.text] → Room W g (m * 3) ∧ (∀ i (h : i < xs.length), i < j + 1 → ∃ cs, (vaC M) xs[i] cs ∧ cellsAt W g (i * 3) cs) ∧ Below w.heap.size w W := by
          rintro W rfl
          have hgs : w.heap.size ≤ g := Nat.le_of_eq hg.out.symm
          have hwr : g + 1 ≤ wr.heap.size := HJ.out.1.lt
          refine ⟨HX2.out.2.2.1.sets _ _, fun i hi hij => ?_, below_sets HX2.out.2.2.2 hgs _ _⟩
          by_cases hij2 : i = j
          · subst hij2
            rw [HXE.out]
            refine ⟨_, ⟨rfl, ?_⟩, HX2.out.2.2.1.at_in (i * 3) [.int .i64 x.kind, .int .i64 x.num, .string x.text] (by simp; omega)⟩
            have hk := (Keeps.refl wr.heap.size w2).sets (show g < wr.heap.size by omega) (i * 3) [.int .i64 x.kind, .int .i64 x.num, .string x.text]
            have hx2 := HX2.out.1
            exact hx2
          · obtain ⟨cs, ⟨rfl, hy⟩, hat⟩ := HJ.out.2.1 i hi (by omega)
            refine ⟨_, ⟨rfl, ?_⟩, (hat.same (HX2.out.2.1.block g HJ.out.1.lt)).apart _ _ (by simp; omega)⟩
            have hk : Keeps (g + 1) wr (w2.setCells g (j * 3) [.int .i64 x.kind, .int .i64 x.num, .string x.text]) := (Keeps.of HX2.out.2.1).sets (by omega) _ _
            have hx2 := hy
            exact hx2
        exact hK _ rfl
      case measure => simp [intOf]; omega
    · have hlt2 : ¬ (j : Int) < m := by omega
      obtain rfl : j = m := by omega
      go_wp2_with fail
      go_ret
      refine ⟨some ⟨g, 0, none⟩, j, by rw [hm.out]; rfl, ⟨HLM.out, fun _ => ⟨g, 0, rfl, Nat.le_of_eq hg.out.symm, HJ.out.1.lt, fun i hi => ?_⟩⟩, HJ.out.2.2⟩
      obtain ⟨cs, ⟨rfl, hx2⟩, hat⟩ := HJ.out.2.1 i hi (by have := hm.out; omega)
      have hk := Keeps.refl (g + 1) wr
      refine ⟨_, ⟨rfl, ?_⟩, by rw [Nat.zero_add]; exact hat⟩
      have hge : w.heap.size ≤ g + 1 := by have := hg.out; omega
      exact hx2

end Go.Proofs.Ytfikgiekigbaoaa
