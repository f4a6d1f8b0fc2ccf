/-
  l3Source: a source drawn. How long it can be.
-/
import Derived.Test.YtfnjcgakcpadiaaGreatDoorDrTok
import Derived.Test.YtfnjcgakcpadiaaGreatDoorTokT
import Derived.Test.YtfnjcgakcpadiaaGreatDoorFoldC
import Derived.Deep.CutBlock
import Derived.Deep.DeepCutAuto
namespace Go.Proofs.YtfnjcgakcpadiaaGreatDoor
open Go.RowKit

theorem tokT_le (k : Int) (s : ByteArray) : (tokT k s).size ≤ 2 * s.size + 2 := by
  have hq : ∀ q, (⟨(quoteL q s).toArray⟩ : ByteArray).size ≤ 2 * s.size + 2 := fun q => by
    have h1 := dbl_len q s.data.toList
    have h2 : s.data.toList.length = s.size := Array.length_toList
    show (quoteL q s).toArray.size ≤ _
    unfold quoteL
    simp at h1 ⊢
    omega
  unfold tokT
  split
  · show 0 ≤ _
    omega
  · split
    · unfold nameT
      split
      · split
        · omega
        · exact hq _
      · show 0 ≤ _
        omega
    · split
      · exact hq _
      · omega

theorem Cur.drew {B p : Nat} {w : World} (h : Cur B w p) : Cur B w.drew p := ⟨h.low, h.lt, h.ex⟩
theorem Dr.of_drew {B p : Nat} {w a : World} (h : Dr B p w.drew a) : Dr B p w a := ⟨h.cur, ⟨h.grown.os, h.grown.tape, h.grown.output, h.grown.size, h.grown.block⟩⟩

/-- How long a string is. -/
def szOf (v : Value) : Nat := match v with | .string s => s.size | _ => 0
theorem blanks_size : (⟨#[32, 32, 32, 32, 32, 32, 32, 32, 32, 32, 32, 32, 32, 32, 32, 32, 32, 32, 32, 32]⟩ : ByteArray).size = 20 := rfl

set_option maxRecDepth 100000 in
set_option maxHeartbeats 1600000 in
theorem l3SourceC {B p : Nat} {w : World} (h : Cur B w p) : Calls Tryz.prog 46 #[.pointer (some ⟨p, 0, none⟩)] w fun e w' => ∃ s : ByteArray, e = .returned (.string s) ∧ s.size ≤ 2020 ∧ Dr B p w w' := by
  have hp := h.lt
  go_enter Tryz.func46, Tryz.ntmps46
  go_wp2_with fail
  refine (l1BelowC h 8).mono ?_
  rintro e w1 ⟨x, rfl, x0, x1, hc1, hg1⟩
  have x2 := x1 (by omega)
  obtain ⟨m, rfl⟩ : ∃ m : Nat, x = (m : Int) := ⟨x.toNat, by omega⟩
  have H1 := hide ((Dr.refl h).step hc1 hg1)
  clear hc1 hg1 x1
  go_wp2_with fail
  go_loopw [3, 5] (fun v x wr => ∃ (i : Nat) (s : ByteArray), v = .string s ∧ x = .int .i64 (i : Int) ∧ i ≤ m ∧ s.size ≤ 50 * i ∧ Hid (Dr B p w wr)) (fun _ x _ => m - (intOf x).toNat)
  case atStart => exact ⟨0, ⟨#[]⟩, rfl, rfl, by omega, by decide, H1.out⟩
  case round =>
    obtain ⟨i, s, rfl, rfl, hi, hs, HD⟩ := hrel
    by_cases hlt : i < m
    · have hlt2 : (i : Int) < m := by omega
      go_wp2_with fail
      refine (l1PickC (f := fun j => bwL.getD j ⟨#[]⟩) (n := 8) (HD.out.cur.alloc' _) (by omega) (by omega) (by have := HD.out.lt; omega) ?_).mono ?_
      · intro j hj
        match j, hj with
        | 0, _ => simp [go_sem]; rfl
        | 1, _ => simp [go_sem]; rfl
        | 2, _ => simp [go_sem]; rfl
        | 3, _ => simp [go_sem]; rfl
        | 4, _ => simp [go_sem]; rfl
        | 5, _ => simp [go_sem]; rfl
        | 6, _ => simp [go_sem]; rfl
        | 7, _ => simp [go_sem]; rfl
      rintro e w2 ⟨j, hj, rfl, hc2, hg2⟩
      have hsz := bwL_size j hj
      generalize bwL.getD j ⟨#[]⟩ = s1 at hsz ⊢
      have H2 := hide ((HD.out.alloc _).step hc2 hg2)
      have hss : (s ++ s1).size = s.size + s1.size := ByteArray.size_append
      clear hc2 hg2
      go_wp2_with fail
      refine (l3TokenC H2.out.cur).mono ?_
      rintro e w3 ⟨k, t, rfl, ht, hd⟩
      have H3 := hide (H2.out.trans hd)
      have hT := fun w => specTokenText k t 0 w (by omega)
      have hle := tokT_le k t
      clear hd
      generalize tokT k t = s2 at hT hle
      go_wp2_with fail
      refine (hT _).mono ?_
      rintro e w4 ⟨rfl, hb4⟩
      have H4 := hide (H3.out.below hb4)
      have hs3 : (s ++ s1 ++ s2).size = s.size + s1.size + s2.size := by rw [ByteArray.size_append, hss]
      clear hb4 hT
      go_wp2_with fail
      go_roundw
      case rel => exact ⟨i + 1, s ++ s1 ++ s2, rfl, by go_num, by omega, by omega, H4.out⟩
      case measure => simp [intOf]; omega
    · have hlt2 : ¬ (i : Int) < m := by omega
      have hs1 : s.size ≤ 350 := by omega
      clear hi hs hlt hp h
      go_wp2_with fail
      refine (l1BelowC HD.out.cur 10).mono ?_
      rintro e w2 ⟨x, rfl, x0, x1, hc2, hg2⟩
      have H2 := hide (HD.out.step hc2 hg2)
      clear hc2 hg2 x1 hlt2
      have h3 : x = 0 ∨ x = 1 ∨ x = 2 ∨ (¬ x = 0 ∧ ¬ x = 1 ∧ ¬ x = 2) := by omega
      rcases h3 with rfl | rfl | rfl | ⟨n0, n1, n2⟩
      · go_wp2_with fail
        refine (l1PickC (f := fun j => enL.getD j ⟨#[]⟩) (n := 12) (H2.out.cur.alloc' _) (by omega) (by omega) (by have := H2.out.lt; omega) ?_).mono ?_
        · intro j hj
          match j, hj with
          | 0, _ => simp [go_sem]; rfl
          | 1, _ => simp [go_sem]; rfl
          | 2, _ => simp [go_sem]; rfl
          | 3, _ => simp [go_sem]; rfl
          | 4, _ => simp [go_sem]; rfl
          | 5, _ => simp [go_sem]; rfl
          | 6, _ => simp [go_sem]; rfl
          | 7, _ => simp [go_sem]; rfl
          | 8, _ => simp [go_sem]; rfl
          | 9, _ => simp [go_sem]; rfl
          | 10, _ => simp [go_sem]; rfl
          | 11, _ => simp [go_sem]; rfl
          | q + 12, hq => exact absurd hq (by omega)
        rintro e w3 ⟨j, hj, rfl, hc3, hg3⟩
        have hsz := enL_size j hj
        generalize enL.getD j ⟨#[]⟩ = s1 at hsz ⊢
        have H3 := hide ((H2.out.alloc _).step hc3 hg3)
        have hss : (s ++ s1).size = s.size + s1.size := ByteArray.size_append
        have hs' : (s ++ s1).size ≤ 353 := by omega
        clear hc3 hg3
        go_upto_region 15 with fail
        clear hss
        generalize s ++ s1 = s' at hs' ⊢
        go_wp2_with fail
        refine (l1OnceC H3.out.cur _).mono ?_
        rintro e w4 ⟨b, rfl, hc4, hg4⟩
        have H4 := hide (H3.out.step hc4 hg4)
        clear hc4 hg4
        cases b
        · go_wp2_with fail
          go_ret
          exact ⟨_, rfl, by omega, H4.out⟩
        · go_wp2_with fail
          go_loopw [3] (fun v wr => ∃ s3 : ByteArray, v = .string s3 ∧ s3.size ≤ 2020 ∧ Hid (Dr B p w wr)) (fun v _ => 2001 - szOf v)
          case atStart => exact ⟨s', rfl, by omega, H4.out⟩
          case round =>
            obtain ⟨s3, rfl, hs3, H5⟩ := hrel
            by_cases hfull : s3.size < 2001
            · have hf2 : (s3.size : Int) < 2001 := by omega
              go_wp2_with fail
              go_roundw
              case rel => exact ⟨_, rfl, by rw [ByteArray.size_append, blanks_size]; omega, H5.out⟩
              case measure => simp only [szOf]; rw [ByteArray.size_append, blanks_size]; omega
            · have hf2 : ¬ (s3.size : Int) < 2001 := by omega
              go_wp2_with fail
              refine (l1BelowC H5.out.cur 2).mono ?_
              rintro e w6 ⟨z, rfl, z0, z1, hc6, hg6⟩
              have z2 := z1 (by omega)
              have H6 := hide (H5.out.step hc6 hg6)
              clear hc6 hg6 z1
              obtain ⟨q, rfl⟩ : ∃ q : Nat, z = (q : Int) := ⟨z.toNat, by omega⟩
              go_wp2_with fail
              go_ret
              exact ⟨_, rfl, by simp only [ByteArray.size_extract]; omega, H6.out⟩
      · go_wp2_with fail
        refine (l1BelowC H2.out.cur _).mono ?_
        rintro e w3 ⟨y, rfl, y0, y1, hc3, hg3⟩
        have y2 := y1 (by omega)
        obtain ⟨j, rfl⟩ : ∃ j : Nat, y = (j : Int) := ⟨y.toNat, by omega⟩
        have hj : j ≤ s.size := by omega
        have H3 := hide (H2.out.step hc3 hg3)
        clear hc3 hg3 y1 y2
        go_wp2_with fail
        go_region_with (go_at_call 74; refine (l1BytesC (by first | exact H3.out.cur | exact H3.out.cur.drew) 1 (by omega)).mono ?_; rintro e wz ⟨g, cap, l, rfl, hl, hat, _, hdz⟩; have hdw : Dr _ p w3 wz := (by first | exact hdz | exact hdz.of_drew); have hcs := hat.string (P := Tryz.prog) 22 5 9 Tryz.underlying22 Tryz.underlying5 Tryz.underlying9 1 cap hl.symm; clear hdz)
        have hs' : (s.extract 0 j ++ (⟨l.toArray⟩ : ByteArray) ++ s.extract j s.size).size ≤ 353 := by
          have e9 : (⟨l.toArray⟩ : ByteArray).size = 1 := by simp [ByteArray.size, hl]
          rw [ByteArray.size_append, ByteArray.size_append, e9]
          simp only [ByteArray.size_extract]
          omega
        have H3b := hide (H3.out.trans hdw)
        clear hdw hcs hat hl
        generalize s.extract 0 j ++ (⟨l.toArray⟩ : ByteArray) ++ s.extract j s.size = s' at hs' ⊢
        go_upto_region 15 with fail
        go_wp2_with fail
        refine (l1OnceC H3b.out.cur _).mono ?_
        rintro e w4 ⟨b, rfl, hc4, hg4⟩
        have H4 := hide (H3b.out.step hc4 hg4)
        clear hc4 hg4
        cases b
        · go_wp2_with fail
          go_ret
          exact ⟨_, rfl, by omega, H4.out⟩
        · go_wp2_with fail
          go_loopw [3] (fun v wr => ∃ s3 : ByteArray, v = .string s3 ∧ s3.size ≤ 2020 ∧ Hid (Dr B p w wr)) (fun v _ => 2001 - szOf v)
          case atStart => exact ⟨s', rfl, by omega, H4.out⟩
          case round =>
            obtain ⟨s3, rfl, hs3, H5⟩ := hrel
            by_cases hfull : s3.size < 2001
            · have hf2 : (s3.size : Int) < 2001 := by omega
              go_wp2_with fail
              go_roundw
              case rel => exact ⟨_, rfl, by rw [ByteArray.size_append, blanks_size]; omega, H5.out⟩
              case measure => simp only [szOf]; rw [ByteArray.size_append, blanks_size]; omega
            · have hf2 : ¬ (s3.size : Int) < 2001 := by omega
              go_wp2_with fail
              refine (l1BelowC H5.out.cur 2).mono ?_
              rintro e w6 ⟨z, rfl, z0, z1, hc6, hg6⟩
              have z2 := z1 (by omega)
              have H6 := hide (H5.out.step hc6 hg6)
              clear hc6 hg6 z1
              obtain ⟨q, rfl⟩ : ∃ q : Nat, z = (q : Int) := ⟨z.toNat, by omega⟩
              go_wp2_with fail
              go_ret
              exact ⟨_, rfl, by simp only [ByteArray.size_extract]; omega, H6.out⟩
      · go_wp2_with fail
        refine (specFold s (by omega) _).mono ?_
        rintro e w3 ⟨rfl, hb3⟩
        have H3 := hide (H2.out.below hb3)
        have hs' : (upAll s).size ≤ 353 := by rw [upAll_size]; omega
        clear hb3
        generalize upAll s = s' at hs' ⊢
        go_wp2_with fail
        refine (l1OnceC H3.out.cur _).mono ?_
        rintro e w4 ⟨b, rfl, hc4, hg4⟩
        have H4 := hide (H3.out.step hc4 hg4)
        clear hc4 hg4
        cases b
        · go_wp2_with fail
          go_ret
          exact ⟨_, rfl, by omega, H4.out⟩
        · go_wp2_with fail
          go_loopw [3] (fun v wr => ∃ s3 : ByteArray, v = .string s3 ∧ s3.size ≤ 2020 ∧ Hid (Dr B p w wr)) (fun v _ => 2001 - szOf v)
          case atStart => exact ⟨s', rfl, by omega, H4.out⟩
          case round =>
            obtain ⟨s3, rfl, hs3, H5⟩ := hrel
            by_cases hfull : s3.size < 2001
            · have hf2 : (s3.size : Int) < 2001 := by omega
              go_wp2_with fail
              go_roundw
              case rel => exact ⟨_, rfl, by rw [ByteArray.size_append, blanks_size]; omega, H5.out⟩
              case measure => simp only [szOf]; rw [ByteArray.size_append, blanks_size]; omega
            · have hf2 : ¬ (s3.size : Int) < 2001 := by omega
              go_wp2_with fail
              refine (l1BelowC H5.out.cur 2).mono ?_
              rintro e w6 ⟨z, rfl, z0, z1, hc6, hg6⟩
              have z2 := z1 (by omega)
              have H6 := hide (H5.out.step hc6 hg6)
              clear hc6 hg6 z1
              obtain ⟨q, rfl⟩ : ∃ q : Nat, z = (q : Int) := ⟨z.toNat, by omega⟩
              go_wp2_with fail
              go_ret
              exact ⟨_, rfl, by simp only [ByteArray.size_extract]; omega, H6.out⟩
      · have g0 : (x == 0) = false := by simpa using n0
        have g1 : (x == 1) = false := by simpa using n1
        have g2 : (x == 2) = false := by simpa using n2
        clear n0 n1 n2
        have H3 := H2
        have hs' : s.size ≤ 353 := by omega
        go_upto_region 15 with fail
        generalize s = s' at hs' ⊢
        go_wp2_with fail
        refine (l1OnceC H3.out.cur _).mono ?_
        rintro e w4 ⟨b, rfl, hc4, hg4⟩
        have H4 := hide (H3.out.step hc4 hg4)
        clear hc4 hg4
        cases b
        · go_wp2_with fail
          go_ret
          exact ⟨_, rfl, by omega, H4.out⟩
        · go_wp2_with fail
          go_loopw [3] (fun v wr => ∃ s3 : ByteArray, v = .string s3 ∧ s3.size ≤ 2020 ∧ Hid (Dr B p w wr)) (fun v _ => 2001 - szOf v)
          case atStart => exact ⟨s', rfl, by omega, H4.out⟩
          case round =>
            obtain ⟨s3, rfl, hs3, H5⟩ := hrel
            by_cases hfull : s3.size < 2001
            · have hf2 : (s3.size : Int) < 2001 := by omega
              go_wp2_with fail
              go_roundw
              case rel => exact ⟨_, rfl, by rw [ByteArray.size_append, blanks_size]; omega, H5.out⟩
              case measure => simp only [szOf]; rw [ByteArray.size_append, blanks_size]; omega
            · have hf2 : ¬ (s3.size : Int) < 2001 := by omega
              go_wp2_with fail
              refine (l1BelowC H5.out.cur 2).mono ?_
              rintro e w6 ⟨z, rfl, z0, z1, hc6, hg6⟩
              have z2 := z1 (by omega)
              have H6 := hide (H5.out.step hc6 hg6)
              clear hc6 hg6 z1
              obtain ⟨q, rfl⟩ : ∃ q : Nat, z = (q : Int) := ⟨z.toNat, by omega⟩
              go_wp2_with fail
              go_ret
              exact ⟨_, rfl, by simp only [ByteArray.size_extract]; omega, H6.out⟩
end Go.Proofs.YtfnjcgakcpadiaaGreatDoor
