/-
  readToken: the program's next token: words.
-/
import Derived.Test.YtfnjcgakcpadiaaGreatDoorTB
import Derived.Test.YtfnjcgakcpadiaaGreatDoorSkipI
import Derived.Deep.CutBlock
import Derived.Deep.DeepCutAuto
namespace Go.Proofs.YtfnjcgakcpadiaaGreatDoor
open Go.RowKit

set_option maxRecDepth 100000 in
set_option maxHeartbeats 3200000 in
theorem implOne_D (s : ByteArray) (a : Nat) (ha : a < s.size) (hs : s.size ≤ 1048576) (w : World) (hR : Ready w) (e : Nat) (hae : a ≤ e) (hes : e ≤ s.size) (hrun : Hid ((∀ i (h : i < s.size), a ≤ i → i < e → partB s[i] = true) ∧ (∀ h : e < s.size, partB s[e] = false))) (_hl : letB s[a] = false) (hd : digB s[a] = true) :
    Calls Tryz.prog 36 #[.string s, .int .i64 (a : Int)] w fun z w' => TokI (chk 3 (s.extract a e) (s.extract a e).size) a z ∧ Below w.heap.size w w' := by
  have ha2 : (a : Int) < s.size := by omega
  have HR := hide hR
  clear hR
  have hxs : (s.extract a e).size = e - a := by simp [ByteArray.size_extract]; omega
  have hp : partB s[a] = true := by unfold partB; rw [hd]; simp
  go_enter Tryz.func36, Tryz.ntmps36
  go_upto_block 0 with fail
  generalize hW : World.alloc _ _ = W1
  have hb0 := TB.made w 25 25 (a : Int)
  rw [hW] at hb0
  obtain ⟨b4, hb4⟩ : ∃ b, b = w.heap.size := ⟨_, rfl⟩
  obtain ⟨bt, hbt⟩ : ∃ b, b = w.heap.size + 1 := ⟨_, rfl⟩
  rw [← hbt, ← hb4] at hb0 ⊢
  have H0 := hide hb0
  clear hb0 hW hb4 hbt
  go_cut [8] (fun s8 wx => s8 = .int .i64 ((e : Nat) : Int) ∧ TB w wx b4 bt 3 (s.extract a e) (a : Int))
  case first =>
    go_wp2_with fail
    refine (isPartC _ _).mono ?_
    rintro x w9 ⟨rfl, rfl⟩
    rw [hp]
    go_upto_block 3 with fail
    go_cut [8] (fun s8 wx => s8 = .int .i64 (e : Int) ∧ W1 = wx)
    case first =>
      go_wp2_with fail
      go_loop [8] (fun x => ∃ j : Nat, x = .int .i64 (j : Int) ∧ a ≤ j ∧ j ≤ e) (fun x => s.size - (intOf x).toNat)
      case atStart => exact ⟨a, rfl, by omega, by omega⟩
      case round =>
        obtain ⟨j, rfl, hj1, hj2⟩ := hrel
        by_cases hje : j < e
        · have hlt : j < s.size := by omega
          have hlt2 : (j : Int) < s.size := by omega
          have hc := hrun.out.1 j hlt hj1 hje
          go_wp2_with fail
          refine (isPartC _ _).mono ?_
          rintro x w9 ⟨rfl, rfl⟩
          rw [hc]
          clear hc
          go_wp2_with fail
          go_round
          case rel => exact ⟨j + 1, by go_num, by omega, by omega⟩
          case measure => simp [intOf]; omega
        · obtain rfl : j = e := by omega
          by_cases hlt : j < s.size
          · have hlt2 : (j : Int) < s.size := by omega
            have hc := hrun.out.2 hlt
            go_wp2_with fail
            refine (isPartC _ _).mono ?_
            rintro x w9 ⟨rfl, rfl⟩
            rw [hc]
            clear hc
            go_wp2_with fail
            go_meet
            exact ⟨rfl, by first | rfl | trivial⟩
          · have hlt2 : ¬ (j : Int) < s.size := by omega
            go_wp2_with fail
            go_meet
            exact ⟨rfl, by first | rfl | trivial⟩
    case rest =>
      obtain ⟨rfl, rfl⟩ := hcut
      have hes2 : (e : Int) ≤ s.size := by omega
      have hae2 : (a : Int) ≤ e := by omega
      obtain ⟨_, ⟨c0, c1, c2⟩, ⟨f0, f1, f2⟩⟩ := H0.out.t
      go_wp2_with fail
      go_cut [8] (fun s8 wx => s8 = .int .i64 (e : Int) ∧ TB w wx b4 bt 2 (s.extract a e) (a : Int))
      case first =>
        go_region_with fail
        all_goals go_wp2_with fail
        all_goals go_meet
        all_goals refine ⟨rfl, ?_⟩
        all_goals first | exact ((H0.out.setK 2).setX (s.extract a e)) | exact ((H0.out.setX (s.extract a e)).setK 2) | exact ((H0.out.drew.setK 2).setX (s.extract a e)) | exact ((H0.out.drew.setX (s.extract a e)).setK 2) | exact ((H0.out.setK 2).setX (s.extract a e)).drew | exact ((H0.out.setX (s.extract a e)).setK 2).drew
      case rest =>
        obtain ⟨rfl, hT⟩ := hcut
        rename World => W2
        have H1 := hide hT
        clear hT c0 c1 c2 f0 f1 f2
        obtain ⟨_, ⟨c0, c1, c2⟩, ⟨f0, f1, f2⟩⟩ := H1.out.t
        go_wp2_with fail
        refine (isDigitC _ _).mono ?_
        rintro x w9 ⟨rfl, rfl⟩
        rw [hd]
        go_wp2_with fail
        go_meet
        exact ⟨rfl, H1.out.setK 3⟩
  case rest =>
    obtain ⟨rfl, hT⟩ := hcut
    rename World => W2
    have HF := hide hT
    clear hT
    have HRF : Hid (Ready W2) := HR.out.below HF.out.bel
    obtain ⟨_, ⟨c0, c1, c2⟩, ⟨f0, f1, f2⟩⟩ := HF.out.t
    obtain ⟨_, ⟨r0, r1, r2⟩, ⟨rf0, rf1, rf2⟩⟩ := HF.out.r
    have hne := HF.out.ne
    cases htok : tokOk 3 (s.extract a e)
    · go_wp2_with fail
      go_region_with (go_at_call 17; refine (implTokenOk 3 (s.extract a e) (a : Int) _ (by omega) (by first | exact HRF.out.below ((Below.refl _ _).drew) | exact HRF.out)).mono ?_; rintro y wz ⟨rfl, hbz⟩; (first | (have HZ := hide (HF.out.drew.below hbz)) | (have HZ := hide (HF.out.below hbz))); clear hbz c0 c1 c2 f0 f1 f2 r0 r1 r2 rf0 rf1 rf2; obtain ⟨_, ⟨c0, c1, c2⟩, ⟨f0, f1, f2⟩⟩ := HZ.out.t; obtain ⟨_, ⟨r0, r1, r2⟩, ⟨rf0, rf1, rf2⟩⟩ := HZ.out.r; rw [htok])
      all_goals go_wp2_with fail
      all_goals ((try simp only [Exit.inBlock, Exit.then]); refine bodyPost_ret (by simp [results, Tryz.results36, go_sem]; go_simp; rfl) rfl ?_)
      all_goals exact ⟨TokI.chk_no htok, (by first | exact ((HZ.out.bel.setCell HZ.out.l4 _).setCell HZ.out.l4 _).setCell HZ.out.l4 _ | exact (((HZ.out.bel.setCell HZ.out.l4 _).setCell HZ.out.l4 _).setCell HZ.out.l4 _).drew)⟩
    · go_wp2_with fail
      go_region_with (go_at_call 17; refine (implTokenOk 3 (s.extract a e) (a : Int) _ (by omega) (by first | exact HRF.out.below ((Below.refl _ _).drew) | exact HRF.out)).mono ?_; rintro y wz ⟨rfl, hbz⟩; (first | (have HZ := hide (HF.out.drew.below hbz)) | (have HZ := hide (HF.out.below hbz))); clear hbz c0 c1 c2 f0 f1 f2 r0 r1 r2 rf0 rf1 rf2; obtain ⟨_, ⟨c0, c1, c2⟩, ⟨f0, f1, f2⟩⟩ := HZ.out.t; obtain ⟨_, ⟨r0, r1, r2⟩, ⟨rf0, rf1, rf2⟩⟩ := HZ.out.r; rw [htok])
      all_goals go_wp2_with fail
      all_goals ((try simp only [Exit.inBlock, Exit.then]); refine bodyPost_ret (by simp [results, Tryz.results36, go_sem]; go_simp; rfl) rfl ?_)
      all_goals exact ⟨TokI.chk_yes htok (by omega), (by first | exact ((HZ.out.bel.setCell HZ.out.l4 _).setCell HZ.out.l4 _).setCell HZ.out.l4 _ | exact (((HZ.out.bel.setCell HZ.out.l4 _).setCell HZ.out.l4 _).setCell HZ.out.l4 _).drew)⟩

set_option maxRecDepth 100000 in
set_option maxHeartbeats 3200000 in
theorem implOne_N (s : ByteArray) (a : Nat) (ha : a < s.size) (hs : s.size ≤ 1048576) (w : World) (hR : Ready w) (e : Nat) (hae : a ≤ e) (hes : e ≤ s.size) (hrun : Hid ((∀ i (h : i < s.size), a ≤ i → i < e → partB s[i] = true) ∧ (∀ h : e < s.size, partB s[e] = false))) (hl : letB s[a] = true) (hk : keyNo (upAll (s.extract a e)) = 0) :
    Calls Tryz.prog 36 #[.string s, .int .i64 (a : Int)] w fun z w' => TokI (chk 2 (s.extract a e) (s.extract a e).size) a z ∧ Below w.heap.size w w' := by
  have ha2 : (a : Int) < s.size := by omega
  have HR := hide hR
  clear hR
  have hxs : (s.extract a e).size = e - a := by simp [ByteArray.size_extract]; omega
  have hp : partB s[a] = true := by unfold partB; rw [hl]; rfl
  go_enter Tryz.func36, Tryz.ntmps36
  go_upto_block 0 with fail
  generalize hW : World.alloc _ _ = W1
  have hb0 := TB.made w 25 25 (a : Int)
  rw [hW] at hb0
  obtain ⟨b4, hb4⟩ : ∃ b, b = w.heap.size := ⟨_, rfl⟩
  obtain ⟨bt, hbt⟩ : ∃ b, b = w.heap.size + 1 := ⟨_, rfl⟩
  rw [← hbt, ← hb4] at hb0 ⊢
  have H0 := hide hb0
  clear hb0 hW hb4 hbt
  go_cut [8] (fun s8 wx => s8 = .int .i64 ((e : Nat) : Int) ∧ TB w wx b4 bt 2 (s.extract a e) (a : Int))
  case first =>
    go_wp2_with fail
    refine (isPartC _ _).mono ?_
    rintro x w9 ⟨rfl, rfl⟩
    rw [hp]
    go_upto_block 3 with fail
    go_cut [8] (fun s8 wx => s8 = .int .i64 (e : Int) ∧ W1 = wx)
    case first =>
      go_wp2_with fail
      go_loop [8] (fun x => ∃ j : Nat, x = .int .i64 (j : Int) ∧ a ≤ j ∧ j ≤ e) (fun x => s.size - (intOf x).toNat)
      case atStart => exact ⟨a, rfl, by omega, by omega⟩
      case round =>
        obtain ⟨j, rfl, hj1, hj2⟩ := hrel
        by_cases hje : j < e
        · have hlt : j < s.size := by omega
          have hlt2 : (j : Int) < s.size := by omega
          have hc := hrun.out.1 j hlt hj1 hje
          go_wp2_with fail
          refine (isPartC _ _).mono ?_
          rintro x w9 ⟨rfl, rfl⟩
          rw [hc]
          clear hc
          go_wp2_with fail
          go_round
          case rel => exact ⟨j + 1, by go_num, by omega, by omega⟩
          case measure => simp [intOf]; omega
        · obtain rfl : j = e := by omega
          by_cases hlt : j < s.size
          · have hlt2 : (j : Int) < s.size := by omega
            have hc := hrun.out.2 hlt
            go_wp2_with fail
            refine (isPartC _ _).mono ?_
            rintro x w9 ⟨rfl, rfl⟩
            rw [hc]
            clear hc
            go_wp2_with fail
            go_meet
            exact ⟨rfl, by first | rfl | trivial⟩
          · have hlt2 : ¬ (j : Int) < s.size := by omega
            go_wp2_with fail
            go_meet
            exact ⟨rfl, by first | rfl | trivial⟩
    case rest =>
      obtain ⟨rfl, rfl⟩ := hcut
      have hes2 : (e : Int) ≤ s.size := by omega
      have hae2 : (a : Int) ≤ e := by omega
      obtain ⟨_, ⟨c0, c1, c2⟩, ⟨f0, f1, f2⟩⟩ := H0.out.t
      go_wp2_with fail
      go_cut [8] (fun s8 wx => s8 = .int .i64 (e : Int) ∧ TB w wx b4 bt 2 (s.extract a e) (a : Int))
      case first =>
        go_region_with fail
        all_goals go_wp2_with fail
        all_goals go_meet
        all_goals refine ⟨rfl, ?_⟩
        all_goals first | exact ((H0.out.setK 2).setX (s.extract a e)) | exact ((H0.out.setX (s.extract a e)).setK 2) | exact ((H0.out.drew.setK 2).setX (s.extract a e)) | exact ((H0.out.drew.setX (s.extract a e)).setK 2) | exact ((H0.out.setK 2).setX (s.extract a e)).drew | exact ((H0.out.setX (s.extract a e)).setK 2).drew
      case rest =>
        obtain ⟨rfl, hT⟩ := hcut
        rename World => W2
        have H1 := hide hT
        clear hT c0 c1 c2 f0 f1 f2
        obtain ⟨_, ⟨c0, c1, c2⟩, ⟨f0, f1, f2⟩⟩ := H1.out.t
        go_wp2_with fail
        have hd := let_dig _ hl
        refine (isDigitC _ _).mono ?_
        rintro x w9 ⟨rfl, rfl⟩
        rw [hd]
        go_wp2_with fail
        obtain ⟨m, hm⟩ := (HR.out.below H1.out.bel).max
        refine (implKeyOf (s.extract a e) m _ (by omega) hm).mono ?_
        rintro y w9 ⟨rfl, hb⟩
        have H2 := hide (H1.out.below hb)
        clear hb hm c0 c1 c2 f0 f1 f2
        obtain ⟨_, ⟨c0, c1, c2⟩, ⟨f0, f1, f2⟩⟩ := H2.out.t
        rw [hk]
        go_wp2_with fail
        go_meet
        exact ⟨rfl, H2.out⟩
  case rest =>
    obtain ⟨rfl, hT⟩ := hcut
    rename World => W2
    have HF := hide hT
    clear hT
    have HRF : Hid (Ready W2) := HR.out.below HF.out.bel
    obtain ⟨_, ⟨c0, c1, c2⟩, ⟨f0, f1, f2⟩⟩ := HF.out.t
    obtain ⟨_, ⟨r0, r1, r2⟩, ⟨rf0, rf1, rf2⟩⟩ := HF.out.r
    have hne := HF.out.ne
    cases htok : tokOk 2 (s.extract a e)
    · go_wp2_with fail
      go_region_with (go_at_call 17; refine (implTokenOk 2 (s.extract a e) (a : Int) _ (by omega) (by first | exact HRF.out.below ((Below.refl _ _).drew) | exact HRF.out)).mono ?_; rintro y wz ⟨rfl, hbz⟩; (first | (have HZ := hide (HF.out.drew.below hbz)) | (have HZ := hide (HF.out.below hbz))); clear hbz c0 c1 c2 f0 f1 f2 r0 r1 r2 rf0 rf1 rf2; obtain ⟨_, ⟨c0, c1, c2⟩, ⟨f0, f1, f2⟩⟩ := HZ.out.t; obtain ⟨_, ⟨r0, r1, r2⟩, ⟨rf0, rf1, rf2⟩⟩ := HZ.out.r; rw [htok])
      all_goals go_wp2_with fail
      all_goals ((try simp only [Exit.inBlock, Exit.then]); refine bodyPost_ret (by simp [results, Tryz.results36, go_sem]; go_simp; rfl) rfl ?_)
      all_goals exact ⟨TokI.chk_no htok, (by first | exact ((HZ.out.bel.setCell HZ.out.l4 _).setCell HZ.out.l4 _).setCell HZ.out.l4 _ | exact (((HZ.out.bel.setCell HZ.out.l4 _).setCell HZ.out.l4 _).setCell HZ.out.l4 _).drew)⟩
    · go_wp2_with fail
      go_region_with (go_at_call 17; refine (implTokenOk 2 (s.extract a e) (a : Int) _ (by omega) (by first | exact HRF.out.below ((Below.refl _ _).drew) | exact HRF.out)).mono ?_; rintro y wz ⟨rfl, hbz⟩; (first | (have HZ := hide (HF.out.drew.below hbz)) | (have HZ := hide (HF.out.below hbz))); clear hbz c0 c1 c2 f0 f1 f2 r0 r1 r2 rf0 rf1 rf2; obtain ⟨_, ⟨c0, c1, c2⟩, ⟨f0, f1, f2⟩⟩ := HZ.out.t; obtain ⟨_, ⟨r0, r1, r2⟩, ⟨rf0, rf1, rf2⟩⟩ := HZ.out.r; rw [htok])
      all_goals go_wp2_with fail
      all_goals ((try simp only [Exit.inBlock, Exit.then]); refine bodyPost_ret (by simp [results, Tryz.results36, go_sem]; go_simp; rfl) rfl ?_)
      all_goals exact ⟨TokI.chk_yes htok (by omega), (by first | exact ((HZ.out.bel.setCell HZ.out.l4 _).setCell HZ.out.l4 _).setCell HZ.out.l4 _ | exact (((HZ.out.bel.setCell HZ.out.l4 _).setCell HZ.out.l4 _).setCell HZ.out.l4 _).drew)⟩

set_option maxRecDepth 100000 in
set_option maxHeartbeats 3200000 in
theorem implOne_K (s : ByteArray) (a : Nat) (ha : a < s.size) (hs : s.size ≤ 1048576) (w : World) (hR : Ready w) (e : Nat) (hae : a ≤ e) (hes : e ≤ s.size) (hrun : Hid ((∀ i (h : i < s.size), a ≤ i → i < e → partB s[i] = true) ∧ (∀ h : e < s.size, partB s[e] = false))) (hl : letB s[a] = true) (hk : ¬ keyNo (upAll (s.extract a e)) = 0) :
    Calls Tryz.prog 36 #[.string s, .int .i64 (a : Int)] w fun z w' => TokI (chk 1 (upAll (s.extract a e)) (s.extract a e).size) a z ∧ Below w.heap.size w w' := by
  have ha2 : (a : Int) < s.size := by omega
  have HR := hide hR
  clear hR
  have hxs : (s.extract a e).size = e - a := by simp [ByteArray.size_extract]; omega
  have hp : partB s[a] = true := by unfold partB; rw [hl]; rfl
  go_enter Tryz.func36, Tryz.ntmps36
  go_upto_block 0 with fail
  generalize hW : World.alloc _ _ = W1
  have hb0 := TB.made w 25 25 (a : Int)
  rw [hW] at hb0
  obtain ⟨b4, hb4⟩ : ∃ b, b = w.heap.size := ⟨_, rfl⟩
  obtain ⟨bt, hbt⟩ : ∃ b, b = w.heap.size + 1 := ⟨_, rfl⟩
  rw [← hbt, ← hb4] at hb0 ⊢
  have H0 := hide hb0
  clear hb0 hW hb4 hbt
  go_cut [8] (fun s8 wx => s8 = .int .i64 ((e : Nat) : Int) ∧ TB w wx b4 bt 1 (upAll (s.extract a e)) (a : Int))
  case first =>
    go_wp2_with fail
    refine (isPartC _ _).mono ?_
    rintro x w9 ⟨rfl, rfl⟩
    rw [hp]
    go_upto_block 3 with fail
    go_cut [8] (fun s8 wx => s8 = .int .i64 (e : Int) ∧ W1 = wx)
    case first =>
      go_wp2_with fail
      go_loop [8] (fun x => ∃ j : Nat, x = .int .i64 (j : Int) ∧ a ≤ j ∧ j ≤ e) (fun x => s.size - (intOf x).toNat)
      case atStart => exact ⟨a, rfl, by omega, by omega⟩
      case round =>
        obtain ⟨j, rfl, hj1, hj2⟩ := hrel
        by_cases hje : j < e
        · have hlt : j < s.size := by omega
          have hlt2 : (j : Int) < s.size := by omega
          have hc := hrun.out.1 j hlt hj1 hje
          go_wp2_with fail
          refine (isPartC _ _).mono ?_
          rintro x w9 ⟨rfl, rfl⟩
          rw [hc]
          clear hc
          go_wp2_with fail
          go_round
          case rel => exact ⟨j + 1, by go_num, by omega, by omega⟩
          case measure => simp [intOf]; omega
        · obtain rfl : j = e := by omega
          by_cases hlt : j < s.size
          · have hlt2 : (j : Int) < s.size := by omega
            have hc := hrun.out.2 hlt
            go_wp2_with fail
            refine (isPartC _ _).mono ?_
            rintro x w9 ⟨rfl, rfl⟩
            rw [hc]
            clear hc
            go_wp2_with fail
            go_meet
            exact ⟨rfl, by first | rfl | trivial⟩
          · have hlt2 : ¬ (j : Int) < s.size := by omega
            go_wp2_with fail
            go_meet
            exact ⟨rfl, by first | rfl | trivial⟩
    case rest =>
      obtain ⟨rfl, rfl⟩ := hcut
      have hes2 : (e : Int) ≤ s.size := by omega
      have hae2 : (a : Int) ≤ e := by omega
      obtain ⟨_, ⟨c0, c1, c2⟩, ⟨f0, f1, f2⟩⟩ := H0.out.t
      go_wp2_with fail
      go_cut [8] (fun s8 wx => s8 = .int .i64 (e : Int) ∧ TB w wx b4 bt 2 (s.extract a e) (a : Int))
      case first =>
        go_region_with fail
        all_goals go_wp2_with fail
        all_goals go_meet
        all_goals refine ⟨rfl, ?_⟩
        all_goals first | exact ((H0.out.setK 2).setX (s.extract a e)) | exact ((H0.out.setX (s.extract a e)).setK 2) | exact ((H0.out.drew.setK 2).setX (s.extract a e)) | exact ((H0.out.drew.setX (s.extract a e)).setK 2) | exact ((H0.out.setK 2).setX (s.extract a e)).drew | exact ((H0.out.setX (s.extract a e)).setK 2).drew
      case rest =>
        obtain ⟨rfl, hT⟩ := hcut
        rename World => W2
        have H1 := hide hT
        clear hT c0 c1 c2 f0 f1 f2
        obtain ⟨_, ⟨c0, c1, c2⟩, ⟨f0, f1, f2⟩⟩ := H1.out.t
        go_wp2_with fail
        have hd := let_dig _ hl
        refine (isDigitC _ _).mono ?_
        rintro x w9 ⟨rfl, rfl⟩
        rw [hd]
        go_wp2_with fail
        obtain ⟨m, hm⟩ := (HR.out.below H1.out.bel).max
        refine (implKeyOf (s.extract a e) m _ (by omega) hm).mono ?_
        rintro y w9 ⟨rfl, hb⟩
        have H2 := hide (H1.out.below hb)
        clear hb hm c0 c1 c2 f0 f1 f2
        obtain ⟨_, ⟨c0, c1, c2⟩, ⟨f0, f1, f2⟩⟩ := H2.out.t
        have hk1 : (keyNo (upAll (s.extract a e)) == 0) = false := by simpa using hk
        have hk2 := bne_f hk1
        clear hk
        generalize keyNo (upAll (s.extract a e)) = kn at hk1 hk2 ⊢
        go_wp2_with fail
        refine (implFold (s.extract a e) (by omega) _).mono ?_
        rintro y w9 ⟨rfl, hb⟩
        have H3 := hide (H2.out.below hb)
        clear hb c0 c1 c2 f0 f1 f2
        obtain ⟨_, ⟨c0, c1, c2⟩, ⟨f0, f1, f2⟩⟩ := H3.out.t
        go_wp2_with fail
        go_meet
        refine ⟨rfl, ?_⟩
        first | exact (H3.out.setK 1).setX (upAll (s.extract a e)) | exact (H3.out.setX (upAll (s.extract a e))).setK 1
  case rest =>
    obtain ⟨rfl, hT⟩ := hcut
    rename World => W2
    have HF := hide hT
    clear hT
    have HRF : Hid (Ready W2) := HR.out.below HF.out.bel
    obtain ⟨_, ⟨c0, c1, c2⟩, ⟨f0, f1, f2⟩⟩ := HF.out.t
    obtain ⟨_, ⟨r0, r1, r2⟩, ⟨rf0, rf1, rf2⟩⟩ := HF.out.r
    have hne := HF.out.ne
    cases htok : tokOk 1 (upAll (s.extract a e))
    · go_wp2_with fail
      go_region_with (go_at_call 17; refine (implTokenOk 1 (upAll (s.extract a e)) (a : Int) _ (by rw [upAll_size]; omega) (by first | exact HRF.out.below ((Below.refl _ _).drew) | exact HRF.out)).mono ?_; rintro y wz ⟨rfl, hbz⟩; (first | (have HZ := hide (HF.out.drew.below hbz)) | (have HZ := hide (HF.out.below hbz))); clear hbz c0 c1 c2 f0 f1 f2 r0 r1 r2 rf0 rf1 rf2; obtain ⟨_, ⟨c0, c1, c2⟩, ⟨f0, f1, f2⟩⟩ := HZ.out.t; obtain ⟨_, ⟨r0, r1, r2⟩, ⟨rf0, rf1, rf2⟩⟩ := HZ.out.r; rw [htok])
      all_goals go_wp2_with fail
      all_goals ((try simp only [Exit.inBlock, Exit.then]); refine bodyPost_ret (by simp [results, Tryz.results36, go_sem]; go_simp; rfl) rfl ?_)
      all_goals exact ⟨TokI.chk_no htok, (by first | exact ((HZ.out.bel.setCell HZ.out.l4 _).setCell HZ.out.l4 _).setCell HZ.out.l4 _ | exact (((HZ.out.bel.setCell HZ.out.l4 _).setCell HZ.out.l4 _).setCell HZ.out.l4 _).drew)⟩
    · go_wp2_with fail
      go_region_with (go_at_call 17; refine (implTokenOk 1 (upAll (s.extract a e)) (a : Int) _ (by rw [upAll_size]; omega) (by first | exact HRF.out.below ((Below.refl _ _).drew) | exact HRF.out)).mono ?_; rintro y wz ⟨rfl, hbz⟩; (first | (have HZ := hide (HF.out.drew.below hbz)) | (have HZ := hide (HF.out.below hbz))); clear hbz c0 c1 c2 f0 f1 f2 r0 r1 r2 rf0 rf1 rf2; obtain ⟨_, ⟨c0, c1, c2⟩, ⟨f0, f1, f2⟩⟩ := HZ.out.t; obtain ⟨_, ⟨r0, r1, r2⟩, ⟨rf0, rf1, rf2⟩⟩ := HZ.out.r; rw [htok])
      all_goals go_wp2_with fail
      all_goals ((try simp only [Exit.inBlock, Exit.then]); refine bodyPost_ret (by simp [results, Tryz.results36, go_sem]; go_simp; rfl) rfl ?_)
      all_goals exact ⟨TokI.chk_yes htok (by omega), (by first | exact ((HZ.out.bel.setCell HZ.out.l4 _).setCell HZ.out.l4 _).setCell HZ.out.l4 _ | exact (((HZ.out.bel.setCell HZ.out.l4 _).setCell HZ.out.l4 _).setCell HZ.out.l4 _).drew)⟩
end Go.Proofs.YtfnjcgakcpadiaaGreatDoor
