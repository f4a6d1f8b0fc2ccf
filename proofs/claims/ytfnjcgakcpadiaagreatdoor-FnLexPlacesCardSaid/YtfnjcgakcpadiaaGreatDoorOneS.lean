/-
  l3One: the reference's next token.
-/
import Derived.Test.YtfnjcgakcpadiaaGreatDoorTB
import Derived.Test.YtfnjcgakcpadiaaGreatDoorSkipS
namespace Go.Proofs.YtfnjcgakcpadiaaGreatDoor
open Go.RowKit

set_option maxRecDepth 100000 in
set_option maxHeartbeats 1600000 in
theorem l3RunC (s : ByteArray) (a e : Nat) (_ha : a ≤ e) (he : e ≤ s.size) (hs : s.size ≤ 1048576) (hall : ∀ i (h : i < s.size), a ≤ i → i < e → partB s[i] = true) (hend : ∀ h : e < s.size, partB s[e] = false) (w : World) :
    Calls Tryz.prog 77 #[.string s, .int .i64 (a : Int)] w fun x w' => x = .returned (.int .i64 (e : Int)) ∧ w = w' := by
  have HA := hide hall
  have HE := hide hend
  clear hall hend
  go_enter Tryz.func77, Tryz.ntmps77
  go_wp2_with fail
  go_loop [1] (fun x => ∃ j : Nat, x = .int .i64 (j : Int) ∧ a ≤ j ∧ j ≤ e) (fun x => s.size - (intOf x).toNat)
  case atStart => exact ⟨a, rfl, by omega, by omega⟩
  case round =>
    obtain ⟨j, rfl, hj1, hj2⟩ := hrel
    by_cases hje : j < e
    · have hlt : j < s.size := by omega
      have hlt2 : (j : Int) < s.size := by omega
      have hc := HA.out j hlt hj1 hje
      rcases part_cls _ hc with hl | ⟨hl, hd⟩
      · clear hc
        go_wp2_with fail
        refine (letterC _ w).mono ?_
        rintro x w1 ⟨rfl, rfl⟩
        rw [hl]
        go_wp2_with fail
        go_round
        case rel => exact ⟨j + 1, by go_num, by omega, by omega⟩
        case measure => simp [intOf]; omega
      · clear hc
        go_wp2_with fail
        refine (letterC _ w).mono ?_
        rintro x w1 ⟨rfl, rfl⟩
        rw [hl]
        go_wp2_with fail
        refine (figureC _ w).mono ?_
        rintro x w1 ⟨rfl, rfl⟩
        rw [hd]
        go_wp2_with fail
        go_round
        case rel => exact ⟨j + 1, by go_num, by omega, by omega⟩
        case measure => simp [intOf]; omega
    · obtain rfl : j = e := by omega
      by_cases hlt : j < s.size
      · have hlt2 : (j : Int) < s.size := by omega
        obtain ⟨hl, hd⟩ := part_no _ (HE.out hlt)
        go_wp2_with fail
        refine (letterC _ w).mono ?_
        rintro x w1 ⟨rfl, rfl⟩
        rw [hl]
        go_wp2_with fail
        refine (figureC _ w).mono ?_
        rintro x w1 ⟨rfl, rfl⟩
        rw [hd]
        go_wp2_with fail
        go_ret
        exact ⟨rfl, rfl⟩
      · have hlt2 : ¬ (j : Int) < s.size := by omega
        go_wp2_with fail
        go_ret
        exact ⟨rfl, rfl⟩

set_option maxRecDepth 100000 in
set_option maxHeartbeats 1600000 in
theorem specOne_D (s : ByteArray) (a : Nat) (ha : a < s.size) (hs : s.size ≤ 1048576) (w : World) (e : Nat) (hae : a ≤ e) (hes : e ≤ s.size) (hrun : Hid ((∀ i (h : i < s.size), a ≤ i → i < e → partB s[i] = true) ∧ (∀ h : e < s.size, partB s[e] = false))) (hl : letB s[a] = false) (hd : digB s[a] = true) :
    Calls Tryz.prog 48 #[.string s, .int .i64 (a : Int)] w fun z w' => TokS (chk 3 (s.extract a e) (s.extract a e).size) a z ∧ Below w.heap.size w w' := by
  have ha2 : (a : Int) < s.size := by omega
  have hxs : (s.extract a e).size = e - a := by simp [ByteArray.size_extract]; omega
  cases htok : tokOk 3 (s.extract a e)
  · go_enter Tryz.func48, Tryz.ntmps48
    go_wp2_with fail
    generalize hW : World.alloc _ _ = W1
    have hb0 := TB.made w 25 25 (a : Int)
    rw [hW] at hb0
    obtain ⟨b4, hb4⟩ : ∃ b, b = w.heap.size := ⟨_, rfl⟩
    obtain ⟨bt, hbt⟩ : ∃ b, b = w.heap.size + 1 := ⟨_, rfl⟩
    rw [← hbt, ← hb4] at hb0 ⊢
    have H0 := hide hb0
    clear hb0 hW hb4 hbt
    refine (letterC _ _).mono ?_
    rintro x w9 ⟨rfl, rfl⟩
    rw [hl]
    go_wp2_with fail
    refine (figureC _ _).mono ?_
    rintro x w9 ⟨rfl, rfl⟩
    rw [hd]
    go_wp2_with fail
    have hrunC := l3RunC s a e hae hes hs hrun.out.1 hrun.out.2
    refine (hrunC _).mono ?_
    rintro x w9 ⟨rfl, rfl⟩
    obtain ⟨_, ⟨c0, c1, c2⟩, ⟨f0, f1, f2⟩⟩ := H0.out.t
    go_wp2_with fail
    refine (specTokenOk 3 (s.extract a e) (a : Int) _ (by omega)).mono ?_
    rintro y w9 ⟨rfl, hb⟩
    have HF := hide (((H0.out.setK 3).setX (s.extract a e)).below hb)
    clear hb c0 c1 c2 f0 f1 f2
    obtain ⟨_, ⟨c0, c1, c2⟩, ⟨f0, f1, f2⟩⟩ := HF.out.t
    obtain ⟨_, ⟨r0, r1, r2⟩, ⟨rf0, rf1, rf2⟩⟩ := HF.out.r
    have hne := HF.out.ne
    rw [htok]
    go_wp2_with fail
    ((try simp only [Exit.inBlock, Exit.then]); refine bodyPost_ret (by simp [results, Tryz.results48, go_sem]; go_simp; rfl) rfl ?_)
    exact ⟨TokS.chk_no htok, ((HF.out.bel.setCell HF.out.l4 _).setCell HF.out.l4 _).setCell HF.out.l4 _⟩
  · go_enter Tryz.func48, Tryz.ntmps48
    go_wp2_with fail
    generalize hW : World.alloc _ _ = W1
    have hb0 := TB.made w 25 25 (a : Int)
    rw [hW] at hb0
    obtain ⟨b4, hb4⟩ : ∃ b, b = w.heap.size := ⟨_, rfl⟩
    obtain ⟨bt, hbt⟩ : ∃ b, b = w.heap.size + 1 := ⟨_, rfl⟩
    rw [← hbt, ← hb4] at hb0 ⊢
    have H0 := hide hb0
    clear hb0 hW hb4 hbt
    refine (letterC _ _).mono ?_
    rintro x w9 ⟨rfl, rfl⟩
    rw [hl]
    go_wp2_with fail
    refine (figureC _ _).mono ?_
    rintro x w9 ⟨rfl, rfl⟩
    rw [hd]
    go_wp2_with fail
    have hrunC := l3RunC s a e hae hes hs hrun.out.1 hrun.out.2
    refine (hrunC _).mono ?_
    rintro x w9 ⟨rfl, rfl⟩
    obtain ⟨_, ⟨c0, c1, c2⟩, ⟨f0, f1, f2⟩⟩ := H0.out.t
    go_wp2_with fail
    refine (specTokenOk 3 (s.extract a e) (a : Int) _ (by omega)).mono ?_
    rintro y w9 ⟨rfl, hb⟩
    have HF := hide (((H0.out.setK 3).setX (s.extract a e)).below hb)
    clear hb c0 c1 c2 f0 f1 f2
    obtain ⟨_, ⟨c0, c1, c2⟩, ⟨f0, f1, f2⟩⟩ := HF.out.t
    obtain ⟨_, ⟨r0, r1, r2⟩, ⟨rf0, rf1, rf2⟩⟩ := HF.out.r
    have hne := HF.out.ne
    rw [htok]
    go_wp2_with fail
    ((try simp only [Exit.inBlock, Exit.then]); refine bodyPost_ret (by simp [results, Tryz.results48, go_sem]; go_simp; rfl) rfl ?_)
    exact ⟨TokS.chk_yes htok (by omega), ((HF.out.bel.setCell HF.out.l4 _).setCell HF.out.l4 _).setCell HF.out.l4 _⟩

set_option maxRecDepth 100000 in
set_option maxHeartbeats 1600000 in
theorem specOne_N (s : ByteArray) (a : Nat) (ha : a < s.size) (hs : s.size ≤ 1048576) (w : World) (e : Nat) (hae : a ≤ e) (hes : e ≤ s.size) (hrun : Hid ((∀ i (h : i < s.size), a ≤ i → i < e → partB s[i] = true) ∧ (∀ h : e < s.size, partB s[e] = false))) (hl : letB s[a] = true) (hk : keyNo (upAll (s.extract a e)) = 0) :
    Calls Tryz.prog 48 #[.string s, .int .i64 (a : Int)] w fun z w' => TokS (chk 2 (s.extract a e) (s.extract a e).size) a z ∧ Below w.heap.size w w' := by
  have ha2 : (a : Int) < s.size := by omega
  have hxs : (s.extract a e).size = e - a := by simp [ByteArray.size_extract]; omega
  cases htok : tokOk 2 (s.extract a e)
  · go_enter Tryz.func48, Tryz.ntmps48
    go_wp2_with fail
    generalize hW : World.alloc _ _ = W1
    have hb0 := TB.made w 25 25 (a : Int)
    rw [hW] at hb0
    obtain ⟨b4, hb4⟩ : ∃ b, b = w.heap.size := ⟨_, rfl⟩
    obtain ⟨bt, hbt⟩ : ∃ b, b = w.heap.size + 1 := ⟨_, rfl⟩
    rw [← hbt, ← hb4] at hb0 ⊢
    have H0 := hide hb0
    clear hb0 hW hb4 hbt
    refine (letterC _ _).mono ?_
    rintro x w9 ⟨rfl, rfl⟩
    rw [hl]
    go_wp2_with fail
    have hrunC := l3RunC s a e hae hes hs hrun.out.1 hrun.out.2
    refine (hrunC _).mono ?_
    rintro x w9 ⟨rfl, rfl⟩
    obtain ⟨_, ⟨c0, c1, c2⟩, ⟨f0, f1, f2⟩⟩ := H0.out.t
    go_wp2_with fail
    refine (specKeyOf (s.extract a e) _ (by omega)).mono ?_
    rintro y w9 ⟨rfl, hb⟩
    have H1 := hide (((H0.out.setK 2).setX (s.extract a e)).below hb)
    clear hb c0 c1 c2 f0 f1 f2
    obtain ⟨_, ⟨c0, c1, c2⟩, ⟨f0, f1, f2⟩⟩ := H1.out.t
    rw [hk]
    go_wp2_with fail
    refine (specTokenOk 2 (s.extract a e) (a : Int) _ (by omega)).mono ?_
    rintro y w9 ⟨rfl, hb⟩
    have HF := hide (H1.out.below hb)
    clear hb c0 c1 c2 f0 f1 f2
    obtain ⟨_, ⟨c0, c1, c2⟩, ⟨f0, f1, f2⟩⟩ := HF.out.t
    obtain ⟨_, ⟨r0, r1, r2⟩, ⟨rf0, rf1, rf2⟩⟩ := HF.out.r
    have hne := HF.out.ne
    rw [htok]
    go_wp2_with fail
    ((try simp only [Exit.inBlock, Exit.then]); refine bodyPost_ret (by simp [results, Tryz.results48, go_sem]; go_simp; rfl) rfl ?_)
    exact ⟨TokS.chk_no htok, ((HF.out.bel.setCell HF.out.l4 _).setCell HF.out.l4 _).setCell HF.out.l4 _⟩
  · go_enter Tryz.func48, Tryz.ntmps48
    go_wp2_with fail
    generalize hW : World.alloc _ _ = W1
    have hb0 := TB.made w 25 25 (a : Int)
    rw [hW] at hb0
    obtain ⟨b4, hb4⟩ : ∃ b, b = w.heap.size := ⟨_, rfl⟩
    obtain ⟨bt, hbt⟩ : ∃ b, b = w.heap.size + 1 := ⟨_, rfl⟩
    rw [← hbt, ← hb4] at hb0 ⊢
    have H0 := hide hb0
    clear hb0 hW hb4 hbt
    refine (letterC _ _).mono ?_
    rintro x w9 ⟨rfl, rfl⟩
    rw [hl]
    go_wp2_with fail
    have hrunC := l3RunC s a e hae hes hs hrun.out.1 hrun.out.2
    refine (hrunC _).mono ?_
    rintro x w9 ⟨rfl, rfl⟩
    obtain ⟨_, ⟨c0, c1, c2⟩, ⟨f0, f1, f2⟩⟩ := H0.out.t
    go_wp2_with fail
    refine (specKeyOf (s.extract a e) _ (by omega)).mono ?_
    rintro y w9 ⟨rfl, hb⟩
    have H1 := hide (((H0.out.setK 2).setX (s.extract a e)).below hb)
    clear hb c0 c1 c2 f0 f1 f2
    obtain ⟨_, ⟨c0, c1, c2⟩, ⟨f0, f1, f2⟩⟩ := H1.out.t
    rw [hk]
    go_wp2_with fail
    refine (specTokenOk 2 (s.extract a e) (a : Int) _ (by omega)).mono ?_
    rintro y w9 ⟨rfl, hb⟩
    have HF := hide (H1.out.below hb)
    clear hb c0 c1 c2 f0 f1 f2
    obtain ⟨_, ⟨c0, c1, c2⟩, ⟨f0, f1, f2⟩⟩ := HF.out.t
    obtain ⟨_, ⟨r0, r1, r2⟩, ⟨rf0, rf1, rf2⟩⟩ := HF.out.r
    have hne := HF.out.ne
    rw [htok]
    go_wp2_with fail
    ((try simp only [Exit.inBlock, Exit.then]); refine bodyPost_ret (by simp [results, Tryz.results48, go_sem]; go_simp; rfl) rfl ?_)
    exact ⟨TokS.chk_yes htok (by omega), ((HF.out.bel.setCell HF.out.l4 _).setCell HF.out.l4 _).setCell HF.out.l4 _⟩

set_option maxRecDepth 100000 in
set_option maxHeartbeats 1600000 in
theorem specOne_K (s : ByteArray) (a : Nat) (ha : a < s.size) (hs : s.size ≤ 1048576) (w : World) (e : Nat) (hae : a ≤ e) (hes : e ≤ s.size) (hrun : Hid ((∀ i (h : i < s.size), a ≤ i → i < e → partB s[i] = true) ∧ (∀ h : e < s.size, partB s[e] = false))) (hl : letB s[a] = true) (hk : 0 < keyNo (upAll (s.extract a e))) :
    Calls Tryz.prog 48 #[.string s, .int .i64 (a : Int)] w fun z w' => TokS (chk 1 (upAll (s.extract a e)) (s.extract a e).size) a z ∧ Below w.heap.size w w' := by
  have ha2 : (a : Int) < s.size := by omega
  have hxs : (s.extract a e).size = e - a := by simp [ByteArray.size_extract]; omega
  cases htok : tokOk 1 (upAll (s.extract a e))
  · go_enter Tryz.func48, Tryz.ntmps48
    go_wp2_with fail
    generalize hW : World.alloc _ _ = W1
    have hb0 := TB.made w 25 25 (a : Int)
    rw [hW] at hb0
    obtain ⟨b4, hb4⟩ : ∃ b, b = w.heap.size := ⟨_, rfl⟩
    obtain ⟨bt, hbt⟩ : ∃ b, b = w.heap.size + 1 := ⟨_, rfl⟩
    rw [← hbt, ← hb4] at hb0 ⊢
    have H0 := hide hb0
    clear hb0 hW hb4 hbt
    refine (letterC _ _).mono ?_
    rintro x w9 ⟨rfl, rfl⟩
    rw [hl]
    go_wp2_with fail
    have hrunC := l3RunC s a e hae hes hs hrun.out.1 hrun.out.2
    refine (hrunC _).mono ?_
    rintro x w9 ⟨rfl, rfl⟩
    obtain ⟨_, ⟨c0, c1, c2⟩, ⟨f0, f1, f2⟩⟩ := H0.out.t
    go_wp2_with fail
    refine (specKeyOf (s.extract a e) _ (by omega)).mono ?_
    rintro y w9 ⟨rfl, hb⟩
    have H1 := hide (((H0.out.setK 2).setX (s.extract a e)).below hb)
    clear hb c0 c1 c2 f0 f1 f2
    obtain ⟨_, ⟨c0, c1, c2⟩, ⟨f0, f1, f2⟩⟩ := H1.out.t
    generalize hkn : keyNo (upAll (s.extract a e)) = kn at hk ⊢
    clear hkn
    go_wp2_with fail
    refine (specFold (s.extract a e) (by omega) _).mono ?_
    rintro y w9 ⟨rfl, hb⟩
    have H2 := hide ((H1.out.setK 1).below hb)
    clear hb c0 c1 c2 f0 f1 f2
    obtain ⟨_, ⟨c0, c1, c2⟩, ⟨f0, f1, f2⟩⟩ := H2.out.t
    go_wp2_with fail
    refine (specTokenOk 1 (upAll (s.extract a e)) (a : Int) _ (by rw [upAll_size]; omega)).mono ?_
    rintro y w9 ⟨rfl, hb⟩
    have HF := hide ((H2.out.setX (upAll (s.extract a e))).below hb)
    clear hb c0 c1 c2 f0 f1 f2
    obtain ⟨_, ⟨c0, c1, c2⟩, ⟨f0, f1, f2⟩⟩ := HF.out.t
    obtain ⟨_, ⟨r0, r1, r2⟩, ⟨rf0, rf1, rf2⟩⟩ := HF.out.r
    have hne := HF.out.ne
    rw [htok]
    go_wp2_with fail
    ((try simp only [Exit.inBlock, Exit.then]); refine bodyPost_ret (by simp [results, Tryz.results48, go_sem]; go_simp; rfl) rfl ?_)
    exact ⟨TokS.chk_no htok, ((HF.out.bel.setCell HF.out.l4 _).setCell HF.out.l4 _).setCell HF.out.l4 _⟩
  · go_enter Tryz.func48, Tryz.ntmps48
    go_wp2_with fail
    generalize hW : World.alloc _ _ = W1
    have hb0 := TB.made w 25 25 (a : Int)
    rw [hW] at hb0
    obtain ⟨b4, hb4⟩ : ∃ b, b = w.heap.size := ⟨_, rfl⟩
    obtain ⟨bt, hbt⟩ : ∃ b, b = w.heap.size + 1 := ⟨_, rfl⟩
    rw [← hbt, ← hb4] at hb0 ⊢
    have H0 := hide hb0
    clear hb0 hW hb4 hbt
    refine (letterC _ _).mono ?_
    rintro x w9 ⟨rfl, rfl⟩
    rw [hl]
    go_wp2_with fail
    have hrunC := l3RunC s a e hae hes hs hrun.out.1 hrun.out.2
    refine (hrunC _).mono ?_
    rintro x w9 ⟨rfl, rfl⟩
    obtain ⟨_, ⟨c0, c1, c2⟩, ⟨f0, f1, f2⟩⟩ := H0.out.t
    go_wp2_with fail
    refine (specKeyOf (s.extract a e) _ (by omega)).mono ?_
    rintro y w9 ⟨rfl, hb⟩
    have H1 := hide (((H0.out.setK 2).setX (s.extract a e)).below hb)
    clear hb c0 c1 c2 f0 f1 f2
    obtain ⟨_, ⟨c0, c1, c2⟩, ⟨f0, f1, f2⟩⟩ := H1.out.t
    generalize hkn : keyNo (upAll (s.extract a e)) = kn at hk ⊢
    clear hkn
    go_wp2_with fail
    refine (specFold (s.extract a e) (by omega) _).mono ?_
    rintro y w9 ⟨rfl, hb⟩
    have H2 := hide ((H1.out.setK 1).below hb)
    clear hb c0 c1 c2 f0 f1 f2
    obtain ⟨_, ⟨c0, c1, c2⟩, ⟨f0, f1, f2⟩⟩ := H2.out.t
    go_wp2_with fail
    refine (specTokenOk 1 (upAll (s.extract a e)) (a : Int) _ (by rw [upAll_size]; omega)).mono ?_
    rintro y w9 ⟨rfl, hb⟩
    have HF := hide ((H2.out.setX (upAll (s.extract a e))).below hb)
    clear hb c0 c1 c2 f0 f1 f2
    obtain ⟨_, ⟨c0, c1, c2⟩, ⟨f0, f1, f2⟩⟩ := HF.out.t
    obtain ⟨_, ⟨r0, r1, r2⟩, ⟨rf0, rf1, rf2⟩⟩ := HF.out.r
    have hne := HF.out.ne
    rw [htok]
    go_wp2_with fail
    ((try simp only [Exit.inBlock, Exit.then]); refine bodyPost_ret (by simp [results, Tryz.results48, go_sem]; go_simp; rfl) rfl ?_)
    exact ⟨TokS.chk_yes htok (by omega), ((HF.out.bel.setCell HF.out.l4 _).setCell HF.out.l4 _).setCell HF.out.l4 _⟩

set_option maxRecDepth 100000 in
set_option maxHeartbeats 1600000 in
theorem specOne_Qn (s : ByteArray) (a : Nat) (ha : a < s.size) (hs : s.size ≤ 1048576) (w : World) (hl : letB s[a] = false) (hd : digB s[a] = false) (hq : s[a] = 34) (hn : Hid (quotR 34 (s.data.toList.drop (a + 1)) = none)) :
    Calls Tryz.prog 48 #[.string s, .int .i64 (a : Int)] w fun z w' => TokS (none) a z ∧ Below w.heap.size w w' := by
  have ha2 : (a : Int) < s.size := by omega
  have hQ := fun w r hr => specReadQ s a ha hs 34 hq w r hr
  have g1 : ((s[a].toNat : Int) == 34) = true := by rw [hq]; rfl
  clear hq
  go_enter Tryz.func48, Tryz.ntmps48
  go_wp2_with fail
  generalize hW : World.alloc _ _ = W1
  have hb0 := TB.made w 25 25 (a : Int)
  rw [hW] at hb0
  obtain ⟨b4, hb4⟩ : ∃ b, b = w.heap.size := ⟨_, rfl⟩
  obtain ⟨bt, hbt⟩ : ∃ b, b = w.heap.size + 1 := ⟨_, rfl⟩
  rw [← hbt, ← hb4] at hb0 ⊢
  have H0 := hide hb0
  clear hb0 hW hb4 hbt
  refine (letterC _ _).mono ?_
  rintro x w9 ⟨rfl, rfl⟩
  rw [hl]
  go_wp2_with fail
  refine (figureC _ _).mono ?_
  rintro x w9 ⟨rfl, rfl⟩
  rw [hd]
  obtain ⟨_, ⟨c0, c1, c2⟩, ⟨f0, f1, f2⟩⟩ := H0.out.t
  go_wp2_with fail
  refine (hQ _ none hn).mono ?_
  rintro y w9 ⟨rfl, hb⟩
  have H1 := hide ((H0.out.setK 2).below hb)
  clear hb c0 c1 c2 f0 f1 f2 hQ
  obtain ⟨_, ⟨c0, c1, c2⟩, ⟨f0, f1, f2⟩⟩ := H1.out.t
  obtain ⟨_, ⟨r0, r1, r2⟩, ⟨rf0, rf1, rf2⟩⟩ := H1.out.r
  have hne := H1.out.ne
  have e1 : qE (a + 1) (-1) none = -1 := rfl
  have e2 : qT none = ⟨#[]⟩ := rfl
  rw [e1, e2]
  clear e1 e2
  go_wp2_with fail
  ((try simp only [Exit.inBlock, Exit.then]); refine bodyPost_ret (by simp [results, Tryz.results48, go_sem]; go_simp; rfl) rfl ?_)
  exact ⟨⟨_, _, _, rfl⟩, (((H1.out.bel.setCell H1.out.lt _).setCell H1.out.l4 _).setCell H1.out.l4 _).setCell H1.out.l4 _⟩

set_option maxRecDepth 100000 in
set_option maxHeartbeats 1600000 in
theorem specOne_Q (s : ByteArray) (a : Nat) (ha : a < s.size) (hs : s.size ≤ 1048576) (w : World) (hl : letB s[a] = false) (hd : digB s[a] = false) (hq : s[a] = 34) (y : List UInt8 × Nat) (hn : Hid (quotR 34 (s.data.toList.drop (a + 1)) = some y)) :
    Calls Tryz.prog 48 #[.string s, .int .i64 (a : Int)] w fun z w' => TokS (chk 2 ⟨y.1.toArray⟩ (y.2 + 1)) a z ∧ Below w.heap.size w w' := by
  have ha2 : (a : Int) < s.size := by omega
  have hyl := text_size s (a + 1) 34 y hn.out
  have hxs : (⟨y.1.toArray⟩ : ByteArray).size ≤ 1048576 := by omega
  have hE : qE (a + 1) (-1) (some y) = ((a + 1 + y.2 : Nat) : Int) := rfl
  have hT : qT (some y) = ⟨y.1.toArray⟩ := rfl
  have hQ := fun w => specReadQ s a ha hs 34 hq w (some y) hn
  rw [hE, hT] at hQ
  generalize (⟨y.1.toArray⟩ : ByteArray) = X at hQ hxs ⊢
  clear hE hT hyl hn
  have g1 : ((s[a].toNat : Int) == 34) = true := by rw [hq]; rfl
  clear hq
  cases htok : tokOk 2 X
  · go_enter Tryz.func48, Tryz.ntmps48
    go_wp2_with fail
    generalize hW : World.alloc _ _ = W1
    have hb0 := TB.made w 25 25 (a : Int)
    rw [hW] at hb0
    obtain ⟨b4, hb4⟩ : ∃ b, b = w.heap.size := ⟨_, rfl⟩
    obtain ⟨bt, hbt⟩ : ∃ b, b = w.heap.size + 1 := ⟨_, rfl⟩
    rw [← hbt, ← hb4] at hb0 ⊢
    have H0 := hide hb0
    clear hb0 hW hb4 hbt
    refine (letterC _ _).mono ?_
    rintro x w9 ⟨rfl, rfl⟩
    rw [hl]
    go_wp2_with fail
    refine (figureC _ _).mono ?_
    rintro x w9 ⟨rfl, rfl⟩
    rw [hd]
    obtain ⟨_, ⟨c0, c1, c2⟩, ⟨f0, f1, f2⟩⟩ := H0.out.t
    go_wp2_with fail
    refine (hQ _).mono ?_
    rintro z w9 ⟨rfl, hb⟩
    have H1 := hide ((H0.out.setK 2).below hb)
    clear hb c0 c1 c2 f0 f1 f2 hQ
    obtain ⟨_, ⟨c0, c1, c2⟩, ⟨f0, f1, f2⟩⟩ := H1.out.t
    go_wp2_with fail
    refine (specTokenOk 2 X (a : Int) _ hxs).mono ?_
    rintro y w9 ⟨rfl, hb⟩
    have HF := hide ((H1.out.setX X).below hb)
    clear hb c0 c1 c2 f0 f1 f2
    obtain ⟨_, ⟨c0, c1, c2⟩, ⟨f0, f1, f2⟩⟩ := HF.out.t
    obtain ⟨_, ⟨r0, r1, r2⟩, ⟨rf0, rf1, rf2⟩⟩ := HF.out.r
    have hne := HF.out.ne
    rw [htok]
    go_wp2_with fail
    ((try simp only [Exit.inBlock, Exit.then]); refine bodyPost_ret (by simp [results, Tryz.results48, go_sem]; go_simp; rfl) rfl ?_)
    exact ⟨TokS.chk_no htok, ((HF.out.bel.setCell HF.out.l4 _).setCell HF.out.l4 _).setCell HF.out.l4 _⟩
  · go_enter Tryz.func48, Tryz.ntmps48
    go_wp2_with fail
    generalize hW : World.alloc _ _ = W1
    have hb0 := TB.made w 25 25 (a : Int)
    rw [hW] at hb0
    obtain ⟨b4, hb4⟩ : ∃ b, b = w.heap.size := ⟨_, rfl⟩
    obtain ⟨bt, hbt⟩ : ∃ b, b = w.heap.size + 1 := ⟨_, rfl⟩
    rw [← hbt, ← hb4] at hb0 ⊢
    have H0 := hide hb0
    clear hb0 hW hb4 hbt
    refine (letterC _ _).mono ?_
    rintro x w9 ⟨rfl, rfl⟩
    rw [hl]
    go_wp2_with fail
    refine (figureC _ _).mono ?_
    rintro x w9 ⟨rfl, rfl⟩
    rw [hd]
    obtain ⟨_, ⟨c0, c1, c2⟩, ⟨f0, f1, f2⟩⟩ := H0.out.t
    go_wp2_with fail
    refine (hQ _).mono ?_
    rintro z w9 ⟨rfl, hb⟩
    have H1 := hide ((H0.out.setK 2).below hb)
    clear hb c0 c1 c2 f0 f1 f2 hQ
    obtain ⟨_, ⟨c0, c1, c2⟩, ⟨f0, f1, f2⟩⟩ := H1.out.t
    go_wp2_with fail
    refine (specTokenOk 2 X (a : Int) _ hxs).mono ?_
    rintro y w9 ⟨rfl, hb⟩
    have HF := hide ((H1.out.setX X).below hb)
    clear hb c0 c1 c2 f0 f1 f2
    obtain ⟨_, ⟨c0, c1, c2⟩, ⟨f0, f1, f2⟩⟩ := HF.out.t
    obtain ⟨_, ⟨r0, r1, r2⟩, ⟨rf0, rf1, rf2⟩⟩ := HF.out.r
    have hne := HF.out.ne
    rw [htok]
    go_wp2_with fail
    ((try simp only [Exit.inBlock, Exit.then]); refine bodyPost_ret (by simp [results, Tryz.results48, go_sem]; go_simp; rfl) rfl ?_)
    exact ⟨TokS.chk_yes htok (by omega), ((HF.out.bel.setCell HF.out.l4 _).setCell HF.out.l4 _).setCell HF.out.l4 _⟩

set_option maxRecDepth 100000 in
set_option maxHeartbeats 1600000 in
theorem specOne_Tn (s : ByteArray) (a : Nat) (ha : a < s.size) (hs : s.size ≤ 1048576) (w : World) (hl : letB s[a] = false) (hd : digB s[a] = false) (hq : s[a] = 39) (hn : Hid (quotR 39 (s.data.toList.drop (a + 1)) = none)) :
    Calls Tryz.prog 48 #[.string s, .int .i64 (a : Int)] w fun z w' => TokS (none) a z ∧ Below w.heap.size w w' := by
  have ha2 : (a : Int) < s.size := by omega
  have hQ := fun w r hr => specReadQ s a ha hs 39 hq w r hr
  have g1 : ((s[a].toNat : Int) == 34) = false := by rw [hq]; rfl
  have g2 : ((s[a].toNat : Int) == 39) = true := by rw [hq]; rfl
  clear hq
  go_enter Tryz.func48, Tryz.ntmps48
  go_wp2_with fail
  generalize hW : World.alloc _ _ = W1
  have hb0 := TB.made w 25 25 (a : Int)
  rw [hW] at hb0
  obtain ⟨b4, hb4⟩ : ∃ b, b = w.heap.size := ⟨_, rfl⟩
  obtain ⟨bt, hbt⟩ : ∃ b, b = w.heap.size + 1 := ⟨_, rfl⟩
  rw [← hbt, ← hb4] at hb0 ⊢
  have H0 := hide hb0
  clear hb0 hW hb4 hbt
  refine (letterC _ _).mono ?_
  rintro x w9 ⟨rfl, rfl⟩
  rw [hl]
  go_wp2_with fail
  refine (figureC _ _).mono ?_
  rintro x w9 ⟨rfl, rfl⟩
  rw [hd]
  obtain ⟨_, ⟨c0, c1, c2⟩, ⟨f0, f1, f2⟩⟩ := H0.out.t
  go_wp2_with fail
  refine (hQ _ none hn).mono ?_
  rintro y w9 ⟨rfl, hb⟩
  have H1 := hide ((H0.out.setK 4).below hb)
  clear hb c0 c1 c2 f0 f1 f2 hQ
  obtain ⟨_, ⟨c0, c1, c2⟩, ⟨f0, f1, f2⟩⟩ := H1.out.t
  obtain ⟨_, ⟨r0, r1, r2⟩, ⟨rf0, rf1, rf2⟩⟩ := H1.out.r
  have hne := H1.out.ne
  have e1 : qE (a + 1) (-1) none = -1 := rfl
  have e2 : qT none = ⟨#[]⟩ := rfl
  rw [e1, e2]
  clear e1 e2
  go_wp2_with fail
  ((try simp only [Exit.inBlock, Exit.then]); refine bodyPost_ret (by simp [results, Tryz.results48, go_sem]; go_simp; rfl) rfl ?_)
  exact ⟨⟨_, _, _, rfl⟩, (((H1.out.bel.setCell H1.out.lt _).setCell H1.out.l4 _).setCell H1.out.l4 _).setCell H1.out.l4 _⟩

set_option maxRecDepth 100000 in
set_option maxHeartbeats 1600000 in
theorem specOne_T (s : ByteArray) (a : Nat) (ha : a < s.size) (hs : s.size ≤ 1048576) (w : World) (hl : letB s[a] = false) (hd : digB s[a] = false) (hq : s[a] = 39) (y : List UInt8 × Nat) (hn : Hid (quotR 39 (s.data.toList.drop (a + 1)) = some y)) :
    Calls Tryz.prog 48 #[.string s, .int .i64 (a : Int)] w fun z w' => TokS (chk 4 ⟨y.1.toArray⟩ (y.2 + 1)) a z ∧ Below w.heap.size w w' := by
  have ha2 : (a : Int) < s.size := by omega
  have hyl := text_size s (a + 1) 39 y hn.out
  have hxs : (⟨y.1.toArray⟩ : ByteArray).size ≤ 1048576 := by omega
  have hE : qE (a + 1) (-1) (some y) = ((a + 1 + y.2 : Nat) : Int) := rfl
  have hT : qT (some y) = ⟨y.1.toArray⟩ := rfl
  have hQ := fun w => specReadQ s a ha hs 39 hq w (some y) hn
  rw [hE, hT] at hQ
  generalize (⟨y.1.toArray⟩ : ByteArray) = X at hQ hxs ⊢
  clear hE hT hyl hn
  have g1 : ((s[a].toNat : Int) == 34) = false := by rw [hq]; rfl
  have g2 : ((s[a].toNat : Int) == 39) = true := by rw [hq]; rfl
  clear hq
  cases htok : tokOk 4 X
  · go_enter Tryz.func48, Tryz.ntmps48
    go_wp2_with fail
    generalize hW : World.alloc _ _ = W1
    have hb0 := TB.made w 25 25 (a : Int)
    rw [hW] at hb0
    obtain ⟨b4, hb4⟩ : ∃ b, b = w.heap.size := ⟨_, rfl⟩
    obtain ⟨bt, hbt⟩ : ∃ b, b = w.heap.size + 1 := ⟨_, rfl⟩
    rw [← hbt, ← hb4] at hb0 ⊢
    have H0 := hide hb0
    clear hb0 hW hb4 hbt
    refine (letterC _ _).mono ?_
    rintro x w9 ⟨rfl, rfl⟩
    rw [hl]
    go_wp2_with fail
    refine (figureC _ _).mono ?_
    rintro x w9 ⟨rfl, rfl⟩
    rw [hd]
    obtain ⟨_, ⟨c0, c1, c2⟩, ⟨f0, f1, f2⟩⟩ := H0.out.t
    go_wp2_with fail
    refine (hQ _).mono ?_
    rintro z w9 ⟨rfl, hb⟩
    have H1 := hide ((H0.out.setK 4).below hb)
    clear hb c0 c1 c2 f0 f1 f2 hQ
    obtain ⟨_, ⟨c0, c1, c2⟩, ⟨f0, f1, f2⟩⟩ := H1.out.t
    go_wp2_with fail
    refine (specTokenOk 4 X (a : Int) _ hxs).mono ?_
    rintro y w9 ⟨rfl, hb⟩
    have HF := hide ((H1.out.setX X).below hb)
    clear hb c0 c1 c2 f0 f1 f2
    obtain ⟨_, ⟨c0, c1, c2⟩, ⟨f0, f1, f2⟩⟩ := HF.out.t
    obtain ⟨_, ⟨r0, r1, r2⟩, ⟨rf0, rf1, rf2⟩⟩ := HF.out.r
    have hne := HF.out.ne
    rw [htok]
    go_wp2_with fail
    ((try simp only [Exit.inBlock, Exit.then]); refine bodyPost_ret (by simp [results, Tryz.results48, go_sem]; go_simp; rfl) rfl ?_)
    exact ⟨TokS.chk_no htok, ((HF.out.bel.setCell HF.out.l4 _).setCell HF.out.l4 _).setCell HF.out.l4 _⟩
  · go_enter Tryz.func48, Tryz.ntmps48
    go_wp2_with fail
    generalize hW : World.alloc _ _ = W1
    have hb0 := TB.made w 25 25 (a : Int)
    rw [hW] at hb0
    obtain ⟨b4, hb4⟩ : ∃ b, b = w.heap.size := ⟨_, rfl⟩
    obtain ⟨bt, hbt⟩ : ∃ b, b = w.heap.size + 1 := ⟨_, rfl⟩
    rw [← hbt, ← hb4] at hb0 ⊢
    have H0 := hide hb0
    clear hb0 hW hb4 hbt
    refine (letterC _ _).mono ?_
    rintro x w9 ⟨rfl, rfl⟩
    rw [hl]
    go_wp2_with fail
    refine (figureC _ _).mono ?_
    rintro x w9 ⟨rfl, rfl⟩
    rw [hd]
    obtain ⟨_, ⟨c0, c1, c2⟩, ⟨f0, f1, f2⟩⟩ := H0.out.t
    go_wp2_with fail
    refine (hQ _).mono ?_
    rintro z w9 ⟨rfl, hb⟩
    have H1 := hide ((H0.out.setK 4).below hb)
    clear hb c0 c1 c2 f0 f1 f2 hQ
    obtain ⟨_, ⟨c0, c1, c2⟩, ⟨f0, f1, f2⟩⟩ := H1.out.t
    go_wp2_with fail
    refine (specTokenOk 4 X (a : Int) _ hxs).mono ?_
    rintro y w9 ⟨rfl, hb⟩
    have HF := hide ((H1.out.setX X).below hb)
    clear hb c0 c1 c2 f0 f1 f2
    obtain ⟨_, ⟨c0, c1, c2⟩, ⟨f0, f1, f2⟩⟩ := HF.out.t
    obtain ⟨_, ⟨r0, r1, r2⟩, ⟨rf0, rf1, rf2⟩⟩ := HF.out.r
    have hne := HF.out.ne
    rw [htok]
    go_wp2_with fail
    ((try simp only [Exit.inBlock, Exit.then]); refine bodyPost_ret (by simp [results, Tryz.results48, go_sem]; go_simp; rfl) rfl ?_)
    exact ⟨TokS.chk_yes htok (by omega), ((HF.out.bel.setCell HF.out.l4 _).setCell HF.out.l4 _).setCell HF.out.l4 _⟩

set_option maxRecDepth 100000 in
set_option maxHeartbeats 1600000 in
theorem specOne_S2 (s : ByteArray) (a : Nat) (ha : a < s.size) (hs : s.size ≤ 1048576) (w : World) (hl : letB s[a] = false) (hd : digB s[a] = false) (g1 : ((s[a].toNat : Int) == 34) = false) (g2 : ((s[a].toNat : Int) == 39) = false) (h2 : (a : Int) + 2 ≤ s.size) (h3 : signOk (s.extract a (a + 2)) = true) :
    Calls Tryz.prog 48 #[.string s, .int .i64 (a : Int)] w fun z w' => TokS (chk 5 (s.extract a (a + 2)) 2) a z ∧ Below w.heap.size w w' := by
  have ha2 : (a : Int) < s.size := by omega
  have hxs : (s.extract a (a + 2)).size ≤ 1048576 := by simp [ByteArray.size_extract]; omega
  cases htok : tokOk 5 (s.extract a (a + 2))
  · go_enter Tryz.func48, Tryz.ntmps48
    go_wp2_with fail
    generalize hW : World.alloc _ _ = W1
    have hb0 := TB.made w 25 25 (a : Int)
    rw [hW] at hb0
    obtain ⟨b4, hb4⟩ : ∃ b, b = w.heap.size := ⟨_, rfl⟩
    obtain ⟨bt, hbt⟩ : ∃ b, b = w.heap.size + 1 := ⟨_, rfl⟩
    rw [← hbt, ← hb4] at hb0 ⊢
    have H0 := hide hb0
    clear hb0 hW hb4 hbt
    refine (letterC _ _).mono ?_
    rintro x w9 ⟨rfl, rfl⟩
    rw [hl]
    go_wp2_with fail
    refine (figureC _ _).mono ?_
    rintro x w9 ⟨rfl, rfl⟩
    rw [hd]
    obtain ⟨_, ⟨c0, c1, c2⟩, ⟨f0, f1, f2⟩⟩ := H0.out.t
    go_wp2_with fail
    refine (specSignOk (s.extract a (a + 2)) _).mono ?_
    rintro y w9 ⟨rfl, rfl⟩
    rw [h3]
    go_wp2_with fail
    refine (specTokenOk 5 (s.extract a (a + 2)) (a : Int) _ hxs).mono ?_
    rintro y w9 ⟨rfl, hb⟩
    have HF := hide (((H0.out.setK 5).setX (s.extract a (a + 2))).below hb)
    clear hb c0 c1 c2 f0 f1 f2
    obtain ⟨_, ⟨c0, c1, c2⟩, ⟨f0, f1, f2⟩⟩ := HF.out.t
    obtain ⟨_, ⟨r0, r1, r2⟩, ⟨rf0, rf1, rf2⟩⟩ := HF.out.r
    have hne := HF.out.ne
    rw [htok]
    go_wp2_with fail
    ((try simp only [Exit.inBlock, Exit.then]); refine bodyPost_ret (by simp [results, Tryz.results48, go_sem]; go_simp; rfl) rfl ?_)
    exact ⟨TokS.chk_no htok, ((HF.out.bel.setCell HF.out.l4 _).setCell HF.out.l4 _).setCell HF.out.l4 _⟩
  · go_enter Tryz.func48, Tryz.ntmps48
    go_wp2_with fail
    generalize hW : World.alloc _ _ = W1
    have hb0 := TB.made w 25 25 (a : Int)
    rw [hW] at hb0
    obtain ⟨b4, hb4⟩ : ∃ b, b = w.heap.size := ⟨_, rfl⟩
    obtain ⟨bt, hbt⟩ : ∃ b, b = w.heap.size + 1 := ⟨_, rfl⟩
    rw [← hbt, ← hb4] at hb0 ⊢
    have H0 := hide hb0
    clear hb0 hW hb4 hbt
    refine (letterC _ _).mono ?_
    rintro x w9 ⟨rfl, rfl⟩
    rw [hl]
    go_wp2_with fail
    refine (figureC _ _).mono ?_
    rintro x w9 ⟨rfl, rfl⟩
    rw [hd]
    obtain ⟨_, ⟨c0, c1, c2⟩, ⟨f0, f1, f2⟩⟩ := H0.out.t
    go_wp2_with fail
    refine (specSignOk (s.extract a (a + 2)) _).mono ?_
    rintro y w9 ⟨rfl, rfl⟩
    rw [h3]
    go_wp2_with fail
    refine (specTokenOk 5 (s.extract a (a + 2)) (a : Int) _ hxs).mono ?_
    rintro y w9 ⟨rfl, hb⟩
    have HF := hide (((H0.out.setK 5).setX (s.extract a (a + 2))).below hb)
    clear hb c0 c1 c2 f0 f1 f2
    obtain ⟨_, ⟨c0, c1, c2⟩, ⟨f0, f1, f2⟩⟩ := HF.out.t
    obtain ⟨_, ⟨r0, r1, r2⟩, ⟨rf0, rf1, rf2⟩⟩ := HF.out.r
    have hne := HF.out.ne
    rw [htok]
    go_wp2_with fail
    ((try simp only [Exit.inBlock, Exit.then]); refine bodyPost_ret (by simp [results, Tryz.results48, go_sem]; go_simp; rfl) rfl ?_)
    exact ⟨TokS.chk_yes htok (by omega), ((HF.out.bel.setCell HF.out.l4 _).setCell HF.out.l4 _).setCell HF.out.l4 _⟩

set_option maxRecDepth 100000 in
set_option maxHeartbeats 1600000 in
theorem specOne_S1 (s : ByteArray) (a : Nat) (ha : a < s.size) (hs : s.size ≤ 1048576) (w : World) (hl : letB s[a] = false) (hd : digB s[a] = false) (g1 : ((s[a].toNat : Int) == 34) = false) (g2 : ((s[a].toNat : Int) == 39) = false) (h2 : (a : Int) + 2 ≤ s.size) (h3 : signOk (s.extract a (a + 2)) = false) :
    Calls Tryz.prog 48 #[.string s, .int .i64 (a : Int)] w fun z w' => TokS (chk 5 (s.extract a (a + 1)) 1) a z ∧ Below w.heap.size w w' := by
  have ha2 : (a : Int) < s.size := by omega
  have hxs : (s.extract a (a + 1)).size ≤ 1048576 := by simp [ByteArray.size_extract]; omega
  cases htok : tokOk 5 (s.extract a (a + 1))
  · go_enter Tryz.func48, Tryz.ntmps48
    go_wp2_with fail
    generalize hW : World.alloc _ _ = W1
    have hb0 := TB.made w 25 25 (a : Int)
    rw [hW] at hb0
    obtain ⟨b4, hb4⟩ : ∃ b, b = w.heap.size := ⟨_, rfl⟩
    obtain ⟨bt, hbt⟩ : ∃ b, b = w.heap.size + 1 := ⟨_, rfl⟩
    rw [← hbt, ← hb4] at hb0 ⊢
    have H0 := hide hb0
    clear hb0 hW hb4 hbt
    refine (letterC _ _).mono ?_
    rintro x w9 ⟨rfl, rfl⟩
    rw [hl]
    go_wp2_with fail
    refine (figureC _ _).mono ?_
    rintro x w9 ⟨rfl, rfl⟩
    rw [hd]
    obtain ⟨_, ⟨c0, c1, c2⟩, ⟨f0, f1, f2⟩⟩ := H0.out.t
    go_wp2_with fail
    refine (specSignOk (s.extract a (a + 2)) _).mono ?_
    rintro y w9 ⟨rfl, rfl⟩
    rw [h3]
    go_wp2_with fail
    refine (specTokenOk 5 (s.extract a (a + 1)) (a : Int) _ hxs).mono ?_
    rintro y w9 ⟨rfl, hb⟩
    have HF := hide (((H0.out.setK 5).setX (s.extract a (a + 1))).below hb)
    clear hb c0 c1 c2 f0 f1 f2
    obtain ⟨_, ⟨c0, c1, c2⟩, ⟨f0, f1, f2⟩⟩ := HF.out.t
    obtain ⟨_, ⟨r0, r1, r2⟩, ⟨rf0, rf1, rf2⟩⟩ := HF.out.r
    have hne := HF.out.ne
    rw [htok]
    go_wp2_with fail
    ((try simp only [Exit.inBlock, Exit.then]); refine bodyPost_ret (by simp [results, Tryz.results48, go_sem]; go_simp; rfl) rfl ?_)
    exact ⟨TokS.chk_no htok, ((HF.out.bel.setCell HF.out.l4 _).setCell HF.out.l4 _).setCell HF.out.l4 _⟩
  · go_enter Tryz.func48, Tryz.ntmps48
    go_wp2_with fail
    generalize hW : World.alloc _ _ = W1
    have hb0 := TB.made w 25 25 (a : Int)
    rw [hW] at hb0
    obtain ⟨b4, hb4⟩ : ∃ b, b = w.heap.size := ⟨_, rfl⟩
    obtain ⟨bt, hbt⟩ : ∃ b, b = w.heap.size + 1 := ⟨_, rfl⟩
    rw [← hbt, ← hb4] at hb0 ⊢
    have H0 := hide hb0
    clear hb0 hW hb4 hbt
    refine (letterC _ _).mono ?_
    rintro x w9 ⟨rfl, rfl⟩
    rw [hl]
    go_wp2_with fail
    refine (figureC _ _).mono ?_
    rintro x w9 ⟨rfl, rfl⟩
    rw [hd]
    obtain ⟨_, ⟨c0, c1, c2⟩, ⟨f0, f1, f2⟩⟩ := H0.out.t
    go_wp2_with fail
    refine (specSignOk (s.extract a (a + 2)) _).mono ?_
    rintro y w9 ⟨rfl, rfl⟩
    rw [h3]
    go_wp2_with fail
    refine (specTokenOk 5 (s.extract a (a + 1)) (a : Int) _ hxs).mono ?_
    rintro y w9 ⟨rfl, hb⟩
    have HF := hide (((H0.out.setK 5).setX (s.extract a (a + 1))).below hb)
    clear hb c0 c1 c2 f0 f1 f2
    obtain ⟨_, ⟨c0, c1, c2⟩, ⟨f0, f1, f2⟩⟩ := HF.out.t
    obtain ⟨_, ⟨r0, r1, r2⟩, ⟨rf0, rf1, rf2⟩⟩ := HF.out.r
    have hne := HF.out.ne
    rw [htok]
    go_wp2_with fail
    ((try simp only [Exit.inBlock, Exit.then]); refine bodyPost_ret (by simp [results, Tryz.results48, go_sem]; go_simp; rfl) rfl ?_)
    exact ⟨TokS.chk_yes htok (by omega), ((HF.out.bel.setCell HF.out.l4 _).setCell HF.out.l4 _).setCell HF.out.l4 _⟩

set_option maxRecDepth 100000 in
set_option maxHeartbeats 1600000 in
theorem specOne_S0 (s : ByteArray) (a : Nat) (ha : a < s.size) (hs : s.size ≤ 1048576) (w : World) (hl : letB s[a] = false) (hd : digB s[a] = false) (g1 : ((s[a].toNat : Int) == 34) = false) (g2 : ((s[a].toNat : Int) == 39) = false) (h2 : ¬ (a : Int) + 2 ≤ s.size) :
    Calls Tryz.prog 48 #[.string s, .int .i64 (a : Int)] w fun z w' => TokS (chk 5 (s.extract a (a + 1)) 1) a z ∧ Below w.heap.size w w' := by
  have ha2 : (a : Int) < s.size := by omega
  have hxs : (s.extract a (a + 1)).size ≤ 1048576 := by simp [ByteArray.size_extract]; omega
  cases htok : tokOk 5 (s.extract a (a + 1))
  · go_enter Tryz.func48, Tryz.ntmps48
    go_wp2_with fail
    generalize hW : World.alloc _ _ = W1
    have hb0 := TB.made w 25 25 (a : Int)
    rw [hW] at hb0
    obtain ⟨b4, hb4⟩ : ∃ b, b = w.heap.size := ⟨_, rfl⟩
    obtain ⟨bt, hbt⟩ : ∃ b, b = w.heap.size + 1 := ⟨_, rfl⟩
    rw [← hbt, ← hb4] at hb0 ⊢
    have H0 := hide hb0
    clear hb0 hW hb4 hbt
    refine (letterC _ _).mono ?_
    rintro x w9 ⟨rfl, rfl⟩
    rw [hl]
    go_wp2_with fail
    refine (figureC _ _).mono ?_
    rintro x w9 ⟨rfl, rfl⟩
    rw [hd]
    obtain ⟨_, ⟨c0, c1, c2⟩, ⟨f0, f1, f2⟩⟩ := H0.out.t
    go_wp2_with fail
    refine (specTokenOk 5 (s.extract a (a + 1)) (a : Int) _ hxs).mono ?_
    rintro y w9 ⟨rfl, hb⟩
    have HF := hide (((H0.out.setK 5).setX (s.extract a (a + 1))).below hb)
    clear hb c0 c1 c2 f0 f1 f2
    obtain ⟨_, ⟨c0, c1, c2⟩, ⟨f0, f1, f2⟩⟩ := HF.out.t
    obtain ⟨_, ⟨r0, r1, r2⟩, ⟨rf0, rf1, rf2⟩⟩ := HF.out.r
    have hne := HF.out.ne
    rw [htok]
    go_wp2_with fail
    ((try simp only [Exit.inBlock, Exit.then]); refine bodyPost_ret (by simp [results, Tryz.results48, go_sem]; go_simp; rfl) rfl ?_)
    exact ⟨TokS.chk_no htok, ((HF.out.bel.setCell HF.out.l4 _).setCell HF.out.l4 _).setCell HF.out.l4 _⟩
  · go_enter Tryz.func48, Tryz.ntmps48
    go_wp2_with fail
    generalize hW : World.alloc _ _ = W1
    have hb0 := TB.made w 25 25 (a : Int)
    rw [hW] at hb0
    obtain ⟨b4, hb4⟩ : ∃ b, b = w.heap.size := ⟨_, rfl⟩
    obtain ⟨bt, hbt⟩ : ∃ b, b = w.heap.size + 1 := ⟨_, rfl⟩
    rw [← hbt, ← hb4] at hb0 ⊢
    have H0 := hide hb0
    clear hb0 hW hb4 hbt
    refine (letterC _ _).mono ?_
    rintro x w9 ⟨rfl, rfl⟩
    rw [hl]
    go_wp2_with fail
    refine (figureC _ _).mono ?_
    rintro x w9 ⟨rfl, rfl⟩
    rw [hd]
    obtain ⟨_, ⟨c0, c1, c2⟩, ⟨f0, f1, f2⟩⟩ := H0.out.t
    go_wp2_with fail
    refine (specTokenOk 5 (s.extract a (a + 1)) (a : Int) _ hxs).mono ?_
    rintro y w9 ⟨rfl, hb⟩
    have HF := hide (((H0.out.setK 5).setX (s.extract a (a + 1))).below hb)
    clear hb c0 c1 c2 f0 f1 f2
    obtain ⟨_, ⟨c0, c1, c2⟩, ⟨f0, f1, f2⟩⟩ := HF.out.t
    obtain ⟨_, ⟨r0, r1, r2⟩, ⟨rf0, rf1, rf2⟩⟩ := HF.out.r
    have hne := HF.out.ne
    rw [htok]
    go_wp2_with fail
    ((try simp only [Exit.inBlock, Exit.then]); refine bodyPost_ret (by simp [results, Tryz.results48, go_sem]; go_simp; rfl) rfl ?_)
    exact ⟨TokS.chk_yes htok (by omega), ((HF.out.bel.setCell HF.out.l4 _).setCell HF.out.l4 _).setCell HF.out.l4 _⟩

theorem specOne (s : ByteArray) (a : Nat) (ha : a < s.size) (hs : s.size ≤ 1048576) (w : World) :
    Calls Tryz.prog 48 #[.string s, .int .i64 (a : Int)] w fun z w' => TokS (tokR (s.data.toList.drop a)) a z ∧ Below w.heap.size w w' := by
  cases hp : partB s[a]
  · obtain ⟨hl, hd⟩ := part_no _ hp
    by_cases h34 : s[a] = 34
    · rw [tok_text s a ha hp 34 2 (.inl ⟨rfl, rfl⟩) h34]
      cases hr : quotR 34 (s.data.toList.drop (a + 1)) with
      | none => exact specOne_Qn s a ha hs w hl hd h34 hr
      | some y => exact specOne_Q s a ha hs w hl hd h34 y hr
    · by_cases h39 : s[a] = 39
      · rw [tok_text s a ha hp 39 4 (.inr ⟨rfl, rfl⟩) h39]
        cases hr : quotR 39 (s.data.toList.drop (a + 1)) with
        | none => exact specOne_Tn s a ha hs w hl hd h39 hr
        | some y => exact specOne_T s a ha hs w hl hd h39 y hr
      · have g1 : ((s[a].toNat : Int) == 34) = false := u8_ne (b := 34) h34
        have g2 : ((s[a].toNat : Int) == 39) = false := u8_ne (b := 39) h39
        rw [tok_sign s a ha hp h34 h39]
        by_cases h2 : a + 2 ≤ s.size
        · cases h3 : signOk (s.extract a (a + 2))
          · rw [sign_one s a ha (fun _ => h3)]
            exact specOne_S1 s a ha hs w hl hd g1 g2 (by omega) h3
          · rw [sign_two s a h2 h3]
            exact specOne_S2 s a ha hs w hl hd g1 g2 (by omega) h3
        · rw [sign_one s a ha (fun h => absurd h h2)]
          exact specOne_S0 s a ha hs w hl hd g1 g2 (by omega)
  · obtain ⟨e, h1, h2, h3, h4⟩ := run_ex s _ a rfl (by omega)
    have hae : a < e := by
      rcases Nat.lt_or_ge a e with h | h
      · exact h
      · have : e = a := by omega
        subst this
        rw [h4 ha] at hp
        cases hp
    have HR : Hid ((∀ i (h : i < s.size), a ≤ i → i < e → partB s[i] = true) ∧ (∀ h : e < s.size, partB s[e] = false)) := ⟨h3, h4⟩
    rw [(tok_word s a e ha h1 h2 hp h3 h4).1]
    unfold wordR
    rcases part_cls _ hp with hl | ⟨hl, hd⟩
    · rw [if_neg (by rw [let_dig _ hl]; simp)]
      by_cases hk : keyNo (upAll (s.extract a e)) = 0
      · rw [if_pos hk]
        exact specOne_N s a ha hs w e h1 h2 HR hl hk
      · rw [if_neg hk]
        have hnn := keyNo_nonneg (upAll (s.extract a e))
        exact specOne_K s a ha hs w e h1 h2 HR hl (by omega)
    · rw [if_pos hd]
      exact specOne_D s a ha hs w e h1 h2 HR hl hd
end Go.Proofs.YtfnjcgakcpadiaaGreatDoor
