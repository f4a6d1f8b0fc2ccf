/-
  readToken: the program's next token: quoted texts.
-/
import Derived.Test.YtfnjcgakcpadiaaGreatDoorTB
import Derived.Test.YtfnjcgakcpadiaaGreatDoorSkipI
import Derived.Deep.CutBlock
import Derived.Deep.DeepCutAuto
namespace Go.Proofs.YtfnjcgakcpadiaaGreatDoor
open Go.RowKit

set_option maxRecDepth 100000 in
set_option maxHeartbeats 3200000 in
theorem implOne_Qn (s : ByteArray) (a : Nat) (ha : a < s.size) (hs : s.size ≤ 1048576) (w : World) (hR : Ready w) (hp : partB s[a] = false) (hq : s[a] = 34) (hn : Hid (quotR 34 (s.data.toList.drop (a + 1)) = none)) :
    Calls Tryz.prog 36 #[.string s, .int .i64 (a : Int)] w fun z w' => TokI (none) a z ∧ Below w.heap.size w w' := by
  have ha2 : (a : Int) < s.size := by omega
  have HR := hide hR
  clear hR
  have hQ := fun w r hr => implReadQ s a ha hs 34 hq w r hr
  have g1 : ((s[a].toNat : Int) == 34) = true := by rw [hq]; rfl
  have g2 : ((s[a].toNat : Int) == 39) = false := by rw [hq]; rfl
  clear hq
  go_enter Tryz.func36, Tryz.ntmps36
  go_upto_block 0 with fail
  generalize hW : World.alloc _ _ = W1
  have hb0 := TB.made w 25 25 (a : Int)
  rw [hW] at hb0
  obtain ⟨b4, hb4⟩ : ∃ b, b = w.heap.size := ⟨_, rfl⟩
  obtain ⟨bt, hbt⟩ : ∃ b, b = w.heap.size + 1 := ⟨_, rfl⟩
  rw [← hbt, ← hb4] at hb0 ⊢
  have H0 := hide hb0
  clear hb0 hW hb4 hbt
  obtain ⟨_, ⟨c0, c1, c2⟩, ⟨f0, f1, f2⟩⟩ := H0.out.t
  go_wp2_with fail
  refine (isPartC _ _).mono ?_
  rintro x w9 ⟨rfl, rfl⟩
  rw [hp]
  go_wp2_with fail
  refine (hQ _ none hn).mono ?_
  rintro y w9 ⟨rfl, hb⟩
  have H1 := hide (H0.out.below hb)
  clear hb c0 c1 c2 f0 f1 f2 hQ
  obtain ⟨_, ⟨c0, c1, c2⟩, ⟨f0, f1, f2⟩⟩ := H1.out.t
  obtain ⟨_, ⟨r0, r1, r2⟩, ⟨rf0, rf1, rf2⟩⟩ := H1.out.r
  have hne := H1.out.ne
  have e1 : qE (a + 1) 0 none = 0 := rfl
  have e2 : qT none = ⟨#[]⟩ := rfl
  have e3 : (none : Option (List UInt8 × Nat)).isSome = false := rfl
  rw [e1, e2, e3]
  clear e1 e2 e3
  go_wp2_with fail
  ((try simp only [Exit.inBlock, Exit.then]); refine bodyPost_ret (by simp [results, Tryz.results36, go_sem]; go_simp; rfl) rfl ?_)
  exact ⟨⟨_, _, _, _, rfl⟩, ((H1.out.bel.setCell H1.out.l4 _).setCell H1.out.l4 _).setCell H1.out.l4 _⟩

set_option maxRecDepth 100000 in
set_option maxHeartbeats 3200000 in
theorem implOne_Q (s : ByteArray) (a : Nat) (ha : a < s.size) (hs : s.size ≤ 1048576) (w : World) (hR : Ready w) (hp : partB s[a] = false) (hq : s[a] = 34) (y : List UInt8 × Nat) (hn : Hid (quotR 34 (s.data.toList.drop (a + 1)) = some y)) :
    Calls Tryz.prog 36 #[.string s, .int .i64 (a : Int)] w fun z w' => TokI (chk 2 ⟨y.1.toArray⟩ (y.2 + 1)) a z ∧ Below w.heap.size w w' := by
  have ha2 : (a : Int) < s.size := by omega
  have HR := hide hR
  clear hR
  have hyl := text_size s (a + 1) 34 y hn.out
  have hxs : (⟨y.1.toArray⟩ : ByteArray).size ≤ 1048576 := by omega
  have hE : qE (a + 1) 0 (some y) = ((a + 1 + y.2 : Nat) : Int) := rfl
  have hT : qT (some y) = ⟨y.1.toArray⟩ := rfl
  have hQ := fun w => implReadQ s a ha hs 34 hq w (some y) hn
  have hS : (some y).isSome = true := rfl
  rw [hE, hT, hS] at hQ
  generalize (⟨y.1.toArray⟩ : ByteArray) = X at hQ hxs ⊢
  clear hE hT hS hyl hn
  have g1 : ((s[a].toNat : Int) == 34) = true := by rw [hq]; rfl
  have g2 : ((s[a].toNat : Int) == 39) = false := by rw [hq]; rfl
  clear hq
  go_enter Tryz.func36, Tryz.ntmps36
  go_upto_block 0 with fail
  generalize hW : World.alloc _ _ = W1
  have hb0 := TB.made w 25 25 (a : Int)
  rw [hW] at hb0
  obtain ⟨b4, hb4⟩ : ∃ b, b = w.heap.size := ⟨_, rfl⟩
  obtain ⟨bt, hbt⟩ : ∃ b, b = w.heap.size + 1 := ⟨_, rfl⟩
  rw [← hbt, ← hb4] at hb0 ⊢
  have H0 := hide hb0
  clear hb0 hW hb4 hbt
  go_cut [8] (fun s8 wx => s8 = .int .i64 ((a + 1 + y.2 : Nat) : Int) ∧ TB w wx b4 bt 2 X (a : Int))
  case first =>
    obtain ⟨_, ⟨c0, c1, c2⟩, ⟨f0, f1, f2⟩⟩ := H0.out.t
    go_wp2_with fail
    refine (isPartC _ _).mono ?_
    rintro x w9 ⟨rfl, rfl⟩
    rw [hp]
    go_wp2_with fail
    refine (hQ _).mono ?_
    rintro z w9 ⟨rfl, hb⟩
    have H1 := hide (H0.out.below hb)
    clear hb c0 c1 c2 f0 f1 f2 hQ
    obtain ⟨_, ⟨c0, c1, c2⟩, ⟨f0, f1, f2⟩⟩ := H1.out.t
    go_wp2_with fail
    go_meet
    exact ⟨rfl, (H1.out.setK 2).setX X⟩
  case rest =>
    obtain ⟨rfl, hT⟩ := hcut
    rename World => W2
    have HF := hide hT
    clear hT
    have HRF : Hid (Ready W2) := HR.out.below HF.out.bel
    obtain ⟨_, ⟨c0, c1, c2⟩, ⟨f0, f1, f2⟩⟩ := HF.out.t
    obtain ⟨_, ⟨r0, r1, r2⟩, ⟨rf0, rf1, rf2⟩⟩ := HF.out.r
    have hne := HF.out.ne
    cases htok : tokOk 2 X
    · go_wp2_with fail
      go_region_with (go_at_call 17; refine (implTokenOk 2 X (a : Int) _ hxs (by first | exact HRF.out.below ((Below.refl _ _).drew) | exact HRF.out)).mono ?_; rintro y wz ⟨rfl, hbz⟩; (first | (have HZ := hide (HF.out.drew.below hbz)) | (have HZ := hide (HF.out.below hbz))); clear hbz c0 c1 c2 f0 f1 f2 r0 r1 r2 rf0 rf1 rf2; obtain ⟨_, ⟨c0, c1, c2⟩, ⟨f0, f1, f2⟩⟩ := HZ.out.t; obtain ⟨_, ⟨r0, r1, r2⟩, ⟨rf0, rf1, rf2⟩⟩ := HZ.out.r; rw [htok])
      all_goals go_wp2_with fail
      all_goals ((try simp only [Exit.inBlock, Exit.then]); refine bodyPost_ret (by simp [results, Tryz.results36, go_sem]; go_simp; rfl) rfl ?_)
      all_goals exact ⟨TokI.chk_no htok, (by first | exact ((HZ.out.bel.setCell HZ.out.l4 _).setCell HZ.out.l4 _).setCell HZ.out.l4 _ | exact (((HZ.out.bel.setCell HZ.out.l4 _).setCell HZ.out.l4 _).setCell HZ.out.l4 _).drew)⟩
    · go_wp2_with fail
      go_region_with (go_at_call 17; refine (implTokenOk 2 X (a : Int) _ hxs (by first | exact HRF.out.below ((Below.refl _ _).drew) | exact HRF.out)).mono ?_; rintro y wz ⟨rfl, hbz⟩; (first | (have HZ := hide (HF.out.drew.below hbz)) | (have HZ := hide (HF.out.below hbz))); clear hbz c0 c1 c2 f0 f1 f2 r0 r1 r2 rf0 rf1 rf2; obtain ⟨_, ⟨c0, c1, c2⟩, ⟨f0, f1, f2⟩⟩ := HZ.out.t; obtain ⟨_, ⟨r0, r1, r2⟩, ⟨rf0, rf1, rf2⟩⟩ := HZ.out.r; rw [htok])
      all_goals go_wp2_with fail
      all_goals ((try simp only [Exit.inBlock, Exit.then]); refine bodyPost_ret (by simp [results, Tryz.results36, go_sem]; go_simp; rfl) rfl ?_)
      all_goals exact ⟨TokI.chk_yes htok (by omega), (by first | exact ((HZ.out.bel.setCell HZ.out.l4 _).setCell HZ.out.l4 _).setCell HZ.out.l4 _ | exact (((HZ.out.bel.setCell HZ.out.l4 _).setCell HZ.out.l4 _).setCell HZ.out.l4 _).drew)⟩

set_option maxRecDepth 100000 in
set_option maxHeartbeats 3200000 in
theorem implOne_Tn (s : ByteArray) (a : Nat) (ha : a < s.size) (hs : s.size ≤ 1048576) (w : World) (hR : Ready w) (hp : partB s[a] = false) (hq : s[a] = 39) (hn : Hid (quotR 39 (s.data.toList.drop (a + 1)) = none)) :
    Calls Tryz.prog 36 #[.string s, .int .i64 (a : Int)] w fun z w' => TokI (none) a z ∧ Below w.heap.size w w' := by
  have ha2 : (a : Int) < s.size := by omega
  have HR := hide hR
  clear hR
  have hQ := fun w r hr => implReadQ s a ha hs 39 hq w r hr
  have g1 : ((s[a].toNat : Int) == 34) = false := by rw [hq]; rfl
  have g2 : ((s[a].toNat : Int) == 39) = true := by rw [hq]; rfl
  clear hq
  go_enter Tryz.func36, Tryz.ntmps36
  go_upto_block 0 with fail
  generalize hW : World.alloc _ _ = W1
  have hb0 := TB.made w 25 25 (a : Int)
  rw [hW] at hb0
  obtain ⟨b4, hb4⟩ : ∃ b, b = w.heap.size := ⟨_, rfl⟩
  obtain ⟨bt, hbt⟩ : ∃ b, b = w.heap.size + 1 := ⟨_, rfl⟩
  rw [← hbt, ← hb4] at hb0 ⊢
  have H0 := hide hb0
  clear hb0 hW hb4 hbt
  obtain ⟨_, ⟨c0, c1, c2⟩, ⟨f0, f1, f2⟩⟩ := H0.out.t
  go_wp2_with fail
  refine (isPartC _ _).mono ?_
  rintro x w9 ⟨rfl, rfl⟩
  rw [hp]
  go_wp2_with fail
  refine (hQ _ none hn).mono ?_
  rintro y w9 ⟨rfl, hb⟩
  have H1 := hide (H0.out.below hb)
  clear hb c0 c1 c2 f0 f1 f2 hQ
  obtain ⟨_, ⟨c0, c1, c2⟩, ⟨f0, f1, f2⟩⟩ := H1.out.t
  obtain ⟨_, ⟨r0, r1, r2⟩, ⟨rf0, rf1, rf2⟩⟩ := H1.out.r
  have hne := H1.out.ne
  have e1 : qE (a + 1) 0 none = 0 := rfl
  have e2 : qT none = ⟨#[]⟩ := rfl
  have e3 : (none : Option (List UInt8 × Nat)).isSome = false := rfl
  rw [e1, e2, e3]
  clear e1 e2 e3
  go_wp2_with fail
  ((try simp only [Exit.inBlock, Exit.then]); refine bodyPost_ret (by simp [results, Tryz.results36, go_sem]; go_simp; rfl) rfl ?_)
  exact ⟨⟨_, _, _, _, rfl⟩, ((H1.out.bel.setCell H1.out.l4 _).setCell H1.out.l4 _).setCell H1.out.l4 _⟩

set_option maxRecDepth 100000 in
set_option maxHeartbeats 3200000 in
theorem implOne_T (s : ByteArray) (a : Nat) (ha : a < s.size) (hs : s.size ≤ 1048576) (w : World) (hR : Ready w) (hp : partB s[a] = false) (hq : s[a] = 39) (y : List UInt8 × Nat) (hn : Hid (quotR 39 (s.data.toList.drop (a + 1)) = some y)) :
    Calls Tryz.prog 36 #[.string s, .int .i64 (a : Int)] w fun z w' => TokI (chk 4 ⟨y.1.toArray⟩ (y.2 + 1)) a z ∧ Below w.heap.size w w' := by
  have ha2 : (a : Int) < s.size := by omega
  have HR := hide hR
  clear hR
  have hyl := text_size s (a + 1) 39 y hn.out
  have hxs : (⟨y.1.toArray⟩ : ByteArray).size ≤ 1048576 := by omega
  have hE : qE (a + 1) 0 (some y) = ((a + 1 + y.2 : Nat) : Int) := rfl
  have hT : qT (some y) = ⟨y.1.toArray⟩ := rfl
  have hQ := fun w => implReadQ s a ha hs 39 hq w (some y) hn
  have hS : (some y).isSome = true := rfl
  rw [hE, hT, hS] at hQ
  generalize (⟨y.1.toArray⟩ : ByteArray) = X at hQ hxs ⊢
  clear hE hT hS hyl hn
  have g1 : ((s[a].toNat : Int) == 34) = false := by rw [hq]; rfl
  have g2 : ((s[a].toNat : Int) == 39) = true := by rw [hq]; rfl
  clear hq
  go_enter Tryz.func36, Tryz.ntmps36
  go_upto_block 0 with fail
  generalize hW : World.alloc _ _ = W1
  have hb0 := TB.made w 25 25 (a : Int)
  rw [hW] at hb0
  obtain ⟨b4, hb4⟩ : ∃ b, b = w.heap.size := ⟨_, rfl⟩
  obtain ⟨bt, hbt⟩ : ∃ b, b = w.heap.size + 1 := ⟨_, rfl⟩
  rw [← hbt, ← hb4] at hb0 ⊢
  have H0 := hide hb0
  clear hb0 hW hb4 hbt
  go_cut [8] (fun s8 wx => s8 = .int .i64 ((a + 1 + y.2 : Nat) : Int) ∧ TB w wx b4 bt 4 X (a : Int))
  case first =>
    obtain ⟨_, ⟨c0, c1, c2⟩, ⟨f0, f1, f2⟩⟩ := H0.out.t
    go_wp2_with fail
    refine (isPartC _ _).mono ?_
    rintro x w9 ⟨rfl, rfl⟩
    rw [hp]
    go_wp2_with fail
    refine (hQ _).mono ?_
    rintro z w9 ⟨rfl, hb⟩
    have H1 := hide (H0.out.below hb)
    clear hb c0 c1 c2 f0 f1 f2 hQ
    obtain ⟨_, ⟨c0, c1, c2⟩, ⟨f0, f1, f2⟩⟩ := H1.out.t
    go_wp2_with fail
    go_meet
    exact ⟨rfl, ((H1.out.setK 2).setX X).setK 4⟩
  case rest =>
    obtain ⟨rfl, hT⟩ := hcut
    rename World => W2
    have HF := hide hT
    clear hT
    have HRF : Hid (Ready W2) := HR.out.below HF.out.bel
    obtain ⟨_, ⟨c0, c1, c2⟩, ⟨f0, f1, f2⟩⟩ := HF.out.t
    obtain ⟨_, ⟨r0, r1, r2⟩, ⟨rf0, rf1, rf2⟩⟩ := HF.out.r
    have hne := HF.out.ne
    cases htok : tokOk 4 X
    · go_wp2_with fail
      go_region_with (go_at_call 17; refine (implTokenOk 4 X (a : Int) _ hxs (by first | exact HRF.out.below ((Below.refl _ _).drew) | exact HRF.out)).mono ?_; rintro y wz ⟨rfl, hbz⟩; (first | (have HZ := hide (HF.out.drew.below hbz)) | (have HZ := hide (HF.out.below hbz))); clear hbz c0 c1 c2 f0 f1 f2 r0 r1 r2 rf0 rf1 rf2; obtain ⟨_, ⟨c0, c1, c2⟩, ⟨f0, f1, f2⟩⟩ := HZ.out.t; obtain ⟨_, ⟨r0, r1, r2⟩, ⟨rf0, rf1, rf2⟩⟩ := HZ.out.r; rw [htok])
      all_goals go_wp2_with fail
      all_goals ((try simp only [Exit.inBlock, Exit.then]); refine bodyPost_ret (by simp [results, Tryz.results36, go_sem]; go_simp; rfl) rfl ?_)
      all_goals exact ⟨TokI.chk_no htok, (by first | exact ((HZ.out.bel.setCell HZ.out.l4 _).setCell HZ.out.l4 _).setCell HZ.out.l4 _ | exact (((HZ.out.bel.setCell HZ.out.l4 _).setCell HZ.out.l4 _).setCell HZ.out.l4 _).drew)⟩
    · go_wp2_with fail
      go_region_with (go_at_call 17; refine (implTokenOk 4 X (a : Int) _ hxs (by first | exact HRF.out.below ((Below.refl _ _).drew) | exact HRF.out)).mono ?_; rintro y wz ⟨rfl, hbz⟩; (first | (have HZ := hide (HF.out.drew.below hbz)) | (have HZ := hide (HF.out.below hbz))); clear hbz c0 c1 c2 f0 f1 f2 r0 r1 r2 rf0 rf1 rf2; obtain ⟨_, ⟨c0, c1, c2⟩, ⟨f0, f1, f2⟩⟩ := HZ.out.t; obtain ⟨_, ⟨r0, r1, r2⟩, ⟨rf0, rf1, rf2⟩⟩ := HZ.out.r; rw [htok])
      all_goals go_wp2_with fail
      all_goals ((try simp only [Exit.inBlock, Exit.then]); refine bodyPost_ret (by simp [results, Tryz.results36, go_sem]; go_simp; rfl) rfl ?_)
      all_goals exact ⟨TokI.chk_yes htok (by omega), (by first | exact ((HZ.out.bel.setCell HZ.out.l4 _).setCell HZ.out.l4 _).setCell HZ.out.l4 _ | exact (((HZ.out.bel.setCell HZ.out.l4 _).setCell HZ.out.l4 _).setCell HZ.out.l4 _).drew)⟩
end Go.Proofs.YtfnjcgakcpadiaaGreatDoor
