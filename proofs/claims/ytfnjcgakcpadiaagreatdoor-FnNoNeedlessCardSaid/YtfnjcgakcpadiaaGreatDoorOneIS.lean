/-
  readToken: the program's next token: operators.
-/
import Derived.Test.YtfnjcgakcpadiaaGreatDoorTB
import Derived.Test.YtfnjcgakcpadiaaGreatDoorSkipI
import Derived.Deep.CutBlock
import Derived.Deep.DeepCutAuto
namespace Go.Proofs.YtfnjcgakcpadiaaGreatDoor
open Go.RowKit

/-- The longest operator ahead, among the first few. -/
def bestF (r : List UInt8) (b x : ByteArray) : ByteArray := if Lib.hasPrefix r x.data.toList = true ∧ b.size < x.size then x else b
def bestS (r : List UInt8) (k : Nat) : ByteArray := (signL.take k).foldl (bestF r) ⟨#[]⟩
theorem best_zero (r : List UInt8) : bestS r 0 = ⟨#[]⟩ := rfl
theorem best_succ (r : List UInt8) (k : Nat) (hk : k < 16) : bestS r (k + 1) = bestF r (bestS r k) (signL.getD k ByteArray.empty) := by
  have hl : k < signL.length := hk
  unfold bestS
  rw [List.take_succ_eq_append_getElem hl, List.foldl_append]
  have e : signL.getD k ByteArray.empty = signL[k] := by rw [List.getD, List.getElem?_eq_getElem hl]; rfl
  rw [e]
  rfl
theorem best_inv (r : List UInt8) (k : Nat) (hk : k ≤ 16) : (bestS r k = ⟨#[]⟩ ∨ bestS r k ∈ signL ∧ Lib.hasPrefix r (bestS r k).data.toList = true) ∧ ∀ x ∈ signL.take k, Lib.hasPrefix r x.data.toList = true → x.size ≤ (bestS r k).size := by
  induction k with
  | zero => exact ⟨.inl rfl, fun x hx => by simp at hx⟩
  | succ k ih =>
    obtain ⟨h1, h2⟩ := ih (by omega)
    have hl : k < signL.length := by show k < 16; omega
    have e : signL.getD k ByteArray.empty = signL[k] := by rw [List.getD, List.getElem?_eq_getElem hl]; rfl
    rw [best_succ r k (by omega), e, List.take_succ_eq_append_getElem hl]
    unfold bestF
    by_cases hc : Lib.hasPrefix r signL[k].data.toList = true ∧ (bestS r k).size < signL[k].size
    · rw [if_pos hc]
      refine ⟨.inr ⟨List.getElem_mem hl, hc.1⟩, fun x hx hp => ?_⟩
      rcases List.mem_append.mp hx with hx | hx
      · have := h2 x hx hp; omega
      · simp only [List.mem_singleton] at hx; subst hx; exact Nat.le_refl _
    · rw [if_neg hc]
      refine ⟨h1, fun x hx hp => ?_⟩
      rcases List.mem_append.mp hx with hx | hx
      · exact h2 x hx hp
      · simp only [List.mem_singleton] at hx
        subst hx
        exact Nat.le_of_not_lt (fun h => hc ⟨hp, h⟩)
theorem sign_sizes : ∀ x ∈ signL, x.size = 1 ∨ x.size = 2 := by decide
theorem sign_mem (x : ByteArray) : signOk x = true ↔ x ∈ signL := by rw [← signOk_contains, Lib.containsS_iff]
theorem pre_take (r : List UInt8) (x : ByteArray) (h : Lib.hasPrefix r x.data.toList = true) : x = ⟨(r.take x.size).toArray⟩ ∧ x.size ≤ r.length := by
  have hl := list_size x
  have h1 := Lib.hasPrefix_le h
  have h2 : x.data.toList <+: r := List.isPrefixOf_iff_prefix.mp h
  rw [List.prefix_iff_eq_take, hl] at h2
  refine ⟨?_, by omega⟩
  rw [← h2]
theorem take_pre (r : List UInt8) (n : Nat) (h : n ≤ r.length) : Lib.hasPrefix r (⟨(r.take n).toArray⟩ : ByteArray).data.toList = true ∧ (⟨(r.take n).toArray⟩ : ByteArray).size = n := by
  refine ⟨?_, by simp [ByteArray.size]; omega⟩
  have e : (⟨(r.take n).toArray⟩ : ByteArray).data.toList = r.take n := by simp
  rw [e]
  exact List.isPrefixOf_iff_prefix.mpr (List.take_prefix _ _)
theorem best_spec (r : List UInt8) (hr : 0 < r.length) : signR r = chk 5 (bestS r 16) (bestS r 16).size := by
  obtain ⟨h1, h2⟩ := best_inv r 16 (Nat.le_refl _)
  have ht : signL.take 16 = signL := rfl
  rw [ht] at h2
  have hno : ∀ x : ByteArray, ∀ m, signOk x = false → chk 5 x m = none := fun x m h => by
    unfold chk
    rw [if_neg]
    unfold tokOk
    rw [if_neg (by decide), if_neg (by decide), if_neg (by decide), if_neg (by decide), if_pos rfl, h]
    simp
  unfold signR
  by_cases hc : 2 ≤ r.length ∧ signOk ⟨(r.take 2).toArray⟩ = true
  · rw [if_pos hc]
    obtain ⟨hp, hs⟩ := take_pre r 2 hc.1
    have h3 := h2 _ ((sign_mem _).mp hc.2) hp
    rw [hs] at h3
    rcases h1 with h1 | ⟨h1, h4⟩
    · rw [h1] at h3; exact absurd h3 (by decide)
    · have h5 := sign_sizes _ h1
      have h6 : (bestS r 16).size = 2 := by omega
      have h7 := (pre_take r _ h4).1
      rw [h6] at h7
      rw [h6, ← h7]
  · rw [if_neg hc]
    have hn2 : bestS r 16 ∈ signL ∧ Lib.hasPrefix r (bestS r 16).data.toList = true → (bestS r 16).size = 1 ∧ bestS r 16 = ⟨(r.take 1).toArray⟩ := by
      rintro ⟨h3, h4⟩
      have h7 := pre_take r _ h4
      rcases sign_sizes _ h3 with h5 | h5
      · rw [h5] at h7; exact ⟨h5, h7.1⟩
      · rw [h5] at h7
        exact absurd ⟨h7.2, by rw [← h7.1]; exact (sign_mem _).mpr h3⟩ hc
    obtain ⟨hp, hs⟩ := take_pre r 1 hr
    cases h8 : signOk ⟨(r.take 1).toArray⟩
    · rw [hno _ _ h8]
      rcases h1 with h1 | h1
      · rw [h1, hno _ _ (by simp [signOk, signB, ByteArray.toList_eq])]
      · obtain ⟨_, h9⟩ := hn2 h1
        rw [h9, hno _ _ h8]
    · have h3 := h2 _ ((sign_mem _).mp h8) hp
      rw [hs] at h3
      rcases h1 with h1 | h1
      · rw [h1] at h3; exact absurd h3 (by decide)
      · obtain ⟨h10, h9⟩ := hn2 h1
        rw [h10, ← h9]
theorem best_size (r : List UInt8) (k : Nat) (hk : k ≤ 16) : (bestS r k).size ≤ 2 := by
  rcases (best_inv r k hk).1 with h | ⟨h, _⟩
  · rw [h]; decide
  · have := sign_sizes _ h; omega
theorem sign_size2 (k : Nat) (hk : k < 16) : (signL.getD k ByteArray.empty).size ≤ 2 := by
  have hl : k < signL.length := hk
  have e : signL.getD k ByteArray.empty = signL[k] := by rw [List.getD, List.getElem?_eq_getElem hl]; rfl
  rw [e]
  have := sign_sizes _ (List.getElem_mem hl)
  omega

set_option maxRecDepth 100000 in
set_option maxHeartbeats 3200000 in
theorem implOne_S (s : ByteArray) (a : Nat) (ha : a < s.size) (hs : s.size ≤ 1048576) (w : World) (hR : Ready w) (hp : partB s[a] = false) (g1 : ((s[a].toNat : Int) == 34) = false) (g2 : ((s[a].toNat : Int) == 39) = false) :
    Calls Tryz.prog 36 #[.string s, .int .i64 (a : Int)] w fun z w' => TokI (chk 5 (bestS (s.data.toList.drop a) 16) (bestS (s.data.toList.drop a) 16).size) a z ∧ Below w.heap.size w w' := by
  have ha2 : (a : Int) < s.size := by omega
  have HR := hide hR
  clear hR
  have hle : (a : Int) ≤ s.size := by omega
  have hbz := fun k hk => best_size (s.data.toList.drop a) k hk
  have hx := hbz 16 (Nat.le_refl _)
  have hbz0 := best_zero (s.data.toList.drop a)
  have hbs := fun k hk => best_succ (s.data.toList.drop a) k hk
  have hpre := fun j w => hpC (s.extract a s.size) (signL.getD j ByteArray.empty) w
  rw [Lib.extract_to_end] at hpre
  obtain ⟨bf, hbf⟩ : ∃ bf, Hid (bestS (s.data.toList.drop a) = bf) := ⟨_, rfl⟩
  rw [hbf.out] at hx hbz0 hbs hbz ⊢
  generalize s.data.toList.drop a = r at hbf hbs hpre
  have HBS := hide (And.intro hbs hbz)
  clear hbs hbz
  have hx2 : (bf 16).size ≤ 1048576 := by omega
  go_enter Tryz.func36, Tryz.ntmps36
  go_upto_block 0 with fail
  generalize hW : World.alloc _ _ = W1
  have hb0 := TB.made w 25 25 (a : Int)
  rw [hW] at hb0
  obtain ⟨b4, hb4⟩ : ∃ b, b = w.heap.size := ⟨_, rfl⟩
  obtain ⟨bt, hbt⟩ : ∃ b, b = w.heap.size + 1 := ⟨_, rfl⟩
  rw [← hbt, ← hb4] at hb0 ⊢
  have H0 := hide hb0
  clear hb0 hW hb4 hbt
  go_cut [8] (fun s8 wx => s8 = .int .i64 ((a + (bf 16).size : Nat) : Int) ∧ TB w wx b4 bt 5 (bf 16) (a : Int))
  case first =>
    obtain ⟨_, ⟨c0, c1, c2⟩, ⟨f0, f1, f2⟩⟩ := H0.out.t
    go_wp2_with fail
    refine (isPartC _ _).mono ?_
    rintro x w9 ⟨rfl, rfl⟩
    rw [hp]
    go_wp2_with (go_at_call 66; go_in)
    generalize hW3 : World.alloc _ _ = W3
    have hg : ∀ j, j < 16 → W3.cell? ⟨W1.heap.size, j, none⟩ = some (.string (signL.getD j ByteArray.empty)) := by
      intro j hj
      rw [← hW3]
      have : j = 0 ∨ j = 1 ∨ j = 2 ∨ j = 3 ∨ j = 4 ∨ j = 5 ∨ j = 6 ∨ j = 7 ∨ j = 8 ∨ j = 9 ∨ j = 10 ∨ j = 11 ∨ j = 12 ∨ j = 13 ∨ j = 14 ∨ j = 15 := by omega
      rcases this with rfl | rfl | rfl | rfl | rfl | rfl | rfl | rfl | rfl | rfl | rfl | rfl | rfl | rfl | rfl | rfl
      all_goals simp [go_sem, signL]
    have hT3 : TB w W3 b4 bt 5 (bf 0) (a : Int) := by
      rw [← hW3, hbz0]
      exact (H0.out.setK 5).below ((Below.refl _ _).alloc (Nat.le_refl _) _)
    have hgb : W1.heap.size ≠ bt := by have := H0.out.t.lt; omega
    have HG := hide (And.intro hg (And.intro hT3 hgb))
    clear hW3 hg hT3 hgb hbz0 c0 c1 c2 f0 f1 f2
    generalize W1.heap.size = g at HG ⊢
    go_loopw [24] (fun x wr => ∃ j : Nat, x = .int .i64 (j : Int) ∧ j ≤ 16 ∧ TB w wr b4 bt 5 (bf j) (a : Int) ∧ Hid (∀ j, j < 16 → wr.cell? ⟨g, j, none⟩ = some (.string (signL.getD j ByteArray.empty)))) (fun x _ => 16 - (intOf x).toNat)
    case atStart => exact ⟨0, rfl, by omega, HG.out.2.1, HG.out.1⟩
    case round =>
      obtain ⟨j, rfl, hj, hT, HC⟩ := hrel
      have HT := hide hT
      clear hT
      obtain ⟨_, ⟨c0, c1, c2⟩, ⟨f0, f1, f2⟩⟩ := HT.out.t
      by_cases hj2 : j < 16
      · have hj3 : (j : Int) < 16 := by omega
        have hcj := HC.out j hj2
        have hsb := (HBS.out.1 j hj2)
        have hsz1 := sign_size2 j hj2
        have hsz2 := HBS.out.2 j (by omega)
        have hpj := hpre j
        cases hpv : Lib.hasPrefix r (signL.getD j ByteArray.empty).data.toList
        · have hbj : bf (j + 1) = bf j := by rw [hsb]; unfold bestF; rw [if_neg]; rintro ⟨h, _⟩; rw [hpv] at h; cases h
          rw [hpv] at hpj
          have HBJ := hide hbj
          generalize signL.getD j ByteArray.empty = sg at hcj hpj hsz1
          clear hsb hpv hbj
          go_wp2_with fail
          refine (hpj _).mono ?_
          rintro x w9 ⟨rfl, rfl⟩
          go_wp2_with fail
          go_roundw
          case rel => first | (exact ⟨j + 1, by go_num, by omega, by rw [HBJ.out]; exact HT.out, HC.out⟩; done) | ((repeat apply Exists.intro); exact ⟨⟨j + 1, by go_num, by omega, by rw [HBJ.out]; exact HT.out, HC.out⟩, rfl⟩)
          case measure => simp [intOf]; omega
        · rw [hpv] at hpj
          by_cases hlt : (bf j).size < (signL.getD j ByteArray.empty).size
          · have hbj : bf (j + 1) = signL.getD j ByteArray.empty := by rw [hsb]; unfold bestF; rw [if_pos ⟨hpv, hlt⟩]
            have HBJ := hide hbj
            generalize signL.getD j ByteArray.empty = sg at hcj hpj hsz1 hlt HBJ
            have hlt2 : ((bf j).size : Int) < (sg.size : Int) := by omega
            clear hsb hpv hbj
            go_wp2_with fail
            refine (hpj _).mono ?_
            rintro x w9 ⟨rfl, rfl⟩
            go_wp2_with fail
            go_roundw
            case rel =>
              have hce : ∀ i, i < 16 → (wr.setCell ⟨bt, 1, none⟩ (.string sg)).cell? ⟨g, i, none⟩ = some (.string (signL.getD i ByteArray.empty)) := by
                intro i hi
                rw [World.cell?_setCell_other _ _ _ _ (by intro e; injection e with e; exact HG.out.2.2 e.symm)]
                exact HC.out i hi
              first | (exact ⟨j + 1, by go_num, by omega, by rw [HBJ.out]; exact HT.out.setX _, hce⟩; done) | ((repeat apply Exists.intro); exact ⟨⟨j + 1, by go_num, by omega, by rw [HBJ.out]; exact HT.out.setX _, hce⟩, rfl⟩)
            case measure => simp [intOf]; omega
          · have hbj : bf (j + 1) = bf j := by rw [hsb]; unfold bestF; rw [if_neg]; rintro ⟨_, h⟩; exact hlt h
            have HBJ := hide hbj
            generalize signL.getD j ByteArray.empty = sg at hcj hpj hsz1 hlt
            have hlt2 : ¬ ((bf j).size : Int) < (sg.size : Int) := by omega
            clear hsb hpv hbj
            go_wp2_with fail
            refine (hpj _).mono ?_
            rintro x w9 ⟨rfl, rfl⟩
            go_wp2_with fail
            go_roundw
            case rel => first | (exact ⟨j + 1, by go_num, by omega, by rw [HBJ.out]; exact HT.out, HC.out⟩; done) | ((repeat apply Exists.intro); exact ⟨⟨j + 1, by go_num, by omega, by rw [HBJ.out]; exact HT.out, HC.out⟩, rfl⟩)
            case measure => simp [intOf]; omega
      · obtain rfl : j = 16 := by omega
        go_wp2_with fail
        go_meet
        exact ⟨by go_num, HT.out⟩
  case rest =>
    obtain ⟨rfl, hT⟩ := hcut
    rename World => W2
    have HF := hide hT
    clear hT
    have HRF : Hid (Ready W2) := HR.out.below HF.out.bel
    obtain ⟨_, ⟨c0, c1, c2⟩, ⟨f0, f1, f2⟩⟩ := HF.out.t
    obtain ⟨_, ⟨r0, r1, r2⟩, ⟨rf0, rf1, rf2⟩⟩ := HF.out.r
    have hne := HF.out.ne
    cases htok : tokOk 5 (bf 16)
    · go_wp2_with fail
      go_region_with (go_at_call 17; refine (implTokenOk 5 (bf 16) (a : Int) _ hx2 (by first | exact HRF.out.below ((Below.refl _ _).drew) | exact HRF.out)).mono ?_; rintro y wz ⟨rfl, hbz⟩; (first | (have HZ := hide (HF.out.drew.below hbz)) | (have HZ := hide (HF.out.below hbz))); clear hbz c0 c1 c2 f0 f1 f2 r0 r1 r2 rf0 rf1 rf2; obtain ⟨_, ⟨c0, c1, c2⟩, ⟨f0, f1, f2⟩⟩ := HZ.out.t; obtain ⟨_, ⟨r0, r1, r2⟩, ⟨rf0, rf1, rf2⟩⟩ := HZ.out.r; rw [htok])
      all_goals go_wp2_with fail
      all_goals ((try simp only [Exit.inBlock, Exit.then]); refine bodyPost_ret (by simp [results, Tryz.results36, go_sem]; go_simp; rfl) rfl ?_)
      all_goals exact ⟨TokI.chk_no htok, (by first | exact ((HZ.out.bel.setCell HZ.out.l4 _).setCell HZ.out.l4 _).setCell HZ.out.l4 _ | exact (((HZ.out.bel.setCell HZ.out.l4 _).setCell HZ.out.l4 _).setCell HZ.out.l4 _).drew)⟩
    · go_wp2_with fail
      go_region_with (go_at_call 17; refine (implTokenOk 5 (bf 16) (a : Int) _ hx2 (by first | exact HRF.out.below ((Below.refl _ _).drew) | exact HRF.out)).mono ?_; rintro y wz ⟨rfl, hbz⟩; (first | (have HZ := hide (HF.out.drew.below hbz)) | (have HZ := hide (HF.out.below hbz))); clear hbz c0 c1 c2 f0 f1 f2 r0 r1 r2 rf0 rf1 rf2; obtain ⟨_, ⟨c0, c1, c2⟩, ⟨f0, f1, f2⟩⟩ := HZ.out.t; obtain ⟨_, ⟨r0, r1, r2⟩, ⟨rf0, rf1, rf2⟩⟩ := HZ.out.r; rw [htok])
      all_goals go_wp2_with fail
      all_goals ((try simp only [Exit.inBlock, Exit.then]); refine bodyPost_ret (by simp [results, Tryz.results36, go_sem]; go_simp; rfl) rfl ?_)
      all_goals exact ⟨TokI.chk_yes htok (by omega), (by first | exact ((HZ.out.bel.setCell HZ.out.l4 _).setCell HZ.out.l4 _).setCell HZ.out.l4 _ | exact (((HZ.out.bel.setCell HZ.out.l4 _).setCell HZ.out.l4 _).setCell HZ.out.l4 _).drew)⟩
end Go.Proofs.YtfnjcgakcpadiaaGreatDoor
