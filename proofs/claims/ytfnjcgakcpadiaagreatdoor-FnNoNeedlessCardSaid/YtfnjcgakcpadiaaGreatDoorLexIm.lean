/-
  Lex, in the program.
-/
import Derived.Test.YtfnjcgakcpadiaaGreatDoorOneIC
import Derived.Test.YtfnjcgakcpadiaaGreatDoorGLexR
namespace Go.Proofs.YtfnjcgakcpadiaaGreatDoor
open Go.RowKit

set_option maxRecDepth 100000 in
set_option maxHeartbeats 3200000 in
theorem implLex (s : ByteArray) (hs : s.size ≤ 1048576) (w : World) (hR : Ready w) :
    Calls Tryz.prog 12 #[.string s] w fun e w' => LexPost w (lexS s) e w' := by
  obtain ⟨i0, hi, hz0, hz1, hz2⟩ := info_parts Tryz.infoTok
  obtain ⟨R, hRR⟩ : ∃ R, Hid (lexS s = R) := ⟨_, rfl⟩
  rw [hRR.out]
  have HR := hide hR
  clear hR
  by_cases hbig : 2000 < s.size
  · have hres : R = ([], 2000) := by rw [← hRR.out]; unfold lexS; rw [if_pos hbig]
    have HRES := hide hres
    clear hRR hres
    have hbig2 : (2000 : Int) < s.size := by omega
    go_enter Tryz.func12, Tryz.ntmps12
    go_wp2
    all_goals go_ret2
    all_goals exact LexPost.of [] HRES.out (World.ownsRow_nil _ _ _ _) (by go_grown)
  · have hres : R = lexPre [] (lexAt s.data.toList 0) := by rw [← hRR.out]; unfold lexS; rw [if_neg hbig, lexPre_nil _ (lex_shape _ _)]
    have HRES := hide hres.symm
    clear hRR hres
    have hbig2 : ¬ (2000 : Int) < s.size := by omega
    go_enter Tryz.func12, Tryz.ntmps12
    go_wp2_with fail
    go_loopw [4, 5] (fun v x wr => ∃ (a : Nat) (pre : List Tk), x = .int .i64 (a : Int) ∧ a ≤ s.size ∧ Hid (lexPre pre (lexAt s.data.toList a) = R) ∧ pre.length ≤ a ∧ wr.ownsRow w.heap.size 25 3 v pre.length (tkCells pre) ∧ Hid (Below w.heap.size w wr)) (fun _ x _ => s.size + 1 - (intOf x).toNat)
    case atStart => exact ⟨0, [], rfl, by omega, HRES.out, by simp, World.ownsRow_made _ _ _ (by simp) (by decide) (by simp), (show Below w.heap.size w _ by go_grown)⟩
    case round =>
      obtain ⟨a, pre, rfl, ha, HREL, hpl, hown, HB⟩ := hrel
      have hl := list_size s
      obtain ⟨p, ok, hpo⟩ : ∃ p ok, skipTo s.data.toList a = (p, ok) := ⟨_, _, rfl⟩
      have hpb := skipTo_le s.data.toList _ a rfl (by omega)
      rw [hpo] at hpb
      have hp1 : p ≤ s.size := by have := hpb.1; simp only at this; omega
      have hp2 : a ≤ p := hpb.2
      have HPO := hide hpo
      have HL := hide hl
      have HOWN := hide hown
      clear hpo hpb hl hown
      go_wp2_with fail
      obtain ⟨m, hm⟩ := (HR.out.below HB.out).max
      refine (implSkip s a ha (by omega) m wr hm).mono ?_
      rintro z w9 ⟨rfl, rfl⟩
      clear hm
      rw [HPO.out]
      cases ok
      · have HK := hide ((congrArg (lexPre pre) (lex_bad HPO.out)).trans (lexPre_no pre p))
        have HBw := hide HB.out
        go_wp2_with fail
        all_goals go_ret2
        all_goals exact LexPost.of [] (HREL.out.symm.trans HK.out) (World.ownsRow_nil _ _ _ _) HBw.out
      · by_cases hpe : p = s.size
        · subst hpe
          have HK := hide ((congrArg (lexPre pre) (lex_end HPO.out (by have := HL.out; omega))).trans (lexPre_end pre))
          go_wp2_with fail
          all_goals go_ret2
          all_goals exact LexPost.of pre (HREL.out.symm.trans HK.out) HOWN.out HB.out
        · have hp3 : p < s.size := by omega
          have hp4 : ((p : Int) == (s.size : Int)) = false := by simp; omega
          have hp5 : ¬ (s.size : Int) ≤ (p : Int) := by omega
          clear hpe
          go_wp2_with fail
          refine (implOne s p hp3 (by omega) _ (HR.out.below HB.out)).mono ?_
          rintro z w2 ⟨hz, hb2⟩
          have hown2 := owns_below HOWN.out hb2
          have HB2 := hide (below_via HB.out hb2)
          cases ht : tokR (s.data.toList.drop p) with
          | none =>
            rw [ht] at hz
            obtain ⟨K, X, A, E, rfl⟩ := hz
            have HK := hide ((congrArg (lexPre pre) (lex_no HPO.out (by have := HL.out; omega) ht)).trans (lexPre_no pre p))
            have HSZ := hide HB2.out.size
            clear ht hown2 hb2
            go_wp2_with fail
            all_goals go_ret2
            all_goals exact LexPost.of [] (HREL.out.symm.trans HK.out) (World.ownsRow_nil _ _ _ _) (HB2.out.alloc HSZ.out _)
          | some t =>
            obtain ⟨k, x, m⟩ := t
            have hm := tok_pos ht
            rw [ht] at hz
            have hz2 : z = .returned (.tuple #[.agg #[.int .i64 k, .string x, .int .i64 (p : Int)], .int .i64 ((p : Int) + m), .bool true]) := hz
            subst hz2
            have hm1 : 1 ≤ m := hm.1
            have hm2 : p + m ≤ s.size := by have h3 : m ≤ (s.data.toList.drop p).length := hm.2; have h4 := HL.out; rw [List.length_drop] at h3; omega
            have HK := hide ((congrArg (lexPre pre) (lex_tok HPO.out (by have := HL.out; omega) ht hm1)).trans (lexPre_pre pre _ _))
            have hsz2 := HB2.out.size
            clear ht hb2 hm hz
            go_wp2_with (first | (at_builtin; refine wpList_append_own _ rfl _ _ 30 rfl w.heap.size 25 i0 (.agg #[.int .i64 0, .string ⟨#[]⟩, .int .i64 0]) 3 32 Tryz.underlying30 hi hz0 hz1 hz2 rfl (by decide) _ _ _ rfl ((hown2.alloc _).alloc _) ⟨w2.heap.size + 1, 0, none⟩ 1 1 [.int .i64 k, .string x, .int .i64 (p : Int)] rfl rfl ?c1 ?c2 ?c3 ?c4 ?c5 ?_))
            case c1 =>
              intro j u hj
              match j, hj with
              | 0, hj => simp at hj; subst hj; simp [Addr.add, go_sem]
              | 1, hj => simp at hj; subst hj; simp [Addr.add, go_sem]
              | 2, hj => simp at hj; subst hj; simp [Addr.add, go_sem]
            case c2 => intro u hu; simp at hu; rcases hu with rfl | rfl | rfl <;> rfl
            case c3 => unfold maxLen; omega
            case c4 => omega
            case c5 => simp; omega
            · intro v3 w3 hown3 hgrow3 hnil3
              have hb3 := Below.grown ((HB2.out.alloc hsz2 _).alloc (by simp; omega) _) hgrow3 (by simp; omega) (fun k hk => (hown2.lt k hk).1)
              have HB3 := hide (And.intro hb3 hown3)
              clear hown2 hgrow3 hown3 hb3 hnil3
              go_wp2
              go_roundw
              case rel =>
                refine ⟨p + m, pre ++ [(k, x, p)], by go_num, by omega, by show _ = _; rw [← HK.out]; exact HREL.out, by simp; omega, ?_, HB3.out.1⟩
                have e9 : tkCells [(k, x, p)] = [.int .i64 k, .string x, .int .i64 (p : Int)] := rfl
                rw [tkCells_app, e9]
                simpa using HB3.out.2
              case measure => simp [intOf]; omega
end Go.Proofs.YtfnjcgakcpadiaaGreatDoor
