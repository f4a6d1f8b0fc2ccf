/-
  l6Typed: a value drawn of a kind.
-/
import Derived.Test.YtnamikhhbedpeaaDrOrd
namespace Go.Proofs.Ytnamikhhbedpeaa
open Go.RowKit Go.Lib

def typedT (j : Nat) : ByteArray := if j = 0 then ⟨#[]⟩ else if j = 1 then ⟨#[97]⟩ else if j = 2 then ⟨#[98]⟩ else ⟨#[97, 98]⟩
theorem typedT_size (j : Nat) : (typedT j).size ≤ 4 := by unfold typedT; split; decide; split; decide; split <;> decide

set_option maxRecDepth 100000 in
set_option maxHeartbeats 1600000 in
theorem l6TypedC {B p : Nat} {w : World} (h : Cur B w p) (kd : Int) : Calls Try.prog 78 #[.pointer (some ⟨p, 0, none⟩), .int .i64 kd] w fun e w' => ∃ (k n : Int) (s : ByteArray), e = .returned (.agg #[.int .i64 k, .int .i64 n, .string s]) ∧ In n ∧ s.size ≤ 4 ∧ Dr B p w w' := by
  have hp := h.lt
  go_enter Try.func78, Try.ntmps78
  go_wp2_with fail
  refine (l1OnceC (h.alloc' _) _).mono ?_
  rintro e w1 ⟨b, rfl, hc1, hg1⟩
  have hr := (C3.made w _ _ _ _).grown hg1 (by omega)
  obtain ⟨rb, hrb⟩ : ∃ rb, Hid (rb = w.heap.size) := ⟨_, rfl⟩
  have hrp : p < rb := by rw [hrb.out]; exact hp
  rw [← hrb.out] at hr ⊢
  have hrw := hrb.out.symm
  have H1 := hide (And.intro (((Dr.refl h).alloc _).step hc1 hg1) hr)
  clear hc1 hg1 hr
  cases b
  · by_cases hk2 : kd = 2
    · subst hk2
      go_wp2_with fail
      refine (l1PickC (f := typedT) (n := 4) (H1.out.1.cur.alloc' _) (by omega) (by omega) (by have := H1.out.1.lt; omega) ?_).mono ?_
      · intro j hj
        match j, hj with
        | 0, _ => simp [go_sem]; rfl
        | 1, _ => simp [go_sem]; rfl
        | 2, _ => simp [go_sem]; rfl
        | 3, _ => simp [go_sem]; rfl
      rintro e w2 ⟨j, hj, rfl, hc2, hg2⟩
      have H2 := hide (And.intro ((H1.out.1.alloc _).step hc2 hg2) ((H1.out.2.alloc _).grown hg2 (by omega)))
      clear hc2 hg2
      have hj4 := typedT_size j
      go_wp2_with fail
      refine (specText _ _).mono ?_
      rintro e w3 ⟨rfl, hb⟩
      have H3 := hide (H2.out.1.below hb)
      obtain ⟨rs, ⟨r0, r1, r2⟩, ⟨rf0, rf1, rf2⟩⟩ := H2.out.2.below hb
      clear hb
      go_wp2_with fail
      ((try simp only [Exit.inBlock, Exit.then]); refine bodyPost_ret (by simp [results, Try.results78, go_sem]; go_simp; rfl) rfl ?_)
      exact ⟨_, _, _, rfl, by unfold In; omega, hj4, H3.out.set3 hp (Nat.le_of_eq hrw) _ _ _⟩
    · by_cases hk3 : kd = 3
      · subst hk3
        go_wp2_with fail
        refine (l1OnceC H1.out.1.cur _).mono ?_
        rintro e w2 ⟨b, rfl, hc2, hg2⟩
        have H2 := hide (And.intro (H1.out.1.step hc2 hg2) (H1.out.2.grown hg2 (by omega)))
        clear hc2 hg2
        go_wp2_with fail
        refine (specBool _ _).mono ?_
        rintro e w3 ⟨rfl, hb⟩
        have H3 := hide (H2.out.1.below hb)
        obtain ⟨rs, ⟨r0, r1, r2⟩, ⟨rf0, rf1, rf2⟩⟩ := H2.out.2.below hb
        clear hb
        cases b
        all_goals
          go_wp2_with fail
          ((try simp only [Exit.inBlock, Exit.then]); refine bodyPost_ret (by simp [results, Try.results78, go_sem]; go_simp; rfl) rfl ?_)
          exact ⟨_, _, _, rfl, by unfold In; omega, by decide, H3.out.set3 hp (Nat.le_of_eq hrw) _ _ _⟩
      · go_wp2_with fail
        refine (l1WholeC H1.out.1.cur).mono ?_
        rintro e w2 ⟨y, rfl, y0, y1, hc2, hg2⟩
        have H2 := hide (And.intro (H1.out.1.step hc2 hg2) (H1.out.2.grown hg2 (by omega)))
        clear hc2 hg2
        go_wp2_with fail
        refine (specInt _ _).mono ?_
        rintro e w3 ⟨rfl, hb⟩
        have H3 := hide (H2.out.1.below hb)
        obtain ⟨rs, ⟨r0, r1, r2⟩, ⟨rf0, rf1, rf2⟩⟩ := H2.out.2.below hb
        clear hb
        go_wp2_with fail
        ((try simp only [Exit.inBlock, Exit.then]); refine bodyPost_ret (by simp [results, Try.results78, go_sem]; go_simp; rfl) rfl ?_)
        exact ⟨_, _, _, rfl, ⟨y0, y1⟩, by decide, H3.out.set3 hp (Nat.le_of_eq hrw) _ _ _⟩
  · obtain ⟨rs, ⟨r0, r1, r2⟩, ⟨rf0, rf1, rf2⟩⟩ := H1.out.2
    go_wp2_with fail
    ((try simp only [Exit.inBlock, Exit.then]); refine bodyPost_ret (by simp [results, Try.results78, go_sem]; go_simp; rfl) rfl ?_)
    exact ⟨_, _, _, rfl, by unfold In; omega, by decide, H1.out.1.set3 hp (Nat.le_of_eq hrw) _ _ _⟩

end Go.Proofs.Ytnamikhhbedpeaa
