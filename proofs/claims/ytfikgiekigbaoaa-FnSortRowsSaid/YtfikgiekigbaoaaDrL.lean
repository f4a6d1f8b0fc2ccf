/-
  l5List: a row of drawn values.
-/
import Derived.Test.YtfikgiekigbaoaaDrV
import Derived.Test.YtfikgiekigbaoaaCln
namespace Go.Proofs.Ytfikgiekigbaoaa
open Go Go.RowKit

theorem Dr.own {B p : Nat} {w a b : World} (h : Dr B p w a) (hp : p < w.heap.size) {row : Option Nat} (hr : ∀ k, row = some k → w.heap.size ≤ k) (hg : a.grownBy b row) : Dr B p w b := by
  cases row with
  | none => exact h.below ⟨hg.os, hg.tape, hg.output, hg.size, fun k hk => hg.block k hk (by simp)⟩
  | some g =>
    have hgw := hr g rfl
    refine ⟨h.cur.other hg (by have := h.cur.low; omega) (by omega), hg.os.trans h.grown.os, hg.tape.trans h.grown.tape, hg.output.trans h.grown.output, Nat.le_trans h.grown.size hg.size, fun k hk hne => ?_⟩
    rw [hg.block k (Nat.lt_of_lt_of_le hk h.grown.size) (by intro e; injection e with e; omega)]
    exact h.grown.block k hk hne

set_option maxRecDepth 100000 in
set_option maxHeartbeats 1600000 in
theorem l5ListC {B p : Nat} {w : World} (h : Cur B w p) (m : Nat) (hm : m ≤ 20) : Calls Try.prog 44 #[.pointer (some ⟨p, 0, none⟩), .int .i64 (m : Int)] w fun e w' => ∃ v, e = .returned v ∧ ∃ xs : List ValF, xs.length = m ∧ (∀ x ∈ xs, x.text.size ≤ 4) ∧ w'.ownsRow w.heap.size 57 3 v m (cellsOf xs) ∧ Dr B p w w' := by
  have hp := h.lt
  have H := hide h
  clear h
  obtain ⟨i0, hi, hz0, hz1, hz2⟩ := info_parts Try.infoVa
  go_enter Try.func44, Try.ntmps44
  go_wp2_with fail
  go_loopw [5, 6] (fun x y wr => ∃ j : Nat, y = .int .i64 (j : Int) ∧ j ≤ m ∧ Hid (∃ xs : List ValF, xs.length = j ∧ (∀ x ∈ xs, x.text.size ≤ 4) ∧ wr.ownsRow w.heap.size 57 3 x j (cellsOf xs) ∧ Dr B p w wr)) (fun _ y _ => m - (intOf y).toNat)
  case atStart => exact ⟨0, rfl, by omega, [], rfl, (fun x hx => by cases hx), World.ownsRow_made w #[] 0 (Nat.le_refl _) (by decide) rfl, (Dr.refl H.out).alloc _⟩
  case round =>
    obtain ⟨j, rfl, hj, HP⟩ := hrel
    by_cases hlt : j < m
    · have hlt2 : (j : Int) < m := by omega
      obtain ⟨xs, hxs, htx, hown, hdr⟩ := HP.out
      have HC := hide (l5RightC hdr.cur)
      have HX := hide (And.intro hxs (And.intro htx (And.intro hown hdr)))
      clear hxs htx hown hdr HP
      go_wp2_with fail
      refine HC.out.mono ?_
      rintro e w2 ⟨k, n, s, rfl, _, _, _, _, hs, hd2⟩
      have hown0 := HX.out.2.2.1
      have hown2 := hown0.kept hd2.grown (by
        cases hv : Value.ownBlock u5 with
        | none => exact .inl rfl
        | some g => exact .inr (fun e => by have := (hown0.lt g hv).1; injection e with e; omega))
      have hsz := HX.out.2.2.2.grown.size
      have hsz2 := hd2.grown.size
      have HD := hide (And.intro hs (HX.out.2.2.2.trans hd2))
      clear hown0 hs hd2 HC
      go_wp2_with (first | (at_builtin; refine wpList_append_own _ rfl _ _ 31 rfl w.heap.size 57 i0 (.agg #[.int .i64 0, .int .i64 0, .string ⟨#[]⟩]) 3 32 Try.underlying31 hi hz0 hz1 hz2 rfl (by decide) _ _ _ rfl (hown2.alloc _) ⟨w2.heap.size, 0, none⟩ 1 1 [.int .i64 k, .int .i64 n, .string s] rfl rfl ?c1 ?c2 ?c3 ?c4 ?c5 ?_))
      case c1 =>
        intro j u hj
        match j, hj with
        | 0, hj => simp at hj; subst hj; simp [Addr.add, go_sem]
        | 1, hj => simp at hj; subst hj; simp [Addr.add, go_sem]
        | 2, hj => simp at hj; subst hj; simp [Addr.add, go_sem]
      case c2 => intro u hu; simp at hu; rcases hu with rfl | rfl | rfl <;> rfl
      case c3 => unfold maxLen; omega
      case c4 => omega
      case c5 => simp; omega
      · intro v3 w3 hown3 hgrow3 hnil3
        have hd3 := (HD.out.2.alloc _).own hp (fun k hk => (hown2.lt k hk).1) hgrow3
        have HF := hide (show ∃ ys : List ValF, ys.length = j + 1 ∧ (∀ x ∈ ys, x.text.size ≤ 4) ∧ w3.ownsRow w.heap.size 57 3 v3 (j + 1) (cellsOf ys) ∧ Dr B p w w3 from
          ⟨xs ++ [⟨k, n, s⟩], by simp [HX.out.1], (fun x hx => by
            rcases List.mem_append.1 hx with h | h
            · exact HX.out.2.1 x h
            · simp at h; subst h; exact HD.out.1), by simpa [cellsOf, flatV] using hown3, hd3⟩)
        clear hown3 hgrow3 hnil3 hown2 HX HD hd3
        go_wp2_with fail
        go_roundw
        case rel => exact ⟨j + 1, by go_num, by omega, HF.out⟩
        case measure => simp [intOf]; omega
    · have hlt2 : ¬ (j : Int) < m := by omega
      have hjm : j = m := by omega
      go_wp2_with fail
      go_ret
      subst hjm
      exact ⟨_, rfl, HP.out⟩
end Go.Proofs.Ytfikgiekigbaoaa
