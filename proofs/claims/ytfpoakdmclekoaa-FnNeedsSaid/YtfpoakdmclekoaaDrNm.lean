/-
  Names and words drawn (the seat's own copy of a part of DrW).
-/
import Derived.WalkKit
import Derived.WalkLawsBesides
import Derived.WalkSpells
import Derived.Handy
import Derived.Test.YtfpoakdmclekoaaM1
import Derived.Test.YtfpoakdmclekoaaB
import Derived.Test.YtfpoakdmclekoaaDrBent
namespace Go.Proofs.Ytfpoakdmclekoaa
open Go.RowKit

def kwL : List ByteArray := [⟨#[]⟩, ⟨#[83, 69, 76, 69, 67, 84]⟩, ⟨#[68, 73, 83, 84, 73, 78, 67, 84]⟩, ⟨#[70, 82, 79, 77]⟩, ⟨#[74, 79, 73, 78]⟩, ⟨#[79, 78]⟩, ⟨#[87, 72, 69, 82, 69]⟩, ⟨#[79, 82, 68, 69, 82]⟩, ⟨#[66, 89]⟩, ⟨#[65, 83, 67]⟩, ⟨#[68, 69, 83, 67]⟩, ⟨#[76, 73, 77, 73, 84]⟩, ⟨#[65, 83]⟩, ⟨#[65, 78, 68]⟩, ⟨#[79, 82]⟩, ⟨#[78, 79, 84]⟩, ⟨#[73, 83]⟩, ⟨#[73, 78]⟩, ⟨#[66, 69, 84, 87, 69, 69, 78]⟩, ⟨#[69, 88, 73, 83, 84, 83]⟩, ⟨#[78, 85, 76, 76]⟩, ⟨#[84, 82, 85, 69]⟩, ⟨#[70, 65, 76, 83, 69]⟩, ⟨#[73, 78, 83, 69, 82, 84]⟩, ⟨#[73, 78, 84, 79]⟩, ⟨#[86, 65, 76, 85, 69, 83]⟩, ⟨#[85, 80, 68, 65, 84, 69]⟩, ⟨#[83, 69, 84]⟩, ⟨#[68, 69, 76, 69, 84, 69]⟩]
def kw (k : Nat) : ByteArray := kwL.getD k ByteArray.empty
set_option maxRecDepth 100000 in
theorem specWords (w : World) :
    Calls Try.prog 102 #[] w fun e w' => e = .returned (.slice (some ⟨w.heap.size, 0, none⟩) 29 29) ∧ w' = w.alloc (.cells (kwL.map Value.string).toArray 9) := by
  go_enter Try.func102, Try.ntmps102
  go_wp2_with fail
  go_ret
  exact ⟨rfl, rfl⟩

theorem kw_cellS (w : World) (t : TypeId) (j : Nat) (hj : j < 29) : (w.alloc (.cells (kwL.map Value.string).toArray t)).cell? ⟨w.heap.size, j, none⟩ = some (.string (kw j)) := by
  have h : (kwL.map Value.string).toArray[j]? = some (.string (kw j)) := by
    have hl : j < kwL.length := by show j < 29; omega
    have e : kwL[j]? = some (kw j) := by
      unfold kw
      rw [List.getD, List.getElem?_eq_getElem hl]
      rfl
    simp [e]
  have hh : (w.alloc (.cells (kwL.map Value.string).toArray t)).heap[w.heap.size]? = some (.cells (kwL.map Value.string).toArray t) := by
    show (w.heap.push _)[w.heap.size]? = _
    simp
  unfold World.cell?
  rw [hh]
  exact h
theorem kw_size : ∀ k, k < 29 → (kw k).size ≤ 8 := by decide +kernel
theorem Try.infoU8 : (Try.prog.info? 5).map (fun i => (i.zero, i.size, i.bytes)) = some (some (.int .u8 0), 1, 1) := by kernel_rfl
theorem grown_fresh {w a b : World} {p : Nat} {row : Option Nat} (h : w.grownBy a (some p)) (hg : a.grownBy b row) (hr : ∀ k, row = some k → w.heap.size ≤ k) : w.grownBy b (some p) :=
  ⟨hg.os.trans h.os, hg.tape.trans h.tape, hg.output.trans h.output, Nat.le_trans h.size hg.size, fun k hk hne => (hg.block k (Nat.lt_of_lt_of_le hk h.size) (fun e => by have := hr k e.symm; omega)).trans (h.block k hk hne)⟩

theorem cur_append {B p : Nat} {a b : World} {row : Option Nat} (h : Cur B a p) (hg : a.grownBy b row) (hr : ∀ k, row = some k → B ≤ k ∧ p ≠ k) : Cur B b p := by
  cases row with
  | none => exact h.below ⟨hg.os, hg.tape, hg.output, hg.size, fun k hk => hg.block k hk (by simp)⟩
  | some g => exact h.other hg (hr g rfl).1 (hr g rfl).2

def n1L : List ByteArray := [⟨#[97, 32, 98]⟩, ⟨#[102, 114, 111, 109]⟩, ⟨#[83, 101, 108, 101, 99, 116]⟩, ⟨#[49, 120]⟩, ⟨#[113, 34, 113]⟩, ⟨#[0]⟩, ⟨#[34]⟩, ⟨#[105, 116, 39, 115]⟩, ⟨#[120, 46, 121]⟩, ⟨#[45]⟩]
theorem n1L_size : ∀ j, j < 10 → (n1L.getD j ⟨#[]⟩).size ≤ 6 := by decide
def n2L : List ByteArray := [⟨#[97]⟩, ⟨#[98]⟩, ⟨#[99]⟩, ⟨#[116]⟩, ⟨#[117]⟩, ⟨#[118]⟩, ⟨#[105, 100]⟩, ⟨#[110, 97, 109, 101]⟩, ⟨#[65]⟩, ⟨#[95, 120, 49]⟩]
theorem n2L_size : ∀ j, j < 10 → (n2L.getD j ⟨#[]⟩).size ≤ 4 := by decide
def anyL : List ByteArray := [⟨#[]⟩, ⟨#[97, 98, 99, 100, 101, 102, 103, 104, 105, 106, 107, 108, 109, 110, 111, 112, 113, 114, 115, 116]⟩, ⟨#[97, 98, 99, 100, 101, 102, 103, 104, 105, 106, 107, 108, 109, 110, 111, 112, 113, 114, 115, 116, 117]⟩, ⟨#[108, 105, 109, 105, 116]⟩, ⟨#[76, 73, 77, 73, 84, 83]⟩, ⟨#[65, 83, 99]⟩, ⟨#[57]⟩, ⟨#[97, 57]⟩, ⟨#[195, 169]⟩]
theorem anyL_size : ∀ j, j < 9 → (anyL.getD j ⟨#[]⟩).size ≤ 21 := by decide

set_option maxRecDepth 100000 in
set_option maxHeartbeats 1600000 in
theorem l2NameC {B p : Nat} {w : World} (h : Cur B w p) : Calls Try.prog 99 #[.pointer (some ⟨p, 0, none⟩)] w fun e w' => ∃ s : ByteArray, e = .returned (.string s) ∧ s.size ≤ 6 ∧ Dr B p w w' := by
  have hp := h.lt
  go_enter Try.func99, Try.ntmps99
  go_wp2_with fail
  refine (l1OnceC h _).mono ?_
  rintro e w1 ⟨b, rfl, hc1, hg1⟩
  have H1 := hide ((Dr.refl h).step hc1 hg1)
  clear hc1 hg1
  cases b
  · go_wp2_with fail
    refine (l1PickC (f := fun j => n2L.getD j ⟨#[]⟩) (n := 10) (H1.out.cur.alloc' _) (by omega) (by omega) (by have := H1.out.lt; omega) ?_).mono ?_
    · intro j hj
      match j, hj with
      | 0, _ => simp [go_sem]; rfl
      | 1, _ => simp [go_sem]; rfl
      | 2, _ => simp [go_sem]; rfl
      | 3, _ => simp [go_sem]; rfl
      | 4, _ => simp [go_sem]; rfl
      | 5, _ => simp [go_sem]; rfl
      | 6, _ => simp [go_sem]; rfl
      | 7, _ => simp [go_sem]; rfl
      | 8, _ => simp [go_sem]; rfl
      | 9, _ => simp [go_sem]; rfl
    rintro e w9 ⟨j, hj, rfl, hc9, hg9⟩
    have hsz := n2L_size j hj
    generalize n2L.getD j ⟨#[]⟩ = s at hsz ⊢
    have H2 := hide ((H1.out.alloc _).step hc9 hg9)
    clear hc9 hg9
    go_wp2_with fail
    all_goals go_ret
    all_goals exact ⟨s, rfl, by omega, H2.out⟩
  · go_wp2_with fail
    refine (l1PickC (f := fun j => n1L.getD j ⟨#[]⟩) (n := 10) (H1.out.cur.alloc' _) (by omega) (by omega) (by have := H1.out.lt; omega) ?_).mono ?_
    · intro j hj
      match j, hj with
      | 0, _ => simp [go_sem]; rfl
      | 1, _ => simp [go_sem]; rfl
      | 2, _ => simp [go_sem]; rfl
      | 3, _ => simp [go_sem]; rfl
      | 4, _ => simp [go_sem]; rfl
      | 5, _ => simp [go_sem]; rfl
      | 6, _ => simp [go_sem]; rfl
      | 7, _ => simp [go_sem]; rfl
      | 8, _ => simp [go_sem]; rfl
      | 9, _ => simp [go_sem]; rfl
    rintro e w9 ⟨j, hj, rfl, hc9, hg9⟩
    have hsz := n1L_size j hj
    generalize n1L.getD j ⟨#[]⟩ = s at hsz ⊢
    have H2 := hide ((H1.out.alloc _).step hc9 hg9)
    clear hc9 hg9
    go_wp2_with fail
    all_goals go_ret
    all_goals exact ⟨s, rfl, by omega, H2.out⟩

/-- What l1Bytes hands back. -/
def BytesPost (B p n : Nat) (w : World) (e : Ending) (w' : World) : Prop := ∃ (g cap : Nat) (l : List UInt8), e = .returned (.slice (some ⟨g, 0, none⟩) n cap) ∧ l.length = n ∧ BytesAt w' g l ∧ w.heap.size ≤ g ∧ Dr B p w w'

set_option maxRecDepth 100000 in
set_option maxHeartbeats 1600000 in
theorem l1BytesC {B p : Nat} {w : World} (h : Cur B w p) (n : Nat) (hn : n ≤ 1048576) : Calls Try.prog 103 #[.pointer (some ⟨p, 0, none⟩), .int .i64 (n : Int)] w fun e w' => BytesPost B p n w e w' := by
  have hp := h.lt
  obtain ⟨i0, hi, hz0, hz1, hz2⟩ := info_parts Try.infoU8
  have H := hide h
  clear h
  go_enter Try.func103, Try.ntmps103
  go_wp2_with fail
  go_loopw [5, 6] (fun v x wr => ∃ (i : Nat) (l : List UInt8), x = .int .i64 (i : Int) ∧ i ≤ n ∧ l.length = i ∧ wr.ownsRow w.heap.size 5 1 v l.length (l.map fun c => .int .u8 (c.toNat : Int)) ∧ v ≠ .slice none 0 0 ∧ Hid (Dr B p w wr)) (fun _ x _ => n - (intOf x).toNat)
  case atStart => exact ⟨0, [], rfl, by omega, rfl, World.ownsRow_made _ _ _ (Nat.le_refl _) (by decide) (by simp), by simp, (show Dr B p w _ from (Dr.refl H.out).alloc _)⟩
  case round =>
    obtain ⟨i, l, rfl, hin, hl, hown, hnn, HD⟩ := hrel
    by_cases hlt : i < n
    · have hlt2 : (i : Int) < n := by omega
      have HO := hide (And.intro hown hnn)
      clear hown hnn
      go_wp2_with fail
      refine (l1ByteC HD.out.cur).mono ?_
      rintro e w1 ⟨x, rfl, x0, x1, hc1, hg1⟩
      have hown : w1.ownsRow w.heap.size 5 1 _ l.length (l.map fun c => .int .u8 (c.toNat : Int)) := HO.out.1.kept hg1 (.inr (by
        intro e
        have h3 := HO.out.1.lt p e
        omega))
      have HD1 := hide (HD.out.step hc1 hg1)
      have hsz := HD1.out.grown.size
      obtain ⟨c, hc⟩ : ∃ c : UInt8, (c.toNat : Int) = x := ⟨UInt8.ofNat x.toNat, by rw [UInt8.toNat_ofNat']; omega⟩
      have HC := hide hc
      clear hc hc1 hg1
      go_wp2_with (first | (at_builtin; refine wpList_append_own _ rfl _ _ 67 rfl w.heap.size 5 i0 (.int .u8 0) 1 1 Try.underlying67 hi hz0 hz1 hz2 rfl (by decide) _ _ _ rfl (hown.alloc _) ⟨w1.heap.size, 0, none⟩ 1 1 [.int .u8 x] rfl rfl ?c1 ?c2 ?c3 ?c4 ?c5 ?_))
      case c1 =>
        intro j u hj
        match j, hj with
        | 0, hj => simp at hj; subst hj; simp [Addr.add, go_sem]
      case c2 => intro u hu; simp at hu; subst hu; rfl
      case c3 => unfold maxLen; omega
      case c4 => omega
      case c5 => simp; omega
      · intro v1 w2 hown1 hgrow1 hnil1
        have hlow := fun k hk => (hown.lt k hk).1
        have hcur2 : Cur B w2 p := cur_append (HD1.out.alloc _).cur hgrow1 (fun k hk => by have := hlow k hk; have := H.out.low; omega)
        have HB := hide (And.intro (Dr.mk hcur2 (grown_fresh (HD1.out.alloc _).grown hgrow1 hlow)) (And.intro hown1 hnil1))
        clear hown hgrow1 hown1 hnil1 hlow hcur2
        go_wp2
        go_roundw
        case rel =>
          refine ⟨i + 1, l ++ [c], by go_num, by omega, by simp; omega, ?_, ?_, HB.out.1⟩
          · have h2 := HB.out.2.1
            rw [← HC.out] at h2
            simpa [hl] using h2
          · have h1 := HB.out.2.2
            have h2 := HO.out.2
            simp_all
        case measure => simp [intOf]; omega
    · have hlt2 : ¬ (i : Int) < n := by omega
      obtain ⟨g, cap, rfl, hg1, hg2, hg3⟩ := owns_form hown hnn
      have hat := BytesAt.of_owns hown
      obtain rfl : i = n := by omega
      have HB := hide (And.intro hat hg1)
      clear hown hat hnn
      go_wp2_with fail
      all_goals go_ret
      all_goals exact ⟨g, cap, l, rfl, hl, HB.out.1, HB.out.2, HD.out⟩

set_option maxRecDepth 100000 in
set_option maxHeartbeats 1600000 in
theorem l2AnyC {B p : Nat} {w : World} (h : Cur B w p) : Calls Try.prog 97 #[.pointer (some ⟨p, 0, none⟩)] w fun e w' => ∃ s : ByteArray, e = .returned (.string s) ∧ s.size ≤ 21 ∧ Dr B p w w' := by
  have hp := h.lt
  go_enter Try.func97, Try.ntmps97
  go_wp2_with fail
  refine (l1BelowC h 6).mono ?_
  rintro e w1 ⟨x, rfl, x0, x1, hc1, hg1⟩
  clear x1
  have H1 := hide ((Dr.refl h).step hc1 hg1)
  clear hc1 hg1
  have hx : x = 0 ∨ x = 1 ∨ x = 2 ∨ (x ≠ 0 ∧ x ≠ 1 ∧ x ≠ 2) := by omega
  rcases hx with rfl | rfl | rfl | ⟨n0, n1, n2⟩
  · go_wp2_with fail
    refine (l1PickC (f := fun j => anyL.getD j ⟨#[]⟩) (n := 9) (H1.out.cur.alloc' _) (by omega) (by omega) (by have := H1.out.lt; omega) ?_).mono ?_
    · intro j hj
      match j, hj with
      | 0, _ => simp [go_sem]; rfl
      | 1, _ => simp [go_sem]; rfl
      | 2, _ => simp [go_sem]; rfl
      | 3, _ => simp [go_sem]; rfl
      | 4, _ => simp [go_sem]; rfl
      | 5, _ => simp [go_sem]; rfl
      | 6, _ => simp [go_sem]; rfl
      | 7, _ => simp [go_sem]; rfl
      | 8, _ => simp [go_sem]; rfl
    rintro e w9 ⟨j, hj, rfl, hc9, hg9⟩
    have hsz := anyL_size j hj
    generalize anyL.getD j ⟨#[]⟩ = s at hsz ⊢
    have H2 := hide ((H1.out.alloc _).step hc9 hg9)
    clear hc9 hg9
    go_wp2_with fail
    all_goals go_ret
    all_goals exact ⟨s, rfl, by omega, H2.out⟩
  · go_wp2_with fail
    refine (specWords w1).mono ?_
    rintro e w2 ⟨rfl, rfl⟩
    have hck := fun j hj => kw_cellS w1 9 j hj
    have H2 := hide (H1.out.alloc (.cells (kwL.map Value.string).toArray 9))
    generalize hW : w1.alloc (.cells (kwL.map Value.string).toArray 9) = W2 at hck H2 ⊢
    have HCK := hide hck
    clear hck hW
    go_wp2_with fail
    refine (l1BelowC H2.out.cur 29).mono ?_
    rintro e w3 ⟨y, rfl, y0, y1, hc3, hg3⟩
    have y2 := y1 (by omega)
    clear y1
    obtain ⟨j, rfl⟩ : ∃ j : Nat, y = (j : Int) := ⟨y.toNat, by omega⟩
    have hcj := hg3.cell (HCK.out j (by omega)) (by intro e; injection e with e; have e2 : w1.heap.size = p := e; have := H1.out.lt; omega)
    have hks := kw_size j (by omega)
    have H3 := hide (H2.out.step hc3 hg3)
    clear hc3 hg3
    generalize kw j = s at hcj hks
    go_wp2_with fail
    all_goals go_ret
    all_goals exact ⟨s, rfl, by omega, H3.out⟩
  · go_wp2_with fail
    refine (l1BelowC H1.out.cur 5).mono ?_
    rintro e w2 ⟨y, rfl, y0, y1, hc2, hg2⟩
    have y2 := y1 (by omega)
    clear y1
    obtain ⟨n, rfl⟩ : ∃ n : Nat, y = (n : Int) := ⟨y.toNat, by omega⟩
    have H2 := hide (H1.out.step hc2 hg2)
    clear hc2 hg2
    go_wp2_with fail
    refine (l1BytesC H2.out.cur n (by omega)).mono ?_
    rintro e w3 ⟨g, cap, l, rfl, hl, hat, _, hd⟩
    have H3 := hide (H2.out.trans hd)
    have hcs := hat.string (P := Try.prog) 67 5 9 Try.underlying67 Try.underlying5 Try.underlying9 n cap hl.symm
    have HL := hide hl
    clear hat hd hl
    go_wp2_with fail
    all_goals go_ret
    all_goals exact ⟨_, rfl, by have := HL.out; simp [ByteArray.size]; omega, H3.out⟩
  · have g0 : (x == 0) = false := by simpa using n0
    have g1 : (x == 1) = false := by simpa using n1
    have g2 : (x == 2) = false := by simpa using n2
    clear n0 n1 n2
    go_wp2_with fail
    refine (l2NameC H1.out.cur).mono ?_
    rintro e w2 ⟨s, rfl, hs, hd⟩
    have H2 := hide (H1.out.trans hd)
    clear hd
    go_wp2_with fail
    all_goals go_ret
    all_goals exact ⟨s, rfl, by omega, H2.out⟩
end Go.Proofs.Ytfpoakdmclekoaa
