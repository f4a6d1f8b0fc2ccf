/-
  Words, names and tokens drawn: how long they can be.
-/
import Derived.Test.YtfnjcgakcpadiaaGreatDoorGBase
import Derived.Test.YtfnjcgakcpadiaaGreatDoorWFnExactKeyText
import Derived.Test.YtfnjcgakcpadiaaGreatDoorGQuo
import Derived.Test.YtfnjcgakcpadiaaGreatDoorKeyO
namespace Go.Proofs.YtfnjcgakcpadiaaGreatDoor
open Go.RowKit

theorem grown_fresh {w a b : World} {p : Nat} {row : Option Nat} (h : w.grownBy a (some p)) (hg : a.grownBy b row) (hr : ∀ k, row = some k → w.heap.size ≤ k) : w.grownBy b (some p) :=
  ⟨hg.os.trans h.os, hg.tape.trans h.tape, hg.output.trans h.output, Nat.le_trans h.size hg.size, fun k hk hne => (hg.block k (Nat.lt_of_lt_of_le hk h.size) (fun e => by have := hr k e.symm; omega)).trans (h.block k hk hne)⟩

theorem cur_append {B p : Nat} {a b : World} {row : Option Nat} (h : Cur B a p) (hg : a.grownBy b row) (hr : ∀ k, row = some k → B ≤ k ∧ p ≠ k) : Cur B b p := by
  cases row with
  | none => exact h.below ⟨hg.os, hg.tape, hg.output, hg.size, fun k hk => hg.block k hk (by simp)⟩
  | some g => exact h.other hg (hr g rfl).1 (hr g rfl).2

def n1L : List ByteArray := [⟨#[97, 32, 98]⟩, ⟨#[102, 114, 111, 109]⟩, ⟨#[83, 101, 108, 101, 99, 116]⟩, ⟨#[49, 120]⟩, ⟨#[113, 34, 113]⟩, ⟨#[0]⟩, ⟨#[34]⟩, ⟨#[105, 116, 39, 115]⟩, ⟨#[120, 46, 121]⟩, ⟨#[45]⟩]
theorem n1L_size : ∀ j, j < 10 → (n1L.getD j ⟨#[]⟩).size ≤ 6 := by decide
def n2L : List ByteArray := [⟨#[97]⟩, ⟨#[98]⟩, ⟨#[99]⟩, ⟨#[116]⟩, ⟨#[117]⟩, ⟨#[118]⟩, ⟨#[105, 100]⟩, ⟨#[110, 97, 109, 101]⟩, ⟨#[65]⟩, ⟨#[95, 120, 49]⟩]
theorem n2L_size : ∀ j, j < 10 → (n2L.getD j ⟨#[]⟩).size ≤ 4 := by decide
def anyL : List ByteArray := [⟨#[]⟩, ⟨#[97, 98, 99, 100, 101, 102, 103, 104, 105, 106, 107, 108, 109, 110, 111, 112, 113, 114, 115, 116]⟩, ⟨#[97, 98, 99, 100, 101, 102, 103, 104, 105, 106, 107, 108, 109, 110, 111, 112, 113, 114, 115, 116, 117]⟩, ⟨#[108, 105, 109, 105, 116]⟩, ⟨#[76, 73, 77, 73, 84, 83]⟩, ⟨#[65, 83, 99]⟩, ⟨#[57]⟩, ⟨#[97, 57]⟩, ⟨#[195, 169]⟩]
theorem anyL_size : ∀ j, j < 9 → (anyL.getD j ⟨#[]⟩).size ≤ 21 := by decide
def qtL : List ByteArray := [⟨#[]⟩, ⟨#[39]⟩, ⟨#[105, 116, 39, 115]⟩, ⟨#[39, 39]⟩, ⟨#[112, 108, 97, 105, 110]⟩, ⟨#[0, 255]⟩]
theorem qtL_size : ∀ j, j < 6 → (qtL.getD j ⟨#[]⟩).size ≤ 5 := by decide
def txL : List ByteArray := [⟨#[]⟩, ⟨#[120]⟩, ⟨#[105, 116, 39, 115]⟩, ⟨#[39, 39]⟩, ⟨#[116, 119, 111, 32, 119, 111, 114, 100, 115]⟩, ⟨#[34]⟩, ⟨#[45, 45]⟩, ⟨#[0, 255]⟩]
theorem txL_size : ∀ j, j < 8 → (txL.getD j ⟨#[]⟩).size ≤ 9 := by decide
def btL : List ByteArray := [⟨#[]⟩, ⟨#[115, 101, 108, 101, 99, 116]⟩, ⟨#[83, 69, 76, 69, 67, 84, 83]⟩, ⟨#[48, 49]⟩, ⟨#[57, 50, 50, 51, 51, 55, 50, 48, 51, 54, 56, 53, 52, 55, 55, 53, 56, 48, 56]⟩, ⟨#[61, 62]⟩, ⟨#[124]⟩, ⟨#[97, 98, 99, 100, 101, 102, 103, 104, 105, 106, 107, 108, 109, 110, 111, 112, 113, 114, 115, 116, 117]⟩, ⟨#[49, 50, 51, 52, 53, 54, 55, 56, 57, 48, 49, 50, 51, 52, 53, 54, 55, 56, 57, 48, 49, 50, 51, 52, 53, 54, 55, 56, 57, 48, 49, 50, 51, 52, 53, 54, 55, 56, 57, 48, 49]⟩]
theorem btL_size : ∀ j, j < 9 → (btL.getD j ⟨#[]⟩).size ≤ 41 := by decide
def sgL : List ByteArray := [⟨#[40]⟩, ⟨#[41]⟩, ⟨#[44]⟩, ⟨#[46]⟩, ⟨#[42]⟩, ⟨#[43]⟩, ⟨#[45]⟩, ⟨#[47]⟩, ⟨#[37]⟩, ⟨#[61]⟩, ⟨#[60, 62]⟩, ⟨#[60]⟩, ⟨#[60, 61]⟩, ⟨#[62]⟩, ⟨#[62, 61]⟩, ⟨#[124, 124]⟩]
theorem sgL_size : ∀ j, j < 16 → (sgL.getD j ⟨#[]⟩).size ≤ 2 := by decide
def bwL : List ByteArray := [⟨#[]⟩, ⟨#[32]⟩, ⟨#[10]⟩, ⟨#[9]⟩, ⟨#[45, 45, 32, 120, 10]⟩, ⟨#[47, 42, 32, 121, 32, 42, 47]⟩, ⟨#[47, 42, 42, 47]⟩, ⟨#[32]⟩]
theorem bwL_size : ∀ j, j < 8 → (bwL.getD j ⟨#[]⟩).size ≤ 7 := by decide
def enL : List ByteArray := [⟨#[39]⟩, ⟨#[34]⟩, ⟨#[47, 42]⟩, ⟨#[47, 42, 47]⟩, ⟨#[45, 45]⟩, ⟨#[124]⟩, ⟨#[34, 34]⟩, ⟨#[49, 50, 120]⟩, ⟨#[48, 49]⟩, ⟨#[33]⟩, ⟨#[195, 169]⟩, ⟨#[0]⟩]
theorem enL_size : ∀ j, j < 12 → (enL.getD j ⟨#[]⟩).size ≤ 3 := by decide

set_option maxRecDepth 100000 in
set_option maxHeartbeats 1600000 in
theorem l2NameC {B p : Nat} {w : World} (h : Cur B w p) : Calls Tryz.prog 81 #[.pointer (some ⟨p, 0, none⟩)] w fun e w' => ∃ s : ByteArray, e = .returned (.string s) ∧ s.size ≤ 6 ∧ Dr B p w w' := by
  have hp := h.lt
  go_enter Tryz.func81, Tryz.ntmps81
  go_wp2_with fail
  refine (l1OnceC h _).mono ?_
  rintro e w1 ⟨b, rfl, hc1, hg1⟩
  have H1 := hide ((Dr.refl h).step hc1 hg1)
  clear hc1 hg1
  cases b
  · go_wp2_with fail
    refine (l1PickC (f := fun j => n2L.getD j ⟨#[]⟩) (n := 10) (H1.out.cur.alloc' _) (by omega) (by omega) (by have := H1.out.lt; omega) ?_).mono ?_
    · intro j hj
      match j, hj with
      | 0, _ => simp [go_sem]; rfl
      | 1, _ => simp [go_sem]; rfl
      | 2, _ => simp [go_sem]; rfl
      | 3, _ => simp [go_sem]; rfl
      | 4, _ => simp [go_sem]; rfl
      | 5, _ => simp [go_sem]; rfl
      | 6, _ => simp [go_sem]; rfl
      | 7, _ => simp [go_sem]; rfl
      | 8, _ => simp [go_sem]; rfl
      | 9, _ => simp [go_sem]; rfl
    rintro e w9 ⟨j, hj, rfl, hc9, hg9⟩
    have hsz := n2L_size j hj
    generalize n2L.getD j ⟨#[]⟩ = s at hsz ⊢
    have H2 := hide ((H1.out.alloc _).step hc9 hg9)
    clear hc9 hg9
    go_wp2_with fail
    all_goals go_ret
    all_goals exact ⟨s, rfl, by omega, H2.out⟩
  · go_wp2_with fail
    refine (l1PickC (f := fun j => n1L.getD j ⟨#[]⟩) (n := 10) (H1.out.cur.alloc' _) (by omega) (by omega) (by have := H1.out.lt; omega) ?_).mono ?_
    · intro j hj
      match j, hj with
      | 0, _ => simp [go_sem]; rfl
      | 1, _ => simp [go_sem]; rfl
      | 2, _ => simp [go_sem]; rfl
      | 3, _ => simp [go_sem]; rfl
      | 4, _ => simp [go_sem]; rfl
      | 5, _ => simp [go_sem]; rfl
      | 6, _ => simp [go_sem]; rfl
      | 7, _ => simp [go_sem]; rfl
      | 8, _ => simp [go_sem]; rfl
      | 9, _ => simp [go_sem]; rfl
    rintro e w9 ⟨j, hj, rfl, hc9, hg9⟩
    have hsz := n1L_size j hj
    generalize n1L.getD j ⟨#[]⟩ = s at hsz ⊢
    have H2 := hide ((H1.out.alloc _).step hc9 hg9)
    clear hc9 hg9
    go_wp2_with fail
    all_goals go_ret
    all_goals exact ⟨s, rfl, by omega, H2.out⟩

/-- What l1Bytes hands back. -/
def BytesPost (B p n : Nat) (w : World) (e : Ending) (w' : World) : Prop := ∃ (g cap : Nat) (l : List UInt8), e = .returned (.slice (some ⟨g, 0, none⟩) n cap) ∧ l.length = n ∧ BytesAt w' g l ∧ w.heap.size ≤ g ∧ Dr B p w w'

set_option maxRecDepth 100000 in
set_option maxHeartbeats 1600000 in
theorem l1BytesC {B p : Nat} {w : World} (h : Cur B w p) (n : Nat) (hn : n ≤ 1048576) : Calls Tryz.prog 74 #[.pointer (some ⟨p, 0, none⟩), .int .i64 (n : Int)] w fun e w' => BytesPost B p n w e w' := by
  have hp := h.lt
  obtain ⟨i0, hi, hz0, hz1, hz2⟩ := info_parts Tryz.infoU8
  have H := hide h
  clear h
  go_enter Tryz.func74, Tryz.ntmps74
  go_wp2_with fail
  go_loopw [5, 6] (fun v x wr => ∃ (i : Nat) (l : List UInt8), x = .int .i64 (i : Int) ∧ i ≤ n ∧ l.length = i ∧ wr.ownsRow w.heap.size 5 1 v l.length (l.map fun c => .int .u8 (c.toNat : Int)) ∧ v ≠ .slice none 0 0 ∧ Hid (Dr B p w wr)) (fun _ x _ => n - (intOf x).toNat)
  case atStart => exact ⟨0, [], rfl, by omega, rfl, World.ownsRow_made _ _ _ (Nat.le_refl _) (by decide) (by simp), by simp, (show Dr B p w _ from (Dr.refl H.out).alloc _)⟩
  case round =>
    obtain ⟨i, l, rfl, hin, hl, hown, hnn, HD⟩ := hrel
    by_cases hlt : i < n
    · have hlt2 : (i : Int) < n := by omega
      have HO := hide (And.intro hown hnn)
      clear hown hnn
      go_wp2_with fail
      refine (l1ByteC HD.out.cur).mono ?_
      rintro e w1 ⟨x, rfl, x0, x1, hc1, hg1⟩
      have hown : w1.ownsRow w.heap.size 5 1 _ l.length (l.map fun c => .int .u8 (c.toNat : Int)) := HO.out.1.kept hg1 (.inr (by
        intro e
        have h3 := HO.out.1.lt p e
        omega))
      have HD1 := hide (HD.out.step hc1 hg1)
      have hsz := HD1.out.grown.size
      obtain ⟨c, hc⟩ : ∃ c : UInt8, (c.toNat : Int) = x := ⟨UInt8.ofNat x.toNat, by rw [UInt8.toNat_ofNat']; omega⟩
      have HC := hide hc
      clear hc hc1 hg1
      go_wp2_with (first | (at_builtin; refine wpList_append_own _ rfl _ _ 22 rfl w.heap.size 5 i0 (.int .u8 0) 1 1 Tryz.underlying22 hi hz0 hz1 hz2 rfl (by decide) _ _ _ rfl (hown.alloc _) ⟨w1.heap.size, 0, none⟩ 1 1 [.int .u8 x] rfl rfl ?c1 ?c2 ?c3 ?c4 ?c5 ?_))
      case c1 =>
        intro j u hj
        match j, hj with
        | 0, hj => simp at hj; subst hj; simp [Addr.add, go_sem]
      case c2 => intro u hu; simp at hu; subst hu; rfl
      case c3 => unfold maxLen; omega
      case c4 => omega
      case c5 => simp; omega
      · intro v1 w2 hown1 hgrow1 hnil1
        have hlow := fun k hk => (hown.lt k hk).1
        have hcur2 : Cur B w2 p := cur_append (HD1.out.alloc _).cur hgrow1 (fun k hk => by have := hlow k hk; have := H.out.low; omega)
        have HB := hide (And.intro (Dr.mk hcur2 (grown_fresh (HD1.out.alloc _).grown hgrow1 hlow)) (And.intro hown1 hnil1))
        clear hown hgrow1 hown1 hnil1 hlow hcur2
        go_wp2
        go_roundw
        case rel =>
          refine ⟨i + 1, l ++ [c], by go_num, by omega, by simp; omega, ?_, ?_, HB.out.1⟩
          · have h2 := HB.out.2.1
            rw [← HC.out] at h2
            simpa [hl] using h2
          · have h1 := HB.out.2.2
            have h2 := HO.out.2
            simp_all
        case measure => simp [intOf]; omega
    · have hlt2 : ¬ (i : Int) < n := by omega
      obtain ⟨g, cap, rfl, hg1, hg2, hg3⟩ := owns_form hown hnn
      have hat := BytesAt.of_owns hown
      obtain rfl : i = n := by omega
      have HB := hide (And.intro hat hg1)
      clear hown hat hnn
      go_wp2_with fail
      all_goals go_ret
      all_goals exact ⟨g, cap, l, rfl, hl, HB.out.1, HB.out.2, HD.out⟩

set_option maxRecDepth 100000 in
set_option maxHeartbeats 1600000 in
theorem l3SignC {B p : Nat} {w : World} (h : Cur B w p) : Calls Tryz.prog 24 #[.pointer (some ⟨p, 0, none⟩)] w fun e w' => ∃ s : ByteArray, e = .returned (.string s) ∧ s.size ≤ 2 ∧ Dr B p w w' := by
  have hp := h.lt
  have H1 := hide (Dr.refl h)
  go_enter Tryz.func24, Tryz.ntmps24
  go_wp2_with fail
  refine (l1PickC (f := fun j => sgL.getD j ⟨#[]⟩) (n := 16) (H1.out.cur.alloc' _) (by omega) (by omega) (by omega) ?_).mono ?_
  · intro j hj
    match j, hj with
    | 0, _ => simp [go_sem]; rfl
    | 1, _ => simp [go_sem]; rfl
    | 2, _ => simp [go_sem]; rfl
    | 3, _ => simp [go_sem]; rfl
    | 4, _ => simp [go_sem]; rfl
    | 5, _ => simp [go_sem]; rfl
    | 6, _ => simp [go_sem]; rfl
    | 7, _ => simp [go_sem]; rfl
    | 8, _ => simp [go_sem]; rfl
    | 9, _ => simp [go_sem]; rfl
    | 10, _ => simp [go_sem]; rfl
    | 11, _ => simp [go_sem]; rfl
    | 12, _ => simp [go_sem]; rfl
    | 13, _ => simp [go_sem]; rfl
    | 14, _ => simp [go_sem]; rfl
    | 15, _ => simp [go_sem]; rfl
    | q + 16, hq => exact absurd hq (by omega)
  rintro e w9 ⟨j, hj, rfl, hc9, hg9⟩
  have hsz := sgL_size j hj
  generalize sgL.getD j ⟨#[]⟩ = s at hsz ⊢
  have H2 := hide ((H1.out.alloc _).step hc9 hg9)
  clear hc9 hg9
  go_wp2_with fail
  all_goals go_ret
  all_goals exact ⟨s, rfl, by omega, H2.out⟩

end Go.Proofs.YtfnjcgakcpadiaaGreatDoor