/-
  Parts: what the text comes apart into.
-/
import Derived.Test.YtnamikhhbedpeaaRows
import Derived.WalkKit
import Derived.WalkLawsBesides
import Derived.WalkSpells
import Derived.Handy
import Derived.Deep.Light
import Derived.Test.YtnamikhhbedpeaaM1
import Derived.Test.YtnamikhhbedpeaaB
namespace Go.Proofs.Ytnamikhhbedpeaa
open Go.RowKit

/-- The parts of s from 'i' on, the one under way having begun at 'fr'. -/
def pfx (b : Int) (s : ByteArray) (fr i : Nat) : List ByteArray :=
  if h : i < s.size then (if ((s[i]'h).toNat : Int) = b then s.extract fr i :: pfx b s (i + 1) (i + 1) else pfx b s fr (i + 1)) else [s.extract fr s.size]
  termination_by s.size - i

theorem pfx_len (b : Int) (s : ByteArray) (d : Nat) : ∀ fr i, s.size - i = d → (pfx b s fr i).length ≤ d + 1 := by
  induction d with
  | zero => intro fr i h; rw [pfx, dif_neg (by omega)]; simp
  | succ d ih =>
    intro fr i h
    rw [pfx, dif_pos (by omega)]
    split
    · have := ih (i + 1) (i + 1) (by omega); simp; omega
    · have := ih fr (i + 1) (by omega); omega

theorem Try.info9 : (Try.prog.info? 9).map (fun i => (i.zero, i.size, i.bytes)) = some (some (.string ⟨#[]⟩), 1, 16) := by kernel_rfl

set_option maxRecDepth 100000 in
set_option maxHeartbeats 800000 in
theorem implParts (s : ByteArray) (b : Int) (w : World) (hs : s.size ≤ 1048576) :
    Calls Try.prog 15 #[.string s, .int .u8 b] w fun e w' => ∃ v, e = .returned v ∧ w'.ownsRow w.heap.size 9 1 v (pfx b s 0 0).length ((pfx b s 0 0).map .string) ∧ v ≠ .slice none 0 0 ∧ Below w.heap.size w w' := by
  obtain ⟨i0, hi, hz0, hz1, hz2⟩ := info_parts Try.info9
  go_enter Try.func15, Try.ntmps15
  go_wp2
  go_loopw [5, 6, 11] (fun v f x wr => ∃ (fr i : Nat) (pre : List ByteArray), f = .int .i64 fr ∧ x = .int .i64 i ∧ fr ≤ i ∧ i ≤ s.size ∧ Hid (pre ++ pfx b s fr i = pfx b s 0 0) ∧ pre.length ≤ i ∧ wr.ownsRow w.heap.size 9 1 v pre.length (pre.map .string) ∧ v ≠ .slice none 0 0 ∧ Below w.heap.size w wr)
    (fun _ _ x _ => s.size - (intOf x).toNat)
  case atStart => exact ⟨0, 0, [], rfl, rfl, by omega, by omega, rfl, by simp, World.ownsRow_made _ _ _ (by simp) (by decide) (by simp), by simp, by go_grown⟩
  case round =>
    obtain ⟨fr, i, pre, rfl, rfl, hfi, his, hpre, hlen, hown, hnn, hb⟩ := hrel
    by_cases hlt : i < s.size
    · by_cases hx : ((s[i]'hlt).toNat : Int) = b
      · have hx1 : (((s[i]'hlt).toNat : Int) == b) = true := by simp [hx]
        have hp := hpre.out
        rw [pfx, dif_pos hlt, if_pos hx] at hp
        have HP := hide hp
        have HX := hide hx
        clear hp hx hpre
        go_wp2_with (first | (at_builtin; refine wpList_append_own _ rfl _ _ 26 rfl w.heap.size 9 i0 (.string ⟨#[]⟩) 1 16 Try.underlying26 hi hz0 hz1 hz2 rfl (by decide) _ _ _ rfl (hown.alloc _) ⟨wr.heap.size, 0, none⟩ 1 1 [.string (s.extract fr i)] rfl rfl ?a1 ?a2 ?a3 ?a4 ?a5 ?_))
        case a1 =>
          intro j u hj
          match j, hj with
          | 0, hj => simp at hj; subst hj; simp [go_sem, Addr.add]
        case a2 => intro u hu; simp at hu; subst hu; rfl
        case a3 => unfold maxLen; omega
        case a4 => omega
        case a5 => have := hb.size; simp; omega
        · intro v' w1 hown' hgrow hnil
          have hbel := Below.grown (hb.alloc (B := w.heap.size) hb.size _) hgrow (by have := hb.size; simp; omega) (fun k hk => (hown.lt k hk).1)
          have HB := hide (And.intro hbel (And.intro hown' hnil))
          clear hown' hgrow hown hbel hb hnil hnn
          go_wp2
          go_roundw
          case rel =>
            refine ⟨i + 1, i + 1, pre ++ [s.extract fr i], by go_num, by go_num, by omega, by omega, ?_, by simp; omega, ?_, ?_, HB.out.1⟩
            · show _ ++ _ = _
              rw [← HP.out]; simp
            · simpa using HB.out.2.1
            · simpa using HB.out.2.2
          case measure => simp [intOf]; omega
      · have hx1 : (((s[i]'hlt).toNat : Int) == b) = false := by simp [hx]
        have hp := hpre.out
        rw [pfx, dif_pos hlt, if_neg hx] at hp
        have HP := hide hp
        have HX := hide hx
        clear hp hx hpre
        go_wp2
        go_roundw
        case rel => exact ⟨fr, i + 1, pre, rfl, by go_num, by omega, by omega, HP.out, by omega, hown, hnn, hb⟩
        case measure => simp [intOf]; omega
    · have hie : i = s.size := by omega
      have hp := hpre.out
      rw [pfx, dif_neg hlt] at hp
      have HP := hide hp
      clear hp hpre
      go_wp2_with (first | (at_builtin; refine wpList_append_own _ rfl _ _ 26 rfl w.heap.size 9 i0 (.string ⟨#[]⟩) 1 16 Try.underlying26 hi hz0 hz1 hz2 rfl (by decide) _ _ _ rfl (hown.alloc _) ⟨wr.heap.size, 0, none⟩ 1 1 [.string (s.extract fr s.size)] rfl rfl ?b1 ?b2 ?b3 ?b4 ?b5 ?_))
      case b1 =>
        intro j u hj
        match j, hj with
        | 0, hj => simp at hj; subst hj; simp [go_sem, Addr.add]
      case b2 => intro u hu; simp at hu; subst hu; rfl
      case b3 => unfold maxLen; omega
      case b4 => omega
      case b5 => have := hb.size; simp; omega
      · intro v' w1 hown' hgrow hnil
        have hbel := Below.grown (hb.alloc (B := w.heap.size) hb.size _) hgrow (by have := hb.size; simp; omega) (fun k hk => (hown.lt k hk).1)
        have HB := hide (And.intro hbel (And.intro hown' hnil))
        clear hown' hgrow hown hbel hb hnil hnn
        go_wp2
        go_ret
        refine ⟨_, rfl, ?_, ?_, HB.out.1⟩
        · rw [← HP.out]; simpa using HB.out.2.1
        · simpa using HB.out.2.2
end Go.Proofs.Ytnamikhhbedpeaa
