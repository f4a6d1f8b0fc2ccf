/-
  The walk of FnPartsBack.
-/
import Derived.Test.YtnamikhhbedpeaaDrB
import Derived.Test.YtnamikhhbedpeaaPartL
import Derived.Test.YtnamikhhbedpeaaStrsA
import Derived.Test.YtnamikhhbedpeaaCarry
import Derived.Deep.CutRange
import Derived.Deep.RegionWith
namespace Go.Proofs.Ytnamikhhbedpeaa
open Go.RowKit Go.Lib

theorem Cur.drew' {B p : Nat} {w : World} (h : Cur B w p) : Cur B w.drew p := ⟨h.low, h.lt, h.ex⟩

def partT (j : Nat) : ByteArray := if j = 0 then ⟨#[]⟩ else if j = 1 then ⟨#[97]⟩ else if j = 2 then ⟨#[97, 44, 98]⟩ else if j = 3 then ⟨#[44]⟩ else if j = 4 then ⟨#[97, 44, 44, 98, 44]⟩ else ⟨#[97, 10, 98, 10]⟩
theorem partT_size (j : Nat) : (partT j).size ≤ 5 := by unfold partT; split; decide; split; decide; split; decide; split; decide; split <;> decide
def sepI (j : Nat) : Int := if j = 0 then 44 else 10

set_option maxRecDepth 100000 in
theorem drawPartsC {B : Nat} {w : World} {a : Option Addr} {n : Nat} {z : Nat → Int} (c : Nat) (h : Code B w a n z) (hB : B ≤ w.heap.size) :
    Calls Try.prog 14 #[.slice a n c] w fun e w' => ∃ (s : ByteArray) (b : UInt8), e = .returned (.tuple #[.string s, .int .u8 (b.toNat : Int)]) ∧ s.size ≤ 5 ∧ Below w.heap.size w w' := by
  go_enter Try.func14, Try.ntmps14
  go_wp2_with fail
  refine (l1NewC c (h.mono hB) (Nat.le_refl _)).mono ?_
  rintro e w1 ⟨p, rfl, hc1, hb1⟩
  have H1 := hide (And.intro hc1 hb1)
  clear hc1 hb1
  go_wp2_with fail
  refine (l1PickC (f := partT) (n := 6) (H1.out.1.alloc' _) (by omega) (by omega) (by have := H1.out.1.lt; omega) ?_).mono ?_
  · intro j hj
    match j, hj with
    | 0, _ => simp [go_sem]; rfl
    | 1, _ => simp [go_sem]; rfl
    | 2, _ => simp [go_sem]; rfl
    | 3, _ => simp [go_sem]; rfl
    | 4, _ => simp [go_sem]; rfl
    | 5, _ => simp [go_sem]; rfl
  rintro e w2 ⟨j, hj, rfl, hc2, hg2⟩
  have H2 := hide (And.intro hc2 (Below.grown (H1.out.2.alloc H1.out.2.size _) hg2 (by have := H1.out.2.size; simp; omega) (fun k hk => by cases hk; exact H1.out.1.low)))
  clear hc2 hg2
  go_wp2_with fail
  refine (l1PickIntC (f := sepI) (n := 2) (H2.out.1.alloc' _) (by omega) (by omega) (by have := H2.out.1.lt; omega) ?_).mono ?_
  · intro j hj
    match j, hj with
    | 0, _ => simp [go_sem]; rfl
    | 1, _ => simp [go_sem]; rfl
  rintro e w3 ⟨i, hi, rfl, hc3, hg3⟩
  have H3 := hide (Below.grown (H2.out.2.alloc H2.out.2.size _) hg3 (by have := H2.out.2.size; simp; omega) (fun k hk => by cases hk; exact H1.out.1.low))
  clear hc3 hg3
  have hsz := partT_size j
  have hb : ∃ b : UInt8, sepI i = (b.toNat : Int) ∧ IntKind.u8.wrap (b.toNat : Int) = (b.toNat : Int) := by
    unfold sepI
    split
    · exact ⟨44, rfl, by rw [IntKind.wrap_u8]; rfl⟩
    · exact ⟨10, rfl, by rw [IntKind.wrap_u8]; rfl⟩
  obtain ⟨b, hb1, hb2⟩ := hb
  rw [hb1]
  go_wp2_with fail
  go_returns
  exact ⟨_, b, rfl, hsz, H3.out⟩

set_option maxRecDepth 100000 in
set_option maxHeartbeats 4000000 in
theorem fnPartsBack.walk (a : Option Addr) (n c : Nat) (zs : List Int) (w : World) (w0 : IsRow .u8 w a n c zs) :
    Calls Try.prog 3 #[.slice a n c] w fun e w' => e = .returned (.bool true) ∧ Below w.heap.size w w' := by
  have hlen := w0.len_le
  by_cases hbig : 1048576 < n
  · go_enter Try.func3, Try.ntmps3
    go_wp2_with (go_at_call 13; refine (bigC _ _ _ hlen).mono ?_; rintro e w1 ⟨rfl, rfl⟩)
    all_goals go_ret
    all_goals exact ⟨rfl, by go_grown⟩
  · have HC := hide (Code.of_row w0 (by omega))
    go_enter Try.func3, Try.ntmps3
    go_wp2_with (go_at_call 13; refine (bigC _ _ _ hlen).mono ?_; rintro e w1 ⟨rfl, rfl⟩)
    refine (drawPartsC c HC.out (Nat.le_refl _)).mono ?_
    rintro e w1 ⟨s, b, rfl, hs, hb1⟩
    have H1 := hide hb1
    clear hb1 hbig HC
    go_wp2_with fail
    refine (implParts s _ _ (by omega)).mono ?_
    rintro e w2 ⟨v, rfl, hown, hnn, hb2⟩
    have H2 := hide (below_via H1.out hb2)
    obtain ⟨hall, hpos⟩ := backOf_all b s
    have hnone := none_pfx s (b.toNat : Int) s.size 0 0 (by omega) (Nat.le_refl _) (Nat.zero_le _) (fun k _ _ h => by omega)
    have hmany := pfx_len (b.toNat : Int) s s.size 0 0 (by omega)
    generalize pfx (b.toNat : Int) s 0 0 = l at hown hall hpos hnone hmany
    obtain ⟨g, cap, rfl, hg1, hg2, hg3⟩ := owns_form hown hnn
    have hst := StrsF.of_owns hown
    obtain ⟨f, hf⟩ : ∃ f : Nat → ByteArray, ∀ i, l.getD i ByteArray.empty = f i := ⟨_, fun _ => rfl⟩
    have hbk : ∃ bk : Nat → ByteArray, bk 1 = f 0 ∧ (∀ i, 1 ≤ i → i < l.length → bk (i + 1) = bk i ++ ⟨#[b]⟩ ++ f i) ∧ bk l.length = s :=
      ⟨fun i => backOf b l i, by show backOf b l 1 = f 0; rw [backOf_one, hf], fun i h1 h2 => by show backOf b l (i + 1) = backOf b l i ++ ⟨#[b]⟩ ++ f i; rw [backOf_succ b l i h1 h2, hf], hall⟩
    obtain ⟨bk, hbk⟩ := hbk
    have hpos0 := hpos
    have hno : ∀ i, i < l.length → ∀ k (h : k < (f i).size), ((f i)[k].toNat : Int) ≠ (b.toNat : Int) := by
      intro i hi
      have : f i = l[i] := by rw [← hf, List.getD, List.getElem?_eq_getElem hi]; rfl
      rw [this]
      exact hnone l[i] (List.getElem_mem hi)
    have hbs : ∀ d i, l.length - i = d → 1 ≤ i → i ≤ l.length → (bk i).size ≤ 5 := by
      intro d
      induction d with
      | zero => intro i h h1 h2; rw [show i = l.length by omega, hbk.2.2]; exact hs
      | succ d ih =>
        intro i h h1 h2
        have h3 := ih (i + 1) (by omega) (by omega) (by omega)
        rw [hbk.2.1 i h1 (by omega), ByteArray.size_append, ByteArray.size_append] at h3
        omega
    have hfs : ∀ i, i < l.length → (f i).size ≤ 5 := by
      intro i hi
      by_cases h0 : i = 0
      · subst h0
        rw [← hbk.1]
        exact hbs _ 1 rfl (Nat.le_refl _) (by omega)
      · have h3 := hbs _ (i + 1) rfl (by omega) (by omega)
        rw [hbk.2.1 i (by omega) hi, ByteArray.size_append, ByteArray.size_append] at h3
        omega
    have HBS := hide (fun i h1 h2 => hbs _ i rfl h1 h2)
    have HS := hide (hst.same (f' := f) (fun i _ => hf i))
    have HBK := hide hbk
    have HNO := hide hno
    have HFS := hide hfs
    clear hown hnn hall hnone hb2 hst hf hbk hno hfs hbs
    generalize l.length = nn at *
    clear l
    have c0 := HS.out.cell 0 hpos
    rw [← HBK.out.1] at c0
    have hnz : ((nn : Int) == 0) = false := by simp; omega
    go_wp2_with fail
    go_loopw [6, 7] (fun x y wr => ∃ i : Nat, x = .string (bk i) ∧ y = .int .i64 (i : Int) ∧ 1 ≤ i ∧ i ≤ nn ∧ Hid (StrsF wr g nn f) ∧ Hid (Below w.heap.size w wr)) (fun _ y _ => nn - (intOf y).toNat)
    case atStart => exact ⟨1, rfl, rfl, by omega, by omega, HS.out, H2.out⟩
    case round =>
      obtain ⟨i, rfl, rfl, hi1, hin, HR, HB⟩ := hrel
      by_cases hlt : i < nn
      · have hlt' : (i : Int) < nn := by omega
        have ci := HR.out.cell i hlt
        have hgl := HR.out.lt
        have hgn : g ≠ wr.heap.size := by omega
        have hgn' := hgn.symm
        have hs1 := HBS.out i hi1 hin
        have hs2 := HFS.out i hlt
        have hs3 : (⟨#[b]⟩ : ByteArray).size = 1 := rfl
        have hiw : IntKind.i64.wrap ((i : Int) + 1) = ((i + 1 : Nat) : Int) := by rw [IntKind.wrap_i64]; omega
        have hat : BytesAt (wr.alloc (.cells #[.int .u8 (b.toNat : Int)] 5)).drew wr.heap.size [b] := by
          refine BytesAt.drew ⟨by simp, fun i hi => ?_, fun i hi => ?_⟩
          · match i, hi with
            | 0, _ => go_simp
          · match i, hi with
            | 0, _ => go_simp
        have hcs := hat.string (P := Try.prog) 22 5 9 Try.underlying22 Try.underlying5 Try.underlying9 1 1 (by simp)
        have HRn := hide (HR.out.below (((Below.refl _ wr).alloc (Nat.le_refl _) (.cells #[.int .u8 (b.toNat : Int)] 5)).drew))
        have HBn := hide ((HB.out.alloc HB.out.size (.cells #[.int .u8 (b.toNat : Int)] 5)).drew)
        go_wp2_with fail
        go_region_with fail
        all_goals
          go_wp2_with fail
          go_roundw
          case rel => first | (exact ⟨i + 1, by rw [HBK.out.2.1 i hi1 hlt], by go_num, by omega, by omega, HRn.out, HBn.out⟩; done) | ((repeat apply Exists.intro); exact ⟨⟨i + 1, by rw [HBK.out.2.1 i hi1 hlt], by go_num, by omega, by omega, HRn.out, HBn.out⟩, rfl⟩)
          case measure => simp [intOf]; omega
      · have hie : i = nn := by omega
        subst hie
        rw [HBK.out.2.2]
        go_wp2_with fail
        go_loopw [8] (fun y wr => ∃ j : Nat, y = .int .i64 (j : Int) ∧ j ≤ i ∧ Hid (StrsF wr g i f) ∧ Hid (Below w.heap.size w wr)) (fun y _ => i - (intOf y).toNat)
        case atStart => exact ⟨0, rfl, by omega, HR.out, HB.out⟩
        case round =>
          obtain ⟨j, rfl, hj, HR2, HB2⟩ := hrel
          by_cases hjl : j < i
          · have hjl' : (j : Int) < i := by omega
            have cj := HR2.out.cell j hjl
            have hs5 := HFS.out j hjl
            have hno := hide (HNO.out j hjl)
            go_wp2_with fail
            go_loopw [9] (fun y wz => ∃ q : Nat, y = .int .i64 (q : Int) ∧ q ≤ (f j).size ∧ wz = wr) (fun y _ => (f j).size - (intOf y).toNat)
            case atStart => exact ⟨0, rfl, by omega, rfl⟩
            case round =>
              obtain ⟨q, rfl, hq, rfl⟩ := hrel
              by_cases hql : q < (f j).size
              · have hql' : (q : Int) < (f j).size := by omega
                have hne := hno.out q hql
                go_wp2_with fail
                go_roundw
                case rel => exact ⟨q + 1, by go_num, by omega, trivial⟩
                case measure => simp [intOf]; omega
              · go_wp2_with fail
                go_roundw
                case rel => exact ⟨j + 1, by go_num, by omega, HR2.out, HB2.out⟩
                case measure => simp [intOf]; omega
          · go_wp2_with fail
            all_goals go_ret
            all_goals exact ⟨rfl, HB2.out⟩
end Go.Proofs.Ytnamikhhbedpeaa
