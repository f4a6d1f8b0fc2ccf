/-
  The walk of FnCompare.
-/
import Derived.Test.YtnamikhhbedpeaaDrCalc
import Derived.Test.YtnamikhhbedpeaaQ
import Derived.Test.YtnamikhhbedpeaaVals
import Derived.Test.YtnamikhhbedpeaaCarry
namespace Go.Proofs.Ytnamikhhbedpeaa
open Go.RowKit Go.Lib

theorem cmp_same (op k n : Int) (s : ByteArray) (k' n' : Int) (s' : ByteArray) (h3 : 3 ≤ op) (h8 : op ≤ 8) :
    clE op k n s k' n' s' = clE 3 k n s k' n' s' ∧ clK op k n s k' n' s' = clK 3 k n s k' n' s' ∧ clS op k n s k' n' s' = ByteArray.empty := by
  have a1 : ¬ op < 1 := by omega
  have a2 : ¬ 14 < op := by omega
  have a3 : ¬ op ≤ 2 := by omega
  have a4 : ¬ op = 9 := by omega
  simp [clE, clK, clS, door, a1, a2, a3, a4, h8]

theorem cmp_zero {k n : Int} {s : ByteArray} {k' n' : Int} {s' : ByteArray} (h : clE 3 k n s k' n' s' = 0) :
    ((k = 0 ∨ k' = 0) ∧ clK 3 k n s k' n' s' = 0) ∨ (k ≠ 0 ∧ k' ≠ 0 ∧ k = k' ∧ clK 3 k n s k' n' s' = 3 ∧ ∀ op, 3 ≤ op → op ≤ 8 → clN op k n s k' n' s' = cmpB op (ordF k n s.toList k' n' s'.toList)) := by
  cases hd : door 3 k n s k' n' s'
  · by_cases hk : k = 0
    · exact .inl ⟨.inl hk, by simp [clK, hk]⟩
    · by_cases hk' : k' = 0
      · exact .inl ⟨.inr hk', by simp [clK, hk']⟩
      · by_cases he : k = k'
        · subst he
          refine .inr ⟨hk, hk', rfl, by simp [clK, hd, hk], fun op h3 h8 => ?_⟩
          have hd' : door op k n s k n' s' = false := by
            have a1 : ¬ op < 1 := by omega
            have a2 : ¬ 14 < op := by omega
            have e : door op k n s k n' s' = door 3 k n s k n' s' := by simp [door, a1, a2]
            rw [e, hd]
          have a3 : ¬ op ≤ 2 := by omega
          simp [clN, hd', a3, h8, hk]
        · simp [clE, hd, hk, hk', he] at h
  · simp [clE, hd] at h

/-- The cells of the first answers. -/
def cmpRow (K : Int) (N : Int → Int) (j : Nat) : List Value := (List.range j).flatMap fun (i : Nat) => [.int .i64 K, .int .i64 (N (3 + (i : Int))), .string ByteArray.empty]
theorem cmpRow_succ (K : Int) (N : Int → Int) (j : Nat) : cmpRow K N (j + 1) = cmpRow K N j ++ [.int .i64 K, .int .i64 (N (3 + (j : Int))), .string ByteArray.empty] := by
  unfold cmpRow
  rw [List.range_succ, List.flatMap_append]
  simp
theorem cmpRow_six (K : Int) (N : Int → Int) : cmpRow K N 6 = [.int .i64 K, .int .i64 (N 3), .string ByteArray.empty, .int .i64 K, .int .i64 (N 4), .string ByteArray.empty, .int .i64 K, .int .i64 (N 5), .string ByteArray.empty, .int .i64 K, .int .i64 (N 6), .string ByteArray.empty, .int .i64 K, .int .i64 (N 7), .string ByteArray.empty, .int .i64 K, .int .i64 (N 8), .string ByteArray.empty] := by
  rfl

theorem ordF_range' (k n : Int) (s : List UInt8) (k' n' : Int) (s' : List UInt8) : -1 ≤ ordF k n s k' n' s' ∧ ordF k n s k' n' s' ≤ 1 := by
  unfold ordF
  rcases cmpI_cases k k' with ⟨_, h⟩ | ⟨_, h⟩ | ⟨_, h⟩ <;> rcases cmpI_cases n n' with ⟨_, h1⟩ | ⟨_, h1⟩ | ⟨_, h1⟩ <;> rcases cmpS_cases s s' with ⟨_, _, _, h2⟩ | ⟨_, _, _, h2⟩ | ⟨_, _, _, h2⟩ <;> simp [h, h1, h2]

theorem C3.grownO {w a : World} {b : Nat} {x y z : Value} {row : Option Nat} (h : C3 w b x y z) (hg : w.grownBy a row) (hne : some b ≠ row) : C3 a b x y z := h.stays hg.size (hg.block b h.lt hne)

theorem owns_below {w v : World} {base : Nat} {e : TypeId} {size : Nat} {x : Value} {n : Nat} {xs : List Value} (h : w.ownsRow base e size x n xs) (hb : Below w.heap.size w v) : v.ownsRow base e size x n xs :=
  h.kept (row := none) ⟨hb.os, hb.tape, hb.output, hb.size, fun i hi _ => hb.block i hi⟩ (by cases hv : x.ownBlock <;> simp)

theorem Try.infoVal : (Try.prog.info? 41).map (fun i => (i.zero, i.size, i.bytes)) = some (some (.agg #[.int .i64 0, .int .i64 0, .string ⟨#[]⟩]), 3, 32) := by kernel_rfl

set_option maxRecDepth 100000 in
set_option maxHeartbeats 4000000 in
theorem fnCompare.walk (a : Option Addr) (n c : Nat) (zs : List Int) (w : World) (w0 : IsRow .u8 w a n c zs) :
    Calls Try.prog 12 #[.slice a n c] w fun e w' => e = .returned (.bool true) ∧ Below w.heap.size w w' := by
  obtain ⟨i0, hi, hz0, hz1, hz2⟩ := info_parts Try.infoVal
  have hlen := w0.len_le
  by_cases hbig : 1048576 < n
  · go_enter Try.func12, Try.ntmps12
    go_wp2_with (go_at_call 13; refine (bigC _ _ _ hlen).mono ?_; rintro e w1 ⟨rfl, rfl⟩)
    all_goals go_ret
    all_goals exact ⟨rfl, by go_grown⟩
  · have HC := hide (Code.of_row w0 (by omega))
    go_enter Try.func12, Try.ntmps12
    go_wp2_with (go_at_call 13; refine (bigC _ _ _ hlen).mono ?_; rintro e w1 ⟨rfl, rfl⟩)
    refine (drawCalcC c HC.out (Nat.le_refl _)).mono ?_
    rintro e w1 ⟨op, k, m, s, k', m', s', rfl, hm, hm', hs, hs', hb1⟩
    have H1 := hide hb1
    have HM := hide (And.intro hm hm')
    clear hb1 hbig hm hm' HC
    go_wp2_with fail
    have hA := ((C3.made w1 (.int .i64 k) (.int .i64 m) (.string s) 41).alloc (.cells #[.int .i64 k', .int .i64 m', .string s'] 41))
    have hB := (C3.made (w1.alloc (.cells #[.int .i64 k, .int .i64 m, .string s] 41)) (.int .i64 k') (.int .i64 m') (.string s') 41)
    rw [show (w1.alloc (.cells #[.int .i64 k, .int .i64 m, .string s] 41)).heap.size = w1.heap.size + 1 by simp] at hB
    have h2 : Below w.heap.size w ((w1.alloc (.cells #[.int .i64 k, .int .i64 m, .string s] 41)).alloc (.cells #[.int .i64 k', .int .i64 m', .string s'] 41)) := (H1.out.alloc H1.out.size _).alloc (by simp; have := H1.out.size; omega) _
    have hsz : ((w1.alloc (.cells #[.int .i64 k, .int .i64 m, .string s] 41)).alloc (.cells #[.int .i64 k', .int .i64 m', .string s'] 41)).heap.size = w1.heap.size + 1 + 1 := by simp
    generalize hW : (w1.alloc (.cells #[.int .i64 k, .int .i64 m, .string s] 41)).alloc (.cells #[.int .i64 k', .int .i64 m', .string s'] 41) = W at hA hB h2 hsz ⊢
    clear hW
    generalize w1.heap.size + 1 = bb at hB hsz ⊢
    generalize w1.heap.size = ba at hA ⊢
    have HW := hide (And.intro h2 (And.intro hA hB))
    have hK := cmp_zero (k := k) (n := m) (s := s) (k' := k') (n' := m') (s' := s')
    have hsame := hide (fun op h3 h8 => cmp_same op k m s k' m' s' h3 h8)
    rw [← hsz]
    obtain ⟨bs, hbs⟩ : ∃ bs, Hid (bs = W.heap.size) := ⟨_, rfl⟩
    have hba : ba < bs := by rw [hbs.out]; exact hA.lt
    have hbb : bb < bs := by rw [hbs.out]; exact hB.lt
    have hwb : w.heap.size ≤ bs := by rw [hbs.out]; exact h2.size
    clear hA hB h2 hsz
    generalize hE : clE 3 k m s k' m' s' = E at hK hsame
    generalize hKK : clK 3 k m s k' m' s' = KK at hK hsame
    have HK := hide hK
    clear hE hKK hK
    have hN : ∃ N : Int → Int, Hid (∀ op, clN op k m s k' m' s' = N op) := ⟨fun op => clN op k m s k' m' s', fun _ => rfl⟩
    obtain ⟨N, hN⟩ := hN
    go_loopw [6, 7] (fun v x wr => ∃ j : Nat, x = .int .i64 (3 + (j : Int)) ∧ j ≤ 6 ∧ (0 < j → E = 0) ∧ wr.ownsRow bs 41 3 v j (cmpRow KK N j) ∧ v ≠ .slice none 0 0 ∧ C3 wr ba (.int .i64 k) (.int .i64 m) (.string s) ∧ C3 wr bb (.int .i64 k') (.int .i64 m') (.string s') ∧ Below w.heap.size w wr) (fun _ x _ => 9 - (intOf x).toNat)
    case atStart => exact ⟨0, rfl, by omega, by omega, World.ownsRow_made _ _ _ (by simp [hbs.out]) (by decide) (by simp), by simp, HW.out.2.1.alloc _, HW.out.2.2.alloc _, HW.out.1.alloc HW.out.1.size _⟩
    case round =>
      obtain ⟨j, rfl, hj, hjE, hown, hnn, hca, hcb, hb⟩ := hrel
      have HR := hide (And.intro hb (And.intro hca hcb))
      obtain ⟨sa, ⟨a0, a1, a2⟩, _⟩ := hca
      obtain ⟨sb, ⟨b0, b1, b2⟩, _⟩ := hcb
      clear hb
      by_cases h6 : j < 6
      · have h8 : 3 + (j : Int) ≤ 8 := by omega
        have hw1 : IntKind.i64.wrap (3 + (j : Int)) = 3 + (j : Int) := by rw [IntKind.wrap_i64]; omega
        obtain ⟨e1, e2, e3⟩ := hsame.out (3 + (j : Int)) (by omega) h8
        have e4 := hN.out (3 + (j : Int))
        go_wp2_with fail
        refine (implCalc _ _ _ _ _ _ _ _ (by omega) (by omega) HM.out.1.wf HM.out.2.wf).mono ?_
        rintro e w2 ⟨rfl, hb2⟩
        rw [e1, e2, e3, e4]
        replace HR := hide (And.intro (below_via HR.out.1 hb2) (And.intro (HR.out.2.1.below hb2) (HR.out.2.2.below hb2)))
        replace hown := owns_below hown hb2
        clear hb2 sa a0 a1 a2 sb b0 b1 b2
        obtain ⟨sa, ⟨a0, a1, a2⟩, _⟩ := HR.out.2.1
        obtain ⟨sb, ⟨b0, b1, b2⟩, _⟩ := HR.out.2.2
        have HO := hide (And.intro hown hnn)
        clear hown hnn
        go_wp2_with fail
        refine (specCalc _ _ _ _ _ _ _ _ (by omega) (by omega) HM.out.1.wf HM.out.2.wf).mono ?_
        rintro e w3 ⟨rfl, hb3⟩
        rw [e1, e2, e3, e4]
        have HV := hide ((C3.made w2 (.int .i64 KK) (.int .i64 (N (3 + (j : Int)))) (.string ByteArray.empty) 41).below hb3)
        have hbb3 := below_via ((Below.refl _ w2).alloc (Nat.le_refl _) _) hb3
        replace HR := hide (And.intro (below_via HR.out.1 hbb3) (And.intro (HR.out.2.1.below hbb3) (HR.out.2.2.below hbb3)))
        have hown := owns_below HO.out.1 hbb3
        have hnn := HO.out.2
        clear hb3 hbb3 sa a0 a1 a2 sb b0 b1 b2 HO
        obtain ⟨sa, ⟨a0, a1, a2⟩, _⟩ := HR.out.2.1
        obtain ⟨sb, ⟨b0, b1, b2⟩, _⟩ := HR.out.2.2
        obtain ⟨sv, ⟨v0, v1, v2⟩, _⟩ := HV.out
        generalize w2.heap.size = vb at *
        by_cases hE0 : E = 0
        · subst hE0
          clear e1 e2 e3 e4
          generalize hNN : N (3 + (j : Int)) = NN at *
          have hwx : Below w.heap.size w ((w3.alloc (.cells #[.int .i64 KK, .int .i64 NN, .string ByteArray.empty] 41)).alloc (.cells #[.int .i64 KK, .int .i64 NN, .string ByteArray.empty] 41)) := (HR.out.1.alloc HR.out.1.size _).alloc (by simp; have := HR.out.1.size; omega) _
          have hbx : bs ≤ ((w3.alloc (.cells #[.int .i64 KK, .int .i64 NN, .string ByteArray.empty] 41)).alloc (.cells #[.int .i64 KK, .int .i64 NN, .string ByteArray.empty] 41)).heap.size := by
            simp
            rcases hown.2 with ⟨rfl, _⟩ | ⟨g, cap, cur, rfl, hg1, hg2, _⟩
            · exact absurd rfl hnn
            · have := (Array.getElem?_eq_some_iff.1 hg2).1
              omega
          go_wp2_with (first | (at_builtin; refine wpList_append_own _ rfl _ _ 47 rfl bs 41 i0 (.agg #[.int .i64 0, .int .i64 0, .string ⟨#[]⟩]) 3 32 Try.underlying47 hi hz0 hz1 hz2 rfl (by decide) _ _ _ rfl ((hown.alloc _).alloc _) ⟨w3.heap.size + 1, 0, none⟩ 1 1 [.int .i64 KK, .int .i64 NN, .string ByteArray.empty] rfl rfl ?c1 ?c2 ?c3 ?c4 hbx ?_))
          case c1 =>
            intro i u hu
            match i, hu with
            | 0, hu => simp at hu; subst hu; simp [Addr.add, go_sem]
            | 1, hu => simp at hu; subst hu; simp [Addr.add, go_sem]
            | 2, hu => simp at hu; subst hu; simp [Addr.add, go_sem]
          case c2 => intro u hu; simp at hu; rcases hu with rfl | rfl | rfl <;> rfl
          case c3 => unfold maxLen; omega
          case c4 => omega
          · intro v' w4 hown' hgrow hnil
            have hrow : ∀ q, q < bs → some q ≠ u6.ownBlock := by
              intro q hq e
              have := (hown.lt q e.symm).1
              omega
            have hb4 := Below.grown hwx hgrow hwx.size (fun q hq => by have := (hown.lt q hq).1; omega)
            have HB4 := hide (And.intro hb4 (And.intro (((HR.out.2.1.alloc _).alloc _).grownO hgrow (hrow ba hba)) (((HR.out.2.2.alloc _).alloc _).grownO hgrow (hrow bb hbb))))
            have HO := hide (And.intro hown' hnil)
            clear hown' hgrow hnil hown hb4 hwx hbx hrow hnn
            go_wp2_with fail
            go_roundw
            case rel =>
              refine ⟨j + 1, by go_num, by omega, fun _ => trivial, ?_, HO.out.2, HB4.out.2.1, HB4.out.2.2, HB4.out.1⟩
              rw [cmpRow_succ, hNN]
              exact HO.out.1
            case measure => simp [intOf]; omega
        · go_wp2_with fail
          go_ret
          exact ⟨rfl, HR.out.1.alloc HR.out.1.size _⟩
      · have hj6 : j = 6 := by omega
        subst hj6
        have hE0 := hjE (by omega)
        subst hE0
        rw [cmpRow_six] at hown
        obtain ⟨g, cap, rfl, hg1, hg2, hg3⟩ := owns_form hown hnn
        have hc := hown.cells (g := g) rfl
        have hK6 : ∀ i : Nat, i < 6 → wr.cell? ⟨g, i * 3, none⟩ = some (.int .i64 KK) := by
          intro i hi
          match i, hi with
          | 0, _ => exact hc 0 _ rfl
          | 1, _ => simpa [Addr.add] using hc 3 _ rfl
          | 2, _ => simpa [Addr.add] using hc 6 _ rfl
          | 3, _ => simpa [Addr.add] using hc 9 _ rfl
          | 4, _ => simpa [Addr.add] using hc 12 _ rfl
          | 5, _ => simpa [Addr.add] using hc 15 _ rfl
        have q0 : wr.cell? ⟨g, 1, none⟩ = some (.int .i64 (N 3)) := by simpa [Addr.add] using hc 1 _ rfl
        have q1 : wr.cell? ⟨g, 4, none⟩ = some (.int .i64 (N 4)) := by simpa [Addr.add] using hc 4 _ rfl
        have q2 : wr.cell? ⟨g, 7, none⟩ = some (.int .i64 (N 5)) := by simpa [Addr.add] using hc 7 _ rfl
        have q3 : wr.cell? ⟨g, 10, none⟩ = some (.int .i64 (N 6)) := by simpa [Addr.add] using hc 10 _ rfl
        have q4 : wr.cell? ⟨g, 13, none⟩ = some (.int .i64 (N 7)) := by simpa [Addr.add] using hc 13 _ rfl
        have q5 : wr.cell? ⟨g, 16, none⟩ = some (.int .i64 (N 8)) := by simpa [Addr.add] using hc 16 _ rfl
        have HK6 := hide hK6
        clear hown hnn hc hK6 hj
        have hfin := HK.out rfl
        clear HK hsame
        rcases hfin with ⟨hnull, rfl⟩ | ⟨hk0, hk0', rfl, rfl, hN8⟩
        · clear q0 q1 q2 q3 q4 q5
          go_wp2_with fail
          go_loopw [12, 13] (fun nv iv wz => ∃ i : Nat, nv = .int .i64 (i : Int) ∧ iv = .int .i64 (i : Int) ∧ i ≤ 6 ∧ wz = wr) (fun _ iv _ => 6 - (intOf iv).toNat)
          case atStart => exact ⟨0, rfl, rfl, by omega, rfl⟩
          case round =>
            obtain ⟨i, rfl, rfl, hi6, rfl⟩ := hrel
            by_cases hlt : i < 6
            · have hq := HK6.out i hlt
              have hlt' : (i : Int) < 6 := by omega
              go_wp2_with fail
              go_roundw
              case rel => exact ⟨i + 1, by go_num, by go_num, by omega, trivial⟩
              case measure => simp [intOf]; omega
            · have : i = 6 := by omega
              subst this
              rcases hnull with rfl | rfl
              · go_wp2_with fail
                all_goals go_ret
                all_goals exact ⟨rfl, HR.out.1⟩
              · by_cases hk1 : k = 0
                · subst hk1
                  go_wp2_with fail
                  all_goals go_ret
                  all_goals exact ⟨rfl, HR.out.1⟩
                · go_wp2_with fail
                  all_goals go_ret
                  all_goals exact ⟨rfl, HR.out.1⟩
        · go_wp2_with fail
          go_loopw [12, 13] (fun nv iv wz => ∃ i : Nat, nv = .int .i64 0 ∧ iv = .int .i64 (i : Int) ∧ i ≤ 6 ∧ wz = wr) (fun _ iv _ => 6 - (intOf iv).toNat)
          case atStart => exact ⟨0, rfl, rfl, by omega, rfl⟩
          case round =>
            obtain ⟨i, rfl, rfl, hi6, rfl⟩ := hrel
            by_cases hlt : i < 6
            · have hq := HK6.out i hlt
              have hlt' : (i : Int) < 6 := by omega
              clear q0 q1 q2 q3 q4 q5
              go_wp2_with fail
              go_roundw
              case rel => exact ⟨i + 1, rfl, by go_num, by omega, trivial⟩
              case measure => simp [intOf]; omega
            · have : i = 6 := by omega
              subst this
              have hNs : ∀ op, 3 ≤ op → op ≤ 8 → N op = cmpB op (ordF k m s.toList k m' s'.toList) := fun op h3 h8 => by rw [← hN.out op]; exact hN8 op h3 h8
              clear hN8
              rw [hNs 3 (by omega) (by omega)] at q0
              rw [hNs 4 (by omega) (by omega)] at q1
              rw [hNs 5 (by omega) (by omega)] at q2
              rw [hNs 6 (by omega) (by omega)] at q3
              rw [hNs 7 (by omega) (by omega)] at q4
              rw [hNs 8 (by omega) (by omega)] at q5
              have hr := ordF_range' k m s.toList k m' s'.toList
              clear hNs
              generalize ordF k m s.toList k m' s'.toList = r at *
              have hr3 : r = -1 ∨ r = 0 ∨ r = 1 := by omega
              clear hr
              have z0 := HK6.out 0 (by omega)
              rcases hr3 with rfl | rfl | rfl
              all_goals simp only [cmpB] at q0 q1 q2 q3 q4 q5
              all_goals simp at q0 q1 q2 q3 q4 q5
              all_goals
                go_wp2_with fail
                have e0 := BelowOf.cell q0 hg2
                have e1 := BelowOf.cell q1 hg2
                have e2 := BelowOf.cell q2 hg2
                have e3 := BelowOf.cell q3 hg2
                have e4 := BelowOf.cell q4 hg2
                have e5 := BelowOf.cell q5 hg2
                refine wp_region_wq (by kernel_rfl) (by kernel_rfl) ?_
                repeat (refine WQ.step (fun K hK => ?_); go_simp; first | (refine hK _ ?_; clear hK K) | (apply Exists.intro; refine ⟨fun _ => ?_, hK _ ?_⟩; (fail); clear hK K))
                refine WQ.nil ?_
                intro W2 hq2
                have hb2 := BelowOf.of hq2
                clear hq2 e0 e1 e2 e3 e4 e5
                replace q0 := carry_cell hb2 q0 hg2
                replace q1 := carry_cell hb2 q1 hg2
                replace q2 := carry_cell hb2 q2 hg2
                replace q3 := carry_cell hb2 q3 hg2
                replace q4 := carry_cell hb2 q4 hg2
                replace q5 := carry_cell hb2 q5 hg2
                have hg4 := carry_size hb2 hg2
                have HB2 := hide (below_via HR.out.1 hb2)
                clear hb2
                go_wp2_with fail
                have e0 := BelowOf.cell q0 hg4
                have e1 := BelowOf.cell q1 hg4
                have e2 := BelowOf.cell q2 hg4
                have e3 := BelowOf.cell q3 hg4
                have e4 := BelowOf.cell q4 hg4
                have e5 := BelowOf.cell q5 hg4
                refine wp_region_wq (by kernel_rfl) (by kernel_rfl) ?_
                repeat (refine WQ.step (fun K hK => ?_); go_simp; first | (refine hK _ ?_; clear hK K) | (apply Exists.intro; refine ⟨fun _ => ?_, hK _ ?_⟩; (fail); clear hK K))
                refine WQ.nil ?_
                intro W3 hq3
                have HB3 := hide (below_via HB2.out (BelowOf.of hq3))
                clear hq3 e0 e1 e2 e3 e4 e5
                go_wp2_with fail
                all_goals go_ret
                all_goals exact ⟨rfl, HB3.out⟩
end Go.Proofs.Ytnamikhhbedpeaa
