/-
  The walk of FnKeys.
-/
import Derived.Test.YtfnjcgakcpadiaaDoorDrW
import Derived.Test.YtfnjcgakcpadiaaDoorPlainN
import Derived.Test.YtfnjcgakcpadiaaDoorAt0
import Derived.Deep.CutBlock
import Derived.Deep.DeepCutAuto
namespace Go.Proofs.YtfnjcgakcpadiaaDoor
open Go.RowKit

/-- A keyword's letters, some of them small. -/
structure Bent (l l' : List UInt8) : Prop where
  len : l'.length = l.length
  up : l'.map upB = l

theorem kw_caps : ∀ k, k < 29 → ∀ c ∈ (kw k).data.toList, 65 ≤ c.toNat ∧ c.toNat ≤ 90 := by decide +kernel
theorem kw_self0 : ∀ k, k < 29 → ∀ j, j < k → 1 ≤ j → kw j ≠ kw k := by decide +kernel
theorem kw_self (k : Nat) (h1 : 1 ≤ k) (h2 : k < 29) : keyNo (kw k) = (k : Int) := keyNo_hit (kw k) k h1 h2 rfl (fun j hj hjk => kw_self0 k h2 j hjk hj)
theorem up_cap (c : UInt8) (h : 65 ≤ c.toNat ∧ c.toNat ≤ 90) : upB c = c := upB_same c (by omega)
theorem up_small (c d : UInt8) (h : 65 ≤ c.toNat ∧ c.toNat ≤ 90) (hd : d.toNat = c.toNat + 32) : upB d = c := by
  unfold upB
  rw [if_pos (by omega)]
  exact UInt8.toNat_inj.mp (by rw [UInt8.toNat_ofNat']; omega)

theorem bent_set {l l' : List UInt8} (h : Bent l l') (i : Nat) (hi : i < l.length) (_hu : l'[i]'(by rw [h.len]; exact hi) = l[i]) (hc : 65 ≤ l[i].toNat ∧ l[i].toNat ≤ 90) (d : UInt8) (hd : d.toNat = l[i].toNat + 32) : Bent l (l'.set i d) := by
  refine ⟨by rw [List.length_set]; exact h.len, ?_⟩
  rw [List.map_set, h.up, up_small _ d hc hd]
  exact List.set_getElem_self _

set_option maxRecDepth 100000 in
set_option maxHeartbeats 1600000 in
theorem fnKeys.walk (a : Option Addr) (n c : Nat) (zs : List Int) (w : World) (w0 : IsRow .u8 w a n c zs) (hm : ∃ m, w.cell? ⟨2, 0, none⟩ = some (.int .i64 m)) :
    Calls Tryd.prog 3 #[.slice a n c] w fun e w' => e = .returned (.bool true) ∧ Below w.heap.size w w' := by
  have hlen := w0.len_le
  have HM := hide hm
  clear hm
  by_cases hbig : 1048576 < n
  · go_enter Tryd.func3, Tryd.ntmps3
    go_wp2_with (go_at_call 7; refine (bigC _ _ _ hlen).mono ?_; rintro e w1 ⟨rfl, rfl⟩)
    all_goals go_ret
    all_goals exact ⟨rfl, by go_grown⟩
  · have HC := hide (Code.of_row w0 (by omega))
    have hcv := fun w s => run_bytes_of_string (P := Tryd.prog) w 9 22 5 s Tryd.underlying9 Tryd.underlying22 Tryd.underlying5
    go_enter Tryd.func3, Tryd.ntmps3
    go_wp2_with (go_at_call 7; refine (bigC _ _ _ hlen).mono ?_; rintro e w1 ⟨rfl, rfl⟩)
    refine (dDrawKeyTextC c HC.out (Nat.le_refl _)).mono ?_
    rintro e w1 ⟨k, rfl, k0, k1, hb1⟩
    have H1 := hide hb1
    clear hb1
    obtain ⟨s, hs⟩ : ∃ s, Hid ((if 1 ≤ k ∧ k ≤ 28 then kw k.toNat else ⟨#[]⟩) = s) := ⟨_, rfl⟩
    go_wp2_with fail
    obtain ⟨m, hm⟩ := some_below HM.out H1.out
    refine (implKeyText k m w1 hm).mono ?_
    rintro e w2 ⟨rfl, hb2⟩
    have H2 := hide (below_via H1.out hb2)
    rw [hs.out]
    clear hb2 hm
    go_wp2_with fail
    refine (dDrawPlainNameC c (HC.out.below (H2.out)) (H2.out.size)).mono ?_
    rintro e w3 ⟨x, rfl, hx, hb3⟩
    have H3 := hide (below_via H2.out hb3)
    clear hb3
    have hpk : plainB x = true → keyNo (upAll x) = 0 := fun h => by
      unfold plainB at h
      simp only [Bool.and_eq_true, decide_eq_true_eq] at h
      exact h.1.2
    have HPK := hide hpk
    clear hpk
    go_upto_region 6 with fail
    go_cut [29] (fun s29 wx => s29 = .bool false ∧ Below w.heap.size w wx)
    case first =>
      go_wp2_with fail
      obtain ⟨m, hm⟩ := some_below HM.out H3.out
      refine (implPlain x w3 (by omega) m hm).mono ?_
      rintro e w4 ⟨rfl, hb4⟩
      have H4 := hide (below_via H3.out hb4)
      clear hb4 hm
      go_wp2_with fail
      refine (specPlain x w4 (by omega)).mono ?_
      rintro e w5 ⟨rfl, hb5⟩
      have H5 := hide (below_via H4.out hb5)
      clear hb5
      cases hp : plainB x
      · go_wp2_with fail
        obtain ⟨m, hm⟩ := some_below HM.out H5.out
        refine (implPlain x w5 (by omega) m hm).mono ?_
        rintro e w6 ⟨rfl, hb6⟩
        have H6 := hide (below_via H5.out hb6)
        rw [hp]
        clear hb6 hm
        go_wp2_with fail
        go_meet
        exact ⟨rfl, H6.out⟩
      · go_wp2_with fail
        obtain ⟨m, hm⟩ := some_below HM.out H5.out
        refine (implPlain x w5 (by omega) m hm).mono ?_
        rintro e w6 ⟨rfl, hb6⟩
        have H6 := hide (below_via H5.out hb6)
        rw [hp]
        clear hb6 hm
        go_wp2_with fail
        obtain ⟨m, hm⟩ := some_below HM.out H6.out
        refine (implKeyOf x m w6 (by omega) hm).mono ?_
        rintro e w7 ⟨rfl, hb7⟩
        have H7 := hide (below_via H6.out hb7)
        rw [HPK.out hp]
        clear hb7 hm
        go_wp2_with fail
        go_meet
        exact ⟨rfl, H7.out⟩
    case rest =>
      obtain ⟨rfl, hb⟩ := hcut
      rename World => w8
      have H8 := hide hb
      clear hb H1 H2 H3
      by_cases hk : 1 ≤ k ∧ k ≤ 28
      · have hs2 := hs.out
        rw [if_pos hk] at hs2
        obtain ⟨hk1, hk2⟩ := hk
        obtain ⟨j, rfl⟩ : ∃ j : Nat, k = (j : Int) := ⟨k.toNat, by omega⟩
        rw [Int.toNat_natCast] at hs2
        have hj1 : 1 ≤ j := by omega
        have hj2 : j < 29 := by omega
        have hself := kw_self j hj1 hj2
        have hcaps := kw_caps j hj2
        have hsz8 := kw_size j hj2
        rw [hs2] at hself hcaps hsz8
        clear hs hs2
        obtain ⟨l, hl⟩ : ∃ l : List UInt8, l = s.data.toList := ⟨_, rfl⟩
        have hlen2 : l.length = s.size := by rw [hl]; exact Array.length_toList
        rw [← hl] at hcaps
        have hM := fun w c => BytesAt.made w 5 s c
        rw [← hl] at hM
        have HL := hide (And.intro hl (And.intro hself hcaps))
        have HMM := hide hM
        clear hl hM hself hcaps
        have hk1' : ¬ (j : Int) < 1 := by omega
        have hk2' : ¬ (28 : Int) < (j : Int) := by omega
        clear hk1 hk2 k0 k1
        go_wp2_with fail
        generalize hcap : grownCap _ s.size 0 5 = cap
        have HAT := hide (HMM.out w8 cap)
        clear hcap HMM
        go_loopw [7] (fun x wr => ∃ (i : Nat) (l' : List UInt8), x = .int .i64 (i : Int) ∧ i ≤ l.length ∧ Hid (Bent l l' ∧ ∀ q (h : q < l.length) (h' : q < l'.length), i ≤ q → l'[q] = l[q]) ∧ Hid (BytesAt wr w8.heap.size l') ∧ Hid (Below w.heap.size w wr)) (fun x _ => l.length - (intOf x).toNat)
        case atStart =>
          have hup : l.map upB = l := by
            conv => rhs; rw [← List.map_id l]
            exact List.map_congr_left fun c hc => up_cap c (HL.out.2.2 c hc)
          exact ⟨0, l, rfl, by omega, (show Bent l l ∧ ∀ q (h : q < l.length) (h' : q < l.length), 0 ≤ q → l[q] = l[q] from ⟨⟨rfl, hup⟩, fun q h h' _ => rfl⟩), HAT.out, (show Below w.heap.size w _ from below_via H8.out (by go_grown))⟩
        case round =>
          obtain ⟨i, l', rfl, hi, HBT, HB, HW⟩ := hrel
          by_cases hlt : i < l.length
          · have hlt2 : (i : Int) < s.size := by omega
            have HLN := hide HBT.out.1.len
            have hi' : i < l'.length := by have := HLN.out; omega
            have hun := HBT.out.2 i hlt hi' (Nat.le_refl _)
            have hcp := HL.out.2.2 l[i] (List.getElem_mem hlt)
            have hc := HB.out.cell i hi'
            have hf := HB.out.free i hi'
            obtain ⟨v, hv⟩ : ∃ v : Int, v = (l'[i].toNat : Int) := ⟨_, rfl⟩
            rw [← hv] at hc
            rw [← hun] at hcp
            have hv1 : 65 ≤ v := by omega
            have hv2 : v ≤ 90 := by omega
            have HV := hide (And.intro hv (And.intro hun hcp))
            clear hv hun hcp
            go_wp2_with fail
            refine (at0C c (HC.out.below HW.out) i (by omega)).mono ?_
            rintro e w9 ⟨x, rfl, x0, x1, rfl⟩
            by_cases hx2 : x % 2 = 0
            · have hxb : (x % 2 == 0) = true := by simpa using hx2
              clear hx2
              go_wp2_with fail
              go_roundw
              case rel =>
                obtain ⟨d, hd⟩ : ∃ d : UInt8, d.toNat = l'[i].toNat + 32 := ⟨UInt8.ofNat (l'[i].toNat + 32), by have := HV.out.2.2; rw [UInt8.toNat_ofNat']; omega⟩
                have hdv : v + 32 = (d.toNat : Int) := by have := HV.out.1; omega
                have hset := HB.out.set i (by have := HLN.out; omega) d
                rw [← hdv] at hset
                refine ⟨i + 1, l'.set i d, by go_num, by omega, ?_, hset, HW.out.setCell (by have := H8.out.size; omega) _⟩
                refine ⟨bent_set HBT.out.1 i hlt HV.out.2.1 (by rw [← HV.out.2.1]; exact HV.out.2.2) d (by rw [← HV.out.2.1]; exact hd), fun q h h' hq => ?_⟩
                rw [List.getElem_set_ne (by omega)]
                exact HBT.out.2 q h (by simpa using h') (by omega)
              case measure => simp [intOf]; omega
            · have hxb : (x % 2 == 0) = false := by simpa using hx2
              clear hx2
              go_wp2_with fail
              go_roundw
              case rel => exact ⟨i + 1, l', by go_num, by omega, (show _ ∧ _ from ⟨HBT.out.1, fun q h h' hq => HBT.out.2 q h h' (by omega)⟩), HB.out, HW.out⟩
              case measure => simp [intOf]; omega
          · have hlt2 : ¬ (i : Int) < s.size := by omega
            obtain rfl : i = l.length := by omega
            have hl' := HBT.out.1.len
            have hup : upAll ⟨l'.toArray⟩ = s := by
              unfold upAll
              have e : (⟨l'.toArray⟩ : ByteArray).data.toList = l' := by simp
              rw [e, HBT.out.1.up, HL.out.1]
            have hups : upAll s = s := by
              have hmap : l.map upB = l := by
                conv => rhs; rw [← List.map_id l]
                exact List.map_congr_left fun c hc => up_cap c (HL.out.2.2 c hc)
              unfold upAll
              rw [← HL.out.1, hmap, HL.out.1]
            have hpl : plainB s = false := by
              have hne : ¬ keyNo (upAll s) = 0 := by rw [hups, HL.out.2.1]; omega
              unfold plainB
              simp [hne]
            have hsz' : (⟨l'.toArray⟩ : ByteArray).size ≤ 1048576 := by
              show l'.length ≤ _
              omega
            have HS := hide (And.intro hl' (And.intro hup (And.intro hpl hsz')))
            have hcs := HB.out.string (P := Tryd.prog) 22 5 9 Tryd.underlying22 Tryd.underlying5 Tryd.underlying9 s.size cap (by omega)
            clear hl' hup hups hpl hsz'
            go_wp2_with fail
            obtain ⟨m, hm⟩ := some_below HM.out HW.out
            have hKO := implKeyOf ⟨l'.toArray⟩ m wr HS.out.2.2.2 hm
            rw [HS.out.2.1, HL.out.2.1] at hKO
            refine hKO.mono ?_
            rintro e w9 ⟨rfl, hb9⟩
            have H9 := hide (And.intro (below_via HW.out hb9) (HB.out.below hb9 HB.out.lt))
            have hcs := H9.out.2.string (P := Tryd.prog) 22 5 9 Tryd.underlying22 Tryd.underlying5 Tryd.underlying9 s.size cap (by have := HS.out.1; omega)
            clear hb9 hm hKO
            go_wp2_with fail
            have hFO := implFold ⟨l'.toArray⟩ HS.out.2.2.2 w9
            rw [HS.out.2.1] at hFO
            refine hFO.mono ?_
            rintro e w10 ⟨rfl, hb10⟩
            have H10 := hide (below_via H9.out.1 hb10)
            clear hb10 hFO hcs
            go_wp2_with fail
            obtain ⟨m, hm⟩ := some_below HM.out H10.out
            have hPN := implPlain s w10 (by omega) m hm
            rw [HS.out.2.2.1] at hPN
            refine hPN.mono ?_
            rintro e w11 ⟨rfl, hb11⟩
            have H11 := hide (below_via H10.out hb11)
            clear hb11 hm hPN
            go_wp2_with fail
            all_goals go_ret
            all_goals exact ⟨rfl, H11.out⟩
      · have hs2 := hs.out
        rw [if_neg hk] at hs2
        subst hs2
        clear hs
        by_cases hk1 : k < 1
        · go_wp2_with fail
          all_goals go_ret
          all_goals exact ⟨rfl, H8.out⟩
        · have hk2 : 28 < k := by omega
          go_wp2_with fail
          all_goals go_ret
          all_goals exact ⟨rfl, H8.out⟩
end Go.Proofs.YtfnjcgakcpadiaaDoor
