/-
  The walk of FnVar.
-/
import Derived.Test.YtnamikhhbedpeaaDrawV
import Derived.Test.YtnamikhhbedpeaaVarL
import Derived.Test.YtnamikhhbedpeaaWGetVarI
import Derived.Deep.CutRange
import Derived.Deep.RegionWith
namespace Go.Proofs.Ytnamikhhbedpeaa
open Go.RowKit Go.Lib

theorem pv_toList {u : Nat} {s : ByteArray} (hs : s = ⟨(pvf u).toArray⟩) : s.toList = pvf u := by rw [ByteArray.toList_eq, hs]

theorem pv_size {u : Nat} {s : ByteArray} (hu : u < 18446744073709551616) (hs : s = ⟨(pvf u).toArray⟩) : 0 < s.size ∧ s.size ≤ 10 := by
  have h1 := pvf_len64 u hu
  have h2 := (pvf_len 9 u (by omega)).2
  have h3 : s.size = (pvf u).length := by rw [hs]; simp [ByteArray.size]
  omega

theorem pv_bad {u m : Nat} {s : ByteArray} (hs : s = ⟨(pvf u).toArray⟩) (hm : m < s.size) (hm1 : s.size = m + 1) (x : UInt8) (hx : (x.toNat : Int) = s[m].toNat % 128 + 128) :
    (gvI (s.extract 0 m ++ ⟨[x, 0].toArray⟩) 0).2.2 = false ∧ (gvI (s.extract 0 m) 0).2.2 = false := by
  obtain ⟨l, c, e, hc, hl, h0⟩ := pvf_shape u
  have hsl := pv_toList hs
  have hlen : l.length = m := by
    have h3 : s.size = (pvf u).length := by rw [hs]; simp [ByteArray.size]
    rw [e] at h3
    simp at h3; omega
  have e1 : (s.extract 0 m).toList = l := by
    rw [ext_toList, hsl, e, List.drop_zero, List.take_append_of_le_length (by omega), List.take_of_length_le (by omega)]
  refine ⟨gvI_long (l := l ++ [x]) (c := 0) ?_ ?_ rfl (by simp), gvI_cut hl e1⟩
  · intro y hy
    rcases List.mem_append.mp hy with hy | hy
    · exact hl y hy
    · have : y = x := by simpa using hy
      subst this
      omega
  · rw [ByteArray.toList_eq, ByteArray.data_append, Array.toList_append, ← ByteArray.toList_eq, e1]
    simp

theorem pv_there {u : Nat} {s : ByteArray} (hu : u < 18446744073709551616) (hs : s = ⟨(pvf u).toArray⟩) : gvI ({ data := #[97, 98] } ++ s ++ { data := #[99] }) 2 = (u, 2 + s.size, true) := by
  have h3 : s.size = (pvf u).length := by rw [hs]; simp [ByteArray.size]
  have hsl := pv_toList hs
  have hT : (({ data := #[97, 98] } ++ s ++ { data := #[99] } : ByteArray)).toList = 97 :: 98 :: (pvf u ++ [99]) := by
    rw [ByteArray.toList_eq, ByteArray.data_append, ByteArray.data_append, Array.toList_append, Array.toList_append, ← ByteArray.toList_eq (bs := s), hsl]
    rfl
  generalize hT2 : ({ data := #[97, 98] } ++ s ++ { data := #[99] } : ByteArray) = t at hT ⊢
  have hsz : t.size = (pvf u).length + 3 := by
    have h4 : t.size = t.toList.length := by rw [ByteArray.toList_eq]; simp only [ByteArray.size, Array.length_toList]
    rw [h4, hT]
    simp only [List.length_cons, List.length_append, List.length_nil]
  have hl := pvf_len64 u hu
  have key := gv_back t 2 u 0 0 (fun i h => by
    refine ⟨by omega, ?_⟩
    have h4 : t[2 + 0 + i]'(by omega) = t.toList[2 + i]'(by rw [hT]; simp; omega) := by
      simp [ByteArray.toList_eq, ByteArray.getElem_eq_getElem_data]
    rw [h4]
    have h5 : t.toList[2 + i]'(by rw [hT]; simp; omega) = (97 :: 98 :: (pvf u ++ [99]))[2 + i]'(by simp; omega) := by congr 1
    rw [h5]
    have h6 : (97 :: 98 :: (pvf u ++ [99]))[2 + i]'(by simp; omega) = (pvf u ++ [99])[i]'(by simp; omega) := by
      simp [show 2 + i = i + 1 + 1 by omega]
    rw [h6, List.getElem_append_left]) (by omega) (by simp) (by simpa using hu) (by
    rw [ext_toList, hT]
    simp [show 2 + 0 + (pvf u).length = (pvf u).length + 1 + 1 by omega])
  rw [gvI, if_pos (by omega), show (2 : Int).toNat = 2 from rfl, key, h3]
  simp

set_option maxRecDepth 100000 in
set_option maxHeartbeats 2000000 in
theorem fnVar.walk (a : Option Addr) (n c : Nat) (zs : List Int) (w : World) (w0 : IsRow .u8 w a n c zs) :
    Calls Try.prog 6 #[.slice a n c] w fun e w' => e = .returned (.bool true) ∧ Below w.heap.size w w' := by
  have hlen := w0.len_le
  by_cases hbig : 1048576 < n
  · go_enter Try.func6, Try.ntmps6
    go_wp2_with (go_at_call 13; refine (bigC _ _ _ hlen).mono ?_; rintro e w1 ⟨rfl, rfl⟩)
    all_goals go_ret
    all_goals exact ⟨rfl, by go_grown⟩
  · have HC := hide (Code.of_row w0 (by omega))
    go_enter Try.func6, Try.ntmps6
    go_wp2_with (go_at_call 13; refine (bigC _ _ _ hlen).mono ?_; rintro e w1 ⟨rfl, rfl⟩)
    refine (drawPutVarC c HC.out (Nat.le_refl _)).mono ?_
    rintro e w1 ⟨u, rfl, hu, hb1⟩
    have H1 := hide hb1
    have HU := hide hu
    clear hb1 hu HC hbig
    go_wp2_with fail
    refine (implPutVar u HU.out _).mono ?_
    rintro e w2 ⟨rfl, hb⟩
    have H2 := hide (below_via H1.out hb)
    clear hb
    obtain ⟨s, hs⟩ : ∃ s : ByteArray, Hid (s = ⟨(pvf u).toArray⟩) := ⟨_, rfl⟩
    rw [← hs.out]
    have hL : 0 < s.size ∧ s.size ≤ 10 := pv_size HU.out hs.out
    obtain ⟨hL0, hL1⟩ := hL
    go_wp2_with fail
    refine (implGetVar _ 2 _ (by rw [ByteArray.size_append, ByteArray.size_append, show ({ data := #[97, 98] } : ByteArray).size = 2 from rfl, show ({ data := #[99] } : ByteArray).size = 1 from rfl]; omega) (by omega)).mono ?_
    rintro e w3 ⟨rfl, hb⟩
    have H3 := hide (below_via H2.out hb)
    clear hb
    have hthere : gvI ({ data := #[97, 98] } ++ s ++ { data := #[99] }) 2 = (u, 2 + s.size, true) := pv_there HU.out hs.out
    rw [hthere]
    clear hthere
    obtain ⟨m, hm⟩ : ∃ m : Nat, (s.size : Int) - 1 = (m : Int) := ⟨s.size - 1, by omega⟩
    have hmw : IntKind.i64.wrap (m : Int) = (m : Int) := by rw [IntKind.wrap_i64]; omega
    have hm0 : m < s.size := by omega
    have hm1 : m ≤ s.size := by omega
    have hm2 : (m : Int) < s.size := by omega
    have hm3 : (m : Int) ≤ s.size := by omega
    go_wp2_with fail
    obtain ⟨x, hx⟩ : ∃ x : UInt8, (x.toNat : Int) = bits .or .u8 (s[m].toNat : Int) 128 := by
      have hb := UInt8.toNat_lt s[m]
      refine ⟨UInt8.ofNat (s[m].toNat % 128 + 128), ?_⟩
      rw [bits_or_u8_128 _ (by omega) (by omega), u8n _ (by omega)]
      omega
    have hat : BytesAt (w3.alloc (.cells #[.int .u8 (bits .or .u8 (s[m].toNat : Int) 128), .int .u8 0] 5)).drew w3.heap.size [x, 0] := by
      rw [← hx]
      refine BytesAt.drew ⟨by simp, fun i hi => ?_, fun i hi => ?_⟩
      · match i, hi with
        | 0, _ => go_simp
        | 1, _ => go_simp
      · match i, hi with
        | 0, _ => go_simp
        | 1, _ => go_simp
    have hcs := hat.string (P := Try.prog) 22 5 9 Try.underlying22 Try.underlying5 Try.underlying9 2 2 (by simp)
    have HB := hide (Below.refl w3.heap.size w3)
    go_cut [8] from 37 to 51 (fun s8 wx => s8 = .string (s.extract 0 m ++ ⟨[x, 0].toArray⟩) ∧ Below w3.heap.size w3 wx)
    case first =>
      go_region_with fail
      all_goals go_wp2_with fail
      all_goals go_meet
      all_goals exact ⟨rfl, by go_grown⟩
    case rest =>
      obtain ⟨rfl, hb⟩ := hcut
      rename World => w4
      have H4 := hide (below_via H3.out hb)
      clear hb hat hcs HB
      obtain ⟨hlong, hcutt⟩ := pv_bad hs.out hm0 (by omega) x (by rw [hx, bits_or_u8_128 _ (by omega) (by have := UInt8.toNat_lt s[m]; omega)])
      have hlong2 : (gvI (s.extract 0 m ++ { data := #[x, 0] }) 0).2.2 = false := hlong
      go_wp2_with fail
      refine (implGetVar _ 0 _ (by rw [ByteArray.size_append, show ({ data := #[x, 0] } : ByteArray).size = 2 from rfl, ByteArray.size_extract]; omega) (by omega)).mono ?_
      rintro e w5 ⟨rfl, hb⟩
      have H5 := hide (below_via H4.out hb)
      clear hb
      rw [hlong2]
      go_wp2_with fail
      refine (implGetVar _ 0 _ (by rw [ByteArray.size_extract]; omega) (by omega)).mono ?_
      rintro e w6 ⟨rfl, hb⟩
      have H6 := hide (below_via H5.out hb)
      clear hb
      rw [hcutt]
      go_wp2_with fail
      all_goals go_ret
      all_goals exact ⟨rfl, H6.out⟩
end Go.Proofs.Ytnamikhhbedpeaa
