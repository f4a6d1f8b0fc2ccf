/-
  KeyOf: the number of a keyword, in the program and in the reference.
-/
import Derived.Test.YtfnjcgakcpadiaaGreatDoorWFnExactKeyText
import Derived.Test.YtfnjcgakcpadiaaGreatDoorFoldC
import Derived.Test.YtfnjcgakcpadiaaGreatDoorIdxS
namespace Go.Proofs.YtfnjcgakcpadiaaGreatDoor
open Go.RowKit

/-- The number of the word, 0 where it is none. -/
def keyNo (f : ByteArray) : Int := Lib.idxOfS kwL.tail f + 1

theorem kw_tail (j : Nat) : kwL.tail.getD j ByteArray.empty = kw (j + 1) := by
  unfold kw
  rw [List.getD, List.getD, List.getElem?_tail]
theorem keyNo_hit (f : ByteArray) (k : Nat) (h1 : 1 ≤ k) (hk : k < 29) (h : kw k = f) (hne : ∀ j, 1 ≤ j → j < k → kw j ≠ f) : keyNo f = (k : Int) := by
  have h2 := Lib.idxOfS_hit kwL.tail 28 (k - 1) f (by omega) (by show 28 ≤ 28; omega) (by rw [kw_tail, show k - 1 + 1 = k by omega]; exact h) (fun j hj => by rw [kw_tail]; exact hne (j + 1) (by omega) (by omega))
  have h3 : kwL.tail.take 28 = kwL.tail := rfl
  rw [h3] at h2
  unfold keyNo
  rw [h2]
  omega
theorem keyNo_miss (f : ByteArray) (h : ∀ j, 1 ≤ j → j < 29 → kw j ≠ f) : keyNo f = 0 := by
  have h2 := Lib.idxOfS_miss kwL.tail 28 f (fun j hj => by rw [kw_tail]; exact h (j + 1) (by omega) (by omega))
  have h3 : kwL.tail.take 28 = kwL.tail := rfl
  rw [h3] at h2
  unfold keyNo
  rw [h2]
  rfl
theorem kw_size : ∀ k, k < 29 → (kw k).size ≤ 8 := by decide +kernel
theorem upAll_size (s : ByteArray) : (upAll s).size = s.size := by
  unfold upAll
  show (List.toArray _).size = s.data.size
  simp
theorem keyNo_long (s : ByteArray) (h : 8 < s.size) : keyNo (upAll s) = 0 :=
  keyNo_miss _ fun j _ h2 e => by
    have h3 := kw_size j h2
    rw [e, upAll_size] at h3
    omega

set_option maxRecDepth 100000 in
set_option maxHeartbeats 800000 in
theorem specKeyOf (s : ByteArray) (w : World) (hs : s.size ≤ 1048576) :
    Calls Tryz.prog 30 #[.string s] w fun e w' => e = .returned (.int .i64 (keyNo (upAll s))) ∧ Below w.heap.size w w' := by
  by_cases h8 : 8 < s.size
  · rw [keyNo_long s h8]
    have h8' : (8 : Int) < s.size := by omega
    clear h8
    go_enter Tryz.func30, Tryz.ntmps30
    go_wp2_with fail
    all_goals go_ret
    all_goals exact ⟨rfl, by go_grown⟩
  · have h8' : ¬ (8 : Int) < s.size := by omega
    clear h8
    go_enter Tryz.func30, Tryz.ntmps30
    go_wp2_with fail
    refine (specFold s hs w).mono ?_
    rintro e w1 ⟨rfl, hb1⟩
    have H1 := hide hb1
    clear hb1
    generalize hff : upAll s = f
    have HFF := hide hff
    clear hff
    go_wp2_with fail
    refine (specWords w1).mono ?_
    rintro e w2 ⟨rfl, rfl⟩
    have hc := fun j hj => kw_cellS w1 9 j hj
    have hb2 : Below w.heap.size w (w1.alloc (.cells (kwL.map Value.string).toArray 9)) := H1.out.alloc H1.out.size _
    generalize (w1.alloc (.cells (kwL.map Value.string).toArray 9)) = W at hc hb2 ⊢
    have HC := hide (And.intro hc hb2)
    clear hc hb2
    go_wp2_with fail
    go_loopw [5] (fun x wz => ∃ k : Nat, x = .int .i64 (k : Int) ∧ 1 ≤ k ∧ k ≤ 29 ∧ Hid (∀ j, 1 ≤ j → j < k → kw j ≠ f) ∧ wz = W) (fun x _ => 30 - (intOf x).toNat)
    case atStart => exact ⟨1, rfl, by omega, by omega, (show ∀ j, 1 ≤ j → j < 1 → kw j ≠ f from fun j h1 h2 => by omega), rfl⟩
    case round =>
      obtain ⟨k, rfl, hk1, hk, hne, rfl⟩ := hrel
      by_cases hlt : k < 29
      · have hlt' : (k : Int) < 29 := by omega
        have ck := HC.out.1 k hlt
        by_cases hf : kw k = f
        · have hno := keyNo_hit f k hk1 hlt hf (fun j h1 h2 => hne.out j h1 h2)
          have hfl : ((kw k).toList == f.toList) = true := by rw [hf]; simp
          have HNO := hide hno
          clear hno
          go_wp2_with fail
          all_goals go_ret
          all_goals refine ⟨?_, HC.out.2⟩
          all_goals rw [HFF.out, HNO.out]
          all_goals rfl
        · have hfn : ¬ (kw k).toList = f.toList := fun e => hf (by
            rw [ByteArray.toList_eq, ByteArray.toList_eq] at e
            cases h1 : kw k with
            | mk a => cases f with
              | mk b => rw [h1] at e; congr; exact Array.toList_inj.mp e)
          have hfl : ((kw k).toList == f.toList) = false := by simpa using hfn
          go_wp2_with fail
          go_roundw
          case rel =>
            refine ⟨k + 1, by go_num, by omega, by omega, ?_, trivial⟩
            show ∀ j, 1 ≤ j → j < k + 1 → kw j ≠ f
            intro j h1 h2
            by_cases hjk : j = k
            · subst hjk; exact hf
            · exact hne.out j h1 (by omega)
          case measure => simp [intOf]; omega
      · have hk29 : k = 29 := by omega
        subst hk29
        go_wp2_with fail
        all_goals go_ret
        all_goals refine ⟨?_, HC.out.2⟩
        all_goals rw [HFF.out, keyNo_miss f (fun j h1 h2 => hne.out j h1 h2)]
        all_goals rfl

set_option maxRecDepth 100000 in
theorem implKeyOf (s : ByteArray) (m : Int) (w : World) (hs : s.size ≤ 1048576) (hm : w.cell? ⟨0, 0, none⟩ = some (.int .i64 m)) :
    Calls Tryz.prog 41 #[.string s] w fun e w' => e = .returned (.int .i64 (keyNo (upAll s))) ∧ Below w.heap.size w w' := by
  go_enter Tryz.func41, Tryz.ntmps41
  go_wp2_with fail
  refine (implKeywords m w hm).mono ?_
  rintro e w1 ⟨rfl, rfl⟩
  have hc := fun j hj => kw_cell w 9 j hj
  have hb2 : Below w.heap.size w (w.alloc (.cells (kwL.tail.map Value.string).toArray 9)) := by go_grown
  have hlt : w.heap.size < (w.alloc (.cells (kwL.tail.map Value.string).toArray 9)).heap.size := by simp
  generalize (w.alloc (.cells (kwL.tail.map Value.string).toArray 9)) = W at hc hb2 hlt ⊢
  have HC := hide (And.intro hc (And.intro hb2 hlt))
  clear hc hb2 hlt
  go_wp2_with fail
  refine (implFold s hs W).mono ?_
  rintro e w2 ⟨rfl, hb3⟩
  have H3 := hide (below_via HC.out.2.1 hb3)
  have hcell : ∀ j, j < kwL.tail.length → w2.cell? ⟨w.heap.size, 0 + j, none⟩ = some (.string (kwL.tail.getD j ByteArray.empty)) := by
    intro j hj
    rw [kw_tail, Nat.zero_add]
    exact (hb3.cell (p := ⟨w.heap.size, j, none⟩) HC.out.2.2).trans (HC.out.1 j hj)
  have hI := slices_Index_string w.heap.size 0 28 28 kwL.tail (upAll s) w2 (by show 28 ≤ 28; omega) (by omega) hcell
  have h3 : kwL.tail.take 28 = kwL.tail := rfl
  rw [h3] at hI
  have hbound : -1 ≤ Lib.idxOfS kwL.tail (upAll s) ∧ Lib.idxOfS kwL.tail (upAll s) ≤ 28 := by
    by_cases h : ∃ k, 1 ≤ k ∧ k < 29 ∧ kw k = upAll s ∧ ∀ j, 1 ≤ j → j < k → kw j ≠ upAll s
    · obtain ⟨k, h1, h2, h4, h5⟩ := h
      have := keyNo_hit (upAll s) k h1 h2 h4 h5
      unfold keyNo at this
      omega
    · have h6 : ∀ k, 1 ≤ k → k < 29 → kw k ≠ upAll s := by
        intro k
        induction k using Nat.strongRecOn with
        | _ k ih => exact fun h1 h2 h4 => h ⟨k, h1, h2, h4, fun j a b => ih j b a (by omega)⟩
      have := keyNo_miss (upAll s) h6
      unfold keyNo at this
      omega
  clear hb3 hcell h3
  have hkn : keyNo (upAll s) = Lib.idxOfS kwL.tail (upAll s) + 1 := rfl
  have HKN := hide hkn
  clear hkn
  generalize Lib.idxOfS kwL.tail (upAll s) = r at hI hbound HKN
  have hw : IntKind.i64.wrap (r + 1) = r + 1 := by rw [IntKind.wrap_i64]; omega
  have hw2 : wrap64 (r + 1) = r + 1 := by simp only [wrap64]; omega
  clear HC
  go_wp2_with fail
  refine hI.mono ?_
  rintro e w3 ⟨rfl, rfl⟩
  go_wp2_with fail
  all_goals go_ret
  all_goals refine ⟨?_, H3.out⟩
  all_goals rw [HKN.out]
  all_goals rfl
end Go.Proofs.YtfnjcgakcpadiaaGreatDoor
