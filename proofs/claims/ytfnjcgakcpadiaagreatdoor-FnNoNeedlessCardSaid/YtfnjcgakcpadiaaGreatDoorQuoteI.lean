/-
  Quoting, in the program and in the reference.
-/
import Derived.Test.YtfnjcgakcpadiaaGreatDoorGQuo
import Derived.Test.YtfnjcgakcpadiaaGreatDoorShelf
import Derived.Test.YtfnjcgakcpadiaaGreatDoorWFnExactKeyText
namespace Go.Proofs.YtfnjcgakcpadiaaGreatDoor
open Go.RowKit

theorem quote_glue (b : UInt8) (l : List UInt8) : (⟨#[b]⟩ : ByteArray) ++ ⟨l.toArray⟩ ++ ⟨#[b]⟩ = ⟨(b :: (l ++ [b])).toArray⟩ := by
  have h : ((⟨#[b]⟩ : ByteArray) ++ ⟨l.toArray⟩ ++ ⟨#[b]⟩).data = (b :: (l ++ [b])).toArray := by
    rw [ByteArray.data_append, ByteArray.data_append]
    simp
  generalize (⟨#[b]⟩ : ByteArray) ++ ⟨l.toArray⟩ ++ ⟨#[b]⟩ = x at h
  cases x with
  | mk d => rw [← h]

theorem dbl_size (b : UInt8) (s : ByteArray) : (⟨(s.data.toList.flatMap (dbl b)).toArray⟩ : ByteArray).size ≤ 2 * s.size := by
  have h1 := dbl_len b s.data.toList
  have h2 : s.data.toList.length = s.size := Array.length_toList
  have h3 : (⟨(s.data.toList.flatMap (dbl b)).toArray⟩ : ByteArray).size = (s.data.toList.flatMap (dbl b)).length := by simp [ByteArray.size]
  omega

set_option maxRecDepth 100000 in
set_option maxHeartbeats 800000 in
theorem implQuoted (s : ByteArray) (b : UInt8) (m : Int) (w : World) (hs : s.size ≤ 1048576) (hm : w.cell? ⟨0, 0, none⟩ = some (.int .i64 m)) :
    Calls Tryz.prog 68 #[.string s, .string ⟨#[b]⟩] w fun e w' => e = .returned (.string ⟨(quoteL b s).toArray⟩) ∧ Below w.heap.size w w' := by
  have hcount : Lib.countB s ⟨#[b]⟩ ≤ s.size + 1 := by
    have h1 := Lib.count_le s.data.toList [b]
    have h2 : s.data.toList.length = s.size := Array.length_toList
    have h3 : Lib.countB s ⟨#[b]⟩ = Lib.count s.data.toList [b] := rfl
    omega
  have hb1 : (⟨#[b]⟩ : ByteArray).size = 1 := rfl
  have hb2 : ((⟨#[b]⟩ : ByteArray) ++ ⟨#[b]⟩).size = 2 := rfl
  have hrep := Tryz.strings_ReplaceAll s ⟨#[b]⟩ (⟨#[b]⟩ ++ ⟨#[b]⟩) m w (by omega) hm (by rw [hb1]; omega) (by rw [hb2]; omega)
  have hr : Lib.replaceAll s.data.toList (⟨#[b]⟩ : ByteArray).data.toList ((⟨#[b]⟩ : ByteArray) ++ ⟨#[b]⟩).data.toList = s.data.toList.flatMap (dbl b) := dbl_replaceAll b s.data.toList
  rw [hr] at hrep
  have hg := quote_glue b (s.data.toList.flatMap (dbl b))
  have hd := dbl_size b s
  have HG := hide hg
  clear hg hr hcount
  generalize hX : (⟨(s.data.toList.flatMap (dbl b)).toArray⟩ : ByteArray) = X at hrep hd HG
  go_enter Tryz.func68, Tryz.ntmps68
  go_wp2_with fail
  refine hrep.mono ?_
  rintro e w1 ⟨rfl, hb⟩
  have H1 := hide hb
  clear hb hrep
  go_wp2_with fail
  all_goals go_ret
  all_goals refine ⟨?_, H1.out⟩
  all_goals exact congrArg (fun x => Ending.returned (Value.string x)) HG.out
end Go.Proofs.YtfnjcgakcpadiaaGreatDoor
