/-
  The keywords: the row that the program splits off one text, and the reference's row; KeyText.
-/
import Derived.Test.YtfnjcgakcpadiaaGreatDoorRows
import Derived.WalkKit
import Derived.WalkLawsBesides
import Derived.WalkSpells
import Derived.Handy
import Derived.Test.YtfnjcgakcpadiaaGreatDoorGBase
import Derived.Test.YtfnjcgakcpadiaaGreatDoorShelf
namespace Go.Proofs.YtfnjcgakcpadiaaGreatDoor
open Go.RowKit

/-- The words, from number 0 (the empty one) on. -/
def kwL : List ByteArray := [⟨#[]⟩, ⟨#[83, 69, 76, 69, 67, 84]⟩, ⟨#[68, 73, 83, 84, 73, 78, 67, 84]⟩, ⟨#[70, 82, 79, 77]⟩, ⟨#[74, 79, 73, 78]⟩, ⟨#[79, 78]⟩, ⟨#[87, 72, 69, 82, 69]⟩, ⟨#[79, 82, 68, 69, 82]⟩, ⟨#[66, 89]⟩, ⟨#[65, 83, 67]⟩, ⟨#[68, 69, 83, 67]⟩, ⟨#[76, 73, 77, 73, 84]⟩, ⟨#[65, 83]⟩, ⟨#[65, 78, 68]⟩, ⟨#[79, 82]⟩, ⟨#[78, 79, 84]⟩, ⟨#[73, 83]⟩, ⟨#[73, 78]⟩, ⟨#[66, 69, 84, 87, 69, 69, 78]⟩, ⟨#[69, 88, 73, 83, 84, 83]⟩, ⟨#[78, 85, 76, 76]⟩, ⟨#[84, 82, 85, 69]⟩, ⟨#[70, 65, 76, 83, 69]⟩, ⟨#[73, 78, 83, 69, 82, 84]⟩, ⟨#[73, 78, 84, 79]⟩, ⟨#[86, 65, 76, 85, 69, 83]⟩, ⟨#[85, 80, 68, 65, 84, 69]⟩, ⟨#[83, 69, 84]⟩, ⟨#[68, 69, 76, 69, 84, 69]⟩]
def kwT : ByteArray := ⟨#[83, 69, 76, 69, 67, 84, 32, 68, 73, 83, 84, 73, 78, 67, 84, 32, 70, 82, 79, 77, 32, 74, 79, 73, 78, 32, 79, 78, 32, 87, 72, 69, 82, 69, 32, 79, 82, 68, 69, 82, 32, 66, 89, 32, 65, 83, 67, 32, 68, 69, 83, 67, 32, 76, 73, 77, 73, 84, 32, 65, 83, 32, 65, 78, 68, 32, 79, 82, 32, 78, 79, 84, 32, 73, 83, 32, 73, 78, 32, 66, 69, 84, 87, 69, 69, 78, 32, 69, 88, 73, 83, 84, 83, 32, 78, 85, 76, 76, 32, 84, 82, 85, 69, 32, 70, 65, 76, 83, 69, 32, 73, 78, 83, 69, 82, 84, 32, 73, 78, 84, 79, 32, 86, 65, 76, 85, 69, 83, 32, 85, 80, 68, 65, 84, 69, 32, 83, 69, 84, 32, 68, 69, 76, 69, 84, 69]⟩
def kw (k : Nat) : ByteArray := kwL.getD k ByteArray.empty

theorem kw_count : Lib.countB kwT ⟨#[32]⟩ = 27 := by kernel_rfl
theorem kw_split : Lib.splitB ⟨#[32]⟩ 0 27 kwT = kwL.tail := by kernel_rfl

set_option maxRecDepth 100000 in
theorem implKeywords (m : Int) (w : World) (hm : w.cell? ⟨0, 0, none⟩ = some (.int .i64 m)) :
    Calls Tryz.prog 70 #[] w fun e w' => e = .returned (.slice (some ⟨w.heap.size, 0, none⟩) 28 28) ∧ w' = w.alloc (.cells (kwL.tail.map Value.string).toArray 9) := by
  go_enter Tryz.func70, Tryz.ntmps70
  go_wp2_with fail
  refine (Tryz.strings_Split kwT ⟨#[32]⟩ m w (by decide) hm (by decide)).mono ?_
  rintro e w1 ⟨rfl, rfl⟩
  rw [kw_count, kw_split]
  go_wp2_with fail
  go_ret
  exact ⟨rfl, rfl⟩

theorem kw_cell (w : World) (t : TypeId) (j : Nat) (hj : j < 28) : (w.alloc (.cells (kwL.tail.map Value.string).toArray t)).cell? ⟨w.heap.size, j, none⟩ = some (.string (kw (j + 1))) := by
  have h : (kwL.tail.map Value.string).toArray[j]? = some (.string (kw (j + 1))) := by
    have hl : j + 1 < kwL.length := by show j + 1 < 29; omega
    have e : kwL[j + 1]? = some (kw (j + 1)) := by
      unfold kw
      rw [List.getD, List.getElem?_eq_getElem hl]
      rfl
    simp [e]
  have hh : (w.alloc (.cells (kwL.tail.map Value.string).toArray t)).heap[w.heap.size]? = some (.cells (kwL.tail.map Value.string).toArray t) := by
    show (w.heap.push _)[w.heap.size]? = _
    simp
  unfold World.cell?
  rw [hh]
  exact h

end Go.Proofs.YtfnjcgakcpadiaaGreatDoor