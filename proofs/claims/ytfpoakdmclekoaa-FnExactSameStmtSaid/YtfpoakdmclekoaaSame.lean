/-
  Equality of trees, as a Bool. No program text in sight.
-/
import Derived.Lib.SlicesS
import Derived.Test.YtfpoakdmclekoaaTreAt
namespace Go.Proofs.Ytfpoakdmclekoaa
open Go Go.RowKit

open Classical in
/-- Are two things the same? -/
noncomputable def sameB {α : Type} (a b : α) : Bool := decide (a = b)
theorem sameB_ne {α : Type} {a b : α} (h : a ≠ b) : sameB a b = false := by simp [sameB, h]
theorem sameB_eq {α : Type} {a b : α} (h : a = b) : sameB a b = true := by simp [sameB, h]
theorem sameB_t {α : Type} {a b : α} (h : sameB a b = true) : a = b := by simpa [sameB] using h
theorem sameB_f {α : Type} {a b : α} (h : sameB a b = false) : a ≠ b := by simpa [sameB] using h
theorem ne_bytes {x y : ByteArray} (h : ¬ x = y) : (x.toList == y.toList) = false ∧ (x.toList != y.toList) = true := by
  have e : (x.toList == y.toList) = false := by
    cases hb : (x.toList == y.toList)
    · rfl
    · exact absurd ((Lib.bytes_beq_iff x y).1 hb) h
  exact ⟨e, by unfold bne; rw [e]; rfl⟩
theorem ne_int {x y : Int} (h : ¬ x = y) : (x == y) = false ∧ (x != y) = true := by
  have e : (x == y) = false := by simpa using h
  exact ⟨e, by unfold bne; rw [e]; rfl⟩
theorem ne_bool {x y : Bool} (h : ¬ x = y) : (x == y) = false ∧ (x != y) = true := by
  have e : (x == y) = false := by simpa using h
  exact ⟨e, by unfold bne; rw [e]; rfl⟩
theorem Ex.eq_of {x y : Ex} (h0 : x.f.kind = y.f.kind) (h1 : x.f.op = y.f.op) (h2 : x.f.neg = y.f.neg) (h3 : x.f.vk = y.f.vk) (h4 : x.f.vn = y.f.vn) (h5 : x.f.vt = y.f.vt) (h6 : x.f.qual = y.f.qual) (h7 : x.f.name = y.f.name) (h8 : x.f.kids = y.f.kids) (h9 : x.f.sub = y.f.sub) : x = y := by
  refine Ex.ext ?_
  generalize x.f = a at *
  generalize y.f = b at *
  cases a; cases b
  simp_all
theorem ItF.eq_of {x y : ItF Ex} (h0 : x.star = y.star) (h1 : x.qual = y.qual) (h2 : x.nm = y.nm) (h3 : x.e = y.e) : x = y := by cases x; cases y; simp_all
theorem SoF.eq_of {x y : SoF Ex} (h0 : x.table = y.table) (h1 : x.nm = y.nm) (h2 : x.on = y.on) : x = y := by cases x; cases y; simp_all
theorem KeF.eq_of {x y : KeF Ex} (h0 : x.desc = y.desc) (h1 : x.e = y.e) : x = y := by cases x; cases y; simp_all
theorem QuF.eq_of {x y : QuF Ex} (h0 : x.distinct = y.distinct) (h1 : x.limit = y.limit) (h2 : x.items = y.items) (h3 : x.src = y.src) (h4 : x.whr = y.whr) (h5 : x.ord = y.ord) : x = y := by cases x; cases y; simp_all
end Go.Proofs.Ytfpoakdmclekoaa
