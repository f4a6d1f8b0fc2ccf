/-
  The cells of expressions, items, sources, keys, queries, one by one.
-/
import Derived.Test.YtfikgiekigbaoaaTre
namespace Go.Proofs.Ytfikgiekigbaoaa
open Go Go.RowKit

theorem boxAt (w : World) (l : List Value) (t : TypeId) : cellsAt (w.alloc (.cells l.toArray t)) w.heap.size 0 l := by
  intro j hj
  simp [go_sem, hj]

theorem boxAt2 (w : World) (l l' : List Value) (t t' : TypeId) : cellsAt ((w.alloc (.cells l.toArray t)).alloc (.cells l'.toArray t')) w.heap.size 0 l ∧ cellsAt ((w.alloc (.cells l.toArray t)).alloc (.cells l'.toArray t')) (w.heap.size + 1) 0 l' ∧ w.heap.size + 1 < ((w.alloc (.cells l.toArray t)).alloc (.cells l'.toArray t')).heap.size := by
  refine ⟨(boxAt w l t).same (Below.heap_alloc _ _ _ (by simp)), ?_, by simp⟩
  have h := boxAt (w.alloc (.cells l.toArray t)) l' t'
  rwa [show (w.alloc (.cells l.toArray t)).heap.size = w.heap.size + 1 by simp] at h

theorem ex_at {w : World} {b o : Nat} {x : Ex} {ka : Option Addr} {kc : Nat} {sa : Option Addr} {sc : Nat} (h : cellsAt w b o (exV x.f ka kc sa sc)) :
    w.cell? ⟨b, o, none⟩ = some (.int .i64 x.f.kind) ∧ w.cell? ⟨b, o + 1, none⟩ = some (.int .i64 x.f.op) ∧ w.cell? ⟨b, o + 2, none⟩ = some (.bool x.f.neg) ∧ w.cell? ⟨b, o + 3, none⟩ = some (.int .i64 x.f.vk) ∧ w.cell? ⟨b, o + 4, none⟩ = some (.int .i64 x.f.vn) ∧ w.cell? ⟨b, o + 5, none⟩ = some (.string x.f.vt) ∧ w.cell? ⟨b, o + 6, none⟩ = some (.string x.f.qual) ∧ w.cell? ⟨b, o + 7, none⟩ = some (.string x.f.name) ∧ w.cell? ⟨b, o + 8, none⟩ = some (.slice ka x.f.kids.length kc) ∧ w.cell? ⟨b, o + 9, none⟩ = some (.slice sa x.f.sub.length sc) :=
  ⟨h 0 (by simp [exV]), h 1 (by simp [exV]), h 2 (by simp [exV]), h 3 (by simp [exV]), h 4 (by simp [exV]), h 5 (by simp [exV]), h 6 (by simp [exV]), h 7 (by simp [exV]), h 8 (by simp [exV]), h 9 (by simp [exV])⟩

theorem ex_at0 {w : World} {b : Nat} {x : Ex} {ka : Option Addr} {kc : Nat} {sa : Option Addr} {sc : Nat} (h : cellsAt w b 0 (exV x.f ka kc sa sc)) :
    w.cell? ⟨b, 0, none⟩ = some (.int .i64 x.f.kind) ∧ w.cell? ⟨b, 1, none⟩ = some (.int .i64 x.f.op) ∧ w.cell? ⟨b, 2, none⟩ = some (.bool x.f.neg) ∧ w.cell? ⟨b, 3, none⟩ = some (.int .i64 x.f.vk) ∧ w.cell? ⟨b, 4, none⟩ = some (.int .i64 x.f.vn) ∧ w.cell? ⟨b, 5, none⟩ = some (.string x.f.vt) ∧ w.cell? ⟨b, 6, none⟩ = some (.string x.f.qual) ∧ w.cell? ⟨b, 7, none⟩ = some (.string x.f.name) ∧ w.cell? ⟨b, 8, none⟩ = some (.slice ka x.f.kids.length kc) ∧ w.cell? ⟨b, 9, none⟩ = some (.slice sa x.f.sub.length sc) :=
  ⟨h 0 (by simp [exV]), h 1 (by simp [exV]), h 2 (by simp [exV]), h 3 (by simp [exV]), h 4 (by simp [exV]), h 5 (by simp [exV]), h 6 (by simp [exV]), h 7 (by simp [exV]), h 8 (by simp [exV]), h 9 (by simp [exV])⟩

theorem it_at {w : World} {b o : Nat} {x : ItF Ex} {ka : Option Addr} {kc : Nat} {sa : Option Addr} {sc : Nat} (h : cellsAt w b o (.bool x.star :: .string x.qual :: (exV x.e.f ka kc sa sc ++ [.string x.nm]))) :
    w.cell? ⟨b, o, none⟩ = some (.bool x.star) ∧ w.cell? ⟨b, o + 1, none⟩ = some (.string x.qual) ∧ w.cell? ⟨b, o + 2, none⟩ = some (.int .i64 x.e.f.kind) ∧ w.cell? ⟨b, o + 3, none⟩ = some (.int .i64 x.e.f.op) ∧ w.cell? ⟨b, o + 4, none⟩ = some (.bool x.e.f.neg) ∧ w.cell? ⟨b, o + 5, none⟩ = some (.int .i64 x.e.f.vk) ∧ w.cell? ⟨b, o + 6, none⟩ = some (.int .i64 x.e.f.vn) ∧ w.cell? ⟨b, o + 7, none⟩ = some (.string x.e.f.vt) ∧ w.cell? ⟨b, o + 8, none⟩ = some (.string x.e.f.qual) ∧ w.cell? ⟨b, o + 9, none⟩ = some (.string x.e.f.name) ∧ w.cell? ⟨b, o + 10, none⟩ = some (.slice ka x.e.f.kids.length kc) ∧ w.cell? ⟨b, o + 11, none⟩ = some (.slice sa x.e.f.sub.length sc) ∧ w.cell? ⟨b, o + 12, none⟩ = some (.string x.nm) :=
  ⟨h 0 (by simp [exV]), h 1 (by simp [exV]), h 2 (by simp [exV]), h 3 (by simp [exV]), h 4 (by simp [exV]), h 5 (by simp [exV]), h 6 (by simp [exV]), h 7 (by simp [exV]), h 8 (by simp [exV]), h 9 (by simp [exV]), h 10 (by simp [exV]), h 11 (by simp [exV]), h 12 (by simp [exV])⟩

theorem it_at0 {w : World} {b : Nat} {x : ItF Ex} {ka : Option Addr} {kc : Nat} {sa : Option Addr} {sc : Nat} (h : cellsAt w b 0 (.bool x.star :: .string x.qual :: (exV x.e.f ka kc sa sc ++ [.string x.nm]))) :
    w.cell? ⟨b, 0, none⟩ = some (.bool x.star) ∧ w.cell? ⟨b, 1, none⟩ = some (.string x.qual) ∧ w.cell? ⟨b, 2, none⟩ = some (.int .i64 x.e.f.kind) ∧ w.cell? ⟨b, 3, none⟩ = some (.int .i64 x.e.f.op) ∧ w.cell? ⟨b, 4, none⟩ = some (.bool x.e.f.neg) ∧ w.cell? ⟨b, 5, none⟩ = some (.int .i64 x.e.f.vk) ∧ w.cell? ⟨b, 6, none⟩ = some (.int .i64 x.e.f.vn) ∧ w.cell? ⟨b, 7, none⟩ = some (.string x.e.f.vt) ∧ w.cell? ⟨b, 8, none⟩ = some (.string x.e.f.qual) ∧ w.cell? ⟨b, 9, none⟩ = some (.string x.e.f.name) ∧ w.cell? ⟨b, 10, none⟩ = some (.slice ka x.e.f.kids.length kc) ∧ w.cell? ⟨b, 11, none⟩ = some (.slice sa x.e.f.sub.length sc) ∧ w.cell? ⟨b, 12, none⟩ = some (.string x.nm) :=
  ⟨h 0 (by simp [exV]), h 1 (by simp [exV]), h 2 (by simp [exV]), h 3 (by simp [exV]), h 4 (by simp [exV]), h 5 (by simp [exV]), h 6 (by simp [exV]), h 7 (by simp [exV]), h 8 (by simp [exV]), h 9 (by simp [exV]), h 10 (by simp [exV]), h 11 (by simp [exV]), h 12 (by simp [exV])⟩

theorem so_at {w : World} {b o : Nat} {x : SoF Ex} {oa : Option Addr} {oc : Nat} (h : cellsAt w b o ([.string x.table, .string x.nm, .slice oa x.on.length oc])) :
    w.cell? ⟨b, o, none⟩ = some (.string x.table) ∧ w.cell? ⟨b, o + 1, none⟩ = some (.string x.nm) ∧ w.cell? ⟨b, o + 2, none⟩ = some (.slice oa x.on.length oc) :=
  ⟨h 0 (by simp), h 1 (by simp), h 2 (by simp)⟩

theorem so_at0 {w : World} {b : Nat} {x : SoF Ex} {oa : Option Addr} {oc : Nat} (h : cellsAt w b 0 ([.string x.table, .string x.nm, .slice oa x.on.length oc])) :
    w.cell? ⟨b, 0, none⟩ = some (.string x.table) ∧ w.cell? ⟨b, 1, none⟩ = some (.string x.nm) ∧ w.cell? ⟨b, 2, none⟩ = some (.slice oa x.on.length oc) :=
  ⟨h 0 (by simp), h 1 (by simp), h 2 (by simp)⟩

theorem ke_at {w : World} {b o : Nat} {x : KeF Ex} {ka : Option Addr} {kc : Nat} {sa : Option Addr} {sc : Nat} (h : cellsAt w b o (exV x.e.f ka kc sa sc ++ [.bool x.desc])) :
    w.cell? ⟨b, o, none⟩ = some (.int .i64 x.e.f.kind) ∧ w.cell? ⟨b, o + 1, none⟩ = some (.int .i64 x.e.f.op) ∧ w.cell? ⟨b, o + 2, none⟩ = some (.bool x.e.f.neg) ∧ w.cell? ⟨b, o + 3, none⟩ = some (.int .i64 x.e.f.vk) ∧ w.cell? ⟨b, o + 4, none⟩ = some (.int .i64 x.e.f.vn) ∧ w.cell? ⟨b, o + 5, none⟩ = some (.string x.e.f.vt) ∧ w.cell? ⟨b, o + 6, none⟩ = some (.string x.e.f.qual) ∧ w.cell? ⟨b, o + 7, none⟩ = some (.string x.e.f.name) ∧ w.cell? ⟨b, o + 8, none⟩ = some (.slice ka x.e.f.kids.length kc) ∧ w.cell? ⟨b, o + 9, none⟩ = some (.slice sa x.e.f.sub.length sc) ∧ w.cell? ⟨b, o + 10, none⟩ = some (.bool x.desc) :=
  ⟨h 0 (by simp [exV]), h 1 (by simp [exV]), h 2 (by simp [exV]), h 3 (by simp [exV]), h 4 (by simp [exV]), h 5 (by simp [exV]), h 6 (by simp [exV]), h 7 (by simp [exV]), h 8 (by simp [exV]), h 9 (by simp [exV]), h 10 (by simp [exV])⟩

theorem ke_at0 {w : World} {b : Nat} {x : KeF Ex} {ka : Option Addr} {kc : Nat} {sa : Option Addr} {sc : Nat} (h : cellsAt w b 0 (exV x.e.f ka kc sa sc ++ [.bool x.desc])) :
    w.cell? ⟨b, 0, none⟩ = some (.int .i64 x.e.f.kind) ∧ w.cell? ⟨b, 1, none⟩ = some (.int .i64 x.e.f.op) ∧ w.cell? ⟨b, 2, none⟩ = some (.bool x.e.f.neg) ∧ w.cell? ⟨b, 3, none⟩ = some (.int .i64 x.e.f.vk) ∧ w.cell? ⟨b, 4, none⟩ = some (.int .i64 x.e.f.vn) ∧ w.cell? ⟨b, 5, none⟩ = some (.string x.e.f.vt) ∧ w.cell? ⟨b, 6, none⟩ = some (.string x.e.f.qual) ∧ w.cell? ⟨b, 7, none⟩ = some (.string x.e.f.name) ∧ w.cell? ⟨b, 8, none⟩ = some (.slice ka x.e.f.kids.length kc) ∧ w.cell? ⟨b, 9, none⟩ = some (.slice sa x.e.f.sub.length sc) ∧ w.cell? ⟨b, 10, none⟩ = some (.bool x.desc) :=
  ⟨h 0 (by simp [exV]), h 1 (by simp [exV]), h 2 (by simp [exV]), h 3 (by simp [exV]), h 4 (by simp [exV]), h 5 (by simp [exV]), h 6 (by simp [exV]), h 7 (by simp [exV]), h 8 (by simp [exV]), h 9 (by simp [exV]), h 10 (by simp [exV])⟩

theorem qu_at {w : World} {b o : Nat} {x : QuF Ex} {ia : Option Addr} {ic : Nat} {fa : Option Addr} {fc : Nat} {wa : Option Addr} {wc : Nat} {oa : Option Addr} {oc : Nat} (h : cellsAt w b o (quV x ia ic fa fc wa wc oa oc)) :
    w.cell? ⟨b, o, none⟩ = some (.bool x.distinct) ∧ w.cell? ⟨b, o + 1, none⟩ = some (.slice ia x.items.length ic) ∧ w.cell? ⟨b, o + 2, none⟩ = some (.slice fa x.src.length fc) ∧ w.cell? ⟨b, o + 3, none⟩ = some (.slice wa x.whr.length wc) ∧ w.cell? ⟨b, o + 4, none⟩ = some (.slice oa x.ord.length oc) ∧ w.cell? ⟨b, o + 5, none⟩ = some (.int .i64 x.limit) :=
  ⟨h 0 (by simp [quV]), h 1 (by simp [quV]), h 2 (by simp [quV]), h 3 (by simp [quV]), h 4 (by simp [quV]), h 5 (by simp [quV])⟩

theorem qu_at0 {w : World} {b : Nat} {x : QuF Ex} {ia : Option Addr} {ic : Nat} {fa : Option Addr} {fc : Nat} {wa : Option Addr} {wc : Nat} {oa : Option Addr} {oc : Nat} (h : cellsAt w b 0 (quV x ia ic fa fc wa wc oa oc)) :
    w.cell? ⟨b, 0, none⟩ = some (.bool x.distinct) ∧ w.cell? ⟨b, 1, none⟩ = some (.slice ia x.items.length ic) ∧ w.cell? ⟨b, 2, none⟩ = some (.slice fa x.src.length fc) ∧ w.cell? ⟨b, 3, none⟩ = some (.slice wa x.whr.length wc) ∧ w.cell? ⟨b, 4, none⟩ = some (.slice oa x.ord.length oc) ∧ w.cell? ⟨b, 5, none⟩ = some (.int .i64 x.limit) :=
  ⟨h 0 (by simp [quV]), h 1 (by simp [quV]), h 2 (by simp [quV]), h 3 (by simp [quV]), h 4 (by simp [quV]), h 5 (by simp [quV])⟩

end Go.Proofs.Ytfikgiekigbaoaa
