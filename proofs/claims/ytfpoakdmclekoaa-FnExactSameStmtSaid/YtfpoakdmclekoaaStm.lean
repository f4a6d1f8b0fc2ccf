/-
  Statements, and how they lie in memory. No program text in sight.
-/
import Derived.Test.YtfpoakdmclekoaaBlk
namespace Go.Proofs.Ytfpoakdmclekoaa
open Go Go.RowKit

structure StF where
  kind : Int
  q : QuF Ex
  table : ByteArray
  rows : List (List Ex)
  cols : List ByteArray
  sets : List Ex
  whr : List Ex
def sgC (M : Nat) (x : ByteArray) (cs : List Value) : Prop := cs = [.string x] ∧ x.size ≤ M
def reC (w : World) (lo M : Nat) (P : Ex → Option Addr → Option Addr → Prop) (x : List Ex) (cs : List Value) : Prop := ∃ oa oc, cs = [.slice oa x.length oc] ∧ RowP w lo M 10 (exC P) x oa
structure StB (w : World) (lo M : Nat) (P : Ex → Option Addr → Option Addr → Prop) (s : StF) (ia fa wa oa ra ca ta ha : Option Addr) : Prop where
  tab : s.table.size ≤ M
  qu : QuB w lo M P s.q ia fa wa oa
  rows : RowP w lo M 1 (reC w lo M P) s.rows ra
  cols : RowP w lo M 1 (sgC M) s.cols ca
  sets : RowP w lo M 10 (exC P) s.sets ta
  whr : RowP w lo M 10 (exC P) s.whr ha
def stV (s : StF) (ia : Option Addr) (ic : Nat) (fa : Option Addr) (fc : Nat) (wa : Option Addr) (wc : Nat) (oa : Option Addr) (oc : Nat) (ra : Option Addr) (rc : Nat) (ca : Option Addr) (cc : Nat) (ta : Option Addr) (tc : Nat) (ha : Option Addr) (hc : Nat) : List Value := [.int .i64 s.kind, .bool s.q.distinct, .slice ia s.q.items.length ic, .slice fa s.q.src.length fc, .slice wa s.q.whr.length wc, .slice oa s.q.ord.length oc, .int .i64 s.q.limit, .string s.table, .slice ra s.rows.length rc, .slice ca s.cols.length cc, .slice ta s.sets.length tc, .slice ha s.whr.length hc]
theorem reC.imp {w w' : World} {lo lo' M : Nat} {P P' : Ex → Option Addr → Option Addr → Prop} (hl : lo' ≤ lo) (hs : w.heap.size ≤ w'.heap.size) (hb : ∀ b, lo ≤ b → b < w.heap.size → w'.heap[b]? = w.heap[b]?) (hP : ∀ e ka sa, P e ka sa → P' e ka sa) {x : List Ex} {cs : List Value} (h : reC w lo M P x cs) : reC w' lo' M P' x cs := by
  obtain ⟨oa, oc, rfl, h⟩ := h
  exact ⟨oa, oc, rfl, h.imp hl (Nat.le_refl _) hs hb fun _ _ => exC.imp hP⟩
theorem rowRe_keeps {w w' : World} {lo lo' M n : Nat} {xs : List (List Ex)} {a : Option Addr} (h : RowP w lo M 1 (reC w lo M (ExB w lo M n)) xs a) (hk : Keeps lo w w') (hl : lo' ≤ lo) : RowP w' lo' M 1 (reC w' lo' M (ExB w' lo' M n)) xs a :=
  h.imp hl (Nat.le_refl _) hk.size hk.block fun _ _ => reC.imp hl hk.size hk.block fun _ _ _ h => h.keeps hk hl
theorem rowSg_keeps {w w' : World} {lo lo' M : Nat} {xs : List ByteArray} {a : Option Addr} (h : RowP w lo M 1 (sgC M) xs a) (hk : Keeps lo w w') (hl : lo' ≤ lo) : RowP w' lo' M 1 (sgC M) xs a :=
  h.imp hl (Nat.le_refl _) hk.size hk.block fun _ _ h => h
theorem StB.keeps {w w' : World} {lo lo' M n : Nat} {s : StF} {ia fa wa oa ra ca ta ha : Option Addr} (h : StB w lo M (ExB w lo M n) s ia fa wa oa ra ca ta ha) (hk : Keeps lo w w') (hl : lo' ≤ lo) : StB w' lo' M (ExB w' lo' M n) s ia fa wa oa ra ca ta ha :=
  ⟨h.tab, h.qu.keeps hk hl, rowRe_keeps h.rows hk hl, rowSg_keeps h.cols hk hl, rowEx_keeps h.sets hk hl, rowEx_keeps h.whr hk hl⟩
theorem StB.below {w w' : World} {lo M n : Nat} {s : StF} {ia fa wa oa ra ca ta ha : Option Addr} (h : StB w lo M (ExB w lo M n) s ia fa wa oa ra ca ta ha) (hb : Below w.heap.size w w') : StB w' lo M (ExB w' lo M n) s ia fa wa oa ra ca ta ha :=
  h.keeps (Keeps.of hb) (Nat.le_refl _)
theorem StF.eq_of {x y : StF} (h0 : x.kind = y.kind) (h1 : x.table = y.table) (h2 : x.q = y.q) (h3 : x.rows = y.rows) (h4 : x.cols = y.cols) (h5 : x.sets = y.sets) (h6 : x.whr = y.whr) : x = y := by cases x; cases y; simp_all

theorem re_at {w : World} {b o : Nat} {x : List Ex} {oa : Option Addr} {oc : Nat} (h : cellsAt w b o ([.slice oa x.length oc])) :
    w.cell? ⟨b, o, none⟩ = some (.slice oa x.length oc) :=
  h 0 (by simp [stV])

theorem re_at0 {w : World} {b : Nat} {x : List Ex} {oa : Option Addr} {oc : Nat} (h : cellsAt w b 0 ([.slice oa x.length oc])) :
    w.cell? ⟨b, 0, none⟩ = some (.slice oa x.length oc) :=
  h 0 (by simp [stV])

theorem sg_at {w : World} {b o : Nat} {x : ByteArray}  (h : cellsAt w b o ([.string x])) :
    w.cell? ⟨b, o, none⟩ = some (.string x) :=
  h 0 (by simp [stV])

theorem sg_at0 {w : World} {b : Nat} {x : ByteArray}  (h : cellsAt w b 0 ([.string x])) :
    w.cell? ⟨b, 0, none⟩ = some (.string x) :=
  h 0 (by simp [stV])

theorem st_at {w : World} {b o : Nat} {x : StF} {ia : Option Addr} {ic : Nat} {fa : Option Addr} {fc : Nat} {wa : Option Addr} {wc : Nat} {oa : Option Addr} {oc : Nat} {ra : Option Addr} {rc : Nat} {ca : Option Addr} {cc : Nat} {ta : Option Addr} {tc : Nat} {ha : Option Addr} {hc : Nat} (h : cellsAt w b o (stV x ia ic fa fc wa wc oa oc ra rc ca cc ta tc ha hc)) :
    w.cell? ⟨b, o, none⟩ = some (.int .i64 x.kind) ∧ w.cell? ⟨b, o + 1, none⟩ = some (.bool x.q.distinct) ∧ w.cell? ⟨b, o + 2, none⟩ = some (.slice ia x.q.items.length ic) ∧ w.cell? ⟨b, o + 3, none⟩ = some (.slice fa x.q.src.length fc) ∧ w.cell? ⟨b, o + 4, none⟩ = some (.slice wa x.q.whr.length wc) ∧ w.cell? ⟨b, o + 5, none⟩ = some (.slice oa x.q.ord.length oc) ∧ w.cell? ⟨b, o + 6, none⟩ = some (.int .i64 x.q.limit) ∧ w.cell? ⟨b, o + 7, none⟩ = some (.string x.table) ∧ w.cell? ⟨b, o + 8, none⟩ = some (.slice ra x.rows.length rc) ∧ w.cell? ⟨b, o + 9, none⟩ = some (.slice ca x.cols.length cc) ∧ w.cell? ⟨b, o + 10, none⟩ = some (.slice ta x.sets.length tc) ∧ w.cell? ⟨b, o + 11, none⟩ = some (.slice ha x.whr.length hc) :=
  ⟨h 0 (by simp [stV]), h 1 (by simp [stV]), h 2 (by simp [stV]), h 3 (by simp [stV]), h 4 (by simp [stV]), h 5 (by simp [stV]), h 6 (by simp [stV]), h 7 (by simp [stV]), h 8 (by simp [stV]), h 9 (by simp [stV]), h 10 (by simp [stV]), h 11 (by simp [stV])⟩

theorem st_at0 {w : World} {b : Nat} {x : StF} {ia : Option Addr} {ic : Nat} {fa : Option Addr} {fc : Nat} {wa : Option Addr} {wc : Nat} {oa : Option Addr} {oc : Nat} {ra : Option Addr} {rc : Nat} {ca : Option Addr} {cc : Nat} {ta : Option Addr} {tc : Nat} {ha : Option Addr} {hc : Nat} (h : cellsAt w b 0 (stV x ia ic fa fc wa wc oa oc ra rc ca cc ta tc ha hc)) :
    w.cell? ⟨b, 0, none⟩ = some (.int .i64 x.kind) ∧ w.cell? ⟨b, 1, none⟩ = some (.bool x.q.distinct) ∧ w.cell? ⟨b, 2, none⟩ = some (.slice ia x.q.items.length ic) ∧ w.cell? ⟨b, 3, none⟩ = some (.slice fa x.q.src.length fc) ∧ w.cell? ⟨b, 4, none⟩ = some (.slice wa x.q.whr.length wc) ∧ w.cell? ⟨b, 5, none⟩ = some (.slice oa x.q.ord.length oc) ∧ w.cell? ⟨b, 6, none⟩ = some (.int .i64 x.q.limit) ∧ w.cell? ⟨b, 7, none⟩ = some (.string x.table) ∧ w.cell? ⟨b, 8, none⟩ = some (.slice ra x.rows.length rc) ∧ w.cell? ⟨b, 9, none⟩ = some (.slice ca x.cols.length cc) ∧ w.cell? ⟨b, 10, none⟩ = some (.slice ta x.sets.length tc) ∧ w.cell? ⟨b, 11, none⟩ = some (.slice ha x.whr.length hc) :=
  ⟨h 0 (by simp [stV]), h 1 (by simp [stV]), h 2 (by simp [stV]), h 3 (by simp [stV]), h 4 (by simp [stV]), h 5 (by simp [stV]), h 6 (by simp [stV]), h 7 (by simp [stV]), h 8 (by simp [stV]), h 9 (by simp [stV]), h 10 (by simp [stV]), h 11 (by simp [stV])⟩

end Go.Proofs.Ytfpoakdmclekoaa
