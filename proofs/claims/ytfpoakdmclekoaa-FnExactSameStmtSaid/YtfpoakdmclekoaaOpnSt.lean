/-
  Statements that came in as arguments, opened.
-/
import Derived.Test.YtfpoakdmclekoaaOpn
import Derived.Test.YtfpoakdmclekoaaStm
namespace Go.Proofs.Ytfpoakdmclekoaa
open Go Go.RowKit Go.ChangeShapes Go.WideShapes

section
variable {H : Type} {enc : TypeId × Value → H} {W : World} {spare : Nat → Bool} {held : Bool}
theorem Try.cells_St : Try.prog.cellsOf 59 = 12 := by kernel_rfl
theorem Try.cells_sR : Try.prog.cellsOf 56 = 1 := by kernel_rfl
theorem Try.cells_sS' : Try.prog.cellsOf 57 = 1 := by kernel_rfl
theorem len12 {cs : List Value} (h : cs.length = 12) : ∃ c0 c1 c2 c3 c4 c5 c6 c7 c8 c9 c10 c11, cs = [c0, c1, c2, c3, c4, c5, c6, c7, c8, c9, c10, c11] := by
  match cs, h with
  | [c0, c1, c2, c3, c4, c5, c6, c7, c8, c9, c10, c11], _ => exact ⟨_, _, _, _, _, _, _, _, _, _, _, _, rfl⟩
theorem opnSg {m : Nat} {cs : List Value} {x : DataW H × List MemPlace} (h : DataW.trod enc Try.prog W 0 spare held m 9 cs = some x) : ∃ z, sgC maxLen z cs := by
  obtain ⟨s, rfl, _, hs⟩ := DataW.trod_string Try.underlying9 h
  exact ⟨s, rfl, hs⟩
theorem opnRe {N m : Nat} (HO : Opens enc W spare held N m) {cs : List Value} {x : DataW H × List MemPlace} (h : DataW.trod enc Try.prog W 0 spare held m 24 cs = some x) : ∃ z, reC W 0 maxLen (ExB W 0 maxLen N) z cs := by
  obtain ⟨a, c, xs, rfl, hr⟩ := rowP_of (C := exC (ExB W 0 maxLen N)) Try.underlying24 Try.cells_E (by omega) h (fun k hk cs' y hy => HO k hk cs' y hy)
  exact ⟨xs, a, c, rfl, hr⟩

set_option maxRecDepth 10000 in
theorem opnSt {N m : Nat} (HO : Opens enc W spare held N m) {cs : List Value} {x : DataW H × List MemPlace} (h : DataW.trod enc Try.prog W 0 spare held m 59 cs = some x) :
    ∃ s ia ic fa fc wa wc oa oc ra rc ca cc ta tc ha hc, cs = stV s ia ic fa fc wa wc oa oc ra rc ca cc ta tc ha hc ∧ StB W 0 maxLen (ExB W 0 maxLen N) s ia fa wa oa ra ca ta ha := by
  obtain ⟨ys, f, hfu, _, hlen, hyl, hf⟩ := DataW.trod_struct Try.underlying59 h
  rw [Try.cells_St] at hlen
  have hyl2 : ys.length = 7 := hyl
  obtain ⟨c0, c1, c2, c3, c4, c5, c6, c7, c8, c9, c10, c11, rfl⟩ := len12 hlen
  clear hlen h
  have g0 := fld (hf 0 _ rfl) (by omega)
  simp only [List.getElem_toArray, List.getElem_cons_zero, List.getElem_cons_succ, Try.cells_int] at g0
  obtain ⟨a0, e0, _⟩ := DataW.trod_int Try.underlying3 g0
  simp at e0
  subst e0
  have g1 := fld (hf 1 _ rfl) (by omega)
  simp only [List.getElem_toArray, List.getElem_cons_zero, List.getElem_cons_succ, Try.cells_Q] at g1
  obtain ⟨q, ia, ic, fa, fc, wa, wc, oa, oc, e1, hQ⟩ := opnQu (HO.less (by omega)) g1
  simp [quV] at e1
  obtain ⟨rfl, rfl, rfl, rfl, rfl, rfl⟩ := e1
  have g2 := fld (hf 2 _ rfl) (by omega)
  simp only [List.getElem_toArray, List.getElem_cons_zero, List.getElem_cons_succ, Try.cells_string] at g2
  obtain ⟨a2, e2, _, w2⟩ := DataW.trod_string Try.underlying9 g2
  simp at e2
  subst e2
  have g3 := fld (hf 3 _ rfl) (by omega)
  simp only [List.getElem_toArray, List.getElem_cons_zero, List.getElem_cons_succ, Try.cells_sR] at g3
  obtain ⟨ra, rc, xs3, e3, hr3⟩ := rowP_of (C := reC W 0 maxLen (ExB W 0 maxLen N)) Try.underlying56 Try.cells_sE (by omega) g3 (fun k hk cs' y hy => opnRe (HO.less (by omega)) hy)
  simp at e3
  subst e3
  have g4 := fld (hf 4 _ rfl) (by omega)
  simp only [List.getElem_toArray, List.getElem_cons_zero, List.getElem_cons_succ, Try.cells_sS'] at g4
  obtain ⟨ca, cc, xs4, e4, hr4⟩ := rowP_of (C := sgC maxLen) Try.underlying57 Try.cells_string (by omega) g4 (fun k hk cs' y hy => opnSg hy)
  simp at e4
  subst e4
  have g5 := fld (hf 5 _ rfl) (by omega)
  simp only [List.getElem_toArray, List.getElem_cons_zero, List.getElem_cons_succ, Try.cells_sE] at g5
  obtain ⟨ta, tc, xs5, e5, hr5⟩ := rowP_of (C := exC (ExB W 0 maxLen N)) Try.underlying24 Try.cells_E (by omega) g5 (fun k hk cs' y hy => HO k (by omega) cs' y hy)
  simp at e5
  subst e5
  have g6 := fld (hf 6 _ rfl) (by omega)
  simp only [List.getElem_toArray, List.getElem_cons_zero, List.getElem_cons_succ, Try.cells_sE] at g6
  obtain ⟨ha, hc, xs6, e6, hr6⟩ := rowP_of (C := exC (ExB W 0 maxLen N)) Try.underlying24 Try.cells_E (by omega) g6 (fun k hk cs' y hy => HO k (by omega) cs' y hy)
  simp at e6
  subst e6
  exact ⟨⟨a0, q, a2, xs3, xs4, xs5, xs6⟩, ia, ic, fa, fc, wa, wc, oa, oc, ra, rc, ca, cc, ta, tc, ha, hc, rfl, ⟨w2, hQ, hr3, hr4, hr5, hr6⟩⟩
theorem opnStAll (N k : Nat) (hk : k < N) (cs : List Value) (x : DataW H × List MemPlace) (h : DataW.trod enc Try.prog W 0 spare held k 59 cs = some x) :
    ∃ s ia ic fa fc wa wc oa oc ra rc ca cc ta tc ha hc, cs = stV s ia ic fa fc wa wc oa oc ra rc ca cc ta tc ha hc ∧ StB W 0 maxLen (ExB W 0 maxLen N) s ia fa wa oa ra ca ta ha := opnSt ((opnAll N).less (by omega)) h
end
end Go.Proofs.Ytfpoakdmclekoaa
