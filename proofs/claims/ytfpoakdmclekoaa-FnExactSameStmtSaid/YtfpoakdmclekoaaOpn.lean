/-
  Trees that came in as arguments, opened: how they read says how they lie.
-/
import Derived.Test.YtfpoakdmclekoaaRows
import Derived.WalkKit
import Derived.ProofKit
import Derived.OpenShut
import Derived.ChangeOld
import Derived.Deep.Slices
import Derived.Test.YtfpoakdmclekoaaTreAt
namespace Go.Proofs.Ytfpoakdmclekoaa
open Go Go.RowKit Go.ChangeShapes Go.WideShapes

theorem exists_list {α : Type} (n : Nat) (Q : Nat → α → Prop) (h : ∀ i, i < n → ∃ z, Q i z) : ∃ xs : List α, xs.length = n ∧ ∀ i (h : i < xs.length), Q i xs[i] := by
  induction n with
  | zero => exact ⟨[], rfl, fun i h => absurd h (by simp)⟩
  | succ n ih =>
    obtain ⟨xs, hl, hq⟩ := ih fun i hi => h i (by omega)
    obtain ⟨z, hz⟩ := h n (by omega)
    refine ⟨xs ++ [z], by simp [hl], fun i hi => ?_⟩
    by_cases hin : i < xs.length
    · rw [List.getElem_append_left hin]; exact hq i hin
    · have : i = n := by simp at hi; omega
      subst this
      rw [List.getElem_append_right (by omega)]
      simpa using hz

section
variable {H : Type} {enc : TypeId × Value → H} {W : World} {spare : Nat → Bool} {held : Bool}

theorem rowP_of {P : Program} {α : Type} {C : α → List Value → Prop} {t e : TypeId} {size fuel : Nat} {cs : List Value} {x : DataW H × List MemPlace} (ht : P.underlying t = some (.slice e)) (hsz : P.cellsOf e = size) (hpos : 0 < size)
    (h : DataW.trod enc P W 0 spare held fuel t cs = some x) (hC : ∀ m, m < fuel → ∀ cs' y, DataW.trod enc P W 0 spare held m e cs' = some y → ∃ z, C z cs') :
    ∃ (a : Option Addr) (cap : Nat) (xs : List α), cs = [.slice a xs.length cap] ∧ RowP W 0 maxLen size C xs a := by
  rcases DataW.trod_slice ht h with ⟨rfl, _⟩ | ⟨⟨b, o, sp⟩, len, cap, elems, rest, n, hfu, rfl, rfl, hb, hl, hm, hlen, hel, _, _⟩
  · exact ⟨none, 0, [], rfl, by simp, fun h => absurd h (by simp)⟩
  · have hq : ∀ i, i < len → ∃ z, ∃ cs', C z cs' ∧ cellsAt W b (o + i * size) cs' ∧ sp = none ∧ b < W.heap.size := fun i hi => by
      have h1 := hel i hi
      rw [List.getElem?_eq_getElem (by omega)] at h1
      obtain ⟨cs', h1, h2⟩ := Option.bind_eq_some_iff.1 h1
      obtain ⟨z, hz⟩ := hC n (by omega) cs' _ h2
      rw [hsz] at h1
      obtain ⟨_, hcl, hat⟩ := World.cells?_some h1
      have hlast := hat 0 hpos
      rw [List.getElem?_eq_getElem (by omega)] at hlast
      have hspot : sp = none := by
        have h0 := hel 0 (by omega)
        rw [List.getElem?_eq_getElem (by omega)] at h0
        obtain ⟨cs0, h0, _⟩ := Option.bind_eq_some_iff.1 h0
        rw [hsz] at h0
        obtain ⟨_, hcl0, hat0⟩ := World.cells?_some h0
        have h00 := hat0 0 hpos
        rw [List.getElem?_eq_getElem (by omega)] at h00
        simpa [Addr.add] using World.cell?_spot h00
      subst hspot
      have hadd : ∀ k, (⟨b, o, none⟩ : Addr).add k = ⟨b, o + k, none⟩ := fun k => by unfold Addr.add; split <;> simp_all
      have hadd2 : ∀ i k, (⟨b, i, none⟩ : Addr).add k = ⟨b, i + k, none⟩ := fun i k => by unfold Addr.add; split <;> simp_all
      refine ⟨z, cs', hz, fun j hj => ?_, rfl, ?_⟩
      · have := hat j (by omega)
        rw [hadd, hadd2, List.getElem?_eq_getElem hj] at this
        exact this
      · rw [hadd, hadd2] at hlast
        exact World.block_lt_of_cell? W _ hlast
    obtain ⟨xs, hxl, hxs⟩ := exists_list len _ hq
    refine ⟨some ⟨b, o, sp⟩, cap, xs, by rw [hxl], by omega, fun h0 => ?_⟩
    obtain ⟨_, _, _, hsp, hbW⟩ := hxs 0 h0
    subst hsp
    exact ⟨b, o, rfl, Nat.zero_le _, hbW, fun i hi => by obtain ⟨cs', h1, h2, _⟩ := hxs i hi; exact ⟨cs', h1, h2⟩⟩

theorem fld {P : Program} {n i o k : Nat} {t : TypeId} {cs : List Value} {ys : List (DataW H × List MemPlace)} (h : DataW.trod enc P W 0 spare held n t ((cs.drop o).take k) = ys[i]?) (hi : i < ys.length) :
    DataW.trod enc P W 0 spare held n t ((cs.drop o).take k) = some ys[i] := by rw [h, List.getElem?_eq_getElem hi]

theorem len3 {cs : List Value} (h : cs.length = 3) : ∃ c0 c1 c2, cs = [c0, c1, c2] := by
  match cs, h with
  | [c0, c1, c2], _ => exact ⟨_, _, _, rfl⟩
theorem len6 {cs : List Value} (h : cs.length = 6) : ∃ c0 c1 c2 c3 c4 c5, cs = [c0, c1, c2, c3, c4, c5] := by
  match cs, h with
  | [c0, c1, c2, c3, c4, c5], _ => exact ⟨_, _, _, _, _, _, rfl⟩
theorem len10 {cs : List Value} (h : cs.length = 10) : ∃ c0 c1 c2 c3 c4 c5 c6 c7 c8 c9, cs = [c0, c1, c2, c3, c4, c5, c6, c7, c8, c9] := by
  match cs, h with
  | [c0, c1, c2, c3, c4, c5, c6, c7, c8, c9], _ => exact ⟨_, _, _, _, _, _, _, _, _, _, rfl⟩
theorem len11 {cs : List Value} (h : cs.length = 11) : ∃ c0 c1 c2 c3 c4 c5 c6 c7 c8 c9 c10, cs = [c0, c1, c2, c3, c4, c5, c6, c7, c8, c9, c10] := by
  match cs, h with
  | [c0, c1, c2, c3, c4, c5, c6, c7, c8, c9, c10], _ => exact ⟨_, _, _, _, _, _, _, _, _, _, _, rfl⟩
theorem len13 {cs : List Value} (h : cs.length = 13) : ∃ c0 c1 c2 c3 c4 c5 c6 c7 c8 c9 c10 c11 c12, cs = [c0, c1, c2, c3, c4, c5, c6, c7, c8, c9, c10, c11, c12] := by
  match cs, h with
  | [c0, c1, c2, c3, c4, c5, c6, c7, c8, c9, c10, c11, c12], _ => exact ⟨_, _, _, _, _, _, _, _, _, _, _, _, _, rfl⟩
theorem Try.cells_int : Try.prog.cellsOf 3 = 1 := by kernel_rfl
theorem Try.cells_bool : Try.prog.cellsOf 4 = 1 := by kernel_rfl
theorem Try.cells_string : Try.prog.cellsOf 9 = 1 := by kernel_rfl
theorem Try.cells_V : Try.prog.cellsOf 23 = 3 := by kernel_rfl
theorem Try.cells_E : Try.prog.cellsOf 27 = 10 := by kernel_rfl
theorem Try.cells_Q : Try.prog.cellsOf 43 = 6 := by kernel_rfl
theorem Try.cells_I : Try.prog.cellsOf 115 = 13 := by kernel_rfl
theorem Try.cells_S : Try.prog.cellsOf 118 = 3 := by kernel_rfl
theorem Try.cells_K : Try.prog.cellsOf 121 = 11 := by kernel_rfl
theorem Try.cells_sE : Try.prog.cellsOf 24 = 1 := by kernel_rfl
theorem Try.cells_sQ : Try.prog.cellsOf 25 = 1 := by kernel_rfl
theorem Try.cells_sI : Try.prog.cellsOf 39 = 1 := by kernel_rfl
theorem Try.cells_sS : Try.prog.cellsOf 40 = 1 := by kernel_rfl
theorem Try.cells_sK : Try.prog.cellsOf 41 = 1 := by kernel_rfl

/-- What the readings of smaller fuel say of expressions. -/
def Opens (enc : TypeId × Value → H) (W : World) (spare : Nat → Bool) (held : Bool) (N m : Nat) : Prop := ∀ k, k < m → ∀ cs x, DataW.trod enc Try.prog W 0 spare held k 27 cs = some x → ∃ e, exC (ExB W 0 maxLen N) e cs
theorem Opens.less {N m m' : Nat} (h : Opens enc W spare held N m) (hm : m' ≤ m) : Opens enc W spare held N m' := fun k hk => h k (by omega)

set_option maxRecDepth 10000 in
theorem opnSo {N m : Nat} (HO : Opens enc W spare held N m) {cs : List Value} {x : DataW H × List MemPlace} (h : DataW.trod enc Try.prog W 0 spare held m 118 cs = some x) : ∃ z, soC W 0 maxLen (ExB W 0 maxLen N) z cs := by
  obtain ⟨ys, f, hfu, _, hlen, hyl, hf⟩ := DataW.trod_struct Try.underlying118 h
  rw [Try.cells_S] at hlen
  have hyl2 : ys.length = 3 := hyl
  obtain ⟨c0, c1, c2, rfl⟩ := len3 hlen
  clear hlen h
  have g0 := fld (hf 0 _ rfl) (by omega)
  simp only [List.getElem_toArray, List.getElem_cons_zero, List.getElem_cons_succ, Try.cells_string] at g0
  obtain ⟨a0, e0, _, w0⟩ := DataW.trod_string Try.underlying9 g0
  simp at e0
  subst e0
  have g1 := fld (hf 1 _ rfl) (by omega)
  simp only [List.getElem_toArray, List.getElem_cons_zero, List.getElem_cons_succ, Try.cells_string] at g1
  obtain ⟨a1, e1, _, w1⟩ := DataW.trod_string Try.underlying9 g1
  simp at e1
  subst e1
  have g2 := fld (hf 2 _ rfl) (by omega)
  simp only [List.getElem_toArray, List.getElem_cons_zero, List.getElem_cons_succ, Try.cells_sE] at g2
  obtain ⟨ra2, rc2, xs2, e2, hr2⟩ := rowP_of (C := exC (ExB W 0 maxLen N)) Try.underlying24 Try.cells_E (by omega) g2 (fun k hk cs' y hy => HO k (by omega) cs' y hy)
  simp at e2
  subst e2
  exact ⟨⟨a0, a1, xs2⟩, ra2, rc2, rfl, ⟨w0, w1⟩, hr2⟩

set_option maxRecDepth 10000 in
theorem opnIt {N m : Nat} (HO : Opens enc W spare held N m) {cs : List Value} {x : DataW H × List MemPlace} (h : DataW.trod enc Try.prog W 0 spare held m 115 cs = some x) : ∃ z, itC maxLen (ExB W 0 maxLen N) z cs := by
  obtain ⟨ys, f, hfu, _, hlen, hyl, hf⟩ := DataW.trod_struct Try.underlying115 h
  rw [Try.cells_I] at hlen
  have hyl2 : ys.length = 4 := hyl
  obtain ⟨c0, c1, c2, c3, c4, c5, c6, c7, c8, c9, c10, c11, c12, rfl⟩ := len13 hlen
  clear hlen h
  have g0 := fld (hf 0 _ rfl) (by omega)
  simp only [List.getElem_toArray, List.getElem_cons_zero, List.getElem_cons_succ, Try.cells_bool] at g0
  obtain ⟨a0, e0, _⟩ := DataW.trod_bool Try.underlying4 g0
  simp at e0
  subst e0
  have g1 := fld (hf 1 _ rfl) (by omega)
  simp only [List.getElem_toArray, List.getElem_cons_zero, List.getElem_cons_succ, Try.cells_string] at g1
  obtain ⟨a1, e1, _, w1⟩ := DataW.trod_string Try.underlying9 g1
  simp at e1
  subst e1
  have g2 := fld (hf 2 _ rfl) (by omega)
  simp only [List.getElem_toArray, List.getElem_cons_zero, List.getElem_cons_succ, Try.cells_E] at g2
  obtain ⟨ex, ka, kc, sa, sc, e2, hE⟩ := HO f (by omega) _ _ g2
  simp [exV] at e2
  obtain ⟨rfl, rfl, rfl, rfl, rfl, rfl, rfl, rfl, rfl, rfl⟩ := e2
  have g3 := fld (hf 3 _ rfl) (by omega)
  simp only [List.getElem_toArray, List.getElem_cons_zero, List.getElem_cons_succ, Try.cells_string] at g3
  obtain ⟨a3, e3, _, w3⟩ := DataW.trod_string Try.underlying9 g3
  simp at e3
  subst e3
  exact ⟨⟨a0, a1, ex, a3⟩, ka, kc, sa, sc, rfl, ⟨w1, w3⟩, hE⟩

set_option maxRecDepth 10000 in
theorem opnKe {N m : Nat} (HO : Opens enc W spare held N m) {cs : List Value} {x : DataW H × List MemPlace} (h : DataW.trod enc Try.prog W 0 spare held m 121 cs = some x) : ∃ z, keC (ExB W 0 maxLen N) z cs := by
  obtain ⟨ys, f, hfu, _, hlen, hyl, hf⟩ := DataW.trod_struct Try.underlying121 h
  rw [Try.cells_K] at hlen
  have hyl2 : ys.length = 2 := hyl
  obtain ⟨c0, c1, c2, c3, c4, c5, c6, c7, c8, c9, c10, rfl⟩ := len11 hlen
  clear hlen h
  have g0 := fld (hf 0 _ rfl) (by omega)
  simp only [List.getElem_toArray, List.getElem_cons_zero, List.getElem_cons_succ, Try.cells_E] at g0
  obtain ⟨ex, ka, kc, sa, sc, e0, hE⟩ := HO f (by omega) _ _ g0
  simp [exV] at e0
  obtain ⟨rfl, rfl, rfl, rfl, rfl, rfl, rfl, rfl, rfl, rfl⟩ := e0
  have g1 := fld (hf 1 _ rfl) (by omega)
  simp only [List.getElem_toArray, List.getElem_cons_zero, List.getElem_cons_succ, Try.cells_bool] at g1
  obtain ⟨a1, e1, _⟩ := DataW.trod_bool Try.underlying4 g1
  simp at e1
  subst e1
  exact ⟨⟨ex, a1⟩, ka, kc, sa, sc, rfl, hE⟩

set_option maxRecDepth 10000 in
theorem opnQu {N m : Nat} (HO : Opens enc W spare held N m) {cs : List Value} {x : DataW H × List MemPlace} (h : DataW.trod enc Try.prog W 0 spare held m 43 cs = some x) : ∃ z, quC W 0 maxLen (ExB W 0 maxLen N) z cs := by
  obtain ⟨ys, f, hfu, _, hlen, hyl, hf⟩ := DataW.trod_struct Try.underlying43 h
  rw [Try.cells_Q] at hlen
  have hyl2 : ys.length = 6 := hyl
  obtain ⟨c0, c1, c2, c3, c4, c5, rfl⟩ := len6 hlen
  clear hlen h
  have g0 := fld (hf 0 _ rfl) (by omega)
  simp only [List.getElem_toArray, List.getElem_cons_zero, List.getElem_cons_succ, Try.cells_bool] at g0
  obtain ⟨a0, e0, _⟩ := DataW.trod_bool Try.underlying4 g0
  simp at e0
  subst e0
  have g1 := fld (hf 1 _ rfl) (by omega)
  simp only [List.getElem_toArray, List.getElem_cons_zero, List.getElem_cons_succ, Try.cells_sI] at g1
  obtain ⟨ra1, rc1, xs1, e1, hr1⟩ := rowP_of (C := itC maxLen (ExB W 0 maxLen N)) Try.underlying39 Try.cells_I (by omega) g1 (fun k hk cs' y hy => opnIt (HO.less (by omega)) hy)
  simp at e1
  subst e1
  have g2 := fld (hf 2 _ rfl) (by omega)
  simp only [List.getElem_toArray, List.getElem_cons_zero, List.getElem_cons_succ, Try.cells_sS] at g2
  obtain ⟨ra2, rc2, xs2, e2, hr2⟩ := rowP_of (C := soC W 0 maxLen (ExB W 0 maxLen N)) Try.underlying40 Try.cells_S (by omega) g2 (fun k hk cs' y hy => opnSo (HO.less (by omega)) hy)
  simp at e2
  subst e2
  have g3 := fld (hf 3 _ rfl) (by omega)
  simp only [List.getElem_toArray, List.getElem_cons_zero, List.getElem_cons_succ, Try.cells_sE] at g3
  obtain ⟨ra3, rc3, xs3, e3, hr3⟩ := rowP_of (C := exC (ExB W 0 maxLen N)) Try.underlying24 Try.cells_E (by omega) g3 (fun k hk cs' y hy => HO k (by omega) cs' y hy)
  simp at e3
  subst e3
  have g4 := fld (hf 4 _ rfl) (by omega)
  simp only [List.getElem_toArray, List.getElem_cons_zero, List.getElem_cons_succ, Try.cells_sK] at g4
  obtain ⟨ra4, rc4, xs4, e4, hr4⟩ := rowP_of (C := keC (ExB W 0 maxLen N)) Try.underlying41 Try.cells_K (by omega) g4 (fun k hk cs' y hy => opnKe (HO.less (by omega)) hy)
  simp at e4
  subst e4
  have g5 := fld (hf 5 _ rfl) (by omega)
  simp only [List.getElem_toArray, List.getElem_cons_zero, List.getElem_cons_succ, Try.cells_int] at g5
  obtain ⟨a5, e5, _⟩ := DataW.trod_int Try.underlying3 g5
  simp at e5
  subst e5
  exact ⟨⟨a0, xs1, xs2, xs3, xs4, a5⟩, ra1, rc1, ra2, rc2, ra3, rc3, ra4, rc4, rfl, ⟨hr1, hr2, hr3, hr4⟩⟩

set_option maxRecDepth 10000 in
theorem opnEx {N m : Nat} (HO : Opens enc W spare held N m) {cs : List Value} {x : DataW H × List MemPlace} (h : DataW.trod enc Try.prog W 0 spare held m 27 cs = some x) : ∃ e, exC (ExB W 0 maxLen (N + 1)) e cs := by
  obtain ⟨ys, f, hfu, _, hlen, hyl, hf⟩ := DataW.trod_struct Try.underlying27 h
  rw [Try.cells_E] at hlen
  have hyl2 : ys.length = 8 := hyl
  obtain ⟨c0, c1, c2, c3, c4, c5, c6, c7, c8, c9, rfl⟩ := len10 hlen
  clear hlen h
  have g0 := fld (hf 0 _ rfl) (by omega)
  simp only [List.getElem_toArray, List.getElem_cons_zero, List.getElem_cons_succ, Try.cells_int] at g0
  obtain ⟨a0, e0, _⟩ := DataW.trod_int Try.underlying3 g0
  simp at e0
  subst e0
  have g1 := fld (hf 1 _ rfl) (by omega)
  simp only [List.getElem_toArray, List.getElem_cons_zero, List.getElem_cons_succ, Try.cells_int] at g1
  obtain ⟨a1, e1, _⟩ := DataW.trod_int Try.underlying3 g1
  simp at e1
  subst e1
  have g2 := fld (hf 2 _ rfl) (by omega)
  simp only [List.getElem_toArray, List.getElem_cons_zero, List.getElem_cons_succ, Try.cells_bool] at g2
  obtain ⟨a2, e2, _⟩ := DataW.trod_bool Try.underlying4 g2
  simp at e2
  subst e2
  have g3 := fld (hf 3 _ rfl) (by omega)
  simp only [List.getElem_toArray, List.getElem_cons_zero, List.getElem_cons_succ, Try.cells_V] at g3
  obtain ⟨zs, f2, hfu2, _, hlen2, hzl, hf2⟩ := DataW.trod_struct Try.underlying23 g3
  have hzl2 : zs.length = 3 := hzl
  have q0 := fld (hf2 0 _ rfl) (by omega)
  simp only [List.getElem_toArray, List.getElem_cons_zero, List.getElem_cons_succ, Try.cells_int] at q0
  obtain ⟨b0, p0, _⟩ := DataW.trod_int Try.underlying3 q0
  simp at p0
  subst p0
  have q1 := fld (hf2 1 _ rfl) (by omega)
  simp only [List.getElem_toArray, List.getElem_cons_zero, List.getElem_cons_succ, Try.cells_int] at q1
  obtain ⟨b1, p1, _⟩ := DataW.trod_int Try.underlying3 q1
  simp at p1
  subst p1
  have q2 := fld (hf2 2 _ rfl) (by omega)
  simp only [List.getElem_toArray, List.getElem_cons_zero, List.getElem_cons_succ, Try.cells_string] at q2
  obtain ⟨b2, p2, _, wt⟩ := DataW.trod_string Try.underlying9 q2
  simp at p2
  subst p2
  have g4 := fld (hf 4 _ rfl) (by omega)
  simp only [List.getElem_toArray, List.getElem_cons_zero, List.getElem_cons_succ, Try.cells_string] at g4
  obtain ⟨a4, e4, _, w4⟩ := DataW.trod_string Try.underlying9 g4
  simp at e4
  subst e4
  have g5 := fld (hf 5 _ rfl) (by omega)
  simp only [List.getElem_toArray, List.getElem_cons_zero, List.getElem_cons_succ, Try.cells_string] at g5
  obtain ⟨a5, e5, _, w5⟩ := DataW.trod_string Try.underlying9 g5
  simp at e5
  subst e5
  have g6 := fld (hf 6 _ rfl) (by omega)
  simp only [List.getElem_toArray, List.getElem_cons_zero, List.getElem_cons_succ, Try.cells_sE] at g6
  obtain ⟨ra6, rc6, xs6, e6, hr6⟩ := rowP_of (C := exC (ExB W 0 maxLen N)) Try.underlying24 Try.cells_E (by omega) g6 (fun k hk cs' y hy => HO k (by omega) cs' y hy)
  simp at e6
  subst e6
  have g7 := fld (hf 7 _ rfl) (by omega)
  simp only [List.getElem_toArray, List.getElem_cons_zero, List.getElem_cons_succ, Try.cells_sQ] at g7
  obtain ⟨ra7, rc7, xs7, e7, hr7⟩ := rowP_of (C := quC W 0 maxLen (ExB W 0 maxLen N)) Try.underlying25 Try.cells_Q (by omega) g7 (fun k hk cs' y hy => opnQu (HO.less (by omega)) hy)
  simp at e7
  subst e7
  exact ⟨.mk ⟨a0, a1, a2, b0, b1, b2, a4, a5, xs6, xs7⟩, ra6, rc6, ra7, rc7, rfl, ⟨wt, w4, w5⟩, hr6, hr7⟩

theorem opnAll : ∀ N, Opens enc W spare held N N
  | 0 => fun k hk => absurd hk (by omega)
  | N + 1 => fun k hk cs x h => by
    obtain ⟨e, ka, kc, sa, sc, rfl, he⟩ := opnEx ((opnAll N).less (show k ≤ N by omega)) h
    exact ⟨e, ka, kc, sa, sc, rfl, he⟩
theorem opnQuAll (N k : Nat) (hk : k < N) (cs : List Value) (x : DataW H × List MemPlace) (h : DataW.trod enc Try.prog W 0 spare held k 43 cs = some x) :
    ∃ q ia ic fa fc wa wc oa oc, cs = quV q ia ic fa fc wa wc oa oc ∧ QuB W 0 maxLen (ExB W 0 maxLen N) q ia fa wa oa := opnQu ((opnAll N).less (by omega)) h
end
end Go.Proofs.Ytfpoakdmclekoaa
