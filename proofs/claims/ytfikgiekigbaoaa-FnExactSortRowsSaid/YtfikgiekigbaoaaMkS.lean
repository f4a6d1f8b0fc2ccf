/-
  markValueSS, heldValueSS: the marks that a law writes into rows that lie apart.
-/
import Derived.Test.YtfikgiekigbaoaaSrtN
import Derived.Test.YtfikgiekigbaoaaMkV
namespace Go.Proofs.Ytfikgiekigbaoaa
open Go Go.RowKit

/-- Three times the number of elements of the first rows. -/
def KK (ps : Array Rw) : Nat → Nat
  | 0 => 0
  | i + 1 => KK ps i + 3 * (atR ps i).2.length
theorem KK_le {w : World} {g : Nat} {ps : Array Rw} (h : SegA w g ps) (i : Nat) (hi : i ≤ ps.size) : KK ps i ≤ 3145728 * i := by
  induction i with
  | zero => simp [KK]
  | succ i ih =>
    obtain ⟨_, _, _, h1, _⟩ := h.row i (by omega)
    have := h1.1
    have := ih (by omega)
    unfold KK
    omega

theorem RvN.short {w : World} {g : Nat} {p : Rw} (h : RvN w g p) : p.2.length ≤ 1048576 := let ⟨_, _, _, h1, _⟩ := h; h1.1

/-- Row p lies in block b. -/
def InB (p : Rw) (b : Nat) : Prop := 0 < p.2.length ∧ ∃ n c, p.1 = .slice (some ⟨b, 0, none⟩) n c
/-- Row p bears the marks from k on. -/
def MrkR (w : World) (p : Rw) (k : Int) : Prop := ∃ a c, p.1 = .slice a p.2.length c ∧ (0 < p.2.length → ∃ b, a = some ⟨b, 0, none⟩ ∧ MrkV w b p.2.length k)
theorem MrkR.stays {w w' : World} {p : Rw} {k : Int} (h : MrkR w p k) (hs : w.heap.size ≤ w'.heap.size) (hb : ∀ b, InB p b → b < w.heap.size → w'.heap[b]? = w.heap[b]?) : MrkR w' p k := by
  obtain ⟨a, c, h1, h2⟩ := h
  refine ⟨a, c, h1, fun hp => ?_⟩
  obtain ⟨b, e, hm⟩ := h2 hp
  exact ⟨b, e, hm.stays hs (hb b ⟨hp, _, c, by rw [h1, e]⟩ hm.lt)⟩

/-- Blocks below lo, and all that hold none of the first j rows, lie as they did. -/
structure Fr (lo j : Nat) (ps : Array Rw) (w w' : World) : Prop where
  below : Below lo w w'
  block : ∀ b, b < w.heap.size → (∀ i, i < j → ¬ InB (atR ps i) b) → w'.heap[b]? = w.heap[b]?

/-- All rows bear their marks. -/
structure MrkS (w : World) (g : Nat) (ps : Array Rw) (k : Int) : Prop where
  lt : g < w.heap.size
  cell : ∀ i, i < ps.size → w.cell? ⟨g, i, none⟩ = some (atR ps i).1
  row : ∀ i, i < ps.size → MrkR w (atR ps i) (k + KK ps i)
  le : ∀ i, i ≤ ps.size → KK ps i ≤ 3145728 * i
  short : ∀ i, i < ps.size → (atR ps i).2.length ≤ 1048576
theorem MrkS.below {w w' : World} {g : Nat} {ps : Array Rw} {k : Int} (h : MrkS w g ps k) (hb : Below w.heap.size w w') : MrkS w' g ps k :=
  ⟨Nat.lt_of_lt_of_le h.lt hb.size, fun i hi => (hb.cell (p := ⟨g, i, none⟩) h.lt).trans (h.cell i hi), fun i hi => (h.row i hi).stays hb.size fun b _ hl => hb.block b hl, h.le, h.short⟩

theorem Own.apt {w : World} {lo g : Nat} {ps : Array Rw} (h : Own w lo g ps) {i j : Nat} (hij : i < j) (hj : j < ps.size) {b : Nat} (h1 : InB (atR ps i) b) (h2 : InB (atR ps j) b) : False := by
  have hp := List.pairwise_iff_getElem.1 h.apart i j (by simpa using (show i < ps.size by omega)) (by simpa using hj) hij
  obtain ⟨l1, n1, c1, e1⟩ := h1
  obtain ⟨l2, n2, c2, e2⟩ := h2
  rw [atR_get _ _ (by omega)] at l1 e1
  rw [atR_get _ _ hj] at l2 e2
  simp only [Array.getElem_toList] at hp
  exact hp b n1 c1 n2 c2 e1 e2 l1 l2
/-- Where row j lies. -/
theorem Own.where_ {w : World} {lo g : Nat} {ps : Array Rw} (h : Own w lo g ps) {j : Nat} (hj : j < ps.size) (hp : 0 < (atR ps j).2.length) : ∃ b c, (atR ps j).1 = .slice (some ⟨b, 0, none⟩) (atR ps j).2.length c ∧ lo ≤ b ∧ Room w b ((atR ps j).2.length * 3) ∧ b ≠ g := by
  obtain ⟨a, c, h1, h2, h3⟩ := h.seg.row j hj
  obtain ⟨b, o, rfl, _⟩ := h2.2 hp
  have ho := h.zero _ (atR_mem hj) b o c _ h1
  subst ho
  have hm := h.rows _ (atR_mem hj) b _ c h1 hp
  exact ⟨b, c, h1, hm.1, hm.2, h3 b 0 rfl hp⟩
theorem Own.notg {w : World} {lo g : Nat} {ps : Array Rw} (h : Own w lo g ps) {j : Nat} (hj : j < ps.size) : ¬ InB (atR ps j) g := by
  rintro ⟨hp, n, c, e⟩
  obtain ⟨b, c', e', _, _, hne⟩ := h.where_ hj hp
  rw [e'] at e
  injection e with e _ _
  injection e with e
  injection e with e _ _
  exact hne e

/-- A round over a row of no elements. -/
theorem Fr.quiet {lo g j : Nat} {ps : Array Rw} {w wr w2 : World} {k : Int} (h : Own w lo g ps) (hj : j < ps.size) (hf : Fr lo j ps w wr) (hm : ∀ i, i < j → MrkR wr (atR ps i) (k + KK ps i)) (hp : (atR ps j).2.length = 0) (hb : Below wr.heap.size wr w2) (hs : lo ≤ wr.heap.size) :
    Fr lo (j + 1) ps w w2 ∧ ∀ i, i < j + 1 → MrkR w2 (atR ps i) (k + KK ps i) := by
  refine ⟨⟨hf.below.trans (hb.mono hs), fun b hl hn => ?_⟩, fun i hi => ?_⟩
  · rw [hb.block b (Nat.lt_of_lt_of_le hl hf.below.size)]
    exact hf.block b hl fun i hi => hn i (by omega)
  · by_cases e : i = j
    · subst e
      obtain ⟨a, c, h1, _⟩ := h.seg.row i hj
      exact ⟨a, c, h1, fun h => by omega⟩
    · exact (hm i (by omega)).stays hb.size fun b _ hl => hb.block b hl
/-- A round over a row of some. -/
theorem Fr.marked {lo g j b c : Nat} {ps : Array Rw} {w wr w2 : World} {k : Int} (h : Own w lo g ps) (hj : j < ps.size) (hf : Fr lo j ps w wr) (hm : ∀ i, i < j → MrkR wr (atR ps i) (k + KK ps i)) (hp : 0 < (atR ps j).2.length)
    (he : (atR ps j).1 = .slice (some ⟨b, 0, none⟩) (atR ps j).2.length c) (hlo : lo ≤ b) (hv : MrkV w2 b (atR ps j).2.length (k + KK ps j)) (hg : wr.grownBy w2 (some b)) (hs : lo ≤ wr.heap.size) :
    Fr lo (j + 1) ps w w2 ∧ ∀ i, i < j + 1 → MrkR w2 (atR ps i) (k + KK ps i) := by
  have hin : InB (atR ps j) b := ⟨hp, _, c, he⟩
  refine ⟨⟨Below.grown hf.below hg hs (fun k hk => by injection hk with hk; subst hk; exact hlo), fun b' hl hn => ?_⟩, fun i hi => ?_⟩
  · rw [hg.block b' (Nat.lt_of_lt_of_le hl hf.below.size) (fun e => hn j (by omega) (by injection e with e; subst e; exact hin))]
    exact hf.block b' hl fun i hi => hn i (by omega)
  · by_cases e : i = j
    · subst e
      exact ⟨_, c, he, fun _ => ⟨b, rfl, hv⟩⟩
    · exact (hm i (by omega)).stays hg.size fun b' hi' hl => hg.block b' hl (fun e2 => h.apt (show i < j by omega) hj hi' (by injection e2 with e2; subst e2; exact hin))

set_option maxRecDepth 100000 in
set_option maxHeartbeats 1600000 in
theorem markValueSSC {w : World} {lo g c : Nat} {ps : Array Rw} (h : Own w lo g ps) (hlo : lo ≤ w.heap.size) (k : Int) (hk : 0 ≤ k) (hk' : k ≤ 1048577) :
    Calls Try.prog 22 #[.slice (some ⟨g, 0, none⟩) ps.size c, .int .i64 k] w fun e w' => e = .returned (.int .i64 (k + KK ps ps.size)) ∧ MrkS w' g ps k ∧ Fr lo ps.size ps w w' := by
  have H := hide h
  have hl := h.len
  have HLO := hide hlo
  obtain ⟨n, hn⟩ : ∃ n, Hid (ps.size = n) := ⟨_, hide rfl⟩
  rw [hn.out] at hl ⊢
  clear h hlo
  go_enter Try.func22, Try.ntmps22
  go_wp2_with fail
  go_loopw [1, 5] (fun y x wr => ∃ (j : Nat) (s : Int), x = .int .i64 j ∧ y = .int .i64 s ∧ j ≤ n ∧ Hid (s = k + KK ps j) ∧ Hid (Fr lo j ps w wr ∧ ∀ i, i < j → MrkR wr (atR ps i) (k + KK ps i))) (fun _ x _ => n - (intOf x).toNat)
  case atStart => exact ⟨0, k, rfl, rfl, by omega, (show k = k + ((0 : Nat) : Int) by omega), ⟨Below.refl _ _, fun _ _ _ => rfl⟩, fun i hi => absurd hi (by omega)⟩
  case round =>
    obtain ⟨j, s, rfl, rfl, hj, HSS, HS⟩ := hrel
    by_cases hlt : j < n
    · have hlt2 : (j : Int) < n := by omega
      have hjp : j < ps.size := by have := hn.out; omega
      have hgb : wr.heap[g]? = w.heap[g]? := HS.out.1.block g H.out.seg.lt fun i hi => H.out.notg (by have := hn.out; omega)
      have k0 := (World.cell?_of_block (a := ⟨g, j, none⟩) hgb).trans (H.out.seg.cell j hjp)
      have hle := KK_le H.out.seg j (by omega)
      have hle2 := KK_le H.out.seg (j + 1) (by omega)
      have hks : KK ps (j + 1) = KK ps j + 3 * (atR ps j).2.length := rfl
      clear hgb
      by_cases hp : (atR ps j).2.length = 0
      · obtain ⟨a, c1, h1, _⟩ := H.out.seg.row j hjp
        have HQ := hide fun (w2 : World) (hb : Below wr.heap.size wr w2) => Fr.quiet H.out hjp HS.out.1 HS.out.2 hp hb (Nat.le_trans HLO.out HS.out.1.below.size)
        have HN := hide (show s = k + KK ps (j + 1) by rw [HSS.out, hks, hp]; omega)
        have hC := hide (markValueS0 wr a c1 s)
        rw [h1, hp] at k0
        clear h1 hp hks hle hle2
        go_wp2_with fail
        refine hC.out.mono ?_
        rintro e w2 ⟨rfl, hb2⟩
        have HF := hide (HQ.out w2 hb2)
        clear hb2 k0 hC HQ
        go_wp2_with fail
        go_roundw
        case rel => exact ⟨j + 1, s, by go_num, rfl, by omega, HN.out, HF.out⟩
        case measure => simp [intOf]; omega
      · have hp' : 0 < (atR ps j).2.length := by omega
        obtain ⟨b, c1, h1, hb0, hroom, hbg⟩ := H.out.where_ hjp hp'
        have hbs : wr.heap[b]? = w.heap[b]? := HS.out.1.block b hroom.lt fun i hi hin => H.out.apt hi hjp hin ⟨hp', _, c1, h1⟩
        have hr2 := hroom.stays HS.out.1.below.size hbs
        have hshort : (atR ps j).2.length ≤ 1048576 := (H.out.seg.row j hjp).short
        have HQ := hide fun (w2 : World) (hv : MrkV w2 b (atR ps j).2.length (k + KK ps j)) (hg : wr.grownBy w2 (some b)) => Fr.marked H.out hjp HS.out.1 HS.out.2 hp' h1 hb0 hv hg (Nat.le_trans HLO.out HS.out.1.below.size)
        have HN := hide (show s + 3 * ((atR ps j).2.length : Nat) = k + KK ps (j + 1) by rw [HSS.out, hks]; omega)
        have hC := hide (markValueSC (c := c1) hr2 hshort s (by have := HSS.out; omega) (by have := HSS.out; omega))
        rw [h1] at k0
        rw [← HSS.out] at HQ
        generalize (atR ps j).2.length = nx at k0 hC HN HQ
        clear h1 hp hp' hks hle hle2 hbs hr2 hroom hshort
        go_wp2_with fail
        refine hC.out.mono ?_
        rintro e w2 ⟨rfl, hv, hg⟩
        have HF := hide (HQ.out w2 hv hg)
        clear hv hg k0 hC HQ
        go_wp2_with fail
        go_roundw
        case rel => exact ⟨j + 1, _, by go_num, rfl, by omega, HN.out, HF.out⟩
        case measure => simp [intOf]; omega
    · have hlt2 : ¬ (j : Int) < n := by omega
      have : j = n := by omega
      subst this
      go_wp2_with fail
      go_ret
      have hgb : wr.heap[g]? = w.heap[g]? := HS.out.1.block g H.out.seg.lt fun i hi => H.out.notg (by have := hn.out; omega)
      exact ⟨by rw [← HSS.out]; rfl, ⟨Nat.lt_of_lt_of_le H.out.seg.lt HS.out.1.below.size, fun i hi => (World.cell?_of_block (a := ⟨g, i, none⟩) hgb).trans (H.out.seg.cell i hi), fun i hi => HS.out.2 i (by have := hn.out; omega), fun i hi => KK_le H.out.seg i hi, fun i hi => (H.out.seg.row i hi).short⟩, HS.out.1⟩

set_option maxRecDepth 100000 in
set_option maxHeartbeats 1600000 in
theorem heldValueSSC {w : World} {g c : Nat} {ps : Array Rw} {k : Int} (h : MrkS w g ps k) (hl : ps.size ≤ 1048576) (hk : 0 ≤ k) (hk' : k ≤ 1048577) :
    Calls Try.prog 23 #[.slice (some ⟨g, 0, none⟩) ps.size c, .int .i64 k] w fun e w' => e = .returned (.int .i64 (k + KK ps ps.size)) ∧ Below w.heap.size w w' := by
  have H := hide h
  obtain ⟨n, hn⟩ : ∃ n, Hid (ps.size = n) := ⟨_, hide rfl⟩
  rw [hn.out] at hl ⊢
  clear h
  go_enter Try.func23, Try.ntmps23
  go_wp2_with fail
  go_loopw [1, 5] (fun y x wr => ∃ (j : Nat) (s : Int), x = .int .i64 j ∧ y = .int .i64 s ∧ j ≤ n ∧ Hid (s = k + KK ps j) ∧ Hid (Below w.heap.size w wr)) (fun _ x _ => n - (intOf x).toNat)
  case atStart => exact ⟨0, k, rfl, rfl, by omega, (show k = k + ((0 : Nat) : Int) by omega), (show Below w.heap.size w _ by go_grown)⟩
  case round =>
    obtain ⟨j, s, rfl, rfl, hj, HSS, HB⟩ := hrel
    by_cases hlt : j < n
    · have hlt2 : (j : Int) < n := by omega
      have hjp : j < ps.size := by have := hn.out; omega
      have HM := hide (H.out.below HB.out)
      have k0 := HM.out.cell j hjp
      have hle := HM.out.le j (by omega)
      have hle2 := HM.out.le (j + 1) (by omega)
      have hks : KK ps (j + 1) = KK ps j + 3 * (atR ps j).2.length := rfl
      have hshort := HM.out.short j hjp
      obtain ⟨a, c1, h1, h2⟩ := HM.out.row j hjp
      have hC := hide (show Calls Try.prog 41 #[.slice a (atR ps j).2.length c1, .int .i64 s] wr fun e w' => e = .returned (.int .i64 (s + 3 * ((atR ps j).2.length : Nat))) ∧ Below wr.heap.size wr w' by
        by_cases hp : (atR ps j).2.length = 0
        · rw [hp]
          refine (heldValueS0 wr a c1 s).mono ?_
          rintro e w2 ⟨rfl, hb⟩
          exact ⟨by simp, hb⟩
        · obtain ⟨b, rfl, hv⟩ := h2 (by omega)
          rw [← HSS.out] at hv
          exact heldValueSC hv hshort (by have := HSS.out; omega) (by have := HSS.out; omega))
      have HN := hide (show s + 3 * ((atR ps j).2.length : Nat) = k + KK ps (j + 1) by rw [HSS.out, hks]; omega)
      have hs0 : 0 ≤ s := by have := HSS.out; omega
      rw [h1] at k0
      generalize (atR ps j).2.length = nx at k0 hC HN
      have hs1 : ¬ s + 3 * (nx : Int) < 0 := by omega
      clear h1 h2 hks hle hle2 hshort
      go_wp2_with fail
      refine hC.out.mono ?_
      rintro e w2 ⟨rfl, hb2⟩
      have HB2 := hide (below_via HB.out hb2)
      clear hb2 k0 hC
      go_wp2_with fail
      go_roundw
      case rel => exact ⟨j + 1, _, by go_num, rfl, by omega, HN.out, HB2.out⟩
      case measure => simp [intOf]; omega
    · have hlt2 : ¬ (j : Int) < n := by omega
      have : j = n := by omega
      subst this
      go_wp2_with fail
      go_ret
      exact ⟨by rw [← HSS.out]; rfl, HB.out⟩
end Go.Proofs.Ytfikgiekigbaoaa
