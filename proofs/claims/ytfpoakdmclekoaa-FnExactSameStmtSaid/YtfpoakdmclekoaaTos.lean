/-
  toExpr and its kin: the laws' copies, in blocks of their own.
-/
import Derived.Test.YtfpoakdmclekoaaRows
import Derived.WalkLawsBesides
import Derived.Deep.Light
import Derived.OwnWalk
import Derived.Deep.CutBlock
import Derived.Deep.DeepCutAuto
import Derived.Test.YtfpoakdmclekoaaM1
import Derived.Test.YtfpoakdmclekoaaBlk
namespace Go.Proofs.Ytfpoakdmclekoaa
open Go.RowKit

theorem toValueP (k n : Int) (s : ByteArray) (w : World) :
    Calls Try.prog 37 #[.agg #[.int .i64 k, .int .i64 n, .string s]] w fun e w' => e = .returned (.agg #[.int .i64 k, .int .i64 n, .string s]) ∧ Below w.heap.size w w' := by
  go_enter Try.func37, Try.ntmps37
  go_wp2
  go_returns
  exact ⟨rfl, by go_grown⟩

theorem Try.infoEx : (Try.prog.info? 34).map (fun i => (i.zero, i.size, i.bytes)) = some (some (.agg #[.int .i64 0, .int .i64 0, .bool false, .int .i64 0, .int .i64 0, .string ⟨#[]⟩, .string ⟨#[]⟩, .string ⟨#[]⟩, .slice none 0 0, .slice none 0 0]), 10, 136) := by kernel_rfl
/-- What toExpr hands back: the same tree, in blocks of its own. -/
def ToExP (w : World) (M n : Nat) (x : Ex) (e : Ending) (w' : World) : Prop := ∃ (ka : Option Addr) (kc : Nat) (sa : Option Addr) (sc : Nat), e = .returned (.agg #[.int .i64 x.f.kind, .int .i64 x.f.op, .bool x.f.neg, .int .i64 x.f.vk, .int .i64 x.f.vn, .string x.f.vt, .string x.f.qual, .string x.f.name, .slice ka x.f.kids.length kc, .slice sa x.f.sub.length sc]) ∧ (ExB w' w.heap.size M n x ka sa) ∧ Below w.heap.size w w'
def ToEx (n : Nat) : Prop := ∀ (w0 w : World) (lo M : Nat) (x : Ex) (ka : Option Addr) (kc : Nat) (sa : Option Addr) (sc : Nat), Below w0.heap.size w0 w → ExB w0 lo M n x ka sa → M ≤ 1048576 →
  Calls Try.prog 12 #[.agg #[.int .i64 x.f.kind, .int .i64 x.f.op, .bool x.f.neg, .int .i64 x.f.vk, .int .i64 x.f.vn, .string x.f.vt, .string x.f.qual, .string x.f.name, .slice ka x.f.kids.length kc, .slice sa x.f.sub.length sc]] w (ToExP w M n x)

theorem Try.infoIt : (Try.prog.info? 88).map (fun i => (i.zero, i.size, i.bytes)) = some (some (.agg #[.bool false, .string ⟨#[]⟩, .int .i64 0, .int .i64 0, .bool false, .int .i64 0, .int .i64 0, .string ⟨#[]⟩, .string ⟨#[]⟩, .string ⟨#[]⟩, .slice none 0 0, .slice none 0 0, .string ⟨#[]⟩]), 13, 176) := by kernel_rfl
/-- What toItem hands back: the same tree, in blocks of its own. -/
def ToItP (w : World) (M n : Nat) (x : ItF Ex) (e : Ending) (w' : World) : Prop := ∃ (ka : Option Addr) (kc : Nat) (sa : Option Addr) (sc : Nat), e = .returned (.agg #[.bool x.star, .string x.qual, .int .i64 x.e.f.kind, .int .i64 x.e.f.op, .bool x.e.f.neg, .int .i64 x.e.f.vk, .int .i64 x.e.f.vn, .string x.e.f.vt, .string x.e.f.qual, .string x.e.f.name, .slice ka x.e.f.kids.length kc, .slice sa x.e.f.sub.length sc, .string x.nm]) ∧ ((x.qual.size ≤ M ∧ x.nm.size ≤ M) ∧ ExB w' w.heap.size M n x.e ka sa) ∧ Below w.heap.size w w'
def ToIt (n : Nat) : Prop := ∀ (w0 w : World) (lo M : Nat) (x : ItF Ex) (ka : Option Addr) (kc : Nat) (sa : Option Addr) (sc : Nat), Below w0.heap.size w0 w → (x.qual.size ≤ M ∧ x.nm.size ≤ M) ∧ ExB w0 lo M n x.e ka sa → M ≤ 1048576 →
  Calls Try.prog 76 #[.agg #[.bool x.star, .string x.qual, .int .i64 x.e.f.kind, .int .i64 x.e.f.op, .bool x.e.f.neg, .int .i64 x.e.f.vk, .int .i64 x.e.f.vn, .string x.e.f.vt, .string x.e.f.qual, .string x.e.f.name, .slice ka x.e.f.kids.length kc, .slice sa x.e.f.sub.length sc, .string x.nm]] w (ToItP w M n x)

theorem Try.infoSo : (Try.prog.info? 90).map (fun i => (i.zero, i.size, i.bytes)) = some (some (.agg #[.string ⟨#[]⟩, .string ⟨#[]⟩, .slice none 0 0]), 3, 56) := by kernel_rfl
/-- What toSource hands back: the same tree, in blocks of its own. -/
def ToSoP (w : World) (M n : Nat) (x : SoF Ex) (e : Ending) (w' : World) : Prop := ∃ (oa : Option Addr) (oc : Nat), e = .returned (.agg #[.string x.table, .string x.nm, .slice oa x.on.length oc]) ∧ ((x.table.size ≤ M ∧ x.nm.size ≤ M) ∧ RowP w' w.heap.size M 10 (exC (ExB w' w.heap.size M n)) x.on oa) ∧ Below w.heap.size w w'
def ToSo (n : Nat) : Prop := ∀ (w0 w : World) (lo M : Nat) (x : SoF Ex) (oa : Option Addr) (oc : Nat), Below w0.heap.size w0 w → (x.table.size ≤ M ∧ x.nm.size ≤ M) ∧ RowP w0 lo M 10 (exC (ExB w0 lo M n)) x.on oa → M ≤ 1048576 →
  Calls Try.prog 77 #[.agg #[.string x.table, .string x.nm, .slice oa x.on.length oc]] w (ToSoP w M n x)

theorem Try.infoKe : (Try.prog.info? 92).map (fun i => (i.zero, i.size, i.bytes)) = some (some (.agg #[.int .i64 0, .int .i64 0, .bool false, .int .i64 0, .int .i64 0, .string ⟨#[]⟩, .string ⟨#[]⟩, .string ⟨#[]⟩, .slice none 0 0, .slice none 0 0, .bool false]), 11, 144) := by kernel_rfl
/-- What toSortKey hands back: the same tree, in blocks of its own. -/
def ToKeP (w : World) (M n : Nat) (x : KeF Ex) (e : Ending) (w' : World) : Prop := ∃ (ka : Option Addr) (kc : Nat) (sa : Option Addr) (sc : Nat), e = .returned (.agg #[.int .i64 x.e.f.kind, .int .i64 x.e.f.op, .bool x.e.f.neg, .int .i64 x.e.f.vk, .int .i64 x.e.f.vn, .string x.e.f.vt, .string x.e.f.qual, .string x.e.f.name, .slice ka x.e.f.kids.length kc, .slice sa x.e.f.sub.length sc, .bool x.desc]) ∧ (ExB w' w.heap.size M n x.e ka sa) ∧ Below w.heap.size w w'
def ToKe (n : Nat) : Prop := ∀ (w0 w : World) (lo M : Nat) (x : KeF Ex) (ka : Option Addr) (kc : Nat) (sa : Option Addr) (sc : Nat), Below w0.heap.size w0 w → ExB w0 lo M n x.e ka sa → M ≤ 1048576 →
  Calls Try.prog 78 #[.agg #[.int .i64 x.e.f.kind, .int .i64 x.e.f.op, .bool x.e.f.neg, .int .i64 x.e.f.vk, .int .i64 x.e.f.vn, .string x.e.f.vt, .string x.e.f.qual, .string x.e.f.name, .slice ka x.e.f.kids.length kc, .slice sa x.e.f.sub.length sc, .bool x.desc]] w (ToKeP w M n x)

theorem Try.infoQu : (Try.prog.info? 50).map (fun i => (i.zero, i.size, i.bytes)) = some (some (.agg #[.bool false, .slice none 0 0, .slice none 0 0, .slice none 0 0, .slice none 0 0, .int .i64 0]), 6, 112) := by kernel_rfl
/-- What toQuery hands back: the same tree, in blocks of its own. -/
def ToQuP (w : World) (M n : Nat) (x : QuF Ex) (e : Ending) (w' : World) : Prop := ∃ (ia : Option Addr) (ic : Nat) (fa : Option Addr) (fc : Nat) (wa : Option Addr) (wc : Nat) (oa : Option Addr) (oc : Nat), e = .returned (.agg #[.bool x.distinct, .slice ia x.items.length ic, .slice fa x.src.length fc, .slice wa x.whr.length wc, .slice oa x.ord.length oc, .int .i64 x.limit]) ∧ (QuB w' w.heap.size M (ExB w' w.heap.size M n) x ia fa wa oa) ∧ Below w.heap.size w w'
def ToQu (n : Nat) : Prop := ∀ (w0 w : World) (lo M : Nat) (x : QuF Ex) (ia : Option Addr) (ic : Nat) (fa : Option Addr) (fc : Nat) (wa : Option Addr) (wc : Nat) (oa : Option Addr) (oc : Nat), Below w0.heap.size w0 w → QuB w0 lo M (ExB w0 lo M n) x ia fa wa oa → M ≤ 1048576 →
  Calls Try.prog 19 #[.agg #[.bool x.distinct, .slice ia x.items.length ic, .slice fa x.src.length fc, .slice wa x.whr.length wc, .slice oa x.ord.length oc, .int .i64 x.limit]] w (ToQuP w M n x)

def ToExSP (w : World) (M n : Nat) (xs : List (Ex)) (e : Ending) (w' : World) : Prop := ∃ (a : Option Addr) (c : Nat), e = .returned (.slice a xs.length c) ∧ RowP w' w.heap.size M 10 (exC (ExB w' w.heap.size M n)) xs a ∧ Below w.heap.size w w'
set_option maxRecDepth 100000 in
set_option maxHeartbeats 1600000 in
theorem toExprSC {n : Nat} (IH : ToEx n) {w0 w : World} (h00 : Below w0.heap.size w0 w) {lo M : Nat} {xs : List (Ex)} {a : Option Addr} (c : Nat) (h : RowP w0 lo M 10 (exC (ExB w0 lo M n)) xs a) (hM : M ≤ 1048576) :
    Calls Try.prog 38 #[.slice a xs.length c] w (ToExSP w M n xs) := by
  obtain ⟨hlen, hrow⟩ := h
  have HI := hide IH
  clear IH
  have HLM := hide hlen
  obtain ⟨m, hm⟩ : ∃ m, Hid (xs.length = m) := ⟨_, rfl⟩
  rw [hm.out] at hlen ⊢
  have hlen2 : m ≤ 1048576 := by omega
  have HM := hide hM
  have H0 := hide h00
  have HROW := hide hrow
  clear h00 hlen hM hrow
  obtain ⟨i0, hi, hz0, hz1, hz2⟩ := info_parts Try.infoEx
  obtain ⟨wm, hmk, hown, hgr⟩ := run_make_full (P := Try.prog) w w.heap.size 31 34 i0 _ 10 Try.underlying31 hi hz0 hz1 .i64 .i64 m (by rw [hz2]; omega) (by unfold maxLen; omega) (Nat.le_refl _)
  have HRM := hide (And.intro (Room.of_owns hown (by rw [Array.length_toList, size_madeCells])) ((Below.refl w.heap.size w).grown hgr (Nat.le_refl _) (fun k hk => by cases hk)))
  clear hown hgr hi hz0 hz1 hz2 i0
  obtain ⟨g, hg⟩ : ∃ g, Hid (g = w.heap.size) := ⟨_, rfl⟩
  rw [← hg.out] at hmk HRM
  go_enter Try.func38, Try.ntmps38
  go_wp2_with fail
  clear hmk
  go_loopw [4] (fun x wr => ∃ (j : Nat), x = .int .i64 j ∧ j ≤ m ∧ Hid (Room wr g (m * 10) ∧ (∀ i (h : i < xs.length), i < j → ∃ cs, (exC (ExB wr (g + 1) M n)) xs[i] cs ∧ cellsAt wr g (i * 10) cs) ∧ Below w.heap.size w wr)) (fun x _ => m - (intOf x).toNat)
  case atStart => exact ⟨0, rfl, by omega, HRM.out.1, (fun i _ hi => absurd hi (by omega)), by rw [← hg.out]; exact HRM.out.2⟩
  case round =>
    obtain ⟨j, rfl, hj, HJ⟩ := hrel
    by_cases hlt : j < m
    · have hlt2 : (j : Int) < m := by omega
      have hjx : j < xs.length := by have := hm.out; omega
      obtain ⟨b, o, rfl, hlo, hb, hel⟩ := HROW.out (by omega)
      obtain ⟨cs, ⟨ka, kc, sa, sc, rfl, hx⟩, hat⟩ := hel j hjx
      obtain ⟨c0, c1, c2, c3, c4, c5, c6, c7, c8, c9⟩ := ex_at (hat.same ((below_via H0.out HJ.out.2.2).block b hb))
      have HX := hide hx
      clear hx hat hel hlo hb
      generalize hxe : xs[j] = x at HX c0 c1 c2 c3 c4 c5 c6 c7 c8 c9
      have HXE := hide hxe
      clear hxe
      go_wp2_with fail
      refine (HI.out w0 _ lo M x ka kc sa sc (below_via H0.out HJ.out.2.2) HX.out HM.out).mono ?_
      rintro e w2 ⟨ka', kc', sa', sc', rfl, hx2, hb2⟩
      have hr2 := HJ.out.1.below hb2
      have HX2 := hide (And.intro hx2 (And.intro hb2 (And.intro hr2 (below_via HJ.out.2.2 hb2))))
      clear hx2 hb2 c0 c1 c2 c3 c4 c5 c6 c7 c8 c9
      have hfr := hr2.free
      obtain ⟨u0, hu0⟩ := hr2.has (j * 10) (by omega)
      obtain ⟨u1, hu1⟩ := hr2.has (j * 10 + 1) (by omega)
      obtain ⟨u2, hu2⟩ := hr2.has (j * 10 + 2) (by omega)
      obtain ⟨u3, hu3⟩ := hr2.has (j * 10 + 3) (by omega)
      obtain ⟨u4, hu4⟩ := hr2.has (j * 10 + 4) (by omega)
      obtain ⟨u5, hu5⟩ := hr2.has (j * 10 + 5) (by omega)
      obtain ⟨u6, hu6⟩ := hr2.has (j * 10 + 6) (by omega)
      obtain ⟨u7, hu7⟩ := hr2.has (j * 10 + 7) (by omega)
      obtain ⟨u8, hu8⟩ := hr2.has (j * 10 + 8) (by omega)
      obtain ⟨u9, hu9⟩ := hr2.has (j * 10 + 9) (by omega)
      clear hr2
      go_wp2_with fail
      go_roundw
      case rel =>
        refine ⟨j + 1, by go_num, by omega, ?_⟩
        have hK : ∀ W, W = w2.setCells g (j * 10) [.int .i64 x.f.kind, .int .i64 x.f.op, .bool x.f.neg, .int .i64 x.f.vk, .int .i64 x.f.vn, .string x.f.vt, .string x.f.qual, .string x.f.name, .slice ka' x.f.kids.length kc', .slice sa' x.f.sub.length sc'] → Room W g (m * 10) ∧ (∀ i (h : i < xs.length), i < j + 1 → ∃ cs, (exC (ExB W (g + 1) M n)) xs[i] cs ∧ cellsAt W g (i * 10) cs) ∧ Below w.heap.size w W := by
          rintro W rfl
          have hgs : w.heap.size ≤ g := Nat.le_of_eq hg.out.symm
          have hwr : g + 1 ≤ wr.heap.size := HJ.out.1.lt
          refine ⟨HX2.out.2.2.1.sets _ _, fun i hi hij => ?_, below_sets HX2.out.2.2.2 hgs _ _⟩
          by_cases hij2 : i = j
          · subst hij2
            rw [HXE.out]
            refine ⟨_, ⟨ka', kc', sa', sc', rfl, ?_⟩, HX2.out.2.2.1.at_in (i * 10) [.int .i64 x.f.kind, .int .i64 x.f.op, .bool x.f.neg, .int .i64 x.f.vk, .int .i64 x.f.vn, .string x.f.vt, .string x.f.qual, .string x.f.name, .slice ka' x.f.kids.length kc', .slice sa' x.f.sub.length sc'] (by simp; omega)⟩
            have hk := (Keeps.refl wr.heap.size w2).sets (show g < wr.heap.size by omega) (i * 10) [.int .i64 x.f.kind, .int .i64 x.f.op, .bool x.f.neg, .int .i64 x.f.vk, .int .i64 x.f.vn, .string x.f.vt, .string x.f.qual, .string x.f.name, .slice ka' x.f.kids.length kc', .slice sa' x.f.sub.length sc']
            have hx2 := HX2.out.1
            exact hx2.keeps hk (by omega)
          · obtain ⟨cs, ⟨ka3, kc3, sa3, sc3, rfl, hy⟩, hat⟩ := HJ.out.2.1 i hi (by omega)
            refine ⟨_, ⟨ka3, kc3, sa3, sc3, rfl, ?_⟩, (hat.same (HX2.out.2.1.block g HJ.out.1.lt)).apart _ _ (by simp [exV]; omega)⟩
            have hk : Keeps (g + 1) wr (w2.setCells g (j * 10) [.int .i64 x.f.kind, .int .i64 x.f.op, .bool x.f.neg, .int .i64 x.f.vk, .int .i64 x.f.vn, .string x.f.vt, .string x.f.qual, .string x.f.name, .slice ka' x.f.kids.length kc', .slice sa' x.f.sub.length sc']) := (Keeps.of HX2.out.2.1).sets (by omega) _ _
            have hx2 := hy
            exact hx2.keeps hk (Nat.le_refl _)
        exact hK _ rfl
      case measure => simp [intOf]; omega
    · have hlt2 : ¬ (j : Int) < m := by omega
      obtain rfl : j = m := by omega
      go_wp2_with fail
      go_ret
      refine ⟨some ⟨g, 0, none⟩, j, by rw [hm.out]; rfl, ⟨HLM.out, fun _ => ⟨g, 0, rfl, Nat.le_of_eq hg.out.symm, HJ.out.1.lt, fun i hi => ?_⟩⟩, HJ.out.2.2⟩
      obtain ⟨cs, ⟨ka, kc, sa, sc, rfl, hx2⟩, hat⟩ := HJ.out.2.1 i hi (by have := hm.out; omega)
      have hk := Keeps.refl (g + 1) wr
      refine ⟨_, ⟨ka, kc, sa, sc, rfl, ?_⟩, by rw [Nat.zero_add]; exact hat⟩
      have hge : w.heap.size ≤ g + 1 := by have := hg.out; omega
      exact hx2.keeps hk hge

set_option maxRecDepth 100000 in
set_option maxHeartbeats 1600000 in
theorem toItemC {n : Nat} (IH : ToEx n) : ToIt n := by
  intro w0 w lo M x ka kc sa sc h00 hx hM
  obtain ⟨va, hva⟩ : ∃ va, Hid (va = w.heap.size) := ⟨_, rfl⟩
  obtain ⟨vr, hvr⟩ : ∃ vr, Hid (vr = w.heap.size + 1) := ⟨_, rfl⟩
  obtain ⟨vo, hvo⟩ : ∃ vo, Hid (vo = w.heap.size + 2) := ⟨_, rfl⟩
  have hv := Blk.made3 w [.bool x.star, .string x.qual, .int .i64 x.e.f.kind, .int .i64 x.e.f.op, .bool x.e.f.neg, .int .i64 x.e.f.vk, .int .i64 x.e.f.vn, .string x.e.f.vt, .string x.e.f.qual, .string x.e.f.name, .slice ka x.e.f.kids.length kc, .slice sa x.e.f.sub.length sc, .string x.nm] [.bool false, .string ⟨#[]⟩, .int .i64 0, .int .i64 0, .bool false, .int .i64 0, .int .i64 0, .string ⟨#[]⟩, .string ⟨#[]⟩, .string ⟨#[]⟩, .slice none 0 0, .slice none 0 0, .string ⟨#[]⟩] [.bool x.star, .string x.qual, .int .i64 0, .int .i64 0, .bool false, .int .i64 0, .int .i64 0, .string ⟨#[]⟩, .string ⟨#[]⟩, .string ⟨#[]⟩, .slice none 0 0, .slice none 0 0, .string ⟨#[]⟩] 115 88 88
  rw [← hvo.out, ← hvr.out, ← hva.out] at hv
  have HV0 := hide hv
  have H0 := hide h00
  have HM := hide hM
  have n1 : va ≠ vr := by have := hva.out; have := hvr.out; omega
  have n2 : va ≠ vo := by have := hva.out; have := hvo.out; omega
  have n3 : vr ≠ vo := by have := hvr.out; have := hvo.out; omega
  have N1 := hide n1
  have N2 := hide n2
  have N3 := hide n3
  have GR := hide (show w.heap.size ≤ vr by have := hvr.out; omega)
  have GO := hide (show w.heap.size ≤ vo by have := hvo.out; omega)
  clear hv h00 hM n1 n2 n3
  have HX := hide hx
  clear hx
  have HI := hide IH
  clear IH
  go_enter Try.func76, Try.ntmps76
  go_wp2_with fail
  (try rw [← hvo.out, ← hvr.out, ← hva.out])
  refine (HI.out w0 _ lo M x.e ka kc sa sc (below_via H0.out (by go_grown)) HX.out.2 HM.out).mono ?_
  rintro e w1 ⟨ka', kc', sa', sc', rfl, hg, hb1⟩
  have HB1 := hide (below_via (show Below w.heap.size w _ by go_grown) hb1)
  have ha1 := HV0.out.1.step hb1
  have hr1 := HV0.out.2.1.step hb1
  have ho1 := HV0.out.2.2.step hb1
  have HV1 := hide (And.intro ha1.1 (And.intro hr1.1 (show Blk w1 vo [.bool x.star, .string x.qual, .int .i64 0, .int .i64 0, .bool false, .int .i64 0, .int .i64 0, .string ⟨#[]⟩, .string ⟨#[]⟩, .string ⟨#[]⟩, .slice none 0 0, .slice none 0 0, .string ⟨#[]⟩] from ho1.1)))
  have HL1 := hide (And.intro hr1.2 ho1.2)
  have HG1 := hide (And.intro hg hb1)
  clear ha1 hr1 ho1 hb1 hg
  obtain ⟨a0, a1, a2, a3, a4, a5, a6, a7, a8, a9, a10, a11, a12⟩ := it_at0 HV1.out.1.cells
  have rc := HV1.out.2.1.cells
  have r0 := rc 0 (by simp)
  have r1 := rc 1 (by simp)
  have r2 := rc 2 (by simp)
  have r3 := rc 3 (by simp)
  have r4 := rc 4 (by simp)
  have r5 := rc 5 (by simp)
  have r6 := rc 6 (by simp)
  have r7 := rc 7 (by simp)
  have r8 := rc 8 (by simp)
  have r9 := rc 9 (by simp)
  have r10 := rc 10 (by simp)
  have r11 := rc 11 (by simp)
  have r12 := rc 12 (by simp)
  simp only [Nat.zero_add, List.getElem_cons_zero, List.getElem_cons_succ] at r0 r1 r2 r3 r4 r5 r6 r7 r8 r9 r10 r11 r12
  clear rc
  have fr := HV1.out.2.1.free
  have oc := HV1.out.2.2.cells
  have o0 := oc 0 (by simp)
  have o1 := oc 1 (by simp)
  have o2 := oc 2 (by simp)
  have o3 := oc 3 (by simp)
  have o4 := oc 4 (by simp)
  have o5 := oc 5 (by simp)
  have o6 := oc 6 (by simp)
  have o7 := oc 7 (by simp)
  have o8 := oc 8 (by simp)
  have o9 := oc 9 (by simp)
  have o10 := oc 10 (by simp)
  have o11 := oc 11 (by simp)
  have o12 := oc 12 (by simp)
  simp only [Nat.zero_add, List.getElem_cons_zero, List.getElem_cons_succ] at o0 o1 o2 o3 o4 o5 o6 o7 o8 o9 o10 o11 o12
  clear oc
  have fo := HV1.out.2.2.free
  go_upto_region 6 with fail
  have HF := hide (show Blk (((((((((((w1.setCell ⟨vo, 2, none⟩ (.int .i64 x.e.f.kind)).setCell ⟨vo, 3, none⟩ (.int .i64 x.e.f.op)).setCell ⟨vo, 4, none⟩ (.bool x.e.f.neg)).setCell ⟨vo, 5, none⟩ (.int .i64 x.e.f.vk)).setCell ⟨vo, 6, none⟩ (.int .i64 x.e.f.vn)).setCell ⟨vo, 7, none⟩ (.string x.e.f.vt)).setCell ⟨vo, 8, none⟩ (.string x.e.f.qual)).setCell ⟨vo, 9, none⟩ (.string x.e.f.name)).setCell ⟨vo, 10, none⟩ (.slice ka' x.e.f.kids.length kc')).setCell ⟨vo, 11, none⟩ (.slice sa' x.e.f.sub.length sc')).setCell ⟨vo, 12, none⟩ (.string x.nm)) vo [.bool x.star, .string x.qual, .int .i64 x.e.f.kind, .int .i64 x.e.f.op, .bool x.e.f.neg, .int .i64 x.e.f.vk, .int .i64 x.e.f.vn, .string x.e.f.vt, .string x.e.f.qual, .string x.e.f.name, .slice ka' x.e.f.kids.length kc', .slice sa' x.e.f.sub.length sc', .string x.nm] ∧ Blk (((((((((((w1.setCell ⟨vo, 2, none⟩ (.int .i64 x.e.f.kind)).setCell ⟨vo, 3, none⟩ (.int .i64 x.e.f.op)).setCell ⟨vo, 4, none⟩ (.bool x.e.f.neg)).setCell ⟨vo, 5, none⟩ (.int .i64 x.e.f.vk)).setCell ⟨vo, 6, none⟩ (.int .i64 x.e.f.vn)).setCell ⟨vo, 7, none⟩ (.string x.e.f.vt)).setCell ⟨vo, 8, none⟩ (.string x.e.f.qual)).setCell ⟨vo, 9, none⟩ (.string x.e.f.name)).setCell ⟨vo, 10, none⟩ (.slice ka' x.e.f.kids.length kc')).setCell ⟨vo, 11, none⟩ (.slice sa' x.e.f.sub.length sc')).setCell ⟨vo, 12, none⟩ (.string x.nm)) vr [.bool false, .string ⟨#[]⟩, .int .i64 0, .int .i64 0, .bool false, .int .i64 0, .int .i64 0, .string ⟨#[]⟩, .string ⟨#[]⟩, .string ⟨#[]⟩, .slice none 0 0, .slice none 0 0, .string ⟨#[]⟩] ∧ Below w.heap.size w (((((((((((w1.setCell ⟨vo, 2, none⟩ (.int .i64 x.e.f.kind)).setCell ⟨vo, 3, none⟩ (.int .i64 x.e.f.op)).setCell ⟨vo, 4, none⟩ (.bool x.e.f.neg)).setCell ⟨vo, 5, none⟩ (.int .i64 x.e.f.vk)).setCell ⟨vo, 6, none⟩ (.int .i64 x.e.f.vn)).setCell ⟨vo, 7, none⟩ (.string x.e.f.vt)).setCell ⟨vo, 8, none⟩ (.string x.e.f.qual)).setCell ⟨vo, 9, none⟩ (.string x.e.f.name)).setCell ⟨vo, 10, none⟩ (.slice ka' x.e.f.kids.length kc')).setCell ⟨vo, 11, none⟩ (.slice sa' x.e.f.sub.length sc')).setCell ⟨vo, 12, none⟩ (.string x.nm)) ∧ (∀ B, vo < B → Keeps B w1 (((((((((((w1.setCell ⟨vo, 2, none⟩ (.int .i64 x.e.f.kind)).setCell ⟨vo, 3, none⟩ (.int .i64 x.e.f.op)).setCell ⟨vo, 4, none⟩ (.bool x.e.f.neg)).setCell ⟨vo, 5, none⟩ (.int .i64 x.e.f.vk)).setCell ⟨vo, 6, none⟩ (.int .i64 x.e.f.vn)).setCell ⟨vo, 7, none⟩ (.string x.e.f.vt)).setCell ⟨vo, 8, none⟩ (.string x.e.f.qual)).setCell ⟨vo, 9, none⟩ (.string x.e.f.name)).setCell ⟨vo, 10, none⟩ (.slice ka' x.e.f.kids.length kc')).setCell ⟨vo, 11, none⟩ (.slice sa' x.e.f.sub.length sc')).setCell ⟨vo, 12, none⟩ (.string x.nm))) from ⟨(((((((((((HV1.out.2.2.set 2 (by simp) _).set 3 (by simp) _).set 4 (by simp) _).set 5 (by simp) _).set 6 (by simp) _).set 7 (by simp) _).set 8 (by simp) _).set 9 (by simp) _).set 10 (by simp) _).set 11 (by simp) _).set 12 (by simp) _), (((((((((((HV1.out.2.1.other N3.out 2 _).other N3.out 3 _).other N3.out 4 _).other N3.out 5 _).other N3.out 6 _).other N3.out 7 _).other N3.out 8 _).other N3.out 9 _).other N3.out 10 _).other N3.out 11 _).other N3.out 12 _), (below_set (below_set (below_set (below_set (below_set (below_set (below_set (below_set (below_set (below_set (below_set HB1.out GO.out 2 _) GO.out 3 _) GO.out 4 _) GO.out 5 _) GO.out 6 _) GO.out 7 _) GO.out 8 _) GO.out 9 _) GO.out 10 _) GO.out 11 _) GO.out 12 _), fun B hB => ((((((((((((Keeps.refl B w1).set hB 2 _).set hB 3 _).set hB 4 _).set hB 5 _).set hB 6 _).set hB 7 _).set hB 8 _).set hB 9 _).set hB 10 _).set hB 11 _).set hB 12 _)⟩)
  clear a0 r0 o0 a1 r1 o1 a2 r2 o2 a3 r3 o3 a4 r4 o4 a5 r5 o5 a6 r6 o6 a7 r7 o7 a8 r8 o8 a9 r9 o9 a10 r10 o10 a11 r11 o11 a12 r12 o12 fr fo
  generalize (((((((((((w1.setCell ⟨vo, 2, none⟩ (.int .i64 x.e.f.kind)).setCell ⟨vo, 3, none⟩ (.int .i64 x.e.f.op)).setCell ⟨vo, 4, none⟩ (.bool x.e.f.neg)).setCell ⟨vo, 5, none⟩ (.int .i64 x.e.f.vk)).setCell ⟨vo, 6, none⟩ (.int .i64 x.e.f.vn)).setCell ⟨vo, 7, none⟩ (.string x.e.f.vt)).setCell ⟨vo, 8, none⟩ (.string x.e.f.qual)).setCell ⟨vo, 9, none⟩ (.string x.e.f.name)).setCell ⟨vo, 10, none⟩ (.slice ka' x.e.f.kids.length kc')).setCell ⟨vo, 11, none⟩ (.slice sa' x.e.f.sub.length sc')).setCell ⟨vo, 12, none⟩ (.string x.nm)) = wf at HF ⊢
  have rc := HF.out.2.1.cells
  have r0 := rc 0 (by simp)
  have r1 := rc 1 (by simp)
  have r2 := rc 2 (by simp)
  have r3 := rc 3 (by simp)
  have r4 := rc 4 (by simp)
  have r5 := rc 5 (by simp)
  have r6 := rc 6 (by simp)
  have r7 := rc 7 (by simp)
  have r8 := rc 8 (by simp)
  have r9 := rc 9 (by simp)
  have r10 := rc 10 (by simp)
  have r11 := rc 11 (by simp)
  have r12 := rc 12 (by simp)
  simp only [Nat.zero_add, List.getElem_cons_zero, List.getElem_cons_succ] at r0 r1 r2 r3 r4 r5 r6 r7 r8 r9 r10 r11 r12
  clear rc
  have oc := HF.out.1.cells
  have o0 := oc 0 (by simp)
  have o1 := oc 1 (by simp)
  have o2 := oc 2 (by simp)
  have o3 := oc 3 (by simp)
  have o4 := oc 4 (by simp)
  have o5 := oc 5 (by simp)
  have o6 := oc 6 (by simp)
  have o7 := oc 7 (by simp)
  have o8 := oc 8 (by simp)
  have o9 := oc 9 (by simp)
  have o10 := oc 10 (by simp)
  have o11 := oc 11 (by simp)
  have o12 := oc 12 (by simp)
  simp only [Nat.zero_add, List.getElem_cons_zero, List.getElem_cons_succ] at o0 o1 o2 o3 o4 o5 o6 o7 o8 o9 o10 o11 o12
  clear oc
  have fr := HF.out.2.1.free
  go_wp2_with fail
  ((try simp only [Exit.inBlock, Exit.then]); refine bodyPost_ret (by simp [results, Try.results76, go_sem]; go_simp; rfl) rfl ?_)
  refine ⟨ka', kc', sa', sc', rfl, ?_, ?_⟩
  · exact ⟨HX.out.1, HG1.out.1.keeps ((((((((((((((HF.out.2.2.2 _ HL1.out.2).set HL1.out.1 0 _).set HL1.out.1 1 _).set HL1.out.1 2 _).set HL1.out.1 3 _).set HL1.out.1 4 _).set HL1.out.1 5 _).set HL1.out.1 6 _).set HL1.out.1 7 _).set HL1.out.1 8 _).set HL1.out.1 9 _).set HL1.out.1 10 _).set HL1.out.1 11 _).set HL1.out.1 12 _) (Nat.le_trans GR.out (Nat.le_of_lt HL1.out.1))⟩
  · exact (below_set (below_set (below_set (below_set (below_set (below_set (below_set (below_set (below_set (below_set (below_set (below_set (below_set HF.out.2.2.1 GR.out 0 _) GR.out 1 _) GR.out 2 _) GR.out 3 _) GR.out 4 _) GR.out 5 _) GR.out 6 _) GR.out 7 _) GR.out 8 _) GR.out 9 _) GR.out 10 _) GR.out 11 _) GR.out 12 _)

set_option maxRecDepth 100000 in
set_option maxHeartbeats 1600000 in
theorem toSourceC {n : Nat} (IH : ToEx n) : ToSo n := by
  intro w0 w lo M x oa oc h00 hx hM
  obtain ⟨va, hva⟩ : ∃ va, Hid (va = w.heap.size) := ⟨_, rfl⟩
  obtain ⟨vr, hvr⟩ : ∃ vr, Hid (vr = w.heap.size + 1) := ⟨_, rfl⟩
  obtain ⟨vo, hvo⟩ : ∃ vo, Hid (vo = w.heap.size + 2) := ⟨_, rfl⟩
  have hv := Blk.made3 w [.string x.table, .string x.nm, .slice oa x.on.length oc] [.string ⟨#[]⟩, .string ⟨#[]⟩, .slice none 0 0] [.string x.table, .string x.nm, .slice none 0 0] 118 90 90
  rw [← hvo.out, ← hvr.out, ← hva.out] at hv
  have HV0 := hide hv
  have H0 := hide h00
  have HM := hide hM
  have n1 : va ≠ vr := by have := hva.out; have := hvr.out; omega
  have n2 : va ≠ vo := by have := hva.out; have := hvo.out; omega
  have n3 : vr ≠ vo := by have := hvr.out; have := hvo.out; omega
  have N1 := hide n1
  have N2 := hide n2
  have N3 := hide n3
  have GR := hide (show w.heap.size ≤ vr by have := hvr.out; omega)
  have GO := hide (show w.heap.size ≤ vo by have := hvo.out; omega)
  clear hv h00 hM n1 n2 n3
  have HX := hide hx
  clear hx
  have HI := hide IH
  clear IH
  go_enter Try.func77, Try.ntmps77
  go_wp2_with fail
  (try rw [← hvo.out, ← hvr.out, ← hva.out])
  refine (toExprSC HI.out (below_via H0.out (by go_grown)) oc HX.out.2 HM.out).mono ?_
  rintro e w1 ⟨oa', oc', rfl, hg, hb1⟩
  have HB1 := hide (below_via (show Below w.heap.size w _ by go_grown) hb1)
  have ha1 := HV0.out.1.step hb1
  have hr1 := HV0.out.2.1.step hb1
  have ho1 := HV0.out.2.2.step hb1
  have HV1 := hide (And.intro ha1.1 (And.intro hr1.1 (show Blk w1 vo [.string x.table, .string x.nm, .slice none 0 0] from ho1.1)))
  have HL1 := hide (And.intro hr1.2 ho1.2)
  have HG1 := hide (And.intro hg hb1)
  clear ha1 hr1 ho1 hb1 hg
  obtain ⟨a0, a1, a2⟩ := so_at0 HV1.out.1.cells
  have rc := HV1.out.2.1.cells
  have r0 := rc 0 (by simp)
  have r1 := rc 1 (by simp)
  have r2 := rc 2 (by simp)
  simp only [Nat.zero_add, List.getElem_cons_zero, List.getElem_cons_succ] at r0 r1 r2
  clear rc
  have fr := HV1.out.2.1.free
  have oc := HV1.out.2.2.cells
  have o0 := oc 0 (by simp)
  have o1 := oc 1 (by simp)
  have o2 := oc 2 (by simp)
  simp only [Nat.zero_add, List.getElem_cons_zero, List.getElem_cons_succ] at o0 o1 o2
  clear oc
  have fo := HV1.out.2.2.free
  go_upto_region 5 with fail
  have HF := hide (show Blk (w1.setCell ⟨vo, 2, none⟩ (.slice oa' x.on.length oc')) vo [.string x.table, .string x.nm, .slice oa' x.on.length oc'] ∧ Blk (w1.setCell ⟨vo, 2, none⟩ (.slice oa' x.on.length oc')) vr [.string ⟨#[]⟩, .string ⟨#[]⟩, .slice none 0 0] ∧ Below w.heap.size w (w1.setCell ⟨vo, 2, none⟩ (.slice oa' x.on.length oc')) ∧ (∀ B, vo < B → Keeps B w1 (w1.setCell ⟨vo, 2, none⟩ (.slice oa' x.on.length oc'))) from ⟨(HV1.out.2.2.set 2 (by simp) _), (HV1.out.2.1.other N3.out 2 _), (below_set HB1.out GO.out 2 _), fun B hB => ((Keeps.refl B w1).set hB 2 _)⟩)
  clear a0 r0 o0 a1 r1 o1 a2 r2 o2 fr fo
  generalize (w1.setCell ⟨vo, 2, none⟩ (.slice oa' x.on.length oc')) = wf at HF ⊢
  have rc := HF.out.2.1.cells
  have r0 := rc 0 (by simp)
  have r1 := rc 1 (by simp)
  have r2 := rc 2 (by simp)
  simp only [Nat.zero_add, List.getElem_cons_zero, List.getElem_cons_succ] at r0 r1 r2
  clear rc
  have oc := HF.out.1.cells
  have o0 := oc 0 (by simp)
  have o1 := oc 1 (by simp)
  have o2 := oc 2 (by simp)
  simp only [Nat.zero_add, List.getElem_cons_zero, List.getElem_cons_succ] at o0 o1 o2
  clear oc
  have fr := HF.out.2.1.free
  go_wp2_with fail
  ((try simp only [Exit.inBlock, Exit.then]); refine bodyPost_ret (by simp [results, Try.results77, go_sem]; go_simp; rfl) rfl ?_)
  refine ⟨oa', oc', rfl, ?_, ?_⟩
  · exact ⟨HX.out.1, rowEx_keeps HG1.out.1 ((((HF.out.2.2.2 _ HL1.out.2).set HL1.out.1 0 _).set HL1.out.1 1 _).set HL1.out.1 2 _) (Nat.le_trans GR.out (Nat.le_of_lt HL1.out.1))⟩
  · exact (below_set (below_set (below_set HF.out.2.2.1 GR.out 0 _) GR.out 1 _) GR.out 2 _)

set_option maxRecDepth 100000 in
set_option maxHeartbeats 1600000 in
theorem toSortKeyC {n : Nat} (IH : ToEx n) : ToKe n := by
  intro w0 w lo M x ka kc sa sc h00 hx hM
  obtain ⟨va, hva⟩ : ∃ va, Hid (va = w.heap.size) := ⟨_, rfl⟩
  obtain ⟨vr, hvr⟩ : ∃ vr, Hid (vr = w.heap.size + 1) := ⟨_, rfl⟩
  obtain ⟨vo, hvo⟩ : ∃ vo, Hid (vo = w.heap.size + 2) := ⟨_, rfl⟩
  have hv := Blk.made3 w [.int .i64 x.e.f.kind, .int .i64 x.e.f.op, .bool x.e.f.neg, .int .i64 x.e.f.vk, .int .i64 x.e.f.vn, .string x.e.f.vt, .string x.e.f.qual, .string x.e.f.name, .slice ka x.e.f.kids.length kc, .slice sa x.e.f.sub.length sc, .bool x.desc] [.int .i64 0, .int .i64 0, .bool false, .int .i64 0, .int .i64 0, .string ⟨#[]⟩, .string ⟨#[]⟩, .string ⟨#[]⟩, .slice none 0 0, .slice none 0 0, .bool false] [.int .i64 0, .int .i64 0, .bool false, .int .i64 0, .int .i64 0, .string ⟨#[]⟩, .string ⟨#[]⟩, .string ⟨#[]⟩, .slice none 0 0, .slice none 0 0, .bool false] 121 92 92
  rw [← hvo.out, ← hvr.out, ← hva.out] at hv
  have HV0 := hide hv
  have H0 := hide h00
  have HM := hide hM
  have n1 : va ≠ vr := by have := hva.out; have := hvr.out; omega
  have n2 : va ≠ vo := by have := hva.out; have := hvo.out; omega
  have n3 : vr ≠ vo := by have := hvr.out; have := hvo.out; omega
  have N1 := hide n1
  have N2 := hide n2
  have N3 := hide n3
  have GR := hide (show w.heap.size ≤ vr by have := hvr.out; omega)
  have GO := hide (show w.heap.size ≤ vo by have := hvo.out; omega)
  clear hv h00 hM n1 n2 n3
  have HX := hide hx
  clear hx
  have HI := hide IH
  clear IH
  go_enter Try.func78, Try.ntmps78
  go_wp2_with fail
  (try rw [← hvo.out, ← hvr.out, ← hva.out])
  refine (HI.out w0 _ lo M x.e ka kc sa sc (below_via H0.out (by go_grown)) HX.out HM.out).mono ?_
  rintro e w1 ⟨ka', kc', sa', sc', rfl, hg, hb1⟩
  have HB1 := hide (below_via (show Below w.heap.size w _ by go_grown) hb1)
  have ha1 := HV0.out.1.step hb1
  have hr1 := HV0.out.2.1.step hb1
  have ho1 := HV0.out.2.2.step hb1
  have HV1 := hide (And.intro ha1.1 (And.intro hr1.1 (show Blk w1 vo [.int .i64 0, .int .i64 0, .bool false, .int .i64 0, .int .i64 0, .string ⟨#[]⟩, .string ⟨#[]⟩, .string ⟨#[]⟩, .slice none 0 0, .slice none 0 0, .bool false] from ho1.1)))
  have HL1 := hide (And.intro hr1.2 ho1.2)
  have HG1 := hide (And.intro hg hb1)
  clear ha1 hr1 ho1 hb1 hg
  obtain ⟨a0, a1, a2, a3, a4, a5, a6, a7, a8, a9, a10⟩ := ke_at0 HV1.out.1.cells
  have rc := HV1.out.2.1.cells
  have r0 := rc 0 (by simp)
  have r1 := rc 1 (by simp)
  have r2 := rc 2 (by simp)
  have r3 := rc 3 (by simp)
  have r4 := rc 4 (by simp)
  have r5 := rc 5 (by simp)
  have r6 := rc 6 (by simp)
  have r7 := rc 7 (by simp)
  have r8 := rc 8 (by simp)
  have r9 := rc 9 (by simp)
  have r10 := rc 10 (by simp)
  simp only [Nat.zero_add, List.getElem_cons_zero, List.getElem_cons_succ] at r0 r1 r2 r3 r4 r5 r6 r7 r8 r9 r10
  clear rc
  have fr := HV1.out.2.1.free
  have oc := HV1.out.2.2.cells
  have o0 := oc 0 (by simp)
  have o1 := oc 1 (by simp)
  have o2 := oc 2 (by simp)
  have o3 := oc 3 (by simp)
  have o4 := oc 4 (by simp)
  have o5 := oc 5 (by simp)
  have o6 := oc 6 (by simp)
  have o7 := oc 7 (by simp)
  have o8 := oc 8 (by simp)
  have o9 := oc 9 (by simp)
  have o10 := oc 10 (by simp)
  simp only [Nat.zero_add, List.getElem_cons_zero, List.getElem_cons_succ] at o0 o1 o2 o3 o4 o5 o6 o7 o8 o9 o10
  clear oc
  have fo := HV1.out.2.2.free
  go_upto_region 4 with fail
  have HF := hide (show Blk (((((((((((w1.setCell ⟨vo, 0, none⟩ (.int .i64 x.e.f.kind)).setCell ⟨vo, 1, none⟩ (.int .i64 x.e.f.op)).setCell ⟨vo, 2, none⟩ (.bool x.e.f.neg)).setCell ⟨vo, 3, none⟩ (.int .i64 x.e.f.vk)).setCell ⟨vo, 4, none⟩ (.int .i64 x.e.f.vn)).setCell ⟨vo, 5, none⟩ (.string x.e.f.vt)).setCell ⟨vo, 6, none⟩ (.string x.e.f.qual)).setCell ⟨vo, 7, none⟩ (.string x.e.f.name)).setCell ⟨vo, 8, none⟩ (.slice ka' x.e.f.kids.length kc')).setCell ⟨vo, 9, none⟩ (.slice sa' x.e.f.sub.length sc')).setCell ⟨vo, 10, none⟩ (.bool x.desc)) vo [.int .i64 x.e.f.kind, .int .i64 x.e.f.op, .bool x.e.f.neg, .int .i64 x.e.f.vk, .int .i64 x.e.f.vn, .string x.e.f.vt, .string x.e.f.qual, .string x.e.f.name, .slice ka' x.e.f.kids.length kc', .slice sa' x.e.f.sub.length sc', .bool x.desc] ∧ Blk (((((((((((w1.setCell ⟨vo, 0, none⟩ (.int .i64 x.e.f.kind)).setCell ⟨vo, 1, none⟩ (.int .i64 x.e.f.op)).setCell ⟨vo, 2, none⟩ (.bool x.e.f.neg)).setCell ⟨vo, 3, none⟩ (.int .i64 x.e.f.vk)).setCell ⟨vo, 4, none⟩ (.int .i64 x.e.f.vn)).setCell ⟨vo, 5, none⟩ (.string x.e.f.vt)).setCell ⟨vo, 6, none⟩ (.string x.e.f.qual)).setCell ⟨vo, 7, none⟩ (.string x.e.f.name)).setCell ⟨vo, 8, none⟩ (.slice ka' x.e.f.kids.length kc')).setCell ⟨vo, 9, none⟩ (.slice sa' x.e.f.sub.length sc')).setCell ⟨vo, 10, none⟩ (.bool x.desc)) vr [.int .i64 0, .int .i64 0, .bool false, .int .i64 0, .int .i64 0, .string ⟨#[]⟩, .string ⟨#[]⟩, .string ⟨#[]⟩, .slice none 0 0, .slice none 0 0, .bool false] ∧ Below w.heap.size w (((((((((((w1.setCell ⟨vo, 0, none⟩ (.int .i64 x.e.f.kind)).setCell ⟨vo, 1, none⟩ (.int .i64 x.e.f.op)).setCell ⟨vo, 2, none⟩ (.bool x.e.f.neg)).setCell ⟨vo, 3, none⟩ (.int .i64 x.e.f.vk)).setCell ⟨vo, 4, none⟩ (.int .i64 x.e.f.vn)).setCell ⟨vo, 5, none⟩ (.string x.e.f.vt)).setCell ⟨vo, 6, none⟩ (.string x.e.f.qual)).setCell ⟨vo, 7, none⟩ (.string x.e.f.name)).setCell ⟨vo, 8, none⟩ (.slice ka' x.e.f.kids.length kc')).setCell ⟨vo, 9, none⟩ (.slice sa' x.e.f.sub.length sc')).setCell ⟨vo, 10, none⟩ (.bool x.desc)) ∧ (∀ B, vo < B → Keeps B w1 (((((((((((w1.setCell ⟨vo, 0, none⟩ (.int .i64 x.e.f.kind)).setCell ⟨vo, 1, none⟩ (.int .i64 x.e.f.op)).setCell ⟨vo, 2, none⟩ (.bool x.e.f.neg)).setCell ⟨vo, 3, none⟩ (.int .i64 x.e.f.vk)).setCell ⟨vo, 4, none⟩ (.int .i64 x.e.f.vn)).setCell ⟨vo, 5, none⟩ (.string x.e.f.vt)).setCell ⟨vo, 6, none⟩ (.string x.e.f.qual)).setCell ⟨vo, 7, none⟩ (.string x.e.f.name)).setCell ⟨vo, 8, none⟩ (.slice ka' x.e.f.kids.length kc')).setCell ⟨vo, 9, none⟩ (.slice sa' x.e.f.sub.length sc')).setCell ⟨vo, 10, none⟩ (.bool x.desc))) from ⟨(((((((((((HV1.out.2.2.set 0 (by simp) _).set 1 (by simp) _).set 2 (by simp) _).set 3 (by simp) _).set 4 (by simp) _).set 5 (by simp) _).set 6 (by simp) _).set 7 (by simp) _).set 8 (by simp) _).set 9 (by simp) _).set 10 (by simp) _), (((((((((((HV1.out.2.1.other N3.out 0 _).other N3.out 1 _).other N3.out 2 _).other N3.out 3 _).other N3.out 4 _).other N3.out 5 _).other N3.out 6 _).other N3.out 7 _).other N3.out 8 _).other N3.out 9 _).other N3.out 10 _), (below_set (below_set (below_set (below_set (below_set (below_set (below_set (below_set (below_set (below_set (below_set HB1.out GO.out 0 _) GO.out 1 _) GO.out 2 _) GO.out 3 _) GO.out 4 _) GO.out 5 _) GO.out 6 _) GO.out 7 _) GO.out 8 _) GO.out 9 _) GO.out 10 _), fun B hB => ((((((((((((Keeps.refl B w1).set hB 0 _).set hB 1 _).set hB 2 _).set hB 3 _).set hB 4 _).set hB 5 _).set hB 6 _).set hB 7 _).set hB 8 _).set hB 9 _).set hB 10 _)⟩)
  clear a0 r0 o0 a1 r1 o1 a2 r2 o2 a3 r3 o3 a4 r4 o4 a5 r5 o5 a6 r6 o6 a7 r7 o7 a8 r8 o8 a9 r9 o9 a10 r10 o10 fr fo
  generalize (((((((((((w1.setCell ⟨vo, 0, none⟩ (.int .i64 x.e.f.kind)).setCell ⟨vo, 1, none⟩ (.int .i64 x.e.f.op)).setCell ⟨vo, 2, none⟩ (.bool x.e.f.neg)).setCell ⟨vo, 3, none⟩ (.int .i64 x.e.f.vk)).setCell ⟨vo, 4, none⟩ (.int .i64 x.e.f.vn)).setCell ⟨vo, 5, none⟩ (.string x.e.f.vt)).setCell ⟨vo, 6, none⟩ (.string x.e.f.qual)).setCell ⟨vo, 7, none⟩ (.string x.e.f.name)).setCell ⟨vo, 8, none⟩ (.slice ka' x.e.f.kids.length kc')).setCell ⟨vo, 9, none⟩ (.slice sa' x.e.f.sub.length sc')).setCell ⟨vo, 10, none⟩ (.bool x.desc)) = wf at HF ⊢
  have rc := HF.out.2.1.cells
  have r0 := rc 0 (by simp)
  have r1 := rc 1 (by simp)
  have r2 := rc 2 (by simp)
  have r3 := rc 3 (by simp)
  have r4 := rc 4 (by simp)
  have r5 := rc 5 (by simp)
  have r6 := rc 6 (by simp)
  have r7 := rc 7 (by simp)
  have r8 := rc 8 (by simp)
  have r9 := rc 9 (by simp)
  have r10 := rc 10 (by simp)
  simp only [Nat.zero_add, List.getElem_cons_zero, List.getElem_cons_succ] at r0 r1 r2 r3 r4 r5 r6 r7 r8 r9 r10
  clear rc
  have oc := HF.out.1.cells
  have o0 := oc 0 (by simp)
  have o1 := oc 1 (by simp)
  have o2 := oc 2 (by simp)
  have o3 := oc 3 (by simp)
  have o4 := oc 4 (by simp)
  have o5 := oc 5 (by simp)
  have o6 := oc 6 (by simp)
  have o7 := oc 7 (by simp)
  have o8 := oc 8 (by simp)
  have o9 := oc 9 (by simp)
  have o10 := oc 10 (by simp)
  simp only [Nat.zero_add, List.getElem_cons_zero, List.getElem_cons_succ] at o0 o1 o2 o3 o4 o5 o6 o7 o8 o9 o10
  clear oc
  have fr := HF.out.2.1.free
  go_wp2_with fail
  ((try simp only [Exit.inBlock, Exit.then]); refine bodyPost_ret (by simp [results, Try.results78, go_sem]; go_simp; rfl) rfl ?_)
  refine ⟨ka', kc', sa', sc', rfl, ?_, ?_⟩
  · exact HG1.out.1.keeps ((((((((((((HF.out.2.2.2 _ HL1.out.2).set HL1.out.1 0 _).set HL1.out.1 1 _).set HL1.out.1 2 _).set HL1.out.1 3 _).set HL1.out.1 4 _).set HL1.out.1 5 _).set HL1.out.1 6 _).set HL1.out.1 7 _).set HL1.out.1 8 _).set HL1.out.1 9 _).set HL1.out.1 10 _) (Nat.le_trans GR.out (Nat.le_of_lt HL1.out.1))
  · exact (below_set (below_set (below_set (below_set (below_set (below_set (below_set (below_set (below_set (below_set (below_set HF.out.2.2.1 GR.out 0 _) GR.out 1 _) GR.out 2 _) GR.out 3 _) GR.out 4 _) GR.out 5 _) GR.out 6 _) GR.out 7 _) GR.out 8 _) GR.out 9 _) GR.out 10 _)

def ToItSP (w : World) (M n : Nat) (xs : List (ItF Ex)) (e : Ending) (w' : World) : Prop := ∃ (a : Option Addr) (c : Nat), e = .returned (.slice a xs.length c) ∧ RowP w' w.heap.size M 13 (itC M (ExB w' w.heap.size M n)) xs a ∧ Below w.heap.size w w'
set_option maxRecDepth 100000 in
set_option maxHeartbeats 1600000 in
theorem toItemSC {n : Nat} (IH : ToIt n) {w0 w : World} (h00 : Below w0.heap.size w0 w) {lo M : Nat} {xs : List (ItF Ex)} {a : Option Addr} (c : Nat) (h : RowP w0 lo M 13 (itC M (ExB w0 lo M n)) xs a) (hM : M ≤ 1048576) :
    Calls Try.prog 50 #[.slice a xs.length c] w (ToItSP w M n xs) := by
  obtain ⟨hlen, hrow⟩ := h
  have HI := hide IH
  clear IH
  have HLM := hide hlen
  obtain ⟨m, hm⟩ : ∃ m, Hid (xs.length = m) := ⟨_, rfl⟩
  rw [hm.out] at hlen ⊢
  have hlen2 : m ≤ 1048576 := by omega
  have HM := hide hM
  have H0 := hide h00
  have HROW := hide hrow
  clear h00 hlen hM hrow
  obtain ⟨i0, hi, hz0, hz1, hz2⟩ := info_parts Try.infoIt
  obtain ⟨wm, hmk, hown, hgr⟩ := run_make_full (P := Try.prog) w w.heap.size 46 88 i0 _ 13 Try.underlying46 hi hz0 hz1 .i64 .i64 m (by rw [hz2]; omega) (by unfold maxLen; omega) (Nat.le_refl _)
  have HRM := hide (And.intro (Room.of_owns hown (by rw [Array.length_toList, size_madeCells])) ((Below.refl w.heap.size w).grown hgr (Nat.le_refl _) (fun k hk => by cases hk)))
  clear hown hgr hi hz0 hz1 hz2 i0
  obtain ⟨g, hg⟩ : ∃ g, Hid (g = w.heap.size) := ⟨_, rfl⟩
  rw [← hg.out] at hmk HRM
  go_enter Try.func50, Try.ntmps50
  go_wp2_with fail
  clear hmk
  go_loopw [4] (fun x wr => ∃ (j : Nat), x = .int .i64 j ∧ j ≤ m ∧ Hid (Room wr g (m * 13) ∧ (∀ i (h : i < xs.length), i < j → ∃ cs, (itC M (ExB wr (g + 1) M n)) xs[i] cs ∧ cellsAt wr g (i * 13) cs) ∧ Below w.heap.size w wr)) (fun x _ => m - (intOf x).toNat)
  case atStart => exact ⟨0, rfl, by omega, HRM.out.1, (fun i _ hi => absurd hi (by omega)), by rw [← hg.out]; exact HRM.out.2⟩
  case round =>
    obtain ⟨j, rfl, hj, HJ⟩ := hrel
    by_cases hlt : j < m
    · have hlt2 : (j : Int) < m := by omega
      have hjx : j < xs.length := by have := hm.out; omega
      obtain ⟨b, o, rfl, hlo, hb, hel⟩ := HROW.out (by omega)
      obtain ⟨cs, ⟨ka, kc, sa, sc, rfl, hx⟩, hat⟩ := hel j hjx
      obtain ⟨c0, c1, c2, c3, c4, c5, c6, c7, c8, c9, c10, c11, c12⟩ := it_at (hat.same ((below_via H0.out HJ.out.2.2).block b hb))
      have HX := hide hx
      clear hx hat hel hlo hb
      generalize hxe : xs[j] = x at HX c0 c1 c2 c3 c4 c5 c6 c7 c8 c9 c10 c11 c12
      have HXE := hide hxe
      clear hxe
      go_wp2_with fail
      refine (HI.out w0 _ lo M x ka kc sa sc (below_via H0.out HJ.out.2.2) HX.out HM.out).mono ?_
      rintro e w2 ⟨ka', kc', sa', sc', rfl, hx2, hb2⟩
      have hr2 := HJ.out.1.below hb2
      have HX2 := hide (And.intro hx2 (And.intro hb2 (And.intro hr2 (below_via HJ.out.2.2 hb2))))
      clear hx2 hb2 c0 c1 c2 c3 c4 c5 c6 c7 c8 c9 c10 c11 c12
      have hfr := hr2.free
      obtain ⟨u0, hu0⟩ := hr2.has (j * 13) (by omega)
      obtain ⟨u1, hu1⟩ := hr2.has (j * 13 + 1) (by omega)
      obtain ⟨u2, hu2⟩ := hr2.has (j * 13 + 2) (by omega)
      obtain ⟨u3, hu3⟩ := hr2.has (j * 13 + 3) (by omega)
      obtain ⟨u4, hu4⟩ := hr2.has (j * 13 + 4) (by omega)
      obtain ⟨u5, hu5⟩ := hr2.has (j * 13 + 5) (by omega)
      obtain ⟨u6, hu6⟩ := hr2.has (j * 13 + 6) (by omega)
      obtain ⟨u7, hu7⟩ := hr2.has (j * 13 + 7) (by omega)
      obtain ⟨u8, hu8⟩ := hr2.has (j * 13 + 8) (by omega)
      obtain ⟨u9, hu9⟩ := hr2.has (j * 13 + 9) (by omega)
      obtain ⟨u10, hu10⟩ := hr2.has (j * 13 + 10) (by omega)
      obtain ⟨u11, hu11⟩ := hr2.has (j * 13 + 11) (by omega)
      obtain ⟨u12, hu12⟩ := hr2.has (j * 13 + 12) (by omega)
      clear hr2
      go_wp2_with fail
      go_roundw
      case rel =>
        refine ⟨j + 1, by go_num, by omega, ?_⟩
        have hK : ∀ W, W = w2.setCells g (j * 13) [.bool x.star, .string x.qual, .int .i64 x.e.f.kind, .int .i64 x.e.f.op, .bool x.e.f.neg, .int .i64 x.e.f.vk, .int .i64 x.e.f.vn, .string x.e.f.vt, .string x.e.f.qual, .string x.e.f.name, .slice ka' x.e.f.kids.length kc', .slice sa' x.e.f.sub.length sc', .string x.nm] → Room W g (m * 13) ∧ (∀ i (h : i < xs.length), i < j + 1 → ∃ cs, (itC M (ExB W (g + 1) M n)) xs[i] cs ∧ cellsAt W g (i * 13) cs) ∧ Below w.heap.size w W := by
          rintro W rfl
          have hgs : w.heap.size ≤ g := Nat.le_of_eq hg.out.symm
          have hwr : g + 1 ≤ wr.heap.size := HJ.out.1.lt
          refine ⟨HX2.out.2.2.1.sets _ _, fun i hi hij => ?_, below_sets HX2.out.2.2.2 hgs _ _⟩
          by_cases hij2 : i = j
          · subst hij2
            rw [HXE.out]
            refine ⟨_, ⟨ka', kc', sa', sc', rfl, ?_⟩, HX2.out.2.2.1.at_in (i * 13) [.bool x.star, .string x.qual, .int .i64 x.e.f.kind, .int .i64 x.e.f.op, .bool x.e.f.neg, .int .i64 x.e.f.vk, .int .i64 x.e.f.vn, .string x.e.f.vt, .string x.e.f.qual, .string x.e.f.name, .slice ka' x.e.f.kids.length kc', .slice sa' x.e.f.sub.length sc', .string x.nm] (by simp; omega)⟩
            have hk := (Keeps.refl wr.heap.size w2).sets (show g < wr.heap.size by omega) (i * 13) [.bool x.star, .string x.qual, .int .i64 x.e.f.kind, .int .i64 x.e.f.op, .bool x.e.f.neg, .int .i64 x.e.f.vk, .int .i64 x.e.f.vn, .string x.e.f.vt, .string x.e.f.qual, .string x.e.f.name, .slice ka' x.e.f.kids.length kc', .slice sa' x.e.f.sub.length sc', .string x.nm]
            have hx2 := HX2.out.1
            exact ⟨hx2.1, hx2.2.keeps hk (by omega)⟩
          · obtain ⟨cs, ⟨ka3, kc3, sa3, sc3, rfl, hy⟩, hat⟩ := HJ.out.2.1 i hi (by omega)
            refine ⟨_, ⟨ka3, kc3, sa3, sc3, rfl, ?_⟩, (hat.same (HX2.out.2.1.block g HJ.out.1.lt)).apart _ _ (by simp [exV]; omega)⟩
            have hk : Keeps (g + 1) wr (w2.setCells g (j * 13) [.bool x.star, .string x.qual, .int .i64 x.e.f.kind, .int .i64 x.e.f.op, .bool x.e.f.neg, .int .i64 x.e.f.vk, .int .i64 x.e.f.vn, .string x.e.f.vt, .string x.e.f.qual, .string x.e.f.name, .slice ka' x.e.f.kids.length kc', .slice sa' x.e.f.sub.length sc', .string x.nm]) := (Keeps.of HX2.out.2.1).sets (by omega) _ _
            have hx2 := hy
            exact ⟨hx2.1, hx2.2.keeps hk (Nat.le_refl _)⟩
        exact hK _ rfl
      case measure => simp [intOf]; omega
    · have hlt2 : ¬ (j : Int) < m := by omega
      obtain rfl : j = m := by omega
      go_wp2_with fail
      go_ret
      refine ⟨some ⟨g, 0, none⟩, j, by rw [hm.out]; rfl, ⟨HLM.out, fun _ => ⟨g, 0, rfl, Nat.le_of_eq hg.out.symm, HJ.out.1.lt, fun i hi => ?_⟩⟩, HJ.out.2.2⟩
      obtain ⟨cs, ⟨ka, kc, sa, sc, rfl, hx2⟩, hat⟩ := HJ.out.2.1 i hi (by have := hm.out; omega)
      have hk := Keeps.refl (g + 1) wr
      refine ⟨_, ⟨ka, kc, sa, sc, rfl, ?_⟩, by rw [Nat.zero_add]; exact hat⟩
      have hge : w.heap.size ≤ g + 1 := by have := hg.out; omega
      exact ⟨hx2.1, hx2.2.keeps hk hge⟩

def ToSoSP (w : World) (M n : Nat) (xs : List (SoF Ex)) (e : Ending) (w' : World) : Prop := ∃ (a : Option Addr) (c : Nat), e = .returned (.slice a xs.length c) ∧ RowP w' w.heap.size M 3 (soC w' w.heap.size M (ExB w' w.heap.size M n)) xs a ∧ Below w.heap.size w w'
set_option maxRecDepth 100000 in
set_option maxHeartbeats 1600000 in
theorem toSourceSC {n : Nat} (IH : ToSo n) {w0 w : World} (h00 : Below w0.heap.size w0 w) {lo M : Nat} {xs : List (SoF Ex)} {a : Option Addr} (c : Nat) (h : RowP w0 lo M 3 (soC w0 lo M (ExB w0 lo M n)) xs a) (hM : M ≤ 1048576) :
    Calls Try.prog 51 #[.slice a xs.length c] w (ToSoSP w M n xs) := by
  obtain ⟨hlen, hrow⟩ := h
  have HI := hide IH
  clear IH
  have HLM := hide hlen
  obtain ⟨m, hm⟩ : ∃ m, Hid (xs.length = m) := ⟨_, rfl⟩
  rw [hm.out] at hlen ⊢
  have hlen2 : m ≤ 1048576 := by omega
  have HM := hide hM
  have H0 := hide h00
  have HROW := hide hrow
  clear h00 hlen hM hrow
  obtain ⟨i0, hi, hz0, hz1, hz2⟩ := info_parts Try.infoSo
  obtain ⟨wm, hmk, hown, hgr⟩ := run_make_full (P := Try.prog) w w.heap.size 47 90 i0 _ 3 Try.underlying47 hi hz0 hz1 .i64 .i64 m (by rw [hz2]; omega) (by unfold maxLen; omega) (Nat.le_refl _)
  have HRM := hide (And.intro (Room.of_owns hown (by rw [Array.length_toList, size_madeCells])) ((Below.refl w.heap.size w).grown hgr (Nat.le_refl _) (fun k hk => by cases hk)))
  clear hown hgr hi hz0 hz1 hz2 i0
  obtain ⟨g, hg⟩ : ∃ g, Hid (g = w.heap.size) := ⟨_, rfl⟩
  rw [← hg.out] at hmk HRM
  go_enter Try.func51, Try.ntmps51
  go_wp2_with fail
  clear hmk
  go_loopw [4] (fun x wr => ∃ (j : Nat), x = .int .i64 j ∧ j ≤ m ∧ Hid (Room wr g (m * 3) ∧ (∀ i (h : i < xs.length), i < j → ∃ cs, (soC wr (g + 1) M (ExB wr (g + 1) M n)) xs[i] cs ∧ cellsAt wr g (i * 3) cs) ∧ Below w.heap.size w wr)) (fun x _ => m - (intOf x).toNat)
  case atStart => exact ⟨0, rfl, by omega, HRM.out.1, (fun i _ hi => absurd hi (by omega)), by rw [← hg.out]; exact HRM.out.2⟩
  case round =>
    obtain ⟨j, rfl, hj, HJ⟩ := hrel
    by_cases hlt : j < m
    · have hlt2 : (j : Int) < m := by omega
      have hjx : j < xs.length := by have := hm.out; omega
      obtain ⟨b, o, rfl, hlo, hb, hel⟩ := HROW.out (by omega)
      obtain ⟨cs, ⟨oa, oc, rfl, hx⟩, hat⟩ := hel j hjx
      obtain ⟨c0, c1, c2⟩ := so_at (hat.same ((below_via H0.out HJ.out.2.2).block b hb))
      have HX := hide hx
      clear hx hat hel hlo hb
      generalize hxe : xs[j] = x at HX c0 c1 c2
      have HXE := hide hxe
      clear hxe
      go_wp2_with fail
      refine (HI.out w0 _ lo M x oa oc (below_via H0.out HJ.out.2.2) HX.out HM.out).mono ?_
      rintro e w2 ⟨oa', oc', rfl, hx2, hb2⟩
      have hr2 := HJ.out.1.below hb2
      have HX2 := hide (And.intro hx2 (And.intro hb2 (And.intro hr2 (below_via HJ.out.2.2 hb2))))
      clear hx2 hb2 c0 c1 c2
      have hfr := hr2.free
      obtain ⟨u0, hu0⟩ := hr2.has (j * 3) (by omega)
      obtain ⟨u1, hu1⟩ := hr2.has (j * 3 + 1) (by omega)
      obtain ⟨u2, hu2⟩ := hr2.has (j * 3 + 2) (by omega)
      clear hr2
      go_wp2_with fail
      go_roundw
      case rel =>
        refine ⟨j + 1, by go_num, by omega, ?_⟩
        have hK : ∀ W, W = w2.setCells g (j * 3) [.string x.table, .string x.nm, .slice oa' x.on.length oc'] → Room W g (m * 3) ∧ (∀ i (h : i < xs.length), i < j + 1 → ∃ cs, (soC W (g + 1) M (ExB W (g + 1) M n)) xs[i] cs ∧ cellsAt W g (i * 3) cs) ∧ Below w.heap.size w W := by
          rintro W rfl
          have hgs : w.heap.size ≤ g := Nat.le_of_eq hg.out.symm
          have hwr : g + 1 ≤ wr.heap.size := HJ.out.1.lt
          refine ⟨HX2.out.2.2.1.sets _ _, fun i hi hij => ?_, below_sets HX2.out.2.2.2 hgs _ _⟩
          by_cases hij2 : i = j
          · subst hij2
            rw [HXE.out]
            refine ⟨_, ⟨oa', oc', rfl, ?_⟩, HX2.out.2.2.1.at_in (i * 3) [.string x.table, .string x.nm, .slice oa' x.on.length oc'] (by simp; omega)⟩
            have hk := (Keeps.refl wr.heap.size w2).sets (show g < wr.heap.size by omega) (i * 3) [.string x.table, .string x.nm, .slice oa' x.on.length oc']
            have hx2 := HX2.out.1
            exact ⟨hx2.1, rowEx_keeps hx2.2 hk (by omega)⟩
          · obtain ⟨cs, ⟨oa3, oc3, rfl, hy⟩, hat⟩ := HJ.out.2.1 i hi (by omega)
            refine ⟨_, ⟨oa3, oc3, rfl, ?_⟩, (hat.same (HX2.out.2.1.block g HJ.out.1.lt)).apart _ _ (by simp; omega)⟩
            have hk : Keeps (g + 1) wr (w2.setCells g (j * 3) [.string x.table, .string x.nm, .slice oa' x.on.length oc']) := (Keeps.of HX2.out.2.1).sets (by omega) _ _
            have hx2 := hy
            exact ⟨hx2.1, rowEx_keeps hx2.2 hk (Nat.le_refl _)⟩
        exact hK _ rfl
      case measure => simp [intOf]; omega
    · have hlt2 : ¬ (j : Int) < m := by omega
      obtain rfl : j = m := by omega
      go_wp2_with fail
      go_ret
      refine ⟨some ⟨g, 0, none⟩, j, by rw [hm.out]; rfl, ⟨HLM.out, fun _ => ⟨g, 0, rfl, Nat.le_of_eq hg.out.symm, HJ.out.1.lt, fun i hi => ?_⟩⟩, HJ.out.2.2⟩
      obtain ⟨cs, ⟨oa, oc, rfl, hx2⟩, hat⟩ := HJ.out.2.1 i hi (by have := hm.out; omega)
      have hk := Keeps.refl (g + 1) wr
      refine ⟨_, ⟨oa, oc, rfl, ?_⟩, by rw [Nat.zero_add]; exact hat⟩
      have hge : w.heap.size ≤ g + 1 := by have := hg.out; omega
      exact ⟨hx2.1, rowEx_keeps hx2.2 hk hge⟩

def ToKeSP (w : World) (M n : Nat) (xs : List (KeF Ex)) (e : Ending) (w' : World) : Prop := ∃ (a : Option Addr) (c : Nat), e = .returned (.slice a xs.length c) ∧ RowP w' w.heap.size M 11 (keC (ExB w' w.heap.size M n)) xs a ∧ Below w.heap.size w w'
set_option maxRecDepth 100000 in
set_option maxHeartbeats 1600000 in
theorem toSortKeySC {n : Nat} (IH : ToKe n) {w0 w : World} (h00 : Below w0.heap.size w0 w) {lo M : Nat} {xs : List (KeF Ex)} {a : Option Addr} (c : Nat) (h : RowP w0 lo M 11 (keC (ExB w0 lo M n)) xs a) (hM : M ≤ 1048576) :
    Calls Try.prog 52 #[.slice a xs.length c] w (ToKeSP w M n xs) := by
  obtain ⟨hlen, hrow⟩ := h
  have HI := hide IH
  clear IH
  have HLM := hide hlen
  obtain ⟨m, hm⟩ : ∃ m, Hid (xs.length = m) := ⟨_, rfl⟩
  rw [hm.out] at hlen ⊢
  have hlen2 : m ≤ 1048576 := by omega
  have HM := hide hM
  have H0 := hide h00
  have HROW := hide hrow
  clear h00 hlen hM hrow
  obtain ⟨i0, hi, hz0, hz1, hz2⟩ := info_parts Try.infoKe
  obtain ⟨wm, hmk, hown, hgr⟩ := run_make_full (P := Try.prog) w w.heap.size 48 92 i0 _ 11 Try.underlying48 hi hz0 hz1 .i64 .i64 m (by rw [hz2]; omega) (by unfold maxLen; omega) (Nat.le_refl _)
  have HRM := hide (And.intro (Room.of_owns hown (by rw [Array.length_toList, size_madeCells])) ((Below.refl w.heap.size w).grown hgr (Nat.le_refl _) (fun k hk => by cases hk)))
  clear hown hgr hi hz0 hz1 hz2 i0
  obtain ⟨g, hg⟩ : ∃ g, Hid (g = w.heap.size) := ⟨_, rfl⟩
  rw [← hg.out] at hmk HRM
  go_enter Try.func52, Try.ntmps52
  go_wp2_with fail
  clear hmk
  go_loopw [4] (fun x wr => ∃ (j : Nat), x = .int .i64 j ∧ j ≤ m ∧ Hid (Room wr g (m * 11) ∧ (∀ i (h : i < xs.length), i < j → ∃ cs, (keC (ExB wr (g + 1) M n)) xs[i] cs ∧ cellsAt wr g (i * 11) cs) ∧ Below w.heap.size w wr)) (fun x _ => m - (intOf x).toNat)
  case atStart => exact ⟨0, rfl, by omega, HRM.out.1, (fun i _ hi => absurd hi (by omega)), by rw [← hg.out]; exact HRM.out.2⟩
  case round =>
    obtain ⟨j, rfl, hj, HJ⟩ := hrel
    by_cases hlt : j < m
    · have hlt2 : (j : Int) < m := by omega
      have hjx : j < xs.length := by have := hm.out; omega
      obtain ⟨b, o, rfl, hlo, hb, hel⟩ := HROW.out (by omega)
      obtain ⟨cs, ⟨ka, kc, sa, sc, rfl, hx⟩, hat⟩ := hel j hjx
      obtain ⟨c0, c1, c2, c3, c4, c5, c6, c7, c8, c9, c10⟩ := ke_at (hat.same ((below_via H0.out HJ.out.2.2).block b hb))
      have HX := hide hx
      clear hx hat hel hlo hb
      generalize hxe : xs[j] = x at HX c0 c1 c2 c3 c4 c5 c6 c7 c8 c9 c10
      have HXE := hide hxe
      clear hxe
      go_wp2_with fail
      refine (HI.out w0 _ lo M x ka kc sa sc (below_via H0.out HJ.out.2.2) HX.out HM.out).mono ?_
      rintro e w2 ⟨ka', kc', sa', sc', rfl, hx2, hb2⟩
      have hr2 := HJ.out.1.below hb2
      have HX2 := hide (And.intro hx2 (And.intro hb2 (And.intro hr2 (below_via HJ.out.2.2 hb2))))
      clear hx2 hb2 c0 c1 c2 c3 c4 c5 c6 c7 c8 c9 c10
      have hfr := hr2.free
      obtain ⟨u0, hu0⟩ := hr2.has (j * 11) (by omega)
      obtain ⟨u1, hu1⟩ := hr2.has (j * 11 + 1) (by omega)
      obtain ⟨u2, hu2⟩ := hr2.has (j * 11 + 2) (by omega)
      obtain ⟨u3, hu3⟩ := hr2.has (j * 11 + 3) (by omega)
      obtain ⟨u4, hu4⟩ := hr2.has (j * 11 + 4) (by omega)
      obtain ⟨u5, hu5⟩ := hr2.has (j * 11 + 5) (by omega)
      obtain ⟨u6, hu6⟩ := hr2.has (j * 11 + 6) (by omega)
      obtain ⟨u7, hu7⟩ := hr2.has (j * 11 + 7) (by omega)
      obtain ⟨u8, hu8⟩ := hr2.has (j * 11 + 8) (by omega)
      obtain ⟨u9, hu9⟩ := hr2.has (j * 11 + 9) (by omega)
      obtain ⟨u10, hu10⟩ := hr2.has (j * 11 + 10) (by omega)
      clear hr2
      go_wp2_with fail
      go_roundw
      case rel =>
        refine ⟨j + 1, by go_num, by omega, ?_⟩
        have hK : ∀ W, W = w2.setCells g (j * 11) [.int .i64 x.e.f.kind, .int .i64 x.e.f.op, .bool x.e.f.neg, .int .i64 x.e.f.vk, .int .i64 x.e.f.vn, .string x.e.f.vt, .string x.e.f.qual, .string x.e.f.name, .slice ka' x.e.f.kids.length kc', .slice sa' x.e.f.sub.length sc', .bool x.desc] → Room W g (m * 11) ∧ (∀ i (h : i < xs.length), i < j + 1 → ∃ cs, (keC (ExB W (g + 1) M n)) xs[i] cs ∧ cellsAt W g (i * 11) cs) ∧ Below w.heap.size w W := by
          rintro W rfl
          have hgs : w.heap.size ≤ g := Nat.le_of_eq hg.out.symm
          have hwr : g + 1 ≤ wr.heap.size := HJ.out.1.lt
          refine ⟨HX2.out.2.2.1.sets _ _, fun i hi hij => ?_, below_sets HX2.out.2.2.2 hgs _ _⟩
          by_cases hij2 : i = j
          · subst hij2
            rw [HXE.out]
            refine ⟨_, ⟨ka', kc', sa', sc', rfl, ?_⟩, HX2.out.2.2.1.at_in (i * 11) [.int .i64 x.e.f.kind, .int .i64 x.e.f.op, .bool x.e.f.neg, .int .i64 x.e.f.vk, .int .i64 x.e.f.vn, .string x.e.f.vt, .string x.e.f.qual, .string x.e.f.name, .slice ka' x.e.f.kids.length kc', .slice sa' x.e.f.sub.length sc', .bool x.desc] (by simp; omega)⟩
            have hk := (Keeps.refl wr.heap.size w2).sets (show g < wr.heap.size by omega) (i * 11) [.int .i64 x.e.f.kind, .int .i64 x.e.f.op, .bool x.e.f.neg, .int .i64 x.e.f.vk, .int .i64 x.e.f.vn, .string x.e.f.vt, .string x.e.f.qual, .string x.e.f.name, .slice ka' x.e.f.kids.length kc', .slice sa' x.e.f.sub.length sc', .bool x.desc]
            have hx2 := HX2.out.1
            exact hx2.keeps hk (by omega)
          · obtain ⟨cs, ⟨ka3, kc3, sa3, sc3, rfl, hy⟩, hat⟩ := HJ.out.2.1 i hi (by omega)
            refine ⟨_, ⟨ka3, kc3, sa3, sc3, rfl, ?_⟩, (hat.same (HX2.out.2.1.block g HJ.out.1.lt)).apart _ _ (by simp [exV]; omega)⟩
            have hk : Keeps (g + 1) wr (w2.setCells g (j * 11) [.int .i64 x.e.f.kind, .int .i64 x.e.f.op, .bool x.e.f.neg, .int .i64 x.e.f.vk, .int .i64 x.e.f.vn, .string x.e.f.vt, .string x.e.f.qual, .string x.e.f.name, .slice ka' x.e.f.kids.length kc', .slice sa' x.e.f.sub.length sc', .bool x.desc]) := (Keeps.of HX2.out.2.1).sets (by omega) _ _
            have hx2 := hy
            exact hx2.keeps hk (Nat.le_refl _)
        exact hK _ rfl
      case measure => simp [intOf]; omega
    · have hlt2 : ¬ (j : Int) < m := by omega
      obtain rfl : j = m := by omega
      go_wp2_with fail
      go_ret
      refine ⟨some ⟨g, 0, none⟩, j, by rw [hm.out]; rfl, ⟨HLM.out, fun _ => ⟨g, 0, rfl, Nat.le_of_eq hg.out.symm, HJ.out.1.lt, fun i hi => ?_⟩⟩, HJ.out.2.2⟩
      obtain ⟨cs, ⟨ka, kc, sa, sc, rfl, hx2⟩, hat⟩ := HJ.out.2.1 i hi (by have := hm.out; omega)
      have hk := Keeps.refl (g + 1) wr
      refine ⟨_, ⟨ka, kc, sa, sc, rfl, ?_⟩, by rw [Nat.zero_add]; exact hat⟩
      have hge : w.heap.size ≤ g + 1 := by have := hg.out; omega
      exact hx2.keeps hk hge

set_option maxRecDepth 100000 in
set_option maxHeartbeats 1600000 in
theorem toQueryC {n : Nat} (IH : ToEx n) : ToQu n := by
  intro w0 w lo M x ia ic fa fc wa wc oa oc h00 hx hM
  obtain ⟨va, hva⟩ : ∃ va, Hid (va = w.heap.size) := ⟨_, rfl⟩
  obtain ⟨vr, hvr⟩ : ∃ vr, Hid (vr = w.heap.size + 1) := ⟨_, rfl⟩
  obtain ⟨vo, hvo⟩ : ∃ vo, Hid (vo = w.heap.size + 2) := ⟨_, rfl⟩
  have hv := Blk.made3 w [.bool x.distinct, .slice ia x.items.length ic, .slice fa x.src.length fc, .slice wa x.whr.length wc, .slice oa x.ord.length oc, .int .i64 x.limit] [.bool false, .slice none 0 0, .slice none 0 0, .slice none 0 0, .slice none 0 0, .int .i64 0] [.bool x.distinct, .slice none 0 0, .slice none 0 0, .slice none 0 0, .slice none 0 0, .int .i64 0] 43 50 50
  rw [← hvo.out, ← hvr.out, ← hva.out] at hv
  have HV0 := hide hv
  have H0 := hide h00
  have HM := hide hM
  have n1 : va ≠ vr := by have := hva.out; have := hvr.out; omega
  have n2 : va ≠ vo := by have := hva.out; have := hvo.out; omega
  have n3 : vr ≠ vo := by have := hvr.out; have := hvo.out; omega
  have N1 := hide n1
  have N2 := hide n2
  have N3 := hide n3
  have GR := hide (show w.heap.size ≤ vr by have := hvr.out; omega)
  have GO := hide (show w.heap.size ≤ vo by have := hvo.out; omega)
  clear hv h00 hM n1 n2 n3
  have HX := hide hx
  clear hx
  have HI := hide IH
  clear IH
  go_enter Try.func19, Try.ntmps19
  go_wp2_with fail
  (try rw [← hvo.out, ← hvr.out, ← hva.out])
  refine (toItemSC (toItemC HI.out) (below_via H0.out (by go_grown)) ic HX.out.items HM.out).mono ?_
  rintro e w1 ⟨ia', ic', rfl, hg, hb1⟩
  have HB1 := hide (below_via (show Below w.heap.size w _ by go_grown) hb1)
  have ha1 := HV0.out.1.step hb1
  have hr1 := HV0.out.2.1.step hb1
  have ho1 := HV0.out.2.2.step hb1
  have HV1 := hide (And.intro ha1.1 (And.intro hr1.1 (show Blk w1 vo [.bool x.distinct, .slice none 0 0, .slice none 0 0, .slice none 0 0, .slice none 0 0, .int .i64 0] from ho1.1)))
  have HL1 := hide (And.intro hr1.2 ho1.2)
  have HG1 := hide (And.intro hg hb1)
  clear ha1 hr1 ho1 hb1 hg
  obtain ⟨a0, a1, a2, a3, a4, a5⟩ := qu_at0 HV1.out.1.cells
  have rc := HV1.out.2.1.cells
  have r0 := rc 0 (by simp)
  have r1 := rc 1 (by simp)
  have r2 := rc 2 (by simp)
  have r3 := rc 3 (by simp)
  have r4 := rc 4 (by simp)
  have r5 := rc 5 (by simp)
  simp only [Nat.zero_add, List.getElem_cons_zero, List.getElem_cons_succ] at r0 r1 r2 r3 r4 r5
  clear rc
  have fr := HV1.out.2.1.free
  have oc := HV1.out.2.2.cells
  have o0 := oc 0 (by simp)
  have o1 := oc 1 (by simp)
  have o2 := oc 2 (by simp)
  have o3 := oc 3 (by simp)
  have o4 := oc 4 (by simp)
  have o5 := oc 5 (by simp)
  simp only [Nat.zero_add, List.getElem_cons_zero, List.getElem_cons_succ] at o0 o1 o2 o3 o4 o5
  clear oc
  have fo := HV1.out.2.2.free
  go_wp2_with fail
  refine (toSourceSC (toSourceC HI.out) (below_via H0.out (below_set HB1.out GO.out 1 _)) fc HX.out.src HM.out).mono ?_
  rintro e w2 ⟨fa', fc', rfl, hg, hb2⟩
  have HB2 := hide (below_via (below_set HB1.out GO.out 1 _) hb2)
  have ha2 := (HV1.out.1.other N2.out 1 _).step hb2
  have hr2 := (HV1.out.2.1.other N3.out 1 _).step hb2
  have ho2 := (HV1.out.2.2.set 1 (by simp) _).step hb2
  have HV2 := hide (And.intro ha2.1 (And.intro hr2.1 (show Blk w2 vo [.bool x.distinct, .slice ia' x.items.length ic', .slice none 0 0, .slice none 0 0, .slice none 0 0, .int .i64 0] from ho2.1)))
  have HL2 := hide (And.intro hr2.2 ho2.2)
  have HG2 := hide (And.intro hg hb2)
  clear ha2 hr2 ho2 hb2 hg a0 a1 a2 a3 a4 a5 r0 r1 r2 r3 r4 r5 o0 o1 o2 o3 o4 o5 fr fo
  obtain ⟨a0, a1, a2, a3, a4, a5⟩ := qu_at0 HV2.out.1.cells
  have rc := HV2.out.2.1.cells
  have r0 := rc 0 (by simp)
  have r1 := rc 1 (by simp)
  have r2 := rc 2 (by simp)
  have r3 := rc 3 (by simp)
  have r4 := rc 4 (by simp)
  have r5 := rc 5 (by simp)
  simp only [Nat.zero_add, List.getElem_cons_zero, List.getElem_cons_succ] at r0 r1 r2 r3 r4 r5
  clear rc
  have fr := HV2.out.2.1.free
  have oc := HV2.out.2.2.cells
  have o0 := oc 0 (by simp)
  have o1 := oc 1 (by simp)
  have o2 := oc 2 (by simp)
  have o3 := oc 3 (by simp)
  have o4 := oc 4 (by simp)
  have o5 := oc 5 (by simp)
  simp only [Nat.zero_add, List.getElem_cons_zero, List.getElem_cons_succ] at o0 o1 o2 o3 o4 o5
  clear oc
  have fo := HV2.out.2.2.free
  go_wp2_with fail
  refine (toExprSC HI.out (below_via H0.out (below_set HB2.out GO.out 2 _)) wc HX.out.whr HM.out).mono ?_
  rintro e w3 ⟨wa', wc', rfl, hg, hb3⟩
  have HB3 := hide (below_via (below_set HB2.out GO.out 2 _) hb3)
  have ha3 := (HV2.out.1.other N2.out 2 _).step hb3
  have hr3 := (HV2.out.2.1.other N3.out 2 _).step hb3
  have ho3 := (HV2.out.2.2.set 2 (by simp) _).step hb3
  have HV3 := hide (And.intro ha3.1 (And.intro hr3.1 (show Blk w3 vo [.bool x.distinct, .slice ia' x.items.length ic', .slice fa' x.src.length fc', .slice none 0 0, .slice none 0 0, .int .i64 0] from ho3.1)))
  have HL3 := hide (And.intro hr3.2 ho3.2)
  have HG3 := hide (And.intro hg hb3)
  clear ha3 hr3 ho3 hb3 hg a0 a1 a2 a3 a4 a5 r0 r1 r2 r3 r4 r5 o0 o1 o2 o3 o4 o5 fr fo
  obtain ⟨a0, a1, a2, a3, a4, a5⟩ := qu_at0 HV3.out.1.cells
  have rc := HV3.out.2.1.cells
  have r0 := rc 0 (by simp)
  have r1 := rc 1 (by simp)
  have r2 := rc 2 (by simp)
  have r3 := rc 3 (by simp)
  have r4 := rc 4 (by simp)
  have r5 := rc 5 (by simp)
  simp only [Nat.zero_add, List.getElem_cons_zero, List.getElem_cons_succ] at r0 r1 r2 r3 r4 r5
  clear rc
  have fr := HV3.out.2.1.free
  have oc := HV3.out.2.2.cells
  have o0 := oc 0 (by simp)
  have o1 := oc 1 (by simp)
  have o2 := oc 2 (by simp)
  have o3 := oc 3 (by simp)
  have o4 := oc 4 (by simp)
  have o5 := oc 5 (by simp)
  simp only [Nat.zero_add, List.getElem_cons_zero, List.getElem_cons_succ] at o0 o1 o2 o3 o4 o5
  clear oc
  have fo := HV3.out.2.2.free
  go_wp2_with fail
  refine (toSortKeySC (toSortKeyC HI.out) (below_via H0.out (below_set HB3.out GO.out 3 _)) oc HX.out.ord HM.out).mono ?_
  rintro e w4 ⟨oa', oc', rfl, hg, hb4⟩
  have HB4 := hide (below_via (below_set HB3.out GO.out 3 _) hb4)
  have ha4 := (HV3.out.1.other N2.out 3 _).step hb4
  have hr4 := (HV3.out.2.1.other N3.out 3 _).step hb4
  have ho4 := (HV3.out.2.2.set 3 (by simp) _).step hb4
  have HV4 := hide (And.intro ha4.1 (And.intro hr4.1 (show Blk w4 vo [.bool x.distinct, .slice ia' x.items.length ic', .slice fa' x.src.length fc', .slice wa' x.whr.length wc', .slice none 0 0, .int .i64 0] from ho4.1)))
  have HL4 := hide (And.intro hr4.2 ho4.2)
  have HG4 := hide (And.intro hg hb4)
  clear ha4 hr4 ho4 hb4 hg a0 a1 a2 a3 a4 a5 r0 r1 r2 r3 r4 r5 o0 o1 o2 o3 o4 o5 fr fo
  obtain ⟨a0, a1, a2, a3, a4, a5⟩ := qu_at0 HV4.out.1.cells
  have rc := HV4.out.2.1.cells
  have r0 := rc 0 (by simp)
  have r1 := rc 1 (by simp)
  have r2 := rc 2 (by simp)
  have r3 := rc 3 (by simp)
  have r4 := rc 4 (by simp)
  have r5 := rc 5 (by simp)
  simp only [Nat.zero_add, List.getElem_cons_zero, List.getElem_cons_succ] at r0 r1 r2 r3 r4 r5
  clear rc
  have fr := HV4.out.2.1.free
  have oc := HV4.out.2.2.cells
  have o0 := oc 0 (by simp)
  have o1 := oc 1 (by simp)
  have o2 := oc 2 (by simp)
  have o3 := oc 3 (by simp)
  have o4 := oc 4 (by simp)
  have o5 := oc 5 (by simp)
  simp only [Nat.zero_add, List.getElem_cons_zero, List.getElem_cons_succ] at o0 o1 o2 o3 o4 o5
  clear oc
  have fo := HV4.out.2.2.free
  go_upto_region 8 with fail
  have HF := hide (show Blk ((w4.setCell ⟨vo, 4, none⟩ (.slice oa' x.ord.length oc')).setCell ⟨vo, 5, none⟩ (.int .i64 x.limit)) vo [.bool x.distinct, .slice ia' x.items.length ic', .slice fa' x.src.length fc', .slice wa' x.whr.length wc', .slice oa' x.ord.length oc', .int .i64 x.limit] ∧ Blk ((w4.setCell ⟨vo, 4, none⟩ (.slice oa' x.ord.length oc')).setCell ⟨vo, 5, none⟩ (.int .i64 x.limit)) vr [.bool false, .slice none 0 0, .slice none 0 0, .slice none 0 0, .slice none 0 0, .int .i64 0] ∧ Below w.heap.size w ((w4.setCell ⟨vo, 4, none⟩ (.slice oa' x.ord.length oc')).setCell ⟨vo, 5, none⟩ (.int .i64 x.limit)) ∧ (∀ B, vo < B → Keeps B w1 ((w4.setCell ⟨vo, 4, none⟩ (.slice oa' x.ord.length oc')).setCell ⟨vo, 5, none⟩ (.int .i64 x.limit))) ∧ (∀ B, vo < B → Keeps B w2 ((w4.setCell ⟨vo, 4, none⟩ (.slice oa' x.ord.length oc')).setCell ⟨vo, 5, none⟩ (.int .i64 x.limit))) ∧ (∀ B, vo < B → Keeps B w3 ((w4.setCell ⟨vo, 4, none⟩ (.slice oa' x.ord.length oc')).setCell ⟨vo, 5, none⟩ (.int .i64 x.limit))) ∧ (∀ B, vo < B → Keeps B w4 ((w4.setCell ⟨vo, 4, none⟩ (.slice oa' x.ord.length oc')).setCell ⟨vo, 5, none⟩ (.int .i64 x.limit))) from ⟨((HV4.out.2.2.set 4 (by simp) _).set 5 (by simp) _), ((HV4.out.2.1.other N3.out 4 _).other N3.out 5 _), (below_set (below_set HB4.out GO.out 4 _) GO.out 5 _), fun B hB => (((((((((Keeps.refl B w1).set hB 1 _).below HG2.out.2).set hB 2 _).below HG3.out.2).set hB 3 _).below HG4.out.2).set hB 4 _).set hB 5 _), fun B hB => (((((((Keeps.refl B w2).set hB 2 _).below HG3.out.2).set hB 3 _).below HG4.out.2).set hB 4 _).set hB 5 _), fun B hB => (((((Keeps.refl B w3).set hB 3 _).below HG4.out.2).set hB 4 _).set hB 5 _), fun B hB => (((Keeps.refl B w4).set hB 4 _).set hB 5 _)⟩)
  clear a0 r0 o0 a1 r1 o1 a2 r2 o2 a3 r3 o3 a4 r4 o4 a5 r5 o5 fr fo
  generalize ((w4.setCell ⟨vo, 4, none⟩ (.slice oa' x.ord.length oc')).setCell ⟨vo, 5, none⟩ (.int .i64 x.limit)) = wf at HF ⊢
  have rc := HF.out.2.1.cells
  have r0 := rc 0 (by simp)
  have r1 := rc 1 (by simp)
  have r2 := rc 2 (by simp)
  have r3 := rc 3 (by simp)
  have r4 := rc 4 (by simp)
  have r5 := rc 5 (by simp)
  simp only [Nat.zero_add, List.getElem_cons_zero, List.getElem_cons_succ] at r0 r1 r2 r3 r4 r5
  clear rc
  have oc := HF.out.1.cells
  have o0 := oc 0 (by simp)
  have o1 := oc 1 (by simp)
  have o2 := oc 2 (by simp)
  have o3 := oc 3 (by simp)
  have o4 := oc 4 (by simp)
  have o5 := oc 5 (by simp)
  simp only [Nat.zero_add, List.getElem_cons_zero, List.getElem_cons_succ] at o0 o1 o2 o3 o4 o5
  clear oc
  have fr := HF.out.2.1.free
  go_wp2_with fail
  ((try simp only [Exit.inBlock, Exit.then]); refine bodyPost_ret (by simp [results, Try.results19, go_sem]; go_simp; rfl) rfl ?_)
  refine ⟨ia', ic', fa', fc', wa', wc', oa', oc', rfl, ?_, ?_⟩
  · exact ⟨rowIt_keeps HG1.out.1 (((((((HF.out.2.2.2.1 _ HL1.out.2).set HL1.out.1 0 _).set HL1.out.1 1 _).set HL1.out.1 2 _).set HL1.out.1 3 _).set HL1.out.1 4 _).set HL1.out.1 5 _) (Nat.le_trans GR.out (Nat.le_of_lt HL1.out.1)), rowSo_keeps HG2.out.1 (((((((HF.out.2.2.2.2.1 _ HL2.out.2).set HL2.out.1 0 _).set HL2.out.1 1 _).set HL2.out.1 2 _).set HL2.out.1 3 _).set HL2.out.1 4 _).set HL2.out.1 5 _) (Nat.le_trans GR.out (Nat.le_of_lt HL2.out.1)), rowEx_keeps HG3.out.1 (((((((HF.out.2.2.2.2.2.1 _ HL3.out.2).set HL3.out.1 0 _).set HL3.out.1 1 _).set HL3.out.1 2 _).set HL3.out.1 3 _).set HL3.out.1 4 _).set HL3.out.1 5 _) (Nat.le_trans GR.out (Nat.le_of_lt HL3.out.1)), rowKe_keeps HG4.out.1 (((((((HF.out.2.2.2.2.2.2 _ HL4.out.2).set HL4.out.1 0 _).set HL4.out.1 1 _).set HL4.out.1 2 _).set HL4.out.1 3 _).set HL4.out.1 4 _).set HL4.out.1 5 _) (Nat.le_trans GR.out (Nat.le_of_lt HL4.out.1))⟩
  · exact (below_set (below_set (below_set (below_set (below_set (below_set HF.out.2.2.1 GR.out 0 _) GR.out 1 _) GR.out 2 _) GR.out 3 _) GR.out 4 _) GR.out 5 _)

def ToQuSP (w : World) (M n : Nat) (xs : List (QuF Ex)) (e : Ending) (w' : World) : Prop := ∃ (a : Option Addr) (c : Nat), e = .returned (.slice a xs.length c) ∧ RowP w' w.heap.size M 6 (quC w' w.heap.size M (ExB w' w.heap.size M n)) xs a ∧ Below w.heap.size w w'
set_option maxRecDepth 100000 in
set_option maxHeartbeats 1600000 in
theorem toQuerySC {n : Nat} (IH : ToQu n) {w0 w : World} (h00 : Below w0.heap.size w0 w) {lo M : Nat} {xs : List (QuF Ex)} {a : Option Addr} (c : Nat) (h : RowP w0 lo M 6 (quC w0 lo M (ExB w0 lo M n)) xs a) (hM : M ≤ 1048576) :
    Calls Try.prog 39 #[.slice a xs.length c] w (ToQuSP w M n xs) := by
  obtain ⟨hlen, hrow⟩ := h
  have HI := hide IH
  clear IH
  have HLM := hide hlen
  obtain ⟨m, hm⟩ : ∃ m, Hid (xs.length = m) := ⟨_, rfl⟩
  rw [hm.out] at hlen ⊢
  have hlen2 : m ≤ 1048576 := by omega
  have HM := hide hM
  have H0 := hide h00
  have HROW := hide hrow
  clear h00 hlen hM hrow
  obtain ⟨i0, hi, hz0, hz1, hz2⟩ := info_parts Try.infoQu
  obtain ⟨wm, hmk, hown, hgr⟩ := run_make_full (P := Try.prog) w w.heap.size 32 50 i0 _ 6 Try.underlying32 hi hz0 hz1 .i64 .i64 m (by rw [hz2]; omega) (by unfold maxLen; omega) (Nat.le_refl _)
  have HRM := hide (And.intro (Room.of_owns hown (by rw [Array.length_toList, size_madeCells])) ((Below.refl w.heap.size w).grown hgr (Nat.le_refl _) (fun k hk => by cases hk)))
  clear hown hgr hi hz0 hz1 hz2 i0
  obtain ⟨g, hg⟩ : ∃ g, Hid (g = w.heap.size) := ⟨_, rfl⟩
  rw [← hg.out] at hmk HRM
  go_enter Try.func39, Try.ntmps39
  go_wp2_with fail
  clear hmk
  go_loopw [4] (fun x wr => ∃ (j : Nat), x = .int .i64 j ∧ j ≤ m ∧ Hid (Room wr g (m * 6) ∧ (∀ i (h : i < xs.length), i < j → ∃ cs, (quC wr (g + 1) M (ExB wr (g + 1) M n)) xs[i] cs ∧ cellsAt wr g (i * 6) cs) ∧ Below w.heap.size w wr)) (fun x _ => m - (intOf x).toNat)
  case atStart => exact ⟨0, rfl, by omega, HRM.out.1, (fun i _ hi => absurd hi (by omega)), by rw [← hg.out]; exact HRM.out.2⟩
  case round =>
    obtain ⟨j, rfl, hj, HJ⟩ := hrel
    by_cases hlt : j < m
    · have hlt2 : (j : Int) < m := by omega
      have hjx : j < xs.length := by have := hm.out; omega
      obtain ⟨b, o, rfl, hlo, hb, hel⟩ := HROW.out (by omega)
      obtain ⟨cs, ⟨ia, ic, fa, fc, wa, wc, oa, oc, rfl, hx⟩, hat⟩ := hel j hjx
      obtain ⟨c0, c1, c2, c3, c4, c5⟩ := qu_at (hat.same ((below_via H0.out HJ.out.2.2).block b hb))
      have HX := hide hx
      clear hx hat hel hlo hb
      generalize hxe : xs[j] = x at HX c0 c1 c2 c3 c4 c5
      have HXE := hide hxe
      clear hxe
      go_wp2_with fail
      refine (HI.out w0 _ lo M x ia ic fa fc wa wc oa oc (below_via H0.out HJ.out.2.2) HX.out HM.out).mono ?_
      rintro e w2 ⟨ia', ic', fa', fc', wa', wc', oa', oc', rfl, hx2, hb2⟩
      have hr2 := HJ.out.1.below hb2
      have HX2 := hide (And.intro hx2 (And.intro hb2 (And.intro hr2 (below_via HJ.out.2.2 hb2))))
      clear hx2 hb2 c0 c1 c2 c3 c4 c5
      have hfr := hr2.free
      obtain ⟨u0, hu0⟩ := hr2.has (j * 6) (by omega)
      obtain ⟨u1, hu1⟩ := hr2.has (j * 6 + 1) (by omega)
      obtain ⟨u2, hu2⟩ := hr2.has (j * 6 + 2) (by omega)
      obtain ⟨u3, hu3⟩ := hr2.has (j * 6 + 3) (by omega)
      obtain ⟨u4, hu4⟩ := hr2.has (j * 6 + 4) (by omega)
      obtain ⟨u5, hu5⟩ := hr2.has (j * 6 + 5) (by omega)
      clear hr2
      go_wp2_with fail
      go_roundw
      case rel =>
        refine ⟨j + 1, by go_num, by omega, ?_⟩
        have hK : ∀ W, W = w2.setCells g (j * 6) [.bool x.distinct, .slice ia' x.items.length ic', .slice fa' x.src.length fc', .slice wa' x.whr.length wc', .slice oa' x.ord.length oc', .int .i64 x.limit] → Room W g (m * 6) ∧ (∀ i (h : i < xs.length), i < j + 1 → ∃ cs, (quC W (g + 1) M (ExB W (g + 1) M n)) xs[i] cs ∧ cellsAt W g (i * 6) cs) ∧ Below w.heap.size w W := by
          rintro W rfl
          have hgs : w.heap.size ≤ g := Nat.le_of_eq hg.out.symm
          have hwr : g + 1 ≤ wr.heap.size := HJ.out.1.lt
          refine ⟨HX2.out.2.2.1.sets _ _, fun i hi hij => ?_, below_sets HX2.out.2.2.2 hgs _ _⟩
          by_cases hij2 : i = j
          · subst hij2
            rw [HXE.out]
            refine ⟨_, ⟨ia', ic', fa', fc', wa', wc', oa', oc', rfl, ?_⟩, HX2.out.2.2.1.at_in (i * 6) [.bool x.distinct, .slice ia' x.items.length ic', .slice fa' x.src.length fc', .slice wa' x.whr.length wc', .slice oa' x.ord.length oc', .int .i64 x.limit] (by simp; omega)⟩
            have hk := (Keeps.refl wr.heap.size w2).sets (show g < wr.heap.size by omega) (i * 6) [.bool x.distinct, .slice ia' x.items.length ic', .slice fa' x.src.length fc', .slice wa' x.whr.length wc', .slice oa' x.ord.length oc', .int .i64 x.limit]
            have hx2 := HX2.out.1
            exact hx2.keeps hk (by omega)
          · obtain ⟨cs, ⟨ia3, ic3, fa3, fc3, wa3, wc3, oa3, oc3, rfl, hy⟩, hat⟩ := HJ.out.2.1 i hi (by omega)
            refine ⟨_, ⟨ia3, ic3, fa3, fc3, wa3, wc3, oa3, oc3, rfl, ?_⟩, (hat.same (HX2.out.2.1.block g HJ.out.1.lt)).apart _ _ (by simp [quV]; omega)⟩
            have hk : Keeps (g + 1) wr (w2.setCells g (j * 6) [.bool x.distinct, .slice ia' x.items.length ic', .slice fa' x.src.length fc', .slice wa' x.whr.length wc', .slice oa' x.ord.length oc', .int .i64 x.limit]) := (Keeps.of HX2.out.2.1).sets (by omega) _ _
            have hx2 := hy
            exact hx2.keeps hk (Nat.le_refl _)
        exact hK _ rfl
      case measure => simp [intOf]; omega
    · have hlt2 : ¬ (j : Int) < m := by omega
      obtain rfl : j = m := by omega
      go_wp2_with fail
      go_ret
      refine ⟨some ⟨g, 0, none⟩, j, by rw [hm.out]; rfl, ⟨HLM.out, fun _ => ⟨g, 0, rfl, Nat.le_of_eq hg.out.symm, HJ.out.1.lt, fun i hi => ?_⟩⟩, HJ.out.2.2⟩
      obtain ⟨cs, ⟨ia, ic, fa, fc, wa, wc, oa, oc, rfl, hx2⟩, hat⟩ := HJ.out.2.1 i hi (by have := hm.out; omega)
      have hk := Keeps.refl (g + 1) wr
      refine ⟨_, ⟨ia, ic, fa, fc, wa, wc, oa, oc, rfl, ?_⟩, by rw [Nat.zero_add]; exact hat⟩
      have hge : w.heap.size ≤ g + 1 := by have := hg.out; omega
      exact hx2.keeps hk hge

set_option maxRecDepth 100000 in
set_option maxHeartbeats 1600000 in
theorem toExprC {n : Nat} (IH : ToEx n) : ToEx (n + 1) := by
  intro w0 w lo M x ka kc sa sc h00 hx hM
  obtain ⟨va, hva⟩ : ∃ va, Hid (va = w.heap.size) := ⟨_, rfl⟩
  obtain ⟨vr, hvr⟩ : ∃ vr, Hid (vr = w.heap.size + 1) := ⟨_, rfl⟩
  obtain ⟨vo, hvo⟩ : ∃ vo, Hid (vo = w.heap.size + 2) := ⟨_, rfl⟩
  have hv := Blk.made3 w [.int .i64 x.f.kind, .int .i64 x.f.op, .bool x.f.neg, .int .i64 x.f.vk, .int .i64 x.f.vn, .string x.f.vt, .string x.f.qual, .string x.f.name, .slice ka x.f.kids.length kc, .slice sa x.f.sub.length sc] [.int .i64 0, .int .i64 0, .bool false, .int .i64 0, .int .i64 0, .string ⟨#[]⟩, .string ⟨#[]⟩, .string ⟨#[]⟩, .slice none 0 0, .slice none 0 0] [.int .i64 x.f.kind, .int .i64 x.f.op, .bool x.f.neg, .int .i64 0, .int .i64 0, .string ⟨#[]⟩, .string ⟨#[]⟩, .string ⟨#[]⟩, .slice none 0 0, .slice none 0 0] 27 34 34
  rw [← hvo.out, ← hvr.out, ← hva.out] at hv
  have HV0 := hide hv
  have H0 := hide h00
  have HM := hide hM
  have n1 : va ≠ vr := by have := hva.out; have := hvr.out; omega
  have n2 : va ≠ vo := by have := hva.out; have := hvo.out; omega
  have n3 : vr ≠ vo := by have := hvr.out; have := hvo.out; omega
  have N1 := hide n1
  have N2 := hide n2
  have N3 := hide n3
  have GR := hide (show w.heap.size ≤ vr by have := hvr.out; omega)
  have GO := hide (show w.heap.size ≤ vo by have := hvo.out; omega)
  clear hv h00 hM n1 n2 n3
  have HX := hide hx
  clear hx
  have HI := hide IH
  clear IH
  go_enter Try.func12, Try.ntmps12
  go_wp2_with fail
  (try rw [← hvo.out, ← hvr.out, ← hva.out])
  refine (toValueP x.f.vk x.f.vn x.f.vt _).mono ?_
  rintro e w1 ⟨rfl, hb1⟩
  have HB1 := hide (below_via (show Below w.heap.size w _ by go_grown) hb1)
  have ha1 := HV0.out.1.step hb1
  have hr1 := HV0.out.2.1.step hb1
  have ho1 := HV0.out.2.2.step hb1
  have HV1 := hide (And.intro ha1.1 (And.intro hr1.1 (show Blk w1 vo [.int .i64 x.f.kind, .int .i64 x.f.op, .bool x.f.neg, .int .i64 0, .int .i64 0, .string ⟨#[]⟩, .string ⟨#[]⟩, .string ⟨#[]⟩, .slice none 0 0, .slice none 0 0] from ho1.1)))
  have HL1 := hide (And.intro hr1.2 ho1.2)
  have HG1 := hide (And.intro True.intro hb1)
  clear ha1 hr1 ho1 hb1
  obtain ⟨a0, a1, a2, a3, a4, a5, a6, a7, a8, a9⟩ := ex_at0 HV1.out.1.cells
  have rc := HV1.out.2.1.cells
  have r0 := rc 0 (by simp)
  have r1 := rc 1 (by simp)
  have r2 := rc 2 (by simp)
  have r3 := rc 3 (by simp)
  have r4 := rc 4 (by simp)
  have r5 := rc 5 (by simp)
  have r6 := rc 6 (by simp)
  have r7 := rc 7 (by simp)
  have r8 := rc 8 (by simp)
  have r9 := rc 9 (by simp)
  simp only [Nat.zero_add, List.getElem_cons_zero, List.getElem_cons_succ] at r0 r1 r2 r3 r4 r5 r6 r7 r8 r9
  clear rc
  have fr := HV1.out.2.1.free
  have oc := HV1.out.2.2.cells
  have o0 := oc 0 (by simp)
  have o1 := oc 1 (by simp)
  have o2 := oc 2 (by simp)
  have o3 := oc 3 (by simp)
  have o4 := oc 4 (by simp)
  have o5 := oc 5 (by simp)
  have o6 := oc 6 (by simp)
  have o7 := oc 7 (by simp)
  have o8 := oc 8 (by simp)
  have o9 := oc 9 (by simp)
  simp only [Nat.zero_add, List.getElem_cons_zero, List.getElem_cons_succ] at o0 o1 o2 o3 o4 o5 o6 o7 o8 o9
  clear oc
  have fo := HV1.out.2.2.free
  go_wp2_with fail
  refine (toExprSC HI.out (below_via H0.out (below_set (below_set (below_set (below_set (below_set HB1.out GO.out 3 _) GO.out 4 _) GO.out 5 _) GO.out 6 _) GO.out 7 _)) kc HX.out.2.1 HM.out).mono ?_
  rintro e w2 ⟨ka', kc', rfl, hg, hb2⟩
  have HB2 := hide (below_via (below_set (below_set (below_set (below_set (below_set HB1.out GO.out 3 _) GO.out 4 _) GO.out 5 _) GO.out 6 _) GO.out 7 _) hb2)
  have ha2 := (((((HV1.out.1.other N2.out 3 _).other N2.out 4 _).other N2.out 5 _).other N2.out 6 _).other N2.out 7 _).step hb2
  have hr2 := (((((HV1.out.2.1.other N3.out 3 _).other N3.out 4 _).other N3.out 5 _).other N3.out 6 _).other N3.out 7 _).step hb2
  have ho2 := (((((HV1.out.2.2.set 3 (by simp) _).set 4 (by simp) _).set 5 (by simp) _).set 6 (by simp) _).set 7 (by simp) _).step hb2
  have HV2 := hide (And.intro ha2.1 (And.intro hr2.1 (show Blk w2 vo [.int .i64 x.f.kind, .int .i64 x.f.op, .bool x.f.neg, .int .i64 x.f.vk, .int .i64 x.f.vn, .string x.f.vt, .string x.f.qual, .string x.f.name, .slice none 0 0, .slice none 0 0] from ho2.1)))
  have HL2 := hide (And.intro hr2.2 ho2.2)
  have HG2 := hide (And.intro hg hb2)
  clear ha2 hr2 ho2 hb2 hg a0 a1 a2 a3 a4 a5 a6 a7 a8 a9 r0 r1 r2 r3 r4 r5 r6 r7 r8 r9 o0 o1 o2 o3 o4 o5 o6 o7 o8 o9 fr fo
  obtain ⟨a0, a1, a2, a3, a4, a5, a6, a7, a8, a9⟩ := ex_at0 HV2.out.1.cells
  have rc := HV2.out.2.1.cells
  have r0 := rc 0 (by simp)
  have r1 := rc 1 (by simp)
  have r2 := rc 2 (by simp)
  have r3 := rc 3 (by simp)
  have r4 := rc 4 (by simp)
  have r5 := rc 5 (by simp)
  have r6 := rc 6 (by simp)
  have r7 := rc 7 (by simp)
  have r8 := rc 8 (by simp)
  have r9 := rc 9 (by simp)
  simp only [Nat.zero_add, List.getElem_cons_zero, List.getElem_cons_succ] at r0 r1 r2 r3 r4 r5 r6 r7 r8 r9
  clear rc
  have fr := HV2.out.2.1.free
  have oc := HV2.out.2.2.cells
  have o0 := oc 0 (by simp)
  have o1 := oc 1 (by simp)
  have o2 := oc 2 (by simp)
  have o3 := oc 3 (by simp)
  have o4 := oc 4 (by simp)
  have o5 := oc 5 (by simp)
  have o6 := oc 6 (by simp)
  have o7 := oc 7 (by simp)
  have o8 := oc 8 (by simp)
  have o9 := oc 9 (by simp)
  simp only [Nat.zero_add, List.getElem_cons_zero, List.getElem_cons_succ] at o0 o1 o2 o3 o4 o5 o6 o7 o8 o9
  clear oc
  have fo := HV2.out.2.2.free
  go_wp2_with fail
  refine (toQuerySC (toQueryC HI.out) (below_via H0.out (below_set HB2.out GO.out 8 _)) sc HX.out.2.2 HM.out).mono ?_
  rintro e w3 ⟨sa', sc', rfl, hg, hb3⟩
  have HB3 := hide (below_via (below_set HB2.out GO.out 8 _) hb3)
  have ha3 := (HV2.out.1.other N2.out 8 _).step hb3
  have hr3 := (HV2.out.2.1.other N3.out 8 _).step hb3
  have ho3 := (HV2.out.2.2.set 8 (by simp) _).step hb3
  have HV3 := hide (And.intro ha3.1 (And.intro hr3.1 (show Blk w3 vo [.int .i64 x.f.kind, .int .i64 x.f.op, .bool x.f.neg, .int .i64 x.f.vk, .int .i64 x.f.vn, .string x.f.vt, .string x.f.qual, .string x.f.name, .slice ka' x.f.kids.length kc', .slice none 0 0] from ho3.1)))
  have HL3 := hide (And.intro hr3.2 ho3.2)
  have HG3 := hide (And.intro hg hb3)
  clear ha3 hr3 ho3 hb3 hg a0 a1 a2 a3 a4 a5 a6 a7 a8 a9 r0 r1 r2 r3 r4 r5 r6 r7 r8 r9 o0 o1 o2 o3 o4 o5 o6 o7 o8 o9 fr fo
  obtain ⟨a0, a1, a2, a3, a4, a5, a6, a7, a8, a9⟩ := ex_at0 HV3.out.1.cells
  have rc := HV3.out.2.1.cells
  have r0 := rc 0 (by simp)
  have r1 := rc 1 (by simp)
  have r2 := rc 2 (by simp)
  have r3 := rc 3 (by simp)
  have r4 := rc 4 (by simp)
  have r5 := rc 5 (by simp)
  have r6 := rc 6 (by simp)
  have r7 := rc 7 (by simp)
  have r8 := rc 8 (by simp)
  have r9 := rc 9 (by simp)
  simp only [Nat.zero_add, List.getElem_cons_zero, List.getElem_cons_succ] at r0 r1 r2 r3 r4 r5 r6 r7 r8 r9
  clear rc
  have fr := HV3.out.2.1.free
  have oc := HV3.out.2.2.cells
  have o0 := oc 0 (by simp)
  have o1 := oc 1 (by simp)
  have o2 := oc 2 (by simp)
  have o3 := oc 3 (by simp)
  have o4 := oc 4 (by simp)
  have o5 := oc 5 (by simp)
  have o6 := oc 6 (by simp)
  have o7 := oc 7 (by simp)
  have o8 := oc 8 (by simp)
  have o9 := oc 9 (by simp)
  simp only [Nat.zero_add, List.getElem_cons_zero, List.getElem_cons_succ] at o0 o1 o2 o3 o4 o5 o6 o7 o8 o9
  clear oc
  have fo := HV3.out.2.2.free
  go_upto_region 10 with fail
  have HF := hide (show Blk (w3.setCell ⟨vo, 9, none⟩ (.slice sa' x.f.sub.length sc')) vo [.int .i64 x.f.kind, .int .i64 x.f.op, .bool x.f.neg, .int .i64 x.f.vk, .int .i64 x.f.vn, .string x.f.vt, .string x.f.qual, .string x.f.name, .slice ka' x.f.kids.length kc', .slice sa' x.f.sub.length sc'] ∧ Blk (w3.setCell ⟨vo, 9, none⟩ (.slice sa' x.f.sub.length sc')) vr [.int .i64 0, .int .i64 0, .bool false, .int .i64 0, .int .i64 0, .string ⟨#[]⟩, .string ⟨#[]⟩, .string ⟨#[]⟩, .slice none 0 0, .slice none 0 0] ∧ Below w.heap.size w (w3.setCell ⟨vo, 9, none⟩ (.slice sa' x.f.sub.length sc')) ∧ (∀ B, vo < B → Keeps B w2 (w3.setCell ⟨vo, 9, none⟩ (.slice sa' x.f.sub.length sc'))) ∧ (∀ B, vo < B → Keeps B w3 (w3.setCell ⟨vo, 9, none⟩ (.slice sa' x.f.sub.length sc'))) from ⟨(HV3.out.2.2.set 9 (by simp) _), (HV3.out.2.1.other N3.out 9 _), (below_set HB3.out GO.out 9 _), fun B hB => ((((Keeps.refl B w2).set hB 8 _).below HG3.out.2).set hB 9 _), fun B hB => ((Keeps.refl B w3).set hB 9 _)⟩)
  clear a0 r0 o0 a1 r1 o1 a2 r2 o2 a3 r3 o3 a4 r4 o4 a5 r5 o5 a6 r6 o6 a7 r7 o7 a8 r8 o8 a9 r9 o9 fr fo
  generalize (w3.setCell ⟨vo, 9, none⟩ (.slice sa' x.f.sub.length sc')) = wf at HF ⊢
  have rc := HF.out.2.1.cells
  have r0 := rc 0 (by simp)
  have r1 := rc 1 (by simp)
  have r2 := rc 2 (by simp)
  have r3 := rc 3 (by simp)
  have r4 := rc 4 (by simp)
  have r5 := rc 5 (by simp)
  have r6 := rc 6 (by simp)
  have r7 := rc 7 (by simp)
  have r8 := rc 8 (by simp)
  have r9 := rc 9 (by simp)
  simp only [Nat.zero_add, List.getElem_cons_zero, List.getElem_cons_succ] at r0 r1 r2 r3 r4 r5 r6 r7 r8 r9
  clear rc
  have oc := HF.out.1.cells
  have o0 := oc 0 (by simp)
  have o1 := oc 1 (by simp)
  have o2 := oc 2 (by simp)
  have o3 := oc 3 (by simp)
  have o4 := oc 4 (by simp)
  have o5 := oc 5 (by simp)
  have o6 := oc 6 (by simp)
  have o7 := oc 7 (by simp)
  have o8 := oc 8 (by simp)
  have o9 := oc 9 (by simp)
  simp only [Nat.zero_add, List.getElem_cons_zero, List.getElem_cons_succ] at o0 o1 o2 o3 o4 o5 o6 o7 o8 o9
  clear oc
  have fr := HF.out.2.1.free
  go_wp2_with fail
  ((try simp only [Exit.inBlock, Exit.then]); refine bodyPost_ret (by simp [results, Try.results12, go_sem]; go_simp; rfl) rfl ?_)
  refine ⟨ka', kc', sa', sc', rfl, ?_, ?_⟩
  · exact ⟨HX.out.1, rowEx_keeps HG2.out.1 (((((((((((HF.out.2.2.2.1 _ HL2.out.2).set HL2.out.1 0 _).set HL2.out.1 1 _).set HL2.out.1 2 _).set HL2.out.1 3 _).set HL2.out.1 4 _).set HL2.out.1 5 _).set HL2.out.1 6 _).set HL2.out.1 7 _).set HL2.out.1 8 _).set HL2.out.1 9 _) (Nat.le_trans GR.out (Nat.le_of_lt HL2.out.1)), rowQu_keeps HG3.out.1 (((((((((((HF.out.2.2.2.2 _ HL3.out.2).set HL3.out.1 0 _).set HL3.out.1 1 _).set HL3.out.1 2 _).set HL3.out.1 3 _).set HL3.out.1 4 _).set HL3.out.1 5 _).set HL3.out.1 6 _).set HL3.out.1 7 _).set HL3.out.1 8 _).set HL3.out.1 9 _) (Nat.le_trans GR.out (Nat.le_of_lt HL3.out.1))⟩
  · exact (below_set (below_set (below_set (below_set (below_set (below_set (below_set (below_set (below_set (below_set HF.out.2.2.1 GR.out 0 _) GR.out 1 _) GR.out 2 _) GR.out 3 _) GR.out 4 _) GR.out 5 _) GR.out 6 _) GR.out 7 _) GR.out 8 _) GR.out 9 _)

theorem toExprAll : ∀ n, ToEx n
  | 0 => fun _ _ _ _ _ _ _ _ _ _ h => h.elim
  | n + 1 => toExprC (toExprAll n)

end Go.Proofs.Ytfpoakdmclekoaa
