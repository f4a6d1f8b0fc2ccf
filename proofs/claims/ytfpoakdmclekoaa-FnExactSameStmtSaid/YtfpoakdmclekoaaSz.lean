/-
  szExpr and its kin: what they take off the budget; what is left over says that all rows are short.
-/
import Derived.Test.YtfpoakdmclekoaaRows
import Derived.WalkLawsBesides
import Derived.Deep.Light
import Derived.Test.YtfpoakdmclekoaaM1
import Derived.Test.YtfpoakdmclekoaaTreAt
import Derived.Test.YtfpoakdmclekoaaQ
namespace Go.Proofs.Ytfpoakdmclekoaa
open Go.RowKit

/-- What is left of a budget, below 0 if there was too little; G where there was enough. -/
structure SzPost (w : World) (left : Int) (G : Prop) (e : Ending) (w' : World) : Prop where
  ex : ∃ r : Int, e = .returned (.int .i64 r) ∧ (r < 0 ∨ 0 ≤ r ∧ r ≤ left ∧ G)
  below : Below w.heap.size w w'
theorem SzPost.no {w w' : World} {left : Int} {G : Prop} (h : Below w.heap.size w w') : SzPost w left G (.returned (.int .i64 (-1))) w' := ⟨⟨-1, rfl, .inl (by omega)⟩, h⟩
theorem SzPost.yes {w w' : World} {left r : Int} {G : Prop} (h : Below w.heap.size w w') (h0 : 0 ≤ r) (h1 : r ≤ left) (hG : G) : SzPost w left G (.returned (.int .i64 r)) w' := ⟨⟨r, rfl, .inr ⟨h0, h1, hG⟩⟩, h⟩

theorem szValueP (k n : Int) (s : ByteArray) (left : Int) (w : World) (h0 : 0 ≤ left) (h1 : left ≤ 1048576) (ws : s.size ≤ maxLen) :
    Calls Try.prog 33 #[.agg #[.int .i64 k, .int .i64 n, .string s], .int .i64 left] w (SzPost w left (s.size ≤ 1048576)) := by
  unfold maxLen at ws
  by_cases h : left - (s.size : Int) < 0
  · go_enter Try.func33, Try.ntmps33
    go_wp2
    all_goals go_ret
    all_goals exact SzPost.no (by go_grown)
  · go_enter Try.func33, Try.ntmps33
    go_wp2
    all_goals go_ret
    all_goals exact SzPost.yes (by go_grown) (by omega) (by omega) (by omega)

/-- The contract of szExpr at depth n; the tree may have lain there since an earlier world. -/
def SzEx (n : Nat) : Prop := ∀ (w0 w : World) (lo : Nat) (x : Ex) (ka : Option Addr) (kc : Nat) (sa : Option Addr) (sc : Nat) (left : Int), Below w0.heap.size w0 w → ExB w0 lo maxLen n x ka sa → 0 ≤ left → left ≤ 1048576 →
  Calls Try.prog 10 #[.agg #[.int .i64 x.f.kind, .int .i64 x.f.op, .bool x.f.neg, .int .i64 x.f.vk, .int .i64 x.f.vn, .string x.f.vt, .string x.f.qual, .string x.f.name, .slice ka x.f.kids.length kc, .slice sa x.f.sub.length sc], .int .i64 left] w (SzPost w left (ExB w0 lo 1048576 n x ka sa))

/-- The contract of szItem at depth n; the tree may have lain there since an earlier world. -/
def SzIt (n : Nat) : Prop := ∀ (w0 w : World) (lo : Nat) (x : ItF Ex) (ka : Option Addr) (kc : Nat) (sa : Option Addr) (sc : Nat) (left : Int), Below w0.heap.size w0 w → (x.qual.size ≤ maxLen ∧ x.nm.size ≤ maxLen) ∧ ExB w0 lo maxLen n x.e ka sa → 0 ≤ left → left ≤ 1048576 →
  Calls Try.prog 73 #[.agg #[.bool x.star, .string x.qual, .int .i64 x.e.f.kind, .int .i64 x.e.f.op, .bool x.e.f.neg, .int .i64 x.e.f.vk, .int .i64 x.e.f.vn, .string x.e.f.vt, .string x.e.f.qual, .string x.e.f.name, .slice ka x.e.f.kids.length kc, .slice sa x.e.f.sub.length sc, .string x.nm], .int .i64 left] w (SzPost w left ((x.qual.size ≤ 1048576 ∧ x.nm.size ≤ 1048576) ∧ ExB w0 lo 1048576 n x.e ka sa))

/-- The contract of szSource at depth n; the tree may have lain there since an earlier world. -/
def SzSo (n : Nat) : Prop := ∀ (w0 w : World) (lo : Nat) (x : SoF Ex) (oa : Option Addr) (oc : Nat) (left : Int), Below w0.heap.size w0 w → (x.table.size ≤ maxLen ∧ x.nm.size ≤ maxLen) ∧ RowP w0 lo maxLen 10 (exC (ExB w0 lo maxLen n)) x.on oa → 0 ≤ left → left ≤ 1048576 →
  Calls Try.prog 74 #[.agg #[.string x.table, .string x.nm, .slice oa x.on.length oc], .int .i64 left] w (SzPost w left ((x.table.size ≤ 1048576 ∧ x.nm.size ≤ 1048576) ∧ RowP w0 lo 1048576 10 (exC (ExB w0 lo 1048576 n)) x.on oa))

/-- The contract of szSortKey at depth n; the tree may have lain there since an earlier world. -/
def SzKe (n : Nat) : Prop := ∀ (w0 w : World) (lo : Nat) (x : KeF Ex) (ka : Option Addr) (kc : Nat) (sa : Option Addr) (sc : Nat) (left : Int), Below w0.heap.size w0 w → ExB w0 lo maxLen n x.e ka sa → 0 ≤ left → left ≤ 1048576 →
  Calls Try.prog 75 #[.agg #[.int .i64 x.e.f.kind, .int .i64 x.e.f.op, .bool x.e.f.neg, .int .i64 x.e.f.vk, .int .i64 x.e.f.vn, .string x.e.f.vt, .string x.e.f.qual, .string x.e.f.name, .slice ka x.e.f.kids.length kc, .slice sa x.e.f.sub.length sc, .bool x.desc], .int .i64 left] w (SzPost w left (ExB w0 lo 1048576 n x.e ka sa))

/-- The contract of szQuery at depth n; the tree may have lain there since an earlier world. -/
def SzQu (n : Nat) : Prop := ∀ (w0 w : World) (lo : Nat) (x : QuF Ex) (ia : Option Addr) (ic : Nat) (fa : Option Addr) (fc : Nat) (wa : Option Addr) (wc : Nat) (oa : Option Addr) (oc : Nat) (left : Int), Below w0.heap.size w0 w → QuB w0 lo maxLen (ExB w0 lo maxLen n) x ia fa wa oa → 0 ≤ left → left ≤ 1048576 →
  Calls Try.prog 17 #[.agg #[.bool x.distinct, .slice ia x.items.length ic, .slice fa x.src.length fc, .slice wa x.whr.length wc, .slice oa x.ord.length oc, .int .i64 x.limit], .int .i64 left] w (SzPost w left (QuB w0 lo 1048576 (ExB w0 lo 1048576 n) x ia fa wa oa))

set_option maxRecDepth 100000 in
set_option maxHeartbeats 1600000 in
theorem szExprSC {n : Nat} (IH : SzEx n) {w0 w : World} (h00 : Below w0.heap.size w0 w) {lo : Nat} {xs : List (Ex)} {a : Option Addr} (c : Nat) (left : Int) (h : RowP w0 lo maxLen 10 (exC (ExB w0 lo maxLen n)) xs a) (h0 : 0 ≤ left) (h1 : left ≤ 1048576) :
    Calls Try.prog 34 #[.slice a xs.length c, .int .i64 left] w (SzPost w left (RowP w0 lo 1048576 10 (exC (ExB w0 lo 1048576 n)) xs a)) := by
  obtain ⟨hlen, hrow⟩ := h
  unfold maxLen at hlen
  have HI := hide IH
  clear IH
  obtain ⟨m, hm⟩ : ∃ m, Hid (xs.length = m) := ⟨_, rfl⟩
  rw [hm.out] at hlen ⊢
  have H0 := hide h00
  clear h00
  by_cases hneg : left - (m : Int) < 0
  · have HR := hide hrow
    clear hrow
    go_enter Try.func34, Try.ntmps34
    go_wp2
    all_goals go_ret
    all_goals exact SzPost.no (by go_grown)
  · have hneg2 : (m : Int) ≤ left := by omega
    rcases Nat.eq_zero_or_pos m with rfl | hpos
    · have HR := hide (show RowP w0 lo 1048576 10 (exC (ExB w0 lo 1048576 n)) xs a from ⟨by have := hm.out; omega, fun h => absurd hm.out (by omega)⟩)
      clear hrow
      go_enter Try.func34, Try.ntmps34
      go_wp2
      refine wp_loop_rounds 1 ?_
      rw [rounds_succ]
      go_wp2
      go_ret
      exact SzPost.yes (by go_grown) (by omega) (by omega) HR.out
    · obtain ⟨b, o, rfl, hlo, hb, hel⟩ := hrow (by have := hm.out; omega)
      have HE := hide (And.intro hlo (And.intro hb hel))
      clear hrow hlo hb hel
      go_enter Try.func34, Try.ntmps34
      go_wp2
      go_loopw [1, 5] (fun l x wr => ∃ (j : Nat) (r : Int), l = .int .i64 r ∧ x = .int .i64 j ∧ j ≤ m ∧ 0 ≤ r ∧ r ≤ left ∧ Hid (∀ i (h : i < xs.length), i < j → ∃ cs, (exC (ExB w0 lo 1048576 n)) xs[i] cs ∧ cellsAt w0 b (o + i * 10) cs) ∧ Hid (Below w.heap.size w wr)) (fun _ x _ => m - (intOf x).toNat)
      case atStart => exact ⟨0, _, rfl, rfl, by omega, by omega, by omega, (fun i _ hi => absurd hi (by omega)), (show Below w.heap.size w _ by go_grown)⟩
      case round =>
        obtain ⟨j, r, rfl, rfl, hj, hr0, hr1, HJ, HB⟩ := hrel
        by_cases hlt : j < m
        · have hlt2 : (j : Int) < m := by omega
          have hjx : j < xs.length := by have := hm.out; omega
          obtain ⟨cs, ⟨ka, kc, sa, sc, rfl, hx⟩, hat⟩ := HE.out.2.2 j hjx
          have hat2 := hat.same ((below_via H0.out HB.out).block b HE.out.2.1)
          obtain ⟨c0, c1, c2, c3, c4, c5, c6, c7, c8, c9⟩ := ex_at hat2
          have HX := hide (And.intro hx hat)
          clear hx hat hat2
          generalize hxe : xs[j] = x at HX c0 c1 c2 c3 c4 c5 c6 c7 c8 c9
          have HXE := hide hxe
          clear hxe
          go_wp2_with fail
          refine (HI.out w0 _ lo x ka kc sa sc r (below_via H0.out HB.out) HX.out.1 hr0 (by omega)).mono ?_
          rintro e w2 ⟨⟨r2, rfl, hr2⟩, hb2⟩
          have HB2 := hide (below_via HB.out hb2)
          clear hb2 c0 c1 c2 c3 c4 c5 c6 c7 c8 c9
          rcases hr2 with hr2 | ⟨hr20, hr21, hx2⟩
          · go_wp2_with fail
            all_goals go_ret
            all_goals exact SzPost.no HB2.out
          · have HX2 := hide hx2
            clear hx2
            go_wp2_with fail
            go_roundw
            case rel =>
              refine ⟨j + 1, r2, rfl, by go_num, by omega, by omega, by omega, ?_, HB2.out⟩
              show ∀ i (h : i < xs.length), i < j + 1 → _
              intro i hi hij
              by_cases hij2 : i = j
              · subst hij2; exact ⟨_, ⟨ka, kc, sa, sc, rfl, by rw [HXE.out]; exact HX2.out⟩, by rw [HXE.out]; exact HX.out.2⟩
              · exact HJ.out i hi (by omega)
            case measure => simp [intOf]; omega
        · have hlt2 : ¬ (j : Int) < m := by omega
          go_wp2_with fail
          go_ret
          exact SzPost.yes HB.out hr0 hr1 ⟨by have := hm.out; omega, fun _ => ⟨b, o, rfl, HE.out.1, HE.out.2.1, fun i hi => HJ.out i hi (by have := hm.out; omega)⟩⟩

set_option maxRecDepth 100000 in
set_option maxHeartbeats 1600000 in
theorem szItemC {n : Nat} (IH : SzEx n) : SzIt n := by
  intro w0 w lo x ka kc sa sc left h00 hx h0 h1
  obtain ⟨vb, hvb⟩ : ∃ vb, Hid (vb = w.heap.size) := ⟨_, rfl⟩
  have hv := boxAt w [.bool x.star, .string x.qual, .int .i64 x.e.f.kind, .int .i64 x.e.f.op, .bool x.e.f.neg, .int .i64 x.e.f.vk, .int .i64 x.e.f.vn, .string x.e.f.vt, .string x.e.f.qual, .string x.e.f.name, .slice ka x.e.f.kids.length kc, .slice sa x.e.f.sub.length sc, .string x.nm] 115
  rw [← hvb.out] at hv
  have HV := hide hv
  have H0 := hide h00
  clear hv h00
  obtain ⟨⟨hq, ha⟩, hx⟩ := hx
  unfold maxLen at hq ha
  have HX := hide hx
  clear hx
  have HI := hide IH
  clear IH
  go_enter Try.func73, Try.ntmps73
  by_cases g1 : left - (x.qual.size : Int) < 0
  · go_wp2_with fail
    all_goals go_ret
    all_goals exact SzPost.no (by go_grown)
  · skip
    go_wp2_with fail
    (try rw [← hvb.out])
    refine (HI.out w0 _ lo x.e ka kc sa sc _ (below_via H0.out (by go_grown)) HX.out (by omega) (by omega)).mono ?_
    rintro e w2 ⟨⟨r2, rfl, hr2⟩, hb2⟩
    have HB2 := hide (below_via (show Below w.heap.size w _ by go_grown) hb2)
    have HV2 := hide (HV.out.same (hb2.block vb (by rw [hvb.out]; simp)))
    have HS2 := hide hb2.size
    clear hb2
    rcases hr2 with hr2 | ⟨hr20, hr21, hg2⟩
    · go_wp2_with fail
      all_goals go_ret
      all_goals exact SzPost.no HB2.out
    · have HG2 := hide hg2
      clear hg2
      obtain ⟨c0, c1, c2, c3, c4, c5, c6, c7, c8, c9, c10, c11, c12⟩ := it_at0 HV2.out
      by_cases g3 : r2 - (x.nm.size : Int) < 0
      · go_wp2_with fail
        all_goals go_ret
        all_goals exact SzPost.no HB2.out
      · skip
        go_wp2_with fail
        all_goals go_ret
        all_goals exact SzPost.yes HB2.out (by omega) (by omega) ⟨⟨by omega, by omega⟩, HG2.out⟩

set_option maxRecDepth 100000 in
set_option maxHeartbeats 1600000 in
theorem szSourceC {n : Nat} (IH : SzEx n) : SzSo n := by
  intro w0 w lo x oa oc left h00 hx h0 h1
  obtain ⟨vb, hvb⟩ : ∃ vb, Hid (vb = w.heap.size) := ⟨_, rfl⟩
  have hv := boxAt w [.string x.table, .string x.nm, .slice oa x.on.length oc] 118
  rw [← hvb.out] at hv
  have HV := hide hv
  have H0 := hide h00
  clear hv h00
  obtain ⟨⟨hq, ha⟩, hx⟩ := hx
  unfold maxLen at hq ha
  have HX := hide hx
  clear hx
  have HI := hide IH
  clear IH
  go_enter Try.func74, Try.ntmps74
  by_cases g1 : left - (x.table.size : Int) < 0
  · go_wp2_with fail
    all_goals go_ret
    all_goals exact SzPost.no (by go_grown)
  · skip
    by_cases g2 : (left - (x.table.size : Int)) - (x.nm.size : Int) < 0
    · go_wp2_with fail
      all_goals go_ret
      all_goals exact SzPost.no (by go_grown)
    · skip
      go_wp2_with fail
      (try rw [← hvb.out])
      refine (szExprSC HI.out (below_via H0.out (by go_grown)) oc _ HX.out (by omega) (by omega)).mono ?_
      rintro e w3 ⟨⟨r3, rfl, hr3⟩, hb3⟩
      have HB3 := hide (below_via (show Below w.heap.size w _ by go_grown) hb3)
      have HV3 := hide (HV.out.same (hb3.block vb (by rw [hvb.out]; simp)))
      have HS3 := hide hb3.size
      clear hb3
      rcases hr3 with hr3 | ⟨hr30, hr31, hg3⟩
      · go_wp2_with fail
        all_goals go_ret
        all_goals exact SzPost.no HB3.out
      · have HG3 := hide hg3
        clear hg3
        obtain ⟨c0, c1, c2⟩ := so_at0 HV3.out
        go_wp2_with fail
        all_goals go_ret
        all_goals exact SzPost.yes HB3.out (by omega) (by omega) ⟨⟨by omega, by omega⟩, HG3.out⟩

set_option maxRecDepth 100000 in
set_option maxHeartbeats 1600000 in
theorem szSortKeyC {n : Nat} (IH : SzEx n) : SzKe n := by
  intro w0 w lo x ka kc sa sc left h00 hx h0 h1
  obtain ⟨vb, hvb⟩ : ∃ vb, Hid (vb = w.heap.size) := ⟨_, rfl⟩
  have hv := boxAt w [.int .i64 x.e.f.kind, .int .i64 x.e.f.op, .bool x.e.f.neg, .int .i64 x.e.f.vk, .int .i64 x.e.f.vn, .string x.e.f.vt, .string x.e.f.qual, .string x.e.f.name, .slice ka x.e.f.kids.length kc, .slice sa x.e.f.sub.length sc, .bool x.desc] 121
  rw [← hvb.out] at hv
  have HV := hide hv
  have H0 := hide h00
  clear hv h00
  have HX := hide hx
  clear hx
  have HI := hide IH
  clear IH
  go_enter Try.func75, Try.ntmps75
  go_wp2_with fail
  (try rw [← hvb.out])
  refine (HI.out w0 _ lo x.e ka kc sa sc _ (below_via H0.out (by go_grown)) HX.out (by omega) (by omega)).mono ?_
  rintro e w1 ⟨⟨r1, rfl, hr1⟩, hb1⟩
  have HB1 := hide (below_via (show Below w.heap.size w _ by go_grown) hb1)
  have HV1 := hide (HV.out.same (hb1.block vb (by rw [hvb.out]; simp)))
  have HS1 := hide hb1.size
  clear hb1
  rcases hr1 with hr1 | ⟨hr10, hr11, hg1⟩
  · go_wp2_with fail
    all_goals go_ret
    all_goals exact SzPost.no HB1.out
  · have HG1 := hide hg1
    clear hg1
    obtain ⟨c0, c1, c2, c3, c4, c5, c6, c7, c8, c9, c10⟩ := ke_at0 HV1.out
    go_wp2_with fail
    all_goals go_ret
    all_goals exact SzPost.yes HB1.out (by omega) (by omega) HG1.out

set_option maxRecDepth 100000 in
set_option maxHeartbeats 1600000 in
theorem szItemSC {n : Nat} (IH : SzIt n) {w0 w : World} (h00 : Below w0.heap.size w0 w) {lo : Nat} {xs : List (ItF Ex)} {a : Option Addr} (c : Nat) (left : Int) (h : RowP w0 lo maxLen 13 (itC maxLen (ExB w0 lo maxLen n)) xs a) (h0 : 0 ≤ left) (h1 : left ≤ 1048576) :
    Calls Try.prog 47 #[.slice a xs.length c, .int .i64 left] w (SzPost w left (RowP w0 lo 1048576 13 (itC 1048576 (ExB w0 lo 1048576 n)) xs a)) := by
  obtain ⟨hlen, hrow⟩ := h
  unfold maxLen at hlen
  have HI := hide IH
  clear IH
  obtain ⟨m, hm⟩ : ∃ m, Hid (xs.length = m) := ⟨_, rfl⟩
  rw [hm.out] at hlen ⊢
  have H0 := hide h00
  clear h00
  by_cases hneg : left - (m : Int) < 0
  · have HR := hide hrow
    clear hrow
    go_enter Try.func47, Try.ntmps47
    go_wp2
    all_goals go_ret
    all_goals exact SzPost.no (by go_grown)
  · have hneg2 : (m : Int) ≤ left := by omega
    rcases Nat.eq_zero_or_pos m with rfl | hpos
    · have HR := hide (show RowP w0 lo 1048576 13 (itC 1048576 (ExB w0 lo 1048576 n)) xs a from ⟨by have := hm.out; omega, fun h => absurd hm.out (by omega)⟩)
      clear hrow
      go_enter Try.func47, Try.ntmps47
      go_wp2
      refine wp_loop_rounds 1 ?_
      rw [rounds_succ]
      go_wp2
      go_ret
      exact SzPost.yes (by go_grown) (by omega) (by omega) HR.out
    · obtain ⟨b, o, rfl, hlo, hb, hel⟩ := hrow (by have := hm.out; omega)
      have HE := hide (And.intro hlo (And.intro hb hel))
      clear hrow hlo hb hel
      go_enter Try.func47, Try.ntmps47
      go_wp2
      go_loopw [1, 5] (fun l x wr => ∃ (j : Nat) (r : Int), l = .int .i64 r ∧ x = .int .i64 j ∧ j ≤ m ∧ 0 ≤ r ∧ r ≤ left ∧ Hid (∀ i (h : i < xs.length), i < j → ∃ cs, (itC 1048576 (ExB w0 lo 1048576 n)) xs[i] cs ∧ cellsAt w0 b (o + i * 13) cs) ∧ Hid (Below w.heap.size w wr)) (fun _ x _ => m - (intOf x).toNat)
      case atStart => exact ⟨0, _, rfl, rfl, by omega, by omega, by omega, (fun i _ hi => absurd hi (by omega)), (show Below w.heap.size w _ by go_grown)⟩
      case round =>
        obtain ⟨j, r, rfl, rfl, hj, hr0, hr1, HJ, HB⟩ := hrel
        by_cases hlt : j < m
        · have hlt2 : (j : Int) < m := by omega
          have hjx : j < xs.length := by have := hm.out; omega
          obtain ⟨cs, ⟨ka, kc, sa, sc, rfl, hx⟩, hat⟩ := HE.out.2.2 j hjx
          have hat2 := hat.same ((below_via H0.out HB.out).block b HE.out.2.1)
          obtain ⟨c0, c1, c2, c3, c4, c5, c6, c7, c8, c9, c10, c11, c12⟩ := it_at hat2
          have HX := hide (And.intro hx hat)
          clear hx hat hat2
          generalize hxe : xs[j] = x at HX c0 c1 c2 c3 c4 c5 c6 c7 c8 c9 c10 c11 c12
          have HXE := hide hxe
          clear hxe
          go_wp2_with fail
          refine (HI.out w0 _ lo x ka kc sa sc r (below_via H0.out HB.out) HX.out.1 hr0 (by omega)).mono ?_
          rintro e w2 ⟨⟨r2, rfl, hr2⟩, hb2⟩
          have HB2 := hide (below_via HB.out hb2)
          clear hb2 c0 c1 c2 c3 c4 c5 c6 c7 c8 c9 c10 c11 c12
          rcases hr2 with hr2 | ⟨hr20, hr21, hx2⟩
          · go_wp2_with fail
            all_goals go_ret
            all_goals exact SzPost.no HB2.out
          · have HX2 := hide hx2
            clear hx2
            go_wp2_with fail
            go_roundw
            case rel =>
              refine ⟨j + 1, r2, rfl, by go_num, by omega, by omega, by omega, ?_, HB2.out⟩
              show ∀ i (h : i < xs.length), i < j + 1 → _
              intro i hi hij
              by_cases hij2 : i = j
              · subst hij2; exact ⟨_, ⟨ka, kc, sa, sc, rfl, by rw [HXE.out]; exact HX2.out⟩, by rw [HXE.out]; exact HX.out.2⟩
              · exact HJ.out i hi (by omega)
            case measure => simp [intOf]; omega
        · have hlt2 : ¬ (j : Int) < m := by omega
          go_wp2_with fail
          go_ret
          exact SzPost.yes HB.out hr0 hr1 ⟨by have := hm.out; omega, fun _ => ⟨b, o, rfl, HE.out.1, HE.out.2.1, fun i hi => HJ.out i hi (by have := hm.out; omega)⟩⟩

set_option maxRecDepth 100000 in
set_option maxHeartbeats 1600000 in
theorem szSourceSC {n : Nat} (IH : SzSo n) {w0 w : World} (h00 : Below w0.heap.size w0 w) {lo : Nat} {xs : List (SoF Ex)} {a : Option Addr} (c : Nat) (left : Int) (h : RowP w0 lo maxLen 3 (soC w0 lo maxLen (ExB w0 lo maxLen n)) xs a) (h0 : 0 ≤ left) (h1 : left ≤ 1048576) :
    Calls Try.prog 48 #[.slice a xs.length c, .int .i64 left] w (SzPost w left (RowP w0 lo 1048576 3 (soC w0 lo 1048576 (ExB w0 lo 1048576 n)) xs a)) := by
  obtain ⟨hlen, hrow⟩ := h
  unfold maxLen at hlen
  have HI := hide IH
  clear IH
  obtain ⟨m, hm⟩ : ∃ m, Hid (xs.length = m) := ⟨_, rfl⟩
  rw [hm.out] at hlen ⊢
  have H0 := hide h00
  clear h00
  by_cases hneg : left - (m : Int) < 0
  · have HR := hide hrow
    clear hrow
    go_enter Try.func48, Try.ntmps48
    go_wp2
    all_goals go_ret
    all_goals exact SzPost.no (by go_grown)
  · have hneg2 : (m : Int) ≤ left := by omega
    rcases Nat.eq_zero_or_pos m with rfl | hpos
    · have HR := hide (show RowP w0 lo 1048576 3 (soC w0 lo 1048576 (ExB w0 lo 1048576 n)) xs a from ⟨by have := hm.out; omega, fun h => absurd hm.out (by omega)⟩)
      clear hrow
      go_enter Try.func48, Try.ntmps48
      go_wp2
      refine wp_loop_rounds 1 ?_
      rw [rounds_succ]
      go_wp2
      go_ret
      exact SzPost.yes (by go_grown) (by omega) (by omega) HR.out
    · obtain ⟨b, o, rfl, hlo, hb, hel⟩ := hrow (by have := hm.out; omega)
      have HE := hide (And.intro hlo (And.intro hb hel))
      clear hrow hlo hb hel
      go_enter Try.func48, Try.ntmps48
      go_wp2
      go_loopw [1, 5] (fun l x wr => ∃ (j : Nat) (r : Int), l = .int .i64 r ∧ x = .int .i64 j ∧ j ≤ m ∧ 0 ≤ r ∧ r ≤ left ∧ Hid (∀ i (h : i < xs.length), i < j → ∃ cs, (soC w0 lo 1048576 (ExB w0 lo 1048576 n)) xs[i] cs ∧ cellsAt w0 b (o + i * 3) cs) ∧ Hid (Below w.heap.size w wr)) (fun _ x _ => m - (intOf x).toNat)
      case atStart => exact ⟨0, _, rfl, rfl, by omega, by omega, by omega, (fun i _ hi => absurd hi (by omega)), (show Below w.heap.size w _ by go_grown)⟩
      case round =>
        obtain ⟨j, r, rfl, rfl, hj, hr0, hr1, HJ, HB⟩ := hrel
        by_cases hlt : j < m
        · have hlt2 : (j : Int) < m := by omega
          have hjx : j < xs.length := by have := hm.out; omega
          obtain ⟨cs, ⟨oa, oc, rfl, hx⟩, hat⟩ := HE.out.2.2 j hjx
          have hat2 := hat.same ((below_via H0.out HB.out).block b HE.out.2.1)
          obtain ⟨c0, c1, c2⟩ := so_at hat2
          have HX := hide (And.intro hx hat)
          clear hx hat hat2
          generalize hxe : xs[j] = x at HX c0 c1 c2
          have HXE := hide hxe
          clear hxe
          go_wp2_with fail
          refine (HI.out w0 _ lo x oa oc r (below_via H0.out HB.out) HX.out.1 hr0 (by omega)).mono ?_
          rintro e w2 ⟨⟨r2, rfl, hr2⟩, hb2⟩
          have HB2 := hide (below_via HB.out hb2)
          clear hb2 c0 c1 c2
          rcases hr2 with hr2 | ⟨hr20, hr21, hx2⟩
          · go_wp2_with fail
            all_goals go_ret
            all_goals exact SzPost.no HB2.out
          · have HX2 := hide hx2
            clear hx2
            go_wp2_with fail
            go_roundw
            case rel =>
              refine ⟨j + 1, r2, rfl, by go_num, by omega, by omega, by omega, ?_, HB2.out⟩
              show ∀ i (h : i < xs.length), i < j + 1 → _
              intro i hi hij
              by_cases hij2 : i = j
              · subst hij2; exact ⟨_, ⟨oa, oc, rfl, by rw [HXE.out]; exact HX2.out⟩, by rw [HXE.out]; exact HX.out.2⟩
              · exact HJ.out i hi (by omega)
            case measure => simp [intOf]; omega
        · have hlt2 : ¬ (j : Int) < m := by omega
          go_wp2_with fail
          go_ret
          exact SzPost.yes HB.out hr0 hr1 ⟨by have := hm.out; omega, fun _ => ⟨b, o, rfl, HE.out.1, HE.out.2.1, fun i hi => HJ.out i hi (by have := hm.out; omega)⟩⟩

set_option maxRecDepth 100000 in
set_option maxHeartbeats 1600000 in
theorem szSortKeySC {n : Nat} (IH : SzKe n) {w0 w : World} (h00 : Below w0.heap.size w0 w) {lo : Nat} {xs : List (KeF Ex)} {a : Option Addr} (c : Nat) (left : Int) (h : RowP w0 lo maxLen 11 (keC (ExB w0 lo maxLen n)) xs a) (h0 : 0 ≤ left) (h1 : left ≤ 1048576) :
    Calls Try.prog 49 #[.slice a xs.length c, .int .i64 left] w (SzPost w left (RowP w0 lo 1048576 11 (keC (ExB w0 lo 1048576 n)) xs a)) := by
  obtain ⟨hlen, hrow⟩ := h
  unfold maxLen at hlen
  have HI := hide IH
  clear IH
  obtain ⟨m, hm⟩ : ∃ m, Hid (xs.length = m) := ⟨_, rfl⟩
  rw [hm.out] at hlen ⊢
  have H0 := hide h00
  clear h00
  by_cases hneg : left - (m : Int) < 0
  · have HR := hide hrow
    clear hrow
    go_enter Try.func49, Try.ntmps49
    go_wp2
    all_goals go_ret
    all_goals exact SzPost.no (by go_grown)
  · have hneg2 : (m : Int) ≤ left := by omega
    rcases Nat.eq_zero_or_pos m with rfl | hpos
    · have HR := hide (show RowP w0 lo 1048576 11 (keC (ExB w0 lo 1048576 n)) xs a from ⟨by have := hm.out; omega, fun h => absurd hm.out (by omega)⟩)
      clear hrow
      go_enter Try.func49, Try.ntmps49
      go_wp2
      refine wp_loop_rounds 1 ?_
      rw [rounds_succ]
      go_wp2
      go_ret
      exact SzPost.yes (by go_grown) (by omega) (by omega) HR.out
    · obtain ⟨b, o, rfl, hlo, hb, hel⟩ := hrow (by have := hm.out; omega)
      have HE := hide (And.intro hlo (And.intro hb hel))
      clear hrow hlo hb hel
      go_enter Try.func49, Try.ntmps49
      go_wp2
      go_loopw [1, 5] (fun l x wr => ∃ (j : Nat) (r : Int), l = .int .i64 r ∧ x = .int .i64 j ∧ j ≤ m ∧ 0 ≤ r ∧ r ≤ left ∧ Hid (∀ i (h : i < xs.length), i < j → ∃ cs, (keC (ExB w0 lo 1048576 n)) xs[i] cs ∧ cellsAt w0 b (o + i * 11) cs) ∧ Hid (Below w.heap.size w wr)) (fun _ x _ => m - (intOf x).toNat)
      case atStart => exact ⟨0, _, rfl, rfl, by omega, by omega, by omega, (fun i _ hi => absurd hi (by omega)), (show Below w.heap.size w _ by go_grown)⟩
      case round =>
        obtain ⟨j, r, rfl, rfl, hj, hr0, hr1, HJ, HB⟩ := hrel
        by_cases hlt : j < m
        · have hlt2 : (j : Int) < m := by omega
          have hjx : j < xs.length := by have := hm.out; omega
          obtain ⟨cs, ⟨ka, kc, sa, sc, rfl, hx⟩, hat⟩ := HE.out.2.2 j hjx
          have hat2 := hat.same ((below_via H0.out HB.out).block b HE.out.2.1)
          obtain ⟨c0, c1, c2, c3, c4, c5, c6, c7, c8, c9, c10⟩ := ke_at hat2
          have HX := hide (And.intro hx hat)
          clear hx hat hat2
          generalize hxe : xs[j] = x at HX c0 c1 c2 c3 c4 c5 c6 c7 c8 c9 c10
          have HXE := hide hxe
          clear hxe
          go_wp2_with fail
          refine (HI.out w0 _ lo x ka kc sa sc r (below_via H0.out HB.out) HX.out.1 hr0 (by omega)).mono ?_
          rintro e w2 ⟨⟨r2, rfl, hr2⟩, hb2⟩
          have HB2 := hide (below_via HB.out hb2)
          clear hb2 c0 c1 c2 c3 c4 c5 c6 c7 c8 c9 c10
          rcases hr2 with hr2 | ⟨hr20, hr21, hx2⟩
          · go_wp2_with fail
            all_goals go_ret
            all_goals exact SzPost.no HB2.out
          · have HX2 := hide hx2
            clear hx2
            go_wp2_with fail
            go_roundw
            case rel =>
              refine ⟨j + 1, r2, rfl, by go_num, by omega, by omega, by omega, ?_, HB2.out⟩
              show ∀ i (h : i < xs.length), i < j + 1 → _
              intro i hi hij
              by_cases hij2 : i = j
              · subst hij2; exact ⟨_, ⟨ka, kc, sa, sc, rfl, by rw [HXE.out]; exact HX2.out⟩, by rw [HXE.out]; exact HX.out.2⟩
              · exact HJ.out i hi (by omega)
            case measure => simp [intOf]; omega
        · have hlt2 : ¬ (j : Int) < m := by omega
          go_wp2_with fail
          go_ret
          exact SzPost.yes HB.out hr0 hr1 ⟨by have := hm.out; omega, fun _ => ⟨b, o, rfl, HE.out.1, HE.out.2.1, fun i hi => HJ.out i hi (by have := hm.out; omega)⟩⟩

set_option maxRecDepth 100000 in
set_option maxHeartbeats 1600000 in
theorem szQueryC {n : Nat} (IH : SzEx n) : SzQu n := by
  intro w0 w lo x ia ic fa fc wa wc oa oc left h00 hx h0 h1
  obtain ⟨vb, hvb⟩ : ∃ vb, Hid (vb = w.heap.size) := ⟨_, rfl⟩
  have hv := boxAt w [.bool x.distinct, .slice ia x.items.length ic, .slice fa x.src.length fc, .slice wa x.whr.length wc, .slice oa x.ord.length oc, .int .i64 x.limit] 43
  rw [← hvb.out] at hv
  have HV := hide hv
  have H0 := hide h00
  clear hv h00
  have HX := hide hx
  clear hx
  have HI := hide IH
  clear IH
  go_enter Try.func17, Try.ntmps17
  go_wp2_with fail
  (try rw [← hvb.out])
  refine (szItemSC (szItemC HI.out) (below_via H0.out (by go_grown)) ic _ HX.out.items (by omega) (by omega)).mono ?_
  rintro e w1 ⟨⟨r1, rfl, hr1⟩, hb1⟩
  have HB1 := hide (below_via (show Below w.heap.size w _ by go_grown) hb1)
  have HV1 := hide (HV.out.same (hb1.block vb (by rw [hvb.out]; simp)))
  have HS1 := hide hb1.size
  clear hb1
  rcases hr1 with hr1 | ⟨hr10, hr11, hg1⟩
  · go_wp2_with fail
    all_goals go_ret
    all_goals exact SzPost.no HB1.out
  · have HG1 := hide hg1
    clear hg1
    obtain ⟨c0, c1, c2, c3, c4, c5⟩ := qu_at0 HV1.out
    go_wp2_with fail
    refine (szSourceSC (szSourceC HI.out) (below_via H0.out HB1.out) fc _ HX.out.src (by omega) (by omega)).mono ?_
    rintro e w2 ⟨⟨r2, rfl, hr2⟩, hb2⟩
    have HB2 := hide (below_via HB1.out hb2)
    have HV2 := hide (HV1.out.same (hb2.block vb (by rw [hvb.out]; exact Nat.lt_of_lt_of_le (by simp) HS1.out)))
    have HS2 := hide (Nat.le_trans HS1.out hb2.size)
    clear hb2 c0 c1 c2 c3 c4 c5
    rcases hr2 with hr2 | ⟨hr20, hr21, hg2⟩
    · go_wp2_with fail
      all_goals go_ret
      all_goals exact SzPost.no HB2.out
    · have HG2 := hide hg2
      clear hg2
      obtain ⟨c0, c1, c2, c3, c4, c5⟩ := qu_at0 HV2.out
      go_wp2_with fail
      refine (szExprSC HI.out (below_via H0.out HB2.out) wc _ HX.out.whr (by omega) (by omega)).mono ?_
      rintro e w3 ⟨⟨r3, rfl, hr3⟩, hb3⟩
      have HB3 := hide (below_via HB2.out hb3)
      have HV3 := hide (HV2.out.same (hb3.block vb (by rw [hvb.out]; exact Nat.lt_of_lt_of_le (by simp) HS2.out)))
      have HS3 := hide (Nat.le_trans HS2.out hb3.size)
      clear hb3 c0 c1 c2 c3 c4 c5
      rcases hr3 with hr3 | ⟨hr30, hr31, hg3⟩
      · go_wp2_with fail
        all_goals go_ret
        all_goals exact SzPost.no HB3.out
      · have HG3 := hide hg3
        clear hg3
        obtain ⟨c0, c1, c2, c3, c4, c5⟩ := qu_at0 HV3.out
        go_wp2_with fail
        refine (szSortKeySC (szSortKeyC HI.out) (below_via H0.out HB3.out) oc _ HX.out.ord (by omega) (by omega)).mono ?_
        rintro e w4 ⟨⟨r4, rfl, hr4⟩, hb4⟩
        have HB4 := hide (below_via HB3.out hb4)
        have HV4 := hide (HV3.out.same (hb4.block vb (by rw [hvb.out]; exact Nat.lt_of_lt_of_le (by simp) HS3.out)))
        have HS4 := hide (Nat.le_trans HS3.out hb4.size)
        clear hb4 c0 c1 c2 c3 c4 c5
        rcases hr4 with hr4 | ⟨hr40, hr41, hg4⟩
        · go_wp2_with fail
          all_goals go_ret
          all_goals exact SzPost.no HB4.out
        · have HG4 := hide hg4
          clear hg4
          obtain ⟨c0, c1, c2, c3, c4, c5⟩ := qu_at0 HV4.out
          go_wp2_with fail
          all_goals go_ret
          all_goals exact SzPost.yes HB4.out (by omega) (by omega) ⟨HG1.out, HG2.out, HG3.out, HG4.out⟩

set_option maxRecDepth 100000 in
set_option maxHeartbeats 1600000 in
theorem szQuerySC {n : Nat} (IH : SzQu n) {w0 w : World} (h00 : Below w0.heap.size w0 w) {lo : Nat} {xs : List (QuF Ex)} {a : Option Addr} (c : Nat) (left : Int) (h : RowP w0 lo maxLen 6 (quC w0 lo maxLen (ExB w0 lo maxLen n)) xs a) (h0 : 0 ≤ left) (h1 : left ≤ 1048576) :
    Calls Try.prog 35 #[.slice a xs.length c, .int .i64 left] w (SzPost w left (RowP w0 lo 1048576 6 (quC w0 lo 1048576 (ExB w0 lo 1048576 n)) xs a)) := by
  obtain ⟨hlen, hrow⟩ := h
  unfold maxLen at hlen
  have HI := hide IH
  clear IH
  obtain ⟨m, hm⟩ : ∃ m, Hid (xs.length = m) := ⟨_, rfl⟩
  rw [hm.out] at hlen ⊢
  have H0 := hide h00
  clear h00
  by_cases hneg : left - (m : Int) < 0
  · have HR := hide hrow
    clear hrow
    go_enter Try.func35, Try.ntmps35
    go_wp2
    all_goals go_ret
    all_goals exact SzPost.no (by go_grown)
  · have hneg2 : (m : Int) ≤ left := by omega
    rcases Nat.eq_zero_or_pos m with rfl | hpos
    · have HR := hide (show RowP w0 lo 1048576 6 (quC w0 lo 1048576 (ExB w0 lo 1048576 n)) xs a from ⟨by have := hm.out; omega, fun h => absurd hm.out (by omega)⟩)
      clear hrow
      go_enter Try.func35, Try.ntmps35
      go_wp2
      refine wp_loop_rounds 1 ?_
      rw [rounds_succ]
      go_wp2
      go_ret
      exact SzPost.yes (by go_grown) (by omega) (by omega) HR.out
    · obtain ⟨b, o, rfl, hlo, hb, hel⟩ := hrow (by have := hm.out; omega)
      have HE := hide (And.intro hlo (And.intro hb hel))
      clear hrow hlo hb hel
      go_enter Try.func35, Try.ntmps35
      go_wp2
      go_loopw [1, 5] (fun l x wr => ∃ (j : Nat) (r : Int), l = .int .i64 r ∧ x = .int .i64 j ∧ j ≤ m ∧ 0 ≤ r ∧ r ≤ left ∧ Hid (∀ i (h : i < xs.length), i < j → ∃ cs, (quC w0 lo 1048576 (ExB w0 lo 1048576 n)) xs[i] cs ∧ cellsAt w0 b (o + i * 6) cs) ∧ Hid (Below w.heap.size w wr)) (fun _ x _ => m - (intOf x).toNat)
      case atStart => exact ⟨0, _, rfl, rfl, by omega, by omega, by omega, (fun i _ hi => absurd hi (by omega)), (show Below w.heap.size w _ by go_grown)⟩
      case round =>
        obtain ⟨j, r, rfl, rfl, hj, hr0, hr1, HJ, HB⟩ := hrel
        by_cases hlt : j < m
        · have hlt2 : (j : Int) < m := by omega
          have hjx : j < xs.length := by have := hm.out; omega
          obtain ⟨cs, ⟨ia, ic, fa, fc, wa, wc, oa, oc, rfl, hx⟩, hat⟩ := HE.out.2.2 j hjx
          have hat2 := hat.same ((below_via H0.out HB.out).block b HE.out.2.1)
          obtain ⟨c0, c1, c2, c3, c4, c5⟩ := qu_at hat2
          have HX := hide (And.intro hx hat)
          clear hx hat hat2
          generalize hxe : xs[j] = x at HX c0 c1 c2 c3 c4 c5
          have HXE := hide hxe
          clear hxe
          go_wp2_with fail
          refine (HI.out w0 _ lo x ia ic fa fc wa wc oa oc r (below_via H0.out HB.out) HX.out.1 hr0 (by omega)).mono ?_
          rintro e w2 ⟨⟨r2, rfl, hr2⟩, hb2⟩
          have HB2 := hide (below_via HB.out hb2)
          clear hb2 c0 c1 c2 c3 c4 c5
          rcases hr2 with hr2 | ⟨hr20, hr21, hx2⟩
          · go_wp2_with fail
            all_goals go_ret
            all_goals exact SzPost.no HB2.out
          · have HX2 := hide hx2
            clear hx2
            go_wp2_with fail
            go_roundw
            case rel =>
              refine ⟨j + 1, r2, rfl, by go_num, by omega, by omega, by omega, ?_, HB2.out⟩
              show ∀ i (h : i < xs.length), i < j + 1 → _
              intro i hi hij
              by_cases hij2 : i = j
              · subst hij2; exact ⟨_, ⟨ia, ic, fa, fc, wa, wc, oa, oc, rfl, by rw [HXE.out]; exact HX2.out⟩, by rw [HXE.out]; exact HX.out.2⟩
              · exact HJ.out i hi (by omega)
            case measure => simp [intOf]; omega
        · have hlt2 : ¬ (j : Int) < m := by omega
          go_wp2_with fail
          go_ret
          exact SzPost.yes HB.out hr0 hr1 ⟨by have := hm.out; omega, fun _ => ⟨b, o, rfl, HE.out.1, HE.out.2.1, fun i hi => HJ.out i hi (by have := hm.out; omega)⟩⟩

set_option maxRecDepth 100000 in
set_option maxHeartbeats 1600000 in
theorem szExprC {n : Nat} (IH : SzEx n) : SzEx (n + 1) := by
  intro w0 w lo x ka kc sa sc left h00 hx h0 h1
  obtain ⟨vb, hvb⟩ : ∃ vb, Hid (vb = w.heap.size) := ⟨_, rfl⟩
  have hv := boxAt w [.int .i64 x.f.kind, .int .i64 x.f.op, .bool x.f.neg, .int .i64 x.f.vk, .int .i64 x.f.vn, .string x.f.vt, .string x.f.qual, .string x.f.name, .slice ka x.f.kids.length kc, .slice sa x.f.sub.length sc] 27
  rw [← hvb.out] at hv
  have HV := hide hv
  have H0 := hide h00
  clear hv h00
  obtain ⟨⟨ht, hq, ha⟩, hx⟩ := hx
  have HT := hide ht
  unfold maxLen at hq ha
  clear ht
  have HX := hide hx
  clear hx
  have HI := hide IH
  clear IH
  go_enter Try.func10, Try.ntmps10
  go_wp2_with fail
  (try rw [← hvb.out])
  refine (szValueP x.f.vk x.f.vn x.f.vt _ _ (by omega) (by omega) HT.out).mono ?_
  rintro e w1 ⟨⟨r1, rfl, hr1⟩, hb1⟩
  have HB1 := hide (below_via (show Below w.heap.size w _ by go_grown) hb1)
  have HV1 := hide (HV.out.same (hb1.block vb (by rw [hvb.out]; simp)))
  have HS1 := hide hb1.size
  clear hb1
  rcases hr1 with hr1 | ⟨hr10, hr11, hg1⟩
  · go_wp2_with fail
    all_goals go_ret
    all_goals exact SzPost.no HB1.out
  · have HG1 := hide hg1
    clear hg1
    obtain ⟨c0, c1, c2, c3, c4, c5, c6, c7, c8, c9⟩ := ex_at0 HV1.out
    by_cases g2 : r1 - (x.f.qual.size : Int) < 0
    · go_wp2_with fail
      all_goals go_ret
      all_goals exact SzPost.no HB1.out
    · skip
      by_cases g3 : (r1 - (x.f.qual.size : Int)) - (x.f.name.size : Int) < 0
      · go_wp2_with fail
        all_goals go_ret
        all_goals exact SzPost.no HB1.out
      · skip
        go_wp2_with fail
        refine (szExprSC HI.out (below_via H0.out HB1.out) kc _ HX.out.1 (by omega) (by omega)).mono ?_
        rintro e w4 ⟨⟨r4, rfl, hr4⟩, hb4⟩
        have HB4 := hide (below_via HB1.out hb4)
        have HV4 := hide (HV1.out.same (hb4.block vb (by rw [hvb.out]; exact Nat.lt_of_lt_of_le (by simp) HS1.out)))
        have HS4 := hide (Nat.le_trans HS1.out hb4.size)
        clear hb4 c0 c1 c2 c3 c4 c5 c6 c7 c8 c9
        rcases hr4 with hr4 | ⟨hr40, hr41, hg4⟩
        · go_wp2_with fail
          all_goals go_ret
          all_goals exact SzPost.no HB4.out
        · have HG4 := hide hg4
          clear hg4
          obtain ⟨c0, c1, c2, c3, c4, c5, c6, c7, c8, c9⟩ := ex_at0 HV4.out
          go_wp2_with fail
          refine (szQuerySC (szQueryC HI.out) (below_via H0.out HB4.out) sc _ HX.out.2 (by omega) (by omega)).mono ?_
          rintro e w5 ⟨⟨r5, rfl, hr5⟩, hb5⟩
          have HB5 := hide (below_via HB4.out hb5)
          have HV5 := hide (HV4.out.same (hb5.block vb (by rw [hvb.out]; exact Nat.lt_of_lt_of_le (by simp) HS4.out)))
          have HS5 := hide (Nat.le_trans HS4.out hb5.size)
          clear hb5 c0 c1 c2 c3 c4 c5 c6 c7 c8 c9
          rcases hr5 with hr5 | ⟨hr50, hr51, hg5⟩
          · go_wp2_with fail
            all_goals go_ret
            all_goals exact SzPost.no HB5.out
          · have HG5 := hide hg5
            clear hg5
            obtain ⟨c0, c1, c2, c3, c4, c5, c6, c7, c8, c9⟩ := ex_at0 HV5.out
            go_wp2_with fail
            all_goals go_ret
            all_goals exact SzPost.yes HB5.out (by omega) (by omega) ⟨⟨HG1.out, by omega, by omega⟩, HG4.out, HG5.out⟩

theorem szExprAll : ∀ n, SzEx n
  | 0 => fun _ _ _ _ _ _ _ _ _ _ h => h.elim
  | n + 1 => szExprC (szExprAll n)
end Go.Proofs.Ytfpoakdmclekoaa
