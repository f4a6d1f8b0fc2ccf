/-
  The walk of FnExactOrderRow.
-/
import Derived.Test.YtfikgiekigbaoaaFlSz
import Derived.Test.YtfikgiekigbaoaaFlTo
import Derived.Test.YtfikgiekigbaoaaFlEq
import Derived.Test.YtfikgiekigbaoaaOrdR
namespace Go.Proofs.Ytfikgiekigbaoaa
open Go.RowKit

theorem rowVa_keeps {w w' : World} {lo lo' M : Nat} {xs : List ValF} {a : Option Addr} (h : RowP w lo M 3 (vaC M) xs a) (hb : Below w.heap.size w w') (hl : lo' ≤ lo) : RowP w' lo' M 3 (vaC M) xs a :=
  h.imp hl (Nat.le_refl _) hb.size (fun b _ h => hb.block b h) fun _ _ h => h

set_option maxRecDepth 100000 in
set_option maxHeartbeats 3200000 in
theorem fnExactOrderRow.walk (xs : List ValF) (a : Option Addr) (c : Nat) (ys : List ValF) (a' : Option Addr) (c' : Nat) (w : World) (hx : RowP w 0 maxLen 3 (vaC maxLen) xs a) (hy : RowP w 0 maxLen 3 (vaC maxLen) ys a') :
    Calls Try.prog 4 #[.slice a xs.length c, .slice a' ys.length c'] w fun e w' => e = .returned (.bool true) ∧ Below w.heap.size w w' := by
  have h1 := fun (W : World) (h : Below w.heap.size w W) => szValueSC (szValueC 0) h c 1048576 hx (by omega) (by omega)
  have h2 := fun (W : World) (r : Int) (h : Below w.heap.size w W) (h0 : 0 ≤ r) (h1 : r ≤ 1048576) => szValueSC (szValueC 0) h c' r hy h0 h1
  have h3 := fun (W : World) (h : Below w.heap.size w W) (hs : RowP w 0 1048576 3 (vaC 1048576) xs a) => toValueSC (toValueC 0) h c hs (by omega)
  have h4 := fun (W : World) (h : Below w.heap.size w W) (hs : RowP w 0 1048576 3 (vaC 1048576) ys a') => toValueSC (toValueC 0) h c' hs (by omega)
  have H := hide (And.intro h1 (And.intro h2 (And.intro h3 h4)))
  clear h1 h2 h3 h4 hx hy
  have h5 := fun (W : World) (b b' : Option Addr) (d d' : Nat) (lo lo' : Nat) (hb : RowP W lo 1048576 3 (vaC 1048576) xs b) (hb' : RowP W lo' 1048576 3 (vaC 1048576) ys b') => specOrderRow (Below.refl W.heap.size W) d d' hb hb' (by omega) (by omega)
  have h6 := fun (W : World) (b b' : Option Addr) (d d' : Nat) (lo lo' : Nat) (hb : RowP W lo 1048576 3 (vaC 1048576) xs b) (hb' : RowP W lo' 1048576 3 (vaC 1048576) ys b') => implOrderRow (Below.refl W.heap.size W) d d' hb hb' (by omega) (by omega)
  have h7 := fun (W : World) (b b' : Option Addr) (d d' : Nat) (lo lo' : Nat) (hb : RowP W lo 1048576 3 (vaC 1048576) xs b) (hb' : RowP W lo' 1048576 3 (vaC 1048576) xs b') => eqValueSC (n := 0) (n' := 0) (eqValueC 0) (Below.refl W.heap.size W) d d' hb hb' (by omega)
  have h8 := fun (W : World) (b b' : Option Addr) (d d' : Nat) (lo lo' : Nat) (hb : RowP W lo 1048576 3 (vaC 1048576) ys b) (hb' : RowP W lo' 1048576 3 (vaC 1048576) ys b') => eqValueSC (n := 0) (n' := 0) (eqValueC 0) (Below.refl W.heap.size W) d d' hb hb' (by omega)
  have HH := hide (And.intro h5 (And.intro h6 (And.intro h7 h8)))
  clear h5 h6 h7 h8
  unfold ToVaSP at H
  generalize ordR xs ys = R at HH
  obtain ⟨m, hm⟩ : ∃ m, m = xs.length := ⟨_, rfl⟩
  obtain ⟨m', hm'⟩ : ∃ m, m = ys.length := ⟨_, rfl⟩
  rw [← hm] at H HH ⊢
  rw [← hm'] at H HH ⊢
  clear hm hm'
  go_enter Try.func4, Try.ntmps4
  go_wp2_with fail
  refine (H.out.1 _ (Below.refl _ _)).mono ?_
  rintro e w1 ⟨⟨r, rfl, hr⟩, hb1⟩
  have HB1 := hide hb1
  clear hb1
  rcases hr with hr | ⟨hr0, hr1, hx2⟩
  · go_wp2_with fail
    all_goals go_ret
    all_goals exact ⟨rfl, HB1.out⟩
  have HX := hide hx2
  clear hx2
  go_wp2_with fail
  refine (H.out.2.1 _ r HB1.out hr0 hr1).mono ?_
  rintro e w2 ⟨⟨r2, rfl, hr⟩, hb2⟩
  have HB2 := hide (below_via HB1.out hb2)
  clear hb2
  rcases hr with hr | ⟨hr20, hr21, hy2⟩
  · go_wp2_with fail
    all_goals go_ret
    all_goals exact ⟨rfl, HB2.out⟩
  have HY := hide hy2
  clear hy2
  go_wp2_with fail
  refine (H.out.2.2.1 _ HB2.out HX.out).mono ?_
  rintro e w3 ⟨b3, d3, rfl, hx3, hb3⟩
  have H3 := hide (And.intro (below_via HB2.out hb3) hx3)
  clear hx3 hb3
  go_wp2_with fail
  refine (H.out.2.2.2 _ H3.out.1 HY.out).mono ?_
  rintro e w4 ⟨b4, d4, rfl, hy4, hb4⟩
  have H4 := hide (And.intro (below_via H3.out.1 hb4) (And.intro (rowVa_keeps H3.out.2 hb4 (Nat.le_refl _)) hy4))
  clear hy4 hb4
  go_wp2_with fail
  refine (HH.out.1 _ b3 b4 d3 d4 _ _ H4.out.2.1 H4.out.2.2).mono ?_
  rintro e w5 ⟨rfl, hb5⟩
  have H5 := hide (below_via H4.out.1 hb5)
  clear hb5
  go_wp2_with fail
  refine (H.out.2.2.1 _ H5.out HX.out).mono ?_
  rintro e w6 ⟨b6, d6, rfl, hx6, hb6⟩
  have H6 := hide (And.intro (below_via H5.out hb6) hx6)
  clear hx6 hb6
  go_wp2_with fail
  refine (H.out.2.2.2 _ H6.out.1 HY.out).mono ?_
  rintro e w7 ⟨b7, d7, rfl, hy7, hb7⟩
  have H7 := hide (And.intro (below_via H6.out.1 hb7) (And.intro (rowVa_keeps H6.out.2 hb7 (Nat.le_refl _)) hy7))
  clear hy7 hb7
  go_wp2_with fail
  refine (HH.out.2.1 _ b6 b7 d6 d7 _ _ H7.out.2.1 H7.out.2.2).mono ?_
  rintro e w8 ⟨rfl, hb8⟩
  have H8 := hide (And.intro (below_via H7.out.1 hb8) (And.intro (rowVa_keeps H7.out.2.1 hb8 (Nat.le_refl _)) (rowVa_keeps H7.out.2.2 hb8 (Nat.le_refl _))))
  clear hb8
  go_wp2_with fail
  refine (H.out.2.2.1 _ H8.out.1 HX.out).mono ?_
  rintro e w9 ⟨b9, d9, rfl, hx9, hb9⟩
  have H9 := hide (And.intro (below_via H8.out.1 hb9) (And.intro (rowVa_keeps H8.out.2.1 hb9 (Nat.le_refl _)) (And.intro (rowVa_keeps H8.out.2.2 hb9 (Nat.le_refl _)) hx9)))
  clear hx9 hb9
  go_wp2_with fail
  refine (HH.out.2.2.1 _ b6 b9 d6 d9 _ _ H9.out.2.1 H9.out.2.2.2).mono ?_
  rintro e wa ⟨rfl, hba⟩
  have HA := hide (And.intro (below_via H9.out.1 hba) (rowVa_keeps H9.out.2.2.1 hba (Nat.le_refl _)))
  clear hba
  go_wp2_with fail
  refine (H.out.2.2.2 _ HA.out.1 HY.out).mono ?_
  rintro e wb ⟨bb, db, rfl, hyb, hbb⟩
  have HB := hide (And.intro (below_via HA.out.1 hbb) (And.intro (rowVa_keeps HA.out.2 hbb (Nat.le_refl _)) hyb))
  clear hyb hbb
  go_wp2_with fail
  refine (HH.out.2.2.2 _ b7 bb d7 db _ _ HB.out.2.1 HB.out.2.2).mono ?_
  rintro e wc ⟨rfl, hbc⟩
  have HC := hide (below_via HB.out.1 hbc)
  clear hbc
  go_wp2_with fail
  all_goals go_ret
  all_goals exact ⟨by simp, HC.out⟩
end Go.Proofs.Ytfikgiekigbaoaa
