/-
  l7Kids, out of l7Expr.
-/
import Derived.Test.YtfpoakdmclekoaaDrE
import Derived.Maps.AppendAt
import Derived.IntWalk
namespace Go.Proofs.Ytfpoakdmclekoaa
open Go Go.RowKit Go.Lib

/-- l7Expr to depth d. -/
def ExprC (B p lo d : Nat) : Prop := ∀ (w : World) (R : RM) (deep : Nat), deep ≤ d → Cur B w p → Hp w lo R true → lo ≤ w.heap.size →
  Calls Try.prog 87 #[.pointer (some ⟨p, 0, none⟩), .int .i64 (deep : Int)] w (ExprPost B p lo R (d + 1) w)
def KidsPost (B p lo : Nat) (R : RM) (r n : Nat) (w : World) (e : Ending) (w' : World) : Prop :=
  ∃ (g kc : Nat) (R' : RM), e = .returned (.slice (some ⟨g, 0, none⟩) n kc) ∧ R' g = some (.ex r n kc) ∧ Hp w' lo R' true ∧ Ext w.heap.size R R' ∧ Dr B p w w'

theorem Dr.own {B p : Nat} {w a b : World} (h : Dr B p w a) (hp : p < w.heap.size) {row : Option Nat} (hr : ∀ k, row = some k → w.heap.size ≤ k) (hg : a.grownBy b row) : Dr B p w b := by
  cases row with
  | none => exact h.below ⟨hg.os, hg.tape, hg.output, hg.size, fun k hk => hg.block k hk (by simp)⟩
  | some g =>
    have hgw := hr g rfl
    refine ⟨h.cur.other hg (by have := h.cur.low; omega) (by omega), hg.os.trans h.grown.os, hg.tape.trans h.grown.tape, hg.output.trans h.grown.output, Nat.le_trans h.grown.size hg.size, fun k hk hne => ?_⟩
    rw [hg.block k (Nat.lt_of_lt_of_le hk h.grown.size) (by intro e; injection e with e; omega)]
    exact h.grown.block k hk hne

theorem Try.infoEx : (Try.prog.info? 34).map (fun i => (i.zero, i.size, i.bytes)) = some (some (.agg #[.int .i64 0, .int .i64 0, .bool false, .int .i64 0, .int .i64 0, .string ⟨#[]⟩, .string ⟨#[]⟩, .string ⟨#[]⟩, .slice none 0 0, .slice none 0 0]), 10, 136) := by kernel_rfl

theorem addr_at (g o j : Nat) : (⟨g, o, none⟩ : Addr).add j = ⟨g, o + j, none⟩ := by unfold Addr.add; split <;> simp_all
theorem owns_pos {w : World} {base size n : Nat} {e : TypeId} {v : Value} {xs : List Value} (h : w.ownsRow base e size v n xs) (hn : 0 < n) : ∃ g cap, v = .slice (some ⟨g, 0, none⟩) n cap := by
  rcases h.2 with ⟨_, h0⟩ | ⟨g, cap, _, e, _⟩
  · omega
  · exact ⟨g, cap, e⟩
theorem news_of (w : World) (l : List Value) (t : TypeId) : ∀ q u, l[q]? = some u → (w.alloc (.cells l.toArray t)).cell? ((⟨w.heap.size, 0, none⟩ : Addr).add q) = some u := by
  intro q u hq
  have hq2 : q < l.length := (List.getElem?_eq_some_iff.1 hq).1
  have h2 := boxAt w l t q hq2
  rw [List.getElem?_eq_getElem hq2] at hq
  rw [addr_at, h2, hq]

set_option maxRecDepth 100000 in
set_option maxHeartbeats 4000000 in
theorem l7KidsC {B p lo d : Nat} (IH : ExprC B p lo d) {w : World} {R : RM} (h : Cur B w p) (hh : Hp w lo R true) (hlo : lo ≤ w.heap.size) (_hpl : p < lo) (n : Nat) (hn : 1 ≤ n) (hn8 : n ≤ 8) (deep : Nat) (hd : deep ≤ d) (hdd : d ≤ 100) :
    Calls Try.prog 93 #[.pointer (some ⟨p, 0, none⟩), .int .i64 ((deep : Int) + 1), .int .i64 (n : Int)] w (KidsPost B p lo R (d + 1) n w) := by
  have hp := h.lt
  have HI := hide IH
  have H0 := hide (And.intro h hh)
  clear IH h hh
  obtain ⟨i0, hi, hz0, hz1, hz2⟩ := info_parts Try.infoEx
  have hdw : IntKind.i64.wrap (deep : Int) = (deep : Int) := IntWalk.i64_in _ (by omega)
  have hdw2 : IntKind.i64.wrap ((deep : Int) + 1 - 1) = (deep : Int) := by rw [show (deep : Int) + 1 - 1 = deep by omega]; exact hdw
  go_enter Try.func93, Try.ntmps93
  go_wp2_with fail
  go_loopw [7, 8] (fun x y wr => ∃ (j g cc : Nat), x = .slice (some ⟨g, 0, none⟩) j cc ∧ y = .int .i64 (j : Int) ∧ j ≤ n ∧ Hid (∃ (xs : List EK) (R' : RM), wr.ownsRow w.heap.size 34 10 (.slice (some ⟨g, 0, none⟩) j cc) j (flatK xs) ∧ R' g = none ∧ (∀ x ∈ xs, KidOk R' true (d + 1) x) ∧ Hp wr lo R' true ∧ Ext w.heap.size R R' ∧ Dr B p w wr)) (fun _ y _ => n - (intOf y).toNat)
  case atStart =>
    exact ⟨0, w.heap.size, 0, rfl, rfl, by omega, [], R, World.ownsRow_made w #[] 0 (Nat.le_refl _) (by decide) rfl, H0.out.2.new (Nat.le_refl _), (fun x hx => by cases hx), H0.out.2.alloc _, Ext.refl _ _, (Dr.refl H0.out.1).alloc _⟩
  case round =>
    obtain ⟨j, g, cc, rfl, rfl, hj, HJ⟩ := hrel
    by_cases hlt : j < n
    · have hlt2 : (j : Int) < n := by omega
      obtain ⟨xs, R1, hown, hng, hks, hh, hx, hdr⟩ := HJ.out
      clear HJ
      have HC := hide (HI.out wr R1 deep hd hdr.cur hh (Nat.le_trans hlo hdr.grown.size))
      have HS := hide (And.intro hown (And.intro hng (And.intro hks (And.intro hh (And.intro hx hdr)))))
      clear hown hng hks hh hx hdr
      go_wp2_with fail
      refine HC.out.mono ?_
      rintro e w2 ⟨x, R2, rfl, hk2, hh2, hx2, hd2⟩
      have hgl := HS.out.1.lt g rfl
      have hgp : g ≠ p := by omega
      have hown2 := HS.out.1.kept hd2.grown (.inr (fun e => hgp (by injection e)))
      have hsz := HS.out.2.2.2.2.2.grown.size
      have hsz2 := hd2.grown.size
      have HT := hide (And.intro hk2 (And.intro hh2 (And.intro hx2 hd2)))
      clear hk2 hh2 hx2 hd2 HC
      go_wp2_with (first | (at_builtin; refine wpList_append_own_at _ rfl _ _ 31 rfl w.heap.size 34 i0 (.agg #[.int .i64 0, .int .i64 0, .bool false, .int .i64 0, .int .i64 0, .string ⟨#[]⟩, .string ⟨#[]⟩, .string ⟨#[]⟩, .slice none 0 0, .slice none 0 0]) 10 136 Try.underlying31 hi hz0 hz1 hz2 rfl (by decide) _ _ _ rfl (hown2.alloc _) ⟨w2.heap.size, 0, none⟩ 1 1 x.L rfl rfl ?c1 ?c2 ?c3 ?c4 ?c5 ?_))
      case c1 => exact news_of w2 x.L _
      case c2 => intro u hu; simp [EK.L] at hu; rcases hu with rfl | rfl | rfl | rfl | rfl | rfl | rfl | rfl | rfl | rfl <;> rfl
      case c3 => unfold maxLen; omega
      case c4 => omega
      case c5 => simp; omega
      · intro v3 w3 hown3 hgrow3 hnil3 hat3
        have hfin : ∃ g3 c3, v3 = .slice (some ⟨g3, 0, none⟩) (j + 1) c3 ∧ Hid (∃ (xs : List EK) (R' : RM), w3.ownsRow w.heap.size 34 10 (.slice (some ⟨g3, 0, none⟩) (j + 1) c3) (j + 1) (flatK xs) ∧ R' g3 = none ∧ (∀ x ∈ xs, KidOk R' true (d + 1) x) ∧ Hp w3 lo R' true ∧ Ext w.heap.size R R' ∧ Dr B p w w3) := by
          obtain ⟨hown, hng, hks, hh, hx, hdr⟩ := HS.out
          obtain ⟨hk2, hh2, hx2, hd2⟩ := HT.out
          obtain ⟨g3, c3, rfl⟩ := owns_pos hown3 (by omega)
          have hgrow : (w2.alloc (.cells x.L.toArray 34)).grownBy w3 (some g) := hgrow3
          have hng2 : R2 g = none := hx2.no g hgl.2 hng
          have hng3 : R2 g3 = none := by
            rcases hat3 with e | e
            · have e2 : (some g3 : Option Nat) = some g := e
              injection e2 with e2
              rw [e2]; exact hng2
            · have e2 : (some g3 : Option Nat) = some (w2.heap.size + 1) := e
              injection e2 with e2
              exact hh2.new (by omega)
          refine ⟨g3, c3, rfl, xs ++ [x], R2, by rw [flatK_snoc]; exact hown3, hng3, fun y hy => ?_, (hh2.alloc _).grown hgrow (fun k hk => by injection hk with hk; subst hk; exact hng2), hx.trans hx2 hdr.grown.size, Dr.own ((hdr.trans hd2).alloc _) hp (fun k hk => by injection hk with hk; subst hk; exact hgl.1) hgrow⟩
          rcases List.mem_append.1 hy with hy | hy
          · exact (hks y hy).ext hx2 (Nat.le_refl _)
          · simp at hy; subst hy; exact hk2
        obtain ⟨g3, c3, rfl, HF⟩ := hfin
        clear hown3 hgrow3 hnil3 hown2 hat3 HS HT
        go_wp2_with fail
        go_roundw
        case rel => exact ⟨j + 1, g3, c3, rfl, by go_num, by omega, HF.out⟩
        case measure => simp [intOf]; omega
    · have hlt2 : ¬ (j : Int) < n := by omega
      have hjn : j = n := by omega
      subst hjn
      go_wp2_with fail
      go_ret
      obtain ⟨xs, R1, hown, hng, hks, hh, hx, hdr⟩ := HJ.out
      obtain ⟨hb, hle, hroom⟩ := Room.of_block hown
      obtain ⟨hl, hel⟩ := owns_el hown
      obtain ⟨k1, k2⟩ := hh.addEx (N := w.heap.size) (r := d + 1) (l := j) (c := cc) hng (Nat.le_trans hlo hb) (by omega) hle hroom (fun i hi => ⟨xs[i]'(by omega), hks _ (List.getElem_mem _), hel i (by omega)⟩) hb
      exact ⟨g, cc, _, rfl, RM.put_at _ _ _, k1, hx.trans k2 (Nat.le_refl _), hdr⟩
end Go.Proofs.Ytfpoakdmclekoaa
