/-
  l7Query, out of l7Expr.
-/
import Derived.Test.YtfpoakdmclekoaaDrQp
import Derived.Deep.RegionLaw
import Derived.Deep.AppendLies
import Derived.Deep.CutBlock
import Derived.Deep.DeepCutAuto
namespace Go.Proofs.Ytfpoakdmclekoaa
open Go Go.RowKit Go.Lib

def cellOr (w : World) (a : Addr) : Value := (w.cell? a).getD (.slice none 0 0)
theorem cellOr_of {w : World} {a : Addr} {v : Value} (h : w.cell? a = some v) : w.cell? a = some (cellOr w a) := by unfold cellOr; rw [h]; rfl
theorem cellOr_eq {w : World} {a : Addr} {v : Value} (h : w.cell? a = some v) : cellOr w a = v := by unfold cellOr; rw [h]; rfl
def t2L : List ByteArray := [⟨#[116]⟩, ⟨#[117]⟩]
theorem pick2C {B p : Nat} {w : World} (h : Cur B w p) (c : Nat) : Calls Try.prog 98 #[.pointer (some ⟨p, 0, none⟩), .slice (some ⟨w.heap.size, 0, none⟩) 2 c] (w.alloc (.cells #[.string ⟨#[116]⟩, .string ⟨#[117]⟩] 9)).drew (fun e w' => ∃ s, e = .returned (.string s) ∧ Dr B p (w.alloc (.cells #[.string ⟨#[116]⟩, .string ⟨#[117]⟩] 9)).drew w') := by
  have hc : Cur B (w.alloc (.cells #[.string ⟨#[116]⟩, .string ⟨#[117]⟩] 9)).drew p := (h.alloc' _).below (Below.refl _ _).drew
  refine (l1PickC (f := fun j => t2L.getD j ⟨#[]⟩) (n := 2) hc (by omega) (by omega) (by have := h.lt; omega) ?_).mono ?_
  · intro j hj
    match j, hj with
    | 0, _ => simp [go_sem]; rfl
    | 1, _ => simp [go_sem]; rfl
  · rintro e w1 ⟨j, hj, rfl, hc1, hg1⟩
    exact ⟨_, rfl, hc1, hg1⟩

def t3L : List ByteArray := [⟨#[116]⟩, ⟨#[117]⟩, ⟨#[118]⟩]
theorem pick3C {B p : Nat} {w : World} (h : Cur B w p) (c : Nat) : Calls Try.prog 98 #[.pointer (some ⟨p, 0, none⟩), .slice (some ⟨w.heap.size, 0, none⟩) 3 c] (w.alloc (.cells #[.string ⟨#[116]⟩, .string ⟨#[117]⟩, .string ⟨#[118]⟩] 9)) (fun e w' => ∃ s, e = .returned (.string s) ∧ Dr B p (w.alloc (.cells #[.string ⟨#[116]⟩, .string ⟨#[117]⟩, .string ⟨#[118]⟩] 9)) w') := by
  refine (l1PickC (f := fun j => t3L.getD j ⟨#[]⟩) (n := 3) (h.alloc' _) (by omega) (by omega) (by have := h.lt; omega) ?_).mono ?_
  · intro j hj
    match j, hj with
    | 0, _ => simp [go_sem]; rfl
    | 1, _ => simp [go_sem]; rfl
    | 2, _ => simp [go_sem]; rfl
  · rintro e w1 ⟨j, hj, rfl, hc1, hg1⟩
    exact ⟨_, rfl, hc1, hg1⟩

def i4L : List Int := [0, 1, 2, 9223372036854775807]
theorem pickI4C {B p : Nat} {w : World} (h : Cur B w p) (c : Nat) : Calls Try.prog 84 #[.pointer (some ⟨p, 0, none⟩), .slice (some ⟨w.heap.size, 0, none⟩) 4 c] (w.alloc (.cells #[.int .i64 0, .int .i64 1, .int .i64 2, .int .i64 9223372036854775807] 3)) (fun e w' => ∃ y : Int, e = .returned (.int .i64 y) ∧ Dr B p (w.alloc (.cells #[.int .i64 0, .int .i64 1, .int .i64 2, .int .i64 9223372036854775807] 3)) w') := by
  refine (l1PickIntC (f := fun j => i4L.getD j 0) (n := 4) (h.alloc' _) (by omega) (by omega) (by have := h.lt; omega) ?_).mono ?_
  · intro j hj
    match j, hj with
    | 0, _ => simp [go_sem]; rfl
    | 1, _ => simp [go_sem]; rfl
    | 2, _ => simp [go_sem]; rfl
    | 3, _ => simp [go_sem]; rfl
  · rintro e w1 ⟨j, hj, rfl, hc1, hg1⟩
    exact ⟨_, rfl, hc1, hg1⟩

def QueryPost (B p lo : Nat) (R : RM) (w : World) (e : Ending) (w' : World) : Prop :=
  ∃ (dn : Bool) (ia : Option Addr) (im ic : Nat) (fa : Option Addr) (fm fc : Nat) (qa : Option Addr) (qm qc : Nat) (oa : Option Addr) (om oc : Nat) (lim : Int) (R' : RM),
    e = .returned (.agg #[.bool dn, .slice ia im ic, .slice fa fm fc, .slice qa qm qc, .slice oa om oc, .int .i64 lim]) ∧ Hp w' lo R' true ∧ Ext w.heap.size R R' ∧ Dr B p w w'

theorem Try.infoIt : (Try.prog.info? 88).map (fun i => (i.zero, i.size, i.bytes)) = some (some (.agg #[.bool false, .string ⟨#[]⟩, .int .i64 0, .int .i64 0, .bool false, .int .i64 0, .int .i64 0, .string ⟨#[]⟩, .string ⟨#[]⟩, .string ⟨#[]⟩, .slice none 0 0, .slice none 0 0, .string ⟨#[]⟩]), 13, 176) := by kernel_rfl
theorem Try.infoSo : (Try.prog.info? 90).map (fun i => (i.zero, i.size, i.bytes)) = some (some (.agg #[.string ⟨#[]⟩, .string ⟨#[]⟩, .slice none 0 0]), 3, 56) := by kernel_rfl
theorem Try.infoKe : (Try.prog.info? 92).map (fun i => (i.zero, i.size, i.bytes)) = some (some (.agg #[.int .i64 0, .int .i64 0, .bool false, .int .i64 0, .int .i64 0, .string ⟨#[]⟩, .string ⟨#[]⟩, .string ⟨#[]⟩, .slice none 0 0, .slice none 0 0, .bool false]), 11, 144) := by kernel_rfl

set_option maxRecDepth 100000 in
set_option maxHeartbeats 4000000 in
theorem l7QueryC {B p lo d : Nat} (IH : ExprC B p lo d) {w : World} {R : RM} (h : Cur B w p) (hh : Hp w lo R true) (hlo : lo ≤ w.heap.size) (hpl : p < lo) (deep : Nat) (hd : deep ≤ d) :
    Calls Try.prog 94 #[.pointer (some ⟨p, 0, none⟩), .int .i64 (deep : Int)] w (QueryPost B p lo R w) := by
  have hp := h.lt
  have HI := hide IH
  clear IH
  obtain ⟨iI, hiI, hz0I, hz1I, hz2I⟩ := info_parts Try.infoIt
  obtain ⟨iS, hiS, hz0S, hz1S, hz2S⟩ := info_parts Try.infoSo
  obtain ⟨iK, hiK, hz0K, hz1K, hz2K⟩ := info_parts Try.infoKe
  obtain ⟨rb, hrb⟩ : ∃ rb, Hid (rb = w.heap.size) := ⟨_, rfl⟩
  have hr0 := Blk.made w Z6 50
  have hd0 := (Dr.refl h).alloc (.cells Z6.toArray 50)
  have H0 := hide (And.intro hd0 (And.intro hr0 (hh.alloc (.cells Z6.toArray 50))))
  have hnr := hh.new (Nat.le_refl _)
  rw [← hrb.out] at H0 hnr
  have hrp : rb ≠ p := by have := hrb.out; omega
  have hrw : w.heap.size ≤ rb := by have := hrb.out; omega
  clear hd0 hr0
  go_enter Try.func94, Try.ntmps94
  go_wp2_with fail
  (try rw [← hrb.out])
  refine (l1OnceC H0.out.1.cur _).mono ?_
  rintro e w1 ⟨dn, rfl, hc, hg⟩
  obtain ⟨qb, hqb⟩ : ∃ qb, Hid (qb = w1.heap.size) := ⟨_, rfl⟩
  have hd1 := H0.out.1.step hc hg
  have hbr := H0.out.2.1.grown hg hrp
  have hh1 := H0.out.2.2.dr ((Dr.refl H0.out.1.cur).step hc hg) hpl
  have hsz := hd1.grown.size
  have hqw : w.heap.size ≤ qb := by have := hqb.out; omega
  have hqp : qb ≠ p := by have := hqb.out; have := hd1.lt; omega
  have hrq : rb ≠ qb := by have := hqb.out; have := hbr.lt; omega
  have hq1 := Blk.made w1 [.bool dn, .slice none 0 0, .slice none 0 0, .slice none 0 0, .slice none 0 0, .int .i64 (-1)] 50
  rw [← hqb.out] at hq1
  have H1 := hide (show QSt B p lo R R w (w1.alloc (.cells #[.bool dn, .slice none 0 0, .slice none 0 0, .slice none 0 0, .slice none 0 0, .int .i64 (-1)] 50)) rb qb [.bool dn, .slice none 0 0, .slice none 0 0, .slice none 0 0, .slice none 0 0, .int .i64 (-1)] from ⟨hh1.alloc _, Ext.refl _ _, hnr, hh.new hqw, hd1.alloc _, hbr.alloc _, hq1, hrp, hqp, hrq, hrw, hqw, hp, hpl⟩)
  obtain ⟨base, hbase⟩ : ∃ b, Hid (b = qb + 1) := ⟨_, rfl⟩
  have hqbb : qb < base := by have := hbase.out; omega
  have hrbb : rb < base := by have := hbase.out; have := hbr.lt; have := hqb.out; omega
  have hbw : w.heap.size ≤ base := by omega
  have hpb : p < base := by omega
  have HBS := hide (show base ≤ (w1.alloc (.cells #[.bool dn, .slice none 0 0, .slice none 0 0, .slice none 0 0, .slice none 0 0, .int .i64 (-1)] 50)).heap.size by simp; have := hbase.out; have := hqb.out; omega)
  clear hc hg hd1 hbr hh1 hq1 hsz
  go_wp2_with fail
  (try rw [← hqb.out])
  refine (l1BelowC H1.out.dr.cur 2).mono ?_
  rintro e w2 ⟨y, rfl, y0, y1, hc, hg⟩
  have y2 := y1 (by omega)
  obtain ⟨n0, rfl⟩ : ∃ q : Nat, y = q := ⟨y.toNat, by omega⟩
  have H2 := hide (And.intro (H1.out.step ((Dr.refl H1.out.dr.cur).step hc hg)) (Nat.le_trans HBS.out hg.size))
  clear hc hg y1
  go_wp2_with fail
  go_loopw [7] (fun u wr => ∃ i : Nat, u = .int .i64 (i : Int) ∧ i ≤ 1 + n0 ∧ Hid (∃ (R' : RM) (ia : Option Addr) (ic : Nat), QSt B p lo R R' w wr rb qb [.bool dn, .slice ia i ic, .slice none 0 0, .slice none 0 0, .slice none 0 0, .int .i64 (-1)] ∧ OwnV wr R' base 88 13 i (.slice ia i ic) ∧ base ≤ wr.heap.size)) (fun u _ => 1 + n0 - (intOf u).toNat)
  case atStart => exact ⟨0, rfl, by omega, R, none, 0, H2.out.1, OwnV.nil _ _ _ _ _, H2.out.2⟩
  case round =>
    clear H2 H1 H0 HBS
    obtain ⟨i, rfl, hin, HJ⟩ := hrel
    by_cases hlt : i < 1 + n0
    · have hlt2 : (i : Int) < 1 + (n0 : Int) := by omega
      obtain ⟨R1, ia, ic, hq, ho, hbs⟩ := HJ.out
      have HQ := hide (And.intro hq (And.intro ho hbs))
      clear hq ho hbs HJ
      go_wp2_with fail
      refine (l1BelowC HQ.out.1.dr.cur 5).mono ?_
      rintro e w3 ⟨x, rfl, x0, x1, hc, hg⟩
      clear x1
      have HR := hide (And.intro (HQ.out.1.step ((Dr.refl HQ.out.1.dr.cur).step hc hg)) (And.intro (HQ.out.2.1.step ((Dr.refl HQ.out.1.dr.cur).step hc hg) hpb) (Nat.le_trans HQ.out.2.2 hg.size)))
      clear hc hg HQ
      have hx : x = 0 ∨ x = 1 ∨ (x ≠ 0 ∧ x ≠ 1) := by omega
      rcases hx with rfl | rfl | ⟨n0x, n1x⟩
      · have hbs := HR.out.2.2
        have oc := HR.out.1.q.cells
        have o0 := oc 0 (by first | simp | simp [Z6])
        have o1 := oc 1 (by first | simp | simp [Z6])
        have o2 := oc 2 (by first | simp | simp [Z6])
        have o3 := oc 3 (by first | simp | simp [Z6])
        have o4 := oc 4 (by first | simp | simp [Z6])
        have o5 := oc 5 (by first | simp | simp [Z6])
        try simp only [Z6] at o0 o1 o2 o3 o4 o5
        simp only [Nat.zero_add, List.getElem_cons_zero, List.getElem_cons_succ] at o0 o1 o2 o3 o4 o5
        clear oc
        have fo := HR.out.1.q.free
        obtain ⟨xs0, hown0⟩ := HR.out.2.1.ex
        have hszW := HR.out.1.dr.grown.size
        go_wp2_with (first | (at_builtin; refine wpList_append_own_at _ rfl _ _ 46 rfl base 88 iI (.agg #[.bool false, .string ⟨#[]⟩, .int .i64 0, .int .i64 0, .bool false, .int .i64 0, .int .i64 0, .string ⟨#[]⟩, .string ⟨#[]⟩, .string ⟨#[]⟩, .slice none 0 0, .slice none 0 0, .string ⟨#[]⟩]) 13 176 Try.underlying46 hiI hz0I hz1I hz2I rfl (by decide) _ _ _ rfl (hown0.alloc _) ⟨w3.heap.size, 0, none⟩ 1 1 [.bool true, .string ⟨#[]⟩, .int .i64 0, .int .i64 0, .bool false, .int .i64 0, .int .i64 0, .string ⟨#[]⟩, .string ⟨#[]⟩, .string ⟨#[]⟩, .slice none 0 0, .slice none 0 0, .string ⟨#[]⟩] rfl rfl ?c1 ?c2 ?c3 ?c4 ?c5 ?_))
        case c1 => exact news_of w3 [.bool true, .string ⟨#[]⟩, .int .i64 0, .int .i64 0, .bool false, .int .i64 0, .int .i64 0, .string ⟨#[]⟩, .string ⟨#[]⟩, .string ⟨#[]⟩, .slice none 0 0, .slice none 0 0, .string ⟨#[]⟩] _
        case c2 => exact List.all_eq_true.1 (by rfl)
        case c3 => unfold maxLen; omega
        case c4 => omega
        case c5 => simp; omega
        · intro v3 wf hown3 hgrow3 hnil3 hat3
          obtain ⟨g3, c3, rfl⟩ := owns_pos hown3 (by omega)
          obtain ⟨ha, hb, hc⟩ := QSt.app (H := w3.heap.size + 1) (HR.out.1.alloc (.cells #[.bool true, .string ⟨#[]⟩, .int .i64 0, .int .i64 0, .bool false, .int .i64 0, .int .i64 0, .string ⟨#[]⟩, .string ⟨#[]⟩, .string ⟨#[]⟩, .slice none 0 0, .slice none 0 0, .string ⟨#[]⟩] 88)) (HR.out.2.1.alloc (.cells #[.bool true, .string ⟨#[]⟩, .int .i64 0, .int .i64 0, .bool false, .int .i64 0, .int .i64 0, .string ⟨#[]⟩, .string ⟨#[]⟩, .string ⟨#[]⟩, .slice none 0 0, .slice none 0 0, .string ⟨#[]⟩] 88)) hrbb hqbb hbw (by simp) hown3 hgrow3 hat3 1 (by simp)
          simp only [List.set_cons_zero, List.set_cons_succ] at hb
          have HBS3 := hide (Nat.le_trans hbs (Nat.le_trans (show w3.heap.size ≤ (w3.alloc (.cells #[.bool true, .string ⟨#[]⟩, .int .i64 0, .int .i64 0, .bool false, .int .i64 0, .int .i64 0, .string ⟨#[]⟩, .string ⟨#[]⟩, .string ⟨#[]⟩, .slice none 0 0, .slice none 0 0, .string ⟨#[]⟩] 88)).heap.size by simp) hgrow3.size))
          have HA := hide ha
          have HF := hide (And.intro hb hc)
          clear ha hb hc hown3 hgrow3 hnil3 hat3 hown0 hszW
          clear o0 o1 o2 o3 o4 o5 fo
          have oc := HA.out.q.cells
          have o0 := oc 0 (by first | simp | simp [Z6])
          have o1 := oc 1 (by first | simp | simp [Z6])
          have o2 := oc 2 (by first | simp | simp [Z6])
          have o3 := oc 3 (by first | simp | simp [Z6])
          have o4 := oc 4 (by first | simp | simp [Z6])
          have o5 := oc 5 (by first | simp | simp [Z6])
          try simp only [Z6] at o0 o1 o2 o3 o4 o5
          simp only [Nat.zero_add, List.getElem_cons_zero, List.getElem_cons_succ] at o0 o1 o2 o3 o4 o5
          clear oc
          have fo := HA.out.q.free
          go_wp2_with fail
          clear o0 o1 o2 o3 o4 o5 fo
          go_roundw
          case rel => exact ⟨i + 1, by go_num, by omega, R1, _, _, HF.out.1, HF.out.2, by simpa [World.setCell] using HBS3.out⟩
          case measure => simp [intOf]; omega
      · have hbs := HR.out.2.2
        have oc := HR.out.1.q.cells
        have o0 := oc 0 (by first | simp | simp [Z6])
        have o1 := oc 1 (by first | simp | simp [Z6])
        have o2 := oc 2 (by first | simp | simp [Z6])
        have o3 := oc 3 (by first | simp | simp [Z6])
        have o4 := oc 4 (by first | simp | simp [Z6])
        have o5 := oc 5 (by first | simp | simp [Z6])
        try simp only [Z6] at o0 o1 o2 o3 o4 o5
        simp only [Nat.zero_add, List.getElem_cons_zero, List.getElem_cons_succ] at o0 o1 o2 o3 o4 o5
        clear oc
        have fo := HR.out.1.q.free
        obtain ⟨xs0, hown0⟩ := HR.out.2.1.ex
        have hql := HR.out.1.q.lt
        have HW := hide (And.intro (HR.out.1.alloc (.cells #[.string ⟨#[116]⟩, .string ⟨#[117]⟩] 9)).drew (HR.out.2.1.alloc (.cells #[.string ⟨#[116]⟩, .string ⟨#[117]⟩] 9)).drew)
        have hC := hide (pick2C (w := w3) HR.out.1.dr.cur 2)
        go_wp2_with fail
        go_region_law (first
            | (go_simp
               go_at_call 98
               refine hC.out.mono ?_
               rintro e w4 ⟨s, rfl, hd4⟩
               have HS4 := hide (And.intro (HW.out.1.step hd4) (HW.out.2.step hd4 hpb))
               have hk4 : w4.cell? ⟨qb, 1, none⟩ = some (.slice ia i ic) := by simpa using HS4.out.1.q.cells 1 (by simp)
               have hl4 := HS4.out.1.q.lt
               have hs4 : w3.heap.size ≤ w4.heap.size := Nat.le_trans (by simp) hd4.grown.size
               have hown4 : w4.ownsRow base 88 13 (.slice ia i ic) i xs0 := ((hown0.alloc (.cells #[.string ⟨#[116]⟩, .string ⟨#[117]⟩] 9)).drew).kept hd4.grown (by
                 cases hv : (Value.slice ia i ic).ownBlock with
                 | none => exact .inl rfl
                 | some gg => exact .inr fun e => by have := (hown0.lt gg hv).1; injection e with e; omega)
               have HD4 := hide hd4
               clear hd4)
            | (refine step_append_lies _ (by rfl) _ _ _ (by rfl) base 88 iI _ 13 176 Try.underlying46 hiI hz0I hz1I hz2I rfl (by decide) (.slice ia i ic) i xs0 (by rfl) (hown4.alloc _) ⟨w4.heap.size, 0, none⟩ 1 1 [.bool true, .string s, .int .i64 0, .int .i64 0, .bool false, .int .i64 0, .int .i64 0, .string ⟨#[]⟩, .string ⟨#[]⟩, .string ⟨#[]⟩, .slice none 0 0, .slice none 0 0, .string ⟨#[]⟩] (by rfl) (by rfl) (news_of w4 [.bool true, .string s, .int .i64 0, .int .i64 0, .bool false, .int .i64 0, .int .i64 0, .string ⟨#[]⟩, .string ⟨#[]⟩, .string ⟨#[]⟩, .slice none 0 0, .slice none 0 0, .string ⟨#[]⟩] _) (List.all_eq_true.1 (by rfl)) (by omega) (by unfold maxLen; omega) (by omega) (by simp; omega) (w4.heap.size + 1) (by simp) ?_
               intro g3 c3 wf hown3 hgrow3 hat3 hlt3
               have hat4 : (Value.slice (some ⟨g3, 0, none⟩) (i + 1) c3).ownBlock = (Value.slice ia i ic).ownBlock ∨ (Value.slice (some ⟨g3, 0, none⟩) (i + 1) c3).ownBlock = some (w4.heap.size + 1) := hat3.elim (fun e => .inl e.symm) (fun e => .inr (congrArg some e))
               have hA := QSt.app (H := w4.heap.size + 1) (HS4.out.1.alloc (.cells #[.bool true, .string s, .int .i64 0, .int .i64 0, .bool false, .int .i64 0, .int .i64 0, .string ⟨#[]⟩, .string ⟨#[]⟩, .string ⟨#[]⟩, .slice none 0 0, .slice none 0 0, .string ⟨#[]⟩] 88)) (HS4.out.2.alloc (.cells #[.bool true, .string s, .int .i64 0, .int .i64 0, .bool false, .int .i64 0, .int .i64 0, .string ⟨#[]⟩, .string ⟨#[]⟩, .string ⟨#[]⟩, .slice none 0 0, .slice none 0 0, .string ⟨#[]⟩] 88)) hrbb hqbb hbw (by simp) hown3 hgrow3 hat4 1 (by simp)
               have HF := hide hA.2
               have hkf : wf.cell? ⟨qb, 1, none⟩ = some (.slice ia i ic) := by simpa using hA.1.q.cells 1 (by simp)
               have hff := hA.1.q.free
               have HBS3 := hide (Nat.le_trans hbs (Nat.le_trans (Nat.le_trans hs4 (by simp)) hgrow3.size))
               clear hA hown3 hgrow3 hat3 hat4 hown4))
        all_goals
          clear o0 o1 o2 o3 o4 o5 fo
          go_wp2_with fail
          go_roundw
          case rel => exact ⟨i + 1, by go_num, by omega, R1, _, _, HF.out.1, HF.out.2, by simpa [World.setCell] using HBS3.out⟩
          case measure => simp [intOf]; omega
      · have g0 : (x == 0) = false := by simpa using n0x
        have g1 : (x == 1) = false := by simpa using n1x
        clear n0x n1x
        have HC := hide (HI.out w3 R1 deep hd HR.out.1.dr.cur HR.out.1.hp (Nat.le_trans hlo HR.out.1.dr.grown.size))
        go_wp2_with fail
        refine HC.out.mono ?_
        rintro e w4 ⟨z, R2, rfl, hk, hh2, hx2, hd2⟩
        have HS4 := hide (And.intro (HR.out.1.post hh2 hx2 hd2) (And.intro (HR.out.2.1.post hx2 hd2 hpb) (Nat.le_trans HR.out.2.2 hd2.grown.size)))
        clear hk hh2 hx2 hd2 HC HR g0 g1
        obtain ⟨xb, hxb⟩ : ∃ xb, Hid (xb = w4.heap.size) := ⟨_, rfl⟩
        have hxr : xb ≠ rb := by have := HS4.out.1.r.lt; have := hxb.out; omega
        have hxq : xb ≠ qb := by have := HS4.out.1.q.lt; have := hxb.out; omega
        have hxp : xb ≠ p := by have := HS4.out.1.dr.lt; have := hxb.out; omega
        have hxw : w.heap.size ≤ xb := by have := HS4.out.1.dr.grown.size; have := hxb.out; omega
        have hxn := HS4.out.1.hp.new (Nat.le_of_eq hxb.out.symm)
        have hxo := HS4.out.2.1.low
        have hm5 := Blk.made w4 [.bool false, .string ⟨#[]⟩, .int .i64 z.k, .int .i64 z.op, .bool z.ng, .int .i64 z.vk, .int .i64 z.vn, .string z.vt, .string z.qu, .string z.nm, .slice z.ka z.m z.kc, .slice z.sa z.ms z.sc, .string ⟨#[]⟩] 88
        rw [← hxb.out] at hm5 hxo
        have HS5 := hide (And.intro (HS4.out.1.alloc (.cells #[.bool false, .string ⟨#[]⟩, .int .i64 z.k, .int .i64 z.op, .bool z.ng, .int .i64 z.vk, .int .i64 z.vn, .string z.vt, .string z.qu, .string z.nm, .slice z.ka z.m z.kc, .slice z.sa z.ms z.sc, .string ⟨#[]⟩] 88)) (And.intro (HS4.out.2.1.alloc (.cells #[.bool false, .string ⟨#[]⟩, .int .i64 z.k, .int .i64 z.op, .bool z.ng, .int .i64 z.vk, .int .i64 z.vn, .string z.vt, .string z.qu, .string z.nm, .slice z.ka z.m z.kc, .slice z.sa z.ms z.sc, .string ⟨#[]⟩] 88)) (And.intro (Nat.le_trans HS4.out.2.2 (show w4.heap.size ≤ (w4.alloc (.cells #[.bool false, .string ⟨#[]⟩, .int .i64 z.k, .int .i64 z.op, .bool z.ng, .int .i64 z.vk, .int .i64 z.vn, .string z.vt, .string z.qu, .string z.nm, .slice z.ka z.m z.kc, .slice z.sa z.ms z.sc, .string ⟨#[]⟩] 88)).heap.size by simp)) hm5)))
        clear hm5 HS4
        go_wp2_with fail
        (try rw [← hxb.out])
        refine (l1OnceC HS5.out.1.dr.cur _).mono ?_
        rintro e w5 ⟨b, rfl, hc, hg⟩
        have HS6 := hide (And.intro (HS5.out.1.step ((Dr.refl HS5.out.1.dr.cur).step hc hg)) (And.intro (HS5.out.2.1.step ((Dr.refl HS5.out.1.dr.cur).step hc hg) hpb) (And.intro (Nat.le_trans HS5.out.2.2.1 hg.size) (HS5.out.2.2.2.grown hg hxp))))
        clear hc hg HS5 hxb
        cases b
        · have hbs := HS6.out.2.2.1
          have tc := HS6.out.2.2.2.cells
          have t0 := tc 0 (by first | simp | simp [Z6])
          have t1 := tc 1 (by first | simp | simp [Z6])
          have t2 := tc 2 (by first | simp | simp [Z6])
          have t3 := tc 3 (by first | simp | simp [Z6])
          have t4 := tc 4 (by first | simp | simp [Z6])
          have t5 := tc 5 (by first | simp | simp [Z6])
          have t6 := tc 6 (by first | simp | simp [Z6])
          have t7 := tc 7 (by first | simp | simp [Z6])
          have t8 := tc 8 (by first | simp | simp [Z6])
          have t9 := tc 9 (by first | simp | simp [Z6])
          have t10 := tc 10 (by first | simp | simp [Z6])
          have t11 := tc 11 (by first | simp | simp [Z6])
          have t12 := tc 12 (by first | simp | simp [Z6])
          try simp only [Z6] at t0 t1 t2 t3 t4 t5 t6 t7 t8 t9 t10 t11 t12
          simp only [Nat.zero_add, List.getElem_cons_zero, List.getElem_cons_succ] at t0 t1 t2 t3 t4 t5 t6 t7 t8 t9 t10 t11 t12
          clear tc
          have ft := HS6.out.2.2.2.free
          have oc := HS6.out.1.q.cells
          have o0 := oc 0 (by first | simp | simp [Z6])
          have o1 := oc 1 (by first | simp | simp [Z6])
          have o2 := oc 2 (by first | simp | simp [Z6])
          have o3 := oc 3 (by first | simp | simp [Z6])
          have o4 := oc 4 (by first | simp | simp [Z6])
          have o5 := oc 5 (by first | simp | simp [Z6])
          try simp only [Z6] at o0 o1 o2 o3 o4 o5
          simp only [Nat.zero_add, List.getElem_cons_zero, List.getElem_cons_succ] at o0 o1 o2 o3 o4 o5
          clear oc
          have fo := HS6.out.1.q.free
          obtain ⟨xs0, hown0⟩ := HS6.out.2.1.ex
          have hszW := HS6.out.1.dr.grown.size
          go_wp2_with (first | (at_builtin; refine wpList_append_own_at _ rfl _ _ 46 rfl base 88 iI (.agg #[.bool false, .string ⟨#[]⟩, .int .i64 0, .int .i64 0, .bool false, .int .i64 0, .int .i64 0, .string ⟨#[]⟩, .string ⟨#[]⟩, .string ⟨#[]⟩, .slice none 0 0, .slice none 0 0, .string ⟨#[]⟩]) 13 176 Try.underlying46 hiI hz0I hz1I hz2I rfl (by decide) _ _ _ rfl (hown0.alloc _) ⟨w5.heap.size, 0, none⟩ 1 1 [.bool false, .string ⟨#[]⟩, .int .i64 z.k, .int .i64 z.op, .bool z.ng, .int .i64 z.vk, .int .i64 z.vn, .string z.vt, .string z.qu, .string z.nm, .slice z.ka z.m z.kc, .slice z.sa z.ms z.sc, .string ⟨#[]⟩] rfl rfl ?c1 ?c2 ?c3 ?c4 ?c5 ?_))
          case c1 => exact news_of w5 [.bool false, .string ⟨#[]⟩, .int .i64 z.k, .int .i64 z.op, .bool z.ng, .int .i64 z.vk, .int .i64 z.vn, .string z.vt, .string z.qu, .string z.nm, .slice z.ka z.m z.kc, .slice z.sa z.ms z.sc, .string ⟨#[]⟩] _
          case c2 => exact List.all_eq_true.1 (by rfl)
          case c3 => unfold maxLen; omega
          case c4 => omega
          case c5 => simp; omega
          · intro v3 wf hown3 hgrow3 hnil3 hat3
            obtain ⟨g3, c3, rfl⟩ := owns_pos hown3 (by omega)
            obtain ⟨ha, hb, hc⟩ := QSt.app (H := w5.heap.size + 1) (HS6.out.1.alloc (.cells #[.bool false, .string ⟨#[]⟩, .int .i64 z.k, .int .i64 z.op, .bool z.ng, .int .i64 z.vk, .int .i64 z.vn, .string z.vt, .string z.qu, .string z.nm, .slice z.ka z.m z.kc, .slice z.sa z.ms z.sc, .string ⟨#[]⟩] 88)) (HS6.out.2.1.alloc (.cells #[.bool false, .string ⟨#[]⟩, .int .i64 z.k, .int .i64 z.op, .bool z.ng, .int .i64 z.vk, .int .i64 z.vn, .string z.vt, .string z.qu, .string z.nm, .slice z.ka z.m z.kc, .slice z.sa z.ms z.sc, .string ⟨#[]⟩] 88)) hrbb hqbb hbw (by simp) hown3 hgrow3 hat3 1 (by simp)
            simp only [List.set_cons_zero, List.set_cons_succ] at hb
            have HBS3 := hide (Nat.le_trans hbs (Nat.le_trans (show w5.heap.size ≤ (w5.alloc (.cells #[.bool false, .string ⟨#[]⟩, .int .i64 z.k, .int .i64 z.op, .bool z.ng, .int .i64 z.vk, .int .i64 z.vn, .string z.vt, .string z.qu, .string z.nm, .slice z.ka z.m z.kc, .slice z.sa z.ms z.sc, .string ⟨#[]⟩] 88)).heap.size by simp) hgrow3.size))
            have HA := hide ha
            have HF := hide (And.intro hb hc)
            clear ha hb hc hown3 hgrow3 hnil3 hat3 hown0 hszW
            clear o0 o1 o2 o3 o4 o5 fo t0 t1 t2 t3 t4 t5 t6 t7 t8 t9 t10 t11 t12 ft
            have oc := HA.out.q.cells
            have o0 := oc 0 (by first | simp | simp [Z6])
            have o1 := oc 1 (by first | simp | simp [Z6])
            have o2 := oc 2 (by first | simp | simp [Z6])
            have o3 := oc 3 (by first | simp | simp [Z6])
            have o4 := oc 4 (by first | simp | simp [Z6])
            have o5 := oc 5 (by first | simp | simp [Z6])
            try simp only [Z6] at o0 o1 o2 o3 o4 o5
            simp only [Nat.zero_add, List.getElem_cons_zero, List.getElem_cons_succ] at o0 o1 o2 o3 o4 o5
            clear oc
            have fo := HA.out.q.free
            go_wp2_with fail
            clear o0 o1 o2 o3 o4 o5 fo
            go_roundw
            case rel => exact ⟨i + 1, by go_num, by omega, R2, _, _, HF.out.1, HF.out.2, by simpa [World.setCell] using HBS3.out⟩
            case measure => simp [intOf]; omega
        · go_wp2_with fail
          refine (l2NameC HS6.out.1.dr.cur).mono ?_
          rintro e w6 ⟨nn, rfl, _, hd6⟩
          have HS7 := hide (And.intro (HS6.out.1.step hd6) (And.intro (HS6.out.2.1.step hd6 hpb) (And.intro (Nat.le_trans HS6.out.2.2.1 hd6.grown.size) (HS6.out.2.2.2.grown hd6.grown hxp))))
          clear hd6 HS6
          have tc := HS7.out.2.2.2.cells
          have t0 := tc 0 (by first | simp | simp [Z6])
          have t1 := tc 1 (by first | simp | simp [Z6])
          have t2 := tc 2 (by first | simp | simp [Z6])
          have t3 := tc 3 (by first | simp | simp [Z6])
          have t4 := tc 4 (by first | simp | simp [Z6])
          have t5 := tc 5 (by first | simp | simp [Z6])
          have t6 := tc 6 (by first | simp | simp [Z6])
          have t7 := tc 7 (by first | simp | simp [Z6])
          have t8 := tc 8 (by first | simp | simp [Z6])
          have t9 := tc 9 (by first | simp | simp [Z6])
          have t10 := tc 10 (by first | simp | simp [Z6])
          have t11 := tc 11 (by first | simp | simp [Z6])
          have t12 := tc 12 (by first | simp | simp [Z6])
          try simp only [Z6] at t0 t1 t2 t3 t4 t5 t6 t7 t8 t9 t10 t11 t12
          simp only [Nat.zero_add, List.getElem_cons_zero, List.getElem_cons_succ] at t0 t1 t2 t3 t4 t5 t6 t7 t8 t9 t10 t11 t12
          clear tc
          have ft := HS7.out.2.2.2.free
          go_upto_region 10 with fail
          clear t0 t1 t2 t3 t4 t5 t6 t7 t8 t9 t10 t11 t12 ft
          have HS8 := hide (And.intro (HS7.out.1.other hxw hxn hxr hxq 12 (.string nn)) (And.intro (HS7.out.2.1.far (grownBy_setCell w6 xb 12 (.string nn)) (fun k hk => by have := hxo k hk; omega)) (And.intro (show base ≤ (w6.setCell ⟨xb, 12, none⟩ (.string nn)).heap.size by simpa [World.setCell] using HS7.out.2.2.1) (HS7.out.2.2.2.set 12 (by simp) (.string nn)))))
          simp only [List.set_cons_zero, List.set_cons_succ] at HS8
          generalize w6.setCell ⟨xb, 12, none⟩ (.string nn) = w7 at HS8 ⊢
          clear HS7
          have hbs := HS8.out.2.2.1
          have tc := HS8.out.2.2.2.cells
          have t0 := tc 0 (by first | simp | simp [Z6])
          have t1 := tc 1 (by first | simp | simp [Z6])
          have t2 := tc 2 (by first | simp | simp [Z6])
          have t3 := tc 3 (by first | simp | simp [Z6])
          have t4 := tc 4 (by first | simp | simp [Z6])
          have t5 := tc 5 (by first | simp | simp [Z6])
          have t6 := tc 6 (by first | simp | simp [Z6])
          have t7 := tc 7 (by first | simp | simp [Z6])
          have t8 := tc 8 (by first | simp | simp [Z6])
          have t9 := tc 9 (by first | simp | simp [Z6])
          have t10 := tc 10 (by first | simp | simp [Z6])
          have t11 := tc 11 (by first | simp | simp [Z6])
          have t12 := tc 12 (by first | simp | simp [Z6])
          try simp only [Z6] at t0 t1 t2 t3 t4 t5 t6 t7 t8 t9 t10 t11 t12
          simp only [Nat.zero_add, List.getElem_cons_zero, List.getElem_cons_succ] at t0 t1 t2 t3 t4 t5 t6 t7 t8 t9 t10 t11 t12
          clear tc
          have ft := HS8.out.2.2.2.free
          have oc := HS8.out.1.q.cells
          have o0 := oc 0 (by first | simp | simp [Z6])
          have o1 := oc 1 (by first | simp | simp [Z6])
          have o2 := oc 2 (by first | simp | simp [Z6])
          have o3 := oc 3 (by first | simp | simp [Z6])
          have o4 := oc 4 (by first | simp | simp [Z6])
          have o5 := oc 5 (by first | simp | simp [Z6])
          try simp only [Z6] at o0 o1 o2 o3 o4 o5
          simp only [Nat.zero_add, List.getElem_cons_zero, List.getElem_cons_succ] at o0 o1 o2 o3 o4 o5
          clear oc
          have fo := HS8.out.1.q.free
          obtain ⟨xs0, hown0⟩ := HS8.out.2.1.ex
          have hszW := HS8.out.1.dr.grown.size
          go_wp2_with (first | (at_builtin; refine wpList_append_own_at _ rfl _ _ 46 rfl base 88 iI (.agg #[.bool false, .string ⟨#[]⟩, .int .i64 0, .int .i64 0, .bool false, .int .i64 0, .int .i64 0, .string ⟨#[]⟩, .string ⟨#[]⟩, .string ⟨#[]⟩, .slice none 0 0, .slice none 0 0, .string ⟨#[]⟩]) 13 176 Try.underlying46 hiI hz0I hz1I hz2I rfl (by decide) _ _ _ rfl (hown0.alloc _) ⟨w7.heap.size, 0, none⟩ 1 1 [.bool false, .string ⟨#[]⟩, .int .i64 z.k, .int .i64 z.op, .bool z.ng, .int .i64 z.vk, .int .i64 z.vn, .string z.vt, .string z.qu, .string z.nm, .slice z.ka z.m z.kc, .slice z.sa z.ms z.sc, .string nn] rfl rfl ?c1 ?c2 ?c3 ?c4 ?c5 ?_))
          case c1 => exact news_of w7 [.bool false, .string ⟨#[]⟩, .int .i64 z.k, .int .i64 z.op, .bool z.ng, .int .i64 z.vk, .int .i64 z.vn, .string z.vt, .string z.qu, .string z.nm, .slice z.ka z.m z.kc, .slice z.sa z.ms z.sc, .string nn] _
          case c2 => exact List.all_eq_true.1 (by rfl)
          case c3 => unfold maxLen; omega
          case c4 => omega
          case c5 => simp; omega
          · intro v3 wf hown3 hgrow3 hnil3 hat3
            obtain ⟨g3, c3, rfl⟩ := owns_pos hown3 (by omega)
            obtain ⟨ha, hb, hc⟩ := QSt.app (H := w7.heap.size + 1) (HS8.out.1.alloc (.cells #[.bool false, .string ⟨#[]⟩, .int .i64 z.k, .int .i64 z.op, .bool z.ng, .int .i64 z.vk, .int .i64 z.vn, .string z.vt, .string z.qu, .string z.nm, .slice z.ka z.m z.kc, .slice z.sa z.ms z.sc, .string nn] 88)) (HS8.out.2.1.alloc (.cells #[.bool false, .string ⟨#[]⟩, .int .i64 z.k, .int .i64 z.op, .bool z.ng, .int .i64 z.vk, .int .i64 z.vn, .string z.vt, .string z.qu, .string z.nm, .slice z.ka z.m z.kc, .slice z.sa z.ms z.sc, .string nn] 88)) hrbb hqbb hbw (by simp) hown3 hgrow3 hat3 1 (by simp)
            simp only [List.set_cons_zero, List.set_cons_succ] at hb
            have HBS3 := hide (Nat.le_trans hbs (Nat.le_trans (show w7.heap.size ≤ (w7.alloc (.cells #[.bool false, .string ⟨#[]⟩, .int .i64 z.k, .int .i64 z.op, .bool z.ng, .int .i64 z.vk, .int .i64 z.vn, .string z.vt, .string z.qu, .string z.nm, .slice z.ka z.m z.kc, .slice z.sa z.ms z.sc, .string nn] 88)).heap.size by simp) hgrow3.size))
            have HA := hide ha
            have HF := hide (And.intro hb hc)
            clear ha hb hc hown3 hgrow3 hnil3 hat3 hown0 hszW
            clear o0 o1 o2 o3 o4 o5 fo t0 t1 t2 t3 t4 t5 t6 t7 t8 t9 t10 t11 t12 ft
            have oc := HA.out.q.cells
            have o0 := oc 0 (by first | simp | simp [Z6])
            have o1 := oc 1 (by first | simp | simp [Z6])
            have o2 := oc 2 (by first | simp | simp [Z6])
            have o3 := oc 3 (by first | simp | simp [Z6])
            have o4 := oc 4 (by first | simp | simp [Z6])
            have o5 := oc 5 (by first | simp | simp [Z6])
            try simp only [Z6] at o0 o1 o2 o3 o4 o5
            simp only [Nat.zero_add, List.getElem_cons_zero, List.getElem_cons_succ] at o0 o1 o2 o3 o4 o5
            clear oc
            have fo := HA.out.q.free
            go_wp2_with fail
            clear o0 o1 o2 o3 o4 o5 fo
            go_roundw
            case rel => exact ⟨i + 1, by go_num, by omega, R2, _, _, HF.out.1, HF.out.2, by simpa [World.setCell] using HBS3.out⟩
            case measure => simp [intOf]; omega
    · have hlt2 : ¬ (i : Int) < 1 + (n0 : Int) := by omega
      obtain ⟨R1, ia, ic, hq, ho, hbs⟩ := HJ.out
      obtain ⟨i0, hi0⟩ : ∃ k, i = k := ⟨_, rfl⟩
      rw [hi0] at hq
      have HQ := hide (And.intro hq hbs)
      clear hi0
      clear hq ho hbs HJ
      go_wp2_with fail
      refine (l1BelowC HQ.out.1.dr.cur 2).mono ?_
      rintro e w3 ⟨y, rfl, y0, y1, hc, hg⟩
      have y2 := y1 (by omega)
      obtain ⟨n1, rfl⟩ : ∃ q : Nat, y = q := ⟨y.toNat, by omega⟩
      have HR := hide (And.intro (HQ.out.1.step ((Dr.refl HQ.out.1.dr.cur).step hc hg)) (Nat.le_trans HQ.out.2 hg.size))
      clear hc hg HQ y1
      go_wp2_with fail
      go_loopw [9] (fun u wr => ∃ i : Nat, u = .int .i64 (i : Int) ∧ i ≤ 1 + n1 ∧ Hid (∃ (R' : RM) (fa : Option Addr) (fc : Nat), QSt B p lo R R' w wr rb qb [.bool dn, .slice ia i0 ic, .slice fa i fc, .slice none 0 0, .slice none 0 0, .int .i64 (-1)] ∧ OwnV wr R' base 90 3 i (.slice fa i fc) ∧ base ≤ wr.heap.size)) (fun u _ => 1 + n1 - (intOf u).toNat)
      case atStart => exact ⟨0, rfl, by omega, R1, none, 0, HR.out.1, OwnV.nil _ _ _ _ _, HR.out.2⟩
      case round =>
        clear HR
        obtain ⟨j, rfl, hjn, HJ⟩ := hrel
        by_cases hjt : j < 1 + n1
        · have hjt2 : (j : Int) < 1 + (n1 : Int) := by omega
          obtain ⟨R2, fa, fc, hq, ho, hbs⟩ := HJ.out
          have HQ := hide (And.intro hq (And.intro ho hbs))
          clear hq ho hbs HJ
          go_wp2_with fail
          refine (pick3C HQ.out.1.dr.cur 3).mono ?_
          rintro e w4 ⟨s, rfl, hd4⟩
          have HQ0 := hide (And.intro (HQ.out.1.alloc (.cells #[.string ⟨#[116]⟩, .string ⟨#[117]⟩, .string ⟨#[118]⟩] 9)) (HQ.out.2.1.alloc (.cells #[.string ⟨#[116]⟩, .string ⟨#[117]⟩, .string ⟨#[118]⟩] 9)))
          have HS4 := hide (And.intro (HQ0.out.1.step hd4) (And.intro (HQ0.out.2.step hd4 hpb) (Nat.le_trans HQ.out.2.2 (Nat.le_trans (by simp) hd4.grown.size))))
          clear hd4 HQ0 HQ
          obtain ⟨xb, hxb⟩ : ∃ xb, Hid (xb = w4.heap.size) := ⟨_, rfl⟩
          have hxr : xb ≠ rb := by have := HS4.out.1.r.lt; have := hxb.out; omega
          have hxq : xb ≠ qb := by have := HS4.out.1.q.lt; have := hxb.out; omega
          have hxp : xb ≠ p := by have := HS4.out.1.dr.lt; have := hxb.out; omega
          have hxw : w.heap.size ≤ xb := by have := HS4.out.1.dr.grown.size; have := hxb.out; omega
          have hxn := HS4.out.1.hp.new (Nat.le_of_eq hxb.out.symm)
          have hxo := HS4.out.2.1.low
          have hm5 := Blk.made w4 [.string s, .string ⟨#[]⟩, .slice none 0 0] 90
          rw [← hxb.out] at hm5 hxo
          have HS5 := hide (And.intro (HS4.out.1.alloc (.cells #[.string s, .string ⟨#[]⟩, .slice none 0 0] 90)) (And.intro (HS4.out.2.1.alloc (.cells #[.string s, .string ⟨#[]⟩, .slice none 0 0] 90)) (And.intro (Nat.le_trans HS4.out.2.2 (show w4.heap.size ≤ (w4.alloc (.cells #[.string s, .string ⟨#[]⟩, .slice none 0 0] 90)).heap.size by simp)) hm5)))
          clear hm5 HS4
          go_wp2_with fail
          (try rw [← hxb.out])
          refine (l1OnceC HS5.out.1.dr.cur _).mono ?_
          rintro e w5 ⟨b, rfl, hc, hg⟩
          have HS6 := hide (And.intro (HS5.out.1.step ((Dr.refl HS5.out.1.dr.cur).step hc hg)) (And.intro (HS5.out.2.1.step ((Dr.refl HS5.out.1.dr.cur).step hc hg) hpb) (And.intro (Nat.le_trans HS5.out.2.2.1 hg.size) (HS5.out.2.2.2.grown hg hxp))))
          clear hc hg HS5 hxb
          go_upto_if 71 with fail
          go_cut [] (fun wx => ∃ nn : ByteArray, Hid (QSt B p lo R R2 w wx rb qb [.bool dn, .slice ia i0 ic, .slice fa j fc, .slice none 0 0, .slice none 0 0, .int .i64 (-1)] ∧ OwnV wx R2 base 90 3 j (.slice fa j fc) ∧ base ≤ wx.heap.size ∧ Blk wx xb [.string s, .string nn, .slice none 0 0]))
          case first =>
            cases b
            · go_wp2_with fail
              go_meet
              case rel => exact ⟨_, HS6.out⟩
            · go_wp2_with fail
              refine (l2NameC HS6.out.1.dr.cur).mono ?_
              rintro e w6 ⟨nn, rfl, _, hd6⟩
              have HS7 := hide (And.intro (HS6.out.1.step hd6) (And.intro (HS6.out.2.1.step hd6 hpb) (And.intro (Nat.le_trans HS6.out.2.2.1 hd6.grown.size) (HS6.out.2.2.2.grown hd6.grown hxp))))
              clear hd6 HS6
              have tc := HS7.out.2.2.2.cells
              have t0 := tc 0 (by first | simp | simp [Z6])
              have t1 := tc 1 (by first | simp | simp [Z6])
              have t2 := tc 2 (by first | simp | simp [Z6])
              try simp only [Z6] at t0 t1 t2
              simp only [Nat.zero_add, List.getElem_cons_zero, List.getElem_cons_succ] at t0 t1 t2
              clear tc
              have ft := HS7.out.2.2.2.free
              go_wp2_with fail
              go_meet
              case rel => exact ⟨nn, HS7.out.1.other hxw hxn hxr hxq 1 (.string nn), HS7.out.2.1.far (grownBy_setCell w6 xb 1 (.string nn)) (fun k hk => by have := hxo k hk; omega), (show base ≤ (w6.setCell ⟨xb, 1, none⟩ (.string nn)).heap.size by simpa [World.setCell] using HS7.out.2.2.1), by simpa using HS7.out.2.2.2.set 1 (by simp) (.string nn)⟩
          case rest =>
            obtain ⟨nn, HS8⟩ := hcut
            clear HS6
            by_cases hj0 : j = 0
            · subst hj0
              have hbs := HS8.out.2.2.1
              have tc := HS8.out.2.2.2.cells
              have t0 := tc 0 (by first | simp | simp [Z6])
              have t1 := tc 1 (by first | simp | simp [Z6])
              have t2 := tc 2 (by first | simp | simp [Z6])
              try simp only [Z6] at t0 t1 t2
              simp only [Nat.zero_add, List.getElem_cons_zero, List.getElem_cons_succ] at t0 t1 t2
              clear tc
              have ft := HS8.out.2.2.2.free
              have oc := HS8.out.1.q.cells
              have o0 := oc 0 (by first | simp | simp [Z6])
              have o1 := oc 1 (by first | simp | simp [Z6])
              have o2 := oc 2 (by first | simp | simp [Z6])
              have o3 := oc 3 (by first | simp | simp [Z6])
              have o4 := oc 4 (by first | simp | simp [Z6])
              have o5 := oc 5 (by first | simp | simp [Z6])
              try simp only [Z6] at o0 o1 o2 o3 o4 o5
              simp only [Nat.zero_add, List.getElem_cons_zero, List.getElem_cons_succ] at o0 o1 o2 o3 o4 o5
              clear oc
              have fo := HS8.out.1.q.free
              obtain ⟨xs0, hown0⟩ := HS8.out.2.1.ex
              have hszW := HS8.out.1.dr.grown.size
              go_wp2_with (first | (at_builtin; refine wpList_append_own_at _ rfl _ _ 47 rfl base 90 iS (.agg #[.string ⟨#[]⟩, .string ⟨#[]⟩, .slice none 0 0]) 3 56 Try.underlying47 hiS hz0S hz1S hz2S rfl (by decide) _ _ _ rfl (hown0.alloc _) ⟨wc.heap.size, 0, none⟩ 1 1 [.string s, .string nn, .slice none 0 0] rfl rfl ?c1 ?c2 ?c3 ?c4 ?c5 ?_))
              case c1 => exact news_of wc [.string s, .string nn, .slice none 0 0] _
              case c2 => exact List.all_eq_true.1 (by rfl)
              case c3 => unfold maxLen; omega
              case c4 => omega
              case c5 => simp; omega
              · intro v3 wf hown3 hgrow3 hnil3 hat3
                obtain ⟨g3, c3, rfl⟩ := owns_pos hown3 (by omega)
                obtain ⟨ha, hb, hc⟩ := QSt.app (H := wc.heap.size + 1) (HS8.out.1.alloc (.cells #[.string s, .string nn, .slice none 0 0] 90)) (HS8.out.2.1.alloc (.cells #[.string s, .string nn, .slice none 0 0] 90)) hrbb hqbb hbw (by simp) hown3 hgrow3 hat3 2 (by simp)
                simp only [List.set_cons_zero, List.set_cons_succ] at hb
                have HBS3 := hide (Nat.le_trans hbs (Nat.le_trans (show wc.heap.size ≤ (wc.alloc (.cells #[.string s, .string nn, .slice none 0 0] 90)).heap.size by simp) hgrow3.size))
                have HA := hide ha
                have HF := hide (And.intro hb hc)
                clear ha hb hc hown3 hgrow3 hnil3 hat3 hown0 hszW
                clear o0 o1 o2 o3 o4 o5 fo t0 t1 t2 ft
                have oc := HA.out.q.cells
                have o0 := oc 0 (by first | simp | simp [Z6])
                have o1 := oc 1 (by first | simp | simp [Z6])
                have o2 := oc 2 (by first | simp | simp [Z6])
                have o3 := oc 3 (by first | simp | simp [Z6])
                have o4 := oc 4 (by first | simp | simp [Z6])
                have o5 := oc 5 (by first | simp | simp [Z6])
                try simp only [Z6] at o0 o1 o2 o3 o4 o5
                simp only [Nat.zero_add, List.getElem_cons_zero, List.getElem_cons_succ] at o0 o1 o2 o3 o4 o5
                clear oc
                have fo := HA.out.q.free
                go_wp2_with fail
                clear o0 o1 o2 o3 o4 o5 fo
                go_roundw
                case rel => exact ⟨0 + 1, by go_num, by omega, R2, _, _, HF.out.1, HF.out.2, by simpa [World.setCell] using HBS3.out⟩
                case measure => simp [intOf]
            · have hj1 : 0 < (j : Int) := by omega
              clear hj0
              go_wp2_with fail
              refine (l1OnceC HS8.out.1.dr.cur _).mono ?_
              rintro e w6 ⟨b, rfl, hc, hg⟩
              have HS9 := hide (And.intro (HS8.out.1.step ((Dr.refl HS8.out.1.dr.cur).step hc hg)) (And.intro (HS8.out.2.1.step ((Dr.refl HS8.out.1.dr.cur).step hc hg) hpb) (And.intro (Nat.le_trans HS8.out.2.2.1 hg.size) (HS8.out.2.2.2.grown hg hxp))))
              clear hc hg HS8
              cases b
              · have hbs := HS9.out.2.2.1
                have tc := HS9.out.2.2.2.cells
                have t0 := tc 0 (by first | simp | simp [Z6])
                have t1 := tc 1 (by first | simp | simp [Z6])
                have t2 := tc 2 (by first | simp | simp [Z6])
                try simp only [Z6] at t0 t1 t2
                simp only [Nat.zero_add, List.getElem_cons_zero, List.getElem_cons_succ] at t0 t1 t2
                clear tc
                have ft := HS9.out.2.2.2.free
                have oc := HS9.out.1.q.cells
                have o0 := oc 0 (by first | simp | simp [Z6])
                have o1 := oc 1 (by first | simp | simp [Z6])
                have o2 := oc 2 (by first | simp | simp [Z6])
                have o3 := oc 3 (by first | simp | simp [Z6])
                have o4 := oc 4 (by first | simp | simp [Z6])
                have o5 := oc 5 (by first | simp | simp [Z6])
                try simp only [Z6] at o0 o1 o2 o3 o4 o5
                simp only [Nat.zero_add, List.getElem_cons_zero, List.getElem_cons_succ] at o0 o1 o2 o3 o4 o5
                clear oc
                have fo := HS9.out.1.q.free
                obtain ⟨xs0, hown0⟩ := HS9.out.2.1.ex
                have hszW := HS9.out.1.dr.grown.size
                go_wp2_with (first | (at_builtin; refine wpList_append_own_at _ rfl _ _ 47 rfl base 90 iS (.agg #[.string ⟨#[]⟩, .string ⟨#[]⟩, .slice none 0 0]) 3 56 Try.underlying47 hiS hz0S hz1S hz2S rfl (by decide) _ _ _ rfl (hown0.alloc _) ⟨w6.heap.size, 0, none⟩ 1 1 [.string s, .string nn, .slice none 0 0] rfl rfl ?c1 ?c2 ?c3 ?c4 ?c5 ?_))
                case c1 => exact news_of w6 [.string s, .string nn, .slice none 0 0] _
                case c2 => exact List.all_eq_true.1 (by rfl)
                case c3 => unfold maxLen; omega
                case c4 => omega
                case c5 => simp; omega
                · intro v3 wf hown3 hgrow3 hnil3 hat3
                  obtain ⟨g3, c3, rfl⟩ := owns_pos hown3 (by omega)
                  obtain ⟨ha, hb, hc⟩ := QSt.app (H := w6.heap.size + 1) (HS9.out.1.alloc (.cells #[.string s, .string nn, .slice none 0 0] 90)) (HS9.out.2.1.alloc (.cells #[.string s, .string nn, .slice none 0 0] 90)) hrbb hqbb hbw (by simp) hown3 hgrow3 hat3 2 (by simp)
                  simp only [List.set_cons_zero, List.set_cons_succ] at hb
                  have HBS3 := hide (Nat.le_trans hbs (Nat.le_trans (show w6.heap.size ≤ (w6.alloc (.cells #[.string s, .string nn, .slice none 0 0] 90)).heap.size by simp) hgrow3.size))
                  have HA := hide ha
                  have HF := hide (And.intro hb hc)
                  clear ha hb hc hown3 hgrow3 hnil3 hat3 hown0 hszW
                  clear o0 o1 o2 o3 o4 o5 fo t0 t1 t2 ft
                  have oc := HA.out.q.cells
                  have o0 := oc 0 (by first | simp | simp [Z6])
                  have o1 := oc 1 (by first | simp | simp [Z6])
                  have o2 := oc 2 (by first | simp | simp [Z6])
                  have o3 := oc 3 (by first | simp | simp [Z6])
                  have o4 := oc 4 (by first | simp | simp [Z6])
                  have o5 := oc 5 (by first | simp | simp [Z6])
                  try simp only [Z6] at o0 o1 o2 o3 o4 o5
                  simp only [Nat.zero_add, List.getElem_cons_zero, List.getElem_cons_succ] at o0 o1 o2 o3 o4 o5
                  clear oc
                  have fo := HA.out.q.free
                  go_wp2_with fail
                  clear o0 o1 o2 o3 o4 o5 fo
                  go_roundw
                  case rel => exact ⟨j + 1, by go_num, by omega, R2, _, _, HF.out.1, HF.out.2, by simpa [World.setCell] using HBS3.out⟩
                  case measure => simp [intOf]; omega
              · have HC := hide (HI.out w6 R2 deep hd HS9.out.1.dr.cur HS9.out.1.hp (Nat.le_trans hlo HS9.out.1.dr.grown.size))
                go_wp2_with fail
                refine HC.out.mono ?_
                rintro e w7 ⟨z, R3, rfl, hk, hh2, hx2, hd2⟩
                have HT := hide (And.intro (HS9.out.1.post hh2 hx2 hd2) (And.intro (HS9.out.2.1.post hx2 hd2 hpb) (And.intro (Nat.le_trans HS9.out.2.2.1 hd2.grown.size) (And.intro (HS9.out.2.2.2.grown hd2.grown hxp) (hx2.no xb HS9.out.2.2.2.lt hxn)))))
                clear hk hh2 hx2 hd2 HC HS9
                have hxl := HT.out.2.2.2.1.lt
                have tc := HT.out.2.2.2.1.cells
                have t0 := tc 0 (by first | simp | simp [Z6])
                have t1 := tc 1 (by first | simp | simp [Z6])
                have t2 := tc 2 (by first | simp | simp [Z6])
                try simp only [Z6] at t0 t1 t2
                simp only [Nat.zero_add, List.getElem_cons_zero, List.getElem_cons_succ] at t0 t1 t2
                clear tc
                have ft := HT.out.2.2.2.1.free
                go_upto_region 24 with fail
                clear t0 t1 t2 ft
                have HU := hide (And.intro ((HT.out.1.other hxw HT.out.2.2.2.2 hxr hxq 2 (.slice (some ⟨w7.heap.size, 0, none⟩) 1 1)).alloc (.cells #[.int .i64 z.k, .int .i64 z.op, .bool z.ng, .int .i64 z.vk, .int .i64 z.vn, .string z.vt, .string z.qu, .string z.nm, .slice z.ka z.m z.kc, .slice z.sa z.ms z.sc] 34)) (And.intro ((HT.out.2.1.far (grownBy_setCell w7 xb 2 (.slice (some ⟨w7.heap.size, 0, none⟩) 1 1)) (fun k hk => by have := hxo k hk; omega)).alloc (.cells #[.int .i64 z.k, .int .i64 z.op, .bool z.ng, .int .i64 z.vk, .int .i64 z.vn, .string z.vt, .string z.qu, .string z.nm, .slice z.ka z.m z.kc, .slice z.sa z.ms z.sc] 34)) (And.intro (show base ≤ ((w7.setCell ⟨xb, 2, none⟩ (.slice (some ⟨w7.heap.size, 0, none⟩) 1 1)).alloc (.cells #[.int .i64 z.k, .int .i64 z.op, .bool z.ng, .int .i64 z.vk, .int .i64 z.vn, .string z.vt, .string z.qu, .string z.nm, .slice z.ka z.m z.kc, .slice z.sa z.ms z.sc] 34)).heap.size by have := HT.out.2.2.1; simp [World.setCell]; omega) ((HT.out.2.2.2.1.set 2 (by simp) (.slice (some ⟨w7.heap.size, 0, none⟩) 1 1)).alloc (.cells #[.int .i64 z.k, .int .i64 z.op, .bool z.ng, .int .i64 z.vk, .int .i64 z.vn, .string z.vt, .string z.qu, .string z.nm, .slice z.ka z.m z.kc, .slice z.sa z.ms z.sc] 34)))))
                simp only [List.set_cons_zero, List.set_cons_succ] at HU
                generalize (w7.setCell ⟨xb, 2, none⟩ (.slice (some ⟨w7.heap.size, 0, none⟩) 1 1)).alloc (.cells #[.int .i64 z.k, .int .i64 z.op, .bool z.ng, .int .i64 z.vk, .int .i64 z.vn, .string z.vt, .string z.qu, .string z.nm, .slice z.ka z.m z.kc, .slice z.sa z.ms z.sc] 34) = w8 at HU ⊢
                clear HT hxl
                generalize w7.heap.size = zb at HU ⊢
                have hbs := HU.out.2.2.1
                have tc := HU.out.2.2.2.cells
                have t0 := tc 0 (by first | simp | simp [Z6])
                have t1 := tc 1 (by first | simp | simp [Z6])
                have t2 := tc 2 (by first | simp | simp [Z6])
                try simp only [Z6] at t0 t1 t2
                simp only [Nat.zero_add, List.getElem_cons_zero, List.getElem_cons_succ] at t0 t1 t2
                clear tc
                have ft := HU.out.2.2.2.free
                have oc := HU.out.1.q.cells
                have o0 := oc 0 (by first | simp | simp [Z6])
                have o1 := oc 1 (by first | simp | simp [Z6])
                have o2 := oc 2 (by first | simp | simp [Z6])
                have o3 := oc 3 (by first | simp | simp [Z6])
                have o4 := oc 4 (by first | simp | simp [Z6])
                have o5 := oc 5 (by first | simp | simp [Z6])
                try simp only [Z6] at o0 o1 o2 o3 o4 o5
                simp only [Nat.zero_add, List.getElem_cons_zero, List.getElem_cons_succ] at o0 o1 o2 o3 o4 o5
                clear oc
                have fo := HU.out.1.q.free
                obtain ⟨xs0, hown0⟩ := HU.out.2.1.ex
                have hszW := HU.out.1.dr.grown.size
                go_wp2_with (first | (at_builtin; refine wpList_append_own_at _ rfl _ _ 47 rfl base 90 iS (.agg #[.string ⟨#[]⟩, .string ⟨#[]⟩, .slice none 0 0]) 3 56 Try.underlying47 hiS hz0S hz1S hz2S rfl (by decide) _ _ _ rfl (hown0.alloc _) ⟨w8.heap.size, 0, none⟩ 1 1 [.string s, .string nn, .slice (some ⟨zb, 0, none⟩) 1 1] rfl rfl ?c1 ?c2 ?c3 ?c4 ?c5 ?_))
                case c1 => exact news_of w8 [.string s, .string nn, .slice (some ⟨zb, 0, none⟩) 1 1] _
                case c2 => exact List.all_eq_true.1 (by rfl)
                case c3 => unfold maxLen; omega
                case c4 => omega
                case c5 => simp; omega
                · intro v3 wf hown3 hgrow3 hnil3 hat3
                  obtain ⟨g3, c3, rfl⟩ := owns_pos hown3 (by omega)
                  obtain ⟨ha, hb, hc⟩ := QSt.app (H := w8.heap.size + 1) (HU.out.1.alloc (.cells #[.string s, .string nn, .slice (some ⟨zb, 0, none⟩) 1 1] 90)) (HU.out.2.1.alloc (.cells #[.string s, .string nn, .slice (some ⟨zb, 0, none⟩) 1 1] 90)) hrbb hqbb hbw (by simp) hown3 hgrow3 hat3 2 (by simp)
                  simp only [List.set_cons_zero, List.set_cons_succ] at hb
                  have HBS3 := hide (Nat.le_trans hbs (Nat.le_trans (show w8.heap.size ≤ (w8.alloc (.cells #[.string s, .string nn, .slice (some ⟨zb, 0, none⟩) 1 1] 90)).heap.size by simp) hgrow3.size))
                  have HA := hide ha
                  have HF := hide (And.intro hb hc)
                  clear ha hb hc hown3 hgrow3 hnil3 hat3 hown0 hszW
                  clear o0 o1 o2 o3 o4 o5 fo t0 t1 t2 ft
                  have oc := HA.out.q.cells
                  have o0 := oc 0 (by first | simp | simp [Z6])
                  have o1 := oc 1 (by first | simp | simp [Z6])
                  have o2 := oc 2 (by first | simp | simp [Z6])
                  have o3 := oc 3 (by first | simp | simp [Z6])
                  have o4 := oc 4 (by first | simp | simp [Z6])
                  have o5 := oc 5 (by first | simp | simp [Z6])
                  try simp only [Z6] at o0 o1 o2 o3 o4 o5
                  simp only [Nat.zero_add, List.getElem_cons_zero, List.getElem_cons_succ] at o0 o1 o2 o3 o4 o5
                  clear oc
                  have fo := HA.out.q.free
                  go_wp2_with fail
                  clear o0 o1 o2 o3 o4 o5 fo
                  go_roundw
                  case rel => exact ⟨j + 1, by go_num, by omega, R3, _, _, HF.out.1, HF.out.2, by simpa [World.setCell] using HBS3.out⟩
                  case measure => simp [intOf]; omega
        · have hjt2 : ¬ (j : Int) < 1 + (n1 : Int) := by omega
          obtain ⟨R2, fa, fc, hq, _, _⟩ := HJ.out
          obtain ⟨j0, hj0⟩ : ∃ k, j = k := ⟨_, rfl⟩
          rw [hj0] at hq
          have HQ := hide hq
          clear hq HJ hj0
          go_wp2_with fail
          refine (l1OnceC HQ.out.dr.cur _).mono ?_
          rintro e w4 ⟨b, rfl, hc, hg⟩
          have HA0 := hide (HQ.out.step ((Dr.refl HQ.out.dr.cur).step hc hg))
          clear hc hg HQ
          go_upto_if 93 with fail
          go_cut [] (fun wx => ∃ (R' : RM) (qa : Option Addr) (qm qc : Nat), Hid (QSt B p lo R R' w wx rb qb [.bool dn, .slice ia i0 ic, .slice fa j0 fc, .slice qa qm qc, .slice none 0 0, .int .i64 (-1)]))
          case first =>
            cases b
            · go_wp2_with fail
              go_meet
              case rel => exact ⟨R2, none, 0, 0, HA0.out⟩
            · have HC := hide (HI.out w4 R2 deep hd HA0.out.dr.cur HA0.out.hp (Nat.le_trans hlo HA0.out.dr.grown.size))
              go_wp2_with fail
              refine HC.out.mono ?_
              rintro e w5 ⟨z, R3, rfl, hk, hh2, hx2, hd2⟩
              have HT := hide (HA0.out.post hh2 hx2 hd2)
              clear hk hh2 hx2 hd2 HC HA0
              have hql := HT.out.q.lt
              have oc := HT.out.q.cells
              have o0 := oc 0 (by first | simp | simp [Z6])
              have o1 := oc 1 (by first | simp | simp [Z6])
              have o2 := oc 2 (by first | simp | simp [Z6])
              have o3 := oc 3 (by first | simp | simp [Z6])
              have o4 := oc 4 (by first | simp | simp [Z6])
              have o5 := oc 5 (by first | simp | simp [Z6])
              try simp only [Z6] at o0 o1 o2 o3 o4 o5
              simp only [Nat.zero_add, List.getElem_cons_zero, List.getElem_cons_succ] at o0 o1 o2 o3 o4 o5
              clear oc
              have fo := HT.out.q.free
              go_wp2_with fail
              go_meet
              case rel => exact ⟨R3, some ⟨w5.heap.size, 0, none⟩, 1, 1, hide (by simpa using (HT.out.set 3 (by simp) (.slice (some ⟨w5.heap.size, 0, none⟩) 1 1)).alloc (.cells #[.int .i64 z.k, .int .i64 z.op, .bool z.ng, .int .i64 z.vk, .int .i64 z.vn, .string z.vt, .string z.qu, .string z.nm, .slice z.ka z.m z.kc, .slice z.sa z.ms z.sc] 34))⟩
          case rest =>
            obtain ⟨R3, qa, qm, qc, HA1⟩ := hcut
            clear HA0
            go_wp2_with fail
            refine (l1OnceC HA1.out.dr.cur _).mono ?_
            rintro e w4 ⟨b, rfl, hc, hg⟩
            have HA2 := hide (HA1.out.step ((Dr.refl HA1.out.dr.cur).step hc hg))
            clear hc hg HA1
            go_upto_if 100 with fail
            go_cut [] (fun wx => ∃ (R' : RM) (oa : Option Addr) (om oc : Nat), Hid (QSt B p lo R R' w wx rb qb [.bool dn, .slice ia i0 ic, .slice fa j0 fc, .slice qa qm qc, .slice oa om oc, .int .i64 (-1)]))
            case first =>
              cases b
              · go_wp2_with fail
                go_meet
                case rel => exact ⟨R3, none, 0, 0, HA2.out⟩
              · have HC := hide (HI.out w4.drew R3 deep hd HA2.out.drew.dr.cur HA2.out.drew.hp (Nat.le_trans hlo HA2.out.drew.dr.grown.size))
                have hql := HA2.out.q.lt
                have hbq := hbase.out
                have oc := HA2.out.q.cells
                have o0 := oc 0 (by first | simp | simp [Z6])
                have o1 := oc 1 (by first | simp | simp [Z6])
                have o2 := oc 2 (by first | simp | simp [Z6])
                have o3 := oc 3 (by first | simp | simp [Z6])
                have o4 := oc 4 (by first | simp | simp [Z6])
                have o5 := oc 5 (by first | simp | simp [Z6])
                try simp only [Z6] at o0 o1 o2 o3 o4 o5
                simp only [Nat.zero_add, List.getElem_cons_zero, List.getElem_cons_succ] at o0 o1 o2 o3 o4 o5
                clear oc
                have fo := HA2.out.q.free
                go_wp2_with fail
                go_region_law (first
                  | (refine step_append_lies _ (by rfl) _ _ _ (by rfl) base 92 iK _ 11 144 Try.underlying48 hiK hz0K hz1K hz2K rfl (by decide) (.slice none 0 0) 0 [] (by rfl) (World.ownsRow_nil _ _ _ _) ⟨w8.heap.size, 0, none⟩ 1 1 [.int .i64 z.k, .int .i64 z.op, .bool z.ng, .int .i64 z.vk, .int .i64 z.vn, .string z.vt, .string z.qu, .string z.nm, .slice z.ka z.m z.kc, .slice z.sa z.ms z.sc, .bool b8] (by rfl) (by rfl) (news_of w8 [.int .i64 z.k, .int .i64 z.op, .bool z.ng, .int .i64 z.vk, .int .i64 z.vn, .string z.vt, .string z.qu, .string z.nm, .slice z.ka z.m z.kc, .slice z.sa z.ms z.sc, .bool b8] _) (List.all_eq_true.1 (by rfl)) (by omega) (by unfold maxLen; omega) (by omega) (by simp; omega) (w8.heap.size + 1) (by simp) ?_
                     intro g3 c3 wf hown3 hgrow3 hat3 hlt3
                     have hat4 : (Value.slice (some ⟨g3, 0, none⟩) (0 + 1) c3).ownBlock = (Value.slice none 0 0).ownBlock ∨ (Value.slice (some ⟨g3, 0, none⟩) (0 + 1) c3).ownBlock = some (w8.heap.size + 1) := hat3.elim (fun e => .inl e.symm) (fun e => .inr (congrArg some e))
                     have hA := QSt.app (H := w8.heap.size + 1) (HU.out.alloc (.cells #[.int .i64 z.k, .int .i64 z.op, .bool z.ng, .int .i64 z.vk, .int .i64 z.vn, .string z.vt, .string z.qu, .string z.nm, .slice z.ka z.m z.kc, .slice z.sa z.ms z.sc, .bool b8] 92)) (OwnV.nil _ R4 base 92 11) hrbb hqbb hbw (by simp) hown3 hgrow3 hat4 4 (by simp)
                     have HF := hide hA.2.1
                     have hkf : wf.cell? ⟨qb, 4, none⟩ = some (.slice none 0 0) := by simpa using hA.1.q.cells 4 (by simp)
                     have hff := hA.1.q.free
                     clear hA hown3 hgrow3 hat3 hat4)
                  | (go_simp
                     go_at_call 87
                     refine HC.out.mono ?_
                     rintro e w7 ⟨z, R4, rfl, hk, hh2, hx2, hd2⟩
                     have HT := hide (HA2.out.drew.post hh2 hx2 hd2)
                     have hk7 : w7.cell? ⟨qb, 4, none⟩ = some (.slice none 0 0) := by simpa using HT.out.q.cells 4 (by simp)
                     clear hk hh2 hx2 hd2)
                  | (go_simp
                     go_at_call 85
                     refine (l1OnceC HT.out.dr.cur _).mono ?_
                     rintro e w8 ⟨b8, rfl, hc8, hg8⟩
                     have HU := hide (HT.out.step ((Dr.refl HT.out.dr.cur).step hc8 hg8))
                     have hk8 : w8.cell? ⟨qb, 4, none⟩ = some (.slice none 0 0) := by simpa using HU.out.q.cells 4 (by simp)
                     have hl8 := HU.out.q.lt
                     clear hc8 hg8))
                all_goals
                  clear o0 o1 o2 o3 o4 o5 fo
                  go_wp2_with fail
                  go_meet
                  case rel => exact ⟨R4, some ⟨g3, 0, none⟩, 0 + 1, c3, hide (by simpa using HF.out)⟩
            case rest =>
              obtain ⟨R4, oa, om, oc, HA3⟩ := hcut
              clear HA2
              go_wp2_with fail
              refine (l1OnceC HA3.out.dr.cur _).mono ?_
              rintro e w4 ⟨b, rfl, hc, hg⟩
              have HA4 := hide (HA3.out.step ((Dr.refl HA3.out.dr.cur).step hc hg))
              clear hc hg HA3
              go_upto_if 113 with fail
              go_cut [] (fun wx => ∃ (lim : Int), Hid (QSt B p lo R R4 w wx rb qb [.bool dn, .slice ia i0 ic, .slice fa j0 fc, .slice qa qm qc, .slice oa om oc, .int .i64 lim]))
              case first =>
                cases b
                · go_wp2_with fail
                  go_meet
                  case rel => exact ⟨-1, HA4.out⟩
                · have hql := HA4.out.q.lt
                  go_wp2_with fail
                  refine (pickI4C HA4.out.dr.cur 4).mono ?_
                  rintro e w5 ⟨y, rfl, hd5⟩
                  have HA5 := hide ((HA4.out.alloc (.cells #[.int .i64 0, .int .i64 1, .int .i64 2, .int .i64 9223372036854775807] 3)).step hd5)
                  clear hd5
                  have oc := HA5.out.q.cells
                  have o0 := oc 0 (by first | simp | simp [Z6])
                  have o1 := oc 1 (by first | simp | simp [Z6])
                  have o2 := oc 2 (by first | simp | simp [Z6])
                  have o3 := oc 3 (by first | simp | simp [Z6])
                  have o4 := oc 4 (by first | simp | simp [Z6])
                  have o5 := oc 5 (by first | simp | simp [Z6])
                  try simp only [Z6] at o0 o1 o2 o3 o4 o5
                  simp only [Nat.zero_add, List.getElem_cons_zero, List.getElem_cons_succ] at o0 o1 o2 o3 o4 o5
                  clear oc
                  have fo := HA5.out.q.free
                  go_wp2_with fail
                  go_meet
                  case rel => exact ⟨y, hide (by simpa using HA5.out.set 5 (by simp) (.int .i64 y))⟩
              case rest =>
                obtain ⟨lim, HA6⟩ := hcut
                clear HA4
                have oc := HA6.out.q.cells
                have o0 := oc 0 (by first | simp | simp [Z6])
                have o1 := oc 1 (by first | simp | simp [Z6])
                have o2 := oc 2 (by first | simp | simp [Z6])
                have o3 := oc 3 (by first | simp | simp [Z6])
                have o4 := oc 4 (by first | simp | simp [Z6])
                have o5 := oc 5 (by first | simp | simp [Z6])
                try simp only [Z6] at o0 o1 o2 o3 o4 o5
                simp only [Nat.zero_add, List.getElem_cons_zero, List.getElem_cons_succ] at o0 o1 o2 o3 o4 o5
                clear oc
                have fo := HA6.out.q.free
                have rc := HA6.out.r.cells
                have r0 := rc 0 (by first | simp | simp [Z6])
                have r1 := rc 1 (by first | simp | simp [Z6])
                have r2 := rc 2 (by first | simp | simp [Z6])
                have r3 := rc 3 (by first | simp | simp [Z6])
                have r4 := rc 4 (by first | simp | simp [Z6])
                have r5 := rc 5 (by first | simp | simp [Z6])
                try simp only [Z6] at r0 r1 r2 r3 r4 r5
                simp only [Nat.zero_add, List.getElem_cons_zero, List.getElem_cons_succ] at r0 r1 r2 r3 r4 r5
                clear rc
                have fr := HA6.out.r.free
                go_wp2_with fail
                ((try simp only [Exit.inBlock, Exit.then]); refine bodyPost_ret (by simp [results, Try.results94, go_sem]; go_simp; rfl) rfl ?_)
                have h9 := HA6.out
                exact ⟨dn, ia, _, ic, fa, _, fc, qa, qm, qc, oa, om, oc, lim, R4, rfl, h9.hp.sets h9.nr 0 [.bool dn, .slice ia i0 ic, .slice fa j0 fc, .slice qa qm qc, .slice oa om oc, .int .i64 lim], h9.ext, h9.dr.sets hp hrw 0 [.bool dn, .slice ia i0 ic, .slice fa j0 fc, .slice qa qm qc, .slice oa om oc, .int .i64 lim]⟩
end Go.Proofs.Ytfpoakdmclekoaa
