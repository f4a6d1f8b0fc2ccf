/-
  l7Value, l7Col, l7Deep: leaves and a deep tree drawn.
-/
import Derived.Test.YtfpoakdmclekoaaHp
import Derived.Test.YtfpoakdmclekoaaDrNm
namespace Go.Proofs.Ytfpoakdmclekoaa
open Go Go.RowKit Go.Lib

theorem Blk.grown {w w' : World} {b p : Nat} {l : List Value} (h : Blk w b l) (hg : w.grownBy w' (some p)) (hne : b ≠ p) : Blk w' b l := h.stays hg.size (hg.block b h.lt (by intro e; injection e with e; exact hne e))
theorem Blk.sets {w : World} {b g : Nat} {l : List Value} (h : Blk w b l) (hne : b ≠ g) (o : Nat) (vs : List Value) : Blk (w.setCells g o vs) b l :=
  h.stays (Nat.le_of_eq (size_sets _ _).symm) (heap_sets _ _ hne)
theorem Dr.sets {B p : Nat} {w a : World} (h : Dr B p w a) (hp : p < w.heap.size) {b : Nat} (hb : w.heap.size ≤ b) (o : Nat) (vs : List Value) : Dr B p w (a.setCells b o vs) := by
  induction vs generalizing a o with
  | nil => exact h
  | cons v r ih => exact ih (h.set hp hb o v) (o + 1)
theorem Hp.sets {w : World} {lo : Nat} {R : RM} {b : Bool} (h : Hp w lo R b) {g : Nat} (hg : R g = none) (o : Nat) (vs : List Value) : Hp (w.setCells g o vs) lo R b :=
  h.grown (grown_sets g o vs) fun k hk => by injection hk with hk; subst hk; exact hg
theorem Hp.alloc {w : World} {lo : Nat} {R : RM} {b : Bool} (h : Hp w lo R b) (o : Obj) : Hp (w.alloc o) lo R b := h.below ((Below.refl _ _).alloc (Nat.le_refl _) _)
theorem Blk.put {w : World} {b : Nat} {l : List Value} (h : Blk w b l) (l' : List Value) (hl : l'.length = l.length) : Blk (w.setCells b 0 l') b l' := by
  have hr : Room w b l.length := ⟨h.lt, fun i hi => ⟨_, by have := h.cells i hi; rwa [Nat.zero_add] at this⟩, h.free⟩
  exact ⟨(hr.sets 0 l').lt, hr.at_in 0 l' (by omega), (hr.sets 0 l').free⟩
theorem Blk.room {w : World} {b : Nat} {l : List Value} (h : Blk w b l) : Room w b l.length := ⟨h.lt, fun i hi => ⟨_, by have := h.cells i hi; rwa [Nat.zero_add] at this⟩, h.free⟩

/-- What a drawing function of expressions leaves. -/
def ExprPost (B p lo : Nat) (R : RM) (r : Nat) (w : World) (e : Ending) (w' : World) : Prop :=
  ∃ (x : EK) (R' : RM), e = .returned (.agg #[.int .i64 x.k, .int .i64 x.op, .bool x.ng, .int .i64 x.vk, .int .i64 x.vn, .string x.vt, .string x.qu, .string x.nm, .slice x.ka x.m x.kc, .slice x.sa x.ms x.sc]) ∧ KidOk R' true r x ∧ Hp w' lo R' true ∧ Ext w.heap.size R R' ∧ Dr B p w w'

set_option maxRecDepth 100000 in
set_option maxHeartbeats 1600000 in
theorem l7ValueC {B p : Nat} {w : World} (h : Cur B w p) : Calls Try.prog 92 #[.pointer (some ⟨p, 0, none⟩)] w fun e w' => ∃ (k n : Int) (s : ByteArray), e = .returned (.agg #[.int .i64 k, .int .i64 n, .string s]) ∧ Dr B p w w' := by
  have hp := h.lt
  go_enter Try.func92, Try.ntmps92
  go_wp2_with fail
  refine (l5RightC (h.alloc' _)).mono ?_
  rintro e w1 ⟨k, n, s, rfl, _, _, _, _, _, hd⟩
  have hr := (C3.made w _ _ _ _).grown hd.grown (by omega)
  obtain ⟨rb, hrb⟩ : ∃ rb, Hid (rb = w.heap.size) := ⟨_, rfl⟩
  have h01 := hd.grown.size
  have hrv : rb < w1.heap.size := by rw [hrb.out]; simp at h01; omega
  have hrw := hrb.out.symm
  rw [← hrb.out] at hr ⊢
  have H1 := hide (And.intro hr (((Dr.refl h).alloc _).trans hd))
  clear hd hr h01
  by_cases hk : k = 1
  · subst hk
    by_cases hn : n < 0
    · obtain ⟨rs, ⟨r0, r1, r2⟩, ⟨rf0, rf1, rf2⟩⟩ := H1.out.1
      go_wp2_with fail
      ((try simp only [Exit.inBlock, Exit.then]); refine bodyPost_ret (by simp [results, Try.results92, go_sem]; go_simp; rfl) rfl ?_)
      exact ⟨_, _, _, rfl, (H1.out.2.set3 hp (Nat.le_of_eq hrw) _ _ _).alloc _⟩
    · obtain ⟨rs, ⟨r0, r1, r2⟩, ⟨rf0, rf1, rf2⟩⟩ := H1.out.1
      go_wp2_with fail
      ((try simp only [Exit.inBlock, Exit.then]); refine bodyPost_ret (by simp [results, Try.results92, go_sem]; go_simp; rfl) rfl ?_)
      exact ⟨_, _, _, rfl, (H1.out.2.set3 hp (Nat.le_of_eq hrw) _ _ _).alloc _⟩
  · have hk2 : (k == 1) = false := by simpa using hk
    obtain ⟨rs, ⟨r0, r1, r2⟩, ⟨rf0, rf1, rf2⟩⟩ := H1.out.1
    go_wp2_with fail
    ((try simp only [Exit.inBlock, Exit.then]); refine bodyPost_ret (by simp [results, Try.results92, go_sem]; go_simp; rfl) rfl ?_)
    exact ⟨_, _, _, rfl, (H1.out.2.set3 hp (Nat.le_of_eq hrw) _ _ _).alloc _⟩

def colL : List ByteArray := [⟨#[97]⟩, ⟨#[98]⟩, ⟨#[99]⟩, ⟨#[105, 100]⟩, ⟨#[110, 97, 109, 101]⟩]
def tabL : List ByteArray := [⟨#[116]⟩, ⟨#[117]⟩, ⟨#[118]⟩]
set_option maxRecDepth 100000 in
set_option maxHeartbeats 1600000 in
theorem l7ColC {B p : Nat} {w : World} (h : Cur B w p) : Calls Try.prog 91 #[.pointer (some ⟨p, 0, none⟩)] w fun e w' => ∃ (qu nm : ByteArray), e = .returned (.agg #[.int .i64 2, .int .i64 0, .bool false, .int .i64 0, .int .i64 0, .string ⟨#[]⟩, .string qu, .string nm, .slice none 0 0, .slice none 0 0]) ∧ Dr B p w w' := by
  have hp := h.lt
  obtain ⟨rb, hrb⟩ : ∃ rb, Hid (rb = w.heap.size) := ⟨_, rfl⟩
  have hr0 := Blk.made w [.int .i64 0, .int .i64 0, .bool false, .int .i64 0, .int .i64 0, .string ⟨#[]⟩, .string ⟨#[]⟩, .string ⟨#[]⟩, .slice none 0 0, .slice none 0 0] 34
  have hd0 := (Dr.refl h).alloc (.cells #[.int .i64 0, .int .i64 0, .bool false, .int .i64 0, .int .i64 0, .string ⟨#[]⟩, .string ⟨#[]⟩, .string ⟨#[]⟩, .slice none 0 0, .slice none 0 0] 34)
  have H0 := hide (And.intro hd0 hr0)
  rw [← hrb.out] at H0
  have hrp : rb ≠ p := by have := hrb.out; omega
  have hrw : w.heap.size ≤ rb := by have := hrb.out; omega
  clear hd0 hr0
  go_enter Try.func91, Try.ntmps91
  go_wp2_with fail
  refine (l1PickC (f := fun j => colL.getD j ⟨#[]⟩) (n := 5) (H0.out.1.cur.alloc' _) (by omega) (by omega) (by have := H0.out.1.lt; omega) ?_).mono ?_
  · intro j hj
    match j, hj with
    | 0, _ => simp [go_sem]; rfl
    | 1, _ => simp [go_sem]; rfl
    | 2, _ => simp [go_sem]; rfl
    | 3, _ => simp [go_sem]; rfl
    | 4, _ => simp [go_sem]; rfl
  rintro e w1 ⟨j, hj, rfl, hc, hg⟩
  (try rw [← hrb.out])
  generalize colL.getD j ⟨#[]⟩ = nm
  obtain ⟨eb, heb⟩ : ∃ eb, Hid (eb = w1.heap.size) := ⟨_, rfl⟩
  have hd1 := (H0.out.1.alloc _).step hc hg
  have hbr := (H0.out.2.alloc _).grown hg hrp
  have hsz := hd1.grown.size
  have H1 := hide (And.intro (hd1.alloc (.cells #[.int .i64 2, .int .i64 0, .bool false, .int .i64 0, .int .i64 0, .string ⟨#[]⟩, .string ⟨#[]⟩, .string nm, .slice none 0 0, .slice none 0 0] 34)) (And.intro (hbr.alloc (.cells #[.int .i64 2, .int .i64 0, .bool false, .int .i64 0, .int .i64 0, .string ⟨#[]⟩, .string ⟨#[]⟩, .string nm, .slice none 0 0, .slice none 0 0] 34)) (Blk.made w1 [.int .i64 2, .int .i64 0, .bool false, .int .i64 0, .int .i64 0, .string ⟨#[]⟩, .string ⟨#[]⟩, .string nm, .slice none 0 0, .slice none 0 0] 34)))
  rw [← heb.out] at H1
  have hep : eb ≠ p := by have := heb.out; have := hd1.lt; omega
  have hew : w.heap.size ≤ eb := by have := heb.out; omega
  have hre : rb ≠ eb := by have := heb.out; have := hbr.lt; omega
  clear hc hg hd1 hbr hsz
  go_wp2_with fail
  (try rw [← heb.out])
  refine (l1OnceC H1.out.1.cur _).mono ?_
  rintro e w2 ⟨b, rfl, hc, hg⟩
  have H2 := hide (And.intro (H1.out.1.step hc hg) (And.intro (H1.out.2.1.grown hg hrp) (H1.out.2.2.grown hg hep)))
  clear hc hg
  cases b
  · go_wp2_with fail
    refine (l1OnceC H2.out.1.cur _).mono ?_
    rintro e w4 ⟨b, rfl, hc, hg⟩
    have H4 := hide (And.intro (H2.out.1.step hc hg) (And.intro (H2.out.2.1.grown hg hrp) (H2.out.2.2.grown hg hep)))
    clear hc hg
    cases b
    · skip
      have rc := H4.out.2.1.cells
      have r0 := rc 0 (by simp)
      have r1 := rc 1 (by simp)
      have r2 := rc 2 (by simp)
      have r3 := rc 3 (by simp)
      have r4 := rc 4 (by simp)
      have r5 := rc 5 (by simp)
      have r6 := rc 6 (by simp)
      have r7 := rc 7 (by simp)
      have r8 := rc 8 (by simp)
      have r9 := rc 9 (by simp)
      simp only [Nat.zero_add, List.getElem_cons_zero, List.getElem_cons_succ] at r0 r1 r2 r3 r4 r5 r6 r7 r8 r9
      clear rc
      have fr := H4.out.2.1.free
      have oc := H4.out.2.2.cells
      have o0 := oc 0 (by simp)
      have o1 := oc 1 (by simp)
      have o2 := oc 2 (by simp)
      have o3 := oc 3 (by simp)
      have o4 := oc 4 (by simp)
      have o5 := oc 5 (by simp)
      have o6 := oc 6 (by simp)
      have o7 := oc 7 (by simp)
      have o8 := oc 8 (by simp)
      have o9 := oc 9 (by simp)
      simp only [Nat.zero_add, List.getElem_cons_zero, List.getElem_cons_succ] at o0 o1 o2 o3 o4 o5 o6 o7 o8 o9
      clear oc
      have fo := H4.out.2.2.free
      go_wp2_with fail
      ((try simp only [Exit.inBlock, Exit.then]); refine bodyPost_ret (by simp [results, Try.results91, go_sem]; go_simp; rfl) rfl ?_)
      exact ⟨_, _, rfl, Dr.sets H4.out.1 hp hrw 0 [.int .i64 2, .int .i64 0, .bool false, .int .i64 0, .int .i64 0, .string ⟨#[]⟩, .string ⟨#[]⟩, .string nm, .slice none 0 0, .slice none 0 0]⟩
    · go_wp2_with fail
      refine (l2NameC H4.out.1.cur).mono ?_
      rintro e w5 ⟨nn, rfl, _, hd⟩
      have H5 := hide (And.intro (H4.out.1.trans hd) (And.intro (H4.out.2.1.grown hd.grown hrp) (H4.out.2.2.grown hd.grown hep)))
      clear hd
      have rc := H5.out.2.1.cells
      have r0 := rc 0 (by simp)
      have r1 := rc 1 (by simp)
      have r2 := rc 2 (by simp)
      have r3 := rc 3 (by simp)
      have r4 := rc 4 (by simp)
      have r5 := rc 5 (by simp)
      have r6 := rc 6 (by simp)
      have r7 := rc 7 (by simp)
      have r8 := rc 8 (by simp)
      have r9 := rc 9 (by simp)
      simp only [Nat.zero_add, List.getElem_cons_zero, List.getElem_cons_succ] at r0 r1 r2 r3 r4 r5 r6 r7 r8 r9
      clear rc
      have fr := H5.out.2.1.free
      have oc := H5.out.2.2.cells
      have o0 := oc 0 (by simp)
      have o1 := oc 1 (by simp)
      have o2 := oc 2 (by simp)
      have o3 := oc 3 (by simp)
      have o4 := oc 4 (by simp)
      have o5 := oc 5 (by simp)
      have o6 := oc 6 (by simp)
      have o7 := oc 7 (by simp)
      have o8 := oc 8 (by simp)
      have o9 := oc 9 (by simp)
      simp only [Nat.zero_add, List.getElem_cons_zero, List.getElem_cons_succ] at o0 o1 o2 o3 o4 o5 o6 o7 o8 o9
      clear oc
      have fo := H5.out.2.2.free
      go_wp2_with fail
      ((try simp only [Exit.inBlock, Exit.then]); refine bodyPost_ret (by simp [results, Try.results91, go_sem]; go_simp; rfl) rfl ?_)
      exact ⟨_, _, rfl, Dr.sets (H5.out.1.set hp hew 7 (.string nn)) hp hrw 0 [.int .i64 2, .int .i64 0, .bool false, .int .i64 0, .int .i64 0, .string ⟨#[]⟩, .string ⟨#[]⟩, .string nn, .slice none 0 0, .slice none 0 0]⟩
  · go_wp2_with fail
    refine (l1PickC (f := fun j => tabL.getD j ⟨#[]⟩) (n := 3) (H2.out.1.cur.alloc' _) (by omega) (by omega) (by have := H2.out.1.lt; omega) ?_).mono ?_
    · intro j hj
      match j, hj with
      | 0, _ => simp [go_sem]; rfl
      | 1, _ => simp [go_sem]; rfl
      | 2, _ => simp [go_sem]; rfl
    rintro e w3 ⟨j, hj, rfl, hc, hg⟩
    generalize tabL.getD j ⟨#[]⟩ = qu
    have H3 := hide (And.intro ((H2.out.1.alloc _).step hc hg) (And.intro ((H2.out.2.1.alloc _).grown hg hrp) ((H2.out.2.2.alloc _).grown hg hep)))
    clear hc hg
    have oc := H3.out.2.2.cells
    have o0 := oc 0 (by simp)
    have o1 := oc 1 (by simp)
    have o2 := oc 2 (by simp)
    have o3 := oc 3 (by simp)
    have o4 := oc 4 (by simp)
    have o5 := oc 5 (by simp)
    have o6 := oc 6 (by simp)
    have o7 := oc 7 (by simp)
    have o8 := oc 8 (by simp)
    have o9 := oc 9 (by simp)
    simp only [Nat.zero_add, List.getElem_cons_zero, List.getElem_cons_succ] at o0 o1 o2 o3 o4 o5 o6 o7 o8 o9
    clear oc
    have fo := H3.out.2.2.free
    go_wp2_with fail
    have H3b := hide (And.intro (H3.out.1.set hp hew 6 (.string qu)) (And.intro (H3.out.2.1.other hre 6 (.string qu)) (H3.out.2.2.set 6 (by simp) (.string qu))))
    simp only [List.set_cons_zero, List.set_cons_succ] at H3b
    clear o0 o1 o2 o3 o4 o5 o6 o7 o8 o9 fo
    generalize w3.setCell ⟨eb, 6, none⟩ (.string qu) = w3b at H3b ⊢
    refine (l1OnceC H3b.out.1.cur _).mono ?_
    rintro e w4 ⟨b, rfl, hc, hg⟩
    have H4 := hide (And.intro (H3b.out.1.step hc hg) (And.intro (H3b.out.2.1.grown hg hrp) (H3b.out.2.2.grown hg hep)))
    clear hc hg
    cases b
    · skip
      have rc := H4.out.2.1.cells
      have r0 := rc 0 (by simp)
      have r1 := rc 1 (by simp)
      have r2 := rc 2 (by simp)
      have r3 := rc 3 (by simp)
      have r4 := rc 4 (by simp)
      have r5 := rc 5 (by simp)
      have r6 := rc 6 (by simp)
      have r7 := rc 7 (by simp)
      have r8 := rc 8 (by simp)
      have r9 := rc 9 (by simp)
      simp only [Nat.zero_add, List.getElem_cons_zero, List.getElem_cons_succ] at r0 r1 r2 r3 r4 r5 r6 r7 r8 r9
      clear rc
      have fr := H4.out.2.1.free
      have oc := H4.out.2.2.cells
      have o0 := oc 0 (by simp)
      have o1 := oc 1 (by simp)
      have o2 := oc 2 (by simp)
      have o3 := oc 3 (by simp)
      have o4 := oc 4 (by simp)
      have o5 := oc 5 (by simp)
      have o6 := oc 6 (by simp)
      have o7 := oc 7 (by simp)
      have o8 := oc 8 (by simp)
      have o9 := oc 9 (by simp)
      simp only [Nat.zero_add, List.getElem_cons_zero, List.getElem_cons_succ] at o0 o1 o2 o3 o4 o5 o6 o7 o8 o9
      clear oc
      have fo := H4.out.2.2.free
      go_wp2_with fail
      ((try simp only [Exit.inBlock, Exit.then]); refine bodyPost_ret (by simp [results, Try.results91, go_sem]; go_simp; rfl) rfl ?_)
      exact ⟨_, _, rfl, Dr.sets H4.out.1 hp hrw 0 [.int .i64 2, .int .i64 0, .bool false, .int .i64 0, .int .i64 0, .string ⟨#[]⟩, .string qu, .string nm, .slice none 0 0, .slice none 0 0]⟩
    · go_wp2_with fail
      refine (l2NameC H4.out.1.cur).mono ?_
      rintro e w5 ⟨nn, rfl, _, hd⟩
      have H5 := hide (And.intro (H4.out.1.trans hd) (And.intro (H4.out.2.1.grown hd.grown hrp) (H4.out.2.2.grown hd.grown hep)))
      clear hd
      have rc := H5.out.2.1.cells
      have r0 := rc 0 (by simp)
      have r1 := rc 1 (by simp)
      have r2 := rc 2 (by simp)
      have r3 := rc 3 (by simp)
      have r4 := rc 4 (by simp)
      have r5 := rc 5 (by simp)
      have r6 := rc 6 (by simp)
      have r7 := rc 7 (by simp)
      have r8 := rc 8 (by simp)
      have r9 := rc 9 (by simp)
      simp only [Nat.zero_add, List.getElem_cons_zero, List.getElem_cons_succ] at r0 r1 r2 r3 r4 r5 r6 r7 r8 r9
      clear rc
      have fr := H5.out.2.1.free
      have oc := H5.out.2.2.cells
      have o0 := oc 0 (by simp)
      have o1 := oc 1 (by simp)
      have o2 := oc 2 (by simp)
      have o3 := oc 3 (by simp)
      have o4 := oc 4 (by simp)
      have o5 := oc 5 (by simp)
      have o6 := oc 6 (by simp)
      have o7 := oc 7 (by simp)
      have o8 := oc 8 (by simp)
      have o9 := oc 9 (by simp)
      simp only [Nat.zero_add, List.getElem_cons_zero, List.getElem_cons_succ] at o0 o1 o2 o3 o4 o5 o6 o7 o8 o9
      clear oc
      have fo := H5.out.2.2.free
      go_wp2_with fail
      ((try simp only [Exit.inBlock, Exit.then]); refine bodyPost_ret (by simp [results, Try.results91, go_sem]; go_simp; rfl) rfl ?_)
      exact ⟨_, _, rfl, Dr.sets (H5.out.1.set hp hew 7 (.string nn)) hp hrw 0 [.int .i64 2, .int .i64 0, .bool false, .int .i64 0, .int .i64 0, .string ⟨#[]⟩, .string qu, .string nn, .slice none 0 0, .slice none 0 0]⟩

theorem l1SizeC {w : World} (a : Option Addr) (n c : Nat) (hn : n ≤ 1048576) : Calls Try.prog 89 #[.slice a n c, .int .i64 4] w fun e w' => ∃ x : Int, e = .returned (.int .i64 x) ∧ 2 ≤ x ∧ x ≤ 4 ∧ w = w' := by
  have e20 : Int.tdiv (n : Int) 20 = (n : Int) / 20 := Int.tdiv_eq_ediv_of_nonneg (by omega)
  by_cases h : 4 < 2 + (n : Int) / 20
  · go_enter Try.func89, Try.ntmps89
    go_wp2_with fail
    go_ret
    exact ⟨4, rfl, by omega, by omega, rfl⟩
  · go_enter Try.func89, Try.ntmps89
    go_wp2_with fail
    go_ret
    exact ⟨_, rfl, by omega, by omega, rfl⟩

set_option maxRecDepth 100000 in
set_option maxHeartbeats 1600000 in
theorem l7DeepC {B p lo : Nat} {w : World} {R : RM} (h : Cur B w p) (hh : Hp w lo R true) (hlo : lo ≤ w.heap.size) (hpl : p < lo) : Calls Try.prog 86 #[.pointer (some ⟨p, 0, none⟩)] w (ExprPost B p lo R 30 w) := by
  have hp := h.lt
  obtain ⟨rb, hrb⟩ : ∃ rb, Hid (rb = w.heap.size) := ⟨_, rfl⟩
  have hr0 := Blk.made w [.int .i64 0, .int .i64 0, .bool false, .int .i64 0, .int .i64 0, .string ⟨#[]⟩, .string ⟨#[]⟩, .string ⟨#[]⟩, .slice none 0 0, .slice none 0 0] 34
  have hd0 := (Dr.refl h).alloc (.cells #[.int .i64 0, .int .i64 0, .bool false, .int .i64 0, .int .i64 0, .string ⟨#[]⟩, .string ⟨#[]⟩, .string ⟨#[]⟩, .slice none 0 0, .slice none 0 0] 34)
  have H0 := hide (And.intro hd0 hr0)
  have HH := hide hh
  rw [← hrb.out] at H0
  have hrp : rb ≠ p := by have := hrb.out; omega
  have hrw : w.heap.size ≤ rb := by have := hrb.out; omega
  clear hd0 hr0 hh
  go_enter Try.func86, Try.ntmps86
  go_wp2_with fail
  (try rw [← hrb.out])
  refine (l7ColC H0.out.1.cur).mono ?_
  rintro e w1 ⟨qu, nm, rfl, hd⟩
  obtain ⟨eb, heb⟩ : ∃ eb, Hid (eb = w1.heap.size) := ⟨_, rfl⟩
  have hd1 := H0.out.1.trans hd
  have hbr := H0.out.2.grown hd.grown hrp
  have hsz := hd1.grown.size
  have H1 := hide (And.intro (hd1.alloc (.cells #[.int .i64 2, .int .i64 0, .bool false, .int .i64 0, .int .i64 0, .string ⟨#[]⟩, .string qu, .string nm, .slice none 0 0, .slice none 0 0] 34)) (And.intro (hbr.alloc (.cells #[.int .i64 2, .int .i64 0, .bool false, .int .i64 0, .int .i64 0, .string ⟨#[]⟩, .string qu, .string nm, .slice none 0 0, .slice none 0 0] 34)) (Blk.made w1 [.int .i64 2, .int .i64 0, .bool false, .int .i64 0, .int .i64 0, .string ⟨#[]⟩, .string qu, .string nm, .slice none 0 0, .slice none 0 0] 34)))
  rw [← heb.out] at H1
  have hep : eb ≠ p := by have := heb.out; have := hd1.lt; omega
  have hew : w.heap.size ≤ eb := by have := heb.out; omega
  have hre : rb ≠ eb := by have := heb.out; have := hbr.lt; omega
  clear hd hd1 hbr hsz
  go_wp2_with fail
  (try rw [← heb.out])
  refine (l1BelowC H1.out.1.cur 3).mono ?_
  rintro e w2 ⟨y, rfl, y0, y1, hc, hg⟩
  have y2 := y1 (by omega)
  obtain ⟨q, rfl⟩ : ∃ q : Nat, y = q := ⟨y.toNat, by omega⟩
  have H2 := hide (And.intro (H1.out.1.step hc hg) (And.intro (H1.out.2.1.grown hg hrp) (H1.out.2.2.grown hg hep)))
  clear hc hg y1
  go_wp2_with fail
  go_loopw [5] (fun u wr => ∃ j : Nat, u = .int .i64 (j : Int) ∧ j ≤ 22 + q ∧ Hid (∃ (x : EK) (R' : RM), KidOk R' true (j + 1) x ∧ Hp wr lo R' true ∧ Ext w.heap.size R R' ∧ R' rb = none ∧ R' eb = none ∧ Dr B p w wr ∧ Blk wr rb [.int .i64 0, .int .i64 0, .bool false, .int .i64 0, .int .i64 0, .string ⟨#[]⟩, .string ⟨#[]⟩, .string ⟨#[]⟩, .slice none 0 0, .slice none 0 0] ∧ Blk wr eb x.L)) (fun u _ => 22 + q - (intOf u).toNat)
  case atStart => exact ⟨0, rfl, by omega, ⟨2, 0, false, 0, 0, ⟨#[]⟩, qu, nm, none, 0, 0, none, 0, 0⟩, R, KidOk.leaf _ _ _ _ _ _ _ _ _ _ _, HH.out.dr H2.out.1 hpl, Ext.refl _ _, HH.out.new hrw, HH.out.new hew, H2.out.1, H2.out.2.1, H2.out.2.2⟩
  case round =>
    clear H2 H1 H0
    obtain ⟨j, rfl, hj, HJ⟩ := hrel
    obtain ⟨x, R', hk, hh, hx, hnr, hne, hd, hb1, hb2⟩ := HJ.out
    clear HJ
    have HS := hide (And.intro hk (And.intro hh (And.intro hx (And.intro hnr (And.intro hne (And.intro hd (And.intro hb1 hb2)))))))
    clear hk hh hx hnr hne hd
    have hle := hb2.lt
    have hlr := hb1.lt
    unfold EK.L at hb2
    have oc := hb2.cells
    have o0 := oc 0 (by simp)
    have o1 := oc 1 (by simp)
    have o2 := oc 2 (by simp)
    have o3 := oc 3 (by simp)
    have o4 := oc 4 (by simp)
    have o5 := oc 5 (by simp)
    have o6 := oc 6 (by simp)
    have o7 := oc 7 (by simp)
    have o8 := oc 8 (by simp)
    have o9 := oc 9 (by simp)
    simp only [Nat.zero_add, List.getElem_cons_zero, List.getElem_cons_succ] at o0 o1 o2 o3 o4 o5 o6 o7 o8 o9
    clear oc
    have fo := hb2.free
    by_cases hlt : j < 22 + q
    · have hlt2 : (j : Int) < 22 + q := by omega
      clear hb1 hb2
      go_wp2_with fail
      go_roundw
      case rel =>
        refine ⟨j + 1, by go_num, by omega, ?_⟩
        have hK : ∀ W : World, W = (wr.setCells eb 0 [.int .i64 3, .int .i64 16, .bool false, .int .i64 0, .int .i64 0, .string ⟨#[]⟩, .string ⟨#[]⟩, .string ⟨#[]⟩, .slice (some ⟨wr.heap.size, 0, none⟩) 1 1, .slice none 0 0]).alloc (.cells x.L.toArray 34) → ∃ (x : EK) (R' : RM), KidOk R' true (j + 1 + 1) x ∧ Hp W lo R' true ∧ Ext w.heap.size R R' ∧ R' rb = none ∧ R' eb = none ∧ Dr B p w W ∧ Blk W rb [.int .i64 0, .int .i64 0, .bool false, .int .i64 0, .int .i64 0, .string ⟨#[]⟩, .string ⟨#[]⟩, .string ⟨#[]⟩, .slice none 0 0, .slice none 0 0] ∧ Blk W eb x.L := by
          rintro W rfl
          obtain ⟨hk, hh, hx, hnr, hne, hd, hb1, hb2⟩ := HS.out
          have hge := hd.grown.size
          have hne1 : rb ≠ wr.heap.size := by have := hb1.lt; omega
          have hne2 : eb ≠ wr.heap.size := by have := hb2.lt; omega
          have hd9 := Dr.sets hd hp hew 0 [.int .i64 3, .int .i64 16, .bool false, .int .i64 0, .int .i64 0, .string ⟨#[]⟩, .string ⟨#[]⟩, .string ⟨#[]⟩, .slice (some ⟨wr.heap.size, 0, none⟩) 1 1, .slice none 0 0]
          have hh9 := hh.sets hne 0 [.int .i64 3, .int .i64 16, .bool false, .int .i64 0, .int .i64 0, .string ⟨#[]⟩, .string ⟨#[]⟩, .string ⟨#[]⟩, .slice (some ⟨wr.heap.size, 0, none⟩) 1 1, .slice none 0 0]
          have hb91 := hb1.sets hre 0 [.int .i64 3, .int .i64 16, .bool false, .int .i64 0, .int .i64 0, .string ⟨#[]⟩, .string ⟨#[]⟩, .string ⟨#[]⟩, .slice (some ⟨wr.heap.size, 0, none⟩) 1 1, .slice none 0 0]
          have hb92 := hb2.put [.int .i64 3, .int .i64 16, .bool false, .int .i64 0, .int .i64 0, .string ⟨#[]⟩, .string ⟨#[]⟩, .string ⟨#[]⟩, .slice (some ⟨wr.heap.size, 0, none⟩) 1 1, .slice none 0 0] rfl
          have hs9 : (wr.setCells eb 0 [.int .i64 3, .int .i64 16, .bool false, .int .i64 0, .int .i64 0, .string ⟨#[]⟩, .string ⟨#[]⟩, .string ⟨#[]⟩, .slice (some ⟨wr.heap.size, 0, none⟩) 1 1, .slice none 0 0]).heap.size = wr.heap.size := size_sets _ _
          generalize wr.setCells eb 0 [.int .i64 3, .int .i64 16, .bool false, .int .i64 0, .int .i64 0, .string ⟨#[]⟩, .string ⟨#[]⟩, .string ⟨#[]⟩, .slice (some ⟨wr.heap.size, 0, none⟩) 1 1, .slice none 0 0] = wn at hd9 hh9 hb91 hb92 hs9 ⊢
          have hmade := Blk.made wn x.L 34
          obtain ⟨k1, k2⟩ := (hh9.alloc (.cells x.L.toArray 34)).addEx (N := wn.heap.size) (g := wn.heap.size) (r := j + 1) (l := 1) (c := 1) (hh9.new (Nat.le_refl _)) (by omega) (by omega) (Nat.le_refl _) hmade.room (fun i hi => ⟨x, hk, by
            have : i = 0 := by omega
            subst this
            exact hmade.cells⟩) (Nat.le_refl _)
          refine ⟨⟨3, 16, false, 0, 0, ⟨#[]⟩, ⟨#[]⟩, ⟨#[]⟩, some ⟨wn.heap.size, 0, none⟩, 1, 1, none, 0, 0⟩, _, ⟨.inr ⟨_, j + 1, 1, rfl, RM.put_at _ _ _, by omega, Nat.one_pos, Nat.le_refl _⟩, by simp, fun _ => .inl ⟨rfl, rfl, rfl⟩⟩,
            k1, hx.trans k2 (by omega), (RM.put_ne _ _ (by omega)).trans hnr, (RM.put_ne _ _ (by omega)).trans hne, hd9.alloc _, hb91.alloc _, ?_⟩
          rw [← hs9] at hb92
          exact hb92.alloc _
        exact hK _ rfl
      case measure => simp [intOf]; omega
    · have hlt2 : ¬ (j : Int) < 22 + q := by omega
      have rc := hb1.cells
      have r0 := rc 0 (by simp)
      have r1 := rc 1 (by simp)
      have r2 := rc 2 (by simp)
      have r3 := rc 3 (by simp)
      have r4 := rc 4 (by simp)
      have r5 := rc 5 (by simp)
      have r6 := rc 6 (by simp)
      have r7 := rc 7 (by simp)
      have r8 := rc 8 (by simp)
      have r9 := rc 9 (by simp)
      simp only [Nat.zero_add, List.getElem_cons_zero, List.getElem_cons_succ] at r0 r1 r2 r3 r4 r5 r6 r7 r8 r9
      clear rc
      have fr := hb1.free
      clear hb1 hb2
      go_wp2_with fail
      ((try simp only [Exit.inBlock, Exit.then]); refine bodyPost_ret (by simp [results, Try.results86, go_sem]; go_simp; rfl) rfl ?_)
      obtain ⟨hk, hh, hx, hnr, hne, hd, hb1, hb2⟩ := HS.out
      exact ⟨x, R', rfl, hk.ext (Ext.refl 0 _) (by omega), hh.sets hnr 0 x.L, hx, Dr.sets hd hp hrw 0 x.L⟩
end Go.Proofs.Ytfpoakdmclekoaa
