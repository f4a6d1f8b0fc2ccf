/-
  l7Expr: a tree drawn, to any depth.
-/
import Derived.Test.YtfpoakdmclekoaaDrQ
import Derived.Deep.MidRow
namespace Go.Proofs.Ytfpoakdmclekoaa
open Go Go.RowKit Go.Lib

def Z10 : List Value := [.int .i64 0, .int .i64 0, .bool false, .int .i64 0, .int .i64 0, .string ⟨#[]⟩, .string ⟨#[]⟩, .string ⟨#[]⟩, .slice none 0 0, .slice none 0 0]
/-- An expression under way: the result's block rb is still zero. -/
structure ESt (B p lo : Nat) (R R' : RM) (w wr : World) (rb : Nat) : Prop where
  hp : Hp wr lo R' true
  ext : Ext w.heap.size R R'
  nr : R' rb = none
  dr : Dr B p w wr
  r : Blk wr rb Z10
  hrp : rb ≠ p
  hrw : w.heap.size ≤ rb
  hpw : p < w.heap.size
  hpl : p < lo

section
variable {B p lo : Nat} {R R' : RM} {w wr : World} {rb : Nat}
theorem ESt.post {w2 : World} {R2 : RM} (h : ESt B p lo R R' w wr rb) (hh : Hp w2 lo R2 true) (hx : Ext wr.heap.size R' R2) (hd : Dr B p wr w2) : ESt B p lo R R2 w w2 rb :=
  { h with
    hp := hh
    ext := h.ext.trans hx h.dr.grown.size
    nr := hx.no rb h.r.lt h.nr
    dr := h.dr.trans hd
    r := h.r.grown hd.grown h.hrp }
theorem ESt.step {w2 : World} (h : ESt B p lo R R' w wr rb) (hd : Dr B p wr w2) : ESt B p lo R R' w w2 rb := h.post (h.hp.dr hd h.hpl) (Ext.refl _ _) hd
theorem ESt.fin {r : Nat} {x : EK} (h : ESt B p lo R R' w wr rb) (hk : KidOk R' true r x) : ExprPost B p lo R r w (.returned (.agg #[.int .i64 x.k, .int .i64 x.op, .bool x.ng, .int .i64 x.vk, .int .i64 x.vn, .string x.vt, .string x.qu, .string x.nm, .slice x.ka x.m x.kc, .slice x.sa x.ms x.sc])) (wr.setCells rb 0 x.L) :=
  ⟨x, R', rfl, hk, h.hp.sets h.nr 0 x.L, h.ext, h.dr.sets h.hpw h.hrw 0 x.L⟩
/-- The same where the statement has made a block for a query, of which the expression's row of queries is made. -/
theorem ESt.finQ {r : Nat} {x : EK} {l : List Value} {t : TypeId} (h : ESt B p lo R R' w wr rb) (hl : l.length = 6) (hlo : lo ≤ w.heap.size)
    (hk : ∀ R2 : RM, R2 wr.heap.size = some .qu → Ext wr.heap.size R' R2 → KidOk R2 true r x) :
    ExprPost B p lo R r w (.returned (.agg #[.int .i64 x.k, .int .i64 x.op, .bool x.ng, .int .i64 x.vk, .int .i64 x.vn, .string x.vt, .string x.qu, .string x.nm, .slice x.ka x.m x.kc, .slice x.sa x.ms x.sc])) ((wr.setCells rb 0 x.L).alloc (.cells l.toArray t)) := by
  have h1 := h.hp.sets h.nr 0 x.L
  have hs : (wr.setCells rb 0 x.L).heap.size = wr.heap.size := size_sets _ _
  have hm := (Blk.made (wr.setCells rb 0 x.L) l t).room
  rw [hl, hs] at hm
  obtain ⟨k1, k2⟩ := (h1.alloc (.cells l.toArray t)).addQu (N := wr.heap.size) (g := wr.heap.size) (h.hp.new (Nat.le_refl _)) (Nat.le_trans hlo h.dr.grown.size) hm (Nat.le_refl _)
  exact ⟨x, _, rfl, hk _ (RM.put_at _ _ _) k2, k1, h.ext.trans k2 h.dr.grown.size, (h.dr.sets h.hpw h.hrw 0 x.L).alloc _⟩
end

theorem ESt.finQ2 {B p lo : Nat} {R R' : RM} {w wr : World} {rb : Nat} {r : Nat} {x : EK} {l : List Value} {t : TypeId} (h : ESt B p lo R R' w wr rb) (hl : l.length = 6) (hlo : lo ≤ w.heap.size)
    (hk : ∀ R2 : RM, R2 wr.heap.size = some .qu → Ext wr.heap.size R' R2 → KidOk R2 true r x) :
    (wr.alloc (.cells l.toArray t)).there rb 0 10 ∧ Blk ((wr.alloc (.cells l.toArray t)).setCells rb 0 x.L) rb x.L ∧
    ExprPost B p lo R r w (.returned (.agg #[.int .i64 x.k, .int .i64 x.op, .bool x.ng, .int .i64 x.vk, .int .i64 x.vn, .string x.vt, .string x.qu, .string x.nm, .slice x.ka x.m x.kc, .slice x.sa x.ms x.sc])) ((wr.alloc (.cells l.toArray t)).setCells rb 0 x.L) := by
  have hm := (Blk.made wr l t).room
  rw [hl] at hm
  obtain ⟨k1, k2⟩ := (h.hp.alloc (.cells l.toArray t)).addQu (N := wr.heap.size) (g := wr.heap.size) (h.hp.new (Nat.le_refl _)) (Nat.le_trans hlo h.dr.grown.size) hm (Nat.le_refl _)
  have hr := h.r.alloc (.cells l.toArray t)
  refine ⟨fun j hj => ?_, hr.put x.L rfl, x, _, rfl, hk _ (RM.put_at _ _ _) k2, k1.sets ((RM.put_ne _ _ (by have := h.r.lt; omega)).trans h.nr) 0 x.L, h.ext.trans k2 h.dr.grown.size, (h.dr.alloc _).sets h.hpw h.hrw 0 x.L⟩
  obtain ⟨u, hu⟩ := hr.room.has j hj
  rw [Nat.zero_add, hu]
  exact ⟨rfl, hr.free j⟩
theorem Try.sizeEx : (Try.prog.info? 34).map (·.size) = some 10 := by kernel_rfl

theorem KidOk.row {R : RM} {r r' g kc n l : Nat} {k op : Int} {ng : Bool} {vk vn : Int} {vt qu nm : ByteArray} (hg : R g = some (.ex r' l kc)) (hr : r' < r) (hn : 0 < n) (hn8 : n ≤ 8) (hl : n ≤ l) : KidOk R true r ⟨k, op, ng, vk, vn, vt, qu, nm, some ⟨g, 0, none⟩, n, kc, none, 0, 0⟩ :=
  ⟨.inr ⟨g, r', l, rfl, hg, hr, hn, hl⟩, by simpa using hn8, fun _ => .inl ⟨rfl, rfl, rfl⟩⟩
theorem KidOk.rowQ {R : RM} {r r' g kc n l s : Nat} {k op : Int} {ng : Bool} {vk vn : Int} {vt qu nm : ByteArray} (hg : R g = some (.ex r' l kc)) (hr : r' < r) (hn : 0 < n) (hn8 : n ≤ 8) (hl : n ≤ l) (hs : R s = some .qu) : KidOk R true r ⟨k, op, ng, vk, vn, vt, qu, nm, some ⟨g, 0, none⟩, n, kc, some ⟨s, 0, none⟩, 1, 1⟩ :=
  ⟨.inr ⟨g, r', l, rfl, hg, hr, hn, hl⟩, by simpa using hn8, fun _ => .inr ⟨s, rfl, rfl, rfl, hs⟩⟩
theorem KidOk.leafQ {R : RM} {r s : Nat} {k op : Int} {ng : Bool} {vk vn : Int} {vt qu nm : ByteArray} (hs : R s = some .qu) : KidOk R true r ⟨k, op, ng, vk, vn, vt, qu, nm, none, 0, 0, some ⟨s, 0, none⟩, 1, 1⟩ :=
  ⟨.inl ⟨rfl, rfl, rfl⟩, by simp, fun _ => .inr ⟨s, rfl, rfl, rfl, hs⟩⟩

theorem l7KidsC' {B p lo d : Nat} (IH : ExprC B p lo d) {w : World} {R : RM} (h : Cur B w p) (hh : Hp w lo R true) (hlo : lo ≤ w.heap.size) (hpl : p < lo) (n : Nat) (hn : 1 ≤ n) (hn8 : n ≤ 8) (deep : Nat) (hd : deep ≤ d) (hdd : d ≤ 100) (D : Int) (hD : D = (deep : Int) + 1) (N : Int) (hN : N = (n : Int)) :
    Calls Try.prog 93 #[.pointer (some ⟨p, 0, none⟩), .int .i64 D, .int .i64 N] w (KidsPost B p lo R (d + 1) n w) := by
  subst hD hN
  exact l7KidsC IH h hh hlo hpl n hn hn8 deep hd hdd
theorem l7QueryC' {B p lo d : Nat} (IH : ExprC B p lo d) {w : World} {R : RM} (h : Cur B w p) (hh : Hp w lo R true) (hlo : lo ≤ w.heap.size) (hpl : p < lo) (deep : Nat) (hd : deep ≤ d) (D : Int) (hD : D = (deep : Int)) :
    Calls Try.prog 94 #[.pointer (some ⟨p, 0, none⟩), .int .i64 D] w (QueryPost B p lo R w) := by
  subst hD
  exact l7QueryC IH h hh hlo hpl deep hd

set_option maxRecDepth 100000 in
set_option maxHeartbeats 4000000 in
theorem l7Expr0 {B p lo r : Nat} {w : World} {R : RM} (h : Cur B w p) (hh : Hp w lo R true) (_hlo : lo ≤ w.heap.size) (hpl : p < lo) :
    Calls Try.prog 87 #[.pointer (some ⟨p, 0, none⟩), .int .i64 0] w (ExprPost B p lo R r w) := by
  obtain ⟨rb, hrb⟩ : ∃ rb, Hid (rb = w.heap.size) := ⟨_, rfl⟩
  have hm := Blk.made w Z10 34
  rw [← hrb.out] at hm
  obtain ⟨R1, hR1⟩ : ∃ R1, R1 = R := ⟨R, rfl⟩
  have H1 := hide (show ESt B p lo R R1 w (w.alloc (.cells Z10.toArray 34)) rb by subst hR1; exact ⟨hh.alloc _, Ext.refl _ _, hh.new (Nat.le_of_eq hrb.out.symm), (Dr.refl h).alloc _, hm, by have := hrb.out; have := h.lt; omega, Nat.le_of_eq hrb.out.symm, h.lt, hpl⟩)
  clear hm hR1
  go_enter Try.func87, Try.ntmps87
  go_wp2_with fail
  (try rw [← hrb.out])
  refine (l1OnceC H1.out.dr.cur _).mono ?_
  rintro e wl ⟨bl, rfl, hcl, hgl⟩
  have HL := hide (H1.out.step ((Dr.refl H1.out.dr.cur).step hcl hgl))
  clear hcl hgl
  cases bl
  · go_wp2_with fail
    refine (l7ValueC HL.out.dr.cur).mono ?_
    rintro e wm ⟨vk, vn, vt, rfl, hdm⟩
    have HM := hide (HL.out.step hdm)
    clear hdm
    have rc := HM.out.r.cells
    have r0 := rc 0 (by first | simp | simp [Z10])
    have r1 := rc 1 (by first | simp | simp [Z10])
    have r2 := rc 2 (by first | simp | simp [Z10])
    have r3 := rc 3 (by first | simp | simp [Z10])
    have r4 := rc 4 (by first | simp | simp [Z10])
    have r5 := rc 5 (by first | simp | simp [Z10])
    have r6 := rc 6 (by first | simp | simp [Z10])
    have r7 := rc 7 (by first | simp | simp [Z10])
    have r8 := rc 8 (by first | simp | simp [Z10])
    have r9 := rc 9 (by first | simp | simp [Z10])
    try simp only [Z10] at r0 r1 r2 r3 r4 r5 r6 r7 r8 r9
    simp only [Nat.zero_add, List.getElem_cons_zero, List.getElem_cons_succ] at r0 r1 r2 r3 r4 r5 r6 r7 r8 r9
    clear rc
    have fr := HM.out.r.free
    go_wp2_with fail
    ((try simp only [Exit.inBlock, Exit.then]); refine bodyPost_ret (by simp [results, Try.results87, go_sem]; go_simp; rfl) rfl ?_)
    exact HM.out.fin (x := ⟨1, 0, false, vk, vn, vt, ⟨#[]⟩, ⟨#[]⟩, none, 0, 0, none, 0, 0⟩) (KidOk.leaf _ _ _ _ _ _ _ _ _ _ _)
  · go_wp2_with fail
    refine (l7ColC HL.out.dr.cur).mono ?_
    rintro e wm ⟨qu, nm, rfl, hdm⟩
    have HM := hide (HL.out.step hdm)
    clear hdm
    have rc := HM.out.r.cells
    have r0 := rc 0 (by first | simp | simp [Z10])
    have r1 := rc 1 (by first | simp | simp [Z10])
    have r2 := rc 2 (by first | simp | simp [Z10])
    have r3 := rc 3 (by first | simp | simp [Z10])
    have r4 := rc 4 (by first | simp | simp [Z10])
    have r5 := rc 5 (by first | simp | simp [Z10])
    have r6 := rc 6 (by first | simp | simp [Z10])
    have r7 := rc 7 (by first | simp | simp [Z10])
    have r8 := rc 8 (by first | simp | simp [Z10])
    have r9 := rc 9 (by first | simp | simp [Z10])
    try simp only [Z10] at r0 r1 r2 r3 r4 r5 r6 r7 r8 r9
    simp only [Nat.zero_add, List.getElem_cons_zero, List.getElem_cons_succ] at r0 r1 r2 r3 r4 r5 r6 r7 r8 r9
    clear rc
    have fr := HM.out.r.free
    go_wp2_with fail
    ((try simp only [Exit.inBlock, Exit.then]); refine bodyPost_ret (by simp [results, Try.results87, go_sem]; go_simp; rfl) rfl ?_)
    exact HM.out.fin (x := ⟨2, 0, false, 0, 0, ⟨#[]⟩, qu, nm, none, 0, 0, none, 0, 0⟩) (KidOk.leaf _ _ _ _ _ _ _ _ _ _ _)
end Go.Proofs.Ytfpoakdmclekoaa
