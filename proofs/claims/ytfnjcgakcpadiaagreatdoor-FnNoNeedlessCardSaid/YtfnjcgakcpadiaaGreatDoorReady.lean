/-
  What the contracts ask of the library's variables: the table of the powers of ten, the two errors, MaxLen; and that a row's list and a world's shape give it.
-/
import Derived.Test.YtfnjcgakcpadiaaGreatDoorRows
import Derived.Test.YtfnjcgakcpadiaaGreatDoorShelf
import Derived.Test.YtfnjcgakcpadiaaGreatDoorGBase
import Derived.Lib.LaidTab
import Derived.Lib.AppendIntMem
import Derived.Stop.LaidErr
import Derived.LaidMore
namespace Go.Proofs.YtfnjcgakcpadiaaGreatDoor
open Go.RowKit Go.ChangeShapes

/-- What the library's variables hold. -/
structure Ready (w : World) : Prop where
  tab : Lib.TabIs Tryz.prog w "internal/strconv.uint64pow10" .u64 Lib.pow10Tab
  syn : ∃ tp p, w.cell? ⟨1, 0, none⟩ = some (.iface tp p)
  rng : ∃ tp p, w.cell? ⟨2, 0, none⟩ = some (.iface tp p)
  max : ∃ m, w.cell? ⟨0, 0, none⟩ = some (.int .i64 m)

theorem Ready.below {w w' : World} (h : Ready w) (hb : Below w.heap.size w w') : Ready w' := by
  obtain ⟨ht, ⟨t1, p1, h1⟩, ⟨t2, p2, h2⟩, ⟨m, hm⟩⟩ := h
  refine ⟨Lib.tabBelow_of_tabIs ht w' hb, ⟨t1, p1, ?_⟩, ⟨t2, p2, ?_⟩, ⟨m, ?_⟩⟩
  · exact (hb.cell (p := ⟨1, 0, none⟩) (World.block_lt_of_cell? w _ h1)).trans h1
  · exact (hb.cell (p := ⟨2, 0, none⟩) (World.block_lt_of_cell? w _ h2)).trans h2
  · exact (hb.cell (p := ⟨0, 0, none⟩) (World.block_lt_of_cell? w _ hm)).trans hm

theorem tab_of_list {W : World} {a b : String × DataW Unit} {r : List (String × DataW Unit)} (h : laidMet Tryz.prog (a :: b :: ("internal/strconv.uint64pow10", Rows.laid_internal_strconv_uint64pow10) :: r) W) :
    Lib.TabIs Tryz.prog W "internal/strconv.uint64pow10" .u64 Lib.pow10Tab := by
  obtain ⟨ps, ⟨g2, t2, cs2, f2, p2, q2, hg2, ht2, hv2, hd2, _, _⟩, _, _⟩ := h.tail.tail
  have hg : Tryz.prog.globalNamed "internal/strconv.uint64pow10" = some 5 := by kernel_rfl
  have hty : (Tryz.prog.globals[5]?).map (·.type) = some 133 := by kernel_rfl
  obtain rfl := Option.some.inj (hg.symm.trans hg2)
  obtain rfl := Option.some.inj (hty.symm.trans ht2)
  unfold Lib.TabIs
  rw [hv2, ← Lib.cells_of_tab (zs := Lib.pow10Tab) (k := .u64) (e := 108) (n := 20) Tryz.underlying133 Tryz.underlying108 (by kernel_rfl) (by kernel_rfl) hd2]

theorem rng_of_list {W : World} {nm : String} {x : DataW Unit} {r : List (String × DataW Unit)} (h : laidMet Tryz.prog (("strconv.ErrRange", .iface nm x) :: r) W) :
    ∃ tp p, W.cell? ⟨2, 0, none⟩ = some (.iface tp p) := by
  obtain ⟨ps, ⟨g2, t2, cs2, f2, p2, q2, hg2, ht2, hv2, hd2, _, _⟩, _, _⟩ := h
  have hg : Tryz.prog.globalNamed "strconv.ErrRange" = some 2 := by kernel_rfl
  have hty : (Tryz.prog.globals[2]?).map (·.type) = some 74 := by kernel_rfl
  obtain rfl := Option.some.inj (hg.symm.trans hg2)
  obtain rfl := Option.some.inj (hty.symm.trans ht2)
  obtain ⟨l2⟩ := cs2
  obtain ⟨f1, u, v, rfl, hn, h1⟩ := iface_of_trod Tryz.underlying74 hd2
  exact ⟨u, v, by simpa using World.var?_cell hg hv2 0⟩

theorem syn_of_list {W : World} {nm : String} {x : DataW Unit} {r : List (String × DataW Unit)} (h : laidMet Tryz.prog (("strconv.ErrSyntax", .iface nm x) :: r) W) :
    ∃ tp p, W.cell? ⟨1, 0, none⟩ = some (.iface tp p) := by
  obtain ⟨ps, ⟨g2, t2, cs2, f2, p2, q2, hg2, ht2, hv2, hd2, _, _⟩, _, _⟩ := h
  have hg : Tryz.prog.globalNamed "strconv.ErrSyntax" = some 1 := by kernel_rfl
  have hty : (Tryz.prog.globals[1]?).map (·.type) = some 74 := by kernel_rfl
  obtain rfl := Option.some.inj (hg.symm.trans hg2)
  obtain rfl := Option.some.inj (hty.symm.trans ht2)
  obtain ⟨l2⟩ := cs2
  obtain ⟨f1, u, v, rfl, hn, h1⟩ := iface_of_trod Tryz.underlying74 hd2
  exact ⟨u, v, by simpa using World.var?_cell hg hv2 0⟩

theorem max_of_shape {W : World} (h : W.ShapedOpen Tryz.prog) : ∃ m, W.cell? ⟨0, 0, none⟩ = some (.int .i64 m) := Tryz.laysM146.s1_3 W h
end Go.Proofs.YtfnjcgakcpadiaaGreatDoor
