import Derived.Laws.Bits64b
import Derived.Laws.BitsLemmas
import Derived.Laws.Bits64
import Derived.RowKit
import Derived.WalkKit
import Derived.WalkLawsBesides
import Derived.WalkSpells
import Derived.Handy
import Derived.Laws.BytesArg
import Derived.Laws.IdiomStrings
import Derived.Deep.Quiet
import Derived.Deep.QuietTactic
import Derived.Test.YtfnjcgakcpadiaaGreatDoorRows
import Derived.Deep.Light
import Derived.Lib.BufferOwn
/-
  Plain facts on machine integers: wraps and the bitwise operators, no program in sight.
-/
namespace Go.Proofs.YtfnjcgakcpadiaaGreatDoor
open Go Go.RowKit

theorem ret_int {k : IntKind} {a b : Int} (h : a = b) : Ending.returned (.int k a) = .returned (.int k b) := by rw [h]
theorem ret_bool {a b : Bool} (h : a = b) : Ending.returned (.bool a) = .returned (.bool b) := by rw [h]

theorem toNat_ofNat_lt (n : Nat) (h : n < 256) : ((UInt8.ofNat n).toNat : Int) = (n : Int) := by
  rw [UInt8.toNat_ofNat']
  omega

theorem nat_xor_ones (a : Nat) (h : a < 18446744073709551616) : a ^^^ 18446744073709551615 = 18446744073709551615 - a := by
  have e : (BitVec.ofNat 64 a ^^^ BitVec.allOnes 64).toNat = (~~~ (BitVec.ofNat 64 a)).toNat := by rw [BitVec.xor_allOnes]
  rw [BitVec.toNat_xor, BitVec.toNat_not, BitVec.toNat_ofNat, BitVec.toNat_allOnes] at e
  rw [Nat.mod_eq_of_lt (by omega)] at e
  simpa using e

theorem bits_xor_u64_ones (a : Int) (h0 : 0 ≤ a) (h1 : a < 18446744073709551616) : bits .xor .u64 a 18446744073709551615 = 18446744073709551615 - a := by
  obtain ⟨n, rfl⟩ : ∃ n : Nat, a = n := ⟨a.toNat, by omega⟩
  have := bits_xor_u64_nat n 18446744073709551615 (by omega) (by omega)
  rw [nat_xor_ones n (by omega)] at this
  have e : ((18446744073709551615 : Nat) : Int) = 18446744073709551615 := rfl
  rw [e] at this
  rw [this]
  omega

theorem bits_xor_u64_zero (a : Int) (h0 : 0 ≤ a) (h1 : a < 18446744073709551616) : bits .xor .u64 a 0 = a := by
  obtain ⟨n, rfl⟩ : ∃ n : Nat, a = n := ⟨a.toNat, by omega⟩
  have := bits_xor_u64_nat n 0 (by omega) (by omega)
  simpa using this

theorem zig_bits (n : Int) (h : -9223372036854775808 ≤ n) (h' : n ≤ 9223372036854775807) :
    bits .xor .u64 (IntKind.u64.wrap (IntKind.u64.wrap n * 2)) (IntKind.u64.wrap (n / 9223372036854775808)) = if n < 0 then -2 * n - 1 else 2 * n := by
  simp only [IntKind.wrap_u64]
  by_cases hn : n < 0
  · have e1 : n / 9223372036854775808 = -1 := by omega
    rw [e1, if_pos hn]
    have e2 : (-1 : Int) % 18446744073709551616 = 18446744073709551615 := by decide
    rw [e2, bits_xor_u64_ones _ (by omega) (by omega)]
    omega
  · have e1 : n / 9223372036854775808 = 0 := by omega
    rw [e1, if_neg hn]
    have e2 : (0 : Int) % 18446744073709551616 = 0 := by decide
    rw [e2, bits_xor_u64_zero _ (by omega) (by omega)]
    omega

theorem bits_xor_i64_zero (x : Int) (h0 : -9223372036854775808 ≤ x) (h1 : x ≤ 9223372036854775807) : bits .xor .i64 x 0 = x := by
  show IntKind.i64.wrap ((BitVec.ofInt 64 x ^^^ BitVec.ofInt 64 0).toNat : Int) = _
  have : (BitVec.ofInt 64 x ^^^ BitVec.ofInt 64 0) = BitVec.ofInt 64 x := by simp
  rw [this, IntKind.wrap_i64]
  rw [BitVec.toNat_ofInt]
  omega

theorem bits_xor_i64_ones (x : Int) (h0 : -9223372036854775808 ≤ x) (h1 : x ≤ 9223372036854775807) : bits .xor .i64 x (-1) = -1 - x := by
  show IntKind.i64.wrap ((BitVec.ofInt 64 x ^^^ BitVec.ofInt 64 (-1)).toNat : Int) = _
  have e : BitVec.ofInt 64 (-1) = BitVec.allOnes 64 := by decide
  rw [e, BitVec.xor_allOnes, IntKind.wrap_i64, BitVec.toNat_not, BitVec.toNat_ofInt]
  omega

theorem bits_and_u64_one (a : Int) (h0 : 0 ≤ a) (h1 : a < 18446744073709551616) : bits .and .u64 a 1 = a % 2 := by
  obtain ⟨n, rfl⟩ : ∃ n : Nat, a = n := ⟨a.toNat, by omega⟩
  have := bits_and_u64_nat n 1 (by omega) (by omega)
  rw [show ((1 : Nat) : Int) = 1 from rfl] at this
  rw [this, Nat.and_one_is_mod]
  omega
end Go.Proofs.YtfnjcgakcpadiaaGreatDoor

/-
  Rows of bytes that the call itself made: reading, storing, turning into a string. No program text in sight.
-/
namespace Go.Proofs.YtfnjcgakcpadiaaGreatDoor
open Go Go.RowKit

/-- A fact kept from the walk. -/
theorem hide {p : Prop} (h : p) : Hid p := h

theorem below_via {w a b : World} (h1 : Below w.heap.size w a) (h2 : Below a.heap.size a b) : Below w.heap.size w b := h1.trans (h2.mono h1.size)

/-- What a contract that ends in 'Below' says of the cells that were there. -/
theorem bcell {W w1 : World} (hb : Below W.heap.size W w1) : (∀ b o, b < W.heap.size → w1.cell? ⟨b, o, none⟩ = W.cell? ⟨b, o, none⟩) ∧ (∀ b o, b < W.heap.size → w1.frozen? ⟨b, o, none⟩ = W.frozen? ⟨b, o, none⟩) :=
  ⟨fun b o h => hb.cell (p := ⟨b, o, none⟩) h, fun b o h => hb.frozen (p := ⟨b, o, none⟩) h⟩

/-- A block of three cells that was laid ahead of a call, behind it. -/
theorem kept3 {w w1 : World} {t : TypeId} {x y z : Value} (hb : Below (w.alloc (.cells #[x, y, z] t)).heap.size (w.alloc (.cells #[x, y, z] t)) w1) :
    w1.cell? ⟨w.heap.size, 0, none⟩ = some x ∧ w1.cell? ⟨w.heap.size, 1, none⟩ = some y ∧ w1.cell? ⟨w.heap.size, 2, none⟩ = some z ∧
    w1.frozen? ⟨w.heap.size, 0, none⟩ = false ∧ w1.frozen? ⟨w.heap.size, 1, none⟩ = false ∧ w1.frozen? ⟨w.heap.size, 2, none⟩ = false ∧ w.heap.size < w1.heap.size := by
  obtain ⟨hc, hf⟩ := bcell hb
  have hz : w.heap.size < (w.alloc (.cells #[x, y, z] t)).heap.size := by simp
  refine ⟨?_, ?_, ?_, ?_, ?_, ?_, Nat.lt_of_lt_of_le hz hb.size⟩
  · rw [hc _ _ hz]; simp [go_sem]
  · rw [hc _ _ hz]; simp [go_sem]
  · rw [hc _ _ hz]; simp [go_sem]
  · rw [hf _ _ hz]; simp [go_sem]
  · rw [hf _ _ hz]; simp [go_sem]
  · rw [hf _ _ hz]; simp [go_sem]

/-- Two such blocks. -/
theorem kept33 {w w1 : World} {t t' : TypeId} {x y z x' y' z' : Value} (hb : Below ((w.alloc (.cells #[x, y, z] t)).alloc (.cells #[x', y', z'] t')).heap.size ((w.alloc (.cells #[x, y, z] t)).alloc (.cells #[x', y', z'] t')) w1) :
    (w1.cell? ⟨w.heap.size, 0, none⟩ = some x ∧ w1.cell? ⟨w.heap.size, 1, none⟩ = some y ∧ w1.cell? ⟨w.heap.size, 2, none⟩ = some z) ∧
    (w1.cell? ⟨w.heap.size + 1, 0, none⟩ = some x' ∧ w1.cell? ⟨w.heap.size + 1, 1, none⟩ = some y' ∧ w1.cell? ⟨w.heap.size + 1, 2, none⟩ = some z') ∧
    (w1.frozen? ⟨w.heap.size + 1, 0, none⟩ = false ∧ w1.frozen? ⟨w.heap.size + 1, 1, none⟩ = false ∧ w1.frozen? ⟨w.heap.size + 1, 2, none⟩ = false) ∧ w.heap.size + 1 < w1.heap.size := by
  obtain ⟨hc, hf⟩ := bcell hb
  have hz : w.heap.size + 1 < ((w.alloc (.cells #[x, y, z] t)).alloc (.cells #[x', y', z'] t')).heap.size := by simp
  have hz' : w.heap.size < ((w.alloc (.cells #[x, y, z] t)).alloc (.cells #[x', y', z'] t')).heap.size := by omega
  refine ⟨⟨?_, ?_, ?_⟩, ⟨?_, ?_, ?_⟩, ⟨?_, ?_, ?_⟩, Nat.lt_of_lt_of_le hz hb.size⟩
  · rw [hc _ _ hz']; simp [go_sem]
  · rw [hc _ _ hz']; simp [go_sem]
  · rw [hc _ _ hz']; simp [go_sem]
  · rw [hc _ _ hz]; simp [go_sem]
  · rw [hc _ _ hz]; simp [go_sem]
  · rw [hc _ _ hz]; simp [go_sem]
  · rw [hf _ _ hz]; simp [go_sem]
  · rw [hf _ _ hz]; simp [go_sem]
  · rw [hf _ _ hz]; simp [go_sem]

/-- Block g holds the bytes l from its first cell on; none of these cells is frozen. -/
structure BytesAt (w : World) (g : Nat) (l : List UInt8) : Prop where
  lt : g < w.heap.size
  cell : ∀ i, (h : i < l.length) → w.cell? ⟨g, i, none⟩ = some (.int .u8 (l[i].toNat : Int))
  free : ∀ i, i < l.length → w.frozen? ⟨g, i, none⟩ = false

theorem BytesAt.below {w w' : World} {g B : Nat} {l : List UInt8} (h : BytesAt w g l) (hb : Below B w w') (hg : g < B) : BytesAt w' g l :=
  ⟨Nat.lt_of_lt_of_le h.lt hb.size, fun i hi => (hb.cell (p := ⟨g, i, none⟩) hg).trans (h.cell i hi), fun i hi => (hb.frozen (p := ⟨g, i, none⟩) hg).trans (h.free i hi)⟩

theorem BytesAt.stays {w w' : World} {g : Nat} {l : List UInt8} (h : BytesAt w g l) (hs : w.heap.size ≤ w'.heap.size) (hb : w'.heap[g]? = w.heap[g]?) : BytesAt w' g l :=
  ⟨Nat.lt_of_lt_of_le h.lt hs, fun i hi => (World.cell?_of_block (a := ⟨g, i, none⟩) hb).trans (h.cell i hi), fun i hi => (World.frozen?_of_block (a := ⟨g, i, none⟩) hb).trans (h.free i hi)⟩

theorem BytesAt.alloc {w : World} {g : Nat} {l : List UInt8} (h : BytesAt w g l) (o : Obj) : BytesAt (w.alloc o) g l :=
  h.stays (by simp) (Below.heap_alloc _ _ _ h.lt)

theorem BytesAt.drew {w : World} {g : Nat} {l : List UInt8} (h : BytesAt w g l) : BytesAt w.drew g l := ⟨h.lt, h.cell, h.free⟩

theorem BytesAt.set {w : World} {g : Nat} {l : List UInt8} (h : BytesAt w g l) (k : Nat) (hk : k < l.length) (c : UInt8) :
    BytesAt (w.setCell ⟨g, k, none⟩ (.int .u8 (c.toNat : Int))) g (l.set k c) := by
  refine ⟨by simpa [World.setCell] using h.lt, fun i hi => ?_, fun i hi => ?_⟩
  · have hi' : i < l.length := by simpa using hi
    by_cases hik : i = k
    · subst hik
      rw [World.cell?_setCell_same _ _ _ (h.cell i hi')]
      simp
    · rw [World.cell?_setCell_other _ _ _ _ (by intro e; injection e with _ e2 _; exact hik e2.symm), h.cell i hi']
      rw [List.getElem_set_ne (by omega)]
  · have hi' : i < l.length := by simpa using hi
    rw [World.frozen?_setCell]
    exact h.free i hi'

theorem BytesAt.string {P : Program} {w : World} {g : Nat} {l : List UInt8} (h : BytesAt w g l) (src e dst : TypeId) (hs : P.underlying src = some (.slice e)) (he : P.underlying e = some (.int .u8))
    (hd : P.underlying dst = some .string) (n cap : Nat) (hn : n = l.length) : (convert src dst (.slice (some ⟨g, 0, none⟩) n cap)).run P w = .ok (.string ⟨l.toArray⟩) w := by
  have := run_convert_bytes_arg (P := P) w src e hs he g 0 n cap (l.map fun c => (c.toNat : Int)) (by simp [hn]) (fun i hi => by
    rw [Nat.zero_add, h.cell i (by omega)]
    simp [List.getD, List.getElem?_eq_getElem (show i < l.length by omega)]) dst hd
  rw [this]
  have e1 : strOfNums (l.map fun c => (c.toNat : Int)) = ⟨l.toArray⟩ := by
    unfold strOfNums
    rw [List.map_map]
    congr 2
    conv => rhs; rw [← List.map_id l]
    refine List.map_congr_left fun c _ => ?_
    simp
  rw [e1]

/-- []byte(s): what the new row holds. -/
theorem BytesAt.made (w : World) (e : TypeId) (s : ByteArray) (c : Nat) :
    BytesAt (w.drew.alloc (.cells (bytesRow s c) e ((bytesRow s c).size, (bytesRow s c).size + 1))) w.heap.size s.data.toList := by
  have hh : (w.drew.alloc (.cells (bytesRow s c) e ((bytesRow s c).size, (bytesRow s c).size + 1))).heap[w.heap.size]? = some (.cells (bytesRow s c) e ((bytesRow s c).size, (bytesRow s c).size + 1)) := by
    show (w.heap.push _)[w.heap.size]? = _
    simp
  have hsz : s.data.toList.length ≤ (bytesRow s c).size := by simp [bytesRow]
  refine ⟨by show w.heap.size < (w.heap.push _).size; simp, fun i hi => ?_, fun i hi => ?_⟩
  · rw [show (World.cell? _ ⟨w.heap.size, i, none⟩) = (bytesRow s c)[i]? from by unfold World.cell?; rw [hh]; simp]
    have hi' : i < s.data.size := by simpa using hi
    rw [bytesRow, Array.getElem?_append_left (by simpa using hi'), Array.getElem?_map, Array.getElem?_eq_getElem hi']
    simp
  · unfold World.frozen?
    rw [hh]
    simp
    omega

/-- A row that is owned, of bytes. -/
theorem BytesAt.of_owns {w : World} {base : Nat} {e : TypeId} {g n cap : Nat} {l : List UInt8} (h : w.ownsRow base e 1 (.slice (some ⟨g, 0, none⟩) n cap) n (l.map fun c => .int .u8 (c.toNat : Int))) : BytesAt w g l := by
  have hl : l.length = n := by simpa using h.1
  refine ⟨(h.lt g rfl).2, fun i hi => ?_, fun i _ => h.frozenAt i⟩
  rw [h.cellAt i (by omega)]
  simp [List.getElem?_eq_getElem hi]

/-- An owned value that holds something is no nil slice. -/
theorem owns_form {w : World} {base : Nat} {e : TypeId} {size : Nat} {v : Value} {n : Nat} {xs : List Value} (h : w.ownsRow base e size v n xs) (hn : v ≠ .slice none 0 0) : ∃ g cap, v = .slice (some ⟨g, 0, none⟩) n cap ∧ base ≤ g ∧ g < w.heap.size ∧ n ≤ cap := by
  rcases h.2 with ⟨rfl, _⟩ | ⟨g, cap, cur, rfl, hb, hg, hc, _⟩
  · exact absurd rfl hn
  · exact ⟨g, cap, rfl, hb, (Array.getElem?_eq_some_iff.1 hg).1, hc⟩
end Go.Proofs.YtfnjcgakcpadiaaGreatDoor

/-
  A region that draws its order, whose operations only read and whose callees leave all that was there as it was: walked once.
-/
namespace Go.Proofs.YtfnjcgakcpadiaaGreatDoor
open Go Go.RowKit

/-- A world that keeps all that lay in w. -/
structure BelowOf (w : World) where
  world : World
  h : Below w.heap.size w world

instance (w : World) : Inhabited (BelowOf w) := ⟨⟨w, Below.refl _ _⟩⟩

theorem BelowOf.cell {w : World} {b o : Nat} {v : Value} (hc : w.cell? ⟨b, o, none⟩ = some v) (hb : b < w.heap.size) (p : BelowOf w) : p.world.cell? ⟨b, o, none⟩ = some v :=
  (p.h.cell (p := ⟨b, o, none⟩) hb).trans hc

theorem BelowOf.of {w w' : World} (h : ∃ p : BelowOf w, w' = p.world) : Below w.heap.size w w' := by
  obtain ⟨q, rfl⟩ := h
  exact q.h

theorem wp_region_quiet_below {P : Program} {id : Nat} {Q : Exit → Act → World → Prop} {a : Act} {w : World} {l : List Oper} (hm : P.follows .mixedOrders = true) (hB : Region.lexB .any l.toArray = true)
    (h : wpQuiet P l.toArray (fun w' => ∃ p : BelowOf w, w' = p.world) (fun a' => ∀ w', (∃ p : BelowOf w, w' = p.world) → Q .normal a' w') l a) : (Code.region id l.toArray true).wp P Q a w :=
  wp_region_quiet (C := fun w' => ∃ p : BelowOf w, w' = p.world) hm hB ⟨⟨w.drew, (Below.refl _ _).drew⟩, rfl⟩ (by simpa using h)

theorem Calls.below_of {P : Program} {f : FuncId} {args : Array Value} {w : World} {p : BelowOf w} {v : Value}
    (h : Calls P f args p.world fun e w' => e = .returned v ∧ Below p.world.heap.size p.world w') : Calls P f args p.world fun e w'' => e = .returned v ∧ ∃ q : BelowOf w, w'' = q.world :=
  h.mono fun _ w'' ⟨he, hb⟩ => ⟨he, ⟨w'', below_via p.h hb⟩, rfl⟩

theorem Calls.below_of_same {P : Program} {f : FuncId} {args : Array Value} {w : World} {p : BelowOf w} {v : Value}
    (h : Calls P f args p.world fun e w' => e = .returned v ∧ p.world = w') : Calls P f args p.world fun e w'' => e = .returned v ∧ ∃ q : BelowOf w, w'' = q.world :=
  h.mono fun _ _ ⟨he, hb⟩ => ⟨he, p, hb.symm⟩
/-- The lexical walk behind a wall that no unfolding looks through. -/
structure WQ (P : Program) (ops : Array Oper) (C : World → Prop) (Q : Act → Prop) (l : List Oper) (a : Act) : Prop where
  h : wpQuiet P ops C Q l a

theorem WQ.nil {P : Program} {ops : Array Oper} {C : World → Prop} {Q : Act → Prop} {a : Act} (h : Q a) : WQ P ops C Q [] a := ⟨wpQuiet_nil h⟩
theorem WQ.step {P : Program} {ops : Array Oper} {C : World → Prop} {Q : Act → Prop} {a : Act} {o : Oper} {rest : List Oper}
    (h : ∀ K : Act → Prop, (∀ a, WQ P ops C Q rest a → K a) → if Region.wanted o (yielded ops a.tmps) then o.quiet P a C K else K (a.put o.dst undef)) : WQ P ops C Q (o :: rest) a :=
  ⟨wpQuiet_step fun K hK => h K fun a ha => hK a ha.h⟩

theorem wp_region_wq {P : Program} {id : Nat} {Q : Exit → Act → World → Prop} {a : Act} {w : World} {l : List Oper} (hm : P.follows .mixedOrders = true) (hB : Region.lexB .any l.toArray = true)
    (h : WQ P l.toArray (fun w' => ∃ p : BelowOf w, w' = p.world) (fun a' => ∀ w', (∃ p : BelowOf w, w' = p.world) → Q .normal a' w') l a) : (Code.region id l.toArray true).wp P Q a w :=
  wp_region_quiet_below hm hB h.h
end Go.Proofs.YtfnjcgakcpadiaaGreatDoor

/-
  The cursor of the draws: what a drawing function leaves of it, and in what bounds its answer lies.
-/
namespace Go.Proofs.YtfnjcgakcpadiaaGreatDoor
open Go.RowKit Go.Lib

/-- A cursor in block p, over a row of bytes that came in below B. -/
structure Cur (B : Nat) (w : World) (p : Nat) : Prop where
  low : B ≤ p
  lt : p < w.heap.size
  ex : ∃ (a : Option Addr) (n c : Nat) (i h : Int) (z : Nat → Int), w.cell? ⟨p, 0, none⟩ = some (.slice a n c) ∧ w.cell? ⟨p, 1, none⟩ = some (.int .i64 i) ∧ w.cell? ⟨p, 2, none⟩ = some (.int .i64 h) ∧
    w.frozen? ⟨p, 1, none⟩ = false ∧ w.frozen? ⟨p, 2, none⟩ = false ∧ 0 ≤ i ∧ i ≤ n ∧ n ≤ 1048576 ∧
    (n ≠ 0 → ∃ b off, a = some ⟨b, off, none⟩ ∧ b < B ∧ ∀ j, j < n → w.cell? ⟨b, off + j, none⟩ = some (.int .u8 (z j)) ∧ 0 ≤ z j ∧ z j < 256)

theorem Cur.other {B : Nat} {w w' : World} {p g : Nat} (h : Cur B w p) (hg : w.grownBy w' (some g)) (hB : B ≤ g) (hne : p ≠ g) : Cur B w' p := by
  obtain ⟨a, n, c, i, hh, z, c0, c1, c2, f1, f2, i0, i1, n1, hz⟩ := h.ex
  have hb : w'.heap[p]? = w.heap[p]? := hg.block p h.lt (fun e => hne (by injection e))
  refine ⟨h.low, Nat.lt_of_lt_of_le h.lt hg.size, a, n, c, i, hh, z, (World.cell?_of_block (a := ⟨p, 0, none⟩) hb).trans c0, (World.cell?_of_block (a := ⟨p, 1, none⟩) hb).trans c1, (World.cell?_of_block (a := ⟨p, 2, none⟩) hb).trans c2,
    (World.frozen?_of_block (a := ⟨p, 1, none⟩) hb).trans f1, (World.frozen?_of_block (a := ⟨p, 2, none⟩) hb).trans f2, i0, i1, n1, fun hn => ?_⟩
  obtain ⟨b, off, rfl, hbB, hcell⟩ := hz hn
  exact ⟨b, off, rfl, hbB, fun j hj => ⟨(World.cell?_of_block (a := ⟨b, off + j, none⟩) (hg.block b (World.block_lt_of_cell? w _ (hcell j hj).1) (fun e => by injection e; omega))).trans (hcell j hj).1, (hcell j hj).2⟩⟩

theorem Cur.below {B : Nat} {w w' : World} {p : Nat} (h : Cur B w p) (hb : Below w.heap.size w w') : Cur B w' p := by
  obtain ⟨a, n, c, i, hh, z, c0, c1, c2, f1, f2, i0, i1, n1, hz⟩ := h.ex
  have hk := hb.block p h.lt
  refine ⟨h.low, Nat.lt_of_lt_of_le h.lt hb.size, a, n, c, i, hh, z, (World.cell?_of_block (a := ⟨p, 0, none⟩) hk).trans c0, (World.cell?_of_block (a := ⟨p, 1, none⟩) hk).trans c1, (World.cell?_of_block (a := ⟨p, 2, none⟩) hk).trans c2,
    (World.frozen?_of_block (a := ⟨p, 1, none⟩) hk).trans f1, (World.frozen?_of_block (a := ⟨p, 2, none⟩) hk).trans f2, i0, i1, n1, fun hn => ?_⟩
  obtain ⟨b, off, rfl, hbB, hcell⟩ := hz hn
  exact ⟨b, off, rfl, hbB, fun j hj => ⟨(World.cell?_of_block (a := ⟨b, off + j, none⟩) (hb.block b (World.block_lt_of_cell? w _ (hcell j hj).1))).trans (hcell j hj).1, (hcell j hj).2⟩⟩

theorem bits_and_i64_255 (a : Int) : 0 ≤ bits .and .i64 a 255 ∧ bits .and .i64 a 255 < 256 := by
  have h : bits .and .i64 a 255 = IntKind.i64.wrap ((BitVec.ofInt 64 a &&& BitVec.ofInt 64 255).toNat : Int) := rfl
  have h2 : (BitVec.ofInt 64 a &&& BitVec.ofInt 64 255).toNat ≤ 255 := by
    rw [BitVec.toNat_and]
    exact Nat.le_trans Nat.and_le_right (by decide)
  rw [h, IntKind.wrap_i64]
  omega

theorem grown_drew {a w : World} {row : Option Nat} (h : a.grownBy w row) : a.grownBy w.drew row := ⟨h.os, h.tape, h.output, h.size, h.block⟩

theorem grown_drewN {a w : World} {row : Option Nat} (h : a.grownBy w row) (n : Nat) : a.grownBy (w.drewN n) row := ⟨h.os, h.tape, h.output, h.size, h.block⟩

set_option maxRecDepth 100000 in
set_option maxHeartbeats 800000 in
theorem l1ByteC {B p : Nat} {w : World} (h : Cur B w p) : Calls Tryz.prog 80 #[.pointer (some ⟨p, 0, none⟩)] w fun e w' => ∃ x : Int, e = .returned (.int .i64 x) ∧ 0 ≤ x ∧ x < 256 ∧ Cur B w' p ∧ w.grownBy w' (some p) := by
  obtain ⟨a, n, c, i, hh, z, c0, c1, c2, f1, f2, i0, i1, n1, hz⟩ := h.ex
  have hlt := h.lt
  by_cases hin : i < n
  · obtain ⟨b, off, rfl, hbB, hcell⟩ := hz (by omega)
    obtain ⟨k, rfl⟩ : ∃ k : Nat, i = k := ⟨i.toNat, by omega⟩
    obtain ⟨e1, z0, z1⟩ := hcell k (by omega)
    have hnp : b ≠ p := by have := h.low; omega
    have HC := hide hcell
    clear hz hcell
    go_enter Tryz.func80, Tryz.ntmps80
    go_wp2_with fail
    generalize wrap64 (wrap64 (hh * 6364136223846793005) + 1442695040888963407) = h2
    go_quiet (fail)
    go_wp2_with fail
    obtain ⟨x0, x1⟩ := bits_and_i64_255 (bits .xor .i64 (h2 / 8589934592) (h2 / 35184372088832))
    generalize bits .and .i64 (bits .xor .i64 (h2 / 8589934592) (h2 / 35184372088832)) 255 = x at x0 x1 ⊢
    go_quiet (fail)
    go_wp2_with fail
    go_quiet (fail)
    go_wp2_with fail
    go_ret
    refine ⟨_, rfl, (bits_and_i64_255 _).1, (bits_and_i64_255 _).2, ⟨h.low, by simpa [World.setCell] using hlt, some ⟨b, off, none⟩, n, c, (k : Int) + 1, h2, z, by go_simp, by go_simp, by go_simp, by go_simp, by go_simp, by omega, by omega, n1, fun hn => ⟨b, off, rfl, hbB, fun j hj => ⟨?_, (HC.out j hj).2⟩⟩⟩, by repeat (first | (with_reducible exact World.grownBy.refl _ _) | (with_reducible refine grown_drewN ?_ _) | (with_reducible refine grown_drew ?_) | (with_reducible refine grownBy_setB ?_ _ _))⟩
    have e2 := (HC.out j hj).1
    go_simp
  · have hi : i = n := by omega
    subst hi
    have HZ := hide hz
    clear hz
    go_enter Tryz.func80, Tryz.ntmps80
    go_wp2_with fail
    generalize wrap64 (wrap64 (hh * 6364136223846793005) + 1442695040888963407) = h2
    go_quiet (fail)
    go_wp2_with fail
    obtain ⟨x0, x1⟩ := bits_and_i64_255 (bits .xor .i64 (h2 / 8589934592) (h2 / 35184372088832))
    generalize bits .and .i64 (bits .xor .i64 (h2 / 8589934592) (h2 / 35184372088832)) 255 = x at x0 x1 ⊢
    go_quiet (fail)
    go_wp2_with fail
    go_ret
    refine ⟨_, rfl, x0, x1, ⟨h.low, by simpa [World.setCell] using hlt, a, n, c, (n : Int), h2, z, by go_simp, by go_simp, by go_simp, by go_simp, by go_simp, by omega, by omega, n1, fun hn => ?_⟩, by repeat (first | (with_reducible exact World.grownBy.refl _ _) | (with_reducible refine grown_drewN ?_ _) | (with_reducible refine grown_drew ?_) | (with_reducible refine grownBy_setB ?_ _ _))⟩
    obtain ⟨b, off, rfl, hbB, hcell⟩ := HZ.out hn
    have hnp : b ≠ p := by have := h.low; omega
    refine ⟨b, off, rfl, hbB, fun j hj => ⟨?_, (hcell j hj).2⟩⟩
    have e2 := (hcell j hj).1
    go_simp
end Go.Proofs.YtfnjcgakcpadiaaGreatDoor

/-
  The drawing functions over the cursor: l1Below, l1Once, l1PickInt, l1Pick.
-/
namespace Go.Proofs.YtfnjcgakcpadiaaGreatDoor
open Go.RowKit Go.Lib

set_option maxRecDepth 100000 in
set_option maxHeartbeats 800000 in
theorem l1BelowC {B p : Nat} {w : World} (h : Cur B w p) (n : Int) : Calls Tryz.prog 51 #[.pointer (some ⟨p, 0, none⟩), .int .i64 n] w fun e w' => ∃ x : Int, e = .returned (.int .i64 x) ∧ 0 ≤ x ∧ (0 < n → x < n) ∧ Cur B w' p ∧ w.grownBy w' (some p) := by
  by_cases h0 : n ≤ 0
  · go_enter Tryz.func51, Tryz.ntmps51
    go_wp2_with fail
    go_ret
    exact ⟨0, rfl, by omega, by omega, h, World.grownBy.refl _ _⟩
  · have hp : 0 < n := by omega
    have e0 : (n == 0) = false := by simp; omega
    have e1 : ¬ n = 0 := by omega
    have e2 : ¬ n = -1 := by omega
    by_cases h1 : n ≤ 256
    · go_enter Tryz.func51, Tryz.ntmps51
      go_wp2_with fail
      refine (l1ByteC h).mono ?_
      rintro e w1 ⟨x, rfl, x0, x1, hc1, hg1⟩
      go_wp2_with fail
      go_ret
      exact ⟨x % n, rfl, Int.emod_nonneg _ (by omega), fun _ => Int.emod_lt_of_pos _ hp, hc1, hg1⟩
    · go_enter Tryz.func51, Tryz.ntmps51
      go_wp2_with fail
      refine (l1ByteC h).mono ?_
      rintro e w1 ⟨x, rfl, x0, x1, hc1, hg1⟩
      go_wp2_with fail
      refine (l1ByteC hc1).mono ?_
      rintro e w2 ⟨y, rfl, y0, y1, hc2, hg2⟩
      have hg2' := grownBy_trans hg1 hg2
      clear hg1 hg2 hc1
      go_wp2_with fail
      refine (l1ByteC hc2).mono ?_
      rintro e w3 ⟨z, rfl, z0, z1, hc3, hg3⟩
      have hg3' := grownBy_trans hg2' hg3
      clear hg2' hg3 hc2
      go_wp2_with fail
      refine (l1ByteC hc3).mono ?_
      rintro e w4 ⟨v, rfl, v0, v1, hc4, hg4⟩
      have hg4' := grownBy_trans hg3' hg4
      clear hg3' hg4 hc3
      go_wp2_with fail
      go_ret
      exact ⟨_ % n, rfl, Int.emod_nonneg _ (by omega), fun _ => Int.emod_lt_of_pos _ hp, hc4, hg4'⟩

theorem l1OnceC {B p : Nat} {w : World} (h : Cur B w p) (n : Int) : Calls Tryz.prog 23 #[.pointer (some ⟨p, 0, none⟩), .int .i64 n] w fun e w' => ∃ b : Bool, e = .returned (.bool b) ∧ Cur B w' p ∧ w.grownBy w' (some p) := by
  go_enter Tryz.func23, Tryz.ntmps23
  go_wp2_with fail
  refine (l1BelowC h n).mono ?_
  rintro e w1 ⟨x, rfl, x0, x1, hc1, hg1⟩
  go_wp2_with fail
  all_goals go_ret
  all_goals exact ⟨_, rfl, hc1, hg1⟩
set_option maxRecDepth 100000 in
theorem l1PickIntC {B p b n c : Nat} {w : World} {f : Nat → Int} (h : Cur B w p) (hn : 0 < n) (hn1 : n ≤ 1048576) (hbp : b ≠ p) (hf : ∀ j, j < n → w.cell? ⟨b, j, none⟩ = some (.int .i64 (f j))) :
    Calls Tryz.prog 83 #[.pointer (some ⟨p, 0, none⟩), .slice (some ⟨b, 0, none⟩) n c] w fun e w' => ∃ j, j < n ∧ e = .returned (.int .i64 (f j)) ∧ Cur B w' p ∧ w.grownBy w' (some p) := by
  have HF := hide hf
  clear hf
  go_enter Tryz.func83, Tryz.ntmps83
  go_wp2_with fail
  refine (l1BelowC h n).mono ?_
  rintro e w1 ⟨x, rfl, x0, x1, hc1, hg1⟩
  obtain ⟨j, rfl⟩ : ∃ j : Nat, x = j := ⟨x.toNat, by omega⟩
  have hj : j < n := by have := x1 (by omega); omega
  have hcell := hg1.cell (HF.out j hj) (by intro e; injection e with e; exact hbp e)
  have HC := hide (And.intro hc1 hg1)
  clear x1 hc1 hg1
  go_wp2_with fail
  go_ret
  exact ⟨j, hj, rfl, HC.out.1, HC.out.2⟩

set_option maxRecDepth 100000 in
theorem l1PickC {B p b n c : Nat} {w : World} {f : Nat → ByteArray} (h : Cur B w p) (hn : 0 < n) (hn1 : n ≤ 1048576) (hbp : b ≠ p) (hf : ∀ j, j < n → w.cell? ⟨b, j, none⟩ = some (.string (f j))) :
    Calls Tryz.prog 52 #[.pointer (some ⟨p, 0, none⟩), .slice (some ⟨b, 0, none⟩) n c] w fun e w' => ∃ j, j < n ∧ e = .returned (.string (f j)) ∧ Cur B w' p ∧ w.grownBy w' (some p) := by
  have HF := hide hf
  clear hf
  go_enter Tryz.func52, Tryz.ntmps52
  go_wp2_with fail
  refine (l1BelowC h n).mono ?_
  rintro e w1 ⟨x, rfl, x0, x1, hc1, hg1⟩
  obtain ⟨j, rfl⟩ : ∃ j : Nat, x = j := ⟨x.toNat, by omega⟩
  have hj : j < n := by have := x1 (by omega); omega
  have hcell := hg1.cell (HF.out j hj) (by intro e; injection e with e; exact hbp e)
  have HC := hide (And.intro hc1 hg1)
  clear x1 hc1 hg1
  go_wp2_with fail
  go_ret
  exact ⟨j, hj, rfl, HC.out.1, HC.out.2⟩
end Go.Proofs.YtfnjcgakcpadiaaGreatDoor

/-
  l1New, l1Whole.
-/
namespace Go.Proofs.YtfnjcgakcpadiaaGreatDoor
open Go.RowKit Go.Lib

/-- The bytes of a draw, that came in below B. -/
structure Code (B : Nat) (w : World) (a : Option Addr) (n : Nat) (z : Nat → Int) : Prop where
  n1 : n ≤ 1048576
  ex : n ≠ 0 → ∃ b off, a = some ⟨b, off, none⟩ ∧ b < B ∧ ∀ j, j < n → w.cell? ⟨b, off + j, none⟩ = some (.int .u8 (z j)) ∧ 0 ≤ z j ∧ z j < 256

theorem Code.below {B : Nat} {w w' : World} {a : Option Addr} {n : Nat} {z : Nat → Int} (h : Code B w a n z) (hb : Below B w w') : Code B w' a n z := by
  refine ⟨h.n1, fun hn => ?_⟩
  obtain ⟨b, off, rfl, hbB, hcell⟩ := h.ex hn
  exact ⟨b, off, rfl, hbB, fun j hj => ⟨(hb.cell (p := ⟨b, off + j, none⟩) hbB).trans (hcell j hj).1, (hcell j hj).2⟩⟩

theorem Cur.made {B : Nat} {w : World} {a : Option Addr} {n c : Nat} {h : Int} {z : Nat → Int} (t : TypeId) (hc : Code B w a n z) (hB : B ≤ w.heap.size) : Cur B (w.alloc (.cells #[.slice a n c, .int .i64 0, .int .i64 h] t)) w.heap.size := by
  refine ⟨hB, by simp, a, n, c, 0, h, z, by simp [go_sem], by simp [go_sem], by simp [go_sem], by simp [go_sem], by simp [go_sem], by omega, by omega, hc.n1, fun hn => ?_⟩
  obtain ⟨b, off, rfl, hbB, hcell⟩ := hc.ex hn
  have hlt : b < w.heap.size := by omega
  refine ⟨b, off, rfl, hbB, fun j hj => ⟨?_, (hcell j hj).2⟩⟩
  have e := (hcell j hj).1
  go_simp

set_option maxRecDepth 100000 in
set_option maxHeartbeats 800000 in
theorem l1NewC {B : Nat} {w : World} {a : Option Addr} {n : Nat} {z : Nat → Int} (c : Nat) (h : Code B w a n z) (hB : B ≤ w.heap.size) :
    Calls Tryz.prog 22 #[.slice a n c] w fun e w' => ∃ p, e = .returned (.pointer (some ⟨p, 0, none⟩)) ∧ Cur B w' p ∧ Below w.heap.size w w' := by
  have hn1 := h.n1
  have HH := hide h
  clear h
  go_enter Tryz.func22, Tryz.ntmps22
  go_wp2_with fail
  go_loopw [3, 4] (fun x y wr => ∃ (hv : Int) (j : Nat), x = .int .i64 hv ∧ y = .int .i64 j ∧ j ≤ n ∧ Below w.heap.size w wr) (fun _ y _ => n - (intOf y).toNat)
  case atStart => exact ⟨_, 0, rfl, rfl, by omega, by go_grown⟩
  case round =>
    obtain ⟨hv, j, rfl, rfl, hj, hb⟩ := hrel
    have HB := hide hb
    have hw := hb.size
    clear hb
    by_cases hlt : j < n
    · by_cases h4 : j < 4000
      · obtain ⟨b, off, rfl, hbB, hcell⟩ := HH.out.ex (by omega)
        obtain ⟨e1, z0, z1⟩ := hcell j hlt
        rw [← HB.out.cell (p := ⟨b, off + j, none⟩) (by show b < _; omega)] at e1
        clear hcell
        go_wp2_with fail
        go_roundw
        case rel => exact ⟨_, j + 1, rfl, by go_num, by omega, HB.out⟩
        case measure => simp [intOf]; omega
      · go_wp2_with fail
        go_ret
        exact ⟨wr.heap.size, rfl, Cur.made _ (HH.out.below (HB.out.mono hB)) (by omega), by have := HB.out; go_grown⟩
    · go_wp2_with fail
      go_ret
      exact ⟨wr.heap.size, rfl, Cur.made _ (HH.out.below (HB.out.mono hB)) (by omega), by have := HB.out; go_grown⟩
def wholeL : List Int := [0, 1, -1, 63, 64, -64, -65, 127, 128, 16383, 16384, 9223372036854775807, -9223372036854775808, 4611686018427387904]
theorem wholeL_in : ∀ j, j < 14 → -9223372036854775808 ≤ wholeL.getD j 0 ∧ wholeL.getD j 0 ≤ 9223372036854775807 := by decide

set_option maxRecDepth 100000 in
set_option maxHeartbeats 800000 in
theorem l1WholeC {B p : Nat} {w : World} (h : Cur B w p) : Calls Tryz.prog 54 #[.pointer (some ⟨p, 0, none⟩)] w fun e w' => ∃ x : Int, e = .returned (.int .i64 x) ∧ -9223372036854775808 ≤ x ∧ x ≤ 9223372036854775807 ∧ Cur B w' p ∧ w.grownBy w' (some p) := by
  go_enter Tryz.func54, Tryz.ntmps54
  go_wp2_with fail
  refine (l1BelowC h 3).mono ?_
  rintro e w1 ⟨x, rfl, x0, x1, hc1, hg1⟩
  have x2 := x1 (by omega)
  clear x1
  have h3 : x = 0 ∨ x = 1 ∨ x = 2 := by omega
  have H1 := hide (And.intro hc1 hg1)
  clear hc1 hg1 x0 x2
  rcases h3 with rfl | rfl | rfl
  · go_wp2_with fail
    have hlt := H1.out.1.lt
    refine (l1PickIntC (n := 14) (f := fun j => wholeL.getD j 0) (b := w1.heap.size) (H1.out.1.below (by go_grown)) (by omega) (by omega) (by omega) (fun j hj => ?_)).mono ?_
    · have : j = 0 ∨ j = 1 ∨ j = 2 ∨ j = 3 ∨ j = 4 ∨ j = 5 ∨ j = 6 ∨ j = 7 ∨ j = 8 ∨ j = 9 ∨ j = 10 ∨ j = 11 ∨ j = 12 ∨ j = 13 := by omega
      rcases this with rfl | rfl | rfl | rfl | rfl | rfl | rfl | rfl | rfl | rfl | rfl | rfl | rfl | rfl
      all_goals simp [go_sem, wholeL]
    · rintro e w2 ⟨j, hj, rfl, hc2, hg2⟩
      have H2 := hide (And.intro hc2 (grownBy_trans (grownBy_allocR H1.out.2 _) hg2))
      clear hc2 hg2
      go_wp2_with fail
      go_ret
      exact ⟨_, rfl, (wholeL_in j hj).1, (wholeL_in j hj).2, H2.out.1, H2.out.2⟩
  · go_wp2_with fail
    refine (l1BelowC H1.out.1 1000000).mono ?_
    rintro e w2 ⟨y, rfl, y0, y1, hc2, hg2⟩
    have y2 := y1 (by omega)
    have H2 := hide (And.intro hc2 (grownBy_trans H1.out.2 hg2))
    clear y1 hc2 hg2
    go_wp2_with fail
    go_ret
    exact ⟨y - 500000, rfl, by omega, by omega, H2.out.1, H2.out.2⟩
  · go_wp2_with fail
    refine (l1BelowC H1.out.1 20).mono ?_
    rintro e w2 ⟨y, rfl, y0, y1, hc2, hg2⟩
    have y2 := y1 (by omega)
    have H2 := hide (And.intro hc2 (grownBy_trans H1.out.2 hg2))
    clear y1 hc2 hg2
    go_wp2_with fail
    go_ret
    exact ⟨y, rfl, by omega, by omega, H2.out.1, H2.out.2⟩
end Go.Proofs.YtfnjcgakcpadiaaGreatDoor

/-
  A law's argument as the bytes of a draw.
-/
namespace Go.Proofs.YtfnjcgakcpadiaaGreatDoor
open Go.RowKit Go.Lib

/-- A slice of integers that came in: nil, or a row of 'cap' cells that holds zs. -/
def IsRow (k : IntKind) (w : World) (a : Option Addr) (len cap : Nat) (zs : List Int) : Prop :=
  (a = none ∧ len = 0 ∧ cap = 0 ∧ zs = []) ∨
  ∃ x, a = some x ∧ len ≤ cap ∧ cap ≤ maxLen ∧ zs.length = cap ∧ (∀ i, i < zs.length → w.cell? (x.add i) = some (.int k (zs.getD i 0))) ∧ ∀ n ∈ zs, (Lit.int k n).wf = true

theorem Code.of_row {w : World} {a : Option Addr} {n c : Nat} {zs : List Int} (h : IsRow .u8 w a n c zs) (hn : n ≤ 1048576) : Code w.heap.size w a n (fun j => zs.getD j 0) := by
  refine ⟨hn, fun h0 => ?_⟩
  rcases h with ⟨_, rfl, _, _⟩ | ⟨x, rfl, hl, hm, hz, hcell, hwf⟩
  · exact absurd rfl h0
  · obtain ⟨b, off, spot⟩ := x
    have hc := hcell 0 (by omega)
    have hspot : spot = none := by simpa [Addr.add] using World.cell?_spot hc
    subst hspot
    have hb : b < w.heap.size := by simpa [Addr.add] using World.block_lt_of_cell? w _ hc
    refine ⟨b, off, rfl, hb, fun j hj => ?_⟩
    have hj' : j < zs.length := by omega
    have e := hcell j hj'
    have hw := hwf (zs.getD j 0) (by simp [List.getD, List.getElem?_eq_getElem hj'])
    have hbd := bounds_u8 hw
    refine ⟨?_, by omega, by omega⟩
    rw [← e]
    by_cases h00 : j = 0
    · subst h00; simp [Addr.add]
    · simp [Addr.add, h00]

theorem IsRow.len_le {k : IntKind} {w : World} {a : Option Addr} {n c : Nat} {zs : List Int} (h : IsRow k w a n c zs) : n ≤ maxLen := by
  rcases h with ⟨_, rfl, _, _⟩ | ⟨x, rfl, hl, hm, _⟩
  · unfold maxLen; omega
  · omega

theorem Code.mono {B B' : Nat} {w : World} {a : Option Addr} {n : Nat} {z : Nat → Int} (h : Code B w a n z) (hB : B ≤ B') : Code B' w a n z := by
  refine ⟨h.n1, fun hn => ?_⟩
  obtain ⟨b, off, rfl, hbB, hcell⟩ := h.ex hn
  exact ⟨b, off, rfl, by omega, hcell⟩

theorem bigC {w : World} (a : Option Addr) (n c : Nat) (hn : n ≤ maxLen) : Calls Tryz.prog 7 #[.slice a n c] w fun e w' => e = .returned (.bool (decide (1048576 < n))) ∧ w = w' := by
  unfold maxLen at hn
  by_cases h : 1048576 < n
  · go_enter Tryz.func7, Tryz.ntmps7
    go_wp2_with fail
    go_ret
    exact ⟨ret_bool (by simp; omega), rfl⟩
  · go_enter Tryz.func7, Tryz.ntmps7
    go_wp2_with fail
    go_ret
    exact ⟨ret_bool (by simp; omega), rfl⟩
end Go.Proofs.YtfnjcgakcpadiaaGreatDoor

/-
  What a drawing function leaves: the cursor, and all else as it was.
-/
namespace Go.Proofs.YtfnjcgakcpadiaaGreatDoor
open Go.RowKit Go.Lib

theorem Cur.alloc' {B p : Nat} {w : World} (h : Cur B w p) (o : Obj) : Cur B (w.alloc o) p := h.below ((Below.refl _ _).alloc (Nat.le_refl _) _)

structure Dr (B p : Nat) (w w' : World) : Prop where
  cur : Cur B w' p
  grown : w.grownBy w' (some p)

theorem Dr.refl {B p : Nat} {w : World} (h : Cur B w p) : Dr B p w w := ⟨h, ⟨rfl, rfl, rfl, Nat.le_refl _, fun _ _ _ => rfl⟩⟩
theorem Dr.step {B p : Nat} {w a b : World} (h : Dr B p w a) (hc : Cur B b p) (hg : a.grownBy b (some p)) : Dr B p w b := ⟨hc, grownBy_trans h.grown hg⟩
theorem Dr.trans {B p : Nat} {w a b : World} (h : Dr B p w a) (k : Dr B p a b) : Dr B p w b := h.step k.cur k.grown
theorem Dr.alloc {B p : Nat} {w a : World} (h : Dr B p w a) (o : Obj) : Dr B p w (a.alloc o) := h.step (h.cur.alloc' o) (World.grownBy_alloc _ _ _)
theorem Dr.below {B p : Nat} {w a b : World} (h : Dr B p w a) (hb : Below a.heap.size a b) : Dr B p w b := ⟨h.cur.below hb, grownBy_below h.grown hb⟩
theorem Dr.lt {B p : Nat} {w a : World} (h : Dr B p w a) : p < a.heap.size := h.cur.lt
/-- A cell of another block, from the first world. -/
theorem Dr.cell {B p : Nat} {w a : World} (h : Dr B p w a) {b o : Nat} {v : Value} (hc : w.cell? ⟨b, o, none⟩ = some v) (hne : b ≠ p) : a.cell? ⟨b, o, none⟩ = some v :=
  h.grown.cell hc (by intro e; injection e with e; exact hne e)
theorem Dr.toBelow {B p : Nat} {w0 w a : World} (h : Dr B p w a) (h0 : Below w0.heap.size w0 w) (hB : w0.heap.size ≤ B) (hl : B ≤ p) : Below w0.heap.size w0 a :=
  Below.grown h0 h.grown h0.size (fun k hk => by cases hk; omega)
theorem Dr.set {B p : Nat} {w a : World} (h : Dr B p w a) (hp : p < w.heap.size) {b : Nat} (hb : w.heap.size ≤ b) (i : Nat) (v : Value) : Dr B p w (a.setCell ⟨b, i, none⟩ v) := by
  have hg : a.grownBy (a.setCell ⟨b, i, none⟩ v) (some b) := grownBy_setCell a b i v
  refine ⟨h.cur.other hg (by have := h.cur.low; omega) (by omega), hg.os.trans h.grown.os, hg.tape.trans h.grown.tape, hg.output.trans h.grown.output, Nat.le_trans h.grown.size hg.size, fun k hk hne => ?_⟩
  rw [hg.block k (Nat.lt_of_lt_of_le hk h.grown.size) (by intro e; injection e with e; omega)]
  exact h.grown.block k hk hne

/-- Three cells of a block, that may be written. -/
structure C3 (w : World) (b : Nat) (x y z : Value) : Prop where
  lt : b < w.heap.size
  c : w.cell? ⟨b, 0, none⟩ = some x ∧ w.cell? ⟨b, 1, none⟩ = some y ∧ w.cell? ⟨b, 2, none⟩ = some z
  f : w.frozen? ⟨b, 0, none⟩ = false ∧ w.frozen? ⟨b, 1, none⟩ = false ∧ w.frozen? ⟨b, 2, none⟩ = false

theorem C3.made (w : World) (x y z : Value) (t : TypeId) : C3 (w.alloc (.cells #[x, y, z] t)) w.heap.size x y z :=
  ⟨by simp, ⟨by simp [go_sem], by simp [go_sem], by simp [go_sem]⟩, ⟨by simp [go_sem], by simp [go_sem], by simp [go_sem]⟩⟩
theorem C3.stays {w a : World} {b : Nat} {x y z : Value} (h : C3 w b x y z) (hs : w.heap.size ≤ a.heap.size) (hb : a.heap[b]? = w.heap[b]?) : C3 a b x y z :=
  ⟨Nat.lt_of_lt_of_le h.lt hs, ⟨(World.cell?_of_block (a := ⟨b, 0, none⟩) hb).trans h.c.1, (World.cell?_of_block (a := ⟨b, 1, none⟩) hb).trans h.c.2.1, (World.cell?_of_block (a := ⟨b, 2, none⟩) hb).trans h.c.2.2⟩,
    ⟨(World.frozen?_of_block (a := ⟨b, 0, none⟩) hb).trans h.f.1, (World.frozen?_of_block (a := ⟨b, 1, none⟩) hb).trans h.f.2.1, (World.frozen?_of_block (a := ⟨b, 2, none⟩) hb).trans h.f.2.2⟩⟩
theorem C3.grown {w a : World} {b p : Nat} {x y z : Value} (h : C3 w b x y z) (hg : w.grownBy a (some p)) (hne : b ≠ p) : C3 a b x y z :=
  h.stays hg.size (hg.block b h.lt (by intro e; injection e with e; exact hne e))
theorem C3.below {w a : World} {b : Nat} {x y z : Value} (h : C3 w b x y z) (hb : Below w.heap.size w a) : C3 a b x y z := h.stays hb.size (hb.block b h.lt)
theorem C3.alloc {w : World} {b : Nat} {x y z : Value} (h : C3 w b x y z) (o : Obj) : C3 (w.alloc o) b x y z := h.below ((Below.refl _ _).alloc (Nat.le_refl _) _)
end Go.Proofs.YtfnjcgakcpadiaaGreatDoor
