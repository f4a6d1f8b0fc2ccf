/-
  DrawMulNum: two whole numbers drawn, or two of a list.
-/
import Derived.Test.YtnamikhhbedpeaaDrawP
namespace Go.Proofs.Ytnamikhhbedpeaa
open Go.RowKit Go.Lib

theorem Cur.alloc {B p : Nat} {w : World} (h : Cur B w p) (o : Obj) : Cur B (w.alloc o) p := h.below ((Below.refl _ _).alloc (Nat.le_refl _) _)

theorem pick6 {v : Array Value} {f : Nat → Int} (h : v = #[.int .i64 (f 0), .int .i64 (f 1), .int .i64 (f 2), .int .i64 (f 3), .int .i64 (f 4), .int .i64 (f 5)]) (w : World) (t : TypeId) (j : Nat) (hj : j < 6) :
    (w.alloc (.cells v t)).cell? ⟨w.heap.size, j, none⟩ = some (.int .i64 (f j)) := by
  subst h
  match j, hj with
  | 0, _ => go_simp
  | 1, _ => go_simp
  | 2, _ => go_simp
  | 3, _ => go_simp
  | 4, _ => go_simp
  | 5, _ => go_simp

def mulA (j : Nat) : Int := if j = 0 then 3037000499 else if j = 1 then 3037000500 else if j = 2 then -3037000500 else if j = 3 then 4294967296 else if j = 4 then -4294967296 else 2147483648
def mulB (j : Nat) : Int := if j = 0 then 3037000499 else if j = 1 then 3037000500 else if j = 2 then -3037000500 else if j = 3 then 2147483648 else if j = 4 then -2147483648 else 4294967296
theorem mulA_in (j : Nat) : In (mulA j) := by unfold mulA In; repeat (split; omega); omega
theorem mulB_in (j : Nat) : In (mulB j) := by unfold mulB In; repeat (split; omega); omega

set_option maxRecDepth 100000 in
theorem drawMulNumC {B : Nat} {w : World} {a : Option Addr} {n : Nat} {z : Nat → Int} (c : Nat) (h : Code B w a n z) (hB : B ≤ w.heap.size) :
    Calls Try.prog 36 #[.slice a n c] w fun e w' => ∃ x y : Int, e = .returned (.tuple #[.int .i64 x, .int .i64 y]) ∧ In x ∧ In y ∧ Below w.heap.size w w' := by
  go_enter Try.func36, Try.ntmps36
  go_wp2_with fail
  refine (l1NewC c (h.mono hB) (Nat.le_refl _)).mono ?_
  rintro e w1 ⟨p, rfl, hc1, hb1⟩
  have H1 := hide (And.intro hc1 hb1)
  clear hc1 hb1
  go_wp2_with fail
  refine (l1OnceC H1.out.1 _).mono ?_
  rintro e w2 ⟨b, rfl, hc2, hg2⟩
  have H2 := hide (And.intro hc2 (Below.grown H1.out.2 hg2 H1.out.2.size (fun k hk => by cases hk; exact H1.out.1.low)))
  clear hc2 hg2
  cases b
  · go_wp2_with fail
    refine (l6PairC c (h.below (H2.out.2.mono hB)) (Nat.le_trans hB H2.out.2.size)).mono ?_
    rintro e w3 ⟨x, y, rfl, hx, hy, hb3⟩
    have H3 := hide (below_via H2.out.2 hb3)
    clear hb3
    go_wp2_with fail
    go_returns
    exact ⟨x, y, rfl, hx, hy, H3.out⟩
  · go_wp2_with fail
    refine (l1PickIntC (f := mulA) (n := 6) (H2.out.1.alloc _) (by omega) (by omega) (by have := H2.out.1.lt; omega) (fun j hj => pick6 rfl _ _ j hj)).mono ?_
    rintro e w3 ⟨j, hj, rfl, hc3, hg3⟩
    have H3 := hide (And.intro hc3 (Below.grown (H2.out.2.alloc H2.out.2.size _) hg3 (by have := H2.out.2.size; simp; omega) (fun k hk => by cases hk; exact H1.out.1.low)))
    clear hc3 hg3
    go_wp2_with fail
    refine (l1PickIntC (f := mulB) (n := 6) (H3.out.1.alloc _) (by omega) (by omega) (by have := H3.out.1.lt; omega) (fun j hj => pick6 rfl _ _ j hj)).mono ?_
    rintro e w4 ⟨i, hi, rfl, hc4, hg4⟩
    have H4 := hide (Below.grown (H3.out.2.alloc H3.out.2.size _) hg4 (by have := H3.out.2.size; simp; omega) (fun k hk => by cases hk; exact H1.out.1.low))
    clear hc4 hg4
    go_wp2_with fail
    go_returns
    exact ⟨mulA j, mulB i, rfl, mulA_in j, mulB_in i, H4.out⟩
end Go.Proofs.Ytnamikhhbedpeaa
