/-
  Symmetric merging: what its exchanges do to a row, and that the row ascends in the end. No program text in sight.
-/
import Derived.Test.YtfikgiekigbaoaaSeg
namespace Go.Proofs.Ytfikgiekigbaoaa
open Go Go.RowKit

/-- Two ranges exchanged. -/
def swpF (x : Nat → Rw) (a b n t : Nat) : Rw := if a ≤ t ∧ t < a + n then x (b + (t - a)) else if b ≤ t ∧ t < b + n then x (a + (t - b)) else x t
/-- Two neighbouring ranges turned. -/
def rotF (x : Nat → Rw) (a m b t : Nat) : Rw := if a ≤ t ∧ t < a + (b - m) then x (t + (m - a)) else if a + (b - m) ≤ t ∧ t < b then x (t - (b - m)) else x t

theorem rot_step1 (x y : Nat → Rw) (i j m t N : Nat) (hj : 0 < j) (hij : j < i) (him : i ≤ m) (hN : m + j ≤ N) (ht : t < N) (hy : ∀ t, t < N → y t = swpF x (m - i) m j t) : rotF y (m - i + j) m (m + j) t = rotF x (m - i) m (m + j) t := by
  unfold rotF
  split
  · rw [hy _ (by omega)]; unfold swpF
    repeat' split
    all_goals first | omega | (congr 1 <;> omega)
  · split
    · rw [hy _ (by omega)]; unfold swpF
      repeat' split
      all_goals first | omega | (congr 1 <;> omega)
    · rw [hy _ ht]; unfold swpF
      repeat' split
      all_goals first | omega | (congr 1 <;> omega)
theorem rot_step2 (x y : Nat → Rw) (i j m t N : Nat) (hi : 0 < i) (hij : i < j) (him : i ≤ m) (hN : m + j ≤ N) (ht : t < N) (hy : ∀ t, t < N → y t = swpF x (m - i) (m + j - i) i t) : rotF y (m - i) m (m + (j - i)) t = rotF x (m - i) m (m + j) t := by
  unfold rotF
  split
  · rw [hy _ (by omega)]; unfold swpF
    repeat' split
    all_goals first | omega | (congr 1 <;> omega)
  · split
    · rw [hy _ (by omega)]; unfold swpF
      repeat' split
      all_goals first | omega | (congr 1 <;> omega)
    · rw [hy _ ht]; unfold swpF
      repeat' split
      all_goals first | omega | (congr 1 <;> omega)
theorem rot_end (x : Nat → Rw) (i m t : Nat) (him : i ≤ m) : swpF x (m - i) m i t = rotF x (m - i) m (m + i) t := by
  unfold swpF rotF
  repeat' split
  all_goals first | omega | (congr 1 <;> omega)
theorem swp_zero (x : Nat → Rw) (a b t : Nat) : swpF x a b 0 t = x t := by unfold swpF; rw [if_neg (by omega), if_neg (by omega)]
theorem swp_step (ps ds : Array Rw) (a b i t : Nat) (hab : a + (i + 1) ≤ b) (hb : b + (i + 1) ≤ ps.size) (hd : ds.size = ps.size) (h : ∀ t, t < ps.size → atR ds t = swpF (atR ps) a b i t) (ht : t < ps.size) :
    atR (ds.swap (a + i) (b + i) (by omega) (by omega)) t = swpF (atR ps) a b (i + 1) t := by
  rw [atR_swap _ _ _ _ _ _ (by omega)]
  split
  · rw [h _ (by omega)]; unfold swpF
    repeat' split
    all_goals first | omega | (congr 1 <;> omega)
  · split
    · rw [h _ (by omega)]; unfold swpF
      repeat' split
      all_goals first | omega | (congr 1 <;> omega)
    · rw [h _ ht]; unfold swpF
      repeat' split
      all_goals first | omega | (congr 1 <;> omega)
theorem rot_none1 (x : Nat → Rw) (m b t : Nat) (h : m ≤ b) : rotF x m m b t = x t := by
  unfold rotF; repeat' split
  all_goals first | omega | (congr 1 <;> omega)
theorem rot_none2 (x : Nat → Rw) (a m t : Nat) (h : a ≤ m) : rotF x a m m t = x t := by
  unfold rotF; repeat' split
  all_goals first | omega | (congr 1 <;> omega)

/-- One is carried to the right. -/
def shrF (x : Nat → Rw) (a k t : Nat) : Rw := if a ≤ t ∧ t < k then x (t + 1) else if t = k then x a else x t
/-- One is carried to the left. -/
def shlF (x : Nat → Rw) (m k t : Nat) : Rw := if t = k then x m else if k < t ∧ t ≤ m then x (t - 1) else x t
theorem shr_zero (x : Nat → Rw) (a t : Nat) : shrF x a a t = x t := by
  unfold shrF; rw [if_neg (by omega)]; split
  · rename_i h; rw [h]
  · rfl
theorem shl_zero (x : Nat → Rw) (m t : Nat) : shlF x m m t = x t := by
  unfold shlF; split
  · rename_i h; rw [h]
  · rw [if_neg (by omega)]
theorem shr_step (ps ds : Array Rw) (a k t : Nat) (hak : a ≤ k) (hk : k + 1 < ps.size) (hd : ds.size = ps.size) (h : ∀ t, t < ps.size → atR ds t = shrF (atR ps) a k t) (ht : t < ps.size) :
    atR (ds.swap k (k + 1) (by omega) (by omega)) t = shrF (atR ps) a (k + 1) t := by
  rw [atR_swap _ _ _ _ _ _ (by omega)]
  split
  · rw [h _ (by omega)]; unfold shrF
    repeat' split
    all_goals first | omega | (congr 1 <;> omega)
  · split
    · rw [h _ (by omega)]; unfold shrF
      repeat' split
      all_goals first | omega | (congr 1 <;> omega)
    · rw [h _ ht]; unfold shrF
      repeat' split
      all_goals first | omega | (congr 1 <;> omega)
theorem shl_step (ps ds : Array Rw) (m k t : Nat) (hkm : k + 1 ≤ m) (hm : m < ps.size) (hd : ds.size = ps.size) (h : ∀ t, t < ps.size → atR ds t = shlF (atR ps) m (k + 1) t) (ht : t < ps.size) :
    atR (ds.swap (k + 1) k (by omega) (by omega)) t = shlF (atR ps) m k t := by
  rw [atR_swap _ _ _ _ _ _ (by omega)]
  split
  · rw [h _ (by omega)]; unfold shlF
    repeat' split
    all_goals first | omega | (congr 1 <;> omega)
  · split
    · rw [h _ (by omega)]; unfold shlF
      repeat' split
      all_goals first | omega | (congr 1 <;> omega)
    · rw [h _ ht]; unfold shlF
      repeat' split
      all_goals first | omega | (congr 1 <;> omega)

/-- u goes before v. -/
def Le (u v : Rw) : Prop := ordR u.2 v.2 ≤ 0
theorem Le.trans {u v w : Rw} (h : Le u v) (k : Le v w) : Le u w := ordR_trans h k
theorem Le.of_not {u v : Rw} (h : ¬ ordR u.2 v.2 < 0) : Le v u := by unfold Le; rw [ordR_swap]; omega
/-- x ascends from a to b. -/
def AscF (a b : Nat) (x : Nat → Rw) : Prop := ∀ i j, a ≤ i → i < j → j < b → Le (x i) (x j)
theorem ascF_of {a b : Nat} {ps : Array Rw} (h : Asc a b ps) (hb : b ≤ ps.size) : AscF a b (atR ps) := fun i j h1 h2 h3 => h i j h1 h2 h3 (by omega)
theorem asc_of {a b : Nat} {ps : Array Rw} {y : Nat → Rw} (h : AscF a b y) (he : ∀ t, t < ps.size → atR ps t = y t) : Asc a b ps := fun i j h1 h2 h3 h4 => by
  rw [he i (by omega), he j h4]; exact h i j h1 h2 h3

/-- The first of the row is set into its place among the others. -/
theorem asc_shr {x : Nat → Rw} {a i b : Nat} (hai : a + 1 ≤ i) (hib : i ≤ b) (h2 : AscF (a + 1) b x) (hl : ∀ h, a + 1 ≤ h → h < i → Le (x h) (x a)) (hr : ∀ h, i ≤ h → h < b → Le (x a) (x h)) : AscF a b (shrF x a (i - 1)) := by
  intro s t h1 h3 h4
  unfold shrF
  by_cases c1 : s < i - 1
  · rw [if_pos ⟨h1, c1⟩]
    by_cases c2 : t < i - 1
    · rw [if_pos ⟨by omega, c2⟩]; exact h2 _ _ (by omega) (by omega) (by omega)
    · rw [if_neg (by omega)]
      by_cases c3 : t = i - 1
      · rw [if_pos c3]; exact hl _ (by omega) (by omega)
      · rw [if_neg c3]; exact h2 _ _ (by omega) (by omega) (by omega)
  · rw [if_neg (by omega), if_neg (show ¬ (a ≤ t ∧ t < i - 1) by omega), if_neg (show ¬ t = i - 1 by omega)]
    by_cases c3 : s = i - 1
    · rw [if_pos c3]; exact hr _ (by omega) (by omega)
    · rw [if_neg c3]; exact h2 _ _ (by omega) (by omega) (by omega)
/-- The last of the row is set into its place among the others. -/
theorem asc_shl {x : Nat → Rw} {a i m : Nat} (hai : a ≤ i) (him : i ≤ m) (h1 : AscF a m x) (hl : ∀ h, a ≤ h → h < i → Le (x h) (x m)) (hr : ∀ h, i ≤ h → h < m → Le (x m) (x h)) : AscF a (m + 1) (shlF x m i) := by
  intro s t k1 k2 k3
  unfold shlF
  by_cases c1 : s = i
  · rw [if_pos c1, if_neg (by omega), if_pos (by omega)]; exact hr _ (by omega) (by omega)
  · rw [if_neg c1]
    by_cases c2 : i < s ∧ s ≤ m
    · rw [if_pos c2, if_neg (by omega), if_pos (by omega)]; exact h1 _ _ (by omega) (by omega) (by omega)
    · rw [if_neg c2]
      by_cases c3 : t = i
      · rw [if_pos c3]; exact hl _ (by omega) (by omega)
      · rw [if_neg c3]
        by_cases c4 : i < t ∧ t ≤ m
        · rw [if_pos c4]
          by_cases c5 : s = t - 1
          · omega
          · exact h1 _ _ (by omega) (by omega) (by omega)
        · rw [if_neg c4]; exact h1 _ _ (by omega) (by omega) (by omega)

/-- What the search for the turning point has found. -/
structure Cut (x : Nat → Rw) (a m b mid s0 r0 s : Nat) : Prop where
  lo : s0 ≤ s
  hi : s ≤ r0
  f1 : ∀ c, s0 ≤ c → c < s → Le (x c) (x (mid + m - 1 - c))
  f2 : ∀ c, s ≤ c → c < r0 → Le (x (mid + m - 1 - c)) (x c)
/-- Where the search runs. -/
def Side (a m b mid s0 r0 : Nat) : Prop := (mid < m ∧ s0 = mid + m - b ∧ r0 = mid) ∨ (m ≤ mid ∧ s0 = a ∧ r0 = m)

section
variable {x y : Nat → Rw} {a m b mid s0 r0 s : Nat}
theorem Cut.facts (hc : Cut x a m b mid s0 r0 s) (hs : Side a m b mid s0 r0) (ham : a < m) (hmb : m < b) (hm1 : 2 * mid ≤ a + b) (hm2 : a + b ≤ 2 * mid + 1) : a ≤ s ∧ s ≤ m ∧ s ≤ mid ∧ m ≤ mid + m - s ∧ mid + m - s ≤ b ∧ mid ≤ mid + m - s ∧ a < mid ∧ mid < b := by
  have h1 := hc.lo
  have h2 := hc.hi
  unfold Side at hs
  omega
/-- Behind the turn: four ascending ranges, and the left half before the right. -/
theorem Cut.parts (hc : Cut x a m b mid s0 r0 s) (hs : Side a m b mid s0 r0) (ham : a < m) (hmb : m < b) (hm1 : 2 * mid ≤ a + b) (hm2 : a + b ≤ 2 * mid + 1) (A1 : AscF a m x) (A2 : AscF m b x)
    (hy : ∀ t, t < b → y t = rotF x s m (mid + m - s) t) :
    AscF a s y ∧ AscF s mid y ∧ AscF mid (mid + m - s) y ∧ AscF (mid + m - s) b y ∧ ∀ u v, a ≤ u → u < mid → mid ≤ v → v < b → Le (y u) (y v) := by
  have hf := hc.facts hs ham hmb hm1 hm2
  have e1 : ∀ t, t < s → y t = x t := fun t ht => by rw [hy t (by omega)]; unfold rotF; rw [if_neg (by omega), if_neg (by omega)]
  have e2 : ∀ t, s ≤ t → t < mid → y t = x (t + (m - s)) := fun t h1 h2 => by rw [hy t (by omega)]; unfold rotF; rw [if_pos (by omega)]
  have e3 : ∀ t, mid ≤ t → t < mid + m - s → y t = x (t - (mid - s)) := fun t h1 h2 => by rw [hy t (by omega)]; unfold rotF; rw [if_neg (by omega), if_pos (by omega)]; congr 1; omega
  have e4 : ∀ t, mid + m - s ≤ t → t < b → y t = x t := fun t h1 h2 => by rw [hy t h2]; unfold rotF; rw [if_neg (by omega), if_neg (by omega)]
  refine ⟨fun i j h1 h2 h3 => ?_, fun i j h1 h2 h3 => ?_, fun i j h1 h2 h3 => ?_, fun i j h1 h2 h3 => ?_, fun u v h1 h2 h3 h4 => ?_⟩
  · rw [e1 i (by omega), e1 j h3]; exact A1 i j h1 h2 (by omega)
  · rw [e2 i h1 (by omega), e2 j (by omega) h3]; exact A2 _ _ (by omega) (by omega) (by omega)
  · rw [e3 i h1 (by omega), e3 j (by omega) h3]; exact A1 _ _ (by omega) (by omega) (by omega)
  · rw [e4 i h1 (by omega), e4 j (by omega) h3]; exact A2 _ _ (by omega) h2 h3
  · have le1 : ∀ i j, a ≤ i → i ≤ j → j < m → Le (x i) (x j) := fun i j k1 k2 k3 => by
      by_cases e : i = j
      · subst e; unfold Le; rw [ordR_self]; omega
      · exact A1 i j k1 (by omega) k3
    have le2 : ∀ i j, m ≤ i → i ≤ j → j < b → Le (x i) (x j) := fun i j k1 k2 k3 => by
      by_cases e : i = j
      · subst e; unfold Le; rw [ordR_self]; omega
      · exact A2 i j k1 (by omega) k3
    by_cases c1 : u < s
    · rw [e1 u c1]
      by_cases c2 : v < mid + m - s
      · rw [e3 v h3 c2]; exact le1 _ _ h1 (by omega) (by omega)
      · rw [e4 v (by omega) h4]
        have hlo : s0 < s := by unfold Side at hs; omega
        have hb := hc.f1 (s - 1) (by omega) (by omega)
        exact (le1 u (s - 1) h1 (by omega) (by omega)).trans (hb.trans (le2 _ _ (by omega) (by omega) h4))
    · rw [e2 u (by omega) h2]
      by_cases c2 : v < mid + m - s
      · rw [e3 v h3 c2]
        have hhi : s < r0 := by unfold Side at hs; omega
        have hb := hc.f2 s (by omega) hhi
        exact (le2 (u + (m - s)) (mid + m - 1 - s) (by omega) (by omega) (by omega)).trans (hb.trans (le1 _ _ (by omega) (by omega) (by omega)))
      · rw [e4 v (by omega) h4]; exact le2 _ _ (by omega) (by omega) h4
end
/-- Both halves sorted: the whole ascends. -/
theorem merge_fin {ys z1 z2 : Array Rw} {a mid b : Nat} (hb : b ≤ ys.size) (hm : mid ≤ b) (hx : ∀ u v, a ≤ u → u < mid → mid ≤ v → v < b → Le (atR ys u) (atR ys v)) (w1 : SwR a mid ys z1) (a1 : Asc a mid z1) (w2 : SwR mid b z1 z2) (a2 : Asc mid b z2) : Asc a b z2 := by
  have s1 := w1.size
  have s2 := w2.size
  intro i j h1 h2 h3 h4
  by_cases c1 : mid ≤ i
  · exact a2 i j c1 h2 h3 h4
  · by_cases c2 : j < mid
    · rw [w2.out i (by omega) (.inl (by omega)), w2.out j (by omega) (.inl c2)]
      exact a1 i j h1 h2 c2 (by omega)
    · rw [w2.out i (by omega) (.inl (by omega))]
      refine w2.seg (fun v => ordR (atR z1 i).2 v.2 ≤ 0) (fun v k1 k2 k3 => ?_) j (by omega) h3 (by omega)
      rw [w1.out v (by omega) (.inr k1)]
      exact w1.seg (fun u => ordR u.2 (atR ys v).2 ≤ 0) (fun u q1 q2 q3 => hx u v q1 q2 k1 k2) i h1 (by omega) (by omega)
end Go.Proofs.Ytfikgiekigbaoaa
