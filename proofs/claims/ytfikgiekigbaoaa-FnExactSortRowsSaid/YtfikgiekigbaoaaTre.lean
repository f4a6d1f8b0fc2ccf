/-
  Expressions and queries as trees, and how they lie in memory. No program text in sight.
-/
import Derived.WalkKit
import Derived.WalkSpells
import Derived.Handy
import Derived.Test.YtfikgiekigbaoaaB
namespace Go.Proofs.Ytfikgiekigbaoaa
open Go Go.RowKit

structure ItF (α : Type) where
  star : Bool
  qual : ByteArray
  e : α
  nm : ByteArray
structure SoF (α : Type) where
  table : ByteArray
  nm : ByteArray
  on : List α
structure KeF (α : Type) where
  e : α
  desc : Bool
structure QuF (α : Type) where
  distinct : Bool
  items : List (ItF α)
  src : List (SoF α)
  whr : List α
  ord : List (KeF α)
  limit : Int
structure ExF (α : Type) where
  kind : Int
  op : Int
  neg : Bool
  vk : Int
  vn : Int
  vt : ByteArray
  qual : ByteArray
  name : ByteArray
  kids : List α
  sub : List (QuF α)
/-- An expression, with all in it. -/
inductive Ex where
  | mk (f : ExF Ex)
def Ex.f : Ex → ExF Ex := fun e => match e with | .mk f => f
theorem Ex.ext {a b : Ex} (h : a.f = b.f) : a = b := by
  cases a; cases b
  exact congrArg Ex.mk h

/-- Block b holds the values l from cell o on. -/
def cellsAt (w : World) (b o : Nat) (l : List Value) : Prop := ∀ j (h : j < l.length), w.cell? ⟨b, o + j, none⟩ = some l[j]

theorem cellsAt.same {w w' : World} {b o : Nat} {l : List Value} (h : cellsAt w b o l) (hb : w'.heap[b]? = w.heap[b]?) : cellsAt w' b o l :=
  fun j hj => (World.cell?_of_block (a := ⟨b, o + j, none⟩) hb).trans (h j hj)

/-- A row of things of 'size' cells each, at most M of them, in a block from lo on. -/
def RowP {α : Type} (w : World) (lo M size : Nat) (C : α → List Value → Prop) (xs : List α) (a : Option Addr) : Prop :=
  xs.length ≤ M ∧ (0 < xs.length → ∃ b o, a = some ⟨b, o, none⟩ ∧ lo ≤ b ∧ b < w.heap.size ∧ ∀ i (h : i < xs.length), ∃ cs, C xs[i] cs ∧ cellsAt w b (o + i * size) cs)

theorem RowP.imp {α : Type} {w w' : World} {lo lo' M M' size : Nat} {C C' : α → List Value → Prop} {xs : List α} {a : Option Addr} (h : RowP w lo M size C xs a)
    (hl : lo' ≤ lo) (hM : M ≤ M') (hs : w.heap.size ≤ w'.heap.size) (hb : ∀ b, lo ≤ b → b < w.heap.size → w'.heap[b]? = w.heap[b]?) (hC : ∀ x cs, C x cs → C' x cs) : RowP w' lo' M' size C' xs a := by
  refine ⟨Nat.le_trans h.1 hM, fun hn => ?_⟩
  obtain ⟨b, o, rfl, h1, h2, h3⟩ := h.2 hn
  refine ⟨b, o, rfl, Nat.le_trans hl h1, Nat.lt_of_lt_of_le h2 hs, fun i hi => ?_⟩
  obtain ⟨cs, hc, hat⟩ := h3 i hi
  exact ⟨cs, hC _ _ hc, hat.same (hb b h1 h2)⟩

/-- A lesser bound, once the things themselves keep it. -/
theorem RowP.less {α : Type} {w : World} {lo M M' size : Nat} {C C' : α → List Value → Prop} {xs : List α} {a : Option Addr} (h : RowP w lo M size C xs a)
    (hM : xs.length ≤ M') (hC : ∀ i (_h : i < xs.length) cs, C xs[i] cs → C' xs[i] cs) : RowP w lo M' size C' xs a := by
  refine ⟨hM, fun hn => ?_⟩
  obtain ⟨b, o, rfl, h1, h2, h3⟩ := h.2 hn
  refine ⟨b, o, rfl, h1, h2, fun i hi => ?_⟩
  obtain ⟨cs, hc, hat⟩ := h3 i hi
  exact ⟨cs, hC i hi _ hc, hat⟩

/-- The cells of an expression. -/
def exV (e : ExF Ex) (ka : Option Addr) (kc : Nat) (sa : Option Addr) (sc : Nat) : List Value :=
  [.int .i64 e.kind, .int .i64 e.op, .bool e.neg, .int .i64 e.vk, .int .i64 e.vn, .string e.vt, .string e.qual, .string e.name, .slice ka e.kids.length kc, .slice sa e.sub.length sc]
def exC (P : Ex → Option Addr → Option Addr → Prop) (e : Ex) (cs : List Value) : Prop := ∃ ka kc sa sc, cs = exV e.f ka kc sa sc ∧ P e ka sa
def itC (M : Nat) (P : Ex → Option Addr → Option Addr → Prop) (x : ItF Ex) (cs : List Value) : Prop :=
  ∃ ka kc sa sc, cs = .bool x.star :: .string x.qual :: (exV x.e.f ka kc sa sc ++ [.string x.nm]) ∧ (x.qual.size ≤ M ∧ x.nm.size ≤ M) ∧ P x.e ka sa
def soC (w : World) (lo M : Nat) (P : Ex → Option Addr → Option Addr → Prop) (x : SoF Ex) (cs : List Value) : Prop :=
  ∃ oa oc, cs = [.string x.table, .string x.nm, .slice oa x.on.length oc] ∧ (x.table.size ≤ M ∧ x.nm.size ≤ M) ∧ RowP w lo M 10 (exC P) x.on oa
def keC (P : Ex → Option Addr → Option Addr → Prop) (x : KeF Ex) (cs : List Value) : Prop :=
  ∃ ka kc sa sc, cs = exV x.e.f ka kc sa sc ++ [.bool x.desc] ∧ P x.e ka sa
/-- The rows of a query. -/
structure QuB (w : World) (lo M : Nat) (P : Ex → Option Addr → Option Addr → Prop) (q : QuF Ex) (ia fa wa oa : Option Addr) : Prop where
  items : RowP w lo M 13 (itC M P) q.items ia
  src : RowP w lo M 3 (soC w lo M P) q.src fa
  whr : RowP w lo M 10 (exC P) q.whr wa
  ord : RowP w lo M 11 (keC P) q.ord oa
def quV (q : QuF Ex) (ia : Option Addr) (ic : Nat) (fa : Option Addr) (fc : Nat) (wa : Option Addr) (wc : Nat) (oa : Option Addr) (oc : Nat) : List Value :=
  [.bool q.distinct, .slice ia q.items.length ic, .slice fa q.src.length fc, .slice wa q.whr.length wc, .slice oa q.ord.length oc, .int .i64 q.limit]
def quC (w : World) (lo M : Nat) (P : Ex → Option Addr → Option Addr → Prop) (q : QuF Ex) (cs : List Value) : Prop :=
  ∃ ia ic fa fc wa wc oa oc, cs = quV q ia ic fa fc wa wc oa oc ∧ QuB w lo M P q ia fa wa oa

/-- An expression's rows lie in w, in blocks from lo on, each of at most M things; n bounds how deep it is. -/
def ExB (w : World) (lo M : Nat) : Nat → Ex → Option Addr → Option Addr → Prop
  | 0 => fun _ _ _ => False
  | n + 1 => fun e ka sa => (e.f.vt.size ≤ M ∧ e.f.qual.size ≤ M ∧ e.f.name.size ≤ M) ∧ RowP w lo M 10 (exC (ExB w lo M n)) e.f.kids ka ∧ RowP w lo M 6 (quC w lo M (ExB w lo M n)) e.f.sub sa

section
variable {w w' : World} {lo lo' M : Nat} {P P' : Ex → Option Addr → Option Addr → Prop}
theorem exC.imp (hP : ∀ e ka sa, P e ka sa → P' e ka sa) {e : Ex} {cs : List Value} (h : exC P e cs) : exC P' e cs := by
  obtain ⟨ka, kc, sa, sc, rfl, h⟩ := h
  exact ⟨ka, kc, sa, sc, rfl, hP _ _ _ h⟩
theorem itC.imp (hP : ∀ e ka sa, P e ka sa → P' e ka sa) {x : ItF Ex} {cs : List Value} (h : itC M P x cs) : itC M P' x cs := by
  obtain ⟨ka, kc, sa, sc, rfl, h0, h⟩ := h
  exact ⟨ka, kc, sa, sc, rfl, h0, hP _ _ _ h⟩
theorem keC.imp (hP : ∀ e ka sa, P e ka sa → P' e ka sa) {x : KeF Ex} {cs : List Value} (h : keC P x cs) : keC P' x cs := by
  obtain ⟨ka, kc, sa, sc, rfl, h⟩ := h
  exact ⟨ka, kc, sa, sc, rfl, hP _ _ _ h⟩
theorem soC.imp (hl : lo' ≤ lo) (hs : w.heap.size ≤ w'.heap.size) (hb : ∀ b, lo ≤ b → b < w.heap.size → w'.heap[b]? = w.heap[b]?) (hP : ∀ e ka sa, P e ka sa → P' e ka sa) {x : SoF Ex} {cs : List Value} (h : soC w lo M P x cs) : soC w' lo' M P' x cs := by
  obtain ⟨oa, oc, rfl, h0, h⟩ := h
  exact ⟨oa, oc, rfl, h0, h.imp hl (Nat.le_refl _) hs hb fun _ _ => exC.imp hP⟩
theorem QuB.imp (hl : lo' ≤ lo) (hs : w.heap.size ≤ w'.heap.size) (hb : ∀ b, lo ≤ b → b < w.heap.size → w'.heap[b]? = w.heap[b]?) (hP : ∀ e ka sa, P e ka sa → P' e ka sa) {q : QuF Ex} {ia fa wa oa : Option Addr} (h : QuB w lo M P q ia fa wa oa) : QuB w' lo' M P' q ia fa wa oa :=
  ⟨h.items.imp hl (Nat.le_refl _) hs hb fun _ _ => itC.imp hP, h.src.imp hl (Nat.le_refl _) hs hb fun _ _ => soC.imp hl hs hb hP, h.whr.imp hl (Nat.le_refl _) hs hb fun _ _ => exC.imp hP, h.ord.imp hl (Nat.le_refl _) hs hb fun _ _ => keC.imp hP⟩
theorem quC.imp (hl : lo' ≤ lo) (hs : w.heap.size ≤ w'.heap.size) (hb : ∀ b, lo ≤ b → b < w.heap.size → w'.heap[b]? = w.heap[b]?) (hP : ∀ e ka sa, P e ka sa → P' e ka sa) {q : QuF Ex} {cs : List Value} (h : quC w lo M P q cs) : quC w' lo' M P' q cs := by
  obtain ⟨ia, ic, fa, fc, wa, wc, oa, oc, rfl, h⟩ := h
  exact ⟨ia, ic, fa, fc, wa, wc, oa, oc, rfl, h.imp hl hs hb hP⟩
theorem ExB.imp (hl : lo' ≤ lo) (hs : w.heap.size ≤ w'.heap.size) (hb : ∀ b, lo ≤ b → b < w.heap.size → w'.heap[b]? = w.heap[b]?) : ∀ (n : Nat) (e : Ex) (ka sa : Option Addr), ExB w lo M n e ka sa → ExB w' lo' M n e ka sa
  | 0, _, _, _, h => h
  | n + 1, _, _, _, h => ⟨h.1, h.2.1.imp hl (Nat.le_refl _) hs hb fun _ _ => exC.imp (ExB.imp hl hs hb n), h.2.2.imp hl (Nat.le_refl _) hs hb fun _ _ => quC.imp hl hs hb (ExB.imp hl hs hb n)⟩
theorem ExB.mono : ∀ (n m : Nat), n ≤ m → ∀ (e : Ex) (ka sa : Option Addr), ExB w lo M n e ka sa → ExB w lo M m e ka sa
  | 0, _, _, _, _, _, h => h.elim
  | n + 1, 0, hm, _, _, _, _ => absurd hm (by omega)
  | n + 1, m + 1, hm, _, _, _, h => ⟨h.1, h.2.1.imp (Nat.le_refl _) (Nat.le_refl _) (Nat.le_refl _) (fun _ _ _ => rfl) fun _ _ => exC.imp (ExB.mono n m (by omega)), h.2.2.imp (Nat.le_refl _) (Nat.le_refl _) (Nat.le_refl _) (fun _ _ _ => rfl) fun _ _ => quC.imp (Nat.le_refl _) (Nat.le_refl _) (fun _ _ _ => rfl) (ExB.mono n m (by omega))⟩
end

theorem ExB.below {w w' : World} {lo M n : Nat} {e : Ex} {ka sa : Option Addr} (h : ExB w lo M n e ka sa) (hb : Below w.heap.size w w') : ExB w' lo M n e ka sa :=
  ExB.imp (Nat.le_refl _) hb.size (fun b _ h => hb.block b h) n e ka sa h
theorem QuB.below {w w' : World} {lo M n : Nat} {q : QuF Ex} {ia fa wa oa : Option Addr} (h : QuB w lo M (ExB w lo M n) q ia fa wa oa) (hb : Below w.heap.size w w') : QuB w' lo M (ExB w' lo M n) q ia fa wa oa :=
  h.imp (Nat.le_refl _) hb.size (fun b _ h => hb.block b h) (fun _ _ _ h => h.below hb)
theorem rowEx_below {w w' : World} {lo M n : Nat} {xs : List Ex} {a : Option Addr} (h : RowP w lo M 10 (exC (ExB w lo M n)) xs a) (hb : Below w.heap.size w w') : RowP w' lo M 10 (exC (ExB w' lo M n)) xs a :=
  h.imp (Nat.le_refl _) (Nat.le_refl _) hb.size (fun b _ h => hb.block b h) fun _ _ => exC.imp fun _ _ _ h => h.below hb
theorem rowQu_below {w w' : World} {lo M n : Nat} {xs : List (QuF Ex)} {a : Option Addr} (h : RowP w lo M 6 (quC w lo M (ExB w lo M n)) xs a) (hb : Below w.heap.size w w') : RowP w' lo M 6 (quC w' lo M (ExB w' lo M n)) xs a :=
  h.imp (Nat.le_refl _) (Nat.le_refl _) hb.size (fun b _ h => hb.block b h) fun _ _ => quC.imp (Nat.le_refl _) hb.size (fun b _ h => hb.block b h) fun _ _ _ h => h.below hb
theorem rowIt_below {w w' : World} {lo M n : Nat} {xs : List (ItF Ex)} {a : Option Addr} (h : RowP w lo M 13 (itC M (ExB w lo M n)) xs a) (hb : Below w.heap.size w w') : RowP w' lo M 13 (itC M (ExB w' lo M n)) xs a :=
  h.imp (Nat.le_refl _) (Nat.le_refl _) hb.size (fun b _ h => hb.block b h) fun _ _ => itC.imp fun _ _ _ h => h.below hb
theorem rowKe_below {w w' : World} {lo M n : Nat} {xs : List (KeF Ex)} {a : Option Addr} (h : RowP w lo M 11 (keC (ExB w lo M n)) xs a) (hb : Below w.heap.size w w') : RowP w' lo M 11 (keC (ExB w' lo M n)) xs a :=
  h.imp (Nat.le_refl _) (Nat.le_refl _) hb.size (fun b _ h => hb.block b h) fun _ _ => keC.imp fun _ _ _ h => h.below hb
theorem rowSo_below {w w' : World} {lo M n : Nat} {xs : List (SoF Ex)} {a : Option Addr} (h : RowP w lo M 3 (soC w lo M (ExB w lo M n)) xs a) (hb : Below w.heap.size w w') : RowP w' lo M 3 (soC w' lo M (ExB w' lo M n)) xs a :=
  h.imp (Nat.le_refl _) (Nat.le_refl _) hb.size (fun b _ h => hb.block b h) fun _ _ => soC.imp (Nat.le_refl _) hb.size (fun b _ h => hb.block b h) fun _ _ _ h => h.below hb
end Go.Proofs.Ytfikgiekigbaoaa
