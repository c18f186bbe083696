/- What a world owns: a list of facts, each on blocks of its own; no two share a block. -/
import Derived.Below
import Derived.Laws.AppendOwn
import Derived.Laws.AppendOwnNone
import Derived.Laws.OwnMore
import Derived.Laws.MakeOwn
import Derived.WalkKit
import Derived.Deep.Draws
import Derived.Maps.AppendAt
import Derived.OwnWalk
import Derived.Laws.Rows
namespace Go.Proofs.Ytecjokjmmejinaa.SL
open Go.RowKit

/-- A fact on some blocks of a world: it stands while these blocks stand. -/
structure Atm where
  A : World → List Nat → Prop
  keep : ∀ {w w' : World} {F : List Nat}, A w F → (∀ b ∈ F, w'.heap[b]? = w.heap[b]?) → A w' F
  lt : ∀ {w : World} {F : List Nat}, A w F → ∀ b ∈ F, b < w.heap.size

def OwnF (w : World) : List Atm → List Nat → Prop
  | [], F => F = []
  | a :: L, F => ∃ F1 F2, F = F1 ++ F2 ∧ a.A w F1 ∧ OwnF w L F2

theorem OwnF.keep {w w' : World} : ∀ {L : List Atm} {F : List Nat}, OwnF w L F → (∀ b ∈ F, w'.heap[b]? = w.heap[b]?) → OwnF w' L F
  | [], _, h, _ => h
  | a :: L, _, ⟨F1, F2, e, h1, h2⟩, hk => by
    subst e
    exact ⟨F1, F2, rfl, a.keep h1 (fun b hb => hk b (List.mem_append_left _ hb)), OwnF.keep h2 (fun b hb => hk b (List.mem_append_right _ hb))⟩

theorem OwnF.lt {w : World} : ∀ {L : List Atm} {F : List Nat}, OwnF w L F → ∀ b ∈ F, b < w.heap.size
  | [], _, h, b, hb => by rw [h] at hb; cases hb
  | a :: L, _, ⟨F1, F2, e, h1, h2⟩, b, hb => by
    subst e
    rcases List.mem_append.1 hb with hb | hb
    · exact a.lt h1 b hb
    · exact OwnF.lt h2 b hb

theorem OwnF.append {w : World} : ∀ {L M : List Atm} {F G : List Nat}, OwnF w L F → OwnF w M G → OwnF w (L ++ M) (F ++ G)
  | [], M, F, G, h, k => by
    have e : F = [] := h
    subst e
    exact k
  | a :: L, M, _, G, ⟨F1, F2, e, h1, h2⟩, k => by
    subst e
    exact ⟨F1, F2 ++ G, by rw [List.append_assoc], h1, OwnF.append h2 k⟩

theorem OwnF.split {w : World} : ∀ {L M : List Atm} {F : List Nat}, OwnF w (L ++ M) F → ∃ F1 F2, F = F1 ++ F2 ∧ OwnF w L F1 ∧ OwnF w M F2
  | [], M, F, h => ⟨[], F, rfl, rfl, h⟩
  | a :: L, M, F, ⟨F1, F2, e, h1, h2⟩ => by
    obtain ⟨G1, G2, e2, h3, h4⟩ := OwnF.split h2
    subst e2
    exact ⟨F1 ++ G1, G2, by rw [e, List.append_assoc], ⟨F1, G1, rfl, h1, h3⟩, h4⟩

theorem OwnF.perm {w : World} {L M : List Atm} (h : L.Perm M) : ∀ {F : List Nat}, OwnF w L F → ∃ G, F.Perm G ∧ OwnF w M G := by
  induction h with
  | nil => exact fun {F} h => ⟨F, .refl _, h⟩
  | cons a _ ih =>
    rintro F ⟨F1, F2, rfl, h1, h2⟩
    obtain ⟨G, p, hG⟩ := ih h2
    exact ⟨F1 ++ G, p.append_left F1, F1, G, rfl, h1, hG⟩
  | swap a b l =>
    rintro F ⟨F1, F2, rfl, h1, G1, G2, rfl, h2, h3⟩
    refine ⟨G1 ++ (F1 ++ G2), ?_, G1, F1 ++ G2, rfl, h2, F1, G2, rfl, h1, h3⟩
    rw [← List.append_assoc, ← List.append_assoc]
    exact (List.perm_append_comm).append_right G2
  | trans _ _ ih1 ih2 =>
    intro F h
    obtain ⟨G, p, hG⟩ := ih1 h
    obtain ⟨H, q, hH⟩ := ih2 hG
    exact ⟨H, p.trans q, hH⟩

/-- All of L's facts, each on blocks of its own from 'base' on. -/
def Own (base : Nat) (w : World) (L : List Atm) : Prop := ∃ F, OwnF w L F ∧ F.Nodup ∧ ∀ b ∈ F, base ≤ b

section
variable {base : Nat} {w w' : World} {L M : List Atm}

theorem Own.nil (base : Nat) (w : World) : Own base w [] := ⟨[], rfl, List.nodup_nil, fun _ h => by cases h⟩

theorem Own.keep (h : Own base w L) (hk : ∀ b, base ≤ b → b < w.heap.size → w'.heap[b]? = w.heap[b]?) : Own base w' L := by
  obtain ⟨F, hF, hn, hb⟩ := h
  exact ⟨F, hF.keep (fun b hm => hk b (hb b hm) (hF.lt b hm)), hn, hb⟩

theorem Own.below (h : Own base w L) (hb : Below w.heap.size w w') : Own base w' L := h.keep fun b _ hlt => hb.block b hlt

theorem Own.drewN (h : Own base w L) (n : Nat) : Own base (w.drewN n) L := h.keep fun _ _ _ => rfl
theorem Own.drew (h : Own base w L) : Own base w.drew L := h.keep fun _ _ _ => rfl
theorem below_drewN {B : Nat} {a w : World} (h : Below B a w) (n : Nat) : Below B a (w.drewN n) := ⟨h.os, h.tape, h.output, h.size, h.block⟩

theorem Own.lower {base' : Nat} (h : Own base w L) (hb : base' ≤ base) : Own base' w L := by
  obtain ⟨F, hF, hn, hm⟩ := h
  exact ⟨F, hF, hn, fun b hx => Nat.le_trans hb (hm b hx)⟩

theorem Own.perm (h : Own base w L) (hp : L.Perm M) : Own base w M := by
  obtain ⟨F, hF, hn, hb⟩ := h
  obtain ⟨G, p, hG⟩ := hF.perm hp
  exact ⟨G, hG, p.nodup_iff.1 hn, fun b hm => hb b (p.mem_iff.2 hm)⟩

theorem Own.left (h : Own base w (L ++ M)) : Own base w L := by
  obtain ⟨F, hF, hn, hb⟩ := h
  obtain ⟨F1, F2, rfl, h1, h2⟩ := hF.split
  exact ⟨F1, h1, (List.nodup_append.1 hn).1, fun b hm => hb b (List.mem_append_left _ hm)⟩

theorem Own.right (h : Own base w (L ++ M)) : Own base w M := by
  obtain ⟨F, hF, hn, hb⟩ := h
  obtain ⟨F1, F2, rfl, h1, h2⟩ := hF.split
  exact ⟨F2, h2, (List.nodup_append.1 hn).2.1, fun b hm => hb b (List.mem_append_right _ hm)⟩

theorem Own.tail {a : Atm} (h : Own base w (a :: L)) : Own base w L := Own.right (L := [a]) h

theorem Own.head {a : Atm} (h : Own base w (a :: L)) : ∃ F, a.A w F ∧ ∀ b ∈ F, base ≤ b := by
  obtain ⟨F, ⟨F1, F2, rfl, h1, h2⟩, hn, hb⟩ := h
  exact ⟨F1, h1, fun b hm => hb b (List.mem_append_left _ hm)⟩

/-- What has been made from w's end on, beside what was owned. -/
theorem Own.join (h : Own base w L) (hb : Below w.heap.size w w') (hbase : base ≤ w.heap.size) (k : Own w.heap.size w' M) : Own base w' (M ++ L) := by
  obtain ⟨F, hF, hn, hm⟩ := h.below hb
  obtain ⟨F', hF', _, _⟩ := h
  obtain ⟨G, hG, kn, km⟩ := k
  have hlt : ∀ b ∈ F, b < w.heap.size ∨ True := fun _ _ => .inr trivial
  obtain ⟨F0, hF0, hn0, hm0⟩ : ∃ F, OwnF w L F ∧ F.Nodup ∧ ∀ b ∈ F, base ≤ b := by
    exact ⟨F', hF', by assumption, by assumption⟩
  refine ⟨G ++ F0, hG.append (hF0.keep fun b hx => hb.block b (hF0.lt b hx)), ?_, ?_⟩
  · refine List.nodup_append.2 ⟨kn, hn0, fun a ha b hb' e => ?_⟩
    subst e
    have := km a ha
    have := hF0.lt a hb'
    omega
  · intro b hb'
    rcases List.mem_append.1 hb' with h1 | h1
    · exact Nat.le_trans hbase (km b h1)
    · exact hm0 b h1

/-- One fact becomes another, on its own blocks and new ones; all other blocks stand. -/
theorem Own.turn {a a' : Atm} (h : Own base w (a :: L)) (hbase : base ≤ w.heap.size)
    (hs : ∀ F, a.A w F → (∀ b ∈ F, base ≤ b) → ∃ F', a'.A w' F' ∧ F'.Nodup ∧ (∀ b ∈ F', b ∈ F ∨ w.heap.size ≤ b) ∧ ∀ b, b < w.heap.size → b ∉ F → w'.heap[b]? = w.heap[b]?) :
    Own base w' (a' :: L) := by
  obtain ⟨F, ⟨F1, F2, rfl, h1, h2⟩, hn, hb⟩ := h
  obtain ⟨F', h1', hn', hin, hk⟩ := hs F1 h1 (fun b hm => hb b (List.mem_append_left _ hm))
  obtain ⟨_, n2, nd⟩ := List.nodup_append.1 hn
  refine ⟨F' ++ F2, ⟨F', F2, rfl, h1', h2.keep fun b hm => hk b (h2.lt b hm) (fun hx => nd b hx b hm rfl)⟩, List.nodup_append.2 ⟨hn', n2, fun x hx y hy e => ?_⟩, fun b hm => ?_⟩
  · subst e
    rcases hin x hx with h3 | h3
    · exact nd x h3 x hy rfl
    · have := h2.lt x hy
      omega
  · rcases List.mem_append.1 hm with h3 | h3
    · rcases hin b h3 with h4 | h4
      · exact hb b (List.mem_append_left _ h4)
      · exact Nat.le_trans hbase h4
    · exact hb b (List.mem_append_right _ h3)
end

/-! ### moving a fact to the front, and back -/
section
variable {base : Nat} {w : World} {L : List Atm}
theorem Own.pull {l1 l2 : List Atm} {a : Atm} (h : Own base w (l1 ++ a :: l2)) : Own base w (a :: (l1 ++ l2)) := h.perm List.perm_middle
theorem Own.push {l1 l2 : List Atm} {a : Atm} (h : Own base w (a :: (l1 ++ l2))) : Own base w (l1 ++ a :: l2) := h.perm List.perm_middle.symm
theorem Own.pull1 {x0 a : Atm} (h : Own base w (x0 :: a :: L)) : Own base w (a :: x0 :: L) := Own.pull (l1 := [x0]) h
theorem Own.push1 {x0 a : Atm} (h : Own base w (a :: x0 :: L)) : Own base w (x0 :: a :: L) := Own.push (l1 := [x0]) h
theorem Own.drop1 {x0 a : Atm} (h : Own base w (x0 :: a :: L)) : Own base w (x0 :: L) := (Own.pull1 h).tail
theorem Own.pull2 {x0 x1 a : Atm} (h : Own base w (x0 :: x1 :: a :: L)) : Own base w (a :: x0 :: x1 :: L) := Own.pull (l1 := [x0, x1]) h
theorem Own.push2 {x0 x1 a : Atm} (h : Own base w (a :: x0 :: x1 :: L)) : Own base w (x0 :: x1 :: a :: L) := Own.push (l1 := [x0, x1]) h
theorem Own.drop2 {x0 x1 a : Atm} (h : Own base w (x0 :: x1 :: a :: L)) : Own base w (x0 :: x1 :: L) := (Own.pull2 h).tail
theorem Own.pull3 {x0 x1 x2 a : Atm} (h : Own base w (x0 :: x1 :: x2 :: a :: L)) : Own base w (a :: x0 :: x1 :: x2 :: L) := Own.pull (l1 := [x0, x1, x2]) h
theorem Own.push3 {x0 x1 x2 a : Atm} (h : Own base w (a :: x0 :: x1 :: x2 :: L)) : Own base w (x0 :: x1 :: x2 :: a :: L) := Own.push (l1 := [x0, x1, x2]) h
theorem Own.drop3 {x0 x1 x2 a : Atm} (h : Own base w (x0 :: x1 :: x2 :: a :: L)) : Own base w (x0 :: x1 :: x2 :: L) := (Own.pull3 h).tail
theorem Own.pull4 {x0 x1 x2 x3 a : Atm} (h : Own base w (x0 :: x1 :: x2 :: x3 :: a :: L)) : Own base w (a :: x0 :: x1 :: x2 :: x3 :: L) := Own.pull (l1 := [x0, x1, x2, x3]) h
theorem Own.push4 {x0 x1 x2 x3 a : Atm} (h : Own base w (a :: x0 :: x1 :: x2 :: x3 :: L)) : Own base w (x0 :: x1 :: x2 :: x3 :: a :: L) := Own.push (l1 := [x0, x1, x2, x3]) h
theorem Own.drop4 {x0 x1 x2 x3 a : Atm} (h : Own base w (x0 :: x1 :: x2 :: x3 :: a :: L)) : Own base w (x0 :: x1 :: x2 :: x3 :: L) := (Own.pull4 h).tail
theorem Own.pull5 {x0 x1 x2 x3 x4 a : Atm} (h : Own base w (x0 :: x1 :: x2 :: x3 :: x4 :: a :: L)) : Own base w (a :: x0 :: x1 :: x2 :: x3 :: x4 :: L) := Own.pull (l1 := [x0, x1, x2, x3, x4]) h
theorem Own.push5 {x0 x1 x2 x3 x4 a : Atm} (h : Own base w (a :: x0 :: x1 :: x2 :: x3 :: x4 :: L)) : Own base w (x0 :: x1 :: x2 :: x3 :: x4 :: a :: L) := Own.push (l1 := [x0, x1, x2, x3, x4]) h
theorem Own.drop5 {x0 x1 x2 x3 x4 a : Atm} (h : Own base w (x0 :: x1 :: x2 :: x3 :: x4 :: a :: L)) : Own base w (x0 :: x1 :: x2 :: x3 :: x4 :: L) := (Own.pull5 h).tail
theorem Own.pull6 {x0 x1 x2 x3 x4 x5 a : Atm} (h : Own base w (x0 :: x1 :: x2 :: x3 :: x4 :: x5 :: a :: L)) : Own base w (a :: x0 :: x1 :: x2 :: x3 :: x4 :: x5 :: L) := Own.pull (l1 := [x0, x1, x2, x3, x4, x5]) h
theorem Own.push6 {x0 x1 x2 x3 x4 x5 a : Atm} (h : Own base w (a :: x0 :: x1 :: x2 :: x3 :: x4 :: x5 :: L)) : Own base w (x0 :: x1 :: x2 :: x3 :: x4 :: x5 :: a :: L) := Own.push (l1 := [x0, x1, x2, x3, x4, x5]) h
theorem Own.drop6 {x0 x1 x2 x3 x4 x5 a : Atm} (h : Own base w (x0 :: x1 :: x2 :: x3 :: x4 :: x5 :: a :: L)) : Own base w (x0 :: x1 :: x2 :: x3 :: x4 :: x5 :: L) := (Own.pull6 h).tail
theorem Own.pull7 {x0 x1 x2 x3 x4 x5 x6 a : Atm} (h : Own base w (x0 :: x1 :: x2 :: x3 :: x4 :: x5 :: x6 :: a :: L)) : Own base w (a :: x0 :: x1 :: x2 :: x3 :: x4 :: x5 :: x6 :: L) := Own.pull (l1 := [x0, x1, x2, x3, x4, x5, x6]) h
theorem Own.push7 {x0 x1 x2 x3 x4 x5 x6 a : Atm} (h : Own base w (a :: x0 :: x1 :: x2 :: x3 :: x4 :: x5 :: x6 :: L)) : Own base w (x0 :: x1 :: x2 :: x3 :: x4 :: x5 :: x6 :: a :: L) := Own.push (l1 := [x0, x1, x2, x3, x4, x5, x6]) h
theorem Own.drop7 {x0 x1 x2 x3 x4 x5 x6 a : Atm} (h : Own base w (x0 :: x1 :: x2 :: x3 :: x4 :: x5 :: x6 :: a :: L)) : Own base w (x0 :: x1 :: x2 :: x3 :: x4 :: x5 :: x6 :: L) := (Own.pull7 h).tail
theorem Own.pull8 {x0 x1 x2 x3 x4 x5 x6 x7 a : Atm} (h : Own base w (x0 :: x1 :: x2 :: x3 :: x4 :: x5 :: x6 :: x7 :: a :: L)) : Own base w (a :: x0 :: x1 :: x2 :: x3 :: x4 :: x5 :: x6 :: x7 :: L) := Own.pull (l1 := [x0, x1, x2, x3, x4, x5, x6, x7]) h
theorem Own.push8 {x0 x1 x2 x3 x4 x5 x6 x7 a : Atm} (h : Own base w (a :: x0 :: x1 :: x2 :: x3 :: x4 :: x5 :: x6 :: x7 :: L)) : Own base w (x0 :: x1 :: x2 :: x3 :: x4 :: x5 :: x6 :: x7 :: a :: L) := Own.push (l1 := [x0, x1, x2, x3, x4, x5, x6, x7]) h
theorem Own.drop8 {x0 x1 x2 x3 x4 x5 x6 x7 a : Atm} (h : Own base w (x0 :: x1 :: x2 :: x3 :: x4 :: x5 :: x6 :: x7 :: a :: L)) : Own base w (x0 :: x1 :: x2 :: x3 :: x4 :: x5 :: x6 :: x7 :: L) := (Own.pull8 h).tail
end

/-! ### the facts -/
/-- Block b is just these cells. -/
def cellsAt (b : Nat) (T : TypeId) (cs : List Value) : Atm where
  A := fun w F => F = [b] ∧ w.heap[b]? = some (.cells cs.toArray T (0, 0))
  keep := by
    rintro w w' F ⟨rfl, h⟩ hk
    exact ⟨rfl, (hk b (List.mem_singleton.2 rfl)).trans h⟩
  lt := by
    rintro w F ⟨rfl, h⟩ b hb
    rw [List.mem_singleton.1 hb]
    exact (Array.getElem?_eq_some_iff.1 h).1

/-- A slice of n elements (type e, sz cells each) over a block of its own. -/
def row (e : TypeId) (sz : Nat) (v : Value) (n : Nat) (inner : List Value) : Atm where
  A := fun w F => F = v.ownBlock.toList ∧ w.ownsRow 0 e sz v n inner
  keep := by
    rintro w w' F ⟨rfl, h1, h2⟩ hk
    refine ⟨rfl, h1, ?_⟩
    rcases h2 with h2 | ⟨g, cap, cur, rfl, hg, hh, r⟩
    · exact .inl h2
    · exact .inr ⟨g, cap, cur, rfl, hg, (hk g (by simp [Value.ownBlock])).trans hh, r⟩
  lt := by
    rintro w F ⟨rfl, h⟩ b hb
    cases hv : v.ownBlock with
    | none => rw [hv] at hb; cases hb
    | some g =>
      rw [hv] at hb
      simp at hb
      subst hb
      exact (h.lt b hv).2

section
variable {base : Nat} {w w' : World} {L : List Atm}

theorem Own.block {b : Nat} {T : TypeId} {cs : List Value} (h : Own base w (cellsAt b T cs :: L)) : w.heap[b]? = some (.cells cs.toArray T (0, 0)) := by
  obtain ⟨F, ⟨_, h1⟩, _⟩ := h.head
  exact h1
theorem Own.block_base {b : Nat} {T : TypeId} {cs : List Value} (h : Own base w (cellsAt b T cs :: L)) : base ≤ b := by
  obtain ⟨F, ⟨e, h1⟩, h2⟩ := h.head
  exact h2 b (by rw [e]; exact List.mem_singleton.2 rfl)
theorem Own.block_lt {b : Nat} {T : TypeId} {cs : List Value} (h : Own base w (cellsAt b T cs :: L)) : b < w.heap.size :=
  (Array.getElem?_eq_some_iff.1 h.block).1
theorem Own.cell {b : Nat} {T : TypeId} {cs : List Value} (h : Own base w (cellsAt b T cs :: L)) (j : Nat) : w.cell? ⟨b, j, none⟩ = cs[j]? := by
  simp [World.cell?, h.block]
theorem Own.free {b : Nat} {T : TypeId} {cs : List Value} (h : Own base w (cellsAt b T cs :: L)) (j : Nat) : w.frozen? ⟨b, j, none⟩ = false := by
  simp [World.frozen?, h.block]
theorem Own.ownsRow {e : TypeId} {sz n : Nat} {v : Value} {inner : List Value} (h : Own base w (row e sz v n inner :: L)) : w.ownsRow base e sz v n inner := by
  obtain ⟨F, ⟨e, h1, h2⟩, hb⟩ := h.head
  refine ⟨h1, ?_⟩
  rcases h2 with h2 | ⟨g, cap, cur, rfl, hg, r⟩
  · exact .inl h2
  · exact .inr ⟨g, cap, cur, rfl, hb g (by rw [e]; simp [Value.ownBlock]), r⟩

theorem Own.alloc (h : Own base w L) (hbase : base ≤ w.heap.size) (cs : List Value) (T : TypeId) {b : Nat} (hb : b = w.heap.size) : Own base (w.alloc (.cells cs.toArray T)) (cellsAt b T cs :: L) := by
  subst hb
  refine Own.join (M := [cellsAt w.heap.size T cs]) h ((Below.refl _ _).alloc (Nat.le_refl _) _) hbase ?_
  refine ⟨[w.heap.size], ⟨[w.heap.size], [], rfl, ⟨rfl, ?_⟩, rfl⟩, by simp, by simp⟩
  exact heap_alloc_new w _

theorem Own.setCell {b : Nat} {T : TypeId} {cs : List Value} (h : Own base w (cellsAt b T cs :: L)) (j : Nat) (u : Value) : Own base (w.setCell ⟨b, j, none⟩ u) (cellsAt b T (cs.set j u) :: L) := by
  have hbase : base ≤ w.heap.size := Nat.le_of_lt (Nat.lt_of_le_of_lt h.block_base h.block_lt)
  refine h.turn hbase ?_
  rintro F ⟨rfl, hb⟩ _
  refine ⟨[b], ⟨rfl, ?_⟩, by simp, fun x hx => .inl hx, fun x hx hn => Below.heap_setCell _ _ _ _ (by simpa using hn)⟩
  simp [World.setCell, Array.getElem?_modify, hb]

/-- A row has been written, or has been laid anew. -/
theorem Own.grown {e e' : TypeId} {sz sz' n n' : Nat} {v v' : Value} {inner inner' : List Value} (h : Own base w (row e sz v n inner :: L)) (hbase : base ≤ w.heap.size)
    (ho : w'.ownsRow base e' sz' v' n' inner') (hg : w.grownBy w' v.ownBlock) (hat : v'.ownBlock = v.ownBlock ∨ ∃ b, v'.ownBlock = some b ∧ w.heap.size ≤ b) : Own base w' (row e' sz' v' n' inner' :: L) := by
  refine h.turn hbase ?_
  rintro F ⟨rfl, hr⟩ _
  refine ⟨v'.ownBlock.toList, ⟨rfl, ho.1, ?_⟩, ?_, ?_, ?_⟩
  · rcases ho.2 with h2 | ⟨g, cap, cur, rfl, hg, r⟩
    · exact .inl h2
    · exact .inr ⟨g, cap, cur, rfl, Nat.zero_le _, r⟩
  · cases v'.ownBlock <;> simp
  · intro b hb
    rcases hat with e | ⟨x, e, hx⟩
    · rw [e] at hb; exact .inl hb
    · rw [e] at hb
      simp at hb
      subst hb
      exact .inr hx
  · intro b hb hn
    refine hg.block b hb (fun e => hn ?_)
    rw [← e]; simp

/-- A slice literal. -/
theorem Own.lit (h : Own base w L) (hbase : base ≤ w.heap.size) (e : TypeId) (sz n : Nat) (cs : List Value) (hl : cs.length = n * sz) (hn : n ≤ 140737488355328) {b : Nat} (hb : b = w.heap.size) :
    Own base (w.alloc (.cells cs.toArray e)) (row e sz (.slice (some ⟨b, 0, none⟩) n n) n cs :: L) := by
  subst hb
  have ho := World.ownsRow_lit (base := w.heap.size) (e := e) (size := sz) w cs.toArray n (Nat.le_refl _) (by simp only [maxLen]; omega) (by simpa using hl)
  refine Own.join (M := [row e sz (.slice (some ⟨w.heap.size, 0, none⟩) n n) n cs]) h ((Below.refl _ _).alloc (Nat.le_refl _) _) hbase ?_
  refine ⟨[w.heap.size], ⟨[w.heap.size], [], rfl, ⟨rfl, by simpa using ho.1, ?_⟩, rfl⟩, by simp, by simp⟩
  rcases ho.2 with h2 | ⟨g, cap, cur, e, hg, r⟩
  · exact .inl h2
  · exact .inr ⟨g, cap, cur, e, Nat.zero_le _, by simpa using r⟩

theorem Own.addRow {e : TypeId} {sz n : Nat} {v : Value} {inner : List Value} (h : Own base w L) (hb : Below w.heap.size w w') (hbase : base ≤ w.heap.size) (ho : w'.ownsRow w.heap.size e sz v n inner) : Own base w' (row e sz v n inner :: L) := by
  refine Own.join (M := [row e sz v n inner]) h hb hbase ?_
  refine ⟨v.ownBlock.toList, ⟨_, [], by simp, ⟨rfl, ho.1, ?_⟩, rfl⟩, by cases v.ownBlock <;> simp, ?_⟩
  · rcases ho.2 with h2 | ⟨g, cap, cur, rfl, hg, r⟩
    · exact .inl h2
    · exact .inr ⟨g, cap, cur, rfl, Nat.zero_le _, r⟩
  · intro b hb
    cases hv : v.ownBlock with
    | none => rw [hv] at hb; cases hb
    | some g =>
      rw [hv] at hb
      simp at hb
      subst hb
      exact (ho.lt b hv).1
end

theorem run_min {P : Program} (ats : Array TypeId) (ty : TypeId) (k k' : IntKind) (x y : Int) (w : World) : (Builtin.min_ ats ty #[.int k x, .int k' y]).run P w = .ok (.int k (min x y)) w := by
  have e : (if y < x then y else x) = min x y := by split <;> omega
  simp only [Builtin.min_, List.foldlM_cons, List.foldlM_nil, Builtin.min2, e]
  rfl
theorem run_max {P : Program} (ats : Array TypeId) (ty : TypeId) (k k' : IntKind) (x y : Int) (w : World) : (Builtin.max_ ats ty #[.int k x, .int k' y]).run P w = .ok (.int k (max x y)) w := by
  have e : (if x < y then y else x) = max x y := by split <;> omega
  simp only [Builtin.max_, List.foldlM_cons, List.foldlM_nil, Builtin.max2, gt_iff_lt, e]
  rfl

/-- The cells of a slice that is read (nothing is said of an empty one). -/
def Rd (w : World) (A : Option Addr) (inner : List Value) : Prop := inner ≠ [] → ∃ ad, A = some ad ∧ ∀ j u, inner[j]? = some u → w.cell? (ad.add j) = some u

theorem cell_mono {w w' : World} (hb : Below w.heap.size w w') {p : Addr} {u : Value} (h : w.cell? p = some u) : w'.cell? p = some u := by
  have hlt : p.block < w.heap.size := by
    cases hh : w.heap[p.block]? with
    | none => simp [World.cell?, hh] at h
    | some o => exact (Array.getElem?_eq_some_iff.1 hh).1
  rw [hb.cell hlt]; exact h

theorem Rd.below {w w' : World} {A : Option Addr} {inner : List Value} (h : Rd w A inner) (hb : Below w.heap.size w w') : Rd w' A inner := by
  intro hne
  obtain ⟨ad, e, hc⟩ := h hne
  exact ⟨ad, e, fun j u hj => cell_mono hb (hc j u hj)⟩

theorem Rd.nil (w : World) (A : Option Addr) : Rd w A [] := fun h => absurd rfl h

theorem Rd.box (w : World) (cs : List Value) (T : TypeId) {b : Nat} (hb : b = w.heap.size) : Rd (w.alloc (.cells cs.toArray T)) (some ⟨b, 0, none⟩) cs := by
  subst hb
  intro _
  refine ⟨_, rfl, fun j u hj => ?_⟩
  have hh := heap_alloc_new w (.cells cs.toArray T)
  have ha : (⟨w.heap.size, 0, none⟩ : Addr).add j = ⟨w.heap.size, j, none⟩ := by unfold Addr.add; split <;> simp_all
  rw [ha]
  simp only [World.cell?]
  rw [hh]
  simpa using hj

theorem Rd.at_ {w : World} {A : Option Addr} {inner : List Value} (h : Rd w A inner) {j : Nat} {u : Value} (hj : inner[j]? = some u) : ∃ ad, A = some ad ∧ w.cell? (ad.add j) = some u := by
  obtain ⟨ad, e, hc⟩ := h (by rintro rfl; simp at hj)
  exact ⟨ad, e, hc j u hj⟩

theorem Own.rd {base : Nat} {w : World} {L : List Atm} {e : TypeId} {sz n : Nat} {v : Value} {inner : List Value} (h : Own base w (row e sz v n inner :: L)) : ∃ A c, v = .slice A n c ∧ n ≤ c ∧ Rd w A inner := by
  have ho := h.ownsRow
  rcases ho.2 with ⟨rfl, rfl⟩ | ⟨g, cap, cur, rfl, hg, hh, hn, hm, hc, ht⟩
  · have : inner = [] := by simpa using ho.1
    subst this
    exact ⟨none, 0, rfl, Nat.le_refl _, Rd.nil _ _⟩
  · exact ⟨_, cap, rfl, hn, fun _ => ⟨_, rfl, fun j u hj => ho.cells (g := g) rfl j u hj⟩⟩

theorem Own.len {base : Nat} {w : World} {L : List Atm} {e : TypeId} {sz n : Nat} {v : Value} {inner : List Value} (h : Own base w (row e sz v n inner :: L)) : inner.length = n * sz := h.ownsRow.1

/-- A row that has elements: where it lies; its cells are read and written. -/
theorem Own.form {base : Nat} {w : World} {L : List Atm} {e : TypeId} {sz n : Nat} {v : Value} {inner : List Value} (h : Own base w (row e sz v n inner :: L)) (hn : 0 < n) :
    ∃ g c, v = .slice (some ⟨g, 0, none⟩) n c ∧ base ≤ g ∧ g < w.heap.size ∧ (∀ j, j < n * sz → w.cell? ⟨g, j, none⟩ = inner[j]?) ∧ (∀ j, w.frozen? ⟨g, j, none⟩ = false) := by
  have ho := h.ownsRow
  rcases ho.2 with ⟨rfl, rfl⟩ | ⟨g, cap, cur, rfl, hg, hh, r⟩
  · omega
  · exact ⟨g, cap, rfl, hg, (Array.getElem?_eq_some_iff.1 hh).1, fun j hj => ho.cellAt j hj, fun j => ho.frozenAt j⟩

/-- The row's block is not that of the cells. -/
theorem Own.ne_cells {base : Nat} {w : World} {L : List Atm} {e : TypeId} {sz n g o c b : Nat} {T : TypeId} {cs inner : List Value} (h : Own base w (row e sz (.slice (some ⟨g, o, none⟩) n c) n inner :: cellsAt b T cs :: L)) : g ≠ b := by
  obtain ⟨F, ⟨F1, F2, rfl, ⟨rfl, _⟩, G1, G2, rfl, ⟨rfl, _⟩, _⟩, hn, _⟩ := h
  rintro rfl
  simp [Value.ownBlock] at hn

theorem Own.store {base : Nat} {w : World} {L : List Atm} {e : TypeId} {sz n c g : Nat} {inner : List Value} (h : Own base w (row e sz (.slice (some ⟨g, 0, none⟩) n c) n inner :: L)) (j : Nat) (u : Value) :
    Own base (w.setCell ⟨g, j, none⟩ u) (row e sz (.slice (some ⟨g, 0, none⟩) n c) n (inner.set j u) :: L) := by
  have ho := h.ownsRow
  have hs := ho.stored j u
  have hlt : g < w.heap.size := (ho.lt g rfl).2
  have hb : base ≤ g := (ho.lt g rfl).1
  exact h.grown (by omega) hs.1 hs.2 (.inl rfl)

/-- A slice value that is read: n elements of sz cells. -/
structure Sl (w : World) (sz : Nat) (v : Value) (n : Nat) (inner : List Value) : Prop where
  ex : ∃ A c, v = .slice A n c ∧ n ≤ c ∧ (A = none → c = 0) ∧ Rd w A inner
  len : inner.length = n * sz
  one : ∀ u ∈ inner, u.oneCell' = true
  max : n ≤ 9223372036854775807

theorem Sl.below {w w' : World} {sz : Nat} {v : Value} {n : Nat} {inner : List Value} (h : Sl w sz v n inner) (hb : Below w.heap.size w w') : Sl w' sz v n inner := by
  obtain ⟨A, c, e, hc, hA, hr⟩ := h.ex
  exact ⟨⟨A, c, e, hc, hA, hr.below hb⟩, h.len, h.one, h.max⟩

theorem Sl.nil (w : World) (sz : Nat) : Sl w sz (.slice none 0 0) 0 [] := ⟨⟨none, 0, rfl, Nat.le_refl _, fun _ => rfl, Rd.nil _ _⟩, by simp, (fun _ h => by cases h), by omega⟩

theorem Own.sl {base : Nat} {w : World} {L : List Atm} {e : TypeId} {sz n : Nat} {v : Value} {inner : List Value} (h : Own base w (row e sz v n inner :: L)) (h1 : ∀ u ∈ inner, u.oneCell' = true) : Sl w sz v n inner := by
  have ho := h.ownsRow
  refine ⟨?_, ho.1, h1, ?_⟩
  · rcases ho.2 with ⟨rfl, rfl⟩ | ⟨g, cap, cur, rfl, hg, hh, hn, hm, hc, ht⟩
    · have : inner = [] := by simpa using ho.1
      subst this
      exact ⟨none, 0, rfl, Nat.le_refl _, fun _ => rfl, Rd.nil _ _⟩
    · exact ⟨_, cap, rfl, hn, (fun h => by cases h), fun _ => ⟨_, rfl, fun j u hj => ho.cells (g := g) rfl j u hj⟩⟩
  · rcases ho.2 with ⟨rfl, rfl⟩ | ⟨g, cap, cur, rfl, hg, hh, hn, hm, hc, ht⟩
    · omega
    · simp only [maxLen] at hm
      omega

/-- An element type of a slice type: its zero value, its cells, its bytes. -/
structure El (P : Program) (t e : TypeId) (z : Value) (sz bytes : Nat) : Prop where
  ht : P.underlying t = some (.slice e)
  hi : (P.info? e).map (fun i => (i.zero, i.size, i.bytes)) = some (some z, sz, bytes)
  hz : z.cells.size = sz
  hs : 0 < sz
  hb : 0 < bytes

section
variable {P : Program} {ops : Array Oper} {rest : List Oper} {o : Oper} {a : Act} {Q : Exit → Act → World → Prop} {w : World}

/-- append(v, x...): v a row of the call's own, x whatever is read. -/
theorem wp_row {base : Nat} {L : List Atm} {t e : TypeId} {z : Value} {sz bytes : Nat} {K : Act → World → Prop} (E : El P t e z sz bytes) (s x : Operand)
    (ho : o.op = .call { callee := .builtin .append, args := #[s, x], argTypes := #[t, t] })
    (v : Value) (n : Nat) (inner : List Value) (hs : a.eval s = v) (H : Own base w (row e sz v n inner :: L))
    (A : Option Addr) (m c : Nat) (news : List Value) (hx : a.eval x = .slice A m c) (hl : news.length = m * sz) (hr : Rd w A news) (h1 : ∀ u ∈ news, u.oneCell' = true) (hA : A = none → c = 0)
    (hbytes : (n + m) * bytes ≤ 140737488355328) (hbase : base ≤ w.heap.size)
    (h : ∀ v' w', Own base w' (row e sz v' (n + m) (inner ++ news) :: L) → Below base w w' → w.grownBy w' v.ownBlock → K (a.put o.dst v') w') : o.wp P a w K Q := by
  obtain ⟨i0, hi, hzz⟩ := Option.map_eq_some_iff.1 E.hi
  simp only [Prod.mk.injEq] at hzz
  obtain ⟨hz0, hz1, hz2⟩ := hzz
  have hown := H.ownsRow
  have hB : ∀ k, v.ownBlock = some k → base ≤ k := fun k hk => (hown.lt k hk).1
  have hlen : n + m ≤ 140737488355328 := Nat.le_trans (Nat.le_mul_of_pos_right _ E.hb) hbytes
  rcases A with _ | ad
  · have h0 : news = [] := by
      apply Classical.byContradiction
      intro hn
      obtain ⟨ad, hh, _⟩ := hr hn
      cases hh
    subst h0
    have hm : m = 0 := by
      have h2 : m * sz = 0 := by simpa using hl.symm
      rcases Nat.mul_eq_zero.1 h2 with h3 | h3
      · exact h3
      · have := E.hs; omega
    subst hm
    obtain rfl := hA rfl
    have hrun := run_append_owned_none (P := P) (w := w) base t o.type e i0 sz E.ht hi v n inner hown
    unfold Oper.wp
    simp [execOp, ho, resolve, invoke, builtin, hs, hx, hrun, Result.andThen]
    exact h v w (by simpa using H) (Below.refl _ _) ⟨rfl, rfl, rfl, Nat.le_refl _, fun _ _ _ => rfl⟩
  · have hc : ∀ j u, news[j]? = some u → w.cell? (ad.add j) = some u := by
      intro j u hj
      obtain ⟨ad', e, hcc⟩ := hr.at_ hj
      cases e
      exact hcc
    obtain ⟨v', w', hrun, ho', hg, _, hat⟩ := run_append_own_at (P := P) w base t o.type e i0 z sz bytes E.ht hi hz0 hz1 hz2 E.hz E.hs v n inner hown ad m c news hl hc h1 (by simp only [maxLen]; omega) hbytes hbase
    unfold Oper.wp
    simp [execOp, ho, resolve, invoke, builtin, hs, hx, hrun, Result.andThen]
    exact h v' w' (H.grown hbase ho' hg (hat.imp id fun e => ⟨_, e, Nat.le_refl _⟩)) ((Below.refl base w).grown hg hbase hB) hg

/-- At a list of operations. -/
theorem ap_row {base : Nat} {L : List Atm} {t e : TypeId} {z : Value} {sz bytes : Nat} (E : El P t e z sz bytes) (hgd : o.guard = none) (s x : Operand)
    (ho : o.op = .call { callee := .builtin .append, args := #[s, x], argTypes := #[t, t] })
    (v : Value) (n : Nat) (inner : List Value) (hs : a.eval s = v) (H : Own base w (row e sz v n inner :: L))
    (A : Option Addr) (m c : Nat) (news : List Value) (hx : a.eval x = .slice A m c) (hl : news.length = m * sz) (hr : Rd w A news) (h1 : ∀ u ∈ news, u.oneCell' = true) (hA : A = none → c = 0)
    (hbytes : (n + m) * bytes ≤ 140737488355328) (hbase : base ≤ w.heap.size)
    (h : ∀ v' w', Own base w' (row e sz v' (n + m) (inner ++ news) :: L) → Below base w w' → w.grownBy w' v.ownBlock → wpList P ops Q rest (a.put o.dst v') w') : wpList P ops Q (o :: rest) a w :=
  wpList_plain hgd fun _ hK => wp_row E s x ho v n inner hs H A m c news hx hl hr h1 hA hbytes hbase fun v' w' h2 h3 h4 => hK _ _ (h v' w' h2 h3 h4)

/-- At a step of a region that draws its order. -/
theorem st_row {base : Nat} {L : List Atm} {t e : TypeId} {z : Value} {sz bytes : Nat} {K : Act → World → Prop} {F : Prop} (E : El P t e z sz bytes) (hgd : o.guard = none) (s x : Operand)
    (ho : o.op = .call { callee := .builtin .append, args := #[s, x], argTypes := #[t, t] })
    (v : Value) (n : Nat) (inner : List Value) (hs : a.eval s = v) (H : Own base w (row e sz v n inner :: L))
    (A : Option Addr) (m c : Nat) (news : List Value) (hx : a.eval x = .slice A m c) (hl : news.length = m * sz) (hr : Rd w A news) (h1 : ∀ u ∈ news, u.oneCell' = true) (hA : A = none → c = 0)
    (hbytes : (n + m) * bytes ≤ 140737488355328) (hbase : base ≤ w.heap.size)
    (h : ∀ v' w', Own base w' (row e sz v' (n + m) (inner ++ news) :: L) → Below base w w' → w.grownBy w' v.ownBlock → K (a.put o.dst v') w') :
    if Region.wanted o (yielded ops a.tmps) = true then Oper.wp P o a w K Q else F := by
  have hw : Region.wanted o (yielded ops a.tmps) = true := by simp [Region.wanted, hgd]
  rw [if_pos hw]
  exact wp_row E s x ho v n inner hs H A m c news hx hl hr h1 hA hbytes hbase h
end

/-! ### a result that lies in memory -/
section
variable {P : Program} {base : Nat} {w : World} {L : List Atm}
theorem Own.loadVar {b : Nat} {T ty : TypeId} {cs : List Value} {d : TypeDesc} (h : Own base w (cellsAt b T cs :: L)) (hd : (match d with | .struct _ | .array _ _ => true | _ => false) = true) (hu : P.underlying ty = some d)
    (hi : (P.info? ty).map (·.size) = some cs.length) : (loadVar ty ⟨b, 0, none⟩).run P w = .ok (.agg cs.toArray) w :=
  run_loadVar_row w b T ty cs.toArray (0, 0) d h.block hu (by cases d <;> first | rfl | exact hd) (by simpa using hi)

theorem Own.res1 {b : Nat} {T ty : TypeId} {cs : List Value} {d : TypeDesc} (h : Own base w (cellsAt b T cs :: L)) {fn : Func} {t : Tmp} {tmps : Array Value} (hr : fn.results = #[.cell t ty]) (ht : tmps.getD t undef = .pointer (some ⟨b, 0, none⟩))
    (hd : (match d with | .struct _ | .array _ _ => true | _ => false) = true) (hu : P.underlying ty = some d) (hi : (P.info? ty).map (·.size) = some cs.length) :
    (results fn tmps).run P w = .ok (.agg cs.toArray) w := by
  have hl := h.loadVar hd hu hi
  have ht' : tmps[t]?.getD undef = .pointer (some ⟨b, 0, none⟩) := by simpa using ht
  simp only [results, hr]
  simp [ht', asAddr, hl]

theorem Own.res2 {b : Nat} {T ty : TypeId} {cs : List Value} {d : TypeDesc} (h : Own base w (cellsAt b T cs :: L)) {fn : Func} {t u : Tmp} {tmps : Array Value} (hr : fn.results = #[.cell t ty, .tmp u]) (ht : tmps.getD t undef = .pointer (some ⟨b, 0, none⟩))
    (hd : (match d with | .struct _ | .array _ _ => true | _ => false) = true) (hu : P.underlying ty = some d) (hi : (P.info? ty).map (·.size) = some cs.length) :
    (results fn tmps).run P w = .ok (.tuple #[.agg cs.toArray, tmps.getD u undef]) w := by
  have hl := h.loadVar hd hu hi
  have ht' : tmps[t]?.getD undef = .pointer (some ⟨b, 0, none⟩) := by simpa using ht
  simp only [results, hr]
  simp [ht', asAddr, hl]
end

end Go.Proofs.Ytecjokjmmejinaa.SL
