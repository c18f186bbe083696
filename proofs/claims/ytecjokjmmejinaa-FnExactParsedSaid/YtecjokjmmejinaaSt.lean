/- The walk's state (what is owned, what has not changed), and a rule for each operation that touches memory. -/
import Derived.Test.YtecjokjmmejinaaSL
import Derived.Deep.MidRow
import Derived.Deep.RegionHeld
namespace Go.Proofs.Ytecjokjmmejinaa.SL
open Go.RowKit

structure St (base : Nat) (w0 w : World) (L : List Atm) : Prop where
  own : Own base w L
  bel : Below base w0 w
  hb : base ≤ w.heap.size

theorem St.start (w : World) : St w.heap.size w w [] := ⟨Own.nil _ _, Below.refl _ _, Nat.le_refl _⟩
theorem St.begin {base : Nat} {w : World} {L : List Atm} (h : Own base w L) (hb : base ≤ w.heap.size) : St base w w L := ⟨h, Below.refl _ _, hb⟩

/-- a stands in L; the others are R. -/
inductive Pull : Atm → List Atm → List Atm → Prop
  | head {a : Atm} {L : List Atm} : Pull a (a :: L) L
  | tail {a x : Atm} {L R : List Atm} : Pull a L R → Pull a (x :: L) (x :: R)
theorem Pull.perm {a : Atm} {L R : List Atm} (h : Pull a L R) : L.Perm (a :: R) := by
  induction h with
  | head => exact .refl _
  | tail _ ih => exact (List.Perm.cons _ ih).trans (List.Perm.swap _ _ _)
/-- The same, found by Lean's own search. -/
class CellIn (b : Nat) (L : List Atm) (T : outParam TypeId) (cs : outParam (List Value)) (R : outParam (List Atm)) : Prop where
  pull : Pull (cellsAt b T cs) L R
instance (priority := high) cellIn_head {b : Nat} {T : TypeId} {cs : List Value} {L : List Atm} : CellIn b (cellsAt b T cs :: L) T cs L := ⟨.head⟩
instance cellIn_tail {b : Nat} {T : TypeId} {cs : List Value} {x : Atm} {L R : List Atm} [h : CellIn b L T cs R] : CellIn b (x :: L) T cs (x :: R) := ⟨.tail h.pull⟩
class RowIn (v : Value) (L : List Atm) (e : outParam TypeId) (sz : outParam Nat) (n : outParam Nat) (cs : outParam (List Value)) (R : outParam (List Atm)) : Prop where
  pull : Pull (row e sz v n cs) L R
instance (priority := high) rowIn_head {v : Value} {e : TypeId} {sz n : Nat} {cs : List Value} {L : List Atm} : RowIn v (row e sz v n cs :: L) e sz n cs L := ⟨.head⟩
instance rowIn_tail {v : Value} {e : TypeId} {sz n : Nat} {cs : List Value} {x : Atm} {L R : List Atm} [h : RowIn v L e sz n cs R] : RowIn v (x :: L) e sz n cs (x :: R) := ⟨.tail h.pull⟩
class PullIn (a : Atm) (L : List Atm) (R : outParam (List Atm)) : Prop where
  pull : Pull a L R
instance (priority := high) pullIn_head {a : Atm} {L : List Atm} : PullIn a (a :: L) L := ⟨.head⟩
instance pullIn_tail {a x : Atm} {L R : List Atm} [h : PullIn a L R] : PullIn a (x :: L) (x :: R) := ⟨.tail h.pull⟩
/-- All of M stands in L (the rest is let go). -/
inductive Sub : List Atm → List Atm → Prop
  | nil {L : List Atm} : Sub L []
  | cons {a : Atm} {L R M : List Atm} : Pull a L R → Sub R M → Sub L (a :: M)
class SubI (L M : List Atm) : Prop where
  sub : Sub L M
instance (priority := low) subI_nil {L : List Atm} : SubI L [] := ⟨.nil⟩
instance subI_cons {a : Atm} {L R M : List Atm} [h : PullIn a L R] [k : SubI R M] : SubI L (a :: M) := ⟨.cons h.pull k.sub⟩
theorem Sub.perm {L M : List Atm} (h : Sub L M) : ∃ R, L.Perm (M ++ R) := by
  induction h with
  | nil => exact ⟨_, .refl _⟩
  | cons p _ ih =>
    obtain ⟨R, hR⟩ := ih
    exact ⟨R, p.perm.trans (List.Perm.cons _ hR)⟩

section
variable {base : Nat} {w0 w w' : World} {L M R : List Atm}
theorem Own.sub (h : Own base w L) (hs : Sub L M) : Own base w M := by
  obtain ⟨R, hp⟩ := hs.perm
  exact (h.perm hp).left
theorem St.sub (h : St base w0 w L) (hs : Sub L M) : St base w0 w M := ⟨h.own.sub hs, h.bel, h.hb⟩
theorem St.pull {a : Atm} (h : St base w0 w L) (hp : Pull a L R) : St base w0 w (a :: R) := ⟨h.own.perm hp.perm, h.bel, h.hb⟩
theorem St.drew (h : St base w0 w L) : St base w0 w.drew L := ⟨h.own.drew, h.bel.drew, h.hb⟩
theorem St.drewN (h : St base w0 w L) (n : Nat) : St base w0 (w.drewN n) L := ⟨h.own.drewN n, below_drewN h.bel n, h.hb⟩
theorem St.tail {a : Atm} (h : St base w0 w (a :: L)) : St base w0 w L := ⟨h.own.tail, h.bel, h.hb⟩
/-- Behind a call that leaves all that was alone. -/
theorem St.call (h : St base w0 w L) (hb : Below w.heap.size w w') : St base w0 w' L :=
  ⟨h.own.below hb, h.bel.trans (hb.mono h.hb), Nat.le_trans h.hb hb.size⟩
theorem St.join (h : St base w0 w L) (hb : Below w.heap.size w w') (hm : Own w.heap.size w' M) : St base w0 w' (M ++ L) :=
  ⟨h.own.join hb h.hb hm, h.bel.trans (hb.mono h.hb), Nat.le_trans h.hb hb.size⟩
/-- Behind a call that took what is owned. -/
theorem St.next (h : St base w0 w L) (hb : Below base w w') (hm : Own base w' M) : St base w0 w' M :=
  ⟨hm, h.bel.trans hb, Nat.le_trans h.hb hb.size⟩
theorem St.alloc (h : St base w0 w L) (cs : List Value) (T : TypeId) : St base w0 (w.alloc (.cells cs.toArray T)) (cellsAt w.heap.size T cs :: L) :=
  ⟨h.own.alloc h.hb cs T rfl, h.bel.alloc h.hb _, by simpa using Nat.le_succ_of_le h.hb⟩
theorem St.set {b : Nat} {T : TypeId} {cs : List Value} (h : St base w0 w (cellsAt b T cs :: L)) (j : Nat) (u : Value) : St base w0 (w.setCell ⟨b, j, none⟩ u) (cellsAt b T (cs.set j u) :: L) :=
  ⟨h.own.setCell j u, h.bel.setCell h.own.block_base _, by simpa [World.setCell] using h.hb⟩
end

/-- cs with v put at j. -/
inductive SetC : List Value → Nat → Value → List Value → Prop
  | zero {a v : Value} {l : List Value} : SetC (a :: l) 0 v (v :: l)
  | succ {a v : Value} {l l' : List Value} {j : Nat} : SetC l j v l' → SetC (a :: l) (j + 1) v (a :: l')
class SetI (cs : List Value) (j : Nat) (v : Value) (cs' : outParam (List Value)) : Prop where
  set : SetC cs j v cs'
instance setI_zero {a v : Value} {l : List Value} : SetI (a :: l) 0 v (v :: l) := ⟨.zero⟩
instance setI_succ {a v : Value} {l l' : List Value} {j : Nat} [h : SetI l j v l'] : SetI (a :: l) (j + 1) v (a :: l') := ⟨.succ h.set⟩
theorem SetC.eq {cs cs' : List Value} {j : Nat} {v : Value} (h : SetC cs j v cs') : cs.set j v = cs' := by
  induction h with
  | zero => rfl
  | succ _ ih => simp [ih]
theorem SetC.lt {cs cs' : List Value} {j : Nat} {v : Value} (h : SetC cs j v cs') : j < cs.length := by
  induction h with
  | zero => simp
  | succ _ ih => simpa using ih

/-- cs's cells from j on are vs. -/
inductive SubC : List Value → Nat → List Value → Prop
  | nil {l : List Value} : SubC l 0 []
  | zero {a : Value} {l vs : List Value} : SubC l 0 vs → SubC (a :: l) 0 (a :: vs)
  | succ {a : Value} {l vs : List Value} {j : Nat} : SubC l j vs → SubC (a :: l) (j + 1) vs
class SubI' (l : List Value) (j n : Nat) (vs : outParam (List Value)) : Prop where
  sub : SubC l j vs
  len : vs.length = n
instance subI'_nil {l : List Value} : SubI' l 0 0 [] := ⟨.nil, rfl⟩
instance subI'_zero {a : Value} {l vs : List Value} {n : Nat} [h : SubI' l 0 n vs] : SubI' (a :: l) 0 (n + 1) (a :: vs) := ⟨.zero h.sub, by simp [h.len]⟩
instance subI'_succ {a : Value} {l vs : List Value} {j n : Nat} [h : SubI' l j n vs] : SubI' (a :: l) (j + 1) n vs := ⟨.succ h.sub, h.len⟩
theorem SubC.get {l vs : List Value} {j : Nat} (h : SubC l j vs) : ∀ i u, vs[i]? = some u → l[j + i]? = some u := by
  induction h with
  | nil => intro i u h; simp at h
  | zero _ ih =>
    intro i u h
    cases i with
    | zero => simpa using h
    | succ i => have := ih i u (by simpa using h); simpa using this
  | succ _ ih =>
    intro i u h
    have := ih i u h
    rw [Nat.add_right_comm]
    simpa using this

def isRowB (P : Program) (T : TypeId) : Bool := match P.underlying T with | some d => d.isRow | none => false
def flatB (P : Program) (T : TypeId) : Bool := match P.underlying T with | some d => !d.isRow | none => false
def sizeN (P : Program) (T : TypeId) : Option Nat := match P.info? T with | some i => some i.size | none => none
def zeroB (P : Program) (T : TypeId) : Option Value := match P.info? T with | some i => i.zero | none => none
/-- What is known of a program's types, found by Lean's own search. -/
class FlatI (P : Program) (T : TypeId) : Prop where
  h : flatB P T = true
  s : sizeN P T = some 1
class RowTI (P : Program) (T : TypeId) (n : outParam Nat) : Prop where
  h : isRowB P T = true
  s : sizeN P T = some n
class ZeroI (P : Program) (T : TypeId) (cs : outParam (List Value)) : Prop where
  z : ∃ z, zeroB P T = some z ∧ z.cells = cs.toArray
def sizeB (P : Program) (T : TypeId) (n : Nat) : Bool := match P.info? T with | some i => i.size == n | none => false

theorem sizeB_of {P : Program} {T : TypeId} {n : Nat} (h : sizeN P T = some n) : sizeB P T n = true := by
  unfold sizeN at h
  unfold sizeB
  split <;> simp_all
section
variable {P : Program} {ops : Array Oper} {rest : List Oper} {o : Oper} {a : Act} {Q : Exit → Act → World → Prop} {base : Nat} {w0 w : World} {L R : List Atm}

theorem ap_val {v : Value} {w' : World} (hgd : Region.wanted o (yielded ops a.tmps) = true) (hrun : (execOp a.eval o).run P w = .ok (.value v) w') (h : wpList P ops Q rest (a.put o.dst v) w') : wpList P ops Q (o :: rest) a w :=
  wpList_step fun _ hK => by rw [if_pos hgd]; unfold Oper.wp; rw [hrun]; exact hK _ _ h
theorem ap_skip {w' : World} (hgd : Region.wanted o (yielded ops a.tmps) = true) (hrun : (execOp a.eval o).run P w = .ok .skip w') (h : wpList P ops Q rest (a.put o.dst undef) w') : wpList P ops Q (o :: rest) a w :=
  wpList_step fun _ hK => by rw [if_pos hgd]; unfold Oper.wp; rw [hrun]; exact hK _ _ h

theorem run_load1 {T : TypeId} {p : Addr} {v : Value} (hT : flatB P T = true) (hc : w.cell? p = some v) : (Instr.loadAt T (.pointer (some p))).run P w = .ok v w := by
  unfold flatB at hT
  cases hu : P.underlying T with
  | none => rw [hu] at hT; cases hT
  | some d =>
    rw [hu] at hT
    have hagg : (isAgg T).run P w = .ok false w := by
      unfold isAgg
      rw [Sem.run_bind, run_underlying hu w]
      cases d <;> simp_all
    simp [Instr.loadAt, Instr.sureAddr, Sem.run_bind, loadVar, hagg, load, Sem.run, hc]
theorem run_loadN {T : TypeId} {p : Addr} {vs : List Value} {n : Nat} (hT : isRowB P T = true) (hn : sizeB P T n = true) (hl : vs.length = n) (hc : ∀ j u, vs[j]? = some u → w.cell? (p.add j) = some u) :
    (Instr.loadAt T (.pointer (some p))).run P w = .ok (.agg vs.toArray) w := by
  unfold sizeB at hn
  cases hq : P.info? T with
  | none => rw [hq] at hn; cases hn
  | some i =>
    rw [hq] at hn
    have hs : i.size = vs.length := by rw [hl]; simpa using hn
    unfold isRowB at hT
    cases hu : P.underlying T with
    | none => rw [hu] at hT; cases hT
    | some d =>
      rw [hu] at hT
      have hagg : (isAgg T).run P w = .ok true w := by
        unfold isAgg
        rw [Sem.run_bind, run_underlying hu w]
        cases d <;> simp_all
      have hlc := run_loadCells_list (P := P) w p vs hc
      simp [Instr.loadAt, Instr.sureAddr, Sem.run_bind, loadVar, hagg, sizeOf, typeInfo, hq, hs, hlc]

theorem run_store1 {T : TypeId} {p : Addr} {v u : Value} (hs : sizeB P T 1 = true) (h1 : v.oneCell' = true) (hc : w.cell? p = some u) (hf : w.frozen? p = false) : (Instr.storeAt T (.pointer (some p)) v).run P w = .ok () (w.setCell p v) := by
  unfold sizeB at hs
  cases hq : P.info? T with
  | none => rw [hq] at hs; cases hs
  | some i =>
    rw [hq] at hs
    have hi : i.size = 1 := by simpa using hs
    have hv : v.cells = #[v] := by cases v <;> first | rfl | (simp [Value.oneCell'] at h1)
    have ha : p.add 0 = p := by unfold Addr.add; simp
    have hst := run_store P w p v .plain h1
    rw [hc] at hst
    simp only [hf] at hst
    simp only [Instr.storeAt, Instr.sureAddr, Sem.run_bind, Sem.run_pure, Result.andThen_ok, storeVar, sizeOf, typeInfo, program, Sem.run, hq, hi, hv]
    simp [storeCells, ha, hst]

theorem ap_load {T T' : TypeId} {x : Operand} {b j : Nat} {cs : List Value} {v : Value} (hgd : Region.wanted o (yielded ops a.tmps) = true) (ho : o.op = .load T x) (hx : a.eval x = .pointer (some ⟨b, j, none⟩)) [hT : FlatI P T]
    (S : St base w0 w L) [hp : CellIn b L T' cs R] (hv : cs[j]? = some v) (h : wpList P ops Q rest (a.put o.dst v) w) : wpList P ops Q (o :: rest) a w :=
  ap_val hgd (by simp only [execOp, ho, hx, Sem.run_bind, run_load1 hT.h (((S.pull hp.pull).own.cell j).trans hv), Result.andThen_ok, Sem.run_pure]) h
theorem ap_loadN {T T' : TypeId} {x : Operand} {b j : Nat} {cs vs : List Value} (hgd : Region.wanted o (yielded ops a.tmps) = true) (ho : o.op = .load T x) (hx : a.eval x = .pointer (some ⟨b, j, none⟩)) {n : Nat} [hT : RowTI P T n]
    (S : St base w0 w L) [hp : CellIn b L T' cs R] [hv : SubI' cs j n vs] (h : wpList P ops Q rest (a.put o.dst (.agg vs.toArray)) w) : wpList P ops Q (o :: rest) a w :=
  ap_val hgd (by
    have hr := run_loadN (P := P) (w := w) (p := ⟨b, j, none⟩) hT.h (sizeB_of hT.s) hv.len (fun i u hi => by rw [Addr.add_mid, (S.pull hp.pull).own.cell (j + i)]; exact hv.sub.get i u hi)
    simp only [execOp, ho, hx, Sem.run_bind, hr, Result.andThen_ok, Sem.run_pure]) h
/-- Cells that are known at an address. -/
def Known (w : World) (p : Addr) (vs : List Value) : Prop := ∀ j u, vs[j]? = some u → w.cell? (p.add j) = some u
theorem ap_loadK {T : TypeId} {x : Operand} {p : Addr} {v : Value} {vs : List Value} (hgd : Region.wanted o (yielded ops a.tmps) = true) (ho : o.op = .load T x) (hx : a.eval x = .pointer (some p)) [hT : FlatI P T]
    (hk : Known w p vs) (hv : vs[0]? = some v) (h : wpList P ops Q rest (a.put o.dst v) w) : wpList P ops Q (o :: rest) a w :=
  ap_val hgd (by
    have hc : w.cell? p = some v := by have := hk 0 v hv; rwa [show p.add 0 = p from by unfold Addr.add; simp] at this
    simp only [execOp, ho, hx, Sem.run_bind, run_load1 hT.h hc, Result.andThen_ok, Sem.run_pure]) h
theorem ap_loadKN {T : TypeId} {x : Operand} {p : Addr} {vs : List Value} (hgd : Region.wanted o (yielded ops a.tmps) = true) (ho : o.op = .load T x) (hx : a.eval x = .pointer (some p)) {n : Nat} [hT : RowTI P T n]
    (hk : Known w p vs) (hn : vs.length = n) (h : wpList P ops Q rest (a.put o.dst (.agg vs.toArray)) w) : wpList P ops Q (o :: rest) a w :=
  ap_val hgd (by
    have hr := run_loadN (P := P) (w := w) (p := p) hT.h (sizeB_of hT.s) hn hk
    simp only [execOp, ho, hx, Sem.run_bind, hr, Result.andThen_ok, Sem.run_pure]) h

theorem ap_store {T T' : TypeId} {x y : Operand} {b j : Nat} {cs cs' : List Value} {v : Value} (hgd : Region.wanted o (yielded ops a.tmps) = true) (ho : o.op = .store T x y) (hx : a.eval x = .pointer (some ⟨b, j, none⟩)) (hy : a.eval y = v) (h1 : v.oneCell' = true) [hT : FlatI P T]
    (S : St base w0 w L) [hp : CellIn b L T' cs R] [hs : SetI cs j v cs'] (h : ∀ w', St base w0 w' (cellsAt b T' cs' :: R) → wpList P ops Q rest (a.put o.dst undef) w') : wpList P ops Q (o :: rest) a w := by
  have S1 := S.pull hp.pull
  have hc := S1.own.cell j
  rw [List.getElem?_eq_getElem hs.set.lt] at hc
  have hr := run_store1 (P := P) (sizeB_of hT.s) h1 hc (S1.own.free j)
  have S2 := S1.set j v
  rw [hs.set.eq] at S2
  exact ap_skip (w' := w.setCell ⟨b, j, none⟩ v) hgd (by simp only [execOp, ho, hx, hy, Sem.run_bind, hr, Result.andThen_ok, Sem.run_pure]) (h _ S2)

/-- cs with vs put from j on. -/
inductive SetCs : List Value → Nat → List Value → List Value → Prop
  | nil {cs : List Value} {j : Nat} : SetCs cs j [] cs
  | cons {cs cs1 cs2 : List Value} {j : Nat} {v : Value} {vs : List Value} : SetC cs j v cs1 → SetCs cs1 (j + 1) vs cs2 → SetCs cs j (v :: vs) cs2
class SetsI (cs : List Value) (j : Nat) (vs : List Value) (cs' : outParam (List Value)) : Prop where
  sets : SetCs cs j vs cs'
instance setsI_nil {cs : List Value} {j : Nat} : SetsI cs j [] cs := ⟨.nil⟩
instance setsI_cons {cs cs1 cs2 : List Value} {j : Nat} {v : Value} {vs : List Value} [h : SetI cs j v cs1] [k : SetsI cs1 (j + 1) vs cs2] : SetsI cs j (v :: vs) cs2 := ⟨.cons h.set k.sets⟩
theorem St.sets {b : Nat} {T : TypeId} {cs cs' vs : List Value} {j : Nat} (hs : SetCs cs j vs cs') : ∀ {w : World}, St base w0 w (cellsAt b T cs :: L) → St base w0 (w.setCells b j vs) (cellsAt b T cs' :: L) := by
  induction hs with
  | nil => exact fun S => S
  | @cons cs cs1 cs2 j v vs h1 _ ih =>
    intro w S
    have S2 := S.set j v
    rw [h1.eq] at S2
    exact ih S2
theorem SetCs.lt {cs cs' vs : List Value} {j : Nat} (hs : SetCs cs j vs cs') : ∀ i, i < vs.length → j + i < cs.length := by
  induction hs with
  | nil => intro i h; simp at h
  | cons h1 _ ih =>
    intro i h
    cases i with
    | zero => exact h1.lt
    | succ i =>
      have := ih i (by simpa using h)
      rw [← h1.eq, List.length_set] at this
      omega
theorem ap_storeN {T T' : TypeId} {x y : Operand} {b j : Nat} {cs cs' vs : List Value} (hgd : Region.wanted o (yielded ops a.tmps) = true) (ho : o.op = .store T x y) (hx : a.eval x = .pointer (some ⟨b, j, none⟩)) (hy : a.eval y = .agg vs.toArray) (h1 : vs.all (·.oneCell') = true) {n : Nat} [hT : RowTI P T n] (hn : vs.length = n)
    (S : St base w0 w L) [hp : CellIn b L T' cs R] [hs : SetsI cs j vs cs'] (h : ∀ w', St base w0 w' (cellsAt b T' cs' :: R) → wpList P ops Q rest (a.put o.dst undef) w') : wpList P ops Q (o :: rest) a w := by
  have S1 := S.pull hp.pull
  have ht : w.there b j vs.toArray.size := by
    intro i hi
    have hl := hs.sets.lt i (by simpa using hi)
    refine ⟨?_, S1.own.free _⟩
    rw [S1.own.cell, List.getElem?_eq_getElem hl]
    rfl
  have hq : (P.info? T).map (·.size) = some vs.toArray.size := by
    have hT := hT.s
    unfold sizeN at hT
    cases hi : P.info? T with
    | none => rw [hi] at hT; cases hT
    | some i => rw [hi] at hT; simp only [Option.some.injEq] at hT; simp [hT, hn]
  have hr := run_storeAt_mid (P := P) w b j T vs.toArray ht hq (by rw [Array.all_eq_true_iff_forall_mem]; intro v hv; exact List.all_eq_true.1 h1 v (by simpa using hv))
  exact ap_skip (w' := w.setCells b j vs) hgd (by simp only [execOp, ho, hx, hy, Sem.run_bind, hr, Result.andThen_ok, Sem.run_pure]) (h _ (S1.sets hs.sets))

theorem ap_box {T : TypeId} {x : Operand} {v : Value} {cs : List Value} (hgd : Region.wanted o (yielded ops a.tmps) = true) (ho : o.op = .box T x) (hx : a.eval x = v) (hcs : v.cells = cs.toArray)
    (S : St base w0 w L) (h : ∀ b w', St base w0 w' (cellsAt b T cs :: L) → wpList P ops Q rest (a.put o.dst (.pointer (some ⟨b, 0, none⟩))) w') : wpList P ops Q (o :: rest) a w :=
  ap_val (v := .pointer (some ⟨w.heap.size, 0, none⟩)) (w' := w.alloc (.cells cs.toArray T)) hgd
    (by simp only [execOp, ho, hx, Instr.box, newVar, newRow, newObj, hcs, Sem.run_bind, Sem.run, Result.andThen_ok, Sem.run_pure]; rfl) (h _ _ (S.alloc cs T))
theorem ap_alloc {T : TypeId} {cs : List Value} (hgd : Region.wanted o (yielded ops a.tmps) = true) (ho : o.op = .alloc T) [hT : ZeroI P T cs]
    (S : St base w0 w L) (h : ∀ b w', St base w0 w' (cellsAt b T cs :: L) → wpList P ops Q rest (a.put o.dst (.pointer (some ⟨b, 0, none⟩))) w') : wpList P ops Q (o :: rest) a w := by
  obtain ⟨z, hz, hcs⟩ := hT.z
  have hi : (zeroValue T).run P w = .ok z w := by
    unfold zeroB at hz
    cases hq : P.info? T with
    | none => rw [hq] at hz; cases hz
    | some i =>
      rw [hq] at hz
      simp only [zeroValue, typeInfo, program, Sem.run_bind, Sem.run, Result.andThen_ok, hq]
      simp only [Sem.run_pure, Result.andThen_ok, hz]
  exact ap_val (v := .pointer (some ⟨w.heap.size, 0, none⟩)) (w' := w.alloc (.cells cs.toArray T)) hgd
    (by simp only [execOp, ho, Instr.alloc, Sem.run_bind, hi, Result.andThen_ok, newVar, newRow, newObj, hcs, Sem.run, Sem.run_pure]; rfl) (h _ _ (S.alloc cs T))
end

/-! ### facts in a bundle -/
def bun (p : Prop) (M : List Atm) : Atm where
  A := fun w F => p ∧ OwnF w M F
  keep := fun h hk => ⟨h.1, h.2.keep hk⟩
  lt := fun h => h.2.lt
def exA {ι : Type} (f : ι → Atm) : Atm where
  A := fun w F => ∃ i, (f i).A w F
  keep := fun ⟨i, h⟩ hk => ⟨i, (f i).keep h hk⟩
  lt := fun ⟨i, h⟩ => (f i).lt h
section
variable {base : Nat} {w0 w : World} {L M : List Atm} {p : Prop}
theorem Own.bun (hp : p) (h : Own base w (M ++ L)) : Own base w (bun p M :: L) := by
  obtain ⟨F, hF, hn, hb⟩ := h
  obtain ⟨F1, F2, rfl, h1, h2⟩ := hF.split
  exact ⟨_, ⟨F1, F2, rfl, ⟨hp, h1⟩, h2⟩, hn, hb⟩
theorem Own.unbun (h : Own base w (SL.bun p M :: L)) : p ∧ Own base w (M ++ L) := by
  obtain ⟨F, ⟨F1, F2, rfl, ⟨hp, h1⟩, h2⟩, hn, hb⟩ := h
  exact ⟨hp, _, h1.append h2, hn, hb⟩
theorem Own.ex {ι : Type} {f : ι → Atm} (i : ι) (h : Own base w (f i :: L)) : Own base w (exA f :: L) := by
  obtain ⟨F, ⟨F1, F2, rfl, h1, h2⟩, hn, hb⟩ := h
  exact ⟨_, ⟨F1, F2, rfl, ⟨i, h1⟩, h2⟩, hn, hb⟩
theorem Own.unex {ι : Type} {f : ι → Atm} (h : Own base w (exA f :: L)) : ∃ i, Own base w (f i :: L) := by
  obtain ⟨F, ⟨F1, F2, rfl, ⟨i, h1⟩, h2⟩, hn, hb⟩ := h
  exact ⟨i, _, ⟨F1, F2, rfl, h1, h2⟩, hn, hb⟩
theorem St.bun (hp : p) (h : St base w0 w (M ++ L)) : St base w0 w (SL.bun p M :: L) := ⟨h.own.bun hp, h.bel, h.hb⟩
theorem St.unbun (h : St base w0 w (SL.bun p M :: L)) : p ∧ St base w0 w (M ++ L) := ⟨h.own.unbun.1, h.own.unbun.2, h.bel, h.hb⟩
theorem St.ex {ι : Type} {f : ι → Atm} (i : ι) (h : St base w0 w (f i :: L)) : St base w0 w (exA f :: L) := ⟨h.own.ex i, h.bel, h.hb⟩
theorem St.unex {ι : Type} {f : ι → Atm} (h : St base w0 w (exA f :: L)) : ∃ i, St base w0 w (f i :: L) := by
  obtain ⟨i, hi⟩ := h.own.unex
  exact ⟨i, hi, h.bel, h.hb⟩
end

/-- The cells of a block, from o on, one by one. -/
def CellsEq (w : World) (b : Nat) : Nat → List Value → Prop
  | _, [] => True
  | o, v :: r => w.cell? ⟨b, o, none⟩ = some v ∧ CellsEq w b (o + 1) r
theorem St.cells {base : Nat} {w0 w : World} {L R : List Atm} {b : Nat} {T : TypeId} {cs : List Value} (S : St base w0 w L) (hp : Pull (cellsAt b T cs) L R) : CellsEq w b 0 cs := by
  have key : ∀ (vs : List Value) (o : Nat), (∀ j u, vs[j]? = some u → w.cell? ⟨b, o + j, none⟩ = some u) → CellsEq w b o vs := by
    intro vs
    induction vs with
    | nil => exact fun _ _ => trivial
    | cons v r ih =>
      intro o h
      exact ⟨h 0 v rfl, ih (o + 1) fun j u hj => by rw [Nat.add_assoc, Nat.add_comm 1 j]; exact h (j + 1) u (by simpa using hj)⟩
  exact key cs 0 fun j u hj => by rw [Nat.zero_add, (S.pull hp).own.cell]; exact hj

/-! ### a region that draws its order -/
/-- What stands through a region: what is below, and the cells of some blocks. -/
def KS (base : Nat) (w0 : World) (Ks : List (Nat × List Value)) (w : World) : Prop := Below base w0 w ∧ ∀ x ∈ Ks, CellsEq w x.1 0 x.2
class AllC (L : List Atm) (Ks : outParam (List (Nat × List Value))) : Prop where
  all : ∀ {base : Nat} {w0 w : World}, St base w0 w L → ∀ x ∈ Ks, CellsEq w x.1 0 x.2
instance allC_nil : AllC [] [] := ⟨fun _ _ h => by cases h⟩
instance (priority := high) allC_cell {b : Nat} {T : TypeId} {cs : List Value} {L : List Atm} {Ks : List (Nat × List Value)} [h : AllC L Ks] : AllC (cellsAt b T cs :: L) ((b, cs) :: Ks) :=
  ⟨fun S x hx => by
    rcases List.mem_cons.1 hx with rfl | hx
    · exact S.cells .head
    · exact h.all S.tail x hx⟩
instance (priority := low) allC_other {x : Atm} {L : List Atm} {Ks : List (Nat × List Value)} [h : AllC L Ks] : AllC (x :: L) Ks := ⟨fun S => h.all S.tail⟩
class HasC (L : List Atm) (Ks : List (Nat × List Value)) : Prop where
  all : ∀ {base : Nat} {w0 w : World}, St base w0 w L → ∀ x ∈ Ks, CellsEq w x.1 0 x.2
instance hasC_nil {L : List Atm} : HasC L [] := ⟨fun _ _ h => by cases h⟩
instance hasC_cons {b : Nat} {T : TypeId} {cs : List Value} {L R : List Atm} {Ks : List (Nat × List Value)} [k : CellIn b L T cs R] [h : HasC L Ks] : HasC L ((b, cs) :: Ks) :=
  ⟨fun S x hx => by
    rcases List.mem_cons.1 hx with rfl | hx
    · exact S.cells k.pull
    · exact h.all S x hx⟩
class InK (b : Nat) (Ks : List (Nat × List Value)) (cs : outParam (List Value)) : Prop where
  mem : (b, cs) ∈ Ks
instance (priority := high) inK_head {b : Nat} {cs : List Value} {Ks : List (Nat × List Value)} : InK b ((b, cs) :: Ks) cs := ⟨List.mem_cons_self⟩
instance inK_tail {b : Nat} {cs : List Value} {x : Nat × List Value} {Ks : List (Nat × List Value)} [h : InK b Ks cs] : InK b (x :: Ks) cs := ⟨List.mem_cons_of_mem _ h.mem⟩
theorem CellsEq.get {w : World} {b : Nat} : ∀ {cs : List Value} {o : Nat}, CellsEq w b o cs → ∀ (j : Nat) (u : Value), cs[j]? = some u → w.cell? ⟨b, o + j, none⟩ = some u
  | [], _, _, j, u, h => by simp at h
  | v :: r, o, ⟨h1, h2⟩, j, u, h => by
    cases j with
    | zero => simp at h; subst h; exact h1
    | succ j => have := CellsEq.get h2 j u (by simpa using h); rwa [Nat.add_assoc, Nat.add_comm 1 j] at this

section
variable {P : Program} {ops : Array Oper} {Q : Exit → Act → World → Prop} {a : Act} {base : Nat} {w0 w : World} {L R : List Atm} {Ks : List (Nat × List Value)} {md : Region.Mode} {fuel : Nat} {listed : Array Bool}

theorem St.ks (S : St base w0 w L) [h : HasC L Ks] : KS base w0 Ks w := ⟨S.bel, h.all S⟩
theorem dr_start {id : Nat} (hm : P.follows .mixedOrders = true) (S : St base w0 w L) [_hk : AllC L Ks]
    (h : ∀ w, St base w0 w L → wpAnyH P .any ops Q (KS base w0 Ks) ops.size (Array.replicate ops.size false) a w) : (Code.region id ops true).wp P Q a w :=
  wp_region_held hm (h _ S.drew)
theorem dr_take {oi : Oper} {v : Value} (i : Nat) (hi : ops[i]? = some oi) (hs : Region.noSelect ops = true) (hf : Region.free md ops listed i = true) (hr : (Region.ready md ops listed).contains i = true)
    (hQ : ∀ c a w, Q (.panic c) (a.put oi.dst v) w → Q (.panic c) a w) (hw : Region.wanted oi (yielded ops a.tmps) = true) (hrun : ∀ w, KS base w0 Ks w → (execOp a.eval oi).run P w = .ok (.value v) w)
    (S : St base w0 w L) [hk : HasC L Ks] (h : wpAnyH P md ops Q (KS base w0 Ks) fuel (listed.setIfInBounds i true) (a.put oi.dst v) w) : wpAnyH P md ops Q (KS base w0 Ks) (fuel + 1) listed a w :=
  wpAnyH_take hi hs hf hr hQ (.inl ⟨hw, hrun⟩) S.ks h
theorem dr_pass {oi : Oper} (i : Nat) (hi : ops[i]? = some oi) (hs : Region.noSelect ops = true) (hf : Region.free md ops listed i = true) (hr : (Region.ready md ops listed).contains i = true)
    (hQ : ∀ c a w, Q (.panic c) (a.put oi.dst undef) w → Q (.panic c) a w) (hw : Region.wanted oi (yielded ops a.tmps) = false)
    (S : St base w0 w L) [hk : HasC L Ks] (h : wpAnyH P md ops Q (KS base w0 Ks) fuel (listed.setIfInBounds i true) (a.put oi.dst undef) w) : wpAnyH P md ops Q (KS base w0 Ks) (fuel + 1) listed a w :=
  wpAnyH_take hi hs hf hr hQ (.inr ⟨hw, rfl⟩) S.ks h
theorem dr_load {oi : Oper} {v : Value} {T : TypeId} {x : Operand} {b j : Nat} {cs : List Value} (i : Nat) (hi : ops[i]? = some oi) (hs : Region.noSelect ops = true) (hf : Region.free md ops listed i = true) (hr : (Region.ready md ops listed).contains i = true)
    (hQ : ∀ c a w, Q (.panic c) (a.put oi.dst v) w → Q (.panic c) a w) (hw : Region.wanted oi (yielded ops a.tmps) = true) (ho : oi.op = .load T x) (hx : a.eval x = .pointer (some ⟨b, j, none⟩)) [hT : FlatI P T] [hb : InK b Ks cs] (hv : cs[j]? = some v)
    (S : St base w0 w L) [hk : HasC L Ks] (h : wpAnyH P md ops Q (KS base w0 Ks) fuel (listed.setIfInBounds i true) (a.put oi.dst v) w) : wpAnyH P md ops Q (KS base w0 Ks) (fuel + 1) listed a w :=
  dr_take i hi hs hf hr hQ hw (fun w hw => by
    have hc := (hw.2 _ hb.mem).get j v hv
    rw [Nat.zero_add] at hc
    simp only [execOp, ho, hx, Sem.run_bind, run_load1 hT.h hc, Result.andThen_ok, Sem.run_pure]) S h
theorem dr_loadN {oi : Oper} {vs : List Value} {T : TypeId} {x : Operand} {b j n : Nat} {cs : List Value} (i : Nat) (hi : ops[i]? = some oi) (hs : Region.noSelect ops = true) (hf : Region.free md ops listed i = true) (hr : (Region.ready md ops listed).contains i = true)
    (hQ : ∀ c a w, Q (.panic c) (a.put oi.dst (.agg vs.toArray)) w → Q (.panic c) a w) (hw : Region.wanted oi (yielded ops a.tmps) = true) (ho : oi.op = .load T x) (hx : a.eval x = .pointer (some ⟨b, j, none⟩)) [hT : RowTI P T n] [hb : InK b Ks cs] [hv : SubI' cs j n vs]
    (S : St base w0 w L) [hk : HasC L Ks] (h : wpAnyH P md ops Q (KS base w0 Ks) fuel (listed.setIfInBounds i true) (a.put oi.dst (.agg vs.toArray)) w) : wpAnyH P md ops Q (KS base w0 Ks) (fuel + 1) listed a w :=
  dr_take i hi hs hf hr hQ hw (fun w hw => by
    have hr := run_loadN (P := P) (w := w) (p := ⟨b, j, none⟩) hT.h (sizeB_of hT.s) hv.len (fun k u hk => by
      rw [Addr.add_mid]
      have hc := (hw.2 _ hb.mem).get (j + k) u (hv.sub.get k u hk)
      rwa [Nat.zero_add] at hc)
    simp only [execOp, ho, hx, Sem.run_bind, hr, Result.andThen_ok, Sem.run_pure]) S h
theorem dr_move {oi : Oper} {v : Value} {x : Operand} (i : Nat) (hi : ops[i]? = some oi) (hs : Region.noSelect ops = true) (hf : Region.free md ops listed i = true) (hr : (Region.ready md ops listed).contains i = true)
    (hQ : ∀ c a w, Q (.panic c) (a.put oi.dst v) w → Q (.panic c) a w) (hw : Region.wanted oi (yielded ops a.tmps) = true) (ho : oi.op = .move x ∨ oi.op = .assign x) (hx : a.eval x = v)
    (S : St base w0 w L) [hk : HasC L Ks] (h : wpAnyH P md ops Q (KS base w0 Ks) fuel (listed.setIfInBounds i true) (a.put oi.dst v) w) : wpAnyH P md ops Q (KS base w0 Ks) (fuel + 1) listed a w :=
  dr_take i hi hs hf hr hQ hw (fun w hw => by rcases ho with ho | ho <;> simp only [execOp, ho, hx, Sem.run_pure]) S h
/-- The one that comes up is carried out; what stands through stands behind it. -/
theorem dr_step {oi : Oper} (i : Nat) (hi : ops[i]? = some oi) (hr : Region.ready md ops listed = [i]) (hw : Region.wanted oi (yielded ops a.tmps) = true)
    (h : ∀ K : Act → World → Prop, Shut (∀ a w L, St base w0 w L → HasC L Ks → (St base w0 w L → wpAnyH P md ops Q (KS base w0 Ks) fuel (listed.setIfInBounds i true) a w) → K a w) → Oper.wp P oi a w K Q) :
    wpAnyH P md ops Q (KS base w0 Ks) (fuel + 1) listed a w :=
  wpAnyH_ready hr (by simp) (AllReadyH.cons hi (fun K hK => by
    rw [if_pos hw]
    refine h K ?_
    intro a w L S hk hx
    have := hk
    exact hK.out a w S.ks (fun _ => hx S)) AllReadyH.nil)
end
end Go.Proofs.Ytecjokjmmejinaa.SL
