/- One action's place in a list of actions. -/
import Derived.Test.YtecjokjmmejinaaLawMark
namespace Go.Proofs.Ytecjokjmmejinaa
open Go.RowKit SL

/-- An action's two lists brought to the front. -/
theorem acs_open {base : Nat} {w : World} {v : Value} {l1 l2 : List AcV} {x : AcV} {L : List Atm} (h : Own base w (acsAt v (l1 ++ x :: l2) ++ L)) :
    Own base w (row 53 5 v (l1 ++ x :: l2).length ((l1 ++ x :: l2).flatMap acCells) :: rowI x.vp x.a.ps :: rowI x.vt x.a.tx :: (l1.flatMap acRows ++ (l2.flatMap acRows ++ L))) := by
  have h' : Own base w (row 53 5 v (l1 ++ x :: l2).length ((l1 ++ x :: l2).flatMap acCells) :: (l1.flatMap acRows ++ (rowI x.vp x.a.ps :: rowI x.vt x.a.tx :: (l2.flatMap acRows ++ L)))) := by
    simpa [acsAt, acRows] using h
  refine h'.perm (List.Perm.cons _ ?_)
  exact List.perm_middle.trans (List.Perm.cons _ List.perm_middle)
theorem acs_shut {base : Nat} {w : World} {v : Value} {l1 l2 : List AcV} {x : AcV} {L : List Atm}
    (h : Own base w (row 53 5 v (l1 ++ x :: l2).length ((l1 ++ x :: l2).flatMap acCells) :: rowI x.vp x.a.ps :: rowI x.vt x.a.tx :: (l1.flatMap acRows ++ (l2.flatMap acRows ++ L)))) :
    Own base w (acsAt v (l1 ++ x :: l2) ++ L) := by
  have h' : Own base w (row 53 5 v (l1 ++ x :: l2).length ((l1 ++ x :: l2).flatMap acCells) :: (l1.flatMap acRows ++ (rowI x.vp x.a.ps :: rowI x.vt x.a.tx :: (l2.flatMap acRows ++ L)))) :=
    h.perm (List.Perm.cons _ (List.perm_middle.trans (List.Perm.cons _ List.perm_middle)).symm)
  simpa [acsAt, acRows] using h'
theorem cells_set (l1 l2 : List AcV) (x : AcV) (j : Nat) (u : Value) (hj : j < 5) :
    ((l1 ++ x :: l2).flatMap acCells).set (l1.length * 5 + j) u = l1.flatMap acCells ++ ((acCells x).set j u ++ l2.flatMap acCells) := by
  rw [List.flatMap_append, List.flatMap_cons, List.set_append_right _ _ (by rw [acCells_len]; omega), acCells_len, Nat.add_sub_cancel_left, List.set_append_left _ _ (by simpa [acCells] using hj)]
/-- A store into one of an action's cells. -/
theorem acs_put {base : Nat} {w : World} {g N c : Nat} {l1 l2 : List AcV} {x : AcV} {R : List Atm} (x' : AcV) (j : Nat) (u : Value) (hj : j < 5) (hx : acCells x' = (acCells x).set j u)
    (h : Own base w (row 53 5 (.slice (some ⟨g, 0, none⟩) N c) N ((l1 ++ x :: l2).flatMap acCells) :: R)) :
    Own base (w.setCell ⟨g, l1.length * 5 + j, none⟩ u) (row 53 5 (.slice (some ⟨g, 0, none⟩) N c) N ((l1 ++ x' :: l2).flatMap acCells) :: R) := by
  have h' := h.store (l1.length * 5 + j) u
  rw [cells_set l1 l2 x j u hj, ← hx] at h'
  simpa using h'
/-- .. and what stands in them. -/
theorem acs_cells {base : Nat} {w : World} {g N c : Nat} {l1 l2 : List AcV} {x : AcV} {R : List Atm} (hN : (l1 ++ x :: l2).length = N)
    (h : Own base w (row 53 5 (.slice (some ⟨g, 0, none⟩) N c) N ((l1 ++ x :: l2).flatMap acCells) :: R)) (j : Nat) (hj : j < 5) :
    w.cell? ⟨g, l1.length * 5 + j, none⟩ = (acCells x)[j]? ∧ w.frozen? ⟨g, l1.length * 5 + j, none⟩ = false := by
  have hlt : l1.length < N := by rw [← hN]; simp
  obtain ⟨g', c', e, -, -, hc, hfz⟩ := h.form (by omega)
  simp only [Value.slice.injEq, Option.some.injEq, Addr.mk.injEq] at e
  obtain ⟨⟨rfl, -, -⟩, -, -⟩ := e
  refine ⟨?_, hfz _⟩
  rw [hc (l1.length * 5 + j) (by omega), acCells_get _ l1.length j (by rw [hN]; exact hlt) hj]
  congr 2
  rw [List.getElem_append_right (Nat.le_refl _)]
  simp
end Go.Proofs.Ytecjokjmmejinaa
