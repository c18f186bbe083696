/- The laws' eqAction, eqActionS, markActionS, heldActionS. -/
import Derived.Test.YtecjokjmmejinaaLawPars
namespace Go.Proofs.Ytecjokjmmejinaa
open Go.RowKit SL

theorem SL.Own.c5 {base b : Nat} {w : World} {T : TypeId} {a0 a1 a2 a3 a4 : Value} {L : List Atm} (h : Own base w (cellsAt b T [a0, a1, a2, a3, a4] :: L)) :
    (w.cell? ⟨b, 0, none⟩ = some a0 ∧ w.cell? ⟨b, 1, none⟩ = some a1 ∧ w.cell? ⟨b, 2, none⟩ = some a2 ∧ w.cell? ⟨b, 3, none⟩ = some a3 ∧ w.cell? ⟨b, 4, none⟩ = some a4) ∧
    w.frozen? ⟨b, 0, none⟩ = false ∧ w.frozen? ⟨b, 1, none⟩ = false ∧ w.frozen? ⟨b, 2, none⟩ = false ∧ w.frozen? ⟨b, 3, none⟩ = false ∧ w.frozen? ⟨b, 4, none⟩ = false :=
  ⟨⟨h.cell 0, h.cell 1, h.cell 2, h.cell 3, h.cell 4⟩, h.free 0, h.free 1, h.free 2, h.free 3, h.free 4⟩

/-- An action's two lists, read. -/
structure RdA (w : World) (a : Acn) (vp vt : Value) : Prop where
  ps : Sl w 1 vp a.ps.length (nums a.ps)
  tx : Sl w 1 vt a.tx.length (nums a.tx)
theorem RdA.below {w w' : World} {a : Acn} {vp vt : Value} (h : RdA w a vp vt) (hb : Below w.heap.size w w') : RdA w' a vp vt := ⟨h.ps.below hb, h.tx.below hb⟩

set_option maxRecDepth 100000 in
set_option maxHeartbeats 1000000 in
theorem eqAction_calls (a : Acn) (va vb vc vd : Value) (w : World) (ha : RdA w a va vb) (hb : RdA w a vc vd) :
    Calls Try.prog 34 #[.agg #[i64 a.kind, i64 a.rune, va, i64 a.mr, vb], .agg #[i64 a.kind, i64 a.rune, vc, i64 a.mr, vd]] w fun e w' => e = .returned (.bool true) ∧ Below w.heap.size w w' := by
  have HA := Aside0.mk ha
  have HB := Aside0.mk hb
  obtain ⟨A1, c1, rfl, -⟩ := ha.ps.ex
  obtain ⟨A2, c2, rfl, -⟩ := ha.tx.ex
  obtain ⟨A3, c3, rfl, -⟩ := hb.ps.ex
  obtain ⟨A4, c4, rfl, -⟩ := hb.tx.ex
  clear ha hb
  have hu := Try.underlying53
  have sA := szA
  have H0 := Aside0.mk (((Own.nil w.heap.size w).alloc (Nat.le_refl _) [i64 a.kind, i64 a.rune, .slice A1 a.ps.length c1, i64 a.mr, .slice A2 a.tx.length c2] 53 rfl).alloc (by simp) [i64 a.kind, i64 a.rune, .slice A3 a.ps.length c3, i64 a.mr, .slice A4 a.tx.length c4] 53 (b := w.heap.size + 1) (by simp))
  have B0 := Aside0.mk (((Below.refl w.heap.size w).alloc (Nat.le_refl _) (.cells #[i64 a.kind, i64 a.rune, .slice A1 a.ps.length c1, i64 a.mr, .slice A2 a.tx.length c2] 53)).alloc (by simp) (.cells #[i64 a.kind, i64 a.rune, .slice A3 a.ps.length c3, i64 a.mr, .slice A4 a.tx.length c4] 53))
  go_enter Try.func34, Try.ntmps34
  go_wp2_with (first
    | (go_at_call 19; (with_reducible refine (eqInt64S_calls (.slice A1 a.ps.length c1) (.slice A3 a.ps.length c3) a.ps _ (HA.out.ps.below B0.out) (HB.out.ps.below B0.out)).mono ?_); rintro e w1 ⟨rfl, n1, hw1⟩
       have H1 := own_eq (H0.out.drewN n1) hw1.symm
       have B1 := Aside0.mk (below_eq (below_drewN B0.out n1) hw1.symm)
       clear hw1
       obtain ⟨⟨s0, s1, s2, s3, s4⟩, -⟩ := H1.c5
       obtain ⟨⟨r0, r1, r2, r3, r4⟩, -⟩ := H1.pull1.c5)
    | (go_at_call 19; (with_reducible refine (eqInt64S_calls (.slice A2 a.tx.length c2) (.slice A4 a.tx.length c4) a.tx _ (HA.out.tx.below B1.out) (HB.out.tx.below B1.out)).mono ?_); rintro e w2 ⟨rfl, n2, hw2⟩
       have B2 := Aside0.mk (below_eq (below_drewN B1.out n2) hw2.symm)
       clear hw2))
  go_ret
  exact ⟨rfl, B2.out⟩

/-- A list of actions, read. -/
structure RdAs (w : World) (v : Value) (l : List AcV) : Prop where
  ex : ∃ A c, v = .slice A l.length c ∧ l.length ≤ c ∧ Rd w A (l.flatMap acCells)
  el : ∀ x ∈ l, RdA w x.a x.vp x.vt
theorem RdAs.below {w w' : World} {v : Value} {l : List AcV} (h : RdAs w v l) (hb : Below w.heap.size w w') : RdAs w' v l :=
  ⟨by obtain ⟨A, c, e, hc, hr⟩ := h.ex; exact ⟨A, c, e, hc, hr.below hb⟩, fun x hx => (h.el x hx).below hb⟩
theorem acRows_rd {base : Nat} {w : World} {R : List Atm} : ∀ {l : List AcV}, Own base w (l.flatMap acRows ++ R) → ∀ x ∈ l, RdA w x.a x.vp x.vt
  | [], _, x, hx => by cases hx
  | a :: l, h, x, hx => by
    have h' : Own base w (rowI a.vp a.a.ps :: rowI a.vt a.a.tx :: (l.flatMap acRows ++ R)) := by simpa [acRows] using h
    rcases List.mem_cons.1 hx with rfl | hx
    · exact ⟨h'.sl (nums_one _), h'.tail.sl (nums_one _)⟩
    · exact acRows_rd h'.tail.tail x hx
theorem SL.Own.rdAs {base : Nat} {w : World} {v : Value} {l : List AcV} {R : List Atm} (h : Own base w (acsAt v l ++ R)) : RdAs w v l :=
  ⟨by obtain ⟨A, c, e, hc, hr⟩ := Own.rd (show Own base w (row _ _ _ _ _ :: (l.flatMap acRows ++ R)) from h); exact ⟨A, c, e, hc, hr⟩, acRows_rd (show Own base w (l.flatMap acRows ++ R) from Own.tail h)⟩
theorem acCells_get (l : List AcV) (k j : Nat) (hk : k < l.length) (hj : j < 5) : (l.flatMap acCells)[k * 5 + j]? = (acCells l[k])[j]? := by
  induction l generalizing k with
  | nil => simp at hk
  | cons a l ih =>
    have ha : (acCells a).length = 5 := rfl
    cases k with
    | zero => simp only [List.flatMap_cons, List.getElem_cons_zero, Nat.zero_mul, Nat.zero_add]; rw [List.getElem?_append_left (by omega)]
    | succ k =>
      have := ih k (by simpa using hk)
      simp only [List.flatMap_cons, List.getElem_cons_succ]
      rw [List.getElem?_append_right (by omega), ha, show (k + 1) * 5 + j - 5 = k * 5 + j by omega]
      exact this
theorem RdAs.get {w : World} {v : Value} {l : List AcV} (h : RdAs w v l) {k : Nat} (hk : k < l.length) : ∃ ad c, v = .slice (some ad) l.length c ∧ ∀ j, j < 5 → w.cell? (ad.add (k * 5 + j)) = (acCells l[k])[j]? := by
  obtain ⟨A, c, rfl, hc, hr⟩ := h.ex
  have h0 : (l.flatMap acCells)[k * 5 + 0]? = some (i64 l[k].a.kind) := acCells_get l k 0 hk (by omega)
  obtain ⟨ad, rfl, -⟩ := hr.at_ h0
  refine ⟨ad, c, rfl, fun j hj => ?_⟩
  have hj2 : j < (acCells l[k]).length := hj
  have h1 := acCells_get l k j hk hj
  rw [List.getElem?_eq_getElem hj2] at h1 ⊢
  obtain ⟨ad', e, h2⟩ := hr.at_ h1
  cases e
  exact h2

end Go.Proofs.Ytecjokjmmejinaa
