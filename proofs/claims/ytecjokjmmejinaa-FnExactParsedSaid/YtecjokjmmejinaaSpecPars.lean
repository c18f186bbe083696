/- spec's l6State, l1Min, l6Escape, l6List. -/
import Derived.Test.YtecjokjmmejinaaImplTop
import Derived.Deep.RegionWith
namespace Go.Proofs.Ytecjokjmmejinaa
open Go.RowKit SL

/-- The four cells of a block. -/
theorem SL.Own.c4 {base b : Nat} {w : World} {T : TypeId} {a0 a1 a2 a3 : Value} {L : List Atm} (h : Own base w (cellsAt b T [a0, a1, a2, a3] :: L)) :
    (w.cell? ⟨b, 0, none⟩ = some a0 ∧ w.cell? ⟨b, 1, none⟩ = some a1 ∧ w.cell? ⟨b, 2, none⟩ = some a2 ∧ w.cell? ⟨b, 3, none⟩ = some a3) ∧
    w.frozen? ⟨b, 0, none⟩ = false ∧ w.frozen? ⟨b, 1, none⟩ = false ∧ w.frozen? ⟨b, 2, none⟩ = false ∧ w.frozen? ⟨b, 3, none⟩ = false :=
  ⟨⟨h.cell 0, h.cell 1, h.cell 2, h.cell 3⟩, h.free 0, h.free 1, h.free 2, h.free 3⟩
theorem SL.Own.set4 {base b : Nat} {w : World} {T : TypeId} {a0 a1 a2 a3 : Value} {L : List Atm} (h : Own base w (cellsAt b T [a0, a1, a2, a3] :: L)) (b0 b1 b2 b3 : Value) :
    Own base ((((w.setCell ⟨b, 0, none⟩ b0).setCell ⟨b, 1, none⟩ b1).setCell ⟨b, 2, none⟩ b2).setCell ⟨b, 3, none⟩ b3) (cellsAt b T [b0, b1, b2, b3] :: L) := (((h.setCell 0 b0).setCell 1 b1).setCell 2 b2).setCell 3 b3
theorem below_set4 {base b : Nat} {a w : World} (h : Below base a w) (hb : base ≤ b) (b0 b1 b2 b3 : Value) : Below base a ((((w.setCell ⟨b, 0, none⟩ b0).setCell ⟨b, 1, none⟩ b1).setCell ⟨b, 2, none⟩ b2).setCell ⟨b, 3, none⟩ b3) :=
  (((h.setCell hb _).setCell hb _).setCell hb _).setCell hb _

/-- What a function of spec's parser comes to: a parser by value and actions. -/
def SpecPost (base : Nat) (F : Pars × List Acn) (L : List Atm) (e : Ending) (w' w : World) : Prop :=
  ∃ vp vt va l, e = .returned (.tuple #[.agg #[i64 F.1.st, vp, i64 F.1.mr, vt], va]) ∧ l.map AcV.a = F.2 ∧ Own base w' (rowI vp F.1.ps :: rowI vt F.1.tx :: (acsAt va l ++ L)) ∧ Below base w w'

set_option maxRecDepth 100000 in
set_option maxHeartbeats 400000 in
theorem l6State_calls (s : Int) (w : World) : Calls Try.prog 50 #[i64 s] w fun e w' => e = .returned (.agg #[i64 s, nilS, i64 0, nilS]) ∧ Below w.heap.size w w' := by
  have hu := Try.underlying26
  have sP := szP
  have zP := zvP
  have H0 := (Own.nil w.heap.size w).alloc (Nat.le_refl _) [i64 s, nilS, i64 0, nilS] 26 rfl
  go_enter Try.func50, Try.ntmps50
  go_wp2
  refine bodyPost_ret (v := .agg #[i64 s, nilS, i64 0, nilS]) (H0.res1 rfl rfl rfl hu (by kernel_rfl)) rfl ?_
  exact ⟨rfl, (Below.refl _ _).alloc (Nat.le_refl _) _⟩

set_option maxHeartbeats 400000 in
theorem l1Min_calls (a b : Int) (w : World) : Calls Try.prog 66 #[i64 a, i64 b] w fun e w' => e = .returned (i64 (min a b)) ∧ w = w' := by
  by_cases h : a < b
  · have hf : Hid (min a b = a) := by simp only [Hid]; omega
    go_enter Try.func66, Try.ntmps66
    go_wp2
    go_ret
    rw [show min a b = a from hf]; exact ⟨rfl, rfl⟩
  · have hf : Hid (min a b = b) := by simp only [Hid]; omega
    go_enter Try.func66, Try.ntmps66
    go_wp2
    go_ret
    rw [show min a b = b from hf]; exact ⟨rfl, rfl⟩

/-- The result box and the empty list that most of these functions make first. -/
theorem two0 {base : Nat} {L : List Atm} {w : World} (hbase : base ≤ w.heap.size) (H : Own base w L) :
    Own base ((w.alloc (.cells #[i64 0, nilS, i64 0, nilS] 26)).alloc (.cells #[] 53))
      (cellsAt w.heap.size 26 [i64 0, nilS, i64 0, nilS] :: row 53 5 (.slice (some ⟨w.heap.size + 1, 0, none⟩) 0 0) 0 [] :: L) := by
  have h1 := H.alloc hbase [i64 0, nilS, i64 0, nilS] 26 rfl
  have h2 := h1.addRow ((Below.refl _ _).alloc (Nat.le_refl _) (.cells #[] 53)) (by simp; omega) (World.ownsRow_made _ #[] 0 (Nat.le_refl _) (Nat.zero_le _) (by simp) (e := 53) (size := 5))
  simpa using h2.pull1

theorem two0_below {base : Nat} {a w : World} (hb : Below base a w) (hbase : base ≤ w.heap.size) (o o' : Obj) : Below base a ((w.alloc o).alloc o') := (hb.alloc hbase _).alloc (by simp; omega) _

set_option maxRecDepth 100000 in
set_option maxHeartbeats 1000000 in
theorem l6Escape_calls (base : Nat) (r : Int) (L : List Atm) (w : World) (hbase : base ≤ w.heap.size) (H : Own base w L) :
    Calls Try.prog 51 #[i64 r] w fun e w' => SpecPost base (escapedF r) L e w' w := by
  have hu := Try.underlying26
  have hua := Try.underlying53
  have sP := szP
  have zP := zvP
  have sA := szA
  have zA := zvA
  have H0 := Aside0.mk (two0 hbase H)
  have B0 := Aside0.mk (two0_below (Below.refl base w) hbase)
  clear H
  -- the end of the arms that answer nothing
  have Fin : Hid (∀ (s : Int) (w1 : World), escapedF r = (stateP s, []) → Own base w1 (cellsAt w.heap.size 26 [i64 0, nilS, i64 0, nilS] :: row 53 5 (.slice (some ⟨w.heap.size + 1, 0, none⟩) 0 0) 0 [] :: L) → Below base w w1 →
      SpecPost base (escapedF r) L (.returned (.tuple #[.agg #[i64 s, nilS, i64 0, nilS], .slice (some ⟨w.heap.size + 1, 0, none⟩) 0 0])) ((((w1.setCell ⟨w.heap.size, 0, none⟩ (i64 s)).setCell ⟨w.heap.size, 1, none⟩ nilS).setCell ⟨w.heap.size, 2, none⟩ (i64 0)).setCell ⟨w.heap.size, 3, none⟩ nilS) w) := by
    intro s w1 hf h1 b1
    rw [hf]
    exact ⟨nilS, nilS, _, [], rfl, rfl, addNil (addNil (h1.set4 _ _ _ _).tail _ _) _ _, below_set4 b1 hbase _ _ _ _⟩
  by_cases h91 : r = 91
  · subst h91
    go_enter Try.func51, Try.ntmps51
    go_wp2_with (first
      | (go_at_call 50; go_must (refine (l6State_calls 3 _).mono ?_); rintro e w1 ⟨rfl, HB⟩
         have H1 := H0.out.below HB
         have B1 := Aside0.mk ((B0.out _ _).trans (HB.mono (by simp; omega)))
         obtain ⟨⟨s0, s1, s2, s3⟩, t0, t1, t2, t3⟩ := H1.c4))
    refine bodyPost_ret (v := .tuple #[.agg #[i64 3, nilS, i64 0, nilS], _]) ((H1.set4 (i64 3) nilS (i64 0) nilS).res2 (fn := Try.f51) (t := 2) (u := 3) rfl rfl rfl hu (by kernel_rfl)) rfl ?_
    exact Fin.out 3 w1 rfl H1 B1.out
  by_cases h93 : r = 93
  · subst h93
    go_enter Try.func51, Try.ntmps51
    go_wp2_with (first
      | (go_at_call 50; go_must (refine (l6State_calls 4 _).mono ?_); rintro e w1 ⟨rfl, HB⟩
         have H1 := H0.out.below HB
         have B1 := Aside0.mk ((B0.out _ _).trans (HB.mono (by simp; omega)))
         obtain ⟨⟨s0, s1, s2, s3⟩, t0, t1, t2, t3⟩ := H1.c4))
    refine bodyPost_ret (v := .tuple #[.agg #[i64 4, nilS, i64 0, nilS], _]) ((H1.set4 (i64 4) nilS (i64 0) nilS).res2 (fn := Try.f51) (t := 2) (u := 3) rfl rfl rfl hu (by kernel_rfl)) rfl ?_
    exact Fin.out 4 w1 (by simp [escapedF]) H1 B1.out
  have q91 : (r == 91) = false := beq_eq_false_iff_ne.2 h91
  have q93 : (r == 93) = false := beq_eq_false_iff_ne.2 h93
  by_cases hin : inB r 48 126 = true
  · have hf : Hid (escapedF r = (stateP 1, [⟨3, r, [], 0, []⟩])) := by simp [escapedF, h91, h93, hin, Hid]
    clear h91 h93
    go_enter Try.func51, Try.ntmps51
    go_wp2_with (first
      | (go_at_call 49; go_must (refine (spec_l1In _ _ _ _).mono ?_); rintro e w' ⟨rfl, rfl⟩)
      | (go_at_call 50; go_must (refine (l6State_calls 1 _).mono ?_); rintro e w1 ⟨rfl, HB⟩
         have H1 := H0.out.below HB
         have hlt : w.heap.size < w1.heap.size := H1.block_lt
         have B1 := Aside0.mk ((B0.out _ _).trans (HB.mono (by simp; omega)))
         have H2 := (H1.set4 (i64 1) nilS (i64 0) nilS).lit (by simp; omega) 53 5 1 (acCells ⟨⟨3, r, [], 0, []⟩, nilS, nilS⟩) rfl (by omega) (b := w1.heap.size) (by simp)
         have H3 := H2.pull1
         obtain ⟨⟨s0, s1, s2, s3⟩, t0, t1, t2, t3⟩ := H1.c4))
    refine bodyPost_ret (v := .tuple #[.agg #[i64 1, nilS, i64 0, nilS], .slice (some ⟨w1.heap.size, 0, none⟩) 1 1]) (H3.res2 (fn := Try.f51) (t := 2) (u := 3) rfl rfl rfl hu (by kernel_rfl)) rfl ?_
    rw [show escapedF r = (stateP 1, [⟨3, r, [], 0, []⟩]) from hf]
    refine ⟨nilS, nilS, _, [⟨⟨3, r, [], 0, []⟩, nilS, nilS⟩], rfl, rfl, ?_, (below_set4 B1.out hbase _ _ _ _).alloc (by simp; omega) _⟩
    exact (addNil (addNil (addNil (addNil H3.tail.drop1 _ _).push1 _ _).push2 _ _) _ _)
  · have hf : Hid (escapedF r = (stateP 1, [])) := by simp [escapedF, h91, h93, hin, Hid]
    have hin' : inB r 48 126 = false := by simpa using hin
    clear h91 h93 hin
    go_enter Try.func51, Try.ntmps51
    go_wp2_with (first
      | (go_at_call 49; go_must (refine (spec_l1In _ _ _ _).mono ?_); rintro e w' ⟨rfl, rfl⟩)
      | (go_at_call 50; go_must (refine (l6State_calls 1 _).mono ?_); rintro e w1 ⟨rfl, HB⟩
         have H1 := H0.out.below HB
         have B1 := Aside0.mk ((B0.out _ _).trans (HB.mono (by simp; omega)))
         obtain ⟨⟨s0, s1, s2, s3⟩, t0, t1, t2, t3⟩ := H1.c4))
    refine bodyPost_ret (v := .tuple #[.agg #[i64 1, nilS, i64 0, nilS], _]) ((H1.set4 (i64 1) nilS (i64 0) nilS).res2 (fn := Try.f51) (t := 2) (u := 3) rfl rfl rfl hu (by kernel_rfl)) rfl ?_
    exact Fin.out 1 w1 hf H1 B1.out
end Go.Proofs.Ytecjokjmmejinaa
