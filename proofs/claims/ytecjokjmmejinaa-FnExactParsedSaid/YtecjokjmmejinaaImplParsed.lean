/- impl's copied, parsed, Step, Parsed. -/
import Derived.Test.YtecjokjmmejinaaImplOk
import Derived.Deep.RegionWith
namespace Go.Proofs.Ytecjokjmmejinaa
open Go.RowKit SL

/-- A parser by value, its two slices read. -/
structure RdP (w : World) (p : Pars) (vp vt : Value) : Prop where
  ps : Sl w 1 vp p.ps.length (nums p.ps)
  tx : Sl w 1 vt p.tx.length (nums p.tx)
theorem RdP.below {w w' : World} {p : Pars} {vp vt : Value} (h : RdP w p vp vt) (hb : Below w.heap.size w w') : RdP w' p vp vt := ⟨h.ps.below hb, h.tx.below hb⟩
def parsV (p : Pars) (vp vt : Value) : Value := .agg #[i64 p.st, vp, i64 p.mr, vt]

set_option maxRecDepth 100000 in
set_option maxHeartbeats 1000000 in
theorem parsCopied_calls (p : Pars) (vp vt : Value) (w : World) (hr : RdP w p vp vt) (hl1 : p.ps.length ≤ 10000000) (hl2 : p.tx.length ≤ 10000000) :
    Calls Try.prog 57 #[parsV p vp vt] w fun e w' => ∃ vp' vt', e = .returned (parsV p vp' vt') ∧ Own w.heap.size w' [rowI vp' p.ps, rowI vt' p.tx] ∧ Below w.heap.size w w' := by
  have HP := Aside0.mk hr.ps
  have HT := Aside0.mk hr.tx
  obtain ⟨Ap, cp, rfl, -⟩ := hr.ps.ex
  obtain ⟨At, ct, rfl, -⟩ := hr.tx.ex
  clear hr
  have hu := Try.underlying26
  have sP := szP
  have zP := zvP
  unfold parsV
  have H0 : Hid (Own w.heap.size ((w.alloc (.cells #[i64 p.st, .slice Ap p.ps.length cp, i64 p.mr, .slice At p.tx.length ct] 26)).alloc (.cells #[i64 0, nilS, i64 0, nilS] 26)).drew [cellsAt (w.heap.size + 1) 26 [i64 0, nilS, i64 0, nilS], cellsAt w.heap.size 26 (parsCells p (.slice Ap p.ps.length cp) (.slice At p.tx.length ct))]) :=
    ((((Own.nil w.heap.size w).alloc (Nat.le_refl _) (parsCells p (.slice Ap p.ps.length cp) (.slice At p.tx.length ct)) 26 rfl).alloc (by simp) [i64 0, nilS, i64 0, nilS] 26 (by simp)).drew)
  have B0 : Hid (∀ o o', Below w.heap.size w ((w.alloc o).alloc o').drew) := fun o o' => (((Below.refl _ _).alloc (Nat.le_refl _) o).alloc (by simp) o').drew
  go_enter Try.func57, Try.ntmps57
  go_wp2_with fail
  go_region_with (first
    | (go_at_call 68; (with_reducible refine (cloneI_calls (.slice Ap p.ps.length cp) p.ps _ (HP.out.below (B0.out _ _)) (by omega)).mono ?_); rintro e w1 ⟨vp', rfl, HS1, HB1⟩; obtain ⟨A1, c1, rfl, -, -⟩ := HS1.rd
       have HT1 := H0.out.join HB1 (by simp <;> omega) HS1
       have q3 : w1.cell? ⟨w.heap.size, 3, none⟩ = some (.slice At p.tx.length ct) := HT1.pull2.cell 3)
    | (go_at_call 68; (with_reducible refine (cloneI_calls (.slice At p.tx.length ct) p.tx _ ((HT.out.below (B0.out _ _)).below HB1) (by omega)).mono ?_); rintro e w2 ⟨vt', rfl, HS2, HB2⟩; obtain ⟨A2, c2, rfl, -, -⟩ := HS2.rd
       have HT2 := HT1.join HB2 (by have := HB1.size; simp at this; omega) HS2
       have r0 : w2.cell? ⟨w.heap.size, 0, none⟩ = some (i64 p.st) := HT2.pull3.cell 0
       have r1 : w2.cell? ⟨w.heap.size, 1, none⟩ = some (.slice Ap p.ps.length cp) := HT2.pull3.cell 1
       have r2 : w2.cell? ⟨w.heap.size, 2, none⟩ = some (i64 p.mr) := HT2.pull3.cell 2
       have r3 : w2.cell? ⟨w.heap.size, 3, none⟩ = some (.slice At p.tx.length ct) := HT2.pull3.cell 3
       have g1 : w2.frozen? ⟨w.heap.size, 1, none⟩ = false := HT2.pull3.free 1
       have g3 : w2.frozen? ⟨w.heap.size, 3, none⟩ = false := HT2.pull3.free 3
       have s0 : w2.cell? ⟨w.heap.size + 1, 0, none⟩ = some (i64 0) := HT2.pull2.cell 0
       have s1 : w2.cell? ⟨w.heap.size + 1, 1, none⟩ = some nilS := HT2.pull2.cell 1
       have s2 : w2.cell? ⟨w.heap.size + 1, 2, none⟩ = some (i64 0) := HT2.pull2.cell 2
       have s3 : w2.cell? ⟨w.heap.size + 1, 3, none⟩ = some nilS := HT2.pull2.cell 3
       have t0 : w2.frozen? ⟨w.heap.size + 1, 0, none⟩ = false := HT2.pull2.free 0
       have t1 : w2.frozen? ⟨w.heap.size + 1, 1, none⟩ = false := HT2.pull2.free 1
       have t2 : w2.frozen? ⟨w.heap.size + 1, 2, none⟩ = false := HT2.pull2.free 2
       have t3 : w2.frozen? ⟨w.heap.size + 1, 3, none⟩ = false := HT2.pull2.free 3))
  all_goals
    go_wp2
    have HE := (((((HT2.pull3.setCell 1 (.slice A1 p.ps.length c1)).setCell 3 (.slice A2 p.tx.length c2)).pull3.setCell 0 (i64 p.st)).setCell 1 (.slice A1 p.ps.length c1)).setCell 2 (i64 p.mr)).setCell 3 (.slice A2 p.tx.length c2)
    refine bodyPost_ret (v := parsV p (.slice A1 p.ps.length c1) (.slice A2 p.tx.length c2)) (HE.res1 rfl rfl rfl hu (by kernel_rfl)) rfl ?_
    refine ⟨_, _, rfl, HE.tail.tail.pull1, ?_⟩
    have hz := HB1.size
    simp at hz
    exact ((((((((B0.out _ _).trans (HB1.mono (by simp <;> omega))).trans (HB2.mono (by omega))).setCell (by simp) _).setCell (by simp) _).setCell (by simp) _).setCell (by simp) _).setCell (by simp) _).setCell (by simp) _

def pars0 : Pars := ⟨0, [], 0, []⟩
def parsedF (p : Pars) (list : List Int) : Pars × List Acn := if parsB p = true ∧ list.any (fun r => !runeB r) = false then stepsF p list else (pars0, [])

/-- A parser and actions, all in memory made since w. -/
def MadeP (F : Pars × List Acn) (e : Ending) (w' w : World) : Prop :=
  ∃ vp vt va l, e = .returned (.tuple #[parsV F.1 vp vt, va]) ∧ l.map AcV.a = F.2 ∧ Own w.heap.size w' (rowI vp F.1.ps :: rowI vt F.1.tx :: acsAt va l) ∧ Below w.heap.size w w'

theorem parsed1 : Answers 55 (fun n => !runeB n) := by
  intro x w
  go_enter Try.func55, Try.ntmps55
  go_wp2_with (go_at_call 56; go_must (refine (impl_RuneOk _ _).mono ?_); rintro e w' ⟨rfl, rfl⟩)
  go_ret
  exact ⟨rfl, rfl⟩

theorem parsB_fit {p : Pars} (h : parsB p = true) : p.Fit := by
  simp only [parsB, paramsB, titleB, Bool.and_eq_true, Bool.or_eq_false_iff, decide_eq_true_eq, Bool.not_eq_eq_eq_not, Bool.not_true, Bool.not_false] at h
  obtain ⟨⟨⟨⟨_, h1, h2⟩, _⟩, h3, _⟩, _⟩ := h
  refine ⟨h1, h3, fun x hx => ?_⟩
  have := List.any_eq_false.1 h2 x hx
  simp at this
  exact inB_iff.1 this

/-- What the round's append leaves, laid anew. -/
theorem own_round {base : Nat} {w : World} {a1 a2 : Atm} {P R1 R2 R : List Atm} (h : Own base w (a1 :: ((P ++ (a2 :: R2)) ++ (R1 ++ R)))) : Own base w (P ++ ((a1 :: (R1 ++ R2)) ++ R)) := by
  have h1 : Own base w ((a1 :: P) ++ a2 :: (R2 ++ (R1 ++ R))) := by simpa [List.append_assoc] using h
  have h2 : Own base w (a1 :: (P ++ (R2 ++ (R1 ++ R)))) := by simpa using h1.pull.tail
  have h3 : Own base w (P ++ a1 :: (R2 ++ (R1 ++ R))) := h2.push
  have p1 : (R2 ++ (R1 ++ R)).Perm ((R1 ++ R2) ++ R) := by
    rw [← List.append_assoc]
    exact List.perm_append_comm.append_right R
  exact h3.perm ((List.Perm.refl P).append (p1.cons a1))

set_option maxRecDepth 100000 in
set_option maxHeartbeats 1000000 in
theorem parsed_bad (p : Pars) (list : List Int) (vp vt vl : Value) (w : World) (hr : RdP w p vp vt) (hl : Sl w 1 vl list.length (nums list)) (hbad : ¬ (parsB p = true ∧ list.any (fun r => !runeB r) = false)) :
    Calls Try.prog 33 #[parsV p vp vt, vl] w fun e w' => MadeP (parsedF p list) e w' w := by
  have hm1 := hr.ps.max
  have HR := Aside0.mk hr
  have HL := Aside0.mk hl
  obtain ⟨Ap, cp, rfl, -⟩ := hr.ps.ex
  obtain ⟨At, ct, rfl, -⟩ := hr.tx.ex
  obtain ⟨Al, cl, rfl, -⟩ := hl.ex
  clear hr hl
  have hf : Hid (parsedF p list = (pars0, [])) := by simp only [Hid, parsedF]; rw [if_neg hbad]
  have hu := Try.underlying26
  have sP := szP
  have zP := zvP
  unfold parsV
  have H0 : Hid (Own w.heap.size ((w.alloc (.cells #[i64 p.st, .slice Ap p.ps.length cp, i64 p.mr, .slice At p.tx.length ct] 26)).alloc (.cells #[i64 0, nilS, i64 0, nilS] 26)) [cellsAt (w.heap.size + 1) 26 [i64 0, nilS, i64 0, nilS], cellsAt w.heap.size 26 (parsCells p (.slice Ap p.ps.length cp) (.slice At p.tx.length ct))]) :=
    (((Own.nil w.heap.size w).alloc (Nat.le_refl _) (parsCells p (.slice Ap p.ps.length cp) (.slice At p.tx.length ct)) 26 rfl).alloc (by simp) [i64 0, nilS, i64 0, nilS] 26 (by simp))
  have B0 : Hid (∀ o o', Below w.heap.size w ((w.alloc o).alloc o')) := fun o o' => ((Below.refl _ _).alloc (Nat.le_refl _) o).alloc (by simp) o'
  have Fin : Hid (∀ w1 : World, Own w.heap.size w1 [cellsAt (w.heap.size + 1) 26 [i64 0, nilS, i64 0, nilS], cellsAt w.heap.size 26 (parsCells p (.slice Ap p.ps.length cp) (.slice At p.tx.length ct))] → Below w.heap.size w w1 →
      MadeP (parsedF p list) (.returned (.tuple #[parsV pars0 nilS nilS, nilS])) ((((w1.setCell ⟨w.heap.size + 1, 0, none⟩ (i64 0)).setCell ⟨w.heap.size + 1, 1, none⟩ nilS).setCell ⟨w.heap.size + 1, 2, none⟩ (i64 0)).setCell ⟨w.heap.size + 1, 3, none⟩ nilS) w) := by
    intro w1 h1 b1
    rw [show parsedF p list = (pars0, []) from hf]
    have h2 := (((h1.setCell 0 (i64 0)).setCell 1 nilS).setCell 2 (i64 0)).setCell 3 nilS
    exact ⟨nilS, nilS, nilS, [], rfl, rfl, addNil (addNil (addNil h2.tail.tail _ _) _ _) _ _, (((b1.setCell (by simp) _).setCell (by simp) _).setCell (by simp) _).setCell (by simp) _⟩
  by_cases hok : parsB p = true
  · have hany : list.any (fun r => !runeB r) = true := by
      cases h : list.any (fun r => !runeB r) with
      | true => rfl
      | false => exact absurd ⟨hok, h⟩ hbad
    clear hbad
    go_enter Try.func33, Try.ntmps33
    go_wp2_with (first
      | (go_at_call 26; go_must (refine (parserOk_calls p _ _ _ (HR.out.ps.below (B0.out _ _)) (HR.out.tx.below (B0.out _ _))).mono ?_); rintro e w1 ⟨rfl, HB1⟩
         have H1 := H0.out.below HB1
         have BB : Hid (Below w.heap.size w w1) := (B0.out _ _).trans (HB1.mono (by simp <;> omega))
         have s0 : w1.cell? ⟨w.heap.size + 1, 0, none⟩ = some (i64 0) := H1.cell 0
         have s1 : w1.cell? ⟨w.heap.size + 1, 1, none⟩ = some nilS := H1.cell 1
         have s2 : w1.cell? ⟨w.heap.size + 1, 2, none⟩ = some (i64 0) := H1.cell 2
         have s3 : w1.cell? ⟨w.heap.size + 1, 3, none⟩ = some nilS := H1.cell 3
         have t0 : w1.frozen? ⟨w.heap.size + 1, 0, none⟩ = false := H1.free 0
         have t1 : w1.frozen? ⟨w.heap.size + 1, 1, none⟩ = false := H1.free 1
         have t2 : w1.frozen? ⟨w.heap.size + 1, 2, none⟩ = false := H1.free 2
         have t3 : w1.frozen? ⟨w.heap.size + 1, 3, none⟩ = false := H1.free 3)
      | (go_at_call 54; go_must (refine (containsFunc_calls _ _ parsed1 (fun _ _ => by rfl) _ list _ (HL.out.below BB.out)).mono ?_); rintro e w' ⟨rfl, rfl⟩))
    refine bodyPost_ret (v := .tuple #[parsV pars0 nilS nilS, nilS]) (((((H1.setCell 0 (i64 0)).setCell 1 nilS).setCell 2 (i64 0)).setCell 3 nilS).res2 (fn := Try.f33) (t := 4) (u := 5) rfl rfl rfl hu (by kernel_rfl)) rfl ?_
    exact Fin.out w1 H1 BB.out
  · have hokf : parsB p = false := by simpa using hok
    clear hbad
    go_enter Try.func33, Try.ntmps33
    go_wp2_with (first
      | (go_at_call 26; go_must (refine (parserOk_calls p _ _ _ (HR.out.ps.below (B0.out _ _)) (HR.out.tx.below (B0.out _ _))).mono ?_); rintro e w1 ⟨rfl, HB1⟩
         have H1 := H0.out.below HB1
         have BB : Hid (Below w.heap.size w w1) := (B0.out _ _).trans (HB1.mono (by simp <;> omega))
         have s0 : w1.cell? ⟨w.heap.size + 1, 0, none⟩ = some (i64 0) := H1.cell 0
         have s1 : w1.cell? ⟨w.heap.size + 1, 1, none⟩ = some nilS := H1.cell 1
         have s2 : w1.cell? ⟨w.heap.size + 1, 2, none⟩ = some (i64 0) := H1.cell 2
         have s3 : w1.cell? ⟨w.heap.size + 1, 3, none⟩ = some nilS := H1.cell 3
         have t0 : w1.frozen? ⟨w.heap.size + 1, 0, none⟩ = false := H1.free 0
         have t1 : w1.frozen? ⟨w.heap.size + 1, 1, none⟩ = false := H1.free 1
         have t2 : w1.frozen? ⟨w.heap.size + 1, 2, none⟩ = false := H1.free 2
         have t3 : w1.frozen? ⟨w.heap.size + 1, 3, none⟩ = false := H1.free 3))
    refine bodyPost_ret (v := .tuple #[parsV pars0 nilS nilS, nilS]) (((((H1.setCell 0 (i64 0)).setCell 1 nilS).setCell 2 (i64 0)).setCell 3 nilS).res2 (fn := Try.f33) (t := 4) (u := 5) rfl rfl rfl hu (by kernel_rfl)) rfl ?_
    exact Fin.out w1 H1 BB.out
end Go.Proofs.Ytecjokjmmejinaa
