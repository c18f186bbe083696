/- impl's Step, Parsed. -/
import Derived.Test.YtecjokjmmejinaaImplParsed2
namespace Go.Proofs.Ytecjokjmmejinaa
open Go.RowKit SL

theorem parsed_calls (p : Pars) (list : List Int) (vp vt vl : Value) (w : World) (hr : RdP w p vp vt) (hl : Sl w 1 vl list.length (nums list)) (h2000 : list.length ≤ 1000000) :
    Calls Try.prog 33 #[parsV p vp vt, vl] w fun e w' => MadeP (parsedF p list) e w' w := by
  by_cases hg : parsB p = true ∧ list.any (fun r => !runeB r) = false
  · rw [parsedF_good hg]; exact parsed_good p list vp vt vl w hr hl hg h2000
  · exact parsed_bad p list vp vt vl w hr hl hg

theorem own_res {base : Nat} {w : World} {r1 r2 x : Atm} {M R : List Atm} (h : Own base w ((r1 :: r2 :: M) ++ x :: R)) : Own base w (x :: ((r1 :: r2 :: M) ++ R)) := Own.pull h

set_option maxRecDepth 100000 in
set_option maxHeartbeats 1000000 in
theorem implStep_calls (p : Pars) (r : Int) (vp vt : Value) (w : World) (hr : RdP w p vp vt) :
    Calls Try.prog 9 #[parsV p vp vt, i64 r] w fun e w' => MadeP (parsedF p [r]) e w' w := by
  have HR := Aside0.mk hr
  obtain ⟨Ap, cp, rfl, -⟩ := hr.ps.ex
  obtain ⟨At, ct, rfl, -⟩ := hr.tx.ex
  clear hr
  have hu := Try.underlying26
  have sP := szP
  have zP := zvP
  unfold parsV
  have H0 : Hid (Own w.heap.size (((w.alloc (.cells #[i64 p.st, .slice Ap p.ps.length cp, i64 p.mr, .slice At p.tx.length ct] 26)).alloc (.cells #[i64 0, nilS, i64 0, nilS] 26)).alloc (.cells #[i64 r] 2)) [cellsAt (w.heap.size + 1) 26 [i64 0, nilS, i64 0, nilS]]) :=
    ((((Own.nil w.heap.size w).alloc (Nat.le_refl _) (parsCells p (.slice Ap p.ps.length cp) (.slice At p.tx.length ct)) 26 rfl).alloc (by simp) [i64 0, nilS, i64 0, nilS] 26 (by simp)).alloc (by simp; omega) [i64 r] 2 rfl).tail.drop1
  have B0 : Hid (∀ o o' o'', Below w.heap.size w (((w.alloc o).alloc o').alloc o'')) := fun o o' o'' => (((Below.refl _ _).alloc (Nat.le_refl _) o).alloc (by simp) o').alloc (by simp; omega) o''
  have SL0 : Hid (Sl (((w.alloc (.cells #[i64 p.st, .slice Ap p.ps.length cp, i64 p.mr, .slice At p.tx.length ct] 26)).alloc (.cells #[i64 0, nilS, i64 0, nilS] 26)).alloc (.cells #[i64 r] 2)) 1 (.slice (some ⟨w.heap.size + 2, 0, none⟩) 1 1) [r].length (nums [r])) :=
    (((Own.nil w.heap.size _).lit (e := 2) (sz := 1) (n := 1) (w := (w.alloc (.cells #[i64 p.st, .slice Ap p.ps.length cp, i64 p.mr, .slice At p.tx.length ct] 26)).alloc (.cells #[i64 0, nilS, i64 0, nilS] 26)) (b := w.heap.size + 2) (by simp; omega) (cs := [i64 r]) rfl (by omega) (by simp)).sl (nums_one [r]))
  go_enter Try.func9, Try.ntmps9
  go_wp2_with (first
    | (go_at_call 33; go_must (refine (parsed_calls p [r] _ _ _ _ (HR.out.below (B0.out _ _ _)) SL0.out (by simp)).mono ?_); rintro e w1 ⟨vp', vt', va, l, rfl, hl, HS, HB⟩
       obtain ⟨A1, c1, rfl, -, -⟩ := HS.rd
       obtain ⟨A2, c2, rfl, -, -⟩ := HS.pull1.rd
       have HX := own_res (H0.out.join HB (by simp; omega) HS)
       have s0 : w1.cell? ⟨w.heap.size + 1, 0, none⟩ = some (i64 0) := HX.cell 0
       have s1 : w1.cell? ⟨w.heap.size + 1, 1, none⟩ = some nilS := HX.cell 1
       have s2 : w1.cell? ⟨w.heap.size + 1, 2, none⟩ = some (i64 0) := HX.cell 2
       have s3 : w1.cell? ⟨w.heap.size + 1, 3, none⟩ = some nilS := HX.cell 3
       have t0 : w1.frozen? ⟨w.heap.size + 1, 0, none⟩ = false := HX.free 0
       have t1 : w1.frozen? ⟨w.heap.size + 1, 1, none⟩ = false := HX.free 1
       have t2 : w1.frozen? ⟨w.heap.size + 1, 2, none⟩ = false := HX.free 2
       have t3 : w1.frozen? ⟨w.heap.size + 1, 3, none⟩ = false := HX.free 3
       unfold parsV))
  generalize parsedF p [r] = F at *
  have HY := (((HX.setCell 0 (i64 F.1.st)).setCell 1 (.slice A1 F.1.ps.length c1)).setCell 2 (i64 F.1.mr)).setCell 3 (.slice A2 F.1.tx.length c2)
  refine bodyPost_ret (v := .tuple #[parsV F.1 (.slice A1 F.1.ps.length c1) (.slice A2 F.1.tx.length c2), va]) (HY.res2 (fn := Try.f9) (t := 4) (u := 5) rfl rfl rfl hu (by kernel_rfl)) rfl ?_
  exact ⟨_, _, va, l, rfl, hl, by simpa using HY.tail, (((((B0.out _ _ _).trans (HB.mono (by simp; omega))).setCell (by simp) _).setCell (by simp) _).setCell (by simp) _).setCell (by simp) _⟩

def ParsedF (p : Pars) (list : List Int) : Pars × List Acn := if list.length ≤ 2000 then parsedF p list else (pars0, [])

set_option maxRecDepth 100000 in
set_option maxHeartbeats 1000000 in
theorem implParsed_calls (p : Pars) (list : List Int) (vp vt vl : Value) (w : World) (hr : RdP w p vp vt) (hl : Sl w 1 vl list.length (nums list)) :
    Calls Try.prog 18 #[parsV p vp vt, vl] w fun e w' => MadeP (ParsedF p list) e w' w := by
  have hlm := hl.max
  have HR := Aside0.mk hr
  have HL := Aside0.mk hl
  obtain ⟨Ap, cp, rfl, -⟩ := hr.ps.ex
  obtain ⟨At, ct, rfl, -⟩ := hr.tx.ex
  obtain ⟨Al, cl, rfl, -⟩ := hl.ex
  clear hr hl
  have hu := Try.underlying26
  have sP := szP
  have zP := zvP
  unfold parsV
  have H0 : Hid (Own w.heap.size ((w.alloc (.cells #[i64 p.st, .slice Ap p.ps.length cp, i64 p.mr, .slice At p.tx.length ct] 26)).alloc (.cells #[i64 0, nilS, i64 0, nilS] 26)) [cellsAt (w.heap.size + 1) 26 [i64 0, nilS, i64 0, nilS]]) :=
    (((Own.nil w.heap.size w).alloc (Nat.le_refl _) (parsCells p (.slice Ap p.ps.length cp) (.slice At p.tx.length ct)) 26 rfl).alloc (by simp) [i64 0, nilS, i64 0, nilS] 26 (by simp)).drop1
  have B0 : Hid (∀ o o', Below w.heap.size w ((w.alloc o).alloc o')) := fun o o' => ((Below.refl _ _).alloc (Nat.le_refl _) o).alloc (by simp) o'
  by_cases h2 : list.length ≤ 2000
  · have hf : Hid (ParsedF p list = parsedF p list) := if_pos h2
    go_enter Try.func18, Try.ntmps18
    go_wp2_with (first
      | (go_at_call 33; go_must (refine (parsed_calls p list _ _ _ _ (HR.out.below (B0.out _ _)) (HL.out.below (B0.out _ _)) (by omega)).mono ?_); rintro e w1 ⟨vp', vt', va, l, rfl, hl, HS, HB⟩
         obtain ⟨A1, c1, rfl, -, -⟩ := HS.rd
         obtain ⟨A2, c2, rfl, -, -⟩ := HS.pull1.rd
         have HX := own_res (H0.out.join HB (by simp; omega) HS)
         have s0 : w1.cell? ⟨w.heap.size + 1, 0, none⟩ = some (i64 0) := HX.cell 0
         have s1 : w1.cell? ⟨w.heap.size + 1, 1, none⟩ = some nilS := HX.cell 1
         have s2 : w1.cell? ⟨w.heap.size + 1, 2, none⟩ = some (i64 0) := HX.cell 2
         have s3 : w1.cell? ⟨w.heap.size + 1, 3, none⟩ = some nilS := HX.cell 3
         have t0 : w1.frozen? ⟨w.heap.size + 1, 0, none⟩ = false := HX.free 0
         have t1 : w1.frozen? ⟨w.heap.size + 1, 1, none⟩ = false := HX.free 1
         have t2 : w1.frozen? ⟨w.heap.size + 1, 2, none⟩ = false := HX.free 2
         have t3 : w1.frozen? ⟨w.heap.size + 1, 3, none⟩ = false := HX.free 3
         unfold parsV))
    rw [show ParsedF p list = parsedF p list from hf]
    generalize parsedF p list = F at *
    have HY := (((HX.setCell 0 (i64 F.1.st)).setCell 1 (.slice A1 F.1.ps.length c1)).setCell 2 (i64 F.1.mr)).setCell 3 (.slice A2 F.1.tx.length c2)
    refine bodyPost_ret (v := .tuple #[parsV F.1 (.slice A1 F.1.ps.length c1) (.slice A2 F.1.tx.length c2), va]) (HY.res2 (fn := Try.f18) (t := 4) (u := 5) rfl rfl rfl hu (by kernel_rfl)) rfl ?_
    exact ⟨_, _, va, l, rfl, hl, by simpa using HY.tail, (((((B0.out _ _).trans (HB.mono (by simp; omega))).setCell (by simp) _).setCell (by simp) _).setCell (by simp) _).setCell (by simp) _⟩
  · have hf : Hid (ParsedF p list = (pars0, [])) := if_neg h2
    go_enter Try.func18, Try.ntmps18
    go_wp2
    rw [show ParsedF p list = (pars0, []) from hf]
    refine bodyPost_ret (v := .tuple #[parsV pars0 nilS nilS, nilS]) (H0.out.res2 (fn := Try.f18) (t := 4) (u := 5) rfl rfl rfl hu (by kernel_rfl)) rfl ?_
    exact ⟨nilS, nilS, nilS, [], rfl, rfl, addNil (addNil (addNil (Own.nil _ _) _ _) _ _) _ _, B0.out _ _⟩
end Go.Proofs.Ytecjokjmmejinaa
