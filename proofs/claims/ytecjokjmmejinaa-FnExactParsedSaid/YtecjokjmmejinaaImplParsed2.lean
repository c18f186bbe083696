/- impl's parsed where all is right; Step, Parsed. -/
import Derived.Test.YtecjokjmmejinaaImplParsed
namespace Go.Proofs.Ytecjokjmmejinaa
open Go.RowKit SL

theorem acCells_one (l : List AcV) (h : ∀ x ∈ l, x.vp.oneCell' = true ∧ x.vt.oneCell' = true) : ∀ u ∈ l.flatMap acCells, u.oneCell' = true := by
  intro u hu
  obtain ⟨x, hx, hu⟩ := List.mem_flatMap.1 hu
  have := h x hx
  simp [acCells] at hu
  rcases hu with rfl | rfl | rfl | rfl | rfl <;> first | rfl | exact this.1 | exact this.2

/-- A row's value is one cell. -/
theorem row_one {base : Nat} {w : World} {e : TypeId} {sz n : Nat} {v : Value} {inner : List Value} {L : List Atm} (h : Own base w (row e sz v n inner :: L)) : v.oneCell' = true := by
  obtain ⟨A, c, rfl, -, -⟩ := h.rd
  rfl
theorem acs_one {base : Nat} {w : World} {l : List AcV} {R : List Atm} (h : Own base w (l.flatMap acRows ++ R)) : ∀ x ∈ l, x.vp.oneCell' = true ∧ x.vt.oneCell' = true := by
  induction l with
  | nil => intro x hx; cases hx
  | cons a l ih =>
    have h' : Own base w (rowI a.vp a.a.ps :: rowI a.vt a.a.tx :: (l.flatMap acRows ++ R)) := by simpa [acRows] using h
    intro x hx
    rcases List.mem_cons.1 hx with rfl | hx
    · exact ⟨row_one h', row_one h'.tail⟩
    · exact ih h'.tail.tail x hx

/-- Ahead of the round's append: the list's row at the front. -/
theorem own_pre {base : Nat} {w : World} {a1 a2 : Atm} {P R1 R2 R : List Atm} (h : Own base w (P ++ ((a2 :: R2) ++ ((a1 :: R1) ++ R)))) : Own base w (a1 :: ((P ++ (a2 :: R2)) ++ (R1 ++ R))) := by
  rw [← List.append_assoc] at h
  exact Own.pull h

theorem own_box {base : Nat} {w : World} {r1 r2 a b c x y : Atm} {M : List Atm} (h : Own base w ([r1, r2] ++ ([a, b, c] ++ (M ++ [x, y])))) : Own base w (x :: (([r1, r2, a, b, c] ++ M) ++ [y])) := by
  have h' : Own base w (([r1, r2, a, b, c] ++ M) ++ x :: [y]) := by simpa [List.append_assoc] using h
  exact Own.pull h'
theorem own_out {base : Nat} {w : World} {r1 r2 a b c x y : Atm} {M : List Atm} (h : Own base w (x :: (([r1, r2, a, b, c] ++ M) ++ [y]))) : Own base w (r1 :: r2 :: M) := by
  have h' : Own base w (r1 :: r2 :: a :: b :: c :: M) := h.tail.left
  exact h'.drop2.drop2.drop2

theorem parsedF_good {p : Pars} {list : List Int} (h : parsB p = true ∧ list.any (fun r => !runeB r) = false) : parsedF p list = stepsF p list := if_pos h

set_option maxRecDepth 100000 in
set_option maxHeartbeats 1000000 in
theorem parsed_good (p : Pars) (list : List Int) (vp vt vl : Value) (w : World) (hr : RdP w p vp vt) (hl : Sl w 1 vl list.length (nums list)) (hgood : parsB p = true ∧ list.any (fun r => !runeB r) = false) (h2000 : list.length ≤ 1000000) :
    Calls Try.prog 33 #[parsV p vp vt, vl] w fun e w' => MadeP (stepsF p list) e w' w := by
  have hfit := parsB_fit hgood.1
  have hok := hgood.1
  have hany := hgood.2
  have hru : Hid (∀ k, k < list.length → 0 ≤ list.getD k 0 ∧ list.getD k 0 ≤ 1114111) := by
    intro k hk
    have h1 := List.any_eq_false.1 hany (list.getD k 0) (by rw [List.getD_eq_getElem?_getD, List.getElem?_eq_getElem hk]; exact List.getElem_mem _)
    have h2 : runeB (list.getD k 0) = true := by
      cases h3 : runeB (list.getD k 0) with
      | true => rfl
      | false => rw [h3] at h1; exact absurd rfl h1
    have := runeB_iff.1 h2
    omega
  have HR := Aside0.mk hr
  have HL := Aside0.mk hl
  have HF := Aside0.mk hfit
  obtain ⟨Ap, cp, rfl, -⟩ := hr.ps.ex
  obtain ⟨At, ct, rfl, -⟩ := hr.tx.ex
  obtain ⟨Al, cl, rfl, -⟩ := hl.ex
  have hps := hfit.ps
  have htx := hfit.tx
  clear hr hl hgood hfit
  have hu := Try.underlying26
  have hua := Try.underlying53
  have sP := szP
  have zP := zvP
  have sA := szA
  have zA := zvA
  unfold parsV
  have H0 : Hid (Own w.heap.size ((w.alloc (.cells #[i64 p.st, .slice Ap p.ps.length cp, i64 p.mr, .slice At p.tx.length ct] 26)).alloc (.cells #[i64 0, nilS, i64 0, nilS] 26)) [cellsAt (w.heap.size + 1) 26 [i64 0, nilS, i64 0, nilS], cellsAt w.heap.size 26 (parsCells p (.slice Ap p.ps.length cp) (.slice At p.tx.length ct))]) :=
    (((Own.nil w.heap.size w).alloc (Nat.le_refl _) (parsCells p (.slice Ap p.ps.length cp) (.slice At p.tx.length ct)) 26 rfl).alloc (by simp) [i64 0, nilS, i64 0, nilS] 26 (by simp))
  have B0 : Hid (∀ o o', Below w.heap.size w ((w.alloc o).alloc o')) := fun o o' => ((Below.refl _ _).alloc (Nat.le_refl _) o).alloc (by simp) o'
  go_enter Try.func33, Try.ntmps33
  go_wp2_with (first
    | (go_at_call 26; go_must (refine (parserOk_calls p _ _ _ (HR.out.ps.below (B0.out _ _)) (HR.out.tx.below (B0.out _ _))).mono ?_); rintro e w1 ⟨rfl, HB1⟩
       have H1 := H0.out.below HB1
       have BB : Hid (Below w.heap.size w w1) := (B0.out _ _).trans (HB1.mono (by simp <;> omega))
       have hz1 : w.heap.size + 1 < w1.heap.size := H1.block_lt
       have r0 : w1.cell? ⟨w.heap.size, 0, none⟩ = some (i64 p.st) := H1.pull1.cell 0
       have r1 : w1.cell? ⟨w.heap.size, 1, none⟩ = some (.slice Ap p.ps.length cp) := H1.pull1.cell 1
       have r2 : w1.cell? ⟨w.heap.size, 2, none⟩ = some (i64 p.mr) := H1.pull1.cell 2
       have r3 : w1.cell? ⟨w.heap.size, 3, none⟩ = some (.slice At p.tx.length ct) := H1.pull1.cell 3)
    | (go_at_call 54; go_must (refine (containsFunc_calls _ _ parsed1 (fun _ _ => by rfl) _ list _ (HL.out.below BB.out)).mono ?_); rintro e w' ⟨rfl, rfl⟩)
    | (go_at_call 57; go_must (refine (parsCopied_calls p _ _ _ (HR.out.below BB.out) (by omega) (by omega)).mono ?_); rintro e w2 ⟨vp2, vt2, rfl, HS2, HB2⟩
       obtain ⟨A2, c2, rfl, -, -⟩ := HS2.rd
       obtain ⟨A3, c3, rfl, -, -⟩ := HS2.pull1.rd
       have H2 := H1.join HB2 (by omega) HS2
       have B2 : Hid (Below w.heap.size w w2) := BB.out.trans (HB2.mono (by omega))
       have hz2 : w.heap.size + 1 < w2.heap.size := by have := HB2.size; omega
       unfold parsV))
  have H4 : Own w.heap.size ((w2.alloc (.cells #[] 53)).alloc (.cells #[i64 p.st, .slice A2 p.ps.length c2, i64 p.mr, .slice A3 p.tx.length c3] 26))
      (parsAt (w2.heap.size + 1) p (.slice A2 p.ps.length c2) (.slice A3 p.tx.length c3) ++ (acsAt (.slice (some ⟨w2.heap.size, 0, none⟩) 0 0) [] ++ [cellsAt (w.heap.size + 1) 26 [i64 0, nilS, i64 0, nilS], cellsAt w.heap.size 26 (parsCells p (.slice Ap p.ps.length cp) (.slice At p.tx.length ct))])) := by
    have K := (H2.addRow (e := 53) (sz := 5) ((Below.refl _ _).alloc (Nat.le_refl _) (.cells #[] 53)) (by omega) (World.ownsRow_made w2 #[] 0 (Nat.le_refl _) (Nat.zero_le _) (by simp))).alloc (by simp; omega) (parsCells p (.slice A2 p.ps.length c2) (.slice A3 p.tx.length c3)) 26 (b := w2.heap.size + 1) (by simp)
    exact K.pull3.pull3.pull2
  have B4 : Hid (Below w.heap.size w ((w2.alloc (.cells #[] 53)).alloc (.cells #[i64 p.st, .slice A2 p.ps.length c2, i64 p.mr, .slice A3 p.tx.length c3] 26))) := (B2.out.alloc (by omega) _).alloc (by simp; omega) _
  go_loopw [7, 23] (fun s7 s23 wr => ∃ (k : Nat) (vp vt : Value) (l : List AcV), k ≤ list.length ∧ s23 = .int .i64 k ∧ l.map AcV.a = (stepsF p (list.take k)).2 ∧ l.length ≤ k ∧ Own w.heap.size wr (parsAt (w2.heap.size + 1) (stepsF p (list.take k)).1 vp vt ++ (acsAt s7 l ++ [cellsAt (w.heap.size + 1) 26 [i64 0, nilS, i64 0, nilS], cellsAt w.heap.size 26 (parsCells p (.slice Ap p.ps.length cp) (.slice At p.tx.length ct))])) ∧ Hid (Below w.heap.size w wr)) (fun _ s23 wr => list.length - (intOf s23).toNat)
  case atStart => exact ⟨0, _, _, [], Nat.zero_le _, rfl, rfl, Nat.le_refl _, H4, B4⟩
  case round =>
    obtain ⟨k, vp, vt, l, hk, rfl, hl, hlk, HW, HB⟩ := hrel
    have H5 := Aside0.mk HW
    clear HW
    by_cases hlt : k < list.length
    · obtain ⟨ad, c', e, hcell⟩ := Sl.get (HL.out.below HB) hlt
      simp only [Value.slice.injEq] at e
      obtain ⟨rfl, -, rfl⟩ := e
      have hck : wr.cell? (ad.add k) = some (i64 (list.getD k 0)) := hcell k hlt
      clear hcell
      have hr := (show ∀ k, k < list.length → 0 ≤ list.getD k 0 ∧ list.getD k 0 ≤ 1114111 from hru) k hlt
      generalize hxe : list.getD k 0 = x at *
      have htk : list.take (k + 1) = list.take k ++ [x] := by
        rw [← hxe, List.take_add_one, List.getElem?_eq_getElem hlt, List.getD_eq_getElem?_getD, List.getElem?_eq_getElem hlt]; rfl
      clear hxe
      obtain ⟨A5, c5, rfl, -, -⟩ := H5.out.tail.tail.tail.rd
      have hbz := HB.size
      go_wp2_with (first
        | (go_at_call 58; go_must (refine (step_calls w.heap.size (w2.heap.size + 1) _ x vp vt _ _ hbz (stepsF_fit HF.out _) hr H5.out).mono ?_); rintro e w5 ⟨va5, vp5, vt5, l5, rfl, hl5, HS5, HB5⟩
           have one5 := acCells_one l5 (acs_one (R := _) HS5.tail.tail.tail.tail)
           obtain ⟨Av, cv, rfl, -, hAv, hrv⟩ := (HS5.tail.tail.tail.sl one5).ex
           have RD5 := Aside0.mk hrv
           have HQ := Aside0.mk (own_pre HS5)
           have hbz5 : w.heap.size ≤ w5.heap.size := by have := HB5.size; omega
           have hl51 : l5.length ≤ 1 := by have := congrArg List.length hl5; rw [List.length_map] at this; rw [this]; exact stepF_len _ _
           clear hrv)
        | (at_builtin; go_must (refine ap_row elA rfl _ _ rfl _ l.length (l.flatMap acCells) rfl HQ.out Av l5.length cv (l5.flatMap acCells) rfl (acCells_len l5) RD5.out one5 hAv (by omega) hbz5 ?_); rintro v6 w6 HS6 HB6 -))
      go_roundw
      case rel =>
        refine ⟨k + 1, vp5, vt5, l ++ l5, by omega, by go_num, ?_, by simp; omega, ?_, ?_⟩
        · rw [htk, stepsF_snoc]; simp only [List.map_append, hl, hl5]
        · have HR6 := own_round HS6
          rw [htk, stepsF_snoc]
          have e : acsAt v6 (l ++ l5) = row 53 5 v6 (l.length + l5.length) (l.flatMap acCells ++ l5.flatMap acCells) :: (l.flatMap acRows ++ l5.flatMap acRows) := by simp [acsAt]
          rw [e]
          exact HR6
        · exact (show Below _ _ _ from HB).trans (HB5.trans HB6)
      case measure => simp [intOf]; omega
    · have hkn : k = list.length := by omega
      subst hkn
      rw [List.take_length] at H5 hl
      generalize hF : stepsF p list = F at *
      have hFit : F.1.Fit := by rw [← hF]; exact stepsF_fit HF.out _
      have HFF := Aside0.mk hF
      clear hF
      obtain ⟨A5, c5, rfl, -, -⟩ := H5.out.tail.rd
      obtain ⟨A6, c6, rfl, -, -⟩ := H5.out.tail.tail.rd
      have r0 : wr.cell? ⟨w2.heap.size + 1, 0, none⟩ = some (i64 F.1.st) := H5.out.cell 0
      have r1 : wr.cell? ⟨w2.heap.size + 1, 1, none⟩ = some (.slice A5 F.1.ps.length c5) := H5.out.cell 1
      have r2 : wr.cell? ⟨w2.heap.size + 1, 2, none⟩ = some (i64 F.1.mr) := H5.out.cell 2
      have r3 : wr.cell? ⟨w2.heap.size + 1, 3, none⟩ = some (.slice A6 F.1.tx.length c6) := H5.out.cell 3
      have hf1 := hFit.ps
      have hf2 := hFit.tx
      have RD : Hid (RdP wr F.1 (.slice A5 F.1.ps.length c5) (.slice A6 F.1.tx.length c6)) := ⟨H5.out.tail.sl (nums_one _), H5.out.tail.tail.sl (nums_one _)⟩
      have hbz := HB.size
      go_wp2_with (first
        | (go_at_call 57; go_must (refine (parsCopied_calls F.1 _ _ _ RD.out (by omega) (by omega)).mono ?_); rintro e w7 ⟨vp7, vt7, rfl, HS7, HB7⟩
           obtain ⟨A7, c7, rfl, -, -⟩ := HS7.rd
           obtain ⟨A8, c8, rfl, -, -⟩ := HS7.pull1.rd
           have HX := own_box (H5.out.join HB7 hbz HS7)
           have s0 : w7.cell? ⟨w.heap.size + 1, 0, none⟩ = some (i64 0) := HX.cell 0
           have s1 : w7.cell? ⟨w.heap.size + 1, 1, none⟩ = some nilS := HX.cell 1
           have s2 : w7.cell? ⟨w.heap.size + 1, 2, none⟩ = some (i64 0) := HX.cell 2
           have s3 : w7.cell? ⟨w.heap.size + 1, 3, none⟩ = some nilS := HX.cell 3
           have t0 : w7.frozen? ⟨w.heap.size + 1, 0, none⟩ = false := HX.free 0
           have t1 : w7.frozen? ⟨w.heap.size + 1, 1, none⟩ = false := HX.free 1
           have t2 : w7.frozen? ⟨w.heap.size + 1, 2, none⟩ = false := HX.free 2
           have t3 : w7.frozen? ⟨w.heap.size + 1, 3, none⟩ = false := HX.free 3
           unfold parsV))
      have HY := (((HX.setCell 0 (i64 F.1.st)).setCell 1 (.slice A7 F.1.ps.length c7)).setCell 2 (i64 F.1.mr)).setCell 3 (.slice A8 F.1.tx.length c8)
      refine bodyPost_ret (v := .tuple #[parsV F.1 (.slice A7 F.1.ps.length c7) (.slice A8 F.1.tx.length c8), u7]) (HY.res2 (fn := Try.f33) (t := 4) (u := 5) rfl rfl rfl hu (by kernel_rfl)) rfl ?_
      rw [show stepsF p list = F from HFF.out]
      exact ⟨_, _, u7, l, rfl, hl, own_out HY, ((((HB.out.trans (HB7.mono hbz)).setCell (by simp) _).setCell (by simp) _).setCell (by simp) _).setCell (by simp) _⟩
end Go.Proofs.Ytecjokjmmejinaa
