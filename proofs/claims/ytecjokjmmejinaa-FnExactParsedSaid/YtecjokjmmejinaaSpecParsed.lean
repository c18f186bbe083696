/- spec's Parsed. -/
import Derived.Test.YtecjokjmmejinaaSpecTop
namespace Go.Proofs.Ytecjokjmmejinaa
open Go.RowKit SL

theorem stepB_eq (p : Pars) (r : Int) : stepB p r = parsedF p [r] := by
  unfold stepB parsedF
  cases h : runeB r <;> simp [h, stepsF]

set_option maxRecDepth 100000 in
set_option maxHeartbeats 1000000 in
theorem specParsed_bad (p : Pars) (list : List Int) (vp vt vl : Value) (w : World) (hr : RdP w p vp vt) (hl : Sl w 1 vl list.length (nums list))
    (hbad : parsB p = false ∨ (parsB p = true ∧ (decide ((list.length : Int) ≤ 2000) && !list.any (fun n => !runeB n)) = false)) :
    Calls Try.prog 16 #[parsV p vp vt, vl] w fun e w' => MadeP (pars0, []) e w' w := by
  have HR := Aside0.mk hr
  have HL := Aside0.mk hl
  have hlm := hl.max
  obtain ⟨Ap, cp, rfl, -⟩ := hr.ps.ex
  obtain ⟨At, ct, rfl, -⟩ := hr.tx.ex
  obtain ⟨Al, cl, rfl, -⟩ := hl.ex
  clear hr hl
  have hu := Try.underlying26
  have sP := szP
  have zP := zvP
  have H0 := Aside0.mk (three0 (Nat.le_refl _) (Own.nil w.heap.size w) [i64 p.st, .slice Ap p.ps.length cp, i64 p.mr, .slice At p.tx.length ct] [i64 0, nilS, i64 0, nilS])
  have B0 := Aside0.mk (three0_below (Below.refl w.heap.size w) (Nat.le_refl _))
  unfold parsV
  rcases hbad with hok | ⟨hok, hru⟩
  · go_enter Try.func16, Try.ntmps16
    go_wp2_with (first
      | (go_at_call 27; go_must (refine (specOk_calls p _ _ _ (HR.out.ps.below (B0.out _ _ _)) (HR.out.tx.below (B0.out _ _ _))).mono ?_); rintro e w1 ⟨rfl, HB1⟩
         have H1 := H0.out.below HB1
         have B1 := Aside0.mk ((B0.out _ _ _).trans (HB1.mono (by simp; omega)))
         obtain ⟨⟨s0, s1, s2, s3⟩, t0, t1, t2, t3⟩ := H1.c4))
    have HE := H1.set4 (i64 0) nilS (i64 0) nilS
    refine bodyPost_ret (v := .tuple #[parsV pars0 nilS nilS, .slice (some ⟨w.heap.size + 2, 0, none⟩) 0 0]) (HE.res2 (fn := Try.f16) (t := 4) (u := 5) rfl rfl rfl hu (by kernel_rfl)) rfl ?_
    exact ⟨nilS, nilS, _, [], rfl, rfl, addNil (addNil HE.tail.drop1 _ _) _ _, below_set4 (b := w.heap.size + 1) B1.out (by omega) _ _ _ _⟩
  · have HRU := Aside0.mk hru
    clear hru
    go_enter Try.func16, Try.ntmps16
    go_wp2_with (first
      | (go_at_call 27; go_must (refine (specOk_calls p _ _ _ (HR.out.ps.below (B0.out _ _ _)) (HR.out.tx.below (B0.out _ _ _))).mono ?_); rintro e w1 ⟨rfl, HB1⟩
         have H1 := H0.out.below HB1
         have B1 := Aside0.mk ((B0.out _ _ _).trans (HB1.mono (by simp; omega)))
         obtain ⟨⟨s0, s1, s2, s3⟩, t0, t1, t2, t3⟩ := H1.c4)
      | (go_at_call 36; go_must (refine (l6Runes_calls _ list 2000 _ (HL.out.below B1.out)).mono ?_); rintro e w' ⟨rfl, rfl⟩; rw [HRU.out]))
    have HE := H1.set4 (i64 0) nilS (i64 0) nilS
    refine bodyPost_ret (v := .tuple #[parsV pars0 nilS nilS, .slice (some ⟨w.heap.size + 2, 0, none⟩) 0 0]) (HE.res2 (fn := Try.f16) (t := 4) (u := 5) rfl rfl rfl hu (by kernel_rfl)) rfl ?_
    exact ⟨nilS, nilS, _, [], rfl, rfl, addNil (addNil HE.tail.drop1 _ _) _ _, below_set4 (b := w.heap.size + 1) B1.out (by omega) _ _ _ _⟩

theorem own_last {base : Nat} {w : World} {r1 r2 c z : Atm} {M : List Atm} (h : Own base w (r1 :: r2 :: c :: (M ++ [z]))) : Own base w (z :: r1 :: r2 :: c :: M) := by
  have h' : Own base w ((r1 :: r2 :: c :: M) ++ z :: []) := h
  simpa using Own.pull h'
theorem own_pre3 {base : Nat} {w : World} {c r1 r2 a1 a2 : Atm} {R1 R2 R : List Atm} (h : Own base w (c :: ((r1 :: r2 :: (a2 :: R2)) ++ ((a1 :: R1) ++ R)))) : Own base w (a1 :: (([c, r1, r2] ++ (a2 :: R2)) ++ (R1 ++ R))) := own_pre (P := [c, r1, r2]) h

set_option maxRecDepth 100000 in
set_option maxHeartbeats 2000000 in
theorem specParsed_good (p : Pars) (list : List Int) (vp vt vl : Value) (w : World) (hr : RdP w p vp vt) (hl : Sl w 1 vl list.length (nums list))
    (hok : parsB p = true) (h2000 : list.length ≤ 2000) (hru : (decide ((list.length : Int) ≤ 2000) && !list.any (fun n => !runeB n)) = true) :
    Calls Try.prog 16 #[parsV p vp vt, vl] w fun e w' => MadeP (stepsF p list) e w' w := by
  have hfit := parsB_fit hok
  have hl1 := hfit.ps
  have hl2 := hfit.tx
  have HF := Aside0.mk hfit
  have HR := Aside0.mk hr
  have HL := Aside0.mk hl
  have HRU := Aside0.mk hru
  obtain ⟨Ap, cp, rfl, -⟩ := hr.ps.ex
  obtain ⟨At, ct, rfl, -⟩ := hr.tx.ex
  obtain ⟨Al, cl, rfl, -⟩ := hl.ex
  clear hr hl hru hfit
  have hu := Try.underlying26
  have sP := szP
  have zP := zvP
  have H0 := Aside0.mk (three0 (Nat.le_refl _) (Own.nil w.heap.size w) [i64 p.st, .slice Ap p.ps.length cp, i64 p.mr, .slice At p.tx.length ct] [i64 0, nilS, i64 0, nilS])
  have B0 := Aside0.mk (three0_below (Below.refl w.heap.size w) (Nat.le_refl _))
  unfold parsV
  go_enter Try.func16, Try.ntmps16
  go_wp2_with (first
    | (go_at_call 27; go_must (refine (specOk_calls p _ _ _ (HR.out.ps.below (B0.out _ _ _)) (HR.out.tx.below (B0.out _ _ _))).mono ?_); rintro e w1 ⟨rfl, HB1⟩
       have H1 := H0.out.below HB1
       have B1 := Aside0.mk ((B0.out _ _ _).trans (HB1.mono (by simp; omega)))
       have hlt1 : w.heap.size + 1 < w1.heap.size := H1.block_lt
       obtain ⟨⟨r0, r1, r2, r3⟩, -⟩ := H1.pull2.c4)
    | (go_at_call 36; go_must (refine (l6Runes_calls _ list 2000 _ (HL.out.below B1.out)).mono ?_); rintro e w' ⟨rfl, rfl⟩; rw [HRU.out])
    | (go_at_call 32; go_must (refine (l6Copy_calls p _ _ _ (HR.out.below B1.out) (by omega) (by omega)).mono ?_); rintro e w2 ⟨vp2, vt2, rfl, HS2, HB2⟩
       obtain ⟨A2, c2, rfl, -, -⟩ := HS2.rd
       obtain ⟨A3, c3, rfl, -, -⟩ := HS2.pull1.rd
       have H2 := H1.join HB2 (by omega) HS2
       have B2 := Aside0.mk (B1.out.trans (HB2.mono (by omega)))
       obtain ⟨⟨r0, r1, r2, r3⟩, u0, u1, u2, u3⟩ := H2.pull4.c4
       unfold parsV))
  have H4 := (H2.pull4.set4 (i64 p.st) (.slice A2 p.ps.length c2) (i64 p.mr) (.slice A3 p.tx.length c3)).push2.pull4.push3
  have B4 := Aside0.mk (below_set4 (b := w.heap.size) B2.out (Nat.le_refl _) (i64 p.st) (.slice A2 p.ps.length c2) (i64 p.mr) (.slice A3 p.tx.length c3))
  go_loopw [6, 7] (fun s6 s7 wr => ∃ (k : Nat) (vp vt : Value) (l : List AcV), k ≤ list.length ∧ s7 = .int .i64 k ∧ l.map AcV.a = (stepsF p (list.take k)).2 ∧ l.length ≤ k ∧
      Own w.heap.size wr (rowI vp (stepsF p (list.take k)).1.ps :: rowI vt (stepsF p (list.take k)).1.tx :: cellsAt w.heap.size 26 [i64 (stepsF p (list.take k)).1.st, vp, i64 (stepsF p (list.take k)).1.mr, vt] :: (acsAt s6 l ++ [cellsAt (w.heap.size + 1) 26 [i64 0, nilS, i64 0, nilS]])) ∧ Hid (Below w.heap.size w wr)) (fun _ s7 wr => list.length - (intOf s7).toNat)
  case atStart => exact ⟨0, _, _, [], Nat.zero_le _, rfl, rfl, Nat.le_refl _, H4, B4.out⟩
  case round =>
    obtain ⟨k, vp, vt, l, hk, rfl, hl, hlk, HW, HB⟩ := hrel
    have H5 := Aside0.mk HW
    clear HW H4 B4
    by_cases hlt : k < list.length
    · obtain ⟨ad, c', e, hcell⟩ := Sl.get (HL.out.below HB) hlt
      simp only [Value.slice.injEq] at e
      obtain ⟨rfl, -, rfl⟩ := e
      have hck : wr.cell? (ad.add k) = some (i64 (list.getD k 0)) := hcell k hlt
      clear hcell
      generalize hxe : list.getD k 0 = x at *
      have htk : list.take (k + 1) = list.take k ++ [x] := by
        rw [← hxe, List.take_add_one, List.getElem?_eq_getElem hlt, List.getD_eq_getElem?_getD, List.getElem?_eq_getElem hlt]; rfl
      have HXE := Aside0.mk hxe
      clear hxe
      have hfk := stepsF_fit HF.out (list.take k)
      have hst := Aside0.mk (stepsF_snoc p (list.take k) x)
      generalize stepsF p (list.take k) = G at *
      have HG := Aside0.mk hfk
      clear hfk
      obtain ⟨A5, c5, rfl, -, -⟩ := H5.out.rd
      obtain ⟨A6, c6, rfl, -, -⟩ := H5.out.pull1.rd
      obtain ⟨A7, c7, rfl, -, -⟩ := H5.out.tail.tail.tail.rd
      have hbz := HB.size
      have hblt : w.heap.size < wr.heap.size := H5.out.pull2.block_lt
      obtain ⟨⟨r0, r1, r2, r3⟩, u0, u1, u2, u3⟩ := H5.out.pull2.c4
      have CC : Aside0 (∀ (L : List Atm) (w' : World), w.heap.size ≤ w'.heap.size → Own w.heap.size w' (rowI (.slice A5 G.1.ps.length c5) G.1.ps :: rowI (.slice A6 G.1.tx.length c6) G.1.tx :: L) → Calls Try.prog 31 #[.agg #[i64 G.1.st, .slice A5 G.1.ps.length c5, i64 G.1.mr, .slice A6 G.1.tx.length c6], i64 x] w' fun e w'' => SpecPost w.heap.size (stepF G.1 x) L e w'' w') :=
        ⟨fun L w' hz h => l6Step_calls w.heap.size G.1 x _ _ L w' hz HG.out h⟩
      have H5b := Aside0.mk (H5.out.alloc hbz [i64 0, nilS, i64 0, nilS] 26 rfl).push2
      have CCa := Aside0.mk (CC.out _ wr.drew hbz H5.out.drew)
      have CCb := Aside0.mk (CC.out _ (wr.alloc (.cells #[i64 0, nilS, i64 0, nilS] 26)).drew (by simp; omega) H5b.out.drew)
      have hfF := Aside0.mk (stepF_len G.1 x)
      generalize hFe : stepF G.1 x = F at *
      have hn1 := World.new_ne wr _ hck
      have hn2 : wr.heap.size ≠ w.heap.size := by omega
      go_wp2_with fail
      go_region_held3 (fun w' => (w'.cell? ⟨w.heap.size, 0, none⟩ = some (i64 G.1.st) ∧ w'.cell? ⟨w.heap.size, 1, none⟩ = some (.slice A5 G.1.ps.length c5) ∧ w'.cell? ⟨w.heap.size, 2, none⟩ = some (i64 G.1.mr) ∧ w'.cell? ⟨w.heap.size, 3, none⟩ = some (.slice A6 G.1.tx.length c6)) ∧ w'.cell? (ad.add k) = some (i64 x))
        (first
          | go_keep
          | fail)
        (first
          | (go_at_call 31; (with_reducible refine CCa.out.mono ?_); rintro e w5 ⟨vp5, vt5, va5, l5, rfl, hl5, HS5, HB5⟩
             obtain ⟨A8, c8, rfl, -, -⟩ := HS5.rd
             obtain ⟨A9, c9, rfl, -, -⟩ := HS5.pull1.rd
             have BB5 := Aside0.mk ((show Below _ _ _ from HB).drew.trans HB5)
             have hz5 : w.heap.size < w5.heap.size := by have := HB5.size; simp at this; omega
             have HX := own_res HS5
             obtain ⟨⟨r0, r1, r2, r3⟩, u0, u1, u2, u3⟩ := HX.c4
             have H7 := (HX.set4 (i64 F.1.st) (.slice A8 F.1.ps.length c8) (i64 F.1.mr) (.slice A9 F.1.tx.length c9)).below ((Below.refl _ _).alloc (Nat.le_refl _) (.cells #[i64 F.1.st, .slice A8 F.1.ps.length c8, i64 F.1.mr, .slice A9 F.1.tx.length c9] 26))
             have B7 := Aside0.mk ((below_set4 (b := w.heap.size) BB5.out (Nat.le_refl _) (i64 F.1.st) (.slice A8 F.1.ps.length c8) (i64 F.1.mr) (.slice A9 F.1.tx.length c9)).alloc (by simp; omega) (.cells #[i64 F.1.st, .slice A8 F.1.ps.length c8, i64 F.1.mr, .slice A9 F.1.tx.length c9] 26))
             have hck5 : w5.cell? (ad.add k) = some (i64 x) := by
               obtain ⟨ad', c'', e2, hcell5⟩ := Sl.get (HL.out.below BB5.out) hlt
               simp only [Value.slice.injEq] at e2
               obtain ⟨e2, -, -⟩ := e2
               cases e2
               exact (hcell5 k hlt).trans (by rw [HXE.out])
             have one5 := acCells_one l5 (acs_one (R := _) HS5.tail.tail.tail)
             have hl51 : l5.length ≤ 1 := by have := congrArg List.length hl5; rw [List.length_map] at this; rw [this]; exact hfF.out)
          | (go_at_call 31; (with_reducible refine CCb.out.mono ?_); rintro e w5 ⟨vp5, vt5, va5, l5, rfl, hl5, HS5, HB5⟩
             obtain ⟨A8, c8, rfl, -, -⟩ := HS5.rd
             obtain ⟨A9, c9, rfl, -, -⟩ := HS5.pull1.rd
             have BB5 := Aside0.mk (((show Below _ _ _ from HB).alloc hbz _).drew.trans HB5)
             have hz5 : w.heap.size < w5.heap.size := by have := HB5.size; simp at this; omega
             have hz6 : wr.heap.size < w5.heap.size := by have := HB5.size; simp at this; omega
             have HX := own_res HS5
             obtain ⟨⟨s0, s1, s2, s3⟩, t0, t1, t2, t3⟩ := HX.c4
             have HX2 := own_res HX.tail
             obtain ⟨⟨r0, r1, r2, r3⟩, u0, u1, u2, u3⟩ := HX2.c4
             have H7 := (own_res (HX.set4 (i64 F.1.st) (.slice A8 F.1.ps.length c8) (i64 F.1.mr) (.slice A9 F.1.tx.length c9)).tail).set4 (i64 F.1.st) (.slice A8 F.1.ps.length c8) (i64 F.1.mr) (.slice A9 F.1.tx.length c9)
             have B7 := Aside0.mk (below_set4 (b := w.heap.size) (below_set4 (b := wr.heap.size) BB5.out hbz (i64 F.1.st) (.slice A8 F.1.ps.length c8) (i64 F.1.mr) (.slice A9 F.1.tx.length c9)) (Nat.le_refl _) (i64 F.1.st) (.slice A8 F.1.ps.length c8) (i64 F.1.mr) (.slice A9 F.1.tx.length c9))
             have hck5 : w5.cell? (ad.add k) = some (i64 x) := by
               obtain ⟨ad', c'', e2, hcell5⟩ := Sl.get (HL.out.below BB5.out) hlt
               simp only [Value.slice.injEq] at e2
               obtain ⟨e2, -, -⟩ := e2
               cases e2
               exact (hcell5 k hlt).trans (by rw [HXE.out])
             have one5 := acCells_one l5 (acs_one (R := _) HS5.tail.tail.tail)
             have hl51 : l5.length ≤ 1 := by have := congrArg List.length hl5; rw [List.length_map] at this; rw [this]; exact hfF.out))
      all_goals
        clear CC CCa CCb
        obtain ⟨Av, cv, rfl, -, hAv, hrv⟩ := (H7.tail.tail.tail.sl one5).ex
        have RD := Aside0.mk hrv
        have HQ := Aside0.mk (own_pre3 H7)
        clear hrv
        go_wp2_with (first
          | (at_builtin; go_must (refine ap_row elA rfl _ _ rfl _ l.length (l.flatMap acCells) rfl HQ.out Av l5.length cv (l5.flatMap acCells) rfl (acCells_len l5) RD.out one5 hAv (by omega) (by simp; omega) ?_); rintro v6 w6 HS6 HB6 -))
        go_roundw
        case rel =>
          have HR6 := (own_round HS6).push2
          have e : acsAt v6 (l ++ l5) = row 53 5 v6 (l.length + l5.length) (l.flatMap acCells ++ l5.flatMap acCells) :: (l.flatMap acRows ++ l5.flatMap acRows) := by simp [acsAt]
          have hst' := hst.out
          refine ⟨k + 1, .slice A8 F.1.ps.length c8, .slice A9 F.1.tx.length c9, l ++ l5, by omega, by go_num, ?_, by simp; omega, ?_, B7.out.trans HB6⟩
          · rw [htk, hst']; simp only [List.map_append, hl, hl5]
          · rw [htk, hst', e]; exact HR6
        case measure => simp [intOf]; omega
    · have hkn : k = list.length := by omega
      subst hkn
      rw [List.take_length] at H5 hl
      generalize hFe : stepsF p list = F at *
      have HFE := Aside0.mk hFe
      clear hFe
      obtain ⟨A5, c5, rfl, -, -⟩ := H5.out.rd
      obtain ⟨A6, c6, rfl, -, -⟩ := H5.out.pull1.rd
      have hblt : w.heap.size < wr.heap.size := H5.out.pull2.block_lt
      obtain ⟨⟨r0, r1, r2, r3⟩, u0, u1, u2, u3⟩ := H5.out.pull2.c4
      have HX := own_last H5.out
      obtain ⟨⟨s0, s1, s2, s3⟩, t0, t1, t2, t3⟩ := HX.c4
      go_wp2
      have HY := HX.set4 (i64 F.1.st) (.slice A5 F.1.ps.length c5) (i64 F.1.mr) (.slice A6 F.1.tx.length c6)
      refine bodyPost_ret (v := .tuple #[parsV F.1 (.slice A5 F.1.ps.length c5) (.slice A6 F.1.tx.length c6), u6]) (HY.res2 (fn := Try.f16) (t := 4) (u := 5) rfl rfl rfl hu (by kernel_rfl)) rfl ?_
      rw [HFE.out]
      exact ⟨_, _, u6, l, rfl, hl, HY.tail.drop2, below_set4 (b := w.heap.size + 1) HB (by omega) _ _ _ _⟩

theorem specParsed_calls (p : Pars) (list : List Int) (vp vt vl : Value) (w : World) (hr : RdP w p vp vt) (hl : Sl w 1 vl list.length (nums list)) :
    Calls Try.prog 16 #[parsV p vp vt, vl] w fun e w' => MadeP (ParsedF p list) e w' w := by
  by_cases hok : parsB p = true
  · by_cases h2 : list.length ≤ 2000
    · cases ha : list.any (fun n => !runeB n) with
      | false =>
        have hf : ParsedF p list = stepsF p list := by unfold ParsedF parsedF; rw [if_pos h2, if_pos ⟨hok, ha⟩]
        rw [hf]
        exact specParsed_good p list vp vt vl w hr hl hok h2 (by rw [ha]; simp; omega)
      | true =>
        have hf : ParsedF p list = (pars0, []) := by unfold ParsedF parsedF; rw [if_pos h2, if_neg (by rw [ha]; simp)]
        rw [hf]
        exact specParsed_bad p list vp vt vl w hr hl (.inr ⟨hok, by rw [ha]; simp⟩)
    · have hf : ParsedF p list = (pars0, []) := by unfold ParsedF; rw [if_neg h2]
      rw [hf]
      exact specParsed_bad p list vp vt vl w hr hl (.inr ⟨hok, by rw [decide_eq_false (by omega)]; rfl⟩)
  · have hf : ParsedF p list = (pars0, []) := by unfold ParsedF parsedF; split <;> first | rfl | rw [if_neg (fun h => hok h.1)]
    rw [hf]
    exact specParsed_bad p list vp vt vl w hr hl (.inl (by simpa using hok))
end Go.Proofs.Ytecjokjmmejinaa
