/- spec's l6Copy, Step, Parsed. -/
import Derived.Test.YtecjokjmmejinaaSpecOk
namespace Go.Proofs.Ytecjokjmmejinaa
open Go.RowKit SL

theorem made0 {base : Nat} {w : World} {L : List Atm} (h : Own base w L) (hbase : base ≤ w.heap.size) (e : TypeId) (sz : Nat) (b : Nat) (hb : b = w.heap.size) :
    Own base (w.alloc (.cells #[] e)) (row e sz (.slice (some ⟨b, 0, none⟩) 0 0) 0 [] :: L) := by
  subst hb
  exact h.addRow ((Below.refl _ _).alloc (Nat.le_refl _) (.cells #[] e)) hbase (World.ownsRow_made _ #[] 0 (Nat.le_refl _) (Nat.zero_le _) (by simp) (size := sz))

set_option maxRecDepth 100000 in
set_option maxHeartbeats 1000000 in
theorem l6Copy_calls (p : Pars) (vp vt : Value) (w : World) (hr : RdP w p vp vt) (hl1 : p.ps.length ≤ 10000000) (hl2 : p.tx.length ≤ 10000000) :
    Calls Try.prog 32 #[parsV p vp vt] w fun e w' => ∃ vp' vt', e = .returned (parsV p vp' vt') ∧ Own w.heap.size w' [rowI vp' p.ps, rowI vt' p.tx] ∧ Below w.heap.size w w' := by
  obtain ⟨Ap, cp, rfl, hcp, hAp, hrp⟩ := hr.ps.ex
  obtain ⟨At, ct, rfl, hct, hAt, hrt⟩ := hr.tx.ex
  have hu := Try.underlying26
  have sP := szP
  have zP := zvP
  have H0 := Aside0.mk (((Own.nil w.heap.size w).alloc (Nat.le_refl _) [i64 p.st, .slice Ap p.ps.length cp, i64 p.mr, .slice At p.tx.length ct] 26 rfl).alloc (by simp) [i64 0, nilS, i64 0, nilS] 26 (b := w.heap.size + 1) (by simp))
  have H1 := Aside0.mk (made0 H0.out (by simp; omega) 2 1 (w.heap.size + 2) (by simp))
  have B1 := Aside0.mk ((((Below.refl w.heap.size w).alloc (Nat.le_refl _) (.cells #[i64 p.st, .slice Ap p.ps.length cp, i64 p.mr, .slice At p.tx.length ct] 26)).alloc (by simp) (.cells #[i64 0, nilS, i64 0, nilS] 26)).alloc (by simp; omega) (.cells #[] 2))
  have RP := Aside0.mk (hrp.below B1.out)
  have RT := Aside0.mk hrt
  clear hr hrp hrt
  unfold parsV
  go_enter Try.func32, Try.ntmps32
  go_wp2_with (first
    | (at_builtin; refine ap_row elI rfl _ _ rfl _ 0 [] rfl H1.out Ap p.ps.length cp (nums p.ps) rfl (by simp [nums]) RP.out (nums_one _) hAp (by omega) (by simp; omega) ?_; rintro v' w1 HS HB -
       rw [Nat.zero_add] at HS
       have hlt1 : w.heap.size + 1 < w1.heap.size := HS.pull1.block_lt
       have hlt0 : w.heap.size < w1.heap.size := by omega
       obtain ⟨A', c', rfl, -, -⟩ := HS.rd
       have hs1 := HB.size
       simp at hs1
       obtain ⟨⟨s0, s1, s2, s3⟩, t0, t1, t2, t3⟩ := HS.pull1.c4
       obtain ⟨⟨r0, r1, r2, r3⟩, u0, u1, u2, u3⟩ := HS.pull2.c4
       have BB := Aside0.mk (((B1.out.trans HB).setCell (p := ⟨w.heap.size, 1, none⟩) (Nat.le_refl _) (.slice A' p.ps.length c')).alloc (by simp; omega) (.cells #[] 2))
       have H2 := Aside0.mk (made0 (HS.pull2.setCell 1 (.slice A' p.ps.length c')) (by simp; omega) 2 1 w1.heap.size (by simp))
       have RT2 := Aside0.mk (RT.out.below BB.out))
    | (at_builtin; refine ap_row elI rfl _ _ rfl _ 0 [] rfl H2.out At p.tx.length ct (nums p.tx) rfl (by simp [nums]) RT2.out (nums_one _) hAt (by omega) (by simp; omega) ?_; rintro v2 w2 HS2 HB2 -
       rw [Nat.zero_add] at HS2
       obtain ⟨A2, c2, rfl, -, -⟩ := HS2.rd
       obtain ⟨⟨s0, s1, s2, s3⟩, t0, t1, t2, t3⟩ := HS2.pull3.c4
       obtain ⟨⟨r0, r1, r2, r3⟩, u0, u1, u2, u3⟩ := HS2.pull1.c4))
  have HE := (HS2.pull1.setCell 3 (.slice A2 p.tx.length c2)).pull3.set4 (i64 p.st) (.slice A' p.ps.length c') (i64 p.mr) (.slice A2 p.tx.length c2)
  refine bodyPost_ret (v := .agg #[i64 p.st, .slice A' p.ps.length c', i64 p.mr, .slice A2 p.tx.length c2]) (HE.res1 rfl rfl rfl hu (by kernel_rfl)) rfl ?_
  exact ⟨_, _, rfl, HE.tail.tail.pull1, below_set4 ((BB.out.trans HB2).setCell (Nat.le_refl _) _) (by omega) _ _ _ _⟩
def stepB (p : Pars) (r : Int) : Pars × List Acn := if parsB p = true ∧ runeB r = true then stepF p r else (pars0, [])

set_option maxRecDepth 100000 in
set_option maxHeartbeats 1000000 in
theorem specStep_calls (p : Pars) (r : Int) (vp vt : Value) (w : World) (hr : RdP w p vp vt) :
    Calls Try.prog 7 #[parsV p vp vt, i64 r] w fun e w' => MadeP (stepB p r) e w' w := by
  have HR := Aside0.mk hr
  obtain ⟨Ap, cp, rfl, -⟩ := hr.ps.ex
  obtain ⟨At, ct, rfl, -⟩ := hr.tx.ex
  clear hr
  have hu := Try.underlying26
  have sP := szP
  have zP := zvP
  have H0 := Aside0.mk (((Own.nil w.heap.size w).alloc (Nat.le_refl _) [i64 p.st, .slice Ap p.ps.length cp, i64 p.mr, .slice At p.tx.length ct] 26 rfl).alloc (by simp) [i64 0, nilS, i64 0, nilS] 26 (b := w.heap.size + 1) (by simp))
  have B0 := Aside0.mk (((Below.refl w.heap.size w).alloc (Nat.le_refl _) (.cells #[i64 p.st, .slice Ap p.ps.length cp, i64 p.mr, .slice At p.tx.length ct] 26)).alloc (by simp) (.cells #[i64 0, nilS, i64 0, nilS] 26))
  unfold parsV
  by_cases hg : parsB p = true ∧ runeB r = true
  · have hf : Hid (stepB p r = stepF p r) := if_pos hg
    have hok := hg.1
    have hru := hg.2
    have hfit := parsB_fit hok
    have hl1 := hfit.ps
    have hl2 := hfit.tx
    have HF := Aside0.mk hfit
    clear hg hfit
    go_enter Try.func7, Try.ntmps7
    go_wp2_with (first
      | (go_at_call 27; go_must (refine (specOk_calls p _ _ _ (HR.out.ps.below B0.out) (HR.out.tx.below B0.out)).mono ?_); rintro e w1 ⟨rfl, HB1⟩
         have H1 := H0.out.below HB1
         have B1 := Aside0.mk (B0.out.trans (HB1.mono (by simp; omega)))
         have hlt1 : w.heap.size + 1 < w1.heap.size := H1.block_lt
         obtain ⟨⟨r0, r1, r2, r3⟩, -⟩ := H1.pull1.c4)
      | (go_at_call 28; go_must (refine (spec_RuneOk _ _).mono ?_); rintro e w' ⟨rfl, rfl⟩)
      | (go_at_call 32; go_must (refine (l6Copy_calls p _ _ _ (HR.out.below B1.out) (by omega) (by omega)).mono ?_); rintro e w2 ⟨vp2, vt2, rfl, HS2, HB2⟩
         have H2 := H1.join HB2 (by omega) HS2
         have B2 := Aside0.mk (B1.out.trans (HB2.mono (by omega)))
         have hz2 : w.heap.size ≤ w2.heap.size := by have := HB2.size; omega)
      | (go_at_call 31; go_must (refine (l6Step_calls w.heap.size p r _ _ _ _ hz2 HF.out H2).mono ?_); rintro e w4 ⟨vp4, vt4, va, l, rfl, hl, HS, HB⟩
         obtain ⟨A4, c4, rfl, -, -⟩ := HS.rd
         obtain ⟨A5, c5, rfl, -, -⟩ := HS.pull1.rd
         have HX := own_res HS
         obtain ⟨⟨s0, s1, s2, s3⟩, t0, t1, t2, t3⟩ := HX.c4))
    generalize hF : stepF p r = F at *
    have HY := HX.set4 (i64 F.1.st) (.slice A4 F.1.ps.length c4) (i64 F.1.mr) (.slice A5 F.1.tx.length c5)
    refine bodyPost_ret (v := .tuple #[parsV F.1 (.slice A4 F.1.ps.length c4) (.slice A5 F.1.tx.length c5), va]) (HY.res2 (fn := Try.f7) (t := 4) (u := 5) rfl rfl rfl hu (by kernel_rfl)) rfl ?_
    rw [show stepB p r = F from hf]
    exact ⟨_, _, va, l, rfl, hl, HY.tail.left, below_set4 (B2.out.trans HB) (by omega) _ _ _ _⟩
  · have hf : Hid (stepB p r = (pars0, [])) := if_neg hg
    have hc : parsB p = false ∨ (parsB p = true ∧ runeB r = false) := by
      cases h1 : parsB p with
      | false => exact .inl rfl
      | true => cases h2 : runeB r with
        | false => exact .inr ⟨rfl, rfl⟩
        | true => exact absurd ⟨h1, h2⟩ hg
    clear hg
    rcases hc with hok | ⟨hok, hru⟩
    all_goals
      go_enter Try.func7, Try.ntmps7
      go_wp2_with (first
        | (go_at_call 27; go_must (refine (specOk_calls p _ _ _ (HR.out.ps.below B0.out) (HR.out.tx.below B0.out)).mono ?_); rintro e w1 ⟨rfl, HB1⟩
           have H1 := H0.out.below HB1
           have B1 := Aside0.mk (B0.out.trans (HB1.mono (by simp; omega)))
           have hlt1 : w.heap.size + 1 < w1.heap.size := H1.block_lt
           obtain ⟨⟨s0, s1, s2, s3⟩, t0, t1, t2, t3⟩ := H1.c4)
        | (go_at_call 28; go_must (refine (spec_RuneOk _ _).mono ?_); rintro e w' ⟨rfl, rfl⟩))
      have HE := made0 (H1.set4 (i64 0) nilS (i64 0) nilS) (by simp; omega) 53 5 w1.heap.size (by simp)
      refine bodyPost_ret (v := .tuple #[parsV pars0 nilS nilS, .slice (some ⟨w1.heap.size, 0, none⟩) 0 0]) (HE.pull1.res2 (fn := Try.f7) (t := 4) (u := 5) rfl rfl rfl hu (by kernel_rfl)) rfl ?_
      rw [show stepB p r = (pars0, []) from hf]
      exact ⟨nilS, nilS, _, [], rfl, rfl, addNil (addNil HE.left (L := _) _ _) _ _, (below_set4 (b := w.heap.size + 1) B1.out (by omega) _ _ _ _).alloc (by simp; omega) _⟩
end Go.Proofs.Ytecjokjmmejinaa
