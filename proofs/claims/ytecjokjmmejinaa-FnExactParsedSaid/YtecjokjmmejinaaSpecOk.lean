/- spec's l6Runes, ParserOk, l6Copy. -/
import Derived.Test.YtecjokjmmejinaaSpecStep
import Derived.LoopTactic
namespace Go.Proofs.Ytecjokjmmejinaa
open Go.RowKit SL

theorem any_of {xs : List Int} {p : Int → Bool} {k : Nat} (hk : k < xs.length) (h : p (xs.getD k 0) = true) : xs.any p = true :=
  List.any_eq_true.2 ⟨xs.getD k 0, by rw [List.getD_eq_getElem?_getD, List.getElem?_eq_getElem hk]; exact List.getElem_mem _, h⟩
theorem andNot {a b c : Bool} (h : c = (!a && b)) (ha : a = false) : c = b := by rw [h, ha]; rfl
theorem any_not {xs : List Int} {p : Int → Bool} (h : ∀ j, j < xs.length → p (xs.getD j 0) = false) : xs.any p = false := by
  rw [List.any_eq_false]
  intro x hx
  obtain ⟨j, hj, rfl⟩ := List.mem_iff_getElem.1 hx
  have := h j hj
  rw [List.getD_eq_getElem?_getD, List.getElem?_eq_getElem hj] at this
  simpa using this

set_option maxRecDepth 100000 in
set_option maxHeartbeats 400000 in
theorem l6Runes_calls (v : Value) (xs : List Int) (m : Int) (w : World) (hv : Sl w 1 v xs.length (nums xs)) :
    Calls Try.prog 36 #[v, i64 m] w fun e w' => e = .returned (.bool (decide ((xs.length : Int) ≤ m) && !xs.any (fun n => !runeB n))) ∧ w = w' := by
  have hm := hv.max
  have HV := Aside0.mk hv
  obtain ⟨A, c, rfl, hc, hA, hr⟩ := hv.ex
  clear hv hr hA
  by_cases hle : (xs.length : Int) ≤ m
  · go_enter Try.func36, Try.ntmps36
    go_wp2
    go_loop [5] (fun s5 => ∃ k : Nat, k ≤ xs.length ∧ s5 = .int .i64 k ∧ Hid (∀ j, j < k → (!runeB (xs.getD j 0)) = false)) (fun s5 => xs.length - (intOf s5).toNat)
    case atStart => exact ⟨0, Nat.zero_le _, rfl, fun j hj => absurd hj (Nat.not_lt_zero _)⟩
    case round =>
      obtain ⟨k, hk, rfl, hn⟩ := hrel
      by_cases hlt : k < xs.length
      · obtain ⟨ad, c', e, hcell⟩ := Sl.get HV.out hlt
        simp only [Value.slice.injEq] at e
        obtain ⟨rfl, -, rfl⟩ := e
        have hck : w.cell? (ad.add k) = some (i64 (xs.getD k 0)) := hcell k hlt
        clear hcell
        generalize hxe : xs.getD k 0 = x at *
        have HX : Hid (xs.getD k 0 = x) := hxe
        clear hxe
        cases hrx : runeB x with
        | false =>
          go_wp2_with (go_at_call 28; go_must (refine (spec_RuneOk x w).mono ?_); rintro e w' ⟨rfl, rfl⟩)
          go_ret
          refine ⟨?_, rfl⟩
          rw [any_of (xs := xs) (k := k) (p := fun n => !runeB n) hlt (by rw [show xs.getD k 0 = x from HX]; simp [hrx])]
          simp
        | true =>
          go_wp2_with (go_at_call 28; go_must (refine (spec_RuneOk x w).mono ?_); rintro e w' ⟨rfl, rfl⟩)
          go_round
          case rel =>
            refine ⟨k + 1, by omega, by go_num, fun j hj => ?_⟩
            by_cases e : j = k
            · subst e; rw [show xs.getD j 0 = x from HX]; simp [hrx]
            · exact hn j (by omega)
          case measure => simp [intOf]; omega
      · have hkn : k = xs.length := by omega
        subst hkn
        go_wp2
        go_ret
        rw [any_not (p := fun n => !runeB n) hn]
        exact ⟨by simp [hle], rfl⟩
  · have hgt : m < (xs.length : Int) := by omega
    go_enter Try.func36, Try.ntmps36
    go_wp2
    go_ret
    rw [show decide ((xs.length : Int) ≤ m) = false from decide_eq_false (by omega)]
    exact ⟨rfl, rfl⟩

set_option maxRecDepth 100000 in
set_option maxHeartbeats 1000000 in
theorem specOk_bad (p : Pars) (vp vt : Value) (w : World) (hp : Sl w 1 vp p.ps.length (nums p.ps)) (ht : Sl w 1 vt p.tx.length (nums p.tx))
    (hbad : inB p.st 1 5 = false ∨ ¬ p.ps.length ≤ 16 ∨ (¬ p.mr = 0 ∧ ¬ p.mr = 63) ∨ titleB p.tx = false) :
    Calls Try.prog 27 #[.agg #[i64 p.st, vp, i64 p.mr, vt]] w fun e w' => e = .returned (.bool false) ∧ Below w.heap.size w w' := by
  have hm1 := hp.max
  have hm2 := ht.max
  have HT := Aside0.mk ht
  obtain ⟨Ap, cp, rfl, -⟩ := hp.ex
  obtain ⟨At, ct, rfl, -⟩ := ht.ex
  clear hp ht
  have hu := Try.underlying26
  have HB : Hid (∀ o, Below w.heap.size w (w.alloc o)) := fun o => (Below.refl _ _).alloc (Nat.le_refl _) o
  have ht' : Hid (titleB p.tx = (decide ((p.tx.length : Int) ≤ 40) && !p.tx.any (fun n => !runeB n))) := by
    simp only [Hid, titleB]; congr 1; simp; omega
  cases hin : inB p.st 1 5 with
  | false =>
    go_enter Try.func27, Try.ntmps27
    go_wp2_with (go_at_call 49; go_must (refine (spec_l1In _ _ _ _).mono ?_); rintro e w' ⟨rfl, rfl⟩)
    go_ret
    exact ⟨rfl, HB _⟩
  | true =>
    by_cases h16 : p.ps.length ≤ 16
    · by_cases hm : ¬ p.mr = 0 ∧ ¬ p.mr = 63
      · have q0 : (p.mr != 0) = true := bne_iff_ne.2 hm.1
        have q63 : (p.mr != 63) = true := bne_iff_ne.2 hm.2
        have n0 : ¬ p.mr = 0 := hm.1
        have n63 : ¬ p.mr = 63 := hm.2
        clear hbad hm
        go_enter Try.func27, Try.ntmps27
        go_wp2_with (go_at_call 49; go_must (refine (spec_l1In _ _ _ _).mono ?_); rintro e w' ⟨rfl, rfl⟩)
        go_ret
        exact ⟨rfl, HB _⟩
      · have htb : (decide ((p.tx.length : Int) ≤ 40) && !p.tx.any (fun n => !runeB n)) = false := by
          rw [← show titleB p.tx = _ from ht']
          rcases hbad with h | h | h | h
          · rw [hin] at h; cases h
          · exact absurd h16 h
          · exact absurd h hm
          · exact h
        have HTB := Aside0.mk htb
        have hmc : p.mr = 0 ∨ p.mr = 63 := by omega
        have q16 : decide (16 < (p.ps.length : Int)) = false := decide_eq_false (by omega)
        have q16' : ¬ (16 < (p.ps.length : Int)) := by omega
        clear hbad hm htb
        rcases hmc with q0 | q0
        all_goals
          go_enter Try.func27, Try.ntmps27
          go_wp2_with (first
            | (go_at_call 49; go_must (refine (spec_l1In _ _ _ _).mono ?_); rintro e w' ⟨rfl, rfl⟩)
            | (go_at_call 36; go_must (refine (l6Runes_calls _ p.tx 40 _ (HT.out.below ((Below.refl _ _).alloc (Nat.le_refl _) _))).mono ?_); rintro e w' ⟨rfl, rfl⟩; rw [HTB.out]))
          go_ret
          exact ⟨rfl, HB _⟩
    · have h16' : 16 < p.ps.length := by omega
      clear hbad
      go_enter Try.func27, Try.ntmps27
      go_wp2_with (go_at_call 49; go_must (refine (spec_l1In _ _ _ _).mono ?_); rintro e w' ⟨rfl, rfl⟩)
      go_ret
      exact ⟨rfl, HB _⟩

set_option maxRecDepth 100000 in
set_option maxHeartbeats 1000000 in
theorem specOk_good (st mr : Int) (ps tx : List Int) (vp vt : Value) (w : World) (hp : Sl w 1 vp ps.length (nums ps)) (ht : Sl w 1 vt tx.length (nums tx))
    (hin : inB st 1 5 = true) (h16 : ps.length ≤ 16) (hm : mr = 0 ∨ mr = 63) (htb : titleB tx = true) (B : Bool) (hB : B = parsB ⟨st, ps, mr, tx⟩) :
    Calls Try.prog 27 #[.agg #[i64 st, vp, i64 mr, vt]] w fun e w' => e = .returned (.bool B) ∧ Below w.heap.size w w' := by
  have hm1 := hp.max
  have hm2 := ht.max
  have HP := Aside0.mk hp
  have HT := Aside0.mk ht
  obtain ⟨Ap, cp, rfl, -⟩ := hp.ex
  obtain ⟨At, ct, rfl, -⟩ := ht.ex
  clear hp ht
  have hu := Try.underlying26
  have HB : Hid (∀ o, Below w.heap.size w (w.alloc o)) := fun o => (Below.refl _ _).alloc (Nat.le_refl _) o
  have H0 := Aside0.mk ((Own.nil w.heap.size w).alloc (Nat.le_refl _) [i64 st, .slice Ap ps.length cp, i64 mr, .slice At tx.length ct] 26 rfl)
  have ht' : (decide ((tx.length : Int) ≤ 40) && !tx.any (fun n => !runeB n)) = true := by
    rw [← htb]; simp only [titleB]; congr 1; simp; omega
  have HTB := Aside0.mk ht'
  have hmk : markB mr = true := by rcases hm with h | h <;> rw [h] <;> rfl
  have hpB : Hid (B = (!ps.any (fun n => !inB n 0 9999) && ((st == 3 || ((ps.length : Int) == 0 && mr == 0)) && (decide (st ≥ 4) || (tx.length : Int) == 0)))) := by
    rw [hB]; simp only [Hid, parsB, hin, hmk, htb, paramsB, h16]; simp
  have q16 : decide (16 < (ps.length : Int)) = false := decide_eq_false (by omega)
  have q16' : ¬ (16 < (ps.length : Int)) := by omega
  clear ht' htb hmk hB
  rcases hm with rfl | rfl
  all_goals
    go_enter Try.func27, Try.ntmps27
    go_wp2_with (first
      | (go_at_call 49; go_must (refine (spec_l1In _ _ _ _).mono ?_); rintro e w1 ⟨rfl, hw1⟩
         have H1 := own_eq H0.out hw1
         have BB := Aside0.mk (below_eq (HB.out _) hw1)
         clear hw1
         obtain ⟨⟨r0, r1, r2, r3⟩, -⟩ := H1.c4)
      | (go_at_call 36; go_must (refine (l6Runes_calls _ tx 40 _ (HT.out.below BB.out)).mono ?_); rintro e w' ⟨rfl, rfl⟩; rw [HTB.out]))
    go_loop [3] (fun s3 => ∃ k : Nat, k ≤ ps.length ∧ s3 = .int .i64 k ∧ Hid (∀ j, j < k → (!inB (ps.getD j 0) 0 9999) = false)) (fun s3 => ps.length - (intOf s3).toNat)
    case atStart => exact ⟨0, Nat.zero_le _, rfl, fun j hj => absurd hj (Nat.not_lt_zero _)⟩
    case round =>
      obtain ⟨k, hk, rfl, hn⟩ := hrel
      by_cases hlt : k < ps.length
      · obtain ⟨ad, c', e, hcell⟩ := Sl.get (HP.out.below BB.out) hlt
        simp only [Value.slice.injEq] at e
        obtain ⟨rfl, -, rfl⟩ := e
        have hck : w1.cell? (ad.add k) = some (i64 (ps.getD k 0)) := hcell k hlt
        clear hcell
        generalize hxe : ps.getD k 0 = x at *
        have HX : Hid (ps.getD k 0 = x) := hxe
        clear hxe
        cases hrx : inB x 0 9999 with
        | false =>
          go_wp2_with (go_at_call 49; go_must (refine (spec_l1In _ _ _ _).mono ?_); rintro e w' ⟨rfl, rfl⟩)
          go_ret
          refine ⟨?_, BB.out⟩
          rw [show B = _ from hpB, any_of (xs := ps) (k := k) (p := fun n => !inB n 0 9999) hlt (by rw [show ps.getD k 0 = x from HX]; simp [hrx])]
          rfl
        | true =>
          go_wp2_with (go_at_call 49; go_must (refine (spec_l1In _ _ _ _).mono ?_); rintro e w' ⟨rfl, rfl⟩)
          go_round
          case rel =>
            refine ⟨k + 1, by omega, by go_num, fun j hj => ?_⟩
            by_cases e : j = k
            · subst e; rw [show ps.getD j 0 = x from HX]; simp [hrx]
            · exact hn j (by omega)
          case measure => simp [intOf]; omega
      · have hkn : k = ps.length := by omega
        subst hkn
        have hpB2 := Aside0.mk (andNot (show B = _ from hpB) (any_not (p := fun n => !inB n 0 9999) hn))
        clear hpB
        go_wp2
        all_goals
          go_ret
          refine ⟨?_, BB.out⟩
          rw [hpB2.out]
          clear hpB2 HP HT HTB HB hn H0 BB H1
          simp_all

theorem specOk_calls (p : Pars) (vp vt : Value) (w : World) (hp : Sl w 1 vp p.ps.length (nums p.ps)) (ht : Sl w 1 vt p.tx.length (nums p.tx)) :
    Calls Try.prog 27 #[.agg #[i64 p.st, vp, i64 p.mr, vt]] w fun e w' => e = .returned (.bool (parsB p)) ∧ Below w.heap.size w w' := by
  by_cases hg : inB p.st 1 5 = true ∧ p.ps.length ≤ 16 ∧ (p.mr = 0 ∨ p.mr = 63) ∧ titleB p.tx = true
  · exact specOk_good p.st p.mr p.ps p.tx vp vt w hp ht hg.1 hg.2.1 hg.2.2.1 hg.2.2.2 _ rfl
  · have hbad : inB p.st 1 5 = false ∨ ¬ p.ps.length ≤ 16 ∨ (¬ p.mr = 0 ∧ ¬ p.mr = 63) ∨ titleB p.tx = false := by
      apply Classical.byContradiction
      intro h
      simp only [not_or, Bool.not_eq_false, Classical.not_not] at h
      exact hg ⟨h.1, h.2.1, by have := h.2.2.1; omega, h.2.2.2⟩
    have hf : parsB p = false := by
      rcases hbad with h | h | h | h
      · simp [parsB, h]
      · simp [parsB, paramsB, h]
      · have : markB p.mr = false := by
          cases hm : markB p.mr with
          | false => rfl
          | true => simp [markB] at hm; omega
        simp [parsB, this]
      · simp [parsB, h]
    rw [hf]
    exact specOk_bad p vp vt w hp ht hbad
end Go.Proofs.Ytecjokjmmejinaa
