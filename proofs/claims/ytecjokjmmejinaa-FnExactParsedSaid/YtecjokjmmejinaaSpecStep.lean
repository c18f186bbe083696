/- spec's l6Step. -/
import Derived.Test.YtecjokjmmejinaaSpecList
namespace Go.Proofs.Ytecjokjmmejinaa
open Go.RowKit SL

theorem own_skip {base : Nat} {w : World} {A R : List Atm} {a : Atm} (h : Own base w (A ++ a :: R)) : Own base w (A ++ R) := (Own.pull h).tail

set_option maxRecDepth 100000 in
set_option maxHeartbeats 1000000 in
theorem l6Step_4_7 (base : Nat) (p : Pars) (r : Int) (vp vt : Value) (L : List Atm) (w : World) (hbase : base ≤ w.heap.size) (hp : p.Fit)
    (h : Own base w (rowI vp p.ps :: rowI vt p.tx :: L)) (h4 : p.st = 4) (h7 : r = 7) :
    Calls Try.prog 31 #[parsV p vp vt, i64 r] w fun e w' => SpecPost base (stepF p r) L e w' w := by
  obtain ⟨Ap, cp, rfl, -, -⟩ := h.rd
  obtain ⟨At, ct, rfl, -, -⟩ := h.pull1.rd
  have hu := Try.underlying26
  have hua := Try.underlying53
  have sP := szP
  have zP := zvP
  have sA := szA
  have zA := zvA
  have HH := Aside0.mk (three0 hbase h)
  have H0 := Aside0.mk (HH.out [i64 p.st, .slice Ap p.ps.length cp, i64 p.mr, .slice At p.tx.length ct] [i64 0, nilS, i64 0, nilS])
  have B0 := Aside0.mk (three0_below (Below.refl base w) hbase)
  clear h
  have hf : Hid (stepF p r = (stateP 1, [⟨5, 0, [], 0, p.tx⟩])) := by simp [stepF, titleF, h4, h7, Hid]
  have q4 : (p.st == 4) = true := beq_iff_eq.2 h4
  have q7 : (r == 7) = true := beq_iff_eq.2 h7
  clear h4 h7 hp
  unfold parsV
  go_enter Try.func31, Try.ntmps31
  go_wp2_with fail
  generalize hw3 : (((w.alloc (.cells #[i64 p.st, .slice Ap p.ps.length cp, i64 p.mr, .slice At p.tx.length ct] 26)).alloc (.cells #[i64 0, nilS, i64 0, nilS] 26)).alloc (.cells #[] 53)) = w3
  have H3 := own_eq H0.out hw3
  have B3 := Aside0.mk (below_eq (B0.out _ _ _) hw3)
  clear hw3 H0 B0 HH
  have hlt : w.heap.size + 1 < w3.heap.size := H3.block_lt
  obtain ⟨⟨s0, s1, s2, s3⟩, t0, t1, t2, t3⟩ := H3.c4
  obtain ⟨⟨r0, r1, r2, r3⟩, u0, u1, u2, u3⟩ := H3.pull2.c4
  go_region_held3 (fun w' => w'.cell? ⟨w.heap.size, 3, none⟩ = some (.slice At p.tx.length ct))
    (first
      | go_keep
      | fail)
    (first
      | (go_at_call 50; (with_reducible refine (l6State_calls 1 _).mono ?_); rintro e w4 ⟨rfl, HB4⟩
         have H4 := H3.drew.below HB4
         have B4 := Aside0.mk (B3.out.drew.trans (HB4.mono (by simp; omega)))
         have hlt4 : w.heap.size + 1 < w4.heap.size := H4.block_lt
         obtain ⟨⟨s0, s1, s2, s3⟩, t0, t1, t2, t3⟩ := H4.c4
         obtain ⟨⟨r0, r1, r2, r3⟩, u0, u1, u2, u3⟩ := H4.pull2.c4
         have HE := (H4.set4 (i64 1) nilS (i64 0) nilS).lit (by simp; omega) 53 5 1 (acCells ⟨⟨5, 0, [], 0, p.tx⟩, nilS, .slice At p.tx.length ct⟩) rfl (by omega) (b := w4.heap.size) (by simp)
         have BE := Aside0.mk ((below_set4 (b := w.heap.size + 1) B4.out (by omega) (i64 1) nilS (i64 0) nilS).alloc (by simp; omega) (.cells (acCells ⟨⟨5, 0, [], 0, p.tx⟩, nilS, .slice At p.tx.length ct⟩).toArray 53)))
      | (go_at_call 50; (with_reducible refine (l6State_calls 1 _).mono ?_); rintro e w4 ⟨rfl, HB4⟩
         have H4 := (H3.lit (by omega) 53 5 1 (acCells ⟨⟨5, 0, [], 0, p.tx⟩, nilS, .slice At p.tx.length ct⟩) rfl (by omega) rfl).drew.below HB4
         have B4 := Aside0.mk ((B3.out.alloc (by omega) _).drew.trans (HB4.mono (by simp; omega)))
         have hlt4 : w.heap.size + 1 < w4.heap.size := H4.pull1.block_lt
         obtain ⟨⟨s0, s1, s2, s3⟩, t0, t1, t2, t3⟩ := H4.pull1.c4
         obtain ⟨⟨r0, r1, r2, r3⟩, u0, u1, u2, u3⟩ := H4.pull3.c4
         have HE := (H4.pull1.set4 (i64 1) nilS (i64 0) nilS).pull1
         have BE := Aside0.mk (below_set4 (b := w.heap.size + 1) B4.out (by omega) (i64 1) nilS (i64 0) nilS)))
  all_goals
    go_wp2
    have HT := addNil (addNil (addNil HE.drop1.drop1.drop1.drop1 2 1).push1 2 1) 2 1
    have HX := HE.pull1
    first
      | (refine bodyPost_ret (v := .tuple #[.agg #[i64 1, nilS, i64 0, nilS], .slice (some ⟨w4.heap.size, 0, none⟩) 1 1]) (HX.res2 (fn := Try.f31) (t := 4) (u := 5) rfl rfl rfl hu (by kernel_rfl)) rfl ?_
         rw [show stepF p r = (stateP 1, [⟨5, 0, [], 0, p.tx⟩]) from hf]
         exact ⟨nilS, nilS, _, [⟨⟨5, 0, [], 0, p.tx⟩, nilS, .slice At p.tx.length ct⟩], rfl, rfl, HT, BE.out⟩)
      | (refine bodyPost_ret (v := .tuple #[.agg #[i64 1, nilS, i64 0, nilS], .slice (some ⟨w3.heap.size, 0, none⟩) 1 1]) (HX.res2 (fn := Try.f31) (t := 4) (u := 5) rfl rfl rfl hu (by kernel_rfl)) rfl ?_
         rw [show stepF p r = (stateP 1, [⟨5, 0, [], 0, p.tx⟩]) from hf]
         exact ⟨nilS, nilS, _, [⟨⟨5, 0, [], 0, p.tx⟩, nilS, .slice At p.tx.length ct⟩], rfl, rfl, HT, BE.out⟩)

set_option maxRecDepth 100000 in
set_option maxHeartbeats 1000000 in
theorem l6Step_4_27 (base : Nat) (p : Pars) (r : Int) (vp vt : Value) (L : List Atm) (w : World) (hbase : base ≤ w.heap.size) (hp : p.Fit)
    (h : Own base w (rowI vp p.ps :: rowI vt p.tx :: L)) (h4 : p.st = 4) (h7 : r = 27) :
    Calls Try.prog 31 #[parsV p vp vt, i64 r] w fun e w' => SpecPost base (stepF p r) L e w' w := by
  obtain ⟨Ap, cp, rfl, -, -⟩ := h.rd
  obtain ⟨At, ct, rfl, -, -⟩ := h.pull1.rd
  have hu := Try.underlying26
  have hua := Try.underlying53
  have sP := szP
  have zP := zvP
  have sA := szA
  have zA := zvA
  have HH := Aside0.mk (three0 hbase h)
  have H0 := Aside0.mk (HH.out [i64 p.st, .slice Ap p.ps.length cp, i64 p.mr, .slice At p.tx.length ct] [i64 0, nilS, i64 0, nilS])
  have B0 := Aside0.mk (three0_below (Below.refl base w) hbase)
  clear h
  have hf : Hid (stepF p r = ({ p with st := 5 }, [])) := by simp [stepF, titleF, h4, h7, Hid]
  have q4 : (p.st == 4) = true := beq_iff_eq.2 h4
  have q7 : (r == 7) = false := beq_eq_false_iff_ne.2 (by omega)
  have q27 : (r == 27) = true := beq_iff_eq.2 h7
  clear h4 h7 hp
  unfold parsV
  go_enter Try.func31, Try.ntmps31
  go_wp2_with (first
    | (go_at_call 53; go_must (refine (spec_Width _ _).mono ?_); rintro e w' ⟨rfl, rfl⟩))
  have HX := HH.out [i64 5, .slice Ap p.ps.length cp, i64 p.mr, .slice At p.tx.length ct] [i64 5, .slice Ap p.ps.length cp, i64 p.mr, .slice At p.tx.length ct]
  refine bodyPost_ret (v := .tuple #[.agg #[i64 5, .slice Ap p.ps.length cp, i64 p.mr, .slice At p.tx.length ct], .slice (some ⟨w.heap.size + 2, 0, none⟩) 0 0]) (HX.res2 (fn := Try.f31) (t := 4) (u := 5) rfl rfl rfl hu (by kernel_rfl)) rfl ?_
  rw [show stepF p r = ({ p with st := 5 }, []) from hf]
  exact ⟨_, _, _, [], rfl, rfl, HX.tail.drop1.pull2.pull2, B0.out _ _ _⟩

set_option maxRecDepth 100000 in
set_option maxHeartbeats 1000000 in
theorem l6Step_4_more (base : Nat) (p : Pars) (r : Int) (vp vt : Value) (L : List Atm) (w : World) (hbase : base ≤ w.heap.size) (hp : p.Fit)
    (h : Own base w (rowI vp p.ps :: rowI vt p.tx :: L)) (h4 : p.st = 4) (h7 : ¬ r = 7) (h27 : ¬ r = 27) (h40 : p.tx.length < 40) :
    Calls Try.prog 31 #[parsV p vp vt, i64 r] w fun e w' => SpecPost base (stepF p r) L e w' w := by
  obtain ⟨Ap, cp, rfl, -, -⟩ := h.rd
  obtain ⟨At, ct, rfl, -, -⟩ := h.pull1.rd
  have hu := Try.underlying26
  have hua := Try.underlying53
  have sP := szP
  have zP := zvP
  have sA := szA
  have zA := zvA
  have HH := Aside0.mk (three0 hbase h)
  have H0 := Aside0.mk (HH.out [i64 p.st, .slice Ap p.ps.length cp, i64 p.mr, .slice At p.tx.length ct] [i64 0, nilS, i64 0, nilS])
  have B0 := Aside0.mk (three0_below (Below.refl base w) hbase)
  clear h
  have hf : Hid (stepF p r = ({ p with tx := p.tx ++ [r] }, [])) := by simp [stepF, titleF, h4, h7, h27, h40, Hid]
  have q4 : (p.st == 4) = true := beq_iff_eq.2 h4
  have q7 : (r == 7) = false := beq_eq_false_iff_ne.2 h7
  have q27 : (r == 27) = false := beq_eq_false_iff_ne.2 h27
  have R2 := Aside0.mk (Rd.box (((w.alloc (.cells #[i64 p.st, .slice Ap p.ps.length cp, i64 p.mr, .slice At p.tx.length ct] 26)).alloc (.cells #[i64 0, nilS, i64 0, nilS] 26)).alloc (.cells #[] 53)) (nums [r]) 2 (b := w.heap.size + 3) (by simp))
  have H2 := Aside0.mk (H0.out.pull4.below ((Below.refl _ _).alloc (Nat.le_refl _) (.cells #[i64 r] 2)))
  have B2 := Aside0.mk ((B0.out (.cells #[i64 p.st, .slice Ap p.ps.length cp, i64 p.mr, .slice At p.tx.length ct] 26) (.cells #[i64 0, nilS, i64 0, nilS] 26) (.cells #[] 53)).alloc (by simp; omega) (.cells #[i64 r] 2))
  clear h4 h7 hp h27 HH H0 B0
  unfold parsV
  go_enter Try.func31, Try.ntmps31
  go_wp2_with (first
    | (at_builtin; go_must (refine ap_row elI rfl _ _ rfl _ p.tx.length (nums p.tx) rfl H2.out _ 1 1 (nums [r]) rfl rfl R2.out (nums_one _) (fun h => by cases h) (by omega) (by simp; omega) ?_); rintro v' w1 HS HB -
       obtain ⟨A', c', rfl, -, -⟩ := HS.rd
       obtain ⟨⟨s0, s1, s2, s3⟩, t0, t1, t2, t3⟩ := HS.pull1.c4
       obtain ⟨⟨r0, r1, r2, r3⟩, u0, u1, u2, u3⟩ := HS.pull3.c4))
  have HE := (HS.pull3.setCell 3 (.slice A' (p.tx.length + 1) c')).pull2.set4 (i64 p.st) (.slice Ap p.ps.length cp) (i64 p.mr) (.slice A' (p.tx.length + 1) c')
  refine bodyPost_ret (v := .tuple #[.agg #[i64 p.st, .slice Ap p.ps.length cp, i64 p.mr, .slice A' (p.tx.length + 1) c'], .slice (some ⟨w.heap.size + 2, 0, none⟩) 0 0]) (HE.res2 (fn := Try.f31) (t := 4) (u := 5) rfl rfl rfl hu (by kernel_rfl)) rfl ?_
  rw [show stepF p r = ({ p with tx := p.tx ++ [r] }, []) from hf]
  have HT := HE.tail.tail.pull2
  rw [rowI_snoc] at HT
  exact ⟨_, _, _, [], rfl, rfl, HT, below_set4 ((B2.out.trans HB).setCell hbase _) (by omega) _ _ _ _⟩

set_option maxRecDepth 100000 in
set_option maxHeartbeats 1000000 in
theorem l6Step_4_full (base : Nat) (p : Pars) (r : Int) (vp vt : Value) (L : List Atm) (w : World) (hbase : base ≤ w.heap.size) (hp : p.Fit)
    (h : Own base w (rowI vp p.ps :: rowI vt p.tx :: L)) (h4 : p.st = 4) (h7 : ¬ r = 7) (h27 : ¬ r = 27) (h40 : ¬ p.tx.length < 40) :
    Calls Try.prog 31 #[parsV p vp vt, i64 r] w fun e w' => SpecPost base (stepF p r) L e w' w := by
  obtain ⟨Ap, cp, rfl, -, -⟩ := h.rd
  obtain ⟨At, ct, rfl, -, -⟩ := h.pull1.rd
  have hu := Try.underlying26
  have hua := Try.underlying53
  have sP := szP
  have zP := zvP
  have sA := szA
  have zA := zvA
  have HH := Aside0.mk (three0 hbase h)
  have H0 := Aside0.mk (HH.out [i64 p.st, .slice Ap p.ps.length cp, i64 p.mr, .slice At p.tx.length ct] [i64 0, nilS, i64 0, nilS])
  have B0 := Aside0.mk (three0_below (Below.refl base w) hbase)
  clear h
  have hf : Hid (stepF p r = (p, [])) := by simp [stepF, titleF, h4, h7, h27, h40, Hid]
  have q4 : (p.st == 4) = true := beq_iff_eq.2 h4
  have q7 : (r == 7) = false := beq_eq_false_iff_ne.2 h7
  have q27 : (r == 27) = false := beq_eq_false_iff_ne.2 h27
  clear h4 h7 hp h27
  unfold parsV
  go_enter Try.func31, Try.ntmps31
  go_wp2_with (first
    | (go_at_call 53; go_must (refine (spec_Width _ _).mono ?_); rintro e w' ⟨rfl, rfl⟩))
  have HX := HH.out [i64 p.st, .slice Ap p.ps.length cp, i64 p.mr, .slice At p.tx.length ct] [i64 p.st, .slice Ap p.ps.length cp, i64 p.mr, .slice At p.tx.length ct]
  refine bodyPost_ret (v := .tuple #[.agg #[i64 p.st, .slice Ap p.ps.length cp, i64 p.mr, .slice At p.tx.length ct], .slice (some ⟨w.heap.size + 2, 0, none⟩) 0 0]) (HX.res2 (fn := Try.f31) (t := 4) (u := 5) rfl rfl rfl hu (by kernel_rfl)) rfl ?_
  rw [show stepF p r = (p, []) from hf]
  exact ⟨_, _, _, [], rfl, rfl, HX.tail.drop1.pull2.pull2, B0.out _ _ _⟩

set_option maxRecDepth 100000 in
set_option maxHeartbeats 1000000 in
theorem l6Step_5_92 (base : Nat) (p : Pars) (r : Int) (vp vt : Value) (L : List Atm) (w : World) (hbase : base ≤ w.heap.size) (hp : p.Fit)
    (h : Own base w (rowI vp p.ps :: rowI vt p.tx :: L)) (h5 : p.st = 5) (h92 : r = 92) :
    Calls Try.prog 31 #[parsV p vp vt, i64 r] w fun e w' => SpecPost base (stepF p r) L e w' w := by
  obtain ⟨Ap, cp, rfl, -, -⟩ := h.rd
  obtain ⟨At, ct, rfl, -, -⟩ := h.pull1.rd
  have hu := Try.underlying26
  have hua := Try.underlying53
  have sP := szP
  have zP := zvP
  have sA := szA
  have zA := zvA
  have HH := Aside0.mk (three0 hbase h)
  have H0 := Aside0.mk (HH.out [i64 p.st, .slice Ap p.ps.length cp, i64 p.mr, .slice At p.tx.length ct] [i64 0, nilS, i64 0, nilS])
  have B0 := Aside0.mk (three0_below (Below.refl base w) hbase)
  clear h
  have hf : Hid (stepF p r = (stateP 1, [⟨5, 0, [], 0, p.tx⟩])) := by simp [stepF, endedF, h5, h92, Hid]
  have q4 : (p.st == 4) = false := beq_eq_false_iff_ne.2 (by omega)
  have q5 : (p.st == 5) = true := beq_iff_eq.2 h5
  have q92 : (r == 92) = true := beq_iff_eq.2 h92
  clear h5 h92 hp
  unfold parsV
  go_enter Try.func31, Try.ntmps31
  go_wp2_with fail
  generalize hw3 : (((w.alloc (.cells #[i64 p.st, .slice Ap p.ps.length cp, i64 p.mr, .slice At p.tx.length ct] 26)).alloc (.cells #[i64 0, nilS, i64 0, nilS] 26)).alloc (.cells #[] 53)) = w3
  have H3 := own_eq H0.out hw3
  have B3 := Aside0.mk (below_eq (B0.out _ _ _) hw3)
  clear hw3 H0 B0 HH
  have hlt : w.heap.size + 1 < w3.heap.size := H3.block_lt
  obtain ⟨⟨s0, s1, s2, s3⟩, t0, t1, t2, t3⟩ := H3.c4
  obtain ⟨⟨r0, r1, r2, r3⟩, u0, u1, u2, u3⟩ := H3.pull2.c4
  go_region_held3 (fun w' => w'.cell? ⟨w.heap.size, 3, none⟩ = some (.slice At p.tx.length ct))
    (first
      | go_keep
      | fail)
    (first
      | (go_at_call 50; (with_reducible refine (l6State_calls 1 _).mono ?_); rintro e w4 ⟨rfl, HB4⟩
         have H4 := H3.drew.below HB4
         have B4 := Aside0.mk (B3.out.drew.trans (HB4.mono (by simp; omega)))
         have hlt4 : w.heap.size + 1 < w4.heap.size := H4.block_lt
         obtain ⟨⟨s0, s1, s2, s3⟩, t0, t1, t2, t3⟩ := H4.c4
         obtain ⟨⟨r0, r1, r2, r3⟩, u0, u1, u2, u3⟩ := H4.pull2.c4
         have HE := (H4.set4 (i64 1) nilS (i64 0) nilS).lit (by simp; omega) 53 5 1 (acCells ⟨⟨5, 0, [], 0, p.tx⟩, nilS, .slice At p.tx.length ct⟩) rfl (by omega) (b := w4.heap.size) (by simp)
         have BE := Aside0.mk ((below_set4 (b := w.heap.size + 1) B4.out (by omega) (i64 1) nilS (i64 0) nilS).alloc (by simp; omega) (.cells (acCells ⟨⟨5, 0, [], 0, p.tx⟩, nilS, .slice At p.tx.length ct⟩).toArray 53)))
      | (go_at_call 50; (with_reducible refine (l6State_calls 1 _).mono ?_); rintro e w4 ⟨rfl, HB4⟩
         have H4 := (H3.lit (by omega) 53 5 1 (acCells ⟨⟨5, 0, [], 0, p.tx⟩, nilS, .slice At p.tx.length ct⟩) rfl (by omega) rfl).drew.below HB4
         have B4 := Aside0.mk ((B3.out.alloc (by omega) _).drew.trans (HB4.mono (by simp; omega)))
         have hlt4 : w.heap.size + 1 < w4.heap.size := H4.pull1.block_lt
         obtain ⟨⟨s0, s1, s2, s3⟩, t0, t1, t2, t3⟩ := H4.pull1.c4
         obtain ⟨⟨r0, r1, r2, r3⟩, u0, u1, u2, u3⟩ := H4.pull3.c4
         have HE := (H4.pull1.set4 (i64 1) nilS (i64 0) nilS).pull1
         have BE := Aside0.mk (below_set4 (b := w.heap.size + 1) B4.out (by omega) (i64 1) nilS (i64 0) nilS)))
  all_goals
    go_wp2
    have HT := addNil (addNil (addNil HE.drop1.drop1.drop1.drop1 2 1).push1 2 1) 2 1
    have HX := HE.pull1
    first
      | (refine bodyPost_ret (v := .tuple #[.agg #[i64 1, nilS, i64 0, nilS], .slice (some ⟨w4.heap.size, 0, none⟩) 1 1]) (HX.res2 (fn := Try.f31) (t := 4) (u := 5) rfl rfl rfl hu (by kernel_rfl)) rfl ?_
         rw [show stepF p r = (stateP 1, [⟨5, 0, [], 0, p.tx⟩]) from hf]
         exact ⟨nilS, nilS, _, [⟨⟨5, 0, [], 0, p.tx⟩, nilS, .slice At p.tx.length ct⟩], rfl, rfl, HT, BE.out⟩)
      | (refine bodyPost_ret (v := .tuple #[.agg #[i64 1, nilS, i64 0, nilS], .slice (some ⟨w3.heap.size, 0, none⟩) 1 1]) (HX.res2 (fn := Try.f31) (t := 4) (u := 5) rfl rfl rfl hu (by kernel_rfl)) rfl ?_
         rw [show stepF p r = (stateP 1, [⟨5, 0, [], 0, p.tx⟩]) from hf]
         exact ⟨nilS, nilS, _, [⟨⟨5, 0, [], 0, p.tx⟩, nilS, .slice At p.tx.length ct⟩], rfl, rfl, HT, BE.out⟩)

set_option maxRecDepth 100000 in
set_option maxHeartbeats 1000000 in
theorem l6Step_5 (base : Nat) (p : Pars) (r : Int) (vp vt : Value) (L : List Atm) (w : World) (hbase : base ≤ w.heap.size) (hp : p.Fit)
    (h : Own base w (rowI vp p.ps :: rowI vt p.tx :: L)) (h5 : p.st = 5) (h92 : ¬ r = 92) :
    Calls Try.prog 31 #[parsV p vp vt, i64 r] w fun e w' => SpecPost base (stepF p r) L e w' w := by
  obtain ⟨Ap, cp, rfl, -, -⟩ := h.rd
  obtain ⟨At, ct, rfl, -, -⟩ := h.pull1.rd
  have hu := Try.underlying26
  have hua := Try.underlying53
  have sP := szP
  have zP := zvP
  have sA := szA
  have zA := zvA
  have HH := Aside0.mk (three0 hbase h)
  have H0 := Aside0.mk (HH.out [i64 p.st, .slice Ap p.ps.length cp, i64 p.mr, .slice At p.tx.length ct] [i64 0, nilS, i64 0, nilS])
  have B0 := Aside0.mk (three0_below (Below.refl base w) hbase)
  clear h
  have hf : Hid (stepF p r = (stateP 1, [])) := by simp [stepF, endedF, h5, h92, Hid]
  have q4 : (p.st == 4) = false := beq_eq_false_iff_ne.2 (by omega)
  have q5 : (p.st == 5) = true := beq_iff_eq.2 h5
  have q92 : (r == 92) = false := beq_eq_false_iff_ne.2 h92
  clear h5 h92 hp
  unfold parsV
  go_enter Try.func31, Try.ntmps31
  go_wp2_with (first
    | (go_at_call 50; go_must (refine (l6State_calls 1 _).mono ?_); rintro e w4 ⟨rfl, HB4⟩
       have H4 := H0.out.below HB4
       have B4 := Aside0.mk ((B0.out _ _ _).trans (HB4.mono (by simp; omega)))
       obtain ⟨⟨s0, s1, s2, s3⟩, t0, t1, t2, t3⟩ := H4.c4))
  refine bodyPost_ret (v := .tuple #[.agg #[i64 1, nilS, i64 0, nilS], .slice (some ⟨w.heap.size + 2, 0, none⟩) 0 0]) ((H4.set4 (i64 1) nilS (i64 0) nilS).res2 (fn := Try.f31) (t := 4) (u := 5) rfl rfl rfl hu (by kernel_rfl)) rfl ?_
  rw [show stepF p r = (stateP 1, []) from hf]
  exact ⟨nilS, nilS, _, [], rfl, rfl, addNil (addNil (H4.set4 _ _ _ _).tail.drop1.drop1.drop1 _ _) _ _, below_set4 B4.out (by omega) _ _ _ _⟩

set_option maxRecDepth 100000 in
set_option maxHeartbeats 1000000 in
theorem l6Step_27 (base : Nat) (p : Pars) (r : Int) (vp vt : Value) (L : List Atm) (w : World) (hbase : base ≤ w.heap.size) (hp : p.Fit)
    (h : Own base w (rowI vp p.ps :: rowI vt p.tx :: L)) (h4 : ¬ p.st = 4) (h5 : ¬ p.st = 5) (h27 : r = 27) :
    Calls Try.prog 31 #[parsV p vp vt, i64 r] w fun e w' => SpecPost base (stepF p r) L e w' w := by
  obtain ⟨Ap, cp, rfl, -, -⟩ := h.rd
  obtain ⟨At, ct, rfl, -, -⟩ := h.pull1.rd
  have hu := Try.underlying26
  have hua := Try.underlying53
  have sP := szP
  have zP := zvP
  have sA := szA
  have zA := zvA
  have HH := Aside0.mk (three0 hbase h)
  have H0 := Aside0.mk (HH.out [i64 p.st, .slice Ap p.ps.length cp, i64 p.mr, .slice At p.tx.length ct] [i64 0, nilS, i64 0, nilS])
  have B0 := Aside0.mk (three0_below (Below.refl base w) hbase)
  clear h
  have hf : Hid (stepF p r = (stateP 2, [])) := by simp [stepF, h4, h5, h27, Hid]
  have q4 : (p.st == 4) = false := beq_eq_false_iff_ne.2 h4
  have q5 : (p.st == 5) = false := beq_eq_false_iff_ne.2 h5
  have q27 : (r == 27) = true := beq_iff_eq.2 h27
  clear h4 h5 h27 hp
  unfold parsV
  go_enter Try.func31, Try.ntmps31
  go_wp2_with (first
    | (go_at_call 50; go_must (refine (l6State_calls 2 _).mono ?_); rintro e w4 ⟨rfl, HB4⟩
       have H4 := H0.out.below HB4
       have B4 := Aside0.mk ((B0.out _ _ _).trans (HB4.mono (by simp; omega)))
       obtain ⟨⟨s0, s1, s2, s3⟩, t0, t1, t2, t3⟩ := H4.c4))
  refine bodyPost_ret (v := .tuple #[.agg #[i64 2, nilS, i64 0, nilS], .slice (some ⟨w.heap.size + 2, 0, none⟩) 0 0]) ((H4.set4 (i64 2) nilS (i64 0) nilS).res2 (fn := Try.f31) (t := 4) (u := 5) rfl rfl rfl hu (by kernel_rfl)) rfl ?_
  rw [show stepF p r = (stateP 2, []) from hf]
  exact ⟨nilS, nilS, _, [], rfl, rfl, addNil (addNil (H4.set4 _ _ _ _).tail.drop1.drop1.drop1 _ _) _ _, below_set4 B4.out (by omega) _ _ _ _⟩

set_option maxRecDepth 100000 in
set_option maxHeartbeats 1000000 in
theorem l6Step_24 (base : Nat) (p : Pars) (r : Int) (vp vt : Value) (L : List Atm) (w : World) (hbase : base ≤ w.heap.size) (hp : p.Fit)
    (h : Own base w (rowI vp p.ps :: rowI vt p.tx :: L)) (h4 : ¬ p.st = 4) (h5 : ¬ p.st = 5) (hv : r = 24) :
    Calls Try.prog 31 #[parsV p vp vt, i64 r] w fun e w' => SpecPost base (stepF p r) L e w' w := by
  obtain ⟨Ap, cp, rfl, -, -⟩ := h.rd
  obtain ⟨At, ct, rfl, -, -⟩ := h.pull1.rd
  have hu := Try.underlying26
  have hua := Try.underlying53
  have sP := szP
  have zP := zvP
  have sA := szA
  have zA := zvA
  have HH := Aside0.mk (three0 hbase h)
  have H0 := Aside0.mk (HH.out [i64 p.st, .slice Ap p.ps.length cp, i64 p.mr, .slice At p.tx.length ct] [i64 0, nilS, i64 0, nilS])
  have B0 := Aside0.mk (three0_below (Below.refl base w) hbase)
  clear h
  have hf : Hid (stepF p r = (stateP 1, [])) := by simp [stepF, h4, h5, hv, Hid]
  have q4 : (p.st == 4) = false := beq_eq_false_iff_ne.2 h4
  have q5 : (p.st == 5) = false := beq_eq_false_iff_ne.2 h5
  have q27 : (r == 27) = false := beq_eq_false_iff_ne.2 (by omega)
  have qv : (r == 24) = true := beq_iff_eq.2 hv
  clear h4 h5 hv hp
  unfold parsV
  go_enter Try.func31, Try.ntmps31
  go_wp2_with (first
    | (go_at_call 50; go_must (refine (l6State_calls 1 _).mono ?_); rintro e w4 ⟨rfl, HB4⟩
       have H4 := H0.out.below HB4
       have B4 := Aside0.mk ((B0.out _ _ _).trans (HB4.mono (by simp; omega)))
       obtain ⟨⟨s0, s1, s2, s3⟩, t0, t1, t2, t3⟩ := H4.c4))
  refine bodyPost_ret (v := .tuple #[.agg #[i64 1, nilS, i64 0, nilS], .slice (some ⟨w.heap.size + 2, 0, none⟩) 0 0]) ((H4.set4 (i64 1) nilS (i64 0) nilS).res2 (fn := Try.f31) (t := 4) (u := 5) rfl rfl rfl hu (by kernel_rfl)) rfl ?_
  rw [show stepF p r = (stateP 1, []) from hf]
  exact ⟨nilS, nilS, _, [], rfl, rfl, addNil (addNil (H4.set4 _ _ _ _).tail.drop1.drop1.drop1 _ _) _ _, below_set4 B4.out (by omega) _ _ _ _⟩

set_option maxRecDepth 100000 in
set_option maxHeartbeats 1000000 in
theorem l6Step_26 (base : Nat) (p : Pars) (r : Int) (vp vt : Value) (L : List Atm) (w : World) (hbase : base ≤ w.heap.size) (hp : p.Fit)
    (h : Own base w (rowI vp p.ps :: rowI vt p.tx :: L)) (h4 : ¬ p.st = 4) (h5 : ¬ p.st = 5) (hv : r = 26) :
    Calls Try.prog 31 #[parsV p vp vt, i64 r] w fun e w' => SpecPost base (stepF p r) L e w' w := by
  obtain ⟨Ap, cp, rfl, -, -⟩ := h.rd
  obtain ⟨At, ct, rfl, -, -⟩ := h.pull1.rd
  have hu := Try.underlying26
  have hua := Try.underlying53
  have sP := szP
  have zP := zvP
  have sA := szA
  have zA := zvA
  have HH := Aside0.mk (three0 hbase h)
  have H0 := Aside0.mk (HH.out [i64 p.st, .slice Ap p.ps.length cp, i64 p.mr, .slice At p.tx.length ct] [i64 0, nilS, i64 0, nilS])
  have B0 := Aside0.mk (three0_below (Below.refl base w) hbase)
  clear h
  have hf : Hid (stepF p r = (stateP 1, [])) := by simp [stepF, h4, h5, hv, Hid]
  have q4 : (p.st == 4) = false := beq_eq_false_iff_ne.2 h4
  have q5 : (p.st == 5) = false := beq_eq_false_iff_ne.2 h5
  have q27 : (r == 27) = false := beq_eq_false_iff_ne.2 (by omega)
  have q24 : (r == 24) = false := beq_eq_false_iff_ne.2 (by omega)
  have qv : (r == 26) = true := beq_iff_eq.2 hv
  clear h4 h5 hv hp
  unfold parsV
  go_enter Try.func31, Try.ntmps31
  go_wp2_with (first
    | (go_at_call 50; go_must (refine (l6State_calls 1 _).mono ?_); rintro e w4 ⟨rfl, HB4⟩
       have H4 := H0.out.below HB4
       have B4 := Aside0.mk ((B0.out _ _ _).trans (HB4.mono (by simp; omega)))
       obtain ⟨⟨s0, s1, s2, s3⟩, t0, t1, t2, t3⟩ := H4.c4))
  refine bodyPost_ret (v := .tuple #[.agg #[i64 1, nilS, i64 0, nilS], .slice (some ⟨w.heap.size + 2, 0, none⟩) 0 0]) ((H4.set4 (i64 1) nilS (i64 0) nilS).res2 (fn := Try.f31) (t := 4) (u := 5) rfl rfl rfl hu (by kernel_rfl)) rfl ?_
  rw [show stepF p r = (stateP 1, []) from hf]
  exact ⟨nilS, nilS, _, [], rfl, rfl, addNil (addNil (H4.set4 _ _ _ _).tail.drop1.drop1.drop1 _ _) _ _, below_set4 B4.out (by omega) _ _ _ _⟩

set_option maxRecDepth 100000 in
set_option maxHeartbeats 1000000 in
theorem l6Step_ctl_lo (base : Nat) (p : Pars) (r : Int) (vp vt : Value) (L : List Atm) (w : World) (hbase : base ≤ w.heap.size) (hp : p.Fit)
    (h : Own base w (rowI vp p.ps :: rowI vt p.tx :: L)) (h4 : ¬ p.st = 4) (h5 : ¬ p.st = 5) (h27 : ¬ r = 27) (h24 : ¬ (r = 24 ∨ r = 26)) (hc : r < 32) :
    Calls Try.prog 31 #[parsV p vp vt, i64 r] w fun e w' => SpecPost base (stepF p r) L e w' w := by
  obtain ⟨Ap, cp, rfl, -, -⟩ := h.rd
  obtain ⟨At, ct, rfl, -, -⟩ := h.pull1.rd
  have hu := Try.underlying26
  have hua := Try.underlying53
  have sP := szP
  have zP := zvP
  have sA := szA
  have zA := zvA
  have HH := Aside0.mk (three0 hbase h)
  have H0 := Aside0.mk (HH.out [i64 p.st, .slice Ap p.ps.length cp, i64 p.mr, .slice At p.tx.length ct] [i64 0, nilS, i64 0, nilS])
  have B0 := Aside0.mk (three0_below (Below.refl base w) hbase)
  clear h
  have hk : controlB r = true := by simp [controlB, hc]
  have hf : Hid (stepF p r = (p, [⟨2, r, [], 0, []⟩])) := by simp [stepF, h4, h5, h27, h24, hk, Hid]
  have q4 : (p.st == 4) = false := beq_eq_false_iff_ne.2 h4
  have q5 : (p.st == 5) = false := beq_eq_false_iff_ne.2 h5
  have q27 : (r == 27) = false := beq_eq_false_iff_ne.2 h27
  have q24 : (r == 24) = false := beq_eq_false_iff_ne.2 fun e => h24 (.inl e)
  have q26 : (r == 26) = false := beq_eq_false_iff_ne.2 fun e => h24 (.inr e)
  clear h4 h5 h27 h24 hp hk
  unfold parsV
  go_enter Try.func31, Try.ntmps31
  go_wp2_with (first
    | (go_at_call 53; go_must (refine (spec_Width _ _).mono ?_); rintro e w' ⟨rfl, rfl⟩))
  have HE := (HH.out [i64 p.st, .slice Ap p.ps.length cp, i64 p.mr, .slice At p.tx.length ct] [i64 p.st, .slice Ap p.ps.length cp, i64 p.mr, .slice At p.tx.length ct]).lit (by simp; omega) 53 5 1 (acCells ⟨⟨2, r, [], 0, []⟩, nilS, nilS⟩) rfl (by omega) (b := w.heap.size + 3) (by simp)
  refine bodyPost_ret (v := .tuple #[.agg #[i64 p.st, .slice Ap p.ps.length cp, i64 p.mr, .slice At p.tx.length ct], .slice (some ⟨w.heap.size + 3, 0, none⟩) 1 1]) (HE.pull1.res2 (fn := Try.f31) (t := 4) (u := 5) rfl rfl rfl hu (by kernel_rfl)) rfl ?_
  rw [show stepF p r = (p, [⟨2, r, [], 0, []⟩]) from hf]
  have HT := (addNil (addNil HE.drop1.drop1.drop1 2 1) 2 1).pull2.pull4.pull4
  exact ⟨_, _, _, [⟨⟨2, r, [], 0, []⟩, nilS, nilS⟩], rfl, rfl, HT, (B0.out _ _ _).alloc (by simp; omega) _⟩

set_option maxRecDepth 100000 in
set_option maxHeartbeats 1000000 in
theorem l6Step_ctl_hi (base : Nat) (p : Pars) (r : Int) (vp vt : Value) (L : List Atm) (w : World) (hbase : base ≤ w.heap.size) (hp : p.Fit)
    (h : Own base w (rowI vp p.ps :: rowI vt p.tx :: L)) (h4 : ¬ p.st = 4) (h5 : ¬ p.st = 5) (h27 : ¬ r = 27) (h24 : ¬ (r = 24 ∨ r = 26)) (hc1 : ¬ r < 32) (hc : r = 127) :
    Calls Try.prog 31 #[parsV p vp vt, i64 r] w fun e w' => SpecPost base (stepF p r) L e w' w := by
  obtain ⟨Ap, cp, rfl, -, -⟩ := h.rd
  obtain ⟨At, ct, rfl, -, -⟩ := h.pull1.rd
  have hu := Try.underlying26
  have hua := Try.underlying53
  have sP := szP
  have zP := zvP
  have sA := szA
  have zA := zvA
  have HH := Aside0.mk (three0 hbase h)
  have H0 := Aside0.mk (HH.out [i64 p.st, .slice Ap p.ps.length cp, i64 p.mr, .slice At p.tx.length ct] [i64 0, nilS, i64 0, nilS])
  have B0 := Aside0.mk (three0_below (Below.refl base w) hbase)
  clear h
  have hk : controlB r = true := by simp [controlB, hc]
  have hf : Hid (stepF p r = (p, [⟨2, r, [], 0, []⟩])) := by simp [stepF, h4, h5, h27, h24, hk, Hid]
  have q4 : (p.st == 4) = false := beq_eq_false_iff_ne.2 h4
  have q5 : (p.st == 5) = false := beq_eq_false_iff_ne.2 h5
  have q27 : (r == 27) = false := beq_eq_false_iff_ne.2 h27
  have q24 : (r == 24) = false := beq_eq_false_iff_ne.2 fun e => h24 (.inl e)
  have q26 : (r == 26) = false := beq_eq_false_iff_ne.2 fun e => h24 (.inr e)
  have q127 : (r == 127) = true := beq_iff_eq.2 hc
  clear hc
  clear h4 h5 h27 h24 hp hk
  unfold parsV
  go_enter Try.func31, Try.ntmps31
  go_wp2_with (first
    | (go_at_call 53; go_must (refine (spec_Width _ _).mono ?_); rintro e w' ⟨rfl, rfl⟩))
  have HE := (HH.out [i64 p.st, .slice Ap p.ps.length cp, i64 p.mr, .slice At p.tx.length ct] [i64 p.st, .slice Ap p.ps.length cp, i64 p.mr, .slice At p.tx.length ct]).lit (by simp; omega) 53 5 1 (acCells ⟨⟨2, r, [], 0, []⟩, nilS, nilS⟩) rfl (by omega) (b := w.heap.size + 3) (by simp)
  refine bodyPost_ret (v := .tuple #[.agg #[i64 p.st, .slice Ap p.ps.length cp, i64 p.mr, .slice At p.tx.length ct], .slice (some ⟨w.heap.size + 3, 0, none⟩) 1 1]) (HE.pull1.res2 (fn := Try.f31) (t := 4) (u := 5) rfl rfl rfl hu (by kernel_rfl)) rfl ?_
  rw [show stepF p r = (p, [⟨2, r, [], 0, []⟩]) from hf]
  have HT := (addNil (addNil HE.drop1.drop1.drop1 2 1) 2 1).pull2.pull4.pull4
  exact ⟨_, _, _, [⟨⟨2, r, [], 0, []⟩, nilS, nilS⟩], rfl, rfl, HT, (B0.out _ _ _).alloc (by simp; omega) _⟩

set_option maxRecDepth 100000 in
set_option maxHeartbeats 1000000 in
theorem l6Step_2 (base : Nat) (p : Pars) (r : Int) (vp vt : Value) (L : List Atm) (w : World) (hbase : base ≤ w.heap.size) (hp : p.Fit)
    (h : Own base w (rowI vp p.ps :: rowI vt p.tx :: L)) (h4 : ¬ p.st = 4) (h5 : ¬ p.st = 5) (h27 : ¬ r = 27) (h24 : ¬ (r = 24 ∨ r = 26)) (hc : controlB r = false) (h2 : p.st = 2) :
    Calls Try.prog 31 #[parsV p vp vt, i64 r] w fun e w' => SpecPost base (stepF p r) L e w' w := by
  obtain ⟨Ap, cp, rfl, -, -⟩ := h.rd
  obtain ⟨At, ct, rfl, -, -⟩ := h.pull1.rd
  have hu := Try.underlying26
  have hua := Try.underlying53
  have sP := szP
  have zP := zvP
  have sA := szA
  have zA := zvA
  have HH := Aside0.mk (three0 hbase h)
  have H0 := Aside0.mk (HH.out [i64 p.st, .slice Ap p.ps.length cp, i64 p.mr, .slice At p.tx.length ct] [i64 0, nilS, i64 0, nilS])
  have B0 := Aside0.mk (three0_below (Below.refl base w) hbase)
  clear h
  have hf : Hid (stepF p r = escapedF r) := by simp [stepF, h27, h24, hc, h2, Hid]
  have q4 : (p.st == 4) = false := beq_eq_false_iff_ne.2 h4
  have q5 : (p.st == 5) = false := beq_eq_false_iff_ne.2 h5
  have q27 : (r == 27) = false := beq_eq_false_iff_ne.2 h27
  have q24 : (r == 24) = false := beq_eq_false_iff_ne.2 fun e => h24 (.inl e)
  have q26 : (r == 26) = false := beq_eq_false_iff_ne.2 fun e => h24 (.inr e)
  have h32 : ¬ r < 32 := fun e => by simp [controlB, e] at hc
  have q127 : (r == 127) = false := beq_eq_false_iff_ne.2 fun e => by simp [controlB, e] at hc
  have q2 : (p.st == 2) = true := beq_iff_eq.2 h2
  clear h4 h5 h27 h24 hp hc h2
  unfold parsV
  go_enter Try.func31, Try.ntmps31
  go_wp2_with (first
    | (go_at_call 51; go_must (refine (l6Escape_calls base r _ _ (by simp; omega) H0.out).mono ?_); rintro e w4 ⟨vp4, vt4, va, l, rfl, hl, HS, HB⟩
       obtain ⟨A4, c4, rfl, -, -⟩ := HS.rd
       obtain ⟨A5, c5, rfl, -, -⟩ := HS.pull1.rd
       have HX := own_res HS
       obtain ⟨⟨s0, s1, s2, s3⟩, t0, t1, t2, t3⟩ := HX.c4))
  generalize hF : escapedF r = F at *
  have HY := HX.set4 (i64 F.1.st) (.slice A4 F.1.ps.length c4) (i64 F.1.mr) (.slice A5 F.1.tx.length c5)
  refine bodyPost_ret (v := .tuple #[.agg #[i64 F.1.st, .slice A4 F.1.ps.length c4, i64 F.1.mr, .slice A5 F.1.tx.length c5], va]) (HY.res2 (fn := Try.f31) (t := 4) (u := 5) rfl rfl rfl hu (by kernel_rfl)) rfl ?_
  rw [show stepF p r = F from hf]
  exact ⟨_, _, va, l, rfl, hl, own_skip (own_skip (own_skip (own_skip (A := rowI _ _ :: rowI _ _ :: acsAt va l) HY.tail))), below_set4 ((B0.out _ _ _).trans HB) (by omega) _ _ _ _⟩

set_option maxRecDepth 100000 in
set_option maxHeartbeats 1000000 in
theorem l6Step_3 (base : Nat) (p : Pars) (r : Int) (vp vt : Value) (L : List Atm) (w : World) (hbase : base ≤ w.heap.size) (hp : p.Fit)
    (h : Own base w (rowI vp p.ps :: rowI vt p.tx :: L)) (h4 : ¬ p.st = 4) (h5 : ¬ p.st = 5) (h27 : ¬ r = 27) (h24 : ¬ (r = 24 ∨ r = 26)) (hc : controlB r = false) (h3 : p.st = 3) :
    Calls Try.prog 31 #[parsV p vp vt, i64 r] w fun e w' => SpecPost base (stepF p r) L e w' w := by
  obtain ⟨Ap, cp, rfl, -, -⟩ := h.rd
  obtain ⟨At, ct, rfl, -, -⟩ := h.pull1.rd
  have hu := Try.underlying26
  have hua := Try.underlying53
  have sP := szP
  have zP := zvP
  have sA := szA
  have zA := zvA
  have HH := Aside0.mk (three0 hbase h)
  have H0 := Aside0.mk (HH.out [i64 p.st, .slice Ap p.ps.length cp, i64 p.mr, .slice At p.tx.length ct] [i64 0, nilS, i64 0, nilS])
  have B0 := Aside0.mk (three0_below (Below.refl base w) hbase)
  clear h
  have hf : Hid (stepF p r = moreF p r) := by simp [stepF, h27, h24, hc, h3, Hid]
  have q4 : (p.st == 4) = false := beq_eq_false_iff_ne.2 h4
  have q5 : (p.st == 5) = false := beq_eq_false_iff_ne.2 h5
  have q27 : (r == 27) = false := beq_eq_false_iff_ne.2 h27
  have q24 : (r == 24) = false := beq_eq_false_iff_ne.2 fun e => h24 (.inl e)
  have q26 : (r == 26) = false := beq_eq_false_iff_ne.2 fun e => h24 (.inr e)
  have h32 : ¬ r < 32 := fun e => by simp [controlB, e] at hc
  have q127 : (r == 127) = false := beq_eq_false_iff_ne.2 fun e => by simp [controlB, e] at hc
  have q2 : (p.st == 2) = false := beq_eq_false_iff_ne.2 (by omega)
  have q3 : (p.st == 3) = true := beq_iff_eq.2 h3
  have HP := Aside0.mk hp
  clear h4 h5 h27 h24 hp hc h3
  unfold parsV
  go_enter Try.func31, Try.ntmps31
  go_wp2_with (first
    | (go_at_call 52; go_must (refine (l6List_calls base p r _ _ _ _ (by simp; omega) HP.out H0.out.pull4.pull4).mono ?_); rintro e w4 ⟨vp4, vt4, va, l, rfl, hl, HS, HB⟩
       obtain ⟨A4, c4, rfl, -, -⟩ := HS.rd
       obtain ⟨A5, c5, rfl, -, -⟩ := HS.pull1.rd
       have HX := own_res HS
       obtain ⟨⟨s0, s1, s2, s3⟩, t0, t1, t2, t3⟩ := HX.c4))
  generalize hF : moreF p r = F at *
  have HY := HX.set4 (i64 F.1.st) (.slice A4 F.1.ps.length c4) (i64 F.1.mr) (.slice A5 F.1.tx.length c5)
  refine bodyPost_ret (v := .tuple #[.agg #[i64 F.1.st, .slice A4 F.1.ps.length c4, i64 F.1.mr, .slice A5 F.1.tx.length c5], va]) (HY.res2 (fn := Try.f31) (t := 4) (u := 5) rfl rfl rfl hu (by kernel_rfl)) rfl ?_
  rw [show stepF p r = F from hf]
  exact ⟨_, _, va, l, rfl, hl, own_skip (own_skip (A := rowI _ _ :: rowI _ _ :: acsAt va l) HY.tail), below_set4 ((B0.out _ _ _).trans HB) (by omega) _ _ _ _⟩

set_option maxRecDepth 100000 in
set_option maxHeartbeats 1000000 in
theorem l6Step_wide (base : Nat) (p : Pars) (r : Int) (vp vt : Value) (L : List Atm) (w : World) (hbase : base ≤ w.heap.size) (hp : p.Fit)
    (h : Own base w (rowI vp p.ps :: rowI vt p.tx :: L)) (h4 : ¬ p.st = 4) (h5 : ¬ p.st = 5) (h27 : ¬ r = 27) (h24 : ¬ (r = 24 ∨ r = 26)) (hc : controlB r = false) (h2 : ¬ p.st = 2) (h3 : ¬ p.st = 3) (hw : 0 < widthF r) :
    Calls Try.prog 31 #[parsV p vp vt, i64 r] w fun e w' => SpecPost base (stepF p r) L e w' w := by
  obtain ⟨Ap, cp, rfl, -, -⟩ := h.rd
  obtain ⟨At, ct, rfl, -, -⟩ := h.pull1.rd
  have hu := Try.underlying26
  have hua := Try.underlying53
  have sP := szP
  have zP := zvP
  have sA := szA
  have zA := zvA
  have HH := Aside0.mk (three0 hbase h)
  have H0 := Aside0.mk (HH.out [i64 p.st, .slice Ap p.ps.length cp, i64 p.mr, .slice At p.tx.length ct] [i64 0, nilS, i64 0, nilS])
  have B0 := Aside0.mk (three0_below (Below.refl base w) hbase)
  clear h
  have hf : Hid (stepF p r = (p, [⟨1, r, [], 0, []⟩])) := by simp [stepF, h4, h5, h27, h24, hc, h2, h3, hw, Hid]
  have q4 : (p.st == 4) = false := beq_eq_false_iff_ne.2 h4
  have q5 : (p.st == 5) = false := beq_eq_false_iff_ne.2 h5
  have q27 : (r == 27) = false := beq_eq_false_iff_ne.2 h27
  have q24 : (r == 24) = false := beq_eq_false_iff_ne.2 fun e => h24 (.inl e)
  have q26 : (r == 26) = false := beq_eq_false_iff_ne.2 fun e => h24 (.inr e)
  have h32 : ¬ r < 32 := fun e => by simp [controlB, e] at hc
  have q127 : (r == 127) = false := beq_eq_false_iff_ne.2 fun e => by simp [controlB, e] at hc
  have q2 : (p.st == 2) = false := beq_eq_false_iff_ne.2 h2
  have q3 : (p.st == 3) = false := beq_eq_false_iff_ne.2 h3
  clear h4 h5 h27 h24 hp hc h2 h3
  unfold parsV
  go_enter Try.func31, Try.ntmps31
  go_wp2_with (first
    | (go_at_call 53; go_must (refine (spec_Width _ _).mono ?_); rintro e w' ⟨rfl, rfl⟩))
  have HE := (HH.out [i64 p.st, .slice Ap p.ps.length cp, i64 p.mr, .slice At p.tx.length ct] [i64 p.st, .slice Ap p.ps.length cp, i64 p.mr, .slice At p.tx.length ct]).lit (by simp; omega) 53 5 1 (acCells ⟨⟨1, r, [], 0, []⟩, nilS, nilS⟩) rfl (by omega) (b := w.heap.size + 3) (by simp)
  refine bodyPost_ret (v := .tuple #[.agg #[i64 p.st, .slice Ap p.ps.length cp, i64 p.mr, .slice At p.tx.length ct], .slice (some ⟨w.heap.size + 3, 0, none⟩) 1 1]) (HE.pull1.res2 (fn := Try.f31) (t := 4) (u := 5) rfl rfl rfl hu (by kernel_rfl)) rfl ?_
  rw [show stepF p r = (p, [⟨1, r, [], 0, []⟩]) from hf]
  have HT := (addNil (addNil HE.drop1.drop1.drop1 2 1) 2 1).pull2.pull4.pull4
  exact ⟨_, _, _, [⟨⟨1, r, [], 0, []⟩, nilS, nilS⟩], rfl, rfl, HT, (B0.out _ _ _).alloc (by simp; omega) _⟩

set_option maxRecDepth 100000 in
set_option maxHeartbeats 1000000 in
theorem l6Step_none (base : Nat) (p : Pars) (r : Int) (vp vt : Value) (L : List Atm) (w : World) (hbase : base ≤ w.heap.size) (hp : p.Fit)
    (h : Own base w (rowI vp p.ps :: rowI vt p.tx :: L)) (h4 : ¬ p.st = 4) (h5 : ¬ p.st = 5) (h27 : ¬ r = 27) (h24 : ¬ (r = 24 ∨ r = 26)) (hc : controlB r = false) (h2 : ¬ p.st = 2) (h3 : ¬ p.st = 3) (hw : ¬ 0 < widthF r) :
    Calls Try.prog 31 #[parsV p vp vt, i64 r] w fun e w' => SpecPost base (stepF p r) L e w' w := by
  obtain ⟨Ap, cp, rfl, -, -⟩ := h.rd
  obtain ⟨At, ct, rfl, -, -⟩ := h.pull1.rd
  have hu := Try.underlying26
  have hua := Try.underlying53
  have sP := szP
  have zP := zvP
  have sA := szA
  have zA := zvA
  have HH := Aside0.mk (three0 hbase h)
  have H0 := Aside0.mk (HH.out [i64 p.st, .slice Ap p.ps.length cp, i64 p.mr, .slice At p.tx.length ct] [i64 0, nilS, i64 0, nilS])
  have B0 := Aside0.mk (three0_below (Below.refl base w) hbase)
  clear h
  have hf : Hid (stepF p r = (p, [])) := by simp [stepF, h4, h5, h27, h24, hc, h2, h3, hw, Hid]
  have q4 : (p.st == 4) = false := beq_eq_false_iff_ne.2 h4
  have q5 : (p.st == 5) = false := beq_eq_false_iff_ne.2 h5
  have q27 : (r == 27) = false := beq_eq_false_iff_ne.2 h27
  have q24 : (r == 24) = false := beq_eq_false_iff_ne.2 fun e => h24 (.inl e)
  have q26 : (r == 26) = false := beq_eq_false_iff_ne.2 fun e => h24 (.inr e)
  have h32 : ¬ r < 32 := fun e => by simp [controlB, e] at hc
  have q127 : (r == 127) = false := beq_eq_false_iff_ne.2 fun e => by simp [controlB, e] at hc
  have q2 : (p.st == 2) = false := beq_eq_false_iff_ne.2 h2
  have q3 : (p.st == 3) = false := beq_eq_false_iff_ne.2 h3
  clear h4 h5 h27 h24 hp hc h2 h3
  unfold parsV
  go_enter Try.func31, Try.ntmps31
  go_wp2_with (first
    | (go_at_call 53; go_must (refine (spec_Width _ _).mono ?_); rintro e w' ⟨rfl, rfl⟩))
  have HX := HH.out [i64 p.st, .slice Ap p.ps.length cp, i64 p.mr, .slice At p.tx.length ct] [i64 p.st, .slice Ap p.ps.length cp, i64 p.mr, .slice At p.tx.length ct]
  refine bodyPost_ret (v := .tuple #[.agg #[i64 p.st, .slice Ap p.ps.length cp, i64 p.mr, .slice At p.tx.length ct], .slice (some ⟨w.heap.size + 2, 0, none⟩) 0 0]) (HX.res2 (fn := Try.f31) (t := 4) (u := 5) rfl rfl rfl hu (by kernel_rfl)) rfl ?_
  rw [show stepF p r = (p, []) from hf]
  exact ⟨_, _, _, [], rfl, rfl, HX.tail.drop1.pull2.pull2, B0.out _ _ _⟩

theorem l6Step_calls (base : Nat) (p : Pars) (r : Int) (vp vt : Value) (L : List Atm) (w : World) (hbase : base ≤ w.heap.size) (hp : p.Fit)
    (h : Own base w (rowI vp p.ps :: rowI vt p.tx :: L)) :
    Calls Try.prog 31 #[parsV p vp vt, i64 r] w fun e w' => SpecPost base (stepF p r) L e w' w := by
  by_cases h4 : p.st = 4
  · by_cases h7 : r = 7
    · exact l6Step_4_7 base p r vp vt L w hbase hp h h4 h7
    by_cases h27 : r = 27
    · exact l6Step_4_27 base p r vp vt L w hbase hp h h4 h27
    by_cases h40 : p.tx.length < 40
    · exact l6Step_4_more base p r vp vt L w hbase hp h h4 h7 h27 h40
    · exact l6Step_4_full base p r vp vt L w hbase hp h h4 h7 h27 h40
  by_cases h5 : p.st = 5
  · by_cases h92 : r = 92
    · exact l6Step_5_92 base p r vp vt L w hbase hp h h5 h92
    · exact l6Step_5 base p r vp vt L w hbase hp h h5 h92
  by_cases h27 : r = 27
  · exact l6Step_27 base p r vp vt L w hbase hp h h4 h5 h27
  by_cases h24 : r = 24
  · exact l6Step_24 base p r vp vt L w hbase hp h h4 h5 h24
  by_cases h26 : r = 26
  · exact l6Step_26 base p r vp vt L w hbase hp h h4 h5 h26
  have h24' : ¬ (r = 24 ∨ r = 26) := fun e => e.elim h24 h26
  cases hc : controlB r with
  | true =>
    by_cases h32 : r < 32
    · exact l6Step_ctl_lo base p r vp vt L w hbase hp h h4 h5 h27 h24' h32
    · exact l6Step_ctl_hi base p r vp vt L w hbase hp h h4 h5 h27 h24' h32 (by simpa [controlB, h32] using hc)
  | false =>
    by_cases h2 : p.st = 2
    · exact l6Step_2 base p r vp vt L w hbase hp h h4 h5 h27 h24' hc h2
    by_cases h3 : p.st = 3
    · exact l6Step_3 base p r vp vt L w hbase hp h h4 h5 h27 h24' hc h3
    by_cases hw : 0 < widthF r
    · exact l6Step_wide base p r vp vt L w hbase hp h h4 h5 h27 h24' hc h2 h3 hw
    · exact l6Step_none base p r vp vt L w hbase hp h h4 h5 h27 h24' hc h2 h3 hw
end Go.Proofs.Ytecjokjmmejinaa
