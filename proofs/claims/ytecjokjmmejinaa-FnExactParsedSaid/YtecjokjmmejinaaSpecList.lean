/- spec's l6List. -/
import Derived.Test.YtecjokjmmejinaaSpecPars
namespace Go.Proofs.Ytecjokjmmejinaa
open Go.RowKit SL

/-- The argument's box, the result's, the empty list. -/
theorem three0 {base : Nat} {L : List Atm} {w : World} (hbase : base ≤ w.heap.size) (H : Own base w L) (cs zs : List Value) :
    Own base (((w.alloc (.cells cs.toArray 26)).alloc (.cells zs.toArray 26)).alloc (.cells #[] 53))
      (cellsAt (w.heap.size + 1) 26 zs :: row 53 5 (.slice (some ⟨w.heap.size + 2, 0, none⟩) 0 0) 0 [] :: cellsAt w.heap.size 26 cs :: L) := by
  have h0 := (H.alloc hbase cs 26 rfl).alloc (by simp; omega) zs 26 (b := w.heap.size + 1) (by simp)
  have h2 := h0.addRow ((Below.refl _ _).alloc (Nat.le_refl _) (.cells #[] 53)) (by simp; omega) (World.ownsRow_made _ #[] 0 (Nat.le_refl _) (Nat.zero_le _) (by simp) (e := 53) (size := 5))
  simpa using h2.pull1
theorem three0_below {base : Nat} {a w : World} (hb : Below base a w) (hbase : base ≤ w.heap.size) (o o' o'' : Obj) : Below base a (((w.alloc o).alloc o').alloc o'') := ((hb.alloc hbase _).alloc (by simp; omega) _).alloc (by simp; omega) _

theorem own_eq {base : Nat} {L : List Atm} {w w' : World} (h : Own base w L) (e : w = w') : Own base w' L := e ▸ h
theorem g_ne {base : Nat} {w : World} {L : List Atm} {e : TypeId} {sz n m g o c b : Nat} {T : TypeId} {cs inner : List Value} (h : Own base w (row e sz (.slice (some ⟨g, o, none⟩) m c) n inner :: cellsAt b T cs :: L)) : g ≠ b := by
  obtain ⟨F, ⟨F1, F2, rfl, ⟨rfl, _⟩, G1, G2, rfl, ⟨rfl, _⟩, _⟩, hn, _⟩ := h
  rintro rfl
  simp [Value.ownBlock] at hn
theorem below_eq {base : Nat} {a w w' : World} (h : Below base a w) (e : w = w') : Below base a w' := e ▸ h

set_option maxRecDepth 100000 in
set_option maxHeartbeats 1000000 in
theorem l6List_63 (base : Nat) (p : Pars) (r : Int) (vp vt : Value) (L : List Atm) (w : World) (hbase : base ≤ w.heap.size) (hp : p.Fit)
    (h : Own base w (rowI vp p.ps :: rowI vt p.tx :: L)) (hq : r = 63 ∧ p.ps.length = 0 ∧ p.mr = 0) :
    Calls Try.prog 52 #[parsV p vp vt, i64 r] w fun e w' => SpecPost base (moreF p r) L e w' w := by
  obtain ⟨Ap, cp, rfl, -, -⟩ := h.rd
  obtain ⟨At, ct, rfl, -, -⟩ := h.pull1.rd
  have hu := Try.underlying26
  have hua := Try.underlying53
  have sP := szP
  have zP := zvP
  have sA := szA
  have zA := zvA
  have HH := Aside0.mk (three0 hbase h)
  have H0 := Aside0.mk (HH.out [i64 p.st, .slice Ap p.ps.length cp, i64 p.mr, .slice At p.tx.length ct] [i64 0, nilS, i64 0, nilS])
  have B0 := Aside0.mk (three0_below (Below.refl base w) hbase)
  have HW := Aside0.mk h
  clear h
  obtain ⟨rfl, hl, hm⟩ := hq
  have hf : Hid (moreF p 63 = ({ p with mr := 63 }, [])) := by simp [moreF, hl, hm, Hid]
  obtain ⟨st, ps, mr, tx⟩ := p
  obtain rfl : ps = [] := List.eq_nil_of_length_eq_zero hl
  obtain rfl : mr = 0 := hm
  unfold parsV
  go_enter Try.func52, Try.ntmps52
  go_wp2
  have HX := HH.out [i64 st, .slice Ap 0 cp, i64 63, .slice At tx.length ct] [i64 st, .slice Ap 0 cp, i64 63, .slice At tx.length ct]
  refine bodyPost_ret (v := .tuple #[.agg #[i64 st, .slice Ap 0 cp, i64 63, .slice At tx.length ct], .slice (some ⟨w.heap.size + 2, 0, none⟩) 0 0]) (HX.res2 (fn := Try.f52) (t := 4) (u := 5) rfl rfl rfl hu (by kernel_rfl)) rfl ?_
  rw [show moreF ⟨st, [], 0, tx⟩ 63 = (⟨st, [], 63, tx⟩, []) from hf]
  exact ⟨_, _, _, [], rfl, rfl, HX.tail.drop1.pull2.pull2, B0.out _ _ _⟩

set_option maxRecDepth 100000 in
set_option maxHeartbeats 1000000 in
theorem l6List_digit0 (base : Nat) (p : Pars) (r : Int) (vp vt : Value) (L : List Atm) (w : World) (hbase : base ≤ w.heap.size) (hp : p.Fit)
    (h : Own base w (rowI vp p.ps :: rowI vt p.tx :: L)) (hd : inB r 48 57 = true) (hl : p.ps.length = 0) :
    Calls Try.prog 52 #[parsV p vp vt, i64 r] w fun e w' => SpecPost base (moreF p r) L e w' w := by
  obtain ⟨Ap, cp, rfl, -, -⟩ := h.rd
  obtain ⟨At, ct, rfl, -, -⟩ := h.pull1.rd
  have hu := Try.underlying26
  have hua := Try.underlying53
  have sP := szP
  have zP := zvP
  have sA := szA
  have zA := zvA
  have HH := Aside0.mk (three0 hbase h)
  have H0 := Aside0.mk (HH.out [i64 p.st, .slice Ap p.ps.length cp, i64 p.mr, .slice At p.tx.length ct] [i64 0, nilS, i64 0, nilS])
  have B0 := Aside0.mk (three0_below (Below.refl base w) hbase)
  have HW := Aside0.mk h
  clear h
  have hd2 := inB_iff.1 hd
  have hn63 : (r == 63) = false := beq_eq_false_iff_ne.2 (by omega)
  have hm63 : ¬ r = 63 := by omega
  obtain ⟨st, ps, mr, tx⟩ := p
  obtain rfl : ps = [] := List.eq_nil_of_length_eq_zero hl
  have hf : Hid (moreF ⟨st, [], mr, tx⟩ r = (⟨st, [min 9999 (r - 48)], mr, tx⟩, [])) := by
    have e : min 9999 (r - 48) = min (r - 48) 9999 := by omega
    rw [e]; simp [moreF, hd, hm63, some0, digitL, Hid]
  clear hl hp HH HW
  unfold parsV
  go_enter Try.func52, Try.ntmps52
  go_wp2_with (first
    | (go_at_call 49; go_must (refine (spec_l1In _ _ _ _).mono ?_); rintro e w3 ⟨rfl, hw3⟩
       have H3 := own_eq H0.out hw3
       have B3 := Aside0.mk (below_eq (B0.out _ _ _) hw3)
       clear hw3
       have hlt : w.heap.size + 1 < w3.heap.size := H3.block_lt
       obtain ⟨⟨s0, s1, s2, s3⟩, t0, t1, t2, t3⟩ := H3.c4
       obtain ⟨⟨r0, r1, r2, r3⟩, u0, u1, u2, u3⟩ := H3.pull2.c4
       have R2 := Aside0.mk (Rd.box w3 (nums [0]) 2 (b := w3.heap.size) rfl)
       have H2 := Aside0.mk (H3.pull3.below ((Below.refl _ _).alloc (Nat.le_refl _) (.cells #[i64 0] 2)))
       have B2 := Aside0.mk (B3.out.alloc (by omega) (.cells #[i64 0] 2)))
    | (go_at_call 49; go_must (refine (spec_l1In _ _ _ _).mono ?_); rintro e w' ⟨rfl, rfl⟩)
    | (at_builtin; go_must (refine ap_row elI rfl _ _ rfl _ 0 [] rfl H2.out _ 1 1 (nums [0]) rfl rfl R2.out (nums_one _) (fun h => by cases h) (by omega) (by simp; omega) ?_); rintro v' w1 HS HB -
       obtain ⟨g, c', rfl, hg, hgl, hc, hfz⟩ := HS.form (by omega)
       have hcl : w1.cell? ⟨g, 0, none⟩ = some (i64 0) := hc 0 (by omega)
       have hfl : w1.frozen? ⟨g, 0, none⟩ = false := hfz 0
       have hne := HS.pull3.pull1.ne_cells
       have hne1 := HS.pull1.pull1.ne_cells
       obtain ⟨⟨s0, s1, s2, s3⟩, t0, t1, t2, t3⟩ := HS.pull1.c4
       obtain ⟨⟨r0, r1, r2, r3⟩, u0, u1, u2, u3⟩ := HS.pull3.c4
       clear hc hfz))
  go_region_with (first
    | (go_at_call 66; (with_reducible refine (l1Min_calls 9999 _ _).mono ?_); rintro e w' ⟨rfl, rfl⟩))
  all_goals
    go_wp2
    have HE := (((HS.pull3.setCell 1 (.slice (some ⟨g, 0, none⟩) 1 c')).pull1.store 0 (i64 (min 9999 (r - 48)))).pull2.set4 (i64 st) (.slice (some ⟨g, 0, none⟩) 1 c') (i64 mr) (.slice At tx.length ct)).drew
    refine bodyPost_ret (v := .tuple #[.agg #[i64 st, .slice (some ⟨g, 0, none⟩) 1 c', i64 mr, .slice At tx.length ct], .slice (some ⟨w.heap.size + 2, 0, none⟩) 0 0]) (HE.res2 (fn := Try.f52) (t := 4) (u := 5) rfl rfl rfl hu (by kernel_rfl)) rfl ?_
    rw [show moreF ⟨st, [], mr, tx⟩ r = (⟨st, [min 9999 (r - 48)], mr, tx⟩, []) from hf]
    exact ⟨_, _, _, [], rfl, rfl, HE.tail.drop1.pull2.pull1, (below_set4 (((B2.out.trans HB).setCell hbase _).setCell hg _) (by omega) _ _ _ _).drew⟩

set_option maxRecDepth 100000 in
set_option maxHeartbeats 1000000 in
theorem l6List_digit (base : Nat) (p : Pars) (r : Int) (vp vt : Value) (L : List Atm) (w : World) (hbase : base ≤ w.heap.size) (hp : p.Fit)
    (h : Own base w (rowI vp p.ps :: rowI vt p.tx :: L)) (hd : inB r 48 57 = true) (hl : ¬ p.ps.length = 0) :
    Calls Try.prog 52 #[parsV p vp vt, i64 r] w fun e w' => SpecPost base (moreF p r) L e w' w := by
  obtain ⟨Ap, cp, rfl, -, -⟩ := h.rd
  obtain ⟨At, ct, rfl, -, -⟩ := h.pull1.rd
  have hu := Try.underlying26
  have hua := Try.underlying53
  have sP := szP
  have zP := zvP
  have sA := szA
  have zA := zvA
  have HH := Aside0.mk (three0 hbase h)
  have H0 := Aside0.mk (HH.out [i64 p.st, .slice Ap p.ps.length cp, i64 p.mr, .slice At p.tx.length ct] [i64 0, nilS, i64 0, nilS])
  have B0 := Aside0.mk (three0_below (Below.refl base w) hbase)
  have HW := Aside0.mk h
  clear h
  have hd2 := inB_iff.1 hd
  have hn63 : (r == 63) = false := beq_eq_false_iff_ne.2 (by omega)
  have hm63 : ¬ r = 63 := by omega
  have hs0 : some0 p.ps = p.ps := if_neg hl
  have hf : Hid (moreF p r = ({ p with ps := digitL p.ps r }, [])) := by
    simp [moreF, hd, hm63, hs0, Hid]
  have hx := hp.nn (p.ps.getD (p.ps.length - 1) 0) (by rw [List.getD_eq_getElem?_getD, List.getElem?_eq_getElem (by omega)]; exact List.getElem_mem _)
  have hl16 := hp.ps
  obtain ⟨k, hk⟩ : ∃ k, p.ps.length = k + 1 := ⟨p.ps.length - 1, by omega⟩
  have hk1 : p.ps.length - 1 = k := by omega
  have hdg : Hid (digitL p.ps r = p.ps.set k (min 9999 (10 * p.ps.getD k 0 + r - 48))) := by
    simp only [Hid, digitL, hk1]; congr 1; omega
  have hng : (nums p.ps)[k]? = some (i64 (p.ps.getD k 0)) := nums_get (by omega)
  rw [hk1] at hx
  obtain ⟨g, c, e, hg, hgl, -, -⟩ := HW.out.form (by omega)
  simp only [Value.slice.injEq] at e
  obtain ⟨rfl, -, rfl⟩ := e
  generalize hxe : p.ps.getD k 0 = x at *
  clear hxe
  have hw1 : IntKind.i64.wrap (((k + 1 : Nat) : Int) - 1) = (k : Int) := by rw [IntKind.wrap_i64]; omega
  have hw2 : IntKind.i64.wrap ((k : Int) + 1 - 1) = (k : Int) := by rw [IntKind.wrap_i64]; omega
  have hw3 : IntKind.i64.wrap (k : Int) = (k : Int) := by rw [IntKind.wrap_i64]; omega
  have hw4 : IntKind.i64.wrap (10 * x) = 10 * x := by rw [IntKind.wrap_i64]; omega
  have hw5 : IntKind.i64.wrap (10 * x + r) = 10 * x + r := by rw [IntKind.wrap_i64]; omega
  have hw6 : IntKind.i64.wrap (10 * x + r - 48) = 10 * x + r - 48 := by rw [IntKind.wrap_i64]; omega
  clear hp HH HW hs0 hl hk1
  have HK := Aside0.mk hk
  unfold parsV
  rw [hk] at hl16 H0 ⊢
  clear hk
  go_enter Try.func52, Try.ntmps52
  go_wp2_with (first
    | (go_at_call 49; go_must (refine (spec_l1In _ _ _ _).mono ?_); rintro e w3 ⟨rfl, hw3⟩
       have H3 := own_eq H0.out hw3
       have B3 := Aside0.mk (below_eq (B0.out _ _ _) hw3)
       clear hw3
       have hlt : w.heap.size + 1 < w3.heap.size := H3.block_lt
       obtain ⟨⟨s0, s1, s2, s3⟩, t0, t1, t2, t3⟩ := H3.c4
       obtain ⟨⟨r0, r1, r2, r3⟩, u0, u1, u2, u3⟩ := H3.pull2.c4
       have H3r := H3.pull3
       obtain ⟨g', c', e', -, -, hc, hfz⟩ := H3r.form (by have := HK.out; omega)
       have hcl : w3.cell? ⟨g, k, none⟩ = some (i64 x) := by
         simp only [Value.slice.injEq] at e'
         obtain ⟨e', -, -⟩ := e'
         cases e'
         exact (hc k (by have := HK.out; omega)).trans hng
       have hfl : w3.frozen? ⟨g, k, none⟩ = false := by
         simp only [Value.slice.injEq] at e'
         obtain ⟨e', -, -⟩ := e'
         cases e'
         exact hfz k
       clear hc hfz e'
       have hne := g_ne H3r.pull3.pull1
       have hne1 := g_ne H3r)
    | (go_at_call 49; go_must (refine (spec_l1In _ _ _ _).mono ?_); rintro e w' ⟨rfl, rfl⟩))
  go_region_with (first
    | (go_at_call 66; (with_reducible refine (l1Min_calls 9999 _ _).mono ?_); rintro e w' ⟨rfl, rfl⟩))
  all_goals
    go_wp2
    have H5 := H3r
    rw [← HK.out] at H5
    have HE := ((H5.store k (i64 (min 9999 (10 * x + r - 48)))).pull1.set4 (i64 p.st) (.slice (some ⟨g, 0, none⟩) (k + 1) cp) (i64 p.mr) (.slice At p.tx.length ct)).drew
    refine bodyPost_ret (v := .tuple #[.agg #[i64 p.st, .slice (some ⟨g, 0, none⟩) (k + 1) cp, i64 p.mr, .slice At p.tx.length ct], .slice (some ⟨w.heap.size + 2, 0, none⟩) 0 0]) (HE.res2 (fn := Try.f52) (t := 4) (u := 5) rfl rfl rfl hu (by kernel_rfl)) rfl ?_
    rw [show moreF p r = ({ p with ps := digitL p.ps r }, []) from hf]
    have HT := HE.tail.drop2.pull2.pull1
    rw [rowI_set rfl, show p.ps.set k (min 9999 (10 * x + r - 48)) = digitL p.ps r from hdg.symm, HK.out] at HT
    exact ⟨_, _, _, [], rfl, rfl, HT, (below_set4 (B3.out.setCell hg _) (by omega) _ _ _ _).drew⟩

set_option maxRecDepth 100000 in
set_option maxHeartbeats 1000000 in
theorem l6List_semi0 (base : Nat) (p : Pars) (r : Int) (vp vt : Value) (L : List Atm) (w : World) (hbase : base ≤ w.heap.size) (hp : p.Fit)
    (h : Own base w (rowI vp p.ps :: rowI vt p.tx :: L)) (hr : r = 59) (hl : p.ps.length = 0) :
    Calls Try.prog 52 #[parsV p vp vt, i64 r] w fun e w' => SpecPost base (moreF p r) L e w' w := by
  obtain ⟨Ap, cp, rfl, -, -⟩ := h.rd
  obtain ⟨At, ct, rfl, -, -⟩ := h.pull1.rd
  have hu := Try.underlying26
  have hua := Try.underlying53
  have sP := szP
  have zP := zvP
  have sA := szA
  have zA := zvA
  have HH := Aside0.mk (three0 hbase h)
  have H0 := Aside0.mk (HH.out [i64 p.st, .slice Ap p.ps.length cp, i64 p.mr, .slice At p.tx.length ct] [i64 0, nilS, i64 0, nilS])
  have B0 := Aside0.mk (three0_below (Below.refl base w) hbase)
  have HW := Aside0.mk h
  clear h
  subst hr
  have hn63 : ((59 : Int) == 63) = false := rfl
  have hi : inB 59 48 57 = false := rfl
  obtain ⟨st, ps, mr, tx⟩ := p
  obtain rfl : ps = [] := List.eq_nil_of_length_eq_zero hl
  have hf : Hid (moreF ⟨st, [], mr, tx⟩ 59 = (⟨st, [0, 0], mr, tx⟩, [])) := by simp [moreF, hi, some0, Hid]
  clear hl hp HH HW
  unfold parsV
  go_enter Try.func52, Try.ntmps52
  go_wp2_with (first
    | (go_at_call 49; go_must (refine (spec_l1In _ _ _ _).mono ?_); rintro e w3 ⟨rfl, hw3⟩
       have H3 := own_eq H0.out hw3
       have B3 := Aside0.mk (below_eq (B0.out _ _ _) hw3)
       clear hw3
       have hlt : w.heap.size + 1 < w3.heap.size := H3.block_lt
       obtain ⟨⟨s0, s1, s2, s3⟩, t0, t1, t2, t3⟩ := H3.c4
       obtain ⟨⟨r0, r1, r2, r3⟩, u0, u1, u2, u3⟩ := H3.pull2.c4
       have R2 := Aside0.mk (Rd.box w3 (nums [0]) 2 (b := w3.heap.size) rfl)
       have H2 := Aside0.mk (H3.pull3.below ((Below.refl _ _).alloc (Nat.le_refl _) (.cells #[i64 0] 2)))
       have B2 := Aside0.mk (B3.out.alloc (by omega) (.cells #[i64 0] 2)))
    | (go_at_call 49; go_must (refine (spec_l1In _ _ _ _).mono ?_); rintro e w' ⟨rfl, rfl⟩)
    | (at_builtin; refine ap_row elI rfl _ _ rfl _ 0 [] rfl H2.out _ 1 1 (nums [0]) rfl rfl R2.out (nums_one _) (fun h => by cases h) (by omega) (by simp; omega) ?_; rintro v' w1 HS HB -
       obtain ⟨A', c', rfl, -, -⟩ := HS.rd
       obtain ⟨⟨s0, s1, s2, s3⟩, t0, t1, t2, t3⟩ := HS.pull1.c4
       obtain ⟨⟨r0, r1, r2, r3⟩, u0, u1, u2, u3⟩ := HS.pull3.c4
       have hs1 := HB.size
       simp at hs1
       have R4 := Aside0.mk (Rd.box (w1.setCell ⟨w.heap.size, 1, none⟩ (.slice A' 1 c')) (nums [0]) 2 (b := w1.heap.size) (by simp))
       have H4 := Aside0.mk ((HS.pull3.setCell 1 (.slice A' 1 c')).pull1.below ((Below.refl _ _).alloc (Nat.le_refl _) (.cells #[i64 0] 2)))
       have B4 := Aside0.mk (((B2.out.trans HB).setCell (p := ⟨w.heap.size, 1, none⟩) hbase (.slice A' 1 c')).alloc (by simp; omega) (.cells #[i64 0] 2)))
    | (at_builtin; go_must (refine ap_row elI rfl _ _ rfl _ 1 (nums [0]) rfl H4.out _ 1 1 (nums [0]) rfl rfl R4.out (nums_one _) (fun h => by cases h) (by omega) (by simp; omega) ?_); rintro v2 w2 HS2 HB2 -
       obtain ⟨A2, c2, rfl, -, -⟩ := HS2.rd
       obtain ⟨⟨s0, s1, s2, s3⟩, t0, t1, t2, t3⟩ := HS2.pull2.c4
       obtain ⟨⟨r0, r1, r2, r3⟩, u0, u1, u2, u3⟩ := HS2.pull1.c4))
  have HE := (HS2.pull1.setCell 1 (.slice A2 2 c2)).pull2.set4 (i64 st) (.slice A2 2 c2) (i64 mr) (.slice At tx.length ct)
  refine bodyPost_ret (v := .tuple #[.agg #[i64 st, .slice A2 2 c2, i64 mr, .slice At tx.length ct], .slice (some ⟨w.heap.size + 2, 0, none⟩) 0 0]) (HE.res2 (fn := Try.f52) (t := 4) (u := 5) rfl rfl rfl hu (by kernel_rfl)) rfl ?_
  rw [show moreF ⟨st, [], mr, tx⟩ 59 = (⟨st, [0, 0], mr, tx⟩, []) from hf]
  exact ⟨_, _, _, [], rfl, rfl, HE.tail.tail.pull2.pull1, below_set4 ((B4.out.trans HB2).setCell hbase _) (by omega) _ _ _ _⟩

set_option maxRecDepth 100000 in
set_option maxHeartbeats 1000000 in
theorem l6List_semi (base : Nat) (p : Pars) (r : Int) (vp vt : Value) (L : List Atm) (w : World) (hbase : base ≤ w.heap.size) (hp : p.Fit)
    (h : Own base w (rowI vp p.ps :: rowI vt p.tx :: L)) (hr : r = 59) (hl : ¬ p.ps.length = 0) (h16 : p.ps.length < 16) :
    Calls Try.prog 52 #[parsV p vp vt, i64 r] w fun e w' => SpecPost base (moreF p r) L e w' w := by
  obtain ⟨Ap, cp, rfl, -, -⟩ := h.rd
  obtain ⟨At, ct, rfl, -, -⟩ := h.pull1.rd
  have hu := Try.underlying26
  have hua := Try.underlying53
  have sP := szP
  have zP := zvP
  have sA := szA
  have zA := zvA
  have HH := Aside0.mk (three0 hbase h)
  have H0 := Aside0.mk (HH.out [i64 p.st, .slice Ap p.ps.length cp, i64 p.mr, .slice At p.tx.length ct] [i64 0, nilS, i64 0, nilS])
  have B0 := Aside0.mk (three0_below (Below.refl base w) hbase)
  have HW := Aside0.mk h
  clear h
  subst hr
  have hn63 : ((59 : Int) == 63) = false := rfl
  have hi : inB 59 48 57 = false := rfl
  have hs0 : some0 p.ps = p.ps := if_neg hl
  have hf : Hid (moreF p 59 = ({ p with ps := p.ps ++ [0] }, [])) := by simp [moreF, hi, hs0, h16, Hid]
  have hln : ((p.ps.length : Int) == 0) = false := beq_eq_false_iff_ne.2 (by omega)
  clear hl hp HH HW hs0
  unfold parsV
  go_enter Try.func52, Try.ntmps52
  go_wp2_with (first
    | (go_at_call 49; go_must (refine (spec_l1In _ _ _ _).mono ?_); rintro e w3 ⟨rfl, hw3⟩
       have H3 := own_eq H0.out hw3
       have B3 := Aside0.mk (below_eq (B0.out _ _ _) hw3)
       clear hw3
       have hlt : w.heap.size + 1 < w3.heap.size := H3.block_lt
       obtain ⟨⟨s0, s1, s2, s3⟩, t0, t1, t2, t3⟩ := H3.c4
       obtain ⟨⟨r0, r1, r2, r3⟩, u0, u1, u2, u3⟩ := H3.pull2.c4
       have R2 := Aside0.mk (Rd.box w3 (nums [0]) 2 (b := w3.heap.size) rfl)
       have H2 := Aside0.mk (H3.pull3.below ((Below.refl _ _).alloc (Nat.le_refl _) (.cells #[i64 0] 2)))
       have B2 := Aside0.mk (B3.out.alloc (by omega) (.cells #[i64 0] 2)))
    | (go_at_call 49; go_must (refine (spec_l1In _ _ _ _).mono ?_); rintro e w' ⟨rfl, rfl⟩)
    | (at_builtin; go_must (refine ap_row elI rfl _ _ rfl _ p.ps.length (nums p.ps) rfl H2.out _ 1 1 (nums [0]) rfl rfl R2.out (nums_one _) (fun h => by cases h) (by omega) (by simp; omega) ?_); rintro v' w1 HS HB -
       obtain ⟨A', c', rfl, -, -⟩ := HS.rd
       obtain ⟨⟨s0, s1, s2, s3⟩, t0, t1, t2, t3⟩ := HS.pull1.c4
       obtain ⟨⟨r0, r1, r2, r3⟩, u0, u1, u2, u3⟩ := HS.pull3.c4))
  have HE := (HS.pull3.setCell 1 (.slice A' (p.ps.length + 1) c')).pull2.set4 (i64 p.st) (.slice A' (p.ps.length + 1) c') (i64 p.mr) (.slice At p.tx.length ct)
  refine bodyPost_ret (v := .tuple #[.agg #[i64 p.st, .slice A' (p.ps.length + 1) c', i64 p.mr, .slice At p.tx.length ct], .slice (some ⟨w.heap.size + 2, 0, none⟩) 0 0]) (HE.res2 (fn := Try.f52) (t := 4) (u := 5) rfl rfl rfl hu (by kernel_rfl)) rfl ?_
  rw [show moreF p 59 = ({ p with ps := p.ps ++ [0] }, []) from hf]
  have HT := HE.tail.tail.pull2.pull1
  rw [rowI_snoc] at HT
  exact ⟨_, _, _, [], rfl, rfl, HT, below_set4 ((B2.out.trans HB).setCell hbase _) (by omega) _ _ _ _⟩

set_option maxRecDepth 100000 in
set_option maxHeartbeats 1000000 in
theorem l6List_full (base : Nat) (p : Pars) (r : Int) (vp vt : Value) (L : List Atm) (w : World) (hbase : base ≤ w.heap.size) (hp : p.Fit)
    (h : Own base w (rowI vp p.ps :: rowI vt p.tx :: L)) (hr : r = 59) (hl : ¬ p.ps.length < 16) :
    Calls Try.prog 52 #[parsV p vp vt, i64 r] w fun e w' => SpecPost base (moreF p r) L e w' w := by
  obtain ⟨Ap, cp, rfl, -, -⟩ := h.rd
  obtain ⟨At, ct, rfl, -, -⟩ := h.pull1.rd
  have hu := Try.underlying26
  have hua := Try.underlying53
  have sP := szP
  have zP := zvP
  have sA := szA
  have zA := zvA
  have HH := Aside0.mk (three0 hbase h)
  have H0 := Aside0.mk (HH.out [i64 p.st, .slice Ap p.ps.length cp, i64 p.mr, .slice At p.tx.length ct] [i64 0, nilS, i64 0, nilS])
  have B0 := Aside0.mk (three0_below (Below.refl base w) hbase)
  have HW := Aside0.mk h
  clear h
  subst hr
  have hn63 : ((59 : Int) == 63) = false := rfl
  have hi : inB 59 48 57 = false := rfl
  have hs0 : some0 p.ps = p.ps := if_neg (by omega)
  have hf : Hid (moreF p 59 = (p, [])) := by simp [moreF, hi, hs0, hl, Hid]
  have hln : ((p.ps.length : Int) == 0) = false := beq_eq_false_iff_ne.2 (by omega)
  clear hp HH HW hs0
  unfold parsV
  go_enter Try.func52, Try.ntmps52
  go_wp2_with (first
    | (go_at_call 49; go_must (refine (spec_l1In _ _ _ _).mono ?_); rintro e w3 ⟨rfl, hw3⟩
       have H3 := own_eq H0.out hw3
       have B3 := Aside0.mk (below_eq (B0.out _ _ _) hw3)
       clear hw3
       have hlt : w.heap.size + 1 < w3.heap.size := H3.block_lt
       obtain ⟨⟨s0, s1, s2, s3⟩, t0, t1, t2, t3⟩ := H3.c4
       obtain ⟨⟨r0, r1, r2, r3⟩, u0, u1, u2, u3⟩ := H3.pull2.c4
       skip)
    | (go_at_call 49; go_must (refine (spec_l1In _ _ _ _).mono ?_); rintro e w' ⟨rfl, rfl⟩))
  have HE := H3.set4 (i64 p.st) (.slice Ap p.ps.length cp) (i64 p.mr) (.slice At p.tx.length ct)
  refine bodyPost_ret (v := .tuple #[.agg #[i64 p.st, .slice Ap p.ps.length cp, i64 p.mr, .slice At p.tx.length ct], .slice (some ⟨w.heap.size + 2, 0, none⟩) 0 0]) (HE.res2 (fn := Try.f52) (t := 4) (u := 5) rfl rfl rfl hu (by kernel_rfl)) rfl ?_
  rw [show moreF p 59 = (p, []) from hf]
  exact ⟨_, _, _, [], rfl, rfl, HE.tail.drop1.pull2.pull2, below_set4 B3.out (by omega) _ _ _ _⟩

set_option maxRecDepth 100000 in
set_option maxHeartbeats 1000000 in
theorem l6List_act (base : Nat) (p : Pars) (r : Int) (vp vt : Value) (L : List Atm) (w : World) (hbase : base ≤ w.heap.size) (hp : p.Fit)
    (h : Own base w (rowI vp p.ps :: rowI vt p.tx :: L)) (hr : inB r 64 126 = true) :
    Calls Try.prog 52 #[parsV p vp vt, i64 r] w fun e w' => SpecPost base (moreF p r) L e w' w := by
  obtain ⟨Ap, cp, rfl, -, -⟩ := h.rd
  obtain ⟨At, ct, rfl, -, -⟩ := h.pull1.rd
  have hu := Try.underlying26
  have hua := Try.underlying53
  have sP := szP
  have zP := zvP
  have sA := szA
  have zA := zvA
  have HH := Aside0.mk (three0 hbase h)
  have H0 := Aside0.mk (HH.out [i64 p.st, .slice Ap p.ps.length cp, i64 p.mr, .slice At p.tx.length ct] [i64 0, nilS, i64 0, nilS])
  have B0 := Aside0.mk (three0_below (Below.refl base w) hbase)
  have HW := Aside0.mk h
  clear h
  have hr2 := inB_iff.1 hr
  have hn63 : (r == 63) = false := beq_eq_false_iff_ne.2 (by omega)
  have hn59 : (r == 59) = false := beq_eq_false_iff_ne.2 (by omega)
  have hi : inB r 48 57 = false := by
    cases h : inB r 48 57 with
    | false => rfl
    | true => have := inB_iff.1 h; omega
  have hf : Hid (moreF p r = (stateP 1, [⟨4, r, p.ps, p.mr, []⟩])) := by
    have h1 : ¬ r = 63 := by omega
    have h2 : ¬ r = 59 := by omega
    simp [moreF, h1, h2, hi, hr, Hid]
  clear hp HH HW
  unfold parsV
  go_enter Try.func52, Try.ntmps52
  go_wp2_with (first
    | (go_at_call 49; go_must (refine (spec_l1In _ _ _ _).mono ?_); rintro e w3 ⟨rfl, hw3⟩
       have H3 := own_eq H0.out hw3
       have B3 := Aside0.mk (below_eq (B0.out _ _ _) hw3)
       clear hw3
       have hlt : w.heap.size + 1 < w3.heap.size := H3.block_lt
       obtain ⟨⟨s0, s1, s2, s3⟩, t0, t1, t2, t3⟩ := H3.c4
       obtain ⟨⟨r0, r1, r2, r3⟩, u0, u1, u2, u3⟩ := H3.pull2.c4
       skip)
    | (go_at_call 49; go_must (refine (spec_l1In _ _ _ _).mono ?_); rintro e w' ⟨rfl, rfl⟩))
  go_region_held3 (fun w' => w'.cell? ⟨w.heap.size, 1, none⟩ = some (.slice Ap p.ps.length cp) ∧ w'.cell? ⟨w.heap.size, 2, none⟩ = some (i64 p.mr))
    (first
      | go_keep
      | fail)
    (first
      | (go_at_call 50; (with_reducible refine (l6State_calls 1 _).mono ?_); rintro e w4 ⟨rfl, HB4⟩
         have H4 := H3.drew.below HB4
         have B4 := Aside0.mk (B3.out.drew.trans (HB4.mono (by simp; omega)))
         have hlt4 : w.heap.size + 1 < w4.heap.size := H4.block_lt
         obtain ⟨⟨s0, s1, s2, s3⟩, t0, t1, t2, t3⟩ := H4.c4
         obtain ⟨⟨r0, r1, r2, r3⟩, u0, u1, u2, u3⟩ := H4.pull2.c4
         have HE := (H4.set4 (i64 1) nilS (i64 0) nilS).lit (by simp; omega) 53 5 1 (acCells ⟨⟨4, r, p.ps, p.mr, []⟩, .slice Ap p.ps.length cp, nilS⟩) rfl (by omega) (b := w4.heap.size) (by simp)
         have BE := Aside0.mk ((below_set4 (b := w.heap.size + 1) B4.out (by omega) (i64 1) nilS (i64 0) nilS).alloc (by simp; omega) (.cells (acCells ⟨⟨4, r, p.ps, p.mr, []⟩, .slice Ap p.ps.length cp, nilS⟩).toArray 53)))
      | (go_at_call 50; (with_reducible refine (l6State_calls 1 _).mono ?_); rintro e w4 ⟨rfl, HB4⟩
         have H4 := (H3.lit (by omega) 53 5 1 (acCells ⟨⟨4, r, p.ps, p.mr, []⟩, .slice Ap p.ps.length cp, nilS⟩) rfl (by omega) rfl).drew.below HB4
         have B4 := Aside0.mk ((B3.out.alloc (by omega) _).drew.trans (HB4.mono (by simp; omega)))
         have hlt4 : w.heap.size + 1 < w4.heap.size := H4.pull1.block_lt
         obtain ⟨⟨s0, s1, s2, s3⟩, t0, t1, t2, t3⟩ := H4.pull1.c4
         obtain ⟨⟨r0, r1, r2, r3⟩, u0, u1, u2, u3⟩ := H4.pull3.c4
         have HE := (H4.pull1.set4 (i64 1) nilS (i64 0) nilS).pull1
         have BE := Aside0.mk (below_set4 (b := w.heap.size + 1) B4.out (by omega) (i64 1) nilS (i64 0) nilS)))
  all_goals
    go_wp2
    have HT := addNil (addNil (addNil HE.drop1.drop1.drop1.drop2 2 1).push2 2 1) 2 1
    have HX := HE.pull1
    have Fin := hf
    first
      | (refine bodyPost_ret (v := .tuple #[.agg #[i64 1, nilS, i64 0, nilS], .slice (some ⟨w4.heap.size, 0, none⟩) 1 1]) (HX.res2 (fn := Try.f52) (t := 4) (u := 5) rfl rfl rfl hu (by kernel_rfl)) rfl ?_
         rw [show moreF p r = (stateP 1, [⟨4, r, p.ps, p.mr, []⟩]) from hf]
         exact ⟨nilS, nilS, _, [⟨⟨4, r, p.ps, p.mr, []⟩, .slice Ap p.ps.length cp, nilS⟩], rfl, rfl, HT, BE.out⟩)
      | (refine bodyPost_ret (v := .tuple #[.agg #[i64 1, nilS, i64 0, nilS], .slice (some ⟨w3.heap.size, 0, none⟩) 1 1]) (HX.res2 (fn := Try.f52) (t := 4) (u := 5) rfl rfl rfl hu (by kernel_rfl)) rfl ?_
         rw [show moreF p r = (stateP 1, [⟨4, r, p.ps, p.mr, []⟩]) from hf]
         exact ⟨nilS, nilS, _, [⟨⟨4, r, p.ps, p.mr, []⟩, .slice Ap p.ps.length cp, nilS⟩], rfl, rfl, HT, BE.out⟩)

set_option maxRecDepth 100000 in
set_option maxHeartbeats 1000000 in
theorem l6List_none (base : Nat) (p : Pars) (r : Int) (vp vt : Value) (L : List Atm) (w : World) (hbase : base ≤ w.heap.size) (hp : p.Fit)
    (h : Own base w (rowI vp p.ps :: rowI vt p.tx :: L)) (hq : ¬ (r = 63 ∧ p.ps.length = 0 ∧ p.mr = 0)) (hi : inB r 48 57 = false) (h59 : ¬ r = 59) (hr : inB r 64 126 = false) :
    Calls Try.prog 52 #[parsV p vp vt, i64 r] w fun e w' => SpecPost base (moreF p r) L e w' w := by
  obtain ⟨Ap, cp, rfl, -, -⟩ := h.rd
  obtain ⟨At, ct, rfl, -, -⟩ := h.pull1.rd
  have hu := Try.underlying26
  have hua := Try.underlying53
  have sP := szP
  have zP := zvP
  have sA := szA
  have zA := zvA
  have HH := Aside0.mk (three0 hbase h)
  have H0 := Aside0.mk (HH.out [i64 p.st, .slice Ap p.ps.length cp, i64 p.mr, .slice At p.tx.length ct] [i64 0, nilS, i64 0, nilS])
  have B0 := Aside0.mk (three0_below (Below.refl base w) hbase)
  have HW := Aside0.mk h
  clear h
  have hn59 : (r == 59) = false := beq_eq_false_iff_ne.2 h59
  have hf : Hid (moreF p r = (stateP 1, [])) := by
    simp only [Hid]; unfold moreF; rw [if_neg hq, if_neg (by rw [hi]; simp), if_neg h59, if_neg (by rw [hr]; simp)]
  have hend : Hid (∀ w4, Own base w4 (cellsAt (w.heap.size + 1) 26 [i64 0, nilS, i64 0, nilS] :: row 53 5 (.slice (some ⟨w.heap.size + 2, 0, none⟩) 0 0) 0 [] :: cellsAt w.heap.size 26 [i64 p.st, .slice Ap p.ps.length cp, i64 p.mr, .slice At p.tx.length ct] :: rowI (.slice Ap p.ps.length cp) p.ps :: rowI (.slice At p.tx.length ct) p.tx :: L) → Below base w w4 →
      SpecPost base (moreF p r) L (.returned (.tuple #[.agg #[i64 1, nilS, i64 0, nilS], .slice (some ⟨w.heap.size + 2, 0, none⟩) 0 0])) ((((w4.setCell ⟨w.heap.size + 1, 0, none⟩ (i64 1)).setCell ⟨w.heap.size + 1, 1, none⟩ nilS).setCell ⟨w.heap.size + 1, 2, none⟩ (i64 0)).setCell ⟨w.heap.size + 1, 3, none⟩ nilS) w) := by
    intro w4 H4 B4
    rw [show moreF p r = (stateP 1, []) from hf]
    exact ⟨nilS, nilS, _, [], rfl, rfl, addNil (addNil (H4.set4 _ _ _ _).tail.drop1.drop1.drop1 _ _) _ _, below_set4 B4 (by omega) _ _ _ _⟩
  have hcases : (r == 63) = false ∨ ((r == 63) = true ∧ ((p.ps.length : Int) == 0) = false) ∨ ((r == 63) = true ∧ ((p.ps.length : Int) == 0) = true ∧ (p.mr == 0) = false) := by
    by_cases h1 : r = 63
    · by_cases h2 : p.ps.length = 0
      · exact .inr (.inr ⟨beq_iff_eq.2 h1, beq_iff_eq.2 (by omega), beq_eq_false_iff_ne.2 fun h3 => hq ⟨h1, h2, h3⟩⟩)
      · exact .inr (.inl ⟨beq_iff_eq.2 h1, beq_eq_false_iff_ne.2 (by omega)⟩)
    · exact .inl (beq_eq_false_iff_ne.2 h1)
  clear hp HH HW hq h59
  unfold parsV
  rcases hcases with h63 | ⟨h63, hl⟩ | ⟨h63, hl, hm⟩
  all_goals
    go_enter Try.func52, Try.ntmps52
    go_wp2_with (first
      | (go_at_call 49; go_must (refine (spec_l1In _ _ _ _).mono ?_); rintro e w3 ⟨rfl, hw3⟩
         have H3 := own_eq H0.out hw3
         have B3 := Aside0.mk (below_eq (B0.out _ _ _) hw3)
         clear hw3
         have hlt : w.heap.size + 1 < w3.heap.size := H3.block_lt
         obtain ⟨⟨s0, s1, s2, s3⟩, t0, t1, t2, t3⟩ := H3.c4
         obtain ⟨⟨r0, r1, r2, r3⟩, u0, u1, u2, u3⟩ := H3.pull2.c4
         skip)
      | (go_at_call 49; go_must (refine (spec_l1In _ _ _ _).mono ?_); rintro e w' ⟨rfl, rfl⟩)
      | (go_at_call 50; go_must (refine (l6State_calls 1 _).mono ?_); rintro e w4 ⟨rfl, HB4⟩
         have H4 := H3.below HB4
         have B4 := Aside0.mk (B3.out.trans (HB4.mono (by omega)))
         obtain ⟨⟨s0, s1, s2, s3⟩, t0, t1, t2, t3⟩ := H4.c4))
    refine bodyPost_ret (v := .tuple #[.agg #[i64 1, nilS, i64 0, nilS], .slice (some ⟨w.heap.size + 2, 0, none⟩) 0 0]) ((H4.set4 (i64 1) nilS (i64 0) nilS).res2 (fn := Try.f52) (t := 4) (u := 5) rfl rfl rfl hu (by kernel_rfl)) rfl ?_
    exact hend.out w4 H4 B4.out

theorem l6List_calls (base : Nat) (p : Pars) (r : Int) (vp vt : Value) (L : List Atm) (w : World) (hbase : base ≤ w.heap.size) (hp : p.Fit)
    (h : Own base w (rowI vp p.ps :: rowI vt p.tx :: L)) :
    Calls Try.prog 52 #[parsV p vp vt, i64 r] w fun e w' => SpecPost base (moreF p r) L e w' w := by
  by_cases hq : r = 63 ∧ p.ps.length = 0 ∧ p.mr = 0
  · exact l6List_63 base p r vp vt L w hbase hp h hq
  cases hd : inB r 48 57 with
  | true =>
    by_cases hl : p.ps.length = 0
    · exact l6List_digit0 base p r vp vt L w hbase hp h hd hl
    · exact l6List_digit base p r vp vt L w hbase hp h hd hl
  | false =>
    by_cases h59 : r = 59
    · by_cases hl : p.ps.length = 0
      · exact l6List_semi0 base p r vp vt L w hbase hp h h59 hl
      · by_cases h16 : p.ps.length < 16
        · exact l6List_semi base p r vp vt L w hbase hp h h59 hl h16
        · exact l6List_full base p r vp vt L w hbase hp h h59 h16
    · cases hr : inB r 64 126 with
      | true => exact l6List_act base p r vp vt L w hbase hp h hr
      | false => exact l6List_none base p r vp vt L w hbase hp h hq hd h59 hr
end Go.Proofs.Ytecjokjmmejinaa
