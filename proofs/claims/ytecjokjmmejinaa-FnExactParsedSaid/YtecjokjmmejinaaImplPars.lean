/- The methods of impl's parser: each does in place what its plain function says; what it answers lies in memory of its own. -/
import Derived.Test.YtecjokjmmejinaaPars
import Derived.OwnWalk
import Derived.Deep.DeepMust
import Derived.Deep.QuietTactic
import Derived.BigQuiet
import Derived.Deep.RegionHeld3
import Derived.Deep.LoopGhost
namespace Go.Proofs.Ytecjokjmmejinaa
open Go.RowKit SL

/-- A fact that the walk doesn't look into. -/
structure Aside0 (p : Prop) : Prop where mk :: (out : p)
/-- What a method of the parser at block b comes to. -/
def ParsPost (base b : Nat) (F : Pars × List Acn) (L : List Atm) (e : Ending) (w' w : World) : Prop :=
  ∃ va vp' vt' l, e = .returned va ∧ l.map AcV.a = F.2 ∧ Own base w' (parsAt b F.1 vp' vt' ++ (acsAt va l ++ L)) ∧ Below base w w'

set_option maxHeartbeats 400000 in
theorem become_calls (base b : Nat) (s st m : Int) (vp vt : Value) (L : List Atm) (w : World)
    (h : Own base w (cellsAt b 26 [i64 s, vp, i64 m, vt] :: L)) :
    Calls Try.prog 71 #[.pointer (some ⟨b, 0, none⟩), i64 st] w fun e w' => e = .returned (.tuple #[]) ∧
      Own base w' (cellsAt b 26 [i64 st, nilS, i64 0, nilS] :: L) ∧ Below base w w' := by
  have c0 : w.cell? ⟨b, 0, none⟩ = some (i64 s) := h.cell 0
  have c1 : w.cell? ⟨b, 1, none⟩ = some vp := h.cell 1
  have c2 : w.cell? ⟨b, 2, none⟩ = some (i64 m) := h.cell 2
  have c3 : w.cell? ⟨b, 3, none⟩ = some vt := h.cell 3
  have f0 : w.frozen? ⟨b, 0, none⟩ = false := h.free 0
  have f1 : w.frozen? ⟨b, 1, none⟩ = false := h.free 1
  have f2 : w.frozen? ⟨b, 2, none⟩ = false := h.free 2
  have f3 : w.frozen? ⟨b, 3, none⟩ = false := h.free 3
  have hb := h.block_base
  have hu := Try.underlying26
  have H : Hid (Own base w (cellsAt b 26 [i64 s, vp, i64 m, vt] :: L)) := h
  clear h
  go_enter Try.func71, Try.ntmps71
  go_wp2
  go_end0
  exact ⟨rfl, ((((H.out.setCell 0 _).setCell 1 _).setCell 2 _).setCell 3 _), ((((Below.refl _ _).setCell hb _).setCell hb _).setCell hb _).setCell hb _⟩

theorem acsAt_nil (v : Value) : acsAt v [] = [row 53 5 v 0 []] := rfl
theorem rowI_nil (v : Value) : rowI v [] = row 2 1 v 0 [] := rfl
/-- A nil slice is a row. -/
theorem addNil {base : Nat} {w : World} {L : List Atm} (h : Own base w L) (e : TypeId) (sz : Nat) : Own base w (row e sz nilS 0 [] :: L) := by
  obtain ⟨F, hF, hn, hb⟩ := h
  exact ⟨F, ⟨[], F, rfl, ⟨rfl, World.ownsRow_nil _ _ _ _⟩, hF⟩, hn, hb⟩

set_option maxRecDepth 100000 in
set_option maxHeartbeats 200000 in
theorem ended_calls (base b : Nat) (p : Pars) (r : Int) (vp vt : Value) (L : List Atm) (w : World) (hbase : base ≤ w.heap.size)
    (h : Own base w (parsAt b p vp vt ++ L)) :
    Calls Try.prog 70 #[.pointer (some ⟨b, 0, none⟩), i64 r] w fun e w' => ParsPost base b (endedF p r) L e w' w := by
  obtain ⟨At, ct, rfl, -, -⟩ := h.pull2.rd
  have c3 : w.cell? ⟨b, 3, none⟩ = some (.slice At p.tx.length ct) := h.cell 3
  have hb := h.block_base
  have hlt := h.block_lt
  have hu := Try.underlying26
  have hua := Try.underlying53
  have sA := szA
  have zA := zvA
  have H1 : Hid (Own base (w.alloc (.cells #[] 53)) (row 53 5 (.slice (some ⟨w.heap.size, 0, none⟩) 0 0) 0 [] :: (parsAt b p vp (.slice At p.tx.length ct) ++ L))) :=
    h.addRow ((Below.refl _ _).alloc (Nat.le_refl _) _) hbase (World.ownsRow_made w #[] 0 (Nat.le_refl _) (Nat.zero_le _) rfl)
  have B1 : Hid (Below base w (w.alloc (.cells #[] 53))) := (Below.refl _ _).alloc hbase _
  have one : ∀ u ∈ acCells ⟨⟨5, 0, [], 0, p.tx⟩, nilS, .slice At p.tx.length ct⟩, u.oneCell' = true := by simp [acCells, Value.oneCell']
  clear h
  by_cases hr : r = 92
  · subst hr
    have R2 : Hid (Rd ((w.alloc (.cells #[] 53)).alloc (.cells (acCells ⟨⟨5, 0, [], 0, p.tx⟩, nilS, .slice At p.tx.length ct⟩).toArray 53)) (some ⟨w.heap.size + 1, 0, none⟩) (acCells ⟨⟨5, 0, [], 0, p.tx⟩, nilS, .slice At p.tx.length ct⟩)) := Rd.box _ _ _ (by simp)
    go_enter Try.func70, Try.ntmps70
    go_wp2_with (first
      | (at_builtin; go_must (refine ap_row elA rfl _ _ rfl _ 0 [] rfl (H1.out.below ((Below.refl _ _).alloc (Nat.le_refl _) _)) _ 1 1 (acCells ⟨⟨5, 0, [], 0, p.tx⟩, nilS, .slice At p.tx.length ct⟩) rfl rfl R2.out one (fun h => by cases h) (by omega) (by simp; omega) ?_); rintro v' w1 HS HB -)
      | (go_at_call 71; refine (become_calls base b p.st 1 p.mr vp _ _ _ HS.pull1).mono ?_; rintro e w' ⟨rfl, HS2, HB2⟩))
    go_ret
    refine ⟨_, nilS, nilS, [⟨⟨5, 0, [], 0, p.tx⟩, nilS, .slice At p.tx.length ct⟩], rfl, rfl, ?_, (B1.out.trans ((Below.refl _ _).alloc (by simp; omega) _)).trans (HB.trans HB2)⟩
    exact (addNil (addNil (addNil HS2.drop2 _ _).push2 _ _) _ _).pull2
  · have hf : Hid (endedF p r = (stateP 1, [])) := by simp [endedF, hr, Hid]
    go_enter Try.func70, Try.ntmps70
    go_wp2_with (go_at_call 71; refine (become_calls base b p.st 1 p.mr vp _ _ _ H1.out.pull1).mono ?_; rintro e w' ⟨rfl, HS, HB⟩)
    go_ret
    rw [show endedF p r = (stateP 1, []) from hf]
    refine ⟨_, nilS, nilS, [], rfl, rfl, ?_, B1.out.trans HB⟩
    exact (addNil (addNil HS.drop2.drop2 _ _) _ _).pull2

set_option maxRecDepth 100000 in
set_option maxHeartbeats 400000 in
theorem title_calls (base b : Nat) (p : Pars) (r : Int) (vp vt : Value) (L : List Atm) (w : World) (hbase : base ≤ w.heap.size)
    (h : Own base w (parsAt b p vp vt ++ L)) :
    Calls Try.prog 69 #[.pointer (some ⟨b, 0, none⟩), i64 r] w fun e w' => ParsPost base b (titleF p r) L e w' w := by
  obtain ⟨At, ct, rfl, -, -⟩ := h.pull2.rd
  have c0 : w.cell? ⟨b, 0, none⟩ = some (i64 p.st) := h.cell 0
  have c3 : w.cell? ⟨b, 3, none⟩ = some (.slice At p.tx.length ct) := h.cell 3
  have f0 : w.frozen? ⟨b, 0, none⟩ = false := h.free 0
  have hb := h.block_base
  have hlt := h.block_lt
  have hu := Try.underlying26
  have H : Hid (Own base w (parsAt b p vp (.slice At p.tx.length ct) ++ L)) := h
  clear h
  by_cases h7 : r = 7
  · subst h7
    go_enter Try.func69, Try.ntmps69
    go_wp2_with (go_at_call 70; go_must (refine (ended_calls base b p 92 vp _ L _ hbase H.out).mono ?_); rintro e w' ⟨va, vp', vt', l, rfl, hl, HS, HB⟩)
    go_ret
    exact ⟨_, vp', vt', l, rfl, hl, HS, HB⟩
  · by_cases h27 : r = 27
    · subst h27
      go_enter Try.func69, Try.ntmps69
      go_wp2_with (go_at_call 70; fail)
      go_ret
      exact ⟨_, vp, _, [], rfl, rfl, (addNil (H.out.setCell 0 (i64 5)) _ _).push3, (Below.refl _ _).setCell hb _⟩
    · by_cases h40 : p.tx.length < 40
      · have hf : Hid (titleF p r = ({ p with tx := p.tx ++ [r] }, [])) := by simp [titleF, h7, h27, h40, Hid]
        have R2 : Hid (Rd (w.alloc (.cells #[i64 r] 2)) (some ⟨w.heap.size, 0, none⟩) (nums [r])) := Rd.box _ _ _ (by simp)
        have H2 : Hid (Own base (w.alloc (.cells #[i64 r] 2)) (rowI (.slice At p.tx.length ct) p.tx :: cellsAt b 26 (parsCells p vp (.slice At p.tx.length ct)) :: rowI vp p.ps :: L)) := (H.out.below ((Below.refl _ _).alloc (Nat.le_refl _) _)).pull2
        have B2 : Hid (Below base w (w.alloc (.cells #[i64 r] 2))) := (Below.refl _ _).alloc hbase _
        go_enter Try.func69, Try.ntmps69
        go_wp2_with (first
          | (go_at_call 70; fail)
          | (at_builtin; go_must (refine ap_row elI rfl _ _ rfl _ p.tx.length (nums p.tx) rfl H2.out _ 1 1 (nums [r]) rfl rfl R2.out (nums_one _) (fun h => by cases h) (by omega) (by simp; omega) ?_); rintro v' w1 HS HB -; obtain ⟨A', c', rfl, -, -⟩ := HS.rd; have c3' : w1.cell? ⟨b, 3, none⟩ = some (.slice At p.tx.length ct) := HS.pull1.cell 3; have f3' : w1.frozen? ⟨b, 3, none⟩ = false := HS.pull1.free 3))
        go_ret
        rw [show titleF p r = ({ p with tx := p.tx ++ [r] }, []) from hf]
        rw [rowI_snoc] at HS
        exact ⟨_, vp, .slice A' (p.tx.length + 1) c', [], rfl, rfl, (addNil (HS.pull1.setCell 3 (.slice A' (p.tx.length + 1) c')).pull2.push1 _ _).push3, (B2.out.trans HB).setCell hb _⟩
      · have hf : Hid (titleF p r = (p, [])) := by simp [titleF, h7, h27, h40, Hid]
        go_enter Try.func69, Try.ntmps69
        go_wp2_with (go_at_call 70; fail)
        go_ret
        rw [show titleF p r = (p, []) from hf]
        exact ⟨_, vp, _, [], rfl, rfl, (addNil H.out _ _).push3, Below.refl _ _⟩

set_option maxRecDepth 100000 in
set_option maxHeartbeats 400000 in
theorem escaped_calls (base b : Nat) (p : Pars) (r : Int) (vp vt : Value) (L : List Atm) (w : World)
    (h : Own base w (parsAt b p vp vt ++ L)) :
    Calls Try.prog 73 #[.pointer (some ⟨b, 0, none⟩), i64 r] w fun e w' => ParsPost base b (escapedF r) L e w' w := by
  have hua := Try.underlying53
  have sA := szA
  have zA := zvA
  have hb := h.block_base
  have hlt := h.block_lt
  have H : Hid (Own base w (parsAt b p vp vt ++ L)) := h
  clear h
  by_cases h91 : r = 91
  · subst h91
    go_enter Try.func73, Try.ntmps73
    go_wp2_with (go_at_call 71; go_must (refine (become_calls base b p.st 3 p.mr vp vt _ _ H.out).mono ?_); rintro e w' ⟨rfl, HS, HB⟩)
    go_ret
    exact ⟨_, nilS, nilS, [], rfl, rfl, (addNil (addNil (addNil HS.drop1.drop1 _ _) _ _) _ _).pull3, HB⟩
  · by_cases h93 : r = 93
    · subst h93
      go_enter Try.func73, Try.ntmps73
      go_wp2_with (go_at_call 71; go_must (refine (become_calls base b p.st 4 p.mr vp vt _ _ H.out).mono ?_); rintro e w' ⟨rfl, HS, HB⟩)
      go_ret
      exact ⟨_, nilS, nilS, [], rfl, rfl, (addNil (addNil (addNil HS.drop1.drop1 _ _) _ _) _ _).pull3, HB⟩
    · by_cases hin : inB r 48 126 = true
      · have hf : Hid (escapedF r = (stateP 1, [⟨3, r, [], 0, []⟩])) := by simp [escapedF, h91, h93, hin, Hid]
        go_enter Try.func73, Try.ntmps73
        go_wp2_with (first
          | (go_at_call 45; go_must (refine (impl_in _ _ _ _).mono ?_); rintro e w' ⟨rfl, rfl⟩)
          | (go_at_call 71; go_must (refine (become_calls base b p.st 1 p.mr vp vt _ _ H.out).mono ?_); rintro e w' ⟨rfl, HS, HB⟩))
        go_ret
        rw [show escapedF r = (stateP 1, [⟨3, r, [], 0, []⟩]) from hf]
        have hbw := HS.block_lt
        have HL := (HS.drop1.drop1).lit (by omega) 53 5 1 (acCells ⟨⟨3, r, [], 0, []⟩, nilS, nilS⟩) rfl (by omega) rfl
        exact ⟨_, nilS, nilS, [⟨⟨3, r, [], 0, []⟩, nilS, nilS⟩], rfl, rfl, (addNil (addNil (addNil (addNil HL.pull1 _ _).push2 _ _).push2 _ _).pull1 _ _).pull1, (HB.alloc (by omega) _)⟩
      · have hf : Hid (escapedF r = (stateP 1, [])) := by simp [escapedF, h91, h93, hin, Hid]
        go_enter Try.func73, Try.ntmps73
        go_wp2_with (first
          | (go_at_call 45; go_must (refine (impl_in _ _ _ _).mono ?_); rintro e w' ⟨rfl, rfl⟩)
          | (go_at_call 71; go_must (refine (become_calls base b p.st 1 p.mr vp vt _ _ H.out).mono ?_); rintro e w' ⟨rfl, HS, HB⟩))
        go_ret
        rw [show escapedF r = (stateP 1, []) from hf]
        exact ⟨_, nilS, nilS, [], rfl, rfl, (addNil (addNil (addNil HS.drop1.drop1 _ _) _ _) _ _).pull3, HB⟩

set_option maxRecDepth 100000 in
set_option maxHeartbeats 1000000 in
theorem more_calls (base b : Nat) (p : Pars) (r : Int) (vp vt : Value) (L : List Atm) (w : World) (hbase : base ≤ w.heap.size) (hp : p.Fit) (hr : 0 ≤ r ∧ r ≤ 1114111)
    (h : Own base w (parsAt b p vp vt ++ L)) :
    Calls Try.prog 74 #[.pointer (some ⟨b, 0, none⟩), i64 r] w fun e w' => ParsPost base b (moreF p r) L e w' w := by
  obtain ⟨Ap, cp, rfl, -, -⟩ := h.pull1.rd
  have c1 : w.cell? ⟨b, 1, none⟩ = some (.slice Ap p.ps.length cp) := h.cell 1
  have c2 : w.cell? ⟨b, 2, none⟩ = some (i64 p.mr) := h.cell 2
  have f2 : w.frozen? ⟨b, 2, none⟩ = false := h.free 2
  have hb := h.block_base
  have hlt := h.block_lt
  have hu := Try.underlying26
  have hua := Try.underlying53
  have sA := szA
  have zA := zvA
  have H : Hid (Own base w (parsAt b p (.slice Ap p.ps.length cp) vt ++ L)) := h
  clear h
  by_cases hq : r = 63 ∧ p.ps.length = 0 ∧ p.mr = 0
  · have hf : Hid (moreF p r = ({ p with mr := 63 }, [])) := by simp [moreF, hq, Hid]
    obtain ⟨h63, hl0, hm0⟩ := hq
    have hl1 : ((p.ps.length : Int) == 0) = true := beq_iff_eq.2 (by omega)
    have hm1 : (p.mr == 0) = true := beq_iff_eq.2 hm0
    have HL : Hid (p.ps.length = 0) := hl0
    have HM : Hid (p.mr = 0) := hm0
    clear hl0 hm0
    subst h63
    go_enter Try.func74, Try.ntmps74
    go_wp2_with (go_at_call 45; fail)
    go_ret
    rw [show moreF p 63 = ({ p with mr := 63 }, []) from hf]
    exact ⟨_, _, _, [], rfl, rfl, (addNil (H.out.setCell 2 (i64 63)) _ _).push3, (Below.refl _ _).setCell hb _⟩
  · by_cases hd : inB r 48 57 = true
    · have hd2 := inB_iff.1 hd
      have hn63 : (r == 63) = false := beq_eq_false_iff_ne.2 (by omega)
      by_cases hl : p.ps.length = 0
      · obtain ⟨st, ps, mr, tx⟩ := p
        obtain rfl : ps = [] := List.eq_nil_of_length_eq_zero hl
        have hf : Hid (moreF ⟨st, [], mr, tx⟩ r = (⟨st, [min (r - 48) 9999], mr, tx⟩, [])) := by
          simp [moreF, hd, some0, digitL, Hid]; omega
        have R2 : Hid (Rd (w.alloc (.cells #[i64 0] 2)) (some ⟨w.heap.size, 0, none⟩) (nums [0])) := Rd.box _ _ _ (by simp)
        have H2 : Hid (Own base (w.alloc (.cells #[i64 0] 2)) (row 2 1 (.slice Ap 0 cp) 0 [] :: cellsAt b 26 (parsCells ⟨st, [], mr, tx⟩ (.slice Ap 0 cp) vt) :: rowI vt tx :: L)) := (H.out.below ((Below.refl _ _).alloc (Nat.le_refl _) _)).pull1
        have B2 : Hid (Below base w (w.alloc (.cells #[i64 0] 2))) := (Below.refl _ _).alloc hbase _
        clear hq hl hp
        have hmin := fun ats ty k k' x y => run_min (P := Try.prog) ats ty k k' x y
        go_enter Try.func74, Try.ntmps74
        go_wp2_with (first
          | (go_at_call 45; go_must (refine (impl_in _ _ _ _).mono ?_); rintro e w' ⟨rfl, rfl⟩)
          | (at_builtin; go_must (refine ap_row elI rfl _ _ rfl _ 0 [] rfl H2.out _ 1 1 (nums [0]) rfl rfl R2.out (nums_one _) (fun h => by cases h) (by omega) (by simp; omega) ?_); rintro v' w1 HS HB -; obtain ⟨g, c', rfl, hg, hgl, hc, hfz⟩ := HS.form (by omega); have hcl : w1.cell? ⟨g, 0, none⟩ = some (i64 0) := hc 0 (by omega); have hfl : w1.frozen? ⟨g, 0, none⟩ = false := hfz 0; have c3' : w1.cell? ⟨b, 1, none⟩ = some (.slice Ap 0 cp) := HS.pull1.cell 1; have f3' : w1.frozen? ⟨b, 1, none⟩ = false := HS.pull1.free 1; have hne := HS.ne_cells; clear hc hfz))
        go_quiet (fail)
        go_wp2
        go_ret
        rw [show moreF ⟨st, [], mr, tx⟩ r = (⟨st, [min (r - 48) 9999], mr, tx⟩, []) from hf]
        have HT := ((HS.pull1.setCell 1 (.slice (some ⟨g, 0, none⟩) 1 c')).pull1.drewN nq).store 0 (i64 (min (r - 48) 9999))
        exact ⟨_, .slice (some ⟨g, 0, none⟩) 1 c', vt, [], rfl, rfl, (addNil HT.push1 _ _).push3, (below_drewN ((B2.out.trans HB).setCell hb _) _).setCell hg _⟩
      · have hf : Hid (moreF p r = ({ p with ps := digitL p.ps r }, [])) := by
          have : some0 p.ps = p.ps := if_neg hl
          simp [moreF, hd, this, Hid]; omega
        obtain ⟨g, c, e, hg, hgl, hc, hfz⟩ := H.out.pull1.form (by omega)
        simp only [Value.slice.injEq] at e
        obtain ⟨rfl, -, rfl⟩ := e
        have hx := hp.nn (p.ps.getD (p.ps.length - 1) 0) (by rw [List.getD_eq_getElem?_getD, List.getElem?_eq_getElem (by omega)]; exact List.getElem_mem _)
        have hcl : w.cell? ⟨g, p.ps.length - 1, none⟩ = some (i64 (p.ps.getD (p.ps.length - 1) 0)) := (hc _ (by omega)).trans (nums_get (by omega))
        have hfl : w.frozen? ⟨g, p.ps.length - 1, none⟩ = false := hfz _
        have hl16 := hp.ps
        have hlp : 0 < p.ps.length := by omega
        have hln : ((p.ps.length : Int) == 0) = false := beq_eq_false_iff_ne.2 (by omega)
        clear hc hfz hq hl hp
        have hmin := fun ats ty k k' x y => run_min (P := Try.prog) ats ty k k' x y
        generalize hxe : p.ps.getD (p.ps.length - 1) 0 = x at *
        have HX : Hid (p.ps.getD (p.ps.length - 1) 0 = x) := hxe
        clear hxe
        go_enter Try.func74, Try.ntmps74
        go_wp2_with (go_at_call 45; go_must (refine (impl_in _ _ _ _).mono ?_); rintro e w' ⟨rfl, rfl⟩)
        go_quiet (fail)
        go_wp2
        go_ret
        rw [show moreF p r = ({ p with ps := digitL p.ps r }, []) from hf]
        have HS := (H.out.pull1.drewN nq).store (p.ps.length - 1) (i64 (min (x * 10 + r - 48) 9999))
        rw [rowI_set rfl, show p.ps.set (p.ps.length - 1) (min (x * 10 + r - 48) 9999) = digitL p.ps r by rw [digitL, show p.ps.getD (p.ps.length - 1) 0 = x from HX]] at HS
        have e : p.ps.length = (digitL p.ps r).length := by simp [digitL]
        exact ⟨_, .slice (some ⟨g, 0, none⟩) p.ps.length cp, vt, [], rfl, rfl, (addNil HS.push1 _ _).push3, (below_drewN (Below.refl _ _) _).setCell hg _⟩
    · have hdF : inB r 48 57 = false := by simpa using hd
      by_cases h59 : r = 59
      · subst h59
        have hn63 : ((59 : Int) == 63) = false := rfl
        by_cases hl : p.ps.length = 0
        · obtain ⟨st, ps, mr, tx⟩ := p
          obtain rfl : ps = [] := List.eq_nil_of_length_eq_zero hl
          have R2 : Hid (Rd (w.alloc (.cells #[i64 0] 2)) (some ⟨w.heap.size, 0, none⟩) (nums [0])) := Rd.box _ _ _ (by simp)
          have H2 : Hid (Own base (w.alloc (.cells #[i64 0] 2)) (row 2 1 (.slice Ap 0 cp) 0 [] :: cellsAt b 26 (parsCells ⟨st, [], mr, tx⟩ (.slice Ap 0 cp) vt) :: rowI vt tx :: L)) := (H.out.below ((Below.refl _ _).alloc (Nat.le_refl _) _)).pull1
          have B2 : Hid (Below base w (w.alloc (.cells #[i64 0] 2))) := (Below.refl _ _).alloc hbase _
          clear hq hl hp hd
          go_enter Try.func74, Try.ntmps74
          go_wp2_with (first
            | (go_at_call 45; go_must (refine (impl_in _ _ _ _).mono ?_); rintro e w' ⟨rfl, rfl⟩)
            | (at_builtin; refine ap_row elI rfl _ _ rfl _ 0 [] rfl H2.out _ 1 1 (nums [0]) rfl rfl R2.out (nums_one _) (fun h => by cases h) (by omega) (by simp; omega) ?_; rintro v' w1 HS HB -; obtain ⟨g, c', rfl, hg, hgl, hc, hfz⟩ := HS.form (by omega); have c3' : w1.cell? ⟨b, 1, none⟩ = some (.slice Ap 0 cp) := HS.pull1.cell 1; have f3' : w1.frozen? ⟨b, 1, none⟩ = false := HS.pull1.free 1; clear hc hfz; have R3 : Hid (Rd ((w1.setCell ⟨b, 1, none⟩ (.slice (some ⟨g, 0, none⟩) 1 c')).alloc (.cells #[i64 0] 2)) (some ⟨w1.heap.size, 0, none⟩) (nums [0])) := Rd.box _ _ _ (by simp); have hb1 : base ≤ w1.heap.size := by omega)
            | (at_builtin; go_must (refine ap_row elI rfl _ _ rfl _ 1 (nums [0]) rfl ((HS.pull1.setCell 1 (.slice (some ⟨g, 0, none⟩) 1 c')).pull1.below ((Below.refl _ _).alloc (Nat.le_refl _) _)) _ 1 1 (nums [0]) rfl rfl R3.out (nums_one _) (fun h => by cases h) (by omega) (by simp; omega) ?_); rintro v2 w2 HS2 HB2 -; obtain ⟨g2, c2', rfl, hg2, hgl2, hc2, hfz2⟩ := HS2.form (by omega); have c4' : w2.cell? ⟨b, 1, none⟩ = some (.slice (some ⟨g, 0, none⟩) 1 c') := HS2.pull1.cell 1; have f4' : w2.frozen? ⟨b, 1, none⟩ = false := HS2.pull1.free 1; clear hc2 hfz2))
          go_ret
          exact ⟨_, .slice (some ⟨g2, 0, none⟩) 2 c2', vt, [], rfl, rfl, (addNil (HS2.pull1.setCell 1 (.slice (some ⟨g2, 0, none⟩) 2 c2')) _ _).push3, (((B2.out.trans HB).setCell hb _).trans (((Below.refl _ _).alloc (by simp; omega) _).trans HB2)).setCell hb _⟩
        · have hln : ((p.ps.length : Int) == 0) = false := beq_eq_false_iff_ne.2 (by omega)
          have hs0 : some0 p.ps = p.ps := if_neg hl
          by_cases h16 : p.ps.length < 16
          · have hf : Hid (moreF p 59 = ({ p with ps := p.ps ++ [0] }, [])) := by simp [moreF, hs0, h16, Hid, inB]
            have R2 : Hid (Rd (w.alloc (.cells #[i64 0] 2)) (some ⟨w.heap.size, 0, none⟩) (nums [0])) := Rd.box _ _ _ (by simp)
            have H2 : Hid (Own base (w.alloc (.cells #[i64 0] 2)) (rowI (.slice Ap p.ps.length cp) p.ps :: cellsAt b 26 (parsCells p (.slice Ap p.ps.length cp) vt) :: rowI vt p.tx :: L)) := (H.out.below ((Below.refl _ _).alloc (Nat.le_refl _) _)).pull1
            have B2 : Hid (Below base w (w.alloc (.cells #[i64 0] 2))) := (Below.refl _ _).alloc hbase _
            clear hq hl hp hd hs0
            go_enter Try.func74, Try.ntmps74
            go_wp2_with (first
              | (go_at_call 45; go_must (refine (impl_in _ _ _ _).mono ?_); rintro e w' ⟨rfl, rfl⟩)
              | (at_builtin; go_must (refine ap_row elI rfl _ _ rfl _ p.ps.length (nums p.ps) rfl H2.out _ 1 1 (nums [0]) rfl rfl R2.out (nums_one _) (fun h => by cases h) (by omega) (by simp; omega) ?_); rintro v' w1 HS HB -; obtain ⟨A', c', rfl, -, -⟩ := HS.rd; have c3' : w1.cell? ⟨b, 1, none⟩ = some (.slice Ap p.ps.length cp) := HS.pull1.cell 1; have f3' : w1.frozen? ⟨b, 1, none⟩ = false := HS.pull1.free 1))
            go_ret
            rw [show moreF p 59 = ({ p with ps := p.ps ++ [0] }, []) from hf]
            rw [rowI_snoc] at HS
            exact ⟨_, .slice A' (p.ps.length + 1) c', vt, [], rfl, rfl, (addNil (HS.pull1.setCell 1 (.slice A' (p.ps.length + 1) c')) _ _).push3, (B2.out.trans HB).setCell hb _⟩
          · have hf : Hid (moreF p 59 = (p, [])) := by simp [moreF, hs0, h16, Hid, inB]
            clear hq hp hd hs0
            go_enter Try.func74, Try.ntmps74
            go_wp2_with (first
              | (go_at_call 45; go_must (refine (impl_in _ _ _ _).mono ?_); rintro e w' ⟨rfl, rfl⟩))
            go_ret
            rw [show moreF p 59 = (p, []) from hf]
            exact ⟨_, _, vt, [], rfl, rfl, (addNil H.out _ _).push3, Below.refl _ _⟩
      · have h59b : (r == 59) = false := beq_eq_false_iff_ne.2 h59
        have H1 : Hid (Own base (w.alloc (.cells #[] 53)) (row 53 5 (.slice (some ⟨w.heap.size, 0, none⟩) 0 0) 0 [] :: (parsAt b p (.slice Ap p.ps.length cp) vt ++ L))) :=
          H.out.addRow ((Below.refl _ _).alloc (Nat.le_refl _) _) hbase (World.ownsRow_made w #[] 0 (Nat.le_refl _) (Nat.zero_le _) (by simp))
        have B1 : Hid (Below base w (w.alloc (.cells #[] 53))) := (Below.refl _ _).alloc hbase _
        by_cases hin : inB r 64 126 = true
        · have hn63 : (r == 63) = false := beq_eq_false_iff_ne.2 (fun e => by subst e; simp [inB] at hin)
          have hf : Hid (moreF p r = (stateP 1, [⟨4, r, p.ps, p.mr, []⟩])) := by
            have : ¬ r = 63 := fun e => by subst e; simp [inB] at hin
            simp [moreF, this, hdF, h59, hin, Hid]
          have one : ∀ u ∈ acCells ⟨⟨4, r, p.ps, p.mr, []⟩, .slice Ap p.ps.length cp, nilS⟩, u.oneCell' = true := by simp [acCells, Value.oneCell']
          clear hq hp hd
          go_enter Try.func74, Try.ntmps74
          go_wp2_with (first
            | (go_at_call 45; go_must (refine (impl_in _ _ _ _).mono ?_); rintro e w' ⟨rfl, rfl⟩))
          have R2 : Hid (Rd ((w.alloc (.cells #[] 53)).drew.alloc (.cells (acCells ⟨⟨4, r, p.ps, p.mr, []⟩, .slice Ap p.ps.length cp, nilS⟩).toArray 53)) (some ⟨w.heap.size + 1, 0, none⟩) (acCells ⟨⟨4, r, p.ps, p.mr, []⟩, .slice Ap p.ps.length cp, nilS⟩)) := Rd.box _ _ _ (by simp)
          go_region_held3 (fun w' => w'.cell? ⟨b, 1, none⟩ = some (.slice Ap p.ps.length cp) ∧ w'.cell? ⟨b, 2, none⟩ = some (i64 p.mr))
            (first
              | go_keep
              | exact ⟨HS.pull1.cell 1, HS.pull1.cell 2⟩)
            ((refine st_row elA (by rfl) _ _ (by rfl) _ 0 [] (by rfl) (H1.out.drew.below ((Below.refl _ _).alloc (Nat.le_refl _) _)) _ 1 1 (acCells ⟨⟨4, r, p.ps, p.mr, []⟩, .slice Ap p.ps.length cp, nilS⟩) (by rfl) (by rfl) R2.out one (fun h => by cases h) (by omega) (by simp; omega) ?_; intro v' w1 HS HB hgrow))
          go_wp2_with (first
            | (go_at_call 71; go_must (refine (become_calls base b p.st 1 p.mr _ vt _ _ HS.pull1).mono ?_); rintro e w' ⟨rfl, HS2, HB2⟩))
          go_ret
          rw [show moreF p r = (stateP 1, [⟨4, r, p.ps, p.mr, []⟩]) from hf]
          refine ⟨_, nilS, nilS, [⟨⟨4, r, p.ps, p.mr, []⟩, .slice Ap p.ps.length cp, nilS⟩], rfl, rfl, ?_, ?_⟩
          · exact (addNil (addNil (addNil HS2.drop3 _ _).push3 _ _) _ _).pull2
          · exact (B1.out.drew.trans ((Below.refl _ _).alloc (by simp; omega) _)).trans (HB.trans HB2)
        · have hf : Hid (moreF p r = (stateP 1, [])) := by
            have : ¬ (r = 63 ∧ p.ps = [] ∧ p.mr = 0) := fun ⟨a, b, c⟩ => hq ⟨a, by rw [b]; rfl, c⟩
            simp [moreF, this, hdF, h59, hin, Hid]
          have fin : ∀ (w' : World), Own base w' (cellsAt b 26 [i64 1, nilS, i64 0, nilS] :: row 53 5 (.slice (some ⟨w.heap.size, 0, none⟩) 0 0) 0 [] :: rowI (.slice Ap p.ps.length cp) p.ps :: rowI vt p.tx :: L) → Below base (w.alloc (.cells #[] 53)) w' → ParsPost base b (moreF p r) L (.returned (.slice (some ⟨w.heap.size, 0, none⟩) 0 0)) w' w := by
            intro w' HS HB
            rw [show moreF p r = (stateP 1, []) from hf]
            exact ⟨_, nilS, nilS, [], rfl, rfl, (addNil (addNil HS.drop2.drop2 _ _) _ _).pull2, B1.out.trans HB⟩
          have Fin := Aside0.mk fin
          clear fin hp hd
          by_cases h63 : r = 63
          · subst h63
            have hinF : inB 63 64 126 = false := rfl
            by_cases hl : p.ps.length = 0
            · have hm : (p.mr == 0) = false := beq_eq_false_iff_ne.2 fun e => hq ⟨rfl, hl, e⟩
              have hl1 : ((p.ps.length : Int) == 0) = true := beq_iff_eq.2 (by omega)
              clear hq hl
              go_enter Try.func74, Try.ntmps74
              go_wp2_with (first
                | (go_at_call 45; go_must (refine (impl_in _ _ _ _).mono ?_); rintro e w' ⟨rfl, rfl⟩)
                | (go_at_call 71; go_must (refine (become_calls base b p.st 1 p.mr _ vt _ _ H1.out.pull1).mono ?_); rintro e w' ⟨rfl, HS, HB⟩))
              go_ret
              exact Fin.out _ HS HB
            · have hl1 : ((p.ps.length : Int) == 0) = false := beq_eq_false_iff_ne.2 (by omega)
              clear hq hl
              go_enter Try.func74, Try.ntmps74
              go_wp2_with (first
                | (go_at_call 45; go_must (refine (impl_in _ _ _ _).mono ?_); rintro e w' ⟨rfl, rfl⟩)
                | (go_at_call 71; go_must (refine (become_calls base b p.st 1 p.mr _ vt _ _ H1.out.pull1).mono ?_); rintro e w' ⟨rfl, HS, HB⟩))
              go_ret
              exact Fin.out _ HS HB
          · have hn63 : (r == 63) = false := beq_eq_false_iff_ne.2 h63
            have hinF : inB r 64 126 = false := by simpa using hin
            clear hq hin
            go_enter Try.func74, Try.ntmps74
            go_wp2_with (first
              | (go_at_call 45; go_must (refine (impl_in _ _ _ _).mono ?_); rintro e w' ⟨rfl, rfl⟩)
              | (go_at_call 71; go_must (refine (become_calls base b p.st 1 p.mr _ vt _ _ H1.out.pull1).mono ?_); rintro e w' ⟨rfl, HS, HB⟩))
            go_ret
            exact Fin.out _ HS HB
end Go.Proofs.Ytecjokjmmejinaa
