/- The laws' szParser, toParser, eqParser, eqAction, markParser, heldParser. -/
import Derived.Test.YtecjokjmmejinaaLawInts
namespace Go.Proofs.Ytecjokjmmejinaa
open Go.RowKit SL

set_option maxRecDepth 100000 in
theorem szLP : ∀ w, (Go.sizeOf 24).run Try.prog w = .ok 4 w := fun _ => by rfl

set_option maxRecDepth 100000 in
set_option maxHeartbeats 1000000 in
theorem szParser_calls (st mr : Int) (Ap At : Option Addr) (n cp m ct : Nat) (w : World) (hn : n ≤ 9223372036854775807) (hm : m ≤ 9223372036854775807) :
    Calls Try.prog 6 #[.agg #[i64 st, .slice Ap n cp, i64 mr, .slice At m ct], i64 1048576] w fun e w' => (∃ z : Int, e = .returned (i64 z) ∧ (z < 0 ∨ n + m ≤ 1048576)) ∧ Below w.heap.size w w' := by
  have hu := Try.underlying24
  have sP := szLP
  have B0 := Aside0.mk fun o => (Below.refl w.heap.size w).alloc (Nat.le_refl _) o
  by_cases h1 : (1048576 : Int) < n
  · go_enter Try.func6, Try.ntmps6
    go_wp2_with (go_at_call 30; go_must (with_reducible refine (szInt64S_calls Ap n cp 1048576 _ hn (by omega) (by omega)).mono ?_); rintro e w' ⟨rfl, rfl⟩; rw [if_pos h1])
    go_ret
    exact ⟨⟨-1, rfl, .inl (by omega)⟩, B0.out _⟩
  · by_cases h2 : (1048576 : Int) - n < m
    · go_enter Try.func6, Try.ntmps6
      go_wp2_with (first
        | (go_at_call 30; (with_reducible refine (szInt64S_calls Ap n cp 1048576 _ hn (by omega) (by omega)).mono ?_); rintro e w' ⟨rfl, rfl⟩; rw [if_neg (by omega)])
        | (go_at_call 30; (with_reducible refine (szInt64S_calls At m ct (1048576 - n) _ hm (by omega) (by omega)).mono ?_); rintro e w' ⟨rfl, rfl⟩; rw [if_pos h2]))
      go_ret
      exact ⟨⟨-1, rfl, .inl (by omega)⟩, B0.out _⟩
    · go_enter Try.func6, Try.ntmps6
      go_wp2_with (first
        | (go_at_call 30; (with_reducible refine (szInt64S_calls Ap n cp 1048576 _ hn (by omega) (by omega)).mono ?_); rintro e w' ⟨rfl, rfl⟩; rw [if_neg (by omega)])
        | (go_at_call 30; (with_reducible refine (szInt64S_calls At m ct (1048576 - n) _ hm (by omega) (by omega)).mono ?_); rintro e w' ⟨rfl, rfl⟩; rw [if_neg (by omega)]))
      go_ret
      exact ⟨⟨_, rfl, .inr (by omega)⟩, B0.out _⟩

set_option maxRecDepth 100000 in
set_option maxHeartbeats 1000000 in
theorem toParser_calls (p : Pars) (vp vt : Value) (w : World) (hr : RdP w p vp vt) (hl1 : p.ps.length ≤ 10000000) (hl2 : p.tx.length ≤ 10000000) :
    Calls Try.prog 8 #[parsV p vp vt] w fun e w' => ∃ vp' vt', e = .returned (parsV p vp' vt') ∧ Own w.heap.size w' [rowI vp' p.ps, rowI vt' p.tx] ∧ Below w.heap.size w w' := by
  have HR := Aside0.mk hr
  obtain ⟨Ap, cp, rfl, -⟩ := hr.ps.ex
  obtain ⟨At, ct, rfl, -⟩ := hr.tx.ex
  clear hr
  have hu := Try.underlying26
  have hul := Try.underlying24
  have sP := szP
  have zP := zvP
  have sLP := szLP
  have H0 := Aside0.mk (((((Own.nil w.heap.size w).alloc (Nat.le_refl _) [i64 p.st, .slice Ap p.ps.length cp, i64 p.mr, .slice At p.tx.length ct] 24 rfl).alloc (by simp) [i64 0, nilS, i64 0, nilS] 26 (b := w.heap.size + 1) (by simp)).alloc (by simp <;> omega) [i64 p.st, nilS, i64 0, nilS] 26 (b := w.heap.size + 2) (by simp)))
  have B0 := Aside0.mk ((((Below.refl w.heap.size w).alloc (Nat.le_refl _) (.cells #[i64 p.st, .slice Ap p.ps.length cp, i64 p.mr, .slice At p.tx.length ct] 24)).alloc (by simp) (.cells #[i64 0, nilS, i64 0, nilS] 26)).alloc (by simp <;> omega) (.cells #[i64 p.st, nilS, i64 0, nilS] 26))
  unfold parsV
  go_enter Try.func8, Try.ntmps8
  go_wp2_with (first
    | (go_at_call 17; (with_reducible refine (toInt64S_calls (.slice Ap p.ps.length cp) p.ps _ (HR.out.ps.below B0.out) hl1).mono ?_); rintro e w1 ⟨vp1, rfl, HS1, HB1⟩
       obtain ⟨A1, c1, rfl, -, -⟩ := HS1.rd
       have H1 := H0.out.join HB1 (by simp <;> omega) HS1
       have B1 := Aside0.mk (B0.out.trans (HB1.mono (by simp <;> omega)))
       have hlt1 : w.heap.size + 2 < w1.heap.size := H1.pull1.block_lt
       obtain ⟨⟨s0, s1, s2, s3⟩, t0, t1, t2, t3⟩ := H1.pull1.c4
       obtain ⟨⟨z0, z1, z2, z3⟩, y0, y1, y2, y3⟩ := H1.pull2.c4
       obtain ⟨⟨r0, r1, r2, r3⟩, u0, u1, u2, u3⟩ := H1.pull3.c4
       have BB := Aside0.mk ((B1.out.setCell (p := ⟨w.heap.size + 2, 1, none⟩) (by simp <;> omega) (.slice A1 p.ps.length c1)).setCell (p := ⟨w.heap.size + 2, 2, none⟩) (by simp <;> omega) (i64 p.mr))
       have HX1 := Aside0.mk ((H1.pull1.setCell 1 (.slice A1 p.ps.length c1)).setCell 2 (i64 p.mr)))
    | (go_at_call 17; (with_reducible refine (toInt64S_calls (.slice At p.tx.length ct) p.tx _ (HR.out.tx.below BB.out) hl2).mono ?_); rintro e w2 ⟨vt2, rfl, HS2, HB2⟩
       obtain ⟨A2, c2, rfl, -, -⟩ := HS2.rd
       have H2 := HX1.out.join HB2 (by simp <;> omega) HS2
       have B2 := Aside0.mk (BB.out.trans (HB2.mono (by simp <;> omega)))
       obtain ⟨⟨s0, s1, s2, s3⟩, t0, t1, t2, t3⟩ := H2.pull1.c4
       obtain ⟨⟨z0, z1, z2, z3⟩, y0, y1, y2, y3⟩ := H2.pull3.c4))
  have HE := (H2.pull1.setCell 3 (.slice A2 p.tx.length c2)).pull3.set4 (i64 p.st) (.slice A1 p.ps.length c1) (i64 p.mr) (.slice A2 p.tx.length c2)
  refine bodyPost_ret (v := .agg #[i64 p.st, .slice A1 p.ps.length c1, i64 p.mr, .slice A2 p.tx.length c2]) (HE.res1 rfl rfl rfl hu (by kernel_rfl)) rfl ?_
  exact ⟨_, _, rfl, HE.tail.tail.pull1.left (M := [_]), below_set4 (B2.out.setCell (by simp <;> omega) _) (by omega) _ _ _ _⟩
set_option maxRecDepth 100000 in
set_option maxHeartbeats 1000000 in
theorem eqParser_calls (p : Pars) (va vb vc vd : Value) (w : World) (ha : RdP w p va vb) (hb : RdP w p vc vd) :
    Calls Try.prog 10 #[parsV p va vb, parsV p vc vd] w fun e w' => e = .returned (.bool true) ∧ Below w.heap.size w w' := by
  have HA := Aside0.mk ha
  have HB := Aside0.mk hb
  obtain ⟨A1, c1, rfl, -⟩ := ha.ps.ex
  obtain ⟨A2, c2, rfl, -⟩ := ha.tx.ex
  obtain ⟨A3, c3, rfl, -⟩ := hb.ps.ex
  obtain ⟨A4, c4, rfl, -⟩ := hb.tx.ex
  clear ha hb
  have hu := Try.underlying26
  have sP := szP
  have H0 := Aside0.mk (((Own.nil w.heap.size w).alloc (Nat.le_refl _) [i64 p.st, .slice A1 p.ps.length c1, i64 p.mr, .slice A2 p.tx.length c2] 26 rfl).alloc (by simp) [i64 p.st, .slice A3 p.ps.length c3, i64 p.mr, .slice A4 p.tx.length c4] 26 (b := w.heap.size + 1) (by simp))
  have B0 := Aside0.mk (((Below.refl w.heap.size w).alloc (Nat.le_refl _) (.cells #[i64 p.st, .slice A1 p.ps.length c1, i64 p.mr, .slice A2 p.tx.length c2] 26)).alloc (by simp) (.cells #[i64 p.st, .slice A3 p.ps.length c3, i64 p.mr, .slice A4 p.tx.length c4] 26))
  unfold parsV
  go_enter Try.func10, Try.ntmps10
  go_wp2_with (first
    | (go_at_call 19; (with_reducible refine (eqInt64S_calls (.slice A1 p.ps.length c1) (.slice A3 p.ps.length c3) p.ps _ (HA.out.ps.below B0.out) (HB.out.ps.below B0.out)).mono ?_); rintro e w1 ⟨rfl, n1, hw1⟩
       have H1 := own_eq (H0.out.drewN n1) hw1.symm
       have B1 := Aside0.mk (below_eq (below_drewN B0.out n1) hw1.symm)
       clear hw1
       obtain ⟨⟨s0, s1, s2, s3⟩, -⟩ := H1.c4
       obtain ⟨⟨r0, r1, r2, r3⟩, -⟩ := H1.pull1.c4)
    | (go_at_call 19; (with_reducible refine (eqInt64S_calls (.slice A2 p.tx.length c2) (.slice A4 p.tx.length c4) p.tx _ (HA.out.tx.below B1.out) (HB.out.tx.below B1.out)).mono ?_); rintro e w2 ⟨rfl, n2, hw2⟩
       have B2 := Aside0.mk (below_eq (below_drewN B1.out n2) hw2.symm)
       clear hw2))
  go_ret
  exact ⟨rfl, B2.out⟩

set_option maxRecDepth 100000 in
set_option maxHeartbeats 1000000 in
theorem markParser_calls (base : Nat) (p : Pars) (vp vt : Value) (k : Int) (L : List Atm) (w : World) (hbase : base ≤ w.heap.size) (h0 : 0 ≤ k) (hk : k + p.ps.length + p.tx.length ≤ 1000000000000) (h : Own base w (rowI vp p.ps :: rowI vt p.tx :: L)) :
    Calls Try.prog 12 #[parsV p vp vt, i64 k] w fun e w' => e = .returned (i64 (k + p.ps.length + p.tx.length)) ∧
      Own base w' (rowI vp (marksI k p.ps.length) :: rowI vt (marksI (k + p.ps.length) p.tx.length) :: L) ∧ Below base w w' := by
  obtain ⟨A1, c1, rfl, -, -⟩ := h.rd
  obtain ⟨A2, c2, rfl, -, -⟩ := h.pull1.rd
  have hu := Try.underlying26
  have sP := szP
  have H0 := Aside0.mk (h.alloc hbase [i64 p.st, .slice A1 p.ps.length c1, i64 p.mr, .slice A2 p.tx.length c2] 26 rfl)
  have B0 := Aside0.mk ((Below.refl base w).alloc hbase (.cells #[i64 p.st, .slice A1 p.ps.length c1, i64 p.mr, .slice A2 p.tx.length c2] 26))
  have hl1 : k + p.ps.length ≤ 1000000000000 := by omega
  have hl2 : 0 ≤ k + p.ps.length := by omega
  clear h
  unfold parsV
  go_enter Try.func12, Try.ntmps12
  go_wp2_with (first
    | (go_at_call 20; (with_reducible refine (markInt64S_calls base (.slice A1 p.ps.length c1) p.ps k _ _ h0 hl1 H0.out.pull1).mono ?_); rintro e w1 ⟨rfl, HS1, HB1⟩
       obtain ⟨⟨r0, r1, r2, r3⟩, -⟩ := HS1.pull1.c4)
    | (go_at_call 20; (with_reducible refine (markInt64S_calls base (.slice A2 p.tx.length c2) p.tx (k + p.ps.length) _ _ hl2 hk HS1.pull2).mono ?_); rintro e w2 ⟨rfl, HS2, HB2⟩))
  go_ret
  exact ⟨rfl, HS2.pull1.drop2, B0.out.trans (HB1.trans HB2)⟩

set_option maxRecDepth 100000 in
set_option maxHeartbeats 1000000 in
theorem heldParser_calls (st mr : Int) (vp vt : Value) (n m : Nat) (k : Int) (w : World) (h0 : 0 ≤ k) (hk : k + n + m ≤ 1000000000000) (hp : Sl w 1 vp n (nums (marksI k n))) (ht : Sl w 1 vt m (nums (marksI (k + n) m))) :
    Calls Try.prog 14 #[.agg #[i64 st, vp, i64 mr, vt], i64 k] w fun e w' => e = .returned (i64 (k + n + m)) ∧ Below w.heap.size w w' := by
  have HP := Aside0.mk hp
  have HT := Aside0.mk ht
  obtain ⟨A1, c1, rfl, -⟩ := hp.ex
  obtain ⟨A2, c2, rfl, -⟩ := ht.ex
  clear hp ht
  have hu := Try.underlying26
  have sP := szP
  have B0 := Aside0.mk fun o => (Below.refl w.heap.size w).alloc (Nat.le_refl _) o
  have hl1 : k + n ≤ 1000000000000 := by omega
  have hl2 : 0 ≤ k + n := by omega
  go_enter Try.func14, Try.ntmps14
  go_wp2_with (first
    | (go_at_call 35; (with_reducible refine (heldInt64S_calls (.slice A1 n c1) n k _ h0 hl1 (HP.out.below (B0.out _))).mono ?_); rintro e w1 ⟨rfl, rfl⟩)
    | (go_at_call 35; (with_reducible refine (heldInt64S_calls (.slice A2 m c2) m (k + n) _ hl2 hk (HT.out.below (B0.out _))).mono ?_); rintro e w2 ⟨rfl, rfl⟩))
  go_ret
  exact ⟨rfl, B0.out _⟩
end Go.Proofs.Ytecjokjmmejinaa
