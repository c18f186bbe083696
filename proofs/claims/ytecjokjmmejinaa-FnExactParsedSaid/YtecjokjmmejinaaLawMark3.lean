/- The laws' markActionS. -/
import Derived.Test.YtecjokjmmejinaaLawMark2
namespace Go.Proofs.Ytecjokjmmejinaa
open Go.RowKit SL

set_option maxRecDepth 100000 in
set_option maxHeartbeats 1000000 in
theorem markActionS_calls (base : Nat) (v : Value) (l : List AcV) (k : Int) (L : List Atm) (w : World) (hbase : base ≤ w.heap.size) (h0 : 0 ≤ k) (hk : k ≤ 100000000) (hs : Short l) (hl : l.length ≤ 1000000) (h : Own base w (acsAt v l ++ L)) :
    Calls Try.prog 13 #[v, i64 k] w fun e w' => e = .returned (i64 (nextAs k l)) ∧ Own base w' (acsAt v (markAs k l) ++ L) ∧ Below base w w' := by
  obtain ⟨A, c, rfl, hc0, -⟩ := Own.rd (show Own base w (row _ _ _ _ _ :: (l.flatMap acRows ++ L)) from h)
  have hb0 : Aside0 (Below base w w) := ⟨Below.refl _ _⟩
  have H0 := Aside0.mk h
  have HS := Aside0.mk hs
  clear h hs
  go_enter Try.func13, Try.ntmps13
  go_wp2
  go_loopw [1, 5] (fun s1 s5 wr => ∃ j : Nat, j ≤ l.length ∧ s1 = .int .i64 (nextAs k (l.take j)) ∧ s5 = .int .i64 j ∧ Own base wr (acsAt (.slice A l.length c) (markAs k (l.take j) ++ l.drop j) ++ L) ∧ Hid (Below base w wr)) (fun _ s5 wr => l.length - (intOf s5).toNat)
  case atStart => exact ⟨0, Nat.zero_le _, rfl, rfl, H0.out, hb0.out⟩
  case round =>
    obtain ⟨j, hj, rfl, rfl, HW, HB⟩ := hrel
    have H5 := Aside0.mk HW
    clear HW H0 hb0
    by_cases hlt : j < l.length
    · have hd : l.drop j = l[j] :: l.drop (j + 1) := List.drop_eq_getElem_cons hlt
      have ht : l.take (j + 1) = l.take j ++ [l[j]] := by rw [List.take_add_one, List.getElem?_eq_getElem hlt]; rfl
      have hkb : nextAs k (l.take j) ≤ k + 203 * (l.take j).length := nextAs_bound k _ fun x hx => HS.out x (List.mem_of_mem_take hx)
      have hk0 : 0 ≤ nextAs k (l.take j) := Int.le_trans h0 (nextAs_le k _)
      have hsx := HS.out l[j] (List.getElem_mem _)
      rw [List.length_take] at hkb
      have hkb2 : nextAs k (l.take j) ≤ 1000000000 := by omega
      have hma : markAs k (l.take (j + 1)) = markAs k (l.take j) ++ [markA l[j] (nextAs k (l.take j))] := by rw [ht, markAs_append]; rfl
      have hna : nextAs k (l.take (j + 1)) = nextA l[j] (nextAs k (l.take j)) := by rw [ht, nextAs_append]; rfl
      have hl1 : (markAs k (l.take j)).length = j := by rw [markAs_len, List.length_take]; omega
      have hN : (markAs k (l.take j) ++ l[j] :: l.drop (j + 1)).length = l.length := by simp [markAs_len]; omega
      rw [hd] at H5
      have HM := Aside0.mk hma
      have HN := Aside0.mk hna
      clear hma hna hd ht hkb
      generalize hl2 : l.drop (j + 1) = l2 at *
      have HL2 := Aside0.mk hl2
      clear hl2
      generalize markAs k (l.take j) = l1 at *
      generalize nextAs k (l.take j) = kk at *
      generalize l[j] = x at *
      have hbz := (show Below _ _ _ from HB).size
      have H6 := acs_open H5.out
      obtain ⟨a, vp, vt⟩ := x
      obtain ⟨Ap, cp, e1, -, -⟩ := H6.pull1.rd
      obtain ⟨At, ct, e2, -, -⟩ := H6.pull2.rd
      simp only at e1 e2
      subst e1
      subst e2
      subst hl1
      rw [hN] at H6
      obtain ⟨g, c2, e, hg, hgl, -, -⟩ := H6.form (by omega)
      simp only [Value.slice.injEq] at e
      obtain ⟨rfl, -, rfl⟩ := e
      have HNN : Aside0 (∀ y, (l1 ++ y :: l2).length = l.length) := ⟨fun y => by have := hN; simpa using this⟩
      have k0 : wr.cell? ⟨g, l1.length * 5, none⟩ = some (i64 a.kind) := (acs_cells hN H6 0 (by omega)).1
      have k1 : wr.cell? ⟨g, l1.length * 5 + 1, none⟩ = some (i64 a.rune) := (acs_cells hN H6 1 (by omega)).1
      have k2 : wr.cell? ⟨g, l1.length * 5 + 2, none⟩ = some (.slice Ap a.ps.length cp) := (acs_cells hN H6 2 (by omega)).1
      have f0 : wr.frozen? ⟨g, l1.length * 5, none⟩ = false := (acs_cells hN H6 0 (by omega)).2
      have f1 : wr.frozen? ⟨g, l1.length * 5 + 1, none⟩ = false := (acs_cells hN H6 1 (by omega)).2
      have H7 : Aside0 (Own base ((wr.setCell ⟨g, l1.length * 5, none⟩ (i64 kk)).setCell ⟨g, l1.length * 5 + 1, none⟩ (i64 (kk + 1))) (rowI (.slice Ap a.ps.length cp) a.ps :: row 53 5 (.slice (some ⟨g, 0, none⟩) l.length c) l.length ((l1 ++ ⟨{ a with kind := kk, rune := kk + 1 }, .slice Ap a.ps.length cp, .slice At a.tx.length ct⟩ :: l2).flatMap acCells) :: rowI (.slice At a.tx.length ct) a.tx :: (l1.flatMap acRows ++ (l2.flatMap acRows ++ L)))) := Aside0.mk (acs_put ⟨{ a with kind := kk, rune := kk + 1 }, .slice Ap a.ps.length cp, .slice At a.tx.length ct⟩ 1 (i64 (kk + 1)) (by omega) (by rfl) (acs_put ⟨{ a with kind := kk }, .slice Ap a.ps.length cp, .slice At a.tx.length ct⟩ 0 (i64 kk) (by omega) (by rfl) H6)).pull1
      have hu := Try.underlying53
      have sA := szA
      have hb1 : 0 ≤ kk + 1 + 1 := by omega
      have hb2 : kk + 1 + 1 + a.ps.length ≤ 1000000000000 := by have := hsx.1; simp only at this; omega
      have hb3 : 0 ≤ kk + 1 + 1 + a.ps.length + 1 := by omega
      have hb4 : kk + 1 + 1 + a.ps.length + 1 + a.tx.length ≤ 1000000000000 := by have := hsx.1; have := hsx.2; simp only at *; omega
      clear H5
      go_wp2_with (first
        | (go_at_call 20; (with_reducible refine (markInt64S_calls base (.slice Ap a.ps.length cp) a.ps (kk + 1 + 1) _ _ hb1 hb2 H7.out).mono ?_); rintro e w1 ⟨rfl, HS1, HB1⟩
           have q3 : w1.cell? ⟨g, l1.length * 5 + 3, none⟩ = some (i64 a.mr) := (acs_cells (HNN.out _) HS1.pull1 3 (by omega)).1
           have q4 : w1.cell? ⟨g, l1.length * 5 + 4, none⟩ = some (.slice At a.tx.length ct) := (acs_cells (HNN.out _) HS1.pull1 4 (by omega)).1
           have g3 : w1.frozen? ⟨g, l1.length * 5 + 3, none⟩ = false := (acs_cells (HNN.out _) HS1.pull1 3 (by omega)).2
           have H8 : Aside0 (Own base (w1.setCell ⟨g, l1.length * 5 + 3, none⟩ (i64 (kk + 1 + 1 + a.ps.length))) (rowI (.slice At a.tx.length ct) a.tx :: row 53 5 (.slice (some ⟨g, 0, none⟩) l.length c) l.length ((l1 ++ markA ⟨a, .slice Ap a.ps.length cp, .slice At a.tx.length ct⟩ kk :: l2).flatMap acCells) :: rowI (.slice Ap a.ps.length cp) (marksI (kk + 1 + 1) a.ps.length) :: (l1.flatMap acRows ++ (l2.flatMap acRows ++ L)))) :=
             Aside0.mk (acs_put (markA ⟨a, .slice Ap a.ps.length cp, .slice At a.tx.length ct⟩ kk) 3 (i64 (kk + 1 + 1 + a.ps.length)) (by omega) (by simp [acCells, markA]; omega) HS1.pull1).pull2)
        | (go_at_call 20; (with_reducible refine (markInt64S_calls base (.slice At a.tx.length ct) a.tx (kk + 1 + 1 + a.ps.length + 1) _ _ hb3 hb4 H8.out).mono ?_); rintro e w2 ⟨rfl, HS2, HB2⟩))
      go_roundw
      case rel =>
        refine ⟨l1.length + 1, by omega, ?_, by go_num, ?_, (((show Below _ _ _ from HB).setCell hg _).setCell hg _).trans (HB1.trans (((Below.refl _ _).setCell hg _).trans HB2))⟩
        · rw [HN.out]; simp [nextA]; omega
        · rw [HM.out, HL2.out]
          have e1 : kk + 1 + 1 = kk + 2 := by omega
          have e2 : kk + 1 + 1 + a.ps.length + 1 = kk + 3 + a.ps.length := by omega
          rw [e2, e1] at HS2
          have h9 := HS2.pull1.pull2
          have h10 := acs_shut (x := markA ⟨a, .slice Ap a.ps.length cp, .slice At a.tx.length ct⟩ kk) (l1 := l1) (l2 := l2) (L := L) (v := .slice (some ⟨g, 0, none⟩) l.length c) (w := w2) (base := base) (by
            rw [HNN.out]
            exact h9.pull1)
          simpa [List.append_assoc] using h10
      case measure => simp [intOf]; omega
    · have hkn : j = l.length := by omega
      subst hkn
      rw [List.take_length, List.drop_length, List.append_nil] at H5
      go_wp2
      go_ret
      rw [List.take_length]
      exact ⟨rfl, H5.out, HB⟩
end Go.Proofs.Ytecjokjmmejinaa
