/- The laws' heldActionS. -/
import Derived.Test.YtecjokjmmejinaaLawMark3
namespace Go.Proofs.Ytecjokjmmejinaa
open Go.RowKit SL

theorem markAs_get (k : Int) (l : List AcV) (j : Nat) (h : j < l.length) : (markAs k l)[j]'(by rw [markAs_len]; exact h) = markA l[j] (nextAs k (l.take j)) := by
  induction l generalizing k j with
  | nil => simp at h
  | cons x l ih =>
    cases j with
    | zero => rfl
    | succ j => simpa [markAs, nextAs] using ih (nextA x k) j (by simpa using h)

set_option maxRecDepth 100000 in
set_option maxHeartbeats 1000000 in
theorem heldActionS_calls (v : Value) (l : List AcV) (k : Int) (w : World) (h0 : 0 ≤ k) (hk : k ≤ 100000000) (hs : Short l) (hl : l.length ≤ 1000000) (h : RdAs w v (markAs k l)) :
    Calls Try.prog 15 #[v, i64 k] w fun e w' => e = .returned (i64 (nextAs k l)) ∧ w = w' := by
  have HA := Aside0.mk h
  have HS := Aside0.mk hs
  obtain ⟨A, c, rfl, -⟩ := h.ex
  rw [markAs_len]
  have hu := Try.underlying53
  have sA := szA
  clear h hs
  go_enter Try.func15, Try.ntmps15
  go_wp2
  go_loop [1, 5] (fun s1 s5 => ∃ j : Nat, j ≤ l.length ∧ s1 = .int .i64 (nextAs k (l.take j)) ∧ s5 = .int .i64 j) (fun _ s5 => l.length - (intOf s5).toNat)
  case atStart => exact ⟨0, Nat.zero_le _, rfl, rfl⟩
  case round =>
    obtain ⟨j, hj, rfl, rfl⟩ := hrel
    by_cases hlt : j < l.length
    · have ht : l.take (j + 1) = l.take j ++ [l[j]] := by rw [List.take_add_one, List.getElem?_eq_getElem hlt]; rfl
      have hkb : nextAs k (l.take j) ≤ k + 203 * (l.take j).length := nextAs_bound k _ fun x hx => HS.out x (List.mem_of_mem_take hx)
      have hk0 : 0 ≤ nextAs k (l.take j) := Int.le_trans h0 (nextAs_le k _)
      have hsx := HS.out l[j] (List.getElem_mem _)
      rw [List.length_take] at hkb
      have hkb2 : nextAs k (l.take j) ≤ 1000000000 := by omega
      have hna : nextAs k (l.take (j + 1)) = nextA l[j] (nextAs k (l.take j)) := by rw [ht, nextAs_append]; rfl
      obtain ⟨ad, c', e, hca⟩ := HA.out.get (k := j) (by rw [markAs_len]; exact hlt)
      rw [markAs_len] at e
      simp only [Value.slice.injEq] at e
      obtain ⟨rfl, -, rfl⟩ := e
      have hx := HA.out.el _ (List.getElem_mem (by rw [markAs_len]; exact hlt : j < (markAs k l).length))
      rw [markAs_get k l j hlt] at hca hx
      have HN := Aside0.mk hna
      clear hna ht hkb
      generalize nextAs k (l.take j) = kk at *
      generalize l[j] = x at *
      obtain ⟨a, vp, vt⟩ := x
      obtain ⟨Ap, cp, e1, -⟩ := hx.ps.ex
      obtain ⟨At, ct, e2, -⟩ := hx.tx.ex
      simp only [markA, marksI_len] at e1 e2
      subst e1
      subst e2
      have hxp : Sl w 1 (.slice Ap a.ps.length cp) a.ps.length (nums (marksI (kk + 1 + 1) a.ps.length)) := by
        have := hx.ps
        simp only [markA, marksI_len] at this
        rw [show kk + 1 + 1 = kk + 2 by omega]
        exact this
      have hxt : Sl w 1 (.slice At a.tx.length ct) a.tx.length (nums (marksI (kk + 1 + 1 + a.ps.length + 1) a.tx.length)) := by
        have := hx.tx
        simp only [markA, marksI_len] at this
        rw [show kk + 1 + 1 + (a.ps.length : Int) + 1 = kk + 3 + a.ps.length by omega]
        exact this
      have k0 : w.cell? (ad.add (j * 5)) = some (i64 kk) := hca 0 (by omega)
      have k1 : w.cell? ⟨(ad.add (j * 5)).block, (ad.add (j * 5)).off + 1, none⟩ = some (i64 (kk + 1)) := by rw [← add_field ad (j * 5) 1 (by omega)]; exact hca 1 (by omega)
      have k2 : w.cell? ⟨(ad.add (j * 5)).block, (ad.add (j * 5)).off + 2, none⟩ = some (.slice Ap a.ps.length cp) := by rw [← add_field ad (j * 5) 2 (by omega)]; exact hca 2 (by omega)
      have k3 : w.cell? ⟨(ad.add (j * 5)).block, (ad.add (j * 5)).off + 3, none⟩ = some (i64 (kk + 1 + 1 + a.ps.length)) := by
        rw [← add_field ad (j * 5) 3 (by omega), show kk + 1 + 1 + (a.ps.length : Int) = kk + 2 + a.ps.length by omega]; exact hca 3 (by omega)
      have k4 : w.cell? ⟨(ad.add (j * 5)).block, (ad.add (j * 5)).off + 4, none⟩ = some (.slice At a.tx.length ct) := by rw [← add_field ad (j * 5) 4 (by omega)]; exact hca 4 (by omega)
      have HXP := Aside0.mk hxp
      have HXT := Aside0.mk hxt
      have hb1 : 0 ≤ kk + 1 + 1 := by omega
      have hb2 : kk + 1 + 1 + a.ps.length ≤ 1000000000000 := by have := hsx.1; simp only at this; omega
      have hb3 : 0 ≤ kk + 1 + 1 + a.ps.length + 1 := by omega
      have hb4 : kk + 1 + 1 + a.ps.length + 1 + a.tx.length ≤ 1000000000000 := by have := hsx.1; have := hsx.2; simp only at *; omega
      clear hca hx hxp hxt
      go_wp2_with (first
        | (go_at_call 35; (with_reducible refine (heldInt64S_calls (.slice Ap a.ps.length cp) a.ps.length (kk + 1 + 1) _ hb1 hb2 HXP.out).mono ?_); rintro e w1 ⟨rfl, rfl⟩)
        | (go_at_call 35; (with_reducible refine (heldInt64S_calls (.slice At a.tx.length ct) a.tx.length (kk + 1 + 1 + a.ps.length + 1) _ hb3 hb4 HXT.out).mono ?_); rintro e w1 ⟨rfl, rfl⟩))
      go_round
      case rel => exact ⟨j + 1, by omega, by rw [HN.out]; simp [nextA]; omega, by go_num⟩
      case measure => simp [intOf]; omega
    · have hkn : j = l.length := by omega
      subst hkn
      go_wp2
      go_ret
      exact ⟨rfl, rfl⟩
end Go.Proofs.Ytecjokjmmejinaa
