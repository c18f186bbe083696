/- The laws' eqActionS. -/
import Derived.Test.YtecjokjmmejinaaLawActs
namespace Go.Proofs.Ytecjokjmmejinaa
open Go.RowKit SL

theorem add_field (ad : Addr) (n j : Nat) (hj : 0 < j) : ad.add (n + j) = ⟨(ad.add n).block, (ad.add n).off + j, none⟩ := by
  unfold Addr.add
  by_cases h : n = 0
  · subst h; rw [if_pos rfl, if_neg (by omega), Nat.zero_add]
  · rw [if_neg (by omega), if_neg h, Nat.add_assoc]

set_option maxRecDepth 100000 in
set_option maxHeartbeats 1000000 in
theorem eqActionS_calls (va vb : Value) (l m : List AcV) (w : World) (ha : RdAs w va l) (hb : RdAs w vb m) (hlm : l.map AcV.a = m.map AcV.a) (hl : l.length ≤ 1000000) :
    Calls Try.prog 11 #[va, vb] w fun e w' => e = .returned (.bool true) ∧ Below w.heap.size w w' := by
  have HA := Aside0.mk ha
  have HB := Aside0.mk hb
  have hlen : m.length = l.length := by have := congrArg List.length hlm; simpa using this.symm
  have HLM := Aside0.mk hlm
  obtain ⟨A, c, rfl, -⟩ := ha.ex
  obtain ⟨B, d, rfl, -⟩ := hb.ex
  rw [hlen]
  have hu := Try.underlying53
  have sA := szA
  clear ha hb hlm
  have b0 := Aside0.mk (Below.refl w.heap.size w)
  go_enter Try.func11, Try.ntmps11
  go_wp2
  go_loopw [5] (fun s5 wr => ∃ k : Nat, k ≤ l.length ∧ s5 = .int .i64 k ∧ Hid (Below w.heap.size w wr)) (fun s5 wr => l.length - (intOf s5).toNat)
  case atStart => exact ⟨0, Nat.zero_le _, rfl, b0.out⟩
  case round =>
    obtain ⟨k, hk, rfl, HW⟩ := hrel
    by_cases hlt : k < l.length
    · obtain ⟨ad, c', e, hca⟩ := (HA.out.below HW).get hlt
      simp only [Value.slice.injEq] at e
      obtain ⟨rfl, -, rfl⟩ := e
      obtain ⟨bd, d', e, hcb⟩ := (HB.out.below HW).get (k := k) (by omega)
      simp only [Value.slice.injEq] at e
      obtain ⟨rfl, -, rfl⟩ := e
      have hab : l[k].a = (m[k]'(by omega)).a := by
        have := congrArg (fun x => x[k]?) HLM.out
        simpa [hlt, hlen] using this
      have hx := (HA.out.below HW).el l[k] (List.getElem_mem _)
      have hy := (HB.out.below HW).el (m[k]'(by omega)) (List.getElem_mem _)
      generalize l[k] = x at *
      generalize (m[k]'(by omega)) = y at *
      obtain ⟨a, vp, vt⟩ := x
      obtain ⟨a', vp', vt'⟩ := y
      simp only at hab
      subst hab
      have a0 : wr.cell? (ad.add (k * 5)) = some (i64 a.kind) := hca 0 (by omega)
      have a1 : wr.cell? ⟨(ad.add (k * 5)).block, (ad.add (k * 5)).off + 1, none⟩ = some (i64 a.rune) := by rw [← add_field ad (k * 5) 1 (by omega)]; exact hca 1 (by omega)
      have a2 : wr.cell? ⟨(ad.add (k * 5)).block, (ad.add (k * 5)).off + 2, none⟩ = some vp := by rw [← add_field ad (k * 5) 2 (by omega)]; exact hca 2 (by omega)
      have a3 : wr.cell? ⟨(ad.add (k * 5)).block, (ad.add (k * 5)).off + 3, none⟩ = some (i64 a.mr) := by rw [← add_field ad (k * 5) 3 (by omega)]; exact hca 3 (by omega)
      have a4 : wr.cell? ⟨(ad.add (k * 5)).block, (ad.add (k * 5)).off + 4, none⟩ = some vt := by rw [← add_field ad (k * 5) 4 (by omega)]; exact hca 4 (by omega)
      have b0 : wr.cell? (bd.add (k * 5)) = some (i64 a.kind) := hcb 0 (by omega)
      have b1 : wr.cell? ⟨(bd.add (k * 5)).block, (bd.add (k * 5)).off + 1, none⟩ = some (i64 a.rune) := by rw [← add_field bd (k * 5) 1 (by omega)]; exact hcb 1 (by omega)
      have b2 : wr.cell? ⟨(bd.add (k * 5)).block, (bd.add (k * 5)).off + 2, none⟩ = some vp' := by rw [← add_field bd (k * 5) 2 (by omega)]; exact hcb 2 (by omega)
      have b3 : wr.cell? ⟨(bd.add (k * 5)).block, (bd.add (k * 5)).off + 3, none⟩ = some (i64 a.mr) := by rw [← add_field bd (k * 5) 3 (by omega)]; exact hcb 3 (by omega)
      have b4 : wr.cell? ⟨(bd.add (k * 5)).block, (bd.add (k * 5)).off + 4, none⟩ = some vt' := by rw [← add_field bd (k * 5) 4 (by omega)]; exact hcb 4 (by omega)
      have HX := Aside0.mk hx
      have HY := Aside0.mk hy
      clear hca hcb hx hy
      go_wp2
      go_region_with (first
        | (go_at_call 34; (with_reducible refine (eqAction_calls a vp vt vp' vt' _ (HX.out.below (Below.refl _ _).drew) (HY.out.below (Below.refl _ _).drew)).mono ?_); rintro e w1 ⟨rfl, HB1⟩))
      all_goals
        have hz := (show Below _ _ _ from HW).size
        go_wp2
        exact ⟨⟨k + 1, by omega, by go_num, (show Below _ _ _ from HW).drew.trans (HB1.mono hz)⟩, by simp [intOf]; omega⟩
    · have hkn : k = l.length := by omega
      subst hkn
      go_wp2
      go_ret
      exact ⟨rfl, HW⟩
end Go.Proofs.Ytecjokjmmejinaa
