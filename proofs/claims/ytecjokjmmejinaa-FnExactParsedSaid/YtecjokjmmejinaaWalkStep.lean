/- The walk of the law FnExactStep. -/
import Derived.Test.YtecjokjmmejinaaLawStep
namespace Go.Proofs.Ytecjokjmmejinaa
open Go.RowKit SL

set_option maxRecDepth 100000 in
set_option maxHeartbeats 4000000 in
theorem step_walk (st mr r : Int) (A0 A1 : Option Addr) (n0 c0 n1 c1 : Nat) (ps tx : List Int) (w : World) (hr : RdP w ⟨st, ps, mr, tx⟩ (.slice A0 n0 c0) (.slice A1 n1 c1)) (hn0 : n0 = ps.length) (hn1 : n1 = tx.length) (hm0 : n0 ≤ 9223372036854775807) (hm1 : n1 ≤ 9223372036854775807) :
    Calls Try.prog 3 #[.agg #[i64 st, .slice A0 n0 c0, i64 mr, .slice A1 n1 c1], i64 r] w fun e w' => e = .returned (.bool true) ∧ Below w.heap.size w w' := by
  have S := St.start w
  have HR := Aside0.mk hr
  clear hr
  obtain ⟨F, hF, hb1, hb2, hb3, hb4⟩ : ∃ F, Hid (parsedF ⟨st, ps, mr, tx⟩ [r] = F) ∧ F.1.ps.length ≤ 16 ∧ F.1.tx.length ≤ 40 ∧ ShortP F.2 ∧ F.2.length ≤ [r].length := ⟨_, rfl, parsedF_small ⟨st, ps, mr, tx⟩ [r]⟩
  have HB3 := Aside0.mk hb3
  clear hb3
  subst hn0 hn1
  have hb5 : F.2.length ≤ 1000000 := Nat.le_trans hb4 (by simp)
  go_enter Try.func3, Try.ntmps3
  go_wp2_with (first
    | (refine ap_box rfl rfl rfl rfl S ?_; clear S; intro b w S) | (refine ap_alloc rfl rfl S ?_; clear S; intro b w S) | (refine ap_load rfl rfl rfl S rfl ?_) | (refine ap_loadN rfl rfl rfl S ?_) | (refine ap_store rfl rfl rfl rfl rfl S ?_; clear S; intro w S) | (refine ap_storeN rfl rfl rfl rfl rfl rfl S ?_; clear S; intro w S)
    | (go_at_call 6; refine (szParser_calls st mr A0 A1 _ c0 _ c1 _ hm0 hm1).mono ?_; rintro e w2 ⟨⟨z, rfl, hz⟩, HB⟩; have S := S.call HB; clear HB))
  · go_ret
    exact ⟨rfl, S.bel⟩
  have hl : ps.length + tx.length ≤ 1048576 := by omega
  clear hz
  go_wp2_with (first
    | (refine ap_box rfl rfl rfl rfl S ?_; clear S; intro b w S) | (refine ap_alloc rfl rfl S ?_; clear S; intro b w S) | (refine ap_load rfl rfl rfl S rfl ?_) | (refine ap_loadN rfl rfl rfl S ?_) | (refine ap_store rfl rfl rfl rfl rfl S ?_; clear S; intro w S) | (refine ap_storeN rfl rfl rfl rfl rfl rfl S ?_; clear S; intro w S)
    | (go_at_call 8; refine (toParser_st ⟨st, ps, mr, tx⟩ _ _ S (HR.out.below S.bel) hl).mono ?_; clear S; rintro e w ⟨A, c, A', c', rfl, S⟩)
    | (go_at_call 7; refine (specStep_st ⟨st, ps, mr, tx⟩ r _ _ hF S).mono ?_; clear S; rintro e w ⟨A, c, A', c', B, d, rfl, S⟩)
    | (go_at_call 9; refine (implStep_st ⟨st, ps, mr, tx⟩ r _ _ hF S).mono ?_; clear S; rintro e w ⟨A, c, A', c', B, d, rfl, S⟩)
    | (go_at_call 10; refine (eqParser_st F.1 _ _ _ _ S).mono ?_; clear S; rintro e w ⟨rfl, S⟩)
    | (go_at_call 11; refine (eqActionS_st F.2 _ _ S hb5).mono ?_; clear S; rintro e w ⟨rfl, S⟩))
  (refine dr_start (by kernel_rfl) S ?_; clear S; intro w S; (first | refine dr_load 0 rfl (by kernel_rfl) (by kernel_rfl) (by kernel_rfl) (fun _ _ _ h => h) rfl rfl rfl rfl S ?_ | refine dr_loadN 0 rfl (by kernel_rfl) (by kernel_rfl) (by kernel_rfl) (fun _ _ _ h => h) rfl rfl rfl S ?_); (try simp only [Act.put, List.setIfInBounds_toArray, List.set_cons_zero, List.set_cons_succ]); (first | refine dr_load 1 rfl (by kernel_rfl) (by kernel_rfl) (by kernel_rfl) (fun _ _ _ h => h) rfl rfl rfl rfl S ?_ | refine dr_loadN 1 rfl (by kernel_rfl) (by kernel_rfl) (by kernel_rfl) (fun _ _ _ h => h) rfl rfl rfl S ?_); (try simp only [Act.put, List.setIfInBounds_toArray, List.set_cons_zero, List.set_cons_succ]))
  (refine dr_step 2 rfl (by kernel_rfl) rfl ?_; intro K hK; go_simp)
  refine (toParser_st ⟨st, ps, mr, tx⟩ _ _ S (HR.out.below S.bel) hl).mono ?_; clear S; rintro e w ⟨A, c, A', c', rfl, S⟩
  (refine hK.out _ _ _ S inferInstance ?_; clear S hK K; intro S; (try simp only [Act.put, List.setIfInBounds_toArray, List.set_cons_zero, List.set_cons_succ]))
  (refine dr_step 3 rfl (by kernel_rfl) rfl ?_; intro K hK; go_simp)
  refine (eqParser_st ⟨st, ps, mr, tx⟩ _ _ _ _ S).mono ?_; clear S; rintro e w ⟨rfl, S⟩
  (refine hK.out _ _ _ S inferInstance ?_; clear S hK K; intro S; (try simp only [Act.put, List.setIfInBounds_toArray, List.set_cons_zero, List.set_cons_succ]))
  ((refine dr_take (v := ?v) 4 rfl (by kernel_rfl) (by kernel_rfl) (by kernel_rfl) (fun _ _ _ h => h) rfl ?hr S ?_; case hr => (intro w hSw; go_simp; try (with_reducible rfl))); (try simp only [Act.put, List.setIfInBounds_toArray, List.set_cons_zero, List.set_cons_succ]))
  (refine wpAnyH_done (by kernel_rfl) ?_ _)
  have k1 : decide (1 + (ps.length : Int) + tx.length < 0) = false := by simp; omega
  go_wp2_with (first
    | (refine ap_box rfl rfl rfl rfl S ?_; clear S; intro b w S) | (refine ap_alloc rfl rfl S ?_; clear S; intro b w S) | (refine ap_load rfl rfl rfl S rfl ?_) | (refine ap_loadN rfl rfl rfl S ?_) | (refine ap_store rfl rfl rfl rfl rfl S ?_; clear S; intro w S) | (refine ap_storeN rfl rfl rfl rfl rfl rfl S ?_; clear S; intro w S)
    | (go_at_call 12; (with_reducible refine (markParser_st ⟨st, ps, mr, tx⟩ _ _ 1 S (by omega) (by simp only []; omega)).mono ?_); clear S; rintro e w ⟨rfl, S⟩)
    | (go_at_call 10; (with_reducible refine (eqParser_st F.1 _ _ _ _ S).mono ?_); clear S; rintro e w ⟨rfl, S⟩)
    | (go_at_call 11; (with_reducible refine (eqActionS_st F.2 _ _ S hb5).mono ?_); clear S; rintro e w ⟨rfl, S⟩))
  have hp1 := nextPs_le (1 + (F.1.ps.length : Int) + F.1.tx.length) F.2
  have k2 : decide (1 + (F.1.ps.length : Int) + F.1.tx.length < 0) = false := by simp; omega
  have k3 : decide (nextPs (1 + (F.1.ps.length : Int) + F.1.tx.length) F.2 < 0) = false := by simp; omega
  clear hp1
  go_wp2_with (first
    | (refine ap_box rfl rfl rfl rfl S ?_; clear S; intro b w S) | (refine ap_alloc rfl rfl S ?_; clear S; intro b w S) | (refine ap_load rfl rfl rfl S rfl ?_) | (refine ap_loadN rfl rfl rfl S ?_) | (refine ap_store rfl rfl rfl rfl rfl S ?_; clear S; intro w S) | (refine ap_storeN rfl rfl rfl rfl rfl rfl S ?_; clear S; intro w S)
    | (go_at_call 12; (with_reducible refine (markParser_st F.1 _ _ 1 S (by omega) (by omega)).mono ?_); clear S; rintro e w ⟨rfl, S⟩)
    | (go_at_call 13; (with_reducible refine (markActionS_st F.2 _ (1 + F.1.ps.length + F.1.tx.length) S (by omega) (by omega) HB3.out hb5).mono ?_); clear S; rintro e w ⟨rfl, S⟩)
    | (go_at_call 14; (with_reducible refine (heldParser_st _ _ _ _ F.1.ps.length F.1.tx.length _ _ 1 S (by omega) (by omega)).mono ?_); clear S; rintro e w ⟨rfl, S⟩)
    | (go_at_call 15; (with_reducible refine (heldActionS_st F.2 _ (1 + F.1.ps.length + F.1.tx.length) S (by omega) (by omega) HB3.out hb5).mono ?_); clear S; rintro e w ⟨rfl, S⟩)
    | (go_at_call 8; (with_reducible refine (toParser_st ⟨st, ps, mr, tx⟩ _ _ S (HR.out.below S.bel) hl).mono ?_); clear S; rintro e w ⟨A, c, A', c', rfl, S⟩)
    | (go_at_call 9; (with_reducible refine (implStep_st ⟨st, ps, mr, tx⟩ r _ _ hF S).mono ?_); clear S; rintro e w ⟨A, c, A', c', B, d, rfl, S⟩)
    | (go_at_call 10; (with_reducible refine (eqParser_st F.1 _ _ _ _ S).mono ?_); clear S; rintro e w ⟨rfl, S⟩)
    | (go_at_call 11; (with_reducible refine (eqActionS_st F.2 _ _ S hb5).mono ?_); clear S; rintro e w ⟨rfl, S⟩))
  go_ret
  exact ⟨rfl, S.bel⟩
end Go.Proofs.Ytecjokjmmejinaa
