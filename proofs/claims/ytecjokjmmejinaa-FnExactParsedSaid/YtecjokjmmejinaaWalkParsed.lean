/- The walk of the law FnExactParsed. -/
import Derived.Test.YtecjokjmmejinaaLawStep
namespace Go.Proofs.Ytecjokjmmejinaa
open Go.RowKit SL

section
variable {base : Nat} {w0 w : World} {L R R1 R2 R3 R4 : List Atm}
theorem ParsedF_small (p : Pars) (l : List Int) : (ParsedF p l).1.ps.length ≤ 16 ∧ (ParsedF p l).1.tx.length ≤ 40 ∧ ShortP (ParsedF p l).2 ∧ (ParsedF p l).2.length ≤ 2000 := by
  unfold ParsedF
  split
  · obtain ⟨h1, h2, h3, h4⟩ := parsedF_small p l
    exact ⟨h1, h2, h3, by omega⟩
  · exact ⟨Nat.zero_le _, Nat.zero_le _, fun _ hx => (by cases hx), Nat.zero_le _⟩
theorem SL.St.slI {v : Value} {xs : List Int} (S : St base w0 w L) [h1 : PullIn (rowI v xs) L R] : Sl w 1 v xs.length (nums xs) := (S.pull h1.pull).own.sl (nums_one _)
theorem toInt64S_st (v : Value) (xs : List Int) (S : St base w0 w L) (hr : Sl w 1 v xs.length (nums xs)) (hl : xs.length ≤ 1048576) :
    Calls Try.prog 17 #[v] w fun e w' => ∃ A c, e = .returned (.slice A xs.length c) ∧ St base w0 w' (rowI (.slice A xs.length c) xs :: L) :=
  (toInt64S_calls v xs w hr (by omega)).mono fun e w' ⟨v', he, HO, HB⟩ => by
    obtain ⟨A, c, rfl, -, -⟩ := HO.rd
    exact ⟨A, c, he, S.join HB HO⟩
theorem eqInt64S_st (xs : List Int) (va vb : Value) (S : St base w0 w L) [h1 : PullIn (rowI va xs) L R1] [h2 : PullIn (rowI vb xs) L R2] :
    Calls Try.prog 19 #[va, vb] w fun e w' => e = .returned (.bool true) ∧ St base w0 w' L :=
  (eqInt64S_calls va vb xs w S.slI S.slI).mono fun e w' ⟨he, n, hw⟩ => ⟨he, hw ▸ S.drewN n⟩
theorem markInt64S_st (v : Value) (xs : List Int) (k : Int) (S : St base w0 w L) (h0 : 0 ≤ k) (hk : k + xs.length ≤ 1000000000000) [h1 : PullIn (rowI v xs) L R] :
    Calls Try.prog 20 #[v, i64 k] w fun e w' => e = .returned (i64 (k + xs.length)) ∧ St base w0 w' (rowI v (marksI k xs.length) :: R) :=
  (markInt64S_calls base v xs k R w h0 hk (S.pull h1.pull).own).mono fun e w' ⟨he, HO, HB⟩ => ⟨he, S.next HB HO⟩
theorem specParsed_st (p : Pars) (l : List Int) (vp vt vl : Value) {F : Pars × List Acn} (hF : Hid (ParsedF p l = F)) (S : St base w0 w L) [h1 : PullIn (rowI vp p.ps) L R1] [h2 : PullIn (rowI vt p.tx) L R2] [h3 : PullIn (rowI vl l) L R3] :
    Calls Try.prog 16 #[.agg #[i64 p.st, vp, i64 p.mr, vt], vl] w fun e w' => Made base w0 L F e w' :=
  (specParsed_calls p l vp vt vl w S.rdP S.slI).mono fun e w' h => by rw [hF.out] at h; exact made_of S h
theorem implParsed_st (p : Pars) (l : List Int) (vp vt vl : Value) {F : Pars × List Acn} (hF : Hid (ParsedF p l = F)) (S : St base w0 w L) [h1 : PullIn (rowI vp p.ps) L R1] [h2 : PullIn (rowI vt p.tx) L R2] [h3 : PullIn (rowI vl l) L R3] :
    Calls Try.prog 18 #[.agg #[i64 p.st, vp, i64 p.mr, vt], vl] w fun e w' => Made base w0 L F e w' :=
  (implParsed_calls p l vp vt vl w S.rdP S.slI).mono fun e w' h => by rw [hF.out] at h; exact made_of S h
end

set_option maxRecDepth 100000 in
set_option maxHeartbeats 4000000 in
theorem parsed_walk (st mr : Int) (A0 A1 A2 : Option Addr) (n0 c0 n1 c1 n2 c2 : Nat) (ps tx l : List Int) (w : World) (hr : RdP w ⟨st, ps, mr, tx⟩ (.slice A0 n0 c0) (.slice A1 n1 c1)) (hq : Sl w 1 (.slice A2 n2 c2) l.length (nums l)) (hn0 : n0 = ps.length) (hn1 : n1 = tx.length) (hn2 : n2 = l.length) (hm0 : n0 ≤ 9223372036854775807) (hm1 : n1 ≤ 9223372036854775807) (hm2 : n2 ≤ 9223372036854775807) :
    Calls Try.prog 4 #[.agg #[i64 st, .slice A0 n0 c0, i64 mr, .slice A1 n1 c1], .slice A2 n2 c2] w fun e w' => e = .returned (.bool true) ∧ Below w.heap.size w w' := by
  have S := St.start w
  have HR := Aside0.mk hr
  have HQ := Aside0.mk hq
  clear hr hq
  obtain ⟨F, hF, hb1, hb2, hb3, hb4⟩ : ∃ F, Hid (ParsedF ⟨st, ps, mr, tx⟩ l = F) ∧ F.1.ps.length ≤ 16 ∧ F.1.tx.length ≤ 40 ∧ ShortP F.2 ∧ F.2.length ≤ 2000 := ⟨_, rfl, ParsedF_small ⟨st, ps, mr, tx⟩ l⟩
  have HB3 := Aside0.mk hb3
  clear hb3
  subst hn0 hn1 hn2
  by_cases hbig : (1048576 : Int) < l.length
  · go_enter Try.func4, Try.ntmps4
    go_wp2_with (first
      | (refine ap_box rfl rfl rfl rfl S ?_; clear S; intro b w S) | (refine ap_alloc rfl rfl S ?_; clear S; intro b w S) | (refine ap_load rfl rfl rfl S rfl ?_) | (refine ap_loadN rfl rfl rfl S ?_) | (refine ap_store rfl rfl rfl rfl rfl S ?_; clear S; intro w S) | (refine ap_storeN rfl rfl rfl rfl rfl rfl S ?_; clear S; intro w S)
      | fail)
    go_ret
    exact ⟨rfl, S.bel⟩
  have hll : l.length ≤ 1048576 := by omega
  have hb5 : F.2.length ≤ 1000000 := by omega
  go_enter Try.func4, Try.ntmps4
  go_wp2_with (first
    | (refine ap_box rfl rfl rfl rfl S ?_; clear S; intro b w S) | (refine ap_alloc rfl rfl S ?_; clear S; intro b w S) | (refine ap_load rfl rfl rfl S rfl ?_) | (refine ap_loadN rfl rfl rfl S ?_) | (refine ap_store rfl rfl rfl rfl rfl S ?_; clear S; intro w S) | (refine ap_storeN rfl rfl rfl rfl rfl rfl S ?_; clear S; intro w S)
    | (go_at_call 6; refine (szParser_calls st mr A0 A1 _ c0 _ c1 _ hm0 hm1).mono ?_; rintro e w2 ⟨⟨z, rfl, hz⟩, HB⟩; have S := S.call HB; clear HB))
  · go_ret
    exact ⟨rfl, S.bel⟩
  have hl : ps.length + tx.length ≤ 1048576 := by omega
  clear hz
  go_wp2_with (first
    | (refine ap_box rfl rfl rfl rfl S ?_; clear S; intro b w S) | (refine ap_alloc rfl rfl S ?_; clear S; intro b w S) | (refine ap_load rfl rfl rfl S rfl ?_) | (refine ap_loadN rfl rfl rfl S ?_) | (refine ap_store rfl rfl rfl rfl rfl S ?_; clear S; intro w S) | (refine ap_storeN rfl rfl rfl rfl rfl rfl S ?_; clear S; intro w S)
    | (go_at_call 8; (with_reducible refine (toParser_st ⟨st, ps, mr, tx⟩ _ _ S (HR.out.below S.bel) hl).mono ?_); clear S; rintro e w ⟨A, c, A', c', rfl, S⟩)
    | (go_at_call 17; (with_reducible refine (toInt64S_st _ l S (HQ.out.below S.bel) hll).mono ?_); clear S; rintro e w ⟨A, c, rfl, S⟩)
    | (go_at_call 16; (with_reducible refine (specParsed_st ⟨st, ps, mr, tx⟩ l _ _ _ hF S).mono ?_); clear S; rintro e w ⟨A, c, A', c', B, d, rfl, S⟩)
    | (go_at_call 18; (with_reducible refine (implParsed_st ⟨st, ps, mr, tx⟩ l _ _ _ hF S).mono ?_); clear S; rintro e w ⟨A, c, A', c', B, d, rfl, S⟩)
    | (go_at_call 10; (with_reducible refine (eqParser_st F.1 _ _ _ _ S).mono ?_); clear S; rintro e w ⟨rfl, S⟩)
    | (go_at_call 11; (with_reducible refine (eqActionS_st F.2 _ _ S hb5).mono ?_); clear S; rintro e w ⟨rfl, S⟩))
  (refine dr_start (by kernel_rfl) S ?_; clear S; intro w S; (first | refine dr_load 0 rfl (by kernel_rfl) (by kernel_rfl) (by kernel_rfl) (fun _ _ _ h => h) rfl rfl rfl rfl S ?_ | refine dr_loadN 0 rfl (by kernel_rfl) (by kernel_rfl) (by kernel_rfl) (fun _ _ _ h => h) rfl rfl rfl S ?_); (try simp only [Act.put, List.setIfInBounds_toArray, List.set_cons_zero, List.set_cons_succ]); (first | refine dr_load 1 rfl (by kernel_rfl) (by kernel_rfl) (by kernel_rfl) (fun _ _ _ h => h) rfl rfl rfl rfl S ?_ | refine dr_loadN 1 rfl (by kernel_rfl) (by kernel_rfl) (by kernel_rfl) (fun _ _ _ h => h) rfl rfl rfl S ?_); (try simp only [Act.put, List.setIfInBounds_toArray, List.set_cons_zero, List.set_cons_succ]))
  (refine dr_step 2 rfl (by kernel_rfl) rfl ?_; intro K hK; go_simp)
  refine (toParser_st ⟨st, ps, mr, tx⟩ _ _ S (HR.out.below S.bel) hl).mono ?_; rintro e w ⟨A, c, A', c', rfl, S⟩
  (refine hK.out _ _ _ S inferInstance ?_; clear S hK K; intro S; (try simp only [Act.put, List.setIfInBounds_toArray, List.set_cons_zero, List.set_cons_succ]))
  (refine dr_step 3 rfl (by kernel_rfl) rfl ?_; intro K hK; go_simp)
  refine (eqParser_st ⟨st, ps, mr, tx⟩ _ _ _ _ S).mono ?_; rintro e w ⟨rfl, S⟩
  (refine hK.out _ _ _ S inferInstance ?_; clear S hK K; intro S; (try simp only [Act.put, List.setIfInBounds_toArray, List.set_cons_zero, List.set_cons_succ]))
  ((refine dr_take (v := ?v) 4 rfl (by kernel_rfl) (by kernel_rfl) (by kernel_rfl) (fun _ _ _ h => h) rfl ?hr S ?_; case hr => (intro w hSw; go_simp; try (with_reducible rfl))); (try simp only [Act.put, List.setIfInBounds_toArray, List.set_cons_zero, List.set_cons_succ]))
  (refine wpAnyH_done (by kernel_rfl) ?_ _)
  have k1 : decide (1 + (ps.length : Int) + tx.length + l.length < 0) = false := by simp; omega
  go_wp2_with (first
    | (refine ap_box rfl rfl rfl rfl S ?_; clear S; intro b w S) | (refine ap_alloc rfl rfl S ?_; clear S; intro b w S) | (refine ap_load rfl rfl rfl S rfl ?_) | (refine ap_loadN rfl rfl rfl S ?_) | (refine ap_store rfl rfl rfl rfl rfl S ?_; clear S; intro w S) | (refine ap_storeN rfl rfl rfl rfl rfl rfl S ?_; clear S; intro w S)
    | (go_at_call 17; (with_reducible refine (toInt64S_st _ l S (HQ.out.below S.bel) hll).mono ?_); clear S; rintro e w ⟨A, c, rfl, S⟩)
    | (go_at_call 19; (with_reducible refine (eqInt64S_st l _ _ S).mono ?_); clear S; rintro e w ⟨rfl, S⟩)
    | (go_at_call 12; (with_reducible refine (markParser_st ⟨st, ps, mr, tx⟩ _ _ 1 S (by omega) (by simp only []; omega)).mono ?_); clear S; rintro e w ⟨rfl, S⟩)
    | (go_at_call 20; (with_reducible refine (markInt64S_st _ l _ S (by omega) (by omega)).mono ?_); clear S; rintro e w ⟨rfl, S⟩)
    | (go_at_call 10; (with_reducible refine (eqParser_st F.1 _ _ _ _ S).mono ?_); clear S; rintro e w ⟨rfl, S⟩)
    | (go_at_call 11; (with_reducible refine (eqActionS_st F.2 _ _ S hb5).mono ?_); clear S; rintro e w ⟨rfl, S⟩))
  have hp1 := nextPs_le (1 + (F.1.ps.length : Int) + F.1.tx.length) F.2
  have k2 : decide (1 + (F.1.ps.length : Int) + F.1.tx.length < 0) = false := by simp; omega
  have k3 : decide (nextPs (1 + (F.1.ps.length : Int) + F.1.tx.length) F.2 < 0) = false := by simp; omega
  clear hp1
  go_wp2_with (first
    | (refine ap_box rfl rfl rfl rfl S ?_; clear S; intro b w S) | (refine ap_alloc rfl rfl S ?_; clear S; intro b w S) | (refine ap_load rfl rfl rfl S rfl ?_) | (refine ap_loadN rfl rfl rfl S ?_) | (refine ap_store rfl rfl rfl rfl rfl S ?_; clear S; intro w S) | (refine ap_storeN rfl rfl rfl rfl rfl rfl S ?_; clear S; intro w S)
    | (go_at_call 12; (with_reducible refine (markParser_st F.1 _ _ 1 S (by omega) (by omega)).mono ?_); clear S; rintro e w ⟨rfl, S⟩)
    | (go_at_call 13; (with_reducible refine (markActionS_st F.2 _ (1 + F.1.ps.length + F.1.tx.length) S (by omega) (by omega) HB3.out hb5).mono ?_); clear S; rintro e w ⟨rfl, S⟩)
    | (go_at_call 14; (with_reducible refine (heldParser_st _ _ _ _ F.1.ps.length F.1.tx.length _ _ 1 S (by omega) (by omega)).mono ?_); clear S; rintro e w ⟨rfl, S⟩)
    | (go_at_call 15; (with_reducible refine (heldActionS_st F.2 _ (1 + F.1.ps.length + F.1.tx.length) S (by omega) (by omega) HB3.out hb5).mono ?_); clear S; rintro e w ⟨rfl, S⟩)
    | (go_at_call 8; (with_reducible refine (toParser_st ⟨st, ps, mr, tx⟩ _ _ S (HR.out.below S.bel) hl).mono ?_); clear S; rintro e w ⟨A, c, A', c', rfl, S⟩)
    | (go_at_call 17; (with_reducible refine (toInt64S_st _ l S (HQ.out.below S.bel) hll).mono ?_); clear S; rintro e w ⟨A, c, rfl, S⟩)
    | (go_at_call 18; (with_reducible refine (implParsed_st ⟨st, ps, mr, tx⟩ l _ _ _ hF S).mono ?_); clear S; rintro e w ⟨A, c, A', c', B, d, rfl, S⟩)
    | (go_at_call 10; (with_reducible refine (eqParser_st F.1 _ _ _ _ S).mono ?_); clear S; rintro e w ⟨rfl, S⟩)
    | (go_at_call 11; (with_reducible refine (eqActionS_st F.2 _ _ S hb5).mono ?_); clear S; rintro e w ⟨rfl, S⟩))
  go_ret
  exact ⟨rfl, S.bel⟩
end Go.Proofs.Ytecjokjmmejinaa
