/- impl's step, ParserOk, copied: what they return, and where it lies. -/
import Derived.Test.YtecjokjmmejinaaImplPars
import Derived.Lib.LazyBuf
namespace Go.Proofs.Ytecjokjmmejinaa
open Go.RowKit SL

set_option maxRecDepth 100000 in
set_option maxHeartbeats 1000000 in
theorem step_calls (base b : Nat) (p : Pars) (r : Int) (vp vt : Value) (L : List Atm) (w : World) (hbase : base ≤ w.heap.size) (hp : p.Fit) (hr : 0 ≤ r ∧ r ≤ 1114111)
    (h : Own base w (parsAt b p vp vt ++ L)) :
    Calls Try.prog 58 #[.pointer (some ⟨b, 0, none⟩), i64 r] w fun e w' => ParsPost base b (stepF p r) L e w' w := by
  have c0 : w.cell? ⟨b, 0, none⟩ = some (i64 p.st) := h.cell 0
  have hb := h.block_base
  have hlt := h.block_lt
  have hu := Try.underlying26
  have hua := Try.underlying53
  have sA := szA
  have zA := zvA
  have H : Hid (Own base w (parsAt b p vp vt ++ L)) := h
  have HP : Hid p.Fit := hp
  clear h hp
  by_cases h4 : p.st = 4
  · have hf : Hid (stepF p r = titleF p r) := by simp [stepF, h4, Hid]
    have q4 : (p.st == 4) = true := beq_iff_eq.2 h4
    clear h4
    go_enter Try.func58, Try.ntmps58
    go_wp2_with (go_at_call 69; go_must (refine (title_calls base b p r vp vt L _ hbase H.out).mono ?_); rintro e w' ⟨va, vp', vt', l, rfl, hl, HS, HB⟩)
    go_ret
    rw [show stepF p r = titleF p r from hf]
    exact ⟨_, vp', vt', l, rfl, hl, HS, HB⟩
  have q4 : (p.st == 4) = false := beq_eq_false_iff_ne.2 h4
  by_cases h5 : p.st = 5
  · have hf : Hid (stepF p r = endedF p r) := by simp [stepF, h5, Hid]
    have q5 : (p.st == 5) = true := beq_iff_eq.2 h5
    clear h4 h5
    go_enter Try.func58, Try.ntmps58
    go_wp2_with (go_at_call 70; go_must (refine (ended_calls base b p r vp vt L _ hbase H.out).mono ?_); rintro e w' ⟨va, vp', vt', l, rfl, hl, HS, HB⟩)
    go_ret
    rw [show stepF p r = endedF p r from hf]
    exact ⟨_, vp', vt', l, rfl, hl, HS, HB⟩
  have q5 : (p.st == 5) = false := beq_eq_false_iff_ne.2 h5
  by_cases h27 : r = 27
  · have hf : Hid (stepF p r = (stateP 2, [])) := by simp [stepF, h4, h5, h27, Hid]
    have q27 : (r == 27) = true := beq_iff_eq.2 h27
    clear h4 h5 h27
    go_enter Try.func58, Try.ntmps58
    go_wp2_with (go_at_call 71; go_must (refine (become_calls base b p.st 2 p.mr vp vt _ _ H.out).mono ?_); rintro e w' ⟨rfl, HS, HB⟩)
    go_ret
    rw [show stepF p r = (stateP 2, []) from hf]
    exact ⟨_, nilS, nilS, [], rfl, rfl, (addNil (addNil (addNil HS.drop1.drop1 _ _) _ _) _ _).pull3, HB⟩
  have q27 : (r == 27) = false := beq_eq_false_iff_ne.2 h27
  by_cases h24 : r = 24 ∨ r = 26
  · have hf : Hid (stepF p r = (stateP 1, [])) := by simp [stepF, h4, h5, h27, h24, Hid]
    clear h4 h5 h27
    rcases h24 with h24 | h24
    · have q24 : (r == 24) = true := beq_iff_eq.2 h24
      clear h24
      go_enter Try.func58, Try.ntmps58
      go_wp2_with (go_at_call 71; go_must (refine (become_calls base b p.st 1 p.mr vp vt _ _ H.out).mono ?_); rintro e w' ⟨rfl, HS, HB⟩)
      go_ret
      rw [show stepF p r = (stateP 1, []) from hf]
      exact ⟨_, nilS, nilS, [], rfl, rfl, (addNil (addNil (addNil HS.drop1.drop1 _ _) _ _) _ _).pull3, HB⟩
    · have q24 : (r == 24) = false := beq_eq_false_iff_ne.2 (by omega)
      have q26 : (r == 26) = true := beq_iff_eq.2 h24
      clear h24
      go_enter Try.func58, Try.ntmps58
      go_wp2_with (go_at_call 71; go_must (refine (become_calls base b p.st 1 p.mr vp vt _ _ H.out).mono ?_); rintro e w' ⟨rfl, HS, HB⟩)
      go_ret
      rw [show stepF p r = (stateP 1, []) from hf]
      exact ⟨_, nilS, nilS, [], rfl, rfl, (addNil (addNil (addNil HS.drop1.drop1 _ _) _ _) _ _).pull3, HB⟩
  have q24 : (r == 24) = false := beq_eq_false_iff_ne.2 fun e => h24 (.inl e)
  have q26 : (r == 26) = false := beq_eq_false_iff_ne.2 fun e => h24 (.inr e)
  have HL : Hid (∀ a : Acn, a.ps = [] → a.tx = [] → Own base (w.alloc (.cells (acCells ⟨a, nilS, nilS⟩).toArray 53)) (parsAt b p vp vt ++ (acsAt (.slice (some ⟨w.heap.size, 0, none⟩) 1 1) [⟨a, nilS, nilS⟩] ++ L))) := by
    intro a h1 h2
    have HL := H.out.lit hbase 53 5 1 (acCells ⟨a, nilS, nilS⟩) rfl (by omega) rfl
    have K := (addNil (addNil HL.push3 2 1) 2 1).push5.push5
    simpa [acsAt, acRows, h1, h2, rowI_nil, parsAt] using K
  have HB0 : Hid (∀ o, Below base w (w.alloc o)) := fun o => (Below.refl _ _).alloc hbase o
  by_cases hc : controlB r = true
  · have hf : Hid (stepF p r = (p, [⟨2, r, [], 0, []⟩])) := by simp [stepF, h4, h5, h27, h24, hc, Hid]
    clear h4 h5 h27 h24
    go_enter Try.func58, Try.ntmps58
    go_wp2_with (go_at_call 72; go_must (refine (impl_isControl _ _).mono ?_); rintro e w' ⟨rfl, rfl⟩)
    go_ret
    rw [show stepF p r = (p, [⟨2, r, [], 0, []⟩]) from hf]
    exact ⟨_, vp, vt, [⟨⟨2, r, [], 0, []⟩, nilS, nilS⟩], rfl, rfl, HL ⟨2, r, [], 0, []⟩ rfl rfl, HB0 _⟩
  have qc : controlB r = false := by simpa using hc
  by_cases h2 : p.st = 2
  · have hf : Hid (stepF p r = escapedF r) := by simp [stepF, h27, h24, qc, h2, Hid]
    have q2 : (p.st == 2) = true := beq_iff_eq.2 h2
    clear h4 h5 h27 h24 h2 hc
    go_enter Try.func58, Try.ntmps58
    go_wp2_with (first
      | (go_at_call 72; go_must (refine (impl_isControl _ _).mono ?_); rintro e w' ⟨rfl, rfl⟩)
      | (go_at_call 73; go_must (refine (escaped_calls base b p r vp vt L _ H.out).mono ?_); rintro e w' ⟨va, vp', vt', l, rfl, hl, HS, HB⟩))
    go_ret
    rw [show stepF p r = escapedF r from hf]
    exact ⟨_, vp', vt', l, rfl, hl, HS, HB⟩
  have q2 : (p.st == 2) = false := beq_eq_false_iff_ne.2 h2
  by_cases h3 : p.st = 3
  · have hf : Hid (stepF p r = moreF p r) := by simp [stepF, h27, h24, qc, h3, Hid]
    have q3 : (p.st == 3) = true := beq_iff_eq.2 h3
    clear h4 h5 h27 h24 h2 hc h3
    go_enter Try.func58, Try.ntmps58
    go_wp2_with (first
      | (go_at_call 72; go_must (refine (impl_isControl _ _).mono ?_); rintro e w' ⟨rfl, rfl⟩)
      | (go_at_call 74; go_must (refine (more_calls base b p r vp vt L _ hbase HP.out hr H.out).mono ?_); rintro e w' ⟨va, vp', vt', l, rfl, hl, HS, HB⟩))
    go_ret
    rw [show stepF p r = moreF p r from hf]
    exact ⟨_, vp', vt', l, rfl, hl, HS, HB⟩
  have q3 : (p.st == 3) = false := beq_eq_false_iff_ne.2 h3
  by_cases hw : 0 < widthF r
  · have hf : Hid (stepF p r = (p, [⟨1, r, [], 0, []⟩])) := by simp [stepF, h4, h5, h27, h24, qc, h2, h3, hw, Hid]
    clear h4 h5 h27 h24 h2 hc h3
    go_enter Try.func58, Try.ntmps58
    go_wp2_with (first
      | (go_at_call 72; go_must (refine (impl_isControl _ _).mono ?_); rintro e w' ⟨rfl, rfl⟩)
      | (go_at_call 75; go_must (refine (impl_Width _ _).mono ?_); rintro e w' ⟨rfl, rfl⟩))
    go_ret
    rw [show stepF p r = (p, [⟨1, r, [], 0, []⟩]) from hf]
    exact ⟨_, vp, vt, [⟨⟨1, r, [], 0, []⟩, nilS, nilS⟩], rfl, rfl, HL ⟨1, r, [], 0, []⟩ rfl rfl, HB0 _⟩
  · have hf : Hid (stepF p r = (p, [])) := by simp [stepF, h4, h5, h27, h24, qc, h2, h3, hw, Hid]
    clear h4 h5 h27 h24 h2 hc h3
    go_enter Try.func58, Try.ntmps58
    go_wp2_with (first
      | (go_at_call 72; go_must (refine (impl_isControl _ _).mono ?_); rintro e w' ⟨rfl, rfl⟩)
      | (go_at_call 75; go_must (refine (impl_Width _ _).mono ?_); rintro e w' ⟨rfl, rfl⟩))
    go_ret
    rw [show stepF p r = (p, []) from hf]
    exact ⟨_, vp, vt, [], rfl, rfl, (addNil H.out _ _).push3, Below.refl _ _⟩

set_option maxHeartbeats 400000 in
theorem cloneI_calls (v : Value) (xs : List Int) (w : World) (hv : Sl w 1 v xs.length (nums xs)) (hl : xs.length * 8 ≤ 140737488355328) :
    Calls Try.prog 68 #[v] w fun e w' => ∃ v', e = .returned v' ∧ Own w.heap.size w' [rowI v' xs] ∧ Below w.heap.size w w' := by
  obtain ⟨A, c, rfl, hc, hA, hr⟩ := hv.ex
  have q22 : ∀ (w : World) (a : Option Addr) (n c : Nat), (binOp .eql 22 (.slice a n c) (.slice none 0 0)).run Try.prog w = .ok (.bool a.isNone) w := fun w a n c => Go.run_eql_slice_nil w _ _ a n c Try.underlying22
  cases A with
  | none =>
    have hx : nums xs = [] := by
      apply Classical.byContradiction
      intro h
      obtain ⟨ad, h, _⟩ := hr h
      cases h
    have hx' : xs = [] := by simpa [nums] using hx
    subst hx'
    clear hr hx hv
    go_enter Try.func68, Try.ntmps68
    go_wp2
    go_ret
    exact ⟨_, rfl, addNil (Own.nil _ _) _ _, Below.refl _ _⟩
  | some ad =>
    have HV : Hid (Sl w 1 (.slice (some ad) xs.length c) xs.length (nums xs)) := hv
    have HR : Hid (Rd w (some ad) (nums xs)) := hr
    clear hv hr
    go_enter Try.func68, Try.ntmps68
    go_wp2_with (at_builtin; go_must (refine ap_row elI rfl _ _ rfl _ 0 [] rfl (Own.addRow (Own.nil w.heap.size w) ((Below.refl _ _).alloc (Nat.le_refl _) _) (Nat.le_refl _) (World.ownsRow_made w #[] 0 (Nat.le_refl _) (Nat.zero_le _) rfl)) (some ad) xs.length c (nums xs) rfl HV.out.len (HR.out.below ((Below.refl _ _).alloc (Nat.le_refl _) _)) (nums_one xs) (fun h => by cases h) (by rw [Nat.zero_add]; exact hl) (by simp) ?_); intro v' w' HS HB _)
    go_wp2
    go_ret
    exact ⟨v', rfl, by simpa [rowI] using HS, ((Below.refl _ w).alloc (Nat.le_refl _) _).trans HB⟩
end Go.Proofs.Ytecjokjmmejinaa
