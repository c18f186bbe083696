/- What the two RuneOk, Width, in, l1In and their like return: one plain function each. -/
import Derived.Test.YtecjokjmmejinaaProg
import Derived.Test.YtecjokjmmejinaaSL
import Derived.WalkKit
import Derived.KernelRfl
namespace Go.Proofs.Ytecjokjmmejinaa
open Go.RowKit SL
abbrev i64 (n : Int) : Value := .int .i64 n
abbrev nilS : Value := .slice none 0 0

/-! ### the plain functions -/
def inB (n l h : Int) : Bool := decide (l ≤ n ∧ n ≤ h)
def runeB (r : Int) : Bool := inB r 0 1114111 && !inB r 55296 57343
def widthF (r : Int) : Int :=
  if !runeB r || decide (r < 32) || inB r 127 159 || inB r 768 879 then 0
  else if inB r 4352 4447 || inB r 12288 55295 || inB r 127744 131071 then 2 else 1
def controlB (r : Int) : Bool := decide (r < 32) || r == 127
def markB (n : Int) : Bool := n == 0 || n == 63
theorem inB_iff {n l h : Int} : inB n l h = true ↔ l ≤ n ∧ n ≤ h := by simp [inB]
theorem runeB_iff {r : Int} : runeB r = true ↔ (0 ≤ r ∧ r ≤ 55295) ∨ (57344 ≤ r ∧ r ≤ 1114111) := by
  simp [runeB, inB]; omega

/-! ### impl -/
theorem impl_in (n l h : Int) (w : World) : Calls Try.prog 45 #[i64 n, i64 l, i64 h] w fun e w' => e = .returned (.bool (inB n l h)) ∧ w = w' := by
  by_cases h1 : l ≤ n
  · go_enter Try.func45, Try.ntmps45
    go_wp2
    go_ret
    exact ⟨by simp [inB, h1], rfl⟩
  · go_enter Try.func45, Try.ntmps45
    go_wp2
    go_ret
    exact ⟨by simp [inB]; omega, rfl⟩

theorem impl_RuneOk (r : Int) (w : World) : Calls Try.prog 56 #[i64 r] w fun e w' => e = .returned (.bool (runeB r)) ∧ w = w' := by
  go_enter Try.func56, Try.ntmps56
  go_wp2_with (go_at_call 45; refine (impl_in _ _ _ _).mono ?_; rintro e w' ⟨rfl, rfl⟩)
  all_goals
    go_ret
    exact ⟨by simp [runeB, *], rfl⟩

theorem impl_isControl (r : Int) (w : World) : Calls Try.prog 72 #[i64 r] w fun e w' => e = .returned (.bool (controlB r)) ∧ w = w' := by
  go_enter Try.func72, Try.ntmps72
  go_wp2
  all_goals
    go_ret
    exact ⟨by simp [controlB, *], rfl⟩

theorem impl_isMark (r : Int) (w : World) : Calls Try.prog 47 #[i64 r] w fun e w' => e = .returned (.bool (markB r)) ∧ w = w' := by
  go_enter Try.func47, Try.ntmps47
  go_wp2
  all_goals
    go_ret
    exact ⟨by simp [markB, *], rfl⟩

set_option maxHeartbeats 1000000 in
theorem impl_Width (r : Int) (w : World) : Calls Try.prog 75 #[i64 r] w fun e w' => e = .returned (i64 (widthF r)) ∧ w = w' := by
  go_enter Try.func75, Try.ntmps75
  go_wp2_with (first | (go_at_call 45; refine (impl_in _ _ _ _).mono ?_; rintro e w' ⟨rfl, rfl⟩) | (go_at_call 56; refine (impl_RuneOk _ _).mono ?_; rintro e w' ⟨rfl, rfl⟩))
  all_goals
    go_ret
    exact ⟨by simp [widthF, *], rfl⟩

/-! ### spec -/
theorem spec_l1In (n l h : Int) (w : World) : Calls Try.prog 49 #[i64 n, i64 l, i64 h] w fun e w' => e = .returned (.bool (inB n l h)) ∧ w = w' := by
  by_cases h1 : l ≤ n
  · go_enter Try.func49, Try.ntmps49
    go_wp2
    go_ret
    exact ⟨by simp [inB, h1], rfl⟩
  · go_enter Try.func49, Try.ntmps49
    go_wp2
    go_ret
    exact ⟨by simp [inB]; omega, rfl⟩

theorem spec_RuneOk (r : Int) (w : World) : Calls Try.prog 28 #[i64 r] w fun e w' => e = .returned (.bool (runeB r)) ∧ w = w' := by
  go_enter Try.func28, Try.ntmps28
  go_wp2_with (go_at_call 49; refine (spec_l1In _ _ _ _).mono ?_; rintro e w' ⟨rfl, rfl⟩)
  all_goals
    go_ret
    exact ⟨by simp [runeB, *], rfl⟩

set_option maxHeartbeats 1000000 in
theorem spec_Width (r : Int) (w : World) : Calls Try.prog 53 #[i64 r] w fun e w' => e = .returned (i64 (widthF r)) ∧ w = w' := by
  go_enter Try.func53, Try.ntmps53
  go_wp2_with (first | (go_at_call 49; refine (spec_l1In _ _ _ _).mono ?_; rintro e w' ⟨rfl, rfl⟩) | (go_at_call 28; refine (spec_RuneOk _ _).mono ?_; rintro e w' ⟨rfl, rfl⟩))
  all_goals
    go_ret
    exact ⟨by simp [widthF, *], rfl⟩
end Go.Proofs.Ytecjokjmmejinaa
