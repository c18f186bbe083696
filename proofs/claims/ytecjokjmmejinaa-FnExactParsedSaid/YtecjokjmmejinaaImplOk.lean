/- slices.ContainsFunc over numbers; areParams, areTitle, ParserOk, copied. -/
import Derived.Test.YtecjokjmmejinaaImplStep
import Derived.LoopTactic
import Derived.Shelf.Abstract
namespace Go.Proofs.Ytecjokjmmejinaa
open Go.RowKit SL

/-- A function of one number that only answers. -/
def Answers (g : Nat) (p : Int → Bool) : Prop := ∀ (x : Int) (w : World), Calls Try.prog g #[i64 x] w fun e w' => e = .returned (.bool (p x)) ∧ w = w'

theorem Sl.get {w : World} {v : Value} {xs : List Int} (h : Sl w 1 v xs.length (nums xs)) {k : Nat} (hk : k < xs.length) : ∃ ad c, v = .slice (some ad) xs.length c ∧ ∀ j, j < xs.length → w.cell? (ad.add j) = some (i64 (xs.getD j 0)) := by
  obtain ⟨A, c, rfl, hc, hA, hr⟩ := h.ex
  obtain ⟨ad, rfl, hcell⟩ := hr (by intro e; have := nums_length xs; rw [e] at this; simp at this; omega)
  exact ⟨ad, c, rfl, fun j hj => hcell j _ (nums_get hj)⟩

set_option maxRecDepth 100000 in
set_option maxHeartbeats 400000 in
theorem indexFunc_calls (g : Nat) (p : Int → Bool) (hg : Answers g p) (he : ∀ args w, (callFunc g args).run Try.prog w = .ok (.enter g args) w) (v : Value) (xs : List Int) (w : World) (hv : Sl w 1 v xs.length (nums xs)) :
    Calls Try.prog 67 #[v, .func (.func g) #[] #[]] w fun e w' => (∃ i : Int, (decide (0 ≤ i) = xs.any p) ∧ e = .returned (i64 i)) ∧ w = w' := by
  have hm := hv.max
  obtain ⟨A, c, rfl, hc, hA, hr⟩ := hv.ex
  have HV : Hid (Sl w 1 (.slice A xs.length c) xs.length (nums xs)) := hv
  have HG : Hid (Answers g p) := hg
  clear hv hr hg hA
  go_enter Try.func67, Try.ntmps67
  go_wp2
  go_loop [5, 8] (fun _ s8 => ∃ k : Nat, k ≤ xs.length ∧ s8 = .int .i64 k ∧ Hid (∀ j, j < k → p (xs.getD j 0) = false)) (fun _ s8 => xs.length - (intOf s8).toNat)
  case atStart => exact ⟨0, Nat.zero_le _, rfl, fun j hj => absurd hj (Nat.not_lt_zero _)⟩
  case round =>
    obtain ⟨k, hk, rfl, hn⟩ := hrel
    by_cases hlt : k < xs.length
    · obtain ⟨ad, c', e, hcell⟩ := Sl.get HV.out hlt
      simp only [Value.slice.injEq] at e
      obtain ⟨rfl, -, rfl⟩ := e
      have hck : w.cell? (ad.add k) = some (i64 (xs.getD k 0)) := hcell k hlt
      clear hcell
      generalize hxe : xs.getD k 0 = x at *
      have HX : Hid (xs.getD k 0 = x) := hxe
      clear hxe
      go_wp2_with (go_at_fn g; go_must (refine (HG.out x w).mono ?_); rintro e w' ⟨rfl, rfl⟩)
      · go_ret
        rename_i hpx
        refine ⟨⟨k, ?_, rfl⟩, rfl⟩
        have : xs.any p = true := List.any_eq_true.2 ⟨x, by rw [← show xs.getD k 0 = x from HX, List.getD_eq_getElem?_getD, List.getElem?_eq_getElem hlt]; exact List.getElem_mem _, hpx⟩
        rw [this]
        simp
      · rename_i hpx
        go_round
        case rel =>
          refine ⟨k + 1, by omega, by go_num, fun j hj => ?_⟩
          by_cases e : j = k
          · subst e; rw [show xs.getD j 0 = x from HX]; exact hpx
          · exact hn j (by omega)
        case measure => simp [intOf]; omega
    · have hkn : k = xs.length := by omega
      subst hkn
      go_wp2
      go_ret
      refine ⟨⟨-1, ?_, rfl⟩, rfl⟩
      have : xs.any p = false := by
        rw [List.any_eq_false]
        intro x hx
        obtain ⟨j, hj, rfl⟩ := List.mem_iff_getElem.1 hx
        have := hn j hj
        rw [List.getD_eq_getElem?_getD, List.getElem?_eq_getElem hj] at this
        simpa using this
      rw [this]
      rfl

set_option maxRecDepth 100000 in
theorem containsFunc_calls (g : Nat) (p : Int → Bool) (hg : Answers g p) (he : ∀ args w, (callFunc g args).run Try.prog w = .ok (.enter g args) w) (v : Value) (xs : List Int) (w : World) (hv : Sl w 1 v xs.length (nums xs)) :
    Calls Try.prog 54 #[v, .func (.func g) #[] #[]] w fun e w' => e = .returned (.bool (xs.any p)) ∧ w = w' := by
  have C := Aside0.mk (indexFunc_calls g p hg he v xs w hv)
  obtain ⟨A, c, rfl, -⟩ := hv.ex
  clear hg he hv
  go_enter Try.func54, Try.ntmps54
  go_wp2_with (go_at_call 67; go_must (refine C.out.mono ?_); rintro e w' ⟨⟨i, hi, rfl⟩, rfl⟩)
  go_ret
  exact ⟨by rw [← hi]; rfl, rfl⟩

def paramsB (xs : List Int) : Bool := decide (xs.length ≤ 16) && !xs.any (fun n => !inB n 0 9999)
def titleB (xs : List Int) : Bool := decide (xs.length ≤ 40) && !xs.any (fun n => !runeB n)

theorem areParams1 : Answers 64 (fun n => !inB n 0 9999) := by
  intro x w
  go_enter Try.func64, Try.ntmps64
  go_wp2_with (go_at_call 45; go_must (refine (impl_in _ _ _ _).mono ?_); rintro e w' ⟨rfl, rfl⟩)
  go_ret
  exact ⟨rfl, rfl⟩
theorem areTitle1 : Answers 65 (fun n => !runeB n) := by
  intro x w
  go_enter Try.func65, Try.ntmps65
  go_wp2_with (go_at_call 56; go_must (refine (impl_RuneOk _ _).mono ?_); rintro e w' ⟨rfl, rfl⟩)
  go_ret
  exact ⟨rfl, rfl⟩

set_option maxRecDepth 100000 in
theorem areParams_calls (v : Value) (xs : List Int) (w : World) (hv : Sl w 1 v xs.length (nums xs)) :
    Calls Try.prog 46 #[v] w fun e w' => e = .returned (.bool (paramsB xs)) ∧ w = w' := by
  have C := Aside0.mk (containsFunc_calls _ _ areParams1 (fun _ _ => by rfl) v xs w hv)
  have hm := hv.max
  obtain ⟨A, c, rfl, -⟩ := hv.ex
  clear hv
  by_cases h : xs.length ≤ 16
  · go_enter Try.func46, Try.ntmps46
    go_wp2_with (go_at_call 54; go_must (refine C.out.mono ?_); rintro e w' ⟨rfl, rfl⟩)
    go_ret
    exact ⟨by simp [paramsB, h], rfl⟩
  · go_enter Try.func46, Try.ntmps46
    go_wp2_with fail
    go_ret
    exact ⟨by simp [paramsB, h], rfl⟩

set_option maxRecDepth 100000 in
theorem areTitle_calls (v : Value) (xs : List Int) (w : World) (hv : Sl w 1 v xs.length (nums xs)) :
    Calls Try.prog 48 #[v] w fun e w' => e = .returned (.bool (titleB xs)) ∧ w = w' := by
  have C := Aside0.mk (containsFunc_calls _ _ areTitle1 (fun _ _ => by rfl) v xs w hv)
  have hm := hv.max
  obtain ⟨A, c, rfl, -⟩ := hv.ex
  clear hv
  by_cases h : xs.length ≤ 40
  · go_enter Try.func48, Try.ntmps48
    go_wp2_with (go_at_call 54; go_must (refine C.out.mono ?_); rintro e w' ⟨rfl, rfl⟩)
    go_ret
    exact ⟨by simp [titleB, h], rfl⟩
  · go_enter Try.func48, Try.ntmps48
    go_wp2_with fail
    go_ret
    exact ⟨by simp [titleB, h], rfl⟩

def parsB (p : Pars) : Bool :=
  !(!inB p.st 1 5 || !paramsB p.ps || !markB p.mr || !titleB p.tx) &&
  ((p.st == 3 || ((p.ps.length : Int) == 0 && p.mr == 0)) && (decide (p.st ≥ 4) || (p.tx.length : Int) == 0))

set_option maxRecDepth 100000 in
set_option maxHeartbeats 1000000 in
theorem parserOk_calls (p : Pars) (vp vt : Value) (w : World) (hp : Sl w 1 vp p.ps.length (nums p.ps)) (ht : Sl w 1 vt p.tx.length (nums p.tx)) :
    Calls Try.prog 26 #[.agg #[i64 p.st, vp, i64 p.mr, vt]] w fun e w' => e = .returned (.bool (parsB p)) ∧ Below w.heap.size w w' := by
  have hm1 := hp.max
  have hm2 := ht.max
  have HP := Aside0.mk hp
  have HT := Aside0.mk ht
  obtain ⟨Ap, cp, rfl, -⟩ := hp.ex
  obtain ⟨At, ct, rfl, -⟩ := ht.ex
  clear hp ht
  have hu := Try.underlying26
  have HB : Hid (∀ o, Below w.heap.size w (w.alloc o)) := fun o => (Below.refl _ _).alloc (Nat.le_refl _) o
  go_enter Try.func26, Try.ntmps26
  go_wp2_with (first
    | (go_at_call 45; go_must (refine (impl_in _ _ _ _).mono ?_); rintro e w' ⟨rfl, rfl⟩)
    | (go_at_call 47; go_must (refine (impl_isMark _ _).mono ?_); rintro e w' ⟨rfl, rfl⟩)
    | (go_at_call 46; go_must (refine (areParams_calls _ p.ps _ (HP.out.below ((Below.refl _ _).alloc (Nat.le_refl _) _))).mono ?_); rintro e w' ⟨rfl, rfl⟩)
    | (go_at_call 48; go_must (refine (areTitle_calls _ p.tx _ (HT.out.below ((Below.refl _ _).alloc (Nat.le_refl _) _))).mono ?_); rintro e w' ⟨rfl, rfl⟩))
  all_goals
    go_ret
    exact ⟨by clear HP HT hm1 hm2; simp_all [parsB], HB _⟩
end Go.Proofs.Ytecjokjmmejinaa
