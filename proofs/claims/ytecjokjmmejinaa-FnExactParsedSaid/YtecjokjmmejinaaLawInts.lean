/- The laws' szInt64S, eqInt64S, toInt64S, markInt64S, heldInt64S. -/
import Derived.Test.YtecjokjmmejinaaSpecParsed
import Derived.Laws.MakeOwn
namespace Go.Proofs.Ytecjokjmmejinaa
open Go.RowKit SL

set_option maxRecDepth 100000 in
set_option maxHeartbeats 400000 in
theorem szInt64S_calls (A : Option Addr) (n c : Nat) (m : Int) (w : World) (hn : n ≤ 9223372036854775807) (h0 : 0 ≤ m) (h1 : m ≤ 1048576) :
    Calls Try.prog 30 #[.slice A n c, i64 m] w fun e w' => e = .returned (i64 (if m < n then -1 else m - n)) ∧ w = w' := by
  by_cases h : m < n
  · go_enter Try.func30, Try.ntmps30
    go_wp2
    go_ret
    exact ⟨rfl, rfl⟩
  · go_enter Try.func30, Try.ntmps30
    go_wp2
    go_ret
    exact ⟨rfl, rfl⟩

set_option maxRecDepth 100000 in
set_option maxHeartbeats 400000 in
theorem eqInt64S_calls (va vb : Value) (xs : List Int) (w : World) (ha : Sl w 1 va xs.length (nums xs)) (hb : Sl w 1 vb xs.length (nums xs)) :
    Calls Try.prog 19 #[va, vb] w fun e w' => e = .returned (.bool true) ∧ ∃ n, w' = w.drewN n := by
  have hm := ha.max
  have HA := Aside0.mk ha
  have HB := Aside0.mk hb
  obtain ⟨A, c, rfl, -⟩ := ha.ex
  obtain ⟨B, d, rfl, -⟩ := hb.ex
  clear ha hb
  go_enter Try.func19, Try.ntmps19
  go_wp2
  go_loopw [5] (fun s5 wr => ∃ k n : Nat, k ≤ xs.length ∧ s5 = .int .i64 k ∧ wr = w.drewN n) (fun s5 wr => xs.length - (intOf s5).toNat)
  case atStart => exact ⟨0, 0, Nat.zero_le _, rfl, rfl⟩
  case round =>
    obtain ⟨k, n, hk, rfl, rfl⟩ := hrel
    by_cases hlt : k < xs.length
    · obtain ⟨ad, c', e, hcell⟩ := Sl.get HA.out hlt
      simp only [Value.slice.injEq] at e
      obtain ⟨rfl, -, rfl⟩ := e
      obtain ⟨bd, d', e, hcell2⟩ := Sl.get HB.out hlt
      simp only [Value.slice.injEq] at e
      obtain ⟨rfl, -, rfl⟩ := e
      have hck : w.cell? (ad.add k) = some (i64 (xs.getD k 0)) := hcell k hlt
      have hck2 : w.cell? (bd.add k) = some (i64 (xs.getD k 0)) := hcell2 k hlt
      clear hcell hcell2
      generalize xs.getD k 0 = x at *
      go_wp2
      go_quiet (fail)
      go_wp2
      exact ⟨⟨k + 1, n + nq, by omega, by go_num, rfl⟩, by simp [intOf]; omega⟩
    · have hkn : k = xs.length := by omega
      subst hkn
      go_wp2
      go_ret
      exact ⟨rfl, n, rfl⟩
theorem madeI (n : Nat) : madeCells (i64 0).cells n = (nums (List.replicate n 0)).toArray := by
  apply Array.ext
  · simp [madeCells, nums]
  · intro i h1 h2
    simp [madeCells, nums, Value.cells, Nat.mod_one]
theorem makeI (n : Nat) (hn : n ≤ 10000000) (w : World) : (Instr.makeSlice 22 (.int .i64 (n : Int)) (.int .i64 (n : Int))).run Try.prog w = .ok (.slice (some ⟨w.heap.size, 0, none⟩) n n) (w.alloc (.cells (nums (List.replicate n 0)).toArray 2)) := by
  have h0 := elI.hi
  cases hi : (Try.prog.info? 2) with
  | none => rw [hi] at h0; cases h0
  | some i =>
    rw [hi] at h0
    simp only [Option.map_some, Option.some.injEq, Prod.mk.injEq] at h0
    obtain ⟨hz, hs, hb⟩ := h0
    have h := run_make (P := Try.prog) w 22 2 i (i64 0) Try.underlying22 hi hz .i64 .i64 n n (by omega) (Int.le_refl _) (by rw [hb]; omega) (by omega)
    rw [hs] at h
    simp only [Int.toNat_natCast, Nat.mul_one] at h
    rw [madeI] at h
    exact h
theorem set_take (xs : List Int) (k : Nat) (hk : k < xs.length) : (nums (xs.take k ++ List.replicate (xs.length - k) 0)).set k (i64 (xs.getD k 0)) = nums (xs.take (k + 1) ++ List.replicate (xs.length - (k + 1)) 0) := by
  obtain ⟨m, hm⟩ : ∃ m, xs.length - k = m + 1 := ⟨xs.length - k - 1, by omega⟩
  have hm' : xs.length - (k + 1) = m := by omega
  have ht : (xs.take k).length = k := by rw [List.length_take]; omega
  have hx : xs.take (k + 1) = xs.take k ++ [xs.getD k 0] := by
    rw [List.take_add_one, List.getElem?_eq_getElem hk, List.getD_eq_getElem?_getD, List.getElem?_eq_getElem hk]; rfl
  rw [hm, hm', hx]
  simp only [nums, ← List.map_set]
  rw [List.set_append_right _ _ (by omega), ht, Nat.sub_self, List.replicate_succ, List.set_cons_zero, List.append_assoc]
  rfl

set_option maxRecDepth 100000 in
set_option maxHeartbeats 400000 in
theorem toInt64S_calls (va : Value) (xs : List Int) (w : World) (ha : Sl w 1 va xs.length (nums xs)) (hl : xs.length ≤ 10000000) :
    Calls Try.prog 17 #[va] w fun e w' => ∃ v', e = .returned v' ∧ Own w.heap.size w' [rowI v' xs] ∧ Below w.heap.size w w' := by
  have HA := Aside0.mk ha
  obtain ⟨A, c, rfl, -⟩ := ha.ex
  clear ha
  have hmk := makeI xs.length hl
  have H0 := Aside0.mk ((Own.nil w.heap.size w).lit (Nat.le_refl _) 2 1 xs.length (nums (List.replicate xs.length 0)) (by simp [nums]) (by omega) rfl)
  have B0 := Aside0.mk ((Below.refl w.heap.size w).alloc (Nat.le_refl _) (.cells (nums (List.replicate xs.length 0)).toArray 2))
  have hst := Aside0.mk (set_take xs)
  go_enter Try.func17, Try.ntmps17
  go_wp2
  go_loopw [4] (fun s4 wr => ∃ k : Nat, k ≤ xs.length ∧ s4 = .int .i64 k ∧ Own w.heap.size wr [row 2 1 (.slice (some ⟨w.heap.size, 0, none⟩) xs.length xs.length) xs.length (nums (xs.take k ++ List.replicate (xs.length - k) 0))] ∧ Hid (Below w.heap.size w wr)) (fun s4 wr => xs.length - (intOf s4).toNat)
  case atStart => exact ⟨0, Nat.zero_le _, rfl, by simpa using H0.out, B0.out⟩
  case round =>
    obtain ⟨k, hk, rfl, HW, HB⟩ := hrel
    have H5 := Aside0.mk HW
    clear HW H0 B0
    by_cases hlt : k < xs.length
    · obtain ⟨ad, c', e, hcell⟩ := Sl.get (HA.out.below HB) hlt
      simp only [Value.slice.injEq] at e
      obtain ⟨rfl, -, rfl⟩ := e
      have hck : wr.cell? (ad.add k) = some (i64 (xs.getD k 0)) := hcell k hlt
      clear hcell
      obtain ⟨g, c2, e, -, -, hc, hfz⟩ := H5.out.form (by omega)
      simp only [Value.slice.injEq, Option.some.injEq, Addr.mk.injEq] at e
      obtain ⟨⟨rfl, -, -⟩, -, rfl⟩ := e
      obtain ⟨u, hu⟩ : ∃ u, wr.cell? ⟨w.heap.size, k, none⟩ = some u := by
        rw [hc k (by omega)]
        exact ⟨_, List.getElem?_eq_getElem (by rw [nums_length]; simp; omega)⟩
      have hfk : wr.frozen? ⟨w.heap.size, k, none⟩ = false := hfz k
      clear hc hfz
      have H6 := Aside0.mk (H5.out.store k (i64 (xs.getD k 0)))
      rw [hst.out k hlt] at H6
      generalize xs.getD k 0 = x at *
      go_wp2
      exact ⟨⟨k + 1, by omega, by go_num, H6.out, (show Below _ _ _ from HB).setCell (Nat.le_refl _) _⟩, by simp [intOf]; omega⟩
    · have hkn : k = xs.length := by omega
      subst hkn
      go_wp2
      go_ret
      refine ⟨_, rfl, ?_, HB⟩
      have := H5.out
      rw [List.take_length, Nat.sub_self, List.replicate_zero, List.append_nil] at this
      exact this

/-- k, k+1, .. : what a mark writes into n numbers. -/
def marksI (k : Int) : Nat → List Int
  | 0 => []
  | n + 1 => k :: marksI (k + 1) n

theorem marksI_len (k : Int) (n : Nat) : (marksI k n).length = n := by
  induction n generalizing k with
  | zero => rfl
  | succ n ih => simp [marksI, ih]
theorem marksI_get (k : Int) (n j : Nat) (h : j < n) : (marksI k n).getD j 0 = k + j := by
  induction n generalizing k j with
  | zero => omega
  | succ n ih =>
    cases j with
    | zero => simp [marksI]
    | succ j =>
      have := ih (k + 1) j (by omega)
      simp only [marksI, List.getD_cons_succ]
      rw [this]; omega
theorem marksI_snoc (k : Int) (n : Nat) : marksI k (n + 1) = marksI k n ++ [k + n] := by
  induction n generalizing k with
  | zero => simp [marksI]
  | succ n ih =>
    rw [show marksI k (n + 1 + 1) = k :: marksI (k + 1) (n + 1) from rfl, ih (k + 1), show marksI k (n + 1) = k :: marksI (k + 1) n from rfl]
    simp; omega

set_option maxRecDepth 100000 in
set_option maxHeartbeats 400000 in
theorem heldInt64S_calls (va : Value) (n : Nat) (k : Int) (w : World) (h0 : 0 ≤ k) (hk : k + n ≤ 1000000000000) (ha : Sl w 1 va n (nums (marksI k n))) :
    Calls Try.prog 35 #[va, i64 k] w fun e w' => e = .returned (i64 (k + n)) ∧ w = w' := by
  have hm := ha.max
  have HA : Aside0 (Sl w 1 va (marksI k n).length (nums (marksI k n))) := ⟨by rw [marksI_len]; exact ha⟩
  obtain ⟨A, c, rfl, -⟩ := ha.ex
  have hl := marksI_len k n
  clear ha
  go_enter Try.func35, Try.ntmps35
  go_wp2
  go_loop [1, 5] (fun s1 s5 => ∃ j : Nat, j ≤ n ∧ s1 = .int .i64 (k + j) ∧ s5 = .int .i64 j) (fun _ s5 => n - (intOf s5).toNat)
  case atStart => exact ⟨0, Nat.zero_le _, by simp, rfl⟩
  case round =>
    obtain ⟨j, hj, rfl, rfl⟩ := hrel
    by_cases hlt : j < n
    · obtain ⟨ad, c', e, hcell⟩ := Sl.get HA.out (k := j) (by rw [marksI_len]; exact hlt)
      simp only [Value.slice.injEq] at e
      obtain ⟨rfl, -, rfl⟩ := e
      have hck : w.cell? (ad.add j) = some (i64 (k + j)) := by rw [← marksI_get k n j hlt]; exact hcell j (by rw [marksI_len]; exact hlt)
      clear hcell
      go_wp2
      exact ⟨⟨j + 1, by omega, by rw [show k + ((j + 1 : Nat) : Int) = k + j + 1 by omega], by go_num⟩, by simp [intOf]; omega⟩
    · have hkn : j = n := by omega
      subst hkn
      go_wp2
      go_ret
      exact ⟨rfl, rfl⟩

theorem mark_set (xs : List Int) (k : Int) (j : Nat) (h : j < xs.length) : (nums (marksI k j ++ xs.drop j)).set j (i64 (k + j)) = nums (marksI k (j + 1) ++ xs.drop (j + 1)) := by
  rw [marksI_snoc, List.drop_eq_getElem_cons h]
  simp only [nums, ← List.map_set]
  rw [List.set_append_right _ _ (by rw [marksI_len]; omega), marksI_len, Nat.sub_self, List.set_cons_zero, List.append_assoc]
  rfl

set_option maxRecDepth 100000 in
set_option maxHeartbeats 400000 in
theorem markInt64S_calls (base : Nat) (v : Value) (xs : List Int) (k : Int) (L : List Atm) (w : World) (h0 : 0 ≤ k) (hk : k + xs.length ≤ 1000000000000) (h : Own base w (rowI v xs :: L)) :
    Calls Try.prog 20 #[v, i64 k] w fun e w' => e = .returned (i64 (k + xs.length)) ∧ Own base w' (rowI v (marksI k xs.length) :: L) ∧ Below base w w' := by
  obtain ⟨A, c, rfl, hc0, -⟩ := h.rd
  have hst := Aside0.mk (mark_set xs k)
  have hm : xs.length ≤ 1000000000000 := by omega
  have hb0 : Aside0 (Below base w w) := ⟨Below.refl _ _⟩
  have H0 := Aside0.mk h
  clear h
  go_enter Try.func20, Try.ntmps20
  go_wp2
  go_loopw [1, 5] (fun s1 s5 wr => ∃ j : Nat, j ≤ xs.length ∧ s1 = .int .i64 (k + j) ∧ s5 = .int .i64 j ∧ Own base wr (row 2 1 (.slice A xs.length c) xs.length (nums (marksI k j ++ xs.drop j)) :: L) ∧ Hid (Below base w wr)) (fun _ s5 wr => xs.length - (intOf s5).toNat)
  case atStart => exact ⟨0, Nat.zero_le _, by simp, rfl, H0.out, hb0.out⟩
  case round =>
    obtain ⟨j, hj, rfl, rfl, HW, HB⟩ := hrel
    have H5 := Aside0.mk HW
    clear HW H0 hb0
    by_cases hlt : j < xs.length
    · obtain ⟨g, c2, e, hgb, -, hc, hfz⟩ := H5.out.form (by omega)
      simp only [Value.slice.injEq] at e
      obtain ⟨rfl, -, rfl⟩ := e
      obtain ⟨u, hu⟩ : ∃ u, wr.cell? ⟨g, j, none⟩ = some u := by
        rw [hc j (by omega)]
        exact ⟨_, List.getElem?_eq_getElem (by rw [nums_length, List.length_append, marksI_len, List.length_drop]; omega)⟩
      have hfk : wr.frozen? ⟨g, j, none⟩ = false := hfz j
      clear hc hfz
      have H6 := Aside0.mk (H5.out.store j (i64 (k + j)))
      rw [hst.out j hlt] at H6
      go_wp2
      exact ⟨⟨j + 1, by omega, by rw [show k + ((j + 1 : Nat) : Int) = k + j + 1 by omega], by go_num, H6.out, (show Below _ _ _ from HB).setCell hgb _⟩, by simp [intOf]; omega⟩
    · have hkn : j = xs.length := by omega
      subst hkn
      go_wp2
      go_ret
      refine ⟨rfl, ?_, HB⟩
      have := H5.out
      rw [List.drop_length, List.append_nil] at this
      unfold rowI
      rw [marksI_len]
      exact this
end Go.Proofs.Ytecjokjmmejinaa
