/- The parser in plain Lean: what Step and Parsed compute, and how parsers and actions lie in memory. -/
import Derived.Test.YtecjokjmmejinaaRune
namespace Go.Proofs.Ytecjokjmmejinaa
open Go.RowKit SL

structure Pars where
  st : Int
  ps : List Int
  mr : Int
  tx : List Int
structure Acn where
  kind : Int
  rune : Int
  ps : List Int
  mr : Int
  tx : List Int
def nums (xs : List Int) : List Value := xs.map i64
theorem nums_one (xs : List Int) : ∀ u ∈ nums xs, u.oneCell' = true := by
  intro u hu
  obtain ⟨x, _, rfl⟩ := List.mem_map.1 hu
  rfl
theorem nums_length (xs : List Int) : (nums xs).length = xs.length := by simp [nums]
theorem nums_append (xs ys : List Int) : nums (xs ++ ys) = nums xs ++ nums ys := by simp [nums]
theorem nums_get {xs : List Int} {i : Nat} (h : i < xs.length) : (nums xs)[i]? = some (i64 (xs.getD i 0)) := by
  simp [nums, List.getElem?_eq_getElem h, List.getD_eq_getElem?_getD]

/-! ### the plain parser -/
def stateP (s : Int) : Pars := ⟨s, [], 0, []⟩
def endedF (p : Pars) (r : Int) : Pars × List Acn := (stateP 1, if r = 92 then [⟨5, 0, [], 0, p.tx⟩] else [])
def titleF (p : Pars) (r : Int) : Pars × List Acn :=
  if r = 7 then (stateP 1, [⟨5, 0, [], 0, p.tx⟩])
  else if r = 27 then ({ p with st := 5 }, [])
  else if p.tx.length < 40 then ({ p with tx := p.tx ++ [r] }, []) else (p, [])
def escapedF (r : Int) : Pars × List Acn :=
  if r = 91 then (stateP 3, []) else if r = 93 then (stateP 4, [])
  else (stateP 1, if inB r 48 126 = true then [⟨3, r, [], 0, []⟩] else [])
def some0 (ps : List Int) : List Int := if ps.length = 0 then [0] else ps
def digitL (ps : List Int) (r : Int) : List Int := ps.set (ps.length - 1) (min (ps.getD (ps.length - 1) 0 * 10 + r - 48) 9999)
def moreF (p : Pars) (r : Int) : Pars × List Acn :=
  if r = 63 ∧ p.ps.length = 0 ∧ p.mr = 0 then ({ p with mr := 63 }, [])
  else if inB r 48 57 = true then ({ p with ps := digitL (some0 p.ps) r }, [])
  else if r = 59 then ({ p with ps := if (some0 p.ps).length < 16 then some0 p.ps ++ [0] else some0 p.ps }, [])
  else (stateP 1, if inB r 64 126 = true then [⟨4, r, p.ps, p.mr, []⟩] else [])
def stepF (p : Pars) (r : Int) : Pars × List Acn :=
  if p.st = 4 then titleF p r
  else if p.st = 5 then endedF p r
  else if r = 27 then (stateP 2, [])
  else if r = 24 ∨ r = 26 then (stateP 1, [])
  else if controlB r = true then (p, [⟨2, r, [], 0, []⟩])
  else if p.st = 2 then escapedF r
  else if p.st = 3 then moreF p r
  else if widthF r > 0 then (p, [⟨1, r, [], 0, []⟩]) else (p, [])
def stepsF (p : Pars) : List Int → Pars × List Acn
  | [] => (p, [])
  | r :: l => ((stepsF (stepF p r).1 l).1, (stepF p r).2 ++ (stepsF (stepF p r).1 l).2)

/-- A parser whose lists are short and whose numbers are small. -/
structure Pars.Fit (p : Pars) : Prop where
  ps : p.ps.length ≤ 16
  tx : p.tx.length ≤ 40
  nn : ∀ x ∈ p.ps, 0 ≤ x ∧ x ≤ 9999

/-! ### in memory -/
def parsCells (p : Pars) (vp vt : Value) : List Value := [i64 p.st, vp, i64 p.mr, vt]
def rowI (v : Value) (xs : List Int) : Atm := row 2 1 v xs.length (nums xs)
theorem rowI_snoc (v : Value) (xs : List Int) (r : Int) : row 2 1 v (xs.length + 1) (nums xs ++ nums [r]) = rowI v (xs ++ [r]) := by
  simp [rowI, nums_append]
theorem rowI_set {v : Value} {xs : List Int} {n : Nat} (hn : n = xs.length) (j : Nat) (x : Int) : row 2 1 v n ((nums xs).set j (i64 x)) = rowI v (xs.set j x) := by
  subst hn
  simp [rowI, nums, List.map_set]
def parsAt (b : Nat) (p : Pars) (vp vt : Value) : List Atm := [cellsAt b 26 (parsCells p vp vt), rowI vp p.ps, rowI vt p.tx]

/-- An action and the two values of its lists. -/
structure AcV where
  a : Acn
  vp : Value
  vt : Value
def acCells (x : AcV) : List Value := [i64 x.a.kind, i64 x.a.rune, x.vp, i64 x.a.mr, x.vt]
def acRows (x : AcV) : List Atm := [rowI x.vp x.a.ps, rowI x.vt x.a.tx]
def acsAt (v : Value) (l : List AcV) : List Atm := row 53 5 v l.length (l.flatMap acCells) :: l.flatMap acRows

theorem elI : El Try.prog 22 2 (i64 0) 1 8 := ⟨Try.underlying22, by kernel_rfl, rfl, by omega, by omega⟩
theorem elA : El Try.prog 27 53 (.agg #[i64 0, i64 0, nilS, i64 0, nilS]) 5 72 := ⟨Try.underlying27, by kernel_rfl, rfl, by omega, by omega⟩
set_option maxRecDepth 100000 in
theorem szP : ∀ w, (Go.sizeOf 26).run Try.prog w = .ok 4 w := fun _ => by rfl
set_option maxRecDepth 100000 in
theorem zvP : ∀ w, (zeroValue 26).run Try.prog w = .ok (.agg #[i64 0, nilS, i64 0, nilS]) w := fun _ => by rfl
set_option maxRecDepth 100000 in
theorem szA : ∀ w, (Go.sizeOf 53).run Try.prog w = .ok 5 w := fun _ => by rfl
set_option maxRecDepth 100000 in
theorem zvA : ∀ w, (zeroValue 53).run Try.prog w = .ok (.agg #[i64 0, i64 0, nilS, i64 0, nilS]) w := fun _ => by rfl

/-! ### plain facts -/
theorem stateP_fit (s : Int) : (stateP s).Fit := ⟨by simp [stateP], by simp [stateP], by simp [stateP]⟩
theorem ite_ok {α : Type} {R : α → Prop} {c : Prop} [Decidable c] {a b : α} (ha : c → R a) (hb : ¬ c → R b) : R (if c then a else b) := by
  split
  · exact ha ‹_›
  · exact hb ‹_›
def LenOk (x : Pars × List Acn) : Prop := x.2.length ≤ 1
theorem stepF_len (p : Pars) (r : Int) : (stepF p r).2.length ≤ 1 := by
  show LenOk (stepF p r)
  unfold stepF titleF endedF escapedF moreF
  repeat' (refine ite_ok (fun _ => ?_) (fun _ => ?_))
  all_goals (simp only [LenOk]; first | exact Nat.zero_le _ | exact Nat.le_refl _ | (split <;> simp))
def FitOk (x : Pars × List Acn) : Prop := x.1.Fit
theorem some0_fit {ps : List Int} (h : ps.length ≤ 16) (hn : ∀ x ∈ ps, 0 ≤ x ∧ x ≤ 9999) : (some0 ps).length ≤ 16 ∧ 0 < (some0 ps).length ∧ ∀ x ∈ some0 ps, 0 ≤ x ∧ x ≤ 9999 := by
  unfold some0
  split
  · simp
  · exact ⟨h, by omega, hn⟩
theorem stepF_fit {p : Pars} (h : p.Fit) (r : Int) : (stepF p r).1.Fit := by
  obtain ⟨s1, s2, s3⟩ := some0_fit h.ps h.nn
  have hd : inB r 48 57 = true → ∀ x ∈ digitL (some0 p.ps) r, 0 ≤ x ∧ x ≤ 9999 := by
    intro hr x hx
    have hr2 := inB_iff.1 hr
    rcases List.mem_or_eq_of_mem_set hx with hx | rfl
    · exact s3 x hx
    · have := s3 ((some0 p.ps).getD ((some0 p.ps).length - 1) 0) (by rw [List.getD_eq_getElem?_getD, List.getElem?_eq_getElem (by omega)]; exact List.getElem_mem _)
      omega
  show FitOk (stepF p r)
  unfold stepF titleF endedF escapedF moreF
  repeat' (refine ite_ok (fun _ => ?_) (fun _ => ?_))
  all_goals first
    | exact stateP_fit _
    | exact h
    | (show Pars.Fit ⟨5, p.ps, p.mr, p.tx⟩; exact ⟨h.ps, h.tx, h.nn⟩)
    | (show Pars.Fit ⟨p.st, p.ps, 63, p.tx⟩; exact ⟨h.ps, h.tx, h.nn⟩)
    | (show Pars.Fit ⟨p.st, p.ps, p.mr, p.tx ++ [r]⟩; exact ⟨h.ps, by simp; omega, h.nn⟩)
    | (show Pars.Fit ⟨p.st, digitL (some0 p.ps) r, p.mr, p.tx⟩; exact ⟨by simpa [digitL] using s1, h.tx, hd ‹_›⟩)
    | skip
  show Pars.Fit ⟨p.st, _, p.mr, p.tx⟩
  split
  · exact ⟨by simp; omega, h.tx, fun x hx => by
      rcases List.mem_append.1 hx with hx | hx
      · exact s3 x hx
      · rw [List.mem_singleton.1 hx]; omega⟩
  · exact ⟨s1, h.tx, s3⟩
theorem stepsF_snoc (p : Pars) (l : List Int) (r : Int) : stepsF p (l ++ [r]) = ((stepF (stepsF p l).1 r).1, (stepsF p l).2 ++ (stepF (stepsF p l).1 r).2) := by
  induction l generalizing p with
  | nil => simp [stepsF]
  | cons a l ih => simp [stepsF, ih]
theorem stepsF_fit {p : Pars} (h : p.Fit) (l : List Int) : (stepsF p l).1.Fit := by
  induction l generalizing p with
  | nil => exact h
  | cons a l ih => exact ih (stepF_fit h a)
theorem stepsF_append (p : Pars) (l m : List Int) : stepsF p (l ++ m) = ((stepsF (stepsF p l).1 m).1, (stepsF p l).2 ++ (stepsF (stepsF p l).1 m).2) := by
  induction l generalizing p with
  | nil => simp [stepsF]
  | cons a l ih => simp [stepsF, ih]
theorem acCells_len (l : List AcV) : (l.flatMap acCells).length = l.length * 5 := by
  induction l with
  | nil => rfl
  | cons a l ih => rw [List.flatMap_cons, List.length_append, ih]; simp [acCells]; omega
end Go.Proofs.Ytecjokjmmejinaa
