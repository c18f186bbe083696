/- The parser's contracts at a state, and the walks of the laws FnExactStep and FnExactParsed. -/
import Derived.Test.YtecjokjmmejinaaLawHeld
import Derived.Test.YtecjokjmmejinaaTys
namespace Go.Proofs.Ytecjokjmmejinaa
open Go.RowKit SL

/-- Actions in memory, as one fact. -/
def actsA (va : Value) (zs : List Acn) : Atm := exA fun l : List AcV => bun (l.map AcV.a = zs) (acsAt va l)
section
variable {base : Nat} {w0 w : World} {L R R1 R2 R3 R4 : List Atm}

theorem SL.St.rdP {p : Pars} {vp vt : Value} (S : St base w0 w L) [h1 : PullIn (rowI vp p.ps) L R1] [h2 : PullIn (rowI vt p.tx) L R2] : RdP w p vp vt :=
  ⟨(S.pull h1.pull).own.sl (nums_one _), (S.pull h2.pull).own.sl (nums_one _)⟩
theorem SL.St.rdAs {va : Value} {zs : List Acn} (S : St base w0 w L) [h1 : PullIn (actsA va zs) L R] : ∃ l, RdAs w va l ∧ l.map AcV.a = zs := by
  obtain ⟨l, S1⟩ := (S.pull h1.pull).unex
  obtain ⟨e, S2⟩ := S1.unbun
  exact ⟨l, S2.own.rdAs, e⟩

/-- Step's and Parsed's result. -/
def Made (base : Nat) (w0 : World) (L : List Atm) (F : Pars × List Acn) (e : Ending) (w' : World) : Prop :=
  ∃ A c A' c' B d, e = .returned (.tuple #[.agg #[i64 F.1.st, .slice A F.1.ps.length c, i64 F.1.mr, .slice A' F.1.tx.length c'], .slice B F.2.length d]) ∧
    St base w0 w' (rowI (.slice A F.1.ps.length c) F.1.ps :: rowI (.slice A' F.1.tx.length c') F.1.tx :: actsA (.slice B F.2.length d) F.2 :: L)
theorem made_of {F : Pars × List Acn} {e : Ending} {w' : World} (S : St base w0 w L) (h : MadeP F e w' w) : Made base w0 L F e w' := by
  obtain ⟨vp, vt, va, l, rfl, hl, HO, HB⟩ := h
  obtain ⟨A, c, rfl, -, -⟩ := HO.rd
  obtain ⟨A', c', rfl, -, -⟩ := HO.pull1.rd
  obtain ⟨B, d, rfl, -, -⟩ := HO.pull2.rd
  have S1 := S.join HB HO
  have hlen : l.length = F.2.length := by rw [← hl, List.length_map]
  rw [hlen] at S1 ⊢
  refine ⟨A, c, A', c', B, d, rfl, ?_⟩
  have S2 : St base w0 w' (rowI (.slice A F.1.ps.length c) F.1.ps :: rowI (.slice A' F.1.tx.length c') F.1.tx :: (acsAt (.slice B F.2.length d) l ++ L)) := S1
  have S3 : St base w0 w' ((acsAt (.slice B F.2.length d) l) ++ (rowI (.slice A F.1.ps.length c) F.1.ps :: rowI (.slice A' F.1.tx.length c') F.1.tx :: L)) :=
    ⟨S2.own.perm (by
      have h1 := @List.perm_middle _ (rowI (.slice A F.1.ps.length c) F.1.ps) (acsAt (.slice B F.2.length d) l) (rowI (.slice A' F.1.tx.length c') F.1.tx :: L)
      have h2 := @List.perm_middle _ (rowI (.slice A' F.1.tx.length c') F.1.tx) (acsAt (.slice B F.2.length d) l) L
      exact ((List.Perm.cons _ h2.symm).trans h1.symm)), S2.bel, S2.hb⟩
  have S4 : St base w0 w' (actsA (.slice B F.2.length d) F.2 :: rowI (.slice A F.1.ps.length c) F.1.ps :: rowI (.slice A' F.1.tx.length c') F.1.tx :: L) := (S3.bun hl).ex l
  exact ⟨S4.own.perm ((List.Perm.swap _ _ _).trans (List.Perm.cons _ (List.Perm.swap _ _ _))), S4.bel, S4.hb⟩

theorem toParser_st (p : Pars) (vp vt : Value) (S : St base w0 w L) (hr : RdP w p vp vt) (hl : p.ps.length + p.tx.length ≤ 1048576) :
    Calls Try.prog 8 #[.agg #[i64 p.st, vp, i64 p.mr, vt]] w fun e w' => ∃ A c A' c', e = .returned (.agg #[i64 p.st, .slice A p.ps.length c, i64 p.mr, .slice A' p.tx.length c']) ∧
      St base w0 w' (rowI (.slice A p.ps.length c) p.ps :: rowI (.slice A' p.tx.length c') p.tx :: L) :=
  (toParser_calls p vp vt w hr (by omega) (by omega)).mono fun e w' ⟨vp', vt', he, HO, HB⟩ => by
    obtain ⟨A, c, rfl, -, -⟩ := HO.rd
    obtain ⟨A', c', rfl, -, -⟩ := HO.pull1.rd
    exact ⟨A, c, A', c', he, S.join HB HO⟩
theorem specStep_st (p : Pars) (r : Int) (vp vt : Value) {F : Pars × List Acn} (hF : Hid (parsedF p [r] = F)) (S : St base w0 w L) [h1 : PullIn (rowI vp p.ps) L R1] [h2 : PullIn (rowI vt p.tx) L R2] :
    Calls Try.prog 7 #[.agg #[i64 p.st, vp, i64 p.mr, vt], i64 r] w fun e w' => Made base w0 L F e w' :=
  (specStep_calls p r vp vt w S.rdP).mono fun e w' h => by rw [stepB_eq, hF.out] at h; exact made_of S h
theorem implStep_st (p : Pars) (r : Int) (vp vt : Value) {F : Pars × List Acn} (hF : Hid (parsedF p [r] = F)) (S : St base w0 w L) [h1 : PullIn (rowI vp p.ps) L R1] [h2 : PullIn (rowI vt p.tx) L R2] :
    Calls Try.prog 9 #[.agg #[i64 p.st, vp, i64 p.mr, vt], i64 r] w fun e w' => Made base w0 L F e w' :=
  (implStep_calls p r vp vt w S.rdP).mono fun e w' h => by rw [hF.out] at h; exact made_of S h
theorem eqParser_st (p : Pars) (va vb vc vd : Value) (S : St base w0 w L) [h1 : PullIn (rowI va p.ps) L R1] [h2 : PullIn (rowI vb p.tx) L R2] [h3 : PullIn (rowI vc p.ps) L R3] [h4 : PullIn (rowI vd p.tx) L R4] :
    Calls Try.prog 10 #[.agg #[i64 p.st, va, i64 p.mr, vb], .agg #[i64 p.st, vc, i64 p.mr, vd]] w fun e w' => e = .returned (.bool true) ∧ St base w0 w' L :=
  (eqParser_calls p va vb vc vd w S.rdP S.rdP).mono fun e w' ⟨he, HB⟩ => ⟨he, S.call HB⟩
theorem eqActionS_st (zs : List Acn) (va vb : Value) (S : St base w0 w L) (hl : zs.length ≤ 1000000) [h1 : PullIn (actsA va zs) L R1] [h2 : PullIn (actsA vb zs) L R2] :
    Calls Try.prog 11 #[va, vb] w fun e w' => e = .returned (.bool true) ∧ St base w0 w' L := by
  obtain ⟨l, hl1, e1⟩ := S.rdAs (va := va) (zs := zs)
  obtain ⟨m, hm1, e2⟩ := S.rdAs (va := vb) (zs := zs)
  exact (eqActionS_calls va vb l m w hl1 hm1 (e1.trans e2.symm) (by rw [← e1, List.length_map] at hl; exact hl)).mono fun e w' ⟨he, HB⟩ => ⟨he, S.call HB⟩
theorem markParser_st (p : Pars) (vp vt : Value) (k : Int) (S : St base w0 w L) (h0 : 0 ≤ k) (hk : k + p.ps.length + p.tx.length ≤ 1000000000000) [h1 : PullIn (rowI vp p.ps) L R1] [h2 : PullIn (rowI vt p.tx) R1 R2] :
    Calls Try.prog 12 #[.agg #[i64 p.st, vp, i64 p.mr, vt], i64 k] w fun e w' => e = .returned (i64 (k + p.ps.length + p.tx.length)) ∧
      St base w0 w' (rowI vp (marksI k p.ps.length) :: rowI vt (marksI (k + p.ps.length) p.tx.length) :: R2) := by
  have S1 := S.pull h1.pull
  have h3 : Own base w (rowI vp p.ps :: rowI vt p.tx :: R2) := S1.own.perm (List.Perm.cons _ h2.pull.perm)
  exact (markParser_calls base p vp vt k R2 w S.hb h0 hk h3).mono fun e w' ⟨he, HO, HB⟩ => ⟨he, S.next HB HO⟩
theorem heldParser_st (st mr : Int) (A1 A2 : Option Addr) (n m c1 c2 : Nat) (k : Int) (S : St base w0 w L) (h0 : 0 ≤ k) (hk : k + n + m ≤ 1000000000000) [h1 : PullIn (rowI (.slice A1 n c1) (marksI k n)) L R1] [h2 : PullIn (rowI (.slice A2 m c2) (marksI (k + n) m)) L R2] :
    Calls Try.prog 14 #[.agg #[i64 st, .slice A1 n c1, i64 mr, .slice A2 m c2], i64 k] w fun e w' => e = .returned (i64 (k + n + m)) ∧ St base w0 w' L := by
  have e1 := (S.pull h1.pull).own.sl (nums_one _)
  have e2 := (S.pull h2.pull).own.sl (nums_one _)
  rw [marksI_len] at e1 e2
  exact (heldParser_calls st mr _ _ n m k w h0 hk e1 e2).mono fun e w' ⟨he, HB⟩ => ⟨he, S.call HB⟩

/-! ### marks of plain actions -/
def markAP (a : Acn) (k : Int) : Acn := ⟨k, k + 1, marksI (k + 2) a.ps.length, k + 2 + a.ps.length, marksI (k + 3 + a.ps.length) a.tx.length⟩
def nextAP (a : Acn) (k : Int) : Int := k + 3 + a.ps.length + a.tx.length
def markPs (k : Int) : List Acn → List Acn
  | [] => []
  | x :: l => markAP x k :: markPs (nextAP x k) l
def nextPs (k : Int) : List Acn → Int
  | [] => k
  | x :: l => nextPs (nextAP x k) l
theorem markPs_len (k : Int) (l : List Acn) : (markPs k l).length = l.length := by
  induction l generalizing k with
  | nil => rfl
  | cons x l ih => simp [markPs, ih]
theorem markAs_map (k : Int) (l : List AcV) : (markAs k l).map AcV.a = markPs k (l.map AcV.a) := by
  induction l generalizing k with
  | nil => rfl
  | cons x l ih => simp only [markAs, List.map_cons, markPs, ih]; rfl
theorem nextAs_map (k : Int) (l : List AcV) : nextAs k l = nextPs k (l.map AcV.a) := by
  induction l generalizing k with
  | nil => rfl
  | cons x l ih => simp only [nextAs, List.map_cons, nextPs, ih]; rfl
theorem nextPs_le (k : Int) (l : List Acn) : k ≤ nextPs k l := by
  induction l generalizing k with
  | nil => exact Int.le_refl _
  | cons x l ih => have := ih (nextAP x k); simp only [nextPs]; simp only [nextAP] at *; omega
theorem markAs_back (k : Int) (zs : List Acn) (m : List AcV) (h : m.map AcV.a = markPs k zs) : ∃ l, l.map AcV.a = zs ∧ markAs k l = m := by
  induction zs generalizing k m with
  | nil => simp [markPs] at h; subst h; exact ⟨[], rfl, rfl⟩
  | cons a zs ih =>
    cases m with
    | nil => simp [markPs] at h
    | cons x m =>
      simp only [markPs, List.map_cons, List.cons.injEq] at h
      obtain ⟨h1, h2⟩ := h
      obtain ⟨l, e1, e2⟩ := ih (nextAP a k) m h2
      refine ⟨⟨a, x.vp, x.vt⟩ :: l, by simp [e1], ?_⟩
      simp only [markAs]
      rw [show nextA ⟨a, x.vp, x.vt⟩ k = nextAP a k from rfl, e2]
      congr 1
      obtain ⟨xa, xp, xt⟩ := x
      simp only at h1
      subst h1
      rfl
def ShortP (l : List Acn) : Prop := ∀ x ∈ l, x.ps.length ≤ 100 ∧ x.tx.length ≤ 100
theorem short_of {l : List AcV} (h : ShortP (l.map AcV.a)) : Short l := fun x hx => h x.a (List.mem_map.2 ⟨x, hx, rfl⟩)
theorem markActionS_st (zs : List Acn) (va : Value) (k : Int) (S : St base w0 w L) (h0 : 0 ≤ k) (hk : k ≤ 100000000) (hs : ShortP zs) (hl : zs.length ≤ 1000000) [h1 : PullIn (actsA va zs) L R] :
    Calls Try.prog 13 #[va, i64 k] w fun e w' => e = .returned (i64 (nextPs k zs)) ∧ St base w0 w' (actsA va (markPs k zs) :: R) := by
  obtain ⟨l, S1⟩ := (S.pull h1.pull).unex
  obtain ⟨rfl, S2⟩ := S1.unbun
  exact (markActionS_calls base va l k R w S.hb h0 hk (short_of hs) (by simpa using hl) S2.own).mono fun e w' ⟨he, HO, HB⟩ =>
    ⟨by rw [he, nextAs_map], ((S.next HB HO).bun (markAs_map k l)).ex (markAs k l)⟩
theorem heldActionS_st (zs : List Acn) (va : Value) (k : Int) (S : St base w0 w L) (h0 : 0 ≤ k) (hk : k ≤ 100000000) (hs : ShortP zs) (hl : zs.length ≤ 1000000) [h1 : PullIn (actsA va (markPs k zs)) L R] :
    Calls Try.prog 15 #[va, i64 k] w fun e w' => e = .returned (i64 (nextPs k zs)) ∧ St base w0 w' L := by
  obtain ⟨m, hm, e1⟩ := S.rdAs (va := va) (zs := markPs k zs)
  obtain ⟨l, rfl, rfl⟩ := markAs_back k zs m e1
  exact (heldActionS_calls va l k w h0 hk (short_of hs) (by simpa using hl) hm).mono fun e w' ⟨he, hw⟩ => ⟨by rw [he, nextAs_map], hw ▸ S⟩
end

/-! ### the results are small -/
def ShortOk (x : Pars × List Acn) : Prop := ShortP x.2
theorem stepF_short {p : Pars} (h : p.Fit) (r : Int) : ShortP (stepF p r).2 := by
  have h1 := h.ps
  have h2 := h.tx
  have hn : ShortP [] := fun _ hx => by cases hx
  have h0 : ∀ k r m (ps tx : List Int), ps.length ≤ 100 → tx.length ≤ 100 → ShortP [⟨k, r, ps, m, tx⟩] := fun k r m ps tx h3 h4 x hx => by
    rw [List.mem_singleton.1 hx]; exact ⟨h3, h4⟩
  show ShortOk (stepF p r)
  unfold stepF titleF endedF escapedF moreF
  repeat' (refine ite_ok (fun _ => ?_) (fun _ => ?_))
  all_goals ((try simp only [ShortOk]); (try split))
  all_goals first
    | exact hn
    | (refine h0 _ _ _ _ _ ?_ ?_ <;> first | omega | (simp; done) | (simp; omega))
theorem stepsF_short {p : Pars} (h : p.Fit) (l : List Int) : ShortP (stepsF p l).2 ∧ (stepsF p l).2.length ≤ l.length := by
  induction l generalizing p with
  | nil => exact ⟨fun _ hx => (by cases hx), Nat.le_refl _⟩
  | cons a l ih =>
    obtain ⟨h1, h2⟩ := ih (stepF_fit h a)
    have h3 := stepF_short h a
    have h4 := stepF_len p a
    refine ⟨fun x hx => ?_, ?_⟩
    · rcases List.mem_append.1 hx with hx | hx
      · exact h3 x hx
      · exact h1 x hx
    · show ((stepF p a).2 ++ (stepsF (stepF p a).1 l).2).length ≤ _
      rw [List.length_append, List.length_cons]; omega
theorem parsedF_small (p : Pars) (l : List Int) : (parsedF p l).1.ps.length ≤ 16 ∧ (parsedF p l).1.tx.length ≤ 40 ∧ ShortP (parsedF p l).2 ∧ (parsedF p l).2.length ≤ l.length := by
  unfold parsedF
  split
  · rename_i h
    have hf := parsB_fit h.1
    exact ⟨(stepsF_fit hf l).ps, (stepsF_fit hf l).tx, (stepsF_short hf l).1, (stepsF_short hf l).2⟩
  · exact ⟨Nat.zero_le _, Nat.zero_le _, fun _ hx => (by cases hx), Nat.zero_le _⟩
end Go.Proofs.Ytecjokjmmejinaa
