/- How Go's data stand for plain data: read only, or owned; and what a law's arguments stand for. -/
import Derived.Test.YtecjokjmmejinaaSt
import Derived.ChangeArms
import Derived.DataReads
import Derived.WideShapes
namespace Go.Proofs.Ytecjokjmmejinaa.SL
open Go.RowKit

structure Rep (α : Type) where
  sz : Nat
  rd : World → List Value → α → Prop
  own : List Value → α → Atm
  len : ∀ {w : World} {cs : List Value} {a : α}, rd w cs a → cs.length = sz
  one : ∀ {w : World} {cs : List Value} {a : α}, rd w cs a → ∀ u ∈ cs, u.oneCell' = true
  mono : ∀ {w w' : World} {cs : List Value} {a : α}, rd w cs a → Below w.heap.size w w' → rd w' cs a
  own_rd : ∀ {base : Nat} {w : World} {L : List Atm} {cs : List Value} {a : α}, Own base w (own cs a :: L) → rd w cs a

/-- Cells alone, nothing behind them. -/
def Rep.flat {α : Type} (sz : Nat) (f : α → List Value) (hl : ∀ a, (f a).length = sz) (h1 : ∀ a, ∀ u ∈ f a, u.oneCell' = true) : Rep α where
  sz := sz
  rd := fun _ cs a => cs = f a
  own := fun cs a => bun (cs = f a) []
  len := fun {_ _ a} h => by rw [h]; exact hl a
  one := fun {_ _ a} h => by rw [h]; exact h1 a
  mono := fun h _ => h
  own_rd := fun h => h.unbun.1

/-- A list of slots, each with its element. -/
inductive All2 {α β : Type} (R : α → β → Prop) : List α → List β → Prop
  | nil : All2 R [] []
  | cons {a : α} {b : β} {l : List α} {m : List β} : R a b → All2 R l m → All2 R (a :: l) (b :: m)
theorem All2.len {α β : Type} {R : α → β → Prop} {l : List α} {m : List β} (h : All2 R l m) : l.length = m.length := by
  induction h with
  | nil => rfl
  | cons _ _ ih => simp [ih]
theorem All2.imp {α β : Type} {R R' : α → β → Prop} {l : List α} {m : List β} (h : All2 R l m) (hi : ∀ a b, R a b → R' a b) : All2 R' l m := by
  induction h with
  | nil => exact .nil
  | cons h1 _ ih => exact .cons (hi _ _ h1) ih
theorem All2.get {α β : Type} {R : α → β → Prop} {l : List α} {m : List β} (h : All2 R l m) : ∀ (i : Nat) (hi : i < l.length) (hj : i < m.length), R l[i] m[i] := by
  induction h with
  | nil => intro i hi; simp at hi
  | cons h1 _ ih =>
    intro i hi hj
    cases i with
    | zero => exact h1
    | succ i => exact ih i (by simpa using hi) (by simpa using hj)
theorem All2.append {α β : Type} {R : α → β → Prop} {l l' : List α} {m m' : List β} (h : All2 R l m) (k : All2 R l' m') : All2 R (l ++ l') (m ++ m') := by
  induction h with
  | nil => exact k
  | cons h1 _ ih => exact .cons h1 ih
theorem flatten_len {sz : Nat} : ∀ {css : List (List Value)}, (∀ c ∈ css, c.length = sz) → css.flatten.length = css.length * sz
  | [], _ => by simp
  | c :: css, h => by
    rw [List.flatten_cons, List.length_append, flatten_len (fun d hd => h d (List.mem_cons_of_mem _ hd)), h c List.mem_cons_self, List.length_cons, Nat.succ_mul]
    omega
theorem flatten_get {sz : Nat} : ∀ {css : List (List Value)}, (∀ c ∈ css, c.length = sz) → ∀ (i j : Nat) (hi : i < css.length), j < sz → css.flatten[i * sz + j]? = css[i][j]?
  | [], _, i, _, hi, _ => by simp at hi
  | c :: css, h, i, j, hi, hj => by
    have hc := h c List.mem_cons_self
    cases i with
    | zero => rw [List.flatten_cons, Nat.zero_mul, Nat.zero_add, List.getElem?_append_left (by omega)]; rfl
    | succ i =>
      rw [List.flatten_cons, List.getElem?_append_right (by rw [hc, Nat.succ_mul]; omega), hc, show (i + 1) * sz + j - sz = i * sz + j from by rw [Nat.succ_mul]; omega]
      exact flatten_get (fun d hd => h d (List.mem_cons_of_mem _ hd)) i j (by simpa using hi) hj
theorem flatten_set {sz : Nat} : ∀ {css : List (List Value)}, (∀ c ∈ css, c.length = sz) → ∀ (i j : Nat) (u : Value) (hi : i < css.length), j < sz → css.flatten.set (i * sz + j) u = (css.set i (css[i].set j u)).flatten
  | [], _, i, _, _, hi, _ => by simp at hi
  | c :: css, h, i, j, u, hi, hj => by
    have hc := h c List.mem_cons_self
    cases i with
    | zero => rw [List.flatten_cons, Nat.zero_mul, Nat.zero_add, List.set_append_left _ _ (by omega)]; rfl
    | succ i =>
      rw [List.flatten_cons, List.set_append_right _ _ (by rw [hc, Nat.succ_mul]; omega), hc, show (i + 1) * sz + j - sz = i * sz + j from by rw [Nat.succ_mul]; omega,
        flatten_set (fun d hd => h d (List.mem_cons_of_mem _ hd)) i j u (by simpa using hi) hj]
      rfl

/-- A slice, read. -/
def rdS {α : Type} (A : Rep α) (w : World) (v : Value) (xs : List α) : Prop := ∃ css : List (List Value), All2 (A.rd w) css xs ∧ Sl w A.sz v xs.length css.flatten
theorem rdS.mono {α : Type} {A : Rep α} {w w' : World} {v : Value} {xs : List α} (h : rdS A w v xs) (hb : Below w.heap.size w w') : rdS A w' v xs := by
  obtain ⟨css, h1, h2⟩ := h
  exact ⟨css, h1.imp fun _ _ h => A.mono h hb, h2.below hb⟩
theorem All2.lens {α : Type} {A : Rep α} {w : World} {css : List (List Value)} {xs : List α} (h : All2 (A.rd w) css xs) : ∀ c ∈ css, c.length = A.sz := by
  induction h with
  | nil => intro c hc; cases hc
  | cons h1 _ ih =>
    intro c hc
    rcases List.mem_cons.1 hc with rfl | hc
    · exact A.len h1
    · exact ih c hc
/-- The element at a place, and where its cells lie. -/
theorem rdS.get {α : Type} {A : Rep α} {w : World} {v : Value} {xs : List α} (h : rdS A w v xs) {i : Nat} (hi : i < xs.length) (hs : 0 < A.sz) :
    ∃ ad c cs, v = .slice (some ad) xs.length c ∧ xs.length ≤ c ∧ cs.length = A.sz ∧ A.rd w cs xs[i] ∧ Known w (ad.add (i * A.sz)) cs := by
  obtain ⟨css, h1, h2⟩ := h
  obtain ⟨Ad, c, rfl, hc, hA, hr⟩ := h2.ex
  have hl := h1.len
  have hcs := h1.get i (by omega) hi
  have hlen := A.len hcs
  have hg : ∀ j, j < A.sz → css.flatten[i * A.sz + j]? = (css[i]'(by omega))[j]? := fun j hj => flatten_get h1.lens i j (by omega) hj
  have h0 : css.flatten[i * A.sz + 0]? = some ((css[i]'(by omega))[0]'(by omega)) := by rw [hg 0 hs, List.getElem?_eq_getElem (by omega)]
  obtain ⟨ad, rfl, -⟩ := hr.at_ h0
  refine ⟨ad, c, css[i]'(by omega), rfl, hc, hlen, hcs, fun j u hj => ?_⟩
  have hj' : j < A.sz := by
    rcases Nat.lt_or_ge j A.sz with h | h
    · exact h
    · rw [List.getElem?_eq_none (by omega)] at hj; cases hj
  obtain ⟨ad', e, h3⟩ := hr.at_ ((hg j hj').trans hj)
  cases e
  rw [show (ad.add (i * A.sz)).add j = ad.add (i * A.sz + j) from by
    unfold Addr.add
    by_cases h1 : j = 0
    · subst h1; simp
    · by_cases h2 : i * A.sz = 0
      · rw [h2]; simp
      · rw [if_neg h1, if_neg h2, if_neg (by omega)]; simp [Nat.add_assoc]]
  exact h3
theorem rdS.form {α : Type} {A : Rep α} {w : World} {v : Value} {xs : List α} (h : rdS A w v xs) : ∃ Ad c, v = .slice Ad xs.length c ∧ xs.length ≤ c ∧ (Ad = none → c = 0) ∧ xs.length ≤ 9223372036854775807 := by
  obtain ⟨css, h1, h2⟩ := h
  obtain ⟨Ad, c, rfl, hc, hA, hr⟩ := h2.ex
  exact ⟨Ad, c, rfl, hc, hA, h2.max⟩

/-- The elements' own facts. -/
def owns {α : Type} (A : Rep α) : List (List Value) → List α → List Atm
  | c :: css, x :: xs => A.own c x :: owns A css xs
  | _, _ => []
/-- A slice, owned with all behind it. -/
def ownS {α : Type} (A : Rep α) (e : TypeId) (v : Value) (xs : List α) : Atm :=
  exA fun css : List (List Value) => bun (css.length = xs.length) (row e A.sz v xs.length css.flatten :: owns A css xs)
theorem owns_rd {α : Type} {A : Rep α} {base : Nat} {w : World} {L : List Atm} : ∀ {css : List (List Value)} {xs : List α}, css.length = xs.length → Own base w (owns A css xs ++ L) → All2 (A.rd w) css xs
  | [], [], _, _ => .nil
  | c :: css, x :: xs, hl, h => .cons (A.own_rd h) (owns_rd (by simpa using hl) h.tail)
  | [], _ :: _, hl, _ => by simp at hl
  | _ :: _, [], hl, _ => by simp at hl
theorem ownS_rd {α : Type} {A : Rep α} {e : TypeId} {base : Nat} {w : World} {L : List Atm} {v : Value} {xs : List α} (h : Own base w (ownS A e v xs :: L)) : rdS A w v xs := by
  obtain ⟨css, h1⟩ := h.unex
  obtain ⟨hl, h2⟩ := h1.unbun
  have h3 := owns_rd (L := L) hl (by simpa using h2.tail)
  refine ⟨css, h3, ?_⟩
  have h4 := h2.sl (fun u hu => by
    obtain ⟨c, hc, hu⟩ := List.mem_flatten.1 hu
    obtain ⟨i, hi, rfl⟩ := List.mem_iff_getElem.1 hc
    exact A.one (h3.get i hi (by omega)) u hu)
  exact h4

/-- A slice as an element. -/
def Rep.slice {α : Type} (A : Rep α) (e : TypeId) : Rep (List α) where
  sz := 1
  rd := fun w cs xs => ∃ v, cs = [v] ∧ rdS A w v xs
  own := fun cs xs => exA fun v : Value => bun (cs = [v]) [ownS A e v xs]
  len := by rintro w cs a ⟨v, rfl, h⟩; rfl
  one := by
    rintro w cs a ⟨v, rfl, h⟩ u hu
    obtain ⟨Ad, c, rfl, _⟩ := h.form
    rw [List.mem_singleton.1 hu]; rfl
  mono := by rintro w w' cs a ⟨v, rfl, h⟩ hb; exact ⟨v, rfl, h.mono hb⟩
  own_rd := by
    intro base w L cs a h
    obtain ⟨v, h1⟩ := h.unex
    obtain ⟨rfl, h2⟩ := h1.unbun
    exact ⟨v, rfl, ownS_rd h2⟩

def rInt : Rep Int := .flat 1 (fun n => [.int .i64 n]) (fun _ => rfl) (fun _ u hu => by rw [List.mem_singleton.1 hu]; rfl)
def rStr : Rep ByteArray := .flat 1 (fun s => [.string s]) (fun _ => rfl) (fun _ u hu => by rw [List.mem_singleton.1 hu]; rfl)
def rByte : Rep Int := .flat 1 (fun n => [.int .u8 n]) (fun _ => rfl) (fun _ u hu => by rw [List.mem_singleton.1 hu]; rfl)

theorem flatMap_one {α β : Type} (f : α → β) (xs : List α) : (xs.flatMap fun x => [f x]) = xs.map f := by
  induction xs with
  | nil => rfl
  | cons x xs ih => rw [List.flatMap_cons, ih]; rfl
/-! ### flat elements: a plain row -/
theorem rdS_flat {α : Type} {sz : Nat} {f : α → List Value} {hl : ∀ a, (f a).length = sz} {h1 : ∀ a, ∀ u ∈ f a, u.oneCell' = true} {w : World} {v : Value} {xs : List α} :
    rdS (.flat sz f hl h1) w v xs ↔ Sl w sz v xs.length (xs.flatMap f) := by
  constructor
  · rintro ⟨css, h, k⟩
    have e : css.flatten = xs.flatMap f := by
      clear k
      induction h with
      | nil => rfl
      | cons h1 _ ih => rw [List.flatten_cons, List.flatMap_cons, ih, show _ = f _ from h1]
    rw [e] at k
    exact k
  · intro k
    refine ⟨xs.map f, ?_, by rw [← List.flatMap_def]; exact k⟩
    clear k
    induction xs with
    | nil => exact .nil
    | cons x xs ih => exact .cons rfl ih
theorem owns_flat {α : Type} {sz : Nat} {f : α → List Value} {hl : ∀ a, (f a).length = sz} {h1 : ∀ a, ∀ u ∈ f a, u.oneCell' = true} {base : Nat} {w : World} {L : List Atm} :
    ∀ {xs : List α}, Own base w L → Own base w (owns (.flat sz f hl h1) (xs.map f) xs ++ L)
  | [], h => h
  | x :: xs, h => Own.bun (M := []) rfl (owns_flat (xs := xs) h)
theorem owns_drop {α : Type} {A : Rep α} {base : Nat} {w : World} {L : List Atm} : ∀ {css : List (List Value)} {xs : List α}, Own base w (owns A css xs ++ L) → Own base w L
  | _, _, h => h.right
theorem ownS_flat {α : Type} {sz : Nat} {f : α → List Value} {hl : ∀ a, (f a).length = sz} {h1 : ∀ a, ∀ u ∈ f a, u.oneCell' = true} {e : TypeId} {base : Nat} {w : World} {L : List Atm} {v : Value} {xs : List α} :
    Own base w (ownS (.flat sz f hl h1) e v xs :: L) ↔ Own base w (row e sz v xs.length (xs.flatMap f) :: L) := by
  constructor
  · intro h
    obtain ⟨css, k1⟩ := h.unex
    obtain ⟨hlen, k2⟩ := k1.unbun
    have h3 := owns_rd (L := L) hlen (by simpa using k2.tail)
    have e : css.flatten = xs.flatMap f := by
      clear k1 k2 h hlen
      induction h3 with
      | nil => rfl
      | cons h1 _ ih => rw [List.flatten_cons, List.flatMap_cons, ih, show _ = f _ from h1]
    rw [e] at k2
    exact Own.right (L := owns (.flat sz f hl h1) css xs) (k2.perm (by
      refine (List.Perm.append_right L (List.perm_append_comm (l₁ := [_]) (l₂ := _))).trans ?_
      rw [List.append_assoc]; exact .refl _))
  · intro h
    refine Own.ex (xs.map f) (Own.bun (by simp) ?_)
    rw [show (xs.map f).flatten = xs.flatMap f from by rw [← List.flatMap_def]]
    have := owns_flat (hl := hl) (h1 := h1) (xs := xs) h
    exact this.perm List.perm_middle

/-! ### a law's arguments -/
def Opens {α : Type} (P : Program) (t : TypeId) (A : Rep α) (wf : α → Prop) : Prop :=
  ∀ (H : Type) (enc : TypeId × Value → H) (w : World) (fuel : Nat) (cs : List Value) (x : DataW H × List MemPlace), DataW.trod enc P w 0 (fun _ => true) true fuel t cs = some x → ∃ a, A.rd w cs a ∧ wf a
theorem cells_known {w : World} {a : Addr} {n : Nat} {cs : List Value} (h : w.cells? 0 a n = some cs) : cs.length = n ∧ Known w a cs := by
  unfold World.cells? at h
  rw [if_pos (Nat.zero_le _)] at h
  have hl := mapM_some_length h
  rw [List.length_range] at hl
  refine ⟨hl, fun j u hj => ?_⟩
  have hlt : j < n := by
    rcases Nat.lt_or_ge j n with h1 | h1
    · exact h1
    · rw [List.getElem?_eq_none (by omega)] at hj; cases hj
  have := mapM_some_get h j j (by rw [List.getElem?_range hlt])
  exact this.trans hj
def inI64 (n : Int) : Prop := -9223372036854775808 ≤ n ∧ n ≤ 9223372036854775807
theorem opens_int {P : Program} {t : TypeId} (ht : P.underlying t = some (.int .i64)) : Opens P t rInt inI64 := by
  intro H enc w fuel cs x h
  obtain ⟨n, rfl, -, hw⟩ := DataW.trod_int ht h
  refine ⟨n, rfl, ?_⟩
  have h1 : IntKind.i64.min = -9223372036854775808 := by decide
  have h2 : IntKind.i64.max = 9223372036854775807 := by decide
  simp only [Lit.wf, h1, h2, Bool.and_eq_true, decide_eq_true_eq] at hw
  exact hw
def rBool : Rep Bool := .flat 1 (fun b => [.bool b]) (fun _ => rfl) (fun _ u hu => by rw [List.mem_singleton.1 hu]; rfl)
theorem opens_bool {P : Program} {t : TypeId} (ht : P.underlying t = some .bool) : Opens P t rBool (fun _ => True) := by
  intro H enc w fuel cs x h
  obtain ⟨b, rfl, -⟩ := DataW.trod_bool ht h
  exact ⟨b, rfl, trivial⟩
theorem opens_str {P : Program} {t : TypeId} (ht : P.underlying t = some .string) : Opens P t rStr (fun s => s.size ≤ 9223372036854775807) := by
  intro H enc w fuel cs x h
  obtain ⟨s, rfl, -, hs⟩ := DataW.trod_string ht h
  exact ⟨s, rfl, by simpa [maxLen] using hs⟩
theorem opens_slice {α : Type} {P : Program} {t e e' : TypeId} {A : Rep α} {wf : α → Prop} (ht : P.underlying t = some (.slice e)) (he : P.cellsOf e = A.sz) (hs : 0 < A.sz) (h : Opens P e A wf) : Opens P t (A.slice e') (fun xs => ∀ x ∈ xs, wf x) := by
  intro H enc w fuel cs x hx
  rcases DataW.trod_slice ht hx with ⟨rfl, -⟩ | ⟨a, len, cap, elems, rest, n, -, rfl, -, -, hlc, hcm, hel, hget, -⟩
  · exact ⟨[], ⟨_, rfl, [], .nil, Sl.nil _ _⟩, fun x hx => by cases hx⟩
  · have key : ∀ m, m ≤ len → ∃ (css : List (List Value)) (xs : List α), css.length = m ∧ All2 (A.rd w) css xs ∧ (∀ x ∈ xs, wf x) ∧ ∀ i (hi : i < css.length), Known w (a.add (i * A.sz)) css[i] := by
      intro m
      induction m with
      | zero => exact fun _ => ⟨[], [], rfl, .nil, fun x hx => (by cases hx), fun i hi => absurd hi (Nat.not_lt_zero _)⟩
      | succ m ih =>
        intro hm
        obtain ⟨css, xs, hl, h2, hwf, hk⟩ := ih (by omega)
        have hg := hget m (by omega)
        rw [List.getElem?_eq_getElem (by omega)] at hg
        obtain ⟨cs, hcs, htr⟩ := Option.bind_eq_some_iff.1 hg
        obtain ⟨hlen, hkn⟩ := cells_known hcs
        obtain ⟨y, hy, hwy⟩ := h H enc w n cs _ htr
        refine ⟨css ++ [cs], xs ++ [y], by simp [hl], h2.append (.cons hy .nil), ?_, ?_⟩
        · intro x hx
          rcases List.mem_append.1 hx with hx | hx
          · exact hwf x hx
          · rw [List.mem_singleton.1 hx]; exact hwy
        · intro i hi
          rcases Nat.lt_or_ge i css.length with h1 | h1
          · rw [List.getElem_append_left h1]; exact hk i h1
          · have : i = css.length := by simp at hi; omega
            subst this
            rw [List.getElem_append_right (Nat.le_refl _)]
            simp only [Nat.sub_self, List.getElem_cons_zero]
            rw [hl, ← he]
            exact hkn
    obtain ⟨css, xs, hl, h2, hwf, hk⟩ := key len (Nat.le_refl _)
    have hxl : xs.length = len := by rw [← h2.len, hl]
    refine ⟨xs, ⟨_, rfl, css, h2, ?_⟩, hwf⟩
    rw [hxl]
    refine ⟨⟨some a, cap, rfl, hlc, (fun h => by cases h), ?_⟩, ?_, ?_, ?_⟩
    · intro _
      refine ⟨a, rfl, fun j u hj => ?_⟩
      have hj1 : j < css.flatten.length := by
        rcases Nat.lt_or_ge j css.flatten.length with h1 | h1
        · exact h1
        · rw [List.getElem?_eq_none h1] at hj; cases hj
      rw [flatten_len h2.lens, hl] at hj1
      have hd : j / A.sz < css.length := by rw [hl]; exact (Nat.div_lt_iff_lt_mul hs).2 hj1
      have hm := Nat.mod_lt j hs
      have e : j / A.sz * A.sz + j % A.sz = j := by rw [Nat.mul_comm]; exact Nat.div_add_mod j A.sz
      have hg := flatten_get h2.lens (j / A.sz) (j % A.sz) hd hm
      rw [e, hj] at hg
      have := hk _ hd _ u hg.symm
      rw [show (a.add (j / A.sz * A.sz)).add (j % A.sz) = a.add j from by
        conv => rhs; rw [← e]
        unfold Addr.add
        by_cases h1 : j % A.sz = 0
        · rw [h1]; simp
        · by_cases h2 : j / A.sz * A.sz = 0
          · rw [h2]; simp
          · rw [if_neg h1, if_neg h2, if_neg (by omega)]; simp [Nat.add_assoc]] at this
      exact this
    · rw [flatten_len h2.lens, hl]
    · intro u hu
      obtain ⟨c, hc, hu⟩ := List.mem_flatten.1 hu
      obtain ⟨i, hi, rfl⟩ := List.mem_iff_getElem.1 hc
      exact A.one (h2.get i hi (by omega)) u hu
    · simp only [maxLen] at hcm; omega

/-! ### structs -/
def Rep.prod {α β : Type} (A : Rep α) (B : Rep β) : Rep (α × β) where
  sz := A.sz + B.sz
  rd := fun w cs x => ∃ c1 c2, cs = c1 ++ c2 ∧ A.rd w c1 x.1 ∧ B.rd w c2 x.2
  own := fun cs x => exA fun c : List Value × List Value => bun (cs = c.1 ++ c.2) [A.own c.1 x.1, B.own c.2 x.2]
  len := by rintro w cs a ⟨c1, c2, rfl, h1, h2⟩; rw [List.length_append, A.len h1, B.len h2]
  one := by
    rintro w cs a ⟨c1, c2, rfl, h1, h2⟩ u hu
    rcases List.mem_append.1 hu with hu | hu
    · exact A.one h1 u hu
    · exact B.one h2 u hu
  mono := by rintro w w' cs a ⟨c1, c2, rfl, h1, h2⟩ hb; exact ⟨c1, c2, rfl, A.mono h1 hb, B.mono h2 hb⟩
  own_rd := by
    intro base w L cs a h
    obtain ⟨⟨c1, c2⟩, h1⟩ := h.unex
    obtain ⟨rfl, h2⟩ := h1.unbun
    exact ⟨c1, c2, rfl, A.own_rd h2, B.own_rd h2.tail⟩
def Rep.map {α β : Type} (f : α → β) (B : Rep β) : Rep α where
  sz := B.sz
  rd := fun w cs a => B.rd w cs (f a)
  own := fun cs a => B.own cs (f a)
  len := B.len
  one := B.one
  mono := B.mono
  own_rd := B.own_rd
def OpensFs {α : Type} (P : Program) (fs : List Field) (off : Nat) (A : Rep α) (wf : α → Prop) : Prop :=
  ∀ (H : Type) (enc : TypeId × Value → H) (w : World) (n : Nat) (cs : List Value), (∀ f ∈ fs, ∃ y, DataW.trod enc P w 0 (fun _ => true) true n f.type ((cs.drop f.offset).take (P.cellsOf f.type)) = some y) → cs.length = off + A.sz → ∃ a, A.rd w (cs.drop off) a ∧ wf a
theorem ofs_one {α : Type} {P : Program} {f : Field} {off : Nat} {A : Rep α} {wf : α → Prop} (h : Opens P f.type A wf) (ho : f.offset = off) (hc : P.cellsOf f.type = A.sz) : OpensFs P [f] off A wf := by
  intro H enc w n cs hf hl
  obtain ⟨y, hy⟩ := hf f List.mem_cons_self
  rw [ho, hc, List.take_of_length_le (by rw [List.length_drop]; omega)] at hy
  exact h H enc w n _ _ hy
theorem ofs_cons {α β : Type} {P : Program} {f : Field} {fs : List Field} {off : Nat} {A : Rep α} {B : Rep β} {wf : α → Prop} {wf' : β → Prop} (h : Opens P f.type A wf) (ho : f.offset = off) (hc : P.cellsOf f.type = A.sz)
    (k : OpensFs P fs (off + A.sz) B wf') : OpensFs P (f :: fs) off (A.prod B) (fun x => wf x.1 ∧ wf' x.2) := by
  intro H enc w n cs hf hl
  obtain ⟨y, hy⟩ := hf f List.mem_cons_self
  rw [ho, hc] at hy
  obtain ⟨a, ha, hwa⟩ := h H enc w n _ _ hy
  obtain ⟨b, hb, hwb⟩ := k H enc w n cs (fun g hg => hf g (List.mem_cons_of_mem _ hg)) (by rw [hl]; exact (Nat.add_assoc _ _ _).symm)
  refine ⟨(a, b), ⟨_, _, ?_, ha, hb⟩, hwa, hwb⟩
  rw [← List.drop_drop, List.take_append_drop]
theorem opens_struct {α : Type} {P : Program} {t : TypeId} {fs : Array Field} {A : Rep α} {wf : α → Prop} (ht : P.underlying t = some (.struct fs)) (hc : P.cellsOf t = A.sz) (h : OpensFs P fs.toList 0 A wf) : Opens P t A wf := by
  intro H enc w fuel cs x hx
  obtain ⟨xs, n, -, -, hl, hlen, hf⟩ := DataW.trod_struct ht hx
  refine h H enc w n cs (fun f hm => ?_) (by rw [hl, hc, Nat.zero_add])
  obtain ⟨i, hi, rfl⟩ := List.mem_iff_getElem.1 hm
  have hi' : i < fs.size := by simpa using hi
  have := hf i fs[i] (by rw [Array.getElem?_eq_getElem hi'])
  rw [List.getElem?_eq_getElem (by omega)] at this
  exact ⟨_, by simpa using this⟩
theorem opens_map {α β : Type} {P : Program} {t : TypeId} {A : Rep β} {wf : β → Prop} (f : α → β) (g : β → α) (hfg : ∀ b, f (g b) = b) (h : Opens P t A wf) : Opens P t (A.map f) (fun a => wf (f a)) := by
  intro H enc w fuel cs x hx
  obtain ⟨b, hb, hw⟩ := h H enc w fuel cs x hx
  exact ⟨g b, by show A.rd w cs (f (g b)); rw [hfg]; exact hb, by show wf (f (g b)); rw [hfg]; exact hw⟩
end Go.Proofs.Ytecjokjmmejinaa.SL
