/- What a mark writes into a list of actions. -/
import Derived.Test.YtecjokjmmejinaaLawActs2
namespace Go.Proofs.Ytecjokjmmejinaa
open Go.RowKit SL

def markA (x : AcV) (k : Int) : AcV := ⟨⟨k, k + 1, marksI (k + 2) x.a.ps.length, k + 2 + x.a.ps.length, marksI (k + 3 + x.a.ps.length) x.a.tx.length⟩, x.vp, x.vt⟩
def nextA (x : AcV) (k : Int) : Int := k + 3 + x.a.ps.length + x.a.tx.length
def markAs (k : Int) : List AcV → List AcV
  | [] => []
  | x :: l => markA x k :: markAs (nextA x k) l
def nextAs (k : Int) : List AcV → Int
  | [] => k
  | x :: l => nextAs (nextA x k) l
theorem markAs_append (k : Int) (l m : List AcV) : markAs k (l ++ m) = markAs k l ++ markAs (nextAs k l) m := by
  induction l generalizing k with
  | nil => rfl
  | cons x l ih => simp [markAs, nextAs, ih]
theorem nextAs_append (k : Int) (l m : List AcV) : nextAs k (l ++ m) = nextAs (nextAs k l) m := by
  induction l generalizing k with
  | nil => rfl
  | cons x l ih => simp [nextAs, ih]
theorem markAs_len (k : Int) (l : List AcV) : (markAs k l).length = l.length := by
  induction l generalizing k with
  | nil => rfl
  | cons x l ih => simp [markAs, ih]
theorem nextAs_le (k : Int) (l : List AcV) : k ≤ nextAs k l := by
  induction l generalizing k with
  | nil => exact Int.le_refl _
  | cons x l ih => have := ih (nextA x k); simp only [nextAs]; simp only [nextA] at *; omega
/-- Each action's lists are short. -/
def Short (l : List AcV) : Prop := ∀ x ∈ l, x.a.ps.length ≤ 100 ∧ x.a.tx.length ≤ 100
theorem nextAs_bound (k : Int) (l : List AcV) (h : Short l) : nextAs k l ≤ k + 203 * l.length := by
  induction l generalizing k with
  | nil => simp [nextAs]
  | cons x l ih =>
    have h1 := h x (List.mem_cons_self ..)
    have h2 := ih (nextA x k) (fun y hy => h y (List.mem_cons_of_mem _ hy))
    simp only [nextAs, List.length_cons]
    simp only [nextA] at h2
    simp only [nextA]
    omega
end Go.Proofs.Ytecjokjmmejinaa
