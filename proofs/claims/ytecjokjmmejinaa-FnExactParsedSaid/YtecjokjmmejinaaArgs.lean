/- The arguments of the laws FnExactStep and FnExactParsed. -/
import Derived.Test.YtecjokjmmejinaaWalkStep
import Derived.Test.YtecjokjmmejinaaRep
import Derived.WideShapes
namespace Go.Proofs.Ytecjokjmmejinaa
open Go.RowKit SL Go.WideShapes

theorem v_cells {v : Value} (h : v.oneCell' = true) : v.cells.toList = [v] := by cases v <;> first | rfl | (simp [Value.oneCell'] at h)
def rInts : Rep (List Int) := rInt.slice 2
def rPars : Rep Pars := (rInt.prod (rInts.prod (rInt.prod rInts))).map fun p => (p.st, p.ps, p.mr, p.tx)
theorem o_ints : Opens Try.prog 22 rInts (fun xs => ∀ x ∈ xs, inI64 x) := opens_slice Try.underlying22 (by kernel_rfl) (by decide) (opens_int Try.underlying2)
theorem o_pars : Opens Try.prog 24 rPars (fun _ => True) := by
  intro H enc w fuel cs x h
  have h1 := opens_struct (A := rInt.prod (rInts.prod (rInt.prod rInts))) Try.underlying24 (by kernel_rfl)
    (ofs_cons (opens_int Try.underlying2) rfl (by kernel_rfl) (ofs_cons o_ints rfl (by kernel_rfl) (ofs_cons (opens_int Try.underlying2) rfl (by kernel_rfl) (ofs_one o_ints rfl (by kernel_rfl)))))
  obtain ⟨⟨a, b, c, d⟩, h2, -⟩ := h1 H enc w fuel cs x h
  exact ⟨⟨a, b, c, d⟩, h2, trivial⟩

def ArgFnExactStep0 (W : World) (v : Value) : Prop := ∃ p vp vt, v = .agg #[i64 p.st, vp, i64 p.mr, vt] ∧ RdP W p vp vt
def ArgFnExactStep1 (_ : World) (v : Value) : Prop := ∃ n, v = i64 n
theorem openedFnExactStep0 {H : Type} {enc : TypeId × Value → H} {W : World} {b0 : Nat} {v : Value} {d : DataW H} {ps : List MemPlace} (hv : Value.okWide Try.prog W .any b0 24 v)
    (h : DataW.Trod enc Try.prog W 0 (fun _ => true) true 24 v d ps) : ArgFnExactStep0 W v := by
  obtain ⟨cs, rfl, hsz⟩ := okWide_struct Try.underlying24 hv
  obtain ⟨fuel, hf⟩ := h
  obtain ⟨p, hp, -⟩ := o_pars H enc W fuel _ _ hf
  obtain ⟨c1, c2, e1, rfl, c3, c4, rfl, ⟨vp, rfl, h1⟩, c5, c6, rfl, rfl, vt, rfl, h2⟩ := hp
  refine ⟨p, vp, vt, ?_, ?_, ?_⟩
  · congr 1
    apply Array.toList_inj.1
    exact e1
  · have := rdS_flat.1 h1
    rwa [flatMap_one] at this
  · have := rdS_flat.1 h2
    rwa [flatMap_one] at this
theorem openedFnExactStep1 {H : Type} {enc : TypeId × Value → H} {W : World} {b0 : Nat} {v : Value} {d : DataW H} {ps : List MemPlace} (hv : Value.okWide Try.prog W .any b0 2 v)
    (h : DataW.Trod enc Try.prog W 0 (fun _ => true) true 2 v d ps) : ArgFnExactStep1 W v := by
  obtain ⟨n, rfl⟩ := okWide_int Try.underlying2 hv
  exact ⟨n, rfl⟩
theorem walkFnExactStep (W : World) (v0 v1 : Value) (h0 : ArgFnExactStep0 W v0) (h1 : ArgFnExactStep1 W v1) :
    Calls Try.prog 3 #[v0, v1] W fun e w' => e = .returned (.bool true) ∧ Below W.heap.size W w' := by
  obtain ⟨p, vp, vt, rfl, hr⟩ := h0
  obtain ⟨n, rfl⟩ := h1
  have m1 := hr.ps.max
  have m2 := hr.tx.max
  obtain ⟨A0, c0, rfl, -⟩ := hr.ps.ex
  obtain ⟨A1, c1, rfl, -⟩ := hr.tx.ex
  exact step_walk p.st p.mr n A0 A1 _ c0 _ c1 p.ps p.tx W hr rfl rfl m1 m2
end Go.Proofs.Ytecjokjmmejinaa
