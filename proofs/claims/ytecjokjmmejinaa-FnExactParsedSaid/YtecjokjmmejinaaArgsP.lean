/- The arguments of the law FnExactParsed. -/
import Derived.Test.YtecjokjmmejinaaWalkParsed
import Derived.Test.YtecjokjmmejinaaArgs
namespace Go.Proofs.Ytecjokjmmejinaa
open Go.RowKit SL Go.WideShapes

def ArgFnExactParsed0 (W : World) (v : Value) : Prop := ArgFnExactStep0 W v
def ArgFnExactParsed1 (W : World) (v : Value) : Prop := ∃ l, Sl W 1 v l.length (nums l)
theorem openedFnExactParsed0 {H : Type} {enc : TypeId × Value → H} {W : World} {b0 : Nat} {v : Value} {d : DataW H} {ps : List MemPlace} (hv : Value.okWide Try.prog W .any b0 24 v)
    (h : DataW.Trod enc Try.prog W 0 (fun _ => true) true 24 v d ps) : ArgFnExactParsed0 W v := openedFnExactStep0 hv h
theorem openedFnExactParsed1 {H : Type} {enc : TypeId × Value → H} {W : World} {b0 : Nat} {v : Value} {d : DataW H} {ps : List MemPlace} (hv : Value.okWide Try.prog W .any b0 22 v)
    (h : DataW.Trod enc Try.prog W 0 (fun _ => true) true 22 v d ps) : ArgFnExactParsed1 W v := by
  obtain ⟨a, l, c, rfl⟩ := okWide_slice Try.underlying22 hv
  obtain ⟨fuel, hf⟩ := h
  obtain ⟨xs, ⟨v, e, h1⟩, -⟩ := o_ints H enc W fuel _ _ hf
  have e1 : v = .slice a l c := by
    have : [Value.slice a l c] = [v] := e
    exact (List.cons.inj this).1.symm
  subst e1
  have := rdS_flat.1 h1
  rw [flatMap_one] at this
  exact ⟨xs, this⟩
theorem walkFnExactParsed (W : World) (v0 v1 : Value) (h0 : ArgFnExactParsed0 W v0) (h1 : ArgFnExactParsed1 W v1) :
    Calls Try.prog 4 #[v0, v1] W fun e w' => e = .returned (.bool true) ∧ Below W.heap.size W w' := by
  obtain ⟨p, vp, vt, rfl, hr⟩ := h0
  obtain ⟨l, hl⟩ := h1
  have m1 := hr.ps.max
  have m2 := hr.tx.max
  have m3 := hl.max
  obtain ⟨A0, c0, rfl, -⟩ := hr.ps.ex
  obtain ⟨A1, c1, rfl, -⟩ := hr.tx.ex
  obtain ⟨A2, c2, rfl, -⟩ := hl.ex
  exact parsed_walk p.st p.mr A0 A1 A2 _ c0 _ c1 _ c2 p.ps p.tx l W hr hl rfl rfl rfl m1 m2 m3
end Go.Proofs.Ytecjokjmmejinaa
