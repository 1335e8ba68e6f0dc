import Derived.Test.YtboecabipkkcgaaDoorE18
import Derived.Lib.SmallJoins
/- An entry that comes in as an argument: its parts. -/
namespace Go.Proofs.YtboecabipkkcgaaDoor
open Go.RowKit

theorem ints_of_trod {P : Program} {H : Type} {enc : TypeId × Value → H} {t e : TypeId} {k : IntKind} {W : World} {v : Value} {x : DataW H × List MemPlace} {fuel : Nat}
    (ht : P.underlying t = some (.slice e)) (he : P.underlying e = some (.int k)) (hc : P.cellsOf e = 1)
    (hf : DataW.trod enc P W 0 (fun _ => true) true fuel t [v] = some x) : IntsArg k W v := by
  rcases ChangeShapes.open_ints ht he hc hf with ⟨hcs, _⟩ | ⟨x, len0, cap0, zs, hcs, _, hl, hm, hz, _, hcell, hwz⟩
  · simp at hcs
    subst hcs
    exact ⟨none, 0, 0, [], rfl, rfl, Nat.le_refl _, by decide, by simp, fun j u hj => by simp at hj⟩
  · simp at hcs
    subst hcs
    have hz' : zs.length = cap0 := by simpa using hz
    refine ⟨some x, len0, cap0, zs.take len0, rfl, by simp; omega, hl, by unfold maxLen at hm; omega, fun z hzm => hwz z (List.mem_of_mem_take hzm), cellsAt_of fun j u hj => ?_⟩
    have hj' : j < len0 ∧ j < zs.length := by
      have := (List.getElem?_eq_some_iff.1 hj).1; simp at this; omega
    have e := hcell j hj'.2
    rw [e]
    simp only [List.getElem?_map, List.getElem?_take, hj'.1, if_true, List.getElem?_eq_getElem hj'.2, Option.map_some] at hj
    rw [← hj, List.getD_eq_getElem?_getD, List.getElem?_eq_getElem hj'.2]; rfl

theorem open_ent {P : Program} {H : Type} {enc : TypeId × Value → H} {t e : TypeId} {f0 f1 f2 f3 : Field} {base : Nat} {W : World} {v : Value} {d : DataW H} {p : List MemPlace}
    (hs : P.underlying t = some (.struct #[f0, f1, f2, f3])) (hone : Deep.oneCellFields P #[f0, f1, f2, f3] = true) (hC : P.cellsOf t = 4)
    (h0 : P.underlying f0.type = some .string) (h1 : P.underlying f1.type = some (.slice e)) (he : P.underlying e = some (.int .u8)) (hc : P.cellsOf e = 1) (h2 : P.underlying f2.type = some (.int .u64)) (h3 : P.underlying f3.type = some (.int .u64))
    (ho : Value.okWide P W .any base t v) (h : DataW.Trod enc P W 0 (fun _ => true) true t v d p) : EntArg W v := by
  obtain ⟨v0, v1, v2, v3, y0, y1, y2, y3, n, rfl, _, _, t0, t1, t2, t3⟩ := Joins.open_agg4 hs hone hC ho h
  obtain ⟨s, e0, _, hs0⟩ := DataW.trod_string h0 t0
  obtain ⟨a, e2, _, w2⟩ := DataW.trod_int h2 t2
  obtain ⟨b, e3, _, w3⟩ := DataW.trod_int h3 t3
  simp at e0 e2 e3
  subst e0 e2 e3
  unfold maxLen at hs0
  exact ⟨s, v1, a, b, rfl, hs0, ints_of_trod h1 he hc t1, w2, w3⟩
end Go.Proofs.YtboecabipkkcgaaDoor
