import Derived.Test.YtbnmnkmjokcmfaaDoorS18
/- Openers: four numbers that come in; one number that comes in; four integers. -/
namespace Go.Proofs.YtbnmnkmjokcmfaaDoor
open Go.RowKit Go.Lib
theorem okWide_array {P : Program} {t e : TypeId} {n : Nat} {w : World} {r : Reach} {b0 : Nat} {v : Value} (ht : P.underlying t = some (.array n e)) (h : Value.okWide P w r b0 t v) : ∃ cs, v = .agg cs ∧ cs.size = P.cellsOf t := by
  simp only [Value.okWide, ht] at h
  obtain ⟨cs, h1, h2, _⟩ := h
  exact ⟨cs, h1, h2⟩
theorem array_at {P : Program} {H : Type} {enc : TypeId × Value → H} {w : World} {base : Nat} {sp : Nat → Bool} {held : Bool} {fuel : Nat} {t e : TypeId} {n : Nat} {cs : List Value} {y : DataW H × List MemPlace} (ht : P.underlying t = some (.array n e))
    (h : DataW.trod enc P w base sp held fuel t cs = some y) (i : Nat) (hi : i < n) :
    ∃ fuel' d, DataW.trod enc P w base sp held fuel' e ((cs.drop (i * P.cellsOf e)).take (P.cellsOf e)) = some d := by
  cases fuel with
  | zero => simp [DataW.trod] at h
  | succ fuel =>
    simp only [DataW.trod, ht] at h
    split at h
    · obtain ⟨xs, hm, hx⟩ := Option.map_eq_some_iff.1 h
      obtain ⟨b, hb, hf⟩ := mapM_at hm i i (by simp [hi])
      exact ⟨fuel, b, hf⟩
    · cases h
theorem two_of {P : Program} {H : Type} {enc : TypeId × Value → H} {w : World} {base : Nat} {sp : Nat → Bool} {held : Bool} {fuel : Nat} {e : TypeId} {f0 f1 : Field} {cs : List Value} {d : DataW H × List MemPlace}
    (he : P.underlying e = some (.struct #[f0, f1])) (o0 : f0.offset = 0) (o1 : f1.offset = 1) (k0 : P.cellsOf f0.type = 1) (k1 : P.cellsOf f1.type = 1) (h0 : P.underlying f0.type = some (.int .i64)) (h1 : P.underlying f1.type = some (.int .i64))
    (h : DataW.trod enc P w base sp held fuel e cs = some d) : ∃ x y : Int, cs[0]? = some (.int .i64 x) ∧ cs[1]? = some (.int .i64 y) ∧ (Lit.int .i64 x).wf = true ∧ (Lit.int .i64 y).wf = true := by
  obtain ⟨y0, y1, n, _, _, t0, t1⟩ := Go.ChangeShapes.trod_struct2 he h
  rw [o0, k0] at t0
  rw [o1, k1] at t1
  obtain ⟨x, e0, _, w0⟩ := DataW.trod_int h0 t0
  obtain ⟨y, e1, _, w1⟩ := DataW.trod_int h1 t1
  exact ⟨x, y, at_of_take e0, at_of_take e1, w0, w1⟩
theorem open_g4 {P : Program} {H : Type} {enc : TypeId × Value → H} {t e : TypeId} {f0 f1 : Field} {base : Nat} {W : World} {v : Value} {d : DataW H} {p : List MemPlace}
    (ht : P.underlying t = some (.array 4 e)) (he : P.underlying e = some (.struct #[f0, f1])) (hC : P.cellsOf t = 8) (hE : P.cellsOf e = 2) (o0 : f0.offset = 0) (o1 : f1.offset = 1) (k0 : P.cellsOf f0.type = 1) (k1 : P.cellsOf f1.type = 1) (h0 : P.underlying f0.type = some (.int .i64)) (h1 : P.underlying f1.type = some (.int .i64))
    (ho : Value.okWide P W .any base t v) (h : DataW.Trod enc P W 0 (fun _ => true) true t v d p) : GArg v := by
  obtain ⟨cs, rfl, hsz⟩ := okWide_array ht ho
  obtain ⟨fuel, hf⟩ := h
  rw [hC] at hsz
  have key : ∀ i, i < 4 → ∃ x y : Int, cs.toList[i * 2]? = some (.int .i64 x) ∧ cs.toList[i * 2 + 1]? = some (.int .i64 y) := fun i hi => by
    obtain ⟨f', d', hd⟩ := array_at ht hf i hi
    obtain ⟨x, y, e0, e1, -⟩ := two_of he o0 o1 k0 k1 h0 h1 hd
    rw [hE] at e0 e1
    refine ⟨x, y, ?_, ?_⟩
    · simpa [List.getElem?_take, List.getElem?_drop, Value.cells] using e0
    · simpa [List.getElem?_take, List.getElem?_drop, Value.cells] using e1
  obtain ⟨l⟩ := cs
  have hl : l.length = 8 := by simpa using hsz
  match l, hl with
  | [c0, c1, c2, c3, c4, c5, c6, c7], _ =>
    obtain ⟨x0, y0, r0, s0⟩ := key 0 (by omega)
    obtain ⟨x1, y1, r1, s1⟩ := key 1 (by omega)
    obtain ⟨x2, y2, r2, s2⟩ := key 2 (by omega)
    obtain ⟨x3, y3, r3, s3⟩ := key 3 (by omega)
    simp at r0 r1 r2 r3 s0 s1 s2 s3
    subst r0 r1 r2 r3 s0 s1 s2 s3
    exact ⟨l4 x0 x1 x2 x3, l4 y0 y1 y2 y3, rfl⟩
/-- one number that comes in -/
def GOne (v : Value) : Prop := ∃ x y : Int, v = .agg #[.int .i64 x, .int .i64 y] ∧ (-9223372036854775808 ≤ x ∧ x ≤ 9223372036854775807) ∧ (-9223372036854775808 ≤ y ∧ y ≤ 9223372036854775807)
theorem open_g1 {P : Program} {H : Type} {enc : TypeId × Value → H} {e : TypeId} {f0 f1 : Field} {base : Nat} {W : World} {v : Value} {d : DataW H} {p : List MemPlace}
    (he : P.underlying e = some (.struct #[f0, f1])) (hE : P.cellsOf e = 2) (o0 : f0.offset = 0) (o1 : f1.offset = 1) (k0 : P.cellsOf f0.type = 1) (k1 : P.cellsOf f1.type = 1) (h0 : P.underlying f0.type = some (.int .i64)) (h1 : P.underlying f1.type = some (.int .i64))
    (ho : Value.okWide P W .any base e v) (h : DataW.Trod enc P W 0 (fun _ => true) true e v d p) : GOne v := by
  obtain ⟨cs, rfl, hsz⟩ := WideShapes.okWide_struct he ho
  obtain ⟨fuel, hf⟩ := h
  rw [hE] at hsz
  obtain ⟨x, y, e0, e1, w0, w1⟩ := two_of he o0 o1 k0 k1 h0 h1 hf
  obtain ⟨l⟩ := cs
  have hl : l.length = 2 := by simpa using hsz
  match l, hl with
  | [c0, c1], _ =>
    simp [Value.cells] at e0 e1
    subst e0 e1
    exact ⟨x, y, rfl, wf_i64 w0, wf_i64 w1⟩
end Go.Proofs.YtbnmnkmjokcmfaaDoor
