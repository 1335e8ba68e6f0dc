import Derived.Test.YtcofejbkbcdopaaGreatDoorR42H
import Derived.Test.YtcofejbkbcdopaaGreatDoorR22
import Derived.Lib.LaidTab
/- A count that comes in. -/
namespace Go.Proofs.YtcofejbkbcdopaaGreatDoor
open Go.RowKit Go.Lib
theorem array_atz {P : Program} {H : Type} {enc : TypeId × Value → H} {w : World} {base : Nat} {sp : Nat → Bool} {held : Bool} {fuel : Nat} {t e : TypeId} {n : Nat} {cs : List Value} {y : DataW H × List MemPlace} (ht : P.underlying t = some (.array n e))
    (h : DataW.trod enc P w base sp held fuel t cs = some y) (i : Nat) (hi : i < n) :
    ∃ fuel' d, DataW.trod enc P w base sp held fuel' e ((cs.drop (i * P.cellsOf e)).take (P.cellsOf e)) = some d := by
  cases fuel with
  | zero => simp [DataW.trod] at h
  | succ fuel =>
    simp only [DataW.trod, ht] at h
    split at h
    · obtain ⟨xs, hm, hx⟩ := Option.map_eq_some_iff.1 h
      obtain ⟨b, hb, hf⟩ := mapM_at hm i i (by simp [hi])
      exact ⟨fuel, b, hf⟩
    · cases h
/-- A count that came in. -/
def RcArg (v : Value) : Prop := ∃ f : Nat → Int, v = (.agg #[.int .i64 (f 0), .int .i64 (f 1), .int .i64 (f 2), .int .i64 (f 3), .int .i64 (f 4), .int .i64 (f 5), .int .i64 (f 6), .int .i64 (f 7), .int .i64 (f 8), .int .i64 (f 9), .int .i64 (f 10), .int .i64 (f 11)]) ∧ ∀ i, i < 12 → f i ≤ 9223372036854775807
set_option maxRecDepth 100000 in
theorem rc_of_trod {H : Type} {enc : TypeId × Value → H} {base : Nat} {sp : Nat → Bool} {held : Bool} {W : World} {n : Nat} {y : DataW H × List MemPlace} (cs : List Value) (h : DataW.trod enc Tryz.prog W base sp held n 24 cs = some y) (hl : cs.length = 12) :
    ∃ f : Nat → Int, cs = [.int .i64 (f 0), .int .i64 (f 1), .int .i64 (f 2), .int .i64 (f 3), .int .i64 (f 4), .int .i64 (f 5), .int .i64 (f 6), .int .i64 (f 7), .int .i64 (f 8), .int .i64 (f 9), .int .i64 (f 10), .int .i64 (f 11)] ∧ ∀ i, i < 12 → f i ≤ 9223372036854775807 := by
  have hs := Tryz.underlying24
  have k5 : Tryz.prog.cellsOf 22 = 5 := by kernel_rfl
  have one : ∀ o, o < 12 → (∃ z m, DataW.trod enc Tryz.prog W base sp held m 3 ((cs.drop o).take 1) = some z) → ∃ x : Int, x ≤ 9223372036854775807 ∧ cs[o]? = some (.int .i64 x) := fun o _ ⟨z, m, t⟩ => by
    obtain ⟨x, e, _, w⟩ := DataW.trod_int Tryz.underlying3 t
    exact ⟨x, (wf_i64 w).2, one_of_take e⟩
  obtain ⟨y5, n5, t5⟩ := fld hs h 5 5 5 22 rfl k5
  have arr : ∀ i, i < 5 → ∃ x : Int, x ≤ 9223372036854775807 ∧ cs[5 + i]? = some (.int .i64 x) := fun i hi => by
    obtain ⟨m, z, t⟩ := array_atz Tryz.underlying22 t5 i hi
    rw [kInt, Nat.mul_one] at t
    obtain ⟨x, e, _, w⟩ := DataW.trod_int Tryz.underlying3 t
    refine ⟨x, (wf_i64 w).2, ?_⟩
    have := one_of_take e
    rw [List.getElem?_take, if_pos hi, List.getElem?_drop] at this
    exact this
  have each : ∀ i, i < 12 → ∃ x : Int, x ≤ 9223372036854775807 ∧ cs[i]? = some (.int .i64 x) := fun i hi => by
    obtain rfl | rfl | rfl | rfl | rfl | rfl | rfl | rfl | rfl | rfl | rfl | rfl := lt12 hi
    · exact one 0 hi (fld hs h 0 0 1 3 rfl kInt)
    · exact one 1 hi (fld hs h 1 1 1 3 rfl kInt)
    · exact one 2 hi (fld hs h 2 2 1 3 rfl kInt)
    · exact one 3 hi (fld hs h 3 3 1 3 rfl kInt)
    · exact one 4 hi (fld hs h 4 4 1 3 rfl kInt)
    · exact arr 0 (by omega)
    · exact arr 1 (by omega)
    · exact arr 2 (by omega)
    · exact arr 3 (by omega)
    · exact arr 4 (by omega)
    · exact one 10 hi (fld hs h 6 10 1 3 rfl kInt)
    · exact one 11 hi (fld hs h 7 11 1 3 rfl kInt)
  obtain ⟨q, hq⟩ := Deep.choose_lt each
  refine ⟨q, ?_, fun i hi => (hq i hi).1⟩
  apply List.ext_getElem?
  intro i
  by_cases hi : i < 12
  · rw [(hq i hi).2]
    obtain rfl | rfl | rfl | rfl | rfl | rfl | rfl | rfl | rfl | rfl | rfl | rfl := lt12 hi
    all_goals rfl
  · rw [List.getElem?_eq_none (by omega), List.getElem?_eq_none (by show 12 ≤ i; omega)]
set_option maxRecDepth 100000 in
theorem open_rc {H : Type} {enc : TypeId × Value → H} {base : Nat} {W : World} {v : Value} {d : DataW H} {p : List MemPlace}
    (ho : Value.okWide Tryz.prog W .any base 24 v) (h : DataW.Trod enc Tryz.prog W 0 (fun _ => true) true 24 v d p) : RcArg v := by
  obtain ⟨cs, rfl, hsz⟩ := WideShapes.okWide_struct Tryz.underlying24 ho
  obtain ⟨fuel, hf⟩ := h
  have hk : Tryz.prog.cellsOf 24 = 12 := by kernel_rfl
  obtain ⟨l⟩ := cs
  have hl : l.length = 12 := by rw [hk] at hsz; simpa using hsz
  obtain ⟨f, rfl, hb⟩ := rc_of_trod l hf hl
  exact ⟨f, rfl, hb⟩
end Go.Proofs.YtcofejbkbcdopaaGreatDoor
