import Derived.Test.YtbnmnkmjokcmfaaDoorS21
import Derived.Test.YtbnmnkmjokcmfaaDoorRW
import Derived.Test.YtbnmnkmjokcmfaaDoorSO
/- Calls of a counter that come in. -/
namespace Go.Proofs.YtbnmnkmjokcmfaaDoor
open Go.RowKit Go.Lib
structure ActI where
  what : Int
  n : Int
  width : Int
  now : Nat
  c : Nat → Int
instance : Inhabited ActI := ⟨⟨0, 0, 0, 0, fun _ => 0⟩⟩
def aC (x : ActI) : List Value := [.int .i64 x.what, .int .i64 x.n, .int .i64 x.width, .int .u64 x.now, .int .i64 (x.c 0), .int .i64 (x.c 1), .int .i64 (x.c 2), .int .i64 (x.c 3)]
theorem aC_len (x : ActI) : (aC x).length = 8 := rfl
theorem list8 {α : Type} {l : List α} (h : l.length = 8) : ∃ a b c d e f g i, l = [a, b, c, d, e, f, g, i] :=
  match l, h with
  | [a, b, c, d, e, f, g, i], _ => ⟨a, b, c, d, e, f, g, i, rfl⟩
def ActOk (x : ActI) : Prop := x.now < 18446744073709551616
theorem act_of_trod {P : Program} {H : Type} {enc : TypeId × Value → H} {t e : TypeId} {f0 f1 f2 f3 f4 : Field} {base : Nat} {W : World} {sp : Nat → Bool} {held : Bool}
    (hs : P.underlying t = some (.struct #[f0, f1, f2, f3, f4])) (o0 : f0.offset = 0) (o1 : f1.offset = 1) (o2 : f2.offset = 2) (o3 : f3.offset = 3) (o4 : f4.offset = 4) (k0 : P.cellsOf f0.type = 1) (k1 : P.cellsOf f1.type = 1) (k2 : P.cellsOf f2.type = 1) (k3 : P.cellsOf f3.type = 1) (k4 : P.cellsOf f4.type = 4)
    (h0 : P.underlying f0.type = some (.int .i64)) (h1 : P.underlying f1.type = some (.int .i64)) (h2 : P.underlying f2.type = some (.int .i64)) (h3 : P.underlying f3.type = some (.int .u64)) (h4 : P.underlying f4.type = some (.array 4 e)) (he : P.underlying e = some (.int .i64)) (hc : P.cellsOf e = 1)
    (cs : List Value) (n : Nat) (y : DataW H × List MemPlace) (h : DataW.trod enc P W base sp held n t cs = some y) (hl : cs.length = 8) : ∃ x, cs = aC x ∧ ActOk x := by
  obtain ⟨y0, n0, t0⟩ := fields_at hs h 0 f0 rfl
  obtain ⟨y1, n1, t1⟩ := fields_at hs h 1 f1 rfl
  obtain ⟨y2, n2, t2⟩ := fields_at hs h 2 f2 rfl
  obtain ⟨y3, n3, t3⟩ := fields_at hs h 3 f3 rfl
  obtain ⟨y4, n4, t4⟩ := fields_at hs h 4 f4 rfl
  rw [o0, k0] at t0; rw [o1, k1] at t1; rw [o2, k2] at t2; rw [o3, k3] at t3; rw [o4, k4] at t4
  obtain ⟨x0, e0, _, _⟩ := DataW.trod_int h0 t0
  obtain ⟨x1, e1, _, _⟩ := DataW.trod_int h1 t1
  obtain ⟨x2, e2, _, _⟩ := DataW.trod_int h2 t2
  obtain ⟨x3, e3, _, w3⟩ := DataW.trod_int h3 t3
  have key : ∀ i, i < 4 → ∃ z : Int, cs[4 + i]? = some (.int .i64 z) := fun i hi => by
    obtain ⟨f', d', hd⟩ := array_at h4 t4 i hi
    rw [hc] at hd
    obtain ⟨z, ez, _, _⟩ := DataW.trod_int he hd
    have := at_of_take ez
    refine ⟨z, ?_⟩
    simpa [List.getElem?_take, List.getElem?_drop, hi] using this
  have g0 := at_of_take e0; have g1 := at_of_take e1; have g2 := at_of_take e2; have g3 := at_of_take e3
  obtain ⟨c0, c1, c2, c3, c4, c5, c6, c7, rfl⟩ := list8 hl
  obtain ⟨z0, r0⟩ := key 0 (by omega)
  obtain ⟨z1, r1⟩ := key 1 (by omega)
  obtain ⟨z2, r2⟩ := key 2 (by omega)
  obtain ⟨z3, r3⟩ := key 3 (by omega)
  simp at g0 g1 g2 g3 r0 r1 r2 r3
  subst g0 g1 g2 g3 r0 r1 r2 r3
  have hz := wf_u64 w3
  obtain ⟨m, rfl⟩ : ∃ m : Nat, x3 = m := ⟨x3.toNat, by omega⟩
  exact ⟨⟨x0, x1, x2, m, l4 z0 z1 z2 z3⟩, rfl, by show m < _; omega⟩
abbrev ActsArg (W : World) (v : Value) (L : List ActI) : Prop := RowsArg aC ActOk W v L
theorem open_acts {P : Program} {H : Type} {enc : TypeId × Value → H} {ts t e : TypeId} {f0 f1 f2 f3 f4 : Field} {base : Nat} {W : World} {v : Value} {d : DataW H} {p : List MemPlace}
    (ht : P.underlying ts = some (.slice t)) (hs : P.underlying t = some (.struct #[f0, f1, f2, f3, f4])) (hC : P.cellsOf t = 8) (o0 : f0.offset = 0) (o1 : f1.offset = 1) (o2 : f2.offset = 2) (o3 : f3.offset = 3) (o4 : f4.offset = 4) (k0 : P.cellsOf f0.type = 1) (k1 : P.cellsOf f1.type = 1) (k2 : P.cellsOf f2.type = 1) (k3 : P.cellsOf f3.type = 1) (k4 : P.cellsOf f4.type = 4)
    (h0 : P.underlying f0.type = some (.int .i64)) (h1 : P.underlying f1.type = some (.int .i64)) (h2 : P.underlying f2.type = some (.int .i64)) (h3 : P.underlying f3.type = some (.int .u64)) (h4 : P.underlying f4.type = some (.array 4 e)) (he : P.underlying e = some (.int .i64)) (hc : P.cellsOf e = 1)
    (ho : Value.okWide P W .any base ts v) (h : DataW.Trod enc P W 0 (fun _ => true) true ts v d p) : ∃ L, ActsArg W v L :=
  open_rows aC 8 aC_len ActOk (by decide) ht hC (fun _ _ _ cs n y hh hl => act_of_trod hs o0 o1 o2 o3 o4 k0 k1 k2 k3 k4 h0 h1 h2 h3 h4 he hc cs n y hh hl) ho h
end Go.Proofs.YtbnmnkmjokcmfaaDoor
