import Derived.Test.YtnblbneehogadaaH18
import Derived.Deep.Fields
/- Calls that come in; the law WatchNone. -/
namespace Go.Proofs.Ytnblbneehogadaa
open Go.RowKit Go.ChangeMaps
theorem ints_any {P : Program} {H : Type} {enc : TypeId × Value → H} {t e : TypeId} {k : IntKind} {W : World} {base : Nat} {sp : Nat → Bool} {held : Bool} {v : Value} {x : DataW H × List MemPlace} {fuel : Nat}
    (ht : P.underlying t = some (.slice e)) (he : P.underlying e = some (.int k)) (hc : P.cellsOf e = 1)
    (hf : DataW.trod enc P W base sp held fuel t [v] = some x) : IntsArg k W v := by
  rcases ChangeShapes.open_ints ht he hc hf with ⟨hcs, _⟩ | ⟨x, len0, cap0, zs, hcs, _, hl, hm, hz, _, hcell, hwz⟩
  · simp at hcs
    subst hcs
    exact ⟨none, 0, 0, [], rfl, rfl, Nat.le_refl _, by decide, by simp, fun j u hj => by simp at hj⟩
  · simp at hcs
    subst hcs
    have hz' : len0 ≤ zs.length := by rw [hz]; split <;> omega
    refine ⟨some x, len0, cap0, zs.take len0, rfl, by simp; omega, hl, by unfold maxLen at hm; omega, fun z hzm => hwz z (List.mem_of_mem_take hzm), cellsAt_of fun j u hj => ?_⟩
    have hj' : j < len0 ∧ j < zs.length := by
      have := (List.getElem?_eq_some_iff.1 hj).1; simp at this; omega
    have e := hcell j hj'.2
    rw [e]
    simp only [List.getElem?_map, List.getElem?_take, hj'.1, if_true, List.getElem?_eq_getElem hj'.2, Option.map_some] at hj
    rw [← hj, List.getD_eq_getElem?_getD, List.getElem?_eq_getElem hj'.2]; rfl
theorem fld {P : Program} {H : Type} {enc : TypeId × Value → H} {t : TypeId} {fs : Array Field} {base : Nat} {W : World} {cs : List Value} {y : DataW H × List MemPlace} {fuel : Nat} {sp : Nat → Bool} {held : Bool}
    (hs : P.underlying t = some (.struct fs)) (h : DataW.trod enc P W base sp held fuel t cs = some y) (i o k : Nat) (T : TypeId) (hi : (fs[i]?).map (fun f => (f.offset, f.type)) = some (o, T)) (hk : P.cellsOf T = k) :
    ∃ z n, DataW.trod enc P W base sp held n T ((cs.drop o).take k) = some z := by
  obtain ⟨xs, n, _, _, hl, hxl, hall⟩ := DataW.trod_struct hs h
  obtain ⟨f, hf, e⟩ := Option.map_eq_some_iff.1 hi
  simp only [Prod.mk.injEq] at e
  obtain ⟨rfl, rfl⟩ := e
  subst hk
  have h1 := hall i f hf
  have hif : i < fs.size := (Array.getElem?_eq_some_iff.1 hf).1
  obtain ⟨b, hb⟩ : ∃ b, xs[i]? = some b := ⟨xs[i]'(by omega), List.getElem?_eq_getElem (by omega)⟩
  rw [hb] at h1
  exact ⟨b, n, h1⟩
theorem evi_any {P : Program} {H : Type} {enc : TypeId × Value → H} {t e : TypeId} {f0 f1 f2 f3 f4 f5 : Field} {W : World} {base : Nat} {sp : Nat → Bool} {held : Bool} {cs : List Value} {x : DataW H × List MemPlace} {fuel : Nat}
    (hs : P.underlying t = some (.struct #[f0, f1, f2, f3, f4, f5])) (hone : Deep.oneCellFields P #[f0, f1, f2, f3, f4, f5] = true) (hz : cs.length = 6)
    (h0 : P.underlying f0.type = some (.int .i64)) (h1 : P.underlying f1.type = some .string) (h2 : P.underlying f2.type = some (.slice e)) (he : P.underlying e = some (.int .u8)) (hc : P.cellsOf e = 1)
    (h3 : P.underlying f3.type = some (.int .u64)) (h4 : P.underlying f4.type = some (.int .u64)) (h5 : P.underlying f5.type = some (.int .u64))
    (hf : DataW.trod enc P W base sp held fuel t cs = some x) : ∃ i : EvI, cs = iC i ∧ i.Wf W := by
  have hall := flat_cells hs hone hz hf
  obtain ⟨c0, y0, n0, q0, t0⟩ := hall 0 f0 rfl
  obtain ⟨c1, y1, n1, q1, t1⟩ := hall 1 f1 rfl
  obtain ⟨c2, y2, n2, q2, t2⟩ := hall 2 f2 rfl
  obtain ⟨c3, y3, n3, q3, t3⟩ := hall 3 f3 rfl
  obtain ⟨c4, y4, n4, q4, t4⟩ := hall 4 f4 rfl
  obtain ⟨c5, y5, n5, q5, t5⟩ := hall 5 f5 rfl
  have hcs : cs = [c0, c1, c2, c3, c4, c5] := by
    match cs, hz with
    | [_, _, _, _, _, _], _ => simp_all
  subst hcs
  obtain ⟨k, e0, _, w0⟩ := DataW.trod_int h0 t0
  obtain ⟨s, e1, _, hs0⟩ := DataW.trod_string h1 t1
  obtain ⟨b, e3, _, w3⟩ := DataW.trod_int h3 t3
  obtain ⟨d, e4, _, w4⟩ := DataW.trod_int h4 t4
  obtain ⟨z, e5, _, w5⟩ := DataW.trod_int h5 t5
  simp at e0 e1 e3 e4 e5
  subst e0 e1 e3 e4 e5
  unfold maxLen at hs0
  obtain ⟨b, rfl, hb⟩ := nat_of_u64 w3
  obtain ⟨d, rfl, hd⟩ := nat_of_u64 w4
  obtain ⟨z, rfl, hz9⟩ := nat_of_u64 w5
  have hk := wf_i64 w0
  exact ⟨⟨k, s, c2, b, d, z⟩, rfl, ⟨⟨by show _ ≤ k; omega, by show k ≤ _; omega⟩, hs0, ints_any h2 he hc t2, hb, hd, hz9⟩⟩
theorem evs_any {P : Program} {H : Type} {enc : TypeId × Value → H} {ts t e : TypeId} {f0 f1 f2 f3 f4 f5 : Field} {base : Nat} {sp : Nat → Bool} {held : Bool} {W : World} {v : Value} {x : DataW H × List MemPlace} {fuel : Nat}
    (ht : P.underlying ts = some (.slice t)) (hs : P.underlying t = some (.struct #[f0, f1, f2, f3, f4, f5])) (hone : Deep.oneCellFields P #[f0, f1, f2, f3, f4, f5] = true) (hC : P.cellsOf t = 6)
    (h0 : P.underlying f0.type = some (.int .i64)) (h1 : P.underlying f1.type = some .string) (h2 : P.underlying f2.type = some (.slice e)) (he : P.underlying e = some (.int .u8)) (hc : P.cellsOf e = 1)
    (h3 : P.underlying f3.type = some (.int .u64)) (h4 : P.underlying f4.type = some (.int .u64)) (h5 : P.underlying f5.type = some (.int .u64))
    (hf : DataW.trod enc P W base sp held fuel ts [v] = some x) : ∃ L, EvsArg W v L := by
  rcases Deep.open_slice ht hf with ⟨hcs, _⟩ | ⟨a, len0, cap0, m, n, D, Pl, hcs, _, hl, hm, hmm, _, hx⟩
  · simp at hcs
    subst hcs
    exact ⟨[], none, 0, rfl, Nat.le_refl _, by decide, fun j u hj => by simp [ixs] at hj, fun x hx => by cases hx⟩
  · simp at hcs
    subst hcs
    have hlm : len0 ≤ m := by rw [hmm]; (try simp only); split <;> omega
    have each : ∀ i, i < len0 → ∃ x : EvI, x.Wf W ∧ ∀ j u, (iC x)[j]? = some u → W.cell? (a.add (i * 6 + j)) = some u := by
      intro i hi
      obtain ⟨cs', g1, g2⟩ := hx i (by omega)
      rw [hC] at g1
      obtain ⟨_, hlen, hcell⟩ := World.cells?_some g1
      obtain ⟨x, rfl, hw⟩ := evi_any hs hone hlen h0 h1 h2 he hc h3 h4 h5 g2
      refine ⟨x, hw, fun j u hj => ?_⟩
      have hj6 : j < 6 := by have := (List.getElem?_eq_some_iff.1 hj).1; simpa [iC] using this
      have := hcell j hj6
      rw [Deep.add_add, hj] at this
      exact this
    obtain ⟨q, hq⟩ := Deep.choose_lt each
    refine ⟨(List.range len0).map q, some a, cap0, by simp, by simpa using hl, by unfold maxLen at hm; omega, cellsAt_of (ixs_range len0 q W a fun i hi => (hq i hi).2), ?_⟩
    intro x hx
    obtain ⟨i, hi, rfl⟩ := List.mem_map.1 hx
    exact (hq i (by simpa using hi)).1
/-- A call: what, two numbers, a rule, events. -/
structure Act44 where
  wh : Int
  n : Int
  m : Int
  pre : ByteArray
  kv : Value
  room : Int
  old : Bool
  ev : Value
instance : Inhabited Act44 := ⟨⟨0, 0, 0, ⟨#[]⟩, .slice none 0 0, 0, false, .slice none 0 0⟩⟩
def a4C (y : Act44) : List Value := [.int .i64 y.wh, .int .i64 y.n, .int .i64 y.m, .string y.pre, y.kv, .int .i64 y.room, .bool y.old, y.ev]
theorem a4C_len (y : Act44) : (a4C y).length = 8 := rfl
structure Act44.Wf (W : World) (y : Act44) : Prop where
  wh : -9223372036854775808 ≤ y.wh ∧ y.wh ≤ 9223372036854775807
  n : -9223372036854775808 ≤ y.n ∧ y.n ≤ 9223372036854775807
  m : -9223372036854775808 ≤ y.m ∧ y.m ≤ 9223372036854775807
  room : -9223372036854775808 ≤ y.room ∧ y.room ≤ 9223372036854775807
  pre : y.pre.size ≤ 9223372036854775807
  kv : IntsArg .i64 W y.kv
  ev : ∃ L, EvsArg W y.ev L
theorem k4Act : Try.prog.cellsOf 50 = 8 := by kernel_rfl
theorem k4Ru : Try.prog.cellsOf 24 = 4 := by kernel_rfl
theorem k4K : Try.prog.cellsOf 25 = 1 := by kernel_rfl
theorem k4Ks : Try.prog.cellsOf 22 = 1 := by kernel_rfl
theorem k4Es : Try.prog.cellsOf 38 = 1 := by kernel_rfl
theorem k4Ev : Try.prog.cellsOf 30 = 6 := by kernel_rfl
theorem k4Str : Try.prog.cellsOf 9 = 1 := by kernel_rfl
theorem k4U8 : Try.prog.cellsOf 5 = 1 := by kernel_rfl
theorem k4Int : Try.prog.cellsOf 3 = 1 := by kernel_rfl
theorem k4Bo : Try.prog.cellsOf 4 = 1 := by kernel_rfl
theorem list8 {α : Type} {l : List α} (h : l.length = 8) : ∃ a b c d e f g i, l = [a, b, c, d, e, f, g, i] :=
  match l, h with
  | [a, b, c, d, e, f, g, i], _ => ⟨a, b, c, d, e, f, g, i, rfl⟩
set_option maxRecDepth 100000 in
theorem act4_of_trod {H : Type} {enc : TypeId × Value → H} {base : Nat} {sp : Nat → Bool} {held : Bool} {W : World} {n : Nat} {y : DataW H × List MemPlace} (cs : List Value) (h : DataW.trod enc Try.prog W base sp held n 50 cs = some y) (hl : cs.length = 8) : ∃ x, cs = a4C x ∧ Act44.Wf W x := by
  have hs := Try.underlying50
  have he := Try.underlying24
  obtain ⟨_, _, t0⟩ := fld hs h 0 0 1 3 rfl k4Int
  obtain ⟨_, _, t1⟩ := fld hs h 1 1 1 3 rfl k4Int
  obtain ⟨_, _, t2⟩ := fld hs h 2 2 1 3 rfl k4Int
  obtain ⟨_, _, tR⟩ := fld hs h 3 3 4 24 rfl k4Ru
  obtain ⟨_, _, t3⟩ := fld he tR 0 0 1 9 rfl k4Str
  obtain ⟨_, _, t4⟩ := fld he tR 1 1 1 22 rfl k4Ks
  obtain ⟨_, _, t5⟩ := fld he tR 2 2 1 3 rfl k4Int
  obtain ⟨_, _, t6⟩ := fld he tR 3 3 1 4 rfl k4Bo
  obtain ⟨_, _, t7⟩ := fld hs h 4 7 1 38 rfl k4Es
  obtain ⟨c0, c1, c2, c3, c4, c5, c6, c7, rfl⟩ := list8 hl
  simp only [List.drop_zero, List.drop_succ_cons, List.take_succ_cons, List.take_zero, List.take_nil] at t0 t1 t2 t3 t4 t5 t6 t7
  obtain ⟨x0, e0, _, w0⟩ := DataW.trod_int Try.underlying3 t0
  obtain ⟨x1, e1, _, w1⟩ := DataW.trod_int Try.underlying3 t1
  obtain ⟨x2, e2, _, w2⟩ := DataW.trod_int Try.underlying3 t2
  obtain ⟨x3, e3, _, w3⟩ := DataW.trod_string Try.underlying9 t3
  obtain ⟨x5, e5, _, w5⟩ := DataW.trod_int Try.underlying3 t5
  obtain ⟨x6, e6, _⟩ := DataW.trod_bool Try.underlying4 t6
  have hk := ints_any Try.underlying22 Try.underlying25 k4K t4
  have hev := evs_any Try.underlying38 Try.underlying30 (by kernel_rfl) k4Ev Try.underlying25 Try.underlying9 Try.underlying26 Try.underlying5 k4U8 Try.underlying27 Try.underlying28 Try.underlying28 t7
  simp at e0 e1 e2 e3 e5 e6
  subst e0 e1 e2 e3 e5 e6
  unfold maxLen at w3
  have h0 := wf_i64 w0
  have h1 := wf_i64 w1
  have h2 := wf_i64 w2
  have h5 := wf_i64 w5
  exact ⟨⟨x0, x1, x2, x3, c4, x5, x6, c7⟩, rfl, h0, h1, h2, h5, w3, hk, hev⟩
/-- A call that came in. -/
def ActArg (W : World) (v : Value) : Prop := ∃ x : Act44, v = .agg (a4C x).toArray ∧ x.Wf W
set_option maxRecDepth 100000 in
theorem open_act4 {H : Type} {enc : TypeId × Value → H} {base : Nat} {W : World} {v : Value} {d : DataW H} {p : List MemPlace}
    (ho : Value.okWide Try.prog W .any base 50 v) (h : DataW.Trod enc Try.prog W 0 (fun _ => true) true 50 v d p) : ActArg W v := by
  obtain ⟨cs, rfl, hsz⟩ := WideShapes.okWide_struct Try.underlying50 ho
  rw [k4Act] at hsz
  obtain ⟨fuel, hf⟩ := h
  obtain ⟨x, hx, hw⟩ := act4_of_trod cs.toList hf (by simpa using hsz)
  exact ⟨x, by rw [← hx], hw⟩
end Go.Proofs.Ytnblbneehogadaa
