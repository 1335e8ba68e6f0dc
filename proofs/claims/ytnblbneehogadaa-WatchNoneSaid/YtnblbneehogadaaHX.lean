import Derived.Test.YtnblbneehogadaaHA
import Derived.Test.YtnblbneehogadaaSR
import Derived.Deep.Fields
/- Events that come in, lists of events in memory, what stays of a world. -/
namespace Go.Proofs.Ytnblbneehogadaa
open Go.RowKit
theorem Ext.drew1 {w w1 : World} (h : Ext w w1) : Ext w w1.drew := Ext.drewN h 1
theorem step_append_run {P : Program} {w : World} {ops : Array Oper} {o : Oper} {a : Act} {K : Act → World → Prop} {Q : Exit → Act → World → Prop} {E : Prop} (hgd : o.guard = none) (s x : Operand) (t : TypeId)
    (ho : o.op = .call { callee := .builtin .append, args := #[s, x], argTypes := #[t, t] }) (v u v' : Value) (w' : World) (hs : a.eval s = v) (hx : a.eval x = u)
    (hrun : (Builtin.append_ #[t, t] o.type #[v, u]).run P w = .ok v' w') (h : K (a.put o.dst v') w') :
    if Region.wanted o (yielded ops a.tmps) = true then Oper.wp P o a w K Q else E := by
  have hw : Region.wanted o (yielded ops a.tmps) = true := by simp [Region.wanted, hgd]
  rw [if_pos hw]
  unfold Oper.wp execOp
  simp only [ho, resolve, invoke, builtin, Sem.run_bind, Sem.run_pure, Result.andThen_ok, List.map_toArray, List.map_cons, List.map_nil, hs, hx, hrun]
  exact h
theorem OwnB.grownO {C : Nat} {w w' : World} {v : Value} {l : List UInt8} {row : Option Nat} (h : OwnB C w v l) (hg : w.grownBy w' row) (hr : ∀ j, row = some j → j < C) : OwnB C w' v l := by
  refine ⟨h.1, ?_⟩
  rcases h.2 with h2 | ⟨g, cap, cur, hv, hb1, hgh, r⟩
  · exact Or.inl h2
  · exact Or.inr ⟨g, cap, cur, hv, hb1, (hg.block g (blk_lt hgh) (fun e => by have := hr g e.symm; omega)).trans hgh, r⟩
theorem inc_u8 (x : UInt8) : ((x.toNat : Int) + 1) % 256 = ((x + 1).toNat : Int) := by
  rw [UInt8.toNat_add]; simp
theorem open_flat {P : Program} {H : Type} {enc : TypeId × Value → H} {t : TypeId} {fs : Array Field} {base : Nat} {r : Reach} {b0 : Nat} {W : World} {v : Value} {d : DataW H} {p : List MemPlace} {sp : Nat → Bool} {held : Bool}
    (hs : P.underlying t = some (.struct fs)) (hone : Deep.oneCellFields P fs = true) (hC : P.cellsOf t = fs.size)
    (ho : Value.okWide P W r b0 t v) (h : DataW.Trod enc P W base sp held t v d p) :
    ∃ cs : Array Value, v = .agg cs ∧ cs.size = fs.size ∧ ∀ (i : Nat) (f : Field), fs[i]? = some f → ∃ c y n, cs[i]? = some c ∧ DataW.trod enc P W base sp held n f.type [c] = some y := by
  obtain ⟨cs, rfl, hsz⟩ := WideShapes.okWide_struct hs ho
  obtain ⟨fuel, hf⟩ := h
  obtain ⟨xs, n, _, _, hl, hxl, hall⟩ := DataW.trod_struct hs hf
  refine ⟨cs, rfl, hsz.trans hC, fun i f hi => ?_⟩
  have h1 := hall i f hi
  have hif : i < fs.size := (Array.getElem?_eq_some_iff.1 hi).1
  have hk : f.offset = i ∧ P.cellsOf f.type = 1 := by
    unfold Deep.oneCellFields at hone
    have := List.all_eq_true.1 hone i (by simpa using hif)
    simp only [hi, Bool.and_eq_true, beq_iff_eq] at this
    exact this
  rw [hk.1, hk.2] at h1
  obtain ⟨b, hb⟩ : ∃ b, xs[i]? = some b := ⟨xs[i]'(by omega), List.getElem?_eq_getElem (by omega)⟩
  have hic : i < cs.size := by rw [hsz, hC]; exact hif
  have hc : (((Value.agg cs).cells.toList.drop i).take 1) = [cs[i]] := by
    show ((cs.toList.drop i).take 1) = _
    rw [List.drop_eq_getElem_cons (by simpa using hic)]; simp
  rw [hb, hc] at h1
  exact ⟨cs[i], b, n, Array.getElem?_eq_getElem hic, h1⟩
/-- An event that came in. -/
def EvArg (W : World) (v : Value) : Prop :=
  ∃ (k : Int) (s : ByteArray) (x : Value) (b d t : Int), v = .agg #[.int .i64 k, .string s, x, .int .u64 b, .int .u64 d, .int .u64 t] ∧ (Lit.int .i64 k).wf = true ∧ s.size ≤ 9223372036854775807 ∧ IntsArg .u8 W x ∧ (Lit.int .u64 b).wf = true ∧ (Lit.int .u64 d).wf = true ∧ (Lit.int .u64 t).wf = true
theorem ints_of_trod {P : Program} {H : Type} {enc : TypeId × Value → H} {t e : TypeId} {k : IntKind} {W : World} {v : Value} {x : DataW H × List MemPlace} {fuel : Nat}
    (ht : P.underlying t = some (.slice e)) (he : P.underlying e = some (.int k)) (hc : P.cellsOf e = 1)
    (hf : DataW.trod enc P W 0 (fun _ => true) true fuel t [v] = some x) : IntsArg k W v := by
  rcases ChangeShapes.open_ints ht he hc hf with ⟨hcs, _⟩ | ⟨x, len0, cap0, zs, hcs, _, hl, hm, hz, _, hcell, hwz⟩
  · simp at hcs
    subst hcs
    exact ⟨none, 0, 0, [], rfl, rfl, Nat.le_refl _, by decide, by simp, fun j u hj => by simp at hj⟩
  · simp at hcs
    subst hcs
    have hz' : zs.length = cap0 := by simpa using hz
    refine ⟨some x, len0, cap0, zs.take len0, rfl, by simp; omega, hl, by unfold maxLen at hm; omega, fun z hzm => hwz z (List.mem_of_mem_take hzm), cellsAt_of fun j u hj => ?_⟩
    have hj' : j < len0 ∧ j < zs.length := by
      have := (List.getElem?_eq_some_iff.1 hj).1; simp at this; omega
    have e := hcell j hj'.2
    rw [e]
    simp only [List.getElem?_map, List.getElem?_take, hj'.1, if_true, List.getElem?_eq_getElem hj'.2, Option.map_some] at hj
    rw [← hj, List.getD_eq_getElem?_getD, List.getElem?_eq_getElem hj'.2]; rfl
theorem by_of_ints {W : World} {v : Value} (h : IntsArg .u8 W v) : ∃ a n c, v = .slice a n c ∧ n ≤ 9223372036854775807 ∧ (n ≤ 140737488355328 → ∃ l : List UInt8, l.length = n ∧ By W v l) := by
  obtain ⟨a, n, c, zs, rfl, hn, hnc, hc, hz, hcells⟩ := h
  refine ⟨a, n, c, rfl, by omega, fun hs => ⟨zs.map fun z => UInt8.ofNat z.toNat, by simpa using hn, ?_⟩⟩
  have hnum : nums (zs.map fun z => UInt8.ofNat z.toNat) = zs := by
    unfold nums
    rw [List.map_map]
    conv => rhs; rw [← List.map_id zs]
    apply List.map_congr_left
    intro z hm
    have := wf_u8 (hz z hm)
    simp; omega
  have hlen : (zs.map fun z => UInt8.ofNat z.toNat).length = n := by simpa using hn
  refine ⟨a, c, by rw [hlen], by omega, trivial, trivial, ?_⟩
  rw [hnum]
  intro h0
  have hz0 : 0 < zs.length := by rw [List.length_map] at h0; exact h0
  obtain ⟨b, o, ha, _⟩ := hcells 0 (.int .u8 zs[0]) (by simp [hz0])
  subst ha
  refine ⟨b, o, rfl, fun i hi => ?_⟩
  have hi' : i < zs.length := by rw [List.length_map] at hi; exact hi
  obtain ⟨b', o', ha, hcell⟩ := hcells i (.int .u8 zs[i]) (by simp [hi'])
  simp at ha
  obtain ⟨rfl, rfl⟩ := ha
  rw [hcell, List.getD_eq_getElem?_getD, List.getElem?_eq_getElem hi']; rfl
theorem nat_of_u64 {a : Int} (h : (Lit.int .u64 a).wf = true) : ∃ n : Nat, a = n ∧ n < 18446744073709551616 := by
  obtain ⟨h0, h1⟩ := wf_u64 h
  obtain ⟨n, rfl⟩ := Int.eq_ofNat_of_zero_le h0
  exact ⟨n, rfl, by omega⟩
/-- The parts of an event that came in. -/
theorem EvArg.parts {W : World} {v : Value} (h : EvArg W v) : ∃ (k : Int) (s : ByteArray) (a : Option Addr) (n c b d t : Nat), v = .agg #[.int .i64 k, .string s, .slice a n c, .int .u64 b, .int .u64 d, .int .u64 t] ∧
    (-9223372036854775808 ≤ k ∧ k ≤ 9223372036854775807) ∧ s.size ≤ 9223372036854775807 ∧ n ≤ 9223372036854775807 ∧ b < 18446744073709551616 ∧ d < 18446744073709551616 ∧ t < 18446744073709551616 ∧ (n ≤ 140737488355328 → ∃ l : List UInt8, l.length = n ∧ By W (.slice a n c) l) := by
  obtain ⟨k, s, x, b, d, t, rfl, hk, hs, hx, hb, hd, ht⟩ := h
  obtain ⟨a, n, c, rfl, hn, hl⟩ := by_of_ints hx
  obtain ⟨b, rfl, hb1⟩ := nat_of_u64 hb
  obtain ⟨d, rfl, hd1⟩ := nat_of_u64 hd
  obtain ⟨t, rfl, ht1⟩ := nat_of_u64 ht
  have := wf_i64 hk
  exact ⟨k, s, a, n, c, b, d, t, rfl, ⟨by omega, by omega⟩, hs, hn, hb1, hd1, ht1, hl⟩
theorem open_evt {P : Program} {H : Type} {enc : TypeId × Value → H} {t e : TypeId} {f0 f1 f2 f3 f4 f5 : Field} {base : Nat} {W : World} {v : Value} {d : DataW H} {p : List MemPlace}
    (hs : P.underlying t = some (.struct #[f0, f1, f2, f3, f4, f5])) (hone : Deep.oneCellFields P #[f0, f1, f2, f3, f4, f5] = true) (hC : P.cellsOf t = 6)
    (h0 : P.underlying f0.type = some (.int .i64)) (h1 : P.underlying f1.type = some .string) (h2 : P.underlying f2.type = some (.slice e)) (he : P.underlying e = some (.int .u8)) (hc : P.cellsOf e = 1)
    (h3 : P.underlying f3.type = some (.int .u64)) (h4 : P.underlying f4.type = some (.int .u64)) (h5 : P.underlying f5.type = some (.int .u64))
    (ho : Value.okWide P W .any base t v) (h : DataW.Trod enc P W 0 (fun _ => true) true t v d p) : EvArg W v := by
  obtain ⟨cs, rfl, hsz, hall⟩ := open_flat hs hone hC ho h
  obtain ⟨c0, y0, n0, q0, t0⟩ := hall 0 f0 rfl
  obtain ⟨c1, y1, n1, q1, t1⟩ := hall 1 f1 rfl
  obtain ⟨c2, y2, n2, q2, t2⟩ := hall 2 f2 rfl
  obtain ⟨c3, y3, n3, q3, t3⟩ := hall 3 f3 rfl
  obtain ⟨c4, y4, n4, q4, t4⟩ := hall 4 f4 rfl
  obtain ⟨c5, y5, n5, q5, t5⟩ := hall 5 f5 rfl
  have hcs : cs = #[c0, c1, c2, c3, c4, c5] := by
    have hz : cs.size = 6 := hsz
    apply Array.ext_getElem?
    intro i
    by_cases hi : i < 6
    · obtain rfl | rfl | rfl | rfl | rfl | rfl : i = 0 ∨ i = 1 ∨ i = 2 ∨ i = 3 ∨ i = 4 ∨ i = 5 := by omega
      · exact q0
      · exact q1
      · exact q2
      · exact q3
      · exact q4
      · exact q5
    · rw [Array.getElem?_eq_none (by omega), Array.getElem?_eq_none (by simp; omega)]
  subst hcs
  obtain ⟨k, e0, _, w0⟩ := DataW.trod_int h0 t0
  obtain ⟨s, e1, _, hs0⟩ := DataW.trod_string h1 t1
  obtain ⟨b, e3, _, w3⟩ := DataW.trod_int h3 t3
  obtain ⟨d, e4, _, w4⟩ := DataW.trod_int h4 t4
  obtain ⟨z, e5, _, w5⟩ := DataW.trod_int h5 t5
  simp at e0 e1 e3 e4 e5
  subst e0 e1 e3 e4 e5
  unfold maxLen at hs0
  exact ⟨k, s, c2, b, d, z, rfl, w0, hs0, ints_of_trod h2 he hc t2, w3, w4, w5⟩
theorem copy_app (w : World) (a : Option Addr) (c : Nat) (l : List UInt8) (h : By w (.slice a l.length c) l) (hl : l.length ≤ 100000) :
    ∃ (a1 : Option Addr) (c1 : Nat) (w' : World), (Builtin.append_ #[26, 26] 26 #[.slice none 0 0, .slice a l.length c]).run Try.prog w = .ok (.slice a1 l.length c1) w' ∧ OwnB w.heap.size w' (.slice a1 l.length c1) l ∧ Ext w w' := by
  obtain ⟨i0, hi, hz0, hz1, hz2⟩ := info_parts infoByte
  obtain ⟨a', c', he, _, _, _, hb⟩ := h
  simp only [Value.slice.injEq] at he
  obtain ⟨rfl, _, rfl⟩ := he
  rcases Nat.eq_zero_or_pos l.length with h0 | h0
  · have : l = [] := List.eq_nil_of_length_eq_zero h0
    subst this
    cases a with
    | none => exact ⟨none, 0, w, by simp [Builtin.append_, run_underlying Try.underlying26, sizeOf, typeInfo, hi, Builtin.lenOf, Builtin.firstCells], World.ownsRow_nil _ _ _ _, Below.refl _ _⟩
    | some ad =>
      obtain ⟨v', w', hrun, h2, h3, _, _⟩ := run_append_own_at (P := Try.prog) w w.heap.size 26 26 5 i0 (.int .u8 0) 1 1 Try.underlying26 hi hz0 hz1 hz2 rfl (by decide) (.slice none 0 0) 0 [] (World.ownsRow_nil _ _ _ _) ad 0 c [] rfl (fun j u hu => by simp at hu) (by simp) (by decide) (by decide) (Nat.le_refl _)
      have ho : OwnB w.heap.size w' v' [] := h2
      obtain ⟨a1, c1, rfl⟩ := ho.shape
      exact ⟨a1, c1, w', hrun, ho, Below.grown (Below.refl _ _) h3 (Nat.le_refl _) (fun j hj => by cases hj)⟩
  · obtain ⟨b, o, rfl, hcell⟩ := hb h0
    obtain ⟨v', w', hrun, h2, h3, _, _⟩ := run_append_own_at (P := Try.prog) w w.heap.size 26 26 5 i0 (.int .u8 0) 1 1 Try.underlying26 hi hz0 hz1 hz2 rfl (by decide) (.slice none 0 0) 0 [] (World.ownsRow_nil _ _ _ _) ⟨b, o, none⟩ l.length c ((nums l).map (Value.int .u8)) (by simp [nums]) (fun j u hu => by
        have hj : j < l.length := by have := (List.getElem?_eq_some_iff.1 hu).1; simpa [nums] using this
        rw [Go.WideShapes.add_plain, hcell j hj, nums_getD l j hj, ← hu]
        simp [nums, hj]) (by intro u hu; simp only [List.mem_map] at hu; obtain ⟨z, _, rfl⟩ := hu; rfl) (by unfold maxLen; omega) (by omega) (Nat.le_refl _)
    have ho : OwnB w.heap.size w' v' l := by
      have h2' := h2
      rw [Nat.zero_add] at h2'
      exact h2'
    obtain ⟨a1, c1, rfl⟩ := ho.shape
    exact ⟨a1, c1, w', hrun, ho, Below.grown (Below.refl _ _) h3 (Nat.le_refl _) (fun j hj => by cases hj)⟩
theorem wpList_app {P : Program} {ops : Array Oper} {rest : List Oper} {o : Oper} {a : Act} {Q : Exit → Act → World → Prop} {w : World} (hg : o.guard = none) (s x : Operand) (t u : TypeId)
    (ho : o.op = .call { callee := .builtin .append, args := #[s, x], argTypes := #[t, u] }) (v v2 v' : Value) (w' : World) (hs : a.eval s = v) (hx : a.eval x = v2)
    (hrun : (Builtin.append_ #[t, u] o.type #[v, v2]).run P w = .ok v' w') (h : wpList P ops Q rest (a.put o.dst v') w') : wpList P ops Q (o :: rest) a w := by
  refine wpList_plain hg fun K hK' => ?_
  unfold Oper.wp
  simp [execOp, ho, resolve, invoke, builtin, hs, hx, hrun, Result.andThen]
  exact hK' _ _ h
/-- An event in memory: its parts, its value's slice, and the value's bytes. -/
structure EvX where
  k : Int
  s : ByteArray
  u : Value
  l : List UInt8
  b : Nat
  d : Nat
  t : Nat
def EvX.ok (x : EvX) : Bool := okV x.k x.s.size x.l.length x.b x.d x.t
def EvX.core (x : EvX) : Int × ByteArray × List UInt8 × Nat × Nat × Nat := (x.k, x.s, x.l, x.b, x.d, x.t)
structure EvX.In (x : EvX) : Prop where
  s : x.s.size ≤ 100000
  l : x.l.length ≤ 100000
  b : x.b < 18446744073709551616
  d : x.d < 18446744073709551616
  t : x.t < 18446744073709551616
def xC (x : EvX) : List Value := [.int .i64 x.k, .string x.s, x.u, .int .u64 x.b, .int .u64 x.d, .int .u64 x.t]
def xs (L : List EvX) : List Value := L.flatMap xC
/-- What an event in memory is. -/
def EvX.At (w : World) (x : EvX) : Prop := x.In ∧ (∃ p q, x.u = .slice p x.l.length q) ∧ By w x.u x.l
/-- A slice of events. -/
def Xs (w : World) (v : Value) (L : List EvX) : Prop :=
  ∃ a c, v = .slice a L.length c ∧ L.length ≤ 1048576 ∧ L.length ≤ c ∧ CellsAt w a (xs L) ∧ ∀ x ∈ L, x.At w
theorem xs_len (L : List EvX) : (xs L).length = 6 * L.length := by
  induction L with
  | nil => rfl
  | cons m r ih =>
    show (xC m ++ xs r).length = _
    rw [List.length_append, ih]
    simp [xC]; omega
theorem xs_at (L : List EvX) (i j : Nat) (hi : i < L.length) (hj : j < 6) : (xs L)[6 * i + j]? = (xC L[i])[j]? := by
  induction L generalizing i with
  | nil => simp at hi
  | cons m r ih =>
    show (xC m ++ xs r)[6 * i + j]? = _
    cases i with
    | zero =>
      rw [List.getElem?_append_left (by simp [xC]; omega)]
      simp
    | succ i =>
      rw [List.getElem?_append_right (by simp [xC]; omega)]
      have e : 6 * (i + 1) + j - (xC m).length = 6 * i + j := by simp [xC]; omega
      rw [e, ih i (by simpa using hi)]
      rfl
theorem xs_app (L M : List EvX) : xs (L ++ M) = xs L ++ xs M := List.flatMap_append
theorem xs_snoc (L : List EvX) (t : Nat) (h : t < L.length) : xs (L.take (t + 1)) = xs (L.take t) ++ xC L[t] := by
  rw [List.take_succ_eq_append_getElem h, xs_app]
  simp [xs]
theorem Xs.nil (w : World) : Xs w (.slice none 0 0) [] := ⟨none, 0, rfl, by decide, by decide, fun j u h => by simp [xs] at h, fun m hm => by cases hm⟩
theorem EvX.At.ext {w w' : World} {x : EvX} (h : x.At w) (hb : Ext w w') : x.At w' := ⟨h.1, h.2.1, By.ext hb h.2.2⟩
theorem Xs.ext {w w' : World} {v : Value} {L : List EvX} (h : Xs w v L) (hb : Ext w w') : Xs w' v L := by
  obtain ⟨a, c, h1, h2, h3, h4, h5⟩ := h
  exact ⟨a, c, h1, h2, h3, CellsAt.ext hb h4, fun m hm => (h5 m hm).ext hb⟩
theorem Xs.row {w : World} {a : Option Addr} {L : List EvX} (hc : CellsAt w a (xs L)) (i : Nat) (hi : i < L.length) : ∃ b o, a = some ⟨b, o, none⟩ ∧
    w.cell? ⟨b, o + i * 6, none⟩ = some (.int .i64 L[i].k) ∧ w.cell? ⟨b, o + i * 6 + 1, none⟩ = some (.string L[i].s) ∧ w.cell? ⟨b, o + i * 6 + 2, none⟩ = some L[i].u ∧ w.cell? ⟨b, o + i * 6 + 3, none⟩ = some (.int .u64 L[i].b) ∧ w.cell? ⟨b, o + i * 6 + 4, none⟩ = some (.int .u64 L[i].d) ∧ w.cell? ⟨b, o + i * 6 + 5, none⟩ = some (.int .u64 L[i].t) := by
  obtain ⟨b, o, ha, h0⟩ := hc (6 * i + 0) _ (xs_at L i 0 hi (by omega))
  have hh : ∀ j u, j < 6 → (xC L[i])[j]? = some u → w.cell? ⟨b, o + i * 6 + j, none⟩ = some u := fun j u hj hu => by
    obtain ⟨b', o', ha', h'⟩ := hc (6 * i + j) u ((xs_at L i j hi hj).trans hu)
    rw [ha] at ha'
    cases ha'
    rw [Nat.mul_comm i 6, Nat.add_assoc]
    exact h'
  exact ⟨b, o, ha, hh 0 _ (by omega) rfl, hh 1 _ (by omega) rfl, hh 2 _ (by omega) rfl, hh 3 _ (by omega) rfl, hh 4 _ (by omega) rfl, hh 5 _ (by omega) rfl⟩
theorem Xs.of_row {w : World} {base : Nat} {v : Value} {L : List EvX} (h : w.ownsRow base 30 6 v L.length (xs L)) (hL : L.length ≤ 1048576) (hm : ∀ m ∈ L, m.At w) : Xs w v L := by
  have hh := h
  rcases h.2 with ⟨rfl, h0⟩ | ⟨g, cap, cur, rfl, _, hg, hnc, hcm, hcs, htake⟩
  · obtain rfl := List.eq_nil_of_length_eq_zero h0
    exact Xs.nil w
  · refine ⟨some ⟨g, 0, none⟩, cap, rfl, hL, hnc, fun j u hj => ⟨g, 0, rfl, ?_⟩, hm⟩
    have := hh.cells (g := g) rfl j u hj
    rw [Go.WideShapes.add_plain] at this
    exact this
def allOk (L : List EvX) : Bool := L.all EvX.ok
theorem allOk_of {L : List EvX} (h : ∀ j (hj : j < L.length), (L[j]).ok = true) : allOk L = true := by
  unfold allOk
  rw [List.all_eq_true]
  intro x hx
  obtain ⟨j, hj, rfl⟩ := List.getElem_of_mem hx
  exact h j hj
theorem allOk_no {L : List EvX} (j : Nat) (hj : j < L.length) (h : (L[j]).ok = false) : allOk L = false := by
  cases e : allOk L with
  | false => rfl
  | true =>
    unfold allOk at e
    rw [List.all_eq_true] at e
    rw [e _ (List.getElem_mem hj)] at h
    cases h
theorem ownsRow_ext {w w' : World} (hb : Ext w w') {base : Nat} {e : TypeId} {size : Nat} {v : Value} {n : Nat} {xs : List Value} (h : w.ownsRow base e size v n xs) : w'.ownsRow base e size v n xs := by
  refine ⟨h.1, ?_⟩
  rcases h.2 with h2 | ⟨g, cap, cur, hv, hb1, hg, r⟩
  · exact Or.inl h2
  · exact Or.inr ⟨g, cap, cur, hv, hb1, (hb.block g (Array.getElem?_eq_some_iff.1 hg).1).trans hg, r⟩
theorem infoEvt : (Try.prog.info? 30).map (fun i => (i.zero, i.size, i.bytes)) = some (some (.agg #[.int .i64 0, .string ⟨#[]⟩, .slice none 0 0, .int .u64 0, .int .u64 0, .int .u64 0]), 6, 72) := by kernel_rfl
theorem row_block {w : World} {base : Nat} {e : TypeId} {size : Nat} {v : Value} {n : Nat} {xs : List Value} (h : w.ownsRow base e size v n xs) : ∀ g, v.ownBlock = some g → ∃ cs, w.heap[g]? = some (.cells cs e (0, 0)) := by
  intro g hg
  rcases h.2 with ⟨rfl, _⟩ | ⟨b, cap, cur, rfl, _, hb, _⟩
  · simp [Value.ownBlock] at hg
  · simp only [Value.ownBlock, Option.some.injEq] at hg
    subst hg
    exact ⟨_, hb⟩
theorem OwnB.grow {B : Nat} {w w' : World} {v : Value} {l : List UInt8} {row : Option Nat} (h : OwnB B w v l) (hg : w.grownBy w' row) (hr : ∀ g, row = some g → ∃ cs T, w.heap[g]? = some (.cells cs T (0, 0)) ∧ T ≠ 5) : OwnB B w' v l := by
  refine ⟨h.1, ?_⟩
  rcases h.2 with h2 | ⟨g, cap, cur, hv, hb1, hb, r⟩
  · exact Or.inl h2
  · refine Or.inr ⟨g, cap, cur, hv, hb1, (hg.block g (Array.getElem?_eq_some_iff.1 hb).1 (fun e => ?_)).trans hb, r⟩
    obtain ⟨cs, T, h1, h2⟩ := hr g e.symm
    rw [hb] at h1
    cases h1
    exact h2 rfl
theorem row_no {w : World} {v : Value} (h : ∀ g, v.ownBlock = some g → ∃ cs, w.heap[g]? = some (.cells cs 30 (0, 0))) : ∀ g, v.ownBlock = some g → ∃ cs T, w.heap[g]? = some (.cells cs T (0, 0)) ∧ T ≠ 5 := fun g hg => by
  obtain ⟨cs, h1⟩ := h g hg
  exact ⟨cs, 30, h1, by decide⟩
structure EvI where
  k : Int
  s : ByteArray
  u : Value
  b : Nat
  d : Nat
  t : Nat
instance : Inhabited EvI := ⟨⟨0, ⟨#[]⟩, .slice none 0 0, 0, 0, 0⟩⟩
def iC (x : EvI) : List Value := [.int .i64 x.k, .string x.s, x.u, .int .u64 x.b, .int .u64 x.d, .int .u64 x.t]
structure EvI.Wf (W : World) (x : EvI) : Prop where
  k : -9223372036854775808 ≤ x.k ∧ x.k ≤ 9223372036854775807
  s : x.s.size ≤ 9223372036854775807
  u : IntsArg .u8 W x.u
  b : x.b < 18446744073709551616
  d : x.d < 18446744073709551616
  t : x.t < 18446744073709551616
def ixs (L : List EvI) : List Value := L.flatMap iC
/-- A slice of events that came in. -/
def EvsArg (W : World) (v : Value) (L : List EvI) : Prop :=
  ∃ a c, v = .slice a L.length c ∧ L.length ≤ c ∧ c ≤ 9223372036854775807 ∧ CellsAt W a (ixs L) ∧ ∀ x ∈ L, x.Wf W
theorem ixs_len (L : List EvI) : (ixs L).length = 6 * L.length := by
  induction L with
  | nil => rfl
  | cons m r ih =>
    show (iC m ++ ixs r).length = _
    rw [List.length_append, ih]
    simp [iC]; omega
theorem ixs_at (L : List EvI) (i j : Nat) (hi : i < L.length) (hj : j < 6) : (ixs L)[6 * i + j]? = (iC L[i])[j]? := by
  induction L generalizing i with
  | nil => simp at hi
  | cons m r ih =>
    show (iC m ++ ixs r)[6 * i + j]? = _
    cases i with
    | zero =>
      rw [List.getElem?_append_left (by simp [iC]; omega)]
      simp
    | succ i =>
      rw [List.getElem?_append_right (by simp [iC]; omega)]
      have e : 6 * (i + 1) + j - (iC m).length = 6 * i + j := by simp [iC]; omega
      rw [e, ih i (by simpa using hi)]
      rfl
theorem ixs_row {w : World} {a : Option Addr} {L : List EvI} (hc : CellsAt w a (ixs L)) (i : Nat) (hi : i < L.length) : ∃ b o, a = some ⟨b, o, none⟩ ∧
    w.cell? ⟨b, o + i * 6, none⟩ = some (.int .i64 L[i].k) ∧ w.cell? ⟨b, o + i * 6 + 1, none⟩ = some (.string L[i].s) ∧ w.cell? ⟨b, o + i * 6 + 2, none⟩ = some L[i].u ∧ w.cell? ⟨b, o + i * 6 + 3, none⟩ = some (.int .u64 L[i].b) ∧ w.cell? ⟨b, o + i * 6 + 4, none⟩ = some (.int .u64 L[i].d) ∧ w.cell? ⟨b, o + i * 6 + 5, none⟩ = some (.int .u64 L[i].t) := by
  obtain ⟨b, o, ha, h0⟩ := hc (6 * i + 0) _ (ixs_at L i 0 hi (by omega))
  have hh : ∀ j u, j < 6 → (iC L[i])[j]? = some u → w.cell? ⟨b, o + i * 6 + j, none⟩ = some u := fun j u hj hu => by
    obtain ⟨b', o', ha', h'⟩ := hc (6 * i + j) u ((ixs_at L i j hi hj).trans hu)
    rw [ha] at ha'
    cases ha'
    rw [Nat.mul_comm i 6, Nat.add_assoc]
    exact h'
  exact ⟨b, o, ha, hh 0 _ (by omega) rfl, hh 1 _ (by omega) rfl, hh 2 _ (by omega) rfl, hh 3 _ (by omega) rfl, hh 4 _ (by omega) rfl, hh 5 _ (by omega) rfl⟩
theorem flat_cells {P : Program} {H : Type} {enc : TypeId × Value → H} {t : TypeId} {fs : Array Field} {base : Nat} {W : World} {cs : List Value} {x : DataW H × List MemPlace} {fuel : Nat} {sp : Nat → Bool} {held : Bool}
    (hs : P.underlying t = some (.struct fs)) (hone : Deep.oneCellFields P fs = true) (hsz : cs.length = fs.size) (hf : DataW.trod enc P W base sp held fuel t cs = some x) :
    ∀ (i : Nat) (f : Field), fs[i]? = some f → ∃ c y n, cs[i]? = some c ∧ DataW.trod enc P W base sp held n f.type [c] = some y := by
  obtain ⟨xs, n, _, _, hl, hxl, hall⟩ := DataW.trod_struct hs hf
  intro i f hi
  have h1 := hall i f hi
  have hif : i < fs.size := (Array.getElem?_eq_some_iff.1 hi).1
  have hk : f.offset = i ∧ P.cellsOf f.type = 1 := by
    unfold Deep.oneCellFields at hone
    have := List.all_eq_true.1 hone i (by simpa using hif)
    simp only [hi, Bool.and_eq_true, beq_iff_eq] at this
    exact this
  rw [hk.1, hk.2] at h1
  obtain ⟨b, hb⟩ : ∃ b, xs[i]? = some b := ⟨xs[i]'(by omega), List.getElem?_eq_getElem (by omega)⟩
  have hic : i < cs.length := by omega
  have hc : ((cs.drop i).take 1) = [cs[i]] := by
    rw [List.drop_eq_getElem_cons hic, List.take_succ_cons, List.take_zero]
  rw [hb, hc] at h1
  exact ⟨cs[i], b, n, List.getElem?_eq_getElem hic, h1⟩
theorem evi_of_trod {P : Program} {H : Type} {enc : TypeId × Value → H} {t e : TypeId} {f0 f1 f2 f3 f4 f5 : Field} {W : World} {cs : List Value} {x : DataW H × List MemPlace} {fuel : Nat}
    (hs : P.underlying t = some (.struct #[f0, f1, f2, f3, f4, f5])) (hone : Deep.oneCellFields P #[f0, f1, f2, f3, f4, f5] = true) (hz : cs.length = 6)
    (h0 : P.underlying f0.type = some (.int .i64)) (h1 : P.underlying f1.type = some .string) (h2 : P.underlying f2.type = some (.slice e)) (he : P.underlying e = some (.int .u8)) (hc : P.cellsOf e = 1)
    (h3 : P.underlying f3.type = some (.int .u64)) (h4 : P.underlying f4.type = some (.int .u64)) (h5 : P.underlying f5.type = some (.int .u64))
    (hf : DataW.trod enc P W 0 (fun _ => true) true fuel t cs = some x) : ∃ i : EvI, cs = iC i ∧ i.Wf W := by
  have hall := flat_cells hs hone hz hf
  obtain ⟨c0, y0, n0, q0, t0⟩ := hall 0 f0 rfl
  obtain ⟨c1, y1, n1, q1, t1⟩ := hall 1 f1 rfl
  obtain ⟨c2, y2, n2, q2, t2⟩ := hall 2 f2 rfl
  obtain ⟨c3, y3, n3, q3, t3⟩ := hall 3 f3 rfl
  obtain ⟨c4, y4, n4, q4, t4⟩ := hall 4 f4 rfl
  obtain ⟨c5, y5, n5, q5, t5⟩ := hall 5 f5 rfl
  have hcs : cs = [c0, c1, c2, c3, c4, c5] := by
    match cs, hz with
    | [_, _, _, _, _, _], _ => simp_all
  subst hcs
  obtain ⟨k, e0, _, w0⟩ := DataW.trod_int h0 t0
  obtain ⟨s, e1, _, hs0⟩ := DataW.trod_string h1 t1
  obtain ⟨b, e3, _, w3⟩ := DataW.trod_int h3 t3
  obtain ⟨d, e4, _, w4⟩ := DataW.trod_int h4 t4
  obtain ⟨z, e5, _, w5⟩ := DataW.trod_int h5 t5
  simp at e0 e1 e3 e4 e5
  subst e0 e1 e3 e4 e5
  unfold maxLen at hs0
  obtain ⟨b, rfl, hb⟩ := nat_of_u64 w3
  obtain ⟨d, rfl, hd⟩ := nat_of_u64 w4
  obtain ⟨z, rfl, hz9⟩ := nat_of_u64 w5
  have hk := wf_i64 w0
  exact ⟨⟨k, s, c2, b, d, z⟩, rfl, ⟨⟨by show _ ≤ k; omega, by show k ≤ _; omega⟩, hs0, ints_of_trod h2 he hc t2, hb, hd, hz9⟩⟩
theorem ixs_range (n : Nat) (q : Nat → EvI) (w : World) (a : Addr) (h : ∀ i, i < n → ∀ j u, (iC (q i))[j]? = some u → w.cell? (a.add (i * 6 + j)) = some u) :
    ∀ j u, (ixs ((List.range n).map q))[j]? = some u → w.cell? (a.add j) = some u := by
  intro j u hj
  have hlt : j < 6 * n := by
    have := (List.getElem?_eq_some_iff.1 hj).1
    rw [ixs_len] at this
    simpa using this
  have hd : 6 * (j / 6) + j % 6 = j := Nat.div_add_mod j 6
  have hi : j / 6 < ((List.range n).map q).length := by simp; omega
  have := ixs_at ((List.range n).map q) (j / 6) (j % 6) hi (Nat.mod_lt _ (by decide))
  rw [hd, hj] at this
  have h2 := h (j / 6) (by omega) (j % 6) u (by rw [this]; simp)
  rw [Nat.mul_comm, hd] at h2
  exact h2
theorem open_evs {P : Program} {H : Type} {enc : TypeId × Value → H} {ts t e : TypeId} {f0 f1 f2 f3 f4 f5 : Field} {base : Nat} {W : World} {v : Value} {d : DataW H} {p : List MemPlace}
    (ht : P.underlying ts = some (.slice t)) (hs : P.underlying t = some (.struct #[f0, f1, f2, f3, f4, f5])) (hone : Deep.oneCellFields P #[f0, f1, f2, f3, f4, f5] = true) (hC : P.cellsOf t = 6)
    (h0 : P.underlying f0.type = some (.int .i64)) (h1 : P.underlying f1.type = some .string) (h2 : P.underlying f2.type = some (.slice e)) (he : P.underlying e = some (.int .u8)) (hc : P.cellsOf e = 1)
    (h3 : P.underlying f3.type = some (.int .u64)) (h4 : P.underlying f4.type = some (.int .u64)) (h5 : P.underlying f5.type = some (.int .u64))
    (ho : Value.okWide P W .any base ts v) (h : DataW.Trod enc P W 0 (fun _ => true) true ts v d p) : ∃ L, EvsArg W v L := by
  obtain ⟨a0, len0, cap0, rfl⟩ := WideShapes.okWide_slice ht ho
  obtain ⟨fuel, hf⟩ := h
  rcases Deep.open_slice ht hf with ⟨hcs, _⟩ | ⟨a, len, cap, m, n, D, Pl, hcs, _, hl, hm, hmm, _, hx⟩
  · simp [Value.cells] at hcs
    obtain ⟨rfl, rfl, rfl⟩ := hcs
    exact ⟨[], none, 0, rfl, Nat.le_refl _, by decide, fun j u hj => by simp [ixs] at hj, fun x hx => by cases hx⟩
  · simp [Value.cells] at hcs
    obtain ⟨rfl, rfl, rfl⟩ := hcs
    have hlm : len0 ≤ m := by rw [hmm]; simp only; split <;> omega
    have each : ∀ i, i < len0 → ∃ x : EvI, x.Wf W ∧ ∀ j u, (iC x)[j]? = some u → W.cell? (a.add (i * 6 + j)) = some u := by
      intro i hi
      obtain ⟨cs', g1, g2⟩ := hx i (by omega)
      rw [hC] at g1
      obtain ⟨_, hlen, hcell⟩ := World.cells?_some g1
      obtain ⟨x, rfl, hw⟩ := evi_of_trod hs hone hlen h0 h1 h2 he hc h3 h4 h5 g2
      refine ⟨x, hw, fun j u hj => ?_⟩
      have hj6 : j < 6 := by have := (List.getElem?_eq_some_iff.1 hj).1; simpa [iC] using this
      have := hcell j hj6
      rw [Deep.add_add, hj] at this
      exact this
    obtain ⟨q, hq⟩ := Deep.choose_lt each
    refine ⟨(List.range len0).map q, some a, cap0, by simp, by simpa using hl, by unfold maxLen at hm; omega, cellsAt_of (ixs_range len0 q W a fun i hi => (hq i hi).2), ?_⟩
    intro x hx
    obtain ⟨i, hi, rfl⟩ := List.mem_map.1 hx
    exact (hq i (by simpa using hi)).1
theorem row_shape {w : World} {base : Nat} {e : TypeId} {size : Nat} {v : Value} {n : Nat} {xs : List Value} (h : w.ownsRow base e size v n xs) : ∃ a c, v = .slice a n c := by
  rcases h.2 with ⟨rfl, rfl⟩ | ⟨g, cap, cur, rfl, _⟩
  · exact ⟨none, 0, rfl⟩
  · exact ⟨_, _, rfl⟩
theorem ownsRow_put {w : World} {base : Nat} {e : TypeId} {size : Nat} {v : Value} {n : Nat} {xs : List Value} (h : w.ownsRow base e size v n xs) (p : Addr) (hp : p.block < base) (x : Value) : (w.setCell p x).ownsRow base e size v n xs := by
  refine ⟨h.1, ?_⟩
  rcases h.2 with h2 | ⟨g, cap, cur, hv, hb1, hg, r⟩
  · exact Or.inl h2
  · exact Or.inr ⟨g, cap, cur, hv, hb1, (heap_setCell_other _ _ _ _ (by omega)).trans hg, r⟩
/-- Only the blocks X, and new ones, have changed. -/
structure Mut (X : Nat → Prop) (w w' : World) : Prop where
  size : w.heap.size ≤ w'.heap.size
  other : ∀ j, j < w.heap.size → ¬ X j → w'.heap[j]? = w.heap[j]?
  ext : ∀ w0, Ext w0 w → (∀ x, X x → w0.heap.size ≤ x) → Ext w0 w'
theorem Mut.of_ext {X : Nat → Prop} {w w' : World} (h : Ext w w') : Mut X w w' := ⟨h.size, fun j hj _ => h.block j hj, fun w0 h0 _ => Ext.trans' h0 h⟩
theorem Mut.refl (X : Nat → Prop) (w : World) : Mut X w w := Mut.of_ext (Below.refl _ _)
theorem Mut.trans {X : Nat → Prop} {a b c : World} (h : Mut X a b) (k : Mut X b c) : Mut X a c :=
  ⟨Nat.le_trans h.size k.size, fun j hj hx => (k.other j (Nat.lt_of_lt_of_le hj h.size) hx).trans (h.other j hj hx), fun w0 h0 h1 => k.ext w0 (h.ext w0 h0 h1) h1⟩
theorem Mut.put {X : Nat → Prop} (w : World) (p : Addr) (v : Value) (hx : X p.block) : Mut X w (w.setCell p v) :=
  ⟨by simp, fun j _ hj => heap_setCell_other _ _ _ _ (fun e => hj (by rw [e]; exact hx)), fun w0 h0 h1 => Below.setCell h0 (p := p) (h1 _ hx) v⟩
theorem Mut.mono {X Y : Nat → Prop} {w w' : World} (h : Mut X w w') (hxy : ∀ j, X j → Y j) : Mut Y w w' :=
  ⟨h.size, fun j hj hy => h.other j hj (fun hx => hy (hxy j hx)), fun w0 h0 h1 => h.ext w0 h0 (fun x hx => h1 x (hxy x hx))⟩
theorem cell_of_block {w w' : World} {b : Nat} (h : w'.heap[b]? = w.heap[b]?) (o : Nat) : w'.cell? ⟨b, o, none⟩ = w.cell? ⟨b, o, none⟩ := by
  simp [World.cell?, h]
theorem OwnB.mut {X : Nat → Prop} {B : Nat} {w w' : World} {v : Value} {l : List UInt8} (h : OwnB B w v l) (hm : Mut X w w') (hX : ∀ j, X j → j < B) : OwnB B w' v l := by
  refine ⟨h.1, ?_⟩
  rcases h.2 with h2 | ⟨g, cap, cur, hv, hb1, hg, r⟩
  · exact Or.inl h2
  · exact Or.inr ⟨g, cap, cur, hv, hb1, (hm.other g (Array.getElem?_eq_some_iff.1 hg).1 (fun hx => by have := hX g hx; omega)).trans hg, r⟩
/-- append of a slice, nil or not, behind a row that the call owns. -/
theorem app_run {P : Program} (w : World) (base : Nat) (t ty e : TypeId) (i : TypeInfo) (z : Value) (size bytes : Nat) (ht : P.underlying t = some (.slice e)) (hi : P.info? e = some i) (hz : i.zero = some z)
    (hsize : i.size = size) (hby : i.bytes = bytes) (hzs : z.cells.size = size) (hsz : 0 < size) (v : Value) (n : Nat) (ys : List Value) (hown : w.ownsRow base e size v n ys)
    (a : Option Addr) (m c : Nat) (news : List Value) (hnil : a = none → m = 0 ∧ c = 0) (hl : news.length = m * size) (hnews : ∀ x, a = some x → ∀ j u, news[j]? = some u → w.cell? (x.add j) = some u) (h1 : ∀ u ∈ news, u.oneCell' = true)
    (h63 : n + m ≤ maxLen) (hbytes : (n + m) * bytes ≤ 140737488355328) (hbase : base ≤ w.heap.size) :
    ∃ v' w', (Builtin.append_ #[t, t] ty #[v, .slice a m c]).run P w = .ok v' w' ∧ w'.ownsRow base e size v' (n + m) (ys ++ news) ∧ w.grownBy w' v.ownBlock ∧ (v'.ownBlock = v.ownBlock ∨ v'.ownBlock = some w.heap.size) := by
  cases a with
  | some x =>
    obtain ⟨v', w', h2, h3, h4, _, h5⟩ := run_append_own_at w base t ty e i z size bytes ht hi hz hsize hby hzs hsz v n ys hown x m c news hl (hnews x rfl) h1 h63 hbytes hbase
    exact ⟨v', w', h2, h3, h4, h5⟩
  | none =>
    obtain ⟨rfl, rfl⟩ := hnil rfl
    have hn : news = [] := List.eq_nil_of_length_eq_zero (by rw [hl]; simp)
    subst hn
    refine ⟨v, w, ?_, by rw [List.append_nil]; exact hown, ⟨rfl, rfl, rfl, Nat.le_refl _, fun _ _ _ => rfl⟩, Or.inl rfl⟩
    rcases hown.2 with ⟨rfl, rfl⟩ | ⟨g, cap, cur, rfl, _, _, hnc, _⟩
    · simp [Builtin.append_, run_underlying ht, sizeOf, typeInfo, hi, Builtin.lenOf, Builtin.firstCells]
    · subst hsize
      exact run_append_room_src w t t ty e i ht hi g 0 n cap (.slice none 0 0) 0 [] (Src.ofNil w ht 0) (by omega) (fun j hj => by simp at hj) (fun j hj => by simp at hj)
/-- From w to w' only blocks of types in T, and new ones, have changed. -/
structure Keep (T : TypeId → Prop) (w w' : World) : Prop where
  size : w.heap.size ≤ w'.heap.size
  block : ∀ j, j < w.heap.size → w'.heap[j]? = w.heap[j]? ∨ ∃ cs U, w.heap[j]? = some (.cells cs U (0, 0)) ∧ T U
theorem Keep.of_ext {T : TypeId → Prop} {w w' : World} (h : Ext w w') : Keep T w w' := ⟨h.size, fun j hj => Or.inl (h.block j hj)⟩
theorem Keep.trans {T : TypeId → Prop} {a b c : World} (h : Keep T a b) (k : Keep T b c) : Keep T a c :=
  ⟨Nat.le_trans h.size k.size, fun j hj => by
    rcases h.block j hj with h1 | h1
    · rcases k.block j (Nat.lt_of_lt_of_le hj h.size) with h2 | h2
      · exact Or.inl (h2.trans h1)
      · rw [h1] at h2; exact Or.inr h2
    · exact Or.inr h1⟩
theorem Keep.mono {T U : TypeId → Prop} {w w' : World} (h : Keep T w w') (hT : ∀ t, T t → U t) : Keep U w w' :=
  ⟨h.size, fun j hj => (h.block j hj).imp id fun ⟨cs, V, h1, h2⟩ => ⟨cs, V, h1, hT V h2⟩⟩
theorem Keep.same {T : TypeId → Prop} {w w' : World} (h : Keep T w w') {j : Nat} {cs : Array Value} {U : TypeId} (hb : w.heap[j]? = some (.cells cs U (0, 0))) (hU : ¬ T U) : w'.heap[j]? = some (.cells cs U (0, 0)) := by
  rcases h.block j (blk_lt hb) with h1 | ⟨cs', V, h1, h2⟩
  · exact h1.trans hb
  · rw [hb] at h1; cases h1; exact absurd h2 hU
theorem Keep.of_grown {T : TypeId → Prop} {w w' : World} {row : Option Nat} (h : w.grownBy w' row) (hr : ∀ g, row = some g → ∃ cs U, w.heap[g]? = some (.cells cs U (0, 0)) ∧ T U) : Keep T w w' :=
  ⟨h.size, fun j hj => by
    by_cases e : some j = row
    · exact Or.inr (hr j e.symm)
    · exact Or.inl (h.block j hj e)⟩
theorem Keep.of_mut {T : TypeId → Prop} {X : Nat → Prop} {w w' : World} (h : Mut X w w') (hX : ∀ j, X j → ∃ cs U, w.heap[j]? = some (.cells cs U (0, 0)) ∧ T U) : Keep T w w' :=
  ⟨h.size, fun j hj => by
    by_cases e : X j
    · exact Or.inr (hX j e)
    · exact Or.inl (h.other j hj e)⟩
theorem ownsRow_keep {T : TypeId → Prop} {w w' : World} (hk : Keep T w w') {base : Nat} {e : TypeId} {size : Nat} {v : Value} {n : Nat} {xs : List Value} (h : w.ownsRow base e size v n xs) (he : ¬ T e) : w'.ownsRow base e size v n xs := by
  refine ⟨h.1, ?_⟩
  rcases h.2 with h2 | ⟨g, cap, cur, hv, hb1, hg, r⟩
  · exact Or.inl h2
  · exact Or.inr ⟨g, cap, cur, hv, hb1, hk.same hg he, r⟩
theorem OwnB.keep {T : TypeId → Prop} {B : Nat} {w w' : World} (hk : Keep T w w') {v : Value} {l : List UInt8} (h : OwnB B w v l) (he : ¬ T 5) : OwnB B w' v l := ownsRow_keep hk h he
theorem OwnB.avoid {B : Nat} {w : World} {v : Value} {l : List UInt8} (h : OwnB B w v l) {g : Nat} (hg : g < B) : v.ownBlock ≠ some g := fun e => by
  have := (h.lt g e).1
  omega
theorem OwnB.other {B : Nat} {w w' : World} {v : Value} {l : List UInt8} (h : OwnB B w v l) {g : Nat} (hM : Mut (fun j => j = g) w w') (hne : v.ownBlock ≠ some g) : OwnB B w' v l := by
  refine ⟨h.1, ?_⟩
  rcases h.2 with h2 | ⟨b, cap, cur, rfl, hb1, hg, r⟩
  · exact Or.inl h2
  · exact Or.inr ⟨b, cap, cur, rfl, hb1, (hM.other b (blk_lt hg) (fun e => hne (by show some b = some g; rw [e]))).trans hg, r⟩
theorem Mut.of_grown {w w' : World} {g : Nat} (h : w.grownBy w' (some g)) : Mut (fun j => j = g) w w' :=
  ⟨h.size, fun j hj hne => h.block j hj (fun e => hne (by simpa using e)), fun w0 h0 h1 => Below.grown h0 h h0.size (fun k hk => by
    simp only [Option.some.injEq] at hk
    subst hk
    exact h1 _ rfl)⟩
end Go.Proofs.Ytnblbneehogadaa
