import Derived.Test.YtapngkjgagapeaaDoorST
import Derived.Test.YtapngkjgagapeaaDoorV24
import Derived.Maps.AppendAt
import Derived.Deep.Slices
import Derived.Test.YtapngkjgagapeaaDoorV2
import Derived.Deep.AppendSrc
/- Events that come in, lists of events in memory, their text, streams: Write, Read, List, equal lists; the walk of EventFull. -/
namespace Go.Proofs.YtapngkjgagapeaaDoor
open Go.RowKit
/-- An event that came in. -/
def EvArg (W : World) (v : Value) : Prop :=
  ∃ (k : Int) (s : ByteArray) (x : Value) (b d t : Int), v = .agg #[.int .i64 k, .string s, x, .int .u64 b, .int .u64 d, .int .u64 t] ∧ (Lit.int .i64 k).wf = true ∧ s.size ≤ 9223372036854775807 ∧ IntsArg .u8 W x ∧ (Lit.int .u64 b).wf = true ∧ (Lit.int .u64 d).wf = true ∧ (Lit.int .u64 t).wf = true
theorem ints_of_trod {P : Program} {H : Type} {enc : TypeId × Value → H} {t e : TypeId} {k : IntKind} {W : World} {v : Value} {x : DataW H × List MemPlace} {fuel : Nat}
    (ht : P.underlying t = some (.slice e)) (he : P.underlying e = some (.int k)) (hc : P.cellsOf e = 1)
    (hf : DataW.trod enc P W 0 (fun _ => true) true fuel t [v] = some x) : IntsArg k W v := by
  rcases ChangeShapes.open_ints ht he hc hf with ⟨hcs, _⟩ | ⟨x, len0, cap0, zs, hcs, _, hl, hm, hz, _, hcell, hwz⟩
  · simp at hcs
    subst hcs
    exact ⟨none, 0, 0, [], rfl, rfl, Nat.le_refl _, by decide, by simp, fun j u hj => by simp at hj⟩
  · simp at hcs
    subst hcs
    have hz' : zs.length = cap0 := by simpa using hz
    refine ⟨some x, len0, cap0, zs.take len0, rfl, by simp; omega, hl, by unfold maxLen at hm; omega, fun z hzm => hwz z (List.mem_of_mem_take hzm), cellsAt_of fun j u hj => ?_⟩
    have hj' : j < len0 ∧ j < zs.length := by
      have := (List.getElem?_eq_some_iff.1 hj).1; simp at this; omega
    have e := hcell j hj'.2
    rw [e]
    simp only [List.getElem?_map, List.getElem?_take, hj'.1, if_true, List.getElem?_eq_getElem hj'.2, Option.map_some] at hj
    rw [← hj, List.getD_eq_getElem?_getD, List.getElem?_eq_getElem hj'.2]; rfl
theorem by_of_ints {W : World} {v : Value} (h : IntsArg .u8 W v) : ∃ a n c, v = .slice a n c ∧ n ≤ 9223372036854775807 ∧ (n ≤ 140737488355328 → ∃ l : List UInt8, l.length = n ∧ By W v l) := by
  obtain ⟨a, n, c, zs, rfl, hn, hnc, hc, hz, hcells⟩ := h
  refine ⟨a, n, c, rfl, by omega, fun hs => ⟨zs.map fun z => UInt8.ofNat z.toNat, by simpa using hn, ?_⟩⟩
  have hnum : nums (zs.map fun z => UInt8.ofNat z.toNat) = zs := by
    unfold nums
    rw [List.map_map]
    conv => rhs; rw [← List.map_id zs]
    apply List.map_congr_left
    intro z hm
    have := wf_u8 (hz z hm)
    simp; omega
  have hlen : (zs.map fun z => UInt8.ofNat z.toNat).length = n := by simpa using hn
  refine ⟨a, c, by rw [hlen], by omega, trivial, trivial, ?_⟩
  rw [hnum]
  intro h0
  have hz0 : 0 < zs.length := by rw [List.length_map] at h0; exact h0
  obtain ⟨b, o, ha, _⟩ := hcells 0 (.int .u8 zs[0]) (by simp [hz0])
  subst ha
  refine ⟨b, o, rfl, fun i hi => ?_⟩
  have hi' : i < zs.length := by rw [List.length_map] at hi; exact hi
  obtain ⟨b', o', ha, hcell⟩ := hcells i (.int .u8 zs[i]) (by simp [hi'])
  simp at ha
  obtain ⟨rfl, rfl⟩ := ha
  rw [hcell, List.getD_eq_getElem?_getD, List.getElem?_eq_getElem hi']; rfl
theorem nat_of_u64 {a : Int} (h : (Lit.int .u64 a).wf = true) : ∃ n : Nat, a = n ∧ n < 18446744073709551616 := by
  obtain ⟨h0, h1⟩ := wf_u64 h
  obtain ⟨n, rfl⟩ := Int.eq_ofNat_of_zero_le h0
  exact ⟨n, rfl, by omega⟩
/-- The parts of an event that came in. -/
theorem EvArg.parts {W : World} {v : Value} (h : EvArg W v) : ∃ (k : Int) (s : ByteArray) (a : Option Addr) (n c b d t : Nat), v = .agg #[.int .i64 k, .string s, .slice a n c, .int .u64 b, .int .u64 d, .int .u64 t] ∧
    (-9223372036854775808 ≤ k ∧ k ≤ 9223372036854775807) ∧ s.size ≤ 9223372036854775807 ∧ n ≤ 9223372036854775807 ∧ b < 18446744073709551616 ∧ d < 18446744073709551616 ∧ t < 18446744073709551616 ∧ (n ≤ 140737488355328 → ∃ l : List UInt8, l.length = n ∧ By W (.slice a n c) l) := by
  obtain ⟨k, s, x, b, d, t, rfl, hk, hs, hx, hb, hd, ht⟩ := h
  obtain ⟨a, n, c, rfl, hn, hl⟩ := by_of_ints hx
  obtain ⟨b, rfl, hb1⟩ := nat_of_u64 hb
  obtain ⟨d, rfl, hd1⟩ := nat_of_u64 hd
  obtain ⟨t, rfl, ht1⟩ := nat_of_u64 ht
  have := wf_i64 hk
  exact ⟨k, s, a, n, c, b, d, t, rfl, ⟨by omega, by omega⟩, hs, hn, hb1, hd1, ht1, hl⟩
theorem open_evt {P : Program} {H : Type} {enc : TypeId × Value → H} {t e : TypeId} {f0 f1 f2 f3 f4 f5 : Field} {base : Nat} {W : World} {v : Value} {d : DataW H} {p : List MemPlace}
    (hs : P.underlying t = some (.struct #[f0, f1, f2, f3, f4, f5])) (hone : Deep.oneCellFields P #[f0, f1, f2, f3, f4, f5] = true) (hC : P.cellsOf t = 6)
    (h0 : P.underlying f0.type = some (.int .i64)) (h1 : P.underlying f1.type = some .string) (h2 : P.underlying f2.type = some (.slice e)) (he : P.underlying e = some (.int .u8)) (hc : P.cellsOf e = 1)
    (h3 : P.underlying f3.type = some (.int .u64)) (h4 : P.underlying f4.type = some (.int .u64)) (h5 : P.underlying f5.type = some (.int .u64))
    (ho : Value.okWide P W .any base t v) (h : DataW.Trod enc P W 0 (fun _ => true) true t v d p) : EvArg W v := by
  obtain ⟨cs, rfl, hsz, hall⟩ := open_flat hs hone hC ho h
  obtain ⟨c0, y0, n0, q0, t0⟩ := hall 0 f0 rfl
  obtain ⟨c1, y1, n1, q1, t1⟩ := hall 1 f1 rfl
  obtain ⟨c2, y2, n2, q2, t2⟩ := hall 2 f2 rfl
  obtain ⟨c3, y3, n3, q3, t3⟩ := hall 3 f3 rfl
  obtain ⟨c4, y4, n4, q4, t4⟩ := hall 4 f4 rfl
  obtain ⟨c5, y5, n5, q5, t5⟩ := hall 5 f5 rfl
  have hcs : cs = #[c0, c1, c2, c3, c4, c5] := by
    have hz : cs.size = 6 := hsz
    apply Array.ext_getElem?
    intro i
    by_cases hi : i < 6
    · obtain rfl | rfl | rfl | rfl | rfl | rfl : i = 0 ∨ i = 1 ∨ i = 2 ∨ i = 3 ∨ i = 4 ∨ i = 5 := by omega
      · exact q0
      · exact q1
      · exact q2
      · exact q3
      · exact q4
      · exact q5
    · rw [Array.getElem?_eq_none (by omega), Array.getElem?_eq_none (by simp; omega)]
  subst hcs
  obtain ⟨k, e0, _, w0⟩ := DataW.trod_int h0 t0
  obtain ⟨s, e1, _, hs0⟩ := DataW.trod_string h1 t1
  obtain ⟨b, e3, _, w3⟩ := DataW.trod_int h3 t3
  obtain ⟨d, e4, _, w4⟩ := DataW.trod_int h4 t4
  obtain ⟨z, e5, _, w5⟩ := DataW.trod_int h5 t5
  simp at e0 e1 e3 e4 e5
  subst e0 e1 e3 e4 e5
  unfold maxLen at hs0
  exact ⟨k, s, c2, b, d, z, rfl, w0, hs0, ints_of_trod h2 he hc t2, w3, w4, w5⟩

theorem copy_app (w : World) (a : Option Addr) (c : Nat) (l : List UInt8) (h : By w (.slice a l.length c) l) (hl : l.length ≤ 100000) :
    ∃ (a1 : Option Addr) (c1 : Nat) (w' : World), (Builtin.append_ #[24, 24] 24 #[.slice none 0 0, .slice a l.length c]).run Tryd.prog w = .ok (.slice a1 l.length c1) w' ∧ OwnB w.heap.size w' (.slice a1 l.length c1) l ∧ Ext w w' := by
  obtain ⟨i0, hi, hz0, hz1, hz2⟩ := info_parts infoByte
  obtain ⟨a', c', he, _, _, _, hb⟩ := h
  simp only [Value.slice.injEq] at he
  obtain ⟨rfl, _, rfl⟩ := he
  rcases Nat.eq_zero_or_pos l.length with h0 | h0
  · have : l = [] := List.eq_nil_of_length_eq_zero h0
    subst this
    cases a with
    | none => exact ⟨none, 0, w, by simp [Builtin.append_, run_underlying Tryd.underlying24, sizeOf, typeInfo, hi, Builtin.lenOf, Builtin.firstCells], World.ownsRow_nil _ _ _ _, Below.refl _ _⟩
    | some ad =>
      obtain ⟨v', w', hrun, h2, h3, _, _⟩ := run_append_own_at (P := Tryd.prog) w w.heap.size 24 24 5 i0 (.int .u8 0) 1 1 Tryd.underlying24 hi hz0 hz1 hz2 rfl (by decide) (.slice none 0 0) 0 [] (World.ownsRow_nil _ _ _ _) ad 0 c [] rfl (fun j u hu => by simp at hu) (by simp) (by decide) (by decide) (Nat.le_refl _)
      have ho : OwnB w.heap.size w' v' [] := h2
      obtain ⟨a1, c1, rfl⟩ := ho.shape
      exact ⟨a1, c1, w', hrun, ho, Below.grown (Below.refl _ _) h3 (Nat.le_refl _) (fun j hj => by cases hj)⟩
  · obtain ⟨b, o, rfl, hcell⟩ := hb h0
    obtain ⟨v', w', hrun, h2, h3, _, _⟩ := run_append_own_at (P := Tryd.prog) w w.heap.size 24 24 5 i0 (.int .u8 0) 1 1 Tryd.underlying24 hi hz0 hz1 hz2 rfl (by decide) (.slice none 0 0) 0 [] (World.ownsRow_nil _ _ _ _) ⟨b, o, none⟩ l.length c ((nums l).map (Value.int .u8)) (by simp [nums]) (fun j u hu => by
        have hj : j < l.length := by have := (List.getElem?_eq_some_iff.1 hu).1; simpa [nums] using this
        rw [Go.WideShapes.add_plain, hcell j hj, nums_getD l j hj, ← hu]
        simp [nums, hj]) (by intro u hu; simp only [List.mem_map] at hu; obtain ⟨z, _, rfl⟩ := hu; rfl) (by unfold maxLen; omega) (by omega) (Nat.le_refl _)
    have ho : OwnB w.heap.size w' v' l := by
      have h2' := h2
      rw [Nat.zero_add] at h2'
      exact h2'
    obtain ⟨a1, c1, rfl⟩ := ho.shape
    exact ⟨a1, c1, w', hrun, ho, Below.grown (Below.refl _ _) h3 (Nat.le_refl _) (fun j hj => by cases hj)⟩

theorem wpList_app {P : Program} {ops : Array Oper} {rest : List Oper} {o : Oper} {a : Act} {Q : Exit → Act → World → Prop} {w : World} (hg : o.guard = none) (s x : Operand) (t u : TypeId)
    (ho : o.op = .call { callee := .builtin .append, args := #[s, x], argTypes := #[t, u] }) (v v2 v' : Value) (w' : World) (hs : a.eval s = v) (hx : a.eval x = v2)
    (hrun : (Builtin.append_ #[t, u] o.type #[v, v2]).run P w = .ok v' w') (h : wpList P ops Q rest (a.put o.dst v') w') : wpList P ops Q (o :: rest) a w := by
  refine wpList_plain hg fun K hK' => ?_
  unfold Oper.wp
  simp [execOp, ho, resolve, invoke, builtin, hs, hx, hrun, Result.andThen]
  exact hK' _ _ h
set_option maxHeartbeats 2000000 in
theorem rvcopy_any (k : Int) (s : ByteArray) (a : Option Addr) (l : List UInt8) (c b d t : Nat) (w : World) (h : By w (.slice a l.length c) l) (hl : l.length ≤ 100000) :
    Calls Tryd.prog 23 #[(.agg #[.int .i64 (k), .string s, .slice a (l.length) c, .int .u64 (b), .int .u64 (d), .int .u64 (t)])] w fun e w' => ∃ a' c', e = .returned (.agg #[.int .i64 (k), .string s, .slice a' (l.length) c', .int .u64 (b), .int .u64 (d), .int .u64 (t)]) ∧ OwnB w.heap.size w' (.slice a' l.length c') l ∧ Ext w w' := by
  have hx0 : Ext w ((w.alloc (.cells #[.int .i64 (k), .string s, .slice a (l.length) c, .int .u64 (b), .int .u64 (d), .int .u64 (t)] 28)).alloc (.cells #[.int .i64 0, .string ⟨#[]⟩, .slice none 0 0, .int .u64 0, .int .u64 0, .int .u64 0] 28)) := Ext.alloc (Ext.alloc (Below.refl _ _) _) _
  have hE0 := Ext.blk (Ext.alloc (Below.refl _ (w.alloc (.cells #[.int .i64 (k), .string s, .slice a (l.length) c, .int .u64 (b), .int .u64 (d), .int .u64 (t)] 28))) (.cells #[.int .i64 0, .string ⟨#[]⟩, .slice none 0 0, .int .u64 0, .int .u64 0, .int .u64 0] 28)) (newblk w (.cells #[.int .i64 (k), .string s, .slice a (l.length) c, .int .u64 (b), .int .u64 (d), .int .u64 (t)] 28))
  have hR0 := newblk (w.alloc (.cells #[.int .i64 (k), .string s, .slice a (l.length) c, .int .u64 (b), .int .u64 (d), .int .u64 (t)] 28)) (.cells #[.int .i64 0, .string ⟨#[]⟩, .slice none 0 0, .int .u64 0, .int .u64 0, .int .u64 0] 28)
  rw [show (w.alloc (.cells #[.int .i64 (k), .string s, .slice a (l.length) c, .int .u64 (b), .int .u64 (d), .int .u64 (t)] 28)).heap.size = w.heap.size + 1 by simp] at hR0
  obtain ⟨a1, c1', w1, happ, ho, hb⟩ := copy_app _ a c l (h.ext hx0) hl
  have hE := Ext.blk hb hE0
  have hR := Ext.blk hb hR0
  obtain ⟨k0, k1, k2, k3, k4, k5⟩ := blk6 hE
  obtain ⟨g0, g1, g2, g3, g4, g5⟩ := blk6f hE
  obtain ⟨m0, m1, m2, m3, m4, m5⟩ := blk6 hR
  obtain ⟨f0, f1, f2, f3, f4, f5⟩ := blk6f hR
  have hz : w.heap.size + 2 ≤ w1.heap.size := by have := hb.size; simp at this; omega
  have ho' := Box.mk (ho.mono (C := w.heap.size + 2) (by simp))
  have hx1 := Box.mk (Ext.trans' hx0 hb)
  clear h ho hb hx0 hE hR hE0 hR0
  go_enter Tryd.func23, Tryd.ntmps23
  go_wp2_with (first | (at_builtin; refine wpList_app rfl _ _ _ _ rfl _ _ _ _ rfl rfl happ ?_))
  refine bodyPost_ret (v := (.agg #[.int .i64 (k), .string s, .slice a1 (l.length) c1', .int .u64 (b), .int .u64 (d), .int .u64 (t)])) ?_ rfl ⟨_, _, rfl, ?_, ?_⟩
  · simp [results, Tryd.results23, go_sem, m0, m1, m2, m3, m4, m5]
  · exact ((ho'.out.setCell (p := ⟨w.heap.size, 2, none⟩) (by simp) _).st6 (B := w.heap.size + 1) (by omega) _ _ _ _ _ _).mono (by omega)
  · exact St6.ext (Below.setCell hx1.out (p := ⟨w.heap.size, 2, none⟩) (by simp) _) (B := w.heap.size + 1) (by omega) _ _ _ _ _ _
/-- An event in memory: its parts, its value's slice, and the value's bytes. -/
structure EvX where
  k : Int
  s : ByteArray
  u : Value
  l : List UInt8
  b : Nat
  d : Nat
  t : Nat
def EvX.ok (x : EvX) : Bool := okV x.k x.s.size x.l.length x.b x.d x.t
def EvX.evt (x : EvX) : Evt := ⟨x.k.toNat, ⟨x.s.data.toList, x.l, x.d, x.b⟩, x.t⟩
def EvX.core (x : EvX) : Int × ByteArray × List UInt8 × Nat × Nat × Nat := (x.k, x.s, x.l, x.b, x.d, x.t)
structure EvX.In (x : EvX) : Prop where
  s : x.s.size ≤ 100000
  l : x.l.length ≤ 100000
  b : x.b < 18446744073709551616
  d : x.d < 18446744073709551616
  t : x.t < 18446744073709551616
def xC (x : EvX) : List Value := [.int .i64 x.k, .string x.s, x.u, .int .u64 x.b, .int .u64 x.d, .int .u64 x.t]
def xs (L : List EvX) : List Value := L.flatMap xC
/-- What an event in memory is. -/
def EvX.At (w : World) (x : EvX) : Prop := x.In ∧ (∃ p q, x.u = .slice p x.l.length q) ∧ By w x.u x.l
/-- A slice of events. -/
def Xs (w : World) (v : Value) (L : List EvX) : Prop :=
  ∃ a c, v = .slice a L.length c ∧ L.length ≤ 1048576 ∧ L.length ≤ c ∧ CellsAt w a (xs L) ∧ ∀ x ∈ L, x.At w
theorem xs_len (L : List EvX) : (xs L).length = 6 * L.length := by
  induction L with
  | nil => rfl
  | cons m r ih =>
    show (xC m ++ xs r).length = _
    rw [List.length_append, ih]
    simp [xC]; omega
theorem xs_at (L : List EvX) (i j : Nat) (hi : i < L.length) (hj : j < 6) : (xs L)[6 * i + j]? = (xC L[i])[j]? := by
  induction L generalizing i with
  | nil => simp at hi
  | cons m r ih =>
    show (xC m ++ xs r)[6 * i + j]? = _
    cases i with
    | zero =>
      rw [List.getElem?_append_left (by simp [xC]; omega)]
      simp
    | succ i =>
      rw [List.getElem?_append_right (by simp [xC]; omega)]
      have e : 6 * (i + 1) + j - (xC m).length = 6 * i + j := by simp [xC]; omega
      rw [e, ih i (by simpa using hi)]
      rfl
theorem xs_app (L M : List EvX) : xs (L ++ M) = xs L ++ xs M := List.flatMap_append
theorem xs_snoc (L : List EvX) (t : Nat) (h : t < L.length) : xs (L.take (t + 1)) = xs (L.take t) ++ xC L[t] := by
  rw [List.take_succ_eq_append_getElem h, xs_app]
  simp [xs]
theorem Xs.nil (w : World) : Xs w (.slice none 0 0) [] := ⟨none, 0, rfl, by decide, by decide, fun j u h => by simp [xs] at h, fun m hm => by cases hm⟩
theorem EvX.At.ext {w w' : World} {x : EvX} (h : x.At w) (hb : Ext w w') : x.At w' := ⟨h.1, h.2.1, By.ext hb h.2.2⟩
theorem Xs.ext {w w' : World} {v : Value} {L : List EvX} (h : Xs w v L) (hb : Ext w w') : Xs w' v L := by
  obtain ⟨a, c, h1, h2, h3, h4, h5⟩ := h
  exact ⟨a, c, h1, h2, h3, CellsAt.ext hb h4, fun m hm => (h5 m hm).ext hb⟩
theorem Xs.row {w : World} {a : Option Addr} {L : List EvX} (hc : CellsAt w a (xs L)) (i : Nat) (hi : i < L.length) : ∃ b o, a = some ⟨b, o, none⟩ ∧
    w.cell? ⟨b, o + i * 6, none⟩ = some (.int .i64 L[i].k) ∧ w.cell? ⟨b, o + i * 6 + 1, none⟩ = some (.string L[i].s) ∧ w.cell? ⟨b, o + i * 6 + 2, none⟩ = some L[i].u ∧ w.cell? ⟨b, o + i * 6 + 3, none⟩ = some (.int .u64 L[i].b) ∧ w.cell? ⟨b, o + i * 6 + 4, none⟩ = some (.int .u64 L[i].d) ∧ w.cell? ⟨b, o + i * 6 + 5, none⟩ = some (.int .u64 L[i].t) := by
  obtain ⟨b, o, ha, h0⟩ := hc (6 * i + 0) _ (xs_at L i 0 hi (by omega))
  have hh : ∀ j u, j < 6 → (xC L[i])[j]? = some u → w.cell? ⟨b, o + i * 6 + j, none⟩ = some u := fun j u hj hu => by
    obtain ⟨b', o', ha', h'⟩ := hc (6 * i + j) u ((xs_at L i j hi hj).trans hu)
    rw [ha] at ha'
    cases ha'
    rw [Nat.mul_comm i 6, Nat.add_assoc]
    exact h'
  exact ⟨b, o, ha, hh 0 _ (by omega) rfl, hh 1 _ (by omega) rfl, hh 2 _ (by omega) rfl, hh 3 _ (by omega) rfl, hh 4 _ (by omega) rfl, hh 5 _ (by omega) rfl⟩
theorem Xs.of_row {w : World} {base : Nat} {v : Value} {L : List EvX} (h : w.ownsRow base 28 6 v L.length (xs L)) (hL : L.length ≤ 1048576) (hm : ∀ m ∈ L, m.At w) : Xs w v L := by
  have hh := h
  rcases h.2 with ⟨rfl, h0⟩ | ⟨g, cap, cur, rfl, _, hg, hnc, hcm, hcs, htake⟩
  · obtain rfl := List.eq_nil_of_length_eq_zero h0
    exact Xs.nil w
  · refine ⟨some ⟨g, 0, none⟩, cap, rfl, hL, hnc, fun j u hj => ⟨g, 0, rfl, ?_⟩, hm⟩
    have := hh.cells (g := g) rfl j u hj
    rw [Go.WideShapes.add_plain] at this
    exact this
/-- A node's event. -/
def Nd.x (m : Nd) : EvX := ⟨m.v.kind, bs m.v.e.key, m.u, m.v.e.val, m.v.e.birth, m.v.e.dl, m.v.now⟩
theorem evs_xs (L : List Nd) : evs L = xs (L.map Nd.x) := by
  unfold evs xs
  rw [List.flatMap_map]
  rfl
/-- The text of events, each with a line feed. -/
def textX (L : List EvX) : List UInt8 := L.flatMap fun x => x.evt.text ++ [10]
theorem textX_snoc (L : List EvX) (t : Nat) (h : t < L.length) : textX (L.take (t + 1)) = (textX (L.take t) ++ L[t].evt.text) ++ [10] := by
  unfold textX
  rw [List.take_succ_eq_append_getElem h, List.flatMap_append, List.append_assoc]
  simp
theorem EvX.text_len (x : EvX) (h : x.In) : x.evt.text.length ≤ 400075 := by
  have := Evt.text_len x.evt ⟨⟨by have := h.d; show x.d ≤ never; unfold never; omega, by have := h.b; show x.b ≤ never; unfold never; omega⟩, by have := h.t; show x.t ≤ never; unfold never; omega⟩
  have h1 := h.s; have h2 := h.l
  have e : x.evt.e.key.length = x.s.size := rfl
  have e2 : x.evt.e.val.length = x.l.length := rfl
  omega
theorem textX_len (L : List EvX) (h : ∀ x ∈ L, x.In) : (textX L).length ≤ 400076 * L.length := by
  induction L with
  | nil => simp [textX]
  | cons x r ih =>
    have h1 := x.text_len (h x (by simp))
    have h2 := ih (fun y hy => h y (by simp [hy]))
    show ((x.evt.text ++ [10]) ++ textX r).length ≤ _
    rw [List.length_append, List.length_append, List.length_cons]
    simp only [List.length_cons, List.length_nil]
    omega
def allOk (L : List EvX) : Bool := L.all EvX.ok
theorem allOk_of {L : List EvX} (h : ∀ j (hj : j < L.length), (L[j]).ok = true) : allOk L = true := by
  unfold allOk
  rw [List.all_eq_true]
  intro x hx
  obtain ⟨j, hj, rfl⟩ := List.getElem_of_mem hx
  exact h j hj
theorem allOk_no {L : List EvX} (j : Nat) (hj : j < L.length) (h : (L[j]).ok = false) : allOk L = false := by
  cases e : allOk L with
  | false => rfl
  | true =>
    unfold allOk at e
    rw [List.all_eq_true] at e
    rw [e _ (List.getElem_mem hj)] at h
    cases h
abbrev IsB (B : Nat) (l : List UInt8) (w : World) : Prop := Lib.IsBuilder 98 5 B B (Lib.byteCells l) w
theorem IsB.new (w : World) : IsB w.heap.size [] (w.alloc (.cells #[.pointer none, .slice none 0 0] 98)) :=
  Or.inl ⟨Nat.le_refl _, .slice none 0 0, newblk _ _, World.ownsRow_nil _ _ _ _, by simp [Value.ownBlock]⟩
theorem ownsRow_ext {w w' : World} (hb : Ext w w') {base : Nat} {e : TypeId} {size : Nat} {v : Value} {n : Nat} {xs : List Value} (h : w.ownsRow base e size v n xs) : w'.ownsRow base e size v n xs := by
  refine ⟨h.1, ?_⟩
  rcases h.2 with h2 | ⟨g, cap, cur, hv, hb1, hg, r⟩
  · exact Or.inl h2
  · exact Or.inr ⟨g, cap, cur, hv, hb1, (hb.block g (Array.getElem?_eq_some_iff.1 hg).1).trans hg, r⟩
theorem IsBs.ext {B : Nat} {cs : List Value} {w w' : World} (hb : Ext w w') (h : Lib.IsBuilder 98 5 B B cs w) : Lib.IsBuilder 98 5 B B cs w' := by
  rcases h with ⟨h1, v, h2, h3, h4⟩ | ⟨h1, v, h2, h3, h4⟩
  · exact Or.inl ⟨h1, v, Ext.blk hb h2, ownsRow_ext hb h3, h4⟩
  · exact Or.inr ⟨h1, v, Ext.blk hb h2, ownsRow_ext hb h3, h4⟩
theorem byteCells_snoc (l : List UInt8) (c : UInt8) : Lib.byteCells l ++ [.int .u8 (c.toNat : Int)] = Lib.byteCells (l ++ [c]) := by
  rw [Lib.byteCells_append]; rfl

/-- What Write returns. -/
def WPost (w : World) (L : List EvX) (e : Ending) (w' : World) : Prop :=
  e = .returned (if allOk L then (if L.length ≤ 10000 then .tuple #[.string (bs (textX L)), .int .i64 0] else .tuple #[.string ⟨#[]⟩, .int .i64 7]) else .tuple #[.string ⟨#[]⟩, .int .i64 2]) ∧ Ext w w'
set_option maxRecDepth 100000 in
set_option maxHeartbeats 8000000 in
theorem write_any (v : Value) (L : List EvX) (w : World) (hX : Xs w v L) (hw : EnvV w) : Calls Tryd.prog 30 #[v] w (WPost w L) := by
  obtain ⟨a, c, rfl, hL1, hLc, hC, hAt⟩ := hX
  have HA := Box.mk hAt; have HC := Box.mk hC; have HW := Box.mk hw
  have hx0 : Ext w (w.alloc (.cells #[.pointer none, .slice none 0 0] 98)) := Ext.alloc (Below.refl _ _) _
  have hB0 := Box.mk (IsB.new w)
  obtain ⟨Post, hPost⟩ : ∃ P, P = WPost w L := ⟨_, rfl⟩
  rw [← hPost]
  have HP := Box.mk hPost
  clear hAt hC hw hPost
  go_enter Tryd.func30, Tryd.ntmps30
  go_wp2
  go_loopw [11] (fun i wr => ∃ k : Nat, k ≤ L.length ∧ i = .int .i64 k ∧ Box (∀ j (hj : j < L.length), j < k → (L[j]).ok = true) ∧ IsB w.heap.size (textX (L.take k)) wr ∧ Box (Ext w wr) ∧ w.heap.size < wr.heap.size) (fun i _ => L.length - (intOf i).toNat)
  case atStart => exact ⟨0, by omega, rfl, ⟨fun j _ hj => by omega⟩, hB0.out, ⟨hx0⟩, by simp⟩
  case round =>
    obtain ⟨k, hk, rfl, hok, hB, hx, hz⟩ := hrel
    by_cases hkl : k < L.length
    · obtain ⟨bb, o, rfl, p0, p1, p2, p3, p4, p5⟩ := Xs.row (CellsAt.ext hx.out HC.out) k hkl
      obtain ⟨hin, ⟨x1, y1, hu⟩, hby⟩ := HA.out L[k] (List.getElem_mem hkl)
      have hin' := Box.mk hin
      have hs1 := hin.s; have hl1 := hin.l; have hb1 := hin.b; have hd1 := hin.d; have ht1 := hin.t
      have hsn := Box.mk (textX_snoc L k hkl)
      have htl := (L[k]).text_len hin
      have hTl := textX_len (L.take k) (fun x hx => (HA.out x (List.mem_of_mem_take hx)).1)
      rw [List.length_take] at hTl
      have hTl2 : (textX (L.take k)).length + 400076 + 1 ≤ 140737488355328 := by omega
      rw [hu] at p2 hby
      cases hk2 : (L[k]).ok with
      | false =>
        have hno := Box.mk (allOk_no k hkl hk2)
        have ct : Box _ := ⟨fun w => vtext_bad (L[k]).k (L[k]).s x1 (L[k]).l.length y1 (L[k]).b (L[k]).d (L[k]).t w (by omega) (by omega) hb1 hd1 ht1 hk2⟩
        generalize L[k] = x at *
        have hx1 := Ext.alloc hx.out (.cells #[.int .i64 x.k, .string x.s, .slice x1 x.l.length y1, .int .u64 x.b, .int .u64 x.d, .int .u64 x.t] 28)
        clear hin hs1 hl1 hb1 hd1 ht1 htl hTl hTl2 hk2 hby hB
        go_wp2_with (first
          | (go_at_call 45; (with_reducible refine (ct.out _).mono ?_); rintro e w1 ⟨rfl, hb⟩; have hx1 := Ext.trans' hx1 hb))
        rw [HP.out]
        unfold WPost
        rw [hno.out]
        exact ⟨rfl, hx1⟩
      | true =>
        have ct : Box (∀ w', Ext w w' → Calls Tryd.prog 45 #[.agg #[.int .i64 (L[k]).k, .string (L[k]).s, .slice x1 (L[k]).l.length y1, .int .u64 (L[k]).b, .int .u64 (L[k]).d, .int .u64 (L[k]).t]] w' fun e w'' => e = .returned (.tuple #[.string (bs (L[k]).evt.text), .int .i64 0]) ∧ Ext w' w'') := ⟨fun w' h => vtext_ok (L[k]).k (L[k]).s x1 (L[k]).l y1 (L[k]).b (L[k]).d (L[k]).t w' hs1 hl1 hb1 hd1 ht1 hk2 (hby.ext h) (HW.out.ext h)⟩
        have hok2 : Box (∀ j (hj : j < L.length), j < k + 1 → (L[j]).ok = true) := ⟨fun j hj hjk => by
          by_cases e : j = k
          · subst e; exact hk2
          · exact hok.out j hj (by omega)⟩
        generalize L[k] = x at *
        generalize textX (L.take k) = T0 at *
        have cW : Box (∀ wr, IsB w.heap.size T0 wr → w.heap.size < wr.heap.size → _) := ⟨fun wr h hz => writeString_any w.heap.size w.heap.size T0 (bs x.evt.text) wr h (by rw [bs_size]; omega) (by omega)⟩
        have cB : Box (∀ wr, IsB w.heap.size (T0 ++ (bs x.evt.text).data.toList) wr → w.heap.size < wr.heap.size → _) := ⟨fun wr h hz => writeByte_any w.heap.size w.heap.size (Lib.byteCells (T0 ++ (bs x.evt.text).data.toList)) 10 wr h (by rw [Lib.byteCells_length, List.length_append, bs_list]; omega) (by omega)⟩
        have hfin : Box (Lib.byteCells (T0 ++ (bs x.evt.text).data.toList) ++ [.int .u8 10] = Lib.byteCells (textX (L.take (k + 1)))) := ⟨by rw [hsn.out, bs_list]; exact byteCells_snoc (T0 ++ x.evt.text) 10⟩
        generalize bs x.evt.text = tx at *
        have hx1 := Ext.alloc hx.out (.cells #[.int .i64 x.k, .string x.s, .slice x1 x.l.length y1, .int .u64 x.b, .int .u64 x.d, .int .u64 x.t] 28)
        have hB1 := IsBs.ext (Ext.alloc (Below.refl _ _) (.cells #[.int .i64 x.k, .string x.s, .slice x1 x.l.length y1, .int .u64 x.b, .int .u64 x.d, .int .u64 x.t] 28)) hB
        have hz1 : w.heap.size < (wr.alloc (.cells #[.int .i64 x.k, .string x.s, .slice x1 x.l.length y1, .int .u64 x.b, .int .u64 x.d, .int .u64 x.t] 28)).heap.size := by simp; omega
        clear hin hs1 hl1 hb1 hd1 ht1 htl hTl hTl2 hk2 hby hB hok hsn
        go_wp2_with (first
          | (go_at_call 45; (with_reducible refine (ct.out _ hx1).mono ?_); rintro e w1 ⟨rfl, hb⟩; have hx1 := Ext.trans' hx1 hb; have hB1 := IsBs.ext hb hB1; have hz1 := Nat.lt_of_lt_of_le hz1 hb.size)
          | (go_at_call 57; (with_reducible refine (cW.out _ hB1 hz1).mono ?_); rintro e w2 ⟨rfl, hB1, hb⟩; have hx1 := Below.trans hx1 hb; have hz1 := Nat.lt_of_lt_of_le hz1 hb.size)
          | (go_at_call 58; (with_reducible refine (cB.out _ hB1 hz1).mono ?_); rintro e w2 ⟨rfl, hB1, hb⟩; have hx1 := Below.trans hx1 hb; have hz1 := Nat.lt_of_lt_of_le hz1 hb.size))
        go_roundw
        case rel => exact ⟨k + 1, by omega, by go_num, hok2, by unfold IsB; rw [← hfin.out]; exact hB1, ⟨hx1⟩, hz1⟩
        case measure => simp [intOf]; omega
    · obtain rfl : k = L.length := by omega
      have hyes := Box.mk (allOk_of (L := L) fun j hj => hok.out j hj hj)
      rw [List.take_length] at hB
      have cS := Box.mk (Tryd.Builder_String_any w.heap.size w.heap.size (textX L) wr hB (by omega))
      have hx1 := hx.out
      by_cases hn : L.length ≤ 10000
      · have d1 : decide (10000 < (L.length : Int)) = false := decide_eq_false (by omega)
        have d2 : decide (10000 < L.length) = false := decide_eq_false (by omega)
        have HN := Box.mk hn
        clear hB hn hok
        go_wp2_with (first | (go_at_call 59; (with_reducible refine cS.out.mono ?_); rintro e w1 ⟨rfl, hb⟩; have hx1 := Below.trans hx1 hb))
        rw [HP.out]
        unfold WPost
        rw [hyes.out, if_pos rfl, if_pos HN.out]
        exact ⟨rfl, hx1⟩
      · have d1 : decide (10000 < (L.length : Int)) = true := decide_eq_true (by omega)
        have d2 : decide (10000 < L.length) = true := decide_eq_true (by omega)
        have HN := Box.mk hn
        clear hB hn hok
        go_wp2
        rw [HP.out]
        unfold WPost
        rw [hyes.out, if_pos rfl, if_neg HN.out]
        exact ⟨rfl, hx1⟩
theorem dd_no10 (n : Nat) : ∀ c ∈ Lib.decDigits n, c ≠ 10 := fun c hc e => by
  have := dd_digit n c hc
  subst e
  simp at this
theorem txtL_no10 (n : Nat) : ∀ c ∈ txtL n, c ≠ 10 := by
  intro c hc
  unfold txtL at hc
  split at hc
  · intro e; subst e; revert hc; decide
  · exact dd_no10 n c hc
theorem wordV_no10 (k : Nat) : ∀ c ∈ wordV k, c ≠ 10 := by
  intro c hc e
  subst e
  unfold wordV at hc
  split at hc <;> revert hc <;> decide
theorem hexD_no10 (n : Nat) (h : n < 16) : hexD n ≠ 10 := by
  have : ∀ n : Fin 16, hexD n.val ≠ 10 := by decide
  exact this ⟨n, h⟩
theorem hexP_no10 (l : List UInt8) : ∀ c ∈ hexP l, c ≠ 10 := by
  induction l with
  | nil => intro c hc; cases hc
  | cons b r ih =>
    intro c hc
    have hb := b.toNat_lt
    rw [hexP_cons] at hc
    rcases List.mem_cons.1 hc with rfl | hc
    · exact hexD_no10 _ (by omega)
    · rcases List.mem_cons.1 hc with rfl | hc
      · exact hexD_no10 _ (by omega)
      · exact ih c hc
theorem hexL_no10 (l : List UInt8) : ∀ c ∈ hexL l, c ≠ 10 := by
  intro c hc
  unfold hexL at hc
  split at hc
  · intro e; subst e; revert hc; decide
  · exact hexP_no10 l c hc
theorem text_no10 (v : Evt) : ∀ c ∈ v.text, c ≠ 10 := by
  intro c hc
  unfold Evt.text Ent.text at hc
  simp only [List.mem_append, List.mem_cons] at hc
  rcases hc with h | h | h | h | h | h | h | h | h | h | h
  all_goals first
    | exact txtL_no10 _ c h
    | exact wordV_no10 _ c h
    | exact dd_no10 _ c h
    | exact hexL_no10 _ c h
    | (subst h; decide)
/-- The lines of events. -/
def textE (M : List Evt) : List UInt8 := M.flatMap fun v => v.text ++ [10]
theorem textE_cons (v : Evt) (M : List Evt) : textE (v :: M) = v.text ++ 10 :: textE M := by
  show (v.text ++ [10]) ++ textE M = _
  simp
theorem textX_E (L : List EvX) : textX L = textE (L.map EvX.evt) := by
  unfold textX textE
  rw [List.flatMap_map]
theorem textE_nil {M : List Evt} (h : textE M = []) : M = [] := by
  cases M with
  | nil => rfl
  | cons v r => rw [textE_cons] at h; simp at h
theorem cA_line (v : Evt) (r : List UInt8) : cA 10 (v.text ++ 10 :: r) = v.text ∧ cZ 10 (v.text ++ 10 :: r) = r ∧ cF 10 (v.text ++ 10 :: r) = true :=
  ⟨cA_at 10 _ _ (text_no10 v), cZ_at 10 _ _ (text_no10 v), cF_at 10 _ _⟩
theorem Evt.tlen {v : Evt} (h : v.In) (hf : v.fine = true) : v.text.length ≤ 131700 := by
  have h1 := v.text_len h
  have hk := (Evt.fine_k hf).2.2
  unfold Ent.fine at hk
  simp only [Bool.and_eq_true, decide_eq_true_eq] at hk
  omega
/-- An event in memory that says v. -/
def ofEvt (v : Evt) (u : Value) : EvX := ⟨v.kind, bs v.e.key, u, v.e.val, v.e.birth, v.e.dl, v.now⟩
theorem ofEvt_evt (v : Evt) (u : Value) : (ofEvt v u).evt = v := by
  unfold ofEvt EvX.evt
  simp only [Int.toNat_natCast, bs_list]
theorem ofEvt_in {v : Evt} (h : v.In) (hf : v.fine = true) (u : Value) : (ofEvt v u).In := by
  obtain ⟨h1, h2⟩ := Evt.sizes hf
  have h3 := h.e.birth; have h4 := h.e.dl; have h5 := h.now
  unfold never at h3 h4 h5
  exact ⟨by show (bs v.e.key).size ≤ _; omega, by show v.e.val.length ≤ _; omega, by show v.e.birth < _; omega, by show v.e.dl < _; omega, by show v.now < _; omega⟩
theorem ofEvt_ok {v : Evt} (hf : v.fine = true) (u : Value) : (ofEvt v u).ok = true := by
  show okV (v.kind : Int) (bs v.e.key).size v.e.val.length v.e.birth v.e.dl v.now = true
  rw [bs_size, ok_fine]
  exact hf
theorem evt_of_ok {x : EvX} (h : x.ok = true) (hi : x.In) : x.evt.fine = true ∧ x.evt.In ∧ (x.k = x.evt.kind) := by
  obtain ⟨⟨j, hj, h1, h5⟩, _⟩ := okV_parts h
  have hk : x.k = (x.k.toNat : Int) := by omega
  have h' : okV (x.k.toNat : Int) x.s.data.toList.length x.l.length x.b x.d x.t = true := by rw [← hk]; exact h
  rw [ok_fine] at h'
  have := hi.b; have := hi.d; have := hi.t
  exact ⟨h', ⟨⟨by show x.d ≤ never; unfold never; omega, by show x.b ≤ never; unfold never; omega⟩, by show x.t ≤ never; unfold never; omega⟩, hk⟩
/-- What Read returns of the lines of fine events. -/
def RdPost (w : World) (M : List Evt) (e : Ending) (w' : World) : Prop :=
  ∃ v L, e = .returned (.tuple #[v, .int .i64 0, .int .i64 0]) ∧ Xs w' v L ∧ L.map EvX.evt = M ∧ (∀ x ∈ L, x.ok = true) ∧ Ext w w'
theorem infoEvt : (Tryd.prog.info? 28).map (fun i => (i.zero, i.size, i.bytes)) = some (some (.agg #[.int .i64 0, .string ⟨#[]⟩, .slice none 0 0, .int .u64 0, .int .u64 0, .int .u64 0]), 6, 72) := by kernel_rfl
theorem row_block {w : World} {base : Nat} {e : TypeId} {size : Nat} {v : Value} {n : Nat} {xs : List Value} (h : w.ownsRow base e size v n xs) : ∀ g, v.ownBlock = some g → ∃ cs, w.heap[g]? = some (.cells cs e (0, 0)) := by
  intro g hg
  rcases h.2 with ⟨rfl, _⟩ | ⟨b, cap, cur, rfl, _, hb, _⟩
  · simp [Value.ownBlock] at hg
  · simp only [Value.ownBlock, Option.some.injEq] at hg
    subst hg
    exact ⟨_, hb⟩
theorem OwnB.grow {B : Nat} {w w' : World} {v : Value} {l : List UInt8} {row : Option Nat} (h : OwnB B w v l) (hg : w.grownBy w' row) (hr : ∀ g, row = some g → ∃ cs T, w.heap[g]? = some (.cells cs T (0, 0)) ∧ T ≠ 5) : OwnB B w' v l := by
  refine ⟨h.1, ?_⟩
  rcases h.2 with h2 | ⟨g, cap, cur, hv, hb1, hb, r⟩
  · exact Or.inl h2
  · refine Or.inr ⟨g, cap, cur, hv, hb1, (hg.block g (Array.getElem?_eq_some_iff.1 hb).1 (fun e => ?_)).trans hb, r⟩
    obtain ⟨cs, T, h1, h2⟩ := hr g e.symm
    rw [hb] at h1
    cases h1
    exact h2 rfl
theorem row_no {w : World} {v : Value} (h : ∀ g, v.ownBlock = some g → ∃ cs, w.heap[g]? = some (.cells cs 28 (0, 0))) : ∀ g, v.ownBlock = some g → ∃ cs T, w.heap[g]? = some (.cells cs T (0, 0)) ∧ T ≠ 5 := fun g hg => by
  obtain ⟨cs, h1⟩ := h g hg
  exact ⟨cs, 28, h1, by decide⟩
set_option maxRecDepth 100000 in
set_option maxHeartbeats 8000000 in
theorem read_any (M : List Evt) (w : World) (hM : M.length ≤ 10000) (hin : ∀ v ∈ M, v.In ∧ v.fine = true) (hw : EnvV w) : Calls Tryd.prog 31 #[.string (bs (textE M))] w (RdPost w M) := by
  obtain ⟨i0, hi, hz0, hz1, hz2⟩ := info_parts infoEvt
  have HI := Box.mk hin; have HW := Box.mk hw; have HM := Box.mk hM
  obtain ⟨Post, hPost⟩ : ∃ P, P = RdPost w M := ⟨_, rfl⟩
  rw [← hPost]
  have HP := Box.mk hPost
  have hlen : Box (∀ t, t ≤ M.length → (textE (M.drop t)).length ≤ 131701 * 10000) := ⟨fun t ht => by
    have : ∀ N : List Evt, (∀ v ∈ N, v.In ∧ v.fine = true) → (textE N).length ≤ 131701 * N.length := by
      intro N
      induction N with
      | nil => intro _; simp [textE]
      | cons v r ih =>
        intro h
        have h1 := Evt.tlen (h v (by simp)).1 (h v (by simp)).2
        have h2 := ih (fun y hy => h y (by simp [hy]))
        rw [textE_cons, List.length_append, List.length_cons, List.length_cons]
        omega
    have h1 := this (M.drop t) (fun v hv => hin v (List.mem_of_mem_drop hv))
    rw [List.length_drop] at h1
    omega⟩
  clear hin hw hPost
  go_enter Tryd.func31, Tryd.ntmps31
  go_wp2
  go_loopw [0, 5] (fun sv ov wr => ∃ t : Nat, t ≤ M.length ∧ sv = .string (bs (textE (M.drop t))) ∧ ∃ L : List EvX, Box (L.length = t) ∧ wr.ownsRow w.heap.size 28 6 ov t (xs L) ∧ Box (∀ x ∈ L, x.In ∧ OwnB w.heap.size wr x.u x.l ∧ x.ok = true) ∧ Box (L.map EvX.evt = M.take t) ∧ Box (Ext w wr)) (fun _ ov _ => match ov with | .slice _ t _ => M.length - t | _ => 0)
  case atStart => exact ⟨0, by omega, rfl, [], ⟨rfl⟩, World.ownsRow_nil _ _ _ _, ⟨fun x hx => by cases hx⟩, ⟨rfl⟩, ⟨Below.refl _ _⟩⟩
  case round =>
    obtain ⟨t, htM, rfl, L, hLt, hown, hAt, hmap, hx⟩ := hrel
    obtain ⟨a, c, rfl⟩ := row_shape hown
    by_cases htl : t < M.length
    · have hd : Box (textE (M.drop t) = (M[t]).text ++ 10 :: textE (M.drop (t + 1))) := ⟨by rw [List.drop_eq_getElem_cons htl, textE_cons]⟩
      obtain ⟨hvi, hvf⟩ := HI.out M[t] (List.getElem_mem htl)
      have htl9 := Evt.tlen hvi hvf
      have hb9 := hlen.out t htM
      have e0 : ((bs (textE (M.drop t))).toList == (⟨#[]⟩ : ByteArray).toList) = false := by
        rw [Lib.toList_data, Lib.toList_data, bs_list, hd.out]; simp
      have e1 : ((bs (textE (M.drop t))).toList == []) = false := ne_test _ [] (by rw [bs_list, hd.out]; simp)
      have c1 : Box (∀ w', Calls Tryd.prog 60 #[.string (bs (textE (M.drop t))), .string ⟨#[10]⟩] w' fun e w'' => e = .returned (.tuple #[.string (bs (M[t]).text), .string (bs (textE (M.drop (t + 1)))), .bool true]) ∧ Ext w' w'') := ⟨fun w' => by
        have h := xcut_any 10 (bs (textE (M.drop t))) w' (by rw [bs_size]; omega)
        rw [bs_list, hd.out, (cA_line _ _).1, (cA_line _ _).2.1, (cA_line _ _).2.2, ← hd.out] at h
        exact h⟩
      have c2 : Box (∀ w', Ext w w' → Calls Tryd.prog 40 #[.string (bs (M[t]).text)] w' fun e w'' => ∃ a c, e = .returned (.tuple #[.agg #[.int .i64 (M[t]).kind, .string (bs (M[t]).e.key), .slice a (M[t]).e.val.length c, .int .u64 (M[t]).e.birth, .int .u64 (M[t]).e.dl, .int .u64 (M[t]).now], .int .i64 0]) ∧ OwnB w.heap.size w'' (.slice a (M[t]).e.val.length c) (M[t]).e.val ∧ Ext w' w'') := ⟨fun w' hx => (vparse_any (bs (M[t]).text) w' (by rw [bs_size]; omega) (HW.out.ext hx)).mono fun e w'' hq => by
        rw [bs_list, parseV_text _ hvi hvf] at hq
        obtain ⟨v', h1, h2, h3, h4⟩ := hq
        obtain ⟨a, c, rfl⟩ := h4.shape
        exact ⟨a, c, h1, h4.mono hx.size, h3⟩⟩
      have hok := Box.mk (fun u => ofEvt_ok (v := M[t]) hvf u)
      have hinx := Box.mk (fun u => ofEvt_in hvi hvf u)
      have hmp : Box (∀ u, (L ++ [ofEvt M[t] u]).map EvX.evt = M.take (t + 1)) := ⟨fun u => by rw [List.map_append, hmap.out, List.take_succ_eq_append_getElem htl, List.map_cons, List.map_nil, ofEvt_evt]⟩
      have hxc : Box (∀ u, xs (L ++ [ofEvt M[t] u]) = xs L ++ [.int .i64 (M[t]).kind, .string (bs (M[t]).e.key), u, .int .u64 (M[t]).e.birth, .int .u64 (M[t]).e.dl, .int .u64 (M[t]).now]) := ⟨fun u => by rw [xs_app]; rfl⟩
      have hofu : Box (∀ u, (ofEvt M[t] u).u = u ∧ (ofEvt M[t] u).l = (M[t]).e.val) := ⟨fun u => ⟨rfl, rfl⟩⟩
      generalize hfx : (fun u => ofEvt M[t] u) = F at *
      have hofx : ∀ u, ofEvt M[t] u = F u := fun u => congrFun hfx u
      simp only [hofx] at hok hinx hmp hxc hofu
      generalize bs (textE (M.drop t)) = s0 at *
      generalize hs1 : bs (textE (M.drop (t + 1))) = s1 at *
      have HS1 := Box.mk hs1
      clear hs1
      generalize M[t] = v at *
      generalize bs v.text = tx at *
      have n1 : ((t : Int) == 10000) = false := by rw [beq_eq_false_iff_ne]; have := HM.out; omega
      have hx1 := Box.mk hx.out
      have hg : ∀ w', Ext wr w' → w'.ownsRow w.heap.size 28 6 (.slice a t c) t (xs L) := fun w' h => ownsRow_ext h hown
      have HG := Box.mk hg
      have hbyte : (t + 1) * 72 ≤ 140737488355328 := by have := HM.out; omega
      have hxw : Ext wr wr := Below.refl _ _
      clear hvi hvf htl9 hb9 hd hown hg hofx hfx
      go_wp2_with (first
        | (go_at_call 60; (with_reducible refine (c1.out _).mono ?_); rintro e w1 ⟨rfl, hb⟩; have hxw := Ext.trans' hxw hb)
        | (go_at_call 40; (with_reducible refine (c2.out _ (Ext.trans' hx1.out hxw)).mono ?_); rintro e w2 ⟨pa, pc, rfl, hv, hb⟩; have hxw := Ext.trans' hxw hb; have hxz := Ext.alloc hxw (.cells #[.int .i64 v.kind, .string (bs v.e.key), .slice pa v.e.val.length pc, .int .u64 v.e.birth, .int .u64 v.e.dl, .int .u64 v.now] 28); have hown2 := HG.out _ hxz; have hV := Box.mk (OwnB.ext hv (Ext.alloc (Below.refl _ _) (.cells #[.int .i64 v.kind, .string (bs v.e.key), .slice pa v.e.val.length pc, .int .u64 v.e.birth, .int .u64 v.e.dl, .int .u64 v.now] 28))); have HZ := Box.mk (Ext.trans' hx1.out hxz); have HZr := Box.mk hxz; have hzz := (Ext.trans' hx1.out hxz).size; have HRB := Box.mk (row_block hown2); clear hv hb hxw hxz)
        | (at_builtin; (refine wpList_push rfl _ _ 41 rfl w.heap.size 28 i0 _ 6 72 Tryd.underlying41 hi hz0 hz1 hz2 rfl (by decide) _ _ _ rfl hown2 [.int .i64 v.kind, .string (bs v.e.key), .slice pa v.e.val.length pc, .int .u64 v.e.birth, .int .u64 v.e.dl, .int .u64 v.now] (by rw [World.size_alloc]; rfl) rfl (by simp [Value.oneCell']) (by omega) hbyte hzz ?_); intro v1 w3 hown3 hg3 hbel3 hs3))
      rw [← hxc.out] at hown3
      obtain ⟨a3, c3, rfl⟩ := row_shape hown3
      have hr3 : Ext w w3 := Below.trans HZ.out hbel3
      refine ⟨⟨t + 1, by omega, by rw [HS1.out], _, ⟨by rw [List.length_append, hLt.out]; rfl⟩, hown3, ⟨?_⟩, ⟨hmp.out _⟩, ⟨hr3⟩⟩, by simp only; omega⟩
      have hrow := row_no HRB.out
      intro x hx
      rcases List.mem_append.1 hx with hx | hx
      · obtain ⟨q1, q2, q3⟩ := hAt.out x hx
        exact ⟨q1, (q2.ext HZr.out).grow hg3 hrow, q3⟩
      · simp only [List.mem_singleton] at hx
        subst hx
        refine ⟨hinx.out _, ?_, hok.out _⟩
        rw [(hofu.out _).1, (hofu.out _).2]
        exact hV.out.grow hg3 hrow
    · obtain rfl : t = M.length := by omega
      have hnil : bs (textE (M.drop M.length)) = ⟨#[]⟩ := by rw [List.drop_length]; rfl
      rw [hnil]
      have hX : Xs wr (.slice a M.length c) L := by
        rw [← hLt.out] at hown ⊢
        exact Xs.of_row hown (by rw [hLt.out]; omega) (fun x hx => by
          obtain ⟨q1, q2, q3⟩ := hAt.out x hx
          exact ⟨q1, q2.shape, q2.by (by have := q1.l; omega)⟩)
      have HX := Box.mk hX
      have hmp : Box (L.map EvX.evt = M) := ⟨by rw [hmap.out, List.take_length]⟩
      clear hX hown hnil
      go_wp2
      rw [HP.out]
      exact ⟨_, L, rfl, HX.out, hmp.out, fun x hx => (hAt.out x hx).2.2, hx.out⟩
structure EvI where
  k : Int
  s : ByteArray
  u : Value
  b : Nat
  d : Nat
  t : Nat
instance : Inhabited EvI := ⟨⟨0, ⟨#[]⟩, .slice none 0 0, 0, 0, 0⟩⟩
def iC (x : EvI) : List Value := [.int .i64 x.k, .string x.s, x.u, .int .u64 x.b, .int .u64 x.d, .int .u64 x.t]
structure EvI.Wf (W : World) (x : EvI) : Prop where
  k : -9223372036854775808 ≤ x.k ∧ x.k ≤ 9223372036854775807
  s : x.s.size ≤ 9223372036854775807
  u : IntsArg .u8 W x.u
  b : x.b < 18446744073709551616
  d : x.d < 18446744073709551616
  t : x.t < 18446744073709551616
def ixs (L : List EvI) : List Value := L.flatMap iC
/-- A slice of events that came in. -/
def EvsArg (W : World) (v : Value) (L : List EvI) : Prop :=
  ∃ a c, v = .slice a L.length c ∧ L.length ≤ c ∧ c ≤ 9223372036854775807 ∧ CellsAt W a (ixs L) ∧ ∀ x ∈ L, x.Wf W
theorem ixs_len (L : List EvI) : (ixs L).length = 6 * L.length := by
  induction L with
  | nil => rfl
  | cons m r ih =>
    show (iC m ++ ixs r).length = _
    rw [List.length_append, ih]
    simp [iC]; omega
theorem ixs_at (L : List EvI) (i j : Nat) (hi : i < L.length) (hj : j < 6) : (ixs L)[6 * i + j]? = (iC L[i])[j]? := by
  induction L generalizing i with
  | nil => simp at hi
  | cons m r ih =>
    show (iC m ++ ixs r)[6 * i + j]? = _
    cases i with
    | zero =>
      rw [List.getElem?_append_left (by simp [iC]; omega)]
      simp
    | succ i =>
      rw [List.getElem?_append_right (by simp [iC]; omega)]
      have e : 6 * (i + 1) + j - (iC m).length = 6 * i + j := by simp [iC]; omega
      rw [e, ih i (by simpa using hi)]
      rfl
theorem ixs_row {w : World} {a : Option Addr} {L : List EvI} (hc : CellsAt w a (ixs L)) (i : Nat) (hi : i < L.length) : ∃ b o, a = some ⟨b, o, none⟩ ∧
    w.cell? ⟨b, o + i * 6, none⟩ = some (.int .i64 L[i].k) ∧ w.cell? ⟨b, o + i * 6 + 1, none⟩ = some (.string L[i].s) ∧ w.cell? ⟨b, o + i * 6 + 2, none⟩ = some L[i].u ∧ w.cell? ⟨b, o + i * 6 + 3, none⟩ = some (.int .u64 L[i].b) ∧ w.cell? ⟨b, o + i * 6 + 4, none⟩ = some (.int .u64 L[i].d) ∧ w.cell? ⟨b, o + i * 6 + 5, none⟩ = some (.int .u64 L[i].t) := by
  obtain ⟨b, o, ha, h0⟩ := hc (6 * i + 0) _ (ixs_at L i 0 hi (by omega))
  have hh : ∀ j u, j < 6 → (iC L[i])[j]? = some u → w.cell? ⟨b, o + i * 6 + j, none⟩ = some u := fun j u hj hu => by
    obtain ⟨b', o', ha', h'⟩ := hc (6 * i + j) u ((ixs_at L i j hi hj).trans hu)
    rw [ha] at ha'
    cases ha'
    rw [Nat.mul_comm i 6, Nat.add_assoc]
    exact h'
  exact ⟨b, o, ha, hh 0 _ (by omega) rfl, hh 1 _ (by omega) rfl, hh 2 _ (by omega) rfl, hh 3 _ (by omega) rfl, hh 4 _ (by omega) rfl, hh 5 _ (by omega) rfl⟩

theorem flat_cells {P : Program} {H : Type} {enc : TypeId × Value → H} {t : TypeId} {fs : Array Field} {base : Nat} {W : World} {cs : List Value} {x : DataW H × List MemPlace} {fuel : Nat} {sp : Nat → Bool} {held : Bool}
    (hs : P.underlying t = some (.struct fs)) (hone : Deep.oneCellFields P fs = true) (hsz : cs.length = fs.size) (hf : DataW.trod enc P W base sp held fuel t cs = some x) :
    ∀ (i : Nat) (f : Field), fs[i]? = some f → ∃ c y n, cs[i]? = some c ∧ DataW.trod enc P W base sp held n f.type [c] = some y := by
  obtain ⟨xs, n, _, _, hl, hxl, hall⟩ := DataW.trod_struct hs hf
  intro i f hi
  have h1 := hall i f hi
  have hif : i < fs.size := (Array.getElem?_eq_some_iff.1 hi).1
  have hk : f.offset = i ∧ P.cellsOf f.type = 1 := by
    unfold Deep.oneCellFields at hone
    have := List.all_eq_true.1 hone i (by simpa using hif)
    simp only [hi, Bool.and_eq_true, beq_iff_eq] at this
    exact this
  rw [hk.1, hk.2] at h1
  obtain ⟨b, hb⟩ : ∃ b, xs[i]? = some b := ⟨xs[i]'(by omega), List.getElem?_eq_getElem (by omega)⟩
  have hic : i < cs.length := by omega
  have hc : ((cs.drop i).take 1) = [cs[i]] := by
    rw [List.drop_eq_getElem_cons hic, List.take_succ_cons, List.take_zero]
  rw [hb, hc] at h1
  exact ⟨cs[i], b, n, List.getElem?_eq_getElem hic, h1⟩
theorem evi_of_trod {P : Program} {H : Type} {enc : TypeId × Value → H} {t e : TypeId} {f0 f1 f2 f3 f4 f5 : Field} {W : World} {cs : List Value} {x : DataW H × List MemPlace} {fuel : Nat}
    (hs : P.underlying t = some (.struct #[f0, f1, f2, f3, f4, f5])) (hone : Deep.oneCellFields P #[f0, f1, f2, f3, f4, f5] = true) (hz : cs.length = 6)
    (h0 : P.underlying f0.type = some (.int .i64)) (h1 : P.underlying f1.type = some .string) (h2 : P.underlying f2.type = some (.slice e)) (he : P.underlying e = some (.int .u8)) (hc : P.cellsOf e = 1)
    (h3 : P.underlying f3.type = some (.int .u64)) (h4 : P.underlying f4.type = some (.int .u64)) (h5 : P.underlying f5.type = some (.int .u64))
    (hf : DataW.trod enc P W 0 (fun _ => true) true fuel t cs = some x) : ∃ i : EvI, cs = iC i ∧ i.Wf W := by
  have hall := flat_cells hs hone hz hf
  obtain ⟨c0, y0, n0, q0, t0⟩ := hall 0 f0 rfl
  obtain ⟨c1, y1, n1, q1, t1⟩ := hall 1 f1 rfl
  obtain ⟨c2, y2, n2, q2, t2⟩ := hall 2 f2 rfl
  obtain ⟨c3, y3, n3, q3, t3⟩ := hall 3 f3 rfl
  obtain ⟨c4, y4, n4, q4, t4⟩ := hall 4 f4 rfl
  obtain ⟨c5, y5, n5, q5, t5⟩ := hall 5 f5 rfl
  have hcs : cs = [c0, c1, c2, c3, c4, c5] := by
    match cs, hz with
    | [_, _, _, _, _, _], _ => simp_all
  subst hcs
  obtain ⟨k, e0, _, w0⟩ := DataW.trod_int h0 t0
  obtain ⟨s, e1, _, hs0⟩ := DataW.trod_string h1 t1
  obtain ⟨b, e3, _, w3⟩ := DataW.trod_int h3 t3
  obtain ⟨d, e4, _, w4⟩ := DataW.trod_int h4 t4
  obtain ⟨z, e5, _, w5⟩ := DataW.trod_int h5 t5
  simp at e0 e1 e3 e4 e5
  subst e0 e1 e3 e4 e5
  unfold maxLen at hs0
  obtain ⟨b, rfl, hb⟩ := nat_of_u64 w3
  obtain ⟨d, rfl, hd⟩ := nat_of_u64 w4
  obtain ⟨z, rfl, hz9⟩ := nat_of_u64 w5
  have hk := wf_i64 w0
  exact ⟨⟨k, s, c2, b, d, z⟩, rfl, ⟨⟨by show _ ≤ k; omega, by show k ≤ _; omega⟩, hs0, ints_of_trod h2 he hc t2, hb, hd, hz9⟩⟩
theorem ixs_range (n : Nat) (q : Nat → EvI) (w : World) (a : Addr) (h : ∀ i, i < n → ∀ j u, (iC (q i))[j]? = some u → w.cell? (a.add (i * 6 + j)) = some u) :
    ∀ j u, (ixs ((List.range n).map q))[j]? = some u → w.cell? (a.add j) = some u := by
  intro j u hj
  have hlt : j < 6 * n := by
    have := (List.getElem?_eq_some_iff.1 hj).1
    rw [ixs_len] at this
    simpa using this
  have hd : 6 * (j / 6) + j % 6 = j := Nat.div_add_mod j 6
  have hi : j / 6 < ((List.range n).map q).length := by simp; omega
  have := ixs_at ((List.range n).map q) (j / 6) (j % 6) hi (Nat.mod_lt _ (by decide))
  rw [hd, hj] at this
  have h2 := h (j / 6) (by omega) (j % 6) u (by rw [this]; simp)
  rw [Nat.mul_comm, hd] at h2
  exact h2
theorem open_evs {P : Program} {H : Type} {enc : TypeId × Value → H} {ts t e : TypeId} {f0 f1 f2 f3 f4 f5 : Field} {base : Nat} {W : World} {v : Value} {d : DataW H} {p : List MemPlace}
    (ht : P.underlying ts = some (.slice t)) (hs : P.underlying t = some (.struct #[f0, f1, f2, f3, f4, f5])) (hone : Deep.oneCellFields P #[f0, f1, f2, f3, f4, f5] = true) (hC : P.cellsOf t = 6)
    (h0 : P.underlying f0.type = some (.int .i64)) (h1 : P.underlying f1.type = some .string) (h2 : P.underlying f2.type = some (.slice e)) (he : P.underlying e = some (.int .u8)) (hc : P.cellsOf e = 1)
    (h3 : P.underlying f3.type = some (.int .u64)) (h4 : P.underlying f4.type = some (.int .u64)) (h5 : P.underlying f5.type = some (.int .u64))
    (ho : Value.okWide P W .any base ts v) (h : DataW.Trod enc P W 0 (fun _ => true) true ts v d p) : ∃ L, EvsArg W v L := by
  obtain ⟨a0, len0, cap0, rfl⟩ := WideShapes.okWide_slice ht ho
  obtain ⟨fuel, hf⟩ := h
  rcases Deep.open_slice ht hf with ⟨hcs, _⟩ | ⟨a, len, cap, m, n, D, Pl, hcs, _, hl, hm, hmm, _, hx⟩
  · simp [Value.cells] at hcs
    obtain ⟨rfl, rfl, rfl⟩ := hcs
    exact ⟨[], none, 0, rfl, Nat.le_refl _, by decide, fun j u hj => by simp [ixs] at hj, fun x hx => by cases hx⟩
  · simp [Value.cells] at hcs
    obtain ⟨rfl, rfl, rfl⟩ := hcs
    have hlm : len0 ≤ m := by rw [hmm]; simp only; split <;> omega
    have each : ∀ i, i < len0 → ∃ x : EvI, x.Wf W ∧ ∀ j u, (iC x)[j]? = some u → W.cell? (a.add (i * 6 + j)) = some u := by
      intro i hi
      obtain ⟨cs', g1, g2⟩ := hx i (by omega)
      rw [hC] at g1
      obtain ⟨_, hlen, hcell⟩ := World.cells?_some g1
      obtain ⟨x, rfl, hw⟩ := evi_of_trod hs hone hlen h0 h1 h2 he hc h3 h4 h5 g2
      refine ⟨x, hw, fun j u hj => ?_⟩
      have hj6 : j < 6 := by have := (List.getElem?_eq_some_iff.1 hj).1; simpa [iC] using this
      have := hcell j hj6
      rw [Deep.add_add, hj] at this
      exact this
    obtain ⟨q, hq⟩ := Deep.choose_lt each
    refine ⟨(List.range len0).map q, some a, cap0, by simp, by simpa using hl, by unfold maxLen at hm; omega, cellsAt_of (ixs_range len0 q W a fun i hi => (hq i hi).2), ?_⟩
    intro x hx
    obtain ⟨i, hi, rfl⟩ := List.mem_map.1 hx
    exact (hq i (by simpa using hi)).1
/-- a light event -/
def EvI.light (x : EvI) : Prop := x.s.size ≤ 300 ∧ ∃ a n c, x.u = .slice a n c ∧ n ≤ 1000
theorem evi_x {W : World} {x : EvI} (h : x.Wf W) (hl : x.light) : ∃ y : EvX, xC y = iC x ∧ y.At W ∧ y.s.size ≤ 300 ∧ y.l.length ≤ 1000 := by
  obtain ⟨h1, a, n, c, hu, hn⟩ := hl
  obtain ⟨a', n', c', hu', hn', hby⟩ := by_of_ints h.u
  rw [hu'] at hu
  cases hu
  obtain ⟨l, rfl, hl⟩ := hby (by omega)
  refine ⟨⟨x.k, x.s, x.u, l, x.b, x.d, x.t⟩, rfl, ⟨⟨by show x.s.size ≤ _; omega, by show l.length ≤ _; omega, h.b, h.d, h.t⟩, ⟨_, _, hu'⟩, ?_⟩, h1, hn⟩
  show By W x.u l
  exact hl
theorem light_list {W : World} (L : List EvI) (h : ∀ x ∈ L, x.Wf W ∧ x.light) : ∃ M : List EvX, M.length = L.length ∧ xs M = ixs L ∧ ∀ y ∈ M, y.At W ∧ y.s.size ≤ 300 ∧ y.l.length ≤ 1000 := by
  induction L with
  | nil => exact ⟨[], rfl, rfl, fun y hy => by cases hy⟩
  | cons x r ih =>
    obtain ⟨M, h1, h2, h3⟩ := ih (fun y hy => h y (by simp [hy]))
    obtain ⟨y, g1, g2, g3, g4⟩ := evi_x (h x (by simp)).1 (h x (by simp)).2
    refine ⟨y :: M, by simp [h1], ?_, fun z hz => ?_⟩
    · show xC y ++ xs M = iC x ++ ixs r
      rw [g1, h2]
    · rcases List.mem_cons.1 hz with rfl | hz
      · exact ⟨g2, g3, g4⟩
      · exact h3 z hz
/-- A slice of at most so many light events, as a list of events in memory. -/
theorem EvsArg.few {W : World} {v : Value} {L : List EvI} (h : EvsArg W v L) (hl : L.length ≤ 1000) (hx : ∀ x ∈ L, x.light) : ∃ M : List EvX, M.length = L.length ∧ Xs W v M ∧ ∀ y ∈ M, y.s.size ≤ 300 ∧ y.l.length ≤ 1000 := by
  obtain ⟨a, c, rfl, h1, h2, h3, h4⟩ := h
  obtain ⟨M, g1, g2, g3⟩ := light_list L (fun x hm => ⟨h4 x hm, hx x hm⟩)
  refine ⟨M, g1, ⟨a, c, by rw [g1], by omega, by omega, by rw [g2]; exact h3, fun y hy => (g3 y hy).1⟩, fun y hy => (g3 y hy).2⟩
open Classical in
noncomputable def fewZ (L : List EvI) (most : Nat) : Bool := decide (L.length ≤ most ∧ ∀ x ∈ L, x.light)
open Classical in
theorem fewZ_yes {L : List EvI} {most : Nat} (h : fewZ L most = true) : L.length ≤ most ∧ ∀ x ∈ L, x.light := by
  unfold fewZ at h; exact of_decide_eq_true h
open Classical in
theorem fewZ_ok {L : List EvI} {most : Nat} (h : L.length ≤ most ∧ ∀ x ∈ L, x.light) : fewZ L most = true := by
  unfold fewZ; exact decide_eq_true h
open Classical in
theorem fewZ_no {L : List EvI} {most : Nat} (h : ¬ (L.length ≤ most ∧ ∀ x ∈ L, x.light)) : fewZ L most = false := by
  unfold fewZ; exact decide_eq_false h
set_option maxRecDepth 100000 in
set_option maxHeartbeats 4000000 in
theorem few_any (v : Value) (L : List EvI) (most : Nat) (W w : World) (hX : EvsArg W v L) (hm : most ≤ 100) (hx : Ext W w) :
    Calls Tryd.prog 29 #[v, .int .i64 most] w fun e w' => e = .returned (.bool (fewZ L most)) ∧ Ext w w' := by
  obtain ⟨a, c, rfl, hLc, hc, hC, hW⟩ := hX
  have HC := Box.mk (CellsAt.ext hx hC); have HW := Box.mk hW; have HX := Box.mk hx
  clear hC hW hx
  generalize hn : L.length = n at *
  have HN := Box.mk hn
  clear hn
  go_enter Tryd.func29, Tryd.ntmps29
  go_wp2
  go_loopw [5] (fun i wr => ∃ k : Nat, k ≤ n ∧ k ≤ most ∧ i = .int .i64 k ∧ Box (∀ j (hj : j < L.length), j < k → (L[j]).light) ∧ Box (Ext w wr)) (fun i _ => most - (intOf i).toNat)
  case atStart => exact ⟨0, by omega, by omega, rfl, ⟨fun j _ hj => by omega⟩, ⟨Below.refl _ _⟩⟩
  case round =>
    obtain ⟨k, hk, hkm, rfl, hl, hE⟩ := hrel
    by_cases hlt : k < n ∧ k < most
    · obtain ⟨hk1, hk2⟩ := hlt
      have hkL : k < L.length := by rw [HN.out]; exact hk1
      obtain ⟨bb, o, rfl, p0, p1, p2, p3, p4, p5⟩ := ixs_row (CellsAt.ext hE.out HC.out) k hkL
      have hwf := HW.out L[k] (List.getElem_mem hkL)
      obtain ⟨x1, m1, y1, hu, hm1, _⟩ := by_of_ints hwf.u
      have hs1 := hwf.s
      have d1 : decide ((k : Int) < (n : Int)) = true := decide_eq_true (by omega)
      have d2 : decide (k < n) = true := decide_eq_true hk1
      have d3 : decide ((k : Int) < (most : Int)) = true := decide_eq_true (by omega)
      have d4 : decide (k < most) = true := decide_eq_true hk2
      rw [hu] at p2
      have cl : Box _ := ⟨fun w => light_any (L[k]).k (L[k]).s x1 m1 y1 (L[k]).b (L[k]).d (L[k]).t w hs1 hm1⟩
      cases hz : lightB (L[k]).s.size m1 with
      | false =>
        have hno : Box (fewZ L most = false) := ⟨fewZ_no fun ⟨_, h⟩ => by
          obtain ⟨g1, a', n', c', g2, g3⟩ := h L[k] (List.getElem_mem hkL)
          rw [hu] at g2
          cases g2
          unfold lightB at hz
          rw [decide_eq_true g1, decide_eq_true g3] at hz
          cases hz⟩
        rw [hz] at cl
        have hx1 := hE.out
        generalize L[k] = x at *
        clear hwf hz
        go_wp2_with (first | (go_at_call 22; (with_reducible refine (cl.out _).mono ?_); rintro e w1 ⟨rfl, hb⟩; have hx1 := Ext.trans' hx1 hb))
        go_ret
        exact ⟨ret_bool hno.out.symm, hx1⟩
      | true =>
        rw [hz] at cl
        have hl2 : Box (∀ j (hj : j < L.length), j < k + 1 → (L[j]).light) := ⟨fun j hj hjk => by
          by_cases e : j = k
          · subst e
            unfold lightB at hz
            simp only [Bool.and_eq_true, decide_eq_true_eq] at hz
            exact ⟨hz.1, x1, m1, y1, hu, hz.2⟩
          · exact hl.out j hj (by omega)⟩
        have hx1 := hE.out
        generalize L[k] = x at *
        clear hwf hz
        go_wp2_with (first | (go_at_call 22; (with_reducible refine (cl.out _).mono ?_); rintro e w1 ⟨rfl, hb⟩; have hx1 := Ext.trans' hx1 hb))
        go_roundw
        case rel => exact ⟨k + 1, by omega, by omega, by go_num, hl2, ⟨hx1⟩⟩
        case measure => simp [intOf]; omega
    · have hfin : n ≤ most → ∀ x ∈ L, x.light := fun hnm x hx => by
        obtain ⟨j, hj, rfl⟩ := List.getElem_of_mem hx
        exact hl.out j hj (by have := HN.out; omega)
      have HF := Box.mk hfin
      have hx1 := hE.out
      clear hfin
      by_cases h1 : k < n
      · have d1 : decide ((k : Int) < (n : Int)) = true := decide_eq_true (by omega)
        have d2 : decide (k < n) = true := decide_eq_true h1
        have d3 : decide ((k : Int) < (most : Int)) = false := decide_eq_false (by omega)
        have d4 : decide (k < most) = false := decide_eq_false (by omega)
        have d5 : decide ((n : Int) ≤ (most : Int)) = false := decide_eq_false (by omega)
        have d6 : decide (n ≤ most) = false := decide_eq_false (by omega)
        have hno : Box (fewZ L most = false) := ⟨fewZ_no fun ⟨h, _⟩ => by rw [HN.out] at h; omega⟩
        clear hlt
        go_wp2
        go_ret
        exact ⟨ret_bool hno.out.symm, hx1⟩
      · have d1 : decide ((k : Int) < (n : Int)) = false := decide_eq_false (by omega)
        have d2 : decide (k < n) = false := decide_eq_false h1
        have d5 : decide ((n : Int) ≤ (most : Int)) = true := decide_eq_true (by omega)
        have d6 : decide (n ≤ most) = true := decide_eq_true (by omega)
        have hnm : Box (fewZ L most = true) := ⟨fewZ_ok ⟨by rw [HN.out]; omega, HF.out (by omega)⟩⟩
        clear hlt
        go_wp2
        go_ret
        exact ⟨ret_bool hnm.out.symm, hx1⟩

theorem Strm.apart {w : World} {S : Nat} {L : List Nd} {cs : Nat → Nat} {n : Nat} (h : Strm w S L cs n) {B : Nat} {T : TypeId} {c : Array Value} (hB : w.heap[B]? = some (.cells c T (0, 0))) (h1 : T ≠ 69) (h2 : T ≠ 92) : ¬ Own S L B := by
  rintro (rfl | ⟨m, hm, rfl⟩)
  · have := h.hd
    rw [hB] at this
    cases this
    exact h1 rfl
  · obtain ⟨a, ha⟩ := h.lk.at m hm
    have := ha.2.1
    rw [hB] at this
    cases this
    exact h2 rfl
set_option maxRecDepth 100000 in
set_option maxHeartbeats 4000000 in
theorem Add_full (S : Nat) (L : List Nd) (cs : Nat → Nat) (n : Nat) (v : Evt) (a : Option Addr) (c : Nat) (w : World) (h : Strm w S L cs n) (hn : 1048576 ≤ n) (hf : v.fine = true) (hin : v.In) :
    Calls Tryd.prog 17 #[.pointer (some ⟨S, 0, none⟩), .agg #[.int .i64 v.kind, .string (bs v.e.key), .slice a v.e.val.length c, .int .u64 v.e.birth, .int .u64 v.e.dl, .int .u64 v.now]] w fun e w' => e = .returned (.int .i64 7) ∧ Ext w w' := by
  obtain ⟨z1, z2⟩ := Evt.sizes hf
  have hxd := hin.e.dl; have hxb := hin.e.birth; have htt := hin.now
  unfold never at hxd hxb htt
  have H := Box.mk h
  have c1 : Box (∀ w', Ext w w' → _) := ⟨fun w' hx => none_any S w' (h.ext hx).cells.2.2.2.1⟩
  have c2 : Box (∀ w, Calls Tryd.prog 14 #[.agg #[.int .i64 v.kind, .string (bs v.e.key), .slice a v.e.val.length c, .int .u64 v.e.birth, .int .u64 v.e.dl, .int .u64 v.now]] w fun e w' => e = .returned (.bool true) ∧ Ext w w') := ⟨fun w => by
    have h9 := vvalid_any (v.kind : Int) (bs v.e.key) a v.e.val.length c v.e.birth v.e.dl v.now w (by omega) (by omega) (by omega) (by omega) (by omega)
    rw [bs_size, ok_fine] at h9
    rw [show Evt.fine ⟨v.kind, ⟨v.e.key, v.e.val, v.e.dl, v.e.birth⟩, v.now⟩ = true from hf] at h9
    exact h9⟩
  have hx : Ext w (w.alloc (.cells #[.int .i64 v.kind, .string (bs v.e.key), .slice a v.e.val.length c, .int .u64 v.e.birth, .int .u64 v.e.dl, .int .u64 v.now] 28)) := Ext.alloc (Below.refl _ _) _
  have hB := newblk w (.cells #[.int .i64 v.kind, .string (bs v.e.key), .slice a v.e.val.length c, .int .u64 v.e.birth, .int .u64 v.e.dl, .int .u64 v.now] 28)
  obtain ⟨m0, m1, m2, m3, m4, m5⟩ := blk6 hB
  obtain ⟨s0, s1, s8, s9, f0, f1, f8⟩ := (h.ext hx).cells
  have d1 : decide (1048576 ≤ (n : Int)) = true := decide_eq_true (by omega)
  have d2 : decide (1048576 ≤ n) = true := decide_eq_true (by omega)
  clear h hf hin hxd hxb htt hn
  go_enter Tryd.func17, Tryd.ntmps17
  go_wp2_with (first
    | (go_at_call 46; (with_reducible refine (c1.out _ hx).mono ?_); rintro e w' ⟨rfl, rfl⟩)
    | (go_at_call 14; (with_reducible refine (c2.out _).mono ?_); rintro e w1 ⟨rfl, hb⟩; (try clear m0 m1 m2 m3 m4 m5 s0 s1 s8 s9 f0 f1 f8); have hx := Ext.trans' hx hb; have hB := Ext.blk hb hB; obtain ⟨m0, m1, m2, m3, m4, m5⟩ := blk6 hB; obtain ⟨s0, s1, s8, s9, f0, f1, f8⟩ := (H.out.ext hx).cells))
  go_ret
  exact ⟨rfl, hx⟩
def evF : Evt := ⟨2, ⟨[107], [], never, 1⟩, 0⟩
theorem fine_F : evF.fine = true := by decide
theorem in_F : evF.In := ⟨⟨by decide, by decide⟩, by decide⟩
/-- The stream while it is filled. -/
structure Fill (W wr : World) (S B k K : Nat) (L : List Nd) (cs : Nat → Nat) : Prop where
  len : L.length = k
  two : cs 2 = K
  le : ∀ j, cs j ≤ K
  st : Strm wr S L cs k
  ev : wr.heap[B]? = some (.cells #[.int .i64 2, .string ⟨#[107]⟩, .slice none 0 0, .int .u64 1, .int .u64 18446744073709551615, .int .u64 0] 28 (0, 0))
  ext : Ext W wr
theorem Fill.add {W wr w' : World} {S B k K A : Nat} {L : List Nd} {cs : Nat → Nat} {u : Value} (h : Fill W wr S B k K L cs) (hS : W.heap.size ≤ S) (h1 : Strm w' S (L ++ [⟨A, u, evF⟩]) (bump cs 2) (k + 1)) (hm : Mut (Own S L) wr w') :
    Fill W w' S B (k + 1) (K + 1) (L ++ [⟨A, u, evF⟩]) (bump cs 2) :=
  ⟨by rw [List.length_append, h.len]; rfl, by show (if 2 = 2 then cs 2 + 1 else cs 2) = _; rw [if_pos rfl, h.two], fun j => by
    have := h.le j
    show (if j = 2 then cs j + 1 else cs j) ≤ _
    split <;> omega, h1, (hm.other B (blk_lt h.ev) (h.st.apart h.ev (by decide) (by decide))).trans h.ev, hm.ext W h.ext (Own.ge h.st hS)⟩
theorem Fill.step {W wr : World} {S B k K : Nat} {L : List Nd} {cs : Nat → Nat} (h : Fill W wr S B k K L cs) (hS : W.heap.size ≤ S) (hk : k < 1048576) (hK : K ≤ 100000000) :
    Calls Tryd.prog 17 #[.pointer (some ⟨S, 0, none⟩), .agg #[.int .i64 2, .string ⟨#[107]⟩, .slice none 0 0, .int .u64 1, .int .u64 18446744073709551615, .int .u64 0]] wr fun e w' => e = .returned (.int .i64 0) ∧ ∃ L' cs', Fill W w' S B (k + 1) (K + 1) L' cs' :=
  (Add_ok S L cs k evF none 0 wr h.st hk (fun j => by have := h.le j; omega) fine_F in_F (By.nil wr)).mono fun e w' ⟨A, u, h1, h2, _, h4⟩ => ⟨h1, _, _, h.add hS h2 h4⟩
theorem Fill.cells {W wr : World} {S B k K : Nat} {L : List Nd} {cs : Nat → Nat} (h : Fill W wr S B k K L cs) :
    wr.cell? ⟨B, 0, none⟩ = some (.int .i64 2) ∧ wr.cell? ⟨B, 1, none⟩ = some (.string ⟨#[107]⟩) ∧ wr.cell? ⟨B, 2, none⟩ = some (.slice none 0 0) ∧ wr.cell? ⟨B, 3, none⟩ = some (.int .u64 1) ∧ wr.cell? ⟨B, 4, none⟩ = some (.int .u64 18446744073709551615) ∧ wr.cell? ⟨B, 5, none⟩ = some (.int .u64 0) := blk6 h.ev
set_option maxRecDepth 100000 in
set_option maxHeartbeats 8000000 in
theorem lawEventFull_walk (a0 a1 : Int) (W : World) (w0 : (Lit.int .u8 a0).wf = true) (w1 : (Lit.int .u8 a1).wf = true) (ht : EnvV W) :
    Calls Tryd.prog 5 #[.int .u8 a0, .int .u8 a1] W fun e W' => e = .returned (.bool true) ∧ Below W.heap.size W W' := by
  have ck : Box (∀ w, Ext W w → Calls Tryd.prog 11 #[] w fun e w' => e = .returned (.bool true) ∧ Ext w w') := ⟨fun w h => known_any w (ht.ext h)⟩
  obtain ⟨l0, l1⟩ := wf_u8 w0
  obtain ⟨t0, t1⟩ := wf_u8 w1
  obtain ⟨less, rfl⟩ := Int.eq_ofNat_of_zero_le l0
  obtain ⟨taken, rfl⟩ := Int.eq_ofNat_of_zero_le t0
  have hx : Ext W W := Below.refl _ _
  by_cases hl : less ≤ 2
  · have d1 : decide (2 < (less : Int)) = false := decide_eq_false (by omega)
    have d2 : decide (2 < less) = false := decide_eq_false (by omega)
    have cN : Box (Calls Tryd.prog 16 #[] W fun e w' => e = .returned (.pointer (some ⟨W.heap.size, 0, none⟩)) ∧ Box (Strm w' W.heap.size [] (fun _ => 0) 0) ∧ Box (Ext W w')) := ⟨(new_any W).mono fun e w' ⟨h1, h2, h3⟩ => ⟨h1, ⟨h2⟩, ⟨h3⟩⟩⟩
    have q1 : IntKind.i64.wrap (less : Int) = less := by rw [IntKind.wrap_i64]; omega
    have q2 : IntKind.i64.wrap (1048576 - (less : Int)) = ((1048576 - less : Nat) : Int) := by rw [IntKind.wrap_i64]; omega
    have q3 : IntKind.i64.wrap (taken : Int) = taken := by rw [IntKind.wrap_i64]; omega
    have q4 : IntKind.i64.wrap ((less : Int) + (taken : Int)) = ((less + taken : Nat) : Int) := by rw [IntKind.wrap_i64]; omega
    have q5 : IntKind.u64.wrap (taken : Int) = taken := by rw [IntKind.wrap_u64]; omega
    have q6 : IntKind.u64.wrap (1048576 + (taken : Int)) = ((1048576 + taken : Nat) : Int) := by rw [IntKind.wrap_u64]; omega
    have HL := Box.mk hl
    have HT : Box (taken ≤ 255) := ⟨by omega⟩
    have HW : Box (∀ {w' : World}, Ext W w' → Ext W w') := ⟨fun h => h⟩
    have nb : 1048576 - less ≤ 1048576 := by omega
    have mb : less + taken ≤ 300 := by omega
    generalize hN : 1048576 - less = N at *
    generalize hM : less + taken = M at *
    have HN := Box.mk hN; have HM := Box.mk hM
    clear hl l0 l1 t0 t1 w0 w1 hN hM ht
    go_enter Tryd.func5, Tryd.ntmps5
    go_wp2_with (first
      | (go_at_call 16; (with_reducible refine cN.out.mono ?_); rintro e w1 ⟨rfl, hS, hE⟩))
    have hF0 : Fill W (w1.alloc (.cells #[.int .i64 2, .string ⟨#[107]⟩, .slice none 0 0, .int .u64 1, .int .u64 18446744073709551615, .int .u64 0] 28)) W.heap.size w1.heap.size 0 0 [] (fun _ => 0) :=
      ⟨rfl, rfl, fun _ => Nat.le_refl _, hS.out.ext (Ext.alloc (Below.refl _ _) _), newblk _ _, Ext.alloc hE.out _⟩
    have HF0 := Box.mk hF0
    clear hF0 hS hE cN
    generalize w1.heap.size = B at *
    go_loopw [7] (fun i wr => ∃ k : Nat, k ≤ N ∧ i = .int .i64 k ∧ ∃ L cs, Box (Fill W wr W.heap.size B k k L cs)) (fun i _ => N - (intOf i).toNat)
    case atStart => exact ⟨0, by omega, rfl, _, _, HF0⟩
    case round =>
      obtain ⟨k, hk, rfl, L, cs, hF⟩ := hrel
      obtain ⟨m0, m1, m2, m3, m4, m5⟩ := hF.out.cells
      by_cases hkn : k < N
      · have e1 : decide ((k : Int) < (N : Int)) = true := decide_eq_true (by omega)
        have e2 : decide (k < N) = true := decide_eq_true hkn
        have ca := Box.mk (hF.out.step (Nat.le_refl _) (by have := HN.out; omega) (by have := HN.out; omega))
        go_wp2_with (first
          | (go_at_call 17; (with_reducible refine ca.out.mono ?_); rintro e w2 ⟨rfl, L', cs', hF2⟩; have hF2 := Box.mk hF2))
        go_roundw
        case rel => exact ⟨k + 1, by omega, by go_num, _, _, hF2⟩
        case measure => simp [intOf]; omega
      · obtain rfl : k = N := by omega
        have e1 : decide ((k : Int) < (k : Int)) = false := decide_eq_false (by omega)
        have e2 : decide (k < k) = false := decide_eq_false (by omega)
        have hmin : min taken L.length = taken := by have := hF.out.len; have := HN.out; have := HL.out; have := HT.out; omega
        have cT : Box (Calls Tryd.prog 19 #[.pointer (some ⟨W.heap.size, 0, none⟩), .int .i64 taken] wr fun e w' => ∃ a c, e = .returned (.tuple #[.slice a taken c, .int .i64 0]) ∧ Box (Fill W w' W.heap.size B (k - taken) k (L.drop taken) cs)) := ⟨(take_any W.heap.size L cs taken wr (by rw [hF.out.len]; exact hF.out.st) (by have := hF.out.len; have := HN.out; omega) (by have := HT.out; omega)).mono fun e w' ⟨v, h1, h2, h3, h4⟩ => by
          rw [hmin] at h2 h3
          obtain ⟨a, c, rfl⟩ := row_shape h2
          have hk9 := hF.out.len
          rw [hk9] at h3
          have hne : ¬ B = W.heap.size := fun e => hF.out.st.apart hF.out.ev (by decide) (by decide) (Or.inl e)
          exact ⟨a, c, h1, ⟨by rw [List.length_drop, hk9], hF.out.two, hF.out.le, h3, (h4.other B (blk_lt hF.out.ev) hne).trans hF.out.ev, h4.ext W hF.out.ext (fun x hx => by omega)⟩⟩⟩
        clear hmin
        go_wp2_with (first
          | (go_at_call 19; (with_reducible refine cT.out.mono ?_); rintro e w2 ⟨a9, c9, rfl, hF9⟩))
        clear hF m0 m1 m2 m3 m4 m5 cT
        go_loopw [10] (fun i wr => ∃ j : Nat, j ≤ M ∧ i = .int .i64 j ∧ ∃ L cs, Box (Fill W wr W.heap.size B (k - taken + j) (k + j) L cs)) (fun i _ => M - (intOf i).toNat)
        case atStart => exact ⟨0, by omega, rfl, _, _, hF9⟩
        case round =>
          obtain ⟨j, hj, rfl, L, cs, hF⟩ := hrel
          obtain ⟨m0, m1, m2, m3, m4, m5⟩ := hF.out.cells
          by_cases hjm : j < M
          · have e3 : decide ((j : Int) < (M : Int)) = true := decide_eq_true (by omega)
            have e4 : decide (j < M) = true := decide_eq_true hjm
            have ca := Box.mk (hF.out.step (Nat.le_refl _) (by have := HN.out; have := HM.out; have := HT.out; have := HL.out; omega) (by have := HN.out; have := HM.out; have := HT.out; have := HL.out; omega))
            go_wp2_with (first
              | (go_at_call 17; (with_reducible refine ca.out.mono ?_); rintro e w3 ⟨rfl, L', cs', hF2⟩; have hF2 := Box.mk hF2))
            go_roundw
            case rel => exact ⟨j + 1, by omega, by go_num, _, _, hF2⟩
            case measure => simp [intOf]; omega
          · obtain rfl : j = M := by omega
            have e3 : decide ((j : Int) < (j : Int)) = false := decide_eq_false (by omega)
            have e4 : decide (j < j) = false := decide_eq_false (by omega)
            have z1 : k - taken + j = 1048576 := by have := HN.out; have := HM.out; have := HT.out; have := HL.out; omega
            have z2 : k + j = 1048576 + taken := by have := HN.out; have := HM.out; have := HT.out; have := HL.out; omega
            rw [z1, z2] at hF
            have cA : Box (Calls Tryd.prog 17 #[.pointer (some ⟨W.heap.size, 0, none⟩), .agg #[.int .i64 2, .string ⟨#[107]⟩, .slice none 0 0, .int .u64 1, .int .u64 18446744073709551615, .int .u64 0]] wr fun e w' => e = .returned (.int .i64 7) ∧ Ext wr w') := ⟨Add_full W.heap.size L cs 1048576 evF none 0 wr hF.out.st (Nat.le_refl _) fine_F in_F⟩
            have cL : Box (∀ w', Ext wr w' → _) := ⟨fun w' h => len_any W.heap.size L cs 1048576 w' (hF.out.st.ext h)⟩
            have cC : Box (∀ w', Ext wr w' → Calls Tryd.prog 21 #[.pointer (some ⟨W.heap.size, 0, none⟩), .int .i64 2] w' fun e w'' => e = .returned (.int .u64 ((1048576 + taken : Nat) : Int)) ∧ w' = w'') := ⟨fun w' h => by
              have h9 := count_any W.heap.size L cs 1048576 2 (by decide) (by decide) w' (hF.out.st.ext h)
              rw [hF.out.two] at h9
              exact h9⟩
            have hE := Box.mk hF.out.ext
            have hxr : Ext wr wr := Below.refl _ _
            generalize 1048576 + taken = Q at *
            clear hF z1 z2
            go_wp2_with (first
              | (go_at_call 20; (with_reducible refine (cL.out _ hxr).mono ?_); rintro e w' ⟨rfl, rfl⟩)
              | (go_at_call 21; (with_reducible refine (cC.out _ hxr).mono ?_); rintro e w' ⟨rfl, rfl⟩)
              | (go_at_call 17; (with_reducible refine cA.out.mono ?_); rintro e w4 ⟨rfl, hb⟩; have hxr := Ext.trans' hxr hb)
              | (go_at_call 11; (with_reducible refine (ck.out _ (Ext.trans' hE.out hxr)).mono ?_); rintro e w4 ⟨rfl, hb⟩; have hxr := Ext.trans' hxr hb))
            go_ret
            exact ⟨rfl, Ext.trans' hE.out hxr⟩
  · have d1 : decide (2 < (less : Int)) = true := decide_eq_true (by omega)
    have d2 : decide (2 < less) = true := decide_eq_true (by omega)
    clear ht hl
    go_enter Tryd.func5, Tryd.ntmps5
    go_wp2_with (first | (go_at_call 11; (with_reducible refine (ck.out _ hx).mono ?_); rintro e w1 ⟨rfl, hb⟩; have hx := Ext.trans' hx hb))
    go_ret
    exact ⟨rfl, hx⟩
/-- append of a slice, nil or not, behind a row that the call owns. -/
theorem app_run {P : Program} (w : World) (base : Nat) (t ty e : TypeId) (i : TypeInfo) (z : Value) (size bytes : Nat) (ht : P.underlying t = some (.slice e)) (hi : P.info? e = some i) (hz : i.zero = some z)
    (hsize : i.size = size) (hby : i.bytes = bytes) (hzs : z.cells.size = size) (hsz : 0 < size) (v : Value) (n : Nat) (ys : List Value) (hown : w.ownsRow base e size v n ys)
    (a : Option Addr) (m c : Nat) (news : List Value) (hnil : a = none → m = 0 ∧ c = 0) (hl : news.length = m * size) (hnews : ∀ x, a = some x → ∀ j u, news[j]? = some u → w.cell? (x.add j) = some u) (h1 : ∀ u ∈ news, u.oneCell' = true)
    (h63 : n + m ≤ maxLen) (hbytes : (n + m) * bytes ≤ 140737488355328) (hbase : base ≤ w.heap.size) :
    ∃ v' w', (Builtin.append_ #[t, t] ty #[v, .slice a m c]).run P w = .ok v' w' ∧ w'.ownsRow base e size v' (n + m) (ys ++ news) ∧ w.grownBy w' v.ownBlock ∧ (v'.ownBlock = v.ownBlock ∨ v'.ownBlock = some w.heap.size) := by
  cases a with
  | some x =>
    obtain ⟨v', w', h2, h3, h4, _, h5⟩ := run_append_own_at w base t ty e i z size bytes ht hi hz hsize hby hzs hsz v n ys hown x m c news hl (hnews x rfl) h1 h63 hbytes hbase
    exact ⟨v', w', h2, h3, h4, h5⟩
  | none =>
    obtain ⟨rfl, rfl⟩ := hnil rfl
    have hn : news = [] := List.eq_nil_of_length_eq_zero (by rw [hl]; simp)
    subst hn
    refine ⟨v, w, ?_, by rw [List.append_nil]; exact hown, ⟨rfl, rfl, rfl, Nat.le_refl _, fun _ _ _ => rfl⟩, Or.inl rfl⟩
    rcases hown.2 with ⟨rfl, rfl⟩ | ⟨g, cap, cur, rfl, _, _, hnc, _⟩
    · simp [Builtin.append_, run_underlying ht, sizeOf, typeInfo, hi, Builtin.lenOf, Builtin.firstCells]
    · subst hsize
      exact run_append_room_src w t t ty e i ht hi g 0 n cap (.slice none 0 0) 0 [] (Src.ofNil w ht 0) (by omega) (fun j hj => by simp at hj) (fun j hj => by simp at hj)

set_option maxRecDepth 100000 in
set_option maxHeartbeats 4000000 in
theorem sameX_any (u v : Value) (L M : List EvX) (w : World) (hu : Xs w u L) (hv : Xs w v M) (he : L.map EvX.core = M.map EvX.core) :
    Calls Tryd.prog 34 #[u, v] w fun e w' => e = .returned (.bool true) ∧ Ext w w' := by
  have hlen : L.length = M.length := by have := congrArg List.length he; simpa using this
  obtain ⟨a, c, rfl, hl1, hc1, hcl, hml⟩ := hu
  obtain ⟨b, d, rfl, hl2, hc2, hcm, hmm⟩ := hv
  rw [← hlen]
  have HC := Box.mk hcl; have HD := Box.mk hcm; have HL := Box.mk hml; have HM := Box.mk hmm; have HE := Box.mk he; have HN := Box.mk hlen
  clear hcl hcm hml hmm he hlen
  go_enter Tryd.func34, Tryd.ntmps34
  go_wp2
  go_loopw [5] (fun i wr => ∃ k : Nat, k ≤ L.length ∧ i = .int .i64 k ∧ Box (Ext w wr)) (fun i _ => L.length - (intOf i).toNat)
  case atStart => exact ⟨0, by omega, rfl, ⟨Below.refl _ _⟩⟩
  case round =>
    obtain ⟨k, hk, rfl, hx⟩ := hrel
    by_cases hkl : k < L.length
    · have hkm : k < M.length := by have := HN.out; omega
      obtain ⟨b1, o1, rfl, p0, p1, p2, p3, p4, p5⟩ := Xs.row (CellsAt.ext (Ext.drew1 hx.out) HC.out) k hkl
      obtain ⟨b2, o2, rfl, q0, q1, q2, q3, q4, q5⟩ := Xs.row (CellsAt.ext (Ext.drew1 hx.out) HD.out) k hkm
      obtain ⟨_, ⟨x1, y1, hu1⟩, hb1⟩ := HL.out L[k] (List.getElem_mem hkl)
      obtain ⟨_, ⟨x2, y2, hu2⟩, hb2⟩ := HM.out M[k] (List.getElem_mem hkm)
      have hvk : (L[k]).core = (M[k]).core := by
        have h := congrArg (fun l => l[k]?) HE.out
        simpa [hkl, hkm] using h
      unfold EvX.core at hvk
      simp only [Prod.mk.injEq] at hvk
      obtain ⟨v1, v2, v3, v4, v5, v6⟩ := hvk
      have cs : Box (∀ w', Ext w w' → Calls Tryd.prog 28 #[.agg #[.int .i64 (L[k]).k, .string (L[k]).s, .slice x1 (L[k]).l.length y1, .int .u64 (L[k]).b, .int .u64 (L[k]).d, .int .u64 (L[k]).t], .agg #[.int .i64 (L[k]).k, .string (L[k]).s, .slice x2 (L[k]).l.length y2, .int .u64 (L[k]).b, .int .u64 (L[k]).d, .int .u64 (L[k]).t]] w' fun e w'' => e = .returned (.bool true) ∧ Ext w' w'') := ⟨fun w' hx' => by
        rw [hu1] at hb1
        rw [hu2, ← v3] at hb2
        have h := same_any (L[k]).k (L[k]).k (L[k]).s (L[k]).s _ _ _ _ (L[k]).b (L[k]).b (L[k]).d (L[k]).d (L[k]).t (L[k]).t w' (hb1.ext hx') (hb2.ext hx')
        rw [eqV_self] at h
        exact h⟩
      rw [hu1] at p2
      rw [hu2] at q2
      rw [← v1] at q0
      rw [← v2] at q1
      rw [← v3] at q2
      rw [← v4] at q3
      rw [← v5] at q4
      rw [← v6] at q5
      clear hb1 hb2 hu1 hu2 v1 v2 v3 v4 v5 v6
      generalize L[k] = m at *
      go_wp2
      have hx1 := Ext.drew1 hx.out
      go_region_held3 (fun w' => (w'.cell? ⟨b1, o1 + k * 6, none⟩ = some (.int .i64 m.k) ∧ w'.cell? ⟨b1, o1 + k * 6 + 1, none⟩ = some (.string m.s) ∧ w'.cell? ⟨b1, o1 + k * 6 + 2, none⟩ = some (.slice x1 m.l.length y1) ∧ w'.cell? ⟨b1, o1 + k * 6 + 3, none⟩ = some (.int .u64 m.b) ∧ w'.cell? ⟨b1, o1 + k * 6 + 4, none⟩ = some (.int .u64 m.d) ∧ w'.cell? ⟨b1, o1 + k * 6 + 5, none⟩ = some (.int .u64 m.t)) ∧ (w'.cell? ⟨b2, o2 + k * 6, none⟩ = some (.int .i64 m.k) ∧ w'.cell? ⟨b2, o2 + k * 6 + 1, none⟩ = some (.string m.s) ∧ w'.cell? ⟨b2, o2 + k * 6 + 2, none⟩ = some (.slice x2 m.l.length y2) ∧ w'.cell? ⟨b2, o2 + k * 6 + 3, none⟩ = some (.int .u64 m.b) ∧ w'.cell? ⟨b2, o2 + k * 6 + 4, none⟩ = some (.int .u64 m.d) ∧ w'.cell? ⟨b2, o2 + k * 6 + 5, none⟩ = some (.int .u64 m.t)))
        (first | (exact ⟨⟨p0, p1, p2, p3, p4, p5⟩, ⟨q0, q1, q2, q3, q4, q5⟩⟩) | (exact ⟨⟨Ext.cell hb p0, Ext.cell hb p1, Ext.cell hb p2, Ext.cell hb p3, Ext.cell hb p4, Ext.cell hb p5⟩, ⟨Ext.cell hb q0, Ext.cell hb q1, Ext.cell hb q2, Ext.cell hb q3, Ext.cell hb q4, Ext.cell hb q5⟩⟩))
        (first | (go_at_call 28; (with_reducible refine (cs.out _ hx1).mono ?_); rintro e w1 ⟨rfl, hb⟩))
      have hx2 := Box.mk (Ext.trans' hx1 hb)
      go_wp2
      go_roundw
      case rel => exact ⟨k + 1, by omega, by go_num, hx2⟩
      case measure => simp [intOf]; omega
    · obtain rfl : k = L.length := by omega
      go_wp2
      go_ret
      exact ⟨rfl, hx.out⟩

/-- What an event of the stream must be for a copy of it. -/
def Good (v : Evt) : Prop := v.fine = true ∧ v.In
theorem Good.x {v : Evt} (h : Good v) (u : Value) : (ofEvt v u).In ∧ (ofEvt v u).ok = true := ⟨ofEvt_in h.2 h.1 u, ofEvt_ok h.1 u⟩
def LPost (S : Nat) (L : List Nd) (w : World) (e : Ending) (w' : World) : Prop :=
  ∃ v X, e = .returned v ∧ w'.ownsRow w.heap.size 28 6 v L.length (xs X) ∧ X.map EvX.evt = L.map (·.v) ∧ (∀ x ∈ X, x.In ∧ x.ok = true ∧ OwnB w.heap.size w' x.u x.l) ∧ Ext w w'
set_option maxRecDepth 100000 in
set_option maxHeartbeats 4000000 in
theorem list_any (S : Nat) (L : List Nd) (cs : Nat → Nat) (w : World) (h : Strm w S L cs L.length) (hL : L.length ≤ 1048576) (hg : ∀ m ∈ L, Good m.v) :
    Calls Tryd.prog 35 #[.pointer (some ⟨S, 0, none⟩)] w (LPost S L w) := by
  obtain ⟨i0, hi, hz0, hz1, hz2⟩ := info_parts infoEvt
  obtain ⟨s0, s1, s8, s9, f0, f1, f8⟩ := h.cells
  have c1 : Box _ := ⟨none_any S w s9⟩
  have H := Box.mk h; have HG := Box.mk hg
  obtain ⟨Post, hPost⟩ : ∃ P, P = LPost S L w := ⟨_, rfl⟩
  rw [← hPost]
  have HP := Box.mk hPost
  clear hPost h hg s1 s8 s9 f0 f1 f8
  obtain ⟨np, hnp⟩ : ∃ p, p = nxt L (.pointer none) := ⟨_, rfl⟩
  rw [← hnp] at s0
  have HNP := Box.mk hnp
  obtain ⟨q0, hq0⟩ := nxt_ptr L
  rw [← hnp] at hq0
  generalize (Option.map (fun x => (⟨x, 0, none⟩ : Addr)) q0) = qq at *
  subst hq0
  clear hnp
  go_enter Tryd.func35, Tryd.ntmps35
  go_wp2_with (first | (go_at_call 46; (with_reducible refine (c1.out).mono ?_); rintro e w' ⟨rfl, rfl⟩))
  go_loopw [3, 4] (fun ov nv wr => ∃ t : Nat, t ≤ L.length ∧ nv = nxt (L.drop t) (.pointer none) ∧ ∃ X : List EvX, wr.ownsRow w.heap.size 28 6 ov t (xs X) ∧ Box (X.map EvX.evt = (L.take t).map (·.v)) ∧ Box (∀ x ∈ X, x.In ∧ x.ok = true ∧ OwnB w.heap.size wr x.u x.l) ∧ Box (Ext w wr)) (fun ov _ _ => match ov with | .slice _ t _ => L.length - t | _ => 0)
  case atStart => exact ⟨0, by omega, HNP.out, [], World.ownsRow_nil _ _ _ _, ⟨rfl⟩, ⟨fun x hx => by cases hx⟩, ⟨Below.refl _ _⟩⟩
  case round =>
    obtain ⟨t, htL, rfl, X, hown, hmap, hX, hE⟩ := hrel
    obtain ⟨a, c, rfl⟩ := row_shape hown
    by_cases ht : t < L.length
    · have hnd := H.out.lk.get t ht
      have hnb := Ext.blk hE.out hnd.2.1
      obtain ⟨n0, n1, n2, n3, n4, n5, n6⟩ := node_cells hnb
      obtain ⟨⟨pa, pc, hu⟩, _, hby⟩ := hnd
      rw [hu] at n2 hby
      have hdropq : nxt (L.drop t) (.pointer none) = .pointer (some ⟨L[t].at_, 0, none⟩) := by rw [List.drop_eq_getElem_cons ht]; rfl
      rw [hdropq]
      obtain ⟨np, hnp⟩ := nxt_ptr (L.drop (t + 1))
      rw [hnp] at n6
      have HNP1 := Box.mk hnp
      have hgood := HG.out _ (List.getElem_mem ht)
      have hsz1 := (Evt.sizes hgood.1).2
      have hgx := Box.mk (fun u => hgood.x u)
      have co : Box (∀ w', Ext w w' → Calls Tryd.prog 48 #[.agg #[.int .i64 L[t].v.kind, .string (bs L[t].v.e.key), .slice pa L[t].v.e.val.length pc, .int .u64 L[t].v.e.birth, .int .u64 L[t].v.e.dl, .int .u64 L[t].v.now]] w' fun e w'' => ∃ a' c', e = .returned (.agg #[.int .i64 L[t].v.kind, .string (bs L[t].v.e.key), .slice a' L[t].v.e.val.length c', .int .u64 L[t].v.e.birth, .int .u64 L[t].v.e.dl, .int .u64 L[t].v.now]) ∧ OwnB w.heap.size w'' (.slice a' L[t].v.e.val.length c') L[t].v.e.val ∧ Ext w' w'') := ⟨fun w' hx => (own_any (L[t].v.kind : Int) (bs L[t].v.e.key) pa L[t].v.e.val pc L[t].v.e.birth L[t].v.e.dl L[t].v.now w' (hby.ext hx)).mono fun e w'' ⟨a', c', h1, h2, h3⟩ => ⟨a', c', h1, h2.mono hx.size, h3⟩⟩
      have hmp : Box (∀ u, (X ++ [ofEvt L[t].v u]).map EvX.evt = (L.take (t + 1)).map (·.v)) := ⟨fun u => by
        rw [List.map_append, hmap.out, List.take_succ_eq_append_getElem ht, List.map_append, List.map_cons, List.map_nil, ofEvt_evt]
        rfl⟩
      have hxc : Box (∀ u, xs (X ++ [ofEvt L[t].v u]) = xs X ++ [.int .i64 L[t].v.kind, .string (bs L[t].v.e.key), u, .int .u64 L[t].v.e.birth, .int .u64 L[t].v.e.dl, .int .u64 L[t].v.now]) := ⟨fun u => by rw [xs_app]; rfl⟩
      have hofu : Box (∀ u, (ofEvt L[t].v u).u = u ∧ (ofEvt L[t].v u).l = L[t].v.e.val) := ⟨fun u => ⟨rfl, rfl⟩⟩
      have hbk := Box.mk hnb
      have HGr : Box (∀ w', Ext wr w' → w'.ownsRow w.heap.size 28 6 (.slice a t c) t (xs X)) := ⟨fun w' h => ownsRow_ext h hown⟩
      have hnx : Box (nxt (L.drop (t + 1)) (.pointer none) = .pointer (np.map fun x => ⟨x, 0, none⟩)) := ⟨hnp⟩
      clear hnb hu hby hdropq hnp hgood hown
      generalize hF : (fun u => ofEvt L[t].v u) = F at *
      have hofx : ∀ u, ofEvt L[t].v u = F u := fun u => congrFun hF u
      simp only [hofx] at hgx hmp hxc hofu
      clear hF hofx
      generalize L[t] = m at *
      generalize (Option.map (fun x => (⟨x, 0, none⟩ : Addr)) np) = q at *
      have hxw : Ext wr wr := Below.refl _ _
      have hbyte : (t + 1) * 72 ≤ 140737488355328 := by omega
      go_wp2_with (first
        | (go_at_call 48; (with_reducible refine (co.out _ (Ext.trans' hE.out hxw)).mono ?_); rintro e w2 ⟨pa2, pc2, rfl, hO, hb⟩; have hxw := Ext.trans' hxw hb; have hown2 := HGr.out _ hxw; have HO := Box.mk hO; have HRB := Box.mk (row_block hown2); have hzz := (Ext.trans' hE.out hxw).size; have HXW := Box.mk hxw; clear hO hb hxw n0 n1 n2 n3 n4 n5 n6)
        | (at_builtin; refine wpList_push rfl _ _ 41 rfl w.heap.size 28 i0 _ 6 72 Tryd.underlying41 hi hz0 hz1 hz2 rfl (by decide) _ _ _ rfl hown2 [.int .i64 m.v.kind, .string (bs m.v.e.key), .slice pa2 m.v.e.val.length pc2, .int .u64 m.v.e.birth, .int .u64 m.v.e.dl, .int .u64 m.v.now] rfl rfl (by simp [Value.oneCell']) (by omega) hbyte hzz ?_; intro v1 w3 hown3 hg3 hbel3 hs3; obtain ⟨n0, n1, n2, n3, n4, n5, n6⟩ := node_cells (show w3.heap[m.at_]? = _ from (hg3.block m.at_ (Nat.lt_of_lt_of_le (blk_lt hbk.out) HXW.out.size) (fun e => by obtain ⟨cs9, h9⟩ := HRB.out m.at_ e.symm; rw [Ext.blk HXW.out hbk.out] at h9; cases h9)).trans (Ext.blk HXW.out hbk.out)); rw [hnx.out] at n6))
      rw [← hxc.out] at hown3
      obtain ⟨a3, c3, rfl⟩ := row_shape hown3
      have hE3 : Ext w w3 := Below.trans (Ext.trans' hE.out HXW.out) hbel3
      refine ⟨⟨t + 1, by omega, by rw [hnx.out], _, hown3, ⟨hmp.out _⟩, ⟨?_⟩, ⟨hE3⟩⟩, by simp only; omega⟩
      have hrow := row_no HRB.out
      intro x hx
      rcases List.mem_append.1 hx with hx | hx
      · obtain ⟨g1, g2, g3⟩ := hX.out x hx
        exact ⟨g1, g2, (g3.ext HXW.out).grow hg3 hrow⟩
      · simp only [List.mem_singleton] at hx
        subst hx
        refine ⟨(hgx.out _).1, (hgx.out _).2, ?_⟩
        rw [(hofu.out _).1, (hofu.out _).2]
        exact HO.out.grow hg3 hrow
    · obtain rfl : t = L.length := by omega
      have hmap2 : Box (X.map EvX.evt = L.map (·.v)) := ⟨by rw [hmap.out, List.take_length]⟩
      have HO := Box.mk hown
      rw [List.drop_length]
      simp only [nxt]
      clear hown
      go_wp2
      rw [HP.out]
      exact ⟨_, X, rfl, HO.out, hmap2.out, hX.out, hE.out⟩
/-- From w to w' only blocks of types in T, and new ones, have changed. -/
structure Keep (T : TypeId → Prop) (w w' : World) : Prop where
  size : w.heap.size ≤ w'.heap.size
  block : ∀ j, j < w.heap.size → w'.heap[j]? = w.heap[j]? ∨ ∃ cs U, w.heap[j]? = some (.cells cs U (0, 0)) ∧ T U
theorem Keep.of_ext {T : TypeId → Prop} {w w' : World} (h : Ext w w') : Keep T w w' := ⟨h.size, fun j hj => Or.inl (h.block j hj)⟩
theorem Keep.trans {T : TypeId → Prop} {a b c : World} (h : Keep T a b) (k : Keep T b c) : Keep T a c :=
  ⟨Nat.le_trans h.size k.size, fun j hj => by
    rcases h.block j hj with h1 | h1
    · rcases k.block j (Nat.lt_of_lt_of_le hj h.size) with h2 | h2
      · exact Or.inl (h2.trans h1)
      · rw [h1] at h2; exact Or.inr h2
    · exact Or.inr h1⟩
theorem Keep.mono {T U : TypeId → Prop} {w w' : World} (h : Keep T w w') (hT : ∀ t, T t → U t) : Keep U w w' :=
  ⟨h.size, fun j hj => (h.block j hj).imp id fun ⟨cs, V, h1, h2⟩ => ⟨cs, V, h1, hT V h2⟩⟩
theorem Keep.same {T : TypeId → Prop} {w w' : World} (h : Keep T w w') {j : Nat} {cs : Array Value} {U : TypeId} (hb : w.heap[j]? = some (.cells cs U (0, 0))) (hU : ¬ T U) : w'.heap[j]? = some (.cells cs U (0, 0)) := by
  rcases h.block j (blk_lt hb) with h1 | ⟨cs', V, h1, h2⟩
  · exact h1.trans hb
  · rw [hb] at h1; cases h1; exact absurd h2 hU
theorem Keep.of_grown {T : TypeId → Prop} {w w' : World} {row : Option Nat} (h : w.grownBy w' row) (hr : ∀ g, row = some g → ∃ cs U, w.heap[g]? = some (.cells cs U (0, 0)) ∧ T U) : Keep T w w' :=
  ⟨h.size, fun j hj => by
    by_cases e : some j = row
    · exact Or.inr (hr j e.symm)
    · exact Or.inl (h.block j hj e)⟩
theorem Keep.of_mut {T : TypeId → Prop} {X : Nat → Prop} {w w' : World} (h : Mut X w w') (hX : ∀ j, X j → ∃ cs U, w.heap[j]? = some (.cells cs U (0, 0)) ∧ T U) : Keep T w w' :=
  ⟨h.size, fun j hj => by
    by_cases e : X j
    · exact Or.inr (hX j e)
    · exact Or.inl (h.other j hj e)⟩
theorem ownsRow_keep {T : TypeId → Prop} {w w' : World} (hk : Keep T w w') {base : Nat} {e : TypeId} {size : Nat} {v : Value} {n : Nat} {xs : List Value} (h : w.ownsRow base e size v n xs) (he : ¬ T e) : w'.ownsRow base e size v n xs := by
  refine ⟨h.1, ?_⟩
  rcases h.2 with h2 | ⟨g, cap, cur, hv, hb1, hg, r⟩
  · exact Or.inl h2
  · exact Or.inr ⟨g, cap, cur, hv, hb1, hk.same hg he, r⟩
theorem OwnB.keep {T : TypeId → Prop} {B : Nat} {w w' : World} (hk : Keep T w w') {v : Value} {l : List UInt8} (h : OwnB B w v l) (he : ¬ T 5) : OwnB B w' v l := ownsRow_keep hk h he
/-- a row of events: the type of its block -/
def tE (U : TypeId) : Prop := U = 28
/-- a stream's blocks: their types -/
def tS (U : TypeId) : Prop := U = 69 ∨ U = 92
theorem tE_u8 : ¬ tE 5 := by unfold tE; decide
theorem tS_u8 : ¬ tS 5 := by unfold tS; decide
theorem tS_ev : ¬ tS 28 := by unfold tS; decide
theorem tE_st : ¬ tE 69 := by unfold tE; decide
theorem tE_nd : ¬ tE 92 := by unfold tE; decide
theorem Keep.row {w w' : World} {base : Nat} {size : Nat} {v : Value} {n : Nat} {xs : List Value} (h : w.ownsRow base 28 size v n xs) (hg : w.grownBy w' v.ownBlock) : Keep tE w w' :=
  Keep.of_grown hg fun g e => by
    obtain ⟨cs, h1⟩ := row_block h g e
    exact ⟨cs, _, h1, rfl⟩
theorem Keep.strm {w w' : World} {S : Nat} {L : List Nd} {cs : Nat → Nat} {n : Nat} (h : Strm w S L cs n) (hm : Mut (Own S L) w w') : Keep tS w w' :=
  Keep.of_mut hm fun j hj => by
    rcases hj with rfl | ⟨m, hm, rfl⟩
    · exact ⟨_, _, h.hd, Or.inl rfl⟩
    · obtain ⟨a, ha⟩ := h.lk.at m hm
      exact ⟨_, _, ha.2.1, Or.inr rfl⟩
theorem Keep.strm1 {w w' : World} {S : Nat} {L : List Nd} {cs : Nat → Nat} {n : Nat} (h : Strm w S L cs n) (hm : Mut (fun j => j = S) w w') : Keep tS w w' :=
  Keep.strm h (hm.mono fun _ hj => Or.inl hj)
/-- The values of a stream's events are its own, and its events are good. -/
def OwnL (B : Nat) (w : World) (L : List Nd) : Prop := ∀ m ∈ L, OwnB B w m.u m.v.e.val ∧ Good m.v
theorem OwnL.keep {T : TypeId → Prop} {B : Nat} {w w' : World} {L : List Nd} (h : OwnL B w L) (hk : Keep T w w') (he : ¬ T 5) : OwnL B w' L := fun m hm => ⟨(h m hm).1.keep hk he, (h m hm).2⟩
theorem Good.len {v : Evt} (h : Good v) : v.e.val.length ≤ 65536 := (Evt.sizes h.1).2
theorem Strm.keepT {T : TypeId → Prop} {B : Nat} {w w' : World} {S : Nat} {L : List Nd} {cs : Nat → Nat} {n : Nat} (h : Strm w S L cs n) (hO : OwnL B w L) (hk : Keep T w w') (h1 : ¬ T 69) (h2 : ¬ T 92) (h3 : ¬ T 5) : Strm w' S L cs n := by
  refine ⟨hk.same h.hd h1, ?_, h.up, h.inc⟩
  have : ∀ (L : List Nd) (tl : Value), Lnk w L tl → OwnL B w L → Lnk w' L tl := by
    intro L
    induction L with
    | nil => intro _ _ _; trivial
    | cons m r ih =>
      intro tl hl ho
      refine ⟨⟨hl.1.1, hk.same hl.1.2.1 h2, ?_⟩, ih tl hl.2 (fun k hk => ho k (by simp [hk]))⟩
      have h9 := ho m (by simp)
      exact (h9.1.keep hk h3).by (by have := h9.2.len; omega)
  exact this L _ h.lk hO
theorem OwnL.app {B : Nat} {w : World} {L : List Nd} {m : Nd} (h : OwnL B w L) (h1 : OwnB B w m.u m.v.e.val) (h2 : Good m.v) : OwnL B w (L ++ [m]) := fun k hk => by
  rcases List.mem_append.1 hk with hk | hk
  · exact h k hk
  · simp only [List.mem_singleton] at hk; subst hk; exact ⟨h1, h2⟩
theorem OwnL.drop {B : Nat} {w : World} {L : List Nd} (h : OwnL B w L) (t : Nat) : OwnL B w (L.drop t) := fun k hk => h k (List.mem_of_mem_drop hk)
/-- Events of equal parts. -/
theorem core_of_evt {x y : EvX} (hx : x.ok = true) (hy : y.ok = true) (ix : x.In) (iy : y.In) (h : x.evt = y.evt) : x.core = y.core := by
  have h1 := (evt_of_ok hx ix).2.2
  have h2 := (evt_of_ok hy iy).2.2
  unfold EvX.core
  rw [h1, h2, h]
  unfold EvX.evt at h
  simp only [Evt.mk.injEq, Ent.mk.injEq] at h
  obtain ⟨_, ⟨g1, g2, g3, g4⟩, g5⟩ := h
  rw [g2, g3, g4, g5, show x.s = y.s from by apply ByteArray.ext; exact Array.ext' g1]
theorem cores {L M : List EvX} (hl : ∀ x ∈ L, x.In ∧ x.ok = true) (hm : ∀ x ∈ M, x.In ∧ x.ok = true) (h : L.map EvX.evt = M.map EvX.evt) : L.map EvX.core = M.map EvX.core := by
  induction L generalizing M with
  | nil => cases M with
    | nil => rfl
    | cons y s => cases h
  | cons x r ih => cases M with
    | nil => cases h
    | cons y s =>
      simp only [List.map_cons, List.cons.injEq] at h ⊢
      exact ⟨core_of_evt (hl x (by simp)).2 (hm y (by simp)).2 (hl x (by simp)).1 (hm y (by simp)).1 h.1, ih (fun z hz => hl z (by simp [hz])) (fun z hz => hm z (by simp [hz])) h.2⟩
theorem Nd.x_evt (m : Nd) : m.x.evt = m.v := ofEvt_evt m.v m.u
theorem nds_evt (L : List Nd) : (L.map Nd.x).map EvX.evt = L.map (·.v) := by
  rw [List.map_map]
  apply List.map_congr_left
  intro m _
  exact m.x_evt
theorem Nd.x_ok {m : Nd} (h : Good m.v) : m.x.In ∧ m.x.ok = true := h.x m.u
theorem nds_ok {L : List Nd} (h : ∀ m ∈ L, Good m.v) : ∀ x ∈ L.map Nd.x, x.In ∧ x.ok = true := fun x hx => by
  obtain ⟨m, hm, rfl⟩ := List.mem_map.1 hx
  exact Nd.x_ok (h m hm)
/-- An event that is valid, added to a stream. -/
theorem Add_x (S : Nat) (L : List Nd) (cs : Nat → Nat) (n : Nat) (x : EvX) (a : Option Addr) (c : Nat) (w : World) (h : Strm w S L cs n) (hn : n < 1048576) (hc : ∀ k, cs k ≤ 100000000) (hok : x.ok = true) (hin : x.In) (hv : By w (.slice a x.l.length c) x.l) :
    Calls Tryd.prog 17 #[.pointer (some ⟨S, 0, none⟩), .agg #[.int .i64 x.k, .string x.s, .slice a x.l.length c, .int .u64 x.b, .int .u64 x.d, .int .u64 x.t]] w fun e w' => e = .returned (.int .i64 0) ∧ ∃ m : Nd, m.v = x.evt ∧ Strm w' S (L ++ [m]) (bump cs x.evt.kind) (n + 1) ∧ OwnB w.heap.size w' m.u m.v.e.val ∧ Mut (Own S L) w w' := by
  obtain ⟨h1, h2, h3⟩ := evt_of_ok hok hin
  have h9 := Add_ok S L cs n x.evt a c w h hn hc h1 h2 hv
  rw [← h3, show bs x.evt.e.key = x.s from by apply ByteArray.ext; exact Array.ext' rfl] at h9
  refine h9.mono ?_
  rintro e w' ⟨A, u, g1, g2, g3, g4⟩
  exact ⟨g1, ⟨A, u, x.evt⟩, rfl, g2, g3, g4⟩
theorem Good.of_x {x : EvX} (hok : x.ok = true) (hin : x.In) : Good x.evt := ⟨(evt_of_ok hok hin).1, (evt_of_ok hok hin).2.1⟩
/-- how many there are of the first kinds -/
def tot (cs : Nat → Nat) : Nat → Nat
  | 0 => 0
  | k + 1 => tot cs k + cs (k + 1)
theorem tot_bump (cs : Nat → Nat) (k n : Nat) (h1 : 1 ≤ k) : tot (bump cs k) n = tot cs n + (if k ≤ n then 1 else 0) := by
  induction n with
  | zero => show 0 = 0 + _; rw [if_neg (by omega)]
  | succ n ih =>
    show tot (bump cs k) n + bump cs k (n + 1) = tot cs n + cs (n + 1) + _
    rw [ih]
    unfold bump
    by_cases e : n + 1 = k
    · rw [if_pos e, if_neg (by omega), if_pos (by omega)]; omega
    · rw [if_neg e]
      by_cases e2 : k ≤ n
      · rw [if_pos e2, if_pos (by omega)]; omega
      · rw [if_neg e2, if_neg (by omega)]; omega
end Go.Proofs.YtapngkjgagapeaaDoor
