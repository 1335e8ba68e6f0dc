import Derived.Test.YtcofejbkbcdopaaGreatDoorR21
import Derived.Test.YtcofejbkbcdopaaGreatDoorRQ
/- Results that come in; light lists; a list that is too long; a list of zero results. -/
namespace Go.Proofs.YtcofejbkbcdopaaGreatDoor
open Go.RowKit Go.Lib
section
variable {α : Type} [Inhabited α] (f : α → List Value) (K : Nat) (hf : ∀ x, (f x).length = K)
include hf in
theorem rows_of_trod {P : Program} {H : Type} {enc : TypeId × Value → H} {ts t : TypeId} {base : Nat} {sp : Nat → Bool} {held : Bool} {W : World} {cs : List Value} {fuel : Nat} {y : DataW H × List MemPlace} (Q : α → Prop) (hK : 0 < K)
    (ht : P.underlying ts = some (.slice t)) (hC : P.cellsOf t = K)
    (hel : ∀ (cs : List Value) (n : Nat) (y : DataW H × List MemPlace), DataW.trod enc P W base sp held n t cs = some y → cs.length = K → ∃ x, cs = f x ∧ Q x)
    (h : DataW.trod enc P W base sp held fuel ts cs = some y) : ∃ a L c, cs = [.slice a L.length c] ∧ L.length ≤ c ∧ c ≤ 9223372036854775807 ∧ CellsAt W a (rows f L) ∧ ∀ x ∈ L, Q x := by
  rcases Deep.open_slice ht h with ⟨hcs, _⟩ | ⟨a, len0, cap0, m, n, D, Pl, hcs, _, hl, hm, hmm, _, hx⟩
  · exact ⟨none, [], 0, hcs, Nat.le_refl _, by decide, fun j u hj => by simp [rows] at hj, fun x hx => by cases hx⟩
  · have hlm : len0 ≤ m := by rw [hmm]; split <;> omega
    have each : ∀ i, i < len0 → ∃ x : α, Q x ∧ ∀ j u, (f x)[j]? = some u → W.cell? (a.add (i * K + j)) = some u := by
      intro i hi
      obtain ⟨cs', g1, g2⟩ := hx i (by omega)
      rw [hC] at g1
      obtain ⟨_, hlen, hcell⟩ := World.cells?_some g1
      obtain ⟨x, rfl, hw⟩ := hel _ _ _ g2 hlen
      refine ⟨x, hw, fun j u hj => ?_⟩
      have hj6 : j < K := by have := (List.getElem?_eq_some_iff.1 hj).1; rwa [hf] at this
      have := hcell j hj6
      rw [Deep.add_add, hj] at this
      exact this
    obtain ⟨q, hq⟩ := Deep.choose_lt each
    refine ⟨some a, (List.range len0).map q, cap0, by simp [hcs], by simpa using hl, by unfold maxLen at hm; omega, cellsAt_of (rows_range f K hf hK len0 q W a fun i hi => (hq i hi).2), ?_⟩
    intro x hx
    obtain ⟨i, hi, rfl⟩ := List.mem_map.1 hx
    exact (hq i (by simpa using hi)).1
end
theorem fld {P : Program} {H : Type} {enc : TypeId × Value → H} {t : TypeId} {fs : Array Field} {base : Nat} {W : World} {cs : List Value} {y : DataW H × List MemPlace} {fuel : Nat} {sp : Nat → Bool} {held : Bool}
    (hs : P.underlying t = some (.struct fs)) (h : DataW.trod enc P W base sp held fuel t cs = some y) (i o k : Nat) (T : TypeId) (hi : (fs[i]?).map (fun f => (f.offset, f.type)) = some (o, T)) (hk : P.cellsOf T = k) :
    ∃ z n, DataW.trod enc P W base sp held n T ((cs.drop o).take k) = some z := by
  obtain ⟨f, hf, e⟩ := Option.map_eq_some_iff.1 hi
  simp only [Prod.mk.injEq] at e
  obtain ⟨rfl, rfl⟩ := e
  subst hk
  exact fields_at hs h i f hf
theorem slice_of_trod {P : Program} {H : Type} {enc : TypeId × Value → H} {t e : TypeId} {base : Nat} {W : World} {cs : List Value} {y : DataW H × List MemPlace} {fuel : Nat} {sp : Nat → Bool} {held : Bool}
    (ht : P.underlying t = some (.slice e)) (h : DataW.trod enc P W base sp held fuel t cs = some y) : ∃ a l c, cs = [.slice a l c] := by
  rcases Deep.open_slice ht h with ⟨hcs, _⟩ | ⟨a, len0, cap0, m, n, D, Pl, hcs, _⟩
  · exact ⟨_, _, _, hcs⟩
  · exact ⟨_, _, _, hcs⟩
theorem one_of_take {cs : List Value} {k : Nat} {v : Value} (h : (cs.drop k).take 1 = [v]) : cs[k]? = some v := by
  have : ((cs.drop k).take 1)[0]? = some v := by rw [h]; rfl
  rw [List.getElem?_take, if_pos (by omega), List.getElem?_drop] at this
  simpa using this
theorem list6 {α : Type} {l : List α} (h : l.length = 6) : ∃ a b c d e f, l = [a, b, c, d, e, f] :=
  match l, h with
  | [a, b, c, d, e, f], _ => ⟨a, b, c, d, e, f, rfl⟩
theorem kEvK : Tryz.prog.cellsOf 90 = 1 := by kernel_rfl
theorem kStr : Tryz.prog.cellsOf 9 = 1 := by kernel_rfl
theorem kByt : Tryz.prog.cellsOf 56 = 1 := by kernel_rfl
theorem kU64 : Tryz.prog.cellsOf 75 = 1 := by kernel_rfl
theorem kTim : Tryz.prog.cellsOf 76 = 1 := by kernel_rfl
theorem kInt : Tryz.prog.cellsOf 3 = 1 := by kernel_rfl
theorem kOpK : Tryz.prog.cellsOf 74 = 1 := by kernel_rfl
theorem kErr : Tryz.prog.cellsOf 26 = 1 := by kernel_rfl
theorem kBoo : Tryz.prog.cellsOf 4 = 1 := by kernel_rfl
theorem kEvs : Tryz.prog.cellsOf 81 = 1 := by kernel_rfl
theorem kEv : Tryz.prog.cellsOf 92 = 6 := by kernel_rfl
theorem kOp : Tryz.prog.cellsOf 78 = 9 := by kernel_rfl
theorem kEnt : Tryz.prog.cellsOf 80 = 4 := by kernel_rfl
theorem kRes : Tryz.prog.cellsOf 83 = 21 := by kernel_rfl
theorem ev6_of_trod {H : Type} {enc : TypeId × Value → H} {base : Nat} {sp : Nat → Bool} {held : Bool} {W : World} {n : Nat} {y : DataW H × List MemPlace} (cs : List Value) (h : DataW.trod enc Tryz.prog W base sp held n 92 cs = some y) (hl : cs.length = 6) : ∃ x, cs = Ev6.cs x ∧ True := by
  have hs := Tryz.underlying92
  obtain ⟨y0, n0, t0⟩ := fld hs h 0 0 1 90 rfl kEvK
  obtain ⟨y1, n1, t1⟩ := fld hs h 1 1 1 9 rfl kStr
  obtain ⟨y2, n2, t2⟩ := fld hs h 2 2 1 56 rfl kByt
  obtain ⟨y3, n3, t3⟩ := fld hs h 3 3 1 75 rfl kU64
  obtain ⟨y4, n4, t4⟩ := fld hs h 4 4 1 76 rfl kTim
  obtain ⟨y5, n5, t5⟩ := fld hs h 5 5 1 76 rfl kTim
  obtain ⟨x0, e0, _⟩ := DataW.trod_int Tryz.underlying90 t0
  obtain ⟨x1, e1, _⟩ := DataW.trod_string Tryz.underlying9 t1
  obtain ⟨a2, l2, c2, e2⟩ := slice_of_trod Tryz.underlying56 t2
  obtain ⟨x3, e3, _⟩ := DataW.trod_int Tryz.underlying75 t3
  obtain ⟨x4, e4, _⟩ := DataW.trod_int Tryz.underlying76 t4
  obtain ⟨x5, e5, _⟩ := DataW.trod_int Tryz.underlying76 t5
  have g0 := one_of_take e0; have g1 := one_of_take e1; have g2 := one_of_take e2; have g3 := one_of_take e3; have g4 := one_of_take e4; have g5 := one_of_take e5
  refine ⟨⟨x0, ⟨fun i => if i = 3 then x3 else if i = 4 then x4 else x5, fun _ => x1, fun _ => a2, fun _ => l2, fun _ => c2⟩⟩, ?_, trivial⟩
  apply List.ext_getElem?
  intro i
  by_cases hi : i < 6
  · obtain rfl | rfl | rfl | rfl | rfl | rfl : i = 0 ∨ i = 1 ∨ i = 2 ∨ i = 3 ∨ i = 4 ∨ i = 5 := by omega
    all_goals assumption
  · rw [List.getElem?_eq_none (by omega), List.getElem?_eq_none (by show 6 ≤ i; omega)]
set_option maxRecDepth 100000 in
theorem res_of_trod {H : Type} {enc : TypeId × Value → H} {base : Nat} {sp : Nat → Bool} {held : Bool} {W : World} {n : Nat} {y : DataW H × List MemPlace} (cs : List Value) (h : DataW.trod enc Tryz.prog W base sp held n 83 cs = some y) (hl : cs.length = 21) :
    ∃ x, cs = Res.cs x ∧ CellsAt W x.ea (rows Ev6.cs x.el) := by
  have hs := Tryz.underlying83
  obtain ⟨yo, no, tO⟩ := fld hs h 0 0 9 78 rfl kOp
  obtain ⟨ye, ne, te⟩ := fld hs h 5 13 4 80 rfl kEnt
  have ho := Tryz.underlying78
  have hn := Tryz.underlying80
  obtain ⟨_, _, t0⟩ := fld ho tO 0 0 1 74 rfl kOpK
  obtain ⟨_, _, t1⟩ := fld ho tO 1 1 1 76 rfl kTim
  obtain ⟨_, _, t2⟩ := fld ho tO 2 2 1 9 rfl kStr
  obtain ⟨_, _, t3⟩ := fld ho tO 3 3 1 56 rfl kByt
  obtain ⟨_, _, t4⟩ := fld ho tO 4 4 1 76 rfl kTim
  obtain ⟨_, _, t5⟩ := fld ho tO 5 5 1 3 rfl kInt
  obtain ⟨_, _, t6⟩ := fld ho tO 6 6 1 3 rfl kInt
  obtain ⟨_, _, t7⟩ := fld ho tO 7 7 1 3 rfl kInt
  obtain ⟨_, _, t8⟩ := fld ho tO 8 8 1 75 rfl kU64
  obtain ⟨_, _, t9⟩ := fld hs h 1 9 1 76 rfl kTim
  obtain ⟨_, _, t10⟩ := fld hs h 2 10 1 26 rfl kErr
  obtain ⟨_, _, t11⟩ := fld hs h 3 11 1 4 rfl kBoo
  obtain ⟨_, _, t12⟩ := fld hs h 4 12 1 56 rfl kByt
  obtain ⟨_, _, t13⟩ := fld hn te 0 0 1 9 rfl kStr
  obtain ⟨_, _, t14⟩ := fld hn te 1 1 1 56 rfl kByt
  obtain ⟨_, _, t15⟩ := fld hn te 2 2 1 76 rfl kTim
  obtain ⟨_, _, t16⟩ := fld hn te 3 3 1 75 rfl kU64
  obtain ⟨_, _, t17⟩ := fld hs h 6 17 1 3 rfl kInt
  obtain ⟨_, _, t18⟩ := fld hs h 7 18 1 81 rfl kEvs
  obtain ⟨_, _, t19⟩ := fld hs h 8 19 1 3 rfl kInt
  obtain ⟨_, _, t20⟩ := fld hs h 9 20 1 3 rfl kInt
  obtain ⟨x0, e0, _⟩ := DataW.trod_int Tryz.underlying74 t0
  obtain ⟨x1, e1, _⟩ := DataW.trod_int Tryz.underlying76 t1
  obtain ⟨x2, e2, _⟩ := DataW.trod_string Tryz.underlying9 t2
  obtain ⟨a3, l3, c3, e3⟩ := slice_of_trod Tryz.underlying56 t3
  obtain ⟨x4, e4, _⟩ := DataW.trod_int Tryz.underlying76 t4
  obtain ⟨x5, e5, _⟩ := DataW.trod_int Tryz.underlying3 t5
  obtain ⟨x6, e6, _⟩ := DataW.trod_int Tryz.underlying3 t6
  obtain ⟨x7, e7, _⟩ := DataW.trod_int Tryz.underlying3 t7
  obtain ⟨x8, e8, _⟩ := DataW.trod_int Tryz.underlying75 t8
  obtain ⟨x9, e9, _⟩ := DataW.trod_int Tryz.underlying76 t9
  obtain ⟨x10, e10, _⟩ := DataW.trod_int Tryz.underlying26 t10
  obtain ⟨x11, e11, _⟩ := DataW.trod_bool Tryz.underlying4 t11
  obtain ⟨a12, l12, c12, e12⟩ := slice_of_trod Tryz.underlying56 t12
  obtain ⟨x13, e13, _⟩ := DataW.trod_string Tryz.underlying9 t13
  obtain ⟨a14, l14, c14, e14⟩ := slice_of_trod Tryz.underlying56 t14
  obtain ⟨x15, e15, _⟩ := DataW.trod_int Tryz.underlying76 t15
  obtain ⟨x16, e16, _⟩ := DataW.trod_int Tryz.underlying75 t16
  obtain ⟨x17, e17, _⟩ := DataW.trod_int Tryz.underlying3 t17
  obtain ⟨a18, E, c18, e18, _, _, hE, _⟩ := rows_of_trod Ev6.cs 6 Ev6.cs_len (fun _ => True) (by decide) Tryz.underlying81 kEv (fun cs n y h hl => ev6_of_trod cs h hl) t18
  obtain ⟨x19, e19, _⟩ := DataW.trod_int Tryz.underlying3 t19
  obtain ⟨x20, e20, _⟩ := DataW.trod_int Tryz.underlying3 t20
  have up : ∀ (l : List Value) (m k : Nat) (v : Value), (l.take m)[k]? = some v → l[k]? = some v := fun l m k v hv => by
    rw [List.getElem?_take] at hv
    split at hv
    · exact hv
    · cases hv
  have dn : ∀ (l : List Value) (m k : Nat) (v : Value), (l.drop m)[k]? = some v → l[m + k]? = some v := fun l m k v hv => by rwa [List.getElem?_drop] at hv
  have g0 := dn _ _ _ _ (up _ _ _ _ (one_of_take e0)); have g1 := dn _ _ _ _ (up _ _ _ _ (one_of_take e1)); have g2 := dn _ _ _ _ (up _ _ _ _ (one_of_take e2))
  have g3 := dn _ _ _ _ (up _ _ _ _ (one_of_take e3)); have g4 := dn _ _ _ _ (up _ _ _ _ (one_of_take e4)); have g5 := dn _ _ _ _ (up _ _ _ _ (one_of_take e5))
  have g6 := dn _ _ _ _ (up _ _ _ _ (one_of_take e6)); have g7 := dn _ _ _ _ (up _ _ _ _ (one_of_take e7)); have g8 := dn _ _ _ _ (up _ _ _ _ (one_of_take e8))
  have g9 := one_of_take e9; have g10 := one_of_take e10; have g11 := one_of_take e11; have g12 := one_of_take e12
  have g13 := dn _ _ _ _ (up _ _ _ _ (one_of_take e13)); have g14 := dn _ _ _ _ (up _ _ _ _ (one_of_take e14)); have g15 := dn _ _ _ _ (up _ _ _ _ (one_of_take e15)); have g16 := dn _ _ _ _ (up _ _ _ _ (one_of_take e16))
  have g17 := one_of_take e17; have g18 := one_of_take e18; have g19 := one_of_take e19; have g20 := one_of_take e20
  refine ⟨⟨x0, ⟨fun i => if i = 1 then x1 else if i = 4 then x4 else if i = 5 then x5 else if i = 6 then x6 else if i = 7 then x7 else if i = 8 then x8 else if i = 9 then x9 else if i = 15 then x15 else if i = 16 then x16 else x17,
    fun i => if i = 2 then x2 else x13, fun i => if i = 3 then a3 else if i = 12 then a12 else a14, fun i => if i = 3 then l3 else if i = 12 then l12 else l14, fun i => if i = 3 then c3 else if i = 12 then c12 else c14⟩, x10, x11, a18, c18, E, x19, x20⟩, ?_, hE⟩
  apply List.ext_getElem?
  intro i
  by_cases hi : i < 21
  · match i, hi with
    | 0, _ => exact g0
    | 1, _ => exact g1
    | 2, _ => exact g2
    | 3, _ => exact g3
    | 4, _ => exact g4
    | 5, _ => exact g5
    | 6, _ => exact g6
    | 7, _ => exact g7
    | 8, _ => exact g8
    | 9, _ => exact g9
    | 10, _ => exact g10
    | 11, _ => exact g11
    | 12, _ => exact g12
    | 13, _ => exact g13
    | 14, _ => exact g14
    | 15, _ => exact g15
    | 16, _ => exact g16
    | 17, _ => exact g17
    | 18, _ => exact g18
    | 19, _ => exact g19
    | 20, _ => exact g20
    | k + 21, hk => exact absurd hk (by omega)
  · rw [List.getElem?_eq_none (by omega), List.getElem?_eq_none (by show 21 ≤ i; omega)]
/-- Results that came in. -/
def ResArg (W : World) (v : Value) (L : List Res) : Prop := RowsArg Res.cs (fun x => CellsAt W x.ea (rows Ev6.cs x.el)) W v L
set_option maxRecDepth 100000 in
theorem open_res {H : Type} {enc : TypeId × Value → H} {base : Nat} {W : World} {v : Value} {d : DataW H} {p : List MemPlace}
    (ho : Value.okWide Tryz.prog W .any base 37 v) (h : DataW.Trod enc Tryz.prog W 0 (fun _ => true) true 37 v d p) : ∃ L, ResArg W v L :=
  open_rows Res.cs 21 Res.cs_len (fun x => CellsAt W x.ea (rows Ev6.cs x.el)) (by decide) Tryz.underlying37 kRes (fun _ _ _ cs n y hh hl => res_of_trod cs hh hl) ho h
end Go.Proofs.YtcofejbkbcdopaaGreatDoor
