
import Derived.Test.YtcofejbkbcdopaaGreatDoorR29
import Derived.Test.YtcofejbkbcdopaaGreatDoorR30
import Derived.Test.YtcofejbkbcdopaaGreatDoorR22
/- Scores that come in; many copies of one score: Scores, ReadScores and same of them; lists and texts that are too long. -/
namespace Go.Proofs.YtcofejbkbcdopaaGreatDoor
open Go.RowKit Go.Lib
theorem si_of_trod {H : Type} {enc : TypeId × Value → H} {base : Nat} {sp : Nat → Bool} {held : Bool} {W : World} {n : Nat} {y : DataW H × List MemPlace} (cs : List Value) (h : DataW.trod enc Tryz.prog W base sp held n 50 cs = some y) (hl : cs.length = 4) : ∃ x, cs = SI.cs x ∧ True := by
  have hs := Tryz.underlying50
  have kK : Tryz.prog.cellsOf 46 = 1 := by kernel_rfl
  have kT : Tryz.prog.cellsOf 48 = 2 := by kernel_rfl
  obtain ⟨yt, nt, tT⟩ := fld hs h 2 2 2 48 rfl kT
  obtain ⟨_, _, t0⟩ := fld hs h 0 0 1 46 rfl kK
  obtain ⟨_, _, t1⟩ := fld hs h 1 1 1 3 rfl kInt
  obtain ⟨_, _, t2⟩ := fld Tryz.underlying48 tT 0 0 1 3 rfl kInt
  obtain ⟨_, _, t3⟩ := fld Tryz.underlying48 tT 1 1 1 3 rfl kInt
  obtain ⟨x0, e0, _⟩ := DataW.trod_int Tryz.underlying46 t0
  obtain ⟨x1, e1, _⟩ := DataW.trod_int Tryz.underlying3 t1
  obtain ⟨x2, e2, _⟩ := DataW.trod_int Tryz.underlying3 t2
  obtain ⟨x3, e3, _⟩ := DataW.trod_int Tryz.underlying3 t3
  have g0 := one_of_take e0
  have g1 := one_of_take e1
  have up : ∀ (l : List Value) (m k : Nat) (v : Value), (l.take m)[k]? = some v → l[k]? = some v := fun l m k v hv => by
    rw [List.getElem?_take] at hv
    split at hv
    · exact hv
    · cases hv
  have dn : ∀ (l : List Value) (m k : Nat) (v : Value), (l.drop m)[k]? = some v → l[m + k]? = some v := fun l m k v hv => by rwa [List.getElem?_drop] at hv
  have g2 := dn _ _ _ _ (up _ _ _ _ (one_of_take e2))
  have g3 := dn _ _ _ _ (up _ _ _ _ (one_of_take e3))
  refine ⟨⟨x0, x1, x2, x3⟩, ?_, trivial⟩
  apply List.ext_getElem?
  intro i
  by_cases hi : i < 4
  · match i, hi with
    | 0, _ => exact g0
    | 1, _ => exact g1
    | 2, _ => exact g2
    | 3, _ => exact g3
    | k + 4, hk => exact absurd hk (by omega)
  · rw [List.getElem?_eq_none (by omega), List.getElem?_eq_none (by show 4 ≤ i; omega)]
/-- Scores that came in. -/
def ScsArg (W : World) (v : Value) (L : List SI) : Prop := RowsArg SI.cs (fun _ => True) W v L
set_option maxRecDepth 100000 in
theorem open_scs {H : Type} {enc : TypeId × Value → H} {base : Nat} {W : World} {v : Value} {d : DataW H} {p : List MemPlace}
    (ho : Value.okWide Tryz.prog W .any base 36 v) (h : DataW.Trod enc Tryz.prog W 0 (fun _ => true) true 36 v d p) : ∃ L, ScsArg W v L :=
  open_rows SI.cs 4 (fun _ => rfl) (fun _ => True) (by decide) Tryz.underlying36 (by kernel_rfl) (fun _ _ _ cs n y hh hl => si_of_trod cs hh hl) ho h
theorem allS_rep (x : SI) (hx : x.ok = true) (n : Nat) : allS (List.replicate n x) = true := by
  unfold allS
  rw [List.all_eq_true]
  intro y hy
  rw [List.eq_of_mem_replicate hy]
  exact hx
theorem scores_rep (x : SI) (hx : x.ok = true) (n : Nat) (hn : n ≤ 2000) (a : Option Addr) (c : Nat) (w : World) (hC : CellsAt w a (rows SI.cs (List.replicate n x))) (ht : Tabs w) :
    Calls Tryz.prog 11 #[.slice a n c] w fun e w' => e = .returned (if 1000 < n then .tuple #[.string ⟨#[]⟩, .int .i64 7] else .tuple #[.string ⟨(txtS (List.replicate n x.sc)).toArray⟩, .int .i64 0]) ∧ Ext w w' := by
  have h := scores_any a c (List.replicate n x) w (by rw [List.length_replicate]; omega) hC ht
  unfold ScsP at h
  rw [List.length_replicate, allS_rep x hx n, if_pos rfl] at h
  unfold scs at h
  rw [List.map_replicate] at h
  exact h
theorem rep_len (x : Sc) (hx : x.ok) (n : Nat) : (txtS (List.replicate n x)).length ≤ 73 * n := by
  have := txtS_len (List.replicate n x) (fun y hy => by rw [List.eq_of_mem_replicate hy]; exact hx)
  rwa [List.length_replicate] at this
theorem line_pos (x : Sc) : 1 ≤ x.line.length := by
  obtain ⟨q, h, _⟩ := line_plain x
  rw [h]; simp
theorem rep_ge (x : Sc) (n : Nat) : n ≤ (txtS (List.replicate n x)).length := by
  induction n with
  | zero => simp
  | succ n ih =>
    rw [txt_replicate, List.length_append]
    have := line_pos x
    omega
theorem read_rep (x : Sc) (hx : x.ok) (n : Nat) : rdS [] (linesL (txtS (List.replicate n x)).length (txtS (List.replicate n x))) = if 1000 < n then ([], 1001, 6) else (List.replicate n x, 0, 0) := by
  have hall : ∀ y ∈ List.replicate n x, y.ok := fun y hy => by rw [List.eq_of_mem_replicate hy]; exact hx
  rw [lines_txt (List.replicate n x) _ (by rw [List.length_replicate]; exact rep_ge x n)]
  by_cases h : 1000 < n
  · rw [if_pos h, rdS_full (List.replicate n x) hall [] (by simp) (by simpa using h)]
  · rw [if_neg h, rdS_txt (List.replicate n x) hall [] (by simp; omega)]
    rfl
end Go.Proofs.YtcofejbkbcdopaaGreatDoor
