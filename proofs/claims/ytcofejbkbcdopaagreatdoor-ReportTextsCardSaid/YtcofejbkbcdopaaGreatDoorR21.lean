
import Derived.Test.YtcofejbkbcdopaaGreatDoorR20
import Derived.Deep.CutRange
/- Contract: the law's count, for at most 4096 results. -/
namespace Go.Proofs.YtcofejbkbcdopaaGreatDoor
open Go.RowKit
def s1 (F : Nat → Int) (x : Res) : Nat → Int := if x.e = 0 then (if x.read = true then upR F 2 (F 2 + 1) else if x.put = true then upR F 4 (F 4 + 1) else F) else upR F 1 (F 1 + 1)
def s2 (F : Nat → Int) (x : Res) : Nat → Int := if x.e = 0 ∧ x.read = true ∧ x.hit = true then upR F 3 (F 3 + 1) else F
def s3 (F : Nat → Int) (x : Res) : Nat → Int := upR F 10 (gt x.len (F 10))
def s4 (F : Nat → Int) (x : Res) : Nat → Int := upR F 11 (gt x.cost (F 11))
def Bd (F : Nat → Int) (M : Int) : Prop := ∀ i, i < 10 → 0 ≤ F i ∧ F i ≤ M
theorem Bd.up {F : Nat → Int} {M : Int} (h : Bd F M) (q : Nat) : Bd (upR F q (F q + 1)) (M + 1) := by
  intro i hi
  unfold upR
  have := h i hi
  split
  · subst_vars; omega
  · omega
theorem Bd.s1 {F : Nat → Int} {M : Int} (h : Bd F M) (x : Res) : Bd (s1 F x) (M + 1) := by
  have w : Bd F (M + 1) := fun i hi => by have := h i hi; omega
  unfold Proofs.YtcofejbkbcdopaaGreatDoor.s1
  repeat' split
  all_goals first
    | exact w
    | exact h.up _
theorem Bd.s2 {F : Nat → Int} {M : Int} (h : Bd F M) (x : Res) : Bd (s2 F x) (M + 1) := by
  have w : Bd F (M + 1) := fun i hi => by have := h i hi; omega
  unfold Proofs.YtcofejbkbcdopaaGreatDoor.s2
  split
  · exact h.up _
  · exact w
theorem Bd.s3 {F : Nat → Int} {M : Int} (h : Bd F M) (x : Res) : Bd (s3 F x) M := fun i hi => by
  have := h i hi
  unfold Proofs.YtcofejbkbcdopaaGreatDoor.s3 upR
  rw [if_neg (by omega)]
  exact this
theorem Bd.s4 {F : Nat → Int} {M : Int} (h : Bd F M) (x : Res) : Bd (s4 F x) M := fun i hi => by
  have := h i hi
  unfold Proofs.YtcofejbkbcdopaaGreatDoor.s4 upR
  rw [if_neg (by omega)]
  exact this
theorem s_all (f : Nat → Int) (n : Int) (x : Res) : ∀ i, i < 12 → evR (s4 (s3 (s2 (s1 (upR f 0 n) x) x) x) x) x.el i = upR (stepR f x) 0 n i := by
  apply cases12
  all_goals by_cases he : x.e = 0 <;> cases hr : x.read <;> cases hp : x.put <;> cases hh : x.hit
  all_goals first
    | (exfalso
       have e1 : x.read = (x.k == 3 || x.k == 4 || x.k == 5) := rfl
       have e2 : x.put = (x.k == 1 || x.k == 2) := rfl
       rw [hr] at e1
       rw [hp] at e2
       simp only [Eq.comm (a := true), Bool.or_eq_true, beq_iff_eq] at e1 e2
       omega)
    | (intro i h5 h9
       simp [upR, evR, s1, s2, s3, s4, stepR, h5, h9, he, hr, hp, hh, show ¬ i = 0 by omega, show ¬ i = 1 by omega, show ¬ i = 2 by omega, show ¬ i = 3 by omega, show ¬ i = 4 by omega, show ¬ i = 10 by omega, show ¬ i = 11 by omega]; done)
    | (simp [upR, evR, s1, s2, s3, s4, stepR, he, hr, hp, hh]; done)
theorem upR_same (F : Nat → Int) (q : Nat) (v : Int) (h : v = F q) : ∀ i, i < 12 → F i = upR F q v i := fun i _ => by
  unfold upR
  split
  · subst_vars; rfl
  · rfl
theorem Ext.setRow {w0 w : World} (h : Ext w0 w) {g : Nat} (hg : w0.heap.size ≤ g) (c : Array Value) : Ext w0 (w.setRow g c) :=
  ⟨h.os, h.tape, h.output, by have := h.size; simp [World.setRow]; exact this, fun k hk => by
    rw [← h.block k hk]
    unfold World.setRow
    rw [Array.getElem?_modify, if_neg (by omega)]⟩
theorem blk_put2 {w : World} {C o X : Nat} {v : Value} {b : Obj} (h : w.heap[X]? = some b) (ne : X ≠ C) : (w.setCell ⟨C, o, none⟩ v).heap[X]? = some b := (heap_setCell_other _ _ _ _ ne).trans h
theorem results_one {fn : Func} {p : Tmp} {ty : TypeId} (h : fn.results = #[.cell p ty]) (tmps : Array Value) (P : Program) (w : World) :
    (results fn tmps).run P w = ((asAddr (tmps.getD p undef)).run P w).andThen fun a w₁ => (loadVar ty a).run P w₁ := by
  simp only [results, h]
  simp [Sem.run_bind, Result.andThen]
/-- A whole store into a block. -/
theorem wpList_store_row {P : Program} {ops : Array Oper} {rest : List Oper} {o : Oper} {a : Act} {Q : Exit → Act → World → Prop} {w : World} (hgd : o.guard = none) (ty : TypeId) (x y : Operand) (ho : o.op = .store ty x y)
    (g : Nat) (cs : Array Value) (hx : a.eval x = .pointer (some ⟨g, 0, none⟩)) (hy : a.eval y = .agg cs) (t : TypeId) (old : Array Value) (hg : w.heap[g]? = some (.cells old t (0, 0))) (hi : (P.info? ty).map (·.size) = some cs.size) (hz : old.size = cs.size) (h1 : cs.all (·.oneCell') = true)
    (h : wpList P ops Q rest (a.put o.dst undef) (w.setRow g cs)) : wpList P ops Q (o :: rest) a w :=
  wpList_plain hgd fun _ hK => wp_store_row ty x y ho g cs hx hy t old hg hi hz h1 (hK _ _ h)
end Go.Proofs.YtcofejbkbcdopaaGreatDoor
