import Derived.Test.YtnblbneehogadaaHM
import Derived.MapKept
import Derived.WideLaws
import Derived.Maps.RangeRun
/- The map of the watchers: raw laws of lookup, of a new key, of a key that is struck. -/
namespace Go.Proofs.Ytnblbneehogadaa
open Go.RowKit Go.ChangeMaps
/-- Where a key lies. -/
def posI : List (Int × Value) → Int → Nat → Option (Nat × Value)
  | [], _, _ => none
  | p :: M, x, i => if p.1 = x then some (i, p.2) else posI M x (i + 1)
/-- The value of a key. -/
def getI : List (Int × Value) → Int → Option Value
  | [], _ => none
  | p :: M, x => if p.1 = x then some p.2 else getI M x
theorem posI_get (x : Int) : ∀ (M : List (Int × Value)) (i : Nat), (posI M x i).map (·.2) = getI M x
  | [], _ => rfl
  | p :: M, i => by
    unfold posI getI
    split
    · rfl
    · exact posI_get x M (i + 1)
theorem findI (x : Int) : ∀ (M : List (Int × Value)) (es : List MapEntry) (i : Nat), prs es = M.map cI → Instr.findNow (.int .i64) (.int .i64 x) es i = some (posI M x i)
  | [], es, i, h => by
    cases es with
    | nil => rfl
    | cons e es => simp [prs] at h
  | p :: M, es, i, h => by
    cases es with
    | nil => simp [prs] at h
    | cons e es =>
      simp only [prs, cI, List.map_cons, List.cons.injEq, Prod.mk.injEq] at h
      obtain ⟨⟨h1, h2⟩, h3⟩ := h
      unfold Instr.findNow posI
      rw [h1]
      by_cases hx : p.1 = x
      · subst hx
        simp [Instr.sameNow, h2]
      · have hb : (x == p.1) = false := by rw [beq_eq_false_iff_ne]; omega
        simp only [Instr.sameNow, if_pos, hb]
        rw [findI x M es (i + 1) h3, if_neg hx]
theorem chkI (em : Bool) (a : Int) (w : World) : (Instr.checkKey em 10000 3 (.int .i64 a)).run Try.prog w = .ok () w := by
  have : (Instr.checkKey em (9999 + 1) 3 (.int .i64 a)).run Try.prog w = .ok () w := by
    generalize 9999 = n
    simp [Instr.checkKey, run_underlying Try.underlying3]
  exact this
theorem iFind {es : Array MapEntry} {M : List (Int × Value)} (h : prs es.toList = M.map cI) (x : Int) (w : World) : (Instr.findKey 3 (.int .i64 x) es.toList).run Try.prog w = .ok (posI M x 0) w :=
  MapKept.run_findKey Try.underlying3 (findI x M es.toList 0 h)
theorem zeroPtr (w : World) : (zeroValue 74).run Try.prog w = .ok (.pointer none) w := by kernel_rfl
theorem iLook {w : World} {B : Nat} {M : List (Int × Value)} (h : MAt w B M) (x : Int) :
    (Instr.lookup 34 (.map (some B)) (.int .i64 x) false).run Try.prog w = .ok ((getI M x).getD (.pointer none)) w := by
  obtain ⟨es, clock, h1, h2⟩ := h
  have h3 := iFind h2.pairs x w
  rw [← posI_get x M 0]
  cases hp : posI M x 0 with
  | none =>
    rw [hp] at h3
    simp [Instr.lookup, run_underlying Try.underlying34, MapKept.run_getObj_map h1, chkI, h3, Result.andThen, Sem.run_bind, zeroPtr]
  | some p =>
    rw [hp] at h3
    simp [Instr.lookup, run_underlying Try.underlying34, MapKept.run_getObj_map h1, chkI, h3, Result.andThen, Sem.run_bind]
theorem iLook0 (x : Int) (w : World) : (Instr.lookup 34 (.map none) (.int .i64 x) false).run Try.prog w = .ok (.pointer none) w := by
  have h3 := iFind (es := #[]) (M := []) rfl x w
  simp only [posI] at h3
  simp [h3, Instr.lookup, run_underlying Try.underlying34, chkI, Result.andThen, Sem.run_bind, zeroPtr]
theorem MAt.size {w : World} {B : Nat} {M : List (Int × Value)} (h : MAt w B M) : ∃ es clock, w.heap[B]? = some (.map es clock) ∧ es.size = M.length := by
  obtain ⟨es, clock, h1, h2⟩ := h
  refine ⟨es, clock, h1, ?_⟩
  have := congrArg List.length h2.pairs
  simpa [prs] using this
theorem setBlock_same {w : World} {B : Nat} (h : B < w.heap.size) (o : Obj) : (setBlock w B o).heap[B]? = some o := by
  show (w.heap.setIfInBounds B _)[B]? = _
  rw [Array.getElem?_setIfInBounds_self_of_lt h]
theorem setBlock_other {w : World} {A B : Nat} (hne : A ≠ B) (o : Obj) : (setBlock w B o).heap[A]? = w.heap[A]? := by
  show (w.heap.setIfInBounds B _)[A]? = _
  rw [Array.getElem?_setIfInBounds, if_neg (fun e => hne e.symm)]
theorem Mut.block (w : World) (B : Nat) (o : Obj) : Mut (fun j => j = B) w (setBlock w B o) := by
  refine ⟨?_, fun j _ hj => setBlock_other hj o, fun w0 h0 h1 => ?_⟩
  · show w.heap.size ≤ (w.heap.setIfInBounds B _).size
    rw [Array.size_setIfInBounds]
    exact Nat.le_refl _
  · refine ⟨h0.os, h0.tape, h0.output, ?_, fun j hj => ?_⟩
    · show w0.heap.size ≤ (w.heap.setIfInBounds B _).size
      rw [Array.size_setIfInBounds]
      exact h0.size
    · have := h1 B rfl
      exact (setBlock_other (by omega) o).trans (h0.block j hj)
theorem snoc_nodup {α : Type} {l : List α} {a : α} (h : l.Nodup) (ha : a ∉ l) : (l ++ [a]).Nodup :=
  List.nodup_append.2 ⟨h, by simp, fun x hx y hy e => by simp at hy; subst hy; subst e; exact ha hx⟩
theorem pos_none {M : List (Int × Value)} {x : Int} (h : x ∉ M.map (·.1)) : ∀ i, posI M x i = none := by
  induction M with
  | nil => intro i; rfl
  | cons p M ih =>
    intro i
    simp only [List.map_cons, List.mem_cons, not_or] at h
    unfold posI
    rw [if_neg (fun e => h.1 e.symm)]
    exact ih h.2 (i + 1)
theorem pos_some {M : List (Int × Value)} (hn : (M.map (·.1)).Nodup) {j : Nat} {x : Int} {v : Value} (hj : M[j]? = some (x, v)) : posI M x 0 = some (j, v) := by
  have key : ∀ (M : List (Int × Value)) (i j : Nat), (M.map (·.1)).Nodup → M[j]? = some (x, v) → posI M x i = some (i + j, v) := by
    intro M
    induction M with
    | nil => intro i j _ h; simp at h
    | cons p M ih =>
      intro i j hn h
      rw [List.map_cons, List.nodup_cons] at hn
      unfold posI
      cases j with
      | zero =>
        simp at h
        subst h
        rw [if_pos rfl]; rfl
      | succ j =>
        have h' : M[j]? = some (x, v) := by simpa using h
        have hm : x ∈ M.map (·.1) := List.mem_map.2 ⟨_, List.mem_of_getElem? h', rfl⟩
        rw [if_neg (fun e : p.1 = x => hn.1 (e ▸ hm)), ih (i + 1) j hn.2 h', show i + 1 + j = i + (j + 1) by omega]
  have := key M 0 j hn hj
  rw [Nat.zero_add] at this
  exact this
/-- A new key is laid into the map. -/
theorem iPut {w : World} {B : Nat} {M : List (Int × Value)} (h : MAt w B M) (x : Int) (v : Value) (hx : x ∉ M.map (·.1)) : ∃ o, (Instr.mapUpdate 34 (.map (some B)) (.int .i64 x) v).run Try.prog w = .ok () (setBlock w B o) ∧ MAt (setBlock w B o) B (M ++ [(x, v)]) := by
  obtain ⟨es, clock, h1, h2⟩ := h
  have h3 := iFind h2.pairs x w
  have hlt := blk_lt h1
  rw [pos_none hx] at h3
  refine ⟨.map (es.push { key := .int .i64 x, val := v, born := clock }) (clock + 1), ?_, es.push { key := .int .i64 x, val := v, born := clock }, clock + 1, setBlock_same hlt _, ?_, ?_, ?_⟩
  · simp [Instr.mapUpdate, run_underlying Try.underlying34, MapKept.run_getObj_map h1, chkI, h3, MapKept.run_setObj_map _ h1, Result.andThen, setBlock, Sem.run_bind]
  · have h4 := h2.pairs
    rw [Array.toList_push]
    unfold prs at h4 ⊢
    rw [List.map_append, h4, List.map_append]
    rfl
  · intro e he
    rw [Array.toList_push, List.mem_append] at he
    rcases he with he | he
    · have := h2.born e he; omega
    · simp at he; subst he; exact Nat.lt_succ_self _
  · rw [Array.toList_push, List.map_append]
    refine snoc_nodup h2.ones fun hm => ?_
    obtain ⟨e, he, hb⟩ := List.mem_map.1 hm
    have := h2.born e he
    simp only at hb
    omega
theorem erase_map {α β : Type} (f : α → β) : ∀ (l : List α) (j : Nat), (l.eraseIdx j).map f = (l.map f).eraseIdx j
  | [], _ => rfl
  | a :: l, 0 => rfl
  | a :: l, j + 1 => by
    show f a :: (l.eraseIdx j).map f = f a :: (l.map f).eraseIdx j
    rw [erase_map f l j]
/-- A key is struck. -/
theorem iDel {w : World} {B : Nat} {M : List (Int × Value)} (h : MAt w B M) (hn : (M.map (·.1)).Nodup) (j : Nat) (x : Int) (v : Value) (hj : M[j]? = some (x, v)) (ty : TypeId) :
    ∃ o, (Builtin.delete_ #[34, 3] ty #[.map (some B), .int .i64 x]).run Try.prog w = .ok (.tuple #[]) (setBlock w B o) ∧ MAt (setBlock w B o) B (M.eraseIdx j) := by
  obtain ⟨es, clock, h1, h2⟩ := h
  have h3 := iFind h2.pairs x w
  rw [pos_some hn hj] at h3
  refine ⟨.map (es.eraseIdxIfInBounds j) clock, ?_, es.eraseIdxIfInBounds j, clock, setBlock_same (blk_lt h1) _, ?_, ?_, ?_⟩
  · simp [Builtin.delete_, run_underlying Try.underlying34, MapKept.run_getObj_map h1, chkI, h3, MapKept.run_setObj_map _ h1, Result.andThen, setBlock, Sem.run_bind]
  · have h4 := h2.pairs
    unfold prs at h4 ⊢
    rw [Array.toList_eraseIdxIfInBounds, erase_map, h4, erase_map]
  · intro e he
    rw [Array.toList_eraseIdxIfInBounds] at he
    exact h2.born e (List.mem_of_mem_eraseIdx he)
  · rw [Array.toList_eraseIdxIfInBounds]
    exact h2.ones.sublist ((List.eraseIdx_sublist _ _).map _)
end Go.Proofs.Ytnblbneehogadaa
