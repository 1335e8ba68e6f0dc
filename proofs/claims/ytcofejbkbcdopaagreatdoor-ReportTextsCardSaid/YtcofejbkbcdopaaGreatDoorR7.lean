import Derived.Test.YtcofejbkbcdopaaGreatDoorR6
import Derived.Test.YtcofejbkbcdopaaGreatDoorRI
/- Contract of the report's ReadScores: the scores with a text, line by line. -/
namespace Go.Proofs.YtcofejbkbcdopaaGreatDoor
open Go.RowKit Go.Shelf
attribute [local go_sem] Oper.semAt_some
theorem infoScore : (Tryz.prog.info? 50).map (fun i => (i.zero, i.size, i.bytes)) = some (some (.agg #[.int .i64 0, .int .i64 0, .int .i64 0, .int .i64 0]), 4, 32) := by kernel_rfl
def Sc.cs (x : Sc) : List Value := [.int .i64 x.k, .int .i64 x.size, .int .i64 x.b, .int .i64 x.a]
def rowsS (l : List Sc) : List Value := l.flatMap Sc.cs
theorem rowsS_snoc (l : List Sc) (x : Sc) : rowsS (l ++ [x]) = rowsS l ++ [.int .i64 x.k, .int .i64 x.size, .int .i64 x.b, .int .i64 x.a] := by simp [rowsS, Sc.cs]
theorem linesL_one (n : Nat) (l : List UInt8) (h : l ≠ []) : linesL (n + 1) l = lnA l :: linesL n (lnZ l) := by
  conv => lhs; unfold linesL
  rw [if_neg h]
  unfold lnA lnZ
  cases cF 10 l with
  | true => rfl
  | false => cases n <;> rfl
theorem lnZ_lt {l : List UInt8} (h : l ≠ []) : (lnZ l).length < l.length := by
  unfold lnZ
  have h0 : 0 < l.length := List.length_pos_iff.2 h
  rcases idx_cA l with ⟨h1, h2, h3⟩ | ⟨h1, h2⟩
  · rw [if_pos h1]
    have := congrArg List.length h3
    simp at this; omega
  · rw [if_neg (by rw [h1]; decide)]; exact h0
theorem lnA_le (l : List UInt8) : (lnA l).length ≤ l.length := by
  unfold lnA
  rcases idx_cA l with ⟨h1, h2, h3⟩ | ⟨h1, h2⟩
  · rw [if_pos h1]
    have := congrArg List.length h3
    simp at this ⊢; omega
  · rw [if_neg (by rw [h1]; decide)]; exact Nat.le_refl _
theorem rdS_nil (acc : List Sc) (n : Nat) : rdS acc (linesL n []) = (acc, 0, 0) := by cases n <;> rfl
theorem rdS_full1 {acc : List Sc} (h : acc.length = 1000) (t : List UInt8) (ts : List (List UInt8)) : rdS acc (t :: ts) = ([], 1001, 6) := by unfold rdS; rw [if_pos h]
theorem rdS_none {acc : List Sc} (h : acc.length ≠ 1000) {t : List UInt8} (ht : readL t = none) (ts : List (List UInt8)) : rdS acc (t :: ts) = ([], acc.length + 1, 6) := by unfold rdS; rw [if_neg h, ht]
theorem rdS_some {acc : List Sc} (h : acc.length ≠ 1000) {t : List UInt8} {x : Sc} (ht : readL t = some x) (ts : List (List UInt8)) : rdS acc (t :: ts) = rdS (acc ++ [x]) ts := by
  conv => lhs; unfold rdS
  rw [if_neg h, ht]
/-- The blocks of the call: the list, its place of an error, the error. -/
structure PS (w : World) (acc : List Sc) (W : World) : Prop where
  ext : Ext w W
  l : ∃ a c, W.heap[w.heap.size]? = some (.cells #[.slice a acc.length c] 36 (0, 0)) ∧ W.ownsRow (w.heap.size + 4) 50 4 (.slice a acc.length c) acc.length (rowsS acc)
  a : W.heap[w.heap.size + 1]? = some (.cells #[.int .i64 0] 3 (0, 0))
  e : W.heap[w.heap.size + 1 + 1]? = some (.cells #[.int .i64 0] 26 (0, 0))
  size : w.heap.size + 4 ≤ W.heap.size
  few : acc.length ≤ 1000
structure PF (w : World) (n : Nat) (W : World) : Prop where
  ext : Ext w W
  l : W.heap[w.heap.size]? = some (.cells #[.slice none 0 0] 36 (0, 0))
  a : W.heap[w.heap.size + 1]? = some (.cells #[.int .i64 n] 3 (0, 0))
  e : W.heap[w.heap.size + 1 + 1]? = some (.cells #[.int .i64 6] 26 (0, 0))
theorem own_blk {B : Nat} {W W' : World} {row : Option Nat} (hg : W.grownBy W' row) (hr : ∀ r, row = some r → B ≤ r ∧ ∃ o : Obj, W.heap[r]? = some o ∧ o.isCells = false) {k : Nat} {o : Obj} (h : W.heap[k]? = some o) (ho : o.isCells = true) : W'.heap[k]? = some o :=
  (hg.block k (Array.getElem?_eq_some_iff.1 h).1 (fun e => by
    obtain ⟨_, o', h1, h2⟩ := hr k e.symm
    rw [h] at h1
    cases h1
    rw [ho] at h2
    cases h2)).trans h
theorem own_ext {B : Nat} {w W W' : World} {row : Option Nat} (h : Ext w W) (hB : w.heap.size ≤ B) (hg : W.grownBy W' row) (hr : ∀ r, row = some r → B ≤ r ∧ ∃ o : Obj, W.heap[r]? = some o ∧ o.isCells = false) : Ext w W' :=
  h.trans ⟨hg.os, hg.tape, hg.output, hg.size, fun k hk => hg.block k (by have := h.size; omega) (fun e => by have := (hr k e.symm).1; omega)⟩
theorem own_row {B : Nat} {W W' : World} {row : Option Nat} (hg : W.grownBy W' row) (hr : ∀ r, row = some r → B ≤ r ∧ ∃ o : Obj, W.heap[r]? = some o ∧ o.isCells = false) {base size n : Nat} {e : TypeId} {v : Value} {xs : List Value} (h : W.ownsRow base e size v n xs) : W'.ownsRow base e size v n xs := by
  refine h.kept hg ?_
  rcases h.2 with ⟨rfl, _⟩ | ⟨g, cap, cur, rfl, _, hgb, _⟩
  · exact Or.inl rfl
  · refine Or.inr (fun e => ?_)
    obtain ⟨_, o', h1, h2⟩ := hr g e.symm
    rw [hgb] at h1
    cases h1
    cases h2
theorem PS.own {w : World} {acc : List Sc} {B : Nat} (hB : w.heap.size ≤ B) : OwnP B (PS w acc) := fun W W' row h hg hr => by
  obtain ⟨a, c, h1, h2⟩ := h.l
  exact ⟨own_ext h.ext hB hg hr, ⟨a, c, own_blk hg hr h1 rfl, own_row hg hr h2⟩, own_blk hg hr h.a rfl, own_blk hg hr h.e rfl, Nat.le_trans h.size hg.size, h.few⟩
theorem PF.own {w : World} {n B : Nat} (hB : w.heap.size ≤ B) : OwnP B (PF w n) := fun W W' row h hg hr =>
  ⟨own_ext h.ext hB hg hr, own_blk hg hr h.l rfl, own_blk hg hr h.a rfl, own_blk hg hr h.e rfl⟩
theorem PS.grow {w : World} {acc : List Sc} {W W' : World} (h : PS w acc W) (hb : Ext W W') : PS w acc W' := by
  obtain ⟨a, c, h1, h2⟩ := h.l
  exact ⟨Ext.trans' h.ext hb, ⟨a, c, Ext.blk hb h1, ownsRow_ext hb h2⟩, Ext.blk hb h.a, Ext.blk hb h.e, Nat.le_trans h.size hb.size, h.few⟩
theorem ownsRow_far {W : World} {base size n : Nat} {e : TypeId} {v : Value} {xs : List Value} (h : W.ownsRow base e size v n xs) {b o : Nat} (hb : b < base) (u : Value) : (W.setCell ⟨b, o, none⟩ u).ownsRow base e size v n xs := by
  refine ⟨h.1, ?_⟩
  rcases h.2 with ⟨rfl, h0⟩ | ⟨g, cap, cur, rfl, hbg, hgb, rest⟩
  · exact Or.inl ⟨rfl, h0⟩
  · exact Or.inr ⟨g, cap, cur, rfl, hbg, (heap_setCell_other W ⟨b, o, none⟩ g u (by show g ≠ b; omega)).trans hgb, rest⟩
theorem PS.put {w : World} {acc : List Sc} {W : World} (h : PS w acc W) (v : Value) : PS w acc (W.setCell ⟨w.heap.size + 1 + 1 + 1, 0, none⟩ v) := by
  obtain ⟨a, c, h1, h2⟩ := h.l
  have ne : ∀ k, k ≠ w.heap.size + 1 + 1 + 1 → (W.setCell ⟨w.heap.size + 1 + 1 + 1, 0, none⟩ v).heap[k]? = W.heap[k]? := fun k hk => heap_setCell_other W ⟨w.heap.size + 1 + 1 + 1, 0, none⟩ k v hk
  exact ⟨Below.setCell h.ext (p := ⟨w.heap.size + 1 + 1 + 1, 0, none⟩) (by show _ ≤ w.heap.size + 1 + 1 + 1; omega) _, ⟨a, c, (ne _ (by omega)).trans h1, ownsRow_far h2 (by omega) _⟩, (ne _ (by omega)).trans h.a, (ne _ (by omega)).trans h.e, by rw [World.size_setCell]; exact h.size, h.few⟩
theorem InCell.own {b i : Nat} {l : List UInt8} {B : Nat} (hb : b < B) : OwnP B (InCell b i l) := fun W W' row h hg hr => by
  have hlt := lt_of_cell h.1
  have e : W'.heap[b]? = W.heap[b]? := hg.block b hlt (fun e => by have := (hr b e.symm).1; omega)
  exact ⟨by rw [← h.1]; simp only [World.cell?, e], by rw [← h.2.1]; simp only [World.frozen?, e], h.2.2⟩
theorem InCell.of_heap {b i : Nat} {l : List UInt8} {W W' : World} (h : InCell b i l W) (e : W'.heap[b]? = W.heap[b]?) : InCell b i l W' :=
  ⟨by rw [← h.1]; simp only [World.cell?, e], by rw [← h.2.1]; simp only [World.frozen?, e], h.2.2⟩
theorem InCell.grow {b i : Nat} {l : List UInt8} {W W' : World} (h : InCell b i l W) (hb : Ext W W') : InCell b i l W' := h.of_heap (hb.block b (lt_of_cell h.1))
theorem KeepsOthers.ofExt {W W' : World} (h : Ext W W') : KeepsOthers W W' := ⟨h.size, fun k o hk _ => (h.block k (Array.getElem?_eq_some_iff.1 hk).1).trans hk⟩
theorem KeepsOthers.ofRow {W W' : World} {base size n : Nat} {e : TypeId} {v : Value} {xs : List Value} (hown : W.ownsRow base e size v n xs) (hg : W.grownBy W' v.ownBlock) : KeepsOthers W W' :=
  ⟨hg.size, fun k o hk ho => (hg.block k (Array.getElem?_eq_some_iff.1 hk).1 (fun e9 => by
    rcases hown.2 with ⟨rfl, _⟩ | ⟨g, cap, cur, rfl, _, hgb, _⟩
    · cases e9
    · simp only [Value.ownBlock, Option.some.injEq] at e9
      subst e9
      rw [hk] at hgb
      cases hgb
      cases ho)).trans hk⟩
def PJ (w : World) (l0 : List UInt8) (N : Nat) (l : List UInt8) (W : World) : Prop := ∃ acc n, l.length ≤ n ∧ PS w acc W ∧ InCell (w.heap.size + 1 + 1 + 1) 0 l W ∧ rdS [] (linesL N l0) = rdS acc (linesL n l)
def PJ1 (w : World) (l0 : List UInt8) (N : Nat) (l : List UInt8) (W : World) : Prop := ∃ acc n, (lnZ l).length ≤ n ∧ l.length ≤ 1000000 ∧ PS w acc W ∧ InCell (w.heap.size + 1 + 1 + 1) 0 (lnZ l) W ∧ rdS [] (linesL N l0) = rdS acc (lnA l :: linesL n (lnZ l))
def PJx (w : World) (l0 : List UInt8) (N : Nat) (W : World) : Prop := ∃ n, PF w n W ∧ rdS [] (linesL N l0) = ([], n, 6)
theorem PJ.own {w : World} {l0 l : List UInt8} {N B : Nat} (hB : w.heap.size + 4 ≤ B) : OwnP B (PJ w l0 N l) := fun W W' row h hg hr => by
  obtain ⟨acc, n, h1, h2, h3, h4⟩ := h
  exact ⟨acc, n, h1, PS.own (by omega) W W' row h2 hg hr, InCell.own (by omega) W W' row h3 hg hr, h4⟩
theorem PJ1.own {w : World} {l0 l : List UInt8} {N B : Nat} (hB : w.heap.size + 4 ≤ B) : OwnP B (PJ1 w l0 N l) := fun W W' row h hg hr => by
  obtain ⟨acc, n, h1, h0, h2, h3, h4⟩ := h
  exact ⟨acc, n, h1, h0, PS.own (by omega) W W' row h2 hg hr, InCell.own (by omega) W W' row h3 hg hr, h4⟩
theorem PJx.own {w : World} {l0 : List UInt8} {N B : Nat} (hB : w.heap.size + 4 ≤ B) : OwnP B (PJx w l0 N) := fun W W' row h hg hr => by
  obtain ⟨n, h1, h2⟩ := h
  exact ⟨n, PF.own (by omega) W W' row h1 hg hr, h2⟩
theorem PJ1.put {w : World} {l0 l : List UInt8} {N : Nat} {W : World} (h : PJ w l0 N l W) (hl : l ≠ []) : PJ1 w l0 N l (W.setCell ⟨w.heap.size + 1 + 1 + 1, 0, none⟩ (.string ⟨(lnZ l).toArray⟩)) := by
  obtain ⟨acc, n, h1, h2, h3, h4⟩ := h
  have hlt := lnZ_lt hl
  obtain ⟨m, rfl⟩ : ∃ m, n = m + 1 := ⟨n - 1, by omega⟩
  have h9 := h3.2.2
  exact ⟨acc, m, by omega, by omega, h2.put _, ⟨World.cell?_setCell_same' _ _ _ (by rw [h3.1]; rfl), by rw [World.frozen?_setCell]; exact h3.2.1, by omega⟩, by rw [h4, linesL_one m l hl]⟩
/-- What ReadScores answers. -/
def RdP (r : List Sc × Nat × Int) (w : World) (e : Ending) (w' : World) : Prop :=
  ∃ a c, e = .returned (.tuple #[.slice a r.1.length c, .int .i64 (r.2.1 : Nat), .int .i64 r.2.2]) ∧ w'.ownsRow w.heap.size 50 4 (.slice a r.1.length c) r.1.length (rowsS r.1) ∧ Ext w w'
end Go.Proofs.YtcofejbkbcdopaaGreatDoor
