import Derived.Test.YtbhfpofcebepiaaLib
import Derived.Lib.LaidU8
import Derived.OpenShut
import Derived.Deep.Fields
import Derived.ChangeSame
/- Slices whose elements have K cells each, at large: where their cells lie, and how such an argument is opened. -/
namespace Go.Proofs.Ytbhfpofcebepiaa
open Go.RowKit Go.Lib
section
variable {α : Type} (f : α → List Value) (K : Nat) (hf : ∀ x, (f x).length = K)
def rows (L : List α) : List Value := L.flatMap f
include hf in
theorem rows_len (L : List α) : (rows f L).length = K * L.length := by
  induction L with
  | nil => rfl
  | cons m r ih =>
    show (f m ++ rows f r).length = _
    rw [List.length_append, ih, hf, List.length_cons, Nat.mul_add, Nat.mul_one, Nat.add_comm]
include hf in
theorem rows_at (L : List α) (i j : Nat) (hi : i < L.length) (hj : j < K) : (rows f L)[K * i + j]? = (f L[i])[j]? := by
  induction L generalizing i with
  | nil => simp at hi
  | cons m r ih =>
    show (f m ++ rows f r)[K * i + j]? = _
    cases i with
    | zero =>
      rw [List.getElem?_append_left (by rw [hf]; simpa using hj)]
      simp
    | succ i =>
      have e0 : K * (i + 1) = K * i + K := by rw [Nat.mul_add, Nat.mul_one]
      rw [List.getElem?_append_right (by rw [hf]; omega)]
      have e : K * (i + 1) + j - (f m).length = K * i + j := by rw [hf]; omega
      rw [e, ih i (by simpa using hi)]
      rfl
include hf in
theorem rows_row {w : World} {a : Option Addr} {L : List α} (hK : 0 < K) (hc : CellsAt w a (rows f L)) (i : Nat) (hi : i < L.length) : ∃ b o, a = some ⟨b, o, none⟩ ∧
    ∀ j u, (f L[i])[j]? = some u → w.cell? ⟨b, o + i * K + j, none⟩ = some u := by
  have h00 : 0 < (f L[i]).length := by rw [hf]; exact hK
  obtain ⟨b, o, ha, h0⟩ := hc (K * i + 0) _ ((rows_at f K hf L i 0 hi hK).trans (List.getElem?_eq_getElem h00))
  refine ⟨b, o, ha, fun j u hu => ?_⟩
  have hj : j < K := by have := (List.getElem?_eq_some_iff.1 hu).1; rwa [hf] at this
  obtain ⟨b', o', ha', h'⟩ := hc (K * i + j) u ((rows_at f K hf L i j hi hj).trans hu)
  rw [ha] at ha'
  cases ha'
  rw [Nat.mul_comm i K, Nat.add_assoc]
  exact h'
/-- A slice of elements that came in. -/
def RowsArg (Q : α → Prop) (W : World) (v : Value) (L : List α) : Prop :=
  ∃ a c, v = .slice a L.length c ∧ L.length ≤ c ∧ c ≤ 9223372036854775807 ∧ CellsAt W a (rows f L) ∧ ∀ x ∈ L, Q x
include hf in
theorem rows_range (hK : 0 < K) (n : Nat) (q : Nat → α) (w : World) (a : Addr) (h : ∀ i, i < n → ∀ j u, (f (q i))[j]? = some u → w.cell? (a.add (i * K + j)) = some u) :
    ∀ j u, (rows f ((List.range n).map q))[j]? = some u → w.cell? (a.add j) = some u := by
  intro j u hj
  have hlt : j < K * n := by
    have := (List.getElem?_eq_some_iff.1 hj).1
    rw [rows_len f K hf] at this
    simpa using this
  have hd : K * (j / K) + j % K = j := Nat.div_add_mod j K
  have hi0 : j / K < n := Nat.div_lt_of_lt_mul hlt
  have hi : j / K < ((List.range n).map q).length := by simpa using hi0
  have := rows_at f K hf ((List.range n).map q) (j / K) (j % K) hi (Nat.mod_lt _ hK)
  rw [hd, hj] at this
  have h2 := h (j / K) hi0 (j % K) u (by rw [this]; simp)
  rw [Nat.mul_comm, hd] at h2
  exact h2
include hf in
theorem open_rows [Inhabited α] {P : Program} {H : Type} {enc : TypeId × Value → H} {ts t : TypeId} {base : Nat} {W : World} {v : Value} {d : DataW H} {p : List MemPlace} (Q : α → Prop) (hK : 0 < K)
    (ht : P.underlying ts = some (.slice t)) (hC : P.cellsOf t = K)
    (hel : ∀ (b0 : Nat) (sp : Nat → Bool) (held : Bool) (cs : List Value) (n : Nat) (y : DataW H × List MemPlace), DataW.trod enc P W b0 sp held n t cs = some y → cs.length = K → ∃ x, cs = f x ∧ Q x)
    (ho : Value.okWide P W .any base ts v) (h : DataW.Trod enc P W 0 (fun _ => true) true ts v d p) : ∃ L, RowsArg f Q W v L := by
  obtain ⟨a0, len0, cap0, rfl⟩ := WideShapes.okWide_slice ht ho
  obtain ⟨fuel, hfu⟩ := h
  rcases Deep.open_slice ht hfu with ⟨hcs, _⟩ | ⟨a, len, cap, m, n, D, Pl, hcs, _, hl, hm, hmm, _, hx⟩
  · simp [Value.cells] at hcs
    obtain ⟨rfl, rfl, rfl⟩ := hcs
    exact ⟨[], none, 0, rfl, Nat.le_refl _, by decide, fun j u hj => by simp [rows] at hj, fun x hx => by cases hx⟩
  · simp [Value.cells] at hcs
    obtain ⟨rfl, rfl, rfl⟩ := hcs
    have hlm : len0 ≤ m := by rw [hmm]; simp only; split <;> omega
    have each : ∀ i, i < len0 → ∃ x : α, Q x ∧ ∀ j u, (f x)[j]? = some u → W.cell? (a.add (i * K + j)) = some u := by
      intro i hi
      obtain ⟨cs', g1, g2⟩ := hx i (by omega)
      rw [hC] at g1
      obtain ⟨_, hlen, hcell⟩ := World.cells?_some g1
      obtain ⟨x, rfl, hw⟩ := hel _ _ _ _ _ _ g2 hlen
      refine ⟨x, hw, fun j u hj => ?_⟩
      have hj6 : j < K := by have := (List.getElem?_eq_some_iff.1 hj).1; rwa [hf] at this
      have := hcell j hj6
      rw [Deep.add_add, hj] at this
      exact this
    obtain ⟨q, hq⟩ := Deep.choose_lt each
    refine ⟨(List.range len0).map q, some a, cap0, by simp, by simpa using hl, by unfold maxLen at hm; omega, cellsAt_of (rows_range f K hf hK len0 q W a fun i hi => (hq i hi).2), ?_⟩
    intro x hx
    obtain ⟨i, hi, rfl⟩ := List.mem_map.1 hx
    exact (hq i (by simpa using hi)).1
end
theorem RowsArg.ext {α : Type} {f : α → List Value} {Q : α → Prop} {W W' : World} {v : Value} {L : List α} (h : RowsArg f Q W v L) (hb : Ext W W') : RowsArg f Q W' v L := by
  obtain ⟨a, c, h1, h2, h3, h4, h5⟩ := h
  exact ⟨a, c, h1, h2, h3, h4.ext hb, h5⟩
/-- the fields of a struct, as parts of its cells -/
theorem fields_at {P : Program} {H : Type} {enc : TypeId × Value → H} {t : TypeId} {fs : Array Field} {base : Nat} {W : World} {cs : List Value} {y : DataW H × List MemPlace} {fuel : Nat} {sp : Nat → Bool} {held : Bool}
    (hs : P.underlying t = some (.struct fs)) (h : DataW.trod enc P W base sp held fuel t cs = some y) :
    ∀ (i : Nat) (f : Field), fs[i]? = some f → ∃ z n, DataW.trod enc P W base sp held n f.type ((cs.drop f.offset).take (P.cellsOf f.type)) = some z := by
  obtain ⟨xs, n, _, _, hl, hxl, hall⟩ := DataW.trod_struct hs h
  intro i f hi
  have h1 := hall i f hi
  have hif : i < fs.size := (Array.getElem?_eq_some_iff.1 hi).1
  obtain ⟨b, hb⟩ : ∃ b, xs[i]? = some b := ⟨xs[i]'(by omega), List.getElem?_eq_getElem (by omega)⟩
  rw [hb] at h1
  exact ⟨b, n, h1⟩
end Go.Proofs.Ytbhfpofcebepiaa
