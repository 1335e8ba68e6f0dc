import Derived.Test.YtbhfpofcebepiaaB6
import Derived.Test.YtbhfpofcebepiaaBR
/- Worlds that are kept but for the memo; the contract of Best's closure. -/
namespace Go.Proofs.Ytbhfpofcebepiaa
open Go.RowKit Go.ChangeMaps
/-- Nothing that there was has turned, but for one block. -/
structure KeepB (B : Nat) (w w' : World) : Prop where
  os : w'.os = w.os
  tape : w'.tape = w.tape
  output : w'.output = w.output
  size : w.heap.size ≤ w'.heap.size
  block : ∀ j, j < w.heap.size → j ≠ B → w'.heap[j]? = w.heap[j]?
theorem KeepB.of_ext {B : Nat} {w w' : World} (h : Ext w w') : KeepB B w w' := ⟨h.os, h.tape, h.output, h.size, fun j hj _ => h.block j hj⟩
theorem KeepB.trans {B : Nat} {a b c : World} (h : KeepB B a b) (k : KeepB B b c) : KeepB B a c :=
  ⟨k.os.trans h.os, k.tape.trans h.tape, k.output.trans h.output, Nat.le_trans h.size k.size, fun j hj hn => (k.block j (by have := h.size; omega) hn).trans (h.block j hj hn)⟩
theorem KeepB.set {B : Nat} (w : World) (o : Obj) : KeepB B w (setBlock w B o) :=
  ⟨rfl, rfl, rfl, by show w.heap.size ≤ (w.heap.setIfInBounds B o).size; simp, fun j _ hn => by
    show (w.heap.setIfInBounds B o)[j]? = _
    rw [Array.getElem?_setIfInBounds, if_neg (fun e => hn e.symm)]⟩
theorem KeepB.cell {B : Nat} {w w' : World} (h : KeepB B w w') {b o : Nat} {v : Value} (hb : b ≠ B) (hc : w.cell? ⟨b, o, none⟩ = some v) : w'.cell? ⟨b, o, none⟩ = some v := by
  have hl := lt_of_cell hc
  have e := h.block b hl hb
  have : ∀ (u : World), u.cell? ⟨b, o, none⟩ = (match u.heap[b]? with | some ob => ({ u with heap := #[ob] } : World).cell? ⟨0, o, none⟩ | none => u.cell? ⟨b, o, none⟩) := fun u => by
    cases hu : u.heap[b]? with
    | none => rfl
    | some ob => simp [World.cell?, hu]
  rw [this w', e]
  rw [this w] at hc
  cases hu : w.heap[b]? with
  | none => rw [Array.getElem?_eq_none_iff] at hu; omega
  | some ob =>
    rw [hu] at hc
    simpa [World.cell?] using hc
/-- The memo holds what it is to hold. -/
def MemoOk (tr : List Nat) (k : Nat) (D : List Nat) (es : List MapEntry) : Prop := ∀ e ∈ es, ∃ i s : Nat, i ≤ tr.length ∧ e.key = (.agg #[.int .i64 i, .int .u16 s]) ∧ e.val = .int .i64 (valB tr k D i s : Nat)
theorem MemoOk.keys {tr : List Nat} {k : Nat} {D : List Nat} {es : List MapEntry} (h : MemoOk tr k D es) : KeysSt es := fun e he => by
  obtain ⟨i, s, _, h2, _⟩ := h e he
  exact ⟨i, s, h2⟩
/-- What the closure finds. -/
structure BestW (tr : List Nat) (k : Nat) (D : List Nat) (T K Nn Bc Sz KB NB : Nat) (w : World) : Prop where
  trace : ∃ a c, w.cell? ⟨T, 0, none⟩ = some (.slice a tr.length c) ∧ CellsAt w a (u32L tr)
  known : w.cell? ⟨K, 0, none⟩ = some (.map (some KB))
  number : w.cell? ⟨Nn, 0, none⟩ = some (.map (some NB))
  best : w.cell? ⟨Bc, 0, none⟩ = some (.func (.func 42) #[] #[.pointer (some ⟨T, 0, none⟩), .pointer (some ⟨K, 0, none⟩), .pointer (some ⟨Nn, 0, none⟩), .pointer (some ⟨Bc, 0, none⟩), .pointer (some ⟨Sz, 0, none⟩)])
  size : w.cell? ⟨Sz, 0, none⟩ = some (.int .i64 (k : Nat))
  nums : NumAt w NB D
  ne : NB ≠ KB
  memo : ∃ es clock, w.heap[KB]? = some (.map es clock) ∧ MemoOk tr k D es.toList
theorem not_map {w : World} {KB b o : Nat} {es : Array MapEntry} {clock : Nat} {v : Value} (h : w.heap[KB]? = some (.map es clock)) (hc : w.cell? ⟨b, o, none⟩ = some v) : b ≠ KB := fun e => by
  subst e
  simp [World.cell?, h] at hc
theorem KeepB.cells {B : Nat} {w w' : World} (h : KeepB B w w') {es : Array MapEntry} {clock : Nat} (hB : w.heap[B]? = some (.map es clock)) {a : Option Addr} {cs : List Value} (hc : CellsAt w a cs) : CellsAt w' a cs := by
  intro j u hj
  obtain ⟨b, o, ha, hcell⟩ := hc j u hj
  exact ⟨b, o, ha, h.cell (not_map hB hcell) hcell⟩
/-- It finds the same behind a call that keeps all but the memo. -/
theorem BestW.keep {tr : List Nat} {k : Nat} {D : List Nat} {T K Nn Bc Sz KB NB : Nat} {w w' : World} (h : BestW tr k D T K Nn Bc Sz KB NB w) (hb : KeepB KB w w') (hm : ∃ es clock, w'.heap[KB]? = some (.map es clock) ∧ MemoOk tr k D es.toList) : BestW tr k D T K Nn Bc Sz KB NB w' := by
  obtain ⟨es, clock, hB, _⟩ := h.memo
  obtain ⟨a, c, hT, hC⟩ := h.trace
  obtain ⟨en, cn, hN, hp⟩ := h.nums
  exact ⟨⟨a, c, hb.cell (not_map hB hT) hT, hb.cells hB hC⟩, hb.cell (not_map hB h.known) h.known, hb.cell (not_map hB h.number) h.number, hb.cell (not_map hB h.best) h.best, hb.cell (not_map hB h.size) h.size,
    ⟨en, cn, (hb.block NB (Array.getElem?_eq_some_iff.1 hN).1 h.ne).trans hN, hp⟩, h.ne, hm⟩
theorem BestW.ext {tr : List Nat} {k : Nat} {D : List Nat} {T K Nn Bc Sz KB NB : Nat} {w w' : World} (h : BestW tr k D T K Nn Bc Sz KB NB w) (hb : Ext w w') : BestW tr k D T K Nn Bc Sz KB NB w' := by
  obtain ⟨es, clock, hB, hm⟩ := h.memo
  exact h.keep (KeepB.of_ext hb) ⟨es, clock, (hb.block KB (Array.getElem?_eq_some_iff.1 hB).1).trans hB, hm⟩
end Go.Proofs.Ytbhfpofcebepiaa
