import Derived.Test.YtpojemlnhbdfmaaDoorG3
import Derived.Laws.Rows
/- The program's Parse of a configuration. -/
namespace Go.Proofs.YtpojemlnhbdfmaaDoor
open Go.RowKit

theorem fieldsGo_len : ∀ (f : Nat) (cur l p : List UInt8), p ∈ Lib.fieldsGoD f cur l → p.length ≤ cur.length + l.length := by
  intro f
  induction f with
  | zero =>
    intro cur l p hp
    rw [Lib.fieldsGoD] at hp
    split at hp
    · simp at hp
    · simp at hp; subst hp; omega
  | succ f ih =>
    intro cur l p hp
    rw [Lib.fieldsGoD] at hp
    split at hp
    · split at hp
      · simp at hp
      · simp at hp; subst hp; omega
    · split at hp
      · rcases List.mem_append.1 hp with h | h
        · split at h
          · simp at h
          · simp at h; subst h; omega
        · have := ih _ _ _ h
          rw [List.length_drop] at this; simp at this; omega
      · have := ih _ _ _ hp
        rw [List.length_drop, List.length_append, List.length_take] at this; omega
theorem fields_len (l p : List UInt8) (h : p ∈ Lib.fieldsD l) : p.length ≤ l.length := by
  have := fieldsGo_len _ _ _ _ h; simpa using this

theorem heap_cell {w w' : World} {b : Nat} (h : w'.heap[b]? = w.heap[b]?) (o : Nat) : w'.cell? ⟨b, o, none⟩ = w.cell? ⟨b, o, none⟩ := by
  simp only [World.cell?, h]

theorem cell_put {w : World} {C L : Nat} (h : L ≠ C) (o j : Nat) (v : Value) : (w.setCell ⟨C, o, none⟩ v).cell? ⟨L, j, none⟩ = w.cell? ⟨L, j, none⟩ := heap_cell (heap_setCell_other w ⟨C, o, none⟩ L v h) j
/-- What the parse holds: the result's block R, the configuration's block C, the list of pointers L, the parts' block A (as W0 has it). -/
structure PS (w W0 : World) (R C L A : Nat) (c : Cfg) (wr : World) : Prop where
  ext : Ext w wr
  r : wr.heap[R]? = some (.cells #[.int .i64 0, .int .i64 0, .int .i64 0, .int .u64 0, .bool false] 24 (0, 0))
  c : wr.heap[C]? = some (.cells #[.int .i64 c.cnt, .int .i64 c.byt, .int .i64 c.prot, .int .u64 c.seed, .bool c.same] 24 (0, 0))
  l : wr.heap[L]? = some (.cells #[.pointer (some ⟨C, 0, none⟩), .pointer (some ⟨C, 1, none⟩), .pointer (some ⟨C, 2, none⟩)] 56 (0, 0))
  a : wr.heap[A]? = W0.heap[A]?
theorem PS.grow {w W0 : World} {R C L A : Nat} {c : Cfg} {w1 w2 : World} (hA : A < w1.heap.size) (h : PS w W0 R C L A c w1) (hb : Ext w1 w2) : PS w W0 R C L A c w2 :=
  ⟨Ext.trans' h.ext hb, Ext.blk hb h.r, Ext.blk hb h.c, Ext.blk hb h.l, (hb.block A hA).trans h.a⟩
theorem PS.put {w W0 : World} {R C L A : Nat} {c c' : Cfg} {w1 : World} (h : PS w W0 R C L A c w1) (hC : w.heap.size ≤ C) (h1 : R ≠ C) (h2 : L ≠ C) (h3 : A ≠ C) (o : Nat) (v : Value)
    (hc : (w1.setCell ⟨C, o, none⟩ v).heap[C]? = some (.cells #[.int .i64 c'.cnt, .int .i64 c'.byt, .int .i64 c'.prot, .int .u64 c'.seed, .bool c'.same] 24 (0, 0))) : PS w W0 R C L A c' (w1.setCell ⟨C, o, none⟩ v) :=
  ⟨Below.setCell h.ext (p := ⟨C, o, none⟩) hC _, (heap_setCell_other w1 ⟨C, o, none⟩ R v h1).trans h.r, hc, (heap_setCell_other w1 ⟨C, o, none⟩ L v h2).trans h.l, (heap_setCell_other w1 ⟨C, o, none⟩ A v h3).trans h.a⟩
theorem PS.put0 {w W0 : World} {R C L A : Nat} {c : Cfg} {w1 : World} (h : PS w W0 R C L A c w1) (hC : w.heap.size ≤ C) (h1 : R ≠ C) (h2 : L ≠ C) (h3 : A ≠ C) (z : Int) : PS w W0 R C L A { c with cnt := z } (w1.setCell ⟨C, 0, none⟩ (.int .i64 z)) :=
  h.put hC h1 h2 h3 0 _ (heap_setCell_same w1 C 0 _ _ _ h.c)
theorem PS.put1 {w W0 : World} {R C L A : Nat} {c : Cfg} {w1 : World} (h : PS w W0 R C L A c w1) (hC : w.heap.size ≤ C) (h1 : R ≠ C) (h2 : L ≠ C) (h3 : A ≠ C) (z : Int) : PS w W0 R C L A { c with byt := z } (w1.setCell ⟨C, 1, none⟩ (.int .i64 z)) :=
  h.put hC h1 h2 h3 1 _ (heap_setCell_same w1 C 1 _ _ _ h.c)
theorem PS.put2 {w W0 : World} {R C L A : Nat} {c : Cfg} {w1 : World} (h : PS w W0 R C L A c w1) (hC : w.heap.size ≤ C) (h1 : R ≠ C) (h2 : L ≠ C) (h3 : A ≠ C) (z : Int) : PS w W0 R C L A { c with prot := z } (w1.setCell ⟨C, 2, none⟩ (.int .i64 z)) :=
  h.put hC h1 h2 h3 2 _ (heap_setCell_same w1 C 2 _ _ _ h.c)
theorem PS.put3 {w W0 : World} {R C L A : Nat} {c : Cfg} {w1 : World} (h : PS w W0 R C L A c w1) (hC : w.heap.size ≤ C) (h1 : R ≠ C) (h2 : L ≠ C) (h3 : A ≠ C) (z : Nat) : PS w W0 R C L A { c with seed := z } (w1.setCell ⟨C, 3, none⟩ (.int .u64 z)) :=
  h.put hC h1 h2 h3 3 _ (heap_setCell_same w1 C 3 _ _ _ h.c)
theorem PS.put4 {w W0 : World} {R C L A : Nat} {c : Cfg} {w1 : World} (h : PS w W0 R C L A c w1) (hC : w.heap.size ≤ C) (h1 : R ≠ C) (h2 : L ≠ C) (h3 : A ≠ C) (z : Bool) : PS w W0 R C L A { c with same := z } (w1.setCell ⟨C, 4, none⟩ (.bool z)) :=
  h.put hC h1 h2 h3 4 _ (heap_setCell_same w1 C 4 _ _ _ h.c)
theorem frz5 {w : World} {B : Nat} {cs : Array Value} {T : TypeId} (h : w.heap[B]? = some (.cells cs T (0, 0))) :
    w.frozen? ⟨B, 0, none⟩ = false ∧ w.frozen? ⟨B, 1, none⟩ = false ∧ w.frozen? ⟨B, 2, none⟩ = false ∧ w.frozen? ⟨B, 3, none⟩ = false ∧ w.frozen? ⟨B, 4, none⟩ = false :=
  ⟨Lib.frozen_of_heap h 0, Lib.frozen_of_heap h 1, Lib.frozen_of_heap h 2, Lib.frozen_of_heap h 3, Lib.frozen_of_heap h 4⟩
theorem st5 {w : World} {B : Nat} {c0 c1 c2 c3 c4 : Value} {T : TypeId} (h : w.heap[B]? = some (.cells #[c0, c1, c2, c3, c4] T (0, 0))) (a b c d e : Value) :
    (((((w.setCell ⟨B, 0, none⟩ a).setCell ⟨B, 1, none⟩ b).setCell ⟨B, 2, none⟩ c).setCell ⟨B, 3, none⟩ d).setCell ⟨B, 4, none⟩ e).heap[B]? = some (.cells #[a, b, c, d, e] T (0, 0)) :=
  heap_setCell_same _ B 4 _ _ _ (heap_setCell_same _ B 3 _ _ _ (heap_setCell_same _ B 2 _ _ _ (heap_setCell_same _ B 1 _ _ _ (heap_setCell_same w B 0 _ _ _ h))))
theorem Ext.st5 {w w1 : World} (h : Ext w w1) {B : Nat} (hB : w.heap.size ≤ B) (a b c d e : Value) : Ext w (((((w1.setCell ⟨B, 0, none⟩ a).setCell ⟨B, 1, none⟩ b).setCell ⟨B, 2, none⟩ c).setCell ⟨B, 3, none⟩ d).setCell ⟨B, 4, none⟩ e) :=
  ((((Below.setCell h (p := ⟨B, 0, none⟩) hB _).setCell (p := ⟨B, 1, none⟩) hB _).setCell (p := ⟨B, 2, none⟩) hB _).setCell (p := ⟨B, 3, none⟩) hB _).setCell (p := ⟨B, 4, none⟩) hB _
theorem blk3 {w : World} {B : Nat} {c0 c1 c2 : Value} {T : TypeId} (h : w.heap[B]? = some (.cells #[c0, c1, c2] T (0, 0))) : w.cell? ⟨B, 0, none⟩ = some c0 ∧ w.cell? ⟨B, 1, none⟩ = some c1 ∧ w.cell? ⟨B, 2, none⟩ = some c2 :=
  ⟨by rw [Lib.cell_of_heap h]; rfl, by rw [Lib.cell_of_heap h]; rfl, by rw [Lib.cell_of_heap h]; rfl⟩

/-- The configuration when j of the three words have been compared. -/
def wordN : Nat → List UInt8
  | 0 => wCount
  | 1 => wBytes
  | _ => wProt
def setN (c : Cfg) (v : List UInt8) : Nat → Cfg
  | 0 => { c with cnt := atoiV v }
  | 1 => { c with byt := atoiV v }
  | _ => { c with prot := atoiV v }
def half (c : Cfg) (wd v : List UInt8) : Nat → Cfg
  | 0 => c
  | j + 1 => if wordN j = wd then setN (half c wd v j) v j else half c wd v j
theorem step_half (c : Cfg) (p : List UInt8) : stepC c p = (if cA 61 p = wSeed then { half c (cA 61 p) (cZ 61 p) 3 with seed := uintV (cZ 61 p) } else if cA 61 p = wSame then { half c (cA 61 p) (cZ 61 p) 3 with same := decide (cZ 61 p = wYes) } else half c (cA 61 p) (cZ 61 p) 3) := rfl
theorem PS.atoi {w W0 : World} {R C L A : Nat} {c : Cfg} {w1 : World} (h : PS w W0 R C L A c w1) (hC : w.heap.size ≤ C) (h1 : R ≠ C) (h2 : L ≠ C) (h3 : A ≠ C) (v : List UInt8) (j : Nat) (hj : j ≤ 2) : PS w W0 R C L A (setN c v j) (w1.setCell ⟨C, j, none⟩ (.int .i64 (atoiV v))) := by
  obtain rfl | rfl | rfl : j = 0 ∨ j = 1 ∨ j = 2 := by omega
  · exact h.put0 hC h1 h2 h3 _
  · exact h.put1 hC h1 h2 h3 _
  · exact h.put2 hC h1 h2 h3 _

/-- What Parse returns. -/
def pcV (o : Option Cfg) : Value := match o with | some c => .agg #[.int .i64 c.cnt, .int .i64 c.byt, .int .i64 c.prot, .int .u64 c.seed, .bool c.same] | none => .agg #[.int .i64 0, .int .i64 0, .int .i64 0, .int .u64 0, .bool false]
def pcE (o : Option Cfg) : Int := match o with | some _ => 0 | none => 6
theorem index_str3 (x y z : Value) (w : World) : (Instr.index 62 (.agg #[x, y, z]) (.int .i64 0)).run Tryd.prog w = .ok x w ∧ (Instr.index 62 (.agg #[x, y, z]) (.int .i64 1)).run Tryd.prog w = .ok y w ∧ (Instr.index 62 (.agg #[x, y, z]) (.int .i64 2)).run Tryd.prog w = .ok z w := ⟨by kernel_rfl, by kernel_rfl, by kernel_rfl⟩
end Go.Proofs.YtpojemlnhbdfmaaDoor
