import Derived.Test.YtnblbneehogadaaT1
import Derived.Deep.RegionHeld3
import Derived.Maps.AppendAt
import Derived.Deep.Slices
import Derived.Deep.AppendSrc
import Derived.BigRegion
import Derived.Lib.LaidU8
import Derived.OpenShut
import Derived.Lib.Bytes
import Derived.Shelf.Bytes.SlSmallAll
/- Slices of bytes; small laws. -/
namespace Go.Proofs.Ytnblbneehogadaa
open Go.RowKit
theorem str_ext {s t : ByteArray} (h : s.data.toList = t.data.toList) : s = t := by
  apply ByteArray.ext; exact Array.ext' h
theorem infoByte : (Try.prog.info? 5).map (fun i => (i.zero, i.size, i.bytes)) = some (some (.int .u8 0), 1, 1) := by kernel_rfl
theorem bcell {W w1 : World} (hb : Ext W w1) : (∀ b o, b < W.heap.size → w1.cell? ⟨b, o, none⟩ = W.cell? ⟨b, o, none⟩) ∧ (∀ b o, b < W.heap.size → w1.frozen? ⟨b, o, none⟩ = W.frozen? ⟨b, o, none⟩) :=
  ⟨fun b o h => Below.cell hb (p := ⟨b, o, none⟩) h, fun b o h => Below.frozen hb (p := ⟨b, o, none⟩) h⟩
def nums (l : List UInt8) : List Int := l.map fun b => (b.toNat : Int)
theorem nums_len (l : List UInt8) : (nums l).length = l.length := by simp [nums]
theorem bytesOf_nums (l : List UInt8) : Lib.bytesOf (nums l) = l := by
  unfold Lib.bytesOf nums
  rw [List.map_map]
  conv => rhs; rw [← List.map_id l]
  apply List.map_congr_left
  intro b _
  simp
theorem nums_getD (l : List UInt8) (j : Nat) (h : j < l.length) : (nums l).getD j 0 = (l[j].toNat : Int) := by
  rw [List.getD_eq_getElem?_getD, List.getElem?_eq_getElem (by rw [nums_len]; exact h)]
  simp [nums]
/-- A slice value that holds the bytes l. -/
def By (w : World) (v : Value) (l : List UInt8) : Prop :=
  ∃ a c, v = .slice a l.length c ∧ l.length ≤ 140737488355328 ∧ True ∧ True ∧ Lib.BytesIn w a l.length (nums l)
theorem bytesIn_ext {w w' : World} (h : Ext w w') {a : Option Addr} {n : Nat} {xs : List Int} (hc : Lib.BytesIn w a n xs) : Lib.BytesIn w' a n xs := by
  intro hn
  obtain ⟨b, o, rfl, h1⟩ := hc hn
  exact ⟨b, o, rfl, fun i hi => h.cell (h1 i hi)⟩
theorem By.ext {w w' : World} (h : Ext w w') {v : Value} {l : List UInt8} (hc : By w v l) : By w' v l := by
  obtain ⟨a, c, h1, h2, h3, h4, h5⟩ := hc
  exact ⟨a, c, h1, h2, h3, h4, bytesIn_ext h h5⟩
theorem By.nil (w : World) : By w (.slice none 0 0) [] := ⟨none, 0, rfl, by decide, by decide, by decide, Lib.BytesIn.nil _ _ _⟩
theorem By.owns {w : World} {base : Nat} {v : Value} {l : List UInt8} (h : w.ownsRow base 5 1 v l.length ((nums l).map (Value.int .u8))) (hn : l.length ≤ 140737488355328) : By w v l := by
  rcases h.2 with ⟨rfl, h0⟩ | ⟨g, cap, cur, rfl, hb, hg, hnc, hcm, hcs, htake⟩
  · have : l = [] := List.eq_nil_of_length_eq_zero h0
    subst this; exact By.nil w
  · refine ⟨some ⟨g, 0, none⟩, cap, rfl, hn, trivial, trivial, fun h0 => ⟨g, 0, rfl, fun i hi => ?_⟩⟩
    have hi' : i < (nums l).length := by rw [nums_len]; exact hi
    have := h.cells (g := g) rfl i (.int .u8 ((nums l).getD i 0)) (by rw [List.getElem?_map, List.getD_eq_getElem?_getD, List.getElem?_eq_getElem hi']; rfl)
    rw [Go.WideShapes.add_plain] at this
    exact this
theorem By.size {w : World} {v : Value} {l : List UInt8} (h : By w v l) : ∃ a c, v = .slice a l.length c ∧ l.length ≤ 9223372036854775807 := by
  obtain ⟨a, c, h1, h2, _⟩ := h
  exact ⟨a, c, h1, by omega⟩
def OwnB (B : Nat) (w : World) (v : Value) (l : List UInt8) : Prop := w.ownsRow B 5 1 v l.length ((nums l).map (Value.int .u8))
theorem OwnB.shape {B : Nat} {w : World} {v : Value} {l : List UInt8} (h : OwnB B w v l) : ∃ a c, v = .slice a l.length c := by
  rcases h.2 with ⟨rfl, h0⟩ | ⟨g, cap, cur, rfl, _⟩
  · exact ⟨none, 0, by rw [h0]⟩
  · exact ⟨_, _, rfl⟩
theorem OwnB.by {B : Nat} {w : World} {v : Value} {l : List UInt8} (h : OwnB B w v l) (hn : l.length ≤ 140737488355328) : By w v l := By.owns h hn
theorem OwnB.ext {B : Nat} {w w' : World} {v : Value} {l : List UInt8} (h : OwnB B w v l) (hb : Ext w w') : OwnB B w' v l := by
  refine ⟨h.1, ?_⟩
  rcases h.2 with h2 | ⟨g, cap, cur, hv, hb1, hg, r⟩
  · exact Or.inl h2
  · exact Or.inr ⟨g, cap, cur, hv, hb1, (hb.block g (Array.getElem?_eq_some_iff.1 hg).1).trans hg, r⟩
theorem OwnB.mono {B C : Nat} {w : World} {v : Value} {l : List UInt8} (h : OwnB B w v l) (hb : C ≤ B) : OwnB C w v l := by
  refine ⟨h.1, ?_⟩
  rcases h.2 with h2 | ⟨g, cap, cur, hv, hb1, r⟩
  · exact Or.inl h2
  · exact Or.inr ⟨g, cap, cur, hv, by omega, r⟩
theorem OwnB.setCell {B : Nat} {w : World} {v : Value} {l : List UInt8} (h : OwnB B w v l) {p : Addr} (hp : p.block < B) (x : Value) : OwnB B (w.setCell p x) v l := by
  refine ⟨h.1, ?_⟩
  rcases h.2 with h2 | ⟨g, cap, cur, hv, hb1, hg, r⟩
  · exact Or.inl h2
  · exact Or.inr ⟨g, cap, cur, hv, hb1, (Below.heap_setCell _ _ _ _ (by omega)).trans hg, r⟩
theorem Ext.free {W w1 : World} (hb : Ext W w1) {b o : Nat} (hl : b < W.heap.size) (h : W.frozen? ⟨b, o, none⟩ = false) : w1.frozen? ⟨b, o, none⟩ = false := (Below.frozen hb (p := ⟨b, o, none⟩) hl).trans h
theorem newblk (w : World) (o : Obj) : (w.alloc o).heap[w.heap.size]? = some o := by
  show (w.heap.push o)[w.heap.size]? = some o
  simp
theorem Ext.blk {W w1 : World} (hb : Ext W w1) {B : Nat} {o : Obj} (h : W.heap[B]? = some o) : w1.heap[B]? = some o :=
  (hb.block B (Array.getElem?_eq_some_iff.1 h).1).trans h
theorem blk4 {w : World} {B : Nat} {c0 c1 c2 c3 : Value} {T : TypeId} (h : w.heap[B]? = some (.cells #[c0, c1, c2, c3] T (0, 0))) :
    w.cell? ⟨B, 0, none⟩ = some c0 ∧ w.cell? ⟨B, 1, none⟩ = some c1 ∧ w.cell? ⟨B, 2, none⟩ = some c2 ∧ w.cell? ⟨B, 3, none⟩ = some c3 ∧
    w.frozen? ⟨B, 0, none⟩ = false ∧ w.frozen? ⟨B, 1, none⟩ = false ∧ w.frozen? ⟨B, 2, none⟩ = false ∧ w.frozen? ⟨B, 3, none⟩ = false :=
  ⟨by rw [Lib.cell_of_heap h]; rfl, by rw [Lib.cell_of_heap h]; rfl, by rw [Lib.cell_of_heap h]; rfl, by rw [Lib.cell_of_heap h]; rfl, Lib.frozen_of_heap h 0, Lib.frozen_of_heap h 1, Lib.frozen_of_heap h 2, Lib.frozen_of_heap h 3⟩
theorem blk_lt {w : World} {B : Nat} {o : Obj} (h : w.heap[B]? = some o) : B < w.heap.size := (Array.getElem?_eq_some_iff.1 h).1
theorem blk6 {w : World} {B : Nat} {c0 c1 c2 c3 c4 c5 : Value} {T : TypeId} (h : w.heap[B]? = some (.cells #[c0, c1, c2, c3, c4, c5] T (0, 0))) :
    w.cell? ⟨B, 0, none⟩ = some c0 ∧ w.cell? ⟨B, 1, none⟩ = some c1 ∧ w.cell? ⟨B, 2, none⟩ = some c2 ∧ w.cell? ⟨B, 3, none⟩ = some c3 ∧ w.cell? ⟨B, 4, none⟩ = some c4 ∧ w.cell? ⟨B, 5, none⟩ = some c5 :=
  ⟨by rw [Lib.cell_of_heap h]; rfl, by rw [Lib.cell_of_heap h]; rfl, by rw [Lib.cell_of_heap h]; rfl, by rw [Lib.cell_of_heap h]; rfl, by rw [Lib.cell_of_heap h]; rfl, by rw [Lib.cell_of_heap h]; rfl⟩
def kB (k : Int) : Bool := decide (1 ≤ k) && decide (k < 6)
theorem quietV {P : Program} {f : FuncId} {args : Array Value} {w : World} {n : Nat} {v : Value} (h : Calls P f args (w.drewN n) fun e w' => e = .returned v ∧ w.drewN n = w') :
    Calls P f args (w.drewN n) fun e w'' => e = .returned v ∧ ∃ m, w'' = w.drewN m :=
  h.mono fun _ _ ⟨he, hm⟩ => ⟨he, n, hm.symm⟩
theorem takeD {P : Program} {ops : Array Oper} {Q : Exit → Act → World → Prop} {md : Region.Mode} {S : World → Prop} {i : Nat} {oi : Oper} {d : Option Tmp} {v : Value} {fuel : Nat} {listed : Array Bool} {a : Act} {w : World} (hi : ops[i]? = some oi) (hd : oi.dst = d)
    (hs : Region.noSelect ops = true) (hf : Region.free md ops listed i = true) (hr : (Region.ready md ops listed).contains i = true)
    (hQ : ∀ c a w, Q (.panic c) (a.put d v) w → Q (.panic c) a w) (hy : YieldsIf P ops S oi v a) (hS : S w)
    (h : wpAnyH P md ops Q S fuel (listed.setIfInBounds i true) (a.put d v) w) : wpAnyH P md ops Q S (fuel + 1) listed a w := by
  subst hd
  exact wpAnyH_take hi hs hf hr hQ hy hS h
def vk (n : Nat) : Bool := decide (0 < n) && decide (n ≤ 250)
/-- The error of the parts of an entry, by their sizes. -/
def chk (k v b : Nat) : Int := if vk k = false ∨ b = 0 then 2 else if 65536 < v then 5 else 0
def fineN (k v b : Nat) : Bool := decide (chk k v b = 0)
def okV (k : Int) (n m b d t : Nat) : Bool := kB k && fineN n m b && (dueB d t == decide (k = 1))
theorem kB_nat (k : Int) (h : kB k = true) : ∃ j : Nat, k = j ∧ 1 ≤ j ∧ j ≤ 5 := by
  unfold kB at h
  simp only [Bool.and_eq_true, decide_eq_true_eq] at h
  exact ⟨k.toNat, by omega, by omega, by omega⟩
end Go.Proofs.Ytnblbneehogadaa
