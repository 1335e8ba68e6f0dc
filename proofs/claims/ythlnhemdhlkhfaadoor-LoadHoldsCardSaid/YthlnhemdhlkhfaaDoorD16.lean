import Derived.Test.YthlnhemdhlkhfaaDoorD15
/- The program's Parse. -/
namespace Go.Proofs.YthlnhemdhlkhfaaDoor
open Go.RowKit Go.Shelf
attribute [local go_sem] Oper.semAt_some

/-- The blocks of the parse: the result, its error, the workload that is read. -/
structure PW (w : World) (R : Nat) (c : LS) (ec : Int) (W : World) : Prop where
  ext : Ext w W
  r : W.heap[R]? = some (Obj.cells #[.int .i64 (0), .int .i64 (0), .int .i64 (0), .int .i64 (0), .int .u64 (0)] 28 (0, 0))
  e : W.heap[R + 1]? = some (.cells #[.int .i64 ec] 31 (0, 0))
  l : W.heap[R + 1 + 1]? = some (Obj.cells #[.int .i64 (c.k), .int .i64 (c.a), .int .i64 (c.r), .int .i64 (c.p), .int .u64 (c.s)] 28 (0, 0))
theorem own_blk {B : Nat} {W W' : World} {row : Option Nat} (hg : W.grownBy W' row) (hr : ∀ r, row = some r → B ≤ r ∧ ∃ o : Obj, W.heap[r]? = some o ∧ o.isCells = false) {k : Nat} {o : Obj} (h : W.heap[k]? = some o) (ho : o.isCells = true) : W'.heap[k]? = some o :=
  (hg.block k (Array.getElem?_eq_some_iff.1 h).1 (fun e => by
    obtain ⟨_, o', h1, h2⟩ := hr k e.symm
    rw [h] at h1
    cases h1
    rw [ho] at h2
    cases h2)).trans h
theorem PW.own {w : World} {R : Nat} {c : LS} {ec : Int} {B : Nat} (hB : w.heap.size ≤ B) : OwnP B (PW w R c ec) := fun W W' row h hg hr =>
  ⟨h.ext.trans ⟨hg.os, hg.tape, hg.output, hg.size, fun k hk => hg.block k (by have := h.ext.size; omega) (fun e => by have := (hr k e.symm).1; omega)⟩, own_blk hg hr h.r rfl, own_blk hg hr h.e rfl, own_blk hg hr h.l rfl⟩
theorem PW.grow {w : World} {R : Nat} {c : LS} {ec : Int} {W W' : World} (h : PW w R c ec W) (hb : Ext W W') : PW w R c ec W' :=
  ⟨Ext.trans' h.ext hb, Ext.blk hb h.r, Ext.blk hb h.e, Ext.blk hb h.l⟩
theorem PW.put {w : World} {R : Nat} {c : LS} {ec : Int} {W : World} (h : PW w R c ec W) {b : Nat} (hb : R + 3 ≤ b) (hw : w.heap.size ≤ R) (v : Value) : PW w R c ec (W.setCell ⟨b, 0, none⟩ v) :=
  ⟨Below.setCell h.ext (p := ⟨b, 0, none⟩) (by show _ ≤ b; omega) _, (heap_setCell_other W ⟨b, 0, none⟩ R v (by show R ≠ b; omega)).trans h.r, (heap_setCell_other W ⟨b, 0, none⟩ (R + 1) v (by show R + 1 ≠ b; omega)).trans h.e, (heap_setCell_other W ⟨b, 0, none⟩ (R + 1 + 1) v (by show R + 1 + 1 ≠ b; omega)).trans h.l⟩
theorem InCell.own {b i : Nat} {l : List UInt8} {B : Nat} (hb : b < B) : OwnP B (InCell b i l) := fun W W' row h hg hr => by
  have hlt := lt_of_cell h.1
  have e : W'.heap[b]? = W.heap[b]? := hg.block b hlt (fun e => by have := (hr b e.symm).1; omega)
  exact ⟨by rw [← h.1]; simp only [World.cell?, e], by rw [← h.2.1]; simp only [World.frozen?, e], h.2.2⟩
/-- Between two rounds; behind the body; behind a return. -/
def PI (w : World) (R b N : Nat) (l0 : List UInt8) (i : Nat) (l : List UInt8) (W : World) : Prop :=
  ∃ m c, l.length ≤ m ∧ PW w R c 0 W ∧ InCell b i l W ∧ runL N l0 0 LS.zero = runL (m + 1) l i c
def PI' (w : World) (R b N : Nat) (l0 : List UInt8) (i : Nat) (l : List UInt8) (W : World) : Prop :=
  ∃ m c, l.length ≤ m ∧ PW w R c 0 W ∧ InCell b i l W ∧ runL N l0 0 LS.zero = if cF 32 l then runL m (cZ 32 l) (i + 1) c else some c
def PX (w : World) (R N : Nat) (l0 : List UInt8) (W : World) : Prop := ∃ c, PW w R c 6 W ∧ runL N l0 0 LS.zero = none
theorem PI.own {w : World} {R b N i : Nat} {l0 l : List UInt8} {B : Nat} (hB : w.heap.size ≤ B) (hb : b < B) : OwnP B (PI w R b N l0 i l) := fun W W' row h hg hr => by
  obtain ⟨m, c, h1, h2, h3, h4⟩ := h
  exact ⟨m, c, h1, PW.own hB W W' row h2 hg hr, InCell.own hb W W' row h3 hg hr, h4⟩
theorem PI'.own {w : World} {R b N i : Nat} {l0 l : List UInt8} {B : Nat} (hB : w.heap.size ≤ B) (hb : b < B) : OwnP B (PI' w R b N l0 i l) := fun W W' row h hg hr => by
  obtain ⟨m, c, h1, h2, h3, h4⟩ := h
  exact ⟨m, c, h1, PW.own hB W W' row h2 hg hr, InCell.own hb W W' row h3 hg hr, h4⟩
theorem PX.own {w : World} {R N : Nat} {l0 : List UInt8} {B : Nat} (hB : w.heap.size ≤ B) : OwnP B (PX w R N l0) := fun W W' row h hg hr => by
  obtain ⟨c, h2, h4⟩ := h
  exact ⟨c, PW.own hB W W' row h2 hg hr, h4⟩
theorem PI'.put {w : World} {R b N : Nat} {l0 : List UInt8} (hb : R + 3 ≤ b) (hw : w.heap.size ≤ R) (i : Nat) (l : List UInt8) (W : World) (h : PI' w R b N l0 i l W) (hF : cF 32 l = true) :
    PI w R b N l0 (i + 1) (cZ 32 l) (W.setCell ⟨b, 0, none⟩ (.string ⟨(cZ 32 l).toArray⟩)) := by
  obtain ⟨m, c, h1, h2, h3, h4⟩ := h
  have hlt := cZ_lt hF
  have h35 := h3.2.2
  obtain ⟨m', rfl⟩ : ∃ m', m = m' + 1 := ⟨m - 1, by omega⟩
  rw [hF] at h4
  refine ⟨m', c, by omega, h2.put hb hw _, ⟨World.cell?_setCell_same' _ _ _ (by rw [h3.1]; rfl), by rw [World.frozen?_setCell]; exact h3.2.1, by omega⟩, ?_⟩
  simpa using h4
theorem KeepsOthers.ofExt {W W' : World} (h : Ext W W') : KeepsOthers W W' := ⟨h.size, fun k o hk _ => (h.block k (Array.getElem?_eq_some_iff.1 hk).1).trans hk⟩
theorem run_some {m i : Nat} {l : List UInt8} {c c' : LS} {x : Option LS} (h : stepL i (cA 32 l) c = some c') (hr : x = runL (m + 1) l i c) : x = if cF 32 l then runL m (cZ 32 l) (i + 1) c' else some c' := by
  rw [hr]; simp [runL, h]
theorem run_none {m i : Nat} {l : List UInt8} {c : LS} {x : Option LS} (h : stepL i (cA 32 l) c = none) (hr : x = runL (m + 1) l i c) : x = none := by
  rw [hr]; simp [runL, h]
theorem PW.setL {w : World} {R : Nat} {c c' : LS} {ec : Int} {W : World} (h : PW w R c ec W) (hw : w.heap.size ≤ R) (o : Nat) (v : Value)
    (hc : (W.setCell ⟨R + 1 + 1, o, none⟩ v).heap[R + 1 + 1]? = some (Obj.cells #[.int .i64 (c'.k), .int .i64 (c'.a), .int .i64 (c'.r), .int .i64 (c'.p), .int .u64 (c'.s)] 28 (0, 0))) : PW w R c' ec (W.setCell ⟨R + 1 + 1, o, none⟩ v) :=
  ⟨Below.setCell h.ext (p := ⟨R + 1 + 1, o, none⟩) (by show _ ≤ R + 1 + 1; omega) _, (heap_setCell_other W ⟨R + 1 + 1, o, none⟩ R v (by show R ≠ R + 1 + 1; omega)).trans h.r, (heap_setCell_other W ⟨R + 1 + 1, o, none⟩ (R + 1) v (by show R + 1 ≠ R + 1 + 1; omega)).trans h.e, hc⟩
theorem PW.set0 {w : World} {R : Nat} {c : LS} {ec : Int} {W : World} (h : PW w R c ec W) (hw : w.heap.size ≤ R) (v : Int) : PW w R { c with k := v } ec (W.setCell ⟨R + 1 + 1, 0, none⟩ (.int .i64 v)) := h.setL hw 0 _ (heap_setCell_same W _ 0 _ _ _ h.l)
theorem PW.set1 {w : World} {R : Nat} {c : LS} {ec : Int} {W : World} (h : PW w R c ec W) (hw : w.heap.size ≤ R) (v : Nat) : PW w R { c with a := v } ec (W.setCell ⟨R + 1 + 1, 1, none⟩ (.int .i64 v)) := h.setL hw 1 _ (heap_setCell_same W _ 1 _ _ _ h.l)
theorem PW.set2 {w : World} {R : Nat} {c : LS} {ec : Int} {W : World} (h : PW w R c ec W) (hw : w.heap.size ≤ R) (v : Nat) : PW w R { c with r := v } ec (W.setCell ⟨R + 1 + 1, 2, none⟩ (.int .i64 v)) := h.setL hw 2 _ (heap_setCell_same W _ 2 _ _ _ h.l)
theorem PW.set3 {w : World} {R : Nat} {c : LS} {ec : Int} {W : World} (h : PW w R c ec W) (hw : w.heap.size ≤ R) (v : Nat) : PW w R { c with p := v } ec (W.setCell ⟨R + 1 + 1, 3, none⟩ (.int .i64 v)) := h.setL hw 3 _ (heap_setCell_same W _ 3 _ _ _ h.l)
theorem PW.set4 {w : World} {R : Nat} {c : LS} {ec : Int} {W : World} (h : PW w R c ec W) (hw : w.heap.size ≤ R) (v : Nat) : PW w R { c with s := v } ec (W.setCell ⟨R + 1 + 1, 4, none⟩ (.int .u64 v)) := h.setL hw 4 _ (heap_setCell_same W _ 4 _ _ _ h.l)
theorem frz5 {w : World} {B : Nat} {cs : Array Value} {T : TypeId} (h : w.heap[B]? = some (.cells cs T (0, 0))) :
    w.frozen? ⟨B, 0, none⟩ = false ∧ w.frozen? ⟨B, 1, none⟩ = false ∧ w.frozen? ⟨B, 2, none⟩ = false ∧ w.frozen? ⟨B, 3, none⟩ = false ∧ w.frozen? ⟨B, 4, none⟩ = false :=
  ⟨Lib.frozen_of_heap h 0, Lib.frozen_of_heap h 1, Lib.frozen_of_heap h 2, Lib.frozen_of_heap h 3, Lib.frozen_of_heap h 4⟩
theorem InCell.setL {b i R : Nat} {l : List UInt8} {W : World} (h : InCell b i l W) (hb : b ≠ R) (o : Nat) (v : Value) : InCell b i l (W.setCell ⟨R, o, none⟩ v) := by
  have e := heap_setCell_other W ⟨R, o, none⟩ b v (by show b ≠ R; omega)
  exact ⟨by rw [← h.1]; simp only [World.cell?, e], by rw [← h.2.1]; simp only [World.frozen?, e], h.2.2⟩
theorem InCell.grow {b i : Nat} {l : List UInt8} {W W' : World} (h : InCell b i l W) (hb : Ext W W') : InCell b i l W' := by
  have e : W'.heap[b]? = W.heap[b]? := hb.block b (lt_of_cell h.1)
  exact ⟨by rw [← h.1]; simp only [World.cell?, e], by rw [← h.2.1]; simp only [World.frozen?, e], h.2.2⟩
/-- Every name of the kinds. -/
theorem names_all (W : World) : Calls Tryd.prog 29 #[] W fun e w' => e = .returned (.slice (some ⟨W.heap.size, 0, none⟩) 7 7) ∧ (∀ t, t ≤ 6 → w'.cell? ⟨W.heap.size, t, none⟩ = some (.string (wordB t))) ∧ Ext W w' :=
  (names_any W).mono fun e w' hh => ⟨hh.1, fun t ht => by rw [← hh.2, World.cell?_alloc_new]; exact wordsC_at t ht, by rw [← hh.2]; exact Ext.alloc (Below.refl _ _) _⟩
theorem st5_other (W : World) (R b : Nat) (h : b ≠ R) : ((((((W.setCell ⟨R, 0, none⟩ (.int .i64 0)).setCell ⟨R, 1, none⟩ (.int .i64 0)).setCell ⟨R, 2, none⟩ (.int .i64 0)).setCell ⟨R, 3, none⟩ (.int .i64 0)).setCell ⟨R, 4, none⟩ (.int .u64 0))).heap[b]? = W.heap[b]? :=
  ((heap_setCell_other _ ⟨R, 4, none⟩ b _ h).trans ((heap_setCell_other _ ⟨R, 3, none⟩ b _ h).trans ((heap_setCell_other _ ⟨R, 2, none⟩ b _ h).trans ((heap_setCell_other _ ⟨R, 1, none⟩ b _ h).trans (heap_setCell_other _ ⟨R, 0, none⟩ b _ h)))))
theorem PW.fail {w : World} {R : Nat} {c : LS} {ec : Int} {W : World} (h : PW w R c ec W) (hw : w.heap.size ≤ R) : PW w R c 6 (((((((W.setCell ⟨R, 0, none⟩ (.int .i64 0)).setCell ⟨R, 1, none⟩ (.int .i64 0)).setCell ⟨R, 2, none⟩ (.int .i64 0)).setCell ⟨R, 3, none⟩ (.int .i64 0)).setCell ⟨R, 4, none⟩ (.int .u64 0))).setCell ⟨R + 1, 0, none⟩ (.int .i64 6)) := by
  refine ⟨?_, ?_, ?_, ?_⟩
  · exact Below.setCell (((((Below.setCell h.ext (p := ⟨R, 0, none⟩) hw _).setCell (p := ⟨R, 1, none⟩) hw _).setCell (p := ⟨R, 2, none⟩) hw _).setCell (p := ⟨R, 3, none⟩) hw _).setCell (p := ⟨R, 4, none⟩) hw _) (p := ⟨R + 1, 0, none⟩) (by show _ ≤ R + 1; omega) _
  · refine (heap_setCell_other _ ⟨R + 1, 0, none⟩ R _ (by show R ≠ R + 1; omega)).trans ?_
    exact heap_setCell_same _ R 4 _ _ _ (heap_setCell_same _ R 3 _ _ _ (heap_setCell_same _ R 2 _ _ _ (heap_setCell_same _ R 1 _ _ _ (heap_setCell_same W R 0 _ _ _ h.r))))
  · exact heap_setCell_same _ (R + 1) 0 _ _ _ ((st5_other W R (R + 1) (by omega)).trans h.e)
  · exact (heap_setCell_other _ ⟨R + 1, 0, none⟩ (R + 1 + 1) _ (by show R + 1 + 1 ≠ R + 1; omega)).trans ((st5_other W R (R + 1 + 1) (by omega)).trans h.l)
theorem KeepsOthers.st (W : World) (R E : Nat) : KeepsOthers W (((((((W.setCell ⟨R, 0, none⟩ (.int .i64 0)).setCell ⟨R, 1, none⟩ (.int .i64 0)).setCell ⟨R, 2, none⟩ (.int .i64 0)).setCell ⟨R, 3, none⟩ (.int .i64 0)).setCell ⟨R, 4, none⟩ (.int .u64 0))).setCell ⟨E, 0, none⟩ (.int .i64 6)) :=
  (KeepsOthers.setCell _ _ _).trans ((KeepsOthers.setCell _ _ _).trans ((KeepsOthers.setCell _ _ _).trans ((KeepsOthers.setCell _ _ _).trans ((KeepsOthers.setCell _ _ _).trans (KeepsOthers.setCell _ _ _)))))
theorem err_cell {w : World} {R : Nat} {c : LS} {ec : Int} {W : World} (h : PW w R c ec W) : W.cell? ⟨R + 1, 0, none⟩ = some (.int .i64 ec) ∧ W.frozen? ⟨R + 1, 0, none⟩ = false :=
  ⟨by rw [Lib.cell_of_heap h.e]; rfl, Lib.frozen_of_heap h.e 0⟩
theorem step_ok {i n : Nat} {q : List UInt8} (hi : i ≠ 0) (c : LS) (h : Lib.parseUintB 64 (cZ 61 q) = .ok n) : stepL i q c = if i < 4 ∧ 4096 < n then none else some (if i = 1 then { c with a := n } else if i = 2 then { c with r := n } else if i = 3 then { c with p := n } else { c with s := n }) := by
  unfold stepL; rw [if_neg hi, h]
theorem step_bad {i : Nat} {q : List UInt8} (hi : i ≠ 0) (c : LS) (h : ∀ n, Lib.parseUintB 64 (cZ 61 q) ≠ .ok n) : stepL i q c = none := by
  unfold stepL; rw [if_neg hi]
  split
  · rename_i n hn; exact absurd hn (h n)
  · rfl
theorem pu_err (s : ByteArray) (hs : s.size ≤ 281474976710656) (h : ∀ n, Lib.parseUintB 64 s.data.toList ≠ .ok n) (w : World) (hw : Env w) :
    Calls Tryd.prog 37 #[.string s, .int .i64 10, .int .i64 64] w fun e w' => ∃ x N, e = .returned (.tuple #[.int .u64 x, .iface 99 (.pointer (some ⟨N, 0, none⟩))]) ∧ Ext w w' := by
  by_cases h2 : Lib.parseUintB 64 s.data.toList = .range
  · exact (pu_range s hs h2 w hw).mono fun e w' ⟨N, h3, h4⟩ => ⟨_, N, h3, h4⟩
  · have h3 : Lib.parseUintB 64 s.data.toList = noNum := by
      cases hx : Lib.parseUintB 64 s.data.toList with
      | ok v => exact absurd hx (h v)
      | range => exact absurd hx h2
      | _ => rfl
    exact (pu_bad s hs h3 w hw).mono fun e w' ⟨N, h4, h5⟩ => ⟨_, N, h4, h5⟩
theorem sg_other (W : World) (R b : Nat) (k a r p s : Int) (h : b ≠ R) : ((((((W.setCell ⟨R, 0, none⟩ (.int .i64 k)).setCell ⟨R, 1, none⟩ (.int .i64 a)).setCell ⟨R, 2, none⟩ (.int .i64 r)).setCell ⟨R, 3, none⟩ (.int .i64 p)).setCell ⟨R, 4, none⟩ (.int .u64 s))).heap[b]? = W.heap[b]? :=
  ((heap_setCell_other _ ⟨R, 4, none⟩ b _ h).trans ((heap_setCell_other _ ⟨R, 3, none⟩ b _ h).trans ((heap_setCell_other _ ⟨R, 2, none⟩ b _ h).trans ((heap_setCell_other _ ⟨R, 1, none⟩ b _ h).trans (heap_setCell_other _ ⟨R, 0, none⟩ b _ h)))))
theorem sg_same {W : World} {R : Nat} {o : Array Value} (k a r p s : Int) (h : W.heap[R]? = some (Obj.cells #[.int .i64 (0), .int .i64 (0), .int .i64 (0), .int .i64 (0), .int .u64 (0)] 28 (0, 0))) : ((((((W.setCell ⟨R, 0, none⟩ (.int .i64 k)).setCell ⟨R, 1, none⟩ (.int .i64 a)).setCell ⟨R, 2, none⟩ (.int .i64 r)).setCell ⟨R, 3, none⟩ (.int .i64 p)).setCell ⟨R, 4, none⟩ (.int .u64 s))).heap[R]? = some (Obj.cells #[.int .i64 (k), .int .i64 (a), .int .i64 (r), .int .i64 (p), .int .u64 (s)] 28 (0, 0)) :=
  heap_setCell_same _ R 4 _ _ _ (heap_setCell_same _ R 3 _ _ _ (heap_setCell_same _ R 2 _ _ _ (heap_setCell_same _ R 1 _ _ _ (heap_setCell_same W R 0 _ _ _ h))))
theorem PW.give {w : World} {R : Nat} {c : LS} {W : World} (h : PW w R c 0 W) (hw : w.heap.size ≤ R) (k a r p s : Int) :
    Ext w (((((((W.setCell ⟨R, 0, none⟩ (.int .i64 k)).setCell ⟨R, 1, none⟩ (.int .i64 a)).setCell ⟨R, 2, none⟩ (.int .i64 r)).setCell ⟨R, 3, none⟩ (.int .i64 p)).setCell ⟨R, 4, none⟩ (.int .u64 s))).setCell ⟨R + 1, 0, none⟩ (.int .i64 0)) ∧ (((((((W.setCell ⟨R, 0, none⟩ (.int .i64 k)).setCell ⟨R, 1, none⟩ (.int .i64 a)).setCell ⟨R, 2, none⟩ (.int .i64 r)).setCell ⟨R, 3, none⟩ (.int .i64 p)).setCell ⟨R, 4, none⟩ (.int .u64 s))).setCell ⟨R + 1, 0, none⟩ (.int .i64 0)).heap[R]? = some (Obj.cells #[.int .i64 (k), .int .i64 (a), .int .i64 (r), .int .i64 (p), .int .u64 (s)] 28 (0, 0)) ∧ (((((((W.setCell ⟨R, 0, none⟩ (.int .i64 k)).setCell ⟨R, 1, none⟩ (.int .i64 a)).setCell ⟨R, 2, none⟩ (.int .i64 r)).setCell ⟨R, 3, none⟩ (.int .i64 p)).setCell ⟨R, 4, none⟩ (.int .u64 s))).setCell ⟨R + 1, 0, none⟩ (.int .i64 0)).heap[R + 1]? = some (.cells #[.int .i64 0] 31 (0, 0)) := by
  refine ⟨?_, ?_, ?_⟩
  · exact Below.setCell (((((Below.setCell h.ext (p := ⟨R, 0, none⟩) hw _).setCell (p := ⟨R, 1, none⟩) hw _).setCell (p := ⟨R, 2, none⟩) hw _).setCell (p := ⟨R, 3, none⟩) hw _).setCell (p := ⟨R, 4, none⟩) hw _) (p := ⟨R + 1, 0, none⟩) (by show _ ≤ R + 1; omega) _
  · exact (heap_setCell_other _ ⟨R + 1, 0, none⟩ R _ (by show R ≠ R + 1; omega)).trans (sg_same (o := #[]) k a r p s h.r)
  · exact heap_setCell_same _ (R + 1) 0 _ _ _ ((sg_other W R (R + 1) k a r p s (by omega)).trans h.e)
theorem KeepsOthers.sg (W : World) (R E : Nat) (k a r p s e : Int) : KeepsOthers W (((((((W.setCell ⟨R, 0, none⟩ (.int .i64 k)).setCell ⟨R, 1, none⟩ (.int .i64 a)).setCell ⟨R, 2, none⟩ (.int .i64 r)).setCell ⟨R, 3, none⟩ (.int .i64 p)).setCell ⟨R, 4, none⟩ (.int .u64 s))).setCell ⟨E, 0, none⟩ (.int .i64 e)) :=
  (KeepsOthers.setCell _ _ _).trans ((KeepsOthers.setCell _ _ _).trans ((KeepsOthers.setCell _ _ _).trans ((KeepsOthers.setCell _ _ _).trans ((KeepsOthers.setCell _ _ _).trans (KeepsOthers.setCell _ _ _)))))
/-- What Parse answers. -/
def PPost (s : ByteArray) (w : World) (e : Ending) (w' : World) : Prop :=
  Ext w w' ∧ ((∃ k a r p x, Vld k a r p x ∧ textL k a r p x = s.data.toList ∧ e = .returned (.tuple #[.agg #[.int .i64 k, .int .i64 a, .int .i64 r, .int .i64 p, .int .u64 x], .int .i64 0])) ∨
    (e = .returned (.tuple #[.agg #[.int .i64 0, .int .i64 0, .int .i64 0, .int .i64 0, .int .u64 0], .int .i64 6]) ∧ ∀ k a r p x, Vld k a r p x → textL k a r p x ≠ s.data.toList))
theorem no_text {N : Nat} {s : ByteArray} (hN : s.data.toList.length + 5 = N) (h : runL N s.data.toList 0 LS.zero = none) : ∀ k a r p x, Vld k a r p x → textL k a r p x ≠ s.data.toList := fun k a r p x V e => by
  have := run_text V s.data.toList.length
  rw [e, hN, h] at this
  cases this
theorem run_s : ∀ (m : Nat) (l : List UInt8) (i : Nat) (c c' : LS), c.s ≤ never → runL m l i c = some c' → c'.s ≤ never
  | 0, _, _, _, _, _, h => by cases h
  | m + 1, l, i, c, c', hs, h => by
    unfold runL at h
    cases hst : stepL i (cA 32 l) c with
    | none => rw [hst] at h; cases h
    | some c1 =>
      rw [hst] at h
      have h1 : c1.s ≤ never := by
        unfold stepL at hst
        split at hst
        · cases hst; exact hs
        · split at hst
          · rename_i n hn
            have hle := uintB_le _ _ hn
            split at hst
            · cases hst
            · cases hst
              split
              · exact hs
              · split
                · exact hs
                · split
                  · exact hs
                  · exact hle
          · cases hst
      simp only at h
      split at h
      · exact run_s m _ _ c1 c' h1 h
      · cases h; exact h1
theorem vld_to {k : Int} {a r p s : Nat} (h : vldL k a r p s = true) (hs : s ≤ never) : ∃ k' : Nat, k = k' ∧ Vld k' a r p s := by
  have hs2 : s < 18446744073709551616 := by unfold never at hs; omega
  by_cases g : 1 ≤ (a : Int) ∧ (a : Int) ≤ 4096 ∧ 0 ≤ (r : Int) ∧ (r : Int) ≤ 4096
  · rw [vld_in g] at h
    unfold vldK at h
    have hk : k = 1 ∨ k = 2 ∨ k = 3 ∨ k = 4 ∨ k = 5 ∨ k = 6 := by
      by_cases k = 1 ∨ k = 2 ∨ k = 3 ∨ k = 4 ∨ k = 5 ∨ k = 6
      · assumption
      · rw [if_neg (by omega), if_neg (by omega), if_neg (by omega), if_neg (by omega), if_neg (by omega), if_neg (by omega)] at h
        cases h
    rcases hk with rfl | rfl | rfl | rfl | rfl | rfl
    · exact ⟨1, rfl, ⟨hs2, by omega, by omega, by omega, by simp at h; omega⟩⟩
    · exact ⟨2, rfl, ⟨hs2, by omega, by omega, by omega, by simp at h; omega⟩⟩
    · exact ⟨3, rfl, ⟨hs2, by omega, by omega, by omega, by simp at h; omega⟩⟩
    · exact ⟨4, rfl, ⟨hs2, by omega, by omega, by omega, by simp at h; omega⟩⟩
    · exact ⟨5, rfl, ⟨hs2, by omega, by omega, by omega, by simp at h; omega⟩⟩
    · exact ⟨6, rfl, ⟨hs2, by omega, by omega, by omega, by simp at h; omega⟩⟩
  · rw [vld_out g] at h; cases h
set_option maxRecDepth 100000 in
set_option maxHeartbeats 4000000 in
theorem parse_any (s : ByteArray) (w : World) (hs : s.size ≤ 100000) (hw : Env w) : Calls Tryd.prog 21 #[.string s] w (PPost s w) := by
  refine (callsIn_wide (n := 9)).1 ?_
  refine callsIn_of_wp_marks Tryd.func21 rfl trivial ?_ rfl
  simp only [Tryd.ntmps21, List.size_toArray, List.length_cons, List.length_nil, Nat.reduceAdd, Nat.reduceSub, Array.replicate_succ, Array.replicate_zero, List.push_toArray, List.append_toArray, List.nil_append, List.cons_append]
  have cw : Box _ := ⟨fun w => words_any s w⟩
  gi_wp2_with (first | (refine ⟨trivial, ?_⟩; gi_at_call 34; (with_reducible refine (callsIn_wide.2 (cw.out _)).mono ?_); rintro e w' ⟨rfl, rfl⟩))
  have hPW : PW w w.heap.size LS.zero 0 ((((w.alloc (Obj.cells #[.int .i64 (0), .int .i64 (0), .int .i64 (0), .int .i64 (0), .int .u64 (0)] 28)).alloc (.cells #[.int .i64 0] 31)).alloc (Obj.cells #[.int .i64 (0), .int .i64 (0), .int .i64 (0), .int .i64 (0), .int .u64 (0)] 28)).alloc (.cells #[.string s] 9)) := by
    have n1 := newblk w (Obj.cells #[.int .i64 (0), .int .i64 (0), .int .i64 (0), .int .i64 (0), .int .u64 (0)] 28)
    have n2 := newblk (w.alloc (Obj.cells #[.int .i64 (0), .int .i64 (0), .int .i64 (0), .int .i64 (0), .int .u64 (0)] 28)) (.cells #[.int .i64 0] 31)
    have n3 := newblk ((w.alloc (Obj.cells #[.int .i64 (0), .int .i64 (0), .int .i64 (0), .int .i64 (0), .int .u64 (0)] 28)).alloc (.cells #[.int .i64 0] 31)) (Obj.cells #[.int .i64 (0), .int .i64 (0), .int .i64 (0), .int .i64 (0), .int .u64 (0)] 28)
    simp only [World.size_alloc] at n2 n3
    have x1 : ∀ (W : World) (o : Obj), Ext W (W.alloc o) := fun W o => Ext.alloc (Below.refl _ _) _
    exact ⟨Ext.trans' (x1 _ _) (Ext.trans' (x1 _ _) (Ext.trans' (x1 _ _) (x1 _ _))), Ext.blk (x1 _ _) (Ext.blk (x1 _ _) (Ext.blk (x1 _ _) n1)), Ext.blk (x1 _ _) (Ext.blk (x1 _ _) n2), Ext.blk (x1 _ _) n3⟩
  have hIC : InCell (w.heap.size + 1 + 1 + 1) 0 s.data.toList ((((w.alloc (Obj.cells #[.int .i64 (0), .int .i64 (0), .int .i64 (0), .int .i64 (0), .int .u64 (0)] 28)).alloc (.cells #[.int .i64 0] 31)).alloc (Obj.cells #[.int .i64 (0), .int .i64 (0), .int .i64 (0), .int .i64 (0), .int .u64 (0)] 28)).alloc (.cells #[.string s] 9)) := by
    have n4 := newblk (((w.alloc (Obj.cells #[.int .i64 (0), .int .i64 (0), .int .i64 (0), .int .i64 (0), .int .u64 (0)] 28)).alloc (.cells #[.int .i64 0] 31)).alloc (Obj.cells #[.int .i64 (0), .int .i64 (0), .int .i64 (0), .int .i64 (0), .int .u64 (0)] 28)) (.cells #[.string s] 9)
    simp only [World.size_alloc] at n4
    refine ⟨by rw [Lib.cell_of_heap n4]; rfl, Lib.frozen_of_heap n4 0, ?_⟩
    have : s.data.toList.length = s.size := rfl
    omega
  have hsz : ((((w.alloc (Obj.cells #[.int .i64 (0), .int .i64 (0), .int .i64 (0), .int .i64 (0), .int .u64 (0)] 28)).alloc (.cells #[.int .i64 0] 31)).alloc (Obj.cells #[.int .i64 (0), .int .i64 (0), .int .i64 (0), .int .i64 (0), .int .u64 (0)] 28)).alloc (.cells #[.string s] 9)).heap.size = w.heap.size + 1 + 1 + 1 + 1 := by simp
  generalize (((w.alloc (Obj.cells #[.int .i64 (0), .int .i64 (0), .int .i64 (0), .int .i64 (0), .int .u64 (0)] 28)).alloc (.cells #[.int .i64 0] 31)).alloc (Obj.cells #[.int .i64 (0), .int .i64 (0), .int .i64 (0), .int .i64 (0), .int .u64 (0)] 28)).alloc (.cells #[.string s] 9) = W0 at *
  generalize hN : s.data.toList.length + 5 = N
  have h00 : PI w w.heap.size (w.heap.size + 1 + 1 + 1) N s.data.toList 0 s.data.toList W0 := ⟨s.data.toList.length + 4, LS.zero, by omega, hPW, hIC, by rw [← hN]⟩
  refine range_cell rfl (by decide) (gf := 48) (lb := #[.pointer (some ⟨w.heap.size + 1 + 1 + 1, 0, none⟩)]) rfl trivial (fun args w => Tryd.call48 args w) (by omega) (words_iter _ _ (by decide) s.data.toList) (fun _ _ => rfl)
    (PI w w.heap.size (w.heap.size + 1 + 1 + 1) N s.data.toList) (PI' w w.heap.size (w.heap.size + 1 + 1 + 1) N s.data.toList) (PX w w.heap.size N s.data.toList)
    (fun i l => PI.own (by omega) (by omega)) (fun i l => PI'.own (by omega) (by omega)) (PX.own (by omega))
    (fun i l W h => by obtain ⟨m, c, h1, h2, h3, h4⟩ := h; exact h3) (fun i l W h => by obtain ⟨m, c, h1, h2, h3, h4⟩ := h; exact h3)
    (fun i l W h hF => PI'.put (by omega) (Nat.le_refl _) i l W h hF) h00 ?a1 ?assign ?body ?done ?stop
  case assign =>
    intro lp i l W K hK
    dsimp only [wEncs]
    gi_wp2
    exact hK
  case body =>
    rintro lp i l W ⟨m, c, hm, hP, hC, hrun⟩
    by_cases hi0 : i = 0
    · subst hi0
      have hst : Box (stepL 0 (cA 32 l) c = some { c with k := idxL (cA 32 l) }) := ⟨rfl⟩
      have cn : Box _ := ⟨names_all W⟩
      have ci : Box (∀ W1, (∀ t, t ≤ 6 → W1.cell? ⟨W.heap.size, t, none⟩ = some (.string (wordB t))) → Calls Tryd.prog 35 #[.slice (some ⟨W.heap.size, 0, none⟩) 7 7, .string ⟨(cA 32 l).toArray⟩] W1 fun e w' => e = .returned (.int .i64 (idxL (cA 32 l))) ∧ W1 = w') := ⟨fun W1 h => index_any W.heap.size ⟨(cA 32 l).toArray⟩ W1 h⟩
      gi_wp2_with (first
        | (refine ⟨trivial, ?_⟩; gi_at_call 29; refine (CallsIn.inRound lp (callsIn_wide.2 cn.out)).mono ?_; rintro e W1 ⟨rfl, hcs, hb⟩; obtain ⟨m0, -⟩ := blk5 (hP.grow hb).l; obtain ⟨f0, -⟩ := frz5 (hP.grow hb).l)
        | (refine ⟨trivial, ?_⟩; gi_at_call 35; refine (CallsIn.inRound lp (callsIn_wide.2 (ci.out _ hcs))).mono ?_; rintro e w' ⟨rfl, rfl⟩))
      exact ⟨(KeepsOthers.ofExt hb).trans (KeepsOthers.setCell _ _ _), m, _, hm, (hP.grow hb).set0 (Nat.le_refl _) _, (hC.grow hb).setL (by omega) _ _, run_some hst.out hrun⟩
    · have e0 : ((i : Int) == 0) = false := by rw [beq_eq_false_iff_ne]; omega
      have hlen := hC.2.2
      have hwl := cA_len 32 l
      have cc : Box (∀ w, Calls Tryd.prog 36 #[.string ⟨(cA 32 l).toArray⟩, .string ⟨#[61]⟩] w fun e w' => e = .returned (.tuple #[.string ⟨(cA 61 (cA 32 l)).toArray⟩, .string ⟨(cZ 61 (cA 32 l)).toArray⟩, .bool (cF 61 (cA 32 l))]) ∧ Ext w w') := ⟨fun w => xcut_any 61 ⟨(cA 32 l).toArray⟩ w (by show (cA 32 l).toArray.size ≤ _; simp; omega)⟩
      have hzl := cZ_len 61 (cA 32 l)
      have hzs : (⟨(cZ 61 (cA 32 l)).toArray⟩ : ByteArray).size ≤ 281474976710656 := by show (cZ 61 (cA 32 l)).toArray.size ≤ _; simp; omega
      by_cases hok : ∃ n, Lib.parseUintB 64 (cZ 61 (cA 32 l)) = .ok n
      · obtain ⟨n, hn⟩ := hok
        have co : Box _ := ⟨fun w => pu_ok ⟨(cZ 61 (cA 32 l)).toArray⟩ n hzs hn w⟩
        have hst := step_ok (i := i) (q := cA 32 l) (by omega) c hn
        have hnv := uintB_le _ _ hn
        by_cases hbig : i < 4 ∧ 4096 < n
        · rw [if_pos hbig] at hst
          have hst := Box.mk hst
          have d1 : decide ((i : Int) < 4) = true := decide_eq_true (by omega)
          have d2 : decide (4096 < (n : Int)) = true := decide_eq_true (by omega)
          generalize cA 61 (cA 32 l) = za at *
          generalize cZ 61 (cA 32 l) = zz at *
          generalize cF 61 (cA 32 l) = zf at *
          clear hbig hn hi0
          gi_wp2_with (first | (refine ⟨trivial, ?_⟩; gi_at_call 36; refine (CallsIn.inRound lp (callsIn_wide.2 (cc.out _))).mono ?_; rintro e W1 ⟨rfl, hb1⟩) | (refine ⟨trivial, ?_⟩; gi_at_call 37; refine (CallsIn.inRound lp (callsIn_wide.2 (co.out _))).mono ?_; rintro e W2 ⟨rfl, hb2⟩; have hP2 := (hP.grow hb1).grow hb2; obtain ⟨r0, r1, r2, r3, r4⟩ := blk5 hP2.r; obtain ⟨f0, f1, f2, f3, f4⟩ := frz5 hP2.r; obtain ⟨q0, q1⟩ := err_cell hP2))
          exact ⟨(KeepsOthers.ofExt hb1).trans ((KeepsOthers.ofExt hb2).trans (KeepsOthers.st _ _ _)), c, hP2.fail (Nat.le_refl _), run_none hst.out hrun⟩
        · rw [if_neg hbig] at hst
          have hnn : i < 4 → n ≤ 4096 := fun h => by omega
          by_cases h4 : i < 4
          · have hn4 := hnn h4
            have d1 : decide ((i : Int) < 4) = true := decide_eq_true (by omega)
            have d2 : decide (4096 < (n : Int)) = false := decide_eq_false (by omega)
            have u1 : IntKind.i64.wrap (n : Int) = n := by rw [IntKind.wrap_i64]; omega
            by_cases h1 : i = 1
            · subst h1
              have hst9 : Box (stepL 1 (cA 32 l) c = some { c with a := n }) := ⟨hst⟩
              generalize cA 61 (cA 32 l) = za at *
              generalize cZ 61 (cA 32 l) = zz at *
              generalize cF 61 (cA 32 l) = zf at *
              clear hbig hn hi0 hnn hst
              gi_wp2_with (first | (refine ⟨trivial, ?_⟩; gi_at_call 36; refine (CallsIn.inRound lp (callsIn_wide.2 (cc.out _))).mono ?_; rintro e W1 ⟨rfl, hb1⟩) | (refine ⟨trivial, ?_⟩; gi_at_call 37; refine (CallsIn.inRound lp (callsIn_wide.2 (co.out _))).mono ?_; rintro e W2 ⟨rfl, hb2⟩; have hP2 := (hP.grow hb1).grow hb2; obtain ⟨r0, r1, r2, r3, r4⟩ := blk5 hP2.l; obtain ⟨f0, f1, f2, f3, f4⟩ := frz5 hP2.l))
              exact ⟨(KeepsOthers.ofExt hb1).trans ((KeepsOthers.ofExt hb2).trans (KeepsOthers.setCell _ _ _)), m, _, hm, hP2.set1 (Nat.le_refl _) _, ((hC.grow hb1).grow hb2).setL (by omega) _ _, run_some hst9.out hrun⟩
            have g1 : ((i : Int) == 1) = false := by rw [beq_eq_false_iff_ne]; omega
            by_cases h2 : i = 2
            · subst h2
              have hst9 : Box (stepL 2 (cA 32 l) c = some { c with r := n }) := ⟨hst⟩
              generalize cA 61 (cA 32 l) = za at *
              generalize cZ 61 (cA 32 l) = zz at *
              generalize cF 61 (cA 32 l) = zf at *
              clear hbig hn hi0 hnn hst
              gi_wp2_with (first | (refine ⟨trivial, ?_⟩; gi_at_call 36; refine (CallsIn.inRound lp (callsIn_wide.2 (cc.out _))).mono ?_; rintro e W1 ⟨rfl, hb1⟩) | (refine ⟨trivial, ?_⟩; gi_at_call 37; refine (CallsIn.inRound lp (callsIn_wide.2 (co.out _))).mono ?_; rintro e W2 ⟨rfl, hb2⟩; have hP2 := (hP.grow hb1).grow hb2; obtain ⟨r0, r1, r2, r3, r4⟩ := blk5 hP2.l; obtain ⟨f0, f1, f2, f3, f4⟩ := frz5 hP2.l))
              exact ⟨(KeepsOthers.ofExt hb1).trans ((KeepsOthers.ofExt hb2).trans (KeepsOthers.setCell _ _ _)), m, _, hm, hP2.set2 (Nat.le_refl _) _, ((hC.grow hb1).grow hb2).setL (by omega) _ _, run_some hst9.out hrun⟩
            have g2 : ((i : Int) == 2) = false := by rw [beq_eq_false_iff_ne]; omega
            obtain rfl : i = 3 := by omega
            have hst9 : Box (stepL 3 (cA 32 l) c = some { c with p := n }) := ⟨hst⟩
            generalize cA 61 (cA 32 l) = za at *
            generalize cZ 61 (cA 32 l) = zz at *
            generalize cF 61 (cA 32 l) = zf at *
            clear hbig hn hi0 hnn hst
            gi_wp2_with (first | (refine ⟨trivial, ?_⟩; gi_at_call 36; refine (CallsIn.inRound lp (callsIn_wide.2 (cc.out _))).mono ?_; rintro e W1 ⟨rfl, hb1⟩) | (refine ⟨trivial, ?_⟩; gi_at_call 37; refine (CallsIn.inRound lp (callsIn_wide.2 (co.out _))).mono ?_; rintro e W2 ⟨rfl, hb2⟩; have hP2 := (hP.grow hb1).grow hb2; obtain ⟨r0, r1, r2, r3, r4⟩ := blk5 hP2.l; obtain ⟨f0, f1, f2, f3, f4⟩ := frz5 hP2.l))
            exact ⟨(KeepsOthers.ofExt hb1).trans ((KeepsOthers.ofExt hb2).trans (KeepsOthers.setCell _ _ _)), m, _, hm, hP2.set3 (Nat.le_refl _) _, ((hC.grow hb1).grow hb2).setL (by omega) _ _, run_some hst9.out hrun⟩
          · have d1 : decide ((i : Int) < 4) = false := decide_eq_false (by omega)
            have g1 : ((i : Int) == 1) = false := by rw [beq_eq_false_iff_ne]; omega
            have g2 : ((i : Int) == 2) = false := by rw [beq_eq_false_iff_ne]; omega
            have g3 : ((i : Int) == 3) = false := by rw [beq_eq_false_iff_ne]; omega
            rw [if_neg (by omega), if_neg (by omega), if_neg (by omega)] at hst
            have hst9 := Box.mk hst
            generalize cA 61 (cA 32 l) = za at *
            generalize cZ 61 (cA 32 l) = zz at *
            generalize cF 61 (cA 32 l) = zf at *
            clear hbig hn hi0 hnn hst
            gi_wp2_with (first | (refine ⟨trivial, ?_⟩; gi_at_call 36; refine (CallsIn.inRound lp (callsIn_wide.2 (cc.out _))).mono ?_; rintro e W1 ⟨rfl, hb1⟩) | (refine ⟨trivial, ?_⟩; gi_at_call 37; refine (CallsIn.inRound lp (callsIn_wide.2 (co.out _))).mono ?_; rintro e W2 ⟨rfl, hb2⟩; have hP2 := (hP.grow hb1).grow hb2; obtain ⟨r0, r1, r2, r3, r4⟩ := blk5 hP2.l; obtain ⟨f0, f1, f2, f3, f4⟩ := frz5 hP2.l))
            exact ⟨(KeepsOthers.ofExt hb1).trans ((KeepsOthers.ofExt hb2).trans (KeepsOthers.setCell _ _ _)), m, _, hm, hP2.set4 (Nat.le_refl _) _, ((hC.grow hb1).grow hb2).setL (by omega) _ _, run_some hst9.out hrun⟩
      · have hst := Box.mk (step_bad (i := i) (q := cA 32 l) (by omega) c (fun n hn => hok ⟨n, hn⟩))
        have ce : Box _ := ⟨fun w hw => pu_err ⟨(cZ 61 (cA 32 l)).toArray⟩ hzs (fun n hn => hok ⟨n, hn⟩) w hw⟩
        generalize cA 61 (cA 32 l) = za at *
        generalize cZ 61 (cA 32 l) = zz at *
        generalize cF 61 (cA 32 l) = zf at *
        clear hok hi0
        gi_wp2_with (first | (refine ⟨trivial, ?_⟩; gi_at_call 36; refine (CallsIn.inRound lp (callsIn_wide.2 (cc.out _))).mono ?_; rintro e W1 ⟨rfl, hb1⟩) | (refine ⟨trivial, ?_⟩; gi_at_call 37; refine (CallsIn.inRound lp (callsIn_wide.2 (ce.out _ (hw.ext (hP.grow hb1).ext)))).mono ?_; rintro e W2 ⟨x, Nb, rfl, hb2⟩; have hP2 := (hP.grow hb1).grow hb2; obtain ⟨r0, r1, r2, r3, r4⟩ := blk5 hP2.r; obtain ⟨f0, f1, f2, f3, f4⟩ := frz5 hP2.r; obtain ⟨q0, q1⟩ := err_cell hP2))
        exact ⟨(KeepsOthers.ofExt hb1).trans ((KeepsOthers.ofExt hb2).trans (KeepsOthers.st _ _ _)), c, hP2.fail (Nat.le_refl _), run_none hst.out hrun⟩
  case done =>
    rintro D i l W hDl hF ⟨m, c, hm, hP, hC, hrun⟩ hD
    rw [hF] at hrun
    have hrc : Box (runL N s.data.toList 0 LS.zero = some c) := ⟨by simpa using hrun⟩
    clear hrun
    have hcs : c.s ≤ never := run_s N _ _ _ c (by decide) hrc.out
    have huniq : ∀ k a r p x, Vld k a r p x → textL k a r p x = s.data.toList → c = ⟨k, a, r, p, x⟩ := fun k a r p x V e => by
      have := run_text V s.data.toList.length
      rw [e, hN, hrc.out] at this
      exact Option.some.inj this
    have hEv : Env W := hw.ext hP.ext
    obtain ⟨l0, l1, l2, l3, l4⟩ := blk5 hP.l
    cases hv : vldL c.k c.a c.r c.p c.s with
    | false =>
      have Hno : Box (∀ k a r p x, Vld k a r p x → textL k a r p x ≠ s.data.toList) := ⟨fun k a r p x V e => by
        have := huniq k a r p x V e
        subst this
        rw [vld_of V] at hv
        cases hv⟩
      have cT : Box _ := ⟨gtext_bad c.k c.a c.r c.p c.s hv W⟩
      clear hv huniq hcs hF
      gi_wp2_with (first | (refine ⟨trivial, ?_⟩; gi_at_call 19; refine (callsIn_wide.2 (cT.out)).mono ?_; rintro e W2 ⟨rfl, hb⟩; have hP2 := hP.grow hb; (try clear l0 l1 l2 l3 l4); obtain ⟨r0, r1, r2, r3, r4⟩ := blk5 hP2.r; obtain ⟨f0, f1, f2, f3, f4⟩ := frz5 hP2.r; obtain ⟨q0, q1⟩ := err_cell hP2; obtain ⟨l0, l1, l2, l3, l4⟩ := blk5 hP2.l))
      have hD2 := ((KeepsOthers.ofExt hb).trans (KeepsOthers.st W2 w.heap.size (w.heap.size + 1))).same D _ hD rfl
      have hP3 := hP2.fail (Nat.le_refl _)
      have h9 := PW.own (B := W0.heap.size) (by omega) _ _ (some D) hP3 (grownBy_putObj' _ D (.deferred none)) (fun r e => by cases e; exact ⟨hDl, _, hD2, rfl⟩)
      obtain ⟨x0, x1, x2, x3, x4⟩ := blk5 h9.r
      obtain ⟨y0, y1⟩ := err_cell h9
      refine ⟨by simp, .inl ⟨_, _, rfl, run_takeDeferred hD2, ?_⟩⟩
      refine ⟨.tuple #[.agg #[.int .i64 0, .int .i64 0, .int .i64 0, .int .i64 0, .int .u64 0], .int .i64 6], ?_, h9.ext, .inr ⟨rfl, Hno.out⟩⟩
      simp [results, Tryd.f21, go_sem, x0, x1, x2, x3, x4, y0]
    | true =>
      obtain ⟨k, hk, V⟩ := vld_to hv hcs
      rw [hk] at l0
      have cT : Box _ := ⟨gtext_any V W hEv.tabs⟩
      have HV := Box.mk V
      have hkB := Box.mk hk
      by_cases he : textB k c.a c.r c.p c.s = s
      · rw [he] at cT
        have hsl : Box (textL k c.a c.r c.p c.s = s.data.toList) := ⟨by rw [← text_list, he]⟩
        have hee : (s.toList == s.toList) = true := by simp
        clear hv huniq hcs hF V he hk
        gi_wp2_with (first | (refine ⟨trivial, ?_⟩; gi_at_call 19; refine (callsIn_wide.2 (cT.out)).mono ?_; rintro e W2 ⟨rfl, hb⟩; have hP2 := hP.grow hb; (try clear l0 l1 l2 l3 l4); obtain ⟨r0, r1, r2, r3, r4⟩ := blk5 hP2.r; obtain ⟨f0, f1, f2, f3, f4⟩ := frz5 hP2.r; obtain ⟨q0, q1⟩ := err_cell hP2; obtain ⟨l0, l1, l2, l3, l4⟩ := blk5 hP2.l); rw [hkB.out] at l0)
        have hD2 := ((KeepsOthers.ofExt hb).trans (KeepsOthers.sg W2 w.heap.size (w.heap.size + 1) k c.a c.r c.p c.s 0)).same D _ hD rfl
        obtain ⟨j0, j1, j2⟩ := hP2.give (Nat.le_refl _) k c.a c.r c.p c.s
        refine ⟨by simp, .inl ⟨_, _, rfl, run_takeDeferred hD2, ?_⟩⟩
        have hne1 : w.heap.size ≠ D := by omega
        have hne2 : w.heap.size + 1 ≠ D := by omega
        have k1 : (World.putObj _ D (.deferred none)).heap[w.heap.size]? = _ := (World.putObj_heap_other hne1).trans j1
        have k2 : (World.putObj _ D (.deferred none)).heap[w.heap.size + 1]? = _ := (World.putObj_heap_other hne2).trans j2
        obtain ⟨x0, x1, x2, x3, x4⟩ := blk5 k1
        have y0 : World.cell? _ ⟨w.heap.size + 1, 0, none⟩ = some (.int .i64 0) := (Lib.cell_of_heap k2 0).trans rfl
        refine ⟨.tuple #[.agg #[.int .i64 k, .int .i64 c.a, .int .i64 c.r, .int .i64 c.p, .int .u64 c.s], .int .i64 0], ?_, ?_, .inl ⟨k, c.a, c.r, c.p, c.s, HV.out, hsl.out, rfl⟩⟩
        · simp [results, Tryd.f21, go_sem, x0, x1, x2, x3, x4, y0]
        · exact j0.trans (belowK_b (w := w) (Nat.le_refl _) _ D _ _ (by omega) hD2 rfl rfl)
      · have Hno : Box (∀ k a r p x, Vld k a r p x → textL k a r p x ≠ s.data.toList) := ⟨fun k' a r p x V' e => by
          have h1 := huniq k' a r p x V' e
          have h2 : k = k' := by have h3 := congrArg LS.k h1; rw [hk] at h3; simp only at h3; omega
          have h4 := congrArg LS.a h1
          have h5 := congrArg LS.r h1
          have h6 := congrArg LS.p h1
          have h7 := congrArg LS.s h1
          simp only at h4 h5 h6 h7
          apply he
          apply ByteArray.ext
          apply Array.ext'
          rw [text_list, h2, h4, h5, h6, h7]
          exact e⟩
        have hee : ((textB k c.a c.r c.p c.s).toList == s.toList) = false := by
          rw [Lib.toList_data, Lib.toList_data]
          exact beq_eq_false_iff_ne.2 (fun e => he (by apply ByteArray.ext; apply Array.ext'; exact e))
        generalize textB k c.a c.r c.p c.s = y at *
        clear hv huniq hcs hF V he hk
        gi_wp2_with (first | (refine ⟨trivial, ?_⟩; gi_at_call 19; refine (callsIn_wide.2 (cT.out)).mono ?_; rintro e W2 ⟨rfl, hb⟩; have hP2 := hP.grow hb; (try clear l0 l1 l2 l3 l4); obtain ⟨r0, r1, r2, r3, r4⟩ := blk5 hP2.r; obtain ⟨f0, f1, f2, f3, f4⟩ := frz5 hP2.r; obtain ⟨q0, q1⟩ := err_cell hP2; obtain ⟨l0, l1, l2, l3, l4⟩ := blk5 hP2.l))
        have hD2 := ((KeepsOthers.ofExt hb).trans (KeepsOthers.st W2 w.heap.size (w.heap.size + 1))).same D _ hD rfl
        have hP3 := hP2.fail (Nat.le_refl _)
        have h9 := PW.own (B := W0.heap.size) (by omega) _ _ (some D) hP3 (grownBy_putObj' _ D (.deferred none)) (fun r e => by cases e; exact ⟨hDl, _, hD2, rfl⟩)
        obtain ⟨x0, x1, x2, x3, x4⟩ := blk5 h9.r
        obtain ⟨y0, y1⟩ := err_cell h9
        refine ⟨by simp, .inl ⟨_, _, rfl, run_takeDeferred hD2, ?_⟩⟩
        refine ⟨.tuple #[.agg #[.int .i64 0, .int .i64 0, .int .i64 0, .int .i64 0, .int .u64 0], .int .i64 6], ?_, h9.ext, .inr ⟨rfl, Hno.out⟩⟩
        simp [results, Tryd.f21, go_sem, x0, x1, x2, x3, x4, y0]
  case stop =>
    rintro D W hDl ⟨c, hP, hrun⟩ hD
    have h9 : PW w w.heap.size c 6 (W.putObj D (.deferred none)) := PW.own (B := W0.heap.size) (by omega) _ _ (some D) hP (grownBy_putObj' _ _ _) (fun r e => by cases e; exact ⟨hDl, _, hD, rfl⟩)
    obtain ⟨r0, r1, r2, r3, r4⟩ := blk5 h9.r
    obtain ⟨q0, q1⟩ := err_cell h9
    gi_wp2
    refine ⟨by simp, .inl ⟨_, _, rfl, run_takeDeferred hD, ?_⟩⟩
    refine ⟨.tuple #[.agg #[.int .i64 0, .int .i64 0, .int .i64 0, .int .i64 0, .int .u64 0], .int .i64 6], ?_, h9.ext, .inr ⟨rfl, no_text hN hrun⟩⟩
    simp [results, Tryd.f21, go_sem, r0, r1, r2, r3, r4, q0]
end Go.Proofs.YthlnhemdhlkhfaaDoor
