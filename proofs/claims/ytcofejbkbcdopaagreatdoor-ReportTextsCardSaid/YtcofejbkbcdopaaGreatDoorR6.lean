import Derived.Test.YtcofejbkbcdopaaGreatDoorR5
/- Contract of the report's score: the score with a line, if there is one. -/
namespace Go.Proofs.YtcofejbkbcdopaaGreatDoor
open Go.RowKit
theorem spans_len (s : ByteArray) : ∀ (f pos : Nat) (st : Option Nat) (acc : List (Nat × Nat)), (Lib.closeSpans s (Lib.spansFromP pR s f pos st acc)).length ≤ acc.length + f + 1 := by
  intro f
  induction f with
  | zero =>
    intro pos st acc
    show (Lib.closeSpans s (acc, st)).length ≤ _
    cases st <;> simp [Lib.closeSpans]
  | succ f ih =>
    intro pos st acc
    unfold Lib.spansFromP
    split
    · split
      · cases st with
        | none => have := ih (pos + (Utf8.decode s pos).2) none acc; simp only; omega
        | some a => have := ih (pos + (Utf8.decode s pos).2) none (acc ++ [(a, pos)]); simp only [List.length_append, List.length_cons, List.length_nil] at this; simp only; omega
      · cases st with
        | none => have := ih (pos + (Utf8.decode s pos).2) (some pos) acc; simp only; omega
        | some a => have := ih (pos + (Utf8.decode s pos).2) (some a) acc; simp only; omega
    · cases st <;> simp [Lib.closeSpans]; omega
theorem fields_len (s : ByteArray) : (Lib.goFieldsP pR s).length ≤ s.size + 1 := by
  unfold Lib.goFieldsP Lib.spansOfP
  rw [List.length_map]
  have := spans_len s s.size 0 none []
  simp at this; omega
/-- What score answers. -/
def ScP (o : Option Sc) (w : World) (e : Ending) (w' : World) : Prop :=
  (∃ k s b a : Int, e = .returned (.tuple #[(.agg #[.int .i64 (k), .int .i64 (s), .int .i64 (b), .int .i64 (a)]), .bool o.isSome]) ∧ ∀ x, o = some x → k = x.k ∧ s = x.size ∧ b = x.b ∧ a = x.a) ∧ Ext w w'
theorem ScP.none {w w' : World} {o : Option Sc} (h : o = none) (k s b a : Int) (hx : Ext w w') : ScP o w (.returned (.tuple #[(.agg #[.int .i64 (k), .int .i64 (s), .int .i64 (b), .int .i64 (a)]), .bool false])) w' :=
  ⟨⟨k, s, b, a, by rw [h]; rfl, fun x hx => by rw [h] at hx; cases hx⟩, hx⟩
theorem ScP.some {w w' : World} {o : Option Sc} {x : Sc} (h : o = some x) (hx : Ext w w') : ScP o w (.returned (.tuple #[(.agg #[.int .i64 (x.k), .int .i64 (x.size), .int .i64 (x.b), .int .i64 (x.a)]), .bool true])) w' :=
  ⟨⟨x.k, x.size, x.b, x.a, by rw [h]; rfl, fun y hy => by rw [h] at hy; cases hy; exact ⟨rfl, rfl, rfl, rfl⟩⟩, hx⟩
theorem Ext.st4 {w w1 : World} (h : Ext w w1) {B : Nat} (hB : w.heap.size ≤ B) (a b c d : Value) : Ext w ((((w1.setCell ⟨B, 0, none⟩ a).setCell ⟨B, 1, none⟩ b).setCell ⟨B, 2, none⟩ c).setCell ⟨B, 3, none⟩ d) :=
  (((Below.setCell h (p := ⟨B, 0, none⟩) hB _).setCell (p := ⟨B, 1, none⟩) hB _).setCell (p := ⟨B, 2, none⟩) hB _).setCell (p := ⟨B, 3, none⟩) hB _
theorem blk4f {w : World} {B : Nat} {cs : Array Value} {T : TypeId} (h : w.heap[B]? = some (.cells cs T (0, 0))) :
    w.frozen? ⟨B, 0, none⟩ = false ∧ w.frozen? ⟨B, 1, none⟩ = false ∧ w.frozen? ⟨B, 2, none⟩ = false ∧ w.frozen? ⟨B, 3, none⟩ = false :=
  ⟨Lib.frozen_of_heap h 0, Lib.frozen_of_heap h 1, Lib.frozen_of_heap h 2, Lib.frozen_of_heap h 3⟩
theorem blk_at {w : World} {B : Nat} {o : Obj} (h : B = w.heap.size) : (w.alloc o).heap[B]? = some o := by rw [h]; exact newblk w o
theorem blk_up {w : World} {B : Nat} {o o' : Obj} (h : w.heap[B]? = some o) : (w.alloc o').heap[B]? = some o := Ext.blk (Ext.alloc (Below.refl _ _) _) h
theorem blk_dr {w : World} {B : Nat} {o : Obj} (h : w.heap[B]? = some o) : w.drew.heap[B]? = some o := h
set_option maxRecDepth 100000 in
set_option maxHeartbeats 4000000 in
theorem score_short (s : ByteArray) (hs : s.size ≤ 1000000) (w : World) (hl : (Lib.goFieldsP pR s).length < 6) (ho : readL s.data.toList = none) : Calls Tryz.prog 29 #[.string s] w (ScP (readL s.data.toList) w) := by
  have cf : Box _ := ⟨fun w => fieldsF_any s hs w⟩
  have ho := Box.mk ho
  have d1 : decide (((Lib.goFieldsP pR s).length : Int) < 6) = true := decide_eq_true (by omega)
  have hx : Ext w (w.alloc (.cells #[.int .i64 (0), .int .i64 (0), .int .i64 (0), .int .i64 (0)] 50)) := Ext.alloc (Below.refl _ _) _
  have hB := newblk w (.cells #[.int .i64 (0), .int .i64 (0), .int .i64 (0), .int .i64 (0)] 50)
  obtain ⟨n, hn⟩ : ∃ n, n = (Lib.goFieldsP pR s).length := ⟨_, rfl⟩
  obtain ⟨Post, hP⟩ : ∃ P, P = ScP (readL s.data.toList) w := ⟨_, rfl⟩
  rw [← hP]
  have hP := Box.mk hP
  rw [← hn] at d1 cf
  clear hl hn
  go_enter Tryz.func29, Tryz.ntmps29
  go_wp2_with (go_at_call 41; (with_reducible refine (cf.out _).mono ?_); rintro e w1 ⟨A, rfl, -, hb⟩; have hx := Ext.trans' hx hb; have hB := Ext.blk hb hB; obtain ⟨m0, m1, m2, m3⟩ := blk4 hB; obtain ⟨f0, f1, f2, f3⟩ := blk4f hB)
  refine bodyPost_ret (v := .tuple #[(.agg #[.int .i64 (0), .int .i64 (0), .int .i64 (0), .int .i64 (0)]), .bool false]) ?_ rfl ?_
  · simp [results, Tryz.results29, go_sem, *]
  · rw [hP.out]
    exact ScP.none ho.out _ _ _ _ (Ext.st4 hx (Nat.le_refl _) _ _ _ _)
theorem st4_same {w : World} {B : Nat} {c0 c1 c2 c3 : Value} {T : TypeId} (h : w.heap[B]? = some (.cells #[c0, c1, c2, c3] T (0, 0))) (a b c d : Value) : ((((w.setCell ⟨B, 0, none⟩ a).setCell ⟨B, 1, none⟩ b).setCell ⟨B, 2, none⟩ c).setCell ⟨B, 3, none⟩ d).heap[B]? = some (.cells #[a, b, c, d] T (0, 0)) :=
  heap_setCell_same _ B 3 _ _ _ (heap_setCell_same _ B 2 _ _ _ (heap_setCell_same _ B 1 _ _ _ (heap_setCell_same w B 0 _ _ _ h)))
theorem st4_other {w : World} {A B : Nat} {o : Obj} (hne : A ≠ B) (h : w.heap[A]? = some o) (a b c d : Value) : ((((w.setCell ⟨B, 0, none⟩ a).setCell ⟨B, 1, none⟩ b).setCell ⟨B, 2, none⟩ c).setCell ⟨B, 3, none⟩ d).heap[A]? = some o := by
  rw [heap_setCell_other _ _ _ _ hne, heap_setCell_other _ _ _ _ hne, heap_setCell_other _ _ _ _ hne, heap_setCell_other _ _ _ _ hne]; exact h
theorem st4_far {w : World} {A B j : Nat} {v : Value} (h : A ≠ B) (hc : w.cell? ⟨A, j, none⟩ = some v) (a b c d : Value) : ((((w.setCell ⟨B, 0, none⟩ a).setCell ⟨B, 1, none⟩ b).setCell ⟨B, 2, none⟩ c).setCell ⟨B, 3, none⟩ d).cell? ⟨A, j, none⟩ = some v := by
  have h' : B ≠ A := fun e => h e.symm
  rw [World.cell?_setCell_far _ _ _ _ h', World.cell?_setCell_far _ _ _ _ h', World.cell?_setCell_far _ _ _ _ h', World.cell?_setCell_far _ _ _ _ h']
  exact hc
set_option maxRecDepth 100000 in
set_option maxHeartbeats 4000000 in
theorem score_long (s f0 f2 f3 f5 : ByteArray) (hs : s.size ≤ 1000000) (w : World) (hw : Env w) (n : Nat) (hl : 6 ≤ n) (hn : n ≤ 9223372036854775807)
    (cf : ∀ w, Calls Tryz.prog 41 #[.string s, .func (.func 42) #[] #[]] w fun e w' => ∃ A, e = .returned (.slice (some ⟨A, 0, none⟩) n n) ∧ w'.cell? ⟨A, 0, none⟩ = some (.string f0) ∧ w'.cell? ⟨A, 2, none⟩ = some (.string f2) ∧ w'.cell? ⟨A, 3, none⟩ = some (.string f3) ∧ w'.cell? ⟨A, 5, none⟩ = some (.string f5) ∧ Ext w w')
    (z2 : f2.size ≤ 1000000) (z3 : f3.size ≤ 1000000) (z5 : f5.size ≤ 1000000) (k : Nat) (v2 v3 v5 : Int) (hk : kindN f0.data.toList = k) (h2 : valL f2.data.toList = v2) (h3 : valL f3.data.toList = v3) (h5 : valL f5.data.toList = v5)
    (is_ : Bool) (ts : ByteArray) (cl : ∀ w', Ext w w' → Calls Tryz.prog 27 #[(.agg #[.int .i64 (k), .int .i64 (v2), .int .i64 (v5), .int .i64 (v3)])] w' fun e w'' => e = .returned (.tuple #[.string ts, .bool is_]) ∧ Ext w' w'')
    (b : Bool) (hb : (is_ && (ts.toList == s.toList)) = b) :
    Calls Tryz.prog 29 #[.string s] w fun e w' => e = .returned (.tuple #[(.agg #[.int .i64 (k), .int .i64 (v2), .int .i64 (v5), .int .i64 (v3)]), .bool b]) ∧ Ext w w' := by
  replace cf := Box.mk cf
  have ck : Box _ := ⟨fun w => pkind_any f0 w⟩
  have c2 : Box (∀ w', Ext w w' → _) := ⟨fun w' hx => value_any f2 z2 w' (hw.ext hx)⟩
  have c3 : Box (∀ w', Ext w w' → _) := ⟨fun w' hx => value_any f3 z3 w' (hw.ext hx)⟩
  have c5 : Box (∀ w', Ext w w' → _) := ⟨fun w' hx => value_any f5 z5 w' (hw.ext hx)⟩
  rw [hk] at ck
  rw [h2] at c2
  rw [h3] at c3
  rw [h5] at c5
  replace cl := Box.mk cl
  have d1 : decide ((n : Int) < 6) = false := decide_eq_false (by omega)
  have i0 : 0 < n := by omega
  have i2 : (2 : Int) < (n : Int) := by omega
  have i3 : (3 : Int) < (n : Int) := by omega
  have i5 : (5 : Int) < (n : Int) := by omega
  have j2 : 2 < n := by omega
  have j3 : 3 < n := by omega
  have j5 : 5 < n := by omega
  have hx : Ext w (w.alloc (.cells #[.int .i64 (0), .int .i64 (0), .int .i64 (0), .int .i64 (0)] 50)) := Ext.alloc (Below.refl _ _) _
  have hB := newblk w (.cells #[.int .i64 (0), .int .i64 (0), .int .i64 (0), .int .i64 (0)] 50)
  clear hk h2 h3 h5 z2 z3 z5 hw hl hn hs
  go_enter Tryz.func29, Tryz.ntmps29
  go_upto_region 5 with (first
    | (go_at_call 41; (with_reducible refine (cf.out _).mono ?_); rintro e w1 ⟨A, rfl, n0, n2, n3, n5, hb1⟩; have hx := Ext.trans' hx hb1; have hB := Ext.blk hb1 hB)
    | (go_at_call 43; (with_reducible refine (ck.out _).mono ?_); rintro e w2 ⟨⟨x, rfl⟩, hb2⟩; have hx := Ext.trans' hx hb2; have n0 := Ext.cell hb2 n0; have n2 := Ext.cell hb2 n2; have n3 := Ext.cell hb2 n3; have n5 := Ext.cell hb2 n5; have hB := Ext.blk hb2 hB))
  go_cut [7] from 23 to 38 (fun s7 wx => ∃ (E : Nat), s7 = .pointer (some ⟨E, 0, none⟩) ∧ wx.heap[E]? = some (.cells #[.int .i64 (k), .int .i64 (v2), .int .i64 (v5), .int .i64 (v3)] 50 (0, 0)) ∧ wx.heap[w.heap.size]? = some (.cells #[.int .i64 (0), .int .i64 (0), .int .i64 (0), .int .i64 (0)] 50 (0, 0)) ∧ Ext w wx ∧ w.heap.size < E)
  case first =>
    have hx0 := hx
    have p2 := n2
    have p3 := n3
    have p5 := n5
    have hB0 := hB
    replace hx := Ext.drew1 hx
    replace n2 := Ext.cell (Ext.drew1 (Below.refl _ _)) n2
    replace n3 := Ext.cell (Ext.drew1 (Below.refl _ _)) n3
    replace n5 := Ext.cell (Ext.drew1 (Below.refl _ _)) n5
    replace hB := Ext.blk (Ext.drew1 (Below.refl _ _)) hB
    go_region_held3 (fun w' => w'.cell? ⟨A, 2, none⟩ = some (.string f2) ∧ w'.cell? ⟨A, 3, none⟩ = some (.string f3) ∧ w'.cell? ⟨A, 5, none⟩ = some (.string f5))
      (first
        | (with_reducible exact ⟨n2, n3, n5⟩)
        | (with_reducible exact ⟨Ext.cell (Ext.alloc (Below.refl _ _) _) n2, Ext.cell (Ext.alloc (Below.refl _ _) _) n3, Ext.cell (Ext.alloc (Below.refl _ _) _) n5⟩)
        | (with_reducible exact ⟨st4_far hne n2 _ _ _ _, st4_far hne n3 _ _ _ _, st4_far hne n5 _ _ _ _⟩)
        | (with_reducible exact ⟨st4_far (Nat.ne_of_lt (lt_of_cell n2)) (Ext.cell (Ext.alloc (Below.refl _ _) _) n2) _ _ _ _, st4_far (Nat.ne_of_lt (lt_of_cell n3)) (Ext.cell (Ext.alloc (Below.refl _ _) _) n3) _ _ _ _, st4_far (Nat.ne_of_lt (lt_of_cell n5)) (Ext.cell (Ext.alloc (Below.refl _ _) _) n5) _ _ _ _⟩)
        | (with_reducible exact ⟨Ext.cell (Ext.drew1 (Ext.alloc (Below.refl _ _) _)) p2, Ext.cell (Ext.drew1 (Ext.alloc (Below.refl _ _) _)) p3, Ext.cell (Ext.drew1 (Ext.alloc (Below.refl _ _) _)) p5⟩))
      (first
        | (go_at_call 26; have hE9 := hE; clear hE9; (with_reducible refine (c2.out _ hx).mono ?_); rintro e w3 ⟨rfl, hb3⟩; replace hE := Ext.blk hb3 hE; clear f0' f1' f2' f3' e0' e1' e2' e3'; obtain ⟨f0', f1', f2', f3'⟩ := blk4f hE; obtain ⟨e0', e1', e2', e3'⟩ := blk4 hE; replace hx := Ext.trans' hx hb3; replace n2 := Ext.cell hb3 n2; replace n3 := Ext.cell hb3 n3; replace n5 := Ext.cell hb3 n5; replace hB := Ext.blk hb3 hB; clear hb3)
        | (go_at_call 26; have hE9 := hE; clear hE9; (with_reducible refine (c3.out _ hx).mono ?_); rintro e w3 ⟨rfl, hb3⟩; replace hE := Ext.blk hb3 hE; clear f0' f1' f2' f3' e0' e1' e2' e3'; obtain ⟨f0', f1', f2', f3'⟩ := blk4f hE; obtain ⟨e0', e1', e2', e3'⟩ := blk4 hE; replace hx := Ext.trans' hx hb3; replace n2 := Ext.cell hb3 n2; replace n3 := Ext.cell hb3 n3; replace n5 := Ext.cell hb3 n5; replace hB := Ext.blk hb3 hB; clear hb3)
        | (go_at_call 26; have hE9 := hE; clear hE9; (with_reducible refine (c5.out _ hx).mono ?_); rintro e w3 ⟨rfl, hb3⟩; replace hE := Ext.blk hb3 hE; clear f0' f1' f2' f3' e0' e1' e2' e3'; obtain ⟨f0', f1', f2', f3'⟩ := blk4f hE; obtain ⟨e0', e1', e2', e3'⟩ := blk4 hE; replace hx := Ext.trans' hx hb3; replace n2 := Ext.cell hb3 n2; replace n3 := Ext.cell hb3 n3; replace n5 := Ext.cell hb3 n5; replace hB := Ext.blk hb3 hB; clear hb3)
        | (go_at_call 26; (with_reducible refine (c2.out _ hx).mono ?_); rintro e w3 ⟨rfl, hb3⟩; replace hx := Ext.trans' hx hb3; replace n2 := Ext.cell hb3 n2; replace n3 := Ext.cell hb3 n3; replace n5 := Ext.cell hb3 n5; replace hB := Ext.blk hb3 hB; clear hb3)
        | (go_at_call 26; (with_reducible refine (c3.out _ hx).mono ?_); rintro e w3 ⟨rfl, hb3⟩; replace hx := Ext.trans' hx hb3; replace n2 := Ext.cell hb3 n2; replace n3 := Ext.cell hb3 n3; replace n5 := Ext.cell hb3 n5; replace hB := Ext.blk hb3 hB; clear hb3)
        | (go_at_call 26; (with_reducible refine (c5.out _ hx).mono ?_); rintro e w3 ⟨rfl, hb3⟩; replace hx := Ext.trans' hx hb3; replace n2 := Ext.cell hb3 n2; replace n3 := Ext.cell hb3 n3; replace n5 := Ext.cell hb3 n5; replace hB := Ext.blk hb3 hB; clear hb3)
        | (go_at_call 26; (with_reducible refine (c2.out _ (Ext.alloc hx _)).mono ?_); rintro e w3 ⟨rfl, hb3⟩; have hne := Nat.ne_of_lt (lt_of_cell n2); have hEl := blk_lt hB; have hE := Ext.blk hb3 (newblk _ _); obtain ⟨f0', f1', f2', f3'⟩ := blk4f hE; obtain ⟨e0', e1', e2', e3'⟩ := blk4 hE; have hb4 := Ext.trans' (Ext.alloc (Below.refl _ _) _) hb3; replace hx := Ext.trans' hx hb4; replace n2 := Ext.cell hb4 n2; replace n3 := Ext.cell hb4 n3; replace n5 := Ext.cell hb4 n5; replace hB := Ext.blk hb4 hB; clear hb3; clear hb4)
        | (go_at_call 26; (with_reducible refine (c3.out _ (Ext.alloc hx _)).mono ?_); rintro e w3 ⟨rfl, hb3⟩; have hne := Nat.ne_of_lt (lt_of_cell n2); have hEl := blk_lt hB; have hE := Ext.blk hb3 (newblk _ _); obtain ⟨f0', f1', f2', f3'⟩ := blk4f hE; obtain ⟨e0', e1', e2', e3'⟩ := blk4 hE; have hb4 := Ext.trans' (Ext.alloc (Below.refl _ _) _) hb3; replace hx := Ext.trans' hx hb4; replace n2 := Ext.cell hb4 n2; replace n3 := Ext.cell hb4 n3; replace n5 := Ext.cell hb4 n5; replace hB := Ext.blk hb4 hB; clear hb3; clear hb4)
        | (go_at_call 26; (with_reducible refine (c5.out _ (Ext.alloc hx _)).mono ?_); rintro e w3 ⟨rfl, hb3⟩; have hne := Nat.ne_of_lt (lt_of_cell n2); have hEl := blk_lt hB; have hE := Ext.blk hb3 (newblk _ _); obtain ⟨f0', f1', f2', f3'⟩ := blk4f hE; obtain ⟨e0', e1', e2', e3'⟩ := blk4 hE; have hb4 := Ext.trans' (Ext.alloc (Below.refl _ _) _) hb3; replace hx := Ext.trans' hx hb4; replace n2 := Ext.cell hb4 n2; replace n3 := Ext.cell hb4 n3; replace n5 := Ext.cell hb4 n5; replace hB := Ext.blk hb4 hB; clear hb3; clear hb4)
        | (go_at_call 26; (with_reducible refine (c2.out _ (Ext.drew1 (Ext.alloc hx0 _))).mono ?_); rintro e w3 ⟨rfl, hb3⟩; have hne := Nat.ne_of_lt (lt_of_cell p2); have hEl := blk_lt hB0; have hE := Ext.blk hb3 (blk_dr (newblk _ _)); obtain ⟨f0', f1', f2', f3'⟩ := blk4f hE; obtain ⟨e0', e1', e2', e3'⟩ := blk4 hE; have hb4 := Ext.trans' (Ext.drew1 (Ext.alloc (Below.refl _ _) _)) hb3; replace hx := Ext.trans' hx0 hb4; replace n2 := Ext.cell hb4 p2; replace n3 := Ext.cell hb4 p3; replace n5 := Ext.cell hb4 p5; replace hB := Ext.blk hb4 hB0; clear hb3 hb4)
        | (go_at_call 26; (with_reducible refine (c3.out _ (Ext.drew1 (Ext.alloc hx0 _))).mono ?_); rintro e w3 ⟨rfl, hb3⟩; have hne := Nat.ne_of_lt (lt_of_cell p2); have hEl := blk_lt hB0; have hE := Ext.blk hb3 (blk_dr (newblk _ _)); obtain ⟨f0', f1', f2', f3'⟩ := blk4f hE; obtain ⟨e0', e1', e2', e3'⟩ := blk4 hE; have hb4 := Ext.trans' (Ext.drew1 (Ext.alloc (Below.refl _ _) _)) hb3; replace hx := Ext.trans' hx0 hb4; replace n2 := Ext.cell hb4 p2; replace n3 := Ext.cell hb4 p3; replace n5 := Ext.cell hb4 p5; replace hB := Ext.blk hb4 hB0; clear hb3 hb4)
        | (go_at_call 26; (with_reducible refine (c5.out _ (Ext.drew1 (Ext.alloc hx0 _))).mono ?_); rintro e w3 ⟨rfl, hb3⟩; have hne := Nat.ne_of_lt (lt_of_cell p2); have hEl := blk_lt hB0; have hE := Ext.blk hb3 (blk_dr (newblk _ _)); obtain ⟨f0', f1', f2', f3'⟩ := blk4f hE; obtain ⟨e0', e1', e2', e3'⟩ := blk4 hE; have hb4 := Ext.trans' (Ext.drew1 (Ext.alloc (Below.refl _ _) _)) hb3; replace hx := Ext.trans' hx0 hb4; replace n2 := Ext.cell hb4 p2; replace n3 := Ext.cell hb4 p3; replace n5 := Ext.cell hb4 p5; replace hB := Ext.blk hb4 hB0; clear hb3 hb4))
    all_goals
      go_wp2_with fail
      go_meet
    all_goals (try dsimp only)
    all_goals first
      | with_reducible exact ⟨_, rfl, st4_same hE _ _ _ _, st4_other (Nat.ne_of_lt hEl) hB _ _ _ _, Ext.st4 hx (Nat.le_of_lt hEl) _ _ _ _, hEl⟩
      | with_reducible exact ⟨_, rfl, st4_same (newblk _ _) _ _ _ _, st4_other (Nat.ne_of_lt (blk_lt hB)) (blk_up hB) _ _ _ _, Ext.st4 (Ext.alloc hx _) (Nat.le_of_lt (blk_lt hB)) _ _ _ _, blk_lt hB⟩
      | with_reducible exact ⟨_, rfl, newblk _ _, blk_up hB, Ext.alloc hx _, blk_lt hB⟩
  case rest =>
    obtain ⟨E, rfl, hE, hB, hx, hlt⟩ := hcut
    obtain ⟨e0, e1, e2, e3⟩ := blk4 hE
    obtain ⟨f0, f1, f2, f3⟩ := blk4f hB
    obtain ⟨m0, m1, m2, m3⟩ := blk4 hB
    cases is_ with
    | false =>
      obtain rfl : b = false := by rw [← hb]; rfl
      clear hb
      go_wp2_with (go_at_call 27; (with_reducible refine (cl.out _ hx).mono ?_); rintro e w9 ⟨rfl, hb9⟩; replace hx := Ext.trans' hx hb9; replace hE := Ext.blk hb9 hE; replace hB := Ext.blk hb9 hB; clear e0 e1 e2 e3 f0 f1 f2 f3 m0 m1 m2 m3; obtain ⟨e0, e1, e2, e3⟩ := blk4 hE; obtain ⟨f0, f1, f2, f3⟩ := blk4f hB; obtain ⟨m0, m1, m2, m3⟩ := blk4 hB)
      refine bodyPost_ret (v := .tuple #[(.agg #[.int .i64 (k), .int .i64 (v2), .int .i64 (v5), .int .i64 (v3)]), .bool false]) ?_ rfl ?_
      · simp [results, Tryz.results29, go_sem, *]
      · exact ⟨rfl, Ext.st4 hx (Nat.le_refl _) _ _ _ _⟩
    | true =>
      rw [Bool.true_and] at hb
      go_wp2_with (go_at_call 27; (with_reducible refine (cl.out _ hx).mono ?_); rintro e w9 ⟨rfl, hb9⟩; replace hx := Ext.trans' hx hb9; replace hE := Ext.blk hb9 hE; replace hB := Ext.blk hb9 hB; clear e0 e1 e2 e3 f0 f1 f2 f3 m0 m1 m2 m3; obtain ⟨e0, e1, e2, e3⟩ := blk4 hE; obtain ⟨f0, f1, f2, f3⟩ := blk4f hB; obtain ⟨m0, m1, m2, m3⟩ := blk4 hB)
      refine bodyPost_ret (v := .tuple #[(.agg #[.int .i64 (k), .int .i64 (v2), .int .i64 (v5), .int .i64 (v3)]), .bool b]) ?_ rfl ?_
      · simp [results, Tryz.results29, go_sem, *]
      · exact ⟨rfl, Ext.st4 hx (Nat.le_refl _) _ _ _ _⟩
/-- What score answers of every text. -/
theorem score_any (s : ByteArray) (hs : s.size ≤ 1000000) (w : World) (hw : Env w) : Calls Tryz.prog 29 #[.string s] w (ScP (readL s.data.toList) w) := by
  by_cases hl : (Lib.goFieldsP pR s).length < 6
  · refine score_short s hs w hl ?_
    cases ho : readL s.data.toList with
    | none => rfl
    | some x =>
      obtain ⟨h1, h2⟩ := readL_some ho
      have := (fields_line x h1).1
      rw [h2] at this
      have e : (⟨s.data.toList.toArray⟩ : ByteArray) = s := rfl
      rw [e] at this
      omega
  · obtain ⟨L, hL⟩ : ∃ L, L = Lib.goFieldsP pR s := ⟨_, rfl⟩
    have hl6 : 6 ≤ L.length := by rw [hL]; omega
    have get : ∀ j, j < 6 → ∃ f : ByteArray, L[j]? = some f := fun j hj => ⟨L[j]'(by omega), by rw [List.getElem?_eq_getElem]⟩
    obtain ⟨f0, g0⟩ := get 0 (by omega)
    obtain ⟨f2, g2⟩ := get 2 (by omega)
    obtain ⟨f3, g3⟩ := get 3 (by omega)
    obtain ⟨f5, g5⟩ := get 5 (by omega)
    have hsz : ∀ (j : Nat) (f : ByteArray), L[j]? = some f → f.size ≤ 1000000 := by
      intro j f h
      have hm := List.mem_of_getElem? h
      rw [hL] at hm
      unfold Lib.goFieldsP at hm
      obtain ⟨x, _, rfl⟩ := List.mem_map.1 hm
      rw [ByteArray.size_extract]; omega
    have hlen : L.length ≤ 9223372036854775807 := by
      obtain ⟨A, -⟩ : ∃ A, True := ⟨0, trivial⟩
      have : L.length ≤ s.size + 1 := by rw [hL]; exact fields_len s
      omega
    have cf : ∀ w, Calls Tryz.prog 41 #[.string s, .func (.func 42) #[] #[]] w fun e w' => ∃ A, e = .returned (.slice (some ⟨A, 0, none⟩) L.length L.length) ∧ w'.cell? ⟨A, 0, none⟩ = some (.string f0) ∧ w'.cell? ⟨A, 2, none⟩ = some (.string f2) ∧ w'.cell? ⟨A, 3, none⟩ = some (.string f3) ∧ w'.cell? ⟨A, 5, none⟩ = some (.string f5) ∧ Ext w w' := fun w => by
      refine (fieldsF_any s hs w).mono ?_
      rintro e w' ⟨A, rfl, hc, hb⟩
      rw [← hL] at hc ⊢
      exact ⟨A, rfl, hc 0 f0 g0, hc 2 f2 g2, hc 3 f3 g3, hc 5 f5 g5, hb⟩
    have hkn := kindN_le f0.data.toList
    have go := fun is_ ts cl b hb => score_long s f0 f2 f3 f5 hs w hw L.length hl6 hlen cf (hsz 2 f2 g2) (hsz 3 f3 g3) (hsz 5 f5 g5) (kindN f0.data.toList) (valL f2.data.toList) (valL f3.data.toList) (valL f5.data.toList) rfl rfl rfl rfl is_ ts cl b hb
    cases hc : scB (kindN f0.data.toList) (valL f2.data.toList) (valL f5.data.toList) (valL f3.data.toList) with
    | false =>
      have ho : readL s.data.toList = none := by
        cases ho : readL s.data.toList with
        | none => rfl
        | some x =>
          obtain ⟨h1, h2⟩ := readL_some ho
          obtain ⟨-, q0, q2, q3, q5⟩ := fields_line x h1
          rw [h2, show (⟨s.data.toList.toArray⟩ : ByteArray) = s from rfl, ← hL] at q0 q2 q3 q5
          have e0 := Option.some.inj (g0.symm.trans q0)
          have e2 := Option.some.inj (g2.symm.trans q2)
          have e3 := Option.some.inj (g3.symm.trans q3)
          have e5 := Option.some.inj (g5.symm.trans q5)
          obtain ⟨o1, o2, o3, o4, o5, o6⟩ := h1
          rw [e0, e2, e3, e5] at hc
          rw [show (⟨(kW x.k).toArray⟩ : ByteArray).data.toList = kW x.k from rfl, show (⟨(dd x.size).toArray⟩ : ByteArray).data.toList = dd x.size from rfl, show (⟨(dd x.a).toArray⟩ : ByteArray).data.toList = dd x.a from rfl, show (⟨(dd x.b).toArray⟩ : ByteArray).data.toList = dd x.b from rfl,
            kindN_word o1 o2, valL_dd _ (by omega), valL_dd _ (by omega), valL_dd _ (by omega), scB_ok] at hc
          exact absurd (⟨o1, o2, o3, o4, o5, o6⟩ : x.ok) (of_decide_eq_false hc)
      refine (go false ⟨#[]⟩ (fun w' hx => line_bad _ _ _ _ hc w' (hw.tabs.ext hx)) false rfl).mono ?_
      rintro e w' ⟨rfl, hx⟩
      exact ScP.none ho _ _ _ _ hx
    | true =>
      obtain ⟨x, hx, e1, e2, e3, e4⟩ := scB_nat hc
      rw [e1, e2, e3, e4] at go
      by_cases hs2 : x.line = s.data.toList
      · have ho : readL s.data.toList = some x := by rw [← hs2]; exact readL_line x hx
        refine (go true ⟨x.line.toArray⟩ (fun w' hx' => line_ok x hx w' (hw.tabs.ext hx')) true (by
          rw [Lib.toList_data, Lib.toList_data]; simp [hs2])).mono ?_
        rintro e w' ⟨rfl, hx'⟩
        exact ScP.some ho hx'
      · have ho : readL s.data.toList = none := by
          cases ho : readL s.data.toList with
          | none => rfl
          | some y =>
            obtain ⟨h1, h2⟩ := readL_some ho
            obtain ⟨-, q0, q2, q3, q5⟩ := fields_line y h1
            rw [h2, show (⟨s.data.toList.toArray⟩ : ByteArray) = s from rfl, ← hL] at q0 q2 q3 q5
            have i0 := Option.some.inj (g0.symm.trans q0)
            have i2 := Option.some.inj (g2.symm.trans q2)
            have i3 := Option.some.inj (g3.symm.trans q3)
            have i5 := Option.some.inj (g5.symm.trans q5)
            obtain ⟨o1, o2, o3, o4, o5, o6⟩ := h1
            rw [i0, show (⟨(kW y.k).toArray⟩ : ByteArray).data.toList = kW y.k from rfl, kindN_word o1 o2] at e1
            rw [i2, show (⟨(dd y.size).toArray⟩ : ByteArray).data.toList = dd y.size from rfl, valL_dd _ (by omega)] at e2
            rw [i5, show (⟨(dd y.b).toArray⟩ : ByteArray).data.toList = dd y.b from rfl, valL_dd _ (by omega)] at e3
            rw [i3, show (⟨(dd y.a).toArray⟩ : ByteArray).data.toList = dd y.a from rfl, valL_dd _ (by omega)] at e4
            have hxy : x = y := by
              cases x; cases y
              dsimp only at *
              congr 1 <;> omega
            exact absurd (hxy ▸ h2) hs2
        refine (go true ⟨x.line.toArray⟩ (fun w' hx' => line_ok x hx w' (hw.tabs.ext hx')) false (by
          rw [Lib.toList_data, Lib.toList_data]; simp [hs2])).mono ?_
        rintro e w' ⟨rfl, hx'⟩
        exact ScP.none ho _ _ _ _ hx'
end Go.Proofs.YtcofejbkbcdopaaGreatDoor
