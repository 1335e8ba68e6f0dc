import Derived.Test.YtboecabipkkcgaaDoorE15
import Derived.Test.YtboecabipkkcgaaDoorE18
/- The reference's Parse; the law's walk: EntryParses. -/
namespace Go.Proofs.YtboecabipkkcgaaDoor
open Go.RowKit

/-- What the reference's Parse gives back. -/
def RPost (w : World) (o : Option Ent) (e : Ending) (w' : World) : Prop :=
  match o with
  | none => e = .returned (.tuple #[zeroE, .bool false]) ∧ Ext w w'
  | some x => ∃ v', e = .returned (.tuple #[.agg #[.string ⟨x.key.toArray⟩, v', .int .u64 x.dl, .int .u64 x.birth], .bool true]) ∧ OwnB w.heap.size w' v' x.val ∧ Ext w w'
theorem row4 {w : World} {base : Nat} {v : Value} {x0 x1 x2 x3 : ByteArray} (h : w.ownsRow base 9 1 v 4 [.string x0, .string x1, .string x2, .string x3]) :
    ∃ g cap, v = .slice (some ⟨g, 0, none⟩) 4 cap ∧ w.cell? ⟨g, 0, none⟩ = some (.string x0) ∧ w.cell? ⟨g, 1, none⟩ = some (.string x1) ∧ w.cell? ⟨g, 2, none⟩ = some (.string x2) ∧ w.cell? ⟨g, 3, none⟩ = some (.string x3) := by
  rcases h.2 with ⟨_, h0⟩ | ⟨g, cap, cur, hv, _⟩
  · omega
  · subst hv
    refine ⟨g, cap, rfl, ?_, ?_, ?_, ?_⟩
    · have := h.cells (g := g) rfl 0 (.string x0) rfl
      rwa [Go.WideShapes.add_plain] at this
    · have := h.cells (g := g) rfl 1 (.string x1) rfl
      rwa [Go.WideShapes.add_plain] at this
    · have := h.cells (g := g) rfl 2 (.string x2) rfl
      rwa [Go.WideShapes.add_plain] at this
    · have := h.cells (g := g) rfl 3 (.string x3) rfl
      rwa [Go.WideShapes.add_plain] at this

set_option maxRecDepth 100000 in
set_option maxHeartbeats 4000000 in
theorem rp_len (s : ByteArray) (w : World) (hs : s.size ≤ 100000) (h : (splitL s.data.toList).length ≠ 4) :
    Calls Tryd.prog 18 #[.string s] w fun e w' => e = .returned (.tuple #[zeroE, .bool false]) ∧ Ext w w' := by
  have hR := newblk w (.cells zeroC 33)
  have hx0 : Ext w (w.alloc (.cells zeroC 33)) := Ext.alloc (Below.refl _ _) _
  obtain ⟨n, hn, cS⟩ : ∃ n : Nat, n ≠ 4 ∧ Box (Calls Tryd.prog 39 #[.string s] (w.alloc (.cells zeroC 33)) fun e w' => ∃ a c, e = .returned (.slice a n c) ∧ Ext (w.alloc (.cells zeroC 33)) w') := ⟨_, h, ⟨(split_any s _ hs).mono fun e w' ⟨v, he, ho, hb⟩ => by
    rcases ho.2 with ⟨rfl, h0⟩ | ⟨g, cap, cur, rfl, _⟩
    · exact ⟨none, 0, by rw [he, h0], hb⟩
    · exact ⟨_, _, he, hb⟩⟩⟩
  have e1 : ((n : Int) != 4) = true := by rw [bne_iff_ne]; omega
  clear h hn
  go_enter Tryd.func18, Tryd.ntmps18
  go_wp2_with (first
    | (go_at_call 39; (with_reducible refine cS.out.mono ?_); rintro e w1 ⟨a, c, rfl, hb⟩; have hx := Ext.trans' hx0 hb; have hR := Ext.blk hb hR; obtain ⟨m0, m1, m2, m3, f0, f1, f2, f3⟩ := blk4 hR))
  refine bodyPost_ret (v := .tuple #[zeroE, .bool false]) ?_ rfl ⟨rfl, Ext.st4 hx (Nat.le_refl _) _ _ _ _⟩
  simp [results, Tryd.results18, go_sem, m0, m1, m2, m3]

set_option maxRecDepth 100000 in
set_option maxHeartbeats 4000000 in
theorem rp_max2 (s : ByteArray) (w : World) (x0 x1 x2 x3 : ByteArray) (B D : Nat) (g0 g2 g3 : Bool) (r2 r3 : List UInt8) (l2 : r2.length ≤ 100000) (l3 : r3.length ≤ 100000)
    (cS : Box (Calls Tryd.prog 39 #[.string s] (w.alloc (.cells zeroC 33)) fun e w' => ∃ v, e = .returned v ∧ w'.ownsRow (w.heap.size + 1) 9 1 v 4 [.string x0, .string x1, .string x2, .string x3] ∧ Ext (w.alloc (.cells zeroC 33)) w'))
    (cB0 : Box (∀ w, Calls Tryd.prog 40 #[.string x0] w fun e w' => e = .returned (.tuple #[.int .u64 B, .bool g0]) ∧ w = w')) (cB1 : Box (∀ w, Calls Tryd.prog 40 #[.string x1] w fun e w' => e = .returned (.tuple #[.int .u64 D, .bool false]) ∧ w = w'))
    (cD2 : Box (∀ w, Calls Tryd.prog 41 #[.string x2] w fun e w' => ∃ v, e = .returned (.tuple #[v, .bool g2]) ∧ OwnB w.heap.size w' v r2 ∧ Ext w w')) (cD3 : Box (∀ w, Calls Tryd.prog 41 #[.string x3] w fun e w' => ∃ v, e = .returned (.tuple #[v, .bool g3]) ∧ OwnB w.heap.size w' v r3 ∧ Ext w w'))
    (t1 : (x0.toList == [49, 56, 52, 52, 54, 55, 52, 52, 48, 55, 51, 55, 48, 57, 53, 53, 49, 54, 49, 53]) = true) :
    Calls Tryd.prog 18 #[.string s] w fun e w' => e = .returned (.tuple #[zeroE, .bool false]) ∧ Ext w w' := by
  have hR := newblk w (.cells zeroC 33)
  have hx : Ext w (w.alloc (.cells zeroC 33)) := Ext.alloc (Below.refl _ _) _
  go_enter Tryd.func18, Tryd.ntmps18
  go_wp2_with (first
    | (go_at_call 39; (with_reducible refine cS.out.mono ?_); rintro e w1 ⟨v, rfl, ho, hb⟩; have hx := Ext.trans' hx hb; have hR := Ext.blk hb hR; obtain ⟨g, cap, rfl, s0, s1, s2, s3⟩ := row4 ho)
    | (go_at_call 40; (with_reducible refine (cB0.out _).mono ?_); rintro e w' ⟨rfl, rfl⟩)
    | (go_at_call 40; (with_reducible refine (cB1.out _).mono ?_); rintro e w' ⟨rfl, rfl⟩)
    | (go_at_call 41; (with_reducible refine (cD2.out _).mono ?_); rintro e w1 ⟨v3, rfl, ho3, hb⟩; have ho3 := ho3.mono (C := w.heap.size + 1) (blk_lt hR); have hx := Ext.trans' hx hb; have hR := Ext.blk hb hR; have s0 := Ext.cell hb s0; have s1 := Ext.cell hb s1; have s2 := Ext.cell hb s2; have s3 := Ext.cell hb s3; obtain ⟨a3, c3, rfl⟩ := ho3.shape)
    | (go_at_call 41; (with_reducible refine (cD3.out _).mono ?_); rintro e w1 ⟨v4, rfl, ho4, hb⟩; have ho4 := ho4.mono (C := w.heap.size + 1) (blk_lt hR); have hx := Ext.trans' hx hb; have hR := Ext.blk hb hR; have s0 := Ext.cell hb s0; have s1 := Ext.cell hb s1; have s2 := Ext.cell hb s2; have s3 := Ext.cell hb s3; have ho3 := ho3.ext hb; have hcv := (ho3.by (by omega)).conv; obtain ⟨a4, c4, rfl⟩ := ho4.shape; have hE := newblk w1 (.cells #[.string ⟨r2.toArray⟩, .slice a4 r3.length c4, .int .u64 D, .int .u64 18446744073709551615] 33); have hx := Ext.alloc hx (.cells #[.string ⟨r2.toArray⟩, .slice a4 r3.length c4, .int .u64 D, .int .u64 18446744073709551615] 33); have hR := Ext.blk (Ext.alloc (Below.refl _ _) (.cells #[.string ⟨r2.toArray⟩, .slice a4 r3.length c4, .int .u64 D, .int .u64 18446744073709551615] 33)) hR; have ho4 := ho4.ext (Ext.alloc (Below.refl _ _) (.cells #[.string ⟨r2.toArray⟩, .slice a4 r3.length c4, .int .u64 D, .int .u64 18446744073709551615] 33)); obtain ⟨m0, m1, m2, m3, f0, f1, f2, f3⟩ := blk4 hR; have hlt := blk_lt hR; clear s0 s1 s2 s3 ho3))
  refine bodyPost_ret (v := .tuple #[zeroE, .bool false]) ?_ rfl ⟨rfl, Ext.st4 hx (Nat.le_refl _) _ _ _ _⟩
  simp [results, Tryd.results18, go_sem, m0, m1, m2, m3]

set_option maxRecDepth 100000 in
set_option maxHeartbeats 4000000 in
theorem rp_max3 (s : ByteArray) (w : World) (x0 x1 x2 x3 : ByteArray) (B D : Nat) (g0 g3 : Bool) (r2 r3 : List UInt8) (l2 : r2.length ≤ 100000) (l3 : r3.length ≤ 100000)
    (cS : Box (Calls Tryd.prog 39 #[.string s] (w.alloc (.cells zeroC 33)) fun e w' => ∃ v, e = .returned v ∧ w'.ownsRow (w.heap.size + 1) 9 1 v 4 [.string x0, .string x1, .string x2, .string x3] ∧ Ext (w.alloc (.cells zeroC 33)) w'))
    (cB0 : Box (∀ w, Calls Tryd.prog 40 #[.string x0] w fun e w' => e = .returned (.tuple #[.int .u64 B, .bool g0]) ∧ w = w')) (cB1 : Box (∀ w, Calls Tryd.prog 40 #[.string x1] w fun e w' => e = .returned (.tuple #[.int .u64 D, .bool true]) ∧ w = w'))
    (cD2 : Box (∀ w, Calls Tryd.prog 41 #[.string x2] w fun e w' => ∃ v, e = .returned (.tuple #[v, .bool false]) ∧ OwnB w.heap.size w' v r2 ∧ Ext w w')) (cD3 : Box (∀ w, Calls Tryd.prog 41 #[.string x3] w fun e w' => ∃ v, e = .returned (.tuple #[v, .bool g3]) ∧ OwnB w.heap.size w' v r3 ∧ Ext w w'))
    (t1 : (x0.toList == [49, 56, 52, 52, 54, 55, 52, 52, 48, 55, 51, 55, 48, 57, 53, 53, 49, 54, 49, 53]) = true) :
    Calls Tryd.prog 18 #[.string s] w fun e w' => e = .returned (.tuple #[zeroE, .bool false]) ∧ Ext w w' := by
  have hR := newblk w (.cells zeroC 33)
  have hx : Ext w (w.alloc (.cells zeroC 33)) := Ext.alloc (Below.refl _ _) _
  go_enter Tryd.func18, Tryd.ntmps18
  go_wp2_with (first
    | (go_at_call 39; (with_reducible refine cS.out.mono ?_); rintro e w1 ⟨v, rfl, ho, hb⟩; have hx := Ext.trans' hx hb; have hR := Ext.blk hb hR; obtain ⟨g, cap, rfl, s0, s1, s2, s3⟩ := row4 ho)
    | (go_at_call 40; (with_reducible refine (cB0.out _).mono ?_); rintro e w' ⟨rfl, rfl⟩)
    | (go_at_call 40; (with_reducible refine (cB1.out _).mono ?_); rintro e w' ⟨rfl, rfl⟩)
    | (go_at_call 41; (with_reducible refine (cD2.out _).mono ?_); rintro e w1 ⟨v3, rfl, ho3, hb⟩; have ho3 := ho3.mono (C := w.heap.size + 1) (blk_lt hR); have hx := Ext.trans' hx hb; have hR := Ext.blk hb hR; have s0 := Ext.cell hb s0; have s1 := Ext.cell hb s1; have s2 := Ext.cell hb s2; have s3 := Ext.cell hb s3; obtain ⟨a3, c3, rfl⟩ := ho3.shape)
    | (go_at_call 41; (with_reducible refine (cD3.out _).mono ?_); rintro e w1 ⟨v4, rfl, ho4, hb⟩; have ho4 := ho4.mono (C := w.heap.size + 1) (blk_lt hR); have hx := Ext.trans' hx hb; have hR := Ext.blk hb hR; have s0 := Ext.cell hb s0; have s1 := Ext.cell hb s1; have s2 := Ext.cell hb s2; have s3 := Ext.cell hb s3; have ho3 := ho3.ext hb; have hcv := (ho3.by (by omega)).conv; obtain ⟨a4, c4, rfl⟩ := ho4.shape; have hE := newblk w1 (.cells #[.string ⟨r2.toArray⟩, .slice a4 r3.length c4, .int .u64 D, .int .u64 18446744073709551615] 33); have hx := Ext.alloc hx (.cells #[.string ⟨r2.toArray⟩, .slice a4 r3.length c4, .int .u64 D, .int .u64 18446744073709551615] 33); have hR := Ext.blk (Ext.alloc (Below.refl _ _) (.cells #[.string ⟨r2.toArray⟩, .slice a4 r3.length c4, .int .u64 D, .int .u64 18446744073709551615] 33)) hR; have ho4 := ho4.ext (Ext.alloc (Below.refl _ _) (.cells #[.string ⟨r2.toArray⟩, .slice a4 r3.length c4, .int .u64 D, .int .u64 18446744073709551615] 33)); obtain ⟨m0, m1, m2, m3, f0, f1, f2, f3⟩ := blk4 hR; have hlt := blk_lt hR; clear s0 s1 s2 s3 ho3))
  refine bodyPost_ret (v := .tuple #[zeroE, .bool false]) ?_ rfl ⟨rfl, Ext.st4 hx (Nat.le_refl _) _ _ _ _⟩
  simp [results, Tryd.results18, go_sem, m0, m1, m2, m3]

set_option maxRecDepth 100000 in
set_option maxHeartbeats 4000000 in
theorem rp_max4 (s : ByteArray) (w : World) (x0 x1 x2 x3 : ByteArray) (B D : Nat) (g0 : Bool) (r2 r3 : List UInt8) (l2 : r2.length ≤ 100000) (l3 : r3.length ≤ 100000)
    (cS : Box (Calls Tryd.prog 39 #[.string s] (w.alloc (.cells zeroC 33)) fun e w' => ∃ v, e = .returned v ∧ w'.ownsRow (w.heap.size + 1) 9 1 v 4 [.string x0, .string x1, .string x2, .string x3] ∧ Ext (w.alloc (.cells zeroC 33)) w'))
    (cB0 : Box (∀ w, Calls Tryd.prog 40 #[.string x0] w fun e w' => e = .returned (.tuple #[.int .u64 B, .bool g0]) ∧ w = w')) (cB1 : Box (∀ w, Calls Tryd.prog 40 #[.string x1] w fun e w' => e = .returned (.tuple #[.int .u64 D, .bool true]) ∧ w = w'))
    (cD2 : Box (∀ w, Calls Tryd.prog 41 #[.string x2] w fun e w' => ∃ v, e = .returned (.tuple #[v, .bool true]) ∧ OwnB w.heap.size w' v r2 ∧ Ext w w')) (cD3 : Box (∀ w, Calls Tryd.prog 41 #[.string x3] w fun e w' => ∃ v, e = .returned (.tuple #[v, .bool false]) ∧ OwnB w.heap.size w' v r3 ∧ Ext w w'))
    (t1 : (x0.toList == [49, 56, 52, 52, 54, 55, 52, 52, 48, 55, 51, 55, 48, 57, 53, 53, 49, 54, 49, 53]) = true) :
    Calls Tryd.prog 18 #[.string s] w fun e w' => e = .returned (.tuple #[zeroE, .bool false]) ∧ Ext w w' := by
  have hR := newblk w (.cells zeroC 33)
  have hx : Ext w (w.alloc (.cells zeroC 33)) := Ext.alloc (Below.refl _ _) _
  go_enter Tryd.func18, Tryd.ntmps18
  go_wp2_with (first
    | (go_at_call 39; (with_reducible refine cS.out.mono ?_); rintro e w1 ⟨v, rfl, ho, hb⟩; have hx := Ext.trans' hx hb; have hR := Ext.blk hb hR; obtain ⟨g, cap, rfl, s0, s1, s2, s3⟩ := row4 ho)
    | (go_at_call 40; (with_reducible refine (cB0.out _).mono ?_); rintro e w' ⟨rfl, rfl⟩)
    | (go_at_call 40; (with_reducible refine (cB1.out _).mono ?_); rintro e w' ⟨rfl, rfl⟩)
    | (go_at_call 41; (with_reducible refine (cD2.out _).mono ?_); rintro e w1 ⟨v3, rfl, ho3, hb⟩; have ho3 := ho3.mono (C := w.heap.size + 1) (blk_lt hR); have hx := Ext.trans' hx hb; have hR := Ext.blk hb hR; have s0 := Ext.cell hb s0; have s1 := Ext.cell hb s1; have s2 := Ext.cell hb s2; have s3 := Ext.cell hb s3; obtain ⟨a3, c3, rfl⟩ := ho3.shape)
    | (go_at_call 41; (with_reducible refine (cD3.out _).mono ?_); rintro e w1 ⟨v4, rfl, ho4, hb⟩; have ho4 := ho4.mono (C := w.heap.size + 1) (blk_lt hR); have hx := Ext.trans' hx hb; have hR := Ext.blk hb hR; have s0 := Ext.cell hb s0; have s1 := Ext.cell hb s1; have s2 := Ext.cell hb s2; have s3 := Ext.cell hb s3; have ho3 := ho3.ext hb; have hcv := (ho3.by (by omega)).conv; obtain ⟨a4, c4, rfl⟩ := ho4.shape; have hE := newblk w1 (.cells #[.string ⟨r2.toArray⟩, .slice a4 r3.length c4, .int .u64 D, .int .u64 18446744073709551615] 33); have hx := Ext.alloc hx (.cells #[.string ⟨r2.toArray⟩, .slice a4 r3.length c4, .int .u64 D, .int .u64 18446744073709551615] 33); have hR := Ext.blk (Ext.alloc (Below.refl _ _) (.cells #[.string ⟨r2.toArray⟩, .slice a4 r3.length c4, .int .u64 D, .int .u64 18446744073709551615] 33)) hR; have ho4 := ho4.ext (Ext.alloc (Below.refl _ _) (.cells #[.string ⟨r2.toArray⟩, .slice a4 r3.length c4, .int .u64 D, .int .u64 18446744073709551615] 33)); obtain ⟨m0, m1, m2, m3, f0, f1, f2, f3⟩ := blk4 hR; have hlt := blk_lt hR; clear s0 s1 s2 s3 ho3))
  refine bodyPost_ret (v := .tuple #[zeroE, .bool false]) ?_ rfl ⟨rfl, Ext.st4 hx (Nat.le_refl _) _ _ _ _⟩
  simp [results, Tryd.results18, go_sem, m0, m1, m2, m3]

set_option maxRecDepth 100000 in
set_option maxHeartbeats 4000000 in
theorem rp_max5 (s : ByteArray) (w : World) (x0 x1 x2 x3 : ByteArray) (B D : Nat) (g0 : Bool) (r2 r3 : List UInt8) (l2 : r2.length ≤ 100000) (l3 : r3.length ≤ 100000)
    (cS : Box (Calls Tryd.prog 39 #[.string s] (w.alloc (.cells zeroC 33)) fun e w' => ∃ v, e = .returned v ∧ w'.ownsRow (w.heap.size + 1) 9 1 v 4 [.string x0, .string x1, .string x2, .string x3] ∧ Ext (w.alloc (.cells zeroC 33)) w'))
    (cB0 : Box (∀ w, Calls Tryd.prog 40 #[.string x0] w fun e w' => e = .returned (.tuple #[.int .u64 B, .bool g0]) ∧ w = w')) (cB1 : Box (∀ w, Calls Tryd.prog 40 #[.string x1] w fun e w' => e = .returned (.tuple #[.int .u64 D, .bool true]) ∧ w = w'))
    (cD2 : Box (∀ w, Calls Tryd.prog 41 #[.string x2] w fun e w' => ∃ v, e = .returned (.tuple #[v, .bool true]) ∧ OwnB w.heap.size w' v r2 ∧ Ext w w')) (cD3 : Box (∀ w, Calls Tryd.prog 41 #[.string x3] w fun e w' => ∃ v, e = .returned (.tuple #[v, .bool true]) ∧ OwnB w.heap.size w' v r3 ∧ Ext w w')) (cV : Box (∀ a c w, Calls Tryd.prog 42 #[.agg #[.string ⟨r2.toArray⟩, .slice a r3.length c, .int .u64 D, .int .u64 18446744073709551615]] w fun e w' => e = .returned (.bool false) ∧ Ext w w'))
    (t1 : (x0.toList == [49, 56, 52, 52, 54, 55, 52, 52, 48, 55, 51, 55, 48, 57, 53, 53, 49, 54, 49, 53]) = true) :
    Calls Tryd.prog 18 #[.string s] w fun e w' => e = .returned (.tuple #[zeroE, .bool false]) ∧ Ext w w' := by
  have hR := newblk w (.cells zeroC 33)
  have hx : Ext w (w.alloc (.cells zeroC 33)) := Ext.alloc (Below.refl _ _) _
  go_enter Tryd.func18, Tryd.ntmps18
  go_wp2_with (first
    | (go_at_call 39; (with_reducible refine cS.out.mono ?_); rintro e w1 ⟨v, rfl, ho, hb⟩; have hx := Ext.trans' hx hb; have hR := Ext.blk hb hR; obtain ⟨g, cap, rfl, s0, s1, s2, s3⟩ := row4 ho)
    | (go_at_call 40; (with_reducible refine (cB0.out _).mono ?_); rintro e w' ⟨rfl, rfl⟩)
    | (go_at_call 40; (with_reducible refine (cB1.out _).mono ?_); rintro e w' ⟨rfl, rfl⟩)
    | (go_at_call 41; (with_reducible refine (cD2.out _).mono ?_); rintro e w1 ⟨v3, rfl, ho3, hb⟩; have ho3 := ho3.mono (C := w.heap.size + 1) (blk_lt hR); have hx := Ext.trans' hx hb; have hR := Ext.blk hb hR; have s0 := Ext.cell hb s0; have s1 := Ext.cell hb s1; have s2 := Ext.cell hb s2; have s3 := Ext.cell hb s3; obtain ⟨a3, c3, rfl⟩ := ho3.shape)
    | (go_at_call 41; (with_reducible refine (cD3.out _).mono ?_); rintro e w1 ⟨v4, rfl, ho4, hb⟩; have ho4 := ho4.mono (C := w.heap.size + 1) (blk_lt hR); have hx := Ext.trans' hx hb; have hR := Ext.blk hb hR; have s0 := Ext.cell hb s0; have s1 := Ext.cell hb s1; have s2 := Ext.cell hb s2; have s3 := Ext.cell hb s3; have ho3 := ho3.ext hb; have hcv := (ho3.by (by omega)).conv; obtain ⟨a4, c4, rfl⟩ := ho4.shape; have hE := newblk w1 (.cells #[.string ⟨r2.toArray⟩, .slice a4 r3.length c4, .int .u64 D, .int .u64 18446744073709551615] 33); have hx := Ext.alloc hx (.cells #[.string ⟨r2.toArray⟩, .slice a4 r3.length c4, .int .u64 D, .int .u64 18446744073709551615] 33); have hR := Ext.blk (Ext.alloc (Below.refl _ _) (.cells #[.string ⟨r2.toArray⟩, .slice a4 r3.length c4, .int .u64 D, .int .u64 18446744073709551615] 33)) hR; have ho4 := ho4.ext (Ext.alloc (Below.refl _ _) (.cells #[.string ⟨r2.toArray⟩, .slice a4 r3.length c4, .int .u64 D, .int .u64 18446744073709551615] 33)); obtain ⟨m0, m1, m2, m3, f0, f1, f2, f3⟩ := blk4 hR; have hlt := blk_lt hR; clear s0 s1 s2 s3 ho3)
    | (go_at_call 42; (with_reducible refine (cV.out _ _ _).mono ?_); rintro e w2 ⟨rfl, hb⟩; have hx := Ext.trans' hx hb; have hR := Ext.blk hb hR; have hE := Ext.blk hb hE; have ho4 := ho4.ext hb; obtain ⟨m0, m1, m2, m3, f0, f1, f2, f3⟩ := blk4 hR; obtain ⟨u0, u1, u2, u3, _⟩ := blk4 hE; clear hE hcv))
  refine bodyPost_ret (v := .tuple #[zeroE, .bool false]) ?_ rfl ⟨rfl, Ext.st4 hx (Nat.le_refl _) _ _ _ _⟩
  simp [results, Tryd.results18, go_sem, m0, m1, m2, m3]

set_option maxRecDepth 100000 in
set_option maxHeartbeats 4000000 in
theorem rp_max6 (s : ByteArray) (w : World) (x0 x1 x2 x3 : ByteArray) (B D : Nat) (g0 : Bool) (r2 r3 : List UInt8) (l2 : r2.length ≤ 100000) (l3 : r3.length ≤ 100000)
    (cS : Box (Calls Tryd.prog 39 #[.string s] (w.alloc (.cells zeroC 33)) fun e w' => ∃ v, e = .returned v ∧ w'.ownsRow (w.heap.size + 1) 9 1 v 4 [.string x0, .string x1, .string x2, .string x3] ∧ Ext (w.alloc (.cells zeroC 33)) w'))
    (cB0 : Box (∀ w, Calls Tryd.prog 40 #[.string x0] w fun e w' => e = .returned (.tuple #[.int .u64 B, .bool g0]) ∧ w = w')) (cB1 : Box (∀ w, Calls Tryd.prog 40 #[.string x1] w fun e w' => e = .returned (.tuple #[.int .u64 D, .bool true]) ∧ w = w'))
    (cD2 : Box (∀ w, Calls Tryd.prog 41 #[.string x2] w fun e w' => ∃ v, e = .returned (.tuple #[v, .bool true]) ∧ OwnB w.heap.size w' v r2 ∧ Ext w w')) (cD3 : Box (∀ w, Calls Tryd.prog 41 #[.string x3] w fun e w' => ∃ v, e = .returned (.tuple #[v, .bool true]) ∧ OwnB w.heap.size w' v r3 ∧ Ext w w')) (cV : Box (∀ a c w, Calls Tryd.prog 42 #[.agg #[.string ⟨r2.toArray⟩, .slice a r3.length c, .int .u64 D, .int .u64 18446744073709551615]] w fun e w' => e = .returned (.bool true) ∧ Ext w w'))
    (t1 : (x0.toList == [49, 56, 52, 52, 54, 55, 52, 52, 48, 55, 51, 55, 48, 57, 53, 53, 49, 54, 49, 53]) = true) :
    Calls Tryd.prog 18 #[.string s] w fun e w' => ∃ v', e = .returned (.tuple #[.agg #[.string ⟨r2.toArray⟩, v', .int .u64 D, .int .u64 18446744073709551615], .bool true]) ∧ OwnB w.heap.size w' v' r3 ∧ Ext w w' := by
  have hR := newblk w (.cells zeroC 33)
  have hx : Ext w (w.alloc (.cells zeroC 33)) := Ext.alloc (Below.refl _ _) _
  go_enter Tryd.func18, Tryd.ntmps18
  go_wp2_with (first
    | (go_at_call 39; (with_reducible refine cS.out.mono ?_); rintro e w1 ⟨v, rfl, ho, hb⟩; have hx := Ext.trans' hx hb; have hR := Ext.blk hb hR; obtain ⟨g, cap, rfl, s0, s1, s2, s3⟩ := row4 ho)
    | (go_at_call 40; (with_reducible refine (cB0.out _).mono ?_); rintro e w' ⟨rfl, rfl⟩)
    | (go_at_call 40; (with_reducible refine (cB1.out _).mono ?_); rintro e w' ⟨rfl, rfl⟩)
    | (go_at_call 41; (with_reducible refine (cD2.out _).mono ?_); rintro e w1 ⟨v3, rfl, ho3, hb⟩; have ho3 := ho3.mono (C := w.heap.size + 1) (blk_lt hR); have hx := Ext.trans' hx hb; have hR := Ext.blk hb hR; have s0 := Ext.cell hb s0; have s1 := Ext.cell hb s1; have s2 := Ext.cell hb s2; have s3 := Ext.cell hb s3; obtain ⟨a3, c3, rfl⟩ := ho3.shape)
    | (go_at_call 41; (with_reducible refine (cD3.out _).mono ?_); rintro e w1 ⟨v4, rfl, ho4, hb⟩; have ho4 := ho4.mono (C := w.heap.size + 1) (blk_lt hR); have hx := Ext.trans' hx hb; have hR := Ext.blk hb hR; have s0 := Ext.cell hb s0; have s1 := Ext.cell hb s1; have s2 := Ext.cell hb s2; have s3 := Ext.cell hb s3; have ho3 := ho3.ext hb; have hcv := (ho3.by (by omega)).conv; obtain ⟨a4, c4, rfl⟩ := ho4.shape; have hE := newblk w1 (.cells #[.string ⟨r2.toArray⟩, .slice a4 r3.length c4, .int .u64 D, .int .u64 18446744073709551615] 33); have hx := Ext.alloc hx (.cells #[.string ⟨r2.toArray⟩, .slice a4 r3.length c4, .int .u64 D, .int .u64 18446744073709551615] 33); have hR := Ext.blk (Ext.alloc (Below.refl _ _) (.cells #[.string ⟨r2.toArray⟩, .slice a4 r3.length c4, .int .u64 D, .int .u64 18446744073709551615] 33)) hR; have ho4 := ho4.ext (Ext.alloc (Below.refl _ _) (.cells #[.string ⟨r2.toArray⟩, .slice a4 r3.length c4, .int .u64 D, .int .u64 18446744073709551615] 33)); obtain ⟨m0, m1, m2, m3, f0, f1, f2, f3⟩ := blk4 hR; have hlt := blk_lt hR; clear s0 s1 s2 s3 ho3)
    | (go_at_call 42; (with_reducible refine (cV.out _ _ _).mono ?_); rintro e w2 ⟨rfl, hb⟩; have hx := Ext.trans' hx hb; have hR := Ext.blk hb hR; have hE := Ext.blk hb hE; have ho4 := ho4.ext hb; obtain ⟨m0, m1, m2, m3, f0, f1, f2, f3⟩ := blk4 hR; obtain ⟨u0, u1, u2, u3, _⟩ := blk4 hE; clear hE hcv))
  refine bodyPost_ret (v := .tuple #[.agg #[.string ⟨r2.toArray⟩, .slice a4 r3.length c4, .int .u64 D, .int .u64 18446744073709551615], .bool true]) ?_ rfl ⟨_, rfl, (ho4.st4 (by omega) _ _ _ _).mono (by omega), Ext.st4 hx (Nat.le_refl _) _ _ _ _⟩
  simp [results, Tryd.results18, go_sem, m0, m1, m2, m3]

set_option maxRecDepth 100000 in
set_option maxHeartbeats 4000000 in
theorem rp_never1 (s : ByteArray) (w : World) (x0 x1 x2 x3 : ByteArray) (B D : Nat) (g0 g1 g2 g3 : Bool) (r2 r3 : List UInt8) (l2 : r2.length ≤ 100000) (l3 : r3.length ≤ 100000)
    (cS : Box (Calls Tryd.prog 39 #[.string s] (w.alloc (.cells zeroC 33)) fun e w' => ∃ v, e = .returned v ∧ w'.ownsRow (w.heap.size + 1) 9 1 v 4 [.string x0, .string x1, .string x2, .string x3] ∧ Ext (w.alloc (.cells zeroC 33)) w'))
    (cB0 : Box (∀ w, Calls Tryd.prog 40 #[.string x0] w fun e w' => e = .returned (.tuple #[.int .u64 B, .bool g0]) ∧ w = w')) (cB1 : Box (∀ w, Calls Tryd.prog 40 #[.string x1] w fun e w' => e = .returned (.tuple #[.int .u64 D, .bool g1]) ∧ w = w'))
    (cD2 : Box (∀ w, Calls Tryd.prog 41 #[.string x2] w fun e w' => ∃ v, e = .returned (.tuple #[v, .bool g2]) ∧ OwnB w.heap.size w' v r2 ∧ Ext w w')) (cD3 : Box (∀ w, Calls Tryd.prog 41 #[.string x3] w fun e w' => ∃ v, e = .returned (.tuple #[v, .bool g3]) ∧ OwnB w.heap.size w' v r3 ∧ Ext w w'))
    (t1 : (x0.toList == [49, 56, 52, 52, 54, 55, 52, 52, 48, 55, 51, 55, 48, 57, 53, 53, 49, 54, 49, 53]) = false) (t2 : (x0.toList == [110, 101, 118, 101, 114]) = true) :
    Calls Tryd.prog 18 #[.string s] w fun e w' => e = .returned (.tuple #[zeroE, .bool false]) ∧ Ext w w' := by
  have hR := newblk w (.cells zeroC 33)
  have hx : Ext w (w.alloc (.cells zeroC 33)) := Ext.alloc (Below.refl _ _) _
  go_enter Tryd.func18, Tryd.ntmps18
  go_wp2_with (first
    | (go_at_call 39; (with_reducible refine cS.out.mono ?_); rintro e w1 ⟨v, rfl, ho, hb⟩; have hx := Ext.trans' hx hb; have hR := Ext.blk hb hR; obtain ⟨g, cap, rfl, s0, s1, s2, s3⟩ := row4 ho)
    | (go_at_call 40; (with_reducible refine (cB0.out _).mono ?_); rintro e w' ⟨rfl, rfl⟩)
    | (go_at_call 40; (with_reducible refine (cB1.out _).mono ?_); rintro e w' ⟨rfl, rfl⟩)
    | (go_at_call 41; (with_reducible refine (cD2.out _).mono ?_); rintro e w1 ⟨v3, rfl, ho3, hb⟩; have ho3 := ho3.mono (C := w.heap.size + 1) (blk_lt hR); have hx := Ext.trans' hx hb; have hR := Ext.blk hb hR; have s0 := Ext.cell hb s0; have s1 := Ext.cell hb s1; have s2 := Ext.cell hb s2; have s3 := Ext.cell hb s3; obtain ⟨a3, c3, rfl⟩ := ho3.shape)
    | (go_at_call 41; (with_reducible refine (cD3.out _).mono ?_); rintro e w1 ⟨v4, rfl, ho4, hb⟩; have ho4 := ho4.mono (C := w.heap.size + 1) (blk_lt hR); have hx := Ext.trans' hx hb; have hR := Ext.blk hb hR; have s0 := Ext.cell hb s0; have s1 := Ext.cell hb s1; have s2 := Ext.cell hb s2; have s3 := Ext.cell hb s3; have ho3 := ho3.ext hb; have hcv := (ho3.by (by omega)).conv; obtain ⟨a4, c4, rfl⟩ := ho4.shape; have hE := newblk w1 (.cells #[.string ⟨r2.toArray⟩, .slice a4 r3.length c4, .int .u64 D, .int .u64 B] 33); have hx := Ext.alloc hx (.cells #[.string ⟨r2.toArray⟩, .slice a4 r3.length c4, .int .u64 D, .int .u64 B] 33); have hR := Ext.blk (Ext.alloc (Below.refl _ _) (.cells #[.string ⟨r2.toArray⟩, .slice a4 r3.length c4, .int .u64 D, .int .u64 B] 33)) hR; have ho4 := ho4.ext (Ext.alloc (Below.refl _ _) (.cells #[.string ⟨r2.toArray⟩, .slice a4 r3.length c4, .int .u64 D, .int .u64 B] 33)); obtain ⟨m0, m1, m2, m3, f0, f1, f2, f3⟩ := blk4 hR; have hlt := blk_lt hR; clear s0 s1 s2 s3 ho3))
  refine bodyPost_ret (v := .tuple #[zeroE, .bool false]) ?_ rfl ⟨rfl, Ext.st4 hx (Nat.le_refl _) _ _ _ _⟩
  simp [results, Tryd.results18, go_sem, m0, m1, m2, m3]

set_option maxRecDepth 100000 in
set_option maxHeartbeats 4000000 in
theorem rp_else1 (s : ByteArray) (w : World) (x0 x1 x2 x3 : ByteArray) (B D : Nat) (g1 g2 g3 : Bool) (r2 r3 : List UInt8) (l2 : r2.length ≤ 100000) (l3 : r3.length ≤ 100000)
    (cS : Box (Calls Tryd.prog 39 #[.string s] (w.alloc (.cells zeroC 33)) fun e w' => ∃ v, e = .returned v ∧ w'.ownsRow (w.heap.size + 1) 9 1 v 4 [.string x0, .string x1, .string x2, .string x3] ∧ Ext (w.alloc (.cells zeroC 33)) w'))
    (cB0 : Box (∀ w, Calls Tryd.prog 40 #[.string x0] w fun e w' => e = .returned (.tuple #[.int .u64 B, .bool false]) ∧ w = w')) (cB1 : Box (∀ w, Calls Tryd.prog 40 #[.string x1] w fun e w' => e = .returned (.tuple #[.int .u64 D, .bool g1]) ∧ w = w'))
    (cD2 : Box (∀ w, Calls Tryd.prog 41 #[.string x2] w fun e w' => ∃ v, e = .returned (.tuple #[v, .bool g2]) ∧ OwnB w.heap.size w' v r2 ∧ Ext w w')) (cD3 : Box (∀ w, Calls Tryd.prog 41 #[.string x3] w fun e w' => ∃ v, e = .returned (.tuple #[v, .bool g3]) ∧ OwnB w.heap.size w' v r3 ∧ Ext w w'))
    (t1 : (x0.toList == [49, 56, 52, 52, 54, 55, 52, 52, 48, 55, 51, 55, 48, 57, 53, 53, 49, 54, 49, 53]) = false) (t2 : (x0.toList == [110, 101, 118, 101, 114]) = false) :
    Calls Tryd.prog 18 #[.string s] w fun e w' => e = .returned (.tuple #[zeroE, .bool false]) ∧ Ext w w' := by
  have hR := newblk w (.cells zeroC 33)
  have hx : Ext w (w.alloc (.cells zeroC 33)) := Ext.alloc (Below.refl _ _) _
  go_enter Tryd.func18, Tryd.ntmps18
  go_wp2_with (first
    | (go_at_call 39; (with_reducible refine cS.out.mono ?_); rintro e w1 ⟨v, rfl, ho, hb⟩; have hx := Ext.trans' hx hb; have hR := Ext.blk hb hR; obtain ⟨g, cap, rfl, s0, s1, s2, s3⟩ := row4 ho)
    | (go_at_call 40; (with_reducible refine (cB0.out _).mono ?_); rintro e w' ⟨rfl, rfl⟩)
    | (go_at_call 40; (with_reducible refine (cB1.out _).mono ?_); rintro e w' ⟨rfl, rfl⟩)
    | (go_at_call 41; (with_reducible refine (cD2.out _).mono ?_); rintro e w1 ⟨v3, rfl, ho3, hb⟩; have ho3 := ho3.mono (C := w.heap.size + 1) (blk_lt hR); have hx := Ext.trans' hx hb; have hR := Ext.blk hb hR; have s0 := Ext.cell hb s0; have s1 := Ext.cell hb s1; have s2 := Ext.cell hb s2; have s3 := Ext.cell hb s3; obtain ⟨a3, c3, rfl⟩ := ho3.shape)
    | (go_at_call 41; (with_reducible refine (cD3.out _).mono ?_); rintro e w1 ⟨v4, rfl, ho4, hb⟩; have ho4 := ho4.mono (C := w.heap.size + 1) (blk_lt hR); have hx := Ext.trans' hx hb; have hR := Ext.blk hb hR; have s0 := Ext.cell hb s0; have s1 := Ext.cell hb s1; have s2 := Ext.cell hb s2; have s3 := Ext.cell hb s3; have ho3 := ho3.ext hb; have hcv := (ho3.by (by omega)).conv; obtain ⟨a4, c4, rfl⟩ := ho4.shape; have hE := newblk w1 (.cells #[.string ⟨r2.toArray⟩, .slice a4 r3.length c4, .int .u64 D, .int .u64 B] 33); have hx := Ext.alloc hx (.cells #[.string ⟨r2.toArray⟩, .slice a4 r3.length c4, .int .u64 D, .int .u64 B] 33); have hR := Ext.blk (Ext.alloc (Below.refl _ _) (.cells #[.string ⟨r2.toArray⟩, .slice a4 r3.length c4, .int .u64 D, .int .u64 B] 33)) hR; have ho4 := ho4.ext (Ext.alloc (Below.refl _ _) (.cells #[.string ⟨r2.toArray⟩, .slice a4 r3.length c4, .int .u64 D, .int .u64 B] 33)); obtain ⟨m0, m1, m2, m3, f0, f1, f2, f3⟩ := blk4 hR; have hlt := blk_lt hR; clear s0 s1 s2 s3 ho3))
  refine bodyPost_ret (v := .tuple #[zeroE, .bool false]) ?_ rfl ⟨rfl, Ext.st4 hx (Nat.le_refl _) _ _ _ _⟩
  simp [results, Tryd.results18, go_sem, m0, m1, m2, m3]

set_option maxRecDepth 100000 in
set_option maxHeartbeats 4000000 in
theorem rp_else2 (s : ByteArray) (w : World) (x0 x1 x2 x3 : ByteArray) (B D : Nat) (g2 g3 : Bool) (r2 r3 : List UInt8) (l2 : r2.length ≤ 100000) (l3 : r3.length ≤ 100000)
    (cS : Box (Calls Tryd.prog 39 #[.string s] (w.alloc (.cells zeroC 33)) fun e w' => ∃ v, e = .returned v ∧ w'.ownsRow (w.heap.size + 1) 9 1 v 4 [.string x0, .string x1, .string x2, .string x3] ∧ Ext (w.alloc (.cells zeroC 33)) w'))
    (cB0 : Box (∀ w, Calls Tryd.prog 40 #[.string x0] w fun e w' => e = .returned (.tuple #[.int .u64 B, .bool true]) ∧ w = w')) (cB1 : Box (∀ w, Calls Tryd.prog 40 #[.string x1] w fun e w' => e = .returned (.tuple #[.int .u64 D, .bool false]) ∧ w = w'))
    (cD2 : Box (∀ w, Calls Tryd.prog 41 #[.string x2] w fun e w' => ∃ v, e = .returned (.tuple #[v, .bool g2]) ∧ OwnB w.heap.size w' v r2 ∧ Ext w w')) (cD3 : Box (∀ w, Calls Tryd.prog 41 #[.string x3] w fun e w' => ∃ v, e = .returned (.tuple #[v, .bool g3]) ∧ OwnB w.heap.size w' v r3 ∧ Ext w w'))
    (t1 : (x0.toList == [49, 56, 52, 52, 54, 55, 52, 52, 48, 55, 51, 55, 48, 57, 53, 53, 49, 54, 49, 53]) = false) (t2 : (x0.toList == [110, 101, 118, 101, 114]) = false) :
    Calls Tryd.prog 18 #[.string s] w fun e w' => e = .returned (.tuple #[zeroE, .bool false]) ∧ Ext w w' := by
  have hR := newblk w (.cells zeroC 33)
  have hx : Ext w (w.alloc (.cells zeroC 33)) := Ext.alloc (Below.refl _ _) _
  go_enter Tryd.func18, Tryd.ntmps18
  go_wp2_with (first
    | (go_at_call 39; (with_reducible refine cS.out.mono ?_); rintro e w1 ⟨v, rfl, ho, hb⟩; have hx := Ext.trans' hx hb; have hR := Ext.blk hb hR; obtain ⟨g, cap, rfl, s0, s1, s2, s3⟩ := row4 ho)
    | (go_at_call 40; (with_reducible refine (cB0.out _).mono ?_); rintro e w' ⟨rfl, rfl⟩)
    | (go_at_call 40; (with_reducible refine (cB1.out _).mono ?_); rintro e w' ⟨rfl, rfl⟩)
    | (go_at_call 41; (with_reducible refine (cD2.out _).mono ?_); rintro e w1 ⟨v3, rfl, ho3, hb⟩; have ho3 := ho3.mono (C := w.heap.size + 1) (blk_lt hR); have hx := Ext.trans' hx hb; have hR := Ext.blk hb hR; have s0 := Ext.cell hb s0; have s1 := Ext.cell hb s1; have s2 := Ext.cell hb s2; have s3 := Ext.cell hb s3; obtain ⟨a3, c3, rfl⟩ := ho3.shape)
    | (go_at_call 41; (with_reducible refine (cD3.out _).mono ?_); rintro e w1 ⟨v4, rfl, ho4, hb⟩; have ho4 := ho4.mono (C := w.heap.size + 1) (blk_lt hR); have hx := Ext.trans' hx hb; have hR := Ext.blk hb hR; have s0 := Ext.cell hb s0; have s1 := Ext.cell hb s1; have s2 := Ext.cell hb s2; have s3 := Ext.cell hb s3; have ho3 := ho3.ext hb; have hcv := (ho3.by (by omega)).conv; obtain ⟨a4, c4, rfl⟩ := ho4.shape; have hE := newblk w1 (.cells #[.string ⟨r2.toArray⟩, .slice a4 r3.length c4, .int .u64 D, .int .u64 B] 33); have hx := Ext.alloc hx (.cells #[.string ⟨r2.toArray⟩, .slice a4 r3.length c4, .int .u64 D, .int .u64 B] 33); have hR := Ext.blk (Ext.alloc (Below.refl _ _) (.cells #[.string ⟨r2.toArray⟩, .slice a4 r3.length c4, .int .u64 D, .int .u64 B] 33)) hR; have ho4 := ho4.ext (Ext.alloc (Below.refl _ _) (.cells #[.string ⟨r2.toArray⟩, .slice a4 r3.length c4, .int .u64 D, .int .u64 B] 33)); obtain ⟨m0, m1, m2, m3, f0, f1, f2, f3⟩ := blk4 hR; have hlt := blk_lt hR; clear s0 s1 s2 s3 ho3))
  refine bodyPost_ret (v := .tuple #[zeroE, .bool false]) ?_ rfl ⟨rfl, Ext.st4 hx (Nat.le_refl _) _ _ _ _⟩
  simp [results, Tryd.results18, go_sem, m0, m1, m2, m3]

set_option maxRecDepth 100000 in
set_option maxHeartbeats 4000000 in
theorem rp_else3 (s : ByteArray) (w : World) (x0 x1 x2 x3 : ByteArray) (B D : Nat) (g3 : Bool) (r2 r3 : List UInt8) (l2 : r2.length ≤ 100000) (l3 : r3.length ≤ 100000)
    (cS : Box (Calls Tryd.prog 39 #[.string s] (w.alloc (.cells zeroC 33)) fun e w' => ∃ v, e = .returned v ∧ w'.ownsRow (w.heap.size + 1) 9 1 v 4 [.string x0, .string x1, .string x2, .string x3] ∧ Ext (w.alloc (.cells zeroC 33)) w'))
    (cB0 : Box (∀ w, Calls Tryd.prog 40 #[.string x0] w fun e w' => e = .returned (.tuple #[.int .u64 B, .bool true]) ∧ w = w')) (cB1 : Box (∀ w, Calls Tryd.prog 40 #[.string x1] w fun e w' => e = .returned (.tuple #[.int .u64 D, .bool true]) ∧ w = w'))
    (cD2 : Box (∀ w, Calls Tryd.prog 41 #[.string x2] w fun e w' => ∃ v, e = .returned (.tuple #[v, .bool false]) ∧ OwnB w.heap.size w' v r2 ∧ Ext w w')) (cD3 : Box (∀ w, Calls Tryd.prog 41 #[.string x3] w fun e w' => ∃ v, e = .returned (.tuple #[v, .bool g3]) ∧ OwnB w.heap.size w' v r3 ∧ Ext w w'))
    (t1 : (x0.toList == [49, 56, 52, 52, 54, 55, 52, 52, 48, 55, 51, 55, 48, 57, 53, 53, 49, 54, 49, 53]) = false) (t2 : (x0.toList == [110, 101, 118, 101, 114]) = false) :
    Calls Tryd.prog 18 #[.string s] w fun e w' => e = .returned (.tuple #[zeroE, .bool false]) ∧ Ext w w' := by
  have hR := newblk w (.cells zeroC 33)
  have hx : Ext w (w.alloc (.cells zeroC 33)) := Ext.alloc (Below.refl _ _) _
  go_enter Tryd.func18, Tryd.ntmps18
  go_wp2_with (first
    | (go_at_call 39; (with_reducible refine cS.out.mono ?_); rintro e w1 ⟨v, rfl, ho, hb⟩; have hx := Ext.trans' hx hb; have hR := Ext.blk hb hR; obtain ⟨g, cap, rfl, s0, s1, s2, s3⟩ := row4 ho)
    | (go_at_call 40; (with_reducible refine (cB0.out _).mono ?_); rintro e w' ⟨rfl, rfl⟩)
    | (go_at_call 40; (with_reducible refine (cB1.out _).mono ?_); rintro e w' ⟨rfl, rfl⟩)
    | (go_at_call 41; (with_reducible refine (cD2.out _).mono ?_); rintro e w1 ⟨v3, rfl, ho3, hb⟩; have ho3 := ho3.mono (C := w.heap.size + 1) (blk_lt hR); have hx := Ext.trans' hx hb; have hR := Ext.blk hb hR; have s0 := Ext.cell hb s0; have s1 := Ext.cell hb s1; have s2 := Ext.cell hb s2; have s3 := Ext.cell hb s3; obtain ⟨a3, c3, rfl⟩ := ho3.shape)
    | (go_at_call 41; (with_reducible refine (cD3.out _).mono ?_); rintro e w1 ⟨v4, rfl, ho4, hb⟩; have ho4 := ho4.mono (C := w.heap.size + 1) (blk_lt hR); have hx := Ext.trans' hx hb; have hR := Ext.blk hb hR; have s0 := Ext.cell hb s0; have s1 := Ext.cell hb s1; have s2 := Ext.cell hb s2; have s3 := Ext.cell hb s3; have ho3 := ho3.ext hb; have hcv := (ho3.by (by omega)).conv; obtain ⟨a4, c4, rfl⟩ := ho4.shape; have hE := newblk w1 (.cells #[.string ⟨r2.toArray⟩, .slice a4 r3.length c4, .int .u64 D, .int .u64 B] 33); have hx := Ext.alloc hx (.cells #[.string ⟨r2.toArray⟩, .slice a4 r3.length c4, .int .u64 D, .int .u64 B] 33); have hR := Ext.blk (Ext.alloc (Below.refl _ _) (.cells #[.string ⟨r2.toArray⟩, .slice a4 r3.length c4, .int .u64 D, .int .u64 B] 33)) hR; have ho4 := ho4.ext (Ext.alloc (Below.refl _ _) (.cells #[.string ⟨r2.toArray⟩, .slice a4 r3.length c4, .int .u64 D, .int .u64 B] 33)); obtain ⟨m0, m1, m2, m3, f0, f1, f2, f3⟩ := blk4 hR; have hlt := blk_lt hR; clear s0 s1 s2 s3 ho3))
  refine bodyPost_ret (v := .tuple #[zeroE, .bool false]) ?_ rfl ⟨rfl, Ext.st4 hx (Nat.le_refl _) _ _ _ _⟩
  simp [results, Tryd.results18, go_sem, m0, m1, m2, m3]

set_option maxRecDepth 100000 in
set_option maxHeartbeats 4000000 in
theorem rp_else4 (s : ByteArray) (w : World) (x0 x1 x2 x3 : ByteArray) (B D : Nat) (r2 r3 : List UInt8) (l2 : r2.length ≤ 100000) (l3 : r3.length ≤ 100000)
    (cS : Box (Calls Tryd.prog 39 #[.string s] (w.alloc (.cells zeroC 33)) fun e w' => ∃ v, e = .returned v ∧ w'.ownsRow (w.heap.size + 1) 9 1 v 4 [.string x0, .string x1, .string x2, .string x3] ∧ Ext (w.alloc (.cells zeroC 33)) w'))
    (cB0 : Box (∀ w, Calls Tryd.prog 40 #[.string x0] w fun e w' => e = .returned (.tuple #[.int .u64 B, .bool true]) ∧ w = w')) (cB1 : Box (∀ w, Calls Tryd.prog 40 #[.string x1] w fun e w' => e = .returned (.tuple #[.int .u64 D, .bool true]) ∧ w = w'))
    (cD2 : Box (∀ w, Calls Tryd.prog 41 #[.string x2] w fun e w' => ∃ v, e = .returned (.tuple #[v, .bool true]) ∧ OwnB w.heap.size w' v r2 ∧ Ext w w')) (cD3 : Box (∀ w, Calls Tryd.prog 41 #[.string x3] w fun e w' => ∃ v, e = .returned (.tuple #[v, .bool false]) ∧ OwnB w.heap.size w' v r3 ∧ Ext w w'))
    (t1 : (x0.toList == [49, 56, 52, 52, 54, 55, 52, 52, 48, 55, 51, 55, 48, 57, 53, 53, 49, 54, 49, 53]) = false) (t2 : (x0.toList == [110, 101, 118, 101, 114]) = false) :
    Calls Tryd.prog 18 #[.string s] w fun e w' => e = .returned (.tuple #[zeroE, .bool false]) ∧ Ext w w' := by
  have hR := newblk w (.cells zeroC 33)
  have hx : Ext w (w.alloc (.cells zeroC 33)) := Ext.alloc (Below.refl _ _) _
  go_enter Tryd.func18, Tryd.ntmps18
  go_wp2_with (first
    | (go_at_call 39; (with_reducible refine cS.out.mono ?_); rintro e w1 ⟨v, rfl, ho, hb⟩; have hx := Ext.trans' hx hb; have hR := Ext.blk hb hR; obtain ⟨g, cap, rfl, s0, s1, s2, s3⟩ := row4 ho)
    | (go_at_call 40; (with_reducible refine (cB0.out _).mono ?_); rintro e w' ⟨rfl, rfl⟩)
    | (go_at_call 40; (with_reducible refine (cB1.out _).mono ?_); rintro e w' ⟨rfl, rfl⟩)
    | (go_at_call 41; (with_reducible refine (cD2.out _).mono ?_); rintro e w1 ⟨v3, rfl, ho3, hb⟩; have ho3 := ho3.mono (C := w.heap.size + 1) (blk_lt hR); have hx := Ext.trans' hx hb; have hR := Ext.blk hb hR; have s0 := Ext.cell hb s0; have s1 := Ext.cell hb s1; have s2 := Ext.cell hb s2; have s3 := Ext.cell hb s3; obtain ⟨a3, c3, rfl⟩ := ho3.shape)
    | (go_at_call 41; (with_reducible refine (cD3.out _).mono ?_); rintro e w1 ⟨v4, rfl, ho4, hb⟩; have ho4 := ho4.mono (C := w.heap.size + 1) (blk_lt hR); have hx := Ext.trans' hx hb; have hR := Ext.blk hb hR; have s0 := Ext.cell hb s0; have s1 := Ext.cell hb s1; have s2 := Ext.cell hb s2; have s3 := Ext.cell hb s3; have ho3 := ho3.ext hb; have hcv := (ho3.by (by omega)).conv; obtain ⟨a4, c4, rfl⟩ := ho4.shape; have hE := newblk w1 (.cells #[.string ⟨r2.toArray⟩, .slice a4 r3.length c4, .int .u64 D, .int .u64 B] 33); have hx := Ext.alloc hx (.cells #[.string ⟨r2.toArray⟩, .slice a4 r3.length c4, .int .u64 D, .int .u64 B] 33); have hR := Ext.blk (Ext.alloc (Below.refl _ _) (.cells #[.string ⟨r2.toArray⟩, .slice a4 r3.length c4, .int .u64 D, .int .u64 B] 33)) hR; have ho4 := ho4.ext (Ext.alloc (Below.refl _ _) (.cells #[.string ⟨r2.toArray⟩, .slice a4 r3.length c4, .int .u64 D, .int .u64 B] 33)); obtain ⟨m0, m1, m2, m3, f0, f1, f2, f3⟩ := blk4 hR; have hlt := blk_lt hR; clear s0 s1 s2 s3 ho3))
  refine bodyPost_ret (v := .tuple #[zeroE, .bool false]) ?_ rfl ⟨rfl, Ext.st4 hx (Nat.le_refl _) _ _ _ _⟩
  simp [results, Tryd.results18, go_sem, m0, m1, m2, m3]

set_option maxRecDepth 100000 in
set_option maxHeartbeats 4000000 in
theorem rp_else5 (s : ByteArray) (w : World) (x0 x1 x2 x3 : ByteArray) (B D : Nat) (r2 r3 : List UInt8) (l2 : r2.length ≤ 100000) (l3 : r3.length ≤ 100000)
    (cS : Box (Calls Tryd.prog 39 #[.string s] (w.alloc (.cells zeroC 33)) fun e w' => ∃ v, e = .returned v ∧ w'.ownsRow (w.heap.size + 1) 9 1 v 4 [.string x0, .string x1, .string x2, .string x3] ∧ Ext (w.alloc (.cells zeroC 33)) w'))
    (cB0 : Box (∀ w, Calls Tryd.prog 40 #[.string x0] w fun e w' => e = .returned (.tuple #[.int .u64 B, .bool true]) ∧ w = w')) (cB1 : Box (∀ w, Calls Tryd.prog 40 #[.string x1] w fun e w' => e = .returned (.tuple #[.int .u64 D, .bool true]) ∧ w = w'))
    (cD2 : Box (∀ w, Calls Tryd.prog 41 #[.string x2] w fun e w' => ∃ v, e = .returned (.tuple #[v, .bool true]) ∧ OwnB w.heap.size w' v r2 ∧ Ext w w')) (cD3 : Box (∀ w, Calls Tryd.prog 41 #[.string x3] w fun e w' => ∃ v, e = .returned (.tuple #[v, .bool true]) ∧ OwnB w.heap.size w' v r3 ∧ Ext w w')) (cV : Box (∀ a c w, Calls Tryd.prog 42 #[.agg #[.string ⟨r2.toArray⟩, .slice a r3.length c, .int .u64 D, .int .u64 B]] w fun e w' => e = .returned (.bool false) ∧ Ext w w'))
    (t1 : (x0.toList == [49, 56, 52, 52, 54, 55, 52, 52, 48, 55, 51, 55, 48, 57, 53, 53, 49, 54, 49, 53]) = false) (t2 : (x0.toList == [110, 101, 118, 101, 114]) = false) :
    Calls Tryd.prog 18 #[.string s] w fun e w' => e = .returned (.tuple #[zeroE, .bool false]) ∧ Ext w w' := by
  have hR := newblk w (.cells zeroC 33)
  have hx : Ext w (w.alloc (.cells zeroC 33)) := Ext.alloc (Below.refl _ _) _
  go_enter Tryd.func18, Tryd.ntmps18
  go_wp2_with (first
    | (go_at_call 39; (with_reducible refine cS.out.mono ?_); rintro e w1 ⟨v, rfl, ho, hb⟩; have hx := Ext.trans' hx hb; have hR := Ext.blk hb hR; obtain ⟨g, cap, rfl, s0, s1, s2, s3⟩ := row4 ho)
    | (go_at_call 40; (with_reducible refine (cB0.out _).mono ?_); rintro e w' ⟨rfl, rfl⟩)
    | (go_at_call 40; (with_reducible refine (cB1.out _).mono ?_); rintro e w' ⟨rfl, rfl⟩)
    | (go_at_call 41; (with_reducible refine (cD2.out _).mono ?_); rintro e w1 ⟨v3, rfl, ho3, hb⟩; have ho3 := ho3.mono (C := w.heap.size + 1) (blk_lt hR); have hx := Ext.trans' hx hb; have hR := Ext.blk hb hR; have s0 := Ext.cell hb s0; have s1 := Ext.cell hb s1; have s2 := Ext.cell hb s2; have s3 := Ext.cell hb s3; obtain ⟨a3, c3, rfl⟩ := ho3.shape)
    | (go_at_call 41; (with_reducible refine (cD3.out _).mono ?_); rintro e w1 ⟨v4, rfl, ho4, hb⟩; have ho4 := ho4.mono (C := w.heap.size + 1) (blk_lt hR); have hx := Ext.trans' hx hb; have hR := Ext.blk hb hR; have s0 := Ext.cell hb s0; have s1 := Ext.cell hb s1; have s2 := Ext.cell hb s2; have s3 := Ext.cell hb s3; have ho3 := ho3.ext hb; have hcv := (ho3.by (by omega)).conv; obtain ⟨a4, c4, rfl⟩ := ho4.shape; have hE := newblk w1 (.cells #[.string ⟨r2.toArray⟩, .slice a4 r3.length c4, .int .u64 D, .int .u64 B] 33); have hx := Ext.alloc hx (.cells #[.string ⟨r2.toArray⟩, .slice a4 r3.length c4, .int .u64 D, .int .u64 B] 33); have hR := Ext.blk (Ext.alloc (Below.refl _ _) (.cells #[.string ⟨r2.toArray⟩, .slice a4 r3.length c4, .int .u64 D, .int .u64 B] 33)) hR; have ho4 := ho4.ext (Ext.alloc (Below.refl _ _) (.cells #[.string ⟨r2.toArray⟩, .slice a4 r3.length c4, .int .u64 D, .int .u64 B] 33)); obtain ⟨m0, m1, m2, m3, f0, f1, f2, f3⟩ := blk4 hR; have hlt := blk_lt hR; clear s0 s1 s2 s3 ho3)
    | (go_at_call 42; (with_reducible refine (cV.out _ _ _).mono ?_); rintro e w2 ⟨rfl, hb⟩; have hx := Ext.trans' hx hb; have hR := Ext.blk hb hR; have hE := Ext.blk hb hE; have ho4 := ho4.ext hb; obtain ⟨m0, m1, m2, m3, f0, f1, f2, f3⟩ := blk4 hR; obtain ⟨u0, u1, u2, u3, _⟩ := blk4 hE; clear hE hcv))
  refine bodyPost_ret (v := .tuple #[zeroE, .bool false]) ?_ rfl ⟨rfl, Ext.st4 hx (Nat.le_refl _) _ _ _ _⟩
  simp [results, Tryd.results18, go_sem, m0, m1, m2, m3]

set_option maxRecDepth 100000 in
set_option maxHeartbeats 4000000 in
theorem rp_else6 (s : ByteArray) (w : World) (x0 x1 x2 x3 : ByteArray) (B D : Nat) (r2 r3 : List UInt8) (l2 : r2.length ≤ 100000) (l3 : r3.length ≤ 100000)
    (cS : Box (Calls Tryd.prog 39 #[.string s] (w.alloc (.cells zeroC 33)) fun e w' => ∃ v, e = .returned v ∧ w'.ownsRow (w.heap.size + 1) 9 1 v 4 [.string x0, .string x1, .string x2, .string x3] ∧ Ext (w.alloc (.cells zeroC 33)) w'))
    (cB0 : Box (∀ w, Calls Tryd.prog 40 #[.string x0] w fun e w' => e = .returned (.tuple #[.int .u64 B, .bool true]) ∧ w = w')) (cB1 : Box (∀ w, Calls Tryd.prog 40 #[.string x1] w fun e w' => e = .returned (.tuple #[.int .u64 D, .bool true]) ∧ w = w'))
    (cD2 : Box (∀ w, Calls Tryd.prog 41 #[.string x2] w fun e w' => ∃ v, e = .returned (.tuple #[v, .bool true]) ∧ OwnB w.heap.size w' v r2 ∧ Ext w w')) (cD3 : Box (∀ w, Calls Tryd.prog 41 #[.string x3] w fun e w' => ∃ v, e = .returned (.tuple #[v, .bool true]) ∧ OwnB w.heap.size w' v r3 ∧ Ext w w')) (cV : Box (∀ a c w, Calls Tryd.prog 42 #[.agg #[.string ⟨r2.toArray⟩, .slice a r3.length c, .int .u64 D, .int .u64 B]] w fun e w' => e = .returned (.bool true) ∧ Ext w w'))
    (t1 : (x0.toList == [49, 56, 52, 52, 54, 55, 52, 52, 48, 55, 51, 55, 48, 57, 53, 53, 49, 54, 49, 53]) = false) (t2 : (x0.toList == [110, 101, 118, 101, 114]) = false) :
    Calls Tryd.prog 18 #[.string s] w fun e w' => ∃ v', e = .returned (.tuple #[.agg #[.string ⟨r2.toArray⟩, v', .int .u64 D, .int .u64 B], .bool true]) ∧ OwnB w.heap.size w' v' r3 ∧ Ext w w' := by
  have hR := newblk w (.cells zeroC 33)
  have hx : Ext w (w.alloc (.cells zeroC 33)) := Ext.alloc (Below.refl _ _) _
  go_enter Tryd.func18, Tryd.ntmps18
  go_wp2_with (first
    | (go_at_call 39; (with_reducible refine cS.out.mono ?_); rintro e w1 ⟨v, rfl, ho, hb⟩; have hx := Ext.trans' hx hb; have hR := Ext.blk hb hR; obtain ⟨g, cap, rfl, s0, s1, s2, s3⟩ := row4 ho)
    | (go_at_call 40; (with_reducible refine (cB0.out _).mono ?_); rintro e w' ⟨rfl, rfl⟩)
    | (go_at_call 40; (with_reducible refine (cB1.out _).mono ?_); rintro e w' ⟨rfl, rfl⟩)
    | (go_at_call 41; (with_reducible refine (cD2.out _).mono ?_); rintro e w1 ⟨v3, rfl, ho3, hb⟩; have ho3 := ho3.mono (C := w.heap.size + 1) (blk_lt hR); have hx := Ext.trans' hx hb; have hR := Ext.blk hb hR; have s0 := Ext.cell hb s0; have s1 := Ext.cell hb s1; have s2 := Ext.cell hb s2; have s3 := Ext.cell hb s3; obtain ⟨a3, c3, rfl⟩ := ho3.shape)
    | (go_at_call 41; (with_reducible refine (cD3.out _).mono ?_); rintro e w1 ⟨v4, rfl, ho4, hb⟩; have ho4 := ho4.mono (C := w.heap.size + 1) (blk_lt hR); have hx := Ext.trans' hx hb; have hR := Ext.blk hb hR; have s0 := Ext.cell hb s0; have s1 := Ext.cell hb s1; have s2 := Ext.cell hb s2; have s3 := Ext.cell hb s3; have ho3 := ho3.ext hb; have hcv := (ho3.by (by omega)).conv; obtain ⟨a4, c4, rfl⟩ := ho4.shape; have hE := newblk w1 (.cells #[.string ⟨r2.toArray⟩, .slice a4 r3.length c4, .int .u64 D, .int .u64 B] 33); have hx := Ext.alloc hx (.cells #[.string ⟨r2.toArray⟩, .slice a4 r3.length c4, .int .u64 D, .int .u64 B] 33); have hR := Ext.blk (Ext.alloc (Below.refl _ _) (.cells #[.string ⟨r2.toArray⟩, .slice a4 r3.length c4, .int .u64 D, .int .u64 B] 33)) hR; have ho4 := ho4.ext (Ext.alloc (Below.refl _ _) (.cells #[.string ⟨r2.toArray⟩, .slice a4 r3.length c4, .int .u64 D, .int .u64 B] 33)); obtain ⟨m0, m1, m2, m3, f0, f1, f2, f3⟩ := blk4 hR; have hlt := blk_lt hR; clear s0 s1 s2 s3 ho3)
    | (go_at_call 42; (with_reducible refine (cV.out _ _ _).mono ?_); rintro e w2 ⟨rfl, hb⟩; have hx := Ext.trans' hx hb; have hR := Ext.blk hb hR; have hE := Ext.blk hb hE; have ho4 := ho4.ext hb; obtain ⟨m0, m1, m2, m3, f0, f1, f2, f3⟩ := blk4 hR; obtain ⟨u0, u1, u2, u3, _⟩ := blk4 hE; clear hE hcv))
  refine bodyPost_ret (v := .tuple #[.agg #[.string ⟨r2.toArray⟩, .slice a4 r3.length c4, .int .u64 D, .int .u64 B], .bool true]) ?_ rfl ⟨_, rfl, (ho4.st4 (by omega) _ _ _ _).mono (by omega), Ext.st4 hx (Nat.le_refl _) _ _ _ _⟩
  simp [results, Tryd.results18, go_sem, m0, m1, m2, m3]

end Go.Proofs.YtboecabipkkcgaaDoor
