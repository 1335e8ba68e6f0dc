import Derived.Test.YtbnmnkmjokcmfaaDoorS4
/- season: Product. -/
namespace Go.Proofs.YtbnmnkmjokcmfaaDoor
open Go.RowKit
theorem w9 (w : World) (a b c d : Nat → Int) : Ext w (((w.alloc (.cells #[.int .i64 (a 0), .int .i64 (b 0), .int .i64 (a 1), .int .i64 (b 1), .int .i64 (a 2), .int .i64 (b 2), .int .i64 (a 3), .int .i64 (b 3)] 29)).alloc (.cells #[.int .i64 (c 0), .int .i64 (d 0), .int .i64 (c 1), .int .i64 (d 1), .int .i64 (c 2), .int .i64 (d 2), .int .i64 (c 3), .int .i64 (d 3)] 29)).alloc (.cells #[.int .i64 0, .int .i64 0, .int .i64 0, .int .i64 0, .int .i64 0, .int .i64 0, .int .i64 0, .int .i64 0] 29)) ∧ (((w.alloc (.cells #[.int .i64 (a 0), .int .i64 (b 0), .int .i64 (a 1), .int .i64 (b 1), .int .i64 (a 2), .int .i64 (b 2), .int .i64 (a 3), .int .i64 (b 3)] 29)).alloc (.cells #[.int .i64 (c 0), .int .i64 (d 0), .int .i64 (c 1), .int .i64 (d 1), .int .i64 (c 2), .int .i64 (d 2), .int .i64 (c 3), .int .i64 (d 3)] 29)).alloc (.cells #[.int .i64 0, .int .i64 0, .int .i64 0, .int .i64 0, .int .i64 0, .int .i64 0, .int .i64 0, .int .i64 0] 29)).heap[w.heap.size]? = some (.cells #[.int .i64 (a 0), .int .i64 (b 0), .int .i64 (a 1), .int .i64 (b 1), .int .i64 (a 2), .int .i64 (b 2), .int .i64 (a 3), .int .i64 (b 3)] 29 (0, 0)) ∧ (((w.alloc (.cells #[.int .i64 (a 0), .int .i64 (b 0), .int .i64 (a 1), .int .i64 (b 1), .int .i64 (a 2), .int .i64 (b 2), .int .i64 (a 3), .int .i64 (b 3)] 29)).alloc (.cells #[.int .i64 (c 0), .int .i64 (d 0), .int .i64 (c 1), .int .i64 (d 1), .int .i64 (c 2), .int .i64 (d 2), .int .i64 (c 3), .int .i64 (d 3)] 29)).alloc (.cells #[.int .i64 0, .int .i64 0, .int .i64 0, .int .i64 0, .int .i64 0, .int .i64 0, .int .i64 0, .int .i64 0] 29)).heap[w.heap.size + 1]? = some (.cells #[.int .i64 (c 0), .int .i64 (d 0), .int .i64 (c 1), .int .i64 (d 1), .int .i64 (c 2), .int .i64 (d 2), .int .i64 (c 3), .int .i64 (d 3)] 29 (0, 0)) ∧ (((w.alloc (.cells #[.int .i64 (a 0), .int .i64 (b 0), .int .i64 (a 1), .int .i64 (b 1), .int .i64 (a 2), .int .i64 (b 2), .int .i64 (a 3), .int .i64 (b 3)] 29)).alloc (.cells #[.int .i64 (c 0), .int .i64 (d 0), .int .i64 (c 1), .int .i64 (d 1), .int .i64 (c 2), .int .i64 (d 2), .int .i64 (c 3), .int .i64 (d 3)] 29)).alloc (.cells #[.int .i64 0, .int .i64 0, .int .i64 0, .int .i64 0, .int .i64 0, .int .i64 0, .int .i64 0, .int .i64 0] 29)).heap[w.heap.size + 2]? = some (.cells #[.int .i64 0, .int .i64 0, .int .i64 0, .int .i64 0, .int .i64 0, .int .i64 0, .int .i64 0, .int .i64 0] 29 (0, 0)) := by
  have e1 : (w.alloc (.cells #[.int .i64 (a 0), .int .i64 (b 0), .int .i64 (a 1), .int .i64 (b 1), .int .i64 (a 2), .int .i64 (b 2), .int .i64 (a 3), .int .i64 (b 3)] 29)).heap.size = w.heap.size + 1 := by simp
  have e2 : ((w.alloc (.cells #[.int .i64 (a 0), .int .i64 (b 0), .int .i64 (a 1), .int .i64 (b 1), .int .i64 (a 2), .int .i64 (b 2), .int .i64 (a 3), .int .i64 (b 3)] 29)).alloc (.cells #[.int .i64 (c 0), .int .i64 (d 0), .int .i64 (c 1), .int .i64 (d 1), .int .i64 (c 2), .int .i64 (d 2), .int .i64 (c 3), .int .i64 (d 3)] 29)).heap.size = w.heap.size + 2 := by simp
  have h1 := newblk (w.alloc (.cells #[.int .i64 (a 0), .int .i64 (b 0), .int .i64 (a 1), .int .i64 (b 1), .int .i64 (a 2), .int .i64 (b 2), .int .i64 (a 3), .int .i64 (b 3)] 29)) (.cells #[.int .i64 (c 0), .int .i64 (d 0), .int .i64 (c 1), .int .i64 (d 1), .int .i64 (c 2), .int .i64 (d 2), .int .i64 (c 3), .int .i64 (d 3)] 29)
  have h2 := newblk ((w.alloc (.cells #[.int .i64 (a 0), .int .i64 (b 0), .int .i64 (a 1), .int .i64 (b 1), .int .i64 (a 2), .int .i64 (b 2), .int .i64 (a 3), .int .i64 (b 3)] 29)).alloc (.cells #[.int .i64 (c 0), .int .i64 (d 0), .int .i64 (c 1), .int .i64 (d 1), .int .i64 (c 2), .int .i64 (d 2), .int .i64 (c 3), .int .i64 (d 3)] 29)) (.cells #[.int .i64 0, .int .i64 0, .int .i64 0, .int .i64 0, .int .i64 0, .int .i64 0, .int .i64 0, .int .i64 0] 29)
  rw [e1] at h1
  rw [e2] at h2
  have x1 : Ext (w.alloc (.cells #[.int .i64 (a 0), .int .i64 (b 0), .int .i64 (a 1), .int .i64 (b 1), .int .i64 (a 2), .int .i64 (b 2), .int .i64 (a 3), .int .i64 (b 3)] 29)) ((w.alloc (.cells #[.int .i64 (a 0), .int .i64 (b 0), .int .i64 (a 1), .int .i64 (b 1), .int .i64 (a 2), .int .i64 (b 2), .int .i64 (a 3), .int .i64 (b 3)] 29)).alloc (.cells #[.int .i64 (c 0), .int .i64 (d 0), .int .i64 (c 1), .int .i64 (d 1), .int .i64 (c 2), .int .i64 (d 2), .int .i64 (c 3), .int .i64 (d 3)] 29)) := Ext.alloc (Below.refl _ _) _
  have x2 : Ext ((w.alloc (.cells #[.int .i64 (a 0), .int .i64 (b 0), .int .i64 (a 1), .int .i64 (b 1), .int .i64 (a 2), .int .i64 (b 2), .int .i64 (a 3), .int .i64 (b 3)] 29)).alloc (.cells #[.int .i64 (c 0), .int .i64 (d 0), .int .i64 (c 1), .int .i64 (d 1), .int .i64 (c 2), .int .i64 (d 2), .int .i64 (c 3), .int .i64 (d 3)] 29)) (((w.alloc (.cells #[.int .i64 (a 0), .int .i64 (b 0), .int .i64 (a 1), .int .i64 (b 1), .int .i64 (a 2), .int .i64 (b 2), .int .i64 (a 3), .int .i64 (b 3)] 29)).alloc (.cells #[.int .i64 (c 0), .int .i64 (d 0), .int .i64 (c 1), .int .i64 (d 1), .int .i64 (c 2), .int .i64 (d 2), .int .i64 (c 3), .int .i64 (d 3)] 29)).alloc (.cells #[.int .i64 0, .int .i64 0, .int .i64 0, .int .i64 0, .int .i64 0, .int .i64 0, .int .i64 0, .int .i64 0] 29)) := Ext.alloc (Below.refl _ _) _
  exact ⟨Ext.alloc (Ext.alloc (Ext.alloc (Below.refl _ _) _) _) _, Ext.blk x2 (Ext.blk x1 (newblk w _)), Ext.blk x2 h1, h2⟩
set_option maxRecDepth 100000 in
set_option maxHeartbeats 4000000 in
theorem product_bad (a b c d : Nat → Int) (w : World) (hv : allV a b 4 = false ∨ (allV a b 4 = true ∧ allV c d 4 = false)) :
    Calls Tryd.prog 15 #[(.agg #[.int .i64 (a 0), .int .i64 (b 0), .int .i64 (a 1), .int .i64 (b 1), .int .i64 (a 2), .int .i64 (b 2), .int .i64 (a 3), .int .i64 (b 3)]), (.agg #[.int .i64 (c 0), .int .i64 (d 0), .int .i64 (c 1), .int .i64 (d 1), .int .i64 (c 2), .int .i64 (d 2), .int .i64 (c 3), .int .i64 (d 3)])] w fun e w' => e = .returned (.tuple #[.agg #[.int .i64 0, .int .i64 0, .int .i64 0, .int .i64 0, .int .i64 0, .int .i64 0, .int .i64 0, .int .i64 0], .int .i64 2]) ∧ Ext w w' := by
  obtain ⟨hx, hA, hC, hB⟩ := w9 w a b c d
  have cv : Box (∀ w', w'.heap[w.heap.size]? = some (.cells #[.int .i64 (a 0), .int .i64 (b 0), .int .i64 (a 1), .int .i64 (b 1), .int .i64 (a 2), .int .i64 (b 2), .int .i64 (a 3), .int .i64 (b 3)] 29 (0, 0)) → Calls Tryd.prog 36 #[.slice (some ⟨w.heap.size, 0, none⟩) 4 4] w' fun e w'' => e = .returned (.bool (allV a b 4)) ∧ Ext w' w'') := ⟨fun w' h => valid_4 _ a b w' _ h⟩
  have cv2 : Box (∀ w', w'.heap[w.heap.size + 1]? = some (.cells #[.int .i64 (c 0), .int .i64 (d 0), .int .i64 (c 1), .int .i64 (d 1), .int .i64 (c 2), .int .i64 (d 2), .int .i64 (c 3), .int .i64 (d 3)] 29 (0, 0)) → Calls Tryd.prog 36 #[.slice (some ⟨w.heap.size + 1, 0, none⟩) 4 4] w' fun e w'' => e = .returned (.bool (allV c d 4)) ∧ Ext w' w'') := ⟨fun w' h => valid_4 _ c d w' _ h⟩
  obtain ⟨⟨o0, o1, o2, o3, o4, o5, o6, o7⟩, z0, z1, z2, z3, z4, z5, z6, z7⟩ := cx8 hB
  have HA := Box.mk hA; have HC := Box.mk hC
  clear hA hC
  rcases hv with h1 | ⟨h1, h2⟩
  · rw [h1] at cv
    clear h1
    go_enter Tryd.func15, Tryd.ntmps15
    go_wp2_with (first
      | (go_at_call 36; (with_reducible refine (cv.out _ HA.out).mono ?_); rintro e w1 ⟨rfl, hb⟩; have hx := Ext.trans' hx hb; have hB := Ext.blk hb hB; clear o0 o1 o2 o3 o4 o5 o6 o7 z0 z1 z2 z3 z4 z5 z6 z7; obtain ⟨⟨o0, o1, o2, o3, o4, o5, o6, o7⟩, z0, z1, z2, z3, z4, z5, z6, z7⟩ := cx8 hB))
    refine bodyPost_ret (v := .tuple #[.agg #[.int .i64 0, .int .i64 0, .int .i64 0, .int .i64 0, .int .i64 0, .int .i64 0, .int .i64 0, .int .i64 0], .int .i64 2]) ?_ rfl ⟨rfl, Ext.st8 hx (by omega) _ _ _ _ _ _ _ _⟩
    simp [results, Tryd.results15, go_sem, o0, o1, o2, o3, o4, o5, o6, o7]
  · rw [h1] at cv
    rw [h2] at cv2
    clear h1 h2
    go_enter Tryd.func15, Tryd.ntmps15
    go_wp2_with (first
      | (go_at_call 36; (with_reducible refine (cv.out _ HA.out).mono ?_); rintro e w1 ⟨rfl, hb⟩; have hx := Ext.trans' hx hb; have hB := Ext.blk hb hB; have HC := Box.mk (Ext.blk hb HC.out); clear o0 o1 o2 o3 o4 o5 o6 o7 z0 z1 z2 z3 z4 z5 z6 z7; obtain ⟨⟨o0, o1, o2, o3, o4, o5, o6, o7⟩, z0, z1, z2, z3, z4, z5, z6, z7⟩ := cx8 hB)
      | (go_at_call 36; (with_reducible refine (cv2.out _ HC.out).mono ?_); rintro e w1 ⟨rfl, hb⟩; have hx := Ext.trans' hx hb; have hB := Ext.blk hb hB; clear o0 o1 o2 o3 o4 o5 o6 o7 z0 z1 z2 z3 z4 z5 z6 z7; obtain ⟨⟨o0, o1, o2, o3, o4, o5, o6, o7⟩, z0, z1, z2, z3, z4, z5, z6, z7⟩ := cx8 hB))
    refine bodyPost_ret (v := .tuple #[.agg #[.int .i64 0, .int .i64 0, .int .i64 0, .int .i64 0, .int .i64 0, .int .i64 0, .int .i64 0, .int .i64 0], .int .i64 2]) ?_ rfl ⟨rfl, Ext.st8 hx (by omega) _ _ _ _ _ _ _ _⟩
    simp [results, Tryd.results15, go_sem, o0, o1, o2, o3, o4, o5, o6, o7]
/-- the first n terms of a product's parts -/
def pR (a b c d : Nat → Int) (m : Nat) : Nat → Int
  | 0 => 0
  | n + 1 => pR a b c d m n + (if (n / 4 + n % 4) % 4 = m then a (n / 4) * c (n % 4) - b (n / 4) * d (n % 4) else 0)
def pI (a b c d : Nat → Int) (m : Nat) : Nat → Int
  | 0 => 0
  | n + 1 => pI a b c d m n + (if (n / 4 + n % 4) % 4 = m then a (n / 4) * d (n % 4) + b (n / 4) * c (n % 4) else 0)
def prR (a b c d : Nat → Int) (m : Nat) : Int := pR a b c d m 16
def prI (a b c d : Nat → Int) (m : Nat) : Int := pI a b c d m 16
theorem m_lim {x y : Int} (hx : Lim (2 ^ 20) x) (hy : Lim (2 ^ 20) y) : Lim (2 ^ 40) (x * y) := by
  unfold Lim at *
  have := pb (2 ^ 20) (2 ^ 20) (a := x) (c := y) (by simpa using hx) (by simpa using hy)
  simpa using this
theorem p_lim {a b c d : Nat → Int} (m : Nat) (h1 : ∀ j, j < 4 → Lim (2 ^ 20) (a j) ∧ Lim (2 ^ 20) (b j)) (h2 : ∀ j, j < 4 → Lim (2 ^ 20) (c j) ∧ Lim (2 ^ 20) (d j)) : ∀ n : Nat, n ≤ 16 → Lim ((n : Int) * 2 ^ 41) (pR a b c d m n) ∧ Lim ((n : Int) * 2 ^ 41) (pI a b c d m n)
  | 0, _ => by unfold Lim pR pI; omega
  | n + 1, hn => by
    obtain ⟨g1, g2⟩ := p_lim m h1 h2 n (by omega)
    have k1 := m_lim (h1 (n / 4) (by omega)).1 (h2 (n % 4) (by omega)).1
    have k2 := m_lim (h1 (n / 4) (by omega)).2 (h2 (n % 4) (by omega)).2
    have k3 := m_lim (h1 (n / 4) (by omega)).1 (h2 (n % 4) (by omega)).2
    have k4 := m_lim (h1 (n / 4) (by omega)).2 (h2 (n % 4) (by omega)).1
    show Lim _ (pR a b c d m n + _) ∧ Lim _ (pI a b c d m n + _)
    unfold Lim at *
    by_cases e : (n / 4 + n % 4) % 4 = m
    · rw [if_pos e, if_pos e]
      constructor <;> constructor <;> omega
    · rw [if_neg e, if_neg e]
      constructor <;> constructor <;> omega
def SofP (a b c d : Nat → Int) (n : Nat) (r t : Nat → Nat) : Prop := ∀ m, m < 4 → Fl (pR a b c d m n) (r m) ∧ Fl (pI a b c d m n) (t m)
theorem SofP.step {a b c d : Nat → Int} {n x y : Nat} {r t : Nat → Nat} (h : SofP a b c d n r t) (hx : Fl (pR a b c d ((n / 4 + n % 4) % 4) (n + 1)) x) (hy : Fl (pI a b c d ((n / 4 + n % 4) % 4) (n + 1)) y) :
    SofP a b c d (n + 1) (fun m => if m = (n / 4 + n % 4) % 4 then x else r m) (fun m => if m = (n / 4 + n % 4) % 4 then y else t m) := by
  intro m hm
  obtain ⟨h1, h2⟩ := h m hm
  by_cases e : m = (n / 4 + n % 4) % 4
  · subst e; simp only [if_pos rfl]; exact ⟨hx, hy⟩
  · simp only [if_neg e]
    refine ⟨h1.cast ?_, h2.cast ?_⟩
    · show _ = pR a b c d m n + _
      rw [if_neg (fun h => e h.symm)]; omega
    · show _ = pI a b c d m n + _
      rw [if_neg (fun h => e h.symm)]; omega
set_option maxRecDepth 100000 in
set_option maxHeartbeats 8000000 in
theorem product_ok (a b c d : Nat → Int) (w : World) (h1 : allV a b 4 = true) (h2 : allV c d 4 = true) :
    Calls Tryd.prog 15 #[(.agg #[.int .i64 (a 0), .int .i64 (b 0), .int .i64 (a 1), .int .i64 (b 1), .int .i64 (a 2), .int .i64 (b 2), .int .i64 (a 3), .int .i64 (b 3)]), (.agg #[.int .i64 (c 0), .int .i64 (d 0), .int .i64 (c 1), .int .i64 (d 1), .int .i64 (c 2), .int .i64 (d 2), .int .i64 (c 3), .int .i64 (d 3)])] w fun e w' => e = .returned (.tuple #[(.agg #[.int .i64 (prR a b c d 0), .int .i64 (prI a b c d 0), .int .i64 (prR a b c d 1), .int .i64 (prI a b c d 1), .int .i64 (prR a b c d 2), .int .i64 (prI a b c d 2), .int .i64 (prR a b c d 3), .int .i64 (prI a b c d 3)]), .int .i64 0]) ∧ Ext w w' := by
  obtain ⟨hx, hA, hC, hB⟩ := w9 w a b c d
  have cv : Box (∀ w', w'.heap[w.heap.size]? = some (.cells #[.int .i64 (a 0), .int .i64 (b 0), .int .i64 (a 1), .int .i64 (b 1), .int .i64 (a 2), .int .i64 (b 2), .int .i64 (a 3), .int .i64 (b 3)] 29 (0, 0)) → Calls Tryd.prog 36 #[.slice (some ⟨w.heap.size, 0, none⟩) 4 4] w' fun e w'' => e = .returned (.bool true) ∧ Ext w' w'') := ⟨fun w' h => by rw [← h1]; exact valid_4 _ a b w' _ h⟩
  have cv2 : Box (∀ w', w'.heap[w.heap.size + 1]? = some (.cells #[.int .i64 (c 0), .int .i64 (d 0), .int .i64 (c 1), .int .i64 (d 1), .int .i64 (c 2), .int .i64 (d 2), .int .i64 (c 3), .int .i64 (d 3)] 29 (0, 0)) → Calls Tryd.prog 36 #[.slice (some ⟨w.heap.size + 1, 0, none⟩) 4 4] w' fun e w'' => e = .returned (.bool true) ∧ Ext w' w'') := ⟨fun w' h => by rw [← h2]; exact valid_4 _ c d w' _ h⟩
  have co : Box (∀ w', _) := ⟨fun w' => of_4 a b w'⟩
  have co2 : Box (∀ w', _) := ⟨fun w' => of_4 c d w'⟩
  have hF1 := fw_fl h1
  have hF2 := fw_fl h2
  have hl1 : ∀ j, j < 4 → Lim (2 ^ 20) (a j) ∧ Lim (2 ^ 20) (b j) := fun j hj => (hF1 j hj).2
  have hl2 : ∀ j, j < 4 → Lim (2 ^ 20) (c j) ∧ Lim (2 ^ 20) (d j) := fun j hj => (hF2 j hj).2
  have cb : Box (∀ (r t : Nat → Nat) (w' : World), SofP a b c d 16 r t → Calls Tryd.prog 42 #[(.agg #[(.complex .f64 (r 0) (t 0)), (.complex .f64 (r 1) (t 1)), (.complex .f64 (r 2) (t 2)), (.complex .f64 (r 3) (t 3))])] w' fun e w'' => e = .returned (.agg #[.int .i64 (prR a b c d 0), .int .i64 (prI a b c d 0), .int .i64 (prR a b c d 1), .int .i64 (prI a b c d 1), .int .i64 (prR a b c d 2), .int .i64 (prI a b c d 2), .int .i64 (prR a b c d 3), .int .i64 (prI a b c d 3)]) ∧ Ext w' w'') := ⟨fun r t w' h => back_4 (prR a b c d) (prI a b c d) r t h (fun k hk => by
    have := p_lim k hl1 hl2 16 (by omega)
    unfold Lim at this
    unfold prR prI
    omega) w'⟩
  have HF1 : Box (∀ j, j < 4 → Fl (a j) (fw a j) ∧ Fl (b j) (fw b j)) := ⟨fun j hj => (hF1 j hj).1⟩
  have HF2 : Box (∀ j, j < 4 → Fl (c j) (fw c j) ∧ Fl (d j) (fw d j)) := ⟨fun j hj => (hF2 j hj).1⟩
  have HL1 := Box.mk hl1; have HL2 := Box.mk hl2
  generalize fw a = fa at *
  generalize fw b = fb at *
  generalize fw c = fc at *
  generalize fw d = fd at *
  have hi : ∀ (p q : Nat → Nat) (j : Nat) (w : World), j < 4 → (Instr.index 85 (.agg #[(.complex .f64 (p 0) (q 0)), (.complex .f64 (p 1) (q 1)), (.complex .f64 (p 2) (q 2)), (.complex .f64 (p 3) (q 3))]) (.int .i64 (j : Int))).run Tryd.prog w = .ok (.complex .f64 (p j) (q j)) w := by
    intro p q j w hj
    obtain rfl | rfl | rfl | rfl : j = 0 ∨ j = 1 ∨ j = 2 ∨ j = 3 := by omega
    all_goals kernel_rfl
  have HI := Box.mk hi
  have hst : ∀ (a : Addr) (p q : Nat) (m : Mode) (w : World), (store a (.complex .f64 p q) m).run Tryd.prog w = stored Tryd.prog w a (.complex .f64 p q) m := fun a p q m w => run_store Tryd.prog w a _ m rfl
  obtain ⟨⟨m0, m1, m2, m3, m4, m5, m6, m7⟩, -⟩ := cx8 hA
  clear h1 h2 hF1 hF2 hl1 hl2 hi
  have HA := Box.mk hA; have HC := Box.mk hC; have HB := Box.mk hB
  clear hC hB
  go_enter Tryd.func15, Tryd.ntmps15
  go_wp2_with (first
    | (go_at_call 36; (with_reducible refine (cv.out _ hA).mono ?_); rintro e w1 ⟨rfl, hb⟩; have hx := Ext.trans' hx hb; have hA := Ext.blk hb hA; have HC := Box.mk (Ext.blk hb HC.out); have HB := Box.mk (Ext.blk hb HB.out); clear m0 m1 m2 m3 m4 m5 m6 m7)
    | (go_at_call 36; (with_reducible refine (cv2.out _ HC.out).mono ?_); rintro e w1 ⟨rfl, hb⟩; have hx := Ext.trans' hx hb; have hA := Ext.blk hb hA; have HC := Box.mk (Ext.blk hb HC.out); have HB := Box.mk (Ext.blk hb HB.out); have hne := blk_lt HB.out; have hD := Box.mk (newblk w1 (.cells #[.complex .f64 0 0, .complex .f64 0 0, .complex .f64 0 0, .complex .f64 0 0] 85)); have hbD := Ext.alloc (Below.refl w1.heap.size w1) (.cells #[.complex .f64 0 0, .complex .f64 0 0, .complex .f64 0 0, .complex .f64 0 0] 85); have hx := Ext.trans' hx hbD; have hA := Ext.blk hbD hA; have HC := Box.mk (Ext.blk hbD HC.out); have HB := Box.mk (Ext.blk hbD HB.out); obtain ⟨⟨m0, m1, m2, m3, m4, m5, m6, m7⟩, -⟩ := cx8 hA)
    | (go_at_call 44; (with_reducible refine (co.out _).mono ?_); rintro e w4 ⟨rfl, hb⟩; have hx := Ext.trans' hx hb; have HC := Box.mk (Ext.blk hb HC.out); have HB := Box.mk (Ext.blk hb HB.out); have hD := Box.mk (Ext.blk hb hD.out); clear m0 m1 m2 m3 m4 m5 m6 m7))
  have HX := Box.mk hx
  clear hx hA hb hbD cv cv2 co
  generalize w1.heap.size = D at *
  go_loopw [22] (fun i wr => ∃ k : Nat, k ≤ 4 ∧ i = .int .i64 k ∧ ∃ r t : Nat → Nat, Box (SofP a b c d (4 * k) r t) ∧ Box (wr.heap[D]? = some (.cells (Cells4 r t) 85 (0, 0))) ∧ Box (wr.heap[w.heap.size + 1]? = some (.cells #[.int .i64 (c 0), .int .i64 (d 0), .int .i64 (c 1), .int .i64 (d 1), .int .i64 (c 2), .int .i64 (d 2), .int .i64 (c 3), .int .i64 (d 3)] 29 (0, 0))) ∧ Box (wr.heap[w.heap.size + 2]? = some (.cells #[.int .i64 0, .int .i64 0, .int .i64 0, .int .i64 0, .int .i64 0, .int .i64 0, .int .i64 0, .int .i64 0] 29 (0, 0))) ∧ Box (Ext w wr)) (fun i _ => 4 - (intOf i).toNat)
  case atStart => exact ⟨0, by omega, rfl, fun _ => 0, fun _ => 0, ⟨fun m hm => ⟨fl_zero, fl_zero⟩⟩, ⟨hD.out⟩, HC, HB, HX⟩
  case round =>
    obtain ⟨k, hk, rfl, r, t, hSo, hD, hC, hB, hE⟩ := hrel
    by_cases hk4 : k < 4
    · have n1 : (0 : Int) ≤ (k : Int) := by omega
      have n2 : (k : Int) < 4 := by omega
      have n2' : decide ((k : Int) < 4) = true := decide_eq_true n2
      have hik := fun w => HI.out fa fb k w hk4
      obtain ⟨⟨m0, m1, m2, m3, m4, m5, m6, m7⟩, -⟩ := cx8 hC.out
      go_wp2_with (first
        | (go_at_call 44; (with_reducible refine (co2.out _).mono ?_); rintro e w5 ⟨rfl, hb⟩; have hE5 := Box.mk (Ext.trans' hE.out hb); have hC5 := Box.mk (Ext.blk hb hC.out); have hB5 := Box.mk (Ext.blk hb hB.out); have hD5 := Box.mk (Ext.blk hb hD.out); clear hb m0 m1 m2 m3 m4 m5 m6 m7))
      have hSo0 : Box (SofP a b c d (4 * k + 0) r t) := hSo
      go_loopw [28] (fun i wr => ∃ j : Nat, j ≤ 4 ∧ i = .int .i64 j ∧ ∃ r t : Nat → Nat, Box (SofP a b c d (4 * k + j) r t) ∧ Box (wr.heap[D]? = some (.cells (Cells4 r t) 85 (0, 0))) ∧ Box (wr.heap[w.heap.size + 1]? = some (.cells #[.int .i64 (c 0), .int .i64 (d 0), .int .i64 (c 1), .int .i64 (d 1), .int .i64 (c 2), .int .i64 (d 2), .int .i64 (c 3), .int .i64 (d 3)] 29 (0, 0))) ∧ Box (wr.heap[w.heap.size + 2]? = some (.cells #[.int .i64 0, .int .i64 0, .int .i64 0, .int .i64 0, .int .i64 0, .int .i64 0, .int .i64 0, .int .i64 0] 29 (0, 0))) ∧ Box (Ext w wr)) (fun i _ => 4 - (intOf i).toNat)
      case atStart => exact ⟨0, by omega, rfl, r, t, hSo0, hD5, hC5, hB5, hE5⟩
      case round =>
        obtain ⟨j, hj, rfl, r1, t1, hSo1, hD1, hC1, hB1, hE1⟩ := hrel
        by_cases hj4 : j < 4
        · have n3 : (0 : Int) ≤ (j : Int) := by omega
          have n4 : (j : Int) < 4 := by omega
          have n4' : decide ((j : Int) < 4) = true := decide_eq_true n4
          have hij := fun w => HI.out fc fd j w hj4
          have hfa := HF1.out k hk4
          have hfc := HF2.out j hj4
          have hla := HL1.out k hk4
          have hlc := HL2.out j hj4
          have k1 := m_lim hla.1 hlc.1
          have k2 := m_lim hla.2 hlc.2
          have k3 := m_lim hla.1 hlc.2
          have k4 := m_lim hla.2 hlc.1
          have hm : (k + j) % 4 < 4 := Nat.mod_lt _ (by decide)
          obtain ⟨k5, k6⟩ := p_lim ((k + j) % 4) HL1.out HL2.out (4 * k + j) (by omega)
          unfold Lim at k1 k2 k3 k4 k5 k6
          obtain ⟨u, v, mm, fu, fv⟩ := cmul_fl hfa.1 hfa.2 hfc.1 hfc.2 (by omega) (by omega) (by omega) (by omega)
          have hS := hSo1.out ((k + j) % 4) hm
          obtain ⟨x, y, nn, fx, fy⟩ := csum_fl hS.1 hS.2 fu fv (by omega) (by omega)
          have e1 : (4 * k + j) / 4 = k := by omega
          have e2 : (4 * k + j) % 4 = j := by omega
          have hst2 : Box (SofP a b c d (4 * k + (j + 1)) (fun m => if m = (k + j) % 4 then x else r1 m) (fun m => if m = (k + j) % 4 then y else t1 m)) := ⟨by
            have := SofP.step hSo1.out (x := x) (y := y) (by
              rw [e1, e2]
              show Fl (pR a b c d ((k + j) % 4) (4 * k + j) + (if ((4 * k + j) / 4 + (4 * k + j) % 4) % 4 = (k + j) % 4 then _ else _)) x
              rw [e1, e2, if_pos rfl]; exact fx) (by
              rw [e1, e2]
              show Fl (pI a b c d ((k + j) % 4) (4 * k + j) + (if ((4 * k + j) / 4 + (4 * k + j) % 4) % 4 = (k + j) % 4 then _ else _)) y
              rw [e1, e2, if_pos rfl]; exact fy)
            rw [e1, e2] at this
            exact this⟩
          have q1 : IntKind.i64.wrap ((k : Int) + (j : Int)) = (k : Int) + (j : Int) := by rw [IntKind.wrap_i64]; omega
          have q2 : ((k : Int) + (j : Int)).tmod 4 = (((k + j) % 4 : Nat) : Int) := by rw [Int.tmod_eq_emod_of_nonneg (by omega)]; omega
          have q3 : IntKind.i64.wrap (((k + j) % 4 : Nat) : Int) = (((k + j) % 4 : Nat) : Int) := by rw [IntKind.wrap_i64]; omega
          have hset := Box.mk (cells4_set r1 t1 ((k + j) % 4) x y hm)
          have hck : wr.cell? ⟨D, (k + j) % 4, none⟩ = some (.complex .f64 (r1 ((k + j) % 4)) (t1 ((k + j) % 4))) := by rw [Lib.cell_of_heap hD1.out]; exact cells4_at r1 t1 _ hm
          have hfz : wr.frozen? ⟨D, (k + j) % 4, none⟩ = false := Lib.frozen_of_heap hD1.out _
          clear hfa hfc hla hlc k1 k2 k3 k4 k5 k6 fu fv hS fx fy e1 e2
          generalize (k + j) % 4 = q at *
          generalize r1 q = rq at *
          generalize t1 q = tq at *
          have n5 : (0 : Int) ≤ (q : Int) := by omega
          have n6 : (q : Int) < 4 := by omega
          go_wp2
          go_roundw
          case rel =>
            refine ⟨j + 1, by omega, by go_num, _, _, hst2, ⟨?_⟩, ⟨?_⟩, ⟨?_⟩, ⟨?_⟩⟩
            · rw [← hset.out]
              exact heap_setCell_same _ D q _ _ _ hD1.out
            · exact (heap_setCell_other _ _ _ _ (by show w.heap.size + 1 ≠ D; omega)).trans hC1.out
            · exact (heap_setCell_other _ _ _ _ (by show w.heap.size + 2 ≠ D; omega)).trans hB1.out
            · exact Ext.set hE1.out (by omega) _ _
          case measure => simp [intOf]; omega
        · obtain rfl : j = 4 := by omega
          have hSo4 : Box (SofP a b c d (4 * (k + 1)) r1 t1) := ⟨hSo1.out⟩
          go_wp2
          go_roundw
          case rel => exact ⟨k + 1, by omega, by go_num, r1, t1, hSo4, hD1, hC1, hB1, hE1⟩
          case measure => simp [intOf]; omega
    · obtain rfl : k = 4 := by omega
      obtain ⟨⟨m0, m1, m2, m3⟩, -⟩ := cx4 (show wr.heap[D]? = some (.cells #[(.complex .f64 (r 0) (t 0)), (.complex .f64 (r 1) (t 1)), (.complex .f64 (r 2) (t 2)), (.complex .f64 (r 3) (t 3))] 85 (0, 0)) from hD.out)
      have hE9 := hE.out
      have hB9 := hB.out
      go_wp2_with (first
        | (go_at_call 42; (with_reducible refine (cb.out _ _ _ hSo.out).mono ?_); rintro e w5 ⟨rfl, hb⟩; have hE9 := Ext.trans' hE9 hb; have hB9 := Ext.blk hb hB9; obtain ⟨⟨o0, o1, o2, o3, o4, o5, o6, o7⟩, z0, z1, z2, z3, z4, z5, z6, z7⟩ := cx8 hB9))
      refine bodyPost_ret (v := .tuple #[(.agg #[.int .i64 (prR a b c d 0), .int .i64 (prI a b c d 0), .int .i64 (prR a b c d 1), .int .i64 (prI a b c d 1), .int .i64 (prR a b c d 2), .int .i64 (prI a b c d 2), .int .i64 (prR a b c d 3), .int .i64 (prI a b c d 3)]), .int .i64 0]) ?_ rfl ⟨rfl, Ext.st8 hE9 (by omega) _ _ _ _ _ _ _ _⟩
      simp [results, Tryd.results15, go_sem, o0, o1, o2, o3, o4, o5, o6, o7]
end Go.Proofs.YtbnmnkmjokcmfaaDoor
