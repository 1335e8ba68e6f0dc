import Derived.Test.YtbnmnkmjokcmfaaDoorS7
/- season: Best, Share, Merge. -/
namespace Go.Proofs.YtbnmnkmjokcmfaaDoor
open Go.RowKit
def sm (m : Nat → Int) : Int := m 0 + m 1 + m 2 + m 3
/-- the first greatest count of the first k -/
def bst (m : Nat → Int) : Nat → Nat
  | 0 => 0
  | k + 1 => if m (bst m k) < m k then k else bst m k
theorem bst_lt (m : Nat → Int) : ∀ k, k ≤ 4 → bst m k < 4
  | 0, _ => by unfold bst; omega
  | k + 1, h => by
    have := bst_lt m k (by omega)
    unfold bst
    split <;> omega
theorem bst_ge (m : Nat → Int) : ∀ k, ∀ j, j < k → m j ≤ m (bst m k)
  | 0, j, h => by omega
  | k + 1, j, h => by
    have h1 := bst_ge m k
    unfold bst
    split
    · rename_i hlt
      by_cases e : j = k
      · subst e; exact Int.le_refl _
      · have := h1 j (by omega); omega
    · rename_i hlt
      by_cases e : j = k
      · subst e; omega
      · exact h1 j (by omega)
theorem bst_first (m : Nat → Int) : ∀ k, ∀ j, j < bst m k → m j < m (bst m k)
  | 0, j, h => by unfold bst at h; omega
  | k + 1, j, h => by
    have h1 := bst_first m k
    have h2 := bst_ge m k
    unfold bst at h ⊢
    split
    · rename_i hlt
      rw [if_pos hlt] at h
      have := h2 j h
      omega
    · rename_i hlt
      rw [if_neg hlt] at h
      exact h1 j h
set_option maxHeartbeats 2000000 in
theorem best_none (w : World) (C W : Nat) (m : Nat → Int) (h : Ctr w C W m) (hs : sm m = 0) : Calls Tryd.prog 31 #[.pointer (some ⟨C, 0, none⟩)] w fun e w' => e = .returned (.tuple #[.int .i64 0, .int .i64 9]) ∧ Ext w w' := by
  have cn := Box.mk (cnone_ok w C W m h)
  have cs : Box (Calls Tryd.prog 49 #[.pointer (some ⟨C, 0, none⟩)] w fun e w' => e = .returned (.int .i64 (sm m)) ∧ Ext w w') := ⟨sum_any w C W m h⟩
  rw [hs] at cs
  have hx : Ext w w := Below.refl _ _
  clear h
  go_enter Tryd.func31, Tryd.ntmps31
  go_wp2_with (first
    | (go_at_call 47; (with_reducible refine (cn.out).mono ?_); rintro e w' ⟨rfl, rfl⟩)
    | (go_at_call 49; (with_reducible refine (cs.out).mono ?_); rintro e w1 ⟨rfl, hb⟩; have hx := Ext.trans' hx hb))
  go_ret2
  exact ⟨rfl, hx⟩
set_option maxRecDepth 100000 in
set_option maxHeartbeats 4000000 in
theorem best_any (w : World) (C W : Nat) (m : Nat → Int) (h : Ctr w C W m) (hs : sm m ≠ 0) : Calls Tryd.prog 31 #[.pointer (some ⟨C, 0, none⟩)] w fun e w' => e = .returned (.tuple #[.int .i64 (bst m 4 : Nat), .int .i64 0]) ∧ Ext w w' := by
  have cn := Box.mk (cnone_ok w C W m h)
  have cs : Box (Calls Tryd.prog 49 #[.pointer (some ⟨C, 0, none⟩)] w fun e w' => e = .returned (.int .i64 (sm m)) ∧ Ext w w') := ⟨sum_any w C W m h⟩
  have e0 : (sm m == 0) = false := by rw [beq_eq_false_iff_ne]; exact hs
  have hx : Ext w w := Below.refl _ _
  have hi : ∀ (j : Nat) (w : World), j < 4 → (Instr.index 50 (.agg #[.int .i64 (m 0), .int .i64 (m 1), .int .i64 (m 2), .int .i64 (m 3)]) (.int .i64 (j : Int))).run Tryd.prog w = .ok (.int .i64 (m j)) w := by
    intro j w hj
    obtain rfl | rfl | rfl | rfl : j = 0 ∨ j = 1 ∨ j = 2 ∨ j = 3 := by omega
    all_goals kernel_rfl
  have HI := Box.mk hi
  have H := Box.mk h
  clear h hi hs
  generalize sm m = s at *
  go_enter Tryd.func31, Tryd.ntmps31
  go_wp2_with (first
    | (go_at_call 47; (with_reducible refine (cn.out).mono ?_); rintro e w' ⟨rfl, rfl⟩)
    | (go_at_call 49; (with_reducible refine cs.out.mono ?_); rintro e w1 ⟨rfl, hb⟩; have hx := Ext.trans' hx hb; obtain ⟨⟨c0, c1, c2, c3, c4⟩, _⟩ := (H.out.ext hx).cells))
  have H1 := Box.mk (H.out.ext hx)
  clear c0 c1 c2 c3 c4
  go_loopw [4, 18] (fun bv i wr => ∃ k : Nat, k ≤ 4 ∧ i = .int .i64 k ∧ bv = .int .i64 (bst m k : Nat) ∧ wr = w1) (fun _ i _ => 4 - (intOf i).toNat)
  case atStart => exact ⟨0, by omega, rfl, rfl, rfl⟩
  case round =>
    obtain ⟨k, hk, rfl, rfl, rfl⟩ := hrel
    by_cases hk4 : k < 4
    · have hik := fun w => HI.out k w hk4
      have n1 : (0 : Int) ≤ (k : Int) := by omega
      have n2 : (k : Int) < 4 := by omega
      have n2' : decide ((k : Int) < 4) = true := decide_eq_true n2
      have hb4 := bst_lt m k hk
      have c0 := (H1.out.at _ hb4).1
      have hnx : Box (bst m (k + 1) = if m (bst m k) < m k then k else bst m k) := ⟨rfl⟩
      generalize bst m k = b at *
      generalize m b = x at *
      generalize m k = y at *
      have n3 : (0 : Int) ≤ (b : Int) := by omega
      have n4 : (b : Int) < 4 := by omega
      by_cases hlt : x < y
      · have d1 : decide (x < y) = true := decide_eq_true hlt
        have hnx2 : Box (bst m (k + 1) = k) := ⟨by rw [hnx.out, if_pos hlt]⟩
        clear hlt
        go_wp2
        go_roundw
        case rel => exact ⟨k + 1, by omega, by go_num, by rw [hnx2.out], by first | rfl | trivial⟩
        case measure => simp [intOf]; omega
      · have d1 : decide (x < y) = false := decide_eq_false hlt
        have hnx2 : Box (bst m (k + 1) = b) := ⟨by rw [hnx.out, if_neg hlt]⟩
        clear hlt
        go_wp2
        go_roundw
        case rel => exact ⟨k + 1, by omega, by go_num, by rw [hnx2.out], by first | rfl | trivial⟩
        case measure => simp [intOf]; omega
    · obtain rfl : k = 4 := by omega
      go_wp2
      go_ret2
      exact ⟨rfl, hx⟩
set_option maxHeartbeats 2000000 in
theorem share_none (w : World) (C W now : Nat) (m : Nat → Int) (h : Ctr w C W m) (hs : sm m = 0) : Calls Tryd.prog 32 #[.pointer (some ⟨C, 0, none⟩), .int .u64 now] w fun e w' => e = .returned (.tuple #[.int .i64 0, .int .i64 0, .int .i64 9]) ∧ Ext w w' := by
  have cn := Box.mk (cnone_ok w C W m h)
  have cs : Box (Calls Tryd.prog 49 #[.pointer (some ⟨C, 0, none⟩)] w fun e w' => e = .returned (.int .i64 (sm m)) ∧ Ext w w') := ⟨sum_any w C W m h⟩
  rw [hs] at cs
  have hx : Ext w w := Below.refl _ _
  clear h
  go_enter Tryd.func32, Tryd.ntmps32
  go_wp2_with (first
    | (go_at_call 47; (with_reducible refine (cn.out).mono ?_); rintro e w' ⟨rfl, rfl⟩)
    | (go_at_call 49; (with_reducible refine (cs.out).mono ?_); rintro e w1 ⟨rfl, hb⟩; have hx := Ext.trans' hx hb))
  go_ret3
  exact ⟨rfl, hx⟩
set_option maxRecDepth 100000 in
set_option maxHeartbeats 4000000 in
theorem share_any (w : World) (C W now s n : Nat) (m : Nat → Int) (h : Ctr w C W m) (hn : now < 18446744073709551616) (hs : sm m = s) (h0 : 0 < s) (hm : m (now / W % 4) = n) :
    Calls Tryd.prog 32 #[.pointer (some ⟨C, 0, none⟩), .int .u64 now] w fun e w' => e = .returned (.tuple #[.int .i64 (n / Nat.gcd s n : Nat), .int .i64 (s / Nat.gcd s n : Nat), .int .i64 0]) ∧ Ext w w' := by
  have cn := Box.mk (cnone_ok w C W m h)
  have cs : Box (∀ w', Ext w w' → Calls Tryd.prog 49 #[.pointer (some ⟨C, 0, none⟩)] w' fun e w'' => e = .returned (.int .i64 s) ∧ Ext w' w'') := ⟨fun w' hx => by rw [← hs]; exact sum_any w' C W m (h.ext hx)⟩
  have hq4 : now / W % 4 < 4 := Nat.mod_lt _ (by decide)
  have cq : Box (∀ w', Ext w w' → _) := ⟨fun w' hx => quarter_any w' C W now m (h.ext hx) hn⟩
  have hc : Box (∀ w', Ext w w' → w'.cell? ⟨C, 1 + now / W % 4, none⟩ = some (.int .i64 n)) := ⟨fun w' hx => by rw [← hm]; exact ((h.ext hx).at _ hq4).1⟩
  have hsl : s ≤ 4194304 := by
    have := h.lim 0 (by omega); have := h.lim 1 (by omega); have := h.lim 2 (by omega); have := h.lim 3 (by omega)
    unfold sm at hs; omega
  have hnl : n ≤ 1048576 := by have := h.lim _ hq4; omega
  have e0 : ((s : Int) == 0) = false := by rw [beq_eq_false_iff_ne]; omega
  have hx : Ext w w := Below.refl _ _
  obtain ⟨g, hg⟩ : ∃ g, g = Nat.gcd s n := ⟨_, rfl⟩
  have HG := Box.mk hg
  have hgp : 0 < g := by rw [hg]; exact Nat.gcd_pos_of_pos_left _ h0
  have hx0 := hc.out w hx
  rw [← hg]
  clear hs hm h hg
  generalize now / W % 4 = q at *
  have n1 : (0 : Int) ≤ (q : Int) := by omega
  have n2 : (q : Int) < 4 := by omega
  go_enter Tryd.func32, Tryd.ntmps32
  go_wp2_with (first
    | (go_at_call 47; (with_reducible refine (cn.out).mono ?_); rintro e w' ⟨rfl, rfl⟩)
    | (go_at_call 49; (with_reducible refine (cs.out _ hx).mono ?_); rintro e w1 ⟨rfl, hb⟩; have hx := Ext.trans' hx hb))
  have hx := Ext.drew1 hx
  have c0 := hc.out _ hx
  go_region_held3 (fun w' => w'.cell? ⟨C, 1 + q, none⟩ = some (.int .i64 n))
    (exact c0)
    (first
      | (go_at_call 48; (with_reducible refine (cq.out _ hx).mono ?_); rintro e w1 ⟨rfl, hb⟩; have hx := Ext.trans' hx hb; have c0 := hc.out _ hx)
      | (go_at_call 49; (with_reducible refine (cs.out _ hx).mono ?_); rintro e w1 ⟨rfl, hb⟩; have hx := Ext.trans' hx hb; have c0 := hc.out _ hx))
  go_wp2
  have HX := Box.mk hx
  clear hx
  go_loopw [7, 8] (fun av bv wr => ∃ a b : Nat, av = .int .i64 a ∧ bv = .int .i64 b ∧ 0 < a ∧ a ≤ 4194304 ∧ b ≤ 4194304 ∧ Nat.gcd a b = g ∧ Box (Ext w wr)) (fun _ bv _ => (intOf bv).toNat)
  case atStart => exact ⟨s, n, rfl, rfl, h0, hsl, by omega, HG.out.symm, HX⟩
  case round =>
    obtain ⟨a, b, rfl, rfl, ha, ha2, hb2, hgg, hE⟩ := hrel
    by_cases hb0 : 0 < b
    · have d1 : decide ((0 : Int) < (b : Int)) = true := decide_eq_true (by omega)
      have d2 : decide (0 < b) = true := decide_eq_true hb0
      have f0 : ¬ b = 0 := by omega
      have f1 : ((b : Int) == 0) = false := by rw [beq_eq_false_iff_ne]; omega
      have t1 : (a : Int).tmod (b : Int) = ((a % b : Nat) : Int) := rfl
      have t2 : (a : Int) % (b : Int) = ((a % b : Nat) : Int) := (Int.natCast_emod _ _).symm
      have hlt := Nat.mod_lt a hb0
      have hg2 : Box (Nat.gcd b (a % b) = g) := ⟨by rw [← hgg, Nat.gcd_comm a b, Nat.gcd_rec b a, Nat.gcd_comm]⟩
      have q1 : IntKind.i64.wrap ((a % b : Nat) : Int) = ((a % b : Nat) : Int) := by rw [IntKind.wrap_i64]; omega
      clear hgg
      generalize a % b = r at *
      go_wp2
      go_region
      all_goals
        go_wp2
        go_roundw
        case rel => exact ⟨b, r, by go_num, by go_num, hb0, hb2, by omega, hg2.out, ⟨Ext.drew1 hE.out⟩⟩
        case measure => simp [intOf]; omega
    · obtain rfl : b = 0 := by omega
      have hag : a = g := by rw [← hgg]; exact (Nat.gcd_zero_right a).symm
      subst hag
      have d1 : decide ((0 : Int) < ((0 : Nat) : Int)) = false := rfl
      have f0 : ¬ a = 0 := by omega
      have f1 : ((a : Int) == 0) = false := by rw [beq_eq_false_iff_ne]; omega
      have t1 : (n : Int).tdiv (a : Int) = ((n / a : Nat) : Int) := rfl
      have t2 : (n : Int) / (a : Int) = ((n / a : Nat) : Int) := (Int.natCast_ediv _ _).symm
      have t3 : (s : Int).tdiv (a : Int) = ((s / a : Nat) : Int) := rfl
      have t4 : (s : Int) / (a : Int) = ((s / a : Nat) : Int) := (Int.natCast_ediv _ _).symm
      have l1 := Nat.div_le_self n a
      have l2 := Nat.div_le_self s a
      generalize hr1 : n / a = r1 at *
      generalize hr2 : s / a = r2 at *
      have HR1 := Box.mk hr1
      have HR2 := Box.mk hr2
      clear hr1 hr2
      have q1 : IntKind.i64.wrap (r1 : Int) = (r1 : Int) := by rw [IntKind.wrap_i64]; omega
      have q2 : IntKind.i64.wrap (r2 : Int) = (r2 : Int) := by rw [IntKind.wrap_i64]; omega
      have q3 : wrap64 (r1 : Int) = (r1 : Int) := by unfold wrap64; omega
      have q4 : wrap64 (r2 : Int) = (r2 : Int) := by unfold wrap64; omega
      go_wp2
      go_region
      all_goals
        go_wp2
        go_ret3
        exact ⟨by rw [HR1.out, HR2.out]; rfl, Ext.drew1 hE.out⟩
/-- what Merge makes of the counts -/
def mg (m n : Nat → Int) (k j : Nat) : Int := if j < k then m j + n j else m j
def Cells4i (m : Nat → Int) : Array Value := #[.int .i64 (m 0), .int .i64 (m 1), .int .i64 (m 2), .int .i64 (m 3)]
theorem cells4i_set (m : Nat → Int) (k : Nat) (x : Int) (hk : k < 4) : (Cells4i m).setIfInBounds k (.int .i64 x) = Cells4i (upd m k x) := by
  obtain rfl | rfl | rfl | rfl : k = 0 ∨ k = 1 ∨ k = 2 ∨ k = 3 := by omega
  all_goals rfl
theorem cells4i_eq {a b : Nat → Int} (h : ∀ j, j < 4 → a j = b j) : Cells4i a = Cells4i b := by
  unfold Cells4i
  rw [h 0 (by omega), h 1 (by omega), h 2 (by omega), h 3 (by omega)]
theorem mg_step (m n : Nat → Int) (k : Nat) (hk : k < 4) : Cells4i (mg m n (k + 1)) = (Cells4i (mg m n k)).setIfInBounds k (.int .i64 (m k + n k)) := by
  rw [cells4i_set _ _ _ hk]
  refine cells4i_eq fun j hj => ?_
  unfold mg upd
  by_cases h : j = k
  · subst h; simp
  · by_cases h2 : j < k
    · simp [h, h2, show j < k + 1 by omega]
    · simp [h, h2, show ¬ j < k + 1 by omega]
theorem cells4i_at {w : World} {S : Nat} {T : TypeId} {m : Nat → Int} (h : w.heap[S]? = some (.cells (Cells4i m) T (0, 0))) (k : Nat) (hk : k < 4) : w.cell? ⟨S, k, none⟩ = some (.int .i64 (m k)) ∧ w.frozen? ⟨S, k, none⟩ = false := by
  refine ⟨?_, Lib.frozen_of_heap h k⟩
  rw [Lib.cell_of_heap h]
  obtain rfl | rfl | rfl | rfl : k = 0 ∨ k = 1 ∨ k = 2 ∨ k = 3 := by omega
  all_goals rfl
def plus4 (m n : Nat → Int) (j : Nat) : Int := m j + n j
theorem ctC_set4 (W : Nat) (m : Nat → Int) (a b c d : Value) : ((((ctC W m).setIfInBounds 1 a).setIfInBounds 2 b).setIfInBounds 3 c).setIfInBounds 4 d = #[.int .u64 W, a, b, c, d] := rfl
set_option maxHeartbeats 2000000 in
theorem merge_width (w : World) (C D W V : Nat) (m n : Nat → Int) (h : Ctr w C W m) (h2 : Ctr w D V n) (hne : W ≠ V) : Calls Tryd.prog 26 #[.pointer (some ⟨C, 0, none⟩), .pointer (some ⟨D, 0, none⟩)] w fun e w' => e = .returned (.int .i64 2) ∧ Ext w w' := by
  have cn := Box.mk (cnone_ok w C W m h)
  have cd := Box.mk (cnone_ok w D V n h2)
  obtain ⟨⟨c0, _⟩, _⟩ := h.cells
  obtain ⟨⟨d0, _⟩, _⟩ := h2.cells
  have e0 : ((W : Int) == (V : Int)) = false := by rw [beq_eq_false_iff_ne]; omega
  have e1 : ((W : Int) != (V : Int)) = true := by rw [bne_iff_ne]; omega
  clear h h2
  go_enter Tryd.func26, Tryd.ntmps26
  go_wp2_with (first
    | (go_at_call 47; (with_reducible refine (cn.out).mono ?_); rintro e w' ⟨rfl, rfl⟩)
    | (go_at_call 47; (with_reducible refine (cd.out).mono ?_); rintro e w' ⟨rfl, rfl⟩))
  go_region
  all_goals
    go_wp2
    go_ret
    exact ⟨rfl, Ext.drew1 (Below.refl _ _)⟩
def MPost (w : World) (C W : Nat) (m n : Nat → Int) (e : Ending) (w' : World) : Prop :=
  ((∀ j, j < 4 → m j + n j ≤ 1048576) → e = .returned (.int .i64 0) ∧ Ctr w' C W (plus4 m n) ∧ Tch C w w') ∧ (¬ (∀ j, j < 4 → m j + n j ≤ 1048576) → e = .returned (.int .i64 7) ∧ Ext w w')
set_option maxRecDepth 100000 in
set_option maxHeartbeats 4000000 in
theorem merge_any (w : World) (C D W : Nat) (m n : Nat → Int) (h : Ctr w C W m) (h2 : Ctr w D W n) : Calls Tryd.prog 26 #[.pointer (some ⟨C, 0, none⟩), .pointer (some ⟨D, 0, none⟩)] w (MPost w C W m n) := by
  have cn := Box.mk (cnone_ok w C W m h)
  have cd := Box.mk (cnone_ok w D W n h2)
  obtain ⟨⟨c0, c1, c2, c3, c4⟩, _⟩ := h.cells
  obtain ⟨⟨d0, d1, d2, d3, d4⟩, _⟩ := h2.cells
  have hi : ∀ (j : Nat) (w : World), j < 4 → (Instr.index 50 (.agg #[.int .i64 (n 0), .int .i64 (n 1), .int .i64 (n 2), .int .i64 (n 3)]) (.int .i64 (j : Int))).run Tryd.prog w = .ok (.int .i64 (n j)) w := by
    intro j w hj
    obtain rfl | rfl | rfl | rfl : j = 0 ∨ j = 1 ∨ j = 2 ∨ j = 3 := by omega
    all_goals kernel_rfl
  have HI := Box.mk hi
  have H := Box.mk h; have H2 := Box.mk h2
  have hlt := blk_lt h.hd
  have hltD := blk_lt h2.hd
  obtain ⟨Post, hPost⟩ : ∃ P, P = MPost w C W m n := ⟨_, rfl⟩
  rw [← hPost]
  have HP := Box.mk hPost
  clear h h2 hi hPost
  go_enter Tryd.func26, Tryd.ntmps26
  go_wp2_with (first
    | (go_at_call 47; (with_reducible refine (cn.out).mono ?_); rintro e w' ⟨rfl, rfl⟩)
    | (go_at_call 47; (with_reducible refine (cd.out).mono ?_); rintro e w' ⟨rfl, rfl⟩))
  go_region
  all_goals
    go_wp2
    have hA : Box ((w.drew.alloc (.cells (Cells4i (mg m n 0)) 50)).heap[w.heap.size]? = some (.cells (Cells4i (mg m n 0)) 50 (0, 0))) := ⟨newblk w.drew _⟩
    have hE : Box (Ext w (w.drew.alloc (.cells (Cells4i (mg m n 0)) 50))) := ⟨Ext.alloc (Ext.drew1 (Below.refl _ _)) _⟩
    go_loopw [33] (fun i wr => ∃ k : Nat, k ≤ 4 ∧ i = .int .i64 k ∧ Box (∀ j, j < k → m j + n j ≤ 1048576) ∧ Box (wr.heap[w.heap.size]? = some (.cells (Cells4i (mg m n k)) 50 (0, 0))) ∧ Box (Ext w wr)) (fun i _ => 4 - (intOf i).toNat)
    case atStart => exact ⟨0, by omega, rfl, ⟨fun j hj => by omega⟩, hA, hE⟩
    case round =>
      obtain ⟨k, hk, rfl, hle, hA, hE⟩ := hrel
      by_cases hk4 : k < 4
      · have hik := fun w => HI.out k w hk4
        have n1 : (0 : Int) ≤ (k : Int) := by omega
        have n2 : (k : Int) < 4 := by omega
        have n2' : decide ((k : Int) < 4) = true := decide_eq_true n2
        obtain ⟨a0, f0⟩ := cells4i_at hA.out k hk4
        have hmk : mg m n k k = m k := by unfold mg; rw [if_neg (by omega)]
        rw [hmk] at a0
        have hl1 := H.out.lim k hk4
        have hl2 := H2.out.lim k hk4
        have hst := Box.mk (mg_step m n k hk4)
        have q1 : IntKind.i64.wrap (m k + n k) = m k + n k := by rw [IntKind.wrap_i64]; omega
        have hA2 : Box ((wr.setCell ⟨w.heap.size, k, none⟩ (.int .i64 (m k + n k))).heap[w.heap.size]? = some (.cells (Cells4i (mg m n (k + 1))) 50 (0, 0))) := ⟨by rw [hst.out]; exact heap_setCell_same _ w.heap.size k _ _ _ hA.out⟩
        have hE2 : Box (Ext w (wr.setCell ⟨w.heap.size, k, none⟩ (.int .i64 (m k + n k)))) := ⟨Ext.set hE.out (Nat.le_refl _) _ _⟩
        by_cases hok : m k + n k ≤ 1048576
        · have d1 : decide (1048576 < m k + n k) = false := decide_eq_false (by omega)
          have hle2 : Box (∀ j, j < k + 1 → m j + n j ≤ 1048576) := ⟨fun j hj => by
            by_cases e : j = k
            · subst e; exact hok
            · exact hle.out j (by omega)⟩
          clear hok hmk
          generalize m k = x at *
          generalize n k = y at *
          go_wp2
          go_roundw
          case rel => exact ⟨k + 1, by omega, by go_num, hle2, hA2, hE2⟩
          case measure => simp [intOf]; omega
        · have d1 : decide (1048576 < m k + n k) = true := decide_eq_true (by omega)
          have hno : Box (¬ (∀ j, j < 4 → m j + n j ≤ 1048576)) := ⟨fun h => hok (h k hk4)⟩
          clear hok hmk
          generalize m k = x at *
          generalize n k = y at *
          go_wp2
          rw [HP.out]
          exact ⟨fun h => absurd h hno.out, fun _ => ⟨rfl, hE2.out⟩⟩
      · obtain rfl : k = 4 := by omega
        obtain ⟨b0, _⟩ := cells4i_at hA.out 0 (by omega)
        obtain ⟨b1, _⟩ := cells4i_at hA.out 1 (by omega)
        obtain ⟨b2, _⟩ := cells4i_at hA.out 2 (by omega)
        obtain ⟨b3, _⟩ := cells4i_at hA.out 3 (by omega)
        have hg : ∀ j, j < 4 → mg m n 4 j = m j + n j := fun j hj => by unfold mg; rw [if_pos hj]
        rw [hg 0 (by omega)] at b0
        rw [hg 1 (by omega)] at b1
        rw [hg 2 (by omega)] at b2
        rw [hg 3 (by omega)] at b3
        have hH := Box.mk (H.out.ext hE.out)
        obtain ⟨⟨c0, c1, c2, c3, c4⟩, f1, f2, f3, f4⟩ := hH.out.cells
        have hfin : Box (Ctr ((((wr.setCell ⟨C, 1, none⟩ (.int .i64 (m 0 + n 0))).setCell ⟨C, 2, none⟩ (.int .i64 (m 1 + n 1))).setCell ⟨C, 3, none⟩ (.int .i64 (m 2 + n 2))).setCell ⟨C, 4, none⟩ (.int .i64 (m 3 + n 3))) C W (plus4 m n)) := ⟨⟨by
          rw [heap_setCell_same _ C 4 _ _ _ (heap_setCell_same _ C 3 _ _ _ (heap_setCell_same _ C 2 _ _ _ (heap_setCell_same _ C 1 _ _ _ hH.out.hd))), ctC_set4]
          rfl, H.out.w1, H.out.w2, fun j hj => by have := hle.out j hj; have := H.out.lim j hj; have := H2.out.lim j hj; unfold plus4; omega⟩⟩
        have htch : Box (Tch C w ((((wr.setCell ⟨C, 1, none⟩ (.int .i64 (m 0 + n 0))).setCell ⟨C, 2, none⟩ (.int .i64 (m 1 + n 1))).setCell ⟨C, 3, none⟩ (.int .i64 (m 2 + n 2))).setCell ⟨C, 4, none⟩ (.int .i64 (m 3 + n 3)))) := ⟨(Tch.of_ext hE.out).trans ((Tch.put _ 1 _).trans ((Tch.put _ 2 _).trans ((Tch.put _ 3 _).trans (Tch.put _ 4 _))))⟩
        have hyes : Box (∀ j, j < 4 → m j + n j ≤ 1048576) := hle
        clear hg
        generalize m 0 + n 0 = x0 at *
        generalize m 1 + n 1 = x1 at *
        generalize m 2 + n 2 = x2 at *
        generalize m 3 + n 3 = x3 at *
        go_wp2
        rw [HP.out]
        exact ⟨fun _ => ⟨rfl, hfin.out, htch.out⟩, fun h => absurd hyes.out h⟩
end Go.Proofs.YtbnmnkmjokcmfaaDoor
