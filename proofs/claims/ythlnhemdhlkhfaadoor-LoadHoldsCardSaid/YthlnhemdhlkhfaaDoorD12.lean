import Derived.Test.YthlnhemdhlkhfaaDoorD11
/- The texts of workloads. -/
namespace Go.Proofs.YthlnhemdhlkhfaaDoor
open Go.RowKit

/-- The text of a workload. -/
def textB (k a r p s : Nat) : ByteArray :=
  wordB k ++ ⟨#[32, 107, 101, 121, 115, 61]⟩ ++ digs a ++ ⟨#[32, 114, 101, 113, 117, 101, 115, 116, 115, 61]⟩ ++ digs r ++ ⟨#[32, 112, 97, 114, 116, 61]⟩ ++ digs p ++ ⟨#[32, 115, 101, 101, 100, 61]⟩ ++ digs s
/-- A load under a name of its own: the walk of a drawn region is not to take it first. -/
def ldOp : Op := Op.load 9 (Operand.tmp 11)
def ldOp2 : Op := Op.load 9 (Operand.tmp 6)
theorem ditoa_any (n : Nat) (h : n ≤ 1000000) (w : World) (ht : Tabs w) : Calls Tryd.prog 30 #[.int .i64 n] w fun e w' => e = .returned (.string (digs n)) ∧ Ext w w' := by
  refine (Tryd.strconv_Itoa n (by omega) (by omega) w ht).mono ?_
  rintro e w' ⟨rfl, k, os, rfl⟩
  refine ⟨?_, Lib.below_grow _ _ (Nat.le_refl _) _ _⟩
  first
    | rfl
    | (congr 2; unfold digs; congr 1; unfold Lib.itoa; rw [if_neg (by omega)]; rfl)
    | (congr 2; unfold digs Lib.itoa; simp)
set_option maxRecDepth 100000 in
set_option maxHeartbeats 4000000 in
theorem gtext_any {k a r p s : Nat} (V : Vld k a r p s) (w : World) (ht : Tabs w) : Calls Tryd.prog 19 #[(.agg #[.int .i64 (k), .int .i64 (a), .int .i64 (r), .int .i64 (p), .int .u64 (s)])] w fun e w' => e = .returned (.tuple #[.string (textB k a r p s), .int .i64 0]) ∧ Ext w w' := by
  have hT : Box (∀ w', Ext w w' → Tabs w') := ⟨fun w' hb => Tabs.ext ht hb⟩
  have h1 := V.s64; have h2 := V.a1; have h3 := V.a2; have h4 := V.r2
  have hk6 : k ≤ 6 := by rcases V.k6 with h | h | h | h | h | h <;> omega
  have hp6 : p ≤ 4096 := by rcases V.k6 with h | h | h | h | h | h <;> omega
  have cv : Box _ := ⟨fun w => gvalid_any k a r p s w⟩
  rw [vld_of V] at cv
  have cn : Box (∀ w1, Calls Tryd.prog 29 #[] (World.drew w1) fun e w' => e = .returned (.slice (some ⟨w1.heap.size, 0, none⟩) 7 7) ∧ w'.cell? ⟨w1.heap.size, k, none⟩ = some (.string (wordB k)) ∧ Ext w1 w') := ⟨fun w1 => (names_at k hk6 w1.drew).mono fun e w' h => ⟨h.1, h.2.1, Ext.trans' (Ext.drewN (Below.refl _ _) 1) h.2.2⟩⟩
  have c1 : Box (∀ w1, Ext w w1 → Calls Tryd.prog 30 #[.int .i64 a] w1 fun e w' => e = .returned (.string (digs a)) ∧ Ext w1 w') := ⟨fun w1 hb => ditoa_any a (by omega) w1 (hT.out w1 hb)⟩
  have c2 : Box (∀ w1, Ext w w1 → Calls Tryd.prog 30 #[.int .i64 r] w1 fun e w' => e = .returned (.string (digs r)) ∧ Ext w1 w') := ⟨fun w1 hb => ditoa_any r (by omega) w1 (hT.out w1 hb)⟩
  have c3 : Box (∀ w1, Ext w w1 → Calls Tryd.prog 30 #[.int .i64 p] (World.drew w1) fun e w' => e = .returned (.string (digs p)) ∧ Ext w1 w') := ⟨fun w1 hb => (ditoa_any p (by omega) w1.drew (hT.out _ (Ext.drewN hb 1))).mono fun e w' h => ⟨h.1, Ext.trans' (Ext.drewN (Below.refl _ _) 1) h.2⟩⟩
  have c4 : Box (∀ w1, Ext w w1 → Calls Tryd.prog 31 #[.int .u64 s, .int .i64 10] w1 fun e w' => e = .returned (.string (digs s)) ∧ Ext w1 w') := ⟨fun w1 hb => formatUint_any s w1 h1 (hT.out w1 hb)⟩
  have k0 : (0 : Int) ≤ (k : Int) := by omega
  have k7 : (k : Int) < 7 := by omega
  have k8 : k < 7 := by omega
  have z0 := wordB_size k
  have z1 := digs_size a (by omega)
  have z2 := digs_size r (by omega)
  have z3 := digs_size p (by omega)
  have z4 := digs_size s h1
  have hfin : Box (wordB k ++ ⟨#[32, 107, 101, 121, 115, 61]⟩ ++ digs a ++ ⟨#[32, 114, 101, 113, 117, 101, 115, 116, 115, 61]⟩ ++ digs r ++ ⟨#[32, 112, 97, 114, 116, 61]⟩ ++ digs p ++ ⟨#[32, 115, 101, 101, 100, 61]⟩ ++ digs s = textB k a r p s) := ⟨rfl⟩
  have hx : Ext w (w.alloc (.cells #[.int .i64 (k), .int .i64 (a), .int .i64 (r), .int .i64 (p), .int .u64 (s)] 28)) := Ext.alloc (Below.refl _ _) _
  have hB := newblk w (.cells #[.int .i64 (k), .int .i64 (a), .int .i64 (r), .int .i64 (p), .int .u64 (s)] 28)
  generalize wordB k = y0 at *
  generalize digs a = y1 at *
  generalize digs r = y2 at *
  generalize digs p = y3 at *
  generalize digs s = y4 at *
  generalize textB k a r p s = y9 at *
  have g1 : ¬ 9223372036854775807 < y0.size + 6 := by omega
  have g2 : ¬ 9223372036854775807 < y0.size + 6 + y1.size := by omega
  have g3 : ¬ 9223372036854775807 < y0.size + 6 + y1.size + 10 := by omega
  have g4 : ¬ 9223372036854775807 < y0.size + 6 + y1.size + 10 + y2.size := by omega
  have g5 : ¬ 9223372036854775807 < y0.size + 6 + y1.size + 10 + y2.size + 6 := by omega
  have g6 : ¬ 9223372036854775807 < y0.size + 6 + y1.size + 10 + y2.size + 6 + y3.size := by omega
  have g7 : ¬ 9223372036854775807 < y0.size + 6 + y1.size + 10 + y2.size + 6 + y3.size + 6 := by omega
  have g8 : ¬ 9223372036854775807 < y0.size + 6 + y1.size + 10 + y2.size + 6 + y3.size + 6 + y4.size := by omega
  clear V ht h1 h2 h3 h4 hk6 hp6 hT
  go_enter Tryd.func19, Tryd.ntmps19
  go_wp2_with (first | (go_at_call 11; (with_reducible refine (cv.out _).mono ?_); rintro e w1 ⟨rfl, hb1⟩; (try clear m0 m1 m2 m3 m4); have hx := Ext.trans' hx hb1; have hB := Ext.blk hb1 hB; obtain ⟨m0, m1, m2, m3, m4⟩ := blk5 hB; (try have m9 := Ext.cell hb1 m9)))
  rw [show Op.load 9 (Operand.tmp 11) = ldOp from rfl]
  have hop : ldOp = Op.load 9 (Operand.tmp 11) := rfl
  go_region_held3 (fun w' => w'.cell? ⟨w.heap.size, 0, none⟩ = some (.int .i64 k) ∧ w'.cell? ⟨w.heap.size, 1, none⟩ = some (.int .i64 a) ∧ w'.cell? ⟨w.heap.size, 2, none⟩ = some (.int .i64 r) ∧ w'.cell? ⟨w.heap.size, 3, none⟩ = some (.int .i64 p) ∧ w'.cell? ⟨w.heap.size, 4, none⟩ = some (.int .u64 s))
    (first
      | go_keep
      | (exact ⟨m0, m1, m2, m3, m4⟩))
    (first
      | (go_at_call 29; (with_reducible refine (cn.out _).mono ?_); rintro e w1 ⟨rfl, m9, hb1⟩; (try clear m0 m1 m2 m3 m4); have hx := Ext.trans' hx hb1; have hB := Ext.blk hb1 hB; obtain ⟨m0, m1, m2, m3, m4⟩ := blk5 hB)
      | (go_at_call 30; (with_reducible refine (c1.out _ hx).mono ?_); rintro e w1 ⟨rfl, hb1⟩; (try clear m0 m1 m2 m3 m4); have hx := Ext.trans' hx hb1; have hB := Ext.blk hb1 hB; obtain ⟨m0, m1, m2, m3, m4⟩ := blk5 hB; (try have m9 := Ext.cell hb1 m9))
      | (go_at_call 30; (with_reducible refine (c2.out _ hx).mono ?_); rintro e w1 ⟨rfl, hb1⟩; (try clear m0 m1 m2 m3 m4); have hx := Ext.trans' hx hb1; have hB := Ext.blk hb1 hB; obtain ⟨m0, m1, m2, m3, m4⟩ := blk5 hB; (try have m9 := Ext.cell hb1 m9)))
  all_goals
    go_wp2
    go_region_held3 (fun w' => w'.cell? ⟨w.heap.size, 0, none⟩ = some (.int .i64 k) ∧ w'.cell? ⟨w.heap.size, 1, none⟩ = some (.int .i64 a) ∧ w'.cell? ⟨w.heap.size, 2, none⟩ = some (.int .i64 r) ∧ w'.cell? ⟨w.heap.size, 3, none⟩ = some (.int .i64 p) ∧ w'.cell? ⟨w.heap.size, 4, none⟩ = some (.int .u64 s))
      (first
        | go_keep
        | (exact ⟨m0, m1, m2, m3, m4⟩))
      (first
        | (go_at_call 30; (with_reducible refine (c3.out _ hx).mono ?_); rintro e w1 ⟨rfl, hb1⟩; (try clear m0 m1 m2 m3 m4); have hx := Ext.trans' hx hb1; have hB := Ext.blk hb1 hB; obtain ⟨m0, m1, m2, m3, m4⟩ := blk5 hB; (try have m9 := Ext.cell hb1 m9))
        | (go_at_call 31; (with_reducible refine (c4.out _ hx).mono ?_); rintro e w1 ⟨rfl, hb1⟩; (try clear m0 m1 m2 m3 m4); have hx := Ext.trans' hx hb1; have hB := Ext.blk hb1 hB; obtain ⟨m0, m1, m2, m3, m4⟩ := blk5 hB; (try have m9 := Ext.cell hb1 m9)))
    all_goals
      go_wp2
      go_ret2
      exact ⟨by (rw [hfin.out]; try rfl), hx⟩
set_option maxHeartbeats 1000000 in
theorem gtext_bad (k a r p : Int) (s : Nat) (h : vldL k a r p s = false) (w : World) : Calls Tryd.prog 19 #[(.agg #[.int .i64 (k), .int .i64 (a), .int .i64 (r), .int .i64 (p), .int .u64 (s)])] w fun e w' => e = .returned (.tuple #[.string ⟨#[]⟩, .int .i64 2]) ∧ Ext w w' := by
  have hx : Ext w (w.alloc (.cells #[.int .i64 (k), .int .i64 (a), .int .i64 (r), .int .i64 (p), .int .u64 (s)] 28)) := Ext.alloc (Below.refl _ _) _
  have cv : Box _ := ⟨fun w => gvalid_any k a r p s w⟩
  rw [h] at cv
  clear h
  go_enter Tryd.func19, Tryd.ntmps19
  go_wp2_with (first | (go_at_call 11; (with_reducible refine (cv.out _).mono ?_); rintro e w1 ⟨rfl, hb⟩; have hx := Ext.trans' hx hb))
  go_ret2
  exact ⟨rfl, hx⟩
set_option maxRecDepth 100000 in
set_option maxHeartbeats 4000000 in
theorem rtext_any {k a r p s : Nat} (hk6 : k ≤ 6) (h3 : a ≤ 100000) (h4 : r ≤ 100000) (hp6 : p ≤ 100000) (h1 : s < 18446744073709551616) (w : World) : Calls Tryd.prog 20 #[(.agg #[.int .i64 (k), .int .i64 (a), .int .i64 (r), .int .i64 (p), .int .u64 (s)])] w fun e w' => e = .returned (.string (textB k a r p s)) ∧ Ext w w' := by
  have cn : Box (∀ w1, Calls Tryd.prog 32 #[] (World.drew w1) fun e w' => e = .returned (.slice (some ⟨w1.heap.size, 0, none⟩) 7 7) ∧ w'.cell? ⟨w1.heap.size, k, none⟩ = some (.string (wordB k)) ∧ Ext w1 w') := ⟨fun w1 => (rwords_at k hk6 w1.drew).mono fun e w' h => ⟨h.1, h.2.1, Ext.trans' (Ext.drewN (Below.refl _ _) 1) h.2.2⟩⟩
  have c1 : Box _ := ⟨fun w1 => rdig_any a w1 (by omega)⟩
  have c2 : Box _ := ⟨fun w1 => rdig_any r w1 (by omega)⟩
  have c3 : Box _ := ⟨fun w1 => rdig_any p w1 (by omega)⟩
  have c4 : Box _ := ⟨fun w1 => rdig_any s w1 h1⟩
  have u1 : IntKind.u64.wrap (a : Int) = a := by rw [IntKind.wrap_u64]; omega
  have u2 : IntKind.u64.wrap (r : Int) = r := by rw [IntKind.wrap_u64]; omega
  have u3 : IntKind.u64.wrap (p : Int) = p := by rw [IntKind.wrap_u64]; omega
  have k0 : (0 : Int) ≤ (k : Int) := by omega
  have k7 : (k : Int) < 7 := by omega
  have k8 : k < 7 := by omega
  have z0 := wordB_size k
  have z1 := digs_size a (by omega)
  have z2 := digs_size r (by omega)
  have z3 := digs_size p (by omega)
  have z4 := digs_size s h1
  have hfin : Box (wordB k ++ ⟨#[32, 107, 101, 121, 115, 61]⟩ ++ digs a ++ ⟨#[32, 114, 101, 113, 117, 101, 115, 116, 115, 61]⟩ ++ digs r ++ ⟨#[32, 112, 97, 114, 116, 61]⟩ ++ digs p ++ ⟨#[32, 115, 101, 101, 100, 61]⟩ ++ digs s = textB k a r p s) := ⟨rfl⟩
  have hx : Ext w (w.alloc (.cells #[.int .i64 (k), .int .i64 (a), .int .i64 (r), .int .i64 (p), .int .u64 (s)] 28)) := Ext.alloc (Below.refl _ _) _
  have hB := newblk w (.cells #[.int .i64 (k), .int .i64 (a), .int .i64 (r), .int .i64 (p), .int .u64 (s)] 28)
  obtain ⟨m0, m1, m2, m3, m4⟩ := blk5 hB
  generalize wordB k = y0 at *
  generalize digs a = y1 at *
  generalize digs r = y2 at *
  generalize digs p = y3 at *
  generalize digs s = y4 at *
  generalize textB k a r p s = y9 at *
  have g1 : ¬ 9223372036854775807 < y0.size + 6 := by omega
  have g2 : ¬ 9223372036854775807 < y0.size + 6 + y1.size := by omega
  have g3 : ¬ 9223372036854775807 < y0.size + 6 + y1.size + 10 := by omega
  have g4 : ¬ 9223372036854775807 < y0.size + 6 + y1.size + 10 + y2.size := by omega
  have g5 : ¬ 9223372036854775807 < y0.size + 6 + y1.size + 10 + y2.size + 6 := by omega
  have g6 : ¬ 9223372036854775807 < y0.size + 6 + y1.size + 10 + y2.size + 6 + y3.size := by omega
  have g7 : ¬ 9223372036854775807 < y0.size + 6 + y1.size + 10 + y2.size + 6 + y3.size + 6 := by omega
  have g8 : ¬ 9223372036854775807 < y0.size + 6 + y1.size + 10 + y2.size + 6 + y3.size + 6 + y4.size := by omega
  clear h1 h3 h4 hp6 hk6
  go_enter Tryd.func20, Tryd.ntmps20
  go_wp2
  generalize w.alloc (.cells #[.int .i64 (k), .int .i64 (a), .int .i64 (r), .int .i64 (p), .int .u64 (s)] 28) = W at *
  rw [show Op.load 9 (Operand.tmp 6) = ldOp2 from rfl]
  have hop : ldOp2 = Op.load 9 (Operand.tmp 6) := rfl
  go_region_held3 (fun w' => w'.cell? ⟨w.heap.size, 0, none⟩ = some (.int .i64 k) ∧ w'.cell? ⟨w.heap.size, 1, none⟩ = some (.int .i64 a) ∧ w'.cell? ⟨w.heap.size, 2, none⟩ = some (.int .i64 r) ∧ w'.cell? ⟨w.heap.size, 3, none⟩ = some (.int .i64 p) ∧ w'.cell? ⟨w.heap.size, 4, none⟩ = some (.int .u64 s))
    (first
      | go_keep
      | (exact ⟨m0, m1, m2, m3, m4⟩))
    (first
      | (go_at_call 32; (with_reducible refine (cn.out _).mono ?_); rintro e w1 ⟨rfl, m9, hb1⟩; (try clear m0 m1 m2 m3 m4); have hx := Ext.trans' hx hb1; have hB := Ext.blk hb1 hB; obtain ⟨m0, m1, m2, m3, m4⟩ := blk5 hB)
      | (go_at_call 33; (with_reducible refine (c1.out _).mono ?_); rintro e w' ⟨rfl, rfl⟩)
      | (go_at_call 33; (with_reducible refine (c2.out _).mono ?_); rintro e w' ⟨rfl, rfl⟩)
      | (go_at_call 33; (with_reducible refine (c3.out _).mono ?_); rintro e w' ⟨rfl, rfl⟩)
      | (go_at_call 33; (with_reducible refine (c4.out _).mono ?_); rintro e w' ⟨rfl, rfl⟩))
  all_goals
    go_wp2
    go_ret
    exact ⟨by (rw [hfin.out]; try rfl), hx⟩
end Go.Proofs.YthlnhemdhlkhfaaDoor
