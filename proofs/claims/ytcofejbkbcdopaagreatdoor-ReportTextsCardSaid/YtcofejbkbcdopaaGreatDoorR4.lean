import Derived.Test.YtcofejbkbcdopaaGreatDoorR3
/- Contract of the report's line of a score. -/
namespace Go.Proofs.YtcofejbkbcdopaaGreatDoor
open Go.RowKit
/-- Whether four numbers are a score's. -/
def scB (k s b a : Int) : Bool := decide (1 ≤ k ∧ k ≤ 8) && hasB a b && decide (1 ≤ s) && decide (s ≤ 1024)
theorem scB_ok (x : Sc) : scB x.k x.size x.b x.a = decide x.ok := by
  unfold scB
  rw [Bool.eq_iff_iff]
  simp only [Bool.and_eq_true, decide_eq_true_eq, hasB_iff]
  unfold Sc.ok
  omega
theorem scB_nat {k s b a : Int} (h : scB k s b a = true) : ∃ x : Sc, x.ok ∧ k = x.k ∧ s = x.size ∧ b = x.b ∧ a = x.a := by
  unfold scB at h
  simp only [Bool.and_eq_true, decide_eq_true_eq, hasB_iff] at h
  refine ⟨⟨k.toNat, s.toNat, a.toNat, b.toNat⟩, ?_, ?_, ?_, ?_, ?_⟩
  · unfold Sc.ok; dsimp only; omega
  all_goals (dsimp only; omega)
theorem blk_up' {w : World} {B : Nat} {o : Obj} (h : w.heap[B]? = some o) (o' : Obj) : (w.alloc o').heap[B]? = some o := Ext.blk (Ext.alloc (Below.refl _ _) _) h
theorem blk4 {w : World} {B : Nat} {c0 c1 c2 c3 : Value} {T : TypeId} (h : w.heap[B]? = some (.cells #[c0, c1, c2, c3] T (0, 0))) :
    w.cell? ⟨B, 0, none⟩ = some c0 ∧ w.cell? ⟨B, 1, none⟩ = some c1 ∧ w.cell? ⟨B, 2, none⟩ = some c2 ∧ w.cell? ⟨B, 3, none⟩ = some c3 :=
  ⟨by rw [Lib.cell_of_heap h]; rfl, by rw [Lib.cell_of_heap h]; rfl, by rw [Lib.cell_of_heap h]; rfl, by rw [Lib.cell_of_heap h]; rfl⟩
theorem kS_size (k : Nat) : (kS k).size ≤ 7 := kW_len k
set_option maxRecDepth 100000 in
set_option maxHeartbeats 4000000 in
theorem line_ok (x : Sc) (h : x.ok) (w : World) (ht : Tabs w) : Calls Tryz.prog 27 #[(.agg #[.int .i64 (x.k), .int .i64 (x.size), .int .i64 (x.b), .int .i64 (x.a)])] w fun e w' => e = .returned (.tuple #[.string ⟨x.line.toArray⟩, .bool true]) ∧ Ext w w' := by
  obtain ⟨k, size, a, b⟩ := x
  dsimp only at *
  obtain ⟨h1, h2, h3, h4, h5, h6⟩ := h
  dsimp only at *
  have cw : Box (∀ w, Calls Tryz.prog 38 #[.int .i64 k] w fun e w' => e = .returned (.tuple #[.string (kS k), .int .i64 0]) ∧ Ext w w') := ⟨fun w => by
    have := pword_any k w
    rw [if_pos (by omega), if_pos (by omega)] at this
    exact this⟩
  have c1 : Box (∀ w', Ext w w' → _) := ⟨fun w' hx => ritoa_any size (by omega) w' (ht.ext hx)⟩
  have c2 : Box (∀ w', Ext w w' → _) := ⟨fun w' hx => ritoa_any a (by omega) w' (ht.ext hx)⟩
  have c3 : Box (∀ w', Ext w w' → _) := ⟨fun w' hx => ritoa_any b (by omega) w' (ht.ext hx)⟩
  have cr : Box (∀ w', Ext w w' → _) := ⟨fun w' hx => ratio_ok a b h5 h6 w' (ht.ext hx)⟩
  have cp : Box (∀ w', Ext w w' → _) := ⟨fun w' hx => percent_ok a b h5 h6 w' (ht.ext hx)⟩
  have z0 := kS_size k
  have z1 := digs_le size (by omega)
  have z2 := digs_le a (by omega)
  have z3 := digs_le b (by omega)
  have z4 : (⟨(ratioL a b).toArray⟩ : ByteArray).size ≤ 21 := ratioL_len a b h5 h6
  have z5 : (⟨(percentL a b).toArray⟩ : ByteArray).size ≤ 7 := percentL_len a b h5
  have hfin : (⟨(Sc.line ⟨k, size, a, b⟩).toArray⟩ : ByteArray) = kS k ++ ⟨#[32, 97, 116, 32]⟩ ++ digs size ++ ⟨#[58, 32]⟩ ++ digs a ++ ⟨#[32, 111, 102, 32]⟩ ++ digs b ++ ⟨#[44, 32]⟩ ++ ⟨(ratioL a b).toArray⟩ ++ ⟨#[32]⟩ ++ ⟨(percentL a b).toArray⟩ ++ ⟨#[10]⟩ := by
    apply str_ext
    simp [Sc.line, Sc.endL, digs, dd, kS, ByteArray.data_append]
  rw [hfin]
  have hx : Ext w (w.alloc (.cells #[.int .i64 (k), .int .i64 (size), .int .i64 (b), .int .i64 (a)] 50)) := Ext.alloc (Below.refl _ _) _
  have hB := newblk w (.cells #[.int .i64 (k), .int .i64 (size), .int .i64 (b), .int .i64 (a)] 50)
  have d1 : decide ((size : Int) < 1) = false := decide_eq_false (by omega)
  have d2 : decide (1024 < (size : Int)) = false := decide_eq_false (by omega)
  clear hfin ht
  generalize kS k = y0 at *
  generalize digs size = y1 at *
  generalize digs a = y2 at *
  generalize digs b = y3 at *
  generalize (⟨(ratioL a b).toArray⟩ : ByteArray) = y4 at *
  generalize (⟨(percentL a b).toArray⟩ : ByteArray) = y5 at *
  have g1 : ¬ 9223372036854775807 < y0.size + 4 := by omega
  have g2 : ¬ 9223372036854775807 < y0.size + 4 + y1.size := by omega
  have g3 : ¬ 9223372036854775807 < y0.size + 4 + y1.size + 2 := by omega
  have g4 : ¬ 9223372036854775807 < y0.size + 4 + y1.size + 2 + y2.size := by omega
  have g5 : ¬ 9223372036854775807 < y0.size + 4 + y1.size + 2 + y2.size + 4 := by omega
  have g6 : ¬ 9223372036854775807 < y0.size + 4 + y1.size + 2 + y2.size + 4 + y3.size := by omega
  have g7 : ¬ 9223372036854775807 < y0.size + 4 + y1.size + 2 + y2.size + 4 + y3.size + 2 := by omega
  have g8 : ¬ 9223372036854775807 < y0.size + 4 + y1.size + 2 + y2.size + 4 + y3.size + 2 + y4.size := by omega
  have g9 : ¬ 9223372036854775807 < y0.size + 4 + y1.size + 2 + y2.size + 4 + y3.size + 2 + y4.size + 1 := by omega
  have g10 : ¬ 9223372036854775807 < y0.size + 4 + y1.size + 2 + y2.size + 4 + y3.size + 2 + y4.size + 1 + y5.size := by omega
  have g11 : ¬ 9223372036854775807 < y0.size + 4 + y1.size + 2 + y2.size + 4 + y3.size + 2 + y4.size + 1 + y5.size + 1 := by omega
  clear h1 h2 h3 h4 h5 h6
  obtain ⟨m0, m1, m2, m3⟩ := blk4 hB
  go_enter Tryz.func27, Tryz.ntmps27
  go_wp2_with (go_at_call 38; (with_reducible refine (cw.out _).mono ?_); rintro e w1 ⟨rfl, hb⟩; have hx := Ext.trans' hx hb; have hB := Ext.blk hb hB; clear m0 m1 m2 m3; obtain ⟨m0, m1, m2, m3⟩ := blk4 hB)
  go_quiet (fail)
  have hx := Ext.drewN hx nq
  go_wp2_with (first
    | (go_at_call 31; (with_reducible refine (cr.out _ hx).mono ?_); rintro e w2 ⟨rfl, hb2⟩; have hx := Ext.trans' hx hb2; have hB := Ext.blk hb2 hB; clear m0 m1 m2 m3; obtain ⟨m0, m1, m2, m3⟩ := blk4 hB)
    | (go_at_call 32; (with_reducible refine (cp.out _ hx).mono ?_); rintro e w2 ⟨rfl, hb2⟩; have hx := Ext.trans' hx hb2; have hB := Ext.blk hb2 hB; clear m0 m1 m2 m3; obtain ⟨m0, m1, m2, m3⟩ := blk4 hB)
    | (go_at_call 20; (with_reducible refine (c1.out _ hx).mono ?_); rintro e w2 ⟨rfl, hb2⟩; have hx := Ext.trans' hx hb2; have hB := Ext.blk hb2 hB; clear m0 m1 m2 m3; obtain ⟨m0, m1, m2, m3⟩ := blk4 hB)
    | (go_at_call 20; (with_reducible refine (c2.out _ hx).mono ?_); rintro e w2 ⟨rfl, hb2⟩; have hx := Ext.trans' hx hb2; have hB := Ext.blk hb2 hB; clear m0 m1 m2 m3; obtain ⟨m0, m1, m2, m3⟩ := blk4 hB)
    | (go_at_call 20; (with_reducible refine (c3.out _ hx).mono ?_); rintro e w2 ⟨rfl, hb2⟩; have hx := Ext.trans' hx hb2; have hB := Ext.blk hb2 hB; clear m0 m1 m2 m3; obtain ⟨m0, m1, m2, m3⟩ := blk4 hB))
  go_ret2
  exact ⟨rfl, hx⟩
/-- Ratio and Percent of any two numbers. -/
def RaPost (c : Bool) (w : World) (e : Ending) (w' : World) : Prop := ∃ s, e = .returned (.tuple #[.string s, .int .i64 (if c then 0 else 2)]) ∧ Ext w w'
theorem ratio_all (a b : Int) (w : World) (ht : Tabs w) : Calls Tryz.prog 31 #[.int .i64 a, .int .i64 b] w (RaPost (hasB a b) w) := by
  cases h : hasB a b with
  | false => exact (ratio_bad a b w h).mono fun e w' hh => ⟨_, hh.1, hh.2 ▸ Below.refl _ _⟩
  | true =>
    have hh := (hasB_iff a b).1 h
    obtain ⟨a, rfl⟩ : ∃ n : Nat, a = n := ⟨a.toNat, by omega⟩
    obtain ⟨b, rfl⟩ : ∃ n : Nat, b = n := ⟨b.toNat, by omega⟩
    exact (ratio_ok a b (by omega) (by omega) w ht).mono fun e w' hh => ⟨_, hh.1, hh.2⟩
theorem percent_all (a b : Int) (w : World) (ht : Tabs w) : Calls Tryz.prog 32 #[.int .i64 a, .int .i64 b] w (RaPost (hasB a b) w) := by
  cases h : hasB a b with
  | false => exact (percent_bad a b w h).mono fun e w' hh => ⟨_, hh.1, hh.2 ▸ Below.refl _ _⟩
  | true =>
    have hh := (hasB_iff a b).1 h
    obtain ⟨a, rfl⟩ : ∃ n : Nat, a = n := ⟨a.toNat, by omega⟩
    obtain ⟨b, rfl⟩ : ∃ n : Nat, b = n := ⟨b.toNat, by omega⟩
    exact (percent_ok a b (by omega) (by omega) w ht).mono fun e w' hh => ⟨_, hh.1, hh.2⟩
set_option maxRecDepth 100000 in
set_option maxHeartbeats 4000000 in
theorem line_bad (k s b a : Int) (h : scB k s b a = false) (w : World) (ht : Tabs w) : Calls Tryz.prog 27 #[(.agg #[.int .i64 (k), .int .i64 (s), .int .i64 (b), .int .i64 (a)])] w fun e w' => e = .returned (.tuple #[.string ⟨#[]⟩, .bool false]) ∧ Ext w w' := by
  have cr : Box (∀ w', Ext w w' → ∃ c, c = hasB a b ∧ Calls Tryz.prog 31 #[.int .i64 a, .int .i64 b] w' (RaPost c w')) := ⟨fun w' hx => ⟨_, rfl, ratio_all a b w' (ht.ext hx)⟩⟩
  have cp : Box (∀ w', Ext w w' → ∃ c, c = hasB a b ∧ Calls Tryz.prog 32 #[.int .i64 a, .int .i64 b] w' (RaPost c w')) := ⟨fun w' hx => ⟨_, rfl, percent_all a b w' (ht.ext hx)⟩⟩
  have cw : Box _ := ⟨fun w => pword_any k w⟩
  have hx : Ext w (w.alloc (.cells #[.int .i64 (k), .int .i64 (s), .int .i64 (b), .int .i64 (a)] 50)) := Ext.alloc (Below.refl _ _) _
  have hB := newblk w (.cells #[.int .i64 (k), .int .i64 (s), .int .i64 (b), .int .i64 (a)] 50)
  have key : (¬ (1 ≤ k ∧ k ≤ 8)) ∨ ((1 ≤ k ∧ k ≤ 8) ∧ hasB a b = false) ∨ ((1 ≤ k ∧ k ≤ 8) ∧ hasB a b = true ∧ decide (s < 1) = true) ∨ ((1 ≤ k ∧ k ≤ 8) ∧ hasB a b = true ∧ decide (s < 1) = false ∧ decide (1024 < s) = true) := by
    unfold scB at h
    by_cases h1 : 1 ≤ k ∧ k ≤ 8
    · refine Or.inr ?_
      cases h2 : hasB a b with
      | false => exact Or.inl ⟨h1, rfl⟩
      | true =>
        refine Or.inr ?_
        rw [decide_eq_true h1, h2] at h
        by_cases h3 : s < 1
        · exact Or.inl ⟨h1, rfl, decide_eq_true h3⟩
        · rw [decide_eq_true (show 1 ≤ s by omega)] at h
          have h4 : ¬ s ≤ 1024 := by simpa using h
          exact Or.inr ⟨h1, rfl, decide_eq_false h3, decide_eq_true (by omega)⟩
    · exact Or.inl h1
  obtain ⟨m0, m1, m2, m3⟩ := blk4 hB
  clear h ht
  rcases key with hk | ⟨hk, hc⟩ | ⟨hk, hc, d1⟩ | ⟨hk, hc, d1, d2⟩
  · simp only [if_neg hk] at cw
    clear hk
    go_enter Tryz.func27, Tryz.ntmps27
    go_wp2_with (go_at_call 38; (with_reducible refine (cw.out _).mono ?_); rintro e w1 ⟨rfl, hb⟩; have hx := Ext.trans' hx hb; have hB := Ext.blk hb hB; clear m0 m1 m2 m3; obtain ⟨m0, m1, m2, m3⟩ := blk4 hB)
    go_quiet (fail)
    have hx := Ext.drewN hx nq
    go_wp2_with (first
      | (go_at_call 31; obtain ⟨c, hc, h9⟩ := cr.out _ hx; clear hc; (with_reducible refine h9.mono ?_); rintro e w2 ⟨q1, rfl, hb2⟩; have hx := Ext.trans' hx hb2; have hB := Ext.blk hb2 hB; clear m0 m1 m2 m3 h9; obtain ⟨m0, m1, m2, m3⟩ := blk4 hB)
      | (go_at_call 32; obtain ⟨c, hc, h9⟩ := cp.out _ hx; clear hc; (with_reducible refine h9.mono ?_); rintro e w2 ⟨q2, rfl, hb2⟩; have hx := Ext.trans' hx hb2; have hB := Ext.blk hb2 hB; clear m0 m1 m2 m3 h9; obtain ⟨m0, m1, m2, m3⟩ := blk4 hB))
    all_goals
      go_ret2
      exact ⟨rfl, hx⟩
  all_goals
    simp only [if_pos hk] at cw
    clear hk
    rw [hc] at cr cp
    clear hc
    go_enter Tryz.func27, Tryz.ntmps27
    go_wp2_with (go_at_call 38; (with_reducible refine (cw.out _).mono ?_); rintro e w1 ⟨rfl, hb⟩; have hx := Ext.trans' hx hb; have hB := Ext.blk hb hB; clear m0 m1 m2 m3; obtain ⟨m0, m1, m2, m3⟩ := blk4 hB)
    go_quiet (fail)
    have hx := Ext.drewN hx nq
    go_wp2_with (first
      | (go_at_call 31; obtain ⟨c, rfl, h9⟩ := cr.out _ hx; (with_reducible refine h9.mono ?_); rintro e w2 ⟨q1, rfl, hb2⟩; have hx := Ext.trans' hx hb2; have hB := Ext.blk hb2 hB; clear m0 m1 m2 m3 h9; obtain ⟨m0, m1, m2, m3⟩ := blk4 hB)
      | (go_at_call 32; obtain ⟨c, rfl, h9⟩ := cp.out _ hx; (with_reducible refine h9.mono ?_); rintro e w2 ⟨q2, rfl, hb2⟩; have hx := Ext.trans' hx hb2; have hB := Ext.blk hb2 hB; clear m0 m1 m2 m3 h9; obtain ⟨m0, m1, m2, m3⟩ := blk4 hB))
    go_ret2
    exact ⟨rfl, hx⟩
end Go.Proofs.YtcofejbkbcdopaaGreatDoor
