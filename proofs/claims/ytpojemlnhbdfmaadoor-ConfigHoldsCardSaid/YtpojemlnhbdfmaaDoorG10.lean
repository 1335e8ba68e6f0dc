import Derived.Test.YtpojemlnhbdfmaaDoorG9
import Derived.Test.YtpojemlnhbdfmaaDoorST
/- The laws' walks: ConfigChecks, ConfigParses, ConfigResizes. -/
namespace Go.Proofs.YtpojemlnhbdfmaaDoor
open Go.RowKit

/-- A configuration that comes in. -/
def CfgArg (v : Value) : Prop := ∃ (a b p : Int) (s : Nat) (t : Bool), v = .agg #[.int .i64 a, .int .i64 b, .int .i64 p, .int .u64 s, .bool t] ∧ InB a b p s
theorem open_cfg {P : Program} {H : Type} {enc : TypeId × Value → H} {t : TypeId} {f0 f1 f2 f3 f4 : Field} {base : Nat} {r : Reach} {b0 : Nat} {W : World} {v : Value} {d : DataW H} {p : List MemPlace} {sp : Nat → Bool} {held : Bool}
    (hs : P.underlying t = some (.struct #[f0, f1, f2, f3, f4])) (hone : Deep.oneCellFields P #[f0, f1, f2, f3, f4] = true) (hC : P.cellsOf t = 5)
    (h0 : P.underlying f0.type = some (.int .i64)) (h1 : P.underlying f1.type = some (.int .i64)) (h2 : P.underlying f2.type = some (.int .i64)) (h3 : P.underlying f3.type = some (.int .u64)) (h4 : P.underlying f4.type = some .bool)
    (ho : Value.okWide P W r b0 t v) (h : DataW.Trod enc P W base sp held t v d p) : CfgArg v := by
  obtain ⟨cs, rfl, hsz, hall⟩ := open_flat hs hone hC ho h
  obtain ⟨c0, y0, n0, e0, t0⟩ := hall 0 f0 rfl
  obtain ⟨c1, y1, n1, e1, t1⟩ := hall 1 f1 rfl
  obtain ⟨c2, y2, n2, e2, t2⟩ := hall 2 f2 rfl
  obtain ⟨c3, y3, n3, e3, t3⟩ := hall 3 f3 rfl
  obtain ⟨c4, y4, n4, e4, t4⟩ := hall 4 f4 rfl
  obtain ⟨a, q0, _, w0⟩ := DataW.trod_int h0 t0
  obtain ⟨b, q1, _, w1⟩ := DataW.trod_int h1 t1
  obtain ⟨c, q2, _, w2⟩ := DataW.trod_int h2 t2
  obtain ⟨s, q3, _, w3⟩ := DataW.trod_int h3 t3
  obtain ⟨x, q4, _⟩ := DataW.trod_bool h4 t4
  simp only [List.cons.injEq, and_true] at q0 q1 q2 q3 q4
  subst q0 q1 q2 q3 q4
  have ws := wf_u64 w3
  refine ⟨a, b, c, s.toNat, x, ?_, ?_⟩
  · congr 1
    apply Array.ext'
    apply List.ext_getElem?
    intro i
    match i with
    | 0 => simpa using e0
    | 1 => simpa using e1
    | 2 => simpa using e2
    | 3 => simpa [Int.toNat_of_nonneg ws.1] using e3
    | 4 => simpa using e4
    | i + 5 => rw [List.getElem?_eq_none (by simpa using (show cs.size ≤ i + 5 by rw [hsz]; simp)), List.getElem?_eq_none (by simp)]
  · exact ⟨by omega, wf_i64 w0, wf_i64 w1, wf_i64 w2⟩

set_option maxRecDepth 100000 in
set_option maxHeartbeats 4000000 in
theorem lawConfigResizes_walk (v : Value) (m n : Int) (W : World) (hv : CfgArg v) (wm : (Lit.int .i64 m).wf = true) (wn : (Lit.int .i64 n).wf = true) (he : EnvG W) :
    Calls Tryd.prog 6 #[v, .int .i64 m, .int .i64 n] W fun e W' => e = .returned (.bool true) ∧ Below W.heap.size W W' := by
  obtain ⟨a, b, p, s, t, rfl, hb⟩ := hv
  have c1 : Box _ := ⟨fun w => rresize_any a b p s t m n w⟩
  have c2 : Box _ := ⟨fun w => resizes_yes a b p s t m n _ _ w rfl rfl⟩
  have c3 : Box (∀ w1, Ext W w1 → _) := ⟨fun w1 h => known_any w1 (he.ext h)⟩
  obtain ⟨x0, x1, x2, x3, x4, hq⟩ : ∃ (x0 x1 x2 : Int) (x3 : Nat) (x4 : Bool), rz3 a b p s t m n = .agg #[.int .i64 x0, .int .i64 x1, .int .i64 x2, .int .u64 x3, .bool x4] := by
    unfold rz3; split
    · exact ⟨_, _, _, _, _, rfl⟩
    · exact ⟨0, 0, 0, 0, false, rfl⟩
  rw [hq] at c1 c2
  generalize rze a b p m n = k at *
  have hx := Ext.alloc (Below.refl W.heap.size W) (.cells #[.int .i64 a, .int .i64 b, .int .i64 p, .int .u64 s, .bool t] 24)
  have hC := newblk W (.cells #[.int .i64 a, .int .i64 b, .int .i64 p, .int .u64 s, .bool t] 24)
  clear hq wm wn he hb
  go_enter Tryd.func6, Tryd.ntmps6
  go_wp2_with (first
    | (go_at_call 18; (with_reducible refine (c1.out _).mono ?_); rintro e w1 ⟨rfl, hb⟩; have hx := Ext.alloc (Ext.trans' hx hb) (.cells #[.int .i64 x0, .int .i64 x1, .int .i64 x2, .int .u64 x3, .bool x4] 24); have hC := Ext.blk hb hC; obtain ⟨m0, m1, m2, m3, m4⟩ := blk5 hC; have hlt := blk_lt hC)
    | (go_at_call 19; (with_reducible refine (c2.out _).mono ?_); rintro e w1 ⟨rfl, hb⟩; have hx := Ext.trans' hx hb)
    | (go_at_call 13; (with_reducible refine (c3.out _ hx).mono ?_); rintro e w1 ⟨rfl, hb⟩; have hx := Ext.trans' hx hb))
  go_ret
  exact ⟨rfl, hx⟩

set_option maxRecDepth 100000 in
set_option maxHeartbeats 4000000 in
theorem lawConfigParses_walk (s : ByteArray) (W : World) (ws : s.size ≤ maxLen) (he : EnvG W) :
    Calls Tryd.prog 4 #[.string s] W fun e W' => e = .returned (.bool true) ∧ Below W.heap.size W W' := by
  unfold maxLen at ws
  have c3 : Box (∀ w1, Ext W w1 → _) := ⟨fun w1 h => known_any w1 (he.ext h)⟩
  have hx : Ext W W := Below.refl _ _
  by_cases hl : 200 < s.size
  · have d1 : decide (200 < (s.size : Int)) = true := decide_eq_true (by omega)
    clear he
    go_enter Tryd.func4, Tryd.ntmps4
    go_wp2_with (first
      | (go_at_call 13; (with_reducible refine (c3.out _ hx).mono ?_); rintro e w1 ⟨rfl, hb⟩; have hx := Ext.trans' hx hb))
    go_ret
    exact ⟨rfl, hx⟩
  · have d1 : decide (200 < (s.size : Int)) = false := decide_eq_false (by omega)
    have c1 : Box _ := ⟨fun w => rparse_any s w (by omega)⟩
    have c2 : Box (∀ v k w1, v = pcV (parseC s.data.toList) → k = pcE (parseC s.data.toList) → Ext W w1 → _) := ⟨fun v k w1 hv hk h => parses_yes s v k w1 (by omega) (he.ext h) hv hk⟩
    cases ho : parseC s.data.toList with
    | none =>
      rw [ho] at c1 c2
      have c2 : Box (∀ w1, Ext W w1 → Calls Tryd.prog 17 #[.string s, .agg #[.int .i64 0, .int .i64 0, .int .i64 0, .int .u64 0, .bool false], .int .i64 6] w1 fun e w' => e = .returned (.bool true) ∧ Ext w1 w') := ⟨fun w1 h => c2.out _ _ w1 rfl rfl h⟩
      simp only [pcV, rcE, Option.isSome] at c1
      clear he ho
      go_enter Tryd.func4, Tryd.ntmps4
      go_wp2_with (first
        | (go_at_call 16; (with_reducible refine (c1.out _).mono ?_); rintro e w1 ⟨rfl, hb⟩; have hx := Ext.alloc (Ext.trans' hx hb) (.cells #[.int .i64 0, .int .i64 0, .int .i64 0, .int .u64 0, .bool false] 24))
        | (go_at_call 17; (with_reducible refine (c2.out _ hx).mono ?_); rintro e w1 ⟨rfl, hb⟩; have hx := Ext.trans' hx hb)
        | (go_at_call 13; (with_reducible refine (c3.out _ hx).mono ?_); rintro e w1 ⟨rfl, hb⟩; have hx := Ext.trans' hx hb))
      go_ret
      exact ⟨rfl, hx⟩
    | some c =>
      obtain ⟨a, b, p, n, t⟩ := c
      rw [ho] at c1 c2
      have c2 : Box (∀ w1, Ext W w1 → Calls Tryd.prog 17 #[.string s, .agg #[.int .i64 a, .int .i64 b, .int .i64 p, .int .u64 n, .bool t], .int .i64 0] w1 fun e w' => e = .returned (.bool true) ∧ Ext w1 w') := ⟨fun w1 h => c2.out _ _ w1 rfl rfl h⟩
      simp only [pcV, rcE, Option.isSome] at c1
      clear he ho
      go_enter Tryd.func4, Tryd.ntmps4
      go_wp2_with (first
        | (go_at_call 16; (with_reducible refine (c1.out _).mono ?_); rintro e w1 ⟨rfl, hb⟩; have hx := Ext.alloc (Ext.trans' hx hb) (.cells #[.int .i64 a, .int .i64 b, .int .i64 p, .int .u64 n, .bool t] 24))
        | (go_at_call 17; (with_reducible refine (c2.out _ hx).mono ?_); rintro e w1 ⟨rfl, hb⟩; have hx := Ext.trans' hx hb)
        | (go_at_call 13; (with_reducible refine (c3.out _ hx).mono ?_); rintro e w1 ⟨rfl, hb⟩; have hx := Ext.trans' hx hb))
      go_ret
      exact ⟨rfl, hx⟩

set_option maxRecDepth 100000 in
set_option maxHeartbeats 4000000 in
theorem lawConfigChecks_walk (v : Value) (W : World) (hv : CfgArg v) (he : EnvG W) :
    Calls Tryd.prog 3 #[v] W fun e W' => e = .returned (.bool true) ∧ Below W.heap.size W W' := by
  obtain ⟨a, b, p, s, t, rfl, hb⟩ := hv
  have k1 : Box _ := ⟨fun w => (rcheck_any a b p s t w).mono (R' := fun e w' => e = .returned (.int .i64 (chk3 a b p)) ∧ Ext w w') (fun e w' ⟨h1, h2⟩ => ⟨h1, h2 ▸ Ext.alloc (Below.refl _ _) _⟩)⟩
  have k2 : Box _ := ⟨fun w => (gcheck_any a b p s t w).mono (R' := fun e w' => e = .returned (.int .i64 (chk3 a b p)) ∧ Ext w w') (fun e w' ⟨h1, h2⟩ => ⟨h1, h2 ▸ Ext.alloc (Below.refl _ _) _⟩)⟩
  have k3 : Box _ := ⟨fun w => gvalid_any a b p s t w⟩
  have c3 : Box (∀ w1, Ext W w1 → _) := ⟨fun w1 h => known_any w1 (he.ext h)⟩
  have hx := Ext.alloc (Below.refl W.heap.size W) (.cells #[.int .i64 a, .int .i64 b, .int .i64 p, .int .u64 s, .bool t] 24)
  have hC := newblk W (.cells #[.int .i64 a, .int .i64 b, .int .i64 p, .int .u64 s, .bool t] 24)
  obtain ⟨m0, m1, m2, m3, m4⟩ := blk5 hC
  unfold ok3 at k3
  by_cases h : chk3 a b p = 0
  · obtain ⟨g1, g2, g3, g4, g5, g6⟩ := chk3_0 h
    have p1 : Box _ := ⟨fun w => parts_yes a b p s t (part3 a b p) 0 w rfl h.symm⟩
    have p2 : Box (∀ w1, Ext W w1 → _) := ⟨fun w1 hw => writes_yes a b p s t ⟨(textC ⟨a, b, p, s, t⟩).toArray⟩ 0 w1 hb (he.ext hw) (by unfold txt5; rw [if_pos h]) h.symm⟩
    have p3 : Box _ := ⟨fun w => rpart_any a b p s t w h⟩
    have p4 : Box _ := ⟨fun w => by
      have q := rtext_any a.toNat b.toNat p.toNat s t w hb.1 (by omega) (by omega) (by omega)
      rw [Int.toNat_of_nonneg (by omega), Int.toNat_of_nonneg (by omega), Int.toNat_of_nonneg g5] at q
      exact q⟩
    rw [h, decide_eq_true rfl] at k3
    rw [h] at k1 k2
    generalize (⟨(textC ⟨a, b, p, s, t⟩).toArray⟩ : ByteArray) = tx at *
    generalize part3 a b p = pt at *
    clear h he hb g1 g2 g3 g4 g5 g6
    go_enter Tryd.func3, Tryd.ntmps3
    go_wp2_with (first
      | (go_at_call 8; (with_reducible refine (k1.out _).mono ?_); rintro e w1 ⟨rfl, hb⟩; have hx := Ext.trans' hx hb; have hC := Ext.blk hb hC; obtain ⟨m0, m1, m2, m3, m4⟩ := blk5 hC)
      | (go_at_call 9; (with_reducible refine (k2.out _).mono ?_); rintro e w1 ⟨rfl, hb⟩; have hx := Ext.trans' hx hb; have hC := Ext.blk hb hC; obtain ⟨m0, m1, m2, m3, m4⟩ := blk5 hC)
      | (go_at_call 10; (with_reducible refine (k3.out _).mono ?_); rintro e w1 ⟨rfl, hb⟩; have hx := Ext.trans' hx hb; have hC := Ext.blk hb hC; obtain ⟨m0, m1, m2, m3, m4⟩ := blk5 hC))
    go_region_held3 (fun w' => w'.cell? ⟨W.heap.size, 0, none⟩ = some (.int .i64 a) ∧ w'.cell? ⟨W.heap.size, 1, none⟩ = some (.int .i64 b) ∧ w'.cell? ⟨W.heap.size, 2, none⟩ = some (.int .i64 p) ∧ w'.cell? ⟨W.heap.size, 3, none⟩ = some (.int .u64 s) ∧ w'.cell? ⟨W.heap.size, 4, none⟩ = some (.bool t))
      (first
        | go_keep
        | (exact ⟨m0, m1, m2, m3, m4⟩))
      (first
        | (go_at_call 14; (with_reducible refine (p3.out _).mono ?_); rintro e w1 ⟨rfl, hb⟩; have hx := Ext.trans' (Ext.drewN hx 1) hb; have hC := Ext.blk hb hC; obtain ⟨m0, m1, m2, m3, m4⟩ := blk5 hC)
        | (go_at_call 11; (with_reducible refine (p1.out _).mono ?_); rintro e w1 ⟨rfl, hb⟩; have hx := Ext.trans' hx hb; have hC := Ext.blk hb hC; obtain ⟨m0, m1, m2, m3, m4⟩ := blk5 hC)
        | (go_at_call 15; (with_reducible refine (p4.out _).mono ?_); rintro e w1 ⟨rfl, hb⟩; have hx := Ext.trans' hx hb; have hC := Ext.blk hb hC; obtain ⟨m0, m1, m2, m3, m4⟩ := blk5 hC)
        | (go_at_call 12; (with_reducible refine (p2.out _ hx).mono ?_); rintro e w1 ⟨rfl, hb⟩; have hx := Ext.trans' hx hb; have hC := Ext.blk hb hC; obtain ⟨m0, m1, m2, m3, m4⟩ := blk5 hC)
        | (go_at_call 13; (with_reducible refine (c3.out _ hx).mono ?_); rintro e w1 ⟨rfl, hb⟩; have hx := Ext.trans' hx hb; have hC := Ext.blk hb hC; obtain ⟨m0, m1, m2, m3, m4⟩ := blk5 hC))
    all_goals
      go_wp2
      go_ret
      exact ⟨rfl, hx⟩
  · have p1 : Box _ := ⟨fun w => parts_yes a b p s t 0 (chk3 a b p) w (by unfold part3; rw [if_neg h]) rfl⟩
    have p2 : Box (∀ w1, Ext W w1 → _) := ⟨fun w1 hw => writes_yes a b p s t ⟨#[]⟩ (chk3 a b p) w1 hb (he.ext hw) (by unfold txt5; rw [if_neg h]) rfl⟩
    have h1 : (chk3 a b p == 0) = false := by rw [beq_eq_false_iff_ne]; exact h
    have h2 : (chk3 a b p != 0) = true := by rw [bne_iff_ne]; exact h
    rw [decide_eq_false h] at k3
    generalize chk3 a b p = k at *
    clear h he hb
    go_enter Tryd.func3, Tryd.ntmps3
    go_wp2_with (first
      | (go_at_call 8; (with_reducible refine (k1.out _).mono ?_); rintro e w1 ⟨rfl, hb⟩; have hx := Ext.trans' hx hb; have hC := Ext.blk hb hC; obtain ⟨m0, m1, m2, m3, m4⟩ := blk5 hC)
      | (go_at_call 9; (with_reducible refine (k2.out _).mono ?_); rintro e w1 ⟨rfl, hb⟩; have hx := Ext.trans' hx hb; have hC := Ext.blk hb hC; obtain ⟨m0, m1, m2, m3, m4⟩ := blk5 hC)
      | (go_at_call 10; (with_reducible refine (k3.out _).mono ?_); rintro e w1 ⟨rfl, hb⟩; have hx := Ext.trans' hx hb; have hC := Ext.blk hb hC; obtain ⟨m0, m1, m2, m3, m4⟩ := blk5 hC)
      | (go_at_call 11; (with_reducible refine (p1.out _).mono ?_); rintro e w1 ⟨rfl, hb⟩; have hx := Ext.trans' hx hb; have hC := Ext.blk hb hC; obtain ⟨m0, m1, m2, m3, m4⟩ := blk5 hC)
      | (go_at_call 12; (with_reducible refine (p2.out _ hx).mono ?_); rintro e w1 ⟨rfl, hb⟩; have hx := Ext.trans' hx hb; have hC := Ext.blk hb hC; obtain ⟨m0, m1, m2, m3, m4⟩ := blk5 hC)
      | (go_at_call 13; (with_reducible refine (c3.out _ hx).mono ?_); rintro e w1 ⟨rfl, hb⟩; have hx := Ext.trans' hx hb))
    go_ret
    exact ⟨rfl, hx⟩
end Go.Proofs.YtpojemlnhbdfmaaDoor
