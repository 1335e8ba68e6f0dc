import Derived.Test.YtcofejbkbcdopaaDoorR23
/- The walk of ReportCounts. -/
namespace Go.Proofs.YtcofejbkbcdopaaDoor
open Go.RowKit Go.Lib
theorem eqFA (f : Nat → Int) (w : World) : (Op.equalIn 10000 54 (.agg #[.int .i64 (f 0), .int .i64 (f 1), .int .i64 (f 2), .int .i64 (f 3), .int .i64 (f 4), .int .i64 (f 5), .int .i64 (f 6), .int .i64 (f 7), .int .i64 (f 8), .int .i64 (f 9), .int .i64 (f 10), .int .i64 (f 11)]) (.agg #[.int .i64 (f 0), .int .i64 (f 1), .int .i64 (f 2), .int .i64 (f 3), .int .i64 (f 4), .int .i64 (f 5), .int .i64 (f 6), .int .i64 (f 7), .int .i64 (f 8), .int .i64 (f 9), .int .i64 (f 10), .int .i64 (f 11)])).run Tryd.prog w = .ok true w := by
  have h := eqRC f f w
  rw [(eqB_iff f f).2 (fun _ _ => rfl)] at h
  exact h
theorem eqNA (n : Int) (w : World) : (Op.equalIn 10000 54 (.agg #[.int .i64 n, .int .i64 0, .int .i64 0, .int .i64 0, .int .i64 0, .int .i64 0, .int .i64 0, .int .i64 0, .int .i64 0, .int .i64 0, .int .i64 0, .int .i64 0]) (.agg #[.int .i64 n, .int .i64 0, .int .i64 0, .int .i64 0, .int .i64 0, .int .i64 0, .int .i64 0, .int .i64 0, .int .i64 0, .int .i64 0, .int .i64 0, .int .i64 0])).run Tryd.prog w = .ok true w :=
  eqFA (fun i => if i = 0 then n else 0) w
set_option maxRecDepth 100000 in
set_option maxHeartbeats 8000000 in
theorem counts_main (a : Option Addr) (c : Nat) (L : List Res) (many : Int) (W : World) (hn : L.length ≤ c) (hc : c ≤ 9223372036854775807) (hC : CellsAt W a (rows Res.cs L)) (hE : ∀ x ∈ L, CellsAt W x.ea (rows Ev6.cs x.el)) (hl : LightP L 40) (hm : many < 4095 ∨ 4097 < many) (ht : EnvV W) :
    Calls Tryd.prog 6 #[.slice a L.length c, .int .i64 many] W fun e W' => e = .returned (.bool true) ∧ Below W.heap.size W W' := by
  have cl : Box _ := ⟨light_any a c L W (by omega) hC true ⟨fun _ => hl, fun _ => rfl⟩⟩
  have ck : Box (∀ w', Ext W w' → _) := ⟨fun w' h => known_any w' (ht.ext h)⟩
  have h40 : L.length ≤ 4096 := by have := hl.1; omega
  have co : Box (∀ w', Ext W w' → Calls Tryd.prog 20 #[.slice a L.length c] w' fun e w'' => e = .returned (.tuple #[.agg #[.int .i64 (fR L 0), .int .i64 (fR L 1), .int .i64 (fR L 2), .int .i64 (fR L 3), .int .i64 (fR L 4), .int .i64 (fR L 5), .int .i64 (fR L 6), .int .i64 (fR L 7), .int .i64 (fR L 8), .int .i64 (fR L 9), .int .i64 (fR L 10), .int .i64 (fR L 11)], .int .i64 0]) ∧ Ext w' w'') := ⟨fun w' h => ofrun_any a c L w' h40 hl.2 (hC.ext h) (fun x hx => (hE x hx).ext h) (ht.ext h)⟩
  have cc : Box (∀ w', Ext W w' → Calls Tryd.prog 21 #[.slice a L.length c] w' fun e w'' => e = .returned (.agg #[.int .i64 (fR L 0), .int .i64 (fR L 1), .int .i64 (fR L 2), .int .i64 (fR L 3), .int .i64 (fR L 4), .int .i64 (fR L 5), .int .i64 (fR L 6), .int .i64 (fR L 7), .int .i64 (fR L 8), .int .i64 (fR L 9), .int .i64 (fR L 10), .int .i64 (fR L 11)]) ∧ Ext w' w'') := ⟨fun w' h => count_any a c L w' h40 hl.2 (hC.ext h) (fun x hx => (hE x hx).ext h)⟩
  have hmd : (decide (4095 ≤ many) = true ∧ decide (many ≤ 4097) = false) ∨ decide (4095 ≤ many) = false := by
    by_cases h : 4095 ≤ many
    · exact Or.inl ⟨decide_eq_true h, decide_eq_false (by omega)⟩
    · exact Or.inr (decide_eq_false h)
  have ge := rc_struct.2.2
  have hx : Ext W W := Below.refl _ _
  generalize fR L = f at *
  have qe := eqFA f
  clear hC hE hl hm ht h40 hn
  generalize L.length = n at *
  rcases hmd with ⟨m1, m2⟩ | m1
  all_goals
    go_enter Tryd.func6, Tryd.ntmps6
    go_upto_region 9 with (first
      | (go_at_call 19; (with_reducible refine cl.out.mono ?_); rintro e w1 ⟨rfl, hb⟩; replace hx := Ext.trans' hx hb)
      | (go_at_call 20; (with_reducible refine (co.out _ hx).mono ?_); rintro e w2 ⟨rfl, hb⟩; replace hx := Ext.trans' hx hb)
      | (refine wpList_store_new rfl w2 54 (.tmp 7) (.tmp 51) rfl _ #[.int .i64 (f 0), .int .i64 (f 1), .int .i64 (f 2), .int .i64 (f 3), .int .i64 (f 4), .int .i64 (f 5), .int .i64 (f 6), .int .i64 (f 7), .int .i64 (f 8), .int .i64 (f 9), .int .i64 (f 10), .int .i64 (f 11)] rfl rfl infoRC rfl (oneRC f) ?_))
    have hR := newblk w2 (.cells #[.int .i64 (f 0), .int .i64 (f 1), .int .i64 (f 2), .int .i64 (f 3), .int .i64 (f 4), .int .i64 (f 5), .int .i64 (f 6), .int .i64 (f 7), .int .i64 (f 8), .int .i64 (f 9), .int .i64 (f 10), .int .i64 (f 11)] 54)
    have q0 : (w2.alloc (.cells #[.int .i64 (f 0), .int .i64 (f 1), .int .i64 (f 2), .int .i64 (f 3), .int .i64 (f 4), .int .i64 (f 5), .int .i64 (f 6), .int .i64 (f 7), .int .i64 (f 8), .int .i64 (f 9), .int .i64 (f 10), .int .i64 (f 11)] 54)).cell? ⟨w2.heap.size, 0, none⟩ = some (.int .i64 (f 0)) := by rw [Lib.cell_of_heap hR]; rfl
    have q1 : (w2.alloc (.cells #[.int .i64 (f 0), .int .i64 (f 1), .int .i64 (f 2), .int .i64 (f 3), .int .i64 (f 4), .int .i64 (f 5), .int .i64 (f 6), .int .i64 (f 7), .int .i64 (f 8), .int .i64 (f 9), .int .i64 (f 10), .int .i64 (f 11)] 54)).cell? ⟨w2.heap.size, 1, none⟩ = some (.int .i64 (f 1)) := by rw [Lib.cell_of_heap hR]; rfl
    have q2 : (w2.alloc (.cells #[.int .i64 (f 0), .int .i64 (f 1), .int .i64 (f 2), .int .i64 (f 3), .int .i64 (f 4), .int .i64 (f 5), .int .i64 (f 6), .int .i64 (f 7), .int .i64 (f 8), .int .i64 (f 9), .int .i64 (f 10), .int .i64 (f 11)] 54)).cell? ⟨w2.heap.size, 2, none⟩ = some (.int .i64 (f 2)) := by rw [Lib.cell_of_heap hR]; rfl
    have q3 : (w2.alloc (.cells #[.int .i64 (f 0), .int .i64 (f 1), .int .i64 (f 2), .int .i64 (f 3), .int .i64 (f 4), .int .i64 (f 5), .int .i64 (f 6), .int .i64 (f 7), .int .i64 (f 8), .int .i64 (f 9), .int .i64 (f 10), .int .i64 (f 11)] 54)).cell? ⟨w2.heap.size, 3, none⟩ = some (.int .i64 (f 3)) := by rw [Lib.cell_of_heap hR]; rfl
    have q4 : (w2.alloc (.cells #[.int .i64 (f 0), .int .i64 (f 1), .int .i64 (f 2), .int .i64 (f 3), .int .i64 (f 4), .int .i64 (f 5), .int .i64 (f 6), .int .i64 (f 7), .int .i64 (f 8), .int .i64 (f 9), .int .i64 (f 10), .int .i64 (f 11)] 54)).cell? ⟨w2.heap.size, 4, none⟩ = some (.int .i64 (f 4)) := by rw [Lib.cell_of_heap hR]; rfl
    have q5 : (w2.alloc (.cells #[.int .i64 (f 0), .int .i64 (f 1), .int .i64 (f 2), .int .i64 (f 3), .int .i64 (f 4), .int .i64 (f 5), .int .i64 (f 6), .int .i64 (f 7), .int .i64 (f 8), .int .i64 (f 9), .int .i64 (f 10), .int .i64 (f 11)] 54)).cell? ⟨w2.heap.size, 5, none⟩ = some (.int .i64 (f 5)) := by rw [Lib.cell_of_heap hR]; rfl
    have q6 : (w2.alloc (.cells #[.int .i64 (f 0), .int .i64 (f 1), .int .i64 (f 2), .int .i64 (f 3), .int .i64 (f 4), .int .i64 (f 5), .int .i64 (f 6), .int .i64 (f 7), .int .i64 (f 8), .int .i64 (f 9), .int .i64 (f 10), .int .i64 (f 11)] 54)).cell? ⟨w2.heap.size, 6, none⟩ = some (.int .i64 (f 6)) := by rw [Lib.cell_of_heap hR]; rfl
    have q7 : (w2.alloc (.cells #[.int .i64 (f 0), .int .i64 (f 1), .int .i64 (f 2), .int .i64 (f 3), .int .i64 (f 4), .int .i64 (f 5), .int .i64 (f 6), .int .i64 (f 7), .int .i64 (f 8), .int .i64 (f 9), .int .i64 (f 10), .int .i64 (f 11)] 54)).cell? ⟨w2.heap.size, 7, none⟩ = some (.int .i64 (f 7)) := by rw [Lib.cell_of_heap hR]; rfl
    have q8 : (w2.alloc (.cells #[.int .i64 (f 0), .int .i64 (f 1), .int .i64 (f 2), .int .i64 (f 3), .int .i64 (f 4), .int .i64 (f 5), .int .i64 (f 6), .int .i64 (f 7), .int .i64 (f 8), .int .i64 (f 9), .int .i64 (f 10), .int .i64 (f 11)] 54)).cell? ⟨w2.heap.size, 8, none⟩ = some (.int .i64 (f 8)) := by rw [Lib.cell_of_heap hR]; rfl
    have q9 : (w2.alloc (.cells #[.int .i64 (f 0), .int .i64 (f 1), .int .i64 (f 2), .int .i64 (f 3), .int .i64 (f 4), .int .i64 (f 5), .int .i64 (f 6), .int .i64 (f 7), .int .i64 (f 8), .int .i64 (f 9), .int .i64 (f 10), .int .i64 (f 11)] 54)).cell? ⟨w2.heap.size, 9, none⟩ = some (.int .i64 (f 9)) := by rw [Lib.cell_of_heap hR]; rfl
    have q10 : (w2.alloc (.cells #[.int .i64 (f 0), .int .i64 (f 1), .int .i64 (f 2), .int .i64 (f 3), .int .i64 (f 4), .int .i64 (f 5), .int .i64 (f 6), .int .i64 (f 7), .int .i64 (f 8), .int .i64 (f 9), .int .i64 (f 10), .int .i64 (f 11)] 54)).cell? ⟨w2.heap.size, 10, none⟩ = some (.int .i64 (f 10)) := by rw [Lib.cell_of_heap hR]; rfl
    have q11 : (w2.alloc (.cells #[.int .i64 (f 0), .int .i64 (f 1), .int .i64 (f 2), .int .i64 (f 3), .int .i64 (f 4), .int .i64 (f 5), .int .i64 (f 6), .int .i64 (f 7), .int .i64 (f 8), .int .i64 (f 9), .int .i64 (f 10), .int .i64 (f 11)] 54)).cell? ⟨w2.heap.size, 11, none⟩ = some (.int .i64 (f 11)) := by rw [Lib.cell_of_heap hR]; rfl
    replace hx := Ext.alloc hx (.cells #[.int .i64 (f 0), .int .i64 (f 1), .int .i64 (f 2), .int .i64 (f 3), .int .i64 (f 4), .int .i64 (f 5), .int .i64 (f 6), .int .i64 (f 7), .int .i64 (f 8), .int .i64 (f 9), .int .i64 (f 10), .int .i64 (f 11)] 54)
    generalize w2.heap.size = Y at *
    generalize w2.alloc (.cells #[.int .i64 (f 0), .int .i64 (f 1), .int .i64 (f 2), .int .i64 (f 3), .int .i64 (f 4), .int .i64 (f 5), .int .i64 (f 6), .int .i64 (f 7), .int .i64 (f 8), .int .i64 (f 9), .int .i64 (f 10), .int .i64 (f 11)] 54) = w3 at *
    clear hR
    have hdr := Ext.drew1 (Below.refl w3.heap.size w3)
    replace hx := Ext.drew1 hx
    replace q0 := Ext.cell hdr q0
    replace q1 := Ext.cell hdr q1
    replace q2 := Ext.cell hdr q2
    replace q3 := Ext.cell hdr q3
    replace q4 := Ext.cell hdr q4
    replace q5 := Ext.cell hdr q5
    replace q6 := Ext.cell hdr q6
    replace q7 := Ext.cell hdr q7
    replace q8 := Ext.cell hdr q8
    replace q9 := Ext.cell hdr q9
    replace q10 := Ext.cell hdr q10
    replace q11 := Ext.cell hdr q11
    clear hdr
    go_region_held3 (fun w' => w'.cell? ⟨Y, 0, none⟩ = some (.int .i64 (f 0)) ∧ w'.cell? ⟨Y, 1, none⟩ = some (.int .i64 (f 1)) ∧ w'.cell? ⟨Y, 2, none⟩ = some (.int .i64 (f 2)) ∧ w'.cell? ⟨Y, 3, none⟩ = some (.int .i64 (f 3)) ∧ w'.cell? ⟨Y, 4, none⟩ = some (.int .i64 (f 4)) ∧ w'.cell? ⟨Y, 5, none⟩ = some (.int .i64 (f 5)) ∧ w'.cell? ⟨Y, 6, none⟩ = some (.int .i64 (f 6)) ∧ w'.cell? ⟨Y, 7, none⟩ = some (.int .i64 (f 7)) ∧ w'.cell? ⟨Y, 8, none⟩ = some (.int .i64 (f 8)) ∧ w'.cell? ⟨Y, 9, none⟩ = some (.int .i64 (f 9)) ∧ w'.cell? ⟨Y, 10, none⟩ = some (.int .i64 (f 10)) ∧ w'.cell? ⟨Y, 11, none⟩ = some (.int .i64 (f 11)))
      (first
        | (with_reducible exact ⟨q0, q1, q2, q3, q4, q5, q6, q7, q8, q9, q10, q11⟩)
        | go_keep)
      (first
        | (go_at_call 21; (with_reducible refine (cc.out _ hx).mono ?_); rintro e w4 ⟨rfl, hb⟩; replace hx := Ext.trans' hx hb; replace q0 := Ext.cell hb q0; replace q1 := Ext.cell hb q1; replace q2 := Ext.cell hb q2; replace q3 := Ext.cell hb q3; replace q4 := Ext.cell hb q4; replace q5 := Ext.cell hb q5; replace q6 := Ext.cell hb q6; replace q7 := Ext.cell hb q7; replace q8 := Ext.cell hb q8; replace q9 := Ext.cell hb q9; replace q10 := Ext.cell hb q10; replace q11 := Ext.cell hb q11)
        | (go_at_call 9; (with_reducible refine (ck.out _ hx).mono ?_); rintro e w4 ⟨rfl, hb⟩; replace hx := Ext.trans' hx hb; replace q0 := Ext.cell hb q0; replace q1 := Ext.cell hb q1; replace q2 := Ext.cell hb q2; replace q3 := Ext.cell hb q3; replace q4 := Ext.cell hb q4; replace q5 := Ext.cell hb q5; replace q6 := Ext.cell hb q6; replace q7 := Ext.cell hb q7; replace q8 := Ext.cell hb q8; replace q9 := Ext.cell hb q9; replace q10 := Ext.cell hb q10; replace q11 := Ext.cell hb q11))
    all_goals
      go_wp2
      go_ret
      exact ⟨rfl, hx⟩
end Go.Proofs.YtcofejbkbcdopaaDoor
