import Derived.Test.YtcofejbkbcdopaaDoorR24
/- The walk of ReportCounts: lists that are not light, and lists of zero results. -/
namespace Go.Proofs.YtcofejbkbcdopaaDoor
open Go.RowKit Go.Lib
theorem zrun_any (a : Option Addr) (c n : Nat) (w : World) (h : n ≤ 4096) (hC : CellsAt w a (rows Res.cs (List.replicate n zRes))) (hw : EnvV w) :
    Calls Tryd.prog 20 #[.slice a n c] w fun e w' => e = .returned (.tuple #[.agg #[.int .i64 n, .int .i64 0, .int .i64 0, .int .i64 0, .int .i64 0, .int .i64 0, .int .i64 0, .int .i64 0, .int .i64 0, .int .i64 0, .int .i64 0, .int .i64 0], .int .i64 0]) ∧ Ext w w' := by
  have hz : ∀ x ∈ List.replicate n zRes, x = zRes := fun x hx => List.eq_of_mem_replicate hx
  have h1 := ofrun_any a c (List.replicate n zRes) w (by rw [List.length_replicate]; exact h) (fun x hx => by rw [hz x hx]; decide) hC (fun x hx => by rw [hz x hx]; intro j u hj; simp [zRes, rows] at hj) hw
  rw [List.length_replicate, rC_congr (fR_zero n zRes rfl rfl rfl rfl rfl)] at h1
  exact h1
theorem range_new (w : World) (cs : List Value) (t : TypeId) : (w.alloc (.cells cs.toArray t)).rangeAt w.heap.size 0 cs := fun j v hv => by
  rw [Nat.zero_add, World.cell?_alloc_new]
  simpa using hv
set_option maxRecDepth 100000 in
set_option maxHeartbeats 4000000 in
theorem counts_no (a : Option Addr) (c : Nat) (L : List Res) (many : Int) (W : World) (hn : L.length ≤ c) (hc : c ≤ 9223372036854775807) (hC : CellsAt W a (rows Res.cs L)) (hl : ¬ LightP L 40) (ht : EnvV W) :
    Calls Tryd.prog 6 #[.slice a L.length c, .int .i64 many] W fun e W' => e = .returned (.bool true) ∧ Below W.heap.size W W' := by
  have cl : Box _ := ⟨light_any a c L W (by omega) hC false ⟨fun h => (by cases h), fun h => absurd h hl⟩⟩
  have ck : Box (∀ w', Ext W w' → _) := ⟨fun w' h => known_any w' (ht.ext h)⟩
  have hx : Ext W W := Below.refl _ _
  clear hC hl ht hn
  generalize L.length = n at *
  go_enter Tryd.func6, Tryd.ntmps6
  go_wp2_with (first
    | (go_at_call 19; (with_reducible refine cl.out.mono ?_); rintro e w1 ⟨rfl, hb⟩; replace hx := Ext.trans' hx hb)
    | (go_at_call 9; (with_reducible refine (ck.out _ hx).mono ?_); rintro e w4 ⟨rfl, hb⟩; replace hx := Ext.trans' hx hb))
  go_ret
  exact ⟨rfl, hx⟩
set_option maxRecDepth 100000 in
set_option maxHeartbeats 8000000 in
theorem counts_make (a : Option Addr) (c : Nat) (L : List Res) (m : Nat) (W : World) (hn : L.length ≤ c) (hc : c ≤ 9223372036854775807) (hC : CellsAt W a (rows Res.cs L)) (hl : LightP L 40) (h1 : 4095 ≤ m) (h2 : m ≤ 4096) (ht : EnvV W) :
    Calls Tryd.prog 6 #[.slice a L.length c, .int .i64 m] W fun e W' => e = .returned (.bool true) ∧ Below W.heap.size W W' := by
  have cl : Box _ := ⟨light_any a c L W (by omega) hC true ⟨fun _ => hl, fun _ => rfl⟩⟩
  have ck : Box (∀ w', Ext W w' → _) := ⟨fun w' h => known_any w' (ht.ext h)⟩
  have hE : Box (∀ w', Ext W w' → EnvV w') := ⟨fun w' h => ht.ext h⟩
  obtain ⟨i0, hi, hzz⟩ := Option.map_eq_some_iff.1 infoResZ
  simp only [Prod.mk.injEq, decide_eq_true_eq] at hzz
  obtain ⟨hz0, hz1, hz2⟩ := hzz
  have hbb : i0.bytes * m ≤ 1000 * 4096 := Nat.mul_le_mul hz2 h2
  have d1 : decide ((4095 : Int) ≤ (m : Int)) = true := decide_eq_true (by omega)
  have d2 : decide ((m : Int) ≤ 4097) = true := decide_eq_true (by omega)
  have d3 : decide ((4096 : Int) < (m : Int)) = false := decide_eq_false (by omega)
  have d1' : decide (4095 ≤ m) = true := decide_eq_true (by omega)
  have d2' : decide (m ≤ 4097) = true := decide_eq_true (by omega)
  have d3' : decide (4096 < m) = false := decide_eq_false (by omega)
  have ge := rc_struct.2.2
  have qe := eqNA m
  obtain ⟨dC, huC, hdC⟩ := und_row rowRC
  have hx : Ext W W := Below.refl _ _
  clear hC hl ht hn
  generalize L.length = n at *
  go_enter Tryd.func6, Tryd.ntmps6
  go_wp2_with (first
    | (go_at_call 19; (with_reducible refine cl.out.mono ?_); rintro e w1 ⟨rfl, hb⟩; replace hx := Ext.trans' hx hb)
    | (at_make; refine wpList_make_full w1 rfl _ _ 50 rfl w1.heap.size 75 i0 (.agg (Res.cs zRes).toArray) 21 Tryd.underlying50 hi hz0 hz1 .i64 .i64 _ _ m rfl rfl rfl rfl (by omega) (by unfold maxLen; omega) (Nat.le_refl _) ?_; intro w4 hown hgrow; have hb4 := Below.grown (Below.refl w1.heap.size w1) hgrow (Nat.le_refl _) (fun j hj => by cases hj); replace hx := Ext.trans' hx hb4; obtain ⟨a4, c4, e4, _, _, hcells⟩ := Sl.owns hown (by omega); cases e4; rw [show ((Value.agg (Res.cs zRes).toArray).cells) = (Res.cs zRes).toArray from rfl, made_rows] at hcells)
    | (go_at_call 20; (with_reducible refine (zrun_any _ _ m _ h2 hcells (hE.out _ hx)).mono ?_); rintro e w2 ⟨rfl, hb⟩; replace hx := Ext.trans' hx hb)
    | (refine wpList_store_new rfl w2 54 (.tmp 5) (.tmp 23) rfl _ #[.int .i64 m, .int .i64 0, .int .i64 0, .int .i64 0, .int .i64 0, .int .i64 0, .int .i64 0, .int .i64 0, .int .i64 0, .int .i64 0, .int .i64 0, .int .i64 0] rfl rfl infoRC rfl rfl ?_)
    | (refine wpList_load_mid rfl 54 (.tmp 5) rfl w2.heap.size 0 rfl [.int .i64 m, .int .i64 0, .int .i64 0, .int .i64 0, .int .i64 0, .int .i64 0, .int .i64 0, .int .i64 0, .int .i64 0, .int .i64 0, .int .i64 0, .int .i64 0] dC (range_new w2 [.int .i64 m, .int .i64 0, .int .i64 0, .int .i64 0, .int .i64 0, .int .i64 0, .int .i64 0, .int .i64 0, .int .i64 0, .int .i64 0, .int .i64 0, .int .i64 0] 54) huC hdC infoRC ?_)
    | (go_at_call 9; (with_reducible refine (ck.out _ (Ext.alloc hx _)).mono ?_); rintro e w5 ⟨rfl, hb⟩; replace hx := Ext.trans' (Ext.alloc hx _) hb))
  go_ret
  exact ⟨rfl, hx⟩
set_option maxRecDepth 100000 in
set_option maxHeartbeats 8000000 in
theorem counts_over (a : Option Addr) (c : Nat) (L : List Res) (W : World) (hn : L.length ≤ c) (hc : c ≤ 9223372036854775807) (hC : CellsAt W a (rows Res.cs L)) (hl : LightP L 40) (ht : EnvV W) :
    Calls Tryd.prog 6 #[.slice a L.length c, .int .i64 4097] W fun e W' => e = .returned (.bool true) ∧ Below W.heap.size W W' := by
  have cl : Box _ := ⟨light_any a c L W (by omega) hC true ⟨fun _ => hl, fun _ => rfl⟩⟩
  have ck : Box (∀ w', Ext W w' → _) := ⟨fun w' h => known_any w' (ht.ext h)⟩
  have co : Box (∀ a c w, Calls Tryd.prog 20 #[.slice a 4097 c] w fun e w' => e = .returned (.tuple #[.agg #[.int .i64 0, .int .i64 0, .int .i64 0, .int .i64 0, .int .i64 0, .int .i64 0, .int .i64 0, .int .i64 0, .int .i64 0, .int .i64 0, .int .i64 0, .int .i64 0], .int .i64 7]) ∧ Ext w w') := ⟨fun a c w => ofrun_long a c 4097 w (by omega) (by omega)⟩
  obtain ⟨i0, hi, hzz⟩ := Option.map_eq_some_iff.1 infoResZ
  simp only [Prod.mk.injEq, decide_eq_true_eq] at hzz
  obtain ⟨hz0, hz1, hz2⟩ := hzz
  have ge := rc_struct.2.2
  have qe := eqNA 0
  obtain ⟨dC, huC, hdC⟩ := und_row rowRC
  have hx : Ext W W := Below.refl _ _
  clear hC hl ht hn
  generalize L.length = n at *
  go_enter Tryd.func6, Tryd.ntmps6
  go_wp2_with (first
    | (go_at_call 19; (with_reducible refine cl.out.mono ?_); rintro e w1 ⟨rfl, hb⟩; replace hx := Ext.trans' hx hb)
    | (at_make; refine wpList_make_full w1 rfl _ _ 50 rfl w1.heap.size 75 i0 (.agg (Res.cs zRes).toArray) 21 Tryd.underlying50 hi hz0 hz1 .i64 .i64 _ _ 4097 rfl rfl rfl rfl (by omega) (by unfold maxLen; omega) (Nat.le_refl _) ?_; intro w4 hown hgrow; have hb4 := Below.grown (Below.refl w1.heap.size w1) hgrow (Nat.le_refl _) (fun j hj => by cases hj); replace hx := Ext.trans' hx hb4)
    | (go_at_call 20; (with_reducible refine (co.out _ _ _).mono ?_); rintro e w2 ⟨rfl, hb⟩; replace hx := Ext.trans' hx hb)
    | (refine wpList_store_new rfl w2 54 (.tmp 5) (.tmp 23) rfl _ #[.int .i64 0, .int .i64 0, .int .i64 0, .int .i64 0, .int .i64 0, .int .i64 0, .int .i64 0, .int .i64 0, .int .i64 0, .int .i64 0, .int .i64 0, .int .i64 0] rfl rfl infoRC rfl rfl ?_)
    | (refine wpList_load_mid rfl 54 (.tmp 5) rfl w2.heap.size 0 rfl [.int .i64 0, .int .i64 0, .int .i64 0, .int .i64 0, .int .i64 0, .int .i64 0, .int .i64 0, .int .i64 0, .int .i64 0, .int .i64 0, .int .i64 0, .int .i64 0] dC (range_new w2 [.int .i64 0, .int .i64 0, .int .i64 0, .int .i64 0, .int .i64 0, .int .i64 0, .int .i64 0, .int .i64 0, .int .i64 0, .int .i64 0, .int .i64 0, .int .i64 0] 54) huC hdC infoRC ?_)
    | (go_at_call 9; (with_reducible refine (ck.out _ (Ext.alloc hx _)).mono ?_); rintro e w5 ⟨rfl, hb⟩; replace hx := Ext.trans' (Ext.alloc hx _) hb))
  go_ret
  exact ⟨rfl, hx⟩
theorem lawReportCounts_walk (v : Value) (many : Int) (W : World) (hv : ∃ L, ResArg W v L) (wm : (Lit.int .i64 many).wf = true) (ht : EnvV W) :
    Calls Tryd.prog 6 #[v, .int .i64 many] W fun e W' => e = .returned (.bool true) ∧ Below W.heap.size W W' := by
  obtain ⟨L, a, c, rfl, hn, hc, hC, hE⟩ := hv
  have h9 := wf_i64 wm
  by_cases hl : LightP L 40
  · by_cases h1 : many < 4095 ∨ 4097 < many
    · exact counts_main a c L many W hn hc hC hE hl h1 ht
    · by_cases h2 : many = 4097
      · subst h2
        exact counts_over a c L W hn hc hC hl ht
      · obtain ⟨m, rfl⟩ : ∃ m : Nat, many = m := ⟨many.toNat, by omega⟩
        exact counts_make a c L m W hn hc hC hl (by omega) (by omega) ht
  · exact counts_no a c L many W hn hc hC hl ht
end Go.Proofs.YtcofejbkbcdopaaDoor
