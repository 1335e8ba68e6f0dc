import Derived.Test.YtcofejbkbcdopaaDoorR17
/- ReportChecks where the auditor's answer has a text; the walk of ReportChecks. -/
namespace Go.Proofs.YtcofejbkbcdopaaDoor
open Go.RowKit
set_option maxRecDepth 100000 in
set_option maxHeartbeats 8000000 in
theorem checks_ok (n k : Nat) (hn : n ≤ 9223372036854775807) (h1 : 1 ≤ k) (h8 : k ≤ 8) (W : World) (ht : EnvV W) :
    Calls Tryd.prog 5 #[.agg #[.int .i64 n, .int .i64 k]] W fun e W' => e = .returned (.bool true) ∧ Below W.heap.size W W' := by
  have ck : Box (∀ w', Ext W w' → _) := ⟨fun w' h => known_any w' (ht.ext h)⟩
  have cc : Box (∀ w', Ext W w' → _) := ⟨fun w' h => check_ok n k hn h1 h8 w' (ht.ext h).env.tabs⟩
  have cd : Box _ := ⟨fun w => l_dec n hn w⟩
  have hx : Ext W (W.alloc (.cells #[.int .i64 n, .int .i64 k] 45)) := Ext.alloc (Below.refl _ _) _
  have hB := newblk W (.cells #[.int .i64 n, .int .i64 k] 45)
  have hfin : (⟨#[114, 101, 115, 117, 108, 116, 32]⟩ : ByteArray) ++ digs n ++ ⟨#[58, 32]⟩ ++ whyS k ++ ⟨#[10]⟩ = ⟨(chkL n k).toArray⟩ := by
    apply str_ext
    simp [chkL, whyS, digs, dd, ByteArray.data_append]
  have z1 := digs_le n (by omega)
  have z2 : (whyS k).size ≤ 6 := whyL_len k
  have d0 : ((n : Int) == -1) = false := by rw [beq_eq_false_iff_ne]; omega
  have d1 : decide ((n : Int) < 0) = false := decide_eq_false (by omega)
  have d2 : decide ((k : Int) < 1) = false := decide_eq_false (by omega)
  have d3 : decide ((8 : Int) < (k : Int)) = false := decide_eq_false (by omega)
  have d4 : decide (k = 0) = false := decide_eq_false (by omega)
  have d5 : ¬ k = 0 := by omega
  have hwc : Box (∀ (w : World) (B : Nat) (T : TypeId), w.heap[B]? = some (.cells #[.string ⟨#[116, 105, 109, 101]⟩, .string ⟨#[101, 118, 101, 110, 116]⟩, .string ⟨#[101, 120, 112, 105, 114, 121]⟩, .string ⟨#[118, 105, 99, 116, 105, 109]⟩, .string ⟨#[98, 117, 100, 103, 101, 116]⟩, .string ⟨#[114, 101, 97, 100]⟩, .string ⟨#[99, 117, 114, 115, 111, 114]⟩, .string ⟨#[101, 114, 114, 111, 114]⟩] T (0, 0)) → w.cell? ⟨B, k - 1, none⟩ = some (.string (whyS k))) := ⟨fun w B T h => why_cellB h k h1 h8⟩
  have u1 : IntKind.i64.wrap ((k : Int) - 1) = (k : Int) - 1 := by rw [IntKind.wrap_i64]; omega
  have u2 : (0 : Int) ≤ (k : Int) - 1 := by omega
  have u3 : (k : Int) - 1 < 8 := by omega
  have u4 : ((k : Int) - 1).toNat = k - 1 := by omega
  have u5 : 1 ≤ (k : Int) := by omega
  obtain ⟨m0, m1⟩ := blk2 hB
  generalize digs n = y1 at *
  generalize whyS k = y2 at *
  generalize (⟨(chkL n k).toArray⟩ : ByteArray) = y3 at *
  have he : (y3.toList == y3.toList) = true := by simp
  have g1 : ¬ 9223372036854775807 < 7 + y1.size := by omega
  have g2 : ¬ 9223372036854775807 < 7 + y1.size + 2 := by omega
  have g3 : ¬ 9223372036854775807 < 7 + y1.size + 2 + y2.size := by omega
  have g4 : ¬ 9223372036854775807 < 7 + y1.size + 2 + y2.size + 1 := by omega
  clear ht hn h1 h8
  go_enter Tryd.func5, Tryd.ntmps5
  go_wp2_with (first
    | (go_at_call 17; (with_reducible refine (cc.out _ hx).mono ?_); rintro e w1 ⟨rfl, hb⟩; replace hx := Ext.trans' hx hb; replace hB := Ext.blk hb hB; clear m0 m1; obtain ⟨m0, m1⟩ := blk2 hB))
  have mw := hwc.out _ _ _ (newblk w1 (.cells #[.string ⟨#[116, 105, 109, 101]⟩, .string ⟨#[101, 118, 101, 110, 116]⟩, .string ⟨#[101, 120, 112, 105, 114, 121]⟩, .string ⟨#[118, 105, 99, 116, 105, 109]⟩, .string ⟨#[98, 117, 100, 103, 101, 116]⟩, .string ⟨#[114, 101, 97, 100]⟩, .string ⟨#[99, 117, 114, 115, 111, 114]⟩, .string ⟨#[101, 114, 114, 111, 114]⟩] 9))
  replace hx := Ext.drew1 (Ext.alloc hx (.cells #[.string ⟨#[116, 105, 109, 101]⟩, .string ⟨#[101, 118, 101, 110, 116]⟩, .string ⟨#[101, 120, 112, 105, 114, 121]⟩, .string ⟨#[118, 105, 99, 116, 105, 109]⟩, .string ⟨#[98, 117, 100, 103, 101, 116]⟩, .string ⟨#[114, 101, 97, 100]⟩, .string ⟨#[99, 117, 114, 115, 111, 114]⟩, .string ⟨#[101, 114, 114, 111, 114]⟩] 9))
  replace m0 := Ext.cell (Ext.drew1 (Ext.alloc (Below.refl _ w1) (.cells #[.string ⟨#[116, 105, 109, 101]⟩, .string ⟨#[101, 118, 101, 110, 116]⟩, .string ⟨#[101, 120, 112, 105, 114, 121]⟩, .string ⟨#[118, 105, 99, 116, 105, 109]⟩, .string ⟨#[98, 117, 100, 103, 101, 116]⟩, .string ⟨#[114, 101, 97, 100]⟩, .string ⟨#[99, 117, 114, 115, 111, 114]⟩, .string ⟨#[101, 114, 114, 111, 114]⟩] 9))) m0
  replace m1 := Ext.cell (Ext.drew1 (Ext.alloc (Below.refl _ w1) (.cells #[.string ⟨#[116, 105, 109, 101]⟩, .string ⟨#[101, 118, 101, 110, 116]⟩, .string ⟨#[101, 120, 112, 105, 114, 121]⟩, .string ⟨#[118, 105, 99, 116, 105, 109]⟩, .string ⟨#[98, 117, 100, 103, 101, 116]⟩, .string ⟨#[114, 101, 97, 100]⟩, .string ⟨#[99, 117, 114, 115, 111, 114]⟩, .string ⟨#[101, 114, 114, 111, 114]⟩] 9))) m1
  replace mw := Ext.cell (Ext.drew1 (Below.refl _ _)) mw
  generalize w1.heap.size = Bw at *
  generalize hWW : w1.alloc (.cells #[.string ⟨#[116, 105, 109, 101]⟩, .string ⟨#[101, 118, 101, 110, 116]⟩, .string ⟨#[101, 120, 112, 105, 114, 121]⟩, .string ⟨#[118, 105, 99, 116, 105, 109]⟩, .string ⟨#[98, 117, 100, 103, 101, 116]⟩, .string ⟨#[114, 101, 97, 100]⟩, .string ⟨#[99, 117, 114, 115, 111, 114]⟩, .string ⟨#[101, 114, 114, 111, 114]⟩] 9) = w2 at *
  clear hWW
  go_region_held3 (fun w' => w'.cell? ⟨W.heap.size, 0, none⟩ = some (.int .i64 n) ∧ w'.cell? ⟨W.heap.size, 1, none⟩ = some (.int .i64 k) ∧ w'.cell? ⟨Bw, k - 1, none⟩ = some (.string y2))
    (first
      | (with_reducible exact ⟨m0, m1, mw⟩)
      | go_keep)
    (first
      | (go_at_call 18; (with_reducible refine (cd.out _).mono ?_); rintro e w3 ⟨rfl, hb⟩; replace hx := Ext.trans' hx hb; replace m0 := Ext.cell hb m0; replace m1 := Ext.cell hb m1; replace mw := Ext.cell hb mw)
      | (go_at_call 9; (with_reducible refine (ck.out _ hx).mono ?_); rintro e w3 ⟨rfl, hb⟩; replace hx := Ext.trans' hx hb; replace m0 := Ext.cell hb m0; replace m1 := Ext.cell hb m1; replace mw := Ext.cell hb mw))
  all_goals
    go_wp2
    go_ret
    exact ⟨rfl, hx⟩
theorem lawReportChecks_walk (v : Value) (W : World) (hv : TwoArg v) (ht : EnvV W) : Calls Tryd.prog 5 #[v] W fun e W' => e = .returned (.bool true) ∧ Below W.heap.size W W' := by
  obtain ⟨n, k, rfl, wn, wk⟩ := hv
  have h9 := wf_i64 wn
  by_cases h1 : n = -1 ∧ k = 0
  · exact checks_easy n k W ht (Or.inl h1)
  · by_cases h2 : n < 0 ∨ k < 1 ∨ 8 < k
    · exact checks_easy n k W ht (Or.inr ⟨h1, h2⟩)
    · obtain ⟨n, rfl⟩ : ∃ m : Nat, n = m := ⟨n.toNat, by omega⟩
      obtain ⟨k, rfl⟩ : ∃ m : Nat, k = m := ⟨k.toNat, by omega⟩
      exact checks_ok n k (by omega) (by omega) (by omega) W ht
end Go.Proofs.YtcofejbkbcdopaaDoor
