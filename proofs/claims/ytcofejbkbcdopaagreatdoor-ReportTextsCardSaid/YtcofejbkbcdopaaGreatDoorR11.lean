import Derived.Test.YtcofejbkbcdopaaGreatDoorR4
import Derived.Test.YtcofejbkbcdopaaGreatDoorEB
import Derived.Deep.AppendLies
import Derived.Deep.CutRange
/- Contracts: the word of a kind of events; the report's words and numbers. -/
namespace Go.Proofs.YtcofejbkbcdopaaGreatDoor
open Go.RowKit
theorem infoStr : (Tryz.prog.info? 9).map (fun i => (i.zero, i.size, i.bytes)) = some (some (.string ⟨#[]⟩), 1, 16) := by kernel_rfl
theorem infoPtr : (Tryz.prog.info? 66).map (fun i => (i.zero, i.size, i.bytes)) = some (some (.pointer none), 1, 8) := by kernel_rfl
def kB (k : Int) : Bool := decide (1 ≤ k) && decide (k < 6)
set_option maxHeartbeats 1000000 in
theorem kind_any (k : Int) (w : World) : Calls Tryz.prog 44 #[.int .i64 k] w fun e w' => e = .returned (.bool (kB k)) ∧ w = w' := by
  unfold kB
  by_cases h : 1 ≤ k
  · have d1 : decide (1 ≤ k) = true := decide_eq_true h
    clear h
    go_enter Tryz.func44, Tryz.ntmps44
    go_wp2
    go_ret
    exact ⟨ret_bool (by simp [d1]), rfl⟩
  · have d1 : decide (1 ≤ k) = false := decide_eq_false h
    clear h
    go_enter Tryz.func44, Tryz.ntmps44
    go_wp2
    go_ret
    exact ⟨ret_bool (by simp [d1]), rfl⟩
theorem eword_ok (k : Nat) (h1 : 1 ≤ k) (h5 : k ≤ 5) (w : World) (hw : EnvV w) : Calls Tryz.prog 30 #[.int .i64 k] w fun e w' => e = .returned (.string (wordS k)) ∧ w = w' := by
  have c1 : Box _ := ⟨fun w => kind_any k w⟩
  have hk : kB k = true := by unfold kB; rw [decide_eq_true (by omega), decide_eq_true (by omega)]; rfl
  rw [hk] at c1
  have hc := hw.word k (by omega)
  have i1 : (k : Int) < 6 := by omega
  have i2 : k < 6 := by omega
  have hfz : True := trivial
  generalize wordS k = s at *
  clear hk hw h1 h5
  go_enter Tryz.func30, Tryz.ntmps30
  go_wp2_with (go_at_call 44; (with_reducible refine (c1.out _).mono ?_); rintro e w' ⟨rfl, rfl⟩)
  go_ret
  exact ⟨rfl, rfl⟩
theorem eword_bad (k : Int) (h : kB k = false) (w : World) : Calls Tryz.prog 30 #[.int .i64 k] w fun e w' => e = .returned (.string ⟨#[]⟩) ∧ w = w' := by
  have c1 : Box _ := ⟨fun w => kind_any k w⟩
  rw [h] at c1
  clear h
  go_enter Tryz.func30, Tryz.ntmps30
  go_wp2_with (go_at_call 44; (with_reducible refine (c1.out _).mono ?_); rintro e w' ⟨rfl, rfl⟩)
  go_ret
  exact ⟨rfl, rfl⟩
def wSR (i : Nat) : ByteArray := ⟨(wR i).toArray⟩
theorem wordS_R (k : Nat) (h1 : 1 ≤ k) (h5 : k ≤ 5) : wordS k = wSR (4 + k) := by
  obtain rfl | rfl | rfl | rfl | rfl : k = 1 ∨ k = 2 ∨ k = 3 ∨ k = 4 ∨ k = 5 := by omega
  all_goals rfl
def wsR (n : Nat) : List Value := (List.range n).map fun i => .string (wSR i)
theorem wsR_succ (n : Nat) : wsR (n + 1) = wsR n ++ [.string (wSR n)] := by simp [wsR, List.range_succ]
/-- The words lie in a row. -/
def WordsAt (w : World) (v : Value) : Prop := ∃ g cap, v = .slice (some ⟨g, 0, none⟩) 12 cap ∧ ∀ j, j < 12 → w.cell? ⟨g, j, none⟩ = some (.string (wSR j))
set_option maxRecDepth 100000 in
set_option maxHeartbeats 4000000 in
theorem rwords_any (w : World) (hw : EnvV w) : Calls Tryz.prog 19 #[] w fun e w' => ∃ v, e = .returned v ∧ WordsAt w' v ∧ Ext w w' := by
  obtain ⟨i0, hi, hz0, hz1, hz2⟩ := info_parts infoStr
  have hE : Box (∀ w', Ext w w' → EnvV w') := ⟨fun w' h => hw.ext h⟩
  clear hw
  go_enter Tryz.func19, Tryz.ntmps19
  go_wp2
  have hown0 : (w.alloc (.cells #[.string ⟨#[111, 112, 115]⟩, .string ⟨#[101, 114, 114, 111, 114, 115]⟩, .string ⟨#[103, 101, 116, 115]⟩, .string ⟨#[104, 105, 116, 115]⟩, .string ⟨#[115, 101, 116, 115]⟩] 9)).ownsRow w.heap.size 9 1 (.slice (some ⟨w.heap.size, 0, none⟩) 5 5) 5 (wsR 5) := by
    have := World.ownsRow_lit (base := w.heap.size) (e := 9) (size := 1) w #[.string ⟨#[111, 112, 115]⟩, .string ⟨#[101, 114, 114, 111, 114, 115]⟩, .string ⟨#[103, 101, 116, 115]⟩, .string ⟨#[104, 105, 116, 115]⟩, .string ⟨#[115, 101, 116, 115]⟩] 5 (Nat.le_refl _) (by unfold maxLen; decide) rfl
    exact this
  have hx0 : Ext w (w.alloc (.cells #[.string ⟨#[111, 112, 115]⟩, .string ⟨#[101, 114, 114, 111, 114, 115]⟩, .string ⟨#[103, 101, 116, 115]⟩, .string ⟨#[104, 105, 116, 115]⟩, .string ⟨#[115, 101, 116, 115]⟩] 9)) := Ext.alloc (Below.refl _ _) _
  go_loopw [1, 2] (fun v i wr => ∃ t : Nat, t ≤ 5 ∧ i = .int .i64 ((t : Int) + 1) ∧ Box (wr.ownsRow w.heap.size 9 1 v (5 + t) (wsR (5 + t))) ∧ Ext w wr) (fun _ i _ => 6 - (intOf i).toNat)
  case atStart => exact ⟨0, by omega, rfl, ⟨hown0⟩, hx0⟩
  case round =>
    clear hown0 hx0
    obtain ⟨t, ht, rfl, hown, hx⟩ := hrel
    have hW := hx.size
    by_cases h5 : t < 5
    · have d1 : decide ((t : Int) + 1 ≤ 5) = true := decide_eq_true (by omega)
      have d2 : (t : Int) < 5 := by omega
      have c1 := Box.mk (eword_ok (t + 1) (by omega) (by omega) wr (hE.out wr hx))
      rw [wordS_R (t + 1) (by omega) (by omega), show 4 + (t + 1) = 5 + t by omega, show (((t + 1 : Nat)) : Int) = (t : Int) + 1 by omega] at c1
      have hsn := Box.mk (wsR_succ (5 + t))
      generalize wSR (5 + t) = s at *
      go_wp2_with (first
        | (go_at_call 30; (with_reducible refine (c1.out).mono ?_); rintro e w' ⟨rfl, rfl⟩)
        | (at_builtin; refine wpList_push rfl _ _ 67 rfl w.heap.size 9 i0 (.string ⟨#[]⟩) 1 16 Tryz.underlying67 hi hz0 hz1 hz2 rfl (by decide) _ _ _ rfl hown.out [.string s] rfl rfl (by simp [Value.oneCell']) (by omega) (by omega) hW ?_; intro v1 w2 hown2 hg2 hbel2 hs2))
      rw [← hsn.out] at hown2
      have hx2 : Ext w w2 := Below.trans hx hbel2
      clear hbel2 hg2
      go_roundw
      case rel => exact ⟨t + 1, by omega, by go_num, ⟨hown2⟩, hx2⟩
      case measure => simp [intOf]; omega
    · obtain rfl : t = 5 := by omega
      go_wp2_with (first
        | (at_builtin; refine wpList_append_own _ rfl _ _ 67 rfl w.heap.size 9 i0 (.string ⟨#[]⟩) 1 16 Tryz.underlying67 hi hz0 hz1 hz2 rfl (by decide) _ _ _ rfl (hown.out.alloc _) ⟨wr.heap.size, 0, none⟩ 2 2 [.string ⟨#[108, 101, 110]⟩, .string ⟨#[99, 111, 115, 116]⟩] rfl rfl (cells_new wr _ 9) (by simp [Value.oneCell']) (by unfold maxLen; omega) (by omega) (by simp; omega) ?_; intro v1 w2 hown2 hg2 _))
      go_ret
      refine ⟨_, rfl, ?_, ?_⟩
      · have e : wsR 10 ++ [.string ⟨#[108, 101, 110]⟩, .string ⟨#[99, 111, 115, 116]⟩] = wsR 12 := rfl
        rw [e] at hown2
        rcases hown2.2 with ⟨rfl, h0⟩ | ⟨g, cap, cur, rfl, -⟩
        · cases h0
        · refine ⟨g, cap, rfl, fun j hj => ?_⟩
          rw [hown2.cellAt j (by omega)]
          simp [wsR, hj]
      · exact (Ext.alloc hx _).grown hg2 (by simp; omega) (fun k hk => (hown.out.lt k hk).1)
/-- The pointers to the numbers of a count lie in a row. -/
def PtrsAt (b : Nat) (w : World) (v : Value) : Prop := ∃ g cap cur, v = .slice (some ⟨g, 0, none⟩) 12 cap ∧ w.heap[g]? = some (.cells cur 66 (0, 0)) ∧ ∀ j, j < 12 → cur[j]? = some (.pointer (some ⟨b, j, none⟩))
def psR (b n : Nat) : List Value := (List.range n).map fun i => .pointer (some ⟨b, i, none⟩)
theorem psR_succ (b n : Nat) : psR b (n + 1) = psR b n ++ [.pointer (some ⟨b, n, none⟩)] := by simp [psR, List.range_succ]
end Go.Proofs.YtcofejbkbcdopaaGreatDoor
