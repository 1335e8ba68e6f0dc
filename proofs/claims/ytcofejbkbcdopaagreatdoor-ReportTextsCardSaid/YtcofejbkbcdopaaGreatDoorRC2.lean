import Derived.Test.YtcofejbkbcdopaaGreatDoorR4
/- Contract of the report's Check. -/
namespace Go.Proofs.YtcofejbkbcdopaaGreatDoor
open Go.RowKit
def whysL : List (List UInt8) := [[], [116, 105, 109, 101], [101, 118, 101, 110, 116], [101, 120, 112, 105, 114, 121], [118, 105, 99, 116, 105, 109], [98, 117, 100, 103, 101, 116], [114, 101, 97, 100], [99, 117, 114, 115, 111, 114], [101, 114, 114, 111, 114]]
def whyL (k : Nat) : List UInt8 := whysL.getD k []
def whyS (k : Nat) : ByteArray := ⟨(whyL k).toArray⟩
theorem whyL_len (k : Nat) : (whyL k).length ≤ 6 := by
  unfold whyL
  rw [List.getD_eq_getElem?_getD]
  cases hi : whysL[k]? with
  | none => simp
  | some l =>
    have h : whysL.all (fun l => decide (l.length ≤ 6)) = true := by decide
    have := List.all_eq_true.1 h l (List.mem_of_getElem? hi)
    simpa using this
theorem why_cell {w : World} {B : Nat} {T : TypeId} (h : w.heap[B]? = some (.cells #[.string ⟨#[]⟩, .string ⟨#[116, 105, 109, 101]⟩, .string ⟨#[101, 118, 101, 110, 116]⟩, .string ⟨#[101, 120, 112, 105, 114, 121]⟩, .string ⟨#[118, 105, 99, 116, 105, 109]⟩, .string ⟨#[98, 117, 100, 103, 101, 116]⟩, .string ⟨#[114, 101, 97, 100]⟩, .string ⟨#[99, 117, 114, 115, 111, 114]⟩, .string ⟨#[101, 114, 114, 111, 114]⟩] T (0, 0))) (k : Nat) (hk : k < 9) : w.cell? ⟨B, k, none⟩ = some (.string (whyS k)) := by
  rw [Lib.cell_of_heap h]
  obtain rfl | rfl | rfl | rfl | rfl | rfl | rfl | rfl | rfl : k = 0 ∨ k = 1 ∨ k = 2 ∨ k = 3 ∨ k = 4 ∨ k = 5 ∨ k = 6 ∨ k = 7 ∨ k = 8 := by omega
  all_goals rfl
/-- The text of what the auditor says. -/
def chkL (n k : Nat) : List UInt8 := [114, 101, 115, 117, 108, 116, 32] ++ (dd n ++ ([58, 32] ++ (whyL k ++ [10])))
theorem blk2 {w : World} {B : Nat} {c0 c1 : Value} {T : TypeId} (h : w.heap[B]? = some (.cells #[c0, c1] T (0, 0))) : w.cell? ⟨B, 0, none⟩ = some c0 ∧ w.cell? ⟨B, 1, none⟩ = some c1 :=
  ⟨by rw [Lib.cell_of_heap h]; rfl, by rw [Lib.cell_of_heap h]; rfl⟩
set_option maxRecDepth 100000 in
set_option maxHeartbeats 4000000 in
theorem check_fine (w : World) : Calls Tryz.prog 16 #[.agg #[.int .i64 (-1), .int .i64 0]] w fun e w' => e = .returned (.tuple #[.string ⟨#[102, 105, 110, 101, 10]⟩, .int .i64 0]) ∧ Ext w w' := by
  go_enter Tryz.func16, Tryz.ntmps16
  go_wp2
  go_ret2
  exact ⟨rfl, by go_grown⟩
set_option maxRecDepth 100000 in
set_option maxHeartbeats 4000000 in
theorem check_bad (n k : Int) (h : ¬ (n = -1 ∧ k = 0)) (h2 : n < 0 ∨ k < 1 ∨ 8 < k) (w : World) : Calls Tryz.prog 16 #[.agg #[.int .i64 n, .int .i64 k]] w fun e w' => e = .returned (.tuple #[.string ⟨#[]⟩, .int .i64 2]) ∧ Ext w w' := by
  have hB := newblk w (.cells #[.int .i64 n, .int .i64 k] 54)
  have key : ((n == -1) = false ∨ ((n == -1) = true ∧ (k == 0) = false)) ∧ (decide (n < 0) = true ∨ (decide (n < 0) = false ∧ decide (k ≤ 0) = true) ∨ (decide (n < 0) = false ∧ decide (k ≤ 0) = false ∧ decide ((9 : Int) ≤ k) = true)) := by
    constructor
    · by_cases h1 : n = -1
      · exact Or.inr ⟨by rw [h1]; rfl, by rw [beq_eq_false_iff_ne]; exact fun e => h ⟨h1, e⟩⟩
      · exact Or.inl (by rw [beq_eq_false_iff_ne]; exact h1)
    · by_cases h1 : n < 0
      · exact Or.inl (decide_eq_true h1)
      · by_cases h3 : k ≤ 0
        · exact Or.inr (Or.inl ⟨decide_eq_false h1, decide_eq_true h3⟩)
        · exact Or.inr (Or.inr ⟨decide_eq_false h1, decide_eq_false h3, decide_eq_true (by omega)⟩)
  clear h h2
  obtain ⟨m0, m1⟩ := blk2 hB
  obtain ⟨k1, k2⟩ := key
  rcases k1 with d1 | ⟨d1, d2⟩
  all_goals
    rcases k2 with d3 | ⟨d3, d4⟩ | ⟨d3, d4, d5⟩
    all_goals
      go_enter Tryz.func16, Tryz.ntmps16
      go_wp2
      go_ret2
      exact ⟨rfl, by go_grown⟩
set_option maxRecDepth 100000 in
set_option maxHeartbeats 4000000 in
theorem check_ok (n k : Nat) (hn : n ≤ 9223372036854775807) (h1 : 1 ≤ k) (h8 : k ≤ 8) (w : World) (ht : Tabs w) : Calls Tryz.prog 16 #[.agg #[.int .i64 n, .int .i64 k]] w fun e w' => e = .returned (.tuple #[.string ⟨(chkL n k).toArray⟩, .int .i64 0]) ∧ Ext w w' := by
  have hx : Ext w ((w.alloc (.cells #[.int .i64 n, .int .i64 k] 54)).alloc (.cells #[.string ⟨#[]⟩, .string ⟨#[116, 105, 109, 101]⟩, .string ⟨#[101, 118, 101, 110, 116]⟩, .string ⟨#[101, 120, 112, 105, 114, 121]⟩, .string ⟨#[118, 105, 99, 116, 105, 109]⟩, .string ⟨#[98, 117, 100, 103, 101, 116]⟩, .string ⟨#[114, 101, 97, 100]⟩, .string ⟨#[99, 117, 114, 115, 111, 114]⟩, .string ⟨#[101, 114, 114, 111, 114]⟩] 9)) := Ext.alloc (Ext.alloc (Below.refl _ _) _) _
  have hB := blk_up' (newblk w (.cells #[.int .i64 n, .int .i64 k] 54)) (.cells #[.string ⟨#[]⟩, .string ⟨#[116, 105, 109, 101]⟩, .string ⟨#[101, 118, 101, 110, 116]⟩, .string ⟨#[101, 120, 112, 105, 114, 121]⟩, .string ⟨#[118, 105, 99, 116, 105, 109]⟩, .string ⟨#[98, 117, 100, 103, 101, 116]⟩, .string ⟨#[114, 101, 97, 100]⟩, .string ⟨#[99, 117, 114, 115, 111, 114]⟩, .string ⟨#[101, 114, 114, 111, 114]⟩] 9)
  have hW := newblk (w.alloc (.cells #[.int .i64 n, .int .i64 k] 54)) (.cells #[.string ⟨#[]⟩, .string ⟨#[116, 105, 109, 101]⟩, .string ⟨#[101, 118, 101, 110, 116]⟩, .string ⟨#[101, 120, 112, 105, 114, 121]⟩, .string ⟨#[118, 105, 99, 116, 105, 109]⟩, .string ⟨#[98, 117, 100, 103, 101, 116]⟩, .string ⟨#[114, 101, 97, 100]⟩, .string ⟨#[99, 117, 114, 115, 111, 114]⟩, .string ⟨#[101, 114, 114, 111, 114]⟩] 9)
  rw [World.size_alloc] at hW
  have mw := why_cell hW k (by omega)
  have c1 : Box (∀ w', Ext w w' → _) := ⟨fun w' hx => ritoa_any n hn w' (ht.ext hx)⟩
  have hfin : (⟨(chkL n k).toArray⟩ : ByteArray) = ⟨#[114, 101, 115, 117, 108, 116, 32]⟩ ++ digs n ++ ⟨#[58, 32]⟩ ++ whyS k ++ ⟨#[10]⟩ := by
    apply str_ext
    simp [chkL, whyS, digs, dd, ByteArray.data_append]
  rw [hfin]
  have z1 := digs_le n (by omega)
  have z2 : (whyS k).size ≤ 6 := whyL_len k
  have d1 : ((n : Int) == -1) = false := by rw [beq_eq_false_iff_ne]; omega
  have d2 : decide ((n : Int) < 0) = false := decide_eq_false (by omega)
  have d3 : decide ((k : Int) ≤ 0) = false := decide_eq_false (by omega)
  have d4 : decide ((9 : Int) ≤ (k : Int)) = false := decide_eq_false (by omega)
  have i1 : (k : Int) < 9 := by omega
  have d5 : ¬ k = 0 := by omega
  have d6 : decide (k = 0) = false := decide_eq_false d5
  have i2 : k < 9 := by omega
  obtain ⟨m0, m1⟩ := blk2 hB
  clear hfin ht hn
  generalize digs n = y1 at *
  generalize whyS k = y2 at *
  have g1 : ¬ 9223372036854775807 < 7 + y1.size := by omega
  have g2 : ¬ 9223372036854775807 < 7 + y1.size + 2 := by omega
  have g3 : ¬ 9223372036854775807 < 7 + y1.size + 2 + y2.size := by omega
  have g4 : ¬ 9223372036854775807 < 7 + y1.size + 2 + y2.size + 1 := by omega
  clear h1 h8 hB hW
  go_enter Tryz.func16, Tryz.ntmps16
  go_wp2
  generalize hWW : (w.alloc (.cells #[.int .i64 n, .int .i64 k] 54)).alloc (.cells #[.string ⟨#[]⟩, .string ⟨#[116, 105, 109, 101]⟩, .string ⟨#[101, 118, 101, 110, 116]⟩, .string ⟨#[101, 120, 112, 105, 114, 121]⟩, .string ⟨#[118, 105, 99, 116, 105, 109]⟩, .string ⟨#[98, 117, 100, 103, 101, 116]⟩, .string ⟨#[114, 101, 97, 100]⟩, .string ⟨#[99, 117, 114, 115, 111, 114]⟩, .string ⟨#[101, 114, 114, 111, 114]⟩] 9) = W at *
  clear hWW
  replace hx := Ext.drew1 hx
  replace m0 := Ext.cell (Ext.drew1 (Below.refl _ _)) m0
  replace m1 := Ext.cell (Ext.drew1 (Below.refl _ _)) m1
  replace mw := Ext.cell (Ext.drew1 (Below.refl _ _)) mw
  go_region_held3 (fun w' => w'.cell? ⟨w.heap.size, 0, none⟩ = some (.int .i64 n) ∧ w'.cell? ⟨w.heap.size, 1, none⟩ = some (.int .i64 k) ∧ w'.cell? ⟨w.heap.size + 1, k, none⟩ = some (.string y2))
    (first
      | (with_reducible exact ⟨m0, m1, mw⟩)
      | go_keep)
    (first
      | (go_at_call 20; (with_reducible refine (c1.out _ hx).mono ?_); rintro e w1 ⟨rfl, hb1⟩; replace hx := Ext.trans' hx hb1; replace m0 := Ext.cell hb1 m0; replace m1 := Ext.cell hb1 m1; replace mw := Ext.cell hb1 mw))
  all_goals
    go_wp2
    go_ret2
    exact ⟨rfl, hx⟩
end Go.Proofs.YtcofejbkbcdopaaGreatDoor
