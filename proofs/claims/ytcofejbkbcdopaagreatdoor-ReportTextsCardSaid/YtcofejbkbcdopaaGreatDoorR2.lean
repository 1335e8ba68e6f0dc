import Derived.Test.YtcofejbkbcdopaaGreatDoorR1
import Derived.MapKept
/- Contracts: the map of the policies' words, the word of a policy; the report's line of a score. -/
namespace Go.Proofs.YtcofejbkbcdopaaGreatDoor
open Go.RowKit
theorem pol_map : Tryz.prog.underlying 114 = some (.map 46 9) := by kernel_rfl
theorem pol_key : Tryz.prog.underlying 46 = some (.int .i64) := by kernel_rfl
theorem pol_str : Tryz.prog.underlying 9 = some .string := by kernel_rfl
/-- A new key of the map of words. -/
theorem ins_ex {W : World} {B : Nat} {es : Array MapEntry} {c : Nat} (hb : W.heap[B]? = some (.map es c)) (k : Int) (v : Value) (hf : Instr.findNow (.int .i64) (.int .i64 k) es.toList 0 = some none) :
    ∃ W', (Instr.mapUpdate 114 (.map (some B)) (.int .i64 k) v).run Tryz.prog W = .ok () W' ∧ W'.heap[B]? = some (.map (es.push { key := .int .i64 k, val := v, born := c }) (c + 1)) ∧ Below B W W' := by
  refine ⟨{ W with heap := W.heap.setIfInBounds B (.map (es.push { key := .int .i64 k, val := v, born := c }) (c + 1)) }, ?_, (MapKept.heap_set hb).1, rfl, rfl, rfl, by simp, fun j hj => (MapKept.heap_set hb).2 j (by omega)⟩
  simp [Instr.mapUpdate, run_underlying pol_map, MapKept.run_getObj_map hb, MapKept.run_checkKey pol_key (k := .int .i64 k) rfl, MapKept.run_findKey pol_key hf, MapKept.run_setObj_map _ hb, Result.andThen]
def kS (k : Nat) : ByteArray := ⟨(kW k).toArray⟩
def polO : Array MapEntry := #[⟨.int .i64 1, .string (kS 1), 0⟩, ⟨.int .i64 2, .string (kS 2), 1⟩, ⟨.int .i64 3, .string (kS 3), 2⟩, ⟨.int .i64 4, .string (kS 4), 3⟩, ⟨.int .i64 5, .string (kS 5), 4⟩, ⟨.int .i64 6, .string (kS 6), 5⟩, ⟨.int .i64 7, .string (kS 7), 6⟩, ⟨.int .i64 8, .string (kS 8), 7⟩]
set_option maxRecDepth 100000 in
set_option maxHeartbeats 1000000 in
theorem pwords_any (w : World) : Calls Tryz.prog 55 #[] w fun e w' => e = .returned (.map (some w.heap.size)) ∧ w'.heap[w.heap.size]? = some (.map polO 8) ∧ Ext w w' := by
  have hmm := @run_makeMap Tryz.prog
  obtain ⟨W1, e1, h1, b1⟩ := ins_ex (MapKept.heap_alloc w (.map #[] 0)).1 1 (.string (kS 1)) rfl
  obtain ⟨W2, e2, h2, b2⟩ := ins_ex h1 2 (.string (kS 2)) rfl
  obtain ⟨W3, e3, h3, b3⟩ := ins_ex h2 3 (.string (kS 3)) rfl
  obtain ⟨W4, e4, h4, b4⟩ := ins_ex h3 4 (.string (kS 4)) rfl
  obtain ⟨W5, e5, h5, b5⟩ := ins_ex h4 5 (.string (kS 5)) rfl
  obtain ⟨W6, e6, h6, b6⟩ := ins_ex h5 6 (.string (kS 6)) rfl
  obtain ⟨W7, e7, h7, b7⟩ := ins_ex h6 7 (.string (kS 7)) rfl
  obtain ⟨W8, e8, h8, b8⟩ := ins_ex h7 8 (.string (kS 8)) rfl
  have hE : Box (Ext w W8) := ⟨(Below.alloc (Below.refl _ _) (Nat.le_refl _) _).trans (b1.trans (b2.trans (b3.trans (b4.trans (b5.trans (b6.trans (b7.trans b8)))))))⟩
  have hO : Box (W8.heap[w.heap.size]? = some (.map polO 8)) := ⟨h8⟩
  clear h1 h2 h3 h4 h5 h6 h7 h8 b1 b2 b3 b4 b5 b6 b7 b8
  rw [show kS 1 = ⟨#[108, 114, 117]⟩ from rfl] at e1
  rw [show kS 2 = ⟨#[115, 101, 103, 109, 101, 110, 116]⟩ from rfl] at e2
  rw [show kS 3 = ⟨#[97, 114, 99]⟩ from rfl] at e3
  rw [show kS 4 = ⟨#[108, 102, 117]⟩ from rfl] at e4
  rw [show kS 5 = ⟨#[115, 101, 99, 111, 110, 100]⟩ from rfl] at e5
  rw [show kS 6 = ⟨#[116, 119, 111, 113]⟩ from rfl] at e6
  rw [show kS 7 = ⟨#[116, 105, 110, 121]⟩ from rfl] at e7
  rw [show kS 8 = ⟨#[98, 101, 115, 116]⟩ from rfl] at e8
  go_enter Tryz.func55, Tryz.ntmps55
  go_wp2
  go_ret
  exact ⟨rfl, hO.out, hE.out⟩
/-- The entry of a kind. -/
def polF (k : Int) : Option (Nat × Value) := if 1 ≤ k ∧ k ≤ 8 then some ((k - 1).toNat, .string (kS k.toNat)) else none
theorem pol_find (k : Int) : Instr.findNow (.int .i64) (.int .i64 k) polO.toList 0 = some (polF k) := by
  unfold polF
  by_cases h : 1 ≤ k ∧ k ≤ 8
  · rw [if_pos h]
    obtain rfl | rfl | rfl | rfl | rfl | rfl | rfl | rfl : k = 1 ∨ k = 2 ∨ k = 3 ∨ k = 4 ∨ k = 5 ∨ k = 6 ∨ k = 7 ∨ k = 8 := by omega
    all_goals rfl
  · rw [if_neg h]
    have n1 : ∀ j : Int, 1 ≤ j → j ≤ 8 → (j == k) = false := fun j h1 h2 => by rw [beq_eq_false_iff_ne]; omega
    have n2 : ∀ j : Int, 1 ≤ j → j ≤ 8 → (k == j) = false := fun j h1 h2 => by rw [beq_eq_false_iff_ne]; omega
    simp [polO, Instr.findNow, Instr.sameNow, n1, n2]
theorem pol_look {W : World} {B : Nat} (hb : W.heap[B]? = some (.map polO 8)) (k : Int) (b : Bool) :
    (Instr.lookup 114 (.map (some B)) (.int .i64 k) b).run Tryz.prog W = .ok (if b then (.tuple #[.string (if 1 ≤ k ∧ k ≤ 8 then kS k.toNat else ⟨#[]⟩), .bool (decide (1 ≤ k ∧ k ≤ 8))]) else .string (if 1 ≤ k ∧ k ≤ 8 then kS k.toNat else ⟨#[]⟩)) W := by
  have hz : (zeroValue 9).run Tryz.prog W = .ok (.string ⟨#[]⟩) W := by go_simp
  have hf := pol_find k
  by_cases h : 1 ≤ k ∧ k ≤ 8
  · rw [polF, if_pos h] at hf
    simp only [if_pos h, decide_eq_true h]
    cases b <;> simp [Instr.lookup, run_underlying pol_map, MapKept.run_getObj_map hb, MapKept.run_checkKey pol_key (k := .int .i64 k) rfl, MapKept.run_findKey pol_key hf, Result.andThen, hz]
  · rw [polF, if_neg h] at hf
    simp only [if_neg h, decide_eq_false h]
    cases b <;> simp [Instr.lookup, run_underlying pol_map, MapKept.run_getObj_map hb, MapKept.run_checkKey pol_key (k := .int .i64 k) rfl, MapKept.run_findKey pol_key hf, Result.andThen, hz]
set_option maxRecDepth 100000 in
set_option maxHeartbeats 1000000 in
theorem pword_any (k : Int) (w : World) : Calls Tryz.prog 38 #[.int .i64 k] w fun e w' => e = .returned (.tuple #[.string (if 1 ≤ k ∧ k ≤ 8 then kS k.toNat else ⟨#[]⟩), .int .i64 (if 1 ≤ k ∧ k ≤ 8 then 0 else 2)]) ∧ Ext w w' := by
  have cw : Box _ := ⟨pwords_any w⟩
  by_cases h : 1 ≤ k ∧ k ≤ 8
  · have hl : ∀ W : World, W.heap[w.heap.size]? = some (.map polO 8) → _ := fun W hW => pol_look hW k true
    simp only [if_pos h, decide_eq_true h] at hl ⊢
    clear h
    generalize kS k.toNat = s at *
    go_enter Tryz.func38, Tryz.ntmps38
    go_wp2_with (go_at_call 55; (with_reducible refine (cw.out).mono ?_); rintro e w1 ⟨rfl, hB, hb⟩; have hl1 := hl w1 hB; clear hl; have hx := Box.mk hb; clear hb)
    go_ret2
    exact ⟨rfl, hx.out⟩
  · have hl : ∀ W : World, W.heap[w.heap.size]? = some (.map polO 8) → _ := fun W hW => pol_look hW k true
    simp only [if_neg h, decide_eq_false h] at hl ⊢
    clear h
    go_enter Tryz.func38, Tryz.ntmps38
    go_wp2_with (go_at_call 55; (with_reducible refine (cw.out).mono ?_); rintro e w1 ⟨rfl, hB, hb⟩; have hl1 := hl w1 hB; clear hl; have hx := Box.mk hb; clear hb)
    go_ret2
    exact ⟨rfl, hx.out⟩
end Go.Proofs.YtcofejbkbcdopaaGreatDoor
