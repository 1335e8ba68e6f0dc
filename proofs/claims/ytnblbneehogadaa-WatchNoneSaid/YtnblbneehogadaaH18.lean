import Derived.Test.YtnblbneehogadaaH17
/- The law's light. -/
namespace Go.Proofs.Ytnblbneehogadaa
open Go.RowKit Go.ChangeMaps
/-- What an event of a light call is. -/
def EvI.Light (x : EvI) : Prop := x.s.size ≤ 300 ∧ ∃ a n c, x.u = .slice a n c ∧ n ≤ 100
def LightA (pre : ByteArray) (kn : Nat) (es : List EvI) : Prop := es.length ≤ 20 ∧ kn ≤ 10 ∧ pre.size ≤ 300 ∧ ∀ x ∈ es, x.Light
theorem blk8' {w : World} {B : Nat} {c0 c1 c2 c3 c4 c5 c6 c7 : Value} {T : TypeId} (h : w.heap[B]? = some (.cells #[c0, c1, c2, c3, c4, c5, c6, c7] T (0, 0))) :
    w.cell? ⟨B, 3, none⟩ = some c3 ∧ w.cell? ⟨B, 4, none⟩ = some c4 ∧ w.cell? ⟨B, 7, none⟩ = some c7 :=
  ⟨by rw [Lib.cell_of_heap h]; rfl, by rw [Lib.cell_of_heap h]; rfl, by rw [Lib.cell_of_heap h]; rfl⟩
/-- What light answers: if it is true, the call is light. -/
def LtPost (w : World) (P : Prop) (e : Ending) (w' : World) : Prop := ∃ q, e = .returned (.bool q) ∧ Ext w w' ∧ (q = true ↔ P)
theorem ltF {w w' : World} {P : Prop} (h : Ext w w') (n : ¬ P) : LtPost w P (.returned (.bool false)) w' := ⟨false, rfl, h, ⟨fun h => by (cases h), fun h => absurd h n⟩⟩
theorem ltT {w w' : World} {P : Prop} (h : Ext w w') (p : P) : LtPost w P (.returned (.bool true)) w' := ⟨true, rfl, h, ⟨fun _ => p, fun _ => rfl⟩⟩
set_option maxHeartbeats 2000000 in
theorem light_act (wh n0 m0 : Int) (pre : ByteArray) (ka : Option Addr) (kn kc : Nat) (room : Int) (old : Bool) (ea : Option Addr) (ec : Nat) (es : List EvI) (w : World) (hC : CellsAt w ea (ixs es)) (hW : ∀ x ∈ es, x.Wf w) :
    Calls Try.prog 25 #[.agg #[.int .i64 wh, .int .i64 n0, .int .i64 m0, .string pre, .slice ka kn kc, .int .i64 room, .bool old, .slice ea es.length ec]] w (LtPost w (LightA pre kn es)) := by
  have hx : Ext w (w.alloc (.cells #[.int .i64 wh, .int .i64 n0, .int .i64 m0, .string pre, .slice ka kn kc, .int .i64 room, .bool old, .slice ea es.length ec] 50)) := Ext.alloc (Below.refl _ _) _
  obtain ⟨m3, m4, m7⟩ := blk8' (newblk w (.cells #[.int .i64 wh, .int .i64 n0, .int .i64 m0, .string pre, .slice ka kn kc, .int .i64 room, .bool old, .slice ea es.length ec] 50))
  have HC := Box.mk (CellsAt.ext hx hC); have HW := Box.mk hW
  replace hx := Box.mk hx
  clear hC hW
  go_enter Try.func25, Try.ntmps25
  go_wp2
  go_loop [3] (fun iv => ∃ i : Nat, i ≤ es.length ∧ i ≤ 20 ∧ iv = .int .i64 (i : Nat) ∧ Box (∀ x ∈ es.take i, x.Light)) (fun iv => es.length - (intOf iv).toNat)
  case atStart => exact ⟨0, Nat.zero_le _, Nat.zero_le _, rfl, ⟨fun x hx => by simp at hx⟩⟩
  case round =>
    obtain ⟨i, hi, hi20, rfl, hok⟩ := hrel
    by_cases hlt : i < es.length
    · have g1 : (i : Int) < (es.length : Int) := by omega
      by_cases h20 : i < 20
      · have g2 : (i : Int) < 20 := by omega
        have g0 : (0 : Int) ≤ (i : Int) := by omega
        obtain ⟨b, o, rfl, p0, p1, p2, _⟩ := ixs_row HC.out i hlt
        obtain ⟨ua, un, uc, zs, hu, _, hunc, huc, _⟩ := (HW.out _ (List.getElem_mem hlt)).u
        have hsn : Box (es.take (i + 1) = es.take i ++ [es[i]]) := ⟨List.take_succ_eq_append_getElem hlt⟩
        rw [hu] at p2
        have hmem : Box (es[i] ∈ es) := ⟨List.getElem_mem hlt⟩
        clear p0
        have hss : es[i].s.size ≤ 9223372036854775807 := (HW.out _ (List.getElem_mem hlt)).s
        generalize hy : es[i] = y at *
        replace hu := Box.mk hu
        clear hy
        have hmm : Box (i + 1 ≤ es.length ∧ i + 1 ≤ 20) := ⟨hlt, h20⟩
        by_cases hS : y.s.size ≤ 300
        · have d1 : decide ((300 : Int) < (y.s.size : Int)) = false := decide_eq_false (by omega)
          have d2 : decide (300 < y.s.size) = false := decide_eq_false (by omega)
          have d3 : decide ((y.s.size : Int) > 300) = false := decide_eq_false (by omega)
          by_cases hV : un ≤ 100
          · have e1 : decide ((100 : Int) < (un : Int)) = false := decide_eq_false (by omega)
            have e2 : decide (100 < un) = false := decide_eq_false (by omega)
            have e3 : decide ((un : Int) > 100) = false := decide_eq_false (by omega)
            have hok2 : Box (∀ x ∈ es.take (i + 1), x.Light) := ⟨fun x hx => by
              rw [hsn.out, List.mem_append] at hx
              rcases hx with hx | hx
              · exact hok.out x hx
              · rw [List.mem_singleton.1 hx]; exact ⟨hS, ua, un, uc, hu.out, hV⟩⟩
            replace hS := Box.mk hS; replace hV := Box.mk hV
            go_wp2
            go_round
            case rel => exact ⟨i + 1, hmm.out.1, hmm.out.2, by go_num, hok2⟩
            case measure => simp [intOf]; omega
          · have e1 : decide ((100 : Int) < (un : Int)) = true := decide_eq_true (by omega)
            have e2 : decide (100 < un) = true := decide_eq_true (by omega)
            have e3 : decide ((un : Int) > 100) = true := decide_eq_true (by omega)
            replace hS := Box.mk hS; replace hV := Box.mk hV
            go_wp2
            go_ret
            exact ltF hx.out (fun h => by obtain ⟨_, a, n, c, g1, g2⟩ := h.2.2.2 y hmem.out; rw [hu.out] at g1; cases g1; exact hV.out g2)
        · have d1 : decide ((300 : Int) < (y.s.size : Int)) = true := decide_eq_true (by omega)
          have d2 : decide (300 < y.s.size) = true := decide_eq_true (by omega)
          have d3 : decide ((y.s.size : Int) > 300) = true := decide_eq_true (by omega)
          replace hS := Box.mk hS
          go_wp2
          go_ret
          exact ltF hx.out (fun h => hS.out (h.2.2.2 y hmem.out).1)
      · have g2 : ¬ (i : Int) < 20 := by omega
        have d1 : decide ((es.length : Int) ≤ 20) = false := decide_eq_false (by omega)
        have d2 : decide (es.length ≤ 20) = false := decide_eq_false (by omega)
        go_wp2
        go_ret
        exact ltF hx.out (fun h => by have := h.1; omega)
    · obtain rfl : i = es.length := by omega
      have hall : Box (∀ x ∈ es, x.Light) := ⟨by have := hok.out; rwa [List.take_length] at this⟩
      have d1 : decide ((es.length : Int) ≤ 20) = true := decide_eq_true (by omega)
      have d2 : decide (es.length ≤ 20) = true := decide_eq_true (by omega)
      by_cases l2 : kn ≤ 10
      · have e1 : decide ((kn : Int) ≤ 10) = true := decide_eq_true (by omega)
        have e2 : decide (kn ≤ 10) = true := decide_eq_true l2
        by_cases l3 : pre.size ≤ 300
        · have f1 : decide ((pre.size : Int) ≤ 300) = true := decide_eq_true (by omega)
          have f2 : decide (pre.size ≤ 300) = true := decide_eq_true l3
          have hfin : Box (LightA pre kn es) := ⟨hi20, l2, l3, hall.out⟩
          replace l2 := Box.mk l2; replace l3 := Box.mk l3
          go_wp2
          go_ret
          exact ltT hx.out hfin.out
        · have f1 : decide ((pre.size : Int) ≤ 300) = false := decide_eq_false (by omega)
          have f2 : decide (pre.size ≤ 300) = false := decide_eq_false l3
          replace l2 := Box.mk l2; replace l3 := Box.mk l3
          go_wp2
          go_ret
          exact ltF hx.out (fun h => l3.out h.2.2.1)
      · have e1 : decide ((kn : Int) ≤ 10) = false := decide_eq_false (by omega)
        have e2 : decide (kn ≤ 10) = false := decide_eq_false l2
        replace l2 := Box.mk l2
        go_wp2
        go_ret
        exact ltF hx.out (fun h => l2.out h.2.1)
end Go.Proofs.Ytnblbneehogadaa
