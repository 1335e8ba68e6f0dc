import Derived.Test.YtbhfpofcebepiaaB36
/- The law BeladyLongs: plain laws of a trace that goes round. -/
namespace Go.Proofs.Ytbhfpofcebepiaa
open Go.RowKit
def cycL (n q : Nat) : List Nat := (List.range n).map fun i => i % q
theorem cycL_len (n q : Nat) : (cycL n q).length = n := by simp [cycL]
theorem cycL_key (n q i : Nat) (h : i < n) : keyB (cycL n q) i = i % q := by
  unfold keyB cycL
  rw [List.getD_eq_getElem?_getD]
  simp [h]
theorem cyc_first (n q x : Nat) (hx : x < q) (hq : q ≤ n) : ∀ d, d ≤ x → nxB (cycL n q) x (x - d) = x
  | 0, _ => by
    have hk := keyB_at (cycL n q) x (by rw [cycL_len]; omega)
    rw [cycL_key n q x (by omega), Nat.mod_eq_of_lt hx] at hk
    exact nxB_here _ x x hk
  | d + 1, h => by
    have hk := keyB_at (cycL n q) (x - (d + 1)) (by rw [cycL_len]; omega)
    rw [cycL_key n q _ (by omega), Nat.mod_eq_of_lt (by omega)] at hk
    rw [nxB_step _ x _ _ hk (by omega), show x - (d + 1) + 1 = x - d by omega]
    exact cyc_first n q x hx hq d (by omega)
theorem cyc_firstB (n q : Nat) (h0 : 0 < q) (hq : q ≤ n) : ∀ m, m ≤ n → firstB (cycL n q) m = min m q
  | 0, _ => by simp [firstB]
  | m + 1, h => by
    rw [firstB_succ, cyc_firstB n q h0 hq m (by omega), cycL_key n q m (by omega)]
    have hlt := Nat.mod_lt m h0
    have hf := cyc_first n q (m % q) hlt hq (m % q) (Nat.le_refl _)
    rw [Nat.sub_self] at hf
    rw [hf]
    by_cases hm : m < q
    · rw [Nat.mod_eq_of_lt hm, if_pos rfl]; omega
    · rw [if_neg (by omega)]; omega
theorem cyc_hits (n q k : Nat) (h0 : 0 < q) (hq : q ≤ n) (hk : q ≤ k) : optH (cycL n q) k n + q = n := by
  have hf : firstB (cycL n q) (cycL n q).length = q := by
    rw [cycL_len, cyc_firstB n q h0 hq n (Nat.le_refl _)]; omega
  have := opt_all (cycL n q) k (by rw [hf]; exact hk)
  rw [hf, cycL_len] at this
  exact this
/-- What has been written of it. -/
def cycP (n q t : Nat) : List Value := (List.range n).map fun i => .int .u32 ((if i < t then i % q else 0 : Nat) : Int)
theorem cycP_zero (n q : Nat) : cycP n q 0 = List.replicate n (.int .u32 0) := by
  apply List.ext_getElem?
  intro j
  by_cases hj : j < n
  · simp [cycP, hj]
  · simp [cycP, hj]
theorem cycP_set (n q t : Nat) (ht : t < n) : (cycP n q t).set t (.int .u32 ((t % q : Nat) : Int)) = cycP n q (t + 1) := by
  apply List.ext_getElem?
  intro j
  rw [List.getElem?_set]
  by_cases hj : t = j
  · subst hj
    simp [cycP, ht]
  · rw [if_neg hj]
    by_cases hjn : j < n
    · have : (j < t) = (j < t + 1) := by simp; omega
      simp [cycP, hjn, this]
    · simp [cycP, hjn]
theorem cycP_all (n q : Nat) : cycP n q n = u32L (cycL n q) := by
  unfold cycP u32L cycL
  rw [List.map_map]
  refine List.map_congr_left fun i hi => ?_
  rw [if_pos (by simpa using hi)]
  rfl
theorem make_u32 (n : Nat) (hn : n ≤ 200000) (w : World) : (Instr.makeSlice 22 (.int .i64 (n : Int)) (.int .i64 (n : Int))).run Try.prog w = .ok (.slice (some ⟨w.heap.size, 0, none⟩) n n) (w.alloc (.cells (List.replicate n (.int .u32 0)).toArray 45)) := by
  obtain ⟨i, hi, he⟩ := Option.map_eq_some_iff.1 infoU32
  simp only [Prod.mk.injEq] at he
  obtain ⟨e1, e2, e3⟩ := he
  have h9 := run_makeSlice (P := Try.prog) (w := w) 22 45 i (.int .u32 0) Try.underlying22 hi e1 .i64 .i64 n n (by omega) (Int.le_refl _) (by rw [e2]; omega) (by rw [e3]; omega) (by omega)
  rw [e2] at h9
  simp only [Int.toNat_natCast, Nat.mul_one] at h9
  rw [h9]
  have : madeCells (Value.int .u32 0).cells n = (List.replicate n (.int .u32 0)).toArray := by
    apply Array.ext'
    show (madeCells #[.int .u32 0] n).toList = _
    rw [toList_madeCells_one]
  rw [this]
set_option maxRecDepth 100000 in
set_option maxHeartbeats 8000000 in
theorem longs_core (n q k : Nat) (W : World) (hn1 : 4094 ≤ n) (hn2 : n ≤ 4098) (hq1 : 1 ≤ q) (hq2 : q ≤ 8) (hk1 : 1 ≤ k) (hk2 : k ≤ 8) :
    Calls Try.prog 7 #[.int .i64 (n : Nat), .int .i64 (q : Nat), .int .i64 (k : Nat)] W fun e W' => e = .returned (.bool true) ∧ Below W.heap.size W W' := by
  have cK : Box (∀ w, _) := ⟨fun w => known_any w⟩
  have hmk := make_u32 n (by omega)
  have a1 : decide ((n : Int) < 4094) = false := decide_eq_false (by omega)
  have a2 : decide ((n : Int) > 4098) = false := decide_eq_false (by omega)
  have a3 : decide ((4098 : Int) < (n : Int)) = false := decide_eq_false (by omega)
  have a4 : decide (n < 4094) = false := decide_eq_false (by omega)
  have a5 : decide (4098 < n) = false := decide_eq_false (by omega)
  have b1 : decide ((q : Int) < 1) = false := decide_eq_false (by omega)
  have b2 : decide ((q : Int) > 8) = false := decide_eq_false (by omega)
  have b3 : decide ((8 : Int) < (q : Int)) = false := decide_eq_false (by omega)
  have b4 : decide (q < 1) = false := decide_eq_false (by omega)
  have b5 : decide (8 < q) = false := decide_eq_false (by omega)
  have b6 : ¬ q = 0 := by omega
  have c1 : decide ((k : Int) < 1) = false := decide_eq_false (by omega)
  have c2 : decide ((k : Int) > 8) = false := decide_eq_false (by omega)
  have c3 : decide ((8 : Int) < (k : Int)) = false := decide_eq_false (by omega)
  have c4 : decide (k < 1) = false := decide_eq_false (by omega)
  have c5 : decide (8 < k) = false := decide_eq_false (by omega)
  have c6 : ¬ k = 0 := by omega
  go_enter Try.func7, Try.ntmps7
  go_wp2
  go_loopw [8] (fun iv wr => ∃ t : Nat, t ≤ n ∧ iv = .int .i64 (t : Nat) ∧ Box (wr.heap[W.heap.size]? = some (.cells (cycP n q t).toArray 45 (0, 0))) ∧ Box (Ext W wr)) (fun iv _ => n - (intOf iv).toNat)
  case atStart =>
    refine ⟨0, Nat.zero_le _, rfl, ⟨?_⟩, ⟨Ext.alloc (Below.refl _ _) _⟩⟩
    rw [cycP_zero, List.toArray_replicate]
    exact newblk W _
  case round =>
    obtain ⟨t, ht, rfl, hB, hE⟩ := hrel
    by_cases htn : t < n
    · have t0 : (0 : Int) ≤ (t : Int) := by omega
      have t1 : (t : Int) < (n : Int) := by omega
      have t2 : decide ((t : Int) < (n : Int)) = true := decide_eq_true t1
      have t3 : decide (t < n) = true := decide_eq_true htn
      have hcl : (cycP n q t)[t]? = some (.int .u32 0) := by simp [cycP, htn]
      have m1 : wr.cell? ⟨W.heap.size, t, none⟩ = some (.int .u32 0) := by
        rw [Lib.cell_of_heap hB.out, ← Array.getElem?_toList]; exact hcl
      have f1 : wr.frozen? ⟨W.heap.size, t, none⟩ = false := Lib.frozen_of_heap hB.out t
      have hst := cycP_set n q t htn
      have hmod : Box ((t : Int) % (q : Int) % 4294967296 = ((t % q : Nat) : Int)) := ⟨by
        have h9 := Nat.mod_lt t (show 0 < q by omega)
        have e : (t : Int) % (q : Int) = ((t % q : Nat) : Int) := by simp
        rw [e]
        omega⟩
      have n4 : IntKind.i64.wrap ((t : Int) + 1) = (t : Int) + 1 := b64_one (by omega)
      have hq0 : ¬ ((q : Int) = 0) := by omega
      have hq3 : ((q : Int) == 0) = false := by rw [beq_eq_false_iff_ne]; omega
      replace hst := Box.mk hst
      go_wp2
      go_roundw
      case rel =>
        refine ⟨t + 1, by omega, by go_num, ⟨?_⟩, ⟨Below.setCell hE.out (p := ⟨W.heap.size, t, none⟩) (Nat.le_refl _) _⟩⟩
        rw [hmod.out, ← hst.out, heap_setCell_same wr W.heap.size t _ _ _ hB.out, List.setIfInBounds_toArray]
      case measure =>
        clear n4
        simp [intOf]; omega
    · obtain rfl : t = n := by omega
      have t2 : decide ((t : Int) < (t : Int)) = false := decide_eq_false (by omega)
      have t3 : decide (t < t) = false := decide_eq_false (by omega)
      have hC : CellsAt wr (some ⟨W.heap.size, 0, none⟩) (u32L (cycL t q)) := by
        rw [← cycP_all]
        intro j u hj
        refine ⟨W.heap.size, 0, rfl, ?_⟩
        rw [Nat.zero_add, Lib.cell_of_heap hB.out, ← Array.getElem?_toList]
        exact hj
      have hLl := cycL_len t q
      by_cases hbig : 4096 < t
      · have d1 : decide ((t : Int) > 4096) = true := decide_eq_true (by omega)
        have d2 : decide ((4096 : Int) < (t : Int)) = true := decide_eq_true (by omega)
        have d3 : decide (4096 < t) = true := decide_eq_true hbig
        have ha : allB t 4096 (k : Int) = 5 := by unfold allB; rw [if_pos (by omega)]
        have cN : Box (∀ w, _) := ⟨fun w => Next_bad (some ⟨W.heap.size, 0, none⟩) t t w hbig⟩
        have cT : Box (∀ w, _) := ⟨fun w => Turns_bad (some ⟨W.heap.size, 0, none⟩) t t (k : Int) w (by rw [ha]; decide)⟩
        have cH : Box (∀ w, _) := ⟨fun w => Hits_bad (some ⟨W.heap.size, 0, none⟩) t t (k : Int) w (by rw [ha]; decide)⟩
        have cC : Box (∀ w, _) := ⟨fun w => Check_bad (some ⟨W.heap.size, 0, none⟩) none t t 0 0 (k : Int) w (by rw [ha]; decide)⟩
        rw [ha] at cT cH cC
        clear hC ha hbig hLl
        go_wp2_with (first
          | (go_at_call 10; (with_reducible refine (cN.out _).mono ?_); rintro e w1 ⟨rfl, hx1⟩)
          | (go_at_call 13; (with_reducible refine (cT.out _).mono ?_); rintro e w2 ⟨rfl, hx2⟩)
          | (go_at_call 14; (with_reducible refine (cH.out _).mono ?_); rintro e w3 ⟨rfl, hx3⟩)
          | (go_at_call 19; (with_reducible refine (cC.out _).mono ?_); rintro e w4 ⟨rfl, rfl⟩)
          | (go_at_call 9; (with_reducible refine (cK.out _).mono ?_); rintro e w5 ⟨rfl, hx5⟩))
        go_ret
        exact ⟨rfl, Ext.trans' hE.out (Ext.trans' hx1 (Ext.trans' hx2 (Ext.trans' hx3 hx5)))⟩
      · have d1 : decide ((t : Int) > 4096) = false := decide_eq_false (by omega)
        have d2 : decide ((4096 : Int) < (t : Int)) = false := decide_eq_false (by omega)
        have d3 : decide (4096 < t) = false := decide_eq_false hbig
        have hol : (optTs (cycL t q) k).length = (cycL t q).length := by simp [optTs]
        have hop := (opt_pol (cycL t q) k hk1 (cycL t q).length (Nat.le_refl _)).2.2.1
        have hgo := good_opt (cycL t q) k hk1
        have hch := cyc_hits t q k (by omega) (by omega)
        have hC4 : (cycL t q).length ≤ 4096 := by omega
        have cN : Box (∀ w, Ext wr w → Calls Try.prog 10 #[.slice (some ⟨W.heap.size, 0, none⟩) t t] w fun e w' => ∃ a' c', e = .returned (.tuple #[.slice a' t c', .int .i64 0]) ∧ Ext w w') := ⟨fun w hx => by
          have := Next_ok (some ⟨W.heap.size, 0, none⟩) t (cycL t q) w hC4 (CellsAt.keep hx hC)
          rw [hLl] at this
          exact this.mono (by rintro e w' ⟨a', c', he, _, hx⟩; exact ⟨a', c', he, hx⟩)⟩
        have cT : Box (∀ w, Ext wr w → Calls Try.prog 13 #[.slice (some ⟨W.heap.size, 0, none⟩) t t, .int .i64 (k : Nat)] w fun e w' => ∃ a' c', e = .returned (.tuple #[.slice a' t c', .int .i64 0]) ∧ CellsAt w' a' (rows TnB.cs (optTs (cycL t q) k)) ∧ Ext w w') := ⟨fun w hx => by
          have := Turns_ok (some ⟨W.heap.size, 0, none⟩) t (cycL t q) k w hC4 hk1 (by omega) (CellsAt.keep hx hC)
          rw [hLl] at this
          exact this⟩
        have cH : Box (∀ w, Ext wr w → Calls Try.prog 14 #[.slice (some ⟨W.heap.size, 0, none⟩) t t, .int .i64 (k : Nat)] w fun e w' => e = .returned (.tuple #[.int .i64 (optH (cycL t q) k t : Nat), .int .i64 0]) ∧ Ext w w') := ⟨fun w hx => by
          have := Hits_ok (some ⟨W.heap.size, 0, none⟩) t (cycL t q) k w hC4 hk1 (by omega) (CellsAt.keep hx hC)
          rw [hLl] at this
          exact this⟩
        have cC : Box (∀ a2 c2 w, Ext wr w → CellsAt w a2 (rows TnB.cs (optTs (cycL t q) k)) → Calls Try.prog 19 #[.slice (some ⟨W.heap.size, 0, none⟩) t t, .int .i64 (k : Nat), .slice a2 t c2] w fun e w' => e = .returned (.tuple #[.int .i64 (optH (cycL t q) k t : Nat), .int .i64 0]) ∧ Ext w w') := ⟨fun a2 c2 w hx h2 => by
          have := Check_any (some ⟨W.heap.size, 0, none⟩) a2 t c2 (cycL t q) (optTs (cycL t q) k) k w hC4 hol hk1 (by omega) (CellsAt.keep hx hC) h2 true ⟨fun _ => hgo, fun _ => rfl⟩
          rw [hop, hol, hLl] at this
          exact this⟩
        clear hgo hop hol hC4 hC
        generalize optTs (cycL t q) k = TL at *
        generalize optH (cycL t q) k t = z at *
        have z1 : ((z : Int) != (z : Int)) = false := by simp
        have z2 : ((t : Int) != (t : Int)) = false := by simp
        have hw1 : IntKind.i64.wrap ((t : Int) - (q : Int)) = (t : Int) - (q : Int) := by rw [IntKind.wrap_i64]; omega
        by_cases hqk : q ≤ k
        · have hz := hch hqk
          have e1 : decide ((k : Int) ≥ (q : Int)) = true := decide_eq_true (by omega)
          have e2 : decide ((q : Int) ≤ (k : Int)) = true := decide_eq_true (by omega)
          have e3 : decide (q ≤ k) = true := decide_eq_true hqk
          have z3 : ((z : Int) != (t : Int) - (q : Int)) = false := by
            have : (z : Int) = (t : Int) - (q : Int) := by omega
            rw [this]; simp
          clear hz hch hqk hbig hLl
          go_wp2_with (first
            | (go_at_call 10; (with_reducible refine (cN.out _ (Below.refl _ _)).mono ?_); rintro e w1 ⟨a1', c1', rfl, hx1⟩)
            | (go_at_call 13; (with_reducible refine (cT.out _ hx1).mono ?_); rintro e w2 ⟨a2', c2', rfl, hc2, hx2⟩; replace hc2 := Box.mk hc2)
            | (go_at_call 14; (with_reducible refine (cH.out _ (Ext.trans' hx1 hx2)).mono ?_); rintro e w3 ⟨rfl, hx3⟩)
            | (go_at_call 19; (with_reducible refine (cC.out _ _ _ (Ext.trans' hx1 (Ext.trans' hx2 hx3)) (CellsAt.keep hx3 hc2.out)).mono ?_); rintro e w4 ⟨rfl, hx4⟩)
            | (go_at_call 9; (with_reducible refine (cK.out _).mono ?_); rintro e w5 ⟨rfl, hx5⟩))
          go_ret
          exact ⟨rfl, Ext.trans' hE.out (Ext.trans' hx1 (Ext.trans' hx2 (Ext.trans' hx3 (Ext.trans' hx4 hx5))))⟩
        · have e1 : decide ((k : Int) ≥ (q : Int)) = false := decide_eq_false (by omega)
          have e2 : decide ((q : Int) ≤ (k : Int)) = false := decide_eq_false (by omega)
          have e3 : decide (q ≤ k) = false := decide_eq_false hqk
          clear hch hqk hbig hLl
          go_wp2_with (first
            | (go_at_call 10; (with_reducible refine (cN.out _ (Below.refl _ _)).mono ?_); rintro e w1 ⟨a1', c1', rfl, hx1⟩)
            | (go_at_call 13; (with_reducible refine (cT.out _ hx1).mono ?_); rintro e w2 ⟨a2', c2', rfl, hc2, hx2⟩; replace hc2 := Box.mk hc2)
            | (go_at_call 14; (with_reducible refine (cH.out _ (Ext.trans' hx1 hx2)).mono ?_); rintro e w3 ⟨rfl, hx3⟩)
            | (go_at_call 19; (with_reducible refine (cC.out _ _ _ (Ext.trans' hx1 (Ext.trans' hx2 hx3)) (CellsAt.keep hx3 hc2.out)).mono ?_); rintro e w4 ⟨rfl, hx4⟩)
            | (go_at_call 9; (with_reducible refine (cK.out _).mono ?_); rintro e w5 ⟨rfl, hx5⟩))
          go_ret
          exact ⟨rfl, Ext.trans' hE.out (Ext.trans' hx1 (Ext.trans' hx2 (Ext.trans' hx3 (Ext.trans' hx4 hx5))))⟩
end Go.Proofs.Ytbhfpofcebepiaa
