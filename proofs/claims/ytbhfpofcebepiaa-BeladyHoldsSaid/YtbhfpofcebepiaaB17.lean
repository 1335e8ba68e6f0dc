import Derived.Test.YtbhfpofcebepiaaB16
import Derived.Test.YtbhfpofcebepiaaRW
/- Contracts on lists of places: slices.IndexFunc with Turns' closure, slices.MinFunc with later, slices.Index. -/
namespace Go.Proofs.Ytbhfpofcebepiaa
open Go.RowKit
def plC (p : Nat × Nat) : List Value := [.int .u32 (p.1 : Nat), .int .i64 (p.2 : Nat)]
set_option maxRecDepth 100000 in
set_option maxHeartbeats 4000000 in
theorem isKey_any (k n x : Nat) (K : Nat) (w : World) (hK : w.cell? ⟨K, 0, none⟩ = some (.int .u32 (x : Nat))) :
    Calls Try.prog 33 #[.agg #[.int .u32 (k : Nat), .int .i64 (n : Nat)], .pointer (some ⟨K, 0, none⟩)] w fun e w' => e = .returned (.bool (decide (k = x))) ∧ Ext w w' := by
  have hlt := lt_of_cell hK
  have e1 : ((k : Int) == (x : Int)) = decide (k = x) := by
    by_cases h : k = x
    · subst h; simp
    · rw [decide_eq_false h, beq_eq_false_iff_ne]; omega
  have e2 : (k == x) = decide (k = x) := by
    by_cases h : k = x
    · subst h; simp
    · rw [decide_eq_false h, beq_eq_false_iff_ne]; exact h
  generalize decide (k = x) = r at *
  go_enter Try.func33, Try.ntmps33
  go_wp2
  try go_region
  try go_wp2
  go_ret
  exact ⟨rfl, by go_grown⟩
/-- What IndexFunc answers. -/
structure IxP (P : List (Nat × Nat)) (x : Nat) (r : Int) : Prop where
  yes : ∀ t (h : t < P.length), P[t].1 = x → (∀ j (hj : j < P.length), j < t → P[j].1 ≠ x) → r = t
  no : (∀ j (hj : j < P.length), P[j].1 ≠ x) → r = -1
set_option maxRecDepth 100000 in
set_option maxHeartbeats 4000000 in
theorem ixf_any (a : Option Addr) (c : Nat) (P : List (Nat × Nat)) (x K : Nat) (r : Int) (hr : IxP P x r) (w : World) (hL : P.length ≤ 1000000) (hC : CellsAt w a (rows plC P)) (hK : w.cell? ⟨K, 0, none⟩ = some (.int .u32 (x : Nat))) :
    Calls Try.prog 32 #[.slice a P.length c, .func (.func 33) #[] #[.pointer (some ⟨K, 0, none⟩)]] w fun e w' => e = .returned (.int .i64 r) ∧ Ext w w' := by
  have HC := Box.mk hC
  have HK := Box.mk hK
  clear hC hK
  obtain ⟨n, hn⟩ : ∃ n, n = P.length := ⟨_, rfl⟩
  rw [← hn] at hL ⊢
  have HN := Box.mk hn
  clear hn
  replace hr := Box.mk hr
  go_enter Try.func32, Try.ntmps32
  go_wp2
  go_loopw [8] (fun i wr => ∃ t : Nat, t ≤ n ∧ i = .int .i64 t ∧ Box (∀ j (h : j < P.length), j < t → P[j].1 ≠ x) ∧ Box (Ext w wr)) (fun i _ => n - (intOf i).toNat)
  case atStart => exact ⟨0, by omega, rfl, ⟨fun j _ h => absurd h (by omega)⟩, ⟨Below.refl _ _⟩⟩
  case round =>
    obtain ⟨t, ht, rfl, hA, hE⟩ := hrel
    by_cases hkn : t < n
    · have hkL : t < P.length := by rw [← HN.out]; exact hkn
      obtain ⟨b1, o1, rfl, r1⟩ := rows_row plC 2 (fun _ => rfl) (by decide) (CellsAt.ext hE.out HC.out) t hkL
      have m0 : wr.cell? ⟨b1, o1 + t * 2, none⟩ = some (.int .u32 ((P[t]).1 : Nat)) := r1 0 _ rfl
      have m1 : wr.cell? ⟨b1, o1 + t * 2 + 1, none⟩ = some (.int .i64 ((P[t]).2 : Nat)) := r1 1 _ rfl
      have hsn : Box (P[t].1 ≠ x → ∀ j (h : j < P.length), j < t + 1 → P[j].1 ≠ x) := ⟨fun hx j h h2 => by
        by_cases e : j = t
        · subst e; exact hx
        · exact hA.out j h (by omega)⟩
      have hy : Box (P[t].1 = x → r = t) := ⟨fun h => hr.out.yes t hkL h hA.out⟩
      have c1 := Box.mk (isKey_any (P[t]).1 (P[t]).2 x K wr (Ext.cell hE.out HK.out))
      clear r1
      generalize P[t] = p at *
      have n0 : (0 : Int) ≤ (t : Int) := by omega
      have n1 : (t : Int) < (n : Int) := by omega
      have n2 : decide ((t : Int) < (n : Int)) = true := decide_eq_true n1
      have n3 : decide (t < n) = true := decide_eq_true hkn
      by_cases hx : p.1 = x
      · have hrt := hy.out hx
        rw [decide_eq_true hx] at c1
        clear hx
        go_wp2_with (first | (go_at_call 33; (with_reducible refine (c1.out).mono ?_); rintro e w1 ⟨rfl, hb1⟩))
        go_ret
        exact ⟨by rw [hrt]; rfl, Ext.trans' hE.out hb1⟩
      · rw [decide_eq_false hx] at c1
        have hA2 := Box.mk (hsn.out hx)
        clear hx
        go_wp2_with (first | (go_at_call 33; (with_reducible refine (c1.out).mono ?_); rintro e w1 ⟨rfl, hb1⟩))
        go_roundw
        case rel => exact ⟨t + 1, by omega, by go_num, hA2, ⟨Ext.trans' hE.out hb1⟩⟩
        case measure => simp [intOf]; omega
    · obtain rfl : t = n := by omega
      have n2 : decide ((t : Int) < (t : Int)) = false := decide_eq_false (by omega)
      have n3 : decide (t < t) = false := decide_eq_false (by omega)
      have hd := hr.out.no (fun j hj => hA.out j hj (by rw [HN.out]; exact hj))
      go_wp2
      go_ret
      exact ⟨by rw [hd]; rfl, hE.out⟩
/-- The place that leaves, of the first ones. -/
def minI (P : List (Nat × Nat)) : Nat → Nat × Nat
  | 0 => P.getD 0 (0, 0)
  | t + 1 => if latB (P.getD (t + 1) (0, 0)).1 (P.getD (t + 1) (0, 0)).2 (minI P t).1 (minI P t).2 < 0 then P.getD (t + 1) (0, 0) else minI P t
theorem plGet (P : List (Nat × Nat)) (t : Nat) (h : t < P.length) : P[t] = P.getD t (0, 0) := by
  rw [List.getD_eq_getElem?_getD, List.getElem?_eq_getElem h]; rfl
theorem cells2 {w : World} {B : Nat} {c0 c1 : Value} {T : TypeId} (h : w.heap[B]? = some (.cells #[c0, c1] T (0, 0))) : w.cell? ⟨B, 0, none⟩ = some c0 ∧ w.cell? ⟨B, 1, none⟩ = some c1 ∧ w.frozen? ⟨B, 0, none⟩ = false ∧ w.frozen? ⟨B, 1, none⟩ = false :=
  ⟨by rw [Lib.cell_of_heap h]; rfl, by rw [Lib.cell_of_heap h]; rfl, Lib.frozen_of_heap h 0, Lib.frozen_of_heap h 1⟩
set_option maxRecDepth 100000 in
set_option maxHeartbeats 4000000 in
theorem minf_any (a : Option Addr) (c : Nat) (P : List (Nat × Nat)) (w : World) (hL : P.length ≤ 1000000) (h0 : 0 < P.length) (hC : CellsAt w a (rows plC P)) :
    Calls Try.prog 34 #[.slice a P.length c, .func (.func 35) #[] #[]] w fun e w' => e = .returned (.agg #[.int .u32 ((minI P (P.length - 1)).1 : Nat), .int .i64 ((minI P (P.length - 1)).2 : Nat)]) ∧ Ext w w' := by
  have HC := Box.mk hC
  obtain ⟨b0, o0, rfl, r0⟩ := rows_row plC 2 (fun _ => rfl) (by decide) hC 0 h0
  have s0 : w.cell? ⟨b0, o0, none⟩ = some (.int .u32 ((P.getD 0 (0, 0)).1 : Nat)) := by
    have := r0 0 _ rfl
    rw [plGet P 0 h0] at this
    simpa using this
  have s1 : w.cell? ⟨b0, o0 + 1, none⟩ = some (.int .i64 ((P.getD 0 (0, 0)).2 : Nat)) := by
    have := r0 1 _ rfl
    rw [plGet P 0 h0] at this
    simpa using this
  have hb0 := lt_of_cell s0
  clear hC r0
  have hm0 : Box (minI P 0 = P.getD 0 (0, 0)) := ⟨rfl⟩
  rw [← hm0.out] at s0 s1
  obtain ⟨n, hn⟩ : ∃ n, n = P.length := ⟨_, rfl⟩
  have hlast : Box (n - 1 = P.length - 1) := ⟨by rw [hn]⟩
  rw [← hn] at hL h0 ⊢
  have HN := Box.mk hn
  clear hn
  have e1 : decide ((n : Int) < 1) = false := decide_eq_false (by omega)
  have e2 : (0 : Int) < (n : Int) := by omega
  have e3 : decide (n < 1) = false := decide_eq_false (by omega)
  have e4 : ¬ n = 0 := by omega
  go_enter Try.func34, Try.ntmps34
  go_wp2
  go_loopw [6] (fun i wr => ∃ u : Nat, 1 ≤ u ∧ u ≤ n ∧ i = .int .i64 (u : Nat) ∧ Box (Ext w wr) ∧ Box (wr.heap[w.heap.size]? = some (.cells #[.int .u32 0, .int .i64 0] 65 (0, 0))) ∧ Box (wr.heap[w.heap.size + 1]? = some (.cells #[.int .u32 ((minI P (u - 1)).1 : Nat), .int .i64 ((minI P (u - 1)).2 : Nat)] 65 (0, 0)))) (fun i _ => n - (intOf i).toNat)
  case atStart =>
    refine ⟨1, Nat.le_refl _, h0, rfl, ⟨Ext.alloc (Ext.alloc (Below.refl _ _) _) _⟩, ⟨?_⟩, ⟨?_⟩⟩
    · exact Ext.blk (Ext.alloc (Below.refl _ _) _) (newblk w _)
    · have := newblk (w.alloc (.cells #[.int .u32 0, .int .i64 0] 65)) (.cells #[.int .u32 ((minI P 0).1 : Nat), .int .i64 ((minI P 0).2 : Nat)] 65)
      rw [World.size_alloc] at this
      exact this
  case round =>
    obtain ⟨u, hu1, ht, rfl, hE, hZ, hM⟩ := hrel
    by_cases hkn : u < n
    · have hkL : u < P.length := by rw [← HN.out]; exact hkn
      have hEd := Ext.drew1 hE.out
      obtain ⟨b1, o1, hbo, r1⟩ := rows_row plC 2 (fun _ => rfl) (by decide) (CellsAt.ext hEd HC.out) u hkL
      cases hbo
      have m0 : wr.drew.cell? ⟨b0, o0 + u * 2, none⟩ = some (.int .u32 ((P[u]).1 : Nat)) := r1 0 _ rfl
      have m1 : wr.drew.cell? ⟨b0, o0 + u * 2 + 1, none⟩ = some (.int .i64 ((P[u]).2 : Nat)) := r1 1 _ rfl
      rw [plGet P u hkL] at m0 m1
      obtain ⟨k0, k1, f0, f1⟩ := cells2 (Ext.blk (Ext.drew1 (Below.refl _ _) : Ext wr wr.drew) hM.out)
      have hsz := (Array.getElem?_eq_some_iff.1 hM.out).1
      have hstep : Box (minI P u = if latB (P.getD u (0, 0)).1 (P.getD u (0, 0)).2 (minI P (u - 1)).1 (minI P (u - 1)).2 < 0 then P.getD u (0, 0) else minI P (u - 1)) := ⟨by
        obtain ⟨v, rfl⟩ : ∃ v, u = v + 1 := ⟨u - 1, by omega⟩
        rfl⟩
      have hm2 : Box (minI P (u + 1 - 1) = minI P u) := ⟨rfl⟩
      have c1 := Box.mk (fun w => later_any (P.getD u (0, 0)).1 (P.getD u (0, 0)).2 (minI P (u - 1)).1 (minI P (u - 1)).2 w)
      clear r1
      generalize minI P (u - 1) = m at *
      generalize P.getD u (0, 0) = p at *
      have n0 : (0 : Int) ≤ (u : Int) := by omega
      have n1 : (u : Int) < (n : Int) := by omega
      have n2 : decide ((u : Int) < (n : Int)) = true := decide_eq_true n1
      have n3 : decide (u < n) = true := decide_eq_true hkn
      have n4 : IntKind.i64.wrap ((u : Int) + 1) = (u : Int) + 1 := b64_one (by omega)
      have hx : Box (∀ w', Ext wr.drew w' → w'.cell? ⟨b0, o0 + u * 2, none⟩ = some (.int .u32 (p.1 : Nat)) ∧ w'.cell? ⟨b0, o0 + u * 2 + 1, none⟩ = some (.int .i64 (p.2 : Nat)) ∧ w'.cell? ⟨w.heap.size + 1, 0, none⟩ = some (.int .u32 (m.1 : Nat)) ∧ w'.cell? ⟨w.heap.size + 1, 1, none⟩ = some (.int .i64 (m.2 : Nat))) := ⟨fun w' h => ⟨Ext.cell h m0, Ext.cell h m1, Ext.cell h k0, Ext.cell h k1⟩⟩
      have hk : Box (∀ w', Ext wr.drew w' → w'.heap[w.heap.size]? = some (.cells #[.int .u32 0, .int .i64 0] 65 (0, 0)) ∧ w'.heap[w.heap.size + 1]? = some (.cells #[.int .u32 (m.1 : Nat), .int .i64 (m.2 : Nat)] 65 (0, 0)) ∧ Ext w w') := ⟨fun w' h => ⟨Ext.blk h (Ext.blk (Ext.drew1 (Below.refl _ _)) hZ.out), Ext.blk h (Ext.blk (Ext.drew1 (Below.refl _ _)) hM.out), Ext.trans' hEd h⟩⟩
      replace hZ := Box.mk hZ
      replace hM := Box.mk hM
      by_cases hneg : latB p.1 p.2 m.1 m.2 < 0
      · have d1 : decide (latB p.1 p.2 m.1 m.2 < 0) = true := decide_eq_true hneg
        rw [if_pos hneg] at hstep
        generalize latB p.1 p.2 m.1 m.2 = z at *
        clear hneg
        go_wp2
        go_region_held3 (fun w' => w'.cell? ⟨b0, o0 + u * 2, none⟩ = some (.int .u32 (p.1 : Nat)) ∧ w'.cell? ⟨b0, o0 + u * 2 + 1, none⟩ = some (.int .i64 (p.2 : Nat)) ∧ w'.cell? ⟨w.heap.size + 1, 0, none⟩ = some (.int .u32 (m.1 : Nat)) ∧ w'.cell? ⟨w.heap.size + 1, 1, none⟩ = some (.int .i64 (m.2 : Nat)))
          (first
            | (with_reducible exact ⟨m0, m1, k0, k1⟩)
            | (with_reducible exact q5))
          (first
            | (go_at_call 35; (with_reducible refine (c1.out _).mono ?_); rintro e w5 ⟨rfl, hb5⟩; have q5 := hx.out w5 hb5; replace hb5 := Box.mk hb5))
        obtain ⟨y0, y1, y2⟩ := hk.out w5 hb5.out
        obtain ⟨k2, k3, f2, f3⟩ := cells2 y1
        obtain ⟨q50, q51, -, -⟩ := q5
        have hY0 := Box.mk y0
        have hY1 := Box.mk y1
        have hY2 := Box.mk y2
        clear y0 y1 y2
        go_wp2
        go_roundw
        case rel =>
          refine ⟨u + 1, by omega, by omega, by go_num, ⟨?_⟩, ⟨?_⟩, ⟨?_⟩⟩
          · exact Below.setCell (Below.setCell hY2.out (p := ⟨w.heap.size + 1, 0, none⟩) (by show w.heap.size ≤ w.heap.size + 1; omega) _) (p := ⟨w.heap.size + 1, 1, none⟩) (by show w.heap.size ≤ w.heap.size + 1; omega) _
          · exact setO (setO hY0.out (by omega) _) (by omega) _
          · rw [hm2.out, hstep.out]
            exact heap_setCell_same _ (w.heap.size + 1) 1 _ _ _ (heap_setCell_same _ (w.heap.size + 1) 0 _ _ _ hY1.out)
        case measure => simp [intOf]; omega
      · have d1 : decide (latB p.1 p.2 m.1 m.2 < 0) = false := decide_eq_false hneg
        rw [if_neg hneg] at hstep
        generalize latB p.1 p.2 m.1 m.2 = z at *
        clear hneg
        go_wp2
        go_region_held3 (fun w' => w'.cell? ⟨b0, o0 + u * 2, none⟩ = some (.int .u32 (p.1 : Nat)) ∧ w'.cell? ⟨b0, o0 + u * 2 + 1, none⟩ = some (.int .i64 (p.2 : Nat)) ∧ w'.cell? ⟨w.heap.size + 1, 0, none⟩ = some (.int .u32 (m.1 : Nat)) ∧ w'.cell? ⟨w.heap.size + 1, 1, none⟩ = some (.int .i64 (m.2 : Nat)))
          (first
            | (with_reducible exact ⟨m0, m1, k0, k1⟩)
            | (with_reducible exact q5))
          (first
            | (go_at_call 35; (with_reducible refine (c1.out _).mono ?_); rintro e w5 ⟨rfl, hb5⟩; have q5 := hx.out w5 hb5; replace hb5 := Box.mk hb5))
        obtain ⟨y0, y1, y2⟩ := hk.out w5 hb5.out
        replace y0 := Box.mk y0
        replace y1 := Box.mk y1
        replace y2 := Box.mk y2
        go_wp2
        go_roundw
        case rel => exact ⟨u + 1, by omega, by omega, by go_num, y2, y0, by rw [hm2.out, hstep.out]; exact y1⟩
        case measure => simp [intOf]; omega
    · obtain rfl : u = n := by omega
      have n2 : decide ((u : Int) < (u : Int)) = false := decide_eq_false (by omega)
      have n3 : decide (u < u) = false := decide_eq_false (by omega)
      obtain ⟨m, hmm⟩ : ∃ m, m = minI P (u - 1) := ⟨_, rfl⟩
      rw [← hmm] at hM
      replace hmm := Box.mk hmm
      obtain ⟨k0, k1, f0, f1⟩ := cells2 hM.out
      obtain ⟨g0, g1, f2, f3⟩ := cells2 hZ.out
      go_wp2
      have hZ2 := heap_setCell_same _ w.heap.size 1 _ _ (.int .i64 (m.2 : Nat)) (heap_setCell_same _ w.heap.size 0 _ _ (.int .u32 (m.1 : Nat)) hZ.out)
      obtain ⟨g4, g5, -, -⟩ := cells2 (c0 := .int .u32 (m.1 : Nat)) (c1 := .int .i64 (m.2 : Nat)) hZ2
      refine bodyPost_ret (v := .agg #[.int .u32 (m.1 : Nat), .int .i64 (m.2 : Nat)]) ?_ rfl ⟨by rw [hmm.out], ?_⟩
      · simp [results, Try.results34, go_sem, g4, g5]
      · exact Below.setCell (Below.setCell hE.out (p := ⟨w.heap.size, 0, none⟩) (Nat.le_refl _) _) (p := ⟨w.heap.size, 1, none⟩) (Nat.le_refl _) _
theorem pl_struct : Try.prog.underlying 65 = some (.struct (Try.prog.fieldsOf 65)) ∧ Try.prog.stoodInHeld 65 = false ∧ Try.prog.eqGuardType Try.prog.depth 65 = false := ⟨by kernel_rfl, by kernel_rfl, by kernel_rfl⟩
theorem eqPl0 (k : Nat) (a s a' s' : Int) (w : World) : (Op.equalIn (k + 3) 65 (.agg #[.int .u32 a, .int .i64 s]) (.agg #[.int .u32 a', .int .i64 s'])).run Try.prog w = .ok (a == a' && s == s') w := by
  rw [run_equalIn_agg w (k + 2) 65 _ _ pl_struct.1 pl_struct.2.1]
  simp only [Program.fieldsOf, Try.underlying65]
  go_simp
  by_cases h1 : a = a' <;> by_cases h2 : s = s' <;> simp_all
theorem eqPl (a s a' s' : Int) (w : World) : (Op.equalIn 10000 65 (.agg #[.int .u32 a, .int .i64 s]) (.agg #[.int .u32 a', .int .i64 s'])).run Try.prog w = .ok (a == a' && s == s') w := eqPl0 9997 a s a' s' w
set_option maxRecDepth 100000 in
set_option maxHeartbeats 4000000 in
theorem ix_any (a : Option Addr) (c : Nat) (P : List (Nat × Nat)) (x y r : Nat) (hrl : r < P.length) (hr : P.getD r (0, 0) = (x, y)) (hf : ∀ j, j < r → P.getD j (0, 0) ≠ (x, y)) (w : World) (hL : P.length ≤ 1000000) (hC : CellsAt w a (rows plC P)) :
    Calls Try.prog 36 #[.slice a P.length c, .agg #[.int .u32 (x : Nat), .int .i64 (y : Nat)]] w fun e w' => e = .returned (.int .i64 (r : Nat)) ∧ Ext w w' := by
  have ge := pl_struct.2.2
  have HC := Box.mk hC
  clear hC
  obtain ⟨n, hn⟩ : ∃ n, n = P.length := ⟨_, rfl⟩
  rw [← hn] at hL hrl ⊢
  have HN := Box.mk hn
  clear hn
  replace hr := Box.mk hr
  replace hf := Box.mk hf
  have hB0 := newblk w (.cells #[.int .u32 (x : Nat), .int .i64 (y : Nat)] 65)
  go_enter Try.func36, Try.ntmps36
  go_wp2
  go_loopw [8] (fun i wr => ∃ t : Nat, t ≤ r ∧ i = .int .i64 t ∧ Box (wr.heap[w.heap.size]? = some (.cells #[.int .u32 (x : Nat), .int .i64 (y : Nat)] 65 (0, 0))) ∧ Box (Ext w wr)) (fun i _ => n - (intOf i).toNat)
  case atStart => exact ⟨0, by omega, rfl, ⟨hB0⟩, ⟨Ext.alloc (Below.refl _ _) _⟩⟩
  case round =>
    obtain ⟨t, ht, rfl, hB, hE⟩ := hrel
    have hkn : t < n := by omega
    have hkL : t < P.length := by rw [← HN.out]; exact hkn
    obtain ⟨b1, o1, rfl, r1⟩ := rows_row plC 2 (fun _ => rfl) (by decide) (CellsAt.ext hE.out HC.out) t hkL
    have m0 : wr.cell? ⟨b1, o1 + t * 2, none⟩ = some (.int .u32 ((P[t]).1 : Nat)) := r1 0 _ rfl
    have m1 : wr.cell? ⟨b1, o1 + t * 2 + 1, none⟩ = some (.int .i64 ((P[t]).2 : Nat)) := r1 1 _ rfl
    rw [plGet P t hkL] at m0 m1
    obtain ⟨k0, k1, -, -⟩ := cells2 hB.out
    clear r1
    have n0 : (0 : Int) ≤ (t : Int) := by omega
    have n1 : (t : Int) < (n : Int) := by omega
    have n2 : decide ((t : Int) < (n : Int)) = true := decide_eq_true n1
    have n3 : decide (t < n) = true := decide_eq_true hkn
    by_cases hx : t = r
    · subst hx
      have qe := fun w => eqPl (x : Int) (y : Int) (x : Int) (y : Int) w
      rw [show (((x : Int) == (x : Int)) && ((y : Int) == (y : Int))) = true by simp] at qe
      rw [hr.out] at m0 m1
      simp only at m0 m1
      go_wp2
      go_region
      all_goals
        go_wp2
        go_ret
        exact ⟨rfl, Ext.drew1 hE.out⟩
    · have hne := hf.out t (by omega)
      have qe := fun w => eqPl (x : Int) (y : Int) ((P.getD t (0, 0)).1 : Int) ((P.getD t (0, 0)).2 : Int) w
      have hdf : (((x : Int) == ((P.getD t (0, 0)).1 : Int)) && ((y : Int) == ((P.getD t (0, 0)).2 : Int))) = false := by
        rw [Bool.and_eq_false_iff, beq_eq_false_iff_ne, beq_eq_false_iff_ne]
        by_cases e1 : (x : Int) = ((P.getD t (0, 0)).1 : Int)
        · right
          intro e2
          apply hne
          apply Prod.ext
          · show (P.getD t (0, 0)).1 = x
            omega
          · show (P.getD t (0, 0)).2 = y
            omega
        · exact Or.inl e1
      rw [hdf] at qe
      clear hdf hne
      generalize P.getD t (0, 0) = p at *
      go_wp2
      go_region
      all_goals
        go_wp2
        go_roundw
        case rel => exact ⟨t + 1, by omega, by go_num, ⟨Ext.blk (Ext.drew1 (Below.refl _ _)) hB.out⟩, ⟨Ext.drew1 hE.out⟩⟩
        case measure => simp [intOf]; omega
end Go.Proofs.Ytbhfpofcebepiaa
