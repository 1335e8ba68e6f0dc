import Derived.Test.YtbhfpofcebepiaaB9
/- The contract of Best's closure: a request that is a miss where there is room. -/
namespace Go.Proofs.Ytbhfpofcebepiaa
open Go.RowKit Go.ChangeMaps
set_option maxRecDepth 100000 in
set_option maxHeartbeats 8000000 in
theorem best_room (tr : List Nat) (k : Nat) (D : List Nat) (T K Nn Bc Sz KB NB : Nat) (w : World) (h : BestW tr k D T K Nn Bc Sz KB NB w) (i s : Nat) (hi : i < tr.length) (hl : tr.length ≤ 14) (hs : s < 65536) (many : Int) (es : Array MapEntry) (clock : Nat) (hB : w.heap[KB]? = some (.map es clock)) (hM : MemoOk tr k D es.toList)
    (hnot : ∀ e ∈ es.toList, e.key ≠ (.agg #[.int .i64 i, .int .u16 s])) (b : Nat) (hb : D.idxOf (keyB tr i) = b) (hbD : keyB tr i ∈ D) (hb16 : b < 16) (hbit : s.testBit b = false) (hmk : many < (k : Int)) (hmany : 0 ≤ many ∧ many ≤ 1000000)
    (z : Nat) (hz : valB tr k D (i + 1) (s ||| 2 ^ b) = z) (hz2 : valB tr k D i s = z) (hz3 : z ≤ 14)
    (IH : ∀ w', BestW tr k D T K Nn Bc Sz KB NB w' → Calls Try.prog 42 #[.agg #[.int .i64 ((i : Int) + 1), .int .u16 ((s ||| 2 ^ b : Nat) : Int)], .int .i64 (many + 1), .pointer (some ⟨T, 0, none⟩), .pointer (some ⟨K, 0, none⟩), .pointer (some ⟨Nn, 0, none⟩), .pointer (some ⟨Bc, 0, none⟩), .pointer (some ⟨Sz, 0, none⟩)] w' (BestP tr k D KB (i + 1) (s ||| 2 ^ b) w')) :
    Calls Try.prog 42 #[(.agg #[.int .i64 i, .int .u16 s]), .int .i64 many, .pointer (some ⟨T, 0, none⟩), .pointer (some ⟨K, 0, none⟩), .pointer (some ⟨Nn, 0, none⟩), .pointer (some ⟨Bc, 0, none⟩), .pointer (some ⟨Sz, 0, none⟩)] w (BestP tr k D KB i s w) := by
  have hmf : ∀ (fn : Fn) (first cap : Array Value) (w : World), (Instr.makeFunc fn first cap).run Try.prog w = .ok (.func fn first cap) w := fun _ _ _ _ => rfl
  obtain ⟨Post, hP⟩ : ∃ P, P = BestP tr k D KB i s w := ⟨_, rfl⟩
  rw [← hP]
  replace hP := Box.mk hP
  have hx : Ext w ((w.alloc (.cells #[.int .i64 (i : Nat), .int .u16 (s : Nat)] 79)).alloc (.cells #[.int .i64 0] 3)) := Ext.alloc (Ext.alloc (Below.refl _ _) _) _
  have hB2 := (hx.block KB (Array.getElem?_eq_some_iff.1 hB).1).trans hB
  obtain ⟨v, ok, hlk, hyes, hno⟩ := lookSt hB2 hM.keys i s
  have hok : ok = false := by
    cases ok with
    | false => rfl
    | true =>
      obtain ⟨e, he, hek, _⟩ := hyes rfl
      exact absurd hek (hnot e he)
  subst hok
  obtain ⟨rfl, -⟩ := hno rfl
  have hnl := numLook ((h.ext hx).nums.ext (Ext.drew1 (Below.refl _ _))) (keyB tr i) hbD
  rw [hb] at hnl
  have hp16 := pow16 hb16
  have hw1 := wrap_pow hb16
  have hand : (s &&& 2 ^ b) = 0 := by
    rw [and_pow, if_neg (by rw [hbit]; decide)]
  generalize 2 ^ b = p at *
  have hor := u16_or_nat s p hs hp16
  have han := u16_and_nat s p hs hp16
  generalize s ||| p = q at *
  have hne : (((s &&& p : Nat) : Int) != 0) = false := by rw [hand]; rfl
  generalize s &&& p = r at *
  have hx4 : Ext w (((w.alloc (.cells #[.int .i64 (i : Nat), .int .u16 (s : Nat)] 79)).alloc (.cells #[.int .i64 0] 3)).alloc (.cells #[.int .i64 ((i : Int) + 1), .int .u16 (q : Nat)] 79)).drew := Ext.drew1 (Ext.alloc hx _)
  have cI := Box.mk (IH _ (h.ext hx4))
  have hKBl : KB < w.heap.size := (Array.getElem?_eq_some_iff.1 hB).1
  have hSb : ((((w.alloc (.cells #[.int .i64 (i : Nat), .int .u16 (s : Nat)] 79)).alloc (.cells #[.int .i64 0] 3)).alloc (.cells #[.int .i64 ((i : Int) + 1), .int .u16 (q : Nat)] 79)).drew).heap[w.heap.size]? = some (.cells #[.int .i64 (i : Nat), .int .u16 (s : Nat)] 79 (0, 0)) := by
    have e1 : (w.alloc (.cells #[.int .i64 (i : Nat), .int .u16 (s : Nat)] 79)).heap[w.heap.size]? = some (.cells #[.int .i64 (i : Nat), .int .u16 (s : Nat)] 79 (0, 0)) := by
      show (w.heap.push _)[w.heap.size]? = _
      simp
    have e2 : Ext (w.alloc (.cells #[.int .i64 (i : Nat), .int .u16 (s : Nat)] 79)) _ := Ext.drew1 (Ext.alloc (Ext.alloc (Below.refl _ _) (.cells #[.int .i64 0] 3)) (.cells #[.int .i64 ((i : Int) + 1), .int .u16 (q : Nat)] 79))
    exact (e2.block w.heap.size (by simp)).trans e1
  have hNb : ((((w.alloc (.cells #[.int .i64 (i : Nat), .int .u16 (s : Nat)] 79)).alloc (.cells #[.int .i64 0] 3)).alloc (.cells #[.int .i64 ((i : Int) + 1), .int .u16 (q : Nat)] 79)).drew).heap[w.heap.size + 1]? = some (.cells #[.int .i64 0] 3 (0, 0)) := by
    have e1 : ((w.alloc (.cells #[.int .i64 (i : Nat), .int .u16 (s : Nat)] 79)).alloc (.cells #[.int .i64 0] 3)).heap[w.heap.size + 1]? = some (.cells #[.int .i64 0] 3 (0, 0)) := by
      have e0 := heap_alloc_new (w.alloc (.cells #[.int .i64 (i : Nat), .int .u16 (s : Nat)] 79)) (.cells #[.int .i64 0] 3)
      rw [World.size_alloc] at e0
      exact e0
    have e2 : Ext ((w.alloc (.cells #[.int .i64 (i : Nat), .int .u16 (s : Nat)] 79)).alloc (.cells #[.int .i64 0] 3)) _ := Ext.drew1 (Ext.alloc (Below.refl _ _) (.cells #[.int .i64 ((i : Int) + 1), .int .u16 (q : Nat)] 79))
    exact (e2.block (w.heap.size + 1) (by simp)).trans e1
  have hSl := (Array.getElem?_eq_some_iff.1 hSb).1
  have hNl2 := (Array.getElem?_eq_some_iff.1 hNb).1
  have hfacts : Box (∀ w5, KeepB KB (((w.alloc (.cells #[.int .i64 (i : Nat), .int .u16 (s : Nat)] 79)).alloc (.cells #[.int .i64 0] 3)).alloc (.cells #[.int .i64 ((i : Int) + 1), .int .u16 (q : Nat)] 79)).drew w5 → w5.cell? ⟨w.heap.size + 1, 0, none⟩ = some (.int .i64 0) ∧ w5.frozen? ⟨w.heap.size + 1, 0, none⟩ = false ∧ w5.heap[w.heap.size]? = some (.cells #[.int .i64 (i : Nat), .int .u16 (s : Nat)] 79 (0, 0)) ∧ w5.heap[w.heap.size + 1]? = some (.cells #[.int .i64 0] 3 (0, 0))) := ⟨fun w5 hk5 => by
    have e1 := (hk5.block _ hSl (by omega)).trans hSb
    have e2 := (hk5.block _ hNl2 (by omega)).trans hNb
    refine ⟨?_, Lib.frozen_of_heap e2 0, e1, e2⟩
    rw [Lib.cell_of_heap e2]
    rfl⟩
  replace hSb := Box.mk hSb
  replace hNb := Box.mk hNb
  replace hSl := Box.mk hSl
  replace hNl2 := Box.mk hNl2
  have hW4 := Box.mk (h.ext hx4)
  obtain ⟨a, c, hT, hC⟩ := (h.ext hx).trace
  obtain ⟨b1, o1, rfl, hcell⟩ := hC i _ (u32L_at hi)
  rw [keyB_get tr i hi] at hcell
  have hT0 := h.trace
  have hTl : T < w.heap.size := by obtain ⟨_, _, q, _⟩ := hT0; exact lt_of_cell q
  have hKl := lt_of_cell h.known
  have hNl := lt_of_cell h.number
  have hBl := lt_of_cell h.best
  have hK := (h.ext hx).known
  have hN := (h.ext hx).number
  have hBc := h.best
  have hBc2 := (h.ext hx).best
  have hBc4 := (h.ext hx4).best
  have hbl : b1 < w.heap.size := by
    obtain ⟨a, c, q, qc⟩ := hT0
    have e1 := Ext.cell hx q
    rw [hT] at e1
    cases e1
    obtain ⟨b3, o3, e3, q3⟩ := qc i _ (u32L_at hi)
    cases e3
    exact lt_of_cell q3
  have g1 : ((i : Int) == (tr.length : Int)) = false := by rw [beq_eq_false_iff_ne]; omega
  have g2 : (i == tr.length) = false := by rw [beq_eq_false_iff_ne]; omega
  have g3 : (0 : Int) ≤ (i : Int) := by omega
  have g4 : (i : Int) < (tr.length : Int) := by omega
  have g5 : (0 : Int) ≤ (b : Int) := by omega
  have g7 : IntKind.i64.wrap (many + 1) = many + 1 := by rw [IntKind.wrap_i64]; omega
  have g8 : decide (many < (k : Int)) = true := decide_eq_true hmk
  have hSz4 := (h.ext hx4).size
  have hSzl := lt_of_cell h.size
  have g6 : IntKind.i64.wrap ((i : Int) + 1) = (i : Int) + 1 := b64_one (by omega)
  replace hM := Box.mk hM
  replace hnot := Box.mk hnot
  replace hC := Box.mk hC
  clear IH hT0 hyes hno hand
  generalize keyB tr i = x at *
  generalize htl : tr.length = n at *
  replace htl := Box.mk htl
  go_enter_defers Try.func42, Try.ntmps42
  go_wp2_with (fail)
  go_region
  go_wp2_with (go_at_call 42; (with_reducible refine cI.out.mono ?_); rintro e w5 ⟨rfl, hk5, hm5⟩; obtain ⟨n5, f5, hS5, hN5⟩ := hfacts.out w5 hk5; replace hS5 := Box.mk hS5; replace hN5 := Box.mk hN5; replace hk5 := Box.mk hk5; replace hm5 := Box.mk hm5)
  obtain ⟨es5, clock5, hB5, hM5⟩ := hm5.out
  have hK4 := hW4.out.known
  have hKne : K ≠ KB := not_map hB5 (hk5.out.cell (fun e => by
    have h4 := hW4.out.memo
    obtain ⟨e4, c4, q4, _⟩ := h4
    exact not_map q4 hK4 e) hK4)
  have hK5 := hk5.out.cell hKne hK4
  have hN6 := heap_setCell_same w5 (w.heap.size + 1) 0 _ _ (.int .i64 (z : Nat)) hN5.out
  have hS6 := (heap_setCell_other w5 ⟨w.heap.size + 1, 0, none⟩ w.heap.size (.int .i64 (z : Nat)) (by show w.heap.size ≠ w.heap.size + 1; omega)).trans hS5.out
  have hB6 := (heap_setCell_other w5 ⟨w.heap.size + 1, 0, none⟩ KB (.int .i64 (z : Nat)) (by show KB ≠ w.heap.size + 1; omega)).trans hB5
  have hK6 : (w5.setCell ⟨w.heap.size + 1, 0, none⟩ (.int .i64 (z : Nat))).cell? ⟨K, 0, none⟩ = some (.map (some KB)) := by
    rw [World.cell?_setCell_far _ _ _ _ (by show w.heap.size + 1 ≠ K; omega)]
    exact hK5
  refine leaves_cons (f := 43) (args := #[.pointer (some ⟨w.heap.size + 1, 0, none⟩), .pointer (some ⟨K, 0, none⟩), .pointer (some ⟨w.heap.size, 0, none⟩)]) (by simp) (by simp [go_sem]) ?_
  refine (defer_any (w.heap.size + 1) K w.heap.size KB (z : Nat) (i : Int) (s : Int) (w5.setCell ⟨w.heap.size + 1, 0, none⟩ (.int .i64 (z : Nat))) es5 clock5 (by rw [Lib.cell_of_heap hN6]; rfl) hK6 (by rw [Lib.cell_of_heap hS6]; rfl) (by rw [Lib.cell_of_heap hS6]; rfl) hB6 hM5.keys).mono ?_
  rintro e u' w'' ⟨rfl, rfl, es', clock', rfl, hks, hmm⟩
  have hN7 : (setBlock (w5.setCell ⟨w.heap.size + 1, 0, none⟩ (.int .i64 (z : Nat))) KB (.map es' clock')).heap[w.heap.size + 1]? = _ := ((KeepB.set (w5.setCell ⟨w.heap.size + 1, 0, none⟩ (.int .i64 (z : Nat))) (.map es' clock')).block (w.heap.size + 1) (Array.getElem?_eq_some_iff.1 hN6).1 (by omega)).trans hN6
  refine ⟨.int .i64 (z : Nat), ?_, ?_⟩
  · have c7 : (setBlock (w5.setCell ⟨w.heap.size + 1, 0, none⟩ (.int .i64 (z : Nat))) KB (.map es' clock')).cell? ⟨w.heap.size + 1, 0, none⟩ = some (.int .i64 (z : Nat)) := by
      rw [Lib.cell_of_heap hN7]; rfl
    rw [results_one rfl]
    simp [asAddr, Result.andThen, go_sem, c7]
  · rw [hP.out]
    refine ⟨by rw [hz2], ?_, es', clock', ?_, ?_⟩
    · have k1 := KeepB.of_ext (B := KB) hx4
      have k2 := k1.trans hk5.out
      have hsz := k2.size
      have k3 : KeepB KB w (w5.setCell ⟨w.heap.size + 1, 0, none⟩ (.int .i64 (z : Nat))) := ⟨k2.os, k2.tape, k2.output, by simpa using hsz, fun j hj hn => (heap_setCell_other w5 ⟨w.heap.size + 1, 0, none⟩ j _ (by show j ≠ w.heap.size + 1; omega)).trans (k2.block j hj hn)⟩
      exact k3.trans (KeepB.set _ _)
    · show ((w5.setCell ⟨w.heap.size + 1, 0, none⟩ (.int .i64 (z : Nat))).heap.setIfInBounds KB _)[KB]? = _
      rw [Array.getElem?_setIfInBounds_self_of_lt (Array.getElem?_eq_some_iff.1 hB6).1]
    · intro e he
      rcases hmm e he with ⟨h1, h2⟩ | ⟨e0, h0, h1, h2⟩
      · exact ⟨i, s, by have := htl.out; omega, h1, by rw [h2, hz2]⟩
      · obtain ⟨i', s', h3, h4, h5⟩ := hM5 e0 h0
        exact ⟨i', s', h3, by rw [← h1, h4], by rw [← h2, h5]⟩
end Go.Proofs.Ytbhfpofcebepiaa
