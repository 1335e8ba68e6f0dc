import Derived.Test.YtbhfpofcebepiaaB10
import Derived.Deep.RegionHeld3
/- The contract of Best's closure: a request that is a miss where there is no room: all keys are tried. -/
namespace Go.Proofs.Ytbhfpofcebepiaa
open Go.RowKit Go.ChangeMaps
theorem maxB_snoc (l : List Nat) (x : Nat) : maxB (l ++ [x]) = max (maxB l) x := by
  apply Nat.le_antisymm
  · refine maxB_le fun y hy => ?_
    rcases List.mem_append.1 hy with h | h
    · have := maxB_ge h; omega
    · simp at h; omega
  · refine Nat.max_le.2 ⟨maxB_le fun y hy => maxB_ge (List.mem_append.2 (Or.inl hy)), maxB_ge (by simp)⟩
theorem cut16 (t : Nat) (h : t < 16) : 65535 - 2 ^ t = 65535 ^^^ 2 ^ t := by
  have : ∀ t < 16, 65535 - 2 ^ t = 65535 ^^^ 2 ^ t := by decide
  exact this t h
def ldN : Op := Op.load 3 (Operand.tmp 9)
/-- What the loop tries. -/
def tryB (tr : List Nat) (k : Nat) (D : List Nat) (i s q j : Nat) : Nat := if s.testBit j then valB tr k D (i + 1) (q &&& (65535 ^^^ 2 ^ j)) else 0
def triedB (tr : List Nat) (k : Nat) (D : List Nat) (i s q t : Nat) : Nat := maxB ((List.range t).map (tryB tr k D i s q))
theorem tried_succ (tr : List Nat) (k : Nat) (D : List Nat) (i s q t : Nat) : triedB tr k D i s q (t + 1) = max (triedB tr k D i s q t) (tryB tr k D i s q t) := by
  unfold triedB
  rw [List.range_succ, List.map_append, List.map_cons, List.map_nil, maxB_snoc]
/-- Between two rounds. -/
structure FullR (tr : List Nat) (k : Nat) (D : List Nat) (KB i s q z : Nat) (w wr : World) : Prop where
  keep : KeepB KB w wr
  sb : wr.heap[w.heap.size]? = some (.cells #[.int .i64 (i : Nat), .int .u16 (s : Nat)] 79 (0, 0))
  nb : wr.heap[w.heap.size + 1]? = some (.cells #[.int .i64 (z : Nat)] 3 (0, 0))
  tb : wr.heap[w.heap.size + 2]? = some (.cells #[.int .i64 ((i : Int) + 1), .int .u16 (q : Nat)] 79 (0, 0))
  memo : ∃ es clock, wr.heap[KB]? = some (.map es clock) ∧ MemoOk tr k D es.toList
  kb : KB < w.heap.size
set_option maxRecDepth 100000 in
set_option maxHeartbeats 8000000 in
theorem best_full (tr : List Nat) (k : Nat) (D : List Nat) (T K Nn Bc Sz KB NB : Nat) (w : World) (h : BestW tr k D T K Nn Bc Sz KB NB w) (i s : Nat) (hi : i < tr.length) (hl : tr.length ≤ 14) (hs : s < 65536) (many : Int) (es : Array MapEntry) (clock : Nat) (hB : w.heap[KB]? = some (.map es clock)) (hM : MemoOk tr k D es.toList)
    (hnot : ∀ e ∈ es.toList, e.key ≠ (.agg #[.int .i64 i, .int .u16 s])) (b : Nat) (hb : D.idxOf (keyB tr i) = b) (hbD : keyB tr i ∈ D) (hb16 : b < 16) (hbit : s.testBit b = false) (hmk : (k : Int) ≤ many) (hmany : 0 ≤ many ∧ many ≤ 1000000) (hD16 : D.length ≤ 16)
    (hz2 : valB tr k D i s = triedB tr k D i s (s ||| 2 ^ b) D.length) (hz3 : ∀ j s, valB tr k D j s ≤ 14)
    (IH : ∀ j, j < D.length → s.testBit j = true → ∀ w', BestW tr k D T K Nn Bc Sz KB NB w' → Calls Try.prog 42 #[.agg #[.int .i64 ((i : Int) + 1), .int .u16 (((s ||| 2 ^ b) &&& (65535 ^^^ 2 ^ j) : Nat) : Int)], .int .i64 many, .pointer (some ⟨T, 0, none⟩), .pointer (some ⟨K, 0, none⟩), .pointer (some ⟨Nn, 0, none⟩), .pointer (some ⟨Bc, 0, none⟩), .pointer (some ⟨Sz, 0, none⟩)] w' (BestP tr k D KB (i + 1) ((s ||| 2 ^ b) &&& (65535 ^^^ 2 ^ j)) w')) :
    Calls Try.prog 42 #[(.agg #[.int .i64 i, .int .u16 s]), .int .i64 many, .pointer (some ⟨T, 0, none⟩), .pointer (some ⟨K, 0, none⟩), .pointer (some ⟨Nn, 0, none⟩), .pointer (some ⟨Bc, 0, none⟩), .pointer (some ⟨Sz, 0, none⟩)] w (BestP tr k D KB i s w) := by
  have hmf : ∀ (fn : Fn) (first cap : Array Value) (w : World), (Instr.makeFunc fn first cap).run Try.prog w = .ok (.func fn first cap) w := fun _ _ _ _ => rfl
  obtain ⟨Post, hP⟩ : ∃ P, P = BestP tr k D KB i s w := ⟨_, rfl⟩
  rw [← hP]
  replace hP := Box.mk hP
  have hx : Ext w ((w.alloc (.cells #[.int .i64 (i : Nat), .int .u16 (s : Nat)] 79)).alloc (.cells #[.int .i64 0] 3)) := Ext.alloc (Ext.alloc (Below.refl _ _) _) _
  have hB2 := (hx.block KB (Array.getElem?_eq_some_iff.1 hB).1).trans hB
  obtain ⟨v, ok, hlk, hyes, hno⟩ := lookSt hB2 hM.keys i s
  have hok : ok = false := by
    cases ok with
    | false => rfl
    | true =>
      obtain ⟨e, he, hek, _⟩ := hyes rfl
      exact absurd hek (hnot e he)
  subst hok
  obtain ⟨rfl, -⟩ := hno rfl
  have hnl := numLook ((h.ext hx).nums.ext (Ext.drew1 (Below.refl _ _))) (keyB tr i) hbD
  rw [hb] at hnl
  have hp16 := pow16 hb16
  have hw1 := wrap_pow hb16
  have hand : (s &&& 2 ^ b) = 0 := by
    rw [and_pow, if_neg (by rw [hbit]; decide)]
  generalize 2 ^ b = p at *
  have hor := u16_or_nat s p hs hp16
  have han := u16_and_nat s p hs hp16
  have hq16 : s ||| p < 65536 := Nat.or_lt_two_pow (n := 16) hs hp16
  generalize s ||| p = q at *
  have hne : (((s &&& p : Nat) : Int) != 0) = false := by rw [hand]; rfl
  generalize s &&& p = r at *
  have hx4 : Ext w (((w.alloc (.cells #[.int .i64 (i : Nat), .int .u16 (s : Nat)] 79)).alloc (.cells #[.int .i64 0] 3)).alloc (.cells #[.int .i64 ((i : Int) + 1), .int .u16 (q : Nat)] 79)).drew := Ext.drew1 (Ext.alloc hx _)
  have cI := Box.mk IH
  have hKBl : KB < w.heap.size := (Array.getElem?_eq_some_iff.1 hB).1
  have hSb : ((((w.alloc (.cells #[.int .i64 (i : Nat), .int .u16 (s : Nat)] 79)).alloc (.cells #[.int .i64 0] 3)).alloc (.cells #[.int .i64 ((i : Int) + 1), .int .u16 (q : Nat)] 79)).drew).heap[w.heap.size]? = some (.cells #[.int .i64 (i : Nat), .int .u16 (s : Nat)] 79 (0, 0)) := by
    have e1 : (w.alloc (.cells #[.int .i64 (i : Nat), .int .u16 (s : Nat)] 79)).heap[w.heap.size]? = some (.cells #[.int .i64 (i : Nat), .int .u16 (s : Nat)] 79 (0, 0)) := by
      show (w.heap.push _)[w.heap.size]? = _
      simp
    have e2 : Ext (w.alloc (.cells #[.int .i64 (i : Nat), .int .u16 (s : Nat)] 79)) _ := Ext.drew1 (Ext.alloc (Ext.alloc (Below.refl _ _) (.cells #[.int .i64 0] 3)) (.cells #[.int .i64 ((i : Int) + 1), .int .u16 (q : Nat)] 79))
    exact (e2.block w.heap.size (by simp)).trans e1
  have hNb : ((((w.alloc (.cells #[.int .i64 (i : Nat), .int .u16 (s : Nat)] 79)).alloc (.cells #[.int .i64 0] 3)).alloc (.cells #[.int .i64 ((i : Int) + 1), .int .u16 (q : Nat)] 79)).drew).heap[w.heap.size + 1]? = some (.cells #[.int .i64 0] 3 (0, 0)) := by
    have e1 : ((w.alloc (.cells #[.int .i64 (i : Nat), .int .u16 (s : Nat)] 79)).alloc (.cells #[.int .i64 0] 3)).heap[w.heap.size + 1]? = some (.cells #[.int .i64 0] 3 (0, 0)) := by
      have e0 := heap_alloc_new (w.alloc (.cells #[.int .i64 (i : Nat), .int .u16 (s : Nat)] 79)) (.cells #[.int .i64 0] 3)
      rw [World.size_alloc] at e0
      exact e0
    have e2 : Ext ((w.alloc (.cells #[.int .i64 (i : Nat), .int .u16 (s : Nat)] 79)).alloc (.cells #[.int .i64 0] 3)) _ := Ext.drew1 (Ext.alloc (Below.refl _ _) (.cells #[.int .i64 ((i : Int) + 1), .int .u16 (q : Nat)] 79))
    exact (e2.block (w.heap.size + 1) (by simp)).trans e1
  have hSl := (Array.getElem?_eq_some_iff.1 hSb).1
  have hNl2 := (Array.getElem?_eq_some_iff.1 hNb).1
  have hTb : ((((w.alloc (.cells #[.int .i64 (i : Nat), .int .u16 (s : Nat)] 79)).alloc (.cells #[.int .i64 0] 3)).alloc (.cells #[.int .i64 ((i : Int) + 1), .int .u16 (q : Nat)] 79)).drew).heap[w.heap.size + 2]? = some (.cells #[.int .i64 ((i : Int) + 1), .int .u16 (q : Nat)] 79 (0, 0)) := by
    have e0 := heap_alloc_new ((w.alloc (.cells #[.int .i64 (i : Nat), .int .u16 (s : Nat)] 79)).alloc (.cells #[.int .i64 0] 3)) (.cells #[.int .i64 ((i : Int) + 1), .int .u16 (q : Nat)] 79)
    rw [World.size_alloc, World.size_alloc] at e0
    exact e0
  have hstart : Box (FullR tr k D KB i s q (triedB tr k D i s q 0) w (((w.alloc (.cells #[.int .i64 (i : Nat), .int .u16 (s : Nat)] 79)).alloc (.cells #[.int .i64 0] 3)).alloc (.cells #[.int .i64 ((i : Int) + 1), .int .u16 (q : Nat)] 79)).drew) := ⟨KeepB.of_ext hx4, hSb, hNb, hTb, ⟨es, clock, (hx4.block KB (Array.getElem?_eq_some_iff.1 hB).1).trans hB, hM⟩, hKBl⟩
  replace hSb := Box.mk hSb
  replace hNb := Box.mk hNb
  replace hTb := Box.mk hTb
  clear hSl hNl2
  have hW4 := Box.mk (h.ext hx4)
  obtain ⟨a, c, hT, hC⟩ := (h.ext hx).trace
  obtain ⟨b1, o1, rfl, hcell⟩ := hC i _ (u32L_at hi)
  rw [keyB_get tr i hi] at hcell
  have hT0 := h.trace
  have hTl : T < w.heap.size := by obtain ⟨_, _, q, _⟩ := hT0; exact lt_of_cell q
  have hKl := lt_of_cell h.known
  have hNl := lt_of_cell h.number
  have hBl := lt_of_cell h.best
  have hK := (h.ext hx).known
  have hN := (h.ext hx).number
  have hBc := h.best
  have hBc2 := (h.ext hx).best
  have hBc4 := (h.ext hx4).best
  have hN4 := (h.ext hx4).number
  have hbl : b1 < w.heap.size := by
    obtain ⟨a, c, q, qc⟩ := hT0
    have e1 := Ext.cell hx q
    rw [hT] at e1
    cases e1
    obtain ⟨b3, o3, e3, q3⟩ := qc i _ (u32L_at hi)
    cases e3
    exact lt_of_cell q3
  have g1 : ((i : Int) == (tr.length : Int)) = false := by rw [beq_eq_false_iff_ne]; omega
  have g2 : (i == tr.length) = false := by rw [beq_eq_false_iff_ne]; omega
  have g3 : (0 : Int) ≤ (i : Int) := by omega
  have g4 : (i : Int) < (tr.length : Int) := by omega
  have g5 : (0 : Int) ≤ (b : Int) := by omega
  have g7 : IntKind.i64.wrap (many + 1) = many + 1 := by rw [IntKind.wrap_i64]; omega
  have g8 : decide (many < (k : Int)) = false := decide_eq_false (by omega)
  have hSz4 := (h.ext hx4).size
  have hSzl := lt_of_cell h.size
  have g6 : IntKind.i64.wrap ((i : Int) + 1) = (i : Int) + 1 := b64_one (by omega)
  replace hM := Box.mk hM
  replace hnot := Box.mk hnot
  replace hC := Box.mk hC
  clear IH hT0 hyes hno hand
  generalize keyB tr i = x at *
  generalize htl : tr.length = n at *
  replace htl := Box.mk htl
  obtain ⟨en, cn, hnm, hsz⟩ := numSize (h.nums.ext hx4)
  have hlen := run_len_map (w := (((w.alloc (.cells #[.int .i64 (i : Nat), .int .u16 (s : Nat)] 79)).alloc (.cells #[.int .i64 0] 3)).alloc (.cells #[.int .i64 ((i : Int) + 1), .int .u16 (q : Nat)] 79)).drew) (P := Try.prog) 56 3 NB en cn Try.underlying56 hnm
  rw [hsz] at hlen
  go_enter_defers Try.func42, Try.ntmps42
  go_wp2_with (fail)
  go_region
  go_wp2_with (fail)
  go_loopw [67] (fun jv wr => ∃ t : Nat, t ≤ D.length ∧ jv = .int .i64 t ∧ Box (FullR tr k D KB i s q (triedB tr k D i s q t) w wr)) (fun jv _ => D.length - (intOf jv).toNat)
  case atStart => exact ⟨0, by omega, rfl, hstart⟩
  case round =>
    obtain ⟨t, ht, rfl, hR⟩ := hrel
    by_cases htd : t < D.length
    · have hst : wr.cell? ⟨w.heap.size, 1, none⟩ = some (.int .u16 (s : Nat)) := by rw [Lib.cell_of_heap hR.out.sb]; rfl
      have g9 : decide ((t : Int) < (D.length : Int)) = true := decide_eq_true (by omega)
      have g10 : decide (t < D.length) = true := decide_eq_true htd
      have t0 : (0 : Int) ≤ (t : Int) := by omega
      have t16 : t < 16 := by omega
      have t64 : IntKind.i64.wrap ((t : Int) + 1) = (t : Int) + 1 := b64_one (by omega)
      obtain ⟨m, hm⟩ : ∃ m, m = triedB tr k D i s q t := ⟨_, rfl⟩
      obtain ⟨r2, hr2⟩ : ∃ r2, r2 = s / 2 ^ t := ⟨_, rfl⟩
      have hsh : (s : Int) / 2 ^ t = (r2 : Int) := by rw [hr2]; simp
      have hsm : r2 < 65536 := by rw [hr2]; exact Nat.lt_of_le_of_lt (Nat.div_le_self _ _) hs
      by_cases htb : s.testBit t = true
      · have ha1 : bits .and .u16 (r2 : Int) 1 = 1 := by
          have e1 := u16_and_nat r2 1 hsm (by decide)
          have e2 : r2 &&& 1 = 1 := by
            rw [Nat.and_one_is_mod, hr2]
            simpa [Nat.testBit_eq_decide_div_mod_eq] using htb
          rw [e2] at e1
          exact e1
        have hne2 : w.heap.size + 1 ≠ KB := by omega
        have hRd : FullR tr k D KB i s q m w wr.drew := by
          have hR := hR.out
          rw [← hm] at hR
          exact ⟨hR.keep.trans (KeepB.of_ext (Ext.drew1 (Below.refl _ _))), hR.sb, hR.nb, hR.tb, hR.memo, hR.kb⟩
        have hW5 := h.keep hRd.keep hRd.memo
        have c77 : wr.drew.cell? ⟨Bc, 0, none⟩ = some (.func (.func 42) #[] #[.pointer (some ⟨T, 0, none⟩), .pointer (some ⟨K, 0, none⟩), .pointer (some ⟨Nn, 0, none⟩), .pointer (some ⟨Bc, 0, none⟩), .pointer (some ⟨Sz, 0, none⟩)]) := hW5.best
        have c76 : wr.drew.cell? ⟨w.heap.size + 1, 0, none⟩ = some (.int .i64 (m : Nat)) := by rw [Lib.cell_of_heap hRd.nb]; rfl
        have c79 : wr.drew.cell? ⟨w.heap.size + 1 + 1, 0, none⟩ = some (.int .i64 ((i : Int) + 1)) := by rw [Lib.cell_of_heap hRd.tb]; rfl
        have c81 : wr.drew.cell? ⟨w.heap.size + 1 + 1, 1, none⟩ = some (.int .u16 (q : Nat)) := by rw [Lib.cell_of_heap hRd.tb]; rfl
        have cJ := cI.out t htd htb wr.drew hW5
        have hsucc := tried_succ tr k D i s q t
        have htry : tryB tr k D i s q t = valB tr k D (i + 1) (q &&& (65535 ^^^ 2 ^ t)) := by unfold tryB; rw [if_pos htb]
        rw [htry, ← hm] at hsucc
        have hw2 := wrap_pow t16
        have hP16 := pow16 t16
        have haN := u16_andNot_nat q (2 ^ t) hq16 hP16
        rw [cut16 t t16] at haN
        generalize q &&& (65535 ^^^ 2 ^ t) = u at *
        generalize 2 ^ t = P at *
        unfold BestP at cJ
        generalize valB tr k D (i + 1) u = v at *
        have hmx : max (m : Int) (v : Int) = ((max m v : Nat) : Int) := by omega
        generalize max m v = mv at *
        have hBcne : Bc ≠ KB := fun e => by
          obtain ⟨e4, c4, q4, _⟩ := hRd.memo
          exact not_map q4 c77 e
        have hfacts : Box (∀ w5, KeepB KB wr.drew w5 → w5.cell? ⟨w.heap.size + 1, 0, none⟩ = some (.int .i64 (m : Nat)) ∧ w5.frozen? ⟨w.heap.size + 1, 0, none⟩ = false ∧ (w5.cell? ⟨Bc, 0, none⟩ = some (.func (.func 42) #[] #[.pointer (some ⟨T, 0, none⟩), .pointer (some ⟨K, 0, none⟩), .pointer (some ⟨Nn, 0, none⟩), .pointer (some ⟨Bc, 0, none⟩), .pointer (some ⟨Sz, 0, none⟩)]) ∧ w5.cell? ⟨w.heap.size + 1 + 1, 0, none⟩ = some (.int .i64 ((i : Int) + 1)) ∧ w5.cell? ⟨w.heap.size + 1 + 1, 1, none⟩ = some (.int .u16 (q : Nat))) ∧ ((w5.setCell ⟨w.heap.size + 1, 0, none⟩ (.int .i64 (mv : Nat))).cell? ⟨Bc, 0, none⟩ = some (.func (.func 42) #[] #[.pointer (some ⟨T, 0, none⟩), .pointer (some ⟨K, 0, none⟩), .pointer (some ⟨Nn, 0, none⟩), .pointer (some ⟨Bc, 0, none⟩), .pointer (some ⟨Sz, 0, none⟩)]) ∧ (w5.setCell ⟨w.heap.size + 1, 0, none⟩ (.int .i64 (mv : Nat))).cell? ⟨w.heap.size + 1 + 1, 0, none⟩ = some (.int .i64 ((i : Int) + 1)) ∧ (w5.setCell ⟨w.heap.size + 1, 0, none⟩ (.int .i64 (mv : Nat))).cell? ⟨w.heap.size + 1 + 1, 1, none⟩ = some (.int .u16 (q : Nat)))) := ⟨fun w5 hk5 => by
          have e2 := (hk5.block _ (Array.getElem?_eq_some_iff.1 hRd.nb).1 hne2).trans hRd.nb
          have e3 := (hk5.block _ (Array.getElem?_eq_some_iff.1 hRd.tb).1 (by omega)).trans hRd.tb
          have d77 := hk5.cell hBcne c77
          have d79 : w5.cell? ⟨w.heap.size + 1 + 1, 0, none⟩ = some (.int .i64 ((i : Int) + 1)) := by rw [Lib.cell_of_heap e3]; rfl
          have d81 : w5.cell? ⟨w.heap.size + 1 + 1, 1, none⟩ = some (.int .u16 (q : Nat)) := by rw [Lib.cell_of_heap e3]; rfl
          refine ⟨?_, Lib.frozen_of_heap e2 0, ⟨d77, d79, d81⟩, ?_, ?_, ?_⟩
          · rw [Lib.cell_of_heap e2]; rfl
          · rw [World.cell?_setCell_far _ _ _ _ (by show w.heap.size + 1 ≠ Bc; omega)]; exact d77
          · rw [World.cell?_setCell_far _ _ _ _ (by show w.heap.size + 1 ≠ w.heap.size + 1 + 1; omega)]; exact d79
          · rw [World.cell?_setCell_far _ _ _ _ (by show w.heap.size + 1 ≠ w.heap.size + 1 + 1; omega)]; exact d81⟩
        have hnext : Box (∀ w5, KeepB KB wr.drew w5 → (∃ es clock, w5.heap[KB]? = some (.map es clock) ∧ MemoOk tr k D es.toList) → FullR tr k D KB i s q (triedB tr k D i s q (t + 1)) w (w5.setCell ⟨w.heap.size + 1, 0, none⟩ (.int .i64 (mv : Nat)))) := ⟨fun w5 hk5 hm5 => by
          rw [hsucc]
          have e0 := (hk5.block _ (Array.getElem?_eq_some_iff.1 hRd.sb).1 (by omega)).trans hRd.sb
          have e1 := (hk5.block _ (Array.getElem?_eq_some_iff.1 hRd.nb).1 (by omega)).trans hRd.nb
          have e2 := (hk5.block _ (Array.getElem?_eq_some_iff.1 hRd.tb).1 (by omega)).trans hRd.tb
          have k2 := hRd.keep.trans hk5
          have hsz := k2.size
          obtain ⟨es5, cl5, hB5, hM5⟩ := hm5
          exact ⟨⟨k2.os, k2.tape, k2.output, by simpa using hsz, fun j hj hn => (heap_setCell_other w5 ⟨w.heap.size + 1, 0, none⟩ j _ (by show j ≠ w.heap.size + 1; omega)).trans (k2.block j hj hn)⟩,
            (heap_setCell_other w5 _ _ _ (by show w.heap.size ≠ w.heap.size + 1; omega)).trans e0, heap_setCell_same w5 (w.heap.size + 1) 0 _ _ _ e1, (heap_setCell_other w5 _ _ _ (by show w.heap.size + 2 ≠ w.heap.size + 1; omega)).trans e2,
            ⟨es5, cl5, (heap_setCell_other w5 _ _ _ (by show KB ≠ w.heap.size + 1; omega)).trans hB5, hM5⟩, hRd.kb⟩⟩
        have cK := Box.mk cJ
        clear hr2 hRd hW5 cJ htry hsucc hm
        go_wp2_with (fail)
        rw [show Op.load 3 (Operand.tmp 9) = ldN from rfl]
        have hop : ldN = Op.load 3 (Operand.tmp 9) := rfl
        go_region_held3 (fun w' => w'.cell? ⟨Bc, 0, none⟩ = some (.func (.func 42) #[] #[.pointer (some ⟨T, 0, none⟩), .pointer (some ⟨K, 0, none⟩), .pointer (some ⟨Nn, 0, none⟩), .pointer (some ⟨Bc, 0, none⟩), .pointer (some ⟨Sz, 0, none⟩)]) ∧ w'.cell? ⟨w.heap.size + 1 + 1, 0, none⟩ = some (.int .i64 ((i : Int) + 1)) ∧ w'.cell? ⟨w.heap.size + 1 + 1, 1, none⟩ = some (.int .u16 (q : Nat)))
          (first
            | (with_reducible exact ⟨c77, c79, c81⟩)
            | (with_reducible exact s5)
            | (with_reducible exact t5))
          (first
            | (go_at_call 42; (with_reducible refine cK.out.mono ?_); rintro e w5 ⟨rfl, hk5, hm5⟩; obtain ⟨n5, f5, s5, t5⟩ := hfacts.out w5 hk5; replace hk5 := Box.mk hk5; replace hm5 := Box.mk hm5))
        all_goals
          go_wp2
          go_roundw
          case rel => exact ⟨t + 1, by omega, by go_num, ⟨hnext.out _ hk5.out hm5.out⟩⟩
          case measure => simp [intOf]; omega
      · have ha1 : bits .and .u16 (r2 : Int) 1 = 0 := by
          have e1 := u16_and_nat r2 1 hsm (by decide)
          have e2 : r2 &&& 1 = 0 := by
            rw [Nat.and_one_is_mod, hr2]
            have : ¬ (s / 2 ^ t % 2 = 1) := by simpa [Nat.testBit_eq_decide_div_mod_eq] using htb
            omega
          rw [e2] at e1
          exact e1
        have hsucc := tried_succ tr k D i s q t
        have htry : tryB tr k D i s q t = 0 := by unfold tryB; rw [if_neg htb]
        rw [htry, Nat.max_zero] at hsucc
        rw [← hsucc] at hR
        clear hr2 htry hsucc hm
        go_wp2_with (fail)
        go_roundw
        case rel => exact ⟨t + 1, by omega, by go_num, hR⟩
        case measure => simp [intOf]; omega
    · obtain rfl : t = D.length := by omega
      have g9 : decide ((D.length : Int) < (D.length : Int)) = false := decide_eq_false (by omega)
      have g10 : decide (D.length < D.length) = false := decide_eq_false (by omega)
      obtain ⟨z, hz⟩ : ∃ z, z = triedB tr k D i s q D.length := ⟨_, rfl⟩
      rw [← hz] at hR hz2
      have c76 : wr.cell? ⟨w.heap.size + 1, 0, none⟩ = some (.int .i64 (z : Nat)) := by rw [Lib.cell_of_heap hR.out.nb]; rfl
      have f76 : wr.frozen? ⟨w.heap.size + 1, 0, none⟩ = false := Lib.frozen_of_heap hR.out.nb 0
      clear hz
      go_wp2_with (fail)
      have hm5 := hR.out.memo
      obtain ⟨es5, clock5, hB5, hM5⟩ := hm5
      have hK5 := (h.keep hR.out.keep hR.out.memo).known
      have hN6 := heap_setCell_same wr (w.heap.size + 1) 0 _ _ (.int .i64 (z : Nat)) hR.out.nb
      have hS6 := (heap_setCell_other wr ⟨w.heap.size + 1, 0, none⟩ w.heap.size (.int .i64 (z : Nat)) (by show w.heap.size ≠ w.heap.size + 1; omega)).trans hR.out.sb
      have hB6 := (heap_setCell_other wr ⟨w.heap.size + 1, 0, none⟩ KB (.int .i64 (z : Nat)) (by show KB ≠ w.heap.size + 1; omega)).trans hB5
      have hK6 : (wr.setCell ⟨w.heap.size + 1, 0, none⟩ (.int .i64 (z : Nat))).cell? ⟨K, 0, none⟩ = some (.map (some KB)) := by
        rw [World.cell?_setCell_far _ _ _ _ (by show w.heap.size + 1 ≠ K; omega)]
        exact hK5
      refine leaves_cons (f := 43) (args := #[.pointer (some ⟨w.heap.size + 1, 0, none⟩), .pointer (some ⟨K, 0, none⟩), .pointer (some ⟨w.heap.size, 0, none⟩)]) (by simp) (by simp [go_sem]) ?_
      refine (defer_any (w.heap.size + 1) K w.heap.size KB (z : Nat) (i : Int) (s : Int) (wr.setCell ⟨w.heap.size + 1, 0, none⟩ (.int .i64 (z : Nat))) es5 clock5 (by rw [Lib.cell_of_heap hN6]; rfl) hK6 (by rw [Lib.cell_of_heap hS6]; rfl) (by rw [Lib.cell_of_heap hS6]; rfl) hB6 hM5.keys).mono ?_
      rintro e u' w'' ⟨rfl, rfl, es', clock', rfl, hks, hmm⟩
      have hN7 : (setBlock (wr.setCell ⟨w.heap.size + 1, 0, none⟩ (.int .i64 (z : Nat))) KB (.map es' clock')).heap[w.heap.size + 1]? = _ := ((KeepB.set (wr.setCell ⟨w.heap.size + 1, 0, none⟩ (.int .i64 (z : Nat))) (.map es' clock')).block (w.heap.size + 1) (Array.getElem?_eq_some_iff.1 hN6).1 (by omega)).trans hN6
      refine ⟨.int .i64 (z : Nat), ?_, ?_⟩
      · have c7 : (setBlock (wr.setCell ⟨w.heap.size + 1, 0, none⟩ (.int .i64 (z : Nat))) KB (.map es' clock')).cell? ⟨w.heap.size + 1, 0, none⟩ = some (.int .i64 (z : Nat)) := by
          rw [Lib.cell_of_heap hN7]; rfl
        rw [results_one rfl]
        simp [asAddr, Result.andThen, go_sem, c7]
      · rw [hP.out]
        refine ⟨by rw [hz2], ?_, es', clock', ?_, ?_⟩
        · have k2 := hR.out.keep
          have hsz := k2.size
          have k3 : KeepB KB w (wr.setCell ⟨w.heap.size + 1, 0, none⟩ (.int .i64 (z : Nat))) := ⟨k2.os, k2.tape, k2.output, by simpa using hsz, fun j hj hn => (heap_setCell_other wr ⟨w.heap.size + 1, 0, none⟩ j _ (by show j ≠ w.heap.size + 1; omega)).trans (k2.block j hj hn)⟩
          exact k3.trans (KeepB.set _ _)
        · show ((wr.setCell ⟨w.heap.size + 1, 0, none⟩ (.int .i64 (z : Nat))).heap.setIfInBounds KB _)[KB]? = _
          rw [Array.getElem?_setIfInBounds_self_of_lt (Array.getElem?_eq_some_iff.1 hB6).1]
        · intro e he
          rcases hmm e he with ⟨h1, h2⟩ | ⟨e0, h0, h1, h2⟩
          · exact ⟨i, s, by have := htl.out; omega, h1, by rw [h2, hz2]⟩
          · obtain ⟨i', s', h3, h4, h5⟩ := hM5 e0 h0
            exact ⟨i', s', h3, by rw [← h1, h4], by rw [← h2, h5]⟩
end Go.Proofs.Ytbhfpofcebepiaa
