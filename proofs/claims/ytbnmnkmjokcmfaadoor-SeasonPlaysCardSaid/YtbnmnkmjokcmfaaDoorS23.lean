import Derived.Test.YtbnmnkmjokcmfaaDoorS22
/- The walk of SeasonPlays. -/
namespace Go.Proofs.YtbnmnkmjokcmfaaDoor
open Go.RowKit
theorem m4 {w : World} {M : Nat} {T : TypeId} {m : Nat → Int} (h : w.heap[M]? = some (.cells (Cells4i m) T (0, 0))) : w.cell? ⟨M, 0, none⟩ = some (.int .i64 (m 0)) ∧ w.cell? ⟨M, 1, none⟩ = some (.int .i64 (m 1)) ∧ w.cell? ⟨M, 2, none⟩ = some (.int .i64 (m 2)) ∧ w.cell? ⟨M, 3, none⟩ = some (.int .i64 (m 3)) :=
  ⟨(cells4i_at h 0 (by omega)).1, (cells4i_at h 1 (by omega)).1, (cells4i_at h 2 (by omega)).1, (cells4i_at h 3 (by omega)).1⟩
theorem big_iff (m l : Nat → Int) : (∀ j, j < 4 → m j + l j ≤ 1048576) ∨ ¬ (∀ j, j < 4 → m j + l j ≤ 1048576) := Classical.em _
/-- the error of the sums up to j -/
def full (m l : Nat → Int) : Nat → Int
  | 0 => 0
  | j + 1 => if 1048576 < m j + l j then 7 else full m l j
theorem full_ok {m l : Nat → Int} (h : ∀ j, j < 4 → m j + l j ≤ 1048576) : ∀ j, j ≤ 4 → full m l j = 0
  | 0, _ => rfl
  | j + 1, hj => by
    unfold full
    rw [if_neg (by have := h j (by omega); omega)]
    exact full_ok h j (by omega)
theorem full_no {m l : Nat → Int} (h : ¬ (∀ j, j < 4 → m j + l j ≤ 1048576)) : full m l 4 = 7 := by
  have key : ∀ j, full m l j = 7 ∨ (full m l j = 0 ∧ ∀ i, i < j → m i + l i ≤ 1048576) := by
    intro j
    induction j with
    | zero => exact Or.inr ⟨rfl, fun i hi => by omega⟩
    | succ j ih =>
      unfold full
      by_cases hc : 1048576 < m j + l j
      · rw [if_pos hc]; exact Or.inl rfl
      · rw [if_neg hc]
        rcases ih with e | ⟨e, g⟩
        · exact Or.inl e
        · exact Or.inr ⟨e, fun i hi => by
            by_cases h2 : i = j
            · subst h2; omega
            · exact g i (by omega)⟩
  rcases key 4 with e | ⟨_, g⟩
  · exact e
  · exact absurd g h
theorem set4 (w : World) (M : Nat) (m p : Nat → Int) (T : TypeId) (h : w.heap[M]? = some (.cells (Cells4i m) T (0, 0))) :
    ((((w.setCell ⟨M, 0, none⟩ (.int .i64 (p 0))).setCell ⟨M, 1, none⟩ (.int .i64 (p 1))).setCell ⟨M, 2, none⟩ (.int .i64 (p 2))).setCell ⟨M, 3, none⟩ (.int .i64 (p 3))).heap[M]? = some (.cells (Cells4i p) T (0, 0)) :=
  heap_setCell_same _ M 3 _ _ _ (heap_setCell_same _ M 2 _ _ _ (heap_setCell_same _ M 1 _ _ _ (heap_setCell_same _ M 0 _ _ _ h)))
set_option maxRecDepth 100000 in
set_option maxHeartbeats 32000000 in
theorem lawSeasonPlays_walk (width : Int) (v : Value) (at_ : Int) (W : World) (hw : (Lit.int .i64 width).wf = true) (hv : ∃ L, ActsArg W v L) (hat : (Lit.int .u64 at_).wf = true) (ht : EnvS W) :
    Calls Tryd.prog 6 #[.int .i64 width, v, .int .u64 at_] W fun e W' => e = .returned (.bool true) ∧ Below W.heap.size W W' := by
  have ck : Box (∀ w, Ext W w → Calls Tryd.prog 8 #[] w fun e w' => e = .returned (.bool true) ∧ Ext w w') := ⟨fun w h => known_any w (ht.ext h)⟩
  obtain ⟨L, a0, c0, rfl, hLc, hc0, hCA, hok⟩ := hv
  have hat' := wf_u64 hat
  obtain ⟨tm, rfl⟩ : ∃ t : Nat, at_ = t := ⟨at_.toNat, by omega⟩
  have htm : tm < 18446744073709551616 := by omega
  have HA := Box.mk hCA
  have HO := Box.mk hok
  have hx : Ext W W := Below.refl _ _
  clear hw hat hat' ht hCA hok
  generalize hn : L.length = nn at *
  have HN := Box.mk hn
  clear hn
  by_cases h30 : 30 < nn
  · have d1 : decide ((30 : Int) < (nn : Int)) = true := decide_eq_true (by omega)
    have d2 : decide (30 < nn) = true := decide_eq_true h30
    go_enter Tryd.func6, Tryd.ntmps6
    go_wp2_with (first | (go_at_call 8; (with_reducible refine (ck.out _ hx).mono ?_); rintro e w1 ⟨rfl, hb⟩; have hx := Ext.trans' hx hb))
    go_ret
    exact ⟨rfl, hx⟩
  have d1 : decide ((30 : Int) < (nn : Int)) = false := decide_eq_false (by omega)
  have d2 : decide (30 < nn) = false := decide_eq_false h30
  by_cases hV : width < 1 ∨ 4294967296 < width
  · have cN : Box (∀ w, _) := ⟨fun w => cnew_bad width w hV⟩
    have key : decide (width < 1) = true ∨ (decide (width < 1) = false ∧ decide (4294967296 < width) = true) := by
      simp only [decide_eq_true_eq, decide_eq_false_iff_not]; omega
    clear hV
    rcases key with e1 | ⟨e1, e2⟩
    all_goals
      go_enter Tryd.func6, Tryd.ntmps6
      go_wp2_with (first
        | (go_at_call 22; (with_reducible refine (cN.out _).mono ?_); rintro e w1 ⟨rfl, hb⟩; have hx := Ext.trans' hx hb)
        | (go_at_call 8; (with_reducible refine (ck.out _ hx).mono ?_); rintro e w1 ⟨rfl, hb⟩; have hx := Ext.trans' hx hb))
      go_ret
      exact ⟨rfl, hx⟩
  obtain ⟨D, rfl⟩ : ∃ D : Nat, width = D := ⟨width.toNat, by omega⟩
  have hD1 : 1 ≤ D := by omega
  have hD2 : D ≤ 4294967296 := by omega
  have e1 : decide ((D : Int) < 1) = false := decide_eq_false (by omega)
  have e2 : decide (4294967296 < (D : Int)) = false := decide_eq_false (by omega)
  have cN : Box (∀ w : World, Calls Tryd.prog 22 #[.int .i64 D] w fun e w' => ∃ C, e = .returned (.tuple #[.pointer (some ⟨C, 0, none⟩), .int .i64 0]) ∧ w.heap.size ≤ C ∧ Ctr w' C D z0 ∧ Ext w w') := ⟨fun w => (cnew_ok D w hD1 hD2).mono fun e w' ⟨h1, h2, h3⟩ => ⟨_, h1, Nat.le_refl _, h2, h3⟩⟩
  have cL : Box (∀ (w : World) (C : Nat) (m : Nat → Int), Ctr w C D m → Calls Tryd.prog 29 #[.pointer (some ⟨C, 0, none⟩), .agg #[.int .i64 (m 0), .int .i64 (m 1), .int .i64 (m 2), .int .i64 (m 3)], .int .i64 D, .int .u64 tm] w fun e w' => e = .returned (.bool true) ∧ Ext w w') := ⟨fun w C m h => looks_any w C D tm m h htm⟩
  clear hV
  go_enter Tryd.func6, Tryd.ntmps6
  go_wp2_with (first
    | (go_at_call 22; (with_reducible refine (cN.out _).mono ?_); rintro e w1 ⟨C, rfl, hCs, hC, hb⟩; have hC1 := Box.mk (hC.ext (Ext.alloc (Below.refl _ w1) (.cells #[.int .i64 0, .int .i64 0, .int .i64 0, .int .i64 0] 50))); have hM1 := Box.mk (newblk w1 (.cells (Cells4i z0) 50)); have hE1 := Box.mk (Ext.alloc (Ext.trans' hx hb) (.cells #[.int .i64 0, .int .i64 0, .int .i64 0, .int .i64 0] 50)); have hCM := blk_lt hC.hd; have hMs := hb.size; have hMs9 : W.heap.size ≤ w1.heap.size := (Ext.trans' hx hb).size; clear hb hC))
  have hwk : Box ((w1.alloc (.cells #[.int .i64 0, .int .i64 0, .int .i64 0, .int .i64 0] 50)).heap[w1.heap.size]? = some (.cells (Cells4i z0) 50 (0, 0))) := hM1
  have hCM' : C ≠ w1.heap.size := by omega
  clear hx hM1 hCM
  generalize w1.heap.size = M at *
  generalize w1.alloc (.cells #[.int .i64 0, .int .i64 0, .int .i64 0, .int .i64 0] 50) = wk at *
  go_loopw [7, 10] (fun cv i wr => ∃ (k C : Nat) (m : Nat → Int), k ≤ nn ∧ i = .int .i64 k ∧ cv = .pointer (some ⟨C, 0, none⟩) ∧ Box (Ctr wr C D m) ∧ Box (wr.heap[M]? = some (.cells (Cells4i m) 50 (0, 0))) ∧ Box (Ext W wr) ∧ W.heap.size ≤ C ∧ C ≠ M) (fun _ i _ => nn - (intOf i).toNat)
  case atStart => exact ⟨0, C, z0, by omega, rfl, rfl, hC1, hwk, hE1, hCs, hCM'⟩
  case round =>
    clear hC1 hwk hE1 hCs hCM'
    obtain ⟨k, C, m, hk, rfl, rfl, hC, hM, hE, hCs, hCM⟩ := hrel
    by_cases hkn : k < nn
    · have hkL : k < L.length := by rw [HN.out]; exact hkn
      obtain ⟨b, o, rfl, hrow⟩ := rows_row aC 8 aC_len (by decide) (CellsAt.ext hE.out HA.out) k hkL
      have hnow := HO.out L[k] (List.getElem_mem hkL)
      have r0 := hrow 0 _ rfl
      have r1 := hrow 1 _ rfl
      have r2 := hrow 2 _ rfl
      have r3 := hrow 3 _ rfl
      have r4 := hrow 4 _ rfl
      have r5 := hrow 5 _ rfl
      have r6 := hrow 6 _ rfl
      have r7 := hrow 7 _ rfl
      clear hrow
      unfold ActOk at hnow
      generalize L[k].what = wt at *
      generalize L[k].n = n at *
      generalize L[k].width = V at *
      generalize L[k].now = now at *
      generalize L[k].c = l at *
      have n1 : (0 : Int) ≤ (k : Int) := by omega
      have n2 : (k : Int) < (nn : Int) := by omega
      have n2' : decide ((k : Int) < (nn : Int)) = true := decide_eq_true n2
      have n2'' : decide (k < nn) = true := decide_eq_true hkn
      rw [Nat.add_zero] at r0
      have xA := Ext.alloc (Below.refl wr.heap.size wr) (.cells #[.int .i64 wt, .int .i64 n, .int .i64 V, .int .u64 now, .int .i64 (l 0), .int .i64 (l 1), .int .i64 (l 2), .int .i64 (l 3)] 52)
      have hAA := Box.mk (newblk wr (.cells #[.int .i64 wt, .int .i64 n, .int .i64 V, .int .u64 now, .int .i64 (l 0), .int .i64 (l 1), .int .i64 (l 2), .int .i64 (l 3)] 52))
      have hC1 := Box.mk (hC.out.ext xA)
      have hM1 := Box.mk (Ext.blk xA hM.out)
      have hE1 := Box.mk (Ext.trans' hE.out xA)
      have hCA : C ≠ wr.heap.size := by have := blk_lt hC.out.hd; omega
      have hMA : M ≠ wr.heap.size := by have := blk_lt hM.out; omega
      clear xA
      (try clear i0 i1 i2 i3 s0 s1 s2 s3 s4 s5 s6 s7); obtain ⟨i0, i1, i2, i3⟩ := m4 hM1.out; obtain ⟨⟨s0, s1, s2, s3, s4, s5, s6, s7⟩, -⟩ := cx8 hAA.out
      by_cases ew0 : wt = 0
      · subst ew0
        have cU1 : Box (∀ w, _) := ⟨fun w => luse_any w m D now n hD1 hD2 hC.out.lim hnow⟩
        by_cases hz : useNo m D now n = 0
        · rw [hz] at cU1
          have hz := Box.mk hz
          have hq4 : now / D % 4 < 4 := Nat.mod_lt _ (by decide)
          have q0 : IntKind.u64.wrap (D : Int) = D := by rw [IntKind.wrap_u64]; omega
          have f0 : ¬ D = 0 := by omega
          have f1 : ((D : Int) == 0) = false := by rw [beq_eq_false_iff_ne]; omega
          have nq1 : (0 : Int) ≤ ((now / D % 4 : Nat) : Int) := Int.natCast_nonneg _
          have nq2 : ((now / D % 4 : Nat) : Int) < 4 := Int.ofNat_lt.2 hq4
          have hb : now / D ≤ now := Nat.div_le_self _ _
          have t0 : (now : Int).tdiv (D : Int) = ((now / D : Nat) : Int) := rfl
          have t9 : (now : Int) / (D : Int) = ((now / D : Nat) : Int) := (Int.natCast_ediv _ _).symm
          have cU2 : Box (∀ w, Ctr w C D m → Calls Tryd.prog 24 #[.pointer (some ⟨C, 0, none⟩), .int .u64 now, .int .i64 n] w fun e w' => e = .returned (.int .i64 0) ∧ Ctr w' C D (upd m (now / D % 4) (m (now / D % 4) + n)) ∧ Tch C w w') := ⟨fun w h => use_ok w C D now n m h hnow hz.out⟩
          have hlq := hC.out.lim _ hq4
          have hnn : -1 < n ∧ n ≤ 1048576 := by
            have h := hz.out
            unfold useNo at h
            by_cases g1 : n < 0
            · rw [if_pos g1] at h; cases h
            rw [if_neg g1] at h
            by_cases g2 : now = neverT
            · rw [if_pos g2] at h; cases h
            rw [if_neg g2] at h
            by_cases g3 : 1048576 - m (now / D % 4) < n
            · rw [if_pos g3] at h; cases h
            omega
          have q1 : IntKind.i64.wrap (m (now / D % 4) + n) = m (now / D % 4) + n := by rw [IntKind.wrap_i64]; omega
          have q6 : wrap64 (m (now / D % 4) + n) = m (now / D % 4) + n := by unfold wrap64; omega
          have hset := Box.mk (cells4i_set m (now / D % 4) (m (now / D % 4) + n) hq4)
          clear hlq hnn hz
          generalize now / D = gg at *
          have t1 : (gg : Int).tmod 4 = ((gg % 4 : Nat) : Int) := rfl
          have t8 : (gg : Int) % 4 = ((gg % 4 : Nat) : Int) := rfl
          have t2 : IntKind.u64.wrap (gg : Int) = (gg : Int) := by rw [IntKind.wrap_u64]; omega
          generalize gg % 4 = q at *
          have t3 : IntKind.u64.wrap (q : Int) = (q : Int) := by rw [IntKind.wrap_u64]; omega
          have t4 : IntKind.i64.wrap (q : Int) = (q : Int) := by rw [IntKind.wrap_i64]; omega
          have t5 : wrap64 (q : Int) = (q : Int) := by unfold wrap64; omega
          generalize hmm : upd m q (m q + n) = mm at *
          clear hmm
          go_wp2_with (first
            | (go_at_call 23; (with_reducible refine (cU1.out _).mono ?_); rintro e w2 ⟨rfl, hb⟩; have hC1 := Box.mk (hC1.out.ext hb); have hM1 := Box.mk (Ext.blk hb hM1.out); have hE1 := Box.mk (Ext.trans' hE1.out hb); have hAA := Box.mk (Ext.blk hb hAA.out); (try clear i0 i1 i2 i3 s0 s1 s2 s3 s4 s5 s6 s7); obtain ⟨i0, i1, i2, i3⟩ := m4 hM1.out; obtain ⟨⟨s0, s1, s2, s3, s4, s5, s6, s7⟩, -⟩ := cx8 hAA.out; clear hb)
            | (go_at_call 24; (with_reducible refine (cU2.out _ hC1.out).mono ?_); rintro e w3 ⟨rfl, hCx, hTx⟩; have hC1 := Box.mk hCx; have hM1 := Box.mk (hTx.blk hM1.out (by omega)); have hAA := Box.mk (hTx.blk hAA.out (by omega)); have hE1 := Box.mk (hTx.ext _ hE1.out hCs); clear hCx hTx; (try clear i0 i1 i2 i3 s0 s1 s2 s3 s4 s5 s6 s7); obtain ⟨i0, i1, i2, i3⟩ := m4 hM1.out; obtain ⟨⟨s0, s1, s2, s3, s4, s5, s6, s7⟩, -⟩ := cx8 hAA.out))
          have cq := cells4i_at hM1.out q hq4
          obtain ⟨cq, fq⟩ := cq
          have hMn : Box (((w3.setCell ⟨M, q, none⟩ (.int .i64 (m q + n))).drew).heap[M]? = some (.cells (Cells4i mm) 50 (0, 0))) := ⟨by
            rw [← hset.out]
            exact Ext.blk (Ext.drew1 (Below.refl _ _)) (heap_setCell_same _ M q _ _ _ hM1.out)⟩
          have hCn : Box (Ctr (w3.setCell ⟨M, q, none⟩ (.int .i64 (m q + n))).drew C D mm) := ⟨Ctr.ext ⟨(heap_setCell_other _ _ _ _ (by show C ≠ M; omega)).trans hC1.out.hd, hC1.out.w1, hC1.out.w2, hC1.out.lim⟩ (Ext.drew1 (Below.refl _ _))⟩
          have hEn : Box (Ext W (w3.setCell ⟨M, q, none⟩ (.int .i64 (m q + n))).drew) := ⟨Ext.drew1 (Ext.set hE1.out hMs9 _ _)⟩
          go_region
          all_goals
            obtain ⟨j0, j1, j2, j3⟩ := m4 hMn.out
            generalize (w3.setCell ⟨M, q, none⟩ (.int .i64 (m q + n))).drew = w4 at *
            go_wp2_with (first | (go_at_call 29; (with_reducible refine (cL.out _ _ _ hCn.out).mono ?_); rintro e w9 ⟨rfl, hb9⟩; have hE9 := Box.mk (Ext.trans' hEn.out hb9); have hC9 := Box.mk (hCn.out.ext hb9); have hM9 := Box.mk (Ext.blk hb9 hMn.out); clear hb9))
            go_roundw
            case rel => exact ⟨k + 1, C, mm, by omega, by go_num, rfl, hC9, hM9, hE9, hCs, hCM⟩
            case measure => simp [intOf]; omega
        · have cU2 : Box (∀ w, Ctr w C D m → Calls Tryd.prog 24 #[.pointer (some ⟨C, 0, none⟩), .int .u64 now, .int .i64 n] w fun e w' => e = .returned (.int .i64 (useNo m D now n)) ∧ Ext w w') := ⟨fun w h => use_no w C D now n m h hnow hz⟩
          have f1 : (useNo m D now n == 0) = false := by rw [beq_eq_false_iff_ne]; exact hz
          clear hz
          generalize useNo m D now n = z at *
          go_wp2_with (first
            | (go_at_call 23; (with_reducible refine (cU1.out _).mono ?_); rintro e w2 ⟨rfl, hb⟩; have hC1 := Box.mk (hC1.out.ext hb); have hM1 := Box.mk (Ext.blk hb hM1.out); have hE1 := Box.mk (Ext.trans' hE1.out hb); have hAA := Box.mk (Ext.blk hb hAA.out); (try clear i0 i1 i2 i3 s0 s1 s2 s3 s4 s5 s6 s7); obtain ⟨i0, i1, i2, i3⟩ := m4 hM1.out; obtain ⟨⟨s0, s1, s2, s3, s4, s5, s6, s7⟩, -⟩ := cx8 hAA.out; clear hb)
            | (go_at_call 24; (with_reducible refine (cU2.out _ hC1.out).mono ?_); rintro e w3 ⟨rfl, hb⟩; have hC1 := Box.mk (hC1.out.ext hb); have hM1 := Box.mk (Ext.blk hb hM1.out); have hE1 := Box.mk (Ext.trans' hE1.out hb); have hAA := Box.mk (Ext.blk hb hAA.out); (try clear i0 i1 i2 i3 s0 s1 s2 s3 s4 s5 s6 s7); obtain ⟨i0, i1, i2, i3⟩ := m4 hM1.out; obtain ⟨⟨s0, s1, s2, s3, s4, s5, s6, s7⟩, -⟩ := cx8 hAA.out; clear hb; have hCn := hC1; have hEn := hE1; have hMn := hM1)
            | (go_at_call 29; (with_reducible refine (cL.out _ _ _ hCn.out).mono ?_); rintro e w9 ⟨rfl, hb9⟩; have hE9 := Box.mk (Ext.trans' hEn.out hb9); have hC9 := Box.mk (hCn.out.ext hb9); have hM9 := Box.mk (Ext.blk hb9 hMn.out); clear hb9))
          go_roundw
          case rel => exact ⟨k + 1, C, m, by omega, by go_num, rfl, hC9, hM9, hE9, hCs, hCM⟩
          case measure => simp [intOf]; omega
      by_cases ew1 : wt = 1
      · subst ew1
        clear hLc
        by_cases hmd : ¬ mdP V l
        · have cM : Box (∀ w, Calls Tryd.prog 25 #[.int .i64 V, .agg #[.int .i64 (l 0), .int .i64 (l 1), .int .i64 (l 2), .int .i64 (l 3)]] w fun e w' => e = .returned (.pointer none) ∧ Ext w w') := ⟨fun w => (made_any w V l).mono fun e w' h => ⟨h.2.1 hmd, h.1⟩⟩
          clear hmd
          go_wp2_with (first
            | (go_at_call 25; (with_reducible refine (cM.out _).mono ?_); rintro e w2 ⟨rfl, hb⟩; have hC1 := Box.mk (hC1.out.ext hb); have hM1 := Box.mk (Ext.blk hb hM1.out); have hE1 := Box.mk (Ext.trans' hE1.out hb); have hAA := Box.mk (Ext.blk hb hAA.out); clear hb))
          go_roundw
          case rel => exact ⟨k + 1, C, m, by omega, by go_num, rfl, hC1, hM1, hE1, hCs, hCM⟩
          case measure => simp [intOf]; omega
        · have cM : Box (∀ w, Calls Tryd.prog 25 #[.int .i64 V, .agg #[.int .i64 (l 0), .int .i64 (l 1), .int .i64 (l 2), .int .i64 (l 3)]] w fun e w' => ∃ E D2 : Nat, V = (D2 : Int) ∧ e = .returned (.pointer (some ⟨E, 0, none⟩)) ∧ w.heap.size ≤ E ∧ Ctr w' E D2 l ∧ Ext w w') := ⟨fun w => (made_any w V l).mono fun e w' h => by
            obtain ⟨E, D2, h1, h2, h3, h4⟩ := h.2.2 (Classical.not_not.1 hmd)
            exact ⟨E, D2, h1, h2, h3, h4, h.1⟩⟩
          clear hmd
          have hM2 := blk_lt hM1.out; have hC2 := blk_lt hC1.out.hd; have hA2 := blk_lt hAA.out
          go_wp2_with (first
            | (go_at_call 25; (with_reducible refine (cM.out _).mono ?_); rintro e w2 ⟨E, D2, hV2, rfl, hEs, hCE, hb⟩; have hCE := Box.mk hCE; have hbs := hb.size; have hC1 := Box.mk (hC1.out.ext hb); have hM1 := Box.mk (Ext.blk hb hM1.out); have hE1 := Box.mk (Ext.trans' hE1.out hb); have hAA := Box.mk (Ext.blk hb hAA.out); (try clear i0 i1 i2 i3 s0 s1 s2 s3 s4 s5 s6 s7); obtain ⟨i0, i1, i2, i3⟩ := m4 hM1.out; obtain ⟨⟨s0, s1, s2, s3, s4, s5, s6, s7⟩, -⟩ := cx8 hAA.out; clear hb))
          have hES := blk_lt hCE.out.hd
          have hll := hCE.out.lim
          have xS := Ext.alloc (Below.refl w2.heap.size w2) (.cells #[.int .i64 (m 0), .int .i64 (m 1), .int .i64 (m 2), .int .i64 (m 3)] 50)
          have hS0 : Box ((w2.alloc (.cells #[.int .i64 (m 0), .int .i64 (m 1), .int .i64 (m 2), .int .i64 (m 3)] 50)).heap[w2.heap.size]? = some (.cells (Cells4i (mg m l 0)) 50 (0, 0))) := ⟨newblk w2 _⟩
          have hC2' := Box.mk (hC1.out.ext xS)
          have hM2' := Box.mk (Ext.blk xS hM1.out)
          have hAA2 := Box.mk (Ext.blk xS hAA.out)
          have hE2' := Box.mk (Ext.trans' hE1.out xS)
          have hCE2 := Box.mk (hCE.out.ext xS)
          have hWS : W.heap.size ≤ w2.heap.size := hE1.out.size
          clear xS
          have hMS : M < w2.heap.size := by omega
          have hCS : C < w2.heap.size := by omega
          have hAS : wr.heap.size < w2.heap.size := by omega
          have hEC : E ≠ C := by omega
          have hEA : E ≠ wr.heap.size := by omega
          have hEM : E ≠ M := by omega
          clear hM2 hC2 hA2 hbs hEs i0 i1 i2 i3 s0 s1 s2 s3 s4 s5 s6 s7 hC1 hM1 hAA hE1 hCE
          subst hV2
          generalize wr.heap.size = A at *
          generalize w2.heap.size = S at *
          generalize w2.alloc (.cells #[.int .i64 (m 0), .int .i64 (m 1), .int .i64 (m 2), .int .i64 (m 3)] 50) = w3 at *
          have hx3 : Box (Ext w3 w3) := ⟨Below.refl _ _⟩
          go_loopw [16, 17] (fun nv jv wr => ∃ j : Nat, j ≤ 4 ∧ jv = .int .i64 j ∧ nv = .int .i64 (full m l j) ∧ Box (wr.heap[S]? = some (.cells (Cells4i (mg m l j)) 50 (0, 0))) ∧ Box (∀ B o, B < S → w3.heap[B]? = some o → wr.heap[B]? = some o) ∧ Box (Ext W wr)) (fun _ jv _ => 4 - (intOf jv).toNat)
          case atStart => exact ⟨0, by omega, rfl, rfl, hS0, ⟨fun B o _ h => h⟩, hE2'⟩
          case round =>
            obtain ⟨j, hj, rfl, rfl, hS, hKp, hEj⟩ := hrel
            by_cases hj4 : j < 4
            · have p1 : (0 : Int) ≤ (j : Int) := by omega
              have p2 : (j : Int) < 4 := by omega
              have p2' : decide ((j : Int) < 4) = true := decide_eq_true p2
              obtain ⟨c0', fz⟩ := cells4i_at hS.out j hj4
              have hmj : mg m l j j = m j := by unfold mg; rw [if_neg (by omega)]
              rw [hmj] at c0'
              have hAj := hKp.out _ _ hAS hAA2.out
              have s4 : wr.cell? ⟨A, 4 + j, none⟩ = some (.int .i64 (l j)) := by
                rw [Lib.cell_of_heap hAj]
                obtain rfl | rfl | rfl | rfl : j = 0 ∨ j = 1 ∨ j = 2 ∨ j = 3 := by omega
                all_goals rfl
              have hl1 := hC.out.lim j hj4
              have hl2 := hll j hj4
              have q1 : IntKind.i64.wrap (m j + l j) = m j + l j := by rw [IntKind.wrap_i64]; omega
              have q6 : wrap64 (m j + l j) = m j + l j := by unfold wrap64; omega
              have hst := Box.mk (mg_step m l j hj4)
              have hSn : Box (((wr.setCell ⟨S, j, none⟩ (.int .i64 (m j + l j))).drew).heap[S]? = some (.cells (Cells4i (mg m l (j + 1))) 50 (0, 0))) := ⟨by
                rw [hst.out]
                exact Ext.blk (Ext.drew1 (Below.refl _ _)) (heap_setCell_same _ S j _ _ _ hS.out)⟩
              have hKn : Box (∀ B o, B < S → w3.heap[B]? = some o → ((wr.setCell ⟨S, j, none⟩ (.int .i64 (m j + l j))).drew).heap[B]? = some o) := ⟨fun B o hB h => Ext.blk (Ext.drew1 (Below.refl _ _)) ((heap_setCell_other _ _ _ _ (by show B ≠ S; omega)).trans (hKp.out B o hB h))⟩
              have hEn : Box (Ext W (wr.setCell ⟨S, j, none⟩ (.int .i64 (m j + l j))).drew) := ⟨Ext.drew1 (Ext.set hEj.out hWS _ _)⟩
              have hcn : (wr.setCell ⟨S, j, none⟩ (.int .i64 (m j + l j))).drew.cell? ⟨S, j, none⟩ = some (.int .i64 (m j + l j)) := by
                have h := (cells4i_at hSn.out j hj4).1
                rw [show mg m l (j + 1) j = m j + l j by unfold mg; rw [if_pos (by omega)]] at h
                exact h
              have key : (decide (1048576 < m j + l j) = true ∧ Box (full m l (j + 1) = 7)) ∨ (decide (1048576 < m j + l j) = false ∧ Box (full m l (j + 1) = full m l j)) := by
                have hfe : full m l (j + 1) = if 1048576 < m j + l j then 7 else full m l j := rfl
                rw [hfe]
                by_cases h : 1048576 < m j + l j
                · exact Or.inl ⟨decide_eq_true h, ⟨by rw [if_pos h]⟩⟩
                · exact Or.inr ⟨decide_eq_false h, ⟨by rw [if_neg h]⟩⟩
              clear hl1 hl2 hmj hAj
              rcases key with ⟨e1', e2'⟩ | ⟨e1', e2'⟩
              all_goals
                go_wp2
                go_region
                all_goals
                  generalize (wr.setCell ⟨S, j, none⟩ (.int .i64 (m j + l j))).drew = w4 at *
                  go_wp2
                  go_roundw
                  case rel => exact ⟨j + 1, by omega, by go_num, by rw [e2'.out], hSn, hKn, hEn⟩
                  case measure => simp [intOf]; omega
            · obtain rfl : j = 4 := by omega
              have hxw : Ext wr wr := Below.refl _ _
              have hAw := Box.mk (hKp.out _ _ hAS hAA2.out)
              have hCw : Box (Ctr wr C D m) := ⟨⟨hKp.out _ _ hCS hC2'.out.hd, hC2'.out.w1, hC2'.out.w2, hC2'.out.lim⟩⟩
              have hMw := Box.mk (hKp.out _ _ hMS hM2'.out)
              have hEw : Box (Ctr wr E D2 l) := ⟨⟨hKp.out _ _ hES hCE2.out.hd, hCE2.out.w1, hCE2.out.w2, hCE2.out.lim⟩⟩
              have hSw : Box (wr.heap[S]? = some (.cells (Cells4i (plus4 m l)) 50 (0, 0))) := ⟨by rw [hS.out, cells4i_eq fun j hj => show mg m l 4 j = plus4 m l j by unfold mg plus4; rw [if_pos hj]]⟩
              have cCt : Box (∀ w, Ctr w E D2 l → Calls Tryd.prog 27 #[.pointer (some ⟨E, 0, none⟩)] w fun e w' => e = .returned (.agg #[.int .i64 (l 0), .int .i64 (l 1), .int .i64 (l 2), .int .i64 (l 3)]) ∧ Ext w w') := ⟨fun w h => counts_any w E D2 l h⟩
              have qi : ∀ w : World, (Op.equalIn 10000 50 (.agg #[.int .i64 (l 0), .int .i64 (l 1), .int .i64 (l 2), .int .i64 (l 3)]) (.agg #[.int .i64 (l 0), .int .i64 (l 1), .int .i64 (l 2), .int .i64 (l 3)])).run Tryd.prog w = .ok true w := fun w => eqI (l 0) (l 1) (l 2) (l 3) w
              have ge3 := i4_type.2
              obtain ⟨⟨s0, s1, s2, s3, t0, t1, t2, t3⟩, -⟩ := cx8 hAw.out
              have hR := Ext.drew1 hxw
              have key : (∃ z : Int, ((D2 : Int) != (D : Int)) = true ∧ z = 2 ∧ Box (∀ w, Ext wr w → Calls Tryd.prog 26 #[.pointer (some ⟨C, 0, none⟩), .pointer (some ⟨E, 0, none⟩)] w fun e w' => e = .returned (.int .i64 2) ∧ Ext w w')) ∨
                  (((D2 : Int) != (D : Int)) = false ∧ full m l 4 = 7 ∧ Box (∀ w, Ext wr w → Calls Tryd.prog 26 #[.pointer (some ⟨C, 0, none⟩), .pointer (some ⟨E, 0, none⟩)] w fun e w' => e = .returned (.int .i64 7) ∧ Ext w w')) ∨
                  (((D2 : Int) != (D : Int)) = false ∧ full m l 4 = 0 ∧ Box (∀ w, Ext wr w → Calls Tryd.prog 26 #[.pointer (some ⟨C, 0, none⟩), .pointer (some ⟨E, 0, none⟩)] w fun e w' => e = .returned (.int .i64 0) ∧ Ctr w' C D (plus4 m l) ∧ Tch C w w')) := by
                by_cases hDD : D2 = D
                · subst hDD
                  have hne : ((D2 : Int) != (D2 : Int)) = false := by simp
                  rcases big_iff m l with hbg | hbg
                  · exact Or.inr (Or.inr ⟨hne, full_ok hbg 4 (by omega), ⟨fun w h => (merge_any w C E D2 m l (hCw.out.ext h) (hEw.out.ext h)).mono fun e w' hp => hp.1 hbg⟩⟩)
                  · exact Or.inr (Or.inl ⟨hne, full_no hbg, ⟨fun w h => (merge_any w C E D2 m l (hCw.out.ext h) (hEw.out.ext h)).mono fun e w' hp => hp.2 hbg⟩⟩)
                · exact Or.inl ⟨2, by rw [bne_iff_ne]; omega, rfl, ⟨fun w h => merge_width w C E D D2 m l (hCw.out.ext h) (hEw.out.ext h) (fun e => hDD e.symm)⟩⟩
              clear hS hAA2 hC2' hM2' hCE2 hS0 hKp hxw
              rcases key with ⟨z, b1, rfl, cG⟩ | ⟨b1, b2, cG⟩ | ⟨b1, b2, cG⟩
              · generalize full m l 4 = z at *
                go_wp2
                go_region_held3 (fun w' => w'.cell? ⟨A, 4, none⟩ = some (.int .i64 (l 0)) ∧ w'.cell? ⟨A, 5, none⟩ = some (.int .i64 (l 1)) ∧ w'.cell? ⟨A, 6, none⟩ = some (.int .i64 (l 2)) ∧ w'.cell? ⟨A, 7, none⟩ = some (.int .i64 (l 3)))
                  (exact ⟨t0, t1, t2, t3⟩)
                  (first
                    | (go_at_call 26; (with_reducible refine (cG.out _ hR).mono ?_); rintro e w5 ⟨rfl, hb⟩; have hR := Ext.trans' hR hb; have t0 := Ext.cell hb t0; have t1 := Ext.cell hb t1; have t2 := Ext.cell hb t2; have t3 := Ext.cell hb t3)
                    | (go_at_call 27; (with_reducible refine (cCt.out _ (hEw.out.ext hR)).mono ?_); rintro e w6 ⟨rfl, hb⟩; have hR := Ext.trans' hR hb; have t0 := Ext.cell hb t0; have t1 := Ext.cell hb t1; have t2 := Ext.cell hb t2; have t3 := Ext.cell hb t3))
                have hCn := Box.mk (hCw.out.ext hR)
                have hMn := Box.mk (Ext.blk hR hMw.out)
                have hEn := Box.mk (Ext.trans' hEj.out hR)
                obtain ⟨i0, i1, i2, i3⟩ := m4 hMn.out
                go_wp2_with (first | (go_at_call 29; (with_reducible refine (cL.out _ _ _ hCn.out).mono ?_); rintro e w9 ⟨rfl, hb9⟩; have hE9 := Box.mk (Ext.trans' hEn.out hb9); have hC9 := Box.mk (hCn.out.ext hb9); have hM9 := Box.mk (Ext.blk hb9 hMn.out); clear hb9))
                go_roundw
                case rel => exact ⟨k + 1, C, m, by omega, by go_num, rfl, hC9, hM9, hE9, hCs, hCM⟩
                case measure => simp [intOf]; omega
              · rw [b2]
                clear b2
                go_wp2
                go_region_held3 (fun w' => w'.cell? ⟨A, 4, none⟩ = some (.int .i64 (l 0)) ∧ w'.cell? ⟨A, 5, none⟩ = some (.int .i64 (l 1)) ∧ w'.cell? ⟨A, 6, none⟩ = some (.int .i64 (l 2)) ∧ w'.cell? ⟨A, 7, none⟩ = some (.int .i64 (l 3)))
                  (exact ⟨t0, t1, t2, t3⟩)
                  (first
                    | (go_at_call 26; (with_reducible refine (cG.out _ hR).mono ?_); rintro e w5 ⟨rfl, hb⟩; have hR := Ext.trans' hR hb; have t0 := Ext.cell hb t0; have t1 := Ext.cell hb t1; have t2 := Ext.cell hb t2; have t3 := Ext.cell hb t3)
                    | (go_at_call 27; (with_reducible refine (cCt.out _ (hEw.out.ext hR)).mono ?_); rintro e w6 ⟨rfl, hb⟩; have hR := Ext.trans' hR hb; have t0 := Ext.cell hb t0; have t1 := Ext.cell hb t1; have t2 := Ext.cell hb t2; have t3 := Ext.cell hb t3))
                have hCn := Box.mk (hCw.out.ext hR)
                have hMn := Box.mk (Ext.blk hR hMw.out)
                have hEn := Box.mk (Ext.trans' hEj.out hR)
                obtain ⟨i0, i1, i2, i3⟩ := m4 hMn.out
                go_wp2_with (first | (go_at_call 29; (with_reducible refine (cL.out _ _ _ hCn.out).mono ?_); rintro e w9 ⟨rfl, hb9⟩; have hE9 := Box.mk (Ext.trans' hEn.out hb9); have hC9 := Box.mk (hCn.out.ext hb9); have hM9 := Box.mk (Ext.blk hb9 hMn.out); clear hb9))
                go_roundw
                case rel => exact ⟨k + 1, C, m, by omega, by go_num, rfl, hC9, hM9, hE9, hCs, hCM⟩
                case measure => simp [intOf]; omega
              · rw [b2]
                clear b2
                generalize plus4 m l = p at *
                go_wp2
                go_region_held3 (fun w' => w'.cell? ⟨A, 4, none⟩ = some (.int .i64 (l 0)) ∧ w'.cell? ⟨A, 5, none⟩ = some (.int .i64 (l 1)) ∧ w'.cell? ⟨A, 6, none⟩ = some (.int .i64 (l 2)) ∧ w'.cell? ⟨A, 7, none⟩ = some (.int .i64 (l 3)))
                  (exact ⟨t0, t1, t2, t3⟩)
                  (first
                    | (go_at_call 26; (with_reducible refine (cG.out _ hR).mono ?_); rintro e w5 ⟨rfl, hCx, hTx⟩; have hCn := Box.mk hCx; have hMn := Box.mk (hTx.blk (Ext.blk hR hMw.out) (by omega)); have hSn := Box.mk (hTx.blk (Ext.blk hR hSw.out) (by omega)); have hEn := Box.mk (hTx.ext _ (Ext.trans' hEj.out hR) hCs); have hEw2 := Box.mk ((hEw.out.ext hR).tch hTx hEC); have hAx := hTx.blk (Ext.blk hR hAw.out) (by omega); clear t0 t1 t2 t3 s0 s1 s2 s3; obtain ⟨⟨s0, s1, s2, s3, t0, t1, t2, t3⟩, -⟩ := cx8 hAx; clear hAx hTx hCx)
                    | (go_at_call 27; (with_reducible refine (cCt.out _ hEw2.out).mono ?_); rintro e w6 ⟨rfl, hb⟩; have hCn := Box.mk (hCn.out.ext hb); have hMn := Box.mk (Ext.blk hb hMn.out); have hSn := Box.mk (Ext.blk hb hSn.out); have hEn := Box.mk (Ext.trans' hEn.out hb); have t0 := Ext.cell hb t0; have t1 := Ext.cell hb t1; have t2 := Ext.cell hb t2; have t3 := Ext.cell hb t3))
                obtain ⟨k0, k1, k2, k3⟩ := m4 hSn.out
                obtain ⟨i0, i1, i2, i3⟩ := m4 hMn.out
                have z0' := Lib.frozen_of_heap hMn.out 0
                have z1' := Lib.frozen_of_heap hMn.out 1
                have z2' := Lib.frozen_of_heap hMn.out 2
                have z3' := Lib.frozen_of_heap hMn.out 3
                have hM2n := Box.mk (set4 w6 M m p _ hMn.out)
                have hC2n : Box (Ctr ((((w6.setCell ⟨M, 0, none⟩ (.int .i64 (p 0))).setCell ⟨M, 1, none⟩ (.int .i64 (p 1))).setCell ⟨M, 2, none⟩ (.int .i64 (p 2))).setCell ⟨M, 3, none⟩ (.int .i64 (p 3))) C D p) := ⟨⟨(heap_setCell_other _ _ _ _ (by show C ≠ M; omega)).trans ((heap_setCell_other _ _ _ _ (by show C ≠ M; omega)).trans ((heap_setCell_other _ _ _ _ (by show C ≠ M; omega)).trans ((heap_setCell_other _ _ _ _ (by show C ≠ M; omega)).trans hCn.out.hd))), hCn.out.w1, hCn.out.w2, hCn.out.lim⟩⟩
                have hE2n : Box (Ext W ((((w6.setCell ⟨M, 0, none⟩ (.int .i64 (p 0))).setCell ⟨M, 1, none⟩ (.int .i64 (p 1))).setCell ⟨M, 2, none⟩ (.int .i64 (p 2))).setCell ⟨M, 3, none⟩ (.int .i64 (p 3)))) := ⟨Ext.set (Ext.set (Ext.set (Ext.set hEn.out hMs9 _ _) hMs9 _ _) hMs9 _ _) hMs9 _ _⟩
                clear hCn hMn hEn
                have hCn := hC2n; have hMn := hM2n; have hEn := hE2n
                go_wp2_with (first | (go_at_call 29; (with_reducible refine (cL.out _ _ _ hCn.out).mono ?_); rintro e w9 ⟨rfl, hb9⟩; have hE9 := Box.mk (Ext.trans' hEn.out hb9); have hC9 := Box.mk (hCn.out.ext hb9); have hM9 := Box.mk (Ext.blk hb9 hMn.out); clear hb9))
                go_roundw
                case rel => exact ⟨k + 1, C, p, by omega, by go_num, rfl, hC9, hM9, hE9, hCs, hCM⟩
                case measure => simp [intOf]; omega
      · have b0 : (wt == 0) = false := by rw [beq_eq_false_iff_ne]; exact ew0
        have b1 : (wt == 1) = false := by rw [beq_eq_false_iff_ne]; exact ew1
        clear ew0 ew1
        have cY : Box (∀ w, Ctr w C D m → Calls Tryd.prog 28 #[.pointer (some ⟨C, 0, none⟩)] w fun e w' => ∃ E, e = .returned (.pointer (some ⟨E, 0, none⟩)) ∧ w.heap.size ≤ E ∧ Ctr w' E D m ∧ Ext w w') := ⟨fun w h => (ccopy_any w C D m h).mono fun e w' ⟨h1, h2, h3⟩ => ⟨_, h1, Nat.le_refl _, h2, h3⟩⟩
        have cU3 : Box (∀ w, Ctr w C D m → Calls Tryd.prog 24 #[.pointer (some ⟨C, 0, none⟩), .int .u64 0, .int .i64 1] w fun e w' => (∃ z, e = .returned (.int .i64 z)) ∧ Tch C w w') := ⟨fun w h => by
          by_cases hz : useNo m D 0 1 = 0
          · exact (use_ok w C D 0 1 m h (by decide) hz).mono fun e w' ⟨h1, _, h3⟩ => ⟨⟨_, h1⟩, h3⟩
          · exact (use_no w C D 0 1 m h (by decide) hz).mono fun e w' ⟨h1, h3⟩ => ⟨⟨_, h1⟩, Tch.of_ext h3⟩⟩
        go_wp2_with (first
          | (go_at_call 28; (with_reducible refine (cY.out _ hC1.out).mono ?_); rintro e w2 ⟨E, rfl, hEs, hCE, hb⟩; have hM2 := blk_lt hM1.out; have hC2 := blk_lt hC1.out.hd; have hsz := hE1.out.size; have hC1 := Box.mk (hC1.out.ext hb); have hM1 := Box.mk (Ext.blk hb hM1.out); have hE1 := Box.mk (Ext.trans' hE1.out hb); have hAA := Box.mk (Ext.blk hb hAA.out); have hCE := Box.mk hCE; (try clear i0 i1 i2 i3 s0 s1 s2 s3 s4 s5 s6 s7); obtain ⟨i0, i1, i2, i3⟩ := m4 hM1.out; obtain ⟨⟨s0, s1, s2, s3, s4, s5, s6, s7⟩, -⟩ := cx8 hAA.out; clear hb)
          | (go_at_call 24; (with_reducible refine (cU3.out _ hC1.out).mono ?_); rintro e w3 ⟨⟨z9, rfl⟩, hTx⟩; have hCn := Box.mk (hCE.out.tch hTx (by omega)); have hMn := Box.mk (hTx.blk hM1.out (by omega)); have hEn := Box.mk (hTx.ext _ hE1.out hCs); clear hTx hC1 hM1 hE1 hAA i0 i1 i2 i3 s0 s1 s2 s3 s4 s5 s6 s7; obtain ⟨i0, i1, i2, i3⟩ := m4 hMn.out)
          | (go_at_call 29; (with_reducible refine (cL.out _ _ _ hCn.out).mono ?_); rintro e w9 ⟨rfl, hb9⟩; have hE9 := Box.mk (Ext.trans' hEn.out hb9); have hC9 := Box.mk (hCn.out.ext hb9); have hM9 := Box.mk (Ext.blk hb9 hMn.out); clear hb9))
        go_roundw
        case rel => exact ⟨k + 1, E, m, by omega, by go_num, rfl, hC9, hM9, hE9, by omega, by omega⟩
        case measure => simp [intOf]; omega
    · obtain rfl : k = nn := by omega
      have d3 : decide ((k : Int) < (k : Int)) = false := decide_eq_false (by omega)
      have d4 : decide (k < k) = false := decide_eq_false hkn
      obtain ⟨i0, _⟩ := cells4i_at hM.out 0 (by omega)
      obtain ⟨i1, _⟩ := cells4i_at hM.out 1 (by omega)
      obtain ⟨i2, _⟩ := cells4i_at hM.out 2 (by omega)
      obtain ⟨i3, _⟩ := cells4i_at hM.out 3 (by omega)
      have hx := hE.out
      go_wp2_with (first
        | (go_at_call 29; (with_reducible refine (cL.out _ _ _ hC.out).mono ?_); rintro e w9 ⟨rfl, hb9⟩; have hx := Ext.trans' hx hb9)
        | (go_at_call 8; (with_reducible refine (ck.out _ hx).mono ?_); rintro e w1 ⟨rfl, hb⟩; have hx := Ext.trans' hx hb))
      go_ret
      exact ⟨rfl, hx⟩
end Go.Proofs.YtbnmnkmjokcmfaaDoor
