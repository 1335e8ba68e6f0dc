import Derived.Test.YtcofejbkbcdopaaGreatDoorR19
import Derived.Deep.WholeRow
import Derived.Deep.MidRow
import Derived.Laws.ResultCell
/- Contract: OfRun, for at most 4096 results. -/
namespace Go.Proofs.YtcofejbkbcdopaaGreatDoor
open Go.RowKit
/-- A whole store into the block that was made last. -/
theorem wpList_store_new {P : Program} {ops : Array Oper} {rest : List Oper} {o : Oper} {a : Act} {Q : Exit → Act → World → Prop} (hgd : o.guard = none) (w : World) (ty : TypeId) (x y : Operand) (ho : o.op = .store ty x y)
    (zs cs : Array Value) (hx : a.eval x = .pointer (some ⟨w.heap.size, 0, none⟩)) (hy : a.eval y = .agg cs) (hi : (P.info? ty).map (·.size) = some cs.size) (hz : zs.size = cs.size) (h1 : cs.all (·.oneCell') = true)
    (h : wpList P ops Q rest (a.put o.dst undef) (w.alloc (.cells cs ty))) : wpList P ops Q (o :: rest) a (w.alloc (.cells zs ty)) :=
  wpList_plain hgd fun _ hK => wp_store_row ty x y ho w.heap.size cs hx hy ty zs (heap_alloc_last w _) hi hz h1 (by rw [World.setRow_alloc_new]; exact hK _ _ h)
theorem setRow_id {w : World} {g : Nat} {c : Array Value} {t : TypeId} {fr : Nat × Nat} (h : w.heap[g]? = some (.cells c t fr)) : w.setRow g c = w := by
  have e : (w.setRow g c).heap = w.heap := by
    apply Array.ext_getElem?
    intro i
    unfold World.setRow
    rw [Array.getElem?_modify]
    by_cases hi : g = i
    · subst hi; rw [if_pos rfl, h]; rfl
    · rw [if_neg hi]
  have e2 : w.setRow g c = { w with heap := (w.setRow g c).heap } := rfl
  rw [e2, e]
/-- A store of what lies there. -/
theorem wpList_store_same {P : Program} {ops : Array Oper} {rest : List Oper} {o : Oper} {a : Act} {Q : Exit → Act → World → Prop} {w : World} (hgd : o.guard = none) (ty : TypeId) (x y : Operand) (ho : o.op = .store ty x y)
    (g : Nat) (cs : Array Value) (hx : a.eval x = .pointer (some ⟨g, 0, none⟩)) (hy : a.eval y = .agg cs) (t : TypeId) (hg : w.heap[g]? = some (.cells cs t (0, 0))) (hi : (P.info? ty).map (·.size) = some cs.size) (h1 : cs.all (·.oneCell') = true)
    (h : wpList P ops Q rest (a.put o.dst undef) w) : wpList P ops Q (o :: rest) a w :=
  wpList_plain hgd fun _ hK => wp_store_row ty x y ho g cs hx hy t cs hg hi rfl h1 (by rw [setRow_id hg]; exact hK _ _ h)
theorem infoRC : (Tryz.prog.info? 24).map (·.size) = some 12 := by kernel_rfl
theorem rowRC : (Tryz.prog.underlying 24).map (·.isRow) = some true := by kernel_rfl
theorem oneRC (f : Nat → Int) : (rC f).all (·.oneCell') = true := by simp [rC, Value.oneCell']
theorem rc_range {C : Nat} {f : Nat → Int} {w : World} (h : RcAt C f w) : w.rangeAt C 0 (rC f).toList := by
  intro j v hj
  rw [Nat.zero_add, Lib.cell_of_heap h]
  simpa using hj
theorem infoRes : (Tryz.prog.info? 83).map (·.size) = some 21 := by kernel_rfl
theorem infoEv6 : (Tryz.prog.info? 92).map (·.size) = some 6 := by kernel_rfl
theorem rowRes : (Tryz.prog.underlying 83).map (·.isRow) = some true := by kernel_rfl
theorem rowEv6 : (Tryz.prog.underlying 92).map (·.isRow) = some true := by kernel_rfl
theorem und_row {P : Program} {t : TypeId} (h : (P.underlying t).map (·.isRow) = some true) : ∃ d, P.underlying t = some d ∧ d.isRow = true := by
  cases e : P.underlying t with
  | none => rw [e] at h; cases h
  | some d => rw [e] at h; exact ⟨d, rfl, by simpa using h⟩
theorem oneRes (x : Res) : (Res.cs x).toArray.all (·.oneCell') = true := by simp [Res.cs, Value.oneCell']
theorem oneEv6 (x : Ev6) : (Ev6.cs x).toArray.all (·.oneCell') = true := by simp [Ev6.cs, Value.oneCell']
theorem Ext.put {w0 w : World} (h : Ext w0 w) {B : Nat} (hB : w0.heap.size ≤ B) (o : Nat) (v : Value) : Ext w0 (w.setCell ⟨B, o, none⟩ v) := Below.setCell h (p := ⟨B, o, none⟩) hB v
theorem blk_put {w : World} {C o X : Nat} {v : Value} {b : Obj} (h : w.heap[X]? = some b) (ne : C < X) : (w.setCell ⟨C, o, none⟩ v).heap[X]? = some b := (heap_setCell_other _ _ _ _ (by show X ≠ C; omega)).trans h
set_option maxRecDepth 100000 in
set_option maxHeartbeats 40000000 in
theorem ofrun_any (a : Option Addr) (c : Nat) (L : List Res) (w : World) (hL : L.length ≤ 4096) (h20 : ∀ x ∈ L, x.el.length ≤ 20) (hC : CellsAt w a (rows Res.cs L)) (hE : ∀ x ∈ L, CellsAt w x.ea (rows Ev6.cs x.el)) (hw : EnvV w) :
    Calls Tryz.prog 14 #[.slice a L.length c] w fun e w' => e = .returned (.tuple #[.agg (rC (fR L)), .int .i64 0]) ∧ Ext w w' := by
  have d0 : decide ((4096 : Int) < (L.length : Int)) = false := decide_eq_false (by omega)
  have hR0 : Box (RcAt w.heap.size (fR (L.take 0)) (w.alloc (.cells #[.int .i64 0, .int .i64 0, .int .i64 0, .int .i64 0, .int .i64 0, .int .i64 0, .int .i64 0, .int .i64 0, .int .i64 0, .int .i64 0, .int .i64 0, .int .i64 0] 24))) := ⟨by
    unfold RcAt
    rw [rC_congr (g := fun _ => 0) (fun i _ => by rw [List.take_zero, fR_nil])]
    exact newblk _ _⟩
  have hE0 : Box (Ext w (w.alloc (.cells #[.int .i64 0, .int .i64 0, .int .i64 0, .int .i64 0, .int .i64 0, .int .i64 0, .int .i64 0, .int .i64 0, .int .i64 0, .int .i64 0, .int .i64 0, .int .i64 0] 24))) := ⟨Ext.alloc (Below.refl _ _) _⟩
  have HC := Box.mk hC
  have HE := Box.mk hE
  have H20 := Box.mk h20
  have HW := Box.mk hw
  have hCs : w.heap.size ≤ w.heap.size := Nat.le_refl _
  have HF : Box (L.take L.length = L) := ⟨List.take_of_length_le (Nat.le_refl _)⟩
  generalize hnn : L.length = nn at *
  have HN := Box.mk hnn
  clear hnn hC hE h20 hw
  obtain ⟨dR, huR, hdR⟩ := und_row rowRes
  obtain ⟨dE, huE, hdE⟩ := und_row rowEv6
  obtain ⟨dC, huC, hdC⟩ := und_row rowRC
  go_enter Tryz.func14, Tryz.ntmps14
  go_wp2
  have hCq : w.heap.size = w.heap.size := rfl
  generalize hCC : w.heap.size = C at hR0 hCs hCq ⊢
  clear hCq
  replace hCs : w.heap.size ≤ C := Nat.le_of_eq hCC
  clear hCC
  go_loopw [5, 7, 14, 37, 65, 79] (fun _ _ i _ _ _ wr => ∃ t : Nat, t ≤ nn ∧ i = .int .i64 t ∧ Box (RcAt C (fR (L.take t)) wr) ∧ Box (Ext w wr)) (fun _ _ i _ _ _ _ => nn - (intOf i).toNat)
  case atStart => exact ⟨0, by omega, rfl, hR0, hE0⟩
  case round =>
    clear hR0 hE0
    obtain ⟨t, ht, rfl, hR, hE⟩ := hrel
    by_cases hkn : t < nn
    case neg => as_aux_lemma =>
      obtain rfl : t = nn := by omega
      have d3 : decide ((t : Int) < (t : Int)) = false := decide_eq_false (by omega)
      have d4 : decide (t < t) = false := decide_eq_false hkn
      rw [HF.out] at hR
      have hRL := Box.mk (rc_range hR.out)
      generalize hff : fR L = f at *
      go_wp2_with (first
        | (refine wpList_load_mid rfl 24 (.tmp 2) rfl C 0 rfl (rC f).toList dC hRL.out huC hdC infoRC ?_)
        | (refine wpList_store_same rfl 24 (.tmp 2) (.tmp 87) rfl C (rC f) rfl rfl _ hR.out infoRC (oneRC f) ?_))
      subst hff
      have hend : Ending.returned (.tuple #[.agg (rC (fR L)), .int .i64 0]) = Ending.returned (.tuple #[.agg (rC (fR L)), .int .i64 0]) ∧ Ext w wr := ⟨rfl, hE.out⟩
      generalize fR L = f at *
      refine bodyPost_ret (v := .tuple #[.agg (rC f), .int .i64 0]) ?_ rfl hend
      rw [results_cell_tmp rfl]
      simp [asAddr, Result.andThen, run_loadVar_mid wr C 0 24 (rC f).toList dC hRL.out huC hdC infoRC]
    case pos =>
      have hkL : t < L.length := by rw [HN.out]; exact hkn
      obtain ⟨b, o, rfl, hrow⟩ := rows_row Res.cs 21 Res.cs_len (by decide) (CellsAt.ext hE.out HC.out) t hkL
      have hm := List.getElem_mem hkL
      have hEv := Box.mk (HE.out _ hm)
      have h20 := H20.out _ hm
      have hst := Box.mk (fR_step L t hkL)
      have hbd : Box (∀ i, i < 10 → 0 ≤ fR (L.take t) i ∧ fR (L.take t) i ≤ 81920) := ⟨fun i hi => by
        have h := fR_bound (L.take t) (fun x hx => H20.out x (List.mem_of_mem_take hx)) i hi
        have h2 : (L.take t).length ≤ 4096 := by simp; omega
        omega⟩
      clear hm
      generalize L[t] = x at *
      replace hrow := Box.mk hrow
      generalize hf : fR (L.take t) = f at *
      clear hf
      have hn0 : (0 : Int) ≤ (t : Int) := by omega
      have hn1 : (t : Int) < (nn : Int) := by omega
      have hn2 : decide ((t : Int) < (nn : Int)) = true := decide_eq_true hn1
      have hn3 : decide (t < nn) = true := decide_eq_true hkn
      have xA := Ext.alloc (Below.refl wr.heap.size wr) (.cells (Res.cs x).toArray 83)
      have hX := Box.mk (newblk wr (.cells (Res.cs x).toArray 83))
      have hA := Box.mk (hR.out.ext xA)
      have hEA := Box.mk (Ext.trans' hE.out xA)
      have hCX := blk_lt hR.out
      clear xA hR hE
      go_upto_region 6 with (first
        | (refine wpList_load_mid rfl 83 (.tmp 16) rfl b (o + t * 21) rfl (Res.cs x) dR hrow.out huR hdR infoRes ?_)
        | (refine wpList_store_new rfl wr 83 (.tmp 5) (.tmp 17) rfl _ (Res.cs x).toArray rfl rfl infoRes rfl (oneRes x) ?_))
      generalize wr.heap.size = X at *
      generalize wr.alloc (.cells (Res.cs x).toArray 83) = wA at *
      have cA0 := hA.out.cell 0 (by omega)
      have fA0 := hA.out.froz 0
      have b0 := hbd.out 0 (by omega)
      have hB := Box.mk (hA.out.put 0 (by omega) (f 0 + 1))
      have hXB := Box.mk (blk_put (o := 0) (v := .int .i64 (f 0 + 1)) hX.out hCX)
      have hEB := Box.mk (Ext.put hEA.out hCs 0 (.int .i64 (f 0 + 1)))
      clear hA hEA hX
      go_upto_region 7 with (fail)
      generalize wA.setCell ⟨C, 0, none⟩ (.int .i64 (f 0 + 1)) = wB at *
      clear cA0 fA0 b0
      have cB10 : wB.cell? ⟨C, 10, none⟩ = some (.int .i64 (f 10)) := hB.out.cell 10 (by omega)
      have cB11 : wB.cell? ⟨C, 11, none⟩ = some (.int .i64 (f 11)) := hB.out.cell 11 (by omega)
      have fB10 := hB.out.froz 10
      have fB11 := hB.out.froz 11
      have x18 : wB.cell? ⟨X, 18, none⟩ = some (.slice x.ea x.el.length x.ec) := by rw [Lib.cell_of_heap hXB.out]; rfl
      have x19 : wB.cell? ⟨X, 19, none⟩ = some (.int .i64 x.len) := by rw [Lib.cell_of_heap hXB.out]; rfl
      have x20 : wB.cell? ⟨X, 20, none⟩ = some (.int .i64 x.cost) := by rw [Lib.cell_of_heap hXB.out]; rfl
      have hgm : Box (RcAt C (stA f x) (((wB.setCell ⟨C, 10, none⟩ (.int .i64 (max (f 10) x.len))).setCell ⟨C, 11, none⟩ (.int .i64 (max (f 11) x.cost))).drew)) := ⟨by
        have e1 : max (f 10) x.len = gt x.len (f 10) := by unfold gt; split <;> omega
        have e2 : max (f 11) x.cost = gt x.cost (f 11) := by unfold gt; split <;> omega
        rw [e1, e2]
        exact ((hB.out.put 10 (by omega) (gt x.len (f 10))).put 11 (by omega) (gt x.cost (f 11))).ext (Ext.drew1 (Below.refl _ _))⟩
      have hXm := Box.mk (Ext.blk (Ext.drew1 (Below.refl _ _)) (blk_put (o := 11) (v := .int .i64 (max (f 11) x.cost)) (blk_put (o := 10) (v := .int .i64 (max (f 10) x.len)) hXB.out hCX) hCX))
      have hEm := Box.mk (Ext.drew1 (Ext.put (Ext.put hEB.out hCs 10 (.int .i64 (max (f 10) x.len))) hCs 11 (.int .i64 (max (f 11) x.cost))))
      go_region
      go_wp2
      clear cB10 cB11 fB10 fB11 x18 x19 x20 hB hXB hEB
      generalize (((wB.setCell ⟨C, 10, none⟩ (.int .i64 (max (f 10) x.len))).setCell ⟨C, 11, none⟩ (.int .i64 (max (f 11) x.cost))).drew) = wC at *
      have hbA : Box (∀ i, i < 10 → 0 ≤ stA f x i ∧ stA f x i ≤ 81921) := ⟨stA_bd f x 81920 hbd.out⟩
      generalize hee : x.el.length = ee at *
      go_loopw [7, 37] (fun _ jv wv => ∃ j : Nat, j ≤ ee ∧ jv = .int .i64 j ∧ Box (RcAt C (evR (stA f x) (x.el.take j)) wv) ∧ Box (wv.heap[X]? = some (.cells (Res.cs x).toArray 83 (0, 0))) ∧ Box (Ext w wv)) (fun _ jv _ => ee - (intOf jv).toNat)
      case atStart => exact ⟨0, by omega, rfl, ⟨hgm.out.congr (by rw [List.take_zero]; exact evR_nil _)⟩, hXm, hEm⟩
      case round =>
        clear hgm hXm hEm
        obtain ⟨j, hj, rfl, hR, hX, hE⟩ := hrel
        by_cases hje : j < ee
        · as_aux_lemma =>
          have hjE : j < x.el.length := by rw [hee]; exact hje
          obtain ⟨b2, o2, hea, hrow2⟩ := rows_row Ev6.cs 6 Ev6.cs_len (by decide) (CellsAt.ext hE.out hEv.out) j hjE
          rw [hea]
          replace hrow2 := Box.mk hrow2
          have jn0 : (0 : Int) ≤ (j : Int) := by omega
          have jn1 : (j : Int) < (ee : Int) := by omega
          have jn2 : decide ((j : Int) < (ee : Int)) = true := decide_eq_true jn1
          have jn3 : decide (j < ee) = true := decide_eq_true hje
          have hyes := Box.mk (evR_yes (stA f x) x.el j)
          have hno := Box.mk (evR_no (stA f x) x.el j hjE)
          have hbg : Box (∀ i, i < 10 → 0 ≤ evR (stA f x) (x.el.take j) i ∧ evR (stA f x) (x.el.take j) i ≤ 81941) := ⟨evR_bd (stA f x) (x.el.take j) 81921 hbA.out (by simp; omega)⟩
          have hkk : ∀ m, m = (x.el[j]).k → m = (x.el[j]).k := fun _ h => h
          generalize hvv : x.el[j] = v at *
          generalize hgg : evR (stA f x) (x.el.take j) = g at *
          clear hgg hkk
          have xA := Ext.alloc (Below.refl wr.heap.size wr) (.cells (Ev6.cs v).toArray 92)
          have hY := Box.mk (newblk wr (.cells (Ev6.cs v).toArray 92))
          have hRA := Box.mk (hR.out.ext xA)
          have hXA := Box.mk (Ext.blk xA hX.out)
          have hEA := Box.mk (Ext.trans' hE.out xA)
          have hwE := Box.mk (HW.out.ext hEA.out)
          have hCY := blk_lt hR.out
          clear xA hR hE hX
          go_upto_region 11 with (first
            | (refine wpList_load_mid rfl 92 (.tmp 39) rfl b2 (o2 + j * 6) rfl (Ev6.cs v) dE hrow2.out huE hdE infoEv6 ?_)
            | (refine wpList_store_new rfl wr 92 (.tmp 7) (.tmp 40) rfl _ (Ev6.cs v).toArray rfl rfl infoEv6 rfl (oneEv6 v) ?_))
          generalize wr.heap.size = Y at *
          generalize wr.alloc (.cells (Ev6.cs v).toArray 92) = wD at *
          have y0 : wD.cell? ⟨Y, 0, none⟩ = some (.int .i64 v.k) := by rw [Lib.cell_of_heap hY.out]; rfl
          by_cases hk : 1 ≤ v.k ∧ v.k ≤ 5
          · obtain ⟨m, hm⟩ : ∃ m : Nat, v.k = m := ⟨v.k.toNat, by omega⟩
            obtain ⟨hk1, hk5⟩ := hk
            rw [hm] at hk1 hk5 y0
            have hy := Box.mk (hyes.out m hjE (by rw [hvv]; exact hm) (by omega) (by omega))
            clear hyes hno
            obtain rfl | rfl | rfl | rfl | rfl : m = 1 ∨ m = 2 ∨ m = 3 ∨ m = 4 ∨ m = 5 := by omega
            · have cw : Box (∀ w', Ext wD w' → Calls Tryz.prog 30 #[.int .i64 1] w' fun e w'' => e = .returned (.string ⟨#[101, 120, 112, 105, 114, 101, 100]⟩) ∧ w' = w'') := ⟨fun w' h => eword_ok 1 (by omega) (by omega) w' (hwE.out.ext h)⟩
              have cq : wD.cell? ⟨C, 5, none⟩ = some (.int .i64 (g 5)) := hRA.out.cell 5 (by omega)
              have fq := hRA.out.froz 5
              have bq := hbg.out 5 (by omega)
              have hRn : Box (RcAt C _ (wD.setCell ⟨C, 5, none⟩ (.int .i64 (g 5 + 1)))) := ⟨(hRA.out.put 5 (by omega) (g 5 + 1)).congr hy.out⟩
              have hXn := Box.mk (blk_put (o := 5) (v := .int .i64 (g 5 + 1)) hXA.out hCX)
              have hEn := Box.mk (Ext.put hEA.out hCs 5 (.int .i64 (g 5 + 1)))
              have hx0 : Ext wD wD := Below.refl _ _
              go_wp2_with (go_at_call 30; (with_reducible refine (cw.out _ hx0).mono ?_); rintro e w' ⟨rfl, rfl⟩)
              go_roundw
              case rel => exact ⟨j + 1, by omega, by go_num, hRn, hXn, hEn⟩
              case measure => simp [intOf]; omega
            · have cw : Box (∀ w', Ext wD w' → Calls Tryz.prog 30 #[.int .i64 2] w' fun e w'' => e = .returned (.string ⟨#[101, 118, 105, 99, 116, 101, 100]⟩) ∧ w' = w'') := ⟨fun w' h => eword_ok 2 (by omega) (by omega) w' (hwE.out.ext h)⟩
              have cq : wD.cell? ⟨C, 6, none⟩ = some (.int .i64 (g 6)) := hRA.out.cell 6 (by omega)
              have fq := hRA.out.froz 6
              have bq := hbg.out 6 (by omega)
              have hRn : Box (RcAt C _ (wD.setCell ⟨C, 6, none⟩ (.int .i64 (g 6 + 1)))) := ⟨(hRA.out.put 6 (by omega) (g 6 + 1)).congr hy.out⟩
              have hXn := Box.mk (blk_put (o := 6) (v := .int .i64 (g 6 + 1)) hXA.out hCX)
              have hEn := Box.mk (Ext.put hEA.out hCs 6 (.int .i64 (g 6 + 1)))
              have hx0 : Ext wD wD := Below.refl _ _
              go_wp2_with (go_at_call 30; (with_reducible refine (cw.out _ hx0).mono ?_); rintro e w' ⟨rfl, rfl⟩)
              go_roundw
              case rel => exact ⟨j + 1, by omega, by go_num, hRn, hXn, hEn⟩
              case measure => simp [intOf]; omega
            · have cw : Box (∀ w', Ext wD w' → Calls Tryz.prog 30 #[.int .i64 3] w' fun e w'' => e = .returned (.string ⟨#[114, 101, 112, 108, 97, 99, 101, 100]⟩) ∧ w' = w'') := ⟨fun w' h => eword_ok 3 (by omega) (by omega) w' (hwE.out.ext h)⟩
              have cq : wD.cell? ⟨C, 7, none⟩ = some (.int .i64 (g 7)) := hRA.out.cell 7 (by omega)
              have fq := hRA.out.froz 7
              have bq := hbg.out 7 (by omega)
              have hRn : Box (RcAt C _ (wD.setCell ⟨C, 7, none⟩ (.int .i64 (g 7 + 1)))) := ⟨(hRA.out.put 7 (by omega) (g 7 + 1)).congr hy.out⟩
              have hXn := Box.mk (blk_put (o := 7) (v := .int .i64 (g 7 + 1)) hXA.out hCX)
              have hEn := Box.mk (Ext.put hEA.out hCs 7 (.int .i64 (g 7 + 1)))
              have hx0 : Ext wD wD := Below.refl _ _
              go_wp2_with (go_at_call 30; (with_reducible refine (cw.out _ hx0).mono ?_); rintro e w' ⟨rfl, rfl⟩)
              go_roundw
              case rel => exact ⟨j + 1, by omega, by go_num, hRn, hXn, hEn⟩
              case measure => simp [intOf]; omega
            · have cw : Box (∀ w', Ext wD w' → Calls Tryz.prog 30 #[.int .i64 4] w' fun e w'' => e = .returned (.string ⟨#[100, 101, 108, 101, 116, 101, 100]⟩) ∧ w' = w'') := ⟨fun w' h => eword_ok 4 (by omega) (by omega) w' (hwE.out.ext h)⟩
              have cq : wD.cell? ⟨C, 8, none⟩ = some (.int .i64 (g 8)) := hRA.out.cell 8 (by omega)
              have fq := hRA.out.froz 8
              have bq := hbg.out 8 (by omega)
              have hRn : Box (RcAt C _ (wD.setCell ⟨C, 8, none⟩ (.int .i64 (g 8 + 1)))) := ⟨(hRA.out.put 8 (by omega) (g 8 + 1)).congr hy.out⟩
              have hXn := Box.mk (blk_put (o := 8) (v := .int .i64 (g 8 + 1)) hXA.out hCX)
              have hEn := Box.mk (Ext.put hEA.out hCs 8 (.int .i64 (g 8 + 1)))
              have hx0 : Ext wD wD := Below.refl _ _
              go_wp2_with (go_at_call 30; (with_reducible refine (cw.out _ hx0).mono ?_); rintro e w' ⟨rfl, rfl⟩)
              go_roundw
              case rel => exact ⟨j + 1, by omega, by go_num, hRn, hXn, hEn⟩
              case measure => simp [intOf]; omega
            · have cw : Box (∀ w', Ext wD w' → Calls Tryz.prog 30 #[.int .i64 5] w' fun e w'' => e = .returned (.string ⟨#[99, 108, 101, 97, 114, 101, 100]⟩) ∧ w' = w'') := ⟨fun w' h => eword_ok 5 (by omega) (by omega) w' (hwE.out.ext h)⟩
              have cq : wD.cell? ⟨C, 9, none⟩ = some (.int .i64 (g 9)) := hRA.out.cell 9 (by omega)
              have fq := hRA.out.froz 9
              have bq := hbg.out 9 (by omega)
              have hRn : Box (RcAt C _ (wD.setCell ⟨C, 9, none⟩ (.int .i64 (g 9 + 1)))) := ⟨(hRA.out.put 9 (by omega) (g 9 + 1)).congr hy.out⟩
              have hXn := Box.mk (blk_put (o := 9) (v := .int .i64 (g 9 + 1)) hXA.out hCX)
              have hEn := Box.mk (Ext.put hEA.out hCs 9 (.int .i64 (g 9 + 1)))
              have hx0 : Ext wD wD := Below.refl _ _
              go_wp2_with (go_at_call 30; (with_reducible refine (cw.out _ hx0).mono ?_); rintro e w' ⟨rfl, rfl⟩)
              go_roundw
              case rel => exact ⟨j + 1, by omega, by go_num, hRn, hXn, hEn⟩
              case measure => simp [intOf]; omega
          · as_aux_lemma =>
            have hkb : kB v.k = false := by
              unfold kB
              by_cases h1 : 1 ≤ v.k
              · rw [decide_eq_false (show ¬ v.k < 6 by omega)]; simp
              · rw [decide_eq_false h1]; rfl
            have cw : Box (∀ w', _) := ⟨fun w' => eword_bad v.k hkb w'⟩
            have hy := Box.mk (hno.out (by omega))
            clear hyes hno hk hkb
            go_wp2_with (go_at_call 30; (with_reducible refine (cw.out _).mono ?_); rintro e w' ⟨rfl, rfl⟩)
            go_roundw
            case rel => exact ⟨j + 1, by omega, by go_num, ⟨hRA.out.congr hy.out⟩, hXA, hEA⟩
            case measure => simp [intOf]; omega
        · as_aux_lemma =>
          obtain rfl : j = ee := by omega
          have hRf : Box (RcAt C (evR (stA f x) x.el) wr) := ⟨by
            have := hR.out
            rwa [← hee, List.take_length] at this⟩
          have jd0 : decide ((j : Int) < (j : Int)) = false := decide_eq_false (by omega)
          have jd1 : decide (j < j) = false := decide_eq_false (by omega)
          have hbe : Box (∀ i, i < 10 → 0 ≤ evR (stA f x) x.el i ∧ evR (stA f x) x.el i ≤ 81941) := ⟨evR_bd (stA f x) x.el 81921 hbA.out (by omega)⟩
          have s1 := Box.mk (stB_err f x)
          have s2 := Box.mk (stB_hit f x)
          have s3 := Box.mk (stB_miss f x)
          have s4 := Box.mk (stB_put f x)
          have s5 := Box.mk (stB_no f x)
          have hfr := hRf.out.froz
          have z10 : wr.cell? ⟨X, 10, none⟩ = some (.int .i64 x.e) := by rw [Lib.cell_of_heap hX.out]; rfl
          have z0 : wr.cell? ⟨X, 0, none⟩ = some (.int .i64 x.k) := by rw [Lib.cell_of_heap hX.out]; rfl
          have z11 : wr.cell? ⟨X, 11, none⟩ = some (.bool x.hit) := by rw [Lib.cell_of_heap hX.out]; rfl
          have hrd : Box (x.read = (x.k == 3 || x.k == 4 || x.k == 5)) := ⟨rfl⟩
          have hpt : Box (x.put = (x.k == 1 || x.k == 2)) := ⟨rfl⟩
          clear hR hX
          generalize hgg : evR (stA f x) x.el = g at *
          clear hgg
          have c1 : wr.cell? ⟨C, 1, none⟩ = some (.int .i64 (g 1)) := hRf.out.cell 1 (by omega)
          have c2 : wr.cell? ⟨C, 2, none⟩ = some (.int .i64 (g 2)) := hRf.out.cell 2 (by omega)
          have c3 : wr.cell? ⟨C, 3, none⟩ = some (.int .i64 (g 3)) := hRf.out.cell 3 (by omega)
          have c4 : wr.cell? ⟨C, 4, none⟩ = some (.int .i64 (g 4)) := hRf.out.cell 4 (by omega)
          have f1 := hfr 1
          have f2 := hfr 2
          have f3 := hfr 3
          have f4 := hfr 4
          have b1 := hbe.out 1 (by omega)
          have b2 := hbe.out 2 (by omega)
          have b3 := hbe.out 3 (by omega)
          have b4 := hbe.out 4 (by omega)
          clear hfr hbe hbA
          by_cases he : x.e = 0
          · rw [he] at z10
            have rd : ∀ k : Int, (x.k = 3 ∨ x.k = 4 ∨ x.k = 5) → x.read = true ∧ x.put = false := fun _ h => by
              rw [hrd.out, hpt.out]
              rcases h with h | h | h <;> rw [h] <;> exact ⟨rfl, rfl⟩
            have pt : ∀ k : Int, (x.k = 1 ∨ x.k = 2) → x.read = false ∧ x.put = true := fun _ h => by
              rw [hrd.out, hpt.out]
              rcases h with h | h <;> rw [h] <;> exact ⟨rfl, rfl⟩
            have hk : x.k = 3 ∨ x.k = 4 ∨ x.k = 5 ∨ x.k = 1 ∨ x.k = 2 ∨ ((x.k == 1) = false ∧ (x.k == 2) = false ∧ (x.k == 3) = false ∧ (x.k == 4) = false ∧ (x.k == 5) = false) := by
              simp only [beq_eq_false_iff_ne]; omega
            replace rd := Box.mk rd
            replace pt := Box.mk pt
            cases hh : x.hit
            all_goals
              rw [hh] at z11
              rcases hk with hk | hk | hk | hk | hk | ⟨k1, k2, k3, k4, k5⟩
              all_goals first
                | rw [hk] at z0
                | skip
              all_goals as_aux_lemma =>
                go_wp2
                go_roundw
                case rel =>
                  first
                    | exact ⟨t + 1, by omega, by go_num, ⟨((hRf.out.put 2 (by omega) (g 2 + 1)).put 3 (by omega) (g 3 + 1)).congr fun i hi => (s2.out he (rd.out 0 (by omega)).1 hh (rd.out 0 (by omega)).2 i hi).trans (hst.out i hi)⟩, ⟨Ext.put (Ext.put hE.out hCs 2 _) hCs 3 _⟩⟩
                    | exact ⟨t + 1, by omega, by go_num, ⟨(hRf.out.put 2 (by omega) (g 2 + 1)).congr fun i hi => (s3.out he (rd.out 0 (by omega)).1 hh (rd.out 0 (by omega)).2 i hi).trans (hst.out i hi)⟩, ⟨Ext.put hE.out hCs 2 _⟩⟩
                    | exact ⟨t + 1, by omega, by go_num, ⟨(hRf.out.put 4 (by omega) (g 4 + 1)).congr fun i hi => (s4.out he (pt.out 0 (by omega)).1 (pt.out 0 (by omega)).2 i hi).trans (hst.out i hi)⟩, ⟨Ext.put hE.out hCs 4 _⟩⟩
                    | exact ⟨t + 1, by omega, by go_num, ⟨hRf.out.congr fun i hi => (s5.out he (by rw [hrd.out, k3, k4, k5]; rfl) (by rw [hpt.out, k1, k2]; rfl) i hi).trans (hst.out i hi)⟩, hE⟩
                case measure => simp [intOf]; omega
          · as_aux_lemma =>
            have he' : (x.e == 0) = false := by rw [beq_eq_false_iff_ne]; exact he
            go_wp2
            go_roundw
            case rel => exact ⟨t + 1, by omega, by go_num, ⟨(hRf.out.put 1 (by omega) (g 1 + 1)).congr fun i hi => (s1.out he i hi).trans (hst.out i hi)⟩, ⟨Ext.put hE.out hCs 1 _⟩⟩
            case measure => simp [intOf]; omega
end Go.Proofs.YtcofejbkbcdopaaGreatDoor
