import Derived.Test.YtcofejbkbcdopaaGreatDoorR7
/- The walk of the report's ReadScores. -/
namespace Go.Proofs.YtcofejbkbcdopaaGreatDoor
open Go.RowKit Go.Shelf
attribute [local go_sem] Oper.semAt_some
theorem lines_call (s : ByteArray) (w : World) : Calls Tryz.prog 28 #[.string s] w fun e w' => e = .returned (.func (.func 39) #[] #[.pointer (some ⟨w.heap.size, 0, none⟩)]) ∧ w.alloc (.cells #[.string s] 9) = w' := by
  go_enter Tryz.func28, Tryz.ntmps28
  go_wp2
  go_ret
  exact ⟨rfl, rfl⟩
theorem cells1 {w : World} {B : Nat} {c0 : Value} {T : TypeId} (h : w.heap[B]? = some (.cells #[c0] T (0, 0))) : w.cell? ⟨B, 0, none⟩ = some c0 ∧ w.frozen? ⟨B, 0, none⟩ = false :=
  ⟨by rw [Lib.cell_of_heap h]; rfl, Lib.frozen_of_heap h 0⟩
theorem set1 {w : World} {B : Nat} {c0 : Value} {T : TypeId} (h : w.heap[B]? = some (.cells #[c0] T (0, 0))) (v : Value) : (w.setCell ⟨B, 0, none⟩ v).heap[B]? = some (.cells #[v] T (0, 0)) := heap_setCell_same w B 0 _ _ _ h
theorem setO {w : World} {A B : Nat} {o : Obj} (h : w.heap[A]? = some o) (hne : A ≠ B) (v : Value) : (w.setCell ⟨B, 0, none⟩ v).heap[A]? = some o := (heap_setCell_other w ⟨B, 0, none⟩ A v hne).trans h
theorem row_keep {W W' : World} {base size n : Nat} {e : TypeId} {v : Value} {xs : List Value} (hown : W.ownsRow base e size v n xs) (hg : W.grownBy W' v.ownBlock) {k : Nat} {o : Obj} (hk : k < base) (h : W.heap[k]? = some o) : W'.heap[k]? = some o :=
  (hg.block k (blk_lt h) (fun e => by have := (hown.lt k e.symm).1; omega)).trans h
theorem row_slice {W : World} {base size n : Nat} {e : TypeId} {v : Value} {xs : List Value} (hown : W.ownsRow base e size v n xs) : ∃ a c, v = .slice a n c := by
  rcases hown.2 with ⟨rfl, rfl⟩ | ⟨g, cap, cur, rfl, _⟩
  · exact ⟨_, _, rfl⟩
  · exact ⟨_, _, rfl⟩
theorem PS.push {w : World} {acc : List Sc} {W2 W3 : World} {a a3 : Option Addr} {c c3 : Nat} {x : Sc} (h : PS w acc W2) (hl : W2.heap[w.heap.size]? = some (.cells #[.slice a acc.length c] 36 (0, 0)))
    (hown : W2.ownsRow (w.heap.size + 4) 50 4 (.slice a acc.length c) acc.length (rowsS acc)) (hg : W2.grownBy W3 (Value.slice a acc.length c).ownBlock)
    (hown3 : W3.ownsRow (w.heap.size + 4) 50 4 (.slice a3 (acc.length + 1) c3) (acc.length + 1) (rowsS acc ++ [.int .i64 x.k, .int .i64 x.size, .int .i64 x.b, .int .i64 x.a])) (hf : acc.length + 1 ≤ 1000) :
    PS w (acc ++ [x]) (W3.setCell ⟨w.heap.size, 0, none⟩ (.slice a3 (acc.length + 1) c3)) := by
  have hlen : (acc ++ [x]).length = acc.length + 1 := by simp
  refine ⟨Below.setCell (Below.grown h.ext hg (Nat.le_trans (by omega) h.size) (fun k hk => by have := (hown.lt k hk).1; omega)) (p := ⟨w.heap.size, 0, none⟩) (Nat.le_refl _) _, ⟨a3, c3, ?_, ?_⟩, ?_, ?_, ?_, by rw [hlen]; exact hf⟩
  · rw [hlen]; exact set1 (row_keep hown hg (by omega) hl) _
  · rw [hlen, rowsS_snoc]; exact ownsRow_far hown3 (by omega) _
  · exact setO (row_keep hown hg (by omega) h.a) (by omega) _
  · exact setO (row_keep hown hg (by omega) h.e) (by omega) _
  · rw [World.size_setCell]; exact Nat.le_trans h.size hg.size
theorem InCell.push {w : World} {acc : List Sc} {W2 W3 : World} {a : Option Addr} {c : Nat} {l : List UInt8} (h : InCell (w.heap.size + 1 + 1 + 1) 0 l W2)
    (hown : W2.ownsRow (w.heap.size + 4) 50 4 (.slice a acc.length c) acc.length (rowsS acc)) (hg : W2.grownBy W3 (Value.slice a acc.length c).ownBlock) (v : Value) : InCell (w.heap.size + 1 + 1 + 1) 0 l (W3.setCell ⟨w.heap.size, 0, none⟩ v) := by
  have hlt := lt_of_cell h.1
  refine h.of_heap ((heap_setCell_other W3 ⟨w.heap.size, 0, none⟩ _ v (by show _ ≠ w.heap.size; omega)).trans (hg.block _ hlt (fun e => ?_)))
  have := (hown.lt _ e.symm).1
  omega
theorem PS.fail {w : World} {acc : List Sc} {W : World} (h : PS w acc W) (n : Nat) (z : Int) (hz : z = n) : PF w n (((W.setCell ⟨w.heap.size, 0, none⟩ (.slice none 0 0)).setCell ⟨w.heap.size + 1, 0, none⟩ (.int .i64 (z))).setCell ⟨w.heap.size + 1 + 1, 0, none⟩ (.int .i64 6)) := by
  subst hz
  obtain ⟨a, c, h1, h2⟩ := h.l
  exact ⟨((Below.setCell h.ext (p := ⟨w.heap.size, 0, none⟩) (Nat.le_refl _) _).setCell (p := ⟨w.heap.size + 1, 0, none⟩) (by show _ ≤ w.heap.size + 1; omega) _).setCell (p := ⟨w.heap.size + 1 + 1, 0, none⟩) (by show _ ≤ w.heap.size + 1 + 1; omega) _,
    setO (setO (set1 h1 _) (by omega) _) (by omega) _, setO (set1 (setO h.a (by omega) _) _) (by omega) _, set1 (setO (setO h.e (by omega) _) (by omega) _) _⟩
theorem KeepsOthers.f3 (w W : World) (z : Int) : KeepsOthers W (((W.setCell ⟨w.heap.size, 0, none⟩ (.slice none 0 0)).setCell ⟨w.heap.size + 1, 0, none⟩ (.int .i64 (z))).setCell ⟨w.heap.size + 1 + 1, 0, none⟩ (.int .i64 6)) := (KeepsOthers.setCell _ _ _).trans ((KeepsOthers.setCell _ _ _).trans (KeepsOthers.setCell _ _ _))
set_option maxRecDepth 100000 in
set_option maxHeartbeats 4000000 in
theorem readscores_any (s : ByteArray) (w : World) (hs : s.size ≤ 1000000) (hw : Env w) : Calls Tryz.prog 12 #[.string s] w (RdP (rdS [] (linesL s.size s.data.toList)) w) := by
  refine (callsIn_wide (n := 9)).1 ?_
  refine callsIn_of_wp_marks Tryz.func12 rfl trivial ?_ rfl
  simp only [Tryz.ntmps12, List.size_toArray, List.length_cons, List.length_nil, Nat.reduceAdd, Nat.reduceSub, Array.replicate_succ, Array.replicate_zero, List.push_toArray, List.append_toArray, List.nil_append, List.cons_append]
  have cw : Box _ := ⟨fun w => lines_call s w⟩
  gi_wp2_with (first | (refine ⟨trivial, ?_⟩; gi_at_call 28; (with_reducible refine (callsIn_wide.2 (cw.out _)).mono ?_); rintro e w' ⟨rfl, rfl⟩))
  have x1 : ∀ (W : World) (o : Obj), Ext W (W.alloc o) := fun W o => Ext.alloc (Below.refl _ _) _
  have hPS : PS w [] ((((w.alloc (.cells #[.slice none 0 0] 36)).alloc (.cells #[.int .i64 0] 3)).alloc (.cells #[.int .i64 0] 26)).alloc (.cells #[.string s] 9)) := by
    have n1 := newblk w (.cells #[.slice none 0 0] 36)
    have n2 := newblk (w.alloc (.cells #[.slice none 0 0] 36)) (.cells #[.int .i64 0] 3)
    have n3 := newblk ((w.alloc (.cells #[.slice none 0 0] 36)).alloc (.cells #[.int .i64 0] 3)) (.cells #[.int .i64 0] 26)
    simp only [World.size_alloc] at n2 n3
    exact ⟨Ext.trans' (x1 _ _) (Ext.trans' (x1 _ _) (Ext.trans' (x1 _ _) (x1 _ _))), ⟨none, 0, Ext.blk (x1 _ _) (Ext.blk (x1 _ _) (Ext.blk (x1 _ _) n1)), World.ownsRow_nil _ _ _ _⟩, Ext.blk (x1 _ _) (Ext.blk (x1 _ _) n2), Ext.blk (x1 _ _) n3, by simp, by simp⟩
  have hIC : InCell (w.heap.size + 1 + 1 + 1) 0 s.data.toList ((((w.alloc (.cells #[.slice none 0 0] 36)).alloc (.cells #[.int .i64 0] 3)).alloc (.cells #[.int .i64 0] 26)).alloc (.cells #[.string s] 9)) := by
    have n4 := newblk (((w.alloc (.cells #[.slice none 0 0] 36)).alloc (.cells #[.int .i64 0] 3)).alloc (.cells #[.int .i64 0] 26)) (.cells #[.string s] 9)
    simp only [World.size_alloc] at n4
    refine ⟨by rw [Lib.cell_of_heap n4]; rfl, Lib.frozen_of_heap n4 0, ?_⟩
    have : s.data.toList.length = s.size := rfl
    omega
  have hsz : ((((w.alloc (.cells #[.slice none 0 0] 36)).alloc (.cells #[.int .i64 0] 3)).alloc (.cells #[.int .i64 0] 26)).alloc (.cells #[.string s] 9)).heap.size = w.heap.size + 1 + 1 + 1 + 1 := by simp
  generalize (((w.alloc (.cells #[.slice none 0 0] 36)).alloc (.cells #[.int .i64 0] 3)).alloc (.cells #[.int .i64 0] 26)).alloc (.cells #[.string s] 9) = W0 at *
  have h00 : PJ w s.data.toList s.size s.data.toList W0 := ⟨[], s.size, Nat.le_refl _, hPS, hIC, rfl⟩
  refine range_line rfl (by decide) (gf := 39) (lb := #[.pointer (some ⟨w.heap.size + 1 + 1 + 1, 0, none⟩)]) (b := w.heap.size + 1 + 1 + 1) rfl trivial (fun args w => Tryz.call39 args w) (lines_iter _ _ (by decide) s.data.toList) rfl
    (PJ w s.data.toList s.size) (PJ1 w s.data.toList s.size) (PJx w s.data.toList s.size)
    (fun l => PJ.own (by omega)) (fun l => PJ1.own (by omega)) (PJx.own (by omega))
    (fun l W h => by obtain ⟨acc, n, h1, h2, h3, h4⟩ := h; exact h3)
    (fun l W h hne => PJ1.put h hne) (fun l W h => PJ1.own (B := w.heap.size + 4) (Nat.le_refl _) W W.drew none h ⟨rfl, rfl, rfl, Nat.le_refl _, fun _ _ _ => rfl⟩ (fun r e => by cases e)) h00 ?a1 ?assign ?body ?done ?stop
  case assign =>
    intro lp l W K hK
    gi_wp2
    exact hK
  case body =>
    rintro lp l W ⟨acc, n, h1, h0, hP, hC, hr⟩
    have hsc : (⟨(lnA l).toArray⟩ : ByteArray).size ≤ 1000000 := by
      have := lnA_le l
      show (lnA l).toArray.size ≤ _
      simp; omega
    have cs : Box _ := ⟨score_any ⟨(lnA l).toArray⟩ hsc W (hw.ext hP.ext)⟩
    rw [show (⟨(lnA l).toArray⟩ : ByteArray).data.toList = lnA l from rfl] at cs
    have hfew := hP.few
    have hP := Box.mk hP
    have hC := Box.mk hC
    have hr := Box.mk hr
    have h1 := Box.mk h1
    by_cases hfull : acc.length = 1000
    · have e1 : ((acc.length : Int) == 1000) = true := by rw [hfull]; rfl
      have hres := Box.mk (hr.out.trans (rdS_full1 hfull _ _))
      clear hfull hr
      gi_wp2_with (first
        | (refine ⟨trivial, ?_⟩; gi_at_call 29; refine (CallsIn.inRound lp (callsIn_wide.2 cs.out)).mono ?_; rintro e W1 ⟨⟨k9, s9, b9, a9, rfl, hv9⟩, hb⟩; clear hv9; have hbx := Box.mk (Ext.trans' hb (Ext.alloc (Below.refl _ W1) (.cells #[.int .i64 (k9), .int .i64 (s9), .int .i64 (b9), .int .i64 (a9)] 50))); have hP2 := Box.mk (hP.out.grow hbx.out); obtain ⟨a, c, hl, -⟩ := hP2.out.l; obtain ⟨l0, l1⟩ := cells1 hl; obtain ⟨q0, q1⟩ := cells1 hP2.out.a; obtain ⟨r0, r1⟩ := cells1 hP2.out.e; clear hl))
      exact ⟨(KeepsOthers.ofExt hbx.out).trans (KeepsOthers.f3 _ _ _), 1001, hP2.out.fail 1001 1001 rfl, hres.out⟩
    · have e1 : ((acc.length : Int) == 1000) = false := by rw [beq_eq_false_iff_ne]; omega
      cases ho : readL (lnA l) with
      | none =>
        have hres := Box.mk (hr.out.trans (rdS_none hfull ho _))
        rw [ho] at cs
        have e2 : IntKind.i64.wrap ((acc.length : Int) + 1) = (acc.length : Int) + 1 := by rw [IntKind.wrap_i64]; omega
        clear hfull hr ho
        gi_wp2_with (first
          | (refine ⟨trivial, ?_⟩; gi_at_call 29; refine (CallsIn.inRound lp (callsIn_wide.2 cs.out)).mono ?_; rintro e W1 ⟨⟨k9, s9, b9, a9, rfl, hv9⟩, hb⟩; clear hv9; have hbx := Box.mk (Ext.trans' hb (Ext.alloc (Below.refl _ W1) (.cells #[.int .i64 (k9), .int .i64 (s9), .int .i64 (b9), .int .i64 (a9)] 50))); have hP2 := Box.mk (hP.out.grow hbx.out); obtain ⟨a, c, hl, -⟩ := hP2.out.l; obtain ⟨l0, l1⟩ := cells1 hl; obtain ⟨q0, q1⟩ := cells1 hP2.out.a; obtain ⟨r0, r1⟩ := cells1 hP2.out.e; clear hl))
        exact ⟨(KeepsOthers.ofExt hbx.out).trans (KeepsOthers.f3 _ _ _), acc.length + 1, hP2.out.fail (acc.length + 1) _ (by omega), hres.out⟩
      | some x =>
        have hres := Box.mk (hr.out.trans (rdS_some hfull ho _))
        have hfew2 : acc.length + 1 ≤ 1000 := by omega
        rw [ho] at cs
        obtain ⟨i0, hi, hz0, hz1, hz2⟩ := info_parts infoScore
        clear hfull hr ho
        gi_wp2_with (first
          | (refine ⟨trivial, ?_⟩; gi_at_call 29; refine (CallsIn.inRound lp (callsIn_wide.2 cs.out)).mono ?_; rintro e W1 ⟨⟨k9, s9, b9, a9, rfl, hv9⟩, hb⟩; obtain ⟨rfl, rfl, rfl, rfl⟩ := hv9 x rfl; clear hv9; have hbx := Box.mk (Ext.trans' hb (Ext.alloc (Below.refl _ W1) (.cells #[.int .i64 x.k, .int .i64 x.size, .int .i64 x.b, .int .i64 x.a] 50))); have hP2 := Box.mk (hP.out.grow hbx.out); obtain ⟨a, c, hl, hown⟩ := hP2.out.l; obtain ⟨l0, l1⟩ := cells1 hl; obtain ⟨q0, q1⟩ := cells1 hP2.out.a; obtain ⟨r0, r1⟩ := cells1 hP2.out.e; have hl := Box.mk hl; have hown := Box.mk hown; have hcn := cells_new (W1.alloc (.cells #[.int .i64 x.k, .int .i64 x.size, .int .i64 x.b, .int .i64 x.a] 50)) [.int .i64 x.k, .int .i64 x.size, .int .i64 x.b, .int .i64 x.a] 50; rw [World.size_alloc] at hcn; have hcn := Box.mk hcn; have hs9 := hP2.out.size)
          | (gi_at_builtin; refine wpListIn_append_own _ rfl _ _ 36 rfl (w.heap.size + 4) 50 i0 (.agg #[.int .i64 0, .int .i64 0, .int .i64 0, .int .i64 0]) 4 32 Tryz.underlying36 hi hz0 hz1 hz2 rfl (by decide) _ _ _ rfl (hown.out.alloc _) ⟨W1.heap.size + 1, 0, none⟩ 1 1 [.int .i64 x.k, .int .i64 x.size, .int .i64 x.b, .int .i64 x.a] rfl rfl hcn.out (by simp [Value.oneCell']) (by unfold maxLen; omega) (by omega) (by simp at hs9 ⊢; omega) ?_; intro v3 W3 hown3 hg3 _; obtain ⟨a3, c3, rfl⟩ := row_slice hown3; clear l0 l1; obtain ⟨l0, l1⟩ := cells1 (row_keep (hown.out.alloc _) hg3 (by omega) (blk_up hl.out)); have hg3 := Box.mk hg3; have hown3 := Box.mk hown3; clear q0 q1 r0 r1))
        have hx2 : Ext (W1.alloc (.cells #[.int .i64 x.k, .int .i64 x.size, .int .i64 x.b, .int .i64 x.a] 50)) _ := Ext.alloc (Below.refl _ _) (.cells #[.int .i64 x.k, .int .i64 x.size, .int .i64 x.b, .int .i64 x.a] 50)
        exact ⟨((KeepsOthers.ofExt hbx.out).trans (KeepsOthers.ofExt hx2)).trans ((KeepsOthers.ofRow (hown.out.alloc _) hg3.out).trans (KeepsOthers.setCell _ _ _)), acc ++ [x], n, h1.out,
          PS.push (hP2.out.grow hx2) (blk_up hl.out) (hown.out.alloc _) hg3.out hown3.out hfew2, InCell.push ((hC.out.grow hbx.out).grow hx2) (hown.out.alloc _) hg3.out _, hres.out⟩
  case done =>
    rintro D W hDl ⟨acc, n, h1, hP, hC, hr⟩ hD
    rw [rdS_nil] at hr
    obtain ⟨a, c, hl, hown⟩ := hP.l
    obtain ⟨l0, l1⟩ := cells1 hl
    obtain ⟨q0, q1⟩ := cells1 hP.a
    obtain ⟨r0, r1⟩ := cells1 hP.e
    have hP := Box.mk hP
    have hl := Box.mk hl
    have hown := Box.mk hown
    have hr := Box.mk hr
    have hD' := Box.mk hD
    clear hD hC
    gi_wp2
    have hD2 := (((KeepsOthers.setCell W ⟨w.heap.size, 0, none⟩ (.slice a acc.length c)).trans (KeepsOthers.setCell _ ⟨w.heap.size + 1, 0, none⟩ (.int .i64 0))).trans (KeepsOthers.setCell _ ⟨w.heap.size + 1 + 1, 0, none⟩ (.int .i64 0))).same D _ hD'.out rfl
    have hne0 : w.heap.size ≠ D := by omega
    have hne1 : w.heap.size + 1 ≠ D := by omega
    have hne2 : w.heap.size + 1 + 1 ≠ D := by omega
    have p0 : (((W.setCell ⟨w.heap.size, 0, none⟩ (.slice a acc.length c)).setCell ⟨w.heap.size + 1, 0, none⟩ (.int .i64 0)).setCell ⟨w.heap.size + 1 + 1, 0, none⟩ (.int .i64 0)).heap[w.heap.size]? = some (.cells #[.slice a acc.length c] 36 (0, 0)) := setO (setO (set1 hl.out _) (by omega) _) (by omega) _
    have p1 : (((W.setCell ⟨w.heap.size, 0, none⟩ (.slice a acc.length c)).setCell ⟨w.heap.size + 1, 0, none⟩ (.int .i64 0)).setCell ⟨w.heap.size + 1 + 1, 0, none⟩ (.int .i64 0)).heap[w.heap.size + 1]? = some (.cells #[.int .i64 0] 3 (0, 0)) := setO (set1 (setO hP.out.a (by omega) _) _) (by omega) _
    have p2 : (((W.setCell ⟨w.heap.size, 0, none⟩ (.slice a acc.length c)).setCell ⟨w.heap.size + 1, 0, none⟩ (.int .i64 0)).setCell ⟨w.heap.size + 1 + 1, 0, none⟩ (.int .i64 0)).heap[w.heap.size + 1 + 1]? = some (.cells #[.int .i64 0] 26 (0, 0)) := set1 (setO (setO hP.out.e (by omega) _) (by omega) _) _
    refine ⟨by simp, .inl ⟨_, _, rfl, run_takeDeferred hD2, ?_⟩⟩
    have k0 : (World.putObj _ D (.deferred none)).heap[w.heap.size]? = _ := (World.putObj_heap_other hne0).trans p0
    have k1 : (World.putObj _ D (.deferred none)).heap[w.heap.size + 1]? = _ := (World.putObj_heap_other hne1).trans p1
    have k2 : (World.putObj _ D (.deferred none)).heap[w.heap.size + 1 + 1]? = _ := (World.putObj_heap_other hne2).trans p2
    obtain ⟨x0, -⟩ := cells1 k0
    obtain ⟨x1', -⟩ := cells1 k1
    obtain ⟨x2, -⟩ := cells1 k2
    have ho := ownsRow_far (ownsRow_far (ownsRow_far hown.out (b := w.heap.size) (o := 0) (by omega) (.slice a acc.length c)) (b := w.heap.size + 1) (o := 0) (by omega) (.int .i64 0)) (b := w.heap.size + 1 + 1) (o := 0) (by omega) (.int .i64 0)
    have hex := ((Below.setCell hP.out.ext (p := ⟨w.heap.size, 0, none⟩) (Nat.le_refl _) (.slice a acc.length c)).setCell (p := ⟨w.heap.size + 1, 0, none⟩) (by show _ ≤ w.heap.size + 1; omega) (.int .i64 0)).setCell (p := ⟨w.heap.size + 1 + 1, 0, none⟩) (by show _ ≤ w.heap.size + 1 + 1; omega) (.int .i64 0)
    have hrr : ∀ r, some D = some r → w.heap.size ≤ r ∧ ∃ o : Obj, (((W.setCell ⟨w.heap.size, 0, none⟩ (.slice a acc.length c)).setCell ⟨w.heap.size + 1, 0, none⟩ (.int .i64 0)).setCell ⟨w.heap.size + 1 + 1, 0, none⟩ (.int .i64 0)).heap[r]? = some o ∧ o.isCells = false := fun r e => by cases e; exact ⟨by omega, _, hD2, rfl⟩
    refine ⟨.tuple #[.slice a acc.length c, .int .i64 0, .int .i64 0], ?_, ?_⟩
    · simp [results, Tryz.f12, go_sem, x0, x1', x2]
    · rw [hr.out]
      refine ⟨a, c, rfl, ?_, own_ext hex (Nat.le_refl _) (grownBy_putObj' _ _ _) hrr⟩
      have h9 := own_row (grownBy_putObj' _ D (.deferred none)) hrr ho
      refine ⟨h9.1, ?_⟩
      rcases h9.2 with h9 | ⟨g, cap, cur, e1, e2, e3⟩
      · exact Or.inl h9
      · exact Or.inr ⟨g, cap, cur, e1, by omega, e3⟩
  case stop =>
    rintro D W hDl ⟨n, hP, hr⟩ hD
    have h9 : PF w n (W.putObj D (.deferred none)) := PF.own (B := W0.heap.size) (by omega) _ _ (some D) hP (grownBy_putObj' _ _ _) (fun r e => by cases e; exact ⟨hDl, _, hD, rfl⟩)
    obtain ⟨l0, -⟩ := cells1 h9.l
    obtain ⟨q0, -⟩ := cells1 h9.a
    obtain ⟨r0, -⟩ := cells1 h9.e
    gi_wp2
    refine ⟨by simp, .inl ⟨_, _, rfl, run_takeDeferred hD, ?_⟩⟩
    refine ⟨.tuple #[.slice none 0 0, .int .i64 n, .int .i64 6], ?_, ?_⟩
    · simp [results, Tryz.f12, go_sem, l0, q0, r0]
    · rw [hr]
      exact ⟨none, 0, rfl, World.ownsRow_nil _ _ _ _, h9.ext⟩
end Go.Proofs.YtcofejbkbcdopaaGreatDoor
