import Derived.Test.YtbnmnkmjokcmfaaDoorS13
import Derived.Lib.LaidU8
import Derived.OpenShut
import Derived.Deep.Fields
/- An Act that comes in; the walk of SeasonNone. -/
namespace Go.Proofs.YtbnmnkmjokcmfaaDoor
open Go.RowKit Go.Lib
theorem open_fields {P : Program} {H : Type} {enc : TypeId × Value → H} {t : TypeId} {fs : Array Field} {base : Nat} {r : Reach} {b0 : Nat} {W : World} {v : Value} {d : DataW H} {p : List MemPlace} {sp : Nat → Bool} {held : Bool}
    (hs : P.underlying t = some (.struct fs)) (ho : Value.okWide P W r b0 t v) (h : DataW.Trod enc P W base sp held t v d p) :
    ∃ cs : Array Value, v = .agg cs ∧ cs.size = P.cellsOf t ∧ ∀ (i : Nat) (f : Field), fs[i]? = some f → ∃ y n, DataW.trod enc P W base sp held n f.type ((cs.toList.drop f.offset).take (P.cellsOf f.type)) = some y := by
  obtain ⟨cs, rfl, hsz⟩ := WideShapes.okWide_struct hs ho
  obtain ⟨fuel, hf⟩ := h
  obtain ⟨xs, n, _, _, hl, hxl, hall⟩ := DataW.trod_struct hs hf
  refine ⟨cs, rfl, hsz, fun i f hi => ?_⟩
  have h1 := hall i f hi
  have hif : i < fs.size := (Array.getElem?_eq_some_iff.1 hi).1
  obtain ⟨b, hb⟩ : ∃ b, xs[i]? = some b := ⟨xs[i]'(by omega), List.getElem?_eq_getElem (by omega)⟩
  rw [hb] at h1
  exact ⟨b, n, h1⟩
theorem at_of_take {α : Type} {l : List α} {o : Nat} {a : α} (h : (l.drop o).take 1 = [a]) : l[o]? = some a := by
  have := congrArg (·[0]?) h
  simpa [List.getElem?_take, List.getElem?_drop] using this
def ActArg (W : World) (v : Value) : Prop :=
  ∃ (c0 : Value) (n : Int) (c2 : Value) (now : Nat) (c4 c5 c6 c7 : Value), v = .agg #[c0, .int .i64 n, c2, .int .u64 now, c4, c5, c6, c7]
theorem open_act {P : Program} {H : Type} {enc : TypeId × Value → H} {t : TypeId} {f0 f1 f2 f3 f4 : Field} {base : Nat} {W : World} {v : Value} {d : DataW H} {p : List MemPlace}
    (hs : P.underlying t = some (.struct #[f0, f1, f2, f3, f4])) (hC : P.cellsOf t = 8) (o1 : f1.offset = 1) (k1 : P.cellsOf f1.type = 1) (o3 : f3.offset = 3) (k3 : P.cellsOf f3.type = 1)
    (h1 : P.underlying f1.type = some (.int .i64)) (h3 : P.underlying f3.type = some (.int .u64))
    (ho : Value.okWide P W .any base t v) (h : DataW.Trod enc P W 0 (fun _ => true) true t v d p) : ActArg W v := by
  obtain ⟨cs, rfl, hsz, hall⟩ := open_fields hs ho h
  obtain ⟨y1, n1, t1⟩ := hall 1 f1 rfl
  obtain ⟨y3, n3, t3⟩ := hall 3 f3 rfl
  rw [o1, k1] at t1
  rw [o3, k3] at t3
  obtain ⟨n, e1, _, w1⟩ := DataW.trod_int h1 t1
  obtain ⟨z, e3, _, w3⟩ := DataW.trod_int h3 t3
  have g1 := at_of_take e1
  have g3 := at_of_take e3
  rw [hC] at hsz
  obtain ⟨l⟩ := cs
  have hl : l.length = 8 := by simpa using hsz
  match l, hl with
  | [c0, c1, c2, c3, c4, c5, c6, c7], _ =>
    simp at g1 g3
    subst g1 g3
    have hz : 0 ≤ z := (wf_u64 w3).1
    obtain ⟨m, rfl⟩ : ∃ m : Nat, z = m := ⟨z.toNat, by omega⟩
    exact ⟨c0, n, c2, m, c4, c5, c6, c7, rfl⟩

set_option maxRecDepth 100000 in
set_option maxHeartbeats 8000000 in
theorem lawSeasonNone_walk (v : Value) (W : World) (hv : ActArg W v) (ht : EnvS W) :
    Calls Tryd.prog 7 #[v] W fun e W' => e = .returned (.bool true) ∧ Below W.heap.size W W' := by
  have ck : Box (∀ w, Ext W w → Calls Tryd.prog 8 #[] w fun e w' => e = .returned (.bool true) ∧ Ext w w') := ⟨fun w h => known_any w (ht.ext h)⟩
  obtain ⟨c0, n, c2, now, c4, c5, c6, c7, rfl⟩ := hv
  have cN : Box (∀ w : World, Calls Tryd.prog 22 #[.int .i64 1] w fun e w' => ∃ C, e = .returned (.tuple #[.pointer (some ⟨C, 0, none⟩), .int .i64 0]) ∧ w.heap.size ≤ C ∧ Ctr w' C 1 z0 ∧ Ext w w') := ⟨fun w => (cnew_ok 1 w (by decide) (by decide)).mono fun e w' ⟨h1, h2, h3⟩ => ⟨_, h1, Nat.le_refl _, h2, h3⟩⟩
  have hx : Ext W (W.alloc (.cells #[c0, .int .i64 n, c2, .int .u64 now, c4, c5, c6, c7] 52)) := Ext.alloc (Below.refl _ _) _
  have hB := newblk W (.cells #[c0, .int .i64 n, c2, .int .u64 now, c4, c5, c6, c7] 52)
  clear ht
  go_enter Tryd.func7, Tryd.ntmps7
  go_upto_region 3 with (first
    | (go_at_call 22; (with_reducible refine (cN.out _).mono ?_); rintro e w1 ⟨C, rfl, hC0, hC, hb⟩; have hB := Ext.blk hb hB; have hx := Ext.trans' hx hb))
  obtain ⟨wz, hwz⟩ : ∃ w, w = w1.alloc (.cells #[.int .u64 0, .int .i64 0, .int .i64 0, .int .i64 0, .int .i64 0] 62) := ⟨_, rfl⟩
  obtain ⟨wk, hwk⟩ : ∃ w, w = wz.alloc (.cells #[.pointer none, .pointer (some ⟨w1.heap.size, 0, none⟩)] 47) := ⟨_, rfl⟩
  rw [← hwz, ← hwk]
  have x1 : Ext w1 wz := by rw [hwz]; exact Ext.alloc (Below.refl _ _) _
  have x2 : Ext wz wk := by rw [hwk]; exact Ext.alloc (Below.refl _ _) _
  have hxk : Ext W wk := Ext.trans' hx (Ext.trans' x1 x2)
  have zs : wz.heap.size = w1.heap.size + 1 := by rw [hwz]; simp
  have b1 : wz.heap[w1.heap.size]? = some (.cells #[.int .u64 0, .int .i64 0, .int .i64 0, .int .i64 0, .int .i64 0] 62 (0, 0)) := by rw [hwz]; exact newblk _ _
  have b2 : wk.heap[w1.heap.size + 1]? = some (.cells #[.pointer none, .pointer (some ⟨w1.heap.size, 0, none⟩)] 47 (0, 0)) := by rw [hwk, ← zs]; exact newblk _ _
  have hz0 : wk.cell? ⟨w1.heap.size, 0, none⟩ = some (.int .u64 0) := by rw [Lib.cell_of_heap (Ext.blk x2 b1)]; rfl
  have G0 : wk.cell? ⟨w1.heap.size + 1, 0, none⟩ = some (.pointer none) := by rw [Lib.cell_of_heap b2]; rfl
  have G1 : wk.cell? ⟨w1.heap.size + 1, 1, none⟩ = some (.pointer (some ⟨w1.heap.size, 0, none⟩)) := by rw [Lib.cell_of_heap b2]; rfl
  have HB := Ext.blk (Ext.trans' x1 x2) hB
  have HC := hC.ext (Ext.trans' x1 x2)
  have N1 : NoneC (.pointer (some ⟨w1.heap.size, 0, none⟩)) wk := NoneC.zero wk w1.heap.size hz0
  have N0 : NoneC (.pointer none) wk := NoneC.nil wk
  have cU0 : Box (∀ w, Ext wk w → _) := ⟨fun w h => nUse (.pointer none) now n w (N0.ext h)⟩
  have cB0 : Box (∀ w, Ext wk w → _) := ⟨fun w h => nBest (.pointer none) w (N0.ext h)⟩
  have cH0 : Box (∀ w, Ext wk w → _) := ⟨fun w h => nShare (.pointer none) now w (N0.ext h)⟩
  have cY0 : Box (∀ w, Ext wk w → _) := ⟨fun w h => nCopy (.pointer none) w (N0.ext h)⟩
  have cC0 : Box (∀ w, Ext wk w → _) := ⟨fun w h => nCounts (.pointer none) w (N0.ext h)⟩
  have cW0 : Box (∀ w, Ext wk w → _) := ⟨fun w h => nWave (.pointer none) w (N0.ext h)⟩
  have cM0 : Box (∀ w, Ext wk w → _) := ⟨fun w h => nMerge (.pointer none) (.pointer (some ⟨C, 0, none⟩)) w (N0.ext h)⟩
  have cL0 : Box (∀ w, Ext wk w → _) := ⟨fun w h => nMerge2 (.pointer none) C 1 z0 w (HC.ext h) (N0.ext h)⟩
  have cS0 : Box (∀ w, Ext wk w → _) := ⟨fun w h => nSeason (.pointer none) w (N0.ext h)⟩
  have cU1 : Box (∀ w, Ext wk w → _) := ⟨fun w h => nUse (.pointer (some ⟨w1.heap.size, 0, none⟩)) now n w (N1.ext h)⟩
  have cB1 : Box (∀ w, Ext wk w → _) := ⟨fun w h => nBest (.pointer (some ⟨w1.heap.size, 0, none⟩)) w (N1.ext h)⟩
  have cH1 : Box (∀ w, Ext wk w → _) := ⟨fun w h => nShare (.pointer (some ⟨w1.heap.size, 0, none⟩)) now w (N1.ext h)⟩
  have cY1 : Box (∀ w, Ext wk w → _) := ⟨fun w h => nCopy (.pointer (some ⟨w1.heap.size, 0, none⟩)) w (N1.ext h)⟩
  have cC1 : Box (∀ w, Ext wk w → _) := ⟨fun w h => nCounts (.pointer (some ⟨w1.heap.size, 0, none⟩)) w (N1.ext h)⟩
  have cW1 : Box (∀ w, Ext wk w → _) := ⟨fun w h => nWave (.pointer (some ⟨w1.heap.size, 0, none⟩)) w (N1.ext h)⟩
  have cM1 : Box (∀ w, Ext wk w → _) := ⟨fun w h => nMerge (.pointer (some ⟨w1.heap.size, 0, none⟩)) (.pointer (some ⟨C, 0, none⟩)) w (N1.ext h)⟩
  have cL1 : Box (∀ w, Ext wk w → _) := ⟨fun w h => nMerge2 (.pointer (some ⟨w1.heap.size, 0, none⟩)) C 1 z0 w (HC.ext h) (N1.ext h)⟩
  have cS1 : Box (∀ w, Ext wk w → _) := ⟨fun w h => nSeason (.pointer (some ⟨w1.heap.size, 0, none⟩)) w (N1.ext h)⟩
  have HX := Box.mk hxk
  have hk : Ext wk wk := Below.refl _ _
  have q1 : ∀ w : World, (Op.equalIn 10000 29 (.agg #[.int .i64 0, .int .i64 0, .int .i64 0, .int .i64 0, .int .i64 0, .int .i64 0, .int .i64 0, .int .i64 0]) (.agg #[.int .i64 0, .int .i64 0, .int .i64 0, .int .i64 0, .int .i64 0, .int .i64 0, .int .i64 0, .int .i64 0])).run Tryd.prog w = .ok true w := fun w => eqA z0 z0 w
  have q2 : ∀ w : World, (Op.equalIn 10000 50 (.agg #[.int .i64 0, .int .i64 0, .int .i64 0, .int .i64 0]) (.agg #[.int .i64 0, .int .i64 0, .int .i64 0, .int .i64 0])).run Tryd.prog w = .ok true w := fun w => eqI 0 0 0 0 w
  have ge1 := g4_type.2
  have ge2 := g_struct.2.2
  have ge3 := i4_type.2
  clear hx hB hb hwz hwk x1 x2 b1 b2 hz0 N0 N1 hxk zs hC HC
  have hac : ∀ w, Ext wk w → w.cell? ⟨W.heap.size, 1, none⟩ = some (.int .i64 n) ∧ w.cell? ⟨W.heap.size, 3, none⟩ = some (.int .u64 now) ∧ w.cell? ⟨w1.heap.size + 1, 0, none⟩ = some (.pointer none) ∧ w.cell? ⟨w1.heap.size + 1, 1, none⟩ = some (.pointer (some ⟨w1.heap.size, 0, none⟩)) := fun w h => ⟨by rw [Lib.cell_of_heap (Ext.blk h HB)]; rfl, by rw [Lib.cell_of_heap (Ext.blk h HB)]; rfl, Ext.cell h G0, Ext.cell h G1⟩
  have HA := Box.mk hac
  obtain ⟨m1, m3, g0, g1⟩ := hac _ hk
  clear hac HB G0 G1
  have ck : Box (∀ w, Ext wk w → Calls Tryd.prog 8 #[] w fun e w' => e = .returned (.bool true) ∧ Ext w w') := ⟨fun w h => ck.out w (Ext.trans' HX.out h)⟩
  refine wp_loop_rounds 3 ?_
  repeat any_goals (rw [rounds_succ]; go_wp2_with (first
    | (go_at_call 31; (with_reducible refine (cB0.out _ hk).mono ?_); rintro e w2 ⟨rfl, hb⟩; have hk := Ext.trans' hk hb; (try clear m1 m3 g0 g1); obtain ⟨m1, m3, g0, g1⟩ := HA.out _ hk; (try (have hV := Ext.blk hb hV; (try clear a0 a1 a2 a3 a4 a5 a6 a7); obtain ⟨⟨a0, a1, a2, a3, a4, a5, a6, a7⟩, _⟩ := cx8 hV)))
    | (go_at_call 32; (with_reducible refine (cH0.out _ hk).mono ?_); rintro e w2 ⟨rfl, hb⟩; have hk := Ext.trans' hk hb; (try clear m1 m3 g0 g1); obtain ⟨m1, m3, g0, g1⟩ := HA.out _ hk; (try (have hV := Ext.blk hb hV; (try clear a0 a1 a2 a3 a4 a5 a6 a7); obtain ⟨⟨a0, a1, a2, a3, a4, a5, a6, a7⟩, _⟩ := cx8 hV)))
    | (go_at_call 24; (with_reducible refine (cU0.out _ hk).mono ?_); rintro e w2 ⟨rfl, hb⟩; have hk := Ext.trans' hk hb; (try clear m1 m3 g0 g1); obtain ⟨m1, m3, g0, g1⟩ := HA.out _ hk; (try (have hV := Ext.blk hb hV; (try clear a0 a1 a2 a3 a4 a5 a6 a7); obtain ⟨⟨a0, a1, a2, a3, a4, a5, a6, a7⟩, _⟩ := cx8 hV)))
    | (go_at_call 26; (with_reducible refine (cM0.out _ hk).mono ?_); rintro e w2 ⟨rfl, hb⟩; have hk := Ext.trans' hk hb; (try clear m1 m3 g0 g1); obtain ⟨m1, m3, g0, g1⟩ := HA.out _ hk; (try (have hV := Ext.blk hb hV; (try clear a0 a1 a2 a3 a4 a5 a6 a7); obtain ⟨⟨a0, a1, a2, a3, a4, a5, a6, a7⟩, _⟩ := cx8 hV)))
    | (go_at_call 26; (with_reducible refine (cL0.out _ hk).mono ?_); rintro e w2 ⟨rfl, hb⟩; have hk := Ext.trans' hk hb; (try clear m1 m3 g0 g1); obtain ⟨m1, m3, g0, g1⟩ := HA.out _ hk; (try (have hV := Ext.blk hb hV; (try clear a0 a1 a2 a3 a4 a5 a6 a7); obtain ⟨⟨a0, a1, a2, a3, a4, a5, a6, a7⟩, _⟩ := cx8 hV)))
    | (go_at_call 27; (with_reducible refine (cC0.out _ hk).mono ?_); rintro e w2 ⟨rfl, hb⟩; have hk := Ext.trans' hk hb; (try clear m1 m3 g0 g1); obtain ⟨m1, m3, g0, g1⟩ := HA.out _ hk; (try (have hV := Ext.blk hb hV; (try clear a0 a1 a2 a3 a4 a5 a6 a7); obtain ⟨⟨a0, a1, a2, a3, a4, a5, a6, a7⟩, _⟩ := cx8 hV)))
    | (go_at_call 33; (with_reducible refine (cS0.out _ hk).mono ?_); rintro e w2 ⟨rfl, hb⟩; have hk := Ext.trans' hk hb; (try clear m1 m3 g0 g1); obtain ⟨m1, m3, g0, g1⟩ := HA.out _ hk; (try (have hV := Ext.blk hb hV; (try clear a0 a1 a2 a3 a4 a5 a6 a7); obtain ⟨⟨a0, a1, a2, a3, a4, a5, a6, a7⟩, _⟩ := cx8 hV)))
    | (go_at_call 28; (with_reducible refine (cY0.out _ hk).mono ?_); rintro e w2 ⟨rfl, hb⟩; have hk := Ext.trans' hk hb; (try clear m1 m3 g0 g1); obtain ⟨m1, m3, g0, g1⟩ := HA.out _ hk; (try (have hV := Ext.blk hb hV; (try clear a0 a1 a2 a3 a4 a5 a6 a7); obtain ⟨⟨a0, a1, a2, a3, a4, a5, a6, a7⟩, _⟩ := cx8 hV)))
    | (go_at_call 30; (with_reducible refine (cW0.out _ hk).mono ?_); rintro e w2 ⟨rfl, hb⟩; have hb := Ext.trans' hb (Ext.alloc (Below.refl _ _) (.cells #[.int .i64 0, .int .i64 0, .int .i64 0, .int .i64 0, .int .i64 0, .int .i64 0, .int .i64 0, .int .i64 0] 29)); have hk := Ext.trans' hk hb; (try clear m1 m3 g0 g1); obtain ⟨m1, m3, g0, g1⟩ := HA.out _ hk; have hV := newblk w2 (.cells #[.int .i64 0, .int .i64 0, .int .i64 0, .int .i64 0, .int .i64 0, .int .i64 0, .int .i64 0, .int .i64 0] 29); (try clear a0 a1 a2 a3 a4 a5 a6 a7); obtain ⟨⟨a0, a1, a2, a3, a4, a5, a6, a7⟩, _⟩ := cx8 hV)
    | (go_at_call 31; (with_reducible refine (cB1.out _ hk).mono ?_); rintro e w2 ⟨rfl, hb⟩; have hk := Ext.trans' hk hb; (try clear m1 m3 g0 g1); obtain ⟨m1, m3, g0, g1⟩ := HA.out _ hk; (try (have hV := Ext.blk hb hV; (try clear a0 a1 a2 a3 a4 a5 a6 a7); obtain ⟨⟨a0, a1, a2, a3, a4, a5, a6, a7⟩, _⟩ := cx8 hV)))
    | (go_at_call 32; (with_reducible refine (cH1.out _ hk).mono ?_); rintro e w2 ⟨rfl, hb⟩; have hk := Ext.trans' hk hb; (try clear m1 m3 g0 g1); obtain ⟨m1, m3, g0, g1⟩ := HA.out _ hk; (try (have hV := Ext.blk hb hV; (try clear a0 a1 a2 a3 a4 a5 a6 a7); obtain ⟨⟨a0, a1, a2, a3, a4, a5, a6, a7⟩, _⟩ := cx8 hV)))
    | (go_at_call 24; (with_reducible refine (cU1.out _ hk).mono ?_); rintro e w2 ⟨rfl, hb⟩; have hk := Ext.trans' hk hb; (try clear m1 m3 g0 g1); obtain ⟨m1, m3, g0, g1⟩ := HA.out _ hk; (try (have hV := Ext.blk hb hV; (try clear a0 a1 a2 a3 a4 a5 a6 a7); obtain ⟨⟨a0, a1, a2, a3, a4, a5, a6, a7⟩, _⟩ := cx8 hV)))
    | (go_at_call 26; (with_reducible refine (cM1.out _ hk).mono ?_); rintro e w2 ⟨rfl, hb⟩; have hk := Ext.trans' hk hb; (try clear m1 m3 g0 g1); obtain ⟨m1, m3, g0, g1⟩ := HA.out _ hk; (try (have hV := Ext.blk hb hV; (try clear a0 a1 a2 a3 a4 a5 a6 a7); obtain ⟨⟨a0, a1, a2, a3, a4, a5, a6, a7⟩, _⟩ := cx8 hV)))
    | (go_at_call 26; (with_reducible refine (cL1.out _ hk).mono ?_); rintro e w2 ⟨rfl, hb⟩; have hk := Ext.trans' hk hb; (try clear m1 m3 g0 g1); obtain ⟨m1, m3, g0, g1⟩ := HA.out _ hk; (try (have hV := Ext.blk hb hV; (try clear a0 a1 a2 a3 a4 a5 a6 a7); obtain ⟨⟨a0, a1, a2, a3, a4, a5, a6, a7⟩, _⟩ := cx8 hV)))
    | (go_at_call 27; (with_reducible refine (cC1.out _ hk).mono ?_); rintro e w2 ⟨rfl, hb⟩; have hk := Ext.trans' hk hb; (try clear m1 m3 g0 g1); obtain ⟨m1, m3, g0, g1⟩ := HA.out _ hk; (try (have hV := Ext.blk hb hV; (try clear a0 a1 a2 a3 a4 a5 a6 a7); obtain ⟨⟨a0, a1, a2, a3, a4, a5, a6, a7⟩, _⟩ := cx8 hV)))
    | (go_at_call 33; (with_reducible refine (cS1.out _ hk).mono ?_); rintro e w2 ⟨rfl, hb⟩; have hk := Ext.trans' hk hb; (try clear m1 m3 g0 g1); obtain ⟨m1, m3, g0, g1⟩ := HA.out _ hk; (try (have hV := Ext.blk hb hV; (try clear a0 a1 a2 a3 a4 a5 a6 a7); obtain ⟨⟨a0, a1, a2, a3, a4, a5, a6, a7⟩, _⟩ := cx8 hV)))
    | (go_at_call 28; (with_reducible refine (cY1.out _ hk).mono ?_); rintro e w2 ⟨rfl, hb⟩; have hk := Ext.trans' hk hb; (try clear m1 m3 g0 g1); obtain ⟨m1, m3, g0, g1⟩ := HA.out _ hk; (try (have hV := Ext.blk hb hV; (try clear a0 a1 a2 a3 a4 a5 a6 a7); obtain ⟨⟨a0, a1, a2, a3, a4, a5, a6, a7⟩, _⟩ := cx8 hV)))
    | (go_at_call 30; (with_reducible refine (cW1.out _ hk).mono ?_); rintro e w2 ⟨rfl, hb⟩; have hb := Ext.trans' hb (Ext.alloc (Below.refl _ _) (.cells #[.int .i64 0, .int .i64 0, .int .i64 0, .int .i64 0, .int .i64 0, .int .i64 0, .int .i64 0, .int .i64 0] 29)); have hk := Ext.trans' hk hb; (try clear m1 m3 g0 g1); obtain ⟨m1, m3, g0, g1⟩ := HA.out _ hk; have hV := newblk w2 (.cells #[.int .i64 0, .int .i64 0, .int .i64 0, .int .i64 0, .int .i64 0, .int .i64 0, .int .i64 0, .int .i64 0] 29); (try clear a0 a1 a2 a3 a4 a5 a6 a7); obtain ⟨⟨a0, a1, a2, a3, a4, a5, a6, a7⟩, _⟩ := cx8 hV)
    | (go_at_call 8; (with_reducible refine (ck.out _ hk).mono ?_); rintro e w2 ⟨rfl, hb⟩; have hk := Ext.trans' hk hb)))
  go_ret
  exact ⟨rfl, Ext.trans' HX.out hk⟩
end Go.Proofs.YtbnmnkmjokcmfaaDoor
