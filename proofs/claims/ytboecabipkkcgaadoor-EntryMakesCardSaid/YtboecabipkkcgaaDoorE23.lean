import Derived.Test.YtboecabipkkcgaaDoorE18
import Derived.Maps.AppendAt
import Derived.Deep.Cut
import Derived.Laws.Rows
import Derived.Laws.MakeOwn
/- The law's walk: EntryMakes. -/
namespace Go.Proofs.YtboecabipkkcgaaDoor
open Go.RowKit

theorem copy_app (w : World) (a : Option Addr) (c : Nat) (l : List UInt8) (h : By w (.slice a l.length c) l) (hl : l.length ≤ 100000) :
    ∃ (a1 : Option Addr) (c1 : Nat) (w' : World), (Builtin.append_ #[25, 25] 25 #[.slice none 0 0, .slice a l.length c]).run Tryd.prog w = .ok (.slice a1 l.length c1) w' ∧ OwnB w.heap.size w' (.slice a1 l.length c1) l ∧ Ext w w' := by
  obtain ⟨i0, hi, hz0, hz1, hz2⟩ := info_parts infoByte
  obtain ⟨a', c', he, _, _, _, hb⟩ := h
  simp only [Value.slice.injEq] at he
  obtain ⟨rfl, _, rfl⟩ := he
  rcases Nat.eq_zero_or_pos l.length with h0 | h0
  · have : l = [] := List.eq_nil_of_length_eq_zero h0
    subst this
    cases a with
    | none => exact ⟨none, 0, w, by simp [Builtin.append_, run_underlying Tryd.underlying25, sizeOf, typeInfo, hi, Builtin.lenOf, Builtin.firstCells], World.ownsRow_nil _ _ _ _, Below.refl _ _⟩
    | some ad =>
      obtain ⟨v', w', hrun, h2, h3, _, _⟩ := run_append_own_at (P := Tryd.prog) w w.heap.size 25 25 5 i0 (.int .u8 0) 1 1 Tryd.underlying25 hi hz0 hz1 hz2 rfl (by decide) (.slice none 0 0) 0 [] (World.ownsRow_nil _ _ _ _) ad 0 c [] rfl (fun j u hu => by simp at hu) (by simp) (by decide) (by decide) (Nat.le_refl _)
      have ho : OwnB w.heap.size w' v' [] := h2
      obtain ⟨a1, c1, rfl⟩ := ho.shape
      exact ⟨a1, c1, w', hrun, ho, Below.grown (Below.refl _ _) h3 (Nat.le_refl _) (fun j hj => by cases hj)⟩
  · obtain ⟨b, o, rfl, hcell⟩ := hb h0
    obtain ⟨v', w', hrun, h2, h3, _, _⟩ := run_append_own_at (P := Tryd.prog) w w.heap.size 25 25 5 i0 (.int .u8 0) 1 1 Tryd.underlying25 hi hz0 hz1 hz2 rfl (by decide) (.slice none 0 0) 0 [] (World.ownsRow_nil _ _ _ _) ⟨b, o, none⟩ l.length c ((nums l).map (Value.int .u8)) (by simp [nums]) (fun j u hu => by
        have hj : j < l.length := by have := (List.getElem?_eq_some_iff.1 hu).1; simpa [nums] using this
        rw [Go.WideShapes.add_plain, hcell j hj, nums_getD l j hj, ← hu]
        simp [nums, hj]) (by intro u hu; simp only [List.mem_map] at hu; obtain ⟨z, _, rfl⟩ := hu; rfl) (by unfold maxLen; omega) (by omega) (Nat.le_refl _)
    have ho : OwnB w.heap.size w' v' l := by
      have h2' := h2
      rw [Nat.zero_add] at h2'
      exact h2'
    obtain ⟨a1, c1, rfl⟩ := ho.shape
    exact ⟨a1, c1, w', hrun, ho, Below.grown (Below.refl _ _) h3 (Nat.le_refl _) (fun j hj => by cases hj)⟩


theorem wpList_append_run {P : Program} {w : World} {ops : Array Oper} {rest : List Oper} {o : Oper} {a : Act} {Q : Exit → Act → World → Prop} (hgd : o.guard = none) (s x : Operand) (t : TypeId)
    (ho : o.op = .call { callee := .builtin .append, args := #[s, x], argTypes := #[t, t] }) (v u v' : Value) (w' : World) (hs : a.eval s = v) (hx : a.eval x = u)
    (hrun : (Builtin.append_ #[t, t] o.type #[v, u]).run P w = .ok v' w') (h : wpList P ops Q rest (a.put o.dst v') w') : wpList P ops Q (o :: rest) a w := by
  refine wpList_plain hgd fun K hK' => ?_
  unfold Oper.wp execOp
  simp only [ho, resolve, invoke, builtin, Sem.run_bind, Sem.run_pure, Result.andThen_ok, List.map_toArray, List.map_cons, List.map_nil, hs, hx, hrun]
  exact hK' _ _ h
theorem set_blk1 {w : World} {B : Nat} {c0 c1 c2 c3 : Value} {t : TypeId} (h : w.heap[B]? = some (.cells #[c0, c1, c2, c3] t (0, 0))) (v : Value) : (w.setCell ⟨B, 1, none⟩ v).heap[B]? = some (.cells #[c0, v, c2, c3] t (0, 0)) :=
  heap_setCell_same w B 1 _ _ v h
theorem OwnB.grownO {C : Nat} {w w' : World} {v : Value} {l : List UInt8} {row : Option Nat} (h : OwnB C w v l) (hg : w.grownBy w' row) (hr : ∀ j, row = some j → j < C) : OwnB C w' v l := by
  refine ⟨h.1, ?_⟩
  rcases h.2 with h2 | ⟨g, cap, cur, hv, hb1, hgh, r⟩
  · exact Or.inl h2
  · exact Or.inr ⟨g, cap, cur, hv, hb1, (hg.block g (blk_lt hgh) (fun e => by have := hr g e.symm; omega)).trans hgh, r⟩
theorem made_nums (n : Nat) : (madeCells (Value.int .u8 0).cells (n * 1)).toList = (nums (List.replicate n (0 : UInt8))).map (Value.int .u8) := by
  apply List.ext_getElem?
  intro i
  by_cases h : i < n
  · simp [madeCells, nums, h, Value.cells, Nat.mod_one]
  · simp [madeCells, nums, h, Value.cells]
theorem blk_lt_alloc {w : World} {o o' : Obj} {B : Nat} (h : (w.alloc o).heap[B]? = some o') : B < w.heap.size + 1 := by
  have := blk_lt h
  rwa [show (w.alloc o).heap.size = w.heap.size + 1 by simp] at this
theorem inc_u8 (x : UInt8) : ((x.toNat : Int) + 1) % 256 = ((x + 1).toNat : Int) := by
  rw [UInt8.toNat_add]; simp

set_option maxRecDepth 100000 in
set_option maxHeartbeats 4000000 in
theorem makes_big (k : ByteArray) (a : Option Addr) (m c d b : Nat) (z : Int) (W : World) (hk : k.size ≤ 9223372036854775807) (hm : m ≤ 9223372036854775807) (hd : d < 18446744073709551616) (hb : b < 18446744073709551616) (ht : Env W) (hn : sm k.size m = false) :
    Calls Tryd.prog 6 #[.agg #[.string k, .slice a m c, .int .u64 d, .int .u64 b], .int .i64 z] W fun e W' => e = .returned (.bool true) ∧ Below W.heap.size W W' := by
  have ck : Box (∀ w, Ext W w → Calls Tryd.prog 9 #[] w fun e w' => e = .returned (.bool true) ∧ Ext w w') := ⟨fun w h => known_any w (ht.ext h)⟩
  have hx : Ext W ((W.alloc (.cells #[.string k, .slice a m c, .int .u64 d, .int .u64 b] 33)).alloc (.cells #[.string k, .slice a m c, .int .u64 d, .int .u64 b] 33)) := Ext.alloc (Ext.alloc (Below.refl _ _) _) _
  have hB : ((W.alloc (.cells #[.string k, .slice a m c, .int .u64 d, .int .u64 b] 33)).alloc (.cells #[.string k, .slice a m c, .int .u64 d, .int .u64 b] 33)).heap[W.heap.size]? = some (.cells #[.string k, .slice a m c, .int .u64 d, .int .u64 b] 33 (0, 0)) := Ext.blk (Ext.alloc (Below.refl _ _) _) (newblk W _)
  have cf : Box (Calls Tryd.prog 14 #[.slice (some ⟨W.heap.size + 1, 0, none⟩) 1 1] ((W.alloc (.cells #[.string k, .slice a m c, .int .u64 d, .int .u64 b] 33)).alloc (.cells #[.string k, .slice a m c, .int .u64 d, .int .u64 b] 33)) fun e w' => e = .returned (.bool (sm k.size m)) ∧ Ext ((W.alloc (.cells #[.string k, .slice a m c, .int .u64 d, .int .u64 b] 33)).alloc (.cells #[.string k, .slice a m c, .int .u64 d, .int .u64 b] 33)) w') := ⟨few1_any k a m c d b _ (W.heap.size + 1) hk hm (newblk2 W _ _)⟩
  rw [hn] at cf
  clear ht hn hk hm hd hb
  go_enter Tryd.func6, Tryd.ntmps6
  go_wp2_with (first
    | (go_at_call 14; (with_reducible refine (cf.out).mono ?_); rintro e w1 ⟨rfl, hb⟩; have hx := Ext.trans' hx hb; have hB := Ext.blk hb hB; obtain ⟨m0, m1, m2, m3, _⟩ := blk4 hB)
    | (go_at_call 9; (with_reducible refine (ck.out _ hx).mono ?_); rintro e w1 ⟨rfl, hb⟩; have hx := Ext.trans' hx hb; have hB := Ext.blk hb hB; obtain ⟨m0, m1, m2, m3, _⟩ := blk4 hB))
  go_ret
  exact ⟨rfl, hx⟩

set_option maxRecDepth 100000 in
set_option maxHeartbeats 8000000 in
theorem makes_yesB (k : ByteArray) (a : Option Addr) (c d b : Nat) (l : List UInt8) (z : Int) (W : World) (hk : k.size ≤ 9223372036854775807) (hm : l.length ≤ 9223372036854775807) (hd : d < 18446744073709551616) (hb : b < 18446744073709551616) (ht : Env W) (hby0 : By W (.slice a l.length c) l) (hks : k.size ≤ 600) (hs : l.length ≤ 600) (hn : sm k.size l.length = true) (hz : ¬ (65530 ≤ z ∧ z ≤ 65540)) (hc : chk k.size l.length b = 0) :
    Calls Tryd.prog 6 #[.agg #[.string k, .slice a l.length c, .int .u64 d, .int .u64 b], .int .i64 z] W fun e W' => e = .returned (.bool true) ∧ Below W.heap.size W W' := by
  have ck : Box (∀ w, Ext W w → Calls Tryd.prog 9 #[] w fun e w' => e = .returned (.bool true) ∧ Ext w w') := ⟨fun w h => known_any w (ht.ext h)⟩
  have hx : Ext W ((W.alloc (.cells #[.string k, .slice a l.length c, .int .u64 d, .int .u64 b] 33)).alloc (.cells #[.string k, .slice a l.length c, .int .u64 d, .int .u64 b] 33)) := Ext.alloc (Ext.alloc (Below.refl _ _) _) _
  have hB : ((W.alloc (.cells #[.string k, .slice a l.length c, .int .u64 d, .int .u64 b] 33)).alloc (.cells #[.string k, .slice a l.length c, .int .u64 d, .int .u64 b] 33)).heap[W.heap.size]? = some (.cells #[.string k, .slice a l.length c, .int .u64 d, .int .u64 b] 33 (0, 0)) := Ext.blk (Ext.alloc (Below.refl _ _) _) (newblk W _)
  have cf : Box (Calls Tryd.prog 14 #[.slice (some ⟨W.heap.size + 1, 0, none⟩) 1 1] ((W.alloc (.cells #[.string k, .slice a l.length c, .int .u64 d, .int .u64 b] 33)).alloc (.cells #[.string k, .slice a l.length c, .int .u64 d, .int .u64 b] 33)) fun e w' => e = .returned (.bool (sm k.size l.length)) ∧ Ext ((W.alloc (.cells #[.string k, .slice a l.length c, .int .u64 d, .int .u64 b] 33)).alloc (.cells #[.string k, .slice a l.length c, .int .u64 d, .int .u64 b] 33)) w') := ⟨few1_any k a l.length c d b _ (W.heap.size + 1) hk hm (newblk2 W _ _)⟩
  rw [hn] at cf
  have hll : l.length ≤ 100000 := by omega
  clear hn
  go_enter Tryd.func6, Tryd.ntmps6
  rcases (by omega : z < 65530 ∨ 65540 < z) with hzz | hzz
  all_goals
    go_upto_region 5 with (first
      | (go_at_call 14; (with_reducible refine (cf.out).mono ?_); rintro e W1 ⟨rfl, hb9⟩; have hx := Ext.trans' hx hb9; have hB := Ext.blk hb9 hB))
    have hby := hby0.ext hx
    clear cf hb9 hby0
    have hb1 := hby
    have hB1 := hB
    have cN : Box (∀ v w, By w v l → Calls Tryd.prog 22 #[.string k, v, .int .u64 d, .int .u64 b] w fun e w' => ∃ v', e = .returned (.tuple #[.agg #[.string k, v', .int .u64 d, .int .u64 b], .int .i64 0]) ∧ OwnB w.heap.size w' v' l ∧ Ext w w') := ⟨fun v w hv => new_ok k v d b l w (by omega) hb hc hv⟩
    have cK : Box (∀ w, Calls Tryd.prog 16 #[.string k, .slice a l.length c, .int .u64 b] w fun e w' => e = .returned (.int .i64 (chk k.size l.length b)) ∧ w = w') := ⟨fun w => refCheck_any k a l.length c b w (by omega) (by omega) hb⟩
    have cV : Box (∀ w, Calls Tryd.prog 23 #[.agg #[.string k, .slice a l.length c, .int .u64 d, .int .u64 b]] w fun e w' => e = .returned (.bool (fineN k.size l.length b)) ∧ Ext w w') := ⟨fun w => evalid_any k a l.length c d b w (by omega) (by omega) hb⟩
    have cC : Box (∀ v w, By w v l → _) := ⟨fun v w hv => copy_any k v d b l w hv⟩
    have cE : Box (∀ v w, By w v l → By w (.slice a l.length c) l → Calls Tryd.prog 21 #[.agg #[.string k, v, .int .u64 d, .int .u64 b], .agg #[.string k, .slice a l.length c, .int .u64 d, .int .u64 b]] w fun e w' => e = .returned (.bool true) ∧ Ext w w') := ⟨fun v w hv h2 => by
      have h := refEqual_any k k v (.slice a l.length c) l l d d b b w hv h2
      rw [show eqN k k l l d d b b = true by simp [eqN]] at h
      exact h⟩
    rw [hc] at cK
    rw [show fineN k.size l.length b = true by unfold fineN; rw [hc]; rfl] at cV
    have hz1 : Ext W1 W1 := Below.refl _ _
    have hX1 := Box.mk hx
    obtain ⟨u0, u1, u2, u3, _⟩ := blk4 hB
    clear ht hc hx hk hm hd hb
    go_wp2_with (first
      | (at_builtin; obtain ⟨a5, c5, w2, happ, ho5, hb⟩ := copy_app W1 a c l hby hll; refine wpList_append_run rfl _ _ _ rfl _ _ _ _ rfl rfl happ ?_; have hz1 := hb; have hz2 : Ext w2 w2 := Below.refl _ _; have hB := Ext.blk hb hB; have hb5 := ho5.by (by omega); have hg5 : ∀ j, Value.ownBlock (.slice a5 l.length c5) = some j → W1.heap.size ≤ j ∧ j < w2.heap.size := fun j hj => World.ownsRow.lt ho5 j hj; clear happ; obtain ⟨u0, u1, u2, u3, _⟩ := blk4 hB)
      | (go_at_call 22; (with_reducible refine (cN.out _ _ hb5).mono ?_); rintro e w3 ⟨v6, rfl, ho6, hb⟩; have hl3 : w2.heap.size ≤ w3.heap.size := hb.size; have hBo := Ext.blk hb hB; obtain ⟨u0', u1', u2', u3', _⟩ := blk4 hBo; have hlt0 := blk_lt hBo; obtain ⟨a6, c6, rfl⟩ := ho6.shape; have ho6 := (ho6.mono (C := w2.heap.size) hz2.size).ext (Ext.alloc (Below.refl _ _) (.cells #[.string k, .slice a6 l.length c6, .int .u64 d, .int .u64 b] 33)); have hz1 := Ext.alloc (Ext.trans' hz1 hb) (.cells #[.string k, .slice a6 l.length c6, .int .u64 d, .int .u64 b] 33); have hz2 := Ext.alloc (Ext.trans' hz2 hb) (.cells #[.string k, .slice a6 l.length c6, .int .u64 d, .int .u64 b] 33); have hB := Ext.blk (Ext.alloc (Below.refl _ _) (.cells #[.string k, .slice a6 l.length c6, .int .u64 d, .int .u64 b] 33)) (Ext.blk hb hB); have hb5 := By.ext (Ext.alloc (Below.refl _ _) (.cells #[.string k, .slice a6 l.length c6, .int .u64 d, .int .u64 b] 33)) (hb5.ext hb); have ho5 := (ho5.ext hb).ext (Ext.alloc (Below.refl _ _) (.cells #[.string k, .slice a6 l.length c6, .int .u64 d, .int .u64 b] 33)); have hX := newblk w3 (.cells #[.string k, .slice a6 l.length c6, .int .u64 d, .int .u64 b] 33); obtain ⟨u0, u1, u2, u3, _⟩ := blk4 hB)
      | (go_at_call 16; (with_reducible refine (cK.out _).mono ?_); rintro e w' ⟨rfl, rfl⟩)
      | (go_at_call 23; (with_reducible refine (cV.out _).mono ?_); rintro e w4 ⟨rfl, hb⟩; have hz1 := Ext.trans' hz1 hb; have hz2 := Ext.trans' hz2 hb; have hB := Ext.blk hb hB; have hX := Ext.blk hb hX; have hb5 := hb5.ext hb; have ho5 := ho5.ext hb; have ho6 := ho6.ext hb; obtain ⟨u0, u1, u2, u3, _⟩ := blk4 hB)
      | (go_at_call 24; (with_reducible refine (cC.out _ _ hb5).mono ?_); rintro e w5 ⟨v7, rfl, ho7, hb⟩; obtain ⟨a7, c7, rfl⟩ := ho7.shape; have ho7 := (ho7.mono (C := w2.heap.size) hz2.size).ext (Ext.alloc (Below.refl _ _) (.cells #[.string k, .slice a7 l.length c7, .int .u64 d, .int .u64 b] 33)); have hz1 := Ext.alloc (Ext.trans' hz1 hb) (.cells #[.string k, .slice a7 l.length c7, .int .u64 d, .int .u64 b] 33); have hB := Ext.blk (Ext.alloc (Below.refl _ _) (.cells #[.string k, .slice a7 l.length c7, .int .u64 d, .int .u64 b] 33)) (Ext.blk hb hB); have hX := Ext.blk (Ext.alloc (Below.refl _ _) (.cells #[.string k, .slice a7 l.length c7, .int .u64 d, .int .u64 b] 33)) (Ext.blk hb hX); have hY := newblk w5 (.cells #[.string k, .slice a7 l.length c7, .int .u64 d, .int .u64 b] 33); have hl5 : w2.heap.size ≤ w5.heap.size := Nat.le_trans hz2.size hb.size; have hlX : w3.heap.size < w5.heap.size + 1 := blk_lt_alloc hX; have ho5 := (ho5.ext hb).ext (Ext.alloc (Below.refl _ _) (.cells #[.string k, .slice a7 l.length c7, .int .u64 d, .int .u64 b] 33)); have ho6 := ho6.ext hb; have ho6 := ho6.ext (Ext.alloc (Below.refl _ _) (.cells #[.string k, .slice a7 l.length c7, .int .u64 d, .int .u64 b] 33)); clear u0 u1 u2 u3 hb5 u0' u1' u2' u3' hBo))
    generalize hw0 : w5.alloc (.cells #[.string k, .slice a7 l.length c7, .int .u64 d, .int .u64 b] 33) = w0 at *
    have hlw : w5.heap.size < w0.heap.size := blk_lt hY
    have HX := Box.mk hX
    have HY := Box.mk hY
    have HB := Box.mk hB1
    clear hX hY hB hB1 hw0
    go_loopw [10, 67] (fun _ i wr => ∃ k : Nat, k ≤ l.length ∧ i = .int .i64 k ∧ (∃ l' : List UInt8, Box (l'.length = l.length) ∧ wr.ownsRow W1.heap.size 5 1 (.slice a5 l.length c5) l.length ((nums l').map (Value.int .u8))) ∧ w0.grownBy wr (Value.ownBlock (.slice a5 l.length c5))) (fun _ i _ => l.length - (intOf i).toNat)
    case atStart => exact ⟨0, by omega, rfl, ⟨l, ⟨rfl⟩, ho5⟩, World.grownBy.refl _ _⟩
    case round =>
      obtain ⟨j, hj, rfl, ⟨l', hl', hown⟩, hgrow⟩ := hrel
      by_cases hlt : j < l.length
      · have hlt' : j < l'.length := by rw [hl'.out]; exact hlt
        obtain ⟨g, rfl⟩ : ∃ g, a5 = some ⟨g, 0, none⟩ := by
          rcases hown.2 with ⟨_, h0⟩ | ⟨g, cap, cur, hv, _⟩
          · omega
          · simp only [Value.slice.injEq] at hv; exact ⟨g, hv.1⟩
        have hcell : wr.cell? ⟨g, j, none⟩ = some (.int .u8 (l'[j].toNat : Int)) := by
          rw [hown.cellAt j (by omega)]; simp [nums, hlt']
        have hfz : wr.frozen? ⟨g, j, none⟩ = false := hown.frozenAt j
        have hst := Box.mk (hown.stored j (.int .u8 ((l'[j] + 1).toNat : Int)))
        have hset : Box (((nums l').map (Value.int .u8)).set j (.int .u8 ((l'[j] + 1).toNat : Int)) = (nums (l'.set j (l'[j] + 1))).map (Value.int .u8)) := ⟨by simp [nums, List.map_set]⟩
        have hlen2 : Box ((l'.set j (l'[j] + 1)).length = l.length) := ⟨by rw [List.length_set]; exact hl'.out⟩
        have hi := inc_u8 l'[j]
        have hw : IntKind.u8.wrap ((l'[j].toNat : Int) + 1) = ((l'[j] + 1).toNat : Int) := by rw [IntKind.wrap_u8]; exact hi
        have hG := Box.mk hgrow
        generalize l'.set j (l'[j] + 1) = l2 at *
        generalize ((l'[j] + 1).toNat : Int) = q at *
        generalize (l'[j].toNat : Int) = p at *
        clear hown hgrow
        go_wp2
        go_roundw
        case rel =>
          have h1 := hst.out.1
          rw [hset.out] at h1
          exact ⟨j + 1, by omega, by go_num, ⟨l2, hlen2, h1⟩, hG.out.trans hst.out.2⟩
        case measure => simp [intOf]; omega
      · obtain rfl : j = l.length := by omega
        have hx1 : Ext W1 wr := Below.grown hz1 hgrow hz1.size (fun i hi => (hg5 i hi).1)
        have hA := Ext.blk hx1 HB.out
        have hb1 := hb1.ext hx1
        have hX := (hgrow.block w3.heap.size (by omega) (fun e => by have := (hg5 _ e.symm).2; omega)).trans HX.out
        have hY := (hgrow.block w5.heap.size (by omega) (fun e => by have := (hg5 _ e.symm).2; omega)).trans HY.out
        have hb7 := (ho7.grownO hgrow (fun i hi => (hg5 i hi).2)).by (by omega)
        have hb6 := (ho6.grownO hgrow (fun i hi => (hg5 i hi).2)).by (by omega)
        have hx := Ext.trans' hX1.out hx1
        obtain ⟨u0, u1, u2, u3, _⟩ := blk4 hA
        obtain ⟨n0, n1, n2, n3, _⟩ := blk4 hX
        obtain ⟨o0, o1, o2, o3, _⟩ := blk4 hY
        clear hx1 hgrow hown hl' ho5 ho7 hz1 hz2 ho6
        go_wp2_with (first
          | (go_at_call 21; (with_reducible refine (cE.out _ _ hb6 hb1).mono ?_); rintro e w6 ⟨rfl, hb⟩; have hx := Ext.trans' hx hb; have hA := Ext.blk hb hA; have hX := Ext.blk hb hX; have hY := Ext.blk hb hY; have hb1 := hb1.ext hb; have hb6 := hb6.ext hb; have hb7 := hb7.ext hb; obtain ⟨u0, u1, u2, u3, _⟩ := blk4 hA; obtain ⟨n0, n1, n2, n3, _⟩ := blk4 hX; obtain ⟨o0, o1, o2, o3, _⟩ := blk4 hY)
          | (go_at_call 21; (with_reducible refine (cE.out _ _ hb7 hb1).mono ?_); rintro e w6 ⟨rfl, hb⟩; have hx := Ext.trans' hx hb; have hA := Ext.blk hb hA; have hX := Ext.blk hb hX; have hY := Ext.blk hb hY; have hb1 := hb1.ext hb; have hb6 := hb6.ext hb; have hb7 := hb7.ext hb; obtain ⟨u0, u1, u2, u3, _⟩ := blk4 hA; obtain ⟨n0, n1, n2, n3, _⟩ := blk4 hX; obtain ⟨o0, o1, o2, o3, _⟩ := blk4 hY)
          | (go_at_call 9; (with_reducible refine (ck.out _ hx).mono ?_); rintro e w6 ⟨rfl, hb⟩; have hx := Ext.trans' hx hb; have hA := Ext.blk hb hA; have hX := Ext.blk hb hX; have hY := Ext.blk hb hY; have hb1 := hb1.ext hb; have hb6 := hb6.ext hb; have hb7 := hb7.ext hb; obtain ⟨u0, u1, u2, u3, _⟩ := blk4 hA; obtain ⟨n0, n1, n2, n3, _⟩ := blk4 hX; obtain ⟨o0, o1, o2, o3, _⟩ := blk4 hY))
        go_ret
        exact ⟨rfl, hx⟩

set_option maxRecDepth 100000 in
set_option maxHeartbeats 8000000 in
theorem makes_yesA (k : ByteArray) (a : Option Addr) (m c d b : Nat) (N : Nat) (W : World) (hk : k.size ≤ 9223372036854775807) (hm : m ≤ 9223372036854775807) (hd : d < 18446744073709551616) (hb : b < 18446744073709551616) (ht : Env W) (hks : k.size ≤ 600) (hn : sm k.size m = true) (hz : 65530 ≤ N ∧ N ≤ 65540) (hc0 : chk k.size N b = 0) :
    Calls Tryd.prog 6 #[.agg #[.string k, .slice a m c, .int .u64 d, .int .u64 b], .int .i64 (N : Int)] W fun e W' => e = .returned (.bool true) ∧ Below W.heap.size W W' := by
  have ck : Box (∀ w, Ext W w → Calls Tryd.prog 9 #[] w fun e w' => e = .returned (.bool true) ∧ Ext w w') := ⟨fun w h => known_any w (ht.ext h)⟩
  have hx : Ext W ((W.alloc (.cells #[.string k, .slice a m c, .int .u64 d, .int .u64 b] 33)).alloc (.cells #[.string k, .slice a m c, .int .u64 d, .int .u64 b] 33)) := Ext.alloc (Ext.alloc (Below.refl _ _) _) _
  have hB : ((W.alloc (.cells #[.string k, .slice a m c, .int .u64 d, .int .u64 b] 33)).alloc (.cells #[.string k, .slice a m c, .int .u64 d, .int .u64 b] 33)).heap[W.heap.size]? = some (.cells #[.string k, .slice a m c, .int .u64 d, .int .u64 b] 33 (0, 0)) := Ext.blk (Ext.alloc (Below.refl _ _) _) (newblk W _)
  have cf : Box (Calls Tryd.prog 14 #[.slice (some ⟨W.heap.size + 1, 0, none⟩) 1 1] ((W.alloc (.cells #[.string k, .slice a m c, .int .u64 d, .int .u64 b] 33)).alloc (.cells #[.string k, .slice a m c, .int .u64 d, .int .u64 b] 33)) fun e w' => e = .returned (.bool (sm k.size m)) ∧ Ext ((W.alloc (.cells #[.string k, .slice a m c, .int .u64 d, .int .u64 b] 33)).alloc (.cells #[.string k, .slice a m c, .int .u64 d, .int .u64 b] 33)) w') := ⟨few1_any k a m c d b _ (W.heap.size + 1) hk hm (newblk2 W _ _)⟩
  rw [hn] at cf
  obtain ⟨i0, hi, hz0, hz1', hz2'⟩ := info_parts infoByte
  have hNa : (65530 : Int) ≤ (N : Int) := by omega
  have hNb : (N : Int) ≤ 65540 := by omega
  clear hn
  go_enter Tryd.func6, Tryd.ntmps6
  go_upto_region 5 with (first
    | (go_at_call 14; (with_reducible refine (cf.out).mono ?_); rintro e V1 ⟨rfl, hb9⟩; have hx := Ext.trans' hx hb9; have hB := Ext.blk hb9 hB)
    | (at_make; refine wpList_make_full _ rfl _ _ 25 rfl (W.heap.size + 1) 5 i0 (.int .u8 0) 1 Tryd.underlying25 hi hz0 hz1' .i64 .i64 _ _ N rfl rfl rfl rfl (by rw [hz2']; omega) (by unfold maxLen; omega) (blk_lt hB) ?_; intro V2 hown hgrow; have hb9 := Below.grown (Below.refl V1.heap.size V1) hgrow (Nat.le_refl _) (fun j hj => by cases hj); have hx := Ext.trans' hx hb9; have hB := Ext.blk hb9 hB; obtain ⟨u0, u1, u2, u3, f0, f1, f2, f3⟩ := blk4 hB))
  have hB := set_blk1 hB (.slice (some ⟨V1.heap.size, 0, none⟩) N N)
  have hx := Below.setCell hx (p := ⟨W.heap.size, 1, none⟩) (Nat.le_refl _) (.slice (some ⟨V1.heap.size, 0, none⟩) N N)
  have hl : (List.replicate N (0 : UInt8)).length = N := List.length_replicate
  rw [made_nums] at hown
  have hby : By (V2.setCell ⟨W.heap.size, 1, none⟩ (.slice (some ⟨V1.heap.size, 0, none⟩) N N)) (.slice (some ⟨V1.heap.size, 0, none⟩) N N) (List.replicate N (0 : UInt8)) := by
    refine By.owns (OwnB.setCell (B := W.heap.size + 1) ?_ (p := ⟨W.heap.size, 1, none⟩) (Nat.lt_succ_self _) _) (by rw [hl]; omega)
    unfold OwnB
    rw [hl]
    exact hown
  generalize V2.setCell ⟨W.heap.size, 1, none⟩ (.slice (some ⟨V1.heap.size, 0, none⟩) N N) = W1 at *
  clear hown hgrow u0 u1 u2 u3 f0 f1 f2 f3 cf
  generalize (some ⟨V1.heap.size, 0, none⟩ : Option Addr) = ae at *
  generalize List.replicate N (0 : UInt8) = l at *
  subst hl
  have hc := hc0
  clear hc0
  have hll : l.length ≤ 100000 := by omega
  obtain ⟨ce, hce⟩ : ∃ ce, ce = l.length := ⟨_, rfl⟩
  have hae : Value.slice ae l.length l.length = Value.slice ae l.length ce := by rw [hce]
  rw [hae] at hby hB ⊢
  clear hae hce hNa hNb
  have hb1 := hby
  have hB1 := hB
  have cN : Box (∀ v w, By w v l → Calls Tryd.prog 22 #[.string k, v, .int .u64 d, .int .u64 b] w fun e w' => ∃ v', e = .returned (.tuple #[.agg #[.string k, v', .int .u64 d, .int .u64 b], .int .i64 0]) ∧ OwnB w.heap.size w' v' l ∧ Ext w w') := ⟨fun v w hv => new_ok k v d b l w (by omega) hb hc hv⟩
  have cK : Box (∀ w, Calls Tryd.prog 16 #[.string k, .slice ae l.length ce, .int .u64 b] w fun e w' => e = .returned (.int .i64 (chk k.size l.length b)) ∧ w = w') := ⟨fun w => refCheck_any k ae l.length ce b w (by omega) (by omega) hb⟩
  have cV : Box (∀ w, Calls Tryd.prog 23 #[.agg #[.string k, .slice ae l.length ce, .int .u64 d, .int .u64 b]] w fun e w' => e = .returned (.bool (fineN k.size l.length b)) ∧ Ext w w') := ⟨fun w => evalid_any k ae l.length ce d b w (by omega) (by omega) hb⟩
  have cC : Box (∀ v w, By w v l → _) := ⟨fun v w hv => copy_any k v d b l w hv⟩
  have cE : Box (∀ v w, By w v l → By w (.slice ae l.length ce) l → Calls Tryd.prog 21 #[.agg #[.string k, v, .int .u64 d, .int .u64 b], .agg #[.string k, .slice ae l.length ce, .int .u64 d, .int .u64 b]] w fun e w' => e = .returned (.bool true) ∧ Ext w w') := ⟨fun v w hv h2 => by
    have h := refEqual_any k k v (.slice ae l.length ce) l l d d b b w hv h2
    rw [show eqN k k l l d d b b = true by simp [eqN]] at h
    exact h⟩
  rw [hc] at cK
  rw [show fineN k.size l.length b = true by unfold fineN; rw [hc]; rfl] at cV
  have hz1 : Ext W1 W1 := Below.refl _ _
  have hX1 := Box.mk hx
  obtain ⟨u0, u1, u2, u3, _⟩ := blk4 hB
  clear ht hc hx hk hm hd hb
  go_wp2_with (first
    | (at_builtin; obtain ⟨a5, c5, w2, happ, ho5, hb⟩ := copy_app W1 ae ce l hby hll; refine wpList_append_run rfl _ _ _ rfl _ _ _ _ rfl rfl happ ?_; have hz1 := hb; have hz2 : Ext w2 w2 := Below.refl _ _; have hB := Ext.blk hb hB; have hb5 := ho5.by (by omega); have hg5 : ∀ j, Value.ownBlock (.slice a5 l.length c5) = some j → W1.heap.size ≤ j ∧ j < w2.heap.size := fun j hj => World.ownsRow.lt ho5 j hj; clear happ; obtain ⟨u0, u1, u2, u3, _⟩ := blk4 hB)
    | (go_at_call 22; (with_reducible refine (cN.out _ _ hb5).mono ?_); rintro e w3 ⟨v6, rfl, ho6, hb⟩; have hl3 : w2.heap.size ≤ w3.heap.size := hb.size; have hBo := Ext.blk hb hB; obtain ⟨u0', u1', u2', u3', _⟩ := blk4 hBo; have hlt0 := blk_lt hBo; obtain ⟨a6, c6, rfl⟩ := ho6.shape; have ho6 := (ho6.mono (C := w2.heap.size) hz2.size).ext (Ext.alloc (Below.refl _ _) (.cells #[.string k, .slice a6 l.length c6, .int .u64 d, .int .u64 b] 33)); have hz1 := Ext.alloc (Ext.trans' hz1 hb) (.cells #[.string k, .slice a6 l.length c6, .int .u64 d, .int .u64 b] 33); have hz2 := Ext.alloc (Ext.trans' hz2 hb) (.cells #[.string k, .slice a6 l.length c6, .int .u64 d, .int .u64 b] 33); have hB := Ext.blk (Ext.alloc (Below.refl _ _) (.cells #[.string k, .slice a6 l.length c6, .int .u64 d, .int .u64 b] 33)) (Ext.blk hb hB); have hb5 := By.ext (Ext.alloc (Below.refl _ _) (.cells #[.string k, .slice a6 l.length c6, .int .u64 d, .int .u64 b] 33)) (hb5.ext hb); have ho5 := (ho5.ext hb).ext (Ext.alloc (Below.refl _ _) (.cells #[.string k, .slice a6 l.length c6, .int .u64 d, .int .u64 b] 33)); have hX := newblk w3 (.cells #[.string k, .slice a6 l.length c6, .int .u64 d, .int .u64 b] 33); obtain ⟨u0, u1, u2, u3, _⟩ := blk4 hB)
    | (go_at_call 16; (with_reducible refine (cK.out _).mono ?_); rintro e w' ⟨rfl, rfl⟩)
    | (go_at_call 23; (with_reducible refine (cV.out _).mono ?_); rintro e w4 ⟨rfl, hb⟩; have hz1 := Ext.trans' hz1 hb; have hz2 := Ext.trans' hz2 hb; have hB := Ext.blk hb hB; have hX := Ext.blk hb hX; have hb5 := hb5.ext hb; have ho5 := ho5.ext hb; have ho6 := ho6.ext hb; obtain ⟨u0, u1, u2, u3, _⟩ := blk4 hB)
    | (go_at_call 24; (with_reducible refine (cC.out _ _ hb5).mono ?_); rintro e w5 ⟨v7, rfl, ho7, hb⟩; obtain ⟨a7, c7, rfl⟩ := ho7.shape; have ho7 := (ho7.mono (C := w2.heap.size) hz2.size).ext (Ext.alloc (Below.refl _ _) (.cells #[.string k, .slice a7 l.length c7, .int .u64 d, .int .u64 b] 33)); have hz1 := Ext.alloc (Ext.trans' hz1 hb) (.cells #[.string k, .slice a7 l.length c7, .int .u64 d, .int .u64 b] 33); have hB := Ext.blk (Ext.alloc (Below.refl _ _) (.cells #[.string k, .slice a7 l.length c7, .int .u64 d, .int .u64 b] 33)) (Ext.blk hb hB); have hX := Ext.blk (Ext.alloc (Below.refl _ _) (.cells #[.string k, .slice a7 l.length c7, .int .u64 d, .int .u64 b] 33)) (Ext.blk hb hX); have hY := newblk w5 (.cells #[.string k, .slice a7 l.length c7, .int .u64 d, .int .u64 b] 33); have hl5 : w2.heap.size ≤ w5.heap.size := Nat.le_trans hz2.size hb.size; have hlX : w3.heap.size < w5.heap.size + 1 := blk_lt_alloc hX; have ho5 := (ho5.ext hb).ext (Ext.alloc (Below.refl _ _) (.cells #[.string k, .slice a7 l.length c7, .int .u64 d, .int .u64 b] 33)); have ho6 := ho6.ext hb; have ho6 := ho6.ext (Ext.alloc (Below.refl _ _) (.cells #[.string k, .slice a7 l.length c7, .int .u64 d, .int .u64 b] 33)); clear u0 u1 u2 u3 hb5 u0' u1' u2' u3' hBo))
  generalize hw0 : w5.alloc (.cells #[.string k, .slice a7 l.length c7, .int .u64 d, .int .u64 b] 33) = w0 at *
  have hlw : w5.heap.size < w0.heap.size := blk_lt hY
  have HX := Box.mk hX
  have HY := Box.mk hY
  have HB := Box.mk hB1
  clear hX hY hB hB1 hw0
  go_loopw [10, 67] (fun _ i wr => ∃ k : Nat, k ≤ l.length ∧ i = .int .i64 k ∧ (∃ l' : List UInt8, Box (l'.length = l.length) ∧ wr.ownsRow W1.heap.size 5 1 (.slice a5 l.length c5) l.length ((nums l').map (Value.int .u8))) ∧ w0.grownBy wr (Value.ownBlock (.slice a5 l.length c5))) (fun _ i _ => l.length - (intOf i).toNat)
  case atStart => exact ⟨0, by omega, rfl, ⟨l, ⟨rfl⟩, ho5⟩, World.grownBy.refl _ _⟩
  case round =>
    obtain ⟨j, hj, rfl, ⟨l', hl', hown⟩, hgrow⟩ := hrel
    by_cases hlt : j < l.length
    · have hlt' : j < l'.length := by rw [hl'.out]; exact hlt
      obtain ⟨g, rfl⟩ : ∃ g, a5 = some ⟨g, 0, none⟩ := by
        rcases hown.2 with ⟨_, h0⟩ | ⟨g, cap, cur, hv, _⟩
        · omega
        · simp only [Value.slice.injEq] at hv; exact ⟨g, hv.1⟩
      have hcell : wr.cell? ⟨g, j, none⟩ = some (.int .u8 (l'[j].toNat : Int)) := by
        rw [hown.cellAt j (by omega)]; simp [nums, hlt']
      have hfz : wr.frozen? ⟨g, j, none⟩ = false := hown.frozenAt j
      have hst := Box.mk (hown.stored j (.int .u8 ((l'[j] + 1).toNat : Int)))
      have hset : Box (((nums l').map (Value.int .u8)).set j (.int .u8 ((l'[j] + 1).toNat : Int)) = (nums (l'.set j (l'[j] + 1))).map (Value.int .u8)) := ⟨by simp [nums, List.map_set]⟩
      have hlen2 : Box ((l'.set j (l'[j] + 1)).length = l.length) := ⟨by rw [List.length_set]; exact hl'.out⟩
      have hi := inc_u8 l'[j]
      have hw : IntKind.u8.wrap ((l'[j].toNat : Int) + 1) = ((l'[j] + 1).toNat : Int) := by rw [IntKind.wrap_u8]; exact hi
      have hG := Box.mk hgrow
      generalize l'.set j (l'[j] + 1) = l2 at *
      generalize ((l'[j] + 1).toNat : Int) = q at *
      generalize (l'[j].toNat : Int) = p at *
      clear hown hgrow
      go_wp2
      go_roundw
      case rel =>
        have h1 := hst.out.1
        rw [hset.out] at h1
        exact ⟨j + 1, by omega, by go_num, ⟨l2, hlen2, h1⟩, hG.out.trans hst.out.2⟩
      case measure => simp [intOf]; omega
    · obtain rfl : j = l.length := by omega
      have hx1 : Ext W1 wr := Below.grown hz1 hgrow hz1.size (fun i hi => (hg5 i hi).1)
      have hA := Ext.blk hx1 HB.out
      have hb1 := hb1.ext hx1
      have hX := (hgrow.block w3.heap.size (by omega) (fun e => by have := (hg5 _ e.symm).2; omega)).trans HX.out
      have hY := (hgrow.block w5.heap.size (by omega) (fun e => by have := (hg5 _ e.symm).2; omega)).trans HY.out
      have hb7 := (ho7.grownO hgrow (fun i hi => (hg5 i hi).2)).by (by omega)
      have hb6 := (ho6.grownO hgrow (fun i hi => (hg5 i hi).2)).by (by omega)
      have hx := Ext.trans' hX1.out hx1
      obtain ⟨u0, u1, u2, u3, _⟩ := blk4 hA
      obtain ⟨n0, n1, n2, n3, _⟩ := blk4 hX
      obtain ⟨o0, o1, o2, o3, _⟩ := blk4 hY
      clear hx1 hgrow hown hl' ho5 ho7 hz1 hz2 ho6
      go_wp2_with (first
        | (go_at_call 21; (with_reducible refine (cE.out _ _ hb6 hb1).mono ?_); rintro e w6 ⟨rfl, hb⟩; have hx := Ext.trans' hx hb; have hA := Ext.blk hb hA; have hX := Ext.blk hb hX; have hY := Ext.blk hb hY; have hb1 := hb1.ext hb; have hb6 := hb6.ext hb; have hb7 := hb7.ext hb; obtain ⟨u0, u1, u2, u3, _⟩ := blk4 hA; obtain ⟨n0, n1, n2, n3, _⟩ := blk4 hX; obtain ⟨o0, o1, o2, o3, _⟩ := blk4 hY)
        | (go_at_call 21; (with_reducible refine (cE.out _ _ hb7 hb1).mono ?_); rintro e w6 ⟨rfl, hb⟩; have hx := Ext.trans' hx hb; have hA := Ext.blk hb hA; have hX := Ext.blk hb hX; have hY := Ext.blk hb hY; have hb1 := hb1.ext hb; have hb6 := hb6.ext hb; have hb7 := hb7.ext hb; obtain ⟨u0, u1, u2, u3, _⟩ := blk4 hA; obtain ⟨n0, n1, n2, n3, _⟩ := blk4 hX; obtain ⟨o0, o1, o2, o3, _⟩ := blk4 hY)
        | (go_at_call 9; (with_reducible refine (ck.out _ hx).mono ?_); rintro e w6 ⟨rfl, hb⟩; have hx := Ext.trans' hx hb; have hA := Ext.blk hb hA; have hX := Ext.blk hb hX; have hY := Ext.blk hb hY; have hb1 := hb1.ext hb; have hb6 := hb6.ext hb; have hb7 := hb7.ext hb; obtain ⟨u0, u1, u2, u3, _⟩ := blk4 hA; obtain ⟨n0, n1, n2, n3, _⟩ := blk4 hX; obtain ⟨o0, o1, o2, o3, _⟩ := blk4 hY))
      go_ret
      exact ⟨rfl, hx⟩

set_option maxRecDepth 100000 in
set_option maxHeartbeats 8000000 in
theorem makes_noB (k : ByteArray) (a : Option Addr) (c d b : Nat) (l : List UInt8) (z : Int) (W : World) (hk : k.size ≤ 9223372036854775807) (hm : l.length ≤ 9223372036854775807) (hd : d < 18446744073709551616) (hb : b < 18446744073709551616) (ht : Env W) (hby0 : By W (.slice a l.length c) l) (hks : k.size ≤ 600) (hs : l.length ≤ 600) (hn : sm k.size l.length = true) (hz : ¬ (65530 ≤ z ∧ z ≤ 65540)) (hc : chk k.size l.length b ≠ 0) :
    Calls Tryd.prog 6 #[.agg #[.string k, .slice a l.length c, .int .u64 d, .int .u64 b], .int .i64 z] W fun e W' => e = .returned (.bool true) ∧ Below W.heap.size W W' := by
  have ck : Box (∀ w, Ext W w → Calls Tryd.prog 9 #[] w fun e w' => e = .returned (.bool true) ∧ Ext w w') := ⟨fun w h => known_any w (ht.ext h)⟩
  have hx : Ext W ((W.alloc (.cells #[.string k, .slice a l.length c, .int .u64 d, .int .u64 b] 33)).alloc (.cells #[.string k, .slice a l.length c, .int .u64 d, .int .u64 b] 33)) := Ext.alloc (Ext.alloc (Below.refl _ _) _) _
  have hB : ((W.alloc (.cells #[.string k, .slice a l.length c, .int .u64 d, .int .u64 b] 33)).alloc (.cells #[.string k, .slice a l.length c, .int .u64 d, .int .u64 b] 33)).heap[W.heap.size]? = some (.cells #[.string k, .slice a l.length c, .int .u64 d, .int .u64 b] 33 (0, 0)) := Ext.blk (Ext.alloc (Below.refl _ _) _) (newblk W _)
  have cf : Box (Calls Tryd.prog 14 #[.slice (some ⟨W.heap.size + 1, 0, none⟩) 1 1] ((W.alloc (.cells #[.string k, .slice a l.length c, .int .u64 d, .int .u64 b] 33)).alloc (.cells #[.string k, .slice a l.length c, .int .u64 d, .int .u64 b] 33)) fun e w' => e = .returned (.bool (sm k.size l.length)) ∧ Ext ((W.alloc (.cells #[.string k, .slice a l.length c, .int .u64 d, .int .u64 b] 33)).alloc (.cells #[.string k, .slice a l.length c, .int .u64 d, .int .u64 b] 33)) w') := ⟨few1_any k a l.length c d b _ (W.heap.size + 1) hk hm (newblk2 W _ _)⟩
  rw [hn] at cf
  have hll : l.length ≤ 100000 := by omega
  clear hn
  go_enter Tryd.func6, Tryd.ntmps6
  rcases (by omega : z < 65530 ∨ 65540 < z) with hzz | hzz
  all_goals
    go_upto_region 5 with (first
      | (go_at_call 14; (with_reducible refine (cf.out).mono ?_); rintro e W1 ⟨rfl, hb9⟩; have hx := Ext.trans' hx hb9; have hB := Ext.blk hb9 hB))
    have hby := hby0.ext hx
    clear cf hb9 hby0
    have hb1 := hby
    have hB1 := hB
    have cN : Box (∀ v w, By w v l → Calls Tryd.prog 22 #[.string k, v, .int .u64 d, .int .u64 b] w fun e w' => e = .returned (.tuple #[zeroE, .int .i64 (chk k.size l.length b)]) ∧ Ext w w') := ⟨fun v w hv => by obtain ⟨av, cv, rfl, _⟩ := hv.size; exact new_bad k av l.length cv d b w (by omega) (by omega) hb hc⟩
    have cK : Box (∀ w, Calls Tryd.prog 16 #[.string k, .slice a l.length c, .int .u64 b] w fun e w' => e = .returned (.int .i64 (chk k.size l.length b)) ∧ w = w') := ⟨fun w => refCheck_any k a l.length c b w (by omega) (by omega) hb⟩
    have cV : Box (∀ w, Calls Tryd.prog 23 #[.agg #[.string k, .slice a l.length c, .int .u64 d, .int .u64 b]] w fun e w' => e = .returned (.bool (fineN k.size l.length b)) ∧ Ext w w') := ⟨fun w => evalid_any k a l.length c d b w (by omega) (by omega) hb⟩
    have cC : Box (∀ v w, By w v l → _) := ⟨fun v w hv => copy_any k v d b l w hv⟩
    have cE : Box (∀ v w, By w v l → By w (.slice a l.length c) l → Calls Tryd.prog 21 #[.agg #[.string k, v, .int .u64 d, .int .u64 b], .agg #[.string k, .slice a l.length c, .int .u64 d, .int .u64 b]] w fun e w' => e = .returned (.bool true) ∧ Ext w w') := ⟨fun v w hv h2 => by
      have h := refEqual_any k k v (.slice a l.length c) l l d d b b w hv h2
      rw [show eqN k k l l d d b b = true by simp [eqN]] at h
      exact h⟩
    have cZ : Box (∀ w, Calls Tryd.prog 21 #[zeroE, zeroE] w fun e w' => e = .returned (.bool true) ∧ Ext w w') := ⟨fun w => refEqual_any ⟨#[]⟩ ⟨#[]⟩ (.slice none 0 0) (.slice none 0 0) [] [] 0 0 0 0 w (By.nil w) (By.nil w)⟩
    rw [show fineN k.size l.length b = false by unfold fineN; exact decide_eq_false hc] at cV
    have e1 : (chk k.size l.length b == 0) = false := by rw [beq_eq_false_iff_ne]; exact hc
    have e2 : (chk k.size l.length b != 0) = true := by rw [bne_iff_ne]; exact hc
    generalize chk k.size l.length b = y at *
    have hz1 : Ext W1 W1 := Below.refl _ _
    have hX1 := Box.mk hx
    obtain ⟨u0, u1, u2, u3, _⟩ := blk4 hB
    clear ht hc hx hk hm hd hb
    go_wp2_with (first
      | (at_builtin; obtain ⟨a5, c5, w2, happ, ho5, hb⟩ := copy_app W1 a c l hby hll; refine wpList_append_run rfl _ _ _ rfl _ _ _ _ rfl rfl happ ?_; have hz1 := hb; have hz2 : Ext w2 w2 := Below.refl _ _; have hB := Ext.blk hb hB; have hb5 := ho5.by (by omega); have hg5 : ∀ j, Value.ownBlock (.slice a5 l.length c5) = some j → W1.heap.size ≤ j ∧ j < w2.heap.size := fun j hj => World.ownsRow.lt ho5 j hj; clear happ; obtain ⟨u0, u1, u2, u3, _⟩ := blk4 hB)
      | (go_at_call 22; (with_reducible refine (cN.out _ _ hb5).mono ?_); rintro e w3 ⟨rfl, hb⟩; have hl3 : w2.heap.size ≤ w3.heap.size := hb.size; have hBo := Ext.blk hb hB; obtain ⟨u0', u1', u2', u3', _⟩ := blk4 hBo; have hlt0 := blk_lt hBo; have hz1 := Ext.alloc (Ext.trans' hz1 hb) (.cells zeroC 33); have hz2 := Ext.alloc (Ext.trans' hz2 hb) (.cells zeroC 33); have hB := Ext.blk (Ext.alloc (Below.refl _ _) (.cells zeroC 33)) (Ext.blk hb hB); have hb5 := By.ext (Ext.alloc (Below.refl _ _) (.cells zeroC 33)) (hb5.ext hb); have ho5 := (ho5.ext hb).ext (Ext.alloc (Below.refl _ _) (.cells zeroC 33)); have hX := newblk w3 (.cells zeroC 33); obtain ⟨u0, u1, u2, u3, _⟩ := blk4 hB)
      | (go_at_call 16; (with_reducible refine (cK.out _).mono ?_); rintro e w' ⟨rfl, rfl⟩)
      | (go_at_call 23; (with_reducible refine (cV.out _).mono ?_); rintro e w4 ⟨rfl, hb⟩; have hz1 := Ext.trans' hz1 hb; have hz2 := Ext.trans' hz2 hb; have hB := Ext.blk hb hB; have hX := Ext.blk hb hX; have hb5 := hb5.ext hb; have ho5 := ho5.ext hb; obtain ⟨u0, u1, u2, u3, _⟩ := blk4 hB)
      | (go_at_call 24; (with_reducible refine (cC.out _ _ hb5).mono ?_); rintro e w5 ⟨v7, rfl, ho7, hb⟩; obtain ⟨a7, c7, rfl⟩ := ho7.shape; have ho7 := (ho7.mono (C := w2.heap.size) hz2.size).ext (Ext.alloc (Below.refl _ _) (.cells #[.string k, .slice a7 l.length c7, .int .u64 d, .int .u64 b] 33)); have hz1 := Ext.alloc (Ext.trans' hz1 hb) (.cells #[.string k, .slice a7 l.length c7, .int .u64 d, .int .u64 b] 33); have hB := Ext.blk (Ext.alloc (Below.refl _ _) (.cells #[.string k, .slice a7 l.length c7, .int .u64 d, .int .u64 b] 33)) (Ext.blk hb hB); have hX := Ext.blk (Ext.alloc (Below.refl _ _) (.cells #[.string k, .slice a7 l.length c7, .int .u64 d, .int .u64 b] 33)) (Ext.blk hb hX); have hY := newblk w5 (.cells #[.string k, .slice a7 l.length c7, .int .u64 d, .int .u64 b] 33); have hl5 : w2.heap.size ≤ w5.heap.size := Nat.le_trans hz2.size hb.size; have hlX : w3.heap.size < w5.heap.size + 1 := blk_lt_alloc hX; have ho5 := (ho5.ext hb).ext (Ext.alloc (Below.refl _ _) (.cells #[.string k, .slice a7 l.length c7, .int .u64 d, .int .u64 b] 33)); clear u0 u1 u2 u3 hb5 u0' u1' u2' u3' hBo))
    generalize hw0 : w5.alloc (.cells #[.string k, .slice a7 l.length c7, .int .u64 d, .int .u64 b] 33) = w0 at *
    have hlw : w5.heap.size < w0.heap.size := blk_lt hY
    have HX := Box.mk hX
    have HY := Box.mk hY
    have HB := Box.mk hB1
    clear hX hY hB hB1 hw0
    go_loopw [10, 67] (fun _ i wr => ∃ k : Nat, k ≤ l.length ∧ i = .int .i64 k ∧ (∃ l' : List UInt8, Box (l'.length = l.length) ∧ wr.ownsRow W1.heap.size 5 1 (.slice a5 l.length c5) l.length ((nums l').map (Value.int .u8))) ∧ w0.grownBy wr (Value.ownBlock (.slice a5 l.length c5))) (fun _ i _ => l.length - (intOf i).toNat)
    case atStart => exact ⟨0, by omega, rfl, ⟨l, ⟨rfl⟩, ho5⟩, World.grownBy.refl _ _⟩
    case round =>
      obtain ⟨j, hj, rfl, ⟨l', hl', hown⟩, hgrow⟩ := hrel
      by_cases hlt : j < l.length
      · have hlt' : j < l'.length := by rw [hl'.out]; exact hlt
        obtain ⟨g, rfl⟩ : ∃ g, a5 = some ⟨g, 0, none⟩ := by
          rcases hown.2 with ⟨_, h0⟩ | ⟨g, cap, cur, hv, _⟩
          · omega
          · simp only [Value.slice.injEq] at hv; exact ⟨g, hv.1⟩
        have hcell : wr.cell? ⟨g, j, none⟩ = some (.int .u8 (l'[j].toNat : Int)) := by
          rw [hown.cellAt j (by omega)]; simp [nums, hlt']
        have hfz : wr.frozen? ⟨g, j, none⟩ = false := hown.frozenAt j
        have hst := Box.mk (hown.stored j (.int .u8 ((l'[j] + 1).toNat : Int)))
        have hset : Box (((nums l').map (Value.int .u8)).set j (.int .u8 ((l'[j] + 1).toNat : Int)) = (nums (l'.set j (l'[j] + 1))).map (Value.int .u8)) := ⟨by simp [nums, List.map_set]⟩
        have hlen2 : Box ((l'.set j (l'[j] + 1)).length = l.length) := ⟨by rw [List.length_set]; exact hl'.out⟩
        have hi := inc_u8 l'[j]
        have hw : IntKind.u8.wrap ((l'[j].toNat : Int) + 1) = ((l'[j] + 1).toNat : Int) := by rw [IntKind.wrap_u8]; exact hi
        have hG := Box.mk hgrow
        generalize l'.set j (l'[j] + 1) = l2 at *
        generalize ((l'[j] + 1).toNat : Int) = q at *
        generalize (l'[j].toNat : Int) = p at *
        clear hown hgrow
        go_wp2
        go_roundw
        case rel =>
          have h1 := hst.out.1
          rw [hset.out] at h1
          exact ⟨j + 1, by omega, by go_num, ⟨l2, hlen2, h1⟩, hG.out.trans hst.out.2⟩
        case measure => simp [intOf]; omega
      · obtain rfl : j = l.length := by omega
        have hx1 : Ext W1 wr := Below.grown hz1 hgrow hz1.size (fun i hi => (hg5 i hi).1)
        have hA := Ext.blk hx1 HB.out
        have hb1 := hb1.ext hx1
        have hX := (hgrow.block w3.heap.size (by omega) (fun e => by have := (hg5 _ e.symm).2; omega)).trans HX.out
        have hY := (hgrow.block w5.heap.size (by omega) (fun e => by have := (hg5 _ e.symm).2; omega)).trans HY.out
        have hb7 := (ho7.grownO hgrow (fun i hi => (hg5 i hi).2)).by (by omega)
        have hb6 := hb7
        have hx := Ext.trans' hX1.out hx1
        obtain ⟨u0, u1, u2, u3, _⟩ := blk4 hA
        obtain ⟨n0, n1, n2, n3, _⟩ := blk4 hX
        obtain ⟨o0, o1, o2, o3, _⟩ := blk4 hY
        clear hx1 hgrow hown hl' ho5 ho7 hz1 hz2
        go_wp2_with (first
          | (go_at_call 21; (with_reducible refine (cZ.out _).mono ?_); rintro e w6 ⟨rfl, hb⟩; have hx := Ext.trans' hx hb; have hA := Ext.blk hb hA; have hX := Ext.blk hb hX; have hY := Ext.blk hb hY; have hb1 := hb1.ext hb; have hb6 := hb6.ext hb; have hb7 := hb7.ext hb; obtain ⟨u0, u1, u2, u3, _⟩ := blk4 hA; obtain ⟨n0, n1, n2, n3, _⟩ := blk4 hX; obtain ⟨o0, o1, o2, o3, _⟩ := blk4 hY)
          | (go_at_call 21; (with_reducible refine (cE.out _ _ hb7 hb1).mono ?_); rintro e w6 ⟨rfl, hb⟩; have hx := Ext.trans' hx hb; have hA := Ext.blk hb hA; have hX := Ext.blk hb hX; have hY := Ext.blk hb hY; have hb1 := hb1.ext hb; have hb6 := hb6.ext hb; have hb7 := hb7.ext hb; obtain ⟨u0, u1, u2, u3, _⟩ := blk4 hA; obtain ⟨n0, n1, n2, n3, _⟩ := blk4 hX; obtain ⟨o0, o1, o2, o3, _⟩ := blk4 hY)
          | (go_at_call 9; (with_reducible refine (ck.out _ hx).mono ?_); rintro e w6 ⟨rfl, hb⟩; have hx := Ext.trans' hx hb; have hA := Ext.blk hb hA; have hX := Ext.blk hb hX; have hY := Ext.blk hb hY; have hb1 := hb1.ext hb; have hb6 := hb6.ext hb; have hb7 := hb7.ext hb; obtain ⟨u0, u1, u2, u3, _⟩ := blk4 hA; obtain ⟨n0, n1, n2, n3, _⟩ := blk4 hX; obtain ⟨o0, o1, o2, o3, _⟩ := blk4 hY))
        go_ret
        exact ⟨rfl, hx⟩

set_option maxRecDepth 100000 in
set_option maxHeartbeats 8000000 in
theorem makes_noA (k : ByteArray) (a : Option Addr) (m c d b : Nat) (N : Nat) (W : World) (hk : k.size ≤ 9223372036854775807) (hm : m ≤ 9223372036854775807) (hd : d < 18446744073709551616) (hb : b < 18446744073709551616) (ht : Env W) (hks : k.size ≤ 600) (hn : sm k.size m = true) (hz : 65530 ≤ N ∧ N ≤ 65540) (hc0 : chk k.size N b ≠ 0) :
    Calls Tryd.prog 6 #[.agg #[.string k, .slice a m c, .int .u64 d, .int .u64 b], .int .i64 (N : Int)] W fun e W' => e = .returned (.bool true) ∧ Below W.heap.size W W' := by
  have ck : Box (∀ w, Ext W w → Calls Tryd.prog 9 #[] w fun e w' => e = .returned (.bool true) ∧ Ext w w') := ⟨fun w h => known_any w (ht.ext h)⟩
  have hx : Ext W ((W.alloc (.cells #[.string k, .slice a m c, .int .u64 d, .int .u64 b] 33)).alloc (.cells #[.string k, .slice a m c, .int .u64 d, .int .u64 b] 33)) := Ext.alloc (Ext.alloc (Below.refl _ _) _) _
  have hB : ((W.alloc (.cells #[.string k, .slice a m c, .int .u64 d, .int .u64 b] 33)).alloc (.cells #[.string k, .slice a m c, .int .u64 d, .int .u64 b] 33)).heap[W.heap.size]? = some (.cells #[.string k, .slice a m c, .int .u64 d, .int .u64 b] 33 (0, 0)) := Ext.blk (Ext.alloc (Below.refl _ _) _) (newblk W _)
  have cf : Box (Calls Tryd.prog 14 #[.slice (some ⟨W.heap.size + 1, 0, none⟩) 1 1] ((W.alloc (.cells #[.string k, .slice a m c, .int .u64 d, .int .u64 b] 33)).alloc (.cells #[.string k, .slice a m c, .int .u64 d, .int .u64 b] 33)) fun e w' => e = .returned (.bool (sm k.size m)) ∧ Ext ((W.alloc (.cells #[.string k, .slice a m c, .int .u64 d, .int .u64 b] 33)).alloc (.cells #[.string k, .slice a m c, .int .u64 d, .int .u64 b] 33)) w') := ⟨few1_any k a m c d b _ (W.heap.size + 1) hk hm (newblk2 W _ _)⟩
  rw [hn] at cf
  obtain ⟨i0, hi, hz0, hz1', hz2'⟩ := info_parts infoByte
  have hNa : (65530 : Int) ≤ (N : Int) := by omega
  have hNb : (N : Int) ≤ 65540 := by omega
  clear hn
  go_enter Tryd.func6, Tryd.ntmps6
  go_upto_region 5 with (first
    | (go_at_call 14; (with_reducible refine (cf.out).mono ?_); rintro e V1 ⟨rfl, hb9⟩; have hx := Ext.trans' hx hb9; have hB := Ext.blk hb9 hB)
    | (at_make; refine wpList_make_full _ rfl _ _ 25 rfl (W.heap.size + 1) 5 i0 (.int .u8 0) 1 Tryd.underlying25 hi hz0 hz1' .i64 .i64 _ _ N rfl rfl rfl rfl (by rw [hz2']; omega) (by unfold maxLen; omega) (blk_lt hB) ?_; intro V2 hown hgrow; have hb9 := Below.grown (Below.refl V1.heap.size V1) hgrow (Nat.le_refl _) (fun j hj => by cases hj); have hx := Ext.trans' hx hb9; have hB := Ext.blk hb9 hB; obtain ⟨u0, u1, u2, u3, f0, f1, f2, f3⟩ := blk4 hB))
  have hB := set_blk1 hB (.slice (some ⟨V1.heap.size, 0, none⟩) N N)
  have hx := Below.setCell hx (p := ⟨W.heap.size, 1, none⟩) (Nat.le_refl _) (.slice (some ⟨V1.heap.size, 0, none⟩) N N)
  have hl : (List.replicate N (0 : UInt8)).length = N := List.length_replicate
  rw [made_nums] at hown
  have hby : By (V2.setCell ⟨W.heap.size, 1, none⟩ (.slice (some ⟨V1.heap.size, 0, none⟩) N N)) (.slice (some ⟨V1.heap.size, 0, none⟩) N N) (List.replicate N (0 : UInt8)) := by
    refine By.owns (OwnB.setCell (B := W.heap.size + 1) ?_ (p := ⟨W.heap.size, 1, none⟩) (Nat.lt_succ_self _) _) (by rw [hl]; omega)
    unfold OwnB
    rw [hl]
    exact hown
  generalize V2.setCell ⟨W.heap.size, 1, none⟩ (.slice (some ⟨V1.heap.size, 0, none⟩) N N) = W1 at *
  clear hown hgrow u0 u1 u2 u3 f0 f1 f2 f3 cf
  generalize (some ⟨V1.heap.size, 0, none⟩ : Option Addr) = ae at *
  generalize List.replicate N (0 : UInt8) = l at *
  subst hl
  have hc := hc0
  clear hc0
  have hll : l.length ≤ 100000 := by omega
  obtain ⟨ce, hce⟩ : ∃ ce, ce = l.length := ⟨_, rfl⟩
  have hae : Value.slice ae l.length l.length = Value.slice ae l.length ce := by rw [hce]
  rw [hae] at hby hB ⊢
  clear hae hce hNa hNb
  have hb1 := hby
  have hB1 := hB
  have cN : Box (∀ v w, By w v l → Calls Tryd.prog 22 #[.string k, v, .int .u64 d, .int .u64 b] w fun e w' => e = .returned (.tuple #[zeroE, .int .i64 (chk k.size l.length b)]) ∧ Ext w w') := ⟨fun v w hv => by obtain ⟨av, cv, rfl, _⟩ := hv.size; exact new_bad k av l.length cv d b w (by omega) (by omega) hb hc⟩
  have cK : Box (∀ w, Calls Tryd.prog 16 #[.string k, .slice ae l.length ce, .int .u64 b] w fun e w' => e = .returned (.int .i64 (chk k.size l.length b)) ∧ w = w') := ⟨fun w => refCheck_any k ae l.length ce b w (by omega) (by omega) hb⟩
  have cV : Box (∀ w, Calls Tryd.prog 23 #[.agg #[.string k, .slice ae l.length ce, .int .u64 d, .int .u64 b]] w fun e w' => e = .returned (.bool (fineN k.size l.length b)) ∧ Ext w w') := ⟨fun w => evalid_any k ae l.length ce d b w (by omega) (by omega) hb⟩
  have cC : Box (∀ v w, By w v l → _) := ⟨fun v w hv => copy_any k v d b l w hv⟩
  have cE : Box (∀ v w, By w v l → By w (.slice ae l.length ce) l → Calls Tryd.prog 21 #[.agg #[.string k, v, .int .u64 d, .int .u64 b], .agg #[.string k, .slice ae l.length ce, .int .u64 d, .int .u64 b]] w fun e w' => e = .returned (.bool true) ∧ Ext w w') := ⟨fun v w hv h2 => by
    have h := refEqual_any k k v (.slice ae l.length ce) l l d d b b w hv h2
    rw [show eqN k k l l d d b b = true by simp [eqN]] at h
    exact h⟩
  have cZ : Box (∀ w, Calls Tryd.prog 21 #[zeroE, zeroE] w fun e w' => e = .returned (.bool true) ∧ Ext w w') := ⟨fun w => refEqual_any ⟨#[]⟩ ⟨#[]⟩ (.slice none 0 0) (.slice none 0 0) [] [] 0 0 0 0 w (By.nil w) (By.nil w)⟩
  rw [show fineN k.size l.length b = false by unfold fineN; exact decide_eq_false hc] at cV
  have e1 : (chk k.size l.length b == 0) = false := by rw [beq_eq_false_iff_ne]; exact hc
  have e2 : (chk k.size l.length b != 0) = true := by rw [bne_iff_ne]; exact hc
  generalize chk k.size l.length b = y at *
  have hz1 : Ext W1 W1 := Below.refl _ _
  have hX1 := Box.mk hx
  obtain ⟨u0, u1, u2, u3, _⟩ := blk4 hB
  clear ht hc hx hk hm hd hb
  go_wp2_with (first
    | (at_builtin; obtain ⟨a5, c5, w2, happ, ho5, hb⟩ := copy_app W1 ae ce l hby hll; refine wpList_append_run rfl _ _ _ rfl _ _ _ _ rfl rfl happ ?_; have hz1 := hb; have hz2 : Ext w2 w2 := Below.refl _ _; have hB := Ext.blk hb hB; have hb5 := ho5.by (by omega); have hg5 : ∀ j, Value.ownBlock (.slice a5 l.length c5) = some j → W1.heap.size ≤ j ∧ j < w2.heap.size := fun j hj => World.ownsRow.lt ho5 j hj; clear happ; obtain ⟨u0, u1, u2, u3, _⟩ := blk4 hB)
    | (go_at_call 22; (with_reducible refine (cN.out _ _ hb5).mono ?_); rintro e w3 ⟨rfl, hb⟩; have hl3 : w2.heap.size ≤ w3.heap.size := hb.size; have hBo := Ext.blk hb hB; obtain ⟨u0', u1', u2', u3', _⟩ := blk4 hBo; have hlt0 := blk_lt hBo; have hz1 := Ext.alloc (Ext.trans' hz1 hb) (.cells zeroC 33); have hz2 := Ext.alloc (Ext.trans' hz2 hb) (.cells zeroC 33); have hB := Ext.blk (Ext.alloc (Below.refl _ _) (.cells zeroC 33)) (Ext.blk hb hB); have hb5 := By.ext (Ext.alloc (Below.refl _ _) (.cells zeroC 33)) (hb5.ext hb); have ho5 := (ho5.ext hb).ext (Ext.alloc (Below.refl _ _) (.cells zeroC 33)); have hX := newblk w3 (.cells zeroC 33); obtain ⟨u0, u1, u2, u3, _⟩ := blk4 hB)
    | (go_at_call 16; (with_reducible refine (cK.out _).mono ?_); rintro e w' ⟨rfl, rfl⟩)
    | (go_at_call 23; (with_reducible refine (cV.out _).mono ?_); rintro e w4 ⟨rfl, hb⟩; have hz1 := Ext.trans' hz1 hb; have hz2 := Ext.trans' hz2 hb; have hB := Ext.blk hb hB; have hX := Ext.blk hb hX; have hb5 := hb5.ext hb; have ho5 := ho5.ext hb; obtain ⟨u0, u1, u2, u3, _⟩ := blk4 hB)
    | (go_at_call 24; (with_reducible refine (cC.out _ _ hb5).mono ?_); rintro e w5 ⟨v7, rfl, ho7, hb⟩; obtain ⟨a7, c7, rfl⟩ := ho7.shape; have ho7 := (ho7.mono (C := w2.heap.size) hz2.size).ext (Ext.alloc (Below.refl _ _) (.cells #[.string k, .slice a7 l.length c7, .int .u64 d, .int .u64 b] 33)); have hz1 := Ext.alloc (Ext.trans' hz1 hb) (.cells #[.string k, .slice a7 l.length c7, .int .u64 d, .int .u64 b] 33); have hB := Ext.blk (Ext.alloc (Below.refl _ _) (.cells #[.string k, .slice a7 l.length c7, .int .u64 d, .int .u64 b] 33)) (Ext.blk hb hB); have hX := Ext.blk (Ext.alloc (Below.refl _ _) (.cells #[.string k, .slice a7 l.length c7, .int .u64 d, .int .u64 b] 33)) (Ext.blk hb hX); have hY := newblk w5 (.cells #[.string k, .slice a7 l.length c7, .int .u64 d, .int .u64 b] 33); have hl5 : w2.heap.size ≤ w5.heap.size := Nat.le_trans hz2.size hb.size; have hlX : w3.heap.size < w5.heap.size + 1 := blk_lt_alloc hX; have ho5 := (ho5.ext hb).ext (Ext.alloc (Below.refl _ _) (.cells #[.string k, .slice a7 l.length c7, .int .u64 d, .int .u64 b] 33)); clear u0 u1 u2 u3 hb5 u0' u1' u2' u3' hBo))
  generalize hw0 : w5.alloc (.cells #[.string k, .slice a7 l.length c7, .int .u64 d, .int .u64 b] 33) = w0 at *
  have hlw : w5.heap.size < w0.heap.size := blk_lt hY
  have HX := Box.mk hX
  have HY := Box.mk hY
  have HB := Box.mk hB1
  clear hX hY hB hB1 hw0
  go_loopw [10, 67] (fun _ i wr => ∃ k : Nat, k ≤ l.length ∧ i = .int .i64 k ∧ (∃ l' : List UInt8, Box (l'.length = l.length) ∧ wr.ownsRow W1.heap.size 5 1 (.slice a5 l.length c5) l.length ((nums l').map (Value.int .u8))) ∧ w0.grownBy wr (Value.ownBlock (.slice a5 l.length c5))) (fun _ i _ => l.length - (intOf i).toNat)
  case atStart => exact ⟨0, by omega, rfl, ⟨l, ⟨rfl⟩, ho5⟩, World.grownBy.refl _ _⟩
  case round =>
    obtain ⟨j, hj, rfl, ⟨l', hl', hown⟩, hgrow⟩ := hrel
    by_cases hlt : j < l.length
    · have hlt' : j < l'.length := by rw [hl'.out]; exact hlt
      obtain ⟨g, rfl⟩ : ∃ g, a5 = some ⟨g, 0, none⟩ := by
        rcases hown.2 with ⟨_, h0⟩ | ⟨g, cap, cur, hv, _⟩
        · omega
        · simp only [Value.slice.injEq] at hv; exact ⟨g, hv.1⟩
      have hcell : wr.cell? ⟨g, j, none⟩ = some (.int .u8 (l'[j].toNat : Int)) := by
        rw [hown.cellAt j (by omega)]; simp [nums, hlt']
      have hfz : wr.frozen? ⟨g, j, none⟩ = false := hown.frozenAt j
      have hst := Box.mk (hown.stored j (.int .u8 ((l'[j] + 1).toNat : Int)))
      have hset : Box (((nums l').map (Value.int .u8)).set j (.int .u8 ((l'[j] + 1).toNat : Int)) = (nums (l'.set j (l'[j] + 1))).map (Value.int .u8)) := ⟨by simp [nums, List.map_set]⟩
      have hlen2 : Box ((l'.set j (l'[j] + 1)).length = l.length) := ⟨by rw [List.length_set]; exact hl'.out⟩
      have hi := inc_u8 l'[j]
      have hw : IntKind.u8.wrap ((l'[j].toNat : Int) + 1) = ((l'[j] + 1).toNat : Int) := by rw [IntKind.wrap_u8]; exact hi
      have hG := Box.mk hgrow
      generalize l'.set j (l'[j] + 1) = l2 at *
      generalize ((l'[j] + 1).toNat : Int) = q at *
      generalize (l'[j].toNat : Int) = p at *
      clear hown hgrow
      go_wp2
      go_roundw
      case rel =>
        have h1 := hst.out.1
        rw [hset.out] at h1
        exact ⟨j + 1, by omega, by go_num, ⟨l2, hlen2, h1⟩, hG.out.trans hst.out.2⟩
      case measure => simp [intOf]; omega
    · obtain rfl : j = l.length := by omega
      have hx1 : Ext W1 wr := Below.grown hz1 hgrow hz1.size (fun i hi => (hg5 i hi).1)
      have hA := Ext.blk hx1 HB.out
      have hb1 := hb1.ext hx1
      have hX := (hgrow.block w3.heap.size (by omega) (fun e => by have := (hg5 _ e.symm).2; omega)).trans HX.out
      have hY := (hgrow.block w5.heap.size (by omega) (fun e => by have := (hg5 _ e.symm).2; omega)).trans HY.out
      have hb7 := (ho7.grownO hgrow (fun i hi => (hg5 i hi).2)).by (by omega)
      have hb6 := hb7
      have hx := Ext.trans' hX1.out hx1
      obtain ⟨u0, u1, u2, u3, _⟩ := blk4 hA
      obtain ⟨n0, n1, n2, n3, _⟩ := blk4 hX
      obtain ⟨o0, o1, o2, o3, _⟩ := blk4 hY
      clear hx1 hgrow hown hl' ho5 ho7 hz1 hz2
      go_wp2_with (first
        | (go_at_call 21; (with_reducible refine (cZ.out _).mono ?_); rintro e w6 ⟨rfl, hb⟩; have hx := Ext.trans' hx hb; have hA := Ext.blk hb hA; have hX := Ext.blk hb hX; have hY := Ext.blk hb hY; have hb1 := hb1.ext hb; have hb6 := hb6.ext hb; have hb7 := hb7.ext hb; obtain ⟨u0, u1, u2, u3, _⟩ := blk4 hA; obtain ⟨n0, n1, n2, n3, _⟩ := blk4 hX; obtain ⟨o0, o1, o2, o3, _⟩ := blk4 hY)
        | (go_at_call 21; (with_reducible refine (cE.out _ _ hb7 hb1).mono ?_); rintro e w6 ⟨rfl, hb⟩; have hx := Ext.trans' hx hb; have hA := Ext.blk hb hA; have hX := Ext.blk hb hX; have hY := Ext.blk hb hY; have hb1 := hb1.ext hb; have hb6 := hb6.ext hb; have hb7 := hb7.ext hb; obtain ⟨u0, u1, u2, u3, _⟩ := blk4 hA; obtain ⟨n0, n1, n2, n3, _⟩ := blk4 hX; obtain ⟨o0, o1, o2, o3, _⟩ := blk4 hY)
        | (go_at_call 9; (with_reducible refine (ck.out _ hx).mono ?_); rintro e w6 ⟨rfl, hb⟩; have hx := Ext.trans' hx hb; have hA := Ext.blk hb hA; have hX := Ext.blk hb hX; have hY := Ext.blk hb hY; have hb1 := hb1.ext hb; have hb6 := hb6.ext hb; have hb7 := hb7.ext hb; obtain ⟨u0, u1, u2, u3, _⟩ := blk4 hA; obtain ⟨n0, n1, n2, n3, _⟩ := blk4 hX; obtain ⟨o0, o1, o2, o3, _⟩ := blk4 hY))
      go_ret
      exact ⟨rfl, hx⟩

theorem lawEntryMakes_walk (v : Value) (z : Int) (W : World) (h : EntArg W v) (wz : (Lit.int .i64 z).wf = true) (ht : Env W) :
    Calls Tryd.prog 6 #[v, .int .i64 z] W fun e W' => e = .returned (.bool true) ∧ Below W.heap.size W W' := by
  obtain ⟨k, x, d0, b0, rfl, hk, hxv, hd, hb⟩ := h
  obtain ⟨d, rfl, ed⟩ := nat_u64 hd
  obtain ⟨b, rfl, eb⟩ := nat_u64 hb
  obtain ⟨a, m, c, rfl, hm, hy⟩ := by_of_ints hxv
  cases hn : sm k.size m with
  | false => exact makes_big k a m c d b z W hk hm ed eb ht hn
  | true =>
    have hs : k.size ≤ 600 ∧ m ≤ 600 := by unfold sm at hn; simp at hn; omega
    by_cases hz : 65530 ≤ z ∧ z ≤ 65540
    · obtain ⟨N, rfl⟩ := Int.eq_ofNat_of_zero_le (by omega : 0 ≤ z)
      by_cases hc : chk k.size N b = 0
      · exact makes_yesA k a m c d b N W hk hm ed eb ht hs.1 hn (by omega) hc
      · exact makes_noA k a m c d b N W hk hm ed eb ht hs.1 hn (by omega) hc
    · obtain ⟨l, hl, hby⟩ := hy (by omega)
      subst hl
      by_cases hc : chk k.size l.length b = 0
      · exact makes_yesB k a c d b l z W hk hm ed eb ht hby hs.1 hs.2 hn hz hc
      · exact makes_noB k a c d b l z W hk hm ed eb ht hby hs.1 hs.2 hn hz hc
end Go.Proofs.YtboecabipkkcgaaDoor
